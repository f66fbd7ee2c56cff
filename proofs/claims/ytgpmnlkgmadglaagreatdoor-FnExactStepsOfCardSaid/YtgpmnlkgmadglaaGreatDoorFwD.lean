/- Part of a proof that a law returns true for every input. No condition. -/
import Derived.Test.YtgpmnlkgmadglaaGreatDoorFwC
import Derived.Test.YtgpmnlkgmadglaaGreatDoorFwA
import Derived.Laws.IdiomStrings
import Derived.Laws.Strings
import Derived.LaidEql
import Derived.WideLaws
import Derived.Laws.StructEq
namespace Go.cY
section
variable {C : b4} {w0 w : World} {F0 X F : Nat → Prop} {S : Nat → Nat → Prop} {s s1 : al} {aB : Nat → Value} {av : I}
theorem nE {k : IntKind} {n : Int} {v : Value} {aR : Nat → Prop} (h : aI w F s aB (.int k n) v aR) : v = .int k n := by
 have bE := (aI.cJ rfl).1 h
 rw [ay, hj bE.1] at bE
 simpa using bE.2
theorem r3 {b : Bool} {v : Value} {aR : Nat → Prop} (h : aI w F s aB (.bool b) v aR) : v = .bool b := by
 have bE := (aI.cJ rfl).1 h
 rw [ay, hj bE.1] at bE
 simpa using bE.2
theorem nF {b : List UInt8} {v : Value} {aR : Nat → Prop} (h : aI w F s aB (.str b) v aR) : v = .string ⟨⟨b⟩⟩ := by
 have bE := (aI.cJ rfl).1 h
 rw [ay, hj bE.1] at bE
 simpa using bE.2
theorem J1 {v : Value} {aR : Nat → Prop} (h : aI w F s aB .da v aR) : v = .pointer none := by
 have bE := (aI.cJ rfl).1 h
 rw [ay, hj bE.1] at bE
 simpa using bE.2
theorem q6 {v : Value} {aR : Nat → Prop} (h : aI w F s aB .bo v aR) : v = .slice none 0 0 := by
 have bE := (aI.cJ rfl).1 h
 rw [ay, hj bE.1] at bE
 simpa using bE.2
theorem J2 {v : Value} {aR : Nat → Prop} (h : aI w F s aB .eT v aR) : ∃ b, v = .bool b := by
 have bE := (aI.cJ rfl).1 h
 rw [ay, hj bE.1] at bE
 simpa using bE.2
theorem of_int (k : IntKind) (n : Int) : aI w F s aB (.int k n) (.int k n) (fun _ => False) := (aI.cJ rfl).2 ⟨rfl, by rw [ay]; rfl⟩
theorem of_bool (b : Bool) : aI w F s aB (.bool b) (.bool b) (fun _ => False) := (aI.cJ rfl).2 ⟨rfl, by rw [ay]; rfl⟩
theorem oa (b : List UInt8) : aI w F s aB (.str b) (.string ⟨⟨b⟩⟩) (fun _ => False) := (aI.cJ rfl).2 ⟨rfl, by rw [ay]; rfl⟩
theorem Fo (b : Bool) : aI w F s aB .eT (.bool b) (fun _ => False) := (aI.cJ rfl).2 ⟨rfl, by rw [ay]; exact ⟨b, rfl⟩⟩
def jt (op : BinOp) (k : IntKind) (a : Int) (cL : IntKind) (b : Int) : Option I :=
 match op with
 | .shl => if b < 0 then none else some (.int k (k.wrap (a * 2 ^ (min b.toNat k.bits))))
 | .shr => if b < 0 then none else some (.int k (a.fdiv (2 ^ (min b.toNat k.bits))))
 | .add => if k = cL then some (.int k (k.wrap (a + b))) else none
 | .sub => if k = cL then some (.int k (k.wrap (a - b))) else none
 | .mul => if k = cL then some (.int k (k.wrap (a * b))) else none
 | .quo => if k = cL ∧ b ≠ 0 then some (.int k (k.wrap (a.tdiv b))) else none
 | .rem => if k = cL ∧ b ≠ 0 then some (.int k (a.tmod b)) else none
 | .eql => if k = cL then some (.bool (a == b)) else none
 | .neq => if k = cL then some (.bool (a != b)) else none
 | .lss => if k = cL then some (.bool (decide (a < b))) else none
 | .leq => if k = cL then some (.bool (decide (a ≤ b))) else none
 | .gtr => if k = cL then some (.bool (decide (b < a))) else none
 | .geq => if k = cL then some (.bool (decide (b ≤ a))) else none
 | .and => if k = cL then some (.int k (bitsOf .and k a b)) else none
 | .or => if k = cL then some (.int k (bitsOf .or k a b)) else none
 | .xor => if k = cL then some (.int k (bitsOf .xor k a b)) else none
 | .andNot => if k = cL then some (.int k (bitsOf .andNot k a b)) else none
def nG (op : BinOp) (a b : List UInt8) : Option I :=
 match op with
 | .add => if a.length + b.length ≤ 9223372036854775807 then some (.str (a ++ b)) else none
 | .eql => some (.bool (a == b))
 | .neq => some (.bool !(a == b))
 | .lss => some (.bool (Op.bytesLess a b))
 | .leq => some (.bool (Op.bytesLess a b || a == b))
 | .gtr => some (.bool !(Op.bytesLess a b || a == b))
 | .geq => some (.bool !(Op.bytesLess a b))
 | _ => none
def kd (s : al) : I → Option (Option Bool)
 | .bo => some (some true)
 | .slice xs => some (if xs = [] then none else some false)
 | .h x q => match I.sub q (s x) with
   | some (.au _ xs) => some (if xs = [] then none else some false)
   | _ => none
 | _ => none
def lS (s : al) : I → Option Bool
 | .da => some true
 | .ref _ => some false
 | .h x q => match I.sub q (s x) with
   | some (.aU _) => some false
   | _ => none
 | _ => none
def pj (neg : Bool) : Option Bool → I
 | some b => .bool (b != neg)
 | none => .eT
def structEq (P : Program) (T : TypeId) : Bool := !P.stoodInHeld T && !P.eqGuardType P.depth T && (P.fieldsOf T).toList.all fun f => decide (f.name ≠ "_")
def ob (C : b4) : List (TypeId × Nat) → Nat → List I → List I → Option Bool
 | [], _, [], [] => some true
 | (ka, off) :: ax, n, d :: ds, e :: es => if off = n then (match (C.T ka).k, d, e with
   | .int k, .int bt a, .int b0 b => if bt = k ∧ b0 = k then (ob C ax (n + 1) ds es).map fun r => a == b && r else none
   | .bool, .bool a, .bool b => (ob C ax (n + 1) ds es).map fun r => a == b && r
   | .str, .str a, .str b => (ob C ax (n + 1) ds es).map fun r => a == b && r
   | _, _, _ => none) else none
 | _, _, _, _ => none
def cf (C : b4) (s : al) (op : BinOp) (T : TypeId) (x y : I) : Option I :=
 match x, y with
 | .int k a, .int cL b => jt op k a cL b
 | .str a, .str b => nG op a b
 | .bool a, .bool b => match op, (C.T T).k with
   | .eql, .bool => some (.bool (a == b))
   | .neq, .bool => some (.bool !(a == b))
   | _, _ => none
 | .agg ds, .agg es => match op, (C.T T).k with
   | .eql, .struct ax => if structEq C.P T = true then (ob C ax 0 ds es).map fun b => .bool b else none
   | .neq, .struct ax => if structEq C.P T = true then (ob C ax 0 ds es).map fun b => .bool !b else none
   | _, _ => none
 | x, .bo => match op, (C.T T).k with
   | .eql, .slice _ => (kd s x).map (pj false)
   | .neq, .slice _ => (kd s x).map (pj true)
   | _, _ => none
 | x, .da => match op, (C.T T).k with
   | .eql, .ptr _ => (lS s x).map fun b => .bool b
   | .neq, .ptr _ => (lS s x).map fun b => .bool !b
   | _, _ => none
 | _, _ => none
theorem R9 {P : Program} {op : BinOp} {T : TypeId} {k cL : IntKind} {a b : Int} (he : jt op k a cL b = some av) (w : World) :
  ∃ v, (binOp op T (.int k a) (.int cL b)).run P w = .ok v w ∧ aI w F s aB av v (fun _ => False) := by
 unfold jt at he
 cases op <;> simp only at he <;> split at he <;> first | (cases he; done) | skip
 all_goals
  rename_i ao
  simp only [Option.some.injEq] at he
  subst he
 all_goals first
  | (subst ao; simp only [binOp_add, binOp_sub, binOp_mul, binOp_eql, binOp_neq, binOp_lss, binOp_leq, binOp_gtr, binOp_geq, binOp_and, binOp_or, binOp_xor, binOp_andNot, Op.intArith, Op.intBits, Sem.run_pure, Result.ok.injEq, and_true, exists_eq_left']
     first | exact of_int _ _ | exact of_bool _)
  | (obtain ⟨rfl, bn⟩ := ao
     simp only [binOp_quo, binOp_rem, Op.intDiv, bn, if_false, Sem.run_pure, Result.ok.injEq, and_true, exists_eq_left']
     exact of_int _ _)
  | (simp only [binOp_shl, binOp_shr, Op.shift, ao, if_false, Sem.run_pure, Result.ok.injEq, and_true, exists_eq_left']
     exact of_int _ _)
theorem x6 (a : List UInt8) : (⟨⟨a⟩⟩ : ByteArray).toList = a := ByteArray.toList_eq _
theorem R_ (a b : List UInt8) : (⟨⟨a⟩⟩ : ByteArray) ++ (⟨⟨b⟩⟩ : ByteArray) = ⟨⟨a ++ b⟩⟩ := by
 apply ByteArray.ext
 simp [ByteArray.data_append]
theorem Sa {P : Program} {op : BinOp} {T : TypeId} {a b : List UInt8} (he : nG op a b = some av) (w : World) :
  ∃ v, (binOp op T (.string ⟨⟨a⟩⟩) (.string ⟨⟨b⟩⟩)).run P w = .ok v w ∧ aI w F s aB av v (fun _ => False) := by
 have aa : ∀ op, binOp op T (.string ⟨⟨a⟩⟩) (.string ⟨⟨b⟩⟩) = Op.stringOp op ⟨⟨a⟩⟩ ⟨⟨b⟩⟩ := by intro op; cases op <;> rfl
 rw [aa]
 unfold nG at he
 cases op <;> simp only [Option.some.injEq] at he <;> first | (cases he; done) | skip
 case add =>
  split at he
  ·rename_i hl
   simp only [Option.some.injEq] at he; subst he
   have ab : ((ByteArray.size ⟨⟨a⟩⟩ + ByteArray.size ⟨⟨b⟩⟩ : Nat) : Int) ≤ 9223372036854775807 := by
    show ((a.length + b.length : Nat) : Int) ≤ _
    omega
   refine ⟨.string ⟨⟨a ++ b⟩⟩, ?_, oa _⟩
   simp only [Op.stringOp, IntKind.max_i64]
   rw [if_neg (by omega), R_]
   rfl
  ·cases he
 all_goals
  subst he
  simp only [Op.stringOp, x6, Sem.run_pure, Result.ok.injEq, and_true, exists_eq_left']
  exact of_bool _
theorem Fp (h : bM w0 F0 X F S s aB w) {v : Value} {y : Nat} {q : List Nat} (aK : aI w F s aB (.h y q) v (fun _ => False)) {sz : Nat} {xs : List I} (ai : I.sub q (s y) = some (.au sz xs)) :
  (xs = [] ∧ ∃ a, v = .slice a 0 0) ∨ ∃ b cap cur e fr, v = .slice (some ⟨b, 0, none⟩) xs.length cap ∧ w.heap[b]? = some (.cells cur e fr) ∧ rV fr cur.size ∧ xs.length ≤ cap ∧ cap ≤ maxLen ∧ cur.size = cap * sz ∧ (∀ d ∈ xs, d.wd = sz) ∧
   ∃ aR, bf w F xs (cur.toList.take (xs.length * sz)) aR ∧ (∀ c, aR c → S y c) ∧ S y b := by
 rw [aI] at aK
 obtain ⟨cM, a, g1, g2, g3⟩ := aK _ ai rfl
 have ab : Value.gJ v = true := g3
 rw [hj ab] at g2; subst g2
 have aq := h.dp y
 rw [aI.cJ (h9 ai (.inl rfl))] at aq
 obtain ⟨gp, cN, en, fq, k0, bt, b0, dK, de, dI⟩ := ctx q (s y) (cp (aB y)) (S y) none _ aq.2 ai
 rw [k0] at g1
 simp only [Option.some.injEq, Prod.mk.injEq, true_and] at g1
 obtain ⟨rfl, rfl⟩ := g1
 rw [ay] at de
 rcases de with ⟨rfl, a2, ag⟩ | ⟨b, cap, cur, aZ, fr, dB, aT, b2, cI, bZ, bO, fF, mg, jg, kI, eo, ea⟩
 ·simp at ag; exact .inl ⟨rfl, _, ag⟩
 ·simp at aT
  exact .inr ⟨b, cap, cur, aZ, fr, aT, cI, bZ, bO, fF, mg, jg, dB, kI, fun c ao => b0 _ (eo c ao), b0 _ b2⟩
theorem J3 (h : bM w0 F0 X F S s aB w) {v : Value} {y : Nat} {q : List Nat} (aK : aI w F s aB (.h y q) v (fun _ => False)) {d : I} (ai : I.sub q (s y) = some (.aU d)) :
  ∃ b cur e fr, v = .pointer (some ⟨b, 0, none⟩) ∧ w.heap[b]? = some (.cells cur e fr) := by
 rw [aI] at aK
 obtain ⟨cM, a, g1, g2, g3⟩ := aK _ ai rfl
 have ab : Value.gJ v = true := g3
 rw [hj ab] at g2; subst g2
 have aq := h.dp y
 rw [aI.cJ (h9 ai (.inl rfl))] at aq
 obtain ⟨gp, cN, en, fq, k0, bt, b0, dK, de, dI⟩ := ctx q (s y) (cp (aB y)) (S y) none _ aq.2 ai
 rw [k0] at g1
 simp only [Option.some.injEq, Prod.mk.injEq, true_and] at g1
 obtain ⟨rfl, rfl⟩ := g1
 rw [ay] at de
 obtain ⟨b, cur, aZ, fr, dB, aT, b2, cI, _⟩ := de
 simp at aT
 exact ⟨b, cur, aZ, fr, aT, cI⟩
theorem J4 {P : Program} {T e : TypeId} (a1 : P.underlying T = some (.slice e)) (w : World) : ∀ d, (Op.equalIn (d + 1) T (.slice none 0 0) (.slice none 0 0)).run P w = .ok true w ∧
  ∀ a n c, (Op.equalIn (d + 1) T (.slice (some a) n c) (.slice none 0 0)).run P w = .ok false w := by
 intro d
 refine ⟨by simp [Op.equalIn, run_underlying a1], fun a n c => by simp [Op.equalIn, run_underlying a1]⟩
theorem J5 {P : Program} {T e : TypeId} (a1 : P.underlying T = some (.pointer e)) (w : World) : ∀ d, (Op.equalIn (d + 1) T (.pointer none) (.pointer none)).run P w = .ok true w ∧
  ∀ a, (Op.equalIn (d + 1) T (.pointer (some a)) (.pointer none)).run P w = .ok false w := by
 intro d
 refine ⟨by simp [Op.equalIn, run_underlying a1], fun a => by simp [Op.equalIn, run_underlying a1]⟩
theorem J6 {P : Program} {T : TypeId} (a1 : P.underlying T = some .bool) (w : World) : ∀ d a b, (Op.equalIn (d + 1) T (.bool a) (.bool b)).run P w = .ok (a == b) w := by
 intro d a b
 simp [Op.equalIn, run_underlying a1]
theorem J7 (h : bM w0 F0 X F S s aB w) {x : I} {v : Value} (aK : aI w F s aB x v (fun _ => False)) {T e : TypeId} {r : Option Bool} (aW : kd s x = some r) (a1 : C.P.underlying T = some (.slice e)) :
  ∃ b, (Op.equal T v (.slice none 0 0)).run C.P w = .ok b w ∧ (∀ fX, r = some fX → fX = b) ∧ Value.gJ v = true ∧ ∃ a n c, v = .slice a n c := by
 have aN := fun a n c => (J4 a1 w 9999).2 a n c
 have gh := (J4 a1 w 9999).1
 cases x with
 | bo =>
   have := q6 aK; subst this
   simp [kd] at aW; subst aW
   exact ⟨true, gh, by simp, rfl, _, _, _, rfl⟩
 | slice xs =>
   have bE := (aI.cJ rfl).1 aK
   rw [ay, hj bE.1] at bE
   simp only [kd, Option.some.injEq] at aW
   obtain ⟨_, ⟨rfl, a, c, ag, _, tm⟩ | ⟨b, o, cap, eu, sz, ag, aF⟩⟩ := bE
   ·simp at ag aW; subst ag; subst aW
    cases a with
    | none =>
      have := tm rfl; subst this
      exact ⟨true, gh, by simp, rfl, _, _, _, rfl⟩
    | some a => exact ⟨false, aN _ _ _, by simp, rfl, _, _, _, rfl⟩
   ·simp at ag; subst ag
    refine ⟨false, aN _ _ _, ?_, rfl, _, _, _, rfl⟩
    subst aW
    split <;> simp
 | h y q =>
   simp only [kd] at aW
   split at aW
   ·rename_i sz xs ai
    simp only [Option.some.injEq] at aW
    rcases Fp h aK ai with ⟨rfl, a, rfl⟩ | ⟨b, cap, cur, aZ, fr, rfl, _⟩
    ·simp at aW; subst aW
     cases a with
     | none => exact ⟨true, gh, by simp, rfl, _, _, _, rfl⟩
     | some a => exact ⟨false, aN _ _ _, by simp, rfl, _, _, _, rfl⟩
    ·refine ⟨false, aN _ _ _, ?_, rfl, _, _, _, rfl⟩
     subst aW
     split <;> simp
   ·cases aW
 | _ => simp [kd] at aW
theorem J8 (h : bM w0 F0 X F S s aB w) {x : I} {v : Value} (aK : aI w F s aB x v (fun _ => False)) {T e : TypeId} {r : Bool} (aW : lS s x = some r) (a1 : C.P.underlying T = some (.pointer e)) :
  (Op.equal T v (.pointer none)).run C.P w = .ok r w ∧ ∃ a, v = .pointer a := by
 have aN := fun a => (J5 a1 w 9999).2 a
 have gh := (J5 a1 w 9999).1
 cases x with
 | da =>
   have := J1 aK; subst this
   simp [lS] at aW; subst aW
   exact ⟨gh, _, rfl⟩
 | ref d =>
   have bE := (aI.cJ rfl).1 aK
   rw [ay, hj bE.1] at bE
   simp [lS] at aW; subst aW
   obtain ⟨_, b, o, eu, ag, _⟩ := bE
   simp at ag; subst ag
   exact ⟨aN _, _, rfl⟩
 | h y q =>
   simp only [lS] at aW
   split at aW
   ·rename_i d ai
    simp only [Option.some.injEq] at aW; subst aW
    obtain ⟨b, cur, e, fr, rfl, _⟩ := J3 h aK ai
    exact ⟨aN _, _, rfl⟩
   ·cases aW
 | _ => simp [lS] at aW
theorem Sb (bp : C.eP) : ∀ (ax : List (TypeId × Nat)) (gs : List Field) (n : Nat) (ds es : List I) (r : Bool) (hk l2 cv cw : List Value) (xs ck : Array Value) (cc dB : Nat → Prop),
  gs.map (fun g => (g.type, g.offset)) = ax → (gs.all fun f => decide (f.name ≠ "_")) = true → ob C ax n ds es = some r → bf w F ds cv cc → bf w F es cw dB → xs.toList = hk ++ cv → hk.length = n → ck.toList = l2 ++ cw → l2.length = n →
  ∀ m, (Op.eqFields (m + 1) xs ck gs).run C.P w = .ok r w := by
 intro ax
 induction ax with
 | nil =>
   intro gs n ds es r hk l2 cv cw xs ck cc dB bA bc he af ag aq hl hy Fq m
   have : gs = [] := by simpa using bA
   subst this
   cases ds <;> cases es <;> simp [ob] at he
   subst he
   simp [Op.eqFields]
 | cons p ax ih =>
   obtain ⟨ka, off⟩ := p
   intro gs n ds es r hk l2 cv cw xs ck cc dB bA bc he af ag aq hl hy Fq m
   cases gs with
   | nil => simp at bA
   | cons g gs =>
     simp only [List.map_cons, List.cons.injEq, Prod.mk.injEq] at bA
     obtain ⟨⟨rfl, rfl⟩, bA⟩ := bA
     simp only [List.all_cons, Bool.and_eq_true, decide_eq_true_eq] at bc
     cases ds with
     | nil => simp [ob] at he
     | cons d ds =>
     cases es with
     | nil => simp [ob] at he
     | cons e es =>
     simp only [ob] at he
     split at he
     ·rename_i p5
      rw [bf] at af ag
      obtain ⟨R, a2, mD, vr, rfl, fD, hr, h8, J9, gz⟩ := af
      obtain ⟨hN, gT, ayH, Sc, rfl, gC, f_, hO, hP, mh⟩ := ag
      have step : ∀ (x y : Value) (z : Bool), (C.T g.type).flat = true → R = [x] → hN = [y] → (∀ m, (Op.equalIn (m + 1) g.type x y).run C.P w = .ok z w) → ∀ gU, ob C ax (n + 1) ds es = some gU →
        (Op.eqFields (m + 1) xs ck (g :: gs)).run C.P w = .ok (z && gU) w := by
       intro x y z iu Sd Se heq gU ez
       subst Sd; subst Se
       have Sf : xs[g.offset]? = some x := by
        rw [← Array.getElem?_toList, aq, p5, ← hl, List.getElem?_append_right (Nat.le_refl _)]; simp
       have Sg : ck[g.offset]? = some y := by
        rw [← Array.getElem?_toList, hy, p5, ← Fq, List.getElem?_append_right (Nat.le_refl _)]; simp
       have an := ih gs (n + 1) ds es gU (hk ++ [x]) (l2 ++ [y]) a2 gT xs ck vr Sc bA bc.2 ez hr f_ (by rw [aq]; simp) (by simp [hl]) (by rw [hy]; simp) (by simp [Fq]) m
       unfold Op.eqFields
       rw [if_pos bc.1]
       simp only [part, Sem.run_bind, Fl bp iu, Result.andThen_ok, Bool.false_eq_true, if_false, Sf, Sg, Sem.run_pure, heq]
       cases z
       ·simp
       ·simpa using an
      split at he
      ·rename_i k bt a b0 b ar
       split at he
       ·rename_i Sh
        obtain ⟨rfl, rfl⟩ := Sh
        rw [ay] at fD gC
        simp only [Option.map_eq_some_iff] at he
        obtain ⟨gU, ez, rfl⟩ := he
        obtain ⟨i, x7, J_, aN, aZ, aT, b2, cI, bZ, bO⟩ := bp.info (gq ar (by simp))
        rw [ar] at bO
        have tn := x2 bO
        subst tn
        exact step _ _ _ (by simp [gK.flat, ar]) fD gC (fun m => run_equalIn_int w m g.type _ _ a b bZ) gU ez
       ·cases he
      ·rename_i a b ar
       rw [ay] at fD gC
       simp only [Option.map_eq_some_iff] at he
       obtain ⟨gU, ez, rfl⟩ := he
       obtain ⟨i, x7, J_, aN, aZ, aT, b2, cI, bZ, bO⟩ := bp.info (gq ar (by simp))
       rw [ar] at bO
       have tn := Fg bO
       subst tn
       exact step _ _ _ (by simp [gK.flat, ar]) fD gC (fun m => run_equalIn_bool' w m g.type a b bZ) gU ez
      ·rename_i a b ar
       rw [ay] at fD gC
       simp only [Option.map_eq_some_iff] at he
       obtain ⟨gU, ez, rfl⟩ := he
       obtain ⟨i, x7, J_, aN, aZ, aT, b2, cI, bZ, bO⟩ := bp.info (gq ar (by simp))
       rw [ar] at bO
       have tn := p4 bO
       subst tn
       refine step _ _ (a == b) (by simp [gK.flat, ar]) fD gC (fun m => ?_) gU ez
       rw [run_equalIn_string w m g.type _ _ bZ, x6, x6]
      ·cases he
     ·cases he
theorem Ka (bp : C.eP) {T : TypeId} {ax : List (TypeId × Nat)} (ar : (C.T T).k = .struct ax) {ds es : List I} {h_ jf : Value} {cc dB : Nat → Prop} {r : Bool} (aq : aI w F s aB (.agg ds) h_ cc) (hy : aI w F s aB (.agg es) jf dB)
  (cG : structEq C.P T = true) (he : ob C ax 0 ds es = some r) (op : BinOp) (x8 x9 : Operand) :
  (eqGuard op T x8 x9 h_ jf).run C.P w = .ok () w ∧ (Op.equal T h_ jf).run C.P w = .ok r w := by
 obtain ⟨i, d, z, aN, aZ, aT, b2, cI, bZ, bO⟩ := bp.info (gq ar (by simp))
 rw [ar] at bO
 obtain ⟨gs, rfl, fF⟩ := x1 bO
 have x_ : C.P.fieldsOf T = gs := by simp [Program.fieldsOf, bZ]
 simp only [structEq, Bool.and_eq_true, Bool.not_eq_true', x_] at cG
 obtain ⟨⟨gC, f_⟩, hO⟩ := cG
 obtain ⟨⟨xs, rfl⟩, vt⟩ := (aI.cJ rfl).1 aq
 obtain ⟨⟨ck, rfl⟩, tg⟩ := (aI.cJ rfl).1 hy
 rw [ay] at vt tg
 constructor
 ·cases op <;> simp [eqGuard, f_]
 ·show (Op.equalIn (9999 + 1) T _ _).run C.P w = _
  rw [run_equalIn_struct w 9999 T xs ck (by rw [x_]; exact bZ) gC, x_]
  exact Sb bp ax gs.toList 0 ds es r [] [] _ _ xs ck cc dB fF hO he vt tg rfl rfl rfl rfl 9998
theorem Si (bp : C.eP) (h : bM w0 F0 X F S s aB w) {op : BinOp} {T : TypeId} {x y : I} {h_ jf : Value} (x8 x9 : Operand) (aq : aI w F s aB x h_ (fun _ => False)) (hy : aI w F s aB y jf (fun _ => False))
  (he : cf C s op T x y = some av) : Good C w0 F0 X aB w (do eqGuard op T x8 x9 h_ jf; binOp op T h_ jf) av s := by
 unfold cf at he
 split at he
 ·have := nE aq; subst this
  have := nE hy; subst this
  obtain ⟨v, af, ag⟩ := R9 (P := C.P) (T := T) he w
  refine Good.same h (v := v) ?_ ?_ ag
  ·rw [eqGuard_at_int]; exact af
  ·revert he; unfold jt; cases op <;> simp only <;> split <;> simp <;> (rintro rfl; rfl)
 ·have := nF aq; subst this
  have := nF hy; subst this
  obtain ⟨v, af, ag⟩ := Sa (P := C.P) (T := T) he w
  refine Good.same h (v := v) ?_ ?_ ag
  ·rw [eqGuard_at_string]; exact af
  ·revert he; unfold nG; cases op <;> simp only <;> (try split) <;> simp <;> (try (rintro rfl; rfl))
 ·have := r3 aq; subst this
  have := r3 hy; subst this
  split at he
  ·rename_i ar
   simp only [Option.some.injEq] at he; subst he
   obtain ⟨i, d, z, aN, aZ, aT, b2, cI, bZ, bO⟩ := bp.info (gq ar (by simp))
   rw [ar] at bO
   have := Fg bO; subst this
   refine Good.same h ?_ rfl (of_bool _)
   rw [eqGuard_at_bool]
   simp [binOp, Op.equal, Op.maxDepth, J6 bZ w 9999]
  ·rename_i ar
   simp only [Option.some.injEq] at he; subst he
   obtain ⟨i, d, z, aN, aZ, aT, b2, cI, bZ, bO⟩ := bp.info (gq ar (by simp))
   rw [ar] at bO
   have := Fg bO; subst this
   refine Good.same h ?_ rfl (of_bool _)
   rw [eqGuard_at_bool]
   simp [binOp, Op.equal, Op.maxDepth, J6 bZ w 9999]
  ·cases he
 ·split at he
  ·rename_i ax ar
   split at he
   ·rename_i cG
    simp only [Option.map_eq_some_iff] at he
    obtain ⟨r, aW, rfl⟩ := he
    obtain ⟨g1, g2⟩ := Ka bp ar aq hy cG aW .eql x8 x9
    obtain ⟨⟨xs, rfl⟩, _⟩ := (aI.cJ rfl).1 aq
    obtain ⟨⟨ck, rfl⟩, _⟩ := (aI.cJ rfl).1 hy
    exact Good.same h (by simp [g1, binOp, g2]) rfl (of_bool _)
   ·cases he
  ·rename_i ax ar
   split at he
   ·rename_i cG
    simp only [Option.map_eq_some_iff] at he
    obtain ⟨r, aW, rfl⟩ := he
    obtain ⟨g1, g2⟩ := Ka bp ar aq hy cG aW .neq x8 x9
    obtain ⟨⟨xs, rfl⟩, _⟩ := (aI.cJ rfl).1 aq
    obtain ⟨⟨ck, rfl⟩, _⟩ := (aI.cJ rfl).1 hy
    exact Good.same h (by simp [g1, binOp, g2]) rfl (of_bool _)
   ·cases he
  ·cases he
 ·have := q6 hy; subst this
  split at he
  ·rename_i e ar
   simp only [Option.map_eq_some_iff] at he
   obtain ⟨r, aW, rfl⟩ := he
   obtain ⟨i, d, z, aN, aZ, aT, b2, cI, bZ, bO⟩ := bp.info (gq ar (by simp))
   rw [ar] at bO
   have := lR bO; subst this
   obtain ⟨b, af, ag, aF, a0, bY, pa, rfl⟩ := J7 h aq aW bZ
   refine Good.same h (v := .bool b) ?_ ?_ ?_
   ·rw [eqGuard_at_slice]
    simp [binOp, af]
   ·cases r <;> rfl
   ·cases r with
    | none => exact Fo b
    | some fX => have := ag fX rfl; subst this; simp only [pj, Bool.bne_false]; exact of_bool _
  ·rename_i e ar
   simp only [Option.map_eq_some_iff] at he
   obtain ⟨r, aW, rfl⟩ := he
   obtain ⟨i, d, z, aN, aZ, aT, b2, cI, bZ, bO⟩ := bp.info (gq ar (by simp))
   rw [ar] at bO
   have := lR bO; subst this
   obtain ⟨b, af, ag, aF, a0, bY, pa, rfl⟩ := J7 h aq aW bZ
   refine Good.same h (v := .bool !b) ?_ ?_ ?_
   ·rw [eqGuard_at_slice]
    simp [binOp, af]
   ·cases r <;> rfl
   ·cases r with
    | none => exact Fo _
    | some fX => have := ag fX rfl; subst this; simp only [pj, Bool.bne_true]; exact of_bool _
  ·cases he
 ·have := J1 hy; subst this
  split at he
  ·rename_i e ar
   simp only [Option.map_eq_some_iff] at he
   obtain ⟨r, aW, rfl⟩ := he
   obtain ⟨i, d, z, aN, aZ, aT, b2, cI, bZ, bO⟩ := bp.info (gq ar (by simp))
   rw [ar] at bO
   have := JS bO; subst this
   obtain ⟨af, a0, rfl⟩ := J8 h aq aW bZ
   refine Good.same h (v := .bool r) ?_ rfl (of_bool _)
   rw [eqGuard_at_pointer]
   simp [binOp, af]
  ·rename_i e ar
   simp only [Option.map_eq_some_iff] at he
   obtain ⟨r, aW, rfl⟩ := he
   obtain ⟨i, d, z, aN, aZ, aT, b2, cI, bZ, bO⟩ := bp.info (gq ar (by simp))
   rw [ar] at bO
   have := JS bO; subst this
   obtain ⟨af, a0, rfl⟩ := J8 h aq aW bZ
   refine Good.same h (v := .bool !r) ?_ rfl (of_bool _)
   rw [eqGuard_at_pointer]
   simp [binOp, af]
  ·cases he
 ·cases he
end
section
variable {C : b4} {w0 w : World} {F0 X F : Nat → Prop} {S : Nat → Nat → Prop} {s s1 : al} {aB : Nat → Value} {av : I}
def un (op : UnOp) (x : I) : Option I :=
 match op, x with
 | .not, .bool b => some (.bool !b)
 | .not, .eT => some .eT
 | .neg, .int k n => some (.int k (k.wrap (0 - n)))
 | _, _ => none
theorem Sj (h : bM w0 F0 X F S s aB w) {op : UnOp} {x : I} {v : Value} (aK : aI w F s aB x v (fun _ => False)) (he : un op x = some av) : Good C w0 F0 X aB w (Op.unary op v) av s := by
 unfold un at he
 split at he <;> first | (cases he; done) | (simp only [Option.some.injEq] at he; subst he)
 ·have := r3 aK; subst this
  exact Good.same h rfl rfl (of_bool _)
 ·obtain ⟨b, rfl⟩ := J2 aK
  exact Good.same h rfl rfl (Fo _)
 ·have := nE aK; subst this
  exact Good.same h rfl rfl (of_int _ _)
def fs (s : al) (x : I) : Option I :=
 match x with
 | .ref d => some (.ref d)
 | .fn f c => some (.fn f c)
 | .h y q => match I.sub q (s y) with
   | some (.aU _) => some (.h y q)
   | _ => none
 | _ => none
theorem Sk {d : I} {v : Value} {aR : Nat → Prop} (h : aI w F s aB (.ref d) v aR) : ∃ b o eu, v = .pointer (some ⟨b, o, none⟩) ∧ F b ∧ h5 w b o eu ∧ ay w F d eu (fun _ => False) := by
 have bE := (aI.cJ rfl).1 h
 rw [ay, hj bE.1] at bE
 obtain ⟨_, b, o, eu, af, ag, aF, a_⟩ := bE
 simp at af; subst af
 exact ⟨b, o, eu, rfl, ag, aF, a_⟩
theorem Sl (h : bM w0 F0 X F S s aB w) {x : I} {v : Value} (aK : aI w F s aB x v (fun _ => False)) (he : fs s x = some av) :
  av = x ∧ x.plain = true ∧ ((∃ a, v = .pointer (some a)) ∨ ∃ f c, v = .func (.func f) #[] c) := by
 unfold fs at he
 split at he
 ·simp only [Option.some.injEq] at he; subst he
  obtain ⟨b, o, eu, rfl, _⟩ := Sk aK
  exact ⟨rfl, rfl, .inl ⟨_, rfl⟩⟩
 ·simp only [Option.some.injEq] at he; subst he
  rw [aI] at aK
  obtain ⟨arr, rfl, _⟩ := aK
  exact ⟨rfl, rfl, .inr ⟨_, _, rfl⟩⟩
 ·split at he
  ·rename_i d ai
   simp only [Option.some.injEq] at he; subst he
   obtain ⟨b, cur, e, fr, rfl, _⟩ := J3 h aK ai
   exact ⟨rfl, rfl, .inl ⟨_, rfl⟩⟩
  ·cases he
 ·cases he
def ex (s : al) (x : I) (k : Nat) : Option I :=
 match x with
 | .tuple ds => match ds[k]? with
   | some d => if d.plain = true then some d else none
   | none => none
 | .h y q => match I.sub q (s y) with
   | some (.tuple ds) => match ds[k]? with
     | some d => if I.e1 ds = true then none else some (if d.plain then d else .h y (q ++ [k]))
     | none => none
   | _ => none
 | _ => none
theorem Kb : ∀ (vs : List Value) (k : Nat) (x : Value) (ds : List I), vs[k]? = some x → vs.length = ds.length → (∀ (j : Nat) (d : I) (y : Value), ds[j]? = some d → vs[j]? = some y → (iG y).length = d.wd) →
  ∃ l r, vs.flatMap iG = l ++ (iG x ++ r) ∧ l.length = I.ee (ds.take k)
 | [], k, x, ds, h, _, _ => by simp at h
 | v :: vs, 0, x, ds, h, hl, hw => by
   simp at h; subst h
   exact ⟨[], vs.flatMap iG, by simp, by simp [I.ee]⟩
 | v :: vs, k + 1, x, d :: ds, h, hl, hw => by
   obtain ⟨l, r, aN, aZ⟩ := Kb vs k x ds (by simpa using h) (by simpa using hl) (fun j d y af ag => hw (j + 1) d y (by simpa using af) (by simpa using ag))
   refine ⟨iG v ++ l, r, by simp [aN], ?_⟩
   have := hw 0 d v (by simp) (by simp)
   simp [I.ee, aZ, this]
 | v :: vs, k + 1, x, [], h, hl, hw => by simp at hl
theorem Sm {d : I} {v : Value} (h : iH d v) (_hd : ∀ vs, d ≠ .tuple vs) : cp v = iG v := by
 cases d with
 | agg ax => obtain ⟨arr, rfl⟩ := h; rfl
 | _ =>
   have af : Value.gJ v = true := h
   cases v <;> first | rfl | (simp [Value.gJ] at af)
theorem So {d : I} {v : Value} (h : iH d v) (ai : ∀ vs, d ≠ .tuple vs) : dT d v := by
 cases d with
 | tuple vs => exact (ai _ rfl).elim
 | _ => exact h
theorem Sp (h : bM w0 F0 X F S s aB w) {x : I} {v : Value} {k : Nat} (aK : aI w F s aB x v (fun _ => False)) (he : ex s x k = some av) : Good C w0 F0 X aB w (Instr.extract v k) av s := by
 have pick : ∀ (ds : List I) (d : I) (arr : Array Value), ds[k]? = some d → (arr.size = ds.length ∧ ∀ (k : Nat) (d : I) (x : Value), ds[k]? = some d → arr[k]? = some x → iH d x ∧ (∀ vs, d ≠ .tuple vs) ∧ (iG x).length = d.wd) →
   ∃ x, arr[k]? = some x ∧ dT d x ∧ ((cp (.tuple arr)).drop (I.ee (ds.take k))).take d.wd = cp x := by
  intro ds d arr ai ⟨bS, na⟩
  have dZ : k < arr.size := by rw [bS]; exact (List.getElem?_eq_some_iff.1 ai).1
  have aq : arr[k]? = some arr[k] := Array.getElem?_eq_getElem dZ
  obtain ⟨g1, g2, g3⟩ := na k d _ ai aq
  obtain ⟨l, r, aN, aZ⟩ := Kb arr.toList k arr[k] ds (by simp [dZ]) (by simpa using bS) (fun j d y af ag => (na j d y af (by simpa using ag)).2.2)
  refine ⟨_, aq, So g1 g2, ?_⟩
  rw [Sm g1 g2]
  simp only [cp]
  rw [aN]
  exact ta l _ r _ _ aZ g3
 unfold ex at he
 split at he
 ·rename_i ds
  split at he
  ·rename_i d ai
   split at he
   ·rename_i aw
    simp only [Option.some.injEq] at he; subst he
    have bE := (aI.cJ rfl).1 aK
    obtain ⟨⟨arr, rfl, bS⟩, ha⟩ := bE
    obtain ⟨x, aq, ab, ao⟩ := pick ds d arr ai bS
    have aW : (Instr.extract (.tuple arr) k).run C.P w = .ok x w := by simp [Instr.extract, aq]
    rw [ay] at ha
    obtain ⟨cv, gn, cw, cc, h7, e, hW, fD, hr, h8, gz, my⟩ := bf.pick ds _ _ k d ha ai
    rw [e, ta cv gn cw _ _ hW (ay.length _ _ _ gz)] at ao
    by_cases a1 : d.tree = true
    ·exact Good.same h aW aw ((aI.cJ a1).2 ⟨ab, by rw [← ao]; exact ay.plain _ _ _ _ aw gz⟩)
    ·cases d <;> first | exact (a1 rfl).elim | (rw [ay] at gz; exact gz.elim) | exact Good.same h aW rfl (by rw [aI]; trivial) | (have bI := ay.plain _ _ _ (fun _ => False) aw gz; rw [ao, hj (by exact ab)] at bI; exact Good.same h aW rfl (aI.p6 _ _ rfl bI))
   ·cases he
  ·cases he
 ·rename_i y q
  split at he
  ·rename_i ds ai
   split at he
   ·rename_i d ar
    split at he
    ·cases he
    ·rename_i eK
     simp only [Option.some.injEq] at he
     have eK : (I.tuple ds).plain = false := by simpa [I.plain] using eK
     rw [aI] at aK
     obtain ⟨cM, a, g1, g2, g3⟩ := aK _ ai eK
     obtain ⟨arr, rfl, bS⟩ := g3
     obtain ⟨x, aq, ab, ao⟩ := pick ds d arr ar bS
     have aW : (Instr.extract (.tuple arr) k).run C.P w = .ok x w := by simp [Instr.extract, aq]
     have hy := h.dp y
     rw [aI.cJ (h9 ai (.inl eK))] at hy
     obtain ⟨gp, cN, en, fq, k0, bt, b0, dK, de, dI⟩ := ctx q (s y) (cp (aB y)) (S y) none _ hy.2 ai
     rw [k0] at g1
     simp only [Option.some.injEq, Prod.mk.injEq, true_and] at g1
     obtain ⟨rfl, rfl⟩ := g1
     rw [g2] at ao
     split at he
     ·rename_i aw
      subst he
      rw [ay] at de
      obtain ⟨cv, gn, cw, cc, h7, e, hW, fD, hr, h8, gz, my⟩ := bf.pick ds _ _ k d de ar
      rw [e, ta cv gn cw _ _ hW (ay.length _ _ _ gz)] at ao
      by_cases a1 : d.tree = true
      ·exact Good.same h aW aw ((aI.cJ a1).2 ⟨ab, by rw [← ao]; exact ay.plain _ _ _ _ aw gz⟩)
      ·cases d <;> first | exact (a1 rfl).elim | (rw [ay] at gz; exact gz.elim) | exact Good.same h aW rfl (by rw [aI]; trivial) | (have bI := ay.plain _ _ _ (fun _ => False) aw gz; rw [ao, hj (by exact ab)] at bI; exact Good.same h aW rfl (aI.p6 _ _ rfl bI))
     ·subst he
      refine Good.same h aW rfl ?_
      rw [aI]
      intro d2 gZ xW
      rw [x0 w q _ _ _ _ _ _ [k] k0]
      rw [xZ _ _ _ _ ai] at gZ
      simp only [I.sub, ar, Option.some.injEq] at gZ
      subst gZ
      simp only [dn, ar]
      exact ⟨_, _, rfl, ao.symm, ab⟩
   ·cases he
  ·cases he
 ·cases he
def mE (C : b4) (s : al) (T : TypeId) (x : I) (k : Nat) : Option I :=
 match (C.T T).k with
 | .struct ax => match ax[k]? with
   | some (ka, off) => match x with
     | .agg ds => match ds[k]? with
       | some d => if I.ee (ds.take k) = off ∧ fits C ka d = true ∧ d.plain = true ∧ d.tree = true then some d else none
       | none => none
     | .h y q => match I.sub q (s y) with
       | some (.agg ds) => match ds[k]? with
         | some d => if I.ee (ds.take k) = off ∧ fits C ka d = true ∧ I.e1 ds = false ∧ d.tree = true then some (if d.plain then d else .h y (q ++ [k])) else none
         | none => none
       | _ => none
     | _ => none
   | none => none
 | _ => none
theorem Sq (bp : C.eP) (h : bM w0 F0 X F S s aB w) {T : TypeId} {x : I} {v : Value} {k : Nat} (aK : aI w F s aB x v (fun _ => False)) (he : mE C s T x k = some av) : Good C w0 F0 X aB w (Instr.field T v k) av s := by
 have key : ∀ (ax : List (TypeId × Nat)) (ka : TypeId) (off : Nat), (C.T T).k = .struct ax → ax[k]? = some (ka, off) → ∀ (ds : List I) (d : I) (arr : Array Value) (aR : Nat → Prop), ds[k]? = some d → I.ee (ds.take k) = off → fits C ka d = true → bf w F ds arr.toList aR →
   ∃ x h7, (Instr.field T (.agg arr) k).run C.P w = .ok x w ∧ dT d x ∧ ay w F d (cp x) h7 ∧ (arr.toList.drop off).take d.wd = cp x := by
  intro ax ka off ar bz ds d arr aR ai p5 ir ha
  obtain ⟨i, x7, z, aN, aZ, aT, b2, cI, bZ, bO⟩ := bp.info (gq ar (by simp))
  rw [ar] at bO
  obtain ⟨gs, rfl, fF⟩ := x1 bO
  obtain ⟨g, g1, rfl, rfl⟩ : ∃ g, gs[k]? = some g ∧ g.type = ka ∧ g.offset = off := by
   rw [← fF, List.getElem?_map] at bz
   simp only [Option.map_eq_some_iff, Prod.mk.injEq] at bz
   obtain ⟨g, af, ag, aF⟩ := bz
   exact ⟨g, by simpa using af, ag, aF⟩
  obtain ⟨cv, gn, cw, cc, h7, e, hW, fD, hr, h8, gz, my⟩ := bf.pick ds _ _ k d ha ai
  obtain ⟨x, aW, Kc, nb⟩ := RZ (w := w) bp e (hW.trans p5) gz ir
  refine ⟨x, h7, ?_, nb, by rw [Kc]; exact gz, ?_⟩
  ·simp [Instr.field, run_underlying bZ, g1, asAgg, aW]
  ·rw [e, Kc, ← p5]; exact ta cv gn cw _ _ hW (ay.length _ _ _ gz)
 have Kd : ∀ (d : I) (x : Value) (h7 : Nat → Prop), d.plain = true → dT d x → ay w F d (cp x) h7 → aI w F s aB d x (fun _ => False) := by
  intro d x h7 aw ab ha
  by_cases a1 : d.tree = true
  ·exact (aI.cJ a1).2 ⟨ab, ay.plain _ _ _ _ aw ha⟩
  ·cases d <;> first | exact (a1 rfl).elim | (rw [ay] at ha; exact ha.elim) | (rw [aI]; trivial) | (have bI := ay.plain _ _ _ (fun _ => False) aw ha; rw [hj (by exact ab)] at bI; exact aI.p6 _ _ rfl bI)
 unfold mE at he
 split at he
 ·rename_i ax ar
  split at he
  ·rename_i ka off bz
   split at he
   ·rename_i ds
    split at he
    ·rename_i d ai
     split at he
     ·rename_i ao
      simp only [Option.some.injEq] at he; subst he
      obtain ⟨⟨arr, rfl⟩, ha⟩ := (aI.cJ rfl).1 aK
      rw [ay] at ha
      obtain ⟨x, h7, aW, ab, r4, _⟩ := key ax ka off ar bz ds d arr _ ai ao.1 ao.2.1 ha
      exact Good.same h aW ao.2.2.1 (Kd d x h7 ao.2.2.1 ab r4)
     ·cases he
    ·cases he
   ·rename_i y q
    split at he
    ·rename_i ds ai
     split at he
     ·rename_i d pe
      split at he
      ·rename_i ao
       simp only [Option.some.injEq] at he
       have eK : (I.agg ds).plain = false := by simpa [I.plain] using ao.2.2.1
       rw [aI] at aK
       obtain ⟨cM, a, g1, g2, g3⟩ := aK _ ai eK
       obtain ⟨arr, rfl⟩ := g3
       have hy := h.dp y
       rw [aI.cJ (h9 ai (.inl eK))] at hy
       obtain ⟨gp, cN, en, fq, k0, bt, b0, dK, de, dI⟩ := ctx q (s y) (cp (aB y)) (S y) none _ hy.2 ai
       rw [k0] at g1
       simp only [Option.some.injEq, Prod.mk.injEq, true_and] at g1
       obtain ⟨rfl, rfl⟩ := g1
       rw [ay, ← g2] at de
       obtain ⟨x, h7, aW, ab, r4, iI⟩ := key ax ka off ar bz ds d arr _ pe ao.1 ao.2.1 de
       by_cases aw : d.plain = true
       ·rw [if_pos aw] at he; subst he
        exact Good.same h aW aw (Kd d x h7 aw ab r4)
       ·rw [if_neg aw] at he; subst he
        refine Good.same h aW rfl ?_
        rw [aI]
        intro d2 gZ xW
        rw [x0 w q _ _ _ _ _ _ [k] k0]
        rw [xZ _ _ _ _ ai] at gZ
        simp only [I.sub, pe, Option.some.injEq] at gZ
        subst gZ
        simp only [dn, pe]
        refine ⟨_, _, rfl, ?_, ab⟩
        rw [ao.1, ← g2]; exact iI.symm
      ·cases he
     ·cases he
    ·cases he
   ·cases he
  ·cases he
 ·cases he
end
section
variable {C : b4} {w0 w : World} {F0 X F : Nat → Prop} {S : Nat → Nat → Prop} {s s1 : al} {aB : Nat → Value} {av : I}
def idx (C : b4) (T : TypeId) (x i : I) : Option I :=
 match (C.T T).k, x, i with
 | .str, .str l, .int _ n => if 0 ≤ n then (match l[n.toNat]? with | some b => some (.int .u8 b.toNat) | none => none) else none
 | _, _, _ => none
theorem Sr (l : List UInt8) (n : Nat) : (⟨⟨l⟩⟩ : ByteArray)[n]? = l[n]? := by
 by_cases h : n < l.length
 ·have bE : n < (⟨⟨l⟩⟩ : ByteArray).size := h
  rw [List.getElem?_eq_getElem h, getElem?_pos (⟨⟨l⟩⟩ : ByteArray) n bE]
  rfl
 ·have bE : ¬ n < (⟨⟨l⟩⟩ : ByteArray).size := h
  rw [List.getElem?_eq_none (by omega), getElem?_neg (⟨⟨l⟩⟩ : ByteArray) n bE]
theorem Ss (bp : C.eP) (h : bM w0 F0 X F S s aB w) {T : TypeId} {x i : I} {v n_ : Value} (aK : aI w F s aB x v (fun _ => False)) (an : aI w F s aB i n_ (fun _ => False)) (he : idx C T x i = some av) :
  Good C w0 F0 X aB w (Instr.index T v n_) av s := by
 unfold idx at he
 split at he
 ·rename_i l k n ar
  have := nF aK; subst this
  have := nE an; subst this
  obtain ⟨i, d, z, aN, aZ, aT, b2, cI, bZ, bO⟩ := bp.info (gq ar (by simp))
  rw [ar] at bO
  have := p4 bO; subst this
  split at he
  ·rename_i bc
   split at he
   ·rename_i b aa
    simp only [Option.some.injEq] at he; subst he
    refine Good.same h ?_ rfl (of_int _ _)
    simp [Instr.index, asIntOf, run_underlying bZ, bc, Sr, aa]
   ·cases he
  ·cases he
 ·cases he
def lenOf (s : al) : I → Option Nat
 | .str l => some l.length
 | .bo => some 0
 | .slice xs => some xs.length
 | .h y q => match I.sub q (s y) with
   | some (.au _ xs) => some xs.length
   | _ => none
 | _ => none
def mF (C : b4) (s : al) (T : TypeId) (x : I) : Option I :=
 match (C.T T).k, x with
 | .str, .str l => some (.int .i64 l.length)
 | .slice _, .bo => some (.int .i64 0)
 | .slice _, .slice xs => some (.int .i64 xs.length)
 | .slice _, .h y q => match I.sub q (s y) with
   | some (.au _ xs) => some (.int .i64 xs.length)
   | _ => none
 | _, _ => none
theorem A5 {xs : List I} {v : Value} {aR : Nat → Prop} (h : aI w F s aB (.slice xs) v aR) : (xs = [] ∧ ∃ a c, v = .slice a 0 c ∧ c ≤ maxLen ∧ (a = none → c = 0)) ∨
  ∃ b o cap eu sz, v = .slice (some ⟨b, o, none⟩) xs.length cap ∧ F b ∧ xs.length ≤ cap ∧ cap ≤ maxLen ∧ (∀ d ∈ xs, d.wd = sz) ∧ h5 w b o eu ∧ bf w F xs eu (fun _ => False) := by
 have bE := (aI.cJ rfl).1 h
 rw [ay, hj bE.1] at bE
 obtain ⟨_, ⟨rfl, a, c, ag, aF⟩ | ⟨b, o, cap, eu, sz, ag, aF⟩⟩ := bE
 ·simp at ag; exact .inl ⟨rfl, a, c, ag, aF⟩
 ·simp at ag; exact .inr ⟨b, o, cap, eu, sz, ag, aF⟩
theorem St (bp : C.eP) (h : bM w0 F0 X F S s aB w) {T ty : TypeId} {x : I} {v : Value} (aK : aI w F s aB x v (fun _ => False)) (he : mF C s T x = some av) :
  Good C w0 F0 X aB w (Builtin.len_ #[T] ty #[v]) av s := by
 unfold mF at he
 split at he
 ·rename_i l ar
  have := nF aK; subst this
  obtain ⟨i, d, z, aN, aZ, aT, b2, cI, bZ, bO⟩ := bp.info (gq ar (by simp))
  rw [ar] at bO
  have := p4 bO; subst this
  simp only [Option.some.injEq] at he; subst he
  refine Good.same h ?_ rfl (of_int _ _)
  simp [Builtin.len_, run_underlying bZ, goInt]
  rfl
 ·rename_i e ar
  have := q6 aK; subst this
  obtain ⟨i, d, z, aN, aZ, aT, b2, cI, bZ, bO⟩ := bp.info (gq ar (by simp))
  rw [ar] at bO
  have := lR bO; subst this
  simp only [Option.some.injEq] at he; subst he
  refine Good.same h ?_ rfl (of_int _ _)
  simp [Builtin.len_, run_underlying bZ, goInt]
 ·rename_i e xs ar
  obtain ⟨i, d, z, aN, aZ, aT, b2, cI, bZ, bO⟩ := bp.info (gq ar (by simp))
  rw [ar] at bO
  have := lR bO; subst this
  simp only [Option.some.injEq] at he; subst he
  refine Good.same h ?_ rfl (of_int _ _)
  rcases A5 aK with ⟨rfl, a, c, rfl, _⟩ | ⟨b, o, cap, eu, sz, rfl, _⟩ <;> simp [Builtin.len_, run_underlying bZ, goInt]
 ·rename_i e y q ar
  split at he
  ·rename_i sz xs ai
   obtain ⟨i, d, z, aN, aZ, aT, b2, cI, bZ, bO⟩ := bp.info (gq ar (by simp))
   rw [ar] at bO
   have := lR bO; subst this
   simp only [Option.some.injEq] at he; subst he
   refine Good.same h ?_ rfl (of_int _ _)
   rcases Fp h aK ai with ⟨rfl, _, rfl⟩ | ⟨b, cap, cur, aZ, fr, rfl, _⟩ <;> simp [Builtin.len_, run_underlying bZ, goInt]
  ·cases he
 ·cases he
def bytesOf : List I → Option (List UInt8)
 | [] => some []
 | .int .u8 n :: r => if 0 ≤ n ∧ n < 256 then (bytesOf r).map (UInt8.ofNat n.toNat :: ·) else none
 | _ => none
def gu (b : UInt8) : I := .int .u8 b.toNat
theorem Su (l : List UInt8) : bytesOf (l.map gu) = some l := by
 induction l with
 | nil => rfl
 | cons b l ih =>
   have aa : b.toNat < 256 := b.toNat_lt
   simp only [List.map_cons, gu, bytesOf, Int.toNat_natCast]
   rw [if_pos (by omega), ih]
   simp
theorem Fs : ∀ (xs : List I) (l : List UInt8) (cs : List Value) (aR : Nat → Prop), bytesOf xs = some l → bf w F xs cs aR → cs = l.map (fun b => .int .u8 (b.toNat : Int)) ∧ xs.length = l.length
 | [], l, cs, aR, h, aW => by simp [bytesOf] at h; subst h; rw [bf] at aW; subst aW; exact ⟨rfl, rfl⟩
 | x :: xs, l, cs, aR, h, aW => by
   unfold bytesOf at h
   split at h
   ·rename_i e; cases e
   ·rename_i n r e
    simp only [List.cons.injEq] at e
    obtain ⟨rfl, rfl⟩ := e
    split at h
    ·rename_i bc
     simp only [Option.map_eq_some_iff] at h
     obtain ⟨dL, af, rfl⟩ := h
     rw [bf] at aW
     obtain ⟨cv, cw, cc, dB, rfl, ag, aF, _⟩ := aW
     obtain ⟨rfl, a_⟩ := Fs xs dL cw dB af aF
     rw [ay] at ag; subst ag
     refine ⟨?_, by simp [a_]⟩
     simp only [List.map_cons, List.cons_append, List.nil_append, List.cons.injEq, and_true, Value.int.injEq, true_and]
     simp only [UInt8.toNat_ofNat']
     omega
    ·cases h
   ·cases h
theorem bM.ya (h : bM w0 F0 X F S s aB w) {aL : World} {sz cap : Nat} {xs : List I} {cur : Array Value} {e : TypeId} {fr : Nat × Nat} {Sn : Nat → Prop}
  (hw : aL.heap = w.heap.push (.cells cur e fr)) (af : aL.os = w.os) (ag : aL.tape = w.tape) (aF : aL.output = w.output)
  (bz : rV fr cur.size) (hle : xs.length ≤ cap) (hm : cap ≤ maxLen) (d_ : cur.size = cap * sz) (k1 : ∀ d ∈ xs, d.wd = sz) (aK : bf w F xs (cur.toList.take (xs.length * sz)) Sn)
  (dZ : ∀ b, Sn b → b < w.heap.size) (bG : ∀ b, Sn b → ¬ F b) (bX : ∀ u b, Sn b → ¬ S u b) (bn : ∀ b, Sn b → X b ∨ w0.heap.size ≤ b) :
  bM w0 F0 X F S s aB aL ∧ lQ w0 X F S s aB aL (.au sz xs) (.slice (some ⟨w.heap.size, 0, none⟩) xs.length cap) := by
 have hold : ∀ b, b < w.heap.size → aL.heap[b]? = w.heap[b]? := by
  intro b aa
  rw [hw, Array.getElem?_push, if_neg (by omega)]
 have ayI : aL.heap.size = w.heap.size + 1 := by rw [hw]; simp
 refine ⟨h.grow hold (by omega) af ag aF, .inr ⟨rfl, rfl, fun b => b = w.heap.size ∨ Sn b, ?_, ?_, ?_, ?_, ?_⟩⟩
 ·simp only [cp, iG]
  rw [ay]
  refine .inr ⟨w.heap.size, cap, cur, e, fr, Sn, rfl, .inl rfl, ?_, bz, hle, hm, d_, k1, ?_, fun c ao => .inr ao, fun ao => Nat.lt_irrefl _ (dZ _ ao)⟩
  ·rw [hw]; simp
  ·exact bf.frame (fun b aa => hold b (h.fe b aa)) _ _ _ (fun b aa => hold b (dZ b aa)) aK
 ·rintro b (rfl | aa)
  ·omega
  ·have := dZ b aa; omega
 ·rintro b (rfl | aa) q5
  ·exact Nat.lt_irrefl _ (h.fe _ q5)
  ·exact bG b aa q5
 ·rintro u b (rfl | aa) hu
  ·exact Nat.lt_irrefl _ (h.eJ _ _ hu)
  ·exact bX u b aa hu
 ·rintro b (rfl | aa)
  ·exact .inr h.size
  ·exact bn b aa
def gv (C : b4) (s : al) (A B : TypeId) (x : I) : Option I :=
 if (C.T A).ok = true then
 match (C.T B).k, x with
 | .int k, .int _ n => some (.int k (k.wrap n))
 | .str, .str l => match (C.T A).k with
   | .str => some (.str l)
   | _ => none
 | .str, x => match (C.T A).k with
   | .slice e => match (C.T e).k with
     | .int .u8 => match x with
       | .bo => some (.str [])
       | .slice xs => (bytesOf xs).map .str
       | .h y q => match I.sub q (s y) with
         | some (.au 1 xs) => (bytesOf xs).map .str
         | _ => none
       | _ => none
     | _ => none
   | _ => none
 | .slice e, .str l => match (C.T A).k, (C.T e).k with
   | .str, .int .u8 => if l.length ≤ 9223372036854775807 then some (.au 1 (l.map gu)) else none
   | _, _ => none
 | _, _ => none
 else none
theorem Ke (l : List UInt8) (aR : Nat → Prop) : bf w F (l.map gu) (l.map fun b => .int .u8 (b.toNat : Int)) aR := by
 induction l generalizing aR with
 | nil => simp only [List.map_nil]; rw [bf]
 | cons b l ih =>
   simp only [List.map_cons]
   rw [bf]
   exact ⟨[.int .u8 (b.toNat : Int)], _, fun _ => False, fun _ => False, rfl, by rw [gu, ay], ih _, fun _ h => h.elim, fun _ h => h.elim, fun _ h => h.elim⟩
theorem Sv (bp : C.eP) (h : bM w0 F0 X F S s aB w) {A B : TypeId} {x : I} {v : Value} (aK : aI w F s aB x v (fun _ => False)) (he : gv C s A B x = some av) :
  Good C w0 F0 X aB w (convert A B v) av s := by
 unfold gv at he
 split at he
 ·rename_i ju
  obtain ⟨eX, ayJ, ayK, R, a2, a3, a4, a5, p7, p8⟩ := bp.info ju
  split at he
  ·rename_i k cL n ar
   have := nE aK; subst this
   obtain ⟨i, d, z, aN, aZ, aT, b2, cI, bZ, bO⟩ := bp.info (gq ar (by simp))
   rw [ar] at bO
   have := x2 bO; subst this
   simp only [Option.some.injEq] at he; subst he
   refine Good.same h ?_ rfl (of_int _ _)
   simp [convert, run_underlying p7, run_underlying bZ, Conv.intToInt]
  ·rename_i l ar
   have := nF aK; subst this
   obtain ⟨i, d, z, aN, aZ, aT, b2, cI, bZ, bO⟩ := bp.info (gq ar (by simp))
   rw [ar] at bO
   have := p4 bO; subst this
   split at he
   ·rename_i yb
    rw [yb] at p8
    have := p4 p8; subst this
    simp only [Option.some.injEq] at he; subst he
    refine Good.same h ?_ rfl (oa _)
    simp [convert, run_underlying p7, run_underlying bZ]
   ·cases he
  ·rename_i x ar _
   obtain ⟨i, d, z, aN, aZ, aT, b2, cI, bZ, bO⟩ := bp.info (gq ar (by simp))
   rw [ar] at bO
   have := p4 bO; subst this
   split at he
   ·rename_i e yb
    rw [yb] at p8
    have := lR p8; subst this
    split at he
    ·rename_i yc
     obtain ⟨q2, bx, q3, f1, f2, f3, f4, f5, f6, f7⟩ := bp.info (gq yc (by simp))
     rw [yc] at f7
     have := x2 f7; subst this
     have fin : ∀ (l : List UInt8) (b o cap : Nat), h5 w b o (l.map fun b => .int .u8 (b.toNat : Int)) → (convert A B (.slice (some ⟨b, o, none⟩) l.length cap)).run C.P w = .ok (.string ⟨⟨l⟩⟩) w := by
      intro l b o cap kn
      refine run_convert_bytes_back w A B e ⟨b, o, none⟩ cap l p7 f6 bZ (fun j bw => ?_)
      rw [Addr.add_lit]
      exact kn j _ (by simp [bw])
     have nil : (convert A B (.slice none 0 0)).run C.P w = .ok (.string ⟨⟨[]⟩⟩) w := by
      simp [convert, run_underlying p7, run_underlying bZ, run_underlying f6, Conv.bytesToString]
      rfl
     split at he
     ·have := q6 aK; subst this
      simp only [Option.some.injEq] at he; subst he
      exact Good.same h nil rfl (oa _)
     ·rename_i xs _
      simp only [Option.map_eq_some_iff] at he
      obtain ⟨l, hl, rfl⟩ := he
      rcases A5 aK with ⟨rfl, a, c, rfl, _, tm⟩ | ⟨b, o, cap, eu, sz, rfl, af, ag, aF, a_, bI, cK⟩
      ·simp [bytesOf] at hl; subst hl
       cases a with
       | none =>
         have := tm rfl; subst this
         exact Good.same h nil rfl (oa _)
       | some a =>
         refine Good.same h ?_ rfl (oa _)
         exact run_convert_bytes_back w A B e a c [] p7 f6 bZ (fun j bw => by simp at bw)
      ·obtain ⟨rfl, cH⟩ := Fs xs l eu _ hl cK
       rw [cH]
       exact Good.same h (fin l b o cap bI) rfl (oa _)
     ·rename_i y q
      split at he
      ·rename_i xs ai
       simp only [Option.map_eq_some_iff] at he
       obtain ⟨l, hl, rfl⟩ := he
       rcases Fp h aK ai with ⟨rfl, a, rfl⟩ | ⟨b, cap, cur, aZ, fr, rfl, af, ag, aF, a_, bI, cK, aR, cH, _⟩
       ·simp [bytesOf] at hl; subst hl
        cases a with
        | none => exact Good.same h nil rfl (oa _)
        | some a =>
          refine Good.same h ?_ rfl (oa _)
          exact run_convert_bytes_back w A B e a 0 [] p7 f6 bZ (fun j bw => by simp at bw)
       ·obtain ⟨fC, hq⟩ := Fs xs l _ _ hl cH
        rw [hq]
        refine Good.same h (fin l b 0 cap ?_) rfl (oa _)
        rw [← fC]
        exact vk af _
      ·cases he
     ·cases he
    ·cases he
   ·cases he
  ·rename_i e l ar
   have := nF aK; subst this
   obtain ⟨i, d, z, aN, aZ, aT, b2, cI, bZ, bO⟩ := bp.info (gq ar (by simp))
   rw [ar] at bO
   have := lR bO; subst this
   split at he
   ·rename_i yb yc
    rw [yb] at p8
    have := p4 p8; subst this
    obtain ⟨q2, bx, q3, f1, f2, f3, f4, f5, f6, f7⟩ := bp.info (gq yc (by simp))
    rw [yc] at f7
    have := x2 f7; subst this
    split at he
    ·rename_i hl
     simp only [Option.some.injEq] at he; subst he
     have ab : (⟨⟨l⟩⟩ : ByteArray).size = l.length := rfl
     have yd := grownCap_ge w l.length 0 e
     have Sw := grownCap_le_maxLen w l.length 0 e (by unfold maxLen; omega)
     have Kf : (bytesRow ⟨⟨l⟩⟩ (grownCap w l.length 0 e)).toList = l.map (fun b => Value.int .u8 (b.toNat : Int)) ++ List.replicate (grownCap w l.length 0 e - l.length) (.int .u8 0) := by
      simp [bytesRow, ab]
     have d_ : (bytesRow ⟨⟨l⟩⟩ (grownCap w l.length 0 e)).size = grownCap w l.length 0 e * 1 := by
      have : (bytesRow ⟨⟨l⟩⟩ (grownCap w l.length 0 e)).size = (bytesRow ⟨⟨l⟩⟩ (grownCap w l.length 0 e)).toList.length := by simp
      rw [this, Kf]; simp; omega
     have tj := run_bytes_of_string w A B e ⟨⟨l⟩⟩ p7 bZ f6
     rw [ab] at tj
     have kJ := h.ya (aL := w.drew.alloc (.cells (bytesRow ⟨⟨l⟩⟩ (grownCap w l.length 0 e)) e ((bytesRow ⟨⟨l⟩⟩ (grownCap w l.length 0 e)).size, (bytesRow ⟨⟨l⟩⟩ (grownCap w l.length 0 e)).size + 1)))
      (sz := 1) (cap := grownCap w l.length 0 e) (xs := l.map gu) (cur := bytesRow ⟨⟨l⟩⟩ (grownCap w l.length 0 e)) (e := e) (Sn := fun _ => False) rfl rfl rfl rfl
      (fun o bJ ⟨af, _⟩ => by simp only at af; omega) (by simpa using yd) Sw d_ (by intro d ai; obtain ⟨b, _, rfl⟩ := List.mem_map.1 ai; rfl)
      (by rw [Kf, List.take_left' (by simp)]; exact Ke l _) (fun _ h => h.elim) (fun _ h => h.elim) (fun _ _ h => h.elim) (fun _ h => h.elim)
     simp only [List.length_map] at kJ
     exact ⟨_, _, F, S, tj, kJ.1, kJ.2⟩
    ·cases he
   ·cases he
  ·cases he
 ·cases he
end
section
variable {C : b4} {w0 w : World} {F0 X F : Nat → Prop} {S : Nat → Nat → Prop} {s s1 : al} {aB : Nat → Value} {av : I}
def jc (d : Nat) : Option I → Option Nat
 | none => some d
 | some (.int _ n) => if 0 ≤ n then some n.toNat else none
 | some _ => none
def fh (C : b4) (s : al) (T : TypeId) (x : I) (df an : Option I) : Option (I × al) :=
 match (C.T T).k, x with
 | .str, .str l => match jc 0 df, jc l.length an with
   | some a, some b => if a ≤ b ∧ b ≤ l.length then some (.str ((l.take b).drop a), s) else none
   | _, _ => none
 | .slice e, .bo => match jc 0 df, jc 0 an with
   | some 0, some 0 => if (C.T e).ok = true then some (.bo, s) else none
   | _, _ => none
 | .slice e, .slice xs => match jc 0 df, jc xs.length an with
   | some a, some b => if a ≤ b ∧ b ≤ xs.length ∧ (C.T e).ok = true ∧ (∀ d ∈ xs, d.wd = (C.T e).sz) then some (.slice ((xs.take b).drop a), s) else none
   | _, _ => none
 | .slice e, .h y q => match I.sub q (s y) with
   | some (.au sz xs) => match jc 0 df, jc xs.length an with
     | some 0, some b => if b ≤ xs.length ∧ (C.T e).ok = true then (match cO s (.h y q) with | some (_, s1) => some (.au sz (xs.take b), s1) | none => none) else none
     | _, _ => none
   | _ => none
 | _, _ => none
def q7 (w : World) (F : Nat → Prop) (s : al) (aB : Nat → Value) : Option I → Option Value → Prop
 | none, none => True
 | some d, some v => aI w F s aB d v (fun _ => False)
 | _, _ => False
theorem Kg {d : Nat} {o : Option I} {v : Option Value} (bJ : q7 w F s aB o v) {a : Nat} (h : jc d o = some a) : (o = none ∧ v = none ∧ a = d) ∨ ∃ k, v = some (.int k a) := by
 cases o with
 | none =>
   cases v with
   | none => simp [jc] at h; exact .inl ⟨rfl, rfl, h.symm⟩
   | some v => simp [q7] at bJ
 | some x =>
   cases v with
   | none => simp [q7] at bJ
   | some v =>
     simp only [q7] at bJ
     cases x with
     | int k n =>
       have := nE bJ; subst this
       simp only [jc] at h
       split at h
       ·rename_i bc
        simp only [Option.some.injEq] at h; subst h
        obtain ⟨m, rfl⟩ := Int.eq_ofNat_of_zero_le bc
        exact .inr ⟨k, rfl⟩
       ·cases h
     | _ => simp [jc] at h
theorem vu {P : Program} {isS : Bool} {len cap a b : Nat} {df an : Option I} {tp tq : Option Value} (oc : q7 w F s aB df tp) (od : q7 w F s aB an tq) (bF : jc 0 df = some a) (aa : jc len an = some b) (jd : a ≤ b) (Sy : b ≤ cap) (_hlc : len ≤ cap) :
  (Instr.sliceBounds isS len cap tp tq none).run P w = .ok (a, b, cap) w := by
 rcases Kg oc bF with ⟨_, rfl, rfl⟩ | ⟨k, rfl⟩ <;> rcases Kg od aa with ⟨_, rfl, rfl⟩ | ⟨cL, rfl⟩ <;>
  simp [Instr.sliceBounds, Instr.sliceBound, asIntOf, jd, Sy]
theorem vv (bp : C.eP) {T : TypeId} (ar : (C.T T).flat = true) (v : Value) (df an hh : Option Value) (w : World) : (Instr.sliceAt T v df an hh).run C.P w = (Instr.slice T v df an hh).run C.P w := by
 obtain ⟨i, d, z, aN, aZ, aT, b2, cI, bZ, bO⟩ := bp.info (JV ar)
 have dC : ∀ n e, d ≠ .array n e := by
  clear bZ
  unfold gK.flat at ar
  generalize (C.T T).k = mC at *
  cases mC <;> cases d <;> simp [lP] at bO ar ⊢
 cases d <;> first | exact (dC _ _ rfl).elim | simp [Instr.sliceAt, run_underlying bZ]
theorem vw {x : gK} {k : n9} (h : x.k = k) (ar : k ≠ .other) (ab : ∀ ax, k ≠ .struct ax) (aa : ∀ e, k ≠ .ev e := by simp) : x.flat = true := by
 unfold gK.flat; rw [h]; cases k <;> first | rfl | exact (ar rfl).elim | exact (aa _ rfl).elim | exact (ab _ rfl).elim
theorem bf.split : ∀ (n : Nat) (xs : List I) (cs : List Value) (aR : Nat → Prop), bf w F xs cs aR → ∃ cv cw cc dB, cs = cv ++ cw ∧ bf w F (xs.take n) cv cc ∧ bf w F (xs.drop n) cw dB ∧ (∀ b, cc b → aR b) ∧ (∀ b, dB b → aR b) ∧ (∀ b, cc b → ¬ dB b)
 | 0, xs, cs, aR, h => ⟨[], cs, fun _ => False, aR, rfl, by rw [List.take_zero, bf], h, fun _ h => h.elim, fun _ h => h, fun _ h => h.elim⟩
 | n + 1, [], cs, aR, h => by rw [bf] at h; subst h; exact ⟨[], [], fun _ => False, fun _ => False, rfl, by rw [List.take_nil, bf], by rw [List.drop_nil, bf], fun _ h => h.elim, fun _ h => h.elim, fun _ h => h.elim⟩
 | n + 1, x :: xs, cs, aR, h => by
   rw [bf] at h
   obtain ⟨cv, cw, hV, hi, rfl, af, ag, aF, a_, bI⟩ := h
   obtain ⟨d1, d2, cc, dB, rfl, g1, g2, g3, g4, g5⟩ := bf.split n xs cw hi ag
   refine ⟨cv ++ d1, d2, fun b => hV b ∨ cc b, dB, by simp, ?_, g2, ?_, fun b aa => a_ _ (g4 _ aa), ?_⟩
   ·rw [List.take_succ_cons, bf]
    exact ⟨cv, d1, hV, cc, rfl, af, g1, fun _ h => .inl h, fun _ h => .inr h, fun b aa ao => bI b aa (g3 b ao)⟩
   ·rintro b (aa | aa)
    ·exact aF b aa
    ·exact a_ b (g3 b aa)
   ·rintro b (aa | aa) ao
    ·exact bI b aa (g4 b ao)
    ·exact g5 b aa ao
theorem Sz (bp : C.eP) (h : bM w0 F0 X F S s aB w) {T : TypeId} {x : I} {v : Value} {df an : Option I} {tp tq : Option Value} (aq : x.plain = true) (aK : aI w F s aB x v (fun _ => False)) (oc : q7 w F s aB df tp) (od : q7 w F s aB an tq)
  (he : fh C s T x df an = some (av, s1)) : Good C w0 F0 X aB w (Instr.sliceAt T v tp tq none) av s1 := by
 unfold fh at he
 split at he
 ·rename_i l ar
  have := nF aK; subst this
  obtain ⟨i, d, z, aN, aZ, aT, b2, cI, bZ, bO⟩ := bp.info (gq ar (by simp))
  rw [ar] at bO
  have := p4 bO; subst this
  split at he
  ·rename_i a b bF aa
   split at he
   ·rename_i jd
    simp only [Option.some.injEq, Prod.mk.injEq] at he
    obtain ⟨rfl, rfl⟩ := he
    refine Good.same h ?_ rfl (oa _)
    rw [vv bp (vw ar (by simp) (by simp))]
    have d_ : (⟨⟨l⟩⟩ : ByteArray).size = l.length := rfl
    have oe := vu (P := C.P) (isS := false) (len := l.length) (cap := l.length) oc od bF aa jd.1 jd.2 (Nat.le_refl _)
    have SA : (⟨⟨l⟩⟩ : ByteArray).extract a b = ⟨⟨(l.take b).drop a⟩⟩ := by
     apply ByteArray.ext
     simp [ByteArray.data_extract, List.drop_take]
    simp [Instr.slice, run_underlying bZ, d_, oe, SA]
   ·cases he
  ·cases he
 ·rename_i e ar
  have := q6 aK; subst this
  obtain ⟨i, d, z, aN, aZ, aT, b2, cI, bZ, bO⟩ := bp.info (gq ar (by simp))
  rw [ar] at bO
  have := lR bO; subst this
  split at he
  ·rename_i bF aa
   split at he
   ·rename_i pk
    obtain ⟨q2, bx, q3, f1, f2, f3, f4, f5, f6, f7⟩ := bp.info pk
    simp only [Option.some.injEq, Prod.mk.injEq] at he
    obtain ⟨rfl, rfl⟩ := he
    have oe := vu (P := C.P) (isS := true) (len := 0) (cap := 0) oc od bF aa (Nat.le_refl _) (Nat.le_refl _) (Nat.le_refl _)
    refine Good.same h (v := .slice none 0 0) ?_ rfl aK
    rw [vv bp (vw ar (by simp) (by simp))]
    simp [Instr.slice, run_underlying bZ, oe, kp f1, f2]
   ·cases he
  ·cases he
 ·rename_i e xs ar
  obtain ⟨i, d, z, aN, aZ, aT, b2, cI, bZ, bO⟩ := bp.info (gq ar (by simp))
  rw [ar] at bO
  have := lR bO; subst this
  split at he
  ·rename_i a b bF aa
   split at he
   ·rename_i jd
    obtain ⟨SB, Kh, pk, k1⟩ := jd
    obtain ⟨q2, bx, q3, f1, f2, f3, f4, f5, f6, f7⟩ := bp.info pk
    simp only [Option.some.injEq, Prod.mk.injEq] at he
    obtain ⟨rfl, rfl⟩ := he
    rcases A5 aK with ⟨rfl, vx, c, rfl, ye, tm⟩ | ⟨jU, o, cap, eu, sz, rfl, af, ag, aF, a_, bI, cK⟩
    ·have ia : b = 0 := by simpa using Kh
     subst ia
     have SC : a = 0 := by omega
     subst SC
     have oe := vu (P := C.P) (isS := true) (len := 0) (cap := c) oc od bF aa (Nat.le_refl _) (Nat.zero_le _) (Nat.zero_le _)
     refine Good.same h (v := .slice vx 0 c) ?_ rfl ((aI.cJ rfl).2 ⟨rfl, by rw [ay]; exact .inl ⟨rfl, vx, c, rfl, ye, tm⟩⟩)
     rw [vv bp (vw ar (by simp) (by simp))]
     cases vx with
     | none =>
       have := tm rfl; subst this
       simp [Instr.slice, run_underlying bZ, oe, kp f1, f2]
     | some vx => simp [Instr.slice, run_underlying bZ, oe, kp f1, f2, Addr.add]
    ·have oe := vu (P := C.P) (isS := true) (len := xs.length) (cap := cap) oc od bF aa SB (Nat.le_trans Kh ag) ag
     obtain ⟨cv, cw, cc, dB, rfl, g1, g2, g3, g4, g5⟩ := bf.split b xs eu _ cK
     obtain ⟨d1, d2, ayL, Ki, rfl, bt, b0, dK, de, dI⟩ := bf.split a (xs.take b) cv _ g1
     have A6 : d1.length = a * (C.T e).sz := by
      rw [bf.length _ _ _ bt, tc _ (fun d ai => k1 d (List.mem_of_mem_take (List.mem_of_mem_take ai))), List.length_take, List.length_take]
      congr 1; omega
     have hlen : ((xs.take b).drop a).length = b - a := by simp; omega
     have kn : h5 w jU (o + a * (C.T e).sz) d2 := by
      rw [← A6]
      have : h5 w jU o (d1 ++ (d2 ++ cw)) := by simpa using bI
      exact this.Fi
     have A7 : bf w F ((xs.take b).drop a) d2 (fun _ => False) := bf.mono (fun _ h => h) _ _ _ _ (fun b aa => (g3 _ (de _ aa)).elim) b0
     have mem : ∀ d ∈ (xs.take b).drop a, d.wd = sz := fun d ai => a_ d (List.mem_of_mem_take (List.mem_of_mem_drop ai))
     have run : (Instr.sliceAt T (.slice (some ⟨jU, o, none⟩) xs.length cap) tp tq none).run C.P w = .ok (.slice (if cap = a then some ⟨jU, o, none⟩ else some ⟨jU, o + a * (C.T e).sz, none⟩) (b - a) (cap - a)) w := by
      rw [vv bp (vw ar (by simp) (by simp))]
      simp [Instr.slice, run_underlying bZ, oe, kp f1, f2, Addr.add_lit]
     refine ⟨_, w, F, S, run, h, .inl ⟨rfl, (aI.cJ rfl).2 ⟨rfl, ?_⟩⟩⟩
     simp only [cp, iG]
     rw [ay]
     by_cases Kj : cap = a
     ·have SD : b = a := by omega
      subst SD
      have yf : (xs.take b).drop b = [] := by simp
      rw [if_pos Kj]
      rw [yf] at A7 ⊢
      rw [bf] at A7
      subst A7
      exact .inr ⟨jU, o, cap - b, [], sz, by simp, af, Nat.zero_le _, by omega, by simp, fun j c bw => by simp at bw, by rw [bf]⟩
     ·rw [if_neg Kj]
      exact .inr ⟨jU, _, cap - a, d2, sz, by rw [hlen], af, by rw [hlen]; omega, by omega, mem, kn, A7⟩
   ·cases he
  ·cases he
 ·rename_i e y q ar
  split at he
  ·rename_i sz xs ai
   split at he
   ·rename_i b bF aa
    split at he
    ·rename_i r5
     split at he
     ·rename_i x7 s2 a1
      simp only [Option.some.injEq, Prod.mk.injEq] at he
      obtain ⟨rfl, rfl⟩ := he
      obtain ⟨i, d, z, aN, aZ, aT, b2, cI, bZ, bO⟩ := bp.info (gq ar (by simp))
      rw [ar] at bO
      have := lR bO; subst this
      obtain ⟨q2, bx, q3, f1, f2, f3, f4, f5, f6, f7⟩ := bp.info r5.2
      have tn : x7 = .au sz xs := by
       simp only [cO, ai, I.plain] at a1
       simp at a1
       exact a1.1.symm
      subst tn
      obtain ⟨cc, g0, g1, g2, Sn, g3, g4, g5, g6, g7, g8⟩ := pd h rfl aK a1
      rw [hj g2, ay] at g3
      rcases g3 with ⟨rfl, a0, lp⟩ | ⟨jU, cap, cur, gh, fr, aR, lp, bt, b0, dK, de, dI, dX, jh, hb, mG, p9⟩
      ·simp at lp; subst lp
       have ia : b = 0 := by simpa using r5.1
       subst ia
       have oe := vu (P := C.P) (isS := true) (len := 0) (cap := 0) oc od bF aa (Nat.le_refl _) (Nat.le_refl _) (Nat.le_refl _)
       refine ⟨.slice a0 0 0, w, F, cc, ?_, g0, .inr ⟨rfl, rfl, fun _ => False, by simp only [cp, iG]; rw [ay]; exact .inl ⟨rfl, _, rfl⟩, fun _ h => h.elim, fun _ h => h.elim, fun _ _ h => h.elim, fun _ h => h.elim⟩⟩
       rw [vv bp (vw ar (by simp) (by simp))]
       cases a0 <;> simp [Instr.slice, run_underlying bZ, oe, kp f1, f2]
      ·simp at lp; subst lp
       have oe := vu (P := C.P) (isS := true) (len := xs.length) (cap := cap) oc od bF aa (Nat.zero_le _) (Nat.le_trans r5.1 de) de
       have hlen : (xs.take b).length = b := by simp; omega
       have run : (Instr.sliceAt T (.slice (some ⟨jU, 0, none⟩) xs.length cap) tp tq none).run C.P w = .ok (.slice (some ⟨jU, 0, none⟩) b cap) w := by
        rw [vv bp (vw ar (by simp) (by simp))]
        simp [Instr.slice, run_underlying bZ, oe, kp f1, f2, Addr.add_lit]
       refine ⟨_, w, F, cc, run, g0, .inr ⟨rfl, rfl, Sn, ?_, g4, g5, g6, g7⟩⟩
       simp only [cp, iG]
       rw [ay]
       obtain ⟨cv, cw, hV, hi, ao, m1, m2, m3, m4, m5⟩ := bf.split b xs _ _ hb
       refine .inr ⟨jU, cap, cur, gh, fr, aR, by rw [hlen], bt, b0, dK, by omega, dI, dX, fun d ai => jh d (List.mem_of_mem_take ai), ?_, mG, p9⟩
       have A6 : cv.length = b * sz := by
        rw [bf.length _ _ _ m1, tc _ (fun d ai => jh d (List.mem_of_mem_take ai)), hlen]
       have : cur.toList.take ((xs.take b).length * sz) = cv := by
        rw [hlen]
        have ag : b * sz ≤ xs.length * sz := Nat.mul_le_mul_right _ r5.1
        have : (cur.toList.take (xs.length * sz)).take (b * sz) = cv := by rw [ao, List.take_left' A6]
        rwa [List.take_take, Nat.min_eq_left ag] at this
       rw [this]
       exact bf.mono (fun _ h => h) _ _ _ _ m3 m1
     ·cases he
    ·cases he
   ·cases he
  ·cases he
 ·cases he
end
section
variable {C : b4} {w0 w : World} {F0 X F : Nat → Prop} {S : Nat → Nat → Prop} {s s1 : al} {aB : Nat → Value} {av : I}
def Src (P : Program) (w : World) (size : Nat) (x : Value) (m : Nat) (news : List Value) : Prop :=
 ∀ aL : World, aL.heap = w.heap → (Builtin.lenOf x).run P aL = .ok m aL ∧ (Builtin.firstCells size m x).run P aL = .ok news.toArray aL
def Ft (d : TypeDesc) : Prop := (∃ e, d = .slice e) ∨ d = .string
theorem SE {P : Program} {T bR ty e : TypeId} {q8 : TypeDesc} {i : TypeInfo} (a1 : P.underlying T = some (.slice e)) (hu : P.underlying bR = some q8) (tr : Ft q8) (an : P.info? e = some i)
  {x : Value} {m : Nat} {news : List Value} (A8 : Src P w i.size x m news) {b n cap : Nat} {cur : Array Value} {gh : TypeId} {fr : Nat × Nat} {l mid r : List Value} (aa : w.heap[b]? = some (.cells cur gh fr)) (bz : rV fr cur.size)
  (ao : cur.toList = l ++ (mid ++ r)) (hl : l.length = n * i.size) (hm : mid.length = news.length) (A3 : ∀ v ∈ news, Value.gJ v = true) (p_ : n + m ≤ cap) :
  ∃ aL, (Builtin.append_ #[T, bR] ty #[.slice (some ⟨b, 0, none⟩) n cap, x]).run P w = .ok (.slice (some ⟨b, 0, none⟩) (n + m) cap) aL ∧ aL.heap[b]? = some (.cells (l ++ (news ++ r)).toArray gh fr) ∧
    (∀ c, c ≠ b → aL.heap[c]? = w.heap[c]?) ∧ aL.heap.size = w.heap.size ∧ aL.os = w.os ∧ aL.tape = w.tape ∧ aL.output = w.output := by
 obtain ⟨aL, m1, m2⟩ := A2 (P := P) (b := b) (o := n * i.size) (e := gh) (fr := fr) news 0 cur w l mid r aa bz ao (by omega) hm A3
 refine ⟨aL, ?_, m2⟩
 obtain ⟨af, ag⟩ := A8 w rfl
 rcases tr with ⟨gA, rfl⟩ | rfl <;> simp [Builtin.append_, run_underlying a1, run_underlying hu, kp an, af, ag, p_, Addr.add_lit, m1]
theorem SF {P : Program} {T bR ty e : TypeId} {q8 : TypeDesc} {i : TypeInfo} {z : Value} (a1 : P.underlying T = some (.slice e)) (hu : P.underlying bR = some q8) (tr : Ft q8) (an : P.info? e = some i) (bS : i.zero = some z)
  {x : Value} {m : Nat} {news : List Value} (A8 : Src P w i.size x m news) {base : Option Addr} {n cap : Nat} {pn : List Value} (hold : Src P w i.size (.slice base n cap) n pn) (p_ : ¬ n + m ≤ cap)
  (bc : n + m ≤ 9223372036854775807) (Fu : (n + m) * i.bytes ≤ 140737488355328) :
  (Builtin.append_ #[T, bR] ty #[.slice base n cap, x]).run P w = .ok (.slice (some ⟨w.heap.size, 0, none⟩) (n + m) (grownCap w (n + m) cap e))
   (w.drew.alloc (.cells (pn.toArray ++ news.toArray ++ Builtin.zeroCells z.cells (grownCap w (n + m) cap e - (n + m))) e)) := by
 have af := (A8 w rfl).1
 have ag := (A8 w.drew rfl).2
 have aF := (hold w.drew rfl).2
 have ayM := growslice_fits (need := n + m) (old := cap) (by omega) Fu
 have ir : ¬ (281474976710656 < Builtin.nextslicecap (n + m) cap * i.bytes) := by omega
 have vy : ∀ k (w : World), (askRoom k).run P w = .ok () w := by
  intro k w
  unfold askRoom
  split <;> rfl
 have Fv : ¬ (9223372036854775807 < (n : Int) + (m : Int) ∧ i.bytes = 0) := by omega
 rcases tr with ⟨gA, rfl⟩ | rfl <;>
  ·simp [Builtin.append_, run_underlying a1, run_underlying hu, kp an, th an, af, p_, ir, Question.forced, vy]
   rw [if_neg Fv, aF]
   simp [ag, r0 an bS, newRow, grownCap]
   have aN : (pn ++ news).toArray = pn.toArray ++ news.toArray := by simp
   rw [aN, Array.append_assoc]
def A9 (C : b4) (e bR : TypeId) : Bool := match (C.T bR).k, (C.T e).k with
 | .slice gA, _ => gA == e
 | .str, .int .u8 => true
 | _, _ => false
def mH (C : b4) (s : al) (T bR : TypeId) (x y : I) : Option (I × al) :=
 match (C.T T).k with
 | .slice e => if (C.T e).ok = true ∧ (C.T e).zero.wd = (C.T e).sz ∧ (flat (C.T e).zero).isSome = true ∧ A9 C e bR = true then
   match (match x with | .bo => some (I.au (C.T e).sz [], s) | .h a q => cO s (.h a q) | _ => none) with
   | some (.au sz xs, s1) => if sz = (C.T e).sz then
     match (match k4 x.owner y with
      | .bo => some ([], s1)
      | .slice ck => some (ck, s1)
      | .str l => some (l.map gu, s1)
      | .h a q => match cO s1 (.h a q) with
        | some (.au _ ck, s2) => some (ck, s2)
        | _ => none
      | _ => none) with
     | some (ck, s2) => if (∀ d ∈ ck, d.wd = (C.T e).sz) ∧ (xs.length + ck.length) * (C.T e).bytes ≤ 140737488355328 ∧ xs.length + ck.length ≤ 9223372036854775807 then some (.au sz (xs ++ ck), s2) else none
     | none => none
     else none
   | _ => none
   else none
 | _ => none
theorem bf.append {xs ck : List I} {cv cw : List Value} {cc dB aR : Nat → Prop} (af : bf w F xs cv cc) (ag : bf w F ck cw dB) (aN : ∀ b, cc b → aR b) (aZ : ∀ b, dB b → aR b) (aT : ∀ b, cc b → ¬ dB b) : bf w F (xs ++ ck) (cv ++ cw) aR := by
 induction xs generalizing cv cc aR with
 | nil => rw [bf] at af; subst af; exact bf.mono (fun _ h => h) _ _ _ _ aZ ag
 | cons x xs ih =>
   rw [bf] at af
   obtain ⟨SG, SH, hV, hi, rfl, g1, g2, g3, g4, g5⟩ := af
   rw [List.cons_append, bf]
   refine ⟨SG, SH ++ cw, hV, fun b => hi b ∨ dB b, by simp, g1, ih g2 (fun b h => .inl h) (fun b h => .inr h) (fun b h => aT b (g4 b h)), fun b h => aN b (g3 b h), ?_, ?_⟩
   ·rintro b (h | h)
    ·exact aN b (g4 b h)
    ·exact aZ b h
   ·rintro b h (bE | bE)
    ·exact g5 b h bE
    ·exact aT b (g3 b h) bE
theorem Fw {P : Program} {size m cap : Nat} {b o : Nat} {news : List Value} (kn : h5 w b o news) (hl : news.length = m * size) : Src P w size (.slice (some ⟨b, o, none⟩) m cap) m news := by
 intro aL hw
 refine ⟨rfl, ?_⟩
 refine run_firstCells_some aL size m ⟨b, o, none⟩ m cap news hl (fun j v bw => ?_)
 rw [Addr.add_lit]
 have := kn j v bw
 simpa [World.cell?, hw] using this
theorem Kk {P : Program} {size cap : Nat} : Src P w size (.slice none 0 cap) 0 [] := by
 intro aL _
 exact ⟨rfl, by simp [Builtin.firstCells]⟩
theorem Fx {P : Program} {size cap : Nat} (a : Option Addr) : Src P w size (.slice a 0 cap) 0 [] := by
 cases a with
 | none => exact Kk
 | some a =>
   intro aL _
   exact ⟨rfl, run_firstCells_some aL size 0 a 0 cap [] (by simp) (fun j v bw => by simp at bw)⟩
theorem SI {P : Program} (l : List UInt8) : Src P w 1 (.string ⟨⟨l⟩⟩) l.length (l.map fun b => .int .u8 (b.toNat : Int)) := by
 intro aL _
 refine ⟨rfl, ?_⟩
 have : (⟨⟨l⟩⟩ : ByteArray).extract 0 l.length = ⟨⟨l⟩⟩ := by
  apply ByteArray.ext
  simp [ByteArray.data_extract]
 simp [Builtin.firstCells, this]
theorem bf.ts {sz : Nat} {xs : List I} {cs : List Value} {aR : Nat → Prop} (h : bf w F xs cs aR) (hw : ∀ d ∈ xs, d.wd = sz) : cs.length = xs.length * sz := by
 rw [bf.length _ _ _ h, tc _ hw]
theorem bM.turn (h : bM w0 F0 X F S s aB w) {aL : World} {b : Nat} (aa : ∀ c, c ≠ b → aL.heap[c]? = w.heap[c]?) (ab : aL.heap.size = w.heap.size) (af : aL.os = w.os) (ag : aL.tape = w.tape) (aF : aL.output = w.output)
  (bG : ¬ F b) (bX : ∀ u, ¬ S u b) (bn : X b ∨ w0.heap.size ≤ b) : bM w0 F0 X F S s aB aL where
 hs := h.hs
 hG := h.hG
 fe := fun c ao => by rw [ab]; exact h.fe c ao
 eJ := fun t c ao => by rw [ab]; exact h.eJ t c ao
 fY := h.fY
 ff := h.ff
 dS := h.dS
 dp := fun t => aI.frame (Sx := S) (fun c ao => aa c (by rintro rfl; exact bG ao)) (fun _ h => h) (fun x c ao => aa c (by rintro rfl; exact bX x ao)) h.dp _ _ _ (fun c ao => aa c (by rintro rfl; exact bX t ao)) (h.dp t)
 old := fun c dZ kG => by
  rw [aa c ?_]
  ·exact h.old c dZ kG
  ·rintro rfl
   rcases bn with bn | bn
   ·exact kG bn
   ·omega
 size := by rw [ab]; exact h.size
 os := af.trans h.os
 tape := ag.trans h.tape
 output := aF.trans h.output
theorem SJ (bp : C.eP) (h : bM w0 F0 X F S s aB w) {T bR ty : TypeId} {x y : I} {h_ jf : Value} (aq : aI w F s aB x h_ (fun _ => False)) (hy : aI w F s aB y jf (fun _ => False))
  (he : mH C s T bR x y = some (av, s1)) : Good C w0 F0 X aB w (Builtin.append_ #[T, bR] ty #[h_, jf]) av s1 := by
 unfold mH at he
 split at he
 ·rename_i e ar
  obtain ⟨Fy, d, Fz, aN, aZ, aT, b2, cI, bZ, bO⟩ := bp.info (gq ar (by simp))
  rw [ar] at bO
  have := lR bO; subst this
  split at he
  ·rename_i tk
   obtain ⟨pk, qa, q9, qb⟩ := tk
   obtain ⟨i, FA, z, f1, f2, f3, f4, f5, f6, f7⟩ := bp.info pk
   obtain ⟨e9, mi⟩ := Option.isSome_iff_exists.1 q9
   have q_ := f5 e9 mi
   have po : e9.length = (C.T e).sz := by
    have := ay.length _ _ _ ((ay.flat (w := w) (F := F) _).1 (C.T e).zero e9 (fun _ => False) (Nat.le_refl _) mi)
    rw [this, qa]
   obtain ⟨q8, hu, tr⟩ : ∃ q8, C.P.underlying bR = some q8 ∧ Ft q8 := by
    unfold A9 at qb
    split at qb
    ·rename_i gA lq
     obtain ⟨_, bx, _, _, _, _, _, _, g6, g7⟩ := bp.info (gq lq (by simp))
     rw [lq] at g7
     exact ⟨bx, g6, .inl ⟨_, lR g7⟩⟩
    ·rename_i lq _
     obtain ⟨_, bx, _, _, _, _, _, _, g6, g7⟩ := bp.info (gq lq (by simp))
     rw [lq] at g7
     exact ⟨bx, g6, .inr (p4 g7)⟩
    ·cases qb
   split at he
   ·rename_i sz xs FB qc
    split at he
    ·rename_i d_
     subst d_
     split at he
     ·rename_i ck yg og
      split at he
      ·rename_i SK
       obtain ⟨vz, Fu, FC⟩ := SK
       simp only [Option.some.injEq, Prod.mk.injEq] at he
       obtain ⟨rfl, rfl⟩ := he
       obtain ⟨hV, a0, Sn, a3, a4, a5, p7, p8, ayN, a9, r6⟩ : ∃ hV, bM w0 F0 X F hV FB aB w ∧ ∃ Sn, ay w F (.au (C.T e).sz xs) [h_] Sn ∧ (∀ b, Sn b → b < w.heap.size) ∧ (∀ b, Sn b → ¬ F b) ∧ (∀ u b, Sn b → ¬ hV u b) ∧
         (∀ b, Sn b → X b ∨ w0.heap.size ≤ b) ∧ (∀ u b, hV u b → S u b) ∧ (∀ b, Sn b → ∃ u, S u b) ∧ aI w F FB aB (k4 x.owner y) jf (fun _ => False) := by
        split at qc
        ·simp only [Option.some.injEq, Prod.mk.injEq, I.au.injEq, true_and] at qc
         obtain ⟨rfl, rfl⟩ := qc
         have := q6 aq; subst this
         exact ⟨S, h, fun _ => False, by rw [ay]; exact .inl ⟨rfl, _, rfl⟩, fun _ h => h.elim, fun _ h => h.elim, fun _ _ h => h.elim, fun _ h => h.elim, fun _ _ h => h, fun _ h => h.elim, hy⟩
        ·obtain ⟨cc, g0, g1, g2, Sn, g3, g4, g5, g6, g7, g8, g9, g10⟩ := pd h rfl aq qc
         rw [hj g2] at g3
         exact ⟨cc, g0, Sn, g3, g4, g5, g6, g7, g8, g9, g10 _ _ _ hy⟩
        ·cases qc
       obtain ⟨hi, jU, nH, news, hN, gT, hn, b8, c8, ft, pq, c5⟩ : ∃ hi, bM w0 F0 X F hi yg aB w ∧ ∃ nH news, bf w F ck news nH ∧ Src C.P w i.size jf ck.length news ∧ (∀ b, nH b → b < w.heap.size) ∧ (∀ b, nH b → ¬ F b) ∧ (∀ u b, nH b → ¬ hi u b) ∧
         (∀ b, nH b → X b ∨ w0.heap.size ≤ b) ∧ (∀ u b, hi u b → hV u b) ∧ (∀ b, nH b → ∃ u, hV u b) := by
        split at og
        ·rename_i tt
         simp only [Option.some.injEq, Prod.mk.injEq] at og
         obtain ⟨rfl, rfl⟩ := og
         rw [tt] at r6
         have := q6 r6; subst this
         exact ⟨hV, a0, fun _ => False, [], by rw [bf], Kk, fun _ h => h.elim, fun _ h => h.elim, fun _ _ h => h.elim, fun _ h => h.elim, fun _ _ h => h, fun _ h => h.elim⟩
        ·rename_i eL tt
         simp only [Option.some.injEq, Prod.mk.injEq] at og
         obtain ⟨rfl, rfl⟩ := og
         rw [tt] at r6
         rcases A5 r6 with ⟨rfl, vx, ayO, rfl, _, tm⟩ | ⟨b, o, cap, eu, SL, rfl, bt, b0, dK, de, dI, dX⟩
         ·exact ⟨hV, a0, fun _ => False, [], by rw [bf], Fx vx, fun _ h => h.elim, fun _ h => h.elim, fun _ _ h => h.elim, fun _ h => h.elim, fun _ _ h => h, fun _ h => h.elim⟩
         ·exact ⟨hV, a0, fun _ => False, eu, dX, Fw dI (by rw [f2]; exact bf.ts dX vz), fun _ h => h.elim, fun _ h => h.elim, fun _ _ h => h.elim, fun _ h => h.elim, fun _ _ h => h, fun _ h => h.elim⟩
        ·rename_i l tt
         simp only [Option.some.injEq, Prod.mk.injEq] at og
         obtain ⟨rfl, rfl⟩ := og
         rw [tt] at r6
         have := nF r6; subst this
         have A_ : l ≠ [] → i.size = 1 := by
          intro hl
          cases l with
          | nil => exact (hl rfl).elim
          | cons b l => rw [f2, ← vz (gu b) (by simp)]; rfl
         by_cases hl : l = []
         ·subst hl
          refine ⟨hV, a0, fun _ => False, [], by simp only [List.map_nil]; rw [bf], ?_, fun _ h => h.elim, fun _ h => h.elim, fun _ _ h => h.elim, fun _ h => h.elim, fun _ _ h => h, fun _ h => h.elim⟩
          intro aL _
          exact ⟨rfl, by simp [Builtin.firstCells, ByteArray.extract]; rfl⟩
         ·refine ⟨hV, a0, fun _ => False, _, Ke l _, ?_, fun _ h => h.elim, fun _ h => h.elim, fun _ _ h => h.elim, fun _ h => h.elim, fun _ _ h => h, fun _ h => h.elim⟩
          rw [A_ hl, List.length_map]
          exact SI l
        ·rename_i a q tt
         split at og
         ·rename_i ayP eL s2 a1
          simp only [Option.some.injEq, Prod.mk.injEq] at og
          obtain ⟨rfl, rfl⟩ := og
          rw [tt] at r6
          obtain ⟨dB, g0, g1, g2, nH, g3, g4, g5, g6, g7, g8, g9, g10⟩ := pd a0 rfl r6 a1
          rw [hj g2, ay] at g3
          rcases g3 with ⟨rfl, SM, lp⟩ | ⟨b, cap, cur, gh, fr, aR, lp, bt, b0, dK, de, dI, dX, jh, hb, mG, p9⟩
          ·simp at lp; subst lp
           exact ⟨dB, g0, fun _ => False, [], by rw [bf], (Fx SM), fun _ h => h.elim, fun _ h => h.elim, fun _ _ h => h.elim, fun _ h => h.elim, g8, fun _ h => h.elim⟩
          ·simp at lp; subst lp
           refine ⟨dB, g0, aR, _, hb, Fw (vk b0 _) ?_, fun c ao => g4 c (mG c ao), fun c ao => g5 c (mG c ao), fun u c ao => g6 u c (mG c ao), fun c ao => g7 c (mG c ao), g8, fun c ao => g9 c (mG c ao)⟩
           rw [f2]; exact bf.ts hb vz
         ·cases og
        ·cases og
       have r7 : news.length = ck.length * (C.T e).sz := bf.ts hN vz
       have oh : ∀ c, Sn c → ¬ nH c := fun c af ag => by obtain ⟨u, hu⟩ := c5 c ag; exact p7 u c af hu
       have jd : ∀ u c, Sn c → ¬ hi u c := fun u c af ag => p7 u c af (pq u c ag)
       have grow : ∀ (base : Option Addr) (cap : Nat) (pn : List Value) (Sx : Nat → Prop), h_ = .slice base xs.length cap → Src C.P w i.size (.slice base xs.length cap) xs.length pn → bf w F xs pn Sx → (∀ d ∈ xs, d.wd = (C.T e).sz) → (∀ c, Sx c → Sn c) → ¬ xs.length + ck.length ≤ cap →
         Good C w0 F0 X aB w (Builtin.append_ #[T, bR] ty #[h_, jf]) (.au (C.T e).sz (xs ++ ck)) yg := by
        intro base cap pn Sx Fm hold Kl Km e6 p_
        subst Fm
        have aW := SF (ty := ty) bZ hu tr f1 f4 gT hold p_ FC (by rw [f3]; exact Fu)
        have yd := grownCap_ge w (xs.length + ck.length) cap e
        have ye := grownCap_le_maxLen w (xs.length + ck.length) cap e (by unfold maxLen; omega)
        have yh := bf.ts Kl Km
        have SN : bf w F (xs ++ ck) (pn ++ news) (fun c => Sx c ∨ nH c) := bf.append Kl hN (fun _ h => .inl h) (fun _ h => .inr h) (fun c af ag => oh c (e6 c af) ag)
        have SO : (pn ++ news).length = (xs ++ ck).length * (C.T e).sz := by simp [yh, r7, Nat.add_mul]
        have kJ := jU.ya (aL := w.drew.alloc (.cells (pn.toArray ++ news.toArray ++ Builtin.zeroCells z.cells (grownCap w (xs.length + ck.length) cap e - (xs.length + ck.length))) e))
         (sz := (C.T e).sz) (cap := grownCap w (xs.length + ck.length) cap e) (xs := xs ++ ck) (e := e) (fr := (0, 0)) (Sn := fun c => Sx c ∨ nH c) rfl rfl rfl rfl
         (fun o _ ⟨_, ag⟩ => absurd ag (Nat.not_lt_zero _)) (by simpa using yd) ye
         (by
          simp only [Array.size_append, List.size_toArray, size_zeroCells, q_, yh, r7, po, ← Nat.add_mul]
          congr 1; omega)
         (by
          intro d ai
          rcases List.mem_append.1 ai with ai | ai
          ·exact Km d ai
          ·exact vz d ai)
         (by
          simp only [Array.toList_append]
          rw [List.take_left' SO]
          exact SN)
         (by rintro c (ao | ao); exact a4 c (e6 c ao); exact hn c ao) (by rintro c (ao | ao); exact a5 c (e6 c ao); exact b8 c ao) (by rintro u c (ao | ao); exact jd u c (e6 c ao); exact c8 u c ao) (by rintro c (ao | ao); exact p8 c (e6 c ao); exact ft c ao)
        refine ⟨_, _, F, hi, aW, kJ.1, ?_⟩
        have := kJ.2
        simpa using this
       rw [ay] at a3
       rcases a3 with ⟨rfl, Ba, lp⟩ | ⟨b, cap, cur, gh, fr, aR, lp, bt, b0, dK, de, dI, dX, jh, hb, mG, p9⟩
       ·simp at lp; subst lp
        by_cases Kn : ck = []
        ·subst Kn
         have FD : news = [] := by simpa using r7
         subst FD
         refine ⟨.slice Ba 0 0, w, F, hi, ?_, jU, .inr ⟨rfl, rfl, fun _ => False, by simp only [cp, iG]; rw [ay]; exact .inl ⟨rfl, _, rfl⟩, fun _ h => h.elim, fun _ h => h.elim, fun _ _ h => h.elim, fun _ h => h.elim⟩⟩
         obtain ⟨af, ag⟩ := gT w rfl
         cases Ba <;> rcases tr with ⟨gA, rfl⟩ | rfl <;> simp at af ag <;> simp [Builtin.append_, run_underlying bZ, run_underlying hu, kp f1, af, ag, storeCells]
        ·exact grow Ba 0 [] (fun _ => False) rfl (Fx Ba) (by rw [bf]) (by simp) (fun _ h => h.elim) (by
          cases ck with
          | nil => exact (Kn rfl).elim
          | cons y ck => simp)
       ·simp at lp; subst lp
        by_cases p_ : xs.length + ck.length ≤ cap
        ·
         have yh := bf.ts hb jh
         have hlen : cur.toList.length = cap * (C.T e).sz := by simp [dX]
         have hle : (xs.length + ck.length) * (C.T e).sz ≤ cap * (C.T e).sz := Nat.mul_le_mul_right _ p_
         rw [Nat.add_mul] at hle
         have lN : cur.toList = cur.toList.take (xs.length * (C.T e).sz) ++ ((cur.toList.drop (xs.length * (C.T e).sz)).take news.length ++ (cur.toList.drop (xs.length * (C.T e).sz)).drop news.length) := by
          rw [List.take_append_drop, List.take_append_drop]
         obtain ⟨aL, m1, m2, m3, m4, m5, m6, m7⟩ := SE (ty := ty) (n := xs.length) (m := ck.length) (cap := cap) bZ hu tr f1 gT b0 dK lN (by rw [f2]; exact yh) (by simp [hlen, r7]; omega) (bf.ti _ _ _ hN) p_
         have SP := jU.turn m3 m4 m5 m6 m7 (a5 b bt) (fun u hu => jd u b bt hu) (p8 b bt)
         have p3 : ∀ c, F c → aL.heap[c]? = w.heap[c]? := fun c ao => m3 c (by rintro rfl; exact a5 _ bt ao)
         refine ⟨_, aL, F, hi, m1, SP, .inr ⟨rfl, rfl, fun c => Sn c ∨ nH c, ?_, ?_, ?_, ?_, ?_⟩⟩
         ·simp only [cp, iG]
          rw [ay]
          have Ko : (cur.toList.take (xs.length * (C.T e).sz) ++ (news ++ (cur.toList.drop (xs.length * (C.T e).sz)).drop news.length)).toArray.size = cur.size := by
           have : cur.size = cur.toList.length := by simp
           rw [this]
           conv => rhs; rw [lN]
           simp [hlen, r7]; omega
          refine .inr ⟨b, cap, _, gh, fr, fun c => aR c ∨ nH c, by simp, .inl bt, m2, by rw [Ko]; exact dK, by simpa using p_, dI, by rw [Ko]; exact dX, ?_, ?_, ?_, ?_⟩
          ·intro d ai
           rcases List.mem_append.1 ai with ai | ai
           ·exact jh d ai
           ·exact vz d ai
          ·have vt := bf.frame p3 _ _ _ (fun c ao => m3 c (by rintro rfl; exact p9 ao)) hb
           have tg := bf.frame p3 _ _ _ (fun c ao => m3 c (by rintro rfl; exact oh _ bt ao)) hN
           have : ((cur.toList.take (xs.length * (C.T e).sz) ++ (news ++ (cur.toList.drop (xs.length * (C.T e).sz)).drop news.length)).toArray.toList.take ((xs ++ ck).length * (C.T e).sz)) = cur.toList.take (xs.length * (C.T e).sz) ++ news := by
            simp only []
            rw [← List.append_assoc]
            exact List.take_left' (by rw [List.length_append, yh, r7, List.length_append, Nat.add_mul])
           rw [this]
           exact bf.append vt tg (fun _ h => .inl h) (fun _ h => .inr h) (fun c af ag => oh c (mG c af) ag)
          ·rintro c (ao | ao)
           ·exact .inl (mG c ao)
           ·exact .inr ao
          ·rintro (ao | ao)
           ·exact p9 ao
           ·exact oh b bt ao
         ·rw [m4]; rintro c (ao | ao); exact a4 c ao; exact hn c ao
         ·rintro c (ao | ao); exact a5 c ao; exact b8 c ao
         ·rintro u c (ao | ao); exact jd u c ao; exact c8 u c ao
         ·rintro c (ao | ao); exact p8 c ao; exact ft c ao
        ·exact grow (some ⟨b, 0, none⟩) cap _ aR rfl (Fw (vk b0 _) (by rw [f2]; exact bf.ts hb jh)) hb jh mG p_
      ·cases he
     ·cases he
    ·cases he
   ·cases he
  ·cases he
 ·cases he
end
section
variable {C : b4} {w0 w aL : World} {F0 X F : Nat → Prop} {S : Nat → Nat → Prop} {s s1 : al} {aB : Nat → Value} {av : I}
theorem bM.SQ (h : bM w0 F0 X F S s aB w) {x : Nat} {q : List Nat} {d bx : I} {b : Nat} (ai : I.sub q (s x) = some d) (aw : d.plain = false) (SR : bx.tree = true) (af : ∀ v, iH d v → iH bx v) (ab : ∀ v, dT d v → dT bx v)
  (ag : ∀ vs, bx ≠ .tuple vs) (k1 : bx.wd = d.wd) (aa : ∀ cM a fq, dn w q (s x) (cp (aB x)) none = some (d, cM, a) → ay w F d cM fq → fq b ∧ ay aL F bx cM fq) (n8 : ∀ c, c ≠ b → aL.heap[c]? = w.heap[c]?) (d_ : aL.heap.size = w.heap.size) (Fa : aL.os = w.os)
  (Fb : aL.tape = w.tape) (te : aL.output = w.output) : ∃ aR, bM w0 F0 X F aR (db (hX x s) x (I.put q bx (s x))) aB aL := by
 have a1 := h9 ai (.inl aw)
 have aq := h.dp x
 rw [aI.cJ a1] at aq
 obtain ⟨cM, a, en, fq, g0, g1, g2, g3, g4, g5⟩ := ctx q (s x) (cp (aB x)) (S x) none d aq.2 ai
 obtain ⟨tf, aK⟩ := aa cM a fq g0 g4
 have tu : S x b := g2 b tf
 have p3 : ∀ c, F c → aL.heap[c]? = w.heap[c]? := fun c ao => n8 c (by rintro rfl; exact h.fY x _ tu ao)
 have vo : ∀ c, en c → c ≠ b := fun c ao e => g3 c ao (e ▸ tf)
 have kE : ay aL F (I.put q bx (s x)) (cp (aB x)) (fun c => en c ∨ fq c) := by
  rcases g5 with ⟨l, r, aN, aZ, aT⟩ | ⟨jU, cur, e, fr, l, r, aN, aZ, aT, b2, cI, bZ⟩
  ·rw [aN]
   exact aT aL bx cM fq p3 (fun c ao => n8 c (vo c ao)) k1 aK (fun c ao k3 => g3 c k3 ao)
  ·refine bZ aL bx cM fq p3 (fun c ao _ => n8 c (vo c ao)) ?_ k1 aK (fun c ao k3 => g3 c k3 ao)
   rw [n8 jU (vo jU aZ), aT, ← cI]
 have xV : dT (I.put q bx (s x)) (aB x) ∧ (I.put q bx (s x)).tree = true := by
  cases q with
  | nil =>
    simp only [I.sub, Option.some.injEq] at ai
    simp only [I.put]
    exact ⟨ab _ (ai ▸ aq.1), SR⟩
  | cons k q =>
    refine ⟨xT aq.1 ai af (fun _ => ag) k1, ?_⟩
    rcases rZ k q bx (s x) with ⟨ax, gs, aN, e⟩ | ⟨ax, gs, aN, e⟩ | ⟨sz, xs, ck, aN, e⟩ | ⟨y, z, aN, e⟩ | e <;> rw [e] <;> first | rfl | exact a1
 let az := db (hX x s) x (I.put q bx (s x))
 have hA : ∀ y, y ≠ x → (az y).tree = true → az y = s y ∧ aB y = aB y := fun y hy a1 => by
  have e : az y = cY.cj x (s y) := jD _ _ hy
  rw [e] at a1 ⊢
  exact ⟨(AV a1).2, rfl⟩
 have mA : (az x).plain = false → (s x).plain = false ∧ ∀ v, dT (s x) v → dT (az x) v := by
  intro _
  refine ⟨?_, fun v aK => ?_⟩
  ·cases xU : (s x).plain with
   | false => rfl
   | true => rw [I.E5 _ _ _ xU ai] at aw; cases aw
  ·simp only [az, me]
   cases q with
   | nil =>
     simp only [I.sub, Option.some.injEq] at ai
     simp only [I.put]
     exact ab _ (ai ▸ aK)
   | cons k q => exact xT aK ai af (fun _ => ag) k1
 have both : ∀ c, (en c ∨ fq c) → S x c := fun c ao => ao.elim (g1 c) (g2 c)
 refine ⟨fZ S x (fun c => en c ∨ fq c), ?_⟩
 constructor
 case hs => exact h.hs
 case hG => exact h.hG
 case fe => exact fun b aa => by rw [d_]; exact h.fe b aa
 case eJ =>
  intro u c aa
  rw [d_]
  simp only [fZ] at aa
  split at aa
  ·exact h.eJ x c (both c aa)
  ·exact h.eJ u c aa
 case fY =>
  intro u c aa
  simp only [fZ] at aa
  split at aa
  ·exact h.fY x c (both c aa)
  ·exact h.fY u c aa
 case ff =>
  intro u y c dC aa hy
  simp only [fZ] at aa hy
  split at aa
  ·rename_i hu
   rw [if_neg (fun e => dC (hu.trans e.symm))] at hy
   exact h.ff x y c (fun e => dC (hu.trans e)) (both c aa) hy
  ·rename_i hu
   split at hy
   ·exact h.ff u x c hu aa (both c hy)
   ·exact h.ff u y c dC aa hy
 case dS =>
  intro u c aa
  simp only [fZ] at aa
  split at aa
  ·exact h.dS x c (both c aa)
  ·exact h.dS u c aa
 case dp =>
  intro u
  by_cases hu : u = x
  ·subst hu
   rw [me, xR]
   exact (aI.cJ xV.2).2 ⟨xV.1, kE⟩
  ·rw [jD _ _ hu, xS _ _ hu]
   have dC : ∀ y c, y ≠ x → S y c → aL.heap[c]? = w.heap[c]? := fun y c hy ao => n8 c (by rintro rfl; exact h.ff y x c hy ao tu)
   refine (aI.cj hA rfl mA (fun y f_ d2 hy gZ xW => ?_) p3 _).1 _ _ _ (Nat.le_refl _) (fun c ao => dC u c hu ao) (h.dp u)
   have xX := h.dp y
   rw [aI.cJ (h9 gZ xW)] at xX
   exact AU f_ _ _ _ none d2 xX.2 gZ (fun c ao => dC y c hy ao)
 case old =>
  intro c dZ kG
  rw [n8 c ?_]
  ·exact h.old c dZ kG
  ·rintro rfl
   rcases h.dS x c tu with bn | bn
   ·exact kG bn
   ·omega
 case size => rw [d_]; exact h.size
 case os => exact Fa.trans h.os
 case tape => exact Fb.trans h.tape
 case output => exact te.trans h.output
def Kp (P : Program) (t : TypeId) : Bool := match P.info? t with
 | some i => match i.zero with
   | some (.bool false) => true
   | _ => false
 | none => false
def r8 (C : b4) (T : TypeId) : Bool := match (C.T T).k with
 | .map pr r9 => match (C.T pr).k with
   | .str => Kp C.P r9
   | _ => false
 | _ => false
def iJ (C : b4) (s : al) (T : TypeId) (x i : I) : Option I := match x, i with
 | .h y q, .str k => match I.sub q (s y) with
   | some (.ct (.mp m)) => if r8 C T = true then some (.bool (kC k m)) else none
   | _ => none
 | _, _ => none
def jF (C : b4) (s : al) (T : TypeId) (x i v : I) : Option al := match x, i, v with
 | .h y q, .str k, .bool b => match I.sub q (s y) with
   | some (.ct (.mp m)) => if r8 C T = true then some (db (hX y s) y (I.put q (.ct (.mp (kD k b m))) (s y))) else none
   | _ => none
 | _, _, _ => none
theorem Kq (bp : C.eP) {T : TypeId} (h : r8 C T = true) : ∃ pr r9, C.P.underlying T = some (.map pr r9) ∧ C.P.underlying pr = some .string ∧ ∀ w, (zeroValue r9).run C.P w = .ok (.bool false) w := by
 unfold r8 at h
 split at h
 ·rename_i pr r9 ar
  split at h
  ·rename_i af
   obtain ⟨i, d, z, aN, aZ, aT, b2, cI, bZ, bO⟩ := bp.info (gq ar (by simp))
   obtain ⟨q2, bx, q3, f1, f2, f3, f4, f5, f6, f7⟩ := bp.info (gq af (by simp))
   rw [ar] at bO
   rw [af] at f7
   have := p4 f7; subst this
   refine ⟨pr, r9, ?_, f6, fun w => ?_⟩
   ·rw [bZ]; cases d <;> simp [lP] at bO
    rw [bO.1, bO.2]
   ·unfold Kp at h
    split at h
    ·rename_i i2 g1
     split at h
     ·rename_i g2; exact r0 g1 g2 w
     ·cases h
    ·cases h
  ·cases h
 ·cases h
theorem FE (a b : ByteArray) : (a == b) = true ↔ a = b := by
 constructor
 ·intro h
  exact ByteArray.ext (eq_of_beq (show (a.data == b.data) = true from h))
 ·rintro rfl
  show (a.data == a.data) = true
  simp
theorem FF (k : List UInt8) (b : Bool) : ∀ (es : List MapEntry) (m : List (List UInt8 × Bool)) (i : Nat), es.map (fun e => (e.key, e.val)) = m.map (fun e => (.string ⟨⟨e.1⟩⟩, .bool e.2)) →
  (Instr.findNow .string (.string ⟨⟨k⟩⟩) es i = some none ∧ kC k m = false ∧ kD k b m = m ++ [(k, b)]) ∨
  ∃ j e, es[j]? = some e ∧ e.key = .string ⟨⟨k⟩⟩ ∧ Instr.findNow .string (.string ⟨⟨k⟩⟩) es i = some (some (i + j, .bool (kC k m))) ∧ kD k b m = m.set j (k, b)
 | [], m, i, h => by
   have : m = [] := by simpa using h.symm
   subst this
   exact .inl ⟨rfl, rfl, rfl⟩
 | e :: es, [], i, h => by simp at h
 | e :: es, (cL, fX) :: m, i, h => by
   simp only [List.map_cons, List.cons.injEq, Prod.mk.injEq] at h
   obtain ⟨⟨af, ag⟩, aF⟩ := h
   by_cases ar : cL = k
   ·subst ar
    refine .inr ⟨0, e, rfl, af, ?_, by simp [kD]⟩
    have : (((⟨⟨cL⟩⟩ : ByteArray) == ⟨⟨cL⟩⟩)) = true := (FE _ _).2 rfl
    simp only [Instr.findNow, af, ag, Instr.sameNow, kC, this, if_true, Nat.add_zero]
   ·have bc : ((⟨⟨k⟩⟩ : ByteArray) == ⟨⟨cL⟩⟩) = false := by
     refine Bool.eq_false_iff.2 fun e => ar ?_
     have := (FE _ _).1 e
     simp only [ByteArray.mk.injEq, Array.mk.injEq] at this
     exact this.symm
    rcases FF k b es m (i + 1) aF with ⟨g1, g2, g3⟩ | ⟨j, gA, g1, g2, g3, g4⟩
    ·refine .inl ⟨?_, ?_, ?_⟩
     ·simp only [Instr.findNow, af, Instr.sameNow, bc]; exact g1
     ·simp [kC, ar, g2]
     ·simp [kD, ar, g3]
    ·refine .inr ⟨j + 1, gA, g1, g2, ?_, ?_⟩
     ·simp only [Instr.findNow, af, Instr.sameNow, bc]
      rw [g3]; simp [kC, ar, Nat.add_assoc, Nat.add_comm 1 j]
     ·simp [kD, ar, g4]
theorem Bb {P : Program} {pr : TypeId} (ar : P.underlying pr = some .string) (e : Bool) (k : ByteArray) (w : World) : (Instr.checkKey e 10000 pr (.string k)).run P w = .ok () w := by
 unfold Instr.checkKey
 simp [run_underlying ar]
theorem Kr (h : bM w0 F0 X F S s aB w) {y : Nat} {q : List Nat} {m : List (List UInt8 × Bool)} {v : Value} (aK : aI w F s aB (.h y q) v (fun _ => False)) (ai : I.sub q (s y) = some (.ct (.mp m))) :
  ∃ r ms mZ, v = .map (some r) ∧ w.heap[r]? = some (.map ms mZ) ∧ ms.toList.map (fun e => (e.key, e.val)) = m.map (fun e => (.string ⟨⟨e.1⟩⟩, .bool e.2)) ∧
    ∃ a, dn w q (s y) (cp (aB y)) none = some (.ct (.mp m), [.map (some r)], a) := by
 rw [aI] at aK
 obtain ⟨cM, a, g1, g2, g3⟩ := aK _ ai rfl
 have af : Value.gJ v = true := g3
 rw [hj af] at g2
 have aq := h.dp y
 rw [aI.cJ (h9 ai (.inl rfl))] at aq
 obtain ⟨gp, cN, en, fq, k0, bt, b0, dK, de, dI⟩ := ctx q (s y) (cp (aB y)) (S y) none _ aq.2 ai
 rw [k0] at g1
 simp only [Option.some.injEq, Prod.mk.injEq, true_and] at g1
 obtain ⟨rfl, rfl⟩ := g1
 rw [ay] at de
 obtain ⟨r, ms, mZ, aN, aZ, aT, b2⟩ := de
 rw [aN] at g2 k0
 exact ⟨r, ms, mZ, by simpa using g2, aT, b2, cN, k0⟩
theorem SS (bp : C.eP) (h : bM w0 F0 X F S s aB w) {T : TypeId} {x i : I} {h_ n_ : Value} (aq : aI w F s aB x h_ (fun _ => False)) (an : aI w F s aB i n_ (fun _ => False)) (he : iJ C s T x i = some av) :
  Good C w0 F0 X aB w (Instr.lookup T h_ n_ false) av s := by
 unfold iJ at he
 split at he
 ·rename_i y q k
  split at he
  ·rename_i m ai
   split at he
   ·rename_i jE
    simp only [Option.some.injEq] at he; subst he
    obtain ⟨pr, r9, t1, t2, t3⟩ := Kq bp jE
    obtain ⟨r, ms, mZ, rfl, aZ, aT, _⟩ := Kr h aq ai
    have := nF an; subst this
    refine Good.same h (v := .bool (kC k m)) ?_ rfl (of_bool _)
    rcases FF k true ms.toList m 0 aT with ⟨g1, g2, _⟩ | ⟨j, e, _, _, g1, _⟩
    ·simp [Instr.lookup, run_underlying t1, getObj, Sem.run, aZ, Bb t2, Instr.findKey, run_underlying t2, g1, t3, g2]
    ·simp [Instr.lookup, run_underlying t1, getObj, Sem.run, aZ, Bb t2, Instr.findKey, run_underlying t2, g1]
   ·cases he
  ·cases he
 ·cases he
theorem SU (bp : C.eP) (h : bM w0 F0 X F S s aB w) {T : TypeId} {x i v : I} {h_ n_ Ks : Value} (aq : aI w F s aB x h_ (fun _ => False)) (an : aI w F s aB i n_ (fun _ => False)) (aK : aI w F s aB v Ks (fun _ => False)) {s2 : al}
  (he : jF C s T x i v = some s2) : ∃ aL aR, (Instr.mapUpdate T h_ n_ Ks).run C.P w = .ok () aL ∧ bM w0 F0 X F aR s2 aB aL := by
 unfold jF at he
 split at he
 ·rename_i y q k b
  split at he
  ·rename_i m ai
   split at he
   ·rename_i jE
    simp only [Option.some.injEq] at he; subst he
    obtain ⟨pr, r9, t1, t2, t3⟩ := Kq bp jE
    obtain ⟨r, ms, mZ, rfl, aZ, aT, a0, k2⟩ := Kr h aq ai
    have := nF an; subst this
    have := r3 aK; subst this
    have key : ∀ (Bc : Array MapEntry) (FG : Nat), Bc.toList.map (fun e => (e.key, e.val)) = (kD k b m).map (fun e => (.string ⟨⟨e.1⟩⟩, .bool e.2)) →
      ∃ aR, bM w0 F0 X F aR (db (hX y s) y (I.put q (.ct (.mp (kD k b m))) (s y))) aB { w with heap := w.heap.setIfInBounds r (.map Bc FG) } := by
     intro Bc FG hm
     have aW : r < w.heap.size := (Array.getElem?_eq_some_iff.1 aZ).1
     refine bM.SQ (b := r) h ai rfl rfl (fun v aK => aK) (fun v aK => aK) (fun vs e => by cases e) rfl ?_ (fun c ao => ?_) (by simp) rfl rfl rfl
     ·intro cM a fq bz ha
      rw [k2] at bz
      simp only [Option.some.injEq, Prod.mk.injEq, true_and] at bz
      obtain ⟨rfl, _⟩ := bz
      rw [ay] at ha ⊢
      obtain ⟨gU, r_, ayQ, f1, f2, f3, f4⟩ := ha
      simp only [List.cons.injEq, Value.map.injEq, Option.some.injEq, and_true] at f1
      subst f1
      exact ⟨f2, r, Bc, FG, rfl, f2, by simp [aW], hm⟩
     ·simp [Ne.symm ao]
    rcases FF k b ms.toList m 0 aT with ⟨g1, _, g2⟩ | ⟨j, e, g0, ge, g1, g2⟩
    ·obtain ⟨aR, bt⟩ := key (ms.push { key := .string ⟨⟨k⟩⟩, val := .bool b, born := mZ }) (mZ + 1) (by rw [g2]; simp [aT])
     exact ⟨_, aR, by simp [Instr.mapUpdate, run_underlying t1, getObj, setObj, Sem.run, aZ, Bb t2, Instr.findKey, run_underlying t2, g1], bt⟩
    ·rw [Nat.zero_add] at g1
     obtain ⟨aR, bt⟩ := key (ms.modify j fun e => { e with key := .string ⟨⟨k⟩⟩, val := .bool b }) mZ (by
      rw [g2, List.map_set, ← aT]
      apply List.ext_getElem?
      intro n
      by_cases bc : n = j
      ·subst bc
       have : n < ms.toList.length := (List.getElem?_eq_some_iff.1 g0).1
       rw [List.getElem?_set_self (by simpa using this)]
       simp [g0]
      ·simp [List.getElem?_set_ne (Ne.symm bc), Ne.symm bc])
     have SV : ms[j]? = some e := by simpa using g0
     exact ⟨_, aR, by simp [Instr.mapUpdate, run_underlying t1, getObj, setObj, Sem.run, aZ, Bb t2, Instr.findKey, run_underlying t2, g1, SV, ge, Instr.keyThatStays, Instr.sameBits, (FE ⟨⟨k⟩⟩ ⟨⟨k⟩⟩).2 rfl], bt⟩
   ·cases he
  ·cases he
 ·cases he
theorem SW (h : bM w0 F0 X F S s aB w) (t : TypeId) : Good C w0 F0 X aB w (Instr.makeMap t none) (.ct (.mp [])) s := by
 have hold : ∀ b, b < w.heap.size → (w.alloc (.map #[] 0)).heap[b]? = w.heap[b]? := by
  intro b aa
  show (w.heap.push _)[b]? = _
  rw [Array.getElem?_push, if_neg (by omega)]
 refine ⟨.map (some w.heap.size), w.alloc (.map #[] 0), F, S, ?_, h.grow hold (by simp) rfl rfl rfl, .inr ⟨rfl, rfl, fun b => b = w.heap.size, ?_, ?_, ?_, ?_, ?_⟩⟩
 ·simp [Instr.makeMap, newObj, Sem.run]
 ·rw [ay]
  refine ⟨w.heap.size, #[], 0, rfl, rfl, ?_, rfl⟩
  show (w.heap.push _)[_]? = _
  simp
 ·rintro b rfl; simp
 ·rintro b rfl q5; exact Nat.lt_irrefl _ (h.fe _ q5)
 ·rintro u b rfl hu; exact Nat.lt_irrefl _ (h.eJ _ _ hu)
 ·rintro b rfl; exact .inr h.size
end
end Go.cY
