/- Part of a proof that a law returns true for every input. No condition. -/
import Derived.Test.YtocllehpepigpaaGreatFwC
import Derived.Test.YtocllehpepigpaaGreatFwA
import Derived.Laws.IdiomStrings
import Derived.Laws.Strings
import Derived.LaidEql
import Derived.WideLaws
import Derived.Laws.StructEq
namespace Go.dg
section
variable {C : cE} {w0 w : World} {F0 X F : Nat → Prop} {S : Nat → Nat → Prop} {s s1 : ar} {aC : Nat → Value} {av : I}
theorem qj {k : IntKind} {n : Int} {v : Value} {aX : Nat → Prop} (h : aM w F s aC (.int k n) v aX) : v = .int k n := by
 have bP := (aM.c0 rfl).1 h
 rw [aw, hF bP.1] at bP
 simpa using bP.2
theorem sr {b : Bool} {v : Value} {aX : Nat → Prop} (h : aM w F s aC (.bool b) v aX) : v = .bool b := by
 have bP := (aM.c0 rfl).1 h
 rw [aw, hF bP.1] at bP
 simpa using bP.2
theorem pG {b : List UInt8} {v : Value} {aX : Nat → Prop} (h : aM w F s aC (.str b) v aX) : v = .string ⟨⟨b⟩⟩ := by
 have bP := (aM.c0 rfl).1 h
 rw [aw, hF bP.1] at bP
 simpa using bP.2
theorem I0 {v : Value} {aX : Nat → Prop} (h : aM w F s aC .dI v aX) : v = .pointer none := by
 have bP := (aM.c0 rfl).1 h
 rw [aw, hF bP.1] at bP
 simpa using bP.2
theorem qk {v : Value} {aX : Nat → Prop} (h : aM w F s aC .bp v aX) : v = .slice none 0 0 := by
 have bP := (aM.c0 rfl).1 h
 rw [aw, hF bP.1] at bP
 simpa using bP.2
theorem I1 {v : Value} {aX : Nat → Prop} (h : aM w F s aC .fu v aX) : ∃ b, v = .bool b := by
 have bP := (aM.c0 rfl).1 h
 rw [aw, hF bP.1] at bP
 simpa using bP.2
theorem of_int (k : IntKind) (n : Int) : aM w F s aC (.int k n) (.int k n) (fun _ => False) := (aM.c0 rfl).2 ⟨rfl, by rw [aw]; rfl⟩
theorem of_bool (b : Bool) : aM w F s aC (.bool b) (.bool b) (fun _ => False) := (aM.c0 rfl).2 ⟨rfl, by rw [aw]; rfl⟩
theorem oL (b : List UInt8) : aM w F s aC (.str b) (.string ⟨⟨b⟩⟩) (fun _ => False) := (aM.c0 rfl).2 ⟨rfl, by rw [aw]; rfl⟩
theorem ED (b : Bool) : aM w F s aC .fu (.bool b) (fun _ => False) := (aM.c0 rfl).2 ⟨rfl, by rw [aw]; exact ⟨b, rfl⟩⟩
def jl (op : BinOp) (k : IntKind) (a : Int) (dA : IntKind) (b : Int) : Option I :=
 match op with
 | .shl => if b < 0 then none else some (.int k (k.wrap (a * 2 ^ (min b.toNat k.bits))))
 | .shr => if b < 0 then none else some (.int k (a.fdiv (2 ^ (min b.toNat k.bits))))
 | .add => if k = dA then some (.int k (k.wrap (a + b))) else none
 | .sub => if k = dA then some (.int k (k.wrap (a - b))) else none
 | .mul => if k = dA then some (.int k (k.wrap (a * b))) else none
 | .quo => if k = dA ∧ b ≠ 0 then some (.int k (k.wrap (a.tdiv b))) else none
 | .rem => if k = dA ∧ b ≠ 0 then some (.int k (a.tmod b)) else none
 | .eql => if k = dA then some (.bool (a == b)) else none
 | .neq => if k = dA then some (.bool (a != b)) else none
 | .lss => if k = dA then some (.bool (decide (a < b))) else none
 | .leq => if k = dA then some (.bool (decide (a ≤ b))) else none
 | .gtr => if k = dA then some (.bool (decide (b < a))) else none
 | .geq => if k = dA then some (.bool (decide (b ≤ a))) else none
 | .and => if k = dA then some (.int k (bitsOf .and k a b)) else none
 | .or => if k = dA then some (.int k (bitsOf .or k a b)) else none
 | .xor => if k = dA then some (.int k (bitsOf .xor k a b)) else none
 | .andNot => if k = dA then some (.int k (bitsOf .andNot k a b)) else none
def nk (op : BinOp) (a b : List UInt8) : Option I :=
 match op with
 | .add => if a.length + b.length ≤ 9223372036854775807 then some (.str (a ++ b)) else none
 | .eql => some (.bool (a == b))
 | .neq => some (.bool !(a == b))
 | .lss => some (.bool (Op.bytesLess a b))
 | .leq => some (.bool (Op.bytesLess a b || a == b))
 | .gtr => some (.bool !(Op.bytesLess a b || a == b))
 | .geq => some (.bool !(Op.bytesLess a b))
 | _ => none
def j0 (s : ar) : I → Option (Option Bool)
 | .bp => some (some true)
 | .slice xs => some (if xs = [] then none else some false)
 | .h x q => match I.sub q (s x) with
   | some (.ao _ xs) => some (if xs = [] then none else some false)
   | _ => none
 | _ => none
def lI (s : ar) : I → Option Bool
 | .dI => some true
 | .ref _ => some false
 | .h x q => match I.sub q (s x) with
   | some (.bb _) => some false
   | _ => none
 | _ => none
def oM (neg : Bool) : Option Bool → I
 | some b => .bool (b != neg)
 | none => .fu
def structEq (P : Program) (T : TypeId) : Bool := !P.stoodInHeld T && !P.eqGuardType P.depth T && (P.fieldsOf T).toList.all fun f => decide (f.name ≠ "_")
def nT (C : cE) : List (TypeId × Nat) → Nat → List I → List I → Option Bool
 | [], _, [], [] => some true
 | (jY, off) :: ay, n, d :: ds, e :: es => if off = n then (match (C.T jY).k, d, e with
   | .int k, .int ca a, .int cy b => if ca = k ∧ cy = k then (nT C ay (n + 1) ds es).map fun r => a == b && r else none
   | .bool, .bool a, .bool b => (nT C ay (n + 1) ds es).map fun r => a == b && r
   | .str, .str a, .str b => (nT C ay (n + 1) ds es).map fun r => a == b && r
   | _, _, _ => none) else none
 | _, _, _, _ => none
def ck (C : cE) (s : ar) (op : BinOp) (T : TypeId) (x y : I) : Option I :=
 match x, y with
 | .int k a, .int dA b => jl op k a dA b
 | .str a, .str b => nk op a b
 | .bool a, .bool b => match op, (C.T T).k with
   | .eql, .bool => some (.bool (a == b))
   | .neq, .bool => some (.bool !(a == b))
   | _, _ => none
 | .agg ds, .agg es => match op, (C.T T).k with
   | .eql, .struct ay => if structEq C.P T = true then (nT C ay 0 ds es).map fun b => .bool b else none
   | .neq, .struct ay => if structEq C.P T = true then (nT C ay 0 ds es).map fun b => .bool !b else none
   | _, _ => none
 | x, .bp => match op, (C.T T).k with
   | .eql, .slice _ => (j0 s x).map (oM false)
   | .neq, .slice _ => (j0 s x).map (oM true)
   | _, _ => none
 | x, .dI => match op, (C.T T).k with
   | .eql, .ptr _ => (lI s x).map fun b => .bool b
   | .neq, .ptr _ => (lI s x).map fun b => .bool !b
   | _, _ => none
 | _, _ => none
theorem Q4 {P : Program} {op : BinOp} {T : TypeId} {k dA : IntKind} {a b : Int} (he : jl op k a dA b = some av) (w : World) :
  ∃ v, (binOp op T (.int k a) (.int dA b)).run P w = .ok v w ∧ aM w F s aC av v (fun _ => False) := by
 unfold jl at he
 cases op <;> simp only at he <;> split at he <;> first | (cases he; done) | skip
 all_goals
  rename_i ax
  simp only [Option.some.injEq] at he
  subst he
 all_goals first
  | (subst ax; simp only [binOp_add, binOp_sub, binOp_mul, binOp_eql, binOp_neq, binOp_lss, binOp_leq, binOp_gtr, binOp_geq, binOp_and, binOp_or, binOp_xor, binOp_andNot, Op.intArith, Op.intBits, Sem.run_pure, Result.ok.injEq, and_true, exists_eq_left']
     first | exact of_int _ _ | exact of_bool _)
  | (obtain ⟨rfl, bf⟩ := ax
     simp only [binOp_quo, binOp_rem, Op.intDiv, bf, if_false, Sem.run_pure, Result.ok.injEq, and_true, exists_eq_left']
     exact of_int _ _)
  | (simp only [binOp_shl, binOp_shr, Op.shift, ax, if_false, Sem.run_pure, Result.ok.injEq, and_true, exists_eq_left']
     exact of_int _ _)
theorem w8 (a : List UInt8) : (⟨⟨a⟩⟩ : ByteArray).toList = a := ByteArray.toList_eq _
theorem Q5 (a b : List UInt8) : (⟨⟨a⟩⟩ : ByteArray) ++ (⟨⟨b⟩⟩ : ByteArray) = ⟨⟨a ++ b⟩⟩ := by
 apply ByteArray.ext
 simp [ByteArray.data_append]
theorem Q6 {P : Program} {op : BinOp} {T : TypeId} {a b : List UInt8} (he : nk op a b = some av) (w : World) :
  ∃ v, (binOp op T (.string ⟨⟨a⟩⟩) (.string ⟨⟨b⟩⟩)).run P w = .ok v w ∧ aM w F s aC av v (fun _ => False) := by
 have ad : ∀ op, binOp op T (.string ⟨⟨a⟩⟩) (.string ⟨⟨b⟩⟩) = Op.stringOp op ⟨⟨a⟩⟩ ⟨⟨b⟩⟩ := by intro op; cases op <;> rfl
 rw [ad]
 unfold nk at he
 cases op <;> simp only [Option.some.injEq] at he <;> first | (cases he; done) | skip
 case add =>
  split at he
  ·rename_i hl
   simp only [Option.some.injEq] at he; subst he
   have af : ((ByteArray.size ⟨⟨a⟩⟩ + ByteArray.size ⟨⟨b⟩⟩ : Nat) : Int) ≤ 9223372036854775807 := by
    show ((a.length + b.length : Nat) : Int) ≤ _
    omega
   refine ⟨.string ⟨⟨a ++ b⟩⟩, ?_, oL _⟩
   simp only [Op.stringOp, IntKind.max_i64]
   rw [if_neg (by omega), Q5]
   rfl
  ·cases he
 all_goals
  subst he
  simp only [Op.stringOp, w8, Sem.run_pure, Result.ok.injEq, and_true, exists_eq_left']
  exact of_bool _
theorem EE (h : b9 w0 F0 X F S s aC w) {v : Value} {y : Nat} {q : List Nat} (aQ : aM w F s aC (.h y q) v (fun _ => False)) {sz : Nat} {xs : List I} (aj : I.sub q (s y) = some (.ao sz xs)) :
  (xs = [] ∧ ∃ a, v = .slice a 0 0) ∨ ∃ b cap cur e fr, v = .slice (some ⟨b, 0, none⟩) xs.length cap ∧ w.heap[b]? = some (.cells cur e fr) ∧ oC fr cur.size ∧ xs.length ≤ cap ∧ cap ≤ maxLen ∧ cur.size = cap * sz ∧ (∀ d ∈ xs, d.wd = sz) ∧
   ∃ aX, bg w F xs (cur.toList.take (xs.length * sz)) aX ∧ (∀ c, aX c → S y c) ∧ S y b := by
 rw [aM] at aQ
 obtain ⟨dp, a, bc, bA, cU⟩ := aQ _ aj rfl
 have af : Value.hf v = true := cU
 rw [hF af] at bA; subst bA
 have aq := h.eg y
 rw [aM.c0 (iX aj (.inl rfl))] at aq
 obtain ⟨gO, da, fl, hK, k0, ca, cy, fy, eB, gr⟩ := ctx q (s y) (cL (aC y)) (S y) none _ aq.2 aj
 rw [k0] at bc
 simp only [Option.some.injEq, Prod.mk.injEq, true_and] at bc
 obtain ⟨rfl, rfl⟩ := bc
 rw [aw] at eB
 rcases eB with ⟨rfl, a7, ah⟩ | ⟨b, cap, cur, ba, fr, ej, aW, cS, cZ, cn, bV, hv, kv, nm, nU, ey, ee⟩
 ·simp at ah; exact .inl ⟨rfl, _, ah⟩
 ·simp at aW
  exact .inr ⟨b, cap, cur, ba, fr, aW, cZ, cn, bV, hv, kv, nm, ej, nU, fun c ax => cy _ (ey c ax), cy _ cS⟩
theorem I2 (h : b9 w0 F0 X F S s aC w) {v : Value} {y : Nat} {q : List Nat} (aQ : aM w F s aC (.h y q) v (fun _ => False)) {d : I} (aj : I.sub q (s y) = some (.bb d)) :
  ∃ b cur e fr, v = .pointer (some ⟨b, 0, none⟩) ∧ w.heap[b]? = some (.cells cur e fr) := by
 rw [aM] at aQ
 obtain ⟨dp, a, bc, bA, cU⟩ := aQ _ aj rfl
 have af : Value.hf v = true := cU
 rw [hF af] at bA; subst bA
 have aq := h.eg y
 rw [aM.c0 (iX aj (.inl rfl))] at aq
 obtain ⟨gO, da, fl, hK, k0, ca, cy, fy, eB, gr⟩ := ctx q (s y) (cL (aC y)) (S y) none _ aq.2 aj
 rw [k0] at bc
 simp only [Option.some.injEq, Prod.mk.injEq, true_and] at bc
 obtain ⟨rfl, rfl⟩ := bc
 rw [aw] at eB
 obtain ⟨b, cur, ba, fr, ej, aW, cS, cZ, _⟩ := eB
 simp at aW
 exact ⟨b, cur, ba, fr, aW, cZ⟩
theorem I3 {P : Program} {T e : TypeId} (bo : P.underlying T = some (.slice e)) (w : World) : ∀ d, (Op.equalIn (d + 1) T (.slice none 0 0) (.slice none 0 0)).run P w = .ok true w ∧
  ∀ a n c, (Op.equalIn (d + 1) T (.slice (some a) n c) (.slice none 0 0)).run P w = .ok false w := by
 intro d
 refine ⟨by simp [Op.equalIn, run_underlying bo], fun a n c => by simp [Op.equalIn, run_underlying bo]⟩
theorem I4 {P : Program} {T e : TypeId} (bo : P.underlying T = some (.pointer e)) (w : World) : ∀ d, (Op.equalIn (d + 1) T (.pointer none) (.pointer none)).run P w = .ok true w ∧
  ∀ a, (Op.equalIn (d + 1) T (.pointer (some a)) (.pointer none)).run P w = .ok false w := by
 intro d
 refine ⟨by simp [Op.equalIn, run_underlying bo], fun a => by simp [Op.equalIn, run_underlying bo]⟩
theorem I5 {P : Program} {T : TypeId} (bo : P.underlying T = some .bool) (w : World) : ∀ d a b, (Op.equalIn (d + 1) T (.bool a) (.bool b)).run P w = .ok (a == b) w := by
 intro d a b
 simp [Op.equalIn, run_underlying bo]
theorem I6 (h : b9 w0 F0 X F S s aC w) {x : I} {v : Value} (aQ : aM w F s aC x v (fun _ => False)) {T e : TypeId} {r : Option Bool} (aZ : j0 s x = some r) (bo : C.P.underlying T = some (.slice e)) :
  ∃ b, (Op.equal T v (.slice none 0 0)).run C.P w = .ok b w ∧ (∀ gA, r = some gA → gA = b) ∧ Value.hf v = true ∧ ∃ a n c, v = .slice a n c := by
 have aU := fun a n c => (I3 bo w 9999).2 a n c
 have g4 := (I3 bo w 9999).1
 cases x with
 | bp =>
   have := qk aQ; subst this
   simp [j0] at aZ; subst aZ
   exact ⟨true, g4, by simp, rfl, _, _, _, rfl⟩
 | slice xs =>
   have bP := (aM.c0 rfl).1 aQ
   rw [aw, hF bP.1] at bP
   simp only [j0, Option.some.injEq] at aZ
   obtain ⟨_, ⟨rfl, a, c, ah, _, ss⟩ | ⟨b, o, cap, e3, sz, ah, aH⟩⟩ := bP
   ·simp at ah aZ; subst ah; subst aZ
    cases a with
    | none =>
      have := ss rfl; subst this
      exact ⟨true, g4, by simp, rfl, _, _, _, rfl⟩
    | some a => exact ⟨false, aU _ _ _, by simp, rfl, _, _, _, rfl⟩
   ·simp at ah; subst ah
    refine ⟨false, aU _ _ _, ?_, rfl, _, _, _, rfl⟩
    subst aZ
    split <;> simp
 | h y q =>
   simp only [j0] at aZ
   split at aZ
   ·rename_i sz xs aj
    simp only [Option.some.injEq] at aZ
    rcases EE h aQ aj with ⟨rfl, a, rfl⟩ | ⟨b, cap, cur, ba, fr, rfl, _⟩
    ·simp at aZ; subst aZ
     cases a with
     | none => exact ⟨true, g4, by simp, rfl, _, _, _, rfl⟩
     | some a => exact ⟨false, aU _ _ _, by simp, rfl, _, _, _, rfl⟩
    ·refine ⟨false, aU _ _ _, ?_, rfl, _, _, _, rfl⟩
     subst aZ
     split <;> simp
   ·cases aZ
 | _ => simp [j0] at aZ
theorem I7 (h : b9 w0 F0 X F S s aC w) {x : I} {v : Value} (aQ : aM w F s aC x v (fun _ => False)) {T e : TypeId} {r : Bool} (aZ : lI s x = some r) (bo : C.P.underlying T = some (.pointer e)) :
  (Op.equal T v (.pointer none)).run C.P w = .ok r w ∧ ∃ a, v = .pointer a := by
 have aU := fun a => (I4 bo w 9999).2 a
 have g4 := (I4 bo w 9999).1
 cases x with
 | dI =>
   have := I0 aQ; subst this
   simp [lI] at aZ; subst aZ
   exact ⟨g4, _, rfl⟩
 | ref d =>
   have bP := (aM.c0 rfl).1 aQ
   rw [aw, hF bP.1] at bP
   simp [lI] at aZ; subst aZ
   obtain ⟨_, b, o, e3, ah, _⟩ := bP
   simp at ah; subst ah
   exact ⟨aU _, _, rfl⟩
 | h y q =>
   simp only [lI] at aZ
   split at aZ
   ·rename_i d aj
    simp only [Option.some.injEq] at aZ; subst aZ
    obtain ⟨b, cur, e, fr, rfl, _⟩ := I2 h aQ aj
    exact ⟨aU _, _, rfl⟩
   ·cases aZ
 | _ => simp [lI] at aZ
theorem Q7 (bz : C.Ok) : ∀ (ay : List (TypeId × Nat)) (gs : List Field) (n : Nat) (ds es : List I) (r : Bool) (hx l2 cD cz : List Value) (xs cd : Array Value) (cu ej : Nat → Prop),
  gs.map (fun g => (g.type, g.offset)) = ay → (gs.all fun f => decide (f.name ≠ "_")) = true → nT C ay n ds es = some r → bg w F ds cD cu → bg w F es cz ej → xs.toList = hx ++ cD → hx.length = n → cd.toList = l2 ++ cz → l2.length = n →
  ∀ m, (Op.eqFields (m + 1) xs cd gs).run C.P w = .ok r w := by
 intro ay
 induction ay with
 | nil =>
   intro gs n ds es r hx l2 cD cz xs cd cu ej cb a_ he ae ah aq hl bl EF m
   have : gs = [] := by simpa using cb
   subst this
   cases ds <;> cases es <;> simp [nT] at he
   subst he
   simp [Op.eqFields]
 | cons p ay ih =>
   obtain ⟨jY, off⟩ := p
   intro gs n ds es r hx l2 cD cz xs cd cu ej cb a_ he ae ah aq hl bl EF m
   cases gs with
   | nil => simp at cb
   | cons g gs =>
     simp only [List.map_cons, List.cons.injEq, Prod.mk.injEq] at cb
     obtain ⟨⟨rfl, rfl⟩, cb⟩ := cb
     simp only [List.all_cons, Bool.and_eq_true, decide_eq_true_eq] at a_
     cases ds with
     | nil => simp [nT] at he
     | cons d ds =>
     cases es with
     | nil => simp [nT] at he
     | cons e es =>
     simp only [nT] at he
     split at he
     ·rename_i pE
      rw [bg] at ae ah
      obtain ⟨U, a7, Ai, Q8, rfl, f_, hk, ik, I8, gP⟩ := ae
      obtain ⟨kW, iN, aA6, Q9, rfl, hG, hg, iw, ix, nV⟩ := ah
      have step : ∀ (x y : Value) (z : Bool), (C.T g.type).flat = true → U = [x] → kW = [y] → (∀ m, (Op.equalIn (m + 1) g.type x y).run C.P w = .ok z w) → ∀ h9, nT C ay (n + 1) ds es = some h9 →
        (Op.eqFields (m + 1) xs cd (g :: gs)).run C.P w = .ok (z && h9) w := by
       intro x y z jB Q_ Ra heq h9 e8
       subst Q_; subst Ra
       have Rb : xs[g.offset]? = some x := by
        rw [← Array.getElem?_toList, aq, pE, ← hl, List.getElem?_append_right (Nat.le_refl _)]; simp
       have Rc : cd[g.offset]? = some y := by
        rw [← Array.getElem?_toList, bl, pE, ← EF, List.getElem?_append_right (Nat.le_refl _)]; simp
       have au := ih gs (n + 1) ds es h9 (hx ++ [x]) (l2 ++ [y]) a7 iN xs cd Q8 Q9 cb a_.2 e8 hk hg (by rw [aq]; simp) (by simp [hl]) (by rw [bl]; simp) (by simp [EF]) m
       unfold Op.eqFields
       rw [if_pos a_.1]
       simp only [part, Sem.run_bind, EB bz jB, Result.andThen_ok, Bool.false_eq_true, if_false, Rb, Rc, Sem.run_pure, heq]
       cases z
       ·simp
       ·simpa using au
      split at he
      ·rename_i k ca a cy b aA
       split at he
       ·rename_i Re
        obtain ⟨rfl, rfl⟩ := Re
        rw [aw] at f_ hG
        simp only [Option.map_eq_some_iff] at he
        obtain ⟨h9, e8, rfl⟩ := he
        obtain ⟨i, w9, I9, aU, ba, aW, cS, cZ, cn, bV⟩ := bz.info (gV aA (by simp))
        rw [aA] at bV
        have su := w4 bV
        subst su
        exact step _ _ _ (by simp [hn.flat, aA]) f_ hG (fun m => run_equalIn_int w m g.type _ _ a b cn) h9 e8
       ·cases he
      ·rename_i a b aA
       rw [aw] at f_ hG
       simp only [Option.map_eq_some_iff] at he
       obtain ⟨h9, e8, rfl⟩ := he
       obtain ⟨i, w9, I9, aU, ba, aW, cS, cZ, cn, bV⟩ := bz.info (gV aA (by simp))
       rw [aA] at bV
       have su := Ew bV
       subst su
       exact step _ _ _ (by simp [hn.flat, aA]) f_ hG (fun m => run_equalIn_bool' w m g.type a b cn) h9 e8
      ·rename_i a b aA
       rw [aw] at f_ hG
       simp only [Option.map_eq_some_iff] at he
       obtain ⟨h9, e8, rfl⟩ := he
       obtain ⟨i, w9, I9, aU, ba, aW, cS, cZ, cn, bV⟩ := bz.info (gV aA (by simp))
       rw [aA] at bV
       have su := qh bV
       subst su
       refine step _ _ (a == b) (by simp [hn.flat, aA]) f_ hG (fun m => ?_) h9 e8
       rw [run_equalIn_string w m g.type _ _ cn, w8, w8]
      ·cases he
     ·cases he
theorem I_ (bz : C.Ok) {T : TypeId} {ay : List (TypeId × Nat)} (aA : (C.T T).k = .struct ay) {ds es : List I} {jC i6 : Value} {cu ej : Nat → Prop} {r : Bool} (aq : aM w F s aC (.agg ds) jC cu) (bl : aM w F s aC (.agg es) i6 ej)
  (c4 : structEq C.P T = true) (he : nT C ay 0 ds es = some r) (op : BinOp) (w_ xa : Operand) :
  (eqGuard op T w_ xa jC i6).run C.P w = .ok () w ∧ (Op.equal T jC i6).run C.P w = .ok r w := by
 obtain ⟨i, d, z, aU, ba, aW, cS, cZ, cn, bV⟩ := bz.info (gV aA (by simp))
 rw [aA] at bV
 obtain ⟨gs, rfl, hv⟩ := w3 bV
 have xb : C.P.fieldsOf T = gs := by simp [Program.fieldsOf, cn]
 simp only [structEq, Bool.and_eq_true, Bool.not_eq_true', xb] at c4
 obtain ⟨⟨hG, hg⟩, iw⟩ := c4
 obtain ⟨⟨xs, rfl⟩, uJ⟩ := (aM.c0 rfl).1 aq
 obtain ⟨⟨cd, rfl⟩, sj⟩ := (aM.c0 rfl).1 bl
 rw [aw] at uJ sj
 constructor
 ·cases op <;> simp [eqGuard, hg]
 ·show (Op.equalIn (9999 + 1) T _ _).run C.P w = _
  rw [run_equalIn_struct w 9999 T xs cd (by rw [xb]; exact cn) hG, xb]
  exact Q7 bz ay gs.toList 0 ds es r [] [] _ _ xs cd cu ej hv iw he uJ sj rfl rfl rfl rfl 9998
theorem Rf (bz : C.Ok) (h : b9 w0 F0 X F S s aC w) {op : BinOp} {T : TypeId} {x y : I} {jC i6 : Value} (w_ xa : Operand) (aq : aM w F s aC x jC (fun _ => False)) (bl : aM w F s aC y i6 (fun _ => False))
  (he : ck C s op T x y = some av) : Good C w0 F0 X aC w (do eqGuard op T w_ xa jC i6; binOp op T jC i6) av s := by
 unfold ck at he
 split at he
 ·have := qj aq; subst this
  have := qj bl; subst this
  obtain ⟨v, ae, ah⟩ := Q4 (P := C.P) (T := T) he w
  refine Good.same h (v := v) ?_ ?_ ah
  ·rw [eqGuard_at_int]; exact ae
  ·revert he; unfold jl; cases op <;> simp only <;> split <;> simp <;> (rintro rfl; rfl)
 ·have := pG aq; subst this
  have := pG bl; subst this
  obtain ⟨v, ae, ah⟩ := Q6 (P := C.P) (T := T) he w
  refine Good.same h (v := v) ?_ ?_ ah
  ·rw [eqGuard_at_string]; exact ae
  ·revert he; unfold nk; cases op <;> simp only <;> (try split) <;> simp <;> (try (rintro rfl; rfl))
 ·have := sr aq; subst this
  have := sr bl; subst this
  split at he
  ·rename_i aA
   simp only [Option.some.injEq] at he; subst he
   obtain ⟨i, d, z, aU, ba, aW, cS, cZ, cn, bV⟩ := bz.info (gV aA (by simp))
   rw [aA] at bV
   have := Ew bV; subst this
   refine Good.same h ?_ rfl (of_bool _)
   rw [eqGuard_at_bool]
   simp [binOp, Op.equal, Op.maxDepth, I5 cn w 9999]
  ·rename_i aA
   simp only [Option.some.injEq] at he; subst he
   obtain ⟨i, d, z, aU, ba, aW, cS, cZ, cn, bV⟩ := bz.info (gV aA (by simp))
   rw [aA] at bV
   have := Ew bV; subst this
   refine Good.same h ?_ rfl (of_bool _)
   rw [eqGuard_at_bool]
   simp [binOp, Op.equal, Op.maxDepth, I5 cn w 9999]
  ·cases he
 ·split at he
  ·rename_i ay aA
   split at he
   ·rename_i c4
    simp only [Option.map_eq_some_iff] at he
    obtain ⟨r, aZ, rfl⟩ := he
    obtain ⟨bc, bA⟩ := I_ bz aA aq bl c4 aZ .eql w_ xa
    obtain ⟨⟨xs, rfl⟩, _⟩ := (aM.c0 rfl).1 aq
    obtain ⟨⟨cd, rfl⟩, _⟩ := (aM.c0 rfl).1 bl
    exact Good.same h (by simp [bc, binOp, bA]) rfl (of_bool _)
   ·cases he
  ·rename_i ay aA
   split at he
   ·rename_i c4
    simp only [Option.map_eq_some_iff] at he
    obtain ⟨r, aZ, rfl⟩ := he
    obtain ⟨bc, bA⟩ := I_ bz aA aq bl c4 aZ .neq w_ xa
    obtain ⟨⟨xs, rfl⟩, _⟩ := (aM.c0 rfl).1 aq
    obtain ⟨⟨cd, rfl⟩, _⟩ := (aM.c0 rfl).1 bl
    exact Good.same h (by simp [bc, binOp, bA]) rfl (of_bool _)
   ·cases he
  ·cases he
 ·have := qk bl; subst this
  split at he
  ·rename_i e aA
   simp only [Option.map_eq_some_iff] at he
   obtain ⟨r, aZ, rfl⟩ := he
   obtain ⟨i, d, z, aU, ba, aW, cS, cZ, cn, bV⟩ := bz.info (gV aA (by simp))
   rw [aA] at bV
   have := lH bV; subst this
   obtain ⟨b, ae, ah, aH, a0, bS, nh, rfl⟩ := I6 h aq aZ cn
   refine Good.same h (v := .bool b) ?_ ?_ ?_
   ·rw [eqGuard_at_slice]
    simp [binOp, ae]
   ·cases r <;> rfl
   ·cases r with
    | none => exact ED b
    | some gA => have := ah gA rfl; subst this; simp only [oM, Bool.bne_false]; exact of_bool _
  ·rename_i e aA
   simp only [Option.map_eq_some_iff] at he
   obtain ⟨r, aZ, rfl⟩ := he
   obtain ⟨i, d, z, aU, ba, aW, cS, cZ, cn, bV⟩ := bz.info (gV aA (by simp))
   rw [aA] at bV
   have := lH bV; subst this
   obtain ⟨b, ae, ah, aH, a0, bS, nh, rfl⟩ := I6 h aq aZ cn
   refine Good.same h (v := .bool !b) ?_ ?_ ?_
   ·rw [eqGuard_at_slice]
    simp [binOp, ae]
   ·cases r <;> rfl
   ·cases r with
    | none => exact ED _
    | some gA => have := ah gA rfl; subst this; simp only [oM, Bool.bne_true]; exact of_bool _
  ·cases he
 ·have := I0 bl; subst this
  split at he
  ·rename_i e aA
   simp only [Option.map_eq_some_iff] at he
   obtain ⟨r, aZ, rfl⟩ := he
   obtain ⟨i, d, z, aU, ba, aW, cS, cZ, cn, bV⟩ := bz.info (gV aA (by simp))
   rw [aA] at bV
   have := IM bV; subst this
   obtain ⟨ae, a0, rfl⟩ := I7 h aq aZ cn
   refine Good.same h (v := .bool r) ?_ rfl (of_bool _)
   rw [eqGuard_at_pointer]
   simp [binOp, ae]
  ·rename_i e aA
   simp only [Option.map_eq_some_iff] at he
   obtain ⟨r, aZ, rfl⟩ := he
   obtain ⟨i, d, z, aU, ba, aW, cS, cZ, cn, bV⟩ := bz.info (gV aA (by simp))
   rw [aA] at bV
   have := IM bV; subst this
   obtain ⟨ae, a0, rfl⟩ := I7 h aq aZ cn
   refine Good.same h (v := .bool !r) ?_ rfl (of_bool _)
   rw [eqGuard_at_pointer]
   simp [binOp, ae]
  ·cases he
 ·cases he
end
section
variable {C : cE} {w0 w : World} {F0 X F : Nat → Prop} {S : Nat → Nat → Prop} {s s1 : ar} {aC : Nat → Value} {av : I}
def un (op : UnOp) (x : I) : Option I :=
 match op, x with
 | .not, .bool b => some (.bool !b)
 | .not, .fu => some .fu
 | .neg, .int k n => some (.int k (k.wrap (0 - n)))
 | _, _ => none
theorem Rg (h : b9 w0 F0 X F S s aC w) {op : UnOp} {x : I} {v : Value} (aQ : aM w F s aC x v (fun _ => False)) (he : un op x = some av) : Good C w0 F0 X aC w (Op.unary op v) av s := by
 unfold un at he
 split at he <;> first | (cases he; done) | (simp only [Option.some.injEq] at he; subst he)
 ·have := sr aQ; subst this
  exact Good.same h rfl rfl (of_bool _)
 ·obtain ⟨b, rfl⟩ := I1 aQ
  exact Good.same h rfl rfl (ED _)
 ·have := qj aQ; subst this
  exact Good.same h rfl rfl (of_int _ _)
def gu (s : ar) (x : I) : Option I :=
 match x with
 | .ref d => some (.ref d)
 | .fn f c => some (.fn f c)
 | .h y q => match I.sub q (s y) with
   | some (.bb _) => some (.h y q)
   | _ => none
 | _ => none
theorem Rh {d : I} {v : Value} {aX : Nat → Prop} (h : aM w F s aC (.ref d) v aX) : ∃ b o e3, v = .pointer (some ⟨b, o, none⟩) ∧ F b ∧ Rd w b o e3 ∧ aw w F d e3 (fun _ => False) := by
 have bP := (aM.c0 rfl).1 h
 rw [aw, hF bP.1] at bP
 obtain ⟨_, b, o, e3, ae, ah, aH, a6⟩ := bP
 simp at ae; subst ae
 exact ⟨b, o, e3, rfl, ah, aH, a6⟩
theorem Ri (h : b9 w0 F0 X F S s aC w) {x : I} {v : Value} (aQ : aM w F s aC x v (fun _ => False)) (he : gu s x = some av) :
  av = x ∧ x.plain = true ∧ ((∃ a, v = .pointer (some a)) ∨ ∃ f c, v = .func (.func f) #[] c) := by
 unfold gu at he
 split at he
 ·simp only [Option.some.injEq] at he; subst he
  obtain ⟨b, o, e3, rfl, _⟩ := Rh aQ
  exact ⟨rfl, rfl, .inl ⟨_, rfl⟩⟩
 ·simp only [Option.some.injEq] at he; subst he
  rw [aM] at aQ
  obtain ⟨arr, rfl, _⟩ := aQ
  exact ⟨rfl, rfl, .inr ⟨_, _, rfl⟩⟩
 ·split at he
  ·rename_i d aj
   simp only [Option.some.injEq] at he; subst he
   obtain ⟨b, cur, e, fr, rfl, _⟩ := I2 h aQ aj
   exact ⟨rfl, rfl, .inl ⟨_, rfl⟩⟩
  ·cases he
 ·cases he
def ex (s : ar) (x : I) (k : Nat) : Option I :=
 match x with
 | .tuple ds => match ds[k]? with
   | some d => if d.plain = true then some d else none
   | none => none
 | .h y q => match I.sub q (s y) with
   | some (.tuple ds) => match ds[k]? with
     | some d => if I.ed ds = true then none else some (if d.plain then d else .h y (q ++ [k]))
     | none => none
   | _ => none
 | _ => none
theorem Ja : ∀ (vs : List Value) (k : Nat) (x : Value) (ds : List I), vs[k]? = some x → vs.length = ds.length → (∀ (j : Nat) (d : I) (y : Value), ds[j]? = some d → vs[j]? = some y → (il y).length = d.wd) →
  ∃ l r, vs.flatMap il = l ++ (il x ++ r) ∧ l.length = I.eK (ds.take k)
 | [], k, x, ds, h, _, _ => by simp at h
 | v :: vs, 0, x, ds, h, hl, hw => by
   simp at h; subst h
   exact ⟨[], vs.flatMap il, by simp, by simp [I.eK]⟩
 | v :: vs, k + 1, x, d :: ds, h, hl, hw => by
   obtain ⟨l, r, aU, ba⟩ := Ja vs k x ds (by simpa using h) (by simpa using hl) (fun j d y ae ah => hw (j + 1) d y (by simpa using ae) (by simpa using ah))
   refine ⟨il v ++ l, r, by simp [aU], ?_⟩
   have := hw 0 d v (by simp) (by simp)
   simp [I.eK, ba, this]
 | v :: vs, k + 1, x, [], h, hl, hw => by simp at hl
theorem Rj {d : I} {v : Value} (h : i3 d v) (_hd : ∀ vs, d ≠ .tuple vs) : cL v = il v := by
 cases d with
 | agg ay => obtain ⟨arr, rfl⟩ := h; rfl
 | _ =>
   have ae : Value.hf v = true := h
   cases v <;> first | rfl | (simp [Value.hf] at ae)
theorem Rk {d : I} {v : Value} (h : i3 d v) (aj : ∀ vs, d ≠ .tuple vs) : eN d v := by
 cases d with
 | tuple vs => exact (aj _ rfl).elim
 | _ => exact h
theorem Rl (h : b9 w0 F0 X F S s aC w) {x : I} {v : Value} {k : Nat} (aQ : aM w F s aC x v (fun _ => False)) (he : ex s x k = some av) : Good C w0 F0 X aC w (Instr.extract v k) av s := by
 have pick : ∀ (ds : List I) (d : I) (arr : Array Value), ds[k]? = some d → (arr.size = ds.length ∧ ∀ (k : Nat) (d : I) (x : Value), ds[k]? = some d → arr[k]? = some x → i3 d x ∧ (∀ vs, d ≠ .tuple vs) ∧ (il x).length = d.wd) →
   ∃ x, arr[k]? = some x ∧ eN d x ∧ ((cL (.tuple arr)).drop (I.eK (ds.take k))).take d.wd = cL x := by
  intro ds d arr aj ⟨b8, nQ⟩
  have e7 : k < arr.size := by rw [b8]; exact (List.getElem?_eq_some_iff.1 aj).1
  have aq : arr[k]? = some arr[k] := Array.getElem?_eq_getElem e7
  obtain ⟨bc, bA, cU⟩ := nQ k d _ aj aq
  obtain ⟨l, r, aU, ba⟩ := Ja arr.toList k arr[k] ds (by simp [e7]) (by simpa using b8) (fun j d y ae ah => (nQ j d y ae (by simpa using ah)).2.2)
  refine ⟨_, aq, Rk bc bA, ?_⟩
  rw [Rj bc bA]
  simp only [cL]
  rw [aU]
  exact sb l _ r _ _ ba cU
 unfold ex at he
 split at he
 ·rename_i ds
  split at he
  ·rename_i d aj
   split at he
   ·rename_i az
    simp only [Option.some.injEq] at he; subst he
    have bP := (aM.c0 rfl).1 aQ
    obtain ⟨⟨arr, rfl, b8⟩, gX⟩ := bP
    obtain ⟨x, aq, af, ax⟩ := pick ds d arr aj b8
    have aZ : (Instr.extract (.tuple arr) k).run C.P w = .ok x w := by simp [Instr.extract, aq]
    rw [aw] at gX
    obtain ⟨cD, gE, cz, cu, ij, e, h7, f_, hk, ik, gP, mh⟩ := bg.pick ds _ _ k d gX aj
    rw [e, sb cD gE cz _ _ h7 (aw.length _ _ _ gP)] at ax
    by_cases bo : d.tree = true
    ·exact Good.same h aZ az ((aM.c0 bo).2 ⟨af, by rw [← ax]; exact aw.plain _ _ _ _ az gP⟩)
    ·cases d <;> first | exact (bo rfl).elim | (rw [aw] at gP; exact gP.elim) | exact Good.same h aZ rfl (by rw [aM]; trivial) | (have bN := aw.plain _ _ _ (fun _ => False) az gP; rw [ax, hF (by exact af)] at bN; exact Good.same h aZ rfl (aM.pF _ _ rfl bN))
   ·cases he
  ·cases he
 ·rename_i y q
  split at he
  ·rename_i ds aj
   split at he
   ·rename_i d aA
    split at he
    ·cases he
    ·rename_i gG
     simp only [Option.some.injEq] at he
     have gG : (I.tuple ds).plain = false := by simpa [I.plain] using gG
     rw [aM] at aQ
     obtain ⟨dp, a, bc, bA, cU⟩ := aQ _ aj gG
     obtain ⟨arr, rfl, b8⟩ := cU
     obtain ⟨x, aq, af, ax⟩ := pick ds d arr aA b8
     have aZ : (Instr.extract (.tuple arr) k).run C.P w = .ok x w := by simp [Instr.extract, aq]
     have bl := h.eg y
     rw [aM.c0 (iX aj (.inl gG))] at bl
     obtain ⟨gO, da, fl, hK, k0, ca, cy, fy, eB, gr⟩ := ctx q (s y) (cL (aC y)) (S y) none _ bl.2 aj
     rw [k0] at bc
     simp only [Option.some.injEq, Prod.mk.injEq, true_and] at bc
     obtain ⟨rfl, rfl⟩ := bc
     rw [bA] at ax
     split at he
     ·rename_i az
      subst he
      rw [aw] at eB
      obtain ⟨cD, gE, cz, cu, ij, e, h7, f_, hk, ik, gP, mh⟩ := bg.pick ds _ _ k d eB aA
      rw [e, sb cD gE cz _ _ h7 (aw.length _ _ _ gP)] at ax
      by_cases bo : d.tree = true
      ·exact Good.same h aZ az ((aM.c0 bo).2 ⟨af, by rw [← ax]; exact aw.plain _ _ _ _ az gP⟩)
      ·cases d <;> first | exact (bo rfl).elim | (rw [aw] at gP; exact gP.elim) | exact Good.same h aZ rfl (by rw [aM]; trivial) | (have bN := aw.plain _ _ _ (fun _ => False) az gP; rw [ax, hF (by exact af)] at bN; exact Good.same h aZ rfl (aM.pF _ _ rfl bN))
     ·subst he
      refine Good.same h aZ rfl ?_
      rw [aM]
      intro d2 i5 Es
      rw [w2 w q _ _ _ _ _ _ [k] k0]
      rw [w1 _ _ _ _ aj] at i5
      simp only [I.sub, aA, Option.some.injEq] at i5
      subst i5
      simp only [dJ, aA]
      exact ⟨_, _, rfl, ax.symm, af⟩
   ·cases he
  ·cases he
 ·cases he
def mm (C : cE) (s : ar) (T : TypeId) (x : I) (k : Nat) : Option I :=
 match (C.T T).k with
 | .struct ay => match ay[k]? with
   | some (jY, off) => match x with
     | .agg ds => match ds[k]? with
       | some d => if I.eK (ds.take k) = off ∧ fits C jY d = true ∧ d.plain = true ∧ d.tree = true then some d else none
       | none => none
     | .h y q => match I.sub q (s y) with
       | some (.agg ds) => match ds[k]? with
         | some d => if I.eK (ds.take k) = off ∧ fits C jY d = true ∧ I.ed ds = false ∧ d.tree = true then some (if d.plain then d else .h y (q ++ [k])) else none
         | none => none
       | _ => none
     | _ => none
   | none => none
 | _ => none
theorem Rm (bz : C.Ok) (h : b9 w0 F0 X F S s aC w) {T : TypeId} {x : I} {v : Value} {k : Nat} (aQ : aM w F s aC x v (fun _ => False)) (he : mm C s T x k = some av) : Good C w0 F0 X aC w (Instr.field T v k) av s := by
 have key : ∀ (ay : List (TypeId × Nat)) (jY : TypeId) (off : Nat), (C.T T).k = .struct ay → ay[k]? = some (jY, off) → ∀ (ds : List I) (d : I) (arr : Array Value) (aX : Nat → Prop), ds[k]? = some d → I.eK (ds.take k) = off → fits C jY d = true → bg w F ds arr.toList aX →
   ∃ x ij, (Instr.field T (.agg arr) k).run C.P w = .ok x w ∧ eN d x ∧ aw w F d (cL x) ij ∧ (arr.toList.drop off).take d.wd = cL x := by
  intro ay jY off aA bF ds d arr aX aj pE iu gX
  obtain ⟨i, w9, z, aU, ba, aW, cS, cZ, cn, bV⟩ := bz.info (gV aA (by simp))
  rw [aA] at bV
  obtain ⟨gs, rfl, hv⟩ := w3 bV
  obtain ⟨g, bc, rfl, rfl⟩ : ∃ g, gs[k]? = some g ∧ g.type = jY ∧ g.offset = off := by
   rw [← hv, List.getElem?_map] at bF
   simp only [Option.map_eq_some_iff, Prod.mk.injEq] at bF
   obtain ⟨g, ae, ah, aH⟩ := bF
   exact ⟨g, by simpa using ae, ah, aH⟩
  obtain ⟨cD, gE, cz, cu, ij, e, h7, f_, hk, ik, gP, mh⟩ := bg.pick ds _ _ k d gX aj
  obtain ⟨x, aZ, Jb, nS⟩ := QT (w := w) bz e (h7.trans pE) gP iu
  refine ⟨x, ij, ?_, nS, by rw [Jb]; exact gP, ?_⟩
  ·simp [Instr.field, run_underlying cn, bc, asAgg, aZ]
  ·rw [e, Jb, ← pE]; exact sb cD gE cz _ _ h7 (aw.length _ _ _ gP)
 have Jc : ∀ (d : I) (x : Value) (ij : Nat → Prop), d.plain = true → eN d x → aw w F d (cL x) ij → aM w F s aC d x (fun _ => False) := by
  intro d x ij az af gX
  by_cases bo : d.tree = true
  ·exact (aM.c0 bo).2 ⟨af, aw.plain _ _ _ _ az gX⟩
  ·cases d <;> first | exact (bo rfl).elim | (rw [aw] at gX; exact gX.elim) | (rw [aM]; trivial) | (have bN := aw.plain _ _ _ (fun _ => False) az gX; rw [hF (by exact af)] at bN; exact aM.pF _ _ rfl bN)
 unfold mm at he
 split at he
 ·rename_i ay aA
  split at he
  ·rename_i jY off bF
   split at he
   ·rename_i ds
    split at he
    ·rename_i d aj
     split at he
     ·rename_i ax
      simp only [Option.some.injEq] at he; subst he
      obtain ⟨⟨arr, rfl⟩, gX⟩ := (aM.c0 rfl).1 aQ
      rw [aw] at gX
      obtain ⟨x, ij, aZ, af, rk, _⟩ := key ay jY off aA bF ds d arr _ aj ax.1 ax.2.1 gX
      exact Good.same h aZ ax.2.2.1 (Jc d x ij ax.2.2.1 af rk)
     ·cases he
    ·cases he
   ·rename_i y q
    split at he
    ·rename_i ds aj
     split at he
     ·rename_i d oG
      split at he
      ·rename_i ax
       simp only [Option.some.injEq] at he
       have gG : (I.agg ds).plain = false := by simpa [I.plain] using ax.2.2.1
       rw [aM] at aQ
       obtain ⟨dp, a, bc, bA, cU⟩ := aQ _ aj gG
       obtain ⟨arr, rfl⟩ := cU
       have bl := h.eg y
       rw [aM.c0 (iX aj (.inl gG))] at bl
       obtain ⟨gO, da, fl, hK, k0, ca, cy, fy, eB, gr⟩ := ctx q (s y) (cL (aC y)) (S y) none _ bl.2 aj
       rw [k0] at bc
       simp only [Option.some.injEq, Prod.mk.injEq, true_and] at bc
       obtain ⟨rfl, rfl⟩ := bc
       rw [aw, ← bA] at eB
       obtain ⟨x, ij, aZ, af, rk, hh⟩ := key ay jY off aA bF ds d arr _ oG ax.1 ax.2.1 eB
       by_cases az : d.plain = true
       ·rw [if_pos az] at he; subst he
        exact Good.same h aZ az (Jc d x ij az af rk)
       ·rw [if_neg az] at he; subst he
        refine Good.same h aZ rfl ?_
        rw [aM]
        intro d2 i5 Es
        rw [w2 w q _ _ _ _ _ _ [k] k0]
        rw [w1 _ _ _ _ aj] at i5
        simp only [I.sub, oG, Option.some.injEq] at i5
        subst i5
        simp only [dJ, oG]
        refine ⟨_, _, rfl, ?_, af⟩
        rw [ax.1, ← bA]; exact hh.symm
      ·cases he
     ·cases he
    ·cases he
   ·cases he
  ·cases he
 ·cases he
end
section
variable {C : cE} {w0 w : World} {F0 X F : Nat → Prop} {S : Nat → Nat → Prop} {s s1 : ar} {aC : Nat → Value} {av : I}
def idx (C : cE) (T : TypeId) (x i : I) : Option I :=
 match (C.T T).k, x, i with
 | .str, .str l, .int _ n => if 0 ≤ n then (match l[n.toNat]? with | some b => some (.int .u8 b.toNat) | none => none) else none
 | _, _, _ => none
theorem Rn (l : List UInt8) (n : Nat) : (⟨⟨l⟩⟩ : ByteArray)[n]? = l[n]? := by
 by_cases h : n < l.length
 ·have bP : n < (⟨⟨l⟩⟩ : ByteArray).size := h
  rw [List.getElem?_eq_getElem h, getElem?_pos (⟨⟨l⟩⟩ : ByteArray) n bP]
  rfl
 ·have bP : ¬ n < (⟨⟨l⟩⟩ : ByteArray).size := h
  rw [List.getElem?_eq_none (by omega), getElem?_neg (⟨⟨l⟩⟩ : ByteArray) n bP]
theorem Ro (bz : C.Ok) (h : b9 w0 F0 X F S s aC w) {T : TypeId} {x i : I} {v uI : Value} (aQ : aM w F s aC x v (fun _ => False)) (au : aM w F s aC i uI (fun _ => False)) (he : idx C T x i = some av) :
  Good C w0 F0 X aC w (Instr.index T v uI) av s := by
 unfold idx at he
 split at he
 ·rename_i l k n aA
  have := pG aQ; subst this
  have := qj au; subst this
  obtain ⟨i, d, z, aU, ba, aW, cS, cZ, cn, bV⟩ := bz.info (gV aA (by simp))
  rw [aA] at bV
  have := qh bV; subst this
  split at he
  ·rename_i a_
   split at he
   ·rename_i b ad
    simp only [Option.some.injEq] at he; subst he
    refine Good.same h ?_ rfl (of_int _ _)
    simp [Instr.index, asIntOf, run_underlying cn, a_, Rn, ad]
   ·cases he
  ·cases he
 ·cases he
def lenOf (s : ar) : I → Option Nat
 | .str l => some l.length
 | .bp => some 0
 | .slice xs => some xs.length
 | .h y q => match I.sub q (s y) with
   | some (.ao _ xs) => some xs.length
   | _ => none
 | _ => none
def mn (C : cE) (s : ar) (T : TypeId) (x : I) : Option I :=
 match (C.T T).k, x with
 | .str, .str l => some (.int .i64 l.length)
 | .slice _, .bp => some (.int .i64 0)
 | .slice _, .slice xs => some (.int .i64 xs.length)
 | .slice _, .h y q => match I.sub q (s y) with
   | some (.ao _ xs) => some (.int .i64 xs.length)
   | _ => none
 | _, _ => none
theorem Aj {xs : List I} {v : Value} {aX : Nat → Prop} (h : aM w F s aC (.slice xs) v aX) : (xs = [] ∧ ∃ a c, v = .slice a 0 c ∧ c ≤ maxLen ∧ (a = none → c = 0)) ∨
  ∃ b o cap e3 sz, v = .slice (some ⟨b, o, none⟩) xs.length cap ∧ F b ∧ xs.length ≤ cap ∧ cap ≤ maxLen ∧ (∀ d ∈ xs, d.wd = sz) ∧ Rd w b o e3 ∧ bg w F xs e3 (fun _ => False) := by
 have bP := (aM.c0 rfl).1 h
 rw [aw, hF bP.1] at bP
 obtain ⟨_, ⟨rfl, a, c, ah, aH⟩ | ⟨b, o, cap, e3, sz, ah, aH⟩⟩ := bP
 ·simp at ah; exact .inl ⟨rfl, a, c, ah, aH⟩
 ·simp at ah; exact .inr ⟨b, o, cap, e3, sz, ah, aH⟩
theorem Rp (bz : C.Ok) (h : b9 w0 F0 X F S s aC w) {T ty : TypeId} {x : I} {v : Value} (aQ : aM w F s aC x v (fun _ => False)) (he : mn C s T x = some av) :
  Good C w0 F0 X aC w (Builtin.len_ #[T] ty #[v]) av s := by
 unfold mn at he
 split at he
 ·rename_i l aA
  have := pG aQ; subst this
  obtain ⟨i, d, z, aU, ba, aW, cS, cZ, cn, bV⟩ := bz.info (gV aA (by simp))
  rw [aA] at bV
  have := qh bV; subst this
  simp only [Option.some.injEq] at he; subst he
  refine Good.same h ?_ rfl (of_int _ _)
  simp [Builtin.len_, run_underlying cn, goInt]
  rfl
 ·rename_i e aA
  have := qk aQ; subst this
  obtain ⟨i, d, z, aU, ba, aW, cS, cZ, cn, bV⟩ := bz.info (gV aA (by simp))
  rw [aA] at bV
  have := lH bV; subst this
  simp only [Option.some.injEq] at he; subst he
  refine Good.same h ?_ rfl (of_int _ _)
  simp [Builtin.len_, run_underlying cn, goInt]
 ·rename_i e xs aA
  obtain ⟨i, d, z, aU, ba, aW, cS, cZ, cn, bV⟩ := bz.info (gV aA (by simp))
  rw [aA] at bV
  have := lH bV; subst this
  simp only [Option.some.injEq] at he; subst he
  refine Good.same h ?_ rfl (of_int _ _)
  rcases Aj aQ with ⟨rfl, a, c, rfl, _⟩ | ⟨b, o, cap, e3, sz, rfl, _⟩ <;> simp [Builtin.len_, run_underlying cn, goInt]
 ·rename_i e y q aA
  split at he
  ·rename_i sz xs aj
   obtain ⟨i, d, z, aU, ba, aW, cS, cZ, cn, bV⟩ := bz.info (gV aA (by simp))
   rw [aA] at bV
   have := lH bV; subst this
   simp only [Option.some.injEq] at he; subst he
   refine Good.same h ?_ rfl (of_int _ _)
   rcases EE h aQ aj with ⟨rfl, _, rfl⟩ | ⟨b, cap, cur, ba, fr, rfl, _⟩ <;> simp [Builtin.len_, run_underlying cn, goInt]
  ·cases he
 ·cases he
def bytesOf : List I → Option (List UInt8)
 | [] => some []
 | .int .u8 n :: r => if 0 ≤ n ∧ n < 256 then (bytesOf r).map (UInt8.ofNat n.toNat :: ·) else none
 | _ => none
def kX (b : UInt8) : I := .int .u8 b.toNat
theorem Rq (l : List UInt8) : bytesOf (l.map kX) = some l := by
 induction l with
 | nil => rfl
 | cons b l ih =>
   have ad : b.toNat < 256 := b.toNat_lt
   simp only [List.map_cons, kX, bytesOf, Int.toNat_natCast]
   rw [if_pos (by omega), ih]
   simp
theorem EG : ∀ (xs : List I) (l : List UInt8) (cs : List Value) (aX : Nat → Prop), bytesOf xs = some l → bg w F xs cs aX → cs = l.map (fun b => .int .u8 (b.toNat : Int)) ∧ xs.length = l.length
 | [], l, cs, aX, h, aZ => by simp [bytesOf] at h; subst h; rw [bg] at aZ; subst aZ; exact ⟨rfl, rfl⟩
 | x :: xs, l, cs, aX, h, aZ => by
   unfold bytesOf at h
   split at h
   ·rename_i e; cases e
   ·rename_i n r e
    simp only [List.cons.injEq] at e
    obtain ⟨rfl, rfl⟩ := e
    split at h
    ·rename_i a_
     simp only [Option.map_eq_some_iff] at h
     obtain ⟨eP, ae, rfl⟩ := h
     rw [bg] at aZ
     obtain ⟨cD, cz, cu, ej, rfl, ah, aH, _⟩ := aZ
     obtain ⟨rfl, a6⟩ := EG xs eP cz ej ae aH
     rw [aw] at ah; subst ah
     refine ⟨?_, by simp [a6]⟩
     simp only [List.map_cons, List.cons_append, List.nil_append, List.cons.injEq, and_true, Value.int.injEq, true_and]
     simp only [UInt8.toNat_ofNat']
     omega
    ·cases h
   ·cases h
theorem b9.xc (h : b9 w0 F0 X F S s aC w) {aO : World} {sz cap : Nat} {xs : List I} {cur : Array Value} {e : TypeId} {fr : Nat × Nat} {Sn : Nat → Prop}
  (hw : aO.heap = w.heap.push (.cells cur e fr)) (ae : aO.os = w.os) (ah : aO.tape = w.tape) (aH : aO.output = w.output)
  (bF : oC fr cur.size) (hle : xs.length ≤ cap) (hm : cap ≤ maxLen) (eM : cur.size = cap * sz) (mI : ∀ d ∈ xs, d.wd = sz) (aQ : bg w F xs (cur.toList.take (xs.length * sz)) Sn)
  (e7 : ∀ b, Sn b → b < w.heap.size) (bI : ∀ b, Sn b → ¬ F b) (bZ : ∀ u b, Sn b → ¬ S u b) (bf : ∀ b, Sn b → X b ∨ w0.heap.size ≤ b) :
  b9 w0 F0 X F S s aC aO ∧ lG w0 X F S s aC aO (.ao sz xs) (.slice (some ⟨w.heap.size, 0, none⟩) xs.length cap) := by
 have hold : ∀ b, b < w.heap.size → aO.heap[b]? = w.heap[b]? := by
  intro b ad
  rw [hw, Array.getElem?_push, if_neg (by omega)]
 have aA7 : aO.heap.size = w.heap.size + 1 := by rw [hw]; simp
 refine ⟨h.grow hold (by omega) ae ah aH, .inr ⟨rfl, rfl, fun b => b = w.heap.size ∨ Sn b, ?_, ?_, ?_, ?_, ?_⟩⟩
 ·simp only [cL, il]
  rw [aw]
  refine .inr ⟨w.heap.size, cap, cur, e, fr, Sn, rfl, .inl rfl, ?_, bF, hle, hm, eM, mI, ?_, fun c ax => .inr ax, fun ax => Nat.lt_irrefl _ (e7 _ ax)⟩
  ·rw [hw]; simp
  ·exact bg.frame (fun b ad => hold b (h.ga b ad)) _ _ _ (fun b ad => hold b (e7 b ad)) aQ
 ·rintro b (rfl | ad)
  ·omega
  ·have := e7 b ad; omega
 ·rintro b (rfl | ad) sq
  ·exact Nat.lt_irrefl _ (h.ga _ sq)
  ·exact bI b ad sq
 ·rintro u b (rfl | ad) hu
  ·exact Nat.lt_irrefl _ (h.fh _ _ hu)
  ·exact bZ u b ad hu
 ·rintro b (rfl | ad)
  ·exact .inr h.size
  ·exact bf b ad
def gH (C : cE) (s : ar) (A B : TypeId) (x : I) : Option I :=
 if (C.T A).ok = true then
 match (C.T B).k, x with
 | .int k, .int _ n => some (.int k (k.wrap n))
 | .str, .str l => match (C.T A).k with
   | .str => some (.str l)
   | _ => none
 | .str, x => match (C.T A).k with
   | .slice e => match (C.T e).k with
     | .int .u8 => match x with
       | .bp => some (.str [])
       | .slice xs => (bytesOf xs).map .str
       | .h y q => match I.sub q (s y) with
         | some (.ao 1 xs) => (bytesOf xs).map .str
         | _ => none
       | _ => none
     | _ => none
   | _ => none
 | .slice e, .str l => match (C.T A).k, (C.T e).k with
   | .str, .int .u8 => if l.length ≤ 9223372036854775807 then some (.ao 1 (l.map kX)) else none
   | _, _ => none
 | _, _ => none
 else none
theorem Jd (l : List UInt8) (aX : Nat → Prop) : bg w F (l.map kX) (l.map fun b => .int .u8 (b.toNat : Int)) aX := by
 induction l generalizing aX with
 | nil => simp only [List.map_nil]; rw [bg]
 | cons b l ih =>
   simp only [List.map_cons]
   rw [bg]
   exact ⟨[.int .u8 (b.toNat : Int)], _, fun _ => False, fun _ => False, rfl, by rw [kX, aw], ih _, fun _ h => h.elim, fun _ h => h.elim, fun _ h => h.elim⟩
theorem Rr (bz : C.Ok) (h : b9 w0 F0 X F S s aC w) {A B : TypeId} {x : I} {v : Value} (aQ : aM w F s aC x v (fun _ => False)) (he : gH C s A B x = some av) :
  Good C w0 F0 X aC w (convert A B v) av s := by
 unfold gH at he
 split at he
 ·rename_i jm
  obtain ⟨fv, aA8, aA9, U, a7, a3, a4, a5, pH, pI⟩ := bz.info jm
  split at he
  ·rename_i k dA n aA
   have := qj aQ; subst this
   obtain ⟨i, d, z, aU, ba, aW, cS, cZ, cn, bV⟩ := bz.info (gV aA (by simp))
   rw [aA] at bV
   have := w4 bV; subst this
   simp only [Option.some.injEq] at he; subst he
   refine Good.same h ?_ rfl (of_int _ _)
   simp [convert, run_underlying pH, run_underlying cn, Conv.intToInt]
  ·rename_i l aA
   have := pG aQ; subst this
   obtain ⟨i, d, z, aU, ba, aW, cS, cZ, cn, bV⟩ := bz.info (gV aA (by simp))
   rw [aA] at bV
   have := qh bV; subst this
   split at he
   ·rename_i xd
    rw [xd] at pI
    have := qh pI; subst this
    simp only [Option.some.injEq] at he; subst he
    refine Good.same h ?_ rfl (oL _)
    simp [convert, run_underlying pH, run_underlying cn]
   ·cases he
  ·rename_i x aA _
   obtain ⟨i, d, z, aU, ba, aW, cS, cZ, cn, bV⟩ := bz.info (gV aA (by simp))
   rw [aA] at bV
   have := qh bV; subst this
   split at he
   ·rename_i e xd
    rw [xd] at pI
    have := lH pI; subst this
    split at he
    ·rename_i xe
     obtain ⟨uG, bQ, ri, f1, f2, f3, f4, f5, f6, f7⟩ := bz.info (gV xe (by simp))
     rw [xe] at f7
     have := w4 f7; subst this
     have fin : ∀ (l : List UInt8) (b o cap : Nat), Rd w b o (l.map fun b => .int .u8 (b.toNat : Int)) → (convert A B (.slice (some ⟨b, o, none⟩) l.length cap)).run C.P w = .ok (.string ⟨⟨l⟩⟩) w := by
      intro l b o cap kb
      refine run_convert_bytes_back w A B e ⟨b, o, none⟩ cap l pH f6 cn (fun j cH => ?_)
      rw [Addr.add_lit]
      exact kb j _ (by simp [cH])
     have nil : (convert A B (.slice none 0 0)).run C.P w = .ok (.string ⟨⟨[]⟩⟩) w := by
      simp [convert, run_underlying pH, run_underlying cn, run_underlying f6, Conv.bytesToString]
      rfl
     split at he
     ·have := qk aQ; subst this
      simp only [Option.some.injEq] at he; subst he
      exact Good.same h nil rfl (oL _)
     ·rename_i xs _
      simp only [Option.map_eq_some_iff] at he
      obtain ⟨l, hl, rfl⟩ := he
      rcases Aj aQ with ⟨rfl, a, c, rfl, _, ss⟩ | ⟨b, o, cap, e3, sz, rfl, ae, ah, aH, a6, bN, cW⟩
      ·simp [bytesOf] at hl; subst hl
       cases a with
       | none =>
         have := ss rfl; subst this
         exact Good.same h nil rfl (oL _)
       | some a =>
         refine Good.same h ?_ rfl (oL _)
         exact run_convert_bytes_back w A B e a c [] pH f6 cn (fun j cH => by simp at cH)
      ·obtain ⟨rfl, cI⟩ := EG xs l e3 _ hl cW
       rw [cI]
       exact Good.same h (fin l b o cap bN) rfl (oL _)
     ·rename_i y q
      split at he
      ·rename_i xs aj
       simp only [Option.map_eq_some_iff] at he
       obtain ⟨l, hl, rfl⟩ := he
       rcases EE h aQ aj with ⟨rfl, a, rfl⟩ | ⟨b, cap, cur, ba, fr, rfl, ae, ah, aH, a6, bN, cW, aX, cI, _⟩
       ·simp [bytesOf] at hl; subst hl
        cases a with
        | none => exact Good.same h nil rfl (oL _)
        | some a =>
          refine Good.same h ?_ rfl (oL _)
          exact run_convert_bytes_back w A B e a 0 [] pH f6 cn (fun j cH => by simp at cH)
       ·obtain ⟨fM, hQ⟩ := EG xs l _ _ hl cI
        rw [hQ]
        refine Good.same h (fin l b 0 cap ?_) rfl (oL _)
        rw [← fM]
        exact uB ae _
      ·cases he
     ·cases he
    ·cases he
   ·cases he
  ·rename_i e l aA
   have := pG aQ; subst this
   obtain ⟨i, d, z, aU, ba, aW, cS, cZ, cn, bV⟩ := bz.info (gV aA (by simp))
   rw [aA] at bV
   have := lH bV; subst this
   split at he
   ·rename_i xd xe
    rw [xd] at pI
    have := qh pI; subst this
    obtain ⟨uG, bQ, ri, f1, f2, f3, f4, f5, f6, f7⟩ := bz.info (gV xe (by simp))
    rw [xe] at f7
    have := w4 f7; subst this
    split at he
    ·rename_i hl
     simp only [Option.some.injEq] at he; subst he
     have af : (⟨⟨l⟩⟩ : ByteArray).size = l.length := rfl
     have xf := grownCap_ge w l.length 0 e
     have Rs := grownCap_le_maxLen w l.length 0 e (by unfold maxLen; omega)
     have Je : (bytesRow ⟨⟨l⟩⟩ (grownCap w l.length 0 e)).toList = l.map (fun b => Value.int .u8 (b.toNat : Int)) ++ List.replicate (grownCap w l.length 0 e - l.length) (.int .u8 0) := by
      simp [bytesRow, af]
     have eM : (bytesRow ⟨⟨l⟩⟩ (grownCap w l.length 0 e)).size = grownCap w l.length 0 e * 1 := by
      have : (bytesRow ⟨⟨l⟩⟩ (grownCap w l.length 0 e)).size = (bytesRow ⟨⟨l⟩⟩ (grownCap w l.length 0 e)).toList.length := by simp
      rw [this, Je]; simp; omega
     have sn := run_bytes_of_string w A B e ⟨⟨l⟩⟩ pH cn f6
     rw [af] at sn
     have kx := h.xc (aO := w.drew.alloc (.cells (bytesRow ⟨⟨l⟩⟩ (grownCap w l.length 0 e)) e ((bytesRow ⟨⟨l⟩⟩ (grownCap w l.length 0 e)).size, (bytesRow ⟨⟨l⟩⟩ (grownCap w l.length 0 e)).size + 1)))
      (sz := 1) (cap := grownCap w l.length 0 e) (xs := l.map kX) (cur := bytesRow ⟨⟨l⟩⟩ (grownCap w l.length 0 e)) (e := e) (Sn := fun _ => False) rfl rfl rfl rfl
      (fun o b_ ⟨ae, _⟩ => by simp only at ae; omega) (by simpa using xf) Rs eM (by intro d aj; obtain ⟨b, _, rfl⟩ := List.mem_map.1 aj; rfl)
      (by rw [Je, List.take_left' (by simp)]; exact Jd l _) (fun _ h => h.elim) (fun _ h => h.elim) (fun _ _ h => h.elim) (fun _ h => h.elim)
     simp only [List.length_map] at kx
     exact ⟨_, _, F, S, sn, kx.1, kx.2⟩
    ·cases he
   ·cases he
  ·cases he
 ·cases he
end
section
variable {C : cE} {w0 w : World} {F0 X F : Nat → Prop} {S : Nat → Nat → Prop} {s s1 : ar} {aC : Nat → Value} {av : I}
def i2 (d : Nat) : Option I → Option Nat
 | none => some d
 | some (.int _ n) => if 0 ≤ n then some n.toNat else none
 | some _ => none
def fS (C : cE) (s : ar) (T : TypeId) (x : I) (dB au : Option I) : Option (I × ar) :=
 match (C.T T).k, x with
 | .str, .str l => match i2 0 dB, i2 l.length au with
   | some a, some b => if a ≤ b ∧ b ≤ l.length then some (.str ((l.take b).drop a), s) else none
   | _, _ => none
 | .slice e, .bp => match i2 0 dB, i2 0 au with
   | some 0, some 0 => if (C.T e).ok = true then some (.bp, s) else none
   | _, _ => none
 | .slice e, .slice xs => match i2 0 dB, i2 xs.length au with
   | some a, some b => if a ≤ b ∧ b ≤ xs.length ∧ (C.T e).ok = true ∧ (∀ d ∈ xs, d.wd = (C.T e).sz) then some (.slice ((xs.take b).drop a), s) else none
   | _, _ => none
 | .slice e, .h y q => match I.sub q (s y) with
   | some (.ao sz xs) => match i2 0 dB, i2 xs.length au with
     | some 0, some b => if b ≤ xs.length ∧ (C.T e).ok = true then (match db s (.h y q) with | some (_, s1) => some (.ao sz (xs.take b), s1) | none => none) else none
     | _, _ => none
   | _ => none
 | _, _ => none
def ql (w : World) (F : Nat → Prop) (s : ar) (aC : Nat → Value) : Option I → Option Value → Prop
 | none, none => True
 | some d, some v => aM w F s aC d v (fun _ => False)
 | _, _ => False
theorem Jf {d : Nat} {o : Option I} {v : Option Value} (b_ : ql w F s aC o v) {a : Nat} (h : i2 d o = some a) : (o = none ∧ v = none ∧ a = d) ∨ ∃ k, v = some (.int k a) := by
 cases o with
 | none =>
   cases v with
   | none => simp [i2] at h; exact .inl ⟨rfl, rfl, h.symm⟩
   | some v => simp [ql] at b_
 | some x =>
   cases v with
   | none => simp [ql] at b_
   | some v =>
     simp only [ql] at b_
     cases x with
     | int k n =>
       have := qj b_; subst this
       simp only [i2] at h
       split at h
       ·rename_i a_
        simp only [Option.some.injEq] at h; subst h
        obtain ⟨m, rfl⟩ := Int.eq_ofNat_of_zero_le a_
        exact .inr ⟨k, rfl⟩
       ·cases h
     | _ => simp [i2] at h
theorem uK {P : Program} {isS : Bool} {len cap a b : Nat} {dB au : Option I} {sv sw : Option Value} (nW : ql w F s aC dB sv) (nX : ql w F s aC au sw) (cJ : i2 0 dB = some a) (ad : i2 len au = some b) (lb : a ≤ b) (Rt : b ≤ cap) (_hlc : len ≤ cap) :
  (Instr.sliceBounds isS len cap sv sw none).run P w = .ok (a, b, cap) w := by
 rcases Jf nW cJ with ⟨_, rfl, rfl⟩ | ⟨k, rfl⟩ <;> rcases Jf nX ad with ⟨_, rfl, rfl⟩ | ⟨dA, rfl⟩ <;>
  simp [Instr.sliceBounds, Instr.sliceBound, asIntOf, lb, Rt]
theorem uL (bz : C.Ok) {T : TypeId} (aA : (C.T T).flat = true) (v : Value) (dB au h4 : Option Value) (w : World) : (Instr.sliceAt T v dB au h4).run C.P w = (Instr.slice T v dB au h4).run C.P w := by
 obtain ⟨i, d, z, aU, ba, aW, cS, cZ, cn, bV⟩ := bz.info (IU aA)
 have dL : ∀ n e, d ≠ .array n e := by
  clear cn
  unfold hn.flat at aA
  generalize (C.T T).k = ml at *
  cases ml <;> cases d <;> simp [l0] at bV aA ⊢
 cases d <;> first | exact (dL _ _ rfl).elim | simp [Instr.sliceAt, run_underlying cn]
theorem uM {x : hn} {k : nR} (h : x.k = k) (aA : k ≠ .other) (af : ∀ ay, k ≠ .struct ay) (ad : ∀ e, k ≠ .fw e := by simp) : x.flat = true := by
 unfold hn.flat; rw [h]; cases k <;> first | rfl | exact (aA rfl).elim | exact (ad _ rfl).elim | exact (af _ rfl).elim
theorem bg.split : ∀ (n : Nat) (xs : List I) (cs : List Value) (aX : Nat → Prop), bg w F xs cs aX → ∃ cD cz cu ej, cs = cD ++ cz ∧ bg w F (xs.take n) cD cu ∧ bg w F (xs.drop n) cz ej ∧ (∀ b, cu b → aX b) ∧ (∀ b, ej b → aX b) ∧ (∀ b, cu b → ¬ ej b)
 | 0, xs, cs, aX, h => ⟨[], cs, fun _ => False, aX, rfl, by rw [List.take_zero, bg], h, fun _ h => h.elim, fun _ h => h, fun _ h => h.elim⟩
 | n + 1, [], cs, aX, h => by rw [bg] at h; subst h; exact ⟨[], [], fun _ => False, fun _ => False, rfl, by rw [List.take_nil, bg], by rw [List.drop_nil, bg], fun _ h => h.elim, fun _ h => h.elim, fun _ h => h.elim⟩
 | n + 1, x :: xs, cs, aX, h => by
   rw [bg] at h
   obtain ⟨cD, cz, h6, ht, rfl, ae, ah, aH, a6, bN⟩ := h
   obtain ⟨d1, d2, cu, ej, rfl, bc, bA, cU, eY, gg⟩ := bg.split n xs cz ht ah
   refine ⟨cD ++ d1, d2, fun b => h6 b ∨ cu b, ej, by simp, ?_, bA, ?_, fun b ad => a6 _ (eY _ ad), ?_⟩
   ·rw [List.take_succ_cons, bg]
    exact ⟨cD, d1, h6, cu, rfl, ae, bc, fun _ h => .inl h, fun _ h => .inr h, fun b ad ax => bN b ad (cU b ax)⟩
   ·rintro b (ad | ad)
    ·exact aH b ad
    ·exact a6 b (cU b ad)
   ·rintro b (ad | ad) ax
    ·exact bN b ad (eY b ax)
    ·exact gg b ad ax
theorem Ru (bz : C.Ok) (h : b9 w0 F0 X F S s aC w) {T : TypeId} {x : I} {v : Value} {dB au : Option I} {sv sw : Option Value} (aq : x.plain = true) (aQ : aM w F s aC x v (fun _ => False)) (nW : ql w F s aC dB sv) (nX : ql w F s aC au sw)
  (he : fS C s T x dB au = some (av, s1)) : Good C w0 F0 X aC w (Instr.sliceAt T v sv sw none) av s1 := by
 unfold fS at he
 split at he
 ·rename_i l aA
  have := pG aQ; subst this
  obtain ⟨i, d, z, aU, ba, aW, cS, cZ, cn, bV⟩ := bz.info (gV aA (by simp))
  rw [aA] at bV
  have := qh bV; subst this
  split at he
  ·rename_i a b cJ ad
   split at he
   ·rename_i lb
    simp only [Option.some.injEq, Prod.mk.injEq] at he
    obtain ⟨rfl, rfl⟩ := he
    refine Good.same h ?_ rfl (oL _)
    rw [uL bz (uM aA (by simp) (by simp))]
    have eM : (⟨⟨l⟩⟩ : ByteArray).size = l.length := rfl
    have nY := uK (P := C.P) (isS := false) (len := l.length) (cap := l.length) nW nX cJ ad lb.1 lb.2 (Nat.le_refl _)
    have Rv : (⟨⟨l⟩⟩ : ByteArray).extract a b = ⟨⟨(l.take b).drop a⟩⟩ := by
     apply ByteArray.ext
     simp [ByteArray.data_extract, List.drop_take]
    simp [Instr.slice, run_underlying cn, eM, nY, Rv]
   ·cases he
  ·cases he
 ·rename_i e aA
  have := qk aQ; subst this
  obtain ⟨i, d, z, aU, ba, aW, cS, cZ, cn, bV⟩ := bz.info (gV aA (by simp))
  rw [aA] at bV
  have := lH bV; subst this
  split at he
  ·rename_i cJ ad
   split at he
   ·rename_i oN
    obtain ⟨uG, bQ, ri, f1, f2, f3, f4, f5, f6, f7⟩ := bz.info oN
    simp only [Option.some.injEq, Prod.mk.injEq] at he
    obtain ⟨rfl, rfl⟩ := he
    have nY := uK (P := C.P) (isS := true) (len := 0) (cap := 0) nW nX cJ ad (Nat.le_refl _) (Nat.le_refl _) (Nat.le_refl _)
    refine Good.same h (v := .slice none 0 0) ?_ rfl aQ
    rw [uL bz (uM aA (by simp) (by simp))]
    simp [Instr.slice, run_underlying cn, nY, kc f1, f2]
   ·cases he
  ·cases he
 ·rename_i e xs aA
  obtain ⟨i, d, z, aU, ba, aW, cS, cZ, cn, bV⟩ := bz.info (gV aA (by simp))
  rw [aA] at bV
  have := lH bV; subst this
  split at he
  ·rename_i a b cJ ad
   split at he
   ·rename_i lb
    obtain ⟨Rw, Jg, oN, mI⟩ := lb
    obtain ⟨uG, bQ, ri, f1, f2, f3, f4, f5, f6, f7⟩ := bz.info oN
    simp only [Option.some.injEq, Prod.mk.injEq] at he
    obtain ⟨rfl, rfl⟩ := he
    rcases Aj aQ with ⟨rfl, uN, c, rfl, xg, ss⟩ | ⟨ky, o, cap, e3, sz, rfl, ae, ah, aH, a6, bN, cW⟩
    ·have im : b = 0 := by simpa using Jg
     subst im
     have Rx : a = 0 := by omega
     subst Rx
     have nY := uK (P := C.P) (isS := true) (len := 0) (cap := c) nW nX cJ ad (Nat.le_refl _) (Nat.zero_le _) (Nat.zero_le _)
     refine Good.same h (v := .slice uN 0 c) ?_ rfl ((aM.c0 rfl).2 ⟨rfl, by rw [aw]; exact .inl ⟨rfl, uN, c, rfl, xg, ss⟩⟩)
     rw [uL bz (uM aA (by simp) (by simp))]
     cases uN with
     | none =>
       have := ss rfl; subst this
       simp [Instr.slice, run_underlying cn, nY, kc f1, f2]
     | some uN => simp [Instr.slice, run_underlying cn, nY, kc f1, f2, Addr.add]
    ·have nY := uK (P := C.P) (isS := true) (len := xs.length) (cap := cap) nW nX cJ ad Rw (Nat.le_trans Jg ah) ah
     obtain ⟨cD, cz, cu, ej, rfl, bc, bA, cU, eY, gg⟩ := bg.split b xs e3 _ cW
     obtain ⟨d1, d2, aA_, Jh, rfl, ca, cy, fy, eB, gr⟩ := bg.split a (xs.take b) cD _ bc
     have EH : d1.length = a * (C.T e).sz := by
      rw [bg.length _ _ _ ca, sd _ (fun d aj => mI d (List.mem_of_mem_take (List.mem_of_mem_take aj))), List.length_take, List.length_take]
      congr 1; omega
     have hlen : ((xs.take b).drop a).length = b - a := by simp; omega
     have kb : Rd w ky (o + a * (C.T e).sz) d2 := by
      rw [← EH]
      have : Rd w ky o (d1 ++ (d2 ++ cz)) := by simpa using bN
      exact this.Ey
     have Ak : bg w F ((xs.take b).drop a) d2 (fun _ => False) := bg.mono (fun _ h => h) _ _ _ _ (fun b ad => (cU _ (eB _ ad)).elim) cy
     have mem : ∀ d ∈ (xs.take b).drop a, d.wd = sz := fun d aj => a6 d (List.mem_of_mem_take (List.mem_of_mem_drop aj))
     have run : (Instr.sliceAt T (.slice (some ⟨ky, o, none⟩) xs.length cap) sv sw none).run C.P w = .ok (.slice (if cap = a then some ⟨ky, o, none⟩ else some ⟨ky, o + a * (C.T e).sz, none⟩) (b - a) (cap - a)) w := by
      rw [uL bz (uM aA (by simp) (by simp))]
      simp [Instr.slice, run_underlying cn, nY, kc f1, f2, Addr.add_lit]
     refine ⟨_, w, F, S, run, h, .inl ⟨rfl, (aM.c0 rfl).2 ⟨rfl, ?_⟩⟩⟩
     simp only [cL, il]
     rw [aw]
     by_cases Ji : cap = a
     ·have Ry : b = a := by omega
      subst Ry
      have xh : (xs.take b).drop b = [] := by simp
      rw [if_pos Ji]
      rw [xh] at Ak ⊢
      rw [bg] at Ak
      subst Ak
      exact .inr ⟨ky, o, cap - b, [], sz, by simp, ae, Nat.zero_le _, by omega, by simp, fun j c cH => by simp at cH, by rw [bg]⟩
     ·rw [if_neg Ji]
      exact .inr ⟨ky, _, cap - a, d2, sz, by rw [hlen], ae, by rw [hlen]; omega, by omega, mem, kb, Ak⟩
   ·cases he
  ·cases he
 ·rename_i e y q aA
  split at he
  ·rename_i sz xs aj
   split at he
   ·rename_i b cJ ad
    split at he
    ·rename_i Al
     split at he
     ·rename_i w9 s2 bo
      simp only [Option.some.injEq, Prod.mk.injEq] at he
      obtain ⟨rfl, rfl⟩ := he
      obtain ⟨i, d, z, aU, ba, aW, cS, cZ, cn, bV⟩ := bz.info (gV aA (by simp))
      rw [aA] at bV
      have := lH bV; subst this
      obtain ⟨uG, bQ, ri, f1, f2, f3, f4, f5, f6, f7⟩ := bz.info Al.2
      have su : w9 = .ao sz xs := by
       simp only [db, aj, I.plain] at bo
       simp at bo
       exact bo.1.symm
      subst su
      obtain ⟨cu, h8, bc, bA, Sn, cU, eY, gg, iM, jk, l1⟩ := pD h rfl aQ bo
      rw [hF bA, aw] at cU
      rcases cU with ⟨rfl, a0, lJ⟩ | ⟨ky, cap, cur, g4, fr, aX, lJ, ca, cy, fy, eB, gr, dH, jD, gi, mo, rl⟩
      ·simp at lJ; subst lJ
       have im : b = 0 := by simpa using Al.1
       subst im
       have nY := uK (P := C.P) (isS := true) (len := 0) (cap := 0) nW nX cJ ad (Nat.le_refl _) (Nat.le_refl _) (Nat.le_refl _)
       refine ⟨.slice a0 0 0, w, F, cu, ?_, h8, .inr ⟨rfl, rfl, fun _ => False, by simp only [cL, il]; rw [aw]; exact .inl ⟨rfl, _, rfl⟩, fun _ h => h.elim, fun _ h => h.elim, fun _ _ h => h.elim, fun _ h => h.elim⟩⟩
       rw [uL bz (uM aA (by simp) (by simp))]
       cases a0 <;> simp [Instr.slice, run_underlying cn, nY, kc f1, f2]
      ·simp at lJ; subst lJ
       have nY := uK (P := C.P) (isS := true) (len := xs.length) (cap := cap) nW nX cJ ad (Nat.zero_le _) (Nat.le_trans Al.1 eB) eB
       have hlen : (xs.take b).length = b := by simp; omega
       have run : (Instr.sliceAt T (.slice (some ⟨ky, 0, none⟩) xs.length cap) sv sw none).run C.P w = .ok (.slice (some ⟨ky, 0, none⟩) b cap) w := by
        rw [uL bz (uM aA (by simp) (by simp))]
        simp [Instr.slice, run_underlying cn, nY, kc f1, f2, Addr.add_lit]
       refine ⟨_, w, F, cu, run, h8, .inr ⟨rfl, rfl, Sn, ?_, eY, gg, iM, jk⟩⟩
       simp only [cL, il]
       rw [aw]
       obtain ⟨cD, cz, h6, ht, ax, fR, gW, hS, ku, l3⟩ := bg.split b xs _ _ gi
       refine .inr ⟨ky, cap, cur, g4, fr, aX, by rw [hlen], ca, cy, fy, by omega, gr, dH, fun d aj => jD d (List.mem_of_mem_take aj), ?_, mo, rl⟩
       have EH : cD.length = b * sz := by
        rw [bg.length _ _ _ fR, sd _ (fun d aj => jD d (List.mem_of_mem_take aj)), hlen]
       have : cur.toList.take ((xs.take b).length * sz) = cD := by
        rw [hlen]
        have ah : b * sz ≤ xs.length * sz := Nat.mul_le_mul_right _ Al.1
        have : (cur.toList.take (xs.length * sz)).take (b * sz) = cD := by rw [ax, List.take_left' EH]
        rwa [List.take_take, Nat.min_eq_left ah] at this
       rw [this]
       exact bg.mono (fun _ h => h) _ _ _ _ hS fR
     ·cases he
    ·cases he
   ·cases he
  ·cases he
 ·cases he
end
section
variable {C : cE} {w0 w : World} {F0 X F : Nat → Prop} {S : Nat → Nat → Prop} {s s1 : ar} {aC : Nat → Value} {av : I}
def Src (P : Program) (w : World) (size : Nat) (x : Value) (m : Nat) (news : List Value) : Prop :=
 ∀ aO : World, aO.heap = w.heap → (Builtin.lenOf x).run P aO = .ok m aO ∧ (Builtin.firstCells size m x).run P aO = .ok news.toArray aO
def EI (d : TypeDesc) : Prop := (∃ e, d = .slice e) ∨ d = .string
theorem Rz {P : Program} {T b0 ty e : TypeId} {qm : TypeDesc} {i : TypeInfo} (bo : P.underlying T = some (.slice e)) (hu : P.underlying b0 = some qm) (sx : EI qm) (au : P.info? e = some i)
  {x : Value} {m : Nat} {news : List Value} (Am : Src P w i.size x m news) {b n cap : Nat} {cur : Array Value} {g4 : TypeId} {fr : Nat × Nat} {l mid r : List Value} (ad : w.heap[b]? = some (.cells cur g4 fr)) (bF : oC fr cur.size)
  (ax : cur.toList = l ++ (mid ++ r)) (hl : l.length = n * i.size) (hm : mid.length = news.length) (Ag : ∀ v ∈ news, Value.hf v = true) (pJ : n + m ≤ cap) :
  ∃ aO, (Builtin.append_ #[T, b0] ty #[.slice (some ⟨b, 0, none⟩) n cap, x]).run P w = .ok (.slice (some ⟨b, 0, none⟩) (n + m) cap) aO ∧ aO.heap[b]? = some (.cells (l ++ (news ++ r)).toArray g4 fr) ∧
    (∀ c, c ≠ b → aO.heap[c]? = w.heap[c]?) ∧ aO.heap.size = w.heap.size ∧ aO.os = w.os ∧ aO.tape = w.tape ∧ aO.output = w.output := by
 obtain ⟨aO, fR, gW⟩ := Af (P := P) (b := b) (o := n * i.size) (e := g4) (fr := fr) news 0 cur w l mid r ad bF ax (by omega) hm Ag
 refine ⟨aO, ?_, gW⟩
 obtain ⟨ae, ah⟩ := Am w rfl
 rcases sx with ⟨fQ, rfl⟩ | rfl <;> simp [Builtin.append_, run_underlying bo, run_underlying hu, kc au, ae, ah, pJ, Addr.add_lit, fR]
theorem RA {P : Program} {T b0 ty e : TypeId} {qm : TypeDesc} {i : TypeInfo} {z : Value} (bo : P.underlying T = some (.slice e)) (hu : P.underlying b0 = some qm) (sx : EI qm) (au : P.info? e = some i) (b8 : i.zero = some z)
  {x : Value} {m : Nat} {news : List Value} (Am : Src P w i.size x m news) {base : Option Addr} {n cap : Nat} {oO : List Value} (hold : Src P w i.size (.slice base n cap) n oO) (pJ : ¬ n + m ≤ cap)
  (a_ : n + m ≤ 9223372036854775807) (EJ : (n + m) * i.bytes ≤ 140737488355328) :
  (Builtin.append_ #[T, b0] ty #[.slice base n cap, x]).run P w = .ok (.slice (some ⟨w.heap.size, 0, none⟩) (n + m) (grownCap w (n + m) cap e))
   (w.drew.alloc (.cells (oO.toArray ++ news.toArray ++ Builtin.zeroCells z.cells (grownCap w (n + m) cap e - (n + m))) e)) := by
 have ae := (Am w rfl).1
 have ah := (Am w.drew rfl).2
 have aH := (hold w.drew rfl).2
 have Jj := growslice_fits (need := n + m) (old := cap) (by omega) EJ
 have iu : ¬ (281474976710656 < Builtin.nextslicecap (n + m) cap * i.bytes) := by omega
 have uO : ∀ k (w : World), (askRoom k).run P w = .ok () w := by
  intro k w
  unfold askRoom
  split <;> rfl
 have EK : ¬ (9223372036854775807 < (n : Int) + (m : Int) ∧ i.bytes = 0) := by omega
 rcases sx with ⟨fQ, rfl⟩ | rfl <;>
  ·simp [Builtin.append_, run_underlying bo, run_underlying hu, kc au, sk au, ae, pJ, iu, Question.forced, uO]
   rw [if_neg EK, aH]
   simp [ah, sl au b8, newRow, grownCap]
   have aU : (oO ++ news).toArray = oO.toArray ++ news.toArray := by simp
   rw [aU, Array.append_assoc]
def An (C : cE) (e b0 : TypeId) : Bool := match (C.T b0).k, (C.T e).k with
 | .slice fQ, _ => fQ == e
 | .str, .int .u8 => true
 | _, _ => false
def mq (C : cE) (s : ar) (T b0 : TypeId) (x y : I) : Option (I × ar) :=
 match (C.T T).k with
 | .slice e => if (C.T e).ok = true ∧ (C.T e).zero.wd = (C.T e).sz ∧ (flat (C.T e).zero).isSome = true ∧ An C e b0 = true then
   match (match x with | .bp => some (I.ao (C.T e).sz [], s) | .h a q => db s (.h a q) | _ => none) with
   | some (.ao sz xs, s1) => if sz = (C.T e).sz then
     match (match kV x.owner y with
      | .bp => some ([], s1)
      | .slice cd => some (cd, s1)
      | .str l => some (l.map kX, s1)
      | .h a q => match db s1 (.h a q) with
        | some (.ao _ cd, s2) => some (cd, s2)
        | _ => none
      | _ => none) with
     | some (cd, s2) => if (∀ d ∈ cd, d.wd = (C.T e).sz) ∧ (xs.length + cd.length) * (C.T e).bytes ≤ 140737488355328 ∧ xs.length + cd.length ≤ 9223372036854775807 then some (.ao sz (xs ++ cd), s2) else none
     | none => none
     else none
   | _ => none
   else none
 | _ => none
theorem bg.append {xs cd : List I} {cD cz : List Value} {cu ej aX : Nat → Prop} (ae : bg w F xs cD cu) (ah : bg w F cd cz ej) (aU : ∀ b, cu b → aX b) (ba : ∀ b, ej b → aX b) (aW : ∀ b, cu b → ¬ ej b) : bg w F (xs ++ cd) (cD ++ cz) aX := by
 induction xs generalizing cD cu aX with
 | nil => rw [bg] at ae; subst ae; exact bg.mono (fun _ h => h) _ _ _ _ ba ah
 | cons x xs ih =>
   rw [bg] at ae
   obtain ⟨RB, RC, h6, ht, rfl, bc, bA, cU, eY, gg⟩ := ae
   rw [List.cons_append, bg]
   refine ⟨RB, RC ++ cz, h6, fun b => ht b ∨ ej b, by simp, bc, ih bA (fun b h => .inl h) (fun b h => .inr h) (fun b h => aW b (eY b h)), fun b h => aU b (cU b h), ?_, ?_⟩
   ·rintro b (h | h)
    ·exact aU b (eY b h)
    ·exact ba b h
   ·rintro b h (bP | bP)
    ·exact gg b h bP
    ·exact aW b (cU b h) bP
theorem EL {P : Program} {size m cap : Nat} {b o : Nat} {news : List Value} (kb : Rd w b o news) (hl : news.length = m * size) : Src P w size (.slice (some ⟨b, o, none⟩) m cap) m news := by
 intro aO hw
 refine ⟨rfl, ?_⟩
 refine run_firstCells_some aO size m ⟨b, o, none⟩ m cap news hl (fun j v cH => ?_)
 rw [Addr.add_lit]
 have := kb j v cH
 simpa [World.cell?, hw] using this
theorem Jk {P : Program} {size cap : Nat} : Src P w size (.slice none 0 cap) 0 [] := by
 intro aO _
 exact ⟨rfl, by simp [Builtin.firstCells]⟩
theorem EM {P : Program} {size cap : Nat} (a : Option Addr) : Src P w size (.slice a 0 cap) 0 [] := by
 cases a with
 | none => exact Jk
 | some a =>
   intro aO _
   exact ⟨rfl, run_firstCells_some aO size 0 a 0 cap [] (by simp) (fun j v cH => by simp at cH)⟩
theorem RD {P : Program} (l : List UInt8) : Src P w 1 (.string ⟨⟨l⟩⟩) l.length (l.map fun b => .int .u8 (b.toNat : Int)) := by
 intro aO _
 refine ⟨rfl, ?_⟩
 have : (⟨⟨l⟩⟩ : ByteArray).extract 0 l.length = ⟨⟨l⟩⟩ := by
  apply ByteArray.ext
  simp [ByteArray.data_extract]
 simp [Builtin.firstCells, this]
theorem bg.sy {sz : Nat} {xs : List I} {cs : List Value} {aX : Nat → Prop} (h : bg w F xs cs aX) (hw : ∀ d ∈ xs, d.wd = sz) : cs.length = xs.length * sz := by
 rw [bg.length _ _ _ h, sd _ hw]
theorem b9.turn (h : b9 w0 F0 X F S s aC w) {aO : World} {b : Nat} (ad : ∀ c, c ≠ b → aO.heap[c]? = w.heap[c]?) (af : aO.heap.size = w.heap.size) (ae : aO.os = w.os) (ah : aO.tape = w.tape) (aH : aO.output = w.output)
  (bI : ¬ F b) (bZ : ∀ u, ¬ S u b) (bf : X b ∨ w0.heap.size ≤ b) : b9 w0 F0 X F S s aC aO where
 hL := h.hL
 hZ := h.hZ
 ga := fun c ax => by rw [af]; exact h.ga c ax
 fh := fun t c ax => by rw [af]; exact h.fh t c ax
 gF := h.gF
 gq := h.gq
 ez := h.ez
 eg := fun t => aM.frame (Sx := S) (fun c ax => ad c (by rintro rfl; exact bI ax)) (fun _ h => h) (fun x c ax => ad c (by rintro rfl; exact bZ x ax)) h.eg _ _ _ (fun c ax => ad c (by rintro rfl; exact bZ t ax)) (h.eg t)
 old := fun c e7 kS => by
  rw [ad c ?_]
  ·exact h.old c e7 kS
  ·rintro rfl
   rcases bf with bf | bf
   ·exact kS bf
   ·omega
 size := by rw [af]; exact h.size
 os := ae.trans h.os
 tape := ah.trans h.tape
 output := aH.trans h.output
theorem RE (bz : C.Ok) (h : b9 w0 F0 X F S s aC w) {T b0 ty : TypeId} {x y : I} {jC i6 : Value} (aq : aM w F s aC x jC (fun _ => False)) (bl : aM w F s aC y i6 (fun _ => False))
  (he : mq C s T b0 x y = some (av, s1)) : Good C w0 F0 X aC w (Builtin.append_ #[T, b0] ty #[jC, i6]) av s1 := by
 unfold mq at he
 split at he
 ·rename_i e aA
  obtain ⟨EN, d, EO, aU, ba, aW, cS, cZ, cn, bV⟩ := bz.info (gV aA (by simp))
  rw [aA] at bV
  have := lH bV; subst this
  split at he
  ·rename_i so
   obtain ⟨oN, pK, qn, pL⟩ := so
   obtain ⟨i, EP, z, f1, f2, f3, f4, f5, f6, f7⟩ := bz.info oN
   obtain ⟨fE, l4⟩ := Option.isSome_iff_exists.1 qn
   have qo := f5 fE l4
   have oP : fE.length = (C.T e).sz := by
    have := aw.length _ _ _ ((aw.flat (w := w) (F := F) _).1 (C.T e).zero fE (fun _ => False) (Nat.le_refl _) l4)
    rw [this, pK]
   obtain ⟨qm, hu, sx⟩ : ∃ qm, C.P.underlying b0 = some qm ∧ EI qm := by
    unfold An at pL
    split at pL
    ·rename_i fQ lg
     obtain ⟨_, bQ, _, _, _, _, _, _, iM, jk⟩ := bz.info (gV lg (by simp))
     rw [lg] at jk
     exact ⟨bQ, iM, .inl ⟨_, lH jk⟩⟩
    ·rename_i lg _
     obtain ⟨_, bQ, _, _, _, _, _, _, iM, jk⟩ := bz.info (gV lg (by simp))
     rw [lg] at jk
     exact ⟨bQ, iM, .inr (qh jk)⟩
    ·cases pL
   split at he
   ·rename_i sz xs ER pM
    split at he
    ·rename_i eM
     subst eM
     split at he
     ·rename_i cd xi nZ
      split at he
      ·rename_i RF
       obtain ⟨uP, EJ, ES⟩ := RF
       simp only [Option.some.injEq, Prod.mk.injEq] at he
       obtain ⟨rfl, rfl⟩ := he
       obtain ⟨h6, a0, Sn, a3, a4, a5, pH, pI, aBa, a9, rm⟩ : ∃ h6, b9 w0 F0 X F h6 ER aC w ∧ ∃ Sn, aw w F (.ao (C.T e).sz xs) [jC] Sn ∧ (∀ b, Sn b → b < w.heap.size) ∧ (∀ b, Sn b → ¬ F b) ∧ (∀ u b, Sn b → ¬ h6 u b) ∧
         (∀ b, Sn b → X b ∨ w0.heap.size ≤ b) ∧ (∀ u b, h6 u b → S u b) ∧ (∀ b, Sn b → ∃ u, S u b) ∧ aM w F ER aC (kV x.owner y) i6 (fun _ => False) := by
        split at pM
        ·simp only [Option.some.injEq, Prod.mk.injEq, I.ao.injEq, true_and] at pM
         obtain ⟨rfl, rfl⟩ := pM
         have := qk aq; subst this
         exact ⟨S, h, fun _ => False, by rw [aw]; exact .inl ⟨rfl, _, rfl⟩, fun _ h => h.elim, fun _ h => h.elim, fun _ _ h => h.elim, fun _ h => h.elim, fun _ _ h => h, fun _ h => h.elim, bl⟩
        ·obtain ⟨cu, h8, bc, bA, Sn, cU, eY, gg, iM, jk, l1, xj, Ao⟩ := pD h rfl aq pM
         rw [hF bA] at cU
         exact ⟨cu, h8, Sn, cU, eY, gg, iM, jk, l1, xj, Ao _ _ _ bl⟩
        ·cases pM
       obtain ⟨ht, ky, nn, news, kW, iN, lh, bt, b2, dd, np, bw⟩ : ∃ ht, b9 w0 F0 X F ht xi aC w ∧ ∃ nn news, bg w F cd news nn ∧ Src C.P w i.size i6 cd.length news ∧ (∀ b, nn b → b < w.heap.size) ∧ (∀ b, nn b → ¬ F b) ∧ (∀ u b, nn b → ¬ ht u b) ∧
         (∀ b, nn b → X b ∨ w0.heap.size ≤ b) ∧ (∀ u b, ht u b → h6 u b) ∧ (∀ b, nn b → ∃ u, h6 u b) := by
        split at nZ
        ·rename_i sA
         simp only [Option.some.injEq, Prod.mk.injEq] at nZ
         obtain ⟨rfl, rfl⟩ := nZ
         rw [sA] at rm
         have := qk rm; subst this
         exact ⟨h6, a0, fun _ => False, [], by rw [bg], Jk, fun _ h => h.elim, fun _ h => h.elim, fun _ _ h => h.elim, fun _ h => h.elim, fun _ _ h => h, fun _ h => h.elim⟩
        ·rename_i zs sA
         simp only [Option.some.injEq, Prod.mk.injEq] at nZ
         obtain ⟨rfl, rfl⟩ := nZ
         rw [sA] at rm
         rcases Aj rm with ⟨rfl, uN, aBb, rfl, _, ss⟩ | ⟨b, o, cap, e3, RG, rfl, ca, cy, fy, eB, gr, dH⟩
         ·exact ⟨h6, a0, fun _ => False, [], by rw [bg], EM uN, fun _ h => h.elim, fun _ h => h.elim, fun _ _ h => h.elim, fun _ h => h.elim, fun _ _ h => h, fun _ h => h.elim⟩
         ·exact ⟨h6, a0, fun _ => False, e3, dH, EL gr (by rw [f2]; exact bg.sy dH uP), fun _ h => h.elim, fun _ h => h.elim, fun _ _ h => h.elim, fun _ h => h.elim, fun _ _ h => h, fun _ h => h.elim⟩
        ·rename_i l sA
         simp only [Option.some.injEq, Prod.mk.injEq] at nZ
         obtain ⟨rfl, rfl⟩ := nZ
         rw [sA] at rm
         have := pG rm; subst this
         have Ap : l ≠ [] → i.size = 1 := by
          intro hl
          cases l with
          | nil => exact (hl rfl).elim
          | cons b l => rw [f2, ← uP (kX b) (by simp)]; rfl
         by_cases hl : l = []
         ·subst hl
          refine ⟨h6, a0, fun _ => False, [], by simp only [List.map_nil]; rw [bg], ?_, fun _ h => h.elim, fun _ h => h.elim, fun _ _ h => h.elim, fun _ h => h.elim, fun _ _ h => h, fun _ h => h.elim⟩
          intro aO _
          exact ⟨rfl, by simp [Builtin.firstCells, ByteArray.extract]; rfl⟩
         ·refine ⟨h6, a0, fun _ => False, _, Jd l _, ?_, fun _ h => h.elim, fun _ h => h.elim, fun _ _ h => h.elim, fun _ h => h.elim, fun _ _ h => h, fun _ h => h.elim⟩
          rw [Ap hl, List.length_map]
          exact RD l
        ·rename_i a q sA
         split at nZ
         ·rename_i aBc zs s2 bo
          simp only [Option.some.injEq, Prod.mk.injEq] at nZ
          obtain ⟨rfl, rfl⟩ := nZ
          rw [sA] at rm
          obtain ⟨ej, h8, bc, bA, nn, cU, eY, gg, iM, jk, l1, xj, Ao⟩ := pD a0 rfl rm bo
          rw [hF bA, aw] at cU
          rcases cU with ⟨rfl, RH, lJ⟩ | ⟨b, cap, cur, g4, fr, aX, lJ, ca, cy, fy, eB, gr, dH, jD, gi, mo, rl⟩
          ·simp at lJ; subst lJ
           exact ⟨ej, h8, fun _ => False, [], by rw [bg], (EM RH), fun _ h => h.elim, fun _ h => h.elim, fun _ _ h => h.elim, fun _ h => h.elim, l1, fun _ h => h.elim⟩
          ·simp at lJ; subst lJ
           refine ⟨ej, h8, aX, _, gi, EL (uB cy _) ?_, fun c ax => eY c (mo c ax), fun c ax => gg c (mo c ax), fun u c ax => iM u c (mo c ax), fun c ax => jk c (mo c ax), l1, fun c ax => xj c (mo c ax)⟩
           rw [f2]; exact bg.sy gi uP
         ·cases nZ
        ·cases nZ
       have rn : news.length = cd.length * (C.T e).sz := bg.sy kW uP
       have n0 : ∀ c, Sn c → ¬ nn c := fun c ae ah => by obtain ⟨u, hu⟩ := bw c ah; exact pH u c ae hu
       have lb : ∀ u c, Sn c → ¬ ht u c := fun u c ae ah => pH u c ae (np u c ah)
       have grow : ∀ (base : Option Addr) (cap : Nat) (oO : List Value) (Sx : Nat → Prop), jC = .slice base xs.length cap → Src C.P w i.size (.slice base xs.length cap) xs.length oO → bg w F xs oO Sx → (∀ d ∈ xs, d.wd = (C.T e).sz) → (∀ c, Sx c → Sn c) → ¬ xs.length + cd.length ≤ cap →
         Good C w0 F0 X aC w (Builtin.append_ #[T, b0] ty #[jC, i6]) (.ao (C.T e).sz (xs ++ cd)) xi := by
        intro base cap oO Sx EC hold Jl Jm fN pJ
        subst EC
        have aZ := RA (ty := ty) cn hu sx f1 f4 iN hold pJ ES (by rw [f3]; exact EJ)
        have xf := grownCap_ge w (xs.length + cd.length) cap e
        have xg := grownCap_le_maxLen w (xs.length + cd.length) cap e (by unfold maxLen; omega)
        have xk := bg.sy Jl Jm
        have RI : bg w F (xs ++ cd) (oO ++ news) (fun c => Sx c ∨ nn c) := bg.append Jl kW (fun _ h => .inl h) (fun _ h => .inr h) (fun c ae ah => n0 c (fN c ae) ah)
        have RJ : (oO ++ news).length = (xs ++ cd).length * (C.T e).sz := by simp [xk, rn, Nat.add_mul]
        have kx := ky.xc (aO := w.drew.alloc (.cells (oO.toArray ++ news.toArray ++ Builtin.zeroCells z.cells (grownCap w (xs.length + cd.length) cap e - (xs.length + cd.length))) e))
         (sz := (C.T e).sz) (cap := grownCap w (xs.length + cd.length) cap e) (xs := xs ++ cd) (e := e) (fr := (0, 0)) (Sn := fun c => Sx c ∨ nn c) rfl rfl rfl rfl
         (fun o _ ⟨_, ah⟩ => absurd ah (Nat.not_lt_zero _)) (by simpa using xf) xg
         (by
          simp only [Array.size_append, List.size_toArray, size_zeroCells, qo, xk, rn, oP, ← Nat.add_mul]
          congr 1; omega)
         (by
          intro d aj
          rcases List.mem_append.1 aj with aj | aj
          ·exact Jm d aj
          ·exact uP d aj)
         (by
          simp only [Array.toList_append]
          rw [List.take_left' RJ]
          exact RI)
         (by rintro c (ax | ax); exact a4 c (fN c ax); exact lh c ax) (by rintro c (ax | ax); exact a5 c (fN c ax); exact bt c ax) (by rintro u c (ax | ax); exact lb u c (fN c ax); exact b2 u c ax) (by rintro c (ax | ax); exact pI c (fN c ax); exact dd c ax)
        refine ⟨_, _, F, ht, aZ, kx.1, ?_⟩
        have := kx.2
        simpa using this
       rw [aw] at a3
       rcases a3 with ⟨rfl, Aq, lJ⟩ | ⟨b, cap, cur, g4, fr, aX, lJ, ca, cy, fy, eB, gr, dH, jD, gi, mo, rl⟩
       ·simp at lJ; subst lJ
        by_cases Jn : cd = []
        ·subst Jn
         have ET : news = [] := by simpa using rn
         subst ET
         refine ⟨.slice Aq 0 0, w, F, ht, ?_, ky, .inr ⟨rfl, rfl, fun _ => False, by simp only [cL, il]; rw [aw]; exact .inl ⟨rfl, _, rfl⟩, fun _ h => h.elim, fun _ h => h.elim, fun _ _ h => h.elim, fun _ h => h.elim⟩⟩
         obtain ⟨ae, ah⟩ := iN w rfl
         cases Aq <;> rcases sx with ⟨fQ, rfl⟩ | rfl <;> simp at ae ah <;> simp [Builtin.append_, run_underlying cn, run_underlying hu, kc f1, ae, ah, storeCells]
        ·exact grow Aq 0 [] (fun _ => False) rfl (EM Aq) (by rw [bg]) (by simp) (fun _ h => h.elim) (by
          cases cd with
          | nil => exact (Jn rfl).elim
          | cons y cd => simp)
       ·simp at lJ; subst lJ
        by_cases pJ : xs.length + cd.length ≤ cap
        ·
         have xk := bg.sy gi jD
         have hlen : cur.toList.length = cap * (C.T e).sz := by simp [dH]
         have hle : (xs.length + cd.length) * (C.T e).sz ≤ cap * (C.T e).sz := Nat.mul_le_mul_right _ pJ
         rw [Nat.add_mul] at hle
         have lD : cur.toList = cur.toList.take (xs.length * (C.T e).sz) ++ ((cur.toList.drop (xs.length * (C.T e).sz)).take news.length ++ (cur.toList.drop (xs.length * (C.T e).sz)).drop news.length) := by
          rw [List.take_append_drop, List.take_append_drop]
         obtain ⟨aO, fR, gW, hS, ku, l3, cB, oJ⟩ := Rz (ty := ty) (n := xs.length) (m := cd.length) (cap := cap) cn hu sx f1 iN cy fy lD (by rw [f2]; exact xk) (by simp [hlen, rn]; omega) (bg.sm _ _ _ kW) pJ
         have RK := ky.turn hS ku l3 cB oJ (a5 b ca) (fun u hu => lb u b ca hu) (pI b ca)
         have uF : ∀ c, F c → aO.heap[c]? = w.heap[c]? := fun c ax => hS c (by rintro rfl; exact a5 _ ca ax)
         refine ⟨_, aO, F, ht, fR, RK, .inr ⟨rfl, rfl, fun c => Sn c ∨ nn c, ?_, ?_, ?_, ?_, ?_⟩⟩
         ·simp only [cL, il]
          rw [aw]
          have Jo : (cur.toList.take (xs.length * (C.T e).sz) ++ (news ++ (cur.toList.drop (xs.length * (C.T e).sz)).drop news.length)).toArray.size = cur.size := by
           have : cur.size = cur.toList.length := by simp
           rw [this]
           conv => rhs; rw [lD]
           simp [hlen, rn]; omega
          refine .inr ⟨b, cap, _, g4, fr, fun c => aX c ∨ nn c, by simp, .inl ca, gW, by rw [Jo]; exact fy, by simpa using pJ, gr, by rw [Jo]; exact dH, ?_, ?_, ?_, ?_⟩
          ·intro d aj
           rcases List.mem_append.1 aj with aj | aj
           ·exact jD d aj
           ·exact uP d aj
          ·have uJ := bg.frame uF _ _ _ (fun c ax => hS c (by rintro rfl; exact rl ax)) gi
           have sj := bg.frame uF _ _ _ (fun c ax => hS c (by rintro rfl; exact n0 _ ca ax)) kW
           have : ((cur.toList.take (xs.length * (C.T e).sz) ++ (news ++ (cur.toList.drop (xs.length * (C.T e).sz)).drop news.length)).toArray.toList.take ((xs ++ cd).length * (C.T e).sz)) = cur.toList.take (xs.length * (C.T e).sz) ++ news := by
            simp only []
            rw [← List.append_assoc]
            exact List.take_left' (by rw [List.length_append, xk, rn, List.length_append, Nat.add_mul])
           rw [this]
           exact bg.append uJ sj (fun _ h => .inl h) (fun _ h => .inr h) (fun c ae ah => n0 c (mo c ae) ah)
          ·rintro c (ax | ax)
           ·exact .inl (mo c ax)
           ·exact .inr ax
          ·rintro (ax | ax)
           ·exact rl ax
           ·exact n0 b ca ax
         ·rw [ku]; rintro c (ax | ax); exact a4 c ax; exact lh c ax
         ·rintro c (ax | ax); exact a5 c ax; exact bt c ax
         ·rintro u c (ax | ax); exact lb u c ax; exact b2 u c ax
         ·rintro c (ax | ax); exact pI c ax; exact dd c ax
        ·exact grow (some ⟨b, 0, none⟩) cap _ aX rfl (EL (uB cy _) (by rw [f2]; exact bg.sy gi jD)) gi jD mo pJ
      ·cases he
     ·cases he
    ·cases he
   ·cases he
  ·cases he
 ·cases he
end
end Go.dg
