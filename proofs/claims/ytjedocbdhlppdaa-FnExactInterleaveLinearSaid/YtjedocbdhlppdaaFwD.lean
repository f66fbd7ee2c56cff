/- Part of a proof that a law returns true for every input. No condition. -/
import Derived.Test.YtjedocbdhlppdaaFwC
import Derived.Test.YtjedocbdhlppdaaFwA
import Derived.Laws.IdiomStrings
import Derived.Laws.Strings
import Derived.LaidEql
import Derived.WideLaws
import Derived.Laws.StructEq
namespace Go.dp
section
variable {C : b1} {w0 w : World} {F0 X F : Nat → Prop} {S : Nat → Nat → Prop} {s s1 : ao} {aE : Nat → Value} {av : j}
theorem oC {k : IntKind} {n : Int} {v : Value} {aU : Nat → Prop} (h : aL w F s aE (.int k n) v aU) : v = .int k n := by
 have bN := (aL.cJ rfl).1 h
 rw [ax, gx bN.1] at bN
 simpa using bN.2
theorem qG {b : Bool} {v : Value} {aU : Nat → Prop} (h : aL w F s aE (.bool b) v aU) : v = .bool b := by
 have bN := (aL.cJ rfl).1 h
 rw [ax, gx bN.1] at bN
 simpa using bN.2
theorem nW {b : List UInt8} {v : Value} {aU : Nat → Prop} (h : aL w F s aE (.str b) v aU) : v = .string ⟨⟨b⟩⟩ := by
 have bN := (aL.cJ rfl).1 h
 rw [ax, gx bN.1] at bN
 simpa using bN.2
theorem D2 {v : Value} {aU : Nat → Prop} (h : aL w F s aE .dj v aU) : v = .pointer none := by
 have bN := (aL.cJ rfl).1 h
 rw [ax, gx bN.1] at bN
 simpa using bN.2
theorem oD {v : Value} {aU : Nat → Prop} (h : aL w F s aE .af v aU) : v = .slice none 0 0 := by
 have bN := (aL.cJ rfl).1 h
 rw [ax, gx bN.1] at bN
 simpa using bN.2
theorem D3 {v : Value} {aU : Nat → Prop} (h : aL w F s aE .eo v aU) : ∃ b, v = .bool b := by
 have bN := (aL.cJ rfl).1 h
 rw [ax, gx bN.1] at bN
 simpa using bN.2
theorem of_int (k : IntKind) (n : Int) : aL w F s aE (.int k n) (.int k n) (fun _ => False) := (aL.cJ rfl).2 ⟨rfl, by rw [ax]; rfl⟩
theorem of_bool (b : Bool) : aL w F s aE (.bool b) (.bool b) (fun _ => False) := (aL.cJ rfl).2 ⟨rfl, by rw [ax]; rfl⟩
theorem nc (b : List UInt8) : aL w F s aE (.str b) (.string ⟨⟨b⟩⟩) (fun _ => False) := (aL.cJ rfl).2 ⟨rfl, by rw [ax]; rfl⟩
theorem At (b : Bool) : aL w F s aE .eo (.bool b) (fun _ => False) := (aL.cJ rfl).2 ⟨rfl, by rw [ax]; exact ⟨b, rfl⟩⟩
def iw (op : BinOp) (k : IntKind) (a : Int) (dU : IntKind) (b : Int) : Option j :=
 match op with
 | .shl => if b < 0 then none else some (.int k (k.wrap (a * 2 ^ (min b.toNat k.bits))))
 | .shr => if b < 0 then none else some (.int k (a.fdiv (2 ^ (min b.toNat k.bits))))
 | .add => if k = dU then some (.int k (k.wrap (a + b))) else none
 | .sub => if k = dU then some (.int k (k.wrap (a - b))) else none
 | .mul => if k = dU then some (.int k (k.wrap (a * b))) else none
 | .quo => if k = dU ∧ b ≠ 0 then some (.int k (k.wrap (a.tdiv b))) else none
 | .rem => if k = dU ∧ b ≠ 0 then some (.int k (a.tmod b)) else none
 | .eql => if k = dU then some (.bool (a == b)) else none
 | .neq => if k = dU then some (.bool (a != b)) else none
 | .lss => if k = dU then some (.bool (decide (a < b))) else none
 | .leq => if k = dU then some (.bool (decide (a ≤ b))) else none
 | .gtr => if k = dU then some (.bool (decide (b < a))) else none
 | .geq => if k = dU then some (.bool (decide (b ≤ a))) else none
 | .and => if k = dU then some (.int k (bitsOf .and k a b)) else none
 | .or => if k = dU then some (.int k (bitsOf .or k a b)) else none
 | .xor => if k = dU then some (.int k (bitsOf .xor k a b)) else none
 | .andNot => if k = dU then some (.int k (bitsOf .andNot k a b)) else none
def mc (op : BinOp) (a b : List UInt8) : Option j :=
 match op with
 | .add => if a.length + b.length ≤ 9223372036854775807 then some (.str (a ++ b)) else none
 | .eql => some (.bool (a == b))
 | .neq => some (.bool !(a == b))
 | .lss => some (.bool (Op.bytesLess a b))
 | .leq => some (.bool (Op.bytesLess a b || a == b))
 | .gtr => some (.bool !(Op.bytesLess a b || a == b))
 | .geq => some (.bool !(Op.bytesLess a b))
 | _ => none
def i_ (s : ao) : j → Option (Option Bool)
 | .af => some (some true)
 | .slice xs => some (if xs = [] then none else some false)
 | .h x q => match j.sub q (s x) with
   | some (.ai _ xs) => some (if xs = [] then none else some false)
   | _ => none
 | _ => none
def kt (s : ao) : j → Option Bool
 | .dj => some true
 | .ref _ => some false
 | .h x q => match j.sub q (s x) with
   | some (.aG _) => some false
   | _ => none
 | _ => none
def nd (neg : Bool) : Option Bool → j
 | some b => .bool (b != neg)
 | none => .eo
def structEq (P : Program) (T : TypeId) : Bool := !P.stoodInHeld T && !P.eqGuardType P.depth T && (P.fieldsOf T).toList.all fun f => decide (f.name ≠ "_")
def mG (C : b1) : List (TypeId × Nat) → Nat → List j → List j → Option Bool
 | [], _, [], [] => some true
 | (iH, off) :: ar, n, d :: ds, e :: es => if off = n then (match (C.T iH).k, d, e with
   | .int k, .int ch a, .int cu b => if ch = k ∧ cu = k then (mG C ar (n + 1) ds es).map fun r => a == b && r else none
   | .bool, .bool a, .bool b => (mG C ar (n + 1) ds es).map fun r => a == b && r
   | .str, .str a, .str b => (mG C ar (n + 1) ds es).map fun r => a == b && r
   | _, _, _ => none) else none
 | _, _, _, _ => none
def aP (C : b1) (s : ao) (op : BinOp) (T : TypeId) (x y : j) : Option j :=
 match x, y with
 | .int k a, .int dU b => iw op k a dU b
 | .str a, .str b => mc op a b
 | .bool a, .bool b => match op, (C.T T).k with
   | .eql, .bool => some (.bool (a == b))
   | .neq, .bool => some (.bool !(a == b))
   | _, _ => none
 | .agg ds, .agg es => match op, (C.T T).k with
   | .eql, .struct ar => if structEq C.P T = true then (mG C ar 0 ds es).map fun b => .bool b else none
   | .neq, .struct ar => if structEq C.P T = true then (mG C ar 0 ds es).map fun b => .bool !b else none
   | _, _ => none
 | x, .af => match op, (C.T T).k with
   | .eql, .slice _ => (i_ s x).map (nd false)
   | .neq, .slice _ => (i_ s x).map (nd true)
   | _, _ => none
 | x, .dj => match op, (C.T T).k with
   | .eql, .ptr _ => (kt s x).map fun b => .bool b
   | .neq, .ptr _ => (kt s x).map fun b => .bool !b
   | _, _ => none
 | _, _ => none
theorem Lg {P : Program} {op : BinOp} {T : TypeId} {k dU : IntKind} {a b : Int} (he : iw op k a dU b = some av) (w : World) :
  ∃ v, (binOp op T (.int k a) (.int dU b)).run P w = .ok v w ∧ aL w F s aE av v (fun _ => False) := by
 unfold iw at he
 cases op <;> simp only at he <;> split at he <;> first | (cases he; done) | skip
 all_goals
  rename_i az
  simp only [Option.some.injEq] at he
  subst he
 all_goals first
  | (subst az; simp only [binOp_add, binOp_sub, binOp_mul, binOp_eql, binOp_neq, binOp_lss, binOp_leq, binOp_gtr, binOp_geq, binOp_and, binOp_or, binOp_xor, binOp_andNot, Op.intArith, Op.intBits, Sem.run_pure, Result.ok.injEq, and_true, exists_eq_left']
     first | exact of_int _ _ | exact of_bool _)
  | (obtain ⟨rfl, bM⟩ := az
     simp only [binOp_quo, binOp_rem, Op.intDiv, bM, if_false, Sem.run_pure, Result.ok.injEq, and_true, exists_eq_left']
     exact of_int _ _)
  | (simp only [binOp_shl, binOp_shr, Op.shift, az, if_false, Sem.run_pure, Result.ok.injEq, and_true, exists_eq_left']
     exact of_int _ _)
theorem tY (a : List UInt8) : (⟨⟨a⟩⟩ : ByteArray).toList = a := ByteArray.toList_eq _
theorem Lh (a b : List UInt8) : (⟨⟨a⟩⟩ : ByteArray) ++ (⟨⟨b⟩⟩ : ByteArray) = ⟨⟨a ++ b⟩⟩ := by
 apply ByteArray.ext
 simp [ByteArray.data_append]
theorem Li {P : Program} {op : BinOp} {T : TypeId} {a b : List UInt8} (he : mc op a b = some av) (w : World) :
  ∃ v, (binOp op T (.string ⟨⟨a⟩⟩) (.string ⟨⟨b⟩⟩)).run P w = .ok v w ∧ aL w F s aE av v (fun _ => False) := by
 have U : ∀ op, binOp op T (.string ⟨⟨a⟩⟩) (.string ⟨⟨b⟩⟩) = Op.stringOp op ⟨⟨a⟩⟩ ⟨⟨b⟩⟩ := by intro op; cases op <;> rfl
 rw [U]
 unfold mc at he
 cases op <;> simp only [Option.some.injEq] at he <;> first | (cases he; done) | skip
 case add =>
  split at he
  ·rename_i hl
   simp only [Option.some.injEq] at he; subst he
   have ab : ((ByteArray.size ⟨⟨a⟩⟩ + ByteArray.size ⟨⟨b⟩⟩ : Nat) : Int) ≤ 9223372036854775807 := by
    show ((a.length + b.length : Nat) : Int) ≤ _
    omega
   refine ⟨.string ⟨⟨a ++ b⟩⟩, ?_, nc _⟩
   simp only [Op.stringOp, IntKind.max_i64]
   rw [if_neg (by omega), Lh]
   rfl
  ·cases he
 all_goals
  subst he
  simp only [Op.stringOp, tY, Sem.run_pure, Result.ok.injEq, and_true, exists_eq_left']
  exact of_bool _
theorem Au (h : bU w0 F0 X F S s aE w) {v : Value} {y : Nat} {q : List Nat} (aQ : aL w F s aE (.h y q) v (fun _ => False)) {sz : Nat} {xs : List j} (ak : j.sub q (s y) = some (.ai sz xs)) :
  (xs = [] ∧ ∃ a, v = .slice a 0 0) ∨ ∃ b cap cur e fr, v = .slice (some ⟨b, 0, none⟩) xs.length cap ∧ w.heap[b]? = some (.cells cur e fr) ∧ pc fr cur.size ∧ xs.length ≤ cap ∧ cap ≤ maxLen ∧ cur.size = cap * sz ∧ (∀ d ∈ xs, d.wd = sz) ∧
   ∃ aU, ba w F xs (cur.toList.take (xs.length * sz)) aU ∧ (∀ c, aU c → S y c) ∧ S y b := by
 rw [aL] at aQ
 obtain ⟨cU, a, a8, bA, ct⟩ := aQ _ ak rfl
 have ab : Value.gw v = true := ct
 rw [gx ab] at bA; subst bA
 have aw := h.dJ y
 rw [aL.cJ (hX ak (.inl rfl))] at aw
 obtain ⟨fD, cN, ep, gF, k0, ch, cu, eF, dG, ff⟩ := ctx q (s y) (cp (aE y)) (S y) none _ aw.2 ak
 rw [k0] at a8
 simp only [Option.some.injEq, Prod.mk.injEq, true_and] at a8
 obtain ⟨rfl, rfl⟩ := a8
 rw [ax] at dG
 rcases dG with ⟨rfl, a9, ah⟩ | ⟨b, cap, cur, bg, fr, dA, bf, cn, c3, b_, bV, hK, g7, jH, qH, eG, eP⟩
 ·simp at ah; exact .inl ⟨rfl, _, ah⟩
 ·simp at bf
  exact .inr ⟨b, cap, cur, bg, fr, bf, c3, b_, bV, hK, g7, jH, dA, qH, fun c az => cu _ (eG c az), cu _ cn⟩
theorem D4 (h : bU w0 F0 X F S s aE w) {v : Value} {y : Nat} {q : List Nat} (aQ : aL w F s aE (.h y q) v (fun _ => False)) {d : j} (ak : j.sub q (s y) = some (.aG d)) :
  ∃ b cur e fr, v = .pointer (some ⟨b, 0, none⟩) ∧ w.heap[b]? = some (.cells cur e fr) := by
 rw [aL] at aQ
 obtain ⟨cU, a, a8, bA, ct⟩ := aQ _ ak rfl
 have ab : Value.gw v = true := ct
 rw [gx ab] at bA; subst bA
 have aw := h.dJ y
 rw [aL.cJ (hX ak (.inl rfl))] at aw
 obtain ⟨fD, cN, ep, gF, k0, ch, cu, eF, dG, ff⟩ := ctx q (s y) (cp (aE y)) (S y) none _ aw.2 ak
 rw [k0] at a8
 simp only [Option.some.injEq, Prod.mk.injEq, true_and] at a8
 obtain ⟨rfl, rfl⟩ := a8
 rw [ax] at dG
 obtain ⟨b, cur, bg, fr, dA, bf, cn, c3, _⟩ := dG
 simp at bf
 exact ⟨b, cur, bg, fr, bf, c3⟩
theorem D5 {P : Program} {T e : TypeId} (a3 : P.underlying T = some (.slice e)) (w : World) : ∀ d, (Op.equalIn (d + 1) T (.slice none 0 0) (.slice none 0 0)).run P w = .ok true w ∧
  ∀ a n c, (Op.equalIn (d + 1) T (.slice (some a) n c) (.slice none 0 0)).run P w = .ok false w := by
 intro d
 refine ⟨by simp [Op.equalIn, run_underlying a3], fun a n c => by simp [Op.equalIn, run_underlying a3]⟩
theorem D6 {P : Program} {T e : TypeId} (a3 : P.underlying T = some (.pointer e)) (w : World) : ∀ d, (Op.equalIn (d + 1) T (.pointer none) (.pointer none)).run P w = .ok true w ∧
  ∀ a, (Op.equalIn (d + 1) T (.pointer (some a)) (.pointer none)).run P w = .ok false w := by
 intro d
 refine ⟨by simp [Op.equalIn, run_underlying a3], fun a => by simp [Op.equalIn, run_underlying a3]⟩
theorem D7 {P : Program} {T : TypeId} (a3 : P.underlying T = some .bool) (w : World) : ∀ d a b, (Op.equalIn (d + 1) T (.bool a) (.bool b)).run P w = .ok (a == b) w := by
 intro d a b
 simp [Op.equalIn, run_underlying a3]
theorem D8 (h : bU w0 F0 X F S s aE w) {x : j} {v : Value} (aQ : aL w F s aE x v (fun _ => False)) {T e : TypeId} {r : Option Bool} (a2 : i_ s x = some r) (a3 : C.P.underlying T = some (.slice e)) :
  ∃ b, (Op.equal T v (.slice none 0 0)).run C.P w = .ok b w ∧ (∀ fl, r = some fl → fl = b) ∧ Value.gw v = true ∧ ∃ a n c, v = .slice a n c := by
 have a1 := fun a n c => (D5 a3 w 9999).2 a n c
 have gd := (D5 a3 w 9999).1
 cases x with
 | af =>
   have := oD aQ; subst this
   simp [i_] at a2; subst a2
   exact ⟨true, gd, by simp, rfl, _, _, _, rfl⟩
 | slice xs =>
   have bN := (aL.cJ rfl).1 aQ
   rw [ax, gx bN.1] at bN
   simp only [i_, Option.some.injEq] at a2
   obtain ⟨_, ⟨rfl, a, c, ah, _, qI⟩ | ⟨b, o, cap, ea, sz, ah, aM⟩⟩ := bN
   ·simp at ah a2; subst ah; subst a2
    cases a with
    | none =>
      have := qI rfl; subst this
      exact ⟨true, gd, by simp, rfl, _, _, _, rfl⟩
    | some a => exact ⟨false, a1 _ _ _, by simp, rfl, _, _, _, rfl⟩
   ·simp at ah; subst ah
    refine ⟨false, a1 _ _ _, ?_, rfl, _, _, _, rfl⟩
    subst a2
    split <;> simp
 | h y q =>
   simp only [i_] at a2
   split at a2
   ·rename_i sz xs ak
    simp only [Option.some.injEq] at a2
    rcases Au h aQ ak with ⟨rfl, a, rfl⟩ | ⟨b, cap, cur, bg, fr, rfl, _⟩
    ·simp at a2; subst a2
     cases a with
     | none => exact ⟨true, gd, by simp, rfl, _, _, _, rfl⟩
     | some a => exact ⟨false, a1 _ _ _, by simp, rfl, _, _, _, rfl⟩
    ·refine ⟨false, a1 _ _ _, ?_, rfl, _, _, _, rfl⟩
     subst a2
     split <;> simp
   ·cases a2
 | _ => simp [i_] at a2
theorem D9 (h : bU w0 F0 X F S s aE w) {x : j} {v : Value} (aQ : aL w F s aE x v (fun _ => False)) {T e : TypeId} {r : Bool} (a2 : kt s x = some r) (a3 : C.P.underlying T = some (.pointer e)) :
  (Op.equal T v (.pointer none)).run C.P w = .ok r w ∧ ∃ a, v = .pointer a := by
 have a1 := fun a => (D6 a3 w 9999).2 a
 have gd := (D6 a3 w 9999).1
 cases x with
 | dj =>
   have := D2 aQ; subst this
   simp [kt] at a2; subst a2
   exact ⟨gd, _, rfl⟩
 | ref d =>
   have bN := (aL.cJ rfl).1 aQ
   rw [ax, gx bN.1] at bN
   simp [kt] at a2; subst a2
   obtain ⟨_, b, o, ea, ah, _⟩ := bN
   simp at ah; subst ah
   exact ⟨a1 _, _, rfl⟩
 | h y q =>
   simp only [kt] at a2
   split at a2
   ·rename_i d ak
    simp only [Option.some.injEq] at a2; subst a2
    obtain ⟨b, cur, e, fr, rfl, _⟩ := D4 h aQ ak
    exact ⟨a1 _, _, rfl⟩
   ·cases a2
 | _ => simp [kt] at a2
theorem Lj (bt : C.eO) : ∀ (ar : List (TypeId × Nat)) (gs : List Field) (n : Nat) (ds es : List j) (r : Bool) (eY l2 bT b4 : List Value) (xs cz : Array Value) (b7 dA : Nat → Prop),
  gs.map (fun g => (g.type, g.offset)) = ar → (gs.all fun f => decide (f.name ≠ "_")) = true → mG C ar n ds es = some r → ba w F ds bT b7 → ba w F es b4 dA → xs.toList = eY ++ bT → eY.length = n → cz.toList = l2 ++ b4 → l2.length = n →
  ∀ m, (Op.eqFields (m + 1) xs cz gs).run C.P w = .ok r w := by
 intro ar
 induction ar with
 | nil =>
   intro gs n ds es r eY l2 bT b4 xs cz b7 dA bQ bh he ag ah aw hl bL Av m
   have : gs = [] := by simpa using bQ
   subst this
   cases ds <;> cases es <;> simp [mG] at he
   subst he
   simp [Op.eqFields]
 | cons p ar ih =>
   obtain ⟨iH, off⟩ := p
   intro gs n ds es r eY l2 bT b4 xs cz b7 dA bQ bh he ag ah aw hl bL Av m
   cases gs with
   | nil => simp at bQ
   | cons g gs =>
     simp only [List.map_cons, List.cons.injEq, Prod.mk.injEq] at bQ
     obtain ⟨⟨rfl, rfl⟩, bQ⟩ := bQ
     simp only [List.all_cons, Bool.and_eq_true, decide_eq_true_eq] at bh
     cases ds with
     | nil => simp [mG] at he
     | cons d ds =>
     cases es with
     | nil => simp [mG] at he
     | cons e es =>
     simp only [mG] at he
     split at he
     ·rename_i nT
      rw [ba] at ag ah
      obtain ⟨aa, a9, w5, Lk, rfl, e5, fT, ho, tZ, e9⟩ := ag
      obtain ⟨ja, hq, ai6, Ll, rfl, gm, bP, fw, cZ, el⟩ := ah
      have step : ∀ (x y : Value) (z : Bool), (C.T g.type).flat = true → aa = [x] → ja = [y] → (∀ m, (Op.equalIn (m + 1) g.type x y).run C.P w = .ok z w) → ∀ g8, mG C ar (n + 1) ds es = some g8 →
        (Op.eqFields (m + 1) xs cz (g :: gs)).run C.P w = .ok (z && g8) w := by
       intro x y z iI Lm Ln heq g8 ek
       subst Lm; subst Ln
       have Lo : xs[g.offset]? = some x := by
        rw [← Array.getElem?_toList, aw, nT, ← hl, List.getElem?_append_right (Nat.le_refl _)]; simp
       have Lp : cz[g.offset]? = some y := by
        rw [← Array.getElem?_toList, bL, nT, ← Av, List.getElem?_append_right (Nat.le_refl _)]; simp
       have au := ih gs (n + 1) ds es g8 (eY ++ [x]) (l2 ++ [y]) a9 hq xs cz Lk Ll bQ bh.2 ek fT bP (by rw [aw]; simp) (by simp [hl]) (by rw [bL]; simp) (by simp [Av]) m
       unfold Op.eqFields
       rw [if_pos bh.1]
       simp only [part, Sem.run_bind, Aq bt iI, Result.andThen_ok, Bool.false_eq_true, if_false, Lo, Lp, Sem.run_pure, heq]
       cases z
       ·simp
       ·simpa using au
      split at he
      ·rename_i k ch a cu b aB
       split at he
       ·rename_i Lq
        obtain ⟨rfl, rfl⟩ := Lq
        rw [ax] at e5 gm
        simp only [Option.map_eq_some_iff] at he
        obtain ⟨g8, ek, rfl⟩ := he
        obtain ⟨i, t_, D_, a1, bg, bf, cn, c3, b_, bV⟩ := bt.info (fL aB (by simp))
        rw [aB] at bV
        have qJ := tS bV
        subst qJ
        exact step _ _ _ (by simp [gb.flat, aB]) e5 gm (fun m => run_equalIn_int w m g.type _ _ a b b_) g8 ek
       ·cases he
      ·rename_i a b aB
       rw [ax] at e5 gm
       simp only [Option.map_eq_some_iff] at he
       obtain ⟨g8, ek, rfl⟩ := he
       obtain ⟨i, t_, D_, a1, bg, bf, cn, c3, b_, bV⟩ := bt.info (fL aB (by simp))
       rw [aB] at bV
       have qJ := Al bV
       subst qJ
       exact step _ _ _ (by simp [gb.flat, aB]) e5 gm (fun m => run_equalIn_bool' w m g.type a b b_) g8 ek
      ·rename_i a b aB
       rw [ax] at e5 gm
       simp only [Option.map_eq_some_iff] at he
       obtain ⟨g8, ek, rfl⟩ := he
       obtain ⟨i, t_, D_, a1, bg, bf, cn, c3, b_, bV⟩ := bt.info (fL aB (by simp))
       rw [aB] at bV
       have qJ := oy bV
       subst qJ
       refine step _ _ (a == b) (by simp [gb.flat, aB]) e5 gm (fun m => ?_) g8 ek
       rw [run_equalIn_string w m g.type _ _ b_, tY, tY]
      ·cases he
     ·cases he
theorem Ea (bt : C.eO) {T : TypeId} {ar : List (TypeId × Nat)} (aB : (C.T T).k = .struct ar) {ds es : List j} {iK ib : Value} {b7 dA : Nat → Prop} {r : Bool} (aw : aL w F s aE (.agg ds) iK b7) (bL : aL w F s aE (.agg es) ib dA)
  (c9 : structEq C.P T = true) (he : mG C ar 0 ds es = some r) (op : BinOp) (ua ub : Operand) :
  (eqGuard op T ua ub iK ib).run C.P w = .ok () w ∧ (Op.equal T iK ib).run C.P w = .ok r w := by
 obtain ⟨i, d, z, a1, bg, bf, cn, c3, b_, bV⟩ := bt.info (fL aB (by simp))
 rw [aB] at bV
 obtain ⟨gs, rfl, hK⟩ := tR bV
 have uc : C.P.fieldsOf T = gs := by simp [Program.fieldsOf, b_]
 simp only [structEq, Bool.and_eq_true, Bool.not_eq_true', uc] at c9
 obtain ⟨⟨gm, bP⟩, fw⟩ := c9
 obtain ⟨⟨xs, rfl⟩, pg⟩ := (aL.cJ rfl).1 aw
 obtain ⟨⟨cz, rfl⟩, qA⟩ := (aL.cJ rfl).1 bL
 rw [ax] at pg qA
 constructor
 ·cases op <;> simp [eqGuard, bP]
 ·show (Op.equalIn (9999 + 1) T _ _).run C.P w = _
  rw [run_equalIn_struct w 9999 T xs cz (by rw [uc]; exact b_) gm, uc]
  exact Lj bt ar gs.toList 0 ds es r [] [] _ _ xs cz b7 dA hK fw he pg qA rfl rfl rfl rfl 9998
theorem Lr (bt : C.eO) (h : bU w0 F0 X F S s aE w) {op : BinOp} {T : TypeId} {x y : j} {iK ib : Value} (ua ub : Operand) (aw : aL w F s aE x iK (fun _ => False)) (bL : aL w F s aE y ib (fun _ => False))
  (he : aP C s op T x y = some av) : Good C w0 F0 X aE w (do eqGuard op T ua ub iK ib; binOp op T iK ib) av s := by
 unfold aP at he
 split at he
 ·have := oC aw; subst this
  have := oC bL; subst this
  obtain ⟨v, ag, ah⟩ := Lg (P := C.P) (T := T) he w
  refine Good.same h (v := v) ?_ ?_ ah
  ·rw [eqGuard_at_int]; exact ag
  ·revert he; unfold iw; cases op <;> simp only <;> split <;> simp <;> (rintro rfl; rfl)
 ·have := nW aw; subst this
  have := nW bL; subst this
  obtain ⟨v, ag, ah⟩ := Li (P := C.P) (T := T) he w
  refine Good.same h (v := v) ?_ ?_ ah
  ·rw [eqGuard_at_string]; exact ag
  ·revert he; unfold mc; cases op <;> simp only <;> (try split) <;> simp <;> (try (rintro rfl; rfl))
 ·have := qG aw; subst this
  have := qG bL; subst this
  split at he
  ·rename_i aB
   simp only [Option.some.injEq] at he; subst he
   obtain ⟨i, d, z, a1, bg, bf, cn, c3, b_, bV⟩ := bt.info (fL aB (by simp))
   rw [aB] at bV
   have := Al bV; subst this
   refine Good.same h ?_ rfl (of_bool _)
   rw [eqGuard_at_bool]
   simp [binOp, Op.equal, Op.maxDepth, D7 b_ w 9999]
  ·rename_i aB
   simp only [Option.some.injEq] at he; subst he
   obtain ⟨i, d, z, a1, bg, bf, cn, c3, b_, bV⟩ := bt.info (fL aB (by simp))
   rw [aB] at bV
   have := Al bV; subst this
   refine Good.same h ?_ rfl (of_bool _)
   rw [eqGuard_at_bool]
   simp [binOp, Op.equal, Op.maxDepth, D7 b_ w 9999]
  ·cases he
 ·split at he
  ·rename_i ar aB
   split at he
   ·rename_i c9
    simp only [Option.map_eq_some_iff] at he
    obtain ⟨r, a2, rfl⟩ := he
    obtain ⟨a8, bA⟩ := Ea bt aB aw bL c9 a2 .eql ua ub
    obtain ⟨⟨xs, rfl⟩, _⟩ := (aL.cJ rfl).1 aw
    obtain ⟨⟨cz, rfl⟩, _⟩ := (aL.cJ rfl).1 bL
    exact Good.same h (by simp [a8, binOp, bA]) rfl (of_bool _)
   ·cases he
  ·rename_i ar aB
   split at he
   ·rename_i c9
    simp only [Option.map_eq_some_iff] at he
    obtain ⟨r, a2, rfl⟩ := he
    obtain ⟨a8, bA⟩ := Ea bt aB aw bL c9 a2 .neq ua ub
    obtain ⟨⟨xs, rfl⟩, _⟩ := (aL.cJ rfl).1 aw
    obtain ⟨⟨cz, rfl⟩, _⟩ := (aL.cJ rfl).1 bL
    exact Good.same h (by simp [a8, binOp, bA]) rfl (of_bool _)
   ·cases he
  ·cases he
 ·have := oD bL; subst this
  split at he
  ·rename_i e aB
   simp only [Option.map_eq_some_iff] at he
   obtain ⟨r, a2, rfl⟩ := he
   obtain ⟨i, d, z, a1, bg, bf, cn, c3, b_, bV⟩ := bt.info (fL aB (by simp))
   rw [aB] at bV
   have := kr bV; subst this
   obtain ⟨b, ag, ah, aM, I, cD, m7, rfl⟩ := D8 h aw a2 b_
   refine Good.same h (v := .bool b) ?_ ?_ ?_
   ·rw [eqGuard_at_slice]
    simp [binOp, ag]
   ·cases r <;> rfl
   ·cases r with
    | none => exact At b
    | some fl => have := ah fl rfl; subst this; simp only [nd, Bool.bne_false]; exact of_bool _
  ·rename_i e aB
   simp only [Option.map_eq_some_iff] at he
   obtain ⟨r, a2, rfl⟩ := he
   obtain ⟨i, d, z, a1, bg, bf, cn, c3, b_, bV⟩ := bt.info (fL aB (by simp))
   rw [aB] at bV
   have := kr bV; subst this
   obtain ⟨b, ag, ah, aM, I, cD, m7, rfl⟩ := D8 h aw a2 b_
   refine Good.same h (v := .bool !b) ?_ ?_ ?_
   ·rw [eqGuard_at_slice]
    simp [binOp, ag]
   ·cases r <;> rfl
   ·cases r with
    | none => exact At _
    | some fl => have := ah fl rfl; subst this; simp only [nd, Bool.bne_true]; exact of_bool _
  ·cases he
 ·have := D2 bL; subst this
  split at he
  ·rename_i e aB
   simp only [Option.map_eq_some_iff] at he
   obtain ⟨r, a2, rfl⟩ := he
   obtain ⟨i, d, z, a1, bg, bf, cn, c3, b_, bV⟩ := bt.info (fL aB (by simp))
   rw [aB] at bV
   have := DT bV; subst this
   obtain ⟨ag, I, rfl⟩ := D9 h aw a2 b_
   refine Good.same h (v := .bool r) ?_ rfl (of_bool _)
   rw [eqGuard_at_pointer]
   simp [binOp, ag]
  ·rename_i e aB
   simp only [Option.map_eq_some_iff] at he
   obtain ⟨r, a2, rfl⟩ := he
   obtain ⟨i, d, z, a1, bg, bf, cn, c3, b_, bV⟩ := bt.info (fL aB (by simp))
   rw [aB] at bV
   have := DT bV; subst this
   obtain ⟨ag, I, rfl⟩ := D9 h aw a2 b_
   refine Good.same h (v := .bool !r) ?_ rfl (of_bool _)
   rw [eqGuard_at_pointer]
   simp [binOp, ag]
  ·cases he
 ·cases he
end
section
variable {C : b1} {w0 w : World} {F0 X F : Nat → Prop} {S : Nat → Nat → Prop} {s s1 : ao} {aE : Nat → Value} {av : j}
def un (op : UnOp) (x : j) : Option j :=
 match op, x with
 | .not, .bool b => some (.bool !b)
 | .not, .eo => some .eo
 | .neg, .int k n => some (.int k (k.wrap (0 - n)))
 | _, _ => none
theorem Ls (h : bU w0 F0 X F S s aE w) {op : UnOp} {x : j} {v : Value} (aQ : aL w F s aE x v (fun _ => False)) (he : un op x = some av) : Good C w0 F0 X aE w (Op.unary op v) av s := by
 unfold un at he
 split at he <;> first | (cases he; done) | (simp only [Option.some.injEq] at he; subst he)
 ·have := qG aQ; subst this
  exact Good.same h rfl rfl (of_bool _)
 ·obtain ⟨b, rfl⟩ := D3 aQ
  exact Good.same h rfl rfl (At _)
 ·have := oC aQ; subst this
  exact Good.same h rfl rfl (of_int _ _)
def c1 (s : ao) (x : j) : Option j :=
 match x with
 | .ref d => some (.ref d)
 | .fn f c => some (.fn f c)
 | .h y q => match j.sub q (s y) with
   | some (.aG _) => some (.h y q)
   | _ => none
 | _ => none
theorem Lt {d : j} {v : Value} {aU : Nat → Prop} (h : aL w F s aE (.ref d) v aU) : ∃ b o ea, v = .pointer (some ⟨b, o, none⟩) ∧ F b ∧ hj w b o ea ∧ ax w F d ea (fun _ => False) := by
 have bN := (aL.cJ rfl).1 h
 rw [ax, gx bN.1] at bN
 obtain ⟨_, b, o, ea, ag, ah, aM, bd⟩ := bN
 simp at ag; subst ag
 exact ⟨b, o, ea, rfl, ah, aM, bd⟩
theorem Lu (h : bU w0 F0 X F S s aE w) {x : j} {v : Value} (aQ : aL w F s aE x v (fun _ => False)) (he : c1 s x = some av) :
  av = x ∧ x.plain = true ∧ ((∃ a, v = .pointer (some a)) ∨ ∃ f c, v = .func (.func f) #[] c) := by
 unfold c1 at he
 split at he
 ·simp only [Option.some.injEq] at he; subst he
  obtain ⟨b, o, ea, rfl, _⟩ := Lt aQ
  exact ⟨rfl, rfl, .inl ⟨_, rfl⟩⟩
 ·simp only [Option.some.injEq] at he; subst he
  rw [aL] at aQ
  obtain ⟨arr, rfl, _⟩ := aQ
  exact ⟨rfl, rfl, .inr ⟨_, _, rfl⟩⟩
 ·split at he
  ·rename_i d ak
   simp only [Option.some.injEq] at he; subst he
   obtain ⟨b, cur, e, fr, rfl, _⟩ := D4 h aQ ak
   exact ⟨rfl, rfl, .inl ⟨_, rfl⟩⟩
  ·cases he
 ·cases he
def ex (s : ao) (x : j) (k : Nat) : Option j :=
 match x with
 | .tuple ds => match ds[k]? with
   | some d => if d.plain = true then some d else none
   | none => none
 | .h y q => match j.sub q (s y) with
   | some (.tuple ds) => match ds[k]? with
     | some d => if j.d_ ds = true then none else some (if d.plain then d else .h y (q ++ [k]))
     | none => none
   | _ => none
 | _ => none
theorem Eb : ∀ (vs : List Value) (k : Nat) (x : Value) (ds : List j), vs[k]? = some x → vs.length = ds.length → (∀ (aK : Nat) (d : j) (y : Value), ds[aK]? = some d → vs[aK]? = some y → (hW y).length = d.wd) →
  ∃ l r, vs.flatMap hW = l ++ (hW x ++ r) ∧ l.length = j.dI (ds.take k)
 | [], k, x, ds, h, _, _ => by simp at h
 | v :: vs, 0, x, ds, h, hl, hw => by
   simp at h; subst h
   exact ⟨[], vs.flatMap hW, by simp, by simp [j.dI]⟩
 | v :: vs, k + 1, x, d :: ds, h, hl, hw => by
   obtain ⟨l, r, a1, bg⟩ := Eb vs k x ds (by simpa using h) (by simpa using hl) (fun aK d y ag ah => hw (aK + 1) d y (by simpa using ag) (by simpa using ah))
   refine ⟨hW v ++ l, r, by simp [a1], ?_⟩
   have := hw 0 d v (by simp) (by simp)
   simp [j.dI, bg, this]
 | v :: vs, k + 1, x, [], h, hl, hw => by simp at hl
theorem Lv {d : j} {v : Value} (h : h9 d v) (_hd : ∀ vs, d ≠ .tuple vs) : cp v = hW v := by
 cases d with
 | agg ar => obtain ⟨arr, rfl⟩ := h; rfl
 | _ =>
   have ag : Value.gw v = true := h
   cases v <;> first | rfl | (simp [Value.gw] at ag)
theorem Lw {d : j} {v : Value} (h : h9 d v) (ak : ∀ vs, d ≠ .tuple vs) : dT d v := by
 cases d with
 | tuple vs => exact (ak _ rfl).elim
 | _ => exact h
theorem Lx (h : bU w0 F0 X F S s aE w) {x : j} {v : Value} {k : Nat} (aQ : aL w F s aE x v (fun _ => False)) (he : ex s x k = some av) : Good C w0 F0 X aE w (Instr.extract v k) av s := by
 have pick : ∀ (ds : List j) (d : j) (arr : Array Value), ds[k]? = some d → (arr.size = ds.length ∧ ∀ (k : Nat) (d : j) (x : Value), ds[k]? = some d → arr[k]? = some x → h9 d x ∧ (∀ vs, d ≠ .tuple vs) ∧ (hW x).length = d.wd) →
   ∃ x, arr[k]? = some x ∧ dT d x ∧ ((cp (.tuple arr)).drop (j.dI (ds.take k))).take d.wd = cp x := by
  intro ds d arr ak ⟨b2, mB⟩
  have eC : k < arr.size := by rw [b2]; exact (List.getElem?_eq_some_iff.1 ak).1
  have aw : arr[k]? = some arr[k] := Array.getElem?_eq_getElem eC
  obtain ⟨a8, bA, ct⟩ := mB k d _ ak aw
  obtain ⟨l, r, a1, bg⟩ := Eb arr.toList k arr[k] ds (by simp [eC]) (by simpa using b2) (fun aK d y ag ah => (mB aK d y ag (by simpa using ah)).2.2)
  refine ⟨_, aw, Lw a8 bA, ?_⟩
  rw [Lv a8 bA]
  simp only [cp]
  rw [a1]
  exact qv l _ r _ _ bg ct
 unfold ex at he
 split at he
 ·rename_i ds
  split at he
  ·rename_i d ak
   split at he
   ·rename_i ay
    simp only [Option.some.injEq] at he; subst he
    have bN := (aL.cJ rfl).1 aQ
    obtain ⟨⟨arr, rfl, b2⟩, hr⟩ := bN
    obtain ⟨x, aw, ab, az⟩ := pick ds d arr ak b2
    have a2 : (Instr.extract (.tuple arr) k).run C.P w = .ok x w := by simp [Instr.extract, aw]
    rw [ax] at hr
    obtain ⟨bT, fv, b4, b7, hn, e, g5, e5, fT, ho, e9, k6⟩ := ba.pick ds _ _ k d hr ak
    rw [e, qv bT fv b4 _ _ g5 (ax.length _ _ _ e9)] at az
    by_cases a3 : d.tree = true
    ·exact Good.same h a2 ay ((aL.cJ a3).2 ⟨ab, by rw [← az]; exact ax.plain _ _ _ _ ay e9⟩)
    ·cases d <;> first | exact (a3 rfl).elim | (rw [ax] at e9; exact e9.elim) | exact Good.same h a2 rfl (by rw [aL]; trivial) | (have bI := ax.plain _ _ _ (fun _ => False) ay e9; rw [az, gx (by exact ab)] at bI; exact Good.same h a2 rfl (aL.nV _ _ rfl bI))
   ·cases he
  ·cases he
 ·rename_i y q
  split at he
  ·rename_i ds ak
   split at he
   ·rename_i d aB
    split at he
    ·cases he
    ·rename_i gG
     simp only [Option.some.injEq] at he
     have gG : (j.tuple ds).plain = false := by simpa [j.plain] using gG
     rw [aL] at aQ
     obtain ⟨cU, a, a8, bA, ct⟩ := aQ _ ak gG
     obtain ⟨arr, rfl, b2⟩ := ct
     obtain ⟨x, aw, ab, az⟩ := pick ds d arr aB b2
     have a2 : (Instr.extract (.tuple arr) k).run C.P w = .ok x w := by simp [Instr.extract, aw]
     have bL := h.dJ y
     rw [aL.cJ (hX ak (.inl gG))] at bL
     obtain ⟨fD, cN, ep, gF, k0, ch, cu, eF, dG, ff⟩ := ctx q (s y) (cp (aE y)) (S y) none _ bL.2 ak
     rw [k0] at a8
     simp only [Option.some.injEq, Prod.mk.injEq, true_and] at a8
     obtain ⟨rfl, rfl⟩ := a8
     rw [bA] at az
     split at he
     ·rename_i ay
      subst he
      rw [ax] at dG
      obtain ⟨bT, fv, b4, b7, hn, e, g5, e5, fT, ho, e9, k6⟩ := ba.pick ds _ _ k d dG aB
      rw [e, qv bT fv b4 _ _ g5 (ax.length _ _ _ e9)] at az
      by_cases a3 : d.tree = true
      ·exact Good.same h a2 ay ((aL.cJ a3).2 ⟨ab, by rw [← az]; exact ax.plain _ _ _ _ ay e9⟩)
      ·cases d <;> first | exact (a3 rfl).elim | (rw [ax] at e9; exact e9.elim) | exact Good.same h a2 rfl (by rw [aL]; trivial) | (have bI := ax.plain _ _ _ (fun _ => False) ay e9; rw [az, gx (by exact ab)] at bI; exact Good.same h a2 rfl (aL.nV _ _ rfl bI))
     ·subst he
      refine Good.same h a2 rfl ?_
      rw [aL]
      intro d2 ia Ai
      rw [tQ w q _ _ _ _ _ _ [k] k0]
      rw [tP _ _ _ _ ak] at ia
      simp only [j.sub, aB, Option.some.injEq] at ia
      subst ia
      simp only [c8, aB]
      exact ⟨_, _, rfl, az.symm, ab⟩
   ·cases he
  ·cases he
 ·cases he
def gH (C : b1) (s : ao) (T : TypeId) (x : j) (k : Nat) : Option j :=
 match (C.T T).k with
 | .struct ar => match ar[k]? with
   | some (iH, off) => match x with
     | .agg ds => match ds[k]? with
       | some d => if j.dI (ds.take k) = off ∧ fits C iH d = true ∧ d.plain = true ∧ d.tree = true then some d else none
       | none => none
     | .h y q => match j.sub q (s y) with
       | some (.agg ds) => match ds[k]? with
         | some d => if j.dI (ds.take k) = off ∧ fits C iH d = true ∧ j.d_ ds = false ∧ d.tree = true then some (if d.plain then d else .h y (q ++ [k])) else none
         | none => none
       | _ => none
     | _ => none
   | none => none
 | _ => none
theorem Ly (bt : C.eO) (h : bU w0 F0 X F S s aE w) {T : TypeId} {x : j} {v : Value} {k : Nat} (aQ : aL w F s aE x v (fun _ => False)) (he : gH C s T x k = some av) : Good C w0 F0 X aE w (Instr.field T v k) av s := by
 have key : ∀ (ar : List (TypeId × Nat)) (iH : TypeId) (off : Nat), (C.T T).k = .struct ar → ar[k]? = some (iH, off) → ∀ (ds : List j) (d : j) (arr : Array Value) (aU : Nat → Prop), ds[k]? = some d → j.dI (ds.take k) = off → fits C iH d = true → ba w F ds arr.toList aU →
   ∃ x hn, (Instr.field T (.agg arr) k).run C.P w = .ok x w ∧ dT d x ∧ ax w F d (cp x) hn ∧ (arr.toList.drop off).take d.wd = cp x := by
  intro ar iH off aB bY ds d arr aU ak nT hx hr
  obtain ⟨i, t_, z, a1, bg, bf, cn, c3, b_, bV⟩ := bt.info (fL aB (by simp))
  rw [aB] at bV
  obtain ⟨gs, rfl, hK⟩ := tR bV
  obtain ⟨g, a8, rfl, rfl⟩ : ∃ g, gs[k]? = some g ∧ g.type = iH ∧ g.offset = off := by
   rw [← hK, List.getElem?_map] at bY
   simp only [Option.map_eq_some_iff, Prod.mk.injEq] at bY
   obtain ⟨g, ag, ah, aM⟩ := bY
   exact ⟨g, by simpa using ag, ah, aM⟩
  obtain ⟨bT, fv, b4, b7, hn, e, g5, e5, fT, ho, e9, k6⟩ := ba.pick ds _ _ k d hr ak
  obtain ⟨x, a2, Ec, mE⟩ := K7 (w := w) bt e (g5.trans nT) e9 hx
  refine ⟨x, hn, ?_, mE, by rw [Ec]; exact e9, ?_⟩
  ·simp [Instr.field, run_underlying b_, a8, asAgg, a2]
  ·rw [e, Ec, ← nT]; exact qv bT fv b4 _ _ g5 (ax.length _ _ _ e9)
 have Ed : ∀ (d : j) (x : Value) (hn : Nat → Prop), d.plain = true → dT d x → ax w F d (cp x) hn → aL w F s aE d x (fun _ => False) := by
  intro d x hn ay ab hr
  by_cases a3 : d.tree = true
  ·exact (aL.cJ a3).2 ⟨ab, ax.plain _ _ _ _ ay hr⟩
  ·cases d <;> first | exact (a3 rfl).elim | (rw [ax] at hr; exact hr.elim) | (rw [aL]; trivial) | (have bI := ax.plain _ _ _ (fun _ => False) ay hr; rw [gx (by exact ab)] at bI; exact aL.nV _ _ rfl bI)
 unfold gH at he
 split at he
 ·rename_i ar aB
  split at he
  ·rename_i iH off bY
   split at he
   ·rename_i ds
    split at he
    ·rename_i d ak
     split at he
     ·rename_i az
      simp only [Option.some.injEq] at he; subst he
      obtain ⟨⟨arr, rfl⟩, hr⟩ := (aL.cJ rfl).1 aQ
      rw [ax] at hr
      obtain ⟨x, hn, a2, ab, Aw, _⟩ := key ar iH off aB bY ds d arr _ ak az.1 az.2.1 hr
      exact Good.same h a2 az.2.2.1 (Ed d x hn az.2.2.1 ab Aw)
     ·cases he
    ·cases he
   ·rename_i y q
    split at he
    ·rename_i ds ak
     split at he
     ·rename_i d oz
      split at he
      ·rename_i az
       simp only [Option.some.injEq] at he
       have gG : (j.agg ds).plain = false := by simpa [j.plain] using az.2.2.1
       rw [aL] at aQ
       obtain ⟨cU, a, a8, bA, ct⟩ := aQ _ ak gG
       obtain ⟨arr, rfl⟩ := ct
       have bL := h.dJ y
       rw [aL.cJ (hX ak (.inl gG))] at bL
       obtain ⟨fD, cN, ep, gF, k0, ch, cu, eF, dG, ff⟩ := ctx q (s y) (cp (aE y)) (S y) none _ bL.2 ak
       rw [k0] at a8
       simp only [Option.some.injEq, Prod.mk.injEq, true_and] at a8
       obtain ⟨rfl, rfl⟩ := a8
       rw [ax, ← bA] at dG
       obtain ⟨x, hn, a2, ab, Aw, iJ⟩ := key ar iH off aB bY ds d arr _ oz az.1 az.2.1 dG
       by_cases ay : d.plain = true
       ·rw [if_pos ay] at he; subst he
        exact Good.same h a2 ay (Ed d x hn ay ab Aw)
       ·rw [if_neg ay] at he; subst he
        refine Good.same h a2 rfl ?_
        rw [aL]
        intro d2 ia Ai
        rw [tQ w q _ _ _ _ _ _ [k] k0]
        rw [tP _ _ _ _ ak] at ia
        simp only [j.sub, oz, Option.some.injEq] at ia
        subst ia
        simp only [c8, oz]
        refine ⟨_, _, rfl, ?_, ab⟩
        rw [az.1, ← bA]; exact iJ.symm
      ·cases he
     ·cases he
    ·cases he
   ·cases he
  ·cases he
 ·cases he
end
section
variable {C : b1} {w0 w : World} {F0 X F : Nat → Prop} {S : Nat → Nat → Prop} {s s1 : ao} {aE : Nat → Value} {av : j}
def idx (C : b1) (T : TypeId) (x i : j) : Option j :=
 match (C.T T).k, x, i with
 | .str, .str l, .int _ n => if 0 ≤ n then (match l[n.toNat]? with | some b => some (.int .u8 b.toNat) | none => none) else none
 | _, _, _ => none
theorem Lz (l : List UInt8) (n : Nat) : (⟨⟨l⟩⟩ : ByteArray)[n]? = l[n]? := by
 by_cases h : n < l.length
 ·have bN : n < (⟨⟨l⟩⟩ : ByteArray).size := h
  rw [List.getElem?_eq_getElem h, getElem?_pos (⟨⟨l⟩⟩ : ByteArray) n bN]
  rfl
 ·have bN : ¬ n < (⟨⟨l⟩⟩ : ByteArray).size := h
  rw [List.getElem?_eq_none (by omega), getElem?_neg (⟨⟨l⟩⟩ : ByteArray) n bN]
theorem LA (bt : C.eO) (h : bU w0 F0 X F S s aE w) {T : TypeId} {x i : j} {v sc : Value} (aQ : aL w F s aE x v (fun _ => False)) (au : aL w F s aE i sc (fun _ => False)) (he : idx C T x i = some av) :
  Good C w0 F0 X aE w (Instr.index T v sc) av s := by
 unfold idx at he
 split at he
 ·rename_i l k n aB
  have := nW aQ; subst this
  have := oC au; subst this
  obtain ⟨i, d, z, a1, bg, bf, cn, c3, b_, bV⟩ := bt.info (fL aB (by simp))
  rw [aB] at bV
  have := oy bV; subst this
  split at he
  ·rename_i bh
   split at he
   ·rename_i b U
    simp only [Option.some.injEq] at he; subst he
    refine Good.same h ?_ rfl (of_int _ _)
    simp [Instr.index, asIntOf, run_underlying b_, bh, Lz, U]
   ·cases he
  ·cases he
 ·cases he
def lenOf (s : ao) : j → Option Nat
 | .str l => some l.length
 | .af => some 0
 | .slice xs => some xs.length
 | .h y q => match j.sub q (s y) with
   | some (.ai _ xs) => some xs.length
   | _ => none
 | _ => none
def ld (C : b1) (s : ao) (T : TypeId) (x : j) : Option j :=
 match (C.T T).k, x with
 | .str, .str l => some (.int .i64 l.length)
 | .slice _, .af => some (.int .i64 0)
 | .slice _, .slice xs => some (.int .i64 xs.length)
 | .slice _, .h y q => match j.sub q (s y) with
   | some (.ai _ xs) => some (.int .i64 xs.length)
   | _ => none
 | _, _ => none
theorem w6 {xs : List j} {v : Value} {aU : Nat → Prop} (h : aL w F s aE (.slice xs) v aU) : (xs = [] ∧ ∃ a c, v = .slice a 0 c ∧ c ≤ maxLen ∧ (a = none → c = 0)) ∨
  ∃ b o cap ea sz, v = .slice (some ⟨b, o, none⟩) xs.length cap ∧ F b ∧ xs.length ≤ cap ∧ cap ≤ maxLen ∧ (∀ d ∈ xs, d.wd = sz) ∧ hj w b o ea ∧ ba w F xs ea (fun _ => False) := by
 have bN := (aL.cJ rfl).1 h
 rw [ax, gx bN.1] at bN
 obtain ⟨_, ⟨rfl, a, c, ah, aM⟩ | ⟨b, o, cap, ea, sz, ah, aM⟩⟩ := bN
 ·simp at ah; exact .inl ⟨rfl, a, c, ah, aM⟩
 ·simp at ah; exact .inr ⟨b, o, cap, ea, sz, ah, aM⟩
theorem LB (bt : C.eO) (h : bU w0 F0 X F S s aE w) {T ty : TypeId} {x : j} {v : Value} (aQ : aL w F s aE x v (fun _ => False)) (he : ld C s T x = some av) :
  Good C w0 F0 X aE w (Builtin.len_ #[T] ty #[v]) av s := by
 unfold ld at he
 split at he
 ·rename_i l aB
  have := nW aQ; subst this
  obtain ⟨i, d, z, a1, bg, bf, cn, c3, b_, bV⟩ := bt.info (fL aB (by simp))
  rw [aB] at bV
  have := oy bV; subst this
  simp only [Option.some.injEq] at he; subst he
  refine Good.same h ?_ rfl (of_int _ _)
  simp [Builtin.len_, run_underlying b_, goInt]
  rfl
 ·rename_i e aB
  have := oD aQ; subst this
  obtain ⟨i, d, z, a1, bg, bf, cn, c3, b_, bV⟩ := bt.info (fL aB (by simp))
  rw [aB] at bV
  have := kr bV; subst this
  simp only [Option.some.injEq] at he; subst he
  refine Good.same h ?_ rfl (of_int _ _)
  simp [Builtin.len_, run_underlying b_, goInt]
 ·rename_i e xs aB
  obtain ⟨i, d, z, a1, bg, bf, cn, c3, b_, bV⟩ := bt.info (fL aB (by simp))
  rw [aB] at bV
  have := kr bV; subst this
  simp only [Option.some.injEq] at he; subst he
  refine Good.same h ?_ rfl (of_int _ _)
  rcases w6 aQ with ⟨rfl, a, c, rfl, _⟩ | ⟨b, o, cap, ea, sz, rfl, _⟩ <;> simp [Builtin.len_, run_underlying b_, goInt]
 ·rename_i e y q aB
  split at he
  ·rename_i sz xs ak
   obtain ⟨i, d, z, a1, bg, bf, cn, c3, b_, bV⟩ := bt.info (fL aB (by simp))
   rw [aB] at bV
   have := kr bV; subst this
   simp only [Option.some.injEq] at he; subst he
   refine Good.same h ?_ rfl (of_int _ _)
   rcases Au h aQ ak with ⟨rfl, _, rfl⟩ | ⟨b, cap, cur, bg, fr, rfl, _⟩ <;> simp [Builtin.len_, run_underlying b_, goInt]
  ·cases he
 ·cases he
def bytesOf : List j → Option (List UInt8)
 | [] => some []
 | .int .u8 n :: r => if 0 ≤ n ∧ n < 256 then (bytesOf r).map (UInt8.ofNat n.toNat :: ·) else none
 | _ => none
def jS (b : UInt8) : j := .int .u8 b.toNat
theorem LC (l : List UInt8) : bytesOf (l.map jS) = some l := by
 induction l with
 | nil => rfl
 | cons b l ih =>
   have U : b.toNat < 256 := b.toNat_lt
   simp only [List.map_cons, jS, bytesOf, Int.toNat_natCast]
   rw [if_pos (by omega), ih]
   simp
theorem Ax : ∀ (xs : List j) (l : List UInt8) (cs : List Value) (aU : Nat → Prop), bytesOf xs = some l → ba w F xs cs aU → cs = l.map (fun b => .int .u8 (b.toNat : Int)) ∧ xs.length = l.length
 | [], l, cs, aU, h, a2 => by simp [bytesOf] at h; subst h; rw [ba] at a2; subst a2; exact ⟨rfl, rfl⟩
 | x :: xs, l, cs, aU, h, a2 => by
   unfold bytesOf at h
   split at h
   ·rename_i e; cases e
   ·rename_i n r e
    simp only [List.cons.injEq] at e
    obtain ⟨rfl, rfl⟩ := e
    split at h
    ·rename_i bh
     simp only [Option.map_eq_some_iff] at h
     obtain ⟨dr, ag, rfl⟩ := h
     rw [ba] at a2
     obtain ⟨bT, b4, b7, dA, rfl, ah, aM, _⟩ := a2
     obtain ⟨rfl, bd⟩ := Ax xs dr b4 dA ag aM
     rw [ax] at ah; subst ah
     refine ⟨?_, by simp [bd]⟩
     simp only [List.map_cons, List.cons_append, List.nil_append, List.cons.injEq, and_true, Value.int.injEq, true_and]
     simp only [UInt8.toNat_ofNat']
     omega
    ·cases h
   ·cases h
theorem bU.ud (h : bU w0 F0 X F S s aE w) {aS : World} {sz cap : Nat} {xs : List j} {cur : Array Value} {e : TypeId} {fr : Nat × Nat} {Sn : Nat → Prop}
  (hw : aS.heap = w.heap.push (.cells cur e fr)) (ag : aS.os = w.os) (ah : aS.tape = w.tape) (aM : aS.output = w.output)
  (bY : pc fr cur.size) (hle : xs.length ≤ cap) (hm : cap ≤ maxLen) (ef : cur.size = cap * sz) (lH : ∀ d ∈ xs, d.wd = sz) (aQ : ba w F xs (cur.toList.take (xs.length * sz)) Sn)
  (eC : ∀ b, Sn b → b < w.heap.size) (bE : ∀ b, Sn b → ¬ F b) (b9 : ∀ u b, Sn b → ¬ S u b) (bM : ∀ b, Sn b → X b ∨ w0.heap.size ≤ b) :
  bU w0 F0 X F S s aE aS ∧ kq w0 X F S s aE aS (.ai sz xs) (.slice (some ⟨w.heap.size, 0, none⟩) xs.length cap) := by
 have hold : ∀ b, b < w.heap.size → aS.heap[b]? = w.heap[b]? := by
  intro b U
  rw [hw, Array.getElem?_push, if_neg (by omega)]
 have ai7 : aS.heap.size = w.heap.size + 1 := by rw [hw]; simp
 refine ⟨h.grow hold (by omega) ag ah aM, .inr ⟨rfl, rfl, fun b => b = w.heap.size ∨ Sn b, ?_, ?_, ?_, ?_, ?_⟩⟩
 ·simp only [cp, hW]
  rw [ax]
  refine .inr ⟨w.heap.size, cap, cur, e, fr, Sn, rfl, .inl rfl, ?_, bY, hle, hm, ef, lH, ?_, fun c az => .inr az, fun az => Nat.lt_irrefl _ (eC _ az)⟩
  ·rw [hw]; simp
  ·exact ba.frame (fun b U => hold b (h.fU b U)) _ _ _ (fun b U => hold b (eC b U)) aQ
 ·rintro b (rfl | U)
  ·omega
  ·have := eC b U; omega
 ·rintro b (rfl | U) tX
  ·exact Nat.lt_irrefl _ (h.fU _ tX)
  ·exact bE b U tX
 ·rintro u b (rfl | U) hu
  ·exact Nat.lt_irrefl _ (h.eX _ _ hu)
  ·exact b9 u b U hu
 ·rintro b (rfl | U)
  ·exact .inr h.size
  ·exact bM b U
def fo (C : b1) (s : ao) (A B : TypeId) (x : j) : Option j :=
 if (C.T A).ok = true then
 match (C.T B).k, x with
 | .int k, .int _ n => some (.int k (k.wrap n))
 | .str, .str l => match (C.T A).k with
   | .str => some (.str l)
   | _ => none
 | .str, x => match (C.T A).k with
   | .slice e => match (C.T e).k with
     | .int .u8 => match x with
       | .af => some (.str [])
       | .slice xs => (bytesOf xs).map .str
       | .h y q => match j.sub q (s y) with
         | some (.ai 1 xs) => (bytesOf xs).map .str
         | _ => none
       | _ => none
     | _ => none
   | _ => none
 | .slice e, .str l => match (C.T A).k, (C.T e).k with
   | .str, .int .u8 => if l.length ≤ 9223372036854775807 then some (.ai 1 (l.map jS)) else none
   | _, _ => none
 | _, _ => none
 else none
theorem Ee (l : List UInt8) (aU : Nat → Prop) : ba w F (l.map jS) (l.map fun b => .int .u8 (b.toNat : Int)) aU := by
 induction l generalizing aU with
 | nil => simp only [List.map_nil]; rw [ba]
 | cons b l ih =>
   simp only [List.map_cons]
   rw [ba]
   exact ⟨[.int .u8 (b.toNat : Int)], _, fun _ => False, fun _ => False, rfl, by rw [jS, ax], ih _, fun _ h => h.elim, fun _ h => h.elim, fun _ h => h.elim⟩
theorem LD (bt : C.eO) (h : bU w0 F0 X F S s aE w) {A B : TypeId} {x : j} {v : Value} (aQ : aL w F s aE x v (fun _ => False)) (he : fo C s A B x = some av) :
  Good C w0 F0 X aE w (convert A B v) av s := by
 unfold fo at he
 split at he
 ·rename_i ix
  obtain ⟨cf, ai8, ai9, aa, a9, gz, qK, ue, nX, nY⟩ := bt.info ix
  split at he
  ·rename_i k dU n aB
   have := oC aQ; subst this
   obtain ⟨i, d, z, a1, bg, bf, cn, c3, b_, bV⟩ := bt.info (fL aB (by simp))
   rw [aB] at bV
   have := tS bV; subst this
   simp only [Option.some.injEq] at he; subst he
   refine Good.same h ?_ rfl (of_int _ _)
   simp [convert, run_underlying nX, run_underlying b_, Conv.intToInt]
  ·rename_i l aB
   have := nW aQ; subst this
   obtain ⟨i, d, z, a1, bg, bf, cn, c3, b_, bV⟩ := bt.info (fL aB (by simp))
   rw [aB] at bV
   have := oy bV; subst this
   split at he
   ·rename_i uf
    rw [uf] at nY
    have := oy nY; subst this
    simp only [Option.some.injEq] at he; subst he
    refine Good.same h ?_ rfl (nc _)
    simp [convert, run_underlying nX, run_underlying b_]
   ·cases he
  ·rename_i x aB _
   obtain ⟨i, d, z, a1, bg, bf, cn, c3, b_, bV⟩ := bt.info (fL aB (by simp))
   rw [aB] at bV
   have := oy bV; subst this
   split at he
   ·rename_i e uf
    rw [uf] at nY
    have := kr nY; subst this
    split at he
    ·rename_i ug
     obtain ⟨sa, bw, pe, f1, f2, f3, f4, f5, f6, f7⟩ := bt.info (fL ug (by simp))
     rw [ug] at f7
     have := tS f7; subst this
     have fin : ∀ (l : List UInt8) (b o cap : Nat), hj w b o (l.map fun b => .int .u8 (b.toNat : Int)) → (convert A B (.slice (some ⟨b, o, none⟩) l.length cap)).run C.P w = .ok (.string ⟨⟨l⟩⟩) w := by
      intro l b o cap jm
      refine run_convert_bytes_back w A B e ⟨b, o, none⟩ cap l nX f6 b_ (fun aK cS => ?_)
      rw [Addr.add_lit]
      exact jm aK _ (by simp [cS])
     have nil : (convert A B (.slice none 0 0)).run C.P w = .ok (.string ⟨⟨[]⟩⟩) w := by
      simp [convert, run_underlying nX, run_underlying b_, run_underlying f6, Conv.bytesToString]
      rfl
     split at he
     ·have := oD aQ; subst this
      simp only [Option.some.injEq] at he; subst he
      exact Good.same h nil rfl (nc _)
     ·rename_i xs _
      simp only [Option.map_eq_some_iff] at he
      obtain ⟨l, hl, rfl⟩ := he
      rcases w6 aQ with ⟨rfl, a, c, rfl, _, qI⟩ | ⟨b, o, cap, ea, sz, rfl, ag, ah, aM, bd, bI, cx⟩
      ·simp [bytesOf] at hl; subst hl
       cases a with
       | none =>
         have := qI rfl; subst this
         exact Good.same h nil rfl (nc _)
       | some a =>
         refine Good.same h ?_ rfl (nc _)
         exact run_convert_bytes_back w A B e a c [] nX f6 b_ (fun aK cS => by simp at cS)
      ·obtain ⟨rfl, cy⟩ := Ax xs l ea _ hl cx
       rw [cy]
       exact Good.same h (fin l b o cap bI) rfl (nc _)
     ·rename_i y q
      split at he
      ·rename_i xs ak
       simp only [Option.map_eq_some_iff] at he
       obtain ⟨l, hl, rfl⟩ := he
       rcases Au h aQ ak with ⟨rfl, a, rfl⟩ | ⟨b, cap, cur, bg, fr, rfl, ag, ah, aM, bd, bI, cx, aU, cy, _⟩
       ·simp [bytesOf] at hl; subst hl
        cases a with
        | none => exact Good.same h nil rfl (nc _)
        | some a =>
          refine Good.same h ?_ rfl (nc _)
          exact run_convert_bytes_back w A B e a 0 [] nX f6 b_ (fun aK cS => by simp at cS)
       ·obtain ⟨eB, iq⟩ := Ax xs l _ _ hl cy
        rw [iq]
        refine Good.same h (fin l b 0 cap ?_) rfl (nc _)
        rw [← eB]
        exact r6 ag _
      ·cases he
     ·cases he
    ·cases he
   ·cases he
  ·rename_i e l aB
   have := nW aQ; subst this
   obtain ⟨i, d, z, a1, bg, bf, cn, c3, b_, bV⟩ := bt.info (fL aB (by simp))
   rw [aB] at bV
   have := kr bV; subst this
   split at he
   ·rename_i uf ug
    rw [uf] at nY
    have := oy nY; subst this
    obtain ⟨sa, bw, pe, f1, f2, f3, f4, f5, f6, f7⟩ := bt.info (fL ug (by simp))
    rw [ug] at f7
    have := tS f7; subst this
    split at he
    ·rename_i hl
     simp only [Option.some.injEq] at he; subst he
     have ab : (⟨⟨l⟩⟩ : ByteArray).size = l.length := rfl
     have sd := grownCap_ge w l.length 0 e
     have LF := grownCap_le_maxLen w l.length 0 e (by unfold maxLen; omega)
     have Ef : (bytesRow ⟨⟨l⟩⟩ (grownCap w l.length 0 e)).toList = l.map (fun b => Value.int .u8 (b.toNat : Int)) ++ List.replicate (grownCap w l.length 0 e - l.length) (.int .u8 0) := by
      simp [bytesRow, ab]
     have ef : (bytesRow ⟨⟨l⟩⟩ (grownCap w l.length 0 e)).size = grownCap w l.length 0 e * 1 := by
      have : (bytesRow ⟨⟨l⟩⟩ (grownCap w l.length 0 e)).size = (bytesRow ⟨⟨l⟩⟩ (grownCap w l.length 0 e)).toList.length := by simp
      rw [this, Ef]; simp; omega
     have qE := run_bytes_of_string w A B e ⟨⟨l⟩⟩ nX b_ f6
     rw [ab] at qE
     have j6 := h.ud (aS := w.drew.alloc (.cells (bytesRow ⟨⟨l⟩⟩ (grownCap w l.length 0 e)) e ((bytesRow ⟨⟨l⟩⟩ (grownCap w l.length 0 e)).size, (bytesRow ⟨⟨l⟩⟩ (grownCap w l.length 0 e)).size + 1)))
      (sz := 1) (cap := grownCap w l.length 0 e) (xs := l.map jS) (cur := bytesRow ⟨⟨l⟩⟩ (grownCap w l.length 0 e)) (e := e) (Sn := fun _ => False) rfl rfl rfl rfl
      (fun o cr ⟨ag, _⟩ => by simp only at ag; omega) (by simpa using sd) LF ef (by intro d ak; obtain ⟨b, _, rfl⟩ := List.mem_map.1 ak; rfl)
      (by rw [Ef, List.take_left' (by simp)]; exact Ee l _) (fun _ h => h.elim) (fun _ h => h.elim) (fun _ _ h => h.elim) (fun _ h => h.elim)
     simp only [List.length_map] at j6
     exact ⟨_, _, F, S, qE, j6.1, j6.2⟩
    ·cases he
   ·cases he
  ·cases he
 ·cases he
end
section
variable {C : b1} {w0 w : World} {F0 X F : Nat → Prop} {S : Nat → Nat → Prop} {s s1 : ao} {aE : Nat → Value} {av : j}
def iY (d : Nat) : Option j → Option Nat
 | none => some d
 | some (.int _ n) => if 0 ≤ n then some n.toNat else none
 | some _ => none
def eb (C : b1) (s : ao) (T : TypeId) (x : j) (cW au : Option j) : Option (j × ao) :=
 match (C.T T).k, x with
 | .str, .str l => match iY 0 cW, iY l.length au with
   | some a, some b => if a ≤ b ∧ b ≤ l.length then some (.str ((l.take b).drop a), s) else none
   | _, _ => none
 | .slice e, .af => match iY 0 cW, iY 0 au with
   | some 0, some 0 => if (C.T e).ok = true then some (.af, s) else none
   | _, _ => none
 | .slice e, .slice xs => match iY 0 cW, iY xs.length au with
   | some a, some b => if a ≤ b ∧ b ≤ xs.length ∧ (C.T e).ok = true ∧ (∀ d ∈ xs, d.wd = (C.T e).sz) then some (.slice ((xs.take b).drop a), s) else none
   | _, _ => none
 | .slice e, .h y q => match j.sub q (s y) with
   | some (.ai sz xs) => match iY 0 cW, iY xs.length au with
     | some 0, some b => if b ≤ xs.length ∧ (C.T e).ok = true then (match cG s (.h y q) with | some (_, s1) => some (.ai sz (xs.take b), s1) | none => none) else none
     | _, _ => none
   | _ => none
 | _, _ => none
def oE (w : World) (F : Nat → Prop) (s : ao) (aE : Nat → Value) : Option j → Option Value → Prop
 | none, none => True
 | some d, some v => aL w F s aE d v (fun _ => False)
 | _, _ => False
theorem Eg {d : Nat} {o : Option j} {v : Option Value} (cr : oE w F s aE o v) {a : Nat} (h : iY d o = some a) : (o = none ∧ v = none ∧ a = d) ∨ ∃ k, v = some (.int k a) := by
 cases o with
 | none =>
   cases v with
   | none => simp [iY] at h; exact .inl ⟨rfl, rfl, h.symm⟩
   | some v => simp [oE] at cr
 | some x =>
   cases v with
   | none => simp [oE] at cr
   | some v =>
     simp only [oE] at cr
     cases x with
     | int k n =>
       have := oC cr; subst this
       simp only [iY] at h
       split at h
       ·rename_i bh
        simp only [Option.some.injEq] at h; subst h
        obtain ⟨m, rfl⟩ := Int.eq_ofNat_of_zero_le bh
        exact .inr ⟨k, rfl⟩
       ·cases h
     | _ => simp [iY] at h
theorem se {P : Program} {isS : Bool} {len cap a b : Nat} {cW au : Option j} {qL qM : Option Value} (mH : oE w F s aE cW qL) (mI : oE w F s aE au qM) (bX : iY 0 cW = some a) (U : iY len au = some b) (h8 : a ≤ b) (LG : b ≤ cap) (_hlc : len ≤ cap) :
  (Instr.sliceBounds isS len cap qL qM none).run P w = .ok (a, b, cap) w := by
 rcases Eg mH bX with ⟨_, rfl, rfl⟩ | ⟨k, rfl⟩ <;> rcases Eg mI U with ⟨_, rfl, rfl⟩ | ⟨dU, rfl⟩ <;>
  simp [Instr.sliceBounds, Instr.sliceBound, asIntOf, h8, LG]
theorem sf (bt : C.eO) {T : TypeId} (aB : (C.T T).flat = true) (v : Value) (cW au im : Option Value) (w : World) : (Instr.sliceAt T v cW au im).run C.P w = (Instr.slice T v cW au im).run C.P w := by
 obtain ⟨i, d, z, a1, bg, bf, cn, c3, b_, bV⟩ := bt.info (DW aB)
 have er : ∀ n e, d ≠ .array n e := by
  clear b_
  unfold gb.flat at aB
  generalize (C.T T).k = jR at *
  cases jR <;> cases d <;> simp [kK] at bV aB ⊢
 cases d <;> first | exact (er _ _ rfl).elim | simp [Instr.sliceAt, run_underlying b_]
theorem sg {x : gb} {k : k9} (h : x.k = k) (aB : k ≠ .other) (ab : ∀ ar, k ≠ .struct ar) : x.flat = true := by
 unfold gb.flat; rw [h]; cases k <;> first | rfl | exact (aB rfl).elim | exact (ab _ rfl).elim
theorem ba.split : ∀ (n : Nat) (xs : List j) (cs : List Value) (aU : Nat → Prop), ba w F xs cs aU → ∃ bT b4 b7 dA, cs = bT ++ b4 ∧ ba w F (xs.take n) bT b7 ∧ ba w F (xs.drop n) b4 dA ∧ (∀ b, b7 b → aU b) ∧ (∀ b, dA b → aU b) ∧ (∀ b, b7 b → ¬ dA b)
 | 0, xs, cs, aU, h => ⟨[], cs, fun _ => False, aU, rfl, by rw [List.take_zero, ba], h, fun _ h => h.elim, fun _ h => h, fun _ h => h.elim⟩
 | n + 1, [], cs, aU, h => by rw [ba] at h; subst h; exact ⟨[], [], fun _ => False, fun _ => False, rfl, by rw [List.take_nil, ba], by rw [List.drop_nil, ba], fun _ h => h.elim, fun _ h => h.elim, fun _ h => h.elim⟩
 | n + 1, x :: xs, cs, aU, h => by
   rw [ba] at h
   obtain ⟨bT, b4, g4, gl, rfl, ag, ah, aM, bd, bI⟩ := h
   obtain ⟨d1, d2, b7, dA, rfl, a8, bA, ct, dZ, e6⟩ := ba.split n xs b4 gl ah
   refine ⟨bT ++ d1, d2, fun b => g4 b ∨ b7 b, dA, by simp, ?_, bA, ?_, fun b U => bd _ (dZ _ U), ?_⟩
   ·rw [List.take_succ_cons, ba]
    exact ⟨bT, d1, g4, b7, rfl, ag, a8, fun _ h => .inl h, fun _ h => .inr h, fun b U az => bI b U (ct b az)⟩
   ·rintro b (U | U)
    ·exact aM b U
    ·exact bd b (ct b U)
   ·rintro b (U | U) az
    ·exact bI b U (dZ b az)
    ·exact e6 b U az
theorem LH (bt : C.eO) (h : bU w0 F0 X F S s aE w) {T : TypeId} {x : j} {v : Value} {cW au : Option j} {qL qM : Option Value} (aw : x.plain = true) (aQ : aL w F s aE x v (fun _ => False)) (mH : oE w F s aE cW qL) (mI : oE w F s aE au qM)
  (he : eb C s T x cW au = some (av, s1)) : Good C w0 F0 X aE w (Instr.sliceAt T v qL qM none) av s1 := by
 unfold eb at he
 split at he
 ·rename_i l aB
  have := nW aQ; subst this
  obtain ⟨i, d, z, a1, bg, bf, cn, c3, b_, bV⟩ := bt.info (fL aB (by simp))
  rw [aB] at bV
  have := oy bV; subst this
  split at he
  ·rename_i a b bX U
   split at he
   ·rename_i h8
    simp only [Option.some.injEq, Prod.mk.injEq] at he
    obtain ⟨rfl, rfl⟩ := he
    refine Good.same h ?_ rfl (nc _)
    rw [sf bt (sg aB (by simp) (by simp))]
    have ef : (⟨⟨l⟩⟩ : ByteArray).size = l.length := rfl
    have mJ := se (P := C.P) (isS := false) (len := l.length) (cap := l.length) mH mI bX U h8.1 h8.2 (Nat.le_refl _)
    have LI : (⟨⟨l⟩⟩ : ByteArray).extract a b = ⟨⟨(l.take b).drop a⟩⟩ := by
     apply ByteArray.ext
     simp [ByteArray.data_extract, List.drop_take]
    simp [Instr.slice, run_underlying b_, ef, mJ, LI]
   ·cases he
  ·cases he
 ·rename_i e aB
  have := oD aQ; subst this
  obtain ⟨i, d, z, a1, bg, bf, cn, c3, b_, bV⟩ := bt.info (fL aB (by simp))
  rw [aB] at bV
  have := kr bV; subst this
  split at he
  ·rename_i bX U
   split at he
   ·rename_i nf
    obtain ⟨sa, bw, pe, f1, f2, f3, f4, f5, f6, f7⟩ := bt.info nf
    simp only [Option.some.injEq, Prod.mk.injEq] at he
    obtain ⟨rfl, rfl⟩ := he
    have mJ := se (P := C.P) (isS := true) (len := 0) (cap := 0) mH mI bX U (Nat.le_refl _) (Nat.le_refl _) (Nat.le_refl _)
    refine Good.same h (v := .slice none 0 0) ?_ rfl aQ
    rw [sf bt (sg aB (by simp) (by simp))]
    simp [Instr.slice, run_underlying b_, mJ, jG f1, f2]
   ·cases he
  ·cases he
 ·rename_i e xs aB
  obtain ⟨i, d, z, a1, bg, bf, cn, c3, b_, bV⟩ := bt.info (fL aB (by simp))
  rw [aB] at bV
  have := kr bV; subst this
  split at he
  ·rename_i a b bX U
   split at he
   ·rename_i h8
    obtain ⟨LJ, Eh, nf, lH⟩ := h8
    obtain ⟨sa, bw, pe, f1, f2, f3, f4, f5, f6, f7⟩ := bt.info nf
    simp only [Option.some.injEq, Prod.mk.injEq] at he
    obtain ⟨rfl, rfl⟩ := he
    rcases w6 aQ with ⟨rfl, si, c, rfl, uh, qI⟩ | ⟨j7, o, cap, ea, sz, rfl, ag, ah, aM, bd, bI, cx⟩
    ·have g1 : b = 0 := by simpa using Eh
     subst g1
     have Ay : a = 0 := by omega
     subst Ay
     have mJ := se (P := C.P) (isS := true) (len := 0) (cap := c) mH mI bX U (Nat.le_refl _) (Nat.zero_le _) (Nat.zero_le _)
     refine Good.same h (v := .slice si 0 c) ?_ rfl ((aL.cJ rfl).2 ⟨rfl, by rw [ax]; exact .inl ⟨rfl, si, c, rfl, uh, qI⟩⟩)
     rw [sf bt (sg aB (by simp) (by simp))]
     cases si with
     | none =>
       have := qI rfl; subst this
       simp [Instr.slice, run_underlying b_, mJ, jG f1, f2]
     | some si => simp [Instr.slice, run_underlying b_, mJ, jG f1, f2, Addr.add]
    ·have mJ := se (P := C.P) (isS := true) (len := xs.length) (cap := cap) mH mI bX U LJ (Nat.le_trans Eh ah) ah
     obtain ⟨bT, b4, b7, dA, rfl, a8, bA, ct, dZ, e6⟩ := ba.split b xs ea _ cx
     obtain ⟨d1, d2, ai_, Ei, rfl, ch, cu, eF, dG, ff⟩ := ba.split a (xs.take b) bT _ a8
     have Az : d1.length = a * (C.T e).sz := by
      rw [ba.length _ _ _ ch, qx _ (fun d ak => lH d (List.mem_of_mem_take (List.mem_of_mem_take ak))), List.length_take, List.length_take]
      congr 1; omega
     have hlen : ((xs.take b).drop a).length = b - a := by simp; omega
     have jm : hj w j7 (o + a * (C.T e).sz) d2 := by
      rw [← Az]
      have : hj w j7 o (d1 ++ (d2 ++ b4)) := by simpa using bI
      exact this.An
     have w7 : ba w F ((xs.take b).drop a) d2 (fun _ => False) := ba.mono (fun _ h => h) _ _ _ _ (fun b U => (ct _ (dG _ U)).elim) cu
     have mem : ∀ d ∈ (xs.take b).drop a, d.wd = sz := fun d ak => bd d (List.mem_of_mem_take (List.mem_of_mem_drop ak))
     have run : (Instr.sliceAt T (.slice (some ⟨j7, o, none⟩) xs.length cap) qL qM none).run C.P w = .ok (.slice (if cap = a then some ⟨j7, o, none⟩ else some ⟨j7, o + a * (C.T e).sz, none⟩) (b - a) (cap - a)) w := by
      rw [sf bt (sg aB (by simp) (by simp))]
      simp [Instr.slice, run_underlying b_, mJ, jG f1, f2, Addr.add_lit]
     refine ⟨_, w, F, S, run, h, .inl ⟨rfl, (aL.cJ rfl).2 ⟨rfl, ?_⟩⟩⟩
     simp only [cp, hW]
     rw [ax]
     by_cases Ej : cap = a
     ·have LK : b = a := by omega
      subst LK
      have ui : (xs.take b).drop b = [] := by simp
      rw [if_pos Ej]
      rw [ui] at w7 ⊢
      rw [ba] at w7
      subst w7
      exact .inr ⟨j7, o, cap - b, [], sz, by simp, ag, Nat.zero_le _, by omega, by simp, fun aK c cS => by simp at cS, by rw [ba]⟩
     ·rw [if_neg Ej]
      exact .inr ⟨j7, _, cap - a, d2, sz, by rw [hlen], ag, by rw [hlen]; omega, by omega, mem, jm, w7⟩
   ·cases he
  ·cases he
 ·rename_i e y q aB
  split at he
  ·rename_i sz xs ak
   split at he
   ·rename_i b bX U
    split at he
    ·rename_i ph
     split at he
     ·rename_i t_ s2 a3
      simp only [Option.some.injEq, Prod.mk.injEq] at he
      obtain ⟨rfl, rfl⟩ := he
      obtain ⟨i, d, z, a1, bg, bf, cn, c3, b_, bV⟩ := bt.info (fL aB (by simp))
      rw [aB] at bV
      have := kr bV; subst this
      obtain ⟨sa, bw, pe, f1, f2, f3, f4, f5, f6, f7⟩ := bt.info ph.2
      have qJ : t_ = .ai sz xs := by
       simp only [cG, ak, j.plain] at a3
       simp at a3
       exact a3.1.symm
      subst qJ
      obtain ⟨b7, g6, a8, bA, Sn, ct, dZ, e6, hy, iu, kM⟩ := nS h rfl aQ a3
      rw [gx bA, ax] at ct
      rcases ct with ⟨rfl, I, ku⟩ | ⟨j7, cap, cur, gd, fr, aU, ku, ch, cu, eF, dG, ff, ez, iL, dN, lf, lK⟩
      ·simp at ku; subst ku
       have g1 : b = 0 := by simpa using ph.1
       subst g1
       have mJ := se (P := C.P) (isS := true) (len := 0) (cap := 0) mH mI bX U (Nat.le_refl _) (Nat.le_refl _) (Nat.le_refl _)
       refine ⟨.slice I 0 0, w, F, b7, ?_, g6, .inr ⟨rfl, rfl, fun _ => False, by simp only [cp, hW]; rw [ax]; exact .inl ⟨rfl, _, rfl⟩, fun _ h => h.elim, fun _ h => h.elim, fun _ _ h => h.elim, fun _ h => h.elim⟩⟩
       rw [sf bt (sg aB (by simp) (by simp))]
       cases I <;> simp [Instr.slice, run_underlying b_, mJ, jG f1, f2]
      ·simp at ku; subst ku
       have mJ := se (P := C.P) (isS := true) (len := xs.length) (cap := cap) mH mI bX U (Nat.zero_le _) (Nat.le_trans ph.1 dG) dG
       have hlen : (xs.take b).length = b := by simp; omega
       have run : (Instr.sliceAt T (.slice (some ⟨j7, 0, none⟩) xs.length cap) qL qM none).run C.P w = .ok (.slice (some ⟨j7, 0, none⟩) b cap) w := by
        rw [sf bt (sg aB (by simp) (by simp))]
        simp [Instr.slice, run_underlying b_, mJ, jG f1, f2, Addr.add_lit]
       refine ⟨_, w, F, b7, run, g6, .inr ⟨rfl, rfl, Sn, ?_, dZ, e6, hy, iu⟩⟩
       simp only [cp, hW]
       rw [ax]
       obtain ⟨bT, b4, g4, gl, az, fg, gy, iv, lb, mF⟩ := ba.split b xs _ _ dN
       refine .inr ⟨j7, cap, cur, gd, fr, aU, by rw [hlen], ch, cu, eF, by omega, ff, ez, fun d ak => iL d (List.mem_of_mem_take ak), ?_, lf, lK⟩
       have Az : bT.length = b * sz := by
        rw [ba.length _ _ _ fg, qx _ (fun d ak => iL d (List.mem_of_mem_take ak)), hlen]
       have : cur.toList.take ((xs.take b).length * sz) = bT := by
        rw [hlen]
        have ah : b * sz ≤ xs.length * sz := Nat.mul_le_mul_right _ ph.1
        have : (cur.toList.take (xs.length * sz)).take (b * sz) = bT := by rw [az, List.take_left' Az]
        rwa [List.take_take, Nat.min_eq_left ah] at this
       rw [this]
       exact ba.mono (fun _ h => h) _ _ _ _ iv fg
     ·cases he
    ·cases he
   ·cases he
  ·cases he
 ·cases he
end
section
variable {C : b1} {w0 w : World} {F0 X F : Nat → Prop} {S : Nat → Nat → Prop} {s s1 : ao} {aE : Nat → Value} {av : j}
def Src (P : Program) (w : World) (size : Nat) (x : Value) (m : Nat) (news : List Value) : Prop :=
 ∀ aS : World, aS.heap = w.heap → (Builtin.lenOf x).run P aS = .ok m aS ∧ (Builtin.firstCells size m x).run P aS = .ok news.toArray aS
def AA (d : TypeDesc) : Prop := (∃ e, d = .slice e) ∨ d = .string
theorem LL {P : Program} {T bJ ty e : TypeId} {oF : TypeDesc} {i : TypeInfo} (a3 : P.underlying T = some (.slice e)) (hu : P.underlying bJ = some oF) (qN : AA oF) (au : P.info? e = some i)
  {x : Value} {m : Nat} {news : List Value} (w8 : Src P w i.size x m news) {b n cap : Nat} {cur : Array Value} {gd : TypeId} {fr : Nat × Nat} {l mid r : List Value} (U : w.heap[b]? = some (.cells cur gd fr)) (bY : pc fr cur.size)
  (az : cur.toList = l ++ (mid ++ r)) (hl : l.length = n * i.size) (hm : mid.length = news.length) (w3 : ∀ v ∈ news, Value.gw v = true) (nZ : n + m ≤ cap) :
  ∃ aS, (Builtin.append_ #[T, bJ] ty #[.slice (some ⟨b, 0, none⟩) n cap, x]).run P w = .ok (.slice (some ⟨b, 0, none⟩) (n + m) cap) aS ∧ aS.heap[b]? = some (.cells (l ++ (news ++ r)).toArray gd fr) ∧
    (∀ c, c ≠ b → aS.heap[c]? = w.heap[c]?) ∧ aS.heap.size = w.heap.size ∧ aS.os = w.os ∧ aS.tape = w.tape ∧ aS.output = w.output := by
 obtain ⟨aS, fg, gy⟩ := Ar (P := P) (b := b) (o := n * i.size) (e := gd) (fr := fr) news 0 cur w l mid r U bY az (by omega) hm w3
 refine ⟨aS, ?_, gy⟩
 obtain ⟨ag, ah⟩ := w8 w rfl
 rcases qN with ⟨gZ, rfl⟩ | rfl <;> simp [Builtin.append_, run_underlying a3, run_underlying hu, jG au, ag, ah, nZ, Addr.add_lit, fg]
theorem LM {P : Program} {T bJ ty e : TypeId} {oF : TypeDesc} {i : TypeInfo} {z : Value} (a3 : P.underlying T = some (.slice e)) (hu : P.underlying bJ = some oF) (qN : AA oF) (au : P.info? e = some i) (b2 : i.zero = some z)
  {x : Value} {m : Nat} {news : List Value} (w8 : Src P w i.size x m news) {base : Option Addr} {n cap : Nat} {ng : List Value} (hold : Src P w i.size (.slice base n cap) n ng) (nZ : ¬ n + m ≤ cap)
  (bh : n + m ≤ 9223372036854775807) (AB : (n + m) * i.bytes ≤ 140737488355328) :
  (Builtin.append_ #[T, bJ] ty #[.slice base n cap, x]).run P w = .ok (.slice (some ⟨w.heap.size, 0, none⟩) (n + m) (grownCap w (n + m) cap e))
   (w.drew.alloc (.cells (ng.toArray ++ news.toArray ++ Builtin.zeroCells z.cells (grownCap w (n + m) cap e - (n + m))) e)) := by
 have ag := (w8 w rfl).1
 have ah := (w8 w.drew rfl).2
 have aM := (hold w.drew rfl).2
 have aja := growslice_fits (need := n + m) (old := cap) (by omega) AB
 have hx : ¬ (281474976710656 < Builtin.nextslicecap (n + m) cap * i.bytes) := by omega
 have sj : ∀ k (w : World), (askRoom k).run P w = .ok () w := by
  intro k w
  unfold askRoom
  split <;> rfl
 have AD : ¬ (9223372036854775807 < (n : Int) + (m : Int) ∧ i.bytes = 0) := by omega
 rcases qN with ⟨gZ, rfl⟩ | rfl <;>
  ·simp [Builtin.append_, run_underlying a3, run_underlying hu, jG au, qC au, ag, nZ, hx, Question.forced, sj]
   rw [if_neg AD, aM]
   simp [ah, tT au b2, newRow, grownCap]
   have a1 : (ng ++ news).toArray = ng.toArray ++ news.toArray := by simp
   rw [a1, Array.append_assoc]
def w9 (C : b1) (e bJ : TypeId) : Bool := match (C.T bJ).k, (C.T e).k with
 | .slice gZ, _ => gZ == e
 | .str, .int .u8 => true
 | _, _ => false
def lg (C : b1) (s : ao) (T bJ : TypeId) (x y : j) : Option (j × ao) :=
 match (C.T T).k with
 | .slice e => if (C.T e).ok = true ∧ (C.T e).zero.wd = (C.T e).sz ∧ (flat (C.T e).zero).isSome = true ∧ w9 C e bJ = true then
   match (match x with | .af => some (j.ai (C.T e).sz [], s) | .h a q => cG s (.h a q) | _ => none) with
   | some (.ai sz xs, s1) => if sz = (C.T e).sz then
     match (match jQ x.owner y with
      | .af => some ([], s1)
      | .slice cz => some (cz, s1)
      | .str l => some (l.map jS, s1)
      | .h a q => match cG s1 (.h a q) with
        | some (.ai _ cz, s2) => some (cz, s2)
        | _ => none
      | _ => none) with
     | some (cz, s2) => if (∀ d ∈ cz, d.wd = (C.T e).sz) ∧ (xs.length + cz.length) * (C.T e).bytes ≤ 140737488355328 ∧ xs.length + cz.length ≤ 9223372036854775807 then some (.ai sz (xs ++ cz), s2) else none
     | none => none
     else none
   | _ => none
   else none
 | _ => none
theorem ba.append {xs cz : List j} {bT b4 : List Value} {b7 dA aU : Nat → Prop} (ag : ba w F xs bT b7) (ah : ba w F cz b4 dA) (a1 : ∀ b, b7 b → aU b) (bg : ∀ b, dA b → aU b) (bf : ∀ b, b7 b → ¬ dA b) : ba w F (xs ++ cz) (bT ++ b4) aU := by
 induction xs generalizing bT b7 aU with
 | nil => rw [ba] at ag; subst ag; exact ba.mono (fun _ h => h) _ _ _ _ bg ah
 | cons x xs ih =>
   rw [ba] at ag
   obtain ⟨LN, LO, g4, gl, rfl, a8, bA, ct, dZ, e6⟩ := ag
   rw [List.cons_append, ba]
   refine ⟨LN, LO ++ b4, g4, fun b => gl b ∨ dA b, by simp, a8, ih bA (fun b h => .inl h) (fun b h => .inr h) (fun b h => bf b (dZ b h)), fun b h => a1 b (ct b h), ?_, ?_⟩
   ·rintro b (h | h)
    ·exact a1 b (dZ b h)
    ·exact bg b h
   ·rintro b h (bN | bN)
    ·exact e6 b h bN
    ·exact bf b (ct b h) bN
theorem AE {P : Program} {size m cap : Nat} {b o : Nat} {news : List Value} (jm : hj w b o news) (hl : news.length = m * size) : Src P w size (.slice (some ⟨b, o, none⟩) m cap) m news := by
 intro aS hw
 refine ⟨rfl, ?_⟩
 refine run_firstCells_some aS size m ⟨b, o, none⟩ m cap news hl (fun aK v cS => ?_)
 rw [Addr.add_lit]
 have := jm aK v cS
 simpa [World.cell?, hw] using this
theorem Ek {P : Program} {size cap : Nat} : Src P w size (.slice none 0 cap) 0 [] := by
 intro aS _
 exact ⟨rfl, by simp [Builtin.firstCells]⟩
theorem AF {P : Program} {size cap : Nat} (a : Option Addr) : Src P w size (.slice a 0 cap) 0 [] := by
 cases a with
 | none => exact Ek
 | some a =>
   intro aS _
   exact ⟨rfl, run_firstCells_some aS size 0 a 0 cap [] (by simp) (fun aK v cS => by simp at cS)⟩
theorem LP {P : Program} (l : List UInt8) : Src P w 1 (.string ⟨⟨l⟩⟩) l.length (l.map fun b => .int .u8 (b.toNat : Int)) := by
 intro aS _
 refine ⟨rfl, ?_⟩
 have : (⟨⟨l⟩⟩ : ByteArray).extract 0 l.length = ⟨⟨l⟩⟩ := by
  apply ByteArray.ext
  simp [ByteArray.data_extract]
 simp [Builtin.firstCells, this]
theorem ba.qO {sz : Nat} {xs : List j} {cs : List Value} {aU : Nat → Prop} (h : ba w F xs cs aU) (hw : ∀ d ∈ xs, d.wd = sz) : cs.length = xs.length * sz := by
 rw [ba.length _ _ _ h, qx _ hw]
theorem bU.turn (h : bU w0 F0 X F S s aE w) {aS : World} {b : Nat} (U : ∀ c, c ≠ b → aS.heap[c]? = w.heap[c]?) (ab : aS.heap.size = w.heap.size) (ag : aS.os = w.os) (ah : aS.tape = w.tape) (aM : aS.output = w.output)
  (bE : ¬ F b) (b9 : ∀ u, ¬ S u b) (bM : X b ∨ w0.heap.size ≤ b) : bU w0 F0 X F S s aE aS where
 hp := h.hp
 hJ := h.hJ
 fU := fun c az => by rw [ab]; exact h.fU c az
 eX := fun t c az => by rw [ab]; exact h.eX t c az
 ga := h.ga
 fJ := h.fJ
 dW := h.dW
 dJ := fun t => aL.frame (Sx := S) (fun c az => U c (by rintro rfl; exact bE az)) (fun _ h => h) (fun x c az => U c (by rintro rfl; exact b9 x az)) h.dJ _ _ _ (fun c az => U c (by rintro rfl; exact b9 t az)) (h.dJ t)
 old := fun c eC kp => by
  rw [U c ?_]
  ·exact h.old c eC kp
  ·rintro rfl
   rcases bM with bM | bM
   ·exact kp bM
   ·omega
 size := by rw [ab]; exact h.size
 os := ag.trans h.os
 tape := ah.trans h.tape
 output := aM.trans h.output
theorem LQ (bt : C.eO) (h : bU w0 F0 X F S s aE w) {T bJ ty : TypeId} {x y : j} {iK ib : Value} (aw : aL w F s aE x iK (fun _ => False)) (bL : aL w F s aE y ib (fun _ => False))
  (he : lg C s T bJ x y = some (av, s1)) : Good C w0 F0 X aE w (Builtin.append_ #[T, bJ] ty #[iK, ib]) av s1 := by
 unfold lg at he
 split at he
 ·rename_i e aB
  obtain ⟨AG, d, AH, a1, bg, bf, cn, c3, b_, bV⟩ := bt.info (fL aB (by simp))
  rw [aB] at bV
  have := kr bV; subst this
  split at he
  ·rename_i qF
   obtain ⟨nf, n0, oG, n1⟩ := qF
   obtain ⟨i, AJ, z, f1, f2, f3, f4, f5, f6, f7⟩ := bt.info nf
   obtain ⟨eQ, lL⟩ := Option.isSome_iff_exists.1 oG
   have oH := f5 eQ lL
   have nh : eQ.length = (C.T e).sz := by
    have := ax.length _ _ _ ((ax.flat (w := w) (F := F) _).1 (C.T e).zero eQ (fun _ => False) (Nat.le_refl _) lL)
    rw [this, n0]
   obtain ⟨oF, hu, qN⟩ : ∃ oF, C.P.underlying bJ = some oF ∧ AA oF := by
    unfold w9 at n1
    split at n1
    ·rename_i gZ j8
     obtain ⟨_, bw, _, _, _, _, _, _, hy, iu⟩ := bt.info (fL j8 (by simp))
     rw [j8] at iu
     exact ⟨bw, hy, .inl ⟨_, kr iu⟩⟩
    ·rename_i j8 _
     obtain ⟨_, bw, _, _, _, _, _, _, hy, iu⟩ := bt.info (fL j8 (by simp))
     rw [j8] at iu
     exact ⟨bw, hy, .inr (oy iu)⟩
    ·cases n1
   split at he
   ·rename_i sz xs El qP
    split at he
    ·rename_i ef
     subst ef
     split at he
     ·rename_i cz w_ mK
      split at he
      ·rename_i LR
       obtain ⟨sk, AB, uj⟩ := LR
       simp only [Option.some.injEq, Prod.mk.injEq] at he
       obtain ⟨rfl, rfl⟩ := he
       obtain ⟨g4, I, Sn, gz, qK, ue, nX, nY, ajb, ajc, pj⟩ : ∃ g4, bU w0 F0 X F g4 El aE w ∧ ∃ Sn, ax w F (.ai (C.T e).sz xs) [iK] Sn ∧ (∀ b, Sn b → b < w.heap.size) ∧ (∀ b, Sn b → ¬ F b) ∧ (∀ u b, Sn b → ¬ g4 u b) ∧
         (∀ b, Sn b → X b ∨ w0.heap.size ≤ b) ∧ (∀ u b, g4 u b → S u b) ∧ (∀ b, Sn b → ∃ u, S u b) ∧ aL w F El aE (jQ x.owner y) ib (fun _ => False) := by
        split at qP
        ·simp only [Option.some.injEq, Prod.mk.injEq, j.ai.injEq, true_and] at qP
         obtain ⟨rfl, rfl⟩ := qP
         have := oD aw; subst this
         exact ⟨S, h, fun _ => False, by rw [ax]; exact .inl ⟨rfl, _, rfl⟩, fun _ h => h.elim, fun _ h => h.elim, fun _ _ h => h.elim, fun _ h => h.elim, fun _ _ h => h, fun _ h => h.elim, bL⟩
        ·obtain ⟨b7, g6, a8, bA, Sn, ct, dZ, e6, hy, iu, kM, uk, xa⟩ := nS h rfl aw qP
         rw [gx bA] at ct
         exact ⟨b7, g6, Sn, ct, dZ, e6, hy, iu, kM, uk, xa _ _ _ bL⟩
        ·cases qP
       obtain ⟨gl, j7, me, news, ja, hq, hM, b3, cc, dB, jo, bW⟩ : ∃ gl, bU w0 F0 X F gl w_ aE w ∧ ∃ me news, ba w F cz news me ∧ Src C.P w i.size ib cz.length news ∧ (∀ b, me b → b < w.heap.size) ∧ (∀ b, me b → ¬ F b) ∧ (∀ u b, me b → ¬ gl u b) ∧
         (∀ b, me b → X b ∨ w0.heap.size ≤ b) ∧ (∀ u b, gl u b → g4 u b) ∧ (∀ b, me b → ∃ u, g4 u b) := by
        split at mK
        ·rename_i qQ
         simp only [Option.some.injEq, Prod.mk.injEq] at mK
         obtain ⟨rfl, rfl⟩ := mK
         rw [qQ] at pj
         have := oD pj; subst this
         exact ⟨g4, I, fun _ => False, [], by rw [ba], Ek, fun _ h => h.elim, fun _ h => h.elim, fun _ _ h => h.elim, fun _ h => h.elim, fun _ _ h => h, fun _ h => h.elim⟩
        ·rename_i en qQ
         simp only [Option.some.injEq, Prod.mk.injEq] at mK
         obtain ⟨rfl, rfl⟩ := mK
         rw [qQ] at pj
         rcases w6 pj with ⟨rfl, si, ajd, rfl, _, qI⟩ | ⟨b, o, cap, ea, LS, rfl, ch, cu, eF, dG, ff, ez⟩
         ·exact ⟨g4, I, fun _ => False, [], by rw [ba], AF si, fun _ h => h.elim, fun _ h => h.elim, fun _ _ h => h.elim, fun _ h => h.elim, fun _ _ h => h, fun _ h => h.elim⟩
         ·exact ⟨g4, I, fun _ => False, ea, ez, AE ff (by rw [f2]; exact ba.qO ez sk), fun _ h => h.elim, fun _ h => h.elim, fun _ _ h => h.elim, fun _ h => h.elim, fun _ _ h => h, fun _ h => h.elim⟩
        ·rename_i l qQ
         simp only [Option.some.injEq, Prod.mk.injEq] at mK
         obtain ⟨rfl, rfl⟩ := mK
         rw [qQ] at pj
         have := nW pj; subst this
         have LU : l ≠ [] → i.size = 1 := by
          intro hl
          cases l with
          | nil => exact (hl rfl).elim
          | cons b l => rw [f2, ← sk (jS b) (by simp)]; rfl
         by_cases hl : l = []
         ·subst hl
          refine ⟨g4, I, fun _ => False, [], by simp only [List.map_nil]; rw [ba], ?_, fun _ h => h.elim, fun _ h => h.elim, fun _ _ h => h.elim, fun _ h => h.elim, fun _ _ h => h, fun _ h => h.elim⟩
          intro aS _
          exact ⟨rfl, by simp [Builtin.firstCells, ByteArray.extract]; rfl⟩
         ·refine ⟨g4, I, fun _ => False, _, Ee l _, ?_, fun _ h => h.elim, fun _ h => h.elim, fun _ _ h => h.elim, fun _ h => h.elim, fun _ _ h => h, fun _ h => h.elim⟩
          rw [LU hl, List.length_map]
          exact LP l
        ·rename_i a q qQ
         split at mK
         ·rename_i aje en s2 a3
          simp only [Option.some.injEq, Prod.mk.injEq] at mK
          obtain ⟨rfl, rfl⟩ := mK
          rw [qQ] at pj
          obtain ⟨dA, g6, a8, bA, me, ct, dZ, e6, hy, iu, kM, uk, xa⟩ := nS I rfl pj a3
          rw [gx bA, ax] at ct
          rcases ct with ⟨rfl, LV, ku⟩ | ⟨b, cap, cur, gd, fr, aU, ku, ch, cu, eF, dG, ff, ez, iL, dN, lf, lK⟩
          ·simp at ku; subst ku
           exact ⟨dA, g6, fun _ => False, [], by rw [ba], (AF LV), fun _ h => h.elim, fun _ h => h.elim, fun _ _ h => h.elim, fun _ h => h.elim, kM, fun _ h => h.elim⟩
          ·simp at ku; subst ku
           refine ⟨dA, g6, aU, _, dN, AE (r6 cu _) ?_, fun c az => dZ c (lf c az), fun c az => e6 c (lf c az), fun u c az => hy u c (lf c az), fun c az => iu c (lf c az), kM, fun c az => uk c (lf c az)⟩
           rw [f2]; exact ba.qO dN sk
         ·cases mK
        ·cases mK
       have pk : news.length = cz.length * (C.T e).sz := ba.qO ja sk
       have mL : ∀ c, Sn c → ¬ me c := fun c ag ah => by obtain ⟨u, hu⟩ := bW c ah; exact nX u c ag hu
       have h8 : ∀ u c, Sn c → ¬ gl u c := fun u c ag ah => nX u c ag (jo u c ah)
       have grow : ∀ (base : Option Addr) (cap : Nat) (ng : List Value) (Sx : Nat → Prop), iK = .slice base xs.length cap → Src C.P w i.size (.slice base xs.length cap) xs.length ng → ba w F xs ng Sx → (∀ d ∈ xs, d.wd = (C.T e).sz) → (∀ c, Sx c → Sn c) → ¬ xs.length + cz.length ≤ cap →
         Good C w0 F0 X aE w (Builtin.append_ #[T, bJ] ty #[iK, ib]) (.ai (C.T e).sz (xs ++ cz)) w_ := by
        intro base cap ng Sx As hold Em En eS nZ
        subst As
        have a2 := LM (ty := ty) b_ hu qN f1 f4 hq hold nZ uj (by rw [f3]; exact AB)
        have sd := grownCap_ge w (xs.length + cz.length) cap e
        have uh := grownCap_le_maxLen w (xs.length + cz.length) cap e (by unfold maxLen; omega)
        have um := ba.qO Em En
        have LW : ba w F (xs ++ cz) (ng ++ news) (fun c => Sx c ∨ me c) := ba.append Em ja (fun _ h => .inl h) (fun _ h => .inr h) (fun c ag ah => mL c (eS c ag) ah)
        have LX : (ng ++ news).length = (xs ++ cz).length * (C.T e).sz := by simp [um, pk, Nat.add_mul]
        have j6 := j7.ud (aS := w.drew.alloc (.cells (ng.toArray ++ news.toArray ++ Builtin.zeroCells z.cells (grownCap w (xs.length + cz.length) cap e - (xs.length + cz.length))) e))
         (sz := (C.T e).sz) (cap := grownCap w (xs.length + cz.length) cap e) (xs := xs ++ cz) (e := e) (fr := (0, 0)) (Sn := fun c => Sx c ∨ me c) rfl rfl rfl rfl
         (fun o _ ⟨_, ah⟩ => absurd ah (Nat.not_lt_zero _)) (by simpa using sd) uh
         (by
          simp only [Array.size_append, List.size_toArray, size_zeroCells, oH, um, pk, nh, ← Nat.add_mul]
          congr 1; omega)
         (by
          intro d ak
          rcases List.mem_append.1 ak with ak | ak
          ·exact En d ak
          ·exact sk d ak)
         (by
          simp only [Array.toList_append]
          rw [List.take_left' LX]
          exact LW)
         (by rintro c (az | az); exact qK c (eS c az); exact hM c az) (by rintro c (az | az); exact ue c (eS c az); exact b3 c az) (by rintro u c (az | az); exact h8 u c (eS c az); exact cc u c az) (by rintro c (az | az); exact nY c (eS c az); exact dB c az)
        refine ⟨_, _, F, gl, a2, j6.1, ?_⟩
        have := j6.2
        simpa using this
       rw [ax] at gz
       rcases gz with ⟨rfl, xb, ku⟩ | ⟨b, cap, cur, gd, fr, aU, ku, ch, cu, eF, dG, ff, ez, iL, dN, lf, lK⟩
       ·simp at ku; subst ku
        by_cases Eo : cz = []
        ·subst Eo
         have AK : news = [] := by simpa using pk
         subst AK
         refine ⟨.slice xb 0 0, w, F, gl, ?_, j7, .inr ⟨rfl, rfl, fun _ => False, by simp only [cp, hW]; rw [ax]; exact .inl ⟨rfl, _, rfl⟩, fun _ h => h.elim, fun _ h => h.elim, fun _ _ h => h.elim, fun _ h => h.elim⟩⟩
         obtain ⟨ag, ah⟩ := hq w rfl
         cases xb <;> rcases qN with ⟨gZ, rfl⟩ | rfl <;> simp at ag ah <;> simp [Builtin.append_, run_underlying b_, run_underlying hu, jG f1, ag, ah, storeCells]
        ·exact grow xb 0 [] (fun _ => False) rfl (AF xb) (by rw [ba]) (by simp) (fun _ h => h.elim) (by
          cases cz with
          | nil => exact (Eo rfl).elim
          | cons y cz => simp)
       ·simp at ku; subst ku
        by_cases nZ : xs.length + cz.length ≤ cap
        ·
         have um := ba.qO dN iL
         have hlen : cur.toList.length = cap * (C.T e).sz := by simp [ez]
         have hle : (xs.length + cz.length) * (C.T e).sz ≤ cap * (C.T e).sz := Nat.mul_le_mul_right _ nZ
         rw [Nat.add_mul] at hle
         have km : cur.toList = cur.toList.take (xs.length * (C.T e).sz) ++ ((cur.toList.drop (xs.length * (C.T e).sz)).take news.length ++ (cur.toList.drop (xs.length * (C.T e).sz)).drop news.length) := by
          rw [List.take_append_drop, List.take_append_drop]
         obtain ⟨aS, fg, gy, iv, lb, mF, dK, oB⟩ := LL (ty := ty) (n := xs.length) (m := cz.length) (cap := cap) b_ hu qN f1 hq cu eF km (by rw [f2]; exact um) (by simp [hlen, pk]; omega) (ba.qD _ _ _ ja) nZ
         have LY := j7.turn iv lb mF dK oB (ue b ch) (fun u hu => h8 u b ch hu) (nY b ch)
         have r_ : ∀ c, F c → aS.heap[c]? = w.heap[c]? := fun c az => iv c (by rintro rfl; exact ue _ ch az)
         refine ⟨_, aS, F, gl, fg, LY, .inr ⟨rfl, rfl, fun c => Sn c ∨ me c, ?_, ?_, ?_, ?_, ?_⟩⟩
         ·simp only [cp, hW]
          rw [ax]
          have Ep : (cur.toList.take (xs.length * (C.T e).sz) ++ (news ++ (cur.toList.drop (xs.length * (C.T e).sz)).drop news.length)).toArray.size = cur.size := by
           have : cur.size = cur.toList.length := by simp
           rw [this]
           conv => rhs; rw [km]
           simp [hlen, pk]; omega
          refine .inr ⟨b, cap, _, gd, fr, fun c => aU c ∨ me c, by simp, .inl ch, gy, by rw [Ep]; exact eF, by simpa using nZ, ff, by rw [Ep]; exact ez, ?_, ?_, ?_, ?_⟩
          ·intro d ak
           rcases List.mem_append.1 ak with ak | ak
           ·exact iL d ak
           ·exact sk d ak
          ·have pg := ba.frame r_ _ _ _ (fun c az => iv c (by rintro rfl; exact lK az)) dN
           have qA := ba.frame r_ _ _ _ (fun c az => iv c (by rintro rfl; exact mL _ ch az)) ja
           have : ((cur.toList.take (xs.length * (C.T e).sz) ++ (news ++ (cur.toList.drop (xs.length * (C.T e).sz)).drop news.length)).toArray.toList.take ((xs ++ cz).length * (C.T e).sz)) = cur.toList.take (xs.length * (C.T e).sz) ++ news := by
            simp only []
            rw [← List.append_assoc]
            exact List.take_left' (by rw [List.length_append, um, pk, List.length_append, Nat.add_mul])
           rw [this]
           exact ba.append pg qA (fun _ h => .inl h) (fun _ h => .inr h) (fun c ag ah => mL c (lf c ag) ah)
          ·rintro c (az | az)
           ·exact .inl (lf c az)
           ·exact .inr az
          ·rintro (az | az)
           ·exact lK az
           ·exact mL b ch az
         ·rw [lb]; rintro c (az | az); exact qK c az; exact hM c az
         ·rintro c (az | az); exact ue c az; exact b3 c az
         ·rintro u c (az | az); exact h8 u c az; exact cc u c az
         ·rintro c (az | az); exact nY c az; exact dB c az
        ·exact grow (some ⟨b, 0, none⟩) cap _ aU rfl (AE (r6 cu _) (by rw [f2]; exact ba.qO dN iL)) dN iL lf nZ
      ·cases he
     ·cases he
    ·cases he
   ·cases he
  ·cases he
 ·cases he
end
end Go.dp
