/- Part of a proof that a law returns true for every input. No condition. -/
import Derived.Test.YtobljppjkklojaaFwC
import Derived.Test.YtobljppjkklojaaFwA
import Derived.Laws.IdiomStrings
import Derived.Laws.Strings
import Derived.LaidEql
import Derived.WideLaws
namespace Go.cM
section
variable {C : bN} {w0 w : World} {F0 X F : Nat → Prop} {S : Nat → Nat → Prop} {s s1 : ag} {au : Nat → Value} {av : j}
theorem m1 {k : IntKind} {n : Int} {v : Value} {aH : Nat → Prop} (h : aF w F s au (.int k n) v aH) : v = .int k n := by
 have bq := (aF.cr rfl).1 h
 rw [aq, g_ bq.1] at bq
 simpa using bq.2
theorem oA {b : Bool} {v : Value} {aH : Nat → Prop} (h : aF w F s au (.bool b) v aH) : v = .bool b := by
 have bq := (aF.cr rfl).1 h
 rw [aq, g_ bq.1] at bq
 simpa using bq.2
theorem mu {b : List UInt8} {v : Value} {aH : Nat → Prop} (h : aF w F s au (.str b) v aH) : v = .string ⟨⟨b⟩⟩ := by
 have bq := (aF.cr rfl).1 h
 rw [aq, g_ bq.1] at bq
 simpa using bq.2
theorem Ah {v : Value} {aH : Nat → Prop} (h : aF w F s au .cW v aH) : v = .pointer none := by
 have bq := (aF.cr rfl).1 h
 rw [aq, g_ bq.1] at bq
 simpa using bq.2
theorem m2 {v : Value} {aH : Nat → Prop} (h : aF w F s au .a_ v aH) : v = .slice none 0 0 := by
 have bq := (aF.cr rfl).1 h
 rw [aq, g_ bq.1] at bq
 simpa using bq.2
theorem Ai {v : Value} {aH : Nat → Prop} (h : aF w F s au .dO v aH) : ∃ b, v = .bool b := by
 have bq := (aF.cr rfl).1 h
 rw [aq, g_ bq.1] at bq
 simpa using bq.2
theorem of_int (k : IntKind) (n : Int) : aF w F s au (.int k n) (.int k n) (fun _ => False) := (aF.cr rfl).2 ⟨rfl, by rw [aq]; rfl⟩
theorem of_bool (b : Bool) : aF w F s au (.bool b) (.bool b) (fun _ => False) := (aF.cr rfl).2 ⟨rfl, by rw [aq]; rfl⟩
theorem lW (b : List UInt8) : aF w F s au (.str b) (.string ⟨⟨b⟩⟩) (fun _ => False) := (aF.cr rfl).2 ⟨rfl, by rw [aq]; rfl⟩
theorem xc (b : Bool) : aF w F s au .dO (.bool b) (fun _ => False) := (aF.cr rfl).2 ⟨rfl, by rw [aq]; exact ⟨b, rfl⟩⟩
def hc (op : BinOp) (k : IntKind) (a : Int) (dh : IntKind) (b : Int) : Option j :=
 match op with
 | .shl => if b < 0 then none else some (.int k (k.wrap (a * 2 ^ (min b.toNat k.bits))))
 | .shr => if b < 0 then none else some (.int k (a.fdiv (2 ^ (min b.toNat k.bits))))
 | .add => if k = dh then some (.int k (k.wrap (a + b))) else none
 | .sub => if k = dh then some (.int k (k.wrap (a - b))) else none
 | .mul => if k = dh then some (.int k (k.wrap (a * b))) else none
 | .quo => if k = dh ∧ b ≠ 0 then some (.int k (k.wrap (a.tdiv b))) else none
 | .rem => if k = dh ∧ b ≠ 0 then some (.int k (a.tmod b)) else none
 | .eql => if k = dh then some (.bool (a == b)) else none
 | .neq => if k = dh then some (.bool (a != b)) else none
 | .lss => if k = dh then some (.bool (decide (a < b))) else none
 | .leq => if k = dh then some (.bool (decide (a ≤ b))) else none
 | .gtr => if k = dh then some (.bool (decide (b < a))) else none
 | .geq => if k = dh then some (.bool (decide (b ≤ a))) else none
 | .and => if k = dh then some (.int k (bitsOf .and k a b)) else none
 | .or => if k = dh then some (.int k (bitsOf .or k a b)) else none
 | .xor => if k = dh then some (.int k (bitsOf .xor k a b)) else none
 | .andNot => if k = dh then some (.int k (bitsOf .andNot k a b)) else none
def kD (op : BinOp) (a b : List UInt8) : Option j :=
 match op with
 | .add => if a.length + b.length ≤ 9223372036854775807 then some (.str (a ++ b)) else none
 | .eql => some (.bool (a == b))
 | .neq => some (.bool !(a == b))
 | .lss => some (.bool (Op.bytesLess a b))
 | .leq => some (.bool (Op.bytesLess a b || a == b))
 | .gtr => some (.bool !(Op.bytesLess a b || a == b))
 | .geq => some (.bool !(Op.bytesLess a b))
 | _ => none
def jd (s : ag) : j → Option (Option Bool)
 | .a_ => some (some true)
 | .slice xs => some (if xs = [] then none else some false)
 | .h x q => match j.sub q (s x) with
   | some (.ay _ xs) => some (if xs = [] then none else some false)
   | _ => none
 | _ => none
def je (s : ag) : j → Option Bool
 | .cW => some true
 | .ref _ => some false
 | .h x q => match j.sub q (s x) with
   | some (.bD _) => some false
   | _ => none
 | _ => none
def rM (neg : Bool) : Option Bool → j
 | some b => .bool (b != neg)
 | none => .dO
def aK (C : bN) (s : ag) (op : BinOp) (T : TypeId) (x y : j) : Option j :=
 match x, y with
 | .int k a, .int dh b => hc op k a dh b
 | .str a, .str b => kD op a b
 | .bool a, .bool b => match op, (C.T T).k with
   | .eql, .bool => some (.bool (a == b))
   | .neq, .bool => some (.bool !(a == b))
   | _, _ => none
 | x, .a_ => match op, (C.T T).k with
   | .eql, .slice _ => (jd s x).map (rM false)
   | .neq, .slice _ => (jd s x).map (rM true)
   | _, _ => none
 | x, .cW => match op, (C.T T).k with
   | .eql, .ptr _ => (je s x).map fun b => .bool b
   | .neq, .ptr _ => (je s x).map fun b => .bool !b
   | _, _ => none
 | _, _ => none
theorem GG {P : Program} {op : BinOp} {T : TypeId} {k dh : IntKind} {a b : Int} (he : hc op k a dh b = some av) (w : World) :
  ∃ v, (binOp op T (.int k a) (.int dh b)).run P w = .ok v w ∧ aF w F s au av v (fun _ => False) := by
 unfold hc at he
 cases op <;> simp only at he <;> split at he <;> first | (cases he; done) | skip
 all_goals
  rename_i aj
  simp only [Option.some.injEq] at he
  subst he
 all_goals first
  | (subst aj; simp only [binOp_add, binOp_sub, binOp_mul, binOp_eql, binOp_neq, binOp_lss, binOp_leq, binOp_gtr, binOp_geq, binOp_and, binOp_or, binOp_xor, binOp_andNot, Op.intArith, Op.intBits, Sem.run_pure, Result.ok.injEq, and_true, exists_eq_left']
     first | exact of_int _ _ | exact of_bool _)
  | (obtain ⟨rfl, bp⟩ := aj
     simp only [binOp_quo, binOp_rem, Op.intDiv, bp, if_false, Sem.run_pure, Result.ok.injEq, and_true, exists_eq_left']
     exact of_int _ _)
  | (simp only [binOp_shl, binOp_shr, Op.shift, aj, if_false, Sem.run_pure, Result.ok.injEq, and_true, exists_eq_left']
     exact of_int _ _)
theorem xd (a : List UInt8) : (⟨⟨a⟩⟩ : ByteArray).toList = a := ByteArray.toList_eq _
theorem GH (a b : List UInt8) : (⟨⟨a⟩⟩ : ByteArray) ++ (⟨⟨b⟩⟩ : ByteArray) = ⟨⟨a ++ b⟩⟩ := by
 apply ByteArray.ext
 simp [ByteArray.data_append]
theorem GI {P : Program} {op : BinOp} {T : TypeId} {a b : List UInt8} (he : kD op a b = some av) (w : World) :
  ∃ v, (binOp op T (.string ⟨⟨a⟩⟩) (.string ⟨⟨b⟩⟩)).run P w = .ok v w ∧ aF w F s au av v (fun _ => False) := by
 have J : ∀ op, binOp op T (.string ⟨⟨a⟩⟩) (.string ⟨⟨b⟩⟩) = Op.stringOp op ⟨⟨a⟩⟩ ⟨⟨b⟩⟩ := by intro op; cases op <;> rfl
 rw [J]
 unfold kD at he
 cases op <;> simp only [Option.some.injEq] at he <;> first | (cases he; done) | skip
 case add =>
  split at he
  ·rename_i hl
   simp only [Option.some.injEq] at he; subst he
   have U : ((ByteArray.size ⟨⟨a⟩⟩ + ByteArray.size ⟨⟨b⟩⟩ : Nat) : Int) ≤ 9223372036854775807 := by
    show ((a.length + b.length : Nat) : Int) ≤ _
    omega
   refine ⟨.string ⟨⟨a ++ b⟩⟩, ?_, lW _⟩
   simp only [Op.stringOp, IntKind.max_i64]
   rw [if_neg (by omega), GH]
   rfl
  ·cases he
 all_goals
  subst he
  simp only [Op.stringOp, xd, Sem.run_pure, Result.ok.injEq, and_true, exists_eq_left']
  exact of_bool _
theorem xe (h : bB w0 F0 X F S s au w) {v : Value} {y : Nat} {q : List Nat} (aG : aF w F s au (.h y q) v (fun _ => False)) {sz : Nat} {xs : List j} (af : j.sub q (s y) = some (.ay sz xs)) :
  (xs = [] ∧ ∃ a, v = .slice a 0 0) ∨ ∃ b cap cur e fr, v = .slice (some ⟨b, 0, none⟩) xs.length cap ∧ w.heap[b]? = some (.cells cur e fr) ∧ lR fr cur.size ∧ xs.length ≤ cap ∧ cap ≤ maxLen ∧ cur.size = cap * sz ∧ (∀ d ∈ xs, d.wd = sz) ∧
   ∃ aH, aU w F xs (cur.toList.take (xs.length * sz)) aH ∧ (∀ c, aH c → S y c) ∧ S y b := by
 rw [aF] at aG
 obtain ⟨cv, a, aV, bo, b8⟩ := aG _ af rfl
 have U : Value.fz v = true := b8
 rw [g_ U] at bo; subst bo
 have ai := h.c7 y
 rw [aF.cr (gX af (.inl rfl))] at ai
 obtain ⟨eS, cf, dH, fB, k0, b9, cj, d_, dv, e1⟩ := ctx q (s y) (ch (au y)) (S y) none _ ai.2 af
 rw [k0] at aV
 simp only [Option.some.injEq, Prod.mk.injEq, true_and] at aV
 obtain ⟨rfl, rfl⟩ := aV
 rw [aq] at dv
 rcases dv with ⟨rfl, cC, ab⟩ | ⟨b, cap, cur, aT, fr, c6, bb, cn, c1, b6, bS, kf, hR, ld, rN, ej, e2⟩
 ·simp at ab; exact .inl ⟨rfl, _, ab⟩
 ·simp at bb
  exact .inr ⟨b, cap, cur, aT, fr, bb, c1, b6, bS, kf, hR, ld, c6, rN, fun c aj => cj _ (ej c aj), cj _ cn⟩
theorem Aj (h : bB w0 F0 X F S s au w) {v : Value} {y : Nat} {q : List Nat} (aG : aF w F s au (.h y q) v (fun _ => False)) {d : j} (af : j.sub q (s y) = some (.bD d)) :
  ∃ b cur e fr, v = .pointer (some ⟨b, 0, none⟩) ∧ w.heap[b]? = some (.cells cur e fr) := by
 rw [aF] at aG
 obtain ⟨cv, a, aV, bo, b8⟩ := aG _ af rfl
 have U : Value.fz v = true := b8
 rw [g_ U] at bo; subst bo
 have ai := h.c7 y
 rw [aF.cr (gX af (.inl rfl))] at ai
 obtain ⟨eS, cf, dH, fB, k0, b9, cj, d_, dv, e1⟩ := ctx q (s y) (ch (au y)) (S y) none _ ai.2 af
 rw [k0] at aV
 simp only [Option.some.injEq, Prod.mk.injEq, true_and] at aV
 obtain ⟨rfl, rfl⟩ := aV
 rw [aq] at dv
 obtain ⟨b, cur, aT, fr, c6, bb, cn, c1, _⟩ := dv
 simp at bb
 exact ⟨b, cur, aT, fr, bb, c1⟩
theorem Ak {P : Program} {T e : TypeId} (aP : P.underlying T = some (.slice e)) (w : World) : ∀ d, (Op.equalIn (d + 1) T (.slice none 0 0) (.slice none 0 0)).run P w = .ok true w ∧
  ∀ a n c, (Op.equalIn (d + 1) T (.slice (some a) n c) (.slice none 0 0)).run P w = .ok false w := by
 intro d
 refine ⟨by simp [Op.equalIn, run_underlying aP], fun a n c => by simp [Op.equalIn, run_underlying aP]⟩
theorem Al {P : Program} {T e : TypeId} (aP : P.underlying T = some (.pointer e)) (w : World) : ∀ d, (Op.equalIn (d + 1) T (.pointer none) (.pointer none)).run P w = .ok true w ∧
  ∀ a, (Op.equalIn (d + 1) T (.pointer (some a)) (.pointer none)).run P w = .ok false w := by
 intro d
 refine ⟨by simp [Op.equalIn, run_underlying aP], fun a => by simp [Op.equalIn, run_underlying aP]⟩
theorem Am {P : Program} {T : TypeId} (aP : P.underlying T = some .bool) (w : World) : ∀ d a b, (Op.equalIn (d + 1) T (.bool a) (.bool b)).run P w = .ok (a == b) w := by
 intro d a b
 simp [Op.equalIn, run_underlying aP]
theorem An (h : bB w0 F0 X F S s au w) {x : j} {v : Value} (aG : aF w F s au x v (fun _ => False)) {T e : TypeId} {r : Option Bool} (aO : jd s x = some r) (aP : C.P.underlying T = some (.slice e)) :
  ∃ b, (Op.equal T v (.slice none 0 0)).run C.P w = .ok b w ∧ (∀ ew, r = some ew → ew = b) ∧ Value.fz v = true ∧ ∃ a n c, v = .slice a n c := by
 have aJ := fun a n c => (Ak aP w 9999).2 a n c
 have fE := (Ak aP w 9999).1
 cases x with
 | a_ =>
   have := m2 aG; subst this
   simp [jd] at aO; subst aO
   exact ⟨true, fE, by simp, rfl, _, _, _, rfl⟩
 | slice xs =>
   have bq := (aF.cr rfl).1 aG
   rw [aq, g_ bq.1] at bq
   simp only [jd, Option.some.injEq] at aO
   obtain ⟨_, ⟨rfl, a, c, ab, _, oB⟩ | ⟨b, o, cap, dr, sz, ab, aE⟩⟩ := bq
   ·simp at ab aO; subst ab; subst aO
    cases a with
    | none =>
      have := oB rfl; subst this
      exact ⟨true, fE, by simp, rfl, _, _, _, rfl⟩
    | some a => exact ⟨false, aJ _ _ _, by simp, rfl, _, _, _, rfl⟩
   ·simp at ab; subst ab
    refine ⟨false, aJ _ _ _, ?_, rfl, _, _, _, rfl⟩
    subst aO
    split <;> simp
 | h y q =>
   simp only [jd] at aO
   split at aO
   ·rename_i sz xs af
    simp only [Option.some.injEq] at aO
    rcases xe h aG af with ⟨rfl, a, rfl⟩ | ⟨b, cap, cur, aT, fr, rfl, _⟩
    ·simp at aO; subst aO
     cases a with
     | none => exact ⟨true, fE, by simp, rfl, _, _, _, rfl⟩
     | some a => exact ⟨false, aJ _ _ _, by simp, rfl, _, _, _, rfl⟩
    ·refine ⟨false, aJ _ _ _, ?_, rfl, _, _, _, rfl⟩
     subst aO
     split <;> simp
   ·cases aO
 | _ => simp [jd] at aO
theorem Ao (h : bB w0 F0 X F S s au w) {x : j} {v : Value} (aG : aF w F s au x v (fun _ => False)) {T e : TypeId} {r : Bool} (aO : je s x = some r) (aP : C.P.underlying T = some (.pointer e)) :
  (Op.equal T v (.pointer none)).run C.P w = .ok r w ∧ ∃ a, v = .pointer a := by
 have aJ := fun a => (Al aP w 9999).2 a
 have fE := (Al aP w 9999).1
 cases x with
 | cW =>
   have := Ah aG; subst this
   simp [je] at aO; subst aO
   exact ⟨fE, _, rfl⟩
 | ref d =>
   have bq := (aF.cr rfl).1 aG
   rw [aq, g_ bq.1] at bq
   simp [je] at aO; subst aO
   obtain ⟨_, b, o, dr, ab, _⟩ := bq
   simp at ab; subst ab
   exact ⟨aJ _, _, rfl⟩
 | h y q =>
   simp only [je] at aO
   split at aO
   ·rename_i d af
    simp only [Option.some.injEq] at aO; subst aO
    obtain ⟨b, cur, e, fr, rfl, _⟩ := Aj h aG af
    exact ⟨aJ _, _, rfl⟩
   ·cases aO
 | _ => simp [je] at aO
theorem GJ (bm : C.Ok) (h : bB w0 F0 X F S s au w) {op : BinOp} {T : TypeId} {x y : j} {iv hQ : Value} (GK GL : Operand) (ai : aF w F s au x iv (fun _ => False)) (bC : aF w F s au y hQ (fun _ => False))
  (he : aK C s op T x y = some av) : Good C w0 F0 X au w (do eqGuard op T GK GL iv hQ; binOp op T iv hQ) av s := by
 unfold aK at he
 split at he
 ·have := m1 ai; subst this
  have := m1 bC; subst this
  obtain ⟨v, aa, ab⟩ := GG (P := C.P) (T := T) he w
  refine Good.same h (v := v) ?_ ?_ ab
  ·rw [eqGuard_at_int]; exact aa
  ·revert he; unfold hc; cases op <;> simp only <;> split <;> simp <;> (rintro rfl; rfl)
 ·have := mu ai; subst this
  have := mu bC; subst this
  obtain ⟨v, aa, ab⟩ := GI (P := C.P) (T := T) he w
  refine Good.same h (v := v) ?_ ?_ ab
  ·rw [eqGuard_at_string]; exact aa
  ·revert he; unfold kD; cases op <;> simp only <;> (try split) <;> simp <;> (try (rintro rfl; rfl))
 ·have := oA ai; subst this
  have := oA bC; subst this
  split at he
  ·rename_i aw
   simp only [Option.some.injEq] at he; subst he
   obtain ⟨i, d, z, aJ, aT, bb, cn, c1, b6, bS⟩ := bm.info (fs aw (by simp))
   rw [aw] at bS
   have := z_ bS; subst this
   refine Good.same h ?_ rfl (of_bool _)
   rw [eqGuard_at_bool]
   simp [binOp, Op.equal, Op.maxDepth, Am b6 w 9999]
  ·rename_i aw
   simp only [Option.some.injEq] at he; subst he
   obtain ⟨i, d, z, aJ, aT, bb, cn, c1, b6, bS⟩ := bm.info (fs aw (by simp))
   rw [aw] at bS
   have := z_ bS; subst this
   refine Good.same h ?_ rfl (of_bool _)
   rw [eqGuard_at_bool]
   simp [binOp, Op.equal, Op.maxDepth, Am b6 w 9999]
  ·cases he
 ·have := m2 bC; subst this
  split at he
  ·rename_i e aw
   simp only [Option.map_eq_some_iff] at he
   obtain ⟨r, aO, rfl⟩ := he
   obtain ⟨i, d, z, aJ, aT, bb, cn, c1, b6, bS⟩ := bm.info (fs aw (by simp))
   rw [aw] at bS
   have := jc bS; subst this
   obtain ⟨b, aa, ab, aE, a0, cN, lS, rfl⟩ := An h ai aO b6
   refine Good.same h (v := .bool b) ?_ ?_ ?_
   ·rw [eqGuard_at_slice]
    simp [binOp, aa]
   ·cases r <;> rfl
   ·cases r with
    | none => exact xc b
    | some ew => have := ab ew rfl; subst this; simp only [rM, Bool.bne_false]; exact of_bool _
  ·rename_i e aw
   simp only [Option.map_eq_some_iff] at he
   obtain ⟨r, aO, rfl⟩ := he
   obtain ⟨i, d, z, aJ, aT, bb, cn, c1, b6, bS⟩ := bm.info (fs aw (by simp))
   rw [aw] at bS
   have := jc bS; subst this
   obtain ⟨b, aa, ab, aE, a0, cN, lS, rfl⟩ := An h ai aO b6
   refine Good.same h (v := .bool !b) ?_ ?_ ?_
   ·rw [eqGuard_at_slice]
    simp [binOp, aa]
   ·cases r <;> rfl
   ·cases r with
    | none => exact xc _
    | some ew => have := ab ew rfl; subst this; simp only [rM, Bool.bne_true]; exact of_bool _
  ·cases he
 ·have := Ah bC; subst this
  split at he
  ·rename_i e aw
   simp only [Option.map_eq_some_iff] at he
   obtain ⟨r, aO, rfl⟩ := he
   obtain ⟨i, d, z, aJ, aT, bb, cn, c1, b6, bS⟩ := bm.info (fs aw (by simp))
   rw [aw] at bS
   have := Aa bS; subst this
   obtain ⟨aa, a0, rfl⟩ := Ao h ai aO b6
   refine Good.same h (v := .bool r) ?_ rfl (of_bool _)
   rw [eqGuard_at_pointer]
   simp [binOp, aa]
  ·rename_i e aw
   simp only [Option.map_eq_some_iff] at he
   obtain ⟨r, aO, rfl⟩ := he
   obtain ⟨i, d, z, aJ, aT, bb, cn, c1, b6, bS⟩ := bm.info (fs aw (by simp))
   rw [aw] at bS
   have := Aa bS; subst this
   obtain ⟨aa, a0, rfl⟩ := Ao h ai aO b6
   refine Good.same h (v := .bool !r) ?_ rfl (of_bool _)
   rw [eqGuard_at_pointer]
   simp [binOp, aa]
  ·cases he
 ·cases he
end
section
variable {C : bN} {w0 w : World} {F0 X F : Nat → Prop} {S : Nat → Nat → Prop} {s s1 : ag} {au : Nat → Value} {av : j}
def un (op : UnOp) (x : j) : Option j :=
 match op, x with
 | .not, .bool b => some (.bool !b)
 | .not, .dO => some .dO
 | .neg, .int k n => some (.int k (k.wrap (0 - n)))
 | _, _ => none
theorem GM (h : bB w0 F0 X F S s au w) {op : UnOp} {x : j} {v : Value} (aG : aF w F s au x v (fun _ => False)) (he : un op x = some av) : Good C w0 F0 X au w (Op.unary op v) av s := by
 unfold un at he
 split at he <;> first | (cases he; done) | (simp only [Option.some.injEq] at he; subst he)
 ·have := oA aG; subst this
  exact Good.same h rfl rfl (of_bool _)
 ·obtain ⟨b, rfl⟩ := Ai aG
  exact Good.same h rfl rfl (xc _)
 ·have := m1 aG; subst this
  exact Good.same h rfl rfl (of_int _ _)
def dw (s : ag) (x : j) : Option j :=
 match x with
 | .ref d => some (.ref d)
 | .fn f c => some (.fn f c)
 | .h y q => match j.sub q (s y) with
   | some (.bD _) => some (.h y q)
   | _ => none
 | _ => none
theorem GN {d : j} {v : Value} {aH : Nat → Prop} (h : aF w F s au (.ref d) v aH) : ∃ b o dr, v = .pointer (some ⟨b, o, none⟩) ∧ F b ∧ Rd w b o dr ∧ aq w F d dr (fun _ => False) := by
 have bq := (aF.cr rfl).1 h
 rw [aq, g_ bq.1] at bq
 obtain ⟨_, b, o, dr, aa, ab, aE, aZ⟩ := bq
 simp at aa; subst aa
 exact ⟨b, o, dr, rfl, ab, aE, aZ⟩
theorem GO (h : bB w0 F0 X F S s au w) {x : j} {v : Value} (aG : aF w F s au x v (fun _ => False)) (he : dw s x = some av) :
  av = x ∧ x.plain = true ∧ ((∃ a, v = .pointer (some a)) ∨ ∃ f c, v = .func (.func f) #[] c) := by
 unfold dw at he
 split at he
 ·simp only [Option.some.injEq] at he; subst he
  obtain ⟨b, o, dr, rfl, _⟩ := GN aG
  exact ⟨rfl, rfl, .inl ⟨_, rfl⟩⟩
 ·simp only [Option.some.injEq] at he; subst he
  rw [aF] at aG
  obtain ⟨arr, rfl, _⟩ := aG
  exact ⟨rfl, rfl, .inr ⟨_, _, rfl⟩⟩
 ·split at he
  ·rename_i d af
   simp only [Option.some.injEq] at he; subst he
   obtain ⟨b, cur, e, fr, rfl, _⟩ := Aj h aG af
   exact ⟨rfl, rfl, .inl ⟨_, rfl⟩⟩
  ·cases he
 ·cases he
def ex (s : ag) (x : j) (k : Nat) : Option j :=
 match x with
 | .tuple ds => match ds[k]? with
   | some d => if d.plain = true then some d else none
   | none => none
 | .h y q => match j.sub q (s y) with
   | some (.tuple ds) => match ds[k]? with
     | some d => if j.dz ds = true then none else some (if d.plain then d else .h y (q ++ [k]))
     | none => none
   | _ => none
 | _ => none
theorem Ap : ∀ (vs : List Value) (k : Nat) (x : Value) (ds : List j), vs[k]? = some x → vs.length = ds.length → (∀ (ar : Nat) (d : j) (y : Value), ds[ar]? = some d → vs[ar]? = some y → (gx y).length = d.wd) →
  ∃ l r, vs.flatMap gx = l ++ (gx x ++ r) ∧ l.length = j.dm (ds.take k)
 | [], k, x, ds, h, _, _ => by simp at h
 | v :: vs, 0, x, ds, h, hl, hw => by
   simp at h; subst h
   exact ⟨[], vs.flatMap gx, by simp, by simp [j.dm]⟩
 | v :: vs, k + 1, x, d :: ds, h, hl, hw => by
   obtain ⟨l, r, aJ, aT⟩ := Ap vs k x ds (by simpa using h) (by simpa using hl) (fun ar d y aa ab => hw (ar + 1) d y (by simpa using aa) (by simpa using ab))
   refine ⟨gx v ++ l, r, by simp [aJ], ?_⟩
   have := hw 0 d v (by simp) (by simp)
   simp [j.dm, aT, this]
 | v :: vs, k + 1, x, [], h, hl, hw => by simp at hl
theorem GP {d : j} {v : Value} (h : gW d v) (_hd : ∀ vs, d ≠ .tuple vs) : ch v = gx v := by
 cases d with
 | agg al => obtain ⟨arr, rfl⟩ := h; rfl
 | _ =>
   have aa : Value.fz v = true := h
   cases v <;> first | rfl | (simp [Value.fz] at aa)
theorem GQ {d : j} {v : Value} (h : gW d v) (af : ∀ vs, d ≠ .tuple vs) : dt d v := by
 cases d with
 | tuple vs => exact (af _ rfl).elim
 | _ => exact h
theorem GR (h : bB w0 F0 X F S s au w) {x : j} {v : Value} {k : Nat} (aG : aF w F s au x v (fun _ => False)) (he : ex s x k = some av) : Good C w0 F0 X au w (Instr.extract v k) av s := by
 have pick : ∀ (ds : List j) (d : j) (arr : Array Value), ds[k]? = some d → (arr.size = ds.length ∧ ∀ (k : Nat) (d : j) (x : Value), ds[k]? = some d → arr[k]? = some x → gW d x ∧ (∀ vs, d ≠ .tuple vs) ∧ (gx x).length = d.wd) →
   ∃ x, arr[k]? = some x ∧ dt d x ∧ ((ch (.tuple arr)).drop (j.dm (ds.take k))).take d.wd = ch x := by
  intro ds d arr af ⟨bw, k9⟩
  have dL : k < arr.size := by rw [bw]; exact (List.getElem?_eq_some_iff.1 af).1
  have ai : arr[k]? = some arr[k] := Array.getElem?_eq_getElem dL
  obtain ⟨aV, bo, b8⟩ := k9 k d _ af ai
  obtain ⟨l, r, aJ, aT⟩ := Ap arr.toList k arr[k] ds (by simp [dL]) (by simpa using bw) (fun ar d y aa ab => (k9 ar d y aa (by simpa using ab)).2.2)
  refine ⟨_, ai, GQ aV bo, ?_⟩
  rw [GP aV bo]
  simp only [ch]
  rw [aJ]
  exact pL l _ r _ _ aT b8
 unfold ex at he
 split at he
 ·rename_i ds
  split at he
  ·rename_i d af
   split at he
   ·rename_i ao
    simp only [Option.some.injEq] at he; subst he
    have bq := (aF.cr rfl).1 aG
    obtain ⟨⟨arr, rfl, bw⟩, gZ⟩ := bq
    obtain ⟨x, ai, U, aj⟩ := pick ds d arr af bw
    have aO : (Instr.extract (.tuple arr) k).run C.P w = .ok x w := by simp [Instr.extract, ai]
    rw [aq] at gZ
    obtain ⟨bT, eR, b4, bW, iE, e, gw, fI, ga, gV, fC, kb⟩ := aU.pick ds _ _ k d gZ af
    rw [e, pL bT eR b4 _ _ gw (aq.length _ _ _ fC)] at aj
    by_cases aP : d.tree = true
    ·exact Good.same h aO ao ((aF.cr aP).2 ⟨U, by rw [← aj]; exact aq.plain _ _ _ _ ao fC⟩)
    ·cases d <;> first | exact (aP rfl).elim | (rw [aq] at fC; exact fC.elim) | exact Good.same h aO rfl (by rw [aF]; trivial)
   ·cases he
  ·cases he
 ·rename_i y q
  split at he
  ·rename_i ds af
   split at he
   ·rename_i d aw
    split at he
    ·cases he
    ·rename_i gj
     simp only [Option.some.injEq] at he
     have gj : (j.tuple ds).plain = false := by simpa [j.plain] using gj
     rw [aF] at aG
     obtain ⟨cv, a, aV, bo, b8⟩ := aG _ af gj
     obtain ⟨arr, rfl, bw⟩ := b8
     obtain ⟨x, ai, U, aj⟩ := pick ds d arr aw bw
     have aO : (Instr.extract (.tuple arr) k).run C.P w = .ok x w := by simp [Instr.extract, ai]
     have bC := h.c7 y
     rw [aF.cr (gX af (.inl gj))] at bC
     obtain ⟨eS, cf, dH, fB, k0, b9, cj, d_, dv, e1⟩ := ctx q (s y) (ch (au y)) (S y) none _ bC.2 af
     rw [k0] at aV
     simp only [Option.some.injEq, Prod.mk.injEq, true_and] at aV
     obtain ⟨rfl, rfl⟩ := aV
     rw [bo] at aj
     split at he
     ·rename_i ao
      subst he
      rw [aq] at dv
      obtain ⟨bT, eR, b4, bW, iE, e, gw, fI, ga, gV, fC, kb⟩ := aU.pick ds _ _ k d dv aw
      rw [e, pL bT eR b4 _ _ gw (aq.length _ _ _ fC)] at aj
      by_cases aP : d.tree = true
      ·exact Good.same h aO ao ((aF.cr aP).2 ⟨U, by rw [← aj]; exact aq.plain _ _ _ _ ao fC⟩)
      ·cases d <;> first | exact (aP rfl).elim | (rw [aq] at fC; exact fC.elim) | exact Good.same h aO rfl (by rw [aF]; trivial)
     ·subst he
      refine Good.same h aO rfl ?_
      rw [aF]
      intro d2 hP z2
      rw [tM w q _ _ _ _ _ _ [k] k0]
      rw [tL _ _ _ _ af] at hP
      simp only [j.sub, aw, Option.some.injEq] at hP
      subst hP
      simp only [cJ, aw]
      exact ⟨_, _, rfl, aj.symm, U⟩
   ·cases he
  ·cases he
 ·cases he
end
section
variable {C : bN} {w0 w : World} {F0 X F : Nat → Prop} {S : Nat → Nat → Prop} {s s1 : ag} {au : Nat → Value} {av : j}
def idx (C : bN) (T : TypeId) (x i : j) : Option j :=
 match (C.T T).k, x, i with
 | .str, .str l, .int _ n => if 0 ≤ n then (match l[n.toNat]? with | some b => some (.int .u8 b.toNat) | none => none) else none
 | _, _, _ => none
theorem GS (l : List UInt8) (n : Nat) : (⟨⟨l⟩⟩ : ByteArray)[n]? = l[n]? := by
 by_cases h : n < l.length
 ·have bq : n < (⟨⟨l⟩⟩ : ByteArray).size := h
  rw [List.getElem?_eq_getElem h, getElem?_pos (⟨⟨l⟩⟩ : ByteArray) n bq]
  rfl
 ·have bq : ¬ n < (⟨⟨l⟩⟩ : ByteArray).size := h
  rw [List.getElem?_eq_none (by omega), getElem?_neg (⟨⟨l⟩⟩ : ByteArray) n bq]
theorem GU (bm : C.Ok) (h : bB w0 F0 X F S s au w) {T : TypeId} {x i : j} {v pS : Value} (aG : aF w F s au x v (fun _ => False)) (az : aF w F s au i pS (fun _ => False)) (he : idx C T x i = some av) :
  Good C w0 F0 X au w (Instr.index T v pS) av s := by
 unfold idx at he
 split at he
 ·rename_i l k n aw
  have := mu aG; subst this
  have := m1 az; subst this
  obtain ⟨i, d, z, aJ, aT, bb, cn, c1, b6, bS⟩ := bm.info (fs aw (by simp))
  rw [aw] at bS
  have := nx bS; subst this
  split at he
  ·rename_i bh
   split at he
   ·rename_i b J
    simp only [Option.some.injEq] at he; subst he
    refine Good.same h ?_ rfl (of_int _ _)
    simp [Instr.index, asIntOf, run_underlying b6, bh, GS, J]
   ·cases he
  ·cases he
 ·cases he
def lenOf (s : ag) : j → Option Nat
 | .str l => some l.length
 | .a_ => some 0
 | .slice xs => some xs.length
 | .h y q => match j.sub q (s y) with
   | some (.ay _ xs) => some xs.length
   | _ => none
 | _ => none
def jV (C : bN) (s : ag) (T : TypeId) (x : j) : Option j :=
 match (C.T T).k, x with
 | .str, .str l => some (.int .i64 l.length)
 | .slice _, .a_ => some (.int .i64 0)
 | .slice _, .slice xs => some (.int .i64 xs.length)
 | .slice _, .h y q => match j.sub q (s y) with
   | some (.ay _ xs) => some (.int .i64 xs.length)
   | _ => none
 | _, _ => none
theorem tV {xs : List j} {v : Value} {aH : Nat → Prop} (h : aF w F s au (.slice xs) v aH) : (xs = [] ∧ ∃ a c, v = .slice a 0 c ∧ c ≤ maxLen ∧ (a = none → c = 0)) ∨
  ∃ b o cap dr sz, v = .slice (some ⟨b, o, none⟩) xs.length cap ∧ F b ∧ xs.length ≤ cap ∧ cap ≤ maxLen ∧ (∀ d ∈ xs, d.wd = sz) ∧ Rd w b o dr ∧ aU w F xs dr (fun _ => False) := by
 have bq := (aF.cr rfl).1 h
 rw [aq, g_ bq.1] at bq
 obtain ⟨_, ⟨rfl, a, c, ab, aE⟩ | ⟨b, o, cap, dr, sz, ab, aE⟩⟩ := bq
 ·simp at ab; exact .inl ⟨rfl, a, c, ab, aE⟩
 ·simp at ab; exact .inr ⟨b, o, cap, dr, sz, ab, aE⟩
theorem GV (bm : C.Ok) (h : bB w0 F0 X F S s au w) {T ty : TypeId} {x : j} {v : Value} (aG : aF w F s au x v (fun _ => False)) (he : jV C s T x = some av) :
  Good C w0 F0 X au w (Builtin.len_ #[T] ty #[v]) av s := by
 unfold jV at he
 split at he
 ·rename_i l aw
  have := mu aG; subst this
  obtain ⟨i, d, z, aJ, aT, bb, cn, c1, b6, bS⟩ := bm.info (fs aw (by simp))
  rw [aw] at bS
  have := nx bS; subst this
  simp only [Option.some.injEq] at he; subst he
  refine Good.same h ?_ rfl (of_int _ _)
  simp [Builtin.len_, run_underlying b6, goInt]
  rfl
 ·rename_i e aw
  have := m2 aG; subst this
  obtain ⟨i, d, z, aJ, aT, bb, cn, c1, b6, bS⟩ := bm.info (fs aw (by simp))
  rw [aw] at bS
  have := jc bS; subst this
  simp only [Option.some.injEq] at he; subst he
  refine Good.same h ?_ rfl (of_int _ _)
  simp [Builtin.len_, run_underlying b6, goInt]
 ·rename_i e xs aw
  obtain ⟨i, d, z, aJ, aT, bb, cn, c1, b6, bS⟩ := bm.info (fs aw (by simp))
  rw [aw] at bS
  have := jc bS; subst this
  simp only [Option.some.injEq] at he; subst he
  refine Good.same h ?_ rfl (of_int _ _)
  rcases tV aG with ⟨rfl, a, c, rfl, _⟩ | ⟨b, o, cap, dr, sz, rfl, _⟩ <;> simp [Builtin.len_, run_underlying b6, goInt]
 ·rename_i e y q aw
  split at he
  ·rename_i sz xs af
   obtain ⟨i, d, z, aJ, aT, bb, cn, c1, b6, bS⟩ := bm.info (fs aw (by simp))
   rw [aw] at bS
   have := jc bS; subst this
   simp only [Option.some.injEq] at he; subst he
   refine Good.same h ?_ rfl (of_int _ _)
   rcases xe h aG af with ⟨rfl, _, rfl⟩ | ⟨b, cap, cur, aT, fr, rfl, _⟩ <;> simp [Builtin.len_, run_underlying b6, goInt]
  ·cases he
 ·cases he
def bytesOf : List j → Option (List UInt8)
 | [] => some []
 | .int .u8 n :: r => if 0 ≤ n ∧ n < 256 then (bytesOf r).map (UInt8.ofNat n.toNat :: ·) else none
 | _ => none
def iK (b : UInt8) : j := .int .u8 b.toNat
theorem GW (l : List UInt8) : bytesOf (l.map iK) = some l := by
 induction l with
 | nil => rfl
 | cons b l ih =>
   have J : b.toNat < 256 := b.toNat_lt
   simp only [List.map_cons, iK, bytesOf, Int.toNat_natCast]
   rw [if_pos (by omega), ih]
   simp
theorem xf : ∀ (xs : List j) (l : List UInt8) (cs : List Value) (aH : Nat → Prop), bytesOf xs = some l → aU w F xs cs aH → cs = l.map (fun b => .int .u8 (b.toNat : Int)) ∧ xs.length = l.length
 | [], l, cs, aH, h, aO => by simp [bytesOf] at h; subst h; rw [aU] at aO; subst aO; exact ⟨rfl, rfl⟩
 | x :: xs, l, cs, aH, h, aO => by
   unfold bytesOf at h
   split at h
   ·rename_i e; cases e
   ·rename_i n r e
    simp only [List.cons.injEq] at e
    obtain ⟨rfl, rfl⟩ := e
    split at h
    ·rename_i bh
     simp only [Option.map_eq_some_iff] at h
     obtain ⟨dA, aa, rfl⟩ := h
     rw [aU] at aO
     obtain ⟨bT, b4, bW, c6, rfl, ab, aE, _⟩ := aO
     obtain ⟨rfl, aZ⟩ := xf xs dA b4 c6 aa aE
     rw [aq] at ab; subst ab
     refine ⟨?_, by simp [aZ]⟩
     simp only [List.map_cons, List.cons_append, List.nil_append, List.cons.injEq, and_true, Value.int.injEq, true_and]
     simp only [UInt8.toNat_ofNat']
     omega
    ·cases h
   ·cases h
theorem bB.rO (h : bB w0 F0 X F S s au w) {aB : World} {sz cap : Nat} {xs : List j} {cur : Array Value} {e : TypeId} {fr : Nat × Nat} {Sn : Nat → Prop}
  (hw : aB.heap = w.heap.push (.cells cur e fr)) (aa : aB.os = w.os) (ab : aB.tape = w.tape) (aE : aB.output = w.output)
  (bL : lR fr cur.size) (hle : xs.length ≤ cap) (hm : cap ≤ maxLen) (dI : cur.size = cap * sz) (kc : ∀ d ∈ xs, d.wd = sz) (aG : aU w F xs (cur.toList.take (xs.length * sz)) Sn)
  (dL : ∀ b, Sn b → b < w.heap.size) (bg : ∀ b, Sn b → ¬ F b) (bE : ∀ u b, Sn b → ¬ S u b) (bp : ∀ b, Sn b → X b ∨ w0.heap.size ≤ b) :
  bB w0 F0 X F S s au aB ∧ jb w0 X F S s au aB (.ay sz xs) (.slice (some ⟨w.heap.size, 0, none⟩) xs.length cap) := by
 have hold : ∀ b, b < w.heap.size → aB.heap[b]? = w.heap[b]? := by
  intro b J
  rw [hw, Array.getElem?_push, if_neg (by omega)]
 have ZU : aB.heap.size = w.heap.size + 1 := by rw [hw]; simp
 refine ⟨h.grow hold (by omega) aa ab aE, .inr ⟨rfl, rfl, fun b => b = w.heap.size ∨ Sn b, ?_, ?_, ?_, ?_, ?_⟩⟩
 ·simp only [ch, gx]
  rw [aq]
  refine .inr ⟨w.heap.size, cap, cur, e, fr, Sn, rfl, .inl rfl, ?_, bL, hle, hm, dI, kc, ?_, fun c aj => .inr aj, fun aj => Nat.lt_irrefl _ (dL _ aj)⟩
  ·rw [hw]; simp
  ·exact aU.frame (fun b J => hold b (h.e0 b J)) _ _ _ (fun b J => hold b (dL b J)) aG
 ·rintro b (rfl | J)
  ·omega
  ·have := dL b J; omega
 ·rintro b (rfl | J) rL
  ·exact Nat.lt_irrefl _ (h.e0 _ rL)
  ·exact bg b J rL
 ·rintro u b (rfl | J) hu
  ·exact Nat.lt_irrefl _ (h.dP _ _ hu)
  ·exact bE u b J hu
 ·rintro b (rfl | J)
  ·exact .inr h.size
  ·exact bp b J
def ey (C : bN) (s : ag) (A B : TypeId) (x : j) : Option j :=
 if (C.T A).ok = true then
 match (C.T B).k, x with
 | .int k, .int _ n => some (.int k (k.wrap n))
 | .str, .str l => match (C.T A).k with
   | .str => some (.str l)
   | _ => none
 | .str, x => match (C.T A).k with
   | .slice e => match (C.T e).k with
     | .int .u8 => match x with
       | .a_ => some (.str [])
       | .slice xs => (bytesOf xs).map .str
       | .h y q => match j.sub q (s y) with
         | some (.ay 1 xs) => (bytesOf xs).map .str
         | _ => none
       | _ => none
     | _ => none
   | _ => none
 | .slice e, .str l => match (C.T A).k, (C.T e).k with
   | .str, .int .u8 => if l.length ≤ 9223372036854775807 then some (.ay 1 (l.map iK)) else none
   | _, _ => none
 | _, _ => none
 else none
theorem Aq (l : List UInt8) (aH : Nat → Prop) : aU w F (l.map iK) (l.map fun b => .int .u8 (b.toNat : Int)) aH := by
 induction l generalizing aH with
 | nil => simp only [List.map_nil]; rw [aU]
 | cons b l ih =>
   simp only [List.map_cons]
   rw [aU]
   exact ⟨[.int .u8 (b.toNat : Int)], _, fun _ => False, fun _ => False, rfl, by rw [iK, aq], ih _, fun _ h => h.elim, fun _ h => h.elim, fun _ h => h.elim⟩
theorem GX (bm : C.Ok) (h : bB w0 F0 X F S s au w) {A B : TypeId} {x : j} {v : Value} (aG : aF w F s au x v (fun _ => False)) (he : ey C s A B x = some av) :
  Good C w0 F0 X au w (convert A B v) av s := by
 unfold ey at he
 split at he
 ·rename_i hd
  obtain ⟨cp, ZV, ZW, ah, cC, a3, a4, a5, mv, mw⟩ := bm.info hd
  split at he
  ·rename_i k dh n aw
   have := m1 aG; subst this
   obtain ⟨i, d, z, aJ, aT, bb, cn, c1, b6, bS⟩ := bm.info (fs aw (by simp))
   rw [aw] at bS
   have := tN bS; subst this
   simp only [Option.some.injEq] at he; subst he
   refine Good.same h ?_ rfl (of_int _ _)
   simp [convert, run_underlying mv, run_underlying b6, Conv.intToInt]
  ·rename_i l aw
   have := mu aG; subst this
   obtain ⟨i, d, z, aJ, aT, bb, cn, c1, b6, bS⟩ := bm.info (fs aw (by simp))
   rw [aw] at bS
   have := nx bS; subst this
   split at he
   ·rename_i rP
    rw [rP] at mw
    have := nx mw; subst this
    simp only [Option.some.injEq] at he; subst he
    refine Good.same h ?_ rfl (lW _)
    simp [convert, run_underlying mv, run_underlying b6]
   ·cases he
  ·rename_i x aw _
   obtain ⟨i, d, z, aJ, aT, bb, cn, c1, b6, bS⟩ := bm.info (fs aw (by simp))
   rw [aw] at bS
   have := nx bS; subst this
   split at he
   ·rename_i e rP
    rw [rP] at mw
    have := jc mw; subst this
    split at he
    ·rename_i rQ
     obtain ⟨pQ, bj, nz, f1, f2, f3, f4, f5, f6, f7⟩ := bm.info (fs rQ (by simp))
     rw [rQ] at f7
     have := tN f7; subst this
     have fin : ∀ (l : List UInt8) (b o cap : Nat), Rd w b o (l.map fun b => .int .u8 (b.toNat : Int)) → (convert A B (.slice (some ⟨b, o, none⟩) l.length cap)).run C.P w = .ok (.string ⟨⟨l⟩⟩) w := by
      intro l b o cap h2
      refine run_convert_bytes_back w A B e ⟨b, o, none⟩ cap l mv f6 b6 (fun ar cc => ?_)
      rw [Addr.add_lit]
      exact h2 ar _ (by simp [cc])
     have nil : (convert A B (.slice none 0 0)).run C.P w = .ok (.string ⟨⟨[]⟩⟩) w := by
      simp [convert, run_underlying mv, run_underlying b6, run_underlying f6, Conv.bytesToString]
      rfl
     split at he
     ·have := m2 aG; subst this
      simp only [Option.some.injEq] at he; subst he
      exact Good.same h nil rfl (lW _)
     ·rename_i xs _
      simp only [Option.map_eq_some_iff] at he
      obtain ⟨l, hl, rfl⟩ := he
      rcases tV aG with ⟨rfl, a, c, rfl, _, oB⟩ | ⟨b, o, cap, dr, sz, rfl, aa, ab, aE, aZ, bG, b7⟩
      ·simp [bytesOf] at hl; subst hl
       cases a with
       | none =>
         have := oB rfl; subst this
         exact Good.same h nil rfl (lW _)
       | some a =>
         refine Good.same h ?_ rfl (lW _)
         exact run_convert_bytes_back w A B e a c [] mv f6 b6 (fun ar cc => by simp at cc)
      ·obtain ⟨rfl, b5⟩ := xf xs l dr _ hl b7
       rw [b5]
       exact Good.same h (fin l b o cap bG) rfl (lW _)
     ·rename_i y q
      split at he
      ·rename_i xs af
       simp only [Option.map_eq_some_iff] at he
       obtain ⟨l, hl, rfl⟩ := he
       rcases xe h aG af with ⟨rfl, a, rfl⟩ | ⟨b, cap, cur, aT, fr, rfl, aa, ab, aE, aZ, bG, b7, aH, b5, _⟩
       ·simp [bytesOf] at hl; subst hl
        cases a with
        | none => exact Good.same h nil rfl (lW _)
        | some a =>
          refine Good.same h ?_ rfl (lW _)
          exact run_convert_bytes_back w A B e a 0 [] mv f6 b6 (fun ar cc => by simp at cc)
       ·obtain ⟨dG, gJ⟩ := xf xs l _ _ hl b5
        rw [gJ]
        refine Good.same h (fin l b 0 cap ?_) rfl (lW _)
        rw [← dG]
        exact pK aa _
      ·cases he
     ·cases he
    ·cases he
   ·cases he
  ·rename_i e l aw
   have := mu aG; subst this
   obtain ⟨i, d, z, aJ, aT, bb, cn, c1, b6, bS⟩ := bm.info (fs aw (by simp))
   rw [aw] at bS
   have := jc bS; subst this
   split at he
   ·rename_i rP rQ
    rw [rP] at mw
    have := nx mw; subst this
    obtain ⟨pQ, bj, nz, f1, f2, f3, f4, f5, f6, f7⟩ := bm.info (fs rQ (by simp))
    rw [rQ] at f7
    have := tN f7; subst this
    split at he
    ·rename_i hl
     simp only [Option.some.injEq] at he; subst he
     have U : (⟨⟨l⟩⟩ : ByteArray).size = l.length := rfl
     have pT := grownCap_ge w l.length 0 e
     have GY := grownCap_le_maxLen w l.length 0 e (by unfold maxLen; omega)
     have Ar : (bytesRow ⟨⟨l⟩⟩ (grownCap w l.length 0 e)).toList = l.map (fun b => Value.int .u8 (b.toNat : Int)) ++ List.replicate (grownCap w l.length 0 e - l.length) (.int .u8 0) := by
      simp [bytesRow, U]
     have dI : (bytesRow ⟨⟨l⟩⟩ (grownCap w l.length 0 e)).size = grownCap w l.length 0 e * 1 := by
      have : (bytesRow ⟨⟨l⟩⟩ (grownCap w l.length 0 e)).size = (bytesRow ⟨⟨l⟩⟩ (grownCap w l.length 0 e)).toList.length := by simp
      rw [this, Ar]; simp; omega
     have oy := run_bytes_of_string w A B e ⟨⟨l⟩⟩ mv b6 f6
     rw [U] at oy
     have iV := h.rO (aB := w.drew.alloc (.cells (bytesRow ⟨⟨l⟩⟩ (grownCap w l.length 0 e)) e ((bytesRow ⟨⟨l⟩⟩ (grownCap w l.length 0 e)).size, (bytesRow ⟨⟨l⟩⟩ (grownCap w l.length 0 e)).size + 1)))
      (sz := 1) (cap := grownCap w l.length 0 e) (xs := l.map iK) (cur := bytesRow ⟨⟨l⟩⟩ (grownCap w l.length 0 e)) (e := e) (Sn := fun _ => False) rfl rfl rfl rfl
      (fun o bP ⟨aa, _⟩ => by simp only at aa; omega) (by simpa using pT) GY dI (by intro d af; obtain ⟨b, _, rfl⟩ := List.mem_map.1 af; rfl)
      (by rw [Ar, List.take_left' (by simp)]; exact Aq l _) (fun _ h => h.elim) (fun _ h => h.elim) (fun _ _ h => h.elim) (fun _ h => h.elim)
     simp only [List.length_map] at iV
     exact ⟨_, _, F, S, oy, iV.1, iV.2⟩
    ·cases he
   ·cases he
  ·cases he
 ·cases he
end
section
variable {C : bN} {w0 w : World} {F0 X F : Nat → Prop} {S : Nat → Nat → Prop} {s s1 : ag} {au : Nat → Value} {av : j}
def hG (d : Nat) : Option j → Option Nat
 | none => some d
 | some (.int _ n) => if 0 ≤ n then some n.toNat else none
 | some _ => none
def dx (C : bN) (s : ag) (T : TypeId) (x : j) (cy az : Option j) : Option (j × ag) :=
 match (C.T T).k, x with
 | .str, .str l => match hG 0 cy, hG l.length az with
   | some a, some b => if a ≤ b ∧ b ≤ l.length then some (.str ((l.take b).drop a), s) else none
   | _, _ => none
 | .slice e, .a_ => match hG 0 cy, hG 0 az with
   | some 0, some 0 => if (C.T e).ok = true then some (.a_, s) else none
   | _, _ => none
 | .slice e, .slice xs => match hG 0 cy, hG xs.length az with
   | some a, some b => if a ≤ b ∧ b ≤ xs.length ∧ (C.T e).ok = true ∧ (∀ d ∈ xs, d.wd = (C.T e).sz) then some (.slice ((xs.take b).drop a), s) else none
   | _, _ => none
 | .slice e, .h y q => match j.sub q (s y) with
   | some (.ay sz xs) => match hG 0 cy, hG xs.length az with
     | some 0, some b => if b ≤ xs.length ∧ (C.T e).ok = true then (match cd s (.h y q) with | some (_, s1) => some (.ay sz (xs.take b), s1) | none => none) else none
     | _, _ => none
   | _ => none
 | _, _ => none
def m3 (w : World) (F : Nat → Prop) (s : ag) (au : Nat → Value) : Option j → Option Value → Prop
 | none, none => True
 | some d, some v => aF w F s au d v (fun _ => False)
 | _, _ => False
theorem As {d : Nat} {o : Option j} {v : Option Value} (bP : m3 w F s au o v) {a : Nat} (h : hG d o = some a) : (o = none ∧ v = none ∧ a = d) ∨ ∃ k, v = some (.int k a) := by
 cases o with
 | none =>
   cases v with
   | none => simp [hG] at h; exact .inl ⟨rfl, rfl, h.symm⟩
   | some v => simp [m3] at bP
 | some x =>
   cases v with
   | none => simp [m3] at bP
   | some v =>
     simp only [m3] at bP
     cases x with
     | int k n =>
       have := m1 bP; subst this
       simp only [hG] at h
       split at h
       ·rename_i bh
        simp only [Option.some.injEq] at h; subst h
        obtain ⟨m, rfl⟩ := Int.eq_ofNat_of_zero_le bh
        exact .inr ⟨k, rfl⟩
       ·cases h
     | _ => simp [hG] at h
theorem pU {P : Program} {isS : Bool} {len cap a b : Nat} {cy az : Option j} {oC oD : Option Value} (lf : m3 w F s au cy oC) (lg : m3 w F s au az oD) (b1 : hG 0 cy = some a) (J : hG len az = some b) (iT : a ≤ b) (GZ : b ≤ cap) (_hlc : len ≤ cap) :
  (Instr.sliceBounds isS len cap oC oD none).run P w = .ok (a, b, cap) w := by
 rcases As lf b1 with ⟨_, rfl, rfl⟩ | ⟨k, rfl⟩ <;> rcases As lg J with ⟨_, rfl, rfl⟩ | ⟨dh, rfl⟩ <;>
  simp [Instr.sliceBounds, Instr.sliceBound, asIntOf, iT, GZ]
theorem pV (bm : C.Ok) {T : TypeId} (aw : (C.T T).flat = true) (v : Value) (cy az g8 : Option Value) (w : World) : (Instr.sliceAt T v cy az g8).run C.P w = (Instr.slice T v cy az g8).run C.P w := by
 obtain ⟨i, d, z, aJ, aT, bb, cn, c1, b6, bS⟩ := bm.info (Ac aw)
 have cZ : ∀ n e, d ≠ .array n e := by
  clear b6
  unfold fq.flat at aw
  generalize (C.T T).k = iJ at *
  cases iJ <;> cases d <;> simp [js] at bS aw ⊢
 cases d <;> first | exact (cZ _ _ rfl).elim | simp [Instr.sliceAt, run_underlying b6]
theorem pW {x : fq} {k : ke} (h : x.k = k) (aw : k ≠ .other) (U : ∀ al, k ≠ .struct al) : x.flat = true := by
 unfold fq.flat; rw [h]; cases k <;> first | rfl | exact (aw rfl).elim | exact (U _ rfl).elim
theorem aU.split : ∀ (n : Nat) (xs : List j) (cs : List Value) (aH : Nat → Prop), aU w F xs cs aH → ∃ bT b4 bW c6, cs = bT ++ b4 ∧ aU w F (xs.take n) bT bW ∧ aU w F (xs.drop n) b4 c6 ∧ (∀ b, bW b → aH b) ∧ (∀ b, c6 b → aH b) ∧ (∀ b, bW b → ¬ c6 b)
 | 0, xs, cs, aH, h => ⟨[], cs, fun _ => False, aH, rfl, by rw [List.take_zero, aU], h, fun _ h => h.elim, fun _ h => h, fun _ h => h.elim⟩
 | n + 1, [], cs, aH, h => by rw [aU] at h; subst h; exact ⟨[], [], fun _ => False, fun _ => False, rfl, by rw [List.take_nil, aU], by rw [List.drop_nil, aU], fun _ h => h.elim, fun _ h => h.elim, fun _ h => h.elim⟩
 | n + 1, x :: xs, cs, aH, h => by
   rw [aU] at h
   obtain ⟨bT, b4, fP, fg, rfl, aa, ab, aE, aZ, bG⟩ := h
   obtain ⟨d1, d2, bW, c6, rfl, aV, bo, b8, dn, eg⟩ := aU.split n xs b4 fg ab
   refine ⟨bT ++ d1, d2, fun b => fP b ∨ bW b, c6, by simp, ?_, bo, ?_, fun b J => aZ _ (dn _ J), ?_⟩
   ·rw [List.take_succ_cons, aU]
    exact ⟨bT, d1, fP, bW, rfl, aa, aV, fun _ h => .inl h, fun _ h => .inr h, fun b J aj => bG b J (b8 b aj)⟩
   ·rintro b (J | J)
    ·exact aE b J
    ·exact aZ b (b8 b J)
   ·rintro b (J | J) aj
    ·exact bG b J (dn b aj)
    ·exact eg b J aj
theorem G0 (bm : C.Ok) (h : bB w0 F0 X F S s au w) {T : TypeId} {x : j} {v : Value} {cy az : Option j} {oC oD : Option Value} (ai : x.plain = true) (aG : aF w F s au x v (fun _ => False)) (lf : m3 w F s au cy oC) (lg : m3 w F s au az oD)
  (he : dx C s T x cy az = some (av, s1)) : Good C w0 F0 X au w (Instr.sliceAt T v oC oD none) av s1 := by
 unfold dx at he
 split at he
 ·rename_i l aw
  have := mu aG; subst this
  obtain ⟨i, d, z, aJ, aT, bb, cn, c1, b6, bS⟩ := bm.info (fs aw (by simp))
  rw [aw] at bS
  have := nx bS; subst this
  split at he
  ·rename_i a b b1 J
   split at he
   ·rename_i iT
    simp only [Option.some.injEq, Prod.mk.injEq] at he
    obtain ⟨rfl, rfl⟩ := he
    refine Good.same h ?_ rfl (lW _)
    rw [pV bm (pW aw (by simp) (by simp))]
    have dI : (⟨⟨l⟩⟩ : ByteArray).size = l.length := rfl
    have lh := pU (P := C.P) (isS := false) (len := l.length) (cap := l.length) lf lg b1 J iT.1 iT.2 (Nat.le_refl _)
    have G1 : (⟨⟨l⟩⟩ : ByteArray).extract a b = ⟨⟨(l.take b).drop a⟩⟩ := by
     apply ByteArray.ext
     simp [ByteArray.data_extract, List.drop_take]
    simp [Instr.slice, run_underlying b6, dI, lh, G1]
   ·cases he
  ·cases he
 ·rename_i e aw
  have := m2 aG; subst this
  obtain ⟨i, d, z, aJ, aT, bb, cn, c1, b6, bS⟩ := bm.info (fs aw (by simp))
  rw [aw] at bS
  have := jc bS; subst this
  split at he
  ·rename_i b1 J
   split at he
   ·rename_i lX
    obtain ⟨pQ, bj, nz, f1, f2, f3, f4, f5, f6, f7⟩ := bm.info lX
    simp only [Option.some.injEq, Prod.mk.injEq] at he
    obtain ⟨rfl, rfl⟩ := he
    have lh := pU (P := C.P) (isS := true) (len := 0) (cap := 0) lf lg b1 J (Nat.le_refl _) (Nat.le_refl _) (Nat.le_refl _)
    refine Good.same h (v := .slice none 0 0) ?_ rfl aG
    rw [pV bm (pW aw (by simp) (by simp))]
    simp [Instr.slice, run_underlying b6, lh, iI f1, f2]
   ·cases he
  ·cases he
 ·rename_i e xs aw
  obtain ⟨i, d, z, aJ, aT, bb, cn, c1, b6, bS⟩ := bm.info (fs aw (by simp))
  rw [aw] at bS
  have := jc bS; subst this
  split at he
  ·rename_i a b b1 J
   split at he
   ·rename_i iT
    obtain ⟨G2, Au, lX, kc⟩ := iT
    obtain ⟨pQ, bj, nz, f1, f2, f3, f4, f5, f6, f7⟩ := bm.info lX
    simp only [Option.some.injEq, Prod.mk.injEq] at he
    obtain ⟨rfl, rfl⟩ := he
    rcases tV aG with ⟨rfl, pX, c, rfl, rR, oB⟩ | ⟨iW, o, cap, dr, sz, rfl, aa, ab, aE, aZ, bG, b7⟩
    ·have gd : b = 0 := by simpa using Au
     subst gd
     have G3 : a = 0 := by omega
     subst G3
     have lh := pU (P := C.P) (isS := true) (len := 0) (cap := c) lf lg b1 J (Nat.le_refl _) (Nat.zero_le _) (Nat.zero_le _)
     refine Good.same h (v := .slice pX 0 c) ?_ rfl ((aF.cr rfl).2 ⟨rfl, by rw [aq]; exact .inl ⟨rfl, pX, c, rfl, rR, oB⟩⟩)
     rw [pV bm (pW aw (by simp) (by simp))]
     cases pX with
     | none =>
       have := oB rfl; subst this
       simp [Instr.slice, run_underlying b6, lh, iI f1, f2]
     | some pX => simp [Instr.slice, run_underlying b6, lh, iI f1, f2, Addr.add]
    ·have lh := pU (P := C.P) (isS := true) (len := xs.length) (cap := cap) lf lg b1 J G2 (Nat.le_trans Au ab) ab
     obtain ⟨bT, b4, bW, c6, rfl, aV, bo, b8, dn, eg⟩ := aU.split b xs dr _ b7
     obtain ⟨d1, d2, ZX, Av, rfl, b9, cj, d_, dv, e1⟩ := aU.split a (xs.take b) bT _ aV
     have xg : d1.length = a * (C.T e).sz := by
      rw [aU.length _ _ _ b9, oj _ (fun d af => kc d (List.mem_of_mem_take (List.mem_of_mem_take af))), List.length_take, List.length_take]
      congr 1; omega
     have hlen : ((xs.take b).drop a).length = b - a := by simp; omega
     have h2 : Rd w iW (o + a * (C.T e).sz) d2 := by
      rw [← xg]
      have : Rd w iW o (d1 ++ (d2 ++ b4)) := by simpa using bG
      exact this.w8
     have tW : aU w F ((xs.take b).drop a) d2 (fun _ => False) := aU.mono (fun _ h => h) _ _ _ _ (fun b J => (b8 _ (dv _ J)).elim) cj
     have mem : ∀ d ∈ (xs.take b).drop a, d.wd = sz := fun d af => aZ d (List.mem_of_mem_take (List.mem_of_mem_drop af))
     have run : (Instr.sliceAt T (.slice (some ⟨iW, o, none⟩) xs.length cap) oC oD none).run C.P w = .ok (.slice (if cap = a then some ⟨iW, o, none⟩ else some ⟨iW, o + a * (C.T e).sz, none⟩) (b - a) (cap - a)) w := by
      rw [pV bm (pW aw (by simp) (by simp))]
      simp [Instr.slice, run_underlying b6, lh, iI f1, f2, Addr.add_lit]
     refine ⟨_, w, F, S, run, h, .inl ⟨rfl, (aF.cr rfl).2 ⟨rfl, ?_⟩⟩⟩
     simp only [ch, gx]
     rw [aq]
     by_cases Aw : cap = a
     ·have G4 : b = a := by omega
      subst G4
      have rS : (xs.take b).drop b = [] := by simp
      rw [if_pos Aw]
      rw [rS] at tW ⊢
      rw [aU] at tW
      subst tW
      exact .inr ⟨iW, o, cap - b, [], sz, by simp, aa, Nat.zero_le _, by omega, by simp, fun ar c cc => by simp at cc, by rw [aU]⟩
     ·rw [if_neg Aw]
      exact .inr ⟨iW, _, cap - a, d2, sz, by rw [hlen], aa, by rw [hlen]; omega, by omega, mem, h2, tW⟩
   ·cases he
  ·cases he
 ·rename_i e y q aw
  split at he
  ·rename_i sz xs af
   split at he
   ·rename_i b b1 J
    split at he
    ·rename_i tX
     split at he
     ·rename_i G5 s2 aP
      simp only [Option.some.injEq, Prod.mk.injEq] at he
      obtain ⟨rfl, rfl⟩ := he
      obtain ⟨i, d, z, aJ, aT, bb, cn, c1, b6, bS⟩ := bm.info (fs aw (by simp))
      rw [aw] at bS
      have := jc bS; subst this
      obtain ⟨pQ, bj, nz, f1, f2, f3, f4, f5, f6, f7⟩ := bm.info tX.2
      have G6 : G5 = .ay sz xs := by
       simp only [cd, af, j.plain] at aP
       simp at aP
       exact aP.1.symm
      subst G6
      obtain ⟨bW, fQ, aV, bo, Sn, b8, dn, eg, gA, ha, jv⟩ := nw h rfl aG aP
      rw [g_ bo, aq] at b8
      rcases b8 with ⟨rfl, a0, jf⟩ | ⟨iW, cap, cur, fE, fr, aH, jf, b9, cj, d_, dv, e1, dY, iw, ek, jW, nB⟩
      ·simp at jf; subst jf
       have gd : b = 0 := by simpa using tX.1
       subst gd
       have lh := pU (P := C.P) (isS := true) (len := 0) (cap := 0) lf lg b1 J (Nat.le_refl _) (Nat.le_refl _) (Nat.le_refl _)
       refine ⟨.slice a0 0 0, w, F, bW, ?_, fQ, .inr ⟨rfl, rfl, fun _ => False, by simp only [ch, gx]; rw [aq]; exact .inl ⟨rfl, _, rfl⟩, fun _ h => h.elim, fun _ h => h.elim, fun _ _ h => h.elim, fun _ h => h.elim⟩⟩
       rw [pV bm (pW aw (by simp) (by simp))]
       cases a0 <;> simp [Instr.slice, run_underlying b6, lh, iI f1, f2]
      ·simp at jf; subst jf
       have lh := pU (P := C.P) (isS := true) (len := xs.length) (cap := cap) lf lg b1 J (Nat.zero_le _) (Nat.le_trans tX.1 dv) dv
       have hlen : (xs.take b).length = b := by simp; omega
       have run : (Instr.sliceAt T (.slice (some ⟨iW, 0, none⟩) xs.length cap) oC oD none).run C.P w = .ok (.slice (some ⟨iW, 0, none⟩) b cap) w := by
        rw [pV bm (pW aw (by simp) (by simp))]
        simp [Instr.slice, run_underlying b6, lh, iI f1, f2, Addr.add_lit]
       refine ⟨_, w, F, bW, run, fQ, .inr ⟨rfl, rfl, Sn, ?_, dn, eg, gA, ha⟩⟩
       simp only [ch, gx]
       rw [aq]
       obtain ⟨bT, b4, fP, fg, aj, en, fl, hb, kC, lb⟩ := aU.split b xs _ _ ek
       refine .inr ⟨iW, cap, cur, fE, fr, aH, by rw [hlen], b9, cj, d_, by omega, e1, dY, fun d af => iw d (List.mem_of_mem_take af), ?_, jW, nB⟩
       have xg : bT.length = b * sz := by
        rw [aU.length _ _ _ en, oj _ (fun d af => iw d (List.mem_of_mem_take af)), hlen]
       have : cur.toList.take ((xs.take b).length * sz) = bT := by
        rw [hlen]
        have ab : b * sz ≤ xs.length * sz := Nat.mul_le_mul_right _ tX.1
        have : (cur.toList.take (xs.length * sz)).take (b * sz) = bT := by rw [aj, List.take_left' xg]
        rwa [List.take_take, Nat.min_eq_left ab] at this
       rw [this]
       exact aU.mono (fun _ h => h) _ _ _ _ hb en
     ·cases he
    ·cases he
   ·cases he
  ·cases he
 ·cases he
end
section
variable {C : bN} {w0 w : World} {F0 X F : Nat → Prop} {S : Nat → Nat → Prop} {s s1 : ag} {au : Nat → Value} {av : j}
def Src (P : Program) (w : World) (size : Nat) (x : Value) (m : Nat) (news : List Value) : Prop :=
 ∀ aB : World, aB.heap = w.heap → (Builtin.lenOf x).run P aB = .ok m aB ∧ (Builtin.firstCells size m x).run P aB = .ok news.toArray aB
def xh (d : TypeDesc) : Prop := (∃ e, d = .slice e) ∨ d = .string
theorem G7 {P : Program} {T bn ty e : TypeId} {m4 : TypeDesc} {i : TypeInfo} (aP : P.underlying T = some (.slice e)) (hu : P.underlying bn = some m4) (oE : xh m4) (az : P.info? e = some i)
  {x : Value} {m : Nat} {news : List Value} (tY : Src P w i.size x m news) {b n cap : Nat} {cur : Array Value} {fE : TypeId} {fr : Nat × Nat} {l mid r : List Value} (J : w.heap[b]? = some (.cells cur fE fr)) (bL : lR fr cur.size)
  (aj : cur.toList = l ++ (mid ++ r)) (hl : l.length = n * i.size) (hm : mid.length = news.length) (tS : ∀ v ∈ news, Value.fz v = true) (mx : n + m ≤ cap) :
  ∃ aB, (Builtin.append_ #[T, bn] ty #[.slice (some ⟨b, 0, none⟩) n cap, x]).run P w = .ok (.slice (some ⟨b, 0, none⟩) (n + m) cap) aB ∧ aB.heap[b]? = some (.cells (l ++ (news ++ r)).toArray fE fr) ∧
    (∀ c, c ≠ b → aB.heap[c]? = w.heap[c]?) ∧ aB.heap.size = w.heap.size ∧ aB.os = w.os ∧ aB.tape = w.tape ∧ aB.output = w.output := by
 obtain ⟨aB, en, fl⟩ := xa (P := P) (b := b) (o := n * i.size) (e := fE) (fr := fr) news 0 cur w l mid r J bL aj (by omega) hm tS
 refine ⟨aB, ?_, fl⟩
 obtain ⟨aa, ab⟩ := tY w rfl
 rcases oE with ⟨eC, rfl⟩ | rfl <;> simp [Builtin.append_, run_underlying aP, run_underlying hu, iI az, aa, ab, mx, Addr.add_lit, en]
theorem G8 {P : Program} {T bn ty e : TypeId} {m4 : TypeDesc} {i : TypeInfo} {z : Value} (aP : P.underlying T = some (.slice e)) (hu : P.underlying bn = some m4) (oE : xh m4) (az : P.info? e = some i) (bw : i.zero = some z)
  {x : Value} {m : Nat} {news : List Value} (tY : Src P w i.size x m news) {base : Option Addr} {n cap : Nat} {lY : List Value} (hold : Src P w i.size (.slice base n cap) n lY) (mx : ¬ n + m ≤ cap)
  (bh : n + m ≤ 9223372036854775807) (xi : (n + m) * i.bytes ≤ 140737488355328) :
  (Builtin.append_ #[T, bn] ty #[.slice base n cap, x]).run P w = .ok (.slice (some ⟨w.heap.size, 0, none⟩) (n + m) (grownCap w (n + m) cap e))
   (w.drew.alloc (.cells (lY.toArray ++ news.toArray ++ Builtin.zeroCells z.cells (grownCap w (n + m) cap e - (n + m))) e)) := by
 have aa := (tY w rfl).1
 have ab := (tY w.drew rfl).2
 have aE := (hold w.drew rfl).2
 have Ax := growslice_fits (need := n + m) (old := cap) (by omega) xi
 have iu : ¬ (281474976710656 < Builtin.nextslicecap (n + m) cap * i.bytes) := by omega
 have pY : ∀ k (w : World), (askRoom k).run P w = .ok () w := by
  intro k w
  unfold askRoom
  split <;> rfl
 have xj : ¬ (9223372036854775807 < (n : Int) + (m : Int) ∧ i.bytes = 0) := by omega
 rcases oE with ⟨eC, rfl⟩ | rfl <;>
  ·simp [Builtin.append_, run_underlying aP, run_underlying hu, iI az, ou az, aa, mx, iu, Question.forced, pY]
   rw [if_neg xj, aE]
   simp [ab, rH az bw, newRow, grownCap]
   have aJ : (lY ++ news).toArray = lY.toArray ++ news.toArray := by simp
   rw [aJ, Array.append_assoc]
def tZ (C : bN) (e bn : TypeId) : Bool := match (C.T bn).k, (C.T e).k with
 | .slice eC, _ => eC == e
 | .str, .int .u8 => true
 | _, _ => false
def jX (C : bN) (s : ag) (T bn : TypeId) (x y : j) : Option (j × ag) :=
 match (C.T T).k with
 | .slice e => if (C.T e).ok = true ∧ (C.T e).zero.wd = (C.T e).sz ∧ (flat (C.T e).zero).isSome = true ∧ tZ C e bn = true then
   match (match x with | .a_ => some (j.ay (C.T e).sz [], s) | .h a q => cd s (.h a q) | _ => none) with
   | some (.ay sz xs, s1) => if sz = (C.T e).sz then
     match (match iU x.owner y with
      | .a_ => some ([], s1)
      | .slice bM => some (bM, s1)
      | .str l => some (l.map iK, s1)
      | .h a q => match cd s1 (.h a q) with
        | some (.ay _ bM, s2) => some (bM, s2)
        | _ => none
      | _ => none) with
     | some (bM, s2) => if (∀ d ∈ bM, d.wd = (C.T e).sz) ∧ (xs.length + bM.length) * (C.T e).bytes ≤ 140737488355328 ∧ xs.length + bM.length ≤ 9223372036854775807 then some (.ay sz (xs ++ bM), s2) else none
     | none => none
     else none
   | _ => none
   else none
 | _ => none
theorem aU.append {xs bM : List j} {bT b4 : List Value} {bW c6 aH : Nat → Prop} (aa : aU w F xs bT bW) (ab : aU w F bM b4 c6) (aJ : ∀ b, bW b → aH b) (aT : ∀ b, c6 b → aH b) (bb : ∀ b, bW b → ¬ c6 b) : aU w F (xs ++ bM) (bT ++ b4) aH := by
 induction xs generalizing bT bW aH with
 | nil => rw [aU] at aa; subst aa; exact aU.mono (fun _ h => h) _ _ _ _ aT ab
 | cons x xs ih =>
   rw [aU] at aa
   obtain ⟨G9, G_, fP, fg, rfl, aV, bo, b8, dn, eg⟩ := aa
   rw [List.cons_append, aU]
   refine ⟨G9, G_ ++ b4, fP, fun b => fg b ∨ c6 b, by simp, aV, ih bo (fun b h => .inl h) (fun b h => .inr h) (fun b h => bb b (dn b h)), fun b h => aJ b (b8 b h), ?_, ?_⟩
   ·rintro b (h | h)
    ·exact aJ b (dn b h)
    ·exact aT b h
   ·rintro b h (bq | bq)
    ·exact eg b h bq
    ·exact bb b (b8 b h) bq
theorem xk {P : Program} {size m cap : Nat} {b o : Nat} {news : List Value} (h2 : Rd w b o news) (hl : news.length = m * size) : Src P w size (.slice (some ⟨b, o, none⟩) m cap) m news := by
 intro aB hw
 refine ⟨rfl, ?_⟩
 refine run_firstCells_some aB size m ⟨b, o, none⟩ m cap news hl (fun ar v cc => ?_)
 rw [Addr.add_lit]
 have := h2 ar v cc
 simpa [World.cell?, hw] using this
theorem Ay {P : Program} {size cap : Nat} : Src P w size (.slice none 0 cap) 0 [] := by
 intro aB _
 exact ⟨rfl, by simp [Builtin.firstCells]⟩
theorem xl {P : Program} {size cap : Nat} (a : Option Addr) : Src P w size (.slice a 0 cap) 0 [] := by
 cases a with
 | none => exact Ay
 | some a =>
   intro aB _
   exact ⟨rfl, run_firstCells_some aB size 0 a 0 cap [] (by simp) (fun ar v cc => by simp at cc)⟩
theorem Ha {P : Program} (l : List UInt8) : Src P w 1 (.string ⟨⟨l⟩⟩) l.length (l.map fun b => .int .u8 (b.toNat : Int)) := by
 intro aB _
 refine ⟨rfl, ?_⟩
 have : (⟨⟨l⟩⟩ : ByteArray).extract 0 l.length = ⟨⟨l⟩⟩ := by
  apply ByteArray.ext
  simp [ByteArray.data_extract]
 simp [Builtin.firstCells, this]
theorem aU.oF {sz : Nat} {xs : List j} {cs : List Value} {aH : Nat → Prop} (h : aU w F xs cs aH) (hw : ∀ d ∈ xs, d.wd = sz) : cs.length = xs.length * sz := by
 rw [aU.length _ _ _ h, oj _ hw]
theorem bB.turn (h : bB w0 F0 X F S s au w) {aB : World} {b : Nat} (J : ∀ c, c ≠ b → aB.heap[c]? = w.heap[c]?) (U : aB.heap.size = w.heap.size) (aa : aB.os = w.os) (ab : aB.tape = w.tape) (aE : aB.output = w.output)
  (bg : ¬ F b) (bE : ∀ u, ¬ S u b) (bp : X b ∨ w0.heap.size ≤ b) : bB w0 F0 X F S s au aB where
 gb := h.gb
 gz := h.gz
 e0 := fun c aj => by rw [U]; exact h.e0 c aj
 dP := fun t c aj => by rw [U]; exact h.dP t c aj
 e7 := h.e7
 eT := h.eT
 dd := h.dd
 c7 := fun t => aF.frame (Sx := S) (fun c aj => J c (by rintro rfl; exact bg aj)) (fun _ h => h) (fun x c aj => J c (by rintro rfl; exact bE x aj)) h.c7 _ _ _ (fun c aj => J c (by rintro rfl; exact bE t aj)) (h.c7 t)
 old := fun c dL iG => by
  rw [J c ?_]
  ·exact h.old c dL iG
  ·rintro rfl
   rcases bp with bp | bp
   ·exact iG bp
   ·omega
 size := by rw [U]; exact h.size
 os := aa.trans h.os
 tape := ab.trans h.tape
 output := aE.trans h.output
theorem Hb (bm : C.Ok) (h : bB w0 F0 X F S s au w) {T bn ty : TypeId} {x y : j} {iv hQ : Value} (ai : aF w F s au x iv (fun _ => False)) (bC : aF w F s au y hQ (fun _ => False))
  (he : jX C s T bn x y = some (av, s1)) : Good C w0 F0 X au w (Builtin.append_ #[T, bn] ty #[iv, hQ]) av s1 := by
 unfold jX at he
 split at he
 ·rename_i e aw
  obtain ⟨xm, d, xn, aJ, aT, bb, cn, c1, b6, bS⟩ := bm.info (fs aw (by simp))
  rw [aw] at bS
  have := jc bS; subst this
  split at he
  ·rename_i oz
   obtain ⟨lX, my, m5, mz⟩ := oz
   obtain ⟨i, xo, z, f1, f2, f3, f4, f5, f6, f7⟩ := bm.info lX
   obtain ⟨dQ, kh⟩ := Option.isSome_iff_exists.1 m5
   have m6 := f5 dQ kh
   have lZ : dQ.length = (C.T e).sz := by
    have := aq.length _ _ _ ((aq.flat (w := w) (F := F) _).1 (C.T e).zero dQ (fun _ => False) (Nat.le_refl _) kh)
    rw [this, my]
   obtain ⟨m4, hu, oE⟩ : ∃ m4, C.P.underlying bn = some m4 ∧ xh m4 := by
    unfold tZ at mz
    split at mz
    ·rename_i eC jw
     obtain ⟨_, bj, _, _, _, _, _, _, gA, ha⟩ := bm.info (fs jw (by simp))
     rw [jw] at ha
     exact ⟨bj, gA, .inl ⟨_, jc ha⟩⟩
    ·rename_i jw _
     obtain ⟨_, bj, _, _, _, _, _, _, gA, ha⟩ := bm.info (fs jw (by simp))
     rw [jw] at ha
     exact ⟨bj, gA, .inr (nx ha)⟩
    ·cases mz
   split at he
   ·rename_i sz xs Az oG
    split at he
    ·rename_i dI
     subst dI
     split at he
     ·rename_i bM t_ lj
      split at he
      ·rename_i Hc
       obtain ⟨pZ, xi, xp⟩ := Hc
       simp only [Option.some.injEq, Prod.mk.injEq] at he
       obtain ⟨rfl, rfl⟩ := he
       obtain ⟨fP, a0, Sn, a3, a4, a5, mv, mw, ZY, a9, nC⟩ : ∃ fP, bB w0 F0 X F fP Az au w ∧ ∃ Sn, aq w F (.ay (C.T e).sz xs) [iv] Sn ∧ (∀ b, Sn b → b < w.heap.size) ∧ (∀ b, Sn b → ¬ F b) ∧ (∀ u b, Sn b → ¬ fP u b) ∧
         (∀ b, Sn b → X b ∨ w0.heap.size ≤ b) ∧ (∀ u b, fP u b → S u b) ∧ (∀ b, Sn b → ∃ u, S u b) ∧ aF w F Az au (iU x.owner y) hQ (fun _ => False) := by
        split at oG
        ·simp only [Option.some.injEq, Prod.mk.injEq, j.ay.injEq, true_and] at oG
         obtain ⟨rfl, rfl⟩ := oG
         have := m2 ai; subst this
         exact ⟨S, h, fun _ => False, by rw [aq]; exact .inl ⟨rfl, _, rfl⟩, fun _ h => h.elim, fun _ h => h.elim, fun _ _ h => h.elim, fun _ h => h.elim, fun _ _ h => h, fun _ h => h.elim, bC⟩
        ·obtain ⟨bW, fQ, aV, bo, Sn, b8, dn, eg, gA, ha, jv, rT, ua⟩ := nw h rfl ai oG
         rw [g_ bo] at b8
         exact ⟨bW, fQ, Sn, b8, dn, eg, gA, ha, jv, rT, ua _ _ _ bC⟩
        ·cases oG
       obtain ⟨fg, iW, kE, news, jx, hs, hS, bX, cl, dy, kF, bY⟩ : ∃ fg, bB w0 F0 X F fg t_ au w ∧ ∃ kE news, aU w F bM news kE ∧ Src C.P w i.size hQ bM.length news ∧ (∀ b, kE b → b < w.heap.size) ∧ (∀ b, kE b → ¬ F b) ∧ (∀ u b, kE b → ¬ fg u b) ∧
         (∀ b, kE b → X b ∨ w0.heap.size ≤ b) ∧ (∀ u b, fg u b → fP u b) ∧ (∀ b, kE b → ∃ u, fP u b) := by
        split at lj
        ·rename_i oH
         simp only [Option.some.injEq, Prod.mk.injEq] at lj
         obtain ⟨rfl, rfl⟩ := lj
         rw [oH] at nC
         have := m2 nC; subst this
         exact ⟨fP, a0, fun _ => False, [], by rw [aU], Ay, fun _ h => h.elim, fun _ h => h.elim, fun _ _ h => h.elim, fun _ h => h.elim, fun _ _ h => h, fun _ h => h.elim⟩
        ·rename_i zs oH
         simp only [Option.some.injEq, Prod.mk.injEq] at lj
         obtain ⟨rfl, rfl⟩ := lj
         rw [oH] at nC
         rcases tV nC with ⟨rfl, pX, ZZ, rfl, _, oB⟩ | ⟨b, o, cap, dr, Hd, rfl, b9, cj, d_, dv, e1, dY⟩
         ·exact ⟨fP, a0, fun _ => False, [], by rw [aU], xl pX, fun _ h => h.elim, fun _ h => h.elim, fun _ _ h => h.elim, fun _ h => h.elim, fun _ _ h => h, fun _ h => h.elim⟩
         ·exact ⟨fP, a0, fun _ => False, dr, dY, xk e1 (by rw [f2]; exact aU.oF dY pZ), fun _ h => h.elim, fun _ h => h.elim, fun _ _ h => h.elim, fun _ h => h.elim, fun _ _ h => h, fun _ h => h.elim⟩
        ·rename_i l oH
         simp only [Option.some.injEq, Prod.mk.injEq] at lj
         obtain ⟨rfl, rfl⟩ := lj
         rw [oH] at nC
         have := mu nC; subst this
         have He : l ≠ [] → i.size = 1 := by
          intro hl
          cases l with
          | nil => exact (hl rfl).elim
          | cons b l => rw [f2, ← pZ (iK b) (by simp)]; rfl
         by_cases hl : l = []
         ·subst hl
          refine ⟨fP, a0, fun _ => False, [], by simp only [List.map_nil]; rw [aU], ?_, fun _ h => h.elim, fun _ h => h.elim, fun _ _ h => h.elim, fun _ h => h.elim, fun _ _ h => h, fun _ h => h.elim⟩
          intro aB _
          exact ⟨rfl, by simp [Builtin.firstCells, ByteArray.extract]; rfl⟩
         ·refine ⟨fP, a0, fun _ => False, _, Aq l _, ?_, fun _ h => h.elim, fun _ h => h.elim, fun _ _ h => h.elim, fun _ h => h.elim, fun _ _ h => h, fun _ h => h.elim⟩
          rw [He hl, List.length_map]
          exact Ha l
        ·rename_i a q oH
         split at lj
         ·rename_i Z0 zs s2 aP
          simp only [Option.some.injEq, Prod.mk.injEq] at lj
          obtain ⟨rfl, rfl⟩ := lj
          rw [oH] at nC
          obtain ⟨c6, fQ, aV, bo, kE, b8, dn, eg, gA, ha, jv, rT, ua⟩ := nw a0 rfl nC aP
          rw [g_ bo, aq] at b8
          rcases b8 with ⟨rfl, Hf, jf⟩ | ⟨b, cap, cur, fE, fr, aH, jf, b9, cj, d_, dv, e1, dY, iw, ek, jW, nB⟩
          ·simp at jf; subst jf
           exact ⟨c6, fQ, fun _ => False, [], by rw [aU], (xl Hf), fun _ h => h.elim, fun _ h => h.elim, fun _ _ h => h.elim, fun _ h => h.elim, jv, fun _ h => h.elim⟩
          ·simp at jf; subst jf
           refine ⟨c6, fQ, aH, _, ek, xk (pK cj _) ?_, fun c aj => dn c (jW c aj), fun c aj => eg c (jW c aj), fun u c aj => gA u c (jW c aj), fun c aj => ha c (jW c aj), jv, fun c aj => rT c (jW c aj)⟩
           rw [f2]; exact aU.oF ek pZ
         ·cases lj
        ·cases lj
       have nD : news.length = bM.length * (C.T e).sz := aU.oF jx pZ
       have lk : ∀ c, Sn c → ¬ kE c := fun c aa ab => by obtain ⟨u, hu⟩ := bY c ab; exact mv u c aa hu
       have iT : ∀ u c, Sn c → ¬ fg u c := fun u c aa ab => mv u c aa (kF u c ab)
       have grow : ∀ (base : Option Addr) (cap : Nat) (lY : List Value) (Sx : Nat → Prop), iv = .slice base xs.length cap → Src C.P w i.size (.slice base xs.length cap) xs.length lY → aU w F xs lY Sx → (∀ d ∈ xs, d.wd = (C.T e).sz) → (∀ c, Sx c → Sn c) → ¬ xs.length + bM.length ≤ cap →
         Good C w0 F0 X au w (Builtin.append_ #[T, bn] ty #[iv, hQ]) (.ay (C.T e).sz (xs ++ bM)) t_ := by
        intro base cap lY Sx xb hold AA AB dU mx
        subst xb
        have aO := G8 (ty := ty) b6 hu oE f1 f4 hs hold mx xp (by rw [f3]; exact xi)
        have pT := grownCap_ge w (xs.length + bM.length) cap e
        have rR := grownCap_le_maxLen w (xs.length + bM.length) cap e (by unfold maxLen; omega)
        have rU := aU.oF AA AB
        have Hg : aU w F (xs ++ bM) (lY ++ news) (fun c => Sx c ∨ kE c) := aU.append AA jx (fun _ h => .inl h) (fun _ h => .inr h) (fun c aa ab => lk c (dU c aa) ab)
        have Hh : (lY ++ news).length = (xs ++ bM).length * (C.T e).sz := by simp [rU, nD, Nat.add_mul]
        have iV := iW.rO (aB := w.drew.alloc (.cells (lY.toArray ++ news.toArray ++ Builtin.zeroCells z.cells (grownCap w (xs.length + bM.length) cap e - (xs.length + bM.length))) e))
         (sz := (C.T e).sz) (cap := grownCap w (xs.length + bM.length) cap e) (xs := xs ++ bM) (e := e) (fr := (0, 0)) (Sn := fun c => Sx c ∨ kE c) rfl rfl rfl rfl
         (fun o _ ⟨_, ab⟩ => absurd ab (Nat.not_lt_zero _)) (by simpa using pT) rR
         (by
          simp only [Array.size_append, List.size_toArray, size_zeroCells, m6, rU, nD, lZ, ← Nat.add_mul]
          congr 1; omega)
         (by
          intro d af
          rcases List.mem_append.1 af with af | af
          ·exact AB d af
          ·exact pZ d af)
         (by
          simp only [Array.toList_append]
          rw [List.take_left' Hh]
          exact Hg)
         (by rintro c (aj | aj); exact a4 c (dU c aj); exact hS c aj) (by rintro c (aj | aj); exact a5 c (dU c aj); exact bX c aj) (by rintro u c (aj | aj); exact iT u c (dU c aj); exact cl u c aj) (by rintro c (aj | aj); exact mw c (dU c aj); exact dy c aj)
        refine ⟨_, _, F, fg, aO, iV.1, ?_⟩
        have := iV.2
        simpa using this
       rw [aq] at a3
       rcases a3 with ⟨rfl, ub, jf⟩ | ⟨b, cap, cur, fE, fr, aH, jf, b9, cj, d_, dv, e1, dY, iw, ek, jW, nB⟩
       ·simp at jf; subst jf
        by_cases AD : bM = []
        ·subst AD
         have xq : news = [] := by simpa using nD
         subst xq
         refine ⟨.slice ub 0 0, w, F, fg, ?_, iW, .inr ⟨rfl, rfl, fun _ => False, by simp only [ch, gx]; rw [aq]; exact .inl ⟨rfl, _, rfl⟩, fun _ h => h.elim, fun _ h => h.elim, fun _ _ h => h.elim, fun _ h => h.elim⟩⟩
         obtain ⟨aa, ab⟩ := hs w rfl
         cases ub <;> rcases oE with ⟨eC, rfl⟩ | rfl <;> simp at aa ab <;> simp [Builtin.append_, run_underlying b6, run_underlying hu, iI f1, aa, ab, storeCells]
        ·exact grow ub 0 [] (fun _ => False) rfl (xl ub) (by rw [aU]) (by simp) (fun _ h => h.elim) (by
          cases bM with
          | nil => exact (AD rfl).elim
          | cons y bM => simp)
       ·simp at jf; subst jf
        by_cases mx : xs.length + bM.length ≤ cap
        ·
         have rU := aU.oF ek iw
         have hlen : cur.toList.length = cap * (C.T e).sz := by simp [dY]
         have hle : (xs.length + bM.length) * (C.T e).sz ≤ cap * (C.T e).sz := Nat.mul_le_mul_right _ mx
         rw [Nat.add_mul] at hle
         have i9 : cur.toList = cur.toList.take (xs.length * (C.T e).sz) ++ ((cur.toList.drop (xs.length * (C.T e).sz)).take news.length ++ (cur.toList.drop (xs.length * (C.T e).sz)).drop news.length) := by
          rw [List.take_append_drop, List.take_append_drop]
         obtain ⟨aB, en, fl, hb, kC, lb, dk, mZ⟩ := G7 (ty := ty) (n := xs.length) (m := bM.length) (cap := cap) b6 hu oE f1 hs cj d_ i9 (by rw [f2]; exact rU) (by simp [hlen, nD]; omega) (aU.ox _ _ _ jx) mx
         have Hi := iW.turn hb kC lb dk mZ (a5 b b9) (fun u hu => iT u b b9 hu) (mw b b9)
         have pP : ∀ c, F c → aB.heap[c]? = w.heap[c]? := fun c aj => hb c (by rintro rfl; exact a5 _ b9 aj)
         refine ⟨_, aB, F, fg, en, Hi, .inr ⟨rfl, rfl, fun c => Sn c ∨ kE c, ?_, ?_, ?_, ?_, ?_⟩⟩
         ·simp only [ch, gx]
          rw [aq]
          have AE : (cur.toList.take (xs.length * (C.T e).sz) ++ (news ++ (cur.toList.drop (xs.length * (C.T e).sz)).drop news.length)).toArray.size = cur.size := by
           have : cur.size = cur.toList.length := by simp
           rw [this]
           conv => rhs; rw [i9]
           simp [hlen, nD]; omega
          refine .inr ⟨b, cap, _, fE, fr, fun c => aH c ∨ kE c, by simp, .inl b9, fl, by rw [AE]; exact d_, by simpa using mx, e1, by rw [AE]; exact dY, ?_, ?_, ?_, ?_⟩
          ·intro d af
           rcases List.mem_append.1 af with af | af
           ·exact iw d af
           ·exact pZ d af
          ·have rV := aU.frame pP _ _ _ (fun c aj => hb c (by rintro rfl; exact nB aj)) ek
           have tH := aU.frame pP _ _ _ (fun c aj => hb c (by rintro rfl; exact lk _ b9 aj)) jx
           have : ((cur.toList.take (xs.length * (C.T e).sz) ++ (news ++ (cur.toList.drop (xs.length * (C.T e).sz)).drop news.length)).toArray.toList.take ((xs ++ bM).length * (C.T e).sz)) = cur.toList.take (xs.length * (C.T e).sz) ++ news := by
            simp only []
            rw [← List.append_assoc]
            exact List.take_left' (by rw [List.length_append, rU, nD, List.length_append, Nat.add_mul])
           rw [this]
           exact aU.append rV tH (fun _ h => .inl h) (fun _ h => .inr h) (fun c aa ab => lk c (jW c aa) ab)
          ·rintro c (aj | aj)
           ·exact .inl (jW c aj)
           ·exact .inr aj
          ·rintro (aj | aj)
           ·exact nB aj
           ·exact lk b b9 aj
         ·rw [kC]; rintro c (aj | aj); exact a4 c aj; exact hS c aj
         ·rintro c (aj | aj); exact a5 c aj; exact bX c aj
         ·rintro u c (aj | aj); exact iT u c aj; exact cl u c aj
         ·rintro c (aj | aj); exact mw c aj; exact dy c aj
        ·exact grow (some ⟨b, 0, none⟩) cap _ aH rfl (xk (pK cj _) (by rw [f2]; exact aU.oF ek iw)) ek iw jW mx
      ·cases he
     ·cases he
    ·cases he
   ·cases he
  ·cases he
 ·cases he
end
end Go.cM
