/- Part of a proof that a law returns true for every input. No condition. -/
import Derived.Test.YtbemmmimelklkaaFwC
import Derived.Test.YtbemmmimelklkaaFwA
import Derived.Laws.IdiomStrings
import Derived.Laws.Strings
import Derived.LaidEql
import Derived.WideLaws
namespace Go.cB
section
variable {C : bZ} {w0 w : World} {F0 X F : Nat → Prop} {S : Nat → Nat → Prop} {s s1 : aj} {az : Nat → Value} {av : I}
theorem nG {k : IntKind} {n : Int} {v : Value} {aL : Nat → Prop} (h : aH w F s az (.int k n) v aL) : v = .int k n := by
 have bq := (aH.cv rfl).1 h
 rw [ax, hq bq.1] at bq
 simpa using bq.2
theorem pz {b : Bool} {v : Value} {aL : Nat → Prop} (h : aH w F s az (.bool b) v aL) : v = .bool b := by
 have bq := (aH.cv rfl).1 h
 rw [ax, hq bq.1] at bq
 simpa using bq.2
theorem m5 {b : List UInt8} {v : Value} {aL : Nat → Prop} (h : aH w F s az (.str b) v aL) : v = .string ⟨⟨b⟩⟩ := by
 have bq := (aH.cv rfl).1 h
 rw [ax, hq bq.1] at bq
 simpa using bq.2
theorem De {v : Value} {aL : Nat → Prop} (h : aH w F s az .c7 v aL) : v = .pointer none := by
 have bq := (aH.cv rfl).1 h
 rw [ax, hq bq.1] at bq
 simpa using bq.2
theorem nH {v : Value} {aL : Nat → Prop} (h : aH w F s az .bA v aL) : v = .slice none 0 0 := by
 have bq := (aH.cv rfl).1 h
 rw [ax, hq bq.1] at bq
 simpa using bq.2
theorem Df {v : Value} {aL : Nat → Prop} (h : aH w F s az .dV v aL) : ∃ b, v = .bool b := by
 have bq := (aH.cv rfl).1 h
 rw [ax, hq bq.1] at bq
 simpa using bq.2
theorem of_int (k : IntKind) (n : Int) : aH w F s az (.int k n) (.int k n) (fun _ => False) := (aH.cv rfl).2 ⟨rfl, by rw [ax]; rfl⟩
theorem of_bool (b : Bool) : aH w F s az (.bool b) (.bool b) (fun _ => False) := (aH.cv rfl).2 ⟨rfl, by rw [ax]; rfl⟩
theorem mq (b : List UInt8) : aH w F s az (.str b) (.string ⟨⟨b⟩⟩) (fun _ => False) := (aH.cv rfl).2 ⟨rfl, by rw [ax]; rfl⟩
theorem zz (b : Bool) : aH w F s az .dV (.bool b) (fun _ => False) := (aH.cv rfl).2 ⟨rfl, by rw [ax]; exact ⟨b, rfl⟩⟩
def hv (op : BinOp) (k : IntKind) (a : Int) (cE : IntKind) (b : Int) : Option I :=
 match op with
 | .shl => if b < 0 then none else some (.int k (k.wrap (a * 2 ^ (min b.toNat k.bits))))
 | .shr => if b < 0 then none else some (.int k (a.fdiv (2 ^ (min b.toNat k.bits))))
 | .add => if k = cE then some (.int k (k.wrap (a + b))) else none
 | .sub => if k = cE then some (.int k (k.wrap (a - b))) else none
 | .mul => if k = cE then some (.int k (k.wrap (a * b))) else none
 | .quo => if k = cE ∧ b ≠ 0 then some (.int k (k.wrap (a.tdiv b))) else none
 | .rem => if k = cE ∧ b ≠ 0 then some (.int k (a.tmod b)) else none
 | .eql => if k = cE then some (.bool (a == b)) else none
 | .neq => if k = cE then some (.bool (a != b)) else none
 | .lss => if k = cE then some (.bool (decide (a < b))) else none
 | .leq => if k = cE then some (.bool (decide (a ≤ b))) else none
 | .gtr => if k = cE then some (.bool (decide (b < a))) else none
 | .geq => if k = cE then some (.bool (decide (b ≤ a))) else none
 | .and => if k = cE then some (.int k (bitsOf .and k a b)) else none
 | .or => if k = cE then some (.int k (bitsOf .or k a b)) else none
 | .xor => if k = cE then some (.int k (bitsOf .xor k a b)) else none
 | .andNot => if k = cE then some (.int k (bitsOf .andNot k a b)) else none
def k9 (op : BinOp) (a b : List UInt8) : Option I :=
 match op with
 | .add => if a.length + b.length ≤ 9223372036854775807 then some (.str (a ++ b)) else none
 | .eql => some (.bool (a == b))
 | .neq => some (.bool !(a == b))
 | .lss => some (.bool (Op.bytesLess a b))
 | .leq => some (.bool (Op.bytesLess a b || a == b))
 | .gtr => some (.bool !(Op.bytesLess a b || a == b))
 | .geq => some (.bool !(Op.bytesLess a b))
 | _ => none
def jC (s : aj) : I → Option (Option Bool)
 | .bA => some (some true)
 | .slice xs => some (if xs = [] then none else some false)
 | .h x q => match I.sub q (s x) with
   | some (.aE _ xs) => some (if xs = [] then none else some false)
   | _ => none
 | _ => none
def jD (s : aj) : I → Option Bool
 | .c7 => some true
 | .ref _ => some false
 | .h x q => match I.sub q (s x) with
   | some (.bd _) => some false
   | _ => none
 | _ => none
def sZ (neg : Bool) : Option Bool → I
 | some b => .bool (b != neg)
 | none => .dV
def aB (C : bZ) (s : aj) (op : BinOp) (T : TypeId) (x y : I) : Option I :=
 match x, y with
 | .int k a, .int cE b => hv op k a cE b
 | .str a, .str b => k9 op a b
 | .bool a, .bool b => match op, (C.T T).k with
   | .eql, .bool => some (.bool (a == b))
   | .neq, .bool => some (.bool !(a == b))
   | _, _ => none
 | x, .bA => match op, (C.T T).k with
   | .eql, .slice _ => (jC s x).map (sZ false)
   | .neq, .slice _ => (jC s x).map (sZ true)
   | _, _ => none
 | x, .c7 => match op, (C.T T).k with
   | .eql, .ptr _ => (jD s x).map fun b => .bool b
   | .neq, .ptr _ => (jD s x).map fun b => .bool !b
   | _, _ => none
 | _, _ => none
theorem JP {P : Program} {op : BinOp} {T : TypeId} {k cE : IntKind} {a b : Int} (he : hv op k a cE b = some av) (w : World) :
  ∃ v, (binOp op T (.int k a) (.int cE b)).run P w = .ok v w ∧ aH w F s az av v (fun _ => False) := by
 unfold hv at he
 cases op <;> simp only at he <;> split at he <;> first | (cases he; done) | skip
 all_goals
  rename_i al
  simp only [Option.some.injEq] at he
  subst he
 all_goals first
  | (subst al; simp only [binOp_add, binOp_sub, binOp_mul, binOp_eql, binOp_neq, binOp_lss, binOp_leq, binOp_gtr, binOp_geq, binOp_and, binOp_or, binOp_xor, binOp_andNot, Op.intArith, Op.intBits, Sem.run_pure, Result.ok.injEq, and_true, exists_eq_left']
     first | exact of_int _ _ | exact of_bool _)
  | (obtain ⟨rfl, bh⟩ := al
     simp only [binOp_quo, binOp_rem, Op.intDiv, bh, if_false, Sem.run_pure, Result.ok.injEq, and_true, exists_eq_left']
     exact of_int _ _)
  | (simp only [binOp_shl, binOp_shr, Op.shift, al, if_false, Sem.run_pure, Result.ok.injEq, and_true, exists_eq_left']
     exact of_int _ _)
theorem zA (a : List UInt8) : (⟨⟨a⟩⟩ : ByteArray).toList = a := ByteArray.toList_eq _
theorem JQ (a b : List UInt8) : (⟨⟨a⟩⟩ : ByteArray) ++ (⟨⟨b⟩⟩ : ByteArray) = ⟨⟨a ++ b⟩⟩ := by
 apply ByteArray.ext
 simp [ByteArray.data_append]
theorem JR {P : Program} {op : BinOp} {T : TypeId} {a b : List UInt8} (he : k9 op a b = some av) (w : World) :
  ∃ v, (binOp op T (.string ⟨⟨a⟩⟩) (.string ⟨⟨b⟩⟩)).run P w = .ok v w ∧ aH w F s az av v (fun _ => False) := by
 have U : ∀ op, binOp op T (.string ⟨⟨a⟩⟩) (.string ⟨⟨b⟩⟩) = Op.stringOp op ⟨⟨a⟩⟩ ⟨⟨b⟩⟩ := by intro op; cases op <;> rfl
 rw [U]
 unfold k9 at he
 cases op <;> simp only [Option.some.injEq] at he <;> first | (cases he; done) | skip
 case add =>
  split at he
  ·rename_i hl
   simp only [Option.some.injEq] at he; subst he
   have aa : ((ByteArray.size ⟨⟨a⟩⟩ + ByteArray.size ⟨⟨b⟩⟩ : Nat) : Int) ≤ 9223372036854775807 := by
    show ((a.length + b.length : Nat) : Int) ≤ _
    omega
   refine ⟨.string ⟨⟨a ++ b⟩⟩, ?_, mq _⟩
   simp only [Op.stringOp, IntKind.max_i64]
   rw [if_neg (by omega), JQ]
   rfl
  ·cases he
 all_goals
  subst he
  simp only [Op.stringOp, zA, Sem.run_pure, Result.ok.injEq, and_true, exists_eq_left']
  exact of_bool _
theorem zB (h : bE w0 F0 X F S s az w) {v : Value} {y : Nat} {q : List Nat} (aK : aH w F s az (.h y q) v (fun _ => False)) {sz : Nat} {xs : List I} (ah : I.sub q (s y) = some (.aE sz xs)) :
  (xs = [] ∧ ∃ a, v = .slice a 0 0) ∨ ∃ b cap cur e fr, v = .slice (some ⟨b, 0, none⟩) xs.length cap ∧ w.heap[b]? = some (.cells cur e fr) ∧ mh fr cur.size ∧ xs.length ≤ cap ∧ cap ≤ maxLen ∧ cur.size = cap * sz ∧ (∀ d ∈ xs, d.wd = sz) ∧
   ∃ aL, a6 w F xs (cur.toList.take (xs.length * sz)) aL ∧ (∀ c, aL c → S y c) ∧ S y b := by
 rw [aH] at aK
 obtain ⟨cw, a, aY, bs, b_⟩ := aK _ ah rfl
 have aa : Value.fN v = true := b_
 rw [hq aa] at bs; subst bs
 have au := h.da y
 rw [aH.cv (hb ah (.inl rfl))] at au
 obtain ⟨fe, cl, dH, fW, k0, bN, b6, et, dy, fk⟩ := ctx q (s y) (cm (az y)) (S y) none _ au.2 ah
 rw [k0] at aY
 simp only [Option.some.injEq, Prod.mk.injEq, true_and] at aY
 obtain ⟨rfl, rfl⟩ := aY
 rw [ax] at dy
 rcases dy with ⟨rfl, aT, af⟩ | ⟨b, cap, cur, aP, fr, dg, a_, cD, c4, b8, b2, jg, k_, nI, mr, eA, eW⟩
 ·simp at af; exact .inl ⟨rfl, _, af⟩
 ·simp at a_
  exact .inr ⟨b, cap, cur, aP, fr, a_, c4, b8, b2, jg, k_, nI, dg, mr, fun c al => b6 _ (eA c al), b6 _ cD⟩
theorem Dg (h : bE w0 F0 X F S s az w) {v : Value} {y : Nat} {q : List Nat} (aK : aH w F s az (.h y q) v (fun _ => False)) {d : I} (ah : I.sub q (s y) = some (.bd d)) :
  ∃ b cur e fr, v = .pointer (some ⟨b, 0, none⟩) ∧ w.heap[b]? = some (.cells cur e fr) := by
 rw [aH] at aK
 obtain ⟨cw, a, aY, bs, b_⟩ := aK _ ah rfl
 have aa : Value.fN v = true := b_
 rw [hq aa] at bs; subst bs
 have au := h.da y
 rw [aH.cv (hb ah (.inl rfl))] at au
 obtain ⟨fe, cl, dH, fW, k0, bN, b6, et, dy, fk⟩ := ctx q (s y) (cm (az y)) (S y) none _ au.2 ah
 rw [k0] at aY
 simp only [Option.some.injEq, Prod.mk.injEq, true_and] at aY
 obtain ⟨rfl, rfl⟩ := aY
 rw [ax] at dy
 obtain ⟨b, cur, aP, fr, dg, a_, cD, c4, _⟩ := dy
 simp at a_
 exact ⟨b, cur, aP, fr, a_, c4⟩
theorem Dh {P : Program} {T e : TypeId} (aZ : P.underlying T = some (.slice e)) (w : World) : ∀ d, (Op.equalIn (d + 1) T (.slice none 0 0) (.slice none 0 0)).run P w = .ok true w ∧
  ∀ a n c, (Op.equalIn (d + 1) T (.slice (some a) n c) (.slice none 0 0)).run P w = .ok false w := by
 intro d
 refine ⟨by simp [Op.equalIn, run_underlying aZ], fun a n c => by simp [Op.equalIn, run_underlying aZ]⟩
theorem Di {P : Program} {T e : TypeId} (aZ : P.underlying T = some (.pointer e)) (w : World) : ∀ d, (Op.equalIn (d + 1) T (.pointer none) (.pointer none)).run P w = .ok true w ∧
  ∀ a, (Op.equalIn (d + 1) T (.pointer (some a)) (.pointer none)).run P w = .ok false w := by
 intro d
 refine ⟨by simp [Op.equalIn, run_underlying aZ], fun a => by simp [Op.equalIn, run_underlying aZ]⟩
theorem Dj {P : Program} {T : TypeId} (aZ : P.underlying T = some .bool) (w : World) : ∀ d a b, (Op.equalIn (d + 1) T (.bool a) (.bool b)).run P w = .ok (a == b) w := by
 intro d a b
 simp [Op.equalIn, run_underlying aZ]
theorem Dk (h : bE w0 F0 X F S s az w) {x : I} {v : Value} (aK : aH w F s az x v (fun _ => False)) {T e : TypeId} {r : Option Bool} (aO : jC s x = some r) (aZ : C.P.underlying T = some (.slice e)) :
  ∃ b, (Op.equal T v (.slice none 0 0)).run C.P w = .ok b w ∧ (∀ eO, r = some eO → eO = b) ∧ Value.fN v = true ∧ ∃ a n c, v = .slice a n c := by
 have aJ := fun a n c => (Dh aZ w 9999).2 a n c
 have fC := (Dh aZ w 9999).1
 cases x with
 | bA =>
   have := nH aK; subst this
   simp [jC] at aO; subst aO
   exact ⟨true, fC, by simp, rfl, _, _, _, rfl⟩
 | slice xs =>
   have bq := (aH.cv rfl).1 aK
   rw [ax, hq bq.1] at bq
   simp only [jC, Option.some.injEq] at aO
   obtain ⟨_, ⟨rfl, a, c, af, _, pA⟩ | ⟨b, o, cap, dt, sz, af, aF⟩⟩ := bq
   ·simp at af aO; subst af; subst aO
    cases a with
    | none =>
      have := pA rfl; subst this
      exact ⟨true, fC, by simp, rfl, _, _, _, rfl⟩
    | some a => exact ⟨false, aJ _ _ _, by simp, rfl, _, _, _, rfl⟩
   ·simp at af; subst af
    refine ⟨false, aJ _ _ _, ?_, rfl, _, _, _, rfl⟩
    subst aO
    split <;> simp
 | h y q =>
   simp only [jC] at aO
   split at aO
   ·rename_i sz xs ah
    simp only [Option.some.injEq] at aO
    rcases zB h aK ah with ⟨rfl, a, rfl⟩ | ⟨b, cap, cur, aP, fr, rfl, _⟩
    ·simp at aO; subst aO
     cases a with
     | none => exact ⟨true, fC, by simp, rfl, _, _, _, rfl⟩
     | some a => exact ⟨false, aJ _ _ _, by simp, rfl, _, _, _, rfl⟩
    ·refine ⟨false, aJ _ _ _, ?_, rfl, _, _, _, rfl⟩
     subst aO
     split <;> simp
   ·cases aO
 | _ => simp [jC] at aO
theorem Dl (h : bE w0 F0 X F S s az w) {x : I} {v : Value} (aK : aH w F s az x v (fun _ => False)) {T e : TypeId} {r : Bool} (aO : jD s x = some r) (aZ : C.P.underlying T = some (.pointer e)) :
  (Op.equal T v (.pointer none)).run C.P w = .ok r w ∧ ∃ a, v = .pointer a := by
 have aJ := fun a => (Di aZ w 9999).2 a
 have fC := (Di aZ w 9999).1
 cases x with
 | c7 =>
   have := De aK; subst this
   simp [jD] at aO; subst aO
   exact ⟨fC, _, rfl⟩
 | ref d =>
   have bq := (aH.cv rfl).1 aK
   rw [ax, hq bq.1] at bq
   simp [jD] at aO; subst aO
   obtain ⟨_, b, o, dt, af, _⟩ := bq
   simp at af; subst af
   exact ⟨aJ _, _, rfl⟩
 | h y q =>
   simp only [jD] at aO
   split at aO
   ·rename_i d ah
    simp only [Option.some.injEq] at aO; subst aO
    obtain ⟨b, cur, e, fr, rfl, _⟩ := Dg h aK ah
    exact ⟨aJ _, _, rfl⟩
   ·cases aO
 | _ => simp [jD] at aO
theorem JS (bp : C.Ok) (h : bE w0 F0 X F S s az w) {op : BinOp} {T : TypeId} {x y : I} {iK h7 : Value} (JT JU : Operand) (au : aH w F s az x iK (fun _ => False)) (bC : aH w F s az y h7 (fun _ => False))
  (he : aB C s op T x y = some av) : Good C w0 F0 X az w (do eqGuard op T JT JU iK h7; binOp op T iK h7) av s := by
 unfold aB at he
 split at he
 ·have := nG au; subst this
  have := nG bC; subst this
  obtain ⟨v, ab, af⟩ := JP (P := C.P) (T := T) he w
  refine Good.same h (v := v) ?_ ?_ af
  ·rw [eqGuard_at_int]; exact ab
  ·revert he; unfold hv; cases op <;> simp only <;> split <;> simp <;> (rintro rfl; rfl)
 ·have := m5 au; subst this
  have := m5 bC; subst this
  obtain ⟨v, ab, af⟩ := JR (P := C.P) (T := T) he w
  refine Good.same h (v := v) ?_ ?_ af
  ·rw [eqGuard_at_string]; exact ab
  ·revert he; unfold k9; cases op <;> simp only <;> (try split) <;> simp <;> (try (rintro rfl; rfl))
 ·have := pz au; subst this
  have := pz bC; subst this
  split at he
  ·rename_i ay
   simp only [Option.some.injEq] at he; subst he
   obtain ⟨i, d, z, aJ, aP, a_, cD, c4, b8, b2⟩ := bp.info (fS ay (by simp))
   rw [ay] at b2
   have := C6 b2; subst this
   refine Good.same h ?_ rfl (of_bool _)
   rw [eqGuard_at_bool]
   simp [binOp, Op.equal, Op.maxDepth, Dj b8 w 9999]
  ·rename_i ay
   simp only [Option.some.injEq] at he; subst he
   obtain ⟨i, d, z, aJ, aP, a_, cD, c4, b8, b2⟩ := bp.info (fS ay (by simp))
   rw [ay] at b2
   have := C6 b2; subst this
   refine Good.same h ?_ rfl (of_bool _)
   rw [eqGuard_at_bool]
   simp [binOp, Op.equal, Op.maxDepth, Dj b8 w 9999]
  ·cases he
 ·have := nH bC; subst this
  split at he
  ·rename_i e ay
   simp only [Option.map_eq_some_iff] at he
   obtain ⟨r, aO, rfl⟩ := he
   obtain ⟨i, d, z, aJ, aP, a_, cD, c4, b8, b2⟩ := bp.info (fS ay (by simp))
   rw [ay] at b2
   have := jB b2; subst this
   obtain ⟨b, ab, af, aF, a0, cM, mi, rfl⟩ := Dk h au aO b8
   refine Good.same h (v := .bool b) ?_ ?_ ?_
   ·rw [eqGuard_at_slice]
    simp [binOp, ab]
   ·cases r <;> rfl
   ·cases r with
    | none => exact zz b
    | some eO => have := af eO rfl; subst this; simp only [sZ, Bool.bne_false]; exact of_bool _
  ·rename_i e ay
   simp only [Option.map_eq_some_iff] at he
   obtain ⟨r, aO, rfl⟩ := he
   obtain ⟨i, d, z, aJ, aP, a_, cD, c4, b8, b2⟩ := bp.info (fS ay (by simp))
   rw [ay] at b2
   have := jB b2; subst this
   obtain ⟨b, ab, af, aF, a0, cM, mi, rfl⟩ := Dk h au aO b8
   refine Good.same h (v := .bool !b) ?_ ?_ ?_
   ·rw [eqGuard_at_slice]
    simp [binOp, ab]
   ·cases r <;> rfl
   ·cases r with
    | none => exact zz _
    | some eO => have := af eO rfl; subst this; simp only [sZ, Bool.bne_true]; exact of_bool _
  ·cases he
 ·have := De bC; subst this
  split at he
  ·rename_i e ay
   simp only [Option.map_eq_some_iff] at he
   obtain ⟨r, aO, rfl⟩ := he
   obtain ⟨i, d, z, aJ, aP, a_, cD, c4, b8, b2⟩ := bp.info (fS ay (by simp))
   rw [ay] at b2
   have := C7 b2; subst this
   obtain ⟨ab, a0, rfl⟩ := Dl h au aO b8
   refine Good.same h (v := .bool r) ?_ rfl (of_bool _)
   rw [eqGuard_at_pointer]
   simp [binOp, ab]
  ·rename_i e ay
   simp only [Option.map_eq_some_iff] at he
   obtain ⟨r, aO, rfl⟩ := he
   obtain ⟨i, d, z, aJ, aP, a_, cD, c4, b8, b2⟩ := bp.info (fS ay (by simp))
   rw [ay] at b2
   have := C7 b2; subst this
   obtain ⟨ab, a0, rfl⟩ := Dl h au aO b8
   refine Good.same h (v := .bool !r) ?_ rfl (of_bool _)
   rw [eqGuard_at_pointer]
   simp [binOp, ab]
  ·cases he
 ·cases he
end
section
variable {C : bZ} {w0 w : World} {F0 X F : Nat → Prop} {S : Nat → Nat → Prop} {s s1 : aj} {az : Nat → Value} {av : I}
def un (op : UnOp) (x : I) : Option I :=
 match op, x with
 | .not, .bool b => some (.bool !b)
 | .not, .dV => some .dV
 | .neg, .int k n => some (.int k (k.wrap (0 - n)))
 | _, _ => none
theorem JV (h : bE w0 F0 X F S s az w) {op : UnOp} {x : I} {v : Value} (aK : aH w F s az x v (fun _ => False)) (he : un op x = some av) : Good C w0 F0 X az w (Op.unary op v) av s := by
 unfold un at he
 split at he <;> first | (cases he; done) | (simp only [Option.some.injEq] at he; subst he)
 ·have := pz aK; subst this
  exact Good.same h rfl rfl (of_bool _)
 ·obtain ⟨b, rfl⟩ := Df aK
  exact Good.same h rfl rfl (zz _)
 ·have := nG aK; subst this
  exact Good.same h rfl rfl (of_int _ _)
def dz (s : aj) (x : I) : Option I :=
 match x with
 | .ref d => some (.ref d)
 | .fn f c => some (.fn f c)
 | .h y q => match I.sub q (s y) with
   | some (.bd _) => some (.h y q)
   | _ => none
 | _ => none
theorem JW {d : I} {v : Value} {aL : Nat → Prop} (h : aH w F s az (.ref d) v aL) : ∃ b o dt, v = .pointer (some ⟨b, o, none⟩) ∧ F b ∧ Rd w b o dt ∧ ax w F d dt (fun _ => False) := by
 have bq := (aH.cv rfl).1 h
 rw [ax, hq bq.1] at bq
 obtain ⟨_, b, o, dt, ab, af, aF, bb⟩ := bq
 simp at ab; subst ab
 exact ⟨b, o, dt, rfl, af, aF, bb⟩
theorem JX (h : bE w0 F0 X F S s az w) {x : I} {v : Value} (aK : aH w F s az x v (fun _ => False)) (he : dz s x = some av) :
  av = x ∧ x.plain = true ∧ ((∃ a, v = .pointer (some a)) ∨ ∃ f c, v = .func (.func f) #[] c) := by
 unfold dz at he
 split at he
 ·simp only [Option.some.injEq] at he; subst he
  obtain ⟨b, o, dt, rfl, _⟩ := JW aK
  exact ⟨rfl, rfl, .inl ⟨_, rfl⟩⟩
 ·simp only [Option.some.injEq] at he; subst he
  rw [aH] at aK
  obtain ⟨arr, rfl, _⟩ := aK
  exact ⟨rfl, rfl, .inr ⟨_, _, rfl⟩⟩
 ·split at he
  ·rename_i d ah
   simp only [Option.some.injEq] at he; subst he
   obtain ⟨b, cur, e, fr, rfl, _⟩ := Dg h aK ah
   exact ⟨rfl, rfl, .inl ⟨_, rfl⟩⟩
  ·cases he
 ·cases he
def ex (s : aj) (x : I) (k : Nat) : Option I :=
 match x with
 | .tuple ds => match ds[k]? with
   | some d => if d.plain = true then some d else none
   | none => none
 | .h y q => match I.sub q (s y) with
   | some (.tuple ds) => match ds[k]? with
     | some d => if I.e2 ds = true then none else some (if d.plain then d else .h y (q ++ [k]))
     | none => none
   | _ => none
 | _ => none
theorem Dm : ∀ (vs : List Value) (k : Nat) (x : Value) (ds : List I), vs[k]? = some x → vs.length = ds.length → (∀ (j : Nat) (d : I) (y : Value), ds[j]? = some d → vs[j]? = some y → (gJ y).length = d.wd) →
  ∃ l r, vs.flatMap gJ = l ++ (gJ x ++ r) ∧ l.length = I.dp (ds.take k)
 | [], k, x, ds, h, _, _ => by simp at h
 | v :: vs, 0, x, ds, h, hl, hw => by
   simp at h; subst h
   exact ⟨[], vs.flatMap gJ, by simp, by simp [I.dp]⟩
 | v :: vs, k + 1, x, d :: ds, h, hl, hw => by
   obtain ⟨l, r, aJ, aP⟩ := Dm vs k x ds (by simpa using h) (by simpa using hl) (fun j d y ab af => hw (j + 1) d y (by simpa using ab) (by simpa using af))
   refine ⟨gJ v ++ l, r, by simp [aJ], ?_⟩
   have := hw 0 d v (by simp) (by simp)
   simp [I.dp, aP, this]
 | v :: vs, k + 1, x, [], h, hl, hw => by simp at hl
theorem JY {d : I} {v : Value} (h : ha d v) (_hd : ∀ vs, d ≠ .tuple vs) : cm v = gJ v := by
 cases d with
 | agg aw => obtain ⟨arr, rfl⟩ := h; rfl
 | _ =>
   have ab : Value.fN v = true := h
   cases v <;> first | rfl | (simp [Value.fN] at ab)
theorem JZ {d : I} {v : Value} (h : ha d v) (ah : ∀ vs, d ≠ .tuple vs) : du d v := by
 cases d with
 | tuple vs => exact (ah _ rfl).elim
 | _ => exact h
theorem J0 (h : bE w0 F0 X F S s az w) {x : I} {v : Value} {k : Nat} (aK : aH w F s az x v (fun _ => False)) (he : ex s x k = some av) : Good C w0 F0 X az w (Instr.extract v k) av s := by
 have pick : ∀ (ds : List I) (d : I) (arr : Array Value), ds[k]? = some d → (arr.size = ds.length ∧ ∀ (k : Nat) (d : I) (x : Value), ds[k]? = some d → arr[k]? = some x → ha d x ∧ (∀ vs, d ≠ .tuple vs) ∧ (gJ x).length = d.wd) →
   ∃ x, arr[k]? = some x ∧ du d x ∧ ((cm (.tuple arr)).drop (I.dp (ds.take k))).take d.wd = cm x := by
  intro ds d arr ah ⟨bG, lD⟩
  have dQ : k < arr.size := by rw [bG]; exact (List.getElem?_eq_some_iff.1 ah).1
  have au : arr[k]? = some arr[k] := Array.getElem?_eq_getElem dQ
  obtain ⟨aY, bs, b_⟩ := lD k d _ ah au
  obtain ⟨l, r, aJ, aP⟩ := Dm arr.toList k arr[k] ds (by simp [dQ]) (by simpa using bG) (fun j d y ab af => (lD j d y ab (by simpa using af)).2.2)
  refine ⟨_, au, JZ aY bs, ?_⟩
  rw [JY aY bs]
  simp only [cm]
  rw [aJ]
  exact qY l _ r _ _ aP b_
 unfold ex at he
 split at he
 ·rename_i ds
  split at he
  ·rename_i d ah
   split at he
   ·rename_i an
    simp only [Option.some.injEq] at he; subst he
    have bq := (aH.cv rfl).1 aK
    obtain ⟨⟨arr, rfl, bG⟩, gU⟩ := bq
    obtain ⟨x, au, aa, al⟩ := pick ds d arr ah bG
    have aO : (Instr.extract (.tuple arr) k).run C.P w = .ok x w := by simp [Instr.extract, au]
    rw [ax] at gU
    obtain ⟨cr, fc, cu, b1, iV, e, gQ, fo, gi, gR, fX, kD⟩ := a6.pick ds _ _ k d gU ah
    rw [e, qY cr fc cu _ _ gQ (ax.length _ _ _ fX)] at al
    by_cases aZ : d.tree = true
    ·exact Good.same h aO an ((aH.cv aZ).2 ⟨aa, by rw [← al]; exact ax.plain _ _ _ _ an fX⟩)
    ·cases d <;> first | exact (aZ rfl).elim | (rw [ax] at fX; exact fX.elim) | exact Good.same h aO rfl (by rw [aH]; trivial)
   ·cases he
  ·cases he
 ·rename_i y q
  split at he
  ·rename_i ds ah
   split at he
   ·rename_i d ay
    split at he
    ·cases he
    ·rename_i fj
     simp only [Option.some.injEq] at he
     have fj : (I.tuple ds).plain = false := by simpa [I.plain] using fj
     rw [aH] at aK
     obtain ⟨cw, a, aY, bs, b_⟩ := aK _ ah fj
     obtain ⟨arr, rfl, bG⟩ := b_
     obtain ⟨x, au, aa, al⟩ := pick ds d arr ay bG
     have aO : (Instr.extract (.tuple arr) k).run C.P w = .ok x w := by simp [Instr.extract, au]
     have bC := h.da y
     rw [aH.cv (hb ah (.inl fj))] at bC
     obtain ⟨fe, cl, dH, fW, k0, bN, b6, et, dy, fk⟩ := ctx q (s y) (cm (az y)) (S y) none _ bC.2 ah
     rw [k0] at aY
     simp only [Option.some.injEq, Prod.mk.injEq, true_and] at aY
     obtain ⟨rfl, rfl⟩ := aY
     rw [bs] at al
     split at he
     ·rename_i an
      subst he
      rw [ax] at dy
      obtain ⟨cr, fc, cu, b1, iV, e, gQ, fo, gi, gR, fX, kD⟩ := a6.pick ds _ _ k d dy ay
      rw [e, qY cr fc cu _ _ gQ (ax.length _ _ _ fX)] at al
      by_cases aZ : d.tree = true
      ·exact Good.same h aO an ((aH.cv aZ).2 ⟨aa, by rw [← al]; exact ax.plain _ _ _ _ an fX⟩)
      ·cases d <;> first | exact (aZ rfl).elim | (rw [ax] at fX; exact fX.elim) | exact Good.same h aO rfl (by rw [aH]; trivial)
     ·subst he
      refine Good.same h aO rfl ?_
      rw [aH]
      intro d2 h6 C2
      rw [vU w q _ _ _ _ _ _ [k] k0]
      rw [vT _ _ _ _ ah] at h6
      simp only [I.sub, ay, Option.some.injEq] at h6
      subst h6
      simp only [cU, ay]
      exact ⟨_, _, rfl, al.symm, aa⟩
   ·cases he
  ·cases he
 ·cases he
end
section
variable {C : bZ} {w0 w : World} {F0 X F : Nat → Prop} {S : Nat → Nat → Prop} {s s1 : aj} {az : Nat → Value} {av : I}
def idx (C : bZ) (T : TypeId) (x i : I) : Option I :=
 match (C.T T).k, x, i with
 | .str, .str l, .int _ n => if 0 ≤ n then (match l[n.toNat]? with | some b => some (.int .u8 b.toNat) | none => none) else none
 | _, _, _ => none
theorem J1 (l : List UInt8) (n : Nat) : (⟨⟨l⟩⟩ : ByteArray)[n]? = l[n]? := by
 by_cases h : n < l.length
 ·have bq : n < (⟨⟨l⟩⟩ : ByteArray).size := h
  rw [List.getElem?_eq_getElem h, getElem?_pos (⟨⟨l⟩⟩ : ByteArray) n bq]
  rfl
 ·have bq : ¬ n < (⟨⟨l⟩⟩ : ByteArray).size := h
  rw [List.getElem?_eq_none (by omega), getElem?_neg (⟨⟨l⟩⟩ : ByteArray) n bq]
theorem J2 (bp : C.Ok) (h : bE w0 F0 X F S s az w) {T : TypeId} {x i : I} {v q6 : Value} (aK : aH w F s az x v (fun _ => False)) (ak : aH w F s az i q6 (fun _ => False)) (he : idx C T x i = some av) :
  Good C w0 F0 X az w (Instr.index T v q6) av s := by
 unfold idx at he
 split at he
 ·rename_i l k n ay
  have := m5 aK; subst this
  have := nG ak; subst this
  obtain ⟨i, d, z, aJ, aP, a_, cD, c4, b8, b2⟩ := bp.info (fS ay (by simp))
  rw [ay] at b2
  have := oq b2; subst this
  split at he
  ·rename_i bl
   split at he
   ·rename_i b U
    simp only [Option.some.injEq] at he; subst he
    refine Good.same h ?_ rfl (of_int _ _)
    simp [Instr.index, asIntOf, run_underlying b8, bl, J1, U]
   ·cases he
  ·cases he
 ·cases he
def lenOf (s : aj) : I → Option Nat
 | .str l => some l.length
 | .bA => some 0
 | .slice xs => some xs.length
 | .h y q => match I.sub q (s y) with
   | some (.aE _ xs) => some xs.length
   | _ => none
 | _ => none
def kl (C : bZ) (s : aj) (T : TypeId) (x : I) : Option I :=
 match (C.T T).k, x with
 | .str, .str l => some (.int .i64 l.length)
 | .slice _, .bA => some (.int .i64 0)
 | .slice _, .slice xs => some (.int .i64 xs.length)
 | .slice _, .h y q => match I.sub q (s y) with
   | some (.aE _ xs) => some (.int .i64 xs.length)
   | _ => none
 | _, _ => none
theorem wa {xs : List I} {v : Value} {aL : Nat → Prop} (h : aH w F s az (.slice xs) v aL) : (xs = [] ∧ ∃ a c, v = .slice a 0 c ∧ c ≤ maxLen ∧ (a = none → c = 0)) ∨
  ∃ b o cap dt sz, v = .slice (some ⟨b, o, none⟩) xs.length cap ∧ F b ∧ xs.length ≤ cap ∧ cap ≤ maxLen ∧ (∀ d ∈ xs, d.wd = sz) ∧ Rd w b o dt ∧ a6 w F xs dt (fun _ => False) := by
 have bq := (aH.cv rfl).1 h
 rw [ax, hq bq.1] at bq
 obtain ⟨_, ⟨rfl, a, c, af, aF⟩ | ⟨b, o, cap, dt, sz, af, aF⟩⟩ := bq
 ·simp at af; exact .inl ⟨rfl, a, c, af, aF⟩
 ·simp at af; exact .inr ⟨b, o, cap, dt, sz, af, aF⟩
theorem J3 (bp : C.Ok) (h : bE w0 F0 X F S s az w) {T ty : TypeId} {x : I} {v : Value} (aK : aH w F s az x v (fun _ => False)) (he : kl C s T x = some av) :
  Good C w0 F0 X az w (Builtin.len_ #[T] ty #[v]) av s := by
 unfold kl at he
 split at he
 ·rename_i l ay
  have := m5 aK; subst this
  obtain ⟨i, d, z, aJ, aP, a_, cD, c4, b8, b2⟩ := bp.info (fS ay (by simp))
  rw [ay] at b2
  have := oq b2; subst this
  simp only [Option.some.injEq] at he; subst he
  refine Good.same h ?_ rfl (of_int _ _)
  simp [Builtin.len_, run_underlying b8, goInt]
  rfl
 ·rename_i e ay
  have := nH aK; subst this
  obtain ⟨i, d, z, aJ, aP, a_, cD, c4, b8, b2⟩ := bp.info (fS ay (by simp))
  rw [ay] at b2
  have := jB b2; subst this
  simp only [Option.some.injEq] at he; subst he
  refine Good.same h ?_ rfl (of_int _ _)
  simp [Builtin.len_, run_underlying b8, goInt]
 ·rename_i e xs ay
  obtain ⟨i, d, z, aJ, aP, a_, cD, c4, b8, b2⟩ := bp.info (fS ay (by simp))
  rw [ay] at b2
  have := jB b2; subst this
  simp only [Option.some.injEq] at he; subst he
  refine Good.same h ?_ rfl (of_int _ _)
  rcases wa aK with ⟨rfl, a, c, rfl, _⟩ | ⟨b, o, cap, dt, sz, rfl, _⟩ <;> simp [Builtin.len_, run_underlying b8, goInt]
 ·rename_i e y q ay
  split at he
  ·rename_i sz xs ah
   obtain ⟨i, d, z, aJ, aP, a_, cD, c4, b8, b2⟩ := bp.info (fS ay (by simp))
   rw [ay] at b2
   have := jB b2; subst this
   simp only [Option.some.injEq] at he; subst he
   refine Good.same h ?_ rfl (of_int _ _)
   rcases zB h aK ah with ⟨rfl, _, rfl⟩ | ⟨b, cap, cur, aP, fr, rfl, _⟩ <;> simp [Builtin.len_, run_underlying b8, goInt]
  ·cases he
 ·cases he
def bytesOf : List I → Option (List UInt8)
 | [] => some []
 | .int .u8 n :: r => if 0 ≤ n ∧ n < 256 then (bytesOf r).map (UInt8.ofNat n.toNat :: ·) else none
 | _ => none
def iY (b : UInt8) : I := .int .u8 b.toNat
theorem J4 (l : List UInt8) : bytesOf (l.map iY) = some l := by
 induction l with
 | nil => rfl
 | cons b l ih =>
   have U : b.toNat < 256 := b.toNat_lt
   simp only [List.map_cons, iY, bytesOf, Int.toNat_natCast]
   rw [if_pos (by omega), ih]
   simp
theorem zC : ∀ (xs : List I) (l : List UInt8) (cs : List Value) (aL : Nat → Prop), bytesOf xs = some l → a6 w F xs cs aL → cs = l.map (fun b => .int .u8 (b.toNat : Int)) ∧ xs.length = l.length
 | [], l, cs, aL, h, aO => by simp [bytesOf] at h; subst h; rw [a6] at aO; subst aO; exact ⟨rfl, rfl⟩
 | x :: xs, l, cs, aL, h, aO => by
   unfold bytesOf at h
   split at h
   ·rename_i e; cases e
   ·rename_i n r e
    simp only [List.cons.injEq] at e
    obtain ⟨rfl, rfl⟩ := e
    split at h
    ·rename_i bl
     simp only [Option.map_eq_some_iff] at h
     obtain ⟨dn, ab, rfl⟩ := h
     rw [a6] at aO
     obtain ⟨cr, cu, b1, dg, rfl, af, aF, _⟩ := aO
     obtain ⟨rfl, bb⟩ := zC xs dn cu dg ab aF
     rw [ax] at af; subst af
     refine ⟨?_, by simp [bb]⟩
     simp only [List.map_cons, List.cons_append, List.nil_append, List.cons.injEq, and_true, Value.int.injEq, true_and]
     simp only [UInt8.toNat_ofNat']
     omega
    ·cases h
   ·cases h
theorem bE.s0 (h : bE w0 F0 X F S s az w) {aD : World} {sz cap : Nat} {xs : List I} {cur : Array Value} {e : TypeId} {fr : Nat × Nat} {Sn : Nat → Prop}
  (hw : aD.heap = w.heap.push (.cells cur e fr)) (ab : aD.os = w.os) (af : aD.tape = w.tape) (aF : aD.output = w.output)
  (bB : mh fr cur.size) (hle : xs.length ≤ cap) (hm : cap ≤ maxLen) (dB : cur.size = cap * sz) (kE : ∀ d ∈ xs, d.wd = sz) (aK : a6 w F xs (cur.toList.take (xs.length * sz)) Sn)
  (dQ : ∀ b, Sn b → b < w.heap.size) (bo : ∀ b, Sn b → ¬ F b) (bL : ∀ u b, Sn b → ¬ S u b) (bh : ∀ b, Sn b → X b ∨ w0.heap.size ≤ b) :
  bE w0 F0 X F S s az aD ∧ jA w0 X F S s az aD (.aE sz xs) (.slice (some ⟨w.heap.size, 0, none⟩) xs.length cap) := by
 have hold : ∀ b, b < w.heap.size → aD.heap[b]? = w.heap[b]? := by
  intro b U
  rw [hw, Array.getElem?_push, if_neg (by omega)]
 have agS : aD.heap.size = w.heap.size + 1 := by rw [hw]; simp
 refine ⟨h.grow hold (by omega) ab af aF, .inr ⟨rfl, rfl, fun b => b = w.heap.size ∨ Sn b, ?_, ?_, ?_, ?_, ?_⟩⟩
 ·simp only [cm, gJ]
  rw [ax]
  refine .inr ⟨w.heap.size, cap, cur, e, fr, Sn, rfl, .inl rfl, ?_, bB, hle, hm, dB, kE, ?_, fun c al => .inr al, fun al => Nat.lt_irrefl _ (dQ _ al)⟩
  ·rw [hw]; simp
  ·exact a6.frame (fun b U => hold b (h.eT b U)) _ _ _ (fun b U => hold b (dQ b U)) aK
 ·rintro b (rfl | U)
  ·omega
  ·have := dQ b U; omega
 ·rintro b (rfl | U) sY
  ·exact Nat.lt_irrefl _ (h.eT _ sY)
  ·exact bo b U sY
 ·rintro u b (rfl | U) hu
  ·exact Nat.lt_irrefl _ (h.dM _ _ hu)
  ·exact bL u b U hu
 ·rintro b (rfl | U)
  ·exact .inr h.size
  ·exact bh b U
def eP (C : bZ) (s : aj) (A B : TypeId) (x : I) : Option I :=
 if (C.T A).ok = true then
 match (C.T B).k, x with
 | .int k, .int _ n => some (.int k (k.wrap n))
 | .str, .str l => match (C.T A).k with
   | .str => some (.str l)
   | _ => none
 | .str, x => match (C.T A).k with
   | .slice e => match (C.T e).k with
     | .int .u8 => match x with
       | .bA => some (.str [])
       | .slice xs => (bytesOf xs).map .str
       | .h y q => match I.sub q (s y) with
         | some (.aE 1 xs) => (bytesOf xs).map .str
         | _ => none
       | _ => none
     | _ => none
   | _ => none
 | .slice e, .str l => match (C.T A).k, (C.T e).k with
   | .str, .int .u8 => if l.length ≤ 9223372036854775807 then some (.aE 1 (l.map iY)) else none
   | _, _ => none
 | _, _ => none
 else none
theorem Dn (l : List UInt8) (aL : Nat → Prop) : a6 w F (l.map iY) (l.map fun b => .int .u8 (b.toNat : Int)) aL := by
 induction l generalizing aL with
 | nil => simp only [List.map_nil]; rw [a6]
 | cons b l ih =>
   simp only [List.map_cons]
   rw [a6]
   exact ⟨[.int .u8 (b.toNat : Int)], _, fun _ => False, fun _ => False, rfl, by rw [iY, ax], ih _, fun _ h => h.elim, fun _ h => h.elim, fun _ h => h.elim⟩
theorem J5 (bp : C.Ok) (h : bE w0 F0 X F S s az w) {A B : TypeId} {x : I} {v : Value} (aK : aH w F s az x v (fun _ => False)) (he : eP C s A B x = some av) :
  Good C w0 F0 X az w (convert A B v) av s := by
 unfold eP at he
 split at he
 ·rename_i hx
  obtain ⟨bX, agT, agU, ad, aT, a3, a4, a5, m6, m7⟩ := bp.info hx
  split at he
  ·rename_i k cE n ay
   have := nG aK; subst this
   obtain ⟨i, d, z, aJ, aP, a_, cD, c4, b8, b2⟩ := bp.info (fS ay (by simp))
   rw [ay] at b2
   have := vV b2; subst this
   simp only [Option.some.injEq] at he; subst he
   refine Good.same h ?_ rfl (of_int _ _)
   simp [convert, run_underlying m6, run_underlying b8, Conv.intToInt]
  ·rename_i l ay
   have := m5 aK; subst this
   obtain ⟨i, d, z, aJ, aP, a_, cD, c4, b8, b2⟩ := bp.info (fS ay (by simp))
   rw [ay] at b2
   have := oq b2; subst this
   split at he
   ·rename_i s3
    rw [s3] at m7
    have := oq m7; subst this
    simp only [Option.some.injEq] at he; subst he
    refine Good.same h ?_ rfl (mq _)
    simp [convert, run_underlying m6, run_underlying b8]
   ·cases he
  ·rename_i x ay _
   obtain ⟨i, d, z, aJ, aP, a_, cD, c4, b8, b2⟩ := bp.info (fS ay (by simp))
   rw [ay] at b2
   have := oq b2; subst this
   split at he
   ·rename_i e s3
    rw [s3] at m7
    have := jB m7; subst this
    split at he
    ·rename_i s4
     obtain ⟨q4, br, ou, f1, f2, f3, f4, f5, f6, f7⟩ := bp.info (fS s4 (by simp))
     rw [s4] at f7
     have := vV f7; subst this
     have fin : ∀ (l : List UInt8) (b o cap : Nat), Rd w b o (l.map fun b => .int .u8 (b.toNat : Int)) → (convert A B (.slice (some ⟨b, o, none⟩) l.length cap)).run C.P w = .ok (.string ⟨⟨l⟩⟩) w := by
      intro l b o cap il
      refine run_convert_bytes_back w A B e ⟨b, o, none⟩ cap l m6 f6 b8 (fun j bS => ?_)
      rw [Addr.add_lit]
      exact il j _ (by simp [bS])
     have nil : (convert A B (.slice none 0 0)).run C.P w = .ok (.string ⟨⟨[]⟩⟩) w := by
      simp [convert, run_underlying m6, run_underlying b8, run_underlying f6, Conv.bytesToString]
      rfl
     split at he
     ·have := nH aK; subst this
      simp only [Option.some.injEq] at he; subst he
      exact Good.same h nil rfl (mq _)
     ·rename_i xs _
      simp only [Option.map_eq_some_iff] at he
      obtain ⟨l, hl, rfl⟩ := he
      rcases wa aK with ⟨rfl, a, c, rfl, _, pA⟩ | ⟨b, o, cap, dt, sz, rfl, ab, af, aF, bb, bV, cd⟩
      ·simp [bytesOf] at hl; subst hl
       cases a with
       | none =>
         have := pA rfl; subst this
         exact Good.same h nil rfl (mq _)
       | some a =>
         refine Good.same h ?_ rfl (mq _)
         exact run_convert_bytes_back w A B e a c [] m6 f6 b8 (fun j bS => by simp at bS)
      ·obtain ⟨rfl, cf⟩ := zC xs l dt _ hl cd
       rw [cf]
       exact Good.same h (fin l b o cap bV) rfl (mq _)
     ·rename_i y q
      split at he
      ·rename_i xs ah
       simp only [Option.map_eq_some_iff] at he
       obtain ⟨l, hl, rfl⟩ := he
       rcases zB h aK ah with ⟨rfl, a, rfl⟩ | ⟨b, cap, cur, aP, fr, rfl, ab, af, aF, bb, bV, cd, aL, cf, _⟩
       ·simp [bytesOf] at hl; subst hl
        cases a with
        | none => exact Good.same h nil rfl (mq _)
        | some a =>
          refine Good.same h ?_ rfl (mq _)
          exact run_convert_bytes_back w A B e a 0 [] m6 f6 b8 (fun j bS => by simp at bS)
       ·obtain ⟨er, g1⟩ := zC xs l _ _ hl cf
        rw [g1]
        refine Good.same h (fin l b 0 cap ?_) rfl (mq _)
        rw [← er]
        exact qX ab _
      ·cases he
     ·cases he
    ·cases he
   ·cases he
  ·rename_i e l ay
   have := m5 aK; subst this
   obtain ⟨i, d, z, aJ, aP, a_, cD, c4, b8, b2⟩ := bp.info (fS ay (by simp))
   rw [ay] at b2
   have := jB b2; subst this
   split at he
   ·rename_i s3 s4
    rw [s3] at m7
    have := oq m7; subst this
    obtain ⟨q4, br, ou, f1, f2, f3, f4, f5, f6, f7⟩ := bp.info (fS s4 (by simp))
    rw [s4] at f7
    have := vV f7; subst this
    split at he
    ·rename_i hl
     simp only [Option.some.injEq] at he; subst he
     have aa : (⟨⟨l⟩⟩ : ByteArray).size = l.length := rfl
     have s5 := grownCap_ge w l.length 0 e
     have J6 := grownCap_le_maxLen w l.length 0 e (by unfold maxLen; omega)
     have Dp : (bytesRow ⟨⟨l⟩⟩ (grownCap w l.length 0 e)).toList = l.map (fun b => Value.int .u8 (b.toNat : Int)) ++ List.replicate (grownCap w l.length 0 e - l.length) (.int .u8 0) := by
      simp [bytesRow, aa]
     have dB : (bytesRow ⟨⟨l⟩⟩ (grownCap w l.length 0 e)).size = grownCap w l.length 0 e * 1 := by
      have : (bytesRow ⟨⟨l⟩⟩ (grownCap w l.length 0 e)).size = (bytesRow ⟨⟨l⟩⟩ (grownCap w l.length 0 e)).toList.length := by simp
      rw [this, Dp]; simp; omega
     have px := run_bytes_of_string w A B e ⟨⟨l⟩⟩ m6 b8 f6
     rw [aa] at px
     have iL := h.s0 (aD := w.drew.alloc (.cells (bytesRow ⟨⟨l⟩⟩ (grownCap w l.length 0 e)) e ((bytesRow ⟨⟨l⟩⟩ (grownCap w l.length 0 e)).size, (bytesRow ⟨⟨l⟩⟩ (grownCap w l.length 0 e)).size + 1)))
      (sz := 1) (cap := grownCap w l.length 0 e) (xs := l.map iY) (cur := bytesRow ⟨⟨l⟩⟩ (grownCap w l.length 0 e)) (e := e) (Sn := fun _ => False) rfl rfl rfl rfl
      (fun o bU ⟨ab, _⟩ => by simp only at ab; omega) (by simpa using s5) J6 dB (by intro d ah; obtain ⟨b, _, rfl⟩ := List.mem_map.1 ah; rfl)
      (by rw [Dp, List.take_left' (by simp)]; exact Dn l _) (fun _ h => h.elim) (fun _ h => h.elim) (fun _ _ h => h.elim) (fun _ h => h.elim)
     simp only [List.length_map] at iL
     exact ⟨_, _, F, S, px, iL.1, iL.2⟩
    ·cases he
   ·cases he
  ·cases he
 ·cases he
end
section
variable {C : bZ} {w0 w : World} {F0 X F : Nat → Prop} {S : Nat → Nat → Prop} {s s1 : aj} {az : Nat → Value} {av : I}
def iM (d : Nat) : Option I → Option Nat
 | none => some d
 | some (.int _ n) => if 0 ≤ n then some n.toNat else none
 | some _ => none
def ed (C : bZ) (s : aj) (T : TypeId) (x : I) (cF ak : Option I) : Option (I × aj) :=
 match (C.T T).k, x with
 | .str, .str l => match iM 0 cF, iM l.length ak with
   | some a, some b => if a ≤ b ∧ b ≤ l.length then some (.str ((l.take b).drop a), s) else none
   | _, _ => none
 | .slice e, .bA => match iM 0 cF, iM 0 ak with
   | some 0, some 0 => if (C.T e).ok = true then some (.bA, s) else none
   | _, _ => none
 | .slice e, .slice xs => match iM 0 cF, iM xs.length ak with
   | some a, some b => if a ≤ b ∧ b ≤ xs.length ∧ (C.T e).ok = true ∧ (∀ d ∈ xs, d.wd = (C.T e).sz) then some (.slice ((xs.take b).drop a), s) else none
   | _, _ => none
 | .slice e, .h y q => match I.sub q (s y) with
   | some (.aE sz xs) => match iM 0 cF, iM xs.length ak with
     | some 0, some b => if b ≤ xs.length ∧ (C.T e).ok = true then (match ct s (.h y q) with | some (_, s1) => some (.aE sz (xs.take b), s1) | none => none) else none
     | _, _ => none
   | _ => none
 | _, _ => none
def nJ (w : World) (F : Nat → Prop) (s : aj) (az : Nat → Value) : Option I → Option Value → Prop
 | none, none => True
 | some d, some v => aH w F s az d v (fun _ => False)
 | _, _ => False
theorem Dq {d : Nat} {o : Option I} {v : Option Value} (bU : nJ w F s az o v) {a : Nat} (h : iM d o = some a) : (o = none ∧ v = none ∧ a = d) ∨ ∃ k, v = some (.int k a) := by
 cases o with
 | none =>
   cases v with
   | none => simp [iM] at h; exact .inl ⟨rfl, rfl, h.symm⟩
   | some v => simp [nJ] at bU
 | some x =>
   cases v with
   | none => simp [nJ] at bU
   | some v =>
     simp only [nJ] at bU
     cases x with
     | int k n =>
       have := nG bU; subst this
       simp only [iM] at h
       split at h
       ·rename_i bl
        simp only [Option.some.injEq] at h; subst h
        obtain ⟨m, rfl⟩ := Int.eq_ofNat_of_zero_le bl
        exact .inr ⟨k, rfl⟩
       ·cases h
     | _ => simp [iM] at h
theorem q7 {P : Program} {isS : Bool} {len cap a b : Nat} {cF ak : Option I} {pB pC : Option Value} (lI : nJ w F s az cF pB) (lJ : nJ w F s az ak pC) (b7 : iM 0 cF = some a) (U : iM len ak = some b) (je : a ≤ b) (J7 : b ≤ cap) (_hlc : len ≤ cap) :
  (Instr.sliceBounds isS len cap pB pC none).run P w = .ok (a, b, cap) w := by
 rcases Dq lI b7 with ⟨_, rfl, rfl⟩ | ⟨k, rfl⟩ <;> rcases Dq lJ U with ⟨_, rfl, rfl⟩ | ⟨cE, rfl⟩ <;>
  simp [Instr.sliceBounds, Instr.sliceBound, asIntOf, je, J7]
theorem q8 (bp : C.Ok) {T : TypeId} (ay : (C.T T).flat = true) (v : Value) (cF ak gn : Option Value) (w : World) : (Instr.sliceAt T v cF ak gn).run C.P w = (Instr.slice T v cF ak gn).run C.P w := by
 obtain ⟨i, d, z, aJ, aP, a_, cD, c4, b8, b2⟩ := bp.info (C9 ay)
 have cV : ∀ n e, d ≠ .array n e := by
  clear b8
  unfold fR.flat at ay
  generalize (C.T T).k = kk at *
  cases kk <;> cases d <;> simp [jV] at b2 ay ⊢
 cases d <;> first | exact (cV _ _ rfl).elim | simp [Instr.sliceAt, run_underlying b8]
theorem q9 {x : fR} {k : lF} (h : x.k = k) (ay : k ≠ .other) (aa : ∀ aw, k ≠ .struct aw) : x.flat = true := by
 unfold fR.flat; rw [h]; cases k <;> first | rfl | exact (ay rfl).elim | exact (aa _ rfl).elim
theorem a6.split : ∀ (n : Nat) (xs : List I) (cs : List Value) (aL : Nat → Prop), a6 w F xs cs aL → ∃ cr cu b1 dg, cs = cr ++ cu ∧ a6 w F (xs.take n) cr b1 ∧ a6 w F (xs.drop n) cu dg ∧ (∀ b, b1 b → aL b) ∧ (∀ b, dg b → aL b) ∧ (∀ b, b1 b → ¬ dg b)
 | 0, xs, cs, aL, h => ⟨[], cs, fun _ => False, aL, rfl, by rw [List.take_zero, a6], h, fun _ h => h.elim, fun _ h => h, fun _ h => h.elim⟩
 | n + 1, [], cs, aL, h => by rw [a6] at h; subst h; exact ⟨[], [], fun _ => False, fun _ => False, rfl, by rw [List.take_nil, a6], by rw [List.drop_nil, a6], fun _ h => h.elim, fun _ h => h.elim, fun _ h => h.elim⟩
 | n + 1, x :: xs, cs, aL, h => by
   rw [a6] at h
   obtain ⟨cr, cu, gq, fJ, rfl, ab, af, aF, bb, bV⟩ := h
   obtain ⟨d1, d2, b1, dg, rfl, aY, bs, b_, dq, ey⟩ := a6.split n xs cu fJ af
   refine ⟨cr ++ d1, d2, fun b => gq b ∨ b1 b, dg, by simp, ?_, bs, ?_, fun b U => bb _ (dq _ U), ?_⟩
   ·rw [List.take_succ_cons, a6]
    exact ⟨cr, d1, gq, b1, rfl, ab, aY, fun _ h => .inl h, fun _ h => .inr h, fun b U al => bV b U (b_ b al)⟩
   ·rintro b (U | U)
    ·exact aF b U
    ·exact bb b (b_ b U)
   ·rintro b (U | U) al
    ·exact bV b U (dq b al)
    ·exact ey b U al
theorem J8 (bp : C.Ok) (h : bE w0 F0 X F S s az w) {T : TypeId} {x : I} {v : Value} {cF ak : Option I} {pB pC : Option Value} (au : x.plain = true) (aK : aH w F s az x v (fun _ => False)) (lI : nJ w F s az cF pB) (lJ : nJ w F s az ak pC)
  (he : ed C s T x cF ak = some (av, s1)) : Good C w0 F0 X az w (Instr.sliceAt T v pB pC none) av s1 := by
 unfold ed at he
 split at he
 ·rename_i l ay
  have := m5 aK; subst this
  obtain ⟨i, d, z, aJ, aP, a_, cD, c4, b8, b2⟩ := bp.info (fS ay (by simp))
  rw [ay] at b2
  have := oq b2; subst this
  split at he
  ·rename_i a b b7 U
   split at he
   ·rename_i je
    simp only [Option.some.injEq, Prod.mk.injEq] at he
    obtain ⟨rfl, rfl⟩ := he
    refine Good.same h ?_ rfl (mq _)
    rw [q8 bp (q9 ay (by simp) (by simp))]
    have dB : (⟨⟨l⟩⟩ : ByteArray).size = l.length := rfl
    have lK := q7 (P := C.P) (isS := false) (len := l.length) (cap := l.length) lI lJ b7 U je.1 je.2 (Nat.le_refl _)
    have J9 : (⟨⟨l⟩⟩ : ByteArray).extract a b = ⟨⟨(l.take b).drop a⟩⟩ := by
     apply ByteArray.ext
     simp [ByteArray.data_extract, List.drop_take]
    simp [Instr.slice, run_underlying b8, dB, lK, J9]
   ·cases he
  ·cases he
 ·rename_i e ay
  have := nH aK; subst this
  obtain ⟨i, d, z, aJ, aP, a_, cD, c4, b8, b2⟩ := bp.info (fS ay (by simp))
  rw [ay] at b2
  have := jB b2; subst this
  split at he
  ·rename_i b7 U
   split at he
   ·rename_i mu
    obtain ⟨q4, br, ou, f1, f2, f3, f4, f5, f6, f7⟩ := bp.info mu
    simp only [Option.some.injEq, Prod.mk.injEq] at he
    obtain ⟨rfl, rfl⟩ := he
    have lK := q7 (P := C.P) (isS := true) (len := 0) (cap := 0) lI lJ b7 U (Nat.le_refl _) (Nat.le_refl _) (Nat.le_refl _)
    refine Good.same h (v := .slice none 0 0) ?_ rfl aK
    rw [q8 bp (q9 ay (by simp) (by simp))]
    simp [Instr.slice, run_underlying b8, lK, iI f1, f2]
   ·cases he
  ·cases he
 ·rename_i e xs ay
  obtain ⟨i, d, z, aJ, aP, a_, cD, c4, b8, b2⟩ := bp.info (fS ay (by simp))
  rw [ay] at b2
  have := jB b2; subst this
  split at he
  ·rename_i a b b7 U
   split at he
   ·rename_i je
    obtain ⟨J_, Dr, mu, kE⟩ := je
    obtain ⟨q4, br, ou, f1, f2, f3, f4, f5, f6, f7⟩ := bp.info mu
    simp only [Option.some.injEq, Prod.mk.injEq] at he
    obtain ⟨rfl, rfl⟩ := he
    rcases wa aK with ⟨rfl, q_, c, rfl, s6, pA⟩ | ⟨iZ, o, cap, dt, sz, rfl, ab, af, aF, bb, bV, cd⟩
    ·have gD : b = 0 := by simpa using Dr
     subst gD
     have Ka : a = 0 := by omega
     subst Ka
     have lK := q7 (P := C.P) (isS := true) (len := 0) (cap := c) lI lJ b7 U (Nat.le_refl _) (Nat.zero_le _) (Nat.zero_le _)
     refine Good.same h (v := .slice q_ 0 c) ?_ rfl ((aH.cv rfl).2 ⟨rfl, by rw [ax]; exact .inl ⟨rfl, q_, c, rfl, s6, pA⟩⟩)
     rw [q8 bp (q9 ay (by simp) (by simp))]
     cases q_ with
     | none =>
       have := pA rfl; subst this
       simp [Instr.slice, run_underlying b8, lK, iI f1, f2]
     | some q_ => simp [Instr.slice, run_underlying b8, lK, iI f1, f2, Addr.add]
    ·have lK := q7 (P := C.P) (isS := true) (len := xs.length) (cap := cap) lI lJ b7 U J_ (Nat.le_trans Dr af) af
     obtain ⟨cr, cu, b1, dg, rfl, aY, bs, b_, dq, ey⟩ := a6.split b xs dt _ cd
     obtain ⟨d1, d2, agV, Ds, rfl, bN, b6, et, dy, fk⟩ := a6.split a (xs.take b) cr _ aY
     have zD : d1.length = a * (C.T e).sz := by
      rw [a6.length _ _ _ bN, pk _ (fun d ah => kE d (List.mem_of_mem_take (List.mem_of_mem_take ah))), List.length_take, List.length_take]
      congr 1; omega
     have hlen : ((xs.take b).drop a).length = b - a := by simp; omega
     have il : Rd w iZ (o + a * (C.T e).sz) d2 := by
      rw [← zD]
      have : Rd w iZ o (d1 ++ (d2 ++ cu)) := by simpa using bV
      exact this.zv
     have wb : a6 w F ((xs.take b).drop a) d2 (fun _ => False) := a6.mono (fun _ h => h) _ _ _ _ (fun b U => (b_ _ (dy _ U)).elim) b6
     have mem : ∀ d ∈ (xs.take b).drop a, d.wd = sz := fun d ah => bb d (List.mem_of_mem_take (List.mem_of_mem_drop ah))
     have run : (Instr.sliceAt T (.slice (some ⟨iZ, o, none⟩) xs.length cap) pB pC none).run C.P w = .ok (.slice (if cap = a then some ⟨iZ, o, none⟩ else some ⟨iZ, o + a * (C.T e).sz, none⟩) (b - a) (cap - a)) w := by
      rw [q8 bp (q9 ay (by simp) (by simp))]
      simp [Instr.slice, run_underlying b8, lK, iI f1, f2, Addr.add_lit]
     refine ⟨_, w, F, S, run, h, .inl ⟨rfl, (aH.cv rfl).2 ⟨rfl, ?_⟩⟩⟩
     simp only [cm, gJ]
     rw [ax]
     by_cases Dt : cap = a
     ·have Kb : b = a := by omega
      subst Kb
      have s7 : (xs.take b).drop b = [] := by simp
      rw [if_pos Dt]
      rw [s7] at wb ⊢
      rw [a6] at wb
      subst wb
      exact .inr ⟨iZ, o, cap - b, [], sz, by simp, ab, Nat.zero_le _, by omega, by simp, fun j c bS => by simp at bS, by rw [a6]⟩
     ·rw [if_neg Dt]
      exact .inr ⟨iZ, _, cap - a, d2, sz, by rw [hlen], ab, by rw [hlen]; omega, by omega, mem, il, wb⟩
   ·cases he
  ·cases he
 ·rename_i e y q ay
  split at he
  ·rename_i sz xs ah
   split at he
   ·rename_i b b7 U
    split at he
    ·rename_i wc
     split at he
     ·rename_i Kc s2 aZ
      simp only [Option.some.injEq, Prod.mk.injEq] at he
      obtain ⟨rfl, rfl⟩ := he
      obtain ⟨i, d, z, aJ, aP, a_, cD, c4, b8, b2⟩ := bp.info (fS ay (by simp))
      rw [ay] at b2
      have := jB b2; subst this
      obtain ⟨q4, br, ou, f1, f2, f3, f4, f5, f6, f7⟩ := bp.info wc.2
      have Kd : Kc = .aE sz xs := by
       simp only [ct, ah, I.plain] at aZ
       simp at aZ
       exact aZ.1.symm
      subst Kd
      obtain ⟨b1, gr, aY, bs, Sn, b_, dq, ey, gT, ht, jY⟩ := oo h rfl aK aZ
      rw [hq bs, ax] at b_
      rcases b_ with ⟨rfl, a0, jE⟩ | ⟨iZ, cap, cur, fC, fr, aL, jE, bN, b6, et, dy, fk, ej, iN, eB, km, ow⟩
      ·simp at jE; subst jE
       have gD : b = 0 := by simpa using wc.1
       subst gD
       have lK := q7 (P := C.P) (isS := true) (len := 0) (cap := 0) lI lJ b7 U (Nat.le_refl _) (Nat.le_refl _) (Nat.le_refl _)
       refine ⟨.slice a0 0 0, w, F, b1, ?_, gr, .inr ⟨rfl, rfl, fun _ => False, by simp only [cm, gJ]; rw [ax]; exact .inl ⟨rfl, _, rfl⟩, fun _ h => h.elim, fun _ h => h.elim, fun _ _ h => h.elim, fun _ h => h.elim⟩⟩
       rw [q8 bp (q9 ay (by simp) (by simp))]
       cases a0 <;> simp [Instr.slice, run_underlying b8, lK, iI f1, f2]
      ·simp at jE; subst jE
       have lK := q7 (P := C.P) (isS := true) (len := xs.length) (cap := cap) lI lJ b7 U (Nat.zero_le _) (Nat.le_trans wc.1 dy) dy
       have hlen : (xs.take b).length = b := by simp; omega
       have run : (Instr.sliceAt T (.slice (some ⟨iZ, 0, none⟩) xs.length cap) pB pC none).run C.P w = .ok (.slice (some ⟨iZ, 0, none⟩) b cap) w := by
        rw [q8 bp (q9 ay (by simp) (by simp))]
        simp [Instr.slice, run_underlying b8, lK, iI f1, f2, Addr.add_lit]
       refine ⟨_, w, F, b1, run, gr, .inr ⟨rfl, rfl, Sn, ?_, dq, ey, gT, ht⟩⟩
       simp only [cm, gJ]
       rw [ax]
       obtain ⟨cr, cu, gq, fJ, al, eV, fY, gK, jZ, lH⟩ := a6.split b xs _ _ eB
       refine .inr ⟨iZ, cap, cur, fC, fr, aL, by rw [hlen], bN, b6, et, by omega, fk, ej, fun d ah => iN d (List.mem_of_mem_take ah), ?_, km, ow⟩
       have zD : cr.length = b * sz := by
        rw [a6.length _ _ _ eV, pk _ (fun d ah => iN d (List.mem_of_mem_take ah)), hlen]
       have : cur.toList.take ((xs.take b).length * sz) = cr := by
        rw [hlen]
        have af : b * sz ≤ xs.length * sz := Nat.mul_le_mul_right _ wc.1
        have : (cur.toList.take (xs.length * sz)).take (b * sz) = cr := by rw [al, List.take_left' zD]
        rwa [List.take_take, Nat.min_eq_left af] at this
       rw [this]
       exact a6.mono (fun _ h => h) _ _ _ _ gK eV
     ·cases he
    ·cases he
   ·cases he
  ·cases he
 ·cases he
end
section
variable {C : bZ} {w0 w : World} {F0 X F : Nat → Prop} {S : Nat → Nat → Prop} {s s1 : aj} {az : Nat → Value} {av : I}
def Src (P : Program) (w : World) (size : Nat) (x : Value) (m : Nat) (news : List Value) : Prop :=
 ∀ aD : World, aD.heap = w.heap → (Builtin.lenOf x).run P aD = .ok m aD ∧ (Builtin.firstCells size m x).run P aD = .ok news.toArray aD
def zE (d : TypeDesc) : Prop := (∃ e, d = .slice e) ∨ d = .string
theorem Ke {P : Program} {T bx ty e : TypeId} {nK : TypeDesc} {i : TypeInfo} (aZ : P.underlying T = some (.slice e)) (hu : P.underlying bx = some nK) (pD : zE nK) (ak : P.info? e = some i)
  {x : Value} {m : Nat} {news : List Value} (we : Src P w i.size x m news) {b n cap : Nat} {cur : Array Value} {fC : TypeId} {fr : Nat × Nat} {l mid r : List Value} (U : w.heap[b]? = some (.cells cur fC fr)) (bB : mh fr cur.size)
  (al : cur.toList = l ++ (mid ++ r)) (hl : l.length = n * i.size) (hm : mid.length = news.length) (v7 : ∀ v ∈ news, Value.fN v = true) (m8 : n + m ≤ cap) :
  ∃ aD, (Builtin.append_ #[T, bx] ty #[.slice (some ⟨b, 0, none⟩) n cap, x]).run P w = .ok (.slice (some ⟨b, 0, none⟩) (n + m) cap) aD ∧ aD.heap[b]? = some (.cells (l ++ (news ++ r)).toArray fC fr) ∧
    (∀ c, c ≠ b → aD.heap[c]? = w.heap[c]?) ∧ aD.heap.size = w.heap.size ∧ aD.os = w.os ∧ aD.tape = w.tape ∧ aD.output = w.output := by
 obtain ⟨aD, eV, fY⟩ := vZ (P := P) (b := b) (o := n * i.size) (e := fC) (fr := fr) news 0 cur w l mid r U bB al (by omega) hm v7
 refine ⟨aD, ?_, fY⟩
 obtain ⟨ab, af⟩ := we w rfl
 rcases pD with ⟨ei, rfl⟩ | rfl <;> simp [Builtin.append_, run_underlying aZ, run_underlying hu, iI ak, ab, af, m8, Addr.add_lit, eV]
theorem Kf {P : Program} {T bx ty e : TypeId} {nK : TypeDesc} {i : TypeInfo} {z : Value} (aZ : P.underlying T = some (.slice e)) (hu : P.underlying bx = some nK) (pD : zE nK) (ak : P.info? e = some i) (bG : i.zero = some z)
  {x : Value} {m : Nat} {news : List Value} (we : Src P w i.size x m news) {base : Option Addr} {n cap : Nat} {mv : List Value} (hold : Src P w i.size (.slice base n cap) n mv) (m8 : ¬ n + m ≤ cap)
  (bl : n + m ≤ 9223372036854775807) (zF : (n + m) * i.bytes ≤ 140737488355328) :
  (Builtin.append_ #[T, bx] ty #[.slice base n cap, x]).run P w = .ok (.slice (some ⟨w.heap.size, 0, none⟩) (n + m) (grownCap w (n + m) cap e))
   (w.drew.alloc (.cells (mv.toArray ++ news.toArray ++ Builtin.zeroCells z.cells (grownCap w (n + m) cap e - (n + m))) e)) := by
 have ab := (we w rfl).1
 have af := (we w.drew rfl).2
 have aF := (hold w.drew rfl).2
 have Du := growslice_fits (need := n + m) (old := cap) (by omega) zF
 have iJ : ¬ (281474976710656 < Builtin.nextslicecap (n + m) cap * i.bytes) := by omega
 have ra : ∀ k (w : World), (askRoom k).run P w = .ok () w := by
  intro k w
  unfold askRoom
  split <;> rfl
 have zG : ¬ (9223372036854775807 < (n : Int) + (m : Int) ∧ i.bytes = 0) := by omega
 rcases pD with ⟨ei, rfl⟩ | rfl <;>
  ·simp [Builtin.append_, run_underlying aZ, run_underlying hu, iI ak, pr ak, ab, m8, iJ, Question.forced, ra]
   rw [if_neg zG, aF]
   simp [af, q3 ak bG, newRow, grownCap]
   have aJ : (mv ++ news).toArray = mv.toArray ++ news.toArray := by simp
   rw [aJ, Array.append_assoc]
def wg (C : bZ) (e bx : TypeId) : Bool := match (C.T bx).k, (C.T e).k with
 | .slice ei, _ => ei == e
 | .str, .int .u8 => true
 | _, _ => false
def kn (C : bZ) (s : aj) (T bx : TypeId) (x y : I) : Option (I × aj) :=
 match (C.T T).k with
 | .slice e => if (C.T e).ok = true ∧ (C.T e).zero.wd = (C.T e).sz ∧ (flat (C.T e).zero).isSome = true ∧ wg C e bx = true then
   match (match x with | .bA => some (I.aE (C.T e).sz [], s) | .h a q => ct s (.h a q) | _ => none) with
   | some (.aE sz xs, s1) => if sz = (C.T e).sz then
     match (match jf x.owner y with
      | .bA => some ([], s1)
      | .slice bT => some (bT, s1)
      | .str l => some (l.map iY, s1)
      | .h a q => match ct s1 (.h a q) with
        | some (.aE _ bT, s2) => some (bT, s2)
        | _ => none
      | _ => none) with
     | some (bT, s2) => if (∀ d ∈ bT, d.wd = (C.T e).sz) ∧ (xs.length + bT.length) * (C.T e).bytes ≤ 140737488355328 ∧ xs.length + bT.length ≤ 9223372036854775807 then some (.aE sz (xs ++ bT), s2) else none
     | none => none
     else none
   | _ => none
   else none
 | _ => none
theorem a6.append {xs bT : List I} {cr cu : List Value} {b1 dg aL : Nat → Prop} (ab : a6 w F xs cr b1) (af : a6 w F bT cu dg) (aJ : ∀ b, b1 b → aL b) (aP : ∀ b, dg b → aL b) (a_ : ∀ b, b1 b → ¬ dg b) : a6 w F (xs ++ bT) (cr ++ cu) aL := by
 induction xs generalizing cr b1 aL with
 | nil => rw [a6] at ab; subst ab; exact a6.mono (fun _ h => h) _ _ _ _ aP af
 | cons x xs ih =>
   rw [a6] at ab
   obtain ⟨Kg, Kh, gq, fJ, rfl, aY, bs, b_, dq, ey⟩ := ab
   rw [List.cons_append, a6]
   refine ⟨Kg, Kh ++ cu, gq, fun b => fJ b ∨ dg b, by simp, aY, ih bs (fun b h => .inl h) (fun b h => .inr h) (fun b h => a_ b (dq b h)), fun b h => aJ b (b_ b h), ?_, ?_⟩
   ·rintro b (h | h)
    ·exact aJ b (dq b h)
    ·exact aP b h
   ·rintro b h (bq | bq)
    ·exact ey b h bq
    ·exact a_ b (b_ b h) bq
theorem zH {P : Program} {size m cap : Nat} {b o : Nat} {news : List Value} (il : Rd w b o news) (hl : news.length = m * size) : Src P w size (.slice (some ⟨b, o, none⟩) m cap) m news := by
 intro aD hw
 refine ⟨rfl, ?_⟩
 refine run_firstCells_some aD size m ⟨b, o, none⟩ m cap news hl (fun j v bS => ?_)
 rw [Addr.add_lit]
 have := il j v bS
 simpa [World.cell?, hw] using this
theorem Dv {P : Program} {size cap : Nat} : Src P w size (.slice none 0 cap) 0 [] := by
 intro aD _
 exact ⟨rfl, by simp [Builtin.firstCells]⟩
theorem zI {P : Program} {size cap : Nat} (a : Option Addr) : Src P w size (.slice a 0 cap) 0 [] := by
 cases a with
 | none => exact Dv
 | some a =>
   intro aD _
   exact ⟨rfl, run_firstCells_some aD size 0 a 0 cap [] (by simp) (fun j v bS => by simp at bS)⟩
theorem Ki {P : Program} (l : List UInt8) : Src P w 1 (.string ⟨⟨l⟩⟩) l.length (l.map fun b => .int .u8 (b.toNat : Int)) := by
 intro aD _
 refine ⟨rfl, ?_⟩
 have : (⟨⟨l⟩⟩ : ByteArray).extract 0 l.length = ⟨⟨l⟩⟩ := by
  apply ByteArray.ext
  simp [ByteArray.data_extract]
 simp [Builtin.firstCells, this]
theorem a6.pE {sz : Nat} {xs : List I} {cs : List Value} {aL : Nat → Prop} (h : a6 w F xs cs aL) (hw : ∀ d ∈ xs, d.wd = sz) : cs.length = xs.length * sz := by
 rw [a6.length _ _ _ h, pk _ hw]
theorem bE.turn (h : bE w0 F0 X F S s az w) {aD : World} {b : Nat} (U : ∀ c, c ≠ b → aD.heap[c]? = w.heap[c]?) (aa : aD.heap.size = w.heap.size) (ab : aD.os = w.os) (af : aD.tape = w.tape) (aF : aD.output = w.output)
  (bo : ¬ F b) (bL : ∀ u, ¬ S u b) (bh : X b ∨ w0.heap.size ≤ b) : bE w0 F0 X F S s az aD where
 gk := h.gk
 gC := h.gC
 eT := fun c al => by rw [aa]; exact h.eT c al
 dM := fun t c al => by rw [aa]; exact h.dM t c al
 ff := h.ff
 eU := h.eU
 dh := h.dh
 da := fun t => aH.frame (Sx := S) (fun c al => U c (by rintro rfl; exact bo al)) (fun _ h => h) (fun x c al => U c (by rintro rfl; exact bL x al)) h.da _ _ _ (fun c al => U c (by rintro rfl; exact bL t al)) (h.da t)
 old := fun c dQ iX => by
  rw [U c ?_]
  ·exact h.old c dQ iX
  ·rintro rfl
   rcases bh with bh | bh
   ·exact iX bh
   ·omega
 size := by rw [aa]; exact h.size
 os := ab.trans h.os
 tape := af.trans h.tape
 output := aF.trans h.output
theorem Kj (bp : C.Ok) (h : bE w0 F0 X F S s az w) {T bx ty : TypeId} {x y : I} {iK h7 : Value} (au : aH w F s az x iK (fun _ => False)) (bC : aH w F s az y h7 (fun _ => False))
  (he : kn C s T bx x y = some (av, s1)) : Good C w0 F0 X az w (Builtin.append_ #[T, bx] ty #[iK, h7]) av s1 := by
 unfold kn at he
 split at he
 ·rename_i e ay
  obtain ⟨zJ, d, zK, aJ, aP, a_, cD, c4, b8, b2⟩ := bp.info (fS ay (by simp))
  rw [ay] at b2
  have := jB b2; subst this
  split at he
  ·rename_i py
   obtain ⟨mu, m9, nL, na⟩ := py
   obtain ⟨i, zL, z, f1, f2, f3, f4, f5, f6, f7⟩ := bp.info mu
   obtain ⟨dW, j1⟩ := Option.isSome_iff_exists.1 nL
   have nM := f5 dW j1
   have mw : dW.length = (C.T e).sz := by
    have := ax.length _ _ _ ((ax.flat (w := w) (F := F) _).1 (C.T e).zero dW (fun _ => False) (Nat.le_refl _) j1)
    rw [this, m9]
   obtain ⟨nK, hu, pD⟩ : ∃ nK, C.P.underlying bx = some nK ∧ zE nK := by
    unfold wg at na
    split at na
    ·rename_i ei iO
     obtain ⟨_, br, _, _, _, _, _, _, gT, ht⟩ := bp.info (fS iO (by simp))
     rw [iO] at ht
     exact ⟨br, gT, .inl ⟨_, jB ht⟩⟩
    ·rename_i iO _
     obtain ⟨_, br, _, _, _, _, _, _, gT, ht⟩ := bp.info (fS iO (by simp))
     rw [iO] at ht
     exact ⟨br, gT, .inr (oq ht)⟩
    ·cases na
   split at he
   ·rename_i sz xs zM nb
    split at he
    ·rename_i dB
     subst dB
     split at he
     ·rename_i bT s8 lL
      split at he
      ·rename_i Kk
       obtain ⟨rb, zF, zN⟩ := Kk
       simp only [Option.some.injEq, Prod.mk.injEq] at he
       obtain ⟨rfl, rfl⟩ := he
       obtain ⟨gq, a0, Sn, a3, a4, a5, m6, m7, agW, a9, ox⟩ : ∃ gq, bE w0 F0 X F gq zM az w ∧ ∃ Sn, ax w F (.aE (C.T e).sz xs) [iK] Sn ∧ (∀ b, Sn b → b < w.heap.size) ∧ (∀ b, Sn b → ¬ F b) ∧ (∀ u b, Sn b → ¬ gq u b) ∧
         (∀ b, Sn b → X b ∨ w0.heap.size ≤ b) ∧ (∀ u b, gq u b → S u b) ∧ (∀ b, Sn b → ∃ u, S u b) ∧ aH w F zM az (jf x.owner y) h7 (fun _ => False) := by
        split at nb
        ·simp only [Option.some.injEq, Prod.mk.injEq, I.aE.injEq, true_and] at nb
         obtain ⟨rfl, rfl⟩ := nb
         have := nH au; subst this
         exact ⟨S, h, fun _ => False, by rw [ax]; exact .inl ⟨rfl, _, rfl⟩, fun _ h => h.elim, fun _ h => h.elim, fun _ _ h => h.elim, fun _ h => h.elim, fun _ _ h => h, fun _ h => h.elim, bC⟩
        ·obtain ⟨b1, gr, aY, bs, Sn, b_, dq, ey, gT, ht, jY, s9, wh⟩ := oo h rfl au nb
         rw [hq bs] at b_
         exact ⟨b1, gr, Sn, b_, dq, ey, gT, ht, jY, s9, wh _ _ _ bC⟩
        ·cases nb
       obtain ⟨fJ, iZ, la, news, kH, h8, lb, bY, cp, cI, i0, bD⟩ : ∃ fJ, bE w0 F0 X F fJ s8 az w ∧ ∃ la news, a6 w F bT news la ∧ Src C.P w i.size h7 bT.length news ∧ (∀ b, la b → b < w.heap.size) ∧ (∀ b, la b → ¬ F b) ∧ (∀ u b, la b → ¬ fJ u b) ∧
         (∀ b, la b → X b ∨ w0.heap.size ≤ b) ∧ (∀ u b, fJ u b → gq u b) ∧ (∀ b, la b → ∃ u, gq u b) := by
        split at lL
        ·rename_i pF
         simp only [Option.some.injEq, Prod.mk.injEq] at lL
         obtain ⟨rfl, rfl⟩ := lL
         rw [pF] at ox
         have := nH ox; subst this
         exact ⟨gq, a0, fun _ => False, [], by rw [a6], Dv, fun _ h => h.elim, fun _ h => h.elim, fun _ _ h => h.elim, fun _ h => h.elim, fun _ _ h => h, fun _ h => h.elim⟩
        ·rename_i zs pF
         simp only [Option.some.injEq, Prod.mk.injEq] at lL
         obtain ⟨rfl, rfl⟩ := lL
         rw [pF] at ox
         rcases wa ox with ⟨rfl, q_, agX, rfl, _, pA⟩ | ⟨b, o, cap, dt, Kl, rfl, bN, b6, et, dy, fk, ej⟩
         ·exact ⟨gq, a0, fun _ => False, [], by rw [a6], zI q_, fun _ h => h.elim, fun _ h => h.elim, fun _ _ h => h.elim, fun _ h => h.elim, fun _ _ h => h, fun _ h => h.elim⟩
         ·exact ⟨gq, a0, fun _ => False, dt, ej, zH fk (by rw [f2]; exact a6.pE ej rb), fun _ h => h.elim, fun _ h => h.elim, fun _ _ h => h.elim, fun _ h => h.elim, fun _ _ h => h, fun _ h => h.elim⟩
        ·rename_i l pF
         simp only [Option.some.injEq, Prod.mk.injEq] at lL
         obtain ⟨rfl, rfl⟩ := lL
         rw [pF] at ox
         have := m5 ox; subst this
         have wi : l ≠ [] → i.size = 1 := by
          intro hl
          cases l with
          | nil => exact (hl rfl).elim
          | cons b l => rw [f2, ← rb (iY b) (by simp)]; rfl
         by_cases hl : l = []
         ·subst hl
          refine ⟨gq, a0, fun _ => False, [], by simp only [List.map_nil]; rw [a6], ?_, fun _ h => h.elim, fun _ h => h.elim, fun _ _ h => h.elim, fun _ h => h.elim, fun _ _ h => h, fun _ h => h.elim⟩
          intro aD _
          exact ⟨rfl, by simp [Builtin.firstCells, ByteArray.extract]; rfl⟩
         ·refine ⟨gq, a0, fun _ => False, _, Dn l _, ?_, fun _ h => h.elim, fun _ h => h.elim, fun _ _ h => h.elim, fun _ h => h.elim, fun _ _ h => h, fun _ h => h.elim⟩
          rw [wi hl, List.length_map]
          exact Ki l
        ·rename_i a q pF
         split at lL
         ·rename_i agY zs s2 aZ
          simp only [Option.some.injEq, Prod.mk.injEq] at lL
          obtain ⟨rfl, rfl⟩ := lL
          rw [pF] at ox
          obtain ⟨dg, gr, aY, bs, la, b_, dq, ey, gT, ht, jY, s9, wh⟩ := oo a0 rfl ox aZ
          rw [hq bs, ax] at b_
          rcases b_ with ⟨rfl, Km, jE⟩ | ⟨b, cap, cur, fC, fr, aL, jE, bN, b6, et, dy, fk, ej, iN, eB, km, ow⟩
          ·simp at jE; subst jE
           exact ⟨dg, gr, fun _ => False, [], by rw [a6], (zI Km), fun _ h => h.elim, fun _ h => h.elim, fun _ _ h => h.elim, fun _ h => h.elim, jY, fun _ h => h.elim⟩
          ·simp at jE; subst jE
           refine ⟨dg, gr, aL, _, eB, zH (qX b6 _) ?_, fun c al => dq c (km c al), fun c al => ey c (km c al), fun u c al => gT u c (km c al), fun c al => ht c (km c al), jY, fun c al => s9 c (km c al)⟩
           rw [f2]; exact a6.pE eB rb
         ·cases lL
        ·cases lL
       have oy : news.length = bT.length * (C.T e).sz := a6.pE kH rb
       have lM : ∀ c, Sn c → ¬ la c := fun c ab af => by obtain ⟨u, hu⟩ := bD c af; exact m6 u c ab hu
       have je : ∀ u c, Sn c → ¬ fJ u c := fun u c ab af => m6 u c ab (i0 u c af)
       have grow : ∀ (base : Option Addr) (cap : Nat) (mv : List Value) (Sx : Nat → Prop), iK = .slice base xs.length cap → Src C.P w i.size (.slice base xs.length cap) xs.length mv → a6 w F xs mv Sx → (∀ d ∈ xs, d.wd = (C.T e).sz) → (∀ c, Sx c → Sn c) → ¬ xs.length + bT.length ≤ cap →
         Good C w0 F0 X az w (Builtin.append_ #[T, bx] ty #[iK, h7]) (.aE (C.T e).sz (xs ++ bT)) s8 := by
        intro base cap mv Sx zy hold Dw Dx ea m8
        subst zy
        have aO := Kf (ty := ty) b8 hu pD f1 f4 h8 hold m8 zN (by rw [f3]; exact zF)
        have s5 := grownCap_ge w (xs.length + bT.length) cap e
        have s6 := grownCap_le_maxLen w (xs.length + bT.length) cap e (by unfold maxLen; omega)
        have s_ := a6.pE Dw Dx
        have Kn : a6 w F (xs ++ bT) (mv ++ news) (fun c => Sx c ∨ la c) := a6.append Dw kH (fun _ h => .inl h) (fun _ h => .inr h) (fun c ab af => lM c (ea c ab) af)
        have Ko : (mv ++ news).length = (xs ++ bT).length * (C.T e).sz := by simp [s_, oy, Nat.add_mul]
        have iL := iZ.s0 (aD := w.drew.alloc (.cells (mv.toArray ++ news.toArray ++ Builtin.zeroCells z.cells (grownCap w (xs.length + bT.length) cap e - (xs.length + bT.length))) e))
         (sz := (C.T e).sz) (cap := grownCap w (xs.length + bT.length) cap e) (xs := xs ++ bT) (e := e) (fr := (0, 0)) (Sn := fun c => Sx c ∨ la c) rfl rfl rfl rfl
         (fun o _ ⟨_, af⟩ => absurd af (Nat.not_lt_zero _)) (by simpa using s5) s6
         (by
          simp only [Array.size_append, List.size_toArray, size_zeroCells, nM, s_, oy, mw, ← Nat.add_mul]
          congr 1; omega)
         (by
          intro d ah
          rcases List.mem_append.1 ah with ah | ah
          ·exact Dx d ah
          ·exact rb d ah)
         (by
          simp only [Array.toList_append]
          rw [List.take_left' Ko]
          exact Kn)
         (by rintro c (al | al); exact a4 c (ea c al); exact lb c al) (by rintro c (al | al); exact a5 c (ea c al); exact bY c al) (by rintro u c (al | al); exact je u c (ea c al); exact cp u c al) (by rintro c (al | al); exact m7 c (ea c al); exact cI c al)
        refine ⟨_, _, F, fJ, aO, iL.1, ?_⟩
        have := iL.2
        simpa using this
       rw [ax] at a3
       rcases a3 with ⟨rfl, wj, jE⟩ | ⟨b, cap, cur, fC, fr, aL, jE, bN, b6, et, dy, fk, ej, iN, eB, km, ow⟩
       ·simp at jE; subst jE
        by_cases Dy : bT = []
        ·subst Dy
         have zO : news = [] := by simpa using oy
         subst zO
         refine ⟨.slice wj 0 0, w, F, fJ, ?_, iZ, .inr ⟨rfl, rfl, fun _ => False, by simp only [cm, gJ]; rw [ax]; exact .inl ⟨rfl, _, rfl⟩, fun _ h => h.elim, fun _ h => h.elim, fun _ _ h => h.elim, fun _ h => h.elim⟩⟩
         obtain ⟨ab, af⟩ := h8 w rfl
         cases wj <;> rcases pD with ⟨ei, rfl⟩ | rfl <;> simp at ab af <;> simp [Builtin.append_, run_underlying b8, run_underlying hu, iI f1, ab, af, storeCells]
        ·exact grow wj 0 [] (fun _ => False) rfl (zI wj) (by rw [a6]) (by simp) (fun _ h => h.elim) (by
          cases bT with
          | nil => exact (Dy rfl).elim
          | cons y bT => simp)
       ·simp at jE; subst jE
        by_cases m8 : xs.length + bT.length ≤ cap
        ·
         have s_ := a6.pE eB iN
         have hlen : cur.toList.length = cap * (C.T e).sz := by simp [ej]
         have hle : (xs.length + bT.length) * (C.T e).sz ≤ cap * (C.T e).sz := Nat.mul_le_mul_right _ m8
         rw [Nat.add_mul] at hle
         have jw : cur.toList = cur.toList.take (xs.length * (C.T e).sz) ++ ((cur.toList.drop (xs.length * (C.T e).sz)).take news.length ++ (cur.toList.drop (xs.length * (C.T e).sz)).drop news.length) := by
          rw [List.take_append_drop, List.take_append_drop]
         obtain ⟨aD, eV, fY, gK, jZ, lH, dj, mo⟩ := Ke (ty := ty) (n := xs.length) (m := bT.length) (cap := cap) b8 hu pD f1 h8 b6 et jw (by rw [f2]; exact s_) (by simp [hlen, oy]; omega) (a6.pw _ _ _ kH) m8
         have Kp := iZ.turn gK jZ lH dj mo (a5 b bN) (fun u hu => je u b bN hu) (m7 b bN)
         have q2 : ∀ c, F c → aD.heap[c]? = w.heap[c]? := fun c al => gK c (by rintro rfl; exact a5 _ bN al)
         refine ⟨_, aD, F, fJ, eV, Kp, .inr ⟨rfl, rfl, fun c => Sn c ∨ la c, ?_, ?_, ?_, ?_, ?_⟩⟩
         ·simp only [cm, gJ]
          rw [ax]
          have Dz : (cur.toList.take (xs.length * (C.T e).sz) ++ (news ++ (cur.toList.drop (xs.length * (C.T e).sz)).drop news.length)).toArray.size = cur.size := by
           have : cur.size = cur.toList.length := by simp
           rw [this]
           conv => rhs; rw [jw]
           simp [hlen, oy]; omega
          refine .inr ⟨b, cap, _, fC, fr, fun c => aL c ∨ la c, by simp, .inl bN, fY, by rw [Dz]; exact et, by simpa using m8, fk, by rw [Dz]; exact ej, ?_, ?_, ?_, ?_⟩
          ·intro d ah
           rcases List.mem_append.1 ah with ah | ah
           ·exact iN d ah
           ·exact rb d ah
          ·have zP := a6.frame q2 _ _ _ (fun c al => gK c (by rintro rfl; exact ow al)) eB
           have vP := a6.frame q2 _ _ _ (fun c al => gK c (by rintro rfl; exact lM _ bN al)) kH
           have : ((cur.toList.take (xs.length * (C.T e).sz) ++ (news ++ (cur.toList.drop (xs.length * (C.T e).sz)).drop news.length)).toArray.toList.take ((xs ++ bT).length * (C.T e).sz)) = cur.toList.take (xs.length * (C.T e).sz) ++ news := by
            simp only []
            rw [← List.append_assoc]
            exact List.take_left' (by rw [List.length_append, s_, oy, List.length_append, Nat.add_mul])
           rw [this]
           exact a6.append zP vP (fun _ h => .inl h) (fun _ h => .inr h) (fun c ab af => lM c (km c ab) af)
          ·rintro c (al | al)
           ·exact .inl (km c al)
           ·exact .inr al
          ·rintro (al | al)
           ·exact ow al
           ·exact lM b bN al
         ·rw [jZ]; rintro c (al | al); exact a4 c al; exact lb c al
         ·rintro c (al | al); exact a5 c al; exact bY c al
         ·rintro u c (al | al); exact je u c al; exact cp u c al
         ·rintro c (al | al); exact m7 c al; exact cI c al
        ·exact grow (some ⟨b, 0, none⟩) cap _ aL rfl (zH (qX b6 _) (by rw [f2]; exact a6.pE eB iN)) eB iN km m8
      ·cases he
     ·cases he
    ·cases he
   ·cases he
  ·cases he
 ·cases he
end
end Go.cB
