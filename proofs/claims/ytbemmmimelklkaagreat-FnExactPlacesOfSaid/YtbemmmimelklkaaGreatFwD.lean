/- Part of a proof that a law returns true for every input. No condition. -/
import Derived.Test.YtbemmmimelklkaaGreatFwC
import Derived.Test.YtbemmmimelklkaaGreatFwA
import Derived.Laws.IdiomStrings
import Derived.Laws.Strings
import Derived.LaidEql
import Derived.WideLaws
namespace Go.dg
section
variable {C : cn} {w0 w : World} {F0 X F : Nat → Prop} {S : Nat → Nat → Prop} {s s1 : au} {aF : Nat → Value} {av : I}
theorem px {k : IntKind} {n : Int} {v : Value} {a1 : Nat → Prop} (h : aV w F s aF (.int k n) v a1) : v = .int k n := by
 have bB := (aV.da rfl).1 h
 rw [aC, iK bB.1] at bB
 simpa using bB.2
theorem rm {b : Bool} {v : Value} {a1 : Nat → Prop} (h : aV w F s aF (.bool b) v a1) : v = .bool b := by
 have bB := (aV.da rfl).1 h
 rw [aC, iK bB.1] at bB
 simpa using bB.2
theorem oL {b : List UInt8} {v : Value} {a1 : Nat → Prop} (h : aV w F s aF (.str b) v a1) : v = .string ⟨⟨b⟩⟩ := by
 have bB := (aV.da rfl).1 h
 rw [aC, iK bB.1] at bB
 simpa using bB.2
theorem GO {v : Value} {a1 : Nat → Prop} (h : aV w F s aF .dC v a1) : v = .pointer none := by
 have bB := (aV.da rfl).1 h
 rw [aC, iK bB.1] at bB
 simpa using bB.2
theorem py {v : Value} {a1 : Nat → Prop} (h : aV w F s aF .bg v a1) : v = .slice none 0 0 := by
 have bB := (aV.da rfl).1 h
 rw [aC, iK bB.1] at bB
 simpa using bB.2
theorem GP {v : Value} {a1 : Nat → Prop} (h : aV w F s aF .fi v a1) : ∃ b, v = .bool b := by
 have bB := (aV.da rfl).1 h
 rw [aC, iK bB.1] at bB
 simpa using bB.2
theorem of_int (k : IntKind) (n : Int) : aV w F s aF (.int k n) (.int k n) (fun _ => False) := (aV.da rfl).2 ⟨rfl, by rw [aC]; rfl⟩
theorem of_bool (b : Bool) : aV w F s aF (.bool b) (.bool b) (fun _ => False) := (aV.da rfl).2 ⟨rfl, by rw [aC]; rfl⟩
theorem nL (b : List UInt8) : aV w F s aF (.str b) (.string ⟨⟨b⟩⟩) (fun _ => False) := (aV.da rfl).2 ⟨rfl, by rw [aC]; rfl⟩
theorem C3 (b : Bool) : aV w F s aF .fi (.bool b) (fun _ => False) := (aV.da rfl).2 ⟨rfl, by rw [aC]; exact ⟨b, rfl⟩⟩
def iM (op : BinOp) (k : IntKind) (a : Int) (dd : IntKind) (b : Int) : Option I :=
 match op with
 | .shl => if b < 0 then none else some (.int k (k.wrap (a * 2 ^ (min b.toNat k.bits))))
 | .shr => if b < 0 then none else some (.int k (a.fdiv (2 ^ (min b.toNat k.bits))))
 | .add => if k = dd then some (.int k (k.wrap (a + b))) else none
 | .sub => if k = dd then some (.int k (k.wrap (a - b))) else none
 | .mul => if k = dd then some (.int k (k.wrap (a * b))) else none
 | .quo => if k = dd ∧ b ≠ 0 then some (.int k (k.wrap (a.tdiv b))) else none
 | .rem => if k = dd ∧ b ≠ 0 then some (.int k (a.tmod b)) else none
 | .eql => if k = dd then some (.bool (a == b)) else none
 | .neq => if k = dd then some (.bool (a != b)) else none
 | .lss => if k = dd then some (.bool (decide (a < b))) else none
 | .leq => if k = dd then some (.bool (decide (a ≤ b))) else none
 | .gtr => if k = dd then some (.bool (decide (b < a))) else none
 | .geq => if k = dd then some (.bool (decide (b ≤ a))) else none
 | .and => if k = dd then some (.int k (bitsOf .and k a b)) else none
 | .or => if k = dd then some (.int k (bitsOf .or k a b)) else none
 | .xor => if k = dd then some (.int k (bitsOf .xor k a b)) else none
 | .andNot => if k = dd then some (.int k (bitsOf .andNot k a b)) else none
def mB (op : BinOp) (a b : List UInt8) : Option I :=
 match op with
 | .add => if a.length + b.length ≤ 9223372036854775807 then some (.str (a ++ b)) else none
 | .eql => some (.bool (a == b))
 | .neq => some (.bool !(a == b))
 | .lss => some (.bool (Op.bytesLess a b))
 | .leq => some (.bool (Op.bytesLess a b || a == b))
 | .gtr => some (.bool !(Op.bytesLess a b || a == b))
 | .geq => some (.bool !(Op.bytesLess a b))
 | _ => none
def kV (s : au) : I → Option (Option Bool)
 | .bg => some (some true)
 | .slice xs => some (if xs = [] then none else some false)
 | .h x q => match I.sub q (s x) with
   | some (.aw _ xs) => some (if xs = [] then none else some false)
   | _ => none
 | _ => none
def kW (s : au) : I → Option Bool
 | .dC => some true
 | .ref _ => some false
 | .h x q => match I.sub q (s x) with
   | some (.a8 _) => some false
   | _ => none
 | _ => none
def vH (neg : Bool) : Option Bool → I
 | some b => .bool (b != neg)
 | none => .fi
def aq (C : cn) (s : au) (op : BinOp) (T : TypeId) (x y : I) : Option I :=
 match x, y with
 | .int k a, .int dd b => iM op k a dd b
 | .str a, .str b => mB op a b
 | .bool a, .bool b => match op, (C.T T).k with
   | .eql, .bool => some (.bool (a == b))
   | .neq, .bool => some (.bool !(a == b))
   | _, _ => none
 | x, .bg => match op, (C.T T).k with
   | .eql, .slice _ => (kV s x).map (vH false)
   | .neq, .slice _ => (kV s x).map (vH true)
   | _, _ => none
 | x, .dC => match op, (C.T T).k with
   | .eql, .ptr _ => (kW s x).map fun b => .bool b
   | .neq, .ptr _ => (kW s x).map fun b => .bool !b
   | _, _ => none
 | _, _ => none
theorem N2 {P : Program} {op : BinOp} {T : TypeId} {k dd : IntKind} {a b : Int} (he : iM op k a dd b = some av) (w : World) :
  ∃ v, (binOp op T (.int k a) (.int dd b)).run P w = .ok v w ∧ aV w F s aF av v (fun _ => False) := by
 unfold iM at he
 cases op <;> simp only at he <;> split at he <;> first | (cases he; done) | skip
 all_goals
  rename_i ay
  simp only [Option.some.injEq] at he
  subst he
 all_goals first
  | (subst ay; simp only [binOp_add, binOp_sub, binOp_mul, binOp_eql, binOp_neq, binOp_lss, binOp_leq, binOp_gtr, binOp_geq, binOp_and, binOp_or, binOp_xor, binOp_andNot, Op.intArith, Op.intBits, Sem.run_pure, Result.ok.injEq, and_true, exists_eq_left']
     first | exact of_int _ _ | exact of_bool _)
  | (obtain ⟨rfl, ba⟩ := ay
     simp only [binOp_quo, binOp_rem, Op.intDiv, ba, if_false, Sem.run_pure, Result.ok.injEq, and_true, exists_eq_left']
     exact of_int _ _)
  | (simp only [binOp_shl, binOp_shr, Op.shift, ay, if_false, Sem.run_pure, Result.ok.injEq, and_true, exists_eq_left']
     exact of_int _ _)
theorem C4 (a : List UInt8) : (⟨⟨a⟩⟩ : ByteArray).toList = a := ByteArray.toList_eq _
theorem N3 (a b : List UInt8) : (⟨⟨a⟩⟩ : ByteArray) ++ (⟨⟨b⟩⟩ : ByteArray) = ⟨⟨a ++ b⟩⟩ := by
 apply ByteArray.ext
 simp [ByteArray.data_append]
theorem N4 {P : Program} {op : BinOp} {T : TypeId} {a b : List UInt8} (he : mB op a b = some av) (w : World) :
  ∃ v, (binOp op T (.string ⟨⟨a⟩⟩) (.string ⟨⟨b⟩⟩)).run P w = .ok v w ∧ aV w F s aF av v (fun _ => False) := by
 have ae : ∀ op, binOp op T (.string ⟨⟨a⟩⟩) (.string ⟨⟨b⟩⟩) = Op.stringOp op ⟨⟨a⟩⟩ ⟨⟨b⟩⟩ := by intro op; cases op <;> rfl
 rw [ae]
 unfold mB at he
 cases op <;> simp only [Option.some.injEq] at he <;> first | (cases he; done) | skip
 case add =>
  split at he
  ·rename_i hl
   simp only [Option.some.injEq] at he; subst he
   have ah : ((ByteArray.size ⟨⟨a⟩⟩ + ByteArray.size ⟨⟨b⟩⟩ : Nat) : Int) ≤ 9223372036854775807 := by
    show ((a.length + b.length : Nat) : Int) ≤ _
    omega
   refine ⟨.string ⟨⟨a ++ b⟩⟩, ?_, nL _⟩
   simp only [Op.stringOp, IntKind.max_i64]
   rw [if_neg (by omega), N3]
   rfl
  ·cases he
 all_goals
  subst he
  simp only [Op.stringOp, C4, Sem.run_pure, Result.ok.injEq, and_true, exists_eq_left']
  exact of_bool _
theorem C5 (h : bT w0 F0 X F S s aF w) {v : Value} {y : Nat} {q : List Nat} (a2 : aV w F s aF (.h y q) v (fun _ => False)) {sz : Nat} {xs : List I} (al : I.sub q (s y) = some (.aw sz xs)) :
  (xs = [] ∧ ∃ a, v = .slice a 0 0) ∨ ∃ b cap cur e fr, v = .slice (some ⟨b, 0, none⟩) xs.length cap ∧ w.heap[b]? = some (.cells cur e fr) ∧ p9 fr cur.size ∧ xs.length ≤ cap ∧ cap ≤ maxLen ∧ cur.size = cap * sz ∧ (∀ d ∈ xs, d.wd = sz) ∧
   ∃ a1, bl w F xs (cur.toList.take (xs.length * sz)) a1 ∧ (∀ c, a1 c → S y c) ∧ S y b := by
 rw [aV] at a2
 obtain ⟨c0, a, bc, bG, cB⟩ := a2 _ al rfl
 have ah : Value.gU v = true := cB
 rw [iK ah] at bG; subst bG
 have aA := h.en y
 rw [aV.da (iw al (.inl rfl))] at aA
 obtain ⟨gl, cS, e2, hc, k0, b8, cu, fB, eP, gr⟩ := ctx q (s y) (cV (aF y)) (S y) none _ aA.2 al
 rw [k0] at bc
 simp only [Option.some.injEq, Prod.mk.injEq, true_and] at bc
 obtain ⟨rfl, rfl⟩ := bc
 rw [aC] at eP
 rcases eP with ⟨rfl, bj, aj⟩ | ⟨b, cap, cur, a_, fr, el, a3, c1, c6, cl, cf, iy, kz, nM, nN, dJ, ez⟩
 ·simp at aj; exact .inl ⟨rfl, _, aj⟩
 ·simp at a3
  exact .inr ⟨b, cap, cur, a_, fr, a3, c6, cl, cf, iy, kz, nM, el, nN, fun c ay => cu _ (dJ c ay), cu _ c1⟩
theorem GQ (h : bT w0 F0 X F S s aF w) {v : Value} {y : Nat} {q : List Nat} (a2 : aV w F s aF (.h y q) v (fun _ => False)) {d : I} (al : I.sub q (s y) = some (.a8 d)) :
  ∃ b cur e fr, v = .pointer (some ⟨b, 0, none⟩) ∧ w.heap[b]? = some (.cells cur e fr) := by
 rw [aV] at a2
 obtain ⟨c0, a, bc, bG, cB⟩ := a2 _ al rfl
 have ah : Value.gU v = true := cB
 rw [iK ah] at bG; subst bG
 have aA := h.en y
 rw [aV.da (iw al (.inl rfl))] at aA
 obtain ⟨gl, cS, e2, hc, k0, b8, cu, fB, eP, gr⟩ := ctx q (s y) (cV (aF y)) (S y) none _ aA.2 al
 rw [k0] at bc
 simp only [Option.some.injEq, Prod.mk.injEq, true_and] at bc
 obtain ⟨rfl, rfl⟩ := bc
 rw [aC] at eP
 obtain ⟨b, cur, a_, fr, el, a3, c1, c6, _⟩ := eP
 simp at a3
 exact ⟨b, cur, a_, fr, a3, c6⟩
theorem GR {P : Program} {T e : TypeId} (bh : P.underlying T = some (.slice e)) (w : World) : ∀ d, (Op.equalIn (d + 1) T (.slice none 0 0) (.slice none 0 0)).run P w = .ok true w ∧
  ∀ a n c, (Op.equalIn (d + 1) T (.slice (some a) n c) (.slice none 0 0)).run P w = .ok false w := by
 intro d
 refine ⟨by simp [Op.equalIn, run_underlying bh], fun a n c => by simp [Op.equalIn, run_underlying bh]⟩
theorem GS {P : Program} {T e : TypeId} (bh : P.underlying T = some (.pointer e)) (w : World) : ∀ d, (Op.equalIn (d + 1) T (.pointer none) (.pointer none)).run P w = .ok true w ∧
  ∀ a, (Op.equalIn (d + 1) T (.pointer (some a)) (.pointer none)).run P w = .ok false w := by
 intro d
 refine ⟨by simp [Op.equalIn, run_underlying bh], fun a => by simp [Op.equalIn, run_underlying bh]⟩
theorem GU {P : Program} {T : TypeId} (bh : P.underlying T = some .bool) (w : World) : ∀ d a b, (Op.equalIn (d + 1) T (.bool a) (.bool b)).run P w = .ok (a == b) w := by
 intro d a b
 simp [Op.equalIn, run_underlying bh]
theorem GV (h : bT w0 F0 X F S s aF w) {x : I} {v : Value} (a2 : aV w F s aF x v (fun _ => False)) {T e : TypeId} {r : Option Bool} (a7 : kV s x = some r) (bh : C.P.underlying T = some (.slice e)) :
  ∃ b, (Op.equal T v (.slice none 0 0)).run C.P w = .ok b w ∧ (∀ fU, r = some fU → fU = b) ∧ Value.gU v = true ∧ ∃ a n c, v = .slice a n c := by
 have a4 := fun a n c => (GR bh w 9999).2 a n c
 have gu := (GR bh w 9999).1
 cases x with
 | bg =>
   have := py a2; subst this
   simp [kV] at a7; subst a7
   exact ⟨true, gu, by simp, rfl, _, _, _, rfl⟩
 | slice xs =>
   have bB := (aV.da rfl).1 a2
   rw [aC, iK bB.1] at bB
   simp only [kV, Option.some.injEq] at a7
   obtain ⟨_, ⟨rfl, a, c, aj, _, rn⟩ | ⟨b, o, cap, eK, sz, aj, aP⟩⟩ := bB
   ·simp at aj a7; subst aj; subst a7
    cases a with
    | none =>
      have := rn rfl; subst this
      exact ⟨true, gu, by simp, rfl, _, _, _, rfl⟩
    | some a => exact ⟨false, a4 _ _ _, by simp, rfl, _, _, _, rfl⟩
   ·simp at aj; subst aj
    refine ⟨false, a4 _ _ _, ?_, rfl, _, _, _, rfl⟩
    subst a7
    split <;> simp
 | h y q =>
   simp only [kV] at a7
   split at a7
   ·rename_i sz xs al
    simp only [Option.some.injEq] at a7
    rcases C5 h a2 al with ⟨rfl, a, rfl⟩ | ⟨b, cap, cur, a_, fr, rfl, _⟩
    ·simp at a7; subst a7
     cases a with
     | none => exact ⟨true, gu, by simp, rfl, _, _, _, rfl⟩
     | some a => exact ⟨false, a4 _ _ _, by simp, rfl, _, _, _, rfl⟩
    ·refine ⟨false, a4 _ _ _, ?_, rfl, _, _, _, rfl⟩
     subst a7
     split <;> simp
   ·cases a7
 | _ => simp [kV] at a7
theorem GW (h : bT w0 F0 X F S s aF w) {x : I} {v : Value} (a2 : aV w F s aF x v (fun _ => False)) {T e : TypeId} {r : Bool} (a7 : kW s x = some r) (bh : C.P.underlying T = some (.pointer e)) :
  (Op.equal T v (.pointer none)).run C.P w = .ok r w ∧ ∃ a, v = .pointer a := by
 have a4 := fun a => (GS bh w 9999).2 a
 have gu := (GS bh w 9999).1
 cases x with
 | dC =>
   have := GO a2; subst this
   simp [kW] at a7; subst a7
   exact ⟨gu, _, rfl⟩
 | ref d =>
   have bB := (aV.da rfl).1 a2
   rw [aC, iK bB.1] at bB
   simp [kW] at a7; subst a7
   obtain ⟨_, b, o, eK, aj, _⟩ := bB
   simp at aj; subst aj
   exact ⟨a4 _, _, rfl⟩
 | h y q =>
   simp only [kW] at a7
   split at a7
   ·rename_i d al
    simp only [Option.some.injEq] at a7; subst a7
    obtain ⟨b, cur, e, fr, rfl, _⟩ := GQ h a2 al
    exact ⟨a4 _, _, rfl⟩
   ·cases a7
 | _ => simp [kW] at a7
theorem N5 (bA : C.fo) (h : bT w0 F0 X F S s aF w) {op : BinOp} {T : TypeId} {x y : I} {jW jn : Value} (N6 N7 : Operand) (aA : aV w F s aF x jW (fun _ => False)) (bL : aV w F s aF y jn (fun _ => False))
  (he : aq C s op T x y = some av) : Good C w0 F0 X aF w (do eqGuard op T N6 N7 jW jn; binOp op T jW jn) av s := by
 unfold aq at he
 split at he
 ·have := px aA; subst this
  have := px bL; subst this
  obtain ⟨v, ai, aj⟩ := N2 (P := C.P) (T := T) he w
  refine Good.same h (v := v) ?_ ?_ aj
  ·rw [eqGuard_at_int]; exact ai
  ·revert he; unfold iM; cases op <;> simp only <;> split <;> simp <;> (rintro rfl; rfl)
 ·have := oL aA; subst this
  have := oL bL; subst this
  obtain ⟨v, ai, aj⟩ := N4 (P := C.P) (T := T) he w
  refine Good.same h (v := v) ?_ ?_ aj
  ·rw [eqGuard_at_string]; exact ai
  ·revert he; unfold mB; cases op <;> simp only <;> (try split) <;> simp <;> (try (rintro rfl; rfl))
 ·have := rm aA; subst this
  have := rm bL; subst this
  split at he
  ·rename_i aE
   simp only [Option.some.injEq] at he; subst he
   obtain ⟨i, d, z, a4, a_, a3, c1, c6, cl, cf⟩ := bA.info (g5 aE (by simp))
   rw [aE] at cf
   have := GG cf; subst this
   refine Good.same h ?_ rfl (of_bool _)
   rw [eqGuard_at_bool]
   simp [binOp, Op.equal, Op.maxDepth, GU cl w 9999]
  ·rename_i aE
   simp only [Option.some.injEq] at he; subst he
   obtain ⟨i, d, z, a4, a_, a3, c1, c6, cl, cf⟩ := bA.info (g5 aE (by simp))
   rw [aE] at cf
   have := GG cf; subst this
   refine Good.same h ?_ rfl (of_bool _)
   rw [eqGuard_at_bool]
   simp [binOp, Op.equal, Op.maxDepth, GU cl w 9999]
  ·cases he
 ·have := py bL; subst this
  split at he
  ·rename_i e aE
   simp only [Option.map_eq_some_iff] at he
   obtain ⟨r, a7, rfl⟩ := he
   obtain ⟨i, d, z, a4, a_, a3, c1, c6, cl, cf⟩ := bA.info (g5 aE (by simp))
   rw [aE] at cf
   have := kU cf; subst this
   obtain ⟨b, ai, aj, aP, J, bW, mz, rfl⟩ := GV h aA a7 cl
   refine Good.same h (v := .bool b) ?_ ?_ ?_
   ·rw [eqGuard_at_slice]
    simp [binOp, ai]
   ·cases r <;> rfl
   ·cases r with
    | none => exact C3 b
    | some fU => have := aj fU rfl; subst this; simp only [vH, Bool.bne_false]; exact of_bool _
  ·rename_i e aE
   simp only [Option.map_eq_some_iff] at he
   obtain ⟨r, a7, rfl⟩ := he
   obtain ⟨i, d, z, a4, a_, a3, c1, c6, cl, cf⟩ := bA.info (g5 aE (by simp))
   rw [aE] at cf
   have := kU cf; subst this
   obtain ⟨b, ai, aj, aP, J, bW, mz, rfl⟩ := GV h aA a7 cl
   refine Good.same h (v := .bool !b) ?_ ?_ ?_
   ·rw [eqGuard_at_slice]
    simp [binOp, ai]
   ·cases r <;> rfl
   ·cases r with
    | none => exact C3 _
    | some fU => have := aj fU rfl; subst this; simp only [vH, Bool.bne_true]; exact of_bool _
  ·cases he
 ·have := GO bL; subst this
  split at he
  ·rename_i e aE
   simp only [Option.map_eq_some_iff] at he
   obtain ⟨r, a7, rfl⟩ := he
   obtain ⟨i, d, z, a4, a_, a3, c1, c6, cl, cf⟩ := bA.info (g5 aE (by simp))
   rw [aE] at cf
   have := GH cf; subst this
   obtain ⟨ai, J, rfl⟩ := GW h aA a7 cl
   refine Good.same h (v := .bool r) ?_ rfl (of_bool _)
   rw [eqGuard_at_pointer]
   simp [binOp, ai]
  ·rename_i e aE
   simp only [Option.map_eq_some_iff] at he
   obtain ⟨r, a7, rfl⟩ := he
   obtain ⟨i, d, z, a4, a_, a3, c1, c6, cl, cf⟩ := bA.info (g5 aE (by simp))
   rw [aE] at cf
   have := GH cf; subst this
   obtain ⟨ai, J, rfl⟩ := GW h aA a7 cl
   refine Good.same h (v := .bool !r) ?_ rfl (of_bool _)
   rw [eqGuard_at_pointer]
   simp [binOp, ai]
  ·cases he
 ·cases he
end
section
variable {C : cn} {w0 w : World} {F0 X F : Nat → Prop} {S : Nat → Nat → Prop} {s s1 : au} {aF : Nat → Value} {av : I}
def un (op : UnOp) (x : I) : Option I :=
 match op, x with
 | .not, .bool b => some (.bool !b)
 | .not, .fi => some .fi
 | .neg, .int k n => some (.int k (k.wrap (0 - n)))
 | _, _ => none
theorem N8 (h : bT w0 F0 X F S s aF w) {op : UnOp} {x : I} {v : Value} (a2 : aV w F s aF x v (fun _ => False)) (he : un op x = some av) : Good C w0 F0 X aF w (Op.unary op v) av s := by
 unfold un at he
 split at he <;> first | (cases he; done) | (simp only [Option.some.injEq] at he; subst he)
 ·have := rm a2; subst this
  exact Good.same h rfl rfl (of_bool _)
 ·obtain ⟨b, rfl⟩ := GP a2
  exact Good.same h rfl rfl (C3 _)
 ·have := px a2; subst this
  exact Good.same h rfl rfl (of_int _ _)
def dP (s : au) (x : I) : Option I :=
 match x with
 | .ref d => some (.ref d)
 | .fn f c => some (.fn f c)
 | .h y q => match I.sub q (s y) with
   | some (.a8 _) => some (.h y q)
   | _ => none
 | _ => none
theorem N9 {d : I} {v : Value} {a1 : Nat → Prop} (h : aV w F s aF (.ref d) v a1) : ∃ b o eK, v = .pointer (some ⟨b, o, none⟩) ∧ F b ∧ hN w b o eK ∧ aC w F d eK (fun _ => False) := by
 have bB := (aV.da rfl).1 h
 rw [aC, iK bB.1] at bB
 obtain ⟨_, b, o, eK, ai, aj, aP, bb⟩ := bB
 simp at ai; subst ai
 exact ⟨b, o, eK, rfl, aj, aP, bb⟩
theorem N_ (h : bT w0 F0 X F S s aF w) {x : I} {v : Value} (a2 : aV w F s aF x v (fun _ => False)) (he : dP s x = some av) :
  av = x ∧ x.plain = true ∧ ((∃ a, v = .pointer (some a)) ∨ ∃ f c, v = .func (.func f) #[] c) := by
 unfold dP at he
 split at he
 ·simp only [Option.some.injEq] at he; subst he
  obtain ⟨b, o, eK, rfl, _⟩ := N9 a2
  exact ⟨rfl, rfl, .inl ⟨_, rfl⟩⟩
 ·simp only [Option.some.injEq] at he; subst he
  rw [aV] at a2
  obtain ⟨arr, rfl, _⟩ := a2
  exact ⟨rfl, rfl, .inr ⟨_, _, rfl⟩⟩
 ·split at he
  ·rename_i d al
   simp only [Option.some.injEq] at he; subst he
   obtain ⟨b, cur, e, fr, rfl, _⟩ := GQ h a2 al
   exact ⟨rfl, rfl, .inl ⟨_, rfl⟩⟩
  ·cases he
 ·cases he
def ex (s : au) (x : I) (k : Nat) : Option I :=
 match x with
 | .tuple ds => match ds[k]? with
   | some d => if d.plain = true then some d else none
   | none => none
 | .h y q => match I.sub q (s y) with
   | some (.tuple ds) => match ds[k]? with
     | some d => if I.dI ds = true then none else some (if d.plain then d else .h y (q ++ [k]))
     | none => none
   | _ => none
 | _ => none
theorem GX : ∀ (vs : List Value) (k : Nat) (x : Value) (ds : List I), vs[k]? = some x → vs.length = ds.length → (∀ (j : Nat) (d : I) (y : Value), ds[j]? = some d → vs[j]? = some y → (iu y).length = d.wd) →
  ∃ l r, vs.flatMap iu = l ++ (iu x ++ r) ∧ l.length = I.ev (ds.take k)
 | [], k, x, ds, h, _, _ => by simp at h
 | v :: vs, 0, x, ds, h, hl, hw => by
   simp at h; subst h
   exact ⟨[], vs.flatMap iu, by simp, by simp [I.ev]⟩
 | v :: vs, k + 1, x, d :: ds, h, hl, hw => by
   obtain ⟨l, r, a4, a_⟩ := GX vs k x ds (by simpa using h) (by simpa using hl) (fun j d y ai aj => hw (j + 1) d y (by simpa using ai) (by simpa using aj))
   refine ⟨iu v ++ l, r, by simp [a4], ?_⟩
   have := hw 0 d v (by simp) (by simp)
   simp [I.ev, a_, this]
 | v :: vs, k + 1, x, [], h, hl, hw => by simp at hl
theorem Oa {d : I} {v : Value} (h : iv d v) (_hd : ∀ vs, d ≠ .tuple vs) : cV v = iu v := by
 cases d with
 | agg aB => obtain ⟨arr, rfl⟩ := h; rfl
 | _ =>
   have ai : Value.gU v = true := h
   cases v <;> first | rfl | (simp [Value.gU] at ai)
theorem Ob {d : I} {v : Value} (h : iv d v) (al : ∀ vs, d ≠ .tuple vs) : eL d v := by
 cases d with
 | tuple vs => exact (al _ rfl).elim
 | _ => exact h
theorem Oc (h : bT w0 F0 X F S s aF w) {x : I} {v : Value} {k : Nat} (a2 : aV w F s aF x v (fun _ => False)) (he : ex s x k = some av) : Good C w0 F0 X aF w (Instr.extract v k) av s := by
 have pick : ∀ (ds : List I) (d : I) (arr : Array Value), ds[k]? = some d → (arr.size = ds.length ∧ ∀ (k : Nat) (d : I) (x : Value), ds[k]? = some d → arr[k]? = some x → iv d x ∧ (∀ vs, d ≠ .tuple vs) ∧ (iu x).length = d.wd) →
   ∃ x, arr[k]? = some x ∧ eL d x ∧ ((cV (.tuple arr)).drop (I.ev (ds.take k))).take d.wd = cV x := by
  intro ds d arr al ⟨ca, m0⟩
  have fy : k < arr.size := by rw [ca]; exact (List.getElem?_eq_some_iff.1 al).1
  have aA : arr[k]? = some arr[k] := Array.getElem?_eq_getElem fy
  obtain ⟨bc, bG, cB⟩ := m0 k d _ al aA
  obtain ⟨l, r, a4, a_⟩ := GX arr.toList k arr[k] ds (by simp [fy]) (by simpa using ca) (fun j d y ai aj => (m0 j d y ai (by simpa using aj)).2.2)
  refine ⟨_, aA, Ob bc bG, ?_⟩
  rw [Oa bc bG]
  simp only [cV]
  rw [a4]
  exact tj l _ r _ _ a_ cB
 unfold ex at he
 split at he
 ·rename_i ds
  split at he
  ·rename_i d al
   split at he
   ·rename_i ax
    simp only [Option.some.injEq] at he; subst he
    have bB := (aV.da rfl).1 a2
    obtain ⟨⟨arr, rfl, ca⟩, jo⟩ := bB
    obtain ⟨x, aA, ah, ay⟩ := pick ds d arr al ca
    have a7 : (Instr.extract (.tuple arr) k).run C.P w = .ok x w := by simp [Instr.extract, aA]
    rw [aC] at jo
    obtain ⟨cv, gk, cE, ct, kd, e, h5, gL, hr, h6, hd, lV⟩ := bl.pick ds _ _ k d jo al
    rw [e, tj cv gk cE _ _ h5 (aC.length _ _ _ hd)] at ay
    by_cases bh : d.tree = true
    ·exact Good.same h a7 ax ((aV.da bh).2 ⟨ah, by rw [← ay]; exact aC.plain _ _ _ _ ax hd⟩)
    ·cases d <;> first | exact (bh rfl).elim | (rw [aC] at hd; exact hd.elim) | exact Good.same h a7 rfl (by rw [aV]; trivial)
   ·cases he
  ·cases he
 ·rename_i y q
  split at he
  ·rename_i ds al
   split at he
   ·rename_i d aE
    split at he
    ·cases he
    ·rename_i fV
     simp only [Option.some.injEq] at he
     have fV : (I.tuple ds).plain = false := by simpa [I.plain] using fV
     rw [aV] at a2
     obtain ⟨c0, a, bc, bG, cB⟩ := a2 _ al fV
     obtain ⟨arr, rfl, ca⟩ := cB
     obtain ⟨x, aA, ah, ay⟩ := pick ds d arr aE ca
     have a7 : (Instr.extract (.tuple arr) k).run C.P w = .ok x w := by simp [Instr.extract, aA]
     have bL := h.en y
     rw [aV.da (iw al (.inl fV))] at bL
     obtain ⟨gl, cS, e2, hc, k0, b8, cu, fB, eP, gr⟩ := ctx q (s y) (cV (aF y)) (S y) none _ bL.2 al
     rw [k0] at bc
     simp only [Option.some.injEq, Prod.mk.injEq, true_and] at bc
     obtain ⟨rfl, rfl⟩ := bc
     rw [bG] at ay
     split at he
     ·rename_i ax
      subst he
      rw [aC] at eP
      obtain ⟨cv, gk, cE, ct, kd, e, h5, gL, hr, h6, hd, lV⟩ := bl.pick ds _ _ k d eP aE
      rw [e, tj cv gk cE _ _ h5 (aC.length _ _ _ hd)] at ay
      by_cases bh : d.tree = true
      ·exact Good.same h a7 ax ((aV.da bh).2 ⟨ah, by rw [← ay]; exact aC.plain _ _ _ _ ax hd⟩)
      ·cases d <;> first | exact (bh rfl).elim | (rw [aC] at hd; exact hd.elim) | exact Good.same h a7 rfl (by rw [aV]; trivial)
     ·subst he
      refine Good.same h a7 rfl ?_
      rw [aV]
      intro d2 jm GA
      rw [yU w q _ _ _ _ _ _ [k] k0]
      rw [yT _ _ _ _ al] at jm
      simp only [I.sub, aE, Option.some.injEq] at jm
      subst jm
      simp only [dq, aE]
      exact ⟨_, _, rfl, ay.symm, ah⟩
   ·cases he
  ·cases he
 ·cases he
end
section
variable {C : cn} {w0 w : World} {F0 X F : Nat → Prop} {S : Nat → Nat → Prop} {s s1 : au} {aF : Nat → Value} {av : I}
def idx (C : cn) (T : TypeId) (x i : I) : Option I :=
 match (C.T T).k, x, i with
 | .str, .str l, .int _ n => if 0 ≤ n then (match l[n.toNat]? with | some b => some (.int .u8 b.toNat) | none => none) else none
 | _, _, _ => none
theorem Od (l : List UInt8) (n : Nat) : (⟨⟨l⟩⟩ : ByteArray)[n]? = l[n]? := by
 by_cases h : n < l.length
 ·have bB : n < (⟨⟨l⟩⟩ : ByteArray).size := h
  rw [List.getElem?_eq_getElem h, getElem?_pos (⟨⟨l⟩⟩ : ByteArray) n bB]
  rfl
 ·have bB : ¬ n < (⟨⟨l⟩⟩ : ByteArray).size := h
  rw [List.getElem?_eq_none (by omega), getElem?_neg (⟨⟨l⟩⟩ : ByteArray) n bB]
theorem Oe (bA : C.fo) (h : bT w0 F0 X F S s aF w) {T : TypeId} {x i : I} {v ts : Value} (a2 : aV w F s aF x v (fun _ => False)) (ar : aV w F s aF i ts (fun _ => False)) (he : idx C T x i = some av) :
  Good C w0 F0 X aF w (Instr.index T v ts) av s := by
 unfold idx at he
 split at he
 ·rename_i l k n aE
  have := oL a2; subst this
  have := px ar; subst this
  obtain ⟨i, d, z, a4, a_, a3, c1, c6, cl, cf⟩ := bA.info (g5 aE (by simp))
  rw [aE] at cf
  have := qd cf; subst this
  split at he
  ·rename_i bd
   split at he
   ·rename_i b ae
    simp only [Option.some.injEq] at he; subst he
    refine Good.same h ?_ rfl (of_int _ _)
    simp [Instr.index, asIntOf, run_underlying cl, bd, Od, ae]
   ·cases he
  ·cases he
 ·cases he
def lenOf (s : au) : I → Option Nat
 | .str l => some l.length
 | .bg => some 0
 | .slice xs => some xs.length
 | .h y q => match I.sub q (s y) with
   | some (.aw _ xs) => some xs.length
   | _ => none
 | _ => none
def lB (C : cn) (s : au) (T : TypeId) (x : I) : Option I :=
 match (C.T T).k, x with
 | .str, .str l => some (.int .i64 l.length)
 | .slice _, .bg => some (.int .i64 0)
 | .slice _, .slice xs => some (.int .i64 xs.length)
 | .slice _, .h y q => match I.sub q (s y) with
   | some (.aw _ xs) => some (.int .i64 xs.length)
   | _ => none
 | _, _ => none
theorem y4 {xs : List I} {v : Value} {a1 : Nat → Prop} (h : aV w F s aF (.slice xs) v a1) : (xs = [] ∧ ∃ a c, v = .slice a 0 c ∧ c ≤ maxLen ∧ (a = none → c = 0)) ∨
  ∃ b o cap eK sz, v = .slice (some ⟨b, o, none⟩) xs.length cap ∧ F b ∧ xs.length ≤ cap ∧ cap ≤ maxLen ∧ (∀ d ∈ xs, d.wd = sz) ∧ hN w b o eK ∧ bl w F xs eK (fun _ => False) := by
 have bB := (aV.da rfl).1 h
 rw [aC, iK bB.1] at bB
 obtain ⟨_, ⟨rfl, a, c, aj, aP⟩ | ⟨b, o, cap, eK, sz, aj, aP⟩⟩ := bB
 ·simp at aj; exact .inl ⟨rfl, a, c, aj, aP⟩
 ·simp at aj; exact .inr ⟨b, o, cap, eK, sz, aj, aP⟩
theorem Of (bA : C.fo) (h : bT w0 F0 X F S s aF w) {T ty : TypeId} {x : I} {v : Value} (a2 : aV w F s aF x v (fun _ => False)) (he : lB C s T x = some av) :
  Good C w0 F0 X aF w (Builtin.len_ #[T] ty #[v]) av s := by
 unfold lB at he
 split at he
 ·rename_i l aE
  have := oL a2; subst this
  obtain ⟨i, d, z, a4, a_, a3, c1, c6, cl, cf⟩ := bA.info (g5 aE (by simp))
  rw [aE] at cf
  have := qd cf; subst this
  simp only [Option.some.injEq] at he; subst he
  refine Good.same h ?_ rfl (of_int _ _)
  simp [Builtin.len_, run_underlying cl, goInt]
  rfl
 ·rename_i e aE
  have := py a2; subst this
  obtain ⟨i, d, z, a4, a_, a3, c1, c6, cl, cf⟩ := bA.info (g5 aE (by simp))
  rw [aE] at cf
  have := kU cf; subst this
  simp only [Option.some.injEq] at he; subst he
  refine Good.same h ?_ rfl (of_int _ _)
  simp [Builtin.len_, run_underlying cl, goInt]
 ·rename_i e xs aE
  obtain ⟨i, d, z, a4, a_, a3, c1, c6, cl, cf⟩ := bA.info (g5 aE (by simp))
  rw [aE] at cf
  have := kU cf; subst this
  simp only [Option.some.injEq] at he; subst he
  refine Good.same h ?_ rfl (of_int _ _)
  rcases y4 a2 with ⟨rfl, a, c, rfl, _⟩ | ⟨b, o, cap, eK, sz, rfl, _⟩ <;> simp [Builtin.len_, run_underlying cl, goInt]
 ·rename_i e y q aE
  split at he
  ·rename_i sz xs al
   obtain ⟨i, d, z, a4, a_, a3, c1, c6, cl, cf⟩ := bA.info (g5 aE (by simp))
   rw [aE] at cf
   have := kU cf; subst this
   simp only [Option.some.injEq] at he; subst he
   refine Good.same h ?_ rfl (of_int _ _)
   rcases C5 h a2 al with ⟨rfl, _, rfl⟩ | ⟨b, cap, cur, a_, fr, rfl, _⟩ <;> simp [Builtin.len_, run_underlying cl, goInt]
  ·cases he
 ·cases he
def bytesOf : List I → Option (List UInt8)
 | [] => some []
 | .int .u8 n :: r => if 0 ≤ n ∧ n < 256 then (bytesOf r).map (UInt8.ofNat n.toNat :: ·) else none
 | _ => none
def kh (b : UInt8) : I := .int .u8 b.toNat
theorem Og (l : List UInt8) : bytesOf (l.map kh) = some l := by
 induction l with
 | nil => rfl
 | cons b l ih =>
   have ae : b.toNat < 256 := b.toNat_lt
   simp only [List.map_cons, kh, bytesOf, Int.toNat_natCast]
   rw [if_pos (by omega), ih]
   simp
theorem C6 : ∀ (xs : List I) (l : List UInt8) (cs : List Value) (a1 : Nat → Prop), bytesOf xs = some l → bl w F xs cs a1 → cs = l.map (fun b => .int .u8 (b.toNat : Int)) ∧ xs.length = l.length
 | [], l, cs, a1, h, a7 => by simp [bytesOf] at h; subst h; rw [bl] at a7; subst a7; exact ⟨rfl, rfl⟩
 | x :: xs, l, cs, a1, h, a7 => by
   unfold bytesOf at h
   split at h
   ·rename_i e; cases e
   ·rename_i n r e
    simp only [List.cons.injEq] at e
    obtain ⟨rfl, rfl⟩ := e
    split at h
    ·rename_i bd
     simp only [Option.map_eq_some_iff] at h
     obtain ⟨ed, ai, rfl⟩ := h
     rw [bl] at a7
     obtain ⟨cv, cE, ct, el, rfl, aj, aP, _⟩ := a7
     obtain ⟨rfl, bb⟩ := C6 xs ed cE el ai aP
     rw [aC] at aj; subst aj
     refine ⟨?_, by simp [bb]⟩
     simp only [List.map_cons, List.cons_append, List.nil_append, List.cons.injEq, and_true, Value.int.injEq, true_and]
     simp only [UInt8.toNat_ofNat']
     omega
    ·cases h
   ·cases h
theorem bT.vI (h : bT w0 F0 X F S s aF w) {aS : World} {sz cap : Nat} {xs : List I} {cur : Array Value} {e : TypeId} {fr : Nat × Nat} {Sn : Nat → Prop}
  (hw : aS.heap = w.heap.push (.cells cur e fr)) (ai : aS.os = w.os) (aj : aS.tape = w.tape) (aP : aS.output = w.output)
  (bF : p9 fr cur.size) (hle : xs.length ≤ cap) (hm : cap ≤ maxLen) (e3 : cur.size = cap * sz) (lW : ∀ d ∈ xs, d.wd = sz) (a2 : bl w F xs (cur.toList.take (xs.length * sz)) Sn)
  (fy : ∀ b, Sn b → b < w.heap.size) (bD : ∀ b, Sn b → ¬ F b) (cb : ∀ u b, Sn b → ¬ S u b) (ba : ∀ b, Sn b → X b ∨ w0.heap.size ≤ b) :
  bT w0 F0 X F S s aF aS ∧ kT w0 X F S s aF aS (.aw sz xs) (.slice (some ⟨w.heap.size, 0, none⟩) xs.length cap) := by
 have hold : ∀ b, b < w.heap.size → aS.heap[b]? = w.heap[b]? := by
  intro b ae
  rw [hw, Array.getElem?_push, if_neg (by omega)]
 have auA : aS.heap.size = w.heap.size + 1 := by rw [hw]; simp
 refine ⟨h.grow hold (by omega) ai aj aP, .inr ⟨rfl, rfl, fun b => b = w.heap.size ∨ Sn b, ?_, ?_, ?_, ?_, ?_⟩⟩
 ·simp only [cV, iu]
  rw [aC]
  refine .inr ⟨w.heap.size, cap, cur, e, fr, Sn, rfl, .inl rfl, ?_, bF, hle, hm, e3, lW, ?_, fun c ay => .inr ay, fun ay => Nat.lt_irrefl _ (fy _ ay)⟩
  ·rw [hw]; simp
  ·exact bl.frame (fun b ae => hold b (h.gB b ae)) _ _ _ (fun b ae => hold b (fy b ae)) a2
 ·rintro b (rfl | ae)
  ·omega
  ·have := fy b ae; omega
 ·rintro b (rfl | ae) vG
  ·exact Nat.lt_irrefl _ (h.gB _ vG)
  ·exact bD b ae vG
 ·rintro u b (rfl | ae) hu
  ·exact Nat.lt_irrefl _ (h.fz _ _ hu)
  ·exact cb u b ae hu
 ·rintro b (rfl | ae)
  ·exact .inr h.size
  ·exact ba b ae
def fW (C : cn) (s : au) (A B : TypeId) (x : I) : Option I :=
 if (C.T A).ok = true then
 match (C.T B).k, x with
 | .int k, .int _ n => some (.int k (k.wrap n))
 | .str, .str l => match (C.T A).k with
   | .str => some (.str l)
   | _ => none
 | .str, x => match (C.T A).k with
   | .slice e => match (C.T e).k with
     | .int .u8 => match x with
       | .bg => some (.str [])
       | .slice xs => (bytesOf xs).map .str
       | .h y q => match I.sub q (s y) with
         | some (.aw 1 xs) => (bytesOf xs).map .str
         | _ => none
       | _ => none
     | _ => none
   | _ => none
 | .slice e, .str l => match (C.T A).k, (C.T e).k with
   | .str, .int .u8 => if l.length ≤ 9223372036854775807 then some (.aw 1 (l.map kh)) else none
   | _, _ => none
 | _, _ => none
 else none
theorem GY (l : List UInt8) (a1 : Nat → Prop) : bl w F (l.map kh) (l.map fun b => .int .u8 (b.toNat : Int)) a1 := by
 induction l generalizing a1 with
 | nil => simp only [List.map_nil]; rw [bl]
 | cons b l ih =>
   simp only [List.map_cons]
   rw [bl]
   exact ⟨[.int .u8 (b.toNat : Int)], _, fun _ => False, fun _ => False, rfl, by rw [kh, aC], ih _, fun _ h => h.elim, fun _ h => h.elim, fun _ h => h.elim⟩
theorem Oh (bA : C.fo) (h : bT w0 F0 X F S s aF w) {A B : TypeId} {x : I} {v : Value} (a2 : aV w F s aF x v (fun _ => False)) (he : fW C s A B x = some av) :
  Good C w0 F0 X aF w (convert A B v) av s := by
 unfold fW at he
 split at he
 ·rename_i iN
  obtain ⟨bK, auB, auC, ab, bj, dy, rp, vJ, oM, oN⟩ := bA.info iN
  split at he
  ·rename_i k dd n aE
   have := px a2; subst this
   obtain ⟨i, d, z, a4, a_, a3, c1, c6, cl, cf⟩ := bA.info (g5 aE (by simp))
   rw [aE] at cf
   have := yV cf; subst this
   simp only [Option.some.injEq] at he; subst he
   refine Good.same h ?_ rfl (of_int _ _)
   simp [convert, run_underlying oM, run_underlying cl, Conv.intToInt]
  ·rename_i l aE
   have := oL a2; subst this
   obtain ⟨i, d, z, a4, a_, a3, c1, c6, cl, cf⟩ := bA.info (g5 aE (by simp))
   rw [aE] at cf
   have := qd cf; subst this
   split at he
   ·rename_i vK
    rw [vK] at oN
    have := qd oN; subst this
    simp only [Option.some.injEq] at he; subst he
    refine Good.same h ?_ rfl (nL _)
    simp [convert, run_underlying oM, run_underlying cl]
   ·cases he
  ·rename_i x aE _
   obtain ⟨i, d, z, a4, a_, a3, c1, c6, cl, cf⟩ := bA.info (g5 aE (by simp))
   rw [aE] at cf
   have := qd cf; subst this
   split at he
   ·rename_i e vK
    rw [vK] at oN
    have := kU oN; subst this
    split at he
    ·rename_i vL
     obtain ⟨tq, bE, qf, f1, f2, f3, f4, f5, f6, f7⟩ := bA.info (g5 vL (by simp))
     rw [vL] at f7
     have := yV f7; subst this
     have fin : ∀ (l : List UInt8) (b o cap : Nat), hN w b o (l.map fun b => .int .u8 (b.toNat : Int)) → (convert A B (.slice (some ⟨b, o, none⟩) l.length cap)).run C.P w = .ok (.string ⟨⟨l⟩⟩) w := by
      intro l b o cap jy
      refine run_convert_bytes_back w A B e ⟨b, o, none⟩ cap l oM f6 cl (fun j cx => ?_)
      rw [Addr.add_lit]
      exact jy j _ (by simp [cx])
     have nil : (convert A B (.slice none 0 0)).run C.P w = .ok (.string ⟨⟨[]⟩⟩) w := by
      simp [convert, run_underlying oM, run_underlying cl, run_underlying f6, Conv.bytesToString]
      rfl
     split at he
     ·have := py a2; subst this
      simp only [Option.some.injEq] at he; subst he
      exact Good.same h nil rfl (nL _)
     ·rename_i xs _
      simp only [Option.map_eq_some_iff] at he
      obtain ⟨l, hl, rfl⟩ := he
      rcases y4 a2 with ⟨rfl, a, c, rfl, _, rn⟩ | ⟨b, o, cap, eK, sz, rfl, ai, aj, aP, bb, b5, cF⟩
      ·simp [bytesOf] at hl; subst hl
       cases a with
       | none =>
         have := rn rfl; subst this
         exact Good.same h nil rfl (nL _)
       | some a =>
         refine Good.same h ?_ rfl (nL _)
         exact run_convert_bytes_back w A B e a c [] oM f6 cl (fun j cx => by simp at cx)
      ·obtain ⟨rfl, cq⟩ := C6 xs l eK _ hl cF
       rw [cq]
       exact Good.same h (fin l b o cap b5) rfl (nL _)
     ·rename_i y q
      split at he
      ·rename_i xs al
       simp only [Option.map_eq_some_iff] at he
       obtain ⟨l, hl, rfl⟩ := he
       rcases C5 h a2 al with ⟨rfl, a, rfl⟩ | ⟨b, cap, cur, a_, fr, rfl, ai, aj, aP, bb, b5, cF, a1, cq, _⟩
       ·simp [bytesOf] at hl; subst hl
        cases a with
        | none => exact Good.same h nil rfl (nL _)
        | some a =>
          refine Good.same h ?_ rfl (nL _)
          exact run_convert_bytes_back w A B e a 0 [] oM f6 cl (fun j cx => by simp at cx)
       ·obtain ⟨fO, iI⟩ := C6 xs l _ _ hl cq
        rw [iI]
        refine Good.same h (fin l b 0 cap ?_) rfl (nL _)
        rw [← fO]
        exact ti ai _
      ·cases he
     ·cases he
    ·cases he
   ·cases he
  ·rename_i e l aE
   have := oL a2; subst this
   obtain ⟨i, d, z, a4, a_, a3, c1, c6, cl, cf⟩ := bA.info (g5 aE (by simp))
   rw [aE] at cf
   have := kU cf; subst this
   split at he
   ·rename_i vK vL
    rw [vK] at oN
    have := qd oN; subst this
    obtain ⟨tq, bE, qf, f1, f2, f3, f4, f5, f6, f7⟩ := bA.info (g5 vL (by simp))
    rw [vL] at f7
    have := yV f7; subst this
    split at he
    ·rename_i hl
     simp only [Option.some.injEq] at he; subst he
     have ah : (⟨⟨l⟩⟩ : ByteArray).size = l.length := rfl
     have vM := grownCap_ge w l.length 0 e
     have Oi := grownCap_le_maxLen w l.length 0 e (by unfold maxLen; omega)
     have GZ : (bytesRow ⟨⟨l⟩⟩ (grownCap w l.length 0 e)).toList = l.map (fun b => Value.int .u8 (b.toNat : Int)) ++ List.replicate (grownCap w l.length 0 e - l.length) (.int .u8 0) := by
      simp [bytesRow, ah]
     have e3 : (bytesRow ⟨⟨l⟩⟩ (grownCap w l.length 0 e)).size = grownCap w l.length 0 e * 1 := by
      have : (bytesRow ⟨⟨l⟩⟩ (grownCap w l.length 0 e)).size = (bytesRow ⟨⟨l⟩⟩ (grownCap w l.length 0 e)).toList.length := by simp
      rw [this, GZ]; simp; omega
     have rk := run_bytes_of_string w A B e ⟨⟨l⟩⟩ oM cl f6
     rw [ah] at rk
     have jX := h.vI (aS := w.drew.alloc (.cells (bytesRow ⟨⟨l⟩⟩ (grownCap w l.length 0 e)) e ((bytesRow ⟨⟨l⟩⟩ (grownCap w l.length 0 e)).size, (bytesRow ⟨⟨l⟩⟩ (grownCap w l.length 0 e)).size + 1)))
      (sz := 1) (cap := grownCap w l.length 0 e) (xs := l.map kh) (cur := bytesRow ⟨⟨l⟩⟩ (grownCap w l.length 0 e)) (e := e) (Sn := fun _ => False) rfl rfl rfl rfl
      (fun o cm ⟨ai, _⟩ => by simp only at ai; omega) (by simpa using vM) Oi e3 (by intro d al; obtain ⟨b, _, rfl⟩ := List.mem_map.1 al; rfl)
      (by rw [GZ, List.take_left' (by simp)]; exact GY l _) (fun _ h => h.elim) (fun _ h => h.elim) (fun _ _ h => h.elim) (fun _ h => h.elim)
     simp only [List.length_map] at jX
     exact ⟨_, _, F, S, rk, jX.1, jX.2⟩
    ·cases he
   ·cases he
  ·cases he
 ·cases he
end
section
variable {C : cn} {w0 w : World} {F0 X F : Nat → Prop} {S : Nat → Nat → Prop} {s s1 : au} {aF : Nat → Value} {av : I}
def jY (d : Nat) : Option I → Option Nat
 | none => some d
 | some (.int _ n) => if 0 ≤ n then some n.toNat else none
 | some _ => none
def fA (C : cn) (s : au) (T : TypeId) (x : I) (de ar : Option I) : Option (I × au) :=
 match (C.T T).k, x with
 | .str, .str l => match jY 0 de, jY l.length ar with
   | some a, some b => if a ≤ b ∧ b ≤ l.length then some (.str ((l.take b).drop a), s) else none
   | _, _ => none
 | .slice e, .bg => match jY 0 de, jY 0 ar with
   | some 0, some 0 => if (C.T e).ok = true then some (.bg, s) else none
   | _, _ => none
 | .slice e, .slice xs => match jY 0 de, jY xs.length ar with
   | some a, some b => if a ≤ b ∧ b ≤ xs.length ∧ (C.T e).ok = true ∧ (∀ d ∈ xs, d.wd = (C.T e).sz) then some (.slice ((xs.take b).drop a), s) else none
   | _, _ => none
 | .slice e, .h y q => match I.sub q (s y) with
   | some (.aw sz xs) => match jY 0 de, jY xs.length ar with
     | some 0, some b => if b ≤ xs.length ∧ (C.T e).ok = true then (match cT s (.h y q) with | some (_, s1) => some (.aw sz (xs.take b), s1) | none => none) else none
     | _, _ => none
   | _ => none
 | _, _ => none
def pz (w : World) (F : Nat → Prop) (s : au) (aF : Nat → Value) : Option I → Option Value → Prop
 | none, none => True
 | some d, some v => aV w F s aF d v (fun _ => False)
 | _, _ => False
theorem G0 {d : Nat} {o : Option I} {v : Option Value} (cm : pz w F s aF o v) {a : Nat} (h : jY d o = some a) : (o = none ∧ v = none ∧ a = d) ∨ ∃ k, v = some (.int k a) := by
 cases o with
 | none =>
   cases v with
   | none => simp [jY] at h; exact .inl ⟨rfl, rfl, h.symm⟩
   | some v => simp [pz] at cm
 | some x =>
   cases v with
   | none => simp [pz] at cm
   | some v =>
     simp only [pz] at cm
     cases x with
     | int k n =>
       have := px cm; subst this
       simp only [jY] at h
       split at h
       ·rename_i bd
        simp only [Option.some.injEq] at h; subst h
        obtain ⟨m, rfl⟩ := Int.eq_ofNat_of_zero_le bd
        exact .inr ⟨k, rfl⟩
       ·cases h
     | _ => simp [jY] at h
theorem tt {P : Program} {isS : Bool} {len cap a b : Nat} {de ar : Option I} {rq rr : Option Value} (m3 : pz w F s aF de rq) (m4 : pz w F s aF ar rr) (cw : jY 0 de = some a) (ae : jY len ar = some b) (lv : a ≤ b) (Oj : b ≤ cap) (_hlc : len ≤ cap) :
  (Instr.sliceBounds isS len cap rq rr none).run P w = .ok (a, b, cap) w := by
 rcases G0 m3 cw with ⟨_, rfl, rfl⟩ | ⟨k, rfl⟩ <;> rcases G0 m4 ae with ⟨_, rfl, rfl⟩ | ⟨dd, rfl⟩ <;>
  simp [Instr.sliceBounds, Instr.sliceBound, asIntOf, lv, Oj]
theorem tu (bA : C.fo) {T : TypeId} (aE : (C.T T).flat = true) (v : Value) (de ar hE : Option Value) (w : World) : (Instr.sliceAt T v de ar hE).run C.P w = (Instr.slice T v de ar hE).run C.P w := by
 obtain ⟨i, d, z, a4, a_, a3, c1, c6, cl, cf⟩ := bA.info (GJ aE)
 have eb : ∀ n e, d ≠ .array n e := by
  clear cl
  unfold g4.flat at aE
  generalize (C.T T).k = lA at *
  cases lA <;> cases d <;> simp [la] at cf aE ⊢
 cases d <;> first | exact (eb _ _ rfl).elim | simp [Instr.sliceAt, run_underlying cl]
theorem tv {x : g4} {k : m2} (h : x.k = k) (aE : k ≠ .other) (ah : ∀ aB, k ≠ .struct aB) : x.flat = true := by
 unfold g4.flat; rw [h]; cases k <;> first | rfl | exact (aE rfl).elim | exact (ah _ rfl).elim
theorem bl.split : ∀ (n : Nat) (xs : List I) (cs : List Value) (a1 : Nat → Prop), bl w F xs cs a1 → ∃ cv cE ct el, cs = cv ++ cE ∧ bl w F (xs.take n) cv ct ∧ bl w F (xs.drop n) cE el ∧ (∀ b, ct b → a1 b) ∧ (∀ b, el b → a1 b) ∧ (∀ b, ct b → ¬ el b)
 | 0, xs, cs, a1, h => ⟨[], cs, fun _ => False, a1, rfl, by rw [List.take_zero, bl], h, fun _ h => h.elim, fun _ h => h, fun _ h => h.elim⟩
 | n + 1, [], cs, a1, h => by rw [bl] at h; subst h; exact ⟨[], [], fun _ => False, fun _ => False, rfl, by rw [List.take_nil, bl], by rw [List.drop_nil, bl], fun _ h => h.elim, fun _ h => h.elim, fun _ h => h.elim⟩
 | n + 1, x :: xs, cs, a1, h => by
   rw [bl] at h
   obtain ⟨cv, cE, hF, gK, rfl, ai, aj, aP, bb, b5⟩ := h
   obtain ⟨d1, d2, ct, el, rfl, bc, bG, cB, eC, fH⟩ := bl.split n xs cE gK aj
   refine ⟨cv ++ d1, d2, fun b => hF b ∨ ct b, el, by simp, ?_, bG, ?_, fun b ae => bb _ (eC _ ae), ?_⟩
   ·rw [List.take_succ_cons, bl]
    exact ⟨cv, d1, hF, ct, rfl, ai, bc, fun _ h => .inl h, fun _ h => .inr h, fun b ae ay => b5 b ae (cB b ay)⟩
   ·rintro b (ae | ae)
    ·exact aP b ae
    ·exact bb b (cB b ae)
   ·rintro b (ae | ae) ay
    ·exact b5 b ae (eC b ay)
    ·exact fH b ae ay
theorem Ok (bA : C.fo) (h : bT w0 F0 X F S s aF w) {T : TypeId} {x : I} {v : Value} {de ar : Option I} {rq rr : Option Value} (aA : x.plain = true) (a2 : aV w F s aF x v (fun _ => False)) (m3 : pz w F s aF de rq) (m4 : pz w F s aF ar rr)
  (he : fA C s T x de ar = some (av, s1)) : Good C w0 F0 X aF w (Instr.sliceAt T v rq rr none) av s1 := by
 unfold fA at he
 split at he
 ·rename_i l aE
  have := oL a2; subst this
  obtain ⟨i, d, z, a4, a_, a3, c1, c6, cl, cf⟩ := bA.info (g5 aE (by simp))
  rw [aE] at cf
  have := qd cf; subst this
  split at he
  ·rename_i a b cw ae
   split at he
   ·rename_i lv
    simp only [Option.some.injEq, Prod.mk.injEq] at he
    obtain ⟨rfl, rfl⟩ := he
    refine Good.same h ?_ rfl (nL _)
    rw [tu bA (tv aE (by simp) (by simp))]
    have e3 : (⟨⟨l⟩⟩ : ByteArray).size = l.length := rfl
    have m5 := tt (P := C.P) (isS := false) (len := l.length) (cap := l.length) m3 m4 cw ae lv.1 lv.2 (Nat.le_refl _)
    have Ol : (⟨⟨l⟩⟩ : ByteArray).extract a b = ⟨⟨(l.take b).drop a⟩⟩ := by
     apply ByteArray.ext
     simp [ByteArray.data_extract, List.drop_take]
    simp [Instr.slice, run_underlying cl, e3, m5, Ol]
   ·cases he
  ·cases he
 ·rename_i e aE
  have := py a2; subst this
  obtain ⟨i, d, z, a4, a_, a3, c1, c6, cl, cf⟩ := bA.info (g5 aE (by simp))
  rw [aE] at cf
  have := kU cf; subst this
  split at he
  ·rename_i cw ae
   split at he
   ·rename_i nO
    obtain ⟨tq, bE, qf, f1, f2, f3, f4, f5, f6, f7⟩ := bA.info nO
    simp only [Option.some.injEq, Prod.mk.injEq] at he
    obtain ⟨rfl, rfl⟩ := he
    have m5 := tt (P := C.P) (isS := true) (len := 0) (cap := 0) m3 m4 cw ae (Nat.le_refl _) (Nat.le_refl _) (Nat.le_refl _)
    refine Good.same h (v := .slice none 0 0) ?_ rfl a2
    rw [tu bA (tv aE (by simp) (by simp))]
    simp [Instr.slice, run_underlying cl, m5, jU f1, f2]
   ·cases he
  ·cases he
 ·rename_i e xs aE
  obtain ⟨i, d, z, a4, a_, a3, c1, c6, cl, cf⟩ := bA.info (g5 aE (by simp))
  rw [aE] at cf
  have := kU cf; subst this
  split at he
  ·rename_i a b cw ae
   split at he
   ·rename_i lv
    obtain ⟨Om, G1, nO, lW⟩ := lv
    obtain ⟨tq, bE, qf, f1, f2, f3, f4, f5, f6, f7⟩ := bA.info nO
    simp only [Option.some.injEq, Prod.mk.injEq] at he
    obtain ⟨rfl, rfl⟩ := he
    rcases y4 a2 with ⟨rfl, tw, c, rfl, vN, rn⟩ | ⟨kA, o, cap, eK, sz, rfl, ai, aj, aP, bb, b5, cF⟩
    ·have hQ : b = 0 := by simpa using G1
     subst hQ
     have On : a = 0 := by omega
     subst On
     have m5 := tt (P := C.P) (isS := true) (len := 0) (cap := c) m3 m4 cw ae (Nat.le_refl _) (Nat.zero_le _) (Nat.zero_le _)
     refine Good.same h (v := .slice tw 0 c) ?_ rfl ((aV.da rfl).2 ⟨rfl, by rw [aC]; exact .inl ⟨rfl, tw, c, rfl, vN, rn⟩⟩)
     rw [tu bA (tv aE (by simp) (by simp))]
     cases tw with
     | none =>
       have := rn rfl; subst this
       simp [Instr.slice, run_underlying cl, m5, jU f1, f2]
     | some tw => simp [Instr.slice, run_underlying cl, m5, jU f1, f2, Addr.add]
    ·have m5 := tt (P := C.P) (isS := true) (len := xs.length) (cap := cap) m3 m4 cw ae Om (Nat.le_trans G1 aj) aj
     obtain ⟨cv, cE, ct, el, rfl, bc, bG, cB, eC, fH⟩ := bl.split b xs eK _ cF
     obtain ⟨d1, d2, auD, G2, rfl, b8, cu, fB, eP, gr⟩ := bl.split a (xs.take b) cv _ bc
     have C7 : d1.length = a * (C.T e).sz := by
      rw [bl.length _ _ _ b8, q_ _ (fun d al => lW d (List.mem_of_mem_take (List.mem_of_mem_take al))), List.length_take, List.length_take]
      congr 1; omega
     have hlen : ((xs.take b).drop a).length = b - a := by simp; omega
     have jy : hN w kA (o + a * (C.T e).sz) d2 := by
      rw [← C7]
      have : hN w kA o (d1 ++ (d2 ++ cE)) := by simpa using b5
      exact this.CZ
     have y5 : bl w F ((xs.take b).drop a) d2 (fun _ => False) := bl.mono (fun _ h => h) _ _ _ _ (fun b ae => (cB _ (eP _ ae)).elim) cu
     have mem : ∀ d ∈ (xs.take b).drop a, d.wd = sz := fun d al => bb d (List.mem_of_mem_take (List.mem_of_mem_drop al))
     have run : (Instr.sliceAt T (.slice (some ⟨kA, o, none⟩) xs.length cap) rq rr none).run C.P w = .ok (.slice (if cap = a then some ⟨kA, o, none⟩ else some ⟨kA, o + a * (C.T e).sz, none⟩) (b - a) (cap - a)) w := by
      rw [tu bA (tv aE (by simp) (by simp))]
      simp [Instr.slice, run_underlying cl, m5, jU f1, f2, Addr.add_lit]
     refine ⟨_, w, F, S, run, h, .inl ⟨rfl, (aV.da rfl).2 ⟨rfl, ?_⟩⟩⟩
     simp only [cV, iu]
     rw [aC]
     by_cases G3 : cap = a
     ·have Oo : b = a := by omega
      subst Oo
      have vO : (xs.take b).drop b = [] := by simp
      rw [if_pos G3]
      rw [vO] at y5 ⊢
      rw [bl] at y5
      subst y5
      exact .inr ⟨kA, o, cap - b, [], sz, by simp, ai, Nat.zero_le _, by omega, by simp, fun j c cx => by simp at cx, by rw [bl]⟩
     ·rw [if_neg G3]
      exact .inr ⟨kA, _, cap - a, d2, sz, by rw [hlen], ai, by rw [hlen]; omega, by omega, mem, jy, y5⟩
   ·cases he
  ·cases he
 ·rename_i e y q aE
  split at he
  ·rename_i sz xs al
   split at he
   ·rename_i b cw ae
    split at he
    ·rename_i y6
     split at he
     ·rename_i Oq s2 bh
      simp only [Option.some.injEq, Prod.mk.injEq] at he
      obtain ⟨rfl, rfl⟩ := he
      obtain ⟨i, d, z, a4, a_, a3, c1, c6, cl, cf⟩ := bA.info (g5 aE (by simp))
      rw [aE] at cf
      have := kU cf; subst this
      obtain ⟨tq, bE, qf, f1, f2, f3, f4, f5, f6, f7⟩ := bA.info y6.2
      have Ot : Oq = .aw sz xs := by
       simp only [cT, al, I.plain] at bh
       simp at bh
       exact bh.1.symm
      subst Ot
      obtain ⟨ct, hG, bc, bG, Sn, cB, eC, fH, h9, iL, ld⟩ := qc h rfl a2 bh
      rw [iK bG, aC] at cB
      rcases cB with ⟨rfl, J, kX⟩ | ⟨kA, cap, cur, gu, fr, a1, kX, b8, cu, fB, eP, gr, dG, jZ, eD, lC, qh⟩
      ·simp at kX; subst kX
       have hQ : b = 0 := by simpa using y6.1
       subst hQ
       have m5 := tt (P := C.P) (isS := true) (len := 0) (cap := 0) m3 m4 cw ae (Nat.le_refl _) (Nat.le_refl _) (Nat.le_refl _)
       refine ⟨.slice J 0 0, w, F, ct, ?_, hG, .inr ⟨rfl, rfl, fun _ => False, by simp only [cV, iu]; rw [aC]; exact .inl ⟨rfl, _, rfl⟩, fun _ h => h.elim, fun _ h => h.elim, fun _ _ h => h.elim, fun _ h => h.elim⟩⟩
       rw [tu bA (tv aE (by simp) (by simp))]
       cases J <;> simp [Instr.slice, run_underlying cl, m5, jU f1, f2]
      ·simp at kX; subst kX
       have m5 := tt (P := C.P) (isS := true) (len := xs.length) (cap := cap) m3 m4 cw ae (Nat.zero_le _) (Nat.le_trans y6.1 eP) eP
       have hlen : (xs.take b).length = b := by simp; omega
       have run : (Instr.sliceAt T (.slice (some ⟨kA, 0, none⟩) xs.length cap) rq rr none).run C.P w = .ok (.slice (some ⟨kA, 0, none⟩) b cap) w := by
        rw [tu bA (tv aE (by simp) (by simp))]
        simp [Instr.slice, run_underlying cl, m5, jU f1, f2, Addr.add_lit]
       refine ⟨_, w, F, ct, run, hG, .inr ⟨rfl, rfl, Sn, ?_, eC, fH, h9, iL⟩⟩
       simp only [cV, iu]
       rw [aC]
       obtain ⟨cv, cE, hF, gK, ay, fC, gI, hH, ky, l0⟩ := bl.split b xs _ _ eD
       refine .inr ⟨kA, cap, cur, gu, fr, a1, by rw [hlen], b8, cu, fB, by omega, gr, dG, fun d al => jZ d (List.mem_of_mem_take al), ?_, lC, qh⟩
       have C7 : cv.length = b * sz := by
        rw [bl.length _ _ _ fC, q_ _ (fun d al => jZ d (List.mem_of_mem_take al)), hlen]
       have : cur.toList.take ((xs.take b).length * sz) = cv := by
        rw [hlen]
        have aj : b * sz ≤ xs.length * sz := Nat.mul_le_mul_right _ y6.1
        have : (cur.toList.take (xs.length * sz)).take (b * sz) = cv := by rw [ay, List.take_left' C7]
        rwa [List.take_take, Nat.min_eq_left aj] at this
       rw [this]
       exact bl.mono (fun _ h => h) _ _ _ _ hH fC
     ·cases he
    ·cases he
   ·cases he
  ·cases he
 ·cases he
end
section
variable {C : cn} {w0 w : World} {F0 X F : Nat → Prop} {S : Nat → Nat → Prop} {s s1 : au} {aF : Nat → Value} {av : I}
def Src (P : Program) (w : World) (size : Nat) (x : Value) (m : Nat) (news : List Value) : Prop :=
 ∀ aS : World, aS.heap = w.heap → (Builtin.lenOf x).run P aS = .ok m aS ∧ (Builtin.firstCells size m x).run P aS = .ok news.toArray aS
def C8 (d : TypeDesc) : Prop := (∃ e, d = .slice e) ∨ d = .string
theorem Ou {P : Program} {T bN ty e : TypeId} {pA : TypeDesc} {i : TypeInfo} (bh : P.underlying T = some (.slice e)) (hu : P.underlying bN = some pA) (ru : C8 pA) (ar : P.info? e = some i)
  {x : Value} {m : Nat} {news : List Value} (y7 : Src P w i.size x m news) {b n cap : Nat} {cur : Array Value} {gu : TypeId} {fr : Nat × Nat} {l mid r : List Value} (ae : w.heap[b]? = some (.cells cur gu fr)) (bF : p9 fr cur.size)
  (ay : cur.toList = l ++ (mid ++ r)) (hl : l.length = n * i.size) (hm : mid.length = news.length) (y1 : ∀ v ∈ news, Value.gU v = true) (oO : n + m ≤ cap) :
  ∃ aS, (Builtin.append_ #[T, bN] ty #[.slice (some ⟨b, 0, none⟩) n cap, x]).run P w = .ok (.slice (some ⟨b, 0, none⟩) (n + m) cap) aS ∧ aS.heap[b]? = some (.cells (l ++ (news ++ r)).toArray gu fr) ∧
    (∀ c, c ≠ b → aS.heap[c]? = w.heap[c]?) ∧ aS.heap.size = w.heap.size ∧ aS.os = w.os ∧ aS.tape = w.tape ∧ aS.output = w.output := by
 obtain ⟨aS, fC, gI⟩ := y0 (P := P) (b := b) (o := n * i.size) (e := gu) (fr := fr) news 0 cur w l mid r ae bF ay (by omega) hm y1
 refine ⟨aS, ?_, gI⟩
 obtain ⟨ai, aj⟩ := y7 w rfl
 rcases ru with ⟨gG, rfl⟩ | rfl <;> simp [Builtin.append_, run_underlying bh, run_underlying hu, jU ar, ai, aj, oO, Addr.add_lit, fC]
theorem Ov {P : Program} {T bN ty e : TypeId} {pA : TypeDesc} {i : TypeInfo} {z : Value} (bh : P.underlying T = some (.slice e)) (hu : P.underlying bN = some pA) (ru : C8 pA) (ar : P.info? e = some i) (ca : i.zero = some z)
  {x : Value} {m : Nat} {news : List Value} (y7 : Src P w i.size x m news) {base : Option Addr} {n cap : Nat} {nP : List Value} (hold : Src P w i.size (.slice base n cap) n nP) (oO : ¬ n + m ≤ cap)
  (bd : n + m ≤ 9223372036854775807) (C9 : (n + m) * i.bytes ≤ 140737488355328) :
  (Builtin.append_ #[T, bN] ty #[.slice base n cap, x]).run P w = .ok (.slice (some ⟨w.heap.size, 0, none⟩) (n + m) (grownCap w (n + m) cap e))
   (w.drew.alloc (.cells (nP.toArray ++ news.toArray ++ Builtin.zeroCells z.cells (grownCap w (n + m) cap e - (n + m))) e)) := by
 have ai := (y7 w rfl).1
 have aj := (y7 w.drew rfl).2
 have aP := (hold w.drew rfl).2
 have auE := growslice_fits (need := n + m) (old := cap) (by omega) C9
 have jV : ¬ (281474976710656 < Builtin.nextslicecap (n + m) cap * i.bytes) := by omega
 have tx : ∀ k (w : World), (askRoom k).run P w = .ok () w := by
  intro k w
  unfold askRoom
  split <;> rfl
 have C_ : ¬ (9223372036854775807 < (n : Int) + (m : Int) ∧ i.bytes = 0) := by omega
 rcases ru with ⟨gG, rfl⟩ | rfl <;>
  ·simp [Builtin.append_, run_underlying bh, run_underlying hu, jU ar, rf ar, ai, oO, jV, Question.forced, tx]
   rw [if_neg C_, aP]
   simp [aj, tp ar ca, newRow, grownCap]
   have a4 : (nP ++ news).toArray = nP.toArray ++ news.toArray := by simp
   rw [a4, Array.append_assoc]
def y8 (C : cn) (e bN : TypeId) : Bool := match (C.T bN).k, (C.T e).k with
 | .slice gG, _ => gG == e
 | .str, .int .u8 => true
 | _, _ => false
def lD (C : cn) (s : au) (T bN : TypeId) (x y : I) : Option (I × au) :=
 match (C.T T).k with
 | .slice e => if (C.T e).ok = true ∧ (C.T e).zero.wd = (C.T e).sz ∧ (flat (C.T e).zero).isSome = true ∧ y8 C e bN = true then
   match (match x with | .bg => some (I.aw (C.T e).sz [], s) | .h a q => cT s (.h a q) | _ => none) with
   | some (.aw sz xs, s1) => if sz = (C.T e).sz then
     match (match kg x.owner y with
      | .bg => some ([], s1)
      | .slice c4 => some (c4, s1)
      | .str l => some (l.map kh, s1)
      | .h a q => match cT s1 (.h a q) with
        | some (.aw _ c4, s2) => some (c4, s2)
        | _ => none
      | _ => none) with
     | some (c4, s2) => if (∀ d ∈ c4, d.wd = (C.T e).sz) ∧ (xs.length + c4.length) * (C.T e).bytes ≤ 140737488355328 ∧ xs.length + c4.length ≤ 9223372036854775807 then some (.aw sz (xs ++ c4), s2) else none
     | none => none
     else none
   | _ => none
   else none
 | _ => none
theorem bl.append {xs c4 : List I} {cv cE : List Value} {ct el a1 : Nat → Prop} (ai : bl w F xs cv ct) (aj : bl w F c4 cE el) (a4 : ∀ b, ct b → a1 b) (a_ : ∀ b, el b → a1 b) (a3 : ∀ b, ct b → ¬ el b) : bl w F (xs ++ c4) (cv ++ cE) a1 := by
 induction xs generalizing cv ct a1 with
 | nil => rw [bl] at ai; subst ai; exact bl.mono (fun _ h => h) _ _ _ _ a_ aj
 | cons x xs ih =>
   rw [bl] at ai
   obtain ⟨Ow, Ox, hF, gK, rfl, bc, bG, cB, eC, fH⟩ := ai
   rw [List.cons_append, bl]
   refine ⟨Ow, Ox ++ cE, hF, fun b => gK b ∨ el b, by simp, bc, ih bG (fun b h => .inl h) (fun b h => .inr h) (fun b h => a3 b (eC b h)), fun b h => a4 b (cB b h), ?_, ?_⟩
   ·rintro b (h | h)
    ·exact a4 b (eC b h)
    ·exact a_ b h
   ·rintro b h (bB | bB)
    ·exact fH b h bB
    ·exact a3 b (cB b h) bB
theorem Da {P : Program} {size m cap : Nat} {b o : Nat} {news : List Value} (jy : hN w b o news) (hl : news.length = m * size) : Src P w size (.slice (some ⟨b, o, none⟩) m cap) m news := by
 intro aS hw
 refine ⟨rfl, ?_⟩
 refine run_firstCells_some aS size m ⟨b, o, none⟩ m cap news hl (fun j v cx => ?_)
 rw [Addr.add_lit]
 have := jy j v cx
 simpa [World.cell?, hw] using this
theorem G4 {P : Program} {size cap : Nat} : Src P w size (.slice none 0 cap) 0 [] := by
 intro aS _
 exact ⟨rfl, by simp [Builtin.firstCells]⟩
theorem Db {P : Program} {size cap : Nat} (a : Option Addr) : Src P w size (.slice a 0 cap) 0 [] := by
 cases a with
 | none => exact G4
 | some a =>
   intro aS _
   exact ⟨rfl, run_firstCells_some aS size 0 a 0 cap [] (by simp) (fun j v cx => by simp at cx)⟩
theorem Oy {P : Program} (l : List UInt8) : Src P w 1 (.string ⟨⟨l⟩⟩) l.length (l.map fun b => .int .u8 (b.toNat : Int)) := by
 intro aS _
 refine ⟨rfl, ?_⟩
 have : (⟨⟨l⟩⟩ : ByteArray).extract 0 l.length = ⟨⟨l⟩⟩ := by
  apply ByteArray.ext
  simp [ByteArray.data_extract]
 simp [Builtin.firstCells, this]
theorem bl.rv {sz : Nat} {xs : List I} {cs : List Value} {a1 : Nat → Prop} (h : bl w F xs cs a1) (hw : ∀ d ∈ xs, d.wd = sz) : cs.length = xs.length * sz := by
 rw [bl.length _ _ _ h, q_ _ hw]
theorem bT.turn (h : bT w0 F0 X F S s aF w) {aS : World} {b : Nat} (ae : ∀ c, c ≠ b → aS.heap[c]? = w.heap[c]?) (ah : aS.heap.size = w.heap.size) (ai : aS.os = w.os) (aj : aS.tape = w.tape) (aP : aS.output = w.output)
  (bD : ¬ F b) (cb : ∀ u, ¬ S u b) (ba : X b ∨ w0.heap.size ≤ b) : bT w0 F0 X F S s aF aS where
 hP := h.hP
 h7 := h.h7
 gB := fun c ay => by rw [ah]; exact h.gB c ay
 fz := fun t c ay => by rw [ah]; exact h.fz t c ay
 gH := h.gH
 gm := h.gm
 ew := h.ew
 en := fun t => aV.frame (Sx := S) (fun c ay => ae c (by rintro rfl; exact bD ay)) (fun _ h => h) (fun x c ay => ae c (by rintro rfl; exact cb x ay)) h.en _ _ _ (fun c ay => ae c (by rintro rfl; exact cb t ay)) (h.en t)
 old := fun c fy kR => by
  rw [ae c ?_]
  ·exact h.old c fy kR
  ·rintro rfl
   rcases ba with ba | ba
   ·exact kR ba
   ·omega
 size := by rw [ah]; exact h.size
 os := ai.trans h.os
 tape := aj.trans h.tape
 output := aP.trans h.output
theorem Oz (bA : C.fo) (h : bT w0 F0 X F S s aF w) {T bN ty : TypeId} {x y : I} {jW jn : Value} (aA : aV w F s aF x jW (fun _ => False)) (bL : aV w F s aF y jn (fun _ => False))
  (he : lD C s T bN x y = some (av, s1)) : Good C w0 F0 X aF w (Builtin.append_ #[T, bN] ty #[jW, jn]) av s1 := by
 unfold lD at he
 split at he
 ·rename_i e aE
  obtain ⟨Dc, d, Dd, a4, a_, a3, c1, c6, cl, cf⟩ := bA.info (g5 aE (by simp))
  rw [aE] at cf
  have := kU cf; subst this
  split at he
  ·rename_i rl
   obtain ⟨nO, oP, pB, oQ⟩ := rl
   obtain ⟨i, De, z, f1, f2, f3, f4, f5, f6, f7⟩ := bA.info nO
   obtain ⟨fj, lf⟩ := Option.isSome_iff_exists.1 pB
   have pC := f5 fj lf
   have nQ : fj.length = (C.T e).sz := by
    have := aC.length _ _ _ ((aC.flat (w := w) (F := F) _).1 (C.T e).zero fj (fun _ => False) (Nat.le_refl _) lf)
    rw [this, oP]
   obtain ⟨pA, hu, ru⟩ : ∃ pA, C.P.underlying bN = some pA ∧ C8 pA := by
    unfold y8 at oQ
    split at oQ
    ·rename_i gG kB
     obtain ⟨_, bE, _, _, _, _, _, _, h9, iL⟩ := bA.info (g5 kB (by simp))
     rw [kB] at iL
     exact ⟨bE, h9, .inl ⟨_, kU iL⟩⟩
    ·rename_i kB _
     obtain ⟨_, bE, _, _, _, _, _, _, h9, iL⟩ := bA.info (g5 kB (by simp))
     rw [kB] at iL
     exact ⟨bE, h9, .inr (qd iL)⟩
    ·cases oQ
   split at he
   ·rename_i sz xs Df oR
    split at he
    ·rename_i e3
     subst e3
     split at he
     ·rename_i c4 vP m6
      split at he
      ·rename_i OA
       obtain ⟨tz, C9, Dg⟩ := OA
       simp only [Option.some.injEq, Prod.mk.injEq] at he
       obtain ⟨rfl, rfl⟩ := he
       obtain ⟨hF, J, Sn, dy, rp, vJ, oM, oN, auF, auG, qi⟩ : ∃ hF, bT w0 F0 X F hF Df aF w ∧ ∃ Sn, aC w F (.aw (C.T e).sz xs) [jW] Sn ∧ (∀ b, Sn b → b < w.heap.size) ∧ (∀ b, Sn b → ¬ F b) ∧ (∀ u b, Sn b → ¬ hF u b) ∧
         (∀ b, Sn b → X b ∨ w0.heap.size ≤ b) ∧ (∀ u b, hF u b → S u b) ∧ (∀ b, Sn b → ∃ u, S u b) ∧ aV w F Df aF (kg x.owner y) jn (fun _ => False) := by
        split at oR
        ·simp only [Option.some.injEq, Prod.mk.injEq, I.aw.injEq, true_and] at oR
         obtain ⟨rfl, rfl⟩ := oR
         have := py aA; subst this
         exact ⟨S, h, fun _ => False, by rw [aC]; exact .inl ⟨rfl, _, rfl⟩, fun _ h => h.elim, fun _ h => h.elim, fun _ _ h => h.elim, fun _ h => h.elim, fun _ _ h => h, fun _ h => h.elim, bL⟩
        ·obtain ⟨ct, hG, bc, bG, Sn, cB, eC, fH, h9, iL, ld, vQ, y9⟩ := qc h rfl aA oR
         rw [iK bG] at cB
         exact ⟨ct, hG, Sn, cB, eC, fH, h9, iL, ld, vQ, y9 _ _ _ bL⟩
        ·cases oR
       obtain ⟨gK, kA, mC, news, j0, h_, l1, bk, bJ, cK, iO, a6⟩ : ∃ gK, bT w0 F0 X F gK vP aF w ∧ ∃ mC news, bl w F c4 news mC ∧ Src C.P w i.size jn c4.length news ∧ (∀ b, mC b → b < w.heap.size) ∧ (∀ b, mC b → ¬ F b) ∧ (∀ u b, mC b → ¬ gK u b) ∧
         (∀ b, mC b → X b ∨ w0.heap.size ≤ b) ∧ (∀ u b, gK u b → hF u b) ∧ (∀ b, mC b → ∃ u, hF u b) := by
        split at m6
        ·rename_i ry
         simp only [Option.some.injEq, Prod.mk.injEq] at m6
         obtain ⟨rfl, rfl⟩ := m6
         rw [ry] at qi
         have := py qi; subst this
         exact ⟨hF, J, fun _ => False, [], by rw [bl], G4, fun _ h => h.elim, fun _ h => h.elim, fun _ _ h => h.elim, fun _ h => h.elim, fun _ _ h => h, fun _ h => h.elim⟩
        ·rename_i e9 ry
         simp only [Option.some.injEq, Prod.mk.injEq] at m6
         obtain ⟨rfl, rfl⟩ := m6
         rw [ry] at qi
         rcases y4 qi with ⟨rfl, tw, auH, rfl, _, rn⟩ | ⟨b, o, cap, eK, OB, rfl, b8, cu, fB, eP, gr, dG⟩
         ·exact ⟨hF, J, fun _ => False, [], by rw [bl], Db tw, fun _ h => h.elim, fun _ h => h.elim, fun _ _ h => h.elim, fun _ h => h.elim, fun _ _ h => h, fun _ h => h.elim⟩
         ·exact ⟨hF, J, fun _ => False, eK, dG, Da gr (by rw [f2]; exact bl.rv dG tz), fun _ h => h.elim, fun _ h => h.elim, fun _ _ h => h.elim, fun _ h => h.elim, fun _ _ h => h, fun _ h => h.elim⟩
        ·rename_i l ry
         simp only [Option.some.injEq, Prod.mk.injEq] at m6
         obtain ⟨rfl, rfl⟩ := m6
         rw [ry] at qi
         have := oL qi; subst this
         have y_ : l ≠ [] → i.size = 1 := by
          intro hl
          cases l with
          | nil => exact (hl rfl).elim
          | cons b l => rw [f2, ← tz (kh b) (by simp)]; rfl
         by_cases hl : l = []
         ·subst hl
          refine ⟨hF, J, fun _ => False, [], by simp only [List.map_nil]; rw [bl], ?_, fun _ h => h.elim, fun _ h => h.elim, fun _ _ h => h.elim, fun _ h => h.elim, fun _ _ h => h, fun _ h => h.elim⟩
          intro aS _
          exact ⟨rfl, by simp [Builtin.firstCells, ByteArray.extract]; rfl⟩
         ·refine ⟨hF, J, fun _ => False, _, GY l _, ?_, fun _ h => h.elim, fun _ h => h.elim, fun _ _ h => h.elim, fun _ h => h.elim, fun _ _ h => h, fun _ h => h.elim⟩
          rw [y_ hl, List.length_map]
          exact Oy l
        ·rename_i a q ry
         split at m6
         ·rename_i auI e9 s2 bh
          simp only [Option.some.injEq, Prod.mk.injEq] at m6
          obtain ⟨rfl, rfl⟩ := m6
          rw [ry] at qi
          obtain ⟨el, hG, bc, bG, mC, cB, eC, fH, h9, iL, ld, vQ, y9⟩ := qc J rfl qi bh
          rw [iK bG, aC] at cB
          rcases cB with ⟨rfl, OC, kX⟩ | ⟨b, cap, cur, gu, fr, a1, kX, b8, cu, fB, eP, gr, dG, jZ, eD, lC, qh⟩
          ·simp at kX; subst kX
           exact ⟨el, hG, fun _ => False, [], by rw [bl], (Db OC), fun _ h => h.elim, fun _ h => h.elim, fun _ _ h => h.elim, fun _ h => h.elim, ld, fun _ h => h.elim⟩
          ·simp at kX; subst kX
           refine ⟨el, hG, a1, _, eD, Da (ti cu _) ?_, fun c ay => eC c (lC c ay), fun c ay => fH c (lC c ay), fun u c ay => h9 u c (lC c ay), fun c ay => iL c (lC c ay), ld, fun c ay => vQ c (lC c ay)⟩
           rw [f2]; exact bl.rv eD tz
         ·cases m6
        ·cases m6
       have qj : news.length = c4.length * (C.T e).sz := bl.rv j0 tz
       have m7 : ∀ c, Sn c → ¬ mC c := fun c ai aj => by obtain ⟨u, hu⟩ := a6 c aj; exact oM u c ai hu
       have lv : ∀ u c, Sn c → ¬ gK u c := fun u c ai aj => oM u c ai (iO u c aj)
       have grow : ∀ (base : Option Addr) (cap : Nat) (nP : List Value) (Sx : Nat → Prop), jW = .slice base xs.length cap → Src C.P w i.size (.slice base xs.length cap) xs.length nP → bl w F xs nP Sx → (∀ d ∈ xs, d.wd = (C.T e).sz) → (∀ c, Sx c → Sn c) → ¬ xs.length + c4.length ≤ cap →
         Good C w0 F0 X aF w (Builtin.append_ #[T, bN] ty #[jW, jn]) (.aw (C.T e).sz (xs ++ c4)) vP := by
        intro base cap nP Sx C2 hold G5 G6 fm oO
        subst C2
        have a7 := Ov (ty := ty) cl hu ru f1 f4 h_ hold oO Dg (by rw [f3]; exact C9)
        have vM := grownCap_ge w (xs.length + c4.length) cap e
        have vN := grownCap_le_maxLen w (xs.length + c4.length) cap e (by unfold maxLen; omega)
        have vR := bl.rv G5 G6
        have OD : bl w F (xs ++ c4) (nP ++ news) (fun c => Sx c ∨ mC c) := bl.append G5 j0 (fun _ h => .inl h) (fun _ h => .inr h) (fun c ai aj => m7 c (fm c ai) aj)
        have OE : (nP ++ news).length = (xs ++ c4).length * (C.T e).sz := by simp [vR, qj, Nat.add_mul]
        have jX := kA.vI (aS := w.drew.alloc (.cells (nP.toArray ++ news.toArray ++ Builtin.zeroCells z.cells (grownCap w (xs.length + c4.length) cap e - (xs.length + c4.length))) e))
         (sz := (C.T e).sz) (cap := grownCap w (xs.length + c4.length) cap e) (xs := xs ++ c4) (e := e) (fr := (0, 0)) (Sn := fun c => Sx c ∨ mC c) rfl rfl rfl rfl
         (fun o _ ⟨_, aj⟩ => absurd aj (Nat.not_lt_zero _)) (by simpa using vM) vN
         (by
          simp only [Array.size_append, List.size_toArray, size_zeroCells, pC, vR, qj, nQ, ← Nat.add_mul]
          congr 1; omega)
         (by
          intro d al
          rcases List.mem_append.1 al with al | al
          ·exact G6 d al
          ·exact tz d al)
         (by
          simp only [Array.toList_append]
          rw [List.take_left' OE]
          exact OD)
         (by rintro c (ay | ay); exact rp c (fm c ay); exact l1 c ay) (by rintro c (ay | ay); exact vJ c (fm c ay); exact bk c ay) (by rintro u c (ay | ay); exact lv u c (fm c ay); exact bJ u c ay) (by rintro c (ay | ay); exact oN c (fm c ay); exact cK c ay)
        refine ⟨_, _, F, gK, a7, jX.1, ?_⟩
        have := jX.2
        simpa using this
       rw [aC] at dy
       rcases dy with ⟨rfl, za, kX⟩ | ⟨b, cap, cur, gu, fr, a1, kX, b8, cu, fB, eP, gr, dG, jZ, eD, lC, qh⟩
       ·simp at kX; subst kX
        by_cases G7 : c4 = []
        ·subst G7
         have Dh : news = [] := by simpa using qj
         subst Dh
         refine ⟨.slice za 0 0, w, F, gK, ?_, kA, .inr ⟨rfl, rfl, fun _ => False, by simp only [cV, iu]; rw [aC]; exact .inl ⟨rfl, _, rfl⟩, fun _ h => h.elim, fun _ h => h.elim, fun _ _ h => h.elim, fun _ h => h.elim⟩⟩
         obtain ⟨ai, aj⟩ := h_ w rfl
         cases za <;> rcases ru with ⟨gG, rfl⟩ | rfl <;> simp at ai aj <;> simp [Builtin.append_, run_underlying cl, run_underlying hu, jU f1, ai, aj, storeCells]
        ·exact grow za 0 [] (fun _ => False) rfl (Db za) (by rw [bl]) (by simp) (fun _ h => h.elim) (by
          cases c4 with
          | nil => exact (G7 rfl).elim
          | cons y c4 => simp)
       ·simp at kX; subst kX
        by_cases oO : xs.length + c4.length ≤ cap
        ·
         have vR := bl.rv eD jZ
         have hlen : cur.toList.length = cap * (C.T e).sz := by simp [dG]
         have hle : (xs.length + c4.length) * (C.T e).sz ≤ cap * (C.T e).sz := Nat.mul_le_mul_right _ oO
         rw [Nat.add_mul] at hle
         have kO : cur.toList = cur.toList.take (xs.length * (C.T e).sz) ++ ((cur.toList.drop (xs.length * (C.T e).sz)).take news.length ++ (cur.toList.drop (xs.length * (C.T e).sz)).drop news.length) := by
          rw [List.take_append_drop, List.take_append_drop]
         obtain ⟨aS, fC, gI, hH, ky, l0, ch, nK⟩ := Ou (ty := ty) (n := xs.length) (m := c4.length) (cap := cap) cl hu ru f1 h_ cu fB kO (by rw [f2]; exact vR) (by simp [hlen, qj]; omega) (bl.rj _ _ _ j0) oO
         have OG := kA.turn hH ky l0 ch nK (vJ b b8) (fun u hu => lv u b b8 hu) (oN b b8)
         have tn : ∀ c, F c → aS.heap[c]? = w.heap[c]? := fun c ay => hH c (by rintro rfl; exact vJ _ b8 ay)
         refine ⟨_, aS, F, gK, fC, OG, .inr ⟨rfl, rfl, fun c => Sn c ∨ mC c, ?_, ?_, ?_, ?_, ?_⟩⟩
         ·simp only [cV, iu]
          rw [aC]
          have G8 : (cur.toList.take (xs.length * (C.T e).sz) ++ (news ++ (cur.toList.drop (xs.length * (C.T e).sz)).drop news.length)).toArray.size = cur.size := by
           have : cur.size = cur.toList.length := by simp
           rw [this]
           conv => rhs; rw [kO]
           simp [hlen, qj]; omega
          refine .inr ⟨b, cap, _, gu, fr, fun c => a1 c ∨ mC c, by simp, .inl b8, gI, by rw [G8]; exact fB, by simpa using oO, gr, by rw [G8]; exact dG, ?_, ?_, ?_, ?_⟩
          ·intro d al
           rcases List.mem_append.1 al with al | al
           ·exact jZ d al
           ·exact tz d al
          ·have Di := bl.frame tn _ _ _ (fun c ay => hH c (by rintro rfl; exact qh ay)) eD
           have yQ := bl.frame tn _ _ _ (fun c ay => hH c (by rintro rfl; exact m7 _ b8 ay)) j0
           have : ((cur.toList.take (xs.length * (C.T e).sz) ++ (news ++ (cur.toList.drop (xs.length * (C.T e).sz)).drop news.length)).toArray.toList.take ((xs ++ c4).length * (C.T e).sz)) = cur.toList.take (xs.length * (C.T e).sz) ++ news := by
            simp only []
            rw [← List.append_assoc]
            exact List.take_left' (by rw [List.length_append, vR, qj, List.length_append, Nat.add_mul])
           rw [this]
           exact bl.append Di yQ (fun _ h => .inl h) (fun _ h => .inr h) (fun c ai aj => m7 c (lC c ai) aj)
          ·rintro c (ay | ay)
           ·exact .inl (lC c ay)
           ·exact .inr ay
          ·rintro (ay | ay)
           ·exact qh ay
           ·exact m7 b b8 ay
         ·rw [ky]; rintro c (ay | ay); exact rp c ay; exact l1 c ay
         ·rintro c (ay | ay); exact vJ c ay; exact bk c ay
         ·rintro u c (ay | ay); exact lv u c ay; exact bJ u c ay
         ·rintro c (ay | ay); exact oN c ay; exact cK c ay
        ·exact grow (some ⟨b, 0, none⟩) cap _ a1 rfl (Da (ti cu _) (by rw [f2]; exact bl.rv eD jZ)) eD jZ lC oO
      ·cases he
     ·cases he
    ·cases he
   ·cases he
  ·cases he
 ·cases he
end
end Go.dg
