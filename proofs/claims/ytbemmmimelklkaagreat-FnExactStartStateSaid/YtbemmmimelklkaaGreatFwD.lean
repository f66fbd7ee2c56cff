/- Part of a proof that a law returns true for every input. No condition. -/
import Derived.Test.YtbemmmimelklkaaGreatFwC
import Derived.Test.YtbemmmimelklkaaGreatFwA
import Derived.Laws.IdiomStrings
import Derived.Laws.Strings
import Derived.LaidEql
import Derived.WideLaws
namespace Go.dk
section
variable {C : ck} {w0 w : World} {F0 X F : Nat → Prop} {S : Nat → Nat → Prop} {s s1 : ar} {aF : Nat → Value} {av : I}
theorem pe {k : IntKind} {n : Int} {v : Value} {a1 : Nat → Prop} (h : aW w F s aF (.int k n) v a1) : v = .int k n := by
 have bD := (aW.da rfl).1 h
 rw [aB, iH bD.1] at bD
 simpa using bD.2
theorem q1 {b : Bool} {v : Value} {a1 : Nat → Prop} (h : aW w F s aF (.bool b) v a1) : v = .bool b := by
 have bD := (aW.da rfl).1 h
 rw [aB, iH bD.1] at bD
 simpa using bD.2
theorem oy {b : List UInt8} {v : Value} {a1 : Nat → Prop} (h : aW w F s aF (.str b) v a1) : v = .string ⟨⟨b⟩⟩ := by
 have bD := (aW.da rfl).1 h
 rw [aB, iH bD.1] at bD
 simpa using bD.2
theorem Gq {v : Value} {a1 : Nat → Prop} (h : aW w F s aF .dC v a1) : v = .pointer none := by
 have bD := (aW.da rfl).1 h
 rw [aB, iH bD.1] at bD
 simpa using bD.2
theorem pf {v : Value} {a1 : Nat → Prop} (h : aW w F s aF .bc v a1) : v = .slice none 0 0 := by
 have bD := (aW.da rfl).1 h
 rw [aB, iH bD.1] at bD
 simpa using bD.2
theorem Gr {v : Value} {a1 : Nat → Prop} (h : aW w F s aF .e7 v a1) : ∃ b, v = .bool b := by
 have bD := (aW.da rfl).1 h
 rw [aB, iH bD.1] at bD
 simpa using bD.2
theorem of_int (k : IntKind) (n : Int) : aW w F s aF (.int k n) (.int k n) (fun _ => False) := (aW.da rfl).2 ⟨rfl, by rw [aB]; rfl⟩
theorem of_bool (b : Bool) : aW w F s aF (.bool b) (.bool b) (fun _ => False) := (aW.da rfl).2 ⟨rfl, by rw [aB]; rfl⟩
theorem nC (b : List UInt8) : aW w F s aF (.str b) (.string ⟨⟨b⟩⟩) (fun _ => False) := (aW.da rfl).2 ⟨rfl, by rw [aB]; rfl⟩
theorem CF (b : Bool) : aW w F s aF .e7 (.bool b) (fun _ => False) := (aW.da rfl).2 ⟨rfl, by rw [aB]; exact ⟨b, rfl⟩⟩
def iJ (op : BinOp) (k : IntKind) (a : Int) (df : IntKind) (b : Int) : Option I :=
 match op with
 | .shl => if b < 0 then none else some (.int k (k.wrap (a * 2 ^ (min b.toNat k.bits))))
 | .shr => if b < 0 then none else some (.int k (a.fdiv (2 ^ (min b.toNat k.bits))))
 | .add => if k = df then some (.int k (k.wrap (a + b))) else none
 | .sub => if k = df then some (.int k (k.wrap (a - b))) else none
 | .mul => if k = df then some (.int k (k.wrap (a * b))) else none
 | .quo => if k = df ∧ b ≠ 0 then some (.int k (k.wrap (a.tdiv b))) else none
 | .rem => if k = df ∧ b ≠ 0 then some (.int k (a.tmod b)) else none
 | .eql => if k = df then some (.bool (a == b)) else none
 | .neq => if k = df then some (.bool (a != b)) else none
 | .lss => if k = df then some (.bool (decide (a < b))) else none
 | .leq => if k = df then some (.bool (decide (a ≤ b))) else none
 | .gtr => if k = df then some (.bool (decide (b < a))) else none
 | .geq => if k = df then some (.bool (decide (b ≤ a))) else none
 | .and => if k = df then some (.int k (bitsOf .and k a b)) else none
 | .or => if k = df then some (.int k (bitsOf .or k a b)) else none
 | .xor => if k = df then some (.int k (bitsOf .xor k a b)) else none
 | .andNot => if k = df then some (.int k (bitsOf .andNot k a b)) else none
def mo (op : BinOp) (a b : List UInt8) : Option I :=
 match op with
 | .add => if a.length + b.length ≤ 9223372036854775807 then some (.str (a ++ b)) else none
 | .eql => some (.bool (a == b))
 | .neq => some (.bool !(a == b))
 | .lss => some (.bool (Op.bytesLess a b))
 | .leq => some (.bool (Op.bytesLess a b || a == b))
 | .gtr => some (.bool !(Op.bytesLess a b || a == b))
 | .geq => some (.bool !(Op.bytesLess a b))
 | _ => none
def jl (s : ar) : I → Option (Option Bool)
 | .bc => some (some true)
 | .slice xs => some (if xs = [] then none else some false)
 | .h x q => match I.sub q (s x) with
   | some (.aw _ xs) => some (if xs = [] then none else some false)
   | _ => none
 | _ => none
def kO (s : ar) : I → Option Bool
 | .dC => some true
 | .ref _ => some false
 | .h x q => match I.sub q (s x) with
   | some (.a8 _) => some false
   | _ => none
 | _ => none
def nD (neg : Bool) : Option Bool → I
 | some b => .bool (b != neg)
 | none => .e7
def aq (C : ck) (s : ar) (op : BinOp) (T : TypeId) (x y : I) : Option I :=
 match x, y with
 | .int k a, .int df b => iJ op k a df b
 | .str a, .str b => mo op a b
 | .bool a, .bool b => match op, (C.T T).k with
   | .eql, .bool => some (.bool (a == b))
   | .neq, .bool => some (.bool !(a == b))
   | _, _ => none
 | x, .bc => match op, (C.T T).k with
   | .eql, .slice _ => (jl s x).map (nD false)
   | .neq, .slice _ => (jl s x).map (nD true)
   | _, _ => none
 | x, .dC => match op, (C.T T).k with
   | .eql, .ptr _ => (kO s x).map fun b => .bool b
   | .neq, .ptr _ => (kO s x).map fun b => .bool !b
   | _, _ => none
 | _, _ => none
theorem Nz {P : Program} {op : BinOp} {T : TypeId} {k df : IntKind} {a b : Int} (he : iJ op k a df b = some av) (w : World) :
  ∃ v, (binOp op T (.int k a) (.int df b)).run P w = .ok v w ∧ aW w F s aF av v (fun _ => False) := by
 unfold iJ at he
 cases op <;> simp only at he <;> split at he <;> first | (cases he; done) | skip
 all_goals
  rename_i ay
  simp only [Option.some.injEq] at he
  subst he
 all_goals first
  | (subst ay; simp only [binOp_add, binOp_sub, binOp_mul, binOp_eql, binOp_neq, binOp_lss, binOp_leq, binOp_gtr, binOp_geq, binOp_and, binOp_or, binOp_xor, binOp_andNot, Op.intArith, Op.intBits, Sem.run_pure, Result.ok.injEq, and_true, exists_eq_left']
     first | exact of_int _ _ | exact of_bool _)
  | (obtain ⟨rfl, a9⟩ := ay
     simp only [binOp_quo, binOp_rem, Op.intDiv, a9, if_false, Sem.run_pure, Result.ok.injEq, and_true, exists_eq_left']
     exact of_int _ _)
  | (simp only [binOp_shl, binOp_shr, Op.shift, ay, if_false, Sem.run_pure, Result.ok.injEq, and_true, exists_eq_left']
     exact of_int _ _)
theorem CG (a : List UInt8) : (⟨⟨a⟩⟩ : ByteArray).toList = a := ByteArray.toList_eq _
theorem NA (a b : List UInt8) : (⟨⟨a⟩⟩ : ByteArray) ++ (⟨⟨b⟩⟩ : ByteArray) = ⟨⟨a ++ b⟩⟩ := by
 apply ByteArray.ext
 simp [ByteArray.data_append]
theorem NB {P : Program} {op : BinOp} {T : TypeId} {a b : List UInt8} (he : mo op a b = some av) (w : World) :
  ∃ v, (binOp op T (.string ⟨⟨a⟩⟩) (.string ⟨⟨b⟩⟩)).run P w = .ok v w ∧ aW w F s aF av v (fun _ => False) := by
 have ae : ∀ op, binOp op T (.string ⟨⟨a⟩⟩) (.string ⟨⟨b⟩⟩) = Op.stringOp op ⟨⟨a⟩⟩ ⟨⟨b⟩⟩ := by intro op; cases op <;> rfl
 rw [ae]
 unfold mo at he
 cases op <;> simp only [Option.some.injEq] at he <;> first | (cases he; done) | skip
 case add =>
  split at he
  ·rename_i hl
   simp only [Option.some.injEq] at he; subst he
   have ah : ((ByteArray.size ⟨⟨a⟩⟩ + ByteArray.size ⟨⟨b⟩⟩ : Nat) : Int) ≤ 9223372036854775807 := by
    show ((a.length + b.length : Nat) : Int) ≤ _
    omega
   refine ⟨.string ⟨⟨a ++ b⟩⟩, ?_, nC _⟩
   simp only [Op.stringOp, IntKind.max_i64]
   rw [if_neg (by omega), NA]
   rfl
  ·cases he
 all_goals
  subst he
  simp only [Op.stringOp, CG, Sem.run_pure, Result.ok.injEq, and_true, exists_eq_left']
  exact of_bool _
theorem CH (h : bW w0 F0 X F S s aF w) {v : Value} {y : Nat} {q : List Nat} (a3 : aW w F s aF (.h y q) v (fun _ => False)) {sz : Nat} {xs : List I} (al : I.sub q (s y) = some (.aw sz xs)) :
  (xs = [] ∧ ∃ a, v = .slice a 0 0) ∨ ∃ b cap cur e fr, v = .slice (some ⟨b, 0, none⟩) xs.length cap ∧ w.heap[b]? = some (.cells cur e fr) ∧ pU fr cur.size ∧ xs.length ≤ cap ∧ cap ≤ maxLen ∧ cur.size = cap * sz ∧ (∀ d ∈ xs, d.wd = sz) ∧
   ∃ a1, bm w F xs (cur.toList.take (xs.length * sz)) a1 ∧ (∀ c, a1 c → S y c) ∧ S y b := by
 rw [aW] at a3
 obtain ⟨c0, a, bf, bG, cC⟩ := a3 _ al rfl
 have ah : Value.gX v = true := cC
 rw [iH ah] at bG; subst bG
 have aC := h.eu y
 rw [aW.da (iq al (.inl rfl))] at aC
 obtain ⟨gk, cR, e3, hd, k0, b5, cu, fD, eO, gr⟩ := ctx q (s y) (cY (aF y)) (S y) none _ aC.2 al
 rw [k0] at bf
 simp only [Option.some.injEq, Prod.mk.injEq, true_and] at bf
 obtain ⟨rfl, rfl⟩ := bf
 rw [aB] at eO
 rcases eO with ⟨rfl, bk, aj⟩ | ⟨b, cap, cur, a_, fr, et, a2, c1, c9, cl, cf, hN, ku, lr, nE, eh, eC⟩
 ·simp at aj; exact .inl ⟨rfl, _, aj⟩
 ·simp at a2
  exact .inr ⟨b, cap, cur, a_, fr, a2, c9, cl, cf, hN, ku, lr, et, nE, fun c ay => cu _ (eh c ay), cu _ c1⟩
theorem Gs (h : bW w0 F0 X F S s aF w) {v : Value} {y : Nat} {q : List Nat} (a3 : aW w F s aF (.h y q) v (fun _ => False)) {d : I} (al : I.sub q (s y) = some (.a8 d)) :
  ∃ b cur e fr, v = .pointer (some ⟨b, 0, none⟩) ∧ w.heap[b]? = some (.cells cur e fr) := by
 rw [aW] at a3
 obtain ⟨c0, a, bf, bG, cC⟩ := a3 _ al rfl
 have ah : Value.gX v = true := cC
 rw [iH ah] at bG; subst bG
 have aC := h.eu y
 rw [aW.da (iq al (.inl rfl))] at aC
 obtain ⟨gk, cR, e3, hd, k0, b5, cu, fD, eO, gr⟩ := ctx q (s y) (cY (aF y)) (S y) none _ aC.2 al
 rw [k0] at bf
 simp only [Option.some.injEq, Prod.mk.injEq, true_and] at bf
 obtain ⟨rfl, rfl⟩ := bf
 rw [aB] at eO
 obtain ⟨b, cur, a_, fr, et, a2, c1, c9, _⟩ := eO
 simp at a2
 exact ⟨b, cur, a_, fr, a2, c9⟩
theorem Gt {P : Program} {T e : TypeId} (bh : P.underlying T = some (.slice e)) (w : World) : ∀ d, (Op.equalIn (d + 1) T (.slice none 0 0) (.slice none 0 0)).run P w = .ok true w ∧
  ∀ a n c, (Op.equalIn (d + 1) T (.slice (some a) n c) (.slice none 0 0)).run P w = .ok false w := by
 intro d
 refine ⟨by simp [Op.equalIn, run_underlying bh], fun a n c => by simp [Op.equalIn, run_underlying bh]⟩
theorem Gu {P : Program} {T e : TypeId} (bh : P.underlying T = some (.pointer e)) (w : World) : ∀ d, (Op.equalIn (d + 1) T (.pointer none) (.pointer none)).run P w = .ok true w ∧
  ∀ a, (Op.equalIn (d + 1) T (.pointer (some a)) (.pointer none)).run P w = .ok false w := by
 intro d
 refine ⟨by simp [Op.equalIn, run_underlying bh], fun a => by simp [Op.equalIn, run_underlying bh]⟩
theorem Gv {P : Program} {T : TypeId} (bh : P.underlying T = some .bool) (w : World) : ∀ d a b, (Op.equalIn (d + 1) T (.bool a) (.bool b)).run P w = .ok (a == b) w := by
 intro d a b
 simp [Op.equalIn, run_underlying bh]
theorem Gw (h : bW w0 F0 X F S s aF w) {x : I} {v : Value} (a3 : aW w F s aF x v (fun _ => False)) {T e : TypeId} {r : Option Bool} (a7 : jl s x = some r) (bh : C.P.underlying T = some (.slice e)) :
  ∃ b, (Op.equal T v (.slice none 0 0)).run C.P w = .ok b w ∧ (∀ fY, r = some fY → fY = b) ∧ Value.gX v = true ∧ ∃ a n c, v = .slice a n c := by
 have a4 := fun a n c => (Gt bh w 9999).2 a n c
 have gu := (Gt bh w 9999).1
 cases x with
 | bc =>
   have := pf a3; subst this
   simp [jl] at a7; subst a7
   exact ⟨true, gu, by simp, rfl, _, _, _, rfl⟩
 | slice xs =>
   have bD := (aW.da rfl).1 a3
   rw [aB, iH bD.1] at bD
   simp only [jl, Option.some.injEq] at a7
   obtain ⟨_, ⟨rfl, a, c, aj, _, q2⟩ | ⟨b, o, cap, eM, sz, aj, aQ⟩⟩ := bD
   ·simp at aj a7; subst aj; subst a7
    cases a with
    | none =>
      have := q2 rfl; subst this
      exact ⟨true, gu, by simp, rfl, _, _, _, rfl⟩
    | some a => exact ⟨false, a4 _ _ _, by simp, rfl, _, _, _, rfl⟩
   ·simp at aj; subst aj
    refine ⟨false, a4 _ _ _, ?_, rfl, _, _, _, rfl⟩
    subst a7
    split <;> simp
 | h y q =>
   simp only [jl] at a7
   split at a7
   ·rename_i sz xs al
    simp only [Option.some.injEq] at a7
    rcases CH h a3 al with ⟨rfl, a, rfl⟩ | ⟨b, cap, cur, a_, fr, rfl, _⟩
    ·simp at a7; subst a7
     cases a with
     | none => exact ⟨true, gu, by simp, rfl, _, _, _, rfl⟩
     | some a => exact ⟨false, a4 _ _ _, by simp, rfl, _, _, _, rfl⟩
    ·refine ⟨false, a4 _ _ _, ?_, rfl, _, _, _, rfl⟩
     subst a7
     split <;> simp
   ·cases a7
 | _ => simp [jl] at a7
theorem Gx (h : bW w0 F0 X F S s aF w) {x : I} {v : Value} (a3 : aW w F s aF x v (fun _ => False)) {T e : TypeId} {r : Bool} (a7 : kO s x = some r) (bh : C.P.underlying T = some (.pointer e)) :
  (Op.equal T v (.pointer none)).run C.P w = .ok r w ∧ ∃ a, v = .pointer a := by
 have a4 := fun a => (Gu bh w 9999).2 a
 have gu := (Gu bh w 9999).1
 cases x with
 | dC =>
   have := Gq a3; subst this
   simp [kO] at a7; subst a7
   exact ⟨gu, _, rfl⟩
 | ref d =>
   have bD := (aW.da rfl).1 a3
   rw [aB, iH bD.1] at bD
   simp [kO] at a7; subst a7
   obtain ⟨_, b, o, eM, aj, _⟩ := bD
   simp at aj; subst aj
   exact ⟨a4 _, _, rfl⟩
 | h y q =>
   simp only [kO] at a7
   split at a7
   ·rename_i d al
    simp only [Option.some.injEq] at a7; subst a7
    obtain ⟨b, cur, e, fr, rfl, _⟩ := Gs h a3 al
    exact ⟨a4 _, _, rfl⟩
   ·cases a7
 | _ => simp [kO] at a7
theorem NC (bB : C.fq) (h : bW w0 F0 X F S s aF w) {op : BinOp} {T : TypeId} {x y : I} {jT jk : Value} (ND NF : Operand) (aC : aW w F s aF x jT (fun _ => False)) (bL : aW w F s aF y jk (fun _ => False))
  (he : aq C s op T x y = some av) : Good C w0 F0 X aF w (do eqGuard op T ND NF jT jk; binOp op T jT jk) av s := by
 unfold aq at he
 split at he
 ·have := pe aC; subst this
  have := pe bL; subst this
  obtain ⟨v, ai, aj⟩ := Nz (P := C.P) (T := T) he w
  refine Good.same h (v := v) ?_ ?_ aj
  ·rw [eqGuard_at_int]; exact ai
  ·revert he; unfold iJ; cases op <;> simp only <;> split <;> simp <;> (rintro rfl; rfl)
 ·have := oy aC; subst this
  have := oy bL; subst this
  obtain ⟨v, ai, aj⟩ := NB (P := C.P) (T := T) he w
  refine Good.same h (v := v) ?_ ?_ aj
  ·rw [eqGuard_at_string]; exact ai
  ·revert he; unfold mo; cases op <;> simp only <;> (try split) <;> simp <;> (try (rintro rfl; rfl))
 ·have := q1 aC; subst this
  have := q1 bL; subst this
  split at he
  ·rename_i aE
   simp only [Option.some.injEq] at he; subst he
   obtain ⟨i, d, z, a4, a_, a2, c1, c9, cl, cf⟩ := bB.info (g9 aE (by simp))
   rw [aE] at cf
   have := Gh cf; subst this
   refine Good.same h ?_ rfl (of_bool _)
   rw [eqGuard_at_bool]
   simp [binOp, Op.equal, Op.maxDepth, Gv cl w 9999]
  ·rename_i aE
   simp only [Option.some.injEq] at he; subst he
   obtain ⟨i, d, z, a4, a_, a2, c1, c9, cl, cf⟩ := bB.info (g9 aE (by simp))
   rw [aE] at cf
   have := Gh cf; subst this
   refine Good.same h ?_ rfl (of_bool _)
   rw [eqGuard_at_bool]
   simp [binOp, Op.equal, Op.maxDepth, Gv cl w 9999]
  ·cases he
 ·have := pf bL; subst this
  split at he
  ·rename_i e aE
   simp only [Option.map_eq_some_iff] at he
   obtain ⟨r, a7, rfl⟩ := he
   obtain ⟨i, d, z, a4, a_, a2, c1, c9, cl, cf⟩ := bB.info (g9 aE (by simp))
   rw [aE] at cf
   have := kN cf; subst this
   obtain ⟨b, ai, aj, aQ, J, bS, mm, rfl⟩ := Gw h aC a7 cl
   refine Good.same h (v := .bool b) ?_ ?_ ?_
   ·rw [eqGuard_at_slice]
    simp [binOp, ai]
   ·cases r <;> rfl
   ·cases r with
    | none => exact CF b
    | some fY => have := aj fY rfl; subst this; simp only [nD, Bool.bne_false]; exact of_bool _
  ·rename_i e aE
   simp only [Option.map_eq_some_iff] at he
   obtain ⟨r, a7, rfl⟩ := he
   obtain ⟨i, d, z, a4, a_, a2, c1, c9, cl, cf⟩ := bB.info (g9 aE (by simp))
   rw [aE] at cf
   have := kN cf; subst this
   obtain ⟨b, ai, aj, aQ, J, bS, mm, rfl⟩ := Gw h aC a7 cl
   refine Good.same h (v := .bool !b) ?_ ?_ ?_
   ·rw [eqGuard_at_slice]
    simp [binOp, ai]
   ·cases r <;> rfl
   ·cases r with
    | none => exact CF _
    | some fY => have := aj fY rfl; subst this; simp only [nD, Bool.bne_true]; exact of_bool _
  ·cases he
 ·have := Gq bL; subst this
  split at he
  ·rename_i e aE
   simp only [Option.map_eq_some_iff] at he
   obtain ⟨r, a7, rfl⟩ := he
   obtain ⟨i, d, z, a4, a_, a2, c1, c9, cl, cf⟩ := bB.info (g9 aE (by simp))
   rw [aE] at cf
   have := Gi cf; subst this
   obtain ⟨ai, J, rfl⟩ := Gx h aC a7 cl
   refine Good.same h (v := .bool r) ?_ rfl (of_bool _)
   rw [eqGuard_at_pointer]
   simp [binOp, ai]
  ·rename_i e aE
   simp only [Option.map_eq_some_iff] at he
   obtain ⟨r, a7, rfl⟩ := he
   obtain ⟨i, d, z, a4, a_, a2, c1, c9, cl, cf⟩ := bB.info (g9 aE (by simp))
   rw [aE] at cf
   have := Gi cf; subst this
   obtain ⟨ai, J, rfl⟩ := Gx h aC a7 cl
   refine Good.same h (v := .bool !r) ?_ rfl (of_bool _)
   rw [eqGuard_at_pointer]
   simp [binOp, ai]
  ·cases he
 ·cases he
end
section
variable {C : ck} {w0 w : World} {F0 X F : Nat → Prop} {S : Nat → Nat → Prop} {s s1 : ar} {aF : Nat → Value} {av : I}
def un (op : UnOp) (x : I) : Option I :=
 match op, x with
 | .not, .bool b => some (.bool !b)
 | .not, .e7 => some .e7
 | .neg, .int k n => some (.int k (k.wrap (0 - n)))
 | _, _ => none
theorem NG (h : bW w0 F0 X F S s aF w) {op : UnOp} {x : I} {v : Value} (a3 : aW w F s aF x v (fun _ => False)) (he : un op x = some av) : Good C w0 F0 X aF w (Op.unary op v) av s := by
 unfold un at he
 split at he <;> first | (cases he; done) | (simp only [Option.some.injEq] at he; subst he)
 ·have := q1 a3; subst this
  exact Good.same h rfl rfl (of_bool _)
 ·obtain ⟨b, rfl⟩ := Gr a3
  exact Good.same h rfl rfl (CF _)
 ·have := pe a3; subst this
  exact Good.same h rfl rfl (of_int _ _)
def dN (s : ar) (x : I) : Option I :=
 match x with
 | .ref d => some (.ref d)
 | .fn f c => some (.fn f c)
 | .h y q => match I.sub q (s y) with
   | some (.a8 _) => some (.h y q)
   | _ => none
 | _ => none
theorem NH {d : I} {v : Value} {a1 : Nat → Prop} (h : aW w F s aF (.ref d) v a1) : ∃ b o eM, v = .pointer (some ⟨b, o, none⟩) ∧ F b ∧ hK w b o eM ∧ aB w F d eM (fun _ => False) := by
 have bD := (aW.da rfl).1 h
 rw [aB, iH bD.1] at bD
 obtain ⟨_, b, o, eM, ai, aj, aQ, bd⟩ := bD
 simp at ai; subst ai
 exact ⟨b, o, eM, rfl, aj, aQ, bd⟩
theorem NI (h : bW w0 F0 X F S s aF w) {x : I} {v : Value} (a3 : aW w F s aF x v (fun _ => False)) (he : dN s x = some av) :
  av = x ∧ x.plain = true ∧ ((∃ a, v = .pointer (some a)) ∨ ∃ f c, v = .func (.func f) #[] c) := by
 unfold dN at he
 split at he
 ·simp only [Option.some.injEq] at he; subst he
  obtain ⟨b, o, eM, rfl, _⟩ := NH a3
  exact ⟨rfl, rfl, .inl ⟨_, rfl⟩⟩
 ·simp only [Option.some.injEq] at he; subst he
  rw [aW] at a3
  obtain ⟨arr, rfl, _⟩ := a3
  exact ⟨rfl, rfl, .inr ⟨_, _, rfl⟩⟩
 ·split at he
  ·rename_i d al
   simp only [Option.some.injEq] at he; subst he
   obtain ⟨b, cur, e, fr, rfl, _⟩ := Gs h a3 al
   exact ⟨rfl, rfl, .inl ⟨_, rfl⟩⟩
  ·cases he
 ·cases he
def ex (s : ar) (x : I) (k : Nat) : Option I :=
 match x with
 | .tuple ds => match ds[k]? with
   | some d => if d.plain = true then some d else none
   | none => none
 | .h y q => match I.sub q (s y) with
   | some (.tuple ds) => match ds[k]? with
     | some d => if I.dI ds = true then none else some (if d.plain then d else .h y (q ++ [k]))
     | none => none
   | _ => none
 | _ => none
theorem Gy : ∀ (vs : List Value) (k : Nat) (x : Value) (ds : List I), vs[k]? = some x → vs.length = ds.length → (∀ (j : Nat) (d : I) (y : Value), ds[j]? = some d → vs[j]? = some y → (il y).length = d.wd) →
  ∃ l r, vs.flatMap il = l ++ (il x ++ r) ∧ l.length = I.ez (ds.take k)
 | [], k, x, ds, h, _, _ => by simp at h
 | v :: vs, 0, x, ds, h, hl, hw => by
   simp at h; subst h
   exact ⟨[], vs.flatMap il, by simp, by simp [I.ez]⟩
 | v :: vs, k + 1, x, d :: ds, h, hl, hw => by
   obtain ⟨l, r, a4, a_⟩ := Gy vs k x ds (by simpa using h) (by simpa using hl) (fun j d y ai aj => hw (j + 1) d y (by simpa using ai) (by simpa using aj))
   refine ⟨il v ++ l, r, by simp [a4], ?_⟩
   have := hw 0 d v (by simp) (by simp)
   simp [I.ez, a_, this]
 | v :: vs, k + 1, x, [], h, hl, hw => by simp at hl
theorem NJ {d : I} {v : Value} (h : im d v) (_hd : ∀ vs, d ≠ .tuple vs) : cY v = il v := by
 cases d with
 | agg az => obtain ⟨arr, rfl⟩ := h; rfl
 | _ =>
   have ai : Value.gX v = true := h
   cases v <;> first | rfl | (simp [Value.gX] at ai)
theorem NK {d : I} {v : Value} (h : im d v) (al : ∀ vs, d ≠ .tuple vs) : eN d v := by
 cases d with
 | tuple vs => exact (al _ rfl).elim
 | _ => exact h
theorem NL (h : bW w0 F0 X F S s aF w) {x : I} {v : Value} {k : Nat} (a3 : aW w F s aF x v (fun _ => False)) (he : ex s x k = some av) : Good C w0 F0 X aF w (Instr.extract v k) av s := by
 have pick : ∀ (ds : List I) (d : I) (arr : Array Value), ds[k]? = some d → (arr.size = ds.length ∧ ∀ (k : Nat) (d : I) (x : Value), ds[k]? = some d → arr[k]? = some x → im d x ∧ (∀ vs, d ≠ .tuple vs) ∧ (il x).length = d.wd) →
   ∃ x, arr[k]? = some x ∧ eN d x ∧ ((cY (.tuple arr)).drop (I.ez (ds.take k))).take d.wd = cY x := by
  intro ds d arr al ⟨b7, mR⟩
  have fz : k < arr.size := by rw [b7]; exact (List.getElem?_eq_some_iff.1 al).1
  have aC : arr[k]? = some arr[k] := Array.getElem?_eq_getElem fz
  obtain ⟨bf, bG, cC⟩ := mR k d _ al aC
  obtain ⟨l, r, a4, a_⟩ := Gy arr.toList k arr[k] ds (by simp [fz]) (by simpa using b7) (fun j d y ai aj => (mR j d y ai (by simpa using aj)).2.2)
  refine ⟨_, aC, NK bf bG, ?_⟩
  rw [NJ bf bG]
  simp only [cY]
  rw [a4]
  exact sW l _ r _ _ a_ cC
 unfold ex at he
 split at he
 ·rename_i ds
  split at he
  ·rename_i d al
   split at he
   ·rename_i ax
    simp only [Option.some.injEq] at he; subst he
    have bD := (aW.da rfl).1 a3
    obtain ⟨⟨arr, rfl, b7⟩, jm⟩ := bD
    obtain ⟨x, aC, ah, ay⟩ := pick ds d arr al b7
    have a7 : (Instr.extract (.tuple arr) k).run C.P w = .ok x w := by simp [Instr.extract, aC]
    rw [aB] at jm
    obtain ⟨cE, gj, cF, ct, j7, e, h3, gP, ht, h4, hf, lN⟩ := bm.pick ds _ _ k d jm al
    rw [e, sW cE gj cF _ _ h3 (aB.length _ _ _ hf)] at ay
    by_cases bh : d.tree = true
    ·exact Good.same h a7 ax ((aW.da bh).2 ⟨ah, by rw [← ay]; exact aB.plain _ _ _ _ ax hf⟩)
    ·cases d <;> first | exact (bh rfl).elim | (rw [aB] at hf; exact hf.elim) | exact Good.same h a7 rfl (by rw [aW]; trivial)
   ·cases he
  ·cases he
 ·rename_i y q
  split at he
  ·rename_i ds al
   split at he
   ·rename_i d aE
    split at he
    ·cases he
    ·rename_i gq
     simp only [Option.some.injEq] at he
     have gq : (I.tuple ds).plain = false := by simpa [I.plain] using gq
     rw [aW] at a3
     obtain ⟨c0, a, bf, bG, cC⟩ := a3 _ al gq
     obtain ⟨arr, rfl, b7⟩ := cC
     obtain ⟨x, aC, ah, ay⟩ := pick ds d arr aE b7
     have a7 : (Instr.extract (.tuple arr) k).run C.P w = .ok x w := by simp [Instr.extract, aC]
     have bL := h.eu y
     rw [aW.da (iq al (.inl gq))] at bL
     obtain ⟨gk, cR, e3, hd, k0, b5, cu, fD, eO, gr⟩ := ctx q (s y) (cY (aF y)) (S y) none _ bL.2 al
     rw [k0] at bf
     simp only [Option.some.injEq, Prod.mk.injEq, true_and] at bf
     obtain ⟨rfl, rfl⟩ := bf
     rw [bG] at ay
     split at he
     ·rename_i ax
      subst he
      rw [aB] at eO
      obtain ⟨cE, gj, cF, ct, j7, e, h3, gP, ht, h4, hf, lN⟩ := bm.pick ds _ _ k d eO aE
      rw [e, sW cE gj cF _ _ h3 (aB.length _ _ _ hf)] at ay
      by_cases bh : d.tree = true
      ·exact Good.same h a7 ax ((aW.da bh).2 ⟨ah, by rw [← ay]; exact aB.plain _ _ _ _ ax hf⟩)
      ·cases d <;> first | exact (bh rfl).elim | (rw [aB] at hf; exact hf.elim) | exact Good.same h a7 rfl (by rw [aW]; trivial)
     ·subst he
      refine Good.same h a7 rfl ?_
      rw [aW]
      intro d2 jj Gc
      rw [yq w q _ _ _ _ _ _ [k] k0]
      rw [yp _ _ _ _ al] at jj
      simp only [I.sub, aE, Option.some.injEq] at jj
      subst jj
      simp only [dr, aE]
      exact ⟨_, _, rfl, ay.symm, ah⟩
   ·cases he
  ·cases he
 ·cases he
end
section
variable {C : ck} {w0 w : World} {F0 X F : Nat → Prop} {S : Nat → Nat → Prop} {s s1 : ar} {aF : Nat → Value} {av : I}
def idx (C : ck) (T : TypeId) (x i : I) : Option I :=
 match (C.T T).k, x, i with
 | .str, .str l, .int _ n => if 0 ≤ n then (match l[n.toNat]? with | some b => some (.int .u8 b.toNat) | none => none) else none
 | _, _, _ => none
theorem NM (l : List UInt8) (n : Nat) : (⟨⟨l⟩⟩ : ByteArray)[n]? = l[n]? := by
 by_cases h : n < l.length
 ·have bD : n < (⟨⟨l⟩⟩ : ByteArray).size := h
  rw [List.getElem?_eq_getElem h, getElem?_pos (⟨⟨l⟩⟩ : ByteArray) n bD]
  rfl
 ·have bD : ¬ n < (⟨⟨l⟩⟩ : ByteArray).size := h
  rw [List.getElem?_eq_none (by omega), getElem?_neg (⟨⟨l⟩⟩ : ByteArray) n bD]
theorem NN (bB : C.fq) (h : bW w0 F0 X F S s aF w) {T : TypeId} {x i : I} {v s6 : Value} (a3 : aW w F s aF x v (fun _ => False)) (au : aW w F s aF i s6 (fun _ => False)) (he : idx C T x i = some av) :
  Good C w0 F0 X aF w (Instr.index T v s6) av s := by
 unfold idx at he
 split at he
 ·rename_i l k n aE
  have := oy a3; subst this
  have := pe au; subst this
  obtain ⟨i, d, z, a4, a_, a2, c1, c9, cl, cf⟩ := bB.info (g9 aE (by simp))
  rw [aE] at cf
  have := pZ cf; subst this
  split at he
  ·rename_i bg
   split at he
   ·rename_i b ae
    simp only [Option.some.injEq] at he; subst he
    refine Good.same h ?_ rfl (of_int _ _)
    simp [Instr.index, asIntOf, run_underlying cl, bg, NM, ae]
   ·cases he
  ·cases he
 ·cases he
def lenOf (s : ar) : I → Option Nat
 | .str l => some l.length
 | .bc => some 0
 | .slice xs => some xs.length
 | .h y q => match I.sub q (s y) with
   | some (.aw _ xs) => some xs.length
   | _ => none
 | _ => none
def lu (C : ck) (s : ar) (T : TypeId) (x : I) : Option I :=
 match (C.T T).k, x with
 | .str, .str l => some (.int .i64 l.length)
 | .slice _, .bc => some (.int .i64 0)
 | .slice _, .slice xs => some (.int .i64 xs.length)
 | .slice _, .h y q => match I.sub q (s y) with
   | some (.aw _ xs) => some (.int .i64 xs.length)
   | _ => none
 | _, _ => none
theorem yA {xs : List I} {v : Value} {a1 : Nat → Prop} (h : aW w F s aF (.slice xs) v a1) : (xs = [] ∧ ∃ a c, v = .slice a 0 c ∧ c ≤ maxLen ∧ (a = none → c = 0)) ∨
  ∃ b o cap eM sz, v = .slice (some ⟨b, o, none⟩) xs.length cap ∧ F b ∧ xs.length ≤ cap ∧ cap ≤ maxLen ∧ (∀ d ∈ xs, d.wd = sz) ∧ hK w b o eM ∧ bm w F xs eM (fun _ => False) := by
 have bD := (aW.da rfl).1 h
 rw [aB, iH bD.1] at bD
 obtain ⟨_, ⟨rfl, a, c, aj, aQ⟩ | ⟨b, o, cap, eM, sz, aj, aQ⟩⟩ := bD
 ·simp at aj; exact .inl ⟨rfl, a, c, aj, aQ⟩
 ·simp at aj; exact .inr ⟨b, o, cap, eM, sz, aj, aQ⟩
theorem NO (bB : C.fq) (h : bW w0 F0 X F S s aF w) {T ty : TypeId} {x : I} {v : Value} (a3 : aW w F s aF x v (fun _ => False)) (he : lu C s T x = some av) :
  Good C w0 F0 X aF w (Builtin.len_ #[T] ty #[v]) av s := by
 unfold lu at he
 split at he
 ·rename_i l aE
  have := oy a3; subst this
  obtain ⟨i, d, z, a4, a_, a2, c1, c9, cl, cf⟩ := bB.info (g9 aE (by simp))
  rw [aE] at cf
  have := pZ cf; subst this
  simp only [Option.some.injEq] at he; subst he
  refine Good.same h ?_ rfl (of_int _ _)
  simp [Builtin.len_, run_underlying cl, goInt]
  rfl
 ·rename_i e aE
  have := pf a3; subst this
  obtain ⟨i, d, z, a4, a_, a2, c1, c9, cl, cf⟩ := bB.info (g9 aE (by simp))
  rw [aE] at cf
  have := kN cf; subst this
  simp only [Option.some.injEq] at he; subst he
  refine Good.same h ?_ rfl (of_int _ _)
  simp [Builtin.len_, run_underlying cl, goInt]
 ·rename_i e xs aE
  obtain ⟨i, d, z, a4, a_, a2, c1, c9, cl, cf⟩ := bB.info (g9 aE (by simp))
  rw [aE] at cf
  have := kN cf; subst this
  simp only [Option.some.injEq] at he; subst he
  refine Good.same h ?_ rfl (of_int _ _)
  rcases yA a3 with ⟨rfl, a, c, rfl, _⟩ | ⟨b, o, cap, eM, sz, rfl, _⟩ <;> simp [Builtin.len_, run_underlying cl, goInt]
 ·rename_i e y q aE
  split at he
  ·rename_i sz xs al
   obtain ⟨i, d, z, a4, a_, a2, c1, c9, cl, cf⟩ := bB.info (g9 aE (by simp))
   rw [aE] at cf
   have := kN cf; subst this
   simp only [Option.some.injEq] at he; subst he
   refine Good.same h ?_ rfl (of_int _ _)
   rcases CH h a3 al with ⟨rfl, _, rfl⟩ | ⟨b, cap, cur, a_, fr, rfl, _⟩ <;> simp [Builtin.len_, run_underlying cl, goInt]
  ·cases he
 ·cases he
def bytesOf : List I → Option (List UInt8)
 | [] => some []
 | .int .u8 n :: r => if 0 ≤ n ∧ n < 256 then (bytesOf r).map (UInt8.ofNat n.toNat :: ·) else none
 | _ => none
def ka (b : UInt8) : I := .int .u8 b.toNat
theorem NP (l : List UInt8) : bytesOf (l.map ka) = some l := by
 induction l with
 | nil => rfl
 | cons b l ih =>
   have ae : b.toNat < 256 := b.toNat_lt
   simp only [List.map_cons, ka, bytesOf, Int.toNat_natCast]
   rw [if_pos (by omega), ih]
   simp
theorem CI : ∀ (xs : List I) (l : List UInt8) (cs : List Value) (a1 : Nat → Prop), bytesOf xs = some l → bm w F xs cs a1 → cs = l.map (fun b => .int .u8 (b.toNat : Int)) ∧ xs.length = l.length
 | [], l, cs, a1, h, a7 => by simp [bytesOf] at h; subst h; rw [bm] at a7; subst a7; exact ⟨rfl, rfl⟩
 | x :: xs, l, cs, a1, h, a7 => by
   unfold bytesOf at h
   split at h
   ·rename_i e; cases e
   ·rename_i n r e
    simp only [List.cons.injEq] at e
    obtain ⟨rfl, rfl⟩ := e
    split at h
    ·rename_i bg
     simp only [Option.map_eq_some_iff] at h
     obtain ⟨ei, ai, rfl⟩ := h
     rw [bm] at a7
     obtain ⟨cE, cF, ct, et, rfl, aj, aQ, _⟩ := a7
     obtain ⟨rfl, bd⟩ := CI xs ei cF et ai aQ
     rw [aB] at aj; subst aj
     refine ⟨?_, by simp [bd]⟩
     simp only [List.map_cons, List.cons_append, List.nil_append, List.cons.injEq, and_true, Value.int.injEq, true_and]
     simp only [UInt8.toNat_ofNat']
     omega
    ·cases h
   ·cases h
theorem bW.vf (h : bW w0 F0 X F S s aF w) {aU : World} {sz cap : Nat} {xs : List I} {cur : Array Value} {e : TypeId} {fr : Nat × Nat} {Sn : Nat → Prop}
  (hw : aU.heap = w.heap.push (.cells cur e fr)) (ai : aU.os = w.os) (aj : aU.tape = w.tape) (aQ : aU.output = w.output)
  (bH : pU fr cur.size) (hle : xs.length ≤ cap) (hm : cap ≤ maxLen) (e4 : cur.size = cap * sz) (lO : ∀ d ∈ xs, d.wd = sz) (a3 : bm w F xs (cur.toList.take (xs.length * sz)) Sn)
  (fz : ∀ b, Sn b → b < w.heap.size) (bE : ∀ b, Sn b → ¬ F b) (ca : ∀ u b, Sn b → ¬ S u b) (a9 : ∀ b, Sn b → X b ∨ w0.heap.size ≤ b) :
  bW w0 F0 X F S s aF aU ∧ kM w0 X F S s aF aU (.aw sz xs) (.slice (some ⟨w.heap.size, 0, none⟩) xs.length cap) := by
 have hold : ∀ b, b < w.heap.size → aU.heap[b]? = w.heap[b]? := by
  intro b ae
  rw [hw, Array.getElem?_push, if_neg (by omega)]
 have auy : aU.heap.size = w.heap.size + 1 := by rw [hw]; simp
 refine ⟨h.grow hold (by omega) ai aj aQ, .inr ⟨rfl, rfl, fun b => b = w.heap.size ∨ Sn b, ?_, ?_, ?_, ?_, ?_⟩⟩
 ·simp only [cY, il]
  rw [aB]
  refine .inr ⟨w.heap.size, cap, cur, e, fr, Sn, rfl, .inl rfl, ?_, bH, hle, hm, e4, lO, ?_, fun c ay => .inr ay, fun ay => Nat.lt_irrefl _ (fz _ ay)⟩
  ·rw [hw]; simp
  ·exact bm.frame (fun b ae => hold b (h.gy b ae)) _ _ _ (fun b ae => hold b (fz b ae)) a3
 ·rintro b (rfl | ae)
  ·omega
  ·have := fz b ae; omega
 ·rintro b (rfl | ae) ve
  ·exact Nat.lt_irrefl _ (h.gy _ ve)
  ·exact bE b ae ve
 ·rintro u b (rfl | ae) hu
  ·exact Nat.lt_irrefl _ (h.fA _ _ hu)
  ·exact ca u b ae hu
 ·rintro b (rfl | ae)
  ·exact .inr h.size
  ·exact a9 b ae
def fZ (C : ck) (s : ar) (A B : TypeId) (x : I) : Option I :=
 if (C.T A).ok = true then
 match (C.T B).k, x with
 | .int k, .int _ n => some (.int k (k.wrap n))
 | .str, .str l => match (C.T A).k with
   | .str => some (.str l)
   | _ => none
 | .str, x => match (C.T A).k with
   | .slice e => match (C.T e).k with
     | .int .u8 => match x with
       | .bc => some (.str [])
       | .slice xs => (bytesOf xs).map .str
       | .h y q => match I.sub q (s y) with
         | some (.aw 1 xs) => (bytesOf xs).map .str
         | _ => none
       | _ => none
     | _ => none
   | _ => none
 | .slice e, .str l => match (C.T A).k, (C.T e).k with
   | .str, .int .u8 => if l.length ≤ 9223372036854775807 then some (.aw 1 (l.map ka)) else none
   | _, _ => none
 | _, _ => none
 else none
theorem Gz (l : List UInt8) (a1 : Nat → Prop) : bm w F (l.map ka) (l.map fun b => .int .u8 (b.toNat : Int)) a1 := by
 induction l generalizing a1 with
 | nil => simp only [List.map_nil]; rw [bm]
 | cons b l ih =>
   simp only [List.map_cons]
   rw [bm]
   exact ⟨[.int .u8 (b.toNat : Int)], _, fun _ => False, fun _ => False, rfl, by rw [ka, aB], ih _, fun _ h => h.elim, fun _ h => h.elim, fun _ h => h.elim⟩
theorem NQ (bB : C.fq) (h : bW w0 F0 X F S s aF w) {A B : TypeId} {x : I} {v : Value} (a3 : aW w F s aF x v (fun _ => False)) (he : fZ C s A B x = some av) :
  Good C w0 F0 X aF w (convert A B v) av s := by
 unfold fZ at he
 split at he
 ·rename_i iK
  obtain ⟨bJ, auz, auA, ab, bk, dz, q3, vg, oz, oA⟩ := bB.info iK
  split at he
  ·rename_i k df n aE
   have := pe a3; subst this
   obtain ⟨i, d, z, a4, a_, a2, c1, c9, cl, cf⟩ := bB.info (g9 aE (by simp))
   rw [aE] at cf
   have := yr cf; subst this
   simp only [Option.some.injEq] at he; subst he
   refine Good.same h ?_ rfl (of_int _ _)
   simp [convert, run_underlying oz, run_underlying cl, Conv.intToInt]
  ·rename_i l aE
   have := oy a3; subst this
   obtain ⟨i, d, z, a4, a_, a2, c1, c9, cl, cf⟩ := bB.info (g9 aE (by simp))
   rw [aE] at cf
   have := pZ cf; subst this
   split at he
   ·rename_i vh
    rw [vh] at oA
    have := pZ oA; subst this
    simp only [Option.some.injEq] at he; subst he
    refine Good.same h ?_ rfl (nC _)
    simp [convert, run_underlying oz, run_underlying cl]
   ·cases he
  ·rename_i x aE _
   obtain ⟨i, d, z, a4, a_, a2, c1, c9, cl, cf⟩ := bB.info (g9 aE (by simp))
   rw [aE] at cf
   have := pZ cf; subst this
   split at he
   ·rename_i e vh
    rw [vh] at oA
    have := kN oA; subst this
    split at he
    ·rename_i vi
     obtain ⟨s4, bF, p1, f1, f2, f3, f4, f5, f6, f7⟩ := bB.info (g9 vi (by simp))
     rw [vi] at f7
     have := yr f7; subst this
     have fin : ∀ (l : List UInt8) (b o cap : Nat), hK w b o (l.map fun b => .int .u8 (b.toNat : Int)) → (convert A B (.slice (some ⟨b, o, none⟩) l.length cap)).run C.P w = .ok (.string ⟨⟨l⟩⟩) w := by
      intro l b o cap jt
      refine run_convert_bytes_back w A B e ⟨b, o, none⟩ cap l oz f6 cl (fun j cJ => ?_)
      rw [Addr.add_lit]
      exact jt j _ (by simp [cJ])
     have nil : (convert A B (.slice none 0 0)).run C.P w = .ok (.string ⟨⟨[]⟩⟩) w := by
      simp [convert, run_underlying oz, run_underlying cl, run_underlying f6, Conv.bytesToString]
      rfl
     split at he
     ·have := pf a3; subst this
      simp only [Option.some.injEq] at he; subst he
      exact Good.same h nil rfl (nC _)
     ·rename_i xs _
      simp only [Option.map_eq_some_iff] at he
      obtain ⟨l, hl, rfl⟩ := he
      rcases yA a3 with ⟨rfl, a, c, rfl, _, q2⟩ | ⟨b, o, cap, eM, sz, rfl, ai, aj, aQ, bd, b3, cG⟩
      ·simp [bytesOf] at hl; subst hl
       cases a with
       | none =>
         have := q2 rfl; subst this
         exact Good.same h nil rfl (nC _)
       | some a =>
         refine Good.same h ?_ rfl (nC _)
         exact run_convert_bytes_back w A B e a c [] oz f6 cl (fun j cJ => by simp at cJ)
      ·obtain ⟨rfl, cp⟩ := CI xs l eM _ hl cG
       rw [cp]
       exact Good.same h (fin l b o cap b3) rfl (nC _)
     ·rename_i y q
      split at he
      ·rename_i xs al
       simp only [Option.map_eq_some_iff] at he
       obtain ⟨l, hl, rfl⟩ := he
       rcases CH h a3 al with ⟨rfl, a, rfl⟩ | ⟨b, cap, cur, a_, fr, rfl, ai, aj, aQ, bd, b3, cG, a1, cp, _⟩
       ·simp [bytesOf] at hl; subst hl
        cases a with
        | none => exact Good.same h nil rfl (nC _)
        | some a =>
          refine Good.same h ?_ rfl (nC _)
          exact run_convert_bytes_back w A B e a 0 [] oz f6 cl (fun j cJ => by simp at cJ)
       ·obtain ⟨fR, iF⟩ := CI xs l _ _ hl cp
        rw [iF]
        refine Good.same h (fin l b 0 cap ?_) rfl (nC _)
        rw [← fR]
        exact sV ai _
      ·cases he
     ·cases he
    ·cases he
   ·cases he
  ·rename_i e l aE
   have := oy a3; subst this
   obtain ⟨i, d, z, a4, a_, a2, c1, c9, cl, cf⟩ := bB.info (g9 aE (by simp))
   rw [aE] at cf
   have := kN cf; subst this
   split at he
   ·rename_i vh vi
    rw [vh] at oA
    have := pZ oA; subst this
    obtain ⟨s4, bF, p1, f1, f2, f3, f4, f5, f6, f7⟩ := bB.info (g9 vi (by simp))
    rw [vi] at f7
    have := yr f7; subst this
    split at he
    ·rename_i hl
     simp only [Option.some.injEq] at he; subst he
     have ah : (⟨⟨l⟩⟩ : ByteArray).size = l.length := rfl
     have vj := grownCap_ge w l.length 0 e
     have NR := grownCap_le_maxLen w l.length 0 e (by unfold maxLen; omega)
     have GA : (bytesRow ⟨⟨l⟩⟩ (grownCap w l.length 0 e)).toList = l.map (fun b => Value.int .u8 (b.toNat : Int)) ++ List.replicate (grownCap w l.length 0 e - l.length) (.int .u8 0) := by
      simp [bytesRow, ah]
     have e4 : (bytesRow ⟨⟨l⟩⟩ (grownCap w l.length 0 e)).size = grownCap w l.length 0 e * 1 := by
      have : (bytesRow ⟨⟨l⟩⟩ (grownCap w l.length 0 e)).size = (bytesRow ⟨⟨l⟩⟩ (grownCap w l.length 0 e)).toList.length := by simp
      rw [this, GA]; simp; omega
     have qZ := run_bytes_of_string w A B e ⟨⟨l⟩⟩ oz cl f6
     rw [ah] at qZ
     have jU := h.vf (aU := w.drew.alloc (.cells (bytesRow ⟨⟨l⟩⟩ (grownCap w l.length 0 e)) e ((bytesRow ⟨⟨l⟩⟩ (grownCap w l.length 0 e)).size, (bytesRow ⟨⟨l⟩⟩ (grownCap w l.length 0 e)).size + 1)))
      (sz := 1) (cap := grownCap w l.length 0 e) (xs := l.map ka) (cur := bytesRow ⟨⟨l⟩⟩ (grownCap w l.length 0 e)) (e := e) (Sn := fun _ => False) rfl rfl rfl rfl
      (fun o cm ⟨ai, _⟩ => by simp only at ai; omega) (by simpa using vj) NR e4 (by intro d al; obtain ⟨b, _, rfl⟩ := List.mem_map.1 al; rfl)
      (by rw [GA, List.take_left' (by simp)]; exact Gz l _) (fun _ h => h.elim) (fun _ h => h.elim) (fun _ _ h => h.elim) (fun _ h => h.elim)
     simp only [List.length_map] at jU
     exact ⟨_, _, F, S, qZ, jU.1, jU.2⟩
    ·cases he
   ·cases he
  ·cases he
 ·cases he
end
section
variable {C : ck} {w0 w : World} {F0 X F : Nat → Prop} {S : Nat → Nat → Prop} {s s1 : ar} {aF : Nat → Value} {av : I}
def jV (d : Nat) : Option I → Option Nat
 | none => some d
 | some (.int _ n) => if 0 ≤ n then some n.toNat else none
 | some _ => none
def fB (C : ck) (s : ar) (T : TypeId) (x : I) (dg au : Option I) : Option (I × ar) :=
 match (C.T T).k, x with
 | .str, .str l => match jV 0 dg, jV l.length au with
   | some a, some b => if a ≤ b ∧ b ≤ l.length then some (.str ((l.take b).drop a), s) else none
   | _, _ => none
 | .slice e, .bc => match jV 0 dg, jV 0 au with
   | some 0, some 0 => if (C.T e).ok = true then some (.bc, s) else none
   | _, _ => none
 | .slice e, .slice xs => match jV 0 dg, jV xs.length au with
   | some a, some b => if a ≤ b ∧ b ≤ xs.length ∧ (C.T e).ok = true ∧ (∀ d ∈ xs, d.wd = (C.T e).sz) then some (.slice ((xs.take b).drop a), s) else none
   | _, _ => none
 | .slice e, .h y q => match I.sub q (s y) with
   | some (.aw sz xs) => match jV 0 dg, jV xs.length au with
     | some 0, some b => if b ≤ xs.length ∧ (C.T e).ok = true then (match cS s (.h y q) with | some (_, s1) => some (.aw sz (xs.take b), s1) | none => none) else none
     | _, _ => none
   | _ => none
 | _, _ => none
def pg (w : World) (F : Nat → Prop) (s : ar) (aF : Nat → Value) : Option I → Option Value → Prop
 | none, none => True
 | some d, some v => aW w F s aF d v (fun _ => False)
 | _, _ => False
theorem GB {d : Nat} {o : Option I} {v : Option Value} (cm : pg w F s aF o v) {a : Nat} (h : jV d o = some a) : (o = none ∧ v = none ∧ a = d) ∨ ∃ k, v = some (.int k a) := by
 cases o with
 | none =>
   cases v with
   | none => simp [jV] at h; exact .inl ⟨rfl, rfl, h.symm⟩
   | some v => simp [pg] at cm
 | some x =>
   cases v with
   | none => simp [pg] at cm
   | some v =>
     simp only [pg] at cm
     cases x with
     | int k n =>
       have := pe cm; subst this
       simp only [jV] at h
       split at h
       ·rename_i bg
        simp only [Option.some.injEq] at h; subst h
        obtain ⟨m, rfl⟩ := Int.eq_ofNat_of_zero_le bg
        exact .inr ⟨k, rfl⟩
       ·cases h
     | _ => simp [jV] at h
theorem s7 {P : Program} {isS : Bool} {len cap a b : Nat} {dg au : Option I} {q4 q5 : Option Value} (mU : pg w F s aF dg q4) (mV : pg w F s aF au q5) (cw : jV 0 dg = some a) (ae : jV len au = some b) (ll : a ≤ b) (NS : b ≤ cap) (_hlc : len ≤ cap) :
  (Instr.sliceBounds isS len cap q4 q5 none).run P w = .ok (a, b, cap) w := by
 rcases GB mU cw with ⟨_, rfl, rfl⟩ | ⟨k, rfl⟩ <;> rcases GB mV ae with ⟨_, rfl, rfl⟩ | ⟨df, rfl⟩ <;>
  simp [Instr.sliceBounds, Instr.sliceBound, asIntOf, ll, NS]
theorem s8 (bB : C.fq) {T : TypeId} (aE : (C.T T).flat = true) (v : Value) (dg au hD : Option Value) (w : World) : (Instr.sliceAt T v dg au hD).run C.P w = (Instr.slice T v dg au hD).run C.P w := by
 obtain ⟨i, d, z, a4, a_, a2, c1, c9, cl, cf⟩ := bB.info (Gk aE)
 have eg : ∀ n e, d ≠ .array n e := by
  clear cl
  unfold g8.flat at aE
  generalize (C.T T).k = lq at *
  cases lq <;> cases d <;> simp [k4] at cf aE ⊢
 cases d <;> first | exact (eg _ _ rfl).elim | simp [Instr.sliceAt, run_underlying cl]
theorem s9 {x : g8} {k : mT} (h : x.k = k) (aE : k ≠ .other) (ah : ∀ az, k ≠ .struct az) : x.flat = true := by
 unfold g8.flat; rw [h]; cases k <;> first | rfl | exact (aE rfl).elim | exact (ah _ rfl).elim
theorem bm.split : ∀ (n : Nat) (xs : List I) (cs : List Value) (a1 : Nat → Prop), bm w F xs cs a1 → ∃ cE cF ct et, cs = cE ++ cF ∧ bm w F (xs.take n) cE ct ∧ bm w F (xs.drop n) cF et ∧ (∀ b, ct b → a1 b) ∧ (∀ b, et b → a1 b) ∧ (∀ b, ct b → ¬ et b)
 | 0, xs, cs, a1, h => ⟨[], cs, fun _ => False, a1, rfl, by rw [List.take_zero, bm], h, fun _ h => h.elim, fun _ h => h, fun _ h => h.elim⟩
 | n + 1, [], cs, a1, h => by rw [bm] at h; subst h; exact ⟨[], [], fun _ => False, fun _ => False, rfl, by rw [List.take_nil, bm], by rw [List.drop_nil, bm], fun _ h => h.elim, fun _ h => h.elim, fun _ h => h.elim⟩
 | n + 1, x :: xs, cs, a1, h => by
   rw [bm] at h
   obtain ⟨cE, cF, hE, gO, rfl, ai, aj, aQ, bd, b3⟩ := h
   obtain ⟨d1, d2, ct, et, rfl, bf, bG, cC, eH, fJ⟩ := bm.split n xs cF gO aj
   refine ⟨cE ++ d1, d2, fun b => hE b ∨ ct b, et, by simp, ?_, bG, ?_, fun b ae => bd _ (eH _ ae), ?_⟩
   ·rw [List.take_succ_cons, bm]
    exact ⟨cE, d1, hE, ct, rfl, ai, bf, fun _ h => .inl h, fun _ h => .inr h, fun b ae ay => b3 b ae (cC b ay)⟩
   ·rintro b (ae | ae)
    ·exact aQ b ae
    ·exact bd b (cC b ae)
   ·rintro b (ae | ae) ay
    ·exact b3 b ae (eH b ay)
    ·exact fJ b ae ay
theorem NT (bB : C.fq) (h : bW w0 F0 X F S s aF w) {T : TypeId} {x : I} {v : Value} {dg au : Option I} {q4 q5 : Option Value} (aC : x.plain = true) (a3 : aW w F s aF x v (fun _ => False)) (mU : pg w F s aF dg q4) (mV : pg w F s aF au q5)
  (he : fB C s T x dg au = some (av, s1)) : Good C w0 F0 X aF w (Instr.sliceAt T v q4 q5 none) av s1 := by
 unfold fB at he
 split at he
 ·rename_i l aE
  have := oy a3; subst this
  obtain ⟨i, d, z, a4, a_, a2, c1, c9, cl, cf⟩ := bB.info (g9 aE (by simp))
  rw [aE] at cf
  have := pZ cf; subst this
  split at he
  ·rename_i a b cw ae
   split at he
   ·rename_i ll
    simp only [Option.some.injEq, Prod.mk.injEq] at he
    obtain ⟨rfl, rfl⟩ := he
    refine Good.same h ?_ rfl (nC _)
    rw [s8 bB (s9 aE (by simp) (by simp))]
    have e4 : (⟨⟨l⟩⟩ : ByteArray).size = l.length := rfl
    have mW := s7 (P := C.P) (isS := false) (len := l.length) (cap := l.length) mU mV cw ae ll.1 ll.2 (Nat.le_refl _)
    have NU : (⟨⟨l⟩⟩ : ByteArray).extract a b = ⟨⟨(l.take b).drop a⟩⟩ := by
     apply ByteArray.ext
     simp [ByteArray.data_extract, List.drop_take]
    simp [Instr.slice, run_underlying cl, e4, mW, NU]
   ·cases he
  ·cases he
 ·rename_i e aE
  have := pf a3; subst this
  obtain ⟨i, d, z, a4, a_, a2, c1, c9, cl, cf⟩ := bB.info (g9 aE (by simp))
  rw [aE] at cf
  have := kN cf; subst this
  split at he
  ·rename_i cw ae
   split at he
   ·rename_i nF
    obtain ⟨s4, bF, p1, f1, f2, f3, f4, f5, f6, f7⟩ := bB.info nF
    simp only [Option.some.injEq, Prod.mk.injEq] at he
    obtain ⟨rfl, rfl⟩ := he
    have mW := s7 (P := C.P) (isS := true) (len := 0) (cap := 0) mU mV cw ae (Nat.le_refl _) (Nat.le_refl _) (Nat.le_refl _)
    refine Good.same h (v := .slice none 0 0) ?_ rfl a3
    rw [s8 bB (s9 aE (by simp) (by simp))]
    simp [Instr.slice, run_underlying cl, mW, jR f1, f2]
   ·cases he
  ·cases he
 ·rename_i e xs aE
  obtain ⟨i, d, z, a4, a_, a2, c1, c9, cl, cf⟩ := bB.info (g9 aE (by simp))
  rw [aE] at cf
  have := kN cf; subst this
  split at he
  ·rename_i a b cw ae
   split at he
   ·rename_i ll
    obtain ⟨NV, GC, nF, lO⟩ := ll
    obtain ⟨s4, bF, p1, f1, f2, f3, f4, f5, f6, f7⟩ := bB.info nF
    simp only [Option.some.injEq, Prod.mk.injEq] at he
    obtain ⟨rfl, rfl⟩ := he
    rcases yA a3 with ⟨rfl, s_, c, rfl, vk, q2⟩ | ⟨kv, o, cap, eM, sz, rfl, ai, aj, aQ, bd, b3, cG⟩
    ·have hO : b = 0 := by simpa using GC
     subst hO
     have NW : a = 0 := by omega
     subst NW
     have mW := s7 (P := C.P) (isS := true) (len := 0) (cap := c) mU mV cw ae (Nat.le_refl _) (Nat.zero_le _) (Nat.zero_le _)
     refine Good.same h (v := .slice s_ 0 c) ?_ rfl ((aW.da rfl).2 ⟨rfl, by rw [aB]; exact .inl ⟨rfl, s_, c, rfl, vk, q2⟩⟩)
     rw [s8 bB (s9 aE (by simp) (by simp))]
     cases s_ with
     | none =>
       have := q2 rfl; subst this
       simp [Instr.slice, run_underlying cl, mW, jR f1, f2]
     | some s_ => simp [Instr.slice, run_underlying cl, mW, jR f1, f2, Addr.add]
    ·have mW := s7 (P := C.P) (isS := true) (len := xs.length) (cap := cap) mU mV cw ae NV (Nat.le_trans GC aj) aj
     obtain ⟨cE, cF, ct, et, rfl, bf, bG, cC, eH, fJ⟩ := bm.split b xs eM _ cG
     obtain ⟨d1, d2, auB, GD, rfl, b5, cu, fD, eO, gr⟩ := bm.split a (xs.take b) cE _ bf
     have CJ : d1.length = a * (C.T e).sz := by
      rw [bm.length _ _ _ b5, qS _ (fun d al => lO d (List.mem_of_mem_take (List.mem_of_mem_take al))), List.length_take, List.length_take]
      congr 1; omega
     have hlen : ((xs.take b).drop a).length = b - a := by simp; omega
     have jt : hK w kv (o + a * (C.T e).sz) d2 := by
      rw [← CJ]
      have : hK w kv o (d1 ++ (d2 ++ cF)) := by simpa using b3
      exact this.CB
     have yB : bm w F ((xs.take b).drop a) d2 (fun _ => False) := bm.mono (fun _ h => h) _ _ _ _ (fun b ae => (cC _ (eO _ ae)).elim) cu
     have mem : ∀ d ∈ (xs.take b).drop a, d.wd = sz := fun d al => bd d (List.mem_of_mem_take (List.mem_of_mem_drop al))
     have run : (Instr.sliceAt T (.slice (some ⟨kv, o, none⟩) xs.length cap) q4 q5 none).run C.P w = .ok (.slice (if cap = a then some ⟨kv, o, none⟩ else some ⟨kv, o + a * (C.T e).sz, none⟩) (b - a) (cap - a)) w := by
      rw [s8 bB (s9 aE (by simp) (by simp))]
      simp [Instr.slice, run_underlying cl, mW, jR f1, f2, Addr.add_lit]
     refine ⟨_, w, F, S, run, h, .inl ⟨rfl, (aW.da rfl).2 ⟨rfl, ?_⟩⟩⟩
     simp only [cY, il]
     rw [aB]
     by_cases GF : cap = a
     ·have NX : b = a := by omega
      subst NX
      have vl : (xs.take b).drop b = [] := by simp
      rw [if_pos GF]
      rw [vl] at yB ⊢
      rw [bm] at yB
      subst yB
      exact .inr ⟨kv, o, cap - b, [], sz, by simp, ai, Nat.zero_le _, by omega, by simp, fun j c cJ => by simp at cJ, by rw [bm]⟩
     ·rw [if_neg GF]
      exact .inr ⟨kv, _, cap - a, d2, sz, by rw [hlen], ai, by rw [hlen]; omega, by omega, mem, jt, yB⟩
   ·cases he
  ·cases he
 ·rename_i e y q aE
  split at he
  ·rename_i sz xs al
   split at he
   ·rename_i b cw ae
    split at he
    ·rename_i yC
     split at he
     ·rename_i NY s2 bh
      simp only [Option.some.injEq, Prod.mk.injEq] at he
      obtain ⟨rfl, rfl⟩ := he
      obtain ⟨i, d, z, a4, a_, a2, c1, c9, cl, cf⟩ := bB.info (g9 aE (by simp))
      rw [aE] at cf
      have := kN cf; subst this
      obtain ⟨s4, bF, p1, f1, f2, f3, f4, f5, f6, f7⟩ := bB.info yC.2
      have NZ : NY = .aw sz xs := by
       simp only [cS, al, I.plain] at bh
       simp at bh
       exact bh.1.symm
      subst NZ
      obtain ⟨ct, hF, bf, bG, Sn, cC, eH, fJ, h7, iI, k6⟩ := pY h rfl a3 bh
      rw [iH bG, aB] at cC
      rcases cC with ⟨rfl, J, kP⟩ | ⟨kv, cap, cur, gu, fr, a1, kP, b5, cu, fD, eO, gr, dE, jW, gb, lv, p3⟩
      ·simp at kP; subst kP
       have hO : b = 0 := by simpa using yC.1
       subst hO
       have mW := s7 (P := C.P) (isS := true) (len := 0) (cap := 0) mU mV cw ae (Nat.le_refl _) (Nat.le_refl _) (Nat.le_refl _)
       refine ⟨.slice J 0 0, w, F, ct, ?_, hF, .inr ⟨rfl, rfl, fun _ => False, by simp only [cY, il]; rw [aB]; exact .inl ⟨rfl, _, rfl⟩, fun _ h => h.elim, fun _ h => h.elim, fun _ _ h => h.elim, fun _ h => h.elim⟩⟩
       rw [s8 bB (s9 aE (by simp) (by simp))]
       cases J <;> simp [Instr.slice, run_underlying cl, mW, jR f1, f2]
      ·simp at kP; subst kP
       have mW := s7 (P := C.P) (isS := true) (len := xs.length) (cap := cap) mU mV cw ae (Nat.zero_le _) (Nat.le_trans yC.1 eO) eO
       have hlen : (xs.take b).length = b := by simp; omega
       have run : (Instr.sliceAt T (.slice (some ⟨kv, 0, none⟩) xs.length cap) q4 q5 none).run C.P w = .ok (.slice (some ⟨kv, 0, none⟩) b cap) w := by
        rw [s8 bB (s9 aE (by simp) (by simp))]
        simp [Instr.slice, run_underlying cl, mW, jR f1, f2, Addr.add_lit]
       refine ⟨_, w, F, ct, run, hF, .inr ⟨rfl, rfl, Sn, ?_, eH, fJ, h7, iI⟩⟩
       simp only [cY, il]
       rw [aB]
       obtain ⟨cE, cF, hE, gO, ay, fS, gG, hg, kt, lS⟩ := bm.split b xs _ _ gb
       refine .inr ⟨kv, cap, cur, gu, fr, a1, by rw [hlen], b5, cu, fD, by omega, gr, dE, fun d al => jW d (List.mem_of_mem_take al), ?_, lv, p3⟩
       have CJ : cE.length = b * sz := by
        rw [bm.length _ _ _ fS, qS _ (fun d al => jW d (List.mem_of_mem_take al)), hlen]
       have : cur.toList.take ((xs.take b).length * sz) = cE := by
        rw [hlen]
        have aj : b * sz ≤ xs.length * sz := Nat.mul_le_mul_right _ yC.1
        have : (cur.toList.take (xs.length * sz)).take (b * sz) = cE := by rw [ay, List.take_left' CJ]
        rwa [List.take_take, Nat.min_eq_left aj] at this
       rw [this]
       exact bm.mono (fun _ h => h) _ _ _ _ hg fS
     ·cases he
    ·cases he
   ·cases he
  ·cases he
 ·cases he
end
section
variable {C : ck} {w0 w : World} {F0 X F : Nat → Prop} {S : Nat → Nat → Prop} {s s1 : ar} {aF : Nat → Value} {av : I}
def Src (P : Program) (w : World) (size : Nat) (x : Value) (m : Nat) (news : List Value) : Prop :=
 ∀ aU : World, aU.heap = w.heap → (Builtin.lenOf x).run P aU = .ok m aU ∧ (Builtin.firstCells size m x).run P aU = .ok news.toArray aU
def CK (d : TypeDesc) : Prop := (∃ e, d = .slice e) ∨ d = .string
theorem N0 {P : Program} {T bO ty e : TypeId} {ph : TypeDesc} {i : TypeInfo} (bh : P.underlying T = some (.slice e)) (hu : P.underlying bO = some ph) (q6 : CK ph) (au : P.info? e = some i)
  {x : Value} {m : Nat} {news : List Value} (yD : Src P w i.size x m news) {b n cap : Nat} {cur : Array Value} {gu : TypeId} {fr : Nat × Nat} {l mid r : List Value} (ae : w.heap[b]? = some (.cells cur gu fr)) (bH : pU fr cur.size)
  (ay : cur.toList = l ++ (mid ++ r)) (hl : l.length = n * i.size) (hm : mid.length = news.length) (yx : ∀ v ∈ news, Value.gX v = true) (oB : n + m ≤ cap) :
  ∃ aU, (Builtin.append_ #[T, bO] ty #[.slice (some ⟨b, 0, none⟩) n cap, x]).run P w = .ok (.slice (some ⟨b, 0, none⟩) (n + m) cap) aU ∧ aU.heap[b]? = some (.cells (l ++ (news ++ r)).toArray gu fr) ∧
    (∀ c, c ≠ b → aU.heap[c]? = w.heap[c]?) ∧ aU.heap.size = w.heap.size ∧ aU.os = w.os ∧ aU.tape = w.tape ∧ aU.output = w.output := by
 obtain ⟨aU, fS, gG⟩ := yw (P := P) (b := b) (o := n * i.size) (e := gu) (fr := fr) news 0 cur w l mid r ae bH ay (by omega) hm yx
 refine ⟨aU, ?_, gG⟩
 obtain ⟨ai, aj⟩ := yD w rfl
 rcases q6 with ⟨gE, rfl⟩ | rfl <;> simp [Builtin.append_, run_underlying bh, run_underlying hu, jR au, ai, aj, oB, Addr.add_lit, fS]
theorem N1 {P : Program} {T bO ty e : TypeId} {ph : TypeDesc} {i : TypeInfo} {z : Value} (bh : P.underlying T = some (.slice e)) (hu : P.underlying bO = some ph) (q6 : CK ph) (au : P.info? e = some i) (b7 : i.zero = some z)
  {x : Value} {m : Nat} {news : List Value} (yD : Src P w i.size x m news) {base : Option Addr} {n cap : Nat} {nG : List Value} (hold : Src P w i.size (.slice base n cap) n nG) (oB : ¬ n + m ≤ cap)
  (bg : n + m ≤ 9223372036854775807) (CL : (n + m) * i.bytes ≤ 140737488355328) :
  (Builtin.append_ #[T, bO] ty #[.slice base n cap, x]).run P w = .ok (.slice (some ⟨w.heap.size, 0, none⟩) (n + m) (grownCap w (n + m) cap e))
   (w.drew.alloc (.cells (nG.toArray ++ news.toArray ++ Builtin.zeroCells z.cells (grownCap w (n + m) cap e - (n + m))) e)) := by
 have ai := (yD w rfl).1
 have aj := (yD w.drew rfl).2
 have aQ := (hold w.drew rfl).2
 have auC := growslice_fits (need := n + m) (old := cap) (by omega) CL
 have jS : ¬ (281474976710656 < Builtin.nextslicecap (n + m) cap * i.bytes) := by omega
 have ta : ∀ k (w : World), (askRoom k).run P w = .ok () w := by
  intro k w
  unfold askRoom
  split <;> rfl
 have CM : ¬ (9223372036854775807 < (n : Int) + (m : Int) ∧ i.bytes = 0) := by omega
 rcases q6 with ⟨gE, rfl⟩ | rfl <;>
  ·simp [Builtin.append_, run_underlying bh, run_underlying hu, jR au, qV au, ai, oB, jS, Question.forced, ta]
   rw [if_neg CM, aQ]
   simp [aj, s3 au b7, newRow, grownCap]
   have a4 : (nG ++ news).toArray = nG.toArray ++ news.toArray := by simp
   rw [a4, Array.append_assoc]
def yE (C : ck) (e bO : TypeId) : Bool := match (C.T bO).k, (C.T e).k with
 | .slice gE, _ => gE == e
 | .str, .int .u8 => true
 | _, _ => false
def lx (C : ck) (s : ar) (T bO : TypeId) (x y : I) : Option (I × ar) :=
 match (C.T T).k with
 | .slice e => if (C.T e).ok = true ∧ (C.T e).zero.wd = (C.T e).sz ∧ (flat (C.T e).zero).isSome = true ∧ yE C e bO = true then
   match (match x with | .bc => some (I.aw (C.T e).sz [], s) | .h a q => cS s (.h a q) | _ => none) with
   | some (.aw sz xs, s1) => if sz = (C.T e).sz then
     match (match j_ x.owner y with
      | .bc => some ([], s1)
      | .slice c7 => some (c7, s1)
      | .str l => some (l.map ka, s1)
      | .h a q => match cS s1 (.h a q) with
        | some (.aw _ c7, s2) => some (c7, s2)
        | _ => none
      | _ => none) with
     | some (c7, s2) => if (∀ d ∈ c7, d.wd = (C.T e).sz) ∧ (xs.length + c7.length) * (C.T e).bytes ≤ 140737488355328 ∧ xs.length + c7.length ≤ 9223372036854775807 then some (.aw sz (xs ++ c7), s2) else none
     | none => none
     else none
   | _ => none
   else none
 | _ => none
theorem bm.append {xs c7 : List I} {cE cF : List Value} {ct et a1 : Nat → Prop} (ai : bm w F xs cE ct) (aj : bm w F c7 cF et) (a4 : ∀ b, ct b → a1 b) (a_ : ∀ b, et b → a1 b) (a2 : ∀ b, ct b → ¬ et b) : bm w F (xs ++ c7) (cE ++ cF) a1 := by
 induction xs generalizing cE ct a1 with
 | nil => rw [bm] at ai; subst ai; exact bm.mono (fun _ h => h) _ _ _ _ a_ aj
 | cons x xs ih =>
   rw [bm] at ai
   obtain ⟨N2, N3, hE, gO, rfl, bf, bG, cC, eH, fJ⟩ := ai
   rw [List.cons_append, bm]
   refine ⟨N2, N3 ++ cF, hE, fun b => gO b ∨ et b, by simp, bf, ih bG (fun b h => .inl h) (fun b h => .inr h) (fun b h => a2 b (eH b h)), fun b h => a4 b (cC b h), ?_, ?_⟩
   ·rintro b (h | h)
    ·exact a4 b (eH b h)
    ·exact a_ b h
   ·rintro b h (bD | bD)
    ·exact fJ b h bD
    ·exact a2 b (cC b h) bD
theorem CN {P : Program} {size m cap : Nat} {b o : Nat} {news : List Value} (jt : hK w b o news) (hl : news.length = m * size) : Src P w size (.slice (some ⟨b, o, none⟩) m cap) m news := by
 intro aU hw
 refine ⟨rfl, ?_⟩
 refine run_firstCells_some aU size m ⟨b, o, none⟩ m cap news hl (fun j v cJ => ?_)
 rw [Addr.add_lit]
 have := jt j v cJ
 simpa [World.cell?, hw] using this
theorem GG {P : Program} {size cap : Nat} : Src P w size (.slice none 0 cap) 0 [] := by
 intro aU _
 exact ⟨rfl, by simp [Builtin.firstCells]⟩
theorem CO {P : Program} {size cap : Nat} (a : Option Addr) : Src P w size (.slice a 0 cap) 0 [] := by
 cases a with
 | none => exact GG
 | some a =>
   intro aU _
   exact ⟨rfl, run_firstCells_some aU size 0 a 0 cap [] (by simp) (fun j v cJ => by simp at cJ)⟩
theorem N4 {P : Program} (l : List UInt8) : Src P w 1 (.string ⟨⟨l⟩⟩) l.length (l.map fun b => .int .u8 (b.toNat : Int)) := by
 intro aU _
 refine ⟨rfl, ?_⟩
 have : (⟨⟨l⟩⟩ : ByteArray).extract 0 l.length = ⟨⟨l⟩⟩ := by
  apply ByteArray.ext
  simp [ByteArray.data_extract]
 simp [Builtin.firstCells, this]
theorem bm.q7 {sz : Nat} {xs : List I} {cs : List Value} {a1 : Nat → Prop} (h : bm w F xs cs a1) (hw : ∀ d ∈ xs, d.wd = sz) : cs.length = xs.length * sz := by
 rw [bm.length _ _ _ h, qS _ hw]
theorem bW.turn (h : bW w0 F0 X F S s aF w) {aU : World} {b : Nat} (ae : ∀ c, c ≠ b → aU.heap[c]? = w.heap[c]?) (ah : aU.heap.size = w.heap.size) (ai : aU.os = w.os) (aj : aU.tape = w.tape) (aQ : aU.output = w.output)
  (bE : ¬ F b) (ca : ∀ u, ¬ S u b) (a9 : X b ∨ w0.heap.size ≤ b) : bW w0 F0 X F S s aF aU where
 hM := h.hM
 h5 := h.h5
 gy := fun c ay => by rw [ah]; exact h.gy c ay
 fA := fun t c ay => by rw [ah]; exact h.fA t c ay
 gF := h.gF
 gl := h.gl
 eA := h.eA
 eu := fun t => aW.frame (Sx := S) (fun c ay => ae c (by rintro rfl; exact bE ay)) (fun _ h => h) (fun x c ay => ae c (by rintro rfl; exact ca x ay)) h.eu _ _ _ (fun c ay => ae c (by rintro rfl; exact ca t ay)) (h.eu t)
 old := fun c fz kK => by
  rw [ae c ?_]
  ·exact h.old c fz kK
  ·rintro rfl
   rcases a9 with a9 | a9
   ·exact kK a9
   ·omega
 size := by rw [ah]; exact h.size
 os := ai.trans h.os
 tape := aj.trans h.tape
 output := aQ.trans h.output
theorem N5 (bB : C.fq) (h : bW w0 F0 X F S s aF w) {T bO ty : TypeId} {x y : I} {jT jk : Value} (aC : aW w F s aF x jT (fun _ => False)) (bL : aW w F s aF y jk (fun _ => False))
  (he : lx C s T bO x y = some (av, s1)) : Good C w0 F0 X aF w (Builtin.append_ #[T, bO] ty #[jT, jk]) av s1 := by
 unfold lx at he
 split at he
 ·rename_i e aE
  obtain ⟨CP, d, CQ, a4, a_, a2, c1, c9, cl, cf⟩ := bB.info (g9 aE (by simp))
  rw [aE] at cf
  have := kN cf; subst this
  split at he
  ·rename_i q0
   obtain ⟨nF, oC, pj, oD⟩ := q0
   obtain ⟨i, CR, z, f1, f2, f3, f4, f5, f6, f7⟩ := bB.info nF
   obtain ⟨fl, k7⟩ := Option.isSome_iff_exists.1 pj
   have pk := f5 fl k7
   have nH : fl.length = (C.T e).sz := by
    have := aB.length _ _ _ ((aB.flat (w := w) (F := F) _).1 (C.T e).zero fl (fun _ => False) (Nat.le_refl _) k7)
    rw [this, oC]
   obtain ⟨ph, hu, q6⟩ : ∃ ph, C.P.underlying bO = some ph ∧ CK ph := by
    unfold yE at oD
    split at oD
    ·rename_i gE kx
     obtain ⟨_, bF, _, _, _, _, _, _, h7, iI⟩ := bB.info (g9 kx (by simp))
     rw [kx] at iI
     exact ⟨bF, h7, .inl ⟨_, kN iI⟩⟩
    ·rename_i kx _
     obtain ⟨_, bF, _, _, _, _, _, _, h7, iI⟩ := bB.info (g9 kx (by simp))
     rw [kx] at iI
     exact ⟨bF, h7, .inr (pZ iI)⟩
    ·cases oD
   split at he
   ·rename_i sz xs CS oE
    split at he
    ·rename_i e4
     subst e4
     split at he
     ·rename_i c7 vm mX
      split at he
      ·rename_i N6
       obtain ⟨tb, CL, CT⟩ := N6
       simp only [Option.some.injEq, Prod.mk.injEq] at he
       obtain ⟨rfl, rfl⟩ := he
       obtain ⟨hE, J, Sn, dz, q3, vg, oz, oA, auD, auE, p4⟩ : ∃ hE, bW w0 F0 X F hE CS aF w ∧ ∃ Sn, aB w F (.aw (C.T e).sz xs) [jT] Sn ∧ (∀ b, Sn b → b < w.heap.size) ∧ (∀ b, Sn b → ¬ F b) ∧ (∀ u b, Sn b → ¬ hE u b) ∧
         (∀ b, Sn b → X b ∨ w0.heap.size ≤ b) ∧ (∀ u b, hE u b → S u b) ∧ (∀ b, Sn b → ∃ u, S u b) ∧ aW w F CS aF (j_ x.owner y) jk (fun _ => False) := by
        split at oE
        ·simp only [Option.some.injEq, Prod.mk.injEq, I.aw.injEq, true_and] at oE
         obtain ⟨rfl, rfl⟩ := oE
         have := pf aC; subst this
         exact ⟨S, h, fun _ => False, by rw [aB]; exact .inl ⟨rfl, _, rfl⟩, fun _ h => h.elim, fun _ h => h.elim, fun _ _ h => h.elim, fun _ h => h.elim, fun _ _ h => h, fun _ h => h.elim, bL⟩
        ·obtain ⟨ct, hF, bf, bG, Sn, cC, eH, fJ, h7, iI, k6, vn, yF⟩ := pY h rfl aC oE
         rw [iH bG] at cC
         exact ⟨ct, hF, Sn, cC, eH, fJ, h7, iI, k6, vn, yF _ _ _ bL⟩
        ·cases oE
       obtain ⟨gO, kv, mq, news, ly, iW, lz, ba, bI, cL, iL, a6⟩ : ∃ gO, bW w0 F0 X F gO vm aF w ∧ ∃ mq news, bm w F c7 news mq ∧ Src C.P w i.size jk c7.length news ∧ (∀ b, mq b → b < w.heap.size) ∧ (∀ b, mq b → ¬ F b) ∧ (∀ u b, mq b → ¬ gO u b) ∧
         (∀ b, mq b → X b ∨ w0.heap.size ≤ b) ∧ (∀ u b, gO u b → hE u b) ∧ (∀ b, mq b → ∃ u, hE u b) := by
        split at mX
        ·rename_i q8
         simp only [Option.some.injEq, Prod.mk.injEq] at mX
         obtain ⟨rfl, rfl⟩ := mX
         rw [q8] at p4
         have := pf p4; subst this
         exact ⟨hE, J, fun _ => False, [], by rw [bm], GG, fun _ h => h.elim, fun _ h => h.elim, fun _ _ h => h.elim, fun _ h => h.elim, fun _ _ h => h, fun _ h => h.elim⟩
        ·rename_i eU q8
         simp only [Option.some.injEq, Prod.mk.injEq] at mX
         obtain ⟨rfl, rfl⟩ := mX
         rw [q8] at p4
         rcases yA p4 with ⟨rfl, s_, auF, rfl, _, q2⟩ | ⟨b, o, cap, eM, N7, rfl, b5, cu, fD, eO, gr, dE⟩
         ·exact ⟨hE, J, fun _ => False, [], by rw [bm], CO s_, fun _ h => h.elim, fun _ h => h.elim, fun _ _ h => h.elim, fun _ h => h.elim, fun _ _ h => h, fun _ h => h.elim⟩
         ·exact ⟨hE, J, fun _ => False, eM, dE, CN gr (by rw [f2]; exact bm.q7 dE tb), fun _ h => h.elim, fun _ h => h.elim, fun _ _ h => h.elim, fun _ h => h.elim, fun _ _ h => h, fun _ h => h.elim⟩
        ·rename_i l q8
         simp only [Option.some.injEq, Prod.mk.injEq] at mX
         obtain ⟨rfl, rfl⟩ := mX
         rw [q8] at p4
         have := oy p4; subst this
         have yG : l ≠ [] → i.size = 1 := by
          intro hl
          cases l with
          | nil => exact (hl rfl).elim
          | cons b l => rw [f2, ← tb (ka b) (by simp)]; rfl
         by_cases hl : l = []
         ·subst hl
          refine ⟨hE, J, fun _ => False, [], by simp only [List.map_nil]; rw [bm], ?_, fun _ h => h.elim, fun _ h => h.elim, fun _ _ h => h.elim, fun _ h => h.elim, fun _ _ h => h, fun _ h => h.elim⟩
          intro aU _
          exact ⟨rfl, by simp [Builtin.firstCells, ByteArray.extract]; rfl⟩
         ·refine ⟨hE, J, fun _ => False, _, Gz l _, ?_, fun _ h => h.elim, fun _ h => h.elim, fun _ _ h => h.elim, fun _ h => h.elim, fun _ _ h => h, fun _ h => h.elim⟩
          rw [yG hl, List.length_map]
          exact N4 l
        ·rename_i a q q8
         split at mX
         ·rename_i auG eU s2 bh
          simp only [Option.some.injEq, Prod.mk.injEq] at mX
          obtain ⟨rfl, rfl⟩ := mX
          rw [q8] at p4
          obtain ⟨et, hF, bf, bG, mq, cC, eH, fJ, h7, iI, k6, vn, yF⟩ := pY J rfl p4 bh
          rw [iH bG, aB] at cC
          rcases cC with ⟨rfl, N8, kP⟩ | ⟨b, cap, cur, gu, fr, a1, kP, b5, cu, fD, eO, gr, dE, jW, gb, lv, p3⟩
          ·simp at kP; subst kP
           exact ⟨et, hF, fun _ => False, [], by rw [bm], (CO N8), fun _ h => h.elim, fun _ h => h.elim, fun _ _ h => h.elim, fun _ h => h.elim, k6, fun _ h => h.elim⟩
          ·simp at kP; subst kP
           refine ⟨et, hF, a1, _, gb, CN (sV cu _) ?_, fun c ay => eH c (lv c ay), fun c ay => fJ c (lv c ay), fun u c ay => h7 u c (lv c ay), fun c ay => iI c (lv c ay), k6, fun c ay => vn c (lv c ay)⟩
           rw [f2]; exact bm.q7 gb tb
         ·cases mX
        ·cases mX
       have p5 : news.length = c7.length * (C.T e).sz := bm.q7 ly tb
       have mY : ∀ c, Sn c → ¬ mq c := fun c ai aj => by obtain ⟨u, hu⟩ := a6 c aj; exact oz u c ai hu
       have ll : ∀ u c, Sn c → ¬ gO u c := fun u c ai aj => oz u c ai (iL u c aj)
       have grow : ∀ (base : Option Addr) (cap : Nat) (nG : List Value) (Sx : Nat → Prop), jT = .slice base xs.length cap → Src C.P w i.size (.slice base xs.length cap) xs.length nG → bm w F xs nG Sx → (∀ d ∈ xs, d.wd = (C.T e).sz) → (∀ c, Sx c → Sn c) → ¬ xs.length + c7.length ≤ cap →
         Good C w0 F0 X aF w (Builtin.append_ #[T, bO] ty #[jT, jk]) (.aw (C.T e).sz (xs ++ c7)) vm := by
        intro base cap nG Sx CE hold GH GI fp oB
        subst CE
        have a7 := N1 (ty := ty) cl hu q6 f1 f4 iW hold oB CT (by rw [f3]; exact CL)
        have vj := grownCap_ge w (xs.length + c7.length) cap e
        have vk := grownCap_le_maxLen w (xs.length + c7.length) cap e (by unfold maxLen; omega)
        have vo := bm.q7 GH GI
        have N9 : bm w F (xs ++ c7) (nG ++ news) (fun c => Sx c ∨ mq c) := bm.append GH ly (fun _ h => .inl h) (fun _ h => .inr h) (fun c ai aj => mY c (fp c ai) aj)
        have N_ : (nG ++ news).length = (xs ++ c7).length * (C.T e).sz := by simp [vo, p5, Nat.add_mul]
        have jU := kv.vf (aU := w.drew.alloc (.cells (nG.toArray ++ news.toArray ++ Builtin.zeroCells z.cells (grownCap w (xs.length + c7.length) cap e - (xs.length + c7.length))) e))
         (sz := (C.T e).sz) (cap := grownCap w (xs.length + c7.length) cap e) (xs := xs ++ c7) (e := e) (fr := (0, 0)) (Sn := fun c => Sx c ∨ mq c) rfl rfl rfl rfl
         (fun o _ ⟨_, aj⟩ => absurd aj (Nat.not_lt_zero _)) (by simpa using vj) vk
         (by
          simp only [Array.size_append, List.size_toArray, size_zeroCells, pk, vo, p5, nH, ← Nat.add_mul]
          congr 1; omega)
         (by
          intro d al
          rcases List.mem_append.1 al with al | al
          ·exact GI d al
          ·exact tb d al)
         (by
          simp only [Array.toList_append]
          rw [List.take_left' N_]
          exact N9)
         (by rintro c (ay | ay); exact q3 c (fp c ay); exact lz c ay) (by rintro c (ay | ay); exact vg c (fp c ay); exact ba c ay) (by rintro u c (ay | ay); exact ll u c (fp c ay); exact bI u c ay) (by rintro c (ay | ay); exact oA c (fp c ay); exact cL c ay)
        refine ⟨_, _, F, gO, a7, jU.1, ?_⟩
        have := jU.2
        simpa using this
       rw [aB] at dz
       rcases dz with ⟨rfl, yH, kP⟩ | ⟨b, cap, cur, gu, fr, a1, kP, b5, cu, fD, eO, gr, dE, jW, gb, lv, p3⟩
       ·simp at kP; subst kP
        by_cases GJ : c7 = []
        ·subst GJ
         have CU : news = [] := by simpa using p5
         subst CU
         refine ⟨.slice yH 0 0, w, F, gO, ?_, kv, .inr ⟨rfl, rfl, fun _ => False, by simp only [cY, il]; rw [aB]; exact .inl ⟨rfl, _, rfl⟩, fun _ h => h.elim, fun _ h => h.elim, fun _ _ h => h.elim, fun _ h => h.elim⟩⟩
         obtain ⟨ai, aj⟩ := iW w rfl
         cases yH <;> rcases q6 with ⟨gE, rfl⟩ | rfl <;> simp at ai aj <;> simp [Builtin.append_, run_underlying cl, run_underlying hu, jR f1, ai, aj, storeCells]
        ·exact grow yH 0 [] (fun _ => False) rfl (CO yH) (by rw [bm]) (by simp) (fun _ h => h.elim) (by
          cases c7 with
          | nil => exact (GJ rfl).elim
          | cons y c7 => simp)
       ·simp at kP; subst kP
        by_cases oB : xs.length + c7.length ≤ cap
        ·
         have vo := bm.q7 gb jW
         have hlen : cur.toList.length = cap * (C.T e).sz := by simp [dE]
         have hle : (xs.length + c7.length) * (C.T e).sz ≤ cap * (C.T e).sz := Nat.mul_le_mul_right _ oB
         rw [Nat.add_mul] at hle
         have kH : cur.toList = cur.toList.take (xs.length * (C.T e).sz) ++ ((cur.toList.drop (xs.length * (C.T e).sz)).take news.length ++ (cur.toList.drop (xs.length * (C.T e).sz)).drop news.length) := by
          rw [List.take_append_drop, List.take_append_drop]
         obtain ⟨aU, fS, gG, hg, kt, lS, ch, nB⟩ := N0 (ty := ty) (n := xs.length) (m := c7.length) (cap := cap) cl hu q6 f1 iW cu fD kH (by rw [f2]; exact vo) (by simp [hlen, p5]; omega) (bm.qY _ _ _ ly) oB
         have Oa := kv.turn hg kt lS ch nB (vg b b5) (fun u hu => ll u b b5 hu) (oA b b5)
         have s0 : ∀ c, F c → aU.heap[c]? = w.heap[c]? := fun c ay => hg c (by rintro rfl; exact vg _ b5 ay)
         refine ⟨_, aU, F, gO, fS, Oa, .inr ⟨rfl, rfl, fun c => Sn c ∨ mq c, ?_, ?_, ?_, ?_, ?_⟩⟩
         ·simp only [cY, il]
          rw [aB]
          have GK : (cur.toList.take (xs.length * (C.T e).sz) ++ (news ++ (cur.toList.drop (xs.length * (C.T e).sz)).drop news.length)).toArray.size = cur.size := by
           have : cur.size = cur.toList.length := by simp
           rw [this]
           conv => rhs; rw [kH]
           simp [hlen, p5]; omega
          refine .inr ⟨b, cap, _, gu, fr, fun c => a1 c ∨ mq c, by simp, .inl b5, gG, by rw [GK]; exact fD, by simpa using oB, gr, by rw [GK]; exact dE, ?_, ?_, ?_, ?_⟩
          ·intro d al
           rcases List.mem_append.1 al with al | al
           ·exact jW d al
           ·exact tb d al
          ·have CV := bm.frame s0 _ _ _ (fun c ay => hg c (by rintro rfl; exact p3 ay)) gb
           have ym := bm.frame s0 _ _ _ (fun c ay => hg c (by rintro rfl; exact mY _ b5 ay)) ly
           have : ((cur.toList.take (xs.length * (C.T e).sz) ++ (news ++ (cur.toList.drop (xs.length * (C.T e).sz)).drop news.length)).toArray.toList.take ((xs ++ c7).length * (C.T e).sz)) = cur.toList.take (xs.length * (C.T e).sz) ++ news := by
            simp only []
            rw [← List.append_assoc]
            exact List.take_left' (by rw [List.length_append, vo, p5, List.length_append, Nat.add_mul])
           rw [this]
           exact bm.append CV ym (fun _ h => .inl h) (fun _ h => .inr h) (fun c ai aj => mY c (lv c ai) aj)
          ·rintro c (ay | ay)
           ·exact .inl (lv c ay)
           ·exact .inr ay
          ·rintro (ay | ay)
           ·exact p3 ay
           ·exact mY b b5 ay
         ·rw [kt]; rintro c (ay | ay); exact q3 c ay; exact lz c ay
         ·rintro c (ay | ay); exact vg c ay; exact ba c ay
         ·rintro u c (ay | ay); exact ll u c ay; exact bI u c ay
         ·rintro c (ay | ay); exact oA c ay; exact cL c ay
        ·exact grow (some ⟨b, 0, none⟩) cap _ a1 rfl (CN (sV cu _) (by rw [f2]; exact bm.q7 gb jW)) gb jW lv oB
      ·cases he
     ·cases he
    ·cases he
   ·cases he
  ·cases he
 ·cases he
end
end Go.dk
