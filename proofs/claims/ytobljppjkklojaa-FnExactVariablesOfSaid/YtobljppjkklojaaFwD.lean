/- Part of a proof that a law returns true for every input. No condition. -/
import Derived.Test.YtobljppjkklojaaFwC
import Derived.Test.YtobljppjkklojaaFwA
import Derived.Laws.IdiomStrings
import Derived.Laws.Strings
import Derived.LaidEql
import Derived.WideLaws
namespace Go.Fw
section
variable {C : Cx} {w0 w : World} {F0 X F : Nat → Prop} {S : Nat → Nat → Prop} {s s1 : St} {tm : Nat → Value} {av : AV}
theorem sv_int {k : IntKind} {n : Int} {v : Value} {S' : Nat → Prop} (h : SV w F s tm (.int k n) v S') : v = .int k n := by
 have h' := (SV.of_tree rfl).1 h
 rw [RV, vc_one h'.1] at h'
 simpa using h'.2
theorem sv_bool {b : Bool} {v : Value} {S' : Nat → Prop} (h : SV w F s tm (.bool b) v S') : v = .bool b := by
 have h' := (SV.of_tree rfl).1 h
 rw [RV, vc_one h'.1] at h'
 simpa using h'.2
theorem sv_str {b : List UInt8} {v : Value} {S' : Nat → Prop} (h : SV w F s tm (.str b) v S') : v = .string ⟨⟨b⟩⟩ := by
 have h' := (SV.of_tree rfl).1 h
 rw [RV, vc_one h'.1] at h'
 simpa using h'.2
theorem sv_nilp {v : Value} {S' : Nat → Prop} (h : SV w F s tm .nilp v S') : v = .pointer none := by
 have h' := (SV.of_tree rfl).1 h
 rw [RV, vc_one h'.1] at h'
 simpa using h'.2
theorem sv_nils {v : Value} {S' : Nat → Prop} (h : SV w F s tm .nils v S') : v = .slice none 0 0 := by
 have h' := (SV.of_tree rfl).1 h
 rw [RV, vc_one h'.1] at h'
 simpa using h'.2
theorem sv_anyb {v : Value} {S' : Nat → Prop} (h : SV w F s tm .anyb v S') : ∃ b, v = .bool b := by
 have h' := (SV.of_tree rfl).1 h
 rw [RV, vc_one h'.1] at h'
 simpa using h'.2
theorem of_int (k : IntKind) (n : Int) : SV w F s tm (.int k n) (.int k n) (fun _ => False) := (SV.of_tree rfl).2 ⟨rfl, by rw [RV]; rfl⟩
theorem of_bool (b : Bool) : SV w F s tm (.bool b) (.bool b) (fun _ => False) := (SV.of_tree rfl).2 ⟨rfl, by rw [RV]; rfl⟩
theorem of_str (b : List UInt8) : SV w F s tm (.str b) (.string ⟨⟨b⟩⟩) (fun _ => False) := (SV.of_tree rfl).2 ⟨rfl, by rw [RV]; rfl⟩
theorem of_anyb (b : Bool) : SV w F s tm .anyb (.bool b) (fun _ => False) := (SV.of_tree rfl).2 ⟨rfl, by rw [RV]; exact ⟨b, rfl⟩⟩
def bnI (op : BinOp) (k : IntKind) (a : Int) (k' : IntKind) (b : Int) : Option AV :=
 match op with
 | .shl => if b < 0 then none else some (.int k (k.wrap (a * 2 ^ (min b.toNat k.bits))))
 | .shr => if b < 0 then none else some (.int k (a.fdiv (2 ^ (min b.toNat k.bits))))
 | .add => if k = k' then some (.int k (k.wrap (a + b))) else none
 | .sub => if k = k' then some (.int k (k.wrap (a - b))) else none
 | .mul => if k = k' then some (.int k (k.wrap (a * b))) else none
 | .quo => if k = k' ∧ b ≠ 0 then some (.int k (k.wrap (a.tdiv b))) else none
 | .rem => if k = k' ∧ b ≠ 0 then some (.int k (a.tmod b)) else none
 | .eql => if k = k' then some (.bool (a == b)) else none
 | .neq => if k = k' then some (.bool (a != b)) else none
 | .lss => if k = k' then some (.bool (decide (a < b))) else none
 | .leq => if k = k' then some (.bool (decide (a ≤ b))) else none
 | .gtr => if k = k' then some (.bool (decide (b < a))) else none
 | .geq => if k = k' then some (.bool (decide (b ≤ a))) else none
 | .and => if k = k' then some (.int k (bitsOf .and k a b)) else none
 | .or => if k = k' then some (.int k (bitsOf .or k a b)) else none
 | .xor => if k = k' then some (.int k (bitsOf .xor k a b)) else none
 | .andNot => if k = k' then some (.int k (bitsOf .andNot k a b)) else none
def bnS (op : BinOp) (a b : List UInt8) : Option AV :=
 match op with
 | .add => if a.length + b.length ≤ 9223372036854775807 then some (.str (a ++ b)) else none
 | .eql => some (.bool (a == b))
 | .neq => some (.bool !(a == b))
 | .lss => some (.bool (Op.bytesLess a b))
 | .leq => some (.bool (Op.bytesLess a b || a == b))
 | .gtr => some (.bool !(Op.bytesLess a b || a == b))
 | .geq => some (.bool !(Op.bytesLess a b))
 | _ => none
def nilS (s : St) : AV → Option (Option Bool)
 | .nils => some (some true)
 | .slice xs => some (if xs = [] then none else some false)
 | .h x q => match AV.sub q (s x) with
   | some (.uslice _ xs) => some (if xs = [] then none else some false)
   | _ => none
 | _ => none
def nilP (s : St) : AV → Option Bool
 | .nilp => some true
 | .ref _ => some false
 | .h x q => match AV.sub q (s x) with
   | some (.ubox _) => some false
   | _ => none
 | _ => none
def nilAV (neg : Bool) : Option Bool → AV
 | some b => .bool (b != neg)
 | none => .anyb
def bn (C : Cx) (s : St) (op : BinOp) (T : TypeId) (x y : AV) : Option AV :=
 match x, y with
 | .int k a, .int k' b => bnI op k a k' b
 | .str a, .str b => bnS op a b
 | .bool a, .bool b => match op, (C.T T).k with
   | .eql, .bool => some (.bool (a == b))
   | .neq, .bool => some (.bool !(a == b))
   | _, _ => none
 | x, .nils => match op, (C.T T).k with
   | .eql, .slice _ => (nilS s x).map (nilAV false)
   | .neq, .slice _ => (nilS s x).map (nilAV true)
   | _, _ => none
 | x, .nilp => match op, (C.T T).k with
   | .eql, .ptr _ => (nilP s x).map fun b => .bool b
   | .neq, .ptr _ => (nilP s x).map fun b => .bool !b
   | _, _ => none
 | _, _ => none
theorem bnI_run {P : Program} {op : BinOp} {T : TypeId} {k k' : IntKind} {a b : Int} (he : bnI op k a k' b = some av) (w : World) :
  ∃ v, (binOp op T (.int k a) (.int k' b)).run P w = .ok v w ∧ SV w F s tm av v (fun _ => False) := by
 unfold bnI at he
 cases op <;> simp only at he <;> split at he <;> first | (cases he; done) | skip
 all_goals
  rename_i hc
  simp only [Option.some.injEq] at he
  subst he
 all_goals first
  | (subst hc; simp only [binOp_add, binOp_sub, binOp_mul, binOp_eql, binOp_neq, binOp_lss, binOp_leq, binOp_gtr, binOp_geq, binOp_and, binOp_or, binOp_xor, binOp_andNot, Op.intArith, Op.intBits, Sem.run_pure, Result.ok.injEq, and_true, exists_eq_left']
     first | exact of_int _ _ | exact of_bool _)
  | (obtain ⟨rfl, h0⟩ := hc
     simp only [binOp_quo, binOp_rem, Op.intDiv, h0, if_false, Sem.run_pure, Result.ok.injEq, and_true, exists_eq_left']
     exact of_int _ _)
  | (simp only [binOp_shl, binOp_shr, Op.shift, hc, if_false, Sem.run_pure, Result.ok.injEq, and_true, exists_eq_left']
     exact of_int _ _)
theorem ba_toList (a : List UInt8) : (⟨⟨a⟩⟩ : ByteArray).toList = a := ByteArray.toList_eq _
theorem ba_append (a b : List UInt8) : (⟨⟨a⟩⟩ : ByteArray) ++ (⟨⟨b⟩⟩ : ByteArray) = ⟨⟨a ++ b⟩⟩ := by
 apply ByteArray.ext
 simp [ByteArray.data_append]
theorem bnS_run {P : Program} {op : BinOp} {T : TypeId} {a b : List UInt8} (he : bnS op a b = some av) (w : World) :
  ∃ v, (binOp op T (.string ⟨⟨a⟩⟩) (.string ⟨⟨b⟩⟩)).run P w = .ok v w ∧ SV w F s tm av v (fun _ => False) := by
 have hb : ∀ op, binOp op T (.string ⟨⟨a⟩⟩) (.string ⟨⟨b⟩⟩) = Op.stringOp op ⟨⟨a⟩⟩ ⟨⟨b⟩⟩ := by intro op; cases op <;> rfl
 rw [hb]
 unfold bnS at he
 cases op <;> simp only [Option.some.injEq] at he <;> first | (cases he; done) | skip
 case add =>
  split at he
  ·rename_i hl
   simp only [Option.some.injEq] at he; subst he
   have hs : ((ByteArray.size ⟨⟨a⟩⟩ + ByteArray.size ⟨⟨b⟩⟩ : Nat) : Int) ≤ 9223372036854775807 := by
    show ((a.length + b.length : Nat) : Int) ≤ _
    omega
   refine ⟨.string ⟨⟨a ++ b⟩⟩, ?_, of_str _⟩
   simp only [Op.stringOp, IntKind.max_i64]
   rw [if_neg (by omega), ba_append]
   rfl
  ·cases he
 all_goals
  subst he
  simp only [Op.stringOp, ba_toList, Sem.run_pure, Result.ok.injEq, and_true, exists_eq_left']
  exact of_bool _
theorem h_slice (h : RelX w0 F0 X F S s tm w) {v : Value} {y : Nat} {q : List Nat} (hv : SV w F s tm (.h y q) v (fun _ => False)) {sz : Nat} {xs : List AV} (hd : AV.sub q (s y) = some (.uslice sz xs)) :
  (xs = [] ∧ ∃ a, v = .slice a 0 0) ∨ ∃ b cap cur e fr, v = .slice (some ⟨b, 0, none⟩) xs.length cap ∧ w.heap[b]? = some (.cells cur e fr) ∧ nofrz fr cur.size ∧ xs.length ≤ cap ∧ cap ≤ maxLen ∧ cur.size = cap * sz ∧ (∀ d ∈ xs, d.wd = sz) ∧
   ∃ S', RVs w F xs (cur.toList.take (xs.length * sz)) S' ∧ (∀ c, S' c → S y c) ∧ S y b := by
 rw [SV] at hv
 obtain ⟨dcs, a, g1, g2, g3⟩ := hv _ hd rfl
 have hs : Value.isOne v = true := g3
 rw [vc_one hs] at g2; subst g2
 have hx := h.sv y
 rw [SV.of_tree (tree_of_sub hd (.inl rfl))] at hx
 obtain ⟨dcs', a', Sc, Sd, k0, k1, k2, k3, k4, k5⟩ := ctx q (s y) (vc (tm y)) (S y) none _ hx.2 hd
 rw [k0] at g1
 simp only [Option.some.injEq, Prod.mk.injEq, true_and] at g1
 obtain ⟨rfl, rfl⟩ := g1
 rw [RV] at k4
 rcases k4 with ⟨rfl, a2, h2⟩ | ⟨b, cap, cur, e2, fr, S2, e3, e4, e5, e6, e7, e8, e9, e10, e11, e12, e13⟩
 ·simp at h2; exact .inl ⟨rfl, _, h2⟩
 ·simp at e3
  exact .inr ⟨b, cap, cur, e2, fr, e3, e5, e6, e7, e8, e9, e10, S2, e11, fun c hc => k2 _ (e12 c hc), k2 _ e4⟩
theorem h_box (h : RelX w0 F0 X F S s tm w) {v : Value} {y : Nat} {q : List Nat} (hv : SV w F s tm (.h y q) v (fun _ => False)) {d : AV} (hd : AV.sub q (s y) = some (.ubox d)) :
  ∃ b cur e fr, v = .pointer (some ⟨b, 0, none⟩) ∧ w.heap[b]? = some (.cells cur e fr) := by
 rw [SV] at hv
 obtain ⟨dcs, a, g1, g2, g3⟩ := hv _ hd rfl
 have hs : Value.isOne v = true := g3
 rw [vc_one hs] at g2; subst g2
 have hx := h.sv y
 rw [SV.of_tree (tree_of_sub hd (.inl rfl))] at hx
 obtain ⟨dcs', a', Sc, Sd, k0, k1, k2, k3, k4, k5⟩ := ctx q (s y) (vc (tm y)) (S y) none _ hx.2 hd
 rw [k0] at g1
 simp only [Option.some.injEq, Prod.mk.injEq, true_and] at g1
 obtain ⟨rfl, rfl⟩ := g1
 rw [RV] at k4
 obtain ⟨b, cur, e2, fr, S2, e3, e4, e5, _⟩ := k4
 simp at e3
 exact ⟨b, cur, e2, fr, e3, e5⟩
theorem eq_slice {P : Program} {T e : TypeId} (ht : P.underlying T = some (.slice e)) (w : World) : ∀ d, (Op.equalIn (d + 1) T (.slice none 0 0) (.slice none 0 0)).run P w = .ok true w ∧
  ∀ a n c, (Op.equalIn (d + 1) T (.slice (some a) n c) (.slice none 0 0)).run P w = .ok false w := by
 intro d
 refine ⟨by simp [Op.equalIn, run_underlying ht], fun a n c => by simp [Op.equalIn, run_underlying ht]⟩
theorem eq_ptr {P : Program} {T e : TypeId} (ht : P.underlying T = some (.pointer e)) (w : World) : ∀ d, (Op.equalIn (d + 1) T (.pointer none) (.pointer none)).run P w = .ok true w ∧
  ∀ a, (Op.equalIn (d + 1) T (.pointer (some a)) (.pointer none)).run P w = .ok false w := by
 intro d
 refine ⟨by simp [Op.equalIn, run_underlying ht], fun a => by simp [Op.equalIn, run_underlying ht]⟩
theorem eq_bool {P : Program} {T : TypeId} (ht : P.underlying T = some .bool) (w : World) : ∀ d a b, (Op.equalIn (d + 1) T (.bool a) (.bool b)).run P w = .ok (a == b) w := by
 intro d a b
 simp [Op.equalIn, run_underlying ht]
theorem nilS_run (h : RelX w0 F0 X F S s tm w) {x : AV} {v : Value} (hv : SV w F s tm x v (fun _ => False)) {T e : TypeId} {r : Option Bool} (hr : nilS s x = some r) (ht : C.P.underlying T = some (.slice e)) :
  ∃ b, (Op.equal T v (.slice none 0 0)).run C.P w = .ok b w ∧ (∀ b', r = some b' → b' = b) ∧ Value.isOne v = true ∧ ∃ a n c, v = .slice a n c := by
 have e1 := fun a n c => (eq_slice ht w 9999).2 a n c
 have e0 := (eq_slice ht w 9999).1
 cases x with
 | nils =>
   have := sv_nils hv; subst this
   simp [nilS] at hr; subst hr
   exact ⟨true, e0, by simp, rfl, _, _, _, rfl⟩
 | slice xs =>
   have h' := (SV.of_tree rfl).1 hv
   rw [RV, vc_one h'.1] at h'
   simp only [nilS, Option.some.injEq] at hr
   obtain ⟨_, ⟨rfl, a, c, h2, _, hac⟩ | ⟨b, o, cap, ecs, sz, h2, h3⟩⟩ := h'
   ·simp at h2 hr; subst h2; subst hr
    cases a with
    | none =>
      have := hac rfl; subst this
      exact ⟨true, e0, by simp, rfl, _, _, _, rfl⟩
    | some a => exact ⟨false, e1 _ _ _, by simp, rfl, _, _, _, rfl⟩
   ·simp at h2; subst h2
    refine ⟨false, e1 _ _ _, ?_, rfl, _, _, _, rfl⟩
    subst hr
    split <;> simp
 | h y q =>
   simp only [nilS] at hr
   split at hr
   ·rename_i sz xs hd
    simp only [Option.some.injEq] at hr
    rcases h_slice h hv hd with ⟨rfl, a, rfl⟩ | ⟨b, cap, cur, e2, fr, rfl, _⟩
    ·simp at hr; subst hr
     cases a with
     | none => exact ⟨true, e0, by simp, rfl, _, _, _, rfl⟩
     | some a => exact ⟨false, e1 _ _ _, by simp, rfl, _, _, _, rfl⟩
    ·refine ⟨false, e1 _ _ _, ?_, rfl, _, _, _, rfl⟩
     subst hr
     split <;> simp
   ·cases hr
 | _ => simp [nilS] at hr
theorem nilP_run (h : RelX w0 F0 X F S s tm w) {x : AV} {v : Value} (hv : SV w F s tm x v (fun _ => False)) {T e : TypeId} {r : Bool} (hr : nilP s x = some r) (ht : C.P.underlying T = some (.pointer e)) :
  (Op.equal T v (.pointer none)).run C.P w = .ok r w ∧ ∃ a, v = .pointer a := by
 have e1 := fun a => (eq_ptr ht w 9999).2 a
 have e0 := (eq_ptr ht w 9999).1
 cases x with
 | nilp =>
   have := sv_nilp hv; subst this
   simp [nilP] at hr; subst hr
   exact ⟨e0, _, rfl⟩
 | ref d =>
   have h' := (SV.of_tree rfl).1 hv
   rw [RV, vc_one h'.1] at h'
   simp [nilP] at hr; subst hr
   obtain ⟨_, b, o, ecs, h2, _⟩ := h'
   simp at h2; subst h2
   exact ⟨e1 _, _, rfl⟩
 | h y q =>
   simp only [nilP] at hr
   split at hr
   ·rename_i d hd
    simp only [Option.some.injEq] at hr; subst hr
    obtain ⟨b, cur, e, fr, rfl, _⟩ := h_box h hv hd
    exact ⟨e1 _, _, rfl⟩
   ·cases hr
 | _ => simp [nilP] at hr
theorem bn_good (hC : C.Ok) (h : RelX w0 F0 X F S s tm w) {op : BinOp} {T : TypeId} {x y : AV} {vx vy : Value} (ox oy : Operand) (hx : SV w F s tm x vx (fun _ => False)) (hy : SV w F s tm y vy (fun _ => False))
  (he : bn C s op T x y = some av) : Good C w0 F0 X tm w (do eqGuard op T ox oy vx vy; binOp op T vx vy) av s := by
 unfold bn at he
 split at he
 ·have := sv_int hx; subst this
  have := sv_int hy; subst this
  obtain ⟨v, h1, h2⟩ := bnI_run (P := C.P) (T := T) he w
  refine Good.same h (v := v) ?_ ?_ h2
  ·rw [eqGuard_at_int]; exact h1
  ·revert he; unfold bnI; cases op <;> simp only <;> split <;> simp <;> (rintro rfl; rfl)
 ·have := sv_str hx; subst this
  have := sv_str hy; subst this
  obtain ⟨v, h1, h2⟩ := bnS_run (P := C.P) (T := T) he w
  refine Good.same h (v := v) ?_ ?_ h2
  ·rw [eqGuard_at_string]; exact h1
  ·revert he; unfold bnS; cases op <;> simp only <;> (try split) <;> simp <;> (try (rintro rfl; rfl))
 ·have := sv_bool hx; subst this
  have := sv_bool hy; subst this
  split at he
  ·rename_i hk
   simp only [Option.some.injEq] at he; subst he
   obtain ⟨i, d, z, e1, e2, e3, e4, e5, e6, e7⟩ := hC.info (ok_of_k hk (by simp))
   rw [hk] at e7
   have := desc_bool e7; subst this
   refine Good.same h ?_ rfl (of_bool _)
   rw [eqGuard_at_bool]
   simp [binOp, Op.equal, Op.maxDepth, eq_bool e6 w 9999]
  ·rename_i hk
   simp only [Option.some.injEq] at he; subst he
   obtain ⟨i, d, z, e1, e2, e3, e4, e5, e6, e7⟩ := hC.info (ok_of_k hk (by simp))
   rw [hk] at e7
   have := desc_bool e7; subst this
   refine Good.same h ?_ rfl (of_bool _)
   rw [eqGuard_at_bool]
   simp [binOp, Op.equal, Op.maxDepth, eq_bool e6 w 9999]
  ·cases he
 ·have := sv_nils hy; subst this
  split at he
  ·rename_i e hk
   simp only [Option.map_eq_some_iff] at he
   obtain ⟨r, hr, rfl⟩ := he
   obtain ⟨i, d, z, e1, e2, e3, e4, e5, e6, e7⟩ := hC.info (ok_of_k hk (by simp))
   rw [hk] at e7
   have := desc_slice e7; subst this
   obtain ⟨b, h1, h2, h3, a0, n0, c0, rfl⟩ := nilS_run h hx hr e6
   refine Good.same h (v := .bool b) ?_ ?_ ?_
   ·rw [eqGuard_at_slice]
    simp [binOp, h1]
   ·cases r <;> rfl
   ·cases r with
    | none => exact of_anyb b
    | some b' => have := h2 b' rfl; subst this; simp only [nilAV, Bool.bne_false]; exact of_bool _
  ·rename_i e hk
   simp only [Option.map_eq_some_iff] at he
   obtain ⟨r, hr, rfl⟩ := he
   obtain ⟨i, d, z, e1, e2, e3, e4, e5, e6, e7⟩ := hC.info (ok_of_k hk (by simp))
   rw [hk] at e7
   have := desc_slice e7; subst this
   obtain ⟨b, h1, h2, h3, a0, n0, c0, rfl⟩ := nilS_run h hx hr e6
   refine Good.same h (v := .bool !b) ?_ ?_ ?_
   ·rw [eqGuard_at_slice]
    simp [binOp, h1]
   ·cases r <;> rfl
   ·cases r with
    | none => exact of_anyb _
    | some b' => have := h2 b' rfl; subst this; simp only [nilAV, Bool.bne_true]; exact of_bool _
  ·cases he
 ·have := sv_nilp hy; subst this
  split at he
  ·rename_i e hk
   simp only [Option.map_eq_some_iff] at he
   obtain ⟨r, hr, rfl⟩ := he
   obtain ⟨i, d, z, e1, e2, e3, e4, e5, e6, e7⟩ := hC.info (ok_of_k hk (by simp))
   rw [hk] at e7
   have := desc_ptr e7; subst this
   obtain ⟨h1, a0, rfl⟩ := nilP_run h hx hr e6
   refine Good.same h (v := .bool r) ?_ rfl (of_bool _)
   rw [eqGuard_at_pointer]
   simp [binOp, h1]
  ·rename_i e hk
   simp only [Option.map_eq_some_iff] at he
   obtain ⟨r, hr, rfl⟩ := he
   obtain ⟨i, d, z, e1, e2, e3, e4, e5, e6, e7⟩ := hC.info (ok_of_k hk (by simp))
   rw [hk] at e7
   have := desc_ptr e7; subst this
   obtain ⟨h1, a0, rfl⟩ := nilP_run h hx hr e6
   refine Good.same h (v := .bool !r) ?_ rfl (of_bool _)
   rw [eqGuard_at_pointer]
   simp [binOp, h1]
  ·cases he
 ·cases he
end
section
variable {C : Cx} {w0 w : World} {F0 X F : Nat → Prop} {S : Nat → Nat → Prop} {s s1 : St} {tm : Nat → Value} {av : AV}
def un (op : UnOp) (x : AV) : Option AV :=
 match op, x with
 | .not, .bool b => some (.bool !b)
 | .not, .anyb => some .anyb
 | .neg, .int k n => some (.int k (k.wrap (0 - n)))
 | _, _ => none
theorem un_good (h : RelX w0 F0 X F S s tm w) {op : UnOp} {x : AV} {v : Value} (hv : SV w F s tm x v (fun _ => False)) (he : un op x = some av) : Good C w0 F0 X tm w (Op.unary op v) av s := by
 unfold un at he
 split at he <;> first | (cases he; done) | (simp only [Option.some.injEq] at he; subst he)
 ·have := sv_bool hv; subst this
  exact Good.same h rfl rfl (of_bool _)
 ·obtain ⟨b, rfl⟩ := sv_anyb hv
  exact Good.same h rfl rfl (of_anyb _)
 ·have := sv_int hv; subst this
  exact Good.same h rfl rfl (of_int _ _)
def nilc (s : St) (x : AV) : Option AV :=
 match x with
 | .ref d => some (.ref d)
 | .fn f c => some (.fn f c)
 | .h y q => match AV.sub q (s y) with
   | some (.ubox _) => some (.h y q)
   | _ => none
 | _ => none
theorem sv_ref {d : AV} {v : Value} {S' : Nat → Prop} (h : SV w F s tm (.ref d) v S') : ∃ b o ecs, v = .pointer (some ⟨b, o, none⟩) ∧ F b ∧ Rd w b o ecs ∧ RV w F d ecs (fun _ => False) := by
 have h' := (SV.of_tree rfl).1 h
 rw [RV, vc_one h'.1] at h'
 obtain ⟨_, b, o, ecs, h1, h2, h3, h4⟩ := h'
 simp at h1; subst h1
 exact ⟨b, o, ecs, rfl, h2, h3, h4⟩
theorem nilc_val (h : RelX w0 F0 X F S s tm w) {x : AV} {v : Value} (hv : SV w F s tm x v (fun _ => False)) (he : nilc s x = some av) :
  av = x ∧ x.plain = true ∧ ((∃ a, v = .pointer (some a)) ∨ ∃ f c, v = .func (.func f) #[] c) := by
 unfold nilc at he
 split at he
 ·simp only [Option.some.injEq] at he; subst he
  obtain ⟨b, o, ecs, rfl, _⟩ := sv_ref hv
  exact ⟨rfl, rfl, .inl ⟨_, rfl⟩⟩
 ·simp only [Option.some.injEq] at he; subst he
  rw [SV] at hv
  obtain ⟨arr, rfl, _⟩ := hv
  exact ⟨rfl, rfl, .inr ⟨_, _, rfl⟩⟩
 ·split at he
  ·rename_i d hd
   simp only [Option.some.injEq] at he; subst he
   obtain ⟨b, cur, e, fr, rfl, _⟩ := h_box h hv hd
   exact ⟨rfl, rfl, .inl ⟨_, rfl⟩⟩
  ·cases he
 ·cases he
def ex (s : St) (x : AV) (k : Nat) : Option AV :=
 match x with
 | .tuple ds => match ds[k]? with
   | some d => if d.plain = true then some d else none
   | none => none
 | .h y q => match AV.sub q (s y) with
   | some (.tuple ds) => match ds[k]? with
     | some d => if AV.plains ds = true then none else some (if d.plain then d else .h y (q ++ [k]))
     | none => none
   | _ => none
 | _ => none
theorem flat_get : ∀ (vs : List Value) (k : Nat) (x : Value) (ds : List AV), vs[k]? = some x → vs.length = ds.length → (∀ (j : Nat) (d : AV) (y : Value), ds[j]? = some d → vs[j]? = some y → (vc1 y).length = d.wd) →
  ∃ l r, vs.flatMap vc1 = l ++ (vc1 x ++ r) ∧ l.length = AV.wds (ds.take k)
 | [], k, x, ds, h, _, _ => by simp at h
 | v :: vs, 0, x, ds, h, hl, hw => by
   simp at h; subst h
   exact ⟨[], vs.flatMap vc1, by simp, by simp [AV.wds]⟩
 | v :: vs, k + 1, x, d :: ds, h, hl, hw => by
   obtain ⟨l, r, e1, e2⟩ := flat_get vs k x ds (by simpa using h) (by simpa using hl) (fun j d y h1 h2 => hw (j + 1) d y (by simpa using h1) (by simpa using h2))
   refine ⟨vc1 v ++ l, r, by simp [e1], ?_⟩
   have := hw 0 d v (by simp) (by simp)
   simp [AV.wds, e2, this]
 | v :: vs, k + 1, x, [], h, hl, hw => by simp at hl
theorem vc1_vc {d : AV} {v : Value} (h : shp1 d v) (_hd : ∀ vs, d ≠ .tuple vs) : vc v = vc1 v := by
 cases d with
 | agg fs => obtain ⟨arr, rfl⟩ := h; rfl
 | _ =>
   have h1 : Value.isOne v = true := h
   cases v <;> first | rfl | (simp [Value.isOne] at h1)
theorem shp_of1 {d : AV} {v : Value} (h : shp1 d v) (hd : ∀ vs, d ≠ .tuple vs) : shp d v := by
 cases d with
 | tuple vs => exact (hd _ rfl).elim
 | _ => exact h
theorem ex_good (h : RelX w0 F0 X F S s tm w) {x : AV} {v : Value} {k : Nat} (hv : SV w F s tm x v (fun _ => False)) (he : ex s x k = some av) : Good C w0 F0 X tm w (Instr.extract v k) av s := by
 have pick : ∀ (ds : List AV) (d : AV) (arr : Array Value), ds[k]? = some d → (arr.size = ds.length ∧ ∀ (k : Nat) (d : AV) (x : Value), ds[k]? = some d → arr[k]? = some x → shp1 d x ∧ (∀ vs, d ≠ .tuple vs) ∧ (vc1 x).length = d.wd) →
   ∃ x, arr[k]? = some x ∧ shp d x ∧ ((vc (.tuple arr)).drop (AV.wds (ds.take k))).take d.wd = vc x := by
  intro ds d arr hd ⟨hz, hall⟩
  have hlt : k < arr.size := by rw [hz]; exact (List.getElem?_eq_some_iff.1 hd).1
  have hx : arr[k]? = some arr[k] := Array.getElem?_eq_getElem hlt
  obtain ⟨g1, g2, g3⟩ := hall k d _ hd hx
  obtain ⟨l, r, e1, e2⟩ := flat_get arr.toList k arr[k] ds (by simp [hlt]) (by simpa using hz) (fun j d y h1 h2 => (hall j d y h1 (by simpa using h2)).2.2)
  refine ⟨_, hx, shp_of1 g1 g2, ?_⟩
  rw [vc1_vc g1 g2]
  simp only [vc]
  rw [e1]
  exact seg_eq l _ r _ _ e2 g3
 unfold ex at he
 split at he
 ·rename_i ds
  split at he
  ·rename_i d hd
   split at he
   ·rename_i hp
    simp only [Option.some.injEq] at he; subst he
    have h' := (SV.of_tree rfl).1 hv
    obtain ⟨⟨arr, rfl, hz⟩, hrv⟩ := h'
    obtain ⟨x, hx, hs, hc⟩ := pick ds d arr hd hz
    have hr : (Instr.extract (.tuple arr) k).run C.P w = .ok x w := by simp [Instr.extract, hx]
    rw [RV] at hrv
    obtain ⟨c1, ck, c2, S1, Sk, e, p0, p1, p2, p3, p5, p6⟩ := RVs.pick ds _ _ k d hrv hd
    rw [e, seg_eq c1 ck c2 _ _ p0 (RV.length _ _ _ p5)] at hc
    by_cases ht : d.tree = true
    ·exact Good.same h hr hp ((SV.of_tree ht).2 ⟨hs, by rw [← hc]; exact RV.plain _ _ _ _ hp p5⟩)
    ·cases d <;> first | exact (ht rfl).elim | (rw [RV] at p5; exact p5.elim) | exact Good.same h hr rfl (by rw [SV]; trivial)
   ·cases he
  ·cases he
 ·rename_i y q
  split at he
  ·rename_i ds hd
   split at he
   ·rename_i d hk
    split at he
    ·cases he
    ·rename_i hpl
     simp only [Option.some.injEq] at he
     have hpl : (AV.tuple ds).plain = false := by simpa [AV.plain] using hpl
     rw [SV] at hv
     obtain ⟨dcs, a, g1, g2, g3⟩ := hv _ hd hpl
     obtain ⟨arr, rfl, hz⟩ := g3
     obtain ⟨x, hx, hs, hc⟩ := pick ds d arr hk hz
     have hr : (Instr.extract (.tuple arr) k).run C.P w = .ok x w := by simp [Instr.extract, hx]
     have hy := h.sv y
     rw [SV.of_tree (tree_of_sub hd (.inl hpl))] at hy
     obtain ⟨dcs', a', Sc, Sd, k0, k1, k2, k3, k4, k5⟩ := ctx q (s y) (vc (tm y)) (S y) none _ hy.2 hd
     rw [k0] at g1
     simp only [Option.some.injEq, Prod.mk.injEq, true_and] at g1
     obtain ⟨rfl, rfl⟩ := g1
     rw [g2] at hc
     split at he
     ·rename_i hp
      subst he
      rw [RV] at k4
      obtain ⟨c1, ck, c2, S1, Sk, e, p0, p1, p2, p3, p5, p6⟩ := RVs.pick ds _ _ k d k4 hk
      rw [e, seg_eq c1 ck c2 _ _ p0 (RV.length _ _ _ p5)] at hc
      by_cases ht : d.tree = true
      ·exact Good.same h hr hp ((SV.of_tree ht).2 ⟨hs, by rw [← hc]; exact RV.plain _ _ _ _ hp p5⟩)
      ·cases d <;> first | exact (ht rfl).elim | (rw [RV] at p5; exact p5.elim) | exact Good.same h hr rfl (by rw [SV]; trivial)
     ·subst he
      refine Good.same h hr rfl ?_
      rw [SV]
      intro d2 hd2 hp2
      rw [fol_append w q _ _ _ _ _ _ [k] k0]
      rw [sub_append _ _ _ _ hd] at hd2
      simp only [AV.sub, hk, Option.some.injEq] at hd2
      subst hd2
      simp only [fol, hk]
      exact ⟨_, _, rfl, hc.symm, hs⟩
   ·cases he
  ·cases he
 ·cases he
end
section
variable {C : Cx} {w0 w : World} {F0 X F : Nat → Prop} {S : Nat → Nat → Prop} {s s1 : St} {tm : Nat → Value} {av : AV}
def idx (C : Cx) (T : TypeId) (x i : AV) : Option AV :=
 match (C.T T).k, x, i with
 | .str, .str l, .int _ n => if 0 ≤ n then (match l[n.toNat]? with | some b => some (.int .u8 b.toNat) | none => none) else none
 | _, _, _ => none
theorem ba_get (l : List UInt8) (n : Nat) : (⟨⟨l⟩⟩ : ByteArray)[n]? = l[n]? := by
 by_cases h : n < l.length
 ·have h' : n < (⟨⟨l⟩⟩ : ByteArray).size := h
  rw [List.getElem?_eq_getElem h, getElem?_pos (⟨⟨l⟩⟩ : ByteArray) n h']
  rfl
 ·have h' : ¬ n < (⟨⟨l⟩⟩ : ByteArray).size := h
  rw [List.getElem?_eq_none (by omega), getElem?_neg (⟨⟨l⟩⟩ : ByteArray) n h']
theorem idx_good (hC : C.Ok) (h : RelX w0 F0 X F S s tm w) {T : TypeId} {x i : AV} {v vi : Value} (hv : SV w F s tm x v (fun _ => False)) (hi : SV w F s tm i vi (fun _ => False)) (he : idx C T x i = some av) :
  Good C w0 F0 X tm w (Instr.index T v vi) av s := by
 unfold idx at he
 split at he
 ·rename_i l k n hk
  have := sv_str hv; subst this
  have := sv_int hi; subst this
  obtain ⟨i, d, z, e1, e2, e3, e4, e5, e6, e7⟩ := hC.info (ok_of_k hk (by simp))
  rw [hk] at e7
  have := desc_str e7; subst this
  split at he
  ·rename_i hn
   split at he
   ·rename_i b hb
    simp only [Option.some.injEq] at he; subst he
    refine Good.same h ?_ rfl (of_int _ _)
    simp [Instr.index, asIntOf, run_underlying e6, hn, ba_get, hb]
   ·cases he
  ·cases he
 ·cases he
def lenOf (s : St) : AV → Option Nat
 | .str l => some l.length
 | .nils => some 0
 | .slice xs => some xs.length
 | .h y q => match AV.sub q (s y) with
   | some (.uslice _ xs) => some xs.length
   | _ => none
 | _ => none
def ln (C : Cx) (s : St) (T : TypeId) (x : AV) : Option AV :=
 match (C.T T).k, x with
 | .str, .str l => some (.int .i64 l.length)
 | .slice _, .nils => some (.int .i64 0)
 | .slice _, .slice xs => some (.int .i64 xs.length)
 | .slice _, .h y q => match AV.sub q (s y) with
   | some (.uslice _ xs) => some (.int .i64 xs.length)
   | _ => none
 | _, _ => none
theorem sv_slice {xs : List AV} {v : Value} {S' : Nat → Prop} (h : SV w F s tm (.slice xs) v S') : (xs = [] ∧ ∃ a c, v = .slice a 0 c ∧ c ≤ maxLen ∧ (a = none → c = 0)) ∨
  ∃ b o cap ecs sz, v = .slice (some ⟨b, o, none⟩) xs.length cap ∧ F b ∧ xs.length ≤ cap ∧ cap ≤ maxLen ∧ (∀ d ∈ xs, d.wd = sz) ∧ Rd w b o ecs ∧ RVs w F xs ecs (fun _ => False) := by
 have h' := (SV.of_tree rfl).1 h
 rw [RV, vc_one h'.1] at h'
 obtain ⟨_, ⟨rfl, a, c, h2, h3⟩ | ⟨b, o, cap, ecs, sz, h2, h3⟩⟩ := h'
 ·simp at h2; exact .inl ⟨rfl, a, c, h2, h3⟩
 ·simp at h2; exact .inr ⟨b, o, cap, ecs, sz, h2, h3⟩
theorem ln_good (hC : C.Ok) (h : RelX w0 F0 X F S s tm w) {T ty : TypeId} {x : AV} {v : Value} (hv : SV w F s tm x v (fun _ => False)) (he : ln C s T x = some av) :
  Good C w0 F0 X tm w (Builtin.len_ #[T] ty #[v]) av s := by
 unfold ln at he
 split at he
 ·rename_i l hk
  have := sv_str hv; subst this
  obtain ⟨i, d, z, e1, e2, e3, e4, e5, e6, e7⟩ := hC.info (ok_of_k hk (by simp))
  rw [hk] at e7
  have := desc_str e7; subst this
  simp only [Option.some.injEq] at he; subst he
  refine Good.same h ?_ rfl (of_int _ _)
  simp [Builtin.len_, run_underlying e6, goInt]
  rfl
 ·rename_i e hk
  have := sv_nils hv; subst this
  obtain ⟨i, d, z, e1, e2, e3, e4, e5, e6, e7⟩ := hC.info (ok_of_k hk (by simp))
  rw [hk] at e7
  have := desc_slice e7; subst this
  simp only [Option.some.injEq] at he; subst he
  refine Good.same h ?_ rfl (of_int _ _)
  simp [Builtin.len_, run_underlying e6, goInt]
 ·rename_i e xs hk
  obtain ⟨i, d, z, e1, e2, e3, e4, e5, e6, e7⟩ := hC.info (ok_of_k hk (by simp))
  rw [hk] at e7
  have := desc_slice e7; subst this
  simp only [Option.some.injEq] at he; subst he
  refine Good.same h ?_ rfl (of_int _ _)
  rcases sv_slice hv with ⟨rfl, a, c, rfl, _⟩ | ⟨b, o, cap, ecs, sz, rfl, _⟩ <;> simp [Builtin.len_, run_underlying e6, goInt]
 ·rename_i e y q hk
  split at he
  ·rename_i sz xs hd
   obtain ⟨i, d, z, e1, e2, e3, e4, e5, e6, e7⟩ := hC.info (ok_of_k hk (by simp))
   rw [hk] at e7
   have := desc_slice e7; subst this
   simp only [Option.some.injEq] at he; subst he
   refine Good.same h ?_ rfl (of_int _ _)
   rcases h_slice h hv hd with ⟨rfl, _, rfl⟩ | ⟨b, cap, cur, e2, fr, rfl, _⟩ <;> simp [Builtin.len_, run_underlying e6, goInt]
  ·cases he
 ·cases he
def bytesOf : List AV → Option (List UInt8)
 | [] => some []
 | .int .u8 n :: r => if 0 ≤ n ∧ n < 256 then (bytesOf r).map (UInt8.ofNat n.toNat :: ·) else none
 | _ => none
def byteAV (b : UInt8) : AV := .int .u8 b.toNat
theorem bytesOf_cells : ∀ (xs : List AV) (l : List UInt8) (cs : List Value) (S' : Nat → Prop), bytesOf xs = some l → RVs w F xs cs S' → cs = l.map (fun b => .int .u8 (b.toNat : Int)) ∧ xs.length = l.length
 | [], l, cs, S', h, hr => by simp [bytesOf] at h; subst h; rw [RVs] at hr; subst hr; exact ⟨rfl, rfl⟩
 | x :: xs, l, cs, S', h, hr => by
   unfold bytesOf at h
   split at h
   ·rename_i e; cases e
   ·rename_i n r e
    simp only [List.cons.injEq] at e
    obtain ⟨rfl, rfl⟩ := e
    split at h
    ·rename_i hn
     simp only [Option.map_eq_some_iff] at h
     obtain ⟨l', h1, rfl⟩ := h
     rw [RVs] at hr
     obtain ⟨c1, c2, S1, S2, rfl, h2, h3, _⟩ := hr
     obtain ⟨rfl, h4⟩ := bytesOf_cells xs l' c2 S2 h1 h3
     rw [RV] at h2; subst h2
     refine ⟨?_, by simp [h4]⟩
     simp only [List.map_cons, List.cons_append, List.nil_append, List.cons.injEq, and_true, Value.int.injEq, true_and]
     simp only [UInt8.toNat_ofNat']
     omega
    ·cases h
   ·cases h
theorem RelX.newS (h : RelX w0 F0 X F S s tm w) {w' : World} {sz cap : Nat} {xs : List AV} {cur : Array Value} {e : TypeId} {fr : Nat × Nat} {Sn : Nat → Prop}
  (hw : w'.heap = w.heap.push (.cells cur e fr)) (h1 : w'.os = w.os) (h2 : w'.tape = w.tape) (h3 : w'.output = w.output)
  (hf : nofrz fr cur.size) (hle : xs.length ≤ cap) (hm : cap ≤ maxLen) (hsz : cur.size = cap * sz) (hwd : ∀ d ∈ xs, d.wd = sz) (hv : RVs w F xs (cur.toList.take (xs.length * sz)) Sn)
  (hlt : ∀ b, Sn b → b < w.heap.size) (hF : ∀ b, Sn b → ¬ F b) (hS : ∀ u b, Sn b → ¬ S u b) (h0 : ∀ b, Sn b → X b ∨ w0.heap.size ≤ b) :
  RelX w0 F0 X F S s tm w' ∧ Val w0 X F S s tm w' (.uslice sz xs) (.slice (some ⟨w.heap.size, 0, none⟩) xs.length cap) := by
 have hold : ∀ b, b < w.heap.size → w'.heap[b]? = w.heap[b]? := by
  intro b hb
  rw [hw, Array.getElem?_push, if_neg (by omega)]
 have hgrow : w'.heap.size = w.heap.size + 1 := by rw [hw]; simp
 refine ⟨h.grow hold (by omega) h1 h2 h3, .inr ⟨rfl, rfl, fun b => b = w.heap.size ∨ Sn b, ?_, ?_, ?_, ?_, ?_⟩⟩
 ·simp only [vc, vc1]
  rw [RV]
  refine .inr ⟨w.heap.size, cap, cur, e, fr, Sn, rfl, .inl rfl, ?_, hf, hle, hm, hsz, hwd, ?_, fun c hc => .inr hc, fun hc => Nat.lt_irrefl _ (hlt _ hc)⟩
  ·rw [hw]; simp
  ·exact RVs.frame (fun b hb => hold b (h.Flt b hb)) _ _ _ (fun b hb => hold b (hlt b hb)) hv
 ·rintro b (rfl | hb)
  ·omega
  ·have := hlt b hb; omega
 ·rintro b (rfl | hb) hF'
  ·exact Nat.lt_irrefl _ (h.Flt _ hF')
  ·exact hF b hb hF'
 ·rintro u b (rfl | hb) hu
  ·exact Nat.lt_irrefl _ (h.Slt _ _ hu)
  ·exact hS u b hb hu
 ·rintro b (rfl | hb)
  ·exact .inr h.size
  ·exact h0 b hb
def cvt (C : Cx) (s : St) (A B : TypeId) (x : AV) : Option AV :=
 if (C.T A).ok = true then
 match (C.T B).k, x with
 | .int k, .int _ n => some (.int k (k.wrap n))
 | .str, .str l => match (C.T A).k with
   | .str => some (.str l)
   | _ => none
 | .str, x => match (C.T A).k with
   | .slice e => match (C.T e).k with
     | .int .u8 => match x with
       | .nils => some (.str [])
       | .slice xs => (bytesOf xs).map .str
       | .h y q => match AV.sub q (s y) with
         | some (.uslice 1 xs) => (bytesOf xs).map .str
         | _ => none
       | _ => none
     | _ => none
   | _ => none
 | .slice e, .str l => match (C.T A).k, (C.T e).k with
   | .str, .int .u8 => if l.length ≤ 9223372036854775807 then some (.uslice 1 (l.map byteAV)) else none
   | _, _ => none
 | _, _ => none
 else none
theorem rvs_bytes (l : List UInt8) (S' : Nat → Prop) : RVs w F (l.map byteAV) (l.map fun b => .int .u8 (b.toNat : Int)) S' := by
 induction l generalizing S' with
 | nil => simp only [List.map_nil]; rw [RVs]
 | cons b l ih =>
   simp only [List.map_cons]
   rw [RVs]
   exact ⟨[.int .u8 (b.toNat : Int)], _, fun _ => False, fun _ => False, rfl, by rw [byteAV, RV], ih _, fun _ h => h.elim, fun _ h => h.elim, fun _ h => h.elim⟩
theorem cvt_good (hC : C.Ok) (h : RelX w0 F0 X F S s tm w) {A B : TypeId} {x : AV} {v : Value} (hv : SV w F s tm x v (fun _ => False)) (he : cvt C s A B x = some av) :
  Good C w0 F0 X tm w (convert A B v) av s := by
 unfold cvt at he
 split at he
 ·rename_i hA
  obtain ⟨ia, da, za, a1, a2, a3, a4, a5, a6, a7⟩ := hC.info hA
  split at he
  ·rename_i k k' n hk
   have := sv_int hv; subst this
   obtain ⟨i, d, z, e1, e2, e3, e4, e5, e6, e7⟩ := hC.info (ok_of_k hk (by simp))
   rw [hk] at e7
   have := desc_int e7; subst this
   simp only [Option.some.injEq] at he; subst he
   refine Good.same h ?_ rfl (of_int _ _)
   simp [convert, run_underlying a6, run_underlying e6, Conv.intToInt]
  ·rename_i l hk
   have := sv_str hv; subst this
   obtain ⟨i, d, z, e1, e2, e3, e4, e5, e6, e7⟩ := hC.info (ok_of_k hk (by simp))
   rw [hk] at e7
   have := desc_str e7; subst this
   split at he
   ·rename_i hka
    rw [hka] at a7
    have := desc_str a7; subst this
    simp only [Option.some.injEq] at he; subst he
    refine Good.same h ?_ rfl (of_str _)
    simp [convert, run_underlying a6, run_underlying e6]
   ·cases he
  ·rename_i x hk _
   obtain ⟨i, d, z, e1, e2, e3, e4, e5, e6, e7⟩ := hC.info (ok_of_k hk (by simp))
   rw [hk] at e7
   have := desc_str e7; subst this
   split at he
   ·rename_i e hka
    rw [hka] at a7
    have := desc_slice a7; subst this
    split at he
    ·rename_i hke
     obtain ⟨i', d', z', f1, f2, f3, f4, f5, f6, f7⟩ := hC.info (ok_of_k hke (by simp))
     rw [hke] at f7
     have := desc_int f7; subst this
     have fin : ∀ (l : List UInt8) (b o cap : Nat), Rd w b o (l.map fun b => .int .u8 (b.toNat : Int)) → (convert A B (.slice (some ⟨b, o, none⟩) l.length cap)).run C.P w = .ok (.string ⟨⟨l⟩⟩) w := by
      intro l b o cap hrd
      refine run_convert_bytes_back w A B e ⟨b, o, none⟩ cap l a6 f6 e6 (fun j hj => ?_)
      rw [Addr.add_lit]
      exact hrd j _ (by simp [hj])
     have nil : (convert A B (.slice none 0 0)).run C.P w = .ok (.string ⟨⟨[]⟩⟩) w := by
      simp [convert, run_underlying a6, run_underlying e6, run_underlying f6, Conv.bytesToString]
      rfl
     split at he
     ·have := sv_nils hv; subst this
      simp only [Option.some.injEq] at he; subst he
      exact Good.same h nil rfl (of_str _)
     ·rename_i xs _
      simp only [Option.map_eq_some_iff] at he
      obtain ⟨l, hl, rfl⟩ := he
      rcases sv_slice hv with ⟨rfl, a, c, rfl, _, hac⟩ | ⟨b, o, cap, ecs, sz, rfl, h1, h2, h3, h4, h5, h6⟩
      ·simp [bytesOf] at hl; subst hl
       cases a with
       | none =>
         have := hac rfl; subst this
         exact Good.same h nil rfl (of_str _)
       | some a =>
         refine Good.same h ?_ rfl (of_str _)
         exact run_convert_bytes_back w A B e a c [] a6 f6 e6 (fun j hj => by simp at hj)
      ·obtain ⟨rfl, h7⟩ := bytesOf_cells xs l ecs _ hl h6
       rw [h7]
       exact Good.same h (fin l b o cap h5) rfl (of_str _)
     ·rename_i y q
      split at he
      ·rename_i xs hd
       simp only [Option.map_eq_some_iff] at he
       obtain ⟨l, hl, rfl⟩ := he
       rcases h_slice h hv hd with ⟨rfl, a, rfl⟩ | ⟨b, cap, cur, e2, fr, rfl, h1, h2, h3, h4, h5, h6, S', h7, _⟩
       ·simp [bytesOf] at hl; subst hl
        cases a with
        | none => exact Good.same h nil rfl (of_str _)
        | some a =>
          refine Good.same h ?_ rfl (of_str _)
          exact run_convert_bytes_back w A B e a 0 [] a6 f6 e6 (fun j hj => by simp at hj)
       ·obtain ⟨h8, h9⟩ := bytesOf_cells xs l _ _ hl h7
        rw [h9]
        refine Good.same h (fin l b 0 cap ?_) rfl (of_str _)
        rw [← h8]
        exact rd_of_row h1 _
      ·cases he
     ·cases he
    ·cases he
   ·cases he
  ·rename_i e l hk
   have := sv_str hv; subst this
   obtain ⟨i, d, z, e1, e2, e3, e4, e5, e6, e7⟩ := hC.info (ok_of_k hk (by simp))
   rw [hk] at e7
   have := desc_slice e7; subst this
   split at he
   ·rename_i hka hke
    rw [hka] at a7
    have := desc_str a7; subst this
    obtain ⟨i', d', z', f1, f2, f3, f4, f5, f6, f7⟩ := hC.info (ok_of_k hke (by simp))
    rw [hke] at f7
    have := desc_int f7; subst this
    split at he
    ·rename_i hl
     simp only [Option.some.injEq] at he; subst he
     have hs : (⟨⟨l⟩⟩ : ByteArray).size = l.length := rfl
     have hge := grownCap_ge w l.length 0 e
     have hlm := grownCap_le_maxLen w l.length 0 e (by unfold maxLen; omega)
     have hrow : (bytesRow ⟨⟨l⟩⟩ (grownCap w l.length 0 e)).toList = l.map (fun b => Value.int .u8 (b.toNat : Int)) ++ List.replicate (grownCap w l.length 0 e - l.length) (.int .u8 0) := by
      simp [bytesRow, hs]
     have hsz : (bytesRow ⟨⟨l⟩⟩ (grownCap w l.length 0 e)).size = grownCap w l.length 0 e * 1 := by
      have : (bytesRow ⟨⟨l⟩⟩ (grownCap w l.length 0 e)).size = (bytesRow ⟨⟨l⟩⟩ (grownCap w l.length 0 e)).toList.length := by simp
      rw [this, hrow]; simp; omega
     have hrun := run_bytes_of_string w A B e ⟨⟨l⟩⟩ a6 e6 f6
     rw [hs] at hrun
     have hnew := h.newS (w' := w.drew.alloc (.cells (bytesRow ⟨⟨l⟩⟩ (grownCap w l.length 0 e)) e ((bytesRow ⟨⟨l⟩⟩ (grownCap w l.length 0 e)).size, (bytesRow ⟨⟨l⟩⟩ (grownCap w l.length 0 e)).size + 1)))
      (sz := 1) (cap := grownCap w l.length 0 e) (xs := l.map byteAV) (cur := bytesRow ⟨⟨l⟩⟩ (grownCap w l.length 0 e)) (e := e) (Sn := fun _ => False) rfl rfl rfl rfl
      (fun o ho ⟨h1, _⟩ => by simp only at h1; omega) (by simpa using hge) hlm hsz (by intro d hd; obtain ⟨b, _, rfl⟩ := List.mem_map.1 hd; rfl)
      (by rw [hrow, List.take_left' (by simp)]; exact rvs_bytes l _) (fun _ h => h.elim) (fun _ h => h.elim) (fun _ _ h => h.elim) (fun _ h => h.elim)
     simp only [List.length_map] at hnew
     exact ⟨_, _, F, S, hrun, hnew.1, hnew.2⟩
    ·cases he
   ·cases he
  ·cases he
 ·cases he
end
section
variable {C : Cx} {w0 w : World} {F0 X F : Nat → Prop} {S : Nat → Nat → Prop} {s s1 : St} {tm : Nat → Value} {av : AV}
def bd (d : Nat) : Option AV → Option Nat
 | none => some d
 | some (.int _ n) => if 0 ≤ n then some n.toNat else none
 | some _ => none
def slc (C : Cx) (s : St) (T : TypeId) (x : AV) (lo hi : Option AV) : Option (AV × St) :=
 match (C.T T).k, x with
 | .str, .str l => match bd 0 lo, bd l.length hi with
   | some a, some b => if a ≤ b ∧ b ≤ l.length then some (.str ((l.take b).drop a), s) else none
   | _, _ => none
 | .slice e, .nils => match bd 0 lo, bd 0 hi with
   | some 0, some 0 => if (C.T e).ok = true then some (.nils, s) else none
   | _, _ => none
 | .slice e, .slice xs => match bd 0 lo, bd xs.length hi with
   | some a, some b => if a ≤ b ∧ b ≤ xs.length ∧ (C.T e).ok = true ∧ (∀ d ∈ xs, d.wd = (C.T e).sz) then some (.slice ((xs.take b).drop a), s) else none
   | _, _ => none
 | .slice e, .h y q => match AV.sub q (s y) with
   | some (.uslice sz xs) => match bd 0 lo, bd xs.length hi with
     | some 0, some b => if b ≤ xs.length ∧ (C.T e).ok = true then (match tk s (.h y q) with | some (_, s1) => some (.uslice sz (xs.take b), s1) | none => none) else none
     | _, _ => none
   | _ => none
 | _, _ => none
def OptSV (w : World) (F : Nat → Prop) (s : St) (tm : Nat → Value) : Option AV → Option Value → Prop
 | none, none => True
 | some d, some v => SV w F s tm d v (fun _ => False)
 | _, _ => False
theorem bd_some {d : Nat} {o : Option AV} {v : Option Value} (ho : OptSV w F s tm o v) {a : Nat} (h : bd d o = some a) : (o = none ∧ v = none ∧ a = d) ∨ ∃ k, v = some (.int k a) := by
 cases o with
 | none =>
   cases v with
   | none => simp [bd] at h; exact .inl ⟨rfl, rfl, h.symm⟩
   | some v => simp [OptSV] at ho
 | some x =>
   cases v with
   | none => simp [OptSV] at ho
   | some v =>
     simp only [OptSV] at ho
     cases x with
     | int k n =>
       have := sv_int ho; subst this
       simp only [bd] at h
       split at h
       ·rename_i hn
        simp only [Option.some.injEq] at h; subst h
        obtain ⟨m, rfl⟩ := Int.eq_ofNat_of_zero_le hn
        exact .inr ⟨k, rfl⟩
       ·cases h
     | _ => simp [bd] at h
theorem run_bounds {P : Program} {isS : Bool} {len cap a b : Nat} {lo hi : Option AV} {vlo vhi : Option Value} (hlo : OptSV w F s tm lo vlo) (hhi : OptSV w F s tm hi vhi) (ha : bd 0 lo = some a) (hb : bd len hi = some b) (hab : a ≤ b) (hbc : b ≤ cap) (_hlc : len ≤ cap) :
  (Instr.sliceBounds isS len cap vlo vhi none).run P w = .ok (a, b, cap) w := by
 rcases bd_some hlo ha with ⟨_, rfl, rfl⟩ | ⟨k, rfl⟩ <;> rcases bd_some hhi hb with ⟨_, rfl, rfl⟩ | ⟨k', rfl⟩ <;>
  simp [Instr.sliceBounds, Instr.sliceBound, asIntOf, hab, hbc]
theorem sliceAt_flat (hC : C.Ok) {T : TypeId} (hk : (C.T T).flat = true) (v : Value) (lo hi mx : Option Value) (w : World) : (Instr.sliceAt T v lo hi mx).run C.P w = (Instr.slice T v lo hi mx).run C.P w := by
 obtain ⟨i, d, z, e1, e2, e3, e4, e5, e6, e7⟩ := hC.info (ok_of_flat hk)
 have hne : ∀ n e, d ≠ .array n e := by
  clear e6
  unfold TI.flat at hk
  generalize (C.T T).k = kk at *
  cases kk <;> cases d <;> simp [okDesc] at e7 hk ⊢
 cases d <;> first | exact (hne _ _ rfl).elim | simp [Instr.sliceAt, run_underlying e6]
theorem flat_of_k {x : TI} {k : TK} (h : x.k = k) (hk : k ≠ .other) (hs : ∀ fs, k ≠ .struct fs) : x.flat = true := by
 unfold TI.flat; rw [h]; cases k <;> first | rfl | exact (hk rfl).elim | exact (hs _ rfl).elim
theorem RVs.split : ∀ (n : Nat) (xs : List AV) (cs : List Value) (S' : Nat → Prop), RVs w F xs cs S' → ∃ c1 c2 S1 S2, cs = c1 ++ c2 ∧ RVs w F (xs.take n) c1 S1 ∧ RVs w F (xs.drop n) c2 S2 ∧ (∀ b, S1 b → S' b) ∧ (∀ b, S2 b → S' b) ∧ (∀ b, S1 b → ¬ S2 b)
 | 0, xs, cs, S', h => ⟨[], cs, fun _ => False, S', rfl, by rw [List.take_zero, RVs], h, fun _ h => h.elim, fun _ h => h, fun _ h => h.elim⟩
 | n + 1, [], cs, S', h => by rw [RVs] at h; subst h; exact ⟨[], [], fun _ => False, fun _ => False, rfl, by rw [List.take_nil, RVs], by rw [List.drop_nil, RVs], fun _ h => h.elim, fun _ h => h.elim, fun _ h => h.elim⟩
 | n + 1, x :: xs, cs, S', h => by
   rw [RVs] at h
   obtain ⟨c1, c2, Sa, Sb, rfl, h1, h2, h3, h4, h5⟩ := h
   obtain ⟨d1, d2, S1, S2, rfl, g1, g2, g3, g4, g5⟩ := RVs.split n xs c2 Sb h2
   refine ⟨c1 ++ d1, d2, fun b => Sa b ∨ S1 b, S2, by simp, ?_, g2, ?_, fun b hb => h4 _ (g4 _ hb), ?_⟩
   ·rw [List.take_succ_cons, RVs]
    exact ⟨c1, d1, Sa, S1, rfl, h1, g1, fun _ h => .inl h, fun _ h => .inr h, fun b hb hc => h5 b hb (g3 b hc)⟩
   ·rintro b (hb | hb)
    ·exact h3 b hb
    ·exact h4 b (g3 b hb)
   ·rintro b (hb | hb) hc
    ·exact h5 b hb (g4 b hc)
    ·exact g5 b hb hc
theorem slc_good (hC : C.Ok) (h : RelX w0 F0 X F S s tm w) {T : TypeId} {x : AV} {v : Value} {lo hi : Option AV} {vlo vhi : Option Value} (hx : x.plain = true) (hv : SV w F s tm x v (fun _ => False)) (hlo : OptSV w F s tm lo vlo) (hhi : OptSV w F s tm hi vhi)
  (he : slc C s T x lo hi = some (av, s1)) : Good C w0 F0 X tm w (Instr.sliceAt T v vlo vhi none) av s1 := by
 unfold slc at he
 split at he
 ·rename_i l hk
  have := sv_str hv; subst this
  obtain ⟨i, d, z, e1, e2, e3, e4, e5, e6, e7⟩ := hC.info (ok_of_k hk (by simp))
  rw [hk] at e7
  have := desc_str e7; subst this
  split at he
  ·rename_i a b ha hb
   split at he
   ·rename_i hab
    simp only [Option.some.injEq, Prod.mk.injEq] at he
    obtain ⟨rfl, rfl⟩ := he
    refine Good.same h ?_ rfl (of_str _)
    rw [sliceAt_flat hC (flat_of_k hk (by simp) (by simp))]
    have hsz : (⟨⟨l⟩⟩ : ByteArray).size = l.length := rfl
    have hbounds := run_bounds (P := C.P) (isS := false) (len := l.length) (cap := l.length) hlo hhi ha hb hab.1 hab.2 (Nat.le_refl _)
    have hext : (⟨⟨l⟩⟩ : ByteArray).extract a b = ⟨⟨(l.take b).drop a⟩⟩ := by
     apply ByteArray.ext
     simp [ByteArray.data_extract, List.drop_take]
    simp [Instr.slice, run_underlying e6, hsz, hbounds, hext]
   ·cases he
  ·cases he
 ·rename_i e hk
  have := sv_nils hv; subst this
  obtain ⟨i, d, z, e1, e2, e3, e4, e5, e6, e7⟩ := hC.info (ok_of_k hk (by simp))
  rw [hk] at e7
  have := desc_slice e7; subst this
  split at he
  ·rename_i ha hb
   split at he
   ·rename_i hek
    obtain ⟨i', d', z', f1, f2, f3, f4, f5, f6, f7⟩ := hC.info hek
    simp only [Option.some.injEq, Prod.mk.injEq] at he
    obtain ⟨rfl, rfl⟩ := he
    have hbounds := run_bounds (P := C.P) (isS := true) (len := 0) (cap := 0) hlo hhi ha hb (Nat.le_refl _) (Nat.le_refl _) (Nat.le_refl _)
    refine Good.same h (v := .slice none 0 0) ?_ rfl hv
    rw [sliceAt_flat hC (flat_of_k hk (by simp) (by simp))]
    simp [Instr.slice, run_underlying e6, hbounds, run_sizeOf' f1, f2]
   ·cases he
  ·cases he
 ·rename_i e xs hk
  obtain ⟨i, d, z, e1, e2, e3, e4, e5, e6, e7⟩ := hC.info (ok_of_k hk (by simp))
  rw [hk] at e7
  have := desc_slice e7; subst this
  split at he
  ·rename_i a b ha hb
   split at he
   ·rename_i hab
    obtain ⟨hab1, hab2, hek, hwd⟩ := hab
    obtain ⟨i', d', z', f1, f2, f3, f4, f5, f6, f7⟩ := hC.info hek
    simp only [Option.some.injEq, Prod.mk.injEq] at he
    obtain ⟨rfl, rfl⟩ := he
    rcases sv_slice hv with ⟨rfl, ad, c, rfl, hcm, hac⟩ | ⟨b0, o, cap, ecs, sz, rfl, h1, h2, h3, h4, h5, h6⟩
    ·have hb0 : b = 0 := by simpa using hab2
     subst hb0
     have ha0 : a = 0 := by omega
     subst ha0
     have hbounds := run_bounds (P := C.P) (isS := true) (len := 0) (cap := c) hlo hhi ha hb (Nat.le_refl _) (Nat.zero_le _) (Nat.zero_le _)
     refine Good.same h (v := .slice ad 0 c) ?_ rfl ((SV.of_tree rfl).2 ⟨rfl, by rw [RV]; exact .inl ⟨rfl, ad, c, rfl, hcm, hac⟩⟩)
     rw [sliceAt_flat hC (flat_of_k hk (by simp) (by simp))]
     cases ad with
     | none =>
       have := hac rfl; subst this
       simp [Instr.slice, run_underlying e6, hbounds, run_sizeOf' f1, f2]
     | some ad => simp [Instr.slice, run_underlying e6, hbounds, run_sizeOf' f1, f2, Addr.add]
    ·have hbounds := run_bounds (P := C.P) (isS := true) (len := xs.length) (cap := cap) hlo hhi ha hb hab1 (Nat.le_trans hab2 h2) h2
     obtain ⟨c1, c2, S1, S2, rfl, g1, g2, g3, g4, g5⟩ := RVs.split b xs ecs _ h6
     obtain ⟨d1, d2, S3, S4, rfl, k1, k2, k3, k4, k5⟩ := RVs.split a (xs.take b) c1 _ g1
     have hl1 : d1.length = a * (C.T e).sz := by
      rw [RVs.length _ _ _ k1, wds_uniform _ (fun d hd => hwd d (List.mem_of_mem_take (List.mem_of_mem_take hd))), List.length_take, List.length_take]
      congr 1; omega
     have hlen : ((xs.take b).drop a).length = b - a := by simp; omega
     have hrd : Rd w b0 (o + a * (C.T e).sz) d2 := by
      rw [← hl1]
      have : Rd w b0 o (d1 ++ (d2 ++ c2)) := by simpa using h5
      exact this.seg
     have k2' : RVs w F ((xs.take b).drop a) d2 (fun _ => False) := RVs.mono (fun _ h => h) _ _ _ _ (fun b hb => (g3 _ (k4 _ hb)).elim) k2
     have mem : ∀ d ∈ (xs.take b).drop a, d.wd = sz := fun d hd => h4 d (List.mem_of_mem_take (List.mem_of_mem_drop hd))
     have run : (Instr.sliceAt T (.slice (some ⟨b0, o, none⟩) xs.length cap) vlo vhi none).run C.P w = .ok (.slice (if cap = a then some ⟨b0, o, none⟩ else some ⟨b0, o + a * (C.T e).sz, none⟩) (b - a) (cap - a)) w := by
      rw [sliceAt_flat hC (flat_of_k hk (by simp) (by simp))]
      simp [Instr.slice, run_underlying e6, hbounds, run_sizeOf' f1, f2, Addr.add_lit]
     refine ⟨_, w, F, S, run, h, .inl ⟨rfl, (SV.of_tree rfl).2 ⟨rfl, ?_⟩⟩⟩
     simp only [vc, vc1]
     rw [RV]
     by_cases hca : cap = a
     ·have hba : b = a := by omega
      subst hba
      have hnil : (xs.take b).drop b = [] := by simp
      rw [if_pos hca]
      rw [hnil] at k2' ⊢
      rw [RVs] at k2'
      subst k2'
      exact .inr ⟨b0, o, cap - b, [], sz, by simp, h1, Nat.zero_le _, by omega, by simp, fun j c hj => by simp at hj, by rw [RVs]⟩
     ·rw [if_neg hca]
      exact .inr ⟨b0, _, cap - a, d2, sz, by rw [hlen], h1, by rw [hlen]; omega, by omega, mem, hrd, k2'⟩
   ·cases he
  ·cases he
 ·rename_i e y q hk
  split at he
  ·rename_i sz xs hd
   split at he
   ·rename_i b ha hb
    split at he
    ·rename_i hbl
     split at he
     ·rename_i dd s2 ht
      simp only [Option.some.injEq, Prod.mk.injEq] at he
      obtain ⟨rfl, rfl⟩ := he
      obtain ⟨i, d, z, e1, e2, e3, e4, e5, e6, e7⟩ := hC.info (ok_of_k hk (by simp))
      rw [hk] at e7
      have := desc_slice e7; subst this
      obtain ⟨i', d', z', f1, f2, f3, f4, f5, f6, f7⟩ := hC.info hbl.2
      have hdd : dd = .uslice sz xs := by
       simp only [tk, hd, AV.plain] at ht
       simp at ht
       exact ht.1.symm
      subst hdd
      obtain ⟨S1, g0, g1, g2, Sn, g3, g4, g5, g6, g7, g8⟩ := tk_sv h rfl hv ht
      rw [vc_one g2, RV] at g3
      rcases g3 with ⟨rfl, a0, hv0⟩ | ⟨b0, cap, cur, e0, fr, S', hv0, k1, k2, k3, k4, k5, k6, k7, k8, k9, k10⟩
      ·simp at hv0; subst hv0
       have hb0 : b = 0 := by simpa using hbl.1
       subst hb0
       have hbounds := run_bounds (P := C.P) (isS := true) (len := 0) (cap := 0) hlo hhi ha hb (Nat.le_refl _) (Nat.le_refl _) (Nat.le_refl _)
       refine ⟨.slice a0 0 0, w, F, S1, ?_, g0, .inr ⟨rfl, rfl, fun _ => False, by simp only [vc, vc1]; rw [RV]; exact .inl ⟨rfl, _, rfl⟩, fun _ h => h.elim, fun _ h => h.elim, fun _ _ h => h.elim, fun _ h => h.elim⟩⟩
       rw [sliceAt_flat hC (flat_of_k hk (by simp) (by simp))]
       cases a0 <;> simp [Instr.slice, run_underlying e6, hbounds, run_sizeOf' f1, f2]
      ·simp at hv0; subst hv0
       have hbounds := run_bounds (P := C.P) (isS := true) (len := xs.length) (cap := cap) hlo hhi ha hb (Nat.zero_le _) (Nat.le_trans hbl.1 k4) k4
       have hlen : (xs.take b).length = b := by simp; omega
       have run : (Instr.sliceAt T (.slice (some ⟨b0, 0, none⟩) xs.length cap) vlo vhi none).run C.P w = .ok (.slice (some ⟨b0, 0, none⟩) b cap) w := by
        rw [sliceAt_flat hC (flat_of_k hk (by simp) (by simp))]
        simp [Instr.slice, run_underlying e6, hbounds, run_sizeOf' f1, f2, Addr.add_lit]
       refine ⟨_, w, F, S1, run, g0, .inr ⟨rfl, rfl, Sn, ?_, g4, g5, g6, g7⟩⟩
       simp only [vc, vc1]
       rw [RV]
       obtain ⟨c1, c2, Sa, Sb, hc, m1, m2, m3, m4, m5⟩ := RVs.split b xs _ _ k8
       refine .inr ⟨b0, cap, cur, e0, fr, S', by rw [hlen], k1, k2, k3, by omega, k5, k6, fun d hd => k7 d (List.mem_of_mem_take hd), ?_, k9, k10⟩
       have hl1 : c1.length = b * sz := by
        rw [RVs.length _ _ _ m1, wds_uniform _ (fun d hd => k7 d (List.mem_of_mem_take hd)), hlen]
       have : cur.toList.take ((xs.take b).length * sz) = c1 := by
        rw [hlen]
        have h2 : b * sz ≤ xs.length * sz := Nat.mul_le_mul_right _ hbl.1
        have : (cur.toList.take (xs.length * sz)).take (b * sz) = c1 := by rw [hc, List.take_left' hl1]
        rwa [List.take_take, Nat.min_eq_left h2] at this
       rw [this]
       exact RVs.mono (fun _ h => h) _ _ _ _ m3 m1
     ·cases he
    ·cases he
   ·cases he
  ·cases he
 ·cases he
end
section
variable {C : Cx} {w0 w : World} {F0 X F : Nat → Prop} {S : Nat → Nat → Prop} {s s1 : St} {tm : Nat → Value} {av : AV}
def Src (P : Program) (w : World) (size : Nat) (x : Value) (m : Nat) (news : List Value) : Prop :=
 ∀ w' : World, w'.heap = w.heap → (Builtin.lenOf x).run P w' = .ok m w' ∧ (Builtin.firstCells size m x).run P w' = .ok news.toArray w'
def notInt (d : TypeDesc) : Prop := (∃ e, d = .slice e) ∨ d = .string
theorem run_append_room' {P : Program} {T U ty e : TypeId} {du : TypeDesc} {i : TypeInfo} (ht : P.underlying T = some (.slice e)) (hu : P.underlying U = some du) (hdu : notInt du) (hi : P.info? e = some i)
  {x : Value} {m : Nat} {news : List Value} (hsrc : Src P w i.size x m news) {b n cap : Nat} {cur : Array Value} {e0 : TypeId} {fr : Nat × Nat} {l mid r : List Value} (hb : w.heap[b]? = some (.cells cur e0 fr)) (hf : nofrz fr cur.size)
  (hc : cur.toList = l ++ (mid ++ r)) (hl : l.length = n * i.size) (hm : mid.length = news.length) (hone : ∀ v ∈ news, Value.isOne v = true) (hroom : n + m ≤ cap) :
  ∃ w', (Builtin.append_ #[T, U] ty #[.slice (some ⟨b, 0, none⟩) n cap, x]).run P w = .ok (.slice (some ⟨b, 0, none⟩) (n + m) cap) w' ∧ w'.heap[b]? = some (.cells (l ++ (news ++ r)).toArray e0 fr) ∧
    (∀ c, c ≠ b → w'.heap[c]? = w.heap[c]?) ∧ w'.heap.size = w.heap.size ∧ w'.os = w.os ∧ w'.tape = w.tape ∧ w'.output = w.output := by
 obtain ⟨w', m1, m2⟩ := run_storeCells' (P := P) (b := b) (o := n * i.size) (e := e0) (fr := fr) news 0 cur w l mid r hb hf hc (by omega) hm hone
 refine ⟨w', ?_, m2⟩
 obtain ⟨h1, h2⟩ := hsrc w rfl
 rcases hdu with ⟨e', rfl⟩ | rfl <;> simp [Builtin.append_, run_underlying ht, run_underlying hu, run_sizeOf' hi, h1, h2, hroom, Addr.add_lit, m1]
theorem run_append_grow' {P : Program} {T U ty e : TypeId} {du : TypeDesc} {i : TypeInfo} {z : Value} (ht : P.underlying T = some (.slice e)) (hu : P.underlying U = some du) (hdu : notInt du) (hi : P.info? e = some i) (hz : i.zero = some z)
  {x : Value} {m : Nat} {news : List Value} (hsrc : Src P w i.size x m news) {base : Option Addr} {n cap : Nat} {olds : List Value} (hold : Src P w i.size (.slice base n cap) n olds) (hroom : ¬ n + m ≤ cap)
  (hn : n + m ≤ 9223372036854775807) (hbytes : (n + m) * i.bytes ≤ 140737488355328) :
  (Builtin.append_ #[T, U] ty #[.slice base n cap, x]).run P w = .ok (.slice (some ⟨w.heap.size, 0, none⟩) (n + m) (grownCap w (n + m) cap e))
   (w.drew.alloc (.cells (olds.toArray ++ news.toArray ++ Builtin.zeroCells z.cells (grownCap w (n + m) cap e - (n + m))) e)) := by
 have h1 := (hsrc w rfl).1
 have h2 := (hsrc w.drew rfl).2
 have h3 := (hold w.drew rfl).2
 have hcap := growslice_fits (need := n + m) (old := cap) (by omega) hbytes
 have hfit : ¬ (281474976710656 < Builtin.nextslicecap (n + m) cap * i.bytes) := by omega
 have hask : ∀ k (w : World), (askRoom k).run P w = .ok () w := by
  intro k w
  unfold askRoom
  split <;> rfl
 have hif : ¬ (9223372036854775807 < (n : Int) + (m : Int) ∧ i.bytes = 0) := by omega
 rcases hdu with ⟨e', rfl⟩ | rfl <;>
  ·simp [Builtin.append_, run_underlying ht, run_underlying hu, run_sizeOf' hi, run_typeInfo' hi, h1, hroom, hfit, Question.forced, hask]
   rw [if_neg hif, h3]
   simp [h2, run_zeroValue' hi hz, newRow, grownCap]
   have e1 : (olds ++ news).toArray = olds.toArray ++ news.toArray := by simp
   rw [e1, Array.append_assoc]
def appOk (C : Cx) (e U : TypeId) : Bool := match (C.T U).k, (C.T e).k with
 | .slice e', _ => e' == e
 | .str, .int .u8 => true
 | _, _ => false
def apd (C : Cx) (s : St) (T U : TypeId) (x y : AV) : Option (AV × St) :=
 match (C.T T).k with
 | .slice e => if (C.T e).ok = true ∧ (C.T e).zero.wd = (C.T e).sz ∧ (flat (C.T e).zero).isSome = true ∧ appOk C e U = true then
   match (match x with | .nils => some (AV.uslice (C.T e).sz [], s) | .h a q => tk s (.h a q) | _ => none) with
   | some (.uslice sz xs, s1) => if sz = (C.T e).sz then
     match (match pkO x.owner y with
      | .nils => some ([], s1)
      | .slice ys => some (ys, s1)
      | .str l => some (l.map byteAV, s1)
      | .h a q => match tk s1 (.h a q) with
        | some (.uslice _ ys, s2) => some (ys, s2)
        | _ => none
      | _ => none) with
     | some (ys, s2) => if (∀ d ∈ ys, d.wd = (C.T e).sz) ∧ (xs.length + ys.length) * (C.T e).bytes ≤ 140737488355328 ∧ xs.length + ys.length ≤ 9223372036854775807 then some (.uslice sz (xs ++ ys), s2) else none
     | none => none
     else none
   | _ => none
   else none
 | _ => none
theorem RVs.append {xs ys : List AV} {c1 c2 : List Value} {S1 S2 S' : Nat → Prop} (h1 : RVs w F xs c1 S1) (h2 : RVs w F ys c2 S2) (e1 : ∀ b, S1 b → S' b) (e2 : ∀ b, S2 b → S' b) (e3 : ∀ b, S1 b → ¬ S2 b) : RVs w F (xs ++ ys) (c1 ++ c2) S' := by
 induction xs generalizing c1 S1 S' with
 | nil => rw [RVs] at h1; subst h1; exact RVs.mono (fun _ h => h) _ _ _ _ e2 h2
 | cons x xs ih =>
   rw [RVs] at h1
   obtain ⟨ca, cb, Sa, Sb, rfl, g1, g2, g3, g4, g5⟩ := h1
   rw [List.cons_append, RVs]
   refine ⟨ca, cb ++ c2, Sa, fun b => Sb b ∨ S2 b, by simp, g1, ih g2 (fun b h => .inl h) (fun b h => .inr h) (fun b h => e3 b (g4 b h)), fun b h => e1 b (g3 b h), ?_, ?_⟩
   ·rintro b (h | h)
    ·exact e1 b (g4 b h)
    ·exact e2 b h
   ·rintro b h (h' | h')
    ·exact g5 b h h'
    ·exact e3 b (g3 b h) h'
theorem src_row {P : Program} {size m cap : Nat} {b o : Nat} {news : List Value} (hrd : Rd w b o news) (hl : news.length = m * size) : Src P w size (.slice (some ⟨b, o, none⟩) m cap) m news := by
 intro w' hw
 refine ⟨rfl, ?_⟩
 refine run_firstCells_some w' size m ⟨b, o, none⟩ m cap news hl (fun j v hj => ?_)
 rw [Addr.add_lit]
 have := hrd j v hj
 simpa [World.cell?, hw] using this
theorem src_nil {P : Program} {size cap : Nat} : Src P w size (.slice none 0 cap) 0 [] := by
 intro w' _
 exact ⟨rfl, by simp [Builtin.firstCells]⟩
theorem src_empty {P : Program} {size cap : Nat} (a : Option Addr) : Src P w size (.slice a 0 cap) 0 [] := by
 cases a with
 | none => exact src_nil
 | some a =>
   intro w' _
   exact ⟨rfl, run_firstCells_some w' size 0 a 0 cap [] (by simp) (fun j v hj => by simp at hj)⟩
theorem src_str {P : Program} (l : List UInt8) : Src P w 1 (.string ⟨⟨l⟩⟩) l.length (l.map fun b => .int .u8 (b.toNat : Int)) := by
 intro w' _
 refine ⟨rfl, ?_⟩
 have : (⟨⟨l⟩⟩ : ByteArray).extract 0 l.length = ⟨⟨l⟩⟩ := by
  apply ByteArray.ext
  simp [ByteArray.data_extract]
 simp [Builtin.firstCells, this]
theorem RVs.elems_wd {sz : Nat} {xs : List AV} {cs : List Value} {S' : Nat → Prop} (h : RVs w F xs cs S') (hw : ∀ d ∈ xs, d.wd = sz) : cs.length = xs.length * sz := by
 rw [RVs.length _ _ _ h, wds_uniform _ hw]
theorem RelX.turn (h : RelX w0 F0 X F S s tm w) {w' : World} {b : Nat} (hb : ∀ c, c ≠ b → w'.heap[c]? = w.heap[c]?) (hs : w'.heap.size = w.heap.size) (h1 : w'.os = w.os) (h2 : w'.tape = w.tape) (h3 : w'.output = w.output)
  (hF : ¬ F b) (hS : ∀ u, ¬ S u b) (h0 : X b ∨ w0.heap.size ≤ b) : RelX w0 F0 X F S s tm w' where
 F0F := h.F0F
 FF0 := h.FF0
 Flt := fun c hc => by rw [hs]; exact h.Flt c hc
 Slt := fun t c hc => by rw [hs]; exact h.Slt t c hc
 SF := h.SF
 SS := h.SS
 S0 := h.S0
 sv := fun t => SV.frame (Sx := S) (fun c hc => hb c (by rintro rfl; exact hF hc)) (fun _ h => h) (fun x c hc => hb c (by rintro rfl; exact hS x hc)) h.sv _ _ _ (fun c hc => hb c (by rintro rfl; exact hS t hc)) (h.sv t)
 old := fun c hlt hX => by
  rw [hb c ?_]
  ·exact h.old c hlt hX
  ·rintro rfl
   rcases h0 with h0 | h0
   ·exact hX h0
   ·omega
 size := by rw [hs]; exact h.size
 os := h1.trans h.os
 tape := h2.trans h.tape
 output := h3.trans h.output
theorem apd_good (hC : C.Ok) (h : RelX w0 F0 X F S s tm w) {T U ty : TypeId} {x y : AV} {vx vy : Value} (hx : SV w F s tm x vx (fun _ => False)) (hy : SV w F s tm y vy (fun _ => False))
  (he : apd C s T U x y = some (av, s1)) : Good C w0 F0 X tm w (Builtin.append_ #[T, U] ty #[vx, vy]) av s1 := by
 unfold apd at he
 split at he
 ·rename_i e hk
  obtain ⟨iT, d, zT, e1, e2, e3, e4, e5, e6, e7⟩ := hC.info (ok_of_k hk (by simp))
  rw [hk] at e7
  have := desc_slice e7; subst this
  split at he
  ·rename_i hcond
   obtain ⟨hek, hzw, hzf, hU⟩ := hcond
   obtain ⟨i, de, z, f1, f2, f3, f4, f5, f6, f7⟩ := hC.info hek
   obtain ⟨zc, hzc⟩ := Option.isSome_iff_exists.1 hzf
   have hzcells := f5 zc hzc
   have hzl : zc.length = (C.T e).sz := by
    have := RV.length _ _ _ ((RV.flat (w := w) (F := F) _).1 (C.T e).zero zc (fun _ => False) (Nat.le_refl _) hzc)
    rw [this, hzw]
   -- the second argument's type
   obtain ⟨du, hu, hdu⟩ : ∃ du, C.P.underlying U = some du ∧ notInt du := by
    unfold appOk at hU
    split at hU
    ·rename_i e' hk'
     obtain ⟨_, d', _, _, _, _, _, _, g6, g7⟩ := hC.info (ok_of_k hk' (by simp))
     rw [hk'] at g7
     exact ⟨d', g6, .inl ⟨_, desc_slice g7⟩⟩
    ·rename_i hk' _
     obtain ⟨_, d', _, _, _, _, _, _, g6, g7⟩ := hC.info (ok_of_k hk' (by simp))
     rw [hk'] at g7
     exact ⟨d', g6, .inr (desc_str g7)⟩
    ·cases hU
   split at he
   ·rename_i sz xs sa hbase
    split at he
    ·rename_i hsz
     subst hsz
     split at he
     ·rename_i ys sb hitems
      split at he
      ·rename_i hfin
       obtain ⟨hyw, hbytes, h63⟩ := hfin
       simp only [Option.some.injEq, Prod.mk.injEq] at he
       obtain ⟨rfl, rfl⟩ := he
       -- the base, taken
       obtain ⟨Sa, a0, Sn, a3, a4, a5, a6, a7, a8, a9, a10⟩ : ∃ Sa, RelX w0 F0 X F Sa sa tm w ∧ ∃ Sn, RV w F (.uslice (C.T e).sz xs) [vx] Sn ∧ (∀ b, Sn b → b < w.heap.size) ∧ (∀ b, Sn b → ¬ F b) ∧ (∀ u b, Sn b → ¬ Sa u b) ∧
         (∀ b, Sn b → X b ∨ w0.heap.size ≤ b) ∧ (∀ u b, Sa u b → S u b) ∧ (∀ b, Sn b → ∃ u, S u b) ∧ SV w F sa tm (pkO x.owner y) vy (fun _ => False) := by
        split at hbase
        ·simp only [Option.some.injEq, Prod.mk.injEq, AV.uslice.injEq, true_and] at hbase
         obtain ⟨rfl, rfl⟩ := hbase
         have := sv_nils hx; subst this
         exact ⟨S, h, fun _ => False, by rw [RV]; exact .inl ⟨rfl, _, rfl⟩, fun _ h => h.elim, fun _ h => h.elim, fun _ _ h => h.elim, fun _ h => h.elim, fun _ _ h => h, fun _ h => h.elim, hy⟩
        ·obtain ⟨S1, g0, g1, g2, Sn, g3, g4, g5, g6, g7, g8, g9, g10⟩ := tk_sv h rfl hx hbase
         rw [vc_one g2] at g3
         exact ⟨S1, g0, Sn, g3, g4, g5, g6, g7, g8, g9, g10 _ _ _ hy⟩
        ·cases hbase
       -- the items
       obtain ⟨Sb, b0, Sm, news, b1, b2, b3, b4, b5, b6, b7, b8⟩ : ∃ Sb, RelX w0 F0 X F Sb sb tm w ∧ ∃ Sm news, RVs w F ys news Sm ∧ Src C.P w i.size vy ys.length news ∧ (∀ b, Sm b → b < w.heap.size) ∧ (∀ b, Sm b → ¬ F b) ∧ (∀ u b, Sm b → ¬ Sb u b) ∧
         (∀ b, Sm b → X b ∨ w0.heap.size ≤ b) ∧ (∀ u b, Sb u b → Sa u b) ∧ (∀ b, Sm b → ∃ u, Sa u b) := by
        split at hitems
        ·rename_i hpk
         simp only [Option.some.injEq, Prod.mk.injEq] at hitems
         obtain ⟨rfl, rfl⟩ := hitems
         rw [hpk] at a10
         have := sv_nils a10; subst this
         exact ⟨Sa, a0, fun _ => False, [], by rw [RVs], src_nil, fun _ h => h.elim, fun _ h => h.elim, fun _ _ h => h.elim, fun _ h => h.elim, fun _ _ h => h, fun _ h => h.elim⟩
        ·rename_i zs hpk
         simp only [Option.some.injEq, Prod.mk.injEq] at hitems
         obtain ⟨rfl, rfl⟩ := hitems
         rw [hpk] at a10
         rcases sv_slice a10 with ⟨rfl, ad, cc, rfl, _, hac⟩ | ⟨b, o, cap, ecs, sz', rfl, k1, k2, k3, k4, k5, k6⟩
         ·exact ⟨Sa, a0, fun _ => False, [], by rw [RVs], src_empty ad, fun _ h => h.elim, fun _ h => h.elim, fun _ _ h => h.elim, fun _ h => h.elim, fun _ _ h => h, fun _ h => h.elim⟩
         ·exact ⟨Sa, a0, fun _ => False, ecs, k6, src_row k5 (by rw [f2]; exact RVs.elems_wd k6 hyw), fun _ h => h.elim, fun _ h => h.elim, fun _ _ h => h.elim, fun _ h => h.elim, fun _ _ h => h, fun _ h => h.elim⟩
        ·rename_i l hpk
         simp only [Option.some.injEq, Prod.mk.injEq] at hitems
         obtain ⟨rfl, rfl⟩ := hitems
         rw [hpk] at a10
         have := sv_str a10; subst this
         have hsz1 : l ≠ [] → i.size = 1 := by
          intro hl
          cases l with
          | nil => exact (hl rfl).elim
          | cons b l => rw [f2, ← hyw (byteAV b) (by simp)]; rfl
         by_cases hl : l = []
         ·subst hl
          refine ⟨Sa, a0, fun _ => False, [], by simp only [List.map_nil]; rw [RVs], ?_, fun _ h => h.elim, fun _ h => h.elim, fun _ _ h => h.elim, fun _ h => h.elim, fun _ _ h => h, fun _ h => h.elim⟩
          intro w' _
          exact ⟨rfl, by simp [Builtin.firstCells, ByteArray.extract]; rfl⟩
         ·refine ⟨Sa, a0, fun _ => False, _, rvs_bytes l _, ?_, fun _ h => h.elim, fun _ h => h.elim, fun _ _ h => h.elim, fun _ h => h.elim, fun _ _ h => h, fun _ h => h.elim⟩
          rw [hsz1 hl, List.length_map]
          exact src_str l
        ·rename_i a q hpk
         split at hitems
         ·rename_i sz2 zs s2 ht
          simp only [Option.some.injEq, Prod.mk.injEq] at hitems
          obtain ⟨rfl, rfl⟩ := hitems
          rw [hpk] at a10
          obtain ⟨S2, g0, g1, g2, Sm, g3, g4, g5, g6, g7, g8, g9, g10⟩ := tk_sv a0 rfl a10 ht
          rw [vc_one g2, RV] at g3
          rcases g3 with ⟨rfl, ag, hv0⟩ | ⟨b, cap, cur, e0, fr, S', hv0, k1, k2, k3, k4, k5, k6, k7, k8, k9, k10⟩
          ·simp at hv0; subst hv0
           exact ⟨S2, g0, fun _ => False, [], by rw [RVs], (src_empty ag), fun _ h => h.elim, fun _ h => h.elim, fun _ _ h => h.elim, fun _ h => h.elim, g8, fun _ h => h.elim⟩
          ·simp at hv0; subst hv0
           refine ⟨S2, g0, S', _, k8, src_row (rd_of_row k2 _) ?_, fun c hc => g4 c (k9 c hc), fun c hc => g5 c (k9 c hc), fun u c hc => g6 u c (k9 c hc), fun c hc => g7 c (k9 c hc), g8, fun c hc => g9 c (k9 c hc)⟩
           rw [f2]; exact RVs.elems_wd k8 hyw
         ·cases hitems
        ·cases hitems
       have hnl : news.length = ys.length * (C.T e).sz := RVs.elems_wd b1 hyw
       have disj : ∀ c, Sn c → ¬ Sm c := fun c h1 h2 => by obtain ⟨u, hu⟩ := b8 c h2; exact a6 u c h1 hu
       have hab : ∀ u c, Sn c → ¬ Sb u c := fun u c h1 h2 => a6 u c h1 (b7 u c h2)
       -- a new row
       have grow : ∀ (base : Option Addr) (cap : Nat) (olds : List Value) (Sx : Nat → Prop), vx = .slice base xs.length cap → Src C.P w i.size (.slice base xs.length cap) xs.length olds → RVs w F xs olds Sx → (∀ d ∈ xs, d.wd = (C.T e).sz) → (∀ c, Sx c → Sn c) → ¬ xs.length + ys.length ≤ cap →
         Good C w0 F0 X tm w (Builtin.append_ #[T, U] ty #[vx, vy]) (.uslice (C.T e).sz (xs ++ ys)) sb := by
        intro base cap olds Sx hvx hold hox hxw hsub hroom
        subst hvx
        have hr := run_append_grow' (ty := ty) e6 hu hdu f1 f4 b2 hold hroom h63 (by rw [f3]; exact hbytes)
        have hge := grownCap_ge w (xs.length + ys.length) cap e
        have hcm := grownCap_le_maxLen w (xs.length + ys.length) cap e (by unfold maxLen; omega)
        have hol := RVs.elems_wd hox hxw
        have hboth : RVs w F (xs ++ ys) (olds ++ news) (fun c => Sx c ∨ Sm c) := RVs.append hox b1 (fun _ h => .inl h) (fun _ h => .inr h) (fun c h1 h2 => disj c (hsub c h1) h2)
        have hblen : (olds ++ news).length = (xs ++ ys).length * (C.T e).sz := by simp [hol, hnl, Nat.add_mul]
        have hnew := b0.newS (w' := w.drew.alloc (.cells (olds.toArray ++ news.toArray ++ Builtin.zeroCells z.cells (grownCap w (xs.length + ys.length) cap e - (xs.length + ys.length))) e))
         (sz := (C.T e).sz) (cap := grownCap w (xs.length + ys.length) cap e) (xs := xs ++ ys) (e := e) (fr := (0, 0)) (Sn := fun c => Sx c ∨ Sm c) rfl rfl rfl rfl
         (fun o _ ⟨_, h2⟩ => absurd h2 (Nat.not_lt_zero _)) (by simpa using hge) hcm
         (by
          simp only [Array.size_append, List.size_toArray, size_zeroCells, hzcells, hol, hnl, hzl, ← Nat.add_mul]
          congr 1; omega)
         (by
          intro d hd
          rcases List.mem_append.1 hd with hd | hd
          ·exact hxw d hd
          ·exact hyw d hd)
         (by
          simp only [Array.toList_append]
          rw [List.take_left' hblen]
          exact hboth)
         (by rintro c (hc | hc); exact a4 c (hsub c hc); exact b3 c hc) (by rintro c (hc | hc); exact a5 c (hsub c hc); exact b4 c hc) (by rintro u c (hc | hc); exact hab u c (hsub c hc); exact b5 u c hc) (by rintro c (hc | hc); exact a7 c (hsub c hc); exact b6 c hc)
        refine ⟨_, _, F, Sb, hr, hnew.1, ?_⟩
        have := hnew.2
        simpa using this
       rw [RV] at a3
       rcases a3 with ⟨rfl, ab, hv0⟩ | ⟨b, cap, cur, e0, fr, S', hv0, k1, k2, k3, k4, k5, k6, k7, k8, k9, k10⟩
       ·simp at hv0; subst hv0
        by_cases hy0 : ys = []
        ·subst hy0
         have hn0 : news = [] := by simpa using hnl
         subst hn0
         refine ⟨.slice ab 0 0, w, F, Sb, ?_, b0, .inr ⟨rfl, rfl, fun _ => False, by simp only [vc, vc1]; rw [RV]; exact .inl ⟨rfl, _, rfl⟩, fun _ h => h.elim, fun _ h => h.elim, fun _ _ h => h.elim, fun _ h => h.elim⟩⟩
         obtain ⟨h1, h2⟩ := b2 w rfl
         cases ab <;> rcases hdu with ⟨e', rfl⟩ | rfl <;> simp at h1 h2 <;> simp [Builtin.append_, run_underlying e6, run_underlying hu, run_sizeOf' f1, h1, h2, storeCells]
        ·exact grow ab 0 [] (fun _ => False) rfl (src_empty ab) (by rw [RVs]) (by simp) (fun _ h => h.elim) (by
          cases ys with
          | nil => exact (hy0 rfl).elim
          | cons y ys => simp)
       ·simp at hv0; subst hv0
        by_cases hroom : xs.length + ys.length ≤ cap
        ·skip
         have hol := RVs.elems_wd k8 k7
         have hlen : cur.toList.length = cap * (C.T e).sz := by simp [k6]
         have hle : (xs.length + ys.length) * (C.T e).sz ≤ cap * (C.T e).sz := Nat.mul_le_mul_right _ hroom
         rw [Nat.add_mul] at hle
         have hcur : cur.toList = cur.toList.take (xs.length * (C.T e).sz) ++ ((cur.toList.drop (xs.length * (C.T e).sz)).take news.length ++ (cur.toList.drop (xs.length * (C.T e).sz)).drop news.length) := by
          rw [List.take_append_drop, List.take_append_drop]
         obtain ⟨w', m1, m2, m3, m4, m5, m6, m7⟩ := run_append_room' (ty := ty) (n := xs.length) (m := ys.length) (cap := cap) e6 hu hdu f1 b2 k2 k3 hcur (by rw [f2]; exact hol) (by simp [hlen, hnl]; omega) (RVs.ones _ _ _ b1) hroom
         have hb0' := b0.turn m3 m4 m5 m6 m7 (a5 b k1) (fun u hu => hab u b k1 hu) (a7 b k1)
         have hFb : ∀ c, F c → w'.heap[c]? = w.heap[c]? := fun c hc => m3 c (by rintro rfl; exact a5 _ k1 hc)
         refine ⟨_, w', F, Sb, m1, hb0', .inr ⟨rfl, rfl, fun c => Sn c ∨ Sm c, ?_, ?_, ?_, ?_, ?_⟩⟩
         ·simp only [vc, vc1]
          rw [RV]
          have hnewl : (cur.toList.take (xs.length * (C.T e).sz) ++ (news ++ (cur.toList.drop (xs.length * (C.T e).sz)).drop news.length)).toArray.size = cur.size := by
           have : cur.size = cur.toList.length := by simp
           rw [this]
           conv => rhs; rw [hcur]
           simp [hlen, hnl]; omega
          refine .inr ⟨b, cap, _, e0, fr, fun c => S' c ∨ Sm c, by simp, .inl k1, m2, by rw [hnewl]; exact k3, by simpa using hroom, k5, by rw [hnewl]; exact k6, ?_, ?_, ?_, ?_⟩
          ·intro d hd
           rcases List.mem_append.1 hd with hd | hd
           ·exact k7 d hd
           ·exact hyw d hd
          ·have hx' := RVs.frame hFb _ _ _ (fun c hc => m3 c (by rintro rfl; exact k10 hc)) k8
           have hy' := RVs.frame hFb _ _ _ (fun c hc => m3 c (by rintro rfl; exact disj _ k1 hc)) b1
           have : ((cur.toList.take (xs.length * (C.T e).sz) ++ (news ++ (cur.toList.drop (xs.length * (C.T e).sz)).drop news.length)).toArray.toList.take ((xs ++ ys).length * (C.T e).sz)) = cur.toList.take (xs.length * (C.T e).sz) ++ news := by
            simp only []
            rw [← List.append_assoc]
            exact List.take_left' (by rw [List.length_append, hol, hnl, List.length_append, Nat.add_mul])
           rw [this]
           exact RVs.append hx' hy' (fun _ h => .inl h) (fun _ h => .inr h) (fun c h1 h2 => disj c (k9 c h1) h2)
          ·rintro c (hc | hc)
           ·exact .inl (k9 c hc)
           ·exact .inr hc
          ·rintro (hc | hc)
           ·exact k10 hc
           ·exact disj b k1 hc
         ·rw [m4]; rintro c (hc | hc); exact a4 c hc; exact b3 c hc
         ·rintro c (hc | hc); exact a5 c hc; exact b4 c hc
         ·rintro u c (hc | hc); exact hab u c hc; exact b5 u c hc
         ·rintro c (hc | hc); exact a7 c hc; exact b6 c hc
        ·exact grow (some ⟨b, 0, none⟩) cap _ S' rfl (src_row (rd_of_row k2 _) (by rw [f2]; exact RVs.elems_wd k8 k7)) k8 k7 k9 hroom
      ·cases he
     ·cases he
    ·cases he
   ·cases he
  ·cases he
 ·cases he
end
end Go.Fw
