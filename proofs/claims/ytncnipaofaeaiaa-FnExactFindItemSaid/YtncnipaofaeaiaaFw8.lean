/- Part of a proof that a law returns true for every input. No condition. -/
import Derived.Test.YtncnipaofaeaiaaFw7
import Derived.Test.YtncnipaofaeaiaaSh
import Derived.Laws.IdiomStrings
import Derived.Laws.Strings
import Derived.LaidEql
import Derived.WideLaws
namespace Go.Fw

section
variable {C : Cx} {w0 w : World} {F0 X F : Nat → Prop} {S : Nat → Nat → Prop} {s s1 : St} {tm : Nat → Value} {av : AV}

theorem sv_int {k : IntKind} {n : Int} {v : Value} {S' : Nat → Prop} (h : SV w F s tm (.int k n) v S') : v = .int k n := by
  have h' := (SV.of_tree rfl).1 h
  rw [RV, vc_one h'.1] at h'
  simpa using h'.2
theorem sv_bool {b : Bool} {v : Value} {S' : Nat → Prop} (h : SV w F s tm (.bool b) v S') : v = .bool b := by
  have h' := (SV.of_tree rfl).1 h
  rw [RV, vc_one h'.1] at h'
  simpa using h'.2
theorem sv_str {b : List UInt8} {v : Value} {S' : Nat → Prop} (h : SV w F s tm (.str b) v S') : v = .string ⟨⟨b⟩⟩ := by
  have h' := (SV.of_tree rfl).1 h
  rw [RV, vc_one h'.1] at h'
  simpa using h'.2
theorem sv_nilp {v : Value} {S' : Nat → Prop} (h : SV w F s tm .nilp v S') : v = .pointer none := by
  have h' := (SV.of_tree rfl).1 h
  rw [RV, vc_one h'.1] at h'
  simpa using h'.2
theorem sv_nils {v : Value} {S' : Nat → Prop} (h : SV w F s tm .nils v S') : v = .slice none 0 0 := by
  have h' := (SV.of_tree rfl).1 h
  rw [RV, vc_one h'.1] at h'
  simpa using h'.2
theorem sv_anyb {v : Value} {S' : Nat → Prop} (h : SV w F s tm .anyb v S') : ∃ b, v = .bool b := by
  have h' := (SV.of_tree rfl).1 h
  rw [RV, vc_one h'.1] at h'
  simpa using h'.2
theorem of_int (k : IntKind) (n : Int) : SV w F s tm (.int k n) (.int k n) (fun _ => False) := (SV.of_tree rfl).2 ⟨rfl, by rw [RV]; rfl⟩
theorem of_bool (b : Bool) : SV w F s tm (.bool b) (.bool b) (fun _ => False) := (SV.of_tree rfl).2 ⟨rfl, by rw [RV]; rfl⟩
theorem of_str (b : List UInt8) : SV w F s tm (.str b) (.string ⟨⟨b⟩⟩) (fun _ => False) := (SV.of_tree rfl).2 ⟨rfl, by rw [RV]; rfl⟩
theorem of_anyb (b : Bool) : SV w F s tm .anyb (.bool b) (fun _ => False) := (SV.of_tree rfl).2 ⟨rfl, by rw [RV]; exact ⟨b, rfl⟩⟩

/-- Arithmetic and comparisons of integers. -/
def bnI (op : BinOp) (k : IntKind) (a : Int) (k' : IntKind) (b : Int) : Option AV :=
  match op with
  | .shl => if b < 0 then none else some (.int k (k.wrap (a * 2 ^ (min b.toNat k.bits))))
  | .shr => if b < 0 then none else some (.int k (a.fdiv (2 ^ (min b.toNat k.bits))))
  | .add => if k = k' then some (.int k (k.wrap (a + b))) else none
  | .sub => if k = k' then some (.int k (k.wrap (a - b))) else none
  | .mul => if k = k' then some (.int k (k.wrap (a * b))) else none
  | .quo => if k = k' ∧ b ≠ 0 then some (.int k (k.wrap (a.tdiv b))) else none
  | .rem => if k = k' ∧ b ≠ 0 then some (.int k (a.tmod b)) else none
  | .eql => if k = k' then some (.bool (a == b)) else none
  | .neq => if k = k' then some (.bool (a != b)) else none
  | .lss => if k = k' then some (.bool (decide (a < b))) else none
  | .leq => if k = k' then some (.bool (decide (a ≤ b))) else none
  | .gtr => if k = k' then some (.bool (decide (b < a))) else none
  | .geq => if k = k' then some (.bool (decide (b ≤ a))) else none
  | .and => if k = k' then some (.int k (bitsOf .and k a b)) else none
  | .or => if k = k' then some (.int k (bitsOf .or k a b)) else none
  | .xor => if k = k' then some (.int k (bitsOf .xor k a b)) else none
  | .andNot => if k = k' then some (.int k (bitsOf .andNot k a b)) else none

/-- Strings. -/
def bnS (op : BinOp) (a b : List UInt8) : Option AV :=
  match op with
  | .add => if a.length + b.length ≤ 9223372036854775807 then some (.str (a ++ b)) else none
  | .eql => some (.bool (a == b))
  | .neq => some (.bool !(a == b))
  | .lss => some (.bool (Op.bytesLess a b))
  | .leq => some (.bool (Op.bytesLess a b || a == b))
  | .gtr => some (.bool !(Op.bytesLess a b || a == b))
  | .geq => some (.bool !(Op.bytesLess a b))
  | _ => none

/-- Is a slice nil? None within: not known. -/
def nilS (s : St) : AV → Option (Option Bool)
  | .nils => some (some true)
  | .slice xs => some (if xs = [] then none else some false)
  | .h x q => match AV.sub q (s x) with
    | some (.uslice _ xs) => some (if xs = [] then none else some false)
    | _ => none
  | _ => none

/-- Is a pointer nil? -/
def nilP (s : St) : AV → Option Bool
  | .nilp => some true
  | .ref _ => some false
  | .h x q => match AV.sub q (s x) with
    | some (.ubox _) => some false
    | _ => none
  | _ => none

def nilAV (neg : Bool) : Option Bool → AV
  | some b => .bool (b != neg)
  | none => .anyb

/-- A binary operation. -/
def bn (C : Cx) (s : St) (op : BinOp) (T : TypeId) (x y : AV) : Option AV :=
  match x, y with
  | .int k a, .int k' b => bnI op k a k' b
  | .str a, .str b => bnS op a b
  | .bool a, .bool b => match op, (C.T T).k with
    | .eql, .bool => some (.bool (a == b))
    | .neq, .bool => some (.bool !(a == b))
    | _, _ => none
  | x, .nils => match op, (C.T T).k with
    | .eql, .slice _ => (nilS s x).map (nilAV false)
    | .neq, .slice _ => (nilS s x).map (nilAV true)
    | _, _ => none
  | x, .nilp => match op, (C.T T).k with
    | .eql, .ptr _ => (nilP s x).map fun b => .bool b
    | .neq, .ptr _ => (nilP s x).map fun b => .bool !b
    | _, _ => none
  | _, _ => none

theorem bnI_run {P : Program} {op : BinOp} {T : TypeId} {k k' : IntKind} {a b : Int} (he : bnI op k a k' b = some av) (w : World) :
    ∃ v, (binOp op T (.int k a) (.int k' b)).run P w = .ok v w ∧ SV w F s tm av v (fun _ => False) := by
  unfold bnI at he
  cases op <;> simp only at he <;> split at he <;> first | (cases he; done) | skip
  all_goals
    rename_i hc
    simp only [Option.some.injEq] at he
    subst he
  all_goals first
    | (subst hc; simp only [binOp_add, binOp_sub, binOp_mul, binOp_eql, binOp_neq, binOp_lss, binOp_leq, binOp_gtr, binOp_geq, binOp_and, binOp_or, binOp_xor, binOp_andNot, Op.intArith, Op.intBits, Sem.run_pure, Result.ok.injEq, and_true, exists_eq_left']
       first | exact of_int _ _ | exact of_bool _)
    | (obtain ⟨rfl, h0⟩ := hc
       simp only [binOp_quo, binOp_rem, Op.intDiv, h0, if_false, Sem.run_pure, Result.ok.injEq, and_true, exists_eq_left']
       exact of_int _ _)
    | (simp only [binOp_shl, binOp_shr, Op.shift, hc, if_false, Sem.run_pure, Result.ok.injEq, and_true, exists_eq_left']
       exact of_int _ _)

theorem ba_toList (a : List UInt8) : (⟨⟨a⟩⟩ : ByteArray).toList = a := ByteArray.toList_eq _
theorem ba_append (a b : List UInt8) : (⟨⟨a⟩⟩ : ByteArray) ++ (⟨⟨b⟩⟩ : ByteArray) = ⟨⟨a ++ b⟩⟩ := by
  apply ByteArray.ext
  simp [ByteArray.data_append]

theorem bnS_run {P : Program} {op : BinOp} {T : TypeId} {a b : List UInt8} (he : bnS op a b = some av) (w : World) :
    ∃ v, (binOp op T (.string ⟨⟨a⟩⟩) (.string ⟨⟨b⟩⟩)).run P w = .ok v w ∧ SV w F s tm av v (fun _ => False) := by
  have hb : ∀ op, binOp op T (.string ⟨⟨a⟩⟩) (.string ⟨⟨b⟩⟩) = Op.stringOp op ⟨⟨a⟩⟩ ⟨⟨b⟩⟩ := by intro op; cases op <;> rfl
  rw [hb]
  unfold bnS at he
  cases op <;> simp only [Option.some.injEq] at he <;> first | (cases he; done) | skip
  case add =>
    split at he
    · rename_i hl
      simp only [Option.some.injEq] at he; subst he
      have hs : ((ByteArray.size ⟨⟨a⟩⟩ + ByteArray.size ⟨⟨b⟩⟩ : Nat) : Int) ≤ 9223372036854775807 := by
        show ((a.length + b.length : Nat) : Int) ≤ _
        omega
      refine ⟨.string ⟨⟨a ++ b⟩⟩, ?_, of_str _⟩
      simp only [Op.stringOp, IntKind.max_i64]
      rw [if_neg (by omega), ba_append]
      rfl
    · cases he
  all_goals
    subst he
    simp only [Op.stringOp, ba_toList, Sem.run_pure, Result.ok.injEq, and_true, exists_eq_left']
    exact of_bool _


theorem h_slice (h : RelX w0 F0 X F S s tm w) {v : Value} {y : Nat} {q : List Nat} (hv : SV w F s tm (.h y q) v (fun _ => False)) {sz : Nat} {xs : List AV} (hd : AV.sub q (s y) = some (.uslice sz xs)) :
    (xs = [] ∧ v = .slice none 0 0) ∨ ∃ b cap cur e fr, v = .slice (some ⟨b, 0, none⟩) xs.length cap ∧ w.heap[b]? = some (.cells cur e fr) ∧ nofrz fr cur.size ∧ xs.length ≤ cap ∧ cap ≤ maxLen ∧ cur.size = cap * sz ∧ (∀ d ∈ xs, d.wd = sz) ∧
      ∃ S', RVs w F xs (cur.toList.take (xs.length * sz)) S' ∧ (∀ c, S' c → S y c) ∧ S y b := by
  rw [SV] at hv
  obtain ⟨dcs, a, g1, g2, g3⟩ := hv _ hd rfl
  have hs : Value.isOne v = true := g3
  rw [vc_one hs] at g2; subst g2
  have hx := h.sv y
  rw [SV.of_tree (tree_of_sub hd (.inl rfl))] at hx
  obtain ⟨dcs', a', Sc, Sd, k0, k1, k2, k3, k4, k5⟩ := ctx q (s y) (vc (tm y)) (S y) none _ hx.2 hd
  rw [k0] at g1
  simp only [Option.some.injEq, Prod.mk.injEq, true_and] at g1
  obtain ⟨rfl, rfl⟩ := g1
  rw [RV] at k4
  rcases k4 with ⟨rfl, h2⟩ | ⟨b, cap, cur, e2, fr, S2, e3, e4, e5, e6, e7, e8, e9, e10, e11, e12, e13⟩
  · simp at h2; exact .inl ⟨rfl, h2⟩
  · simp at e3
    exact .inr ⟨b, cap, cur, e2, fr, e3, e5, e6, e7, e8, e9, e10, S2, e11, fun c hc => k2 _ (e12 c hc), k2 _ e4⟩

theorem h_box (h : RelX w0 F0 X F S s tm w) {v : Value} {y : Nat} {q : List Nat} (hv : SV w F s tm (.h y q) v (fun _ => False)) {d : AV} (hd : AV.sub q (s y) = some (.ubox d)) :
    ∃ b cur e fr, v = .pointer (some ⟨b, 0, none⟩) ∧ w.heap[b]? = some (.cells cur e fr) := by
  rw [SV] at hv
  obtain ⟨dcs, a, g1, g2, g3⟩ := hv _ hd rfl
  have hs : Value.isOne v = true := g3
  rw [vc_one hs] at g2; subst g2
  have hx := h.sv y
  rw [SV.of_tree (tree_of_sub hd (.inl rfl))] at hx
  obtain ⟨dcs', a', Sc, Sd, k0, k1, k2, k3, k4, k5⟩ := ctx q (s y) (vc (tm y)) (S y) none _ hx.2 hd
  rw [k0] at g1
  simp only [Option.some.injEq, Prod.mk.injEq, true_and] at g1
  obtain ⟨rfl, rfl⟩ := g1
  rw [RV] at k4
  obtain ⟨b, cur, e2, fr, S2, e3, e4, e5, _⟩ := k4
  simp at e3
  exact ⟨b, cur, e2, fr, e3, e5⟩

theorem eq_slice {P : Program} {T e : TypeId} (ht : P.underlying T = some (.slice e)) (w : World) : ∀ d, (Op.equalIn (d + 1) T (.slice none 0 0) (.slice none 0 0)).run P w = .ok true w ∧
    ∀ a n c, (Op.equalIn (d + 1) T (.slice (some a) n c) (.slice none 0 0)).run P w = .ok false w := by
  intro d
  refine ⟨by simp [Op.equalIn, run_underlying ht], fun a n c => by simp [Op.equalIn, run_underlying ht]⟩

theorem eq_ptr {P : Program} {T e : TypeId} (ht : P.underlying T = some (.pointer e)) (w : World) : ∀ d, (Op.equalIn (d + 1) T (.pointer none) (.pointer none)).run P w = .ok true w ∧
    ∀ a, (Op.equalIn (d + 1) T (.pointer (some a)) (.pointer none)).run P w = .ok false w := by
  intro d
  refine ⟨by simp [Op.equalIn, run_underlying ht], fun a => by simp [Op.equalIn, run_underlying ht]⟩

theorem eq_bool {P : Program} {T : TypeId} (ht : P.underlying T = some .bool) (w : World) : ∀ d a b, (Op.equalIn (d + 1) T (.bool a) (.bool b)).run P w = .ok (a == b) w := by
  intro d a b
  simp [Op.equalIn, run_underlying ht]

theorem nilS_run (h : RelX w0 F0 X F S s tm w) {x : AV} {v : Value} (hv : SV w F s tm x v (fun _ => False)) {T e : TypeId} {r : Option Bool} (hr : nilS s x = some r) (ht : C.P.underlying T = some (.slice e)) :
    ∃ b, (Op.equal T v (.slice none 0 0)).run C.P w = .ok b w ∧ (∀ b', r = some b' → b' = b) ∧ Value.isOne v = true ∧ ∃ a n c, v = .slice a n c := by
  have e1 := fun a n c => (eq_slice ht w 9999).2 a n c
  have e0 := (eq_slice ht w 9999).1
  cases x with
  | nils =>
    have := sv_nils hv; subst this
    simp [nilS] at hr; subst hr
    exact ⟨true, e0, by simp, rfl, _, _, _, rfl⟩
  | slice xs =>
    have h' := (SV.of_tree rfl).1 hv
    rw [RV, vc_one h'.1] at h'
    simp only [nilS, Option.some.injEq] at hr
    obtain ⟨_, ⟨rfl, a, c, h2, _, hac⟩ | ⟨b, o, cap, ecs, sz, h2, h3⟩⟩ := h'
    · simp at h2 hr; subst h2; subst hr
      cases a with
      | none =>
        have := hac rfl; subst this
        exact ⟨true, e0, by simp, rfl, _, _, _, rfl⟩
      | some a => exact ⟨false, e1 _ _ _, by simp, rfl, _, _, _, rfl⟩
    · simp at h2; subst h2
      refine ⟨false, e1 _ _ _, ?_, rfl, _, _, _, rfl⟩
      subst hr
      split <;> simp
  | h y q =>
    simp only [nilS] at hr
    split at hr
    · rename_i sz xs hd
      simp only [Option.some.injEq] at hr
      rcases h_slice h hv hd with ⟨rfl, rfl⟩ | ⟨b, cap, cur, e2, fr, rfl, _⟩
      · simp at hr; subst hr
        exact ⟨true, e0, by simp, rfl, _, _, _, rfl⟩
      · refine ⟨false, e1 _ _ _, ?_, rfl, _, _, _, rfl⟩
        subst hr
        split <;> simp
    · cases hr
  | _ => simp [nilS] at hr

theorem nilP_run (h : RelX w0 F0 X F S s tm w) {x : AV} {v : Value} (hv : SV w F s tm x v (fun _ => False)) {T e : TypeId} {r : Bool} (hr : nilP s x = some r) (ht : C.P.underlying T = some (.pointer e)) :
    (Op.equal T v (.pointer none)).run C.P w = .ok r w ∧ ∃ a, v = .pointer a := by
  have e1 := fun a => (eq_ptr ht w 9999).2 a
  have e0 := (eq_ptr ht w 9999).1
  cases x with
  | nilp =>
    have := sv_nilp hv; subst this
    simp [nilP] at hr; subst hr
    exact ⟨e0, _, rfl⟩
  | ref d =>
    have h' := (SV.of_tree rfl).1 hv
    rw [RV, vc_one h'.1] at h'
    simp [nilP] at hr; subst hr
    obtain ⟨_, b, o, ecs, h2, _⟩ := h'
    simp at h2; subst h2
    exact ⟨e1 _, _, rfl⟩
  | h y q =>
    simp only [nilP] at hr
    split at hr
    · rename_i d hd
      simp only [Option.some.injEq] at hr; subst hr
      obtain ⟨b, cur, e, fr, rfl, _⟩ := h_box h hv hd
      exact ⟨e1 _, _, rfl⟩
    · cases hr
  | _ => simp [nilP] at hr

theorem bn_good (hC : C.Ok) (h : RelX w0 F0 X F S s tm w) {op : BinOp} {T : TypeId} {x y : AV} {vx vy : Value} (ox oy : Operand) (hx : SV w F s tm x vx (fun _ => False)) (hy : SV w F s tm y vy (fun _ => False))
    (he : bn C s op T x y = some av) : Good C w0 F0 X tm w (do eqGuard op T ox oy vx vy; binOp op T vx vy) av s := by
  unfold bn at he
  split at he
  · have := sv_int hx; subst this
    have := sv_int hy; subst this
    obtain ⟨v, h1, h2⟩ := bnI_run (P := C.P) (T := T) he w
    refine Good.same h (v := v) ?_ ?_ h2
    · rw [eqGuard_at_int]; exact h1
    · revert he; unfold bnI; cases op <;> simp only <;> split <;> simp <;> (rintro rfl; rfl)
  · have := sv_str hx; subst this
    have := sv_str hy; subst this
    obtain ⟨v, h1, h2⟩ := bnS_run (P := C.P) (T := T) he w
    refine Good.same h (v := v) ?_ ?_ h2
    · rw [eqGuard_at_string]; exact h1
    · revert he; unfold bnS; cases op <;> simp only <;> (try split) <;> simp <;> (try (rintro rfl; rfl))
  · have := sv_bool hx; subst this
    have := sv_bool hy; subst this
    split at he
    · rename_i hk
      simp only [Option.some.injEq] at he; subst he
      obtain ⟨i, d, z, e1, e2, e3, e4, e5, e6, e7⟩ := hC.info (ok_of_k hk (by simp))
      rw [hk] at e7
      have := desc_bool e7; subst this
      refine Good.same h ?_ rfl (of_bool _)
      rw [eqGuard_at_bool]
      simp [binOp, Op.equal, Op.maxDepth, eq_bool e6 w 9999]
    · rename_i hk
      simp only [Option.some.injEq] at he; subst he
      obtain ⟨i, d, z, e1, e2, e3, e4, e5, e6, e7⟩ := hC.info (ok_of_k hk (by simp))
      rw [hk] at e7
      have := desc_bool e7; subst this
      refine Good.same h ?_ rfl (of_bool _)
      rw [eqGuard_at_bool]
      simp [binOp, Op.equal, Op.maxDepth, eq_bool e6 w 9999]
    · cases he
  · have := sv_nils hy; subst this
    split at he
    · rename_i e hk
      simp only [Option.map_eq_some_iff] at he
      obtain ⟨r, hr, rfl⟩ := he
      obtain ⟨i, d, z, e1, e2, e3, e4, e5, e6, e7⟩ := hC.info (ok_of_k hk (by simp))
      rw [hk] at e7
      have := desc_slice e7; subst this
      obtain ⟨b, h1, h2, h3, a0, n0, c0, rfl⟩ := nilS_run h hx hr e6
      refine Good.same h (v := .bool b) ?_ ?_ ?_
      · rw [eqGuard_at_slice]
        simp [binOp, h1]
      · cases r <;> rfl
      · cases r with
        | none => exact of_anyb b
        | some b' => have := h2 b' rfl; subst this; simp only [nilAV, Bool.bne_false]; exact of_bool _
    · rename_i e hk
      simp only [Option.map_eq_some_iff] at he
      obtain ⟨r, hr, rfl⟩ := he
      obtain ⟨i, d, z, e1, e2, e3, e4, e5, e6, e7⟩ := hC.info (ok_of_k hk (by simp))
      rw [hk] at e7
      have := desc_slice e7; subst this
      obtain ⟨b, h1, h2, h3, a0, n0, c0, rfl⟩ := nilS_run h hx hr e6
      refine Good.same h (v := .bool !b) ?_ ?_ ?_
      · rw [eqGuard_at_slice]
        simp [binOp, h1]
      · cases r <;> rfl
      · cases r with
        | none => exact of_anyb _
        | some b' => have := h2 b' rfl; subst this; simp only [nilAV, Bool.bne_true]; exact of_bool _
    · cases he
  · have := sv_nilp hy; subst this
    split at he
    · rename_i e hk
      simp only [Option.map_eq_some_iff] at he
      obtain ⟨r, hr, rfl⟩ := he
      obtain ⟨i, d, z, e1, e2, e3, e4, e5, e6, e7⟩ := hC.info (ok_of_k hk (by simp))
      rw [hk] at e7
      have := desc_ptr e7; subst this
      obtain ⟨h1, a0, rfl⟩ := nilP_run h hx hr e6
      refine Good.same h (v := .bool r) ?_ rfl (of_bool _)
      rw [eqGuard_at_pointer]
      simp [binOp, h1]
    · rename_i e hk
      simp only [Option.map_eq_some_iff] at he
      obtain ⟨r, hr, rfl⟩ := he
      obtain ⟨i, d, z, e1, e2, e3, e4, e5, e6, e7⟩ := hC.info (ok_of_k hk (by simp))
      rw [hk] at e7
      have := desc_ptr e7; subst this
      obtain ⟨h1, a0, rfl⟩ := nilP_run h hx hr e6
      refine Good.same h (v := .bool !r) ?_ rfl (of_bool _)
      rw [eqGuard_at_pointer]
      simp [binOp, h1]
    · cases he
  · cases he

end
end Go.Fw
