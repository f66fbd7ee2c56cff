/- Part of a proof that a law returns true for every input. No condition. -/
import Derived.Test.YtobljppjkklojaaP20
import Derived.Test.YtobljppjkklojaaUN
namespace Go.Sh
open Go Go.Fw
set_option linter.unusedSimpArgs false
theorem sz_Int64S (x : List Int) (n : Int) (hx : (x.length ≤ 9223372036854775807 ∧ ∀ y ∈ x, (-9223372036854775808 ≤ y ∧ y ≤ 9223372036854775807))) (h0 : 0 ≤ n) (hn : n ≤ 1048576) : laws_szInt64S x n = some (bud n (x.length + 0)) := by
 unfold laws_szInt64S
 refine st_len hx.1 h0 hn fun h => ?_
 rw [w64 _ (by omega)]
 exact st_end (by omega)
theorem sz_TermS (x : List laws_Term) (n : Int) (hx : (x.length ≤ 9223372036854775807 ∧ ∀ y ∈ x, wf_laws_Term y)) (h0 : 0 ≤ n) (hn : n ≤ 1048576) : laws_szTermS x n = some (bud n (x.length + 0)) := by
 unfold laws_szTermS
 refine st_len hx.1 h0 hn fun h => ?_
 rw [w64 _ (by omega)]
 exact st_end (by omega)
theorem sz_TermSS (x : List (List laws_Term)) (n : Int) (hx : (x.length ≤ 9223372036854775807 ∧ ∀ y ∈ x, (y.length ≤ 9223372036854775807 ∧ ∀ z ∈ y, wf_laws_Term z))) (h0 : 0 ≤ n) (hn : n ≤ 1048576) : laws_szTermSS x n = some (bud n (sizeL (fun x => x.length + 0) x)) := by
 unfold laws_szTermSS
 refine st_len hx.1 h0 hn fun h => ?_
 rw [w64 _ (by omega)]
 exact sz_loop (f := laws_szTermS) (fun x => x.length + 0) x (fun _ _ _ => rfl) (fun y hy n h0 hn => sz_TermS y n (hx.2 y hy) h0 hn) (by omega) _ (by omega) (by omega)
def size_laws_Summand (x : laws_Summand) : Nat := ((x.Sums.length + 0) + ((x.Guard.length + 0) + (x.Name.length + ((sizeL (fun x => x.length + 0) x.Arguments) + ((sizeL (fun x => x.length + 0) x.Next) + 0)))))
theorem sz_Summand (x : laws_Summand) (n : Int) (hx : wf_laws_Summand x) (h0 : 0 ≤ n) (hn : n ≤ 1048576) : laws_szSummand x n = some (bud n (size_laws_Summand x)) := by
 unfold laws_szSummand
 unfold size_laws_Summand
 obtain ⟨w0, w1, w2, w3, w4⟩ := hx
 refine st_call (sz_Int64S _ _ w0 (by omega) (by omega)) fun c0 => ?_
 refine st_call (sz_TermS _ _ w1 (by omega) (by omega)) fun c1 => ?_
 refine st_len w2 (by omega) (by omega) fun c2 => ?_
 rw [w64 (((n - (((x.Sums.length + 0) : Nat) : Int)) - (((x.Guard.length + 0) : Nat) : Int)) - (x.Name.length : Int)) (by omega)]
 refine st_call (sz_TermSS _ _ w3 (by omega) (by omega)) fun c3 => ?_
 refine st_call (sz_TermSS _ _ w4 (by omega) (by omega)) fun c4 => ?_
 exact st_end (by omega)
theorem sz_SummandS (x : List laws_Summand) (n : Int) (hx : (x.length ≤ 9223372036854775807 ∧ ∀ y ∈ x, wf_laws_Summand y)) (h0 : 0 ≤ n) (hn : n ≤ 1048576) : laws_szSummandS x n = some (bud n (sizeL size_laws_Summand x)) := by
 unfold laws_szSummandS
 refine st_len hx.1 h0 hn fun h => ?_
 rw [w64 _ (by omega)]
 exact sz_loop (f := laws_szSummand) size_laws_Summand x (fun _ _ _ => rfl) (fun y hy n h0 hn => sz_Summand y n (hx.2 y hy) h0 hn) (by omega) _ (by omega) (by omega)
def size_laws_Linear (x : laws_Linear) : Nat := ((x.Start.length + 0) + ((sizeL size_laws_Summand x.Summands) + 0))
theorem sz_Linear (x : laws_Linear) (n : Int) (hx : wf_laws_Linear x) (h0 : 0 ≤ n) (hn : n ≤ 1048576) : laws_szLinear x n = some (bud n (size_laws_Linear x)) := by
 unfold laws_szLinear
 unfold size_laws_Linear
 obtain ⟨w0, w1, w2⟩ := hx
 refine st_call (sz_Int64S _ _ w1 (by omega) (by omega)) fun c1 => ?_
 refine st_call (sz_SummandS _ _ w2 (by omega) (by omega)) fun c2 => ?_
 exact st_end (by omega)
theorem to_Int64S (x : List Int) (h : (x.length + 0) ≤ 1048576) : laws_toInt64S x = some x := by
 unfold laws_toInt64S
 have hl : x.length ≤ 1048576 := by omega
 rw [mkOk_small _ hl (by decide)]
 simp only [Option.bind_some]
 rw [to_loop (f := some) id x _ (fun _ _ _ => rfl) (fun _ _ => rfl) hl, List.map_id]
def conv_laws_Term (x : laws_Term) : impl_Term := ⟨x.Kind, x.Value⟩
theorem to_Term (x : laws_Term) : laws_toTerm x = some (conv_laws_Term x) := by
 unfold laws_toTerm
 rfl
theorem to_TermS (x : List laws_Term) (h : (x.length + 0) ≤ 1048576) : laws_toTermS x = some (x.map conv_laws_Term) := by
 unfold laws_toTermS
 have hl : x.length ≤ 1048576 := by omega
 rw [mkOk_small _ hl (by decide)]
 simp only [Option.bind_some]
 rw [to_loop (f := laws_toTerm) conv_laws_Term x _ (fun _ _ _ => rfl) (fun y hy => to_Term y) hl]
theorem to_TermSS (x : List (List laws_Term)) (h : (sizeL (fun x => x.length + 0) x) ≤ 1048576) : laws_toTermSS x = some (x.map (List.map conv_laws_Term)) := by
 unfold laws_toTermSS
 have hl : x.length ≤ 1048576 := Nat.le_trans (sizeL_len _ _) h
 rw [mkOk_small _ hl (by decide)]
 simp only [Option.bind_some]
 rw [to_loop (f := laws_toTermS) (List.map conv_laws_Term) x _ (fun _ _ _ => rfl) (fun y hy => to_TermS y (Nat.le_trans (sizeL_mem (f := (fun x => x.length + 0)) hy) h)) hl]
def conv_laws_Summand (x : laws_Summand) : impl_Summand := ⟨x.Sums, (x.Guard.map conv_laws_Term), x.Name, (x.Arguments.map (List.map conv_laws_Term)), (x.Next.map (List.map conv_laws_Term))⟩
def size_impl_Summand (x : impl_Summand) : Nat := ((x.Sums.length + 0) + ((x.Guard.length + 0) + (x.Name.length + ((sizeL (fun x => x.length + 0) x.Arguments) + ((sizeL (fun x => x.length + 0) x.Next) + 0)))))
theorem sc_laws_Summand (x : laws_Summand) : size_impl_Summand (conv_laws_Summand x) = size_laws_Summand x := by
 simp only [size_impl_Summand, size_laws_Summand, conv_laws_Summand, sizeL_map, List.length_map]
theorem to_Summand (x : laws_Summand) (h : (size_laws_Summand x) ≤ 1048576) : laws_toSummand x = some (conv_laws_Summand x) := by
 unfold laws_toSummand
 unfold size_laws_Summand at h
 rw [to_Int64S _ (by omega), to_TermS _ (by omega), to_TermSS _ (by omega), to_TermSS _ (by omega)]
 rfl
theorem to_SummandS (x : List laws_Summand) (h : (sizeL size_laws_Summand x) ≤ 1048576) : laws_toSummandS x = some (x.map conv_laws_Summand) := by
 unfold laws_toSummandS
 have hl : x.length ≤ 1048576 := Nat.le_trans (sizeL_len _ _) h
 rw [mkOk_small _ hl (by decide)]
 simp only [Option.bind_some]
 rw [to_loop (f := laws_toSummand) conv_laws_Summand x _ (fun _ _ _ => rfl) (fun y hy => to_Summand y (Nat.le_trans (sizeL_mem (f := size_laws_Summand) hy) h)) hl]
def conv_laws_Linear (x : laws_Linear) : impl_Linear := ⟨x.Parameters, x.Start, (x.Summands.map conv_laws_Summand)⟩
def size_impl_Linear (x : impl_Linear) : Nat := ((x.Start.length + 0) + ((sizeL size_impl_Summand x.Summands) + 0))
theorem sc_laws_Linear (x : laws_Linear) : size_impl_Linear (conv_laws_Linear x) = size_laws_Linear x := by
 simp only [size_impl_Linear, size_laws_Linear, conv_laws_Linear, sizeL_map, List.length_map, sc_laws_Summand]
theorem to_Linear (x : laws_Linear) (h : (size_laws_Linear x) ≤ 1048576) : laws_toLinear x = some (conv_laws_Linear x) := by
 unfold laws_toLinear
 unfold size_laws_Linear at h
 rw [to_Int64S _ (by omega), to_SummandS _ (by omega)]
 rfl
theorem eq_Int64S (x : List Int) (h : (x.length + 0) ≤ 1048576) : laws_eqInt64S x x = some true := by
 unfold laws_eqInt64S
 have hl : x.length ≤ 1048576 := by omega
 rw [neL, cond_false]
 exact eq_loopS x (fun _ _ => rfl) neI hl
theorem eq_Term (x : impl_Term) : laws_eqTerm x x = some true := by
 unfold laws_eqTerm
 simp only [neI, neS, neB, cond_false, Option.bind_some, Bool.not_true]
theorem eq_TermS (x : List impl_Term) (h : (x.length + 0) ≤ 1048576) : laws_eqTermS x x = some true := by
 unfold laws_eqTermS
 have hl : x.length ≤ 1048576 := by omega
 rw [neL, cond_false]
 exact eq_loop (f := laws_eqTerm) x (fun _ _ => rfl) (fun y hy => eq_Term y) hl
theorem eq_TermSS (x : List (List impl_Term)) (h : (sizeL (fun x => x.length + 0) x) ≤ 1048576) : laws_eqTermSS x x = some true := by
 unfold laws_eqTermSS
 have hl : x.length ≤ 1048576 := Nat.le_trans (sizeL_len _ _) h
 rw [neL, cond_false]
 exact eq_loop (f := laws_eqTermS) x (fun _ _ => rfl) (fun y hy => eq_TermS y (Nat.le_trans (sizeL_mem (f := (fun x => x.length + 0)) hy) h)) hl
theorem eq_Summand (x : impl_Summand) (h : (size_impl_Summand x) ≤ 1048576) : laws_eqSummand x x = some true := by
 unfold laws_eqSummand
 unfold size_impl_Summand at h
 simp only [neI, neS, neB, cond_false, Option.bind_some, Bool.not_true, eq_Int64S x.Sums (by omega), eq_TermS x.Guard (by omega), eq_TermSS x.Arguments (by omega), eq_TermSS x.Next (by omega)]
theorem eq_SummandS (x : List impl_Summand) (h : (sizeL size_impl_Summand x) ≤ 1048576) : laws_eqSummandS x x = some true := by
 unfold laws_eqSummandS
 have hl : x.length ≤ 1048576 := Nat.le_trans (sizeL_len _ _) h
 rw [neL, cond_false]
 exact eq_loop (f := laws_eqSummand) x (fun _ _ => rfl) (fun y hy => eq_Summand y (Nat.le_trans (sizeL_mem (f := size_impl_Summand) hy) h)) hl
theorem eq_Linear (x : impl_Linear) (h : (size_impl_Linear x) ≤ 1048576) : laws_eqLinear x x = some true := by
 unfold laws_eqLinear
 unfold size_impl_Linear at h
 simp only [neI, neS, neB, cond_false, Option.bind_some, Bool.not_true, eq_Int64S x.Start (by omega), eq_SummandS x.Summands (by omega)]
theorem mk_Text (k : Int) (h0 : 0 ≤ k) (hb : k ≤ 1099511627776) : ∃ t, laws_markText k = some t := by
 have key : ∀ (n : Nat) (k : Int), 0 ≤ k → k ≤ n → n ≤ 1099511627776 → ∀ t : List UInt8, t.length + n ≤ 1099511627776 → ∃ r, ∀ m, n < m → laws_markText_l14 m k t = some r := by
  intro n
  induction n with
  | zero =>
    intro k h1 h2 h3 t ht
    refine ⟨[109] ++ t, fun m hm => ?_⟩
    obtain ⟨m, rfl⟩ : ∃ j, m = j + 1 := ⟨m - 1, by omega⟩
    simp only [laws_markText_l14, laws_markText_b14]
    rw [show decide (0 < k) = false by simp; omega, cond_false, show okLen (1 + t.length) = some () by unfold okLen; rw [if_pos (by omega)]]
    rfl
  | succ n ih =>
    intro k h1 h2 h3 t ht
    by_cases hk : 0 < k
    ·have hd : Int.tdiv k 10 = k / 10 := Int.tdiv_eq_ediv_of_nonneg h1
     have hw : IntKind.i64.wrap (Int.tdiv k 10) = k / 10 := by rw [hd]; exact w64 _ (by omega)
     obtain ⟨r, hr⟩ := ih (k / 10) (by omega) (by omega) (by omega) ([(toB (IntKind.i64.wrap (48 + (Int.tmod k 10))))] ++ t) (by simp only [List.length_append, List.length_cons, List.length_nil]; omega)
     refine ⟨r, fun m hm => ?_⟩
     obtain ⟨m, rfl⟩ : ∃ j, m = j + 1 := ⟨m - 1, by omega⟩
     simp only [laws_markText_l14, laws_markText_b14]
     rw [show decide (0 < k) = true by simp; omega, cond_true, show okLen (1 + t.length) = some () by unfold okLen; rw [if_pos (by omega)]]
     simp only [Option.bind_some, hw]
     exact hr m (by omega)
    ·refine ⟨[109] ++ t, fun m hm => ?_⟩
     obtain ⟨m, rfl⟩ : ∃ j, m = j + 1 := ⟨m - 1, by omega⟩
     simp only [laws_markText_l14, laws_markText_b14]
     rw [show decide (0 < k) = false by simp; omega, cond_false, show okLen (1 + t.length) = some () by unfold okLen; rw [if_pos (by omega)]]
     rfl
 unfold laws_markText
 by_cases hk : k ≤ 0
 ·exact ⟨_, by rw [show decide (k ≤ 0) = true by simpa using hk]; rfl⟩
 ·obtain ⟨r, hr⟩ := key k.toNat k h0 (by omega) (by omega) [] (by simp only [List.length_nil]; omega)
  exact ⟨r, by rw [show decide (k ≤ 0) = false by simp; omega, cond_false]; exact lim_of (k.toNat + 1) fun m hm => hr m (by omega)⟩
theorem mk_Int64S (x : List Int) (k : Int) (h0 : 0 ≤ k) (hb : k + 64 * (x.length + 0) ≤ 1099511627776) : ∃ (x' : List Int) (c : Nat), c ≤ 64 * (x.length + 0) ∧ laws_markInt64S x k = some (k + (c : Int), x') ∧ laws_heldInt64S x' k = some (k + (c : Int)) := by
 unfold laws_markInt64S laws_heldInt64S
 have e : sumS (fun _ => 64) x = 64 * x.length := sumS_c 64 x
 obtain ⟨x', c, h1, h2, h3⟩ := held_ex (l := laws_markInt64S_l6) (hl := laws_heldInt64S_l6) (fun _ => 64) (fun m v k => by simp only [laws_markInt64S_l6, laws_markInt64S_b6]; rw [ltF (Nat.le_refl _)]; rfl) (fun a m k => by simp only [laws_heldInt64S_l6, laws_heldInt64S_b6]; rw [ltF (Nat.le_refl _)]; rfl) (fun x k h0 hb => by
  have w1 : IntKind.i64.wrap (k + 1) = k + 1 := w64 _ (by omega)
  refine ⟨k, 1, by omega, fun m d r hd => ⟨?_, ?_⟩⟩
  ·simp only [laws_markInt64S_l6, laws_markInt64S_b6]
   rw [ltM]
   simp only [cond_true, getI_mid, set_midI, Option.bind_some, w1]
   rw [wsM hd]
   rw [show ((k + 1) : Int) = k + ((1 : Nat) : Int) by omega]
  ·simp only [laws_heldInt64S_l6, laws_heldInt64S_b6]
   rw [ltM]
   simp only [cond_true, cond_false, getI_mid, Option.bind_some, bne_self_eq_false, beq_self_eq_true, Bool.not_true, w1]
   rw [wsM hd]
   rw [show ((k + 1) : Int) = k + ((1 : Nat) : Int) by omega]) x k h0 (by omega) (by omega)
 exact ⟨x', c, by omega, h2, h3⟩
theorem mk_TermS (x : List impl_Term) (k : Int) (h0 : 0 ≤ k) (hb : k + 64 * (x.length + 0) ≤ 1099511627776) : ∃ (x' : List impl_Term) (c : Nat), c ≤ 64 * (x.length + 0) ∧ laws_markTermS x k = some (k + (c : Int), x') := by
 unfold laws_markTermS
 have e : sumS (fun _ => 64) x = 64 * x.length := sumS_c 64 x
 obtain ⟨x', c, h1, h2⟩ := mark_ex (l := laws_markTermS_l6) (fun _ => 64) (fun m v k => by simp only [laws_markTermS_l6, laws_markTermS_b6]; rw [ltF (Nat.le_refl _)]; rfl) (fun x k h0 hb => by
  have w1 : IntKind.i64.wrap (k + 1) = k + 1 := w64 _ (by omega)
  have w2 : IntKind.i64.wrap ((k + 1) + 1) = (k + 1) + 1 := w64 _ (by omega)
  refine ⟨(impl_Term.mk k (k + 1)), 1 + 1, by omega, fun m d r hd => ?_⟩
  simp only [laws_markTermS_l6, laws_markTermS_b6]
  rw [ltM]
  simp only [cond_true, getI_mid, set_midI, Option.bind_some, w1, w2]
  rw [wsM hd]
  rw [show (((k + 1) + 1) : Int) = k + ((1 + 1 : Nat) : Int) by omega]) x k h0 (by omega) (by omega)
 exact ⟨x', c, by omega, h2⟩
theorem mk_TermSS (x : List (List impl_Term)) (k : Int) (h0 : 0 ≤ k) (hb : k + 64 * (sizeL (fun x => x.length + 0) x) ≤ 1099511627776) : ∃ (x' : List (List impl_Term)) (c : Nat), c ≤ 64 * (sizeL (fun x => x.length + 0) x) ∧ laws_markTermSS x k = some (k + (c : Int), x') := by
 unfold laws_markTermSS
 have e : sumS (fun x => 64 * ((x.length + 0) + 1)) x = 64 * sizeL (fun x => x.length + 0) x := sumS_64 (fun x => x.length + 0) x
 have hl : x.length ≤ sizeL (fun x => x.length + 0) x := sizeL_len _ _
 obtain ⟨x', c, h1, h2⟩ := mark_ex (l := laws_markTermSS_l6) (fun x => 64 * ((x.length + 0) + 1)) (fun m v k => by simp only [laws_markTermSS_l6, laws_markTermSS_b6]; rw [ltF (Nat.le_refl _)]; rfl) (fun x k h0 hb => by
  obtain ⟨y1, c1, b1, m1⟩ := mk_TermS x k (by omega) (by omega)
  refine ⟨y1, c1, by omega, fun m d r hd => ?_⟩
  simp only [laws_markTermSS_l6, laws_markTermSS_b6]
  rw [ltM]
  simp only [cond_true, getI_mid, set_midI, Option.bind_some, m1]
  rw [wsM hd]) x k h0 (by omega) (by omega)
 exact ⟨x', c, by omega, h2⟩
theorem mk_SummandS (x : List impl_Summand) (k : Int) (h0 : 0 ≤ k) (hb : k + 64 * (sizeL size_impl_Summand x) ≤ 1099511627776) : ∃ (x' : List impl_Summand) (c : Nat), c ≤ 64 * (sizeL size_impl_Summand x) ∧ laws_markSummandS x k = some (k + (c : Int), x') := by
 unfold laws_markSummandS
 have e : sumS (fun x => 64 * ((size_impl_Summand x) + 1)) x = 64 * sizeL size_impl_Summand x := sumS_64 size_impl_Summand x
 have hl : x.length ≤ sizeL size_impl_Summand x := sizeL_len _ _
 obtain ⟨x', c, h1, h2⟩ := mark_ex (l := laws_markSummandS_l6) (fun x => 64 * ((size_impl_Summand x) + 1)) (fun m v k => by simp only [laws_markSummandS_l6, laws_markSummandS_b6]; rw [ltF (Nat.le_refl _)]; rfl) (fun x k h0 hb => by
  simp only [size_impl_Summand] at hb ⊢
  obtain ⟨y1, c1, b1, m1⟩ := mk_Int64S x.Sums k (by omega) (by omega)
  obtain ⟨y2, c2, b2, m2⟩ := mk_TermS x.Guard (k + (c1 : Int)) (by omega) (by omega)
  obtain ⟨s3, t3⟩ := mk_Text ((k + (c1 : Int)) + (c2 : Int)) (by omega) (by omega)
  have w3 : IntKind.i64.wrap (((k + (c1 : Int)) + (c2 : Int)) + 1) = ((k + (c1 : Int)) + (c2 : Int)) + 1 := w64 _ (by omega)
  obtain ⟨y4, c4, b4, m4⟩ := mk_TermSS x.Arguments (((k + (c1 : Int)) + (c2 : Int)) + 1) (by omega) (by omega)
  obtain ⟨y5, c5, b5, m5⟩ := mk_TermSS x.Next ((((k + (c1 : Int)) + (c2 : Int)) + 1) + (c4 : Int)) (by omega) (by omega)
  refine ⟨(impl_Summand.mk y1 y2 s3 y4 y5), c1 + c2 + 1 + c4 + c5, by omega, fun m d r hd => ?_⟩
  simp only [laws_markSummandS_l6, laws_markSummandS_b6]
  rw [ltM]
  simp only [cond_true, getI_mid, set_midI, Option.bind_some, m1, m2, t3, w3, m4, m5]
  rw [wsM hd]
  rw [show ((((((k + (c1 : Int)) + (c2 : Int)) + 1) + (c4 : Int)) + (c5 : Int)) : Int) = k + ((c1 + c2 + 1 + c4 + c5 : Nat) : Int) by omega]) x k h0 (by omega) (by omega)
 exact ⟨x', c, by omega, h2⟩
theorem mk_Linear (x : impl_Linear) (k : Int) (h0 : 0 ≤ k) (hb : k + 64 * ((size_impl_Linear x) + 1) ≤ 1099511627776) : ∃ (y0 : Int) (y1 : List Int) (y2 : List impl_Summand) (c : Nat), c ≤ 64 * ((size_impl_Linear x) + 1) ∧ laws_markLinear x.Parameters x.Start x.Summands k = some (k + (c : Int), y0, y1, y2) := by
 unfold laws_markLinear
 simp only [size_impl_Linear] at hb ⊢
 obtain ⟨y1, c1, b1, m1⟩ := mk_Int64S x.Start k (by omega) (by omega)
 obtain ⟨y2, c2, b2, m2⟩ := mk_SummandS x.Summands (k + (c1 : Int)) (by omega) (by omega)
 refine ⟨x.Parameters, y1, y2, c1 + c2, by omega, ?_⟩
 simp only [Option.bind_some, m1, m2]
 rw [show (k + ((c1 + c2 : Nat) : Int)) = ((k + (c1 : Int)) + (c2 : Int)) by omega]
end Go.Sh
