/- Part of a proof that a law returns true for every input. No condition. -/
import Derived.Test.YtobljppjkklojaaUL7
import Derived.Test.YtobljppjkklojaaUT
namespace Go.Sh
open Go Go.Fw
theorem ok_T (es : List (List impl_Term)) (h : sizeL (fun x : List impl_Term => x.length + 0) es ≤ 1048576) : okTs es :=
 ⟨Nat.le_trans (sizeL_len _ _) h, fun t ht => by
  have := sizeL_mem (f := fun x : List impl_Term => x.length + 0) ht
  simp only [Nat.add_zero] at this h
  omega⟩
theorem ok_L (l : impl_Linear) (h : size_impl_Linear l ≤ 1048576) : okLin l := by
 unfold size_impl_Linear at h
 have hs : sizeL size_impl_Summand l.Summands ≤ 1048576 := by omega
 refine ⟨by omega, Nat.le_trans (sizeL_len _ _) hs, fun x hx => ?_⟩
 have hm := sizeL_mem (f := size_impl_Summand) hx
 have hm2 : size_impl_Summand x ≤ 1048576 := by omega
 unfold size_impl_Summand at hm2
 exact ⟨by omega, by omega, by omega, ok_T _ (by omega), ok_T _ (by omega)⟩
theorem NeededParameters_true (a : laws_Linear) (ha : wf_laws_Linear a) : laws_FnExactNeededParameters a = some true := by
 unfold laws_FnExactNeededParameters
 rw [sz_Linear a 1048576 ha (by omega) (by omega)]
 simp only [Option.bind_some]
 by_cases h : size_laws_Linear a ≤ 1048576
 ·rw [bud_le (by omega)]
  have : decide ((1048576 : Int) - ((size_laws_Linear a : Nat) : Int) < 0) = false := by simp only [decide_eq_false_iff_not]; omega
  rw [this, cond_false, to_Linear a h]
  simp only [Option.bind_some]
  have hl : size_impl_Linear (conv_laws_Linear a) ≤ 1048576 := by rw [sc_laws_Linear]; exact h
  generalize conv_laws_Linear a = e at hl
  obtain ⟨r, h1, h2, h3⟩ := both e (ok_L e hl)
  obtain ⟨y0, y1, y2, c, c1, m1⟩ := mk_Linear e 1 (by omega) (by omega)
  obtain ⟨y', d, d1, m2, m3⟩ := mk_Int64S r.1 1 (by omega) (by omega)
  simp only [h1, h2, Option.bind_some, eq_Int64S r.1 (by omega), eq_Linear e hl, m1, m2, m3, Bool.not_true, bne_self_eq_false, Bool.or_self, cond_false, dneg (k := 1 + (c : Int)) (by omega), dneg (k := 1 + (d : Int)) (by omega)]
 ·rw [bud_gt (by omega)]; rfl
end Go.Sh
