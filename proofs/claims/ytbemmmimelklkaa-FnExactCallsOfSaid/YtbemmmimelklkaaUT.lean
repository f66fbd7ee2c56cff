/- Part of a proof that a law returns true for every input. No condition. -/
import Derived.Test.YtbemmmimelklkaaP3
import Derived.Test.YtbemmmimelklkaaUN
namespace Go.Sh
open Go Go.Fw
set_option linter.unusedSimpArgs false
theorem sz_TermS (x : List laws_Term) (n : Int) (hx : (x.length ≤ 9223372036854775807 ∧ ∀ y ∈ x, wf_laws_Term y)) (h0 : 0 ≤ n) (hn : n ≤ 1048576) : laws_szTermS x n = some (bud n (x.length + 0)) := by
 unfold laws_szTermS
 refine st_len hx.1 h0 hn fun h => ?_
 rw [w64 _ (by omega)]
 exact st_end (by omega)
theorem sz_TermSS (x : List (List laws_Term)) (n : Int) (hx : (x.length ≤ 9223372036854775807 ∧ ∀ y ∈ x, (y.length ≤ 9223372036854775807 ∧ ∀ z ∈ y, wf_laws_Term z))) (h0 : 0 ≤ n) (hn : n ≤ 1048576) : laws_szTermSS x n = some (bud n (sizeL (fun x => x.length + 0) x)) := by
 unfold laws_szTermSS
 refine st_len hx.1 h0 hn fun h => ?_
 rw [w64 _ (by omega)]
 exact sz_loop (f := laws_szTermS) (fun x => x.length + 0) x (fun _ _ _ => rfl) (fun y hy n h0 hn => sz_TermS y n (hx.2 y hy) h0 hn) (by omega) _ (by omega) (by omega)
def size_laws_Part (x : laws_Part) : Nat := (x.Name.length + ((sizeL (fun x => x.length + 0) x.Arguments) + 0))
theorem sz_Part (x : laws_Part) (n : Int) (hx : wf_laws_Part x) (h0 : 0 ≤ n) (hn : n ≤ 1048576) : laws_szPart x n = some (bud n (size_laws_Part x)) := by
 unfold laws_szPart
 unfold size_laws_Part
 obtain ⟨w0, w1, w2, w3⟩ := hx
 refine st_len w2 (by omega) (by omega) fun c2 => ?_
 rw [w64 (n - (x.Name.length : Int)) (by omega)]
 refine st_call (sz_TermSS _ _ w3 (by omega) (by omega)) fun c3 => ?_
 exact st_end (by omega)
theorem sz_PartS (x : List laws_Part) (n : Int) (hx : (x.length ≤ 9223372036854775807 ∧ ∀ y ∈ x, wf_laws_Part y)) (h0 : 0 ≤ n) (hn : n ≤ 1048576) : laws_szPartS x n = some (bud n (sizeL size_laws_Part x)) := by
 unfold laws_szPartS
 refine st_len hx.1 h0 hn fun h => ?_
 rw [w64 _ (by omega)]
 exact sz_loop (f := laws_szPart) size_laws_Part x (fun _ _ _ => rfl) (fun y hy n h0 hn => sz_Part y n (hx.2 y hy) h0 hn) (by omega) _ (by omega) (by omega)
def size_laws_Definition (x : laws_Definition) : Nat := (x.Name.length + ((sizeL size_laws_Part x.Body) + 0))
theorem sz_Definition (x : laws_Definition) (n : Int) (hx : wf_laws_Definition x) (h0 : 0 ≤ n) (hn : n ≤ 1048576) : laws_szDefinition x n = some (bud n (size_laws_Definition x)) := by
 unfold laws_szDefinition
 unfold size_laws_Definition
 obtain ⟨w0, w1, w2⟩ := hx
 refine st_len w0 (by omega) (by omega) fun c0 => ?_
 rw [w64 (n - (x.Name.length : Int)) (by omega)]
 refine st_call (sz_PartS _ _ w2 (by omega) (by omega)) fun c2 => ?_
 exact st_end (by omega)
theorem sz_DefinitionS (x : List laws_Definition) (n : Int) (hx : (x.length ≤ 9223372036854775807 ∧ ∀ y ∈ x, wf_laws_Definition y)) (h0 : 0 ≤ n) (hn : n ≤ 1048576) : laws_szDefinitionS x n = some (bud n (sizeL size_laws_Definition x)) := by
 unfold laws_szDefinitionS
 refine st_len hx.1 h0 hn fun h => ?_
 rw [w64 _ (by omega)]
 exact sz_loop (f := laws_szDefinition) size_laws_Definition x (fun _ _ _ => rfl) (fun y hy n h0 hn => sz_Definition y n (hx.2 y hy) h0 hn) (by omega) _ (by omega) (by omega)
def conv_laws_Term (x : laws_Term) : impl_Term := ⟨x.Kind, x.Value⟩
theorem to_Term (x : laws_Term) : laws_toTerm x = some (conv_laws_Term x) := by
 unfold laws_toTerm
 rfl
theorem to_TermS (x : List laws_Term) (h : (x.length + 0) ≤ 1048576) : laws_toTermS x = some (x.map conv_laws_Term) := by
 unfold laws_toTermS
 have hl : x.length ≤ 1048576 := by omega
 rw [mkOk_small _ hl (by decide)]
 simp only [Option.bind_some]
 rw [to_loop (f := laws_toTerm) conv_laws_Term x _ (fun _ _ _ => rfl) (fun y hy => to_Term y) hl]
theorem to_TermSS (x : List (List laws_Term)) (h : (sizeL (fun x => x.length + 0) x) ≤ 1048576) : laws_toTermSS x = some (x.map (List.map conv_laws_Term)) := by
 unfold laws_toTermSS
 have hl : x.length ≤ 1048576 := Nat.le_trans (sizeL_len _ _) h
 rw [mkOk_small _ hl (by decide)]
 simp only [Option.bind_some]
 rw [to_loop (f := laws_toTermS) (List.map conv_laws_Term) x _ (fun _ _ _ => rfl) (fun y hy => to_TermS y (Nat.le_trans (sizeL_mem (f := (fun x => x.length + 0)) hy) h)) hl]
def conv_laws_Part (x : laws_Part) : impl_Part := ⟨x.Kind, x.Number, x.Name, (x.Arguments.map (List.map conv_laws_Term))⟩
def size_impl_Part (x : impl_Part) : Nat := (x.Name.length + ((sizeL (fun x => x.length + 0) x.Arguments) + 0))
theorem sc_laws_Part (x : laws_Part) : size_impl_Part (conv_laws_Part x) = size_laws_Part x := by
 simp only [size_impl_Part, size_laws_Part, conv_laws_Part, sizeL_map, List.length_map]
theorem to_Part (x : laws_Part) (h : (size_laws_Part x) ≤ 1048576) : laws_toPart x = some (conv_laws_Part x) := by
 unfold laws_toPart
 unfold size_laws_Part at h
 rw [to_TermSS _ (by omega)]
 rfl
theorem to_PartS (x : List laws_Part) (h : (sizeL size_laws_Part x) ≤ 1048576) : laws_toPartS x = some (x.map conv_laws_Part) := by
 unfold laws_toPartS
 have hl : x.length ≤ 1048576 := Nat.le_trans (sizeL_len _ _) h
 rw [mkOk_small _ hl (by decide)]
 simp only [Option.bind_some]
 rw [to_loop (f := laws_toPart) conv_laws_Part x _ (fun _ _ _ => rfl) (fun y hy => to_Part y (Nat.le_trans (sizeL_mem (f := size_laws_Part) hy) h)) hl]
def conv_laws_Definition (x : laws_Definition) : impl_Definition := ⟨x.Name, x.Parameters, (x.Body.map conv_laws_Part)⟩
def size_impl_Definition (x : impl_Definition) : Nat := (x.Name.length + ((sizeL size_impl_Part x.Body) + 0))
theorem sc_laws_Definition (x : laws_Definition) : size_impl_Definition (conv_laws_Definition x) = size_laws_Definition x := by
 simp only [size_impl_Definition, size_laws_Definition, conv_laws_Definition, sizeL_map, List.length_map, sc_laws_Part]
theorem to_Definition (x : laws_Definition) (h : (size_laws_Definition x) ≤ 1048576) : laws_toDefinition x = some (conv_laws_Definition x) := by
 unfold laws_toDefinition
 unfold size_laws_Definition at h
 rw [to_PartS _ (by omega)]
 rfl
theorem to_DefinitionS (x : List laws_Definition) (h : (sizeL size_laws_Definition x) ≤ 1048576) : laws_toDefinitionS x = some (x.map conv_laws_Definition) := by
 unfold laws_toDefinitionS
 have hl : x.length ≤ 1048576 := Nat.le_trans (sizeL_len _ _) h
 rw [mkOk_small _ hl (by decide)]
 simp only [Option.bind_some]
 rw [to_loop (f := laws_toDefinition) conv_laws_Definition x _ (fun _ _ _ => rfl) (fun y hy => to_Definition y (Nat.le_trans (sizeL_mem (f := size_laws_Definition) hy) h)) hl]
theorem eq_Int64S (x : List Int) (h : (x.length + 0) ≤ 1048576) : laws_eqInt64S x x = some true := by
 unfold laws_eqInt64S
 have hl : x.length ≤ 1048576 := by omega
 rw [neL, cond_false]
 exact eq_loopS x (fun _ _ => rfl) neI hl
theorem eq_Term (x : impl_Term) : laws_eqTerm x x = some true := by
 unfold laws_eqTerm
 simp only [neI, neS, neB, cond_false, Option.bind_some, Bool.not_true]
theorem eq_TermS (x : List impl_Term) (h : (x.length + 0) ≤ 1048576) : laws_eqTermS x x = some true := by
 unfold laws_eqTermS
 have hl : x.length ≤ 1048576 := by omega
 rw [neL, cond_false]
 exact eq_loop (f := laws_eqTerm) x (fun _ _ => rfl) (fun y hy => eq_Term y) hl
theorem eq_TermSS (x : List (List impl_Term)) (h : (sizeL (fun x => x.length + 0) x) ≤ 1048576) : laws_eqTermSS x x = some true := by
 unfold laws_eqTermSS
 have hl : x.length ≤ 1048576 := Nat.le_trans (sizeL_len _ _) h
 rw [neL, cond_false]
 exact eq_loop (f := laws_eqTermS) x (fun _ _ => rfl) (fun y hy => eq_TermS y (Nat.le_trans (sizeL_mem (f := (fun x => x.length + 0)) hy) h)) hl
theorem eq_Part (x : impl_Part) (h : (size_impl_Part x) ≤ 1048576) : laws_eqPart x x = some true := by
 unfold laws_eqPart
 unfold size_impl_Part at h
 simp only [neI, neS, neB, cond_false, Option.bind_some, Bool.not_true, eq_TermSS x.Arguments (by omega)]
theorem eq_PartS (x : List impl_Part) (h : (sizeL size_impl_Part x) ≤ 1048576) : laws_eqPartS x x = some true := by
 unfold laws_eqPartS
 have hl : x.length ≤ 1048576 := Nat.le_trans (sizeL_len _ _) h
 rw [neL, cond_false]
 exact eq_loop (f := laws_eqPart) x (fun _ _ => rfl) (fun y hy => eq_Part y (Nat.le_trans (sizeL_mem (f := size_impl_Part) hy) h)) hl
theorem eq_Definition (x : impl_Definition) (h : (size_impl_Definition x) ≤ 1048576) : laws_eqDefinition x x = some true := by
 unfold laws_eqDefinition
 unfold size_impl_Definition at h
 simp only [neI, neS, neB, cond_false, Option.bind_some, Bool.not_true, eq_PartS x.Body (by omega)]
theorem eq_DefinitionS (x : List impl_Definition) (h : (sizeL size_impl_Definition x) ≤ 1048576) : laws_eqDefinitionS x x = some true := by
 unfold laws_eqDefinitionS
 have hl : x.length ≤ 1048576 := Nat.le_trans (sizeL_len _ _) h
 rw [neL, cond_false]
 exact eq_loop (f := laws_eqDefinition) x (fun _ _ => rfl) (fun y hy => eq_Definition y (Nat.le_trans (sizeL_mem (f := size_impl_Definition) hy) h)) hl
theorem mk_Text (k : Int) (h0 : 0 ≤ k) (hb : k ≤ 1099511627776) : ∃ t, laws_markText k = some t := by
 have key : ∀ (n : Nat) (k : Int), 0 ≤ k → k ≤ n → n ≤ 1099511627776 → ∀ t : List UInt8, t.length + n ≤ 1099511627776 → ∃ r, ∀ m, n < m → laws_markText_l14 m k t = some r := by
  intro n
  induction n with
  | zero =>
    intro k h1 h2 h3 t ht
    refine ⟨[109] ++ t, fun m hm => ?_⟩
    obtain ⟨m, rfl⟩ : ∃ j, m = j + 1 := ⟨m - 1, by omega⟩
    simp only [laws_markText_l14, laws_markText_b14]
    rw [show decide (0 < k) = false by simp; omega, cond_false, show okLen (1 + t.length) = some () by unfold okLen; rw [if_pos (by omega)]]
    rfl
  | succ n ih =>
    intro k h1 h2 h3 t ht
    by_cases hk : 0 < k
    ·have hd : Int.tdiv k 10 = k / 10 := Int.tdiv_eq_ediv_of_nonneg h1
     have hw : IntKind.i64.wrap (Int.tdiv k 10) = k / 10 := by rw [hd]; exact w64 _ (by omega)
     obtain ⟨r, hr⟩ := ih (k / 10) (by omega) (by omega) (by omega) ([(toB (IntKind.i64.wrap (48 + (Int.tmod k 10))))] ++ t) (by simp only [List.length_append, List.length_cons, List.length_nil]; omega)
     refine ⟨r, fun m hm => ?_⟩
     obtain ⟨m, rfl⟩ : ∃ j, m = j + 1 := ⟨m - 1, by omega⟩
     simp only [laws_markText_l14, laws_markText_b14]
     rw [show decide (0 < k) = true by simp; omega, cond_true, show okLen (1 + t.length) = some () by unfold okLen; rw [if_pos (by omega)]]
     simp only [Option.bind_some, hw]
     exact hr m (by omega)
    ·refine ⟨[109] ++ t, fun m hm => ?_⟩
     obtain ⟨m, rfl⟩ : ∃ j, m = j + 1 := ⟨m - 1, by omega⟩
     simp only [laws_markText_l14, laws_markText_b14]
     rw [show decide (0 < k) = false by simp; omega, cond_false, show okLen (1 + t.length) = some () by unfold okLen; rw [if_pos (by omega)]]
     rfl
 unfold laws_markText
 by_cases hk : k ≤ 0
 ·exact ⟨_, by rw [show decide (k ≤ 0) = true by simpa using hk]; rfl⟩
 ·obtain ⟨r, hr⟩ := key k.toNat k h0 (by omega) (by omega) [] (by simp only [List.length_nil]; omega)
  exact ⟨r, by rw [show decide (k ≤ 0) = false by simp; omega, cond_false]; exact lim_of (k.toNat + 1) fun m hm => hr m (by omega)⟩
theorem mk_TermS (x : List impl_Term) (k : Int) (h0 : 0 ≤ k) (hb : k + 64 * (x.length + 0) ≤ 1099511627776) : ∃ (x' : List impl_Term) (c : Nat), c ≤ 64 * (x.length + 0) ∧ laws_markTermS x k = some (k + (c : Int), x') := by
 unfold laws_markTermS
 have e : sumS (fun _ => 64) x = 64 * x.length := sumS_c 64 x
 obtain ⟨x', c, h1, h2⟩ := mark_ex (l := laws_markTermS_l6) (fun _ => 64) (fun m v k => by simp only [laws_markTermS_l6, laws_markTermS_b6]; rw [ltF (Nat.le_refl _)]; rfl) (fun x k h0 hb => by
  have w1 : IntKind.i64.wrap (k + 1) = k + 1 := w64 _ (by omega)
  have w2 : IntKind.i64.wrap ((k + 1) + 1) = (k + 1) + 1 := w64 _ (by omega)
  refine ⟨(impl_Term.mk k (k + 1)), 1 + 1, by omega, fun m d r hd => ?_⟩
  simp only [laws_markTermS_l6, laws_markTermS_b6]
  rw [ltM]
  simp only [cond_true, getI_mid, set_midI, Option.bind_some, w1, w2]
  rw [wsM hd]
  rw [show (((k + 1) + 1) : Int) = k + ((1 + 1 : Nat) : Int) by omega]) x k h0 (by omega) (by omega)
 exact ⟨x', c, by omega, h2⟩
theorem mk_TermSS (x : List (List impl_Term)) (k : Int) (h0 : 0 ≤ k) (hb : k + 64 * (sizeL (fun x => x.length + 0) x) ≤ 1099511627776) : ∃ (x' : List (List impl_Term)) (c : Nat), c ≤ 64 * (sizeL (fun x => x.length + 0) x) ∧ laws_markTermSS x k = some (k + (c : Int), x') := by
 unfold laws_markTermSS
 have e : sumS (fun x => 64 * ((x.length + 0) + 1)) x = 64 * sizeL (fun x => x.length + 0) x := sumS_64 (fun x => x.length + 0) x
 have hl : x.length ≤ sizeL (fun x => x.length + 0) x := sizeL_len _ _
 obtain ⟨x', c, h1, h2⟩ := mark_ex (l := laws_markTermSS_l6) (fun x => 64 * ((x.length + 0) + 1)) (fun m v k => by simp only [laws_markTermSS_l6, laws_markTermSS_b6]; rw [ltF (Nat.le_refl _)]; rfl) (fun x k h0 hb => by
  obtain ⟨y1, c1, b1, m1⟩ := mk_TermS x k (by omega) (by omega)
  refine ⟨y1, c1, by omega, fun m d r hd => ?_⟩
  simp only [laws_markTermSS_l6, laws_markTermSS_b6]
  rw [ltM]
  simp only [cond_true, getI_mid, set_midI, Option.bind_some, m1]
  rw [wsM hd]) x k h0 (by omega) (by omega)
 exact ⟨x', c, by omega, h2⟩
theorem mk_PartS (x : List impl_Part) (k : Int) (h0 : 0 ≤ k) (hb : k + 64 * (sizeL size_impl_Part x) ≤ 1099511627776) : ∃ (x' : List impl_Part) (c : Nat), c ≤ 64 * (sizeL size_impl_Part x) ∧ laws_markPartS x k = some (k + (c : Int), x') := by
 unfold laws_markPartS
 have e : sumS (fun x => 64 * ((size_impl_Part x) + 1)) x = 64 * sizeL size_impl_Part x := sumS_64 size_impl_Part x
 have hl : x.length ≤ sizeL size_impl_Part x := sizeL_len _ _
 obtain ⟨x', c, h1, h2⟩ := mark_ex (l := laws_markPartS_l6) (fun x => 64 * ((size_impl_Part x) + 1)) (fun m v k => by simp only [laws_markPartS_l6, laws_markPartS_b6]; rw [ltF (Nat.le_refl _)]; rfl) (fun x k h0 hb => by
  simp only [size_impl_Part] at hb ⊢
  have w1 : IntKind.i64.wrap (k + 1) = k + 1 := w64 _ (by omega)
  have w2 : IntKind.i64.wrap ((k + 1) + 1) = (k + 1) + 1 := w64 _ (by omega)
  obtain ⟨s3, t3⟩ := mk_Text ((k + 1) + 1) (by omega) (by omega)
  have w3 : IntKind.i64.wrap (((k + 1) + 1) + 1) = ((k + 1) + 1) + 1 := w64 _ (by omega)
  obtain ⟨y4, c4, b4, m4⟩ := mk_TermSS x.Arguments (((k + 1) + 1) + 1) (by omega) (by omega)
  refine ⟨(impl_Part.mk k (k + 1) s3 y4), 1 + 1 + 1 + c4, by omega, fun m d r hd => ?_⟩
  simp only [laws_markPartS_l6, laws_markPartS_b6]
  rw [ltM]
  simp only [cond_true, getI_mid, set_midI, Option.bind_some, w1, w2, t3, w3, m4]
  rw [wsM hd]
  rw [show (((((k + 1) + 1) + 1) + (c4 : Int)) : Int) = k + ((1 + 1 + 1 + c4 : Nat) : Int) by omega]) x k h0 (by omega) (by omega)
 exact ⟨x', c, by omega, h2⟩
theorem mk_DefinitionS (x : List impl_Definition) (k : Int) (h0 : 0 ≤ k) (hb : k + 64 * (sizeL size_impl_Definition x) ≤ 1099511627776) : ∃ (x' : List impl_Definition) (c : Nat), c ≤ 64 * (sizeL size_impl_Definition x) ∧ laws_markDefinitionS x k = some (k + (c : Int), x') := by
 unfold laws_markDefinitionS
 have e : sumS (fun x => 64 * ((size_impl_Definition x) + 1)) x = 64 * sizeL size_impl_Definition x := sumS_64 size_impl_Definition x
 have hl : x.length ≤ sizeL size_impl_Definition x := sizeL_len _ _
 obtain ⟨x', c, h1, h2⟩ := mark_ex (l := laws_markDefinitionS_l6) (fun x => 64 * ((size_impl_Definition x) + 1)) (fun m v k => by simp only [laws_markDefinitionS_l6, laws_markDefinitionS_b6]; rw [ltF (Nat.le_refl _)]; rfl) (fun x k h0 hb => by
  simp only [size_impl_Definition] at hb ⊢
  obtain ⟨s1, t1⟩ := mk_Text k (by omega) (by omega)
  have w1 : IntKind.i64.wrap (k + 1) = k + 1 := w64 _ (by omega)
  have w2 : IntKind.i64.wrap ((k + 1) + 1) = (k + 1) + 1 := w64 _ (by omega)
  obtain ⟨y3, c3, b3, m3⟩ := mk_PartS x.Body ((k + 1) + 1) (by omega) (by omega)
  refine ⟨(impl_Definition.mk s1 (k + 1) y3), 1 + 1 + c3, by omega, fun m d r hd => ?_⟩
  simp only [laws_markDefinitionS_l6, laws_markDefinitionS_b6]
  rw [ltM]
  simp only [cond_true, getI_mid, set_midI, Option.bind_some, t1, w1, w2, m3]
  rw [wsM hd]
  rw [show ((((k + 1) + 1) + (c3 : Int)) : Int) = k + ((1 + 1 + c3 : Nat) : Int) by omega]) x k h0 (by omega) (by omega)
 exact ⟨x', c, by omega, h2⟩
theorem mk_Int64S (x : List Int) (k : Int) (h0 : 0 ≤ k) (hb : k + 64 * (x.length + 0) ≤ 1099511627776) : ∃ (x' : List Int) (c : Nat), c ≤ 64 * (x.length + 0) ∧ laws_markInt64S x k = some (k + (c : Int), x') ∧ laws_heldInt64S x' k = some (k + (c : Int)) := by
 unfold laws_markInt64S laws_heldInt64S
 have e : sumS (fun _ => 64) x = 64 * x.length := sumS_c 64 x
 obtain ⟨x', c, h1, h2, h3⟩ := held_ex (l := laws_markInt64S_l6) (hl := laws_heldInt64S_l6) (fun _ => 64) (fun m v k => by simp only [laws_markInt64S_l6, laws_markInt64S_b6]; rw [ltF (Nat.le_refl _)]; rfl) (fun a m k => by simp only [laws_heldInt64S_l6, laws_heldInt64S_b6]; rw [ltF (Nat.le_refl _)]; rfl) (fun x k h0 hb => by
  have w1 : IntKind.i64.wrap (k + 1) = k + 1 := w64 _ (by omega)
  refine ⟨k, 1, by omega, fun m d r hd => ⟨?_, ?_⟩⟩
  ·simp only [laws_markInt64S_l6, laws_markInt64S_b6]
   rw [ltM]
   simp only [cond_true, getI_mid, set_midI, Option.bind_some, w1]
   rw [wsM hd]
   rw [show ((k + 1) : Int) = k + ((1 : Nat) : Int) by omega]
  ·simp only [laws_heldInt64S_l6, laws_heldInt64S_b6]
   rw [ltM]
   simp only [cond_true, cond_false, getI_mid, Option.bind_some, bne_self_eq_false, beq_self_eq_true, Bool.not_true, w1]
   rw [wsM hd]
   rw [show ((k + 1) : Int) = k + ((1 : Nat) : Int) by omega]) x k h0 (by omega) (by omega)
 exact ⟨x', c, by omega, h2, h3⟩
end Go.Sh
