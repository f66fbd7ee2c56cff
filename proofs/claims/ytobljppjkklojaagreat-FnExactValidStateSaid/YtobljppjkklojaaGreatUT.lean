/- Part of a proof that a law returns true for every input. No condition. -/
import Derived.Test.YtobljppjkklojaaGreatP8
import Derived.Test.YtobljppjkklojaaGreatUG
namespace Go.Sh
open Go Go.Fw
set_option linter.unusedSimpArgs false
theorem sz_TermS (x : List laws_Term) (n : Int) (hx : (x.length ≤ 9223372036854775807 ∧ ∀ y ∈ x, wf_laws_Term y)) (h0 : 0 ≤ n) (hn : n ≤ 1048576) : laws_szTermS x n = some (bud n (x.length + 0)) := by
 unfold laws_szTermS
 refine st_len hx.1 h0 hn fun h => ?_
 rw [w64 _ (by omega)]
 exact st_end (by omega)
theorem sz_TermSS (x : List (List laws_Term)) (n : Int) (hx : (x.length ≤ 9223372036854775807 ∧ ∀ y ∈ x, (y.length ≤ 9223372036854775807 ∧ ∀ z ∈ y, wf_laws_Term z))) (h0 : 0 ≤ n) (hn : n ≤ 1048576) : laws_szTermSS x n = some (bud n (sizeL (fun x => x.length + 0) x)) := by
 unfold laws_szTermSS
 refine st_len hx.1 h0 hn fun h => ?_
 rw [w64 _ (by omega)]
 exact sz_loop (f := laws_szTermS) (fun x => x.length + 0) x (fun _ _ _ => rfl) (fun y hy n h0 hn => sz_TermS y n (hx.2 y hy) h0 hn) (by omega) _ (by omega) (by omega)
def size_laws_Part (x : laws_Part) : Nat := (x.Name.length + ((sizeL (fun x => x.length + 0) x.Arguments) + 0))
theorem sz_Part (x : laws_Part) (n : Int) (hx : wf_laws_Part x) (h0 : 0 ≤ n) (hn : n ≤ 1048576) : laws_szPart x n = some (bud n (size_laws_Part x)) := by
 unfold laws_szPart
 unfold size_laws_Part
 obtain ⟨w0, w1, w2, w3⟩ := hx
 refine st_len w2 (by omega) (by omega) fun c2 => ?_
 rw [w64 (n - (x.Name.length : Int)) (by omega)]
 refine st_call (sz_TermSS _ _ w3 (by omega) (by omega)) fun c3 => ?_
 exact st_end (by omega)
theorem sz_PartS (x : List laws_Part) (n : Int) (hx : (x.length ≤ 9223372036854775807 ∧ ∀ y ∈ x, wf_laws_Part y)) (h0 : 0 ≤ n) (hn : n ≤ 1048576) : laws_szPartS x n = some (bud n (sizeL size_laws_Part x)) := by
 unfold laws_szPartS
 refine st_len hx.1 h0 hn fun h => ?_
 rw [w64 _ (by omega)]
 exact sz_loop (f := laws_szPart) size_laws_Part x (fun _ _ _ => rfl) (fun y hy n h0 hn => sz_Part y n (hx.2 y hy) h0 hn) (by omega) _ (by omega) (by omega)
def size_laws_Definition (x : laws_Definition) : Nat := (x.Name.length + ((sizeL size_laws_Part x.Body) + 0))
theorem sz_Definition (x : laws_Definition) (n : Int) (hx : wf_laws_Definition x) (h0 : 0 ≤ n) (hn : n ≤ 1048576) : laws_szDefinition x n = some (bud n (size_laws_Definition x)) := by
 unfold laws_szDefinition
 unfold size_laws_Definition
 obtain ⟨w0, w1, w2⟩ := hx
 refine st_len w0 (by omega) (by omega) fun c0 => ?_
 rw [w64 (n - (x.Name.length : Int)) (by omega)]
 refine st_call (sz_PartS _ _ w2 (by omega) (by omega)) fun c2 => ?_
 exact st_end (by omega)
theorem sz_DefinitionS (x : List laws_Definition) (n : Int) (hx : (x.length ≤ 9223372036854775807 ∧ ∀ y ∈ x, wf_laws_Definition y)) (h0 : 0 ≤ n) (hn : n ≤ 1048576) : laws_szDefinitionS x n = some (bud n (sizeL size_laws_Definition x)) := by
 unfold laws_szDefinitionS
 refine st_len hx.1 h0 hn fun h => ?_
 rw [w64 _ (by omega)]
 exact sz_loop (f := laws_szDefinition) size_laws_Definition x (fun _ _ _ => rfl) (fun y hy n h0 hn => sz_Definition y n (hx.2 y hy) h0 hn) (by omega) _ (by omega) (by omega)
theorem sz_Int64S (x : List Int) (n : Int) (hx : (x.length ≤ 9223372036854775807 ∧ ∀ y ∈ x, (-9223372036854775808 ≤ y ∧ y ≤ 9223372036854775807))) (h0 : 0 ≤ n) (hn : n ≤ 1048576) : laws_szInt64S x n = some (bud n (x.length + 0)) := by
 unfold laws_szInt64S
 refine st_len hx.1 h0 hn fun h => ?_
 rw [w64 _ (by omega)]
 exact st_end (by omega)
def size_laws_Component (x : laws_Component) : Nat := ((x.Values.length + 0) + 0)
theorem sz_Component (x : laws_Component) (n : Int) (hx : wf_laws_Component x) (h0 : 0 ≤ n) (hn : n ≤ 1048576) : laws_szComponent x n = some (bud n (size_laws_Component x)) := by
 unfold laws_szComponent
 unfold size_laws_Component
 obtain ⟨w0, w1⟩ := hx
 refine st_call (sz_Int64S _ _ w1 (by omega) (by omega)) fun c1 => ?_
 exact st_end (by omega)
theorem sz_ComponentS (x : List laws_Component) (n : Int) (hx : (x.length ≤ 9223372036854775807 ∧ ∀ y ∈ x, wf_laws_Component y)) (h0 : 0 ≤ n) (hn : n ≤ 1048576) : laws_szComponentS x n = some (bud n (sizeL size_laws_Component x)) := by
 unfold laws_szComponentS
 refine st_len hx.1 h0 hn fun h => ?_
 rw [w64 _ (by omega)]
 exact sz_loop (f := laws_szComponent) size_laws_Component x (fun _ _ _ => rfl) (fun y hy n h0 hn => sz_Component y n (hx.2 y hy) h0 hn) (by omega) _ (by omega) (by omega)
def size_laws_Meeting (x : laws_Meeting) : Nat := (x.Left.length + (x.Right.length + (x.Result.length + 0)))
theorem sz_Meeting (x : laws_Meeting) (n : Int) (hx : wf_laws_Meeting x) (h0 : 0 ≤ n) (hn : n ≤ 1048576) : laws_szMeeting x n = some (bud n (size_laws_Meeting x)) := by
 unfold laws_szMeeting
 unfold size_laws_Meeting
 obtain ⟨w0, w1, w2⟩ := hx
 refine st_len w0 (by omega) (by omega) fun c0 => ?_
 rw [w64 (n - (x.Left.length : Int)) (by omega)]
 refine st_len w1 (by omega) (by omega) fun c1 => ?_
 rw [w64 ((n - (x.Left.length : Int)) - (x.Right.length : Int)) (by omega)]
 refine st_len w2 (by omega) (by omega) fun c2 => ?_
 rw [w64 (((n - (x.Left.length : Int)) - (x.Right.length : Int)) - (x.Result.length : Int)) (by omega)]
 exact st_end (by omega)
theorem sz_MeetingS (x : List laws_Meeting) (n : Int) (hx : (x.length ≤ 9223372036854775807 ∧ ∀ y ∈ x, wf_laws_Meeting y)) (h0 : 0 ≤ n) (hn : n ≤ 1048576) : laws_szMeetingS x n = some (bud n (sizeL size_laws_Meeting x)) := by
 unfold laws_szMeetingS
 refine st_len hx.1 h0 hn fun h => ?_
 rw [w64 _ (by omega)]
 exact sz_loop (f := laws_szMeeting) size_laws_Meeting x (fun _ _ _ => rfl) (fun y hy n h0 hn => sz_Meeting y n (hx.2 y hy) h0 hn) (by omega) _ (by omega) (by omega)
theorem sz_StringS (x : List (List UInt8)) (n : Int) (hx : (x.length ≤ 9223372036854775807 ∧ ∀ y ∈ x, y.length ≤ 9223372036854775807)) (h0 : 0 ≤ n) (hn : n ≤ 1048576) : laws_szStringS x n = some (bud n (sizeL List.length x)) := by
 unfold laws_szStringS
 refine st_len hx.1 h0 hn fun h => ?_
 rw [w64 _ (by omega)]
 exact sz_strs x (fun _ _ _ => rfl) hx.2 (by omega) _ (by omega) (by omega)
def size_laws_System (x : laws_System) : Nat := ((sizeL size_laws_Definition x.Definitions) + ((sizeL size_laws_Component x.Components) + ((sizeL size_laws_Meeting x.Meetings) + ((sizeL List.length x.Allowed) + ((sizeL List.length x.Hidden) + 0)))))
theorem sz_System (x : laws_System) (n : Int) (hx : wf_laws_System x) (h0 : 0 ≤ n) (hn : n ≤ 1048576) : laws_szSystem x n = some (bud n (size_laws_System x)) := by
 unfold laws_szSystem
 unfold size_laws_System
 obtain ⟨w0, w1, w2, w3, w4⟩ := hx
 refine st_call (sz_DefinitionS _ _ w0 (by omega) (by omega)) fun c0 => ?_
 refine st_call (sz_ComponentS _ _ w1 (by omega) (by omega)) fun c1 => ?_
 refine st_call (sz_MeetingS _ _ w2 (by omega) (by omega)) fun c2 => ?_
 refine st_call (sz_StringS _ _ w3 (by omega) (by omega)) fun c3 => ?_
 refine st_call (sz_StringS _ _ w4 (by omega) (by omega)) fun c4 => ?_
 exact st_end (by omega)
def size_laws_Point (x : laws_Point) : Nat := ((x.Values.length + 0) + 0)
theorem sz_Point (x : laws_Point) (n : Int) (hx : wf_laws_Point x) (h0 : 0 ≤ n) (hn : n ≤ 1048576) : laws_szPoint x n = some (bud n (size_laws_Point x)) := by
 unfold laws_szPoint
 unfold size_laws_Point
 obtain ⟨w0, w1, w2⟩ := hx
 refine st_call (sz_Int64S _ _ w2 (by omega) (by omega)) fun c2 => ?_
 exact st_end (by omega)
theorem sz_PointS (x : List laws_Point) (n : Int) (hx : (x.length ≤ 9223372036854775807 ∧ ∀ y ∈ x, wf_laws_Point y)) (h0 : 0 ≤ n) (hn : n ≤ 1048576) : laws_szPointS x n = some (bud n (sizeL size_laws_Point x)) := by
 unfold laws_szPointS
 refine st_len hx.1 h0 hn fun h => ?_
 rw [w64 _ (by omega)]
 exact sz_loop (f := laws_szPoint) size_laws_Point x (fun _ _ _ => rfl) (fun y hy n h0 hn => sz_Point y n (hx.2 y hy) h0 hn) (by omega) _ (by omega) (by omega)
def conv_laws_Term (x : laws_Term) : impl_Term := ⟨x.Kind, x.Value⟩
theorem to_Term (x : laws_Term) : laws_toTerm x = some (conv_laws_Term x) := by
 unfold laws_toTerm
 rfl
theorem to_TermS (x : List laws_Term) (h : (x.length + 0) ≤ 1048576) : laws_toTermS x = some (x.map conv_laws_Term) := by
 unfold laws_toTermS
 have hl : x.length ≤ 1048576 := by omega
 rw [mkOk_small _ hl (by decide)]
 simp only [Option.bind_some]
 rw [to_loop (f := laws_toTerm) conv_laws_Term x _ (fun _ _ _ => rfl) (fun y hy => to_Term y) hl]
theorem to_TermSS (x : List (List laws_Term)) (h : (sizeL (fun x => x.length + 0) x) ≤ 1048576) : laws_toTermSS x = some (x.map (List.map conv_laws_Term)) := by
 unfold laws_toTermSS
 have hl : x.length ≤ 1048576 := Nat.le_trans (sizeL_len _ _) h
 rw [mkOk_small _ hl (by decide)]
 simp only [Option.bind_some]
 rw [to_loop (f := laws_toTermS) (List.map conv_laws_Term) x _ (fun _ _ _ => rfl) (fun y hy => to_TermS y (Nat.le_trans (sizeL_mem (f := (fun x => x.length + 0)) hy) h)) hl]
def conv_laws_Part (x : laws_Part) : impl_Part := ⟨x.Kind, x.Number, x.Name, (x.Arguments.map (List.map conv_laws_Term))⟩
def size_impl_Part (x : impl_Part) : Nat := (x.Name.length + ((sizeL (fun x => x.length + 0) x.Arguments) + 0))
theorem sc_laws_Part (x : laws_Part) : size_impl_Part (conv_laws_Part x) = size_laws_Part x := by
 simp only [size_impl_Part, size_laws_Part, conv_laws_Part, sizeL_map, List.length_map]
theorem to_Part (x : laws_Part) (h : (size_laws_Part x) ≤ 1048576) : laws_toPart x = some (conv_laws_Part x) := by
 unfold laws_toPart
 unfold size_laws_Part at h
 rw [to_TermSS _ (by omega)]
 rfl
theorem to_PartS (x : List laws_Part) (h : (sizeL size_laws_Part x) ≤ 1048576) : laws_toPartS x = some (x.map conv_laws_Part) := by
 unfold laws_toPartS
 have hl : x.length ≤ 1048576 := Nat.le_trans (sizeL_len _ _) h
 rw [mkOk_small _ hl (by decide)]
 simp only [Option.bind_some]
 rw [to_loop (f := laws_toPart) conv_laws_Part x _ (fun _ _ _ => rfl) (fun y hy => to_Part y (Nat.le_trans (sizeL_mem (f := size_laws_Part) hy) h)) hl]
def conv_laws_Definition (x : laws_Definition) : impl_Definition := ⟨x.Name, x.Parameters, (x.Body.map conv_laws_Part)⟩
def size_impl_Definition (x : impl_Definition) : Nat := (x.Name.length + ((sizeL size_impl_Part x.Body) + 0))
theorem sc_laws_Definition (x : laws_Definition) : size_impl_Definition (conv_laws_Definition x) = size_laws_Definition x := by
 simp only [size_impl_Definition, size_laws_Definition, conv_laws_Definition, sizeL_map, List.length_map, sc_laws_Part]
theorem to_Definition (x : laws_Definition) (h : (size_laws_Definition x) ≤ 1048576) : laws_toDefinition x = some (conv_laws_Definition x) := by
 unfold laws_toDefinition
 unfold size_laws_Definition at h
 rw [to_PartS _ (by omega)]
 rfl
theorem to_DefinitionS (x : List laws_Definition) (h : (sizeL size_laws_Definition x) ≤ 1048576) : laws_toDefinitionS x = some (x.map conv_laws_Definition) := by
 unfold laws_toDefinitionS
 have hl : x.length ≤ 1048576 := Nat.le_trans (sizeL_len _ _) h
 rw [mkOk_small _ hl (by decide)]
 simp only [Option.bind_some]
 rw [to_loop (f := laws_toDefinition) conv_laws_Definition x _ (fun _ _ _ => rfl) (fun y hy => to_Definition y (Nat.le_trans (sizeL_mem (f := size_laws_Definition) hy) h)) hl]
theorem to_Int64S (x : List Int) (h : (x.length + 0) ≤ 1048576) : laws_toInt64S x = some x := by
 unfold laws_toInt64S
 have hl : x.length ≤ 1048576 := by omega
 rw [mkOk_small _ hl (by decide)]
 simp only [Option.bind_some]
 rw [to_loop (f := some) id x _ (fun _ _ _ => rfl) (fun _ _ => rfl) hl, List.map_id]
def conv_laws_Component (x : laws_Component) : impl_Component := ⟨x.Definition, x.Values⟩
def size_impl_Component (x : impl_Component) : Nat := ((x.Values.length + 0) + 0)
theorem sc_laws_Component (x : laws_Component) : size_impl_Component (conv_laws_Component x) = size_laws_Component x := by
 simp only [size_impl_Component, size_laws_Component, conv_laws_Component, sizeL_map, List.length_map]
theorem to_Component (x : laws_Component) (h : (size_laws_Component x) ≤ 1048576) : laws_toComponent x = some (conv_laws_Component x) := by
 unfold laws_toComponent
 unfold size_laws_Component at h
 rw [to_Int64S _ (by omega)]
 rfl
theorem to_ComponentS (x : List laws_Component) (h : (sizeL size_laws_Component x) ≤ 1048576) : laws_toComponentS x = some (x.map conv_laws_Component) := by
 unfold laws_toComponentS
 have hl : x.length ≤ 1048576 := Nat.le_trans (sizeL_len _ _) h
 rw [mkOk_small _ hl (by decide)]
 simp only [Option.bind_some]
 rw [to_loop (f := laws_toComponent) conv_laws_Component x _ (fun _ _ _ => rfl) (fun y hy => to_Component y (Nat.le_trans (sizeL_mem (f := size_laws_Component) hy) h)) hl]
def conv_laws_Meeting (x : laws_Meeting) : impl_Meeting := ⟨x.Left, x.Right, x.Result⟩
def size_impl_Meeting (x : impl_Meeting) : Nat := (x.Left.length + (x.Right.length + (x.Result.length + 0)))
theorem sc_laws_Meeting (x : laws_Meeting) : size_impl_Meeting (conv_laws_Meeting x) = size_laws_Meeting x := by
 simp only [size_impl_Meeting, size_laws_Meeting, conv_laws_Meeting, sizeL_map, List.length_map]
theorem to_Meeting (x : laws_Meeting) (h : (size_laws_Meeting x) ≤ 1048576) : laws_toMeeting x = some (conv_laws_Meeting x) := by
 unfold laws_toMeeting
 unfold size_laws_Meeting at h
 rfl
theorem to_MeetingS (x : List laws_Meeting) (h : (sizeL size_laws_Meeting x) ≤ 1048576) : laws_toMeetingS x = some (x.map conv_laws_Meeting) := by
 unfold laws_toMeetingS
 have hl : x.length ≤ 1048576 := Nat.le_trans (sizeL_len _ _) h
 rw [mkOk_small _ hl (by decide)]
 simp only [Option.bind_some]
 rw [to_loop (f := laws_toMeeting) conv_laws_Meeting x _ (fun _ _ _ => rfl) (fun y hy => to_Meeting y (Nat.le_trans (sizeL_mem (f := size_laws_Meeting) hy) h)) hl]
theorem to_StringS (x : List (List UInt8)) (h : (sizeL List.length x) ≤ 1048576) : laws_toStringS x = some x := by
 unfold laws_toStringS
 have hl : x.length ≤ 1048576 := Nat.le_trans (sizeL_len _ _) h
 rw [mkOk_small _ hl (by decide)]
 simp only [Option.bind_some]
 rw [to_loop (f := some) id x _ (fun _ _ _ => rfl) (fun _ _ => rfl) hl, List.map_id]
def conv_laws_System (x : laws_System) : impl_System := ⟨(x.Definitions.map conv_laws_Definition), (x.Components.map conv_laws_Component), (x.Meetings.map conv_laws_Meeting), x.Allowed, x.Hidden⟩
def size_impl_System (x : impl_System) : Nat := ((sizeL size_impl_Definition x.Definitions) + ((sizeL size_impl_Component x.Components) + ((sizeL size_impl_Meeting x.Meetings) + ((sizeL List.length x.Allowed) + ((sizeL List.length x.Hidden) + 0)))))
theorem sc_laws_System (x : laws_System) : size_impl_System (conv_laws_System x) = size_laws_System x := by
 simp only [size_impl_System, size_laws_System, conv_laws_System, sizeL_map, List.length_map, sc_laws_Definition, sc_laws_Component, sc_laws_Meeting]
theorem to_System (x : laws_System) (h : (size_laws_System x) ≤ 1048576) : laws_toSystem x = some (conv_laws_System x) := by
 unfold laws_toSystem
 unfold size_laws_System at h
 rw [to_DefinitionS _ (by omega), to_ComponentS _ (by omega), to_MeetingS _ (by omega), to_StringS _ (by omega), to_StringS _ (by omega)]
 rfl
def conv_laws_Point (x : laws_Point) : impl_Point := ⟨x.Definition, x.Part, x.Values⟩
def size_impl_Point (x : impl_Point) : Nat := ((x.Values.length + 0) + 0)
theorem sc_laws_Point (x : laws_Point) : size_impl_Point (conv_laws_Point x) = size_laws_Point x := by
 simp only [size_impl_Point, size_laws_Point, conv_laws_Point, sizeL_map, List.length_map]
theorem to_Point (x : laws_Point) (h : (size_laws_Point x) ≤ 1048576) : laws_toPoint x = some (conv_laws_Point x) := by
 unfold laws_toPoint
 unfold size_laws_Point at h
 rw [to_Int64S _ (by omega)]
 rfl
theorem to_PointS (x : List laws_Point) (h : (sizeL size_laws_Point x) ≤ 1048576) : laws_toPointS x = some (x.map conv_laws_Point) := by
 unfold laws_toPointS
 have hl : x.length ≤ 1048576 := Nat.le_trans (sizeL_len _ _) h
 rw [mkOk_small _ hl (by decide)]
 simp only [Option.bind_some]
 rw [to_loop (f := laws_toPoint) conv_laws_Point x _ (fun _ _ _ => rfl) (fun y hy => to_Point y (Nat.le_trans (sizeL_mem (f := size_laws_Point) hy) h)) hl]
theorem eq_Term (x : impl_Term) : laws_eqTerm x x = some true := by
 unfold laws_eqTerm
 simp only [neI, neS, neB, cond_false, Option.bind_some, Bool.not_true]
theorem eq_TermS (x : List impl_Term) (h : (x.length + 0) ≤ 1048576) : laws_eqTermS x x = some true := by
 unfold laws_eqTermS
 have hl : x.length ≤ 1048576 := by omega
 rw [neL, cond_false]
 exact eq_loop (f := laws_eqTerm) x (fun _ _ => rfl) (fun y hy => eq_Term y) hl
theorem eq_TermSS (x : List (List impl_Term)) (h : (sizeL (fun x => x.length + 0) x) ≤ 1048576) : laws_eqTermSS x x = some true := by
 unfold laws_eqTermSS
 have hl : x.length ≤ 1048576 := Nat.le_trans (sizeL_len _ _) h
 rw [neL, cond_false]
 exact eq_loop (f := laws_eqTermS) x (fun _ _ => rfl) (fun y hy => eq_TermS y (Nat.le_trans (sizeL_mem (f := (fun x => x.length + 0)) hy) h)) hl
theorem eq_Part (x : impl_Part) (h : (size_impl_Part x) ≤ 1048576) : laws_eqPart x x = some true := by
 unfold laws_eqPart
 unfold size_impl_Part at h
 simp only [neI, neS, neB, cond_false, Option.bind_some, Bool.not_true, eq_TermSS x.Arguments (by omega)]
theorem eq_PartS (x : List impl_Part) (h : (sizeL size_impl_Part x) ≤ 1048576) : laws_eqPartS x x = some true := by
 unfold laws_eqPartS
 have hl : x.length ≤ 1048576 := Nat.le_trans (sizeL_len _ _) h
 rw [neL, cond_false]
 exact eq_loop (f := laws_eqPart) x (fun _ _ => rfl) (fun y hy => eq_Part y (Nat.le_trans (sizeL_mem (f := size_impl_Part) hy) h)) hl
theorem eq_Definition (x : impl_Definition) (h : (size_impl_Definition x) ≤ 1048576) : laws_eqDefinition x x = some true := by
 unfold laws_eqDefinition
 unfold size_impl_Definition at h
 simp only [neI, neS, neB, cond_false, Option.bind_some, Bool.not_true, eq_PartS x.Body (by omega)]
theorem eq_DefinitionS (x : List impl_Definition) (h : (sizeL size_impl_Definition x) ≤ 1048576) : laws_eqDefinitionS x x = some true := by
 unfold laws_eqDefinitionS
 have hl : x.length ≤ 1048576 := Nat.le_trans (sizeL_len _ _) h
 rw [neL, cond_false]
 exact eq_loop (f := laws_eqDefinition) x (fun _ _ => rfl) (fun y hy => eq_Definition y (Nat.le_trans (sizeL_mem (f := size_impl_Definition) hy) h)) hl
theorem eq_Int64S (x : List Int) (h : (x.length + 0) ≤ 1048576) : laws_eqInt64S x x = some true := by
 unfold laws_eqInt64S
 have hl : x.length ≤ 1048576 := by omega
 rw [neL, cond_false]
 exact eq_loopS x (fun _ _ => rfl) neI hl
theorem eq_Component (x : impl_Component) (h : (size_impl_Component x) ≤ 1048576) : laws_eqComponent x x = some true := by
 unfold laws_eqComponent
 unfold size_impl_Component at h
 simp only [neI, neS, neB, cond_false, Option.bind_some, Bool.not_true, eq_Int64S x.Values (by omega)]
theorem eq_ComponentS (x : List impl_Component) (h : (sizeL size_impl_Component x) ≤ 1048576) : laws_eqComponentS x x = some true := by
 unfold laws_eqComponentS
 have hl : x.length ≤ 1048576 := Nat.le_trans (sizeL_len _ _) h
 rw [neL, cond_false]
 exact eq_loop (f := laws_eqComponent) x (fun _ _ => rfl) (fun y hy => eq_Component y (Nat.le_trans (sizeL_mem (f := size_impl_Component) hy) h)) hl
theorem eq_Meeting (x : impl_Meeting) (h : (size_impl_Meeting x) ≤ 1048576) : laws_eqMeeting x x = some true := by
 unfold laws_eqMeeting
 unfold size_impl_Meeting at h
 simp only [neI, neS, neB, cond_false, Option.bind_some, Bool.not_true]
theorem eq_MeetingS (x : List impl_Meeting) (h : (sizeL size_impl_Meeting x) ≤ 1048576) : laws_eqMeetingS x x = some true := by
 unfold laws_eqMeetingS
 have hl : x.length ≤ 1048576 := Nat.le_trans (sizeL_len _ _) h
 rw [neL, cond_false]
 exact eq_loop (f := laws_eqMeeting) x (fun _ _ => rfl) (fun y hy => eq_Meeting y (Nat.le_trans (sizeL_mem (f := size_impl_Meeting) hy) h)) hl
theorem eq_StringS (x : List (List UInt8)) (h : (sizeL List.length x) ≤ 1048576) : laws_eqStringS x x = some true := by
 unfold laws_eqStringS
 have hl : x.length ≤ 1048576 := Nat.le_trans (sizeL_len _ _) h
 rw [neL, cond_false]
 exact eq_loopS x (fun _ _ => rfl) neS hl
theorem eq_System (x : impl_System) (h : (size_impl_System x) ≤ 1048576) : laws_eqSystem x x = some true := by
 unfold laws_eqSystem
 unfold size_impl_System at h
 simp only [neI, neS, neB, cond_false, Option.bind_some, Bool.not_true, eq_DefinitionS x.Definitions (by omega), eq_ComponentS x.Components (by omega), eq_MeetingS x.Meetings (by omega), eq_StringS x.Allowed (by omega), eq_StringS x.Hidden (by omega)]
theorem eq_Point (x : impl_Point) (h : (size_impl_Point x) ≤ 1048576) : laws_eqPoint x x = some true := by
 unfold laws_eqPoint
 unfold size_impl_Point at h
 simp only [neI, neS, neB, cond_false, Option.bind_some, Bool.not_true, eq_Int64S x.Values (by omega)]
theorem eq_PointS (x : List impl_Point) (h : (sizeL size_impl_Point x) ≤ 1048576) : laws_eqPointS x x = some true := by
 unfold laws_eqPointS
 have hl : x.length ≤ 1048576 := Nat.le_trans (sizeL_len _ _) h
 rw [neL, cond_false]
 exact eq_loop (f := laws_eqPoint) x (fun _ _ => rfl) (fun y hy => eq_Point y (Nat.le_trans (sizeL_mem (f := size_impl_Point) hy) h)) hl
end Go.Sh
