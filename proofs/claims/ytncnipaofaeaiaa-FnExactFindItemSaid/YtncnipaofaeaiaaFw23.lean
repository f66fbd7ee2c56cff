/- Part of a proof that a law returns true for every input. No condition. -/
import Derived.Test.YtncnipaofaeaiaaFw22
namespace Go.Fw

/-- An order that a drawn region may run in. -/
def Lin (afters : List (List Nat)) (l : List Nat) : Prop :=
  l.Nodup ∧ (∀ i, i ∈ l ↔ i < afters.length) ∧ ∀ u i v, l = u ++ i :: v → ∀ e ∈ (afters[i]?).getD [], e ∈ u

def aftersOf (ops : Array Oper) : List (List Nat) := ops.toList.map fun o => (o.after.toList.filter fun e => Region.binds .any e).map (·.on)

def backB (afters : List (List Nat)) : Bool := afters.zipIdx.all fun p => p.1.all fun e => decide (e < p.2)

theorem backB_spec {afters : List (List Nat)} (h : backB afters = true) {i : Nat} {l : List Nat} (hi : afters[i]? = some l) : ∀ e ∈ l, e < i := by
  intro e he
  simp only [backB, List.all_eq_true] at h
  have := h (l, i) (by rw [List.mem_zipIdx_iff_getElem?]; exact hi) e he
  simpa using this

theorem lin_go {ops : Array Oper} (hb : backB (aftersOf ops) = true) : ∀ (fuel t : Nat) (listed : Array Bool), listed.size = ops.size → ((List.range ops.size).filter fun i => !listed.getD i true).length ≤ fuel →
    (Region.linearise.go .any ops fuel t listed []).Nodup ∧ (∀ i, i ∈ Region.linearise.go .any ops fuel t listed [] ↔ (i < ops.size ∧ listed.getD i true = false)) ∧
      ∀ u i v, Region.linearise.go .any ops fuel t listed [] = u ++ i :: v → ∀ e ∈ ((aftersOf ops)[i]?).getD [], listed.getD e false = true ∨ e ∈ u := by
  intro fuel
  induction fuel with
  | zero =>
    intro t listed hs hl
    have hnil : ((List.range ops.size).filter fun i => !listed.getD i true) = [] := List.length_eq_zero_iff.1 (Nat.le_zero.1 hl)
    refine ⟨by simp [Region.linearise.go], fun i => ?_, fun u i v h => by simp [Region.linearise.go] at h⟩
    simp only [Region.linearise.go, List.reverse_nil, List.not_mem_nil, false_iff, not_and]
    intro hi hf
    have : i ∈ ((List.range ops.size).filter fun i => !listed.getD i true) := List.mem_filter.2 ⟨List.mem_range.2 hi, by rw [hf]; rfl⟩
    rw [hnil] at this; cases this
  | succ fuel ih =>
    intro t listed hs hl
    have hready : ∀ i, i ∈ Region.ready .any ops listed ↔ (i < ops.size ∧ listed.getD i true = false ∧ ∀ e ∈ ((aftersOf ops)[i]?).getD [], listed.getD e false = true) := by
      intro i
      simp only [Region.ready, List.mem_filter, List.mem_range, Bool.and_eq_true, Bool.not_eq_true']
      constructor
      · rintro ⟨h1, h2, h3⟩
        refine ⟨h1, h2, ?_⟩
        rw [Array.getElem?_eq_getElem h1] at h3
        simp only [Option.map_some, Option.getD_some, Array.all_eq_true_iff_forall_mem] at h3
        simp only [aftersOf, List.getElem?_map, Array.getElem?_toList, Array.getElem?_eq_getElem h1, Option.map_some, Option.getD_some, List.mem_map, List.mem_filter]
        rintro e ⟨x, ⟨hx, hbx⟩, rfl⟩
        have := h3 x (by simpa using hx)
        simpa [hbx] using this
      · rintro ⟨h1, h2, h3⟩
        refine ⟨h1, h2, ?_⟩
        rw [Array.getElem?_eq_getElem h1]
        simp only [Option.map_some, Option.getD_some, Array.all_eq_true_iff_forall_mem]
        simp only [aftersOf, List.getElem?_map, Array.getElem?_toList, Array.getElem?_eq_getElem h1, Option.map_some, Option.getD_some, List.mem_map, List.mem_filter] at h3
        intro x hx
        cases hbx : Region.binds .any x with
        | false => simp
        | true => simpa using h3 x.on ⟨x, ⟨by simpa using hx, hbx⟩, rfl⟩
    have hex : (∃ i, i < ops.size ∧ listed.getD i true = false) → Region.ready .any ops listed ≠ [] := by
      rintro ⟨i, h1, h2⟩
      -- the least one not listed is ready
      have : ∃ i, (i < ops.size ∧ listed.getD i true = false) ∧ ∀ j, j < i → ¬ (j < ops.size ∧ listed.getD j true = false) := by
        induction i using Nat.strongRecOn with
        | _ i ihi =>
          by_cases hj : ∃ j, j < i ∧ (j < ops.size ∧ listed.getD j true = false)
          · obtain ⟨j, hj1, hj2, hj3⟩ := hj
            exact ihi j hj1 hj2 hj3
          · exact ⟨i, ⟨h1, h2⟩, fun j hji hc => hj ⟨j, hji, hc⟩⟩
      obtain ⟨k, ⟨k1, k2⟩, k3⟩ := this
      have : k ∈ Region.ready .any ops listed := (hready k).2 ⟨k1, k2, fun e he => by
        cases ha : (aftersOf ops)[k]? with
        | none => rw [ha] at he; simp at he
        | some l =>
          rw [ha] at he
          have hlt := backB_spec hb ha e he
          have := k3 e hlt
          rw [not_and] at this
          have := this (by omega)
          have he' : e < listed.size := by omega
          simp only [Array.getD_eq_getD_getElem?, Array.getElem?_eq_getElem he', Option.getD_some] at this ⊢
          simpa using this⟩
      intro e; rw [e] at this; cases this
    have hgo : Region.linearise.go .any ops (fuel + 1) t listed [] = (match (Region.ready .any ops listed)[t % (Region.ready .any ops listed).length]? with
      | some i => Region.linearise.go .any ops fuel (t / (Region.ready .any ops listed).length) (listed.setIfInBounds i true) [i]
      | none => []) := rfl
    cases hpick : (Region.ready .any ops listed)[t % (Region.ready .any ops listed).length]? with
    | none =>
      have hnil : Region.ready .any ops listed = [] := by
        cases hr : Region.ready .any ops listed with
        | nil => rfl
        | cons a l =>
          rw [hr] at hpick
          have := List.getElem?_eq_none_iff.1 hpick
          have h2 := Nat.mod_lt t (show 0 < (a :: l).length by simp)
          omega
      rw [hgo, hpick]
      refine ⟨by simp, fun i => ?_, fun u i v h => by simp at h⟩
      simp only [List.not_mem_nil, false_iff]
      intro hi
      exact hex ⟨i, hi⟩ hnil
    | some i =>
      have hi := (hready i).1 (List.mem_of_getElem? hpick)
      obtain ⟨hi1, hi2, hi3⟩ := hi
      rw [hgo, hpick]
      simp only
      rw [linearise_go_acc]
      simp only [List.reverse_singleton, List.singleton_append]
      have hset : ∀ j d, (listed.setIfInBounds i true).getD j d = if j = i then true else listed.getD j d := by
        intro j d
        split
        · rename_i e; subst e
          simp [Array.getD_eq_getD_getElem?, Array.getElem?_setIfInBounds_self_of_lt (show j < listed.size by omega)]
        · rename_i e
          simp [Array.getD_eq_getD_getElem?, Array.getElem?_setIfInBounds_ne (fun h => e h.symm)]
      obtain ⟨g1, g2, g3⟩ := ih (t / (Region.ready .any ops listed).length) (listed.setIfInBounds i true) (by simpa using hs) (by
        have hsub : ((List.range ops.size).filter fun j => !(listed.setIfInBounds i true).getD j true) = ((List.range ops.size).filter fun i => !listed.getD i true).filter fun j => decide (j ≠ i) := by
          rw [List.filter_filter]
          apply List.filter_congr
          intro j _
          rw [hset]
          by_cases e : j = i <;> simp [e]
        rw [hsub]
        have hlt : (((List.range ops.size).filter fun i => !listed.getD i true).filter fun j => decide (j ≠ i)).length < ((List.range ops.size).filter fun i => !listed.getD i true).length := by
          rw [List.length_filter_lt_length_iff_exists]
          exact ⟨i, List.mem_filter.2 ⟨List.mem_range.2 hi1, by rw [hi2]; rfl⟩, by simp⟩
        omega)
      refine ⟨?_, fun j => ?_, ?_⟩
      · rw [List.nodup_cons]
        refine ⟨fun hm => ?_, g1⟩
        have := ((g2 i).1 hm).2
        rw [hset, if_pos rfl] at this; cases this
      · rw [List.mem_cons, g2, hset]
        by_cases e : j = i
        · subst e; simp [hi1, hi2]
        · simp [e]
      · intro u j v h e he
        cases u with
        | nil =>
          simp only [List.nil_append, List.cons.injEq] at h
          obtain ⟨rfl, rfl⟩ := h
          exact .inl (hi3 e he)
        | cons u0 u =>
          simp only [List.cons_append, List.cons.injEq] at h
          obtain ⟨rfl, h⟩ := h
          rcases g3 u j v h e he with h' | h'
          · rw [hset] at h'
            split at h'
            · rename_i e'; subst e'; exact .inr (by simp)
            · exact .inl h'
          · exact .inr (by simp [h'])

theorem lin_linearise {ops : Array Oper} (hb : backB (aftersOf ops) = true) (t : Nat) : Lin (aftersOf ops) (Region.linearise .any ops t) := by
  have hrep : ∀ i d, i < ops.size → (Array.replicate ops.size false).getD i d = false := by
    intro i d hi
    simp [Array.getD_eq_getD_getElem?, hi]
  obtain ⟨g1, g2, g3⟩ := lin_go hb ops.size t (Array.replicate ops.size false) (by simp) (by
    have := List.length_filter_le (fun i => !(Array.replicate ops.size false).getD i true) (List.range ops.size)
    simpa using this)
  have hlen : (aftersOf ops).length = ops.size := by simp [aftersOf]
  refine ⟨g1, fun i => ?_, fun u i v h e he => ?_⟩
  · rw [hlen]
    rw [show Region.linearise .any ops t = Region.linearise.go .any ops ops.size t (Array.replicate ops.size false) [] from rfl, g2]
    exact ⟨fun h => h.1, fun h => ⟨h, hrep i true h⟩⟩
  · rcases g3 u i v h e he with h' | h'
    · exfalso
      by_cases hes : e < ops.size
      · rw [hrep e false hes] at h'; cases h'
      · simp [Array.getD_eq_getD_getElem?, hes] at h'
    · exact h'

end Go.Fw
