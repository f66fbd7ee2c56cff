/- Part of a proof that a law returns true for every input. No condition. -/
import Derived.Test.YtncnipaofaeaiaaFw30
namespace Go.Fw

/-! Drawn regions: any order gives what the order of the text gives. -/

def closGo : List (List Nat) → List (List Nat) → List (List Nat)
  | done, [] => done
  | done, a :: r => closGo (done ++ [a ++ a.flatMap fun e => (done[e]?).getD []]) r

/-- For each step all that must come before it. -/
def clos (af : List (List Nat)) : List (List Nat) := closGo [] af

theorem closGo_spec {af : List (List Nat)} {l : List Nat} (hl : ∀ u i v, l = u ++ i :: v → ∀ e ∈ (af[i]?).getD [], e ∈ u) : ∀ (rest pre done : List (List Nat)), af = pre ++ rest → done.length = pre.length →
    (∀ u i v, l = u ++ i :: v → ∀ e ∈ (done[i]?).getD [], e ∈ u) → ∀ u i v, l = u ++ i :: v → ∀ e ∈ ((closGo done rest)[i]?).getD [], e ∈ u := by
  intro rest
  induction rest with
  | nil => intro pre done _ _ h; exact h
  | cons a rest ih =>
    intro pre done haf hlen h
    simp only [closGo]
    refine ih (pre ++ [a]) _ (by simp [haf]) (by simp [hlen]) ?_
    intro u i v hu e he
    by_cases hi : i < done.length
    · rw [List.getElem?_append_left hi] at he
      exact h u i v hu e he
    · rw [List.getElem?_append_right (by omega)] at he
      by_cases hi' : i - done.length = 0
      · rw [hi'] at he
        simp only [List.getElem?_cons_zero, Option.getD_some, List.mem_append, List.mem_flatMap] at he
        have hia : (af[i]?).getD [] = a := by
          have : i = pre.length := by omega
          rw [haf, this, List.getElem?_append_right (Nat.le_refl _)]; simp
        rcases he with he | ⟨e', he', he⟩
        · exact hl u i v hu e (by rw [hia]; exact he)
        · have hu' := hl u i v hu e' (by rw [hia]; exact he')
          obtain ⟨u1, u2, rfl⟩ := List.append_of_mem hu'
          have := h u1 e' (u2 ++ i :: v) (by rw [hu]; simp) e he
          simp [this]
      · rw [List.getElem?_eq_none (by simp; omega)] at he
        simp at he

theorem clos_spec {af : List (List Nat)} {l : List Nat} (hl : ∀ u i v, l = u ++ i :: v → ∀ e ∈ (af[i]?).getD [], e ∈ u) : ∀ u i v, l = u ++ i :: v → ∀ e ∈ ((clos af)[i]?).getD [], e ∈ u :=
  closGo_spec hl af [] [] rfl rfl fun u i v _ e he => by simp at he

def okP (cl : List (List Nat)) : Nat → List (Nat × FP) → List FP → Bool
  | _, _, [] => true
  | j, es, f :: fs => (es.all fun e => ((cl[j]?).getD []).contains e.1 || indB e.2 f) && okP cl (j + 1) ((j, f) :: es) fs

def Rl (cl : List (List Nat)) (a b : Nat × FP × List Md) : Prop := a.1 ∈ (cl[b.1]?).getD [] ∨ indB a.2.1 b.2.1 = true

theorem okP_spec {cl : List (List Nat)} : ∀ (its : List (Nat × FP × List Md)) (j : Nat) (es : List (Nat × FP)), its.map (·.1) = (List.range its.length).map (· + j) → okP cl j es (its.map (·.2.1)) = true →
    its.Pairwise (Rl cl) ∧ ∀ e ∈ es, ∀ b ∈ its, e.1 ∈ (cl[b.1]?).getD [] ∨ indB e.2 b.2.1 = true := by
  intro its
  induction its with
  | nil => intro j es _ _; exact ⟨.nil, fun e _ b hb => by cases hb⟩
  | cons a its ih =>
    intro j es hidx hok
    rw [List.length_cons, List.range_succ_eq_map, List.map_cons, List.map_cons, List.map_map] at hidx
    simp only [List.cons.injEq, Nat.zero_add] at hidx
    obtain ⟨hj, hidx⟩ := hidx
    simp only [List.map_cons, okP, Bool.and_eq_true, List.all_eq_true, Bool.or_eq_true] at hok
    obtain ⟨h1, h2⟩ := hok
    obtain ⟨g1, g2⟩ := ih (j + 1) _ (by rw [hidx]; congr 1; funext x; simp; omega) h2
    refine ⟨.cons (fun b hb => ?_) g1, fun e he b hb => ?_⟩
    · have := g2 (j, a.2.1) (by simp) b hb
      simp only [Rl, hj]; exact this
    · rcases List.mem_cons.1 hb with rfl | hb
      · rw [hj]
        exact (h1 e he).imp (fun h => by simpa using h) id
      · exact g2 e (by simp [he]) b hb

section
variable {C : Cx}

theorem wpT_chain {K : Option (List FP) → St → Prop} : ∀ (os pre : List RO) (s : St) (acc : List FP), wpT C s os (some acc) K →
    ∃ its, Chain C (pre ++ os) s its ∧ its.map (·.1) = (List.range os.length).map (· + pre.length) ∧ K (some ((its.map (·.2.1)).reverse ++ acc)) (fins s its) := by
  intro os
  induction os with
  | nil => intro pre s acc h; exact ⟨[], trivial, rfl, h⟩
  | cons o os ih =>
    intro pre s acc h
    obtain ⟨fp, ms, h1, h2⟩ := wpRT_local h
    obtain ⟨its, g1, g2, g3⟩ := ih (pre ++ [o]) _ (fp :: acc) h1
    refine ⟨(pre.length, fp, ms) :: its, ⟨⟨o, ?_, h2⟩, ?_⟩, ?_, ?_⟩
    · rw [List.getElem?_append_right (Nat.le_refl _)]; simp
    · simpa using g1
    · rw [List.length_cons, List.range_succ_eq_map, List.map_cons, List.map_cons, List.map_map, g2]
      simp only [List.cons.injEq, Nat.zero_add, true_and]
      congr 1; funext x; simp; omega
    · simpa [fins] using g3

theorem lin_run {ros : List RO} {cl : List (List Nat)} {K : St → Prop} : ∀ (l : List Nat) (its : List (Nat × FP × List Md)) (s : St), Chain C ros s its → its.Pairwise (Rl cl) → l.Nodup → (its.map (·.1)).Nodup →
    (∀ i, i ∈ l ↔ i ∈ its.map (·.1)) → (∀ u i v, l = u ++ i :: v → ∀ e ∈ (cl[i]?).getD [], e ∈ its.map (·.1) → e ∈ u) → K (fins s its) → wpI C ros s l K := by
  intro l
  induction l with
  | nil =>
    intro its s _ _ _ _ hm _ hk
    cases its with
    | nil => exact hk
    | cons e its => have := (hm e.1).2 (by simp); cases this
  | cons i l ih =>
    intro its s hc hp hn hn' hm ho hk
    obtain ⟨e, he, hi⟩ := List.mem_map.1 ((hm i).1 (by simp))
    obtain ⟨pre, post, rfl⟩ := List.append_of_mem he
    have hind : ∀ a ∈ pre, indB a.2.1 e.2.1 = true := by
      intro a ha
      have hr := (List.pairwise_append.1 hp).2.2 a ha e (by simp)
      rcases hr with hr | hr
      · rw [hi] at hr
        have := ho [] i l rfl a.1 hr (by simp only [List.map_append, List.mem_append, List.mem_map]; exact .inl ⟨a, ha, rfl⟩)
        cases this
      · exact hr
    obtain ⟨g1, g2⟩ := chain_front pre s hc hind
    obtain ⟨⟨o, ho1, ho2⟩, g3⟩ := g1
    have hni : i ∉ (pre ++ post).map (·.1) := by
      have : (pre.map (·.1) ++ e.1 :: post.map (·.1)).Nodup := by simpa using hn'
      have h' := (List.perm_middle.nodup_iff.1 this)
      rw [List.nodup_cons] at h'
      rw [← hi]; simpa using h'.1
    simp only [wpI]
    rw [← hi, ho1]
    refine ho2.1 s (fun _ _ => rfl) _ ?_
    rw [List.nodup_cons] at hn
    refine ih (pre ++ post) _ g3 ?_ hn.2 ?_ ?_ ?_ ?_
    · exact hp.sublist ((List.Sublist.refl pre).append (List.sublist_cons_self e post))
    · have : (pre.map (·.1) ++ e.1 :: post.map (·.1)).Nodup := by simpa using hn'
      have h' := (List.perm_middle.nodup_iff.1 this)
      rw [List.nodup_cons] at h'
      simpa using h'.2
    · intro j
      constructor
      · intro hj
        have h1 := (hm j).1 (by simp [hj])
        simp only [List.map_append, List.map_cons, List.mem_append, List.mem_cons] at h1 ⊢
        rcases h1 with h1 | rfl | h1
        · exact .inl h1
        · exact (hn.1 (hi ▸ hj)).elim
        · exact .inr h1
      · intro hj
        have h1 := (hm j).2 (by
          simp only [List.map_append, List.map_cons, List.mem_append, List.mem_cons] at hj ⊢
          exact hj.imp id .inr)
        rcases List.mem_cons.1 h1 with rfl | h1
        · exact (hni hj).elim
        · exact h1
    · intro u j v hu x hx hxi
      have h1 := ho (i :: u) j v (by rw [hu]; rfl) x hx (by
        simp only [List.map_append, List.map_cons, List.mem_append, List.mem_cons] at hxi ⊢
        exact hxi.imp id .inr)
      rcases List.mem_cons.1 h1 with rfl | h1
      · exact (hni hxi).elim
      · exact h1
    · have : fins s (e :: (pre ++ post)) = fins (chg e.2.2 s) (pre ++ post) := rfl
      rw [← this, g2]; exact hk

/-- A drawn region: a run in the order of the text, whose steps do not meet. -/
theorem drw_of_T {ros : List RO} {af : List (List Nat)} {s : St} {K : St → Prop} (hlen : af.length = ros.length)
    (h : wpT C s ros (some []) (fun acc s => okP (clos af) 0 [] (acc.getD []).reverse = true ∧ K s)) : ∀ l, Lin af l → wpI C ros s l K := by
  intro l ⟨l1, l2, l3⟩
  obtain ⟨its, g1, g2, g3, g4⟩ := wpT_chain ros [] s [] h
  simp only [List.nil_append, List.append_nil, List.length_nil, Option.getD_some, List.reverse_reverse] at g1 g2 g3
  have hl : its.length = ros.length := by have := congrArg List.length g2; simpa using this
  have hidx : its.map (·.1) = (List.range its.length).map (· + 0) := by rw [g2, hl]
  have hr : its.map (·.1) = List.range ros.length := by rw [g2]; simp
  obtain ⟨p1, _⟩ := okP_spec its 0 [] hidx g3
  refine lin_run l its s g1 p1 l1 (by rw [hr]; exact List.nodup_range) (fun i => ?_) (fun u i v hu e he _ => clos_spec l3 u i v hu e he) g4
  rw [hr, l2, hlen, List.mem_range]

end
end Go.Fw
