/- Part of a proof that a law returns true for every input. No condition. -/
import Derived.Test.YtobljppjkklojaaGreatUY5
namespace Go.Sh
open Go Go.Fw

/-! Meetings that are asked for. -/
def hitP (a : List impl_Meeting) (x y : List UInt8) (i : Nat) : Bool := ((mAt a i).Left == x) && ((mAt a i).Right == y)
def resAt (a : List impl_Meeting) (z : Int) : List UInt8 := cond (decide (z < 0)) [] (mAt a z.toNat).Result
theorem findN_lt (p : Nat → Bool) : ∀ (k i : Nat), findN p i k < ((i + k : Nat) : Int)
  | 0, i => by simp only [findN]; omega
  | k + 1, i => by
    simp only [findN]
    split
    · omega
    · have := findN_lt p k (i + 1); omega
theorem spec_pick (a : List impl_Meeting) (ha : a.length ≤ 1048576) (x y : List UInt8) (hxy : (Op.bytesLess x y || x == y) = true) (rec53 : List impl_Meeting → List UInt8 → List UInt8 → Option (List UInt8)) :
    spec_l05Meet_f rec53 a x y = some (resAt a (findN (hitP a x y) 0 a.length)) := by
  unfold spec_l05Meet_f
  rw [hxy]
  simp only [Bool.not_true, cond_false]
  rw [up_lim (l := fun m i => spec_l05Meet_l14 rec53 a x y m i) (n := a.length) (fun i => some (resAt a (findN (hitP a x y) i (a.length - i))))]
  · rfl
  · intro m
    simp only [spec_l05Meet_l14, spec_l05Meet_b14]
    rw [ltF (Nat.le_refl _), Nat.sub_self]; rfl
  · intro i hi m ih
    simp only [spec_l05Meet_l14, spec_l05Meet_b14]
    rw [ltT hi, getI_nat _ i ⟨[], [], []⟩ hi, wsucc i _ hi (by omega)]
    show cond true (Option.bind (some (mAt a i)) _) _ = _
    simp only [cond_true, Option.bind_some]
    rw [ih, show a.length - i = (a.length - (i + 1)) + 1 by omega]
    show cond (hitP a x y i) _ _ = _
    cases hp : hitP a x y i
    · simp only [findN, hp, cond_false]; rfl
    · simp only [findN, hp, cond_true, if_true, resAt]
      have : decide ((i : Int) < 0) = false := decide_eq_false (by omega)
      rw [this]; rfl
theorem spec_meet (a : List impl_Meeting) (ha : a.length ≤ 1048576) (x y : List UInt8) :
    spec_l05Meet a x y = some (resAt a (findN (hitP a (mnS false x y) (mnS true x y)) 0 a.length)) := by
  unfold spec_l05Meet
  refine lim_of 2 fun n hn => ?_
  obtain ⟨n, rfl⟩ : ∃ k, n = k + 2 := ⟨n - 2, by omega⟩
  show spec_l05Meet_f (spec_l05Meet_r (n + 1)) a x y = _
  cases h : (Op.bytesLess x y || x == y)
  · have h1 : (Op.bytesLess y x || y == x) = true := by
      rw [← less_total x y]
      cases hl : Op.bytesLess x y
      · rfl
      · rw [hl] at h; cases h
    have h2 : Op.bytesLess x y = false := by cases hl : Op.bytesLess x y; · rfl
                                             · rw [hl] at h; cases h
    have e1 : mnS false x y = y := by simp only [mnS, h, Bool.false_eq_true, if_false]
    have e2 : mnS true x y = x := by simp only [mnS, h2, Bool.not_false, if_true]
    unfold spec_l05Meet_f
    rw [h]
    simp only [Bool.not_false, cond_true]
    show (spec_l05Meet_f (spec_l05Meet_r n) a y x).bind _ = _
    rw [spec_pick a ha y x h1, e1, e2]; rfl
  · have e1 : mnS false x y = x := by simp only [mnS, h, Bool.false_eq_true, if_false, if_true]
    have e2 : mnS true x y = y := by
      cases hl : Op.bytesLess x y
      · rw [hl, Bool.false_or] at h
        have : x = y := by simpa using h
        subst this
        simp [mnS]
      · simp [mnS, hl]
    rw [spec_pick a ha x y h, e1, e2]
theorem impl_meet (s : impl_System) (ha : s.Meetings.length ≤ 1048576) (x y : List UInt8) (z : Int) (hz : z = findN (hitP s.Meetings (mnS false x y) (mnS true x y)) 0 s.Meetings.length) :
    impl_System_meeting s x y = some (resAt s.Meetings z, !(decide (z < 0))) := by
  unfold impl_System_meeting slices_IndexFunc_impl_Meeting__impl_System_meeting_c1
  rw [find_loop (l := fun m i => slices_IndexFunc_impl_Meeting__impl_System_meeting_c1_l6 s.Meetings x y m i) (n := s.Meetings.length) (hitP s.Meetings (mnS false x y) (mnS true x y)), ← hz]
  · simp only [Option.bind_some]
    have hl := findN_lt (hitP s.Meetings (mnS false x y) (mnS true x y)) s.Meetings.length 0
    rw [← hz] at hl
    cases h : decide (z < 0)
    · have h0 : ¬ z < 0 := of_decide_eq_false h
      have e : getI s.Meetings z = some (mAt s.Meetings z.toNat) := by
        obtain ⟨i, rfl⟩ : ∃ i : Nat, z = i := ⟨z.toNat, by omega⟩
        exact getI_nat s.Meetings i (⟨[], [], []⟩ : impl_Meeting) (by omega)
      rw [e]
      simp only [resAt, h]; rfl
    · simp only [resAt, h]; rfl
  · intro m
    simp only [slices_IndexFunc_impl_Meeting__impl_System_meeting_c1_l6, slices_IndexFunc_impl_Meeting__impl_System_meeting_c1_b6]
    rw [ltF (Nat.le_refl _)]; rfl
  · intro i hi m
    simp only [slices_IndexFunc_impl_Meeting__impl_System_meeting_c1_l6, slices_IndexFunc_impl_Meeting__impl_System_meeting_c1_b6]
    rw [ltT hi, getI_nat _ i ⟨[], [], []⟩ hi, wsucc i _ hi (by omega)]
    rfl
theorem res_ne (s : impl_System) (hv : (faultV s == 0) = true) (i : Nat) (hi : i < s.Meetings.length) : ((mAt s.Meetings i).Result == ([] : List UInt8)) = false := by
  have hm : meetsV s.Meetings = true := by
    cases h : meetsV s.Meetings
    · unfold faultV at hv
      rw [h] at hv
      revert hv
      cases defsV s.Definitions <;> cases compsV s <;> simp
    · rfl
  unfold meetsV at hm
  rw [Bool.and_eq_true] at hm
  have h1 := allN_iff.1 hm.2 i hi
  unfold meetAt at h1
  simp only [Bool.and_eq_true] at h1
  have h2 := h1.1.1.1.2
  cases hr : (mAt s.Meetings i).Result
  · rw [hr] at h2; cases h2
  · rfl
theorem eqSI (s : List UInt8) (n : Int) : ((!(s == s)) || (n != n)) = false := by simp
theorem MeetingOf_true (a : laws_System) (x y : List UInt8) (ha : wf_laws_System a) : laws_FnExactMeetingOf a x y = some true := by
  unfold laws_FnExactMeetingOf
  cases hx : decide ((1048576 : Int) < (x.length : Int))
  · cases hy : decide ((1048576 : Int) < (y.length : Int))
    · obtain ⟨r, h1, h2⟩ := law_sys a ha
      rw [h1]
      simp only [Option.bind_some, cond_false]
      cases hr : decide (r < 0)
      · obtain ⟨h3, h4, h5, _⟩ := h2 hr
        simp only [cond_false, h3, Option.bind_some]
        generalize conv_laws_System a = s at h4 h5
        have hlen := h5.2.2.1.1
        have key : ∃ p, spec_MeetingOf s x y = some p ∧ impl_MeetingOf s x y = some p := by
          unfold spec_MeetingOf impl_MeetingOf
          rw [spec_valid _ h5, impl_valid_sys _ h5, spec_meet _ hlen, impl_meet s hlen x y _ rfl]
          simp only [Option.bind_some]
          cases hv : (faultV s == 0)
          · exact ⟨_, rfl, rfl⟩
          · simp only [Bool.not_true, cond_false]
            have hl := findN_lt (hitP s.Meetings (mnS false x y) (mnS true x y)) s.Meetings.length 0
            generalize findN (hitP s.Meetings (mnS false x y) (mnS true x y)) 0 s.Meetings.length = z at hl
            cases h : decide (z < 0)
            · have h0 : ¬ z < 0 := of_decide_eq_false h
              have hne := res_ne s hv z.toNat (by omega)
              refine ⟨((mAt s.Meetings z.toNat).Result, 0), ?_, ?_⟩
              · simp only [resAt, h, cond_false, hne]
              · simp only [resAt, h, cond_false, Bool.not_false, Bool.not_true]
            · refine ⟨([], 3), ?_, ?_⟩
              · simp only [resAt, h, cond_true]; rfl
              · simp only [h, cond_true, Bool.not_true, Bool.not_false]
        obtain ⟨p, e1, e2⟩ := key
        simp only [e1, e2, Option.bind_some, eqSI, cond_false, h4, Bool.not_true]
      · rfl
    · rfl
  · rfl

end Go.Sh
