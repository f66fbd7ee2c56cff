/- Part of a proof that a law returns true for every input. No condition. -/
import Derived.Test.YtncnipaofaeaiaaFw18
namespace Go.Fw

-- Nothing shared in it.
mutual
def AV.nosh : AV → Bool
  | .slice _ => false
  | .ref _ => false
  | .fn _ _ => false
  | .h _ _ => false
  | .hp _ _ => false
  | .uslice _ xs => AV.noshs xs
  | .ubox d => d.nosh
  | .agg fs => AV.noshs fs
  | .tuple fs => AV.noshs fs
  | _ => true
def AV.noshs : List AV → Bool
  | [] => true
  | d :: ds => d.nosh && AV.noshs ds
end

mutual
theorem RV.nosh {w : World} {F F' : Nat → Prop} : ∀ (d : AV) (cs : List Value) (S : Nat → Prop), d.nosh = true → RV w F d cs S → RV w F' d cs S
  | .hole, _, _, _, h => h
  | .bool _, _, _, _, h => h
  | .anyb, _, _, _, h => h
  | .int _ _, _, _, _, h => h
  | .str _, _, _, _, h => h
  | .nilp, _, _, _, h => h
  | .nils, _, _, _, h => h
  | .slice xs, cs, S, hn, h => by simp [AV.nosh] at hn
  | .ref d, cs, S, hn, h => by simp [AV.nosh] at hn
  | .uslice sz xs, cs, S, hn, h => by
    rw [RV] at h ⊢
    rcases h with h | ⟨b, cap, cur, e, fr, S', h1, h2, h3, h4, h5, h6, h7, h8, h9, h10, h11⟩
    · exact .inl h
    · exact .inr ⟨b, cap, cur, e, fr, S', h1, h2, h3, h4, h5, h6, h7, h8, RVs.nosh xs _ _ hn h9, h10, h11⟩
  | .ubox d, cs, S, hn, h => by
    rw [RV] at h ⊢
    obtain ⟨b, cur, e, fr, S', h1, h2, h3, h4, h5, h6, h7⟩ := h
    exact ⟨b, cur, e, fr, S', h1, h2, h3, h4, RV.nosh d _ _ hn h5, h6, h7⟩
  | .agg fs, cs, S, hn, h => by rw [RV] at h ⊢; exact RVs.nosh fs _ _ hn h
  | .tuple fs, cs, S, hn, h => by rw [RV] at h ⊢; exact RVs.nosh fs _ _ hn h
  | .fn _ _, _, _, _, h => h
  | .h _ _, _, _, _, h => h
  | .hp _ _, _, _, _, h => h
theorem RVs.nosh {w : World} {F F' : Nat → Prop} : ∀ (ds : List AV) (cs : List Value) (S : Nat → Prop), AV.noshs ds = true → RVs w F ds cs S → RVs w F' ds cs S
  | [], _, _, _, h => h
  | d :: ds, cs, S, hn, h => by
    simp only [AV.noshs, Bool.and_eq_true] at hn
    rw [RVs] at h ⊢
    obtain ⟨c1, c2, S1, S2, h1, h2, h3, h4, h5, h6⟩ := h
    exact ⟨c1, c2, S1, S2, h1, RV.nosh d _ _ hn.1 h2, RVs.nosh ds _ _ hn.2 h3, h4, h5, h6⟩
end

theorem sub_put : ∀ (q : List Nat) (av d e : AV), AV.sub q av = some d → AV.sub q (AV.put q e av) = some e := by
  intro q
  induction q with
  | nil => intro av d e _; simp [AV.put, AV.sub]
  | cons k q ih =>
    intro av d e h
    cases av with
    | agg fs =>
      simp only [AV.sub] at h
      split at h
      · rename_i x hx
        have hk : k < fs.length := (List.getElem?_eq_some_iff.1 hx).1
        simp only [AV.put, hx, AV.sub, List.getElem?_set_self hk]
        exact ih _ _ _ h
      · cases h
    | tuple fs =>
      simp only [AV.sub] at h
      split at h
      · rename_i x hx
        have hk : k < fs.length := (List.getElem?_eq_some_iff.1 hx).1
        simp only [AV.put, hx, AV.sub, List.getElem?_set_self hk]
        exact ih _ _ _ h
      · cases h
    | uslice sz fs =>
      simp only [AV.sub] at h
      split at h
      · rename_i x hx
        have hk : k < fs.length := (List.getElem?_eq_some_iff.1 hx).1
        simp only [AV.put, hx, AV.sub, List.getElem?_set_self hk]
        exact ih _ _ _ h
      · cases h
    | ubox x =>
      cases k with
      | zero => simp only [AV.sub] at h; simp only [AV.put, AV.sub]; exact ih _ _ _ h
      | succ k => simp [AV.sub] at h
    | _ => simp [AV.sub] at h

/-- An argument: its value here, whether it is given to be changed, the callee's view of it, and what the callee leaves. -/
structure PA where
  a : AV
  g : Bool
  d : AV
  o : AV

def AV.own : AV → Bool
  | .uslice _ _ => true
  | .ubox _ => true
  | _ => false

/-- The callee's view is what is there. -/
def PA.ok (s : St) (p : PA) : Prop :=
  if p.g then (match p.a with | .h x q => AV.sub q (s x) = some p.d ∧ p.d.own = true ∧ (p.o = .hole ∨ p.o.own = true) | _ => False)
  else view s p.a = some p.d

def apartPA : List PA → Bool
  | [] => true
  | p :: r => (r.all fun p' => !(p.g || p'.g) || (p.a.hs.all fun u => !p'.a.hs.contains u)) && apartPA r

def PA.take (s : St) (p : PA) : St :=
  if p.g then (match p.a with | .h x q => upd (pkS x s) x (AV.put q .hole (s x)) | _ => s) else s

def PA.give (s : St) (p : PA) : St :=
  if p.g then (match p.a, p.o with | _, .hole => s | .h x q, o => upd (pgS x s) x (AV.put q o (s x)) | _, _ => s) else s

def takeL (s : St) (ps : List PA) : St := ps.foldl PA.take s
def giveL (s : St) (ps : List PA) : St := ps.foldl PA.give s

section
variable {w0 w w' : World} {F0 X F Fc : Nat → Prop} {S : Nat → Nat → Prop} {s s' : St} {tm tm' : Nat → Value}

/-- A given argument after the taking. -/
def Took (w : World) (F : Nat → Prop) (s1 : St) (tm : Nat → Value) (p : PA) (v : Value) (Sn : Nat → Prop) : Prop :=
  ∃ x q a0, p.a = .h x q ∧ AV.sub q (s1 x) = some .hole ∧ fol w q (s1 x) (vc (tm x)) none = some (.hole, vc v, a0) ∧ (s1 x).hs = [] ∧ (q = [] → Value.isOne (tm x) = true) ∧ (q ≠ [] → (s1 x).tree = true) ∧
    shp p.d v ∧ RV w F p.d (vc v) Sn

theorem take_keep {p : PA} {x : Nat} (h : (s x).hs = []) (hp : p.g = true → x ∉ p.a.hs) : PA.take s p x = s x := by
  unfold PA.take
  split
  · rename_i hg
    cases ha : p.a with
    | h y q =>
      have : x ≠ y := by
        have := hp hg
        rw [ha] at this
        simpa [AV.hs] using this
      simp only
      rw [upd_ne _ _ this]
      exact pk_id _ (by rw [h]; simp)
    | _ => rfl
  · rfl

theorem takeL_keep : ∀ {ps : List PA} {s : St} {x : Nat}, (s x).hs = [] → (∀ p ∈ ps, p.g = true → x ∉ p.a.hs) → takeL s ps x = s x := by
  intro ps
  induction ps with
  | nil => intros; rfl
  | cons p ps ih =>
    intro s x h hp
    have e := take_keep (s := s) (p := p) h (hp p (by simp))
    show takeL (PA.take s p) ps x = s x
    rw [ih (by rw [e]; exact h) (fun p' hp' => hp p' (by simp [hp'])), e]

theorem own_spec {d : AV} (h : d.own = true) : d.plain = false ∧ d.tree = true ∧ d.hollow = .hole ∧ d.one = true ∧ d.wd = 1 ∧ (∀ v, shp d v ↔ Value.isOne v = true) := by
  cases d <;> simp [AV.own] at h <;> exact ⟨rfl, rfl, rfl, rfl, rfl, fun v => Iff.rfl⟩

theorem takes_ok : ∀ (ps : List PA) (vs : List Value) (s : St) (S : Nat → Nat → Prop), RelX w0 F0 X F S s tm w → ps.length = vs.length →
    (∀ (i : Nat) (p : PA) (v : Value), ps[i]? = some p → vs[i]? = some v → p.a.plain = true ∧ SV w F s tm p.a v (fun _ => False) ∧ (p.g = true → p.ok s)) → apartPA ps = true →
    ∃ (Sn S1 : Nat → Nat → Prop), RelX w0 F0 X F S1 (takeL s ps) tm w ∧ (∀ u b, S1 u b → S u b) ∧
      (∀ (i : Nat) (p : PA) (v : Value), ps[i]? = some p → vs[i]? = some v → p.g = true → Took w F (takeL s ps) tm p v (Sn i)) ∧
      (∀ i b, Sn i b → ∃ p, ps[i]? = some p ∧ p.g = true) ∧
      (∀ i b, Sn i b → ∃ u, S u b) ∧ (∀ i u b, Sn i b → ¬ S1 u b) ∧ (∀ i j b, i ≠ j → Sn i b → ¬ Sn j b) ∧
      (∀ (d' : AV) (v' : Value) (S' : Nat → Prop), (∀ p ∈ ps, p.g = true → ∀ u ∈ p.a.hs, u ∉ d'.hs) → SV w F s tm d' v' S' → SV w F (takeL s ps) tm d' v' S') := by
  intro ps
  induction ps with
  | nil =>
    intro vs s S h hl _ _
    exact ⟨fun _ _ => False, S, h, fun _ _ h => h, fun i p v hp => by simp at hp, fun _ _ h => h.elim, fun _ _ h => h.elim, fun _ _ _ h => h.elim, fun _ _ _ _ h => h.elim, fun _ _ _ _ h => h⟩
  | cons p ps ih =>
    intro vs s S h hl hps hap
    cases vs with
    | nil => simp at hl
    | cons v vs =>
      simp only [List.length_cons, Nat.add_right_cancel_iff] at hl
      simp only [apartPA, Bool.and_eq_true, List.all_eq_true, Bool.or_eq_true, Bool.not_eq_true'] at hap
      obtain ⟨hap1, hap2⟩ := hap
      have hap1' : ∀ p' ∈ ps, (p.g = true ∨ p'.g = true) → ∀ u ∈ p.a.hs, u ∉ p'.a.hs := by
        intro p' hp' hg u hu
        rcases hap1 p' hp' with e | e
        · rcases hg with hg | hg <;> simp [hg] at e
        · simpa using e u hu
      obtain ⟨f1, f2, f3⟩ := hps 0 p v rfl rfl
      cases hg : p.g with
      | false =>
        have e0 : PA.take s p = s := by simp [PA.take, hg]
        obtain ⟨Sn, S1, g1, g2, g3, g4, g5, g6, g7, g8⟩ := ih vs s S h hl (fun i p' v' hp hv => hps (i + 1) p' v' (by simpa using hp) (by simpa using hv)) hap2
        have e1 : takeL s (p :: ps) = takeL s ps := by show takeL (PA.take s p) ps = _; rw [e0]
        rw [e1]
        refine ⟨fun i => match i with | 0 => fun _ => False | i + 1 => Sn i, S1, g1, g2, ?_, ?_, ?_, ?_, ?_, fun d' v' S' hd => g8 d' v' S' fun p' hp' => hd p' (by simp [hp'])⟩
        · intro i p' v' hp hv hg'
          cases i with
          | zero => simp at hp; subst hp; rw [hg] at hg'; cases hg'
          | succ i => exact g3 i p' v' (by simpa using hp) (by simpa using hv) hg'
        · intro i b hb
          cases i with
          | zero => exact hb.elim
          | succ i => simpa using g4 i b hb
        · intro i b hb
          cases i with
          | zero => exact hb.elim
          | succ i => exact g5 i b hb
        · intro i u b hb
          cases i with
          | zero => exact hb.elim
          | succ i => exact g6 i u b hb
        · intro i j b hne hi hj
          cases i with
          | zero => exact hi.elim
          | succ i =>
            cases j with
            | zero => exact hj.elim
            | succ j => exact g7 i j b (by omega) hi hj
      | true =>
        have hok := f3 hg
        simp only [PA.ok, hg, if_true] at hok
        split at hok
        · rename_i x q ha
          obtain ⟨hsub, hown, hout⟩ := hok
          obtain ⟨o1, o2, o3, o4, o5, o6⟩ := own_spec hown
          have htk : tk s p.a = some (p.d, upd (pkS x s) x (AV.put q .hole (s x))) := by
            rw [ha]; simp only [tk, hsub, o1, o3]; rfl
          obtain ⟨S1, t1, t2, t3, Sn0, t4, t5, t6, t7, t8, t9, t10, t11⟩ := tk_sv h f1 f2 htk
          have e0 : PA.take s p = upd (pkS x s) x (AV.put q .hole (s x)) := by simp [PA.take, hg, ha]
          have hxs : ∀ p' ∈ ps, x ∉ p'.a.hs := fun p' hp' => hap1' p' hp' (.inl hg) x (by rw [ha]; simp [AV.hs])
          have hsx : PA.take s p x = AV.put q .hole (s x) := by rw [e0, upd_same]
          have hhs : (PA.take s p x).hs = [] := by
            rw [hsx]; exact put_hs q _ _ _ hsub (.inl o1) (fun _ => rfl)
          obtain ⟨Sn, S2, g1, g2, g3, g4, g5, g6, g7, g8⟩ := ih vs (PA.take s p) S1 (by rw [e0]; exact t1) hl (by
            intro i p' v' hp hv
            obtain ⟨k1, k2, k3⟩ := hps (i + 1) p' v' (by simpa using hp) (by simpa using hv)
            have hm : p' ∈ ps := List.mem_of_getElem? hp
            refine ⟨k1, ?_, ?_⟩
            · have := t11 _ _ _ k2
              rw [ha] at this
              rw [e0]
              simp only [AV.owner, pkO] at this
              rwa [pk_id _ (hxs p' hm)] at this
            · intro hg'
              have := k3 hg'
              simp only [PA.ok, hg', if_true] at this ⊢
              split at this
              · rename_i y q' ha'
                have hne : y ≠ x := fun e => hxs p' hm (by rw [ha', e]; simp [AV.hs])
                rw [e0, upd_ne _ _ hne]
                have ht := tree_of_sub this.1 (.inl (own_spec this.2.1).1)
                simp only [pkS, pk_tree ht]
                exact this
              · exact this.elim) hap2
          have e1 : takeL s (p :: ps) = takeL (PA.take s p) ps := rfl
          have hkeep : takeL (PA.take s p) ps x = AV.put q .hole (s x) := by
            rw [takeL_keep hhs (fun p' hp' _ => hxs p' hp'), hsx]
          rw [e1]
          refine ⟨fun i => match i with | 0 => Sn0 | i + 1 => Sn i, S2, g1, fun u b hb => t9 u b (g2 u b hb), ?_, ?_, ?_, ?_, ?_, ?_⟩
          rotate_left 5
          · intro d' v' S' hd hsv
            refine g8 d' v' S' (fun p' hp' => hd p' (by simp [hp'])) ?_
            have := t11 _ _ _ hsv
            rw [ha] at this
            rw [e0]
            simp only [AV.owner, pkO] at this
            rwa [pk_id _ (hd p (by simp) hg x (by rw [ha]; simp [AV.hs]))] at this
          · intro i p' v' hp hv hg'
            cases i with
            | zero =>
              simp at hp hv; subst hp hv
              have f2' := f2
              rw [ha, SV] at f2'
              obtain ⟨dcs, a0, c1, c2, c3⟩ := f2' _ hsub o1
              refine ⟨x, q, a0, ha, ?_, ?_, ?_, ?_, ?_, t3, t4⟩
              · rw [hkeep]; exact sub_put q _ _ _ hsub
              · rw [hkeep, c2]; exact fol_put w q _ _ _ _ _ _ _ hsub (by rw [o5]; rfl) c1
              · rw [hkeep, ← hsx]; exact hhs
              · intro hq; subst hq
                simp only [AV.sub, Option.some.injEq] at hsub
                have := (SV.of_tree (by rw [hsub]; exact o2)).1 (h.sv x)
                rw [hsub] at this
                exact (o6 _).1 this.1
              · intro hq
                have ht := tree_of_sub hsub (.inl o1)
                rw [hkeep]
                cases q with
                | nil => exact (hq rfl).elim
                | cons k q => rcases put_cons k q .hole (s x) with ⟨fs, gs, e1, e⟩ | ⟨fs, gs, e1, e⟩ | ⟨sz, xs, ys, e1, e⟩ | ⟨y, z, e1, e⟩ | e <;> rw [e] <;> first | rfl | exact ht
            | succ i => exact g3 i p' v' (by simpa using hp) (by simpa using hv) hg'
          · intro i b hb
            cases i with
            | zero => exact ⟨p, rfl, hg⟩
            | succ i => simpa using g4 i b hb
          · intro i b hb
            cases i with
            | zero => exact t10 b hb
            | succ i => obtain ⟨u, hu⟩ := g5 i b hb; exact ⟨u, t9 u b hu⟩
          · intro i u b hb
            cases i with
            | zero => exact fun hu => t7 u b hb (g2 u b hu)
            | succ i => exact g6 i u b hb
          · intro i j b hne hi hj
            cases i with
            | zero =>
              cases j with
              | zero => exact hne rfl
              | succ j => obtain ⟨u, hu⟩ := g5 j b hj; exact t7 u b hi hu
            | succ i =>
              cases j with
              | zero => obtain ⟨u, hu⟩ := g5 i b hi; exact t7 u b hj hu
              | succ j => exact g7 i j b (by omega) hi hj
        · exact hok.elim

end
end Go.Fw
