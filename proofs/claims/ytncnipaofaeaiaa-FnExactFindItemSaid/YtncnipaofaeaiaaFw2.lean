/- Part of a proof that a law returns true for every input. No condition. -/
import Derived.Test.YtncnipaofaeaiaaFw1
namespace Go.Fw

def AV.sub : List Nat → AV → Option AV
  | [], d => some d
  | k :: q, .agg fs => match fs[k]? with
    | some d => AV.sub q d
    | none => none
  | k :: q, .tuple fs => match fs[k]? with
    | some d => AV.sub q d
    | none => none
  | i :: q, .uslice _ xs => match xs[i]? with
    | some d => AV.sub q d
    | none => none
  | 0 :: q, .ubox d => AV.sub q d
  | _ :: _, _ => none

def AV.put : List Nat → AV → AV → AV
  | [], n, _ => n
  | k :: q, n, .agg fs => match fs[k]? with
    | some d => .agg (fs.set k (AV.put q n d))
    | none => .agg fs
  | k :: q, n, .tuple fs => match fs[k]? with
    | some d => .tuple (fs.set k (AV.put q n d))
    | none => .tuple fs
  | i :: q, n, .uslice sz xs => match xs[i]? with
    | some d => .uslice sz (xs.set i (AV.put q n d))
    | none => .uslice sz xs
  | 0 :: q, n, .ubox d => .ubox (AV.put q n d)
  | _ :: _, _, d => d

def rdw (w : World) (b o n : Nat) : List Value := (List.range n).map fun j => (w.cell? ⟨b, o + j, none⟩).getD undef

theorem Rd.rdw {w : World} {b o : Nat} {cs : List Value} (h : Rd w b o cs) : rdw w b o cs.length = cs := by
  unfold Fw.rdw
  apply List.ext_getElem?
  intro i
  rw [List.getElem?_map]
  by_cases hi : i < cs.length
  · have : cs[i]? = some cs[i] := List.getElem?_eq_getElem hi
    simp [hi, h i _ this]
  · simp [hi]

/-- Follow a path from a value with the cells `cs` (lying at `a`, if in memory). -/
def fol (w : World) : List Nat → AV → List Value → Option (Nat × Nat) → Option (AV × List Value × Option (Nat × Nat))
  | [], d, cs, a => some (d, cs, a)
  | k :: q, .agg fs, cs, a => match fs[k]? with
    | some d => fol w q d ((cs.drop (AV.wds (fs.take k))).take d.wd) (a.map fun l => (l.1, l.2 + AV.wds (fs.take k)))
    | none => none
  | k :: q, .tuple fs, cs, a => match fs[k]? with
    | some d => fol w q d ((cs.drop (AV.wds (fs.take k))).take d.wd) (a.map fun l => (l.1, l.2 + AV.wds (fs.take k)))
    | none => none
  | i :: q, .uslice sz xs, cs, _ => match xs[i]?, cs with
    | some d, [.slice (some ⟨b, _, _⟩) _ _] => fol w q d (rdw w b (i * sz) sz) (some (b, i * sz))
    | _, _ => none
  | 0 :: q, .ubox d, cs, _ => match cs with
    | [.pointer (some ⟨b, _, _⟩)] => fol w q d (rdw w b 0 d.wd) (some (b, 0))
    | _ => none
  | _ :: _, _, _, _ => none


theorem seg_eq (c1 ck c2 : List Value) (n m : Nat) (h1 : c1.length = n) (h2 : ck.length = m) : ((c1 ++ (ck ++ c2)).drop n).take m = ck := by
  rw [List.drop_left' h1, List.take_left' h2]

/-- One element of a row of values, and the row with it exchanged. -/
theorem RVs.pick {w : World} {F : Nat → Prop} : ∀ (ds : List AV) (cs : List Value) (S : Nat → Prop) (k : Nat) (d : AV),
    RVs w F ds cs S → ds[k]? = some d → ∃ (c1 ck c2 : List Value) (S1 Sk : Nat → Prop), cs = c1 ++ (ck ++ c2) ∧ c1.length = AV.wds (ds.take k) ∧
      (∀ b, S1 b → S b) ∧ (∀ b, Sk b → S b) ∧ (∀ b, S1 b → ¬ Sk b) ∧ RV w F d ck Sk ∧
      ∀ (w' : World) (d' : AV) (ck' : List Value) (S' : Nat → Prop), (∀ b, F b → w'.heap[b]? = w.heap[b]?) → (∀ b, S1 b → w'.heap[b]? = w.heap[b]?) →
        RV w' F d' ck' S' → (∀ b, S' b → ¬ S1 b) → RVs w' F (ds.set k d') (c1 ++ (ck' ++ c2)) (fun b => S1 b ∨ S' b)
  | [], _, _, _, _, _, hk => by simp at hk
  | x :: ds, cs, S, 0, d, h, hk => by
    rw [RVs] at h
    obtain ⟨c1, c2, Sa, Sb, rfl, h1, h2, ha, hb, hab⟩ := h
    simp at hk; subst hk
    refine ⟨[], c1, c2, Sb, Sa, rfl, rfl, hb, ha, fun b hb ha => hab _ ha hb, h1, ?_⟩
    intro w' d' ck' S' hF hS hd hdis
    simp only [List.set_cons_zero, List.nil_append]
    rw [RVs]
    exact ⟨ck', c2, S', Sb, rfl, hd, RVs.frame hF _ _ _ hS h2, fun b h => .inr h, fun b h => .inl h, fun b h => hdis b h⟩
  | x :: ds, cs, S, k + 1, d, h, hk => by
    rw [RVs] at h
    obtain ⟨c0, cr, Sa, Sb, rfl, h1, h2, ha, hb, hab⟩ := h
    simp only [List.getElem?_cons_succ] at hk
    have hl := RV.length _ _ _ h1
    obtain ⟨c1, ck, c2, S1, Sk, rfl, i0, i1, i2, i3, i5, i6⟩ := RVs.pick ds cr Sb k d h2 hk
    refine ⟨c0 ++ c1, ck, c2, fun b => Sa b ∨ S1 b, Sk, by simp, by simp [AV.wds, hl, i0], ?_, fun b h => hb _ (i2 _ h), ?_, i5, ?_⟩
    · rintro b (h | h)
      · exact ha _ h
      · exact hb _ (i1 _ h)
    · rintro b (h | h) hk
      · exact hab _ h (i2 _ hk)
      · exact i3 _ h hk
    · intro w' d' ck' S' hF hS hd hdis
      simp only [List.set_cons_succ]
      rw [RVs]
      refine ⟨c0, c1 ++ (ck' ++ c2), Sa, fun b => S1 b ∨ S' b, by simp, RV.frame hF _ _ _ (fun b hb => hS b (.inl hb)) h1,
        i6 w' d' ck' S' hF (fun b hb => hS b (.inr hb)) hd (fun b hb hc => hdis b hb (.inr hc)), fun b h => .inl (.inl h), ?_, ?_⟩
      · rintro b (h | h)
        · exact .inl (.inr h)
        · exact .inr h
      · rintro b h (h' | h')
        · exact hab _ h (i1 _ h')
        · exact hdis _ h' (.inl h)

theorem wds_set : ∀ (fs : List AV) (k : Nat) (x y : AV), fs[k]? = some x → y.wd = x.wd → AV.wds (fs.set k y) = AV.wds fs := by
  intro fs
  induction fs with
  | nil => intro k x y h; simp at h
  | cons a fs ih =>
    intro k x y h e
    cases k with
    | zero => simp at h; subst h; simp [AV.wds, e]
    | succ k => simp at h; simp [AV.wds, ih k x y h e]

theorem wds_uniform {sz : Nat} : ∀ (xs : List AV), (∀ d ∈ xs, d.wd = sz) → AV.wds xs = xs.length * sz
  | [], _ => by simp [AV.wds]
  | x :: xs, h => by
    rw [AV.wds, h x (by simp), wds_uniform xs (fun d hd => h d (by simp [hd])), List.length_cons, Nat.add_mul, Nat.one_mul, Nat.add_comm]

theorem AV.put_wd : ∀ (q : List Nat) (av d d' : AV), AV.sub q av = some d → d'.wd = d.wd → (AV.put q d' av).wd = av.wd := by
  intro q
  induction q with
  | nil => intro av d d' h e; simp [AV.sub] at h; subst h; simpa [AV.put] using e
  | cons k q ih =>
    intro av d d' h e
    cases av with
    | agg fs =>
      simp only [AV.sub] at h
      split at h
      · rename_i x hx
        simp only [AV.put, hx, AV.wd]
        exact wds_set _ _ _ _ hx (ih _ _ _ h e)
      · cases h
    | tuple fs =>
      simp only [AV.sub] at h
      split at h
      · rename_i x hx
        simp only [AV.put, hx, AV.wd]
        exact wds_set _ _ _ _ hx (ih _ _ _ h e)
      · cases h
    | uslice sz xs =>
      simp only [AV.sub] at h
      split at h
      · rename_i x hx
        simp only [AV.put, hx, AV.wd]
      · cases h
    | ubox x =>
      cases k with
      | zero => simp only [AV.put, AV.wd]
      | succ k => simp [AV.sub] at h
    | _ => simp [AV.sub] at h

theorem mem_set_wd {sz : Nat} {xs : List AV} {i : Nat} {y : AV} (h : ∀ d ∈ xs, d.wd = sz) (hy : y.wd = sz) : ∀ d ∈ xs.set i y, d.wd = sz := by
  intro d hd
  rcases List.mem_or_eq_of_mem_set hd with hd | rfl
  · exact h d hd
  · exact hy

theorem rdw_seg {w : World} {b : Nat} {cur : Array Value} {e : TypeId} {fr : Nat × Nat} (h : w.heap[b]? = some (.cells cur e fr)) {l m r : List Value} (hc : cur.toList = l ++ (m ++ r)) :
    rdw w b l.length m.length = m := by
  refine Rd.rdw (fun j c hj => ?_)
  have hlt : j < m.length := (List.getElem?_eq_some_iff.1 hj).1
  have : cur.toList[l.length + j]? = some c := by
    rw [hc, List.getElem?_append_right (by omega), List.getElem?_append_left (by omega)]
    rw [← hj]; congr 1; omega
  simp [World.cell?, h]
  simpa using this

/-- Exchanging what a path through one row leads to: the flat way. -/
def Flat (w : World) (F : Nat → Prop) (q : List Nat) (av : AV) (cs : List Value) (a : Option (Nat × Nat)) (d : AV) (dcs : List Value) (a' : Option (Nat × Nat)) (Sc : Nat → Prop) : Prop :=
  ∃ l r : List Value, cs = l ++ (dcs ++ r) ∧ a' = a.map (fun x => (x.1, x.2 + l.length)) ∧
    ∀ (w' : World) (d' : AV) (dcs' : List Value) (S' : Nat → Prop), (∀ b, F b → w'.heap[b]? = w.heap[b]?) → (∀ b, Sc b → w'.heap[b]? = w.heap[b]?) →
      d'.wd = d.wd → RV w' F d' dcs' S' → (∀ b, S' b → ¬ Sc b) → RV w' F (AV.put q d' av) (l ++ (dcs' ++ r)) (fun b => Sc b ∨ S' b)

/-- .. and the way through memory. -/
def Deep (w : World) (F : Nat → Prop) (q : List Nat) (av : AV) (cs : List Value) (d : AV) (dcs : List Value) (a' : Option (Nat × Nat)) (Sc : Nat → Prop) : Prop :=
  ∃ (b : Nat) (cur : Array Value) (e : TypeId) (fr : Nat × Nat) (l r : List Value), a' = some (b, l.length) ∧ Sc b ∧ w.heap[b]? = some (.cells cur e fr) ∧ nofrz fr cur.size ∧ cur.toList = l ++ (dcs ++ r) ∧
    ∀ (w' : World) (d' : AV) (dcs' : List Value) (S' : Nat → Prop), (∀ b, F b → w'.heap[b]? = w.heap[b]?) → (∀ c, Sc c → c ≠ b → w'.heap[c]? = w.heap[c]?) →
      w'.heap[b]? = some (.cells (l ++ (dcs' ++ r)).toArray e fr) →
      d'.wd = d.wd → RV w' F d' dcs' S' → (∀ b, S' b → ¬ Sc b) → RV w' F (AV.put q d' av) cs (fun b => Sc b ∨ S' b)

/-- The place that a path leads to, and the whole with that place exchanged. -/
theorem ctx {w : World} {F : Nat → Prop} : ∀ (q : List Nat) (av : AV) (cs : List Value) (S : Nat → Prop) (a : Option (Nat × Nat)) (d : AV),
    RV w F av cs S → AV.sub q av = some d → ∃ (dcs : List Value) (a' : Option (Nat × Nat)) (Sc Sd : Nat → Prop), fol w q av cs a = some (d, dcs, a') ∧
      (∀ b, Sc b → S b) ∧ (∀ b, Sd b → S b) ∧ (∀ b, Sc b → ¬ Sd b) ∧ RV w F d dcs Sd ∧ (Flat w F q av cs a d dcs a' Sc ∨ Deep w F q av cs d dcs a' Sc) := by
  intro q
  induction q with
  | nil =>
    intro av cs S a d h hd
    simp [AV.sub] at hd; subst hd
    refine ⟨cs, a, fun _ => False, S, rfl, fun _ h => h.elim, fun _ h => h, fun _ h => h.elim, h, .inl ⟨[], [], by simp, ?_, ?_⟩⟩
    · cases a <;> simp
    · intro w' d' dcs' S' _ _ hw hd' _
      simp only [AV.put, List.nil_append, List.append_nil]
      exact RV.mono (fun _ h => h) _ _ _ _ (fun b h => .inr h) hd'
  | cons k q ih =>
    -- a row of fields: agg and tuple alike
    have fields : ∀ (mk : List AV → AV) (hmk : ∀ (w : World) (F : Nat → Prop) (fs : List AV) (cs : List Value) (S : Nat → Prop), RV w F (mk fs) cs S = RVs w F fs cs S) (fs : List AV) (cs : List Value) (S : Nat → Prop) (a : Option (Nat × Nat)) (x d : AV),
        (hput : ∀ d', AV.put (k :: q) d' (mk fs) = mk (fs.set k (AV.put q d' x))) → RVs w F fs cs S → fs[k]? = some x → AV.sub q x = some d →
        ∃ (dcs : List Value) (a' : Option (Nat × Nat)) (Sc Sd : Nat → Prop), fol w q x ((cs.drop (AV.wds (fs.take k))).take x.wd) (a.map fun l => (l.1, l.2 + AV.wds (fs.take k))) = some (d, dcs, a') ∧
        (∀ b, Sc b → S b) ∧ (∀ b, Sd b → S b) ∧ (∀ b, Sc b → ¬ Sd b) ∧ RV w F d dcs Sd ∧ (Flat w F (k :: q) (mk fs) cs a d dcs a' Sc ∨ Deep w F (k :: q) (mk fs) cs d dcs a' Sc) := by
      intro mk hmk fs cs S a x d hput h hx hd
      obtain ⟨c1, ck, c2, S1, Sk, rfl, p0, p1, p2, p3, p5, p6⟩ := RVs.pick fs cs S k x h hx
      have hl := RV.length _ _ _ p5
      rw [seg_eq c1 ck c2 _ _ p0 hl]
      obtain ⟨dcs, a', Sc, Sd, g0, g1, g2, g3, g4, g5⟩ := ih x _ Sk (a.map fun l => (l.1, l.2 + AV.wds (fs.take k))) d p5 hd
      refine ⟨dcs, a', fun b => S1 b ∨ Sc b, Sd, g0, ?_, fun b hb => p2 _ (g2 _ hb), ?_, g4, ?_⟩
      · rintro b (h | h)
        · exact p1 _ h
        · exact p2 _ (g1 _ h)
      · rintro b (h | h) hd
        · exact p3 _ h (g2 _ hd)
        · exact g3 _ h hd
      · have hsub : ∀ (b : Nat) (S' : Nat → Prop), (S1 b ∨ Sc b ∨ S' b) → ((S1 b ∨ Sc b) ∨ S' b) := by
          rintro b S' (hb | hb | hb)
          · exact .inl (.inl hb)
          · exact .inl (.inr hb)
          · exact .inr hb
        rcases g5 with ⟨l, r, rfl, e2, e3⟩ | ⟨b, cur, e, fr, l, r, e1, e2, e3, e4, e5, e6⟩
        · refine .inl ⟨c1 ++ l, r ++ c2, by simp, ?_, ?_⟩
          · rw [e2, ← p0]; cases a <;> simp [Nat.add_assoc]
          · intro w' d' dcs' S' hF hS hw hd' hdis
            have r1 := e3 w' d' dcs' S' hF (fun b hb => hS b (.inr hb)) hw hd' (fun b hb hc => hdis b hb (.inr hc))
            have r2 := p6 w' _ _ _ hF (fun b hb => hS b (.inl hb)) r1 (by
              rintro b (hb | hb) h1
              · exact p3 _ h1 (g1 _ hb)
              · exact hdis _ hb (.inl h1))
            rw [hput, hmk]
            have := RVs.mono (fun _ h => h) _ _ _ _ (fun b => hsub b S') r2
            simpa using this
        · refine .inr ⟨b, cur, e, fr, l, r, e1, .inr e2, e3, e4, e5, ?_⟩
          intro w' d' dcs' S' hF hS hb' hw hd' hdis
          have r1 := e6 w' d' dcs' S' hF (fun c hc => hS c (.inr hc)) hb' hw hd' (fun b hb hc => hdis b hb (.inr hc))
          have r2 := p6 w' _ _ _ hF (fun c hc => hS c (.inl hc) (by rintro rfl; exact p3 _ hc (g1 _ e2))) r1 (by
              rintro b (hb | hb) h1
              · exact p3 _ h1 (g1 _ hb)
              · exact hdis _ hb (.inl h1))
          rw [hput, hmk]
          exact RVs.mono (fun _ h => h) _ _ _ _ (fun b => hsub b S') r2
    intro av cs S a d h hd
    cases av with
    | agg fs =>
      simp only [AV.sub] at hd
      split at hd
      · rename_i x hx
        rw [RV] at h
        have := fields .agg (fun _ _ _ _ _ => by rw [RV]) fs cs S a x d (fun d' => by simp only [AV.put, hx]) h hx hd
        simpa only [fol, hx] using this
      · cases hd
    | tuple fs =>
      simp only [AV.sub] at hd
      split at hd
      · rename_i x hx
        rw [RV] at h
        have := fields .tuple (fun _ _ _ _ _ => by rw [RV]) fs cs S a x d (fun d' => by simp only [AV.put, hx]) h hx hd
        simpa only [fol, hx] using this
      · cases hd
    | uslice sz xs =>
      simp only [AV.sub] at hd
      split at hd
      · rename_i x hx
        rw [RV] at h
        rcases h with ⟨rfl, rfl⟩ | ⟨b, cap, cur, e, fr, S0, rfl, h2, h3, h4, h5, h6, h7, h8, h9, h10, h11⟩
        · simp at hx
        · obtain ⟨c1, ck, c2, S1, Sk, p, p0, p1, p2, p3, p5, p6⟩ := RVs.pick xs _ S0 k x h9 hx
          have hl := RV.length _ _ _ p5
          have hklt : k < xs.length := (List.getElem?_eq_some_iff.1 hx).1
          have hxsz : x.wd = sz := h8 x (List.mem_of_getElem? hx)
          have ho : AV.wds (xs.take k) = k * sz := by
            rw [wds_uniform _ (fun d hd => h8 d (List.mem_of_mem_take hd))]
            rw [List.length_take, Nat.min_eq_left (by omega)]
          obtain ⟨tl, hcur⟩ : ∃ tl, cur.toList = c1 ++ (ck ++ (c2 ++ tl)) := by
            refine ⟨cur.toList.drop (xs.length * sz), ?_⟩
            have := (List.take_append_drop (xs.length * sz) cur.toList).symm
            rw [p] at this
            simpa using this
          have hrd : rdw w b (k * sz) sz = ck := by
            have := rdw_seg h3 hcur
            rwa [p0, ho, hl, hxsz] at this
          obtain ⟨dcs, a', Sc, Sd, g0, g1, g2, g3, g4, g5⟩ := ih x _ Sk (some (b, k * sz)) d p5 hd
          have hput : ∀ d', AV.put (k :: q) d' (.uslice sz xs) = .uslice sz (xs.set k (AV.put q d' x)) := fun d' => by simp only [AV.put, hx]
          refine ⟨dcs, a', fun c => c = b ∨ S1 c ∨ Sc c, Sd, ?_, ?_, fun c hc => h10 _ (p2 _ (g2 _ hc)), ?_, g4, .inr ?_⟩
          · simp only [fol, hx, hrd]; exact g0
          · rintro c (rfl | h | h)
            · exact h2
            · exact h10 _ (p1 _ h)
            · exact h10 _ (p2 _ (g1 _ h))
          · rintro c (rfl | h | h) hd
            · exact h11 (p2 _ (g2 _ hd))
            · exact p3 _ h (g2 _ hd)
            · exact g3 _ h hd
          · have hwd : ∀ d', d'.wd = d.wd → (AV.put q d' x).wd = sz := fun d' hw => (AV.put_wd q x d d' hd hw).trans hxsz
            rcases g5 with ⟨l, r, rfl, e2, e3⟩ | ⟨b', cur', e', fr', l, r, e1, e2, e3, e4, e5, e6⟩
            · refine ⟨b, cur, e, fr, c1 ++ l, r ++ (c2 ++ tl), ?_, .inl rfl, h3, h4, ?_, ?_⟩
              · rw [e2]; simp [p0, ho]
              · rw [hcur]; simp
              · intro w' d' dcs' S' hF hS hb' hw hd' hdis
                have r1 := e3 w' d' dcs' S' hF (fun c hc => hS c (.inr (.inr hc)) (by rintro rfl; exact h11 (p2 _ (g1 _ hc)))) hw hd' (fun b hb hc => hdis b hb (.inr (.inr hc)))
                have r2 := p6 w' _ _ _ hF (fun c hc => hS c (.inr (.inl hc)) (by rintro rfl; exact h11 (p1 _ hc))) r1 (by
                  rintro b (hb | hb) h1
                  · exact p3 _ h1 (g1 _ hb)
                  · exact hdis _ hb (.inr (.inl h1)))
                have hdl := RV.length _ _ _ hd'
                have hdl0 := RV.length _ _ _ g4
                rw [hput, RV]
                refine .inr ⟨b, cap, _, e, fr, fun b => S1 b ∨ Sc b ∨ S' b, by simp, .inl (.inl rfl), hb', ?_, by simpa using h5, h6, ?_, mem_set_wd h8 (hwd d' hw), ?_, ?_, ?_⟩
                · have : (c1 ++ l ++ (dcs' ++ (r ++ (c2 ++ tl)))).toArray.size = cur.size := by
                    have : cur.size = cur.toList.length := by simp
                    rw [this, hcur]; simp [hdl, hdl0, hw]
                  rw [this]; exact h4
                · rw [← h7]
                  have : cur.size = cur.toList.length := by simp
                  rw [this, hcur]; simp [hdl, hdl0, hw]
                · have hlen : (c1 ++ (l ++ (dcs' ++ r) ++ c2)).length = xs.length * sz := by
                    have := congrArg List.length p
                    rw [List.length_take, Nat.min_eq_left (by simp [h7]; exact Nat.mul_le_mul_right _ h5)] at this
                    rw [this]; simp [hdl, hdl0, hw]
                  have : (c1 ++ l ++ (dcs' ++ (r ++ (c2 ++ tl)))) = (c1 ++ (l ++ (dcs' ++ r) ++ c2)) ++ tl := by simp
                  rw [List.length_set]
                  simp only [this]
                  rw [List.take_left' hlen]
                  exact r2
                · rintro c (h | h | h)
                  · exact .inl (.inr (.inl h))
                  · exact .inl (.inr (.inr h))
                  · exact .inr h
                · rintro (h | h | h)
                  · exact h11 (p1 _ h)
                  · exact h11 (p2 _ (g1 _ h))
                  · exact hdis _ h (.inl rfl)
            · refine ⟨b', cur', e', fr', l, r, e1, .inr (.inr e2), e3, e4, e5, ?_⟩
              intro w' d' dcs' S' hF hS hb' hw hd' hdis
              have r1 := e6 w' d' dcs' S' hF (fun c hc hne => hS c (.inr (.inr hc)) hne) hb' hw hd' (fun b hb hc => hdis b hb (.inr (.inr hc)))
              have hne : ∀ c, S1 c → c ≠ b' := by rintro c hc rfl; exact p3 _ hc (g1 _ e2)
              have r2 := p6 w' _ _ _ hF (fun c hc => hS c (.inr (.inl hc)) (hne c hc)) r1 (by
                rintro b (hb | hb) h1
                · exact p3 _ h1 (g1 _ hb)
                · exact hdis _ hb (.inr (.inl h1)))
              have hbb : b ≠ b' := by rintro rfl; exact h11 (p2 _ (g1 _ e2))
              rw [hput, RV]
              refine .inr ⟨b, cap, cur, e, fr, fun b => S1 b ∨ Sc b ∨ S' b, by simp, .inl (.inl rfl), (hS b (.inl rfl) hbb).trans h3, h4, by simpa using h5, h6, h7, mem_set_wd h8 (hwd d' hw), ?_, ?_, ?_⟩
              · rw [List.length_set, p]; exact r2
              · rintro c (h | h | h)
                · exact .inl (.inr (.inl h))
                · exact .inl (.inr (.inr h))
                · exact .inr h
              · rintro (h | h | h)
                · exact h11 (p1 _ h)
                · exact h11 (p2 _ (g1 _ h))
                · exact hdis _ h (.inl rfl)
      · cases hd
    | ubox x =>
      cases k with
      | succ k => simp [AV.sub] at hd
      | zero =>
        simp only [AV.sub] at hd
        rw [RV] at h
        obtain ⟨b, cur, e, fr, S0, rfl, h2, h3, h4, h5, h6, h7⟩ := h
        have hl := RV.length _ _ _ h5
        have hrd : rdw w b 0 x.wd = cur.toList := by
          have := rdw_seg (l := []) (m := cur.toList) (r := []) h3 (by simp)
          rwa [hl] at this
        obtain ⟨dcs, a', Sc, Sd, g0, g1, g2, g3, g4, g5⟩ := ih x _ S0 (some (b, 0)) d h5 hd
        have hput : ∀ d', AV.put (0 :: q) d' (.ubox x) = .ubox (AV.put q d' x) := fun d' => rfl
        refine ⟨dcs, a', fun c => c = b ∨ Sc c, Sd, ?_, ?_, fun c hc => h6 _ (g2 _ hc), ?_, g4, .inr ?_⟩
        · simp only [fol, hrd]; exact g0
        · rintro c (rfl | h)
          · exact h2
          · exact h6 _ (g1 _ h)
        · rintro c (rfl | h) hd
          · exact h7 (g2 _ hd)
          · exact g3 _ h hd
        · rcases g5 with ⟨l, r, e1, e2, e3⟩ | ⟨b', cur', e', fr', l, r, e1, e2, e3, e4, e5, e6⟩
          · refine ⟨b, cur, e, fr, l, r, ?_, .inl rfl, h3, h4, e1, ?_⟩
            · rw [e2]; simp
            · intro w' d' dcs' S' hF hS hb' hw hd' hdis
              have r1 := e3 w' d' dcs' S' hF (fun c hc => hS c (.inr hc) (by rintro rfl; exact h7 (g1 _ hc))) hw hd' (fun b hb hc => hdis b hb (.inr hc))
              have hdl := RV.length _ _ _ hd'
              have hdl0 := RV.length _ _ _ g4
              rw [hput, RV]
              refine ⟨b, _, e, fr, fun b => Sc b ∨ S' b, rfl, .inl (.inl rfl), hb', ?_, r1, ?_, ?_⟩
              · have : (l ++ (dcs' ++ r)).toArray.size = cur.size := by
                  have : cur.size = cur.toList.length := by simp
                  rw [this, e1]; simp [hdl, hdl0, hw]
                rw [this]; exact h4
              · rintro c (h | h)
                · exact .inl (.inr h)
                · exact .inr h
              · rintro (h | h)
                · exact h7 (g1 _ h)
                · exact hdis _ h (.inl rfl)
          · refine ⟨b', cur', e', fr', l, r, e1, .inr e2, e3, e4, e5, ?_⟩
            intro w' d' dcs' S' hF hS hb' hw hd' hdis
            have r1 := e6 w' d' dcs' S' hF (fun c hc hne => hS c (.inr hc) hne) hb' hw hd' (fun b hb hc => hdis b hb (.inr hc))
            have hbb : b ≠ b' := by rintro rfl; exact h7 (g1 _ e2)
            rw [hput, RV]
            refine ⟨b, cur, e, fr, fun b => Sc b ∨ S' b, rfl, .inl (.inl rfl), (hS b (.inl rfl) hbb).trans h3, h4, r1, ?_, ?_⟩
            · rintro c (h | h)
              · exact .inl (.inr h)
              · exact .inr h
            · rintro (h | h)
              · exact h7 (g1 _ h)
              · exact hdis _ h (.inl rfl)
    | _ => simp [AV.sub] at hd

end Go.Fw
