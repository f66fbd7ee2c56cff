/- Part of a proof that a law returns true for every input. No condition. -/
import Derived.Test.YtncnipaofaeaiaaFw2
namespace Go.Fw

mutual
/-- No owned part. -/
def AV.plain : AV → Bool
  | .uslice _ _ => false
  | .ubox _ => false
  | .agg fs => AV.plains fs
  | .tuple fs => AV.plains fs
  | _ => true
def AV.plains : List AV → Bool
  | [] => true
  | d :: ds => d.plain && AV.plains ds
end

mutual
/-- What is left where the owned parts are taken. -/
def AV.hollow : AV → AV
  | .uslice _ _ => .hole
  | .ubox _ => .hole
  | .agg fs => .agg (AV.hollows fs)
  | .tuple fs => .tuple (AV.hollows fs)
  | d => d
def AV.hollows : List AV → List AV
  | [] => []
  | d :: ds => d.hollow :: AV.hollows ds
end

mutual
theorem AV.hollow_wd : ∀ d : AV, d.hollow.wd = d.wd
  | .hole => rfl
  | .bool _ => rfl
  | .anyb => rfl
  | .int _ _ => rfl
  | .str _ => rfl
  | .nilp => rfl
  | .nils => rfl
  | .slice _ => rfl
  | .uslice _ _ => rfl
  | .ref _ => rfl
  | .ubox _ => rfl
  | .agg fs => by simp only [AV.hollow, AV.wd]; exact AV.hollows_wds fs
  | .tuple fs => by simp only [AV.hollow, AV.wd]; exact AV.hollows_wds fs
  | .fn _ _ => rfl
  | .h _ _ => rfl
  | .hp _ _ => rfl
theorem AV.hollows_wds : ∀ ds : List AV, AV.wds (AV.hollows ds) = AV.wds ds
  | [] => rfl
  | d :: ds => by simp only [AV.hollows, AV.wds]; rw [AV.hollow_wd d, AV.hollows_wds ds]
end

mutual
theorem RV.hollow {w : World} {F : Nat → Prop} : ∀ (d : AV) (cs : List Value) (S S' : Nat → Prop), RV w F d cs S → RV w F d.hollow cs S'
  | .hole, _, _, _, h => h
  | .bool _, _, _, _, h => h
  | .anyb, _, _, _, h => h
  | .int _ _, _, _, _, h => h
  | .str _, _, _, _, h => h
  | .nilp, _, _, _, h => h
  | .nils, _, _, _, h => h
  | .slice xs, cs, S, S', h => by
    show RV w F (.slice xs) cs S'
    rw [RV] at h ⊢; exact h
  | .uslice sz xs, cs, S, S', h => by
    rw [AV.hollow, RV]
    rw [RV] at h
    rcases h with ⟨_, rfl⟩ | ⟨b, cap, cur, e, fr, S0, rfl, _⟩
    · exact ⟨_, rfl, rfl⟩
    · exact ⟨_, rfl, rfl⟩
  | .ref d, cs, S, S', h => by
    show RV w F (.ref d) cs S'
    rw [RV] at h ⊢; exact h
  | .ubox d, cs, S, S', h => by
    rw [AV.hollow, RV]
    rw [RV] at h
    obtain ⟨b, cur, e, fr, S0, rfl, _⟩ := h
    exact ⟨_, rfl, rfl⟩
  | .agg fs, cs, S, S', h => by rw [AV.hollow, RV]; rw [RV] at h; exact RVs.hollow fs _ _ _ h
  | .tuple fs, cs, S, S', h => by rw [AV.hollow, RV]; rw [RV] at h; exact RVs.hollow fs _ _ _ h
  | .fn _ _, _, _, _, h => h
  | .h _ _, _, _, _, h => h
  | .hp _ _, _, _, _, h => h
theorem RVs.hollow {w : World} {F : Nat → Prop} : ∀ (ds : List AV) (cs : List Value) (S S' : Nat → Prop), RVs w F ds cs S → RVs w F (AV.hollows ds) cs S'
  | [], _, _, _, h => h
  | d :: ds, cs, S, S', h => by
    rw [AV.hollows, RVs]
    rw [RVs] at h
    obtain ⟨c1, c2, S1, S2, h1, h2, h3, h4, h5, h6⟩ := h
    exact ⟨c1, c2, fun _ => False, fun _ => False, h1, RV.hollow d _ _ _ h2, RVs.hollow ds _ _ _ h3, fun _ h => h.elim, fun _ h => h.elim, fun _ h => h.elim⟩
end

mutual
theorem RV.plain {w : World} {F : Nat → Prop} : ∀ (d : AV) (cs : List Value) (S S' : Nat → Prop), d.plain = true → RV w F d cs S → RV w F d cs S'
  | .hole, _, _, _, _, h => h
  | .bool _, _, _, _, _, h => h
  | .anyb, _, _, _, _, h => h
  | .int _ _, _, _, _, _, h => h
  | .str _, _, _, _, _, h => h
  | .nilp, _, _, _, _, h => h
  | .nils, _, _, _, _, h => h
  | .slice xs, cs, S, S', _, h => by rw [RV] at h ⊢; exact h
  | .uslice sz xs, cs, S, S', hp, h => by simp [AV.plain] at hp
  | .ref d, cs, S, S', _, h => by rw [RV] at h ⊢; exact h
  | .ubox d, cs, S, S', hp, h => by simp [AV.plain] at hp
  | .agg fs, cs, S, S', hp, h => by rw [RV] at h ⊢; exact RVs.plain fs _ _ _ hp h
  | .tuple fs, cs, S, S', hp, h => by rw [RV] at h ⊢; exact RVs.plain fs _ _ _ hp h
  | .fn _ _, _, _, _, _, h => h
  | .h _ _, _, _, _, _, h => h
  | .hp _ _, _, _, _, _, h => h
theorem RVs.plain {w : World} {F : Nat → Prop} : ∀ (ds : List AV) (cs : List Value) (S S' : Nat → Prop), AV.plains ds = true → RVs w F ds cs S → RVs w F ds cs S'
  | [], _, _, _, _, h => h
  | d :: ds, cs, S, S', hp, h => by
    rw [RVs] at h ⊢
    simp only [AV.plains, Bool.and_eq_true] at hp
    obtain ⟨c1, c2, S1, S2, h1, h2, h3, h4, h5, h6⟩ := h
    exact ⟨c1, c2, fun _ => False, fun _ => False, h1, RV.plain d _ _ _ hp.1 h2, RVs.plain ds _ _ _ hp.2 h3, fun _ h => h.elim, fun _ h => h.elim, fun _ h => h.elim⟩
end

/-- The path passes through owned memory. -/
def AV.cross : List Nat → AV → Bool
  | [], _ => false
  | k :: q, .agg fs => match fs[k]? with
    | some d => AV.cross q d
    | none => false
  | k :: q, .tuple fs => match fs[k]? with
    | some d => AV.cross q d
    | none => false
  | _ :: _, .uslice _ _ => true
  | _ :: _, .ubox _ => true
  | _ :: _, _ => false

theorem plains_get {fs : List AV} (h : AV.plains fs = true) {k : Nat} {d : AV} (hk : fs[k]? = some d) : d.plain = true := by
  induction fs generalizing k with
  | nil => simp at hk
  | cons a fs ih =>
    simp only [AV.plains, Bool.and_eq_true] at h
    cases k with
    | zero => simp at hk; subst hk; exact h.1
    | succ k => simp at hk; exact ih h.2 hk

theorem AV.cross_plain : ∀ (q : List Nat) (d : AV), d.plain = true → AV.cross q d = false := by
  intro q
  induction q with
  | nil => intros; rfl
  | cons k q ih =>
    intro d hd
    cases d <;> first | rfl | (simp [AV.plain] at hd; done) | skip
    all_goals
      simp only [AV.cross]
      split
      · rename_i fs x hx; exact ih _ (plains_get (by simpa [AV.plain] using hd) hx)
      · rfl

theorem AV.sub_plain : ∀ (q : List Nat) (d e : AV), d.plain = true → AV.sub q d = some e → e.plain = true := by
  intro q
  induction q with
  | nil => intro d e hd h; simp [AV.sub] at h; exact h ▸ hd
  | cons k q ih =>
    intro d e hd h
    cases d <;> first | (simp [AV.plain] at hd; done) | (simp [AV.sub] at h; done) | skip
    all_goals
      simp only [AV.sub] at h
      split at h
      · rename_i fs x hx; exact ih _ _ (plains_get (by simpa [AV.plain] using hd) hx) h
      · cases h

/-- A path reads the same while the owned blocks are the same. -/
theorem fol_frame {w w' : World} {F : Nat → Prop} : ∀ (q : List Nat) (av : AV) (cs : List Value) (S : Nat → Prop) (a : Option (Nat × Nat)) (d : AV),
    RV w F av cs S → AV.sub q av = some d → (∀ b, S b → w'.heap[b]? = w.heap[b]?) → fol w' q av cs a = fol w q av cs a := by
  intro q
  induction q with
  | nil => intros; rfl
  | cons k q ih =>
    have fields : ∀ (fs : List AV) (cs : List Value) (S : Nat → Prop) (a : Option (Nat × Nat)) (x d : AV), RVs w F fs cs S → fs[k]? = some x → AV.sub q x = some d →
        (∀ b, S b → w'.heap[b]? = w.heap[b]?) →
        fol w' q x ((cs.drop (AV.wds (fs.take k))).take x.wd) (a.map fun l => (l.1, l.2 + AV.wds (fs.take k))) = fol w q x ((cs.drop (AV.wds (fs.take k))).take x.wd) (a.map fun l => (l.1, l.2 + AV.wds (fs.take k))) := by
      intro fs cs S a x d h hx hd hS
      obtain ⟨c1, ck, c2, S1, Sk, rfl, p0, p1, p2, p3, p5, p6⟩ := RVs.pick fs cs S k x h hx
      rw [seg_eq c1 ck c2 _ _ p0 (RV.length _ _ _ p5)]
      exact ih x ck Sk _ d p5 hd (fun b hb => hS b (p2 _ hb))
    intro av cs S a d h hd hS
    cases av with
    | agg fs =>
      simp only [AV.sub] at hd
      split at hd
      · rename_i x hx
        rw [RV] at h
        simp only [fol, hx]
        exact fields fs cs S a x d h hx hd hS
      · cases hd
    | tuple fs =>
      simp only [AV.sub] at hd
      split at hd
      · rename_i x hx
        rw [RV] at h
        simp only [fol, hx]
        exact fields fs cs S a x d h hx hd hS
      · cases hd
    | uslice sz xs =>
      simp only [AV.sub] at hd
      split at hd
      · rename_i x hx
        rw [RV] at h
        rcases h with ⟨rfl, rfl⟩ | ⟨b, cap, cur, e, fr, S0, rfl, h2, h3, h4, h5, h6, h7, h8, h9, h10, h11⟩
        · simp at hx
        · obtain ⟨c1, ck, c2, S1, Sk, p, p0, p1, p2, p3, p5, p6⟩ := RVs.pick xs _ S0 k x h9 hx
          have hl := RV.length _ _ _ p5
          have hklt : k < xs.length := (List.getElem?_eq_some_iff.1 hx).1
          have hxsz : x.wd = sz := h8 x (List.mem_of_getElem? hx)
          have ho : AV.wds (xs.take k) = k * sz := by
            rw [wds_uniform _ (fun d hd => h8 d (List.mem_of_mem_take hd))]
            rw [List.length_take, Nat.min_eq_left (by omega)]
          obtain ⟨tl, hcur⟩ : ∃ tl, cur.toList = c1 ++ (ck ++ (c2 ++ tl)) := by
            refine ⟨cur.toList.drop (xs.length * sz), ?_⟩
            have := (List.take_append_drop (xs.length * sz) cur.toList).symm
            rw [p] at this
            simpa using this
          have hrd : rdw w b (k * sz) sz = ck := by
            have := rdw_seg h3 hcur
            rwa [p0, ho, hl, hxsz] at this
          have hrd' : rdw w' b (k * sz) sz = ck := by
            have := rdw_seg ((hS b h2).trans h3) hcur
            rwa [p0, ho, hl, hxsz] at this
          simp only [fol, hx, hrd, hrd']
          exact ih x ck Sk _ d p5 hd (fun c hc => hS c (h10 _ (p2 _ hc)))
      · cases hd
    | ubox x =>
      cases k with
      | succ k => simp [AV.sub] at hd
      | zero =>
        simp only [AV.sub] at hd
        rw [RV] at h
        obtain ⟨b, cur, e, fr, S0, rfl, h2, h3, h4, h5, h6, h7⟩ := h
        have hl := RV.length _ _ _ h5
        have hrd : rdw w b 0 x.wd = cur.toList := by
          have := rdw_seg (l := []) (m := cur.toList) (r := []) h3 (by simp)
          rwa [hl] at this
        have hrd' : rdw w' b 0 x.wd = cur.toList := by
          have := rdw_seg (l := []) (m := cur.toList) (r := []) ((hS b h2).trans h3) (by simp)
          rwa [hl] at this
        simp only [fol, hrd, hrd']
        exact ih x cur.toList S0 _ d h5 hd (fun c hc => hS c (h6 _ hc))
    | _ => simp [AV.sub] at hd

/-- The cells of a value. -/
def vc1 : Value → List Value
  | .agg cs => cs.toList
  | v => [v]
def vc : Value → List Value
  | .tuple vs => vs.toList.flatMap vc1
  | v => vc1 v

def shp1 : AV → Value → Prop
  | .agg _, v => ∃ arr, v = .agg arr
  | _, v => Value.isOne v = true
def shp : AV → Value → Prop
  | .tuple ds, v => ∃ arr : Array Value, v = .tuple arr ∧ arr.size = ds.length ∧ ∀ (k : Nat) (d : AV) (x : Value), ds[k]? = some d → arr[k]? = some x → shp1 d x ∧ (∀ vs, d ≠ .tuple vs) ∧ (vc1 x).length = d.wd
  | d, v => shp1 d v

abbrev St := Nat → AV

mutual
/-- A slot's value is what the abstract state says. -/
def SV (w : World) (F : Nat → Prop) (s : St) (tm : Nat → Value) : AV → Value → (Nat → Prop) → Prop
  | .hole, _, _ => True
  | .h x q, v, _ => ∀ d, AV.sub q (s x) = some d → d.plain = false → ∃ dcs a, fol w q (s x) (vc (tm x)) none = some (d, dcs, a) ∧ vc v = dcs ∧ shp d v
  | .hp x q, v, _ => ∀ d, AV.sub q (s x) = some d → AV.cross q (s x) = true → ∃ dcs b o, fol w q (s x) (vc (tm x)) none = some (d, dcs, some (b, o)) ∧ v = .pointer (some ⟨b, o, none⟩)
  | .fn f cap, v, _ => ∃ arr : Array Value, v = .func (.func f) #[] arr ∧ SVs w F s tm cap arr.toList
  | .bool b, v, S => shp (.bool b) v ∧ RV w F (.bool b) (vc v) S
  | .anyb, v, S => shp .anyb v ∧ RV w F .anyb (vc v) S
  | .int k n, v, S => shp (.int k n) v ∧ RV w F (.int k n) (vc v) S
  | .str x, v, S => shp (.str x) v ∧ RV w F (.str x) (vc v) S
  | .nilp, v, S => shp .nilp v ∧ RV w F .nilp (vc v) S
  | .nils, v, S => shp .nils v ∧ RV w F .nils (vc v) S
  | .slice xs, v, S => shp (.slice xs) v ∧ RV w F (.slice xs) (vc v) S
  | .uslice sz xs, v, S => shp (.uslice sz xs) v ∧ RV w F (.uslice sz xs) (vc v) S
  | .ref d, v, S => shp (.ref d) v ∧ RV w F (.ref d) (vc v) S
  | .ubox d, v, S => shp (.ubox d) v ∧ RV w F (.ubox d) (vc v) S
  | .agg d, v, S => shp (.agg d) v ∧ RV w F (.agg d) (vc v) S
  | .tuple d, v, S => shp (.tuple d) v ∧ RV w F (.tuple d) (vc v) S
def SVs (w : World) (F : Nat → Prop) (s : St) (tm : Nat → Value) : List AV → List Value → Prop
  | [], vs => vs = []
  | d :: ds, vs => ∃ v vs', vs = v :: vs' ∧ SV w F s tm d v (fun _ => False) ∧ SVs w F s tm ds vs'
end

/-- Trees: what lies in memory. -/
def AV.tree : AV → Bool
  | .hole => false
  | .h _ _ => false
  | .hp _ _ => false
  | .fn _ _ => false
  | _ => true

theorem SV.of_tree {w : World} {F : Nat → Prop} {s : St} {tm : Nat → Value} {d : AV} {v : Value} {S : Nat → Prop} (ht : d.tree = true) :
    SV w F s tm d v S ↔ (shp d v ∧ RV w F d (vc v) S) := by
  cases d <;> first | (simp [AV.tree] at ht; done) | rw [SV]

/-- Where a slot's handles lead, the slot is a tree. -/
theorem tree_of_sub {q : List Nat} {av d : AV} (h : AV.sub q av = some d) (hp : d.plain = false ∨ AV.cross q av = true) : av.tree = true := by
  cases q with
  | nil =>
    simp [AV.sub] at h; subst h
    rcases hp with hp | hp
    · cases av <;> first | rfl | (simp [AV.plain] at hp)
    · simp [AV.cross] at hp
  | cons k q => cases av <;> first | rfl | (simp [AV.sub] at h)

/-- The world may change outside what the state holds. -/
theorem SV.frame {w w' : World} {F F' : Nat → Prop} {s : St} {tm : Nat → Value} {Sx : Nat → Nat → Prop} (hF : ∀ b, F b → w'.heap[b]? = w.heap[b]?) (hFF : ∀ b, F b → F' b)
    (hS : ∀ x b, Sx x b → w'.heap[b]? = w.heap[b]?) (hall : ∀ x, SV w F s tm (s x) (tm x) (Sx x)) :
    ∀ (d : AV) (v : Value) (S : Nat → Prop), (∀ b, S b → w'.heap[b]? = w.heap[b]?) → SV w F s tm d v S → SV w' F' s tm d v S := by
  have hfol : ∀ (x : Nat) (q : List Nat) (d : AV), AV.sub q (s x) = some d → (d.plain = false ∨ AV.cross q (s x) = true) → fol w' q (s x) (vc (tm x)) none = fol w q (s x) (vc (tm x)) none := by
    intro x q d hd hp
    have ht := tree_of_sub hd hp
    have := hall x
    rw [SV.of_tree ht] at this
    exact fol_frame q _ _ (Sx x) none d this.2 hd (hS x)
  have tr : ∀ (d : AV) (v : Value) (S : Nat → Prop), d.tree = true → (∀ b, S b → w'.heap[b]? = w.heap[b]?) → SV w F s tm d v S → SV w' F' s tm d v S := by
    intro d v S ht hSS h
    rw [SV.of_tree ht] at h ⊢
    exact ⟨h.1, RV.mono hFF _ _ _ _ (fun _ h => h) (RV.frame hF _ _ _ hSS h.2)⟩
  have step : ∀ n, (∀ (d : AV) (v : Value) (S : Nat → Prop), SizeOf.sizeOf d ≤ n → (∀ b, S b → w'.heap[b]? = w.heap[b]?) → SV w F s tm d v S → SV w' F' s tm d v S) ∧
      (∀ (ds : List AV) (vs : List Value), SizeOf.sizeOf ds ≤ n → SVs w F s tm ds vs → SVs w' F' s tm ds vs) := by
    intro n
    induction n with
    | zero =>
      refine ⟨fun d v S hz => ?_, fun ds vs hz => ?_⟩
      · cases d <;> simp at hz <;> omega
      · cases ds <;> simp at hz <;> omega
    | succ n ih =>
      refine ⟨fun d v S hz hSS h => ?_, fun ds vs hz h => ?_⟩
      · cases d with
        | hole => rw [SV]; trivial
        | h x q =>
          rw [SV] at h ⊢
          intro d hd hp
          rw [hfol x q d hd (.inl hp)]
          exact h d hd hp
        | hp x q =>
          rw [SV] at h ⊢
          intro d hd hp
          rw [hfol x q d hd (.inr hp)]
          exact h d hd hp
        | fn f cap =>
          rw [SV] at h ⊢
          obtain ⟨arr, rfl, hc⟩ := h
          exact ⟨arr, rfl, ih.2 _ _ (by simp at hz; omega) hc⟩
        | _ => exact tr _ _ _ rfl hSS h
      · cases ds with
        | nil => rw [SVs] at h ⊢; exact h
        | cons d ds =>
          rw [SVs] at h ⊢
          obtain ⟨v, vs', rfl, h1, h2⟩ := h
          simp at hz
          exact ⟨v, vs', rfl, ih.1 _ _ _ (by omega) (fun _ h => h.elim) h1, ih.2 _ _ (by omega) h2⟩
  intro d v S hSS h
  exact (step (SizeOf.sizeOf d)).1 d v S (Nat.le_refl _) hSS h

mutual
/-- The handles to a slot made void. -/
def pg (x : Nat) : AV → AV
  | .h y q => if y = x then .hole else .h y q
  | .hp y q => if y = x then .hole else .hp y q
  | .fn f cap => .fn f (pgs x cap)
  | d => d
def pgs (x : Nat) : List AV → List AV
  | [] => []
  | d :: ds => pg x d :: pgs x ds
end
mutual
/-- .. but for the alias of the slot itself. -/
def pk (x : Nat) : AV → AV
  | .h y q => if y = x then (if q = [] then .h y q else .hole) else .h y q
  | .hp y q => if y = x then .hole else .hp y q
  | .fn f cap => .fn f (pks x cap)
  | d => d
def pks (x : Nat) : List AV → List AV
  | [] => []
  | d :: ds => pk x d :: pks x ds
end

end Go.Fw
