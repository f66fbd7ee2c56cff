/- Part of a proof that a law returns true for every input. No condition. -/
import Derived.Laws.AppendOwn
import Derived.Calls
namespace Go.Fw

/-- Abstract values: data without addresses. -/
inductive AV where
  | hole
  | bool (b : Bool)
  | anyb
  | int (k : IntKind) (n : Int)
  | str (s : List UInt8)
  | nilp
  | nils
  | slice (xs : List AV)
  | uslice (sz : Nat) (xs : List AV)
  | ref (d : AV)
  | ubox (d : AV)
  | agg (fs : List AV)
  | tuple (vs : List AV)
  | fn (f : FuncId) (cap : List AV)
  | h (x : Nat) (q : List Nat)
  | hp (x : Nat) (q : List Nat)
  deriving Inhabited

mutual
def AV.wd : AV → Nat
  | .agg fs => AV.wds fs
  | .tuple fs => AV.wds fs
  | _ => 1
def AV.wds : List AV → Nat
  | [] => 0
  | d :: ds => d.wd + AV.wds ds
end

/-- The block `b` holds the cells `cs` from offset `o` on. -/
def Rd (w : World) (b o : Nat) (cs : List Value) : Prop := ∀ j c, cs[j]? = some c → w.cell? ⟨b, o + j, none⟩ = some c

def nofrz (fr : Nat × Nat) (n : Nat) : Prop := ∀ o, o < n → ¬ (fr.1 ≤ o ∧ o < fr.2)

def Value.isOne : Value → Bool
  | .agg _ => false
  | .tuple _ => false
  | _ => true

mutual
def RV (w : World) (F : Nat → Prop) : AV → List Value → (Nat → Prop) → Prop
  | .hole, cs, _ => ∃ v, Value.isOne v = true ∧ cs = [v]
  | .bool b, cs, _ => cs = [.bool b]
  | .anyb, cs, _ => ∃ b, cs = [.bool b]
  | .int k n, cs, _ => cs = [.int k n]
  | .str s, cs, _ => cs = [.string ⟨⟨s⟩⟩]
  | .nilp, cs, _ => cs = [.pointer none]
  | .nils, cs, _ => cs = [.slice none 0 0]
  | .slice xs, cs, _ => (xs = [] ∧ ∃ a c, cs = [.slice a 0 c] ∧ c ≤ maxLen ∧ (a = none → c = 0)) ∨
      ∃ b o cap ecs sz, cs = [.slice (some ⟨b, o, none⟩) xs.length cap] ∧ F b ∧ xs.length ≤ cap ∧ cap ≤ maxLen ∧ (∀ d ∈ xs, d.wd = sz) ∧
        Rd w b o ecs ∧ RVs w F xs ecs (fun _ => False)
  | .uslice sz xs, cs, S => (xs = [] ∧ cs = [.slice none 0 0]) ∨
      ∃ b cap cur e fr S', cs = [.slice (some ⟨b, 0, none⟩) xs.length cap] ∧ S b ∧ w.heap[b]? = some (.cells cur e fr) ∧ nofrz fr cur.size ∧
        xs.length ≤ cap ∧ cap ≤ maxLen ∧ cur.size = cap * sz ∧ (∀ d ∈ xs, d.wd = sz) ∧ RVs w F xs (cur.toList.take (xs.length * sz)) S' ∧ (∀ c, S' c → S c) ∧ ¬ S' b
  | .ref d, cs, _ => ∃ b o ecs, cs = [.pointer (some ⟨b, o, none⟩)] ∧ F b ∧ Rd w b o ecs ∧ RV w F d ecs (fun _ => False)
  | .ubox d, cs, S => ∃ b cur e fr S', cs = [.pointer (some ⟨b, 0, none⟩)] ∧ S b ∧ w.heap[b]? = some (.cells cur e fr) ∧ nofrz fr cur.size ∧
      RV w F d cur.toList S' ∧ (∀ c, S' c → S c) ∧ ¬ S' b
  | .agg fs, cs, S => RVs w F fs cs S
  | .tuple fs, cs, S => RVs w F fs cs S
  | .fn _ _, _, _ => False
  | .h _ _, _, _ => False
  | .hp _ _, _, _ => False
def RVs (w : World) (F : Nat → Prop) : List AV → List Value → (Nat → Prop) → Prop
  | [], cs, _ => cs = []
  | d :: ds, cs, S => ∃ c1 c2 S1 S2, cs = c1 ++ c2 ∧ RV w F d c1 S1 ∧ RVs w F ds c2 S2 ∧ (∀ b, S1 b → S b) ∧ (∀ b, S2 b → S b) ∧ (∀ b, S1 b → ¬ S2 b)
end

theorem cell?_of_block {w w' : World} {b : Nat} (h : w'.heap[b]? = w.heap[b]?) (o : Nat) : w'.cell? ⟨b, o, none⟩ = w.cell? ⟨b, o, none⟩ := by
  simp [World.cell?, h]

theorem Rd.frame {w w' : World} {b o : Nat} {cs : List Value} (h : w'.heap[b]? = w.heap[b]?) (hr : Rd w b o cs) : Rd w' b o cs :=
  fun j c hc => (cell?_of_block h _).trans (hr j c hc)

mutual
theorem RV.frame {w w' : World} {F : Nat → Prop} (hF : ∀ b, F b → w'.heap[b]? = w.heap[b]?) :
    ∀ (d : AV) (cs : List Value) (S : Nat → Prop), (∀ b, S b → w'.heap[b]? = w.heap[b]?) → RV w F d cs S → RV w' F d cs S
  | .hole, _, _, _, h => h
  | .bool _, _, _, _, h => h
  | .anyb, _, _, _, h => h
  | .int _ _, _, _, _, h => h
  | .str _, _, _, _, h => h
  | .nilp, _, _, _, h => h
  | .nils, _, _, _, h => h
  | .slice xs, cs, S, hS, h => by
    rw [RV] at h ⊢
    rcases h with h | ⟨b, o, cap, ecs, sz, h1, h2, h3, h4, h5, h6, h7⟩
    · exact .inl h
    · exact .inr ⟨b, o, cap, ecs, sz, h1, h2, h3, h4, h5, h6.frame (hF _ h2), RVs.frame hF xs _ _ (fun _ h => h.elim) h7⟩
  | .uslice sz xs, cs, S, hS, h => by
    rw [RV] at h ⊢
    rcases h with h | ⟨b, cap, cur, e, fr, S', h1, h2, h3, h4, h5, h6, h7, h8, h9, h10, h11⟩
    · exact .inl h
    · exact .inr ⟨b, cap, cur, e, fr, S', h1, h2, (hS _ h2).trans h3, h4, h5, h6, h7, h8, RVs.frame hF xs _ _ (fun c hc => hS _ (h10 _ hc)) h9, h10, h11⟩
  | .ref d, cs, S, hS, h => by
    rw [RV] at h ⊢
    obtain ⟨b, o, ecs, h1, h2, h3, h4⟩ := h
    exact ⟨b, o, ecs, h1, h2, h3.frame (hF _ h2), RV.frame hF d _ _ (fun _ h => h.elim) h4⟩
  | .ubox d, cs, S, hS, h => by
    rw [RV] at h ⊢
    obtain ⟨b, cur, e, fr, S', h1, h2, h3, h4, h5, h6, h7⟩ := h
    exact ⟨b, cur, e, fr, S', h1, h2, (hS _ h2).trans h3, h4, RV.frame hF d _ _ (fun c hc => hS _ (h6 _ hc)) h5, h6, h7⟩
  | .agg fs, cs, S, hS, h => by rw [RV] at h ⊢; exact RVs.frame hF fs _ _ hS h
  | .tuple fs, cs, S, hS, h => by rw [RV] at h ⊢; exact RVs.frame hF fs _ _ hS h
  | .fn _ _, _, _, _, h => h
  | .h _ _, _, _, _, h => h
  | .hp _ _, _, _, _, h => h
theorem RVs.frame {w w' : World} {F : Nat → Prop} (hF : ∀ b, F b → w'.heap[b]? = w.heap[b]?) :
    ∀ (ds : List AV) (cs : List Value) (S : Nat → Prop), (∀ b, S b → w'.heap[b]? = w.heap[b]?) → RVs w F ds cs S → RVs w' F ds cs S
  | [], _, _, _, h => h
  | d :: ds, cs, S, hS, h => by
    rw [RVs] at h ⊢
    obtain ⟨c1, c2, S1, S2, h1, h2, h3, h4, h5, h6⟩ := h
    exact ⟨c1, c2, S1, S2, h1, RV.frame hF d _ _ (fun b hb => hS _ (h4 _ hb)) h2, RVs.frame hF ds _ _ (fun b hb => hS _ (h5 _ hb)) h3, h4, h5, h6⟩
end

mutual
theorem RV.mono {w : World} {F F' : Nat → Prop} (hF : ∀ b, F b → F' b) :
    ∀ (d : AV) (cs : List Value) (S S' : Nat → Prop), (∀ b, S b → S' b) → RV w F d cs S → RV w F' d cs S'
  | .hole, _, _, _, _, h => h
  | .bool _, _, _, _, _, h => h
  | .anyb, _, _, _, _, h => h
  | .int _ _, _, _, _, _, h => h
  | .str _, _, _, _, _, h => h
  | .nilp, _, _, _, _, h => h
  | .nils, _, _, _, _, h => h
  | .slice xs, cs, S, _, hS, h => by
    rw [RV] at h ⊢
    rcases h with h | ⟨b, o, cap, ecs, sz, h1, h2, h3, h4, h5, h6, h7⟩
    · exact .inl h
    · exact .inr ⟨b, o, cap, ecs, sz, h1, hF _ h2, h3, h4, h5, h6, RVs.mono hF xs _ _ _ (fun _ h => h) h7⟩
  | .uslice sz xs, cs, S, _, hS, h => by
    rw [RV] at h ⊢
    rcases h with h | ⟨b, cap, cur, e, fr, S', h1, h2, h3, h4, h5, h6, h7, h8, h9, h10, h11⟩
    · exact .inl h
    · exact .inr ⟨b, cap, cur, e, fr, S', h1, hS _ h2, h3, h4, h5, h6, h7, h8, RVs.mono hF xs _ _ _ (fun _ h => h) h9, fun c hc => hS _ (h10 _ hc), h11⟩
  | .ref d, cs, S, _, hS, h => by
    rw [RV] at h ⊢
    obtain ⟨b, o, ecs, h1, h2, h3, h4⟩ := h
    exact ⟨b, o, ecs, h1, hF _ h2, h3, RV.mono hF d _ _ _ (fun _ h => h) h4⟩
  | .ubox d, cs, S, _, hS, h => by
    rw [RV] at h ⊢
    obtain ⟨b, cur, e, fr, S', h1, h2, h3, h4, h5, h6, h7⟩ := h
    exact ⟨b, cur, e, fr, S', h1, hS _ h2, h3, h4, RV.mono hF d _ _ _ (fun _ h => h) h5, fun c hc => hS _ (h6 _ hc), h7⟩
  | .agg fs, cs, S, _, hS, h => by rw [RV] at h ⊢; exact RVs.mono hF fs _ _ _ hS h
  | .tuple fs, cs, S, _, hS, h => by rw [RV] at h ⊢; exact RVs.mono hF fs _ _ _ hS h
  | .fn _ _, _, _, _, _, h => h
  | .h _ _, _, _, _, _, h => h
  | .hp _ _, _, _, _, _, h => h
theorem RVs.mono {w : World} {F F' : Nat → Prop} (hF : ∀ b, F b → F' b) :
    ∀ (ds : List AV) (cs : List Value) (S S' : Nat → Prop), (∀ b, S b → S' b) → RVs w F ds cs S → RVs w F' ds cs S'
  | [], _, _, _, _, h => h
  | d :: ds, cs, S, _, hS, h => by
    rw [RVs] at h ⊢
    obtain ⟨c1, c2, S1, S2, h1, h2, h3, h4, h5, h6⟩ := h
    exact ⟨c1, c2, S1, S2, h1, RV.mono hF d _ _ _ (fun _ h => h) h2, RVs.mono hF ds _ _ _ (fun _ h => h) h3, fun b hb => hS _ (h4 _ hb), fun b hb => hS _ (h5 _ hb), h6⟩
end

mutual
theorem RV.length {w : World} {F : Nat → Prop} : ∀ (d : AV) (cs : List Value) (S : Nat → Prop), RV w F d cs S → cs.length = d.wd
  | .hole, cs, S, h => by rw [RV] at h; obtain ⟨v, _, rfl⟩ := h; rfl
  | .bool _, cs, S, h => by rw [RV] at h; subst h; rfl
  | .anyb, cs, S, h => by rw [RV] at h; obtain ⟨b, rfl⟩ := h; rfl
  | .int _ _, cs, S, h => by rw [RV] at h; subst h; rfl
  | .str _, cs, S, h => by rw [RV] at h; subst h; rfl
  | .nilp, cs, S, h => by rw [RV] at h; subst h; rfl
  | .nils, cs, S, h => by rw [RV] at h; subst h; rfl
  | .slice xs, cs, S, h => by
    rw [RV] at h
    rcases h with ⟨_, a, c, rfl, _⟩ | ⟨b, o, cap, ecs, sz, rfl, _⟩ <;> rfl
  | .uslice sz xs, cs, S, h => by
    rw [RV] at h
    rcases h with ⟨_, rfl⟩ | ⟨b, cap, cur, e, fr, S', rfl, _⟩ <;> rfl
  | .ref d, cs, S, h => by rw [RV] at h; obtain ⟨b, o, ecs, rfl, _⟩ := h; rfl
  | .ubox d, cs, S, h => by rw [RV] at h; obtain ⟨b, o, ecs, _, _, rfl, _⟩ := h; rfl
  | .agg fs, cs, S, h => by rw [RV] at h; exact RVs.length fs _ _ h
  | .tuple fs, cs, S, h => by rw [RV] at h; exact RVs.length fs _ _ h
  | .fn _ _, cs, S, h => by rw [RV] at h; exact h.elim
  | .h _ _, cs, S, h => by rw [RV] at h; exact h.elim
  | .hp _ _, cs, S, h => by rw [RV] at h; exact h.elim
theorem RVs.length {w : World} {F : Nat → Prop} : ∀ (ds : List AV) (cs : List Value) (S : Nat → Prop), RVs w F ds cs S → cs.length = AV.wds ds
  | [], cs, S, h => by rw [RVs] at h; subst h; rfl
  | d :: ds, cs, S, h => by
    rw [RVs] at h
    obtain ⟨c1, c2, S1, S2, rfl, h2, h3, _⟩ := h
    rw [List.length_append, RV.length d _ _ h2, RVs.length ds _ _ h3, AV.wds]
end

-- The owned parts made shared.
mutual
def AV.share : AV → AV
  | .uslice _ xs => .slice (AV.shares xs)
  | .ubox d => .ref d.share
  | .slice xs => .slice (AV.shares xs)
  | .ref d => .ref d.share
  | .agg fs => .agg (AV.shares fs)
  | .tuple fs => .tuple (AV.shares fs)
  | d => d
def AV.shares : List AV → List AV
  | [] => []
  | d :: ds => d.share :: AV.shares ds
end

theorem AV.shares_eq (ds : List AV) : AV.shares ds = ds.map AV.share := by
  induction ds with
  | nil => rfl
  | cons d ds ih => simp [AV.shares, ih]

mutual
theorem AV.share_wd : ∀ d : AV, d.share.wd = d.wd
  | .hole => rfl
  | .bool _ => rfl
  | .anyb => rfl
  | .int _ _ => rfl
  | .str _ => rfl
  | .nilp => rfl
  | .nils => rfl
  | .slice _ => rfl
  | .uslice _ _ => rfl
  | .ref _ => rfl
  | .ubox _ => rfl
  | .agg fs => by simp only [AV.share, AV.wd]; exact AV.shares_wds fs
  | .tuple fs => by simp only [AV.share, AV.wd]; exact AV.shares_wds fs
  | .fn _ _ => rfl
  | .h _ _ => rfl
  | .hp _ _ => rfl
theorem AV.shares_wds : ∀ ds : List AV, AV.wds (AV.shares ds) = AV.wds ds
  | [] => rfl
  | d :: ds => by simp only [AV.shares, AV.wds]; rw [AV.share_wd d, AV.shares_wds ds]
end

theorem rd_of_row {w : World} {b : Nat} {cur : Array Value} {e : TypeId} {fr : Nat × Nat} (h : w.heap[b]? = some (.cells cur e fr)) (n : Nat) : Rd w b 0 (cur.toList.take n) := by
  intro j c hc
  rw [List.getElem?_take] at hc
  split at hc
  · simp [World.cell?, h]; simpa using hc
  · cases hc

mutual
theorem RV.shared {w : World} {F F' : Nat → Prop} (hF : ∀ b, F b → F' b) :
    ∀ (d : AV) (cs : List Value) (S : Nat → Prop), (∀ b, S b → F' b) → RV w F d cs S → RV w F' d.share cs (fun _ => False)
  | .hole, _, _, _, h => h
  | .bool _, _, _, _, h => h
  | .anyb, _, _, _, h => h
  | .int _ _, _, _, _, h => h
  | .str _, _, _, _, h => h
  | .nilp, _, _, _, h => h
  | .nils, _, _, _, h => h
  | .slice xs, cs, S, hS, h => by
    rw [AV.share, RV]
    rw [RV] at h
    rcases h with ⟨rfl, a, c, rfl, hc⟩ | ⟨b, o, cap, ecs, sz, h1, h2, h3, h4, h5, h6, h7⟩
    · exact .inl ⟨rfl, a, c, rfl, hc⟩
    · refine .inr ⟨b, o, cap, ecs, sz, ?_, hF _ h2, ?_, h4, ?_, h6, RVs.shared hF xs _ _ (fun _ h => h.elim) h7⟩
      · simpa [AV.shares_eq] using h1
      · simpa [AV.shares_eq] using h3
      · intro d hd
        rw [AV.shares_eq] at hd
        obtain ⟨d', hd', rfl⟩ := List.mem_map.1 hd
        rw [AV.share_wd]; exact h5 _ hd'
  | .uslice sz xs, cs, S, hS, h => by
    rw [AV.share, RV]
    rw [RV] at h
    rcases h with ⟨rfl, rfl⟩ | ⟨b, cap, cur, e, fr, S', h1, h2, h3, h4, h5, h6, h7, h8, h9, h10, h11⟩
    · exact .inl ⟨rfl, none, 0, rfl, Nat.zero_le _, fun _ => rfl⟩
    · refine .inr ⟨b, 0, cap, _, sz, ?_, hS _ h2, ?_, h6, ?_, rd_of_row h3 _, RVs.shared hF xs _ _ (fun c hc => hS _ (h10 _ hc)) h9⟩
      · simpa [AV.shares_eq] using h1
      · simpa [AV.shares_eq] using h5
      · intro d hd
        rw [AV.shares_eq] at hd
        obtain ⟨d', hd', rfl⟩ := List.mem_map.1 hd
        rw [AV.share_wd]; exact h8 _ hd'
  | .ref d, cs, S, hS, h => by
    rw [AV.share, RV]
    rw [RV] at h
    obtain ⟨b, o, ecs, h1, h2, h3, h4⟩ := h
    exact ⟨b, o, ecs, h1, hF _ h2, h3, RV.shared hF d _ _ (fun _ h => h.elim) h4⟩
  | .ubox d, cs, S, hS, h => by
    rw [AV.share, RV]
    rw [RV] at h
    obtain ⟨b, cur, e, fr, S', h1, h2, h3, h4, h5, h6, h7⟩ := h
    refine ⟨b, 0, cur.toList, h1, hS _ h2, ?_, RV.shared hF d _ _ (fun c hc => hS _ (h6 _ hc)) h5⟩
    have := rd_of_row h3 cur.toList.length
    rwa [List.take_length] at this
  | .agg fs, cs, S, hS, h => by rw [AV.share, RV]; rw [RV] at h; exact RVs.shared hF fs _ _ hS h
  | .tuple fs, cs, S, hS, h => by rw [AV.share, RV]; rw [RV] at h; exact RVs.shared hF fs _ _ hS h
  | .fn _ _, _, _, _, h => h
  | .h _ _, _, _, _, h => h
  | .hp _ _, _, _, _, h => h
theorem RVs.shared {w : World} {F F' : Nat → Prop} (hF : ∀ b, F b → F' b) :
    ∀ (ds : List AV) (cs : List Value) (S : Nat → Prop), (∀ b, S b → F' b) → RVs w F ds cs S → RVs w F' (AV.shares ds) cs (fun _ => False)
  | [], _, _, _, h => h
  | d :: ds, cs, S, hS, h => by
    simp only [AV.shares]
    rw [RVs] at h ⊢
    obtain ⟨c1, c2, S1, S2, h1, h2, h3, h4, h5, h6⟩ := h
    exact ⟨c1, c2, _, _, h1, RV.shared hF d _ _ (fun b hb => hS _ (h4 _ hb)) h2, RVs.shared hF ds _ _ (fun b hb => hS _ (h5 _ hb)) h3, fun _ h => h, fun _ h => h, fun _ h => h.elim⟩
end

end Go.Fw
