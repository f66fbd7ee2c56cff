/- Part of a proof that a law returns true for every input. No condition. -/
import Derived.Test.YtobljppjkklojaaFwA
import Derived.Laws.AppendOwn
import Derived.Calls
namespace Go.Fw
inductive AV where
 | hole
 | bool (b : Bool)
 | anyb
 | int (k : IntKind) (n : Int)
 | str (s : List UInt8)
 | nilp
 | nils
 | slice (xs : List AV)
 | uslice (sz : Nat) (xs : List AV)
 | ref (d : AV)
 | ubox (d : AV)
 | agg (fs : List AV)
 | tuple (vs : List AV)
 | fn (f : FuncId) (cap : List AV)
 | h (x : Nat) (q : List Nat)
 | hp (x : Nat) (q : List Nat)
 | hb (x : Nat) (k : Nat)
 deriving Inhabited
mutual
def AV.wd : AV → Nat
 | .agg fs => AV.wds fs
 | .tuple fs => AV.wds fs
 | _ => 1
def AV.wds : List AV → Nat
 | [] => 0
 | d :: ds => d.wd + AV.wds ds
end
def Rd (w : World) (b o : Nat) (cs : List Value) : Prop := ∀ j c, cs[j]? = some c → w.cell? ⟨b, o + j, none⟩ = some c
def nofrz (fr : Nat × Nat) (n : Nat) : Prop := ∀ o, o < n → ¬ (fr.1 ≤ o ∧ o < fr.2)
def Value.isOne : Value → Bool
 | .agg _ => false
 | .tuple _ => false
 | _ => true
mutual
def RV (w : World) (F : Nat → Prop) : AV → List Value → (Nat → Prop) → Prop
 | .hole, cs, _ => ∃ v, Value.isOne v = true ∧ cs = [v]
 | .bool b, cs, _ => cs = [.bool b]
 | .anyb, cs, _ => ∃ b, cs = [.bool b]
 | .int k n, cs, _ => cs = [.int k n]
 | .str s, cs, _ => cs = [.string ⟨⟨s⟩⟩]
 | .nilp, cs, _ => cs = [.pointer none]
 | .nils, cs, _ => cs = [.slice none 0 0]
 | .slice xs, cs, _ => (xs = [] ∧ ∃ a c, cs = [.slice a 0 c] ∧ c ≤ maxLen ∧ (a = none → c = 0)) ∨
   ∃ b o cap ecs sz, cs = [.slice (some ⟨b, o, none⟩) xs.length cap] ∧ F b ∧ xs.length ≤ cap ∧ cap ≤ maxLen ∧ (∀ d ∈ xs, d.wd = sz) ∧
     Rd w b o ecs ∧ RVs w F xs ecs (fun _ => False)
 | .uslice sz xs, cs, S => (xs = [] ∧ ∃ a, cs = [.slice a 0 0]) ∨
   ∃ b cap cur e fr S', cs = [.slice (some ⟨b, 0, none⟩) xs.length cap] ∧ S b ∧ w.heap[b]? = some (.cells cur e fr) ∧ nofrz fr cur.size ∧
     xs.length ≤ cap ∧ cap ≤ maxLen ∧ cur.size = cap * sz ∧ (∀ d ∈ xs, d.wd = sz) ∧ RVs w F xs (cur.toList.take (xs.length * sz)) S' ∧ (∀ c, S' c → S c) ∧ ¬ S' b
 | .ref d, cs, _ => ∃ b o ecs, cs = [.pointer (some ⟨b, o, none⟩)] ∧ F b ∧ Rd w b o ecs ∧ RV w F d ecs (fun _ => False)
 | .ubox d, cs, S => ∃ b cur e fr S', cs = [.pointer (some ⟨b, 0, none⟩)] ∧ S b ∧ w.heap[b]? = some (.cells cur e fr) ∧ nofrz fr cur.size ∧
   RV w F d cur.toList S' ∧ (∀ c, S' c → S c) ∧ ¬ S' b
 | .agg fs, cs, S => RVs w F fs cs S
 | .tuple fs, cs, S => RVs w F fs cs S
 | .fn _ _, _, _ => False
 | .h _ _, _, _ => False
 | .hp _ _, _, _ => False
 | .hb _ _, _, _ => False
def RVs (w : World) (F : Nat → Prop) : List AV → List Value → (Nat → Prop) → Prop
 | [], cs, _ => cs = []
 | d :: ds, cs, S => ∃ c1 c2 S1 S2, cs = c1 ++ c2 ∧ RV w F d c1 S1 ∧ RVs w F ds c2 S2 ∧ (∀ b, S1 b → S b) ∧ (∀ b, S2 b → S b) ∧ (∀ b, S1 b → ¬ S2 b)
end
theorem cell?_of_block {w w' : World} {b : Nat} (h : w'.heap[b]? = w.heap[b]?) (o : Nat) : w'.cell? ⟨b, o, none⟩ = w.cell? ⟨b, o, none⟩ := by
 simp [World.cell?, h]
theorem Rd.frame {w w' : World} {b o : Nat} {cs : List Value} (h : w'.heap[b]? = w.heap[b]?) (hr : Rd w b o cs) : Rd w' b o cs :=
 fun j c hc => (cell?_of_block h _).trans (hr j c hc)
mutual
theorem RV.frame {w w' : World} {F : Nat → Prop} (hF : ∀ b, F b → w'.heap[b]? = w.heap[b]?) :
  ∀ (d : AV) (cs : List Value) (S : Nat → Prop), (∀ b, S b → w'.heap[b]? = w.heap[b]?) → RV w F d cs S → RV w' F d cs S
 | .hole, _, _, _, h => h
 | .bool _, _, _, _, h => h
 | .anyb, _, _, _, h => h
 | .int _ _, _, _, _, h => h
 | .str _, _, _, _, h => h
 | .nilp, _, _, _, h => h
 | .nils, _, _, _, h => h
 | .slice xs, cs, S, hS, h => by
   rw [RV] at h ⊢
   rcases h with h | ⟨b, o, cap, ecs, sz, h1, h2, h3, h4, h5, h6, h7⟩
   ·exact .inl h
   ·exact .inr ⟨b, o, cap, ecs, sz, h1, h2, h3, h4, h5, h6.frame (hF _ h2), RVs.frame hF xs _ _ (fun _ h => h.elim) h7⟩
 | .uslice sz xs, cs, S, hS, h => by
   rw [RV] at h ⊢
   rcases h with h | ⟨b, cap, cur, e, fr, S', h1, h2, h3, h4, h5, h6, h7, h8, h9, h10, h11⟩
   ·exact .inl h
   ·exact .inr ⟨b, cap, cur, e, fr, S', h1, h2, (hS _ h2).trans h3, h4, h5, h6, h7, h8, RVs.frame hF xs _ _ (fun c hc => hS _ (h10 _ hc)) h9, h10, h11⟩
 | .ref d, cs, S, hS, h => by
   rw [RV] at h ⊢
   obtain ⟨b, o, ecs, h1, h2, h3, h4⟩ := h
   exact ⟨b, o, ecs, h1, h2, h3.frame (hF _ h2), RV.frame hF d _ _ (fun _ h => h.elim) h4⟩
 | .ubox d, cs, S, hS, h => by
   rw [RV] at h ⊢
   obtain ⟨b, cur, e, fr, S', h1, h2, h3, h4, h5, h6, h7⟩ := h
   exact ⟨b, cur, e, fr, S', h1, h2, (hS _ h2).trans h3, h4, RV.frame hF d _ _ (fun c hc => hS _ (h6 _ hc)) h5, h6, h7⟩
 | .agg fs, cs, S, hS, h => by rw [RV] at h ⊢; exact RVs.frame hF fs _ _ hS h
 | .tuple fs, cs, S, hS, h => by rw [RV] at h ⊢; exact RVs.frame hF fs _ _ hS h
 | .fn _ _, _, _, _, h => h
 | .h _ _, _, _, _, h => h
 | .hp _ _, _, _, _, h => h
 | .hb _ _, _, _, _, h => h
theorem RVs.frame {w w' : World} {F : Nat → Prop} (hF : ∀ b, F b → w'.heap[b]? = w.heap[b]?) :
  ∀ (ds : List AV) (cs : List Value) (S : Nat → Prop), (∀ b, S b → w'.heap[b]? = w.heap[b]?) → RVs w F ds cs S → RVs w' F ds cs S
 | [], _, _, _, h => h
 | d :: ds, cs, S, hS, h => by
   rw [RVs] at h ⊢
   obtain ⟨c1, c2, S1, S2, h1, h2, h3, h4, h5, h6⟩ := h
   exact ⟨c1, c2, S1, S2, h1, RV.frame hF d _ _ (fun b hb => hS _ (h4 _ hb)) h2, RVs.frame hF ds _ _ (fun b hb => hS _ (h5 _ hb)) h3, h4, h5, h6⟩
end
mutual
theorem RV.mono {w : World} {F F' : Nat → Prop} (hF : ∀ b, F b → F' b) :
  ∀ (d : AV) (cs : List Value) (S S' : Nat → Prop), (∀ b, S b → S' b) → RV w F d cs S → RV w F' d cs S'
 | .hole, _, _, _, _, h => h
 | .bool _, _, _, _, _, h => h
 | .anyb, _, _, _, _, h => h
 | .int _ _, _, _, _, _, h => h
 | .str _, _, _, _, _, h => h
 | .nilp, _, _, _, _, h => h
 | .nils, _, _, _, _, h => h
 | .slice xs, cs, S, _, hS, h => by
   rw [RV] at h ⊢
   rcases h with h | ⟨b, o, cap, ecs, sz, h1, h2, h3, h4, h5, h6, h7⟩
   ·exact .inl h
   ·exact .inr ⟨b, o, cap, ecs, sz, h1, hF _ h2, h3, h4, h5, h6, RVs.mono hF xs _ _ _ (fun _ h => h) h7⟩
 | .uslice sz xs, cs, S, _, hS, h => by
   rw [RV] at h ⊢
   rcases h with h | ⟨b, cap, cur, e, fr, S', h1, h2, h3, h4, h5, h6, h7, h8, h9, h10, h11⟩
   ·exact .inl h
   ·exact .inr ⟨b, cap, cur, e, fr, S', h1, hS _ h2, h3, h4, h5, h6, h7, h8, RVs.mono hF xs _ _ _ (fun _ h => h) h9, fun c hc => hS _ (h10 _ hc), h11⟩
 | .ref d, cs, S, _, hS, h => by
   rw [RV] at h ⊢
   obtain ⟨b, o, ecs, h1, h2, h3, h4⟩ := h
   exact ⟨b, o, ecs, h1, hF _ h2, h3, RV.mono hF d _ _ _ (fun _ h => h) h4⟩
 | .ubox d, cs, S, _, hS, h => by
   rw [RV] at h ⊢
   obtain ⟨b, cur, e, fr, S', h1, h2, h3, h4, h5, h6, h7⟩ := h
   exact ⟨b, cur, e, fr, S', h1, hS _ h2, h3, h4, RV.mono hF d _ _ _ (fun _ h => h) h5, fun c hc => hS _ (h6 _ hc), h7⟩
 | .agg fs, cs, S, _, hS, h => by rw [RV] at h ⊢; exact RVs.mono hF fs _ _ _ hS h
 | .tuple fs, cs, S, _, hS, h => by rw [RV] at h ⊢; exact RVs.mono hF fs _ _ _ hS h
 | .fn _ _, _, _, _, _, h => h
 | .h _ _, _, _, _, _, h => h
 | .hp _ _, _, _, _, _, h => h
 | .hb _ _, _, _, _, _, h => h
theorem RVs.mono {w : World} {F F' : Nat → Prop} (hF : ∀ b, F b → F' b) :
  ∀ (ds : List AV) (cs : List Value) (S S' : Nat → Prop), (∀ b, S b → S' b) → RVs w F ds cs S → RVs w F' ds cs S'
 | [], _, _, _, _, h => h
 | d :: ds, cs, S, _, hS, h => by
   rw [RVs] at h ⊢
   obtain ⟨c1, c2, S1, S2, h1, h2, h3, h4, h5, h6⟩ := h
   exact ⟨c1, c2, S1, S2, h1, RV.mono hF d _ _ _ (fun _ h => h) h2, RVs.mono hF ds _ _ _ (fun _ h => h) h3, fun b hb => hS _ (h4 _ hb), fun b hb => hS _ (h5 _ hb), h6⟩
end
mutual
theorem RV.length {w : World} {F : Nat → Prop} : ∀ (d : AV) (cs : List Value) (S : Nat → Prop), RV w F d cs S → cs.length = d.wd
 | .hole, cs, S, h => by rw [RV] at h; obtain ⟨v, _, rfl⟩ := h; rfl
 | .bool _, cs, S, h => by rw [RV] at h; subst h; rfl
 | .anyb, cs, S, h => by rw [RV] at h; obtain ⟨b, rfl⟩ := h; rfl
 | .int _ _, cs, S, h => by rw [RV] at h; subst h; rfl
 | .str _, cs, S, h => by rw [RV] at h; subst h; rfl
 | .nilp, cs, S, h => by rw [RV] at h; subst h; rfl
 | .nils, cs, S, h => by rw [RV] at h; subst h; rfl
 | .slice xs, cs, S, h => by
   rw [RV] at h
   rcases h with ⟨_, a, c, rfl, _⟩ | ⟨b, o, cap, ecs, sz, rfl, _⟩ <;> rfl
 | .uslice sz xs, cs, S, h => by
   rw [RV] at h
   rcases h with ⟨_, a, rfl⟩ | ⟨b, cap, cur, e, fr, S', rfl, _⟩ <;> rfl
 | .ref d, cs, S, h => by rw [RV] at h; obtain ⟨b, o, ecs, rfl, _⟩ := h; rfl
 | .ubox d, cs, S, h => by rw [RV] at h; obtain ⟨b, o, ecs, _, _, rfl, _⟩ := h; rfl
 | .agg fs, cs, S, h => by rw [RV] at h; exact RVs.length fs _ _ h
 | .tuple fs, cs, S, h => by rw [RV] at h; exact RVs.length fs _ _ h
 | .fn _ _, cs, S, h => by rw [RV] at h; exact h.elim
 | .h _ _, cs, S, h => by rw [RV] at h; exact h.elim
 | .hp _ _, cs, S, h => by rw [RV] at h; exact h.elim
 | .hb _ _, cs, S, h => by rw [RV] at h; exact h.elim
theorem RVs.length {w : World} {F : Nat → Prop} : ∀ (ds : List AV) (cs : List Value) (S : Nat → Prop), RVs w F ds cs S → cs.length = AV.wds ds
 | [], cs, S, h => by rw [RVs] at h; subst h; rfl
 | d :: ds, cs, S, h => by
   rw [RVs] at h
   obtain ⟨c1, c2, S1, S2, rfl, h2, h3, _⟩ := h
   rw [List.length_append, RV.length d _ _ h2, RVs.length ds _ _ h3, AV.wds]
end
-- The owned parts made shared.
mutual
def AV.share : AV → AV
 | .uslice _ xs => .slice (AV.shares xs)
 | .ubox d => .ref d.share
 | .slice xs => .slice (AV.shares xs)
 | .ref d => .ref d.share
 | .agg fs => .agg (AV.shares fs)
 | .tuple fs => .tuple (AV.shares fs)
 | d => d
def AV.shares : List AV → List AV
 | [] => []
 | d :: ds => d.share :: AV.shares ds
end
theorem AV.shares_eq (ds : List AV) : AV.shares ds = ds.map AV.share := by
 induction ds with
 | nil => rfl
 | cons d ds ih => simp [AV.shares, ih]
mutual
theorem AV.share_wd : ∀ d : AV, d.share.wd = d.wd
 | .hole => rfl
 | .bool _ => rfl
 | .anyb => rfl
 | .int _ _ => rfl
 | .str _ => rfl
 | .nilp => rfl
 | .nils => rfl
 | .slice _ => rfl
 | .uslice _ _ => rfl
 | .ref _ => rfl
 | .ubox _ => rfl
 | .agg fs => by simp only [AV.share, AV.wd]; exact AV.shares_wds fs
 | .tuple fs => by simp only [AV.share, AV.wd]; exact AV.shares_wds fs
 | .fn _ _ => rfl
 | .h _ _ => rfl
 | .hp _ _ => rfl
 | .hb _ _ => rfl
theorem AV.shares_wds : ∀ ds : List AV, AV.wds (AV.shares ds) = AV.wds ds
 | [] => rfl
 | d :: ds => by simp only [AV.shares, AV.wds]; rw [AV.share_wd d, AV.shares_wds ds]
end
theorem rd_of_row {w : World} {b : Nat} {cur : Array Value} {e : TypeId} {fr : Nat × Nat} (h : w.heap[b]? = some (.cells cur e fr)) (n : Nat) : Rd w b 0 (cur.toList.take n) := by
 intro j c hc
 rw [List.getElem?_take] at hc
 split at hc
 ·simp [World.cell?, h]; simpa using hc
 ·cases hc
mutual
theorem RV.shared {w : World} {F F' : Nat → Prop} (hF : ∀ b, F b → F' b) :
  ∀ (d : AV) (cs : List Value) (S : Nat → Prop), (∀ b, S b → F' b) → RV w F d cs S → RV w F' d.share cs (fun _ => False)
 | .hole, _, _, _, h => h
 | .bool _, _, _, _, h => h
 | .anyb, _, _, _, h => h
 | .int _ _, _, _, _, h => h
 | .str _, _, _, _, h => h
 | .nilp, _, _, _, h => h
 | .nils, _, _, _, h => h
 | .slice xs, cs, S, hS, h => by
   rw [AV.share, RV]
   rw [RV] at h
   rcases h with ⟨rfl, a, c, rfl, hc⟩ | ⟨b, o, cap, ecs, sz, h1, h2, h3, h4, h5, h6, h7⟩
   ·exact .inl ⟨rfl, a, c, rfl, hc⟩
   ·refine .inr ⟨b, o, cap, ecs, sz, ?_, hF _ h2, ?_, h4, ?_, h6, RVs.shared hF xs _ _ (fun _ h => h.elim) h7⟩
    ·simpa [AV.shares_eq] using h1
    ·simpa [AV.shares_eq] using h3
    ·intro d hd
     rw [AV.shares_eq] at hd
     obtain ⟨d', hd', rfl⟩ := List.mem_map.1 hd
     rw [AV.share_wd]; exact h5 _ hd'
 | .uslice sz xs, cs, S, hS, h => by
   rw [AV.share, RV]
   rw [RV] at h
   rcases h with ⟨rfl, a, rfl⟩ | ⟨b, cap, cur, e, fr, S', h1, h2, h3, h4, h5, h6, h7, h8, h9, h10, h11⟩
   ·exact .inl ⟨rfl, a, 0, rfl, Nat.zero_le _, fun _ => rfl⟩
   ·refine .inr ⟨b, 0, cap, _, sz, ?_, hS _ h2, ?_, h6, ?_, rd_of_row h3 _, RVs.shared hF xs _ _ (fun c hc => hS _ (h10 _ hc)) h9⟩
    ·simpa [AV.shares_eq] using h1
    ·simpa [AV.shares_eq] using h5
    ·intro d hd
     rw [AV.shares_eq] at hd
     obtain ⟨d', hd', rfl⟩ := List.mem_map.1 hd
     rw [AV.share_wd]; exact h8 _ hd'
 | .ref d, cs, S, hS, h => by
   rw [AV.share, RV]
   rw [RV] at h
   obtain ⟨b, o, ecs, h1, h2, h3, h4⟩ := h
   exact ⟨b, o, ecs, h1, hF _ h2, h3, RV.shared hF d _ _ (fun _ h => h.elim) h4⟩
 | .ubox d, cs, S, hS, h => by
   rw [AV.share, RV]
   rw [RV] at h
   obtain ⟨b, cur, e, fr, S', h1, h2, h3, h4, h5, h6, h7⟩ := h
   refine ⟨b, 0, cur.toList, h1, hS _ h2, ?_, RV.shared hF d _ _ (fun c hc => hS _ (h6 _ hc)) h5⟩
   have := rd_of_row h3 cur.toList.length
   rwa [List.take_length] at this
 | .agg fs, cs, S, hS, h => by rw [AV.share, RV]; rw [RV] at h; exact RVs.shared hF fs _ _ hS h
 | .tuple fs, cs, S, hS, h => by rw [AV.share, RV]; rw [RV] at h; exact RVs.shared hF fs _ _ hS h
 | .fn _ _, _, _, _, h => h
 | .h _ _, _, _, _, h => h
 | .hp _ _, _, _, _, h => h
 | .hb _ _, _, _, _, h => h
theorem RVs.shared {w : World} {F F' : Nat → Prop} (hF : ∀ b, F b → F' b) :
  ∀ (ds : List AV) (cs : List Value) (S : Nat → Prop), (∀ b, S b → F' b) → RVs w F ds cs S → RVs w F' (AV.shares ds) cs (fun _ => False)
 | [], _, _, _, h => h
 | d :: ds, cs, S, hS, h => by
   simp only [AV.shares]
   rw [RVs] at h ⊢
   obtain ⟨c1, c2, S1, S2, h1, h2, h3, h4, h5, h6⟩ := h
   exact ⟨c1, c2, _, _, h1, RV.shared hF d _ _ (fun b hb => hS _ (h4 _ hb)) h2, RVs.shared hF ds _ _ (fun b hb => hS _ (h5 _ hb)) h3, fun _ h => h, fun _ h => h, fun _ h => h.elim⟩
end
def AV.sub : List Nat → AV → Option AV
 | [], d => some d
 | k :: q, .agg fs => match fs[k]? with
   | some d => AV.sub q d
   | none => none
 | k :: q, .tuple fs => match fs[k]? with
   | some d => AV.sub q d
   | none => none
 | i :: q, .uslice _ xs => match xs[i]? with
   | some d => AV.sub q d
   | none => none
 | 0 :: q, .ubox d => AV.sub q d
 | _ :: _, _ => none
def AV.put : List Nat → AV → AV → AV
 | [], n, _ => n
 | k :: q, n, .agg fs => match fs[k]? with
   | some d => .agg (fs.set k (AV.put q n d))
   | none => .agg fs
 | k :: q, n, .tuple fs => match fs[k]? with
   | some d => .tuple (fs.set k (AV.put q n d))
   | none => .tuple fs
 | i :: q, n, .uslice sz xs => match xs[i]? with
   | some d => .uslice sz (xs.set i (AV.put q n d))
   | none => .uslice sz xs
 | 0 :: q, n, .ubox d => .ubox (AV.put q n d)
 | _ :: _, _, d => d
def rdw (w : World) (b o n : Nat) : List Value := (List.range n).map fun j => (w.cell? ⟨b, o + j, none⟩).getD undef
theorem Rd.rdw {w : World} {b o : Nat} {cs : List Value} (h : Rd w b o cs) : rdw w b o cs.length = cs := by
 unfold Fw.rdw
 apply List.ext_getElem?
 intro i
 rw [List.getElem?_map]
 by_cases hi : i < cs.length
 ·have : cs[i]? = some cs[i] := List.getElem?_eq_getElem hi
  simp [hi, h i _ this]
 ·simp [hi]
def fol (w : World) : List Nat → AV → List Value → Option (Nat × Nat) → Option (AV × List Value × Option (Nat × Nat))
 | [], d, cs, a => some (d, cs, a)
 | k :: q, .agg fs, cs, a => match fs[k]? with
   | some d => fol w q d ((cs.drop (AV.wds (fs.take k))).take d.wd) (a.map fun l => (l.1, l.2 + AV.wds (fs.take k)))
   | none => none
 | k :: q, .tuple fs, cs, a => match fs[k]? with
   | some d => fol w q d ((cs.drop (AV.wds (fs.take k))).take d.wd) (a.map fun l => (l.1, l.2 + AV.wds (fs.take k)))
   | none => none
 | i :: q, .uslice sz xs, cs, _ => match xs[i]?, cs with
   | some d, [.slice (some ⟨b, _, _⟩) _ _] => fol w q d (rdw w b (i * sz) sz) (some (b, i * sz))
   | _, _ => none
 | 0 :: q, .ubox d, cs, _ => match cs with
   | [.pointer (some ⟨b, _, _⟩)] => fol w q d (rdw w b 0 d.wd) (some (b, 0))
   | _ => none
 | _ :: _, _, _, _ => none
theorem seg_eq (c1 ck c2 : List Value) (n m : Nat) (h1 : c1.length = n) (h2 : ck.length = m) : ((c1 ++ (ck ++ c2)).drop n).take m = ck := by
 rw [List.drop_left' h1, List.take_left' h2]
theorem RVs.pick {w : World} {F : Nat → Prop} : ∀ (ds : List AV) (cs : List Value) (S : Nat → Prop) (k : Nat) (d : AV),
  RVs w F ds cs S → ds[k]? = some d → ∃ (c1 ck c2 : List Value) (S1 Sk : Nat → Prop), cs = c1 ++ (ck ++ c2) ∧ c1.length = AV.wds (ds.take k) ∧
   (∀ b, S1 b → S b) ∧ (∀ b, Sk b → S b) ∧ (∀ b, S1 b → ¬ Sk b) ∧ RV w F d ck Sk ∧
   ∀ (w' : World) (d' : AV) (ck' : List Value) (S' : Nat → Prop), (∀ b, F b → w'.heap[b]? = w.heap[b]?) → (∀ b, S1 b → w'.heap[b]? = w.heap[b]?) →
     RV w' F d' ck' S' → (∀ b, S' b → ¬ S1 b) → RVs w' F (ds.set k d') (c1 ++ (ck' ++ c2)) (fun b => S1 b ∨ S' b)
 | [], _, _, _, _, _, hk => by simp at hk
 | x :: ds, cs, S, 0, d, h, hk => by
   rw [RVs] at h
   obtain ⟨c1, c2, Sa, Sb, rfl, h1, h2, ha, hb, hab⟩ := h
   simp at hk; subst hk
   refine ⟨[], c1, c2, Sb, Sa, rfl, rfl, hb, ha, fun b hb ha => hab _ ha hb, h1, ?_⟩
   intro w' d' ck' S' hF hS hd hdis
   simp only [List.set_cons_zero, List.nil_append]
   rw [RVs]
   exact ⟨ck', c2, S', Sb, rfl, hd, RVs.frame hF _ _ _ hS h2, fun b h => .inr h, fun b h => .inl h, fun b h => hdis b h⟩
 | x :: ds, cs, S, k + 1, d, h, hk => by
   rw [RVs] at h
   obtain ⟨c0, cr, Sa, Sb, rfl, h1, h2, ha, hb, hab⟩ := h
   simp only [List.getElem?_cons_succ] at hk
   have hl := RV.length _ _ _ h1
   obtain ⟨c1, ck, c2, S1, Sk, rfl, i0, i1, i2, i3, i5, i6⟩ := RVs.pick ds cr Sb k d h2 hk
   refine ⟨c0 ++ c1, ck, c2, fun b => Sa b ∨ S1 b, Sk, by simp, by simp [AV.wds, hl, i0], ?_, fun b h => hb _ (i2 _ h), ?_, i5, ?_⟩
   ·rintro b (h | h)
    ·exact ha _ h
    ·exact hb _ (i1 _ h)
   ·rintro b (h | h) hk
    ·exact hab _ h (i2 _ hk)
    ·exact i3 _ h hk
   ·intro w' d' ck' S' hF hS hd hdis
    simp only [List.set_cons_succ]
    rw [RVs]
    refine ⟨c0, c1 ++ (ck' ++ c2), Sa, fun b => S1 b ∨ S' b, by simp, RV.frame hF _ _ _ (fun b hb => hS b (.inl hb)) h1,
     i6 w' d' ck' S' hF (fun b hb => hS b (.inr hb)) hd (fun b hb hc => hdis b hb (.inr hc)), fun b h => .inl (.inl h), ?_, ?_⟩
    ·rintro b (h | h)
     ·exact .inl (.inr h)
     ·exact .inr h
    ·rintro b h (h' | h')
     ·exact hab _ h (i1 _ h')
     ·exact hdis _ h' (.inl h)
theorem wds_set : ∀ (fs : List AV) (k : Nat) (x y : AV), fs[k]? = some x → y.wd = x.wd → AV.wds (fs.set k y) = AV.wds fs := by
 intro fs
 induction fs with
 | nil => intro k x y h; simp at h
 | cons a fs ih =>
   intro k x y h e
   cases k with
   | zero => simp at h; subst h; simp [AV.wds, e]
   | succ k => simp at h; simp [AV.wds, ih k x y h e]
theorem wds_uniform {sz : Nat} : ∀ (xs : List AV), (∀ d ∈ xs, d.wd = sz) → AV.wds xs = xs.length * sz
 | [], _ => by simp [AV.wds]
 | x :: xs, h => by
   rw [AV.wds, h x (by simp), wds_uniform xs (fun d hd => h d (by simp [hd])), List.length_cons, Nat.add_mul, Nat.one_mul, Nat.add_comm]
theorem AV.put_wd : ∀ (q : List Nat) (av d d' : AV), AV.sub q av = some d → d'.wd = d.wd → (AV.put q d' av).wd = av.wd := by
 intro q
 induction q with
 | nil => intro av d d' h e; simp [AV.sub] at h; subst h; simpa [AV.put] using e
 | cons k q ih =>
   intro av d d' h e
   cases av with
   | agg fs =>
     simp only [AV.sub] at h
     split at h
     ·rename_i x hx
      simp only [AV.put, hx, AV.wd]
      exact wds_set _ _ _ _ hx (ih _ _ _ h e)
     ·cases h
   | tuple fs =>
     simp only [AV.sub] at h
     split at h
     ·rename_i x hx
      simp only [AV.put, hx, AV.wd]
      exact wds_set _ _ _ _ hx (ih _ _ _ h e)
     ·cases h
   | uslice sz xs =>
     simp only [AV.sub] at h
     split at h
     ·rename_i x hx
      simp only [AV.put, hx, AV.wd]
     ·cases h
   | ubox x =>
     cases k with
     | zero => simp only [AV.put, AV.wd]
     | succ k => simp [AV.sub] at h
   | _ => simp [AV.sub] at h
theorem mem_set_wd {sz : Nat} {xs : List AV} {i : Nat} {y : AV} (h : ∀ d ∈ xs, d.wd = sz) (hy : y.wd = sz) : ∀ d ∈ xs.set i y, d.wd = sz := by
 intro d hd
 rcases List.mem_or_eq_of_mem_set hd with hd | rfl
 ·exact h d hd
 ·exact hy
theorem rdw_seg {w : World} {b : Nat} {cur : Array Value} {e : TypeId} {fr : Nat × Nat} (h : w.heap[b]? = some (.cells cur e fr)) {l m r : List Value} (hc : cur.toList = l ++ (m ++ r)) :
  rdw w b l.length m.length = m := by
 refine Rd.rdw (fun j c hj => ?_)
 have hlt : j < m.length := (List.getElem?_eq_some_iff.1 hj).1
 have : cur.toList[l.length + j]? = some c := by
  rw [hc, List.getElem?_append_right (by omega), List.getElem?_append_left (by omega)]
  rw [← hj]; congr 1; omega
 simp [World.cell?, h]
 simpa using this
def Flat (w : World) (F : Nat → Prop) (q : List Nat) (av : AV) (cs : List Value) (a : Option (Nat × Nat)) (d : AV) (dcs : List Value) (a' : Option (Nat × Nat)) (Sc : Nat → Prop) : Prop :=
 ∃ l r : List Value, cs = l ++ (dcs ++ r) ∧ a' = a.map (fun x => (x.1, x.2 + l.length)) ∧
   ∀ (w' : World) (d' : AV) (dcs' : List Value) (S' : Nat → Prop), (∀ b, F b → w'.heap[b]? = w.heap[b]?) → (∀ b, Sc b → w'.heap[b]? = w.heap[b]?) →
     d'.wd = d.wd → RV w' F d' dcs' S' → (∀ b, S' b → ¬ Sc b) → RV w' F (AV.put q d' av) (l ++ (dcs' ++ r)) (fun b => Sc b ∨ S' b)
def Deep (w : World) (F : Nat → Prop) (q : List Nat) (av : AV) (cs : List Value) (d : AV) (dcs : List Value) (a' : Option (Nat × Nat)) (Sc : Nat → Prop) : Prop :=
 ∃ (b : Nat) (cur : Array Value) (e : TypeId) (fr : Nat × Nat) (l r : List Value), a' = some (b, l.length) ∧ Sc b ∧ w.heap[b]? = some (.cells cur e fr) ∧ nofrz fr cur.size ∧ cur.toList = l ++ (dcs ++ r) ∧
   ∀ (w' : World) (d' : AV) (dcs' : List Value) (S' : Nat → Prop), (∀ b, F b → w'.heap[b]? = w.heap[b]?) → (∀ c, Sc c → c ≠ b → w'.heap[c]? = w.heap[c]?) →
     w'.heap[b]? = some (.cells (l ++ (dcs' ++ r)).toArray e fr) →
     d'.wd = d.wd → RV w' F d' dcs' S' → (∀ b, S' b → ¬ Sc b) → RV w' F (AV.put q d' av) cs (fun b => Sc b ∨ S' b)
theorem ctx {w : World} {F : Nat → Prop} : ∀ (q : List Nat) (av : AV) (cs : List Value) (S : Nat → Prop) (a : Option (Nat × Nat)) (d : AV),
  RV w F av cs S → AV.sub q av = some d → ∃ (dcs : List Value) (a' : Option (Nat × Nat)) (Sc Sd : Nat → Prop), fol w q av cs a = some (d, dcs, a') ∧
   (∀ b, Sc b → S b) ∧ (∀ b, Sd b → S b) ∧ (∀ b, Sc b → ¬ Sd b) ∧ RV w F d dcs Sd ∧ (Flat w F q av cs a d dcs a' Sc ∨ Deep w F q av cs d dcs a' Sc) := by
 intro q
 induction q with
 | nil =>
   intro av cs S a d h hd
   simp [AV.sub] at hd; subst hd
   refine ⟨cs, a, fun _ => False, S, rfl, fun _ h => h.elim, fun _ h => h, fun _ h => h.elim, h, .inl ⟨[], [], by simp, ?_, ?_⟩⟩
   ·cases a <;> simp
   ·intro w' d' dcs' S' _ _ hw hd' _
    simp only [AV.put, List.nil_append, List.append_nil]
    exact RV.mono (fun _ h => h) _ _ _ _ (fun b h => .inr h) hd'
 | cons k q ih =>
   -- a row of fields: agg and tuple alike
   have fields : ∀ (mk : List AV → AV) (hmk : ∀ (w : World) (F : Nat → Prop) (fs : List AV) (cs : List Value) (S : Nat → Prop), RV w F (mk fs) cs S = RVs w F fs cs S) (fs : List AV) (cs : List Value) (S : Nat → Prop) (a : Option (Nat × Nat)) (x d : AV),
     (hput : ∀ d', AV.put (k :: q) d' (mk fs) = mk (fs.set k (AV.put q d' x))) → RVs w F fs cs S → fs[k]? = some x → AV.sub q x = some d →
     ∃ (dcs : List Value) (a' : Option (Nat × Nat)) (Sc Sd : Nat → Prop), fol w q x ((cs.drop (AV.wds (fs.take k))).take x.wd) (a.map fun l => (l.1, l.2 + AV.wds (fs.take k))) = some (d, dcs, a') ∧
     (∀ b, Sc b → S b) ∧ (∀ b, Sd b → S b) ∧ (∀ b, Sc b → ¬ Sd b) ∧ RV w F d dcs Sd ∧ (Flat w F (k :: q) (mk fs) cs a d dcs a' Sc ∨ Deep w F (k :: q) (mk fs) cs d dcs a' Sc) := by
    intro mk hmk fs cs S a x d hput h hx hd
    obtain ⟨c1, ck, c2, S1, Sk, rfl, p0, p1, p2, p3, p5, p6⟩ := RVs.pick fs cs S k x h hx
    have hl := RV.length _ _ _ p5
    rw [seg_eq c1 ck c2 _ _ p0 hl]
    obtain ⟨dcs, a', Sc, Sd, g0, g1, g2, g3, g4, g5⟩ := ih x _ Sk (a.map fun l => (l.1, l.2 + AV.wds (fs.take k))) d p5 hd
    refine ⟨dcs, a', fun b => S1 b ∨ Sc b, Sd, g0, ?_, fun b hb => p2 _ (g2 _ hb), ?_, g4, ?_⟩
    ·rintro b (h | h)
     ·exact p1 _ h
     ·exact p2 _ (g1 _ h)
    ·rintro b (h | h) hd
     ·exact p3 _ h (g2 _ hd)
     ·exact g3 _ h hd
    ·have hsub : ∀ (b : Nat) (S' : Nat → Prop), (S1 b ∨ Sc b ∨ S' b) → ((S1 b ∨ Sc b) ∨ S' b) := by
      rintro b S' (hb | hb | hb)
      ·exact .inl (.inl hb)
      ·exact .inl (.inr hb)
      ·exact .inr hb
     rcases g5 with ⟨l, r, rfl, e2, e3⟩ | ⟨b, cur, e, fr, l, r, e1, e2, e3, e4, e5, e6⟩
     ·refine .inl ⟨c1 ++ l, r ++ c2, by simp, ?_, ?_⟩
      ·rw [e2, ← p0]; cases a <;> simp [Nat.add_assoc]
      ·intro w' d' dcs' S' hF hS hw hd' hdis
       have r1 := e3 w' d' dcs' S' hF (fun b hb => hS b (.inr hb)) hw hd' (fun b hb hc => hdis b hb (.inr hc))
       have r2 := p6 w' _ _ _ hF (fun b hb => hS b (.inl hb)) r1 (by
        rintro b (hb | hb) h1
        ·exact p3 _ h1 (g1 _ hb)
        ·exact hdis _ hb (.inl h1))
       rw [hput, hmk]
       have := RVs.mono (fun _ h => h) _ _ _ _ (fun b => hsub b S') r2
       simpa using this
     ·refine .inr ⟨b, cur, e, fr, l, r, e1, .inr e2, e3, e4, e5, ?_⟩
      intro w' d' dcs' S' hF hS hb' hw hd' hdis
      have r1 := e6 w' d' dcs' S' hF (fun c hc => hS c (.inr hc)) hb' hw hd' (fun b hb hc => hdis b hb (.inr hc))
      have r2 := p6 w' _ _ _ hF (fun c hc => hS c (.inl hc) (by rintro rfl; exact p3 _ hc (g1 _ e2))) r1 (by
        rintro b (hb | hb) h1
        ·exact p3 _ h1 (g1 _ hb)
        ·exact hdis _ hb (.inl h1))
      rw [hput, hmk]
      exact RVs.mono (fun _ h => h) _ _ _ _ (fun b => hsub b S') r2
   intro av cs S a d h hd
   cases av with
   | agg fs =>
     simp only [AV.sub] at hd
     split at hd
     ·rename_i x hx
      rw [RV] at h
      have := fields .agg (fun _ _ _ _ _ => by rw [RV]) fs cs S a x d (fun d' => by simp only [AV.put, hx]) h hx hd
      simpa only [fol, hx] using this
     ·cases hd
   | tuple fs =>
     simp only [AV.sub] at hd
     split at hd
     ·rename_i x hx
      rw [RV] at h
      have := fields .tuple (fun _ _ _ _ _ => by rw [RV]) fs cs S a x d (fun d' => by simp only [AV.put, hx]) h hx hd
      simpa only [fol, hx] using this
     ·cases hd
   | uslice sz xs =>
     simp only [AV.sub] at hd
     split at hd
     ·rename_i x hx
      rw [RV] at h
      rcases h with ⟨rfl, _, rfl⟩ | ⟨b, cap, cur, e, fr, S0, rfl, h2, h3, h4, h5, h6, h7, h8, h9, h10, h11⟩
      ·simp at hx
      ·obtain ⟨c1, ck, c2, S1, Sk, p, p0, p1, p2, p3, p5, p6⟩ := RVs.pick xs _ S0 k x h9 hx
       have hl := RV.length _ _ _ p5
       have hklt : k < xs.length := (List.getElem?_eq_some_iff.1 hx).1
       have hxsz : x.wd = sz := h8 x (List.mem_of_getElem? hx)
       have ho : AV.wds (xs.take k) = k * sz := by
        rw [wds_uniform _ (fun d hd => h8 d (List.mem_of_mem_take hd))]
        rw [List.length_take, Nat.min_eq_left (by omega)]
       obtain ⟨tl, hcur⟩ : ∃ tl, cur.toList = c1 ++ (ck ++ (c2 ++ tl)) := by
        refine ⟨cur.toList.drop (xs.length * sz), ?_⟩
        have := (List.take_append_drop (xs.length * sz) cur.toList).symm
        rw [p] at this
        simpa using this
       have hrd : rdw w b (k * sz) sz = ck := by
        have := rdw_seg h3 hcur
        rwa [p0, ho, hl, hxsz] at this
       obtain ⟨dcs, a', Sc, Sd, g0, g1, g2, g3, g4, g5⟩ := ih x _ Sk (some (b, k * sz)) d p5 hd
       have hput : ∀ d', AV.put (k :: q) d' (.uslice sz xs) = .uslice sz (xs.set k (AV.put q d' x)) := fun d' => by simp only [AV.put, hx]
       refine ⟨dcs, a', fun c => c = b ∨ S1 c ∨ Sc c, Sd, ?_, ?_, fun c hc => h10 _ (p2 _ (g2 _ hc)), ?_, g4, .inr ?_⟩
       ·simp only [fol, hx, hrd]; exact g0
       ·rintro c (rfl | h | h)
        ·exact h2
        ·exact h10 _ (p1 _ h)
        ·exact h10 _ (p2 _ (g1 _ h))
       ·rintro c (rfl | h | h) hd
        ·exact h11 (p2 _ (g2 _ hd))
        ·exact p3 _ h (g2 _ hd)
        ·exact g3 _ h hd
       ·have hwd : ∀ d', d'.wd = d.wd → (AV.put q d' x).wd = sz := fun d' hw => (AV.put_wd q x d d' hd hw).trans hxsz
        rcases g5 with ⟨l, r, rfl, e2, e3⟩ | ⟨b', cur', e', fr', l, r, e1, e2, e3, e4, e5, e6⟩
        ·refine ⟨b, cur, e, fr, c1 ++ l, r ++ (c2 ++ tl), ?_, .inl rfl, h3, h4, ?_, ?_⟩
         ·rw [e2]; simp [p0, ho]
         ·rw [hcur]; simp
         ·intro w' d' dcs' S' hF hS hb' hw hd' hdis
          have r1 := e3 w' d' dcs' S' hF (fun c hc => hS c (.inr (.inr hc)) (by rintro rfl; exact h11 (p2 _ (g1 _ hc)))) hw hd' (fun b hb hc => hdis b hb (.inr (.inr hc)))
          have r2 := p6 w' _ _ _ hF (fun c hc => hS c (.inr (.inl hc)) (by rintro rfl; exact h11 (p1 _ hc))) r1 (by
           rintro b (hb | hb) h1
           ·exact p3 _ h1 (g1 _ hb)
           ·exact hdis _ hb (.inr (.inl h1)))
          have hdl := RV.length _ _ _ hd'
          have hdl0 := RV.length _ _ _ g4
          rw [hput, RV]
          refine .inr ⟨b, cap, _, e, fr, fun b => S1 b ∨ Sc b ∨ S' b, by simp, .inl (.inl rfl), hb', ?_, by simpa using h5, h6, ?_, mem_set_wd h8 (hwd d' hw), ?_, ?_, ?_⟩
          ·have : (c1 ++ l ++ (dcs' ++ (r ++ (c2 ++ tl)))).toArray.size = cur.size := by
            have : cur.size = cur.toList.length := by simp
            rw [this, hcur]; simp [hdl, hdl0, hw]
           rw [this]; exact h4
          ·rw [← h7]
           have : cur.size = cur.toList.length := by simp
           rw [this, hcur]; simp [hdl, hdl0, hw]
          ·have hlen : (c1 ++ (l ++ (dcs' ++ r) ++ c2)).length = xs.length * sz := by
            have := congrArg List.length p
            rw [List.length_take, Nat.min_eq_left (by simp [h7]; exact Nat.mul_le_mul_right _ h5)] at this
            rw [this]; simp [hdl, hdl0, hw]
           have : (c1 ++ l ++ (dcs' ++ (r ++ (c2 ++ tl)))) = (c1 ++ (l ++ (dcs' ++ r) ++ c2)) ++ tl := by simp
           rw [List.length_set]
           simp only [this]
           rw [List.take_left' hlen]
           exact r2
          ·rintro c (h | h | h)
           ·exact .inl (.inr (.inl h))
           ·exact .inl (.inr (.inr h))
           ·exact .inr h
          ·rintro (h | h | h)
           ·exact h11 (p1 _ h)
           ·exact h11 (p2 _ (g1 _ h))
           ·exact hdis _ h (.inl rfl)
        ·refine ⟨b', cur', e', fr', l, r, e1, .inr (.inr e2), e3, e4, e5, ?_⟩
         intro w' d' dcs' S' hF hS hb' hw hd' hdis
         have r1 := e6 w' d' dcs' S' hF (fun c hc hne => hS c (.inr (.inr hc)) hne) hb' hw hd' (fun b hb hc => hdis b hb (.inr (.inr hc)))
         have hne : ∀ c, S1 c → c ≠ b' := by rintro c hc rfl; exact p3 _ hc (g1 _ e2)
         have r2 := p6 w' _ _ _ hF (fun c hc => hS c (.inr (.inl hc)) (hne c hc)) r1 (by
          rintro b (hb | hb) h1
          ·exact p3 _ h1 (g1 _ hb)
          ·exact hdis _ hb (.inr (.inl h1)))
         have hbb : b ≠ b' := by rintro rfl; exact h11 (p2 _ (g1 _ e2))
         rw [hput, RV]
         refine .inr ⟨b, cap, cur, e, fr, fun b => S1 b ∨ Sc b ∨ S' b, by simp, .inl (.inl rfl), (hS b (.inl rfl) hbb).trans h3, h4, by simpa using h5, h6, h7, mem_set_wd h8 (hwd d' hw), ?_, ?_, ?_⟩
         ·rw [List.length_set, p]; exact r2
         ·rintro c (h | h | h)
          ·exact .inl (.inr (.inl h))
          ·exact .inl (.inr (.inr h))
          ·exact .inr h
         ·rintro (h | h | h)
          ·exact h11 (p1 _ h)
          ·exact h11 (p2 _ (g1 _ h))
          ·exact hdis _ h (.inl rfl)
     ·cases hd
   | ubox x =>
     cases k with
     | succ k => simp [AV.sub] at hd
     | zero =>
       simp only [AV.sub] at hd
       rw [RV] at h
       obtain ⟨b, cur, e, fr, S0, rfl, h2, h3, h4, h5, h6, h7⟩ := h
       have hl := RV.length _ _ _ h5
       have hrd : rdw w b 0 x.wd = cur.toList := by
        have := rdw_seg (l := []) (m := cur.toList) (r := []) h3 (by simp)
        rwa [hl] at this
       obtain ⟨dcs, a', Sc, Sd, g0, g1, g2, g3, g4, g5⟩ := ih x _ S0 (some (b, 0)) d h5 hd
       have hput : ∀ d', AV.put (0 :: q) d' (.ubox x) = .ubox (AV.put q d' x) := fun d' => rfl
       refine ⟨dcs, a', fun c => c = b ∨ Sc c, Sd, ?_, ?_, fun c hc => h6 _ (g2 _ hc), ?_, g4, .inr ?_⟩
       ·simp only [fol, hrd]; exact g0
       ·rintro c (rfl | h)
        ·exact h2
        ·exact h6 _ (g1 _ h)
       ·rintro c (rfl | h) hd
        ·exact h7 (g2 _ hd)
        ·exact g3 _ h hd
       ·rcases g5 with ⟨l, r, e1, e2, e3⟩ | ⟨b', cur', e', fr', l, r, e1, e2, e3, e4, e5, e6⟩
        ·refine ⟨b, cur, e, fr, l, r, ?_, .inl rfl, h3, h4, e1, ?_⟩
         ·rw [e2]; simp
         ·intro w' d' dcs' S' hF hS hb' hw hd' hdis
          have r1 := e3 w' d' dcs' S' hF (fun c hc => hS c (.inr hc) (by rintro rfl; exact h7 (g1 _ hc))) hw hd' (fun b hb hc => hdis b hb (.inr hc))
          have hdl := RV.length _ _ _ hd'
          have hdl0 := RV.length _ _ _ g4
          rw [hput, RV]
          refine ⟨b, _, e, fr, fun b => Sc b ∨ S' b, rfl, .inl (.inl rfl), hb', ?_, r1, ?_, ?_⟩
          ·have : (l ++ (dcs' ++ r)).toArray.size = cur.size := by
            have : cur.size = cur.toList.length := by simp
            rw [this, e1]; simp [hdl, hdl0, hw]
           rw [this]; exact h4
          ·rintro c (h | h)
           ·exact .inl (.inr h)
           ·exact .inr h
          ·rintro (h | h)
           ·exact h7 (g1 _ h)
           ·exact hdis _ h (.inl rfl)
        ·refine ⟨b', cur', e', fr', l, r, e1, .inr e2, e3, e4, e5, ?_⟩
         intro w' d' dcs' S' hF hS hb' hw hd' hdis
         have r1 := e6 w' d' dcs' S' hF (fun c hc hne => hS c (.inr hc) hne) hb' hw hd' (fun b hb hc => hdis b hb (.inr hc))
         have hbb : b ≠ b' := by rintro rfl; exact h7 (g1 _ e2)
         rw [hput, RV]
         refine ⟨b, cur, e, fr, fun b => Sc b ∨ S' b, rfl, .inl (.inl rfl), (hS b (.inl rfl) hbb).trans h3, h4, r1, ?_, ?_⟩
         ·rintro c (h | h)
          ·exact .inl (.inr h)
          ·exact .inr h
         ·rintro (h | h)
          ·exact h7 (g1 _ h)
          ·exact hdis _ h (.inl rfl)
   | _ => simp [AV.sub] at hd
mutual
def AV.plain : AV → Bool
 | .uslice _ _ => false
 | .ubox _ => false
 | .agg fs => AV.plains fs
 | .tuple fs => AV.plains fs
 | _ => true
def AV.plains : List AV → Bool
 | [] => true
 | d :: ds => d.plain && AV.plains ds
end
mutual
def AV.hollow : AV → AV
 | .uslice _ _ => .hole
 | .ubox _ => .hole
 | .agg fs => .agg (AV.hollows fs)
 | .tuple fs => .tuple (AV.hollows fs)
 | d => d
def AV.hollows : List AV → List AV
 | [] => []
 | d :: ds => d.hollow :: AV.hollows ds
end
mutual
theorem AV.hollow_wd : ∀ d : AV, d.hollow.wd = d.wd
 | .hole => rfl
 | .bool _ => rfl
 | .anyb => rfl
 | .int _ _ => rfl
 | .str _ => rfl
 | .nilp => rfl
 | .nils => rfl
 | .slice _ => rfl
 | .uslice _ _ => rfl
 | .ref _ => rfl
 | .ubox _ => rfl
 | .agg fs => by simp only [AV.hollow, AV.wd]; exact AV.hollows_wds fs
 | .tuple fs => by simp only [AV.hollow, AV.wd]; exact AV.hollows_wds fs
 | .fn _ _ => rfl
 | .h _ _ => rfl
 | .hp _ _ => rfl
 | .hb _ _ => rfl
theorem AV.hollows_wds : ∀ ds : List AV, AV.wds (AV.hollows ds) = AV.wds ds
 | [] => rfl
 | d :: ds => by simp only [AV.hollows, AV.wds]; rw [AV.hollow_wd d, AV.hollows_wds ds]
end
mutual
theorem RV.hollow {w : World} {F : Nat → Prop} : ∀ (d : AV) (cs : List Value) (S S' : Nat → Prop), RV w F d cs S → RV w F d.hollow cs S'
 | .hole, _, _, _, h => h
 | .bool _, _, _, _, h => h
 | .anyb, _, _, _, h => h
 | .int _ _, _, _, _, h => h
 | .str _, _, _, _, h => h
 | .nilp, _, _, _, h => h
 | .nils, _, _, _, h => h
 | .slice xs, cs, S, S', h => by
   show RV w F (.slice xs) cs S'
   rw [RV] at h ⊢; exact h
 | .uslice sz xs, cs, S, S', h => by
   rw [AV.hollow, RV]
   rw [RV] at h
   rcases h with ⟨_, _, rfl⟩ | ⟨b, cap, cur, e, fr, S0, rfl, _⟩
   ·exact ⟨_, rfl, rfl⟩
   ·exact ⟨_, rfl, rfl⟩
 | .ref d, cs, S, S', h => by
   show RV w F (.ref d) cs S'
   rw [RV] at h ⊢; exact h
 | .ubox d, cs, S, S', h => by
   rw [AV.hollow, RV]
   rw [RV] at h
   obtain ⟨b, cur, e, fr, S0, rfl, _⟩ := h
   exact ⟨_, rfl, rfl⟩
 | .agg fs, cs, S, S', h => by rw [AV.hollow, RV]; rw [RV] at h; exact RVs.hollow fs _ _ _ h
 | .tuple fs, cs, S, S', h => by rw [AV.hollow, RV]; rw [RV] at h; exact RVs.hollow fs _ _ _ h
 | .fn _ _, _, _, _, h => h
 | .h _ _, _, _, _, h => h
 | .hp _ _, _, _, _, h => h
 | .hb _ _, _, _, _, h => h
theorem RVs.hollow {w : World} {F : Nat → Prop} : ∀ (ds : List AV) (cs : List Value) (S S' : Nat → Prop), RVs w F ds cs S → RVs w F (AV.hollows ds) cs S'
 | [], _, _, _, h => h
 | d :: ds, cs, S, S', h => by
   rw [AV.hollows, RVs]
   rw [RVs] at h
   obtain ⟨c1, c2, S1, S2, h1, h2, h3, h4, h5, h6⟩ := h
   exact ⟨c1, c2, fun _ => False, fun _ => False, h1, RV.hollow d _ _ _ h2, RVs.hollow ds _ _ _ h3, fun _ h => h.elim, fun _ h => h.elim, fun _ h => h.elim⟩
end
mutual
theorem RV.plain {w : World} {F : Nat → Prop} : ∀ (d : AV) (cs : List Value) (S S' : Nat → Prop), d.plain = true → RV w F d cs S → RV w F d cs S'
 | .hole, _, _, _, _, h => h
 | .bool _, _, _, _, _, h => h
 | .anyb, _, _, _, _, h => h
 | .int _ _, _, _, _, _, h => h
 | .str _, _, _, _, _, h => h
 | .nilp, _, _, _, _, h => h
 | .nils, _, _, _, _, h => h
 | .slice xs, cs, S, S', _, h => by rw [RV] at h ⊢; exact h
 | .uslice sz xs, cs, S, S', hp, h => by simp [AV.plain] at hp
 | .ref d, cs, S, S', _, h => by rw [RV] at h ⊢; exact h
 | .ubox d, cs, S, S', hp, h => by simp [AV.plain] at hp
 | .agg fs, cs, S, S', hp, h => by rw [RV] at h ⊢; exact RVs.plain fs _ _ _ hp h
 | .tuple fs, cs, S, S', hp, h => by rw [RV] at h ⊢; exact RVs.plain fs _ _ _ hp h
 | .fn _ _, _, _, _, _, h => h
 | .h _ _, _, _, _, _, h => h
 | .hp _ _, _, _, _, _, h => h
 | .hb _ _, _, _, _, _, h => h
theorem RVs.plain {w : World} {F : Nat → Prop} : ∀ (ds : List AV) (cs : List Value) (S S' : Nat → Prop), AV.plains ds = true → RVs w F ds cs S → RVs w F ds cs S'
 | [], _, _, _, _, h => h
 | d :: ds, cs, S, S', hp, h => by
   rw [RVs] at h ⊢
   simp only [AV.plains, Bool.and_eq_true] at hp
   obtain ⟨c1, c2, S1, S2, h1, h2, h3, h4, h5, h6⟩ := h
   exact ⟨c1, c2, fun _ => False, fun _ => False, h1, RV.plain d _ _ _ hp.1 h2, RVs.plain ds _ _ _ hp.2 h3, fun _ h => h.elim, fun _ h => h.elim, fun _ h => h.elim⟩
end
def AV.cross : List Nat → AV → Bool
 | [], _ => false
 | k :: q, .agg fs => match fs[k]? with
   | some d => AV.cross q d
   | none => false
 | k :: q, .tuple fs => match fs[k]? with
   | some d => AV.cross q d
   | none => false
 | _ :: _, .uslice _ _ => true
 | _ :: _, .ubox _ => true
 | _ :: _, _ => false
theorem plains_get {fs : List AV} (h : AV.plains fs = true) {k : Nat} {d : AV} (hk : fs[k]? = some d) : d.plain = true := by
 induction fs generalizing k with
 | nil => simp at hk
 | cons a fs ih =>
   simp only [AV.plains, Bool.and_eq_true] at h
   cases k with
   | zero => simp at hk; subst hk; exact h.1
   | succ k => simp at hk; exact ih h.2 hk
theorem AV.cross_plain : ∀ (q : List Nat) (d : AV), d.plain = true → AV.cross q d = false := by
 intro q
 induction q with
 | nil => intros; rfl
 | cons k q ih =>
   intro d hd
   cases d <;> first | rfl | (simp [AV.plain] at hd; done) | skip
   all_goals
    simp only [AV.cross]
    split
    ·rename_i fs x hx; exact ih _ (plains_get (by simpa [AV.plain] using hd) hx)
    ·rfl
theorem AV.sub_plain : ∀ (q : List Nat) (d e : AV), d.plain = true → AV.sub q d = some e → e.plain = true := by
 intro q
 induction q with
 | nil => intro d e hd h; simp [AV.sub] at h; exact h ▸ hd
 | cons k q ih =>
   intro d e hd h
   cases d <;> first | (simp [AV.plain] at hd; done) | (simp [AV.sub] at h; done) | skip
   all_goals
    simp only [AV.sub] at h
    split at h
    ·rename_i fs x hx; exact ih _ _ (plains_get (by simpa [AV.plain] using hd) hx) h
    ·cases h
theorem fol_frame {w w' : World} {F : Nat → Prop} : ∀ (q : List Nat) (av : AV) (cs : List Value) (S : Nat → Prop) (a : Option (Nat × Nat)) (d : AV),
  RV w F av cs S → AV.sub q av = some d → (∀ b, S b → w'.heap[b]? = w.heap[b]?) → fol w' q av cs a = fol w q av cs a := by
 intro q
 induction q with
 | nil => intros; rfl
 | cons k q ih =>
   have fields : ∀ (fs : List AV) (cs : List Value) (S : Nat → Prop) (a : Option (Nat × Nat)) (x d : AV), RVs w F fs cs S → fs[k]? = some x → AV.sub q x = some d →
     (∀ b, S b → w'.heap[b]? = w.heap[b]?) →
     fol w' q x ((cs.drop (AV.wds (fs.take k))).take x.wd) (a.map fun l => (l.1, l.2 + AV.wds (fs.take k))) = fol w q x ((cs.drop (AV.wds (fs.take k))).take x.wd) (a.map fun l => (l.1, l.2 + AV.wds (fs.take k))) := by
    intro fs cs S a x d h hx hd hS
    obtain ⟨c1, ck, c2, S1, Sk, rfl, p0, p1, p2, p3, p5, p6⟩ := RVs.pick fs cs S k x h hx
    rw [seg_eq c1 ck c2 _ _ p0 (RV.length _ _ _ p5)]
    exact ih x ck Sk _ d p5 hd (fun b hb => hS b (p2 _ hb))
   intro av cs S a d h hd hS
   cases av with
   | agg fs =>
     simp only [AV.sub] at hd
     split at hd
     ·rename_i x hx
      rw [RV] at h
      simp only [fol, hx]
      exact fields fs cs S a x d h hx hd hS
     ·cases hd
   | tuple fs =>
     simp only [AV.sub] at hd
     split at hd
     ·rename_i x hx
      rw [RV] at h
      simp only [fol, hx]
      exact fields fs cs S a x d h hx hd hS
     ·cases hd
   | uslice sz xs =>
     simp only [AV.sub] at hd
     split at hd
     ·rename_i x hx
      rw [RV] at h
      rcases h with ⟨rfl, _, rfl⟩ | ⟨b, cap, cur, e, fr, S0, rfl, h2, h3, h4, h5, h6, h7, h8, h9, h10, h11⟩
      ·simp at hx
      ·obtain ⟨c1, ck, c2, S1, Sk, p, p0, p1, p2, p3, p5, p6⟩ := RVs.pick xs _ S0 k x h9 hx
       have hl := RV.length _ _ _ p5
       have hklt : k < xs.length := (List.getElem?_eq_some_iff.1 hx).1
       have hxsz : x.wd = sz := h8 x (List.mem_of_getElem? hx)
       have ho : AV.wds (xs.take k) = k * sz := by
        rw [wds_uniform _ (fun d hd => h8 d (List.mem_of_mem_take hd))]
        rw [List.length_take, Nat.min_eq_left (by omega)]
       obtain ⟨tl, hcur⟩ : ∃ tl, cur.toList = c1 ++ (ck ++ (c2 ++ tl)) := by
        refine ⟨cur.toList.drop (xs.length * sz), ?_⟩
        have := (List.take_append_drop (xs.length * sz) cur.toList).symm
        rw [p] at this
        simpa using this
       have hrd : rdw w b (k * sz) sz = ck := by
        have := rdw_seg h3 hcur
        rwa [p0, ho, hl, hxsz] at this
       have hrd' : rdw w' b (k * sz) sz = ck := by
        have := rdw_seg ((hS b h2).trans h3) hcur
        rwa [p0, ho, hl, hxsz] at this
       simp only [fol, hx, hrd, hrd']
       exact ih x ck Sk _ d p5 hd (fun c hc => hS c (h10 _ (p2 _ hc)))
     ·cases hd
   | ubox x =>
     cases k with
     | succ k => simp [AV.sub] at hd
     | zero =>
       simp only [AV.sub] at hd
       rw [RV] at h
       obtain ⟨b, cur, e, fr, S0, rfl, h2, h3, h4, h5, h6, h7⟩ := h
       have hl := RV.length _ _ _ h5
       have hrd : rdw w b 0 x.wd = cur.toList := by
        have := rdw_seg (l := []) (m := cur.toList) (r := []) h3 (by simp)
        rwa [hl] at this
       have hrd' : rdw w' b 0 x.wd = cur.toList := by
        have := rdw_seg (l := []) (m := cur.toList) (r := []) ((hS b h2).trans h3) (by simp)
        rwa [hl] at this
       simp only [fol, hrd, hrd']
       exact ih x cur.toList S0 _ d h5 hd (fun c hc => hS c (h6 _ hc))
   | _ => simp [AV.sub] at hd
def vc1 : Value → List Value
 | .agg cs => cs.toList
 | v => [v]
def vc : Value → List Value
 | .tuple vs => vs.toList.flatMap vc1
 | v => vc1 v
def shp1 : AV → Value → Prop
 | .agg _, v => ∃ arr, v = .agg arr
 | _, v => Value.isOne v = true
def shp : AV → Value → Prop
 | .tuple ds, v => ∃ arr : Array Value, v = .tuple arr ∧ arr.size = ds.length ∧ ∀ (k : Nat) (d : AV) (x : Value), ds[k]? = some d → arr[k]? = some x → shp1 d x ∧ (∀ vs, d ≠ .tuple vs) ∧ (vc1 x).length = d.wd
 | d, v => shp1 d v
abbrev St := Nat → AV
mutual
def SV (w : World) (F : Nat → Prop) (s : St) (tm : Nat → Value) : AV → Value → (Nat → Prop) → Prop
 | .hole, _, _ => True
 | .h x q, v, _ => ∀ d, AV.sub q (s x) = some d → d.plain = false → ∃ dcs a, fol w q (s x) (vc (tm x)) none = some (d, dcs, a) ∧ vc v = dcs ∧ shp d v
 | .hp x q, v, _ => ∀ d, AV.sub q (s x) = some d → AV.cross q (s x) = true → ∃ dcs b o, fol w q (s x) (vc (tm x)) none = some (d, dcs, some (b, o)) ∧ v = .pointer (some ⟨b, o, none⟩)
 | .hb x k, v, _ => (s x).plain = false → ∃ b cur e fr, v = .pointer (some ⟨b, k, none⟩) ∧ F b ∧ w.heap[b]? = some (.cells cur e fr) ∧ cur.toList = vc (tm x)
 | .fn f cap, v, _ => ∃ arr : Array Value, v = .func (.func f) #[] arr ∧ SVs w F s tm cap arr.toList
 | .bool b, v, S => shp (.bool b) v ∧ RV w F (.bool b) (vc v) S
 | .anyb, v, S => shp .anyb v ∧ RV w F .anyb (vc v) S
 | .int k n, v, S => shp (.int k n) v ∧ RV w F (.int k n) (vc v) S
 | .str x, v, S => shp (.str x) v ∧ RV w F (.str x) (vc v) S
 | .nilp, v, S => shp .nilp v ∧ RV w F .nilp (vc v) S
 | .nils, v, S => shp .nils v ∧ RV w F .nils (vc v) S
 | .slice xs, v, S => shp (.slice xs) v ∧ RV w F (.slice xs) (vc v) S
 | .uslice sz xs, v, S => shp (.uslice sz xs) v ∧ RV w F (.uslice sz xs) (vc v) S
 | .ref d, v, S => shp (.ref d) v ∧ RV w F (.ref d) (vc v) S
 | .ubox d, v, S => shp (.ubox d) v ∧ RV w F (.ubox d) (vc v) S
 | .agg d, v, S => shp (.agg d) v ∧ RV w F (.agg d) (vc v) S
 | .tuple d, v, S => shp (.tuple d) v ∧ RV w F (.tuple d) (vc v) S
def SVs (w : World) (F : Nat → Prop) (s : St) (tm : Nat → Value) : List AV → List Value → Prop
 | [], vs => vs = []
 | d :: ds, vs => ∃ v vs', vs = v :: vs' ∧ SV w F s tm d v (fun _ => False) ∧ SVs w F s tm ds vs'
end
def AV.tree : AV → Bool
 | .hole => false
 | .h _ _ => false
 | .hp _ _ => false
 | .hb _ _ => false
 | .fn _ _ => false
 | _ => true
theorem SV.of_tree {w : World} {F : Nat → Prop} {s : St} {tm : Nat → Value} {d : AV} {v : Value} {S : Nat → Prop} (ht : d.tree = true) :
  SV w F s tm d v S ↔ (shp d v ∧ RV w F d (vc v) S) := by
 cases d <;> first | (simp [AV.tree] at ht; done) | rw [SV]
theorem tree_of_sub {q : List Nat} {av d : AV} (h : AV.sub q av = some d) (hp : d.plain = false ∨ AV.cross q av = true) : av.tree = true := by
 cases q with
 | nil =>
   simp [AV.sub] at h; subst h
   rcases hp with hp | hp
   ·cases av <;> first | rfl | (simp [AV.plain] at hp)
   ·simp [AV.cross] at hp
 | cons k q => cases av <;> first | rfl | (simp [AV.sub] at h)
theorem plain_tree {d : AV} (h : d.plain = false) : d.tree = true := tree_of_sub (q := []) (by simp only [AV.sub]) (.inl h)
theorem SV.frame {w w' : World} {F F' : Nat → Prop} {s : St} {tm : Nat → Value} {Sx : Nat → Nat → Prop} (hF : ∀ b, F b → w'.heap[b]? = w.heap[b]?) (hFF : ∀ b, F b → F' b)
  (hS : ∀ x b, Sx x b → w'.heap[b]? = w.heap[b]?) (hall : ∀ x, SV w F s tm (s x) (tm x) (Sx x)) :
  ∀ (d : AV) (v : Value) (S : Nat → Prop), (∀ b, S b → w'.heap[b]? = w.heap[b]?) → SV w F s tm d v S → SV w' F' s tm d v S := by
 have hfol : ∀ (x : Nat) (q : List Nat) (d : AV), AV.sub q (s x) = some d → (d.plain = false ∨ AV.cross q (s x) = true) → fol w' q (s x) (vc (tm x)) none = fol w q (s x) (vc (tm x)) none := by
  intro x q d hd hp
  have ht := tree_of_sub hd hp
  have := hall x
  rw [SV.of_tree ht] at this
  exact fol_frame q _ _ (Sx x) none d this.2 hd (hS x)
 have tr : ∀ (d : AV) (v : Value) (S : Nat → Prop), d.tree = true → (∀ b, S b → w'.heap[b]? = w.heap[b]?) → SV w F s tm d v S → SV w' F' s tm d v S := by
  intro d v S ht hSS h
  rw [SV.of_tree ht] at h ⊢
  exact ⟨h.1, RV.mono hFF _ _ _ _ (fun _ h => h) (RV.frame hF _ _ _ hSS h.2)⟩
 have step : ∀ n, (∀ (d : AV) (v : Value) (S : Nat → Prop), SizeOf.sizeOf d ≤ n → (∀ b, S b → w'.heap[b]? = w.heap[b]?) → SV w F s tm d v S → SV w' F' s tm d v S) ∧
   (∀ (ds : List AV) (vs : List Value), SizeOf.sizeOf ds ≤ n → SVs w F s tm ds vs → SVs w' F' s tm ds vs) := by
  intro n
  induction n with
  | zero =>
    refine ⟨fun d v S hz => ?_, fun ds vs hz => ?_⟩
    ·cases d <;> simp at hz <;> omega
    ·cases ds <;> simp at hz <;> omega
  | succ n ih =>
    refine ⟨fun d v S hz hSS h => ?_, fun ds vs hz h => ?_⟩
    ·cases d with
     | hole => rw [SV]; trivial
     | h x q =>
       rw [SV] at h ⊢
       intro d hd hp
       rw [hfol x q d hd (.inl hp)]
       exact h d hd hp
     | hp x q =>
       rw [SV] at h ⊢
       intro d hd hp
       rw [hfol x q d hd (.inr hp)]
       exact h d hd hp
     | hb x k =>
       rw [SV] at h ⊢
       intro hp
       obtain ⟨b, cur, e, fr, h1, h2, h3, h4⟩ := h hp
       exact ⟨b, cur, e, fr, h1, hFF b h2, (hF b h2).trans h3, h4⟩
     | fn f cap =>
       rw [SV] at h ⊢
       obtain ⟨arr, rfl, hc⟩ := h
       exact ⟨arr, rfl, ih.2 _ _ (by simp at hz; omega) hc⟩
     | _ => exact tr _ _ _ rfl hSS h
    ·cases ds with
     | nil => rw [SVs] at h ⊢; exact h
     | cons d ds =>
       rw [SVs] at h ⊢
       obtain ⟨v, vs', rfl, h1, h2⟩ := h
       simp at hz
       exact ⟨v, vs', rfl, ih.1 _ _ _ (by omega) (fun _ h => h.elim) h1, ih.2 _ _ (by omega) h2⟩
 intro d v S hSS h
 exact (step (SizeOf.sizeOf d)).1 d v S (Nat.le_refl _) hSS h
mutual
def pg (x : Nat) : AV → AV
 | .h y q => if y = x then .hole else .h y q
 | .hp y q => if y = x then .hole else .hp y q
 | .hb y k => if y = x then .hole else .hb y k
 | .fn f cap => .fn f (pgs x cap)
 | d => d
def pgs (x : Nat) : List AV → List AV
 | [] => []
 | d :: ds => pg x d :: pgs x ds
end
mutual
def pk (x : Nat) : AV → AV
 | .h y q => if y = x then (if q = [] then .h y q else .hole) else .h y q
 | .hp y q => if y = x then .hole else .hp y q
 | .fn f cap => .fn f (pks x cap)
 | d => d
def pks (x : Nat) : List AV → List AV
 | [] => []
 | d :: ds => pk x d :: pks x ds
end
def upd {α : Type} (f : Nat → α) (t : Nat) (v : α) : Nat → α := fun u => if u = t then v else f u
def pgS (t : Nat) (s : St) : St := fun u => pg t (s u)
def pkS (t : Nat) (s : St) : St := fun u => pk t (s u)
theorem upd_same {α : Type} (f : Nat → α) (t : Nat) (v : α) : upd f t v t = v := by simp [upd]
theorem upd_ne {α : Type} (f : Nat → α) {t u : Nat} (v : α) (h : u ≠ t) : upd f t v u = f u := by simp [upd, h]
theorem pg_tree {t : Nat} {d : AV} (h : d.tree = true) : pg t d = d := by cases d <;> first | rfl | (simp [AV.tree] at h)
theorem pk_tree {t : Nat} {d : AV} (h : d.tree = true) : pk t d = d := by cases d <;> first | rfl | (simp [AV.tree] at h)
theorem pg_tree_iff {t : Nat} {d : AV} (h : (pg t d).tree = true) : d.tree = true ∧ pg t d = d := by
 cases d <;> first | exact ⟨rfl, rfl⟩ | (simp only [pg] at h; first | (split at h <;> simp [AV.tree] at h) | simp [AV.tree] at h)
theorem pk_tree_iff {t : Nat} {d : AV} (h : (pk t d).tree = true) : d.tree = true ∧ pk t d = d := by
 cases d <;> first | exact ⟨rfl, rfl⟩ | (simp only [pk] at h; first | (split at h <;> (try split at h) <;> simp [AV.tree] at h) | simp [AV.tree] at h)
section
variable {w : World} {F : Nat → Prop} {s s' : St} {tm tm' : Nat → Value} {t : Nat}
theorem SV.pg (hB : ∀ x, x ≠ t → (s' x).tree = true → s' x = s x ∧ tm' x = tm x) : ∀ (n : Nat),
  (∀ (d : AV) (v : Value) (S : Nat → Prop), SizeOf.sizeOf d ≤ n → SV w F s tm d v S → SV w F s' tm' (Fw.pg t d) v S) ∧
  (∀ (ds : List AV) (vs : List Value), SizeOf.sizeOf ds ≤ n → SVs w F s tm ds vs → SVs w F s' tm' (pgs t ds) vs) := by
 intro n
 induction n with
 | zero =>
   refine ⟨fun d v S hz => ?_, fun ds vs hz => ?_⟩
   ·cases d <;> simp at hz <;> omega
   ·cases ds <;> simp at hz <;> omega
 | succ n ih =>
   refine ⟨fun d v S hz h => ?_, fun ds vs hz h => ?_⟩
   ·cases d with
    | hole => rw [Fw.pg.eq_def]; simp only; rw [SV]; trivial
    | h x q =>
      simp only [Fw.pg]
      split
      ·rw [SV]; trivial
      ·rename_i hx
       rw [SV] at h ⊢
       intro d hd hp
       obtain ⟨e1, e2⟩ := hB x hx (tree_of_sub hd (.inl hp))
       rw [e1, e2]; rw [e1] at hd
       exact h d hd hp
    | hp x q =>
      simp only [Fw.pg]
      split
      ·rw [SV]; trivial
      ·rename_i hx
       rw [SV] at h ⊢
       intro d hd hp
       obtain ⟨e1, e2⟩ := hB x hx (tree_of_sub hd (.inr hp))
       rw [e1, e2]; rw [e1] at hd hp
       exact h d hd hp
    | hb x k =>
      simp only [Fw.pg]
      split
      ·rw [SV]; trivial
      ·rename_i hx
       rw [SV] at h ⊢
       intro hp
       obtain ⟨e1, e2⟩ := hB x hx (plain_tree hp)
       rw [e2]; rw [e1] at hp
       exact h hp
    | fn f cap =>
      simp only [Fw.pg]
      rw [SV] at h ⊢
      obtain ⟨arr, rfl, hc⟩ := h
      exact ⟨arr, rfl, ih.2 _ _ (by simp at hz; omega) hc⟩
    | _ =>
      rw [pg_tree (by rfl)]
      exact (SV.of_tree (by rfl)).2 ((SV.of_tree (by rfl)).1 h)
   ·cases ds with
    | nil => rw [pgs, SVs]; rw [SVs] at h; exact h
    | cons d ds =>
      rw [pgs, SVs]; rw [SVs] at h
      obtain ⟨v, vs', rfl, h1, h2⟩ := h
      simp at hz
      exact ⟨v, vs', rfl, ih.1 _ _ _ (by omega) h1, ih.2 _ _ (by omega) h2⟩
theorem SV.pk {w' : World} (hB : ∀ x, x ≠ t → (s' x).tree = true → s' x = s x ∧ tm' x = tm x) (hT : tm' t = tm t) (hR : (s' t).plain = false → (s t).plain = false ∧ ∀ v, shp (s t) v → shp (s' t) v)
  (hfol : ∀ x q d, x ≠ t → AV.sub q (s x) = some d → (d.plain = false ∨ AV.cross q (s x) = true) → fol w' q (s x) (vc (tm x)) none = fol w q (s x) (vc (tm x)) none)
  (hF : ∀ b, F b → w'.heap[b]? = w.heap[b]?) : ∀ (n : Nat),
  (∀ (d : AV) (v : Value) (S : Nat → Prop), SizeOf.sizeOf d ≤ n → (∀ b, S b → w'.heap[b]? = w.heap[b]?) → SV w F s tm d v S → SV w' F s' tm' (Fw.pk t d) v S) ∧
  (∀ (ds : List AV) (vs : List Value), SizeOf.sizeOf ds ≤ n → SVs w F s tm ds vs → SVs w' F s' tm' (pks t ds) vs) := by
 intro n
 induction n with
 | zero =>
   refine ⟨fun d v S hz => ?_, fun ds vs hz => ?_⟩
   ·cases d <;> simp at hz <;> omega
   ·cases ds <;> simp at hz <;> omega
 | succ n ih =>
   refine ⟨fun d v S hz hSS h => ?_, fun ds vs hz h => ?_⟩
   ·cases d with
    | hole => rw [Fw.pk.eq_def]; simp only; rw [SV]; trivial
    | h x q =>
      simp only [Fw.pk]
      split
      ·rename_i hx
       subst hx
       split
       ·rename_i hq
        subst hq
        rw [SV] at h ⊢
        intro d hd hp
        simp only [AV.sub, Option.some.injEq] at hd
        subst hd
        obtain ⟨r1, r2⟩ := hR hp
        obtain ⟨dcs, a, g1, g2, g3⟩ := h (s x) rfl r1
        simp only [fol, Option.some.injEq, Prod.mk.injEq] at g1
        obtain ⟨-, g1, g1'⟩ := g1
        refine ⟨vc (tm' x), none, rfl, ?_, r2 _ g3⟩
        rw [hT, g2, ← g1]
       ·rw [SV]; trivial
      ·rename_i hx
       rw [SV] at h ⊢
       intro d hd hp
       obtain ⟨e1, e2⟩ := hB x hx (tree_of_sub hd (.inl hp))
       rw [e1, e2]; rw [e1] at hd
       rw [hfol x q d hx hd (.inl hp)]
       exact h d hd hp
    | hp x q =>
      simp only [Fw.pk]
      split
      ·rw [SV]; trivial
      ·rename_i hx
       rw [SV] at h ⊢
       intro d hd hp
       obtain ⟨e1, e2⟩ := hB x hx (tree_of_sub hd (.inr hp))
       rw [e1, e2]; rw [e1] at hd hp
       rw [hfol x q d hx hd (.inr hp)]
       exact h d hd hp
    | hb x k =>
      simp only [Fw.pk]
      rw [SV] at h ⊢
      intro hp
      by_cases hx : x = t
      ·subst hx
       obtain ⟨b, cur, e, fr, h1, h2, h3, h4⟩ := h (hR hp).1
       exact ⟨b, cur, e, fr, h1, h2, (hF b h2).trans h3, by rw [hT]; exact h4⟩
      ·obtain ⟨e1, e2⟩ := hB x hx (plain_tree hp)
       rw [e1] at hp
       obtain ⟨b, cur, e, fr, h1, h2, h3, h4⟩ := h hp
       exact ⟨b, cur, e, fr, h1, h2, (hF b h2).trans h3, by rw [e2]; exact h4⟩
    | fn f cap =>
      simp only [Fw.pk]
      rw [SV] at h ⊢
      obtain ⟨arr, rfl, hc⟩ := h
      exact ⟨arr, rfl, ih.2 _ _ (by simp at hz; omega) hc⟩
    | _ =>
      rw [pk_tree (by rfl)]
      have h' := (SV.of_tree (by rfl)).1 h
      exact (SV.of_tree (by rfl)).2 ⟨h'.1, RV.frame hF _ _ _ hSS h'.2⟩
   ·cases ds with
    | nil => rw [pks, SVs]; rw [SVs] at h; exact h
    | cons d ds =>
      rw [pks, SVs]; rw [SVs] at h
      obtain ⟨v, vs', rfl, h1, h2⟩ := h
      simp at hz
      exact ⟨v, vs', rfl, ih.1 _ _ _ (by omega) (fun _ h => h.elim) h1, ih.2 _ _ (by omega) h2⟩
theorem SV.void (hB : ∀ x, x ≠ t → (s' x).tree = true → s' x = s x ∧ tm' x = tm x) (hV : (s' t).plain = true) : ∀ (n : Nat),
  (∀ (d : AV) (v : Value) (S : Nat → Prop), SizeOf.sizeOf d ≤ n → SV w F s tm d v S → SV w F s' tm' d v S) ∧
  (∀ (ds : List AV) (vs : List Value), SizeOf.sizeOf ds ≤ n → SVs w F s tm ds vs → SVs w F s' tm' ds vs) := by
 intro n
 induction n with
 | zero =>
   refine ⟨fun d v S hz => ?_, fun ds vs hz => ?_⟩
   ·cases d <;> simp at hz <;> omega
   ·cases ds <;> simp at hz <;> omega
 | succ n ih =>
   refine ⟨fun d v S hz h => ?_, fun ds vs hz h => ?_⟩
   ·cases d with
    | hole => rw [SV]; trivial
    | h x q =>
      rw [SV] at h ⊢
      intro d hd hp
      by_cases hx : x = t
      ·subst hx
       rw [AV.sub_plain _ _ _ hV hd] at hp; cases hp
      ·obtain ⟨e1, e2⟩ := hB x hx (tree_of_sub hd (.inl hp))
       rw [e1, e2]; rw [e1] at hd
       exact h d hd hp
    | hp x q =>
      rw [SV] at h ⊢
      intro d hd hp
      by_cases hx : x = t
      ·subst hx
       rw [AV.cross_plain _ _ hV] at hp; cases hp
      ·obtain ⟨e1, e2⟩ := hB x hx (tree_of_sub hd (.inr hp))
       rw [e1, e2]; rw [e1] at hd hp
       exact h d hd hp
    | hb x k =>
      rw [SV] at h ⊢
      intro hp
      by_cases hx : x = t
      ·subst hx; rw [hV] at hp; cases hp
      ·obtain ⟨e1, e2⟩ := hB x hx (plain_tree hp)
       rw [e2]; rw [e1] at hp
       exact h hp
    | fn f cap =>
      rw [SV] at h ⊢
      obtain ⟨arr, rfl, hc⟩ := h
      exact ⟨arr, rfl, ih.2 _ _ (by simp at hz; omega) hc⟩
    | _ => exact (SV.of_tree (by rfl)).2 ((SV.of_tree (by rfl)).1 h)
   ·cases ds with
    | nil => rw [SVs]; rw [SVs] at h; exact h
    | cons d ds =>
      rw [SVs]; rw [SVs] at h
      obtain ⟨v, vs', rfl, h1, h2⟩ := h
      simp at hz
      exact ⟨v, vs', rfl, ih.1 _ _ _ (by omega) h1, ih.2 _ _ (by omega) h2⟩
end
structure RelX (w0 : World) (F0 X F : Nat → Prop) (S : Nat → Nat → Prop) (s : St) (tm : Nat → Value) (w : World) : Prop where
 F0F : ∀ b, F0 b → F b
 FF0 : ∀ b, F b → F0 b ∨ X b ∨ w0.heap.size ≤ b
 Flt : ∀ b, F b → b < w.heap.size
 Slt : ∀ t b, S t b → b < w.heap.size
 SF : ∀ t b, S t b → ¬ F b
 SS : ∀ t u b, t ≠ u → S t b → ¬ S u b
 S0 : ∀ t b, S t b → X b ∨ w0.heap.size ≤ b
 sv : ∀ t, SV w F s tm (s t) (tm t) (S t)
 old : ∀ b, b < w0.heap.size → ¬ X b → w.heap[b]? = w0.heap[b]?
 size : w0.heap.size ≤ w.heap.size
 os : w.os = w0.os
 tape : w.tape = w0.tape
 output : w.output = w0.output
section
variable {w0 w w' : World} {F0 X F : Nat → Prop} {S : Nat → Nat → Prop} {s : St} {tm : Nat → Value}
theorem RelX.grow (h : RelX w0 F0 X F S s tm w) (hb : ∀ b, b < w.heap.size → w'.heap[b]? = w.heap[b]?) (hs : w.heap.size ≤ w'.heap.size)
  (h1 : w'.os = w.os) (h2 : w'.tape = w.tape) (h3 : w'.output = w.output) : RelX w0 F0 X F S s tm w' where
 F0F := h.F0F
 FF0 := h.FF0
 Flt := fun b hF => Nat.lt_of_lt_of_le (h.Flt b hF) hs
 Slt := fun t b hF => Nat.lt_of_lt_of_le (h.Slt t b hF) hs
 SF := h.SF
 SS := h.SS
 S0 := h.S0
 sv := fun t => SV.frame (Sx := S) (fun b hF => hb b (h.Flt b hF)) (fun _ h => h) (fun x b hS => hb b (h.Slt x b hS)) h.sv _ _ _ (fun b hS => hb b (h.Slt t b hS)) (h.sv t)
 old := fun b hlt hX => (hb b (Nat.lt_of_lt_of_le hlt h.size)).trans (h.old b hlt hX)
 size := Nat.le_trans h.size hs
 os := h1.trans h.os
 tape := h2.trans h.tape
 output := h3.trans h.output
def updS (S : Nat → Nat → Prop) (t : Nat) (Sn : Nat → Prop) : Nat → Nat → Prop := fun u b => if u = t then Sn b else S u b
theorem updS_same (S : Nat → Nat → Prop) (t : Nat) (Sn : Nat → Prop) : updS S t Sn t = Sn := by funext b; simp [updS]
theorem updS_ne (S : Nat → Nat → Prop) {t u : Nat} (Sn : Nat → Prop) (h : u ≠ t) : updS S t Sn u = S u := by funext b; simp [updS, h]
theorem RelX.setP (h : RelX w0 F0 X F S s tm w) {t : Nat} {d : AV} {v : Value} (hp : d.plain = true) (hd : SV w F s tm d v (fun _ => False)) :
  RelX w0 F0 X F (updS S t (fun _ => False)) (upd s t d) (upd tm t v) w where
 F0F := h.F0F
 FF0 := h.FF0
 Flt := h.Flt
 Slt := fun u b hb => by simp only [updS] at hb; split at hb; exact hb.elim; exact h.Slt u b hb
 SF := fun u b hb => by simp only [updS] at hb; split at hb; exact hb.elim; exact h.SF u b hb
 SS := fun u x b hne hb hx => by
  simp only [updS] at hb hx
  split at hb
  ·exact hb.elim
  ·split at hx
   ·exact hx.elim
   ·exact h.SS u x b hne hb hx
 S0 := fun u b hb => by simp only [updS] at hb; split at hb; exact hb.elim; exact h.S0 u b hb
 sv := fun u => by
  have hB : ∀ x, x ≠ t → (upd s t d x).tree = true → upd s t d x = s x ∧ upd tm t v x = tm x := fun x hx _ => ⟨upd_ne _ _ hx, upd_ne _ _ hx⟩
  have hV : (upd s t d t).plain = true := by rw [upd_same]; exact hp
  by_cases hu : u = t
  ·subst hu
   rw [upd_same, upd_same, updS_same]
   exact (SV.void hB hV _).1 _ _ _ (Nat.le_refl _) hd
  ·rw [upd_ne _ _ hu, upd_ne _ _ hu, updS_ne _ _ hu]
   exact (SV.void hB hV _).1 _ _ _ (Nat.le_refl _) (h.sv u)
 old := h.old
 size := h.size
 os := h.os
 tape := h.tape
 output := h.output
theorem RelX.setO (h : RelX w0 F0 X F S s tm w) {t : Nat} {d : AV} {v : Value} {Sn : Nat → Prop} (hd : d.tree = true) (hs : shp d v) (hv : RV w F d (vc v) Sn)
  (hlt : ∀ b, Sn b → b < w.heap.size) (hF : ∀ b, Sn b → ¬ F b) (hS : ∀ u b, u ≠ t → Sn b → ¬ S u b) (h0 : ∀ b, Sn b → X b ∨ w0.heap.size ≤ b) :
  RelX w0 F0 X F (updS S t Sn) (upd (pgS t s) t d) (upd tm t v) w where
 F0F := h.F0F
 FF0 := h.FF0
 Flt := h.Flt
 Slt := fun u b hb => by simp only [updS] at hb; split at hb; exact hlt b hb; exact h.Slt u b hb
 SF := fun u b hb => by simp only [updS] at hb; split at hb; exact hF b hb; exact h.SF u b hb
 SS := fun u x b hne hb hx => by
  simp only [updS] at hb hx
  split at hb
  ·rename_i hu
   rw [if_neg (fun e => hne (hu.trans e.symm))] at hx
   exact hS x b (fun e => hne (hu.trans e.symm)) hb hx
  ·rename_i hu
   split at hx
   ·exact hS u b hu hx hb
   ·exact h.SS u x b hne hb hx
 S0 := fun u b hb => by simp only [updS] at hb; split at hb; exact h0 b hb; exact h.S0 u b hb
 sv := fun u => by
  have hB : ∀ x, x ≠ t → (upd (pgS t s) t d x).tree = true → upd (pgS t s) t d x = s x ∧ upd tm t v x = tm x := fun x hx ht => by
   rw [upd_ne _ _ hx] at ht ⊢
   exact ⟨(pg_tree_iff ht).2, upd_ne _ _ hx⟩
  by_cases hu : u = t
  ·subst hu
   rw [upd_same, upd_same, updS_same]
   exact (SV.of_tree hd).2 ⟨hs, hv⟩
  ·rw [upd_ne _ _ hu, upd_ne _ _ hu, updS_ne _ _ hu]
   exact (SV.pg hB _).1 _ _ _ (Nat.le_refl _) (h.sv u)
 old := h.old
 size := h.size
 os := h.os
 tape := h.tape
 output := h.output
theorem put_cons (k : Nat) (q : List Nat) (d' x : AV) : (∃ fs gs, x = .agg fs ∧ AV.put (k :: q) d' x = .agg gs) ∨ (∃ fs gs, x = .tuple fs ∧ AV.put (k :: q) d' x = .tuple gs) ∨
  (∃ sz xs ys, x = .uslice sz xs ∧ AV.put (k :: q) d' x = .uslice sz ys) ∨ (∃ y z, x = .ubox y ∧ AV.put (k :: q) d' x = .ubox z) ∨ AV.put (k :: q) d' x = x := by
 cases x with
 | agg fs => simp only [AV.put]; split <;> exact .inl ⟨_, _, rfl, rfl⟩
 | tuple fs => simp only [AV.put]; split <;> exact .inr (.inl ⟨_, _, rfl, rfl⟩)
 | uslice sz fs => simp only [AV.put]; split <;> exact .inr (.inr (.inl ⟨_, _, _, rfl, rfl⟩))
 | ubox y => cases k <;> exact .inr (.inr (.inr (.inl ⟨_, _, rfl, rfl⟩)))
 | _ => exact .inr (.inr (.inr (.inr rfl)))
theorem shp1_put {k : Nat} {q : List Nat} {d' x : AV} {v : Value} (h : shp1 x v) : shp1 (AV.put (k :: q) d' x) v := by
 rcases put_cons k q d' x with ⟨fs, gs, rfl, e⟩ | ⟨fs, gs, rfl, e⟩ | ⟨sz, xs, ys, rfl, e⟩ | ⟨y, z, rfl, e⟩ | e <;> rw [e] <;> exact h
theorem ntuple_put {k : Nat} {q : List Nat} {d' x : AV} (h : ∀ vs, x ≠ .tuple vs) : ∀ vs, AV.put (k :: q) d' x ≠ .tuple vs := by
 rcases put_cons k q d' x with ⟨fs, gs, rfl, e⟩ | ⟨fs, gs, rfl, e⟩ | ⟨sz, xs, ys, rfl, e⟩ | ⟨y, z, rfl, e⟩ | e <;> rw [e] <;> first | exact h | (intro vs h'; cases h'; done) | exact (h _ rfl).elim
theorem shp_put {k : Nat} {q : List Nat} {d d' av : AV} {v : Value} (h : shp av v) (hd : AV.sub (k :: q) av = some d) (h1 : ∀ v, shp1 d v → shp1 d' v) (h2 : (∀ vs, d ≠ .tuple vs) → ∀ vs, d' ≠ .tuple vs) (h3 : d'.wd = d.wd) :
  shp (AV.put (k :: q) d' av) v := by
 cases av with
 | tuple fs =>
   simp only [AV.sub] at hd
   split at hd
   ·rename_i x hx
    simp only [AV.put, hx]
    simp only [shp] at h ⊢
    obtain ⟨arr, rfl, hz, hall⟩ := h
    refine ⟨arr, rfl, by simpa using hz, fun j e y he hy => ?_⟩
    rw [List.getElem?_set] at he
    split at he
    ·rename_i hjk
     subst hjk
     split at he
     ·simp only [Option.some.injEq] at he
      subst he
      obtain ⟨g1, g2, g3⟩ := hall k x y hx hy
      refine ⟨?_, ?_, g3.trans (AV.put_wd q x d d' hd h3).symm⟩
      ·cases q with
       | nil =>
         simp only [AV.sub, Option.some.injEq] at hd
         subst hd
         exact h1 _ g1
       | cons k2 q => exact shp1_put g1
      ·cases q with
       | nil =>
         simp only [AV.sub, Option.some.injEq] at hd
         subst hd
         exact h2 g2
       | cons k2 q => exact ntuple_put g2
     ·cases he
    ·exact hall j e y he hy
   ·cases hd
 | agg fs => simp only [AV.put]; split <;> exact h
 | uslice sz fs => simp only [AV.put]; split <;> exact h
 | ubox y => cases k <;> exact h
 | _ => exact h
theorem shp1_hollow {d : AV} {v : Value} (h : shp1 d v) : shp1 d.hollow v := by cases d <;> exact h
theorem takeRoot {s : St} {x : Nat} {q : List Nat} {d : AV} (hd : AV.sub q (s x) = some d) (hp : d.plain = false) :
  (upd (pkS x s) x (AV.put q d.hollow (s x)) x).plain = false → (s x).plain = false ∧ ∀ v, shp (s x) v → shp (upd (pkS x s) x (AV.put q d.hollow (s x)) x) v := by
  rw [upd_same]
  intro hpl
  cases q with
  | nil =>
    exfalso
    have : ∀ d : AV, d.hollow.plain = true := by
     intro d
     have key : ∀ n, (∀ d : AV, SizeOf.sizeOf d ≤ n → d.hollow.plain = true) ∧ (∀ ds : List AV, SizeOf.sizeOf ds ≤ n → AV.plains (AV.hollows ds) = true) := by
      intro n
      induction n with
      | zero => exact ⟨fun d hz => by cases d <;> simp at hz <;> omega, fun ds hz => by cases ds <;> simp at hz <;> omega⟩
      | succ n ih =>
        refine ⟨fun d hz => ?_, fun ds hz => ?_⟩
        ·cases d with
         | agg fs => simp only [AV.hollow, AV.plain]; exact ih.2 _ (by simp at hz; omega)
         | tuple fs => simp only [AV.hollow, AV.plain]; exact ih.2 _ (by simp at hz; omega)
         | _ => rfl
        ·cases ds with
         | nil => rfl
         | cons d ds =>
           simp at hz
           simp only [AV.hollows, AV.plains, Bool.and_eq_true]
           exact ⟨ih.1 _ (by omega), ih.2 _ (by omega)⟩
     exact (key _).1 d (Nat.le_refl _)
    simp only [AV.put] at hpl
    rw [this] at hpl
    cases hpl
  | cons k q =>
    refine ⟨?_, fun v hv => shp_put hv hd (fun v h => shp1_hollow h) (fun h vs e => ?_) (AV.hollow_wd d)⟩
    ·cases hpx : (s x).plain with
     | false => rfl
     | true => rw [AV.sub_plain _ _ _ hpx hd] at hp; cases hp
    ·cases d <;> first | (exact h _ rfl) | (simp [AV.hollow] at e)
theorem RelX.take (h : RelX w0 F0 X F S s tm w) {x : Nat} {q : List Nat} {d : AV} (hd : AV.sub q (s x) = some d) (hp : d.plain = false) :
  ∃ (Sn Sd : Nat → Prop) (dcs : List Value) (a : Option (Nat × Nat)), RelX w0 F0 X F (updS S x Sn) (upd (pkS x s) x (AV.put q d.hollow (s x))) tm w ∧
    fol w q (s x) (vc (tm x)) none = some (d, dcs, a) ∧ RV w F d dcs Sd ∧ (∀ b, Sd b → S x b) ∧ (∀ b, Sn b → S x b) ∧ (∀ b, Sd b → ¬ Sn b) ∧
    (∀ (d' : AV) (v : Value) (S' : Nat → Prop), SV w F s tm d' v S' → SV w F (upd (pkS x s) x (AV.put q d.hollow (s x))) tm (Fw.pk x d') v S') := by
 have ht := tree_of_sub hd (.inl hp)
 have hx := h.sv x
 rw [SV.of_tree ht] at hx
 obtain ⟨dcs, a, Sc, Sd, g0, g1, g2, g3, g4, g5⟩ := ctx q (s x) (vc (tm x)) (S x) none d hx.2 hd
 have hput : RV w F (AV.put q d.hollow (s x)) (vc (tm x)) Sc := by
  have hh : RV w F d.hollow dcs (fun _ => False) := RV.hollow _ _ _ _ g4
  have hsc : ∀ b, (Sc b ∨ False) → Sc b := fun b h => h.elim id False.elim
  rcases g5 with ⟨l, r, e1, e2, e3⟩ | ⟨b, cur, e, fr, l, r, e1, e2, e3, e4, e5, e6⟩
  ·have := e3 w _ dcs _ (fun _ _ => rfl) (fun _ _ => rfl) (AV.hollow_wd d) hh (fun _ h => h.elim)
   rw [← e1] at this
   exact RV.mono (fun _ h => h) _ _ _ _ hsc this
  ·have := e6 w _ dcs _ (fun _ _ => rfl) (fun _ _ _ => rfl) (by rw [e3, ← e5]) (AV.hollow_wd d) hh (fun _ h => h.elim)
   exact RV.mono (fun _ h => h) _ _ _ _ hsc this
 have hshp : shp (AV.put q d.hollow (s x)) (tm x) ∧ (AV.put q d.hollow (s x)).tree = true ∨ AV.put q d.hollow (s x) = .hole := by
  cases q with
  | nil =>
    simp only [AV.sub, Option.some.injEq] at hd
    subst hd
    simp only [AV.put]
    cases hs : s x with
    | uslice sz xs => right; rfl
    | ubox y => right; rfl
    | agg fs => left; rw [hs] at hx; exact ⟨hx.1, rfl⟩
    | tuple fs =>
      left
      rw [hs] at hx
      refine ⟨?_, rfl⟩
      simp only [shp, AV.hollow] at hx ⊢
      obtain ⟨arr, e, hz, hall⟩ := hx.1
      have hl : ∀ fs : List AV, AV.hollows fs = fs.map AV.hollow := by
       intro fs; induction fs with
       | nil => rfl
       | cons a fs ih => simp [AV.hollows, ih]
      refine ⟨arr, e, by rw [hl]; simpa using hz, fun k e' y he hy => ?_⟩
      rw [hl, List.getElem?_map] at he
      cases hk : fs[k]? with
      | none => rw [hk] at he; cases he
      | some z =>
        rw [hk] at he
        simp only [Option.map_some, Option.some.injEq] at he
        subst he
        obtain ⟨g1, g2, g3⟩ := hall k z y hk hy
        refine ⟨shp1_hollow g1, fun vs e => ?_, g3.trans (AV.hollow_wd z).symm⟩
        cases z <;> first | (exact g2 _ rfl) | (simp [AV.hollow] at e)
    | _ => rw [hs] at hp; simp [AV.plain] at hp
  | cons k q =>
    left
    refine ⟨shp_put hx.1 hd (fun v h => shp1_hollow h) (fun h vs e => ?_) (AV.hollow_wd d), ?_⟩
    ·cases d <;> first | (exact h _ rfl) | (simp [AV.hollow] at e)
    ·rcases put_cons k q d.hollow (s x) with ⟨fs, gs, e1, e⟩ | ⟨fs, gs, e1, e⟩ | ⟨sz, xs, ys, e1, e⟩ | ⟨y, z, e1, e⟩ | e <;> rw [e] <;> first | rfl | exact ht
 refine ⟨Sc, Sd, dcs, a, ?_, g0, g4, g2, g1, fun b h1 h2 => g3 b h2 h1, ?_⟩
 rotate_left
 ·have hB : ∀ y, y ≠ x → (upd (pkS x s) x (AV.put q d.hollow (s x)) y).tree = true → upd (pkS x s) x (AV.put q d.hollow (s x)) y = s y ∧ tm y = tm y := fun y hy ht => by
   rw [upd_ne _ _ hy] at ht ⊢
   exact ⟨(pk_tree_iff ht).2, rfl⟩
  intro d' v S' hd'
  exact (SV.pk hB rfl (takeRoot hd hp) (fun _ _ _ _ _ _ => rfl) (fun _ _ => rfl) _).1 _ _ _ (Nat.le_refl _) (fun _ _ => rfl) hd'
 have hB : ∀ y, y ≠ x → (upd (pkS x s) x (AV.put q d.hollow (s x)) y).tree = true → upd (pkS x s) x (AV.put q d.hollow (s x)) y = s y ∧ tm y = tm y := fun y hy ht => by
  rw [upd_ne _ _ hy] at ht ⊢
  exact ⟨(pk_tree_iff ht).2, rfl⟩
 have hR := takeRoot (s := s) (x := x) hd hp
 constructor
 case F0F => exact h.F0F
 case FF0 => exact h.FF0
 case Flt => exact h.Flt
 case Slt => exact fun u b hb => by simp only [updS] at hb; split at hb; exact h.Slt x b (g1 b hb); exact h.Slt u b hb
 case SF => exact fun u b hb => by simp only [updS] at hb; split at hb; exact h.SF x b (g1 b hb); exact h.SF u b hb
 case SS =>
  intro u y b hne hb hy
  simp only [updS] at hb hy
  split at hb
  ·rename_i hu
   rw [if_neg (fun e => hne (hu.trans e.symm))] at hy
   exact h.SS x y b (fun e => hne (hu.trans e)) (g1 b hb) hy
  ·rename_i hu
   split at hy
   ·exact h.SS u x b hu hb (g1 b hy)
   ·exact h.SS u y b hne hb hy
 case S0 => exact fun u b hb => by simp only [updS] at hb; split at hb; exact h.S0 x b (g1 b hb); exact h.S0 u b hb
 case sv =>
  intro u
  by_cases hu : u = x
  ·subst hu
   rw [upd_same, updS_same]
   rcases hshp with ⟨e1, e2⟩ | e
   ·exact (SV.of_tree e2).2 ⟨e1, hput⟩
   ·rw [e, SV]; trivial
  ·rw [upd_ne _ _ hu, updS_ne _ _ hu]
   exact (SV.pk hB rfl hR (fun _ _ _ _ _ _ => rfl) (fun _ _ => rfl) _).1 _ _ _ (Nat.le_refl _) (fun _ _ => rfl) (h.sv u)
 case old => exact h.old
 case size => exact h.size
 case os => exact h.os
 case tape => exact h.tape
 case output => exact h.output
theorem RelX.store (h : RelX w0 F0 X F S s tm w) {x : Nat} {q : List Nat} {d d' : AV} (hd : AV.sub q (s x) = some d) (hc : AV.cross q (s x) = true)
  {dcs' : List Value} {Sn : Nat → Prop} (hv : RV w F d' dcs' Sn) (hwd : d'.wd = d.wd)
  (hlt : ∀ b, Sn b → b < w.heap.size) (hF : ∀ b, Sn b → ¬ F b) (hS : ∀ u b, Sn b → ¬ S u b) (h0 : ∀ b, Sn b → X b ∨ w0.heap.size ≤ b) :
  ∃ (dcs : List Value) (b : Nat) (l r : List Value) (cur : Array Value) (e : TypeId) (fr : Nat × Nat), fol w q (s x) (vc (tm x)) none = some (d, dcs, some (b, l.length)) ∧
    w.heap[b]? = some (.cells cur e fr) ∧ cur.toList = l ++ (dcs ++ r) ∧ nofrz fr cur.size ∧
    ∀ w', w'.heap[b]? = some (.cells (l ++ (dcs' ++ r)).toArray e fr) → (∀ c, c ≠ b → w'.heap[c]? = w.heap[c]?) → w'.heap.size = w.heap.size → w'.os = w.os → w'.tape = w.tape → w'.output = w.output →
      ∃ S', RelX w0 F0 X F S' (upd (pkS x s) x (AV.put q d' (s x))) tm w' := by
 have ht := tree_of_sub hd (.inr hc)
 have hx := h.sv x
 rw [SV.of_tree ht] at hx
 obtain ⟨dcs, a, Sc, Sd, g0, g1, g2, g3, g4, g5⟩ := ctx q (s x) (vc (tm x)) (S x) none d hx.2 hd
 have hdeep : Deep w F q (s x) (vc (tm x)) d dcs a Sc := by
  rcases g5 with ⟨l, r, e1, e2, e3⟩ | g5
  ·exfalso
   have hno : ∀ (q : List Nat) (av : AV) (cs : List Value) (a0 : Option (Nat × Nat)) (d : AV) (dcs : List Value), AV.cross q av = true → fol w q av cs a0 = some (d, dcs, none) → False := by
    intro q
    induction q with
    | nil => intro av cs a0 d dcs hc; simp [AV.cross] at hc
    | cons k q ih =>
      have hsome : ∀ (q : List Nat) (av : AV) (cs : List Value) (l : Nat × Nat) (d : AV) (dcs : List Value), fol w q av cs (some l) = some (d, dcs, none) → False := by
       intro q
       induction q with
       | nil => intro av cs l d dcs h; simp [fol] at h
       | cons k q ih2 =>
         intro av cs l d dcs h
         cases av with
         | agg fs => rw [fol] at h; split at h; exact ih2 _ _ _ _ _ h; cases h
         | tuple fs => rw [fol] at h; split at h; exact ih2 _ _ _ _ _ h; cases h
         | uslice sz xs => simp only [fol] at h; split at h; exact ih2 _ _ _ _ _ h; cases h
         | ubox y =>
           cases k with
           | zero => rw [fol.eq_def] at h; simp only at h; split at h; exact ih2 _ _ _ _ _ h; cases h
           | succ k => rw [show fol w ((k + 1) :: q) (.ubox y) cs (some l) = none from rfl] at h; cases h
         | _ => simp [fol] at h
      intro av cs a0 d dcs hc h
      cases av with
      | agg fs =>
        simp only [AV.cross] at hc
        split at hc
        ·rename_i y hy
         simp only [fol, hy] at h
         exact ih _ _ _ _ _ hc h
        ·cases hc
      | tuple fs =>
        simp only [AV.cross] at hc
        split at hc
        ·rename_i y hy
         simp only [fol, hy] at h
         exact ih _ _ _ _ _ hc h
        ·cases hc
      | uslice sz xs => simp only [fol] at h; split at h; exact hsome _ _ _ _ _ _ h; cases h
      | ubox y =>
        cases k with
        | zero => rw [fol.eq_def] at h; simp only at h; split at h; exact hsome _ _ _ _ _ _ h; cases h
        | succ k => rw [show fol w ((k + 1) :: q) (.ubox y) cs a0 = none from rfl] at h; cases h
      | _ => simp [AV.cross] at hc
   simp only [Option.map_none] at e2
   subst e2
   exact hno _ _ _ _ _ _ hc g0
  ·exact g5
 obtain ⟨b, cur, e, fr, l, r, rfl, e2, e3, e4, e5, e6⟩ := hdeep
 refine ⟨dcs, b, l, r, cur, e, fr, g0, e3, e5, e4, ?_⟩
 intro w' hb' hoth hsz hos htape hout
 have hbS : S x b := g1 _ e2
 have hFb : ∀ c, F c → w'.heap[c]? = w.heap[c]? := fun c hc => hoth c (by rintro rfl; exact h.SF x _ hbS hc)
 have hdcs : dcs'.length = dcs.length := by rw [RV.length _ _ _ hv, RV.length _ _ _ g4, hwd]
 have hput := e6 w' d' dcs' Sn hFb (fun c _ hne => hoth c hne) hb' hwd
  (RV.frame hFb _ _ _ (fun c hc => hoth c (by rintro rfl; exact hS x _ hc hbS)) hv) (fun c hc hsc => hS x c hc (g1 _ hsc))
 obtain ⟨k, q', rfl⟩ : ∃ k q', q = k :: q' := by
  cases q with
  | nil => simp [AV.cross] at hc
  | cons k q => exact ⟨k, q, rfl⟩
 have htop : ∀ v, shp (s x) v → shp (AV.put (k :: q') d' (s x)) v := by
  intro v hv
  rcases put_cons k q' d' (s x) with ⟨fs, gs, e1, e⟩ | ⟨fs, gs, e1, e⟩ | ⟨sz, xs, ys, e1, e⟩ | ⟨y, z, e1, e⟩ | e
  ·rw [e]; rw [e1] at hv; exact hv
  ·skip
   rw [e1] at hv hd hc ⊢
   simp only [AV.cross] at hc
   split at hc
   ·rename_i y hy
    simp only [AV.put, hy]
    cases q' with
    | nil => simp [AV.cross] at hc
    | cons k2 q2 =>
      simp only [shp] at hv ⊢
      obtain ⟨arr, rfl, hz, hall⟩ := hv
      refine ⟨arr, rfl, by simpa using hz, fun j e y' he hy' => ?_⟩
      rw [List.getElem?_set] at he
      split at he
      ·rename_i hjk
       subst hjk
       split at he
       ·simp only [Option.some.injEq] at he
        subst he
        obtain ⟨g1, g2, g3⟩ := hall _ y y' hy hy'
        simp only [AV.sub, hy] at hd
        exact ⟨shp1_put g1, ntuple_put g2, g3.trans (AV.put_wd (k2 :: q2) y d d' hd hwd).symm⟩
       ·cases he
      ·exact hall j e y' he hy'
   ·cases hc
  ·rw [e]; rw [e1] at hv; exact hv
  ·rw [e]; rw [e1] at hv; exact hv
  ·rw [e]; exact hv
 have htree : (AV.put (k :: q') d' (s x)).tree = true := by
  rcases put_cons k q' d' (s x) with ⟨fs, gs, e1, e⟩ | ⟨fs, gs, e1, e⟩ | ⟨sz, xs, ys, e1, e⟩ | ⟨y, z, e1, e⟩ | e <;> rw [e] <;> first | rfl | exact ht
 let s' := upd (pkS x s) x (AV.put (k :: q') d' (s x))
 have hB : ∀ y, y ≠ x → (s' y).tree = true → s' y = s y ∧ tm y = tm y := fun y hy ht => by
  have e : s' y = pk x (s y) := upd_ne _ _ hy
  rw [e] at ht ⊢
  exact ⟨(pk_tree_iff ht).2, rfl⟩
 have hR : (s' x).plain = false → (s x).plain = false ∧ ∀ v, shp (s x) v → shp (s' x) v := by
  intro _
  refine ⟨?_, ?_⟩
  ·cases hpx : (s x).plain with
   | false => rfl
   | true => rw [AV.cross_plain _ _ hpx] at hc; cases hc
  ·simp only [s', upd_same]; exact htop
 -- first the world turns under the old state with slot x made void, then the slot gets its new tree
 refine ⟨updS S x (fun c => Sc c ∨ Sn c), ?_⟩
 constructor
 case F0F => exact h.F0F
 case FF0 => exact h.FF0
 case Flt => exact fun b hb => by rw [hsz]; exact h.Flt b hb
 case Slt =>
  intro u c hb
  rw [hsz]
  simp only [updS] at hb
  split at hb
  ·rcases hb with hb | hb
   ·exact h.Slt x c (g1 c hb)
   ·exact hlt c hb
  ·exact h.Slt u c hb
 case SF =>
  intro u c hb
  simp only [updS] at hb
  split at hb
  ·rcases hb with hb | hb
   ·exact h.SF x c (g1 c hb)
   ·exact hF c hb
  ·exact h.SF u c hb
 case SS =>
  intro u y c hne hb hy
  simp only [updS] at hb hy
  split at hb
  ·rename_i hu
   rw [if_neg (fun e => hne (hu.trans e.symm))] at hy
   rcases hb with hb | hb
   ·exact h.SS x y c (fun e => hne (hu.trans e)) (g1 c hb) hy
   ·exact hS y c hb hy
  ·rename_i hu
   split at hy
   ·rcases hy with hy | hy
    ·exact h.SS u x c hu hb (g1 c hy)
    ·exact hS u c hy hb
   ·exact h.SS u y c hne hb hy
 case S0 =>
  intro u c hb
  simp only [updS] at hb
  split at hb
  ·rcases hb with hb | hb
   ·exact h.S0 x c (g1 c hb)
   ·exact h0 c hb
  ·exact h.S0 u c hb
 case sv =>
  intro u
  by_cases hu : u = x
  ·subst hu
   rw [upd_same, updS_same]
   exact (SV.of_tree htree).2 ⟨htop _ hx.1, hput⟩
  ·rw [upd_ne _ _ hu, updS_ne _ _ hu]
   have hne : ∀ y c, y ≠ x → S y c → w'.heap[c]? = w.heap[c]? := fun y c hy hc => hoth c (by rintro rfl; exact h.SS y x c hy hc hbS)
   refine (SV.pk hB rfl hR (fun y q2 d2 hy hd2 hp2 => ?_) hFb _).1 _ _ _ (Nat.le_refl _) (fun c hc => hne u c hu hc) (h.sv u)
   have hyv := h.sv y
   rw [SV.of_tree (tree_of_sub hd2 hp2)] at hyv
   exact fol_frame q2 _ _ _ none d2 hyv.2 hd2 (fun c hc => hne y c hy hc)
 case old =>
  intro c hlt hX
  by_cases hcb : c = b
  ·subst hcb
   exfalso
   rcases h.S0 x c hbS with hh | hh
   ·exact hX hh
   ·omega
  ·exact (hoth c hcb).trans (h.old c hlt hX)
 case size => rw [hsz]; exact h.size
 case os => exact hos.trans h.os
 case tape => exact htape.trans h.tape
 case output => exact hout.trans h.output
end
end Go.Fw
