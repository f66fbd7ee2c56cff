/- Part of a proof that a law returns true for every input. No condition. -/
import Derived.Test.YtgpmnlkgmadglaaGreatDoorFwA
import Derived.Laws.AppendOwn
import Derived.Calls
namespace Go.c0
inductive I where
 | hole
 | bool (b : Bool)
 | e_
 | int (k : IntKind) (n : Int)
 | str (s : List UInt8)
 | dv
 | bp
 | slice (xs : List I)
 | aP (sz : Nat) (xs : List I)
 | ref (d : I)
 | a7 (d : I)
 | agg (ax : List I)
 | tuple (vs : List I)
 | fn (f : FuncId) (cap : List I)
 | h (x : Nat) (q : List Nat)
 | ar (x : Nat) (q : List Nat)
 | ab (x : Nat) (k : Nat)
 deriving Inhabited
mutual
def I.wd : I → Nat
 | .agg ax => I.ek ax
 | .tuple ax => I.ek ax
 | _ => 1
def I.ek : List I → Nat
 | [] => 0
 | d :: ds => d.wd + I.ek ds
end
def h0 (w : World) (b o : Nat) (cs : List Value) : Prop := ∀ j c, cs[j]? = some c → w.cell? ⟨b, o + j, none⟩ = some c
def qk (fr : Nat × Nat) (n : Nat) : Prop := ∀ o, o < n → ¬ (fr.1 ≤ o ∧ o < fr.2)
def Value.gH : Value → Bool
 | .agg _ => false
 | .tuple _ => false
 | _ => true
def I.single : I → Bool
 | .agg _ => false
 | .tuple _ => false
 | .hole => false
 | _ => true
mutual
def au (w : World) (F : Nat → Prop) : I → List Value → (Nat → Prop) → Prop
 | .hole, cs, _ => ∃ v, Value.gH v = true ∧ cs = [v]
 | .bool b, cs, _ => cs = [.bool b]
 | .e_, cs, _ => ∃ b, cs = [.bool b]
 | .int k n, cs, _ => cs = [.int k n]
 | .str s, cs, _ => cs = [.string ⟨⟨s⟩⟩]
 | .dv, cs, _ => cs = [.pointer none]
 | .bp, cs, _ => cs = [.slice none 0 0]
 | .slice xs, cs, _ => (xs = [] ∧ ∃ a c, cs = [.slice a 0 c] ∧ c ≤ maxLen ∧ (a = none → c = 0)) ∨
   ∃ b o cap ew sz, cs = [.slice (some ⟨b, o, none⟩) xs.length cap] ∧ F b ∧ xs.length ≤ cap ∧ cap ≤ maxLen ∧ (∀ d ∈ xs, d.wd = sz) ∧
     h0 w b o ew ∧ a8 w F xs ew (fun _ => False)
 | .aP sz xs, cs, S => (xs = [] ∧ ∃ a, cs = [.slice a 0 0]) ∨
   ∃ b cap cur e fr aT, cs = [.slice (some ⟨b, 0, none⟩) xs.length cap] ∧ S b ∧ w.heap[b]? = some (.cells cur e fr) ∧ qk fr cur.size ∧
     xs.length ≤ cap ∧ cap ≤ maxLen ∧ cur.size = cap * sz ∧ (∀ d ∈ xs, d.wd = sz) ∧ a8 w F xs (cur.toList.take (xs.length * sz)) aT ∧ (∀ c, aT c → S c) ∧ ¬ aT b
 | .ref d, cs, _ => ∃ b o ew, cs = [.pointer (some ⟨b, o, none⟩)] ∧ F b ∧ h0 w b o ew ∧ au w F d ew (fun _ => False)
 | .a7 d, cs, S => ∃ b cur e fr aT, cs = [.pointer (some ⟨b, 0, none⟩)] ∧ S b ∧ w.heap[b]? = some (.cells cur e fr) ∧ qk fr cur.size ∧
   au w F d cur.toList aT ∧ (∀ c, aT c → S c) ∧ ¬ aT b
 | .agg ax, cs, S => a8 w F ax cs S
 | .tuple ax, cs, S => a8 w F ax cs S
 | .fn f caps, cs, _ => ∃ arr : Array Value, cs = [.func (.func f) #[] arr] ∧ (∀ d ∈ caps, d.single = true) ∧ a8 w F caps arr.toList (fun _ => False)
 | .h _ _, _, _ => False
 | .ar _ _, _, _ => False
 | .ab _ _, _, _ => False
def a8 (w : World) (F : Nat → Prop) : List I → List Value → (Nat → Prop) → Prop
 | [], cs, _ => cs = []
 | d :: ds, cs, S => ∃ cy cu b5 dG, cs = cy ++ cu ∧ au w F d cy b5 ∧ a8 w F ds cu dG ∧ (∀ b, b5 b → S b) ∧ (∀ b, dG b → S b) ∧ (∀ b, b5 b → ¬ dG b)
end
theorem cell?_of_block {w aL : World} {b : Nat} (h : aL.heap[b]? = w.heap[b]?) (o : Nat) : aL.cell? ⟨b, o, none⟩ = w.cell? ⟨b, o, none⟩ := by
 simp [World.cell?, h]
theorem h0.frame {w aL : World} {b o : Nat} {cs : List Value} (h : aL.heap[b]? = w.heap[b]?) (aV : h0 w b o cs) : h0 aL b o cs :=
 fun j c aw => (cell?_of_block h _).trans (aV j c aw)
mutual
theorem au.frame {w aL : World} {F : Nat → Prop} (bu : ∀ b, F b → aL.heap[b]? = w.heap[b]?) :
  ∀ (d : I) (cs : List Value) (S : Nat → Prop), (∀ b, S b → aL.heap[b]? = w.heap[b]?) → au w F d cs S → au aL F d cs S
 | .hole, _, _, _, h => h
 | .bool _, _, _, _, h => h
 | .e_, _, _, _, h => h
 | .int _ _, _, _, _, h => h
 | .str _, _, _, _, h => h
 | .dv, _, _, _, h => h
 | .bp, _, _, _, h => h
 | .slice xs, cs, S, b8, h => by
   rw [au] at h ⊢
   rcases h with h | ⟨b, o, cap, ew, sz, ag, ah, aI, a_, bN, cQ, c5⟩
   ·exact .inl h
   ·exact .inr ⟨b, o, cap, ew, sz, ag, ah, aI, a_, bN, cQ.frame (bu _ ah), a8.frame bu xs _ _ (fun _ h => h.elim) c5⟩
 | .aP sz xs, cs, S, b8, h => by
   rw [au] at h ⊢
   rcases h with h | ⟨b, cap, cur, e, fr, aT, ag, ah, aI, a_, bN, cQ, c5, fg, ie, h1, lk⟩
   ·exact .inl h
   ·exact .inr ⟨b, cap, cur, e, fr, aT, ag, ah, (b8 _ ah).trans aI, a_, bN, cQ, c5, fg, a8.frame bu xs _ _ (fun c aw => b8 _ (h1 _ aw)) ie, h1, lk⟩
 | .ref d, cs, S, b8, h => by
   rw [au] at h ⊢
   obtain ⟨b, o, ew, ag, ah, aI, a_⟩ := h
   exact ⟨b, o, ew, ag, ah, aI.frame (bu _ ah), au.frame bu d _ _ (fun _ h => h.elim) a_⟩
 | .a7 d, cs, S, b8, h => by
   rw [au] at h ⊢
   obtain ⟨b, cur, e, fr, aT, ag, ah, aI, a_, bN, cQ, c5⟩ := h
   exact ⟨b, cur, e, fr, aT, ag, ah, (b8 _ ah).trans aI, a_, au.frame bu d _ _ (fun c aw => b8 _ (cQ _ aw)) bN, cQ, c5⟩
 | .agg ax, cs, S, b8, h => by rw [au] at h ⊢; exact a8.frame bu ax _ _ b8 h
 | .tuple ax, cs, S, b8, h => by rw [au] at h ⊢; exact a8.frame bu ax _ _ b8 h
 | .fn _ caps, cs, S, b8, h => by
   rw [au] at h ⊢
   obtain ⟨arr, ag, ah, aI⟩ := h
   exact ⟨arr, ag, ah, a8.frame bu caps _ _ (fun _ h => h.elim) aI⟩
 | .h _ _, _, _, _, h => h
 | .ar _ _, _, _, _, h => h
 | .ab _ _, _, _, _, h => h
theorem a8.frame {w aL : World} {F : Nat → Prop} (bu : ∀ b, F b → aL.heap[b]? = w.heap[b]?) :
  ∀ (ds : List I) (cs : List Value) (S : Nat → Prop), (∀ b, S b → aL.heap[b]? = w.heap[b]?) → a8 w F ds cs S → a8 aL F ds cs S
 | [], _, _, _, h => h
 | d :: ds, cs, S, b8, h => by
   rw [a8] at h ⊢
   obtain ⟨cy, cu, b5, dG, ag, ah, aI, a_, bN, cQ⟩ := h
   exact ⟨cy, cu, b5, dG, ag, au.frame bu d _ _ (fun b ab => b8 _ (a_ _ ab)) ah, a8.frame bu ds _ _ (fun b ab => b8 _ (bN _ ab)) aI, a_, bN, cQ⟩
end
mutual
theorem au.mono {w : World} {F bL : Nat → Prop} (bu : ∀ b, F b → bL b) :
  ∀ (d : I) (cs : List Value) (S aT : Nat → Prop), (∀ b, S b → aT b) → au w F d cs S → au w bL d cs aT
 | .hole, _, _, _, _, h => h
 | .bool _, _, _, _, _, h => h
 | .e_, _, _, _, _, h => h
 | .int _ _, _, _, _, _, h => h
 | .str _, _, _, _, _, h => h
 | .dv, _, _, _, _, h => h
 | .bp, _, _, _, _, h => h
 | .slice xs, cs, S, _, b8, h => by
   rw [au] at h ⊢
   rcases h with h | ⟨b, o, cap, ew, sz, ag, ah, aI, a_, bN, cQ, c5⟩
   ·exact .inl h
   ·exact .inr ⟨b, o, cap, ew, sz, ag, bu _ ah, aI, a_, bN, cQ, a8.mono bu xs _ _ _ (fun _ h => h) c5⟩
 | .aP sz xs, cs, S, _, b8, h => by
   rw [au] at h ⊢
   rcases h with h | ⟨b, cap, cur, e, fr, aT, ag, ah, aI, a_, bN, cQ, c5, fg, ie, h1, lk⟩
   ·exact .inl h
   ·exact .inr ⟨b, cap, cur, e, fr, aT, ag, b8 _ ah, aI, a_, bN, cQ, c5, fg, a8.mono bu xs _ _ _ (fun _ h => h) ie, fun c aw => b8 _ (h1 _ aw), lk⟩
 | .ref d, cs, S, _, b8, h => by
   rw [au] at h ⊢
   obtain ⟨b, o, ew, ag, ah, aI, a_⟩ := h
   exact ⟨b, o, ew, ag, bu _ ah, aI, au.mono bu d _ _ _ (fun _ h => h) a_⟩
 | .a7 d, cs, S, _, b8, h => by
   rw [au] at h ⊢
   obtain ⟨b, cur, e, fr, aT, ag, ah, aI, a_, bN, cQ, c5⟩ := h
   exact ⟨b, cur, e, fr, aT, ag, b8 _ ah, aI, a_, au.mono bu d _ _ _ (fun _ h => h) bN, fun c aw => b8 _ (cQ _ aw), c5⟩
 | .agg ax, cs, S, _, b8, h => by rw [au] at h ⊢; exact a8.mono bu ax _ _ _ b8 h
 | .tuple ax, cs, S, _, b8, h => by rw [au] at h ⊢; exact a8.mono bu ax _ _ _ b8 h
 | .fn _ caps, cs, S, _, b8, h => by
   rw [au] at h ⊢
   obtain ⟨arr, ag, ah, aI⟩ := h
   exact ⟨arr, ag, ah, a8.mono bu caps _ _ _ (fun _ h => h) aI⟩
 | .h _ _, _, _, _, _, h => h
 | .ar _ _, _, _, _, _, h => h
 | .ab _ _, _, _, _, _, h => h
theorem a8.mono {w : World} {F bL : Nat → Prop} (bu : ∀ b, F b → bL b) :
  ∀ (ds : List I) (cs : List Value) (S aT : Nat → Prop), (∀ b, S b → aT b) → a8 w F ds cs S → a8 w bL ds cs aT
 | [], _, _, _, _, h => h
 | d :: ds, cs, S, _, b8, h => by
   rw [a8] at h ⊢
   obtain ⟨cy, cu, b5, dG, ag, ah, aI, a_, bN, cQ⟩ := h
   exact ⟨cy, cu, b5, dG, ag, au.mono bu d _ _ _ (fun _ h => h) ah, a8.mono bu ds _ _ _ (fun _ h => h) aI, fun b ab => b8 _ (a_ _ ab), fun b ab => b8 _ (bN _ ab), cQ⟩
end
mutual
theorem au.length {w : World} {F : Nat → Prop} : ∀ (d : I) (cs : List Value) (S : Nat → Prop), au w F d cs S → cs.length = d.wd
 | .hole, cs, S, h => by rw [au] at h; obtain ⟨v, _, rfl⟩ := h; rfl
 | .bool _, cs, S, h => by rw [au] at h; subst h; rfl
 | .e_, cs, S, h => by rw [au] at h; obtain ⟨b, rfl⟩ := h; rfl
 | .int _ _, cs, S, h => by rw [au] at h; subst h; rfl
 | .str _, cs, S, h => by rw [au] at h; subst h; rfl
 | .dv, cs, S, h => by rw [au] at h; subst h; rfl
 | .bp, cs, S, h => by rw [au] at h; subst h; rfl
 | .slice xs, cs, S, h => by
   rw [au] at h
   rcases h with ⟨_, a, c, rfl, _⟩ | ⟨b, o, cap, ew, sz, rfl, _⟩ <;> rfl
 | .aP sz xs, cs, S, h => by
   rw [au] at h
   rcases h with ⟨_, a, rfl⟩ | ⟨b, cap, cur, e, fr, aT, rfl, _⟩ <;> rfl
 | .ref d, cs, S, h => by rw [au] at h; obtain ⟨b, o, ew, rfl, _⟩ := h; rfl
 | .a7 d, cs, S, h => by rw [au] at h; obtain ⟨b, o, ew, _, _, rfl, _⟩ := h; rfl
 | .agg ax, cs, S, h => by rw [au] at h; exact a8.length ax _ _ h
 | .tuple ax, cs, S, h => by rw [au] at h; exact a8.length ax _ _ h
 | .fn _ _, cs, S, h => by rw [au] at h; obtain ⟨arr, rfl, _⟩ := h; rfl
 | .h _ _, cs, S, h => by rw [au] at h; exact h.elim
 | .ar _ _, cs, S, h => by rw [au] at h; exact h.elim
 | .ab _ _, cs, S, h => by rw [au] at h; exact h.elim
theorem a8.length {w : World} {F : Nat → Prop} : ∀ (ds : List I) (cs : List Value) (S : Nat → Prop), a8 w F ds cs S → cs.length = I.ek ds
 | [], cs, S, h => by rw [a8] at h; subst h; rfl
 | d :: ds, cs, S, h => by
   rw [a8] at h
   obtain ⟨cy, cu, b5, dG, rfl, ah, aI, _⟩ := h
   rw [List.length_append, au.length d _ _ ah, a8.length ds _ _ aI, I.ek]
end
mutual
def I.share : I → I
 | .aP _ xs => .slice (I.shares xs)
 | .a7 d => .ref d.share
 | .slice xs => .slice (I.shares xs)
 | .ref d => .ref d.share
 | .agg ax => .agg (I.shares ax)
 | .tuple ax => .tuple (I.shares ax)
 | d => d
def I.shares : List I → List I
 | [] => []
 | d :: ds => d.share :: I.shares ds
end
theorem I.rh (ds : List I) : I.shares ds = ds.map I.share := by
 induction ds with
 | nil => rfl
 | cons d ds ih => simp [I.shares, ih]
mutual
theorem I.ys : ∀ d : I, d.share.wd = d.wd
 | .hole => rfl
 | .bool _ => rfl
 | .e_ => rfl
 | .int _ _ => rfl
 | .str _ => rfl
 | .dv => rfl
 | .bp => rfl
 | .slice _ => rfl
 | .aP _ _ => rfl
 | .ref _ => rfl
 | .a7 _ => rfl
 | .agg ax => by simp only [I.share, I.wd]; exact I.Cr ax
 | .tuple ax => by simp only [I.share, I.wd]; exact I.Cr ax
 | .fn _ _ => rfl
 | .h _ _ => rfl
 | .ar _ _ => rfl
 | .ab _ _ => rfl
theorem I.Cr : ∀ ds : List I, I.ek (I.shares ds) = I.ek ds
 | [] => rfl
 | d :: ds => by simp only [I.shares, I.ek]; rw [I.ys d, I.Cr ds]
end
theorem s_ {w : World} {b : Nat} {cur : Array Value} {e : TypeId} {fr : Nat × Nat} (h : w.heap[b]? = some (.cells cur e fr)) (n : Nat) : h0 w b 0 (cur.toList.take n) := by
 intro j c aw
 rw [List.getElem?_take] at aw
 split at aw
 ·simp [World.cell?, h]; simpa using aw
 ·cases aw
mutual
theorem au.shared {w : World} {F bL : Nat → Prop} (bu : ∀ b, F b → bL b) :
  ∀ (d : I) (cs : List Value) (S : Nat → Prop), (∀ b, S b → bL b) → au w F d cs S → au w bL d.share cs (fun _ => False)
 | .hole, _, _, _, h => h
 | .bool _, _, _, _, h => h
 | .e_, _, _, _, h => h
 | .int _ _, _, _, _, h => h
 | .str _, _, _, _, h => h
 | .dv, _, _, _, h => h
 | .bp, _, _, _, h => h
 | .slice xs, cs, S, b8, h => by
   rw [I.share, au]
   rw [au] at h
   rcases h with ⟨rfl, a, c, rfl, aw⟩ | ⟨b, o, cap, ew, sz, ag, ah, aI, a_, bN, cQ, c5⟩
   ·exact .inl ⟨rfl, a, c, rfl, aw⟩
   ·refine .inr ⟨b, o, cap, ew, sz, ?_, bu _ ah, ?_, a_, ?_, cQ, a8.shared bu xs _ _ (fun _ h => h.elim) c5⟩
    ·simpa [I.rh] using ag
    ·simpa [I.rh] using aI
    ·intro d ai
     rw [I.rh] at ai
     obtain ⟨bz, hp, rfl⟩ := List.mem_map.1 ai
     rw [I.ys]; exact bN _ hp
 | .aP sz xs, cs, S, b8, h => by
   rw [I.share, au]
   rw [au] at h
   rcases h with ⟨rfl, a, rfl⟩ | ⟨b, cap, cur, e, fr, aT, ag, ah, aI, a_, bN, cQ, c5, fg, ie, h1, lk⟩
   ·exact .inl ⟨rfl, a, 0, rfl, Nat.zero_le _, fun _ => rfl⟩
   ·refine .inr ⟨b, 0, cap, _, sz, ?_, b8 _ ah, ?_, cQ, ?_, s_ aI _, a8.shared bu xs _ _ (fun c aw => b8 _ (h1 _ aw)) ie⟩
    ·simpa [I.rh] using ag
    ·simpa [I.rh] using bN
    ·intro d ai
     rw [I.rh] at ai
     obtain ⟨bz, hp, rfl⟩ := List.mem_map.1 ai
     rw [I.ys]; exact fg _ hp
 | .ref d, cs, S, b8, h => by
   rw [I.share, au]
   rw [au] at h
   obtain ⟨b, o, ew, ag, ah, aI, a_⟩ := h
   exact ⟨b, o, ew, ag, bu _ ah, aI, au.shared bu d _ _ (fun _ h => h.elim) a_⟩
 | .a7 d, cs, S, b8, h => by
   rw [I.share, au]
   rw [au] at h
   obtain ⟨b, cur, e, fr, aT, ag, ah, aI, a_, bN, cQ, c5⟩ := h
   refine ⟨b, 0, cur.toList, ag, b8 _ ah, ?_, au.shared bu d _ _ (fun c aw => b8 _ (cQ _ aw)) bN⟩
   have := s_ aI cur.toList.length
   rwa [List.take_length] at this
 | .agg ax, cs, S, b8, h => by rw [I.share, au]; rw [au] at h; exact a8.shared bu ax _ _ b8 h
 | .tuple ax, cs, S, b8, h => by rw [I.share, au]; rw [au] at h; exact a8.shared bu ax _ _ b8 h
 | .fn f caps, cs, S, b8, h => by
   show au w bL (.fn f caps) cs _
   rw [au] at h ⊢
   obtain ⟨arr, ag, ah, aI⟩ := h
   exact ⟨arr, ag, ah, a8.mono bu caps _ _ _ (fun _ h => h) aI⟩
 | .h _ _, _, _, _, h => h
 | .ar _ _, _, _, _, h => h
 | .ab _ _, _, _, _, h => h
theorem a8.shared {w : World} {F bL : Nat → Prop} (bu : ∀ b, F b → bL b) :
  ∀ (ds : List I) (cs : List Value) (S : Nat → Prop), (∀ b, S b → bL b) → a8 w F ds cs S → a8 w bL (I.shares ds) cs (fun _ => False)
 | [], _, _, _, h => h
 | d :: ds, cs, S, b8, h => by
   simp only [I.shares]
   rw [a8] at h ⊢
   obtain ⟨cy, cu, b5, dG, ag, ah, aI, a_, bN, cQ⟩ := h
   exact ⟨cy, cu, _, _, ag, au.shared bu d _ _ (fun b ab => b8 _ (a_ _ ab)) ah, a8.shared bu ds _ _ (fun b ab => b8 _ (bN _ ab)) aI, fun _ h => h, fun _ h => h, fun _ h => h.elim⟩
end
def I.sub : List Nat → I → Option I
 | [], d => some d
 | k :: q, .agg ax => match ax[k]? with
   | some d => I.sub q d
   | none => none
 | k :: q, .tuple ax => match ax[k]? with
   | some d => I.sub q d
   | none => none
 | i :: q, .aP _ xs => match xs[i]? with
   | some d => I.sub q d
   | none => none
 | 0 :: q, .a7 d => I.sub q d
 | _ :: _, _ => none
def I.put : List Nat → I → I → I
 | [], n, _ => n
 | k :: q, n, .agg ax => match ax[k]? with
   | some d => .agg (ax.set k (I.put q n d))
   | none => .agg ax
 | k :: q, n, .tuple ax => match ax[k]? with
   | some d => .tuple (ax.set k (I.put q n d))
   | none => .tuple ax
 | i :: q, n, .aP sz xs => match xs[i]? with
   | some d => .aP sz (xs.set i (I.put q n d))
   | none => .aP sz xs
 | 0 :: q, n, .a7 d => .a7 (I.put q n d)
 | _ :: _, _, d => d
def mx (w : World) (b o n : Nat) : List Value := (List.range n).map fun j => (w.cell? ⟨b, o + j, none⟩).getD undef
theorem h0.mx {w : World} {b o : Nat} {cs : List Value} (h : h0 w b o cs) : mx w b o cs.length = cs := by
 unfold c0.mx
 apply List.ext_getElem?
 intro i
 rw [List.getElem?_map]
 by_cases al : i < cs.length
 ·have : cs[i]? = some cs[i] := List.getElem?_eq_getElem al
  simp [al, h i _ this]
 ·simp [al]
def dp (w : World) : List Nat → I → List Value → Option (Nat × Nat) → Option (I × List Value × Option (Nat × Nat))
 | [], d, cs, a => some (d, cs, a)
 | k :: q, .agg ax, cs, a => match ax[k]? with
   | some d => dp w q d ((cs.drop (I.ek (ax.take k))).take d.wd) (a.map fun l => (l.1, l.2 + I.ek (ax.take k)))
   | none => none
 | k :: q, .tuple ax, cs, a => match ax[k]? with
   | some d => dp w q d ((cs.drop (I.ek (ax.take k))).take d.wd) (a.map fun l => (l.1, l.2 + I.ek (ax.take k)))
   | none => none
 | i :: q, .aP sz xs, cs, _ => match xs[i]?, cs with
   | some d, [.slice (some ⟨b, _, _⟩) _ _] => dp w q d (mx w b (i * sz) sz) (some (b, i * sz))
   | _, _ => none
 | 0 :: q, .a7 d, cs, _ => match cs with
   | [.pointer (some ⟨b, _, _⟩)] => dp w q d (mx w b 0 d.wd) (some (b, 0))
   | _ => none
 | _ :: _, _, _, _ => none
theorem ri (cy fS cu : List Value) (n m : Nat) (ag : cy.length = n) (ah : fS.length = m) : ((cy ++ (fS ++ cu)).drop n).take m = fS := by
 rw [List.drop_left' ag, List.take_left' ah]
theorem a8.pick {w : World} {F : Nat → Prop} : ∀ (ds : List I) (cs : List Value) (S : Nat → Prop) (k : Nat) (d : I),
  a8 w F ds cs S → ds[k]? = some d → ∃ (cy fS cu : List Value) (b5 h2 : Nat → Prop), cs = cy ++ (fS ++ cu) ∧ cy.length = I.ek (ds.take k) ∧
   (∀ b, b5 b → S b) ∧ (∀ b, h2 b → S b) ∧ (∀ b, b5 b → ¬ h2 b) ∧ au w F d fS h2 ∧
   ∀ (aL : World) (bz : I) (rj : List Value) (aT : Nat → Prop), (∀ b, F b → aL.heap[b]? = w.heap[b]?) → (∀ b, b5 b → aL.heap[b]? = w.heap[b]?) →
     au aL F bz rj aT → (∀ b, aT b → ¬ b5 b) → a8 aL F (ds.set k bz) (cy ++ (rj ++ cu)) (fun b => b5 b ∨ aT b)
 | [], _, _, _, _, _, az => by simp at az
 | x :: ds, cs, S, 0, d, h, az => by
   rw [a8] at h
   obtain ⟨cy, cu, hK, gP, rfl, ag, ah, b_, ab, lB⟩ := h
   simp at az; subst az
   refine ⟨[], cy, cu, gP, hK, rfl, rfl, ab, b_, fun b ab b_ => lB _ b_ ab, ag, ?_⟩
   intro aL bz rj aT bu b8 ai jl
   simp only [List.set_cons_zero, List.nil_append]
   rw [a8]
   exact ⟨rj, cu, aT, gP, rfl, ai, a8.frame bu _ _ _ b8 ah, fun b h => .inr h, fun b h => .inl h, fun b h => jl b h⟩
 | x :: ds, cs, S, k + 1, d, h, az => by
   rw [a8] at h
   obtain ⟨my, OH, hK, gP, rfl, ag, ah, b_, ab, lB⟩ := h
   simp only [List.getElem?_cons_succ] at az
   have aR := au.length _ _ _ ag
   obtain ⟨cy, fS, cu, b5, h2, rfl, i0, yt, i2, i3, i5, Cs⟩ := a8.pick ds OH gP k d ah az
   refine ⟨my ++ cy, fS, cu, fun b => hK b ∨ b5 b, h2, by simp, by simp [I.ek, aR, i0], ?_, fun b h => ab _ (i2 _ h), ?_, i5, ?_⟩
   ·rintro b (h | h)
    ·exact b_ _ h
    ·exact ab _ (yt _ h)
   ·rintro b (h | h) az
    ·exact lB _ h (i2 _ az)
    ·exact i3 _ h az
   ·intro aL bz rj aT bu b8 ai jl
    simp only [List.set_cons_succ]
    rw [a8]
    refine ⟨my, cy ++ (rj ++ cu), hK, fun b => b5 b ∨ aT b, by simp, au.frame bu _ _ _ (fun b ab => b8 b (.inl ab)) ag,
     Cs aL bz rj aT bu (fun b ab => b8 b (.inr ab)) ai (fun b ab aw => jl b ab (.inr aw)), fun b h => .inl (.inl h), ?_, ?_⟩
    ·rintro b (h | h)
     ·exact .inl (.inr h)
     ·exact .inr h
    ·rintro b h (bx | bx)
     ·exact lB _ h (yt _ bx)
     ·exact jl _ bx (.inl h)
theorem Ct : ∀ (ax : List I) (k : Nat) (x y : I), ax[k]? = some x → y.wd = x.wd → I.ek (ax.set k y) = I.ek ax := by
 intro ax
 induction ax with
 | nil => intro k x y h; simp at h
 | cons a ax ih =>
   intro k x y h e
   cases k with
   | zero => simp at h; subst h; simp [I.ek, e]
   | succ k => simp at h; simp [I.ek, ih k x y h e]
theorem rk {sz : Nat} : ∀ (xs : List I), (∀ d ∈ xs, d.wd = sz) → I.ek xs = xs.length * sz
 | [], _ => by simp [I.ek]
 | x :: xs, h => by
   rw [I.ek, h x (by simp), rk xs (fun d ai => h d (by simp [ai])), List.length_cons, Nat.add_mul, Nat.one_mul, Nat.add_comm]
theorem I.ta : ∀ (q : List Nat) (av d bz : I), I.sub q av = some d → bz.wd = d.wd → (I.put q bz av).wd = av.wd := by
 intro q
 induction q with
 | nil => intro av d bz h e; simp [I.sub] at h; subst h; simpa [I.put] using e
 | cons k q ih =>
   intro av d bz h e
   cases av with
   | agg ax =>
     simp only [I.sub] at h
     split at h
     ·rename_i x aq
      simp only [I.put, aq, I.wd]
      exact Ct _ _ _ _ aq (ih _ _ _ h e)
     ·cases h
   | tuple ax =>
     simp only [I.sub] at h
     split at h
     ·rename_i x aq
      simp only [I.put, aq, I.wd]
      exact Ct _ _ _ _ aq (ih _ _ _ h e)
     ·cases h
   | aP sz xs =>
     simp only [I.sub] at h
     split at h
     ·rename_i x aq
      simp only [I.put, aq, I.wd]
     ·cases h
   | a7 x =>
     cases k with
     | zero => simp only [I.put, I.wd]
     | succ k => simp [I.sub] at h
   | _ => simp [I.sub] at h
theorem Cu {sz : Nat} {xs : List I} {i : Nat} {y : I} (h : ∀ d ∈ xs, d.wd = sz) (bt : y.wd = sz) : ∀ d ∈ xs.set i y, d.wd = sz := by
 intro d ai
 rcases List.mem_or_eq_of_mem_set ai with ai | rfl
 ·exact h d ai
 ·exact bt
theorem tb {w : World} {b : Nat} {cur : Array Value} {e : TypeId} {fr : Nat × Nat} (h : w.heap[b]? = some (.cells cur e fr)) {l m r : List Value} (aw : cur.toList = l ++ (m ++ r)) :
  mx w b l.length m.length = m := by
 refine h0.mx (fun j c b3 => ?_)
 have fa : j < m.length := (List.getElem?_eq_some_iff.1 b3).1
 have : cur.toList[l.length + j]? = some c := by
  rw [aw, List.getElem?_append_right (by omega), List.getElem?_append_left (by omega)]
  rw [← b3]; congr 1; omega
 simp [World.cell?, h]
 simpa using this
def Flat (w : World) (F : Nat → Prop) (q : List Nat) (av : I) (cs : List Value) (a : Option (Nat × Nat)) (d : I) (c6 : List Value) (cK : Option (Nat × Nat)) (eR : Nat → Prop) : Prop :=
 ∃ l r : List Value, cs = l ++ (c6 ++ r) ∧ cK = a.map (fun x => (x.1, x.2 + l.length)) ∧
   ∀ (aL : World) (bz : I) (gd : List Value) (aT : Nat → Prop), (∀ b, F b → aL.heap[b]? = w.heap[b]?) → (∀ b, eR b → aL.heap[b]? = w.heap[b]?) →
     bz.wd = d.wd → au aL F bz gd aT → (∀ b, aT b → ¬ eR b) → au aL F (I.put q bz av) (l ++ (gd ++ r)) (fun b => eR b ∨ aT b)
def Deep (w : World) (F : Nat → Prop) (q : List Nat) (av : I) (cs : List Value) (d : I) (c6 : List Value) (cK : Option (Nat × Nat)) (eR : Nat → Prop) : Prop :=
 ∃ (b : Nat) (cur : Array Value) (e : TypeId) (fr : Nat × Nat) (l r : List Value), cK = some (b, l.length) ∧ eR b ∧ w.heap[b]? = some (.cells cur e fr) ∧ qk fr cur.size ∧ cur.toList = l ++ (c6 ++ r) ∧
   ∀ (aL : World) (bz : I) (gd : List Value) (aT : Nat → Prop), (∀ b, F b → aL.heap[b]? = w.heap[b]?) → (∀ c, eR c → c ≠ b → aL.heap[c]? = w.heap[c]?) →
     aL.heap[b]? = some (.cells (l ++ (gd ++ r)).toArray e fr) →
     bz.wd = d.wd → au aL F bz gd aT → (∀ b, aT b → ¬ eR b) → au aL F (I.put q bz av) cs (fun b => eR b ∨ aT b)
theorem ctx {w : World} {F : Nat → Prop} : ∀ (q : List Nat) (av : I) (cs : List Value) (S : Nat → Prop) (a : Option (Nat × Nat)) (d : I),
  au w F av cs S → I.sub q av = some d → ∃ (c6 : List Value) (cK : Option (Nat × Nat)) (eR hh : Nat → Prop), dp w q av cs a = some (d, c6, cK) ∧
   (∀ b, eR b → S b) ∧ (∀ b, hh b → S b) ∧ (∀ b, eR b → ¬ hh b) ∧ au w F d c6 hh ∧ (Flat w F q av cs a d c6 cK eR ∨ Deep w F q av cs d c6 cK eR) := by
 intro q
 induction q with
 | nil =>
   intro av cs S a d h ai
   simp [I.sub] at ai; subst ai
   refine ⟨cs, a, fun _ => False, S, rfl, fun _ h => h.elim, fun _ h => h, fun _ h => h.elim, h, .inl ⟨[], [], by simp, ?_, ?_⟩⟩
   ·cases a <;> simp
   ·intro aL bz gd aT _ _ hw hp _
    simp only [I.put, List.nil_append, List.append_nil]
    exact au.mono (fun _ h => h) _ _ _ _ (fun b h => .inr h) hp
 | cons k q ih =>
   have fields : ∀ (mk : List I → I) (Cv : ∀ (w : World) (F : Nat → Prop) (ax : List I) (cs : List Value) (S : Nat → Prop), au w F (mk ax) cs S = a8 w F ax cs S) (ax : List I) (cs : List Value) (S : Nat → Prop) (a : Option (Nat × Nat)) (x d : I),
     (kF : ∀ bz, I.put (k :: q) bz (mk ax) = mk (ax.set k (I.put q bz x))) → a8 w F ax cs S → ax[k]? = some x → I.sub q x = some d →
     ∃ (c6 : List Value) (cK : Option (Nat × Nat)) (eR hh : Nat → Prop), dp w q x ((cs.drop (I.ek (ax.take k))).take x.wd) (a.map fun l => (l.1, l.2 + I.ek (ax.take k))) = some (d, c6, cK) ∧
     (∀ b, eR b → S b) ∧ (∀ b, hh b → S b) ∧ (∀ b, eR b → ¬ hh b) ∧ au w F d c6 hh ∧ (Flat w F (k :: q) (mk ax) cs a d c6 cK eR ∨ Deep w F (k :: q) (mk ax) cs d c6 cK eR) := by
    intro mk Cv ax cs S a x d kF h aq ai
    obtain ⟨cy, fS, cu, b5, h2, rfl, hL, fp, gW, h3, gf, lC⟩ := a8.pick ax cs S k x h aq
    have aR := au.length _ _ _ gf
    rw [ri cy fS cu _ _ hL aR]
    obtain ⟨c6, cK, eR, hh, g0, g1, g2, g3, g4, g5⟩ := ih x _ h2 (a.map fun l => (l.1, l.2 + I.ek (ax.take k))) d gf ai
    refine ⟨c6, cK, fun b => b5 b ∨ eR b, hh, g0, ?_, fun b ab => gW _ (g2 _ ab), ?_, g4, ?_⟩
    ·rintro b (h | h)
     ·exact fp _ h
     ·exact gW _ (g1 _ h)
    ·rintro b (h | h) ai
     ·exact h3 _ h (g2 _ ai)
     ·exact g3 _ h ai
    ·have fh : ∀ (b : Nat) (aT : Nat → Prop), (b5 b ∨ eR b ∨ aT b) → ((b5 b ∨ eR b) ∨ aT b) := by
      rintro b aT (ab | ab | ab)
      ·exact .inl (.inl ab)
      ·exact .inl (.inr ab)
      ·exact .inr ab
     rcases g5 with ⟨l, r, rfl, aX, aQ⟩ | ⟨b, cur, e, fr, l, r, aS, aX, aQ, ca, cR, bZ⟩
     ·refine .inl ⟨cy ++ l, r ++ cu, by simp, ?_, ?_⟩
      ·rw [aX, ← hL]; cases a <;> simp [Nat.add_assoc]
      ·intro aL bz gd aT bu b8 hw hp jl
       have dB := aQ aL bz gd aT bu (fun b ab => b8 b (.inr ab)) hw hp (fun b ab aw => jl b ab (.inr aw))
       have bg := lC aL _ _ _ bu (fun b ab => b8 b (.inl ab)) dB (by
        rintro b (ab | ab) ag
        ·exact h3 _ ag (g1 _ ab)
        ·exact jl _ ab (.inl ag))
       rw [kF, Cv]
       have := a8.mono (fun _ h => h) _ _ _ _ (fun b => fh b aT) bg
       simpa using this
     ·refine .inr ⟨b, cur, e, fr, l, r, aS, .inr aX, aQ, ca, cR, ?_⟩
      intro aL bz gd aT bu b8 lD hw hp jl
      have dB := bZ aL bz gd aT bu (fun c aw => b8 c (.inr aw)) lD hw hp (fun b ab aw => jl b ab (.inr aw))
      have bg := lC aL _ _ _ bu (fun c aw => b8 c (.inl aw) (by rintro rfl; exact h3 _ aw (g1 _ aX))) dB (by
        rintro b (ab | ab) ag
        ·exact h3 _ ag (g1 _ ab)
        ·exact jl _ ab (.inl ag))
      rw [kF, Cv]
      exact a8.mono (fun _ h => h) _ _ _ _ (fun b => fh b aT) bg
   intro av cs S a d h ai
   cases av with
   | agg ax =>
     simp only [I.sub] at ai
     split at ai
     ·rename_i x aq
      rw [au] at h
      have := fields .agg (fun _ _ _ _ _ => by rw [au]) ax cs S a x d (fun bz => by simp only [I.put, aq]) h aq ai
      simpa only [dp, aq] using this
     ·cases ai
   | tuple ax =>
     simp only [I.sub] at ai
     split at ai
     ·rename_i x aq
      rw [au] at h
      have := fields .tuple (fun _ _ _ _ _ => by rw [au]) ax cs S a x d (fun bz => by simp only [I.put, aq]) h aq ai
      simpa only [dp, aq] using this
     ·cases ai
   | aP sz xs =>
     simp only [I.sub] at ai
     split at ai
     ·rename_i x aq
      rw [au] at h
      rcases h with ⟨rfl, _, rfl⟩ | ⟨b, cap, cur, e, fr, eh, rfl, ah, aI, a_, bN, cQ, c5, fg, ie, h1, lk⟩
      ·simp at aq
      ·obtain ⟨cy, fS, cu, b5, h2, p, hL, fp, gW, h3, gf, lC⟩ := a8.pick xs _ eh k x ie aq
       have aR := au.length _ _ _ gf
       have OI : k < xs.length := (List.getElem?_eq_some_iff.1 aq).1
       have vj : x.wd = sz := fg x (List.mem_of_getElem? aq)
       have cg : I.ek (xs.take k) = k * sz := by
        rw [rk _ (fun d ai => fg d (List.mem_of_mem_take ai))]
        rw [List.length_take, Nat.min_eq_left (by omega)]
       obtain ⟨pw, kT⟩ : ∃ pw, cur.toList = cy ++ (fS ++ (cu ++ pw)) := by
        refine ⟨cur.toList.drop (xs.length * sz), ?_⟩
        have := (List.take_append_drop (xs.length * sz) cur.toList).symm
        rw [p] at this
        simpa using this
       have jV : mx w b (k * sz) sz = fS := by
        have := tb aI kT
        rwa [hL, cg, aR, vj] at this
       obtain ⟨c6, cK, eR, hh, g0, g1, g2, g3, g4, g5⟩ := ih x _ h2 (some (b, k * sz)) d gf ai
       have kF : ∀ bz, I.put (k :: q) bz (.aP sz xs) = .aP sz (xs.set k (I.put q bz x)) := fun bz => by simp only [I.put, aq]
       refine ⟨c6, cK, fun c => c = b ∨ b5 c ∨ eR c, hh, ?_, ?_, fun c aw => h1 _ (gW _ (g2 _ aw)), ?_, g4, .inr ?_⟩
       ·simp only [dp, aq, jV]; exact g0
       ·rintro c (rfl | h | h)
        ·exact ah
        ·exact h1 _ (fp _ h)
        ·exact h1 _ (gW _ (g1 _ h))
       ·rintro c (rfl | h | h) ai
        ·exact lk (gW _ (g2 _ ai))
        ·exact h3 _ h (g2 _ ai)
        ·exact g3 _ h ai
       ·have l5 : ∀ bz, bz.wd = d.wd → (I.put q bz x).wd = sz := fun bz hw => (I.ta q x d bz ai hw).trans vj
        rcases g5 with ⟨l, r, rfl, aX, aQ⟩ | ⟨fJ, Cw, gI, Cx, l, r, aS, aX, aQ, ca, cR, bZ⟩
        ·refine ⟨b, cur, e, fr, cy ++ l, r ++ (cu ++ pw), ?_, .inl rfl, aI, a_, ?_, ?_⟩
         ·rw [aX]; simp [hL, cg]
         ·rw [kT]; simp
         ·intro aL bz gd aT bu b8 lD hw hp jl
          have dB := aQ aL bz gd aT bu (fun c aw => b8 c (.inr (.inr aw)) (by rintro rfl; exact lk (gW _ (g1 _ aw)))) hw hp (fun b ab aw => jl b ab (.inr (.inr aw)))
          have bg := lC aL _ _ _ bu (fun c aw => b8 c (.inr (.inl aw)) (by rintro rfl; exact lk (fp _ aw))) dB (by
           rintro b (ab | ab) ag
           ·exact h3 _ ag (g1 _ ab)
           ·exact jl _ ab (.inr (.inl ag)))
          have vk := au.length _ _ _ hp
          have vl := au.length _ _ _ g4
          rw [kF, au]
          refine .inr ⟨b, cap, _, e, fr, fun b => b5 b ∨ eR b ∨ aT b, by simp, .inl (.inl rfl), lD, ?_, by simpa using bN, cQ, ?_, Cu fg (l5 bz hw), ?_, ?_, ?_⟩
          ·have : (cy ++ l ++ (gd ++ (r ++ (cu ++ pw)))).toArray.size = cur.size := by
            have : cur.size = cur.toList.length := by simp
            rw [this, kT]; simp [vk, vl, hw]
           rw [this]; exact a_
          ·rw [← c5]
           have : cur.size = cur.toList.length := by simp
           rw [this, kT]; simp [vk, vl, hw]
          ·have hlen : (cy ++ (l ++ (gd ++ r) ++ cu)).length = xs.length * sz := by
            have := congrArg List.length p
            rw [List.length_take, Nat.min_eq_left (by simp [c5]; exact Nat.mul_le_mul_right _ bN)] at this
            rw [this]; simp [vk, vl, hw]
           have : (cy ++ l ++ (gd ++ (r ++ (cu ++ pw)))) = (cy ++ (l ++ (gd ++ r) ++ cu)) ++ pw := by simp
           rw [List.length_set]
           simp only [this]
           rw [List.take_left' hlen]
           exact bg
          ·rintro c (h | h | h)
           ·exact .inl (.inr (.inl h))
           ·exact .inl (.inr (.inr h))
           ·exact .inr h
          ·rintro (h | h | h)
           ·exact lk (fp _ h)
           ·exact lk (gW _ (g1 _ h))
           ·exact jl _ h (.inl rfl)
        ·refine ⟨fJ, Cw, gI, Cx, l, r, aS, .inr (.inr aX), aQ, ca, cR, ?_⟩
         intro aL bz gd aT bu b8 lD hw hp jl
         have dB := bZ aL bz gd aT bu (fun c aw dQ => b8 c (.inr (.inr aw)) dQ) lD hw hp (fun b ab aw => jl b ab (.inr (.inr aw)))
         have dQ : ∀ c, b5 c → c ≠ fJ := by rintro c aw rfl; exact h3 _ aw (g1 _ aX)
         have bg := lC aL _ _ _ bu (fun c aw => b8 c (.inr (.inl aw)) (dQ c aw)) dB (by
          rintro b (ab | ab) ag
          ·exact h3 _ ag (g1 _ ab)
          ·exact jl _ ab (.inr (.inl ag)))
         have Cy : b ≠ fJ := by rintro rfl; exact lk (gW _ (g1 _ aX))
         rw [kF, au]
         refine .inr ⟨b, cap, cur, e, fr, fun b => b5 b ∨ eR b ∨ aT b, by simp, .inl (.inl rfl), (b8 b (.inl rfl) Cy).trans aI, a_, by simpa using bN, cQ, c5, Cu fg (l5 bz hw), ?_, ?_, ?_⟩
         ·rw [List.length_set, p]; exact bg
         ·rintro c (h | h | h)
          ·exact .inl (.inr (.inl h))
          ·exact .inl (.inr (.inr h))
          ·exact .inr h
         ·rintro (h | h | h)
          ·exact lk (fp _ h)
          ·exact lk (gW _ (g1 _ h))
          ·exact jl _ h (.inl rfl)
     ·cases ai
   | a7 x =>
     cases k with
     | succ k => simp [I.sub] at ai
     | zero =>
       simp only [I.sub] at ai
       rw [au] at h
       obtain ⟨b, cur, e, fr, eh, rfl, ah, aI, a_, bN, cQ, c5⟩ := h
       have aR := au.length _ _ _ bN
       have jV : mx w b 0 x.wd = cur.toList := by
        have := tb (l := []) (m := cur.toList) (r := []) aI (by simp)
        rwa [aR] at this
       obtain ⟨c6, cK, eR, hh, g0, g1, g2, g3, g4, g5⟩ := ih x _ eh (some (b, 0)) d bN ai
       have kF : ∀ bz, I.put (0 :: q) bz (.a7 x) = .a7 (I.put q bz x) := fun bz => rfl
       refine ⟨c6, cK, fun c => c = b ∨ eR c, hh, ?_, ?_, fun c aw => cQ _ (g2 _ aw), ?_, g4, .inr ?_⟩
       ·simp only [dp, jV]; exact g0
       ·rintro c (rfl | h)
        ·exact ah
        ·exact cQ _ (g1 _ h)
       ·rintro c (rfl | h) ai
        ·exact c5 (g2 _ ai)
        ·exact g3 _ h ai
       ·rcases g5 with ⟨l, r, aS, aX, aQ⟩ | ⟨fJ, Cw, gI, Cx, l, r, aS, aX, aQ, ca, cR, bZ⟩
        ·refine ⟨b, cur, e, fr, l, r, ?_, .inl rfl, aI, a_, aS, ?_⟩
         ·rw [aX]; simp
         ·intro aL bz gd aT bu b8 lD hw hp jl
          have dB := aQ aL bz gd aT bu (fun c aw => b8 c (.inr aw) (by rintro rfl; exact c5 (g1 _ aw))) hw hp (fun b ab aw => jl b ab (.inr aw))
          have vk := au.length _ _ _ hp
          have vl := au.length _ _ _ g4
          rw [kF, au]
          refine ⟨b, _, e, fr, fun b => eR b ∨ aT b, rfl, .inl (.inl rfl), lD, ?_, dB, ?_, ?_⟩
          ·have : (l ++ (gd ++ r)).toArray.size = cur.size := by
            have : cur.size = cur.toList.length := by simp
            rw [this, aS]; simp [vk, vl, hw]
           rw [this]; exact a_
          ·rintro c (h | h)
           ·exact .inl (.inr h)
           ·exact .inr h
          ·rintro (h | h)
           ·exact c5 (g1 _ h)
           ·exact jl _ h (.inl rfl)
        ·refine ⟨fJ, Cw, gI, Cx, l, r, aS, .inr aX, aQ, ca, cR, ?_⟩
         intro aL bz gd aT bu b8 lD hw hp jl
         have dB := bZ aL bz gd aT bu (fun c aw dQ => b8 c (.inr aw) dQ) lD hw hp (fun b ab aw => jl b ab (.inr aw))
         have Cy : b ≠ fJ := by rintro rfl; exact c5 (g1 _ aX)
         rw [kF, au]
         refine ⟨b, cur, e, fr, fun b => eR b ∨ aT b, rfl, .inl (.inl rfl), (b8 b (.inl rfl) Cy).trans aI, a_, dB, ?_, ?_⟩
         ·rintro c (h | h)
          ·exact .inl (.inr h)
          ·exact .inr h
         ·rintro (h | h)
          ·exact c5 (g1 _ h)
          ·exact jl _ h (.inl rfl)
   | _ => simp [I.sub] at ai
mutual
def I.plain : I → Bool
 | .aP _ _ => false
 | .a7 _ => false
 | .agg ax => I.gh ax
 | .tuple ax => I.gh ax
 | _ => true
def I.gh : List I → Bool
 | [] => true
 | d :: ds => d.plain && I.gh ds
end
mutual
def I.de : I → I
 | .aP _ _ => .hole
 | .a7 _ => .hole
 | .agg ax => .agg (I.kU ax)
 | .tuple ax => .tuple (I.kU ax)
 | d => d
def I.kU : List I → List I
 | [] => []
 | d :: ds => d.de :: I.kU ds
end
mutual
theorem I.ql : ∀ d : I, d.de.wd = d.wd
 | .hole => rfl
 | .bool _ => rfl
 | .e_ => rfl
 | .int _ _ => rfl
 | .str _ => rfl
 | .dv => rfl
 | .bp => rfl
 | .slice _ => rfl
 | .aP _ _ => rfl
 | .ref _ => rfl
 | .a7 _ => rfl
 | .agg ax => by simp only [I.de, I.wd]; exact I.Cz ax
 | .tuple ax => by simp only [I.de, I.wd]; exact I.Cz ax
 | .fn _ _ => rfl
 | .h _ _ => rfl
 | .ar _ _ => rfl
 | .ab _ _ => rfl
theorem I.Cz : ∀ ds : List I, I.ek (I.kU ds) = I.ek ds
 | [] => rfl
 | d :: ds => by simp only [I.kU, I.ek]; rw [I.ql d, I.Cz ds]
end
mutual
theorem au.de {w : World} {F : Nat → Prop} : ∀ (d : I) (cs : List Value) (S aT : Nat → Prop), au w F d cs S → au w F d.de cs aT
 | .hole, _, _, _, h => h
 | .bool _, _, _, _, h => h
 | .e_, _, _, _, h => h
 | .int _ _, _, _, _, h => h
 | .str _, _, _, _, h => h
 | .dv, _, _, _, h => h
 | .bp, _, _, _, h => h
 | .slice xs, cs, S, aT, h => by
   show au w F (.slice xs) cs aT
   rw [au] at h ⊢; exact h
 | .aP sz xs, cs, S, aT, h => by
   rw [I.de, au]
   rw [au] at h
   rcases h with ⟨_, _, rfl⟩ | ⟨b, cap, cur, e, fr, eh, rfl, _⟩
   ·exact ⟨_, rfl, rfl⟩
   ·exact ⟨_, rfl, rfl⟩
 | .ref d, cs, S, aT, h => by
   show au w F (.ref d) cs aT
   rw [au] at h ⊢; exact h
 | .a7 d, cs, S, aT, h => by
   rw [I.de, au]
   rw [au] at h
   obtain ⟨b, cur, e, fr, eh, rfl, _⟩ := h
   exact ⟨_, rfl, rfl⟩
 | .agg ax, cs, S, aT, h => by rw [I.de, au]; rw [au] at h; exact a8.de ax _ _ _ h
 | .tuple ax, cs, S, aT, h => by rw [I.de, au]; rw [au] at h; exact a8.de ax _ _ _ h
 | .fn _ _, _, _, _, h => h
 | .h _ _, _, _, _, h => h
 | .ar _ _, _, _, _, h => h
 | .ab _ _, _, _, _, h => h
theorem a8.de {w : World} {F : Nat → Prop} : ∀ (ds : List I) (cs : List Value) (S aT : Nat → Prop), a8 w F ds cs S → a8 w F (I.kU ds) cs aT
 | [], _, _, _, h => h
 | d :: ds, cs, S, aT, h => by
   rw [I.kU, a8]
   rw [a8] at h
   obtain ⟨cy, cu, b5, dG, ag, ah, aI, a_, bN, cQ⟩ := h
   exact ⟨cy, cu, fun _ => False, fun _ => False, ag, au.de d _ _ _ ah, a8.de ds _ _ _ aI, fun _ h => h.elim, fun _ h => h.elim, fun _ h => h.elim⟩
end
mutual
theorem au.plain {w : World} {F : Nat → Prop} : ∀ (d : I) (cs : List Value) (S aT : Nat → Prop), d.plain = true → au w F d cs S → au w F d cs aT
 | .hole, _, _, _, _, h => h
 | .bool _, _, _, _, _, h => h
 | .e_, _, _, _, _, h => h
 | .int _ _, _, _, _, _, h => h
 | .str _, _, _, _, _, h => h
 | .dv, _, _, _, _, h => h
 | .bp, _, _, _, _, h => h
 | .slice xs, cs, S, aT, _, h => by rw [au] at h ⊢; exact h
 | .aP sz xs, cs, S, aT, ar, h => by simp [I.plain] at ar
 | .ref d, cs, S, aT, _, h => by rw [au] at h ⊢; exact h
 | .a7 d, cs, S, aT, ar, h => by simp [I.plain] at ar
 | .agg ax, cs, S, aT, ar, h => by rw [au] at h ⊢; exact a8.plain ax _ _ _ ar h
 | .tuple ax, cs, S, aT, ar, h => by rw [au] at h ⊢; exact a8.plain ax _ _ _ ar h
 | .fn _ _, _, _, _, _, h => h
 | .h _ _, _, _, _, _, h => h
 | .ar _ _, _, _, _, _, h => h
 | .ab _ _, _, _, _, _, h => h
theorem a8.plain {w : World} {F : Nat → Prop} : ∀ (ds : List I) (cs : List Value) (S aT : Nat → Prop), I.gh ds = true → a8 w F ds cs S → a8 w F ds cs aT
 | [], _, _, _, _, h => h
 | d :: ds, cs, S, aT, ar, h => by
   rw [a8] at h ⊢
   simp only [I.gh, Bool.and_eq_true] at ar
   obtain ⟨cy, cu, b5, dG, ag, ah, aI, a_, bN, cQ⟩ := h
   exact ⟨cy, cu, fun _ => False, fun _ => False, ag, au.plain d _ _ _ ar.1 ah, a8.plain ds _ _ _ ar.2 aI, fun _ h => h.elim, fun _ h => h.elim, fun _ h => h.elim⟩
end
def I.ft : List Nat → I → Bool
 | [], _ => false
 | k :: q, .agg ax => match ax[k]? with
   | some d => I.ft q d
   | none => false
 | k :: q, .tuple ax => match ax[k]? with
   | some d => I.ft q d
   | none => false
 | _ :: _, .aP _ _ => true
 | _ :: _, .a7 _ => true
 | _ :: _, _ => false
theorem yu {ax : List I} (h : I.gh ax = true) {k : Nat} {d : I} (az : ax[k]? = some d) : d.plain = true := by
 induction ax generalizing k with
 | nil => simp at az
 | cons a ax ih =>
   simp only [I.gh, Bool.and_eq_true] at h
   cases k with
   | zero => simp at az; subst az; exact h.1
   | succ k => simp at az; exact ih h.2 az
theorem I.GP : ∀ (q : List Nat) (d : I), d.plain = true → I.ft q d = false := by
 intro q
 induction q with
 | nil => intros; rfl
 | cons k q ih =>
   intro d ai
   cases d <;> first | rfl | (simp [I.plain] at ai; done) | skip
   all_goals
    simp only [I.ft]
    split
    ·rename_i ax x aq; exact ih _ (yu (by simpa [I.plain] using ai) aq)
    ·rfl
theorem I.GQ : ∀ (q : List Nat) (d e : I), d.plain = true → I.sub q d = some e → e.plain = true := by
 intro q
 induction q with
 | nil => intro d e ai h; simp [I.sub] at h; exact h ▸ ai
 | cons k q ih =>
   intro d e ai h
   cases d <;> first | (simp [I.plain] at ai; done) | (simp [I.sub] at h; done) | skip
   all_goals
    simp only [I.sub] at h
    split at h
    ·rename_i ax x aq; exact ih _ _ (yu (by simpa [I.plain] using ai) aq) h
    ·cases h
theorem CA {w aL : World} {F : Nat → Prop} : ∀ (q : List Nat) (av : I) (cs : List Value) (S : Nat → Prop) (a : Option (Nat × Nat)) (d : I),
  au w F av cs S → I.sub q av = some d → (∀ b, S b → aL.heap[b]? = w.heap[b]?) → dp aL q av cs a = dp w q av cs a := by
 intro q
 induction q with
 | nil => intros; rfl
 | cons k q ih =>
   have fields : ∀ (ax : List I) (cs : List Value) (S : Nat → Prop) (a : Option (Nat × Nat)) (x d : I), a8 w F ax cs S → ax[k]? = some x → I.sub q x = some d →
     (∀ b, S b → aL.heap[b]? = w.heap[b]?) →
     dp aL q x ((cs.drop (I.ek (ax.take k))).take x.wd) (a.map fun l => (l.1, l.2 + I.ek (ax.take k))) = dp w q x ((cs.drop (I.ek (ax.take k))).take x.wd) (a.map fun l => (l.1, l.2 + I.ek (ax.take k))) := by
    intro ax cs S a x d h aq ai b8
    obtain ⟨cy, fS, cu, b5, h2, rfl, hL, fp, gW, h3, gf, lC⟩ := a8.pick ax cs S k x h aq
    rw [ri cy fS cu _ _ hL (au.length _ _ _ gf)]
    exact ih x fS h2 _ d gf ai (fun b ab => b8 b (gW _ ab))
   intro av cs S a d h ai b8
   cases av with
   | agg ax =>
     simp only [I.sub] at ai
     split at ai
     ·rename_i x aq
      rw [au] at h
      simp only [dp, aq]
      exact fields ax cs S a x d h aq ai b8
     ·cases ai
   | tuple ax =>
     simp only [I.sub] at ai
     split at ai
     ·rename_i x aq
      rw [au] at h
      simp only [dp, aq]
      exact fields ax cs S a x d h aq ai b8
     ·cases ai
   | aP sz xs =>
     simp only [I.sub] at ai
     split at ai
     ·rename_i x aq
      rw [au] at h
      rcases h with ⟨rfl, _, rfl⟩ | ⟨b, cap, cur, e, fr, eh, rfl, ah, aI, a_, bN, cQ, c5, fg, ie, h1, lk⟩
      ·simp at aq
      ·obtain ⟨cy, fS, cu, b5, h2, p, hL, fp, gW, h3, gf, lC⟩ := a8.pick xs _ eh k x ie aq
       have aR := au.length _ _ _ gf
       have OI : k < xs.length := (List.getElem?_eq_some_iff.1 aq).1
       have vj : x.wd = sz := fg x (List.mem_of_getElem? aq)
       have cg : I.ek (xs.take k) = k * sz := by
        rw [rk _ (fun d ai => fg d (List.mem_of_mem_take ai))]
        rw [List.length_take, Nat.min_eq_left (by omega)]
       obtain ⟨pw, kT⟩ : ∃ pw, cur.toList = cy ++ (fS ++ (cu ++ pw)) := by
        refine ⟨cur.toList.drop (xs.length * sz), ?_⟩
        have := (List.take_append_drop (xs.length * sz) cur.toList).symm
        rw [p] at this
        simpa using this
       have jV : mx w b (k * sz) sz = fS := by
        have := tb aI kT
        rwa [hL, cg, aR, vj] at this
       have CB : mx aL b (k * sz) sz = fS := by
        have := tb ((b8 b ah).trans aI) kT
        rwa [hL, cg, aR, vj] at this
       simp only [dp, aq, jV, CB]
       exact ih x fS h2 _ d gf ai (fun c aw => b8 c (h1 _ (gW _ aw)))
     ·cases ai
   | a7 x =>
     cases k with
     | succ k => simp [I.sub] at ai
     | zero =>
       simp only [I.sub] at ai
       rw [au] at h
       obtain ⟨b, cur, e, fr, eh, rfl, ah, aI, a_, bN, cQ, c5⟩ := h
       have aR := au.length _ _ _ bN
       have jV : mx w b 0 x.wd = cur.toList := by
        have := tb (l := []) (m := cur.toList) (r := []) aI (by simp)
        rwa [aR] at this
       have CB : mx aL b 0 x.wd = cur.toList := by
        have := tb (l := []) (m := cur.toList) (r := []) ((b8 b ah).trans aI) (by simp)
        rwa [aR] at this
       simp only [dp, jV, CB]
       exact ih x cur.toList eh _ d bN ai (fun c aw => b8 c (cQ _ aw))
   | _ => simp [I.sub] at ai
def iy : Value → List Value
 | .agg cs => cs.toList
 | v => [v]
def cr : Value → List Value
 | .tuple vs => vs.toList.flatMap iy
 | v => iy v
def iO : I → Value → Prop
 | .agg _, v => ∃ arr, v = .agg arr
 | _, v => Value.gH v = true
def eo : I → Value → Prop
 | .tuple ds, v => ∃ arr : Array Value, v = .tuple arr ∧ arr.size = ds.length ∧ ∀ (k : Nat) (d : I) (x : Value), ds[k]? = some d → arr[k]? = some x → iO d x ∧ (∀ vs, d ≠ .tuple vs) ∧ (iy x).length = d.wd
 | d, v => iO d v
abbrev ao := Nat → I
mutual
def aG (w : World) (F : Nat → Prop) (s : ao) (aB : Nat → Value) : I → Value → (Nat → Prop) → Prop
 | .hole, _, _ => True
 | .h x q, v, _ => ∀ d, I.sub q (s x) = some d → d.plain = false → ∃ c6 a, dp w q (s x) (cr (aB x)) none = some (d, c6, a) ∧ cr v = c6 ∧ eo d v
 | .ar x q, v, _ => ∀ d, I.sub q (s x) = some d → I.ft q (s x) = true → ∃ c6 b o, dp w q (s x) (cr (aB x)) none = some (d, c6, some (b, o)) ∧ v = .pointer (some ⟨b, o, none⟩)
 | .ab x k, v, _ => (s x).plain = false → ∃ b cur e fr, v = .pointer (some ⟨b, k, none⟩) ∧ F b ∧ w.heap[b]? = some (.cells cur e fr) ∧ cur.toList = cr (aB x)
 | .fn f cap, v, _ => ∃ arr : Array Value, v = .func (.func f) #[] arr ∧ ei w F s aB cap arr.toList
 | .bool b, v, S => eo (.bool b) v ∧ au w F (.bool b) (cr v) S
 | .e_, v, S => eo .e_ v ∧ au w F .e_ (cr v) S
 | .int k n, v, S => eo (.int k n) v ∧ au w F (.int k n) (cr v) S
 | .str x, v, S => eo (.str x) v ∧ au w F (.str x) (cr v) S
 | .dv, v, S => eo .dv v ∧ au w F .dv (cr v) S
 | .bp, v, S => eo .bp v ∧ au w F .bp (cr v) S
 | .slice xs, v, S => eo (.slice xs) v ∧ au w F (.slice xs) (cr v) S
 | .aP sz xs, v, S => eo (.aP sz xs) v ∧ au w F (.aP sz xs) (cr v) S
 | .ref d, v, S => eo (.ref d) v ∧ au w F (.ref d) (cr v) S
 | .a7 d, v, S => eo (.a7 d) v ∧ au w F (.a7 d) (cr v) S
 | .agg d, v, S => eo (.agg d) v ∧ au w F (.agg d) (cr v) S
 | .tuple d, v, S => eo (.tuple d) v ∧ au w F (.tuple d) (cr v) S
def ei (w : World) (F : Nat → Prop) (s : ao) (aB : Nat → Value) : List I → List Value → Prop
 | [], vs => vs = []
 | d :: ds, vs => ∃ v jG, vs = v :: jG ∧ aG w F s aB d v (fun _ => False) ∧ ei w F s aB ds jG
end
def I.tree : I → Bool
 | .hole => false
 | .h _ _ => false
 | .ar _ _ => false
 | .ab _ _ => false
 | .fn _ _ => false
 | _ => true
theorem aG.cJ {w : World} {F : Nat → Prop} {s : ao} {aB : Nat → Value} {d : I} {v : Value} {S : Nat → Prop} (bb : d.tree = true) :
  aG w F s aB d v S ↔ (eo d v ∧ au w F d (cr v) S) := by
 cases d <;> first | (simp [I.tree] at bb; done) | rw [aG]
theorem iI {q : List Nat} {av d : I} (h : I.sub q av = some d) (ar : d.plain = false ∨ I.ft q av = true) : av.tree = true := by
 cases q with
 | nil =>
   simp [I.sub] at h; subst h
   rcases ar with ar | ar
   ·cases av <;> first | rfl | (simp [I.plain] at ar)
   ·simp [I.ft] at ar
 | cons k q => cases av <;> first | rfl | (simp [I.sub] at h)
theorem CC {d : I} (h : d.plain = false) : d.tree = true := iI (q := []) (by simp only [I.sub]) (.inl h)
theorem aG.frame {w aL : World} {F bL : Nat → Prop} {s : ao} {aB : Nat → Value} {Sx : Nat → Nat → Prop} (bu : ∀ b, F b → aL.heap[b]? = w.heap[b]?) (GR : ∀ b, F b → bL b)
  (b8 : ∀ x b, Sx x b → aL.heap[b]? = w.heap[b]?) (l6 : ∀ x, aG w F s aB (s x) (aB x) (Sx x)) :
  ∀ (d : I) (v : Value) (S : Nat → Prop), (∀ b, S b → aL.heap[b]? = w.heap[b]?) → aG w F s aB d v S → aG aL bL s aB d v S := by
 have kV : ∀ (x : Nat) (q : List Nat) (d : I), I.sub q (s x) = some d → (d.plain = false ∨ I.ft q (s x) = true) → dp aL q (s x) (cr (aB x)) none = dp w q (s x) (cr (aB x)) none := by
  intro x q d ai ar
  have bb := iI ai ar
  have := l6 x
  rw [aG.cJ bb] at this
  exact CA q _ _ (Sx x) none d this.2 ai (b8 x)
 have OJ : ∀ (d : I) (v : Value) (S : Nat → Prop), d.tree = true → (∀ b, S b → aL.heap[b]? = w.heap[b]?) → aG w F s aB d v S → aG aL bL s aB d v S := by
  intro d v S bb rl h
  rw [aG.cJ bb] at h ⊢
  exact ⟨h.1, au.mono GR _ _ _ _ (fun _ h => h) (au.frame bu _ _ _ rl h.2)⟩
 have step : ∀ n, (∀ (d : I) (v : Value) (S : Nat → Prop), SizeOf.sizeOf d ≤ n → (∀ b, S b → aL.heap[b]? = w.heap[b]?) → aG w F s aB d v S → aG aL bL s aB d v S) ∧
   (∀ (ds : List I) (vs : List Value), SizeOf.sizeOf ds ≤ n → ei w F s aB ds vs → ei aL bL s aB ds vs) := by
  intro n
  induction n with
  | zero =>
    refine ⟨fun d v S b6 => ?_, fun ds vs b6 => ?_⟩
    ·cases d <;> simp at b6 <;> omega
    ·cases ds <;> simp at b6 <;> omega
  | succ n ih =>
    refine ⟨fun d v S b6 rl h => ?_, fun ds vs b6 h => ?_⟩
    ·cases d with
     | hole => rw [aG]; trivial
     | h x q =>
       rw [aG] at h ⊢
       intro d ai ar
       rw [kV x q d ai (.inl ar)]
       exact h d ai ar
     | ar x q =>
       rw [aG] at h ⊢
       intro d ai ar
       rw [kV x q d ai (.inr ar)]
       exact h d ai ar
     | ab x k =>
       rw [aG] at h ⊢
       intro ar
       obtain ⟨b, cur, e, fr, ag, ah, aI, a_⟩ := h ar
       exact ⟨b, cur, e, fr, ag, GR b ah, (bu b ah).trans aI, a_⟩
     | fn f cap =>
       rw [aG] at h ⊢
       obtain ⟨arr, rfl, aw⟩ := h
       exact ⟨arr, rfl, ih.2 _ _ (by simp at b6; omega) aw⟩
     | _ => exact OJ _ _ _ rfl rl h
    ·cases ds with
     | nil => rw [ei] at h ⊢; exact h
     | cons d ds =>
       rw [ei] at h ⊢
       obtain ⟨v, jG, rfl, ag, ah⟩ := h
       simp at b6
       exact ⟨v, jG, rfl, ih.1 _ _ _ (by omega) (fun _ h => h.elim) ag, ih.2 _ _ (by omega) ah⟩
 intro d v S rl h
 exact (step (SizeOf.sizeOf d)).1 d v S (Nat.le_refl _) rl h
mutual
def cS (x : Nat) : I → I
 | .h y q => if y = x then .hole else .h y q
 | .ar y q => if y = x then .hole else .ar y q
 | .ab y k => if y = x then .hole else .ab y k
 | .fn f cap => .fn f (jm x cap)
 | d => d
def jm (x : Nat) : List I → List I
 | [] => []
 | d :: ds => cS x d :: jm x ds
end
mutual
def cd (x : Nat) : I → I
 | .h y q => if y = x then (if q = [] then .h y q else .hole) else .h y q
 | .ar y q => if y = x then .hole else .ar y q
 | .fn f cap => .fn f (iP x cap)
 | d => d
def iP (x : Nat) : List I → List I
 | [] => []
 | d :: ds => cd x d :: iP x ds
end
def dw {α : Type} (f : Nat → α) (t : Nat) (v : α) : Nat → α := fun u => if u = t then v else f u
def lE (t : Nat) (s : ao) : ao := fun u => cS t (s u)
def iZ (t : Nat) (s : ao) : ao := fun u => cd t (s u)
theorem l7 {α : Type} (f : Nat → α) (t : Nat) (v : α) : dw f t v t = v := by simp [dw]
theorem jH {α : Type} (f : Nat → α) {t u : Nat} (v : α) (h : u ≠ t) : dw f t v u = f u := by simp [dw, h]
theorem OK {t : Nat} {d : I} (h : d.tree = true) : cS t d = d := by cases d <;> first | rfl | (simp [I.tree] at h)
theorem CD {t : Nat} {d : I} (h : d.tree = true) : cd t d = d := by cases d <;> first | rfl | (simp [I.tree] at h)
theorem OL {t : Nat} {d : I} (h : (cS t d).tree = true) : d.tree = true ∧ cS t d = d := by
 cases d <;> first | exact ⟨rfl, rfl⟩ | (simp only [cS] at h; first | (split at h <;> simp [I.tree] at h) | simp [I.tree] at h)
theorem CE {t : Nat} {d : I} (h : (cd t d).tree = true) : d.tree = true ∧ cd t d = d := by
 cases d <;> first | exact ⟨rfl, rfl⟩ | (simp only [cd] at h; first | (split at h <;> (try split at h) <;> simp [I.tree] at h) | simp [I.tree] at h)
section
variable {w : World} {F : Nat → Prop} {s aA : ao} {aB j_ : Nat → Value} {t : Nat}
theorem aG.cS (hC : ∀ x, x ≠ t → (aA x).tree = true → aA x = s x ∧ j_ x = aB x) : ∀ (n : Nat),
  (∀ (d : I) (v : Value) (S : Nat → Prop), SizeOf.sizeOf d ≤ n → aG w F s aB d v S → aG w F aA j_ (c0.cS t d) v S) ∧
  (∀ (ds : List I) (vs : List Value), SizeOf.sizeOf ds ≤ n → ei w F s aB ds vs → ei w F aA j_ (jm t ds) vs) := by
 intro n
 induction n with
 | zero =>
   refine ⟨fun d v S b6 => ?_, fun ds vs b6 => ?_⟩
   ·cases d <;> simp at b6 <;> omega
   ·cases ds <;> simp at b6 <;> omega
 | succ n ih =>
   refine ⟨fun d v S b6 h => ?_, fun ds vs b6 h => ?_⟩
   ·cases d with
    | hole => rw [c0.cS.eq_def]; simp only; rw [aG]; trivial
    | h x q =>
      simp only [c0.cS]
      split
      ·rw [aG]; trivial
      ·rename_i aq
       rw [aG] at h ⊢
       intro d ai ar
       obtain ⟨aS, aX⟩ := hC x aq (iI ai (.inl ar))
       rw [aS, aX]; rw [aS] at ai
       exact h d ai ar
    | ar x q =>
      simp only [c0.cS]
      split
      ·rw [aG]; trivial
      ·rename_i aq
       rw [aG] at h ⊢
       intro d ai ar
       obtain ⟨aS, aX⟩ := hC x aq (iI ai (.inr ar))
       rw [aS, aX]; rw [aS] at ai ar
       exact h d ai ar
    | ab x k =>
      simp only [c0.cS]
      split
      ·rw [aG]; trivial
      ·rename_i aq
       rw [aG] at h ⊢
       intro ar
       obtain ⟨aS, aX⟩ := hC x aq (CC ar)
       rw [aX]; rw [aS] at ar
       exact h ar
    | fn f cap =>
      simp only [c0.cS]
      rw [aG] at h ⊢
      obtain ⟨arr, rfl, aw⟩ := h
      exact ⟨arr, rfl, ih.2 _ _ (by simp at b6; omega) aw⟩
    | _ =>
      rw [OK (by rfl)]
      exact (aG.cJ (by rfl)).2 ((aG.cJ (by rfl)).1 h)
   ·cases ds with
    | nil => rw [jm, ei]; rw [ei] at h; exact h
    | cons d ds =>
      rw [jm, ei]; rw [ei] at h
      obtain ⟨v, jG, rfl, ag, ah⟩ := h
      simp at b6
      exact ⟨v, jG, rfl, ih.1 _ _ _ (by omega) ag, ih.2 _ _ (by omega) ah⟩
theorem aG.cd {aL : World} (hC : ∀ x, x ≠ t → (aA x).tree = true → aA x = s x ∧ j_ x = aB x) (l8 : j_ t = aB t) (mz : (aA t).plain = false → (s t).plain = false ∧ ∀ v, eo (s t) v → eo (aA t) v)
  (kV : ∀ x q d, x ≠ t → I.sub q (s x) = some d → (d.plain = false ∨ I.ft q (s x) = true) → dp aL q (s x) (cr (aB x)) none = dp w q (s x) (cr (aB x)) none)
  (bu : ∀ b, F b → aL.heap[b]? = w.heap[b]?) : ∀ (n : Nat),
  (∀ (d : I) (v : Value) (S : Nat → Prop), SizeOf.sizeOf d ≤ n → (∀ b, S b → aL.heap[b]? = w.heap[b]?) → aG w F s aB d v S → aG aL F aA j_ (c0.cd t d) v S) ∧
  (∀ (ds : List I) (vs : List Value), SizeOf.sizeOf ds ≤ n → ei w F s aB ds vs → ei aL F aA j_ (iP t ds) vs) := by
 intro n
 induction n with
 | zero =>
   refine ⟨fun d v S b6 => ?_, fun ds vs b6 => ?_⟩
   ·cases d <;> simp at b6 <;> omega
   ·cases ds <;> simp at b6 <;> omega
 | succ n ih =>
   refine ⟨fun d v S b6 rl h => ?_, fun ds vs b6 h => ?_⟩
   ·cases d with
    | hole => rw [c0.cd.eq_def]; simp only; rw [aG]; trivial
    | h x q =>
      simp only [c0.cd]
      split
      ·rename_i aq
       subst aq
       split
       ·rename_i cv
        subst cv
        rw [aG] at h ⊢
        intro d ai ar
        simp only [I.sub, Option.some.injEq] at ai
        subst ai
        obtain ⟨dB, bg⟩ := mz ar
        obtain ⟨c6, a, g1, g2, g3⟩ := h (s x) rfl dB
        simp only [dp, Option.some.injEq, Prod.mk.injEq] at g1
        obtain ⟨-, g1, awq⟩ := g1
        refine ⟨cr (j_ x), none, rfl, ?_, bg _ g3⟩
        rw [l8, g2, ← g1]
       ·rw [aG]; trivial
      ·rename_i aq
       rw [aG] at h ⊢
       intro d ai ar
       obtain ⟨aS, aX⟩ := hC x aq (iI ai (.inl ar))
       rw [aS, aX]; rw [aS] at ai
       rw [kV x q d aq ai (.inl ar)]
       exact h d ai ar
    | ar x q =>
      simp only [c0.cd]
      split
      ·rw [aG]; trivial
      ·rename_i aq
       rw [aG] at h ⊢
       intro d ai ar
       obtain ⟨aS, aX⟩ := hC x aq (iI ai (.inr ar))
       rw [aS, aX]; rw [aS] at ai ar
       rw [kV x q d aq ai (.inr ar)]
       exact h d ai ar
    | ab x k =>
      simp only [c0.cd]
      rw [aG] at h ⊢
      intro ar
      by_cases aq : x = t
      ·subst aq
       obtain ⟨b, cur, e, fr, ag, ah, aI, a_⟩ := h (mz ar).1
       exact ⟨b, cur, e, fr, ag, ah, (bu b ah).trans aI, by rw [l8]; exact a_⟩
      ·obtain ⟨aS, aX⟩ := hC x aq (CC ar)
       rw [aS] at ar
       obtain ⟨b, cur, e, fr, ag, ah, aI, a_⟩ := h ar
       exact ⟨b, cur, e, fr, ag, ah, (bu b ah).trans aI, by rw [aX]; exact a_⟩
    | fn f cap =>
      simp only [c0.cd]
      rw [aG] at h ⊢
      obtain ⟨arr, rfl, aw⟩ := h
      exact ⟨arr, rfl, ih.2 _ _ (by simp at b6; omega) aw⟩
    | _ =>
      rw [CD (by rfl)]
      have bx := (aG.cJ (by rfl)).1 h
      exact (aG.cJ (by rfl)).2 ⟨bx.1, au.frame bu _ _ _ rl bx.2⟩
   ·cases ds with
    | nil => rw [iP, ei]; rw [ei] at h; exact h
    | cons d ds =>
      rw [iP, ei]; rw [ei] at h
      obtain ⟨v, jG, rfl, ag, ah⟩ := h
      simp at b6
      exact ⟨v, jG, rfl, ih.1 _ _ _ (by omega) (fun _ h => h.elim) ag, ih.2 _ _ (by omega) ah⟩
theorem aG.void (hC : ∀ x, x ≠ t → (aA x).tree = true → aA x = s x ∧ j_ x = aB x) (nS : (aA t).plain = true) : ∀ (n : Nat),
  (∀ (d : I) (v : Value) (S : Nat → Prop), SizeOf.sizeOf d ≤ n → aG w F s aB d v S → aG w F aA j_ d v S) ∧
  (∀ (ds : List I) (vs : List Value), SizeOf.sizeOf ds ≤ n → ei w F s aB ds vs → ei w F aA j_ ds vs) := by
 intro n
 induction n with
 | zero =>
   refine ⟨fun d v S b6 => ?_, fun ds vs b6 => ?_⟩
   ·cases d <;> simp at b6 <;> omega
   ·cases ds <;> simp at b6 <;> omega
 | succ n ih =>
   refine ⟨fun d v S b6 h => ?_, fun ds vs b6 h => ?_⟩
   ·cases d with
    | hole => rw [aG]; trivial
    | h x q =>
      rw [aG] at h ⊢
      intro d ai ar
      by_cases aq : x = t
      ·subst aq
       rw [I.GQ _ _ _ nS ai] at ar; cases ar
      ·obtain ⟨aS, aX⟩ := hC x aq (iI ai (.inl ar))
       rw [aS, aX]; rw [aS] at ai
       exact h d ai ar
    | ar x q =>
      rw [aG] at h ⊢
      intro d ai ar
      by_cases aq : x = t
      ·subst aq
       rw [I.GP _ _ nS] at ar; cases ar
      ·obtain ⟨aS, aX⟩ := hC x aq (iI ai (.inr ar))
       rw [aS, aX]; rw [aS] at ai ar
       exact h d ai ar
    | ab x k =>
      rw [aG] at h ⊢
      intro ar
      by_cases aq : x = t
      ·subst aq; rw [nS] at ar; cases ar
      ·obtain ⟨aS, aX⟩ := hC x aq (CC ar)
       rw [aX]; rw [aS] at ar
       exact h ar
    | fn f cap =>
      rw [aG] at h ⊢
      obtain ⟨arr, rfl, aw⟩ := h
      exact ⟨arr, rfl, ih.2 _ _ (by simp at b6; omega) aw⟩
    | _ => exact (aG.cJ (by rfl)).2 ((aG.cJ (by rfl)).1 h)
   ·cases ds with
    | nil => rw [ei]; rw [ei] at h; exact h
    | cons d ds =>
      rw [ei]; rw [ei] at h
      obtain ⟨v, jG, rfl, ag, ah⟩ := h
      simp at b6
      exact ⟨v, jG, rfl, ih.1 _ _ _ (by omega) ag, ih.2 _ _ (by omega) ah⟩
end
structure bP (w0 : World) (F0 X F : Nat → Prop) (S : Nat → Nat → Prop) (s : ao) (aB : Nat → Value) (w : World) : Prop where
 hq : ∀ b, F0 b → F b
 hM : ∀ b, F b → F0 b ∨ X b ∨ w0.heap.size ≤ b
 fA : ∀ b, F b → b < w.heap.size
 e4 : ∀ t b, S t b → b < w.heap.size
 gi : ∀ t b, S t b → ¬ F b
 fK : ∀ t u b, t ≠ u → S t b → ¬ S u b
 eh : ∀ t b, S t b → X b ∨ w0.heap.size ≤ b
 dC : ∀ t, aG w F s aB (s t) (aB t) (S t)
 old : ∀ b, b < w0.heap.size → ¬ X b → w.heap[b]? = w0.heap[b]?
 size : w0.heap.size ≤ w.heap.size
 os : w.os = w0.os
 tape : w.tape = w0.tape
 output : w.output = w0.output
section
variable {w0 w aL : World} {F0 X F : Nat → Prop} {S : Nat → Nat → Prop} {s : ao} {aB : Nat → Value}
theorem bP.grow (h : bP w0 F0 X F S s aB w) (ab : ∀ b, b < w.heap.size → aL.heap[b]? = w.heap[b]?) (ad : w.heap.size ≤ aL.heap.size)
  (ag : aL.os = w.os) (ah : aL.tape = w.tape) (aI : aL.output = w.output) : bP w0 F0 X F S s aB aL where
 hq := h.hq
 hM := h.hM
 fA := fun b bu => Nat.lt_of_lt_of_le (h.fA b bu) ad
 e4 := fun t b bu => Nat.lt_of_lt_of_le (h.e4 t b bu) ad
 gi := h.gi
 fK := h.fK
 eh := h.eh
 dC := fun t => aG.frame (Sx := S) (fun b bu => ab b (h.fA b bu)) (fun _ h => h) (fun x b b8 => ab b (h.e4 x b b8)) h.dC _ _ _ (fun b b8 => ab b (h.e4 t b b8)) (h.dC t)
 old := fun b fa kW => (ab b (Nat.lt_of_lt_of_le fa h.size)).trans (h.old b fa kW)
 size := Nat.le_trans h.size ad
 os := ag.trans h.os
 tape := ah.trans h.tape
 output := aI.trans h.output
def gu (S : Nat → Nat → Prop) (t : Nat) (Sn : Nat → Prop) : Nat → Nat → Prop := fun u b => if u = t then Sn b else S u b
theorem yv (S : Nat → Nat → Prop) (t : Nat) (Sn : Nat → Prop) : gu S t Sn t = Sn := by funext b; simp [gu]
theorem yw (S : Nat → Nat → Prop) {t u : Nat} (Sn : Nat → Prop) (h : u ≠ t) : gu S t Sn u = S u := by funext b; simp [gu, h]
theorem bP.tc (h : bP w0 F0 X F S s aB w) {t : Nat} {d : I} {v : Value} (ar : d.plain = true) (ai : aG w F s aB d v (fun _ => False)) :
  bP w0 F0 X F (gu S t (fun _ => False)) (dw s t d) (dw aB t v) w where
 hq := h.hq
 hM := h.hM
 fA := h.fA
 e4 := fun u b ab => by simp only [gu] at ab; split at ab; exact ab.elim; exact h.e4 u b ab
 gi := fun u b ab => by simp only [gu] at ab; split at ab; exact ab.elim; exact h.gi u b ab
 fK := fun u x b dQ ab aq => by
  simp only [gu] at ab aq
  split at ab
  ·exact ab.elim
  ·split at aq
   ·exact aq.elim
   ·exact h.fK u x b dQ ab aq
 eh := fun u b ab => by simp only [gu] at ab; split at ab; exact ab.elim; exact h.eh u b ab
 dC := fun u => by
  have hC : ∀ x, x ≠ t → (dw s t d x).tree = true → dw s t d x = s x ∧ dw aB t v x = aB x := fun x aq _ => ⟨jH _ _ aq, jH _ _ aq⟩
  have nS : (dw s t d t).plain = true := by rw [l7]; exact ar
  by_cases hu : u = t
  ·subst hu
   rw [l7, l7, yv]
   exact (aG.void hC nS _).1 _ _ _ (Nat.le_refl _) ai
  ·rw [jH _ _ hu, jH _ _ hu, yw _ _ hu]
   exact (aG.void hC nS _).1 _ _ _ (Nat.le_refl _) (h.dC u)
 old := h.old
 size := h.size
 os := h.os
 tape := h.tape
 output := h.output
theorem bP.GS (h : bP w0 F0 X F S s aB w) {t : Nat} {d : I} {v : Value} {Sn : Nat → Prop} (ai : d.tree = true) (ad : eo d v) (aN : au w F d (cr v) Sn)
  (fa : ∀ b, Sn b → b < w.heap.size) (bu : ∀ b, Sn b → ¬ F b) (b8 : ∀ u b, u ≠ t → Sn b → ¬ S u b) (bc : ∀ b, Sn b → X b ∨ w0.heap.size ≤ b) :
  bP w0 F0 X F (gu S t Sn) (dw (lE t s) t d) (dw aB t v) w where
 hq := h.hq
 hM := h.hM
 fA := h.fA
 e4 := fun u b ab => by simp only [gu] at ab; split at ab; exact fa b ab; exact h.e4 u b ab
 gi := fun u b ab => by simp only [gu] at ab; split at ab; exact bu b ab; exact h.gi u b ab
 fK := fun u x b dQ ab aq => by
  simp only [gu] at ab aq
  split at ab
  ·rename_i hu
   rw [if_neg (fun e => dQ (hu.trans e.symm))] at aq
   exact b8 x b (fun e => dQ (hu.trans e.symm)) ab aq
  ·rename_i hu
   split at aq
   ·exact b8 u b hu aq ab
   ·exact h.fK u x b dQ ab aq
 eh := fun u b ab => by simp only [gu] at ab; split at ab; exact bc b ab; exact h.eh u b ab
 dC := fun u => by
  have hC : ∀ x, x ≠ t → (dw (lE t s) t d x).tree = true → dw (lE t s) t d x = s x ∧ dw aB t v x = aB x := fun x aq bb => by
   rw [jH _ _ aq] at bb ⊢
   exact ⟨(OL bb).2, jH _ _ aq⟩
  by_cases hu : u = t
  ·subst hu
   rw [l7, l7, yv]
   exact (aG.cJ ai).2 ⟨ad, aN⟩
  ·rw [jH _ _ hu, jH _ _ hu, yw _ _ hu]
   exact (aG.cS hC _).1 _ _ _ (Nat.le_refl _) (h.dC u)
 old := h.old
 size := h.size
 os := h.os
 tape := h.tape
 output := h.output
theorem rm (k : Nat) (q : List Nat) (bz x : I) : (∃ ax gs, x = .agg ax ∧ I.put (k :: q) bz x = .agg gs) ∨ (∃ ax gs, x = .tuple ax ∧ I.put (k :: q) bz x = .tuple gs) ∨
  (∃ sz xs cn, x = .aP sz xs ∧ I.put (k :: q) bz x = .aP sz cn) ∨ (∃ y z, x = .a7 y ∧ I.put (k :: q) bz x = .a7 z) ∨ I.put (k :: q) bz x = x := by
 cases x with
 | agg ax => simp only [I.put]; split <;> exact .inl ⟨_, _, rfl, rfl⟩
 | tuple ax => simp only [I.put]; split <;> exact .inr (.inl ⟨_, _, rfl, rfl⟩)
 | aP sz ax => simp only [I.put]; split <;> exact .inr (.inr (.inl ⟨_, _, _, rfl, rfl⟩))
 | a7 y => cases k <;> exact .inr (.inr (.inr (.inl ⟨_, _, rfl, rfl⟩)))
 | _ => exact .inr (.inr (.inr (.inr rfl)))
theorem GU {k : Nat} {q : List Nat} {bz x : I} {v : Value} (h : iO x v) : iO (I.put (k :: q) bz x) v := by
 rcases rm k q bz x with ⟨ax, gs, rfl, e⟩ | ⟨ax, gs, rfl, e⟩ | ⟨sz, xs, cn, rfl, e⟩ | ⟨y, z, rfl, e⟩ | e <;> rw [e] <;> exact h
theorem GV {k : Nat} {q : List Nat} {bz x : I} (h : ∀ vs, x ≠ .tuple vs) : ∀ vs, I.put (k :: q) bz x ≠ .tuple vs := by
 rcases rm k q bz x with ⟨ax, gs, rfl, e⟩ | ⟨ax, gs, rfl, e⟩ | ⟨sz, xs, cn, rfl, e⟩ | ⟨y, z, rfl, e⟩ | e <;> rw [e] <;> first | exact h | (intro vs bx; cases bx; done) | exact (h _ rfl).elim
theorem CF {k : Nat} {q : List Nat} {d bz av : I} {v : Value} (h : eo av v) (ai : I.sub (k :: q) av = some d) (ag : ∀ v, iO d v → iO bz v) (ah : (∀ vs, d ≠ .tuple vs) → ∀ vs, bz ≠ .tuple vs) (aI : bz.wd = d.wd) :
  eo (I.put (k :: q) bz av) v := by
 cases av with
 | tuple ax =>
   simp only [I.sub] at ai
   split at ai
   ·rename_i x aq
    simp only [I.put, aq]
    simp only [eo] at h ⊢
    obtain ⟨arr, rfl, b6, l6⟩ := h
    refine ⟨arr, rfl, by simpa using b6, fun j e y he bt => ?_⟩
    rw [List.getElem?_set] at he
    split at he
    ·rename_i CG
     subst CG
     split at he
     ·simp only [Option.some.injEq] at he
      subst he
      obtain ⟨g1, g2, g3⟩ := l6 k x y aq bt
      refine ⟨?_, ?_, g3.trans (I.ta q x d bz ai aI).symm⟩
      ·cases q with
       | nil =>
         simp only [I.sub, Option.some.injEq] at ai
         subst ai
         exact ag _ g1
       | cons cb q => exact GU g1
      ·cases q with
       | nil =>
         simp only [I.sub, Option.some.injEq] at ai
         subst ai
         exact ah g2
       | cons cb q => exact GV g2
     ·cases he
    ·exact l6 j e y he bt
   ·cases ai
 | agg ax => simp only [I.put]; split <;> exact h
 | aP sz ax => simp only [I.put]; split <;> exact h
 | a7 y => cases k <;> exact h
 | _ => exact h
theorem CH {d : I} {v : Value} (h : iO d v) : iO d.de v := by cases d <;> exact h
theorem GW {s : ao} {x : Nat} {q : List Nat} {d : I} (ai : I.sub q (s x) = some d) (ar : d.plain = false) :
  (dw (iZ x s) x (I.put q d.de (s x)) x).plain = false → (s x).plain = false ∧ ∀ v, eo (s x) v → eo (dw (iZ x s) x (I.put q d.de (s x)) x) v := by
  rw [l7]
  intro fT
  cases q with
  | nil =>
    exfalso
    have : ∀ d : I, d.de.plain = true := by
     intro d
     have key : ∀ n, (∀ d : I, SizeOf.sizeOf d ≤ n → d.de.plain = true) ∧ (∀ ds : List I, SizeOf.sizeOf ds ≤ n → I.gh (I.kU ds) = true) := by
      intro n
      induction n with
      | zero => exact ⟨fun d b6 => by cases d <;> simp at b6 <;> omega, fun ds b6 => by cases ds <;> simp at b6 <;> omega⟩
      | succ n ih =>
        refine ⟨fun d b6 => ?_, fun ds b6 => ?_⟩
        ·cases d with
         | agg ax => simp only [I.de, I.plain]; exact ih.2 _ (by simp at b6; omega)
         | tuple ax => simp only [I.de, I.plain]; exact ih.2 _ (by simp at b6; omega)
         | _ => rfl
        ·cases ds with
         | nil => rfl
         | cons d ds =>
           simp at b6
           simp only [I.kU, I.gh, Bool.and_eq_true]
           exact ⟨ih.1 _ (by omega), ih.2 _ (by omega)⟩
     exact (key _).1 d (Nat.le_refl _)
    simp only [I.put] at fT
    rw [this] at fT
    cases fT
  | cons k q =>
    refine ⟨?_, fun v aN => CF aN ai (fun v h => CH h) (fun h vs e => ?_) (I.ql d)⟩
    ·cases CI : (s x).plain with
     | false => rfl
     | true => rw [I.GQ _ _ _ CI ai] at ar; cases ar
    ·cases d <;> first | (exact h _ rfl) | (simp [I.de] at e)
theorem bP.take (h : bP w0 F0 X F S s aB w) {x : Nat} {q : List Nat} {d : I} (ai : I.sub q (s x) = some d) (ar : d.plain = false) :
  ∃ (Sn hh : Nat → Prop) (c6 : List Value) (a : Option (Nat × Nat)), bP w0 F0 X F (gu S x Sn) (dw (iZ x s) x (I.put q d.de (s x))) aB w ∧
    dp w q (s x) (cr (aB x)) none = some (d, c6, a) ∧ au w F d c6 hh ∧ (∀ b, hh b → S x b) ∧ (∀ b, Sn b → S x b) ∧ (∀ b, hh b → ¬ Sn b) ∧
    (∀ (bz : I) (v : Value) (aT : Nat → Prop), aG w F s aB bz v aT → aG w F (dw (iZ x s) x (I.put q d.de (s x))) aB (c0.cd x bz) v aT) := by
 have bb := iI ai (.inl ar)
 have aq := h.dC x
 rw [aG.cJ bb] at aq
 obtain ⟨c6, a, eR, hh, g0, g1, g2, g3, g4, g5⟩ := ctx q (s x) (cr (aB x)) (S x) none d aq.2 ai
 have kF : au w F (I.put q d.de (s x)) (cr (aB x)) eR := by
  have jW : au w F d.de c6 (fun _ => False) := au.de _ _ _ _ g4
  have qm : ∀ b, (eR b ∨ False) → eR b := fun b h => h.elim id False.elim
  rcases g5 with ⟨l, r, aS, aX, aQ⟩ | ⟨b, cur, e, fr, l, r, aS, aX, aQ, ca, cR, bZ⟩
  ·have := aQ w _ c6 _ (fun _ _ => rfl) (fun _ _ => rfl) (I.ql d) jW (fun _ h => h.elim)
   rw [← aS] at this
   exact au.mono (fun _ h => h) _ _ _ _ qm this
  ·have := bZ w _ c6 _ (fun _ _ => rfl) (fun _ _ _ => rfl) (by rw [aQ, ← cR]) (I.ql d) jW (fun _ h => h.elim)
   exact au.mono (fun _ h => h) _ _ _ _ qm this
 have OM : eo (I.put q d.de (s x)) (aB x) ∧ (I.put q d.de (s x)).tree = true ∨ I.put q d.de (s x) = .hole := by
  cases q with
  | nil =>
    simp only [I.sub, Option.some.injEq] at ai
    subst ai
    simp only [I.put]
    cases ad : s x with
    | aP sz xs => right; rfl
    | a7 y => right; rfl
    | agg ax => left; rw [ad] at aq; exact ⟨aq.1, rfl⟩
    | tuple ax =>
      left
      rw [ad] at aq
      refine ⟨?_, rfl⟩
      simp only [eo, I.de] at aq ⊢
      obtain ⟨arr, e, b6, l6⟩ := aq.1
      have aR : ∀ ax : List I, I.kU ax = ax.map I.de := by
       intro ax; induction ax with
       | nil => rfl
       | cons a ax ih => simp [I.kU, ih]
      refine ⟨arr, e, by rw [aR]; simpa using b6, fun k gI y he bt => ?_⟩
      rw [aR, List.getElem?_map] at he
      cases az : ax[k]? with
      | none => rw [az] at he; cases he
      | some z =>
        rw [az] at he
        simp only [Option.map_some, Option.some.injEq] at he
        subst he
        obtain ⟨g1, g2, g3⟩ := l6 k z y az bt
        refine ⟨CH g1, fun vs e => ?_, g3.trans (I.ql z).symm⟩
        cases z <;> first | (exact g2 _ rfl) | (simp [I.de] at e)
    | _ => rw [ad] at ar; simp [I.plain] at ar
  | cons k q =>
    left
    refine ⟨CF aq.1 ai (fun v h => CH h) (fun h vs e => ?_) (I.ql d), ?_⟩
    ·cases d <;> first | (exact h _ rfl) | (simp [I.de] at e)
    ·rcases rm k q d.de (s x) with ⟨ax, gs, aS, e⟩ | ⟨ax, gs, aS, e⟩ | ⟨sz, xs, cn, aS, e⟩ | ⟨y, z, aS, e⟩ | e <;> rw [e] <;> first | rfl | exact bb
 refine ⟨eR, hh, c6, a, ?_, g0, g4, g2, g1, fun b ag ah => g3 b ah ag, ?_⟩
 rotate_left
 ·have hC : ∀ y, y ≠ x → (dw (iZ x s) x (I.put q d.de (s x)) y).tree = true → dw (iZ x s) x (I.put q d.de (s x)) y = s y ∧ aB y = aB y := fun y bt bb => by
   rw [jH _ _ bt] at bb ⊢
   exact ⟨(CE bb).2, rfl⟩
  intro bz v aT hp
  exact (aG.cd hC rfl (GW ai ar) (fun _ _ _ _ _ _ => rfl) (fun _ _ => rfl) _).1 _ _ _ (Nat.le_refl _) (fun _ _ => rfl) hp
 have hC : ∀ y, y ≠ x → (dw (iZ x s) x (I.put q d.de (s x)) y).tree = true → dw (iZ x s) x (I.put q d.de (s x)) y = s y ∧ aB y = aB y := fun y bt bb => by
  rw [jH _ _ bt] at bb ⊢
  exact ⟨(CE bb).2, rfl⟩
 have mz := GW (s := s) (x := x) ai ar
 constructor
 case hq => exact h.hq
 case hM => exact h.hM
 case fA => exact h.fA
 case e4 => exact fun u b ab => by simp only [gu] at ab; split at ab; exact h.e4 x b (g1 b ab); exact h.e4 u b ab
 case gi => exact fun u b ab => by simp only [gu] at ab; split at ab; exact h.gi x b (g1 b ab); exact h.gi u b ab
 case fK =>
  intro u y b dQ ab bt
  simp only [gu] at ab bt
  split at ab
  ·rename_i hu
   rw [if_neg (fun e => dQ (hu.trans e.symm))] at bt
   exact h.fK x y b (fun e => dQ (hu.trans e)) (g1 b ab) bt
  ·rename_i hu
   split at bt
   ·exact h.fK u x b hu ab (g1 b bt)
   ·exact h.fK u y b dQ ab bt
 case eh => exact fun u b ab => by simp only [gu] at ab; split at ab; exact h.eh x b (g1 b ab); exact h.eh u b ab
 case dC =>
  intro u
  by_cases hu : u = x
  ·subst hu
   rw [l7, yv]
   rcases OM with ⟨aS, aX⟩ | e
   ·exact (aG.cJ aX).2 ⟨aS, kF⟩
   ·rw [e, aG]; trivial
  ·rw [jH _ _ hu, yw _ _ hu]
   exact (aG.cd hC rfl mz (fun _ _ _ _ _ _ => rfl) (fun _ _ => rfl) _).1 _ _ _ (Nat.le_refl _) (fun _ _ => rfl) (h.dC u)
 case old => exact h.old
 case size => exact h.size
 case os => exact h.os
 case tape => exact h.tape
 case output => exact h.output
theorem bP.store (h : bP w0 F0 X F S s aB w) {x : Nat} {q : List Nat} {d bz : I} (ai : I.sub q (s x) = some d) (aw : I.ft q (s x) = true)
  {gd : List Value} {Sn : Nat → Prop} (aN : au w F bz gd Sn) (l5 : bz.wd = d.wd)
  (fa : ∀ b, Sn b → b < w.heap.size) (bu : ∀ b, Sn b → ¬ F b) (b8 : ∀ u b, Sn b → ¬ S u b) (bc : ∀ b, Sn b → X b ∨ w0.heap.size ≤ b) :
  ∃ (c6 : List Value) (b : Nat) (l r : List Value) (cur : Array Value) (e : TypeId) (fr : Nat × Nat), dp w q (s x) (cr (aB x)) none = some (d, c6, some (b, l.length)) ∧
    w.heap[b]? = some (.cells cur e fr) ∧ cur.toList = l ++ (c6 ++ r) ∧ qk fr cur.size ∧
    ∀ aL, aL.heap[b]? = some (.cells (l ++ (gd ++ r)).toArray e fr) → (∀ c, c ≠ b → aL.heap[c]? = w.heap[c]?) → aL.heap.size = w.heap.size → aL.os = w.os → aL.tape = w.tape → aL.output = w.output →
      ∃ aT, bP w0 F0 X F aT (dw (iZ x s) x (I.put q bz (s x))) aB aL := by
 have bb := iI ai (.inr aw)
 have aq := h.dC x
 rw [aG.cJ bb] at aq
 obtain ⟨c6, a, eR, hh, g0, g1, g2, g3, g4, g5⟩ := ctx q (s x) (cr (aB x)) (S x) none d aq.2 ai
 have ON : Deep w F q (s x) (cr (aB x)) d c6 a eR := by
  rcases g5 with ⟨l, r, aS, aX, aQ⟩ | g5
  ·exfalso
   have mX : ∀ (q : List Nat) (av : I) (cs : List Value) (a0 : Option (Nat × Nat)) (d : I) (c6 : List Value), I.ft q av = true → dp w q av cs a0 = some (d, c6, none) → False := by
    intro q
    induction q with
    | nil => intro av cs a0 d c6 aw; simp [I.ft] at aw
    | cons k q ih =>
      have GX : ∀ (q : List Nat) (av : I) (cs : List Value) (l : Nat × Nat) (d : I) (c6 : List Value), dp w q av cs (some l) = some (d, c6, none) → False := by
       intro q
       induction q with
       | nil => intro av cs l d c6 h; simp [dp] at h
       | cons k q yx =>
         intro av cs l d c6 h
         cases av with
         | agg ax => rw [dp] at h; split at h; exact yx _ _ _ _ _ h; cases h
         | tuple ax => rw [dp] at h; split at h; exact yx _ _ _ _ _ h; cases h
         | aP sz xs => simp only [dp] at h; split at h; exact yx _ _ _ _ _ h; cases h
         | a7 y =>
           cases k with
           | zero => rw [dp.eq_def] at h; simp only at h; split at h; exact yx _ _ _ _ _ h; cases h
           | succ k => rw [show dp w ((k + 1) :: q) (.a7 y) cs (some l) = none from rfl] at h; cases h
         | _ => simp [dp] at h
      intro av cs a0 d c6 aw h
      cases av with
      | agg ax =>
        simp only [I.ft] at aw
        split at aw
        ·rename_i y bt
         simp only [dp, bt] at h
         exact ih _ _ _ _ _ aw h
        ·cases aw
      | tuple ax =>
        simp only [I.ft] at aw
        split at aw
        ·rename_i y bt
         simp only [dp, bt] at h
         exact ih _ _ _ _ _ aw h
        ·cases aw
      | aP sz xs => simp only [dp] at h; split at h; exact GX _ _ _ _ _ _ h; cases h
      | a7 y =>
        cases k with
        | zero => rw [dp.eq_def] at h; simp only at h; split at h; exact GX _ _ _ _ _ _ h; cases h
        | succ k => rw [show dp w ((k + 1) :: q) (.a7 y) cs a0 = none from rfl] at h; cases h
      | _ => simp [I.ft] at aw
   simp only [Option.map_none] at aX
   subst aX
   exact mX _ _ _ _ _ _ aw g0
  ·exact g5
 obtain ⟨b, cur, e, fr, l, r, rfl, aX, aQ, ca, cR, bZ⟩ := ON
 refine ⟨c6, b, l, r, cur, e, fr, g0, aQ, cR, ca, ?_⟩
 intro aL lD vm eH OO OP vn
 have yy : S x b := g1 _ aX
 have td : ∀ c, F c → aL.heap[c]? = w.heap[c]? := fun c aw => vm c (by rintro rfl; exact h.gi x _ yy aw)
 have awr : gd.length = c6.length := by rw [au.length _ _ _ aN, au.length _ _ _ g4, l5]
 have kF := bZ aL bz gd Sn td (fun c _ dQ => vm c dQ) lD l5
  (au.frame td _ _ _ (fun c aw => vm c (by rintro rfl; exact b8 x _ aw yy)) aN) (fun c aw qm => b8 x c aw (g1 _ qm))
 obtain ⟨k, jx, rfl⟩ : ∃ k jx, q = k :: jx := by
  cases q with
  | nil => simp [I.ft] at aw
  | cons k q => exact ⟨k, q, rfl⟩
 have GY : ∀ v, eo (s x) v → eo (I.put (k :: jx) bz (s x)) v := by
  intro v aN
  rcases rm k jx bz (s x) with ⟨ax, gs, aS, e⟩ | ⟨ax, gs, aS, e⟩ | ⟨sz, xs, cn, aS, e⟩ | ⟨y, z, aS, e⟩ | e
  ·rw [e]; rw [aS] at aN; exact aN
  ·
   rw [aS] at aN ai aw ⊢
   simp only [I.ft] at aw
   split at aw
   ·rename_i y bt
    simp only [I.put, bt]
    cases jx with
    | nil => simp [I.ft] at aw
    | cons cb gJ =>
      simp only [eo] at aN ⊢
      obtain ⟨arr, rfl, b6, l6⟩ := aN
      refine ⟨arr, rfl, by simpa using b6, fun j e kq he rn => ?_⟩
      rw [List.getElem?_set] at he
      split at he
      ·rename_i CG
       subst CG
       split at he
       ·simp only [Option.some.injEq] at he
        subst he
        obtain ⟨g1, g2, g3⟩ := l6 _ y kq bt rn
        simp only [I.sub, bt] at ai
        exact ⟨GU g1, GV g2, g3.trans (I.ta (cb :: gJ) y d bz ai l5).symm⟩
       ·cases he
      ·exact l6 j e kq he rn
   ·cases aw
  ·rw [e]; rw [aS] at aN; exact aN
  ·rw [e]; rw [aS] at aN; exact aN
  ·rw [e]; exact aN
 have OQ : (I.put (k :: jx) bz (s x)).tree = true := by
  rcases rm k jx bz (s x) with ⟨ax, gs, aS, e⟩ | ⟨ax, gs, aS, e⟩ | ⟨sz, xs, cn, aS, e⟩ | ⟨y, z, aS, e⟩ | e <;> rw [e] <;> first | rfl | exact bb
 let aA := dw (iZ x s) x (I.put (k :: jx) bz (s x))
 have hC : ∀ y, y ≠ x → (aA y).tree = true → aA y = s y ∧ aB y = aB y := fun y bt bb => by
  have e : aA y = cd x (s y) := jH _ _ bt
  rw [e] at bb ⊢
  exact ⟨(CE bb).2, rfl⟩
 have mz : (aA x).plain = false → (s x).plain = false ∧ ∀ v, eo (s x) v → eo (aA x) v := by
  intro _
  refine ⟨?_, ?_⟩
  ·cases CI : (s x).plain with
   | false => rfl
   | true => rw [I.GP _ _ CI] at aw; cases aw
  ·simp only [aA, l7]; exact GY
 refine ⟨gu S x (fun c => eR c ∨ Sn c), ?_⟩
 constructor
 case hq => exact h.hq
 case hM => exact h.hM
 case fA => exact fun b ab => by rw [eH]; exact h.fA b ab
 case e4 =>
  intro u c ab
  rw [eH]
  simp only [gu] at ab
  split at ab
  ·rcases ab with ab | ab
   ·exact h.e4 x c (g1 c ab)
   ·exact fa c ab
  ·exact h.e4 u c ab
 case gi =>
  intro u c ab
  simp only [gu] at ab
  split at ab
  ·rcases ab with ab | ab
   ·exact h.gi x c (g1 c ab)
   ·exact bu c ab
  ·exact h.gi u c ab
 case fK =>
  intro u y c dQ ab bt
  simp only [gu] at ab bt
  split at ab
  ·rename_i hu
   rw [if_neg (fun e => dQ (hu.trans e.symm))] at bt
   rcases ab with ab | ab
   ·exact h.fK x y c (fun e => dQ (hu.trans e)) (g1 c ab) bt
   ·exact b8 y c ab bt
  ·rename_i hu
   split at bt
   ·rcases bt with bt | bt
    ·exact h.fK u x c hu ab (g1 c bt)
    ·exact b8 u c bt ab
   ·exact h.fK u y c dQ ab bt
 case eh =>
  intro u c ab
  simp only [gu] at ab
  split at ab
  ·rcases ab with ab | ab
   ·exact h.eh x c (g1 c ab)
   ·exact bc c ab
  ·exact h.eh u c ab
 case dC =>
  intro u
  by_cases hu : u = x
  ·subst hu
   rw [l7, yv]
   exact (aG.cJ OQ).2 ⟨GY _ aq.1, kF⟩
  ·rw [jH _ _ hu, yw _ _ hu]
   have dQ : ∀ y c, y ≠ x → S y c → aL.heap[c]? = w.heap[c]? := fun y c bt aw => vm c (by rintro rfl; exact h.fK y x c bt aw yy)
   refine (aG.cd hC rfl mz (fun y gJ d2 bt iQ CJ => ?_) td _).1 _ _ _ (Nat.le_refl _) (fun c aw => dQ u c hu aw) (h.dC u)
   have GZ := h.dC y
   rw [aG.cJ (iI iQ CJ)] at GZ
   exact CA gJ _ _ _ none d2 GZ.2 iQ (fun c aw => dQ y c bt aw)
 case old =>
  intro c fa kW
  by_cases G0 : c = b
  ·subst G0
   exfalso
   rcases h.eh x c yy with jW | jW
   ·exact kW jW
   ·omega
  ·exact (vm c G0).trans (h.old c fa kW)
 case size => rw [eH]; exact h.size
 case os => exact OO.trans h.os
 case tape => exact OP.trans h.tape
 case output => exact vn.trans h.output
end
end Go.c0
