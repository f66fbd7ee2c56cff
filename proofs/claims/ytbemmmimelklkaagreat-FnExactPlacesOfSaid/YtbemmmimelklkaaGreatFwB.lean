/- Part of a proof that a law returns true for every input. No condition. -/
import Derived.Test.YtbemmmimelklkaaGreatFwA
import Derived.Laws.AppendOwn
import Derived.Calls
namespace Go.dg
inductive I where
 | hole
 | bool (b : Bool)
 | fi
 | int (k : IntKind) (n : Int)
 | str (s : List UInt8)
 | dC
 | bg
 | slice (xs : List I)
 | aw (sz : Nat) (xs : List I)
 | ref (d : I)
 | a8 (d : I)
 | agg (aB : List I)
 | tuple (vs : List I)
 | fn (f : FuncId) (cap : List I)
 | h (x : Nat) (q : List Nat)
 | ax (x : Nat) (q : List Nat)
 | ae (x : Nat) (k : Nat)
 deriving Inhabited
mutual
def I.wd : I → Nat
 | .agg aB => I.ev aB
 | .tuple aB => I.ev aB
 | _ => 1
def I.ev : List I → Nat
 | [] => 0
 | d :: ds => d.wd + I.ev ds
end
def hN (w : World) (b o : Nat) (cs : List Value) : Prop := ∀ j c, cs[j]? = some c → w.cell? ⟨b, o + j, none⟩ = some c
def p9 (fr : Nat × Nat) (n : Nat) : Prop := ∀ o, o < n → ¬ (fr.1 ≤ o ∧ o < fr.2)
def Value.gU : Value → Bool
 | .agg _ => false
 | .tuple _ => false
 | _ => true
mutual
def aC (w : World) (F : Nat → Prop) : I → List Value → (Nat → Prop) → Prop
 | .hole, cs, _ => ∃ v, Value.gU v = true ∧ cs = [v]
 | .bool b, cs, _ => cs = [.bool b]
 | .fi, cs, _ => ∃ b, cs = [.bool b]
 | .int k n, cs, _ => cs = [.int k n]
 | .str s, cs, _ => cs = [.string ⟨⟨s⟩⟩]
 | .dC, cs, _ => cs = [.pointer none]
 | .bg, cs, _ => cs = [.slice none 0 0]
 | .slice xs, cs, _ => (xs = [] ∧ ∃ a c, cs = [.slice a 0 c] ∧ c ≤ maxLen ∧ (a = none → c = 0)) ∨
   ∃ b o cap eK sz, cs = [.slice (some ⟨b, o, none⟩) xs.length cap] ∧ F b ∧ xs.length ≤ cap ∧ cap ≤ maxLen ∧ (∀ d ∈ xs, d.wd = sz) ∧
     hN w b o eK ∧ bl w F xs eK (fun _ => False)
 | .aw sz xs, cs, S => (xs = [] ∧ ∃ a, cs = [.slice a 0 0]) ∨
   ∃ b cap cur e fr a1, cs = [.slice (some ⟨b, 0, none⟩) xs.length cap] ∧ S b ∧ w.heap[b]? = some (.cells cur e fr) ∧ p9 fr cur.size ∧
     xs.length ≤ cap ∧ cap ≤ maxLen ∧ cur.size = cap * sz ∧ (∀ d ∈ xs, d.wd = sz) ∧ bl w F xs (cur.toList.take (xs.length * sz)) a1 ∧ (∀ c, a1 c → S c) ∧ ¬ a1 b
 | .ref d, cs, _ => ∃ b o eK, cs = [.pointer (some ⟨b, o, none⟩)] ∧ F b ∧ hN w b o eK ∧ aC w F d eK (fun _ => False)
 | .a8 d, cs, S => ∃ b cur e fr a1, cs = [.pointer (some ⟨b, 0, none⟩)] ∧ S b ∧ w.heap[b]? = some (.cells cur e fr) ∧ p9 fr cur.size ∧
   aC w F d cur.toList a1 ∧ (∀ c, a1 c → S c) ∧ ¬ a1 b
 | .agg aB, cs, S => bl w F aB cs S
 | .tuple aB, cs, S => bl w F aB cs S
 | .fn _ _, _, _ => False
 | .h _ _, _, _ => False
 | .ax _ _, _, _ => False
 | .ae _ _, _, _ => False
def bl (w : World) (F : Nat → Prop) : List I → List Value → (Nat → Prop) → Prop
 | [], cs, _ => cs = []
 | d :: ds, cs, S => ∃ cv cE ct el, cs = cv ++ cE ∧ aC w F d cv ct ∧ bl w F ds cE el ∧ (∀ b, ct b → S b) ∧ (∀ b, el b → S b) ∧ (∀ b, ct b → ¬ el b)
end
theorem cell?_of_block {w aS : World} {b : Nat} (h : aS.heap[b]? = w.heap[b]?) (o : Nat) : aS.cell? ⟨b, o, none⟩ = w.cell? ⟨b, o, none⟩ := by
 simp [World.cell?, h]
theorem hN.frame {w aS : World} {b o : Nat} {cs : List Value} (h : aS.heap[b]? = w.heap[b]?) (a7 : hN w b o cs) : hN aS b o cs :=
 fun j c ay => (cell?_of_block h _).trans (a7 j c ay)
mutual
theorem aC.frame {w aS : World} {F : Nat → Prop} (bD : ∀ b, F b → aS.heap[b]? = w.heap[b]?) :
  ∀ (d : I) (cs : List Value) (S : Nat → Prop), (∀ b, S b → aS.heap[b]? = w.heap[b]?) → aC w F d cs S → aC aS F d cs S
 | .hole, _, _, _, h => h
 | .bool _, _, _, _, h => h
 | .fi, _, _, _, h => h
 | .int _ _, _, _, _, h => h
 | .str _, _, _, _, h => h
 | .dC, _, _, _, h => h
 | .bg, _, _, _, h => h
 | .slice xs, cs, S, cb, h => by
   rw [aC] at h ⊢
   rcases h with h | ⟨b, o, cap, eK, sz, ai, aj, aP, bb, b5, cF, cq⟩
   ·exact .inl h
   ·exact .inr ⟨b, o, cap, eK, sz, ai, aj, aP, bb, b5, cF.frame (bD _ aj), bl.frame bD xs _ _ (fun _ h => h.elim) cq⟩
 | .aw sz xs, cs, S, cb, h => by
   rw [aC] at h ⊢
   rcases h with h | ⟨b, cap, cur, e, fr, a1, ai, aj, aP, bb, b5, cF, cq, fO, iI, hO, k9⟩
   ·exact .inl h
   ·exact .inr ⟨b, cap, cur, e, fr, a1, ai, aj, (cb _ aj).trans aP, bb, b5, cF, cq, fO, bl.frame bD xs _ _ (fun c ay => cb _ (hO _ ay)) iI, hO, k9⟩
 | .ref d, cs, S, cb, h => by
   rw [aC] at h ⊢
   obtain ⟨b, o, eK, ai, aj, aP, bb⟩ := h
   exact ⟨b, o, eK, ai, aj, aP.frame (bD _ aj), aC.frame bD d _ _ (fun _ h => h.elim) bb⟩
 | .a8 d, cs, S, cb, h => by
   rw [aC] at h ⊢
   obtain ⟨b, cur, e, fr, a1, ai, aj, aP, bb, b5, cF, cq⟩ := h
   exact ⟨b, cur, e, fr, a1, ai, aj, (cb _ aj).trans aP, bb, aC.frame bD d _ _ (fun c ay => cb _ (cF _ ay)) b5, cF, cq⟩
 | .agg aB, cs, S, cb, h => by rw [aC] at h ⊢; exact bl.frame bD aB _ _ cb h
 | .tuple aB, cs, S, cb, h => by rw [aC] at h ⊢; exact bl.frame bD aB _ _ cb h
 | .fn _ _, _, _, _, h => h
 | .h _ _, _, _, _, h => h
 | .ax _ _, _, _, _, h => h
 | .ae _ _, _, _, _, h => h
theorem bl.frame {w aS : World} {F : Nat → Prop} (bD : ∀ b, F b → aS.heap[b]? = w.heap[b]?) :
  ∀ (ds : List I) (cs : List Value) (S : Nat → Prop), (∀ b, S b → aS.heap[b]? = w.heap[b]?) → bl w F ds cs S → bl aS F ds cs S
 | [], _, _, _, h => h
 | d :: ds, cs, S, cb, h => by
   rw [bl] at h ⊢
   obtain ⟨cv, cE, ct, el, ai, aj, aP, bb, b5, cF⟩ := h
   exact ⟨cv, cE, ct, el, ai, aC.frame bD d _ _ (fun b ae => cb _ (bb _ ae)) aj, bl.frame bD ds _ _ (fun b ae => cb _ (b5 _ ae)) aP, bb, b5, cF⟩
end
mutual
theorem aC.mono {w : World} {F bV : Nat → Prop} (bD : ∀ b, F b → bV b) :
  ∀ (d : I) (cs : List Value) (S a1 : Nat → Prop), (∀ b, S b → a1 b) → aC w F d cs S → aC w bV d cs a1
 | .hole, _, _, _, _, h => h
 | .bool _, _, _, _, _, h => h
 | .fi, _, _, _, _, h => h
 | .int _ _, _, _, _, _, h => h
 | .str _, _, _, _, _, h => h
 | .dC, _, _, _, _, h => h
 | .bg, _, _, _, _, h => h
 | .slice xs, cs, S, _, cb, h => by
   rw [aC] at h ⊢
   rcases h with h | ⟨b, o, cap, eK, sz, ai, aj, aP, bb, b5, cF, cq⟩
   ·exact .inl h
   ·exact .inr ⟨b, o, cap, eK, sz, ai, bD _ aj, aP, bb, b5, cF, bl.mono bD xs _ _ _ (fun _ h => h) cq⟩
 | .aw sz xs, cs, S, _, cb, h => by
   rw [aC] at h ⊢
   rcases h with h | ⟨b, cap, cur, e, fr, a1, ai, aj, aP, bb, b5, cF, cq, fO, iI, hO, k9⟩
   ·exact .inl h
   ·exact .inr ⟨b, cap, cur, e, fr, a1, ai, cb _ aj, aP, bb, b5, cF, cq, fO, bl.mono bD xs _ _ _ (fun _ h => h) iI, fun c ay => cb _ (hO _ ay), k9⟩
 | .ref d, cs, S, _, cb, h => by
   rw [aC] at h ⊢
   obtain ⟨b, o, eK, ai, aj, aP, bb⟩ := h
   exact ⟨b, o, eK, ai, bD _ aj, aP, aC.mono bD d _ _ _ (fun _ h => h) bb⟩
 | .a8 d, cs, S, _, cb, h => by
   rw [aC] at h ⊢
   obtain ⟨b, cur, e, fr, a1, ai, aj, aP, bb, b5, cF, cq⟩ := h
   exact ⟨b, cur, e, fr, a1, ai, cb _ aj, aP, bb, aC.mono bD d _ _ _ (fun _ h => h) b5, fun c ay => cb _ (cF _ ay), cq⟩
 | .agg aB, cs, S, _, cb, h => by rw [aC] at h ⊢; exact bl.mono bD aB _ _ _ cb h
 | .tuple aB, cs, S, _, cb, h => by rw [aC] at h ⊢; exact bl.mono bD aB _ _ _ cb h
 | .fn _ _, _, _, _, _, h => h
 | .h _ _, _, _, _, _, h => h
 | .ax _ _, _, _, _, _, h => h
 | .ae _ _, _, _, _, _, h => h
theorem bl.mono {w : World} {F bV : Nat → Prop} (bD : ∀ b, F b → bV b) :
  ∀ (ds : List I) (cs : List Value) (S a1 : Nat → Prop), (∀ b, S b → a1 b) → bl w F ds cs S → bl w bV ds cs a1
 | [], _, _, _, _, h => h
 | d :: ds, cs, S, _, cb, h => by
   rw [bl] at h ⊢
   obtain ⟨cv, cE, ct, el, ai, aj, aP, bb, b5, cF⟩ := h
   exact ⟨cv, cE, ct, el, ai, aC.mono bD d _ _ _ (fun _ h => h) aj, bl.mono bD ds _ _ _ (fun _ h => h) aP, fun b ae => cb _ (bb _ ae), fun b ae => cb _ (b5 _ ae), cF⟩
end
mutual
theorem aC.length {w : World} {F : Nat → Prop} : ∀ (d : I) (cs : List Value) (S : Nat → Prop), aC w F d cs S → cs.length = d.wd
 | .hole, cs, S, h => by rw [aC] at h; obtain ⟨v, _, rfl⟩ := h; rfl
 | .bool _, cs, S, h => by rw [aC] at h; subst h; rfl
 | .fi, cs, S, h => by rw [aC] at h; obtain ⟨b, rfl⟩ := h; rfl
 | .int _ _, cs, S, h => by rw [aC] at h; subst h; rfl
 | .str _, cs, S, h => by rw [aC] at h; subst h; rfl
 | .dC, cs, S, h => by rw [aC] at h; subst h; rfl
 | .bg, cs, S, h => by rw [aC] at h; subst h; rfl
 | .slice xs, cs, S, h => by
   rw [aC] at h
   rcases h with ⟨_, a, c, rfl, _⟩ | ⟨b, o, cap, eK, sz, rfl, _⟩ <;> rfl
 | .aw sz xs, cs, S, h => by
   rw [aC] at h
   rcases h with ⟨_, a, rfl⟩ | ⟨b, cap, cur, e, fr, a1, rfl, _⟩ <;> rfl
 | .ref d, cs, S, h => by rw [aC] at h; obtain ⟨b, o, eK, rfl, _⟩ := h; rfl
 | .a8 d, cs, S, h => by rw [aC] at h; obtain ⟨b, o, eK, _, _, rfl, _⟩ := h; rfl
 | .agg aB, cs, S, h => by rw [aC] at h; exact bl.length aB _ _ h
 | .tuple aB, cs, S, h => by rw [aC] at h; exact bl.length aB _ _ h
 | .fn _ _, cs, S, h => by rw [aC] at h; exact h.elim
 | .h _ _, cs, S, h => by rw [aC] at h; exact h.elim
 | .ax _ _, cs, S, h => by rw [aC] at h; exact h.elim
 | .ae _ _, cs, S, h => by rw [aC] at h; exact h.elim
theorem bl.length {w : World} {F : Nat → Prop} : ∀ (ds : List I) (cs : List Value) (S : Nat → Prop), bl w F ds cs S → cs.length = I.ev ds
 | [], cs, S, h => by rw [bl] at h; subst h; rfl
 | d :: ds, cs, S, h => by
   rw [bl] at h
   obtain ⟨cv, cE, ct, el, rfl, aj, aP, _⟩ := h
   rw [List.length_append, aC.length d _ _ aj, bl.length ds _ _ aP, I.ev]
end
mutual
def I.share : I → I
 | .aw _ xs => .slice (I.shares xs)
 | .a8 d => .ref d.share
 | .slice xs => .slice (I.shares xs)
 | .ref d => .ref d.share
 | .agg aB => .agg (I.shares aB)
 | .tuple aB => .tuple (I.shares aB)
 | d => d
def I.shares : List I → List I
 | [] => []
 | d :: ds => d.share :: I.shares ds
end
theorem I.q8 (ds : List I) : I.shares ds = ds.map I.share := by
 induction ds with
 | nil => rfl
 | cons d ds ih => simp [I.shares, ih]
mutual
theorem I.yJ : ∀ d : I, d.share.wd = d.wd
 | .hole => rfl
 | .bool _ => rfl
 | .fi => rfl
 | .int _ _ => rfl
 | .str _ => rfl
 | .dC => rfl
 | .bg => rfl
 | .slice _ => rfl
 | .aw _ _ => rfl
 | .ref _ => rfl
 | .a8 _ => rfl
 | .agg aB => by simp only [I.share, I.wd]; exact I.Cz aB
 | .tuple aB => by simp only [I.share, I.wd]; exact I.Cz aB
 | .fn _ _ => rfl
 | .h _ _ => rfl
 | .ax _ _ => rfl
 | .ae _ _ => rfl
theorem I.Cz : ∀ ds : List I, I.ev (I.shares ds) = I.ev ds
 | [] => rfl
 | d :: ds => by simp only [I.shares, I.ev]; rw [I.yJ d, I.Cz ds]
end
theorem ti {w : World} {b : Nat} {cur : Array Value} {e : TypeId} {fr : Nat × Nat} (h : w.heap[b]? = some (.cells cur e fr)) (n : Nat) : hN w b 0 (cur.toList.take n) := by
 intro j c ay
 rw [List.getElem?_take] at ay
 split at ay
 ·simp [World.cell?, h]; simpa using ay
 ·cases ay
mutual
theorem aC.shared {w : World} {F bV : Nat → Prop} (bD : ∀ b, F b → bV b) :
  ∀ (d : I) (cs : List Value) (S : Nat → Prop), (∀ b, S b → bV b) → aC w F d cs S → aC w bV d.share cs (fun _ => False)
 | .hole, _, _, _, h => h
 | .bool _, _, _, _, h => h
 | .fi, _, _, _, h => h
 | .int _ _, _, _, _, h => h
 | .str _, _, _, _, h => h
 | .dC, _, _, _, h => h
 | .bg, _, _, _, h => h
 | .slice xs, cs, S, cb, h => by
   rw [I.share, aC]
   rw [aC] at h
   rcases h with ⟨rfl, a, c, rfl, ay⟩ | ⟨b, o, cap, eK, sz, ai, aj, aP, bb, b5, cF, cq⟩
   ·exact .inl ⟨rfl, a, c, rfl, ay⟩
   ·refine .inr ⟨b, o, cap, eK, sz, ?_, bD _ aj, ?_, bb, ?_, cF, bl.shared bD xs _ _ (fun _ h => h.elim) cq⟩
    ·simpa [I.q8] using ai
    ·simpa [I.q8] using aP
    ·intro d al
     rw [I.q8] at al
     obtain ⟨bE, hb, rfl⟩ := List.mem_map.1 al
     rw [I.yJ]; exact b5 _ hb
 | .aw sz xs, cs, S, cb, h => by
   rw [I.share, aC]
   rw [aC] at h
   rcases h with ⟨rfl, a, rfl⟩ | ⟨b, cap, cur, e, fr, a1, ai, aj, aP, bb, b5, cF, cq, fO, iI, hO, k9⟩
   ·exact .inl ⟨rfl, a, 0, rfl, Nat.zero_le _, fun _ => rfl⟩
   ·refine .inr ⟨b, 0, cap, _, sz, ?_, cb _ aj, ?_, cF, ?_, ti aP _, bl.shared bD xs _ _ (fun c ay => cb _ (hO _ ay)) iI⟩
    ·simpa [I.q8] using ai
    ·simpa [I.q8] using b5
    ·intro d al
     rw [I.q8] at al
     obtain ⟨bE, hb, rfl⟩ := List.mem_map.1 al
     rw [I.yJ]; exact fO _ hb
 | .ref d, cs, S, cb, h => by
   rw [I.share, aC]
   rw [aC] at h
   obtain ⟨b, o, eK, ai, aj, aP, bb⟩ := h
   exact ⟨b, o, eK, ai, bD _ aj, aP, aC.shared bD d _ _ (fun _ h => h.elim) bb⟩
 | .a8 d, cs, S, cb, h => by
   rw [I.share, aC]
   rw [aC] at h
   obtain ⟨b, cur, e, fr, a1, ai, aj, aP, bb, b5, cF, cq⟩ := h
   refine ⟨b, 0, cur.toList, ai, cb _ aj, ?_, aC.shared bD d _ _ (fun c ay => cb _ (cF _ ay)) b5⟩
   have := ti aP cur.toList.length
   rwa [List.take_length] at this
 | .agg aB, cs, S, cb, h => by rw [I.share, aC]; rw [aC] at h; exact bl.shared bD aB _ _ cb h
 | .tuple aB, cs, S, cb, h => by rw [I.share, aC]; rw [aC] at h; exact bl.shared bD aB _ _ cb h
 | .fn _ _, _, _, _, h => h
 | .h _ _, _, _, _, h => h
 | .ax _ _, _, _, _, h => h
 | .ae _ _, _, _, _, h => h
theorem bl.shared {w : World} {F bV : Nat → Prop} (bD : ∀ b, F b → bV b) :
  ∀ (ds : List I) (cs : List Value) (S : Nat → Prop), (∀ b, S b → bV b) → bl w F ds cs S → bl w bV (I.shares ds) cs (fun _ => False)
 | [], _, _, _, h => h
 | d :: ds, cs, S, cb, h => by
   simp only [I.shares]
   rw [bl] at h ⊢
   obtain ⟨cv, cE, ct, el, ai, aj, aP, bb, b5, cF⟩ := h
   exact ⟨cv, cE, _, _, ai, aC.shared bD d _ _ (fun b ae => cb _ (bb _ ae)) aj, bl.shared bD ds _ _ (fun b ae => cb _ (b5 _ ae)) aP, fun _ h => h, fun _ h => h, fun _ h => h.elim⟩
end
def I.sub : List Nat → I → Option I
 | [], d => some d
 | k :: q, .agg aB => match aB[k]? with
   | some d => I.sub q d
   | none => none
 | k :: q, .tuple aB => match aB[k]? with
   | some d => I.sub q d
   | none => none
 | i :: q, .aw _ xs => match xs[i]? with
   | some d => I.sub q d
   | none => none
 | 0 :: q, .a8 d => I.sub q d
 | _ :: _, _ => none
def I.put : List Nat → I → I → I
 | [], n, _ => n
 | k :: q, n, .agg aB => match aB[k]? with
   | some d => .agg (aB.set k (I.put q n d))
   | none => .agg aB
 | k :: q, n, .tuple aB => match aB[k]? with
   | some d => .tuple (aB.set k (I.put q n d))
   | none => .tuple aB
 | i :: q, n, .aw sz xs => match xs[i]? with
   | some d => .aw sz (xs.set i (I.put q n d))
   | none => .aw sz xs
 | 0 :: q, n, .a8 d => .a8 (I.put q n d)
 | _ :: _, _, d => d
def my (w : World) (b o n : Nat) : List Value := (List.range n).map fun j => (w.cell? ⟨b, o + j, none⟩).getD undef
theorem hN.my {w : World} {b o : Nat} {cs : List Value} (h : hN w b o cs) : my w b o cs.length = cs := by
 unfold dg.my
 apply List.ext_getElem?
 intro i
 rw [List.getElem?_map]
 by_cases ar : i < cs.length
 ·have : cs[i]? = some cs[i] := List.getElem?_eq_getElem ar
  simp [ar, h i _ this]
 ·simp [ar]
def dq (w : World) : List Nat → I → List Value → Option (Nat × Nat) → Option (I × List Value × Option (Nat × Nat))
 | [], d, cs, a => some (d, cs, a)
 | k :: q, .agg aB, cs, a => match aB[k]? with
   | some d => dq w q d ((cs.drop (I.ev (aB.take k))).take d.wd) (a.map fun l => (l.1, l.2 + I.ev (aB.take k)))
   | none => none
 | k :: q, .tuple aB, cs, a => match aB[k]? with
   | some d => dq w q d ((cs.drop (I.ev (aB.take k))).take d.wd) (a.map fun l => (l.1, l.2 + I.ev (aB.take k)))
   | none => none
 | i :: q, .aw sz xs, cs, _ => match xs[i]?, cs with
   | some d, [.slice (some ⟨b, _, _⟩) _ _] => dq w q d (my w b (i * sz) sz) (some (b, i * sz))
   | _, _ => none
 | 0 :: q, .a8 d, cs, _ => match cs with
   | [.pointer (some ⟨b, _, _⟩)] => dq w q d (my w b 0 d.wd) (some (b, 0))
   | _ => none
 | _ :: _, _, _, _ => none
theorem tj (cv gk cE : List Value) (n m : Nat) (ai : cv.length = n) (aj : gk.length = m) : ((cv ++ (gk ++ cE)).drop n).take m = gk := by
 rw [List.drop_left' ai, List.take_left' aj]
theorem bl.pick {w : World} {F : Nat → Prop} : ∀ (ds : List I) (cs : List Value) (S : Nat → Prop) (k : Nat) (d : I),
  bl w F ds cs S → ds[k]? = some d → ∃ (cv gk cE : List Value) (ct kd : Nat → Prop), cs = cv ++ (gk ++ cE) ∧ cv.length = I.ev (ds.take k) ∧
   (∀ b, ct b → S b) ∧ (∀ b, kd b → S b) ∧ (∀ b, ct b → ¬ kd b) ∧ aC w F d gk kd ∧
   ∀ (aS : World) (bE : I) (q9 : List Value) (a1 : Nat → Prop), (∀ b, F b → aS.heap[b]? = w.heap[b]?) → (∀ b, ct b → aS.heap[b]? = w.heap[b]?) →
     aC aS F bE q9 a1 → (∀ b, a1 b → ¬ ct b) → bl aS F (ds.set k bE) (cv ++ (q9 ++ cE)) (fun b => ct b ∨ a1 b)
 | [], _, _, _, _, _, aE => by simp at aE
 | x :: ds, cs, S, 0, d, h, aE => by
   rw [bl] at h
   obtain ⟨cv, cE, hF, gK, rfl, ai, aj, cw, ae, lv⟩ := h
   simp at aE; subst aE
   refine ⟨[], cv, cE, gK, hF, rfl, rfl, ae, cw, fun b ae cw => lv _ cw ae, ai, ?_⟩
   intro aS bE q9 a1 bD cb al iW
   simp only [List.set_cons_zero, List.nil_append]
   rw [bl]
   exact ⟨q9, cE, a1, gK, rfl, al, bl.frame bD _ _ _ cb aj, fun b h => .inr h, fun b h => .inl h, fun b h => iW b h⟩
 | x :: ds, cs, S, k + 1, d, h, aE => by
   rw [bl] at h
   obtain ⟨mz, Nz, hF, gK, rfl, ai, aj, cw, ae, lv⟩ := h
   simp only [List.getElem?_cons_succ] at aE
   have hl := aC.length _ _ _ ai
   obtain ⟨cv, gk, cE, ct, kd, rfl, ke, yK, vy, CA, CB, CC⟩ := bl.pick ds Nz gK k d aj aE
   refine ⟨mz ++ cv, gk, cE, fun b => hF b ∨ ct b, kd, by simp, by simp [I.ev, hl, ke], ?_, fun b h => ae _ (vy _ h), ?_, CB, ?_⟩
   ·rintro b (h | h)
    ·exact cw _ h
    ·exact ae _ (yK _ h)
   ·rintro b (h | h) aE
    ·exact lv _ h (vy _ aE)
    ·exact CA _ h aE
   ·intro aS bE q9 a1 bD cb al iW
    simp only [List.set_cons_succ]
    rw [bl]
    refine ⟨mz, cv ++ (q9 ++ cE), hF, fun b => ct b ∨ a1 b, by simp, aC.frame bD _ _ _ (fun b ae => cb b (.inl ae)) ai,
     CC aS bE q9 a1 bD (fun b ae => cb b (.inr ae)) al (fun b ae ay => iW b ae (.inr ay)), fun b h => .inl (.inl h), ?_, ?_⟩
    ·rintro b (h | h)
     ·exact .inl (.inr h)
     ·exact .inr h
    ·rintro b h (bB | bB)
     ·exact lv _ h (yK _ bB)
     ·exact iW _ bB (.inl h)
theorem CD : ∀ (aB : List I) (k : Nat) (x y : I), aB[k]? = some x → y.wd = x.wd → I.ev (aB.set k y) = I.ev aB := by
 intro aB
 induction aB with
 | nil => intro k x y h; simp at h
 | cons a aB ih =>
   intro k x y h e
   cases k with
   | zero => simp at h; subst h; simp [I.ev, e]
   | succ k => simp at h; simp [I.ev, ih k x y h e]
theorem q_ {sz : Nat} : ∀ (xs : List I), (∀ d ∈ xs, d.wd = sz) → I.ev xs = xs.length * sz
 | [], _ => by simp [I.ev]
 | x :: xs, h => by
   rw [I.ev, h x (by simp), q_ xs (fun d al => h d (by simp [al])), List.length_cons, Nat.add_mul, Nat.one_mul, Nat.add_comm]
theorem I.tk : ∀ (q : List Nat) (av d bE : I), I.sub q av = some d → bE.wd = d.wd → (I.put q bE av).wd = av.wd := by
 intro q
 induction q with
 | nil => intro av d bE h e; simp [I.sub] at h; subst h; simpa [I.put] using e
 | cons k q ih =>
   intro av d bE h e
   cases av with
   | agg aB =>
     simp only [I.sub] at h
     split at h
     ·rename_i x aA
      simp only [I.put, aA, I.wd]
      exact CD _ _ _ _ aA (ih _ _ _ h e)
     ·cases h
   | tuple aB =>
     simp only [I.sub] at h
     split at h
     ·rename_i x aA
      simp only [I.put, aA, I.wd]
      exact CD _ _ _ _ aA (ih _ _ _ h e)
     ·cases h
   | aw sz xs =>
     simp only [I.sub] at h
     split at h
     ·rename_i x aA
      simp only [I.put, aA, I.wd]
     ·cases h
   | a8 x =>
     cases k with
     | zero => simp only [I.put, I.wd]
     | succ k => simp [I.sub] at h
   | _ => simp [I.sub] at h
theorem CE {sz : Nat} {xs : List I} {i : Nat} {y : I} (h : ∀ d ∈ xs, d.wd = sz) (bL : y.wd = sz) : ∀ d ∈ xs.set i y, d.wd = sz := by
 intro d al
 rcases List.mem_or_eq_of_mem_set al with al | rfl
 ·exact h d al
 ·exact bL
theorem tl {w : World} {b : Nat} {cur : Array Value} {e : TypeId} {fr : Nat × Nat} (h : w.heap[b]? = some (.cells cur e fr)) {l m r : List Value} (ay : cur.toList = l ++ (m ++ r)) :
  my w b l.length m.length = m := by
 refine hN.my (fun j c cx => ?_)
 have fy : j < m.length := (List.getElem?_eq_some_iff.1 cx).1
 have : cur.toList[l.length + j]? = some c := by
  rw [ay, List.getElem?_append_right (by omega), List.getElem?_append_left (by omega)]
  rw [← cx]; congr 1; omega
 simp [World.cell?, h]
 simpa using this
def Flat (w : World) (F : Nat → Prop) (q : List Nat) (av : I) (cs : List Value) (a : Option (Nat × Nat)) (d : I) (c0 : List Value) (cS : Option (Nat × Nat)) (e2 : Nat → Prop) : Prop :=
 ∃ l r : List Value, cs = l ++ (c0 ++ r) ∧ cS = a.map (fun x => (x.1, x.2 + l.length)) ∧
   ∀ (aS : World) (bE : I) (gl : List Value) (a1 : Nat → Prop), (∀ b, F b → aS.heap[b]? = w.heap[b]?) → (∀ b, e2 b → aS.heap[b]? = w.heap[b]?) →
     bE.wd = d.wd → aC aS F bE gl a1 → (∀ b, a1 b → ¬ e2 b) → aC aS F (I.put q bE av) (l ++ (gl ++ r)) (fun b => e2 b ∨ a1 b)
def CF (w : World) (F : Nat → Prop) (q : List Nat) (av : I) (cs : List Value) (d : I) (c0 : List Value) (cS : Option (Nat × Nat)) (e2 : Nat → Prop) : Prop :=
 ∃ (b : Nat) (cur : Array Value) (e : TypeId) (fr : Nat × Nat) (l r : List Value), cS = some (b, l.length) ∧ e2 b ∧ w.heap[b]? = some (.cells cur e fr) ∧ p9 fr cur.size ∧ cur.toList = l ++ (c0 ++ r) ∧
   ∀ (aS : World) (bE : I) (gl : List Value) (a1 : Nat → Prop), (∀ b, F b → aS.heap[b]? = w.heap[b]?) → (∀ c, e2 c → c ≠ b → aS.heap[c]? = w.heap[c]?) →
     aS.heap[b]? = some (.cells (l ++ (gl ++ r)).toArray e fr) →
     bE.wd = d.wd → aC aS F bE gl a1 → (∀ b, a1 b → ¬ e2 b) → aC aS F (I.put q bE av) cs (fun b => e2 b ∨ a1 b)
theorem ctx {w : World} {F : Nat → Prop} : ∀ (q : List Nat) (av : I) (cs : List Value) (S : Nat → Prop) (a : Option (Nat × Nat)) (d : I),
  aC w F av cs S → I.sub q av = some d → ∃ (c0 : List Value) (cS : Option (Nat × Nat)) (e2 hc : Nat → Prop), dq w q av cs a = some (d, c0, cS) ∧
   (∀ b, e2 b → S b) ∧ (∀ b, hc b → S b) ∧ (∀ b, e2 b → ¬ hc b) ∧ aC w F d c0 hc ∧ (Flat w F q av cs a d c0 cS e2 ∨ CF w F q av cs d c0 cS e2) := by
 intro q
 induction q with
 | nil =>
   intro av cs S a d h al
   simp [I.sub] at al; subst al
   refine ⟨cs, a, fun _ => False, S, rfl, fun _ h => h.elim, fun _ h => h, fun _ h => h.elim, h, .inl ⟨[], [], by simp, ?_, ?_⟩⟩
   ·cases a <;> simp
   ·intro aS bE gl a1 _ _ hw hb _
    simp only [I.put, List.nil_append, List.append_nil]
    exact aC.mono (fun _ h => h) _ _ _ _ (fun b h => .inr h) hb
 | cons k q ih =>
   have fields : ∀ (mk : List I → I) (CG : ∀ (w : World) (F : Nat → Prop) (aB : List I) (cs : List Value) (S : Nat → Prop), aC w F (mk aB) cs S = bl w F aB cs S) (aB : List I) (cs : List Value) (S : Nat → Prop) (a : Option (Nat × Nat)) (x d : I),
     (kv : ∀ bE, I.put (k :: q) bE (mk aB) = mk (aB.set k (I.put q bE x))) → bl w F aB cs S → aB[k]? = some x → I.sub q x = some d →
     ∃ (c0 : List Value) (cS : Option (Nat × Nat)) (e2 hc : Nat → Prop), dq w q x ((cs.drop (I.ev (aB.take k))).take x.wd) (a.map fun l => (l.1, l.2 + I.ev (aB.take k))) = some (d, c0, cS) ∧
     (∀ b, e2 b → S b) ∧ (∀ b, hc b → S b) ∧ (∀ b, e2 b → ¬ hc b) ∧ aC w F d c0 hc ∧ (Flat w F (k :: q) (mk aB) cs a d c0 cS e2 ∨ CF w F (k :: q) (mk aB) cs d c0 cS e2) := by
    intro mk CG aB cs S a x d kv h aA al
    obtain ⟨cv, gk, cE, ct, kd, rfl, h5, gL, hr, h6, hd, lV⟩ := bl.pick aB cs S k x h aA
    have hl := aC.length _ _ _ hd
    rw [tj cv gk cE _ _ h5 hl]
    obtain ⟨c0, cS, e2, hc, hG, bc, bG, cB, eC, fH⟩ := ih x _ kd (a.map fun l => (l.1, l.2 + I.ev (aB.take k))) d hd al
    refine ⟨c0, cS, fun b => ct b ∨ e2 b, hc, hG, ?_, fun b ae => hr _ (bG _ ae), ?_, eC, ?_⟩
    ·rintro b (h | h)
     ·exact gL _ h
     ·exact hr _ (bc _ h)
    ·rintro b (h | h) al
     ·exact h6 _ h (bG _ al)
     ·exact cB _ h al
    ·have fm : ∀ (b : Nat) (a1 : Nat → Prop), (ct b ∨ e2 b ∨ a1 b) → ((ct b ∨ e2 b) ∨ a1 b) := by
      rintro b a1 (ae | ae | ae)
      ·exact .inl (.inl ae)
      ·exact .inl (.inr ae)
      ·exact .inr ae
     rcases fH with ⟨l, r, rfl, a_, a3⟩ | ⟨b, cur, e, fr, l, r, a4, a_, a3, c1, c6, cl⟩
     ·refine .inl ⟨cv ++ l, r ++ cE, by simp, ?_, ?_⟩
      ·rw [a_, ← h5]; cases a <;> simp [Nat.add_assoc]
      ·intro aS bE gl a1 bD cb hw hb iW
       have dV := a3 aS bE gl a1 bD (fun b ae => cb b (.inr ae)) hw hb (fun b ae ay => iW b ae (.inr ay))
       have eS := lV aS _ _ _ bD (fun b ae => cb b (.inl ae)) dV (by
        rintro b (ae | ae) ai
        ·exact h6 _ ai (bc _ ae)
        ·exact iW _ ae (.inl ai))
       rw [kv, CG]
       have := bl.mono (fun _ h => h) _ _ _ _ (fun b => fm b a1) eS
       simpa using this
     ·refine .inr ⟨b, cur, e, fr, l, r, a4, .inr a_, a3, c1, c6, ?_⟩
      intro aS bE gl a1 bD cb lx hw hb iW
      have dV := cl aS bE gl a1 bD (fun c ay => cb c (.inr ay)) lx hw hb (fun b ae ay => iW b ae (.inr ay))
      have eS := lV aS _ _ _ bD (fun c ay => cb c (.inl ay) (by rintro rfl; exact h6 _ ay (bc _ a_))) dV (by
        rintro b (ae | ae) ai
        ·exact h6 _ ai (bc _ ae)
        ·exact iW _ ae (.inl ai))
      rw [kv, CG]
      exact bl.mono (fun _ h => h) _ _ _ _ (fun b => fm b a1) eS
   intro av cs S a d h al
   cases av with
   | agg aB =>
     simp only [I.sub] at al
     split at al
     ·rename_i x aA
      rw [aC] at h
      have := fields .agg (fun _ _ _ _ _ => by rw [aC]) aB cs S a x d (fun bE => by simp only [I.put, aA]) h aA al
      simpa only [dq, aA] using this
     ·cases al
   | tuple aB =>
     simp only [I.sub] at al
     split at al
     ·rename_i x aA
      rw [aC] at h
      have := fields .tuple (fun _ _ _ _ _ => by rw [aC]) aB cs S a x d (fun bE => by simp only [I.put, aA]) h aA al
      simpa only [dq, aA] using this
     ·cases al
   | aw sz xs =>
     simp only [I.sub] at al
     split at al
     ·rename_i x aA
      rw [aC] at h
      rcases h with ⟨rfl, _, rfl⟩ | ⟨b, cap, cur, e, fr, ew, rfl, aj, aP, bb, b5, cF, cq, fO, iI, hO, k9⟩
      ·simp at aA
      ·obtain ⟨cv, gk, cE, ct, kd, p, h5, gL, hr, h6, hd, lV⟩ := bl.pick xs _ ew k x iI aA
       have hl := aC.length _ _ _ hd
       have NA : k < xs.length := (List.getElem?_eq_some_iff.1 aA).1
       have vz : x.wd = sz := fO x (List.mem_of_getElem? aA)
       have cm : I.ev (xs.take k) = k * sz := by
        rw [q_ _ (fun d al => fO d (List.mem_of_mem_take al))]
        rw [List.length_take, Nat.min_eq_left (by omega)]
       obtain ⟨pr, kO⟩ : ∃ pr, cur.toList = cv ++ (gk ++ (cE ++ pr)) := by
        refine ⟨cur.toList.drop (xs.length * sz), ?_⟩
        have := (List.take_append_drop (xs.length * sz) cur.toList).symm
        rw [p] at this
        simpa using this
       have jy : my w b (k * sz) sz = gk := by
        have := tl aP kO
        rwa [h5, cm, hl, vz] at this
       obtain ⟨c0, cS, e2, hc, hG, bc, bG, cB, eC, fH⟩ := ih x _ kd (some (b, k * sz)) d hd al
       have kv : ∀ bE, I.put (k :: q) bE (.aw sz xs) = .aw sz (xs.set k (I.put q bE x)) := fun bE => by simp only [I.put, aA]
       refine ⟨c0, cS, fun c => c = b ∨ ct c ∨ e2 c, hc, ?_, ?_, fun c ay => hO _ (hr _ (bG _ ay)), ?_, eC, .inr ?_⟩
       ·simp only [dq, aA, jy]; exact hG
       ·rintro c (rfl | h | h)
        ·exact aj
        ·exact hO _ (gL _ h)
        ·exact hO _ (hr _ (bc _ h))
       ·rintro c (rfl | h | h) al
        ·exact k9 (hr _ (bG _ al))
        ·exact h6 _ h (bG _ al)
        ·exact cB _ h al
       ·have lW : ∀ bE, bE.wd = d.wd → (I.put q bE x).wd = sz := fun bE hw => (I.tk q x d bE al hw).trans vz
        rcases fH with ⟨l, r, rfl, a_, a3⟩ | ⟨fU, CH, gG, CI, l, r, a4, a_, a3, c1, c6, cl⟩
        ·refine ⟨b, cur, e, fr, cv ++ l, r ++ (cE ++ pr), ?_, .inl rfl, aP, bb, ?_, ?_⟩
         ·rw [a_]; simp [h5, cm]
         ·rw [kO]; simp
         ·intro aS bE gl a1 bD cb lx hw hb iW
          have dV := a3 aS bE gl a1 bD (fun c ay => cb c (.inr (.inr ay)) (by rintro rfl; exact k9 (hr _ (bc _ ay)))) hw hb (fun b ae ay => iW b ae (.inr (.inr ay)))
          have eS := lV aS _ _ _ bD (fun c ay => cb c (.inr (.inl ay)) (by rintro rfl; exact k9 (gL _ ay))) dV (by
           rintro b (ae | ae) ai
           ·exact h6 _ ai (bc _ ae)
           ·exact iW _ ae (.inr (.inl ai)))
          have vA := aC.length _ _ _ hb
          have vB := aC.length _ _ _ eC
          rw [kv, aC]
          refine .inr ⟨b, cap, _, e, fr, fun b => ct b ∨ e2 b ∨ a1 b, by simp, .inl (.inl rfl), lx, ?_, by simpa using b5, cF, ?_, CE fO (lW bE hw), ?_, ?_, ?_⟩
          ·have : (cv ++ l ++ (gl ++ (r ++ (cE ++ pr)))).toArray.size = cur.size := by
            have : cur.size = cur.toList.length := by simp
            rw [this, kO]; simp [vA, vB, hw]
           rw [this]; exact bb
          ·rw [← cq]
           have : cur.size = cur.toList.length := by simp
           rw [this, kO]; simp [vA, vB, hw]
          ·have hlen : (cv ++ (l ++ (gl ++ r) ++ cE)).length = xs.length * sz := by
            have := congrArg List.length p
            rw [List.length_take, Nat.min_eq_left (by simp [cq]; exact Nat.mul_le_mul_right _ b5)] at this
            rw [this]; simp [vA, vB, hw]
           have : (cv ++ l ++ (gl ++ (r ++ (cE ++ pr)))) = (cv ++ (l ++ (gl ++ r) ++ cE)) ++ pr := by simp
           rw [List.length_set]
           simp only [this]
           rw [List.take_left' hlen]
           exact eS
          ·rintro c (h | h | h)
           ·exact .inl (.inr (.inl h))
           ·exact .inl (.inr (.inr h))
           ·exact .inr h
          ·rintro (h | h | h)
           ·exact k9 (gL _ h)
           ·exact k9 (hr _ (bc _ h))
           ·exact iW _ h (.inl rfl)
        ·refine ⟨fU, CH, gG, CI, l, r, a4, .inr (.inr a_), a3, c1, c6, ?_⟩
         intro aS bE gl a1 bD cb lx hw hb iW
         have dV := cl aS bE gl a1 bD (fun c ay eb => cb c (.inr (.inr ay)) eb) lx hw hb (fun b ae ay => iW b ae (.inr (.inr ay)))
         have eb : ∀ c, ct c → c ≠ fU := by rintro c ay rfl; exact h6 _ ay (bc _ a_)
         have eS := lV aS _ _ _ bD (fun c ay => cb c (.inr (.inl ay)) (eb c ay)) dV (by
          rintro b (ae | ae) ai
          ·exact h6 _ ai (bc _ ae)
          ·exact iW _ ae (.inr (.inl ai)))
         have CJ : b ≠ fU := by rintro rfl; exact k9 (hr _ (bc _ a_))
         rw [kv, aC]
         refine .inr ⟨b, cap, cur, e, fr, fun b => ct b ∨ e2 b ∨ a1 b, by simp, .inl (.inl rfl), (cb b (.inl rfl) CJ).trans aP, bb, by simpa using b5, cF, cq, CE fO (lW bE hw), ?_, ?_, ?_⟩
         ·rw [List.length_set, p]; exact eS
         ·rintro c (h | h | h)
          ·exact .inl (.inr (.inl h))
          ·exact .inl (.inr (.inr h))
          ·exact .inr h
         ·rintro (h | h | h)
          ·exact k9 (gL _ h)
          ·exact k9 (hr _ (bc _ h))
          ·exact iW _ h (.inl rfl)
     ·cases al
   | a8 x =>
     cases k with
     | succ k => simp [I.sub] at al
     | zero =>
       simp only [I.sub] at al
       rw [aC] at h
       obtain ⟨b, cur, e, fr, ew, rfl, aj, aP, bb, b5, cF, cq⟩ := h
       have hl := aC.length _ _ _ b5
       have jy : my w b 0 x.wd = cur.toList := by
        have := tl (l := []) (m := cur.toList) (r := []) aP (by simp)
        rwa [hl] at this
       obtain ⟨c0, cS, e2, hc, hG, bc, bG, cB, eC, fH⟩ := ih x _ ew (some (b, 0)) d b5 al
       have kv : ∀ bE, I.put (0 :: q) bE (.a8 x) = .a8 (I.put q bE x) := fun bE => rfl
       refine ⟨c0, cS, fun c => c = b ∨ e2 c, hc, ?_, ?_, fun c ay => cF _ (bG _ ay), ?_, eC, .inr ?_⟩
       ·simp only [dq, jy]; exact hG
       ·rintro c (rfl | h)
        ·exact aj
        ·exact cF _ (bc _ h)
       ·rintro c (rfl | h) al
        ·exact cq (bG _ al)
        ·exact cB _ h al
       ·rcases fH with ⟨l, r, a4, a_, a3⟩ | ⟨fU, CH, gG, CI, l, r, a4, a_, a3, c1, c6, cl⟩
        ·refine ⟨b, cur, e, fr, l, r, ?_, .inl rfl, aP, bb, a4, ?_⟩
         ·rw [a_]; simp
         ·intro aS bE gl a1 bD cb lx hw hb iW
          have dV := a3 aS bE gl a1 bD (fun c ay => cb c (.inr ay) (by rintro rfl; exact cq (bc _ ay))) hw hb (fun b ae ay => iW b ae (.inr ay))
          have vA := aC.length _ _ _ hb
          have vB := aC.length _ _ _ eC
          rw [kv, aC]
          refine ⟨b, _, e, fr, fun b => e2 b ∨ a1 b, rfl, .inl (.inl rfl), lx, ?_, dV, ?_, ?_⟩
          ·have : (l ++ (gl ++ r)).toArray.size = cur.size := by
            have : cur.size = cur.toList.length := by simp
            rw [this, a4]; simp [vA, vB, hw]
           rw [this]; exact bb
          ·rintro c (h | h)
           ·exact .inl (.inr h)
           ·exact .inr h
          ·rintro (h | h)
           ·exact cq (bc _ h)
           ·exact iW _ h (.inl rfl)
        ·refine ⟨fU, CH, gG, CI, l, r, a4, .inr a_, a3, c1, c6, ?_⟩
         intro aS bE gl a1 bD cb lx hw hb iW
         have dV := cl aS bE gl a1 bD (fun c ay eb => cb c (.inr ay) eb) lx hw hb (fun b ae ay => iW b ae (.inr ay))
         have CJ : b ≠ fU := by rintro rfl; exact cq (bc _ a_)
         rw [kv, aC]
         refine ⟨b, cur, e, fr, fun b => e2 b ∨ a1 b, rfl, .inl (.inl rfl), (cb b (.inl rfl) CJ).trans aP, bb, dV, ?_, ?_⟩
         ·rintro c (h | h)
          ·exact .inl (.inr h)
          ·exact .inr h
         ·rintro (h | h)
          ·exact cq (bc _ h)
          ·exact iW _ h (.inl rfl)
   | _ => simp [I.sub] at al
mutual
def I.plain : I → Bool
 | .aw _ _ => false
 | .a8 _ => false
 | .agg aB => I.dI aB
 | .tuple aB => I.dI aB
 | _ => true
def I.dI : List I → Bool
 | [] => true
 | d :: ds => d.plain && I.dI ds
end
mutual
def I.dh : I → I
 | .aw _ _ => .hole
 | .a8 _ => .hole
 | .agg aB => .agg (I.kP aB)
 | .tuple aB => .tuple (I.kP aB)
 | d => d
def I.kP : List I → List I
 | [] => []
 | d :: ds => d.dh :: I.kP ds
end
mutual
theorem I.p_ : ∀ d : I, d.dh.wd = d.wd
 | .hole => rfl
 | .bool _ => rfl
 | .fi => rfl
 | .int _ _ => rfl
 | .str _ => rfl
 | .dC => rfl
 | .bg => rfl
 | .slice _ => rfl
 | .aw _ _ => rfl
 | .ref _ => rfl
 | .a8 _ => rfl
 | .agg aB => by simp only [I.dh, I.wd]; exact I.CK aB
 | .tuple aB => by simp only [I.dh, I.wd]; exact I.CK aB
 | .fn _ _ => rfl
 | .h _ _ => rfl
 | .ax _ _ => rfl
 | .ae _ _ => rfl
theorem I.CK : ∀ ds : List I, I.ev (I.kP ds) = I.ev ds
 | [] => rfl
 | d :: ds => by simp only [I.kP, I.ev]; rw [I.p_ d, I.CK ds]
end
mutual
theorem aC.dh {w : World} {F : Nat → Prop} : ∀ (d : I) (cs : List Value) (S a1 : Nat → Prop), aC w F d cs S → aC w F d.dh cs a1
 | .hole, _, _, _, h => h
 | .bool _, _, _, _, h => h
 | .fi, _, _, _, h => h
 | .int _ _, _, _, _, h => h
 | .str _, _, _, _, h => h
 | .dC, _, _, _, h => h
 | .bg, _, _, _, h => h
 | .slice xs, cs, S, a1, h => by
   show aC w F (.slice xs) cs a1
   rw [aC] at h ⊢; exact h
 | .aw sz xs, cs, S, a1, h => by
   rw [I.dh, aC]
   rw [aC] at h
   rcases h with ⟨_, _, rfl⟩ | ⟨b, cap, cur, e, fr, ew, rfl, _⟩
   ·exact ⟨_, rfl, rfl⟩
   ·exact ⟨_, rfl, rfl⟩
 | .ref d, cs, S, a1, h => by
   show aC w F (.ref d) cs a1
   rw [aC] at h ⊢; exact h
 | .a8 d, cs, S, a1, h => by
   rw [I.dh, aC]
   rw [aC] at h
   obtain ⟨b, cur, e, fr, ew, rfl, _⟩ := h
   exact ⟨_, rfl, rfl⟩
 | .agg aB, cs, S, a1, h => by rw [I.dh, aC]; rw [aC] at h; exact bl.dh aB _ _ _ h
 | .tuple aB, cs, S, a1, h => by rw [I.dh, aC]; rw [aC] at h; exact bl.dh aB _ _ _ h
 | .fn _ _, _, _, _, h => h
 | .h _ _, _, _, _, h => h
 | .ax _ _, _, _, _, h => h
 | .ae _ _, _, _, _, h => h
theorem bl.dh {w : World} {F : Nat → Prop} : ∀ (ds : List I) (cs : List Value) (S a1 : Nat → Prop), bl w F ds cs S → bl w F (I.kP ds) cs a1
 | [], _, _, _, h => h
 | d :: ds, cs, S, a1, h => by
   rw [I.kP, bl]
   rw [bl] at h
   obtain ⟨cv, cE, ct, el, ai, aj, aP, bb, b5, cF⟩ := h
   exact ⟨cv, cE, fun _ => False, fun _ => False, ai, aC.dh d _ _ _ aj, bl.dh ds _ _ _ aP, fun _ h => h.elim, fun _ h => h.elim, fun _ h => h.elim⟩
end
mutual
theorem aC.plain {w : World} {F : Nat → Prop} : ∀ (d : I) (cs : List Value) (S a1 : Nat → Prop), d.plain = true → aC w F d cs S → aC w F d cs a1
 | .hole, _, _, _, _, h => h
 | .bool _, _, _, _, _, h => h
 | .fi, _, _, _, _, h => h
 | .int _ _, _, _, _, _, h => h
 | .str _, _, _, _, _, h => h
 | .dC, _, _, _, _, h => h
 | .bg, _, _, _, _, h => h
 | .slice xs, cs, S, a1, _, h => by rw [aC] at h ⊢; exact h
 | .aw sz xs, cs, S, a1, ax, h => by simp [I.plain] at ax
 | .ref d, cs, S, a1, _, h => by rw [aC] at h ⊢; exact h
 | .a8 d, cs, S, a1, ax, h => by simp [I.plain] at ax
 | .agg aB, cs, S, a1, ax, h => by rw [aC] at h ⊢; exact bl.plain aB _ _ _ ax h
 | .tuple aB, cs, S, a1, ax, h => by rw [aC] at h ⊢; exact bl.plain aB _ _ _ ax h
 | .fn _ _, _, _, _, _, h => h
 | .h _ _, _, _, _, _, h => h
 | .ax _ _, _, _, _, _, h => h
 | .ae _ _, _, _, _, _, h => h
theorem bl.plain {w : World} {F : Nat → Prop} : ∀ (ds : List I) (cs : List Value) (S a1 : Nat → Prop), I.dI ds = true → bl w F ds cs S → bl w F ds cs a1
 | [], _, _, _, _, h => h
 | d :: ds, cs, S, a1, ax, h => by
   rw [bl] at h ⊢
   simp only [I.dI, Bool.and_eq_true] at ax
   obtain ⟨cv, cE, ct, el, ai, aj, aP, bb, b5, cF⟩ := h
   exact ⟨cv, cE, fun _ => False, fun _ => False, ai, aC.plain d _ _ _ ax.1 aj, bl.plain ds _ _ _ ax.2 aP, fun _ h => h.elim, fun _ h => h.elim, fun _ h => h.elim⟩
end
def I.fI : List Nat → I → Bool
 | [], _ => false
 | k :: q, .agg aB => match aB[k]? with
   | some d => I.fI q d
   | none => false
 | k :: q, .tuple aB => match aB[k]? with
   | some d => I.fI q d
   | none => false
 | _ :: _, .aw _ _ => true
 | _ :: _, .a8 _ => true
 | _ :: _, _ => false
theorem yL {aB : List I} (h : I.dI aB = true) {k : Nat} {d : I} (aE : aB[k]? = some d) : d.plain = true := by
 induction aB generalizing k with
 | nil => simp at aE
 | cons a aB ih =>
   simp only [I.dI, Bool.and_eq_true] at h
   cases k with
   | zero => simp at aE; subst aE; exact h.1
   | succ k => simp at aE; exact ih h.2 aE
theorem I.Gr : ∀ (q : List Nat) (d : I), d.plain = true → I.fI q d = false := by
 intro q
 induction q with
 | nil => intros; rfl
 | cons k q ih =>
   intro d al
   cases d <;> first | rfl | (simp [I.plain] at al; done) | skip
   all_goals
    simp only [I.fI]
    split
    ·rename_i aB x aA; exact ih _ (yL (by simpa [I.plain] using al) aA)
    ·rfl
theorem I.Gs : ∀ (q : List Nat) (d e : I), d.plain = true → I.sub q d = some e → e.plain = true := by
 intro q
 induction q with
 | nil => intro d e al h; simp [I.sub] at h; exact h ▸ al
 | cons k q ih =>
   intro d e al h
   cases d <;> first | (simp [I.plain] at al; done) | (simp [I.sub] at h; done) | skip
   all_goals
    simp only [I.sub] at h
    split at h
    ·rename_i aB x aA; exact ih _ _ (yL (by simpa [I.plain] using al) aA) h
    ·cases h
theorem CL {w aS : World} {F : Nat → Prop} : ∀ (q : List Nat) (av : I) (cs : List Value) (S : Nat → Prop) (a : Option (Nat × Nat)) (d : I),
  aC w F av cs S → I.sub q av = some d → (∀ b, S b → aS.heap[b]? = w.heap[b]?) → dq aS q av cs a = dq w q av cs a := by
 intro q
 induction q with
 | nil => intros; rfl
 | cons k q ih =>
   have fields : ∀ (aB : List I) (cs : List Value) (S : Nat → Prop) (a : Option (Nat × Nat)) (x d : I), bl w F aB cs S → aB[k]? = some x → I.sub q x = some d →
     (∀ b, S b → aS.heap[b]? = w.heap[b]?) →
     dq aS q x ((cs.drop (I.ev (aB.take k))).take x.wd) (a.map fun l => (l.1, l.2 + I.ev (aB.take k))) = dq w q x ((cs.drop (I.ev (aB.take k))).take x.wd) (a.map fun l => (l.1, l.2 + I.ev (aB.take k))) := by
    intro aB cs S a x d h aA al cb
    obtain ⟨cv, gk, cE, ct, kd, rfl, h5, gL, hr, h6, hd, lV⟩ := bl.pick aB cs S k x h aA
    rw [tj cv gk cE _ _ h5 (aC.length _ _ _ hd)]
    exact ih x gk kd _ d hd al (fun b ae => cb b (hr _ ae))
   intro av cs S a d h al cb
   cases av with
   | agg aB =>
     simp only [I.sub] at al
     split at al
     ·rename_i x aA
      rw [aC] at h
      simp only [dq, aA]
      exact fields aB cs S a x d h aA al cb
     ·cases al
   | tuple aB =>
     simp only [I.sub] at al
     split at al
     ·rename_i x aA
      rw [aC] at h
      simp only [dq, aA]
      exact fields aB cs S a x d h aA al cb
     ·cases al
   | aw sz xs =>
     simp only [I.sub] at al
     split at al
     ·rename_i x aA
      rw [aC] at h
      rcases h with ⟨rfl, _, rfl⟩ | ⟨b, cap, cur, e, fr, ew, rfl, aj, aP, bb, b5, cF, cq, fO, iI, hO, k9⟩
      ·simp at aA
      ·obtain ⟨cv, gk, cE, ct, kd, p, h5, gL, hr, h6, hd, lV⟩ := bl.pick xs _ ew k x iI aA
       have hl := aC.length _ _ _ hd
       have NA : k < xs.length := (List.getElem?_eq_some_iff.1 aA).1
       have vz : x.wd = sz := fO x (List.mem_of_getElem? aA)
       have cm : I.ev (xs.take k) = k * sz := by
        rw [q_ _ (fun d al => fO d (List.mem_of_mem_take al))]
        rw [List.length_take, Nat.min_eq_left (by omega)]
       obtain ⟨pr, kO⟩ : ∃ pr, cur.toList = cv ++ (gk ++ (cE ++ pr)) := by
        refine ⟨cur.toList.drop (xs.length * sz), ?_⟩
        have := (List.take_append_drop (xs.length * sz) cur.toList).symm
        rw [p] at this
        simpa using this
       have jy : my w b (k * sz) sz = gk := by
        have := tl aP kO
        rwa [h5, cm, hl, vz] at this
       have CM : my aS b (k * sz) sz = gk := by
        have := tl ((cb b aj).trans aP) kO
        rwa [h5, cm, hl, vz] at this
       simp only [dq, aA, jy, CM]
       exact ih x gk kd _ d hd al (fun c ay => cb c (hO _ (hr _ ay)))
     ·cases al
   | a8 x =>
     cases k with
     | succ k => simp [I.sub] at al
     | zero =>
       simp only [I.sub] at al
       rw [aC] at h
       obtain ⟨b, cur, e, fr, ew, rfl, aj, aP, bb, b5, cF, cq⟩ := h
       have hl := aC.length _ _ _ b5
       have jy : my w b 0 x.wd = cur.toList := by
        have := tl (l := []) (m := cur.toList) (r := []) aP (by simp)
        rwa [hl] at this
       have CM : my aS b 0 x.wd = cur.toList := by
        have := tl (l := []) (m := cur.toList) (r := []) ((cb b aj).trans aP) (by simp)
        rwa [hl] at this
       simp only [dq, jy, CM]
       exact ih x cur.toList ew _ d b5 al (fun c ay => cb c (cF _ ay))
   | _ => simp [I.sub] at al
def iu : Value → List Value
 | .agg cs => cs.toList
 | v => [v]
def cV : Value → List Value
 | .tuple vs => vs.toList.flatMap iu
 | v => iu v
def iv : I → Value → Prop
 | .agg _, v => ∃ arr, v = .agg arr
 | _, v => Value.gU v = true
def eL : I → Value → Prop
 | .tuple ds, v => ∃ arr : Array Value, v = .tuple arr ∧ arr.size = ds.length ∧ ∀ (k : Nat) (d : I) (x : Value), ds[k]? = some d → arr[k]? = some x → iv d x ∧ (∀ vs, d ≠ .tuple vs) ∧ (iu x).length = d.wd
 | d, v => iv d v
abbrev au := Nat → I
mutual
def aV (w : World) (F : Nat → Prop) (s : au) (aF : Nat → Value) : I → Value → (Nat → Prop) → Prop
 | .hole, _, _ => True
 | .h x q, v, _ => ∀ d, I.sub q (s x) = some d → d.plain = false → ∃ c0 a, dq w q (s x) (cV (aF x)) none = some (d, c0, a) ∧ cV v = c0 ∧ eL d v
 | .ax x q, v, _ => ∀ d, I.sub q (s x) = some d → I.fI q (s x) = true → ∃ c0 b o, dq w q (s x) (cV (aF x)) none = some (d, c0, some (b, o)) ∧ v = .pointer (some ⟨b, o, none⟩)
 | .ae x k, v, _ => (s x).plain = false → ∃ b cur e fr, v = .pointer (some ⟨b, k, none⟩) ∧ F b ∧ w.heap[b]? = some (.cells cur e fr) ∧ cur.toList = cV (aF x)
 | .fn f cap, v, _ => ∃ arr : Array Value, v = .func (.func f) #[] arr ∧ eX w F s aF cap arr.toList
 | .bool b, v, S => eL (.bool b) v ∧ aC w F (.bool b) (cV v) S
 | .fi, v, S => eL .fi v ∧ aC w F .fi (cV v) S
 | .int k n, v, S => eL (.int k n) v ∧ aC w F (.int k n) (cV v) S
 | .str x, v, S => eL (.str x) v ∧ aC w F (.str x) (cV v) S
 | .dC, v, S => eL .dC v ∧ aC w F .dC (cV v) S
 | .bg, v, S => eL .bg v ∧ aC w F .bg (cV v) S
 | .slice xs, v, S => eL (.slice xs) v ∧ aC w F (.slice xs) (cV v) S
 | .aw sz xs, v, S => eL (.aw sz xs) v ∧ aC w F (.aw sz xs) (cV v) S
 | .ref d, v, S => eL (.ref d) v ∧ aC w F (.ref d) (cV v) S
 | .a8 d, v, S => eL (.a8 d) v ∧ aC w F (.a8 d) (cV v) S
 | .agg d, v, S => eL (.agg d) v ∧ aC w F (.agg d) (cV v) S
 | .tuple d, v, S => eL (.tuple d) v ∧ aC w F (.tuple d) (cV v) S
def eX (w : World) (F : Nat → Prop) (s : au) (aF : Nat → Value) : List I → List Value → Prop
 | [], vs => vs = []
 | d :: ds, vs => ∃ v kf, vs = v :: kf ∧ aV w F s aF d v (fun _ => False) ∧ eX w F s aF ds kf
end
def I.tree : I → Bool
 | .hole => false
 | .h _ _ => false
 | .ax _ _ => false
 | .ae _ _ => false
 | .fn _ _ => false
 | _ => true
theorem aV.da {w : World} {F : Nat → Prop} {s : au} {aF : Nat → Value} {d : I} {v : Value} {S : Nat → Prop} (bh : d.tree = true) :
  aV w F s aF d v S ↔ (eL d v ∧ aC w F d (cV v) S) := by
 cases d <;> first | (simp [I.tree] at bh; done) | rw [aV]
theorem iw {q : List Nat} {av d : I} (h : I.sub q av = some d) (ax : d.plain = false ∨ I.fI q av = true) : av.tree = true := by
 cases q with
 | nil =>
   simp [I.sub] at h; subst h
   rcases ax with ax | ax
   ·cases av <;> first | rfl | (simp [I.plain] at ax)
   ·simp [I.fI] at ax
 | cons k q => cases av <;> first | rfl | (simp [I.sub] at h)
theorem CN {d : I} (h : d.plain = false) : d.tree = true := iw (q := []) (by simp only [I.sub]) (.inl h)
theorem aV.frame {w aS : World} {F bV : Nat → Prop} {s : au} {aF : Nat → Value} {Sx : Nat → Nat → Prop} (bD : ∀ b, F b → aS.heap[b]? = w.heap[b]?) (Gt : ∀ b, F b → bV b)
  (cb : ∀ x b, Sx x b → aS.heap[b]? = w.heap[b]?) (m0 : ∀ x, aV w F s aF (s x) (aF x) (Sx x)) :
  ∀ (d : I) (v : Value) (S : Nat → Prop), (∀ b, S b → aS.heap[b]? = w.heap[b]?) → aV w F s aF d v S → aV aS bV s aF d v S := by
 have kQ : ∀ (x : Nat) (q : List Nat) (d : I), I.sub q (s x) = some d → (d.plain = false ∨ I.fI q (s x) = true) → dq aS q (s x) (cV (aF x)) none = dq w q (s x) (cV (aF x)) none := by
  intro x q d al ax
  have bh := iw al ax
  have := m0 x
  rw [aV.da bh] at this
  exact CL q _ _ (Sx x) none d this.2 al (cb x)
 have NB : ∀ (d : I) (v : Value) (S : Nat → Prop), d.tree = true → (∀ b, S b → aS.heap[b]? = w.heap[b]?) → aV w F s aF d v S → aV aS bV s aF d v S := by
  intro d v S bh ra h
  rw [aV.da bh] at h ⊢
  exact ⟨h.1, aC.mono Gt _ _ _ _ (fun _ h => h) (aC.frame bD _ _ _ ra h.2)⟩
 have step : ∀ n, (∀ (d : I) (v : Value) (S : Nat → Prop), SizeOf.sizeOf d ≤ n → (∀ b, S b → aS.heap[b]? = w.heap[b]?) → aV w F s aF d v S → aV aS bV s aF d v S) ∧
   (∀ (ds : List I) (vs : List Value), SizeOf.sizeOf ds ≤ n → eX w F s aF ds vs → eX aS bV s aF ds vs) := by
  intro n
  induction n with
  | zero =>
    refine ⟨fun d v S ca => ?_, fun ds vs ca => ?_⟩
    ·cases d <;> simp at ca <;> omega
    ·cases ds <;> simp at ca <;> omega
  | succ n ih =>
    refine ⟨fun d v S ca ra h => ?_, fun ds vs ca h => ?_⟩
    ·cases d with
     | hole => rw [aV]; trivial
     | h x q =>
       rw [aV] at h ⊢
       intro d al ax
       rw [kQ x q d al (.inl ax)]
       exact h d al ax
     | ax x q =>
       rw [aV] at h ⊢
       intro d al ax
       rw [kQ x q d al (.inr ax)]
       exact h d al ax
     | ae x k =>
       rw [aV] at h ⊢
       intro ax
       obtain ⟨b, cur, e, fr, ai, aj, aP, bb⟩ := h ax
       exact ⟨b, cur, e, fr, ai, Gt b aj, (bD b aj).trans aP, bb⟩
     | fn f cap =>
       rw [aV] at h ⊢
       obtain ⟨arr, rfl, ay⟩ := h
       exact ⟨arr, rfl, ih.2 _ _ (by simp at ca; omega) ay⟩
     | _ => exact NB _ _ _ rfl ra h
    ·cases ds with
     | nil => rw [eX] at h ⊢; exact h
     | cons d ds =>
       rw [eX] at h ⊢
       obtain ⟨v, kf, rfl, ai, aj⟩ := h
       simp at ca
       exact ⟨v, kf, rfl, ih.1 _ _ _ (by omega) (fun _ h => h.elim) ai, ih.2 _ _ (by omega) aj⟩
 intro d v S ra h
 exact (step (SizeOf.sizeOf d)).1 d v S (Nat.le_refl _) ra h
mutual
def cP (x : Nat) : I → I
 | .h y q => if y = x then .hole else .h y q
 | .ax y q => if y = x then .hole else .ax y q
 | .ae y k => if y = x then .hole else .ae y k
 | .fn f cap => .fn f (iX x cap)
 | d => d
def iX (x : Nat) : List I → List I
 | [] => []
 | d :: ds => cP x d :: iX x ds
end
mutual
def cc (x : Nat) : I → I
 | .h y q => if y = x then (if q = [] then .h y q else .hole) else .h y q
 | .ax y q => if y = x then .hole else .ax y q
 | .fn f cap => .fn f (ix x cap)
 | d => d
def ix (x : Nat) : List I → List I
 | [] => []
 | d :: ds => cc x d :: ix x ds
end
def dr {α : Type} (f : Nat → α) (t : Nat) (v : α) : Nat → α := fun u => if u = t then v else f u
def ly (t : Nat) (s : au) : au := fun u => cP t (s u)
def iJ (t : Nat) (s : au) : au := fun u => cc t (s u)
theorem lX {α : Type} (f : Nat → α) (t : Nat) (v : α) : dr f t v t = v := by simp [dr]
theorem jl {α : Type} (f : Nat → α) {t u : Nat} (v : α) (h : u ≠ t) : dr f t v u = f u := by simp [dr, h]
theorem NC {t : Nat} {d : I} (h : d.tree = true) : cP t d = d := by cases d <;> first | rfl | (simp [I.tree] at h)
theorem CO {t : Nat} {d : I} (h : d.tree = true) : cc t d = d := by cases d <;> first | rfl | (simp [I.tree] at h)
theorem ND {t : Nat} {d : I} (h : (cP t d).tree = true) : d.tree = true ∧ cP t d = d := by
 cases d <;> first | exact ⟨rfl, rfl⟩ | (simp only [cP] at h; first | (split at h <;> simp [I.tree] at h) | simp [I.tree] at h)
theorem CP {t : Nat} {d : I} (h : (cc t d).tree = true) : d.tree = true ∧ cc t d = d := by
 cases d <;> first | exact ⟨rfl, rfl⟩ | (simp only [cc] at h; first | (split at h <;> (try split at h) <;> simp [I.tree] at h) | simp [I.tree] at h)
section
variable {w : World} {F : Nat → Prop} {s az : au} {aF jR : Nat → Value} {t : Nat}
theorem aV.cP (hs : ∀ x, x ≠ t → (az x).tree = true → az x = s x ∧ jR x = aF x) : ∀ (n : Nat),
  (∀ (d : I) (v : Value) (S : Nat → Prop), SizeOf.sizeOf d ≤ n → aV w F s aF d v S → aV w F az jR (dg.cP t d) v S) ∧
  (∀ (ds : List I) (vs : List Value), SizeOf.sizeOf ds ≤ n → eX w F s aF ds vs → eX w F az jR (iX t ds) vs) := by
 intro n
 induction n with
 | zero =>
   refine ⟨fun d v S ca => ?_, fun ds vs ca => ?_⟩
   ·cases d <;> simp at ca <;> omega
   ·cases ds <;> simp at ca <;> omega
 | succ n ih =>
   refine ⟨fun d v S ca h => ?_, fun ds vs ca h => ?_⟩
   ·cases d with
    | hole => rw [dg.cP.eq_def]; simp only; rw [aV]; trivial
    | h x q =>
      simp only [dg.cP]
      split
      ·rw [aV]; trivial
      ·rename_i aA
       rw [aV] at h ⊢
       intro d al ax
       obtain ⟨a4, a_⟩ := hs x aA (iw al (.inl ax))
       rw [a4, a_]; rw [a4] at al
       exact h d al ax
    | ax x q =>
      simp only [dg.cP]
      split
      ·rw [aV]; trivial
      ·rename_i aA
       rw [aV] at h ⊢
       intro d al ax
       obtain ⟨a4, a_⟩ := hs x aA (iw al (.inr ax))
       rw [a4, a_]; rw [a4] at al ax
       exact h d al ax
    | ae x k =>
      simp only [dg.cP]
      split
      ·rw [aV]; trivial
      ·rename_i aA
       rw [aV] at h ⊢
       intro ax
       obtain ⟨a4, a_⟩ := hs x aA (CN ax)
       rw [a_]; rw [a4] at ax
       exact h ax
    | fn f cap =>
      simp only [dg.cP]
      rw [aV] at h ⊢
      obtain ⟨arr, rfl, ay⟩ := h
      exact ⟨arr, rfl, ih.2 _ _ (by simp at ca; omega) ay⟩
    | _ =>
      rw [NC (by rfl)]
      exact (aV.da (by rfl)).2 ((aV.da (by rfl)).1 h)
   ·cases ds with
    | nil => rw [iX, eX]; rw [eX] at h; exact h
    | cons d ds =>
      rw [iX, eX]; rw [eX] at h
      obtain ⟨v, kf, rfl, ai, aj⟩ := h
      simp at ca
      exact ⟨v, kf, rfl, ih.1 _ _ _ (by omega) ai, ih.2 _ _ (by omega) aj⟩
theorem aV.cc {aS : World} (hs : ∀ x, x ≠ t → (az x).tree = true → az x = s x ∧ jR x = aF x) (k_ : jR t = aF t) (oK : (az t).plain = false → (s t).plain = false ∧ ∀ v, eL (s t) v → eL (az t) v)
  (kQ : ∀ x q d, x ≠ t → I.sub q (s x) = some d → (d.plain = false ∨ I.fI q (s x) = true) → dq aS q (s x) (cV (aF x)) none = dq w q (s x) (cV (aF x)) none)
  (bD : ∀ b, F b → aS.heap[b]? = w.heap[b]?) : ∀ (n : Nat),
  (∀ (d : I) (v : Value) (S : Nat → Prop), SizeOf.sizeOf d ≤ n → (∀ b, S b → aS.heap[b]? = w.heap[b]?) → aV w F s aF d v S → aV aS F az jR (dg.cc t d) v S) ∧
  (∀ (ds : List I) (vs : List Value), SizeOf.sizeOf ds ≤ n → eX w F s aF ds vs → eX aS F az jR (ix t ds) vs) := by
 intro n
 induction n with
 | zero =>
   refine ⟨fun d v S ca => ?_, fun ds vs ca => ?_⟩
   ·cases d <;> simp at ca <;> omega
   ·cases ds <;> simp at ca <;> omega
 | succ n ih =>
   refine ⟨fun d v S ca ra h => ?_, fun ds vs ca h => ?_⟩
   ·cases d with
    | hole => rw [dg.cc.eq_def]; simp only; rw [aV]; trivial
    | h x q =>
      simp only [dg.cc]
      split
      ·rename_i aA
       subst aA
       split
       ·rename_i dc
        subst dc
        rw [aV] at h ⊢
        intro d al ax
        simp only [I.sub, Option.some.injEq] at al
        subst al
        obtain ⟨dV, eS⟩ := oK ax
        obtain ⟨c0, a, bc, bG, cB⟩ := h (s x) rfl dV
        simp only [dq, Option.some.injEq, Prod.mk.injEq] at bc
        obtain ⟨-, bc, auw⟩ := bc
        refine ⟨cV (jR x), none, rfl, ?_, eS _ cB⟩
        rw [k_, bG, ← bc]
       ·rw [aV]; trivial
      ·rename_i aA
       rw [aV] at h ⊢
       intro d al ax
       obtain ⟨a4, a_⟩ := hs x aA (iw al (.inl ax))
       rw [a4, a_]; rw [a4] at al
       rw [kQ x q d aA al (.inl ax)]
       exact h d al ax
    | ax x q =>
      simp only [dg.cc]
      split
      ·rw [aV]; trivial
      ·rename_i aA
       rw [aV] at h ⊢
       intro d al ax
       obtain ⟨a4, a_⟩ := hs x aA (iw al (.inr ax))
       rw [a4, a_]; rw [a4] at al ax
       rw [kQ x q d aA al (.inr ax)]
       exact h d al ax
    | ae x k =>
      simp only [dg.cc]
      rw [aV] at h ⊢
      intro ax
      by_cases aA : x = t
      ·subst aA
       obtain ⟨b, cur, e, fr, ai, aj, aP, bb⟩ := h (oK ax).1
       exact ⟨b, cur, e, fr, ai, aj, (bD b aj).trans aP, by rw [k_]; exact bb⟩
      ·obtain ⟨a4, a_⟩ := hs x aA (CN ax)
       rw [a4] at ax
       obtain ⟨b, cur, e, fr, ai, aj, aP, bb⟩ := h ax
       exact ⟨b, cur, e, fr, ai, aj, (bD b aj).trans aP, by rw [a_]; exact bb⟩
    | fn f cap =>
      simp only [dg.cc]
      rw [aV] at h ⊢
      obtain ⟨arr, rfl, ay⟩ := h
      exact ⟨arr, rfl, ih.2 _ _ (by simp at ca; omega) ay⟩
    | _ =>
      rw [CO (by rfl)]
      have bB := (aV.da (by rfl)).1 h
      exact (aV.da (by rfl)).2 ⟨bB.1, aC.frame bD _ _ _ ra bB.2⟩
   ·cases ds with
    | nil => rw [ix, eX]; rw [eX] at h; exact h
    | cons d ds =>
      rw [ix, eX]; rw [eX] at h
      obtain ⟨v, kf, rfl, ai, aj⟩ := h
      simp at ca
      exact ⟨v, kf, rfl, ih.1 _ _ _ (by omega) (fun _ h => h.elim) ai, ih.2 _ _ (by omega) aj⟩
theorem aV.void (hs : ∀ x, x ≠ t → (az x).tree = true → az x = s x ∧ jR x = aF x) (qa : (az t).plain = true) : ∀ (n : Nat),
  (∀ (d : I) (v : Value) (S : Nat → Prop), SizeOf.sizeOf d ≤ n → aV w F s aF d v S → aV w F az jR d v S) ∧
  (∀ (ds : List I) (vs : List Value), SizeOf.sizeOf ds ≤ n → eX w F s aF ds vs → eX w F az jR ds vs) := by
 intro n
 induction n with
 | zero =>
   refine ⟨fun d v S ca => ?_, fun ds vs ca => ?_⟩
   ·cases d <;> simp at ca <;> omega
   ·cases ds <;> simp at ca <;> omega
 | succ n ih =>
   refine ⟨fun d v S ca h => ?_, fun ds vs ca h => ?_⟩
   ·cases d with
    | hole => rw [aV]; trivial
    | h x q =>
      rw [aV] at h ⊢
      intro d al ax
      by_cases aA : x = t
      ·subst aA
       rw [I.Gs _ _ _ qa al] at ax; cases ax
      ·obtain ⟨a4, a_⟩ := hs x aA (iw al (.inl ax))
       rw [a4, a_]; rw [a4] at al
       exact h d al ax
    | ax x q =>
      rw [aV] at h ⊢
      intro d al ax
      by_cases aA : x = t
      ·subst aA
       rw [I.Gr _ _ qa] at ax; cases ax
      ·obtain ⟨a4, a_⟩ := hs x aA (iw al (.inr ax))
       rw [a4, a_]; rw [a4] at al ax
       exact h d al ax
    | ae x k =>
      rw [aV] at h ⊢
      intro ax
      by_cases aA : x = t
      ·subst aA; rw [qa] at ax; cases ax
      ·obtain ⟨a4, a_⟩ := hs x aA (CN ax)
       rw [a_]; rw [a4] at ax
       exact h ax
    | fn f cap =>
      rw [aV] at h ⊢
      obtain ⟨arr, rfl, ay⟩ := h
      exact ⟨arr, rfl, ih.2 _ _ (by simp at ca; omega) ay⟩
    | _ => exact (aV.da (by rfl)).2 ((aV.da (by rfl)).1 h)
   ·cases ds with
    | nil => rw [eX]; rw [eX] at h; exact h
    | cons d ds =>
      rw [eX]; rw [eX] at h
      obtain ⟨v, kf, rfl, ai, aj⟩ := h
      simp at ca
      exact ⟨v, kf, rfl, ih.1 _ _ _ (by omega) ai, ih.2 _ _ (by omega) aj⟩
end
structure bT (w0 : World) (F0 X F : Nat → Prop) (S : Nat → Nat → Prop) (s : au) (aF : Nat → Value) (w : World) : Prop where
 hP : ∀ b, F0 b → F b
 h7 : ∀ b, F b → F0 b ∨ X b ∨ w0.heap.size ≤ b
 gB : ∀ b, F b → b < w.heap.size
 fz : ∀ t b, S t b → b < w.heap.size
 gH : ∀ t b, S t b → ¬ F b
 gm : ∀ t u b, t ≠ u → S t b → ¬ S u b
 ew : ∀ t b, S t b → X b ∨ w0.heap.size ≤ b
 en : ∀ t, aV w F s aF (s t) (aF t) (S t)
 old : ∀ b, b < w0.heap.size → ¬ X b → w.heap[b]? = w0.heap[b]?
 size : w0.heap.size ≤ w.heap.size
 os : w.os = w0.os
 tape : w.tape = w0.tape
 output : w.output = w0.output
section
variable {w0 w aS : World} {F0 X F : Nat → Prop} {S : Nat → Nat → Prop} {s : au} {aF : Nat → Value}
theorem bT.grow (h : bT w0 F0 X F S s aF w) (ae : ∀ b, b < w.heap.size → aS.heap[b]? = w.heap[b]?) (ah : w.heap.size ≤ aS.heap.size)
  (ai : aS.os = w.os) (aj : aS.tape = w.tape) (aP : aS.output = w.output) : bT w0 F0 X F S s aF aS where
 hP := h.hP
 h7 := h.h7
 gB := fun b bD => Nat.lt_of_lt_of_le (h.gB b bD) ah
 fz := fun t b bD => Nat.lt_of_lt_of_le (h.fz t b bD) ah
 gH := h.gH
 gm := h.gm
 ew := h.ew
 en := fun t => aV.frame (Sx := S) (fun b bD => ae b (h.gB b bD)) (fun _ h => h) (fun x b cb => ae b (h.fz x b cb)) h.en _ _ _ (fun b cb => ae b (h.fz t b cb)) (h.en t)
 old := fun b fy kR => (ae b (Nat.lt_of_lt_of_le fy h.size)).trans (h.old b fy kR)
 size := Nat.le_trans h.size ah
 os := ai.trans h.os
 tape := aj.trans h.tape
 output := aP.trans h.output
def gq (S : Nat → Nat → Prop) (t : Nat) (Sn : Nat → Prop) : Nat → Nat → Prop := fun u b => if u = t then Sn b else S u b
theorem yM (S : Nat → Nat → Prop) (t : Nat) (Sn : Nat → Prop) : gq S t Sn t = Sn := by funext b; simp [gq]
theorem yN (S : Nat → Nat → Prop) {t u : Nat} (Sn : Nat → Prop) (h : u ≠ t) : gq S t Sn u = S u := by funext b; simp [gq, h]
theorem bT.tm (h : bT w0 F0 X F S s aF w) {t : Nat} {d : I} {v : Value} (ax : d.plain = true) (al : aV w F s aF d v (fun _ => False)) :
  bT w0 F0 X F (gq S t (fun _ => False)) (dr s t d) (dr aF t v) w where
 hP := h.hP
 h7 := h.h7
 gB := h.gB
 fz := fun u b ae => by simp only [gq] at ae; split at ae; exact ae.elim; exact h.fz u b ae
 gH := fun u b ae => by simp only [gq] at ae; split at ae; exact ae.elim; exact h.gH u b ae
 gm := fun u x b eb ae aA => by
  simp only [gq] at ae aA
  split at ae
  ·exact ae.elim
  ·split at aA
   ·exact aA.elim
   ·exact h.gm u x b eb ae aA
 ew := fun u b ae => by simp only [gq] at ae; split at ae; exact ae.elim; exact h.ew u b ae
 en := fun u => by
  have hs : ∀ x, x ≠ t → (dr s t d x).tree = true → dr s t d x = s x ∧ dr aF t v x = aF x := fun x aA _ => ⟨jl _ _ aA, jl _ _ aA⟩
  have qa : (dr s t d t).plain = true := by rw [lX]; exact ax
  by_cases hu : u = t
  ·subst hu
   rw [lX, lX, yM]
   exact (aV.void hs qa _).1 _ _ _ (Nat.le_refl _) al
  ·rw [jl _ _ hu, jl _ _ hu, yN _ _ hu]
   exact (aV.void hs qa _).1 _ _ _ (Nat.le_refl _) (h.en u)
 old := h.old
 size := h.size
 os := h.os
 tape := h.tape
 output := h.output
theorem bT.Gu (h : bT w0 F0 X F S s aF w) {t : Nat} {d : I} {v : Value} {Sn : Nat → Prop} (al : d.tree = true) (ah : eL d v) (a2 : aC w F d (cV v) Sn)
  (fy : ∀ b, Sn b → b < w.heap.size) (bD : ∀ b, Sn b → ¬ F b) (cb : ∀ u b, u ≠ t → Sn b → ¬ S u b) (ba : ∀ b, Sn b → X b ∨ w0.heap.size ≤ b) :
  bT w0 F0 X F (gq S t Sn) (dr (ly t s) t d) (dr aF t v) w where
 hP := h.hP
 h7 := h.h7
 gB := h.gB
 fz := fun u b ae => by simp only [gq] at ae; split at ae; exact fy b ae; exact h.fz u b ae
 gH := fun u b ae => by simp only [gq] at ae; split at ae; exact bD b ae; exact h.gH u b ae
 gm := fun u x b eb ae aA => by
  simp only [gq] at ae aA
  split at ae
  ·rename_i hu
   rw [if_neg (fun e => eb (hu.trans e.symm))] at aA
   exact cb x b (fun e => eb (hu.trans e.symm)) ae aA
  ·rename_i hu
   split at aA
   ·exact cb u b hu aA ae
   ·exact h.gm u x b eb ae aA
 ew := fun u b ae => by simp only [gq] at ae; split at ae; exact ba b ae; exact h.ew u b ae
 en := fun u => by
  have hs : ∀ x, x ≠ t → (dr (ly t s) t d x).tree = true → dr (ly t s) t d x = s x ∧ dr aF t v x = aF x := fun x aA bh => by
   rw [jl _ _ aA] at bh ⊢
   exact ⟨(ND bh).2, jl _ _ aA⟩
  by_cases hu : u = t
  ·subst hu
   rw [lX, lX, yM]
   exact (aV.da al).2 ⟨ah, a2⟩
  ·rw [jl _ _ hu, jl _ _ hu, yN _ _ hu]
   exact (aV.cP hs _).1 _ _ _ (Nat.le_refl _) (h.en u)
 old := h.old
 size := h.size
 os := h.os
 tape := h.tape
 output := h.output
theorem rb (k : Nat) (q : List Nat) (bE x : I) : (∃ aB gs, x = .agg aB ∧ I.put (k :: q) bE x = .agg gs) ∨ (∃ aB gs, x = .tuple aB ∧ I.put (k :: q) bE x = .tuple gs) ∨
  (∃ sz xs c4, x = .aw sz xs ∧ I.put (k :: q) bE x = .aw sz c4) ∨ (∃ y z, x = .a8 y ∧ I.put (k :: q) bE x = .a8 z) ∨ I.put (k :: q) bE x = x := by
 cases x with
 | agg aB => simp only [I.put]; split <;> exact .inl ⟨_, _, rfl, rfl⟩
 | tuple aB => simp only [I.put]; split <;> exact .inr (.inl ⟨_, _, rfl, rfl⟩)
 | aw sz aB => simp only [I.put]; split <;> exact .inr (.inr (.inl ⟨_, _, _, rfl, rfl⟩))
 | a8 y => cases k <;> exact .inr (.inr (.inr (.inl ⟨_, _, rfl, rfl⟩)))
 | _ => exact .inr (.inr (.inr (.inr rfl)))
theorem Gv {k : Nat} {q : List Nat} {bE x : I} {v : Value} (h : iv x v) : iv (I.put (k :: q) bE x) v := by
 rcases rb k q bE x with ⟨aB, gs, rfl, e⟩ | ⟨aB, gs, rfl, e⟩ | ⟨sz, xs, c4, rfl, e⟩ | ⟨y, z, rfl, e⟩ | e <;> rw [e] <;> exact h
theorem Gw {k : Nat} {q : List Nat} {bE x : I} (h : ∀ vs, x ≠ .tuple vs) : ∀ vs, I.put (k :: q) bE x ≠ .tuple vs := by
 rcases rb k q bE x with ⟨aB, gs, rfl, e⟩ | ⟨aB, gs, rfl, e⟩ | ⟨sz, xs, c4, rfl, e⟩ | ⟨y, z, rfl, e⟩ | e <;> rw [e] <;> first | exact h | (intro vs bB; cases bB; done) | exact (h _ rfl).elim
theorem CQ {k : Nat} {q : List Nat} {d bE av : I} {v : Value} (h : eL av v) (al : I.sub (k :: q) av = some d) (ai : ∀ v, iv d v → iv bE v) (aj : (∀ vs, d ≠ .tuple vs) → ∀ vs, bE ≠ .tuple vs) (aP : bE.wd = d.wd) :
  eL (I.put (k :: q) bE av) v := by
 cases av with
 | tuple aB =>
   simp only [I.sub] at al
   split at al
   ·rename_i x aA
    simp only [I.put, aA]
    simp only [eL] at h ⊢
    obtain ⟨arr, rfl, ca, m0⟩ := h
    refine ⟨arr, rfl, by simpa using ca, fun j e y he bL => ?_⟩
    rw [List.getElem?_set] at he
    split at he
    ·rename_i re
     subst re
     split at he
     ·simp only [Option.some.injEq] at he
      subst he
      obtain ⟨bc, bG, cB⟩ := m0 k x y aA bL
      refine ⟨?_, ?_, cB.trans (I.tk q x d bE al aP).symm⟩
      ·cases q with
       | nil =>
         simp only [I.sub, Option.some.injEq] at al
         subst al
         exact ai _ bc
       | cons cu q => exact Gv bc
      ·cases q with
       | nil =>
         simp only [I.sub, Option.some.injEq] at al
         subst al
         exact aj bG
       | cons cu q => exact Gw bG
     ·cases he
    ·exact m0 j e y he bL
   ·cases al
 | agg aB => simp only [I.put]; split <;> exact h
 | aw sz aB => simp only [I.put]; split <;> exact h
 | a8 y => cases k <;> exact h
 | _ => exact h
theorem CR {d : I} {v : Value} (h : iv d v) : iv d.dh v := by cases d <;> exact h
theorem Gx {s : au} {x : Nat} {q : List Nat} {d : I} (al : I.sub q (s x) = some d) (ax : d.plain = false) :
  (dr (iJ x s) x (I.put q d.dh (s x)) x).plain = false → (s x).plain = false ∧ ∀ v, eL (s x) v → eL (dr (iJ x s) x (I.put q d.dh (s x)) x) v := by
  rw [lX]
  intro fV
  cases q with
  | nil =>
    exfalso
    have : ∀ d : I, d.dh.plain = true := by
     intro d
     have key : ∀ n, (∀ d : I, SizeOf.sizeOf d ≤ n → d.dh.plain = true) ∧ (∀ ds : List I, SizeOf.sizeOf ds ≤ n → I.dI (I.kP ds) = true) := by
      intro n
      induction n with
      | zero => exact ⟨fun d ca => by cases d <;> simp at ca <;> omega, fun ds ca => by cases ds <;> simp at ca <;> omega⟩
      | succ n ih =>
        refine ⟨fun d ca => ?_, fun ds ca => ?_⟩
        ·cases d with
         | agg aB => simp only [I.dh, I.plain]; exact ih.2 _ (by simp at ca; omega)
         | tuple aB => simp only [I.dh, I.plain]; exact ih.2 _ (by simp at ca; omega)
         | _ => rfl
        ·cases ds with
         | nil => rfl
         | cons d ds =>
           simp at ca
           simp only [I.kP, I.dI, Bool.and_eq_true]
           exact ⟨ih.1 _ (by omega), ih.2 _ (by omega)⟩
     exact (key _).1 d (Nat.le_refl _)
    simp only [I.put] at fV
    rw [this] at fV
    cases fV
  | cons k q =>
    refine ⟨?_, fun v a2 => CQ a2 al (fun v h => CR h) (fun h vs e => ?_) (I.p_ d)⟩
    ·cases CS : (s x).plain with
     | false => rfl
     | true => rw [I.Gs _ _ _ CS al] at ax; cases ax
    ·cases d <;> first | (exact h _ rfl) | (simp [I.dh] at e)
theorem bT.take (h : bT w0 F0 X F S s aF w) {x : Nat} {q : List Nat} {d : I} (al : I.sub q (s x) = some d) (ax : d.plain = false) :
  ∃ (Sn hc : Nat → Prop) (c0 : List Value) (a : Option (Nat × Nat)), bT w0 F0 X F (gq S x Sn) (dr (iJ x s) x (I.put q d.dh (s x))) aF w ∧
    dq w q (s x) (cV (aF x)) none = some (d, c0, a) ∧ aC w F d c0 hc ∧ (∀ b, hc b → S x b) ∧ (∀ b, Sn b → S x b) ∧ (∀ b, hc b → ¬ Sn b) ∧
    (∀ (bE : I) (v : Value) (a1 : Nat → Prop), aV w F s aF bE v a1 → aV w F (dr (iJ x s) x (I.put q d.dh (s x))) aF (dg.cc x bE) v a1) := by
 have bh := iw al (.inl ax)
 have aA := h.en x
 rw [aV.da bh] at aA
 obtain ⟨c0, a, e2, hc, hG, bc, bG, cB, eC, fH⟩ := ctx q (s x) (cV (aF x)) (S x) none d aA.2 al
 have kv : aC w F (I.put q d.dh (s x)) (cV (aF x)) e2 := by
  have kS : aC w F d.dh c0 (fun _ => False) := aC.dh _ _ _ _ eC
  have qb : ∀ b, (e2 b ∨ False) → e2 b := fun b h => h.elim id False.elim
  rcases fH with ⟨l, r, a4, a_, a3⟩ | ⟨b, cur, e, fr, l, r, a4, a_, a3, c1, c6, cl⟩
  ·have := a3 w _ c0 _ (fun _ _ => rfl) (fun _ _ => rfl) (I.p_ d) kS (fun _ h => h.elim)
   rw [← a4] at this
   exact aC.mono (fun _ h => h) _ _ _ _ qb this
  ·have := cl w _ c0 _ (fun _ _ => rfl) (fun _ _ _ => rfl) (by rw [a3, ← c6]) (I.p_ d) kS (fun _ h => h.elim)
   exact aC.mono (fun _ h => h) _ _ _ _ qb this
 have NF : eL (I.put q d.dh (s x)) (aF x) ∧ (I.put q d.dh (s x)).tree = true ∨ I.put q d.dh (s x) = .hole := by
  cases q with
  | nil =>
    simp only [I.sub, Option.some.injEq] at al
    subst al
    simp only [I.put]
    cases ah : s x with
    | aw sz xs => right; rfl
    | a8 y => right; rfl
    | agg aB => left; rw [ah] at aA; exact ⟨aA.1, rfl⟩
    | tuple aB =>
      left
      rw [ah] at aA
      refine ⟨?_, rfl⟩
      simp only [eL, I.dh] at aA ⊢
      obtain ⟨arr, e, ca, m0⟩ := aA.1
      have hl : ∀ aB : List I, I.kP aB = aB.map I.dh := by
       intro aB; induction aB with
       | nil => rfl
       | cons a aB ih => simp [I.kP, ih]
      refine ⟨arr, e, by rw [hl]; simpa using ca, fun k gG y he bL => ?_⟩
      rw [hl, List.getElem?_map] at he
      cases aE : aB[k]? with
      | none => rw [aE] at he; cases he
      | some z =>
        rw [aE] at he
        simp only [Option.map_some, Option.some.injEq] at he
        subst he
        obtain ⟨bc, bG, cB⟩ := m0 k z y aE bL
        refine ⟨CR bc, fun vs e => ?_, cB.trans (I.p_ z).symm⟩
        cases z <;> first | (exact bG _ rfl) | (simp [I.dh] at e)
    | _ => rw [ah] at ax; simp [I.plain] at ax
  | cons k q =>
    left
    refine ⟨CQ aA.1 al (fun v h => CR h) (fun h vs e => ?_) (I.p_ d), ?_⟩
    ·cases d <;> first | (exact h _ rfl) | (simp [I.dh] at e)
    ·rcases rb k q d.dh (s x) with ⟨aB, gs, a4, e⟩ | ⟨aB, gs, a4, e⟩ | ⟨sz, xs, c4, a4, e⟩ | ⟨y, z, a4, e⟩ | e <;> rw [e] <;> first | rfl | exact bh
 refine ⟨e2, hc, c0, a, ?_, hG, eC, bG, bc, fun b ai aj => cB b aj ai, ?_⟩
 rotate_left
 ·have hs : ∀ y, y ≠ x → (dr (iJ x s) x (I.put q d.dh (s x)) y).tree = true → dr (iJ x s) x (I.put q d.dh (s x)) y = s y ∧ aF y = aF y := fun y bL bh => by
   rw [jl _ _ bL] at bh ⊢
   exact ⟨(CP bh).2, rfl⟩
  intro bE v a1 hb
  exact (aV.cc hs rfl (Gx al ax) (fun _ _ _ _ _ _ => rfl) (fun _ _ => rfl) _).1 _ _ _ (Nat.le_refl _) (fun _ _ => rfl) hb
 have hs : ∀ y, y ≠ x → (dr (iJ x s) x (I.put q d.dh (s x)) y).tree = true → dr (iJ x s) x (I.put q d.dh (s x)) y = s y ∧ aF y = aF y := fun y bL bh => by
  rw [jl _ _ bL] at bh ⊢
  exact ⟨(CP bh).2, rfl⟩
 have oK := Gx (s := s) (x := x) al ax
 constructor
 case hP => exact h.hP
 case h7 => exact h.h7
 case gB => exact h.gB
 case fz => exact fun u b ae => by simp only [gq] at ae; split at ae; exact h.fz x b (bc b ae); exact h.fz u b ae
 case gH => exact fun u b ae => by simp only [gq] at ae; split at ae; exact h.gH x b (bc b ae); exact h.gH u b ae
 case gm =>
  intro u y b eb ae bL
  simp only [gq] at ae bL
  split at ae
  ·rename_i hu
   rw [if_neg (fun e => eb (hu.trans e.symm))] at bL
   exact h.gm x y b (fun e => eb (hu.trans e)) (bc b ae) bL
  ·rename_i hu
   split at bL
   ·exact h.gm u x b hu ae (bc b bL)
   ·exact h.gm u y b eb ae bL
 case ew => exact fun u b ae => by simp only [gq] at ae; split at ae; exact h.ew x b (bc b ae); exact h.ew u b ae
 case en =>
  intro u
  by_cases hu : u = x
  ·subst hu
   rw [lX, yM]
   rcases NF with ⟨a4, a_⟩ | e
   ·exact (aV.da a_).2 ⟨a4, kv⟩
   ·rw [e, aV]; trivial
  ·rw [jl _ _ hu, yN _ _ hu]
   exact (aV.cc hs rfl oK (fun _ _ _ _ _ _ => rfl) (fun _ _ => rfl) _).1 _ _ _ (Nat.le_refl _) (fun _ _ => rfl) (h.en u)
 case old => exact h.old
 case size => exact h.size
 case os => exact h.os
 case tape => exact h.tape
 case output => exact h.output
theorem bT.store (h : bT w0 F0 X F S s aF w) {x : Nat} {q : List Nat} {d bE : I} (al : I.sub q (s x) = some d) (ay : I.fI q (s x) = true)
  {gl : List Value} {Sn : Nat → Prop} (a2 : aC w F bE gl Sn) (lW : bE.wd = d.wd)
  (fy : ∀ b, Sn b → b < w.heap.size) (bD : ∀ b, Sn b → ¬ F b) (cb : ∀ u b, Sn b → ¬ S u b) (ba : ∀ b, Sn b → X b ∨ w0.heap.size ≤ b) :
  ∃ (c0 : List Value) (b : Nat) (l r : List Value) (cur : Array Value) (e : TypeId) (fr : Nat × Nat), dq w q (s x) (cV (aF x)) none = some (d, c0, some (b, l.length)) ∧
    w.heap[b]? = some (.cells cur e fr) ∧ cur.toList = l ++ (c0 ++ r) ∧ p9 fr cur.size ∧
    ∀ aS, aS.heap[b]? = some (.cells (l ++ (gl ++ r)).toArray e fr) → (∀ c, c ≠ b → aS.heap[c]? = w.heap[c]?) → aS.heap.size = w.heap.size → aS.os = w.os → aS.tape = w.tape → aS.output = w.output →
      ∃ a1, bT w0 F0 X F a1 (dr (iJ x s) x (I.put q bE (s x))) aF aS := by
 have bh := iw al (.inr ay)
 have aA := h.en x
 rw [aV.da bh] at aA
 obtain ⟨c0, a, e2, hc, hG, bc, bG, cB, eC, fH⟩ := ctx q (s x) (cV (aF x)) (S x) none d aA.2 al
 have NG : CF w F q (s x) (cV (aF x)) d c0 a e2 := by
  rcases fH with ⟨l, r, a4, a_, a3⟩ | fH
  ·exfalso
   have m1 : ∀ (q : List Nat) (av : I) (cs : List Value) (J : Option (Nat × Nat)) (d : I) (c0 : List Value), I.fI q av = true → dq w q av cs J = some (d, c0, none) → False := by
    intro q
    induction q with
    | nil => intro av cs J d c0 ay; simp [I.fI] at ay
    | cons k q ih =>
      have Gy : ∀ (q : List Nat) (av : I) (cs : List Value) (l : Nat × Nat) (d : I) (c0 : List Value), dq w q av cs (some l) = some (d, c0, none) → False := by
       intro q
       induction q with
       | nil => intro av cs l d c0 h; simp [dq] at h
       | cons k q yO =>
         intro av cs l d c0 h
         cases av with
         | agg aB => rw [dq] at h; split at h; exact yO _ _ _ _ _ h; cases h
         | tuple aB => rw [dq] at h; split at h; exact yO _ _ _ _ _ h; cases h
         | aw sz xs => simp only [dq] at h; split at h; exact yO _ _ _ _ _ h; cases h
         | a8 y =>
           cases k with
           | zero => rw [dq.eq_def] at h; simp only at h; split at h; exact yO _ _ _ _ _ h; cases h
           | succ k => rw [show dq w ((k + 1) :: q) (.a8 y) cs (some l) = none from rfl] at h; cases h
         | _ => simp [dq] at h
      intro av cs J d c0 ay h
      cases av with
      | agg aB =>
        simp only [I.fI] at ay
        split at ay
        ·rename_i y bL
         simp only [dq, bL] at h
         exact ih _ _ _ _ _ ay h
        ·cases ay
      | tuple aB =>
        simp only [I.fI] at ay
        split at ay
        ·rename_i y bL
         simp only [dq, bL] at h
         exact ih _ _ _ _ _ ay h
        ·cases ay
      | aw sz xs => simp only [dq] at h; split at h; exact Gy _ _ _ _ _ _ h; cases h
      | a8 y =>
        cases k with
        | zero => rw [dq.eq_def] at h; simp only at h; split at h; exact Gy _ _ _ _ _ _ h; cases h
        | succ k => rw [show dq w ((k + 1) :: q) (.a8 y) cs J = none from rfl] at h; cases h
      | _ => simp [I.fI] at ay
   simp only [Option.map_none] at a_
   subst a_
   exact m1 _ _ _ _ _ _ ay hG
  ·exact fH
 obtain ⟨b, cur, e, fr, l, r, rfl, a_, a3, c1, c6, cl⟩ := NG
 refine ⟨c0, b, l, r, cur, e, fr, hG, a3, c6, c1, ?_⟩
 intro aS lx vC e3 NH NI vD
 have yP : S x b := bc _ a_
 have tn : ∀ c, F c → aS.heap[c]? = w.heap[c]? := fun c ay => vC c (by rintro rfl; exact h.gH x _ yP ay)
 have auy : gl.length = c0.length := by rw [aC.length _ _ _ a2, aC.length _ _ _ eC, lW]
 have kv := cl aS bE gl Sn tn (fun c _ eb => vC c eb) lx lW
  (aC.frame tn _ _ _ (fun c ay => vC c (by rintro rfl; exact cb x _ ay yP)) a2) (fun c ay qb => cb x c ay (bc _ qb))
 obtain ⟨k, ja, rfl⟩ : ∃ k ja, q = k :: ja := by
  cases q with
  | nil => simp [I.fI] at ay
  | cons k q => exact ⟨k, q, rfl⟩
 have Gz : ∀ v, eL (s x) v → eL (I.put (k :: ja) bE (s x)) v := by
  intro v a2
  rcases rb k ja bE (s x) with ⟨aB, gs, a4, e⟩ | ⟨aB, gs, a4, e⟩ | ⟨sz, xs, c4, a4, e⟩ | ⟨y, z, a4, e⟩ | e
  ·rw [e]; rw [a4] at a2; exact a2
  ·
   rw [a4] at a2 al ay ⊢
   simp only [I.fI] at ay
   split at ay
   ·rename_i y bL
    simp only [I.put, bL]
    cases ja with
    | nil => simp [I.fI] at ay
    | cons cu bn =>
      simp only [eL] at a2 ⊢
      obtain ⟨arr, rfl, ca, m0⟩ := a2
      refine ⟨arr, rfl, by simpa using ca, fun j e jS he yQ => ?_⟩
      rw [List.getElem?_set] at he
      split at he
      ·rename_i re
       subst re
       split at he
       ·simp only [Option.some.injEq] at he
        subst he
        obtain ⟨bc, bG, cB⟩ := m0 _ y jS bL yQ
        simp only [I.sub, bL] at al
        exact ⟨Gv bc, Gw bG, cB.trans (I.tk (cu :: bn) y d bE al lW).symm⟩
       ·cases he
      ·exact m0 j e jS he yQ
   ·cases ay
  ·rw [e]; rw [a4] at a2; exact a2
  ·rw [e]; rw [a4] at a2; exact a2
  ·rw [e]; exact a2
 have NJ : (I.put (k :: ja) bE (s x)).tree = true := by
  rcases rb k ja bE (s x) with ⟨aB, gs, a4, e⟩ | ⟨aB, gs, a4, e⟩ | ⟨sz, xs, c4, a4, e⟩ | ⟨y, z, a4, e⟩ | e <;> rw [e] <;> first | rfl | exact bh
 let az := dr (iJ x s) x (I.put (k :: ja) bE (s x))
 have hs : ∀ y, y ≠ x → (az y).tree = true → az y = s y ∧ aF y = aF y := fun y bL bh => by
  have e : az y = cc x (s y) := jl _ _ bL
  rw [e] at bh ⊢
  exact ⟨(CP bh).2, rfl⟩
 have oK : (az x).plain = false → (s x).plain = false ∧ ∀ v, eL (s x) v → eL (az x) v := by
  intro _
  refine ⟨?_, ?_⟩
  ·cases CS : (s x).plain with
   | false => rfl
   | true => rw [I.Gr _ _ CS] at ay; cases ay
  ·simp only [az, lX]; exact Gz
 refine ⟨gq S x (fun c => e2 c ∨ Sn c), ?_⟩
 constructor
 case hP => exact h.hP
 case h7 => exact h.h7
 case gB => exact fun b ae => by rw [e3]; exact h.gB b ae
 case fz =>
  intro u c ae
  rw [e3]
  simp only [gq] at ae
  split at ae
  ·rcases ae with ae | ae
   ·exact h.fz x c (bc c ae)
   ·exact fy c ae
  ·exact h.fz u c ae
 case gH =>
  intro u c ae
  simp only [gq] at ae
  split at ae
  ·rcases ae with ae | ae
   ·exact h.gH x c (bc c ae)
   ·exact bD c ae
  ·exact h.gH u c ae
 case gm =>
  intro u y c eb ae bL
  simp only [gq] at ae bL
  split at ae
  ·rename_i hu
   rw [if_neg (fun e => eb (hu.trans e.symm))] at bL
   rcases ae with ae | ae
   ·exact h.gm x y c (fun e => eb (hu.trans e)) (bc c ae) bL
   ·exact cb y c ae bL
  ·rename_i hu
   split at bL
   ·rcases bL with bL | bL
    ·exact h.gm u x c hu ae (bc c bL)
    ·exact cb u c bL ae
   ·exact h.gm u y c eb ae bL
 case ew =>
  intro u c ae
  simp only [gq] at ae
  split at ae
  ·rcases ae with ae | ae
   ·exact h.ew x c (bc c ae)
   ·exact ba c ae
  ·exact h.ew u c ae
 case en =>
  intro u
  by_cases hu : u = x
  ·subst hu
   rw [lX, yM]
   exact (aV.da NJ).2 ⟨Gz _ aA.1, kv⟩
  ·rw [jl _ _ hu, yN _ _ hu]
   have eb : ∀ y c, y ≠ x → S y c → aS.heap[c]? = w.heap[c]? := fun y c bL ay => vC c (by rintro rfl; exact h.gm y x c bL ay yP)
   refine (aV.cc hs rfl oK (fun y bn d2 bL jm GA => ?_) tn _).1 _ _ _ (Nat.le_refl _) (fun c ay => eb u c hu ay) (h.en u)
   have GB := h.en y
   rw [aV.da (iw jm GA)] at GB
   exact CL bn _ _ _ none d2 GB.2 jm (fun c ay => eb y c bL ay)
 case old =>
  intro c fy kR
  by_cases GC : c = b
  ·subst GC
   exfalso
   rcases h.ew x c yP with kS | kS
   ·exact kR kS
   ·omega
  ·exact (vC c GC).trans (h.old c fy kR)
 case size => rw [e3]; exact h.size
 case os => exact NH.trans h.os
 case tape => exact NI.trans h.tape
 case output => exact vD.trans h.output
end
end Go.dg
