/- Part of a proof that a law returns true for every input. No condition. -/
import Derived.Test.YtbemmmimelklkaaGreatFwA
import Derived.Laws.AppendOwn
import Derived.Calls
namespace Go.dk
inductive I where
 | hole
 | bool (b : Bool)
 | e7
 | int (k : IntKind) (n : Int)
 | str (s : List UInt8)
 | dC
 | bc
 | slice (xs : List I)
 | aw (sz : Nat) (xs : List I)
 | ref (d : I)
 | a8 (d : I)
 | agg (az : List I)
 | tuple (vs : List I)
 | fn (f : FuncId) (cap : List I)
 | h (x : Nat) (q : List Nat)
 | ax (x : Nat) (q : List Nat)
 | ae (x : Nat) (k : Nat)
 deriving Inhabited
mutual
def I.wd : I → Nat
 | .agg az => I.ez az
 | .tuple az => I.ez az
 | _ => 1
def I.ez : List I → Nat
 | [] => 0
 | d :: ds => d.wd + I.ez ds
end
def hK (w : World) (b o : Nat) (cs : List Value) : Prop := ∀ j c, cs[j]? = some c → w.cell? ⟨b, o + j, none⟩ = some c
def pU (fr : Nat × Nat) (n : Nat) : Prop := ∀ o, o < n → ¬ (fr.1 ≤ o ∧ o < fr.2)
def Value.gX : Value → Bool
 | .agg _ => false
 | .tuple _ => false
 | _ => true
mutual
def aB (w : World) (F : Nat → Prop) : I → List Value → (Nat → Prop) → Prop
 | .hole, cs, _ => ∃ v, Value.gX v = true ∧ cs = [v]
 | .bool b, cs, _ => cs = [.bool b]
 | .e7, cs, _ => ∃ b, cs = [.bool b]
 | .int k n, cs, _ => cs = [.int k n]
 | .str s, cs, _ => cs = [.string ⟨⟨s⟩⟩]
 | .dC, cs, _ => cs = [.pointer none]
 | .bc, cs, _ => cs = [.slice none 0 0]
 | .slice xs, cs, _ => (xs = [] ∧ ∃ a c, cs = [.slice a 0 c] ∧ c ≤ maxLen ∧ (a = none → c = 0)) ∨
   ∃ b o cap eM sz, cs = [.slice (some ⟨b, o, none⟩) xs.length cap] ∧ F b ∧ xs.length ≤ cap ∧ cap ≤ maxLen ∧ (∀ d ∈ xs, d.wd = sz) ∧
     hK w b o eM ∧ bm w F xs eM (fun _ => False)
 | .aw sz xs, cs, S => (xs = [] ∧ ∃ a, cs = [.slice a 0 0]) ∨
   ∃ b cap cur e fr a1, cs = [.slice (some ⟨b, 0, none⟩) xs.length cap] ∧ S b ∧ w.heap[b]? = some (.cells cur e fr) ∧ pU fr cur.size ∧
     xs.length ≤ cap ∧ cap ≤ maxLen ∧ cur.size = cap * sz ∧ (∀ d ∈ xs, d.wd = sz) ∧ bm w F xs (cur.toList.take (xs.length * sz)) a1 ∧ (∀ c, a1 c → S c) ∧ ¬ a1 b
 | .ref d, cs, _ => ∃ b o eM, cs = [.pointer (some ⟨b, o, none⟩)] ∧ F b ∧ hK w b o eM ∧ aB w F d eM (fun _ => False)
 | .a8 d, cs, S => ∃ b cur e fr a1, cs = [.pointer (some ⟨b, 0, none⟩)] ∧ S b ∧ w.heap[b]? = some (.cells cur e fr) ∧ pU fr cur.size ∧
   aB w F d cur.toList a1 ∧ (∀ c, a1 c → S c) ∧ ¬ a1 b
 | .agg az, cs, S => bm w F az cs S
 | .tuple az, cs, S => bm w F az cs S
 | .fn _ _, _, _ => False
 | .h _ _, _, _ => False
 | .ax _ _, _, _ => False
 | .ae _ _, _, _ => False
def bm (w : World) (F : Nat → Prop) : List I → List Value → (Nat → Prop) → Prop
 | [], cs, _ => cs = []
 | d :: ds, cs, S => ∃ cE cF ct et, cs = cE ++ cF ∧ aB w F d cE ct ∧ bm w F ds cF et ∧ (∀ b, ct b → S b) ∧ (∀ b, et b → S b) ∧ (∀ b, ct b → ¬ et b)
end
theorem cell?_of_block {w aU : World} {b : Nat} (h : aU.heap[b]? = w.heap[b]?) (o : Nat) : aU.cell? ⟨b, o, none⟩ = w.cell? ⟨b, o, none⟩ := by
 simp [World.cell?, h]
theorem hK.frame {w aU : World} {b o : Nat} {cs : List Value} (h : aU.heap[b]? = w.heap[b]?) (a7 : hK w b o cs) : hK aU b o cs :=
 fun j c ay => (cell?_of_block h _).trans (a7 j c ay)
mutual
theorem aB.frame {w aU : World} {F : Nat → Prop} (bE : ∀ b, F b → aU.heap[b]? = w.heap[b]?) :
  ∀ (d : I) (cs : List Value) (S : Nat → Prop), (∀ b, S b → aU.heap[b]? = w.heap[b]?) → aB w F d cs S → aB aU F d cs S
 | .hole, _, _, _, h => h
 | .bool _, _, _, _, h => h
 | .e7, _, _, _, h => h
 | .int _ _, _, _, _, h => h
 | .str _, _, _, _, h => h
 | .dC, _, _, _, h => h
 | .bc, _, _, _, h => h
 | .slice xs, cs, S, ca, h => by
   rw [aB] at h ⊢
   rcases h with h | ⟨b, o, cap, eM, sz, ai, aj, aQ, bd, b3, cG, cp⟩
   ·exact .inl h
   ·exact .inr ⟨b, o, cap, eM, sz, ai, aj, aQ, bd, b3, cG.frame (bE _ aj), bm.frame bE xs _ _ (fun _ h => h.elim) cp⟩
 | .aw sz xs, cs, S, ca, h => by
   rw [aB] at h ⊢
   rcases h with h | ⟨b, cap, cur, e, fr, a1, ai, aj, aQ, bd, b3, cG, cp, fR, iF, hL, k3⟩
   ·exact .inl h
   ·exact .inr ⟨b, cap, cur, e, fr, a1, ai, aj, (ca _ aj).trans aQ, bd, b3, cG, cp, fR, bm.frame bE xs _ _ (fun c ay => ca _ (hL _ ay)) iF, hL, k3⟩
 | .ref d, cs, S, ca, h => by
   rw [aB] at h ⊢
   obtain ⟨b, o, eM, ai, aj, aQ, bd⟩ := h
   exact ⟨b, o, eM, ai, aj, aQ.frame (bE _ aj), aB.frame bE d _ _ (fun _ h => h.elim) bd⟩
 | .a8 d, cs, S, ca, h => by
   rw [aB] at h ⊢
   obtain ⟨b, cur, e, fr, a1, ai, aj, aQ, bd, b3, cG, cp⟩ := h
   exact ⟨b, cur, e, fr, a1, ai, aj, (ca _ aj).trans aQ, bd, aB.frame bE d _ _ (fun c ay => ca _ (cG _ ay)) b3, cG, cp⟩
 | .agg az, cs, S, ca, h => by rw [aB] at h ⊢; exact bm.frame bE az _ _ ca h
 | .tuple az, cs, S, ca, h => by rw [aB] at h ⊢; exact bm.frame bE az _ _ ca h
 | .fn _ _, _, _, _, h => h
 | .h _ _, _, _, _, h => h
 | .ax _ _, _, _, _, h => h
 | .ae _ _, _, _, _, h => h
theorem bm.frame {w aU : World} {F : Nat → Prop} (bE : ∀ b, F b → aU.heap[b]? = w.heap[b]?) :
  ∀ (ds : List I) (cs : List Value) (S : Nat → Prop), (∀ b, S b → aU.heap[b]? = w.heap[b]?) → bm w F ds cs S → bm aU F ds cs S
 | [], _, _, _, h => h
 | d :: ds, cs, S, ca, h => by
   rw [bm] at h ⊢
   obtain ⟨cE, cF, ct, et, ai, aj, aQ, bd, b3, cG⟩ := h
   exact ⟨cE, cF, ct, et, ai, aB.frame bE d _ _ (fun b ae => ca _ (bd _ ae)) aj, bm.frame bE ds _ _ (fun b ae => ca _ (b3 _ ae)) aQ, bd, b3, cG⟩
end
mutual
theorem aB.mono {w : World} {F b0 : Nat → Prop} (bE : ∀ b, F b → b0 b) :
  ∀ (d : I) (cs : List Value) (S a1 : Nat → Prop), (∀ b, S b → a1 b) → aB w F d cs S → aB w b0 d cs a1
 | .hole, _, _, _, _, h => h
 | .bool _, _, _, _, _, h => h
 | .e7, _, _, _, _, h => h
 | .int _ _, _, _, _, _, h => h
 | .str _, _, _, _, _, h => h
 | .dC, _, _, _, _, h => h
 | .bc, _, _, _, _, h => h
 | .slice xs, cs, S, _, ca, h => by
   rw [aB] at h ⊢
   rcases h with h | ⟨b, o, cap, eM, sz, ai, aj, aQ, bd, b3, cG, cp⟩
   ·exact .inl h
   ·exact .inr ⟨b, o, cap, eM, sz, ai, bE _ aj, aQ, bd, b3, cG, bm.mono bE xs _ _ _ (fun _ h => h) cp⟩
 | .aw sz xs, cs, S, _, ca, h => by
   rw [aB] at h ⊢
   rcases h with h | ⟨b, cap, cur, e, fr, a1, ai, aj, aQ, bd, b3, cG, cp, fR, iF, hL, k3⟩
   ·exact .inl h
   ·exact .inr ⟨b, cap, cur, e, fr, a1, ai, ca _ aj, aQ, bd, b3, cG, cp, fR, bm.mono bE xs _ _ _ (fun _ h => h) iF, fun c ay => ca _ (hL _ ay), k3⟩
 | .ref d, cs, S, _, ca, h => by
   rw [aB] at h ⊢
   obtain ⟨b, o, eM, ai, aj, aQ, bd⟩ := h
   exact ⟨b, o, eM, ai, bE _ aj, aQ, aB.mono bE d _ _ _ (fun _ h => h) bd⟩
 | .a8 d, cs, S, _, ca, h => by
   rw [aB] at h ⊢
   obtain ⟨b, cur, e, fr, a1, ai, aj, aQ, bd, b3, cG, cp⟩ := h
   exact ⟨b, cur, e, fr, a1, ai, ca _ aj, aQ, bd, aB.mono bE d _ _ _ (fun _ h => h) b3, fun c ay => ca _ (cG _ ay), cp⟩
 | .agg az, cs, S, _, ca, h => by rw [aB] at h ⊢; exact bm.mono bE az _ _ _ ca h
 | .tuple az, cs, S, _, ca, h => by rw [aB] at h ⊢; exact bm.mono bE az _ _ _ ca h
 | .fn _ _, _, _, _, _, h => h
 | .h _ _, _, _, _, _, h => h
 | .ax _ _, _, _, _, _, h => h
 | .ae _ _, _, _, _, _, h => h
theorem bm.mono {w : World} {F b0 : Nat → Prop} (bE : ∀ b, F b → b0 b) :
  ∀ (ds : List I) (cs : List Value) (S a1 : Nat → Prop), (∀ b, S b → a1 b) → bm w F ds cs S → bm w b0 ds cs a1
 | [], _, _, _, _, h => h
 | d :: ds, cs, S, _, ca, h => by
   rw [bm] at h ⊢
   obtain ⟨cE, cF, ct, et, ai, aj, aQ, bd, b3, cG⟩ := h
   exact ⟨cE, cF, ct, et, ai, aB.mono bE d _ _ _ (fun _ h => h) aj, bm.mono bE ds _ _ _ (fun _ h => h) aQ, fun b ae => ca _ (bd _ ae), fun b ae => ca _ (b3 _ ae), cG⟩
end
mutual
theorem aB.length {w : World} {F : Nat → Prop} : ∀ (d : I) (cs : List Value) (S : Nat → Prop), aB w F d cs S → cs.length = d.wd
 | .hole, cs, S, h => by rw [aB] at h; obtain ⟨v, _, rfl⟩ := h; rfl
 | .bool _, cs, S, h => by rw [aB] at h; subst h; rfl
 | .e7, cs, S, h => by rw [aB] at h; obtain ⟨b, rfl⟩ := h; rfl
 | .int _ _, cs, S, h => by rw [aB] at h; subst h; rfl
 | .str _, cs, S, h => by rw [aB] at h; subst h; rfl
 | .dC, cs, S, h => by rw [aB] at h; subst h; rfl
 | .bc, cs, S, h => by rw [aB] at h; subst h; rfl
 | .slice xs, cs, S, h => by
   rw [aB] at h
   rcases h with ⟨_, a, c, rfl, _⟩ | ⟨b, o, cap, eM, sz, rfl, _⟩ <;> rfl
 | .aw sz xs, cs, S, h => by
   rw [aB] at h
   rcases h with ⟨_, a, rfl⟩ | ⟨b, cap, cur, e, fr, a1, rfl, _⟩ <;> rfl
 | .ref d, cs, S, h => by rw [aB] at h; obtain ⟨b, o, eM, rfl, _⟩ := h; rfl
 | .a8 d, cs, S, h => by rw [aB] at h; obtain ⟨b, o, eM, _, _, rfl, _⟩ := h; rfl
 | .agg az, cs, S, h => by rw [aB] at h; exact bm.length az _ _ h
 | .tuple az, cs, S, h => by rw [aB] at h; exact bm.length az _ _ h
 | .fn _ _, cs, S, h => by rw [aB] at h; exact h.elim
 | .h _ _, cs, S, h => by rw [aB] at h; exact h.elim
 | .ax _ _, cs, S, h => by rw [aB] at h; exact h.elim
 | .ae _ _, cs, S, h => by rw [aB] at h; exact h.elim
theorem bm.length {w : World} {F : Nat → Prop} : ∀ (ds : List I) (cs : List Value) (S : Nat → Prop), bm w F ds cs S → cs.length = I.ez ds
 | [], cs, S, h => by rw [bm] at h; subst h; rfl
 | d :: ds, cs, S, h => by
   rw [bm] at h
   obtain ⟨cE, cF, ct, et, rfl, aj, aQ, _⟩ := h
   rw [List.length_append, aB.length d _ _ aj, bm.length ds _ _ aQ, I.ez]
end
mutual
def I.share : I → I
 | .aw _ xs => .slice (I.shares xs)
 | .a8 d => .ref d.share
 | .slice xs => .slice (I.shares xs)
 | .ref d => .ref d.share
 | .agg az => .agg (I.shares az)
 | .tuple az => .tuple (I.shares az)
 | d => d
def I.shares : List I → List I
 | [] => []
 | d :: ds => d.share :: I.shares ds
end
theorem I.qQ (ds : List I) : I.shares ds = ds.map I.share := by
 induction ds with
 | nil => rfl
 | cons d ds ih => simp [I.shares, ih]
mutual
theorem I.yf : ∀ d : I, d.share.wd = d.wd
 | .hole => rfl
 | .bool _ => rfl
 | .e7 => rfl
 | .int _ _ => rfl
 | .str _ => rfl
 | .dC => rfl
 | .bc => rfl
 | .slice _ => rfl
 | .aw _ _ => rfl
 | .ref _ => rfl
 | .a8 _ => rfl
 | .agg az => by simp only [I.share, I.wd]; exact I.Ca az
 | .tuple az => by simp only [I.share, I.wd]; exact I.Ca az
 | .fn _ _ => rfl
 | .h _ _ => rfl
 | .ax _ _ => rfl
 | .ae _ _ => rfl
theorem I.Ca : ∀ ds : List I, I.ez (I.shares ds) = I.ez ds
 | [] => rfl
 | d :: ds => by simp only [I.shares, I.ez]; rw [I.yf d, I.Ca ds]
end
theorem sV {w : World} {b : Nat} {cur : Array Value} {e : TypeId} {fr : Nat × Nat} (h : w.heap[b]? = some (.cells cur e fr)) (n : Nat) : hK w b 0 (cur.toList.take n) := by
 intro j c ay
 rw [List.getElem?_take] at ay
 split at ay
 ·simp [World.cell?, h]; simpa using ay
 ·cases ay
mutual
theorem aB.shared {w : World} {F b0 : Nat → Prop} (bE : ∀ b, F b → b0 b) :
  ∀ (d : I) (cs : List Value) (S : Nat → Prop), (∀ b, S b → b0 b) → aB w F d cs S → aB w b0 d.share cs (fun _ => False)
 | .hole, _, _, _, h => h
 | .bool _, _, _, _, h => h
 | .e7, _, _, _, h => h
 | .int _ _, _, _, _, h => h
 | .str _, _, _, _, h => h
 | .dC, _, _, _, h => h
 | .bc, _, _, _, h => h
 | .slice xs, cs, S, ca, h => by
   rw [I.share, aB]
   rw [aB] at h
   rcases h with ⟨rfl, a, c, rfl, ay⟩ | ⟨b, o, cap, eM, sz, ai, aj, aQ, bd, b3, cG, cp⟩
   ·exact .inl ⟨rfl, a, c, rfl, ay⟩
   ·refine .inr ⟨b, o, cap, eM, sz, ?_, bE _ aj, ?_, bd, ?_, cG, bm.shared bE xs _ _ (fun _ h => h.elim) cp⟩
    ·simpa [I.qQ] using ai
    ·simpa [I.qQ] using aQ
    ·intro d al
     rw [I.qQ] at al
     obtain ⟨bF, hc, rfl⟩ := List.mem_map.1 al
     rw [I.yf]; exact b3 _ hc
 | .aw sz xs, cs, S, ca, h => by
   rw [I.share, aB]
   rw [aB] at h
   rcases h with ⟨rfl, a, rfl⟩ | ⟨b, cap, cur, e, fr, a1, ai, aj, aQ, bd, b3, cG, cp, fR, iF, hL, k3⟩
   ·exact .inl ⟨rfl, a, 0, rfl, Nat.zero_le _, fun _ => rfl⟩
   ·refine .inr ⟨b, 0, cap, _, sz, ?_, ca _ aj, ?_, cG, ?_, sV aQ _, bm.shared bE xs _ _ (fun c ay => ca _ (hL _ ay)) iF⟩
    ·simpa [I.qQ] using ai
    ·simpa [I.qQ] using b3
    ·intro d al
     rw [I.qQ] at al
     obtain ⟨bF, hc, rfl⟩ := List.mem_map.1 al
     rw [I.yf]; exact fR _ hc
 | .ref d, cs, S, ca, h => by
   rw [I.share, aB]
   rw [aB] at h
   obtain ⟨b, o, eM, ai, aj, aQ, bd⟩ := h
   exact ⟨b, o, eM, ai, bE _ aj, aQ, aB.shared bE d _ _ (fun _ h => h.elim) bd⟩
 | .a8 d, cs, S, ca, h => by
   rw [I.share, aB]
   rw [aB] at h
   obtain ⟨b, cur, e, fr, a1, ai, aj, aQ, bd, b3, cG, cp⟩ := h
   refine ⟨b, 0, cur.toList, ai, ca _ aj, ?_, aB.shared bE d _ _ (fun c ay => ca _ (cG _ ay)) b3⟩
   have := sV aQ cur.toList.length
   rwa [List.take_length] at this
 | .agg az, cs, S, ca, h => by rw [I.share, aB]; rw [aB] at h; exact bm.shared bE az _ _ ca h
 | .tuple az, cs, S, ca, h => by rw [I.share, aB]; rw [aB] at h; exact bm.shared bE az _ _ ca h
 | .fn _ _, _, _, _, h => h
 | .h _ _, _, _, _, h => h
 | .ax _ _, _, _, _, h => h
 | .ae _ _, _, _, _, h => h
theorem bm.shared {w : World} {F b0 : Nat → Prop} (bE : ∀ b, F b → b0 b) :
  ∀ (ds : List I) (cs : List Value) (S : Nat → Prop), (∀ b, S b → b0 b) → bm w F ds cs S → bm w b0 (I.shares ds) cs (fun _ => False)
 | [], _, _, _, h => h
 | d :: ds, cs, S, ca, h => by
   simp only [I.shares]
   rw [bm] at h ⊢
   obtain ⟨cE, cF, ct, et, ai, aj, aQ, bd, b3, cG⟩ := h
   exact ⟨cE, cF, _, _, ai, aB.shared bE d _ _ (fun b ae => ca _ (bd _ ae)) aj, bm.shared bE ds _ _ (fun b ae => ca _ (b3 _ ae)) aQ, fun _ h => h, fun _ h => h, fun _ h => h.elim⟩
end
def I.sub : List Nat → I → Option I
 | [], d => some d
 | k :: q, .agg az => match az[k]? with
   | some d => I.sub q d
   | none => none
 | k :: q, .tuple az => match az[k]? with
   | some d => I.sub q d
   | none => none
 | i :: q, .aw _ xs => match xs[i]? with
   | some d => I.sub q d
   | none => none
 | 0 :: q, .a8 d => I.sub q d
 | _ :: _, _ => none
def I.put : List Nat → I → I → I
 | [], n, _ => n
 | k :: q, n, .agg az => match az[k]? with
   | some d => .agg (az.set k (I.put q n d))
   | none => .agg az
 | k :: q, n, .tuple az => match az[k]? with
   | some d => .tuple (az.set k (I.put q n d))
   | none => .tuple az
 | i :: q, n, .aw sz xs => match xs[i]? with
   | some d => .aw sz (xs.set i (I.put q n d))
   | none => .aw sz xs
 | 0 :: q, n, .a8 d => .a8 (I.put q n d)
 | _ :: _, _, d => d
def ml (w : World) (b o n : Nat) : List Value := (List.range n).map fun j => (w.cell? ⟨b, o + j, none⟩).getD undef
theorem hK.ml {w : World} {b o : Nat} {cs : List Value} (h : hK w b o cs) : ml w b o cs.length = cs := by
 unfold dk.ml
 apply List.ext_getElem?
 intro i
 rw [List.getElem?_map]
 by_cases au : i < cs.length
 ·have : cs[i]? = some cs[i] := List.getElem?_eq_getElem au
  simp [au, h i _ this]
 ·simp [au]
def dr (w : World) : List Nat → I → List Value → Option (Nat × Nat) → Option (I × List Value × Option (Nat × Nat))
 | [], d, cs, a => some (d, cs, a)
 | k :: q, .agg az, cs, a => match az[k]? with
   | some d => dr w q d ((cs.drop (I.ez (az.take k))).take d.wd) (a.map fun l => (l.1, l.2 + I.ez (az.take k)))
   | none => none
 | k :: q, .tuple az, cs, a => match az[k]? with
   | some d => dr w q d ((cs.drop (I.ez (az.take k))).take d.wd) (a.map fun l => (l.1, l.2 + I.ez (az.take k)))
   | none => none
 | i :: q, .aw sz xs, cs, _ => match xs[i]?, cs with
   | some d, [.slice (some ⟨b, _, _⟩) _ _] => dr w q d (ml w b (i * sz) sz) (some (b, i * sz))
   | _, _ => none
 | 0 :: q, .a8 d, cs, _ => match cs with
   | [.pointer (some ⟨b, _, _⟩)] => dr w q d (ml w b 0 d.wd) (some (b, 0))
   | _ => none
 | _ :: _, _, _, _ => none
theorem sW (cE gj cF : List Value) (n m : Nat) (ai : cE.length = n) (aj : gj.length = m) : ((cE ++ (gj ++ cF)).drop n).take m = gj := by
 rw [List.drop_left' ai, List.take_left' aj]
theorem bm.pick {w : World} {F : Nat → Prop} : ∀ (ds : List I) (cs : List Value) (S : Nat → Prop) (k : Nat) (d : I),
  bm w F ds cs S → ds[k]? = some d → ∃ (cE gj cF : List Value) (ct j7 : Nat → Prop), cs = cE ++ (gj ++ cF) ∧ cE.length = I.ez (ds.take k) ∧
   (∀ b, ct b → S b) ∧ (∀ b, j7 b → S b) ∧ (∀ b, ct b → ¬ j7 b) ∧ aB w F d gj j7 ∧
   ∀ (aU : World) (bF : I) (qR : List Value) (a1 : Nat → Prop), (∀ b, F b → aU.heap[b]? = w.heap[b]?) → (∀ b, ct b → aU.heap[b]? = w.heap[b]?) →
     aB aU F bF qR a1 → (∀ b, a1 b → ¬ ct b) → bm aU F (ds.set k bF) (cE ++ (qR ++ cF)) (fun b => ct b ∨ a1 b)
 | [], _, _, _, _, _, aE => by simp at aE
 | x :: ds, cs, S, 0, d, h, aE => by
   rw [bm] at h
   obtain ⟨cE, cF, hE, gO, rfl, ai, aj, cw, ae, ll⟩ := h
   simp at aE; subst aE
   refine ⟨[], cE, cF, gO, hE, rfl, rfl, ae, cw, fun b ae cw => ll _ cw ae, ai, ?_⟩
   intro aU bF qR a1 bE ca al iT
   simp only [List.set_cons_zero, List.nil_append]
   rw [bm]
   exact ⟨qR, cF, a1, gO, rfl, al, bm.frame bE _ _ _ ca aj, fun b h => .inr h, fun b h => .inl h, fun b h => iT b h⟩
 | x :: ds, cs, S, k + 1, d, h, aE => by
   rw [bm] at h
   obtain ⟨mm, M6, hE, gO, rfl, ai, aj, cw, ae, ll⟩ := h
   simp only [List.getElem?_cons_succ] at aE
   have hl := aB.length _ _ _ ai
   obtain ⟨cE, gj, cF, ct, j7, rfl, j8, yg, u6, Cb, Cc, Cd⟩ := bm.pick ds M6 gO k d aj aE
   refine ⟨mm ++ cE, gj, cF, fun b => hE b ∨ ct b, j7, by simp, by simp [I.ez, hl, j8], ?_, fun b h => ae _ (u6 _ h), ?_, Cc, ?_⟩
   ·rintro b (h | h)
    ·exact cw _ h
    ·exact ae _ (yg _ h)
   ·rintro b (h | h) aE
    ·exact ll _ h (u6 _ aE)
    ·exact Cb _ h aE
   ·intro aU bF qR a1 bE ca al iT
    simp only [List.set_cons_succ]
    rw [bm]
    refine ⟨mm, cE ++ (qR ++ cF), hE, fun b => ct b ∨ a1 b, by simp, aB.frame bE _ _ _ (fun b ae => ca b (.inl ae)) ai,
     Cd aU bF qR a1 bE (fun b ae => ca b (.inr ae)) al (fun b ae ay => iT b ae (.inr ay)), fun b h => .inl (.inl h), ?_, ?_⟩
    ·rintro b (h | h)
     ·exact .inl (.inr h)
     ·exact .inr h
    ·rintro b h (bD | bD)
     ·exact ll _ h (yg _ bD)
     ·exact iT _ bD (.inl h)
theorem Ce : ∀ (az : List I) (k : Nat) (x y : I), az[k]? = some x → y.wd = x.wd → I.ez (az.set k y) = I.ez az := by
 intro az
 induction az with
 | nil => intro k x y h; simp at h
 | cons a az ih =>
   intro k x y h e
   cases k with
   | zero => simp at h; subst h; simp [I.ez, e]
   | succ k => simp at h; simp [I.ez, ih k x y h e]
theorem qS {sz : Nat} : ∀ (xs : List I), (∀ d ∈ xs, d.wd = sz) → I.ez xs = xs.length * sz
 | [], _ => by simp [I.ez]
 | x :: xs, h => by
   rw [I.ez, h x (by simp), qS xs (fun d al => h d (by simp [al])), List.length_cons, Nat.add_mul, Nat.one_mul, Nat.add_comm]
theorem I.sX : ∀ (q : List Nat) (av d bF : I), I.sub q av = some d → bF.wd = d.wd → (I.put q bF av).wd = av.wd := by
 intro q
 induction q with
 | nil => intro av d bF h e; simp [I.sub] at h; subst h; simpa [I.put] using e
 | cons k q ih =>
   intro av d bF h e
   cases av with
   | agg az =>
     simp only [I.sub] at h
     split at h
     ·rename_i x aC
      simp only [I.put, aC, I.wd]
      exact Ce _ _ _ _ aC (ih _ _ _ h e)
     ·cases h
   | tuple az =>
     simp only [I.sub] at h
     split at h
     ·rename_i x aC
      simp only [I.put, aC, I.wd]
      exact Ce _ _ _ _ aC (ih _ _ _ h e)
     ·cases h
   | aw sz xs =>
     simp only [I.sub] at h
     split at h
     ·rename_i x aC
      simp only [I.put, aC, I.wd]
     ·cases h
   | a8 x =>
     cases k with
     | zero => simp only [I.put, I.wd]
     | succ k => simp [I.sub] at h
   | _ => simp [I.sub] at h
theorem Cf {sz : Nat} {xs : List I} {i : Nat} {y : I} (h : ∀ d ∈ xs, d.wd = sz) (bL : y.wd = sz) : ∀ d ∈ xs.set i y, d.wd = sz := by
 intro d al
 rcases List.mem_or_eq_of_mem_set al with al | rfl
 ·exact h d al
 ·exact bL
theorem sY {w : World} {b : Nat} {cur : Array Value} {e : TypeId} {fr : Nat × Nat} (h : w.heap[b]? = some (.cells cur e fr)) {l m r : List Value} (ay : cur.toList = l ++ (m ++ r)) :
  ml w b l.length m.length = m := by
 refine hK.ml (fun j c cJ => ?_)
 have fz : j < m.length := (List.getElem?_eq_some_iff.1 cJ).1
 have : cur.toList[l.length + j]? = some c := by
  rw [ay, List.getElem?_append_right (by omega), List.getElem?_append_left (by omega)]
  rw [← cJ]; congr 1; omega
 simp [World.cell?, h]
 simpa using this
def Flat (w : World) (F : Nat → Prop) (q : List Nat) (av : I) (cs : List Value) (a : Option (Nat × Nat)) (d : I) (c0 : List Value) (cR : Option (Nat × Nat)) (e3 : Nat → Prop) : Prop :=
 ∃ l r : List Value, cs = l ++ (c0 ++ r) ∧ cR = a.map (fun x => (x.1, x.2 + l.length)) ∧
   ∀ (aU : World) (bF : I) (gk : List Value) (a1 : Nat → Prop), (∀ b, F b → aU.heap[b]? = w.heap[b]?) → (∀ b, e3 b → aU.heap[b]? = w.heap[b]?) →
     bF.wd = d.wd → aB aU F bF gk a1 → (∀ b, a1 b → ¬ e3 b) → aB aU F (I.put q bF av) (l ++ (gk ++ r)) (fun b => e3 b ∨ a1 b)
def Cg (w : World) (F : Nat → Prop) (q : List Nat) (av : I) (cs : List Value) (d : I) (c0 : List Value) (cR : Option (Nat × Nat)) (e3 : Nat → Prop) : Prop :=
 ∃ (b : Nat) (cur : Array Value) (e : TypeId) (fr : Nat × Nat) (l r : List Value), cR = some (b, l.length) ∧ e3 b ∧ w.heap[b]? = some (.cells cur e fr) ∧ pU fr cur.size ∧ cur.toList = l ++ (c0 ++ r) ∧
   ∀ (aU : World) (bF : I) (gk : List Value) (a1 : Nat → Prop), (∀ b, F b → aU.heap[b]? = w.heap[b]?) → (∀ c, e3 c → c ≠ b → aU.heap[c]? = w.heap[c]?) →
     aU.heap[b]? = some (.cells (l ++ (gk ++ r)).toArray e fr) →
     bF.wd = d.wd → aB aU F bF gk a1 → (∀ b, a1 b → ¬ e3 b) → aB aU F (I.put q bF av) cs (fun b => e3 b ∨ a1 b)
theorem ctx {w : World} {F : Nat → Prop} : ∀ (q : List Nat) (av : I) (cs : List Value) (S : Nat → Prop) (a : Option (Nat × Nat)) (d : I),
  aB w F av cs S → I.sub q av = some d → ∃ (c0 : List Value) (cR : Option (Nat × Nat)) (e3 hd : Nat → Prop), dr w q av cs a = some (d, c0, cR) ∧
   (∀ b, e3 b → S b) ∧ (∀ b, hd b → S b) ∧ (∀ b, e3 b → ¬ hd b) ∧ aB w F d c0 hd ∧ (Flat w F q av cs a d c0 cR e3 ∨ Cg w F q av cs d c0 cR e3) := by
 intro q
 induction q with
 | nil =>
   intro av cs S a d h al
   simp [I.sub] at al; subst al
   refine ⟨cs, a, fun _ => False, S, rfl, fun _ h => h.elim, fun _ h => h, fun _ h => h.elim, h, .inl ⟨[], [], by simp, ?_, ?_⟩⟩
   ·cases a <;> simp
   ·intro aU bF gk a1 _ _ hw hc _
    simp only [I.put, List.nil_append, List.append_nil]
    exact aB.mono (fun _ h => h) _ _ _ _ (fun b h => .inr h) hc
 | cons k q ih =>
   have fields : ∀ (mk : List I → I) (Ch : ∀ (w : World) (F : Nat → Prop) (az : List I) (cs : List Value) (S : Nat → Prop), aB w F (mk az) cs S = bm w F az cs S) (az : List I) (cs : List Value) (S : Nat → Prop) (a : Option (Nat × Nat)) (x d : I),
     (kq : ∀ bF, I.put (k :: q) bF (mk az) = mk (az.set k (I.put q bF x))) → bm w F az cs S → az[k]? = some x → I.sub q x = some d →
     ∃ (c0 : List Value) (cR : Option (Nat × Nat)) (e3 hd : Nat → Prop), dr w q x ((cs.drop (I.ez (az.take k))).take x.wd) (a.map fun l => (l.1, l.2 + I.ez (az.take k))) = some (d, c0, cR) ∧
     (∀ b, e3 b → S b) ∧ (∀ b, hd b → S b) ∧ (∀ b, e3 b → ¬ hd b) ∧ aB w F d c0 hd ∧ (Flat w F (k :: q) (mk az) cs a d c0 cR e3 ∨ Cg w F (k :: q) (mk az) cs d c0 cR e3) := by
    intro mk Ch az cs S a x d kq h aC al
    obtain ⟨cE, gj, cF, ct, j7, rfl, h3, gP, ht, h4, hf, lN⟩ := bm.pick az cs S k x h aC
    have hl := aB.length _ _ _ hf
    rw [sW cE gj cF _ _ h3 hl]
    obtain ⟨c0, cR, e3, hd, hF, bf, bG, cC, eH, fJ⟩ := ih x _ j7 (a.map fun l => (l.1, l.2 + I.ez (az.take k))) d hf al
    refine ⟨c0, cR, fun b => ct b ∨ e3 b, hd, hF, ?_, fun b ae => ht _ (bG _ ae), ?_, eH, ?_⟩
    ·rintro b (h | h)
     ·exact gP _ h
     ·exact ht _ (bf _ h)
    ·rintro b (h | h) al
     ·exact h4 _ h (bG _ al)
     ·exact cC _ h al
    ·have fp : ∀ (b : Nat) (a1 : Nat → Prop), (ct b ∨ e3 b ∨ a1 b) → ((ct b ∨ e3 b) ∨ a1 b) := by
      rintro b a1 (ae | ae | ae)
      ·exact .inl (.inl ae)
      ·exact .inl (.inr ae)
      ·exact .inr ae
     rcases fJ with ⟨l, r, rfl, a_, a2⟩ | ⟨b, cur, e, fr, l, r, a4, a_, a2, c1, c9, cl⟩
     ·refine .inl ⟨cE ++ l, r ++ cF, by simp, ?_, ?_⟩
      ·rw [a_, ← h3]; cases a <;> simp [Nat.add_assoc]
      ·intro aU bF gk a1 bE ca hw hc iT
       have dX := a2 aU bF gk a1 bE (fun b ae => ca b (.inr ae)) hw hc (fun b ae ay => iT b ae (.inr ay))
       have eS := lN aU _ _ _ bE (fun b ae => ca b (.inl ae)) dX (by
        rintro b (ae | ae) ai
        ·exact h4 _ ai (bf _ ae)
        ·exact iT _ ae (.inl ai))
       rw [kq, Ch]
       have := bm.mono (fun _ h => h) _ _ _ _ (fun b => fp b a1) eS
       simpa using this
     ·refine .inr ⟨b, cur, e, fr, l, r, a4, .inr a_, a2, c1, c9, ?_⟩
      intro aU bF gk a1 bE ca ln hw hc iT
      have dX := cl aU bF gk a1 bE (fun c ay => ca c (.inr ay)) ln hw hc (fun b ae ay => iT b ae (.inr ay))
      have eS := lN aU _ _ _ bE (fun c ay => ca c (.inl ay) (by rintro rfl; exact h4 _ ay (bf _ a_))) dX (by
        rintro b (ae | ae) ai
        ·exact h4 _ ai (bf _ ae)
        ·exact iT _ ae (.inl ai))
      rw [kq, Ch]
      exact bm.mono (fun _ h => h) _ _ _ _ (fun b => fp b a1) eS
   intro av cs S a d h al
   cases av with
   | agg az =>
     simp only [I.sub] at al
     split at al
     ·rename_i x aC
      rw [aB] at h
      have := fields .agg (fun _ _ _ _ _ => by rw [aB]) az cs S a x d (fun bF => by simp only [I.put, aC]) h aC al
      simpa only [dr, aC] using this
     ·cases al
   | tuple az =>
     simp only [I.sub] at al
     split at al
     ·rename_i x aC
      rw [aB] at h
      have := fields .tuple (fun _ _ _ _ _ => by rw [aB]) az cs S a x d (fun bF => by simp only [I.put, aC]) h aC al
      simpa only [dr, aC] using this
     ·cases al
   | aw sz xs =>
     simp only [I.sub] at al
     split at al
     ·rename_i x aC
      rw [aB] at h
      rcases h with ⟨rfl, _, rfl⟩ | ⟨b, cap, cur, e, fr, eA, rfl, aj, aQ, bd, b3, cG, cp, fR, iF, hL, k3⟩
      ·simp at aC
      ·obtain ⟨cE, gj, cF, ct, j7, p, h3, gP, ht, h4, hf, lN⟩ := bm.pick xs _ eA k x iF aC
       have hl := aB.length _ _ _ hf
       have M7 : k < xs.length := (List.getElem?_eq_some_iff.1 aC).1
       have u7 : x.wd = sz := fR x (List.mem_of_getElem? aC)
       have cm : I.ez (xs.take k) = k * sz := by
        rw [qS _ (fun d al => fR d (List.mem_of_mem_take al))]
        rw [List.length_take, Nat.min_eq_left (by omega)]
       obtain ⟨pa, kH⟩ : ∃ pa, cur.toList = cE ++ (gj ++ (cF ++ pa)) := by
        refine ⟨cur.toList.drop (xs.length * sz), ?_⟩
        have := (List.take_append_drop (xs.length * sz) cur.toList).symm
        rw [p] at this
        simpa using this
       have jt : ml w b (k * sz) sz = gj := by
        have := sY aQ kH
        rwa [h3, cm, hl, u7] at this
       obtain ⟨c0, cR, e3, hd, hF, bf, bG, cC, eH, fJ⟩ := ih x _ j7 (some (b, k * sz)) d hf al
       have kq : ∀ bF, I.put (k :: q) bF (.aw sz xs) = .aw sz (xs.set k (I.put q bF x)) := fun bF => by simp only [I.put, aC]
       refine ⟨c0, cR, fun c => c = b ∨ ct c ∨ e3 c, hd, ?_, ?_, fun c ay => hL _ (ht _ (bG _ ay)), ?_, eH, .inr ?_⟩
       ·simp only [dr, aC, jt]; exact hF
       ·rintro c (rfl | h | h)
        ·exact aj
        ·exact hL _ (gP _ h)
        ·exact hL _ (ht _ (bf _ h))
       ·rintro c (rfl | h | h) al
        ·exact k3 (ht _ (bG _ al))
        ·exact h4 _ h (bG _ al)
        ·exact cC _ h al
       ·have lO : ∀ bF, bF.wd = d.wd → (I.put q bF x).wd = sz := fun bF hw => (I.sX q x d bF al hw).trans u7
        rcases fJ with ⟨l, r, rfl, a_, a2⟩ | ⟨fY, Ci, gE, Cj, l, r, a4, a_, a2, c1, c9, cl⟩
        ·refine ⟨b, cur, e, fr, cE ++ l, r ++ (cF ++ pa), ?_, .inl rfl, aQ, bd, ?_, ?_⟩
         ·rw [a_]; simp [h3, cm]
         ·rw [kH]; simp
         ·intro aU bF gk a1 bE ca ln hw hc iT
          have dX := a2 aU bF gk a1 bE (fun c ay => ca c (.inr (.inr ay)) (by rintro rfl; exact k3 (ht _ (bf _ ay)))) hw hc (fun b ae ay => iT b ae (.inr (.inr ay)))
          have eS := lN aU _ _ _ bE (fun c ay => ca c (.inr (.inl ay)) (by rintro rfl; exact k3 (gP _ ay))) dX (by
           rintro b (ae | ae) ai
           ·exact h4 _ ai (bf _ ae)
           ·exact iT _ ae (.inr (.inl ai)))
          have u9 := aB.length _ _ _ hc
          have u_ := aB.length _ _ _ eH
          rw [kq, aB]
          refine .inr ⟨b, cap, _, e, fr, fun b => ct b ∨ e3 b ∨ a1 b, by simp, .inl (.inl rfl), ln, ?_, by simpa using b3, cG, ?_, Cf fR (lO bF hw), ?_, ?_, ?_⟩
          ·have : (cE ++ l ++ (gk ++ (r ++ (cF ++ pa)))).toArray.size = cur.size := by
            have : cur.size = cur.toList.length := by simp
            rw [this, kH]; simp [u9, u_, hw]
           rw [this]; exact bd
          ·rw [← cp]
           have : cur.size = cur.toList.length := by simp
           rw [this, kH]; simp [u9, u_, hw]
          ·have hlen : (cE ++ (l ++ (gk ++ r) ++ cF)).length = xs.length * sz := by
            have := congrArg List.length p
            rw [List.length_take, Nat.min_eq_left (by simp [cp]; exact Nat.mul_le_mul_right _ b3)] at this
            rw [this]; simp [u9, u_, hw]
           have : (cE ++ l ++ (gk ++ (r ++ (cF ++ pa)))) = (cE ++ (l ++ (gk ++ r) ++ cF)) ++ pa := by simp
           rw [List.length_set]
           simp only [this]
           rw [List.take_left' hlen]
           exact eS
          ·rintro c (h | h | h)
           ·exact .inl (.inr (.inl h))
           ·exact .inl (.inr (.inr h))
           ·exact .inr h
          ·rintro (h | h | h)
           ·exact k3 (gP _ h)
           ·exact k3 (ht _ (bf _ h))
           ·exact iT _ h (.inl rfl)
        ·refine ⟨fY, Ci, gE, Cj, l, r, a4, .inr (.inr a_), a2, c1, c9, ?_⟩
         intro aU bF gk a1 bE ca ln hw hc iT
         have dX := cl aU bF gk a1 bE (fun c ay eg => ca c (.inr (.inr ay)) eg) ln hw hc (fun b ae ay => iT b ae (.inr (.inr ay)))
         have eg : ∀ c, ct c → c ≠ fY := by rintro c ay rfl; exact h4 _ ay (bf _ a_)
         have eS := lN aU _ _ _ bE (fun c ay => ca c (.inr (.inl ay)) (eg c ay)) dX (by
          rintro b (ae | ae) ai
          ·exact h4 _ ai (bf _ ae)
          ·exact iT _ ae (.inr (.inl ai)))
         have Ck : b ≠ fY := by rintro rfl; exact k3 (ht _ (bf _ a_))
         rw [kq, aB]
         refine .inr ⟨b, cap, cur, e, fr, fun b => ct b ∨ e3 b ∨ a1 b, by simp, .inl (.inl rfl), (ca b (.inl rfl) Ck).trans aQ, bd, by simpa using b3, cG, cp, Cf fR (lO bF hw), ?_, ?_, ?_⟩
         ·rw [List.length_set, p]; exact eS
         ·rintro c (h | h | h)
          ·exact .inl (.inr (.inl h))
          ·exact .inl (.inr (.inr h))
          ·exact .inr h
         ·rintro (h | h | h)
          ·exact k3 (gP _ h)
          ·exact k3 (ht _ (bf _ h))
          ·exact iT _ h (.inl rfl)
     ·cases al
   | a8 x =>
     cases k with
     | succ k => simp [I.sub] at al
     | zero =>
       simp only [I.sub] at al
       rw [aB] at h
       obtain ⟨b, cur, e, fr, eA, rfl, aj, aQ, bd, b3, cG, cp⟩ := h
       have hl := aB.length _ _ _ b3
       have jt : ml w b 0 x.wd = cur.toList := by
        have := sY (l := []) (m := cur.toList) (r := []) aQ (by simp)
        rwa [hl] at this
       obtain ⟨c0, cR, e3, hd, hF, bf, bG, cC, eH, fJ⟩ := ih x _ eA (some (b, 0)) d b3 al
       have kq : ∀ bF, I.put (0 :: q) bF (.a8 x) = .a8 (I.put q bF x) := fun bF => rfl
       refine ⟨c0, cR, fun c => c = b ∨ e3 c, hd, ?_, ?_, fun c ay => cG _ (bG _ ay), ?_, eH, .inr ?_⟩
       ·simp only [dr, jt]; exact hF
       ·rintro c (rfl | h)
        ·exact aj
        ·exact cG _ (bf _ h)
       ·rintro c (rfl | h) al
        ·exact cp (bG _ al)
        ·exact cC _ h al
       ·rcases fJ with ⟨l, r, a4, a_, a2⟩ | ⟨fY, Ci, gE, Cj, l, r, a4, a_, a2, c1, c9, cl⟩
        ·refine ⟨b, cur, e, fr, l, r, ?_, .inl rfl, aQ, bd, a4, ?_⟩
         ·rw [a_]; simp
         ·intro aU bF gk a1 bE ca ln hw hc iT
          have dX := a2 aU bF gk a1 bE (fun c ay => ca c (.inr ay) (by rintro rfl; exact cp (bf _ ay))) hw hc (fun b ae ay => iT b ae (.inr ay))
          have u9 := aB.length _ _ _ hc
          have u_ := aB.length _ _ _ eH
          rw [kq, aB]
          refine ⟨b, _, e, fr, fun b => e3 b ∨ a1 b, rfl, .inl (.inl rfl), ln, ?_, dX, ?_, ?_⟩
          ·have : (l ++ (gk ++ r)).toArray.size = cur.size := by
            have : cur.size = cur.toList.length := by simp
            rw [this, a4]; simp [u9, u_, hw]
           rw [this]; exact bd
          ·rintro c (h | h)
           ·exact .inl (.inr h)
           ·exact .inr h
          ·rintro (h | h)
           ·exact cp (bf _ h)
           ·exact iT _ h (.inl rfl)
        ·refine ⟨fY, Ci, gE, Cj, l, r, a4, .inr a_, a2, c1, c9, ?_⟩
         intro aU bF gk a1 bE ca ln hw hc iT
         have dX := cl aU bF gk a1 bE (fun c ay eg => ca c (.inr ay) eg) ln hw hc (fun b ae ay => iT b ae (.inr ay))
         have Ck : b ≠ fY := by rintro rfl; exact cp (bf _ a_)
         rw [kq, aB]
         refine ⟨b, cur, e, fr, fun b => e3 b ∨ a1 b, rfl, .inl (.inl rfl), (ca b (.inl rfl) Ck).trans aQ, bd, dX, ?_, ?_⟩
         ·rintro c (h | h)
          ·exact .inl (.inr h)
          ·exact .inr h
         ·rintro (h | h)
          ·exact cp (bf _ h)
          ·exact iT _ h (.inl rfl)
   | _ => simp [I.sub] at al
mutual
def I.plain : I → Bool
 | .aw _ _ => false
 | .a8 _ => false
 | .agg az => I.dI az
 | .tuple az => I.dI az
 | _ => true
def I.dI : List I → Bool
 | [] => true
 | d :: ds => d.plain && I.dI ds
end
mutual
def I.di : I → I
 | .aw _ _ => .hole
 | .a8 _ => .hole
 | .agg az => .agg (I.kI az)
 | .tuple az => .tuple (I.kI az)
 | d => d
def I.kI : List I → List I
 | [] => []
 | d :: ds => d.di :: I.kI ds
end
mutual
theorem I.pV : ∀ d : I, d.di.wd = d.wd
 | .hole => rfl
 | .bool _ => rfl
 | .e7 => rfl
 | .int _ _ => rfl
 | .str _ => rfl
 | .dC => rfl
 | .bc => rfl
 | .slice _ => rfl
 | .aw _ _ => rfl
 | .ref _ => rfl
 | .a8 _ => rfl
 | .agg az => by simp only [I.di, I.wd]; exact I.Cl az
 | .tuple az => by simp only [I.di, I.wd]; exact I.Cl az
 | .fn _ _ => rfl
 | .h _ _ => rfl
 | .ax _ _ => rfl
 | .ae _ _ => rfl
theorem I.Cl : ∀ ds : List I, I.ez (I.kI ds) = I.ez ds
 | [] => rfl
 | d :: ds => by simp only [I.kI, I.ez]; rw [I.pV d, I.Cl ds]
end
mutual
theorem aB.di {w : World} {F : Nat → Prop} : ∀ (d : I) (cs : List Value) (S a1 : Nat → Prop), aB w F d cs S → aB w F d.di cs a1
 | .hole, _, _, _, h => h
 | .bool _, _, _, _, h => h
 | .e7, _, _, _, h => h
 | .int _ _, _, _, _, h => h
 | .str _, _, _, _, h => h
 | .dC, _, _, _, h => h
 | .bc, _, _, _, h => h
 | .slice xs, cs, S, a1, h => by
   show aB w F (.slice xs) cs a1
   rw [aB] at h ⊢; exact h
 | .aw sz xs, cs, S, a1, h => by
   rw [I.di, aB]
   rw [aB] at h
   rcases h with ⟨_, _, rfl⟩ | ⟨b, cap, cur, e, fr, eA, rfl, _⟩
   ·exact ⟨_, rfl, rfl⟩
   ·exact ⟨_, rfl, rfl⟩
 | .ref d, cs, S, a1, h => by
   show aB w F (.ref d) cs a1
   rw [aB] at h ⊢; exact h
 | .a8 d, cs, S, a1, h => by
   rw [I.di, aB]
   rw [aB] at h
   obtain ⟨b, cur, e, fr, eA, rfl, _⟩ := h
   exact ⟨_, rfl, rfl⟩
 | .agg az, cs, S, a1, h => by rw [I.di, aB]; rw [aB] at h; exact bm.di az _ _ _ h
 | .tuple az, cs, S, a1, h => by rw [I.di, aB]; rw [aB] at h; exact bm.di az _ _ _ h
 | .fn _ _, _, _, _, h => h
 | .h _ _, _, _, _, h => h
 | .ax _ _, _, _, _, h => h
 | .ae _ _, _, _, _, h => h
theorem bm.di {w : World} {F : Nat → Prop} : ∀ (ds : List I) (cs : List Value) (S a1 : Nat → Prop), bm w F ds cs S → bm w F (I.kI ds) cs a1
 | [], _, _, _, h => h
 | d :: ds, cs, S, a1, h => by
   rw [I.kI, bm]
   rw [bm] at h
   obtain ⟨cE, cF, ct, et, ai, aj, aQ, bd, b3, cG⟩ := h
   exact ⟨cE, cF, fun _ => False, fun _ => False, ai, aB.di d _ _ _ aj, bm.di ds _ _ _ aQ, fun _ h => h.elim, fun _ h => h.elim, fun _ h => h.elim⟩
end
mutual
theorem aB.plain {w : World} {F : Nat → Prop} : ∀ (d : I) (cs : List Value) (S a1 : Nat → Prop), d.plain = true → aB w F d cs S → aB w F d cs a1
 | .hole, _, _, _, _, h => h
 | .bool _, _, _, _, _, h => h
 | .e7, _, _, _, _, h => h
 | .int _ _, _, _, _, _, h => h
 | .str _, _, _, _, _, h => h
 | .dC, _, _, _, _, h => h
 | .bc, _, _, _, _, h => h
 | .slice xs, cs, S, a1, _, h => by rw [aB] at h ⊢; exact h
 | .aw sz xs, cs, S, a1, ax, h => by simp [I.plain] at ax
 | .ref d, cs, S, a1, _, h => by rw [aB] at h ⊢; exact h
 | .a8 d, cs, S, a1, ax, h => by simp [I.plain] at ax
 | .agg az, cs, S, a1, ax, h => by rw [aB] at h ⊢; exact bm.plain az _ _ _ ax h
 | .tuple az, cs, S, a1, ax, h => by rw [aB] at h ⊢; exact bm.plain az _ _ _ ax h
 | .fn _ _, _, _, _, _, h => h
 | .h _ _, _, _, _, _, h => h
 | .ax _ _, _, _, _, _, h => h
 | .ae _ _, _, _, _, _, h => h
theorem bm.plain {w : World} {F : Nat → Prop} : ∀ (ds : List I) (cs : List Value) (S a1 : Nat → Prop), I.dI ds = true → bm w F ds cs S → bm w F ds cs a1
 | [], _, _, _, _, h => h
 | d :: ds, cs, S, a1, ax, h => by
   rw [bm] at h ⊢
   simp only [I.dI, Bool.and_eq_true] at ax
   obtain ⟨cE, cF, ct, et, ai, aj, aQ, bd, b3, cG⟩ := h
   exact ⟨cE, cF, fun _ => False, fun _ => False, ai, aB.plain d _ _ _ ax.1 aj, bm.plain ds _ _ _ ax.2 aQ, fun _ h => h.elim, fun _ h => h.elim, fun _ h => h.elim⟩
end
def I.fK : List Nat → I → Bool
 | [], _ => false
 | k :: q, .agg az => match az[k]? with
   | some d => I.fK q d
   | none => false
 | k :: q, .tuple az => match az[k]? with
   | some d => I.fK q d
   | none => false
 | _ :: _, .aw _ _ => true
 | _ :: _, .a8 _ => true
 | _ :: _, _ => false
theorem yh {az : List I} (h : I.dI az = true) {k : Nat} {d : I} (aE : az[k]? = some d) : d.plain = true := by
 induction az generalizing k with
 | nil => simp at aE
 | cons a az ih =>
   simp only [I.dI, Bool.and_eq_true] at h
   cases k with
   | zero => simp at aE; subst aE; exact h.1
   | succ k => simp at aE; exact ih h.2 aE
theorem I.F4 : ∀ (q : List Nat) (d : I), d.plain = true → I.fK q d = false := by
 intro q
 induction q with
 | nil => intros; rfl
 | cons k q ih =>
   intro d al
   cases d <;> first | rfl | (simp [I.plain] at al; done) | skip
   all_goals
    simp only [I.fK]
    split
    ·rename_i az x aC; exact ih _ (yh (by simpa [I.plain] using al) aC)
    ·rfl
theorem I.F5 : ∀ (q : List Nat) (d e : I), d.plain = true → I.sub q d = some e → e.plain = true := by
 intro q
 induction q with
 | nil => intro d e al h; simp [I.sub] at h; exact h ▸ al
 | cons k q ih =>
   intro d e al h
   cases d <;> first | (simp [I.plain] at al; done) | (simp [I.sub] at h; done) | skip
   all_goals
    simp only [I.sub] at h
    split at h
    ·rename_i az x aC; exact ih _ _ (yh (by simpa [I.plain] using al) aC) h
    ·cases h
theorem Cm {w aU : World} {F : Nat → Prop} : ∀ (q : List Nat) (av : I) (cs : List Value) (S : Nat → Prop) (a : Option (Nat × Nat)) (d : I),
  aB w F av cs S → I.sub q av = some d → (∀ b, S b → aU.heap[b]? = w.heap[b]?) → dr aU q av cs a = dr w q av cs a := by
 intro q
 induction q with
 | nil => intros; rfl
 | cons k q ih =>
   have fields : ∀ (az : List I) (cs : List Value) (S : Nat → Prop) (a : Option (Nat × Nat)) (x d : I), bm w F az cs S → az[k]? = some x → I.sub q x = some d →
     (∀ b, S b → aU.heap[b]? = w.heap[b]?) →
     dr aU q x ((cs.drop (I.ez (az.take k))).take x.wd) (a.map fun l => (l.1, l.2 + I.ez (az.take k))) = dr w q x ((cs.drop (I.ez (az.take k))).take x.wd) (a.map fun l => (l.1, l.2 + I.ez (az.take k))) := by
    intro az cs S a x d h aC al ca
    obtain ⟨cE, gj, cF, ct, j7, rfl, h3, gP, ht, h4, hf, lN⟩ := bm.pick az cs S k x h aC
    rw [sW cE gj cF _ _ h3 (aB.length _ _ _ hf)]
    exact ih x gj j7 _ d hf al (fun b ae => ca b (ht _ ae))
   intro av cs S a d h al ca
   cases av with
   | agg az =>
     simp only [I.sub] at al
     split at al
     ·rename_i x aC
      rw [aB] at h
      simp only [dr, aC]
      exact fields az cs S a x d h aC al ca
     ·cases al
   | tuple az =>
     simp only [I.sub] at al
     split at al
     ·rename_i x aC
      rw [aB] at h
      simp only [dr, aC]
      exact fields az cs S a x d h aC al ca
     ·cases al
   | aw sz xs =>
     simp only [I.sub] at al
     split at al
     ·rename_i x aC
      rw [aB] at h
      rcases h with ⟨rfl, _, rfl⟩ | ⟨b, cap, cur, e, fr, eA, rfl, aj, aQ, bd, b3, cG, cp, fR, iF, hL, k3⟩
      ·simp at aC
      ·obtain ⟨cE, gj, cF, ct, j7, p, h3, gP, ht, h4, hf, lN⟩ := bm.pick xs _ eA k x iF aC
       have hl := aB.length _ _ _ hf
       have M7 : k < xs.length := (List.getElem?_eq_some_iff.1 aC).1
       have u7 : x.wd = sz := fR x (List.mem_of_getElem? aC)
       have cm : I.ez (xs.take k) = k * sz := by
        rw [qS _ (fun d al => fR d (List.mem_of_mem_take al))]
        rw [List.length_take, Nat.min_eq_left (by omega)]
       obtain ⟨pa, kH⟩ : ∃ pa, cur.toList = cE ++ (gj ++ (cF ++ pa)) := by
        refine ⟨cur.toList.drop (xs.length * sz), ?_⟩
        have := (List.take_append_drop (xs.length * sz) cur.toList).symm
        rw [p] at this
        simpa using this
       have jt : ml w b (k * sz) sz = gj := by
        have := sY aQ kH
        rwa [h3, cm, hl, u7] at this
       have Cn : ml aU b (k * sz) sz = gj := by
        have := sY ((ca b aj).trans aQ) kH
        rwa [h3, cm, hl, u7] at this
       simp only [dr, aC, jt, Cn]
       exact ih x gj j7 _ d hf al (fun c ay => ca c (hL _ (ht _ ay)))
     ·cases al
   | a8 x =>
     cases k with
     | succ k => simp [I.sub] at al
     | zero =>
       simp only [I.sub] at al
       rw [aB] at h
       obtain ⟨b, cur, e, fr, eA, rfl, aj, aQ, bd, b3, cG, cp⟩ := h
       have hl := aB.length _ _ _ b3
       have jt : ml w b 0 x.wd = cur.toList := by
        have := sY (l := []) (m := cur.toList) (r := []) aQ (by simp)
        rwa [hl] at this
       have Cn : ml aU b 0 x.wd = cur.toList := by
        have := sY (l := []) (m := cur.toList) (r := []) ((ca b aj).trans aQ) (by simp)
        rwa [hl] at this
       simp only [dr, jt, Cn]
       exact ih x cur.toList eA _ d b3 al (fun c ay => ca c (cG _ ay))
   | _ => simp [I.sub] at al
def il : Value → List Value
 | .agg cs => cs.toList
 | v => [v]
def cY : Value → List Value
 | .tuple vs => vs.toList.flatMap il
 | v => il v
def im : I → Value → Prop
 | .agg _, v => ∃ arr, v = .agg arr
 | _, v => Value.gX v = true
def eN : I → Value → Prop
 | .tuple ds, v => ∃ arr : Array Value, v = .tuple arr ∧ arr.size = ds.length ∧ ∀ (k : Nat) (d : I) (x : Value), ds[k]? = some d → arr[k]? = some x → im d x ∧ (∀ vs, d ≠ .tuple vs) ∧ (il x).length = d.wd
 | d, v => im d v
abbrev ar := Nat → I
mutual
def aW (w : World) (F : Nat → Prop) (s : ar) (aF : Nat → Value) : I → Value → (Nat → Prop) → Prop
 | .hole, _, _ => True
 | .h x q, v, _ => ∀ d, I.sub q (s x) = some d → d.plain = false → ∃ c0 a, dr w q (s x) (cY (aF x)) none = some (d, c0, a) ∧ cY v = c0 ∧ eN d v
 | .ax x q, v, _ => ∀ d, I.sub q (s x) = some d → I.fK q (s x) = true → ∃ c0 b o, dr w q (s x) (cY (aF x)) none = some (d, c0, some (b, o)) ∧ v = .pointer (some ⟨b, o, none⟩)
 | .ae x k, v, _ => (s x).plain = false → ∃ b cur e fr, v = .pointer (some ⟨b, k, none⟩) ∧ F b ∧ w.heap[b]? = some (.cells cur e fr) ∧ cur.toList = cY (aF x)
 | .fn f cap, v, _ => ∃ arr : Array Value, v = .func (.func f) #[] arr ∧ eY w F s aF cap arr.toList
 | .bool b, v, S => eN (.bool b) v ∧ aB w F (.bool b) (cY v) S
 | .e7, v, S => eN .e7 v ∧ aB w F .e7 (cY v) S
 | .int k n, v, S => eN (.int k n) v ∧ aB w F (.int k n) (cY v) S
 | .str x, v, S => eN (.str x) v ∧ aB w F (.str x) (cY v) S
 | .dC, v, S => eN .dC v ∧ aB w F .dC (cY v) S
 | .bc, v, S => eN .bc v ∧ aB w F .bc (cY v) S
 | .slice xs, v, S => eN (.slice xs) v ∧ aB w F (.slice xs) (cY v) S
 | .aw sz xs, v, S => eN (.aw sz xs) v ∧ aB w F (.aw sz xs) (cY v) S
 | .ref d, v, S => eN (.ref d) v ∧ aB w F (.ref d) (cY v) S
 | .a8 d, v, S => eN (.a8 d) v ∧ aB w F (.a8 d) (cY v) S
 | .agg d, v, S => eN (.agg d) v ∧ aB w F (.agg d) (cY v) S
 | .tuple d, v, S => eN (.tuple d) v ∧ aB w F (.tuple d) (cY v) S
def eY (w : World) (F : Nat → Prop) (s : ar) (aF : Nat → Value) : List I → List Value → Prop
 | [], vs => vs = []
 | d :: ds, vs => ∃ v j9, vs = v :: j9 ∧ aW w F s aF d v (fun _ => False) ∧ eY w F s aF ds j9
end
def I.tree : I → Bool
 | .hole => false
 | .h _ _ => false
 | .ax _ _ => false
 | .ae _ _ => false
 | .fn _ _ => false
 | _ => true
theorem aW.da {w : World} {F : Nat → Prop} {s : ar} {aF : Nat → Value} {d : I} {v : Value} {S : Nat → Prop} (bh : d.tree = true) :
  aW w F s aF d v S ↔ (eN d v ∧ aB w F d (cY v) S) := by
 cases d <;> first | (simp [I.tree] at bh; done) | rw [aW]
theorem iq {q : List Nat} {av d : I} (h : I.sub q av = some d) (ax : d.plain = false ∨ I.fK q av = true) : av.tree = true := by
 cases q with
 | nil =>
   simp [I.sub] at h; subst h
   rcases ax with ax | ax
   ·cases av <;> first | rfl | (simp [I.plain] at ax)
   ·simp [I.fK] at ax
 | cons k q => cases av <;> first | rfl | (simp [I.sub] at h)
theorem Co {d : I} (h : d.plain = false) : d.tree = true := iq (q := []) (by simp only [I.sub]) (.inl h)
theorem aW.frame {w aU : World} {F b0 : Nat → Prop} {s : ar} {aF : Nat → Value} {Sx : Nat → Nat → Prop} (bE : ∀ b, F b → aU.heap[b]? = w.heap[b]?) (F6 : ∀ b, F b → b0 b)
  (ca : ∀ x b, Sx x b → aU.heap[b]? = w.heap[b]?) (mR : ∀ x, aW w F s aF (s x) (aF x) (Sx x)) :
  ∀ (d : I) (v : Value) (S : Nat → Prop), (∀ b, S b → aU.heap[b]? = w.heap[b]?) → aW w F s aF d v S → aW aU b0 s aF d v S := by
 have kJ : ∀ (x : Nat) (q : List Nat) (d : I), I.sub q (s x) = some d → (d.plain = false ∨ I.fK q (s x) = true) → dr aU q (s x) (cY (aF x)) none = dr w q (s x) (cY (aF x)) none := by
  intro x q d al ax
  have bh := iq al ax
  have := mR x
  rw [aW.da bh] at this
  exact Cm q _ _ (Sx x) none d this.2 al (ca x)
 have M8 : ∀ (d : I) (v : Value) (S : Nat → Prop), d.tree = true → (∀ b, S b → aU.heap[b]? = w.heap[b]?) → aW w F s aF d v S → aW aU b0 s aF d v S := by
  intro d v S bh qT h
  rw [aW.da bh] at h ⊢
  exact ⟨h.1, aB.mono F6 _ _ _ _ (fun _ h => h) (aB.frame bE _ _ _ qT h.2)⟩
 have step : ∀ n, (∀ (d : I) (v : Value) (S : Nat → Prop), SizeOf.sizeOf d ≤ n → (∀ b, S b → aU.heap[b]? = w.heap[b]?) → aW w F s aF d v S → aW aU b0 s aF d v S) ∧
   (∀ (ds : List I) (vs : List Value), SizeOf.sizeOf ds ≤ n → eY w F s aF ds vs → eY aU b0 s aF ds vs) := by
  intro n
  induction n with
  | zero =>
    refine ⟨fun d v S b7 => ?_, fun ds vs b7 => ?_⟩
    ·cases d <;> simp at b7 <;> omega
    ·cases ds <;> simp at b7 <;> omega
  | succ n ih =>
    refine ⟨fun d v S b7 qT h => ?_, fun ds vs b7 h => ?_⟩
    ·cases d with
     | hole => rw [aW]; trivial
     | h x q =>
       rw [aW] at h ⊢
       intro d al ax
       rw [kJ x q d al (.inl ax)]
       exact h d al ax
     | ax x q =>
       rw [aW] at h ⊢
       intro d al ax
       rw [kJ x q d al (.inr ax)]
       exact h d al ax
     | ae x k =>
       rw [aW] at h ⊢
       intro ax
       obtain ⟨b, cur, e, fr, ai, aj, aQ, bd⟩ := h ax
       exact ⟨b, cur, e, fr, ai, F6 b aj, (bE b aj).trans aQ, bd⟩
     | fn f cap =>
       rw [aW] at h ⊢
       obtain ⟨arr, rfl, ay⟩ := h
       exact ⟨arr, rfl, ih.2 _ _ (by simp at b7; omega) ay⟩
     | _ => exact M8 _ _ _ rfl qT h
    ·cases ds with
     | nil => rw [eY] at h ⊢; exact h
     | cons d ds =>
       rw [eY] at h ⊢
       obtain ⟨v, j9, rfl, ai, aj⟩ := h
       simp at b7
       exact ⟨v, j9, rfl, ih.1 _ _ _ (by omega) (fun _ h => h.elim) ai, ih.2 _ _ (by omega) aj⟩
 intro d v S qT h
 exact (step (SizeOf.sizeOf d)).1 d v S (Nat.le_refl _) qT h
mutual
def cO (x : Nat) : I → I
 | .h y q => if y = x then .hole else .h y q
 | .ax y q => if y = x then .hole else .ax y q
 | .ae y k => if y = x then .hole else .ae y k
 | .fn f cap => .fn f (iU x cap)
 | d => d
def iU (x : Nat) : List I → List I
 | [] => []
 | d :: ds => cO x d :: iU x ds
end
mutual
def cc (x : Nat) : I → I
 | .h y q => if y = x then (if q = [] then .h y q else .hole) else .h y q
 | .ax y q => if y = x then .hole else .ax y q
 | .fn f cap => .fn f (ir x cap)
 | d => d
def ir (x : Nat) : List I → List I
 | [] => []
 | d :: ds => cc x d :: ir x ds
end
def dt {α : Type} (f : Nat → α) (t : Nat) (v : α) : Nat → α := fun u => if u = t then v else f u
def lo (t : Nat) (s : ar) : ar := fun u => cO t (s u)
def iG (t : Nat) (s : ar) : ar := fun u => cc t (s u)
theorem lP {α : Type} (f : Nat → α) (t : Nat) (v : α) : dt f t v t = v := by simp [dt]
theorem ji {α : Type} (f : Nat → α) {t u : Nat} (v : α) (h : u ≠ t) : dt f t v u = f u := by simp [dt, h]
theorem M9 {t : Nat} {d : I} (h : d.tree = true) : cO t d = d := by cases d <;> first | rfl | (simp [I.tree] at h)
theorem Cp {t : Nat} {d : I} (h : d.tree = true) : cc t d = d := by cases d <;> first | rfl | (simp [I.tree] at h)
theorem M_ {t : Nat} {d : I} (h : (cO t d).tree = true) : d.tree = true ∧ cO t d = d := by
 cases d <;> first | exact ⟨rfl, rfl⟩ | (simp only [cO] at h; first | (split at h <;> simp [I.tree] at h) | simp [I.tree] at h)
theorem Cq {t : Nat} {d : I} (h : (cc t d).tree = true) : d.tree = true ∧ cc t d = d := by
 cases d <;> first | exact ⟨rfl, rfl⟩ | (simp only [cc] at h; first | (split at h <;> (try split at h) <;> simp [I.tree] at h) | simp [I.tree] at h)
section
variable {w : World} {F : Nat → Prop} {s aA : ar} {aF jO : Nat → Value} {t : Nat}
theorem aW.cO (hv : ∀ x, x ≠ t → (aA x).tree = true → aA x = s x ∧ jO x = aF x) : ∀ (n : Nat),
  (∀ (d : I) (v : Value) (S : Nat → Prop), SizeOf.sizeOf d ≤ n → aW w F s aF d v S → aW w F aA jO (dk.cO t d) v S) ∧
  (∀ (ds : List I) (vs : List Value), SizeOf.sizeOf ds ≤ n → eY w F s aF ds vs → eY w F aA jO (iU t ds) vs) := by
 intro n
 induction n with
 | zero =>
   refine ⟨fun d v S b7 => ?_, fun ds vs b7 => ?_⟩
   ·cases d <;> simp at b7 <;> omega
   ·cases ds <;> simp at b7 <;> omega
 | succ n ih =>
   refine ⟨fun d v S b7 h => ?_, fun ds vs b7 h => ?_⟩
   ·cases d with
    | hole => rw [dk.cO.eq_def]; simp only; rw [aW]; trivial
    | h x q =>
      simp only [dk.cO]
      split
      ·rw [aW]; trivial
      ·rename_i aC
       rw [aW] at h ⊢
       intro d al ax
       obtain ⟨a4, a_⟩ := hv x aC (iq al (.inl ax))
       rw [a4, a_]; rw [a4] at al
       exact h d al ax
    | ax x q =>
      simp only [dk.cO]
      split
      ·rw [aW]; trivial
      ·rename_i aC
       rw [aW] at h ⊢
       intro d al ax
       obtain ⟨a4, a_⟩ := hv x aC (iq al (.inr ax))
       rw [a4, a_]; rw [a4] at al ax
       exact h d al ax
    | ae x k =>
      simp only [dk.cO]
      split
      ·rw [aW]; trivial
      ·rename_i aC
       rw [aW] at h ⊢
       intro ax
       obtain ⟨a4, a_⟩ := hv x aC (Co ax)
       rw [a_]; rw [a4] at ax
       exact h ax
    | fn f cap =>
      simp only [dk.cO]
      rw [aW] at h ⊢
      obtain ⟨arr, rfl, ay⟩ := h
      exact ⟨arr, rfl, ih.2 _ _ (by simp at b7; omega) ay⟩
    | _ =>
      rw [M9 (by rfl)]
      exact (aW.da (by rfl)).2 ((aW.da (by rfl)).1 h)
   ·cases ds with
    | nil => rw [iU, eY]; rw [eY] at h; exact h
    | cons d ds =>
      rw [iU, eY]; rw [eY] at h
      obtain ⟨v, j9, rfl, ai, aj⟩ := h
      simp at b7
      exact ⟨v, j9, rfl, ih.1 _ _ _ (by omega) ai, ih.2 _ _ (by omega) aj⟩
theorem aW.cc {aU : World} (hv : ∀ x, x ≠ t → (aA x).tree = true → aA x = s x ∧ jO x = aF x) (kr : jO t = aF t) (ox : (aA t).plain = false → (s t).plain = false ∧ ∀ v, eN (s t) v → eN (aA t) v)
  (kJ : ∀ x q d, x ≠ t → I.sub q (s x) = some d → (d.plain = false ∨ I.fK q (s x) = true) → dr aU q (s x) (cY (aF x)) none = dr w q (s x) (cY (aF x)) none)
  (bE : ∀ b, F b → aU.heap[b]? = w.heap[b]?) : ∀ (n : Nat),
  (∀ (d : I) (v : Value) (S : Nat → Prop), SizeOf.sizeOf d ≤ n → (∀ b, S b → aU.heap[b]? = w.heap[b]?) → aW w F s aF d v S → aW aU F aA jO (dk.cc t d) v S) ∧
  (∀ (ds : List I) (vs : List Value), SizeOf.sizeOf ds ≤ n → eY w F s aF ds vs → eY aU F aA jO (ir t ds) vs) := by
 intro n
 induction n with
 | zero =>
   refine ⟨fun d v S b7 => ?_, fun ds vs b7 => ?_⟩
   ·cases d <;> simp at b7 <;> omega
   ·cases ds <;> simp at b7 <;> omega
 | succ n ih =>
   refine ⟨fun d v S b7 qT h => ?_, fun ds vs b7 h => ?_⟩
   ·cases d with
    | hole => rw [dk.cc.eq_def]; simp only; rw [aW]; trivial
    | h x q =>
      simp only [dk.cc]
      split
      ·rename_i aC
       subst aC
       split
       ·rename_i dd
        subst dd
        rw [aW] at h ⊢
        intro d al ax
        simp only [I.sub, Option.some.injEq] at al
        subst al
        obtain ⟨dX, eS⟩ := ox ax
        obtain ⟨c0, a, bf, bG, cC⟩ := h (s x) rfl dX
        simp only [dr, Option.some.injEq, Prod.mk.injEq] at bf
        obtain ⟨-, bf, auu⟩ := bf
        refine ⟨cY (jO x), none, rfl, ?_, eS _ cC⟩
        rw [kr, bG, ← bf]
       ·rw [aW]; trivial
      ·rename_i aC
       rw [aW] at h ⊢
       intro d al ax
       obtain ⟨a4, a_⟩ := hv x aC (iq al (.inl ax))
       rw [a4, a_]; rw [a4] at al
       rw [kJ x q d aC al (.inl ax)]
       exact h d al ax
    | ax x q =>
      simp only [dk.cc]
      split
      ·rw [aW]; trivial
      ·rename_i aC
       rw [aW] at h ⊢
       intro d al ax
       obtain ⟨a4, a_⟩ := hv x aC (iq al (.inr ax))
       rw [a4, a_]; rw [a4] at al ax
       rw [kJ x q d aC al (.inr ax)]
       exact h d al ax
    | ae x k =>
      simp only [dk.cc]
      rw [aW] at h ⊢
      intro ax
      by_cases aC : x = t
      ·subst aC
       obtain ⟨b, cur, e, fr, ai, aj, aQ, bd⟩ := h (ox ax).1
       exact ⟨b, cur, e, fr, ai, aj, (bE b aj).trans aQ, by rw [kr]; exact bd⟩
      ·obtain ⟨a4, a_⟩ := hv x aC (Co ax)
       rw [a4] at ax
       obtain ⟨b, cur, e, fr, ai, aj, aQ, bd⟩ := h ax
       exact ⟨b, cur, e, fr, ai, aj, (bE b aj).trans aQ, by rw [a_]; exact bd⟩
    | fn f cap =>
      simp only [dk.cc]
      rw [aW] at h ⊢
      obtain ⟨arr, rfl, ay⟩ := h
      exact ⟨arr, rfl, ih.2 _ _ (by simp at b7; omega) ay⟩
    | _ =>
      rw [Cp (by rfl)]
      have bD := (aW.da (by rfl)).1 h
      exact (aW.da (by rfl)).2 ⟨bD.1, aB.frame bE _ _ _ qT bD.2⟩
   ·cases ds with
    | nil => rw [ir, eY]; rw [eY] at h; exact h
    | cons d ds =>
      rw [ir, eY]; rw [eY] at h
      obtain ⟨v, j9, rfl, ai, aj⟩ := h
      simp at b7
      exact ⟨v, j9, rfl, ih.1 _ _ _ (by omega) (fun _ h => h.elim) ai, ih.2 _ _ (by omega) aj⟩
theorem aW.void (hv : ∀ x, x ≠ t → (aA x).tree = true → aA x = s x ∧ jO x = aF x) (pW : (aA t).plain = true) : ∀ (n : Nat),
  (∀ (d : I) (v : Value) (S : Nat → Prop), SizeOf.sizeOf d ≤ n → aW w F s aF d v S → aW w F aA jO d v S) ∧
  (∀ (ds : List I) (vs : List Value), SizeOf.sizeOf ds ≤ n → eY w F s aF ds vs → eY w F aA jO ds vs) := by
 intro n
 induction n with
 | zero =>
   refine ⟨fun d v S b7 => ?_, fun ds vs b7 => ?_⟩
   ·cases d <;> simp at b7 <;> omega
   ·cases ds <;> simp at b7 <;> omega
 | succ n ih =>
   refine ⟨fun d v S b7 h => ?_, fun ds vs b7 h => ?_⟩
   ·cases d with
    | hole => rw [aW]; trivial
    | h x q =>
      rw [aW] at h ⊢
      intro d al ax
      by_cases aC : x = t
      ·subst aC
       rw [I.F5 _ _ _ pW al] at ax; cases ax
      ·obtain ⟨a4, a_⟩ := hv x aC (iq al (.inl ax))
       rw [a4, a_]; rw [a4] at al
       exact h d al ax
    | ax x q =>
      rw [aW] at h ⊢
      intro d al ax
      by_cases aC : x = t
      ·subst aC
       rw [I.F4 _ _ pW] at ax; cases ax
      ·obtain ⟨a4, a_⟩ := hv x aC (iq al (.inr ax))
       rw [a4, a_]; rw [a4] at al ax
       exact h d al ax
    | ae x k =>
      rw [aW] at h ⊢
      intro ax
      by_cases aC : x = t
      ·subst aC; rw [pW] at ax; cases ax
      ·obtain ⟨a4, a_⟩ := hv x aC (Co ax)
       rw [a_]; rw [a4] at ax
       exact h ax
    | fn f cap =>
      rw [aW] at h ⊢
      obtain ⟨arr, rfl, ay⟩ := h
      exact ⟨arr, rfl, ih.2 _ _ (by simp at b7; omega) ay⟩
    | _ => exact (aW.da (by rfl)).2 ((aW.da (by rfl)).1 h)
   ·cases ds with
    | nil => rw [eY]; rw [eY] at h; exact h
    | cons d ds =>
      rw [eY]; rw [eY] at h
      obtain ⟨v, j9, rfl, ai, aj⟩ := h
      simp at b7
      exact ⟨v, j9, rfl, ih.1 _ _ _ (by omega) ai, ih.2 _ _ (by omega) aj⟩
end
structure bW (w0 : World) (F0 X F : Nat → Prop) (S : Nat → Nat → Prop) (s : ar) (aF : Nat → Value) (w : World) : Prop where
 hM : ∀ b, F0 b → F b
 h5 : ∀ b, F b → F0 b ∨ X b ∨ w0.heap.size ≤ b
 gy : ∀ b, F b → b < w.heap.size
 fA : ∀ t b, S t b → b < w.heap.size
 gF : ∀ t b, S t b → ¬ F b
 gl : ∀ t u b, t ≠ u → S t b → ¬ S u b
 eA : ∀ t b, S t b → X b ∨ w0.heap.size ≤ b
 eu : ∀ t, aW w F s aF (s t) (aF t) (S t)
 old : ∀ b, b < w0.heap.size → ¬ X b → w.heap[b]? = w0.heap[b]?
 size : w0.heap.size ≤ w.heap.size
 os : w.os = w0.os
 tape : w.tape = w0.tape
 output : w.output = w0.output
section
variable {w0 w aU : World} {F0 X F : Nat → Prop} {S : Nat → Nat → Prop} {s : ar} {aF : Nat → Value}
theorem bW.grow (h : bW w0 F0 X F S s aF w) (ae : ∀ b, b < w.heap.size → aU.heap[b]? = w.heap[b]?) (ah : w.heap.size ≤ aU.heap.size)
  (ai : aU.os = w.os) (aj : aU.tape = w.tape) (aQ : aU.output = w.output) : bW w0 F0 X F S s aF aU where
 hM := h.hM
 h5 := h.h5
 gy := fun b bE => Nat.lt_of_lt_of_le (h.gy b bE) ah
 fA := fun t b bE => Nat.lt_of_lt_of_le (h.fA t b bE) ah
 gF := h.gF
 gl := h.gl
 eA := h.eA
 eu := fun t => aW.frame (Sx := S) (fun b bE => ae b (h.gy b bE)) (fun _ h => h) (fun x b ca => ae b (h.fA x b ca)) h.eu _ _ _ (fun b ca => ae b (h.fA t b ca)) (h.eu t)
 old := fun b fz kK => (ae b (Nat.lt_of_lt_of_le fz h.size)).trans (h.old b fz kK)
 size := Nat.le_trans h.size ah
 os := ai.trans h.os
 tape := aj.trans h.tape
 output := aQ.trans h.output
def gp (S : Nat → Nat → Prop) (t : Nat) (Sn : Nat → Prop) : Nat → Nat → Prop := fun u b => if u = t then Sn b else S u b
theorem yi (S : Nat → Nat → Prop) (t : Nat) (Sn : Nat → Prop) : gp S t Sn t = Sn := by funext b; simp [gp]
theorem yj (S : Nat → Nat → Prop) {t u : Nat} (Sn : Nat → Prop) (h : u ≠ t) : gp S t Sn u = S u := by funext b; simp [gp, h]
theorem bW.sZ (h : bW w0 F0 X F S s aF w) {t : Nat} {d : I} {v : Value} (ax : d.plain = true) (al : aW w F s aF d v (fun _ => False)) :
  bW w0 F0 X F (gp S t (fun _ => False)) (dt s t d) (dt aF t v) w where
 hM := h.hM
 h5 := h.h5
 gy := h.gy
 fA := fun u b ae => by simp only [gp] at ae; split at ae; exact ae.elim; exact h.fA u b ae
 gF := fun u b ae => by simp only [gp] at ae; split at ae; exact ae.elim; exact h.gF u b ae
 gl := fun u x b eg ae aC => by
  simp only [gp] at ae aC
  split at ae
  ·exact ae.elim
  ·split at aC
   ·exact aC.elim
   ·exact h.gl u x b eg ae aC
 eA := fun u b ae => by simp only [gp] at ae; split at ae; exact ae.elim; exact h.eA u b ae
 eu := fun u => by
  have hv : ∀ x, x ≠ t → (dt s t d x).tree = true → dt s t d x = s x ∧ dt aF t v x = aF x := fun x aC _ => ⟨ji _ _ aC, ji _ _ aC⟩
  have pW : (dt s t d t).plain = true := by rw [lP]; exact ax
  by_cases hu : u = t
  ·subst hu
   rw [lP, lP, yi]
   exact (aW.void hv pW _).1 _ _ _ (Nat.le_refl _) al
  ·rw [ji _ _ hu, ji _ _ hu, yj _ _ hu]
   exact (aW.void hv pW _).1 _ _ _ (Nat.le_refl _) (h.eu u)
 old := h.old
 size := h.size
 os := h.os
 tape := h.tape
 output := h.output
theorem bW.F7 (h : bW w0 F0 X F S s aF w) {t : Nat} {d : I} {v : Value} {Sn : Nat → Prop} (al : d.tree = true) (ah : eN d v) (a3 : aB w F d (cY v) Sn)
  (fz : ∀ b, Sn b → b < w.heap.size) (bE : ∀ b, Sn b → ¬ F b) (ca : ∀ u b, u ≠ t → Sn b → ¬ S u b) (a9 : ∀ b, Sn b → X b ∨ w0.heap.size ≤ b) :
  bW w0 F0 X F (gp S t Sn) (dt (lo t s) t d) (dt aF t v) w where
 hM := h.hM
 h5 := h.h5
 gy := h.gy
 fA := fun u b ae => by simp only [gp] at ae; split at ae; exact fz b ae; exact h.fA u b ae
 gF := fun u b ae => by simp only [gp] at ae; split at ae; exact bE b ae; exact h.gF u b ae
 gl := fun u x b eg ae aC => by
  simp only [gp] at ae aC
  split at ae
  ·rename_i hu
   rw [if_neg (fun e => eg (hu.trans e.symm))] at aC
   exact ca x b (fun e => eg (hu.trans e.symm)) ae aC
  ·rename_i hu
   split at aC
   ·exact ca u b hu aC ae
   ·exact h.gl u x b eg ae aC
 eA := fun u b ae => by simp only [gp] at ae; split at ae; exact a9 b ae; exact h.eA u b ae
 eu := fun u => by
  have hv : ∀ x, x ≠ t → (dt (lo t s) t d x).tree = true → dt (lo t s) t d x = s x ∧ dt aF t v x = aF x := fun x aC bh => by
   rw [ji _ _ aC] at bh ⊢
   exact ⟨(M_ bh).2, ji _ _ aC⟩
  by_cases hu : u = t
  ·subst hu
   rw [lP, lP, yi]
   exact (aW.da al).2 ⟨ah, a3⟩
  ·rw [ji _ _ hu, ji _ _ hu, yj _ _ hu]
   exact (aW.cO hv _).1 _ _ _ (Nat.le_refl _) (h.eu u)
 old := h.old
 size := h.size
 os := h.os
 tape := h.tape
 output := h.output
theorem qU (k : Nat) (q : List Nat) (bF x : I) : (∃ az gs, x = .agg az ∧ I.put (k :: q) bF x = .agg gs) ∨ (∃ az gs, x = .tuple az ∧ I.put (k :: q) bF x = .tuple gs) ∨
  (∃ sz xs c7, x = .aw sz xs ∧ I.put (k :: q) bF x = .aw sz c7) ∨ (∃ y z, x = .a8 y ∧ I.put (k :: q) bF x = .a8 z) ∨ I.put (k :: q) bF x = x := by
 cases x with
 | agg az => simp only [I.put]; split <;> exact .inl ⟨_, _, rfl, rfl⟩
 | tuple az => simp only [I.put]; split <;> exact .inr (.inl ⟨_, _, rfl, rfl⟩)
 | aw sz az => simp only [I.put]; split <;> exact .inr (.inr (.inl ⟨_, _, _, rfl, rfl⟩))
 | a8 y => cases k <;> exact .inr (.inr (.inr (.inl ⟨_, _, rfl, rfl⟩)))
 | _ => exact .inr (.inr (.inr (.inr rfl)))
theorem F8 {k : Nat} {q : List Nat} {bF x : I} {v : Value} (h : im x v) : im (I.put (k :: q) bF x) v := by
 rcases qU k q bF x with ⟨az, gs, rfl, e⟩ | ⟨az, gs, rfl, e⟩ | ⟨sz, xs, c7, rfl, e⟩ | ⟨y, z, rfl, e⟩ | e <;> rw [e] <;> exact h
theorem F9 {k : Nat} {q : List Nat} {bF x : I} (h : ∀ vs, x ≠ .tuple vs) : ∀ vs, I.put (k :: q) bF x ≠ .tuple vs := by
 rcases qU k q bF x with ⟨az, gs, rfl, e⟩ | ⟨az, gs, rfl, e⟩ | ⟨sz, xs, c7, rfl, e⟩ | ⟨y, z, rfl, e⟩ | e <;> rw [e] <;> first | exact h | (intro vs bD; cases bD; done) | exact (h _ rfl).elim
theorem Cr {k : Nat} {q : List Nat} {d bF av : I} {v : Value} (h : eN av v) (al : I.sub (k :: q) av = some d) (ai : ∀ v, im d v → im bF v) (aj : (∀ vs, d ≠ .tuple vs) → ∀ vs, bF ≠ .tuple vs) (aQ : bF.wd = d.wd) :
  eN (I.put (k :: q) bF av) v := by
 cases av with
 | tuple az =>
   simp only [I.sub] at al
   split at al
   ·rename_i x aC
    simp only [I.put, aC]
    simp only [eN] at h ⊢
    obtain ⟨arr, rfl, b7, mR⟩ := h
    refine ⟨arr, rfl, by simpa using b7, fun j e y he bL => ?_⟩
    rw [List.getElem?_set] at he
    split at he
    ·rename_i Cs
     subst Cs
     split at he
     ·simp only [Option.some.injEq] at he
      subst he
      obtain ⟨bf, bG, cC⟩ := mR k x y aC bL
      refine ⟨?_, ?_, cC.trans (I.sX q x d bF al aQ).symm⟩
      ·cases q with
       | nil =>
         simp only [I.sub, Option.some.injEq] at al
         subst al
         exact ai _ bf
       | cons cu q => exact F8 bf
      ·cases q with
       | nil =>
         simp only [I.sub, Option.some.injEq] at al
         subst al
         exact aj bG
       | cons cu q => exact F9 bG
     ·cases he
    ·exact mR j e y he bL
   ·cases al
 | agg az => simp only [I.put]; split <;> exact h
 | aw sz az => simp only [I.put]; split <;> exact h
 | a8 y => cases k <;> exact h
 | _ => exact h
theorem Ct {d : I} {v : Value} (h : im d v) : im d.di v := by cases d <;> exact h
theorem F_ {s : ar} {x : Nat} {q : List Nat} {d : I} (al : I.sub q (s x) = some d) (ax : d.plain = false) :
  (dt (iG x s) x (I.put q d.di (s x)) x).plain = false → (s x).plain = false ∧ ∀ v, eN (s x) v → eN (dt (iG x s) x (I.put q d.di (s x)) x) v := by
  rw [lP]
  intro gq
  cases q with
  | nil =>
    exfalso
    have : ∀ d : I, d.di.plain = true := by
     intro d
     have key : ∀ n, (∀ d : I, SizeOf.sizeOf d ≤ n → d.di.plain = true) ∧ (∀ ds : List I, SizeOf.sizeOf ds ≤ n → I.dI (I.kI ds) = true) := by
      intro n
      induction n with
      | zero => exact ⟨fun d b7 => by cases d <;> simp at b7 <;> omega, fun ds b7 => by cases ds <;> simp at b7 <;> omega⟩
      | succ n ih =>
        refine ⟨fun d b7 => ?_, fun ds b7 => ?_⟩
        ·cases d with
         | agg az => simp only [I.di, I.plain]; exact ih.2 _ (by simp at b7; omega)
         | tuple az => simp only [I.di, I.plain]; exact ih.2 _ (by simp at b7; omega)
         | _ => rfl
        ·cases ds with
         | nil => rfl
         | cons d ds =>
           simp at b7
           simp only [I.kI, I.dI, Bool.and_eq_true]
           exact ⟨ih.1 _ (by omega), ih.2 _ (by omega)⟩
     exact (key _).1 d (Nat.le_refl _)
    simp only [I.put] at gq
    rw [this] at gq
    cases gq
  | cons k q =>
    refine ⟨?_, fun v a3 => Cr a3 al (fun v h => Ct h) (fun h vs e => ?_) (I.pV d)⟩
    ·cases Cu : (s x).plain with
     | false => rfl
     | true => rw [I.F5 _ _ _ Cu al] at ax; cases ax
    ·cases d <;> first | (exact h _ rfl) | (simp [I.di] at e)
theorem bW.take (h : bW w0 F0 X F S s aF w) {x : Nat} {q : List Nat} {d : I} (al : I.sub q (s x) = some d) (ax : d.plain = false) :
  ∃ (Sn hd : Nat → Prop) (c0 : List Value) (a : Option (Nat × Nat)), bW w0 F0 X F (gp S x Sn) (dt (iG x s) x (I.put q d.di (s x))) aF w ∧
    dr w q (s x) (cY (aF x)) none = some (d, c0, a) ∧ aB w F d c0 hd ∧ (∀ b, hd b → S x b) ∧ (∀ b, Sn b → S x b) ∧ (∀ b, hd b → ¬ Sn b) ∧
    (∀ (bF : I) (v : Value) (a1 : Nat → Prop), aW w F s aF bF v a1 → aW w F (dt (iG x s) x (I.put q d.di (s x))) aF (dk.cc x bF) v a1) := by
 have bh := iq al (.inl ax)
 have aC := h.eu x
 rw [aW.da bh] at aC
 obtain ⟨c0, a, e3, hd, hF, bf, bG, cC, eH, fJ⟩ := ctx q (s x) (cY (aF x)) (S x) none d aC.2 al
 have kq : aB w F (I.put q d.di (s x)) (cY (aF x)) e3 := by
  have kL : aB w F d.di c0 (fun _ => False) := aB.di _ _ _ _ eH
  have pX : ∀ b, (e3 b ∨ False) → e3 b := fun b h => h.elim id False.elim
  rcases fJ with ⟨l, r, a4, a_, a2⟩ | ⟨b, cur, e, fr, l, r, a4, a_, a2, c1, c9, cl⟩
  ·have := a2 w _ c0 _ (fun _ _ => rfl) (fun _ _ => rfl) (I.pV d) kL (fun _ h => h.elim)
   rw [← a4] at this
   exact aB.mono (fun _ h => h) _ _ _ _ pX this
  ·have := cl w _ c0 _ (fun _ _ => rfl) (fun _ _ _ => rfl) (by rw [a2, ← c9]) (I.pV d) kL (fun _ h => h.elim)
   exact aB.mono (fun _ h => h) _ _ _ _ pX this
 have Na : eN (I.put q d.di (s x)) (aF x) ∧ (I.put q d.di (s x)).tree = true ∨ I.put q d.di (s x) = .hole := by
  cases q with
  | nil =>
    simp only [I.sub, Option.some.injEq] at al
    subst al
    simp only [I.put]
    cases ah : s x with
    | aw sz xs => right; rfl
    | a8 y => right; rfl
    | agg az => left; rw [ah] at aC; exact ⟨aC.1, rfl⟩
    | tuple az =>
      left
      rw [ah] at aC
      refine ⟨?_, rfl⟩
      simp only [eN, I.di] at aC ⊢
      obtain ⟨arr, e, b7, mR⟩ := aC.1
      have hl : ∀ az : List I, I.kI az = az.map I.di := by
       intro az; induction az with
       | nil => rfl
       | cons a az ih => simp [I.kI, ih]
      refine ⟨arr, e, by rw [hl]; simpa using b7, fun k gE y he bL => ?_⟩
      rw [hl, List.getElem?_map] at he
      cases aE : az[k]? with
      | none => rw [aE] at he; cases he
      | some z =>
        rw [aE] at he
        simp only [Option.map_some, Option.some.injEq] at he
        subst he
        obtain ⟨bf, bG, cC⟩ := mR k z y aE bL
        refine ⟨Ct bf, fun vs e => ?_, cC.trans (I.pV z).symm⟩
        cases z <;> first | (exact bG _ rfl) | (simp [I.di] at e)
    | _ => rw [ah] at ax; simp [I.plain] at ax
  | cons k q =>
    left
    refine ⟨Cr aC.1 al (fun v h => Ct h) (fun h vs e => ?_) (I.pV d), ?_⟩
    ·cases d <;> first | (exact h _ rfl) | (simp [I.di] at e)
    ·rcases qU k q d.di (s x) with ⟨az, gs, a4, e⟩ | ⟨az, gs, a4, e⟩ | ⟨sz, xs, c7, a4, e⟩ | ⟨y, z, a4, e⟩ | e <;> rw [e] <;> first | rfl | exact bh
 refine ⟨e3, hd, c0, a, ?_, hF, eH, bG, bf, fun b ai aj => cC b aj ai, ?_⟩
 rotate_left
 ·have hv : ∀ y, y ≠ x → (dt (iG x s) x (I.put q d.di (s x)) y).tree = true → dt (iG x s) x (I.put q d.di (s x)) y = s y ∧ aF y = aF y := fun y bL bh => by
   rw [ji _ _ bL] at bh ⊢
   exact ⟨(Cq bh).2, rfl⟩
  intro bF v a1 hc
  exact (aW.cc hv rfl (F_ al ax) (fun _ _ _ _ _ _ => rfl) (fun _ _ => rfl) _).1 _ _ _ (Nat.le_refl _) (fun _ _ => rfl) hc
 have hv : ∀ y, y ≠ x → (dt (iG x s) x (I.put q d.di (s x)) y).tree = true → dt (iG x s) x (I.put q d.di (s x)) y = s y ∧ aF y = aF y := fun y bL bh => by
  rw [ji _ _ bL] at bh ⊢
  exact ⟨(Cq bh).2, rfl⟩
 have ox := F_ (s := s) (x := x) al ax
 constructor
 case hM => exact h.hM
 case h5 => exact h.h5
 case gy => exact h.gy
 case fA => exact fun u b ae => by simp only [gp] at ae; split at ae; exact h.fA x b (bf b ae); exact h.fA u b ae
 case gF => exact fun u b ae => by simp only [gp] at ae; split at ae; exact h.gF x b (bf b ae); exact h.gF u b ae
 case gl =>
  intro u y b eg ae bL
  simp only [gp] at ae bL
  split at ae
  ·rename_i hu
   rw [if_neg (fun e => eg (hu.trans e.symm))] at bL
   exact h.gl x y b (fun e => eg (hu.trans e)) (bf b ae) bL
  ·rename_i hu
   split at bL
   ·exact h.gl u x b hu ae (bf b bL)
   ·exact h.gl u y b eg ae bL
 case eA => exact fun u b ae => by simp only [gp] at ae; split at ae; exact h.eA x b (bf b ae); exact h.eA u b ae
 case eu =>
  intro u
  by_cases hu : u = x
  ·subst hu
   rw [lP, yi]
   rcases Na with ⟨a4, a_⟩ | e
   ·exact (aW.da a_).2 ⟨a4, kq⟩
   ·rw [e, aW]; trivial
  ·rw [ji _ _ hu, yj _ _ hu]
   exact (aW.cc hv rfl ox (fun _ _ _ _ _ _ => rfl) (fun _ _ => rfl) _).1 _ _ _ (Nat.le_refl _) (fun _ _ => rfl) (h.eu u)
 case old => exact h.old
 case size => exact h.size
 case os => exact h.os
 case tape => exact h.tape
 case output => exact h.output
theorem bW.store (h : bW w0 F0 X F S s aF w) {x : Nat} {q : List Nat} {d bF : I} (al : I.sub q (s x) = some d) (ay : I.fK q (s x) = true)
  {gk : List Value} {Sn : Nat → Prop} (a3 : aB w F bF gk Sn) (lO : bF.wd = d.wd)
  (fz : ∀ b, Sn b → b < w.heap.size) (bE : ∀ b, Sn b → ¬ F b) (ca : ∀ u b, Sn b → ¬ S u b) (a9 : ∀ b, Sn b → X b ∨ w0.heap.size ≤ b) :
  ∃ (c0 : List Value) (b : Nat) (l r : List Value) (cur : Array Value) (e : TypeId) (fr : Nat × Nat), dr w q (s x) (cY (aF x)) none = some (d, c0, some (b, l.length)) ∧
    w.heap[b]? = some (.cells cur e fr) ∧ cur.toList = l ++ (c0 ++ r) ∧ pU fr cur.size ∧
    ∀ aU, aU.heap[b]? = some (.cells (l ++ (gk ++ r)).toArray e fr) → (∀ c, c ≠ b → aU.heap[c]? = w.heap[c]?) → aU.heap.size = w.heap.size → aU.os = w.os → aU.tape = w.tape → aU.output = w.output →
      ∃ a1, bW w0 F0 X F a1 (dt (iG x s) x (I.put q bF (s x))) aF aU := by
 have bh := iq al (.inr ay)
 have aC := h.eu x
 rw [aW.da bh] at aC
 obtain ⟨c0, a, e3, hd, hF, bf, bG, cC, eH, fJ⟩ := ctx q (s x) (cY (aF x)) (S x) none d aC.2 al
 have Nb : Cg w F q (s x) (cY (aF x)) d c0 a e3 := by
  rcases fJ with ⟨l, r, a4, a_, a2⟩ | fJ
  ·exfalso
   have mS : ∀ (q : List Nat) (av : I) (cs : List Value) (J : Option (Nat × Nat)) (d : I) (c0 : List Value), I.fK q av = true → dr w q av cs J = some (d, c0, none) → False := by
    intro q
    induction q with
    | nil => intro av cs J d c0 ay; simp [I.fK] at ay
    | cons k q ih =>
      have Ga : ∀ (q : List Nat) (av : I) (cs : List Value) (l : Nat × Nat) (d : I) (c0 : List Value), dr w q av cs (some l) = some (d, c0, none) → False := by
       intro q
       induction q with
       | nil => intro av cs l d c0 h; simp [dr] at h
       | cons k q yk =>
         intro av cs l d c0 h
         cases av with
         | agg az => rw [dr] at h; split at h; exact yk _ _ _ _ _ h; cases h
         | tuple az => rw [dr] at h; split at h; exact yk _ _ _ _ _ h; cases h
         | aw sz xs => simp only [dr] at h; split at h; exact yk _ _ _ _ _ h; cases h
         | a8 y =>
           cases k with
           | zero => rw [dr.eq_def] at h; simp only at h; split at h; exact yk _ _ _ _ _ h; cases h
           | succ k => rw [show dr w ((k + 1) :: q) (.a8 y) cs (some l) = none from rfl] at h; cases h
         | _ => simp [dr] at h
      intro av cs J d c0 ay h
      cases av with
      | agg az =>
        simp only [I.fK] at ay
        split at ay
        ·rename_i y bL
         simp only [dr, bL] at h
         exact ih _ _ _ _ _ ay h
        ·cases ay
      | tuple az =>
        simp only [I.fK] at ay
        split at ay
        ·rename_i y bL
         simp only [dr, bL] at h
         exact ih _ _ _ _ _ ay h
        ·cases ay
      | aw sz xs => simp only [dr] at h; split at h; exact Ga _ _ _ _ _ _ h; cases h
      | a8 y =>
        cases k with
        | zero => rw [dr.eq_def] at h; simp only at h; split at h; exact Ga _ _ _ _ _ _ h; cases h
        | succ k => rw [show dr w ((k + 1) :: q) (.a8 y) cs J = none from rfl] at h; cases h
      | _ => simp [I.fK] at ay
   simp only [Option.map_none] at a_
   subst a_
   exact mS _ _ _ _ _ _ ay hF
  ·exact fJ
 obtain ⟨b, cur, e, fr, l, r, rfl, a_, a2, c1, c9, cl⟩ := Nb
 refine ⟨c0, b, l, r, cur, e, fr, hF, a2, c9, c1, ?_⟩
 intro aU ln va e4 Nc Nd vb
 have yl : S x b := bf _ a_
 have s0 : ∀ c, F c → aU.heap[c]? = w.heap[c]? := fun c ay => va c (by rintro rfl; exact h.gF x _ yl ay)
 have auv : gk.length = c0.length := by rw [aB.length _ _ _ a3, aB.length _ _ _ eH, lO]
 have kq := cl aU bF gk Sn s0 (fun c _ eg => va c eg) ln lO
  (aB.frame s0 _ _ _ (fun c ay => va c (by rintro rfl; exact ca x _ ay yl)) a3) (fun c ay pX => ca x c ay (bf _ pX))
 obtain ⟨k, i6, rfl⟩ : ∃ k i6, q = k :: i6 := by
  cases q with
  | nil => simp [I.fK] at ay
  | cons k q => exact ⟨k, q, rfl⟩
 have Gb : ∀ v, eN (s x) v → eN (I.put (k :: i6) bF (s x)) v := by
  intro v a3
  rcases qU k i6 bF (s x) with ⟨az, gs, a4, e⟩ | ⟨az, gs, a4, e⟩ | ⟨sz, xs, c7, a4, e⟩ | ⟨y, z, a4, e⟩ | e
  ·rw [e]; rw [a4] at a3; exact a3
  ·
   rw [a4] at a3 al ay ⊢
   simp only [I.fK] at ay
   split at ay
   ·rename_i y bL
    simp only [I.put, bL]
    cases i6 with
    | nil => simp [I.fK] at ay
    | cons cu bj =>
      simp only [eN] at a3 ⊢
      obtain ⟨arr, rfl, b7, mR⟩ := a3
      refine ⟨arr, rfl, by simpa using b7, fun j e jP he ym => ?_⟩
      rw [List.getElem?_set] at he
      split at he
      ·rename_i Cs
       subst Cs
       split at he
       ·simp only [Option.some.injEq] at he
        subst he
        obtain ⟨bf, bG, cC⟩ := mR _ y jP bL ym
        simp only [I.sub, bL] at al
        exact ⟨F8 bf, F9 bG, cC.trans (I.sX (cu :: bj) y d bF al lO).symm⟩
       ·cases he
      ·exact mR j e jP he ym
   ·cases ay
  ·rw [e]; rw [a4] at a3; exact a3
  ·rw [e]; rw [a4] at a3; exact a3
  ·rw [e]; exact a3
 have Nf : (I.put (k :: i6) bF (s x)).tree = true := by
  rcases qU k i6 bF (s x) with ⟨az, gs, a4, e⟩ | ⟨az, gs, a4, e⟩ | ⟨sz, xs, c7, a4, e⟩ | ⟨y, z, a4, e⟩ | e <;> rw [e] <;> first | rfl | exact bh
 let aA := dt (iG x s) x (I.put (k :: i6) bF (s x))
 have hv : ∀ y, y ≠ x → (aA y).tree = true → aA y = s y ∧ aF y = aF y := fun y bL bh => by
  have e : aA y = cc x (s y) := ji _ _ bL
  rw [e] at bh ⊢
  exact ⟨(Cq bh).2, rfl⟩
 have ox : (aA x).plain = false → (s x).plain = false ∧ ∀ v, eN (s x) v → eN (aA x) v := by
  intro _
  refine ⟨?_, ?_⟩
  ·cases Cu : (s x).plain with
   | false => rfl
   | true => rw [I.F4 _ _ Cu] at ay; cases ay
  ·simp only [aA, lP]; exact Gb
 refine ⟨gp S x (fun c => e3 c ∨ Sn c), ?_⟩
 constructor
 case hM => exact h.hM
 case h5 => exact h.h5
 case gy => exact fun b ae => by rw [e4]; exact h.gy b ae
 case fA =>
  intro u c ae
  rw [e4]
  simp only [gp] at ae
  split at ae
  ·rcases ae with ae | ae
   ·exact h.fA x c (bf c ae)
   ·exact fz c ae
  ·exact h.fA u c ae
 case gF =>
  intro u c ae
  simp only [gp] at ae
  split at ae
  ·rcases ae with ae | ae
   ·exact h.gF x c (bf c ae)
   ·exact bE c ae
  ·exact h.gF u c ae
 case gl =>
  intro u y c eg ae bL
  simp only [gp] at ae bL
  split at ae
  ·rename_i hu
   rw [if_neg (fun e => eg (hu.trans e.symm))] at bL
   rcases ae with ae | ae
   ·exact h.gl x y c (fun e => eg (hu.trans e)) (bf c ae) bL
   ·exact ca y c ae bL
  ·rename_i hu
   split at bL
   ·rcases bL with bL | bL
    ·exact h.gl u x c hu ae (bf c bL)
    ·exact ca u c bL ae
   ·exact h.gl u y c eg ae bL
 case eA =>
  intro u c ae
  simp only [gp] at ae
  split at ae
  ·rcases ae with ae | ae
   ·exact h.eA x c (bf c ae)
   ·exact a9 c ae
  ·exact h.eA u c ae
 case eu =>
  intro u
  by_cases hu : u = x
  ·subst hu
   rw [lP, yi]
   exact (aW.da Nf).2 ⟨Gb _ aC.1, kq⟩
  ·rw [ji _ _ hu, yj _ _ hu]
   have eg : ∀ y c, y ≠ x → S y c → aU.heap[c]? = w.heap[c]? := fun y c bL ay => va c (by rintro rfl; exact h.gl y x c bL ay yl)
   refine (aW.cc hv rfl ox (fun y bj d2 bL jj Gc => ?_) s0 _).1 _ _ _ (Nat.le_refl _) (fun c ay => eg u c hu ay) (h.eu u)
   have Gd := h.eu y
   rw [aW.da (iq jj Gc)] at Gd
   exact Cm bj _ _ _ none d2 Gd.2 jj (fun c ay => eg y c bL ay)
 case old =>
  intro c fz kK
  by_cases Ge : c = b
  ·subst Ge
   exfalso
   rcases h.eA x c yl with kL | kL
   ·exact kK kL
   ·omega
  ·exact (va c Ge).trans (h.old c fz kK)
 case size => rw [e4]; exact h.size
 case os => exact Nc.trans h.os
 case tape => exact Nd.trans h.tape
 case output => exact vb.trans h.output
end
end Go.dk
