/- Part of a proof that a law returns true for every input. No condition. -/
import Derived.Test.YtbemmmimelklkaaGreatFwA
import Derived.Laws.AppendOwn
import Derived.Calls
namespace Go.c5
inductive I where
 | hole
 | bool (b : Bool)
 | fo
 | int (k : IntKind) (n : Int)
 | str (s : List UInt8)
 | dI
 | bu
 | slice (xs : List I)
 | ar (sz : Nat) (xs : List I)
 | ref (d : I)
 | bd (d : I)
 | agg (aC : List I)
 | tuple (vs : List I)
 | fn (f : FuncId) (cap : List I)
 | h (x : Nat) (q : List Nat)
 | aA (x : Nat) (q : List Nat)
 | ad (x : Nat) (k : Nat)
 deriving Inhabited
mutual
def I.wd : I → Nat
 | .agg aC => I.eD aC
 | .tuple aC => I.eD aC
 | _ => 1
def I.eD : List I → Nat
 | [] => 0
 | d :: ds => d.wd + I.eD ds
end
def Rd (w : World) (b o : Nat) (cs : List Value) : Prop := ∀ j c, cs[j]? = some c → w.cell? ⟨b, o + j, none⟩ = some c
def n3 (fr : Nat × Nat) (n : Nat) : Prop := ∀ o, o < n → ¬ (fr.1 ≤ o ∧ o < fr.2)
def Value.g5 : Value → Bool
 | .agg _ => false
 | .tuple _ => false
 | _ => true
mutual
def aB (w : World) (F : Nat → Prop) : I → List Value → (Nat → Prop) → Prop
 | .hole, cs, _ => ∃ v, Value.g5 v = true ∧ cs = [v]
 | .bool b, cs, _ => cs = [.bool b]
 | .fo, cs, _ => ∃ b, cs = [.bool b]
 | .int k n, cs, _ => cs = [.int k n]
 | .str s, cs, _ => cs = [.string ⟨⟨s⟩⟩]
 | .dI, cs, _ => cs = [.pointer none]
 | .bu, cs, _ => cs = [.slice none 0 0]
 | .slice xs, cs, _ => (xs = [] ∧ ∃ a c, cs = [.slice a 0 c] ∧ c ≤ maxLen ∧ (a = none → c = 0)) ∨
   ∃ b o cap eH sz, cs = [.slice (some ⟨b, o, none⟩) xs.length cap] ∧ F b ∧ xs.length ≤ cap ∧ cap ≤ maxLen ∧ (∀ d ∈ xs, d.wd = sz) ∧
     Rd w b o eH ∧ bm w F xs eH (fun _ => False)
 | .ar sz xs, cs, S => (xs = [] ∧ ∃ a, cs = [.slice a 0 0]) ∨
   ∃ b cap cur e fr a7, cs = [.slice (some ⟨b, 0, none⟩) xs.length cap] ∧ S b ∧ w.heap[b]? = some (.cells cur e fr) ∧ n3 fr cur.size ∧
     xs.length ≤ cap ∧ cap ≤ maxLen ∧ cur.size = cap * sz ∧ (∀ d ∈ xs, d.wd = sz) ∧ bm w F xs (cur.toList.take (xs.length * sz)) a7 ∧ (∀ c, a7 c → S c) ∧ ¬ a7 b
 | .ref d, cs, _ => ∃ b o eH, cs = [.pointer (some ⟨b, o, none⟩)] ∧ F b ∧ Rd w b o eH ∧ aB w F d eH (fun _ => False)
 | .bd d, cs, S => ∃ b cur e fr a7, cs = [.pointer (some ⟨b, 0, none⟩)] ∧ S b ∧ w.heap[b]? = some (.cells cur e fr) ∧ n3 fr cur.size ∧
   aB w F d cur.toList a7 ∧ (∀ c, a7 c → S c) ∧ ¬ a7 b
 | .agg aC, cs, S => bm w F aC cs S
 | .tuple aC, cs, S => bm w F aC cs S
 | .fn _ _, _, _ => False
 | .h _ _, _, _ => False
 | .aA _ _, _, _ => False
 | .ad _ _, _, _ => False
def bm (w : World) (F : Nat → Prop) : List I → List Value → (Nat → Prop) → Prop
 | [], cs, _ => cs = []
 | d :: ds, cs, S => ∃ cH cI cy et, cs = cH ++ cI ∧ aB w F d cH cy ∧ bm w F ds cI et ∧ (∀ b, cy b → S b) ∧ (∀ b, et b → S b) ∧ (∀ b, cy b → ¬ et b)
end
theorem cell?_of_block {w aP : World} {b : Nat} (h : aP.heap[b]? = w.heap[b]?) (o : Nat) : aP.cell? ⟨b, o, none⟩ = w.cell? ⟨b, o, none⟩ := by
 simp [World.cell?, h]
theorem Rd.frame {w aP : World} {b o : Nat} {cs : List Value} (h : aP.heap[b]? = w.heap[b]?) (bb : Rd w b o cs) : Rd aP b o cs :=
 fun j c ay => (cell?_of_block h _).trans (bb j c ay)
mutual
theorem aB.frame {w aP : World} {F : Nat → Prop} (bH : ∀ b, F b → aP.heap[b]? = w.heap[b]?) :
  ∀ (d : I) (cs : List Value) (S : Nat → Prop), (∀ b, S b → aP.heap[b]? = w.heap[b]?) → aB w F d cs S → aB aP F d cs S
 | .hole, _, _, _, h => h
 | .bool _, _, _, _, h => h
 | .fo, _, _, _, h => h
 | .int _ _, _, _, _, h => h
 | .str _, _, _, _, h => h
 | .dI, _, _, _, h => h
 | .bu, _, _, _, h => h
 | .slice xs, cs, S, bS, h => by
   rw [aB] at h ⊢
   rcases h with h | ⟨b, o, cap, eH, sz, af, ai, aN, bk, cc, cF, ct⟩
   ·exact .inl h
   ·exact .inr ⟨b, o, cap, eH, sz, af, ai, aN, bk, cc, cF.frame (bH _ ai), bm.frame bH xs _ _ (fun _ h => h.elim) ct⟩
 | .ar sz xs, cs, S, bS, h => by
   rw [aB] at h ⊢
   rcases h with h | ⟨b, cap, cur, e, fr, a7, af, ai, aN, bk, cc, cF, ct, fC, ir, hE, kA⟩
   ·exact .inl h
   ·exact .inr ⟨b, cap, cur, e, fr, a7, af, ai, (bS _ ai).trans aN, bk, cc, cF, ct, fC, bm.frame bH xs _ _ (fun c ay => bS _ (hE _ ay)) ir, hE, kA⟩
 | .ref d, cs, S, bS, h => by
   rw [aB] at h ⊢
   obtain ⟨b, o, eH, af, ai, aN, bk⟩ := h
   exact ⟨b, o, eH, af, ai, aN.frame (bH _ ai), aB.frame bH d _ _ (fun _ h => h.elim) bk⟩
 | .bd d, cs, S, bS, h => by
   rw [aB] at h ⊢
   obtain ⟨b, cur, e, fr, a7, af, ai, aN, bk, cc, cF, ct⟩ := h
   exact ⟨b, cur, e, fr, a7, af, ai, (bS _ ai).trans aN, bk, aB.frame bH d _ _ (fun c ay => bS _ (cF _ ay)) cc, cF, ct⟩
 | .agg aC, cs, S, bS, h => by rw [aB] at h ⊢; exact bm.frame bH aC _ _ bS h
 | .tuple aC, cs, S, bS, h => by rw [aB] at h ⊢; exact bm.frame bH aC _ _ bS h
 | .fn _ _, _, _, _, h => h
 | .h _ _, _, _, _, h => h
 | .aA _ _, _, _, _, h => h
 | .ad _ _, _, _, _, h => h
theorem bm.frame {w aP : World} {F : Nat → Prop} (bH : ∀ b, F b → aP.heap[b]? = w.heap[b]?) :
  ∀ (ds : List I) (cs : List Value) (S : Nat → Prop), (∀ b, S b → aP.heap[b]? = w.heap[b]?) → bm w F ds cs S → bm aP F ds cs S
 | [], _, _, _, h => h
 | d :: ds, cs, S, bS, h => by
   rw [bm] at h ⊢
   obtain ⟨cH, cI, cy, et, af, ai, aN, bk, cc, cF⟩ := h
   exact ⟨cH, cI, cy, et, af, aB.frame bH d _ _ (fun b ad => bS _ (bk _ ad)) ai, bm.frame bH ds _ _ (fun b ad => bS _ (cc _ ad)) aN, bk, cc, cF⟩
end
mutual
theorem aB.mono {w : World} {F b9 : Nat → Prop} (bH : ∀ b, F b → b9 b) :
  ∀ (d : I) (cs : List Value) (S a7 : Nat → Prop), (∀ b, S b → a7 b) → aB w F d cs S → aB w b9 d cs a7
 | .hole, _, _, _, _, h => h
 | .bool _, _, _, _, _, h => h
 | .fo, _, _, _, _, h => h
 | .int _ _, _, _, _, _, h => h
 | .str _, _, _, _, _, h => h
 | .dI, _, _, _, _, h => h
 | .bu, _, _, _, _, h => h
 | .slice xs, cs, S, _, bS, h => by
   rw [aB] at h ⊢
   rcases h with h | ⟨b, o, cap, eH, sz, af, ai, aN, bk, cc, cF, ct⟩
   ·exact .inl h
   ·exact .inr ⟨b, o, cap, eH, sz, af, bH _ ai, aN, bk, cc, cF, bm.mono bH xs _ _ _ (fun _ h => h) ct⟩
 | .ar sz xs, cs, S, _, bS, h => by
   rw [aB] at h ⊢
   rcases h with h | ⟨b, cap, cur, e, fr, a7, af, ai, aN, bk, cc, cF, ct, fC, ir, hE, kA⟩
   ·exact .inl h
   ·exact .inr ⟨b, cap, cur, e, fr, a7, af, bS _ ai, aN, bk, cc, cF, ct, fC, bm.mono bH xs _ _ _ (fun _ h => h) ir, fun c ay => bS _ (hE _ ay), kA⟩
 | .ref d, cs, S, _, bS, h => by
   rw [aB] at h ⊢
   obtain ⟨b, o, eH, af, ai, aN, bk⟩ := h
   exact ⟨b, o, eH, af, bH _ ai, aN, aB.mono bH d _ _ _ (fun _ h => h) bk⟩
 | .bd d, cs, S, _, bS, h => by
   rw [aB] at h ⊢
   obtain ⟨b, cur, e, fr, a7, af, ai, aN, bk, cc, cF, ct⟩ := h
   exact ⟨b, cur, e, fr, a7, af, bS _ ai, aN, bk, aB.mono bH d _ _ _ (fun _ h => h) cc, fun c ay => bS _ (cF _ ay), ct⟩
 | .agg aC, cs, S, _, bS, h => by rw [aB] at h ⊢; exact bm.mono bH aC _ _ _ bS h
 | .tuple aC, cs, S, _, bS, h => by rw [aB] at h ⊢; exact bm.mono bH aC _ _ _ bS h
 | .fn _ _, _, _, _, _, h => h
 | .h _ _, _, _, _, _, h => h
 | .aA _ _, _, _, _, _, h => h
 | .ad _ _, _, _, _, _, h => h
theorem bm.mono {w : World} {F b9 : Nat → Prop} (bH : ∀ b, F b → b9 b) :
  ∀ (ds : List I) (cs : List Value) (S a7 : Nat → Prop), (∀ b, S b → a7 b) → bm w F ds cs S → bm w b9 ds cs a7
 | [], _, _, _, _, h => h
 | d :: ds, cs, S, _, bS, h => by
   rw [bm] at h ⊢
   obtain ⟨cH, cI, cy, et, af, ai, aN, bk, cc, cF⟩ := h
   exact ⟨cH, cI, cy, et, af, aB.mono bH d _ _ _ (fun _ h => h) ai, bm.mono bH ds _ _ _ (fun _ h => h) aN, fun b ad => bS _ (bk _ ad), fun b ad => bS _ (cc _ ad), cF⟩
end
mutual
theorem aB.length {w : World} {F : Nat → Prop} : ∀ (d : I) (cs : List Value) (S : Nat → Prop), aB w F d cs S → cs.length = d.wd
 | .hole, cs, S, h => by rw [aB] at h; obtain ⟨v, _, rfl⟩ := h; rfl
 | .bool _, cs, S, h => by rw [aB] at h; subst h; rfl
 | .fo, cs, S, h => by rw [aB] at h; obtain ⟨b, rfl⟩ := h; rfl
 | .int _ _, cs, S, h => by rw [aB] at h; subst h; rfl
 | .str _, cs, S, h => by rw [aB] at h; subst h; rfl
 | .dI, cs, S, h => by rw [aB] at h; subst h; rfl
 | .bu, cs, S, h => by rw [aB] at h; subst h; rfl
 | .slice xs, cs, S, h => by
   rw [aB] at h
   rcases h with ⟨_, a, c, rfl, _⟩ | ⟨b, o, cap, eH, sz, rfl, _⟩ <;> rfl
 | .ar sz xs, cs, S, h => by
   rw [aB] at h
   rcases h with ⟨_, a, rfl⟩ | ⟨b, cap, cur, e, fr, a7, rfl, _⟩ <;> rfl
 | .ref d, cs, S, h => by rw [aB] at h; obtain ⟨b, o, eH, rfl, _⟩ := h; rfl
 | .bd d, cs, S, h => by rw [aB] at h; obtain ⟨b, o, eH, _, _, rfl, _⟩ := h; rfl
 | .agg aC, cs, S, h => by rw [aB] at h; exact bm.length aC _ _ h
 | .tuple aC, cs, S, h => by rw [aB] at h; exact bm.length aC _ _ h
 | .fn _ _, cs, S, h => by rw [aB] at h; exact h.elim
 | .h _ _, cs, S, h => by rw [aB] at h; exact h.elim
 | .aA _ _, cs, S, h => by rw [aB] at h; exact h.elim
 | .ad _ _, cs, S, h => by rw [aB] at h; exact h.elim
theorem bm.length {w : World} {F : Nat → Prop} : ∀ (ds : List I) (cs : List Value) (S : Nat → Prop), bm w F ds cs S → cs.length = I.eD ds
 | [], cs, S, h => by rw [bm] at h; subst h; rfl
 | d :: ds, cs, S, h => by
   rw [bm] at h
   obtain ⟨cH, cI, cy, et, rfl, ai, aN, _⟩ := h
   rw [List.length_append, aB.length d _ _ ai, bm.length ds _ _ aN, I.eD]
end
mutual
def I.share : I → I
 | .ar _ xs => .slice (I.shares xs)
 | .bd d => .ref d.share
 | .slice xs => .slice (I.shares xs)
 | .ref d => .ref d.share
 | .agg aC => .agg (I.shares aC)
 | .tuple aC => .tuple (I.shares aC)
 | d => d
def I.shares : List I → List I
 | [] => []
 | d :: ds => d.share :: I.shares ds
end
theorem I.rR (ds : List I) : I.shares ds = ds.map I.share := by
 induction ds with
 | nil => rfl
 | cons d ds ih => simp [I.shares, ih]
mutual
theorem I.zA : ∀ d : I, d.share.wd = d.wd
 | .hole => rfl
 | .bool _ => rfl
 | .fo => rfl
 | .int _ _ => rfl
 | .str _ => rfl
 | .dI => rfl
 | .bu => rfl
 | .slice _ => rfl
 | .ar _ _ => rfl
 | .ref _ => rfl
 | .bd _ => rfl
 | .agg aC => by simp only [I.share, I.wd]; exact I.DR aC
 | .tuple aC => by simp only [I.share, I.wd]; exact I.DR aC
 | .fn _ _ => rfl
 | .h _ _ => rfl
 | .aA _ _ => rfl
 | .ad _ _ => rfl
theorem I.DR : ∀ ds : List I, I.eD (I.shares ds) = I.eD ds
 | [] => rfl
 | d :: ds => by simp only [I.shares, I.eD]; rw [I.zA d, I.DR ds]
end
theorem tO {w : World} {b : Nat} {cur : Array Value} {e : TypeId} {fr : Nat × Nat} (h : w.heap[b]? = some (.cells cur e fr)) (n : Nat) : Rd w b 0 (cur.toList.take n) := by
 intro j c ay
 rw [List.getElem?_take] at ay
 split at ay
 ·simp [World.cell?, h]; simpa using ay
 ·cases ay
mutual
theorem aB.shared {w : World} {F b9 : Nat → Prop} (bH : ∀ b, F b → b9 b) :
  ∀ (d : I) (cs : List Value) (S : Nat → Prop), (∀ b, S b → b9 b) → aB w F d cs S → aB w b9 d.share cs (fun _ => False)
 | .hole, _, _, _, h => h
 | .bool _, _, _, _, h => h
 | .fo, _, _, _, h => h
 | .int _ _, _, _, _, h => h
 | .str _, _, _, _, h => h
 | .dI, _, _, _, h => h
 | .bu, _, _, _, h => h
 | .slice xs, cs, S, bS, h => by
   rw [I.share, aB]
   rw [aB] at h
   rcases h with ⟨rfl, a, c, rfl, ay⟩ | ⟨b, o, cap, eH, sz, af, ai, aN, bk, cc, cF, ct⟩
   ·exact .inl ⟨rfl, a, c, rfl, ay⟩
   ·refine .inr ⟨b, o, cap, eH, sz, ?_, bH _ ai, ?_, bk, ?_, cF, bm.shared bH xs _ _ (fun _ h => h.elim) ct⟩
    ·simpa [I.rR] using af
    ·simpa [I.rR] using aN
    ·intro d ak
     rw [I.rR] at ak
     obtain ⟨bL, gR, rfl⟩ := List.mem_map.1 ak
     rw [I.zA]; exact cc _ gR
 | .ar sz xs, cs, S, bS, h => by
   rw [I.share, aB]
   rw [aB] at h
   rcases h with ⟨rfl, a, rfl⟩ | ⟨b, cap, cur, e, fr, a7, af, ai, aN, bk, cc, cF, ct, fC, ir, hE, kA⟩
   ·exact .inl ⟨rfl, a, 0, rfl, Nat.zero_le _, fun _ => rfl⟩
   ·refine .inr ⟨b, 0, cap, _, sz, ?_, bS _ ai, ?_, cF, ?_, tO aN _, bm.shared bH xs _ _ (fun c ay => bS _ (hE _ ay)) ir⟩
    ·simpa [I.rR] using af
    ·simpa [I.rR] using cc
    ·intro d ak
     rw [I.rR] at ak
     obtain ⟨bL, gR, rfl⟩ := List.mem_map.1 ak
     rw [I.zA]; exact fC _ gR
 | .ref d, cs, S, bS, h => by
   rw [I.share, aB]
   rw [aB] at h
   obtain ⟨b, o, eH, af, ai, aN, bk⟩ := h
   exact ⟨b, o, eH, af, bH _ ai, aN, aB.shared bH d _ _ (fun _ h => h.elim) bk⟩
 | .bd d, cs, S, bS, h => by
   rw [I.share, aB]
   rw [aB] at h
   obtain ⟨b, cur, e, fr, a7, af, ai, aN, bk, cc, cF, ct⟩ := h
   refine ⟨b, 0, cur.toList, af, bS _ ai, ?_, aB.shared bH d _ _ (fun c ay => bS _ (cF _ ay)) cc⟩
   have := tO aN cur.toList.length
   rwa [List.take_length] at this
 | .agg aC, cs, S, bS, h => by rw [I.share, aB]; rw [aB] at h; exact bm.shared bH aC _ _ bS h
 | .tuple aC, cs, S, bS, h => by rw [I.share, aB]; rw [aB] at h; exact bm.shared bH aC _ _ bS h
 | .fn _ _, _, _, _, h => h
 | .h _ _, _, _, _, h => h
 | .aA _ _, _, _, _, h => h
 | .ad _ _, _, _, _, h => h
theorem bm.shared {w : World} {F b9 : Nat → Prop} (bH : ∀ b, F b → b9 b) :
  ∀ (ds : List I) (cs : List Value) (S : Nat → Prop), (∀ b, S b → b9 b) → bm w F ds cs S → bm w b9 (I.shares ds) cs (fun _ => False)
 | [], _, _, _, h => h
 | d :: ds, cs, S, bS, h => by
   simp only [I.shares]
   rw [bm] at h ⊢
   obtain ⟨cH, cI, cy, et, af, ai, aN, bk, cc, cF⟩ := h
   exact ⟨cH, cI, _, _, af, aB.shared bH d _ _ (fun b ad => bS _ (bk _ ad)) ai, bm.shared bH ds _ _ (fun b ad => bS _ (cc _ ad)) aN, fun _ h => h, fun _ h => h, fun _ h => h.elim⟩
end
def I.sub : List Nat → I → Option I
 | [], d => some d
 | k :: q, .agg aC => match aC[k]? with
   | some d => I.sub q d
   | none => none
 | k :: q, .tuple aC => match aC[k]? with
   | some d => I.sub q d
   | none => none
 | i :: q, .ar _ xs => match xs[i]? with
   | some d => I.sub q d
   | none => none
 | 0 :: q, .bd d => I.sub q d
 | _ :: _, _ => none
def I.put : List Nat → I → I → I
 | [], n, _ => n
 | k :: q, n, .agg aC => match aC[k]? with
   | some d => .agg (aC.set k (I.put q n d))
   | none => .agg aC
 | k :: q, n, .tuple aC => match aC[k]? with
   | some d => .tuple (aC.set k (I.put q n d))
   | none => .tuple aC
 | i :: q, n, .ar sz xs => match xs[i]? with
   | some d => .ar sz (xs.set i (I.put q n d))
   | none => .ar sz xs
 | 0 :: q, n, .bd d => .bd (I.put q n d)
 | _ :: _, _, d => d
def mQ (w : World) (b o n : Nat) : List Value := (List.range n).map fun j => (w.cell? ⟨b, o + j, none⟩).getD undef
theorem Rd.mQ {w : World} {b o : Nat} {cs : List Value} (h : Rd w b o cs) : mQ w b o cs.length = cs := by
 unfold c5.mQ
 apply List.ext_getElem?
 intro i
 rw [List.getElem?_map]
 by_cases ao : i < cs.length
 ·have : cs[i]? = some cs[i] := List.getElem?_eq_getElem ao
  simp [ao, h i _ this]
 ·simp [ao]
def dy (w : World) : List Nat → I → List Value → Option (Nat × Nat) → Option (I × List Value × Option (Nat × Nat))
 | [], d, cs, a => some (d, cs, a)
 | k :: q, .agg aC, cs, a => match aC[k]? with
   | some d => dy w q d ((cs.drop (I.eD (aC.take k))).take d.wd) (a.map fun l => (l.1, l.2 + I.eD (aC.take k)))
   | none => none
 | k :: q, .tuple aC, cs, a => match aC[k]? with
   | some d => dy w q d ((cs.drop (I.eD (aC.take k))).take d.wd) (a.map fun l => (l.1, l.2 + I.eD (aC.take k)))
   | none => none
 | i :: q, .ar sz xs, cs, _ => match xs[i]?, cs with
   | some d, [.slice (some ⟨b, _, _⟩) _ _] => dy w q d (mQ w b (i * sz) sz) (some (b, i * sz))
   | _, _ => none
 | 0 :: q, .bd d, cs, _ => match cs with
   | [.pointer (some ⟨b, _, _⟩)] => dy w q d (mQ w b 0 d.wd) (some (b, 0))
   | _ => none
 | _ :: _, _, _, _ => none
theorem tP (cH gp cI : List Value) (n m : Nat) (af : cH.length = n) (ai : gp.length = m) : ((cH ++ (gp ++ cI)).drop n).take m = gp := by
 rw [List.drop_left' af, List.take_left' ai]
theorem bm.pick {w : World} {F : Nat → Prop} : ∀ (ds : List I) (cs : List Value) (S : Nat → Prop) (k : Nat) (d : I),
  bm w F ds cs S → ds[k]? = some d → ∃ (cH gp cI : List Value) (cy kf : Nat → Prop), cs = cH ++ (gp ++ cI) ∧ cH.length = I.eD (ds.take k) ∧
   (∀ b, cy b → S b) ∧ (∀ b, kf b → S b) ∧ (∀ b, cy b → ¬ kf b) ∧ aB w F d gp kf ∧
   ∀ (aP : World) (bL : I) (rS : List Value) (a7 : Nat → Prop), (∀ b, F b → aP.heap[b]? = w.heap[b]?) → (∀ b, cy b → aP.heap[b]? = w.heap[b]?) →
     aB aP F bL rS a7 → (∀ b, a7 b → ¬ cy b) → bm aP F (ds.set k bL) (cH ++ (rS ++ cI)) (fun b => cy b ∨ a7 b)
 | [], _, _, _, _, _, aD => by simp at aD
 | x :: ds, cs, S, 0, d, h, aD => by
   rw [bm] at h
   obtain ⟨cH, cI, hF, gS, rfl, af, ai, cz, ad, kB⟩ := h
   simp at aD; subst aD
   refine ⟨[], cH, cI, gS, hF, rfl, rfl, ad, cz, fun b ad cz => kB _ cz ad, af, ?_⟩
   intro aP bL rS a7 bH bS ak i5
   simp only [List.set_cons_zero, List.nil_append]
   rw [bm]
   exact ⟨rS, cI, a7, gS, rfl, ak, bm.frame bH _ _ _ bS ai, fun b h => .inr h, fun b h => .inl h, fun b h => i5 b h⟩
 | x :: ds, cs, S, k + 1, d, h, aD => by
   rw [bm] at h
   obtain ⟨mR, wA, hF, gS, rfl, af, ai, cz, ad, kB⟩ := h
   simp only [List.getElem?_cons_succ] at aD
   have hl := aB.length _ _ _ af
   obtain ⟨cH, gp, cI, cy, kf, rfl, kg, n4, l_, DS, DT, DU⟩ := bm.pick ds wA gS k d ai aD
   refine ⟨mR ++ cH, gp, cI, fun b => hF b ∨ cy b, kf, by simp, by simp [I.eD, hl, kg], ?_, fun b h => ad _ (l_ _ h), ?_, DT, ?_⟩
   ·rintro b (h | h)
    ·exact cz _ h
    ·exact ad _ (n4 _ h)
   ·rintro b (h | h) aD
    ·exact kB _ h (l_ _ aD)
    ·exact DS _ h aD
   ·intro aP bL rS a7 bH bS ak i5
    simp only [List.set_cons_succ]
    rw [bm]
    refine ⟨mR, cH ++ (rS ++ cI), hF, fun b => cy b ∨ a7 b, by simp, aB.frame bH _ _ _ (fun b ad => bS b (.inl ad)) af,
     DU aP bL rS a7 bH (fun b ad => bS b (.inr ad)) ak (fun b ad ay => i5 b ad (.inr ay)), fun b h => .inl (.inl h), ?_, ?_⟩
    ·rintro b (h | h)
     ·exact .inl (.inr h)
     ·exact .inr h
    ·rintro b h (bM | bM)
     ·exact kB _ h (n4 _ bM)
     ·exact i5 _ bM (.inl h)
theorem DV : ∀ (aC : List I) (k : Nat) (x y : I), aC[k]? = some x → y.wd = x.wd → I.eD (aC.set k y) = I.eD aC := by
 intro aC
 induction aC with
 | nil => intro k x y h; simp at h
 | cons a aC ih =>
   intro k x y h e
   cases k with
   | zero => simp at h; subst h; simp [I.eD, e]
   | succ k => simp at h; simp [I.eD, ih k x y h e]
theorem rT {sz : Nat} : ∀ (xs : List I), (∀ d ∈ xs, d.wd = sz) → I.eD xs = xs.length * sz
 | [], _ => by simp [I.eD]
 | x :: xs, h => by
   rw [I.eD, h x (by simp), rT xs (fun d ak => h d (by simp [ak])), List.length_cons, Nat.add_mul, Nat.one_mul, Nat.add_comm]
theorem I.tQ : ∀ (q : List Nat) (av d bL : I), I.sub q av = some d → bL.wd = d.wd → (I.put q bL av).wd = av.wd := by
 intro q
 induction q with
 | nil => intro av d bL h e; simp [I.sub] at h; subst h; simpa [I.put] using e
 | cons k q ih =>
   intro av d bL h e
   cases av with
   | agg aC =>
     simp only [I.sub] at h
     split at h
     ·rename_i x aq
      simp only [I.put, aq, I.wd]
      exact DV _ _ _ _ aq (ih _ _ _ h e)
     ·cases h
   | tuple aC =>
     simp only [I.sub] at h
     split at h
     ·rename_i x aq
      simp only [I.put, aq, I.wd]
      exact DV _ _ _ _ aq (ih _ _ _ h e)
     ·cases h
   | ar sz xs =>
     simp only [I.sub] at h
     split at h
     ·rename_i x aq
      simp only [I.put, aq, I.wd]
     ·cases h
   | bd x =>
     cases k with
     | zero => simp only [I.put, I.wd]
     | succ k => simp [I.sub] at h
   | _ => simp [I.sub] at h
theorem DW {sz : Nat} {xs : List I} {i : Nat} {y : I} (h : ∀ d ∈ xs, d.wd = sz) (bD : y.wd = sz) : ∀ d ∈ xs.set i y, d.wd = sz := by
 intro d ak
 rcases List.mem_or_eq_of_mem_set ak with ak | rfl
 ·exact h d ak
 ·exact bD
theorem tR {w : World} {b : Nat} {cur : Array Value} {e : TypeId} {fr : Nat × Nat} (h : w.heap[b]? = some (.cells cur e fr)) {l m r : List Value} (ay : cur.toList = l ++ (m ++ r)) :
  mQ w b l.length m.length = m := by
 refine Rd.mQ (fun j c b_ => ?_)
 have fi : j < m.length := (List.getElem?_eq_some_iff.1 b_).1
 have : cur.toList[l.length + j]? = some c := by
  rw [ay, List.getElem?_append_right (by omega), List.getElem?_append_left (by omega)]
  rw [← b_]; congr 1; omega
 simp [World.cell?, h]
 simpa using this
def Flat (w : World) (F : Nat → Prop) (q : List Nat) (av : I) (cs : List Value) (a : Option (Nat × Nat)) (d : I) (c_ : List Value) (cY : Option (Nat × Nat)) (e4 : Nat → Prop) : Prop :=
 ∃ l r : List Value, cs = l ++ (c_ ++ r) ∧ cY = a.map (fun x => (x.1, x.2 + l.length)) ∧
   ∀ (aP : World) (bL : I) (gq : List Value) (a7 : Nat → Prop), (∀ b, F b → aP.heap[b]? = w.heap[b]?) → (∀ b, e4 b → aP.heap[b]? = w.heap[b]?) →
     bL.wd = d.wd → aB aP F bL gq a7 → (∀ b, a7 b → ¬ e4 b) → aB aP F (I.put q bL av) (l ++ (gq ++ r)) (fun b => e4 b ∨ a7 b)
def Deep (w : World) (F : Nat → Prop) (q : List Nat) (av : I) (cs : List Value) (d : I) (c_ : List Value) (cY : Option (Nat × Nat)) (e4 : Nat → Prop) : Prop :=
 ∃ (b : Nat) (cur : Array Value) (e : TypeId) (fr : Nat × Nat) (l r : List Value), cY = some (b, l.length) ∧ e4 b ∧ w.heap[b]? = some (.cells cur e fr) ∧ n3 fr cur.size ∧ cur.toList = l ++ (c_ ++ r) ∧
   ∀ (aP : World) (bL : I) (gq : List Value) (a7 : Nat → Prop), (∀ b, F b → aP.heap[b]? = w.heap[b]?) → (∀ c, e4 c → c ≠ b → aP.heap[c]? = w.heap[c]?) →
     aP.heap[b]? = some (.cells (l ++ (gq ++ r)).toArray e fr) →
     bL.wd = d.wd → aB aP F bL gq a7 → (∀ b, a7 b → ¬ e4 b) → aB aP F (I.put q bL av) cs (fun b => e4 b ∨ a7 b)
theorem ctx {w : World} {F : Nat → Prop} : ∀ (q : List Nat) (av : I) (cs : List Value) (S : Nat → Prop) (a : Option (Nat × Nat)) (d : I),
  aB w F av cs S → I.sub q av = some d → ∃ (c_ : List Value) (cY : Option (Nat × Nat)) (e4 hj : Nat → Prop), dy w q av cs a = some (d, c_, cY) ∧
   (∀ b, e4 b → S b) ∧ (∀ b, hj b → S b) ∧ (∀ b, e4 b → ¬ hj b) ∧ aB w F d c_ hj ∧ (Flat w F q av cs a d c_ cY e4 ∨ Deep w F q av cs d c_ cY e4) := by
 intro q
 induction q with
 | nil =>
   intro av cs S a d h ak
   simp [I.sub] at ak; subst ak
   refine ⟨cs, a, fun _ => False, S, rfl, fun _ h => h.elim, fun _ h => h, fun _ h => h.elim, h, .inl ⟨[], [], by simp, ?_, ?_⟩⟩
   ·cases a <;> simp
   ·intro aP bL gq a7 _ _ hw gR _
    simp only [I.put, List.nil_append, List.append_nil]
    exact aB.mono (fun _ h => h) _ _ _ _ (fun b h => .inr h) gR
 | cons k q ih =>
   have fields : ∀ (mk : List I → I) (DX : ∀ (w : World) (F : Nat → Prop) (aC : List I) (cs : List Value) (S : Nat → Prop), aB w F (mk aC) cs S = bm w F aC cs S) (aC : List I) (cs : List Value) (S : Nat → Prop) (a : Option (Nat × Nat)) (x d : I),
     (jY : ∀ bL, I.put (k :: q) bL (mk aC) = mk (aC.set k (I.put q bL x))) → bm w F aC cs S → aC[k]? = some x → I.sub q x = some d →
     ∃ (c_ : List Value) (cY : Option (Nat × Nat)) (e4 hj : Nat → Prop), dy w q x ((cs.drop (I.eD (aC.take k))).take x.wd) (a.map fun l => (l.1, l.2 + I.eD (aC.take k))) = some (d, c_, cY) ∧
     (∀ b, e4 b → S b) ∧ (∀ b, hj b → S b) ∧ (∀ b, e4 b → ¬ hj b) ∧ aB w F d c_ hj ∧ (Flat w F (k :: q) (mk aC) cs a d c_ cY e4 ∨ Deep w F (k :: q) (mk aC) cs d c_ cY e4) := by
    intro mk DX aC cs S a x d jY h aq ak
    obtain ⟨cH, gp, cI, cy, kf, rfl, h8, gT, hs, h9, hk, ma⟩ := bm.pick aC cs S k x h aq
    have hl := aB.length _ _ _ hk
    rw [tP cH gp cI _ _ h8 hl]
    obtain ⟨c_, cY, e4, hj, hG, bo, bR, cJ, eE, fK⟩ := ih x _ kf (a.map fun l => (l.1, l.2 + I.eD (aC.take k))) d hk ak
    refine ⟨c_, cY, fun b => cy b ∨ e4 b, hj, hG, ?_, fun b ad => hs _ (bR _ ad), ?_, eE, ?_⟩
    ·rintro b (h | h)
     ·exact gT _ h
     ·exact hs _ (bo _ h)
    ·rintro b (h | h) ak
     ·exact h9 _ h (bR _ ak)
     ·exact cJ _ h ak
    ·have fb : ∀ (b : Nat) (a7 : Nat → Prop), (cy b ∨ e4 b ∨ a7 b) → ((cy b ∨ e4 b) ∨ a7 b) := by
      rintro b a7 (ad | ad | ad)
      ·exact .inl (.inl ad)
      ·exact .inl (.inr ad)
      ·exact .inr ad
     rcases fK with ⟨l, r, rfl, bh, a8⟩ | ⟨b, cur, e, fr, l, r, a1, bh, a8, c6, da, cv⟩
     ·refine .inl ⟨cH ++ l, r ++ cI, by simp, ?_, ?_⟩
      ·rw [bh, ← h8]; cases a <;> simp [Nat.add_assoc]
      ·intro aP bL gq a7 bH bS hw gR i5
       have df := a8 aP bL gq a7 bH (fun b ad => bS b (.inr ad)) hw gR (fun b ad ay => i5 b ad (.inr ay))
       have ea := ma aP _ _ _ bH (fun b ad => bS b (.inl ad)) df (by
        rintro b (ad | ad) af
        ·exact h9 _ af (bo _ ad)
        ·exact i5 _ ad (.inl af))
       rw [jY, DX]
       have := bm.mono (fun _ h => h) _ _ _ _ (fun b => fb b a7) ea
       simpa using this
     ·refine .inr ⟨b, cur, e, fr, l, r, a1, .inr bh, a8, c6, da, ?_⟩
      intro aP bL gq a7 bH bS lJ hw gR i5
      have df := cv aP bL gq a7 bH (fun c ay => bS c (.inr ay)) lJ hw gR (fun b ad ay => i5 b ad (.inr ay))
      have ea := ma aP _ _ _ bH (fun c ay => bS c (.inl ay) (by rintro rfl; exact h9 _ ay (bo _ bh))) df (by
        rintro b (ad | ad) af
        ·exact h9 _ af (bo _ ad)
        ·exact i5 _ ad (.inl af))
      rw [jY, DX]
      exact bm.mono (fun _ h => h) _ _ _ _ (fun b => fb b a7) ea
   intro av cs S a d h ak
   cases av with
   | agg aC =>
     simp only [I.sub] at ak
     split at ak
     ·rename_i x aq
      rw [aB] at h
      have := fields .agg (fun _ _ _ _ _ => by rw [aB]) aC cs S a x d (fun bL => by simp only [I.put, aq]) h aq ak
      simpa only [dy, aq] using this
     ·cases ak
   | tuple aC =>
     simp only [I.sub] at ak
     split at ak
     ·rename_i x aq
      rw [aB] at h
      have := fields .tuple (fun _ _ _ _ _ => by rw [aB]) aC cs S a x d (fun bL => by simp only [I.put, aq]) h aq ak
      simpa only [dy, aq] using this
     ·cases ak
   | ar sz xs =>
     simp only [I.sub] at ak
     split at ak
     ·rename_i x aq
      rw [aB] at h
      rcases h with ⟨rfl, _, rfl⟩ | ⟨b, cap, cur, e, fr, ek, rfl, ai, aN, bk, cc, cF, ct, fC, ir, hE, kA⟩
      ·simp at aq
      ·obtain ⟨cH, gp, cI, cy, kf, p, h8, gT, hs, h9, hk, ma⟩ := bm.pick xs _ ek k x ir aq
       have hl := aB.length _ _ _ hk
       have PC : k < xs.length := (List.getElem?_eq_some_iff.1 aq).1
       have wB : x.wd = sz := fC x (List.mem_of_getElem? aq)
       have cl : I.eD (xs.take k) = k * sz := by
        rw [rT _ (fun d ak => fC d (List.mem_of_mem_take ak))]
        rw [List.length_take, Nat.min_eq_left (by omega)]
       obtain ⟨pP, kY⟩ : ∃ pP, cur.toList = cH ++ (gp ++ (cI ++ pP)) := by
        refine ⟨cur.toList.drop (xs.length * sz), ?_⟩
        have := (List.take_append_drop (xs.length * sz) cur.toList).symm
        rw [p] at this
        simpa using this
       have jI : mQ w b (k * sz) sz = gp := by
        have := tR aN kY
        rwa [h8, cl, hl, wB] at this
       obtain ⟨c_, cY, e4, hj, hG, bo, bR, cJ, eE, fK⟩ := ih x _ kf (some (b, k * sz)) d hk ak
       have jY : ∀ bL, I.put (k :: q) bL (.ar sz xs) = .ar sz (xs.set k (I.put q bL x)) := fun bL => by simp only [I.put, aq]
       refine ⟨c_, cY, fun c => c = b ∨ cy c ∨ e4 c, hj, ?_, ?_, fun c ay => hE _ (hs _ (bR _ ay)), ?_, eE, .inr ?_⟩
       ·simp only [dy, aq, jI]; exact hG
       ·rintro c (rfl | h | h)
        ·exact ai
        ·exact hE _ (gT _ h)
        ·exact hE _ (hs _ (bo _ h))
       ·rintro c (rfl | h | h) ak
        ·exact kA (hs _ (bR _ ak))
        ·exact h9 _ h (bR _ ak)
        ·exact cJ _ h ak
       ·have mb : ∀ bL, bL.wd = d.wd → (I.put q bL x).wd = sz := fun bL hw => (I.tQ q x d bL ak hw).trans wB
        rcases fK with ⟨l, r, rfl, bh, a8⟩ | ⟨fV, DY, fv, DZ, l, r, a1, bh, a8, c6, da, cv⟩
        ·refine ⟨b, cur, e, fr, cH ++ l, r ++ (cI ++ pP), ?_, .inl rfl, aN, bk, ?_, ?_⟩
         ·rw [bh]; simp [h8, cl]
         ·rw [kY]; simp
         ·intro aP bL gq a7 bH bS lJ hw gR i5
          have df := a8 aP bL gq a7 bH (fun c ay => bS c (.inr (.inr ay)) (by rintro rfl; exact kA (hs _ (bo _ ay)))) hw gR (fun b ad ay => i5 b ad (.inr (.inr ay)))
          have ea := ma aP _ _ _ bH (fun c ay => bS c (.inr (.inl ay)) (by rintro rfl; exact kA (gT _ ay))) df (by
           rintro b (ad | ad) af
           ·exact h9 _ af (bo _ ad)
           ·exact i5 _ ad (.inr (.inl af)))
          have wC := aB.length _ _ _ gR
          have wD := aB.length _ _ _ eE
          rw [jY, aB]
          refine .inr ⟨b, cap, _, e, fr, fun b => cy b ∨ e4 b ∨ a7 b, by simp, .inl (.inl rfl), lJ, ?_, by simpa using cc, cF, ?_, DW fC (mb bL hw), ?_, ?_, ?_⟩
          ·have : (cH ++ l ++ (gq ++ (r ++ (cI ++ pP)))).toArray.size = cur.size := by
            have : cur.size = cur.toList.length := by simp
            rw [this, kY]; simp [wC, wD, hw]
           rw [this]; exact bk
          ·rw [← ct]
           have : cur.size = cur.toList.length := by simp
           rw [this, kY]; simp [wC, wD, hw]
          ·have hlen : (cH ++ (l ++ (gq ++ r) ++ cI)).length = xs.length * sz := by
            have := congrArg List.length p
            rw [List.length_take, Nat.min_eq_left (by simp [ct]; exact Nat.mul_le_mul_right _ cc)] at this
            rw [this]; simp [wC, wD, hw]
           have : (cH ++ l ++ (gq ++ (r ++ (cI ++ pP)))) = (cH ++ (l ++ (gq ++ r) ++ cI)) ++ pP := by simp
           rw [List.length_set]
           simp only [this]
           rw [List.take_left' hlen]
           exact ea
          ·rintro c (h | h | h)
           ·exact .inl (.inr (.inl h))
           ·exact .inl (.inr (.inr h))
           ·exact .inr h
          ·rintro (h | h | h)
           ·exact kA (gT _ h)
           ·exact kA (hs _ (bo _ h))
           ·exact i5 _ h (.inl rfl)
        ·refine ⟨fV, DY, fv, DZ, l, r, a1, .inr (.inr bh), a8, c6, da, ?_⟩
         intro aP bL gq a7 bH bS lJ hw gR i5
         have df := cv aP bL gq a7 bH (fun c ay dB => bS c (.inr (.inr ay)) dB) lJ hw gR (fun b ad ay => i5 b ad (.inr (.inr ay)))
         have dB : ∀ c, cy c → c ≠ fV := by rintro c ay rfl; exact h9 _ ay (bo _ bh)
         have ea := ma aP _ _ _ bH (fun c ay => bS c (.inr (.inl ay)) (dB c ay)) df (by
          rintro b (ad | ad) af
          ·exact h9 _ af (bo _ ad)
          ·exact i5 _ ad (.inr (.inl af)))
         have D0 : b ≠ fV := by rintro rfl; exact kA (hs _ (bo _ bh))
         rw [jY, aB]
         refine .inr ⟨b, cap, cur, e, fr, fun b => cy b ∨ e4 b ∨ a7 b, by simp, .inl (.inl rfl), (bS b (.inl rfl) D0).trans aN, bk, by simpa using cc, cF, ct, DW fC (mb bL hw), ?_, ?_, ?_⟩
         ·rw [List.length_set, p]; exact ea
         ·rintro c (h | h | h)
          ·exact .inl (.inr (.inl h))
          ·exact .inl (.inr (.inr h))
          ·exact .inr h
         ·rintro (h | h | h)
          ·exact kA (gT _ h)
          ·exact kA (hs _ (bo _ h))
          ·exact i5 _ h (.inl rfl)
     ·cases ak
   | bd x =>
     cases k with
     | succ k => simp [I.sub] at ak
     | zero =>
       simp only [I.sub] at ak
       rw [aB] at h
       obtain ⟨b, cur, e, fr, ek, rfl, ai, aN, bk, cc, cF, ct⟩ := h
       have hl := aB.length _ _ _ cc
       have jI : mQ w b 0 x.wd = cur.toList := by
        have := tR (l := []) (m := cur.toList) (r := []) aN (by simp)
        rwa [hl] at this
       obtain ⟨c_, cY, e4, hj, hG, bo, bR, cJ, eE, fK⟩ := ih x _ ek (some (b, 0)) d cc ak
       have jY : ∀ bL, I.put (0 :: q) bL (.bd x) = .bd (I.put q bL x) := fun bL => rfl
       refine ⟨c_, cY, fun c => c = b ∨ e4 c, hj, ?_, ?_, fun c ay => cF _ (bR _ ay), ?_, eE, .inr ?_⟩
       ·simp only [dy, jI]; exact hG
       ·rintro c (rfl | h)
        ·exact ai
        ·exact cF _ (bo _ h)
       ·rintro c (rfl | h) ak
        ·exact ct (bR _ ak)
        ·exact cJ _ h ak
       ·rcases fK with ⟨l, r, a1, bh, a8⟩ | ⟨fV, DY, fv, DZ, l, r, a1, bh, a8, c6, da, cv⟩
        ·refine ⟨b, cur, e, fr, l, r, ?_, .inl rfl, aN, bk, a1, ?_⟩
         ·rw [bh]; simp
         ·intro aP bL gq a7 bH bS lJ hw gR i5
          have df := a8 aP bL gq a7 bH (fun c ay => bS c (.inr ay) (by rintro rfl; exact ct (bo _ ay))) hw gR (fun b ad ay => i5 b ad (.inr ay))
          have wC := aB.length _ _ _ gR
          have wD := aB.length _ _ _ eE
          rw [jY, aB]
          refine ⟨b, _, e, fr, fun b => e4 b ∨ a7 b, rfl, .inl (.inl rfl), lJ, ?_, df, ?_, ?_⟩
          ·have : (l ++ (gq ++ r)).toArray.size = cur.size := by
            have : cur.size = cur.toList.length := by simp
            rw [this, a1]; simp [wC, wD, hw]
           rw [this]; exact bk
          ·rintro c (h | h)
           ·exact .inl (.inr h)
           ·exact .inr h
          ·rintro (h | h)
           ·exact ct (bo _ h)
           ·exact i5 _ h (.inl rfl)
        ·refine ⟨fV, DY, fv, DZ, l, r, a1, .inr bh, a8, c6, da, ?_⟩
         intro aP bL gq a7 bH bS lJ hw gR i5
         have df := cv aP bL gq a7 bH (fun c ay dB => bS c (.inr ay) dB) lJ hw gR (fun b ad ay => i5 b ad (.inr ay))
         have D0 : b ≠ fV := by rintro rfl; exact ct (bo _ bh)
         rw [jY, aB]
         refine ⟨b, cur, e, fr, fun b => e4 b ∨ a7 b, rfl, .inl (.inl rfl), (bS b (.inl rfl) D0).trans aN, bk, df, ?_, ?_⟩
         ·rintro c (h | h)
          ·exact .inl (.inr h)
          ·exact .inr h
         ·rintro (h | h)
          ·exact ct (bo _ h)
          ·exact i5 _ h (.inl rfl)
   | _ => simp [I.sub] at ak
mutual
def I.plain : I → Bool
 | .ar _ _ => false
 | .bd _ => false
 | .agg aC => I.dO aC
 | .tuple aC => I.dO aC
 | _ => true
def I.dO : List I → Bool
 | [] => true
 | d :: ds => d.plain && I.dO ds
end
mutual
def I.dq : I → I
 | .ar _ _ => .hole
 | .bd _ => .hole
 | .agg aC => .agg (I.kZ aC)
 | .tuple aC => .tuple (I.kZ aC)
 | d => d
def I.kZ : List I → List I
 | [] => []
 | d :: ds => d.dq :: I.kZ ds
end
mutual
theorem I.qH : ∀ d : I, d.dq.wd = d.wd
 | .hole => rfl
 | .bool _ => rfl
 | .fo => rfl
 | .int _ _ => rfl
 | .str _ => rfl
 | .dI => rfl
 | .bu => rfl
 | .slice _ => rfl
 | .ar _ _ => rfl
 | .ref _ => rfl
 | .bd _ => rfl
 | .agg aC => by simp only [I.dq, I.wd]; exact I.D1 aC
 | .tuple aC => by simp only [I.dq, I.wd]; exact I.D1 aC
 | .fn _ _ => rfl
 | .h _ _ => rfl
 | .aA _ _ => rfl
 | .ad _ _ => rfl
theorem I.D1 : ∀ ds : List I, I.eD (I.kZ ds) = I.eD ds
 | [] => rfl
 | d :: ds => by simp only [I.kZ, I.eD]; rw [I.qH d, I.D1 ds]
end
mutual
theorem aB.dq {w : World} {F : Nat → Prop} : ∀ (d : I) (cs : List Value) (S a7 : Nat → Prop), aB w F d cs S → aB w F d.dq cs a7
 | .hole, _, _, _, h => h
 | .bool _, _, _, _, h => h
 | .fo, _, _, _, h => h
 | .int _ _, _, _, _, h => h
 | .str _, _, _, _, h => h
 | .dI, _, _, _, h => h
 | .bu, _, _, _, h => h
 | .slice xs, cs, S, a7, h => by
   show aB w F (.slice xs) cs a7
   rw [aB] at h ⊢; exact h
 | .ar sz xs, cs, S, a7, h => by
   rw [I.dq, aB]
   rw [aB] at h
   rcases h with ⟨_, _, rfl⟩ | ⟨b, cap, cur, e, fr, ek, rfl, _⟩
   ·exact ⟨_, rfl, rfl⟩
   ·exact ⟨_, rfl, rfl⟩
 | .ref d, cs, S, a7, h => by
   show aB w F (.ref d) cs a7
   rw [aB] at h ⊢; exact h
 | .bd d, cs, S, a7, h => by
   rw [I.dq, aB]
   rw [aB] at h
   obtain ⟨b, cur, e, fr, ek, rfl, _⟩ := h
   exact ⟨_, rfl, rfl⟩
 | .agg aC, cs, S, a7, h => by rw [I.dq, aB]; rw [aB] at h; exact bm.dq aC _ _ _ h
 | .tuple aC, cs, S, a7, h => by rw [I.dq, aB]; rw [aB] at h; exact bm.dq aC _ _ _ h
 | .fn _ _, _, _, _, h => h
 | .h _ _, _, _, _, h => h
 | .aA _ _, _, _, _, h => h
 | .ad _ _, _, _, _, h => h
theorem bm.dq {w : World} {F : Nat → Prop} : ∀ (ds : List I) (cs : List Value) (S a7 : Nat → Prop), bm w F ds cs S → bm w F (I.kZ ds) cs a7
 | [], _, _, _, h => h
 | d :: ds, cs, S, a7, h => by
   rw [I.kZ, bm]
   rw [bm] at h
   obtain ⟨cH, cI, cy, et, af, ai, aN, bk, cc, cF⟩ := h
   exact ⟨cH, cI, fun _ => False, fun _ => False, af, aB.dq d _ _ _ ai, bm.dq ds _ _ _ aN, fun _ h => h.elim, fun _ h => h.elim, fun _ h => h.elim⟩
end
mutual
theorem aB.plain {w : World} {F : Nat → Prop} : ∀ (d : I) (cs : List Value) (S a7 : Nat → Prop), d.plain = true → aB w F d cs S → aB w F d cs a7
 | .hole, _, _, _, _, h => h
 | .bool _, _, _, _, _, h => h
 | .fo, _, _, _, _, h => h
 | .int _ _, _, _, _, _, h => h
 | .str _, _, _, _, _, h => h
 | .dI, _, _, _, _, h => h
 | .bu, _, _, _, _, h => h
 | .slice xs, cs, S, a7, _, h => by rw [aB] at h ⊢; exact h
 | .ar sz xs, cs, S, a7, aA, h => by simp [I.plain] at aA
 | .ref d, cs, S, a7, _, h => by rw [aB] at h ⊢; exact h
 | .bd d, cs, S, a7, aA, h => by simp [I.plain] at aA
 | .agg aC, cs, S, a7, aA, h => by rw [aB] at h ⊢; exact bm.plain aC _ _ _ aA h
 | .tuple aC, cs, S, a7, aA, h => by rw [aB] at h ⊢; exact bm.plain aC _ _ _ aA h
 | .fn _ _, _, _, _, _, h => h
 | .h _ _, _, _, _, _, h => h
 | .aA _ _, _, _, _, _, h => h
 | .ad _ _, _, _, _, _, h => h
theorem bm.plain {w : World} {F : Nat → Prop} : ∀ (ds : List I) (cs : List Value) (S a7 : Nat → Prop), I.dO ds = true → bm w F ds cs S → bm w F ds cs a7
 | [], _, _, _, _, h => h
 | d :: ds, cs, S, a7, aA, h => by
   rw [bm] at h ⊢
   simp only [I.dO, Bool.and_eq_true] at aA
   obtain ⟨cH, cI, cy, et, af, ai, aN, bk, cc, cF⟩ := h
   exact ⟨cH, cI, fun _ => False, fun _ => False, af, aB.plain d _ _ _ aA.1 ai, bm.plain ds _ _ _ aA.2 aN, fun _ h => h.elim, fun _ h => h.elim, fun _ h => h.elim⟩
end
def I.fL : List Nat → I → Bool
 | [], _ => false
 | k :: q, .agg aC => match aC[k]? with
   | some d => I.fL q d
   | none => false
 | k :: q, .tuple aC => match aC[k]? with
   | some d => I.fL q d
   | none => false
 | _ :: _, .ar _ _ => true
 | _ :: _, .bd _ => true
 | _ :: _, _ => false
theorem zB {aC : List I} (h : I.dO aC = true) {k : Nat} {d : I} (aD : aC[k]? = some d) : d.plain = true := by
 induction aC generalizing k with
 | nil => simp at aD
 | cons a aC ih =>
   simp only [I.dO, Bool.and_eq_true] at h
   cases k with
   | zero => simp at aD; subst aD; exact h.1
   | succ k => simp at aD; exact ih h.2 aD
theorem I.HU : ∀ (q : List Nat) (d : I), d.plain = true → I.fL q d = false := by
 intro q
 induction q with
 | nil => intros; rfl
 | cons k q ih =>
   intro d ak
   cases d <;> first | rfl | (simp [I.plain] at ak; done) | skip
   all_goals
    simp only [I.fL]
    split
    ·rename_i aC x aq; exact ih _ (zB (by simpa [I.plain] using ak) aq)
    ·rfl
theorem I.HV : ∀ (q : List Nat) (d e : I), d.plain = true → I.sub q d = some e → e.plain = true := by
 intro q
 induction q with
 | nil => intro d e ak h; simp [I.sub] at h; exact h ▸ ak
 | cons k q ih =>
   intro d e ak h
   cases d <;> first | (simp [I.plain] at ak; done) | (simp [I.sub] at h; done) | skip
   all_goals
    simp only [I.sub] at h
    split at h
    ·rename_i aC x aq; exact ih _ _ (zB (by simpa [I.plain] using ak) aq) h
    ·cases h
theorem D2 {w aP : World} {F : Nat → Prop} : ∀ (q : List Nat) (av : I) (cs : List Value) (S : Nat → Prop) (a : Option (Nat × Nat)) (d : I),
  aB w F av cs S → I.sub q av = some d → (∀ b, S b → aP.heap[b]? = w.heap[b]?) → dy aP q av cs a = dy w q av cs a := by
 intro q
 induction q with
 | nil => intros; rfl
 | cons k q ih =>
   have fields : ∀ (aC : List I) (cs : List Value) (S : Nat → Prop) (a : Option (Nat × Nat)) (x d : I), bm w F aC cs S → aC[k]? = some x → I.sub q x = some d →
     (∀ b, S b → aP.heap[b]? = w.heap[b]?) →
     dy aP q x ((cs.drop (I.eD (aC.take k))).take x.wd) (a.map fun l => (l.1, l.2 + I.eD (aC.take k))) = dy w q x ((cs.drop (I.eD (aC.take k))).take x.wd) (a.map fun l => (l.1, l.2 + I.eD (aC.take k))) := by
    intro aC cs S a x d h aq ak bS
    obtain ⟨cH, gp, cI, cy, kf, rfl, h8, gT, hs, h9, hk, ma⟩ := bm.pick aC cs S k x h aq
    rw [tP cH gp cI _ _ h8 (aB.length _ _ _ hk)]
    exact ih x gp kf _ d hk ak (fun b ad => bS b (hs _ ad))
   intro av cs S a d h ak bS
   cases av with
   | agg aC =>
     simp only [I.sub] at ak
     split at ak
     ·rename_i x aq
      rw [aB] at h
      simp only [dy, aq]
      exact fields aC cs S a x d h aq ak bS
     ·cases ak
   | tuple aC =>
     simp only [I.sub] at ak
     split at ak
     ·rename_i x aq
      rw [aB] at h
      simp only [dy, aq]
      exact fields aC cs S a x d h aq ak bS
     ·cases ak
   | ar sz xs =>
     simp only [I.sub] at ak
     split at ak
     ·rename_i x aq
      rw [aB] at h
      rcases h with ⟨rfl, _, rfl⟩ | ⟨b, cap, cur, e, fr, ek, rfl, ai, aN, bk, cc, cF, ct, fC, ir, hE, kA⟩
      ·simp at aq
      ·obtain ⟨cH, gp, cI, cy, kf, p, h8, gT, hs, h9, hk, ma⟩ := bm.pick xs _ ek k x ir aq
       have hl := aB.length _ _ _ hk
       have PC : k < xs.length := (List.getElem?_eq_some_iff.1 aq).1
       have wB : x.wd = sz := fC x (List.mem_of_getElem? aq)
       have cl : I.eD (xs.take k) = k * sz := by
        rw [rT _ (fun d ak => fC d (List.mem_of_mem_take ak))]
        rw [List.length_take, Nat.min_eq_left (by omega)]
       obtain ⟨pP, kY⟩ : ∃ pP, cur.toList = cH ++ (gp ++ (cI ++ pP)) := by
        refine ⟨cur.toList.drop (xs.length * sz), ?_⟩
        have := (List.take_append_drop (xs.length * sz) cur.toList).symm
        rw [p] at this
        simpa using this
       have jI : mQ w b (k * sz) sz = gp := by
        have := tR aN kY
        rwa [h8, cl, hl, wB] at this
       have D3 : mQ aP b (k * sz) sz = gp := by
        have := tR ((bS b ai).trans aN) kY
        rwa [h8, cl, hl, wB] at this
       simp only [dy, aq, jI, D3]
       exact ih x gp kf _ d hk ak (fun c ay => bS c (hE _ (hs _ ay)))
     ·cases ak
   | bd x =>
     cases k with
     | succ k => simp [I.sub] at ak
     | zero =>
       simp only [I.sub] at ak
       rw [aB] at h
       obtain ⟨b, cur, e, fr, ek, rfl, ai, aN, bk, cc, cF, ct⟩ := h
       have hl := aB.length _ _ _ cc
       have jI : mQ w b 0 x.wd = cur.toList := by
        have := tR (l := []) (m := cur.toList) (r := []) aN (by simp)
        rwa [hl] at this
       have D3 : mQ aP b 0 x.wd = cur.toList := by
        have := tR (l := []) (m := cur.toList) (r := []) ((bS b ai).trans aN) (by simp)
        rwa [hl] at this
       simp only [dy, jI, D3]
       exact ih x cur.toList ek _ d cc ak (fun c ay => bS c (cF _ ay))
   | _ => simp [I.sub] at ak
def h_ : Value → List Value
 | .agg cs => cs.toList
 | v => [v]
def c1 : Value → List Value
 | .tuple vs => vs.toList.flatMap h_
 | v => h_ v
def iy : I → Value → Prop
 | .agg _, v => ∃ arr, v = .agg arr
 | _, v => Value.g5 v = true
def eI : I → Value → Prop
 | .tuple ds, v => ∃ arr : Array Value, v = .tuple arr ∧ arr.size = ds.length ∧ ∀ (k : Nat) (d : I) (x : Value), ds[k]? = some d → arr[k]? = some x → iy d x ∧ (∀ vs, d ≠ .tuple vs) ∧ (h_ x).length = d.wd
 | d, v => iy d v
abbrev ax := Nat → I
mutual
def aY (w : World) (F : Nat → Prop) (s : ax) (aF : Nat → Value) : I → Value → (Nat → Prop) → Prop
 | .hole, _, _ => True
 | .h x q, v, _ => ∀ d, I.sub q (s x) = some d → d.plain = false → ∃ c_ a, dy w q (s x) (c1 (aF x)) none = some (d, c_, a) ∧ c1 v = c_ ∧ eI d v
 | .aA x q, v, _ => ∀ d, I.sub q (s x) = some d → I.fL q (s x) = true → ∃ c_ b o, dy w q (s x) (c1 (aF x)) none = some (d, c_, some (b, o)) ∧ v = .pointer (some ⟨b, o, none⟩)
 | .ad x k, v, _ => (s x).plain = false → ∃ b cur e fr, v = .pointer (some ⟨b, k, none⟩) ∧ F b ∧ w.heap[b]? = some (.cells cur e fr) ∧ cur.toList = c1 (aF x)
 | .fn f cap, v, _ => ∃ arr : Array Value, v = .func (.func f) #[] arr ∧ e2 w F s aF cap arr.toList
 | .bool b, v, S => eI (.bool b) v ∧ aB w F (.bool b) (c1 v) S
 | .fo, v, S => eI .fo v ∧ aB w F .fo (c1 v) S
 | .int k n, v, S => eI (.int k n) v ∧ aB w F (.int k n) (c1 v) S
 | .str x, v, S => eI (.str x) v ∧ aB w F (.str x) (c1 v) S
 | .dI, v, S => eI .dI v ∧ aB w F .dI (c1 v) S
 | .bu, v, S => eI .bu v ∧ aB w F .bu (c1 v) S
 | .slice xs, v, S => eI (.slice xs) v ∧ aB w F (.slice xs) (c1 v) S
 | .ar sz xs, v, S => eI (.ar sz xs) v ∧ aB w F (.ar sz xs) (c1 v) S
 | .ref d, v, S => eI (.ref d) v ∧ aB w F (.ref d) (c1 v) S
 | .bd d, v, S => eI (.bd d) v ∧ aB w F (.bd d) (c1 v) S
 | .agg d, v, S => eI (.agg d) v ∧ aB w F (.agg d) (c1 v) S
 | .tuple d, v, S => eI (.tuple d) v ∧ aB w F (.tuple d) (c1 v) S
def e2 (w : World) (F : Nat → Prop) (s : ax) (aF : Nat → Value) : List I → List Value → Prop
 | [], vs => vs = []
 | d :: ds, vs => ∃ v kh, vs = v :: kh ∧ aY w F s aF d v (fun _ => False) ∧ e2 w F s aF ds kh
end
def I.tree : I → Bool
 | .hole => false
 | .h _ _ => false
 | .aA _ _ => false
 | .ad _ _ => false
 | .fn _ _ => false
 | _ => true
theorem aY.c9 {w : World} {F : Nat → Prop} {s : ax} {aF : Nat → Value} {d : I} {v : Value} {S : Nat → Prop} (bs : d.tree = true) :
  aY w F s aF d v S ↔ (eI d v ∧ aB w F d (c1 v) S) := by
 cases d <;> first | (simp [I.tree] at bs; done) | rw [aY]
theorem iz {q : List Nat} {av d : I} (h : I.sub q av = some d) (aA : d.plain = false ∨ I.fL q av = true) : av.tree = true := by
 cases q with
 | nil =>
   simp [I.sub] at h; subst h
   rcases aA with aA | aA
   ·cases av <;> first | rfl | (simp [I.plain] at aA)
   ·simp [I.fL] at aA
 | cons k q => cases av <;> first | rfl | (simp [I.sub] at h)
theorem D4 {d : I} (h : d.plain = false) : d.tree = true := iz (q := []) (by simp only [I.sub]) (.inl h)
theorem aY.frame {w aP : World} {F b9 : Nat → Prop} {s : ax} {aF : Nat → Value} {Sx : Nat → Nat → Prop} (bH : ∀ b, F b → aP.heap[b]? = w.heap[b]?) (HW : ∀ b, F b → b9 b)
  (bS : ∀ x b, Sx x b → aP.heap[b]? = w.heap[b]?) (nu : ∀ x, aY w F s aF (s x) (aF x) (Sx x)) :
  ∀ (d : I) (v : Value) (S : Nat → Prop), (∀ b, S b → aP.heap[b]? = w.heap[b]?) → aY w F s aF d v S → aY aP b9 s aF d v S := by
 have k1 : ∀ (x : Nat) (q : List Nat) (d : I), I.sub q (s x) = some d → (d.plain = false ∨ I.fL q (s x) = true) → dy aP q (s x) (c1 (aF x)) none = dy w q (s x) (c1 (aF x)) none := by
  intro x q d ak aA
  have bs := iz ak aA
  have := nu x
  rw [aY.c9 bs] at this
  exact D2 q _ _ (Sx x) none d this.2 ak (bS x)
 have rU : ∀ (d : I) (v : Value) (S : Nat → Prop), d.tree = true → (∀ b, S b → aP.heap[b]? = w.heap[b]?) → aY w F s aF d v S → aY aP b9 s aF d v S := by
  intro d v S bs rV h
  rw [aY.c9 bs] at h ⊢
  exact ⟨h.1, aB.mono HW _ _ _ _ (fun _ h => h) (aB.frame bH _ _ _ rV h.2)⟩
 have step : ∀ n, (∀ (d : I) (v : Value) (S : Nat → Prop), SizeOf.sizeOf d ≤ n → (∀ b, S b → aP.heap[b]? = w.heap[b]?) → aY w F s aF d v S → aY aP b9 s aF d v S) ∧
   (∀ (ds : List I) (vs : List Value), SizeOf.sizeOf ds ≤ n → e2 w F s aF ds vs → e2 aP b9 s aF ds vs) := by
  intro n
  induction n with
  | zero =>
    refine ⟨fun d v S bY => ?_, fun ds vs bY => ?_⟩
    ·cases d <;> simp at bY <;> omega
    ·cases ds <;> simp at bY <;> omega
  | succ n ih =>
    refine ⟨fun d v S bY rV h => ?_, fun ds vs bY h => ?_⟩
    ·cases d with
     | hole => rw [aY]; trivial
     | h x q =>
       rw [aY] at h ⊢
       intro d ak aA
       rw [k1 x q d ak (.inl aA)]
       exact h d ak aA
     | aA x q =>
       rw [aY] at h ⊢
       intro d ak aA
       rw [k1 x q d ak (.inr aA)]
       exact h d ak aA
     | ad x k =>
       rw [aY] at h ⊢
       intro aA
       obtain ⟨b, cur, e, fr, af, ai, aN, bk⟩ := h aA
       exact ⟨b, cur, e, fr, af, HW b ai, (bH b ai).trans aN, bk⟩
     | fn f cap =>
       rw [aY] at h ⊢
       obtain ⟨arr, rfl, ay⟩ := h
       exact ⟨arr, rfl, ih.2 _ _ (by simp at bY; omega) ay⟩
     | _ => exact rU _ _ _ rfl rV h
    ·cases ds with
     | nil => rw [e2] at h ⊢; exact h
     | cons d ds =>
       rw [e2] at h ⊢
       obtain ⟨v, kh, rfl, af, ai⟩ := h
       simp at bY
       exact ⟨v, kh, rfl, ih.1 _ _ _ (by omega) (fun _ h => h.elim) af, ih.2 _ _ (by omega) ai⟩
 intro d v S rV h
 exact (step (SizeOf.sizeOf d)).1 d v S (Nat.le_refl _) rV h
mutual
def cW (x : Nat) : I → I
 | .h y q => if y = x then .hole else .h y q
 | .aA y q => if y = x then .hole else .aA y q
 | .ad y k => if y = x then .hole else .ad y k
 | .fn f cap => .fn f (i6 x cap)
 | d => d
def i6 (x : Nat) : List I → List I
 | [] => []
 | d :: ds => cW x d :: i6 x ds
end
mutual
def cm (x : Nat) : I → I
 | .h y q => if y = x then (if q = [] then .h y q else .hole) else .h y q
 | .aA y q => if y = x then .hole else .aA y q
 | .fn f cap => .fn f (iA x cap)
 | d => d
def iA (x : Nat) : List I → List I
 | [] => []
 | d :: ds => cm x d :: iA x ds
end
def dz {α : Type} (f : Nat → α) (t : Nat) (v : α) : Nat → α := fun u => if u = t then v else f u
def lK (t : Nat) (s : ax) : ax := fun u => cW t (s u)
def iH (t : Nat) (s : ax) : ax := fun u => cm t (s u)
theorem mc {α : Type} (f : Nat → α) (t : Nat) (v : α) : dz f t v t = v := by simp [dz]
theorem jB {α : Type} (f : Nat → α) {t u : Nat} (v : α) (h : u ≠ t) : dz f t v u = f u := by simp [dz, h]
theorem PD {t : Nat} {d : I} (h : d.tree = true) : cW t d = d := by cases d <;> first | rfl | (simp [I.tree] at h)
theorem D5 {t : Nat} {d : I} (h : d.tree = true) : cm t d = d := by cases d <;> first | rfl | (simp [I.tree] at h)
theorem PE {t : Nat} {d : I} (h : (cW t d).tree = true) : d.tree = true ∧ cW t d = d := by
 cases d <;> first | exact ⟨rfl, rfl⟩ | (simp only [cW] at h; first | (split at h <;> simp [I.tree] at h) | simp [I.tree] at h)
theorem D6 {t : Nat} {d : I} (h : (cm t d).tree = true) : d.tree = true ∧ cm t d = d := by
 cases d <;> first | exact ⟨rfl, rfl⟩ | (simp only [cm] at h; first | (split at h <;> (try split at h) <;> simp [I.tree] at h) | simp [I.tree] at h)
section
variable {w : World} {F : Nat → Prop} {s az : ax} {aF ia : Nat → Value} {t : Nat}
theorem aY.cW (ht : ∀ x, x ≠ t → (az x).tree = true → az x = s x ∧ ia x = aF x) : ∀ (n : Nat),
  (∀ (d : I) (v : Value) (S : Nat → Prop), SizeOf.sizeOf d ≤ n → aY w F s aF d v S → aY w F az ia (c5.cW t d) v S) ∧
  (∀ (ds : List I) (vs : List Value), SizeOf.sizeOf ds ≤ n → e2 w F s aF ds vs → e2 w F az ia (i6 t ds) vs) := by
 intro n
 induction n with
 | zero =>
   refine ⟨fun d v S bY => ?_, fun ds vs bY => ?_⟩
   ·cases d <;> simp at bY <;> omega
   ·cases ds <;> simp at bY <;> omega
 | succ n ih =>
   refine ⟨fun d v S bY h => ?_, fun ds vs bY h => ?_⟩
   ·cases d with
    | hole => rw [c5.cW.eq_def]; simp only; rw [aY]; trivial
    | h x q =>
      simp only [c5.cW]
      split
      ·rw [aY]; trivial
      ·rename_i aq
       rw [aY] at h ⊢
       intro d ak aA
       obtain ⟨a1, bh⟩ := ht x aq (iz ak (.inl aA))
       rw [a1, bh]; rw [a1] at ak
       exact h d ak aA
    | aA x q =>
      simp only [c5.cW]
      split
      ·rw [aY]; trivial
      ·rename_i aq
       rw [aY] at h ⊢
       intro d ak aA
       obtain ⟨a1, bh⟩ := ht x aq (iz ak (.inr aA))
       rw [a1, bh]; rw [a1] at ak aA
       exact h d ak aA
    | ad x k =>
      simp only [c5.cW]
      split
      ·rw [aY]; trivial
      ·rename_i aq
       rw [aY] at h ⊢
       intro aA
       obtain ⟨a1, bh⟩ := ht x aq (D4 aA)
       rw [bh]; rw [a1] at aA
       exact h aA
    | fn f cap =>
      simp only [c5.cW]
      rw [aY] at h ⊢
      obtain ⟨arr, rfl, ay⟩ := h
      exact ⟨arr, rfl, ih.2 _ _ (by simp at bY; omega) ay⟩
    | _ =>
      rw [PD (by rfl)]
      exact (aY.c9 (by rfl)).2 ((aY.c9 (by rfl)).1 h)
   ·cases ds with
    | nil => rw [i6, e2]; rw [e2] at h; exact h
    | cons d ds =>
      rw [i6, e2]; rw [e2] at h
      obtain ⟨v, kh, rfl, af, ai⟩ := h
      simp at bY
      exact ⟨v, kh, rfl, ih.1 _ _ _ (by omega) af, ih.2 _ _ (by omega) ai⟩
theorem aY.cm {aP : World} (ht : ∀ x, x ≠ t → (az x).tree = true → az x = s x ∧ ia x = aF x) (kC : ia t = aF t) (lp : (az t).plain = false → (s t).plain = false ∧ ∀ v, eI (s t) v → eI (az t) v)
  (k1 : ∀ x q d, x ≠ t → I.sub q (s x) = some d → (d.plain = false ∨ I.fL q (s x) = true) → dy aP q (s x) (c1 (aF x)) none = dy w q (s x) (c1 (aF x)) none)
  (bH : ∀ b, F b → aP.heap[b]? = w.heap[b]?) : ∀ (n : Nat),
  (∀ (d : I) (v : Value) (S : Nat → Prop), SizeOf.sizeOf d ≤ n → (∀ b, S b → aP.heap[b]? = w.heap[b]?) → aY w F s aF d v S → aY aP F az ia (c5.cm t d) v S) ∧
  (∀ (ds : List I) (vs : List Value), SizeOf.sizeOf ds ≤ n → e2 w F s aF ds vs → e2 aP F az ia (iA t ds) vs) := by
 intro n
 induction n with
 | zero =>
   refine ⟨fun d v S bY => ?_, fun ds vs bY => ?_⟩
   ·cases d <;> simp at bY <;> omega
   ·cases ds <;> simp at bY <;> omega
 | succ n ih =>
   refine ⟨fun d v S bY rV h => ?_, fun ds vs bY h => ?_⟩
   ·cases d with
    | hole => rw [c5.cm.eq_def]; simp only; rw [aY]; trivial
    | h x q =>
      simp only [c5.cm]
      split
      ·rename_i aq
       subst aq
       split
       ·rename_i dk
        subst dk
        rw [aY] at h ⊢
        intro d ak aA
        simp only [I.sub, Option.some.injEq] at ak
        subst ak
        obtain ⟨df, ea⟩ := lp aA
        obtain ⟨c_, a, bo, bR, cJ⟩ := h (s x) rfl df
        simp only [dy, Option.some.injEq, Prod.mk.injEq] at bo
        obtain ⟨-, bo, axj⟩ := bo
        refine ⟨c1 (ia x), none, rfl, ?_, ea _ cJ⟩
        rw [kC, bR, ← bo]
       ·rw [aY]; trivial
      ·rename_i aq
       rw [aY] at h ⊢
       intro d ak aA
       obtain ⟨a1, bh⟩ := ht x aq (iz ak (.inl aA))
       rw [a1, bh]; rw [a1] at ak
       rw [k1 x q d aq ak (.inl aA)]
       exact h d ak aA
    | aA x q =>
      simp only [c5.cm]
      split
      ·rw [aY]; trivial
      ·rename_i aq
       rw [aY] at h ⊢
       intro d ak aA
       obtain ⟨a1, bh⟩ := ht x aq (iz ak (.inr aA))
       rw [a1, bh]; rw [a1] at ak aA
       rw [k1 x q d aq ak (.inr aA)]
       exact h d ak aA
    | ad x k =>
      simp only [c5.cm]
      rw [aY] at h ⊢
      intro aA
      by_cases aq : x = t
      ·subst aq
       obtain ⟨b, cur, e, fr, af, ai, aN, bk⟩ := h (lp aA).1
       exact ⟨b, cur, e, fr, af, ai, (bH b ai).trans aN, by rw [kC]; exact bk⟩
      ·obtain ⟨a1, bh⟩ := ht x aq (D4 aA)
       rw [a1] at aA
       obtain ⟨b, cur, e, fr, af, ai, aN, bk⟩ := h aA
       exact ⟨b, cur, e, fr, af, ai, (bH b ai).trans aN, by rw [bh]; exact bk⟩
    | fn f cap =>
      simp only [c5.cm]
      rw [aY] at h ⊢
      obtain ⟨arr, rfl, ay⟩ := h
      exact ⟨arr, rfl, ih.2 _ _ (by simp at bY; omega) ay⟩
    | _ =>
      rw [D5 (by rfl)]
      have bM := (aY.c9 (by rfl)).1 h
      exact (aY.c9 (by rfl)).2 ⟨bM.1, aB.frame bH _ _ _ rV bM.2⟩
   ·cases ds with
    | nil => rw [iA, e2]; rw [e2] at h; exact h
    | cons d ds =>
      rw [iA, e2]; rw [e2] at h
      obtain ⟨v, kh, rfl, af, ai⟩ := h
      simp at bY
      exact ⟨v, kh, rfl, ih.1 _ _ _ (by omega) (fun _ h => h.elim) af, ih.2 _ _ (by omega) ai⟩
theorem aY.void (ht : ∀ x, x ≠ t → (az x).tree = true → az x = s x ∧ ia x = aF x) (qI : (az t).plain = true) : ∀ (n : Nat),
  (∀ (d : I) (v : Value) (S : Nat → Prop), SizeOf.sizeOf d ≤ n → aY w F s aF d v S → aY w F az ia d v S) ∧
  (∀ (ds : List I) (vs : List Value), SizeOf.sizeOf ds ≤ n → e2 w F s aF ds vs → e2 w F az ia ds vs) := by
 intro n
 induction n with
 | zero =>
   refine ⟨fun d v S bY => ?_, fun ds vs bY => ?_⟩
   ·cases d <;> simp at bY <;> omega
   ·cases ds <;> simp at bY <;> omega
 | succ n ih =>
   refine ⟨fun d v S bY h => ?_, fun ds vs bY h => ?_⟩
   ·cases d with
    | hole => rw [aY]; trivial
    | h x q =>
      rw [aY] at h ⊢
      intro d ak aA
      by_cases aq : x = t
      ·subst aq
       rw [I.HV _ _ _ qI ak] at aA; cases aA
      ·obtain ⟨a1, bh⟩ := ht x aq (iz ak (.inl aA))
       rw [a1, bh]; rw [a1] at ak
       exact h d ak aA
    | aA x q =>
      rw [aY] at h ⊢
      intro d ak aA
      by_cases aq : x = t
      ·subst aq
       rw [I.HU _ _ qI] at aA; cases aA
      ·obtain ⟨a1, bh⟩ := ht x aq (iz ak (.inr aA))
       rw [a1, bh]; rw [a1] at ak aA
       exact h d ak aA
    | ad x k =>
      rw [aY] at h ⊢
      intro aA
      by_cases aq : x = t
      ·subst aq; rw [qI] at aA; cases aA
      ·obtain ⟨a1, bh⟩ := ht x aq (D4 aA)
       rw [bh]; rw [a1] at aA
       exact h aA
    | fn f cap =>
      rw [aY] at h ⊢
      obtain ⟨arr, rfl, ay⟩ := h
      exact ⟨arr, rfl, ih.2 _ _ (by simp at bY; omega) ay⟩
    | _ => exact (aY.c9 (by rfl)).2 ((aY.c9 (by rfl)).1 h)
   ·cases ds with
    | nil => rw [e2]; rw [e2] at h; exact h
    | cons d ds =>
      rw [e2]; rw [e2] at h
      obtain ⟨v, kh, rfl, af, ai⟩ := h
      simp at bY
      exact ⟨v, kh, rfl, ih.1 _ _ _ (by omega) af, ih.2 _ _ (by omega) ai⟩
end
structure bZ (w0 : World) (F0 X F : Nat → Prop) (S : Nat → Nat → Prop) (s : ax) (aF : Nat → Value) (w : World) : Prop where
 hv : ∀ b, F0 b → F b
 hQ : ∀ b, F b → F0 b ∨ X b ∨ w0.heap.size ≤ b
 gh : ∀ b, F b → b < w.heap.size
 fc : ∀ t b, S t b → b < w.heap.size
 gr : ∀ t b, S t b → ¬ F b
 gi : ∀ t u b, t ≠ u → S t b → ¬ S u b
 ek : ∀ t b, S t b → X b ∨ w0.heap.size ≤ b
 ee : ∀ t, aY w F s aF (s t) (aF t) (S t)
 old : ∀ b, b < w0.heap.size → ¬ X b → w.heap[b]? = w0.heap[b]?
 size : w0.heap.size ≤ w.heap.size
 os : w.os = w0.os
 tape : w.tape = w0.tape
 output : w.output = w0.output
section
variable {w0 w aP : World} {F0 X F : Nat → Prop} {S : Nat → Nat → Prop} {s : ax} {aF : Nat → Value}
theorem bZ.grow (h : bZ w0 F0 X F S s aF w) (ad : ∀ b, b < w.heap.size → aP.heap[b]? = w.heap[b]?) (ah : w.heap.size ≤ aP.heap.size)
  (af : aP.os = w.os) (ai : aP.tape = w.tape) (aN : aP.output = w.output) : bZ w0 F0 X F S s aF aP where
 hv := h.hv
 hQ := h.hQ
 gh := fun b bH => Nat.lt_of_lt_of_le (h.gh b bH) ah
 fc := fun t b bH => Nat.lt_of_lt_of_le (h.fc t b bH) ah
 gr := h.gr
 gi := h.gi
 ek := h.ek
 ee := fun t => aY.frame (Sx := S) (fun b bH => ad b (h.gh b bH)) (fun _ h => h) (fun x b bS => ad b (h.fc x b bS)) h.ee _ _ _ (fun b bS => ad b (h.fc t b bS)) (h.ee t)
 old := fun b fi ki => (ad b (Nat.lt_of_lt_of_le fi h.size)).trans (h.old b fi ki)
 size := Nat.le_trans h.size ah
 os := af.trans h.os
 tape := ai.trans h.tape
 output := aN.trans h.output
def gy (S : Nat → Nat → Prop) (t : Nat) (Sn : Nat → Prop) : Nat → Nat → Prop := fun u b => if u = t then Sn b else S u b
theorem zC (S : Nat → Nat → Prop) (t : Nat) (Sn : Nat → Prop) : gy S t Sn t = Sn := by funext b; simp [gy]
theorem zD (S : Nat → Nat → Prop) {t u : Nat} (Sn : Nat → Prop) (h : u ≠ t) : gy S t Sn u = S u := by funext b; simp [gy, h]
theorem bZ.tS (h : bZ w0 F0 X F S s aF w) {t : Nat} {d : I} {v : Value} (aA : d.plain = true) (ak : aY w F s aF d v (fun _ => False)) :
  bZ w0 F0 X F (gy S t (fun _ => False)) (dz s t d) (dz aF t v) w where
 hv := h.hv
 hQ := h.hQ
 gh := h.gh
 fc := fun u b ad => by simp only [gy] at ad; split at ad; exact ad.elim; exact h.fc u b ad
 gr := fun u b ad => by simp only [gy] at ad; split at ad; exact ad.elim; exact h.gr u b ad
 gi := fun u x b dB ad aq => by
  simp only [gy] at ad aq
  split at ad
  ·exact ad.elim
  ·split at aq
   ·exact aq.elim
   ·exact h.gi u x b dB ad aq
 ek := fun u b ad => by simp only [gy] at ad; split at ad; exact ad.elim; exact h.ek u b ad
 ee := fun u => by
  have ht : ∀ x, x ≠ t → (dz s t d x).tree = true → dz s t d x = s x ∧ dz aF t v x = aF x := fun x aq _ => ⟨jB _ _ aq, jB _ _ aq⟩
  have qI : (dz s t d t).plain = true := by rw [mc]; exact aA
  by_cases hu : u = t
  ·subst hu
   rw [mc, mc, zC]
   exact (aY.void ht qI _).1 _ _ _ (Nat.le_refl _) ak
  ·rw [jB _ _ hu, jB _ _ hu, zD _ _ hu]
   exact (aY.void ht qI _).1 _ _ _ (Nat.le_refl _) (h.ee u)
 old := h.old
 size := h.size
 os := h.os
 tape := h.tape
 output := h.output
theorem bZ.HX (h : bZ w0 F0 X F S s aF w) {t : Nat} {d : I} {v : Value} {Sn : Nat → Prop} (ak : d.tree = true) (ah : eI d v) (aR : aB w F d (c1 v) Sn)
  (fi : ∀ b, Sn b → b < w.heap.size) (bH : ∀ b, Sn b → ¬ F b) (bS : ∀ u b, u ≠ t → Sn b → ¬ S u b) (bc : ∀ b, Sn b → X b ∨ w0.heap.size ≤ b) :
  bZ w0 F0 X F (gy S t Sn) (dz (lK t s) t d) (dz aF t v) w where
 hv := h.hv
 hQ := h.hQ
 gh := h.gh
 fc := fun u b ad => by simp only [gy] at ad; split at ad; exact fi b ad; exact h.fc u b ad
 gr := fun u b ad => by simp only [gy] at ad; split at ad; exact bH b ad; exact h.gr u b ad
 gi := fun u x b dB ad aq => by
  simp only [gy] at ad aq
  split at ad
  ·rename_i hu
   rw [if_neg (fun e => dB (hu.trans e.symm))] at aq
   exact bS x b (fun e => dB (hu.trans e.symm)) ad aq
  ·rename_i hu
   split at aq
   ·exact bS u b hu aq ad
   ·exact h.gi u x b dB ad aq
 ek := fun u b ad => by simp only [gy] at ad; split at ad; exact bc b ad; exact h.ek u b ad
 ee := fun u => by
  have ht : ∀ x, x ≠ t → (dz (lK t s) t d x).tree = true → dz (lK t s) t d x = s x ∧ dz aF t v x = aF x := fun x aq bs => by
   rw [jB _ _ aq] at bs ⊢
   exact ⟨(PE bs).2, jB _ _ aq⟩
  by_cases hu : u = t
  ·subst hu
   rw [mc, mc, zC]
   exact (aY.c9 ak).2 ⟨ah, aR⟩
  ·rw [jB _ _ hu, jB _ _ hu, zD _ _ hu]
   exact (aY.cW ht _).1 _ _ _ (Nat.le_refl _) (h.ee u)
 old := h.old
 size := h.size
 os := h.os
 tape := h.tape
 output := h.output
theorem rW (k : Nat) (q : List Nat) (bL x : I) : (∃ aC gs, x = .agg aC ∧ I.put (k :: q) bL x = .agg gs) ∨ (∃ aC gs, x = .tuple aC ∧ I.put (k :: q) bL x = .tuple gs) ∨
  (∃ sz xs cp, x = .ar sz xs ∧ I.put (k :: q) bL x = .ar sz cp) ∨ (∃ y z, x = .bd y ∧ I.put (k :: q) bL x = .bd z) ∨ I.put (k :: q) bL x = x := by
 cases x with
 | agg aC => simp only [I.put]; split <;> exact .inl ⟨_, _, rfl, rfl⟩
 | tuple aC => simp only [I.put]; split <;> exact .inr (.inl ⟨_, _, rfl, rfl⟩)
 | ar sz aC => simp only [I.put]; split <;> exact .inr (.inr (.inl ⟨_, _, _, rfl, rfl⟩))
 | bd y => cases k <;> exact .inr (.inr (.inr (.inl ⟨_, _, rfl, rfl⟩)))
 | _ => exact .inr (.inr (.inr (.inr rfl)))
theorem HY {k : Nat} {q : List Nat} {bL x : I} {v : Value} (h : iy x v) : iy (I.put (k :: q) bL x) v := by
 rcases rW k q bL x with ⟨aC, gs, rfl, e⟩ | ⟨aC, gs, rfl, e⟩ | ⟨sz, xs, cp, rfl, e⟩ | ⟨y, z, rfl, e⟩ | e <;> rw [e] <;> exact h
theorem HZ {k : Nat} {q : List Nat} {bL x : I} (h : ∀ vs, x ≠ .tuple vs) : ∀ vs, I.put (k :: q) bL x ≠ .tuple vs := by
 rcases rW k q bL x with ⟨aC, gs, rfl, e⟩ | ⟨aC, gs, rfl, e⟩ | ⟨sz, xs, cp, rfl, e⟩ | ⟨y, z, rfl, e⟩ | e <;> rw [e] <;> first | exact h | (intro vs bM; cases bM; done) | exact (h _ rfl).elim
theorem D7 {k : Nat} {q : List Nat} {d bL av : I} {v : Value} (h : eI av v) (ak : I.sub (k :: q) av = some d) (af : ∀ v, iy d v → iy bL v) (ai : (∀ vs, d ≠ .tuple vs) → ∀ vs, bL ≠ .tuple vs) (aN : bL.wd = d.wd) :
  eI (I.put (k :: q) bL av) v := by
 cases av with
 | tuple aC =>
   simp only [I.sub] at ak
   split at ak
   ·rename_i x aq
    simp only [I.put, aq]
    simp only [eI] at h ⊢
    obtain ⟨arr, rfl, bY, nu⟩ := h
    refine ⟨arr, rfl, by simpa using bY, fun j e y he bD => ?_⟩
    rw [List.getElem?_set] at he
    split at he
    ·rename_i wE
     subst wE
     split at he
     ·simp only [Option.some.injEq] at he
      subst he
      obtain ⟨bo, bR, cJ⟩ := nu k x y aq bD
      refine ⟨?_, ?_, cJ.trans (I.tQ q x d bL ak aN).symm⟩
      ·cases q with
       | nil =>
         simp only [I.sub, Option.some.injEq] at ak
         subst ak
         exact af _ bo
       | cons cB q => exact HY bo
      ·cases q with
       | nil =>
         simp only [I.sub, Option.some.injEq] at ak
         subst ak
         exact ai bR
       | cons cB q => exact HZ bR
     ·cases he
    ·exact nu j e y he bD
   ·cases ak
 | agg aC => simp only [I.put]; split <;> exact h
 | ar sz aC => simp only [I.put]; split <;> exact h
 | bd y => cases k <;> exact h
 | _ => exact h
theorem D8 {d : I} {v : Value} (h : iy d v) : iy d.dq v := by cases d <;> exact h
theorem H0 {s : ax} {x : Nat} {q : List Nat} {d : I} (ak : I.sub q (s x) = some d) (aA : d.plain = false) :
  (dz (iH x s) x (I.put q d.dq (s x)) x).plain = false → (s x).plain = false ∧ ∀ v, eI (s x) v → eI (dz (iH x s) x (I.put q d.dq (s x)) x) v := by
  rw [mc]
  intro gz
  cases q with
  | nil =>
    exfalso
    have : ∀ d : I, d.dq.plain = true := by
     intro d
     have key : ∀ n, (∀ d : I, SizeOf.sizeOf d ≤ n → d.dq.plain = true) ∧ (∀ ds : List I, SizeOf.sizeOf ds ≤ n → I.dO (I.kZ ds) = true) := by
      intro n
      induction n with
      | zero => exact ⟨fun d bY => by cases d <;> simp at bY <;> omega, fun ds bY => by cases ds <;> simp at bY <;> omega⟩
      | succ n ih =>
        refine ⟨fun d bY => ?_, fun ds bY => ?_⟩
        ·cases d with
         | agg aC => simp only [I.dq, I.plain]; exact ih.2 _ (by simp at bY; omega)
         | tuple aC => simp only [I.dq, I.plain]; exact ih.2 _ (by simp at bY; omega)
         | _ => rfl
        ·cases ds with
         | nil => rfl
         | cons d ds =>
           simp at bY
           simp only [I.kZ, I.dO, Bool.and_eq_true]
           exact ⟨ih.1 _ (by omega), ih.2 _ (by omega)⟩
     exact (key _).1 d (Nat.le_refl _)
    simp only [I.put] at gz
    rw [this] at gz
    cases gz
  | cons k q =>
    refine ⟨?_, fun v aR => D7 aR ak (fun v h => D8 h) (fun h vs e => ?_) (I.qH d)⟩
    ·cases D9 : (s x).plain with
     | false => rfl
     | true => rw [I.HV _ _ _ D9 ak] at aA; cases aA
    ·cases d <;> first | (exact h _ rfl) | (simp [I.dq] at e)
theorem bZ.take (h : bZ w0 F0 X F S s aF w) {x : Nat} {q : List Nat} {d : I} (ak : I.sub q (s x) = some d) (aA : d.plain = false) :
  ∃ (Sn hj : Nat → Prop) (c_ : List Value) (a : Option (Nat × Nat)), bZ w0 F0 X F (gy S x Sn) (dz (iH x s) x (I.put q d.dq (s x))) aF w ∧
    dy w q (s x) (c1 (aF x)) none = some (d, c_, a) ∧ aB w F d c_ hj ∧ (∀ b, hj b → S x b) ∧ (∀ b, Sn b → S x b) ∧ (∀ b, hj b → ¬ Sn b) ∧
    (∀ (bL : I) (v : Value) (a7 : Nat → Prop), aY w F s aF bL v a7 → aY w F (dz (iH x s) x (I.put q d.dq (s x))) aF (c5.cm x bL) v a7) := by
 have bs := iz ak (.inl aA)
 have aq := h.ee x
 rw [aY.c9 bs] at aq
 obtain ⟨c_, a, e4, hj, hG, bo, bR, cJ, eE, fK⟩ := ctx q (s x) (c1 (aF x)) (S x) none d aq.2 ak
 have jY : aB w F (I.put q d.dq (s x)) (c1 (aF x)) e4 := by
  have k2 : aB w F d.dq c_ (fun _ => False) := aB.dq _ _ _ _ eE
  have qJ : ∀ b, (e4 b ∨ False) → e4 b := fun b h => h.elim id False.elim
  rcases fK with ⟨l, r, a1, bh, a8⟩ | ⟨b, cur, e, fr, l, r, a1, bh, a8, c6, da, cv⟩
  ·have := a8 w _ c_ _ (fun _ _ => rfl) (fun _ _ => rfl) (I.qH d) k2 (fun _ h => h.elim)
   rw [← a1] at this
   exact aB.mono (fun _ h => h) _ _ _ _ qJ this
  ·have := cv w _ c_ _ (fun _ _ => rfl) (fun _ _ _ => rfl) (by rw [a8, ← da]) (I.qH d) k2 (fun _ h => h.elim)
   exact aB.mono (fun _ h => h) _ _ _ _ qJ this
 have PF : eI (I.put q d.dq (s x)) (aF x) ∧ (I.put q d.dq (s x)).tree = true ∨ I.put q d.dq (s x) = .hole := by
  cases q with
  | nil =>
    simp only [I.sub, Option.some.injEq] at ak
    subst ak
    simp only [I.put]
    cases ah : s x with
    | ar sz xs => right; rfl
    | bd y => right; rfl
    | agg aC => left; rw [ah] at aq; exact ⟨aq.1, rfl⟩
    | tuple aC =>
      left
      rw [ah] at aq
      refine ⟨?_, rfl⟩
      simp only [eI, I.dq] at aq ⊢
      obtain ⟨arr, e, bY, nu⟩ := aq.1
      have hl : ∀ aC : List I, I.kZ aC = aC.map I.dq := by
       intro aC; induction aC with
       | nil => rfl
       | cons a aC ih => simp [I.kZ, ih]
      refine ⟨arr, e, by rw [hl]; simpa using bY, fun k fv y he bD => ?_⟩
      rw [hl, List.getElem?_map] at he
      cases aD : aC[k]? with
      | none => rw [aD] at he; cases he
      | some z =>
        rw [aD] at he
        simp only [Option.map_some, Option.some.injEq] at he
        subst he
        obtain ⟨bo, bR, cJ⟩ := nu k z y aD bD
        refine ⟨D8 bo, fun vs e => ?_, cJ.trans (I.qH z).symm⟩
        cases z <;> first | (exact bR _ rfl) | (simp [I.dq] at e)
    | _ => rw [ah] at aA; simp [I.plain] at aA
  | cons k q =>
    left
    refine ⟨D7 aq.1 ak (fun v h => D8 h) (fun h vs e => ?_) (I.qH d), ?_⟩
    ·cases d <;> first | (exact h _ rfl) | (simp [I.dq] at e)
    ·rcases rW k q d.dq (s x) with ⟨aC, gs, a1, e⟩ | ⟨aC, gs, a1, e⟩ | ⟨sz, xs, cp, a1, e⟩ | ⟨y, z, a1, e⟩ | e <;> rw [e] <;> first | rfl | exact bs
 refine ⟨e4, hj, c_, a, ?_, hG, eE, bR, bo, fun b af ai => cJ b ai af, ?_⟩
 rotate_left
 ·have ht : ∀ y, y ≠ x → (dz (iH x s) x (I.put q d.dq (s x)) y).tree = true → dz (iH x s) x (I.put q d.dq (s x)) y = s y ∧ aF y = aF y := fun y bD bs => by
   rw [jB _ _ bD] at bs ⊢
   exact ⟨(D6 bs).2, rfl⟩
  intro bL v a7 gR
  exact (aY.cm ht rfl (H0 ak aA) (fun _ _ _ _ _ _ => rfl) (fun _ _ => rfl) _).1 _ _ _ (Nat.le_refl _) (fun _ _ => rfl) gR
 have ht : ∀ y, y ≠ x → (dz (iH x s) x (I.put q d.dq (s x)) y).tree = true → dz (iH x s) x (I.put q d.dq (s x)) y = s y ∧ aF y = aF y := fun y bD bs => by
  rw [jB _ _ bD] at bs ⊢
  exact ⟨(D6 bs).2, rfl⟩
 have lp := H0 (s := s) (x := x) ak aA
 constructor
 case hv => exact h.hv
 case hQ => exact h.hQ
 case gh => exact h.gh
 case fc => exact fun u b ad => by simp only [gy] at ad; split at ad; exact h.fc x b (bo b ad); exact h.fc u b ad
 case gr => exact fun u b ad => by simp only [gy] at ad; split at ad; exact h.gr x b (bo b ad); exact h.gr u b ad
 case gi =>
  intro u y b dB ad bD
  simp only [gy] at ad bD
  split at ad
  ·rename_i hu
   rw [if_neg (fun e => dB (hu.trans e.symm))] at bD
   exact h.gi x y b (fun e => dB (hu.trans e)) (bo b ad) bD
  ·rename_i hu
   split at bD
   ·exact h.gi u x b hu ad (bo b bD)
   ·exact h.gi u y b dB ad bD
 case ek => exact fun u b ad => by simp only [gy] at ad; split at ad; exact h.ek x b (bo b ad); exact h.ek u b ad
 case ee =>
  intro u
  by_cases hu : u = x
  ·subst hu
   rw [mc, zC]
   rcases PF with ⟨a1, bh⟩ | e
   ·exact (aY.c9 bh).2 ⟨a1, jY⟩
   ·rw [e, aY]; trivial
  ·rw [jB _ _ hu, zD _ _ hu]
   exact (aY.cm ht rfl lp (fun _ _ _ _ _ _ => rfl) (fun _ _ => rfl) _).1 _ _ _ (Nat.le_refl _) (fun _ _ => rfl) (h.ee u)
 case old => exact h.old
 case size => exact h.size
 case os => exact h.os
 case tape => exact h.tape
 case output => exact h.output
theorem bZ.store (h : bZ w0 F0 X F S s aF w) {x : Nat} {q : List Nat} {d bL : I} (ak : I.sub q (s x) = some d) (ay : I.fL q (s x) = true)
  {gq : List Value} {Sn : Nat → Prop} (aR : aB w F bL gq Sn) (mb : bL.wd = d.wd)
  (fi : ∀ b, Sn b → b < w.heap.size) (bH : ∀ b, Sn b → ¬ F b) (bS : ∀ u b, Sn b → ¬ S u b) (bc : ∀ b, Sn b → X b ∨ w0.heap.size ≤ b) :
  ∃ (c_ : List Value) (b : Nat) (l r : List Value) (cur : Array Value) (e : TypeId) (fr : Nat × Nat), dy w q (s x) (c1 (aF x)) none = some (d, c_, some (b, l.length)) ∧
    w.heap[b]? = some (.cells cur e fr) ∧ cur.toList = l ++ (c_ ++ r) ∧ n3 fr cur.size ∧
    ∀ aP, aP.heap[b]? = some (.cells (l ++ (gq ++ r)).toArray e fr) → (∀ c, c ≠ b → aP.heap[c]? = w.heap[c]?) → aP.heap.size = w.heap.size → aP.os = w.os → aP.tape = w.tape → aP.output = w.output →
      ∃ a7, bZ w0 F0 X F a7 (dz (iH x s) x (I.put q bL (s x))) aF aP := by
 have bs := iz ak (.inr ay)
 have aq := h.ee x
 rw [aY.c9 bs] at aq
 obtain ⟨c_, a, e4, hj, hG, bo, bR, cJ, eE, fK⟩ := ctx q (s x) (c1 (aF x)) (S x) none d aq.2 ak
 have PG : Deep w F q (s x) (c1 (aF x)) d c_ a e4 := by
  rcases fK with ⟨l, r, a1, bh, a8⟩ | fK
  ·exfalso
   have nv : ∀ (q : List Nat) (av : I) (cs : List Value) (a0 : Option (Nat × Nat)) (d : I) (c_ : List Value), I.fL q av = true → dy w q av cs a0 = some (d, c_, none) → False := by
    intro q
    induction q with
    | nil => intro av cs a0 d c_ ay; simp [I.fL] at ay
    | cons k q ih =>
      have H2 : ∀ (q : List Nat) (av : I) (cs : List Value) (l : Nat × Nat) (d : I) (c_ : List Value), dy w q av cs (some l) = some (d, c_, none) → False := by
       intro q
       induction q with
       | nil => intro av cs l d c_ h; simp [dy] at h
       | cons k q zE =>
         intro av cs l d c_ h
         cases av with
         | agg aC => rw [dy] at h; split at h; exact zE _ _ _ _ _ h; cases h
         | tuple aC => rw [dy] at h; split at h; exact zE _ _ _ _ _ h; cases h
         | ar sz xs => simp only [dy] at h; split at h; exact zE _ _ _ _ _ h; cases h
         | bd y =>
           cases k with
           | zero => rw [dy.eq_def] at h; simp only at h; split at h; exact zE _ _ _ _ _ h; cases h
           | succ k => rw [show dy w ((k + 1) :: q) (.bd y) cs (some l) = none from rfl] at h; cases h
         | _ => simp [dy] at h
      intro av cs a0 d c_ ay h
      cases av with
      | agg aC =>
        simp only [I.fL] at ay
        split at ay
        ·rename_i y bD
         simp only [dy, bD] at h
         exact ih _ _ _ _ _ ay h
        ·cases ay
      | tuple aC =>
        simp only [I.fL] at ay
        split at ay
        ·rename_i y bD
         simp only [dy, bD] at h
         exact ih _ _ _ _ _ ay h
        ·cases ay
      | ar sz xs => simp only [dy] at h; split at h; exact H2 _ _ _ _ _ _ h; cases h
      | bd y =>
        cases k with
        | zero => rw [dy.eq_def] at h; simp only at h; split at h; exact H2 _ _ _ _ _ _ h; cases h
        | succ k => rw [show dy w ((k + 1) :: q) (.bd y) cs a0 = none from rfl] at h; cases h
      | _ => simp [I.fL] at ay
   simp only [Option.map_none] at bh
   subst bh
   exact nv _ _ _ _ _ _ ay hG
  ·exact fK
 obtain ⟨b, cur, e, fr, l, r, rfl, bh, a8, c6, da, cv⟩ := PG
 refine ⟨c_, b, l, r, cur, e, fr, hG, a8, da, c6, ?_⟩
 intro aP lJ rX eV PH PI wF
 have zF : S x b := bo _ bh
 have tT : ∀ c, F c → aP.heap[c]? = w.heap[c]? := fun c ay => rX c (by rintro rfl; exact h.gr x _ zF ay)
 have axk : gq.length = c_.length := by rw [aB.length _ _ _ aR, aB.length _ _ _ eE, mb]
 have jY := cv aP bL gq Sn tT (fun c _ dB => rX c dB) lJ mb
  (aB.frame tT _ _ _ (fun c ay => rX c (by rintro rfl; exact bS x _ ay zF)) aR) (fun c ay qJ => bS x c ay (bo _ qJ))
 obtain ⟨k, jm, rfl⟩ : ∃ k jm, q = k :: jm := by
  cases q with
  | nil => simp [I.fL] at ay
  | cons k q => exact ⟨k, q, rfl⟩
 have H3 : ∀ v, eI (s x) v → eI (I.put (k :: jm) bL (s x)) v := by
  intro v aR
  rcases rW k jm bL (s x) with ⟨aC, gs, a1, e⟩ | ⟨aC, gs, a1, e⟩ | ⟨sz, xs, cp, a1, e⟩ | ⟨y, z, a1, e⟩ | e
  ·rw [e]; rw [a1] at aR; exact aR
  ·
   rw [a1] at aR ak ay ⊢
   simp only [I.fL] at ay
   split at ay
   ·rename_i y bD
    simp only [I.put, bD]
    cases jm with
    | nil => simp [I.fL] at ay
    | cons cB bw =>
      simp only [eI] at aR ⊢
      obtain ⟨arr, rfl, bY, nu⟩ := aR
      refine ⟨arr, rfl, by simpa using bY, fun j e jZ he zG => ?_⟩
      rw [List.getElem?_set] at he
      split at he
      ·rename_i wE
       subst wE
       split at he
       ·simp only [Option.some.injEq] at he
        subst he
        obtain ⟨bo, bR, cJ⟩ := nu _ y jZ bD zG
        simp only [I.sub, bD] at ak
        exact ⟨HY bo, HZ bR, cJ.trans (I.tQ (cB :: bw) y d bL ak mb).symm⟩
       ·cases he
      ·exact nu j e jZ he zG
   ·cases ay
  ·rw [e]; rw [a1] at aR; exact aR
  ·rw [e]; rw [a1] at aR; exact aR
  ·rw [e]; exact aR
 have PJ : (I.put (k :: jm) bL (s x)).tree = true := by
  rcases rW k jm bL (s x) with ⟨aC, gs, a1, e⟩ | ⟨aC, gs, a1, e⟩ | ⟨sz, xs, cp, a1, e⟩ | ⟨y, z, a1, e⟩ | e <;> rw [e] <;> first | rfl | exact bs
 let az := dz (iH x s) x (I.put (k :: jm) bL (s x))
 have ht : ∀ y, y ≠ x → (az y).tree = true → az y = s y ∧ aF y = aF y := fun y bD bs => by
  have e : az y = cm x (s y) := jB _ _ bD
  rw [e] at bs ⊢
  exact ⟨(D6 bs).2, rfl⟩
 have lp : (az x).plain = false → (s x).plain = false ∧ ∀ v, eI (s x) v → eI (az x) v := by
  intro _
  refine ⟨?_, ?_⟩
  ·cases D9 : (s x).plain with
   | false => rfl
   | true => rw [I.HU _ _ D9] at ay; cases ay
  ·simp only [az, mc]; exact H3
 refine ⟨gy S x (fun c => e4 c ∨ Sn c), ?_⟩
 constructor
 case hv => exact h.hv
 case hQ => exact h.hQ
 case gh => exact fun b ad => by rw [eV]; exact h.gh b ad
 case fc =>
  intro u c ad
  rw [eV]
  simp only [gy] at ad
  split at ad
  ·rcases ad with ad | ad
   ·exact h.fc x c (bo c ad)
   ·exact fi c ad
  ·exact h.fc u c ad
 case gr =>
  intro u c ad
  simp only [gy] at ad
  split at ad
  ·rcases ad with ad | ad
   ·exact h.gr x c (bo c ad)
   ·exact bH c ad
  ·exact h.gr u c ad
 case gi =>
  intro u y c dB ad bD
  simp only [gy] at ad bD
  split at ad
  ·rename_i hu
   rw [if_neg (fun e => dB (hu.trans e.symm))] at bD
   rcases ad with ad | ad
   ·exact h.gi x y c (fun e => dB (hu.trans e)) (bo c ad) bD
   ·exact bS y c ad bD
  ·rename_i hu
   split at bD
   ·rcases bD with bD | bD
    ·exact h.gi u x c hu ad (bo c bD)
    ·exact bS u c bD ad
   ·exact h.gi u y c dB ad bD
 case ek =>
  intro u c ad
  simp only [gy] at ad
  split at ad
  ·rcases ad with ad | ad
   ·exact h.ek x c (bo c ad)
   ·exact bc c ad
  ·exact h.ek u c ad
 case ee =>
  intro u
  by_cases hu : u = x
  ·subst hu
   rw [mc, zC]
   exact (aY.c9 PJ).2 ⟨H3 _ aq.1, jY⟩
  ·rw [jB _ _ hu, zD _ _ hu]
   have dB : ∀ y c, y ≠ x → S y c → aP.heap[c]? = w.heap[c]? := fun y c bD ay => rX c (by rintro rfl; exact h.gi y x c bD ay zF)
   refine (aY.cm ht rfl lp (fun y bw d2 bD jC H4 => ?_) tT _).1 _ _ _ (Nat.le_refl _) (fun c ay => dB u c hu ay) (h.ee u)
   have H5 := h.ee y
   rw [aY.c9 (iz jC H4)] at H5
   exact D2 bw _ _ _ none d2 H5.2 jC (fun c ay => dB y c bD ay)
 case old =>
  intro c fi ki
  by_cases zH : c = b
  ·subst zH
   exfalso
   rcases h.ek x c zF with k2 | k2
   ·exact ki k2
   ·omega
  ·exact (rX c zH).trans (h.old c fi ki)
 case size => rw [eV]; exact h.size
 case os => exact PH.trans h.os
 case tape => exact PI.trans h.tape
 case output => exact wF.trans h.output
end
end Go.c5
