/- Part of a proof that a law returns true for every input. No condition. -/
import Derived.Test.YtobljppjkklojaaFwA
import Derived.Laws.AppendOwn
import Derived.Calls
namespace Go.cM
inductive j where
 | hole
 | bool (b : Bool)
 | dO
 | int (k : IntKind) (n : Int)
 | str (s : List UInt8)
 | cW
 | a_
 | slice (xs : List j)
 | ay (sz : Nat) (xs : List j)
 | ref (d : j)
 | bD (d : j)
 | agg (al : List j)
 | tuple (vs : List j)
 | fn (f : FuncId) (cap : List j)
 | h (x : Nat) (q : List Nat)
 | ao (x : Nat) (q : List Nat)
 | J (x : Nat) (k : Nat)
 deriving Inhabited
mutual
def j.wd : j → Nat
 | .agg al => j.dm al
 | .tuple al => j.dm al
 | _ => 1
def j.dm : List j → Nat
 | [] => 0
 | d :: ds => d.wd + j.dm ds
end
def Rd (w : World) (b o : Nat) (cs : List Value) : Prop := ∀ ar c, cs[ar]? = some c → w.cell? ⟨b, o + ar, none⟩ = some c
def lR (fr : Nat × Nat) (n : Nat) : Prop := ∀ o, o < n → ¬ (fr.1 ≤ o ∧ o < fr.2)
def Value.fz : Value → Bool
 | .agg _ => false
 | .tuple _ => false
 | _ => true
mutual
def aq (w : World) (F : Nat → Prop) : j → List Value → (Nat → Prop) → Prop
 | .hole, cs, _ => ∃ v, Value.fz v = true ∧ cs = [v]
 | .bool b, cs, _ => cs = [.bool b]
 | .dO, cs, _ => ∃ b, cs = [.bool b]
 | .int k n, cs, _ => cs = [.int k n]
 | .str s, cs, _ => cs = [.string ⟨⟨s⟩⟩]
 | .cW, cs, _ => cs = [.pointer none]
 | .a_, cs, _ => cs = [.slice none 0 0]
 | .slice xs, cs, _ => (xs = [] ∧ ∃ a c, cs = [.slice a 0 c] ∧ c ≤ maxLen ∧ (a = none → c = 0)) ∨
   ∃ b o cap dr sz, cs = [.slice (some ⟨b, o, none⟩) xs.length cap] ∧ F b ∧ xs.length ≤ cap ∧ cap ≤ maxLen ∧ (∀ d ∈ xs, d.wd = sz) ∧
     Rd w b o dr ∧ aU w F xs dr (fun _ => False)
 | .ay sz xs, cs, S => (xs = [] ∧ ∃ a, cs = [.slice a 0 0]) ∨
   ∃ b cap cur e fr aH, cs = [.slice (some ⟨b, 0, none⟩) xs.length cap] ∧ S b ∧ w.heap[b]? = some (.cells cur e fr) ∧ lR fr cur.size ∧
     xs.length ≤ cap ∧ cap ≤ maxLen ∧ cur.size = cap * sz ∧ (∀ d ∈ xs, d.wd = sz) ∧ aU w F xs (cur.toList.take (xs.length * sz)) aH ∧ (∀ c, aH c → S c) ∧ ¬ aH b
 | .ref d, cs, _ => ∃ b o dr, cs = [.pointer (some ⟨b, o, none⟩)] ∧ F b ∧ Rd w b o dr ∧ aq w F d dr (fun _ => False)
 | .bD d, cs, S => ∃ b cur e fr aH, cs = [.pointer (some ⟨b, 0, none⟩)] ∧ S b ∧ w.heap[b]? = some (.cells cur e fr) ∧ lR fr cur.size ∧
   aq w F d cur.toList aH ∧ (∀ c, aH c → S c) ∧ ¬ aH b
 | .agg al, cs, S => aU w F al cs S
 | .tuple al, cs, S => aU w F al cs S
 | .fn _ _, _, _ => False
 | .h _ _, _, _ => False
 | .ao _ _, _, _ => False
 | .J _ _, _, _ => False
def aU (w : World) (F : Nat → Prop) : List j → List Value → (Nat → Prop) → Prop
 | [], cs, _ => cs = []
 | d :: ds, cs, S => ∃ bT b4 bW c6, cs = bT ++ b4 ∧ aq w F d bT bW ∧ aU w F ds b4 c6 ∧ (∀ b, bW b → S b) ∧ (∀ b, c6 b → S b) ∧ (∀ b, bW b → ¬ c6 b)
end
theorem cell?_of_block {w aB : World} {b : Nat} (h : aB.heap[b]? = w.heap[b]?) (o : Nat) : aB.cell? ⟨b, o, none⟩ = w.cell? ⟨b, o, none⟩ := by
 simp [World.cell?, h]
theorem Rd.frame {w aB : World} {b o : Nat} {cs : List Value} (h : aB.heap[b]? = w.heap[b]?) (aO : Rd w b o cs) : Rd aB b o cs :=
 fun ar c aj => (cell?_of_block h _).trans (aO ar c aj)
mutual
theorem aq.frame {w aB : World} {F : Nat → Prop} (bg : ∀ b, F b → aB.heap[b]? = w.heap[b]?) :
  ∀ (d : j) (cs : List Value) (S : Nat → Prop), (∀ b, S b → aB.heap[b]? = w.heap[b]?) → aq w F d cs S → aq aB F d cs S
 | .hole, _, _, _, h => h
 | .bool _, _, _, _, h => h
 | .dO, _, _, _, h => h
 | .int _ _, _, _, _, h => h
 | .str _, _, _, _, h => h
 | .cW, _, _, _, h => h
 | .a_, _, _, _, h => h
 | .slice xs, cs, S, bE, h => by
   rw [aq] at h ⊢
   rcases h with h | ⟨b, o, cap, dr, sz, aa, ab, aE, aZ, bG, b7, b5⟩
   ·exact .inl h
   ·exact .inr ⟨b, o, cap, dr, sz, aa, ab, aE, aZ, bG, b7.frame (bg _ ab), aU.frame bg xs _ _ (fun _ h => h.elim) b5⟩
 | .ay sz xs, cs, S, bE, h => by
   rw [aq] at h ⊢
   rcases h with h | ⟨b, cap, cur, e, fr, aH, aa, ab, aE, aZ, bG, b7, b5, dG, gJ, fO, iS⟩
   ·exact .inl h
   ·exact .inr ⟨b, cap, cur, e, fr, aH, aa, ab, (bE _ ab).trans aE, aZ, bG, b7, b5, dG, aU.frame bg xs _ _ (fun c aj => bE _ (fO _ aj)) gJ, fO, iS⟩
 | .ref d, cs, S, bE, h => by
   rw [aq] at h ⊢
   obtain ⟨b, o, dr, aa, ab, aE, aZ⟩ := h
   exact ⟨b, o, dr, aa, ab, aE.frame (bg _ ab), aq.frame bg d _ _ (fun _ h => h.elim) aZ⟩
 | .bD d, cs, S, bE, h => by
   rw [aq] at h ⊢
   obtain ⟨b, cur, e, fr, aH, aa, ab, aE, aZ, bG, b7, b5⟩ := h
   exact ⟨b, cur, e, fr, aH, aa, ab, (bE _ ab).trans aE, aZ, aq.frame bg d _ _ (fun c aj => bE _ (b7 _ aj)) bG, b7, b5⟩
 | .agg al, cs, S, bE, h => by rw [aq] at h ⊢; exact aU.frame bg al _ _ bE h
 | .tuple al, cs, S, bE, h => by rw [aq] at h ⊢; exact aU.frame bg al _ _ bE h
 | .fn _ _, _, _, _, h => h
 | .h _ _, _, _, _, h => h
 | .ao _ _, _, _, _, h => h
 | .J _ _, _, _, _, h => h
theorem aU.frame {w aB : World} {F : Nat → Prop} (bg : ∀ b, F b → aB.heap[b]? = w.heap[b]?) :
  ∀ (ds : List j) (cs : List Value) (S : Nat → Prop), (∀ b, S b → aB.heap[b]? = w.heap[b]?) → aU w F ds cs S → aU aB F ds cs S
 | [], _, _, _, h => h
 | d :: ds, cs, S, bE, h => by
   rw [aU] at h ⊢
   obtain ⟨bT, b4, bW, c6, aa, ab, aE, aZ, bG, b7⟩ := h
   exact ⟨bT, b4, bW, c6, aa, aq.frame bg d _ _ (fun b J => bE _ (aZ _ J)) ab, aU.frame bg ds _ _ (fun b J => bE _ (bG _ J)) aE, aZ, bG, b7⟩
end
mutual
theorem aq.mono {w : World} {F bA : Nat → Prop} (bg : ∀ b, F b → bA b) :
  ∀ (d : j) (cs : List Value) (S aH : Nat → Prop), (∀ b, S b → aH b) → aq w F d cs S → aq w bA d cs aH
 | .hole, _, _, _, _, h => h
 | .bool _, _, _, _, _, h => h
 | .dO, _, _, _, _, h => h
 | .int _ _, _, _, _, _, h => h
 | .str _, _, _, _, _, h => h
 | .cW, _, _, _, _, h => h
 | .a_, _, _, _, _, h => h
 | .slice xs, cs, S, _, bE, h => by
   rw [aq] at h ⊢
   rcases h with h | ⟨b, o, cap, dr, sz, aa, ab, aE, aZ, bG, b7, b5⟩
   ·exact .inl h
   ·exact .inr ⟨b, o, cap, dr, sz, aa, bg _ ab, aE, aZ, bG, b7, aU.mono bg xs _ _ _ (fun _ h => h) b5⟩
 | .ay sz xs, cs, S, _, bE, h => by
   rw [aq] at h ⊢
   rcases h with h | ⟨b, cap, cur, e, fr, aH, aa, ab, aE, aZ, bG, b7, b5, dG, gJ, fO, iS⟩
   ·exact .inl h
   ·exact .inr ⟨b, cap, cur, e, fr, aH, aa, bE _ ab, aE, aZ, bG, b7, b5, dG, aU.mono bg xs _ _ _ (fun _ h => h) gJ, fun c aj => bE _ (fO _ aj), iS⟩
 | .ref d, cs, S, _, bE, h => by
   rw [aq] at h ⊢
   obtain ⟨b, o, dr, aa, ab, aE, aZ⟩ := h
   exact ⟨b, o, dr, aa, bg _ ab, aE, aq.mono bg d _ _ _ (fun _ h => h) aZ⟩
 | .bD d, cs, S, _, bE, h => by
   rw [aq] at h ⊢
   obtain ⟨b, cur, e, fr, aH, aa, ab, aE, aZ, bG, b7, b5⟩ := h
   exact ⟨b, cur, e, fr, aH, aa, bE _ ab, aE, aZ, aq.mono bg d _ _ _ (fun _ h => h) bG, fun c aj => bE _ (b7 _ aj), b5⟩
 | .agg al, cs, S, _, bE, h => by rw [aq] at h ⊢; exact aU.mono bg al _ _ _ bE h
 | .tuple al, cs, S, _, bE, h => by rw [aq] at h ⊢; exact aU.mono bg al _ _ _ bE h
 | .fn _ _, _, _, _, _, h => h
 | .h _ _, _, _, _, _, h => h
 | .ao _ _, _, _, _, _, h => h
 | .J _ _, _, _, _, _, h => h
theorem aU.mono {w : World} {F bA : Nat → Prop} (bg : ∀ b, F b → bA b) :
  ∀ (ds : List j) (cs : List Value) (S aH : Nat → Prop), (∀ b, S b → aH b) → aU w F ds cs S → aU w bA ds cs aH
 | [], _, _, _, _, h => h
 | d :: ds, cs, S, _, bE, h => by
   rw [aU] at h ⊢
   obtain ⟨bT, b4, bW, c6, aa, ab, aE, aZ, bG, b7⟩ := h
   exact ⟨bT, b4, bW, c6, aa, aq.mono bg d _ _ _ (fun _ h => h) ab, aU.mono bg ds _ _ _ (fun _ h => h) aE, fun b J => bE _ (aZ _ J), fun b J => bE _ (bG _ J), b7⟩
end
mutual
theorem aq.length {w : World} {F : Nat → Prop} : ∀ (d : j) (cs : List Value) (S : Nat → Prop), aq w F d cs S → cs.length = d.wd
 | .hole, cs, S, h => by rw [aq] at h; obtain ⟨v, _, rfl⟩ := h; rfl
 | .bool _, cs, S, h => by rw [aq] at h; subst h; rfl
 | .dO, cs, S, h => by rw [aq] at h; obtain ⟨b, rfl⟩ := h; rfl
 | .int _ _, cs, S, h => by rw [aq] at h; subst h; rfl
 | .str _, cs, S, h => by rw [aq] at h; subst h; rfl
 | .cW, cs, S, h => by rw [aq] at h; subst h; rfl
 | .a_, cs, S, h => by rw [aq] at h; subst h; rfl
 | .slice xs, cs, S, h => by
   rw [aq] at h
   rcases h with ⟨_, a, c, rfl, _⟩ | ⟨b, o, cap, dr, sz, rfl, _⟩ <;> rfl
 | .ay sz xs, cs, S, h => by
   rw [aq] at h
   rcases h with ⟨_, a, rfl⟩ | ⟨b, cap, cur, e, fr, aH, rfl, _⟩ <;> rfl
 | .ref d, cs, S, h => by rw [aq] at h; obtain ⟨b, o, dr, rfl, _⟩ := h; rfl
 | .bD d, cs, S, h => by rw [aq] at h; obtain ⟨b, o, dr, _, _, rfl, _⟩ := h; rfl
 | .agg al, cs, S, h => by rw [aq] at h; exact aU.length al _ _ h
 | .tuple al, cs, S, h => by rw [aq] at h; exact aU.length al _ _ h
 | .fn _ _, cs, S, h => by rw [aq] at h; exact h.elim
 | .h _ _, cs, S, h => by rw [aq] at h; exact h.elim
 | .ao _ _, cs, S, h => by rw [aq] at h; exact h.elim
 | .J _ _, cs, S, h => by rw [aq] at h; exact h.elim
theorem aU.length {w : World} {F : Nat → Prop} : ∀ (ds : List j) (cs : List Value) (S : Nat → Prop), aU w F ds cs S → cs.length = j.dm ds
 | [], cs, S, h => by rw [aU] at h; subst h; rfl
 | d :: ds, cs, S, h => by
   rw [aU] at h
   obtain ⟨bT, b4, bW, c6, rfl, ab, aE, _⟩ := h
   rw [List.length_append, aq.length d _ _ ab, aU.length ds _ _ aE, j.dm]
end
mutual
def j.share : j → j
 | .ay _ xs => .slice (j.shares xs)
 | .bD d => .ref d.share
 | .slice xs => .slice (j.shares xs)
 | .ref d => .ref d.share
 | .agg al => .agg (j.shares al)
 | .tuple al => .tuple (j.shares al)
 | d => d
def j.shares : List j → List j
 | [] => []
 | d :: ds => d.share :: j.shares ds
end
theorem j.oh (ds : List j) : j.shares ds = ds.map j.share := by
 induction ds with
 | nil => rfl
 | cons d ds ih => simp [j.shares, ih]
mutual
theorem j.tB : ∀ d : j, d.share.wd = d.wd
 | .hole => rfl
 | .bool _ => rfl
 | .dO => rfl
 | .int _ _ => rfl
 | .str _ => rfl
 | .cW => rfl
 | .a_ => rfl
 | .slice _ => rfl
 | .ay _ _ => rfl
 | .ref _ => rfl
 | .bD _ => rfl
 | .agg al => by simp only [j.share, j.wd]; exact j.wJ al
 | .tuple al => by simp only [j.share, j.wd]; exact j.wJ al
 | .fn _ _ => rfl
 | .h _ _ => rfl
 | .ao _ _ => rfl
 | .J _ _ => rfl
theorem j.wJ : ∀ ds : List j, j.dm (j.shares ds) = j.dm ds
 | [] => rfl
 | d :: ds => by simp only [j.shares, j.dm]; rw [j.tB d, j.wJ ds]
end
theorem pK {w : World} {b : Nat} {cur : Array Value} {e : TypeId} {fr : Nat × Nat} (h : w.heap[b]? = some (.cells cur e fr)) (n : Nat) : Rd w b 0 (cur.toList.take n) := by
 intro ar c aj
 rw [List.getElem?_take] at aj
 split at aj
 ·simp [World.cell?, h]; simpa using aj
 ·cases aj
mutual
theorem aq.shared {w : World} {F bA : Nat → Prop} (bg : ∀ b, F b → bA b) :
  ∀ (d : j) (cs : List Value) (S : Nat → Prop), (∀ b, S b → bA b) → aq w F d cs S → aq w bA d.share cs (fun _ => False)
 | .hole, _, _, _, h => h
 | .bool _, _, _, _, h => h
 | .dO, _, _, _, h => h
 | .int _ _, _, _, _, h => h
 | .str _, _, _, _, h => h
 | .cW, _, _, _, h => h
 | .a_, _, _, _, h => h
 | .slice xs, cs, S, bE, h => by
   rw [j.share, aq]
   rw [aq] at h
   rcases h with ⟨rfl, a, c, rfl, aj⟩ | ⟨b, o, cap, dr, sz, aa, ab, aE, aZ, bG, b7, b5⟩
   ·exact .inl ⟨rfl, a, c, rfl, aj⟩
   ·refine .inr ⟨b, o, cap, dr, sz, ?_, bg _ ab, ?_, aZ, ?_, b7, aU.shared bg xs _ _ (fun _ h => h.elim) b5⟩
    ·simpa [j.oh] using aa
    ·simpa [j.oh] using aE
    ·intro d af
     rw [j.oh] at af
     obtain ⟨bj, fA, rfl⟩ := List.mem_map.1 af
     rw [j.tB]; exact bG _ fA
 | .ay sz xs, cs, S, bE, h => by
   rw [j.share, aq]
   rw [aq] at h
   rcases h with ⟨rfl, a, rfl⟩ | ⟨b, cap, cur, e, fr, aH, aa, ab, aE, aZ, bG, b7, b5, dG, gJ, fO, iS⟩
   ·exact .inl ⟨rfl, a, 0, rfl, Nat.zero_le _, fun _ => rfl⟩
   ·refine .inr ⟨b, 0, cap, _, sz, ?_, bE _ ab, ?_, b7, ?_, pK aE _, aU.shared bg xs _ _ (fun c aj => bE _ (fO _ aj)) gJ⟩
    ·simpa [j.oh] using aa
    ·simpa [j.oh] using bG
    ·intro d af
     rw [j.oh] at af
     obtain ⟨bj, fA, rfl⟩ := List.mem_map.1 af
     rw [j.tB]; exact dG _ fA
 | .ref d, cs, S, bE, h => by
   rw [j.share, aq]
   rw [aq] at h
   obtain ⟨b, o, dr, aa, ab, aE, aZ⟩ := h
   exact ⟨b, o, dr, aa, bg _ ab, aE, aq.shared bg d _ _ (fun _ h => h.elim) aZ⟩
 | .bD d, cs, S, bE, h => by
   rw [j.share, aq]
   rw [aq] at h
   obtain ⟨b, cur, e, fr, aH, aa, ab, aE, aZ, bG, b7, b5⟩ := h
   refine ⟨b, 0, cur.toList, aa, bE _ ab, ?_, aq.shared bg d _ _ (fun c aj => bE _ (b7 _ aj)) bG⟩
   have := pK aE cur.toList.length
   rwa [List.take_length] at this
 | .agg al, cs, S, bE, h => by rw [j.share, aq]; rw [aq] at h; exact aU.shared bg al _ _ bE h
 | .tuple al, cs, S, bE, h => by rw [j.share, aq]; rw [aq] at h; exact aU.shared bg al _ _ bE h
 | .fn _ _, _, _, _, h => h
 | .h _ _, _, _, _, h => h
 | .ao _ _, _, _, _, h => h
 | .J _ _, _, _, _, h => h
theorem aU.shared {w : World} {F bA : Nat → Prop} (bg : ∀ b, F b → bA b) :
  ∀ (ds : List j) (cs : List Value) (S : Nat → Prop), (∀ b, S b → bA b) → aU w F ds cs S → aU w bA (j.shares ds) cs (fun _ => False)
 | [], _, _, _, h => h
 | d :: ds, cs, S, bE, h => by
   simp only [j.shares]
   rw [aU] at h ⊢
   obtain ⟨bT, b4, bW, c6, aa, ab, aE, aZ, bG, b7⟩ := h
   exact ⟨bT, b4, _, _, aa, aq.shared bg d _ _ (fun b J => bE _ (aZ _ J)) ab, aU.shared bg ds _ _ (fun b J => bE _ (bG _ J)) aE, fun _ h => h, fun _ h => h, fun _ h => h.elim⟩
end
def j.sub : List Nat → j → Option j
 | [], d => some d
 | k :: q, .agg al => match al[k]? with
   | some d => j.sub q d
   | none => none
 | k :: q, .tuple al => match al[k]? with
   | some d => j.sub q d
   | none => none
 | i :: q, .ay _ xs => match xs[i]? with
   | some d => j.sub q d
   | none => none
 | 0 :: q, .bD d => j.sub q d
 | _ :: _, _ => none
def j.put : List Nat → j → j → j
 | [], n, _ => n
 | k :: q, n, .agg al => match al[k]? with
   | some d => .agg (al.set k (j.put q n d))
   | none => .agg al
 | k :: q, n, .tuple al => match al[k]? with
   | some d => .tuple (al.set k (j.put q n d))
   | none => .tuple al
 | i :: q, n, .ay sz xs => match xs[i]? with
   | some d => .ay sz (xs.set i (j.put q n d))
   | none => .ay sz xs
 | 0 :: q, n, .bD d => .bD (j.put q n d)
 | _ :: _, _, d => d
def kA (w : World) (b o n : Nat) : List Value := (List.range n).map fun ar => (w.cell? ⟨b, o + ar, none⟩).getD undef
theorem Rd.kA {w : World} {b o : Nat} {cs : List Value} (h : Rd w b o cs) : kA w b o cs.length = cs := by
 unfold cM.kA
 apply List.ext_getElem?
 intro i
 rw [List.getElem?_map]
 by_cases az : i < cs.length
 ·have : cs[i]? = some cs[i] := List.getElem?_eq_getElem az
  simp [az, h i _ this]
 ·simp [az]
def cJ (w : World) : List Nat → j → List Value → Option (Nat × Nat) → Option (j × List Value × Option (Nat × Nat))
 | [], d, cs, a => some (d, cs, a)
 | k :: q, .agg al, cs, a => match al[k]? with
   | some d => cJ w q d ((cs.drop (j.dm (al.take k))).take d.wd) (a.map fun l => (l.1, l.2 + j.dm (al.take k)))
   | none => none
 | k :: q, .tuple al, cs, a => match al[k]? with
   | some d => cJ w q d ((cs.drop (j.dm (al.take k))).take d.wd) (a.map fun l => (l.1, l.2 + j.dm (al.take k)))
   | none => none
 | i :: q, .ay sz xs, cs, _ => match xs[i]?, cs with
   | some d, [.slice (some ⟨b, _, _⟩) _ _] => cJ w q d (kA w b (i * sz) sz) (some (b, i * sz))
   | _, _ => none
 | 0 :: q, .bD d, cs, _ => match cs with
   | [.pointer (some ⟨b, _, _⟩)] => cJ w q d (kA w b 0 d.wd) (some (b, 0))
   | _ => none
 | _ :: _, _, _, _ => none
theorem pL (bT eR b4 : List Value) (n m : Nat) (aa : bT.length = n) (ab : eR.length = m) : ((bT ++ (eR ++ b4)).drop n).take m = eR := by
 rw [List.drop_left' aa, List.take_left' ab]
theorem aU.pick {w : World} {F : Nat → Prop} : ∀ (ds : List j) (cs : List Value) (S : Nat → Prop) (k : Nat) (d : j),
  aU w F ds cs S → ds[k]? = some d → ∃ (bT eR b4 : List Value) (bW iE : Nat → Prop), cs = bT ++ (eR ++ b4) ∧ bT.length = j.dm (ds.take k) ∧
   (∀ b, bW b → S b) ∧ (∀ b, iE b → S b) ∧ (∀ b, bW b → ¬ iE b) ∧ aq w F d eR iE ∧
   ∀ (aB : World) (bj : j) (oi : List Value) (aH : Nat → Prop), (∀ b, F b → aB.heap[b]? = w.heap[b]?) → (∀ b, bW b → aB.heap[b]? = w.heap[b]?) →
     aq aB F bj oi aH → (∀ b, aH b → ¬ bW b) → aU aB F (ds.set k bj) (bT ++ (oi ++ b4)) (fun b => bW b ∨ aH b)
 | [], _, _, _, _, _, aw => by simp at aw
 | x :: ds, cs, S, 0, d, h, aw => by
   rw [aU] at h
   obtain ⟨bT, b4, fP, fg, rfl, aa, ab, b1, J, iT⟩ := h
   simp at aw; subst aw
   refine ⟨[], bT, b4, fg, fP, rfl, rfl, J, b1, fun b J b1 => iT _ b1 J, aa, ?_⟩
   intro aB bj oi aH bg bE af hp
   simp only [List.set_cons_zero, List.nil_append]
   rw [aU]
   exact ⟨oi, b4, aH, fg, rfl, af, aU.frame bg _ _ _ bE ab, fun b h => .inr h, fun b h => .inl h, fun b h => hp b h⟩
 | x :: ds, cs, S, k + 1, d, h, aw => by
   rw [aU] at h
   obtain ⟨lS, Ga, fP, fg, rfl, aa, ab, b1, J, iT⟩ := h
   simp only [List.getElem?_cons_succ] at aw
   have hl := aq.length _ _ _ aa
   obtain ⟨bT, eR, b4, bW, iE, rfl, Gb, lT, ka, wK, wL, wM⟩ := aU.pick ds Ga fg k d ab aw
   refine ⟨lS ++ bT, eR, b4, fun b => fP b ∨ bW b, iE, by simp, by simp [j.dm, hl, Gb], ?_, fun b h => J _ (ka _ h), ?_, wL, ?_⟩
   ·rintro b (h | h)
    ·exact b1 _ h
    ·exact J _ (lT _ h)
   ·rintro b (h | h) aw
    ·exact iT _ h (ka _ aw)
    ·exact wK _ h aw
   ·intro aB bj oi aH bg bE af hp
    simp only [List.set_cons_succ]
    rw [aU]
    refine ⟨lS, bT ++ (oi ++ b4), fP, fun b => bW b ∨ aH b, by simp, aq.frame bg _ _ _ (fun b J => bE b (.inl J)) aa,
     wM aB bj oi aH bg (fun b J => bE b (.inr J)) af (fun b J aj => hp b J (.inr aj)), fun b h => .inl (.inl h), ?_, ?_⟩
    ·rintro b (h | h)
     ·exact .inl (.inr h)
     ·exact .inr h
    ·rintro b h (bq | bq)
     ·exact iT _ h (lT _ bq)
     ·exact hp _ bq (.inl h)
theorem wN : ∀ (al : List j) (k : Nat) (x y : j), al[k]? = some x → y.wd = x.wd → j.dm (al.set k y) = j.dm al := by
 intro al
 induction al with
 | nil => intro k x y h; simp at h
 | cons a al ih =>
   intro k x y h e
   cases k with
   | zero => simp at h; subst h; simp [j.dm, e]
   | succ k => simp at h; simp [j.dm, ih k x y h e]
theorem oj {sz : Nat} : ∀ (xs : List j), (∀ d ∈ xs, d.wd = sz) → j.dm xs = xs.length * sz
 | [], _ => by simp [j.dm]
 | x :: xs, h => by
   rw [j.dm, h x (by simp), oj xs (fun d af => h d (by simp [af])), List.length_cons, Nat.add_mul, Nat.one_mul, Nat.add_comm]
theorem j.pM : ∀ (q : List Nat) (av d bj : j), j.sub q av = some d → bj.wd = d.wd → (j.put q bj av).wd = av.wd := by
 intro q
 induction q with
 | nil => intro av d bj h e; simp [j.sub] at h; subst h; simpa [j.put] using e
 | cons k q ih =>
   intro av d bj h e
   cases av with
   | agg al =>
     simp only [j.sub] at h
     split at h
     ·rename_i x ai
      simp only [j.put, ai, j.wd]
      exact wN _ _ _ _ ai (ih _ _ _ h e)
     ·cases h
   | tuple al =>
     simp only [j.sub] at h
     split at h
     ·rename_i x ai
      simp only [j.put, ai, j.wd]
      exact wN _ _ _ _ ai (ih _ _ _ h e)
     ·cases h
   | ay sz xs =>
     simp only [j.sub] at h
     split at h
     ·rename_i x ai
      simp only [j.put, ai, j.wd]
     ·cases h
   | bD x =>
     cases k with
     | zero => simp only [j.put, j.wd]
     | succ k => simp [j.sub] at h
   | _ => simp [j.sub] at h
theorem wO {sz : Nat} {xs : List j} {i : Nat} {y : j} (h : ∀ d ∈ xs, d.wd = sz) (bC : y.wd = sz) : ∀ d ∈ xs.set i y, d.wd = sz := by
 intro d af
 rcases List.mem_or_eq_of_mem_set af with af | rfl
 ·exact h d af
 ·exact bC
theorem pN {w : World} {b : Nat} {cur : Array Value} {e : TypeId} {fr : Nat × Nat} (h : w.heap[b]? = some (.cells cur e fr)) {l m r : List Value} (aj : cur.toList = l ++ (m ++ r)) :
  kA w b l.length m.length = m := by
 refine Rd.kA (fun ar c cc => ?_)
 have dL : ar < m.length := (List.getElem?_eq_some_iff.1 cc).1
 have : cur.toList[l.length + ar]? = some c := by
  rw [aj, List.getElem?_append_right (by omega), List.getElem?_append_left (by omega)]
  rw [← cc]; congr 1; omega
 simp [World.cell?, h]
 simpa using this
def Flat (w : World) (F : Nat → Prop) (q : List Nat) (av : j) (cs : List Value) (a : Option (Nat × Nat)) (d : j) (cv : List Value) (cf : Option (Nat × Nat)) (dH : Nat → Prop) : Prop :=
 ∃ l r : List Value, cs = l ++ (cv ++ r) ∧ cf = a.map (fun x => (x.1, x.2 + l.length)) ∧
   ∀ (aB : World) (bj : j) (eS : List Value) (aH : Nat → Prop), (∀ b, F b → aB.heap[b]? = w.heap[b]?) → (∀ b, dH b → aB.heap[b]? = w.heap[b]?) →
     bj.wd = d.wd → aq aB F bj eS aH → (∀ b, aH b → ¬ dH b) → aq aB F (j.put q bj av) (l ++ (eS ++ r)) (fun b => dH b ∨ aH b)
def Deep (w : World) (F : Nat → Prop) (q : List Nat) (av : j) (cs : List Value) (d : j) (cv : List Value) (cf : Option (Nat × Nat)) (dH : Nat → Prop) : Prop :=
 ∃ (b : Nat) (cur : Array Value) (e : TypeId) (fr : Nat × Nat) (l r : List Value), cf = some (b, l.length) ∧ dH b ∧ w.heap[b]? = some (.cells cur e fr) ∧ lR fr cur.size ∧ cur.toList = l ++ (cv ++ r) ∧
   ∀ (aB : World) (bj : j) (eS : List Value) (aH : Nat → Prop), (∀ b, F b → aB.heap[b]? = w.heap[b]?) → (∀ c, dH c → c ≠ b → aB.heap[c]? = w.heap[c]?) →
     aB.heap[b]? = some (.cells (l ++ (eS ++ r)).toArray e fr) →
     bj.wd = d.wd → aq aB F bj eS aH → (∀ b, aH b → ¬ dH b) → aq aB F (j.put q bj av) cs (fun b => dH b ∨ aH b)
theorem ctx {w : World} {F : Nat → Prop} : ∀ (q : List Nat) (av : j) (cs : List Value) (S : Nat → Prop) (a : Option (Nat × Nat)) (d : j),
  aq w F av cs S → j.sub q av = some d → ∃ (cv : List Value) (cf : Option (Nat × Nat)) (dH fB : Nat → Prop), cJ w q av cs a = some (d, cv, cf) ∧
   (∀ b, dH b → S b) ∧ (∀ b, fB b → S b) ∧ (∀ b, dH b → ¬ fB b) ∧ aq w F d cv fB ∧ (Flat w F q av cs a d cv cf dH ∨ Deep w F q av cs d cv cf dH) := by
 intro q
 induction q with
 | nil =>
   intro av cs S a d h af
   simp [j.sub] at af; subst af
   refine ⟨cs, a, fun _ => False, S, rfl, fun _ h => h.elim, fun _ h => h, fun _ h => h.elim, h, .inl ⟨[], [], by simp, ?_, ?_⟩⟩
   ·cases a <;> simp
   ·intro aB bj eS aH _ _ hw fA _
    simp only [j.put, List.nil_append, List.append_nil]
    exact aq.mono (fun _ h => h) _ _ _ _ (fun b h => .inr h) fA
 | cons k q ih =>
   have fields : ∀ (mk : List j → j) (wP : ∀ (w : World) (F : Nat → Prop) (al : List j) (cs : List Value) (S : Nat → Prop), aq w F (mk al) cs S = aU w F al cs S) (al : List j) (cs : List Value) (S : Nat → Prop) (a : Option (Nat × Nat)) (x d : j),
     (iq : ∀ bj, j.put (k :: q) bj (mk al) = mk (al.set k (j.put q bj x))) → aU w F al cs S → al[k]? = some x → j.sub q x = some d →
     ∃ (cv : List Value) (cf : Option (Nat × Nat)) (dH fB : Nat → Prop), cJ w q x ((cs.drop (j.dm (al.take k))).take x.wd) (a.map fun l => (l.1, l.2 + j.dm (al.take k))) = some (d, cv, cf) ∧
     (∀ b, dH b → S b) ∧ (∀ b, fB b → S b) ∧ (∀ b, dH b → ¬ fB b) ∧ aq w F d cv fB ∧ (Flat w F (k :: q) (mk al) cs a d cv cf dH ∨ Deep w F (k :: q) (mk al) cs d cv cf dH) := by
    intro mk wP al cs S a x d iq h ai af
    obtain ⟨bT, eR, b4, bW, iE, rfl, gw, fI, ga, gV, fC, kb⟩ := aU.pick al cs S k x h ai
    have hl := aq.length _ _ _ fC
    rw [pL bT eR b4 _ _ gw hl]
    obtain ⟨cv, cf, dH, fB, fQ, aV, bo, b8, dn, eg⟩ := ih x _ iE (a.map fun l => (l.1, l.2 + j.dm (al.take k))) d fC af
    refine ⟨cv, cf, fun b => bW b ∨ dH b, fB, fQ, ?_, fun b J => ga _ (bo _ J), ?_, dn, ?_⟩
    ·rintro b (h | h)
     ·exact fI _ h
     ·exact ga _ (aV _ h)
    ·rintro b (h | h) af
     ·exact gV _ h (bo _ af)
     ·exact b8 _ h af
    ·have dU : ∀ (b : Nat) (aH : Nat → Prop), (bW b ∨ dH b ∨ aH b) → ((bW b ∨ dH b) ∨ aH b) := by
      rintro b aH (J | J | J)
      ·exact .inl (.inl J)
      ·exact .inl (.inr J)
      ·exact .inr J
     rcases eg with ⟨l, r, rfl, aT, bb⟩ | ⟨b, cur, e, fr, l, r, aJ, aT, bb, cn, c1, b6⟩
     ·refine .inl ⟨bT ++ l, r ++ b4, by simp, ?_, ?_⟩
      ·rw [aT, ← gw]; cases a <;> simp [Nat.add_assoc]
      ·intro aB bj eS aH bg bE hw fA hp
       have eh := bb aB bj eS aH bg (fun b J => bE b (.inr J)) hw fA (fun b J aj => hp b J (.inr aj))
       have eZ := kb aB _ _ _ bg (fun b J => bE b (.inl J)) eh (by
        rintro b (J | J) aa
        ·exact gV _ aa (aV _ J)
        ·exact hp _ J (.inl aa))
       rw [iq, wP]
       have := aU.mono (fun _ h => h) _ _ _ _ (fun b => dU b aH) eZ
       simpa using this
     ·refine .inr ⟨b, cur, e, fr, l, r, aJ, .inr aT, bb, cn, c1, ?_⟩
      intro aB bj eS aH bg bE jR hw fA hp
      have eh := b6 aB bj eS aH bg (fun c aj => bE c (.inr aj)) jR hw fA (fun b J aj => hp b J (.inr aj))
      have eZ := kb aB _ _ _ bg (fun c aj => bE c (.inl aj) (by rintro rfl; exact gV _ aj (aV _ aT))) eh (by
        rintro b (J | J) aa
        ·exact gV _ aa (aV _ J)
        ·exact hp _ J (.inl aa))
      rw [iq, wP]
      exact aU.mono (fun _ h => h) _ _ _ _ (fun b => dU b aH) eZ
   intro av cs S a d h af
   cases av with
   | agg al =>
     simp only [j.sub] at af
     split at af
     ·rename_i x ai
      rw [aq] at h
      have := fields .agg (fun _ _ _ _ _ => by rw [aq]) al cs S a x d (fun bj => by simp only [j.put, ai]) h ai af
      simpa only [cJ, ai] using this
     ·cases af
   | tuple al =>
     simp only [j.sub] at af
     split at af
     ·rename_i x ai
      rw [aq] at h
      have := fields .tuple (fun _ _ _ _ _ => by rw [aq]) al cs S a x d (fun bj => by simp only [j.put, ai]) h ai af
      simpa only [cJ, ai] using this
     ·cases af
   | ay sz xs =>
     simp only [j.sub] at af
     split at af
     ·rename_i x ai
      rw [aq] at h
      rcases h with ⟨rfl, _, rfl⟩ | ⟨b, cap, cur, e, fr, dd, rfl, ab, aE, aZ, bG, b7, b5, dG, gJ, fO, iS⟩
      ·simp at ai
      ·obtain ⟨bT, eR, b4, bW, iE, p, gw, fI, ga, gV, fC, kb⟩ := aU.pick xs _ dd k x gJ ai
       have hl := aq.length _ _ _ fC
       have Gc : k < xs.length := (List.getElem?_eq_some_iff.1 ai).1
       have rC : x.wd = sz := dG x (List.mem_of_getElem? ai)
       have bP : j.dm (xs.take k) = k * sz := by
        rw [oj _ (fun d af => dG d (List.mem_of_mem_take af))]
        rw [List.length_take, Nat.min_eq_left (by omega)]
       obtain ⟨mV, i9⟩ : ∃ mV, cur.toList = bT ++ (eR ++ (b4 ++ mV)) := by
        refine ⟨cur.toList.drop (xs.length * sz), ?_⟩
        have := (List.take_append_drop (xs.length * sz) cur.toList).symm
        rw [p] at this
        simpa using this
       have h2 : kA w b (k * sz) sz = eR := by
        have := pN aE i9
        rwa [gw, bP, hl, rC] at this
       obtain ⟨cv, cf, dH, fB, fQ, aV, bo, b8, dn, eg⟩ := ih x _ iE (some (b, k * sz)) d fC af
       have iq : ∀ bj, j.put (k :: q) bj (.ay sz xs) = .ay sz (xs.set k (j.put q bj x)) := fun bj => by simp only [j.put, ai]
       refine ⟨cv, cf, fun c => c = b ∨ bW c ∨ dH c, fB, ?_, ?_, fun c aj => fO _ (ga _ (bo _ aj)), ?_, dn, .inr ?_⟩
       ·simp only [cJ, ai, h2]; exact fQ
       ·rintro c (rfl | h | h)
        ·exact ab
        ·exact fO _ (fI _ h)
        ·exact fO _ (ga _ (aV _ h))
       ·rintro c (rfl | h | h) af
        ·exact iS (ga _ (bo _ af))
        ·exact gV _ h (bo _ af)
        ·exact b8 _ h af
       ·have kc : ∀ bj, bj.wd = d.wd → (j.put q bj x).wd = sz := fun bj hw => (j.pM q x d bj af hw).trans rC
        rcases eg with ⟨l, r, rfl, aT, bb⟩ | ⟨ew, wQ, eC, wR, l, r, aJ, aT, bb, cn, c1, b6⟩
        ·refine ⟨b, cur, e, fr, bT ++ l, r ++ (b4 ++ mV), ?_, .inl rfl, aE, aZ, ?_, ?_⟩
         ·rw [aT]; simp [gw, bP]
         ·rw [i9]; simp
         ·intro aB bj eS aH bg bE jR hw fA hp
          have eh := bb aB bj eS aH bg (fun c aj => bE c (.inr (.inr aj)) (by rintro rfl; exact iS (ga _ (aV _ aj)))) hw fA (fun b J aj => hp b J (.inr (.inr aj)))
          have eZ := kb aB _ _ _ bg (fun c aj => bE c (.inr (.inl aj)) (by rintro rfl; exact iS (fI _ aj))) eh (by
           rintro b (J | J) aa
           ·exact gV _ aa (aV _ J)
           ·exact hp _ J (.inr (.inl aa)))
          have rD := aq.length _ _ _ fA
          have rE := aq.length _ _ _ dn
          rw [iq, aq]
          refine .inr ⟨b, cap, _, e, fr, fun b => bW b ∨ dH b ∨ aH b, by simp, .inl (.inl rfl), jR, ?_, by simpa using bG, b7, ?_, wO dG (kc bj hw), ?_, ?_, ?_⟩
          ·have : (bT ++ l ++ (eS ++ (r ++ (b4 ++ mV)))).toArray.size = cur.size := by
            have : cur.size = cur.toList.length := by simp
            rw [this, i9]; simp [rD, rE, hw]
           rw [this]; exact aZ
          ·rw [← b5]
           have : cur.size = cur.toList.length := by simp
           rw [this, i9]; simp [rD, rE, hw]
          ·have hlen : (bT ++ (l ++ (eS ++ r) ++ b4)).length = xs.length * sz := by
            have := congrArg List.length p
            rw [List.length_take, Nat.min_eq_left (by simp [b5]; exact Nat.mul_le_mul_right _ bG)] at this
            rw [this]; simp [rD, rE, hw]
           have : (bT ++ l ++ (eS ++ (r ++ (b4 ++ mV)))) = (bT ++ (l ++ (eS ++ r) ++ b4)) ++ mV := by simp
           rw [List.length_set]
           simp only [this]
           rw [List.take_left' hlen]
           exact eZ
          ·rintro c (h | h | h)
           ·exact .inl (.inr (.inl h))
           ·exact .inl (.inr (.inr h))
           ·exact .inr h
          ·rintro (h | h | h)
           ·exact iS (fI _ h)
           ·exact iS (ga _ (aV _ h))
           ·exact hp _ h (.inl rfl)
        ·refine ⟨ew, wQ, eC, wR, l, r, aJ, .inr (.inr aT), bb, cn, c1, ?_⟩
         intro aB bj eS aH bg bE jR hw fA hp
         have eh := b6 aB bj eS aH bg (fun c aj cZ => bE c (.inr (.inr aj)) cZ) jR hw fA (fun b J aj => hp b J (.inr (.inr aj)))
         have cZ : ∀ c, bW c → c ≠ ew := by rintro c aj rfl; exact gV _ aj (aV _ aT)
         have eZ := kb aB _ _ _ bg (fun c aj => bE c (.inr (.inl aj)) (cZ c aj)) eh (by
          rintro b (J | J) aa
          ·exact gV _ aa (aV _ J)
          ·exact hp _ J (.inr (.inl aa)))
         have wS : b ≠ ew := by rintro rfl; exact iS (ga _ (aV _ aT))
         rw [iq, aq]
         refine .inr ⟨b, cap, cur, e, fr, fun b => bW b ∨ dH b ∨ aH b, by simp, .inl (.inl rfl), (bE b (.inl rfl) wS).trans aE, aZ, by simpa using bG, b7, b5, wO dG (kc bj hw), ?_, ?_, ?_⟩
         ·rw [List.length_set, p]; exact eZ
         ·rintro c (h | h | h)
          ·exact .inl (.inr (.inl h))
          ·exact .inl (.inr (.inr h))
          ·exact .inr h
         ·rintro (h | h | h)
          ·exact iS (fI _ h)
          ·exact iS (ga _ (aV _ h))
          ·exact hp _ h (.inl rfl)
     ·cases af
   | bD x =>
     cases k with
     | succ k => simp [j.sub] at af
     | zero =>
       simp only [j.sub] at af
       rw [aq] at h
       obtain ⟨b, cur, e, fr, dd, rfl, ab, aE, aZ, bG, b7, b5⟩ := h
       have hl := aq.length _ _ _ bG
       have h2 : kA w b 0 x.wd = cur.toList := by
        have := pN (l := []) (m := cur.toList) (r := []) aE (by simp)
        rwa [hl] at this
       obtain ⟨cv, cf, dH, fB, fQ, aV, bo, b8, dn, eg⟩ := ih x _ dd (some (b, 0)) d bG af
       have iq : ∀ bj, j.put (0 :: q) bj (.bD x) = .bD (j.put q bj x) := fun bj => rfl
       refine ⟨cv, cf, fun c => c = b ∨ dH c, fB, ?_, ?_, fun c aj => b7 _ (bo _ aj), ?_, dn, .inr ?_⟩
       ·simp only [cJ, h2]; exact fQ
       ·rintro c (rfl | h)
        ·exact ab
        ·exact b7 _ (aV _ h)
       ·rintro c (rfl | h) af
        ·exact b5 (bo _ af)
        ·exact b8 _ h af
       ·rcases eg with ⟨l, r, aJ, aT, bb⟩ | ⟨ew, wQ, eC, wR, l, r, aJ, aT, bb, cn, c1, b6⟩
        ·refine ⟨b, cur, e, fr, l, r, ?_, .inl rfl, aE, aZ, aJ, ?_⟩
         ·rw [aT]; simp
         ·intro aB bj eS aH bg bE jR hw fA hp
          have eh := bb aB bj eS aH bg (fun c aj => bE c (.inr aj) (by rintro rfl; exact b5 (aV _ aj))) hw fA (fun b J aj => hp b J (.inr aj))
          have rD := aq.length _ _ _ fA
          have rE := aq.length _ _ _ dn
          rw [iq, aq]
          refine ⟨b, _, e, fr, fun b => dH b ∨ aH b, rfl, .inl (.inl rfl), jR, ?_, eh, ?_, ?_⟩
          ·have : (l ++ (eS ++ r)).toArray.size = cur.size := by
            have : cur.size = cur.toList.length := by simp
            rw [this, aJ]; simp [rD, rE, hw]
           rw [this]; exact aZ
          ·rintro c (h | h)
           ·exact .inl (.inr h)
           ·exact .inr h
          ·rintro (h | h)
           ·exact b5 (aV _ h)
           ·exact hp _ h (.inl rfl)
        ·refine ⟨ew, wQ, eC, wR, l, r, aJ, .inr aT, bb, cn, c1, ?_⟩
         intro aB bj eS aH bg bE jR hw fA hp
         have eh := b6 aB bj eS aH bg (fun c aj cZ => bE c (.inr aj) cZ) jR hw fA (fun b J aj => hp b J (.inr aj))
         have wS : b ≠ ew := by rintro rfl; exact b5 (aV _ aT)
         rw [iq, aq]
         refine ⟨b, cur, e, fr, fun b => dH b ∨ aH b, rfl, .inl (.inl rfl), (bE b (.inl rfl) wS).trans aE, aZ, eh, ?_, ?_⟩
         ·rintro c (h | h)
          ·exact .inl (.inr h)
          ·exact .inr h
         ·rintro (h | h)
          ·exact b5 (aV _ h)
          ·exact hp _ h (.inl rfl)
   | _ => simp [j.sub] at af
mutual
def j.plain : j → Bool
 | .ay _ _ => false
 | .bD _ => false
 | .agg al => j.dz al
 | .tuple al => j.dz al
 | _ => true
def j.dz : List j → Bool
 | [] => true
 | d :: ds => d.plain && j.dz ds
end
mutual
def j.cD : j → j
 | .ay _ _ => .hole
 | .bD _ => .hole
 | .agg al => .agg (j.i_ al)
 | .tuple al => .tuple (j.i_ al)
 | d => d
def j.i_ : List j → List j
 | [] => []
 | d :: ds => d.cD :: j.i_ ds
end
mutual
theorem j.nu : ∀ d : j, d.cD.wd = d.wd
 | .hole => rfl
 | .bool _ => rfl
 | .dO => rfl
 | .int _ _ => rfl
 | .str _ => rfl
 | .cW => rfl
 | .a_ => rfl
 | .slice _ => rfl
 | .ay _ _ => rfl
 | .ref _ => rfl
 | .bD _ => rfl
 | .agg al => by simp only [j.cD, j.wd]; exact j.wT al
 | .tuple al => by simp only [j.cD, j.wd]; exact j.wT al
 | .fn _ _ => rfl
 | .h _ _ => rfl
 | .ao _ _ => rfl
 | .J _ _ => rfl
theorem j.wT : ∀ ds : List j, j.dm (j.i_ ds) = j.dm ds
 | [] => rfl
 | d :: ds => by simp only [j.i_, j.dm]; rw [j.nu d, j.wT ds]
end
mutual
theorem aq.cD {w : World} {F : Nat → Prop} : ∀ (d : j) (cs : List Value) (S aH : Nat → Prop), aq w F d cs S → aq w F d.cD cs aH
 | .hole, _, _, _, h => h
 | .bool _, _, _, _, h => h
 | .dO, _, _, _, h => h
 | .int _ _, _, _, _, h => h
 | .str _, _, _, _, h => h
 | .cW, _, _, _, h => h
 | .a_, _, _, _, h => h
 | .slice xs, cs, S, aH, h => by
   show aq w F (.slice xs) cs aH
   rw [aq] at h ⊢; exact h
 | .ay sz xs, cs, S, aH, h => by
   rw [j.cD, aq]
   rw [aq] at h
   rcases h with ⟨_, _, rfl⟩ | ⟨b, cap, cur, e, fr, dd, rfl, _⟩
   ·exact ⟨_, rfl, rfl⟩
   ·exact ⟨_, rfl, rfl⟩
 | .ref d, cs, S, aH, h => by
   show aq w F (.ref d) cs aH
   rw [aq] at h ⊢; exact h
 | .bD d, cs, S, aH, h => by
   rw [j.cD, aq]
   rw [aq] at h
   obtain ⟨b, cur, e, fr, dd, rfl, _⟩ := h
   exact ⟨_, rfl, rfl⟩
 | .agg al, cs, S, aH, h => by rw [j.cD, aq]; rw [aq] at h; exact aU.cD al _ _ _ h
 | .tuple al, cs, S, aH, h => by rw [j.cD, aq]; rw [aq] at h; exact aU.cD al _ _ _ h
 | .fn _ _, _, _, _, h => h
 | .h _ _, _, _, _, h => h
 | .ao _ _, _, _, _, h => h
 | .J _ _, _, _, _, h => h
theorem aU.cD {w : World} {F : Nat → Prop} : ∀ (ds : List j) (cs : List Value) (S aH : Nat → Prop), aU w F ds cs S → aU w F (j.i_ ds) cs aH
 | [], _, _, _, h => h
 | d :: ds, cs, S, aH, h => by
   rw [j.i_, aU]
   rw [aU] at h
   obtain ⟨bT, b4, bW, c6, aa, ab, aE, aZ, bG, b7⟩ := h
   exact ⟨bT, b4, fun _ => False, fun _ => False, aa, aq.cD d _ _ _ ab, aU.cD ds _ _ _ aE, fun _ h => h.elim, fun _ h => h.elim, fun _ h => h.elim⟩
end
mutual
theorem aq.plain {w : World} {F : Nat → Prop} : ∀ (d : j) (cs : List Value) (S aH : Nat → Prop), d.plain = true → aq w F d cs S → aq w F d cs aH
 | .hole, _, _, _, _, h => h
 | .bool _, _, _, _, _, h => h
 | .dO, _, _, _, _, h => h
 | .int _ _, _, _, _, _, h => h
 | .str _, _, _, _, _, h => h
 | .cW, _, _, _, _, h => h
 | .a_, _, _, _, _, h => h
 | .slice xs, cs, S, aH, _, h => by rw [aq] at h ⊢; exact h
 | .ay sz xs, cs, S, aH, ao, h => by simp [j.plain] at ao
 | .ref d, cs, S, aH, _, h => by rw [aq] at h ⊢; exact h
 | .bD d, cs, S, aH, ao, h => by simp [j.plain] at ao
 | .agg al, cs, S, aH, ao, h => by rw [aq] at h ⊢; exact aU.plain al _ _ _ ao h
 | .tuple al, cs, S, aH, ao, h => by rw [aq] at h ⊢; exact aU.plain al _ _ _ ao h
 | .fn _ _, _, _, _, _, h => h
 | .h _ _, _, _, _, _, h => h
 | .ao _ _, _, _, _, _, h => h
 | .J _ _, _, _, _, _, h => h
theorem aU.plain {w : World} {F : Nat → Prop} : ∀ (ds : List j) (cs : List Value) (S aH : Nat → Prop), j.dz ds = true → aU w F ds cs S → aU w F ds cs aH
 | [], _, _, _, _, h => h
 | d :: ds, cs, S, aH, ao, h => by
   rw [aU] at h ⊢
   simp only [j.dz, Bool.and_eq_true] at ao
   obtain ⟨bT, b4, bW, c6, aa, ab, aE, aZ, bG, b7⟩ := h
   exact ⟨bT, b4, fun _ => False, fun _ => False, aa, aq.plain d _ _ _ ao.1 ab, aU.plain ds _ _ _ ao.2 aE, fun _ h => h.elim, fun _ h => h.elim, fun _ h => h.elim⟩
end
def j.ei : List Nat → j → Bool
 | [], _ => false
 | k :: q, .agg al => match al[k]? with
   | some d => j.ei q d
   | none => false
 | k :: q, .tuple al => match al[k]? with
   | some d => j.ei q d
   | none => false
 | _ :: _, .ay _ _ => true
 | _ :: _, .bD _ => true
 | _ :: _, _ => false
theorem tC {al : List j} (h : j.dz al = true) {k : Nat} {d : j} (aw : al[k]? = some d) : d.plain = true := by
 induction al generalizing k with
 | nil => simp at aw
 | cons a al ih =>
   simp only [j.dz, Bool.and_eq_true] at h
   cases k with
   | zero => simp at aw; subst aw; exact h.1
   | succ k => simp at aw; exact ih h.2 aw
theorem j.zS : ∀ (q : List Nat) (d : j), d.plain = true → j.ei q d = false := by
 intro q
 induction q with
 | nil => intros; rfl
 | cons k q ih =>
   intro d af
   cases d <;> first | rfl | (simp [j.plain] at af; done) | skip
   all_goals
    simp only [j.ei]
    split
    ·rename_i al x ai; exact ih _ (tC (by simpa [j.plain] using af) ai)
    ·rfl
theorem j.zT : ∀ (q : List Nat) (d e : j), d.plain = true → j.sub q d = some e → e.plain = true := by
 intro q
 induction q with
 | nil => intro d e af h; simp [j.sub] at h; exact h ▸ af
 | cons k q ih =>
   intro d e af h
   cases d <;> first | (simp [j.plain] at af; done) | (simp [j.sub] at h; done) | skip
   all_goals
    simp only [j.sub] at h
    split at h
    ·rename_i al x ai; exact ih _ _ (tC (by simpa [j.plain] using af) ai) h
    ·cases h
theorem wU {w aB : World} {F : Nat → Prop} : ∀ (q : List Nat) (av : j) (cs : List Value) (S : Nat → Prop) (a : Option (Nat × Nat)) (d : j),
  aq w F av cs S → j.sub q av = some d → (∀ b, S b → aB.heap[b]? = w.heap[b]?) → cJ aB q av cs a = cJ w q av cs a := by
 intro q
 induction q with
 | nil => intros; rfl
 | cons k q ih =>
   have fields : ∀ (al : List j) (cs : List Value) (S : Nat → Prop) (a : Option (Nat × Nat)) (x d : j), aU w F al cs S → al[k]? = some x → j.sub q x = some d →
     (∀ b, S b → aB.heap[b]? = w.heap[b]?) →
     cJ aB q x ((cs.drop (j.dm (al.take k))).take x.wd) (a.map fun l => (l.1, l.2 + j.dm (al.take k))) = cJ w q x ((cs.drop (j.dm (al.take k))).take x.wd) (a.map fun l => (l.1, l.2 + j.dm (al.take k))) := by
    intro al cs S a x d h ai af bE
    obtain ⟨bT, eR, b4, bW, iE, rfl, gw, fI, ga, gV, fC, kb⟩ := aU.pick al cs S k x h ai
    rw [pL bT eR b4 _ _ gw (aq.length _ _ _ fC)]
    exact ih x eR iE _ d fC af (fun b J => bE b (ga _ J))
   intro av cs S a d h af bE
   cases av with
   | agg al =>
     simp only [j.sub] at af
     split at af
     ·rename_i x ai
      rw [aq] at h
      simp only [cJ, ai]
      exact fields al cs S a x d h ai af bE
     ·cases af
   | tuple al =>
     simp only [j.sub] at af
     split at af
     ·rename_i x ai
      rw [aq] at h
      simp only [cJ, ai]
      exact fields al cs S a x d h ai af bE
     ·cases af
   | ay sz xs =>
     simp only [j.sub] at af
     split at af
     ·rename_i x ai
      rw [aq] at h
      rcases h with ⟨rfl, _, rfl⟩ | ⟨b, cap, cur, e, fr, dd, rfl, ab, aE, aZ, bG, b7, b5, dG, gJ, fO, iS⟩
      ·simp at ai
      ·obtain ⟨bT, eR, b4, bW, iE, p, gw, fI, ga, gV, fC, kb⟩ := aU.pick xs _ dd k x gJ ai
       have hl := aq.length _ _ _ fC
       have Gc : k < xs.length := (List.getElem?_eq_some_iff.1 ai).1
       have rC : x.wd = sz := dG x (List.mem_of_getElem? ai)
       have bP : j.dm (xs.take k) = k * sz := by
        rw [oj _ (fun d af => dG d (List.mem_of_mem_take af))]
        rw [List.length_take, Nat.min_eq_left (by omega)]
       obtain ⟨mV, i9⟩ : ∃ mV, cur.toList = bT ++ (eR ++ (b4 ++ mV)) := by
        refine ⟨cur.toList.drop (xs.length * sz), ?_⟩
        have := (List.take_append_drop (xs.length * sz) cur.toList).symm
        rw [p] at this
        simpa using this
       have h2 : kA w b (k * sz) sz = eR := by
        have := pN aE i9
        rwa [gw, bP, hl, rC] at this
       have wV : kA aB b (k * sz) sz = eR := by
        have := pN ((bE b ab).trans aE) i9
        rwa [gw, bP, hl, rC] at this
       simp only [cJ, ai, h2, wV]
       exact ih x eR iE _ d fC af (fun c aj => bE c (fO _ (ga _ aj)))
     ·cases af
   | bD x =>
     cases k with
     | succ k => simp [j.sub] at af
     | zero =>
       simp only [j.sub] at af
       rw [aq] at h
       obtain ⟨b, cur, e, fr, dd, rfl, ab, aE, aZ, bG, b7, b5⟩ := h
       have hl := aq.length _ _ _ bG
       have h2 : kA w b 0 x.wd = cur.toList := by
        have := pN (l := []) (m := cur.toList) (r := []) aE (by simp)
        rwa [hl] at this
       have wV : kA aB b 0 x.wd = cur.toList := by
        have := pN (l := []) (m := cur.toList) (r := []) ((bE b ab).trans aE) (by simp)
        rwa [hl] at this
       simp only [cJ, h2, wV]
       exact ih x cur.toList dd _ d bG af (fun c aj => bE c (b7 _ aj))
   | _ => simp [j.sub] at af
def gx : Value → List Value
 | .agg cs => cs.toList
 | v => [v]
def ch : Value → List Value
 | .tuple vs => vs.toList.flatMap gx
 | v => gx v
def gW : j → Value → Prop
 | .agg _, v => ∃ arr, v = .agg arr
 | _, v => Value.fz v = true
def dt : j → Value → Prop
 | .tuple ds, v => ∃ arr : Array Value, v = .tuple arr ∧ arr.size = ds.length ∧ ∀ (k : Nat) (d : j) (x : Value), ds[k]? = some d → arr[k]? = some x → gW d x ∧ (∀ vs, d ≠ .tuple vs) ∧ (gx x).length = d.wd
 | d, v => gW d v
abbrev ag := Nat → j
mutual
def aF (w : World) (F : Nat → Prop) (s : ag) (au : Nat → Value) : j → Value → (Nat → Prop) → Prop
 | .hole, _, _ => True
 | .h x q, v, _ => ∀ d, j.sub q (s x) = some d → d.plain = false → ∃ cv a, cJ w q (s x) (ch (au x)) none = some (d, cv, a) ∧ ch v = cv ∧ dt d v
 | .ao x q, v, _ => ∀ d, j.sub q (s x) = some d → j.ei q (s x) = true → ∃ cv b o, cJ w q (s x) (ch (au x)) none = some (d, cv, some (b, o)) ∧ v = .pointer (some ⟨b, o, none⟩)
 | .J x k, v, _ => (s x).plain = false → ∃ b cur e fr, v = .pointer (some ⟨b, k, none⟩) ∧ F b ∧ w.heap[b]? = some (.cells cur e fr) ∧ cur.toList = ch (au x)
 | .fn f cap, v, _ => ∃ arr : Array Value, v = .func (.func f) #[] arr ∧ dC w F s au cap arr.toList
 | .bool b, v, S => dt (.bool b) v ∧ aq w F (.bool b) (ch v) S
 | .dO, v, S => dt .dO v ∧ aq w F .dO (ch v) S
 | .int k n, v, S => dt (.int k n) v ∧ aq w F (.int k n) (ch v) S
 | .str x, v, S => dt (.str x) v ∧ aq w F (.str x) (ch v) S
 | .cW, v, S => dt .cW v ∧ aq w F .cW (ch v) S
 | .a_, v, S => dt .a_ v ∧ aq w F .a_ (ch v) S
 | .slice xs, v, S => dt (.slice xs) v ∧ aq w F (.slice xs) (ch v) S
 | .ay sz xs, v, S => dt (.ay sz xs) v ∧ aq w F (.ay sz xs) (ch v) S
 | .ref d, v, S => dt (.ref d) v ∧ aq w F (.ref d) (ch v) S
 | .bD d, v, S => dt (.bD d) v ∧ aq w F (.bD d) (ch v) S
 | .agg d, v, S => dt (.agg d) v ∧ aq w F (.agg d) (ch v) S
 | .tuple d, v, S => dt (.tuple d) v ∧ aq w F (.tuple d) (ch v) S
def dC (w : World) (F : Nat → Prop) (s : ag) (au : Nat → Value) : List j → List Value → Prop
 | [], vs => vs = []
 | d :: ds, vs => ∃ v iF, vs = v :: iF ∧ aF w F s au d v (fun _ => False) ∧ dC w F s au ds iF
end
def j.tree : j → Bool
 | .hole => false
 | .h _ _ => false
 | .ao _ _ => false
 | .J _ _ => false
 | .fn _ _ => false
 | _ => true
theorem aF.cr {w : World} {F : Nat → Prop} {s : ag} {au : Nat → Value} {d : j} {v : Value} {S : Nat → Prop} (aP : d.tree = true) :
  aF w F s au d v S ↔ (dt d v ∧ aq w F d (ch v) S) := by
 cases d <;> first | (simp [j.tree] at aP; done) | rw [aF]
theorem gX {q : List Nat} {av d : j} (h : j.sub q av = some d) (ao : d.plain = false ∨ j.ei q av = true) : av.tree = true := by
 cases q with
 | nil =>
   simp [j.sub] at h; subst h
   rcases ao with ao | ao
   ·cases av <;> first | rfl | (simp [j.plain] at ao)
   ·simp [j.ei] at ao
 | cons k q => cases av <;> first | rfl | (simp [j.sub] at h)
theorem wW {d : j} (h : d.plain = false) : d.tree = true := gX (q := []) (by simp only [j.sub]) (.inl h)
theorem aF.frame {w aB : World} {F bA : Nat → Prop} {s : ag} {au : Nat → Value} {Sx : Nat → Nat → Prop} (bg : ∀ b, F b → aB.heap[b]? = w.heap[b]?) (zU : ∀ b, F b → bA b)
  (bE : ∀ x b, Sx x b → aB.heap[b]? = w.heap[b]?) (k9 : ∀ x, aF w F s au (s x) (au x) (Sx x)) :
  ∀ (d : j) (v : Value) (S : Nat → Prop), (∀ b, S b → aB.heap[b]? = w.heap[b]?) → aF w F s au d v S → aF aB bA s au d v S := by
 have ja : ∀ (x : Nat) (q : List Nat) (d : j), j.sub q (s x) = some d → (d.plain = false ∨ j.ei q (s x) = true) → cJ aB q (s x) (ch (au x)) none = cJ w q (s x) (ch (au x)) none := by
  intro x q d af ao
  have aP := gX af ao
  have := k9 x
  rw [aF.cr aP] at this
  exact wU q _ _ (Sx x) none d this.2 af (bE x)
 have mq : ∀ (d : j) (v : Value) (S : Nat → Prop), d.tree = true → (∀ b, S b → aB.heap[b]? = w.heap[b]?) → aF w F s au d v S → aF aB bA s au d v S := by
  intro d v S aP om h
  rw [aF.cr aP] at h ⊢
  exact ⟨h.1, aq.mono zU _ _ _ _ (fun _ h => h) (aq.frame bg _ _ _ om h.2)⟩
 have step : ∀ n, (∀ (d : j) (v : Value) (S : Nat → Prop), SizeOf.sizeOf d ≤ n → (∀ b, S b → aB.heap[b]? = w.heap[b]?) → aF w F s au d v S → aF aB bA s au d v S) ∧
   (∀ (ds : List j) (vs : List Value), SizeOf.sizeOf ds ≤ n → dC w F s au ds vs → dC aB bA s au ds vs) := by
  intro n
  induction n with
  | zero =>
    refine ⟨fun d v S bw => ?_, fun ds vs bw => ?_⟩
    ·cases d <;> simp at bw <;> omega
    ·cases ds <;> simp at bw <;> omega
  | succ n ih =>
    refine ⟨fun d v S bw om h => ?_, fun ds vs bw h => ?_⟩
    ·cases d with
     | hole => rw [aF]; trivial
     | h x q =>
       rw [aF] at h ⊢
       intro d af ao
       rw [ja x q d af (.inl ao)]
       exact h d af ao
     | ao x q =>
       rw [aF] at h ⊢
       intro d af ao
       rw [ja x q d af (.inr ao)]
       exact h d af ao
     | J x k =>
       rw [aF] at h ⊢
       intro ao
       obtain ⟨b, cur, e, fr, aa, ab, aE, aZ⟩ := h ao
       exact ⟨b, cur, e, fr, aa, zU b ab, (bg b ab).trans aE, aZ⟩
     | fn f cap =>
       rw [aF] at h ⊢
       obtain ⟨arr, rfl, aj⟩ := h
       exact ⟨arr, rfl, ih.2 _ _ (by simp at bw; omega) aj⟩
     | _ => exact mq _ _ _ rfl om h
    ·cases ds with
     | nil => rw [dC] at h ⊢; exact h
     | cons d ds =>
       rw [dC] at h ⊢
       obtain ⟨v, iF, rfl, aa, ab⟩ := h
       simp at bw
       exact ⟨v, iF, rfl, ih.1 _ _ _ (by omega) (fun _ h => h.elim) aa, ih.2 _ _ (by omega) ab⟩
 intro d v S om h
 exact (step (SizeOf.sizeOf d)).1 d v S (Nat.le_refl _) om h
mutual
def ca (x : Nat) : j → j
 | .h y q => if y = x then .hole else .h y q
 | .ao y q => if y = x then .hole else .ao y q
 | .J y k => if y = x then .hole else .J y k
 | .fn f cap => .fn f (hq x cap)
 | d => d
def hq (x : Nat) : List j → List j
 | [] => []
 | d :: ds => ca x d :: hq x ds
end
mutual
def bJ (x : Nat) : j → j
 | .h y q => if y = x then (if q = [] then .h y q else .hole) else .h y q
 | .ao y q => if y = x then .hole else .ao y q
 | .fn f cap => .fn f (gY x cap)
 | d => d
def gY (x : Nat) : List j → List j
 | [] => []
 | d :: ds => bJ x d :: gY x ds
end
def cS {α : Type} (f : Nat → α) (t : Nat) (v : α) : Nat → α := fun u => if u = t then v else f u
def jS (t : Nat) (s : ag) : ag := fun u => ca t (s u)
def g9 (t : Nat) (s : ag) : ag := fun u => bJ t (s u)
theorem k_ {α : Type} (f : Nat → α) (t : Nat) (v : α) : cS f t v t = v := by simp [cS]
theorem ir {α : Type} (f : Nat → α) {t u : Nat} (v : α) (h : u ≠ t) : cS f t v u = f u := by simp [cS, h]
theorem Gd {t : Nat} {d : j} (h : d.tree = true) : ca t d = d := by cases d <;> first | rfl | (simp [j.tree] at h)
theorem wX {t : Nat} {d : j} (h : d.tree = true) : bJ t d = d := by cases d <;> first | rfl | (simp [j.tree] at h)
theorem Ge {t : Nat} {d : j} (h : (ca t d).tree = true) : d.tree = true ∧ ca t d = d := by
 cases d <;> first | exact ⟨rfl, rfl⟩ | (simp only [ca] at h; first | (split at h <;> simp [j.tree] at h) | simp [j.tree] at h)
theorem wY {t : Nat} {d : j} (h : (bJ t d).tree = true) : d.tree = true ∧ bJ t d = d := by
 cases d <;> first | exact ⟨rfl, rfl⟩ | (simp only [bJ] at h; first | (split at h <;> (try split at h) <;> simp [j.tree] at h) | simp [j.tree] at h)
section
variable {w : World} {F : Nat → Prop} {s ak : ag} {au gy : Nat → Value} {t : Nat}
theorem aF.ca (fJ : ∀ x, x ≠ t → (ak x).tree = true → ak x = s x ∧ gy x = au x) : ∀ (n : Nat),
  (∀ (d : j) (v : Value) (S : Nat → Prop), SizeOf.sizeOf d ≤ n → aF w F s au d v S → aF w F ak gy (cM.ca t d) v S) ∧
  (∀ (ds : List j) (vs : List Value), SizeOf.sizeOf ds ≤ n → dC w F s au ds vs → dC w F ak gy (hq t ds) vs) := by
 intro n
 induction n with
 | zero =>
   refine ⟨fun d v S bw => ?_, fun ds vs bw => ?_⟩
   ·cases d <;> simp at bw <;> omega
   ·cases ds <;> simp at bw <;> omega
 | succ n ih =>
   refine ⟨fun d v S bw h => ?_, fun ds vs bw h => ?_⟩
   ·cases d with
    | hole => rw [cM.ca.eq_def]; simp only; rw [aF]; trivial
    | h x q =>
      simp only [cM.ca]
      split
      ·rw [aF]; trivial
      ·rename_i ai
       rw [aF] at h ⊢
       intro d af ao
       obtain ⟨aJ, aT⟩ := fJ x ai (gX af (.inl ao))
       rw [aJ, aT]; rw [aJ] at af
       exact h d af ao
    | ao x q =>
      simp only [cM.ca]
      split
      ·rw [aF]; trivial
      ·rename_i ai
       rw [aF] at h ⊢
       intro d af ao
       obtain ⟨aJ, aT⟩ := fJ x ai (gX af (.inr ao))
       rw [aJ, aT]; rw [aJ] at af ao
       exact h d af ao
    | J x k =>
      simp only [cM.ca]
      split
      ·rw [aF]; trivial
      ·rename_i ai
       rw [aF] at h ⊢
       intro ao
       obtain ⟨aJ, aT⟩ := fJ x ai (wW ao)
       rw [aT]; rw [aJ] at ao
       exact h ao
    | fn f cap =>
      simp only [cM.ca]
      rw [aF] at h ⊢
      obtain ⟨arr, rfl, aj⟩ := h
      exact ⟨arr, rfl, ih.2 _ _ (by simp at bw; omega) aj⟩
    | _ =>
      rw [Gd (by rfl)]
      exact (aF.cr (by rfl)).2 ((aF.cr (by rfl)).1 h)
   ·cases ds with
    | nil => rw [hq, dC]; rw [dC] at h; exact h
    | cons d ds =>
      rw [hq, dC]; rw [dC] at h
      obtain ⟨v, iF, rfl, aa, ab⟩ := h
      simp at bw
      exact ⟨v, iF, rfl, ih.1 _ _ _ (by omega) aa, ih.2 _ _ (by omega) ab⟩
theorem aF.bJ {aB : World} (fJ : ∀ x, x ≠ t → (ak x).tree = true → ak x = s x ∧ gy x = au x) (mr : gy t = au t) (hO : (ak t).plain = false → (s t).plain = false ∧ ∀ v, dt (s t) v → dt (ak t) v)
  (ja : ∀ x q d, x ≠ t → j.sub q (s x) = some d → (d.plain = false ∨ j.ei q (s x) = true) → cJ aB q (s x) (ch (au x)) none = cJ w q (s x) (ch (au x)) none)
  (bg : ∀ b, F b → aB.heap[b]? = w.heap[b]?) : ∀ (n : Nat),
  (∀ (d : j) (v : Value) (S : Nat → Prop), SizeOf.sizeOf d ≤ n → (∀ b, S b → aB.heap[b]? = w.heap[b]?) → aF w F s au d v S → aF aB F ak gy (cM.bJ t d) v S) ∧
  (∀ (ds : List j) (vs : List Value), SizeOf.sizeOf ds ≤ n → dC w F s au ds vs → dC aB F ak gy (gY t ds) vs) := by
 intro n
 induction n with
 | zero =>
   refine ⟨fun d v S bw => ?_, fun ds vs bw => ?_⟩
   ·cases d <;> simp at bw <;> omega
   ·cases ds <;> simp at bw <;> omega
 | succ n ih =>
   refine ⟨fun d v S bw om h => ?_, fun ds vs bw h => ?_⟩
   ·cases d with
    | hole => rw [cM.bJ.eq_def]; simp only; rw [aF]; trivial
    | h x q =>
      simp only [cM.bJ]
      split
      ·rename_i ai
       subst ai
       split
       ·rename_i cT
        subst cT
        rw [aF] at h ⊢
        intro d af ao
        simp only [j.sub, Option.some.injEq] at af
        subst af
        obtain ⟨eh, eZ⟩ := hO ao
        obtain ⟨cv, a, aV, bo, b8⟩ := h (s x) rfl eh
        simp only [cJ, Option.some.injEq, Prod.mk.injEq] at aV
        obtain ⟨-, aV, ZR⟩ := aV
        refine ⟨ch (gy x), none, rfl, ?_, eZ _ b8⟩
        rw [mr, bo, ← aV]
       ·rw [aF]; trivial
      ·rename_i ai
       rw [aF] at h ⊢
       intro d af ao
       obtain ⟨aJ, aT⟩ := fJ x ai (gX af (.inl ao))
       rw [aJ, aT]; rw [aJ] at af
       rw [ja x q d ai af (.inl ao)]
       exact h d af ao
    | ao x q =>
      simp only [cM.bJ]
      split
      ·rw [aF]; trivial
      ·rename_i ai
       rw [aF] at h ⊢
       intro d af ao
       obtain ⟨aJ, aT⟩ := fJ x ai (gX af (.inr ao))
       rw [aJ, aT]; rw [aJ] at af ao
       rw [ja x q d ai af (.inr ao)]
       exact h d af ao
    | J x k =>
      simp only [cM.bJ]
      rw [aF] at h ⊢
      intro ao
      by_cases ai : x = t
      ·subst ai
       obtain ⟨b, cur, e, fr, aa, ab, aE, aZ⟩ := h (hO ao).1
       exact ⟨b, cur, e, fr, aa, ab, (bg b ab).trans aE, by rw [mr]; exact aZ⟩
      ·obtain ⟨aJ, aT⟩ := fJ x ai (wW ao)
       rw [aJ] at ao
       obtain ⟨b, cur, e, fr, aa, ab, aE, aZ⟩ := h ao
       exact ⟨b, cur, e, fr, aa, ab, (bg b ab).trans aE, by rw [aT]; exact aZ⟩
    | fn f cap =>
      simp only [cM.bJ]
      rw [aF] at h ⊢
      obtain ⟨arr, rfl, aj⟩ := h
      exact ⟨arr, rfl, ih.2 _ _ (by simp at bw; omega) aj⟩
    | _ =>
      rw [wX (by rfl)]
      have bq := (aF.cr (by rfl)).1 h
      exact (aF.cr (by rfl)).2 ⟨bq.1, aq.frame bg _ _ _ om bq.2⟩
   ·cases ds with
    | nil => rw [gY, dC]; rw [dC] at h; exact h
    | cons d ds =>
      rw [gY, dC]; rw [dC] at h
      obtain ⟨v, iF, rfl, aa, ab⟩ := h
      simp at bw
      exact ⟨v, iF, rfl, ih.1 _ _ _ (by omega) (fun _ h => h.elim) aa, ih.2 _ _ (by omega) ab⟩
theorem aF.void (fJ : ∀ x, x ≠ t → (ak x).tree = true → ak x = s x ∧ gy x = au x) (nv : (ak t).plain = true) : ∀ (n : Nat),
  (∀ (d : j) (v : Value) (S : Nat → Prop), SizeOf.sizeOf d ≤ n → aF w F s au d v S → aF w F ak gy d v S) ∧
  (∀ (ds : List j) (vs : List Value), SizeOf.sizeOf ds ≤ n → dC w F s au ds vs → dC w F ak gy ds vs) := by
 intro n
 induction n with
 | zero =>
   refine ⟨fun d v S bw => ?_, fun ds vs bw => ?_⟩
   ·cases d <;> simp at bw <;> omega
   ·cases ds <;> simp at bw <;> omega
 | succ n ih =>
   refine ⟨fun d v S bw h => ?_, fun ds vs bw h => ?_⟩
   ·cases d with
    | hole => rw [aF]; trivial
    | h x q =>
      rw [aF] at h ⊢
      intro d af ao
      by_cases ai : x = t
      ·subst ai
       rw [j.zT _ _ _ nv af] at ao; cases ao
      ·obtain ⟨aJ, aT⟩ := fJ x ai (gX af (.inl ao))
       rw [aJ, aT]; rw [aJ] at af
       exact h d af ao
    | ao x q =>
      rw [aF] at h ⊢
      intro d af ao
      by_cases ai : x = t
      ·subst ai
       rw [j.zS _ _ nv] at ao; cases ao
      ·obtain ⟨aJ, aT⟩ := fJ x ai (gX af (.inr ao))
       rw [aJ, aT]; rw [aJ] at af ao
       exact h d af ao
    | J x k =>
      rw [aF] at h ⊢
      intro ao
      by_cases ai : x = t
      ·subst ai; rw [nv] at ao; cases ao
      ·obtain ⟨aJ, aT⟩ := fJ x ai (wW ao)
       rw [aT]; rw [aJ] at ao
       exact h ao
    | fn f cap =>
      rw [aF] at h ⊢
      obtain ⟨arr, rfl, aj⟩ := h
      exact ⟨arr, rfl, ih.2 _ _ (by simp at bw; omega) aj⟩
    | _ => exact (aF.cr (by rfl)).2 ((aF.cr (by rfl)).1 h)
   ·cases ds with
    | nil => rw [dC]; rw [dC] at h; exact h
    | cons d ds =>
      rw [dC]; rw [dC] at h
      obtain ⟨v, iF, rfl, aa, ab⟩ := h
      simp at bw
      exact ⟨v, iF, rfl, ih.1 _ _ _ (by omega) aa, ih.2 _ _ (by omega) ab⟩
end
structure bB (w0 : World) (F0 X F : Nat → Prop) (S : Nat → Nat → Prop) (s : ag) (au : Nat → Value) (w : World) : Prop where
 gb : ∀ b, F0 b → F b
 gz : ∀ b, F b → F0 b ∨ X b ∨ w0.heap.size ≤ b
 e0 : ∀ b, F b → b < w.heap.size
 dP : ∀ t b, S t b → b < w.heap.size
 e7 : ∀ t b, S t b → ¬ F b
 eT : ∀ t u b, t ≠ u → S t b → ¬ S u b
 dd : ∀ t b, S t b → X b ∨ w0.heap.size ≤ b
 c7 : ∀ t, aF w F s au (s t) (au t) (S t)
 old : ∀ b, b < w0.heap.size → ¬ X b → w.heap[b]? = w0.heap[b]?
 size : w0.heap.size ≤ w.heap.size
 os : w.os = w0.os
 tape : w.tape = w0.tape
 output : w.output = w0.output
section
variable {w0 w aB : World} {F0 X F : Nat → Prop} {S : Nat → Nat → Prop} {s : ag} {au : Nat → Value}
theorem bB.grow (h : bB w0 F0 X F S s au w) (J : ∀ b, b < w.heap.size → aB.heap[b]? = w.heap[b]?) (U : w.heap.size ≤ aB.heap.size)
  (aa : aB.os = w.os) (ab : aB.tape = w.tape) (aE : aB.output = w.output) : bB w0 F0 X F S s au aB where
 gb := h.gb
 gz := h.gz
 e0 := fun b bg => Nat.lt_of_lt_of_le (h.e0 b bg) U
 dP := fun t b bg => Nat.lt_of_lt_of_le (h.dP t b bg) U
 e7 := h.e7
 eT := h.eT
 dd := h.dd
 c7 := fun t => aF.frame (Sx := S) (fun b bg => J b (h.e0 b bg)) (fun _ h => h) (fun x b bE => J b (h.dP x b bE)) h.c7 _ _ _ (fun b bE => J b (h.dP t b bE)) (h.c7 t)
 old := fun b dL iG => (J b (Nat.lt_of_lt_of_le dL h.size)).trans (h.old b dL iG)
 size := Nat.le_trans h.size U
 os := aa.trans h.os
 tape := ab.trans h.tape
 output := aE.trans h.output
def fD (S : Nat → Nat → Prop) (t : Nat) (Sn : Nat → Prop) : Nat → Nat → Prop := fun u b => if u = t then Sn b else S u b
theorem tD (S : Nat → Nat → Prop) (t : Nat) (Sn : Nat → Prop) : fD S t Sn t = Sn := by funext b; simp [fD]
theorem tE (S : Nat → Nat → Prop) {t u : Nat} (Sn : Nat → Prop) (h : u ≠ t) : fD S t Sn u = S u := by funext b; simp [fD, h]
theorem bB.rF (h : bB w0 F0 X F S s au w) {t : Nat} {d : j} {v : Value} (ao : d.plain = true) (af : aF w F s au d v (fun _ => False)) :
  bB w0 F0 X F (fD S t (fun _ => False)) (cS s t d) (cS au t v) w where
 gb := h.gb
 gz := h.gz
 e0 := h.e0
 dP := fun u b J => by simp only [fD] at J; split at J; exact J.elim; exact h.dP u b J
 e7 := fun u b J => by simp only [fD] at J; split at J; exact J.elim; exact h.e7 u b J
 eT := fun u x b cZ J ai => by
  simp only [fD] at J ai
  split at J
  ·exact J.elim
  ·split at ai
   ·exact ai.elim
   ·exact h.eT u x b cZ J ai
 dd := fun u b J => by simp only [fD] at J; split at J; exact J.elim; exact h.dd u b J
 c7 := fun u => by
  have fJ : ∀ x, x ≠ t → (cS s t d x).tree = true → cS s t d x = s x ∧ cS au t v x = au x := fun x ai _ => ⟨ir _ _ ai, ir _ _ ai⟩
  have nv : (cS s t d t).plain = true := by rw [k_]; exact ao
  by_cases hu : u = t
  ·subst hu
   rw [k_, k_, tD]
   exact (aF.void fJ nv _).1 _ _ _ (Nat.le_refl _) af
  ·rw [ir _ _ hu, ir _ _ hu, tE _ _ hu]
   exact (aF.void fJ nv _).1 _ _ _ (Nat.le_refl _) (h.c7 u)
 old := h.old
 size := h.size
 os := h.os
 tape := h.tape
 output := h.output
theorem bB.zV (h : bB w0 F0 X F S s au w) {t : Nat} {d : j} {v : Value} {Sn : Nat → Prop} (af : d.tree = true) (U : dt d v) (aG : aq w F d (ch v) Sn)
  (dL : ∀ b, Sn b → b < w.heap.size) (bg : ∀ b, Sn b → ¬ F b) (bE : ∀ u b, u ≠ t → Sn b → ¬ S u b) (bp : ∀ b, Sn b → X b ∨ w0.heap.size ≤ b) :
  bB w0 F0 X F (fD S t Sn) (cS (jS t s) t d) (cS au t v) w where
 gb := h.gb
 gz := h.gz
 e0 := h.e0
 dP := fun u b J => by simp only [fD] at J; split at J; exact dL b J; exact h.dP u b J
 e7 := fun u b J => by simp only [fD] at J; split at J; exact bg b J; exact h.e7 u b J
 eT := fun u x b cZ J ai => by
  simp only [fD] at J ai
  split at J
  ·rename_i hu
   rw [if_neg (fun e => cZ (hu.trans e.symm))] at ai
   exact bE x b (fun e => cZ (hu.trans e.symm)) J ai
  ·rename_i hu
   split at ai
   ·exact bE u b hu ai J
   ·exact h.eT u x b cZ J ai
 dd := fun u b J => by simp only [fD] at J; split at J; exact bp b J; exact h.dd u b J
 c7 := fun u => by
  have fJ : ∀ x, x ≠ t → (cS (jS t s) t d x).tree = true → cS (jS t s) t d x = s x ∧ cS au t v x = au x := fun x ai aP => by
   rw [ir _ _ ai] at aP ⊢
   exact ⟨(Ge aP).2, ir _ _ ai⟩
  by_cases hu : u = t
  ·subst hu
   rw [k_, k_, tD]
   exact (aF.cr af).2 ⟨U, aG⟩
  ·rw [ir _ _ hu, ir _ _ hu, tE _ _ hu]
   exact (aF.ca fJ _).1 _ _ _ (Nat.le_refl _) (h.c7 u)
 old := h.old
 size := h.size
 os := h.os
 tape := h.tape
 output := h.output
theorem oo (k : Nat) (q : List Nat) (bj x : j) : (∃ al gs, x = .agg al ∧ j.put (k :: q) bj x = .agg gs) ∨ (∃ al gs, x = .tuple al ∧ j.put (k :: q) bj x = .tuple gs) ∨
  (∃ sz xs bM, x = .ay sz xs ∧ j.put (k :: q) bj x = .ay sz bM) ∨ (∃ y z, x = .bD y ∧ j.put (k :: q) bj x = .bD z) ∨ j.put (k :: q) bj x = x := by
 cases x with
 | agg al => simp only [j.put]; split <;> exact .inl ⟨_, _, rfl, rfl⟩
 | tuple al => simp only [j.put]; split <;> exact .inr (.inl ⟨_, _, rfl, rfl⟩)
 | ay sz al => simp only [j.put]; split <;> exact .inr (.inr (.inl ⟨_, _, _, rfl, rfl⟩))
 | bD y => cases k <;> exact .inr (.inr (.inr (.inl ⟨_, _, rfl, rfl⟩)))
 | _ => exact .inr (.inr (.inr (.inr rfl)))
theorem zW {k : Nat} {q : List Nat} {bj x : j} {v : Value} (h : gW x v) : gW (j.put (k :: q) bj x) v := by
 rcases oo k q bj x with ⟨al, gs, rfl, e⟩ | ⟨al, gs, rfl, e⟩ | ⟨sz, xs, bM, rfl, e⟩ | ⟨y, z, rfl, e⟩ | e <;> rw [e] <;> exact h
theorem zX {k : Nat} {q : List Nat} {bj x : j} (h : ∀ vs, x ≠ .tuple vs) : ∀ vs, j.put (k :: q) bj x ≠ .tuple vs := by
 rcases oo k q bj x with ⟨al, gs, rfl, e⟩ | ⟨al, gs, rfl, e⟩ | ⟨sz, xs, bM, rfl, e⟩ | ⟨y, z, rfl, e⟩ | e <;> rw [e] <;> first | exact h | (intro vs bq; cases bq; done) | exact (h _ rfl).elim
theorem wZ {k : Nat} {q : List Nat} {d bj av : j} {v : Value} (h : dt av v) (af : j.sub (k :: q) av = some d) (aa : ∀ v, gW d v → gW bj v) (ab : (∀ vs, d ≠ .tuple vs) → ∀ vs, bj ≠ .tuple vs) (aE : bj.wd = d.wd) :
  dt (j.put (k :: q) bj av) v := by
 cases av with
 | tuple al =>
   simp only [j.sub] at af
   split at af
   ·rename_i x ai
    simp only [j.put, ai]
    simp only [dt] at h ⊢
    obtain ⟨arr, rfl, bw, k9⟩ := h
    refine ⟨arr, rfl, by simpa using bw, fun ar e y he bC => ?_⟩
    rw [List.getElem?_set] at he
    split at he
    ·rename_i w1
     subst w1
     split at he
     ·simp only [Option.some.injEq] at he
      subst he
      obtain ⟨aV, bo, b8⟩ := k9 k x y ai bC
      refine ⟨?_, ?_, b8.trans (j.pM q x d bj af aE).symm⟩
      ·cases q with
       | nil =>
         simp only [j.sub, Option.some.injEq] at af
         subst af
         exact aa _ aV
       | cons cj q => exact zW aV
      ·cases q with
       | nil =>
         simp only [j.sub, Option.some.injEq] at af
         subst af
         exact ab bo
       | cons cj q => exact zX bo
     ·cases he
    ·exact k9 ar e y he bC
   ·cases af
 | agg al => simp only [j.put]; split <;> exact h
 | ay sz al => simp only [j.put]; split <;> exact h
 | bD y => cases k <;> exact h
 | _ => exact h
theorem w2 {d : j} {v : Value} (h : gW d v) : gW d.cD v := by cases d <;> exact h
theorem zY {s : ag} {x : Nat} {q : List Nat} {d : j} (af : j.sub q (s x) = some d) (ao : d.plain = false) :
  (cS (g9 x s) x (j.put q d.cD (s x)) x).plain = false → (s x).plain = false ∧ ∀ v, dt (s x) v → dt (cS (g9 x s) x (j.put q d.cD (s x)) x) v := by
  rw [k_]
  intro gj
  cases q with
  | nil =>
    exfalso
    have : ∀ d : j, d.cD.plain = true := by
     intro d
     have key : ∀ n, (∀ d : j, SizeOf.sizeOf d ≤ n → d.cD.plain = true) ∧ (∀ ds : List j, SizeOf.sizeOf ds ≤ n → j.dz (j.i_ ds) = true) := by
      intro n
      induction n with
      | zero => exact ⟨fun d bw => by cases d <;> simp at bw <;> omega, fun ds bw => by cases ds <;> simp at bw <;> omega⟩
      | succ n ih =>
        refine ⟨fun d bw => ?_, fun ds bw => ?_⟩
        ·cases d with
         | agg al => simp only [j.cD, j.plain]; exact ih.2 _ (by simp at bw; omega)
         | tuple al => simp only [j.cD, j.plain]; exact ih.2 _ (by simp at bw; omega)
         | _ => rfl
        ·cases ds with
         | nil => rfl
         | cons d ds =>
           simp at bw
           simp only [j.i_, j.dz, Bool.and_eq_true]
           exact ⟨ih.1 _ (by omega), ih.2 _ (by omega)⟩
     exact (key _).1 d (Nat.le_refl _)
    simp only [j.put] at gj
    rw [this] at gj
    cases gj
  | cons k q =>
    refine ⟨?_, fun v aG => wZ aG af (fun v h => w2 h) (fun h vs e => ?_) (j.nu d)⟩
    ·cases w3 : (s x).plain with
     | false => rfl
     | true => rw [j.zT _ _ _ w3 af] at ao; cases ao
    ·cases d <;> first | (exact h _ rfl) | (simp [j.cD] at e)
theorem bB.take (h : bB w0 F0 X F S s au w) {x : Nat} {q : List Nat} {d : j} (af : j.sub q (s x) = some d) (ao : d.plain = false) :
  ∃ (Sn fB : Nat → Prop) (cv : List Value) (a : Option (Nat × Nat)), bB w0 F0 X F (fD S x Sn) (cS (g9 x s) x (j.put q d.cD (s x))) au w ∧
    cJ w q (s x) (ch (au x)) none = some (d, cv, a) ∧ aq w F d cv fB ∧ (∀ b, fB b → S x b) ∧ (∀ b, Sn b → S x b) ∧ (∀ b, fB b → ¬ Sn b) ∧
    (∀ (bj : j) (v : Value) (aH : Nat → Prop), aF w F s au bj v aH → aF w F (cS (g9 x s) x (j.put q d.cD (s x))) au (cM.bJ x bj) v aH) := by
 have aP := gX af (.inl ao)
 have ai := h.c7 x
 rw [aF.cr aP] at ai
 obtain ⟨cv, a, dH, fB, fQ, aV, bo, b8, dn, eg⟩ := ctx q (s x) (ch (au x)) (S x) none d ai.2 af
 have iq : aq w F (j.put q d.cD (s x)) (ch (au x)) dH := by
  have kd : aq w F d.cD cv (fun _ => False) := aq.cD _ _ _ _ dn
  have pO : ∀ b, (dH b ∨ False) → dH b := fun b h => h.elim id False.elim
  rcases eg with ⟨l, r, aJ, aT, bb⟩ | ⟨b, cur, e, fr, l, r, aJ, aT, bb, cn, c1, b6⟩
  ·have := bb w _ cv _ (fun _ _ => rfl) (fun _ _ => rfl) (j.nu d) kd (fun _ h => h.elim)
   rw [← aJ] at this
   exact aq.mono (fun _ h => h) _ _ _ _ pO this
  ·have := b6 w _ cv _ (fun _ _ => rfl) (fun _ _ _ => rfl) (by rw [bb, ← c1]) (j.nu d) kd (fun _ h => h.elim)
   exact aq.mono (fun _ h => h) _ _ _ _ pO this
 have Gf : dt (j.put q d.cD (s x)) (au x) ∧ (j.put q d.cD (s x)).tree = true ∨ j.put q d.cD (s x) = .hole := by
  cases q with
  | nil =>
    simp only [j.sub, Option.some.injEq] at af
    subst af
    simp only [j.put]
    cases U : s x with
    | ay sz xs => right; rfl
    | bD y => right; rfl
    | agg al => left; rw [U] at ai; exact ⟨ai.1, rfl⟩
    | tuple al =>
      left
      rw [U] at ai
      refine ⟨?_, rfl⟩
      simp only [dt, j.cD] at ai ⊢
      obtain ⟨arr, e, bw, k9⟩ := ai.1
      have hl : ∀ al : List j, j.i_ al = al.map j.cD := by
       intro al; induction al with
       | nil => rfl
       | cons a al ih => simp [j.i_, ih]
      refine ⟨arr, e, by rw [hl]; simpa using bw, fun k eC y he bC => ?_⟩
      rw [hl, List.getElem?_map] at he
      cases aw : al[k]? with
      | none => rw [aw] at he; cases he
      | some z =>
        rw [aw] at he
        simp only [Option.map_some, Option.some.injEq] at he
        subst he
        obtain ⟨aV, bo, b8⟩ := k9 k z y aw bC
        refine ⟨w2 aV, fun vs e => ?_, b8.trans (j.nu z).symm⟩
        cases z <;> first | (exact bo _ rfl) | (simp [j.cD] at e)
    | _ => rw [U] at ao; simp [j.plain] at ao
  | cons k q =>
    left
    refine ⟨wZ ai.1 af (fun v h => w2 h) (fun h vs e => ?_) (j.nu d), ?_⟩
    ·cases d <;> first | (exact h _ rfl) | (simp [j.cD] at e)
    ·rcases oo k q d.cD (s x) with ⟨al, gs, aJ, e⟩ | ⟨al, gs, aJ, e⟩ | ⟨sz, xs, bM, aJ, e⟩ | ⟨y, z, aJ, e⟩ | e <;> rw [e] <;> first | rfl | exact aP
 refine ⟨dH, fB, cv, a, ?_, fQ, dn, bo, aV, fun b aa ab => b8 b ab aa, ?_⟩
 rotate_left
 ·have fJ : ∀ y, y ≠ x → (cS (g9 x s) x (j.put q d.cD (s x)) y).tree = true → cS (g9 x s) x (j.put q d.cD (s x)) y = s y ∧ au y = au y := fun y bC aP => by
   rw [ir _ _ bC] at aP ⊢
   exact ⟨(wY aP).2, rfl⟩
  intro bj v aH fA
  exact (aF.bJ fJ rfl (zY af ao) (fun _ _ _ _ _ _ => rfl) (fun _ _ => rfl) _).1 _ _ _ (Nat.le_refl _) (fun _ _ => rfl) fA
 have fJ : ∀ y, y ≠ x → (cS (g9 x s) x (j.put q d.cD (s x)) y).tree = true → cS (g9 x s) x (j.put q d.cD (s x)) y = s y ∧ au y = au y := fun y bC aP => by
  rw [ir _ _ bC] at aP ⊢
  exact ⟨(wY aP).2, rfl⟩
 have hO := zY (s := s) (x := x) af ao
 constructor
 case gb => exact h.gb
 case gz => exact h.gz
 case e0 => exact h.e0
 case dP => exact fun u b J => by simp only [fD] at J; split at J; exact h.dP x b (aV b J); exact h.dP u b J
 case e7 => exact fun u b J => by simp only [fD] at J; split at J; exact h.e7 x b (aV b J); exact h.e7 u b J
 case eT =>
  intro u y b cZ J bC
  simp only [fD] at J bC
  split at J
  ·rename_i hu
   rw [if_neg (fun e => cZ (hu.trans e.symm))] at bC
   exact h.eT x y b (fun e => cZ (hu.trans e)) (aV b J) bC
  ·rename_i hu
   split at bC
   ·exact h.eT u x b hu J (aV b bC)
   ·exact h.eT u y b cZ J bC
 case dd => exact fun u b J => by simp only [fD] at J; split at J; exact h.dd x b (aV b J); exact h.dd u b J
 case c7 =>
  intro u
  by_cases hu : u = x
  ·subst hu
   rw [k_, tD]
   rcases Gf with ⟨aJ, aT⟩ | e
   ·exact (aF.cr aT).2 ⟨aJ, iq⟩
   ·rw [e, aF]; trivial
  ·rw [ir _ _ hu, tE _ _ hu]
   exact (aF.bJ fJ rfl hO (fun _ _ _ _ _ _ => rfl) (fun _ _ => rfl) _).1 _ _ _ (Nat.le_refl _) (fun _ _ => rfl) (h.c7 u)
 case old => exact h.old
 case size => exact h.size
 case os => exact h.os
 case tape => exact h.tape
 case output => exact h.output
theorem bB.store (h : bB w0 F0 X F S s au w) {x : Nat} {q : List Nat} {d bj : j} (af : j.sub q (s x) = some d) (aj : j.ei q (s x) = true)
  {eS : List Value} {Sn : Nat → Prop} (aG : aq w F bj eS Sn) (kc : bj.wd = d.wd)
  (dL : ∀ b, Sn b → b < w.heap.size) (bg : ∀ b, Sn b → ¬ F b) (bE : ∀ u b, Sn b → ¬ S u b) (bp : ∀ b, Sn b → X b ∨ w0.heap.size ≤ b) :
  ∃ (cv : List Value) (b : Nat) (l r : List Value) (cur : Array Value) (e : TypeId) (fr : Nat × Nat), cJ w q (s x) (ch (au x)) none = some (d, cv, some (b, l.length)) ∧
    w.heap[b]? = some (.cells cur e fr) ∧ cur.toList = l ++ (cv ++ r) ∧ lR fr cur.size ∧
    ∀ aB, aB.heap[b]? = some (.cells (l ++ (eS ++ r)).toArray e fr) → (∀ c, c ≠ b → aB.heap[c]? = w.heap[c]?) → aB.heap.size = w.heap.size → aB.os = w.os → aB.tape = w.tape → aB.output = w.output →
      ∃ aH, bB w0 F0 X F aH (cS (g9 x s) x (j.put q bj (s x))) au aB := by
 have aP := gX af (.inr aj)
 have ai := h.c7 x
 rw [aF.cr aP] at ai
 obtain ⟨cv, a, dH, fB, fQ, aV, bo, b8, dn, eg⟩ := ctx q (s x) (ch (au x)) (S x) none d ai.2 af
 have Gg : Deep w F q (s x) (ch (au x)) d cv a dH := by
  rcases eg with ⟨l, r, aJ, aT, bb⟩ | eg
  ·exfalso
   have la : ∀ (q : List Nat) (av : j) (cs : List Value) (a0 : Option (Nat × Nat)) (d : j) (cv : List Value), j.ei q av = true → cJ w q av cs a0 = some (d, cv, none) → False := by
    intro q
    induction q with
    | nil => intro av cs a0 d cv aj; simp [j.ei] at aj
    | cons k q ih =>
      have zZ : ∀ (q : List Nat) (av : j) (cs : List Value) (l : Nat × Nat) (d : j) (cv : List Value), cJ w q av cs (some l) = some (d, cv, none) → False := by
       intro q
       induction q with
       | nil => intro av cs l d cv h; simp [cJ] at h
       | cons k q tF =>
         intro av cs l d cv h
         cases av with
         | agg al => rw [cJ] at h; split at h; exact tF _ _ _ _ _ h; cases h
         | tuple al => rw [cJ] at h; split at h; exact tF _ _ _ _ _ h; cases h
         | ay sz xs => simp only [cJ] at h; split at h; exact tF _ _ _ _ _ h; cases h
         | bD y =>
           cases k with
           | zero => rw [cJ.eq_def] at h; simp only at h; split at h; exact tF _ _ _ _ _ h; cases h
           | succ k => rw [show cJ w ((k + 1) :: q) (.bD y) cs (some l) = none from rfl] at h; cases h
         | _ => simp [cJ] at h
      intro av cs a0 d cv aj h
      cases av with
      | agg al =>
        simp only [j.ei] at aj
        split at aj
        ·rename_i y bC
         simp only [cJ, bC] at h
         exact ih _ _ _ _ _ aj h
        ·cases aj
      | tuple al =>
        simp only [j.ei] at aj
        split at aj
        ·rename_i y bC
         simp only [cJ, bC] at h
         exact ih _ _ _ _ _ aj h
        ·cases aj
      | ay sz xs => simp only [cJ] at h; split at h; exact zZ _ _ _ _ _ _ h; cases h
      | bD y =>
        cases k with
        | zero => rw [cJ.eq_def] at h; simp only at h; split at h; exact zZ _ _ _ _ _ _ h; cases h
        | succ k => rw [show cJ w ((k + 1) :: q) (.bD y) cs a0 = none from rfl] at h; cases h
      | _ => simp [j.ei] at aj
   simp only [Option.map_none] at aT
   subst aT
   exact la _ _ _ _ _ _ aj fQ
  ·exact eg
 obtain ⟨b, cur, e, fr, l, r, rfl, aT, bb, cn, c1, b6⟩ := Gg
 refine ⟨cv, b, l, r, cur, e, fr, fQ, bb, c1, cn, ?_⟩
 intro aB jR oq dI Gh Gi rG
 have tG : S x b := aV _ aT
 have pP : ∀ c, F c → aB.heap[c]? = w.heap[c]? := fun c aj => oq c (by rintro rfl; exact h.e7 x _ tG aj)
 have ZS : eS.length = cv.length := by rw [aq.length _ _ _ aG, aq.length _ _ _ dn, kc]
 have iq := b6 aB bj eS Sn pP (fun c _ cZ => oq c cZ) jR kc
  (aq.frame pP _ _ _ (fun c aj => oq c (by rintro rfl; exact bE x _ aj tG)) aG) (fun c aj pO => bE x c aj (aV _ pO))
 obtain ⟨k, hE, rfl⟩ : ∃ k hE, q = k :: hE := by
  cases q with
  | nil => simp [j.ei] at aj
  | cons k q => exact ⟨k, q, rfl⟩
 have z1 : ∀ v, dt (s x) v → dt (j.put (k :: hE) bj (s x)) v := by
  intro v aG
  rcases oo k hE bj (s x) with ⟨al, gs, aJ, e⟩ | ⟨al, gs, aJ, e⟩ | ⟨sz, xs, bM, aJ, e⟩ | ⟨y, z, aJ, e⟩ | e
  ·rw [e]; rw [aJ] at aG; exact aG
  ·
   rw [aJ] at aG af aj ⊢
   simp only [j.ei] at aj
   split at aj
   ·rename_i y bC
    simp only [j.put, bC]
    cases hE with
    | nil => simp [j.ei] at aj
    | cons cj bR =>
      simp only [dt] at aG ⊢
      obtain ⟨arr, rfl, bw, k9⟩ := aG
      refine ⟨arr, rfl, by simpa using bw, fun ar e iH he tH => ?_⟩
      rw [List.getElem?_set] at he
      split at he
      ·rename_i w1
       subst w1
       split at he
       ·simp only [Option.some.injEq] at he
        subst he
        obtain ⟨aV, bo, b8⟩ := k9 _ y iH bC tH
        simp only [j.sub, bC] at af
        exact ⟨zW aV, zX bo, b8.trans (j.pM (cj :: bR) y d bj af kc).symm⟩
       ·cases he
      ·exact k9 ar e iH he tH
   ·cases aj
  ·rw [e]; rw [aJ] at aG; exact aG
  ·rw [e]; rw [aJ] at aG; exact aG
  ·rw [e]; exact aG
 have Gj : (j.put (k :: hE) bj (s x)).tree = true := by
  rcases oo k hE bj (s x) with ⟨al, gs, aJ, e⟩ | ⟨al, gs, aJ, e⟩ | ⟨sz, xs, bM, aJ, e⟩ | ⟨y, z, aJ, e⟩ | e <;> rw [e] <;> first | rfl | exact aP
 let ak := cS (g9 x s) x (j.put (k :: hE) bj (s x))
 have fJ : ∀ y, y ≠ x → (ak y).tree = true → ak y = s y ∧ au y = au y := fun y bC aP => by
  have e : ak y = bJ x (s y) := ir _ _ bC
  rw [e] at aP ⊢
  exact ⟨(wY aP).2, rfl⟩
 have hO : (ak x).plain = false → (s x).plain = false ∧ ∀ v, dt (s x) v → dt (ak x) v := by
  intro _
  refine ⟨?_, ?_⟩
  ·cases w3 : (s x).plain with
   | false => rfl
   | true => rw [j.zS _ _ w3] at aj; cases aj
  ·simp only [ak, k_]; exact z1
 refine ⟨fD S x (fun c => dH c ∨ Sn c), ?_⟩
 constructor
 case gb => exact h.gb
 case gz => exact h.gz
 case e0 => exact fun b J => by rw [dI]; exact h.e0 b J
 case dP =>
  intro u c J
  rw [dI]
  simp only [fD] at J
  split at J
  ·rcases J with J | J
   ·exact h.dP x c (aV c J)
   ·exact dL c J
  ·exact h.dP u c J
 case e7 =>
  intro u c J
  simp only [fD] at J
  split at J
  ·rcases J with J | J
   ·exact h.e7 x c (aV c J)
   ·exact bg c J
  ·exact h.e7 u c J
 case eT =>
  intro u y c cZ J bC
  simp only [fD] at J bC
  split at J
  ·rename_i hu
   rw [if_neg (fun e => cZ (hu.trans e.symm))] at bC
   rcases J with J | J
   ·exact h.eT x y c (fun e => cZ (hu.trans e)) (aV c J) bC
   ·exact bE y c J bC
  ·rename_i hu
   split at bC
   ·rcases bC with bC | bC
    ·exact h.eT u x c hu J (aV c bC)
    ·exact bE u c bC J
   ·exact h.eT u y c cZ J bC
 case dd =>
  intro u c J
  simp only [fD] at J
  split at J
  ·rcases J with J | J
   ·exact h.dd x c (aV c J)
   ·exact bp c J
  ·exact h.dd u c J
 case c7 =>
  intro u
  by_cases hu : u = x
  ·subst hu
   rw [k_, tD]
   exact (aF.cr Gj).2 ⟨z1 _ ai.1, iq⟩
  ·rw [ir _ _ hu, tE _ _ hu]
   have cZ : ∀ y c, y ≠ x → S y c → aB.heap[c]? = w.heap[c]? := fun y c bC aj => oq c (by rintro rfl; exact h.eT y x c bC aj tG)
   refine (aF.bJ fJ rfl hO (fun y bR d2 bC hP z2 => ?_) pP _).1 _ _ _ (Nat.le_refl _) (fun c aj => cZ u c hu aj) (h.c7 u)
   have z6 := h.c7 y
   rw [aF.cr (gX hP z2)] at z6
   exact wU bR _ _ _ none d2 z6.2 hP (fun c aj => cZ y c bC aj)
 case old =>
  intro c dL iG
  by_cases tI : c = b
  ·subst tI
   exfalso
   rcases h.dd x c tG with kd | kd
   ·exact iG kd
   ·omega
  ·exact (oq c tI).trans (h.old c dL iG)
 case size => rw [dI]; exact h.size
 case os => exact Gh.trans h.os
 case tape => exact Gi.trans h.tape
 case output => exact rG.trans h.output
end
end Go.cM
