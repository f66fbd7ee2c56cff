/- Part of a proof that a law returns true for every input. No condition. -/
import Derived.Test.YtbemmmimelklkaaFwA
import Derived.Laws.AppendOwn
import Derived.Calls
namespace Go.cB
inductive I where
 | hole
 | bool (b : Bool)
 | dV
 | int (k : IntKind) (n : Int)
 | str (s : List UInt8)
 | c7
 | bA
 | slice (xs : List I)
 | aE (sz : Nat) (xs : List I)
 | ref (d : I)
 | bd (d : I)
 | agg (aw : List I)
 | tuple (vs : List I)
 | fn (f : FuncId) (cap : List I)
 | h (x : Nat) (q : List Nat)
 | an (x : Nat) (q : List Nat)
 | U (x : Nat) (k : Nat)
 deriving Inhabited
mutual
def I.wd : I → Nat
 | .agg aw => I.dp aw
 | .tuple aw => I.dp aw
 | _ => 1
def I.dp : List I → Nat
 | [] => 0
 | d :: ds => d.wd + I.dp ds
end
def Rd (w : World) (b o : Nat) (cs : List Value) : Prop := ∀ j c, cs[j]? = some c → w.cell? ⟨b, o + j, none⟩ = some c
def mh (fr : Nat × Nat) (n : Nat) : Prop := ∀ o, o < n → ¬ (fr.1 ≤ o ∧ o < fr.2)
def Value.fN : Value → Bool
 | .agg _ => false
 | .tuple _ => false
 | _ => true
mutual
def ax (w : World) (F : Nat → Prop) : I → List Value → (Nat → Prop) → Prop
 | .hole, cs, _ => ∃ v, Value.fN v = true ∧ cs = [v]
 | .bool b, cs, _ => cs = [.bool b]
 | .dV, cs, _ => ∃ b, cs = [.bool b]
 | .int k n, cs, _ => cs = [.int k n]
 | .str s, cs, _ => cs = [.string ⟨⟨s⟩⟩]
 | .c7, cs, _ => cs = [.pointer none]
 | .bA, cs, _ => cs = [.slice none 0 0]
 | .slice xs, cs, _ => (xs = [] ∧ ∃ a c, cs = [.slice a 0 c] ∧ c ≤ maxLen ∧ (a = none → c = 0)) ∨
   ∃ b o cap dt sz, cs = [.slice (some ⟨b, o, none⟩) xs.length cap] ∧ F b ∧ xs.length ≤ cap ∧ cap ≤ maxLen ∧ (∀ d ∈ xs, d.wd = sz) ∧
     Rd w b o dt ∧ a6 w F xs dt (fun _ => False)
 | .aE sz xs, cs, S => (xs = [] ∧ ∃ a, cs = [.slice a 0 0]) ∨
   ∃ b cap cur e fr aL, cs = [.slice (some ⟨b, 0, none⟩) xs.length cap] ∧ S b ∧ w.heap[b]? = some (.cells cur e fr) ∧ mh fr cur.size ∧
     xs.length ≤ cap ∧ cap ≤ maxLen ∧ cur.size = cap * sz ∧ (∀ d ∈ xs, d.wd = sz) ∧ a6 w F xs (cur.toList.take (xs.length * sz)) aL ∧ (∀ c, aL c → S c) ∧ ¬ aL b
 | .ref d, cs, _ => ∃ b o dt, cs = [.pointer (some ⟨b, o, none⟩)] ∧ F b ∧ Rd w b o dt ∧ ax w F d dt (fun _ => False)
 | .bd d, cs, S => ∃ b cur e fr aL, cs = [.pointer (some ⟨b, 0, none⟩)] ∧ S b ∧ w.heap[b]? = some (.cells cur e fr) ∧ mh fr cur.size ∧
   ax w F d cur.toList aL ∧ (∀ c, aL c → S c) ∧ ¬ aL b
 | .agg aw, cs, S => a6 w F aw cs S
 | .tuple aw, cs, S => a6 w F aw cs S
 | .fn _ _, _, _ => False
 | .h _ _, _, _ => False
 | .an _ _, _, _ => False
 | .U _ _, _, _ => False
def a6 (w : World) (F : Nat → Prop) : List I → List Value → (Nat → Prop) → Prop
 | [], cs, _ => cs = []
 | d :: ds, cs, S => ∃ cr cu b1 dg, cs = cr ++ cu ∧ ax w F d cr b1 ∧ a6 w F ds cu dg ∧ (∀ b, b1 b → S b) ∧ (∀ b, dg b → S b) ∧ (∀ b, b1 b → ¬ dg b)
end
theorem cell?_of_block {w aD : World} {b : Nat} (h : aD.heap[b]? = w.heap[b]?) (o : Nat) : aD.cell? ⟨b, o, none⟩ = w.cell? ⟨b, o, none⟩ := by
 simp [World.cell?, h]
theorem Rd.frame {w aD : World} {b o : Nat} {cs : List Value} (h : aD.heap[b]? = w.heap[b]?) (aO : Rd w b o cs) : Rd aD b o cs :=
 fun j c al => (cell?_of_block h _).trans (aO j c al)
mutual
theorem ax.frame {w aD : World} {F : Nat → Prop} (bo : ∀ b, F b → aD.heap[b]? = w.heap[b]?) :
  ∀ (d : I) (cs : List Value) (S : Nat → Prop), (∀ b, S b → aD.heap[b]? = w.heap[b]?) → ax w F d cs S → ax aD F d cs S
 | .hole, _, _, _, h => h
 | .bool _, _, _, _, h => h
 | .dV, _, _, _, h => h
 | .int _ _, _, _, _, h => h
 | .str _, _, _, _, h => h
 | .c7, _, _, _, h => h
 | .bA, _, _, _, h => h
 | .slice xs, cs, S, bL, h => by
   rw [ax] at h ⊢
   rcases h with h | ⟨b, o, cap, dt, sz, ab, af, aF, bb, bV, cd, cf⟩
   ·exact .inl h
   ·exact .inr ⟨b, o, cap, dt, sz, ab, af, aF, bb, bV, cd.frame (bo _ af), a6.frame bo xs _ _ (fun _ h => h.elim) cf⟩
 | .aE sz xs, cs, S, bL, h => by
   rw [ax] at h ⊢
   rcases h with h | ⟨b, cap, cur, e, fr, aL, ab, af, aF, bb, bV, cd, cf, er, g1, gp, jd⟩
   ·exact .inl h
   ·exact .inr ⟨b, cap, cur, e, fr, aL, ab, af, (bL _ af).trans aF, bb, bV, cd, cf, er, a6.frame bo xs _ _ (fun c al => bL _ (gp _ al)) g1, gp, jd⟩
 | .ref d, cs, S, bL, h => by
   rw [ax] at h ⊢
   obtain ⟨b, o, dt, ab, af, aF, bb⟩ := h
   exact ⟨b, o, dt, ab, af, aF.frame (bo _ af), ax.frame bo d _ _ (fun _ h => h.elim) bb⟩
 | .bd d, cs, S, bL, h => by
   rw [ax] at h ⊢
   obtain ⟨b, cur, e, fr, aL, ab, af, aF, bb, bV, cd, cf⟩ := h
   exact ⟨b, cur, e, fr, aL, ab, af, (bL _ af).trans aF, bb, ax.frame bo d _ _ (fun c al => bL _ (cd _ al)) bV, cd, cf⟩
 | .agg aw, cs, S, bL, h => by rw [ax] at h ⊢; exact a6.frame bo aw _ _ bL h
 | .tuple aw, cs, S, bL, h => by rw [ax] at h ⊢; exact a6.frame bo aw _ _ bL h
 | .fn _ _, _, _, _, h => h
 | .h _ _, _, _, _, h => h
 | .an _ _, _, _, _, h => h
 | .U _ _, _, _, _, h => h
theorem a6.frame {w aD : World} {F : Nat → Prop} (bo : ∀ b, F b → aD.heap[b]? = w.heap[b]?) :
  ∀ (ds : List I) (cs : List Value) (S : Nat → Prop), (∀ b, S b → aD.heap[b]? = w.heap[b]?) → a6 w F ds cs S → a6 aD F ds cs S
 | [], _, _, _, h => h
 | d :: ds, cs, S, bL, h => by
   rw [a6] at h ⊢
   obtain ⟨cr, cu, b1, dg, ab, af, aF, bb, bV, cd⟩ := h
   exact ⟨cr, cu, b1, dg, ab, ax.frame bo d _ _ (fun b U => bL _ (bb _ U)) af, a6.frame bo ds _ _ (fun b U => bL _ (bV _ U)) aF, bb, bV, cd⟩
end
mutual
theorem ax.mono {w : World} {F bI : Nat → Prop} (bo : ∀ b, F b → bI b) :
  ∀ (d : I) (cs : List Value) (S aL : Nat → Prop), (∀ b, S b → aL b) → ax w F d cs S → ax w bI d cs aL
 | .hole, _, _, _, _, h => h
 | .bool _, _, _, _, _, h => h
 | .dV, _, _, _, _, h => h
 | .int _ _, _, _, _, _, h => h
 | .str _, _, _, _, _, h => h
 | .c7, _, _, _, _, h => h
 | .bA, _, _, _, _, h => h
 | .slice xs, cs, S, _, bL, h => by
   rw [ax] at h ⊢
   rcases h with h | ⟨b, o, cap, dt, sz, ab, af, aF, bb, bV, cd, cf⟩
   ·exact .inl h
   ·exact .inr ⟨b, o, cap, dt, sz, ab, bo _ af, aF, bb, bV, cd, a6.mono bo xs _ _ _ (fun _ h => h) cf⟩
 | .aE sz xs, cs, S, _, bL, h => by
   rw [ax] at h ⊢
   rcases h with h | ⟨b, cap, cur, e, fr, aL, ab, af, aF, bb, bV, cd, cf, er, g1, gp, jd⟩
   ·exact .inl h
   ·exact .inr ⟨b, cap, cur, e, fr, aL, ab, bL _ af, aF, bb, bV, cd, cf, er, a6.mono bo xs _ _ _ (fun _ h => h) g1, fun c al => bL _ (gp _ al), jd⟩
 | .ref d, cs, S, _, bL, h => by
   rw [ax] at h ⊢
   obtain ⟨b, o, dt, ab, af, aF, bb⟩ := h
   exact ⟨b, o, dt, ab, bo _ af, aF, ax.mono bo d _ _ _ (fun _ h => h) bb⟩
 | .bd d, cs, S, _, bL, h => by
   rw [ax] at h ⊢
   obtain ⟨b, cur, e, fr, aL, ab, af, aF, bb, bV, cd, cf⟩ := h
   exact ⟨b, cur, e, fr, aL, ab, bL _ af, aF, bb, ax.mono bo d _ _ _ (fun _ h => h) bV, fun c al => bL _ (cd _ al), cf⟩
 | .agg aw, cs, S, _, bL, h => by rw [ax] at h ⊢; exact a6.mono bo aw _ _ _ bL h
 | .tuple aw, cs, S, _, bL, h => by rw [ax] at h ⊢; exact a6.mono bo aw _ _ _ bL h
 | .fn _ _, _, _, _, _, h => h
 | .h _ _, _, _, _, _, h => h
 | .an _ _, _, _, _, _, h => h
 | .U _ _, _, _, _, _, h => h
theorem a6.mono {w : World} {F bI : Nat → Prop} (bo : ∀ b, F b → bI b) :
  ∀ (ds : List I) (cs : List Value) (S aL : Nat → Prop), (∀ b, S b → aL b) → a6 w F ds cs S → a6 w bI ds cs aL
 | [], _, _, _, _, h => h
 | d :: ds, cs, S, _, bL, h => by
   rw [a6] at h ⊢
   obtain ⟨cr, cu, b1, dg, ab, af, aF, bb, bV, cd⟩ := h
   exact ⟨cr, cu, b1, dg, ab, ax.mono bo d _ _ _ (fun _ h => h) af, a6.mono bo ds _ _ _ (fun _ h => h) aF, fun b U => bL _ (bb _ U), fun b U => bL _ (bV _ U), cd⟩
end
mutual
theorem ax.length {w : World} {F : Nat → Prop} : ∀ (d : I) (cs : List Value) (S : Nat → Prop), ax w F d cs S → cs.length = d.wd
 | .hole, cs, S, h => by rw [ax] at h; obtain ⟨v, _, rfl⟩ := h; rfl
 | .bool _, cs, S, h => by rw [ax] at h; subst h; rfl
 | .dV, cs, S, h => by rw [ax] at h; obtain ⟨b, rfl⟩ := h; rfl
 | .int _ _, cs, S, h => by rw [ax] at h; subst h; rfl
 | .str _, cs, S, h => by rw [ax] at h; subst h; rfl
 | .c7, cs, S, h => by rw [ax] at h; subst h; rfl
 | .bA, cs, S, h => by rw [ax] at h; subst h; rfl
 | .slice xs, cs, S, h => by
   rw [ax] at h
   rcases h with ⟨_, a, c, rfl, _⟩ | ⟨b, o, cap, dt, sz, rfl, _⟩ <;> rfl
 | .aE sz xs, cs, S, h => by
   rw [ax] at h
   rcases h with ⟨_, a, rfl⟩ | ⟨b, cap, cur, e, fr, aL, rfl, _⟩ <;> rfl
 | .ref d, cs, S, h => by rw [ax] at h; obtain ⟨b, o, dt, rfl, _⟩ := h; rfl
 | .bd d, cs, S, h => by rw [ax] at h; obtain ⟨b, o, dt, _, _, rfl, _⟩ := h; rfl
 | .agg aw, cs, S, h => by rw [ax] at h; exact a6.length aw _ _ h
 | .tuple aw, cs, S, h => by rw [ax] at h; exact a6.length aw _ _ h
 | .fn _ _, cs, S, h => by rw [ax] at h; exact h.elim
 | .h _ _, cs, S, h => by rw [ax] at h; exact h.elim
 | .an _ _, cs, S, h => by rw [ax] at h; exact h.elim
 | .U _ _, cs, S, h => by rw [ax] at h; exact h.elim
theorem a6.length {w : World} {F : Nat → Prop} : ∀ (ds : List I) (cs : List Value) (S : Nat → Prop), a6 w F ds cs S → cs.length = I.dp ds
 | [], cs, S, h => by rw [a6] at h; subst h; rfl
 | d :: ds, cs, S, h => by
   rw [a6] at h
   obtain ⟨cr, cu, b1, dg, rfl, af, aF, _⟩ := h
   rw [List.length_append, ax.length d _ _ af, a6.length ds _ _ aF, I.dp]
end
mutual
def I.share : I → I
 | .aE _ xs => .slice (I.shares xs)
 | .bd d => .ref d.share
 | .slice xs => .slice (I.shares xs)
 | .ref d => .ref d.share
 | .agg aw => .agg (I.shares aw)
 | .tuple aw => .tuple (I.shares aw)
 | d => d
def I.shares : List I → List I
 | [] => []
 | d :: ds => d.share :: I.shares ds
end
theorem I.ph (ds : List I) : I.shares ds = ds.map I.share := by
 induction ds with
 | nil => rfl
 | cons d ds ih => simp [I.shares, ih]
mutual
theorem I.vJ : ∀ d : I, d.share.wd = d.wd
 | .hole => rfl
 | .bool _ => rfl
 | .dV => rfl
 | .int _ _ => rfl
 | .str _ => rfl
 | .c7 => rfl
 | .bA => rfl
 | .slice _ => rfl
 | .aE _ _ => rfl
 | .ref _ => rfl
 | .bd _ => rfl
 | .agg aw => by simp only [I.share, I.wd]; exact I.y5 aw
 | .tuple aw => by simp only [I.share, I.wd]; exact I.y5 aw
 | .fn _ _ => rfl
 | .h _ _ => rfl
 | .an _ _ => rfl
 | .U _ _ => rfl
theorem I.y5 : ∀ ds : List I, I.dp (I.shares ds) = I.dp ds
 | [] => rfl
 | d :: ds => by simp only [I.shares, I.dp]; rw [I.vJ d, I.y5 ds]
end
theorem qX {w : World} {b : Nat} {cur : Array Value} {e : TypeId} {fr : Nat × Nat} (h : w.heap[b]? = some (.cells cur e fr)) (n : Nat) : Rd w b 0 (cur.toList.take n) := by
 intro j c al
 rw [List.getElem?_take] at al
 split at al
 ·simp [World.cell?, h]; simpa using al
 ·cases al
mutual
theorem ax.shared {w : World} {F bI : Nat → Prop} (bo : ∀ b, F b → bI b) :
  ∀ (d : I) (cs : List Value) (S : Nat → Prop), (∀ b, S b → bI b) → ax w F d cs S → ax w bI d.share cs (fun _ => False)
 | .hole, _, _, _, h => h
 | .bool _, _, _, _, h => h
 | .dV, _, _, _, h => h
 | .int _ _, _, _, _, h => h
 | .str _, _, _, _, h => h
 | .c7, _, _, _, h => h
 | .bA, _, _, _, h => h
 | .slice xs, cs, S, bL, h => by
   rw [I.share, ax]
   rw [ax] at h
   rcases h with ⟨rfl, a, c, rfl, al⟩ | ⟨b, o, cap, dt, sz, ab, af, aF, bb, bV, cd, cf⟩
   ·exact .inl ⟨rfl, a, c, rfl, al⟩
   ·refine .inr ⟨b, o, cap, dt, sz, ?_, bo _ af, ?_, bb, ?_, cd, a6.shared bo xs _ _ (fun _ h => h.elim) cf⟩
    ·simpa [I.ph] using ab
    ·simpa [I.ph] using aF
    ·intro d ah
     rw [I.ph] at ah
     obtain ⟨br, fV, rfl⟩ := List.mem_map.1 ah
     rw [I.vJ]; exact bV _ fV
 | .aE sz xs, cs, S, bL, h => by
   rw [I.share, ax]
   rw [ax] at h
   rcases h with ⟨rfl, a, rfl⟩ | ⟨b, cap, cur, e, fr, aL, ab, af, aF, bb, bV, cd, cf, er, g1, gp, jd⟩
   ·exact .inl ⟨rfl, a, 0, rfl, Nat.zero_le _, fun _ => rfl⟩
   ·refine .inr ⟨b, 0, cap, _, sz, ?_, bL _ af, ?_, cd, ?_, qX aF _, a6.shared bo xs _ _ (fun c al => bL _ (gp _ al)) g1⟩
    ·simpa [I.ph] using ab
    ·simpa [I.ph] using bV
    ·intro d ah
     rw [I.ph] at ah
     obtain ⟨br, fV, rfl⟩ := List.mem_map.1 ah
     rw [I.vJ]; exact er _ fV
 | .ref d, cs, S, bL, h => by
   rw [I.share, ax]
   rw [ax] at h
   obtain ⟨b, o, dt, ab, af, aF, bb⟩ := h
   exact ⟨b, o, dt, ab, bo _ af, aF, ax.shared bo d _ _ (fun _ h => h.elim) bb⟩
 | .bd d, cs, S, bL, h => by
   rw [I.share, ax]
   rw [ax] at h
   obtain ⟨b, cur, e, fr, aL, ab, af, aF, bb, bV, cd, cf⟩ := h
   refine ⟨b, 0, cur.toList, ab, bL _ af, ?_, ax.shared bo d _ _ (fun c al => bL _ (cd _ al)) bV⟩
   have := qX aF cur.toList.length
   rwa [List.take_length] at this
 | .agg aw, cs, S, bL, h => by rw [I.share, ax]; rw [ax] at h; exact a6.shared bo aw _ _ bL h
 | .tuple aw, cs, S, bL, h => by rw [I.share, ax]; rw [ax] at h; exact a6.shared bo aw _ _ bL h
 | .fn _ _, _, _, _, h => h
 | .h _ _, _, _, _, h => h
 | .an _ _, _, _, _, h => h
 | .U _ _, _, _, _, h => h
theorem a6.shared {w : World} {F bI : Nat → Prop} (bo : ∀ b, F b → bI b) :
  ∀ (ds : List I) (cs : List Value) (S : Nat → Prop), (∀ b, S b → bI b) → a6 w F ds cs S → a6 w bI (I.shares ds) cs (fun _ => False)
 | [], _, _, _, h => h
 | d :: ds, cs, S, bL, h => by
   simp only [I.shares]
   rw [a6] at h ⊢
   obtain ⟨cr, cu, b1, dg, ab, af, aF, bb, bV, cd⟩ := h
   exact ⟨cr, cu, _, _, ab, ax.shared bo d _ _ (fun b U => bL _ (bb _ U)) af, a6.shared bo ds _ _ (fun b U => bL _ (bV _ U)) aF, fun _ h => h, fun _ h => h, fun _ h => h.elim⟩
end
def I.sub : List Nat → I → Option I
 | [], d => some d
 | k :: q, .agg aw => match aw[k]? with
   | some d => I.sub q d
   | none => none
 | k :: q, .tuple aw => match aw[k]? with
   | some d => I.sub q d
   | none => none
 | i :: q, .aE _ xs => match xs[i]? with
   | some d => I.sub q d
   | none => none
 | 0 :: q, .bd d => I.sub q d
 | _ :: _, _ => none
def I.put : List Nat → I → I → I
 | [], n, _ => n
 | k :: q, n, .agg aw => match aw[k]? with
   | some d => .agg (aw.set k (I.put q n d))
   | none => .agg aw
 | k :: q, n, .tuple aw => match aw[k]? with
   | some d => .tuple (aw.set k (I.put q n d))
   | none => .tuple aw
 | i :: q, n, .aE sz xs => match xs[i]? with
   | some d => .aE sz (xs.set i (I.put q n d))
   | none => .aE sz xs
 | 0 :: q, n, .bd d => .bd (I.put q n d)
 | _ :: _, _, d => d
def k6 (w : World) (b o n : Nat) : List Value := (List.range n).map fun j => (w.cell? ⟨b, o + j, none⟩).getD undef
theorem Rd.k6 {w : World} {b o : Nat} {cs : List Value} (h : Rd w b o cs) : k6 w b o cs.length = cs := by
 unfold cB.k6
 apply List.ext_getElem?
 intro i
 rw [List.getElem?_map]
 by_cases ak : i < cs.length
 ·have : cs[i]? = some cs[i] := List.getElem?_eq_getElem ak
  simp [ak, h i _ this]
 ·simp [ak]
def cU (w : World) : List Nat → I → List Value → Option (Nat × Nat) → Option (I × List Value × Option (Nat × Nat))
 | [], d, cs, a => some (d, cs, a)
 | k :: q, .agg aw, cs, a => match aw[k]? with
   | some d => cU w q d ((cs.drop (I.dp (aw.take k))).take d.wd) (a.map fun l => (l.1, l.2 + I.dp (aw.take k)))
   | none => none
 | k :: q, .tuple aw, cs, a => match aw[k]? with
   | some d => cU w q d ((cs.drop (I.dp (aw.take k))).take d.wd) (a.map fun l => (l.1, l.2 + I.dp (aw.take k)))
   | none => none
 | i :: q, .aE sz xs, cs, _ => match xs[i]?, cs with
   | some d, [.slice (some ⟨b, _, _⟩) _ _] => cU w q d (k6 w b (i * sz) sz) (some (b, i * sz))
   | _, _ => none
 | 0 :: q, .bd d, cs, _ => match cs with
   | [.pointer (some ⟨b, _, _⟩)] => cU w q d (k6 w b 0 d.wd) (some (b, 0))
   | _ => none
 | _ :: _, _, _, _ => none
theorem qY (cr fc cu : List Value) (n m : Nat) (ab : cr.length = n) (af : fc.length = m) : ((cr ++ (fc ++ cu)).drop n).take m = fc := by
 rw [List.drop_left' ab, List.take_left' af]
theorem a6.pick {w : World} {F : Nat → Prop} : ∀ (ds : List I) (cs : List Value) (S : Nat → Prop) (k : Nat) (d : I),
  a6 w F ds cs S → ds[k]? = some d → ∃ (cr fc cu : List Value) (b1 iV : Nat → Prop), cs = cr ++ (fc ++ cu) ∧ cr.length = I.dp (ds.take k) ∧
   (∀ b, b1 b → S b) ∧ (∀ b, iV b → S b) ∧ (∀ b, b1 b → ¬ iV b) ∧ ax w F d fc iV ∧
   ∀ (aD : World) (br : I) (pj : List Value) (aL : Nat → Prop), (∀ b, F b → aD.heap[b]? = w.heap[b]?) → (∀ b, b1 b → aD.heap[b]? = w.heap[b]?) →
     ax aD F br pj aL → (∀ b, aL b → ¬ b1 b) → a6 aD F (ds.set k br) (cr ++ (pj ++ cu)) (fun b => b1 b ∨ aL b)
 | [], _, _, _, _, _, ay => by simp at ay
 | x :: ds, cs, S, 0, d, h, ay => by
   rw [a6] at h
   obtain ⟨cr, cu, gq, fJ, rfl, ab, af, b7, U, je⟩ := h
   simp at ay; subst ay
   refine ⟨[], cr, cu, fJ, gq, rfl, rfl, U, b7, fun b U b7 => je _ b7 U, ab, ?_⟩
   intro aD br pj aL bo bL ah hF
   simp only [List.set_cons_zero, List.nil_append]
   rw [a6]
   exact ⟨pj, cu, aL, fJ, rfl, ah, a6.frame bo _ _ _ bL af, fun b h => .inr h, fun b h => .inl h, fun b h => hF b h⟩
 | x :: ds, cs, S, k + 1, d, h, ay => by
   rw [a6] at h
   obtain ⟨mi, Jo, gq, fJ, rfl, ab, af, b7, U, je⟩ := h
   simp only [List.getElem?_cons_succ] at ay
   have hl := ax.length _ _ _ ab
   obtain ⟨cr, fc, cu, b1, iV, rfl, k7, mj, kC, y6, y7, y8⟩ := a6.pick ds Jo fJ k d af ay
   refine ⟨mi ++ cr, fc, cu, fun b => gq b ∨ b1 b, iV, by simp, by simp [I.dp, hl, k7], ?_, fun b h => U _ (kC _ h), ?_, y7, ?_⟩
   ·rintro b (h | h)
    ·exact b7 _ h
    ·exact U _ (mj _ h)
   ·rintro b (h | h) ay
    ·exact je _ h (kC _ ay)
    ·exact y6 _ h ay
   ·intro aD br pj aL bo bL ah hF
    simp only [List.set_cons_succ]
    rw [a6]
    refine ⟨mi, cr ++ (pj ++ cu), gq, fun b => b1 b ∨ aL b, by simp, ax.frame bo _ _ _ (fun b U => bL b (.inl U)) ab,
     y8 aD br pj aL bo (fun b U => bL b (.inr U)) ah (fun b U al => hF b U (.inr al)), fun b h => .inl (.inl h), ?_, ?_⟩
    ·rintro b (h | h)
     ·exact .inl (.inr h)
     ·exact .inr h
    ·rintro b h (bq | bq)
     ·exact je _ h (mj _ bq)
     ·exact hF _ bq (.inl h)
theorem y9 : ∀ (aw : List I) (k : Nat) (x y : I), aw[k]? = some x → y.wd = x.wd → I.dp (aw.set k y) = I.dp aw := by
 intro aw
 induction aw with
 | nil => intro k x y h; simp at h
 | cons a aw ih =>
   intro k x y h e
   cases k with
   | zero => simp at h; subst h; simp [I.dp, e]
   | succ k => simp at h; simp [I.dp, ih k x y h e]
theorem pk {sz : Nat} : ∀ (xs : List I), (∀ d ∈ xs, d.wd = sz) → I.dp xs = xs.length * sz
 | [], _ => by simp [I.dp]
 | x :: xs, h => by
   rw [I.dp, h x (by simp), pk xs (fun d ah => h d (by simp [ah])), List.length_cons, Nat.add_mul, Nat.one_mul, Nat.add_comm]
theorem I.qZ : ∀ (q : List Nat) (av d br : I), I.sub q av = some d → br.wd = d.wd → (I.put q br av).wd = av.wd := by
 intro q
 induction q with
 | nil => intro av d br h e; simp [I.sub] at h; subst h; simpa [I.put] using e
 | cons k q ih =>
   intro av d br h e
   cases av with
   | agg aw =>
     simp only [I.sub] at h
     split at h
     ·rename_i x au
      simp only [I.put, au, I.wd]
      exact y9 _ _ _ _ au (ih _ _ _ h e)
     ·cases h
   | tuple aw =>
     simp only [I.sub] at h
     split at h
     ·rename_i x au
      simp only [I.put, au, I.wd]
      exact y9 _ _ _ _ au (ih _ _ _ h e)
     ·cases h
   | aE sz xs =>
     simp only [I.sub] at h
     split at h
     ·rename_i x au
      simp only [I.put, au, I.wd]
     ·cases h
   | bd x =>
     cases k with
     | zero => simp only [I.put, I.wd]
     | succ k => simp [I.sub] at h
   | _ => simp [I.sub] at h
theorem y_ {sz : Nat} {xs : List I} {i : Nat} {y : I} (h : ∀ d ∈ xs, d.wd = sz) (bC : y.wd = sz) : ∀ d ∈ xs.set i y, d.wd = sz := by
 intro d ah
 rcases List.mem_or_eq_of_mem_set ah with ah | rfl
 ·exact h d ah
 ·exact bC
theorem q0 {w : World} {b : Nat} {cur : Array Value} {e : TypeId} {fr : Nat × Nat} (h : w.heap[b]? = some (.cells cur e fr)) {l m r : List Value} (al : cur.toList = l ++ (m ++ r)) :
  k6 w b l.length m.length = m := by
 refine Rd.k6 (fun j c bS => ?_)
 have dQ : j < m.length := (List.getElem?_eq_some_iff.1 bS).1
 have : cur.toList[l.length + j]? = some c := by
  rw [al, List.getElem?_append_right (by omega), List.getElem?_append_left (by omega)]
  rw [← bS]; congr 1; omega
 simp [World.cell?, h]
 simpa using this
def Flat (w : World) (F : Nat → Prop) (q : List Nat) (av : I) (cs : List Value) (a : Option (Nat × Nat)) (d : I) (cw : List Value) (cl : Option (Nat × Nat)) (dH : Nat → Prop) : Prop :=
 ∃ l r : List Value, cs = l ++ (cw ++ r) ∧ cl = a.map (fun x => (x.1, x.2 + l.length)) ∧
   ∀ (aD : World) (br : I) (fe : List Value) (aL : Nat → Prop), (∀ b, F b → aD.heap[b]? = w.heap[b]?) → (∀ b, dH b → aD.heap[b]? = w.heap[b]?) →
     br.wd = d.wd → ax aD F br fe aL → (∀ b, aL b → ¬ dH b) → ax aD F (I.put q br av) (l ++ (fe ++ r)) (fun b => dH b ∨ aL b)
def Deep (w : World) (F : Nat → Prop) (q : List Nat) (av : I) (cs : List Value) (d : I) (cw : List Value) (cl : Option (Nat × Nat)) (dH : Nat → Prop) : Prop :=
 ∃ (b : Nat) (cur : Array Value) (e : TypeId) (fr : Nat × Nat) (l r : List Value), cl = some (b, l.length) ∧ dH b ∧ w.heap[b]? = some (.cells cur e fr) ∧ mh fr cur.size ∧ cur.toList = l ++ (cw ++ r) ∧
   ∀ (aD : World) (br : I) (fe : List Value) (aL : Nat → Prop), (∀ b, F b → aD.heap[b]? = w.heap[b]?) → (∀ c, dH c → c ≠ b → aD.heap[c]? = w.heap[c]?) →
     aD.heap[b]? = some (.cells (l ++ (fe ++ r)).toArray e fr) →
     br.wd = d.wd → ax aD F br fe aL → (∀ b, aL b → ¬ dH b) → ax aD F (I.put q br av) cs (fun b => dH b ∨ aL b)
theorem ctx {w : World} {F : Nat → Prop} : ∀ (q : List Nat) (av : I) (cs : List Value) (S : Nat → Prop) (a : Option (Nat × Nat)) (d : I),
  ax w F av cs S → I.sub q av = some d → ∃ (cw : List Value) (cl : Option (Nat × Nat)) (dH fW : Nat → Prop), cU w q av cs a = some (d, cw, cl) ∧
   (∀ b, dH b → S b) ∧ (∀ b, fW b → S b) ∧ (∀ b, dH b → ¬ fW b) ∧ ax w F d cw fW ∧ (Flat w F q av cs a d cw cl dH ∨ Deep w F q av cs d cw cl dH) := by
 intro q
 induction q with
 | nil =>
   intro av cs S a d h ah
   simp [I.sub] at ah; subst ah
   refine ⟨cs, a, fun _ => False, S, rfl, fun _ h => h.elim, fun _ h => h, fun _ h => h.elim, h, .inl ⟨[], [], by simp, ?_, ?_⟩⟩
   ·cases a <;> simp
   ·intro aD br fe aL _ _ hw fV _
    simp only [I.put, List.nil_append, List.append_nil]
    exact ax.mono (fun _ h => h) _ _ _ _ (fun b h => .inr h) fV
 | cons k q ih =>
   have fields : ∀ (mk : List I → I) (za : ∀ (w : World) (F : Nat → Prop) (aw : List I) (cs : List Value) (S : Nat → Prop), ax w F (mk aw) cs S = a6 w F aw cs S) (aw : List I) (cs : List Value) (S : Nat → Prop) (a : Option (Nat × Nat)) (x d : I),
     (iG : ∀ br, I.put (k :: q) br (mk aw) = mk (aw.set k (I.put q br x))) → a6 w F aw cs S → aw[k]? = some x → I.sub q x = some d →
     ∃ (cw : List Value) (cl : Option (Nat × Nat)) (dH fW : Nat → Prop), cU w q x ((cs.drop (I.dp (aw.take k))).take x.wd) (a.map fun l => (l.1, l.2 + I.dp (aw.take k))) = some (d, cw, cl) ∧
     (∀ b, dH b → S b) ∧ (∀ b, fW b → S b) ∧ (∀ b, dH b → ¬ fW b) ∧ ax w F d cw fW ∧ (Flat w F (k :: q) (mk aw) cs a d cw cl dH ∨ Deep w F (k :: q) (mk aw) cs d cw cl dH) := by
    intro mk za aw cs S a x d iG h au ah
    obtain ⟨cr, fc, cu, b1, iV, rfl, gQ, fo, gi, gR, fX, kD⟩ := a6.pick aw cs S k x h au
    have hl := ax.length _ _ _ fX
    rw [qY cr fc cu _ _ gQ hl]
    obtain ⟨cw, cl, dH, fW, gr, aY, bs, b_, dq, ey⟩ := ih x _ iV (a.map fun l => (l.1, l.2 + I.dp (aw.take k))) d fX ah
    refine ⟨cw, cl, fun b => b1 b ∨ dH b, fW, gr, ?_, fun b U => gi _ (bs _ U), ?_, dq, ?_⟩
    ·rintro b (h | h)
     ·exact fo _ h
     ·exact gi _ (aY _ h)
    ·rintro b (h | h) ah
     ·exact gR _ h (bs _ ah)
     ·exact b_ _ h ah
    ·have ea : ∀ (b : Nat) (aL : Nat → Prop), (b1 b ∨ dH b ∨ aL b) → ((b1 b ∨ dH b) ∨ aL b) := by
      rintro b aL (U | U | U)
      ·exact .inl (.inl U)
      ·exact .inl (.inr U)
      ·exact .inr U
     rcases ey with ⟨l, r, rfl, aP, a_⟩ | ⟨b, cur, e, fr, l, r, aJ, aP, a_, cD, c4, b8⟩
     ·refine .inl ⟨cr ++ l, r ++ cu, by simp, ?_, ?_⟩
      ·rw [aP, ← gQ]; cases a <;> simp [Nat.add_assoc]
      ·intro aD br fe aL bo bL hw fV hF
       have dx := a_ aD br fe aL bo (fun b U => bL b (.inr U)) hw fV (fun b U al => hF b U (.inr al))
       have eb := kD aD _ _ _ bo (fun b U => bL b (.inl U)) dx (by
        rintro b (U | U) ab
        ·exact gR _ ab (aY _ U)
        ·exact hF _ U (.inl ab))
       rw [iG, za]
       have := a6.mono (fun _ h => h) _ _ _ _ (fun b => ea b aL) eb
       simpa using this
     ·refine .inr ⟨b, cur, e, fr, l, r, aJ, .inr aP, a_, cD, c4, ?_⟩
      intro aD br fe aL bo bL kh hw fV hF
      have dx := b8 aD br fe aL bo (fun c al => bL c (.inr al)) kh hw fV (fun b U al => hF b U (.inr al))
      have eb := kD aD _ _ _ bo (fun c al => bL c (.inl al) (by rintro rfl; exact gR _ al (aY _ aP))) dx (by
        rintro b (U | U) ab
        ·exact gR _ ab (aY _ U)
        ·exact hF _ U (.inl ab))
      rw [iG, za]
      exact a6.mono (fun _ h => h) _ _ _ _ (fun b => ea b aL) eb
   intro av cs S a d h ah
   cases av with
   | agg aw =>
     simp only [I.sub] at ah
     split at ah
     ·rename_i x au
      rw [ax] at h
      have := fields .agg (fun _ _ _ _ _ => by rw [ax]) aw cs S a x d (fun br => by simp only [I.put, au]) h au ah
      simpa only [cU, au] using this
     ·cases ah
   | tuple aw =>
     simp only [I.sub] at ah
     split at ah
     ·rename_i x au
      rw [ax] at h
      have := fields .tuple (fun _ _ _ _ _ => by rw [ax]) aw cs S a x d (fun br => by simp only [I.put, au]) h au ah
      simpa only [cU, au] using this
     ·cases ah
   | aE sz xs =>
     simp only [I.sub] at ah
     split at ah
     ·rename_i x au
      rw [ax] at h
      rcases h with ⟨rfl, _, rfl⟩ | ⟨b, cap, cur, e, fr, dh, rfl, af, aF, bb, bV, cd, cf, er, g1, gp, jd⟩
      ·simp at au
      ·obtain ⟨cr, fc, cu, b1, iV, p, gQ, fo, gi, gR, fX, kD⟩ := a6.pick xs _ dh k x g1 au
       have hl := ax.length _ _ _ fX
       have Jp : k < xs.length := (List.getElem?_eq_some_iff.1 au).1
       have sS : x.wd = sz := er x (List.mem_of_getElem? au)
       have bU : I.dp (xs.take k) = k * sz := by
        rw [pk _ (fun d ah => er d (List.mem_of_mem_take ah))]
        rw [List.length_take, Nat.min_eq_left (by omega)]
       obtain ⟨nC, jw⟩ : ∃ nC, cur.toList = cr ++ (fc ++ (cu ++ nC)) := by
        refine ⟨cur.toList.drop (xs.length * sz), ?_⟩
        have := (List.take_append_drop (xs.length * sz) cur.toList).symm
        rw [p] at this
        simpa using this
       have il : k6 w b (k * sz) sz = fc := by
        have := q0 aF jw
        rwa [gQ, bU, hl, sS] at this
       obtain ⟨cw, cl, dH, fW, gr, aY, bs, b_, dq, ey⟩ := ih x _ iV (some (b, k * sz)) d fX ah
       have iG : ∀ br, I.put (k :: q) br (.aE sz xs) = .aE sz (xs.set k (I.put q br x)) := fun br => by simp only [I.put, au]
       refine ⟨cw, cl, fun c => c = b ∨ b1 c ∨ dH c, fW, ?_, ?_, fun c al => gp _ (gi _ (bs _ al)), ?_, dq, .inr ?_⟩
       ·simp only [cU, au, il]; exact gr
       ·rintro c (rfl | h | h)
        ·exact af
        ·exact gp _ (fo _ h)
        ·exact gp _ (gi _ (aY _ h))
       ·rintro c (rfl | h | h) ah
        ·exact jd (gi _ (bs _ ah))
        ·exact gR _ h (bs _ ah)
        ·exact b_ _ h ah
       ·have kE : ∀ br, br.wd = d.wd → (I.put q br x).wd = sz := fun br hw => (I.qZ q x d br ah hw).trans sS
        rcases ey with ⟨l, r, rfl, aP, a_⟩ | ⟨eO, zb, ei, zc, l, r, aJ, aP, a_, cD, c4, b8⟩
        ·refine ⟨b, cur, e, fr, cr ++ l, r ++ (cu ++ nC), ?_, .inl rfl, aF, bb, ?_, ?_⟩
         ·rw [aP]; simp [gQ, bU]
         ·rw [jw]; simp
         ·intro aD br fe aL bo bL kh hw fV hF
          have dx := a_ aD br fe aL bo (fun c al => bL c (.inr (.inr al)) (by rintro rfl; exact jd (gi _ (aY _ al)))) hw fV (fun b U al => hF b U (.inr (.inr al)))
          have eb := kD aD _ _ _ bo (fun c al => bL c (.inr (.inl al)) (by rintro rfl; exact jd (fo _ al))) dx (by
           rintro b (U | U) ab
           ·exact gR _ ab (aY _ U)
           ·exact hF _ U (.inr (.inl ab)))
          have sT := ax.length _ _ _ fV
          have sU := ax.length _ _ _ dq
          rw [iG, ax]
          refine .inr ⟨b, cap, _, e, fr, fun b => b1 b ∨ dH b ∨ aL b, by simp, .inl (.inl rfl), kh, ?_, by simpa using bV, cd, ?_, y_ er (kE br hw), ?_, ?_, ?_⟩
          ·have : (cr ++ l ++ (fe ++ (r ++ (cu ++ nC)))).toArray.size = cur.size := by
            have : cur.size = cur.toList.length := by simp
            rw [this, jw]; simp [sT, sU, hw]
           rw [this]; exact bb
          ·rw [← cf]
           have : cur.size = cur.toList.length := by simp
           rw [this, jw]; simp [sT, sU, hw]
          ·have hlen : (cr ++ (l ++ (fe ++ r) ++ cu)).length = xs.length * sz := by
            have := congrArg List.length p
            rw [List.length_take, Nat.min_eq_left (by simp [cf]; exact Nat.mul_le_mul_right _ bV)] at this
            rw [this]; simp [sT, sU, hw]
           have : (cr ++ l ++ (fe ++ (r ++ (cu ++ nC)))) = (cr ++ (l ++ (fe ++ r) ++ cu)) ++ nC := by simp
           rw [List.length_set]
           simp only [this]
           rw [List.take_left' hlen]
           exact eb
          ·rintro c (h | h | h)
           ·exact .inl (.inr (.inl h))
           ·exact .inl (.inr (.inr h))
           ·exact .inr h
          ·rintro (h | h | h)
           ·exact jd (fo _ h)
           ·exact jd (gi _ (aY _ h))
           ·exact hF _ h (.inl rfl)
        ·refine ⟨eO, zb, ei, zc, l, r, aJ, .inr (.inr aP), a_, cD, c4, ?_⟩
         intro aD br fe aL bo bL kh hw fV hF
         have dx := b8 aD br fe aL bo (fun c al cV => bL c (.inr (.inr al)) cV) kh hw fV (fun b U al => hF b U (.inr (.inr al)))
         have cV : ∀ c, b1 c → c ≠ eO := by rintro c al rfl; exact gR _ al (aY _ aP)
         have eb := kD aD _ _ _ bo (fun c al => bL c (.inr (.inl al)) (cV c al)) dx (by
          rintro b (U | U) ab
          ·exact gR _ ab (aY _ U)
          ·exact hF _ U (.inr (.inl ab)))
         have zd : b ≠ eO := by rintro rfl; exact jd (gi _ (aY _ aP))
         rw [iG, ax]
         refine .inr ⟨b, cap, cur, e, fr, fun b => b1 b ∨ dH b ∨ aL b, by simp, .inl (.inl rfl), (bL b (.inl rfl) zd).trans aF, bb, by simpa using bV, cd, cf, y_ er (kE br hw), ?_, ?_, ?_⟩
         ·rw [List.length_set, p]; exact eb
         ·rintro c (h | h | h)
          ·exact .inl (.inr (.inl h))
          ·exact .inl (.inr (.inr h))
          ·exact .inr h
         ·rintro (h | h | h)
          ·exact jd (fo _ h)
          ·exact jd (gi _ (aY _ h))
          ·exact hF _ h (.inl rfl)
     ·cases ah
   | bd x =>
     cases k with
     | succ k => simp [I.sub] at ah
     | zero =>
       simp only [I.sub] at ah
       rw [ax] at h
       obtain ⟨b, cur, e, fr, dh, rfl, af, aF, bb, bV, cd, cf⟩ := h
       have hl := ax.length _ _ _ bV
       have il : k6 w b 0 x.wd = cur.toList := by
        have := q0 (l := []) (m := cur.toList) (r := []) aF (by simp)
        rwa [hl] at this
       obtain ⟨cw, cl, dH, fW, gr, aY, bs, b_, dq, ey⟩ := ih x _ dh (some (b, 0)) d bV ah
       have iG : ∀ br, I.put (0 :: q) br (.bd x) = .bd (I.put q br x) := fun br => rfl
       refine ⟨cw, cl, fun c => c = b ∨ dH c, fW, ?_, ?_, fun c al => cd _ (bs _ al), ?_, dq, .inr ?_⟩
       ·simp only [cU, il]; exact gr
       ·rintro c (rfl | h)
        ·exact af
        ·exact cd _ (aY _ h)
       ·rintro c (rfl | h) ah
        ·exact cf (bs _ ah)
        ·exact b_ _ h ah
       ·rcases ey with ⟨l, r, aJ, aP, a_⟩ | ⟨eO, zb, ei, zc, l, r, aJ, aP, a_, cD, c4, b8⟩
        ·refine ⟨b, cur, e, fr, l, r, ?_, .inl rfl, aF, bb, aJ, ?_⟩
         ·rw [aP]; simp
         ·intro aD br fe aL bo bL kh hw fV hF
          have dx := a_ aD br fe aL bo (fun c al => bL c (.inr al) (by rintro rfl; exact cf (aY _ al))) hw fV (fun b U al => hF b U (.inr al))
          have sT := ax.length _ _ _ fV
          have sU := ax.length _ _ _ dq
          rw [iG, ax]
          refine ⟨b, _, e, fr, fun b => dH b ∨ aL b, rfl, .inl (.inl rfl), kh, ?_, dx, ?_, ?_⟩
          ·have : (l ++ (fe ++ r)).toArray.size = cur.size := by
            have : cur.size = cur.toList.length := by simp
            rw [this, aJ]; simp [sT, sU, hw]
           rw [this]; exact bb
          ·rintro c (h | h)
           ·exact .inl (.inr h)
           ·exact .inr h
          ·rintro (h | h)
           ·exact cf (aY _ h)
           ·exact hF _ h (.inl rfl)
        ·refine ⟨eO, zb, ei, zc, l, r, aJ, .inr aP, a_, cD, c4, ?_⟩
         intro aD br fe aL bo bL kh hw fV hF
         have dx := b8 aD br fe aL bo (fun c al cV => bL c (.inr al) cV) kh hw fV (fun b U al => hF b U (.inr al))
         have zd : b ≠ eO := by rintro rfl; exact cf (aY _ aP)
         rw [iG, ax]
         refine ⟨b, cur, e, fr, fun b => dH b ∨ aL b, rfl, .inl (.inl rfl), (bL b (.inl rfl) zd).trans aF, bb, dx, ?_, ?_⟩
         ·rintro c (h | h)
          ·exact .inl (.inr h)
          ·exact .inr h
         ·rintro (h | h)
          ·exact cf (aY _ h)
          ·exact hF _ h (.inl rfl)
   | _ => simp [I.sub] at ah
mutual
def I.plain : I → Bool
 | .aE _ _ => false
 | .bd _ => false
 | .agg aw => I.e2 aw
 | .tuple aw => I.e2 aw
 | _ => true
def I.e2 : List I → Bool
 | [] => true
 | d :: ds => d.plain && I.e2 ds
end
mutual
def I.cH : I → I
 | .aE _ _ => .hole
 | .bd _ => .hole
 | .agg aw => .agg (I.jx aw)
 | .tuple aw => .tuple (I.jx aw)
 | d => d
def I.jx : List I → List I
 | [] => []
 | d :: ds => d.cH :: I.jx ds
end
mutual
theorem I.oi : ∀ d : I, d.cH.wd = d.wd
 | .hole => rfl
 | .bool _ => rfl
 | .dV => rfl
 | .int _ _ => rfl
 | .str _ => rfl
 | .c7 => rfl
 | .bA => rfl
 | .slice _ => rfl
 | .aE _ _ => rfl
 | .ref _ => rfl
 | .bd _ => rfl
 | .agg aw => by simp only [I.cH, I.wd]; exact I.ze aw
 | .tuple aw => by simp only [I.cH, I.wd]; exact I.ze aw
 | .fn _ _ => rfl
 | .h _ _ => rfl
 | .an _ _ => rfl
 | .U _ _ => rfl
theorem I.ze : ∀ ds : List I, I.dp (I.jx ds) = I.dp ds
 | [] => rfl
 | d :: ds => by simp only [I.jx, I.dp]; rw [I.oi d, I.ze ds]
end
mutual
theorem ax.cH {w : World} {F : Nat → Prop} : ∀ (d : I) (cs : List Value) (S aL : Nat → Prop), ax w F d cs S → ax w F d.cH cs aL
 | .hole, _, _, _, h => h
 | .bool _, _, _, _, h => h
 | .dV, _, _, _, h => h
 | .int _ _, _, _, _, h => h
 | .str _, _, _, _, h => h
 | .c7, _, _, _, h => h
 | .bA, _, _, _, h => h
 | .slice xs, cs, S, aL, h => by
   show ax w F (.slice xs) cs aL
   rw [ax] at h ⊢; exact h
 | .aE sz xs, cs, S, aL, h => by
   rw [I.cH, ax]
   rw [ax] at h
   rcases h with ⟨_, _, rfl⟩ | ⟨b, cap, cur, e, fr, dh, rfl, _⟩
   ·exact ⟨_, rfl, rfl⟩
   ·exact ⟨_, rfl, rfl⟩
 | .ref d, cs, S, aL, h => by
   show ax w F (.ref d) cs aL
   rw [ax] at h ⊢; exact h
 | .bd d, cs, S, aL, h => by
   rw [I.cH, ax]
   rw [ax] at h
   obtain ⟨b, cur, e, fr, dh, rfl, _⟩ := h
   exact ⟨_, rfl, rfl⟩
 | .agg aw, cs, S, aL, h => by rw [I.cH, ax]; rw [ax] at h; exact a6.cH aw _ _ _ h
 | .tuple aw, cs, S, aL, h => by rw [I.cH, ax]; rw [ax] at h; exact a6.cH aw _ _ _ h
 | .fn _ _, _, _, _, h => h
 | .h _ _, _, _, _, h => h
 | .an _ _, _, _, _, h => h
 | .U _ _, _, _, _, h => h
theorem a6.cH {w : World} {F : Nat → Prop} : ∀ (ds : List I) (cs : List Value) (S aL : Nat → Prop), a6 w F ds cs S → a6 w F (I.jx ds) cs aL
 | [], _, _, _, h => h
 | d :: ds, cs, S, aL, h => by
   rw [I.jx, a6]
   rw [a6] at h
   obtain ⟨cr, cu, b1, dg, ab, af, aF, bb, bV, cd⟩ := h
   exact ⟨cr, cu, fun _ => False, fun _ => False, ab, ax.cH d _ _ _ af, a6.cH ds _ _ _ aF, fun _ h => h.elim, fun _ h => h.elim, fun _ h => h.elim⟩
end
mutual
theorem ax.plain {w : World} {F : Nat → Prop} : ∀ (d : I) (cs : List Value) (S aL : Nat → Prop), d.plain = true → ax w F d cs S → ax w F d cs aL
 | .hole, _, _, _, _, h => h
 | .bool _, _, _, _, _, h => h
 | .dV, _, _, _, _, h => h
 | .int _ _, _, _, _, _, h => h
 | .str _, _, _, _, _, h => h
 | .c7, _, _, _, _, h => h
 | .bA, _, _, _, _, h => h
 | .slice xs, cs, S, aL, _, h => by rw [ax] at h ⊢; exact h
 | .aE sz xs, cs, S, aL, an, h => by simp [I.plain] at an
 | .ref d, cs, S, aL, _, h => by rw [ax] at h ⊢; exact h
 | .bd d, cs, S, aL, an, h => by simp [I.plain] at an
 | .agg aw, cs, S, aL, an, h => by rw [ax] at h ⊢; exact a6.plain aw _ _ _ an h
 | .tuple aw, cs, S, aL, an, h => by rw [ax] at h ⊢; exact a6.plain aw _ _ _ an h
 | .fn _ _, _, _, _, _, h => h
 | .h _ _, _, _, _, _, h => h
 | .an _ _, _, _, _, _, h => h
 | .U _ _, _, _, _, _, h => h
theorem a6.plain {w : World} {F : Nat → Prop} : ∀ (ds : List I) (cs : List Value) (S aL : Nat → Prop), I.e2 ds = true → a6 w F ds cs S → a6 w F ds cs aL
 | [], _, _, _, _, h => h
 | d :: ds, cs, S, aL, an, h => by
   rw [a6] at h ⊢
   simp only [I.e2, Bool.and_eq_true] at an
   obtain ⟨cr, cu, b1, dg, ab, af, aF, bb, bV, cd⟩ := h
   exact ⟨cr, cu, fun _ => False, fun _ => False, ab, ax.plain d _ _ _ an.1 af, a6.plain ds _ _ _ an.2 aF, fun _ h => h.elim, fun _ h => h.elim, fun _ h => h.elim⟩
end
def I.ez : List Nat → I → Bool
 | [], _ => false
 | k :: q, .agg aw => match aw[k]? with
   | some d => I.ez q d
   | none => false
 | k :: q, .tuple aw => match aw[k]? with
   | some d => I.ez q d
   | none => false
 | _ :: _, .aE _ _ => true
 | _ :: _, .bd _ => true
 | _ :: _, _ => false
theorem vK {aw : List I} (h : I.e2 aw = true) {k : Nat} {d : I} (ay : aw[k]? = some d) : d.plain = true := by
 induction aw generalizing k with
 | nil => simp at ay
 | cons a aw ih =>
   simp only [I.e2, Bool.and_eq_true] at h
   cases k with
   | zero => simp at ay; subst ay; exact h.1
   | succ k => simp at ay; exact ih h.2 ay
theorem I.CT : ∀ (q : List Nat) (d : I), d.plain = true → I.ez q d = false := by
 intro q
 induction q with
 | nil => intros; rfl
 | cons k q ih =>
   intro d ah
   cases d <;> first | rfl | (simp [I.plain] at ah; done) | skip
   all_goals
    simp only [I.ez]
    split
    ·rename_i aw x au; exact ih _ (vK (by simpa [I.plain] using ah) au)
    ·rfl
theorem I.CU : ∀ (q : List Nat) (d e : I), d.plain = true → I.sub q d = some e → e.plain = true := by
 intro q
 induction q with
 | nil => intro d e ah h; simp [I.sub] at h; exact h ▸ ah
 | cons k q ih =>
   intro d e ah h
   cases d <;> first | (simp [I.plain] at ah; done) | (simp [I.sub] at h; done) | skip
   all_goals
    simp only [I.sub] at h
    split at h
    ·rename_i aw x au; exact ih _ _ (vK (by simpa [I.plain] using ah) au) h
    ·cases h
theorem zf {w aD : World} {F : Nat → Prop} : ∀ (q : List Nat) (av : I) (cs : List Value) (S : Nat → Prop) (a : Option (Nat × Nat)) (d : I),
  ax w F av cs S → I.sub q av = some d → (∀ b, S b → aD.heap[b]? = w.heap[b]?) → cU aD q av cs a = cU w q av cs a := by
 intro q
 induction q with
 | nil => intros; rfl
 | cons k q ih =>
   have fields : ∀ (aw : List I) (cs : List Value) (S : Nat → Prop) (a : Option (Nat × Nat)) (x d : I), a6 w F aw cs S → aw[k]? = some x → I.sub q x = some d →
     (∀ b, S b → aD.heap[b]? = w.heap[b]?) →
     cU aD q x ((cs.drop (I.dp (aw.take k))).take x.wd) (a.map fun l => (l.1, l.2 + I.dp (aw.take k))) = cU w q x ((cs.drop (I.dp (aw.take k))).take x.wd) (a.map fun l => (l.1, l.2 + I.dp (aw.take k))) := by
    intro aw cs S a x d h au ah bL
    obtain ⟨cr, fc, cu, b1, iV, rfl, gQ, fo, gi, gR, fX, kD⟩ := a6.pick aw cs S k x h au
    rw [qY cr fc cu _ _ gQ (ax.length _ _ _ fX)]
    exact ih x fc iV _ d fX ah (fun b U => bL b (gi _ U))
   intro av cs S a d h ah bL
   cases av with
   | agg aw =>
     simp only [I.sub] at ah
     split at ah
     ·rename_i x au
      rw [ax] at h
      simp only [cU, au]
      exact fields aw cs S a x d h au ah bL
     ·cases ah
   | tuple aw =>
     simp only [I.sub] at ah
     split at ah
     ·rename_i x au
      rw [ax] at h
      simp only [cU, au]
      exact fields aw cs S a x d h au ah bL
     ·cases ah
   | aE sz xs =>
     simp only [I.sub] at ah
     split at ah
     ·rename_i x au
      rw [ax] at h
      rcases h with ⟨rfl, _, rfl⟩ | ⟨b, cap, cur, e, fr, dh, rfl, af, aF, bb, bV, cd, cf, er, g1, gp, jd⟩
      ·simp at au
      ·obtain ⟨cr, fc, cu, b1, iV, p, gQ, fo, gi, gR, fX, kD⟩ := a6.pick xs _ dh k x g1 au
       have hl := ax.length _ _ _ fX
       have Jp : k < xs.length := (List.getElem?_eq_some_iff.1 au).1
       have sS : x.wd = sz := er x (List.mem_of_getElem? au)
       have bU : I.dp (xs.take k) = k * sz := by
        rw [pk _ (fun d ah => er d (List.mem_of_mem_take ah))]
        rw [List.length_take, Nat.min_eq_left (by omega)]
       obtain ⟨nC, jw⟩ : ∃ nC, cur.toList = cr ++ (fc ++ (cu ++ nC)) := by
        refine ⟨cur.toList.drop (xs.length * sz), ?_⟩
        have := (List.take_append_drop (xs.length * sz) cur.toList).symm
        rw [p] at this
        simpa using this
       have il : k6 w b (k * sz) sz = fc := by
        have := q0 aF jw
        rwa [gQ, bU, hl, sS] at this
       have zg : k6 aD b (k * sz) sz = fc := by
        have := q0 ((bL b af).trans aF) jw
        rwa [gQ, bU, hl, sS] at this
       simp only [cU, au, il, zg]
       exact ih x fc iV _ d fX ah (fun c al => bL c (gp _ (gi _ al)))
     ·cases ah
   | bd x =>
     cases k with
     | succ k => simp [I.sub] at ah
     | zero =>
       simp only [I.sub] at ah
       rw [ax] at h
       obtain ⟨b, cur, e, fr, dh, rfl, af, aF, bb, bV, cd, cf⟩ := h
       have hl := ax.length _ _ _ bV
       have il : k6 w b 0 x.wd = cur.toList := by
        have := q0 (l := []) (m := cur.toList) (r := []) aF (by simp)
        rwa [hl] at this
       have zg : k6 aD b 0 x.wd = cur.toList := by
        have := q0 (l := []) (m := cur.toList) (r := []) ((bL b af).trans aF) (by simp)
        rwa [hl] at this
       simp only [cU, il, zg]
       exact ih x cur.toList dh _ d bV ah (fun c al => bL c (cd _ al))
   | _ => simp [I.sub] at ah
def gJ : Value → List Value
 | .agg cs => cs.toList
 | v => [v]
def cm : Value → List Value
 | .tuple vs => vs.toList.flatMap gJ
 | v => gJ v
def ha : I → Value → Prop
 | .agg _, v => ∃ arr, v = .agg arr
 | _, v => Value.fN v = true
def du : I → Value → Prop
 | .tuple ds, v => ∃ arr : Array Value, v = .tuple arr ∧ arr.size = ds.length ∧ ∀ (k : Nat) (d : I) (x : Value), ds[k]? = some d → arr[k]? = some x → ha d x ∧ (∀ vs, d ≠ .tuple vs) ∧ (gJ x).length = d.wd
 | d, v => ha d v
abbrev aj := Nat → I
mutual
def aH (w : World) (F : Nat → Prop) (s : aj) (az : Nat → Value) : I → Value → (Nat → Prop) → Prop
 | .hole, _, _ => True
 | .h x q, v, _ => ∀ d, I.sub q (s x) = some d → d.plain = false → ∃ cw a, cU w q (s x) (cm (az x)) none = some (d, cw, a) ∧ cm v = cw ∧ du d v
 | .an x q, v, _ => ∀ d, I.sub q (s x) = some d → I.ez q (s x) = true → ∃ cw b o, cU w q (s x) (cm (az x)) none = some (d, cw, some (b, o)) ∧ v = .pointer (some ⟨b, o, none⟩)
 | .U x k, v, _ => (s x).plain = false → ∃ b cur e fr, v = .pointer (some ⟨b, k, none⟩) ∧ F b ∧ w.heap[b]? = some (.cells cur e fr) ∧ cur.toList = cm (az x)
 | .fn f cap, v, _ => ∃ arr : Array Value, v = .func (.func f) #[] arr ∧ dE w F s az cap arr.toList
 | .bool b, v, S => du (.bool b) v ∧ ax w F (.bool b) (cm v) S
 | .dV, v, S => du .dV v ∧ ax w F .dV (cm v) S
 | .int k n, v, S => du (.int k n) v ∧ ax w F (.int k n) (cm v) S
 | .str x, v, S => du (.str x) v ∧ ax w F (.str x) (cm v) S
 | .c7, v, S => du .c7 v ∧ ax w F .c7 (cm v) S
 | .bA, v, S => du .bA v ∧ ax w F .bA (cm v) S
 | .slice xs, v, S => du (.slice xs) v ∧ ax w F (.slice xs) (cm v) S
 | .aE sz xs, v, S => du (.aE sz xs) v ∧ ax w F (.aE sz xs) (cm v) S
 | .ref d, v, S => du (.ref d) v ∧ ax w F (.ref d) (cm v) S
 | .bd d, v, S => du (.bd d) v ∧ ax w F (.bd d) (cm v) S
 | .agg d, v, S => du (.agg d) v ∧ ax w F (.agg d) (cm v) S
 | .tuple d, v, S => du (.tuple d) v ∧ ax w F (.tuple d) (cm v) S
def dE (w : World) (F : Nat → Prop) (s : aj) (az : Nat → Value) : List I → List Value → Prop
 | [], vs => vs = []
 | d :: ds, vs => ∃ v iW, vs = v :: iW ∧ aH w F s az d v (fun _ => False) ∧ dE w F s az ds iW
end
def I.tree : I → Bool
 | .hole => false
 | .h _ _ => false
 | .an _ _ => false
 | .U _ _ => false
 | .fn _ _ => false
 | _ => true
theorem aH.cv {w : World} {F : Nat → Prop} {s : aj} {az : Nat → Value} {d : I} {v : Value} {S : Nat → Prop} (aZ : d.tree = true) :
  aH w F s az d v S ↔ (du d v ∧ ax w F d (cm v) S) := by
 cases d <;> first | (simp [I.tree] at aZ; done) | rw [aH]
theorem hb {q : List Nat} {av d : I} (h : I.sub q av = some d) (an : d.plain = false ∨ I.ez q av = true) : av.tree = true := by
 cases q with
 | nil =>
   simp [I.sub] at h; subst h
   rcases an with an | an
   ·cases av <;> first | rfl | (simp [I.plain] at an)
   ·simp [I.ez] at an
 | cons k q => cases av <;> first | rfl | (simp [I.sub] at h)
theorem zh {d : I} (h : d.plain = false) : d.tree = true := hb (q := []) (by simp only [I.sub]) (.inl h)
theorem aH.frame {w aD : World} {F bI : Nat → Prop} {s : aj} {az : Nat → Value} {Sx : Nat → Nat → Prop} (bo : ∀ b, F b → aD.heap[b]? = w.heap[b]?) (CV : ∀ b, F b → bI b)
  (bL : ∀ x b, Sx x b → aD.heap[b]? = w.heap[b]?) (lD : ∀ x, aH w F s az (s x) (az x) (Sx x)) :
  ∀ (d : I) (v : Value) (S : Nat → Prop), (∀ b, S b → aD.heap[b]? = w.heap[b]?) → aH w F s az d v S → aH aD bI s az d v S := by
 have jy : ∀ (x : Nat) (q : List Nat) (d : I), I.sub q (s x) = some d → (d.plain = false ∨ I.ez q (s x) = true) → cU aD q (s x) (cm (az x)) none = cU w q (s x) (cm (az x)) none := by
  intro x q d ah an
  have aZ := hb ah an
  have := lD x
  rw [aH.cv aZ] at this
  exact zf q _ _ (Sx x) none d this.2 ah (bL x)
 have m3 : ∀ (d : I) (v : Value) (S : Nat → Prop), d.tree = true → (∀ b, S b → aD.heap[b]? = w.heap[b]?) → aH w F s az d v S → aH aD bI s az d v S := by
  intro d v S aZ pn h
  rw [aH.cv aZ] at h ⊢
  exact ⟨h.1, ax.mono CV _ _ _ _ (fun _ h => h) (ax.frame bo _ _ _ pn h.2)⟩
 have step : ∀ n, (∀ (d : I) (v : Value) (S : Nat → Prop), SizeOf.sizeOf d ≤ n → (∀ b, S b → aD.heap[b]? = w.heap[b]?) → aH w F s az d v S → aH aD bI s az d v S) ∧
   (∀ (ds : List I) (vs : List Value), SizeOf.sizeOf ds ≤ n → dE w F s az ds vs → dE aD bI s az ds vs) := by
  intro n
  induction n with
  | zero =>
    refine ⟨fun d v S bG => ?_, fun ds vs bG => ?_⟩
    ·cases d <;> simp at bG <;> omega
    ·cases ds <;> simp at bG <;> omega
  | succ n ih =>
    refine ⟨fun d v S bG pn h => ?_, fun ds vs bG h => ?_⟩
    ·cases d with
     | hole => rw [aH]; trivial
     | h x q =>
       rw [aH] at h ⊢
       intro d ah an
       rw [jy x q d ah (.inl an)]
       exact h d ah an
     | an x q =>
       rw [aH] at h ⊢
       intro d ah an
       rw [jy x q d ah (.inr an)]
       exact h d ah an
     | U x k =>
       rw [aH] at h ⊢
       intro an
       obtain ⟨b, cur, e, fr, ab, af, aF, bb⟩ := h an
       exact ⟨b, cur, e, fr, ab, CV b af, (bo b af).trans aF, bb⟩
     | fn f cap =>
       rw [aH] at h ⊢
       obtain ⟨arr, rfl, al⟩ := h
       exact ⟨arr, rfl, ih.2 _ _ (by simp at bG; omega) al⟩
     | _ => exact m3 _ _ _ rfl pn h
    ·cases ds with
     | nil => rw [dE] at h ⊢; exact h
     | cons d ds =>
       rw [dE] at h ⊢
       obtain ⟨v, iW, rfl, ab, af⟩ := h
       simp at bG
       exact ⟨v, iW, rfl, ih.1 _ _ _ (by omega) (fun _ h => h.elim) ab, ih.2 _ _ (by omega) af⟩
 intro d v S pn h
 exact (step (SizeOf.sizeOf d)).1 d v S (Nat.le_refl _) pn h
mutual
def cn (x : Nat) : I → I
 | .h y q => if y = x then .hole else .h y q
 | .an y q => if y = x then .hole else .an y q
 | .U y k => if y = x then .hole else .U y k
 | .fn f cap => .fn f (hG x cap)
 | d => d
def hG (x : Nat) : List I → List I
 | [] => []
 | d :: ds => cn x d :: hG x ds
end
mutual
def bW (x : Nat) : I → I
 | .h y q => if y = x then (if q = [] then .h y q else .hole) else .h y q
 | .an y q => if y = x then .hole else .an y q
 | .fn f cap => .fn f (hc x cap)
 | d => d
def hc (x : Nat) : List I → List I
 | [] => []
 | d :: ds => bW x d :: hc x ds
end
def cY {α : Type} (f : Nat → α) (t : Nat) (v : α) : Nat → α := fun u => if u = t then v else f u
def ki (t : Nat) (s : aj) : aj := fun u => cn t (s u)
def hp (t : Nat) (s : aj) : aj := fun u => bW t (s u)
theorem kF {α : Type} (f : Nat → α) (t : Nat) (v : α) : cY f t v t = v := by simp [cY]
theorem h4 {α : Type} (f : Nat → α) {t u : Nat} (v : α) (h : u ≠ t) : cY f t v u = f u := by simp [cY, h]
theorem Jq {t : Nat} {d : I} (h : d.tree = true) : cn t d = d := by cases d <;> first | rfl | (simp [I.tree] at h)
theorem zi {t : Nat} {d : I} (h : d.tree = true) : bW t d = d := by cases d <;> first | rfl | (simp [I.tree] at h)
theorem Jr {t : Nat} {d : I} (h : (cn t d).tree = true) : d.tree = true ∧ cn t d = d := by
 cases d <;> first | exact ⟨rfl, rfl⟩ | (simp only [cn] at h; first | (split at h <;> simp [I.tree] at h) | simp [I.tree] at h)
theorem zj {t : Nat} {d : I} (h : (bW t d).tree = true) : d.tree = true ∧ bW t d = d := by
 cases d <;> first | exact ⟨rfl, rfl⟩ | (simp only [bW] at h; first | (split at h <;> (try split at h) <;> simp [I.tree] at h) | simp [I.tree] at h)
section
variable {w : World} {F : Nat → Prop} {s ao : aj} {az gS : Nat → Value} {t : Nat}
theorem aH.cn (gj : ∀ x, x ≠ t → (ao x).tree = true → ao x = s x ∧ gS x = az x) : ∀ (n : Nat),
  (∀ (d : I) (v : Value) (S : Nat → Prop), SizeOf.sizeOf d ≤ n → aH w F s az d v S → aH w F ao gS (cB.cn t d) v S) ∧
  (∀ (ds : List I) (vs : List Value), SizeOf.sizeOf ds ≤ n → dE w F s az ds vs → dE w F ao gS (hG t ds) vs) := by
 intro n
 induction n with
 | zero =>
   refine ⟨fun d v S bG => ?_, fun ds vs bG => ?_⟩
   ·cases d <;> simp at bG <;> omega
   ·cases ds <;> simp at bG <;> omega
 | succ n ih =>
   refine ⟨fun d v S bG h => ?_, fun ds vs bG h => ?_⟩
   ·cases d with
    | hole => rw [cB.cn.eq_def]; simp only; rw [aH]; trivial
    | h x q =>
      simp only [cB.cn]
      split
      ·rw [aH]; trivial
      ·rename_i au
       rw [aH] at h ⊢
       intro d ah an
       obtain ⟨aJ, aP⟩ := gj x au (hb ah (.inl an))
       rw [aJ, aP]; rw [aJ] at ah
       exact h d ah an
    | an x q =>
      simp only [cB.cn]
      split
      ·rw [aH]; trivial
      ·rename_i au
       rw [aH] at h ⊢
       intro d ah an
       obtain ⟨aJ, aP⟩ := gj x au (hb ah (.inr an))
       rw [aJ, aP]; rw [aJ] at ah an
       exact h d ah an
    | U x k =>
      simp only [cB.cn]
      split
      ·rw [aH]; trivial
      ·rename_i au
       rw [aH] at h ⊢
       intro an
       obtain ⟨aJ, aP⟩ := gj x au (zh an)
       rw [aP]; rw [aJ] at an
       exact h an
    | fn f cap =>
      simp only [cB.cn]
      rw [aH] at h ⊢
      obtain ⟨arr, rfl, al⟩ := h
      exact ⟨arr, rfl, ih.2 _ _ (by simp at bG; omega) al⟩
    | _ =>
      rw [Jq (by rfl)]
      exact (aH.cv (by rfl)).2 ((aH.cv (by rfl)).1 h)
   ·cases ds with
    | nil => rw [hG, dE]; rw [dE] at h; exact h
    | cons d ds =>
      rw [hG, dE]; rw [dE] at h
      obtain ⟨v, iW, rfl, ab, af⟩ := h
      simp at bG
      exact ⟨v, iW, rfl, ih.1 _ _ _ (by omega) ab, ih.2 _ _ (by omega) af⟩
theorem aH.bW {aD : World} (gj : ∀ x, x ≠ t → (ao x).tree = true → ao x = s x ∧ gS x = az x) (kG : gS t = az t) (h5 : (ao t).plain = false → (s t).plain = false ∧ ∀ v, du (s t) v → du (ao t) v)
  (jy : ∀ x q d, x ≠ t → I.sub q (s x) = some d → (d.plain = false ∨ I.ez q (s x) = true) → cU aD q (s x) (cm (az x)) none = cU w q (s x) (cm (az x)) none)
  (bo : ∀ b, F b → aD.heap[b]? = w.heap[b]?) : ∀ (n : Nat),
  (∀ (d : I) (v : Value) (S : Nat → Prop), SizeOf.sizeOf d ≤ n → (∀ b, S b → aD.heap[b]? = w.heap[b]?) → aH w F s az d v S → aH aD F ao gS (cB.bW t d) v S) ∧
  (∀ (ds : List I) (vs : List Value), SizeOf.sizeOf ds ≤ n → dE w F s az ds vs → dE aD F ao gS (hc t ds) vs) := by
 intro n
 induction n with
 | zero =>
   refine ⟨fun d v S bG => ?_, fun ds vs bG => ?_⟩
   ·cases d <;> simp at bG <;> omega
   ·cases ds <;> simp at bG <;> omega
 | succ n ih =>
   refine ⟨fun d v S bG pn h => ?_, fun ds vs bG h => ?_⟩
   ·cases d with
    | hole => rw [cB.bW.eq_def]; simp only; rw [aH]; trivial
    | h x q =>
      simp only [cB.bW]
      split
      ·rename_i au
       subst au
       split
       ·rename_i cC
        subst cC
        rw [aH] at h ⊢
        intro d ah an
        simp only [I.sub, Option.some.injEq] at ah
        subst ah
        obtain ⟨dx, eb⟩ := h5 an
        obtain ⟨cw, a, aY, bs, b_⟩ := h (s x) rfl dx
        simp only [cU, Option.some.injEq, Prod.mk.injEq] at aY
        obtain ⟨-, aY, agP⟩ := aY
        refine ⟨cm (gS x), none, rfl, ?_, eb _ b_⟩
        rw [kG, bs, ← aY]
       ·rw [aH]; trivial
      ·rename_i au
       rw [aH] at h ⊢
       intro d ah an
       obtain ⟨aJ, aP⟩ := gj x au (hb ah (.inl an))
       rw [aJ, aP]; rw [aJ] at ah
       rw [jy x q d au ah (.inl an)]
       exact h d ah an
    | an x q =>
      simp only [cB.bW]
      split
      ·rw [aH]; trivial
      ·rename_i au
       rw [aH] at h ⊢
       intro d ah an
       obtain ⟨aJ, aP⟩ := gj x au (hb ah (.inr an))
       rw [aJ, aP]; rw [aJ] at ah an
       rw [jy x q d au ah (.inr an)]
       exact h d ah an
    | U x k =>
      simp only [cB.bW]
      rw [aH] at h ⊢
      intro an
      by_cases au : x = t
      ·subst au
       obtain ⟨b, cur, e, fr, ab, af, aF, bb⟩ := h (h5 an).1
       exact ⟨b, cur, e, fr, ab, af, (bo b af).trans aF, by rw [kG]; exact bb⟩
      ·obtain ⟨aJ, aP⟩ := gj x au (zh an)
       rw [aJ] at an
       obtain ⟨b, cur, e, fr, ab, af, aF, bb⟩ := h an
       exact ⟨b, cur, e, fr, ab, af, (bo b af).trans aF, by rw [aP]; exact bb⟩
    | fn f cap =>
      simp only [cB.bW]
      rw [aH] at h ⊢
      obtain ⟨arr, rfl, al⟩ := h
      exact ⟨arr, rfl, ih.2 _ _ (by simp at bG; omega) al⟩
    | _ =>
      rw [zi (by rfl)]
      have bq := (aH.cv (by rfl)).1 h
      exact (aH.cv (by rfl)).2 ⟨bq.1, ax.frame bo _ _ _ pn bq.2⟩
   ·cases ds with
    | nil => rw [hc, dE]; rw [dE] at h; exact h
    | cons d ds =>
      rw [hc, dE]; rw [dE] at h
      obtain ⟨v, iW, rfl, ab, af⟩ := h
      simp at bG
      exact ⟨v, iW, rfl, ih.1 _ _ _ (by omega) (fun _ h => h.elim) ab, ih.2 _ _ (by omega) af⟩
theorem aH.void (gj : ∀ x, x ≠ t → (ao x).tree = true → ao x = s x ∧ gS x = az x) (oj : (ao t).plain = true) : ∀ (n : Nat),
  (∀ (d : I) (v : Value) (S : Nat → Prop), SizeOf.sizeOf d ≤ n → aH w F s az d v S → aH w F ao gS d v S) ∧
  (∀ (ds : List I) (vs : List Value), SizeOf.sizeOf ds ≤ n → dE w F s az ds vs → dE w F ao gS ds vs) := by
 intro n
 induction n with
 | zero =>
   refine ⟨fun d v S bG => ?_, fun ds vs bG => ?_⟩
   ·cases d <;> simp at bG <;> omega
   ·cases ds <;> simp at bG <;> omega
 | succ n ih =>
   refine ⟨fun d v S bG h => ?_, fun ds vs bG h => ?_⟩
   ·cases d with
    | hole => rw [aH]; trivial
    | h x q =>
      rw [aH] at h ⊢
      intro d ah an
      by_cases au : x = t
      ·subst au
       rw [I.CU _ _ _ oj ah] at an; cases an
      ·obtain ⟨aJ, aP⟩ := gj x au (hb ah (.inl an))
       rw [aJ, aP]; rw [aJ] at ah
       exact h d ah an
    | an x q =>
      rw [aH] at h ⊢
      intro d ah an
      by_cases au : x = t
      ·subst au
       rw [I.CT _ _ oj] at an; cases an
      ·obtain ⟨aJ, aP⟩ := gj x au (hb ah (.inr an))
       rw [aJ, aP]; rw [aJ] at ah an
       exact h d ah an
    | U x k =>
      rw [aH] at h ⊢
      intro an
      by_cases au : x = t
      ·subst au; rw [oj] at an; cases an
      ·obtain ⟨aJ, aP⟩ := gj x au (zh an)
       rw [aP]; rw [aJ] at an
       exact h an
    | fn f cap =>
      rw [aH] at h ⊢
      obtain ⟨arr, rfl, al⟩ := h
      exact ⟨arr, rfl, ih.2 _ _ (by simp at bG; omega) al⟩
    | _ => exact (aH.cv (by rfl)).2 ((aH.cv (by rfl)).1 h)
   ·cases ds with
    | nil => rw [dE]; rw [dE] at h; exact h
    | cons d ds =>
      rw [dE]; rw [dE] at h
      obtain ⟨v, iW, rfl, ab, af⟩ := h
      simp at bG
      exact ⟨v, iW, rfl, ih.1 _ _ _ (by omega) ab, ih.2 _ _ (by omega) af⟩
end
structure bE (w0 : World) (F0 X F : Nat → Prop) (S : Nat → Nat → Prop) (s : aj) (az : Nat → Value) (w : World) : Prop where
 gk : ∀ b, F0 b → F b
 gC : ∀ b, F b → F0 b ∨ X b ∨ w0.heap.size ≤ b
 eT : ∀ b, F b → b < w.heap.size
 dM : ∀ t b, S t b → b < w.heap.size
 ff : ∀ t b, S t b → ¬ F b
 eU : ∀ t u b, t ≠ u → S t b → ¬ S u b
 dh : ∀ t b, S t b → X b ∨ w0.heap.size ≤ b
 da : ∀ t, aH w F s az (s t) (az t) (S t)
 old : ∀ b, b < w0.heap.size → ¬ X b → w.heap[b]? = w0.heap[b]?
 size : w0.heap.size ≤ w.heap.size
 os : w.os = w0.os
 tape : w.tape = w0.tape
 output : w.output = w0.output
section
variable {w0 w aD : World} {F0 X F : Nat → Prop} {S : Nat → Nat → Prop} {s : aj} {az : Nat → Value}
theorem bE.grow (h : bE w0 F0 X F S s az w) (U : ∀ b, b < w.heap.size → aD.heap[b]? = w.heap[b]?) (aa : w.heap.size ≤ aD.heap.size)
  (ab : aD.os = w.os) (af : aD.tape = w.tape) (aF : aD.output = w.output) : bE w0 F0 X F S s az aD where
 gk := h.gk
 gC := h.gC
 eT := fun b bo => Nat.lt_of_lt_of_le (h.eT b bo) aa
 dM := fun t b bo => Nat.lt_of_lt_of_le (h.dM t b bo) aa
 ff := h.ff
 eU := h.eU
 dh := h.dh
 da := fun t => aH.frame (Sx := S) (fun b bo => U b (h.eT b bo)) (fun _ h => h) (fun x b bL => U b (h.dM x b bL)) h.da _ _ _ (fun b bL => U b (h.dM t b bL)) (h.da t)
 old := fun b dQ iX => (U b (Nat.lt_of_lt_of_le dQ h.size)).trans (h.old b dQ iX)
 size := Nat.le_trans h.size aa
 os := ab.trans h.os
 tape := af.trans h.tape
 output := aF.trans h.output
def fi (S : Nat → Nat → Prop) (t : Nat) (Sn : Nat → Prop) : Nat → Nat → Prop := fun u b => if u = t then Sn b else S u b
theorem vL (S : Nat → Nat → Prop) (t : Nat) (Sn : Nat → Prop) : fi S t Sn t = Sn := by funext b; simp [fi]
theorem vM (S : Nat → Nat → Prop) {t u : Nat} (Sn : Nat → Prop) (h : u ≠ t) : fi S t Sn u = S u := by funext b; simp [fi, h]
theorem bE.q1 (h : bE w0 F0 X F S s az w) {t : Nat} {d : I} {v : Value} (an : d.plain = true) (ah : aH w F s az d v (fun _ => False)) :
  bE w0 F0 X F (fi S t (fun _ => False)) (cY s t d) (cY az t v) w where
 gk := h.gk
 gC := h.gC
 eT := h.eT
 dM := fun u b U => by simp only [fi] at U; split at U; exact U.elim; exact h.dM u b U
 ff := fun u b U => by simp only [fi] at U; split at U; exact U.elim; exact h.ff u b U
 eU := fun u x b cV U au => by
  simp only [fi] at U au
  split at U
  ·exact U.elim
  ·split at au
   ·exact au.elim
   ·exact h.eU u x b cV U au
 dh := fun u b U => by simp only [fi] at U; split at U; exact U.elim; exact h.dh u b U
 da := fun u => by
  have gj : ∀ x, x ≠ t → (cY s t d x).tree = true → cY s t d x = s x ∧ cY az t v x = az x := fun x au _ => ⟨h4 _ _ au, h4 _ _ au⟩
  have oj : (cY s t d t).plain = true := by rw [kF]; exact an
  by_cases hu : u = t
  ·subst hu
   rw [kF, kF, vL]
   exact (aH.void gj oj _).1 _ _ _ (Nat.le_refl _) ah
  ·rw [h4 _ _ hu, h4 _ _ hu, vM _ _ hu]
   exact (aH.void gj oj _).1 _ _ _ (Nat.le_refl _) (h.da u)
 old := h.old
 size := h.size
 os := h.os
 tape := h.tape
 output := h.output
theorem bE.CW (h : bE w0 F0 X F S s az w) {t : Nat} {d : I} {v : Value} {Sn : Nat → Prop} (ah : d.tree = true) (aa : du d v) (aK : ax w F d (cm v) Sn)
  (dQ : ∀ b, Sn b → b < w.heap.size) (bo : ∀ b, Sn b → ¬ F b) (bL : ∀ u b, u ≠ t → Sn b → ¬ S u b) (bh : ∀ b, Sn b → X b ∨ w0.heap.size ≤ b) :
  bE w0 F0 X F (fi S t Sn) (cY (ki t s) t d) (cY az t v) w where
 gk := h.gk
 gC := h.gC
 eT := h.eT
 dM := fun u b U => by simp only [fi] at U; split at U; exact dQ b U; exact h.dM u b U
 ff := fun u b U => by simp only [fi] at U; split at U; exact bo b U; exact h.ff u b U
 eU := fun u x b cV U au => by
  simp only [fi] at U au
  split at U
  ·rename_i hu
   rw [if_neg (fun e => cV (hu.trans e.symm))] at au
   exact bL x b (fun e => cV (hu.trans e.symm)) U au
  ·rename_i hu
   split at au
   ·exact bL u b hu au U
   ·exact h.eU u x b cV U au
 dh := fun u b U => by simp only [fi] at U; split at U; exact bh b U; exact h.dh u b U
 da := fun u => by
  have gj : ∀ x, x ≠ t → (cY (ki t s) t d x).tree = true → cY (ki t s) t d x = s x ∧ cY az t v x = az x := fun x au aZ => by
   rw [h4 _ _ au] at aZ ⊢
   exact ⟨(Jr aZ).2, h4 _ _ au⟩
  by_cases hu : u = t
  ·subst hu
   rw [kF, kF, vL]
   exact (aH.cv ah).2 ⟨aa, aK⟩
  ·rw [h4 _ _ hu, h4 _ _ hu, vM _ _ hu]
   exact (aH.cn gj _).1 _ _ _ (Nat.le_refl _) (h.da u)
 old := h.old
 size := h.size
 os := h.os
 tape := h.tape
 output := h.output
theorem po (k : Nat) (q : List Nat) (br x : I) : (∃ aw gs, x = .agg aw ∧ I.put (k :: q) br x = .agg gs) ∨ (∃ aw gs, x = .tuple aw ∧ I.put (k :: q) br x = .tuple gs) ∨
  (∃ sz xs bT, x = .aE sz xs ∧ I.put (k :: q) br x = .aE sz bT) ∨ (∃ y z, x = .bd y ∧ I.put (k :: q) br x = .bd z) ∨ I.put (k :: q) br x = x := by
 cases x with
 | agg aw => simp only [I.put]; split <;> exact .inl ⟨_, _, rfl, rfl⟩
 | tuple aw => simp only [I.put]; split <;> exact .inr (.inl ⟨_, _, rfl, rfl⟩)
 | aE sz aw => simp only [I.put]; split <;> exact .inr (.inr (.inl ⟨_, _, _, rfl, rfl⟩))
 | bd y => cases k <;> exact .inr (.inr (.inr (.inl ⟨_, _, rfl, rfl⟩)))
 | _ => exact .inr (.inr (.inr (.inr rfl)))
theorem CX {k : Nat} {q : List Nat} {br x : I} {v : Value} (h : ha x v) : ha (I.put (k :: q) br x) v := by
 rcases po k q br x with ⟨aw, gs, rfl, e⟩ | ⟨aw, gs, rfl, e⟩ | ⟨sz, xs, bT, rfl, e⟩ | ⟨y, z, rfl, e⟩ | e <;> rw [e] <;> exact h
theorem CY {k : Nat} {q : List Nat} {br x : I} (h : ∀ vs, x ≠ .tuple vs) : ∀ vs, I.put (k :: q) br x ≠ .tuple vs := by
 rcases po k q br x with ⟨aw, gs, rfl, e⟩ | ⟨aw, gs, rfl, e⟩ | ⟨sz, xs, bT, rfl, e⟩ | ⟨y, z, rfl, e⟩ | e <;> rw [e] <;> first | exact h | (intro vs bq; cases bq; done) | exact (h _ rfl).elim
theorem zk {k : Nat} {q : List Nat} {d br av : I} {v : Value} (h : du av v) (ah : I.sub (k :: q) av = some d) (ab : ∀ v, ha d v → ha br v) (af : (∀ vs, d ≠ .tuple vs) → ∀ vs, br ≠ .tuple vs) (aF : br.wd = d.wd) :
  du (I.put (k :: q) br av) v := by
 cases av with
 | tuple aw =>
   simp only [I.sub] at ah
   split at ah
   ·rename_i x au
    simp only [I.put, au]
    simp only [du] at h ⊢
    obtain ⟨arr, rfl, bG, lD⟩ := h
    refine ⟨arr, rfl, by simpa using bG, fun j e y he bC => ?_⟩
    rw [List.getElem?_set] at he
    split at he
    ·rename_i zl
     subst zl
     split at he
     ·simp only [Option.some.injEq] at he
      subst he
      obtain ⟨aY, bs, b_⟩ := lD k x y au bC
      refine ⟨?_, ?_, b_.trans (I.qZ q x d br ah aF).symm⟩
      ·cases q with
       | nil =>
         simp only [I.sub, Option.some.injEq] at ah
         subst ah
         exact ab _ aY
       | cons b6 q => exact CX aY
      ·cases q with
       | nil =>
         simp only [I.sub, Option.some.injEq] at ah
         subst ah
         exact af bs
       | cons b6 q => exact CY bs
     ·cases he
    ·exact lD j e y he bC
   ·cases ah
 | agg aw => simp only [I.put]; split <;> exact h
 | aE sz aw => simp only [I.put]; split <;> exact h
 | bd y => cases k <;> exact h
 | _ => exact h
theorem zm {d : I} {v : Value} (h : ha d v) : ha d.cH v := by cases d <;> exact h
theorem CZ {s : aj} {x : Nat} {q : List Nat} {d : I} (ah : I.sub q (s x) = some d) (an : d.plain = false) :
  (cY (hp x s) x (I.put q d.cH (s x)) x).plain = false → (s x).plain = false ∧ ∀ v, du (s x) v → du (cY (hp x s) x (I.put q d.cH (s x)) x) v := by
  rw [kF]
  intro fj
  cases q with
  | nil =>
    exfalso
    have : ∀ d : I, d.cH.plain = true := by
     intro d
     have key : ∀ n, (∀ d : I, SizeOf.sizeOf d ≤ n → d.cH.plain = true) ∧ (∀ ds : List I, SizeOf.sizeOf ds ≤ n → I.e2 (I.jx ds) = true) := by
      intro n
      induction n with
      | zero => exact ⟨fun d bG => by cases d <;> simp at bG <;> omega, fun ds bG => by cases ds <;> simp at bG <;> omega⟩
      | succ n ih =>
        refine ⟨fun d bG => ?_, fun ds bG => ?_⟩
        ·cases d with
         | agg aw => simp only [I.cH, I.plain]; exact ih.2 _ (by simp at bG; omega)
         | tuple aw => simp only [I.cH, I.plain]; exact ih.2 _ (by simp at bG; omega)
         | _ => rfl
        ·cases ds with
         | nil => rfl
         | cons d ds =>
           simp at bG
           simp only [I.jx, I.e2, Bool.and_eq_true]
           exact ⟨ih.1 _ (by omega), ih.2 _ (by omega)⟩
     exact (key _).1 d (Nat.le_refl _)
    simp only [I.put] at fj
    rw [this] at fj
    cases fj
  | cons k q =>
    refine ⟨?_, fun v aK => zk aK ah (fun v h => zm h) (fun h vs e => ?_) (I.oi d)⟩
    ·cases zn : (s x).plain with
     | false => rfl
     | true => rw [I.CU _ _ _ zn ah] at an; cases an
    ·cases d <;> first | (exact h _ rfl) | (simp [I.cH] at e)
theorem bE.take (h : bE w0 F0 X F S s az w) {x : Nat} {q : List Nat} {d : I} (ah : I.sub q (s x) = some d) (an : d.plain = false) :
  ∃ (Sn fW : Nat → Prop) (cw : List Value) (a : Option (Nat × Nat)), bE w0 F0 X F (fi S x Sn) (cY (hp x s) x (I.put q d.cH (s x))) az w ∧
    cU w q (s x) (cm (az x)) none = some (d, cw, a) ∧ ax w F d cw fW ∧ (∀ b, fW b → S x b) ∧ (∀ b, Sn b → S x b) ∧ (∀ b, fW b → ¬ Sn b) ∧
    (∀ (br : I) (v : Value) (aL : Nat → Prop), aH w F s az br v aL → aH w F (cY (hp x s) x (I.put q d.cH (s x))) az (cB.bW x br) v aL) := by
 have aZ := hb ah (.inl an)
 have au := h.da x
 rw [aH.cv aZ] at au
 obtain ⟨cw, a, dH, fW, gr, aY, bs, b_, dq, ey⟩ := ctx q (s x) (cm (az x)) (S x) none d au.2 ah
 have iG : ax w F (I.put q d.cH (s x)) (cm (az x)) dH := by
  have jz : ax w F d.cH cw (fun _ => False) := ax.cH _ _ _ _ dq
  have om : ∀ b, (dH b ∨ False) → dH b := fun b h => h.elim id False.elim
  rcases ey with ⟨l, r, aJ, aP, a_⟩ | ⟨b, cur, e, fr, l, r, aJ, aP, a_, cD, c4, b8⟩
  ·have := a_ w _ cw _ (fun _ _ => rfl) (fun _ _ => rfl) (I.oi d) jz (fun _ h => h.elim)
   rw [← aJ] at this
   exact ax.mono (fun _ h => h) _ _ _ _ om this
  ·have := b8 w _ cw _ (fun _ _ => rfl) (fun _ _ _ => rfl) (by rw [a_, ← c4]) (I.oi d) jz (fun _ h => h.elim)
   exact ax.mono (fun _ h => h) _ _ _ _ om this
 have Js : du (I.put q d.cH (s x)) (az x) ∧ (I.put q d.cH (s x)).tree = true ∨ I.put q d.cH (s x) = .hole := by
  cases q with
  | nil =>
    simp only [I.sub, Option.some.injEq] at ah
    subst ah
    simp only [I.put]
    cases aa : s x with
    | aE sz xs => right; rfl
    | bd y => right; rfl
    | agg aw => left; rw [aa] at au; exact ⟨au.1, rfl⟩
    | tuple aw =>
      left
      rw [aa] at au
      refine ⟨?_, rfl⟩
      simp only [du, I.cH] at au ⊢
      obtain ⟨arr, e, bG, lD⟩ := au.1
      have hl : ∀ aw : List I, I.jx aw = aw.map I.cH := by
       intro aw; induction aw with
       | nil => rfl
       | cons a aw ih => simp [I.jx, ih]
      refine ⟨arr, e, by rw [hl]; simpa using bG, fun k ei y he bC => ?_⟩
      rw [hl, List.getElem?_map] at he
      cases ay : aw[k]? with
      | none => rw [ay] at he; cases he
      | some z =>
        rw [ay] at he
        simp only [Option.map_some, Option.some.injEq] at he
        subst he
        obtain ⟨aY, bs, b_⟩ := lD k z y ay bC
        refine ⟨zm aY, fun vs e => ?_, b_.trans (I.oi z).symm⟩
        cases z <;> first | (exact bs _ rfl) | (simp [I.cH] at e)
    | _ => rw [aa] at an; simp [I.plain] at an
  | cons k q =>
    left
    refine ⟨zk au.1 ah (fun v h => zm h) (fun h vs e => ?_) (I.oi d), ?_⟩
    ·cases d <;> first | (exact h _ rfl) | (simp [I.cH] at e)
    ·rcases po k q d.cH (s x) with ⟨aw, gs, aJ, e⟩ | ⟨aw, gs, aJ, e⟩ | ⟨sz, xs, bT, aJ, e⟩ | ⟨y, z, aJ, e⟩ | e <;> rw [e] <;> first | rfl | exact aZ
 refine ⟨dH, fW, cw, a, ?_, gr, dq, bs, aY, fun b ab af => b_ b af ab, ?_⟩
 rotate_left
 ·have gj : ∀ y, y ≠ x → (cY (hp x s) x (I.put q d.cH (s x)) y).tree = true → cY (hp x s) x (I.put q d.cH (s x)) y = s y ∧ az y = az y := fun y bC aZ => by
   rw [h4 _ _ bC] at aZ ⊢
   exact ⟨(zj aZ).2, rfl⟩
  intro br v aL fV
  exact (aH.bW gj rfl (CZ ah an) (fun _ _ _ _ _ _ => rfl) (fun _ _ => rfl) _).1 _ _ _ (Nat.le_refl _) (fun _ _ => rfl) fV
 have gj : ∀ y, y ≠ x → (cY (hp x s) x (I.put q d.cH (s x)) y).tree = true → cY (hp x s) x (I.put q d.cH (s x)) y = s y ∧ az y = az y := fun y bC aZ => by
  rw [h4 _ _ bC] at aZ ⊢
  exact ⟨(zj aZ).2, rfl⟩
 have h5 := CZ (s := s) (x := x) ah an
 constructor
 case gk => exact h.gk
 case gC => exact h.gC
 case eT => exact h.eT
 case dM => exact fun u b U => by simp only [fi] at U; split at U; exact h.dM x b (aY b U); exact h.dM u b U
 case ff => exact fun u b U => by simp only [fi] at U; split at U; exact h.ff x b (aY b U); exact h.ff u b U
 case eU =>
  intro u y b cV U bC
  simp only [fi] at U bC
  split at U
  ·rename_i hu
   rw [if_neg (fun e => cV (hu.trans e.symm))] at bC
   exact h.eU x y b (fun e => cV (hu.trans e)) (aY b U) bC
  ·rename_i hu
   split at bC
   ·exact h.eU u x b hu U (aY b bC)
   ·exact h.eU u y b cV U bC
 case dh => exact fun u b U => by simp only [fi] at U; split at U; exact h.dh x b (aY b U); exact h.dh u b U
 case da =>
  intro u
  by_cases hu : u = x
  ·subst hu
   rw [kF, vL]
   rcases Js with ⟨aJ, aP⟩ | e
   ·exact (aH.cv aP).2 ⟨aJ, iG⟩
   ·rw [e, aH]; trivial
  ·rw [h4 _ _ hu, vM _ _ hu]
   exact (aH.bW gj rfl h5 (fun _ _ _ _ _ _ => rfl) (fun _ _ => rfl) _).1 _ _ _ (Nat.le_refl _) (fun _ _ => rfl) (h.da u)
 case old => exact h.old
 case size => exact h.size
 case os => exact h.os
 case tape => exact h.tape
 case output => exact h.output
theorem bE.store (h : bE w0 F0 X F S s az w) {x : Nat} {q : List Nat} {d br : I} (ah : I.sub q (s x) = some d) (al : I.ez q (s x) = true)
  {fe : List Value} {Sn : Nat → Prop} (aK : ax w F br fe Sn) (kE : br.wd = d.wd)
  (dQ : ∀ b, Sn b → b < w.heap.size) (bo : ∀ b, Sn b → ¬ F b) (bL : ∀ u b, Sn b → ¬ S u b) (bh : ∀ b, Sn b → X b ∨ w0.heap.size ≤ b) :
  ∃ (cw : List Value) (b : Nat) (l r : List Value) (cur : Array Value) (e : TypeId) (fr : Nat × Nat), cU w q (s x) (cm (az x)) none = some (d, cw, some (b, l.length)) ∧
    w.heap[b]? = some (.cells cur e fr) ∧ cur.toList = l ++ (cw ++ r) ∧ mh fr cur.size ∧
    ∀ aD, aD.heap[b]? = some (.cells (l ++ (fe ++ r)).toArray e fr) → (∀ c, c ≠ b → aD.heap[c]? = w.heap[c]?) → aD.heap.size = w.heap.size → aD.os = w.os → aD.tape = w.tape → aD.output = w.output →
      ∃ aL, bE w0 F0 X F aL (cY (hp x s) x (I.put q br (s x))) az aD := by
 have aZ := hb ah (.inr al)
 have au := h.da x
 rw [aH.cv aZ] at au
 obtain ⟨cw, a, dH, fW, gr, aY, bs, b_, dq, ey⟩ := ctx q (s x) (cm (az x)) (S x) none d au.2 ah
 have Jt : Deep w F q (s x) (cm (az x)) d cw a dH := by
  rcases ey with ⟨l, r, aJ, aP, a_⟩ | ey
  ·exfalso
   have lE : ∀ (q : List Nat) (av : I) (cs : List Value) (a0 : Option (Nat × Nat)) (d : I) (cw : List Value), I.ez q av = true → cU w q av cs a0 = some (d, cw, none) → False := by
    intro q
    induction q with
    | nil => intro av cs a0 d cw al; simp [I.ez] at al
    | cons k q ih =>
      have C0 : ∀ (q : List Nat) (av : I) (cs : List Value) (l : Nat × Nat) (d : I) (cw : List Value), cU w q av cs (some l) = some (d, cw, none) → False := by
       intro q
       induction q with
       | nil => intro av cs l d cw h; simp [cU] at h
       | cons k q vN =>
         intro av cs l d cw h
         cases av with
         | agg aw => rw [cU] at h; split at h; exact vN _ _ _ _ _ h; cases h
         | tuple aw => rw [cU] at h; split at h; exact vN _ _ _ _ _ h; cases h
         | aE sz xs => simp only [cU] at h; split at h; exact vN _ _ _ _ _ h; cases h
         | bd y =>
           cases k with
           | zero => rw [cU.eq_def] at h; simp only at h; split at h; exact vN _ _ _ _ _ h; cases h
           | succ k => rw [show cU w ((k + 1) :: q) (.bd y) cs (some l) = none from rfl] at h; cases h
         | _ => simp [cU] at h
      intro av cs a0 d cw al h
      cases av with
      | agg aw =>
        simp only [I.ez] at al
        split at al
        ·rename_i y bC
         simp only [cU, bC] at h
         exact ih _ _ _ _ _ al h
        ·cases al
      | tuple aw =>
        simp only [I.ez] at al
        split at al
        ·rename_i y bC
         simp only [cU, bC] at h
         exact ih _ _ _ _ _ al h
        ·cases al
      | aE sz xs => simp only [cU] at h; split at h; exact C0 _ _ _ _ _ _ h; cases h
      | bd y =>
        cases k with
        | zero => rw [cU.eq_def] at h; simp only at h; split at h; exact C0 _ _ _ _ _ _ h; cases h
        | succ k => rw [show cU w ((k + 1) :: q) (.bd y) cs a0 = none from rfl] at h; cases h
      | _ => simp [I.ez] at al
   simp only [Option.map_none] at aP
   subst aP
   exact lE _ _ _ _ _ _ al gr
  ·exact ey
 obtain ⟨b, cur, e, fr, l, r, rfl, aP, a_, cD, c4, b8⟩ := Jt
 refine ⟨cw, b, l, r, cur, e, fr, gr, a_, c4, cD, ?_⟩
 intro aD kh pq dB Ju Jv sV
 have vO : S x b := aY _ aP
 have q2 : ∀ c, F c → aD.heap[c]? = w.heap[c]? := fun c al => pq c (by rintro rfl; exact h.ff x _ vO al)
 have agQ : fe.length = cw.length := by rw [ax.length _ _ _ aK, ax.length _ _ _ dq, kE]
 have iG := b8 aD br fe Sn q2 (fun c _ cV => pq c cV) kh kE
  (ax.frame q2 _ _ _ (fun c al => pq c (by rintro rfl; exact bL x _ al vO)) aK) (fun c al om => bL x c al (aY _ om))
 obtain ⟨k, hT, rfl⟩ : ∃ k hT, q = k :: hT := by
  cases q with
  | nil => simp [I.ez] at al
  | cons k q => exact ⟨k, q, rfl⟩
 have C1 : ∀ v, du (s x) v → du (I.put (k :: hT) br (s x)) v := by
  intro v aK
  rcases po k hT br (s x) with ⟨aw, gs, aJ, e⟩ | ⟨aw, gs, aJ, e⟩ | ⟨sz, xs, bT, aJ, e⟩ | ⟨y, z, aJ, e⟩ | e
  ·rw [e]; rw [aJ] at aK; exact aK
  ·
   rw [aJ] at aK ah al ⊢
   simp only [I.ez] at al
   split at al
   ·rename_i y bC
    simp only [I.put, bC]
    cases hT with
    | nil => simp [I.ez] at al
    | cons b6 bF =>
      simp only [du] at aK ⊢
      obtain ⟨arr, rfl, bG, lD⟩ := aK
      refine ⟨arr, rfl, by simpa using bG, fun j e iH he vP => ?_⟩
      rw [List.getElem?_set] at he
      split at he
      ·rename_i zl
       subst zl
       split at he
       ·simp only [Option.some.injEq] at he
        subst he
        obtain ⟨aY, bs, b_⟩ := lD _ y iH bC vP
        simp only [I.sub, bC] at ah
        exact ⟨CX aY, CY bs, b_.trans (I.qZ (b6 :: bF) y d br ah kE).symm⟩
       ·cases he
      ·exact lD j e iH he vP
   ·cases al
  ·rw [e]; rw [aJ] at aK; exact aK
  ·rw [e]; rw [aJ] at aK; exact aK
  ·rw [e]; exact aK
 have Jw : (I.put (k :: hT) br (s x)).tree = true := by
  rcases po k hT br (s x) with ⟨aw, gs, aJ, e⟩ | ⟨aw, gs, aJ, e⟩ | ⟨sz, xs, bT, aJ, e⟩ | ⟨y, z, aJ, e⟩ | e <;> rw [e] <;> first | rfl | exact aZ
 let ao := cY (hp x s) x (I.put (k :: hT) br (s x))
 have gj : ∀ y, y ≠ x → (ao y).tree = true → ao y = s y ∧ az y = az y := fun y bC aZ => by
  have e : ao y = bW x (s y) := h4 _ _ bC
  rw [e] at aZ ⊢
  exact ⟨(zj aZ).2, rfl⟩
 have h5 : (ao x).plain = false → (s x).plain = false ∧ ∀ v, du (s x) v → du (ao x) v := by
  intro _
  refine ⟨?_, ?_⟩
  ·cases zn : (s x).plain with
   | false => rfl
   | true => rw [I.CT _ _ zn] at al; cases al
  ·simp only [ao, kF]; exact C1
 refine ⟨fi S x (fun c => dH c ∨ Sn c), ?_⟩
 constructor
 case gk => exact h.gk
 case gC => exact h.gC
 case eT => exact fun b U => by rw [dB]; exact h.eT b U
 case dM =>
  intro u c U
  rw [dB]
  simp only [fi] at U
  split at U
  ·rcases U with U | U
   ·exact h.dM x c (aY c U)
   ·exact dQ c U
  ·exact h.dM u c U
 case ff =>
  intro u c U
  simp only [fi] at U
  split at U
  ·rcases U with U | U
   ·exact h.ff x c (aY c U)
   ·exact bo c U
  ·exact h.ff u c U
 case eU =>
  intro u y c cV U bC
  simp only [fi] at U bC
  split at U
  ·rename_i hu
   rw [if_neg (fun e => cV (hu.trans e.symm))] at bC
   rcases U with U | U
   ·exact h.eU x y c (fun e => cV (hu.trans e)) (aY c U) bC
   ·exact bL y c U bC
  ·rename_i hu
   split at bC
   ·rcases bC with bC | bC
    ·exact h.eU u x c hu U (aY c bC)
    ·exact bL u c bC U
   ·exact h.eU u y c cV U bC
 case dh =>
  intro u c U
  simp only [fi] at U
  split at U
  ·rcases U with U | U
   ·exact h.dh x c (aY c U)
   ·exact bh c U
  ·exact h.dh u c U
 case da =>
  intro u
  by_cases hu : u = x
  ·subst hu
   rw [kF, vL]
   exact (aH.cv Jw).2 ⟨C1 _ au.1, iG⟩
  ·rw [h4 _ _ hu, vM _ _ hu]
   have cV : ∀ y c, y ≠ x → S y c → aD.heap[c]? = w.heap[c]? := fun y c bC al => pq c (by rintro rfl; exact h.eU y x c bC al vO)
   refine (aH.bW gj rfl h5 (fun y bF d2 bC h6 C2 => ?_) q2 _).1 _ _ _ (Nat.le_refl _) (fun c al => cV u c hu al) (h.da u)
   have C3 := h.da y
   rw [aH.cv (hb h6 C2)] at C3
   exact zf bF _ _ _ none d2 C3.2 h6 (fun c al => cV y c bC al)
 case old =>
  intro c dQ iX
  by_cases vQ : c = b
  ·subst vQ
   exfalso
   rcases h.dh x c vO with jz | jz
   ·exact iX jz
   ·omega
  ·exact (pq c vQ).trans (h.old c dQ iX)
 case size => rw [dB]; exact h.size
 case os => exact Ju.trans h.os
 case tape => exact Jv.trans h.tape
 case output => exact sV.trans h.output
end
end Go.cB
