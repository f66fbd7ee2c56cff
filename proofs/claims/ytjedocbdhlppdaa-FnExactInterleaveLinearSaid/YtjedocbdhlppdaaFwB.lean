/- Part of a proof that a law returns true for every input. No condition. -/
import Derived.Test.YtjedocbdhlppdaaFwA
import Derived.Laws.AppendOwn
import Derived.Calls
namespace Go.dp
inductive j where
 | hole
 | bool (b : Bool)
 | eo
 | int (k : IntKind) (n : Int)
 | str (s : List UInt8)
 | dj
 | af
 | slice (xs : List j)
 | ai (sz : Nat) (xs : List j)
 | ref (d : j)
 | aG (d : j)
 | agg (ar : List j)
 | tuple (vs : List j)
 | fn (f : FuncId) (cap : List j)
 | h (x : Nat) (q : List Nat)
 | ay (x : Nat) (q : List Nat)
 | U (x : Nat) (k : Nat)
 deriving Inhabited
mutual
def j.wd : j → Nat
 | .agg ar => j.dI ar
 | .tuple ar => j.dI ar
 | _ => 1
def j.dI : List j → Nat
 | [] => 0
 | d :: ds => d.wd + j.dI ds
end
def hj (w : World) (b o : Nat) (cs : List Value) : Prop := ∀ aK c, cs[aK]? = some c → w.cell? ⟨b, o + aK, none⟩ = some c
def pc (fr : Nat × Nat) (n : Nat) : Prop := ∀ o, o < n → ¬ (fr.1 ≤ o ∧ o < fr.2)
def Value.gw : Value → Bool
 | .agg _ => false
 | .tuple _ => false
 | _ => true
def j.single : j → Bool
 | .agg _ => false
 | .tuple _ => false
 | .hole => false
 | _ => true
mutual
def ax (w : World) (F : Nat → Prop) : j → List Value → (Nat → Prop) → Prop
 | .hole, cs, _ => ∃ v, Value.gw v = true ∧ cs = [v]
 | .bool b, cs, _ => cs = [.bool b]
 | .eo, cs, _ => ∃ b, cs = [.bool b]
 | .int k n, cs, _ => cs = [.int k n]
 | .str s, cs, _ => cs = [.string ⟨⟨s⟩⟩]
 | .dj, cs, _ => cs = [.pointer none]
 | .af, cs, _ => cs = [.slice none 0 0]
 | .slice xs, cs, _ => (xs = [] ∧ ∃ a c, cs = [.slice a 0 c] ∧ c ≤ maxLen ∧ (a = none → c = 0)) ∨
   ∃ b o cap ea sz, cs = [.slice (some ⟨b, o, none⟩) xs.length cap] ∧ F b ∧ xs.length ≤ cap ∧ cap ≤ maxLen ∧ (∀ d ∈ xs, d.wd = sz) ∧
     hj w b o ea ∧ ba w F xs ea (fun _ => False)
 | .ai sz xs, cs, S => (xs = [] ∧ ∃ a, cs = [.slice a 0 0]) ∨
   ∃ b cap cur e fr aU, cs = [.slice (some ⟨b, 0, none⟩) xs.length cap] ∧ S b ∧ w.heap[b]? = some (.cells cur e fr) ∧ pc fr cur.size ∧
     xs.length ≤ cap ∧ cap ≤ maxLen ∧ cur.size = cap * sz ∧ (∀ d ∈ xs, d.wd = sz) ∧ ba w F xs (cur.toList.take (xs.length * sz)) aU ∧ (∀ c, aU c → S c) ∧ ¬ aU b
 | .ref d, cs, _ => ∃ b o ea, cs = [.pointer (some ⟨b, o, none⟩)] ∧ F b ∧ hj w b o ea ∧ ax w F d ea (fun _ => False)
 | .aG d, cs, S => ∃ b cur e fr aU, cs = [.pointer (some ⟨b, 0, none⟩)] ∧ S b ∧ w.heap[b]? = some (.cells cur e fr) ∧ pc fr cur.size ∧
   ax w F d cur.toList aU ∧ (∀ c, aU c → S c) ∧ ¬ aU b
 | .agg ar, cs, S => ba w F ar cs S
 | .tuple ar, cs, S => ba w F ar cs S
 | .fn f caps, cs, _ => ∃ arr : Array Value, cs = [.func (.func f) #[] arr] ∧ (∀ d ∈ caps, d.single = true) ∧ ba w F caps arr.toList (fun _ => False)
 | .h _ _, _, _ => False
 | .ay _ _, _, _ => False
 | .U _ _, _, _ => False
def ba (w : World) (F : Nat → Prop) : List j → List Value → (Nat → Prop) → Prop
 | [], cs, _ => cs = []
 | d :: ds, cs, S => ∃ bT b4 b7 dA, cs = bT ++ b4 ∧ ax w F d bT b7 ∧ ba w F ds b4 dA ∧ (∀ b, b7 b → S b) ∧ (∀ b, dA b → S b) ∧ (∀ b, b7 b → ¬ dA b)
end
theorem cell?_of_block {w aS : World} {b : Nat} (h : aS.heap[b]? = w.heap[b]?) (o : Nat) : aS.cell? ⟨b, o, none⟩ = w.cell? ⟨b, o, none⟩ := by
 simp [World.cell?, h]
theorem hj.frame {w aS : World} {b o : Nat} {cs : List Value} (h : aS.heap[b]? = w.heap[b]?) (a2 : hj w b o cs) : hj aS b o cs :=
 fun aK c az => (cell?_of_block h _).trans (a2 aK c az)
mutual
theorem ax.frame {w aS : World} {F : Nat → Prop} (bE : ∀ b, F b → aS.heap[b]? = w.heap[b]?) :
  ∀ (d : j) (cs : List Value) (S : Nat → Prop), (∀ b, S b → aS.heap[b]? = w.heap[b]?) → ax w F d cs S → ax aS F d cs S
 | .hole, _, _, _, h => h
 | .bool _, _, _, _, h => h
 | .eo, _, _, _, h => h
 | .int _ _, _, _, _, h => h
 | .str _, _, _, _, h => h
 | .dj, _, _, _, h => h
 | .af, _, _, _, h => h
 | .slice xs, cs, S, b9, h => by
   rw [ax] at h ⊢
   rcases h with h | ⟨b, o, cap, ea, sz, ag, ah, aM, bd, bI, cx, cy⟩
   ·exact .inl h
   ·exact .inr ⟨b, o, cap, ea, sz, ag, ah, aM, bd, bI, cx.frame (bE _ ah), ba.frame bE xs _ _ (fun _ h => h.elim) cy⟩
 | .ai sz xs, cs, S, b9, h => by
   rw [ax] at h ⊢
   rcases h with h | ⟨b, cap, cur, e, fr, aU, ag, ah, aM, bd, bI, cx, cy, eB, iq, hk, kI⟩
   ·exact .inl h
   ·exact .inr ⟨b, cap, cur, e, fr, aU, ag, ah, (b9 _ ah).trans aM, bd, bI, cx, cy, eB, ba.frame bE xs _ _ (fun c az => b9 _ (hk _ az)) iq, hk, kI⟩
 | .ref d, cs, S, b9, h => by
   rw [ax] at h ⊢
   obtain ⟨b, o, ea, ag, ah, aM, bd⟩ := h
   exact ⟨b, o, ea, ag, ah, aM.frame (bE _ ah), ax.frame bE d _ _ (fun _ h => h.elim) bd⟩
 | .aG d, cs, S, b9, h => by
   rw [ax] at h ⊢
   obtain ⟨b, cur, e, fr, aU, ag, ah, aM, bd, bI, cx, cy⟩ := h
   exact ⟨b, cur, e, fr, aU, ag, ah, (b9 _ ah).trans aM, bd, ax.frame bE d _ _ (fun c az => b9 _ (cx _ az)) bI, cx, cy⟩
 | .agg ar, cs, S, b9, h => by rw [ax] at h ⊢; exact ba.frame bE ar _ _ b9 h
 | .tuple ar, cs, S, b9, h => by rw [ax] at h ⊢; exact ba.frame bE ar _ _ b9 h
 | .fn _ caps, cs, S, b9, h => by
   rw [ax] at h ⊢
   obtain ⟨arr, ag, ah, aM⟩ := h
   exact ⟨arr, ag, ah, ba.frame bE caps _ _ (fun _ h => h.elim) aM⟩
 | .h _ _, _, _, _, h => h
 | .ay _ _, _, _, _, h => h
 | .U _ _, _, _, _, h => h
theorem ba.frame {w aS : World} {F : Nat → Prop} (bE : ∀ b, F b → aS.heap[b]? = w.heap[b]?) :
  ∀ (ds : List j) (cs : List Value) (S : Nat → Prop), (∀ b, S b → aS.heap[b]? = w.heap[b]?) → ba w F ds cs S → ba aS F ds cs S
 | [], _, _, _, h => h
 | d :: ds, cs, S, b9, h => by
   rw [ba] at h ⊢
   obtain ⟨bT, b4, b7, dA, ag, ah, aM, bd, bI, cx⟩ := h
   exact ⟨bT, b4, b7, dA, ag, ax.frame bE d _ _ (fun b U => b9 _ (bd _ U)) ah, ba.frame bE ds _ _ (fun b U => b9 _ (bI _ U)) aM, bd, bI, cx⟩
end
mutual
theorem ax.mono {w : World} {F bO : Nat → Prop} (bE : ∀ b, F b → bO b) :
  ∀ (d : j) (cs : List Value) (S aU : Nat → Prop), (∀ b, S b → aU b) → ax w F d cs S → ax w bO d cs aU
 | .hole, _, _, _, _, h => h
 | .bool _, _, _, _, _, h => h
 | .eo, _, _, _, _, h => h
 | .int _ _, _, _, _, _, h => h
 | .str _, _, _, _, _, h => h
 | .dj, _, _, _, _, h => h
 | .af, _, _, _, _, h => h
 | .slice xs, cs, S, _, b9, h => by
   rw [ax] at h ⊢
   rcases h with h | ⟨b, o, cap, ea, sz, ag, ah, aM, bd, bI, cx, cy⟩
   ·exact .inl h
   ·exact .inr ⟨b, o, cap, ea, sz, ag, bE _ ah, aM, bd, bI, cx, ba.mono bE xs _ _ _ (fun _ h => h) cy⟩
 | .ai sz xs, cs, S, _, b9, h => by
   rw [ax] at h ⊢
   rcases h with h | ⟨b, cap, cur, e, fr, aU, ag, ah, aM, bd, bI, cx, cy, eB, iq, hk, kI⟩
   ·exact .inl h
   ·exact .inr ⟨b, cap, cur, e, fr, aU, ag, b9 _ ah, aM, bd, bI, cx, cy, eB, ba.mono bE xs _ _ _ (fun _ h => h) iq, fun c az => b9 _ (hk _ az), kI⟩
 | .ref d, cs, S, _, b9, h => by
   rw [ax] at h ⊢
   obtain ⟨b, o, ea, ag, ah, aM, bd⟩ := h
   exact ⟨b, o, ea, ag, bE _ ah, aM, ax.mono bE d _ _ _ (fun _ h => h) bd⟩
 | .aG d, cs, S, _, b9, h => by
   rw [ax] at h ⊢
   obtain ⟨b, cur, e, fr, aU, ag, ah, aM, bd, bI, cx, cy⟩ := h
   exact ⟨b, cur, e, fr, aU, ag, b9 _ ah, aM, bd, ax.mono bE d _ _ _ (fun _ h => h) bI, fun c az => b9 _ (cx _ az), cy⟩
 | .agg ar, cs, S, _, b9, h => by rw [ax] at h ⊢; exact ba.mono bE ar _ _ _ b9 h
 | .tuple ar, cs, S, _, b9, h => by rw [ax] at h ⊢; exact ba.mono bE ar _ _ _ b9 h
 | .fn _ caps, cs, S, _, b9, h => by
   rw [ax] at h ⊢
   obtain ⟨arr, ag, ah, aM⟩ := h
   exact ⟨arr, ag, ah, ba.mono bE caps _ _ _ (fun _ h => h) aM⟩
 | .h _ _, _, _, _, _, h => h
 | .ay _ _, _, _, _, _, h => h
 | .U _ _, _, _, _, _, h => h
theorem ba.mono {w : World} {F bO : Nat → Prop} (bE : ∀ b, F b → bO b) :
  ∀ (ds : List j) (cs : List Value) (S aU : Nat → Prop), (∀ b, S b → aU b) → ba w F ds cs S → ba w bO ds cs aU
 | [], _, _, _, _, h => h
 | d :: ds, cs, S, _, b9, h => by
   rw [ba] at h ⊢
   obtain ⟨bT, b4, b7, dA, ag, ah, aM, bd, bI, cx⟩ := h
   exact ⟨bT, b4, b7, dA, ag, ax.mono bE d _ _ _ (fun _ h => h) ah, ba.mono bE ds _ _ _ (fun _ h => h) aM, fun b U => b9 _ (bd _ U), fun b U => b9 _ (bI _ U), cx⟩
end
mutual
theorem ax.length {w : World} {F : Nat → Prop} : ∀ (d : j) (cs : List Value) (S : Nat → Prop), ax w F d cs S → cs.length = d.wd
 | .hole, cs, S, h => by rw [ax] at h; obtain ⟨v, _, rfl⟩ := h; rfl
 | .bool _, cs, S, h => by rw [ax] at h; subst h; rfl
 | .eo, cs, S, h => by rw [ax] at h; obtain ⟨b, rfl⟩ := h; rfl
 | .int _ _, cs, S, h => by rw [ax] at h; subst h; rfl
 | .str _, cs, S, h => by rw [ax] at h; subst h; rfl
 | .dj, cs, S, h => by rw [ax] at h; subst h; rfl
 | .af, cs, S, h => by rw [ax] at h; subst h; rfl
 | .slice xs, cs, S, h => by
   rw [ax] at h
   rcases h with ⟨_, a, c, rfl, _⟩ | ⟨b, o, cap, ea, sz, rfl, _⟩ <;> rfl
 | .ai sz xs, cs, S, h => by
   rw [ax] at h
   rcases h with ⟨_, a, rfl⟩ | ⟨b, cap, cur, e, fr, aU, rfl, _⟩ <;> rfl
 | .ref d, cs, S, h => by rw [ax] at h; obtain ⟨b, o, ea, rfl, _⟩ := h; rfl
 | .aG d, cs, S, h => by rw [ax] at h; obtain ⟨b, o, ea, _, _, rfl, _⟩ := h; rfl
 | .agg ar, cs, S, h => by rw [ax] at h; exact ba.length ar _ _ h
 | .tuple ar, cs, S, h => by rw [ax] at h; exact ba.length ar _ _ h
 | .fn _ _, cs, S, h => by rw [ax] at h; obtain ⟨arr, rfl, _⟩ := h; rfl
 | .h _ _, cs, S, h => by rw [ax] at h; exact h.elim
 | .ay _ _, cs, S, h => by rw [ax] at h; exact h.elim
 | .U _ _, cs, S, h => by rw [ax] at h; exact h.elim
theorem ba.length {w : World} {F : Nat → Prop} : ∀ (ds : List j) (cs : List Value) (S : Nat → Prop), ba w F ds cs S → cs.length = j.dI ds
 | [], cs, S, h => by rw [ba] at h; subst h; rfl
 | d :: ds, cs, S, h => by
   rw [ba] at h
   obtain ⟨bT, b4, b7, dA, rfl, ah, aM, _⟩ := h
   rw [List.length_append, ax.length d _ _ ah, ba.length ds _ _ aM, j.dI]
end
mutual
def j.share : j → j
 | .ai _ xs => .slice (j.shares xs)
 | .aG d => .ref d.share
 | .slice xs => .slice (j.shares xs)
 | .ref d => .ref d.share
 | .agg ar => .agg (j.shares ar)
 | .tuple ar => .tuple (j.shares ar)
 | d => d
def j.shares : List j → List j
 | [] => []
 | d :: ds => d.share :: j.shares ds
end
theorem j.qu (ds : List j) : j.shares ds = ds.map j.share := by
 induction ds with
 | nil => rfl
 | cons d ds ih => simp [j.shares, ih]
mutual
theorem j.wP : ∀ d : j, d.share.wd = d.wd
 | .hole => rfl
 | .bool _ => rfl
 | .eo => rfl
 | .int _ _ => rfl
 | .str _ => rfl
 | .dj => rfl
 | .af => rfl
 | .slice _ => rfl
 | .ai _ _ => rfl
 | .ref _ => rfl
 | .aG _ => rfl
 | .agg ar => by simp only [j.share, j.wd]; exact j.zY ar
 | .tuple ar => by simp only [j.share, j.wd]; exact j.zY ar
 | .fn _ _ => rfl
 | .h _ _ => rfl
 | .ay _ _ => rfl
 | .U _ _ => rfl
theorem j.zY : ∀ ds : List j, j.dI (j.shares ds) = j.dI ds
 | [] => rfl
 | d :: ds => by simp only [j.shares, j.dI]; rw [j.wP d, j.zY ds]
end
theorem r6 {w : World} {b : Nat} {cur : Array Value} {e : TypeId} {fr : Nat × Nat} (h : w.heap[b]? = some (.cells cur e fr)) (n : Nat) : hj w b 0 (cur.toList.take n) := by
 intro aK c az
 rw [List.getElem?_take] at az
 split at az
 ·simp [World.cell?, h]; simpa using az
 ·cases az
mutual
theorem ax.shared {w : World} {F bO : Nat → Prop} (bE : ∀ b, F b → bO b) :
  ∀ (d : j) (cs : List Value) (S : Nat → Prop), (∀ b, S b → bO b) → ax w F d cs S → ax w bO d.share cs (fun _ => False)
 | .hole, _, _, _, h => h
 | .bool _, _, _, _, h => h
 | .eo, _, _, _, h => h
 | .int _ _, _, _, _, h => h
 | .str _, _, _, _, h => h
 | .dj, _, _, _, h => h
 | .af, _, _, _, h => h
 | .slice xs, cs, S, b9, h => by
   rw [j.share, ax]
   rw [ax] at h
   rcases h with ⟨rfl, a, c, rfl, az⟩ | ⟨b, o, cap, ea, sz, ag, ah, aM, bd, bI, cx, cy⟩
   ·exact .inl ⟨rfl, a, c, rfl, az⟩
   ·refine .inr ⟨b, o, cap, ea, sz, ?_, bE _ ah, ?_, bd, ?_, cx, ba.shared bE xs _ _ (fun _ h => h.elim) cy⟩
    ·simpa [j.qu] using ag
    ·simpa [j.qu] using aM
    ·intro d ak
     rw [j.qu] at ak
     obtain ⟨bw, gQ, rfl⟩ := List.mem_map.1 ak
     rw [j.wP]; exact bI _ gQ
 | .ai sz xs, cs, S, b9, h => by
   rw [j.share, ax]
   rw [ax] at h
   rcases h with ⟨rfl, a, rfl⟩ | ⟨b, cap, cur, e, fr, aU, ag, ah, aM, bd, bI, cx, cy, eB, iq, hk, kI⟩
   ·exact .inl ⟨rfl, a, 0, rfl, Nat.zero_le _, fun _ => rfl⟩
   ·refine .inr ⟨b, 0, cap, _, sz, ?_, b9 _ ah, ?_, cx, ?_, r6 aM _, ba.shared bE xs _ _ (fun c az => b9 _ (hk _ az)) iq⟩
    ·simpa [j.qu] using ag
    ·simpa [j.qu] using bI
    ·intro d ak
     rw [j.qu] at ak
     obtain ⟨bw, gQ, rfl⟩ := List.mem_map.1 ak
     rw [j.wP]; exact eB _ gQ
 | .ref d, cs, S, b9, h => by
   rw [j.share, ax]
   rw [ax] at h
   obtain ⟨b, o, ea, ag, ah, aM, bd⟩ := h
   exact ⟨b, o, ea, ag, bE _ ah, aM, ax.shared bE d _ _ (fun _ h => h.elim) bd⟩
 | .aG d, cs, S, b9, h => by
   rw [j.share, ax]
   rw [ax] at h
   obtain ⟨b, cur, e, fr, aU, ag, ah, aM, bd, bI, cx, cy⟩ := h
   refine ⟨b, 0, cur.toList, ag, b9 _ ah, ?_, ax.shared bE d _ _ (fun c az => b9 _ (cx _ az)) bI⟩
   have := r6 aM cur.toList.length
   rwa [List.take_length] at this
 | .agg ar, cs, S, b9, h => by rw [j.share, ax]; rw [ax] at h; exact ba.shared bE ar _ _ b9 h
 | .tuple ar, cs, S, b9, h => by rw [j.share, ax]; rw [ax] at h; exact ba.shared bE ar _ _ b9 h
 | .fn f caps, cs, S, b9, h => by
   show ax w bO (.fn f caps) cs _
   rw [ax] at h ⊢
   obtain ⟨arr, ag, ah, aM⟩ := h
   exact ⟨arr, ag, ah, ba.mono bE caps _ _ _ (fun _ h => h) aM⟩
 | .h _ _, _, _, _, h => h
 | .ay _ _, _, _, _, h => h
 | .U _ _, _, _, _, h => h
theorem ba.shared {w : World} {F bO : Nat → Prop} (bE : ∀ b, F b → bO b) :
  ∀ (ds : List j) (cs : List Value) (S : Nat → Prop), (∀ b, S b → bO b) → ba w F ds cs S → ba w bO (j.shares ds) cs (fun _ => False)
 | [], _, _, _, h => h
 | d :: ds, cs, S, b9, h => by
   simp only [j.shares]
   rw [ba] at h ⊢
   obtain ⟨bT, b4, b7, dA, ag, ah, aM, bd, bI, cx⟩ := h
   exact ⟨bT, b4, _, _, ag, ax.shared bE d _ _ (fun b U => b9 _ (bd _ U)) ah, ba.shared bE ds _ _ (fun b U => b9 _ (bI _ U)) aM, fun _ h => h, fun _ h => h, fun _ h => h.elim⟩
end
def j.sub : List Nat → j → Option j
 | [], d => some d
 | k :: q, .agg ar => match ar[k]? with
   | some d => j.sub q d
   | none => none
 | k :: q, .tuple ar => match ar[k]? with
   | some d => j.sub q d
   | none => none
 | i :: q, .ai _ xs => match xs[i]? with
   | some d => j.sub q d
   | none => none
 | 0 :: q, .aG d => j.sub q d
 | _ :: _, _ => none
def j.put : List Nat → j → j → j
 | [], n, _ => n
 | k :: q, n, .agg ar => match ar[k]? with
   | some d => .agg (ar.set k (j.put q n d))
   | none => .agg ar
 | k :: q, n, .tuple ar => match ar[k]? with
   | some d => .tuple (ar.set k (j.put q n d))
   | none => .tuple ar
 | i :: q, n, .ai sz xs => match xs[i]? with
   | some d => .ai sz (xs.set i (j.put q n d))
   | none => .ai sz xs
 | 0 :: q, n, .aG d => .aG (j.put q n d)
 | _ :: _, _, d => d
def l9 (w : World) (b o n : Nat) : List Value := (List.range n).map fun aK => (w.cell? ⟨b, o + aK, none⟩).getD undef
theorem hj.l9 {w : World} {b o : Nat} {cs : List Value} (h : hj w b o cs) : l9 w b o cs.length = cs := by
 unfold dp.l9
 apply List.ext_getElem?
 intro i
 rw [List.getElem?_map]
 by_cases au : i < cs.length
 ·have : cs[i]? = some cs[i] := List.getElem?_eq_getElem au
  simp [au, h i _ this]
 ·simp [au]
def c8 (w : World) : List Nat → j → List Value → Option (Nat × Nat) → Option (j × List Value × Option (Nat × Nat))
 | [], d, cs, a => some (d, cs, a)
 | k :: q, .agg ar, cs, a => match ar[k]? with
   | some d => c8 w q d ((cs.drop (j.dI (ar.take k))).take d.wd) (a.map fun l => (l.1, l.2 + j.dI (ar.take k)))
   | none => none
 | k :: q, .tuple ar, cs, a => match ar[k]? with
   | some d => c8 w q d ((cs.drop (j.dI (ar.take k))).take d.wd) (a.map fun l => (l.1, l.2 + j.dI (ar.take k)))
   | none => none
 | i :: q, .ai sz xs, cs, _ => match xs[i]?, cs with
   | some d, [.slice (some ⟨b, _, _⟩) _ _] => c8 w q d (l9 w b (i * sz) sz) (some (b, i * sz))
   | _, _ => none
 | 0 :: q, .aG d, cs, _ => match cs with
   | [.pointer (some ⟨b, _, _⟩)] => c8 w q d (l9 w b 0 d.wd) (some (b, 0))
   | _ => none
 | _ :: _, _, _, _ => none
theorem qv (bT fv b4 : List Value) (n m : Nat) (ag : bT.length = n) (ah : fv.length = m) : ((bT ++ (fv ++ b4)).drop n).take m = fv := by
 rw [List.drop_left' ag, List.take_left' ah]
theorem ba.pick {w : World} {F : Nat → Prop} : ∀ (ds : List j) (cs : List Value) (S : Nat → Prop) (k : Nat) (d : j),
  ba w F ds cs S → ds[k]? = some d → ∃ (bT fv b4 : List Value) (b7 hn : Nat → Prop), cs = bT ++ (fv ++ b4) ∧ bT.length = j.dI (ds.take k) ∧
   (∀ b, b7 b → S b) ∧ (∀ b, hn b → S b) ∧ (∀ b, b7 b → ¬ hn b) ∧ ax w F d fv hn ∧
   ∀ (aS : World) (bw : j) (qw : List Value) (aU : Nat → Prop), (∀ b, F b → aS.heap[b]? = w.heap[b]?) → (∀ b, b7 b → aS.heap[b]? = w.heap[b]?) →
     ax aS F bw qw aU → (∀ b, aU b → ¬ b7 b) → ba aS F (ds.set k bw) (bT ++ (qw ++ b4)) (fun b => b7 b ∨ aU b)
 | [], _, _, _, _, _, aB => by simp at aB
 | x :: ds, cs, S, 0, d, h, aB => by
   rw [ba] at h
   obtain ⟨bT, b4, g4, gl, rfl, ag, ah, bX, U, h8⟩ := h
   simp at aB; subst aB
   refine ⟨[], bT, b4, gl, g4, rfl, rfl, U, bX, fun b U bX => h8 _ bX U, ag, ?_⟩
   intro aS bw qw aU bE b9 ak iE
   simp only [List.set_cons_zero, List.nil_append]
   rw [ba]
   exact ⟨qw, b4, aU, gl, rfl, ak, ba.frame bE _ _ _ b9 ah, fun b h => .inr h, fun b h => .inl h, fun b h => iE b h⟩
 | x :: ds, cs, S, k + 1, d, h, aB => by
   rw [ba] at h
   obtain ⟨m7, KM, g4, gl, rfl, ag, ah, bX, U, h8⟩ := h
   simp only [List.getElem?_cons_succ] at aB
   have hl := ax.length _ _ _ ag
   obtain ⟨bT, fv, b4, b7, hn, rfl, KN, wQ, tI, zZ, z0, z1⟩ := ba.pick ds KM gl k d ah aB
   refine ⟨m7 ++ bT, fv, b4, fun b => g4 b ∨ b7 b, hn, by simp, by simp [j.dI, hl, KN], ?_, fun b h => U _ (tI _ h), ?_, z0, ?_⟩
   ·rintro b (h | h)
    ·exact bX _ h
    ·exact U _ (wQ _ h)
   ·rintro b (h | h) aB
    ·exact h8 _ h (tI _ aB)
    ·exact zZ _ h aB
   ·intro aS bw qw aU bE b9 ak iE
    simp only [List.set_cons_succ]
    rw [ba]
    refine ⟨m7, bT ++ (qw ++ b4), g4, fun b => b7 b ∨ aU b, by simp, ax.frame bE _ _ _ (fun b U => b9 b (.inl U)) ag,
     z1 aS bw qw aU bE (fun b U => b9 b (.inr U)) ak (fun b U az => iE b U (.inr az)), fun b h => .inl (.inl h), ?_, ?_⟩
    ·rintro b (h | h)
     ·exact .inl (.inr h)
     ·exact .inr h
    ·rintro b h (bN | bN)
     ·exact h8 _ h (wQ _ bN)
     ·exact iE _ bN (.inl h)
theorem z2 : ∀ (ar : List j) (k : Nat) (x y : j), ar[k]? = some x → y.wd = x.wd → j.dI (ar.set k y) = j.dI ar := by
 intro ar
 induction ar with
 | nil => intro k x y h; simp at h
 | cons a ar ih =>
   intro k x y h e
   cases k with
   | zero => simp at h; subst h; simp [j.dI, e]
   | succ k => simp at h; simp [j.dI, ih k x y h e]
theorem qx {sz : Nat} : ∀ (xs : List j), (∀ d ∈ xs, d.wd = sz) → j.dI xs = xs.length * sz
 | [], _ => by simp [j.dI]
 | x :: xs, h => by
   rw [j.dI, h x (by simp), qx xs (fun d ak => h d (by simp [ak])), List.length_cons, Nat.add_mul, Nat.one_mul, Nat.add_comm]
theorem j.r7 : ∀ (q : List Nat) (av d bw : j), j.sub q av = some d → bw.wd = d.wd → (j.put q bw av).wd = av.wd := by
 intro q
 induction q with
 | nil => intro av d bw h e; simp [j.sub] at h; subst h; simpa [j.put] using e
 | cons k q ih =>
   intro av d bw h e
   cases av with
   | agg ar =>
     simp only [j.sub] at h
     split at h
     ·rename_i x aw
      simp only [j.put, aw, j.wd]
      exact z2 _ _ _ _ aw (ih _ _ _ h e)
     ·cases h
   | tuple ar =>
     simp only [j.sub] at h
     split at h
     ·rename_i x aw
      simp only [j.put, aw, j.wd]
      exact z2 _ _ _ _ aw (ih _ _ _ h e)
     ·cases h
   | ai sz xs =>
     simp only [j.sub] at h
     split at h
     ·rename_i x aw
      simp only [j.put, aw, j.wd]
     ·cases h
   | aG x =>
     cases k with
     | zero => simp only [j.put, j.wd]
     | succ k => simp [j.sub] at h
   | _ => simp [j.sub] at h
theorem z3 {sz : Nat} {xs : List j} {i : Nat} {y : j} (h : ∀ d ∈ xs, d.wd = sz) (bL : y.wd = sz) : ∀ d ∈ xs.set i y, d.wd = sz := by
 intro d ak
 rcases List.mem_or_eq_of_mem_set ak with ak | rfl
 ·exact h d ak
 ·exact bL
theorem r8 {w : World} {b : Nat} {cur : Array Value} {e : TypeId} {fr : Nat × Nat} (h : w.heap[b]? = some (.cells cur e fr)) {l m r : List Value} (az : cur.toList = l ++ (m ++ r)) :
  l9 w b l.length m.length = m := by
 refine hj.l9 (fun aK c cS => ?_)
 have eC : aK < m.length := (List.getElem?_eq_some_iff.1 cS).1
 have : cur.toList[l.length + aK]? = some c := by
  rw [az, List.getElem?_append_right (by omega), List.getElem?_append_left (by omega)]
  rw [← cS]; congr 1; omega
 simp [World.cell?, h]
 simpa using this
def Flat (w : World) (F : Nat → Prop) (q : List Nat) (av : j) (cs : List Value) (a : Option (Nat × Nat)) (d : j) (cU : List Value) (cN : Option (Nat × Nat)) (ep : Nat → Prop) : Prop :=
 ∃ l r : List Value, cs = l ++ (cU ++ r) ∧ cN = a.map (fun x => (x.1, x.2 + l.length)) ∧
   ∀ (aS : World) (bw : j) (fD : List Value) (aU : Nat → Prop), (∀ b, F b → aS.heap[b]? = w.heap[b]?) → (∀ b, ep b → aS.heap[b]? = w.heap[b]?) →
     bw.wd = d.wd → ax aS F bw fD aU → (∀ b, aU b → ¬ ep b) → ax aS F (j.put q bw av) (l ++ (fD ++ r)) (fun b => ep b ∨ aU b)
def z4 (w : World) (F : Nat → Prop) (q : List Nat) (av : j) (cs : List Value) (d : j) (cU : List Value) (cN : Option (Nat × Nat)) (ep : Nat → Prop) : Prop :=
 ∃ (b : Nat) (cur : Array Value) (e : TypeId) (fr : Nat × Nat) (l r : List Value), cN = some (b, l.length) ∧ ep b ∧ w.heap[b]? = some (.cells cur e fr) ∧ pc fr cur.size ∧ cur.toList = l ++ (cU ++ r) ∧
   ∀ (aS : World) (bw : j) (fD : List Value) (aU : Nat → Prop), (∀ b, F b → aS.heap[b]? = w.heap[b]?) → (∀ c, ep c → c ≠ b → aS.heap[c]? = w.heap[c]?) →
     aS.heap[b]? = some (.cells (l ++ (fD ++ r)).toArray e fr) →
     bw.wd = d.wd → ax aS F bw fD aU → (∀ b, aU b → ¬ ep b) → ax aS F (j.put q bw av) cs (fun b => ep b ∨ aU b)
theorem ctx {w : World} {F : Nat → Prop} : ∀ (q : List Nat) (av : j) (cs : List Value) (S : Nat → Prop) (a : Option (Nat × Nat)) (d : j),
  ax w F av cs S → j.sub q av = some d → ∃ (cU : List Value) (cN : Option (Nat × Nat)) (ep gF : Nat → Prop), c8 w q av cs a = some (d, cU, cN) ∧
   (∀ b, ep b → S b) ∧ (∀ b, gF b → S b) ∧ (∀ b, ep b → ¬ gF b) ∧ ax w F d cU gF ∧ (Flat w F q av cs a d cU cN ep ∨ z4 w F q av cs d cU cN ep) := by
 intro q
 induction q with
 | nil =>
   intro av cs S a d h ak
   simp [j.sub] at ak; subst ak
   refine ⟨cs, a, fun _ => False, S, rfl, fun _ h => h.elim, fun _ h => h, fun _ h => h.elim, h, .inl ⟨[], [], by simp, ?_, ?_⟩⟩
   ·cases a <;> simp
   ·intro aS bw fD aU _ _ hw gQ _
    simp only [j.put, List.nil_append, List.append_nil]
    exact ax.mono (fun _ h => h) _ _ _ _ (fun b h => .inr h) gQ
 | cons k q ih =>
   have fields : ∀ (mk : List j → j) (z5 : ∀ (w : World) (F : Nat → Prop) (ar : List j) (cs : List Value) (S : Nat → Prop), ax w F (mk ar) cs S = ba w F ar cs S) (ar : List j) (cs : List Value) (S : Nat → Prop) (a : Option (Nat × Nat)) (x d : j),
     (j4 : ∀ bw, j.put (k :: q) bw (mk ar) = mk (ar.set k (j.put q bw x))) → ba w F ar cs S → ar[k]? = some x → j.sub q x = some d →
     ∃ (cU : List Value) (cN : Option (Nat × Nat)) (ep gF : Nat → Prop), c8 w q x ((cs.drop (j.dI (ar.take k))).take x.wd) (a.map fun l => (l.1, l.2 + j.dI (ar.take k))) = some (d, cU, cN) ∧
     (∀ b, ep b → S b) ∧ (∀ b, gF b → S b) ∧ (∀ b, ep b → ¬ gF b) ∧ ax w F d cU gF ∧ (Flat w F (k :: q) (mk ar) cs a d cU cN ep ∨ z4 w F (k :: q) (mk ar) cs d cU cN ep) := by
    intro mk z5 ar cs S a x d j4 h aw ak
    obtain ⟨bT, fv, b4, b7, hn, rfl, g5, e5, fT, ho, e9, k6⟩ := ba.pick ar cs S k x h aw
    have hl := ax.length _ _ _ e9
    rw [qv bT fv b4 _ _ g5 hl]
    obtain ⟨cU, cN, ep, gF, g6, a8, bA, ct, dZ, e6⟩ := ih x _ hn (a.map fun l => (l.1, l.2 + j.dI (ar.take k))) d e9 ak
    refine ⟨cU, cN, fun b => b7 b ∨ ep b, gF, g6, ?_, fun b U => fT _ (bA _ U), ?_, dZ, ?_⟩
    ·rintro b (h | h)
     ·exact e5 _ h
     ·exact fT _ (a8 _ h)
    ·rintro b (h | h) ak
     ·exact ho _ h (bA _ ak)
     ·exact ct _ h ak
    ·have eS : ∀ (b : Nat) (aU : Nat → Prop), (b7 b ∨ ep b ∨ aU b) → ((b7 b ∨ ep b) ∨ aU b) := by
      rintro b aU (U | U | U)
      ·exact .inl (.inl U)
      ·exact .inl (.inr U)
      ·exact .inr U
     rcases e6 with ⟨l, r, rfl, bg, bf⟩ | ⟨b, cur, e, fr, l, r, a1, bg, bf, cn, c3, b_⟩
     ·refine .inl ⟨bT ++ l, r ++ b4, by simp, ?_, ?_⟩
      ·rw [bg, ← g5]; cases a <;> simp [Nat.add_assoc]
      ·intro aS bw fD aU bE b9 hw gQ iE
       have eE := bf aS bw fD aU bE (fun b U => b9 b (.inr U)) hw gQ (fun b U az => iE b U (.inr az))
       have fN := k6 aS _ _ _ bE (fun b U => b9 b (.inl U)) eE (by
        rintro b (U | U) ag
        ·exact ho _ ag (a8 _ U)
        ·exact iE _ U (.inl ag))
       rw [j4, z5]
       have := ba.mono (fun _ h => h) _ _ _ _ (fun b => eS b aU) fN
       simpa using this
     ·refine .inr ⟨b, cur, e, fr, l, r, a1, .inr bg, bf, cn, c3, ?_⟩
      intro aS bw fD aU bE b9 k7 hw gQ iE
      have eE := b_ aS bw fD aU bE (fun c az => b9 c (.inr az)) k7 hw gQ (fun b U az => iE b U (.inr az))
      have fN := k6 aS _ _ _ bE (fun c az => b9 c (.inl az) (by rintro rfl; exact ho _ az (a8 _ bg))) eE (by
        rintro b (U | U) ag
        ·exact ho _ ag (a8 _ U)
        ·exact iE _ U (.inl ag))
      rw [j4, z5]
      exact ba.mono (fun _ h => h) _ _ _ _ (fun b => eS b aU) fN
   intro av cs S a d h ak
   cases av with
   | agg ar =>
     simp only [j.sub] at ak
     split at ak
     ·rename_i x aw
      rw [ax] at h
      have := fields .agg (fun _ _ _ _ _ => by rw [ax]) ar cs S a x d (fun bw => by simp only [j.put, aw]) h aw ak
      simpa only [c8, aw] using this
     ·cases ak
   | tuple ar =>
     simp only [j.sub] at ak
     split at ak
     ·rename_i x aw
      rw [ax] at h
      have := fields .tuple (fun _ _ _ _ _ => by rw [ax]) ar cs S a x d (fun bw => by simp only [j.put, aw]) h aw ak
      simpa only [c8, aw] using this
     ·cases ak
   | ai sz xs =>
     simp only [j.sub] at ak
     split at ak
     ·rename_i x aw
      rw [ax] at h
      rcases h with ⟨rfl, _, rfl⟩ | ⟨b, cap, cur, e, fr, dW, rfl, ah, aM, bd, bI, cx, cy, eB, iq, hk, kI⟩
      ·simp at aw
      ·obtain ⟨bT, fv, b4, b7, hn, p, g5, e5, fT, ho, e9, k6⟩ := ba.pick xs _ dW k x iq aw
       have hl := ax.length _ _ _ e9
       have KO : k < xs.length := (List.getElem?_eq_some_iff.1 aw).1
       have tJ : x.wd = sz := eB x (List.mem_of_getElem? aw)
       have cr : j.dI (xs.take k) = k * sz := by
        rw [qx _ (fun d ak => eB d (List.mem_of_mem_take ak))]
        rw [List.length_take, Nat.min_eq_left (by omega)]
       obtain ⟨ow, km⟩ : ∃ ow, cur.toList = bT ++ (fv ++ (b4 ++ ow)) := by
        refine ⟨cur.toList.drop (xs.length * sz), ?_⟩
        have := (List.take_append_drop (xs.length * sz) cur.toList).symm
        rw [p] at this
        simpa using this
       have jm : l9 w b (k * sz) sz = fv := by
        have := r8 aM km
        rwa [g5, cr, hl, tJ] at this
       obtain ⟨cU, cN, ep, gF, g6, a8, bA, ct, dZ, e6⟩ := ih x _ hn (some (b, k * sz)) d e9 ak
       have j4 : ∀ bw, j.put (k :: q) bw (.ai sz xs) = .ai sz (xs.set k (j.put q bw x)) := fun bw => by simp only [j.put, aw]
       refine ⟨cU, cN, fun c => c = b ∨ b7 c ∨ ep c, gF, ?_, ?_, fun c az => hk _ (fT _ (bA _ az)), ?_, dZ, .inr ?_⟩
       ·simp only [c8, aw, jm]; exact g6
       ·rintro c (rfl | h | h)
        ·exact ah
        ·exact hk _ (e5 _ h)
        ·exact hk _ (fT _ (a8 _ h))
       ·rintro c (rfl | h | h) ak
        ·exact kI (fT _ (bA _ ak))
        ·exact ho _ h (bA _ ak)
        ·exact ct _ h ak
       ·have lH : ∀ bw, bw.wd = d.wd → (j.put q bw x).wd = sz := fun bw hw => (j.r7 q x d bw ak hw).trans tJ
        rcases e6 with ⟨l, r, rfl, bg, bf⟩ | ⟨fl, z6, gZ, z7, l, r, a1, bg, bf, cn, c3, b_⟩
        ·refine ⟨b, cur, e, fr, bT ++ l, r ++ (b4 ++ ow), ?_, .inl rfl, aM, bd, ?_, ?_⟩
         ·rw [bg]; simp [g5, cr]
         ·rw [km]; simp
         ·intro aS bw fD aU bE b9 k7 hw gQ iE
          have eE := bf aS bw fD aU bE (fun c az => b9 c (.inr (.inr az)) (by rintro rfl; exact kI (fT _ (a8 _ az)))) hw gQ (fun b U az => iE b U (.inr (.inr az)))
          have fN := k6 aS _ _ _ bE (fun c az => b9 c (.inr (.inl az)) (by rintro rfl; exact kI (e5 _ az))) eE (by
           rintro b (U | U) ag
           ·exact ho _ ag (a8 _ U)
           ·exact iE _ U (.inr (.inl ag)))
          have tK := ax.length _ _ _ gQ
          have tL := ax.length _ _ _ dZ
          rw [j4, ax]
          refine .inr ⟨b, cap, _, e, fr, fun b => b7 b ∨ ep b ∨ aU b, by simp, .inl (.inl rfl), k7, ?_, by simpa using bI, cx, ?_, z3 eB (lH bw hw), ?_, ?_, ?_⟩
          ·have : (bT ++ l ++ (fD ++ (r ++ (b4 ++ ow)))).toArray.size = cur.size := by
            have : cur.size = cur.toList.length := by simp
            rw [this, km]; simp [tK, tL, hw]
           rw [this]; exact bd
          ·rw [← cy]
           have : cur.size = cur.toList.length := by simp
           rw [this, km]; simp [tK, tL, hw]
          ·have hlen : (bT ++ (l ++ (fD ++ r) ++ b4)).length = xs.length * sz := by
            have := congrArg List.length p
            rw [List.length_take, Nat.min_eq_left (by simp [cy]; exact Nat.mul_le_mul_right _ bI)] at this
            rw [this]; simp [tK, tL, hw]
           have : (bT ++ l ++ (fD ++ (r ++ (b4 ++ ow)))) = (bT ++ (l ++ (fD ++ r) ++ b4)) ++ ow := by simp
           rw [List.length_set]
           simp only [this]
           rw [List.take_left' hlen]
           exact fN
          ·rintro c (h | h | h)
           ·exact .inl (.inr (.inl h))
           ·exact .inl (.inr (.inr h))
           ·exact .inr h
          ·rintro (h | h | h)
           ·exact kI (e5 _ h)
           ·exact kI (fT _ (a8 _ h))
           ·exact iE _ h (.inl rfl)
        ·refine ⟨fl, z6, gZ, z7, l, r, a1, .inr (.inr bg), bf, cn, c3, ?_⟩
         intro aS bw fD aU bE b9 k7 hw gQ iE
         have eE := b_ aS bw fD aU bE (fun c az er => b9 c (.inr (.inr az)) er) k7 hw gQ (fun b U az => iE b U (.inr (.inr az)))
         have er : ∀ c, b7 c → c ≠ fl := by rintro c az rfl; exact ho _ az (a8 _ bg)
         have fN := k6 aS _ _ _ bE (fun c az => b9 c (.inr (.inl az)) (er c az)) eE (by
          rintro b (U | U) ag
          ·exact ho _ ag (a8 _ U)
          ·exact iE _ U (.inr (.inl ag)))
         have z8 : b ≠ fl := by rintro rfl; exact kI (fT _ (a8 _ bg))
         rw [j4, ax]
         refine .inr ⟨b, cap, cur, e, fr, fun b => b7 b ∨ ep b ∨ aU b, by simp, .inl (.inl rfl), (b9 b (.inl rfl) z8).trans aM, bd, by simpa using bI, cx, cy, z3 eB (lH bw hw), ?_, ?_, ?_⟩
         ·rw [List.length_set, p]; exact fN
         ·rintro c (h | h | h)
          ·exact .inl (.inr (.inl h))
          ·exact .inl (.inr (.inr h))
          ·exact .inr h
         ·rintro (h | h | h)
          ·exact kI (e5 _ h)
          ·exact kI (fT _ (a8 _ h))
          ·exact iE _ h (.inl rfl)
     ·cases ak
   | aG x =>
     cases k with
     | succ k => simp [j.sub] at ak
     | zero =>
       simp only [j.sub] at ak
       rw [ax] at h
       obtain ⟨b, cur, e, fr, dW, rfl, ah, aM, bd, bI, cx, cy⟩ := h
       have hl := ax.length _ _ _ bI
       have jm : l9 w b 0 x.wd = cur.toList := by
        have := r8 (l := []) (m := cur.toList) (r := []) aM (by simp)
        rwa [hl] at this
       obtain ⟨cU, cN, ep, gF, g6, a8, bA, ct, dZ, e6⟩ := ih x _ dW (some (b, 0)) d bI ak
       have j4 : ∀ bw, j.put (0 :: q) bw (.aG x) = .aG (j.put q bw x) := fun bw => rfl
       refine ⟨cU, cN, fun c => c = b ∨ ep c, gF, ?_, ?_, fun c az => cx _ (bA _ az), ?_, dZ, .inr ?_⟩
       ·simp only [c8, jm]; exact g6
       ·rintro c (rfl | h)
        ·exact ah
        ·exact cx _ (a8 _ h)
       ·rintro c (rfl | h) ak
        ·exact cy (bA _ ak)
        ·exact ct _ h ak
       ·rcases e6 with ⟨l, r, a1, bg, bf⟩ | ⟨fl, z6, gZ, z7, l, r, a1, bg, bf, cn, c3, b_⟩
        ·refine ⟨b, cur, e, fr, l, r, ?_, .inl rfl, aM, bd, a1, ?_⟩
         ·rw [bg]; simp
         ·intro aS bw fD aU bE b9 k7 hw gQ iE
          have eE := bf aS bw fD aU bE (fun c az => b9 c (.inr az) (by rintro rfl; exact cy (a8 _ az))) hw gQ (fun b U az => iE b U (.inr az))
          have tK := ax.length _ _ _ gQ
          have tL := ax.length _ _ _ dZ
          rw [j4, ax]
          refine ⟨b, _, e, fr, fun b => ep b ∨ aU b, rfl, .inl (.inl rfl), k7, ?_, eE, ?_, ?_⟩
          ·have : (l ++ (fD ++ r)).toArray.size = cur.size := by
            have : cur.size = cur.toList.length := by simp
            rw [this, a1]; simp [tK, tL, hw]
           rw [this]; exact bd
          ·rintro c (h | h)
           ·exact .inl (.inr h)
           ·exact .inr h
          ·rintro (h | h)
           ·exact cy (a8 _ h)
           ·exact iE _ h (.inl rfl)
        ·refine ⟨fl, z6, gZ, z7, l, r, a1, .inr bg, bf, cn, c3, ?_⟩
         intro aS bw fD aU bE b9 k7 hw gQ iE
         have eE := b_ aS bw fD aU bE (fun c az er => b9 c (.inr az) er) k7 hw gQ (fun b U az => iE b U (.inr az))
         have z8 : b ≠ fl := by rintro rfl; exact cy (a8 _ bg)
         rw [j4, ax]
         refine ⟨b, cur, e, fr, fun b => ep b ∨ aU b, rfl, .inl (.inl rfl), (b9 b (.inl rfl) z8).trans aM, bd, eE, ?_, ?_⟩
         ·rintro c (h | h)
          ·exact .inl (.inr h)
          ·exact .inr h
         ·rintro (h | h)
          ·exact cy (a8 _ h)
          ·exact iE _ h (.inl rfl)
   | _ => simp [j.sub] at ak
mutual
def j.plain : j → Bool
 | .ai _ _ => false
 | .aG _ => false
 | .agg ar => j.d_ ar
 | .tuple ar => j.d_ ar
 | _ => true
def j.d_ : List j → Bool
 | [] => true
 | d :: ds => d.plain && j.d_ ds
end
mutual
def j.c0 : j → j
 | .ai _ _ => .hole
 | .aG _ => .hole
 | .agg ar => .agg (j.kn ar)
 | .tuple ar => .tuple (j.kn ar)
 | d => d
def j.kn : List j → List j
 | [] => []
 | d :: ds => d.c0 :: j.kn ds
end
mutual
theorem j.pd : ∀ d : j, d.c0.wd = d.wd
 | .hole => rfl
 | .bool _ => rfl
 | .eo => rfl
 | .int _ _ => rfl
 | .str _ => rfl
 | .dj => rfl
 | .af => rfl
 | .slice _ => rfl
 | .ai _ _ => rfl
 | .ref _ => rfl
 | .aG _ => rfl
 | .agg ar => by simp only [j.c0, j.wd]; exact j.z9 ar
 | .tuple ar => by simp only [j.c0, j.wd]; exact j.z9 ar
 | .fn _ _ => rfl
 | .h _ _ => rfl
 | .ay _ _ => rfl
 | .U _ _ => rfl
theorem j.z9 : ∀ ds : List j, j.dI (j.kn ds) = j.dI ds
 | [] => rfl
 | d :: ds => by simp only [j.kn, j.dI]; rw [j.pd d, j.z9 ds]
end
mutual
theorem ax.c0 {w : World} {F : Nat → Prop} : ∀ (d : j) (cs : List Value) (S aU : Nat → Prop), ax w F d cs S → ax w F d.c0 cs aU
 | .hole, _, _, _, h => h
 | .bool _, _, _, _, h => h
 | .eo, _, _, _, h => h
 | .int _ _, _, _, _, h => h
 | .str _, _, _, _, h => h
 | .dj, _, _, _, h => h
 | .af, _, _, _, h => h
 | .slice xs, cs, S, aU, h => by
   show ax w F (.slice xs) cs aU
   rw [ax] at h ⊢; exact h
 | .ai sz xs, cs, S, aU, h => by
   rw [j.c0, ax]
   rw [ax] at h
   rcases h with ⟨_, _, rfl⟩ | ⟨b, cap, cur, e, fr, dW, rfl, _⟩
   ·exact ⟨_, rfl, rfl⟩
   ·exact ⟨_, rfl, rfl⟩
 | .ref d, cs, S, aU, h => by
   show ax w F (.ref d) cs aU
   rw [ax] at h ⊢; exact h
 | .aG d, cs, S, aU, h => by
   rw [j.c0, ax]
   rw [ax] at h
   obtain ⟨b, cur, e, fr, dW, rfl, _⟩ := h
   exact ⟨_, rfl, rfl⟩
 | .agg ar, cs, S, aU, h => by rw [j.c0, ax]; rw [ax] at h; exact ba.c0 ar _ _ _ h
 | .tuple ar, cs, S, aU, h => by rw [j.c0, ax]; rw [ax] at h; exact ba.c0 ar _ _ _ h
 | .fn _ _, _, _, _, h => h
 | .h _ _, _, _, _, h => h
 | .ay _ _, _, _, _, h => h
 | .U _ _, _, _, _, h => h
theorem ba.c0 {w : World} {F : Nat → Prop} : ∀ (ds : List j) (cs : List Value) (S aU : Nat → Prop), ba w F ds cs S → ba w F (j.kn ds) cs aU
 | [], _, _, _, h => h
 | d :: ds, cs, S, aU, h => by
   rw [j.kn, ba]
   rw [ba] at h
   obtain ⟨bT, b4, b7, dA, ag, ah, aM, bd, bI, cx⟩ := h
   exact ⟨bT, b4, fun _ => False, fun _ => False, ag, ax.c0 d _ _ _ ah, ba.c0 ds _ _ _ aM, fun _ h => h.elim, fun _ h => h.elim, fun _ h => h.elim⟩
end
mutual
theorem ax.plain {w : World} {F : Nat → Prop} : ∀ (d : j) (cs : List Value) (S aU : Nat → Prop), d.plain = true → ax w F d cs S → ax w F d cs aU
 | .hole, _, _, _, _, h => h
 | .bool _, _, _, _, _, h => h
 | .eo, _, _, _, _, h => h
 | .int _ _, _, _, _, _, h => h
 | .str _, _, _, _, _, h => h
 | .dj, _, _, _, _, h => h
 | .af, _, _, _, _, h => h
 | .slice xs, cs, S, aU, _, h => by rw [ax] at h ⊢; exact h
 | .ai sz xs, cs, S, aU, ay, h => by simp [j.plain] at ay
 | .ref d, cs, S, aU, _, h => by rw [ax] at h ⊢; exact h
 | .aG d, cs, S, aU, ay, h => by simp [j.plain] at ay
 | .agg ar, cs, S, aU, ay, h => by rw [ax] at h ⊢; exact ba.plain ar _ _ _ ay h
 | .tuple ar, cs, S, aU, ay, h => by rw [ax] at h ⊢; exact ba.plain ar _ _ _ ay h
 | .fn _ _, _, _, _, _, h => h
 | .h _ _, _, _, _, _, h => h
 | .ay _ _, _, _, _, _, h => h
 | .U _ _, _, _, _, _, h => h
theorem ba.plain {w : World} {F : Nat → Prop} : ∀ (ds : List j) (cs : List Value) (S aU : Nat → Prop), j.d_ ds = true → ba w F ds cs S → ba w F ds cs aU
 | [], _, _, _, _, h => h
 | d :: ds, cs, S, aU, ay, h => by
   rw [ba] at h ⊢
   simp only [j.d_, Bool.and_eq_true] at ay
   obtain ⟨bT, b4, b7, dA, ag, ah, aM, bd, bI, cx⟩ := h
   exact ⟨bT, b4, fun _ => False, fun _ => False, ag, ax.plain d _ _ _ ay.1 ah, ba.plain ds _ _ _ ay.2 aM, fun _ h => h.elim, fun _ h => h.elim, fun _ h => h.elim⟩
end
def j.e_ : List Nat → j → Bool
 | [], _ => false
 | k :: q, .agg ar => match ar[k]? with
   | some d => j.e_ q d
   | none => false
 | k :: q, .tuple ar => match ar[k]? with
   | some d => j.e_ q d
   | none => false
 | _ :: _, .ai _ _ => true
 | _ :: _, .aG _ => true
 | _ :: _, _ => false
theorem wR {ar : List j} (h : j.d_ ar = true) {k : Nat} {d : j} (aB : ar[k]? = some d) : d.plain = true := by
 induction ar generalizing k with
 | nil => simp at aB
 | cons a ar ih =>
   simp only [j.d_, Bool.and_eq_true] at h
   cases k with
   | zero => simp at aB; subst aB; exact h.1
   | succ k => simp at aB; exact ih h.2 aB
theorem j.DG : ∀ (q : List Nat) (d : j), d.plain = true → j.e_ q d = false := by
 intro q
 induction q with
 | nil => intros; rfl
 | cons k q ih =>
   intro d ak
   cases d <;> first | rfl | (simp [j.plain] at ak; done) | skip
   all_goals
    simp only [j.e_]
    split
    ·rename_i ar x aw; exact ih _ (wR (by simpa [j.plain] using ak) aw)
    ·rfl
theorem j.DH : ∀ (q : List Nat) (d e : j), d.plain = true → j.sub q d = some e → e.plain = true := by
 intro q
 induction q with
 | nil => intro d e ak h; simp [j.sub] at h; exact h ▸ ak
 | cons k q ih =>
   intro d e ak h
   cases d <;> first | (simp [j.plain] at ak; done) | (simp [j.sub] at h; done) | skip
   all_goals
    simp only [j.sub] at h
    split at h
    ·rename_i ar x aw; exact ih _ _ (wR (by simpa [j.plain] using ak) aw) h
    ·cases h
theorem z_ {w aS : World} {F : Nat → Prop} : ∀ (q : List Nat) (av : j) (cs : List Value) (S : Nat → Prop) (a : Option (Nat × Nat)) (d : j),
  ax w F av cs S → j.sub q av = some d → (∀ b, S b → aS.heap[b]? = w.heap[b]?) → c8 aS q av cs a = c8 w q av cs a := by
 intro q
 induction q with
 | nil => intros; rfl
 | cons k q ih =>
   have fields : ∀ (ar : List j) (cs : List Value) (S : Nat → Prop) (a : Option (Nat × Nat)) (x d : j), ba w F ar cs S → ar[k]? = some x → j.sub q x = some d →
     (∀ b, S b → aS.heap[b]? = w.heap[b]?) →
     c8 aS q x ((cs.drop (j.dI (ar.take k))).take x.wd) (a.map fun l => (l.1, l.2 + j.dI (ar.take k))) = c8 w q x ((cs.drop (j.dI (ar.take k))).take x.wd) (a.map fun l => (l.1, l.2 + j.dI (ar.take k))) := by
    intro ar cs S a x d h aw ak b9
    obtain ⟨bT, fv, b4, b7, hn, rfl, g5, e5, fT, ho, e9, k6⟩ := ba.pick ar cs S k x h aw
    rw [qv bT fv b4 _ _ g5 (ax.length _ _ _ e9)]
    exact ih x fv hn _ d e9 ak (fun b U => b9 b (fT _ U))
   intro av cs S a d h ak b9
   cases av with
   | agg ar =>
     simp only [j.sub] at ak
     split at ak
     ·rename_i x aw
      rw [ax] at h
      simp only [c8, aw]
      exact fields ar cs S a x d h aw ak b9
     ·cases ak
   | tuple ar =>
     simp only [j.sub] at ak
     split at ak
     ·rename_i x aw
      rw [ax] at h
      simp only [c8, aw]
      exact fields ar cs S a x d h aw ak b9
     ·cases ak
   | ai sz xs =>
     simp only [j.sub] at ak
     split at ak
     ·rename_i x aw
      rw [ax] at h
      rcases h with ⟨rfl, _, rfl⟩ | ⟨b, cap, cur, e, fr, dW, rfl, ah, aM, bd, bI, cx, cy, eB, iq, hk, kI⟩
      ·simp at aw
      ·obtain ⟨bT, fv, b4, b7, hn, p, g5, e5, fT, ho, e9, k6⟩ := ba.pick xs _ dW k x iq aw
       have hl := ax.length _ _ _ e9
       have KO : k < xs.length := (List.getElem?_eq_some_iff.1 aw).1
       have tJ : x.wd = sz := eB x (List.mem_of_getElem? aw)
       have cr : j.dI (xs.take k) = k * sz := by
        rw [qx _ (fun d ak => eB d (List.mem_of_mem_take ak))]
        rw [List.length_take, Nat.min_eq_left (by omega)]
       obtain ⟨ow, km⟩ : ∃ ow, cur.toList = bT ++ (fv ++ (b4 ++ ow)) := by
        refine ⟨cur.toList.drop (xs.length * sz), ?_⟩
        have := (List.take_append_drop (xs.length * sz) cur.toList).symm
        rw [p] at this
        simpa using this
       have jm : l9 w b (k * sz) sz = fv := by
        have := r8 aM km
        rwa [g5, cr, hl, tJ] at this
       have Aa : l9 aS b (k * sz) sz = fv := by
        have := r8 ((b9 b ah).trans aM) km
        rwa [g5, cr, hl, tJ] at this
       simp only [c8, aw, jm, Aa]
       exact ih x fv hn _ d e9 ak (fun c az => b9 c (hk _ (fT _ az)))
     ·cases ak
   | aG x =>
     cases k with
     | succ k => simp [j.sub] at ak
     | zero =>
       simp only [j.sub] at ak
       rw [ax] at h
       obtain ⟨b, cur, e, fr, dW, rfl, ah, aM, bd, bI, cx, cy⟩ := h
       have hl := ax.length _ _ _ bI
       have jm : l9 w b 0 x.wd = cur.toList := by
        have := r8 (l := []) (m := cur.toList) (r := []) aM (by simp)
        rwa [hl] at this
       have Aa : l9 aS b 0 x.wd = cur.toList := by
        have := r8 (l := []) (m := cur.toList) (r := []) ((b9 b ah).trans aM) (by simp)
        rwa [hl] at this
       simp only [c8, jm, Aa]
       exact ih x cur.toList dW _ d bI ak (fun c az => b9 c (cx _ az))
   | _ => simp [j.sub] at ak
def hW : Value → List Value
 | .agg cs => cs.toList
 | v => [v]
def cp : Value → List Value
 | .tuple vs => vs.toList.flatMap hW
 | v => hW v
def h9 : j → Value → Prop
 | .agg _, v => ∃ arr, v = .agg arr
 | _, v => Value.gw v = true
def dT : j → Value → Prop
 | .tuple ds, v => ∃ arr : Array Value, v = .tuple arr ∧ arr.size = ds.length ∧ ∀ (k : Nat) (d : j) (x : Value), ds[k]? = some d → arr[k]? = some x → h9 d x ∧ (∀ vs, d ≠ .tuple vs) ∧ (hW x).length = d.wd
 | d, v => h9 d v
abbrev ao := Nat → j
mutual
def aL (w : World) (F : Nat → Prop) (s : ao) (aE : Nat → Value) : j → Value → (Nat → Prop) → Prop
 | .hole, _, _ => True
 | .h x q, v, _ => ∀ d, j.sub q (s x) = some d → d.plain = false → ∃ cU a, c8 w q (s x) (cp (aE x)) none = some (d, cU, a) ∧ cp v = cU ∧ dT d v
 | .ay x q, v, _ => ∀ d, j.sub q (s x) = some d → j.e_ q (s x) = true → ∃ cU b o, c8 w q (s x) (cp (aE x)) none = some (d, cU, some (b, o)) ∧ v = .pointer (some ⟨b, o, none⟩)
 | .U x k, v, _ => (s x).plain = false → ∃ b cur e fr, v = .pointer (some ⟨b, k, none⟩) ∧ F b ∧ w.heap[b]? = some (.cells cur e fr) ∧ cur.toList = cp (aE x)
 | .fn f cap, v, _ => ∃ arr : Array Value, v = .func (.func f) #[] arr ∧ dM w F s aE cap arr.toList
 | .bool b, v, S => dT (.bool b) v ∧ ax w F (.bool b) (cp v) S
 | .eo, v, S => dT .eo v ∧ ax w F .eo (cp v) S
 | .int k n, v, S => dT (.int k n) v ∧ ax w F (.int k n) (cp v) S
 | .str x, v, S => dT (.str x) v ∧ ax w F (.str x) (cp v) S
 | .dj, v, S => dT .dj v ∧ ax w F .dj (cp v) S
 | .af, v, S => dT .af v ∧ ax w F .af (cp v) S
 | .slice xs, v, S => dT (.slice xs) v ∧ ax w F (.slice xs) (cp v) S
 | .ai sz xs, v, S => dT (.ai sz xs) v ∧ ax w F (.ai sz xs) (cp v) S
 | .ref d, v, S => dT (.ref d) v ∧ ax w F (.ref d) (cp v) S
 | .aG d, v, S => dT (.aG d) v ∧ ax w F (.aG d) (cp v) S
 | .agg d, v, S => dT (.agg d) v ∧ ax w F (.agg d) (cp v) S
 | .tuple d, v, S => dT (.tuple d) v ∧ ax w F (.tuple d) (cp v) S
def dM (w : World) (F : Nat → Prop) (s : ao) (aE : Nat → Value) : List j → List Value → Prop
 | [], vs => vs = []
 | d :: ds, vs => ∃ v i9, vs = v :: i9 ∧ aL w F s aE d v (fun _ => False) ∧ dM w F s aE ds i9
end
def j.tree : j → Bool
 | .hole => false
 | .h _ _ => false
 | .ay _ _ => false
 | .U _ _ => false
 | .fn _ _ => false
 | _ => true
theorem aL.cJ {w : World} {F : Nat → Prop} {s : ao} {aE : Nat → Value} {d : j} {v : Value} {S : Nat → Prop} (a3 : d.tree = true) :
  aL w F s aE d v S ↔ (dT d v ∧ ax w F d (cp v) S) := by
 cases d <;> first | (simp [j.tree] at a3; done) | rw [aL]
theorem hX {q : List Nat} {av d : j} (h : j.sub q av = some d) (ay : d.plain = false ∨ j.e_ q av = true) : av.tree = true := by
 cases q with
 | nil =>
   simp [j.sub] at h; subst h
   rcases ay with ay | ay
   ·cases av <;> first | rfl | (simp [j.plain] at ay)
   ·simp [j.e_] at ay
 | cons k q => cases av <;> first | rfl | (simp [j.sub] at h)
theorem Ab {d : j} (h : d.plain = false) : d.tree = true := hX (q := []) (by simp only [j.sub]) (.inl h)
theorem aL.frame {w aS : World} {F bO : Nat → Prop} {s : ao} {aE : Nat → Value} {Sx : Nat → Nat → Prop} (bE : ∀ b, F b → aS.heap[b]? = w.heap[b]?) (DI : ∀ b, F b → bO b)
  (b9 : ∀ x b, Sx x b → aS.heap[b]? = w.heap[b]?) (mB : ∀ x, aL w F s aE (s x) (aE x) (Sx x)) :
  ∀ (d : j) (v : Value) (S : Nat → Prop), (∀ b, S b → aS.heap[b]? = w.heap[b]?) → aL w F s aE d v S → aL aS bO s aE d v S := by
 have ko : ∀ (x : Nat) (q : List Nat) (d : j), j.sub q (s x) = some d → (d.plain = false ∨ j.e_ q (s x) = true) → c8 aS q (s x) (cp (aE x)) none = c8 w q (s x) (cp (aE x)) none := by
  intro x q d ak ay
  have a3 := hX ak ay
  have := mB x
  rw [aL.cJ a3] at this
  exact z_ q _ _ (Sx x) none d this.2 ak (b9 x)
 have KP : ∀ (d : j) (v : Value) (S : Nat → Prop), d.tree = true → (∀ b, S b → aS.heap[b]? = w.heap[b]?) → aL w F s aE d v S → aL aS bO s aE d v S := by
  intro d v S a3 qy h
  rw [aL.cJ a3] at h ⊢
  exact ⟨h.1, ax.mono DI _ _ _ _ (fun _ h => h) (ax.frame bE _ _ _ qy h.2)⟩
 have step : ∀ n, (∀ (d : j) (v : Value) (S : Nat → Prop), SizeOf.sizeOf d ≤ n → (∀ b, S b → aS.heap[b]? = w.heap[b]?) → aL w F s aE d v S → aL aS bO s aE d v S) ∧
   (∀ (ds : List j) (vs : List Value), SizeOf.sizeOf ds ≤ n → dM w F s aE ds vs → dM aS bO s aE ds vs) := by
  intro n
  induction n with
  | zero =>
    refine ⟨fun d v S b2 => ?_, fun ds vs b2 => ?_⟩
    ·cases d <;> simp at b2 <;> omega
    ·cases ds <;> simp at b2 <;> omega
  | succ n ih =>
    refine ⟨fun d v S b2 qy h => ?_, fun ds vs b2 h => ?_⟩
    ·cases d with
     | hole => rw [aL]; trivial
     | h x q =>
       rw [aL] at h ⊢
       intro d ak ay
       rw [ko x q d ak (.inl ay)]
       exact h d ak ay
     | ay x q =>
       rw [aL] at h ⊢
       intro d ak ay
       rw [ko x q d ak (.inr ay)]
       exact h d ak ay
     | U x k =>
       rw [aL] at h ⊢
       intro ay
       obtain ⟨b, cur, e, fr, ag, ah, aM, bd⟩ := h ay
       exact ⟨b, cur, e, fr, ag, DI b ah, (bE b ah).trans aM, bd⟩
     | fn f cap =>
       rw [aL] at h ⊢
       obtain ⟨arr, rfl, az⟩ := h
       exact ⟨arr, rfl, ih.2 _ _ (by simp at b2; omega) az⟩
     | _ => exact KP _ _ _ rfl qy h
    ·cases ds with
     | nil => rw [dM] at h ⊢; exact h
     | cons d ds =>
       rw [dM] at h ⊢
       obtain ⟨v, i9, rfl, ag, ah⟩ := h
       simp at b2
       exact ⟨v, i9, rfl, ih.1 _ _ _ (by omega) (fun _ h => h.elim) ag, ih.2 _ _ (by omega) ah⟩
 intro d v S qy h
 exact (step (SizeOf.sizeOf d)).1 d v S (Nat.le_refl _) qy h
mutual
def cK (x : Nat) : j → j
 | .h y q => if y = x then .hole else .h y q
 | .ay y q => if y = x then .hole else .ay y q
 | .U y k => if y = x then .hole else .U y k
 | .fn f cap => .fn f (iF x cap)
 | d => d
def iF (x : Nat) : List j → List j
 | [] => []
 | d :: ds => cK x d :: iF x ds
end
mutual
def ca (x : Nat) : j → j
 | .h y q => if y = x then (if q = [] then .h y q else .hole) else .h y q
 | .ay y q => if y = x then .hole else .ay y q
 | .fn f cap => .fn f (h_ x cap)
 | d => d
def h_ (x : Nat) : List j → List j
 | [] => []
 | d :: ds => ca x d :: h_ x ds
end
def dq {α : Type} (f : Nat → α) (t : Nat) (v : α) : Nat → α := fun u => if u = t then v else f u
def k8 (t : Nat) (s : ao) : ao := fun u => cK t (s u)
def ir (t : Nat) (s : ao) : ao := fun u => ca t (s u)
theorem mC {α : Type} (f : Nat → α) (t : Nat) (v : α) : dq f t v t = v := by simp [dq]
theorem jE {α : Type} (f : Nat → α) {t u : Nat} (v : α) (h : u ≠ t) : dq f t v u = f u := by simp [dq, h]
theorem KQ {t : Nat} {d : j} (h : d.tree = true) : cK t d = d := by cases d <;> first | rfl | (simp [j.tree] at h)
theorem Ac {t : Nat} {d : j} (h : d.tree = true) : ca t d = d := by cases d <;> first | rfl | (simp [j.tree] at h)
theorem KR {t : Nat} {d : j} (h : (cK t d).tree = true) : d.tree = true ∧ cK t d = d := by
 cases d <;> first | exact ⟨rfl, rfl⟩ | (simp only [cK] at h; first | (split at h <;> simp [j.tree] at h) | simp [j.tree] at h)
theorem Ad {t : Nat} {d : j} (h : (ca t d).tree = true) : d.tree = true ∧ ca t d = d := by
 cases d <;> first | exact ⟨rfl, rfl⟩ | (simp only [ca] at h; first | (split at h <;> (try split at h) <;> simp [j.tree] at h) | simp [j.tree] at h)
section
variable {w : World} {F : Nat → Prop} {s aC : ao} {aE jF : Nat → Value} {t : Nat}
theorem aL.cK (g0 : ∀ x, x ≠ t → (aC x).tree = true → aC x = s x ∧ jF x = aE x) : ∀ (n : Nat),
  (∀ (d : j) (v : Value) (S : Nat → Prop), SizeOf.sizeOf d ≤ n → aL w F s aE d v S → aL w F aC jF (dp.cK t d) v S) ∧
  (∀ (ds : List j) (vs : List Value), SizeOf.sizeOf ds ≤ n → dM w F s aE ds vs → dM w F aC jF (iF t ds) vs) := by
 intro n
 induction n with
 | zero =>
   refine ⟨fun d v S b2 => ?_, fun ds vs b2 => ?_⟩
   ·cases d <;> simp at b2 <;> omega
   ·cases ds <;> simp at b2 <;> omega
 | succ n ih =>
   refine ⟨fun d v S b2 h => ?_, fun ds vs b2 h => ?_⟩
   ·cases d with
    | hole => rw [dp.cK.eq_def]; simp only; rw [aL]; trivial
    | h x q =>
      simp only [dp.cK]
      split
      ·rw [aL]; trivial
      ·rename_i aw
       rw [aL] at h ⊢
       intro d ak ay
       obtain ⟨a1, bg⟩ := g0 x aw (hX ak (.inl ay))
       rw [a1, bg]; rw [a1] at ak
       exact h d ak ay
    | ay x q =>
      simp only [dp.cK]
      split
      ·rw [aL]; trivial
      ·rename_i aw
       rw [aL] at h ⊢
       intro d ak ay
       obtain ⟨a1, bg⟩ := g0 x aw (hX ak (.inr ay))
       rw [a1, bg]; rw [a1] at ak ay
       exact h d ak ay
    | U x k =>
      simp only [dp.cK]
      split
      ·rw [aL]; trivial
      ·rename_i aw
       rw [aL] at h ⊢
       intro ay
       obtain ⟨a1, bg⟩ := g0 x aw (Ab ay)
       rw [bg]; rw [a1] at ay
       exact h ay
    | fn f cap =>
      simp only [dp.cK]
      rw [aL] at h ⊢
      obtain ⟨arr, rfl, az⟩ := h
      exact ⟨arr, rfl, ih.2 _ _ (by simp at b2; omega) az⟩
    | _ =>
      rw [KQ (by rfl)]
      exact (aL.cJ (by rfl)).2 ((aL.cJ (by rfl)).1 h)
   ·cases ds with
    | nil => rw [iF, dM]; rw [dM] at h; exact h
    | cons d ds =>
      rw [iF, dM]; rw [dM] at h
      obtain ⟨v, i9, rfl, ag, ah⟩ := h
      simp at b2
      exact ⟨v, i9, rfl, ih.1 _ _ _ (by omega) ag, ih.2 _ _ (by omega) ah⟩
theorem aL.ca {aS : World} (g0 : ∀ x, x ≠ t → (aC x).tree = true → aC x = s x ∧ jF x = aE x) (lI : jF t = aE t) (l_ : (aC t).plain = false → (s t).plain = false ∧ ∀ v, dT (s t) v → dT (aC t) v)
  (ko : ∀ x q d, x ≠ t → j.sub q (s x) = some d → (d.plain = false ∨ j.e_ q (s x) = true) → c8 aS q (s x) (cp (aE x)) none = c8 w q (s x) (cp (aE x)) none)
  (bE : ∀ b, F b → aS.heap[b]? = w.heap[b]?) : ∀ (n : Nat),
  (∀ (d : j) (v : Value) (S : Nat → Prop), SizeOf.sizeOf d ≤ n → (∀ b, S b → aS.heap[b]? = w.heap[b]?) → aL w F s aE d v S → aL aS F aC jF (dp.ca t d) v S) ∧
  (∀ (ds : List j) (vs : List Value), SizeOf.sizeOf ds ≤ n → dM w F s aE ds vs → dM aS F aC jF (h_ t ds) vs) := by
 intro n
 induction n with
 | zero =>
   refine ⟨fun d v S b2 => ?_, fun ds vs b2 => ?_⟩
   ·cases d <;> simp at b2 <;> omega
   ·cases ds <;> simp at b2 <;> omega
 | succ n ih =>
   refine ⟨fun d v S b2 qy h => ?_, fun ds vs b2 h => ?_⟩
   ·cases d with
    | hole => rw [dp.ca.eq_def]; simp only; rw [aL]; trivial
    | h x q =>
      simp only [dp.ca]
      split
      ·rename_i aw
       subst aw
       split
       ·rename_i c9
        subst c9
        rw [aL] at h ⊢
        intro d ak ay
        simp only [j.sub, Option.some.injEq] at ak
        subst ak
        obtain ⟨eE, fN⟩ := l_ ay
        obtain ⟨cU, a, a8, bA, ct⟩ := h (s x) rfl eE
        simp only [c8, Option.some.injEq, Prod.mk.injEq] at a8
        obtain ⟨-, a8, ai3⟩ := a8
        refine ⟨cp (jF x), none, rfl, ?_, fN _ ct⟩
        rw [lI, bA, ← a8]
       ·rw [aL]; trivial
      ·rename_i aw
       rw [aL] at h ⊢
       intro d ak ay
       obtain ⟨a1, bg⟩ := g0 x aw (hX ak (.inl ay))
       rw [a1, bg]; rw [a1] at ak
       rw [ko x q d aw ak (.inl ay)]
       exact h d ak ay
    | ay x q =>
      simp only [dp.ca]
      split
      ·rw [aL]; trivial
      ·rename_i aw
       rw [aL] at h ⊢
       intro d ak ay
       obtain ⟨a1, bg⟩ := g0 x aw (hX ak (.inr ay))
       rw [a1, bg]; rw [a1] at ak ay
       rw [ko x q d aw ak (.inr ay)]
       exact h d ak ay
    | U x k =>
      simp only [dp.ca]
      rw [aL] at h ⊢
      intro ay
      by_cases aw : x = t
      ·subst aw
       obtain ⟨b, cur, e, fr, ag, ah, aM, bd⟩ := h (l_ ay).1
       exact ⟨b, cur, e, fr, ag, ah, (bE b ah).trans aM, by rw [lI]; exact bd⟩
      ·obtain ⟨a1, bg⟩ := g0 x aw (Ab ay)
       rw [a1] at ay
       obtain ⟨b, cur, e, fr, ag, ah, aM, bd⟩ := h ay
       exact ⟨b, cur, e, fr, ag, ah, (bE b ah).trans aM, by rw [bg]; exact bd⟩
    | fn f cap =>
      simp only [dp.ca]
      rw [aL] at h ⊢
      obtain ⟨arr, rfl, az⟩ := h
      exact ⟨arr, rfl, ih.2 _ _ (by simp at b2; omega) az⟩
    | _ =>
      rw [Ac (by rfl)]
      have bN := (aL.cJ (by rfl)).1 h
      exact (aL.cJ (by rfl)).2 ⟨bN.1, ax.frame bE _ _ _ qy bN.2⟩
   ·cases ds with
    | nil => rw [h_, dM]; rw [dM] at h; exact h
    | cons d ds =>
      rw [h_, dM]; rw [dM] at h
      obtain ⟨v, i9, rfl, ag, ah⟩ := h
      simp at b2
      exact ⟨v, i9, rfl, ih.1 _ _ _ (by omega) (fun _ h => h.elim) ag, ih.2 _ _ (by omega) ah⟩
theorem aL.void (g0 : ∀ x, x ≠ t → (aC x).tree = true → aC x = s x ∧ jF x = aE x) (m8 : (aC t).plain = true) : ∀ (n : Nat),
  (∀ (d : j) (v : Value) (S : Nat → Prop), SizeOf.sizeOf d ≤ n → aL w F s aE d v S → aL w F aC jF d v S) ∧
  (∀ (ds : List j) (vs : List Value), SizeOf.sizeOf ds ≤ n → dM w F s aE ds vs → dM w F aC jF ds vs) := by
 intro n
 induction n with
 | zero =>
   refine ⟨fun d v S b2 => ?_, fun ds vs b2 => ?_⟩
   ·cases d <;> simp at b2 <;> omega
   ·cases ds <;> simp at b2 <;> omega
 | succ n ih =>
   refine ⟨fun d v S b2 h => ?_, fun ds vs b2 h => ?_⟩
   ·cases d with
    | hole => rw [aL]; trivial
    | h x q =>
      rw [aL] at h ⊢
      intro d ak ay
      by_cases aw : x = t
      ·subst aw
       rw [j.DH _ _ _ m8 ak] at ay; cases ay
      ·obtain ⟨a1, bg⟩ := g0 x aw (hX ak (.inl ay))
       rw [a1, bg]; rw [a1] at ak
       exact h d ak ay
    | ay x q =>
      rw [aL] at h ⊢
      intro d ak ay
      by_cases aw : x = t
      ·subst aw
       rw [j.DG _ _ m8] at ay; cases ay
      ·obtain ⟨a1, bg⟩ := g0 x aw (hX ak (.inr ay))
       rw [a1, bg]; rw [a1] at ak ay
       exact h d ak ay
    | U x k =>
      rw [aL] at h ⊢
      intro ay
      by_cases aw : x = t
      ·subst aw; rw [m8] at ay; cases ay
      ·obtain ⟨a1, bg⟩ := g0 x aw (Ab ay)
       rw [bg]; rw [a1] at ay
       exact h ay
    | fn f cap =>
      rw [aL] at h ⊢
      obtain ⟨arr, rfl, az⟩ := h
      exact ⟨arr, rfl, ih.2 _ _ (by simp at b2; omega) az⟩
    | _ => exact (aL.cJ (by rfl)).2 ((aL.cJ (by rfl)).1 h)
   ·cases ds with
    | nil => rw [dM]; rw [dM] at h; exact h
    | cons d ds =>
      rw [dM]; rw [dM] at h
      obtain ⟨v, i9, rfl, ag, ah⟩ := h
      simp at b2
      exact ⟨v, i9, rfl, ih.1 _ _ _ (by omega) ag, ih.2 _ _ (by omega) ah⟩
end
structure bU (w0 : World) (F0 X F : Nat → Prop) (S : Nat → Nat → Prop) (s : ao) (aE : Nat → Value) (w : World) : Prop where
 hp : ∀ b, F0 b → F b
 hJ : ∀ b, F b → F0 b ∨ X b ∨ w0.heap.size ≤ b
 fU : ∀ b, F b → b < w.heap.size
 eX : ∀ t b, S t b → b < w.heap.size
 ga : ∀ t b, S t b → ¬ F b
 fJ : ∀ t u b, t ≠ u → S t b → ¬ S u b
 dW : ∀ t b, S t b → X b ∨ w0.heap.size ≤ b
 dJ : ∀ t, aL w F s aE (s t) (aE t) (S t)
 old : ∀ b, b < w0.heap.size → ¬ X b → w.heap[b]? = w0.heap[b]?
 size : w0.heap.size ≤ w.heap.size
 os : w.os = w0.os
 tape : w.tape = w0.tape
 output : w.output = w0.output
section
variable {w0 w aS : World} {F0 X F : Nat → Prop} {S : Nat → Nat → Prop} {s : ao} {aE : Nat → Value}
theorem bU.grow (h : bU w0 F0 X F S s aE w) (U : ∀ b, b < w.heap.size → aS.heap[b]? = w.heap[b]?) (ab : w.heap.size ≤ aS.heap.size)
  (ag : aS.os = w.os) (ah : aS.tape = w.tape) (aM : aS.output = w.output) : bU w0 F0 X F S s aE aS where
 hp := h.hp
 hJ := h.hJ
 fU := fun b bE => Nat.lt_of_lt_of_le (h.fU b bE) ab
 eX := fun t b bE => Nat.lt_of_lt_of_le (h.eX t b bE) ab
 ga := h.ga
 fJ := h.fJ
 dW := h.dW
 dJ := fun t => aL.frame (Sx := S) (fun b bE => U b (h.fU b bE)) (fun _ h => h) (fun x b b9 => U b (h.eX x b b9)) h.dJ _ _ _ (fun b b9 => U b (h.eX t b b9)) (h.dJ t)
 old := fun b eC kp => (U b (Nat.lt_of_lt_of_le eC h.size)).trans (h.old b eC kp)
 size := Nat.le_trans h.size ab
 os := ag.trans h.os
 tape := ah.trans h.tape
 output := aM.trans h.output
def gR (S : Nat → Nat → Prop) (t : Nat) (Sn : Nat → Prop) : Nat → Nat → Prop := fun u b => if u = t then Sn b else S u b
theorem wS (S : Nat → Nat → Prop) (t : Nat) (Sn : Nat → Prop) : gR S t Sn t = Sn := by funext b; simp [gR]
theorem wT (S : Nat → Nat → Prop) {t u : Nat} (Sn : Nat → Prop) (h : u ≠ t) : gR S t Sn u = S u := by funext b; simp [gR, h]
theorem bU.tM (h : bU w0 F0 X F S s aE w) {t : Nat} {d : j} {v : Value} (ay : d.plain = true) (ak : aL w F s aE d v (fun _ => False)) :
  bU w0 F0 X F (gR S t (fun _ => False)) (dq s t d) (dq aE t v) w where
 hp := h.hp
 hJ := h.hJ
 fU := h.fU
 eX := fun u b U => by simp only [gR] at U; split at U; exact U.elim; exact h.eX u b U
 ga := fun u b U => by simp only [gR] at U; split at U; exact U.elim; exact h.ga u b U
 fJ := fun u x b er U aw => by
  simp only [gR] at U aw
  split at U
  ·exact U.elim
  ·split at aw
   ·exact aw.elim
   ·exact h.fJ u x b er U aw
 dW := fun u b U => by simp only [gR] at U; split at U; exact U.elim; exact h.dW u b U
 dJ := fun u => by
  have g0 : ∀ x, x ≠ t → (dq s t d x).tree = true → dq s t d x = s x ∧ dq aE t v x = aE x := fun x aw _ => ⟨jE _ _ aw, jE _ _ aw⟩
  have m8 : (dq s t d t).plain = true := by rw [mC]; exact ay
  by_cases hu : u = t
  ·subst hu
   rw [mC, mC, wS]
   exact (aL.void g0 m8 _).1 _ _ _ (Nat.le_refl _) ak
  ·rw [jE _ _ hu, jE _ _ hu, wT _ _ hu]
   exact (aL.void g0 m8 _).1 _ _ _ (Nat.le_refl _) (h.dJ u)
 old := h.old
 size := h.size
 os := h.os
 tape := h.tape
 output := h.output
theorem bU.DJ (h : bU w0 F0 X F S s aE w) {t : Nat} {d : j} {v : Value} {Sn : Nat → Prop} (ak : d.tree = true) (ab : dT d v) (aQ : ax w F d (cp v) Sn)
  (eC : ∀ b, Sn b → b < w.heap.size) (bE : ∀ b, Sn b → ¬ F b) (b9 : ∀ u b, u ≠ t → Sn b → ¬ S u b) (bM : ∀ b, Sn b → X b ∨ w0.heap.size ≤ b) :
  bU w0 F0 X F (gR S t Sn) (dq (k8 t s) t d) (dq aE t v) w where
 hp := h.hp
 hJ := h.hJ
 fU := h.fU
 eX := fun u b U => by simp only [gR] at U; split at U; exact eC b U; exact h.eX u b U
 ga := fun u b U => by simp only [gR] at U; split at U; exact bE b U; exact h.ga u b U
 fJ := fun u x b er U aw => by
  simp only [gR] at U aw
  split at U
  ·rename_i hu
   rw [if_neg (fun e => er (hu.trans e.symm))] at aw
   exact b9 x b (fun e => er (hu.trans e.symm)) U aw
  ·rename_i hu
   split at aw
   ·exact b9 u b hu aw U
   ·exact h.fJ u x b er U aw
 dW := fun u b U => by simp only [gR] at U; split at U; exact bM b U; exact h.dW u b U
 dJ := fun u => by
  have g0 : ∀ x, x ≠ t → (dq (k8 t s) t d x).tree = true → dq (k8 t s) t d x = s x ∧ dq aE t v x = aE x := fun x aw a3 => by
   rw [jE _ _ aw] at a3 ⊢
   exact ⟨(KR a3).2, jE _ _ aw⟩
  by_cases hu : u = t
  ·subst hu
   rw [mC, mC, wS]
   exact (aL.cJ ak).2 ⟨ab, aQ⟩
  ·rw [jE _ _ hu, jE _ _ hu, wT _ _ hu]
   exact (aL.cK g0 _).1 _ _ _ (Nat.le_refl _) (h.dJ u)
 old := h.old
 size := h.size
 os := h.os
 tape := h.tape
 output := h.output
theorem qz (k : Nat) (q : List Nat) (bw x : j) : (∃ ar gs, x = .agg ar ∧ j.put (k :: q) bw x = .agg gs) ∨ (∃ ar gs, x = .tuple ar ∧ j.put (k :: q) bw x = .tuple gs) ∨
  (∃ sz xs cz, x = .ai sz xs ∧ j.put (k :: q) bw x = .ai sz cz) ∨ (∃ y z, x = .aG y ∧ j.put (k :: q) bw x = .aG z) ∨ j.put (k :: q) bw x = x := by
 cases x with
 | agg ar => simp only [j.put]; split <;> exact .inl ⟨_, _, rfl, rfl⟩
 | tuple ar => simp only [j.put]; split <;> exact .inr (.inl ⟨_, _, rfl, rfl⟩)
 | ai sz ar => simp only [j.put]; split <;> exact .inr (.inr (.inl ⟨_, _, _, rfl, rfl⟩))
 | aG y => cases k <;> exact .inr (.inr (.inr (.inl ⟨_, _, rfl, rfl⟩)))
 | _ => exact .inr (.inr (.inr (.inr rfl)))
theorem DK {k : Nat} {q : List Nat} {bw x : j} {v : Value} (h : h9 x v) : h9 (j.put (k :: q) bw x) v := by
 rcases qz k q bw x with ⟨ar, gs, rfl, e⟩ | ⟨ar, gs, rfl, e⟩ | ⟨sz, xs, cz, rfl, e⟩ | ⟨y, z, rfl, e⟩ | e <;> rw [e] <;> exact h
theorem DL {k : Nat} {q : List Nat} {bw x : j} (h : ∀ vs, x ≠ .tuple vs) : ∀ vs, j.put (k :: q) bw x ≠ .tuple vs := by
 rcases qz k q bw x with ⟨ar, gs, rfl, e⟩ | ⟨ar, gs, rfl, e⟩ | ⟨sz, xs, cz, rfl, e⟩ | ⟨y, z, rfl, e⟩ | e <;> rw [e] <;> first | exact h | (intro vs bN; cases bN; done) | exact (h _ rfl).elim
theorem Ae {k : Nat} {q : List Nat} {d bw av : j} {v : Value} (h : dT av v) (ak : j.sub (k :: q) av = some d) (ag : ∀ v, h9 d v → h9 bw v) (ah : (∀ vs, d ≠ .tuple vs) → ∀ vs, bw ≠ .tuple vs) (aM : bw.wd = d.wd) :
  dT (j.put (k :: q) bw av) v := by
 cases av with
 | tuple ar =>
   simp only [j.sub] at ak
   split at ak
   ·rename_i x aw
    simp only [j.put, aw]
    simp only [dT] at h ⊢
    obtain ⟨arr, rfl, b2, mB⟩ := h
    refine ⟨arr, rfl, by simpa using b2, fun aK e y he bL => ?_⟩
    rw [List.getElem?_set] at he
    split at he
    ·rename_i Af
     subst Af
     split at he
     ·simp only [Option.some.injEq] at he
      subst he
      obtain ⟨a8, bA, ct⟩ := mB k x y aw bL
      refine ⟨?_, ?_, ct.trans (j.r7 q x d bw ak aM).symm⟩
      ·cases q with
       | nil =>
         simp only [j.sub, Option.some.injEq] at ak
         subst ak
         exact ag _ a8
       | cons cu q => exact DK a8
      ·cases q with
       | nil =>
         simp only [j.sub, Option.some.injEq] at ak
         subst ak
         exact ah bA
       | cons cu q => exact DL bA
     ·cases he
    ·exact mB aK e y he bL
   ·cases ak
 | agg ar => simp only [j.put]; split <;> exact h
 | ai sz ar => simp only [j.put]; split <;> exact h
 | aG y => cases k <;> exact h
 | _ => exact h
theorem Ag {d : j} {v : Value} (h : h9 d v) : h9 d.c0 v := by cases d <;> exact h
theorem DM {s : ao} {x : Nat} {q : List Nat} {d : j} (ak : j.sub q (s x) = some d) (ay : d.plain = false) :
  (dq (ir x s) x (j.put q d.c0 (s x)) x).plain = false → (s x).plain = false ∧ ∀ v, dT (s x) v → dT (dq (ir x s) x (j.put q d.c0 (s x)) x) v := by
  rw [mC]
  intro gG
  cases q with
  | nil =>
    exfalso
    have : ∀ d : j, d.c0.plain = true := by
     intro d
     have key : ∀ n, (∀ d : j, SizeOf.sizeOf d ≤ n → d.c0.plain = true) ∧ (∀ ds : List j, SizeOf.sizeOf ds ≤ n → j.d_ (j.kn ds) = true) := by
      intro n
      induction n with
      | zero => exact ⟨fun d b2 => by cases d <;> simp at b2 <;> omega, fun ds b2 => by cases ds <;> simp at b2 <;> omega⟩
      | succ n ih =>
        refine ⟨fun d b2 => ?_, fun ds b2 => ?_⟩
        ·cases d with
         | agg ar => simp only [j.c0, j.plain]; exact ih.2 _ (by simp at b2; omega)
         | tuple ar => simp only [j.c0, j.plain]; exact ih.2 _ (by simp at b2; omega)
         | _ => rfl
        ·cases ds with
         | nil => rfl
         | cons d ds =>
           simp at b2
           simp only [j.kn, j.d_, Bool.and_eq_true]
           exact ⟨ih.1 _ (by omega), ih.2 _ (by omega)⟩
     exact (key _).1 d (Nat.le_refl _)
    simp only [j.put] at gG
    rw [this] at gG
    cases gG
  | cons k q =>
    refine ⟨?_, fun v aQ => Ae aQ ak (fun v h => Ag h) (fun h vs e => ?_) (j.pd d)⟩
    ·cases Ah : (s x).plain with
     | false => rfl
     | true => rw [j.DH _ _ _ Ah ak] at ay; cases ay
    ·cases d <;> first | (exact h _ rfl) | (simp [j.c0] at e)
theorem bU.take (h : bU w0 F0 X F S s aE w) {x : Nat} {q : List Nat} {d : j} (ak : j.sub q (s x) = some d) (ay : d.plain = false) :
  ∃ (Sn gF : Nat → Prop) (cU : List Value) (a : Option (Nat × Nat)), bU w0 F0 X F (gR S x Sn) (dq (ir x s) x (j.put q d.c0 (s x))) aE w ∧
    c8 w q (s x) (cp (aE x)) none = some (d, cU, a) ∧ ax w F d cU gF ∧ (∀ b, gF b → S x b) ∧ (∀ b, Sn b → S x b) ∧ (∀ b, gF b → ¬ Sn b) ∧
    (∀ (bw : j) (v : Value) (aU : Nat → Prop), aL w F s aE bw v aU → aL w F (dq (ir x s) x (j.put q d.c0 (s x))) aE (dp.ca x bw) v aU) := by
 have a3 := hX ak (.inl ay)
 have aw := h.dJ x
 rw [aL.cJ a3] at aw
 obtain ⟨cU, a, ep, gF, g6, a8, bA, ct, dZ, e6⟩ := ctx q (s x) (cp (aE x)) (S x) none d aw.2 ak
 have j4 : ax w F (j.put q d.c0 (s x)) (cp (aE x)) ep := by
  have kJ : ax w F d.c0 cU (fun _ => False) := ax.c0 _ _ _ _ dZ
  have r9 : ∀ b, (ep b ∨ False) → ep b := fun b h => h.elim id False.elim
  rcases e6 with ⟨l, r, a1, bg, bf⟩ | ⟨b, cur, e, fr, l, r, a1, bg, bf, cn, c3, b_⟩
  ·have := bf w _ cU _ (fun _ _ => rfl) (fun _ _ => rfl) (j.pd d) kJ (fun _ h => h.elim)
   rw [← a1] at this
   exact ax.mono (fun _ h => h) _ _ _ _ r9 this
  ·have := b_ w _ cU _ (fun _ _ => rfl) (fun _ _ _ => rfl) (by rw [bf, ← c3]) (j.pd d) kJ (fun _ h => h.elim)
   exact ax.mono (fun _ h => h) _ _ _ _ r9 this
 have KS : dT (j.put q d.c0 (s x)) (aE x) ∧ (j.put q d.c0 (s x)).tree = true ∨ j.put q d.c0 (s x) = .hole := by
  cases q with
  | nil =>
    simp only [j.sub, Option.some.injEq] at ak
    subst ak
    simp only [j.put]
    cases ab : s x with
    | ai sz xs => right; rfl
    | aG y => right; rfl
    | agg ar => left; rw [ab] at aw; exact ⟨aw.1, rfl⟩
    | tuple ar =>
      left
      rw [ab] at aw
      refine ⟨?_, rfl⟩
      simp only [dT, j.c0] at aw ⊢
      obtain ⟨arr, e, b2, mB⟩ := aw.1
      have hl : ∀ ar : List j, j.kn ar = ar.map j.c0 := by
       intro ar; induction ar with
       | nil => rfl
       | cons a ar ih => simp [j.kn, ih]
      refine ⟨arr, e, by rw [hl]; simpa using b2, fun k gZ y he bL => ?_⟩
      rw [hl, List.getElem?_map] at he
      cases aB : ar[k]? with
      | none => rw [aB] at he; cases he
      | some z =>
        rw [aB] at he
        simp only [Option.map_some, Option.some.injEq] at he
        subst he
        obtain ⟨a8, bA, ct⟩ := mB k z y aB bL
        refine ⟨Ag a8, fun vs e => ?_, ct.trans (j.pd z).symm⟩
        cases z <;> first | (exact bA _ rfl) | (simp [j.c0] at e)
    | _ => rw [ab] at ay; simp [j.plain] at ay
  | cons k q =>
    left
    refine ⟨Ae aw.1 ak (fun v h => Ag h) (fun h vs e => ?_) (j.pd d), ?_⟩
    ·cases d <;> first | (exact h _ rfl) | (simp [j.c0] at e)
    ·rcases qz k q d.c0 (s x) with ⟨ar, gs, a1, e⟩ | ⟨ar, gs, a1, e⟩ | ⟨sz, xs, cz, a1, e⟩ | ⟨y, z, a1, e⟩ | e <;> rw [e] <;> first | rfl | exact a3
 refine ⟨ep, gF, cU, a, ?_, g6, dZ, bA, a8, fun b ag ah => ct b ah ag, ?_⟩
 rotate_left
 ·have g0 : ∀ y, y ≠ x → (dq (ir x s) x (j.put q d.c0 (s x)) y).tree = true → dq (ir x s) x (j.put q d.c0 (s x)) y = s y ∧ aE y = aE y := fun y bL a3 => by
   rw [jE _ _ bL] at a3 ⊢
   exact ⟨(Ad a3).2, rfl⟩
  intro bw v aU gQ
  exact (aL.ca g0 rfl (DM ak ay) (fun _ _ _ _ _ _ => rfl) (fun _ _ => rfl) _).1 _ _ _ (Nat.le_refl _) (fun _ _ => rfl) gQ
 have g0 : ∀ y, y ≠ x → (dq (ir x s) x (j.put q d.c0 (s x)) y).tree = true → dq (ir x s) x (j.put q d.c0 (s x)) y = s y ∧ aE y = aE y := fun y bL a3 => by
  rw [jE _ _ bL] at a3 ⊢
  exact ⟨(Ad a3).2, rfl⟩
 have l_ := DM (s := s) (x := x) ak ay
 constructor
 case hp => exact h.hp
 case hJ => exact h.hJ
 case fU => exact h.fU
 case eX => exact fun u b U => by simp only [gR] at U; split at U; exact h.eX x b (a8 b U); exact h.eX u b U
 case ga => exact fun u b U => by simp only [gR] at U; split at U; exact h.ga x b (a8 b U); exact h.ga u b U
 case fJ =>
  intro u y b er U bL
  simp only [gR] at U bL
  split at U
  ·rename_i hu
   rw [if_neg (fun e => er (hu.trans e.symm))] at bL
   exact h.fJ x y b (fun e => er (hu.trans e)) (a8 b U) bL
  ·rename_i hu
   split at bL
   ·exact h.fJ u x b hu U (a8 b bL)
   ·exact h.fJ u y b er U bL
 case dW => exact fun u b U => by simp only [gR] at U; split at U; exact h.dW x b (a8 b U); exact h.dW u b U
 case dJ =>
  intro u
  by_cases hu : u = x
  ·subst hu
   rw [mC, wS]
   rcases KS with ⟨a1, bg⟩ | e
   ·exact (aL.cJ bg).2 ⟨a1, j4⟩
   ·rw [e, aL]; trivial
  ·rw [jE _ _ hu, wT _ _ hu]
   exact (aL.ca g0 rfl l_ (fun _ _ _ _ _ _ => rfl) (fun _ _ => rfl) _).1 _ _ _ (Nat.le_refl _) (fun _ _ => rfl) (h.dJ u)
 case old => exact h.old
 case size => exact h.size
 case os => exact h.os
 case tape => exact h.tape
 case output => exact h.output
theorem bU.store (h : bU w0 F0 X F S s aE w) {x : Nat} {q : List Nat} {d bw : j} (ak : j.sub q (s x) = some d) (az : j.e_ q (s x) = true)
  {fD : List Value} {Sn : Nat → Prop} (aQ : ax w F bw fD Sn) (lH : bw.wd = d.wd)
  (eC : ∀ b, Sn b → b < w.heap.size) (bE : ∀ b, Sn b → ¬ F b) (b9 : ∀ u b, Sn b → ¬ S u b) (bM : ∀ b, Sn b → X b ∨ w0.heap.size ≤ b) :
  ∃ (cU : List Value) (b : Nat) (l r : List Value) (cur : Array Value) (e : TypeId) (fr : Nat × Nat), c8 w q (s x) (cp (aE x)) none = some (d, cU, some (b, l.length)) ∧
    w.heap[b]? = some (.cells cur e fr) ∧ cur.toList = l ++ (cU ++ r) ∧ pc fr cur.size ∧
    ∀ aS, aS.heap[b]? = some (.cells (l ++ (fD ++ r)).toArray e fr) → (∀ c, c ≠ b → aS.heap[c]? = w.heap[c]?) → aS.heap.size = w.heap.size → aS.os = w.os → aS.tape = w.tape → aS.output = w.output →
      ∃ aU, bU w0 F0 X F aU (dq (ir x s) x (j.put q bw (s x))) aE aS := by
 have a3 := hX ak (.inr az)
 have aw := h.dJ x
 rw [aL.cJ a3] at aw
 obtain ⟨cU, a, ep, gF, g6, a8, bA, ct, dZ, e6⟩ := ctx q (s x) (cp (aE x)) (S x) none d aw.2 ak
 have KT : z4 w F q (s x) (cp (aE x)) d cU a ep := by
  rcases e6 with ⟨l, r, a1, bg, bf⟩ | e6
  ·exfalso
   have mD : ∀ (q : List Nat) (av : j) (cs : List Value) (I : Option (Nat × Nat)) (d : j) (cU : List Value), j.e_ q av = true → c8 w q av cs I = some (d, cU, none) → False := by
    intro q
    induction q with
    | nil => intro av cs I d cU az; simp [j.e_] at az
    | cons k q ih =>
      have DN : ∀ (q : List Nat) (av : j) (cs : List Value) (l : Nat × Nat) (d : j) (cU : List Value), c8 w q av cs (some l) = some (d, cU, none) → False := by
       intro q
       induction q with
       | nil => intro av cs l d cU h; simp [c8] at h
       | cons k q wU =>
         intro av cs l d cU h
         cases av with
         | agg ar => rw [c8] at h; split at h; exact wU _ _ _ _ _ h; cases h
         | tuple ar => rw [c8] at h; split at h; exact wU _ _ _ _ _ h; cases h
         | ai sz xs => simp only [c8] at h; split at h; exact wU _ _ _ _ _ h; cases h
         | aG y =>
           cases k with
           | zero => rw [c8.eq_def] at h; simp only at h; split at h; exact wU _ _ _ _ _ h; cases h
           | succ k => rw [show c8 w ((k + 1) :: q) (.aG y) cs (some l) = none from rfl] at h; cases h
         | _ => simp [c8] at h
      intro av cs I d cU az h
      cases av with
      | agg ar =>
        simp only [j.e_] at az
        split at az
        ·rename_i y bL
         simp only [c8, bL] at h
         exact ih _ _ _ _ _ az h
        ·cases az
      | tuple ar =>
        simp only [j.e_] at az
        split at az
        ·rename_i y bL
         simp only [c8, bL] at h
         exact ih _ _ _ _ _ az h
        ·cases az
      | ai sz xs => simp only [c8] at h; split at h; exact DN _ _ _ _ _ _ h; cases h
      | aG y =>
        cases k with
        | zero => rw [c8.eq_def] at h; simp only at h; split at h; exact DN _ _ _ _ _ _ h; cases h
        | succ k => rw [show c8 w ((k + 1) :: q) (.aG y) cs I = none from rfl] at h; cases h
      | _ => simp [j.e_] at az
   simp only [Option.map_none] at bg
   subst bg
   exact mD _ _ _ _ _ _ az g6
  ·exact e6
 obtain ⟨b, cur, e, fr, l, r, rfl, bg, bf, cn, c3, b_⟩ := KT
 refine ⟨cU, b, l, r, cur, e, fr, g6, bf, c3, cn, ?_⟩
 intro aS k7 tN ef KU KV tO
 have wV : S x b := a8 _ bg
 have r_ : ∀ c, F c → aS.heap[c]? = w.heap[c]? := fun c az => tN c (by rintro rfl; exact h.ga x _ wV az)
 have ai4 : fD.length = cU.length := by rw [ax.length _ _ _ aQ, ax.length _ _ _ dZ, lH]
 have j4 := b_ aS bw fD Sn r_ (fun c _ er => tN c er) k7 lH
  (ax.frame r_ _ _ _ (fun c az => tN c (by rintro rfl; exact b9 x _ az wV)) aQ) (fun c az r9 => b9 x c az (a8 _ r9))
 obtain ⟨k, iX, rfl⟩ : ∃ k iX, q = k :: iX := by
  cases q with
  | nil => simp [j.e_] at az
  | cons k q => exact ⟨k, q, rfl⟩
 have DO : ∀ v, dT (s x) v → dT (j.put (k :: iX) bw (s x)) v := by
  intro v aQ
  rcases qz k iX bw (s x) with ⟨ar, gs, a1, e⟩ | ⟨ar, gs, a1, e⟩ | ⟨sz, xs, cz, a1, e⟩ | ⟨y, z, a1, e⟩ | e
  ·rw [e]; rw [a1] at aQ; exact aQ
  ·
   rw [a1] at aQ ak az ⊢
   simp only [j.e_] at az
   split at az
   ·rename_i y bL
    simp only [j.put, bL]
    cases iX with
    | nil => simp [j.e_] at az
    | cons cu bP =>
      simp only [dT] at aQ ⊢
      obtain ⟨arr, rfl, b2, mB⟩ := aQ
      refine ⟨arr, rfl, by simpa using b2, fun aK e j5 he qA => ?_⟩
      rw [List.getElem?_set] at he
      split at he
      ·rename_i Af
       subst Af
       split at he
       ·simp only [Option.some.injEq] at he
        subst he
        obtain ⟨a8, bA, ct⟩ := mB _ y j5 bL qA
        simp only [j.sub, bL] at ak
        exact ⟨DK a8, DL bA, ct.trans (j.r7 (cu :: bP) y d bw ak lH).symm⟩
       ·cases he
      ·exact mB aK e j5 he qA
   ·cases az
  ·rw [e]; rw [a1] at aQ; exact aQ
  ·rw [e]; rw [a1] at aQ; exact aQ
  ·rw [e]; exact aQ
 have KW : (j.put (k :: iX) bw (s x)).tree = true := by
  rcases qz k iX bw (s x) with ⟨ar, gs, a1, e⟩ | ⟨ar, gs, a1, e⟩ | ⟨sz, xs, cz, a1, e⟩ | ⟨y, z, a1, e⟩ | e <;> rw [e] <;> first | rfl | exact a3
 let aC := dq (ir x s) x (j.put (k :: iX) bw (s x))
 have g0 : ∀ y, y ≠ x → (aC y).tree = true → aC y = s y ∧ aE y = aE y := fun y bL a3 => by
  have e : aC y = ca x (s y) := jE _ _ bL
  rw [e] at a3 ⊢
  exact ⟨(Ad a3).2, rfl⟩
 have l_ : (aC x).plain = false → (s x).plain = false ∧ ∀ v, dT (s x) v → dT (aC x) v := by
  intro _
  refine ⟨?_, ?_⟩
  ·cases Ah : (s x).plain with
   | false => rfl
   | true => rw [j.DG _ _ Ah] at az; cases az
  ·simp only [aC, mC]; exact DO
 refine ⟨gR S x (fun c => ep c ∨ Sn c), ?_⟩
 constructor
 case hp => exact h.hp
 case hJ => exact h.hJ
 case fU => exact fun b U => by rw [ef]; exact h.fU b U
 case eX =>
  intro u c U
  rw [ef]
  simp only [gR] at U
  split at U
  ·rcases U with U | U
   ·exact h.eX x c (a8 c U)
   ·exact eC c U
  ·exact h.eX u c U
 case ga =>
  intro u c U
  simp only [gR] at U
  split at U
  ·rcases U with U | U
   ·exact h.ga x c (a8 c U)
   ·exact bE c U
  ·exact h.ga u c U
 case fJ =>
  intro u y c er U bL
  simp only [gR] at U bL
  split at U
  ·rename_i hu
   rw [if_neg (fun e => er (hu.trans e.symm))] at bL
   rcases U with U | U
   ·exact h.fJ x y c (fun e => er (hu.trans e)) (a8 c U) bL
   ·exact b9 y c U bL
  ·rename_i hu
   split at bL
   ·rcases bL with bL | bL
    ·exact h.fJ u x c hu U (a8 c bL)
    ·exact b9 u c bL U
   ·exact h.fJ u y c er U bL
 case dW =>
  intro u c U
  simp only [gR] at U
  split at U
  ·rcases U with U | U
   ·exact h.dW x c (a8 c U)
   ·exact bM c U
  ·exact h.dW u c U
 case dJ =>
  intro u
  by_cases hu : u = x
  ·subst hu
   rw [mC, wS]
   exact (aL.cJ KW).2 ⟨DO _ aw.1, j4⟩
  ·rw [jE _ _ hu, wT _ _ hu]
   have er : ∀ y c, y ≠ x → S y c → aS.heap[c]? = w.heap[c]? := fun y c bL az => tN c (by rintro rfl; exact h.fJ y x c bL az wV)
   refine (aL.ca g0 rfl l_ (fun y bP d2 bL ia Ai => ?_) r_ _).1 _ _ _ (Nat.le_refl _) (fun c az => er u c hu az) (h.dJ u)
   have DP := h.dJ y
   rw [aL.cJ (hX ia Ai)] at DP
   exact z_ bP _ _ _ none d2 DP.2 ia (fun c az => er y c bL az)
 case old =>
  intro c eC kp
  by_cases DQ : c = b
  ·subst DQ
   exfalso
   rcases h.dW x c wV with kJ | kJ
   ·exact kp kJ
   ·omega
  ·exact (tN c DQ).trans (h.old c eC kp)
 case size => rw [ef]; exact h.size
 case os => exact KU.trans h.os
 case tape => exact KV.trans h.tape
 case output => exact tO.trans h.output
end
end Go.dp
