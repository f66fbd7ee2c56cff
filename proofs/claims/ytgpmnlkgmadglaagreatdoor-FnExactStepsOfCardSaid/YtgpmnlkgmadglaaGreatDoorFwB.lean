/- Part of a proof that a law returns true for every input. No condition. -/
import Derived.Test.YtgpmnlkgmadglaaGreatDoorFwA
import Derived.Laws.AppendOwn
import Derived.Calls
namespace Go.cY
inductive xN where
 | mp (es : List (List UInt8 × Bool))
 | o_
 | jc (T e : TypeId) (j9 : List UInt8)
inductive I where
 | hole
 | bool (b : Bool)
 | eT
 | int (k : IntKind) (n : Int)
 | str (s : List UInt8)
 | da
 | bo
 | slice (xs : List I)
 | au (sz : Nat) (xs : List I)
 | ref (d : I)
 | aU (d : I)
 | agg (ax : List I)
 | tuple (vs : List I)
 | fn (f : FuncId) (cap : List I)
 | h (x : Nat) (q : List Nat)
 | aw (x : Nat) (q : List Nat)
 | aa (x : Nat) (k : Nat)
 | ct (o : xN)
 deriving Inhabited
mutual
def I.wd : I → Nat
 | .agg ax => I.ee ax
 | .tuple ax => I.ee ax
 | _ => 1
def I.ee : List I → Nat
 | [] => 0
 | d :: ds => d.wd + I.ee ds
end
def h5 (w : World) (b o : Nat) (cs : List Value) : Prop := ∀ j c, cs[j]? = some c → w.cell? ⟨b, o + j, none⟩ = some c
def rV (fr : Nat × Nat) (n : Nat) : Prop := ∀ o, o < n → ¬ (fr.1 ≤ o ∧ o < fr.2)
def Value.gJ : Value → Bool
 | .agg _ => false
 | .tuple _ => false
 | _ => true
def I.single : I → Bool
 | .agg _ => false
 | .tuple _ => false
 | .hole => false
 | _ => true
def ma (w : World) : xN → List Value → (Nat → Prop) → Prop
 | .mp es, cs, S => ∃ r ms mZ, cs = [.map (some r)] ∧ S r ∧ w.heap[r]? = some (.map ms mZ) ∧ ms.toList.map (fun e => (e.key, e.val)) = es.map (fun e => (.string ⟨⟨e.1⟩⟩, .bool e.2))
 | .o_, cs, _ => cs = [.map none]
 | .jc T e j9, cs, S => ∃ b a s_, cs = [.pointer (some ⟨b, 0, none⟩)] ∧ S b ∧ w.heap[b]? = some (.cells #[a, s_] T (0, 0)) ∧ (a = .pointer none ∨ a = .pointer (some ⟨b, 0, none⟩)) ∧
   ((j9 = [] ∧ s_ = .slice none 0 0) ∨
     ∃ g cap cur, s_ = .slice (some ⟨g, 0, none⟩) j9.length cap ∧ S g ∧ g ≠ b ∧ w.heap[g]? = some (.cells cur e (0, 0)) ∧ j9.length ≤ cap ∧ cap ≤ maxLen ∧ cur.size = cap ∧
       cur.toList.take j9.length = j9.map fun x => .int .u8 x.toNat)
theorem ma.frame {w aL : World} : ∀ {o : xN} {cs : List Value} {S : Nat → Prop}, (∀ b, S b → aL.heap[b]? = w.heap[b]?) → ma w o cs S → ma aL o cs S
 | .mp _, _, _, bX, ⟨r, ms, mZ, af, ag, aF, a_⟩ => ⟨r, ms, mZ, af, ag, (bX _ ag).trans aF, a_⟩
 | .o_, _, _, _, h => h
 | .jc _ _ _, _, _, bX, ⟨b, a, s_, af, ag, aF, a_, bI⟩ => ⟨b, a, s_, af, ag, (bX _ ag).trans aF, a_, bI.imp (fun h => h) fun ⟨g, cap, cur, rW, i2, i3, i4, i5⟩ => ⟨g, cap, cur, rW, i2, i3, (bX _ i2).trans i4, i5⟩⟩
theorem ma.mono {w : World} : ∀ {o : xN} {cs : List Value} {S aR : Nat → Prop}, (∀ b, S b → aR b) → ma w o cs S → ma w o cs aR
 | .mp _, _, _, _, bX, ⟨r, ms, mZ, af, ag, aF⟩ => ⟨r, ms, mZ, af, bX _ ag, aF⟩
 | .o_, _, _, _, _, h => h
 | .jc _ _ _, _, _, _, bX, ⟨b, a, s_, af, ag, aF, a_, bI⟩ => ⟨b, a, s_, af, bX _ ag, aF, a_, bI.imp (fun h => h) fun ⟨g, cap, cur, rW, i2, i3⟩ => ⟨g, cap, cur, rW, bX _ i2, i3⟩⟩
theorem ma.one {w : World} : ∀ {o : xN} {cs : List Value} {S : Nat → Prop}, ma w o cs S → ∃ v, Value.gJ v = true ∧ cs = [v]
 | .mp _, _, _, ⟨_, _, _, h, _⟩ => ⟨_, rfl, h⟩
 | .o_, _, _, h => ⟨_, rfl, h⟩
 | .jc _ _ _, _, _, ⟨_, _, _, h, _⟩ => ⟨_, rfl, h⟩
mutual
def ay (w : World) (F : Nat → Prop) : I → List Value → (Nat → Prop) → Prop
 | .hole, cs, _ => ∃ v, Value.gJ v = true ∧ cs = [v]
 | .bool b, cs, _ => cs = [.bool b]
 | .eT, cs, _ => ∃ b, cs = [.bool b]
 | .int k n, cs, _ => cs = [.int k n]
 | .str s, cs, _ => cs = [.string ⟨⟨s⟩⟩]
 | .da, cs, _ => cs = [.pointer none]
 | .bo, cs, _ => cs = [.slice none 0 0]
 | .slice xs, cs, _ => (xs = [] ∧ ∃ a c, cs = [.slice a 0 c] ∧ c ≤ maxLen ∧ (a = none → c = 0)) ∨
   ∃ b o cap eu sz, cs = [.slice (some ⟨b, o, none⟩) xs.length cap] ∧ F b ∧ xs.length ≤ cap ∧ cap ≤ maxLen ∧ (∀ d ∈ xs, d.wd = sz) ∧
     h5 w b o eu ∧ bf w F xs eu (fun _ => False)
 | .au sz xs, cs, S => (xs = [] ∧ ∃ a, cs = [.slice a 0 0]) ∨
   ∃ b cap cur e fr aR, cs = [.slice (some ⟨b, 0, none⟩) xs.length cap] ∧ S b ∧ w.heap[b]? = some (.cells cur e fr) ∧ rV fr cur.size ∧
     xs.length ≤ cap ∧ cap ≤ maxLen ∧ cur.size = cap * sz ∧ (∀ d ∈ xs, d.wd = sz) ∧ bf w F xs (cur.toList.take (xs.length * sz)) aR ∧ (∀ c, aR c → S c) ∧ ¬ aR b
 | .ref d, cs, _ => ∃ b o eu, cs = [.pointer (some ⟨b, o, none⟩)] ∧ F b ∧ h5 w b o eu ∧ ay w F d eu (fun _ => False)
 | .aU d, cs, S => ∃ b cur e fr aR, cs = [.pointer (some ⟨b, 0, none⟩)] ∧ S b ∧ w.heap[b]? = some (.cells cur e fr) ∧ rV fr cur.size ∧
   ay w F d cur.toList aR ∧ (∀ c, aR c → S c) ∧ ¬ aR b
 | .agg ax, cs, S => bf w F ax cs S
 | .tuple ax, cs, S => bf w F ax cs S
 | .fn f caps, cs, _ => ∃ arr : Array Value, cs = [.func (.func f) #[] arr] ∧ (∀ d ∈ caps, d.single = true) ∧ bf w F caps arr.toList (fun _ => False)
 | .h _ _, _, _ => False
 | .aw _ _, _, _ => False
 | .aa _ _, _, _ => False
 | .ct o, cs, S => ma w o cs S
def bf (w : World) (F : Nat → Prop) : List I → List Value → (Nat → Prop) → Prop
 | [], cs, _ => cs = []
 | d :: ds, cs, S => ∃ cv cw cc dB, cs = cv ++ cw ∧ ay w F d cv cc ∧ bf w F ds cw dB ∧ (∀ b, cc b → S b) ∧ (∀ b, dB b → S b) ∧ (∀ b, cc b → ¬ dB b)
end
theorem cell?_of_block {w aL : World} {b : Nat} (h : aL.heap[b]? = w.heap[b]?) (o : Nat) : aL.cell? ⟨b, o, none⟩ = w.cell? ⟨b, o, none⟩ := by
 simp [World.cell?, h]
theorem h5.frame {w aL : World} {b o : Nat} {cs : List Value} (h : aL.heap[b]? = w.heap[b]?) (aW : h5 w b o cs) : h5 aL b o cs :=
 fun j c ao => (cell?_of_block h _).trans (aW j c ao)
mutual
theorem ay.frame {w aL : World} {F : Nat → Prop} (bG : ∀ b, F b → aL.heap[b]? = w.heap[b]?) :
  ∀ (d : I) (cs : List Value) (S : Nat → Prop), (∀ b, S b → aL.heap[b]? = w.heap[b]?) → ay w F d cs S → ay aL F d cs S
 | .hole, _, _, _, h => h
 | .bool _, _, _, _, h => h
 | .eT, _, _, _, h => h
 | .int _ _, _, _, _, h => h
 | .str _, _, _, _, h => h
 | .da, _, _, _, h => h
 | .bo, _, _, _, h => h
 | .slice xs, cs, S, bX, h => by
   rw [ay] at h ⊢
   rcases h with h | ⟨b, o, cap, eu, sz, af, ag, aF, a_, bI, cK, cH⟩
   ·exact .inl h
   ·exact .inr ⟨b, o, cap, eu, sz, af, ag, aF, a_, bI, cK.frame (bG _ ag), bf.frame bG xs _ _ (fun _ h => h.elim) cH⟩
 | .au sz xs, cs, S, bX, h => by
   rw [ay] at h ⊢
   rcases h with h | ⟨b, cap, cur, e, fr, aR, af, ag, aF, a_, bI, cK, cH, fC, hq, h6, mb⟩
   ·exact .inl h
   ·exact .inr ⟨b, cap, cur, e, fr, aR, af, ag, (bX _ ag).trans aF, a_, bI, cK, cH, fC, bf.frame bG xs _ _ (fun c ao => bX _ (h6 _ ao)) hq, h6, mb⟩
 | .ref d, cs, S, bX, h => by
   rw [ay] at h ⊢
   obtain ⟨b, o, eu, af, ag, aF, a_⟩ := h
   exact ⟨b, o, eu, af, ag, aF.frame (bG _ ag), ay.frame bG d _ _ (fun _ h => h.elim) a_⟩
 | .aU d, cs, S, bX, h => by
   rw [ay] at h ⊢
   obtain ⟨b, cur, e, fr, aR, af, ag, aF, a_, bI, cK, cH⟩ := h
   exact ⟨b, cur, e, fr, aR, af, ag, (bX _ ag).trans aF, a_, ay.frame bG d _ _ (fun c ao => bX _ (cK _ ao)) bI, cK, cH⟩
 | .agg ax, cs, S, bX, h => by rw [ay] at h ⊢; exact bf.frame bG ax _ _ bX h
 | .tuple ax, cs, S, bX, h => by rw [ay] at h ⊢; exact bf.frame bG ax _ _ bX h
 | .fn _ caps, cs, S, bX, h => by
   rw [ay] at h ⊢
   obtain ⟨arr, af, ag, aF⟩ := h
   exact ⟨arr, af, ag, bf.frame bG caps _ _ (fun _ h => h.elim) aF⟩
 | .h _ _, _, _, _, h => h
 | .aw _ _, _, _, _, h => h
 | .aa _ _, _, _, _, h => h
 | .ct _, _, _, bX, h => ma.frame bX h
theorem bf.frame {w aL : World} {F : Nat → Prop} (bG : ∀ b, F b → aL.heap[b]? = w.heap[b]?) :
  ∀ (ds : List I) (cs : List Value) (S : Nat → Prop), (∀ b, S b → aL.heap[b]? = w.heap[b]?) → bf w F ds cs S → bf aL F ds cs S
 | [], _, _, _, h => h
 | d :: ds, cs, S, bX, h => by
   rw [bf] at h ⊢
   obtain ⟨cv, cw, cc, dB, af, ag, aF, a_, bI, cK⟩ := h
   exact ⟨cv, cw, cc, dB, af, ay.frame bG d _ _ (fun b aa => bX _ (a_ _ aa)) ag, bf.frame bG ds _ _ (fun b aa => bX _ (bI _ aa)) aF, a_, bI, cK⟩
end
mutual
theorem ay.mono {w : World} {F bQ : Nat → Prop} (bG : ∀ b, F b → bQ b) :
  ∀ (d : I) (cs : List Value) (S aR : Nat → Prop), (∀ b, S b → aR b) → ay w F d cs S → ay w bQ d cs aR
 | .hole, _, _, _, _, h => h
 | .bool _, _, _, _, _, h => h
 | .eT, _, _, _, _, h => h
 | .int _ _, _, _, _, _, h => h
 | .str _, _, _, _, _, h => h
 | .da, _, _, _, _, h => h
 | .bo, _, _, _, _, h => h
 | .slice xs, cs, S, _, bX, h => by
   rw [ay] at h ⊢
   rcases h with h | ⟨b, o, cap, eu, sz, af, ag, aF, a_, bI, cK, cH⟩
   ·exact .inl h
   ·exact .inr ⟨b, o, cap, eu, sz, af, bG _ ag, aF, a_, bI, cK, bf.mono bG xs _ _ _ (fun _ h => h) cH⟩
 | .au sz xs, cs, S, _, bX, h => by
   rw [ay] at h ⊢
   rcases h with h | ⟨b, cap, cur, e, fr, aR, af, ag, aF, a_, bI, cK, cH, fC, hq, h6, mb⟩
   ·exact .inl h
   ·exact .inr ⟨b, cap, cur, e, fr, aR, af, bX _ ag, aF, a_, bI, cK, cH, fC, bf.mono bG xs _ _ _ (fun _ h => h) hq, fun c ao => bX _ (h6 _ ao), mb⟩
 | .ref d, cs, S, _, bX, h => by
   rw [ay] at h ⊢
   obtain ⟨b, o, eu, af, ag, aF, a_⟩ := h
   exact ⟨b, o, eu, af, bG _ ag, aF, ay.mono bG d _ _ _ (fun _ h => h) a_⟩
 | .aU d, cs, S, _, bX, h => by
   rw [ay] at h ⊢
   obtain ⟨b, cur, e, fr, aR, af, ag, aF, a_, bI, cK, cH⟩ := h
   exact ⟨b, cur, e, fr, aR, af, bX _ ag, aF, a_, ay.mono bG d _ _ _ (fun _ h => h) bI, fun c ao => bX _ (cK _ ao), cH⟩
 | .agg ax, cs, S, _, bX, h => by rw [ay] at h ⊢; exact bf.mono bG ax _ _ _ bX h
 | .tuple ax, cs, S, _, bX, h => by rw [ay] at h ⊢; exact bf.mono bG ax _ _ _ bX h
 | .fn _ caps, cs, S, _, bX, h => by
   rw [ay] at h ⊢
   obtain ⟨arr, af, ag, aF⟩ := h
   exact ⟨arr, af, ag, bf.mono bG caps _ _ _ (fun _ h => h) aF⟩
 | .h _ _, _, _, _, _, h => h
 | .aw _ _, _, _, _, _, h => h
 | .aa _ _, _, _, _, _, h => h
 | .ct _, _, _, _, bX, h => ma.mono bX h
theorem bf.mono {w : World} {F bQ : Nat → Prop} (bG : ∀ b, F b → bQ b) :
  ∀ (ds : List I) (cs : List Value) (S aR : Nat → Prop), (∀ b, S b → aR b) → bf w F ds cs S → bf w bQ ds cs aR
 | [], _, _, _, _, h => h
 | d :: ds, cs, S, _, bX, h => by
   rw [bf] at h ⊢
   obtain ⟨cv, cw, cc, dB, af, ag, aF, a_, bI, cK⟩ := h
   exact ⟨cv, cw, cc, dB, af, ay.mono bG d _ _ _ (fun _ h => h) ag, bf.mono bG ds _ _ _ (fun _ h => h) aF, fun b aa => bX _ (a_ _ aa), fun b aa => bX _ (bI _ aa), cK⟩
end
mutual
theorem ay.length {w : World} {F : Nat → Prop} : ∀ (d : I) (cs : List Value) (S : Nat → Prop), ay w F d cs S → cs.length = d.wd
 | .hole, cs, S, h => by rw [ay] at h; obtain ⟨v, _, rfl⟩ := h; rfl
 | .bool _, cs, S, h => by rw [ay] at h; subst h; rfl
 | .eT, cs, S, h => by rw [ay] at h; obtain ⟨b, rfl⟩ := h; rfl
 | .int _ _, cs, S, h => by rw [ay] at h; subst h; rfl
 | .str _, cs, S, h => by rw [ay] at h; subst h; rfl
 | .da, cs, S, h => by rw [ay] at h; subst h; rfl
 | .bo, cs, S, h => by rw [ay] at h; subst h; rfl
 | .slice xs, cs, S, h => by
   rw [ay] at h
   rcases h with ⟨_, a, c, rfl, _⟩ | ⟨b, o, cap, eu, sz, rfl, _⟩ <;> rfl
 | .au sz xs, cs, S, h => by
   rw [ay] at h
   rcases h with ⟨_, a, rfl⟩ | ⟨b, cap, cur, e, fr, aR, rfl, _⟩ <;> rfl
 | .ref d, cs, S, h => by rw [ay] at h; obtain ⟨b, o, eu, rfl, _⟩ := h; rfl
 | .aU d, cs, S, h => by rw [ay] at h; obtain ⟨b, o, eu, _, _, rfl, _⟩ := h; rfl
 | .agg ax, cs, S, h => by rw [ay] at h; exact bf.length ax _ _ h
 | .tuple ax, cs, S, h => by rw [ay] at h; exact bf.length ax _ _ h
 | .fn _ _, cs, S, h => by rw [ay] at h; obtain ⟨arr, rfl, _⟩ := h; rfl
 | .h _ _, cs, S, h => by rw [ay] at h; exact h.elim
 | .aw _ _, cs, S, h => by rw [ay] at h; exact h.elim
 | .aa _ _, cs, S, h => by rw [ay] at h; exact h.elim
 | .ct _, cs, S, h => by rw [ay] at h; obtain ⟨v, _, rfl⟩ := ma.one h; rfl
theorem bf.length {w : World} {F : Nat → Prop} : ∀ (ds : List I) (cs : List Value) (S : Nat → Prop), bf w F ds cs S → cs.length = I.ee ds
 | [], cs, S, h => by rw [bf] at h; subst h; rfl
 | d :: ds, cs, S, h => by
   rw [bf] at h
   obtain ⟨cv, cw, cc, dB, rfl, ag, aF, _⟩ := h
   rw [List.length_append, ay.length d _ _ ag, bf.length ds _ _ aF, I.ee]
end
mutual
def I.share : I → I
 | .au _ xs => .slice (I.shares xs)
 | .aU d => .ref d.share
 | .slice xs => .slice (I.shares xs)
 | .ref d => .ref d.share
 | .agg ax => .agg (I.shares ax)
 | .tuple ax => .tuple (I.shares ax)
 | .ct _ => .hole
 | d => d
def I.shares : List I → List I
 | [] => []
 | d :: ds => d.share :: I.shares ds
end
theorem I.rX (ds : List I) : I.shares ds = ds.map I.share := by
 induction ds with
 | nil => rfl
 | cons d ds ih => simp [I.shares, ih]
mutual
theorem I.AQ : ∀ d : I, d.share.wd = d.wd
 | .hole => rfl
 | .bool _ => rfl
 | .eT => rfl
 | .int _ _ => rfl
 | .str _ => rfl
 | .da => rfl
 | .bo => rfl
 | .slice _ => rfl
 | .au _ _ => rfl
 | .ref _ => rfl
 | .aU _ => rfl
 | .agg ax => by simp only [I.share, I.wd]; exact I.EW ax
 | .tuple ax => by simp only [I.share, I.wd]; exact I.EW ax
 | .fn _ _ => rfl
 | .h _ _ => rfl
 | .aw _ _ => rfl
 | .aa _ _ => rfl
 | .ct _ => rfl
theorem I.EW : ∀ ds : List I, I.ee (I.shares ds) = I.ee ds
 | [] => rfl
 | d :: ds => by simp only [I.shares, I.ee]; rw [I.AQ d, I.EW ds]
end
theorem vk {w : World} {b : Nat} {cur : Array Value} {e : TypeId} {fr : Nat × Nat} (h : w.heap[b]? = some (.cells cur e fr)) (n : Nat) : h5 w b 0 (cur.toList.take n) := by
 intro j c ao
 rw [List.getElem?_take] at ao
 split at ao
 ·simp [World.cell?, h]; simpa using ao
 ·cases ao
mutual
theorem ay.shared {w : World} {F bQ : Nat → Prop} (bG : ∀ b, F b → bQ b) :
  ∀ (d : I) (cs : List Value) (S : Nat → Prop), (∀ b, S b → bQ b) → ay w F d cs S → ay w bQ d.share cs (fun _ => False)
 | .hole, _, _, _, h => h
 | .bool _, _, _, _, h => h
 | .eT, _, _, _, h => h
 | .int _ _, _, _, _, h => h
 | .str _, _, _, _, h => h
 | .da, _, _, _, h => h
 | .bo, _, _, _, h => h
 | .slice xs, cs, S, bX, h => by
   rw [I.share, ay]
   rw [ay] at h
   rcases h with ⟨rfl, a, c, rfl, ao⟩ | ⟨b, o, cap, eu, sz, af, ag, aF, a_, bI, cK, cH⟩
   ·exact .inl ⟨rfl, a, c, rfl, ao⟩
   ·refine .inr ⟨b, o, cap, eu, sz, ?_, bG _ ag, ?_, a_, ?_, cK, bf.shared bG xs _ _ (fun _ h => h.elim) cH⟩
    ·simpa [I.rX] using af
    ·simpa [I.rX] using aF
    ·intro d ai
     rw [I.rX] at ai
     obtain ⟨bx, hF, rfl⟩ := List.mem_map.1 ai
     rw [I.AQ]; exact bI _ hF
 | .au sz xs, cs, S, bX, h => by
   rw [I.share, ay]
   rw [ay] at h
   rcases h with ⟨rfl, a, rfl⟩ | ⟨b, cap, cur, e, fr, aR, af, ag, aF, a_, bI, cK, cH, fC, hq, h6, mb⟩
   ·exact .inl ⟨rfl, a, 0, rfl, Nat.zero_le _, fun _ => rfl⟩
   ·refine .inr ⟨b, 0, cap, _, sz, ?_, bX _ ag, ?_, cK, ?_, vk aF _, bf.shared bG xs _ _ (fun c ao => bX _ (h6 _ ao)) hq⟩
    ·simpa [I.rX] using af
    ·simpa [I.rX] using bI
    ·intro d ai
     rw [I.rX] at ai
     obtain ⟨bx, hF, rfl⟩ := List.mem_map.1 ai
     rw [I.AQ]; exact fC _ hF
 | .ref d, cs, S, bX, h => by
   rw [I.share, ay]
   rw [ay] at h
   obtain ⟨b, o, eu, af, ag, aF, a_⟩ := h
   exact ⟨b, o, eu, af, bG _ ag, aF, ay.shared bG d _ _ (fun _ h => h.elim) a_⟩
 | .aU d, cs, S, bX, h => by
   rw [I.share, ay]
   rw [ay] at h
   obtain ⟨b, cur, e, fr, aR, af, ag, aF, a_, bI, cK, cH⟩ := h
   refine ⟨b, 0, cur.toList, af, bX _ ag, ?_, ay.shared bG d _ _ (fun c ao => bX _ (cK _ ao)) bI⟩
   have := vk aF cur.toList.length
   rwa [List.take_length] at this
 | .agg ax, cs, S, bX, h => by rw [I.share, ay]; rw [ay] at h; exact bf.shared bG ax _ _ bX h
 | .tuple ax, cs, S, bX, h => by rw [I.share, ay]; rw [ay] at h; exact bf.shared bG ax _ _ bX h
 | .fn f caps, cs, S, bX, h => by
   show ay w bQ (.fn f caps) cs _
   rw [ay] at h ⊢
   obtain ⟨arr, af, ag, aF⟩ := h
   exact ⟨arr, af, ag, bf.mono bG caps _ _ _ (fun _ h => h) aF⟩
 | .h _ _, _, _, _, h => h
 | .aw _ _, _, _, _, h => h
 | .aa _ _, _, _, _, h => h
 | .ct _, cs, S, bX, h => by rw [ay] at h; rw [I.share, ay]; exact ma.one h
theorem bf.shared {w : World} {F bQ : Nat → Prop} (bG : ∀ b, F b → bQ b) :
  ∀ (ds : List I) (cs : List Value) (S : Nat → Prop), (∀ b, S b → bQ b) → bf w F ds cs S → bf w bQ (I.shares ds) cs (fun _ => False)
 | [], _, _, _, h => h
 | d :: ds, cs, S, bX, h => by
   simp only [I.shares]
   rw [bf] at h ⊢
   obtain ⟨cv, cw, cc, dB, af, ag, aF, a_, bI, cK⟩ := h
   exact ⟨cv, cw, _, _, af, ay.shared bG d _ _ (fun b aa => bX _ (a_ _ aa)) ag, bf.shared bG ds _ _ (fun b aa => bX _ (bI _ aa)) aF, fun _ h => h, fun _ h => h, fun _ h => h.elim⟩
end
def I.sub : List Nat → I → Option I
 | [], d => some d
 | k :: q, .agg ax => match ax[k]? with
   | some d => I.sub q d
   | none => none
 | k :: q, .tuple ax => match ax[k]? with
   | some d => I.sub q d
   | none => none
 | i :: q, .au _ xs => match xs[i]? with
   | some d => I.sub q d
   | none => none
 | 0 :: q, .aU d => I.sub q d
 | _ :: _, _ => none
def I.put : List Nat → I → I → I
 | [], n, _ => n
 | k :: q, n, .agg ax => match ax[k]? with
   | some d => .agg (ax.set k (I.put q n d))
   | none => .agg ax
 | k :: q, n, .tuple ax => match ax[k]? with
   | some d => .tuple (ax.set k (I.put q n d))
   | none => .tuple ax
 | i :: q, n, .au sz xs => match xs[i]? with
   | some d => .au sz (xs.set i (I.put q n d))
   | none => .au sz xs
 | 0 :: q, n, .aU d => .aU (I.put q n d)
 | _ :: _, _, d => d
def nB (w : World) (b o n : Nat) : List Value := (List.range n).map fun j => (w.cell? ⟨b, o + j, none⟩).getD undef
theorem h5.nB {w : World} {b o : Nat} {cs : List Value} (h : h5 w b o cs) : nB w b o cs.length = cs := by
 unfold cY.nB
 apply List.ext_getElem?
 intro i
 rw [List.getElem?_map]
 by_cases an : i < cs.length
 ·have : cs[i]? = some cs[i] := List.getElem?_eq_getElem an
  simp [an, h i _ this]
 ·simp [an]
def dn (w : World) : List Nat → I → List Value → Option (Nat × Nat) → Option (I × List Value × Option (Nat × Nat))
 | [], d, cs, a => some (d, cs, a)
 | k :: q, .agg ax, cs, a => match ax[k]? with
   | some d => dn w q d ((cs.drop (I.ee (ax.take k))).take d.wd) (a.map fun l => (l.1, l.2 + I.ee (ax.take k)))
   | none => none
 | k :: q, .tuple ax, cs, a => match ax[k]? with
   | some d => dn w q d ((cs.drop (I.ee (ax.take k))).take d.wd) (a.map fun l => (l.1, l.2 + I.ee (ax.take k)))
   | none => none
 | i :: q, .au sz xs, cs, _ => match xs[i]?, cs with
   | some d, [.slice (some ⟨b, _, _⟩) _ _] => dn w q d (nB w b (i * sz) sz) (some (b, i * sz))
   | _, _ => none
 | 0 :: q, .aU d, cs, _ => match cs with
   | [.pointer (some ⟨b, _, _⟩)] => dn w q d (nB w b 0 d.wd) (some (b, 0))
   | _ => none
 | _ :: _, _, _, _ => none
theorem ta (cv gn cw : List Value) (n m : Nat) (af : cv.length = n) (ag : gn.length = m) : ((cv ++ (gn ++ cw)).drop n).take m = gn := by
 rw [List.drop_left' af, List.take_left' ag]
theorem bf.pick {w : World} {F : Nat → Prop} : ∀ (ds : List I) (cs : List Value) (S : Nat → Prop) (k : Nat) (d : I),
  bf w F ds cs S → ds[k]? = some d → ∃ (cv gn cw : List Value) (cc h7 : Nat → Prop), cs = cv ++ (gn ++ cw) ∧ cv.length = I.ee (ds.take k) ∧
   (∀ b, cc b → S b) ∧ (∀ b, h7 b → S b) ∧ (∀ b, cc b → ¬ h7 b) ∧ ay w F d gn h7 ∧
   ∀ (aL : World) (bx : I) (tb : List Value) (aR : Nat → Prop), (∀ b, F b → aL.heap[b]? = w.heap[b]?) → (∀ b, cc b → aL.heap[b]? = w.heap[b]?) →
     ay aL F bx tb aR → (∀ b, aR b → ¬ cc b) → bf aL F (ds.set k bx) (cv ++ (tb ++ cw)) (fun b => cc b ∨ aR b)
 | [], _, _, _, _, _, ar => by simp at ar
 | x :: ds, cs, S, 0, d, h, ar => by
   rw [bf] at h
   obtain ⟨cv, cw, hV, hi, rfl, af, ag, bF, aa, jd⟩ := h
   simp at ar; subst ar
   refine ⟨[], cv, cw, hi, hV, rfl, rfl, aa, bF, fun b aa bF => jd _ bF aa, af, ?_⟩
   intro aL bx tb aR bG bX ai jB
   simp only [List.set_cons_zero, List.nil_append]
   rw [bf]
   exact ⟨tb, cw, aR, hi, rfl, ai, bf.frame bG _ _ _ bX ag, fun b h => .inr h, fun b h => .inl h, fun b h => jB b h⟩
 | x :: ds, cs, S, k + 1, d, h, ar => by
   rw [bf] at h
   obtain ⟨pa, RL, hV, hi, rfl, af, ag, bF, aa, jd⟩ := h
   simp only [List.getElem?_cons_succ] at ar
   have hl := ay.length _ _ _ af
   obtain ⟨cv, gn, cw, cc, h7, rfl, i0, rW, i2, i3, i5, EX⟩ := bf.pick ds RL hi k d ag ar
   refine ⟨pa ++ cv, gn, cw, fun b => hV b ∨ cc b, h7, by simp, by simp [I.ee, hl, i0], ?_, fun b h => aa _ (i2 _ h), ?_, i5, ?_⟩
   ·rintro b (h | h)
    ·exact bF _ h
    ·exact aa _ (rW _ h)
   ·rintro b (h | h) ar
    ·exact jd _ h (i2 _ ar)
    ·exact i3 _ h ar
   ·intro aL bx tb aR bG bX ai jB
    simp only [List.set_cons_succ]
    rw [bf]
    refine ⟨pa, cv ++ (tb ++ cw), hV, fun b => cc b ∨ aR b, by simp, ay.frame bG _ _ _ (fun b aa => bX b (.inl aa)) af,
     EX aL bx tb aR bG (fun b aa => bX b (.inr aa)) ai (fun b aa ao => jB b aa (.inr ao)), fun b h => .inl (.inl h), ?_, ?_⟩
    ·rintro b (h | h)
     ·exact .inl (.inr h)
     ·exact .inr h
    ·rintro b h (bE | bE)
     ·exact jd _ h (rW _ bE)
     ·exact jB _ bE (.inl h)
theorem EY : ∀ (ax : List I) (k : Nat) (x y : I), ax[k]? = some x → y.wd = x.wd → I.ee (ax.set k y) = I.ee ax := by
 intro ax
 induction ax with
 | nil => intro k x y h; simp at h
 | cons a ax ih =>
   intro k x y h e
   cases k with
   | zero => simp at h; subst h; simp [I.ee, e]
   | succ k => simp at h; simp [I.ee, ih k x y h e]
theorem tc {sz : Nat} : ∀ (xs : List I), (∀ d ∈ xs, d.wd = sz) → I.ee xs = xs.length * sz
 | [], _ => by simp [I.ee]
 | x :: xs, h => by
   rw [I.ee, h x (by simp), tc xs (fun d ai => h d (by simp [ai])), List.length_cons, Nat.add_mul, Nat.one_mul, Nat.add_comm]
theorem I.vl : ∀ (q : List Nat) (av d bx : I), I.sub q av = some d → bx.wd = d.wd → (I.put q bx av).wd = av.wd := by
 intro q
 induction q with
 | nil => intro av d bx h e; simp [I.sub] at h; subst h; simpa [I.put] using e
 | cons k q ih =>
   intro av d bx h e
   cases av with
   | agg ax =>
     simp only [I.sub] at h
     split at h
     ·rename_i x aq
      simp only [I.put, aq, I.wd]
      exact EY _ _ _ _ aq (ih _ _ _ h e)
     ·cases h
   | tuple ax =>
     simp only [I.sub] at h
     split at h
     ·rename_i x aq
      simp only [I.put, aq, I.wd]
      exact EY _ _ _ _ aq (ih _ _ _ h e)
     ·cases h
   | au sz xs =>
     simp only [I.sub] at h
     split at h
     ·rename_i x aq
      simp only [I.put, aq, I.wd]
     ·cases h
   | aU x =>
     cases k with
     | zero => simp only [I.put, I.wd]
     | succ k => simp [I.sub] at h
   | _ => simp [I.sub] at h
theorem EZ {sz : Nat} {xs : List I} {i : Nat} {y : I} (h : ∀ d ∈ xs, d.wd = sz) (hy : y.wd = sz) : ∀ d ∈ xs.set i y, d.wd = sz := by
 intro d ai
 rcases List.mem_or_eq_of_mem_set ai with ai | rfl
 ·exact h d ai
 ·exact hy
theorem vm {w : World} {b : Nat} {cur : Array Value} {e : TypeId} {fr : Nat × Nat} (h : w.heap[b]? = some (.cells cur e fr)) {l m r : List Value} (ao : cur.toList = l ++ (m ++ r)) :
  nB w b l.length m.length = m := by
 refine h5.nB (fun j c bw => ?_)
 have dZ : j < m.length := (List.getElem?_eq_some_iff.1 bw).1
 have : cur.toList[l.length + j]? = some c := by
  rw [ao, List.getElem?_append_right (by omega), List.getElem?_append_left (by omega)]
  rw [← bw]; congr 1; omega
 simp [World.cell?, h]
 simpa using this
def Flat (w : World) (F : Nat → Prop) (q : List Nat) (av : I) (cs : List Value) (a : Option (Nat × Nat)) (d : I) (cM : List Value) (cN : Option (Nat × Nat)) (en : Nat → Prop) : Prop :=
 ∃ l r : List Value, cs = l ++ (cM ++ r) ∧ cN = a.map (fun x => (x.1, x.2 + l.length)) ∧
   ∀ (aL : World) (bx : I) (gp : List Value) (aR : Nat → Prop), (∀ b, F b → aL.heap[b]? = w.heap[b]?) → (∀ b, en b → aL.heap[b]? = w.heap[b]?) →
     bx.wd = d.wd → ay aL F bx gp aR → (∀ b, aR b → ¬ en b) → ay aL F (I.put q bx av) (l ++ (gp ++ r)) (fun b => en b ∨ aR b)
def Deep (w : World) (F : Nat → Prop) (q : List Nat) (av : I) (cs : List Value) (d : I) (cM : List Value) (cN : Option (Nat × Nat)) (en : Nat → Prop) : Prop :=
 ∃ (b : Nat) (cur : Array Value) (e : TypeId) (fr : Nat × Nat) (l r : List Value), cN = some (b, l.length) ∧ en b ∧ w.heap[b]? = some (.cells cur e fr) ∧ rV fr cur.size ∧ cur.toList = l ++ (cM ++ r) ∧
   ∀ (aL : World) (bx : I) (gp : List Value) (aR : Nat → Prop), (∀ b, F b → aL.heap[b]? = w.heap[b]?) → (∀ c, en c → c ≠ b → aL.heap[c]? = w.heap[c]?) →
     aL.heap[b]? = some (.cells (l ++ (gp ++ r)).toArray e fr) →
     bx.wd = d.wd → ay aL F bx gp aR → (∀ b, aR b → ¬ en b) → ay aL F (I.put q bx av) cs (fun b => en b ∨ aR b)
theorem ctx {w : World} {F : Nat → Prop} : ∀ (q : List Nat) (av : I) (cs : List Value) (S : Nat → Prop) (a : Option (Nat × Nat)) (d : I),
  ay w F av cs S → I.sub q av = some d → ∃ (cM : List Value) (cN : Option (Nat × Nat)) (en fq : Nat → Prop), dn w q av cs a = some (d, cM, cN) ∧
   (∀ b, en b → S b) ∧ (∀ b, fq b → S b) ∧ (∀ b, en b → ¬ fq b) ∧ ay w F d cM fq ∧ (Flat w F q av cs a d cM cN en ∨ Deep w F q av cs d cM cN en) := by
 intro q
 induction q with
 | nil =>
   intro av cs S a d h ai
   simp [I.sub] at ai; subst ai
   refine ⟨cs, a, fun _ => False, S, rfl, fun _ h => h.elim, fun _ h => h, fun _ h => h.elim, h, .inl ⟨[], [], by simp, ?_, ?_⟩⟩
   ·cases a <;> simp
   ·intro aL bx gp aR _ _ hw hF _
    simp only [I.put, List.nil_append, List.append_nil]
    exact ay.mono (fun _ h => h) _ _ _ _ (fun b h => .inr h) hF
 | cons k q ih =>
   have fields : ∀ (mk : List I → I) (E0 : ∀ (w : World) (F : Nat → Prop) (ax : List I) (cs : List Value) (S : Nat → Prop), ay w F (mk ax) cs S = bf w F ax cs S) (ax : List I) (cs : List Value) (S : Nat → Prop) (a : Option (Nat × Nat)) (x d : I),
     (kE : ∀ bx, I.put (k :: q) bx (mk ax) = mk (ax.set k (I.put q bx x))) → bf w F ax cs S → ax[k]? = some x → I.sub q x = some d →
     ∃ (cM : List Value) (cN : Option (Nat × Nat)) (en fq : Nat → Prop), dn w q x ((cs.drop (I.ee (ax.take k))).take x.wd) (a.map fun l => (l.1, l.2 + I.ee (ax.take k))) = some (d, cM, cN) ∧
     (∀ b, en b → S b) ∧ (∀ b, fq b → S b) ∧ (∀ b, en b → ¬ fq b) ∧ ay w F d cM fq ∧ (Flat w F (k :: q) (mk ax) cs a d cM cN en ∨ Deep w F (k :: q) (mk ax) cs d cM cN en) := by
    intro mk E0 ax cs S a x d kE h aq ai
    obtain ⟨cv, gn, cw, cc, h7, rfl, hW, fD, hr, h8, gz, my⟩ := bf.pick ax cs S k x h aq
    have hl := ay.length _ _ _ gz
    rw [ta cv gn cw _ _ hW hl]
    obtain ⟨cM, cN, en, fq, g0, g1, g2, g3, g4, g5⟩ := ih x _ h7 (a.map fun l => (l.1, l.2 + I.ee (ax.take k))) d gz ai
    refine ⟨cM, cN, fun b => cc b ∨ en b, fq, g0, ?_, fun b aa => hr _ (g2 _ aa), ?_, g4, ?_⟩
    ·rintro b (h | h)
     ·exact fD _ h
     ·exact hr _ (g1 _ h)
    ·rintro b (h | h) ai
     ·exact h8 _ h (g2 _ ai)
     ·exact g3 _ h ai
    ·have e6 : ∀ (b : Nat) (aR : Nat → Prop), (cc b ∨ en b ∨ aR b) → ((cc b ∨ en b) ∨ aR b) := by
      rintro b aR (aa | aa | aa)
      ·exact .inl (.inl aa)
      ·exact .inl (.inr aa)
      ·exact .inr aa
     rcases g5 with ⟨l, r, rfl, aZ, aT⟩ | ⟨b, cur, e, fr, l, r, aN, aZ, aT, b2, cI, bZ⟩
     ·refine .inl ⟨cv ++ l, r ++ cw, by simp, ?_, ?_⟩
      ·rw [aZ, ← hW]; cases a <;> simp [Nat.add_assoc]
      ·intro aL bx gp aR bG bX hw hF jB
       have dR := aT aL bx gp aR bG (fun b aa => bX b (.inr aa)) hw hF (fun b aa ao => jB b aa (.inr ao))
       have br := my aL _ _ _ bG (fun b aa => bX b (.inl aa)) dR (by
        rintro b (aa | aa) af
        ·exact h8 _ af (g1 _ aa)
        ·exact jB _ aa (.inl af))
       rw [kE, E0]
       have := bf.mono (fun _ h => h) _ _ _ _ (fun b => e6 b aR) br
       simpa using this
     ·refine .inr ⟨b, cur, e, fr, l, r, aN, .inr aZ, aT, b2, cI, ?_⟩
      intro aL bx gp aR bG bX mz hw hF jB
      have dR := bZ aL bx gp aR bG (fun c ao => bX c (.inr ao)) mz hw hF (fun b aa ao => jB b aa (.inr ao))
      have br := my aL _ _ _ bG (fun c ao => bX c (.inl ao) (by rintro rfl; exact h8 _ ao (g1 _ aZ))) dR (by
        rintro b (aa | aa) af
        ·exact h8 _ af (g1 _ aa)
        ·exact jB _ aa (.inl af))
      rw [kE, E0]
      exact bf.mono (fun _ h => h) _ _ _ _ (fun b => e6 b aR) br
   intro av cs S a d h ai
   cases av with
   | agg ax =>
     simp only [I.sub] at ai
     split at ai
     ·rename_i x aq
      rw [ay] at h
      have := fields .agg (fun _ _ _ _ _ => by rw [ay]) ax cs S a x d (fun bx => by simp only [I.put, aq]) h aq ai
      simpa only [dn, aq] using this
     ·cases ai
   | tuple ax =>
     simp only [I.sub] at ai
     split at ai
     ·rename_i x aq
      rw [ay] at h
      have := fields .tuple (fun _ _ _ _ _ => by rw [ay]) ax cs S a x d (fun bx => by simp only [I.put, aq]) h aq ai
      simpa only [dn, aq] using this
     ·cases ai
   | au sz xs =>
     simp only [I.sub] at ai
     split at ai
     ·rename_i x aq
      rw [ay] at h
      rcases h with ⟨rfl, _, rfl⟩ | ⟨b, cap, cur, e, fr, dS, rfl, ag, aF, a_, bI, cK, cH, fC, hq, h6, mb⟩
      ·simp at aq
      ·obtain ⟨cv, gn, cw, cc, h7, p, hW, fD, hr, h8, gz, my⟩ := bf.pick xs _ dS k x hq aq
       have hl := ay.length _ _ _ gz
       have RM : k < xs.length := (List.getElem?_eq_some_iff.1 aq).1
       have xO : x.wd = sz := fC x (List.mem_of_getElem? aq)
       have bJ : I.ee (xs.take k) = k * sz := by
        rw [tc _ (fun d ai => fC d (List.mem_of_mem_take ai))]
        rw [List.length_take, Nat.min_eq_left (by omega)]
       obtain ⟨q0, lN⟩ : ∃ q0, cur.toList = cv ++ (gn ++ (cw ++ q0)) := by
        refine ⟨cur.toList.drop (xs.length * sz), ?_⟩
        have := (List.take_append_drop (xs.length * sz) cur.toList).symm
        rw [p] at this
        simpa using this
       have kn : nB w b (k * sz) sz = gn := by
        have := vm aF lN
        rwa [hW, bJ, hl, xO] at this
       obtain ⟨cM, cN, en, fq, g0, g1, g2, g3, g4, g5⟩ := ih x _ h7 (some (b, k * sz)) d gz ai
       have kE : ∀ bx, I.put (k :: q) bx (.au sz xs) = .au sz (xs.set k (I.put q bx x)) := fun bx => by simp only [I.put, aq]
       refine ⟨cM, cN, fun c => c = b ∨ cc c ∨ en c, fq, ?_, ?_, fun c ao => h6 _ (hr _ (g2 _ ao)), ?_, g4, .inr ?_⟩
       ·simp only [dn, aq, kn]; exact g0
       ·rintro c (rfl | h | h)
        ·exact ag
        ·exact h6 _ (fD _ h)
        ·exact h6 _ (hr _ (g1 _ h))
       ·rintro c (rfl | h | h) ai
        ·exact mb (hr _ (g2 _ ai))
        ·exact h8 _ h (g2 _ ai)
        ·exact g3 _ h ai
       ·have k1 : ∀ bx, bx.wd = d.wd → (I.put q bx x).wd = sz := fun bx hw => (I.vl q x d bx ai hw).trans xO
        rcases g5 with ⟨l, r, rfl, aZ, aT⟩ | ⟨fX, E1, gA, E2, l, r, aN, aZ, aT, b2, cI, bZ⟩
        ·refine ⟨b, cur, e, fr, cv ++ l, r ++ (cw ++ q0), ?_, .inl rfl, aF, a_, ?_, ?_⟩
         ·rw [aZ]; simp [hW, bJ]
         ·rw [lN]; simp
         ·intro aL bx gp aR bG bX mz hw hF jB
          have dR := aT aL bx gp aR bG (fun c ao => bX c (.inr (.inr ao)) (by rintro rfl; exact mb (hr _ (g1 _ ao)))) hw hF (fun b aa ao => jB b aa (.inr (.inr ao)))
          have br := my aL _ _ _ bG (fun c ao => bX c (.inr (.inl ao)) (by rintro rfl; exact mb (fD _ ao))) dR (by
           rintro b (aa | aa) af
           ·exact h8 _ af (g1 _ aa)
           ·exact jB _ aa (.inr (.inl af)))
          have xP := ay.length _ _ _ hF
          have xQ := ay.length _ _ _ g4
          rw [kE, ay]
          refine .inr ⟨b, cap, _, e, fr, fun b => cc b ∨ en b ∨ aR b, by simp, .inl (.inl rfl), mz, ?_, by simpa using bI, cK, ?_, EZ fC (k1 bx hw), ?_, ?_, ?_⟩
          ·have : (cv ++ l ++ (gp ++ (r ++ (cw ++ q0)))).toArray.size = cur.size := by
            have : cur.size = cur.toList.length := by simp
            rw [this, lN]; simp [xP, xQ, hw]
           rw [this]; exact a_
          ·rw [← cH]
           have : cur.size = cur.toList.length := by simp
           rw [this, lN]; simp [xP, xQ, hw]
          ·have hlen : (cv ++ (l ++ (gp ++ r) ++ cw)).length = xs.length * sz := by
            have := congrArg List.length p
            rw [List.length_take, Nat.min_eq_left (by simp [cH]; exact Nat.mul_le_mul_right _ bI)] at this
            rw [this]; simp [xP, xQ, hw]
           have : (cv ++ l ++ (gp ++ (r ++ (cw ++ q0)))) = (cv ++ (l ++ (gp ++ r) ++ cw)) ++ q0 := by simp
           rw [List.length_set]
           simp only [this]
           rw [List.take_left' hlen]
           exact br
          ·rintro c (h | h | h)
           ·exact .inl (.inr (.inl h))
           ·exact .inl (.inr (.inr h))
           ·exact .inr h
          ·rintro (h | h | h)
           ·exact mb (fD _ h)
           ·exact mb (hr _ (g1 _ h))
           ·exact jB _ h (.inl rfl)
        ·refine ⟨fX, E1, gA, E2, l, r, aN, .inr (.inr aZ), aT, b2, cI, ?_⟩
         intro aL bx gp aR bG bX mz hw hF jB
         have dR := bZ aL bx gp aR bG (fun c ao dC => bX c (.inr (.inr ao)) dC) mz hw hF (fun b aa ao => jB b aa (.inr (.inr ao)))
         have dC : ∀ c, cc c → c ≠ fX := by rintro c ao rfl; exact h8 _ ao (g1 _ aZ)
         have br := my aL _ _ _ bG (fun c ao => bX c (.inr (.inl ao)) (dC c ao)) dR (by
          rintro b (aa | aa) af
          ·exact h8 _ af (g1 _ aa)
          ·exact jB _ aa (.inr (.inl af)))
         have E3 : b ≠ fX := by rintro rfl; exact mb (hr _ (g1 _ aZ))
         rw [kE, ay]
         refine .inr ⟨b, cap, cur, e, fr, fun b => cc b ∨ en b ∨ aR b, by simp, .inl (.inl rfl), (bX b (.inl rfl) E3).trans aF, a_, by simpa using bI, cK, cH, EZ fC (k1 bx hw), ?_, ?_, ?_⟩
         ·rw [List.length_set, p]; exact br
         ·rintro c (h | h | h)
          ·exact .inl (.inr (.inl h))
          ·exact .inl (.inr (.inr h))
          ·exact .inr h
         ·rintro (h | h | h)
          ·exact mb (fD _ h)
          ·exact mb (hr _ (g1 _ h))
          ·exact jB _ h (.inl rfl)
     ·cases ai
   | aU x =>
     cases k with
     | succ k => simp [I.sub] at ai
     | zero =>
       simp only [I.sub] at ai
       rw [ay] at h
       obtain ⟨b, cur, e, fr, dS, rfl, ag, aF, a_, bI, cK, cH⟩ := h
       have hl := ay.length _ _ _ bI
       have kn : nB w b 0 x.wd = cur.toList := by
        have := vm (l := []) (m := cur.toList) (r := []) aF (by simp)
        rwa [hl] at this
       obtain ⟨cM, cN, en, fq, g0, g1, g2, g3, g4, g5⟩ := ih x _ dS (some (b, 0)) d bI ai
       have kE : ∀ bx, I.put (0 :: q) bx (.aU x) = .aU (I.put q bx x) := fun bx => rfl
       refine ⟨cM, cN, fun c => c = b ∨ en c, fq, ?_, ?_, fun c ao => cK _ (g2 _ ao), ?_, g4, .inr ?_⟩
       ·simp only [dn, kn]; exact g0
       ·rintro c (rfl | h)
        ·exact ag
        ·exact cK _ (g1 _ h)
       ·rintro c (rfl | h) ai
        ·exact cH (g2 _ ai)
        ·exact g3 _ h ai
       ·rcases g5 with ⟨l, r, aN, aZ, aT⟩ | ⟨fX, E1, gA, E2, l, r, aN, aZ, aT, b2, cI, bZ⟩
        ·refine ⟨b, cur, e, fr, l, r, ?_, .inl rfl, aF, a_, aN, ?_⟩
         ·rw [aZ]; simp
         ·intro aL bx gp aR bG bX mz hw hF jB
          have dR := aT aL bx gp aR bG (fun c ao => bX c (.inr ao) (by rintro rfl; exact cH (g1 _ ao))) hw hF (fun b aa ao => jB b aa (.inr ao))
          have xP := ay.length _ _ _ hF
          have xQ := ay.length _ _ _ g4
          rw [kE, ay]
          refine ⟨b, _, e, fr, fun b => en b ∨ aR b, rfl, .inl (.inl rfl), mz, ?_, dR, ?_, ?_⟩
          ·have : (l ++ (gp ++ r)).toArray.size = cur.size := by
            have : cur.size = cur.toList.length := by simp
            rw [this, aN]; simp [xP, xQ, hw]
           rw [this]; exact a_
          ·rintro c (h | h)
           ·exact .inl (.inr h)
           ·exact .inr h
          ·rintro (h | h)
           ·exact cH (g1 _ h)
           ·exact jB _ h (.inl rfl)
        ·refine ⟨fX, E1, gA, E2, l, r, aN, .inr aZ, aT, b2, cI, ?_⟩
         intro aL bx gp aR bG bX mz hw hF jB
         have dR := bZ aL bx gp aR bG (fun c ao dC => bX c (.inr ao) dC) mz hw hF (fun b aa ao => jB b aa (.inr ao))
         have E3 : b ≠ fX := by rintro rfl; exact cH (g1 _ aZ)
         rw [kE, ay]
         refine ⟨b, cur, e, fr, fun b => en b ∨ aR b, rfl, .inl (.inl rfl), (bX b (.inl rfl) E3).trans aF, a_, dR, ?_, ?_⟩
         ·rintro c (h | h)
          ·exact .inl (.inr h)
          ·exact .inr h
         ·rintro (h | h)
          ·exact cH (g1 _ h)
          ·exact jB _ h (.inl rfl)
   | _ => simp [I.sub] at ai
mutual
def I.plain : I → Bool
 | .au _ _ => false
 | .aU _ => false
 | .ct _ => false
 | .agg ax => I.e1 ax
 | .tuple ax => I.e1 ax
 | _ => true
def I.e1 : List I → Bool
 | [] => true
 | d :: ds => d.plain && I.e1 ds
end
mutual
def I.c7 : I → I
 | .au _ _ => .hole
 | .aU _ => .hole
 | .ct _ => .hole
 | .agg ax => .agg (I.lO ax)
 | .tuple ax => .tuple (I.lO ax)
 | d => d
def I.lO : List I → List I
 | [] => []
 | d :: ds => d.c7 :: I.lO ds
end
mutual
theorem I.rY : ∀ d : I, d.c7.wd = d.wd
 | .hole => rfl
 | .bool _ => rfl
 | .eT => rfl
 | .int _ _ => rfl
 | .str _ => rfl
 | .da => rfl
 | .bo => rfl
 | .slice _ => rfl
 | .au _ _ => rfl
 | .ref _ => rfl
 | .aU _ => rfl
 | .agg ax => by simp only [I.c7, I.wd]; exact I.E4 ax
 | .tuple ax => by simp only [I.c7, I.wd]; exact I.E4 ax
 | .fn _ _ => rfl
 | .h _ _ => rfl
 | .aw _ _ => rfl
 | .aa _ _ => rfl
 | .ct _ => rfl
theorem I.E4 : ∀ ds : List I, I.ee (I.lO ds) = I.ee ds
 | [] => rfl
 | d :: ds => by simp only [I.lO, I.ee]; rw [I.rY d, I.E4 ds]
end
mutual
theorem ay.c7 {w : World} {F : Nat → Prop} : ∀ (d : I) (cs : List Value) (S aR : Nat → Prop), ay w F d cs S → ay w F d.c7 cs aR
 | .hole, _, _, _, h => h
 | .bool _, _, _, _, h => h
 | .eT, _, _, _, h => h
 | .int _ _, _, _, _, h => h
 | .str _, _, _, _, h => h
 | .da, _, _, _, h => h
 | .bo, _, _, _, h => h
 | .slice xs, cs, S, aR, h => by
   show ay w F (.slice xs) cs aR
   rw [ay] at h ⊢; exact h
 | .au sz xs, cs, S, aR, h => by
   rw [I.c7, ay]
   rw [ay] at h
   rcases h with ⟨_, _, rfl⟩ | ⟨b, cap, cur, e, fr, dS, rfl, _⟩
   ·exact ⟨_, rfl, rfl⟩
   ·exact ⟨_, rfl, rfl⟩
 | .ref d, cs, S, aR, h => by
   show ay w F (.ref d) cs aR
   rw [ay] at h ⊢; exact h
 | .aU d, cs, S, aR, h => by
   rw [I.c7, ay]
   rw [ay] at h
   obtain ⟨b, cur, e, fr, dS, rfl, _⟩ := h
   exact ⟨_, rfl, rfl⟩
 | .agg ax, cs, S, aR, h => by rw [I.c7, ay]; rw [ay] at h; exact bf.c7 ax _ _ _ h
 | .tuple ax, cs, S, aR, h => by rw [I.c7, ay]; rw [ay] at h; exact bf.c7 ax _ _ _ h
 | .fn _ _, _, _, _, h => h
 | .h _ _, _, _, _, h => h
 | .aw _ _, _, _, _, h => h
 | .aa _ _, _, _, _, h => h
 | .ct _, _, _, _, h => by rw [ay] at h; rw [I.c7, ay]; exact ma.one h
theorem bf.c7 {w : World} {F : Nat → Prop} : ∀ (ds : List I) (cs : List Value) (S aR : Nat → Prop), bf w F ds cs S → bf w F (I.lO ds) cs aR
 | [], _, _, _, h => h
 | d :: ds, cs, S, aR, h => by
   rw [I.lO, bf]
   rw [bf] at h
   obtain ⟨cv, cw, cc, dB, af, ag, aF, a_, bI, cK⟩ := h
   exact ⟨cv, cw, fun _ => False, fun _ => False, af, ay.c7 d _ _ _ ag, bf.c7 ds _ _ _ aF, fun _ h => h.elim, fun _ h => h.elim, fun _ h => h.elim⟩
end
mutual
theorem ay.plain {w : World} {F : Nat → Prop} : ∀ (d : I) (cs : List Value) (S aR : Nat → Prop), d.plain = true → ay w F d cs S → ay w F d cs aR
 | .hole, _, _, _, _, h => h
 | .bool _, _, _, _, _, h => h
 | .eT, _, _, _, _, h => h
 | .int _ _, _, _, _, _, h => h
 | .str _, _, _, _, _, h => h
 | .da, _, _, _, _, h => h
 | .bo, _, _, _, _, h => h
 | .slice xs, cs, S, aR, _, h => by rw [ay] at h ⊢; exact h
 | .au sz xs, cs, S, aR, aw, h => by simp [I.plain] at aw
 | .ref d, cs, S, aR, _, h => by rw [ay] at h ⊢; exact h
 | .aU d, cs, S, aR, aw, h => by simp [I.plain] at aw
 | .agg ax, cs, S, aR, aw, h => by rw [ay] at h ⊢; exact bf.plain ax _ _ _ aw h
 | .tuple ax, cs, S, aR, aw, h => by rw [ay] at h ⊢; exact bf.plain ax _ _ _ aw h
 | .fn _ _, _, _, _, _, h => h
 | .h _ _, _, _, _, _, h => h
 | .aw _ _, _, _, _, _, h => h
 | .aa _ _, _, _, _, _, h => h
 | .ct _, _, _, _, aw, _ => by simp [I.plain] at aw
theorem bf.plain {w : World} {F : Nat → Prop} : ∀ (ds : List I) (cs : List Value) (S aR : Nat → Prop), I.e1 ds = true → bf w F ds cs S → bf w F ds cs aR
 | [], _, _, _, _, h => h
 | d :: ds, cs, S, aR, aw, h => by
   rw [bf] at h ⊢
   simp only [I.e1, Bool.and_eq_true] at aw
   obtain ⟨cv, cw, cc, dB, af, ag, aF, a_, bI, cK⟩ := h
   exact ⟨cv, cw, fun _ => False, fun _ => False, af, ay.plain d _ _ _ aw.1 ag, bf.plain ds _ _ _ aw.2 aF, fun _ h => h.elim, fun _ h => h.elim, fun _ h => h.elim⟩
end
def I.fL : List Nat → I → Bool
 | [], _ => false
 | k :: q, .agg ax => match ax[k]? with
   | some d => I.fL q d
   | none => false
 | k :: q, .tuple ax => match ax[k]? with
   | some d => I.fL q d
   | none => false
 | _ :: _, .au _ _ => true
 | _ :: _, .aU _ => true
 | _ :: _, _ => false
theorem AR {ax : List I} (h : I.e1 ax = true) {k : Nat} {d : I} (ar : ax[k]? = some d) : d.plain = true := by
 induction ax generalizing k with
 | nil => simp at ar
 | cons a ax ih =>
   simp only [I.e1, Bool.and_eq_true] at h
   cases k with
   | zero => simp at ar; subst ar; exact h.1
   | succ k => simp at ar; exact ih h.2 ar
theorem I.JJ : ∀ (q : List Nat) (d : I), d.plain = true → I.fL q d = false := by
 intro q
 induction q with
 | nil => intros; rfl
 | cons k q ih =>
   intro d ai
   cases d <;> first | rfl | (simp [I.plain] at ai; done) | skip
   all_goals
    simp only [I.fL]
    split
    ·rename_i ax x aq; exact ih _ (AR (by simpa [I.plain] using ai) aq)
    ·rfl
theorem I.E5 : ∀ (q : List Nat) (d e : I), d.plain = true → I.sub q d = some e → e.plain = true := by
 intro q
 induction q with
 | nil => intro d e ai h; simp [I.sub] at h; exact h ▸ ai
 | cons k q ih =>
   intro d e ai h
   cases d <;> first | (simp [I.plain] at ai; done) | (simp [I.sub] at h; done) | skip
   all_goals
    simp only [I.sub] at h
    split at h
    ·rename_i ax x aq; exact ih _ _ (AR (by simpa [I.plain] using ai) aq) h
    ·cases h
theorem AU {w aL : World} {F : Nat → Prop} : ∀ (q : List Nat) (av : I) (cs : List Value) (S : Nat → Prop) (a : Option (Nat × Nat)) (d : I),
  ay w F av cs S → I.sub q av = some d → (∀ b, S b → aL.heap[b]? = w.heap[b]?) → dn aL q av cs a = dn w q av cs a := by
 intro q
 induction q with
 | nil => intros; rfl
 | cons k q ih =>
   have fields : ∀ (ax : List I) (cs : List Value) (S : Nat → Prop) (a : Option (Nat × Nat)) (x d : I), bf w F ax cs S → ax[k]? = some x → I.sub q x = some d →
     (∀ b, S b → aL.heap[b]? = w.heap[b]?) →
     dn aL q x ((cs.drop (I.ee (ax.take k))).take x.wd) (a.map fun l => (l.1, l.2 + I.ee (ax.take k))) = dn w q x ((cs.drop (I.ee (ax.take k))).take x.wd) (a.map fun l => (l.1, l.2 + I.ee (ax.take k))) := by
    intro ax cs S a x d h aq ai bX
    obtain ⟨cv, gn, cw, cc, h7, rfl, hW, fD, hr, h8, gz, my⟩ := bf.pick ax cs S k x h aq
    rw [ta cv gn cw _ _ hW (ay.length _ _ _ gz)]
    exact ih x gn h7 _ d gz ai (fun b aa => bX b (hr _ aa))
   intro av cs S a d h ai bX
   cases av with
   | agg ax =>
     simp only [I.sub] at ai
     split at ai
     ·rename_i x aq
      rw [ay] at h
      simp only [dn, aq]
      exact fields ax cs S a x d h aq ai bX
     ·cases ai
   | tuple ax =>
     simp only [I.sub] at ai
     split at ai
     ·rename_i x aq
      rw [ay] at h
      simp only [dn, aq]
      exact fields ax cs S a x d h aq ai bX
     ·cases ai
   | au sz xs =>
     simp only [I.sub] at ai
     split at ai
     ·rename_i x aq
      rw [ay] at h
      rcases h with ⟨rfl, _, rfl⟩ | ⟨b, cap, cur, e, fr, dS, rfl, ag, aF, a_, bI, cK, cH, fC, hq, h6, mb⟩
      ·simp at aq
      ·obtain ⟨cv, gn, cw, cc, h7, p, hW, fD, hr, h8, gz, my⟩ := bf.pick xs _ dS k x hq aq
       have hl := ay.length _ _ _ gz
       have RM : k < xs.length := (List.getElem?_eq_some_iff.1 aq).1
       have xO : x.wd = sz := fC x (List.mem_of_getElem? aq)
       have bJ : I.ee (xs.take k) = k * sz := by
        rw [tc _ (fun d ai => fC d (List.mem_of_mem_take ai))]
        rw [List.length_take, Nat.min_eq_left (by omega)]
       obtain ⟨q0, lN⟩ : ∃ q0, cur.toList = cv ++ (gn ++ (cw ++ q0)) := by
        refine ⟨cur.toList.drop (xs.length * sz), ?_⟩
        have := (List.take_append_drop (xs.length * sz) cur.toList).symm
        rw [p] at this
        simpa using this
       have kn : nB w b (k * sz) sz = gn := by
        have := vm aF lN
        rwa [hW, bJ, hl, xO] at this
       have E6 : nB aL b (k * sz) sz = gn := by
        have := vm ((bX b ag).trans aF) lN
        rwa [hW, bJ, hl, xO] at this
       simp only [dn, aq, kn, E6]
       exact ih x gn h7 _ d gz ai (fun c ao => bX c (h6 _ (hr _ ao)))
     ·cases ai
   | aU x =>
     cases k with
     | succ k => simp [I.sub] at ai
     | zero =>
       simp only [I.sub] at ai
       rw [ay] at h
       obtain ⟨b, cur, e, fr, dS, rfl, ag, aF, a_, bI, cK, cH⟩ := h
       have hl := ay.length _ _ _ bI
       have kn : nB w b 0 x.wd = cur.toList := by
        have := vm (l := []) (m := cur.toList) (r := []) aF (by simp)
        rwa [hl] at this
       have E6 : nB aL b 0 x.wd = cur.toList := by
        have := vm (l := []) (m := cur.toList) (r := []) ((bX b ag).trans aF) (by simp)
        rwa [hl] at this
       simp only [dn, kn, E6]
       exact ih x cur.toList dS _ d bI ai (fun c ao => bX c (cK _ ao))
   | _ => simp [I.sub] at ai
def iG : Value → List Value
 | .agg cs => cs.toList
 | v => [v]
def cp : Value → List Value
 | .tuple vs => vs.toList.flatMap iG
 | v => iG v
def iH : I → Value → Prop
 | .agg _, v => ∃ arr, v = .agg arr
 | _, v => Value.gJ v = true
def dT : I → Value → Prop
 | .tuple ds, v => ∃ arr : Array Value, v = .tuple arr ∧ arr.size = ds.length ∧ ∀ (k : Nat) (d : I) (x : Value), ds[k]? = some d → arr[k]? = some x → iH d x ∧ (∀ vs, d ≠ .tuple vs) ∧ (iG x).length = d.wd
 | d, v => iH d v
abbrev al := Nat → I
mutual
def aI (w : World) (F : Nat → Prop) (s : al) (aB : Nat → Value) : I → Value → (Nat → Prop) → Prop
 | .hole, _, _ => True
 | .h x q, v, _ => ∀ d, I.sub q (s x) = some d → d.plain = false → ∃ cM a, dn w q (s x) (cp (aB x)) none = some (d, cM, a) ∧ cp v = cM ∧ dT d v
 | .aw x q, v, _ => ∀ d, I.sub q (s x) = some d → I.fL q (s x) = true → ∃ cM b o, dn w q (s x) (cp (aB x)) none = some (d, cM, some (b, o)) ∧ v = .pointer (some ⟨b, o, none⟩)
 | .aa x k, v, _ => (s x).plain = false → ∃ b cur e fr, v = .pointer (some ⟨b, k, none⟩) ∧ F b ∧ w.heap[b]? = some (.cells cur e fr) ∧ cur.toList = cp (aB x)
 | .fn f cap, v, _ => ∃ arr : Array Value, v = .func (.func f) #[] arr ∧ ef w F s aB cap arr.toList
 | .bool b, v, S => dT (.bool b) v ∧ ay w F (.bool b) (cp v) S
 | .eT, v, S => dT .eT v ∧ ay w F .eT (cp v) S
 | .int k n, v, S => dT (.int k n) v ∧ ay w F (.int k n) (cp v) S
 | .str x, v, S => dT (.str x) v ∧ ay w F (.str x) (cp v) S
 | .da, v, S => dT .da v ∧ ay w F .da (cp v) S
 | .bo, v, S => dT .bo v ∧ ay w F .bo (cp v) S
 | .slice xs, v, S => dT (.slice xs) v ∧ ay w F (.slice xs) (cp v) S
 | .au sz xs, v, S => dT (.au sz xs) v ∧ ay w F (.au sz xs) (cp v) S
 | .ref d, v, S => dT (.ref d) v ∧ ay w F (.ref d) (cp v) S
 | .aU d, v, S => dT (.aU d) v ∧ ay w F (.aU d) (cp v) S
 | .agg d, v, S => dT (.agg d) v ∧ ay w F (.agg d) (cp v) S
 | .tuple d, v, S => dT (.tuple d) v ∧ ay w F (.tuple d) (cp v) S
 | .ct o, v, S => dT (.ct o) v ∧ ay w F (.ct o) (cp v) S
def ef (w : World) (F : Nat → Prop) (s : al) (aB : Nat → Value) : List I → List Value → Prop
 | [], vs => vs = []
 | d :: ds, vs => ∃ v j_, vs = v :: j_ ∧ aI w F s aB d v (fun _ => False) ∧ ef w F s aB ds j_
end
def I.tree : I → Bool
 | .hole => false
 | .h _ _ => false
 | .aw _ _ => false
 | .aa _ _ => false
 | .fn _ _ => false
 | _ => true
theorem aI.cJ {w : World} {F : Nat → Prop} {s : al} {aB : Nat → Value} {d : I} {v : Value} {S : Nat → Prop} (a1 : d.tree = true) :
  aI w F s aB d v S ↔ (dT d v ∧ ay w F d (cp v) S) := by
 cases d <;> first | (simp [I.tree] at a1; done) | rw [aI]
theorem h9 {q : List Nat} {av d : I} (h : I.sub q av = some d) (aw : d.plain = false ∨ I.fL q av = true) : av.tree = true := by
 cases q with
 | nil =>
   simp [I.sub] at h; subst h
   rcases aw with aw | aw
   ·cases av <;> first | rfl | (simp [I.plain] at aw)
   ·simp [I.fL] at aw
 | cons k q => cases av <;> first | rfl | (simp [I.sub] at h)
theorem E7 {d : I} (h : d.plain = false) : d.tree = true := h9 (q := []) (by simp only [I.sub]) (.inl h)
theorem aI.frame {w aL : World} {F bQ : Nat → Prop} {s : al} {aB : Nat → Value} {Sx : Nat → Nat → Prop} (bG : ∀ b, F b → aL.heap[b]? = w.heap[b]?) (JK : ∀ b, F b → bQ b)
  (bX : ∀ x b, Sx x b → aL.heap[b]? = w.heap[b]?) (na : ∀ x, aI w F s aB (s x) (aB x) (Sx x)) :
  ∀ (d : I) (v : Value) (S : Nat → Prop), (∀ b, S b → aL.heap[b]? = w.heap[b]?) → aI w F s aB d v S → aI aL bQ s aB d v S := by
 have k2 : ∀ (x : Nat) (q : List Nat) (d : I), I.sub q (s x) = some d → (d.plain = false ∨ I.fL q (s x) = true) → dn aL q (s x) (cp (aB x)) none = dn w q (s x) (cp (aB x)) none := by
  intro x q d ai aw
  have a1 := h9 ai aw
  have := na x
  rw [aI.cJ a1] at this
  exact AU q _ _ (Sx x) none d this.2 ai (bX x)
 have RN : ∀ (d : I) (v : Value) (S : Nat → Prop), d.tree = true → (∀ b, S b → aL.heap[b]? = w.heap[b]?) → aI w F s aB d v S → aI aL bQ s aB d v S := by
  intro d v S a1 td h
  rw [aI.cJ a1] at h ⊢
  exact ⟨h.1, ay.mono JK _ _ _ _ (fun _ h => h) (ay.frame bG _ _ _ td h.2)⟩
 have step : ∀ n, (∀ (d : I) (v : Value) (S : Nat → Prop), SizeOf.sizeOf d ≤ n → (∀ b, S b → aL.heap[b]? = w.heap[b]?) → aI w F s aB d v S → aI aL bQ s aB d v S) ∧
   (∀ (ds : List I) (vs : List Value), SizeOf.sizeOf ds ≤ n → ef w F s aB ds vs → ef aL bQ s aB ds vs) := by
  intro n
  induction n with
  | zero =>
    refine ⟨fun d v S bS => ?_, fun ds vs bS => ?_⟩
    ·cases d <;> simp at bS <;> omega
    ·cases ds <;> simp at bS <;> omega
  | succ n ih =>
    refine ⟨fun d v S bS td h => ?_, fun ds vs bS h => ?_⟩
    ·cases d with
     | hole => rw [aI]; trivial
     | h x q =>
       rw [aI] at h ⊢
       intro d ai aw
       rw [k2 x q d ai (.inl aw)]
       exact h d ai aw
     | aw x q =>
       rw [aI] at h ⊢
       intro d ai aw
       rw [k2 x q d ai (.inr aw)]
       exact h d ai aw
     | aa x k =>
       rw [aI] at h ⊢
       intro aw
       obtain ⟨b, cur, e, fr, af, ag, aF, a_⟩ := h aw
       exact ⟨b, cur, e, fr, af, JK b ag, (bG b ag).trans aF, a_⟩
     | fn f cap =>
       rw [aI] at h ⊢
       obtain ⟨arr, rfl, ao⟩ := h
       exact ⟨arr, rfl, ih.2 _ _ (by simp at bS; omega) ao⟩
     | _ => exact RN _ _ _ rfl td h
    ·cases ds with
     | nil => rw [ef] at h ⊢; exact h
     | cons d ds =>
       rw [ef] at h ⊢
       obtain ⟨v, j_, rfl, af, ag⟩ := h
       simp at bS
       exact ⟨v, j_, rfl, ih.1 _ _ _ (by omega) (fun _ h => h.elim) af, ih.2 _ _ (by omega) ag⟩
 intro d v S td h
 exact (step (SizeOf.sizeOf d)).1 d v S (Nat.le_refl _) td h
mutual
def cR (x : Nat) : I → I
 | .h y q => if y = x then .hole else .h y q
 | .aw y q => if y = x then .hole else .aw y q
 | .aa y k => if y = x then .hole else .aa y k
 | .fn f cap => .fn f (jC x cap)
 | d => d
def jC (x : Nat) : List I → List I
 | [] => []
 | d :: ds => cR x d :: jC x ds
end
mutual
def cj (x : Nat) : I → I
 | .h y q => if y = x then (if q = [] then .h y q else .hole) else .h y q
 | .aw y q => if y = x then .hole else .aw y q
 | .fn f cap => .fn f (je x cap)
 | d => d
def je (x : Nat) : List I → List I
 | [] => []
 | d :: ds => cj x d :: je x ds
end
def db {α : Type} (f : Nat → α) (t : Nat) (v : α) : Nat → α := fun u => if u = t then v else f u
def mc (t : Nat) (s : al) : al := fun u => cR t (s u)
def hX (t : Nat) (s : al) : al := fun u => cj t (s u)
theorem me {α : Type} (f : Nat → α) (t : Nat) (v : α) : db f t v t = v := by simp [db]
theorem jD {α : Type} (f : Nat → α) {t u : Nat} (v : α) (h : u ≠ t) : db f t v u = f u := by simp [db, h]
theorem RO {t : Nat} {d : I} (h : d.tree = true) : cR t d = d := by cases d <;> first | rfl | (simp [I.tree] at h)
theorem E8 {t : Nat} {d : I} (h : d.tree = true) : cj t d = d := by cases d <;> first | rfl | (simp [I.tree] at h)
theorem RP {t : Nat} {d : I} (h : (cR t d).tree = true) : d.tree = true ∧ cR t d = d := by
 cases d <;> first | exact ⟨rfl, rfl⟩ | (simp only [cR] at h; first | (split at h <;> simp [I.tree] at h) | simp [I.tree] at h)
theorem AV {t : Nat} {d : I} (h : (cj t d).tree = true) : d.tree = true ∧ cj t d = d := by
 cases d <;> first | exact ⟨rfl, rfl⟩ | (simp only [cj] at h; first | (split at h <;> (try split at h) <;> simp [I.tree] at h) | simp [I.tree] at h)
section
variable {w : World} {F : Nat → Prop} {s az : al} {aB kF : Nat → Value} {t : Nat}
theorem aI.cR (hA : ∀ x, x ≠ t → (az x).tree = true → az x = s x ∧ kF x = aB x) : ∀ (n : Nat),
  (∀ (d : I) (v : Value) (S : Nat → Prop), SizeOf.sizeOf d ≤ n → aI w F s aB d v S → aI w F az kF (cY.cR t d) v S) ∧
  (∀ (ds : List I) (vs : List Value), SizeOf.sizeOf ds ≤ n → ef w F s aB ds vs → ef w F az kF (jC t ds) vs) := by
 intro n
 induction n with
 | zero =>
   refine ⟨fun d v S bS => ?_, fun ds vs bS => ?_⟩
   ·cases d <;> simp at bS <;> omega
   ·cases ds <;> simp at bS <;> omega
 | succ n ih =>
   refine ⟨fun d v S bS h => ?_, fun ds vs bS h => ?_⟩
   ·cases d with
    | hole => rw [cY.cR.eq_def]; simp only; rw [aI]; trivial
    | h x q =>
      simp only [cY.cR]
      split
      ·rw [aI]; trivial
      ·rename_i aq
       rw [aI] at h ⊢
       intro d ai aw
       obtain ⟨aN, aZ⟩ := hA x aq (h9 ai (.inl aw))
       rw [aN, aZ]; rw [aN] at ai
       exact h d ai aw
    | aw x q =>
      simp only [cY.cR]
      split
      ·rw [aI]; trivial
      ·rename_i aq
       rw [aI] at h ⊢
       intro d ai aw
       obtain ⟨aN, aZ⟩ := hA x aq (h9 ai (.inr aw))
       rw [aN, aZ]; rw [aN] at ai aw
       exact h d ai aw
    | aa x k =>
      simp only [cY.cR]
      split
      ·rw [aI]; trivial
      ·rename_i aq
       rw [aI] at h ⊢
       intro aw
       obtain ⟨aN, aZ⟩ := hA x aq (E7 aw)
       rw [aZ]; rw [aN] at aw
       exact h aw
    | fn f cap =>
      simp only [cY.cR]
      rw [aI] at h ⊢
      obtain ⟨arr, rfl, ao⟩ := h
      exact ⟨arr, rfl, ih.2 _ _ (by simp at bS; omega) ao⟩
    | _ =>
      rw [RO (by rfl)]
      exact (aI.cJ (by rfl)).2 ((aI.cJ (by rfl)).1 h)
   ·cases ds with
    | nil => rw [jC, ef]; rw [ef] at h; exact h
    | cons d ds =>
      rw [jC, ef]; rw [ef] at h
      obtain ⟨v, j_, rfl, af, ag⟩ := h
      simp at bS
      exact ⟨v, j_, rfl, ih.1 _ _ _ (by omega) af, ih.2 _ _ (by omega) ag⟩
theorem aI.cj {aL : World} (hA : ∀ x, x ≠ t → (az x).tree = true → az x = s x ∧ kF x = aB x) (jE : kF t = aB t) (mA : (az t).plain = false → (s t).plain = false ∧ ∀ v, dT (s t) v → dT (az t) v)
  (k2 : ∀ x q d, x ≠ t → I.sub q (s x) = some d → (d.plain = false ∨ I.fL q (s x) = true) → dn aL q (s x) (cp (aB x)) none = dn w q (s x) (cp (aB x)) none)
  (bG : ∀ b, F b → aL.heap[b]? = w.heap[b]?) : ∀ (n : Nat),
  (∀ (d : I) (v : Value) (S : Nat → Prop), SizeOf.sizeOf d ≤ n → (∀ b, S b → aL.heap[b]? = w.heap[b]?) → aI w F s aB d v S → aI aL F az kF (cY.cj t d) v S) ∧
  (∀ (ds : List I) (vs : List Value), SizeOf.sizeOf ds ≤ n → ef w F s aB ds vs → ef aL F az kF (je t ds) vs) := by
 intro n
 induction n with
 | zero =>
   refine ⟨fun d v S bS => ?_, fun ds vs bS => ?_⟩
   ·cases d <;> simp at bS <;> omega
   ·cases ds <;> simp at bS <;> omega
 | succ n ih =>
   refine ⟨fun d v S bS td h => ?_, fun ds vs bS h => ?_⟩
   ·cases d with
    | hole => rw [cY.cj.eq_def]; simp only; rw [aI]; trivial
    | h x q =>
      simp only [cY.cj]
      split
      ·rename_i aq
       subst aq
       split
       ·rename_i cG
        subst cG
        rw [aI] at h ⊢
        intro d ai aw
        simp only [I.sub, Option.some.injEq] at ai
        subst ai
        obtain ⟨dR, br⟩ := mA aw
        obtain ⟨cM, a, g1, g2, g3⟩ := h (s x) rfl dR
        simp only [dn, Option.some.injEq, Prod.mk.injEq] at g1
        obtain ⟨-, g1, ayC⟩ := g1
        refine ⟨cp (kF x), none, rfl, ?_, br _ g3⟩
        rw [jE, g2, ← g1]
       ·rw [aI]; trivial
      ·rename_i aq
       rw [aI] at h ⊢
       intro d ai aw
       obtain ⟨aN, aZ⟩ := hA x aq (h9 ai (.inl aw))
       rw [aN, aZ]; rw [aN] at ai
       rw [k2 x q d aq ai (.inl aw)]
       exact h d ai aw
    | aw x q =>
      simp only [cY.cj]
      split
      ·rw [aI]; trivial
      ·rename_i aq
       rw [aI] at h ⊢
       intro d ai aw
       obtain ⟨aN, aZ⟩ := hA x aq (h9 ai (.inr aw))
       rw [aN, aZ]; rw [aN] at ai aw
       rw [k2 x q d aq ai (.inr aw)]
       exact h d ai aw
    | aa x k =>
      simp only [cY.cj]
      rw [aI] at h ⊢
      intro aw
      by_cases aq : x = t
      ·subst aq
       obtain ⟨b, cur, e, fr, af, ag, aF, a_⟩ := h (mA aw).1
       exact ⟨b, cur, e, fr, af, ag, (bG b ag).trans aF, by rw [jE]; exact a_⟩
      ·obtain ⟨aN, aZ⟩ := hA x aq (E7 aw)
       rw [aN] at aw
       obtain ⟨b, cur, e, fr, af, ag, aF, a_⟩ := h aw
       exact ⟨b, cur, e, fr, af, ag, (bG b ag).trans aF, by rw [aZ]; exact a_⟩
    | fn f cap =>
      simp only [cY.cj]
      rw [aI] at h ⊢
      obtain ⟨arr, rfl, ao⟩ := h
      exact ⟨arr, rfl, ih.2 _ _ (by simp at bS; omega) ao⟩
    | _ =>
      rw [E8 (by rfl)]
      have bE := (aI.cJ (by rfl)).1 h
      exact (aI.cJ (by rfl)).2 ⟨bE.1, ay.frame bG _ _ _ td bE.2⟩
   ·cases ds with
    | nil => rw [je, ef]; rw [ef] at h; exact h
    | cons d ds =>
      rw [je, ef]; rw [ef] at h
      obtain ⟨v, j_, rfl, af, ag⟩ := h
      simp at bS
      exact ⟨v, j_, rfl, ih.1 _ _ _ (by omega) (fun _ h => h.elim) af, ih.2 _ _ (by omega) ag⟩
theorem aI.void (hA : ∀ x, x ≠ t → (az x).tree = true → az x = s x ∧ kF x = aB x) (pb : (az t).plain = true) : ∀ (n : Nat),
  (∀ (d : I) (v : Value) (S : Nat → Prop), SizeOf.sizeOf d ≤ n → aI w F s aB d v S → aI w F az kF d v S) ∧
  (∀ (ds : List I) (vs : List Value), SizeOf.sizeOf ds ≤ n → ef w F s aB ds vs → ef w F az kF ds vs) := by
 intro n
 induction n with
 | zero =>
   refine ⟨fun d v S bS => ?_, fun ds vs bS => ?_⟩
   ·cases d <;> simp at bS <;> omega
   ·cases ds <;> simp at bS <;> omega
 | succ n ih =>
   refine ⟨fun d v S bS h => ?_, fun ds vs bS h => ?_⟩
   ·cases d with
    | hole => rw [aI]; trivial
    | h x q =>
      rw [aI] at h ⊢
      intro d ai aw
      by_cases aq : x = t
      ·subst aq
       rw [I.E5 _ _ _ pb ai] at aw; cases aw
      ·obtain ⟨aN, aZ⟩ := hA x aq (h9 ai (.inl aw))
       rw [aN, aZ]; rw [aN] at ai
       exact h d ai aw
    | aw x q =>
      rw [aI] at h ⊢
      intro d ai aw
      by_cases aq : x = t
      ·subst aq
       rw [I.JJ _ _ pb] at aw; cases aw
      ·obtain ⟨aN, aZ⟩ := hA x aq (h9 ai (.inr aw))
       rw [aN, aZ]; rw [aN] at ai aw
       exact h d ai aw
    | aa x k =>
      rw [aI] at h ⊢
      intro aw
      by_cases aq : x = t
      ·subst aq; rw [pb] at aw; cases aw
      ·obtain ⟨aN, aZ⟩ := hA x aq (E7 aw)
       rw [aZ]; rw [aN] at aw
       exact h aw
    | fn f cap =>
      rw [aI] at h ⊢
      obtain ⟨arr, rfl, ao⟩ := h
      exact ⟨arr, rfl, ih.2 _ _ (by simp at bS; omega) ao⟩
    | _ => exact (aI.cJ (by rfl)).2 ((aI.cJ (by rfl)).1 h)
   ·cases ds with
    | nil => rw [ef]; rw [ef] at h; exact h
    | cons d ds =>
      rw [ef]; rw [ef] at h
      obtain ⟨v, j_, rfl, af, ag⟩ := h
      simp at bS
      exact ⟨v, j_, rfl, ih.1 _ _ _ (by omega) af, ih.2 _ _ (by omega) ag⟩
end
structure bM (w0 : World) (F0 X F : Nat → Prop) (S : Nat → Nat → Prop) (s : al) (aB : Nat → Value) (w : World) : Prop where
 hs : ∀ b, F0 b → F b
 hG : ∀ b, F b → F0 b ∨ X b ∨ w0.heap.size ≤ b
 fe : ∀ b, F b → b < w.heap.size
 eJ : ∀ t b, S t b → b < w.heap.size
 fY : ∀ t b, S t b → ¬ F b
 ff : ∀ t u b, t ≠ u → S t b → ¬ S u b
 dS : ∀ t b, S t b → X b ∨ w0.heap.size ≤ b
 dp : ∀ t, aI w F s aB (s t) (aB t) (S t)
 old : ∀ b, b < w0.heap.size → ¬ X b → w.heap[b]? = w0.heap[b]?
 size : w0.heap.size ≤ w.heap.size
 os : w.os = w0.os
 tape : w.tape = w0.tape
 output : w.output = w0.output
section
variable {w0 w aL : World} {F0 X F : Nat → Prop} {S : Nat → Nat → Prop} {s : al} {aB : Nat → Value}
theorem bM.grow (h : bM w0 F0 X F S s aB w) (aa : ∀ b, b < w.heap.size → aL.heap[b]? = w.heap[b]?) (ab : w.heap.size ≤ aL.heap.size)
  (af : aL.os = w.os) (ag : aL.tape = w.tape) (aF : aL.output = w.output) : bM w0 F0 X F S s aB aL where
 hs := h.hs
 hG := h.hG
 fe := fun b bG => Nat.lt_of_lt_of_le (h.fe b bG) ab
 eJ := fun t b bG => Nat.lt_of_lt_of_le (h.eJ t b bG) ab
 fY := h.fY
 ff := h.ff
 dS := h.dS
 dp := fun t => aI.frame (Sx := S) (fun b bG => aa b (h.fe b bG)) (fun _ h => h) (fun x b bX => aa b (h.eJ x b bX)) h.dp _ _ _ (fun b bX => aa b (h.eJ t b bX)) (h.dp t)
 old := fun b dZ kG => (aa b (Nat.lt_of_lt_of_le dZ h.size)).trans (h.old b dZ kG)
 size := Nat.le_trans h.size ab
 os := af.trans h.os
 tape := ag.trans h.tape
 output := aF.trans h.output
def fZ (S : Nat → Nat → Prop) (t : Nat) (Sn : Nat → Prop) : Nat → Nat → Prop := fun u b => if u = t then Sn b else S u b
theorem xR (S : Nat → Nat → Prop) (t : Nat) (Sn : Nat → Prop) : fZ S t Sn t = Sn := by funext b; simp [fZ]
theorem xS (S : Nat → Nat → Prop) {t u : Nat} (Sn : Nat → Prop) (h : u ≠ t) : fZ S t Sn u = S u := by funext b; simp [fZ, h]
theorem bM.vn (h : bM w0 F0 X F S s aB w) {t : Nat} {d : I} {v : Value} (aw : d.plain = true) (ai : aI w F s aB d v (fun _ => False)) :
  bM w0 F0 X F (fZ S t (fun _ => False)) (db s t d) (db aB t v) w where
 hs := h.hs
 hG := h.hG
 fe := h.fe
 eJ := fun u b aa => by simp only [fZ] at aa; split at aa; exact aa.elim; exact h.eJ u b aa
 fY := fun u b aa => by simp only [fZ] at aa; split at aa; exact aa.elim; exact h.fY u b aa
 ff := fun u x b dC aa aq => by
  simp only [fZ] at aa aq
  split at aa
  ·exact aa.elim
  ·split at aq
   ·exact aq.elim
   ·exact h.ff u x b dC aa aq
 dS := fun u b aa => by simp only [fZ] at aa; split at aa; exact aa.elim; exact h.dS u b aa
 dp := fun u => by
  have hA : ∀ x, x ≠ t → (db s t d x).tree = true → db s t d x = s x ∧ db aB t v x = aB x := fun x aq _ => ⟨jD _ _ aq, jD _ _ aq⟩
  have pb : (db s t d t).plain = true := by rw [me]; exact aw
  by_cases hu : u = t
  ·subst hu
   rw [me, me, xR]
   exact (aI.void hA pb _).1 _ _ _ (Nat.le_refl _) ai
  ·rw [jD _ _ hu, jD _ _ hu, xS _ _ hu]
   exact (aI.void hA pb _).1 _ _ _ (Nat.le_refl _) (h.dp u)
 old := h.old
 size := h.size
 os := h.os
 tape := h.tape
 output := h.output
theorem bM.JL (h : bM w0 F0 X F S s aB w) {t : Nat} {d : I} {v : Value} {Sn : Nat → Prop} (ai : d.tree = true) (ab : dT d v) (aK : ay w F d (cp v) Sn)
  (dZ : ∀ b, Sn b → b < w.heap.size) (bG : ∀ b, Sn b → ¬ F b) (bX : ∀ u b, u ≠ t → Sn b → ¬ S u b) (bn : ∀ b, Sn b → X b ∨ w0.heap.size ≤ b) :
  bM w0 F0 X F (fZ S t Sn) (db (mc t s) t d) (db aB t v) w where
 hs := h.hs
 hG := h.hG
 fe := h.fe
 eJ := fun u b aa => by simp only [fZ] at aa; split at aa; exact dZ b aa; exact h.eJ u b aa
 fY := fun u b aa => by simp only [fZ] at aa; split at aa; exact bG b aa; exact h.fY u b aa
 ff := fun u x b dC aa aq => by
  simp only [fZ] at aa aq
  split at aa
  ·rename_i hu
   rw [if_neg (fun e => dC (hu.trans e.symm))] at aq
   exact bX x b (fun e => dC (hu.trans e.symm)) aa aq
  ·rename_i hu
   split at aq
   ·exact bX u b hu aq aa
   ·exact h.ff u x b dC aa aq
 dS := fun u b aa => by simp only [fZ] at aa; split at aa; exact bn b aa; exact h.dS u b aa
 dp := fun u => by
  have hA : ∀ x, x ≠ t → (db (mc t s) t d x).tree = true → db (mc t s) t d x = s x ∧ db aB t v x = aB x := fun x aq a1 => by
   rw [jD _ _ aq] at a1 ⊢
   exact ⟨(RP a1).2, jD _ _ aq⟩
  by_cases hu : u = t
  ·subst hu
   rw [me, me, xR]
   exact (aI.cJ ai).2 ⟨ab, aK⟩
  ·rw [jD _ _ hu, jD _ _ hu, xS _ _ hu]
   exact (aI.cR hA _).1 _ _ _ (Nat.le_refl _) (h.dp u)
 old := h.old
 size := h.size
 os := h.os
 tape := h.tape
 output := h.output
theorem rZ (k : Nat) (q : List Nat) (bx x : I) : (∃ ax gs, x = .agg ax ∧ I.put (k :: q) bx x = .agg gs) ∨ (∃ ax gs, x = .tuple ax ∧ I.put (k :: q) bx x = .tuple gs) ∨
  (∃ sz xs ck, x = .au sz xs ∧ I.put (k :: q) bx x = .au sz ck) ∨ (∃ y z, x = .aU y ∧ I.put (k :: q) bx x = .aU z) ∨ I.put (k :: q) bx x = x := by
 cases x with
 | agg ax => simp only [I.put]; split <;> exact .inl ⟨_, _, rfl, rfl⟩
 | tuple ax => simp only [I.put]; split <;> exact .inr (.inl ⟨_, _, rfl, rfl⟩)
 | au sz ax => simp only [I.put]; split <;> exact .inr (.inr (.inl ⟨_, _, _, rfl, rfl⟩))
 | aU y => cases k <;> exact .inr (.inr (.inr (.inl ⟨_, _, rfl, rfl⟩)))
 | _ => exact .inr (.inr (.inr (.inr rfl)))
theorem JM {k : Nat} {q : List Nat} {bx x : I} {v : Value} (h : iH x v) : iH (I.put (k :: q) bx x) v := by
 rcases rZ k q bx x with ⟨ax, gs, rfl, e⟩ | ⟨ax, gs, rfl, e⟩ | ⟨sz, xs, ck, rfl, e⟩ | ⟨y, z, rfl, e⟩ | e <;> rw [e] <;> exact h
theorem JN {k : Nat} {q : List Nat} {bx x : I} (h : ∀ vs, x ≠ .tuple vs) : ∀ vs, I.put (k :: q) bx x ≠ .tuple vs := by
 rcases rZ k q bx x with ⟨ax, gs, rfl, e⟩ | ⟨ax, gs, rfl, e⟩ | ⟨sz, xs, ck, rfl, e⟩ | ⟨y, z, rfl, e⟩ | e <;> rw [e] <;> first | exact h | (intro vs bE; cases bE; done) | exact (h _ rfl).elim
theorem xT {k : Nat} {q : List Nat} {d bx av : I} {v : Value} (h : dT av v) (ai : I.sub (k :: q) av = some d) (af : ∀ v, iH d v → iH bx v) (ag : (∀ vs, d ≠ .tuple vs) → ∀ vs, bx ≠ .tuple vs) (aF : bx.wd = d.wd) :
  dT (I.put (k :: q) bx av) v := by
 cases av with
 | tuple ax =>
   simp only [I.sub] at ai
   split at ai
   ·rename_i x aq
    simp only [I.put, aq]
    simp only [dT] at h ⊢
    obtain ⟨arr, rfl, bS, na⟩ := h
    refine ⟨arr, rfl, by simpa using bS, fun j e y he hy => ?_⟩
    rw [List.getElem?_set] at he
    split at he
    ·rename_i E9
     subst E9
     split at he
     ·simp only [Option.some.injEq] at he
      subst he
      obtain ⟨g1, g2, g3⟩ := na k x y aq hy
      refine ⟨?_, ?_, g3.trans (I.vl q x d bx ai aF).symm⟩
      ·cases q with
       | nil =>
         simp only [I.sub, Option.some.injEq] at ai
         subst ai
         exact af _ g1
       | cons b0 q => exact JM g1
      ·cases q with
       | nil =>
         simp only [I.sub, Option.some.injEq] at ai
         subst ai
         exact ag g2
       | cons b0 q => exact JN g2
     ·cases he
    ·exact na j e y he hy
   ·cases ai
 | agg ax => simp only [I.put]; split <;> exact h
 | au sz ax => simp only [I.put]; split <;> exact h
 | aU y => cases k <;> exact h
 | _ => exact h
theorem E_ {d : I} {v : Value} (h : iH d v) : iH d.c7 v := by cases d <;> exact h
theorem JO {s : al} {x : Nat} {q : List Nat} {d : I} (ai : I.sub q (s x) = some d) (aw : d.plain = false) :
  (db (hX x s) x (I.put q d.c7 (s x)) x).plain = false → (s x).plain = false ∧ ∀ v, dT (s x) v → dT (db (hX x s) x (I.put q d.c7 (s x)) x) v := by
  rw [me]
  intro eK
  cases q with
  | nil =>
    exfalso
    have : ∀ d : I, d.c7.plain = true := by
     intro d
     have key : ∀ n, (∀ d : I, SizeOf.sizeOf d ≤ n → d.c7.plain = true) ∧ (∀ ds : List I, SizeOf.sizeOf ds ≤ n → I.e1 (I.lO ds) = true) := by
      intro n
      induction n with
      | zero => exact ⟨fun d bS => by cases d <;> simp at bS <;> omega, fun ds bS => by cases ds <;> simp at bS <;> omega⟩
      | succ n ih =>
        refine ⟨fun d bS => ?_, fun ds bS => ?_⟩
        ·cases d with
         | agg ax => simp only [I.c7, I.plain]; exact ih.2 _ (by simp at bS; omega)
         | tuple ax => simp only [I.c7, I.plain]; exact ih.2 _ (by simp at bS; omega)
         | _ => rfl
        ·cases ds with
         | nil => rfl
         | cons d ds =>
           simp at bS
           simp only [I.lO, I.e1, Bool.and_eq_true]
           exact ⟨ih.1 _ (by omega), ih.2 _ (by omega)⟩
     exact (key _).1 d (Nat.le_refl _)
    simp only [I.put] at eK
    rw [this] at eK
    cases eK
  | cons k q =>
    refine ⟨?_, fun v aK => xT aK ai (fun v h => E_ h) (fun h vs e => ?_) (I.rY d)⟩
    ·cases xU : (s x).plain with
     | false => rfl
     | true => rw [I.E5 _ _ _ xU ai] at aw; cases aw
    ·cases d <;> first | (exact h _ rfl) | (simp [I.c7] at e)
theorem bM.take (h : bM w0 F0 X F S s aB w) {x : Nat} {q : List Nat} {d : I} (ai : I.sub q (s x) = some d) (aw : d.plain = false) :
  ∃ (Sn fq : Nat → Prop) (cM : List Value) (a : Option (Nat × Nat)), bM w0 F0 X F (fZ S x Sn) (db (hX x s) x (I.put q d.c7 (s x))) aB w ∧
    dn w q (s x) (cp (aB x)) none = some (d, cM, a) ∧ ay w F d cM fq ∧ (∀ b, fq b → S x b) ∧ (∀ b, Sn b → S x b) ∧ (∀ b, fq b → ¬ Sn b) ∧
    (∀ (bx : I) (v : Value) (aR : Nat → Prop), aI w F s aB bx v aR → aI w F (db (hX x s) x (I.put q d.c7 (s x))) aB (cY.cj x bx) v aR) := by
 have a1 := h9 ai (.inl aw)
 have aq := h.dp x
 rw [aI.cJ a1] at aq
 obtain ⟨cM, a, en, fq, g0, g1, g2, g3, g4, g5⟩ := ctx q (s x) (cp (aB x)) (S x) none d aq.2 ai
 have kE : ay w F (I.put q d.c7 (s x)) (cp (aB x)) en := by
  have ko : ay w F d.c7 cM (fun _ => False) := ay.c7 _ _ _ _ g4
  have k3 : ∀ b, (en b ∨ False) → en b := fun b h => h.elim id False.elim
  rcases g5 with ⟨l, r, aN, aZ, aT⟩ | ⟨b, cur, e, fr, l, r, aN, aZ, aT, b2, cI, bZ⟩
  ·have := aT w _ cM _ (fun _ _ => rfl) (fun _ _ => rfl) (I.rY d) ko (fun _ h => h.elim)
   rw [← aN] at this
   exact ay.mono (fun _ h => h) _ _ _ _ k3 this
  ·have := bZ w _ cM _ (fun _ _ => rfl) (fun _ _ _ => rfl) (by rw [aT, ← cI]) (I.rY d) ko (fun _ h => h.elim)
   exact ay.mono (fun _ h => h) _ _ _ _ k3 this
 have RQ : dT (I.put q d.c7 (s x)) (aB x) ∧ (I.put q d.c7 (s x)).tree = true ∨ I.put q d.c7 (s x) = .hole := by
  cases q with
  | nil =>
    simp only [I.sub, Option.some.injEq] at ai
    subst ai
    simp only [I.put]
    cases ab : s x with
    | au sz xs => right; rfl
    | aU y => right; rfl
    | ct y => right; rfl
    | agg ax => left; rw [ab] at aq; exact ⟨aq.1, rfl⟩
    | tuple ax =>
      left
      rw [ab] at aq
      refine ⟨?_, rfl⟩
      simp only [dT, I.c7] at aq ⊢
      obtain ⟨arr, e, bS, na⟩ := aq.1
      have hl : ∀ ax : List I, I.lO ax = ax.map I.c7 := by
       intro ax; induction ax with
       | nil => rfl
       | cons a ax ih => simp [I.lO, ih]
      refine ⟨arr, e, by rw [hl]; simpa using bS, fun k gA y he hy => ?_⟩
      rw [hl, List.getElem?_map] at he
      cases ar : ax[k]? with
      | none => rw [ar] at he; cases he
      | some z =>
        rw [ar] at he
        simp only [Option.map_some, Option.some.injEq] at he
        subst he
        obtain ⟨g1, g2, g3⟩ := na k z y ar hy
        refine ⟨E_ g1, fun vs e => ?_, g3.trans (I.rY z).symm⟩
        cases z <;> first | (exact g2 _ rfl) | (simp [I.c7] at e)
    | _ => rw [ab] at aw; simp [I.plain] at aw
  | cons k q =>
    left
    refine ⟨xT aq.1 ai (fun v h => E_ h) (fun h vs e => ?_) (I.rY d), ?_⟩
    ·cases d <;> first | (exact h _ rfl) | (simp [I.c7] at e)
    ·rcases rZ k q d.c7 (s x) with ⟨ax, gs, aN, e⟩ | ⟨ax, gs, aN, e⟩ | ⟨sz, xs, ck, aN, e⟩ | ⟨y, z, aN, e⟩ | e <;> rw [e] <;> first | rfl | exact a1
 refine ⟨en, fq, cM, a, ?_, g0, g4, g2, g1, fun b af ag => g3 b ag af, ?_⟩
 rotate_left
 ·have hA : ∀ y, y ≠ x → (db (hX x s) x (I.put q d.c7 (s x)) y).tree = true → db (hX x s) x (I.put q d.c7 (s x)) y = s y ∧ aB y = aB y := fun y hy a1 => by
   rw [jD _ _ hy] at a1 ⊢
   exact ⟨(AV a1).2, rfl⟩
  intro bx v aR hF
  exact (aI.cj hA rfl (JO ai aw) (fun _ _ _ _ _ _ => rfl) (fun _ _ => rfl) _).1 _ _ _ (Nat.le_refl _) (fun _ _ => rfl) hF
 have hA : ∀ y, y ≠ x → (db (hX x s) x (I.put q d.c7 (s x)) y).tree = true → db (hX x s) x (I.put q d.c7 (s x)) y = s y ∧ aB y = aB y := fun y hy a1 => by
  rw [jD _ _ hy] at a1 ⊢
  exact ⟨(AV a1).2, rfl⟩
 have mA := JO (s := s) (x := x) ai aw
 constructor
 case hs => exact h.hs
 case hG => exact h.hG
 case fe => exact h.fe
 case eJ => exact fun u b aa => by simp only [fZ] at aa; split at aa; exact h.eJ x b (g1 b aa); exact h.eJ u b aa
 case fY => exact fun u b aa => by simp only [fZ] at aa; split at aa; exact h.fY x b (g1 b aa); exact h.fY u b aa
 case ff =>
  intro u y b dC aa hy
  simp only [fZ] at aa hy
  split at aa
  ·rename_i hu
   rw [if_neg (fun e => dC (hu.trans e.symm))] at hy
   exact h.ff x y b (fun e => dC (hu.trans e)) (g1 b aa) hy
  ·rename_i hu
   split at hy
   ·exact h.ff u x b hu aa (g1 b hy)
   ·exact h.ff u y b dC aa hy
 case dS => exact fun u b aa => by simp only [fZ] at aa; split at aa; exact h.dS x b (g1 b aa); exact h.dS u b aa
 case dp =>
  intro u
  by_cases hu : u = x
  ·subst hu
   rw [me, xR]
   rcases RQ with ⟨aN, aZ⟩ | e
   ·exact (aI.cJ aZ).2 ⟨aN, kE⟩
   ·rw [e, aI]; trivial
  ·rw [jD _ _ hu, xS _ _ hu]
   exact (aI.cj hA rfl mA (fun _ _ _ _ _ _ => rfl) (fun _ _ => rfl) _).1 _ _ _ (Nat.le_refl _) (fun _ _ => rfl) (h.dp u)
 case old => exact h.old
 case size => exact h.size
 case os => exact h.os
 case tape => exact h.tape
 case output => exact h.output
theorem bM.store (h : bM w0 F0 X F S s aB w) {x : Nat} {q : List Nat} {d bx : I} (ai : I.sub q (s x) = some d) (ao : I.fL q (s x) = true)
  {gp : List Value} {Sn : Nat → Prop} (aK : ay w F bx gp Sn) (k1 : bx.wd = d.wd)
  (dZ : ∀ b, Sn b → b < w.heap.size) (bG : ∀ b, Sn b → ¬ F b) (bX : ∀ u b, Sn b → ¬ S u b) (bn : ∀ b, Sn b → X b ∨ w0.heap.size ≤ b) :
  ∃ (cM : List Value) (b : Nat) (l r : List Value) (cur : Array Value) (e : TypeId) (fr : Nat × Nat), dn w q (s x) (cp (aB x)) none = some (d, cM, some (b, l.length)) ∧
    w.heap[b]? = some (.cells cur e fr) ∧ cur.toList = l ++ (cM ++ r) ∧ rV fr cur.size ∧
    ∀ aL, aL.heap[b]? = some (.cells (l ++ (gp ++ r)).toArray e fr) → (∀ c, c ≠ b → aL.heap[c]? = w.heap[c]?) → aL.heap.size = w.heap.size → aL.os = w.os → aL.tape = w.tape → aL.output = w.output →
      ∃ aR, bM w0 F0 X F aR (db (hX x s) x (I.put q bx (s x))) aB aL := by
 have a1 := h9 ai (.inr ao)
 have aq := h.dp x
 rw [aI.cJ a1] at aq
 obtain ⟨cM, a, en, fq, g0, g1, g2, g3, g4, g5⟩ := ctx q (s x) (cp (aB x)) (S x) none d aq.2 ai
 have RR : Deep w F q (s x) (cp (aB x)) d cM a en := by
  rcases g5 with ⟨l, r, aN, aZ, aT⟩ | g5
  ·exfalso
   have mf : ∀ (q : List Nat) (av : I) (cs : List Value) (a0 : Option (Nat × Nat)) (d : I) (cM : List Value), I.fL q av = true → dn w q av cs a0 = some (d, cM, none) → False := by
    intro q
    induction q with
    | nil => intro av cs a0 d cM ao; simp [I.fL] at ao
    | cons k q ih =>
      have JP : ∀ (q : List Nat) (av : I) (cs : List Value) (l : Nat × Nat) (d : I) (cM : List Value), dn w q av cs (some l) = some (d, cM, none) → False := by
       intro q
       induction q with
       | nil => intro av cs l d cM h; simp [dn] at h
       | cons k q AW =>
         intro av cs l d cM h
         cases av with
         | agg ax => rw [dn] at h; split at h; exact AW _ _ _ _ _ h; cases h
         | tuple ax => rw [dn] at h; split at h; exact AW _ _ _ _ _ h; cases h
         | au sz xs => simp only [dn] at h; split at h; exact AW _ _ _ _ _ h; cases h
         | aU y =>
           cases k with
           | zero => rw [dn.eq_def] at h; simp only at h; split at h; exact AW _ _ _ _ _ h; cases h
           | succ k => rw [show dn w ((k + 1) :: q) (.aU y) cs (some l) = none from rfl] at h; cases h
         | _ => simp [dn] at h
      intro av cs a0 d cM ao h
      cases av with
      | agg ax =>
        simp only [I.fL] at ao
        split at ao
        ·rename_i y hy
         simp only [dn, hy] at h
         exact ih _ _ _ _ _ ao h
        ·cases ao
      | tuple ax =>
        simp only [I.fL] at ao
        split at ao
        ·rename_i y hy
         simp only [dn, hy] at h
         exact ih _ _ _ _ _ ao h
        ·cases ao
      | au sz xs => simp only [dn] at h; split at h; exact JP _ _ _ _ _ _ h; cases h
      | aU y =>
        cases k with
        | zero => rw [dn.eq_def] at h; simp only at h; split at h; exact JP _ _ _ _ _ _ h; cases h
        | succ k => rw [show dn w ((k + 1) :: q) (.aU y) cs a0 = none from rfl] at h; cases h
      | _ => simp [I.fL] at ao
   simp only [Option.map_none] at aZ
   subst aZ
   exact mf _ _ _ _ _ _ ao g0
  ·exact g5
 obtain ⟨b, cur, e, fr, l, r, rfl, aZ, aT, b2, cI, bZ⟩ := RR
 refine ⟨cM, b, l, r, cur, e, fr, g0, aT, cI, b2, ?_⟩
 intro aL mz n8 d_ Fa Fb te
 have tf : S x b := g1 _ aZ
 have p3 : ∀ c, F c → aL.heap[c]? = w.heap[c]? := fun c ao => n8 c (by rintro rfl; exact h.fY x _ tf ao)
 have ayD : gp.length = cM.length := by rw [ay.length _ _ _ aK, ay.length _ _ _ g4, k1]
 have kE := bZ aL bx gp Sn p3 (fun c _ dC => n8 c dC) mz k1
  (ay.frame p3 _ _ _ (fun c ao => n8 c (by rintro rfl; exact bX x _ ao tf)) aK) (fun c ao k3 => bX x c ao (g1 _ k3))
 obtain ⟨k, jT, rfl⟩ : ∃ k jT, q = k :: jT := by
  cases q with
  | nil => simp [I.fL] at ao
  | cons k q => exact ⟨k, q, rfl⟩
 have xV : ∀ v, dT (s x) v → dT (I.put (k :: jT) bx (s x)) v := by
  intro v aK
  rcases rZ k jT bx (s x) with ⟨ax, gs, aN, e⟩ | ⟨ax, gs, aN, e⟩ | ⟨sz, xs, ck, aN, e⟩ | ⟨y, z, aN, e⟩ | e
  ·rw [e]; rw [aN] at aK; exact aK
  ·
   rw [aN] at aK ai ao ⊢
   simp only [I.fL] at ao
   split at ao
   ·rename_i y hy
    simp only [I.put, hy]
    cases jT with
    | nil => simp [I.fL] at ao
    | cons b0 f_ =>
      simp only [dT] at aK ⊢
      obtain ⟨arr, rfl, bS, na⟩ := aK
      refine ⟨arr, rfl, by simpa using bS, fun j e kH he tg => ?_⟩
      rw [List.getElem?_set] at he
      split at he
      ·rename_i E9
       subst E9
       split at he
       ·simp only [Option.some.injEq] at he
        subst he
        obtain ⟨g1, g2, g3⟩ := na _ y kH hy tg
        simp only [I.sub, hy] at ai
        exact ⟨JM g1, JN g2, g3.trans (I.vl (b0 :: f_) y d bx ai k1).symm⟩
       ·cases he
      ·exact na j e kH he tg
   ·cases ao
  ·rw [e]; rw [aN] at aK; exact aK
  ·rw [e]; rw [aN] at aK; exact aK
  ·rw [e]; exact aK
 have RS : (I.put (k :: jT) bx (s x)).tree = true := by
  rcases rZ k jT bx (s x) with ⟨ax, gs, aN, e⟩ | ⟨ax, gs, aN, e⟩ | ⟨sz, xs, ck, aN, e⟩ | ⟨y, z, aN, e⟩ | e <;> rw [e] <;> first | rfl | exact a1
 let az := db (hX x s) x (I.put (k :: jT) bx (s x))
 have hA : ∀ y, y ≠ x → (az y).tree = true → az y = s y ∧ aB y = aB y := fun y hy a1 => by
  have e : az y = cj x (s y) := jD _ _ hy
  rw [e] at a1 ⊢
  exact ⟨(AV a1).2, rfl⟩
 have mA : (az x).plain = false → (s x).plain = false ∧ ∀ v, dT (s x) v → dT (az x) v := by
  intro _
  refine ⟨?_, ?_⟩
  ·cases xU : (s x).plain with
   | false => rfl
   | true => rw [I.JJ _ _ xU] at ao; cases ao
  ·simp only [az, me]; exact xV
 refine ⟨fZ S x (fun c => en c ∨ Sn c), ?_⟩
 constructor
 case hs => exact h.hs
 case hG => exact h.hG
 case fe => exact fun b aa => by rw [d_]; exact h.fe b aa
 case eJ =>
  intro u c aa
  rw [d_]
  simp only [fZ] at aa
  split at aa
  ·rcases aa with aa | aa
   ·exact h.eJ x c (g1 c aa)
   ·exact dZ c aa
  ·exact h.eJ u c aa
 case fY =>
  intro u c aa
  simp only [fZ] at aa
  split at aa
  ·rcases aa with aa | aa
   ·exact h.fY x c (g1 c aa)
   ·exact bG c aa
  ·exact h.fY u c aa
 case ff =>
  intro u y c dC aa hy
  simp only [fZ] at aa hy
  split at aa
  ·rename_i hu
   rw [if_neg (fun e => dC (hu.trans e.symm))] at hy
   rcases aa with aa | aa
   ·exact h.ff x y c (fun e => dC (hu.trans e)) (g1 c aa) hy
   ·exact bX y c aa hy
  ·rename_i hu
   split at hy
   ·rcases hy with hy | hy
    ·exact h.ff u x c hu aa (g1 c hy)
    ·exact bX u c hy aa
   ·exact h.ff u y c dC aa hy
 case dS =>
  intro u c aa
  simp only [fZ] at aa
  split at aa
  ·rcases aa with aa | aa
   ·exact h.dS x c (g1 c aa)
   ·exact bn c aa
  ·exact h.dS u c aa
 case dp =>
  intro u
  by_cases hu : u = x
  ·subst hu
   rw [me, xR]
   exact (aI.cJ RS).2 ⟨xV _ aq.1, kE⟩
  ·rw [jD _ _ hu, xS _ _ hu]
   have dC : ∀ y c, y ≠ x → S y c → aL.heap[c]? = w.heap[c]? := fun y c hy ao => n8 c (by rintro rfl; exact h.ff y x c hy ao tf)
   refine (aI.cj hA rfl mA (fun y f_ d2 hy gZ xW => ?_) p3 _).1 _ _ _ (Nat.le_refl _) (fun c ao => dC u c hu ao) (h.dp u)
   have xX := h.dp y
   rw [aI.cJ (h9 gZ xW)] at xX
   exact AU f_ _ _ _ none d2 xX.2 gZ (fun c ao => dC y c hy ao)
 case old =>
  intro c dZ kG
  by_cases vo : c = b
  ·subst vo
   exfalso
   rcases h.dS x c tf with ko | ko
   ·exact kG ko
   ·omega
  ·exact (n8 c vo).trans (h.old c dZ kG)
 case size => rw [d_]; exact h.size
 case os => exact Fa.trans h.os
 case tape => exact Fb.trans h.tape
 case output => exact te.trans h.output
end
end Go.cY
