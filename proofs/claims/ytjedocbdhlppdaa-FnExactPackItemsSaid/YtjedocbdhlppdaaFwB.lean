/- Part of a proof that a law returns true for every input. No condition. -/
import Derived.Test.YtjedocbdhlppdaaFwA
import Derived.Laws.AppendOwn
import Derived.Calls
namespace Go.b1
inductive o1 where
 | mp (es : List (Value × Value))
 | dp (T e : TypeId) (dz : List UInt8)
inductive j where
 | hole
 | bool (b : Bool)
 | cO
 | int (k : IntKind) (n : Int)
 | str (s : List UInt8)
 | b7
 | bB
 | slice (xs : List j)
 | aP (sz : Nat) (xs : List j)
 | ref (d : j)
 | bn (d : j)
 | agg (ad : List j)
 | tuple (vs : List j)
 | fn (f : FuncId) (cap : List j)
 | h (x : Nat) (q : List Nat)
 | al (x : Nat) (q : List Nat)
 | J (x : Nat) (k : Nat)
 | b_ (o : o1)
 deriving Inhabited
mutual
def j.wd : j → Nat
 | .agg ad => j.cn ad
 | .tuple ad => j.cn ad
 | _ => 1
def j.cn : List j → Nat
 | [] => 0
 | d :: ds => d.wd + j.cn ds
end
def eA (w : World) (b o : Nat) (cs : List Value) : Prop := ∀ ay c, cs[ay]? = some c → w.cell? ⟨b, o + ay, none⟩ = some c
def k_ (fr : Nat × Nat) (n : Nat) : Prop := ∀ o, o < n → ¬ (fr.1 ≤ o ∧ o < fr.2)
def Value.dF : Value → Bool
 | .agg _ => false
 | .tuple _ => false
 | _ => true
def j.single : j → Bool
 | .agg _ => false
 | .tuple _ => false
 | .hole => false
 | _ => true
def g_ (w : World) : o1 → List Value → (Nat → Prop) → Prop
 | .mp es, cs, S => ∃ r ms o2, cs = [.map (some r)] ∧ S r ∧ w.heap[r]? = some (.map ms o2) ∧ ms.toList.map (fun e => (e.key, e.val)) = es
 | .dp T e dz, cs, S => ∃ b a fj, cs = [.pointer (some ⟨b, 0, none⟩)] ∧ S b ∧ w.heap[b]? = some (.cells #[a, fj] T (0, 0)) ∧ (a = .pointer none ∨ a = .pointer (some ⟨b, 0, none⟩)) ∧
   ((dz = [] ∧ fj = .slice none 0 0) ∨
     ∃ g cap cur, fj = .slice (some ⟨g, 0, none⟩) dz.length cap ∧ S g ∧ g ≠ b ∧ w.heap[g]? = some (.cells cur e (0, 0)) ∧ dz.length ≤ cap ∧ cap ≤ maxLen ∧ cur.size = cap ∧
       cur.toList.take dz.length = dz.map fun x => .int .u8 x.toNat)
theorem g_.frame {w an : World} : ∀ {o : o1} {cs : List Value} {S : Nat → Prop}, (∀ b, S b → an.heap[b]? = w.heap[b]?) → g_ w o cs S → g_ an o cs S
 | .mp _, _, _, aU, ⟨r, ms, o2, U, aa, aw, aH⟩ => ⟨r, ms, o2, U, aa, (aU _ aa).trans aw, aH⟩
 | .dp _ _ _, _, _, aU, ⟨b, a, fj, U, aa, aw, aH, aX⟩ => ⟨b, a, fj, U, aa, (aU _ aa).trans aw, aH, aX.imp (fun h => h) fun ⟨g, cap, cur, la, jW, l0, su, o3⟩ => ⟨g, cap, cur, la, jW, l0, (aU _ jW).trans su, o3⟩⟩
theorem g_.mono {w : World} : ∀ {o : o1} {cs : List Value} {S az : Nat → Prop}, (∀ b, S b → az b) → g_ w o cs S → g_ w o cs az
 | .mp _, _, _, _, aU, ⟨r, ms, o2, U, aa, aw⟩ => ⟨r, ms, o2, U, aU _ aa, aw⟩
 | .dp _ _ _, _, _, _, aU, ⟨b, a, fj, U, aa, aw, aH, aX⟩ => ⟨b, a, fj, U, aU _ aa, aw, aH, aX.imp (fun h => h) fun ⟨g, cap, cur, la, jW, l0⟩ => ⟨g, cap, cur, la, aU _ jW, l0⟩⟩
theorem g_.one {w : World} : ∀ {o : o1} {cs : List Value} {S : Nat → Prop}, g_ w o cs S → ∃ v, Value.dF v = true ∧ cs = [v]
 | .mp _, _, _, ⟨_, _, _, h, _⟩ => ⟨_, rfl, h⟩
 | .dp _ _ _, _, _, ⟨_, _, _, h, _⟩ => ⟨_, rfl, h⟩
mutual
def ag (w : World) (F : Nat → Prop) : j → List Value → (Nat → Prop) → Prop
 | .hole, cs, _ => ∃ v, Value.dF v = true ∧ cs = [v]
 | .bool b, cs, _ => cs = [.bool b]
 | .cO, cs, _ => ∃ b, cs = [.bool b]
 | .int k n, cs, _ => cs = [.int k n]
 | .str s, cs, _ => cs = [.string ⟨⟨s⟩⟩]
 | .b7, cs, _ => cs = [.pointer none]
 | .bB, cs, _ => cs = [.slice none 0 0]
 | .slice xs, cs, _ => (xs = [] ∧ ∃ a c, cs = [.slice a 0 c] ∧ c ≤ maxLen ∧ (a = none → c = 0)) ∨
   ∃ b o cap cu sz, cs = [.slice (some ⟨b, o, none⟩) xs.length cap] ∧ F b ∧ xs.length ≤ cap ∧ cap ≤ maxLen ∧ (∀ d ∈ xs, d.wd = sz) ∧
     eA w b o cu ∧ aD w F xs cu (fun _ => False)
 | .aP sz xs, cs, S => (xs = [] ∧ ∃ a, cs = [.slice a 0 0]) ∨
   ∃ b cap cur e fr az, cs = [.slice (some ⟨b, 0, none⟩) xs.length cap] ∧ S b ∧ w.heap[b]? = some (.cells cur e fr) ∧ k_ fr cur.size ∧
     xs.length ≤ cap ∧ cap ≤ maxLen ∧ cur.size = cap * sz ∧ (∀ d ∈ xs, d.wd = sz) ∧ aD w F xs (cur.toList.take (xs.length * sz)) az ∧ (∀ c, az c → S c) ∧ ¬ az b
 | .ref d, cs, _ => ∃ b o cu, cs = [.pointer (some ⟨b, o, none⟩)] ∧ F b ∧ eA w b o cu ∧ ag w F d cu (fun _ => False)
 | .bn d, cs, S => ∃ b cur e fr az, cs = [.pointer (some ⟨b, 0, none⟩)] ∧ S b ∧ w.heap[b]? = some (.cells cur e fr) ∧ k_ fr cur.size ∧
   ag w F d cur.toList az ∧ (∀ c, az c → S c) ∧ ¬ az b
 | .agg ad, cs, S => aD w F ad cs S
 | .tuple ad, cs, S => aD w F ad cs S
 | .fn f caps, cs, _ => ∃ arr : Array Value, cs = [.func (.func f) #[] arr] ∧ (∀ d ∈ caps, d.single = true) ∧ aD w F caps arr.toList (fun _ => False)
 | .h _ _, _, _ => False
 | .al _ _, _, _ => False
 | .J _ _, _, _ => False
 | .b_ o, cs, S => g_ w o cs S
def aD (w : World) (F : Nat → Prop) : List j → List Value → (Nat → Prop) → Prop
 | [], cs, _ => cs = []
 | d :: ds, cs, S => ∃ br bC a_ ca, cs = br ++ bC ∧ ag w F d br a_ ∧ aD w F ds bC ca ∧ (∀ b, a_ b → S b) ∧ (∀ b, ca b → S b) ∧ (∀ b, a_ b → ¬ ca b)
end
theorem cell?_of_block {w an : World} {b : Nat} (h : an.heap[b]? = w.heap[b]?) (o : Nat) : an.cell? ⟨b, o, none⟩ = w.cell? ⟨b, o, none⟩ := by
 simp [World.cell?, h]
theorem eA.frame {w an : World} {b o : Nat} {cs : List Value} (h : an.heap[b]? = w.heap[b]?) (aB : eA w b o cs) : eA an b o cs :=
 fun ay c af => (cell?_of_block h _).trans (aB ay c af)
mutual
theorem ag.frame {w an : World} {F : Nat → Prop} (aK : ∀ b, F b → an.heap[b]? = w.heap[b]?) :
  ∀ (d : j) (cs : List Value) (S : Nat → Prop), (∀ b, S b → an.heap[b]? = w.heap[b]?) → ag w F d cs S → ag an F d cs S
 | .hole, _, _, _, h => h
 | .bool _, _, _, _, h => h
 | .cO, _, _, _, h => h
 | .int _ _, _, _, _, h => h
 | .str _, _, _, _, h => h
 | .b7, _, _, _, h => h
 | .bB, _, _, _, h => h
 | .slice xs, cs, S, aU, h => by
   rw [ag] at h ⊢
   rcases h with h | ⟨b, o, cap, cu, sz, U, aa, aw, aH, aX, bD, bI⟩
   ·exact .inl h
   ·exact .inr ⟨b, o, cap, cu, sz, U, aa, aw, aH, aX, bD.frame (aK _ aa), aD.frame aK xs _ _ (fun _ h => h.elim) bI⟩
 | .aP sz xs, cs, S, aU, h => by
   rw [ag] at h ⊢
   rcases h with h | ⟨b, cap, cur, e, fr, az, U, aa, aw, aH, aX, bD, bI, c4, eG, eB, ha⟩
   ·exact .inl h
   ·exact .inr ⟨b, cap, cur, e, fr, az, U, aa, (aU _ aa).trans aw, aH, aX, bD, bI, c4, aD.frame aK xs _ _ (fun c af => aU _ (eB _ af)) eG, eB, ha⟩
 | .ref d, cs, S, aU, h => by
   rw [ag] at h ⊢
   obtain ⟨b, o, cu, U, aa, aw, aH⟩ := h
   exact ⟨b, o, cu, U, aa, aw.frame (aK _ aa), ag.frame aK d _ _ (fun _ h => h.elim) aH⟩
 | .bn d, cs, S, aU, h => by
   rw [ag] at h ⊢
   obtain ⟨b, cur, e, fr, az, U, aa, aw, aH, aX, bD, bI⟩ := h
   exact ⟨b, cur, e, fr, az, U, aa, (aU _ aa).trans aw, aH, ag.frame aK d _ _ (fun c af => aU _ (bD _ af)) aX, bD, bI⟩
 | .agg ad, cs, S, aU, h => by rw [ag] at h ⊢; exact aD.frame aK ad _ _ aU h
 | .tuple ad, cs, S, aU, h => by rw [ag] at h ⊢; exact aD.frame aK ad _ _ aU h
 | .fn _ caps, cs, S, aU, h => by
   rw [ag] at h ⊢
   obtain ⟨arr, U, aa, aw⟩ := h
   exact ⟨arr, U, aa, aD.frame aK caps _ _ (fun _ h => h.elim) aw⟩
 | .h _ _, _, _, _, h => h
 | .al _ _, _, _, _, h => h
 | .J _ _, _, _, _, h => h
 | .b_ _, _, _, aU, h => g_.frame aU h
theorem aD.frame {w an : World} {F : Nat → Prop} (aK : ∀ b, F b → an.heap[b]? = w.heap[b]?) :
  ∀ (ds : List j) (cs : List Value) (S : Nat → Prop), (∀ b, S b → an.heap[b]? = w.heap[b]?) → aD w F ds cs S → aD an F ds cs S
 | [], _, _, _, h => h
 | d :: ds, cs, S, aU, h => by
   rw [aD] at h ⊢
   obtain ⟨br, bC, a_, ca, U, aa, aw, aH, aX, bD⟩ := h
   exact ⟨br, bC, a_, ca, U, ag.frame aK d _ _ (fun b J => aU _ (aH _ J)) aa, aD.frame aK ds _ _ (fun b J => aU _ (aX _ J)) aw, aH, aX, bD⟩
end
mutual
theorem ag.mono {w : World} {F aT : Nat → Prop} (aK : ∀ b, F b → aT b) :
  ∀ (d : j) (cs : List Value) (S az : Nat → Prop), (∀ b, S b → az b) → ag w F d cs S → ag w aT d cs az
 | .hole, _, _, _, _, h => h
 | .bool _, _, _, _, _, h => h
 | .cO, _, _, _, _, h => h
 | .int _ _, _, _, _, _, h => h
 | .str _, _, _, _, _, h => h
 | .b7, _, _, _, _, h => h
 | .bB, _, _, _, _, h => h
 | .slice xs, cs, S, _, aU, h => by
   rw [ag] at h ⊢
   rcases h with h | ⟨b, o, cap, cu, sz, U, aa, aw, aH, aX, bD, bI⟩
   ·exact .inl h
   ·exact .inr ⟨b, o, cap, cu, sz, U, aK _ aa, aw, aH, aX, bD, aD.mono aK xs _ _ _ (fun _ h => h) bI⟩
 | .aP sz xs, cs, S, _, aU, h => by
   rw [ag] at h ⊢
   rcases h with h | ⟨b, cap, cur, e, fr, az, U, aa, aw, aH, aX, bD, bI, c4, eG, eB, ha⟩
   ·exact .inl h
   ·exact .inr ⟨b, cap, cur, e, fr, az, U, aU _ aa, aw, aH, aX, bD, bI, c4, aD.mono aK xs _ _ _ (fun _ h => h) eG, fun c af => aU _ (eB _ af), ha⟩
 | .ref d, cs, S, _, aU, h => by
   rw [ag] at h ⊢
   obtain ⟨b, o, cu, U, aa, aw, aH⟩ := h
   exact ⟨b, o, cu, U, aK _ aa, aw, ag.mono aK d _ _ _ (fun _ h => h) aH⟩
 | .bn d, cs, S, _, aU, h => by
   rw [ag] at h ⊢
   obtain ⟨b, cur, e, fr, az, U, aa, aw, aH, aX, bD, bI⟩ := h
   exact ⟨b, cur, e, fr, az, U, aU _ aa, aw, aH, ag.mono aK d _ _ _ (fun _ h => h) aX, fun c af => aU _ (bD _ af), bI⟩
 | .agg ad, cs, S, _, aU, h => by rw [ag] at h ⊢; exact aD.mono aK ad _ _ _ aU h
 | .tuple ad, cs, S, _, aU, h => by rw [ag] at h ⊢; exact aD.mono aK ad _ _ _ aU h
 | .fn _ caps, cs, S, _, aU, h => by
   rw [ag] at h ⊢
   obtain ⟨arr, U, aa, aw⟩ := h
   exact ⟨arr, U, aa, aD.mono aK caps _ _ _ (fun _ h => h) aw⟩
 | .h _ _, _, _, _, _, h => h
 | .al _ _, _, _, _, _, h => h
 | .J _ _, _, _, _, _, h => h
 | .b_ _, _, _, _, aU, h => g_.mono aU h
theorem aD.mono {w : World} {F aT : Nat → Prop} (aK : ∀ b, F b → aT b) :
  ∀ (ds : List j) (cs : List Value) (S az : Nat → Prop), (∀ b, S b → az b) → aD w F ds cs S → aD w aT ds cs az
 | [], _, _, _, _, h => h
 | d :: ds, cs, S, _, aU, h => by
   rw [aD] at h ⊢
   obtain ⟨br, bC, a_, ca, U, aa, aw, aH, aX, bD⟩ := h
   exact ⟨br, bC, a_, ca, U, ag.mono aK d _ _ _ (fun _ h => h) aa, aD.mono aK ds _ _ _ (fun _ h => h) aw, fun b J => aU _ (aH _ J), fun b J => aU _ (aX _ J), bD⟩
end
mutual
theorem ag.length {w : World} {F : Nat → Prop} : ∀ (d : j) (cs : List Value) (S : Nat → Prop), ag w F d cs S → cs.length = d.wd
 | .hole, cs, S, h => by rw [ag] at h; obtain ⟨v, _, rfl⟩ := h; rfl
 | .bool _, cs, S, h => by rw [ag] at h; subst h; rfl
 | .cO, cs, S, h => by rw [ag] at h; obtain ⟨b, rfl⟩ := h; rfl
 | .int _ _, cs, S, h => by rw [ag] at h; subst h; rfl
 | .str _, cs, S, h => by rw [ag] at h; subst h; rfl
 | .b7, cs, S, h => by rw [ag] at h; subst h; rfl
 | .bB, cs, S, h => by rw [ag] at h; subst h; rfl
 | .slice xs, cs, S, h => by
   rw [ag] at h
   rcases h with ⟨_, a, c, rfl, _⟩ | ⟨b, o, cap, cu, sz, rfl, _⟩ <;> rfl
 | .aP sz xs, cs, S, h => by
   rw [ag] at h
   rcases h with ⟨_, a, rfl⟩ | ⟨b, cap, cur, e, fr, az, rfl, _⟩ <;> rfl
 | .ref d, cs, S, h => by rw [ag] at h; obtain ⟨b, o, cu, rfl, _⟩ := h; rfl
 | .bn d, cs, S, h => by rw [ag] at h; obtain ⟨b, o, cu, _, _, rfl, _⟩ := h; rfl
 | .agg ad, cs, S, h => by rw [ag] at h; exact aD.length ad _ _ h
 | .tuple ad, cs, S, h => by rw [ag] at h; exact aD.length ad _ _ h
 | .fn _ _, cs, S, h => by rw [ag] at h; obtain ⟨arr, rfl, _⟩ := h; rfl
 | .h _ _, cs, S, h => by rw [ag] at h; exact h.elim
 | .al _ _, cs, S, h => by rw [ag] at h; exact h.elim
 | .J _ _, cs, S, h => by rw [ag] at h; exact h.elim
 | .b_ _, cs, S, h => by rw [ag] at h; obtain ⟨v, _, rfl⟩ := g_.one h; rfl
theorem aD.length {w : World} {F : Nat → Prop} : ∀ (ds : List j) (cs : List Value) (S : Nat → Prop), aD w F ds cs S → cs.length = j.cn ds
 | [], cs, S, h => by rw [aD] at h; subst h; rfl
 | d :: ds, cs, S, h => by
   rw [aD] at h
   obtain ⟨br, bC, a_, ca, rfl, aa, aw, _⟩ := h
   rw [List.length_append, ag.length d _ _ aa, aD.length ds _ _ aw, j.cn]
end
mutual
def j.share : j → j
 | .aP _ xs => .slice (j.shares xs)
 | .bn d => .ref d.share
 | .slice xs => .slice (j.shares xs)
 | .ref d => .ref d.share
 | .agg ad => .agg (j.shares ad)
 | .tuple ad => .tuple (j.shares ad)
 | .b_ _ => .hole
 | d => d
def j.shares : List j → List j
 | [] => []
 | d :: ds => d.share :: j.shares ds
end
theorem j.l1 (ds : List j) : j.shares ds = ds.map j.share := by
 induction ds with
 | nil => rfl
 | cons d ds ih => simp [j.shares, ih]
mutual
theorem j.qJ : ∀ d : j, d.share.wd = d.wd
 | .hole => rfl
 | .bool _ => rfl
 | .cO => rfl
 | .int _ _ => rfl
 | .str _ => rfl
 | .b7 => rfl
 | .bB => rfl
 | .slice _ => rfl
 | .aP _ _ => rfl
 | .ref _ => rfl
 | .bn _ => rfl
 | .agg ad => by simp only [j.share, j.wd]; exact j.sv ad
 | .tuple ad => by simp only [j.share, j.wd]; exact j.sv ad
 | .fn _ _ => rfl
 | .h _ _ => rfl
 | .al _ _ => rfl
 | .J _ _ => rfl
 | .b_ _ => rfl
theorem j.sv : ∀ ds : List j, j.cn (j.shares ds) = j.cn ds
 | [] => rfl
 | d :: ds => by simp only [j.shares, j.cn]; rw [j.qJ d, j.sv ds]
end
theorem nd {w : World} {b : Nat} {cur : Array Value} {e : TypeId} {fr : Nat × Nat} (h : w.heap[b]? = some (.cells cur e fr)) (n : Nat) : eA w b 0 (cur.toList.take n) := by
 intro ay c af
 rw [List.getElem?_take] at af
 split at af
 ·simp [World.cell?, h]; simpa using af
 ·cases af
mutual
theorem ag.shared {w : World} {F aT : Nat → Prop} (aK : ∀ b, F b → aT b) :
  ∀ (d : j) (cs : List Value) (S : Nat → Prop), (∀ b, S b → aT b) → ag w F d cs S → ag w aT d.share cs (fun _ => False)
 | .hole, _, _, _, h => h
 | .bool _, _, _, _, h => h
 | .cO, _, _, _, h => h
 | .int _ _, _, _, _, h => h
 | .str _, _, _, _, h => h
 | .b7, _, _, _, h => h
 | .bB, _, _, _, h => h
 | .slice xs, cs, S, aU, h => by
   rw [j.share, ag]
   rw [ag] at h
   rcases h with ⟨rfl, a, c, rfl, af⟩ | ⟨b, o, cap, cu, sz, U, aa, aw, aH, aX, bD, bI⟩
   ·exact .inl ⟨rfl, a, c, rfl, af⟩
   ·refine .inr ⟨b, o, cap, cu, sz, ?_, aK _ aa, ?_, aH, ?_, bD, aD.shared aK xs _ _ (fun _ h => h.elim) bI⟩
    ·simpa [j.l1] using U
    ·simpa [j.l1] using aw
    ·intro d ab
     rw [j.l1] at ab
     obtain ⟨aO, ea, rfl⟩ := List.mem_map.1 ab
     rw [j.qJ]; exact aX _ ea
 | .aP sz xs, cs, S, aU, h => by
   rw [j.share, ag]
   rw [ag] at h
   rcases h with ⟨rfl, a, rfl⟩ | ⟨b, cap, cur, e, fr, az, U, aa, aw, aH, aX, bD, bI, c4, eG, eB, ha⟩
   ·exact .inl ⟨rfl, a, 0, rfl, Nat.zero_le _, fun _ => rfl⟩
   ·refine .inr ⟨b, 0, cap, _, sz, ?_, aU _ aa, ?_, bD, ?_, nd aw _, aD.shared aK xs _ _ (fun c af => aU _ (eB _ af)) eG⟩
    ·simpa [j.l1] using U
    ·simpa [j.l1] using aX
    ·intro d ab
     rw [j.l1] at ab
     obtain ⟨aO, ea, rfl⟩ := List.mem_map.1 ab
     rw [j.qJ]; exact c4 _ ea
 | .ref d, cs, S, aU, h => by
   rw [j.share, ag]
   rw [ag] at h
   obtain ⟨b, o, cu, U, aa, aw, aH⟩ := h
   exact ⟨b, o, cu, U, aK _ aa, aw, ag.shared aK d _ _ (fun _ h => h.elim) aH⟩
 | .bn d, cs, S, aU, h => by
   rw [j.share, ag]
   rw [ag] at h
   obtain ⟨b, cur, e, fr, az, U, aa, aw, aH, aX, bD, bI⟩ := h
   refine ⟨b, 0, cur.toList, U, aU _ aa, ?_, ag.shared aK d _ _ (fun c af => aU _ (bD _ af)) aX⟩
   have := nd aw cur.toList.length
   rwa [List.take_length] at this
 | .agg ad, cs, S, aU, h => by rw [j.share, ag]; rw [ag] at h; exact aD.shared aK ad _ _ aU h
 | .tuple ad, cs, S, aU, h => by rw [j.share, ag]; rw [ag] at h; exact aD.shared aK ad _ _ aU h
 | .fn f caps, cs, S, aU, h => by
   show ag w aT (.fn f caps) cs _
   rw [ag] at h ⊢
   obtain ⟨arr, U, aa, aw⟩ := h
   exact ⟨arr, U, aa, aD.mono aK caps _ _ _ (fun _ h => h) aw⟩
 | .h _ _, _, _, _, h => h
 | .al _ _, _, _, _, h => h
 | .J _ _, _, _, _, h => h
 | .b_ _, cs, S, aU, h => by rw [ag] at h; rw [j.share, ag]; exact g_.one h
theorem aD.shared {w : World} {F aT : Nat → Prop} (aK : ∀ b, F b → aT b) :
  ∀ (ds : List j) (cs : List Value) (S : Nat → Prop), (∀ b, S b → aT b) → aD w F ds cs S → aD w aT (j.shares ds) cs (fun _ => False)
 | [], _, _, _, h => h
 | d :: ds, cs, S, aU, h => by
   simp only [j.shares]
   rw [aD] at h ⊢
   obtain ⟨br, bC, a_, ca, U, aa, aw, aH, aX, bD⟩ := h
   exact ⟨br, bC, _, _, U, ag.shared aK d _ _ (fun b J => aU _ (aH _ J)) aa, aD.shared aK ds _ _ (fun b J => aU _ (aX _ J)) aw, fun _ h => h, fun _ h => h, fun _ h => h.elim⟩
end
def j.sub : List Nat → j → Option j
 | [], d => some d
 | k :: q, .agg ad => match ad[k]? with
   | some d => j.sub q d
   | none => none
 | k :: q, .tuple ad => match ad[k]? with
   | some d => j.sub q d
   | none => none
 | i :: q, .aP _ xs => match xs[i]? with
   | some d => j.sub q d
   | none => none
 | 0 :: q, .bn d => j.sub q d
 | _ :: _, _ => none
def j.put : List Nat → j → j → j
 | [], n, _ => n
 | k :: q, n, .agg ad => match ad[k]? with
   | some d => .agg (ad.set k (j.put q n d))
   | none => .agg ad
 | k :: q, n, .tuple ad => match ad[k]? with
   | some d => .tuple (ad.set k (j.put q n d))
   | none => .tuple ad
 | i :: q, n, .aP sz xs => match xs[i]? with
   | some d => .aP sz (xs.set i (j.put q n d))
   | none => .aP sz xs
 | 0 :: q, n, .bn d => .bn (j.put q n d)
 | _ :: _, _, d => d
def h9 (w : World) (b o n : Nat) : List Value := (List.range n).map fun ay => (w.cell? ⟨b, o + ay, none⟩).getD undef
theorem eA.h9 {w : World} {b o : Nat} {cs : List Value} (h : eA w b o cs) : h9 w b o cs.length = cs := by
 unfold b1.h9
 apply List.ext_getElem?
 intro i
 rw [List.getElem?_map]
 by_cases ax : i < cs.length
 ·have : cs[i]? = some cs[i] := List.getElem?_eq_getElem ax
  simp [ax, h i _ this]
 ·simp [ax]
def bU (w : World) : List Nat → j → List Value → Option (Nat × Nat) → Option (j × List Value × Option (Nat × Nat))
 | [], d, cs, a => some (d, cs, a)
 | k :: q, .agg ad, cs, a => match ad[k]? with
   | some d => bU w q d ((cs.drop (j.cn (ad.take k))).take d.wd) (a.map fun l => (l.1, l.2 + j.cn (ad.take k)))
   | none => none
 | k :: q, .tuple ad, cs, a => match ad[k]? with
   | some d => bU w q d ((cs.drop (j.cn (ad.take k))).take d.wd) (a.map fun l => (l.1, l.2 + j.cn (ad.take k)))
   | none => none
 | i :: q, .aP sz xs, cs, _ => match xs[i]?, cs with
   | some d, [.slice (some ⟨b, _, _⟩) _ _] => bU w q d (h9 w b (i * sz) sz) (some (b, i * sz))
   | _, _ => none
 | 0 :: q, .bn d, cs, _ => match cs with
   | [.pointer (some ⟨b, _, _⟩)] => bU w q d (h9 w b 0 d.wd) (some (b, 0))
   | _ => none
 | _ :: _, _, _, _ => none
theorem l3 (br dc bC : List Value) (n m : Nat) (U : br.length = n) (aa : dc.length = m) : ((br ++ (dc ++ bC)).drop n).take m = dc := by
 rw [List.drop_left' U, List.take_left' aa]
theorem aD.pick {w : World} {F : Nat → Prop} : ∀ (ds : List j) (cs : List Value) (S : Nat → Prop) (k : Nat) (d : j),
  aD w F ds cs S → ds[k]? = some d → ∃ (br dc bC : List Value) (a_ eC : Nat → Prop), cs = br ++ (dc ++ bC) ∧ br.length = j.cn (ds.take k) ∧
   (∀ b, a_ b → S b) ∧ (∀ b, eC b → S b) ∧ (∀ b, a_ b → ¬ eC b) ∧ ag w F d dc eC ∧
   ∀ (an : World) (aO : j) (l4 : List Value) (az : Nat → Prop), (∀ b, F b → an.heap[b]? = w.heap[b]?) → (∀ b, a_ b → an.heap[b]? = w.heap[b]?) →
     ag an F aO l4 az → (∀ b, az b → ¬ a_ b) → aD an F (ds.set k aO) (br ++ (l4 ++ bC)) (fun b => a_ b ∨ az b)
 | [], _, _, _, _, _, ai => by simp at ai
 | x :: ds, cs, S, 0, d, h, ai => by
   rw [aD] at h
   obtain ⟨br, bC, et, dG, rfl, U, aa, bs, J, hr⟩ := h
   simp at ai; subst ai
   refine ⟨[], br, bC, dG, et, rfl, rfl, J, bs, fun b J bs => hr _ bs J, U, ?_⟩
   intro an aO l4 az aK aU ab fk
   simp only [List.set_cons_zero, List.nil_append]
   rw [aD]
   exact ⟨l4, bC, az, dG, rfl, ab, aD.frame aK _ _ _ aU aa, fun b h => .inr h, fun b h => .inl h, fun b h => fk b h⟩
 | x :: ds, cs, S, k + 1, d, h, ai => by
   rw [aD] at h
   obtain ⟨iF, Ax, et, dG, rfl, U, aa, bs, J, hr⟩ := h
   simp only [List.getElem?_cons_succ] at ai
   have aI := ag.length _ _ _ U
   obtain ⟨br, dc, bC, a_, eC, rfl, sw, la, jW, l0, o3, sx⟩ := aD.pick ds Ax dG k d aa ai
   refine ⟨iF ++ br, dc, bC, fun b => et b ∨ a_ b, eC, by simp, by simp [j.cn, aI, sw], ?_, fun b h => J _ (jW _ h), ?_, o3, ?_⟩
   ·rintro b (h | h)
    ·exact bs _ h
    ·exact J _ (la _ h)
   ·rintro b (h | h) ai
    ·exact hr _ h (jW _ ai)
    ·exact l0 _ h ai
   ·intro an aO l4 az aK aU ab fk
    simp only [List.set_cons_succ]
    rw [aD]
    refine ⟨iF, br ++ (l4 ++ bC), et, fun b => a_ b ∨ az b, by simp, ag.frame aK _ _ _ (fun b J => aU b (.inl J)) U,
     sx an aO l4 az aK (fun b J => aU b (.inr J)) ab (fun b J af => fk b J (.inr af)), fun b h => .inl (.inl h), ?_, ?_⟩
    ·rintro b (h | h)
     ·exact .inl (.inr h)
     ·exact .inr h
    ·rintro b h (aS | aS)
     ·exact hr _ h (la _ aS)
     ·exact fk _ aS (.inl h)
theorem sy : ∀ (ad : List j) (k : Nat) (x y : j), ad[k]? = some x → y.wd = x.wd → j.cn (ad.set k y) = j.cn ad := by
 intro ad
 induction ad with
 | nil => intro k x y h; simp at h
 | cons a ad ih =>
   intro k x y h e
   cases k with
   | zero => simp at h; subst h; simp [j.cn, e]
   | succ k => simp at h; simp [j.cn, ih k x y h e]
theorem l5 {sz : Nat} : ∀ (xs : List j), (∀ d ∈ xs, d.wd = sz) → j.cn xs = xs.length * sz
 | [], _ => by simp [j.cn]
 | x :: xs, h => by
   rw [j.cn, h x (by simp), l5 xs (fun d ab => h d (by simp [ab])), List.length_cons, Nat.add_mul, Nat.one_mul, Nat.add_comm]
theorem j.nf : ∀ (q : List Nat) (av d aO : j), j.sub q av = some d → aO.wd = d.wd → (j.put q aO av).wd = av.wd := by
 intro q
 induction q with
 | nil => intro av d aO h e; simp [j.sub] at h; subst h; simpa [j.put] using e
 | cons k q ih =>
   intro av d aO h e
   cases av with
   | agg ad =>
     simp only [j.sub] at h
     split at h
     ·rename_i x aj
      simp only [j.put, aj, j.wd]
      exact sy _ _ _ _ aj (ih _ _ _ h e)
     ·cases h
   | tuple ad =>
     simp only [j.sub] at h
     split at h
     ·rename_i x aj
      simp only [j.put, aj, j.wd]
      exact sy _ _ _ _ aj (ih _ _ _ h e)
     ·cases h
   | aP sz xs =>
     simp only [j.sub] at h
     split at h
     ·rename_i x aj
      simp only [j.put, aj, j.wd]
     ·cases h
   | bn x =>
     cases k with
     | zero => simp only [j.put, j.wd]
     | succ k => simp [j.sub] at h
   | _ => simp [j.sub] at h
theorem sA {sz : Nat} {xs : List j} {i : Nat} {y : j} (h : ∀ d ∈ xs, d.wd = sz) (aY : y.wd = sz) : ∀ d ∈ xs.set i y, d.wd = sz := by
 intro d ab
 rcases List.mem_or_eq_of_mem_set ab with ab | rfl
 ·exact h d ab
 ·exact aY
theorem ng {w : World} {b : Nat} {cur : Array Value} {e : TypeId} {fr : Nat × Nat} (h : w.heap[b]? = some (.cells cur e fr)) {l m r : List Value} (af : cur.toList = l ++ (m ++ r)) :
  h9 w b l.length m.length = m := by
 refine eA.h9 (fun ay c bx => ?_)
 have cx : ay < m.length := (List.getElem?_eq_some_iff.1 bx).1
 have : cur.toList[l.length + ay]? = some c := by
  rw [af, List.getElem?_append_right (by omega), List.getElem?_append_left (by omega)]
  rw [← bx]; congr 1; omega
 simp [World.cell?, h]
 simpa using this
def Flat (w : World) (F : Nat → Prop) (q : List Nat) (av : j) (cs : List Value) (a : Option (Nat × Nat)) (d : j) (bH : List Value) (bK : Option (Nat × Nat)) (cG : Nat → Prop) : Prop :=
 ∃ l r : List Value, cs = l ++ (bH ++ r) ∧ bK = a.map (fun x => (x.1, x.2 + l.length)) ∧
   ∀ (an : World) (aO : j) (di : List Value) (az : Nat → Prop), (∀ b, F b → an.heap[b]? = w.heap[b]?) → (∀ b, cG b → an.heap[b]? = w.heap[b]?) →
     aO.wd = d.wd → ag an F aO di az → (∀ b, az b → ¬ cG b) → ag an F (j.put q aO av) (l ++ (di ++ r)) (fun b => cG b ∨ az b)
def Deep (w : World) (F : Nat → Prop) (q : List Nat) (av : j) (cs : List Value) (d : j) (bH : List Value) (bK : Option (Nat × Nat)) (cG : Nat → Prop) : Prop :=
 ∃ (b : Nat) (cur : Array Value) (e : TypeId) (fr : Nat × Nat) (l r : List Value), bK = some (b, l.length) ∧ cG b ∧ w.heap[b]? = some (.cells cur e fr) ∧ k_ fr cur.size ∧ cur.toList = l ++ (bH ++ r) ∧
   ∀ (an : World) (aO : j) (di : List Value) (az : Nat → Prop), (∀ b, F b → an.heap[b]? = w.heap[b]?) → (∀ c, cG c → c ≠ b → an.heap[c]? = w.heap[c]?) →
     an.heap[b]? = some (.cells (l ++ (di ++ r)).toArray e fr) →
     aO.wd = d.wd → ag an F aO di az → (∀ b, az b → ¬ cG b) → ag an F (j.put q aO av) cs (fun b => cG b ∨ az b)
theorem ctx {w : World} {F : Nat → Prop} : ∀ (q : List Nat) (av : j) (cs : List Value) (S : Nat → Prop) (a : Option (Nat × Nat)) (d : j),
  ag w F av cs S → j.sub q av = some d → ∃ (bH : List Value) (bK : Option (Nat × Nat)) (cG dV : Nat → Prop), bU w q av cs a = some (d, bH, bK) ∧
   (∀ b, cG b → S b) ∧ (∀ b, dV b → S b) ∧ (∀ b, cG b → ¬ dV b) ∧ ag w F d bH dV ∧ (Flat w F q av cs a d bH bK cG ∨ Deep w F q av cs d bH bK cG) := by
 intro q
 induction q with
 | nil =>
   intro av cs S a d h ab
   simp [j.sub] at ab; subst ab
   refine ⟨cs, a, fun _ => False, S, rfl, fun _ h => h.elim, fun _ h => h, fun _ h => h.elim, h, .inl ⟨[], [], by simp, ?_, ?_⟩⟩
   ·cases a <;> simp
   ·intro an aO di az _ _ hw ea _
    simp only [j.put, List.nil_append, List.append_nil]
    exact ag.mono (fun _ h => h) _ _ _ _ (fun b h => .inr h) ea
 | cons k q ih =>
   have fields : ∀ (mk : List j → j) (sB : ∀ (w : World) (F : Nat → Prop) (ad : List j) (cs : List Value) (S : Nat → Prop), ag w F (mk ad) cs S = aD w F ad cs S) (ad : List j) (cs : List Value) (S : Nat → Prop) (a : Option (Nat × Nat)) (x d : j),
     (gx : ∀ aO, j.put (k :: q) aO (mk ad) = mk (ad.set k (j.put q aO x))) → aD w F ad cs S → ad[k]? = some x → j.sub q x = some d →
     ∃ (bH : List Value) (bK : Option (Nat × Nat)) (cG dV : Nat → Prop), bU w q x ((cs.drop (j.cn (ad.take k))).take x.wd) (a.map fun l => (l.1, l.2 + j.cn (ad.take k))) = some (d, bH, bK) ∧
     (∀ b, cG b → S b) ∧ (∀ b, dV b → S b) ∧ (∀ b, cG b → ¬ dV b) ∧ ag w F d bH dV ∧ (Flat w F (k :: q) (mk ad) cs a d bH bK cG ∨ Deep w F (k :: q) (mk ad) cs d bH bK cG) := by
    intro mk sB ad cs S a x d gx h aj ab
    obtain ⟨br, dc, bC, a_, eC, rfl, eu, dq, eb, eN, dj, hs⟩ := aD.pick ad cs S k x h aj
    have aI := ag.length _ _ _ dj
    rw [l3 br dc bC _ _ eu aI]
    obtain ⟨bH, bK, cG, dV, g0, g1, g2, g3, g4, g5⟩ := ih x _ eC (a.map fun l => (l.1, l.2 + j.cn (ad.take k))) d dj ab
    refine ⟨bH, bK, fun b => a_ b ∨ cG b, dV, g0, ?_, fun b J => eb _ (g2 _ J), ?_, g4, ?_⟩
    ·rintro b (h | h)
     ·exact dq _ h
     ·exact eb _ (g1 _ h)
    ·rintro b (h | h) ab
     ·exact eN _ h (g2 _ ab)
     ·exact g3 _ h ab
    ·have cT : ∀ (b : Nat) (az : Nat → Prop), (a_ b ∨ cG b ∨ az b) → ((a_ b ∨ cG b) ∨ az b) := by
      rintro b az (J | J | J)
      ·exact .inl (.inl J)
      ·exact .inl (.inr J)
      ·exact .inr J
     rcases g5 with ⟨l, r, rfl, aF, a6⟩ | ⟨b, cur, e, fr, l, r, aC, aF, a6, bQ, bT, bc⟩
     ·refine .inl ⟨br ++ l, r ++ bC, by simp, ?_, ?_⟩
      ·rw [aF, ← eu]; cases a <;> simp [Nat.add_assoc]
      ·intro an aO di az aK aU hw ea fk
       have c5 := a6 an aO di az aK (fun b J => aU b (.inr J)) hw ea (fun b J af => fk b J (.inr af))
       have cr := hs an _ _ _ aK (fun b J => aU b (.inl J)) c5 (by
        rintro b (J | J) U
        ·exact eN _ U (g1 _ J)
        ·exact fk _ J (.inl U))
       rw [gx, sB]
       have := aD.mono (fun _ h => h) _ _ _ _ (fun b => cT b az) cr
       simpa using this
     ·refine .inr ⟨b, cur, e, fr, l, r, aC, .inr aF, a6, bQ, bT, ?_⟩
      intro an aO di az aK aU ht hw ea fk
      have c5 := bc an aO di az aK (fun c af => aU c (.inr af)) ht hw ea (fun b J af => fk b J (.inr af))
      have cr := hs an _ _ _ aK (fun c af => aU c (.inl af) (by rintro rfl; exact eN _ af (g1 _ aF))) c5 (by
        rintro b (J | J) U
        ·exact eN _ U (g1 _ J)
        ·exact fk _ J (.inl U))
      rw [gx, sB]
      exact aD.mono (fun _ h => h) _ _ _ _ (fun b => cT b az) cr
   intro av cs S a d h ab
   cases av with
   | agg ad =>
     simp only [j.sub] at ab
     split at ab
     ·rename_i x aj
      rw [ag] at h
      have := fields .agg (fun _ _ _ _ _ => by rw [ag]) ad cs S a x d (fun aO => by simp only [j.put, aj]) h aj ab
      simpa only [bU, aj] using this
     ·cases ab
   | tuple ad =>
     simp only [j.sub] at ab
     split at ab
     ·rename_i x aj
      rw [ag] at h
      have := fields .tuple (fun _ _ _ _ _ => by rw [ag]) ad cs S a x d (fun aO => by simp only [j.put, aj]) h aj ab
      simpa only [bU, aj] using this
     ·cases ab
   | aP sz xs =>
     simp only [j.sub] at ab
     split at ab
     ·rename_i x aj
      rw [ag] at h
      rcases h with ⟨rfl, _, rfl⟩ | ⟨b, cap, cur, e, fr, cf, rfl, aa, aw, aH, aX, bD, bI, c4, eG, eB, ha⟩
      ·simp at aj
      ·obtain ⟨br, dc, bC, a_, eC, p, eu, dq, eb, eN, dj, hs⟩ := aD.pick xs _ cf k x eG aj
       have aI := ag.length _ _ _ dj
       have Ay : k < xs.length := (List.getElem?_eq_some_iff.1 aj).1
       have o4 : x.wd = sz := c4 x (List.mem_of_getElem? aj)
       have bo : j.cn (xs.take k) = k * sz := by
        rw [l5 _ (fun d ab => c4 d (List.mem_of_mem_take ab))]
        rw [List.length_take, Nat.min_eq_left (by omega)]
       obtain ⟨ku, gL⟩ : ∃ ku, cur.toList = br ++ (dc ++ (bC ++ ku)) := by
        refine ⟨cur.toList.drop (xs.length * sz), ?_⟩
        have := (List.take_append_drop (xs.length * sz) cur.toList).symm
        rw [p] at this
        simpa using this
       have fN : h9 w b (k * sz) sz = dc := by
        have := ng aw gL
        rwa [eu, bo, aI, o4] at this
       obtain ⟨bH, bK, cG, dV, g0, g1, g2, g3, g4, g5⟩ := ih x _ eC (some (b, k * sz)) d dj ab
       have gx : ∀ aO, j.put (k :: q) aO (.aP sz xs) = .aP sz (xs.set k (j.put q aO x)) := fun aO => by simp only [j.put, aj]
       refine ⟨bH, bK, fun c => c = b ∨ a_ c ∨ cG c, dV, ?_, ?_, fun c af => eB _ (eb _ (g2 _ af)), ?_, g4, .inr ?_⟩
       ·simp only [bU, aj, fN]; exact g0
       ·rintro c (rfl | h | h)
        ·exact aa
        ·exact eB _ (dq _ h)
        ·exact eB _ (eb _ (g1 _ h))
       ·rintro c (rfl | h | h) ab
        ·exact ha (eb _ (g2 _ ab))
        ·exact eN _ h (g2 _ ab)
        ·exact g3 _ h ab
       ·have hO : ∀ aO, aO.wd = d.wd → (j.put q aO x).wd = sz := fun aO hw => (j.nf q x d aO ab hw).trans o4
        rcases g5 with ⟨l, r, rfl, aF, a6⟩ | ⟨c9, qK, eh, sC, l, r, aC, aF, a6, bQ, bT, bc⟩
        ·refine ⟨b, cur, e, fr, br ++ l, r ++ (bC ++ ku), ?_, .inl rfl, aw, aH, ?_, ?_⟩
         ·rw [aF]; simp [eu, bo]
         ·rw [gL]; simp
         ·intro an aO di az aK aU ht hw ea fk
          have c5 := a6 an aO di az aK (fun c af => aU c (.inr (.inr af)) (by rintro rfl; exact ha (eb _ (g1 _ af)))) hw ea (fun b J af => fk b J (.inr (.inr af)))
          have cr := hs an _ _ _ aK (fun c af => aU c (.inr (.inl af)) (by rintro rfl; exact ha (dq _ af))) c5 (by
           rintro b (J | J) U
           ·exact eN _ U (g1 _ J)
           ·exact fk _ J (.inr (.inl U)))
          have o5 := ag.length _ _ _ ea
          have o6 := ag.length _ _ _ g4
          rw [gx, ag]
          refine .inr ⟨b, cap, _, e, fr, fun b => a_ b ∨ cG b ∨ az b, by simp, .inl (.inl rfl), ht, ?_, by simpa using aX, bD, ?_, sA c4 (hO aO hw), ?_, ?_, ?_⟩
          ·have : (br ++ l ++ (di ++ (r ++ (bC ++ ku)))).toArray.size = cur.size := by
            have : cur.size = cur.toList.length := by simp
            rw [this, gL]; simp [o5, o6, hw]
           rw [this]; exact aH
          ·rw [← bI]
           have : cur.size = cur.toList.length := by simp
           rw [this, gL]; simp [o5, o6, hw]
          ·have hlen : (br ++ (l ++ (di ++ r) ++ bC)).length = xs.length * sz := by
            have := congrArg List.length p
            rw [List.length_take, Nat.min_eq_left (by simp [bI]; exact Nat.mul_le_mul_right _ aX)] at this
            rw [this]; simp [o5, o6, hw]
           have : (br ++ l ++ (di ++ (r ++ (bC ++ ku)))) = (br ++ (l ++ (di ++ r) ++ bC)) ++ ku := by simp
           rw [List.length_set]
           simp only [this]
           rw [List.take_left' hlen]
           exact cr
          ·rintro c (h | h | h)
           ·exact .inl (.inr (.inl h))
           ·exact .inl (.inr (.inr h))
           ·exact .inr h
          ·rintro (h | h | h)
           ·exact ha (dq _ h)
           ·exact ha (eb _ (g1 _ h))
           ·exact fk _ h (.inl rfl)
        ·refine ⟨c9, qK, eh, sC, l, r, aC, .inr (.inr aF), a6, bQ, bT, ?_⟩
         intro an aO di az aK aU ht hw ea fk
         have c5 := bc an aO di az aK (fun c af cj => aU c (.inr (.inr af)) cj) ht hw ea (fun b J af => fk b J (.inr (.inr af)))
         have cj : ∀ c, a_ c → c ≠ c9 := by rintro c af rfl; exact eN _ af (g1 _ aF)
         have cr := hs an _ _ _ aK (fun c af => aU c (.inr (.inl af)) (cj c af)) c5 (by
          rintro b (J | J) U
          ·exact eN _ U (g1 _ J)
          ·exact fk _ J (.inr (.inl U)))
         have sD : b ≠ c9 := by rintro rfl; exact ha (eb _ (g1 _ aF))
         rw [gx, ag]
         refine .inr ⟨b, cap, cur, e, fr, fun b => a_ b ∨ cG b ∨ az b, by simp, .inl (.inl rfl), (aU b (.inl rfl) sD).trans aw, aH, by simpa using aX, bD, bI, sA c4 (hO aO hw), ?_, ?_, ?_⟩
         ·rw [List.length_set, p]; exact cr
         ·rintro c (h | h | h)
          ·exact .inl (.inr (.inl h))
          ·exact .inl (.inr (.inr h))
          ·exact .inr h
         ·rintro (h | h | h)
          ·exact ha (dq _ h)
          ·exact ha (eb _ (g1 _ h))
          ·exact fk _ h (.inl rfl)
     ·cases ab
   | bn x =>
     cases k with
     | succ k => simp [j.sub] at ab
     | zero =>
       simp only [j.sub] at ab
       rw [ag] at h
       obtain ⟨b, cur, e, fr, cf, rfl, aa, aw, aH, aX, bD, bI⟩ := h
       have aI := ag.length _ _ _ aX
       have fN : h9 w b 0 x.wd = cur.toList := by
        have := ng (l := []) (m := cur.toList) (r := []) aw (by simp)
        rwa [aI] at this
       obtain ⟨bH, bK, cG, dV, g0, g1, g2, g3, g4, g5⟩ := ih x _ cf (some (b, 0)) d aX ab
       have gx : ∀ aO, j.put (0 :: q) aO (.bn x) = .bn (j.put q aO x) := fun aO => rfl
       refine ⟨bH, bK, fun c => c = b ∨ cG c, dV, ?_, ?_, fun c af => bD _ (g2 _ af), ?_, g4, .inr ?_⟩
       ·simp only [bU, fN]; exact g0
       ·rintro c (rfl | h)
        ·exact aa
        ·exact bD _ (g1 _ h)
       ·rintro c (rfl | h) ab
        ·exact bI (g2 _ ab)
        ·exact g3 _ h ab
       ·rcases g5 with ⟨l, r, aC, aF, a6⟩ | ⟨c9, qK, eh, sC, l, r, aC, aF, a6, bQ, bT, bc⟩
        ·refine ⟨b, cur, e, fr, l, r, ?_, .inl rfl, aw, aH, aC, ?_⟩
         ·rw [aF]; simp
         ·intro an aO di az aK aU ht hw ea fk
          have c5 := a6 an aO di az aK (fun c af => aU c (.inr af) (by rintro rfl; exact bI (g1 _ af))) hw ea (fun b J af => fk b J (.inr af))
          have o5 := ag.length _ _ _ ea
          have o6 := ag.length _ _ _ g4
          rw [gx, ag]
          refine ⟨b, _, e, fr, fun b => cG b ∨ az b, rfl, .inl (.inl rfl), ht, ?_, c5, ?_, ?_⟩
          ·have : (l ++ (di ++ r)).toArray.size = cur.size := by
            have : cur.size = cur.toList.length := by simp
            rw [this, aC]; simp [o5, o6, hw]
           rw [this]; exact aH
          ·rintro c (h | h)
           ·exact .inl (.inr h)
           ·exact .inr h
          ·rintro (h | h)
           ·exact bI (g1 _ h)
           ·exact fk _ h (.inl rfl)
        ·refine ⟨c9, qK, eh, sC, l, r, aC, .inr aF, a6, bQ, bT, ?_⟩
         intro an aO di az aK aU ht hw ea fk
         have c5 := bc an aO di az aK (fun c af cj => aU c (.inr af) cj) ht hw ea (fun b J af => fk b J (.inr af))
         have sD : b ≠ c9 := by rintro rfl; exact bI (g1 _ aF)
         rw [gx, ag]
         refine ⟨b, cur, e, fr, fun b => cG b ∨ az b, rfl, .inl (.inl rfl), (aU b (.inl rfl) sD).trans aw, aH, c5, ?_, ?_⟩
         ·rintro c (h | h)
          ·exact .inl (.inr h)
          ·exact .inr h
         ·rintro (h | h)
          ·exact bI (g1 _ h)
          ·exact fk _ h (.inl rfl)
   | _ => simp [j.sub] at ab
mutual
def j.plain : j → Bool
 | .aP _ _ => false
 | .bn _ => false
 | .b_ _ => false
 | .agg ad => j.dd ad
 | .tuple ad => j.dd ad
 | _ => true
def j.dd : List j → Bool
 | [] => true
 | d :: ds => d.plain && j.dd ds
end
mutual
def j.bO : j → j
 | .aP _ _ => .hole
 | .bn _ => .hole
 | .b_ _ => .hole
 | .agg ad => .agg (j.gM ad)
 | .tuple ad => .tuple (j.gM ad)
 | d => d
def j.gM : List j → List j
 | [] => []
 | d :: ds => d.bO :: j.gM ds
end
mutual
theorem j.lb : ∀ d : j, d.bO.wd = d.wd
 | .hole => rfl
 | .bool _ => rfl
 | .cO => rfl
 | .int _ _ => rfl
 | .str _ => rfl
 | .b7 => rfl
 | .bB => rfl
 | .slice _ => rfl
 | .aP _ _ => rfl
 | .ref _ => rfl
 | .bn _ => rfl
 | .agg ad => by simp only [j.bO, j.wd]; exact j.sE ad
 | .tuple ad => by simp only [j.bO, j.wd]; exact j.sE ad
 | .fn _ _ => rfl
 | .h _ _ => rfl
 | .al _ _ => rfl
 | .J _ _ => rfl
 | .b_ _ => rfl
theorem j.sE : ∀ ds : List j, j.cn (j.gM ds) = j.cn ds
 | [] => rfl
 | d :: ds => by simp only [j.gM, j.cn]; rw [j.lb d, j.sE ds]
end
mutual
theorem ag.bO {w : World} {F : Nat → Prop} : ∀ (d : j) (cs : List Value) (S az : Nat → Prop), ag w F d cs S → ag w F d.bO cs az
 | .hole, _, _, _, h => h
 | .bool _, _, _, _, h => h
 | .cO, _, _, _, h => h
 | .int _ _, _, _, _, h => h
 | .str _, _, _, _, h => h
 | .b7, _, _, _, h => h
 | .bB, _, _, _, h => h
 | .slice xs, cs, S, az, h => by
   show ag w F (.slice xs) cs az
   rw [ag] at h ⊢; exact h
 | .aP sz xs, cs, S, az, h => by
   rw [j.bO, ag]
   rw [ag] at h
   rcases h with ⟨_, _, rfl⟩ | ⟨b, cap, cur, e, fr, cf, rfl, _⟩
   ·exact ⟨_, rfl, rfl⟩
   ·exact ⟨_, rfl, rfl⟩
 | .ref d, cs, S, az, h => by
   show ag w F (.ref d) cs az
   rw [ag] at h ⊢; exact h
 | .bn d, cs, S, az, h => by
   rw [j.bO, ag]
   rw [ag] at h
   obtain ⟨b, cur, e, fr, cf, rfl, _⟩ := h
   exact ⟨_, rfl, rfl⟩
 | .agg ad, cs, S, az, h => by rw [j.bO, ag]; rw [ag] at h; exact aD.bO ad _ _ _ h
 | .tuple ad, cs, S, az, h => by rw [j.bO, ag]; rw [ag] at h; exact aD.bO ad _ _ _ h
 | .fn _ _, _, _, _, h => h
 | .h _ _, _, _, _, h => h
 | .al _ _, _, _, _, h => h
 | .J _ _, _, _, _, h => h
 | .b_ _, _, _, _, h => by rw [ag] at h; rw [j.bO, ag]; exact g_.one h
theorem aD.bO {w : World} {F : Nat → Prop} : ∀ (ds : List j) (cs : List Value) (S az : Nat → Prop), aD w F ds cs S → aD w F (j.gM ds) cs az
 | [], _, _, _, h => h
 | d :: ds, cs, S, az, h => by
   rw [j.gM, aD]
   rw [aD] at h
   obtain ⟨br, bC, a_, ca, U, aa, aw, aH, aX, bD⟩ := h
   exact ⟨br, bC, fun _ => False, fun _ => False, U, ag.bO d _ _ _ aa, aD.bO ds _ _ _ aw, fun _ h => h.elim, fun _ h => h.elim, fun _ h => h.elim⟩
end
mutual
theorem ag.plain {w : World} {F : Nat → Prop} : ∀ (d : j) (cs : List Value) (S az : Nat → Prop), d.plain = true → ag w F d cs S → ag w F d cs az
 | .hole, _, _, _, _, h => h
 | .bool _, _, _, _, _, h => h
 | .cO, _, _, _, _, h => h
 | .int _ _, _, _, _, _, h => h
 | .str _, _, _, _, _, h => h
 | .b7, _, _, _, _, h => h
 | .bB, _, _, _, _, h => h
 | .slice xs, cs, S, az, _, h => by rw [ag] at h ⊢; exact h
 | .aP sz xs, cs, S, az, al, h => by simp [j.plain] at al
 | .ref d, cs, S, az, _, h => by rw [ag] at h ⊢; exact h
 | .bn d, cs, S, az, al, h => by simp [j.plain] at al
 | .agg ad, cs, S, az, al, h => by rw [ag] at h ⊢; exact aD.plain ad _ _ _ al h
 | .tuple ad, cs, S, az, al, h => by rw [ag] at h ⊢; exact aD.plain ad _ _ _ al h
 | .fn _ _, _, _, _, _, h => h
 | .h _ _, _, _, _, _, h => h
 | .al _ _, _, _, _, _, h => h
 | .J _ _, _, _, _, _, h => h
 | .b_ _, _, _, _, al, _ => by simp [j.plain] at al
theorem aD.plain {w : World} {F : Nat → Prop} : ∀ (ds : List j) (cs : List Value) (S az : Nat → Prop), j.dd ds = true → aD w F ds cs S → aD w F ds cs az
 | [], _, _, _, _, h => h
 | d :: ds, cs, S, az, al, h => by
   rw [aD] at h ⊢
   simp only [j.dd, Bool.and_eq_true] at al
   obtain ⟨br, bC, a_, ca, U, aa, aw, aH, aX, bD⟩ := h
   exact ⟨br, bC, fun _ => False, fun _ => False, U, ag.plain d _ _ _ al.1 aa, aD.plain ds _ _ _ al.2 aw, fun _ h => h.elim, fun _ h => h.elim, fun _ h => h.elim⟩
end
def j.cY : List Nat → j → Bool
 | [], _ => false
 | k :: q, .agg ad => match ad[k]? with
   | some d => j.cY q d
   | none => false
 | k :: q, .tuple ad => match ad[k]? with
   | some d => j.cY q d
   | none => false
 | _ :: _, .aP _ _ => true
 | _ :: _, .bn _ => true
 | _ :: _, _ => false
theorem qL {ad : List j} (h : j.dd ad = true) {k : Nat} {d : j} (ai : ad[k]? = some d) : d.plain = true := by
 induction ad generalizing k with
 | nil => simp at ai
 | cons a ad ih =>
   simp only [j.dd, Bool.and_eq_true] at h
   cases k with
   | zero => simp at ai; subst ai; exact h.1
   | succ k => simp at ai; exact ih h.2 ai
theorem j.vE : ∀ (q : List Nat) (d : j), d.plain = true → j.cY q d = false := by
 intro q
 induction q with
 | nil => intros; rfl
 | cons k q ih =>
   intro d ab
   cases d <;> first | rfl | (simp [j.plain] at ab; done) | skip
   all_goals
    simp only [j.cY]
    split
    ·rename_i ad x aj; exact ih _ (qL (by simpa [j.plain] using ab) aj)
    ·rfl
theorem j.vF : ∀ (q : List Nat) (d e : j), d.plain = true → j.sub q d = some e → e.plain = true := by
 intro q
 induction q with
 | nil => intro d e ab h; simp [j.sub] at h; exact h ▸ ab
 | cons k q ih =>
   intro d e ab h
   cases d <;> first | (simp [j.plain] at ab; done) | (simp [j.sub] at h; done) | skip
   all_goals
    simp only [j.sub] at h
    split at h
    ·rename_i ad x aj; exact ih _ _ (qL (by simpa [j.plain] using ab) aj) h
    ·cases h
theorem sF {w an : World} {F : Nat → Prop} : ∀ (q : List Nat) (av : j) (cs : List Value) (S : Nat → Prop) (a : Option (Nat × Nat)) (d : j),
  ag w F av cs S → j.sub q av = some d → (∀ b, S b → an.heap[b]? = w.heap[b]?) → bU an q av cs a = bU w q av cs a := by
 intro q
 induction q with
 | nil => intros; rfl
 | cons k q ih =>
   have fields : ∀ (ad : List j) (cs : List Value) (S : Nat → Prop) (a : Option (Nat × Nat)) (x d : j), aD w F ad cs S → ad[k]? = some x → j.sub q x = some d →
     (∀ b, S b → an.heap[b]? = w.heap[b]?) →
     bU an q x ((cs.drop (j.cn (ad.take k))).take x.wd) (a.map fun l => (l.1, l.2 + j.cn (ad.take k))) = bU w q x ((cs.drop (j.cn (ad.take k))).take x.wd) (a.map fun l => (l.1, l.2 + j.cn (ad.take k))) := by
    intro ad cs S a x d h aj ab aU
    obtain ⟨br, dc, bC, a_, eC, rfl, eu, dq, eb, eN, dj, hs⟩ := aD.pick ad cs S k x h aj
    rw [l3 br dc bC _ _ eu (ag.length _ _ _ dj)]
    exact ih x dc eC _ d dj ab (fun b J => aU b (eb _ J))
   intro av cs S a d h ab aU
   cases av with
   | agg ad =>
     simp only [j.sub] at ab
     split at ab
     ·rename_i x aj
      rw [ag] at h
      simp only [bU, aj]
      exact fields ad cs S a x d h aj ab aU
     ·cases ab
   | tuple ad =>
     simp only [j.sub] at ab
     split at ab
     ·rename_i x aj
      rw [ag] at h
      simp only [bU, aj]
      exact fields ad cs S a x d h aj ab aU
     ·cases ab
   | aP sz xs =>
     simp only [j.sub] at ab
     split at ab
     ·rename_i x aj
      rw [ag] at h
      rcases h with ⟨rfl, _, rfl⟩ | ⟨b, cap, cur, e, fr, cf, rfl, aa, aw, aH, aX, bD, bI, c4, eG, eB, ha⟩
      ·simp at aj
      ·obtain ⟨br, dc, bC, a_, eC, p, eu, dq, eb, eN, dj, hs⟩ := aD.pick xs _ cf k x eG aj
       have aI := ag.length _ _ _ dj
       have Ay : k < xs.length := (List.getElem?_eq_some_iff.1 aj).1
       have o4 : x.wd = sz := c4 x (List.mem_of_getElem? aj)
       have bo : j.cn (xs.take k) = k * sz := by
        rw [l5 _ (fun d ab => c4 d (List.mem_of_mem_take ab))]
        rw [List.length_take, Nat.min_eq_left (by omega)]
       obtain ⟨ku, gL⟩ : ∃ ku, cur.toList = br ++ (dc ++ (bC ++ ku)) := by
        refine ⟨cur.toList.drop (xs.length * sz), ?_⟩
        have := (List.take_append_drop (xs.length * sz) cur.toList).symm
        rw [p] at this
        simpa using this
       have fN : h9 w b (k * sz) sz = dc := by
        have := ng aw gL
        rwa [eu, bo, aI, o4] at this
       have sG : h9 an b (k * sz) sz = dc := by
        have := ng ((aU b aa).trans aw) gL
        rwa [eu, bo, aI, o4] at this
       simp only [bU, aj, fN, sG]
       exact ih x dc eC _ d dj ab (fun c af => aU c (eB _ (eb _ af)))
     ·cases ab
   | bn x =>
     cases k with
     | succ k => simp [j.sub] at ab
     | zero =>
       simp only [j.sub] at ab
       rw [ag] at h
       obtain ⟨b, cur, e, fr, cf, rfl, aa, aw, aH, aX, bD, bI⟩ := h
       have aI := ag.length _ _ _ aX
       have fN : h9 w b 0 x.wd = cur.toList := by
        have := ng (l := []) (m := cur.toList) (r := []) aw (by simp)
        rwa [aI] at this
       have sG : h9 an b 0 x.wd = cur.toList := by
        have := ng (l := []) (m := cur.toList) (r := []) ((aU b aa).trans aw) (by simp)
        rwa [aI] at this
       simp only [bU, fN, sG]
       exact ih x cur.toList cf _ d aX ab (fun c af => aU c (bD _ af))
   | _ => simp [j.sub] at ab
def eS : Value → List Value
 | .agg cs => cs.toList
 | v => [v]
def bj : Value → List Value
 | .tuple vs => vs.toList.flatMap eS
 | v => eS v
def eY : j → Value → Prop
 | .agg _, v => ∃ arr, v = .agg arr
 | _, v => Value.dF v = true
def cp : j → Value → Prop
 | .tuple ds, v => ∃ arr : Array Value, v = .tuple arr ∧ arr.size = ds.length ∧ ∀ (k : Nat) (d : j) (x : Value), ds[k]? = some d → arr[k]? = some x → eY d x ∧ (∀ vs, d ≠ .tuple vs) ∧ (eS x).length = d.wd
 | d, v => eY d v
abbrev ae := Nat → j
mutual
def ar (w : World) (F : Nat → Prop) (s : ae) (ak : Nat → Value) : j → Value → (Nat → Prop) → Prop
 | .hole, _, _ => True
 | .h x q, v, _ => ∀ d, j.sub q (s x) = some d → d.plain = false → ∃ bH a, bU w q (s x) (bj (ak x)) none = some (d, bH, a) ∧ bj v = bH ∧ cp d v
 | .al x q, v, _ => ∀ d, j.sub q (s x) = some d → j.cY q (s x) = true → ∃ bH b o, bU w q (s x) (bj (ak x)) none = some (d, bH, some (b, o)) ∧ v = .pointer (some ⟨b, o, none⟩)
 | .J x k, v, _ => (s x).plain = false → ∃ b cur e fr, v = .pointer (some ⟨b, k, none⟩) ∧ F b ∧ w.heap[b]? = some (.cells cur e fr) ∧ cur.toList = bj (ak x)
 | .fn f cap, v, _ => ∃ arr : Array Value, v = .func (.func f) #[] arr ∧ ck w F s ak cap arr.toList
 | .bool b, v, S => cp (.bool b) v ∧ ag w F (.bool b) (bj v) S
 | .cO, v, S => cp .cO v ∧ ag w F .cO (bj v) S
 | .int k n, v, S => cp (.int k n) v ∧ ag w F (.int k n) (bj v) S
 | .str x, v, S => cp (.str x) v ∧ ag w F (.str x) (bj v) S
 | .b7, v, S => cp .b7 v ∧ ag w F .b7 (bj v) S
 | .bB, v, S => cp .bB v ∧ ag w F .bB (bj v) S
 | .slice xs, v, S => cp (.slice xs) v ∧ ag w F (.slice xs) (bj v) S
 | .aP sz xs, v, S => cp (.aP sz xs) v ∧ ag w F (.aP sz xs) (bj v) S
 | .ref d, v, S => cp (.ref d) v ∧ ag w F (.ref d) (bj v) S
 | .bn d, v, S => cp (.bn d) v ∧ ag w F (.bn d) (bj v) S
 | .agg d, v, S => cp (.agg d) v ∧ ag w F (.agg d) (bj v) S
 | .tuple d, v, S => cp (.tuple d) v ∧ ag w F (.tuple d) (bj v) S
 | .b_ o, v, S => cp (.b_ o) v ∧ ag w F (.b_ o) (bj v) S
def ck (w : World) (F : Nat → Prop) (s : ae) (ak : Nat → Value) : List j → List Value → Prop
 | [], vs => vs = []
 | d :: ds, vs => ∃ v fE, vs = v :: fE ∧ ar w F s ak d v (fun _ => False) ∧ ck w F s ak ds fE
end
def j.tree : j → Bool
 | .hole => false
 | .h _ _ => false
 | .al _ _ => false
 | .J _ _ => false
 | .fn _ _ => false
 | _ => true
theorem ar.bt {w : World} {F : Nat → Prop} {s : ae} {ak : Nat → Value} {d : j} {v : Value} {S : Nat → Prop} (aG : d.tree = true) :
  ar w F s ak d v S ↔ (cp d v ∧ ag w F d (bj v) S) := by
 cases d <;> first | (simp [j.tree] at aG; done) | rw [ar]
theorem eT {q : List Nat} {av d : j} (h : j.sub q av = some d) (al : d.plain = false ∨ j.cY q av = true) : av.tree = true := by
 cases q with
 | nil =>
   simp [j.sub] at h; subst h
   rcases al with al | al
   ·cases av <;> first | rfl | (simp [j.plain] at al)
   ·simp [j.cY] at al
 | cons k q => cases av <;> first | rfl | (simp [j.sub] at h)
theorem sH {d : j} (h : d.plain = false) : d.tree = true := eT (q := []) (by simp only [j.sub]) (.inl h)
theorem ar.frame {w an : World} {F aT : Nat → Prop} {s : ae} {ak : Nat → Value} {Sx : Nat → Nat → Prop} (aK : ∀ b, F b → an.heap[b]? = w.heap[b]?) (vG : ∀ b, F b → aT b)
  (aU : ∀ x b, Sx x b → an.heap[b]? = w.heap[b]?) (iG : ∀ x, ar w F s ak (s x) (ak x) (Sx x)) :
  ∀ (d : j) (v : Value) (S : Nat → Prop), (∀ b, S b → an.heap[b]? = w.heap[b]?) → ar w F s ak d v S → ar an aT s ak d v S := by
 have gN : ∀ (x : Nat) (q : List Nat) (d : j), j.sub q (s x) = some d → (d.plain = false ∨ j.cY q (s x) = true) → bU an q (s x) (bj (ak x)) none = bU w q (s x) (bj (ak x)) none := by
  intro x q d ab al
  have aG := eT ab al
  have := iG x
  rw [ar.bt aG] at this
  exact sF q _ _ (Sx x) none d this.2 ab (aU x)
 have Az : ∀ (d : j) (v : Value) (S : Nat → Prop), d.tree = true → (∀ b, S b → an.heap[b]? = w.heap[b]?) → ar w F s ak d v S → ar an aT s ak d v S := by
  intro d v S aG l6 h
  rw [ar.bt aG] at h ⊢
  exact ⟨h.1, ag.mono vG _ _ _ _ (fun _ h => h) (ag.frame aK _ _ _ l6 h.2)⟩
 have step : ∀ n, (∀ (d : j) (v : Value) (S : Nat → Prop), SizeOf.sizeOf d ≤ n → (∀ b, S b → an.heap[b]? = w.heap[b]?) → ar w F s ak d v S → ar an aT s ak d v S) ∧
   (∀ (ds : List j) (vs : List Value), SizeOf.sizeOf ds ≤ n → ck w F s ak ds vs → ck an aT s ak ds vs) := by
  intro n
  induction n with
  | zero =>
    refine ⟨fun d v S a1 => ?_, fun ds vs a1 => ?_⟩
    ·cases d <;> simp at a1 <;> omega
    ·cases ds <;> simp at a1 <;> omega
  | succ n ih =>
    refine ⟨fun d v S a1 l6 h => ?_, fun ds vs a1 h => ?_⟩
    ·cases d with
     | hole => rw [ar]; trivial
     | h x q =>
       rw [ar] at h ⊢
       intro d ab al
       rw [gN x q d ab (.inl al)]
       exact h d ab al
     | al x q =>
       rw [ar] at h ⊢
       intro d ab al
       rw [gN x q d ab (.inr al)]
       exact h d ab al
     | J x k =>
       rw [ar] at h ⊢
       intro al
       obtain ⟨b, cur, e, fr, U, aa, aw, aH⟩ := h al
       exact ⟨b, cur, e, fr, U, vG b aa, (aK b aa).trans aw, aH⟩
     | fn f cap =>
       rw [ar] at h ⊢
       obtain ⟨arr, rfl, af⟩ := h
       exact ⟨arr, rfl, ih.2 _ _ (by simp at a1; omega) af⟩
     | _ => exact Az _ _ _ rfl l6 h
    ·cases ds with
     | nil => rw [ck] at h ⊢; exact h
     | cons d ds =>
       rw [ck] at h ⊢
       obtain ⟨v, fE, rfl, U, aa⟩ := h
       simp at a1
       exact ⟨v, fE, rfl, ih.1 _ _ _ (by omega) (fun _ h => h.elim) U, ih.2 _ _ (by omega) aa⟩
 intro d v S l6 h
 exact (step (SizeOf.sizeOf d)).1 d v S (Nat.le_refl _) l6 h
mutual
def bz (x : Nat) : j → j
 | .h y q => if y = x then .hole else .h y q
 | .al y q => if y = x then .hole else .al y q
 | .J y k => if y = x then .hole else .J y k
 | .fn f cap => .fn f (fl x cap)
 | d => d
def fl (x : Nat) : List j → List j
 | [] => []
 | d :: ds => bz x d :: fl x ds
end
mutual
def bd (x : Nat) : j → j
 | .h y q => if y = x then (if q = [] then .h y q else .hole) else .h y q
 | .al y q => if y = x then .hole else .al y q
 | .fn f cap => .fn f (eZ x cap)
 | d => d
def eZ (x : Nat) : List j → List j
 | [] => []
 | d :: ds => bd x d :: eZ x ds
end
def b4 {α : Type} (f : Nat → α) (t : Nat) (v : α) : Nat → α := fun u => if u = t then v else f u
def hb (t : Nat) (s : ae) : ae := fun u => bz t (s u)
def fa (t : Nat) (s : ae) : ae := fun u => bd t (s u)
theorem iH {α : Type} (f : Nat → α) (t : Nat) (v : α) : b4 f t v t = v := by simp [b4]
theorem gd {α : Type} (f : Nat → α) {t u : Nat} (v : α) (h : u ≠ t) : b4 f t v u = f u := by simp [b4, h]
theorem AA {t : Nat} {d : j} (h : d.tree = true) : bz t d = d := by cases d <;> first | rfl | (simp [j.tree] at h)
theorem sI {t : Nat} {d : j} (h : d.tree = true) : bd t d = d := by cases d <;> first | rfl | (simp [j.tree] at h)
theorem AB {t : Nat} {d : j} (h : (bz t d).tree = true) : d.tree = true ∧ bz t d = d := by
 cases d <;> first | exact ⟨rfl, rfl⟩ | (simp only [bz] at h; first | (split at h <;> simp [j.tree] at h) | simp [j.tree] at h)
theorem sJ {t : Nat} {d : j} (h : (bd t d).tree = true) : d.tree = true ∧ bd t d = d := by
 cases d <;> first | exact ⟨rfl, rfl⟩ | (simp only [bd] at h; first | (split at h <;> (try split at h) <;> simp [j.tree] at h) | simp [j.tree] at h)
section
variable {w : World} {F : Nat → Prop} {s ah : ae} {ak gf : Nat → Value} {t : Nat}
theorem ar.bz (dW : ∀ x, x ≠ t → (ah x).tree = true → ah x = s x ∧ gf x = ak x) : ∀ (n : Nat),
  (∀ (d : j) (v : Value) (S : Nat → Prop), SizeOf.sizeOf d ≤ n → ar w F s ak d v S → ar w F ah gf (b1.bz t d) v S) ∧
  (∀ (ds : List j) (vs : List Value), SizeOf.sizeOf ds ≤ n → ck w F s ak ds vs → ck w F ah gf (fl t ds) vs) := by
 intro n
 induction n with
 | zero =>
   refine ⟨fun d v S a1 => ?_, fun ds vs a1 => ?_⟩
   ·cases d <;> simp at a1 <;> omega
   ·cases ds <;> simp at a1 <;> omega
 | succ n ih =>
   refine ⟨fun d v S a1 h => ?_, fun ds vs a1 h => ?_⟩
   ·cases d with
    | hole => rw [b1.bz.eq_def]; simp only; rw [ar]; trivial
    | h x q =>
      simp only [b1.bz]
      split
      ·rw [ar]; trivial
      ·rename_i aj
       rw [ar] at h ⊢
       intro d ab al
       obtain ⟨aC, aF⟩ := dW x aj (eT ab (.inl al))
       rw [aC, aF]; rw [aC] at ab
       exact h d ab al
    | al x q =>
      simp only [b1.bz]
      split
      ·rw [ar]; trivial
      ·rename_i aj
       rw [ar] at h ⊢
       intro d ab al
       obtain ⟨aC, aF⟩ := dW x aj (eT ab (.inr al))
       rw [aC, aF]; rw [aC] at ab al
       exact h d ab al
    | J x k =>
      simp only [b1.bz]
      split
      ·rw [ar]; trivial
      ·rename_i aj
       rw [ar] at h ⊢
       intro al
       obtain ⟨aC, aF⟩ := dW x aj (sH al)
       rw [aF]; rw [aC] at al
       exact h al
    | fn f cap =>
      simp only [b1.bz]
      rw [ar] at h ⊢
      obtain ⟨arr, rfl, af⟩ := h
      exact ⟨arr, rfl, ih.2 _ _ (by simp at a1; omega) af⟩
    | _ =>
      rw [AA (by rfl)]
      exact (ar.bt (by rfl)).2 ((ar.bt (by rfl)).1 h)
   ·cases ds with
    | nil => rw [fl, ck]; rw [ck] at h; exact h
    | cons d ds =>
      rw [fl, ck]; rw [ck] at h
      obtain ⟨v, fE, rfl, U, aa⟩ := h
      simp at a1
      exact ⟨v, fE, rfl, ih.1 _ _ _ (by omega) U, ih.2 _ _ (by omega) aa⟩
theorem ar.bd {an : World} (dW : ∀ x, x ≠ t → (ah x).tree = true → ah x = s x ∧ gf x = ak x) (ld : gf t = ak t) (h_ : (ah t).plain = false → (s t).plain = false ∧ ∀ v, cp (s t) v → cp (ah t) v)
  (gN : ∀ x q d, x ≠ t → j.sub q (s x) = some d → (d.plain = false ∨ j.cY q (s x) = true) → bU an q (s x) (bj (ak x)) none = bU w q (s x) (bj (ak x)) none)
  (aK : ∀ b, F b → an.heap[b]? = w.heap[b]?) : ∀ (n : Nat),
  (∀ (d : j) (v : Value) (S : Nat → Prop), SizeOf.sizeOf d ≤ n → (∀ b, S b → an.heap[b]? = w.heap[b]?) → ar w F s ak d v S → ar an F ah gf (b1.bd t d) v S) ∧
  (∀ (ds : List j) (vs : List Value), SizeOf.sizeOf ds ≤ n → ck w F s ak ds vs → ck an F ah gf (eZ t ds) vs) := by
 intro n
 induction n with
 | zero =>
   refine ⟨fun d v S a1 => ?_, fun ds vs a1 => ?_⟩
   ·cases d <;> simp at a1 <;> omega
   ·cases ds <;> simp at a1 <;> omega
 | succ n ih =>
   refine ⟨fun d v S a1 l6 h => ?_, fun ds vs a1 h => ?_⟩
   ·cases d with
    | hole => rw [b1.bd.eq_def]; simp only; rw [ar]; trivial
    | h x q =>
      simp only [b1.bd]
      split
      ·rename_i aj
       subst aj
       split
       ·rename_i bR
        subst bR
        rw [ar] at h ⊢
        intro d ab al
        simp only [j.sub, Option.some.injEq] at ab
        subst ab
        obtain ⟨c5, cr⟩ := h_ al
        obtain ⟨bH, a, g1, g2, g3⟩ := h (s x) rfl c5
        simp only [bU, Option.some.injEq, Prod.mk.injEq] at g1
        obtain ⟨-, g1, Lp⟩ := g1
        refine ⟨bj (gf x), none, rfl, ?_, cr _ g3⟩
        rw [ld, g2, ← g1]
       ·rw [ar]; trivial
      ·rename_i aj
       rw [ar] at h ⊢
       intro d ab al
       obtain ⟨aC, aF⟩ := dW x aj (eT ab (.inl al))
       rw [aC, aF]; rw [aC] at ab
       rw [gN x q d aj ab (.inl al)]
       exact h d ab al
    | al x q =>
      simp only [b1.bd]
      split
      ·rw [ar]; trivial
      ·rename_i aj
       rw [ar] at h ⊢
       intro d ab al
       obtain ⟨aC, aF⟩ := dW x aj (eT ab (.inr al))
       rw [aC, aF]; rw [aC] at ab al
       rw [gN x q d aj ab (.inr al)]
       exact h d ab al
    | J x k =>
      simp only [b1.bd]
      rw [ar] at h ⊢
      intro al
      by_cases aj : x = t
      ·subst aj
       obtain ⟨b, cur, e, fr, U, aa, aw, aH⟩ := h (h_ al).1
       exact ⟨b, cur, e, fr, U, aa, (aK b aa).trans aw, by rw [ld]; exact aH⟩
      ·obtain ⟨aC, aF⟩ := dW x aj (sH al)
       rw [aC] at al
       obtain ⟨b, cur, e, fr, U, aa, aw, aH⟩ := h al
       exact ⟨b, cur, e, fr, U, aa, (aK b aa).trans aw, by rw [aF]; exact aH⟩
    | fn f cap =>
      simp only [b1.bd]
      rw [ar] at h ⊢
      obtain ⟨arr, rfl, af⟩ := h
      exact ⟨arr, rfl, ih.2 _ _ (by simp at a1; omega) af⟩
    | _ =>
      rw [sI (by rfl)]
      have aS := (ar.bt (by rfl)).1 h
      exact (ar.bt (by rfl)).2 ⟨aS.1, ag.frame aK _ _ _ l6 aS.2⟩
   ·cases ds with
    | nil => rw [eZ, ck]; rw [ck] at h; exact h
    | cons d ds =>
      rw [eZ, ck]; rw [ck] at h
      obtain ⟨v, fE, rfl, U, aa⟩ := h
      simp at a1
      exact ⟨v, fE, rfl, ih.1 _ _ _ (by omega) (fun _ h => h.elim) U, ih.2 _ _ (by omega) aa⟩
theorem ar.void (dW : ∀ x, x ≠ t → (ah x).tree = true → ah x = s x ∧ gf x = ak x) (jk : (ah t).plain = true) : ∀ (n : Nat),
  (∀ (d : j) (v : Value) (S : Nat → Prop), SizeOf.sizeOf d ≤ n → ar w F s ak d v S → ar w F ah gf d v S) ∧
  (∀ (ds : List j) (vs : List Value), SizeOf.sizeOf ds ≤ n → ck w F s ak ds vs → ck w F ah gf ds vs) := by
 intro n
 induction n with
 | zero =>
   refine ⟨fun d v S a1 => ?_, fun ds vs a1 => ?_⟩
   ·cases d <;> simp at a1 <;> omega
   ·cases ds <;> simp at a1 <;> omega
 | succ n ih =>
   refine ⟨fun d v S a1 h => ?_, fun ds vs a1 h => ?_⟩
   ·cases d with
    | hole => rw [ar]; trivial
    | h x q =>
      rw [ar] at h ⊢
      intro d ab al
      by_cases aj : x = t
      ·subst aj
       rw [j.vF _ _ _ jk ab] at al; cases al
      ·obtain ⟨aC, aF⟩ := dW x aj (eT ab (.inl al))
       rw [aC, aF]; rw [aC] at ab
       exact h d ab al
    | al x q =>
      rw [ar] at h ⊢
      intro d ab al
      by_cases aj : x = t
      ·subst aj
       rw [j.vE _ _ jk] at al; cases al
      ·obtain ⟨aC, aF⟩ := dW x aj (eT ab (.inr al))
       rw [aC, aF]; rw [aC] at ab al
       exact h d ab al
    | J x k =>
      rw [ar] at h ⊢
      intro al
      by_cases aj : x = t
      ·subst aj; rw [jk] at al; cases al
      ·obtain ⟨aC, aF⟩ := dW x aj (sH al)
       rw [aF]; rw [aC] at al
       exact h al
    | fn f cap =>
      rw [ar] at h ⊢
      obtain ⟨arr, rfl, af⟩ := h
      exact ⟨arr, rfl, ih.2 _ _ (by simp at a1; omega) af⟩
    | _ => exact (ar.bt (by rfl)).2 ((ar.bt (by rfl)).1 h)
   ·cases ds with
    | nil => rw [ck]; rw [ck] at h; exact h
    | cons d ds =>
      rw [ck]; rw [ck] at h
      obtain ⟨v, fE, rfl, U, aa⟩ := h
      simp at a1
      exact ⟨v, fE, rfl, ih.1 _ _ _ (by omega) U, ih.2 _ _ (by omega) aa⟩
end
structure aZ (w0 : World) (F0 X F : Nat → Prop) (S : Nat → Nat → Prop) (s : ae) (ak : Nat → Value) (w : World) : Prop where
 ei : ∀ b, F0 b → F b
 eD : ∀ b, F b → F0 b ∨ X b ∨ w0.heap.size ≤ b
 c6 : ∀ b, F b → b < w.heap.size
 cL : ∀ t b, S t b → b < w.heap.size
 dk : ∀ t b, S t b → ¬ F b
 de : ∀ t u b, t ≠ u → S t b → ¬ S u b
 cf : ∀ t b, S t b → X b ∨ w0.heap.size ≤ b
 cb : ∀ t, ar w F s ak (s t) (ak t) (S t)
 old : ∀ b, b < w0.heap.size → ¬ X b → w.heap[b]? = w0.heap[b]?
 size : w0.heap.size ≤ w.heap.size
 os : w.os = w0.os
 tape : w.tape = w0.tape
 output : w.output = w0.output
section
variable {w0 w an : World} {F0 X F : Nat → Prop} {S : Nat → Nat → Prop} {s : ae} {ak : Nat → Value}
theorem aZ.grow (h : aZ w0 F0 X F S s ak w) (J : ∀ b, b < w.heap.size → an.heap[b]? = w.heap[b]?) (R : w.heap.size ≤ an.heap.size)
  (U : an.os = w.os) (aa : an.tape = w.tape) (aw : an.output = w.output) : aZ w0 F0 X F S s ak an where
 ei := h.ei
 eD := h.eD
 c6 := fun b aK => Nat.lt_of_lt_of_le (h.c6 b aK) R
 cL := fun t b aK => Nat.lt_of_lt_of_le (h.cL t b aK) R
 dk := h.dk
 de := h.de
 cf := h.cf
 cb := fun t => ar.frame (Sx := S) (fun b aK => J b (h.c6 b aK)) (fun _ h => h) (fun x b aU => J b (h.cL x b aU)) h.cb _ _ _ (fun b aU => J b (h.cL t b aU)) (h.cb t)
 old := fun b cx fO => (J b (Nat.lt_of_lt_of_le cx h.size)).trans (h.old b cx fO)
 size := Nat.le_trans h.size R
 os := U.trans h.os
 tape := aa.trans h.tape
 output := aw.trans h.output
def ed (S : Nat → Nat → Prop) (t : Nat) (Sn : Nat → Prop) : Nat → Nat → Prop := fun u b => if u = t then Sn b else S u b
theorem qM (S : Nat → Nat → Prop) (t : Nat) (Sn : Nat → Prop) : ed S t Sn t = Sn := by funext b; simp [ed]
theorem qN (S : Nat → Nat → Prop) {t u : Nat} (Sn : Nat → Prop) (h : u ≠ t) : ed S t Sn u = S u := by funext b; simp [ed, h]
theorem aZ.o7 (h : aZ w0 F0 X F S s ak w) {t : Nat} {d : j} {v : Value} (al : d.plain = true) (ab : ar w F s ak d v (fun _ => False)) :
  aZ w0 F0 X F (ed S t (fun _ => False)) (b4 s t d) (b4 ak t v) w where
 ei := h.ei
 eD := h.eD
 c6 := h.c6
 cL := fun u b J => by simp only [ed] at J; split at J; exact J.elim; exact h.cL u b J
 dk := fun u b J => by simp only [ed] at J; split at J; exact J.elim; exact h.dk u b J
 de := fun u x b cj J aj => by
  simp only [ed] at J aj
  split at J
  ·exact J.elim
  ·split at aj
   ·exact aj.elim
   ·exact h.de u x b cj J aj
 cf := fun u b J => by simp only [ed] at J; split at J; exact J.elim; exact h.cf u b J
 cb := fun u => by
  have dW : ∀ x, x ≠ t → (b4 s t d x).tree = true → b4 s t d x = s x ∧ b4 ak t v x = ak x := fun x aj _ => ⟨gd _ _ aj, gd _ _ aj⟩
  have jk : (b4 s t d t).plain = true := by rw [iH]; exact al
  by_cases hu : u = t
  ·subst hu
   rw [iH, iH, qM]
   exact (ar.void dW jk _).1 _ _ _ (Nat.le_refl _) ab
  ·rw [gd _ _ hu, gd _ _ hu, qN _ _ hu]
   exact (ar.void dW jk _).1 _ _ _ (Nat.le_refl _) (h.cb u)
 old := h.old
 size := h.size
 os := h.os
 tape := h.tape
 output := h.output
theorem aZ.vH (h : aZ w0 F0 X F S s ak w) {t : Nat} {d : j} {v : Value} {Sn : Nat → Prop} (ab : d.tree = true) (R : cp d v) (aA : ag w F d (bj v) Sn)
  (cx : ∀ b, Sn b → b < w.heap.size) (aK : ∀ b, Sn b → ¬ F b) (aU : ∀ u b, u ≠ t → Sn b → ¬ S u b) (bk : ∀ b, Sn b → X b ∨ w0.heap.size ≤ b) :
  aZ w0 F0 X F (ed S t Sn) (b4 (hb t s) t d) (b4 ak t v) w where
 ei := h.ei
 eD := h.eD
 c6 := h.c6
 cL := fun u b J => by simp only [ed] at J; split at J; exact cx b J; exact h.cL u b J
 dk := fun u b J => by simp only [ed] at J; split at J; exact aK b J; exact h.dk u b J
 de := fun u x b cj J aj => by
  simp only [ed] at J aj
  split at J
  ·rename_i hu
   rw [if_neg (fun e => cj (hu.trans e.symm))] at aj
   exact aU x b (fun e => cj (hu.trans e.symm)) J aj
  ·rename_i hu
   split at aj
   ·exact aU u b hu aj J
   ·exact h.de u x b cj J aj
 cf := fun u b J => by simp only [ed] at J; split at J; exact bk b J; exact h.cf u b J
 cb := fun u => by
  have dW : ∀ x, x ≠ t → (b4 (hb t s) t d x).tree = true → b4 (hb t s) t d x = s x ∧ b4 ak t v x = ak x := fun x aj aG => by
   rw [gd _ _ aj] at aG ⊢
   exact ⟨(AB aG).2, gd _ _ aj⟩
  by_cases hu : u = t
  ·subst hu
   rw [iH, iH, qM]
   exact (ar.bt ab).2 ⟨R, aA⟩
  ·rw [gd _ _ hu, gd _ _ hu, qN _ _ hu]
   exact (ar.bz dW _).1 _ _ _ (Nat.le_refl _) (h.cb u)
 old := h.old
 size := h.size
 os := h.os
 tape := h.tape
 output := h.output
theorem l7 (k : Nat) (q : List Nat) (aO x : j) : (∃ ad gs, x = .agg ad ∧ j.put (k :: q) aO x = .agg gs) ∨ (∃ ad gs, x = .tuple ad ∧ j.put (k :: q) aO x = .tuple gs) ∨
  (∃ sz xs bF, x = .aP sz xs ∧ j.put (k :: q) aO x = .aP sz bF) ∨ (∃ y z, x = .bn y ∧ j.put (k :: q) aO x = .bn z) ∨ j.put (k :: q) aO x = x := by
 cases x with
 | agg ad => simp only [j.put]; split <;> exact .inl ⟨_, _, rfl, rfl⟩
 | tuple ad => simp only [j.put]; split <;> exact .inr (.inl ⟨_, _, rfl, rfl⟩)
 | aP sz ad => simp only [j.put]; split <;> exact .inr (.inr (.inl ⟨_, _, _, rfl, rfl⟩))
 | bn y => cases k <;> exact .inr (.inr (.inr (.inl ⟨_, _, rfl, rfl⟩)))
 | _ => exact .inr (.inr (.inr (.inr rfl)))
theorem vI {k : Nat} {q : List Nat} {aO x : j} {v : Value} (h : eY x v) : eY (j.put (k :: q) aO x) v := by
 rcases l7 k q aO x with ⟨ad, gs, rfl, e⟩ | ⟨ad, gs, rfl, e⟩ | ⟨sz, xs, bF, rfl, e⟩ | ⟨y, z, rfl, e⟩ | e <;> rw [e] <;> exact h
theorem vJ {k : Nat} {q : List Nat} {aO x : j} (h : ∀ vs, x ≠ .tuple vs) : ∀ vs, j.put (k :: q) aO x ≠ .tuple vs := by
 rcases l7 k q aO x with ⟨ad, gs, rfl, e⟩ | ⟨ad, gs, rfl, e⟩ | ⟨sz, xs, bF, rfl, e⟩ | ⟨y, z, rfl, e⟩ | e <;> rw [e] <;> first | exact h | (intro vs aS; cases aS; done) | exact (h _ rfl).elim
theorem sK {k : Nat} {q : List Nat} {d aO av : j} {v : Value} (h : cp av v) (ab : j.sub (k :: q) av = some d) (U : ∀ v, eY d v → eY aO v) (aa : (∀ vs, d ≠ .tuple vs) → ∀ vs, aO ≠ .tuple vs) (aw : aO.wd = d.wd) :
  cp (j.put (k :: q) aO av) v := by
 cases av with
 | tuple ad =>
   simp only [j.sub] at ab
   split at ab
   ·rename_i x aj
    simp only [j.put, aj]
    simp only [cp] at h ⊢
    obtain ⟨arr, rfl, a1, iG⟩ := h
    refine ⟨arr, rfl, by simpa using a1, fun ay e y he aY => ?_⟩
    rw [List.getElem?_set] at he
    split at he
    ·rename_i sL
     subst sL
     split at he
     ·simp only [Option.some.injEq] at he
      subst he
      obtain ⟨g1, g2, g3⟩ := iG k x y aj aY
      refine ⟨?_, ?_, g3.trans (j.nf q x d aO ab aw).symm⟩
      ·cases q with
       | nil =>
         simp only [j.sub, Option.some.injEq] at ab
         subst ab
         exact U _ g1
       | cons bg q => exact vI g1
      ·cases q with
       | nil =>
         simp only [j.sub, Option.some.injEq] at ab
         subst ab
         exact aa g2
       | cons bg q => exact vJ g2
     ·cases he
    ·exact iG ay e y he aY
   ·cases ab
 | agg ad => simp only [j.put]; split <;> exact h
 | aP sz ad => simp only [j.put]; split <;> exact h
 | bn y => cases k <;> exact h
 | _ => exact h
theorem sM {d : j} {v : Value} (h : eY d v) : eY d.bO v := by cases d <;> exact h
theorem vK {s : ae} {x : Nat} {q : List Nat} {d : j} (ab : j.sub q (s x) = some d) (al : d.plain = false) :
  (b4 (fa x s) x (j.put q d.bO (s x)) x).plain = false → (s x).plain = false ∧ ∀ v, cp (s x) v → cp (b4 (fa x s) x (j.put q d.bO (s x)) x) v := by
  rw [iH]
  intro ej
  cases q with
  | nil =>
    exfalso
    have : ∀ d : j, d.bO.plain = true := by
     intro d
     have key : ∀ n, (∀ d : j, SizeOf.sizeOf d ≤ n → d.bO.plain = true) ∧ (∀ ds : List j, SizeOf.sizeOf ds ≤ n → j.dd (j.gM ds) = true) := by
      intro n
      induction n with
      | zero => exact ⟨fun d a1 => by cases d <;> simp at a1 <;> omega, fun ds a1 => by cases ds <;> simp at a1 <;> omega⟩
      | succ n ih =>
        refine ⟨fun d a1 => ?_, fun ds a1 => ?_⟩
        ·cases d with
         | agg ad => simp only [j.bO, j.plain]; exact ih.2 _ (by simp at a1; omega)
         | tuple ad => simp only [j.bO, j.plain]; exact ih.2 _ (by simp at a1; omega)
         | _ => rfl
        ·cases ds with
         | nil => rfl
         | cons d ds =>
           simp at a1
           simp only [j.gM, j.dd, Bool.and_eq_true]
           exact ⟨ih.1 _ (by omega), ih.2 _ (by omega)⟩
     exact (key _).1 d (Nat.le_refl _)
    simp only [j.put] at ej
    rw [this] at ej
    cases ej
  | cons k q =>
    refine ⟨?_, fun v aA => sK aA ab (fun v h => sM h) (fun h vs e => ?_) (j.lb d)⟩
    ·cases sN : (s x).plain with
     | false => rfl
     | true => rw [j.vF _ _ _ sN ab] at al; cases al
    ·cases d <;> first | (exact h _ rfl) | (simp [j.bO] at e)
theorem aZ.take (h : aZ w0 F0 X F S s ak w) {x : Nat} {q : List Nat} {d : j} (ab : j.sub q (s x) = some d) (al : d.plain = false) :
  ∃ (Sn dV : Nat → Prop) (bH : List Value) (a : Option (Nat × Nat)), aZ w0 F0 X F (ed S x Sn) (b4 (fa x s) x (j.put q d.bO (s x))) ak w ∧
    bU w q (s x) (bj (ak x)) none = some (d, bH, a) ∧ ag w F d bH dV ∧ (∀ b, dV b → S x b) ∧ (∀ b, Sn b → S x b) ∧ (∀ b, dV b → ¬ Sn b) ∧
    (∀ (aO : j) (v : Value) (az : Nat → Prop), ar w F s ak aO v az → ar w F (b4 (fa x s) x (j.put q d.bO (s x))) ak (b1.bd x aO) v az) := by
 have aG := eT ab (.inl al)
 have aj := h.cb x
 rw [ar.bt aG] at aj
 obtain ⟨bH, a, cG, dV, g0, g1, g2, g3, g4, g5⟩ := ctx q (s x) (bj (ak x)) (S x) none d aj.2 ab
 have gx : ag w F (j.put q d.bO (s x)) (bj (ak x)) cG := by
  have hc : ag w F d.bO bH (fun _ => False) := ag.bO _ _ _ _ g4
  have nh : ∀ b, (cG b ∨ False) → cG b := fun b h => h.elim id False.elim
  rcases g5 with ⟨l, r, aC, aF, a6⟩ | ⟨b, cur, e, fr, l, r, aC, aF, a6, bQ, bT, bc⟩
  ·have := a6 w _ bH _ (fun _ _ => rfl) (fun _ _ => rfl) (j.lb d) hc (fun _ h => h.elim)
   rw [← aC] at this
   exact ag.mono (fun _ h => h) _ _ _ _ nh this
  ·have := bc w _ bH _ (fun _ _ => rfl) (fun _ _ _ => rfl) (by rw [a6, ← bT]) (j.lb d) hc (fun _ h => h.elim)
   exact ag.mono (fun _ h => h) _ _ _ _ nh this
 have AD : cp (j.put q d.bO (s x)) (ak x) ∧ (j.put q d.bO (s x)).tree = true ∨ j.put q d.bO (s x) = .hole := by
  cases q with
  | nil =>
    simp only [j.sub, Option.some.injEq] at ab
    subst ab
    simp only [j.put]
    cases R : s x with
    | aP sz xs => right; rfl
    | bn y => right; rfl
    | b_ y => right; rfl
    | agg ad => left; rw [R] at aj; exact ⟨aj.1, rfl⟩
    | tuple ad =>
      left
      rw [R] at aj
      refine ⟨?_, rfl⟩
      simp only [cp, j.bO] at aj ⊢
      obtain ⟨arr, e, a1, iG⟩ := aj.1
      have aI : ∀ ad : List j, j.gM ad = ad.map j.bO := by
       intro ad; induction ad with
       | nil => rfl
       | cons a ad ih => simp [j.gM, ih]
      refine ⟨arr, e, by rw [aI]; simpa using a1, fun k eh y he aY => ?_⟩
      rw [aI, List.getElem?_map] at he
      cases ai : ad[k]? with
      | none => rw [ai] at he; cases he
      | some z =>
        rw [ai] at he
        simp only [Option.map_some, Option.some.injEq] at he
        subst he
        obtain ⟨g1, g2, g3⟩ := iG k z y ai aY
        refine ⟨sM g1, fun vs e => ?_, g3.trans (j.lb z).symm⟩
        cases z <;> first | (exact g2 _ rfl) | (simp [j.bO] at e)
    | _ => rw [R] at al; simp [j.plain] at al
  | cons k q =>
    left
    refine ⟨sK aj.1 ab (fun v h => sM h) (fun h vs e => ?_) (j.lb d), ?_⟩
    ·cases d <;> first | (exact h _ rfl) | (simp [j.bO] at e)
    ·rcases l7 k q d.bO (s x) with ⟨ad, gs, aC, e⟩ | ⟨ad, gs, aC, e⟩ | ⟨sz, xs, bF, aC, e⟩ | ⟨y, z, aC, e⟩ | e <;> rw [e] <;> first | rfl | exact aG
 refine ⟨cG, dV, bH, a, ?_, g0, g4, g2, g1, fun b U aa => g3 b aa U, ?_⟩
 rotate_left
 ·have dW : ∀ y, y ≠ x → (b4 (fa x s) x (j.put q d.bO (s x)) y).tree = true → b4 (fa x s) x (j.put q d.bO (s x)) y = s y ∧ ak y = ak y := fun y aY aG => by
   rw [gd _ _ aY] at aG ⊢
   exact ⟨(sJ aG).2, rfl⟩
  intro aO v az ea
  exact (ar.bd dW rfl (vK ab al) (fun _ _ _ _ _ _ => rfl) (fun _ _ => rfl) _).1 _ _ _ (Nat.le_refl _) (fun _ _ => rfl) ea
 have dW : ∀ y, y ≠ x → (b4 (fa x s) x (j.put q d.bO (s x)) y).tree = true → b4 (fa x s) x (j.put q d.bO (s x)) y = s y ∧ ak y = ak y := fun y aY aG => by
  rw [gd _ _ aY] at aG ⊢
  exact ⟨(sJ aG).2, rfl⟩
 have h_ := vK (s := s) (x := x) ab al
 constructor
 case ei => exact h.ei
 case eD => exact h.eD
 case c6 => exact h.c6
 case cL => exact fun u b J => by simp only [ed] at J; split at J; exact h.cL x b (g1 b J); exact h.cL u b J
 case dk => exact fun u b J => by simp only [ed] at J; split at J; exact h.dk x b (g1 b J); exact h.dk u b J
 case de =>
  intro u y b cj J aY
  simp only [ed] at J aY
  split at J
  ·rename_i hu
   rw [if_neg (fun e => cj (hu.trans e.symm))] at aY
   exact h.de x y b (fun e => cj (hu.trans e)) (g1 b J) aY
  ·rename_i hu
   split at aY
   ·exact h.de u x b hu J (g1 b aY)
   ·exact h.de u y b cj J aY
 case cf => exact fun u b J => by simp only [ed] at J; split at J; exact h.cf x b (g1 b J); exact h.cf u b J
 case cb =>
  intro u
  by_cases hu : u = x
  ·subst hu
   rw [iH, qM]
   rcases AD with ⟨aC, aF⟩ | e
   ·exact (ar.bt aF).2 ⟨aC, gx⟩
   ·rw [e, ar]; trivial
  ·rw [gd _ _ hu, qN _ _ hu]
   exact (ar.bd dW rfl h_ (fun _ _ _ _ _ _ => rfl) (fun _ _ => rfl) _).1 _ _ _ (Nat.le_refl _) (fun _ _ => rfl) (h.cb u)
 case old => exact h.old
 case size => exact h.size
 case os => exact h.os
 case tape => exact h.tape
 case output => exact h.output
theorem aZ.store (h : aZ w0 F0 X F S s ak w) {x : Nat} {q : List Nat} {d aO : j} (ab : j.sub q (s x) = some d) (af : j.cY q (s x) = true)
  {di : List Value} {Sn : Nat → Prop} (aA : ag w F aO di Sn) (hO : aO.wd = d.wd)
  (cx : ∀ b, Sn b → b < w.heap.size) (aK : ∀ b, Sn b → ¬ F b) (aU : ∀ u b, Sn b → ¬ S u b) (bk : ∀ b, Sn b → X b ∨ w0.heap.size ≤ b) :
  ∃ (bH : List Value) (b : Nat) (l r : List Value) (cur : Array Value) (e : TypeId) (fr : Nat × Nat), bU w q (s x) (bj (ak x)) none = some (d, bH, some (b, l.length)) ∧
    w.heap[b]? = some (.cells cur e fr) ∧ cur.toList = l ++ (bH ++ r) ∧ k_ fr cur.size ∧
    ∀ an, an.heap[b]? = some (.cells (l ++ (di ++ r)).toArray e fr) → (∀ c, c ≠ b → an.heap[c]? = w.heap[c]?) → an.heap.size = w.heap.size → an.os = w.os → an.tape = w.tape → an.output = w.output →
      ∃ az, aZ w0 F0 X F az (b4 (fa x s) x (j.put q aO (s x))) ak an := by
 have aG := eT ab (.inr af)
 have aj := h.cb x
 rw [ar.bt aG] at aj
 obtain ⟨bH, a, cG, dV, g0, g1, g2, g3, g4, g5⟩ := ctx q (s x) (bj (ak x)) (S x) none d aj.2 ab
 have AE : Deep w F q (s x) (bj (ak x)) d bH a cG := by
  rcases g5 with ⟨l, r, aC, aF, a6⟩ | g5
  ·exfalso
   have hd : ∀ (q : List Nat) (av : j) (cs : List Value) (a0 : Option (Nat × Nat)) (d : j) (bH : List Value), j.cY q av = true → bU w q av cs a0 = some (d, bH, none) → False := by
    intro q
    induction q with
    | nil => intro av cs a0 d bH af; simp [j.cY] at af
    | cons k q ih =>
      have vL : ∀ (q : List Nat) (av : j) (cs : List Value) (l : Nat × Nat) (d : j) (bH : List Value), bU w q av cs (some l) = some (d, bH, none) → False := by
       intro q
       induction q with
       | nil => intro av cs l d bH h; simp [bU] at h
       | cons k q qO =>
         intro av cs l d bH h
         cases av with
         | agg ad => rw [bU] at h; split at h; exact qO _ _ _ _ _ h; cases h
         | tuple ad => rw [bU] at h; split at h; exact qO _ _ _ _ _ h; cases h
         | aP sz xs => simp only [bU] at h; split at h; exact qO _ _ _ _ _ h; cases h
         | bn y =>
           cases k with
           | zero => rw [bU.eq_def] at h; simp only at h; split at h; exact qO _ _ _ _ _ h; cases h
           | succ k => rw [show bU w ((k + 1) :: q) (.bn y) cs (some l) = none from rfl] at h; cases h
         | _ => simp [bU] at h
      intro av cs a0 d bH af h
      cases av with
      | agg ad =>
        simp only [j.cY] at af
        split at af
        ·rename_i y aY
         simp only [bU, aY] at h
         exact ih _ _ _ _ _ af h
        ·cases af
      | tuple ad =>
        simp only [j.cY] at af
        split at af
        ·rename_i y aY
         simp only [bU, aY] at h
         exact ih _ _ _ _ _ af h
        ·cases af
      | aP sz xs => simp only [bU] at h; split at h; exact vL _ _ _ _ _ _ h; cases h
      | bn y =>
        cases k with
        | zero => rw [bU.eq_def] at h; simp only at h; split at h; exact vL _ _ _ _ _ _ h; cases h
        | succ k => rw [show bU w ((k + 1) :: q) (.bn y) cs a0 = none from rfl] at h; cases h
      | _ => simp [j.cY] at af
   simp only [Option.map_none] at aF
   subst aF
   exact hd _ _ _ _ _ _ af g0
  ·exact g5
 obtain ⟨b, cur, e, fr, l, r, rfl, aF, a6, bQ, bT, bc⟩ := AE
 refine ⟨bH, b, l, r, cur, e, fr, g0, a6, bT, bQ, ?_⟩
 intro an ht o8 cB AF AG o9
 have qP : S x b := g1 _ aF
 have ni : ∀ c, F c → an.heap[c]? = w.heap[c]? := fun c af => o8 c (by rintro rfl; exact h.dk x _ qP af)
 have Lq : di.length = bH.length := by rw [ag.length _ _ _ aA, ag.length _ _ _ g4, hO]
 have gx := bc an aO di Sn ni (fun c _ cj => o8 c cj) ht hO
  (ag.frame ni _ _ _ (fun c af => o8 c (by rintro rfl; exact aU x _ af qP)) aA) (fun c af nh => aU x c af (g1 _ nh))
 obtain ⟨k, fv, rfl⟩ : ∃ k fv, q = k :: fv := by
  cases q with
  | nil => simp [j.cY] at af
  | cons k q => exact ⟨k, q, rfl⟩
 have vM : ∀ v, cp (s x) v → cp (j.put (k :: fv) aO (s x)) v := by
  intro v aA
  rcases l7 k fv aO (s x) with ⟨ad, gs, aC, e⟩ | ⟨ad, gs, aC, e⟩ | ⟨sz, xs, bF, aC, e⟩ | ⟨y, z, aC, e⟩ | e
  ·rw [e]; rw [aC] at aA; exact aA
  ·
   rw [aC] at aA ab af ⊢
   simp only [j.cY] at af
   split at af
   ·rename_i y aY
    simp only [j.put, aY]
    cases fv with
    | nil => simp [j.cY] at af
    | cons bg ee =>
      simp only [cp] at aA ⊢
      obtain ⟨arr, rfl, a1, iG⟩ := aA
      refine ⟨arr, rfl, by simpa using a1, fun ay e gy he l8 => ?_⟩
      rw [List.getElem?_set] at he
      split at he
      ·rename_i sL
       subst sL
       split at he
       ·simp only [Option.some.injEq] at he
        subst he
        obtain ⟨g1, g2, g3⟩ := iG _ y gy aY l8
        simp only [j.sub, aY] at ab
        exact ⟨vI g1, vJ g2, g3.trans (j.nf (bg :: ee) y d aO ab hO).symm⟩
       ·cases he
      ·exact iG ay e gy he l8
   ·cases af
  ·rw [e]; rw [aC] at aA; exact aA
  ·rw [e]; rw [aC] at aA; exact aA
  ·rw [e]; exact aA
 have AH : (j.put (k :: fv) aO (s x)).tree = true := by
  rcases l7 k fv aO (s x) with ⟨ad, gs, aC, e⟩ | ⟨ad, gs, aC, e⟩ | ⟨sz, xs, bF, aC, e⟩ | ⟨y, z, aC, e⟩ | e <;> rw [e] <;> first | rfl | exact aG
 let ah := b4 (fa x s) x (j.put (k :: fv) aO (s x))
 have dW : ∀ y, y ≠ x → (ah y).tree = true → ah y = s y ∧ ak y = ak y := fun y aY aG => by
  have e : ah y = bd x (s y) := gd _ _ aY
  rw [e] at aG ⊢
  exact ⟨(sJ aG).2, rfl⟩
 have h_ : (ah x).plain = false → (s x).plain = false ∧ ∀ v, cp (s x) v → cp (ah x) v := by
  intro _
  refine ⟨?_, ?_⟩
  ·cases sN : (s x).plain with
   | false => rfl
   | true => rw [j.vE _ _ sN] at af; cases af
  ·simp only [ah, iH]; exact vM
 refine ⟨ed S x (fun c => cG c ∨ Sn c), ?_⟩
 constructor
 case ei => exact h.ei
 case eD => exact h.eD
 case c6 => exact fun b J => by rw [cB]; exact h.c6 b J
 case cL =>
  intro u c J
  rw [cB]
  simp only [ed] at J
  split at J
  ·rcases J with J | J
   ·exact h.cL x c (g1 c J)
   ·exact cx c J
  ·exact h.cL u c J
 case dk =>
  intro u c J
  simp only [ed] at J
  split at J
  ·rcases J with J | J
   ·exact h.dk x c (g1 c J)
   ·exact aK c J
  ·exact h.dk u c J
 case de =>
  intro u y c cj J aY
  simp only [ed] at J aY
  split at J
  ·rename_i hu
   rw [if_neg (fun e => cj (hu.trans e.symm))] at aY
   rcases J with J | J
   ·exact h.de x y c (fun e => cj (hu.trans e)) (g1 c J) aY
   ·exact aU y c J aY
  ·rename_i hu
   split at aY
   ·rcases aY with aY | aY
    ·exact h.de u x c hu J (g1 c aY)
    ·exact aU u c aY J
   ·exact h.de u y c cj J aY
 case cf =>
  intro u c J
  simp only [ed] at J
  split at J
  ·rcases J with J | J
   ·exact h.cf x c (g1 c J)
   ·exact bk c J
  ·exact h.cf u c J
 case cb =>
  intro u
  by_cases hu : u = x
  ·subst hu
   rw [iH, qM]
   exact (ar.bt AH).2 ⟨vM _ aj.1, gx⟩
  ·rw [gd _ _ hu, qN _ _ hu]
   have cj : ∀ y c, y ≠ x → S y c → an.heap[c]? = w.heap[c]? := fun y c aY af => o8 c (by rintro rfl; exact h.de y x c aY af qP)
   refine (ar.bd dW rfl h_ (fun y ee d2 aY e0 sO => ?_) ni _).1 _ _ _ (Nat.le_refl _) (fun c af => cj u c hu af) (h.cb u)
   have vN := h.cb y
   rw [ar.bt (eT e0 sO)] at vN
   exact sF ee _ _ _ none d2 vN.2 e0 (fun c af => cj y c aY af)
 case old =>
  intro c cx fO
  by_cases vO : c = b
  ·subst vO
   exfalso
   rcases h.cf x c qP with hc | hc
   ·exact fO hc
   ·omega
  ·exact (o8 c vO).trans (h.old c cx fO)
 case size => rw [cB]; exact h.size
 case os => exact AF.trans h.os
 case tape => exact AG.trans h.tape
 case output => exact o9.trans h.output
end
end Go.b1
