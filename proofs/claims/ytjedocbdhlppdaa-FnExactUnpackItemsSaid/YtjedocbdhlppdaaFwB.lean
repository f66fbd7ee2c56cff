/- Part of a proof that a law returns true for every input. No condition. -/
import Derived.Test.YtjedocbdhlppdaaFwA
import Derived.Laws.AppendOwn
import Derived.Calls
namespace Go.b7
inductive pE where
 | mp (es : List (Value × Value))
 | dE (T e : TypeId) (dQ : List UInt8)
inductive j where
 | hole
 | bool (b : Bool)
 | c1
 | int (k : IntKind) (n : Int)
 | str (s : List UInt8)
 | b_
 | bu
 | slice (xs : List j)
 | aJ (sz : Nat) (xs : List j)
 | ref (d : j)
 | bb (d : j)
 | agg (af : List j)
 | tuple (vs : List j)
 | fn (f : FuncId) (cap : List j)
 | h (x : Nat) (q : List Nat)
 | ak (x : Nat) (q : List Nat)
 | J (x : Nat) (k : Nat)
 | ch (o : pE)
 deriving Inhabited
mutual
def j.wd : j → Nat
 | .agg af => j.cz af
 | .tuple af => j.cz af
 | _ => 1
def j.cz : List j → Nat
 | [] => 0
 | d :: ds => d.wd + j.cz ds
end
def e0 (w : World) (b o : Nat) (cs : List Value) : Prop := ∀ ay c, cs[ay]? = some c → w.cell? ⟨b, o + ay, none⟩ = some c
def lS (fr : Nat × Nat) (n : Nat) : Prop := ∀ o, o < n → ¬ (fr.1 ≤ o ∧ o < fr.2)
def Value.dW : Value → Bool
 | .agg _ => false
 | .tuple _ => false
 | _ => true
def j.single : j → Bool
 | .agg _ => false
 | .tuple _ => false
 | .hole => false
 | _ => true
def hC (w : World) : pE → List Value → (Nat → Prop) → Prop
 | .mp es, cs, S => ∃ r ms pF, cs = [.map (some r)] ∧ S r ∧ w.heap[r]? = some (.map ms pF) ∧ ms.toList.map (fun e => (e.key, e.val)) = es
 | .dE T e dQ, cs, S => ∃ b a fE, cs = [.pointer (some ⟨b, 0, none⟩)] ∧ S b ∧ w.heap[b]? = some (.cells #[a, fE] T (0, 0)) ∧ (a = .pointer none ∨ a = .pointer (some ⟨b, 0, none⟩)) ∧
   ((dQ = [] ∧ fE = .slice none 0 0) ∨
     ∃ g cap cur, fE = .slice (some ⟨g, 0, none⟩) dQ.length cap ∧ S g ∧ g ≠ b ∧ w.heap[g]? = some (.cells cur e (0, 0)) ∧ dQ.length ≤ cap ∧ cap ≤ maxLen ∧ cur.size = cap ∧
       cur.toList.take dQ.length = dQ.map fun x => .int .u8 x.toNat)
theorem hC.frame {w ao : World} : ∀ {o : pE} {cs : List Value} {S : Nat → Prop}, (∀ b, S b → ao.heap[b]? = w.heap[b]?) → hC w o cs S → hC ao o cs S
 | .mp _, _, _, aZ, ⟨r, ms, pF, U, aa, au, aK⟩ => ⟨r, ms, pF, U, aa, (aZ _ aa).trans au, aK⟩
 | .dE _ _ _, _, _, aZ, ⟨b, a, fE, U, aa, au, aK, a1⟩ => ⟨b, a, fE, U, aa, (aZ _ aa).trans au, aK, a1.imp (fun h => h) fun ⟨g, cap, cur, lT, kz, mP, tg, pG⟩ => ⟨g, cap, cur, lT, kz, mP, (aZ _ kz).trans tg, pG⟩⟩
theorem hC.mono {w : World} : ∀ {o : pE} {cs : List Value} {S az : Nat → Prop}, (∀ b, S b → az b) → hC w o cs S → hC w o cs az
 | .mp _, _, _, _, aZ, ⟨r, ms, pF, U, aa, au⟩ => ⟨r, ms, pF, U, aZ _ aa, au⟩
 | .dE _ _ _, _, _, _, aZ, ⟨b, a, fE, U, aa, au, aK, a1⟩ => ⟨b, a, fE, U, aZ _ aa, au, aK, a1.imp (fun h => h) fun ⟨g, cap, cur, lT, kz, mP⟩ => ⟨g, cap, cur, lT, aZ _ kz, mP⟩⟩
theorem hC.one {w : World} : ∀ {o : pE} {cs : List Value} {S : Nat → Prop}, hC w o cs S → ∃ v, Value.dW v = true ∧ cs = [v]
 | .mp _, _, _, ⟨_, _, _, h, _⟩ => ⟨_, rfl, h⟩
 | .dE _ _ _, _, _, ⟨_, _, _, h, _⟩ => ⟨_, rfl, h⟩
mutual
def ai (w : World) (F : Nat → Prop) : j → List Value → (Nat → Prop) → Prop
 | .hole, cs, _ => ∃ v, Value.dW v = true ∧ cs = [v]
 | .bool b, cs, _ => cs = [.bool b]
 | .c1, cs, _ => ∃ b, cs = [.bool b]
 | .int k n, cs, _ => cs = [.int k n]
 | .str s, cs, _ => cs = [.string ⟨⟨s⟩⟩]
 | .b_, cs, _ => cs = [.pointer none]
 | .bu, cs, _ => cs = [.slice none 0 0]
 | .slice xs, cs, _ => (xs = [] ∧ ∃ a c, cs = [.slice a 0 c] ∧ c ≤ maxLen ∧ (a = none → c = 0)) ∨
   ∃ b o cap c2 sz, cs = [.slice (some ⟨b, o, none⟩) xs.length cap] ∧ F b ∧ xs.length ≤ cap ∧ cap ≤ maxLen ∧ (∀ d ∈ xs, d.wd = sz) ∧
     e0 w b o c2 ∧ aH w F xs c2 (fun _ => False)
 | .aJ sz xs, cs, S => (xs = [] ∧ ∃ a, cs = [.slice a 0 0]) ∨
   ∃ b cap cur e fr az, cs = [.slice (some ⟨b, 0, none⟩) xs.length cap] ∧ S b ∧ w.heap[b]? = some (.cells cur e fr) ∧ lS fr cur.size ∧
     xs.length ≤ cap ∧ cap ≤ maxLen ∧ cur.size = cap * sz ∧ (∀ d ∈ xs, d.wd = sz) ∧ aH w F xs (cur.toList.take (xs.length * sz)) az ∧ (∀ c, az c → S c) ∧ ¬ az b
 | .ref d, cs, _ => ∃ b o c2, cs = [.pointer (some ⟨b, o, none⟩)] ∧ F b ∧ e0 w b o c2 ∧ ai w F d c2 (fun _ => False)
 | .bb d, cs, S => ∃ b cur e fr az, cs = [.pointer (some ⟨b, 0, none⟩)] ∧ S b ∧ w.heap[b]? = some (.cells cur e fr) ∧ lS fr cur.size ∧
   ai w F d cur.toList az ∧ (∀ c, az c → S c) ∧ ¬ az b
 | .agg af, cs, S => aH w F af cs S
 | .tuple af, cs, S => aH w F af cs S
 | .fn f caps, cs, _ => ∃ arr : Array Value, cs = [.func (.func f) #[] arr] ∧ (∀ d ∈ caps, d.single = true) ∧ aH w F caps arr.toList (fun _ => False)
 | .h _ _, _, _ => False
 | .ak _ _, _, _ => False
 | .J _ _, _, _ => False
 | .ch o, cs, S => hC w o cs S
def aH (w : World) (F : Nat → Prop) : List j → List Value → (Nat → Prop) → Prop
 | [], cs, _ => cs = []
 | d :: ds, cs, S => ∃ bA bG bf cj, cs = bA ++ bG ∧ ai w F d bA bf ∧ aH w F ds bG cj ∧ (∀ b, bf b → S b) ∧ (∀ b, cj b → S b) ∧ (∀ b, bf b → ¬ cj b)
end
theorem cell?_of_block {w ao : World} {b : Nat} (h : ao.heap[b]? = w.heap[b]?) (o : Nat) : ao.cell? ⟨b, o, none⟩ = w.cell? ⟨b, o, none⟩ := by
 simp [World.cell?, h]
theorem e0.frame {w ao : World} {b o : Nat} {cs : List Value} (h : ao.heap[b]? = w.heap[b]?) (aD : e0 w b o cs) : e0 ao b o cs :=
 fun ay c ag => (cell?_of_block h _).trans (aD ay c ag)
mutual
theorem ai.frame {w ao : World} {F : Nat → Prop} (aN : ∀ b, F b → ao.heap[b]? = w.heap[b]?) :
  ∀ (d : j) (cs : List Value) (S : Nat → Prop), (∀ b, S b → ao.heap[b]? = w.heap[b]?) → ai w F d cs S → ai ao F d cs S
 | .hole, _, _, _, h => h
 | .bool _, _, _, _, h => h
 | .c1, _, _, _, h => h
 | .int _ _, _, _, _, h => h
 | .str _, _, _, _, h => h
 | .b_, _, _, _, h => h
 | .bu, _, _, _, h => h
 | .slice xs, cs, S, aZ, h => by
   rw [ai] at h ⊢
   rcases h with h | ⟨b, o, cap, c2, sz, U, aa, au, aK, a1, bN, bS⟩
   ·exact .inl h
   ·exact .inr ⟨b, o, cap, c2, sz, U, aa, au, aK, a1, bN.frame (aN _ aa), aH.frame aN xs _ _ (fun _ h => h.elim) bS⟩
 | .aJ sz xs, cs, S, aZ, h => by
   rw [ai] at h ⊢
   rcases h with h | ⟨b, cap, cur, e, fr, az, U, aa, au, aK, a1, bN, bS, df, e1, eK, hD⟩
   ·exact .inl h
   ·exact .inr ⟨b, cap, cur, e, fr, az, U, aa, (aZ _ aa).trans au, aK, a1, bN, bS, df, aH.frame aN xs _ _ (fun c ag => aZ _ (eK _ ag)) e1, eK, hD⟩
 | .ref d, cs, S, aZ, h => by
   rw [ai] at h ⊢
   obtain ⟨b, o, c2, U, aa, au, aK⟩ := h
   exact ⟨b, o, c2, U, aa, au.frame (aN _ aa), ai.frame aN d _ _ (fun _ h => h.elim) aK⟩
 | .bb d, cs, S, aZ, h => by
   rw [ai] at h ⊢
   obtain ⟨b, cur, e, fr, az, U, aa, au, aK, a1, bN, bS⟩ := h
   exact ⟨b, cur, e, fr, az, U, aa, (aZ _ aa).trans au, aK, ai.frame aN d _ _ (fun c ag => aZ _ (bN _ ag)) a1, bN, bS⟩
 | .agg af, cs, S, aZ, h => by rw [ai] at h ⊢; exact aH.frame aN af _ _ aZ h
 | .tuple af, cs, S, aZ, h => by rw [ai] at h ⊢; exact aH.frame aN af _ _ aZ h
 | .fn _ caps, cs, S, aZ, h => by
   rw [ai] at h ⊢
   obtain ⟨arr, U, aa, au⟩ := h
   exact ⟨arr, U, aa, aH.frame aN caps _ _ (fun _ h => h.elim) au⟩
 | .h _ _, _, _, _, h => h
 | .ak _ _, _, _, _, h => h
 | .J _ _, _, _, _, h => h
 | .ch _, _, _, aZ, h => hC.frame aZ h
theorem aH.frame {w ao : World} {F : Nat → Prop} (aN : ∀ b, F b → ao.heap[b]? = w.heap[b]?) :
  ∀ (ds : List j) (cs : List Value) (S : Nat → Prop), (∀ b, S b → ao.heap[b]? = w.heap[b]?) → aH w F ds cs S → aH ao F ds cs S
 | [], _, _, _, h => h
 | d :: ds, cs, S, aZ, h => by
   rw [aH] at h ⊢
   obtain ⟨bA, bG, bf, cj, U, aa, au, aK, a1, bN⟩ := h
   exact ⟨bA, bG, bf, cj, U, ai.frame aN d _ _ (fun b J => aZ _ (aK _ J)) aa, aH.frame aN ds _ _ (fun b J => aZ _ (a1 _ J)) au, aK, a1, bN⟩
end
mutual
theorem ai.mono {w : World} {F aY : Nat → Prop} (aN : ∀ b, F b → aY b) :
  ∀ (d : j) (cs : List Value) (S az : Nat → Prop), (∀ b, S b → az b) → ai w F d cs S → ai w aY d cs az
 | .hole, _, _, _, _, h => h
 | .bool _, _, _, _, _, h => h
 | .c1, _, _, _, _, h => h
 | .int _ _, _, _, _, _, h => h
 | .str _, _, _, _, _, h => h
 | .b_, _, _, _, _, h => h
 | .bu, _, _, _, _, h => h
 | .slice xs, cs, S, _, aZ, h => by
   rw [ai] at h ⊢
   rcases h with h | ⟨b, o, cap, c2, sz, U, aa, au, aK, a1, bN, bS⟩
   ·exact .inl h
   ·exact .inr ⟨b, o, cap, c2, sz, U, aN _ aa, au, aK, a1, bN, aH.mono aN xs _ _ _ (fun _ h => h) bS⟩
 | .aJ sz xs, cs, S, _, aZ, h => by
   rw [ai] at h ⊢
   rcases h with h | ⟨b, cap, cur, e, fr, az, U, aa, au, aK, a1, bN, bS, df, e1, eK, hD⟩
   ·exact .inl h
   ·exact .inr ⟨b, cap, cur, e, fr, az, U, aZ _ aa, au, aK, a1, bN, bS, df, aH.mono aN xs _ _ _ (fun _ h => h) e1, fun c ag => aZ _ (eK _ ag), hD⟩
 | .ref d, cs, S, _, aZ, h => by
   rw [ai] at h ⊢
   obtain ⟨b, o, c2, U, aa, au, aK⟩ := h
   exact ⟨b, o, c2, U, aN _ aa, au, ai.mono aN d _ _ _ (fun _ h => h) aK⟩
 | .bb d, cs, S, _, aZ, h => by
   rw [ai] at h ⊢
   obtain ⟨b, cur, e, fr, az, U, aa, au, aK, a1, bN, bS⟩ := h
   exact ⟨b, cur, e, fr, az, U, aZ _ aa, au, aK, ai.mono aN d _ _ _ (fun _ h => h) a1, fun c ag => aZ _ (bN _ ag), bS⟩
 | .agg af, cs, S, _, aZ, h => by rw [ai] at h ⊢; exact aH.mono aN af _ _ _ aZ h
 | .tuple af, cs, S, _, aZ, h => by rw [ai] at h ⊢; exact aH.mono aN af _ _ _ aZ h
 | .fn _ caps, cs, S, _, aZ, h => by
   rw [ai] at h ⊢
   obtain ⟨arr, U, aa, au⟩ := h
   exact ⟨arr, U, aa, aH.mono aN caps _ _ _ (fun _ h => h) au⟩
 | .h _ _, _, _, _, _, h => h
 | .ak _ _, _, _, _, _, h => h
 | .J _ _, _, _, _, _, h => h
 | .ch _, _, _, _, aZ, h => hC.mono aZ h
theorem aH.mono {w : World} {F aY : Nat → Prop} (aN : ∀ b, F b → aY b) :
  ∀ (ds : List j) (cs : List Value) (S az : Nat → Prop), (∀ b, S b → az b) → aH w F ds cs S → aH w aY ds cs az
 | [], _, _, _, _, h => h
 | d :: ds, cs, S, _, aZ, h => by
   rw [aH] at h ⊢
   obtain ⟨bA, bG, bf, cj, U, aa, au, aK, a1, bN⟩ := h
   exact ⟨bA, bG, bf, cj, U, ai.mono aN d _ _ _ (fun _ h => h) aa, aH.mono aN ds _ _ _ (fun _ h => h) au, fun b J => aZ _ (aK _ J), fun b J => aZ _ (a1 _ J), bN⟩
end
mutual
theorem ai.length {w : World} {F : Nat → Prop} : ∀ (d : j) (cs : List Value) (S : Nat → Prop), ai w F d cs S → cs.length = d.wd
 | .hole, cs, S, h => by rw [ai] at h; obtain ⟨v, _, rfl⟩ := h; rfl
 | .bool _, cs, S, h => by rw [ai] at h; subst h; rfl
 | .c1, cs, S, h => by rw [ai] at h; obtain ⟨b, rfl⟩ := h; rfl
 | .int _ _, cs, S, h => by rw [ai] at h; subst h; rfl
 | .str _, cs, S, h => by rw [ai] at h; subst h; rfl
 | .b_, cs, S, h => by rw [ai] at h; subst h; rfl
 | .bu, cs, S, h => by rw [ai] at h; subst h; rfl
 | .slice xs, cs, S, h => by
   rw [ai] at h
   rcases h with ⟨_, a, c, rfl, _⟩ | ⟨b, o, cap, c2, sz, rfl, _⟩ <;> rfl
 | .aJ sz xs, cs, S, h => by
   rw [ai] at h
   rcases h with ⟨_, a, rfl⟩ | ⟨b, cap, cur, e, fr, az, rfl, _⟩ <;> rfl
 | .ref d, cs, S, h => by rw [ai] at h; obtain ⟨b, o, c2, rfl, _⟩ := h; rfl
 | .bb d, cs, S, h => by rw [ai] at h; obtain ⟨b, o, c2, _, _, rfl, _⟩ := h; rfl
 | .agg af, cs, S, h => by rw [ai] at h; exact aH.length af _ _ h
 | .tuple af, cs, S, h => by rw [ai] at h; exact aH.length af _ _ h
 | .fn _ _, cs, S, h => by rw [ai] at h; obtain ⟨arr, rfl, _⟩ := h; rfl
 | .h _ _, cs, S, h => by rw [ai] at h; exact h.elim
 | .ak _ _, cs, S, h => by rw [ai] at h; exact h.elim
 | .J _ _, cs, S, h => by rw [ai] at h; exact h.elim
 | .ch _, cs, S, h => by rw [ai] at h; obtain ⟨v, _, rfl⟩ := hC.one h; rfl
theorem aH.length {w : World} {F : Nat → Prop} : ∀ (ds : List j) (cs : List Value) (S : Nat → Prop), aH w F ds cs S → cs.length = j.cz ds
 | [], cs, S, h => by rw [aH] at h; subst h; rfl
 | d :: ds, cs, S, h => by
   rw [aH] at h
   obtain ⟨bA, bG, bf, cj, rfl, aa, au, _⟩ := h
   rw [List.length_append, ai.length d _ _ aa, aH.length ds _ _ au, j.cz]
end
mutual
def j.share : j → j
 | .aJ _ xs => .slice (j.shares xs)
 | .bb d => .ref d.share
 | .slice xs => .slice (j.shares xs)
 | .ref d => .ref d.share
 | .agg af => .agg (j.shares af)
 | .tuple af => .tuple (j.shares af)
 | .ch _ => .hole
 | d => d
def j.shares : List j → List j
 | [] => []
 | d :: ds => d.share :: j.shares ds
end
theorem j.mQ (ds : List j) : j.shares ds = ds.map j.share := by
 induction ds with
 | nil => rfl
 | cons d ds ih => simp [j.shares, ih]
mutual
theorem j.ru : ∀ d : j, d.share.wd = d.wd
 | .hole => rfl
 | .bool _ => rfl
 | .c1 => rfl
 | .int _ _ => rfl
 | .str _ => rfl
 | .b_ => rfl
 | .bu => rfl
 | .slice _ => rfl
 | .aJ _ _ => rfl
 | .ref _ => rfl
 | .bb _ => rfl
 | .agg af => by simp only [j.share, j.wd]; exact j.th af
 | .tuple af => by simp only [j.share, j.wd]; exact j.th af
 | .fn _ _ => rfl
 | .h _ _ => rfl
 | .ak _ _ => rfl
 | .J _ _ => rfl
 | .ch _ => rfl
theorem j.th : ∀ ds : List j, j.cz (j.shares ds) = j.cz ds
 | [] => rfl
 | d :: ds => by simp only [j.shares, j.cz]; rw [j.ru d, j.th ds]
end
theorem n1 {w : World} {b : Nat} {cur : Array Value} {e : TypeId} {fr : Nat × Nat} (h : w.heap[b]? = some (.cells cur e fr)) (n : Nat) : e0 w b 0 (cur.toList.take n) := by
 intro ay c ag
 rw [List.getElem?_take] at ag
 split at ag
 ·simp [World.cell?, h]; simpa using ag
 ·cases ag
mutual
theorem ai.shared {w : World} {F aY : Nat → Prop} (aN : ∀ b, F b → aY b) :
  ∀ (d : j) (cs : List Value) (S : Nat → Prop), (∀ b, S b → aY b) → ai w F d cs S → ai w aY d.share cs (fun _ => False)
 | .hole, _, _, _, h => h
 | .bool _, _, _, _, h => h
 | .c1, _, _, _, h => h
 | .int _ _, _, _, _, h => h
 | .str _, _, _, _, h => h
 | .b_, _, _, _, h => h
 | .bu, _, _, _, h => h
 | .slice xs, cs, S, aZ, h => by
   rw [j.share, ai]
   rw [ai] at h
   rcases h with ⟨rfl, a, c, rfl, ag⟩ | ⟨b, o, cap, c2, sz, U, aa, au, aK, a1, bN, bS⟩
   ·exact .inl ⟨rfl, a, c, rfl, ag⟩
   ·refine .inr ⟨b, o, cap, c2, sz, ?_, aN _ aa, ?_, aK, ?_, bN, aH.shared aN xs _ _ (fun _ h => h.elim) bS⟩
    ·simpa [j.mQ] using U
    ·simpa [j.mQ] using au
    ·intro d ab
     rw [j.mQ] at ab
     obtain ⟨aS, ep, rfl⟩ := List.mem_map.1 ab
     rw [j.ru]; exact a1 _ ep
 | .aJ sz xs, cs, S, aZ, h => by
   rw [j.share, ai]
   rw [ai] at h
   rcases h with ⟨rfl, a, rfl⟩ | ⟨b, cap, cur, e, fr, az, U, aa, au, aK, a1, bN, bS, df, e1, eK, hD⟩
   ·exact .inl ⟨rfl, a, 0, rfl, Nat.zero_le _, fun _ => rfl⟩
   ·refine .inr ⟨b, 0, cap, _, sz, ?_, aZ _ aa, ?_, bN, ?_, n1 au _, aH.shared aN xs _ _ (fun c ag => aZ _ (eK _ ag)) e1⟩
    ·simpa [j.mQ] using U
    ·simpa [j.mQ] using a1
    ·intro d ab
     rw [j.mQ] at ab
     obtain ⟨aS, ep, rfl⟩ := List.mem_map.1 ab
     rw [j.ru]; exact df _ ep
 | .ref d, cs, S, aZ, h => by
   rw [j.share, ai]
   rw [ai] at h
   obtain ⟨b, o, c2, U, aa, au, aK⟩ := h
   exact ⟨b, o, c2, U, aN _ aa, au, ai.shared aN d _ _ (fun _ h => h.elim) aK⟩
 | .bb d, cs, S, aZ, h => by
   rw [j.share, ai]
   rw [ai] at h
   obtain ⟨b, cur, e, fr, az, U, aa, au, aK, a1, bN, bS⟩ := h
   refine ⟨b, 0, cur.toList, U, aZ _ aa, ?_, ai.shared aN d _ _ (fun c ag => aZ _ (bN _ ag)) a1⟩
   have := n1 au cur.toList.length
   rwa [List.take_length] at this
 | .agg af, cs, S, aZ, h => by rw [j.share, ai]; rw [ai] at h; exact aH.shared aN af _ _ aZ h
 | .tuple af, cs, S, aZ, h => by rw [j.share, ai]; rw [ai] at h; exact aH.shared aN af _ _ aZ h
 | .fn f caps, cs, S, aZ, h => by
   show ai w aY (.fn f caps) cs _
   rw [ai] at h ⊢
   obtain ⟨arr, U, aa, au⟩ := h
   exact ⟨arr, U, aa, aH.mono aN caps _ _ _ (fun _ h => h) au⟩
 | .h _ _, _, _, _, h => h
 | .ak _ _, _, _, _, h => h
 | .J _ _, _, _, _, h => h
 | .ch _, cs, S, aZ, h => by rw [ai] at h; rw [j.share, ai]; exact hC.one h
theorem aH.shared {w : World} {F aY : Nat → Prop} (aN : ∀ b, F b → aY b) :
  ∀ (ds : List j) (cs : List Value) (S : Nat → Prop), (∀ b, S b → aY b) → aH w F ds cs S → aH w aY (j.shares ds) cs (fun _ => False)
 | [], _, _, _, h => h
 | d :: ds, cs, S, aZ, h => by
   simp only [j.shares]
   rw [aH] at h ⊢
   obtain ⟨bA, bG, bf, cj, U, aa, au, aK, a1, bN⟩ := h
   exact ⟨bA, bG, _, _, U, ai.shared aN d _ _ (fun b J => aZ _ (aK _ J)) aa, aH.shared aN ds _ _ (fun b J => aZ _ (a1 _ J)) au, fun _ h => h, fun _ h => h, fun _ h => h.elim⟩
end
def j.sub : List Nat → j → Option j
 | [], d => some d
 | k :: q, .agg af => match af[k]? with
   | some d => j.sub q d
   | none => none
 | k :: q, .tuple af => match af[k]? with
   | some d => j.sub q d
   | none => none
 | i :: q, .aJ _ xs => match xs[i]? with
   | some d => j.sub q d
   | none => none
 | 0 :: q, .bb d => j.sub q d
 | _ :: _, _ => none
def j.put : List Nat → j → j → j
 | [], n, _ => n
 | k :: q, n, .agg af => match af[k]? with
   | some d => .agg (af.set k (j.put q n d))
   | none => .agg af
 | k :: q, n, .tuple af => match af[k]? with
   | some d => .tuple (af.set k (j.put q n d))
   | none => .tuple af
 | i :: q, n, .aJ sz xs => match xs[i]? with
   | some d => .aJ sz (xs.set i (j.put q n d))
   | none => .aJ sz xs
 | 0 :: q, n, .bb d => .bb (j.put q n d)
 | _ :: _, _, d => d
def i2 (w : World) (b o n : Nat) : List Value := (List.range n).map fun ay => (w.cell? ⟨b, o + ay, none⟩).getD undef
theorem e0.i2 {w : World} {b o : Nat} {cs : List Value} (h : e0 w b o cs) : i2 w b o cs.length = cs := by
 unfold b7.i2
 apply List.ext_getElem?
 intro i
 rw [List.getElem?_map]
 by_cases ax : i < cs.length
 ·have : cs[i]? = some cs[i] := List.getElem?_eq_getElem ax
  simp [ax, h i _ this]
 ·simp [ax]
def b2 (w : World) : List Nat → j → List Value → Option (Nat × Nat) → Option (j × List Value × Option (Nat × Nat))
 | [], d, cs, a => some (d, cs, a)
 | k :: q, .agg af, cs, a => match af[k]? with
   | some d => b2 w q d ((cs.drop (j.cz (af.take k))).take d.wd) (a.map fun l => (l.1, l.2 + j.cz (af.take k)))
   | none => none
 | k :: q, .tuple af, cs, a => match af[k]? with
   | some d => b2 w q d ((cs.drop (j.cz (af.take k))).take d.wd) (a.map fun l => (l.1, l.2 + j.cz (af.take k)))
   | none => none
 | i :: q, .aJ sz xs, cs, _ => match xs[i]?, cs with
   | some d, [.slice (some ⟨b, _, _⟩) _ _] => b2 w q d (i2 w b (i * sz) sz) (some (b, i * sz))
   | _, _ => none
 | 0 :: q, .bb d, cs, _ => match cs with
   | [.pointer (some ⟨b, _, _⟩)] => b2 w q d (i2 w b 0 d.wd) (some (b, 0))
   | _ => none
 | _ :: _, _, _, _ => none
theorem mR (bA dq bG : List Value) (n m : Nat) (U : bA.length = n) (aa : dq.length = m) : ((bA ++ (dq ++ bG)).drop n).take m = dq := by
 rw [List.drop_left' U, List.take_left' aa]
theorem aH.pick {w : World} {F : Nat → Prop} : ∀ (ds : List j) (cs : List Value) (S : Nat → Prop) (k : Nat) (d : j),
  aH w F ds cs S → ds[k]? = some d → ∃ (bA dq bG : List Value) (bf eV : Nat → Prop), cs = bA ++ (dq ++ bG) ∧ bA.length = j.cz (ds.take k) ∧
   (∀ b, bf b → S b) ∧ (∀ b, eV b → S b) ∧ (∀ b, bf b → ¬ eV b) ∧ ai w F d dq eV ∧
   ∀ (ao : World) (aS : j) (mS : List Value) (az : Nat → Prop), (∀ b, F b → ao.heap[b]? = w.heap[b]?) → (∀ b, bf b → ao.heap[b]? = w.heap[b]?) →
     ai ao F aS mS az → (∀ b, az b → ¬ bf b) → aH ao F (ds.set k aS) (bA ++ (mS ++ bG)) (fun b => bf b ∨ az b)
 | [], _, _, _, _, _, ah => by simp at ah
 | x :: ds, cs, S, 0, d, h, ah => by
   rw [aH] at h
   obtain ⟨bA, bG, eL, dX, rfl, U, aa, bB, J, h0⟩ := h
   simp at ah; subst ah
   refine ⟨[], bA, bG, dX, eL, rfl, rfl, J, bB, fun b J bB => h0 _ bB J, U, ?_⟩
   intro ao aS mS az aN aZ ab fF
   simp only [List.set_cons_zero, List.nil_append]
   rw [aH]
   exact ⟨mS, bG, az, dX, rfl, ab, aH.frame aN _ _ _ aZ aa, fun b h => .inr h, fun b h => .inl h, fun b h => fF b h⟩
 | x :: ds, cs, S, k + 1, d, h, ah => by
   rw [aH] at h
   obtain ⟨k4, BM, eL, dX, rfl, U, aa, bB, J, h0⟩ := h
   simp only [List.getElem?_cons_succ] at ah
   have hl := ai.length _ _ _ U
   obtain ⟨bA, dq, bG, bf, eV, rfl, ti, lT, kz, mP, pG, tj⟩ := aH.pick ds BM dX k d aa ah
   refine ⟨k4 ++ bA, dq, bG, fun b => eL b ∨ bf b, eV, by simp, by simp [j.cz, hl, ti], ?_, fun b h => J _ (kz _ h), ?_, pG, ?_⟩
   ·rintro b (h | h)
    ·exact bB _ h
    ·exact J _ (lT _ h)
   ·rintro b (h | h) ah
    ·exact h0 _ h (kz _ ah)
    ·exact mP _ h ah
   ·intro ao aS mS az aN aZ ab fF
    simp only [List.set_cons_succ]
    rw [aH]
    refine ⟨k4, bA ++ (mS ++ bG), eL, fun b => bf b ∨ az b, by simp, ai.frame aN _ _ _ (fun b J => aZ b (.inl J)) U,
     tj ao aS mS az aN (fun b J => aZ b (.inr J)) ab (fun b J ag => fF b J (.inr ag)), fun b h => .inl (.inl h), ?_, ?_⟩
    ·rintro b (h | h)
     ·exact .inl (.inr h)
     ·exact .inr h
    ·rintro b h (aX | aX)
     ·exact h0 _ h (lT _ aX)
     ·exact fF _ aX (.inl h)
theorem tk : ∀ (af : List j) (k : Nat) (x y : j), af[k]? = some x → y.wd = x.wd → j.cz (af.set k y) = j.cz af := by
 intro af
 induction af with
 | nil => intro k x y h; simp at h
 | cons a af ih =>
   intro k x y h e
   cases k with
   | zero => simp at h; subst h; simp [j.cz, e]
   | succ k => simp at h; simp [j.cz, ih k x y h e]
theorem mT {sz : Nat} : ∀ (xs : List j), (∀ d ∈ xs, d.wd = sz) → j.cz xs = xs.length * sz
 | [], _ => by simp [j.cz]
 | x :: xs, h => by
   rw [j.cz, h x (by simp), mT xs (fun d ab => h d (by simp [ab])), List.length_cons, Nat.add_mul, Nat.one_mul, Nat.add_comm]
theorem j.n2 : ∀ (q : List Nat) (av d aS : j), j.sub q av = some d → aS.wd = d.wd → (j.put q aS av).wd = av.wd := by
 intro q
 induction q with
 | nil => intro av d aS h e; simp [j.sub] at h; subst h; simpa [j.put] using e
 | cons k q ih =>
   intro av d aS h e
   cases av with
   | agg af =>
     simp only [j.sub] at h
     split at h
     ·rename_i x an
      simp only [j.put, an, j.wd]
      exact tk _ _ _ _ an (ih _ _ _ h e)
     ·cases h
   | tuple af =>
     simp only [j.sub] at h
     split at h
     ·rename_i x an
      simp only [j.put, an, j.wd]
      exact tk _ _ _ _ an (ih _ _ _ h e)
     ·cases h
   | aJ sz xs =>
     simp only [j.sub] at h
     split at h
     ·rename_i x an
      simp only [j.put, an, j.wd]
     ·cases h
   | bb x =>
     cases k with
     | zero => simp only [j.put, j.wd]
     | succ k => simp [j.sub] at h
   | _ => simp [j.sub] at h
theorem tl {sz : Nat} {xs : List j} {i : Nat} {y : j} (h : ∀ d ∈ xs, d.wd = sz) (a8 : y.wd = sz) : ∀ d ∈ xs.set i y, d.wd = sz := by
 intro d ab
 rcases List.mem_or_eq_of_mem_set ab with ab | rfl
 ·exact h d ab
 ·exact a8
theorem n3 {w : World} {b : Nat} {cur : Array Value} {e : TypeId} {fr : Nat × Nat} (h : w.heap[b]? = some (.cells cur e fr)) {l m r : List Value} (ag : cur.toList = l ++ (m ++ r)) :
  i2 w b l.length m.length = m := by
 refine e0.i2 (fun ay c bP => ?_)
 have cK : ay < m.length := (List.getElem?_eq_some_iff.1 bP).1
 have : cur.toList[l.length + ay]? = some c := by
  rw [ag, List.getElem?_append_right (by omega), List.getElem?_append_left (by omega)]
  rw [← bP]; congr 1; omega
 simp [World.cell?, h]
 simpa using this
def Flat (w : World) (F : Nat → Prop) (q : List Nat) (av : j) (cs : List Value) (a : Option (Nat × Nat)) (d : j) (bQ : List Value) (bK : Option (Nat × Nat)) (cS : Nat → Prop) : Prop :=
 ∃ l r : List Value, cs = l ++ (bQ ++ r) ∧ bK = a.map (fun x => (x.1, x.2 + l.length)) ∧
   ∀ (ao : World) (aS : j) (dx : List Value) (az : Nat → Prop), (∀ b, F b → ao.heap[b]? = w.heap[b]?) → (∀ b, cS b → ao.heap[b]? = w.heap[b]?) →
     aS.wd = d.wd → ai ao F aS dx az → (∀ b, az b → ¬ cS b) → ai ao F (j.put q aS av) (l ++ (dx ++ r)) (fun b => cS b ∨ az b)
def Deep (w : World) (F : Nat → Prop) (q : List Nat) (av : j) (cs : List Value) (d : j) (bQ : List Value) (bK : Option (Nat × Nat)) (cS : Nat → Prop) : Prop :=
 ∃ (b : Nat) (cur : Array Value) (e : TypeId) (fr : Nat × Nat) (l r : List Value), bK = some (b, l.length) ∧ cS b ∧ w.heap[b]? = some (.cells cur e fr) ∧ lS fr cur.size ∧ cur.toList = l ++ (bQ ++ r) ∧
   ∀ (ao : World) (aS : j) (dx : List Value) (az : Nat → Prop), (∀ b, F b → ao.heap[b]? = w.heap[b]?) → (∀ c, cS c → c ≠ b → ao.heap[c]? = w.heap[c]?) →
     ao.heap[b]? = some (.cells (l ++ (dx ++ r)).toArray e fr) →
     aS.wd = d.wd → ai ao F aS dx az → (∀ b, az b → ¬ cS b) → ai ao F (j.put q aS av) cs (fun b => cS b ∨ az b)
theorem ctx {w : World} {F : Nat → Prop} : ∀ (q : List Nat) (av : j) (cs : List Value) (S : Nat → Prop) (a : Option (Nat × Nat)) (d : j),
  ai w F av cs S → j.sub q av = some d → ∃ (bQ : List Value) (bK : Option (Nat × Nat)) (cS ei : Nat → Prop), b2 w q av cs a = some (d, bQ, bK) ∧
   (∀ b, cS b → S b) ∧ (∀ b, ei b → S b) ∧ (∀ b, cS b → ¬ ei b) ∧ ai w F d bQ ei ∧ (Flat w F q av cs a d bQ bK cS ∨ Deep w F q av cs d bQ bK cS) := by
 intro q
 induction q with
 | nil =>
   intro av cs S a d h ab
   simp [j.sub] at ab; subst ab
   refine ⟨cs, a, fun _ => False, S, rfl, fun _ h => h.elim, fun _ h => h, fun _ h => h.elim, h, .inl ⟨[], [], by simp, ?_, ?_⟩⟩
   ·cases a <;> simp
   ·intro ao aS dx az _ _ hw ep _
    simp only [j.put, List.nil_append, List.append_nil]
    exact ai.mono (fun _ h => h) _ _ _ _ (fun b h => .inr h) ep
 | cons k q ih =>
   have fields : ∀ (mk : List j → j) (tm : ∀ (w : World) (F : Nat → Prop) (af : List j) (cs : List Value) (S : Nat → Prop), ai w F (mk af) cs S = aH w F af cs S) (af : List j) (cs : List Value) (S : Nat → Prop) (a : Option (Nat × Nat)) (x d : j),
     (gL : ∀ aS, j.put (k :: q) aS (mk af) = mk (af.set k (j.put q aS x))) → aH w F af cs S → af[k]? = some x → j.sub q x = some d →
     ∃ (bQ : List Value) (bK : Option (Nat × Nat)) (cS ei : Nat → Prop), b2 w q x ((cs.drop (j.cz (af.take k))).take x.wd) (a.map fun l => (l.1, l.2 + j.cz (af.take k))) = some (d, bQ, bK) ∧
     (∀ b, cS b → S b) ∧ (∀ b, ei b → S b) ∧ (∀ b, cS b → ¬ ei b) ∧ ai w F d bQ ei ∧ (Flat w F (k :: q) (mk af) cs a d bQ bK cS ∨ Deep w F (k :: q) (mk af) cs d bQ bK cS) := by
    intro mk tm af cs S a x d gL h an ab
    obtain ⟨bA, dq, bG, bf, eV, rfl, eM, dF, er, e_, dy, h1⟩ := aH.pick af cs S k x h an
    have hl := ai.length _ _ _ dy
    rw [mR bA dq bG _ _ eM hl]
    obtain ⟨bQ, bK, cS, ei, g0, g1, g2, g3, g4, g5⟩ := ih x _ eV (a.map fun l => (l.1, l.2 + j.cz (af.take k))) d dy ab
    refine ⟨bQ, bK, fun b => bf b ∨ cS b, ei, g0, ?_, fun b J => er _ (g2 _ J), ?_, g4, ?_⟩
    ·rintro b (h | h)
     ·exact dF _ h
     ·exact er _ (g1 _ h)
    ·rintro b (h | h) ab
     ·exact e_ _ h (g2 _ ab)
     ·exact g3 _ h ab
    ·have c7 : ∀ (b : Nat) (az : Nat → Prop), (bf b ∨ cS b ∨ az b) → ((bf b ∨ cS b) ∨ az b) := by
      rintro b az (J | J | J)
      ·exact .inl (.inl J)
      ·exact .inl (.inr J)
      ·exact .inr J
     rcases g5 with ⟨l, r, rfl, aI, bg⟩ | ⟨b, cur, e, fr, l, r, aE, aI, bg, bX, b0, bh⟩
     ·refine .inl ⟨bA ++ l, r ++ bG, by simp, ?_, ?_⟩
      ·rw [aI, ← eM]; cases a <;> simp [Nat.add_assoc]
      ·intro ao aS dx az aN aZ hw ep fF
       have et := bg ao aS dx az aN (fun b J => aZ b (.inr J)) hw ep (fun b J ag => fF b J (.inr ag))
       have ck := h1 ao _ _ _ aN (fun b J => aZ b (.inl J)) et (by
        rintro b (J | J) U
        ·exact e_ _ U (g1 _ J)
        ·exact fF _ J (.inl U))
       rw [gL, tm]
       have := aH.mono (fun _ h => h) _ _ _ _ (fun b => c7 b az) ck
       simpa using this
     ·refine .inr ⟨b, cur, e, fr, l, r, aE, .inr aI, bg, bX, b0, ?_⟩
      intro ao aS dx az aN aZ h2 hw ep fF
      have et := bh ao aS dx az aN (fun c ag => aZ c (.inr ag)) h2 hw ep (fun b J ag => fF b J (.inr ag))
      have ck := h1 ao _ _ _ aN (fun c ag => aZ c (.inl ag) (by rintro rfl; exact e_ _ ag (g1 _ aI))) et (by
        rintro b (J | J) U
        ·exact e_ _ U (g1 _ J)
        ·exact fF _ J (.inl U))
      rw [gL, tm]
      exact aH.mono (fun _ h => h) _ _ _ _ (fun b => c7 b az) ck
   intro av cs S a d h ab
   cases av with
   | agg af =>
     simp only [j.sub] at ab
     split at ab
     ·rename_i x an
      rw [ai] at h
      have := fields .agg (fun _ _ _ _ _ => by rw [ai]) af cs S a x d (fun aS => by simp only [j.put, an]) h an ab
      simpa only [b2, an] using this
     ·cases ab
   | tuple af =>
     simp only [j.sub] at ab
     split at ab
     ·rename_i x an
      rw [ai] at h
      have := fields .tuple (fun _ _ _ _ _ => by rw [ai]) af cs S a x d (fun aS => by simp only [j.put, an]) h an ab
      simpa only [b2, an] using this
     ·cases ab
   | aJ sz xs =>
     simp only [j.sub] at ab
     split at ab
     ·rename_i x an
      rw [ai] at h
      rcases h with ⟨rfl, _, rfl⟩ | ⟨b, cap, cur, e, fr, cq, rfl, aa, au, aK, a1, bN, bS, df, e1, eK, hD⟩
      ·simp at an
      ·obtain ⟨bA, dq, bG, bf, eV, p, eM, dF, er, e_, dy, h1⟩ := aH.pick xs _ cq k x e1 an
       have hl := ai.length _ _ _ dy
       have BN : k < xs.length := (List.getElem?_eq_some_iff.1 an).1
       have pH : x.wd = sz := df x (List.mem_of_getElem? an)
       have bq : j.cz (xs.take k) = k * sz := by
        rw [mT _ (fun d ab => df d (List.mem_of_mem_take ab))]
        rw [List.length_take, Nat.min_eq_left (by omega)]
       obtain ⟨k5, hd⟩ : ∃ k5, cur.toList = bA ++ (dq ++ (bG ++ k5)) := by
        refine ⟨cur.toList.drop (xs.length * sz), ?_⟩
        have := (List.take_append_drop (xs.length * sz) cur.toList).symm
        rw [p] at this
        simpa using this
       have gi : i2 w b (k * sz) sz = dq := by
        have := n3 au hd
        rwa [eM, bq, hl, pH] at this
       obtain ⟨bQ, bK, cS, ei, g0, g1, g2, g3, g4, g5⟩ := ih x _ eV (some (b, k * sz)) d dy ab
       have gL : ∀ aS, j.put (k :: q) aS (.aJ sz xs) = .aJ sz (xs.set k (j.put q aS x)) := fun aS => by simp only [j.put, an]
       refine ⟨bQ, bK, fun c => c = b ∨ bf c ∨ cS c, ei, ?_, ?_, fun c ag => eK _ (er _ (g2 _ ag)), ?_, g4, .inr ?_⟩
       ·simp only [b2, an, gi]; exact g0
       ·rintro c (rfl | h | h)
        ·exact aa
        ·exact eK _ (dF _ h)
        ·exact eK _ (er _ (g1 _ h))
       ·rintro c (rfl | h | h) ab
        ·exact hD (er _ (g2 _ ab))
        ·exact e_ _ h (g2 _ ab)
        ·exact g3 _ h ab
       ·have iE : ∀ aS, aS.wd = d.wd → (j.put q aS x).wd = sz := fun aS hw => (j.n2 q x d aS ab hw).trans pH
        rcases g5 with ⟨l, r, rfl, aI, bg⟩ | ⟨dk, rv, eE, tn, l, r, aE, aI, bg, bX, b0, bh⟩
        ·refine ⟨b, cur, e, fr, bA ++ l, r ++ (bG ++ k5), ?_, .inl rfl, au, aK, ?_, ?_⟩
         ·rw [aI]; simp [eM, bq]
         ·rw [hd]; simp
         ·intro ao aS dx az aN aZ h2 hw ep fF
          have et := bg ao aS dx az aN (fun c ag => aZ c (.inr (.inr ag)) (by rintro rfl; exact hD (er _ (g1 _ ag)))) hw ep (fun b J ag => fF b J (.inr (.inr ag)))
          have ck := h1 ao _ _ _ aN (fun c ag => aZ c (.inr (.inl ag)) (by rintro rfl; exact hD (dF _ ag))) et (by
           rintro b (J | J) U
           ·exact e_ _ U (g1 _ J)
           ·exact fF _ J (.inr (.inl U)))
          have pI := ai.length _ _ _ ep
          have pJ := ai.length _ _ _ g4
          rw [gL, ai]
          refine .inr ⟨b, cap, _, e, fr, fun b => bf b ∨ cS b ∨ az b, by simp, .inl (.inl rfl), h2, ?_, by simpa using a1, bN, ?_, tl df (iE aS hw), ?_, ?_, ?_⟩
          ·have : (bA ++ l ++ (dx ++ (r ++ (bG ++ k5)))).toArray.size = cur.size := by
            have : cur.size = cur.toList.length := by simp
            rw [this, hd]; simp [pI, pJ, hw]
           rw [this]; exact aK
          ·rw [← bS]
           have : cur.size = cur.toList.length := by simp
           rw [this, hd]; simp [pI, pJ, hw]
          ·have hlen : (bA ++ (l ++ (dx ++ r) ++ bG)).length = xs.length * sz := by
            have := congrArg List.length p
            rw [List.length_take, Nat.min_eq_left (by simp [bS]; exact Nat.mul_le_mul_right _ a1)] at this
            rw [this]; simp [pI, pJ, hw]
           have : (bA ++ l ++ (dx ++ (r ++ (bG ++ k5)))) = (bA ++ (l ++ (dx ++ r) ++ bG)) ++ k5 := by simp
           rw [List.length_set]
           simp only [this]
           rw [List.take_left' hlen]
           exact ck
          ·rintro c (h | h | h)
           ·exact .inl (.inr (.inl h))
           ·exact .inl (.inr (.inr h))
           ·exact .inr h
          ·rintro (h | h | h)
           ·exact hD (dF _ h)
           ·exact hD (er _ (g1 _ h))
           ·exact fF _ h (.inl rfl)
        ·refine ⟨dk, rv, eE, tn, l, r, aE, .inr (.inr aI), bg, bX, b0, ?_⟩
         intro ao aS dx az aN aZ h2 hw ep fF
         have et := bh ao aS dx az aN (fun c ag cu => aZ c (.inr (.inr ag)) cu) h2 hw ep (fun b J ag => fF b J (.inr (.inr ag)))
         have cu : ∀ c, bf c → c ≠ dk := by rintro c ag rfl; exact e_ _ ag (g1 _ aI)
         have ck := h1 ao _ _ _ aN (fun c ag => aZ c (.inr (.inl ag)) (cu c ag)) et (by
          rintro b (J | J) U
          ·exact e_ _ U (g1 _ J)
          ·exact fF _ J (.inr (.inl U)))
         have tp : b ≠ dk := by rintro rfl; exact hD (er _ (g1 _ aI))
         rw [gL, ai]
         refine .inr ⟨b, cap, cur, e, fr, fun b => bf b ∨ cS b ∨ az b, by simp, .inl (.inl rfl), (aZ b (.inl rfl) tp).trans au, aK, by simpa using a1, bN, bS, tl df (iE aS hw), ?_, ?_, ?_⟩
         ·rw [List.length_set, p]; exact ck
         ·rintro c (h | h | h)
          ·exact .inl (.inr (.inl h))
          ·exact .inl (.inr (.inr h))
          ·exact .inr h
         ·rintro (h | h | h)
          ·exact hD (dF _ h)
          ·exact hD (er _ (g1 _ h))
          ·exact fF _ h (.inl rfl)
     ·cases ab
   | bb x =>
     cases k with
     | succ k => simp [j.sub] at ab
     | zero =>
       simp only [j.sub] at ab
       rw [ai] at h
       obtain ⟨b, cur, e, fr, cq, rfl, aa, au, aK, a1, bN, bS⟩ := h
       have hl := ai.length _ _ _ a1
       have gi : i2 w b 0 x.wd = cur.toList := by
        have := n3 (l := []) (m := cur.toList) (r := []) au (by simp)
        rwa [hl] at this
       obtain ⟨bQ, bK, cS, ei, g0, g1, g2, g3, g4, g5⟩ := ih x _ cq (some (b, 0)) d a1 ab
       have gL : ∀ aS, j.put (0 :: q) aS (.bb x) = .bb (j.put q aS x) := fun aS => rfl
       refine ⟨bQ, bK, fun c => c = b ∨ cS c, ei, ?_, ?_, fun c ag => bN _ (g2 _ ag), ?_, g4, .inr ?_⟩
       ·simp only [b2, gi]; exact g0
       ·rintro c (rfl | h)
        ·exact aa
        ·exact bN _ (g1 _ h)
       ·rintro c (rfl | h) ab
        ·exact bS (g2 _ ab)
        ·exact g3 _ h ab
       ·rcases g5 with ⟨l, r, aE, aI, bg⟩ | ⟨dk, rv, eE, tn, l, r, aE, aI, bg, bX, b0, bh⟩
        ·refine ⟨b, cur, e, fr, l, r, ?_, .inl rfl, au, aK, aE, ?_⟩
         ·rw [aI]; simp
         ·intro ao aS dx az aN aZ h2 hw ep fF
          have et := bg ao aS dx az aN (fun c ag => aZ c (.inr ag) (by rintro rfl; exact bS (g1 _ ag))) hw ep (fun b J ag => fF b J (.inr ag))
          have pI := ai.length _ _ _ ep
          have pJ := ai.length _ _ _ g4
          rw [gL, ai]
          refine ⟨b, _, e, fr, fun b => cS b ∨ az b, rfl, .inl (.inl rfl), h2, ?_, et, ?_, ?_⟩
          ·have : (l ++ (dx ++ r)).toArray.size = cur.size := by
            have : cur.size = cur.toList.length := by simp
            rw [this, aE]; simp [pI, pJ, hw]
           rw [this]; exact aK
          ·rintro c (h | h)
           ·exact .inl (.inr h)
           ·exact .inr h
          ·rintro (h | h)
           ·exact bS (g1 _ h)
           ·exact fF _ h (.inl rfl)
        ·refine ⟨dk, rv, eE, tn, l, r, aE, .inr aI, bg, bX, b0, ?_⟩
         intro ao aS dx az aN aZ h2 hw ep fF
         have et := bh ao aS dx az aN (fun c ag cu => aZ c (.inr ag) cu) h2 hw ep (fun b J ag => fF b J (.inr ag))
         have tp : b ≠ dk := by rintro rfl; exact bS (g1 _ aI)
         rw [gL, ai]
         refine ⟨b, cur, e, fr, fun b => cS b ∨ az b, rfl, .inl (.inl rfl), (aZ b (.inl rfl) tp).trans au, aK, et, ?_, ?_⟩
         ·rintro c (h | h)
          ·exact .inl (.inr h)
          ·exact .inr h
         ·rintro (h | h)
          ·exact bS (g1 _ h)
          ·exact fF _ h (.inl rfl)
   | _ => simp [j.sub] at ab
mutual
def j.plain : j → Bool
 | .aJ _ _ => false
 | .bb _ => false
 | .ch _ => false
 | .agg af => j.dr af
 | .tuple af => j.dr af
 | _ => true
def j.dr : List j → Bool
 | [] => true
 | d :: ds => d.plain && j.dr ds
end
mutual
def j.bV : j → j
 | .aJ _ _ => .hole
 | .bb _ => .hole
 | .ch _ => .hole
 | .agg af => .agg (j.hf af)
 | .tuple af => .tuple (j.hf af)
 | d => d
def j.hf : List j → List j
 | [] => []
 | d :: ds => d.bV :: j.hf ds
end
mutual
theorem j.lU : ∀ d : j, d.bV.wd = d.wd
 | .hole => rfl
 | .bool _ => rfl
 | .c1 => rfl
 | .int _ _ => rfl
 | .str _ => rfl
 | .b_ => rfl
 | .bu => rfl
 | .slice _ => rfl
 | .aJ _ _ => rfl
 | .ref _ => rfl
 | .bb _ => rfl
 | .agg af => by simp only [j.bV, j.wd]; exact j.tq af
 | .tuple af => by simp only [j.bV, j.wd]; exact j.tq af
 | .fn _ _ => rfl
 | .h _ _ => rfl
 | .ak _ _ => rfl
 | .J _ _ => rfl
 | .ch _ => rfl
theorem j.tq : ∀ ds : List j, j.cz (j.hf ds) = j.cz ds
 | [] => rfl
 | d :: ds => by simp only [j.hf, j.cz]; rw [j.lU d, j.tq ds]
end
mutual
theorem ai.bV {w : World} {F : Nat → Prop} : ∀ (d : j) (cs : List Value) (S az : Nat → Prop), ai w F d cs S → ai w F d.bV cs az
 | .hole, _, _, _, h => h
 | .bool _, _, _, _, h => h
 | .c1, _, _, _, h => h
 | .int _ _, _, _, _, h => h
 | .str _, _, _, _, h => h
 | .b_, _, _, _, h => h
 | .bu, _, _, _, h => h
 | .slice xs, cs, S, az, h => by
   show ai w F (.slice xs) cs az
   rw [ai] at h ⊢; exact h
 | .aJ sz xs, cs, S, az, h => by
   rw [j.bV, ai]
   rw [ai] at h
   rcases h with ⟨_, _, rfl⟩ | ⟨b, cap, cur, e, fr, cq, rfl, _⟩
   ·exact ⟨_, rfl, rfl⟩
   ·exact ⟨_, rfl, rfl⟩
 | .ref d, cs, S, az, h => by
   show ai w F (.ref d) cs az
   rw [ai] at h ⊢; exact h
 | .bb d, cs, S, az, h => by
   rw [j.bV, ai]
   rw [ai] at h
   obtain ⟨b, cur, e, fr, cq, rfl, _⟩ := h
   exact ⟨_, rfl, rfl⟩
 | .agg af, cs, S, az, h => by rw [j.bV, ai]; rw [ai] at h; exact aH.bV af _ _ _ h
 | .tuple af, cs, S, az, h => by rw [j.bV, ai]; rw [ai] at h; exact aH.bV af _ _ _ h
 | .fn _ _, _, _, _, h => h
 | .h _ _, _, _, _, h => h
 | .ak _ _, _, _, _, h => h
 | .J _ _, _, _, _, h => h
 | .ch _, _, _, _, h => by rw [ai] at h; rw [j.bV, ai]; exact hC.one h
theorem aH.bV {w : World} {F : Nat → Prop} : ∀ (ds : List j) (cs : List Value) (S az : Nat → Prop), aH w F ds cs S → aH w F (j.hf ds) cs az
 | [], _, _, _, h => h
 | d :: ds, cs, S, az, h => by
   rw [j.hf, aH]
   rw [aH] at h
   obtain ⟨bA, bG, bf, cj, U, aa, au, aK, a1, bN⟩ := h
   exact ⟨bA, bG, fun _ => False, fun _ => False, U, ai.bV d _ _ _ aa, aH.bV ds _ _ _ au, fun _ h => h.elim, fun _ h => h.elim, fun _ h => h.elim⟩
end
mutual
theorem ai.plain {w : World} {F : Nat → Prop} : ∀ (d : j) (cs : List Value) (S az : Nat → Prop), d.plain = true → ai w F d cs S → ai w F d cs az
 | .hole, _, _, _, _, h => h
 | .bool _, _, _, _, _, h => h
 | .c1, _, _, _, _, h => h
 | .int _ _, _, _, _, _, h => h
 | .str _, _, _, _, _, h => h
 | .b_, _, _, _, _, h => h
 | .bu, _, _, _, _, h => h
 | .slice xs, cs, S, az, _, h => by rw [ai] at h ⊢; exact h
 | .aJ sz xs, cs, S, az, ak, h => by simp [j.plain] at ak
 | .ref d, cs, S, az, _, h => by rw [ai] at h ⊢; exact h
 | .bb d, cs, S, az, ak, h => by simp [j.plain] at ak
 | .agg af, cs, S, az, ak, h => by rw [ai] at h ⊢; exact aH.plain af _ _ _ ak h
 | .tuple af, cs, S, az, ak, h => by rw [ai] at h ⊢; exact aH.plain af _ _ _ ak h
 | .fn _ _, _, _, _, _, h => h
 | .h _ _, _, _, _, _, h => h
 | .ak _ _, _, _, _, _, h => h
 | .J _ _, _, _, _, _, h => h
 | .ch _, _, _, _, ak, _ => by simp [j.plain] at ak
theorem aH.plain {w : World} {F : Nat → Prop} : ∀ (ds : List j) (cs : List Value) (S az : Nat → Prop), j.dr ds = true → aH w F ds cs S → aH w F ds cs az
 | [], _, _, _, _, h => h
 | d :: ds, cs, S, az, ak, h => by
   rw [aH] at h ⊢
   simp only [j.dr, Bool.and_eq_true] at ak
   obtain ⟨bA, bG, bf, cj, U, aa, au, aK, a1, bN⟩ := h
   exact ⟨bA, bG, fun _ => False, fun _ => False, U, ai.plain d _ _ _ ak.1 aa, aH.plain ds _ _ _ ak.2 au, fun _ h => h.elim, fun _ h => h.elim, fun _ h => h.elim⟩
end
def j.db : List Nat → j → Bool
 | [], _ => false
 | k :: q, .agg af => match af[k]? with
   | some d => j.db q d
   | none => false
 | k :: q, .tuple af => match af[k]? with
   | some d => j.db q d
   | none => false
 | _ :: _, .aJ _ _ => true
 | _ :: _, .bb _ => true
 | _ :: _, _ => false
theorem ry {af : List j} (h : j.dr af = true) {k : Nat} {d : j} (ah : af[k]? = some d) : d.plain = true := by
 induction af generalizing k with
 | nil => simp at ah
 | cons a af ih =>
   simp only [j.dr, Bool.and_eq_true] at h
   cases k with
   | zero => simp at ah; subst ah; exact h.1
   | succ k => simp at ah; exact ih h.2 ah
theorem j.wC : ∀ (q : List Nat) (d : j), d.plain = true → j.db q d = false := by
 intro q
 induction q with
 | nil => intros; rfl
 | cons k q ih =>
   intro d ab
   cases d <;> first | rfl | (simp [j.plain] at ab; done) | skip
   all_goals
    simp only [j.db]
    split
    ·rename_i af x an; exact ih _ (ry (by simpa [j.plain] using ab) an)
    ·rfl
theorem j.wD : ∀ (q : List Nat) (d e : j), d.plain = true → j.sub q d = some e → e.plain = true := by
 intro q
 induction q with
 | nil => intro d e ab h; simp [j.sub] at h; exact h ▸ ab
 | cons k q ih =>
   intro d e ab h
   cases d <;> first | (simp [j.plain] at ab; done) | (simp [j.sub] at h; done) | skip
   all_goals
    simp only [j.sub] at h
    split at h
    ·rename_i af x an; exact ih _ _ (ry (by simpa [j.plain] using ab) an) h
    ·cases h
theorem tr {w ao : World} {F : Nat → Prop} : ∀ (q : List Nat) (av : j) (cs : List Value) (S : Nat → Prop) (a : Option (Nat × Nat)) (d : j),
  ai w F av cs S → j.sub q av = some d → (∀ b, S b → ao.heap[b]? = w.heap[b]?) → b2 ao q av cs a = b2 w q av cs a := by
 intro q
 induction q with
 | nil => intros; rfl
 | cons k q ih =>
   have fields : ∀ (af : List j) (cs : List Value) (S : Nat → Prop) (a : Option (Nat × Nat)) (x d : j), aH w F af cs S → af[k]? = some x → j.sub q x = some d →
     (∀ b, S b → ao.heap[b]? = w.heap[b]?) →
     b2 ao q x ((cs.drop (j.cz (af.take k))).take x.wd) (a.map fun l => (l.1, l.2 + j.cz (af.take k))) = b2 w q x ((cs.drop (j.cz (af.take k))).take x.wd) (a.map fun l => (l.1, l.2 + j.cz (af.take k))) := by
    intro af cs S a x d h an ab aZ
    obtain ⟨bA, dq, bG, bf, eV, rfl, eM, dF, er, e_, dy, h1⟩ := aH.pick af cs S k x h an
    rw [mR bA dq bG _ _ eM (ai.length _ _ _ dy)]
    exact ih x dq eV _ d dy ab (fun b J => aZ b (er _ J))
   intro av cs S a d h ab aZ
   cases av with
   | agg af =>
     simp only [j.sub] at ab
     split at ab
     ·rename_i x an
      rw [ai] at h
      simp only [b2, an]
      exact fields af cs S a x d h an ab aZ
     ·cases ab
   | tuple af =>
     simp only [j.sub] at ab
     split at ab
     ·rename_i x an
      rw [ai] at h
      simp only [b2, an]
      exact fields af cs S a x d h an ab aZ
     ·cases ab
   | aJ sz xs =>
     simp only [j.sub] at ab
     split at ab
     ·rename_i x an
      rw [ai] at h
      rcases h with ⟨rfl, _, rfl⟩ | ⟨b, cap, cur, e, fr, cq, rfl, aa, au, aK, a1, bN, bS, df, e1, eK, hD⟩
      ·simp at an
      ·obtain ⟨bA, dq, bG, bf, eV, p, eM, dF, er, e_, dy, h1⟩ := aH.pick xs _ cq k x e1 an
       have hl := ai.length _ _ _ dy
       have BN : k < xs.length := (List.getElem?_eq_some_iff.1 an).1
       have pH : x.wd = sz := df x (List.mem_of_getElem? an)
       have bq : j.cz (xs.take k) = k * sz := by
        rw [mT _ (fun d ab => df d (List.mem_of_mem_take ab))]
        rw [List.length_take, Nat.min_eq_left (by omega)]
       obtain ⟨k5, hd⟩ : ∃ k5, cur.toList = bA ++ (dq ++ (bG ++ k5)) := by
        refine ⟨cur.toList.drop (xs.length * sz), ?_⟩
        have := (List.take_append_drop (xs.length * sz) cur.toList).symm
        rw [p] at this
        simpa using this
       have gi : i2 w b (k * sz) sz = dq := by
        have := n3 au hd
        rwa [eM, bq, hl, pH] at this
       have ts : i2 ao b (k * sz) sz = dq := by
        have := n3 ((aZ b aa).trans au) hd
        rwa [eM, bq, hl, pH] at this
       simp only [b2, an, gi, ts]
       exact ih x dq eV _ d dy ab (fun c ag => aZ c (eK _ (er _ ag)))
     ·cases ab
   | bb x =>
     cases k with
     | succ k => simp [j.sub] at ab
     | zero =>
       simp only [j.sub] at ab
       rw [ai] at h
       obtain ⟨b, cur, e, fr, cq, rfl, aa, au, aK, a1, bN, bS⟩ := h
       have hl := ai.length _ _ _ a1
       have gi : i2 w b 0 x.wd = cur.toList := by
        have := n3 (l := []) (m := cur.toList) (r := []) au (by simp)
        rwa [hl] at this
       have ts : i2 ao b 0 x.wd = cur.toList := by
        have := n3 (l := []) (m := cur.toList) (r := []) ((aZ b aa).trans au) (by simp)
        rwa [hl] at this
       simp only [b2, gi, ts]
       exact ih x cur.toList cq _ d a1 ab (fun c ag => aZ c (bN _ ag))
   | _ => simp [j.sub] at ab
def fg : Value → List Value
 | .agg cs => cs.toList
 | v => [v]
def br : Value → List Value
 | .tuple vs => vs.toList.flatMap fg
 | v => fg v
def fk : j → Value → Prop
 | .agg _, v => ∃ arr, v = .agg arr
 | _, v => Value.dW v = true
def cA : j → Value → Prop
 | .tuple ds, v => ∃ arr : Array Value, v = .tuple arr ∧ arr.size = ds.length ∧ ∀ (k : Nat) (d : j) (x : Value), ds[k]? = some d → arr[k]? = some x → fk d x ∧ (∀ vs, d ≠ .tuple vs) ∧ (fg x).length = d.wd
 | d, v => fk d v
abbrev ad := Nat → j
mutual
def ar (w : World) (F : Nat → Prop) (s : ad) (al : Nat → Value) : j → Value → (Nat → Prop) → Prop
 | .hole, _, _ => True
 | .h x q, v, _ => ∀ d, j.sub q (s x) = some d → d.plain = false → ∃ bQ a, b2 w q (s x) (br (al x)) none = some (d, bQ, a) ∧ br v = bQ ∧ cA d v
 | .ak x q, v, _ => ∀ d, j.sub q (s x) = some d → j.db q (s x) = true → ∃ bQ b o, b2 w q (s x) (br (al x)) none = some (d, bQ, some (b, o)) ∧ v = .pointer (some ⟨b, o, none⟩)
 | .J x k, v, _ => (s x).plain = false → ∃ b cur e fr, v = .pointer (some ⟨b, k, none⟩) ∧ F b ∧ w.heap[b]? = some (.cells cur e fr) ∧ cur.toList = br (al x)
 | .fn f cap, v, _ => ∃ arr : Array Value, v = .func (.func f) #[] arr ∧ cx w F s al cap arr.toList
 | .bool b, v, S => cA (.bool b) v ∧ ai w F (.bool b) (br v) S
 | .c1, v, S => cA .c1 v ∧ ai w F .c1 (br v) S
 | .int k n, v, S => cA (.int k n) v ∧ ai w F (.int k n) (br v) S
 | .str x, v, S => cA (.str x) v ∧ ai w F (.str x) (br v) S
 | .b_, v, S => cA .b_ v ∧ ai w F .b_ (br v) S
 | .bu, v, S => cA .bu v ∧ ai w F .bu (br v) S
 | .slice xs, v, S => cA (.slice xs) v ∧ ai w F (.slice xs) (br v) S
 | .aJ sz xs, v, S => cA (.aJ sz xs) v ∧ ai w F (.aJ sz xs) (br v) S
 | .ref d, v, S => cA (.ref d) v ∧ ai w F (.ref d) (br v) S
 | .bb d, v, S => cA (.bb d) v ∧ ai w F (.bb d) (br v) S
 | .agg d, v, S => cA (.agg d) v ∧ ai w F (.agg d) (br v) S
 | .tuple d, v, S => cA (.tuple d) v ∧ ai w F (.tuple d) (br v) S
 | .ch o, v, S => cA (.ch o) v ∧ ai w F (.ch o) (br v) S
def cx (w : World) (F : Nat → Prop) (s : ad) (al : Nat → Value) : List j → List Value → Prop
 | [], vs => vs = []
 | d :: ds, vs => ∃ v fW, vs = v :: fW ∧ ar w F s al d v (fun _ => False) ∧ cx w F s al ds fW
end
def j.tree : j → Bool
 | .hole => false
 | .h _ _ => false
 | .ak _ _ => false
 | .J _ _ => false
 | .fn _ _ => false
 | _ => true
theorem ar.bE {w : World} {F : Nat → Prop} {s : ad} {al : Nat → Value} {d : j} {v : Value} {S : Nat → Prop} (aG : d.tree = true) :
  ar w F s al d v S ↔ (cA d v ∧ ai w F d (br v) S) := by
 cases d <;> first | (simp [j.tree] at aG; done) | rw [ar]
theorem fh {q : List Nat} {av d : j} (h : j.sub q av = some d) (ak : d.plain = false ∨ j.db q av = true) : av.tree = true := by
 cases q with
 | nil =>
   simp [j.sub] at h; subst h
   rcases ak with ak | ak
   ·cases av <;> first | rfl | (simp [j.plain] at ak)
   ·simp [j.db] at ak
 | cons k q => cases av <;> first | rfl | (simp [j.sub] at h)
theorem tt {d : j} (h : d.plain = false) : d.tree = true := fh (q := []) (by simp only [j.sub]) (.inl h)
theorem ar.frame {w ao : World} {F aY : Nat → Prop} {s : ad} {al : Nat → Value} {Sx : Nat → Nat → Prop} (aN : ∀ b, F b → ao.heap[b]? = w.heap[b]?) (wE : ∀ b, F b → aY b)
  (aZ : ∀ x b, Sx x b → ao.heap[b]? = w.heap[b]?) (js : ∀ x, ar w F s al (s x) (al x) (Sx x)) :
  ∀ (d : j) (v : Value) (S : Nat → Prop), (∀ b, S b → ao.heap[b]? = w.heap[b]?) → ar w F s al d v S → ar ao aY s al d v S := by
 have hg : ∀ (x : Nat) (q : List Nat) (d : j), j.sub q (s x) = some d → (d.plain = false ∨ j.db q (s x) = true) → b2 ao q (s x) (br (al x)) none = b2 w q (s x) (br (al x)) none := by
  intro x q d ab ak
  have aG := fh ab ak
  have := js x
  rw [ar.bE aG] at this
  exact tr q _ _ (Sx x) none d this.2 ab (aZ x)
 have BO : ∀ (d : j) (v : Value) (S : Nat → Prop), d.tree = true → (∀ b, S b → ao.heap[b]? = w.heap[b]?) → ar w F s al d v S → ar ao aY s al d v S := by
  intro d v S aG mU h
  rw [ar.bE aG] at h ⊢
  exact ⟨h.1, ai.mono wE _ _ _ _ (fun _ h => h) (ai.frame aN _ _ _ mU h.2)⟩
 have step : ∀ n, (∀ (d : j) (v : Value) (S : Nat → Prop), SizeOf.sizeOf d ≤ n → (∀ b, S b → ao.heap[b]? = w.heap[b]?) → ar w F s al d v S → ar ao aY s al d v S) ∧
   (∀ (ds : List j) (vs : List Value), SizeOf.sizeOf ds ≤ n → cx w F s al ds vs → cx ao aY s al ds vs) := by
  intro n
  induction n with
  | zero =>
    refine ⟨fun d v S bd => ?_, fun ds vs bd => ?_⟩
    ·cases d <;> simp at bd <;> omega
    ·cases ds <;> simp at bd <;> omega
  | succ n ih =>
    refine ⟨fun d v S bd mU h => ?_, fun ds vs bd h => ?_⟩
    ·cases d with
     | hole => rw [ar]; trivial
     | h x q =>
       rw [ar] at h ⊢
       intro d ab ak
       rw [hg x q d ab (.inl ak)]
       exact h d ab ak
     | ak x q =>
       rw [ar] at h ⊢
       intro d ab ak
       rw [hg x q d ab (.inr ak)]
       exact h d ab ak
     | J x k =>
       rw [ar] at h ⊢
       intro ak
       obtain ⟨b, cur, e, fr, U, aa, au, aK⟩ := h ak
       exact ⟨b, cur, e, fr, U, wE b aa, (aN b aa).trans au, aK⟩
     | fn f cap =>
       rw [ar] at h ⊢
       obtain ⟨arr, rfl, ag⟩ := h
       exact ⟨arr, rfl, ih.2 _ _ (by simp at bd; omega) ag⟩
     | _ => exact BO _ _ _ rfl mU h
    ·cases ds with
     | nil => rw [cx] at h ⊢; exact h
     | cons d ds =>
       rw [cx] at h ⊢
       obtain ⟨v, fW, rfl, U, aa⟩ := h
       simp at bd
       exact ⟨v, fW, rfl, ih.1 _ _ _ (by omega) (fun _ h => h.elim) U, ih.2 _ _ (by omega) aa⟩
 intro d v S mU h
 exact (step (SizeOf.sizeOf d)).1 d v S (Nat.le_refl _) mU h
mutual
def bI (x : Nat) : j → j
 | .h y q => if y = x then .hole else .h y q
 | .ak y q => if y = x then .hole else .ak y q
 | .J y k => if y = x then .hole else .J y k
 | .fn f cap => .fn f (fG x cap)
 | d => d
def fG (x : Nat) : List j → List j
 | [] => []
 | d :: ds => bI x d :: fG x ds
end
mutual
def bk (x : Nat) : j → j
 | .h y q => if y = x then (if q = [] then .h y q else .hole) else .h y q
 | .ak y q => if y = x then .hole else .ak y q
 | .fn f cap => .fn f (fl x cap)
 | d => d
def fl (x : Nat) : List j → List j
 | [] => []
 | d :: ds => bk x d :: fl x ds
end
def ca {α : Type} (f : Nat → α) (t : Nat) (v : α) : Nat → α := fun u => if u = t then v else f u
def hE (t : Nat) (s : ad) : ad := fun u => bI t (s u)
def fw (t : Nat) (s : ad) : ad := fun u => bk t (s u)
theorem jt {α : Type} (f : Nat → α) (t : Nat) (v : α) : ca f t v t = v := by simp [ca]
theorem gw {α : Type} (f : Nat → α) {t u : Nat} (v : α) (h : u ≠ t) : ca f t v u = f u := by simp [ca, h]
theorem BP {t : Nat} {d : j} (h : d.tree = true) : bI t d = d := by cases d <;> first | rfl | (simp [j.tree] at h)
theorem tu {t : Nat} {d : j} (h : d.tree = true) : bk t d = d := by cases d <;> first | rfl | (simp [j.tree] at h)
theorem BQ {t : Nat} {d : j} (h : (bI t d).tree = true) : d.tree = true ∧ bI t d = d := by
 cases d <;> first | exact ⟨rfl, rfl⟩ | (simp only [bI] at h; first | (split at h <;> simp [j.tree] at h) | simp [j.tree] at h)
theorem tv {t : Nat} {d : j} (h : (bk t d).tree = true) : d.tree = true ∧ bk t d = d := by
 cases d <;> first | exact ⟨rfl, rfl⟩ | (simp only [bk] at h; first | (split at h <;> (try split at h) <;> simp [j.tree] at h) | simp [j.tree] at h)
section
variable {w : World} {F : Nat → Prop} {s aj : ad} {al gx : Nat → Value} {t : Nat}
theorem ar.bI (ej : ∀ x, x ≠ t → (aj x).tree = true → aj x = s x ∧ gx x = al x) : ∀ (n : Nat),
  (∀ (d : j) (v : Value) (S : Nat → Prop), SizeOf.sizeOf d ≤ n → ar w F s al d v S → ar w F aj gx (b7.bI t d) v S) ∧
  (∀ (ds : List j) (vs : List Value), SizeOf.sizeOf ds ≤ n → cx w F s al ds vs → cx w F aj gx (fG t ds) vs) := by
 intro n
 induction n with
 | zero =>
   refine ⟨fun d v S bd => ?_, fun ds vs bd => ?_⟩
   ·cases d <;> simp at bd <;> omega
   ·cases ds <;> simp at bd <;> omega
 | succ n ih =>
   refine ⟨fun d v S bd h => ?_, fun ds vs bd h => ?_⟩
   ·cases d with
    | hole => rw [b7.bI.eq_def]; simp only; rw [ar]; trivial
    | h x q =>
      simp only [b7.bI]
      split
      ·rw [ar]; trivial
      ·rename_i an
       rw [ar] at h ⊢
       intro d ab ak
       obtain ⟨aE, aI⟩ := ej x an (fh ab (.inl ak))
       rw [aE, aI]; rw [aE] at ab
       exact h d ab ak
    | ak x q =>
      simp only [b7.bI]
      split
      ·rw [ar]; trivial
      ·rename_i an
       rw [ar] at h ⊢
       intro d ab ak
       obtain ⟨aE, aI⟩ := ej x an (fh ab (.inr ak))
       rw [aE, aI]; rw [aE] at ab ak
       exact h d ab ak
    | J x k =>
      simp only [b7.bI]
      split
      ·rw [ar]; trivial
      ·rename_i an
       rw [ar] at h ⊢
       intro ak
       obtain ⟨aE, aI⟩ := ej x an (tt ak)
       rw [aI]; rw [aE] at ak
       exact h ak
    | fn f cap =>
      simp only [b7.bI]
      rw [ar] at h ⊢
      obtain ⟨arr, rfl, ag⟩ := h
      exact ⟨arr, rfl, ih.2 _ _ (by simp at bd; omega) ag⟩
    | _ =>
      rw [BP (by rfl)]
      exact (ar.bE (by rfl)).2 ((ar.bE (by rfl)).1 h)
   ·cases ds with
    | nil => rw [fG, cx]; rw [cx] at h; exact h
    | cons d ds =>
      rw [fG, cx]; rw [cx] at h
      obtain ⟨v, fW, rfl, U, aa⟩ := h
      simp at bd
      exact ⟨v, fW, rfl, ih.1 _ _ _ (by omega) U, ih.2 _ _ (by omega) aa⟩
theorem ar.bk {ao : World} (ej : ∀ x, x ≠ t → (aj x).tree = true → aj x = s x ∧ gx x = al x) (kA : gx t = al t) (i3 : (aj t).plain = false → (s t).plain = false ∧ ∀ v, cA (s t) v → cA (aj t) v)
  (hg : ∀ x q d, x ≠ t → j.sub q (s x) = some d → (d.plain = false ∨ j.db q (s x) = true) → b2 ao q (s x) (br (al x)) none = b2 w q (s x) (br (al x)) none)
  (aN : ∀ b, F b → ao.heap[b]? = w.heap[b]?) : ∀ (n : Nat),
  (∀ (d : j) (v : Value) (S : Nat → Prop), SizeOf.sizeOf d ≤ n → (∀ b, S b → ao.heap[b]? = w.heap[b]?) → ar w F s al d v S → ar ao F aj gx (b7.bk t d) v S) ∧
  (∀ (ds : List j) (vs : List Value), SizeOf.sizeOf ds ≤ n → cx w F s al ds vs → cx ao F aj gx (fl t ds) vs) := by
 intro n
 induction n with
 | zero =>
   refine ⟨fun d v S bd => ?_, fun ds vs bd => ?_⟩
   ·cases d <;> simp at bd <;> omega
   ·cases ds <;> simp at bd <;> omega
 | succ n ih =>
   refine ⟨fun d v S bd mU h => ?_, fun ds vs bd h => ?_⟩
   ·cases d with
    | hole => rw [b7.bk.eq_def]; simp only; rw [ar]; trivial
    | h x q =>
      simp only [b7.bk]
      split
      ·rename_i an
       subst an
       split
       ·rename_i bR
        subst bR
        rw [ar] at h ⊢
        intro d ab ak
        simp only [j.sub, Option.some.injEq] at ab
        subst ab
        obtain ⟨et, ck⟩ := i3 ak
        obtain ⟨bQ, a, g1, g2, g3⟩ := h (s x) rfl et
        simp only [b2, Option.some.injEq, Prod.mk.injEq] at g1
        obtain ⟨-, g1, N4⟩ := g1
        refine ⟨br (gx x), none, rfl, ?_, ck _ g3⟩
        rw [kA, g2, ← g1]
       ·rw [ar]; trivial
      ·rename_i an
       rw [ar] at h ⊢
       intro d ab ak
       obtain ⟨aE, aI⟩ := ej x an (fh ab (.inl ak))
       rw [aE, aI]; rw [aE] at ab
       rw [hg x q d an ab (.inl ak)]
       exact h d ab ak
    | ak x q =>
      simp only [b7.bk]
      split
      ·rw [ar]; trivial
      ·rename_i an
       rw [ar] at h ⊢
       intro d ab ak
       obtain ⟨aE, aI⟩ := ej x an (fh ab (.inr ak))
       rw [aE, aI]; rw [aE] at ab ak
       rw [hg x q d an ab (.inr ak)]
       exact h d ab ak
    | J x k =>
      simp only [b7.bk]
      rw [ar] at h ⊢
      intro ak
      by_cases an : x = t
      ·subst an
       obtain ⟨b, cur, e, fr, U, aa, au, aK⟩ := h (i3 ak).1
       exact ⟨b, cur, e, fr, U, aa, (aN b aa).trans au, by rw [kA]; exact aK⟩
      ·obtain ⟨aE, aI⟩ := ej x an (tt ak)
       rw [aE] at ak
       obtain ⟨b, cur, e, fr, U, aa, au, aK⟩ := h ak
       exact ⟨b, cur, e, fr, U, aa, (aN b aa).trans au, by rw [aI]; exact aK⟩
    | fn f cap =>
      simp only [b7.bk]
      rw [ar] at h ⊢
      obtain ⟨arr, rfl, ag⟩ := h
      exact ⟨arr, rfl, ih.2 _ _ (by simp at bd; omega) ag⟩
    | _ =>
      rw [tu (by rfl)]
      have aX := (ar.bE (by rfl)).1 h
      exact (ar.bE (by rfl)).2 ⟨aX.1, ai.frame aN _ _ _ mU aX.2⟩
   ·cases ds with
    | nil => rw [fl, cx]; rw [cx] at h; exact h
    | cons d ds =>
      rw [fl, cx]; rw [cx] at h
      obtain ⟨v, fW, rfl, U, aa⟩ := h
      simp at bd
      exact ⟨v, fW, rfl, ih.1 _ _ _ (by omega) (fun _ h => h.elim) U, ih.2 _ _ (by omega) aa⟩
theorem ar.void (ej : ∀ x, x ≠ t → (aj x).tree = true → aj x = s x ∧ gx x = al x) (j2 : (aj t).plain = true) : ∀ (n : Nat),
  (∀ (d : j) (v : Value) (S : Nat → Prop), SizeOf.sizeOf d ≤ n → ar w F s al d v S → ar w F aj gx d v S) ∧
  (∀ (ds : List j) (vs : List Value), SizeOf.sizeOf ds ≤ n → cx w F s al ds vs → cx w F aj gx ds vs) := by
 intro n
 induction n with
 | zero =>
   refine ⟨fun d v S bd => ?_, fun ds vs bd => ?_⟩
   ·cases d <;> simp at bd <;> omega
   ·cases ds <;> simp at bd <;> omega
 | succ n ih =>
   refine ⟨fun d v S bd h => ?_, fun ds vs bd h => ?_⟩
   ·cases d with
    | hole => rw [ar]; trivial
    | h x q =>
      rw [ar] at h ⊢
      intro d ab ak
      by_cases an : x = t
      ·subst an
       rw [j.wD _ _ _ j2 ab] at ak; cases ak
      ·obtain ⟨aE, aI⟩ := ej x an (fh ab (.inl ak))
       rw [aE, aI]; rw [aE] at ab
       exact h d ab ak
    | ak x q =>
      rw [ar] at h ⊢
      intro d ab ak
      by_cases an : x = t
      ·subst an
       rw [j.wC _ _ j2] at ak; cases ak
      ·obtain ⟨aE, aI⟩ := ej x an (fh ab (.inr ak))
       rw [aE, aI]; rw [aE] at ab ak
       exact h d ab ak
    | J x k =>
      rw [ar] at h ⊢
      intro ak
      by_cases an : x = t
      ·subst an; rw [j2] at ak; cases ak
      ·obtain ⟨aE, aI⟩ := ej x an (tt ak)
       rw [aI]; rw [aE] at ak
       exact h ak
    | fn f cap =>
      rw [ar] at h ⊢
      obtain ⟨arr, rfl, ag⟩ := h
      exact ⟨arr, rfl, ih.2 _ _ (by simp at bd; omega) ag⟩
    | _ => exact (ar.bE (by rfl)).2 ((ar.bE (by rfl)).1 h)
   ·cases ds with
    | nil => rw [cx]; rw [cx] at h; exact h
    | cons d ds =>
      rw [cx]; rw [cx] at h
      obtain ⟨v, fW, rfl, U, aa⟩ := h
      simp at bd
      exact ⟨v, fW, rfl, ih.1 _ _ _ (by omega) U, ih.2 _ _ (by omega) aa⟩
end
structure ba (w0 : World) (F0 X F : Nat → Prop) (S : Nat → Nat → Prop) (s : ad) (al : Nat → Value) (w : World) : Prop where
 eF : ∀ b, F0 b → F b
 eW : ∀ b, F b → F0 b ∨ X b ∨ w0.heap.size ≤ b
 dg : ∀ b, F b → b < w.heap.size
 cZ : ∀ t b, S t b → b < w.heap.size
 dz : ∀ t b, S t b → ¬ F b
 dt : ∀ t u b, t ≠ u → S t b → ¬ S u b
 cq : ∀ t b, S t b → X b ∨ w0.heap.size ≤ b
 cl : ∀ t, ar w F s al (s t) (al t) (S t)
 old : ∀ b, b < w0.heap.size → ¬ X b → w.heap[b]? = w0.heap[b]?
 size : w0.heap.size ≤ w.heap.size
 os : w.os = w0.os
 tape : w.tape = w0.tape
 output : w.output = w0.output
section
variable {w0 w ao : World} {F0 X F : Nat → Prop} {S : Nat → Nat → Prop} {s : ad} {al : Nat → Value}
theorem ba.grow (h : ba w0 F0 X F S s al w) (J : ∀ b, b < w.heap.size → ao.heap[b]? = w.heap[b]?) (R : w.heap.size ≤ ao.heap.size)
  (U : ao.os = w.os) (aa : ao.tape = w.tape) (au : ao.output = w.output) : ba w0 F0 X F S s al ao where
 eF := h.eF
 eW := h.eW
 dg := fun b aN => Nat.lt_of_lt_of_le (h.dg b aN) R
 cZ := fun t b aN => Nat.lt_of_lt_of_le (h.cZ t b aN) R
 dz := h.dz
 dt := h.dt
 cq := h.cq
 cl := fun t => ar.frame (Sx := S) (fun b aN => J b (h.dg b aN)) (fun _ h => h) (fun x b aZ => J b (h.cZ x b aZ)) h.cl _ _ _ (fun b aZ => J b (h.cZ t b aZ)) (h.cl t)
 old := fun b cK gj => (J b (Nat.lt_of_lt_of_le cK h.size)).trans (h.old b cK gj)
 size := Nat.le_trans h.size R
 os := U.trans h.os
 tape := aa.trans h.tape
 output := au.trans h.output
def eu (S : Nat → Nat → Prop) (t : Nat) (Sn : Nat → Prop) : Nat → Nat → Prop := fun u b => if u = t then Sn b else S u b
theorem rz (S : Nat → Nat → Prop) (t : Nat) (Sn : Nat → Prop) : eu S t Sn t = Sn := by funext b; simp [eu]
theorem rA (S : Nat → Nat → Prop) {t u : Nat} (Sn : Nat → Prop) (h : u ≠ t) : eu S t Sn u = S u := by funext b; simp [eu, h]
theorem ba.pK (h : ba w0 F0 X F S s al w) {t : Nat} {d : j} {v : Value} (ak : d.plain = true) (ab : ar w F s al d v (fun _ => False)) :
  ba w0 F0 X F (eu S t (fun _ => False)) (ca s t d) (ca al t v) w where
 eF := h.eF
 eW := h.eW
 dg := h.dg
 cZ := fun u b J => by simp only [eu] at J; split at J; exact J.elim; exact h.cZ u b J
 dz := fun u b J => by simp only [eu] at J; split at J; exact J.elim; exact h.dz u b J
 dt := fun u x b cu J an => by
  simp only [eu] at J an
  split at J
  ·exact J.elim
  ·split at an
   ·exact an.elim
   ·exact h.dt u x b cu J an
 cq := fun u b J => by simp only [eu] at J; split at J; exact J.elim; exact h.cq u b J
 cl := fun u => by
  have ej : ∀ x, x ≠ t → (ca s t d x).tree = true → ca s t d x = s x ∧ ca al t v x = al x := fun x an _ => ⟨gw _ _ an, gw _ _ an⟩
  have j2 : (ca s t d t).plain = true := by rw [jt]; exact ak
  by_cases hu : u = t
  ·subst hu
   rw [jt, jt, rz]
   exact (ar.void ej j2 _).1 _ _ _ (Nat.le_refl _) ab
  ·rw [gw _ _ hu, gw _ _ hu, rA _ _ hu]
   exact (ar.void ej j2 _).1 _ _ _ (Nat.le_refl _) (h.cl u)
 old := h.old
 size := h.size
 os := h.os
 tape := h.tape
 output := h.output
theorem ba.wF (h : ba w0 F0 X F S s al w) {t : Nat} {d : j} {v : Value} {Sn : Nat → Prop} (ab : d.tree = true) (R : cA d v) (aC : ai w F d (br v) Sn)
  (cK : ∀ b, Sn b → b < w.heap.size) (aN : ∀ b, Sn b → ¬ F b) (aZ : ∀ u b, u ≠ t → Sn b → ¬ S u b) (bz : ∀ b, Sn b → X b ∨ w0.heap.size ≤ b) :
  ba w0 F0 X F (eu S t Sn) (ca (hE t s) t d) (ca al t v) w where
 eF := h.eF
 eW := h.eW
 dg := h.dg
 cZ := fun u b J => by simp only [eu] at J; split at J; exact cK b J; exact h.cZ u b J
 dz := fun u b J => by simp only [eu] at J; split at J; exact aN b J; exact h.dz u b J
 dt := fun u x b cu J an => by
  simp only [eu] at J an
  split at J
  ·rename_i hu
   rw [if_neg (fun e => cu (hu.trans e.symm))] at an
   exact aZ x b (fun e => cu (hu.trans e.symm)) J an
  ·rename_i hu
   split at an
   ·exact aZ u b hu an J
   ·exact h.dt u x b cu J an
 cq := fun u b J => by simp only [eu] at J; split at J; exact bz b J; exact h.cq u b J
 cl := fun u => by
  have ej : ∀ x, x ≠ t → (ca (hE t s) t d x).tree = true → ca (hE t s) t d x = s x ∧ ca al t v x = al x := fun x an aG => by
   rw [gw _ _ an] at aG ⊢
   exact ⟨(BQ aG).2, gw _ _ an⟩
  by_cases hu : u = t
  ·subst hu
   rw [jt, jt, rz]
   exact (ar.bE ab).2 ⟨R, aC⟩
  ·rw [gw _ _ hu, gw _ _ hu, rA _ _ hu]
   exact (ar.bI ej _).1 _ _ _ (Nat.le_refl _) (h.cl u)
 old := h.old
 size := h.size
 os := h.os
 tape := h.tape
 output := h.output
theorem mV (k : Nat) (q : List Nat) (aS x : j) : (∃ af gs, x = .agg af ∧ j.put (k :: q) aS x = .agg gs) ∨ (∃ af gs, x = .tuple af ∧ j.put (k :: q) aS x = .tuple gs) ∨
  (∃ sz xs bT, x = .aJ sz xs ∧ j.put (k :: q) aS x = .aJ sz bT) ∨ (∃ y z, x = .bb y ∧ j.put (k :: q) aS x = .bb z) ∨ j.put (k :: q) aS x = x := by
 cases x with
 | agg af => simp only [j.put]; split <;> exact .inl ⟨_, _, rfl, rfl⟩
 | tuple af => simp only [j.put]; split <;> exact .inr (.inl ⟨_, _, rfl, rfl⟩)
 | aJ sz af => simp only [j.put]; split <;> exact .inr (.inr (.inl ⟨_, _, _, rfl, rfl⟩))
 | bb y => cases k <;> exact .inr (.inr (.inr (.inl ⟨_, _, rfl, rfl⟩)))
 | _ => exact .inr (.inr (.inr (.inr rfl)))
theorem wG {k : Nat} {q : List Nat} {aS x : j} {v : Value} (h : fk x v) : fk (j.put (k :: q) aS x) v := by
 rcases mV k q aS x with ⟨af, gs, rfl, e⟩ | ⟨af, gs, rfl, e⟩ | ⟨sz, xs, bT, rfl, e⟩ | ⟨y, z, rfl, e⟩ | e <;> rw [e] <;> exact h
theorem wH {k : Nat} {q : List Nat} {aS x : j} (h : ∀ vs, x ≠ .tuple vs) : ∀ vs, j.put (k :: q) aS x ≠ .tuple vs := by
 rcases mV k q aS x with ⟨af, gs, rfl, e⟩ | ⟨af, gs, rfl, e⟩ | ⟨sz, xs, bT, rfl, e⟩ | ⟨y, z, rfl, e⟩ | e <;> rw [e] <;> first | exact h | (intro vs aX; cases aX; done) | exact (h _ rfl).elim
theorem tw {k : Nat} {q : List Nat} {d aS av : j} {v : Value} (h : cA av v) (ab : j.sub (k :: q) av = some d) (U : ∀ v, fk d v → fk aS v) (aa : (∀ vs, d ≠ .tuple vs) → ∀ vs, aS ≠ .tuple vs) (au : aS.wd = d.wd) :
  cA (j.put (k :: q) aS av) v := by
 cases av with
 | tuple af =>
   simp only [j.sub] at ab
   split at ab
   ·rename_i x an
    simp only [j.put, an]
    simp only [cA] at h ⊢
    obtain ⟨arr, rfl, bd, js⟩ := h
    refine ⟨arr, rfl, by simpa using bd, fun ay e y he a8 => ?_⟩
    rw [List.getElem?_set] at he
    split at he
    ·rename_i tx
     subst tx
     split at he
     ·simp only [Option.some.injEq] at he
      subst he
      obtain ⟨g1, g2, g3⟩ := js k x y an a8
      refine ⟨?_, ?_, g3.trans (j.n2 q x d aS ab au).symm⟩
      ·cases q with
       | nil =>
         simp only [j.sub, Option.some.injEq] at ab
         subst ab
         exact U _ g1
       | cons bs q => exact wG g1
      ·cases q with
       | nil =>
         simp only [j.sub, Option.some.injEq] at ab
         subst ab
         exact aa g2
       | cons bs q => exact wH g2
     ·cases he
    ·exact js ay e y he a8
   ·cases ab
 | agg af => simp only [j.put]; split <;> exact h
 | aJ sz af => simp only [j.put]; split <;> exact h
 | bb y => cases k <;> exact h
 | _ => exact h
theorem tz {d : j} {v : Value} (h : fk d v) : fk d.bV v := by cases d <;> exact h
theorem wI {s : ad} {x : Nat} {q : List Nat} {d : j} (ab : j.sub q (s x) = some d) (ak : d.plain = false) :
  (ca (fw x s) x (j.put q d.bV (s x)) x).plain = false → (s x).plain = false ∧ ∀ v, cA (s x) v → cA (ca (fw x s) x (j.put q d.bV (s x)) x) v := by
  rw [jt]
  intro eG
  cases q with
  | nil =>
    exfalso
    have : ∀ d : j, d.bV.plain = true := by
     intro d
     have key : ∀ n, (∀ d : j, SizeOf.sizeOf d ≤ n → d.bV.plain = true) ∧ (∀ ds : List j, SizeOf.sizeOf ds ≤ n → j.dr (j.hf ds) = true) := by
      intro n
      induction n with
      | zero => exact ⟨fun d bd => by cases d <;> simp at bd <;> omega, fun ds bd => by cases ds <;> simp at bd <;> omega⟩
      | succ n ih =>
        refine ⟨fun d bd => ?_, fun ds bd => ?_⟩
        ·cases d with
         | agg af => simp only [j.bV, j.plain]; exact ih.2 _ (by simp at bd; omega)
         | tuple af => simp only [j.bV, j.plain]; exact ih.2 _ (by simp at bd; omega)
         | _ => rfl
        ·cases ds with
         | nil => rfl
         | cons d ds =>
           simp at bd
           simp only [j.hf, j.dr, Bool.and_eq_true]
           exact ⟨ih.1 _ (by omega), ih.2 _ (by omega)⟩
     exact (key _).1 d (Nat.le_refl _)
    simp only [j.put] at eG
    rw [this] at eG
    cases eG
  | cons k q =>
    refine ⟨?_, fun v aC => tw aC ab (fun v h => tz h) (fun h vs e => ?_) (j.lU d)⟩
    ·cases tA : (s x).plain with
     | false => rfl
     | true => rw [j.wD _ _ _ tA ab] at ak; cases ak
    ·cases d <;> first | (exact h _ rfl) | (simp [j.bV] at e)
theorem ba.take (h : ba w0 F0 X F S s al w) {x : Nat} {q : List Nat} {d : j} (ab : j.sub q (s x) = some d) (ak : d.plain = false) :
  ∃ (Sn ei : Nat → Prop) (bQ : List Value) (a : Option (Nat × Nat)), ba w0 F0 X F (eu S x Sn) (ca (fw x s) x (j.put q d.bV (s x))) al w ∧
    b2 w q (s x) (br (al x)) none = some (d, bQ, a) ∧ ai w F d bQ ei ∧ (∀ b, ei b → S x b) ∧ (∀ b, Sn b → S x b) ∧ (∀ b, ei b → ¬ Sn b) ∧
    (∀ (aS : j) (v : Value) (az : Nat → Prop), ar w F s al aS v az → ar w F (ca (fw x s) x (j.put q d.bV (s x))) al (b7.bk x aS) v az) := by
 have aG := fh ab (.inl ak)
 have an := h.cl x
 rw [ar.bE aG] at an
 obtain ⟨bQ, a, cS, ei, g0, g1, g2, g3, g4, g5⟩ := ctx q (s x) (br (al x)) (S x) none d an.2 ab
 have gL : ai w F (j.put q d.bV (s x)) (br (al x)) cS := by
  have hF : ai w F d.bV bQ (fun _ => False) := ai.bV _ _ _ _ g4
  have n4 : ∀ b, (cS b ∨ False) → cS b := fun b h => h.elim id False.elim
  rcases g5 with ⟨l, r, aE, aI, bg⟩ | ⟨b, cur, e, fr, l, r, aE, aI, bg, bX, b0, bh⟩
  ·have := bg w _ bQ _ (fun _ _ => rfl) (fun _ _ => rfl) (j.lU d) hF (fun _ h => h.elim)
   rw [← aE] at this
   exact ai.mono (fun _ h => h) _ _ _ _ n4 this
  ·have := bh w _ bQ _ (fun _ _ => rfl) (fun _ _ _ => rfl) (by rw [bg, ← b0]) (j.lU d) hF (fun _ h => h.elim)
   exact ai.mono (fun _ h => h) _ _ _ _ n4 this
 have BR : cA (j.put q d.bV (s x)) (al x) ∧ (j.put q d.bV (s x)).tree = true ∨ j.put q d.bV (s x) = .hole := by
  cases q with
  | nil =>
    simp only [j.sub, Option.some.injEq] at ab
    subst ab
    simp only [j.put]
    cases R : s x with
    | aJ sz xs => right; rfl
    | bb y => right; rfl
    | ch y => right; rfl
    | agg af => left; rw [R] at an; exact ⟨an.1, rfl⟩
    | tuple af =>
      left
      rw [R] at an
      refine ⟨?_, rfl⟩
      simp only [cA, j.bV] at an ⊢
      obtain ⟨arr, e, bd, js⟩ := an.1
      have hl : ∀ af : List j, j.hf af = af.map j.bV := by
       intro af; induction af with
       | nil => rfl
       | cons a af ih => simp [j.hf, ih]
      refine ⟨arr, e, by rw [hl]; simpa using bd, fun k eE y he a8 => ?_⟩
      rw [hl, List.getElem?_map] at he
      cases ah : af[k]? with
      | none => rw [ah] at he; cases he
      | some z =>
        rw [ah] at he
        simp only [Option.map_some, Option.some.injEq] at he
        subst he
        obtain ⟨g1, g2, g3⟩ := js k z y ah a8
        refine ⟨tz g1, fun vs e => ?_, g3.trans (j.lU z).symm⟩
        cases z <;> first | (exact g2 _ rfl) | (simp [j.bV] at e)
    | _ => rw [R] at ak; simp [j.plain] at ak
  | cons k q =>
    left
    refine ⟨tw an.1 ab (fun v h => tz h) (fun h vs e => ?_) (j.lU d), ?_⟩
    ·cases d <;> first | (exact h _ rfl) | (simp [j.bV] at e)
    ·rcases mV k q d.bV (s x) with ⟨af, gs, aE, e⟩ | ⟨af, gs, aE, e⟩ | ⟨sz, xs, bT, aE, e⟩ | ⟨y, z, aE, e⟩ | e <;> rw [e] <;> first | rfl | exact aG
 refine ⟨cS, ei, bQ, a, ?_, g0, g4, g2, g1, fun b U aa => g3 b aa U, ?_⟩
 rotate_left
 ·have ej : ∀ y, y ≠ x → (ca (fw x s) x (j.put q d.bV (s x)) y).tree = true → ca (fw x s) x (j.put q d.bV (s x)) y = s y ∧ al y = al y := fun y a8 aG => by
   rw [gw _ _ a8] at aG ⊢
   exact ⟨(tv aG).2, rfl⟩
  intro aS v az ep
  exact (ar.bk ej rfl (wI ab ak) (fun _ _ _ _ _ _ => rfl) (fun _ _ => rfl) _).1 _ _ _ (Nat.le_refl _) (fun _ _ => rfl) ep
 have ej : ∀ y, y ≠ x → (ca (fw x s) x (j.put q d.bV (s x)) y).tree = true → ca (fw x s) x (j.put q d.bV (s x)) y = s y ∧ al y = al y := fun y a8 aG => by
  rw [gw _ _ a8] at aG ⊢
  exact ⟨(tv aG).2, rfl⟩
 have i3 := wI (s := s) (x := x) ab ak
 constructor
 case eF => exact h.eF
 case eW => exact h.eW
 case dg => exact h.dg
 case cZ => exact fun u b J => by simp only [eu] at J; split at J; exact h.cZ x b (g1 b J); exact h.cZ u b J
 case dz => exact fun u b J => by simp only [eu] at J; split at J; exact h.dz x b (g1 b J); exact h.dz u b J
 case dt =>
  intro u y b cu J a8
  simp only [eu] at J a8
  split at J
  ·rename_i hu
   rw [if_neg (fun e => cu (hu.trans e.symm))] at a8
   exact h.dt x y b (fun e => cu (hu.trans e)) (g1 b J) a8
  ·rename_i hu
   split at a8
   ·exact h.dt u x b hu J (g1 b a8)
   ·exact h.dt u y b cu J a8
 case cq => exact fun u b J => by simp only [eu] at J; split at J; exact h.cq x b (g1 b J); exact h.cq u b J
 case cl =>
  intro u
  by_cases hu : u = x
  ·subst hu
   rw [jt, rz]
   rcases BR with ⟨aE, aI⟩ | e
   ·exact (ar.bE aI).2 ⟨aE, gL⟩
   ·rw [e, ar]; trivial
  ·rw [gw _ _ hu, rA _ _ hu]
   exact (ar.bk ej rfl i3 (fun _ _ _ _ _ _ => rfl) (fun _ _ => rfl) _).1 _ _ _ (Nat.le_refl _) (fun _ _ => rfl) (h.cl u)
 case old => exact h.old
 case size => exact h.size
 case os => exact h.os
 case tape => exact h.tape
 case output => exact h.output
theorem ba.store (h : ba w0 F0 X F S s al w) {x : Nat} {q : List Nat} {d aS : j} (ab : j.sub q (s x) = some d) (ag : j.db q (s x) = true)
  {dx : List Value} {Sn : Nat → Prop} (aC : ai w F aS dx Sn) (iE : aS.wd = d.wd)
  (cK : ∀ b, Sn b → b < w.heap.size) (aN : ∀ b, Sn b → ¬ F b) (aZ : ∀ u b, Sn b → ¬ S u b) (bz : ∀ b, Sn b → X b ∨ w0.heap.size ≤ b) :
  ∃ (bQ : List Value) (b : Nat) (l r : List Value) (cur : Array Value) (e : TypeId) (fr : Nat × Nat), b2 w q (s x) (br (al x)) none = some (d, bQ, some (b, l.length)) ∧
    w.heap[b]? = some (.cells cur e fr) ∧ cur.toList = l ++ (bQ ++ r) ∧ lS fr cur.size ∧
    ∀ ao, ao.heap[b]? = some (.cells (l ++ (dx ++ r)).toArray e fr) → (∀ c, c ≠ b → ao.heap[c]? = w.heap[c]?) → ao.heap.size = w.heap.size → ao.os = w.os → ao.tape = w.tape → ao.output = w.output →
      ∃ az, ba w0 F0 X F az (ca (fw x s) x (j.put q aS (s x))) al ao := by
 have aG := fh ab (.inr ag)
 have an := h.cl x
 rw [ar.bE aG] at an
 obtain ⟨bQ, a, cS, ei, g0, g1, g2, g3, g4, g5⟩ := ctx q (s x) (br (al x)) (S x) none d an.2 ab
 have BS : Deep w F q (s x) (br (al x)) d bQ a cS := by
  rcases g5 with ⟨l, r, aE, aI, bg⟩ | g5
  ·exfalso
   have hG : ∀ (q : List Nat) (av : j) (cs : List Value) (a0 : Option (Nat × Nat)) (d : j) (bQ : List Value), j.db q av = true → b2 w q av cs a0 = some (d, bQ, none) → False := by
    intro q
    induction q with
    | nil => intro av cs a0 d bQ ag; simp [j.db] at ag
    | cons k q ih =>
      have wJ : ∀ (q : List Nat) (av : j) (cs : List Value) (l : Nat × Nat) (d : j) (bQ : List Value), b2 w q av cs (some l) = some (d, bQ, none) → False := by
       intro q
       induction q with
       | nil => intro av cs l d bQ h; simp [b2] at h
       | cons k q rB =>
         intro av cs l d bQ h
         cases av with
         | agg af => rw [b2] at h; split at h; exact rB _ _ _ _ _ h; cases h
         | tuple af => rw [b2] at h; split at h; exact rB _ _ _ _ _ h; cases h
         | aJ sz xs => simp only [b2] at h; split at h; exact rB _ _ _ _ _ h; cases h
         | bb y =>
           cases k with
           | zero => rw [b2.eq_def] at h; simp only at h; split at h; exact rB _ _ _ _ _ h; cases h
           | succ k => rw [show b2 w ((k + 1) :: q) (.bb y) cs (some l) = none from rfl] at h; cases h
         | _ => simp [b2] at h
      intro av cs a0 d bQ ag h
      cases av with
      | agg af =>
        simp only [j.db] at ag
        split at ag
        ·rename_i y a8
         simp only [b2, a8] at h
         exact ih _ _ _ _ _ ag h
        ·cases ag
      | tuple af =>
        simp only [j.db] at ag
        split at ag
        ·rename_i y a8
         simp only [b2, a8] at h
         exact ih _ _ _ _ _ ag h
        ·cases ag
      | aJ sz xs => simp only [b2] at h; split at h; exact wJ _ _ _ _ _ _ h; cases h
      | bb y =>
        cases k with
        | zero => rw [b2.eq_def] at h; simp only at h; split at h; exact wJ _ _ _ _ _ _ h; cases h
        | succ k => rw [show b2 w ((k + 1) :: q) (.bb y) cs a0 = none from rfl] at h; cases h
      | _ => simp [j.db] at ag
   simp only [Option.map_none] at aI
   subst aI
   exact hG _ _ _ _ _ _ ag g0
  ·exact g5
 obtain ⟨b, cur, e, fr, l, r, rfl, aI, bg, bX, b0, bh⟩ := BS
 refine ⟨bQ, b, l, r, cur, e, fr, g0, bg, b0, bX, ?_⟩
 intro ao h2 pL cV BT BU pM
 have rC : S x b := g1 _ aI
 have n5 : ∀ c, F c → ao.heap[c]? = w.heap[c]? := fun c ag => pL c (by rintro rfl; exact h.dz x _ rC ag)
 have N5 : dx.length = bQ.length := by rw [ai.length _ _ _ aC, ai.length _ _ _ g4, iE]
 have gL := bh ao aS dx Sn n5 (fun c _ cu => pL c cu) h2 iE
  (ai.frame n5 _ _ _ (fun c ag => pL c (by rintro rfl; exact aZ x _ ag rC)) aC) (fun c ag n4 => aZ x c ag (g1 _ n4))
 obtain ⟨k, fP, rfl⟩ : ∃ k fP, q = k :: fP := by
  cases q with
  | nil => simp [j.db] at ag
  | cons k q => exact ⟨k, q, rfl⟩
 have wK : ∀ v, cA (s x) v → cA (j.put (k :: fP) aS (s x)) v := by
  intro v aC
  rcases mV k fP aS (s x) with ⟨af, gs, aE, e⟩ | ⟨af, gs, aE, e⟩ | ⟨sz, xs, bT, aE, e⟩ | ⟨y, z, aE, e⟩ | e
  ·rw [e]; rw [aE] at aC; exact aC
  ·
   rw [aE] at aC ab ag ⊢
   simp only [j.db] at ag
   split at ag
   ·rename_i y a8
    simp only [j.put, a8]
    cases fP with
    | nil => simp [j.db] at ag
    | cons bs eN =>
      simp only [cA] at aC ⊢
      obtain ⟨arr, rfl, bd, js⟩ := aC
      refine ⟨arr, rfl, by simpa using bd, fun ay e gM he mW => ?_⟩
      rw [List.getElem?_set] at he
      split at he
      ·rename_i tx
       subst tx
       split at he
       ·simp only [Option.some.injEq] at he
        subst he
        obtain ⟨g1, g2, g3⟩ := js _ y gM a8 mW
        simp only [j.sub, a8] at ab
        exact ⟨wG g1, wH g2, g3.trans (j.n2 (bs :: eN) y d aS ab iE).symm⟩
       ·cases he
      ·exact js ay e gM he mW
   ·cases ag
  ·rw [e]; rw [aE] at aC; exact aC
  ·rw [e]; rw [aE] at aC; exact aC
  ·rw [e]; exact aC
 have BV : (j.put (k :: fP) aS (s x)).tree = true := by
  rcases mV k fP aS (s x) with ⟨af, gs, aE, e⟩ | ⟨af, gs, aE, e⟩ | ⟨sz, xs, bT, aE, e⟩ | ⟨y, z, aE, e⟩ | e <;> rw [e] <;> first | rfl | exact aG
 let aj := ca (fw x s) x (j.put (k :: fP) aS (s x))
 have ej : ∀ y, y ≠ x → (aj y).tree = true → aj y = s y ∧ al y = al y := fun y a8 aG => by
  have e : aj y = bk x (s y) := gw _ _ a8
  rw [e] at aG ⊢
  exact ⟨(tv aG).2, rfl⟩
 have i3 : (aj x).plain = false → (s x).plain = false ∧ ∀ v, cA (s x) v → cA (aj x) v := by
  intro _
  refine ⟨?_, ?_⟩
  ·cases tA : (s x).plain with
   | false => rfl
   | true => rw [j.wC _ _ tA] at ag; cases ag
  ·simp only [aj, jt]; exact wK
 refine ⟨eu S x (fun c => cS c ∨ Sn c), ?_⟩
 constructor
 case eF => exact h.eF
 case eW => exact h.eW
 case dg => exact fun b J => by rw [cV]; exact h.dg b J
 case cZ =>
  intro u c J
  rw [cV]
  simp only [eu] at J
  split at J
  ·rcases J with J | J
   ·exact h.cZ x c (g1 c J)
   ·exact cK c J
  ·exact h.cZ u c J
 case dz =>
  intro u c J
  simp only [eu] at J
  split at J
  ·rcases J with J | J
   ·exact h.dz x c (g1 c J)
   ·exact aN c J
  ·exact h.dz u c J
 case dt =>
  intro u y c cu J a8
  simp only [eu] at J a8
  split at J
  ·rename_i hu
   rw [if_neg (fun e => cu (hu.trans e.symm))] at a8
   rcases J with J | J
   ·exact h.dt x y c (fun e => cu (hu.trans e)) (g1 c J) a8
   ·exact aZ y c J a8
  ·rename_i hu
   split at a8
   ·rcases a8 with a8 | a8
    ·exact h.dt u x c hu J (g1 c a8)
    ·exact aZ u c a8 J
   ·exact h.dt u y c cu J a8
 case cq =>
  intro u c J
  simp only [eu] at J
  split at J
  ·rcases J with J | J
   ·exact h.cq x c (g1 c J)
   ·exact bz c J
  ·exact h.cq u c J
 case cl =>
  intro u
  by_cases hu : u = x
  ·subst hu
   rw [jt, rz]
   exact (ar.bE BV).2 ⟨wK _ an.1, gL⟩
  ·rw [gw _ _ hu, rA _ _ hu]
   have cu : ∀ y c, y ≠ x → S y c → ao.heap[c]? = w.heap[c]? := fun y c a8 ag => pL c (by rintro rfl; exact h.dt y x c a8 ag rC)
   refine (ar.bk ej rfl i3 (fun y eN d2 a8 fm tB => ?_) n5 _).1 _ _ _ (Nat.le_refl _) (fun c ag => cu u c hu ag) (h.cl u)
   have wL := h.cl y
   rw [ar.bE (fh fm tB)] at wL
   exact tr eN _ _ _ none d2 wL.2 fm (fun c ag => cu y c a8 ag)
 case old =>
  intro c cK gj
  by_cases wM : c = b
  ·subst wM
   exfalso
   rcases h.cq x c rC with hF | hF
   ·exact gj hF
   ·omega
  ·exact (pL c wM).trans (h.old c cK gj)
 case size => rw [cV]; exact h.size
 case os => exact BT.trans h.os
 case tape => exact BU.trans h.tape
 case output => exact pM.trans h.output
end
end Go.b7
