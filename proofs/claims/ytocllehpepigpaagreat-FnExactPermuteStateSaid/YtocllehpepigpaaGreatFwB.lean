/- Part of a proof that a law returns true for every input. No condition. -/
import Derived.Test.YtocllehpepigpaaGreatFwA
import Derived.Laws.AppendOwn
import Derived.Calls
namespace Go.dg
inductive wT where
 | mp (es : List (Value × Value))
 | i2 (T e : TypeId) (uA : List UInt8)
inductive I where
 | hole
 | bool (b : Bool)
 | fu
 | int (k : IntKind) (n : Int)
 | str (s : List UInt8)
 | dI
 | bp
 | slice (xs : List I)
 | ao (sz : Nat) (xs : List I)
 | ref (d : I)
 | bb (d : I)
 | agg (ay : List I)
 | tuple (vs : List I)
 | fn (f : FuncId) (cap : List I)
 | h (x : Nat) (q : List Nat)
 | az (x : Nat) (q : List Nat)
 | ad (x : Nat) (k : Nat)
 | fg (o : wT)
 deriving Inhabited
mutual
def I.wd : I → Nat
 | .agg ay => I.eK ay
 | .tuple ay => I.eK ay
 | _ => 1
def I.eK : List I → Nat
 | [] => 0
 | d :: ds => d.wd + I.eK ds
end
def Rd (w : World) (b o : Nat) (cs : List Value) : Prop := ∀ j c, cs[j]? = some c → w.cell? ⟨b, o + j, none⟩ = some c
def oC (fr : Nat × Nat) (n : Nat) : Prop := ∀ o, o < n → ¬ (fr.1 ≤ o ∧ o < fr.2)
def Value.hf : Value → Bool
 | .agg _ => false
 | .tuple _ => false
 | _ => true
def I.single : I → Bool
 | .agg _ => false
 | .tuple _ => false
 | .hole => false
 | _ => true
def lX (w : World) : wT → List Value → (Nat → Prop) → Prop
 | .mp es, cs, S => ∃ r ms wU, cs = [.map (some r)] ∧ S r ∧ w.heap[r]? = some (.map ms wU) ∧ ms.toList.map (fun e => (e.key, e.val)) = es
 | .i2 T e uA, cs, S => ∃ b a r9, cs = [.pointer (some ⟨b, 0, none⟩)] ∧ S b ∧ w.heap[b]? = some (.cells #[a, r9] T (0, 0)) ∧ (a = .pointer none ∨ a = .pointer (some ⟨b, 0, none⟩)) ∧
   ((uA = [] ∧ r9 = .slice none 0 0) ∨
     ∃ g cap cur, r9 = .slice (some ⟨g, 0, none⟩) uA.length cap ∧ S g ∧ g ≠ b ∧ w.heap[g]? = some (.cells cur e (0, 0)) ∧ uA.length ≤ cap ∧ cap ≤ maxLen ∧ cur.size = cap ∧
       cur.toList.take uA.length = uA.map fun x => .int .u8 x.toNat)
theorem lX.frame {w aO : World} : ∀ {o : wT} {cs : List Value} {S : Nat → Prop}, (∀ b, S b → aO.heap[b]? = w.heap[b]?) → lX w o cs S → lX aO o cs S
 | .mp _, _, _, bZ, ⟨r, ms, wU, ae, ah, aH, a6⟩ => ⟨r, ms, wU, ae, ah, (bZ _ ah).trans aH, a6⟩
 | .i2 _ _ _, _, _, bZ, ⟨b, a, r9, ae, ah, aH, a6, bN⟩ => ⟨b, a, r9, ae, ah, (bZ _ ah).trans aH, a6, bN.imp (fun h => h) fun ⟨g, cap, cur, mg, kQ, r_, D9, wV⟩ => ⟨g, cap, cur, mg, kQ, r_, (bZ _ kQ).trans D9, wV⟩⟩
theorem lX.mono {w : World} : ∀ {o : wT} {cs : List Value} {S aX : Nat → Prop}, (∀ b, S b → aX b) → lX w o cs S → lX w o cs aX
 | .mp _, _, _, _, bZ, ⟨r, ms, wU, ae, ah, aH⟩ => ⟨r, ms, wU, ae, bZ _ ah, aH⟩
 | .i2 _ _ _, _, _, _, bZ, ⟨b, a, r9, ae, ah, aH, a6, bN⟩ => ⟨b, a, r9, ae, bZ _ ah, aH, a6, bN.imp (fun h => h) fun ⟨g, cap, cur, mg, kQ, r_⟩ => ⟨g, cap, cur, mg, bZ _ kQ, r_⟩⟩
theorem lX.one {w : World} : ∀ {o : wT} {cs : List Value} {S : Nat → Prop}, lX w o cs S → ∃ v, Value.hf v = true ∧ cs = [v]
 | .mp _, _, _, ⟨_, _, _, h, _⟩ => ⟨_, rfl, h⟩
 | .i2 _ _ _, _, _, ⟨_, _, _, h, _⟩ => ⟨_, rfl, h⟩
mutual
def aw (w : World) (F : Nat → Prop) : I → List Value → (Nat → Prop) → Prop
 | .hole, cs, _ => ∃ v, Value.hf v = true ∧ cs = [v]
 | .bool b, cs, _ => cs = [.bool b]
 | .fu, cs, _ => ∃ b, cs = [.bool b]
 | .int k n, cs, _ => cs = [.int k n]
 | .str s, cs, _ => cs = [.string ⟨⟨s⟩⟩]
 | .dI, cs, _ => cs = [.pointer none]
 | .bp, cs, _ => cs = [.slice none 0 0]
 | .slice xs, cs, _ => (xs = [] ∧ ∃ a c, cs = [.slice a 0 c] ∧ c ≤ maxLen ∧ (a = none → c = 0)) ∨
   ∃ b o cap e3 sz, cs = [.slice (some ⟨b, o, none⟩) xs.length cap] ∧ F b ∧ xs.length ≤ cap ∧ cap ≤ maxLen ∧ (∀ d ∈ xs, d.wd = sz) ∧
     Rd w b o e3 ∧ bg w F xs e3 (fun _ => False)
 | .ao sz xs, cs, S => (xs = [] ∧ ∃ a, cs = [.slice a 0 0]) ∨
   ∃ b cap cur e fr aX, cs = [.slice (some ⟨b, 0, none⟩) xs.length cap] ∧ S b ∧ w.heap[b]? = some (.cells cur e fr) ∧ oC fr cur.size ∧
     xs.length ≤ cap ∧ cap ≤ maxLen ∧ cur.size = cap * sz ∧ (∀ d ∈ xs, d.wd = sz) ∧ bg w F xs (cur.toList.take (xs.length * sz)) aX ∧ (∀ c, aX c → S c) ∧ ¬ aX b
 | .ref d, cs, _ => ∃ b o e3, cs = [.pointer (some ⟨b, o, none⟩)] ∧ F b ∧ Rd w b o e3 ∧ aw w F d e3 (fun _ => False)
 | .bb d, cs, S => ∃ b cur e fr aX, cs = [.pointer (some ⟨b, 0, none⟩)] ∧ S b ∧ w.heap[b]? = some (.cells cur e fr) ∧ oC fr cur.size ∧
   aw w F d cur.toList aX ∧ (∀ c, aX c → S c) ∧ ¬ aX b
 | .agg ay, cs, S => bg w F ay cs S
 | .tuple ay, cs, S => bg w F ay cs S
 | .fn f caps, cs, _ => ∃ arr : Array Value, cs = [.func (.func f) #[] arr] ∧ (∀ d ∈ caps, d.single = true) ∧ bg w F caps arr.toList (fun _ => False)
 | .h _ _, _, _ => False
 | .az _ _, _, _ => False
 | .ad _ _, _, _ => False
 | .fg o, cs, S => lX w o cs S
def bg (w : World) (F : Nat → Prop) : List I → List Value → (Nat → Prop) → Prop
 | [], cs, _ => cs = []
 | d :: ds, cs, S => ∃ cD cz cu ej, cs = cD ++ cz ∧ aw w F d cD cu ∧ bg w F ds cz ej ∧ (∀ b, cu b → S b) ∧ (∀ b, ej b → S b) ∧ (∀ b, cu b → ¬ ej b)
end
theorem cell?_of_block {w aO : World} {b : Nat} (h : aO.heap[b]? = w.heap[b]?) (o : Nat) : aO.cell? ⟨b, o, none⟩ = w.cell? ⟨b, o, none⟩ := by
 simp [World.cell?, h]
theorem Rd.frame {w aO : World} {b o : Nat} {cs : List Value} (h : aO.heap[b]? = w.heap[b]?) (aZ : Rd w b o cs) : Rd aO b o cs :=
 fun j c ax => (cell?_of_block h _).trans (aZ j c ax)
mutual
theorem aw.frame {w aO : World} {F : Nat → Prop} (bI : ∀ b, F b → aO.heap[b]? = w.heap[b]?) :
  ∀ (d : I) (cs : List Value) (S : Nat → Prop), (∀ b, S b → aO.heap[b]? = w.heap[b]?) → aw w F d cs S → aw aO F d cs S
 | .hole, _, _, _, h => h
 | .bool _, _, _, _, h => h
 | .fu, _, _, _, h => h
 | .int _ _, _, _, _, h => h
 | .str _, _, _, _, h => h
 | .dI, _, _, _, h => h
 | .bp, _, _, _, h => h
 | .slice xs, cs, S, bZ, h => by
   rw [aw] at h ⊢
   rcases h with h | ⟨b, o, cap, e3, sz, ae, ah, aH, a6, bN, cW, cI⟩
   ·exact .inl h
   ·exact .inr ⟨b, o, cap, e3, sz, ae, ah, aH, a6, bN, cW.frame (bI _ ah), bg.frame bI xs _ _ (fun _ h => h.elim) cI⟩
 | .ao sz xs, cs, S, bZ, h => by
   rw [aw] at h ⊢
   rcases h with h | ⟨b, cap, cur, e, fr, aX, ae, ah, aH, a6, bN, cW, cI, fM, hQ, h5, la⟩
   ·exact .inl h
   ·exact .inr ⟨b, cap, cur, e, fr, aX, ae, ah, (bZ _ ah).trans aH, a6, bN, cW, cI, fM, bg.frame bI xs _ _ (fun c ax => bZ _ (h5 _ ax)) hQ, h5, la⟩
 | .ref d, cs, S, bZ, h => by
   rw [aw] at h ⊢
   obtain ⟨b, o, e3, ae, ah, aH, a6⟩ := h
   exact ⟨b, o, e3, ae, ah, aH.frame (bI _ ah), aw.frame bI d _ _ (fun _ h => h.elim) a6⟩
 | .bb d, cs, S, bZ, h => by
   rw [aw] at h ⊢
   obtain ⟨b, cur, e, fr, aX, ae, ah, aH, a6, bN, cW, cI⟩ := h
   exact ⟨b, cur, e, fr, aX, ae, ah, (bZ _ ah).trans aH, a6, aw.frame bI d _ _ (fun c ax => bZ _ (cW _ ax)) bN, cW, cI⟩
 | .agg ay, cs, S, bZ, h => by rw [aw] at h ⊢; exact bg.frame bI ay _ _ bZ h
 | .tuple ay, cs, S, bZ, h => by rw [aw] at h ⊢; exact bg.frame bI ay _ _ bZ h
 | .fn _ caps, cs, S, bZ, h => by
   rw [aw] at h ⊢
   obtain ⟨arr, ae, ah, aH⟩ := h
   exact ⟨arr, ae, ah, bg.frame bI caps _ _ (fun _ h => h.elim) aH⟩
 | .h _ _, _, _, _, h => h
 | .az _ _, _, _, _, h => h
 | .ad _ _, _, _, _, h => h
 | .fg _, _, _, bZ, h => lX.frame bZ h
theorem bg.frame {w aO : World} {F : Nat → Prop} (bI : ∀ b, F b → aO.heap[b]? = w.heap[b]?) :
  ∀ (ds : List I) (cs : List Value) (S : Nat → Prop), (∀ b, S b → aO.heap[b]? = w.heap[b]?) → bg w F ds cs S → bg aO F ds cs S
 | [], _, _, _, h => h
 | d :: ds, cs, S, bZ, h => by
   rw [bg] at h ⊢
   obtain ⟨cD, cz, cu, ej, ae, ah, aH, a6, bN, cW⟩ := h
   exact ⟨cD, cz, cu, ej, ae, aw.frame bI d _ _ (fun b ad => bZ _ (a6 _ ad)) ah, bg.frame bI ds _ _ (fun b ad => bZ _ (bN _ ad)) aH, a6, bN, cW⟩
end
mutual
theorem aw.mono {w : World} {F b7 : Nat → Prop} (bI : ∀ b, F b → b7 b) :
  ∀ (d : I) (cs : List Value) (S aX : Nat → Prop), (∀ b, S b → aX b) → aw w F d cs S → aw w b7 d cs aX
 | .hole, _, _, _, _, h => h
 | .bool _, _, _, _, _, h => h
 | .fu, _, _, _, _, h => h
 | .int _ _, _, _, _, _, h => h
 | .str _, _, _, _, _, h => h
 | .dI, _, _, _, _, h => h
 | .bp, _, _, _, _, h => h
 | .slice xs, cs, S, _, bZ, h => by
   rw [aw] at h ⊢
   rcases h with h | ⟨b, o, cap, e3, sz, ae, ah, aH, a6, bN, cW, cI⟩
   ·exact .inl h
   ·exact .inr ⟨b, o, cap, e3, sz, ae, bI _ ah, aH, a6, bN, cW, bg.mono bI xs _ _ _ (fun _ h => h) cI⟩
 | .ao sz xs, cs, S, _, bZ, h => by
   rw [aw] at h ⊢
   rcases h with h | ⟨b, cap, cur, e, fr, aX, ae, ah, aH, a6, bN, cW, cI, fM, hQ, h5, la⟩
   ·exact .inl h
   ·exact .inr ⟨b, cap, cur, e, fr, aX, ae, bZ _ ah, aH, a6, bN, cW, cI, fM, bg.mono bI xs _ _ _ (fun _ h => h) hQ, fun c ax => bZ _ (h5 _ ax), la⟩
 | .ref d, cs, S, _, bZ, h => by
   rw [aw] at h ⊢
   obtain ⟨b, o, e3, ae, ah, aH, a6⟩ := h
   exact ⟨b, o, e3, ae, bI _ ah, aH, aw.mono bI d _ _ _ (fun _ h => h) a6⟩
 | .bb d, cs, S, _, bZ, h => by
   rw [aw] at h ⊢
   obtain ⟨b, cur, e, fr, aX, ae, ah, aH, a6, bN, cW, cI⟩ := h
   exact ⟨b, cur, e, fr, aX, ae, bZ _ ah, aH, a6, aw.mono bI d _ _ _ (fun _ h => h) bN, fun c ax => bZ _ (cW _ ax), cI⟩
 | .agg ay, cs, S, _, bZ, h => by rw [aw] at h ⊢; exact bg.mono bI ay _ _ _ bZ h
 | .tuple ay, cs, S, _, bZ, h => by rw [aw] at h ⊢; exact bg.mono bI ay _ _ _ bZ h
 | .fn _ caps, cs, S, _, bZ, h => by
   rw [aw] at h ⊢
   obtain ⟨arr, ae, ah, aH⟩ := h
   exact ⟨arr, ae, ah, bg.mono bI caps _ _ _ (fun _ h => h) aH⟩
 | .h _ _, _, _, _, _, h => h
 | .az _ _, _, _, _, _, h => h
 | .ad _ _, _, _, _, _, h => h
 | .fg _, _, _, _, bZ, h => lX.mono bZ h
theorem bg.mono {w : World} {F b7 : Nat → Prop} (bI : ∀ b, F b → b7 b) :
  ∀ (ds : List I) (cs : List Value) (S aX : Nat → Prop), (∀ b, S b → aX b) → bg w F ds cs S → bg w b7 ds cs aX
 | [], _, _, _, _, h => h
 | d :: ds, cs, S, _, bZ, h => by
   rw [bg] at h ⊢
   obtain ⟨cD, cz, cu, ej, ae, ah, aH, a6, bN, cW⟩ := h
   exact ⟨cD, cz, cu, ej, ae, aw.mono bI d _ _ _ (fun _ h => h) ah, bg.mono bI ds _ _ _ (fun _ h => h) aH, fun b ad => bZ _ (a6 _ ad), fun b ad => bZ _ (bN _ ad), cW⟩
end
mutual
theorem aw.length {w : World} {F : Nat → Prop} : ∀ (d : I) (cs : List Value) (S : Nat → Prop), aw w F d cs S → cs.length = d.wd
 | .hole, cs, S, h => by rw [aw] at h; obtain ⟨v, _, rfl⟩ := h; rfl
 | .bool _, cs, S, h => by rw [aw] at h; subst h; rfl
 | .fu, cs, S, h => by rw [aw] at h; obtain ⟨b, rfl⟩ := h; rfl
 | .int _ _, cs, S, h => by rw [aw] at h; subst h; rfl
 | .str _, cs, S, h => by rw [aw] at h; subst h; rfl
 | .dI, cs, S, h => by rw [aw] at h; subst h; rfl
 | .bp, cs, S, h => by rw [aw] at h; subst h; rfl
 | .slice xs, cs, S, h => by
   rw [aw] at h
   rcases h with ⟨_, a, c, rfl, _⟩ | ⟨b, o, cap, e3, sz, rfl, _⟩ <;> rfl
 | .ao sz xs, cs, S, h => by
   rw [aw] at h
   rcases h with ⟨_, a, rfl⟩ | ⟨b, cap, cur, e, fr, aX, rfl, _⟩ <;> rfl
 | .ref d, cs, S, h => by rw [aw] at h; obtain ⟨b, o, e3, rfl, _⟩ := h; rfl
 | .bb d, cs, S, h => by rw [aw] at h; obtain ⟨b, o, e3, _, _, rfl, _⟩ := h; rfl
 | .agg ay, cs, S, h => by rw [aw] at h; exact bg.length ay _ _ h
 | .tuple ay, cs, S, h => by rw [aw] at h; exact bg.length ay _ _ h
 | .fn _ _, cs, S, h => by rw [aw] at h; obtain ⟨arr, rfl, _⟩ := h; rfl
 | .h _ _, cs, S, h => by rw [aw] at h; exact h.elim
 | .az _ _, cs, S, h => by rw [aw] at h; exact h.elim
 | .ad _ _, cs, S, h => by rw [aw] at h; exact h.elim
 | .fg _, cs, S, h => by rw [aw] at h; obtain ⟨v, _, rfl⟩ := lX.one h; rfl
theorem bg.length {w : World} {F : Nat → Prop} : ∀ (ds : List I) (cs : List Value) (S : Nat → Prop), bg w F ds cs S → cs.length = I.eK ds
 | [], cs, S, h => by rw [bg] at h; subst h; rfl
 | d :: ds, cs, S, h => by
   rw [bg] at h
   obtain ⟨cD, cz, cu, ej, rfl, ah, aH, _⟩ := h
   rw [List.length_append, aw.length d _ _ ah, bg.length ds _ _ aH, I.eK]
end
mutual
def I.share : I → I
 | .ao _ xs => .slice (I.shares xs)
 | .bb d => .ref d.share
 | .slice xs => .slice (I.shares xs)
 | .ref d => .ref d.share
 | .agg ay => .agg (I.shares ay)
 | .tuple ay => .tuple (I.shares ay)
 | .fg _ => .hole
 | d => d
def I.shares : List I → List I
 | [] => []
 | d :: ds => d.share :: I.shares ds
end
theorem I.sa (ds : List I) : I.shares ds = ds.map I.share := by
 induction ds with
 | nil => rfl
 | cons d ds ih => simp [I.shares, ih]
mutual
theorem I.zY : ∀ d : I, d.share.wd = d.wd
 | .hole => rfl
 | .bool _ => rfl
 | .fu => rfl
 | .int _ _ => rfl
 | .str _ => rfl
 | .dI => rfl
 | .bp => rfl
 | .slice _ => rfl
 | .ao _ _ => rfl
 | .ref _ => rfl
 | .bb _ => rfl
 | .agg ay => by simp only [I.share, I.wd]; exact I.D_ ay
 | .tuple ay => by simp only [I.share, I.wd]; exact I.D_ ay
 | .fn _ _ => rfl
 | .h _ _ => rfl
 | .az _ _ => rfl
 | .ad _ _ => rfl
 | .fg _ => rfl
theorem I.D_ : ∀ ds : List I, I.eK (I.shares ds) = I.eK ds
 | [] => rfl
 | d :: ds => by simp only [I.shares, I.eK]; rw [I.zY d, I.D_ ds]
end
theorem uB {w : World} {b : Nat} {cur : Array Value} {e : TypeId} {fr : Nat × Nat} (h : w.heap[b]? = some (.cells cur e fr)) (n : Nat) : Rd w b 0 (cur.toList.take n) := by
 intro j c ax
 rw [List.getElem?_take] at ax
 split at ax
 ·simp [World.cell?, h]; simpa using ax
 ·cases ax
mutual
theorem aw.shared {w : World} {F b7 : Nat → Prop} (bI : ∀ b, F b → b7 b) :
  ∀ (d : I) (cs : List Value) (S : Nat → Prop), (∀ b, S b → b7 b) → aw w F d cs S → aw w b7 d.share cs (fun _ => False)
 | .hole, _, _, _, h => h
 | .bool _, _, _, _, h => h
 | .fu, _, _, _, h => h
 | .int _ _, _, _, _, h => h
 | .str _, _, _, _, h => h
 | .dI, _, _, _, h => h
 | .bp, _, _, _, h => h
 | .slice xs, cs, S, bZ, h => by
   rw [I.share, aw]
   rw [aw] at h
   rcases h with ⟨rfl, a, c, rfl, ax⟩ | ⟨b, o, cap, e3, sz, ae, ah, aH, a6, bN, cW, cI⟩
   ·exact .inl ⟨rfl, a, c, rfl, ax⟩
   ·refine .inr ⟨b, o, cap, e3, sz, ?_, bI _ ah, ?_, a6, ?_, cW, bg.shared bI xs _ _ (fun _ h => h.elim) cI⟩
    ·simpa [I.sa] using ae
    ·simpa [I.sa] using aH
    ·intro d aj
     rw [I.sa] at aj
     obtain ⟨bQ, hR, rfl⟩ := List.mem_map.1 aj
     rw [I.zY]; exact bN _ hR
 | .ao sz xs, cs, S, bZ, h => by
   rw [I.share, aw]
   rw [aw] at h
   rcases h with ⟨rfl, a, rfl⟩ | ⟨b, cap, cur, e, fr, aX, ae, ah, aH, a6, bN, cW, cI, fM, hQ, h5, la⟩
   ·exact .inl ⟨rfl, a, 0, rfl, Nat.zero_le _, fun _ => rfl⟩
   ·refine .inr ⟨b, 0, cap, _, sz, ?_, bZ _ ah, ?_, cW, ?_, uB aH _, bg.shared bI xs _ _ (fun c ax => bZ _ (h5 _ ax)) hQ⟩
    ·simpa [I.sa] using ae
    ·simpa [I.sa] using bN
    ·intro d aj
     rw [I.sa] at aj
     obtain ⟨bQ, hR, rfl⟩ := List.mem_map.1 aj
     rw [I.zY]; exact fM _ hR
 | .ref d, cs, S, bZ, h => by
   rw [I.share, aw]
   rw [aw] at h
   obtain ⟨b, o, e3, ae, ah, aH, a6⟩ := h
   exact ⟨b, o, e3, ae, bI _ ah, aH, aw.shared bI d _ _ (fun _ h => h.elim) a6⟩
 | .bb d, cs, S, bZ, h => by
   rw [I.share, aw]
   rw [aw] at h
   obtain ⟨b, cur, e, fr, aX, ae, ah, aH, a6, bN, cW, cI⟩ := h
   refine ⟨b, 0, cur.toList, ae, bZ _ ah, ?_, aw.shared bI d _ _ (fun c ax => bZ _ (cW _ ax)) bN⟩
   have := uB aH cur.toList.length
   rwa [List.take_length] at this
 | .agg ay, cs, S, bZ, h => by rw [I.share, aw]; rw [aw] at h; exact bg.shared bI ay _ _ bZ h
 | .tuple ay, cs, S, bZ, h => by rw [I.share, aw]; rw [aw] at h; exact bg.shared bI ay _ _ bZ h
 | .fn f caps, cs, S, bZ, h => by
   show aw w b7 (.fn f caps) cs _
   rw [aw] at h ⊢
   obtain ⟨arr, ae, ah, aH⟩ := h
   exact ⟨arr, ae, ah, bg.mono bI caps _ _ _ (fun _ h => h) aH⟩
 | .h _ _, _, _, _, h => h
 | .az _ _, _, _, _, h => h
 | .ad _ _, _, _, _, h => h
 | .fg _, cs, S, bZ, h => by rw [aw] at h; rw [I.share, aw]; exact lX.one h
theorem bg.shared {w : World} {F b7 : Nat → Prop} (bI : ∀ b, F b → b7 b) :
  ∀ (ds : List I) (cs : List Value) (S : Nat → Prop), (∀ b, S b → b7 b) → bg w F ds cs S → bg w b7 (I.shares ds) cs (fun _ => False)
 | [], _, _, _, h => h
 | d :: ds, cs, S, bZ, h => by
   simp only [I.shares]
   rw [bg] at h ⊢
   obtain ⟨cD, cz, cu, ej, ae, ah, aH, a6, bN, cW⟩ := h
   exact ⟨cD, cz, _, _, ae, aw.shared bI d _ _ (fun b ad => bZ _ (a6 _ ad)) ah, bg.shared bI ds _ _ (fun b ad => bZ _ (bN _ ad)) aH, fun _ h => h, fun _ h => h, fun _ h => h.elim⟩
end
def I.sub : List Nat → I → Option I
 | [], d => some d
 | k :: q, .agg ay => match ay[k]? with
   | some d => I.sub q d
   | none => none
 | k :: q, .tuple ay => match ay[k]? with
   | some d => I.sub q d
   | none => none
 | i :: q, .ao _ xs => match xs[i]? with
   | some d => I.sub q d
   | none => none
 | 0 :: q, .bb d => I.sub q d
 | _ :: _, _ => none
def I.put : List Nat → I → I → I
 | [], n, _ => n
 | k :: q, n, .agg ay => match ay[k]? with
   | some d => .agg (ay.set k (I.put q n d))
   | none => .agg ay
 | k :: q, n, .tuple ay => match ay[k]? with
   | some d => .tuple (ay.set k (I.put q n d))
   | none => .tuple ay
 | i :: q, n, .ao sz xs => match xs[i]? with
   | some d => .ao sz (xs.set i (I.put q n d))
   | none => .ao sz xs
 | 0 :: q, n, .bb d => .bb (I.put q n d)
 | _ :: _, _, d => d
def ng (w : World) (b o n : Nat) : List Value := (List.range n).map fun j => (w.cell? ⟨b, o + j, none⟩).getD undef
theorem Rd.ng {w : World} {b o : Nat} {cs : List Value} (h : Rd w b o cs) : ng w b o cs.length = cs := by
 unfold dg.ng
 apply List.ext_getElem?
 intro i
 rw [List.getElem?_map]
 by_cases au : i < cs.length
 ·have : cs[i]? = some cs[i] := List.getElem?_eq_getElem au
  simp [au, h i _ this]
 ·simp [au]
def dJ (w : World) : List Nat → I → List Value → Option (Nat × Nat) → Option (I × List Value × Option (Nat × Nat))
 | [], d, cs, a => some (d, cs, a)
 | k :: q, .agg ay, cs, a => match ay[k]? with
   | some d => dJ w q d ((cs.drop (I.eK (ay.take k))).take d.wd) (a.map fun l => (l.1, l.2 + I.eK (ay.take k)))
   | none => none
 | k :: q, .tuple ay, cs, a => match ay[k]? with
   | some d => dJ w q d ((cs.drop (I.eK (ay.take k))).take d.wd) (a.map fun l => (l.1, l.2 + I.eK (ay.take k)))
   | none => none
 | i :: q, .ao sz xs, cs, _ => match xs[i]?, cs with
   | some d, [.slice (some ⟨b, _, _⟩) _ _] => dJ w q d (ng w b (i * sz) sz) (some (b, i * sz))
   | _, _ => none
 | 0 :: q, .bb d, cs, _ => match cs with
   | [.pointer (some ⟨b, _, _⟩)] => dJ w q d (ng w b 0 d.wd) (some (b, 0))
   | _ => none
 | _ :: _, _, _, _ => none
theorem sb (cD gE cz : List Value) (n m : Nat) (ae : cD.length = n) (ah : gE.length = m) : ((cD ++ (gE ++ cz)).drop n).take m = gE := by
 rw [List.drop_left' ae, List.take_left' ah]
theorem bg.pick {w : World} {F : Nat → Prop} : ∀ (ds : List I) (cs : List Value) (S : Nat → Prop) (k : Nat) (d : I),
  bg w F ds cs S → ds[k]? = some d → ∃ (cD gE cz : List Value) (cu ij : Nat → Prop), cs = cD ++ (gE ++ cz) ∧ cD.length = I.eK (ds.take k) ∧
   (∀ b, cu b → S b) ∧ (∀ b, ij b → S b) ∧ (∀ b, cu b → ¬ ij b) ∧ aw w F d gE ij ∧
   ∀ (aO : World) (bQ : I) (sc : List Value) (aX : Nat → Prop), (∀ b, F b → aO.heap[b]? = w.heap[b]?) → (∀ b, cu b → aO.heap[b]? = w.heap[b]?) →
     aw aO F bQ sc aX → (∀ b, aX b → ¬ cu b) → bg aO F (ds.set k bQ) (cD ++ (sc ++ cz)) (fun b => cu b ∨ aX b)
 | [], _, _, _, _, _, aA => by simp at aA
 | x :: ds, cs, S, 0, d, h, aA => by
   rw [bg] at h
   obtain ⟨cD, cz, h6, ht, rfl, ae, ah, cJ, ad, lb⟩ := h
   simp at aA; subst aA
   refine ⟨[], cD, cz, ht, h6, rfl, rfl, ad, cJ, fun b ad cJ => lb _ cJ ad, ae, ?_⟩
   intro aO bQ sc aX bI bZ aj jz
   simp only [List.set_cons_zero, List.nil_append]
   rw [bg]
   exact ⟨sc, cz, aX, ht, rfl, aj, bg.frame bI _ _ _ bZ ah, fun b h => .inr h, fun b h => .inl h, fun b h => jz b h⟩
 | x :: ds, cs, S, k + 1, d, h, aA => by
   rw [bg] at h
   obtain ⟨nh, QE, h6, ht, rfl, ae, ah, cJ, ad, lb⟩ := h
   simp only [List.getElem?_cons_succ] at aA
   have hl := aw.length _ _ _ ae
   obtain ⟨cD, gE, cz, cu, ij, rfl, kR, mg, kQ, r_, wV, Ea⟩ := bg.pick ds QE ht k d ah aA
   refine ⟨nh ++ cD, gE, cz, fun b => h6 b ∨ cu b, ij, by simp, by simp [I.eK, hl, kR], ?_, fun b h => ad _ (kQ _ h), ?_, wV, ?_⟩
   ·rintro b (h | h)
    ·exact cJ _ h
    ·exact ad _ (mg _ h)
   ·rintro b (h | h) aA
    ·exact lb _ h (kQ _ aA)
    ·exact r_ _ h aA
   ·intro aO bQ sc aX bI bZ aj jz
    simp only [List.set_cons_succ]
    rw [bg]
    refine ⟨nh, cD ++ (sc ++ cz), h6, fun b => cu b ∨ aX b, by simp, aw.frame bI _ _ _ (fun b ad => bZ b (.inl ad)) ae,
     Ea aO bQ sc aX bI (fun b ad => bZ b (.inr ad)) aj (fun b ad ax => jz b ad (.inr ax)), fun b h => .inl (.inl h), ?_, ?_⟩
    ·rintro b (h | h)
     ·exact .inl (.inr h)
     ·exact .inr h
    ·rintro b h (bP | bP)
     ·exact lb _ h (mg _ bP)
     ·exact jz _ bP (.inl h)
theorem Eb : ∀ (ay : List I) (k : Nat) (x y : I), ay[k]? = some x → y.wd = x.wd → I.eK (ay.set k y) = I.eK ay := by
 intro ay
 induction ay with
 | nil => intro k x y h; simp at h
 | cons a ay ih =>
   intro k x y h e
   cases k with
   | zero => simp at h; subst h; simp [I.eK, e]
   | succ k => simp at h; simp [I.eK, ih k x y h e]
theorem sd {sz : Nat} : ∀ (xs : List I), (∀ d ∈ xs, d.wd = sz) → I.eK xs = xs.length * sz
 | [], _ => by simp [I.eK]
 | x :: xs, h => by
   rw [I.eK, h x (by simp), sd xs (fun d aj => h d (by simp [aj])), List.length_cons, Nat.add_mul, Nat.one_mul, Nat.add_comm]
theorem I.uC : ∀ (q : List Nat) (av d bQ : I), I.sub q av = some d → bQ.wd = d.wd → (I.put q bQ av).wd = av.wd := by
 intro q
 induction q with
 | nil => intro av d bQ h e; simp [I.sub] at h; subst h; simpa [I.put] using e
 | cons k q ih =>
   intro av d bQ h e
   cases av with
   | agg ay =>
     simp only [I.sub] at h
     split at h
     ·rename_i x aq
      simp only [I.put, aq, I.wd]
      exact Eb _ _ _ _ aq (ih _ _ _ h e)
     ·cases h
   | tuple ay =>
     simp only [I.sub] at h
     split at h
     ·rename_i x aq
      simp only [I.put, aq, I.wd]
      exact Eb _ _ _ _ aq (ih _ _ _ h e)
     ·cases h
   | ao sz xs =>
     simp only [I.sub] at h
     split at h
     ·rename_i x aq
      simp only [I.put, aq, I.wd]
     ·cases h
   | bb x =>
     cases k with
     | zero => simp only [I.put, I.wd]
     | succ k => simp [I.sub] at h
   | _ => simp [I.sub] at h
theorem Ec {sz : Nat} {xs : List I} {i : Nat} {y : I} (h : ∀ d ∈ xs, d.wd = sz) (bl : y.wd = sz) : ∀ d ∈ xs.set i y, d.wd = sz := by
 intro d aj
 rcases List.mem_or_eq_of_mem_set aj with aj | rfl
 ·exact h d aj
 ·exact bl
theorem uD {w : World} {b : Nat} {cur : Array Value} {e : TypeId} {fr : Nat × Nat} (h : w.heap[b]? = some (.cells cur e fr)) {l m r : List Value} (ax : cur.toList = l ++ (m ++ r)) :
  ng w b l.length m.length = m := by
 refine Rd.ng (fun j c cH => ?_)
 have e7 : j < m.length := (List.getElem?_eq_some_iff.1 cH).1
 have : cur.toList[l.length + j]? = some c := by
  rw [ax, List.getElem?_append_right (by omega), List.getElem?_append_left (by omega)]
  rw [← cH]; congr 1; omega
 simp [World.cell?, h]
 simpa using this
def Flat (w : World) (F : Nat → Prop) (q : List Nat) (av : I) (cs : List Value) (a : Option (Nat × Nat)) (d : I) (dp : List Value) (da : Option (Nat × Nat)) (fl : Nat → Prop) : Prop :=
 ∃ l r : List Value, cs = l ++ (dp ++ r) ∧ da = a.map (fun x => (x.1, x.2 + l.length)) ∧
   ∀ (aO : World) (bQ : I) (gO : List Value) (aX : Nat → Prop), (∀ b, F b → aO.heap[b]? = w.heap[b]?) → (∀ b, fl b → aO.heap[b]? = w.heap[b]?) →
     bQ.wd = d.wd → aw aO F bQ gO aX → (∀ b, aX b → ¬ fl b) → aw aO F (I.put q bQ av) (l ++ (gO ++ r)) (fun b => fl b ∨ aX b)
def Deep (w : World) (F : Nat → Prop) (q : List Nat) (av : I) (cs : List Value) (d : I) (dp : List Value) (da : Option (Nat × Nat)) (fl : Nat → Prop) : Prop :=
 ∃ (b : Nat) (cur : Array Value) (e : TypeId) (fr : Nat × Nat) (l r : List Value), da = some (b, l.length) ∧ fl b ∧ w.heap[b]? = some (.cells cur e fr) ∧ oC fr cur.size ∧ cur.toList = l ++ (dp ++ r) ∧
   ∀ (aO : World) (bQ : I) (gO : List Value) (aX : Nat → Prop), (∀ b, F b → aO.heap[b]? = w.heap[b]?) → (∀ c, fl c → c ≠ b → aO.heap[c]? = w.heap[c]?) →
     aO.heap[b]? = some (.cells (l ++ (gO ++ r)).toArray e fr) →
     bQ.wd = d.wd → aw aO F bQ gO aX → (∀ b, aX b → ¬ fl b) → aw aO F (I.put q bQ av) cs (fun b => fl b ∨ aX b)
theorem ctx {w : World} {F : Nat → Prop} : ∀ (q : List Nat) (av : I) (cs : List Value) (S : Nat → Prop) (a : Option (Nat × Nat)) (d : I),
  aw w F av cs S → I.sub q av = some d → ∃ (dp : List Value) (da : Option (Nat × Nat)) (fl hK : Nat → Prop), dJ w q av cs a = some (d, dp, da) ∧
   (∀ b, fl b → S b) ∧ (∀ b, hK b → S b) ∧ (∀ b, fl b → ¬ hK b) ∧ aw w F d dp hK ∧ (Flat w F q av cs a d dp da fl ∨ Deep w F q av cs d dp da fl) := by
 intro q
 induction q with
 | nil =>
   intro av cs S a d h aj
   simp [I.sub] at aj; subst aj
   refine ⟨cs, a, fun _ => False, S, rfl, fun _ h => h.elim, fun _ h => h, fun _ h => h.elim, h, .inl ⟨[], [], by simp, ?_, ?_⟩⟩
   ·cases a <;> simp
   ·intro aO bQ gO aX _ _ hw hR _
    simp only [I.put, List.nil_append, List.append_nil]
    exact aw.mono (fun _ h => h) _ _ _ _ (fun b h => .inr h) hR
 | cons k q ih =>
   have fields : ∀ (mk : List I → I) (Ed : ∀ (w : World) (F : Nat → Prop) (ay : List I) (cs : List Value) (S : Nat → Prop), aw w F (mk ay) cs S = bg w F ay cs S) (ay : List I) (cs : List Value) (S : Nat → Prop) (a : Option (Nat × Nat)) (x d : I),
     (kt : ∀ bQ, I.put (k :: q) bQ (mk ay) = mk (ay.set k (I.put q bQ x))) → bg w F ay cs S → ay[k]? = some x → I.sub q x = some d →
     ∃ (dp : List Value) (da : Option (Nat × Nat)) (fl hK : Nat → Prop), dJ w q x ((cs.drop (I.eK (ay.take k))).take x.wd) (a.map fun l => (l.1, l.2 + I.eK (ay.take k))) = some (d, dp, da) ∧
     (∀ b, fl b → S b) ∧ (∀ b, hK b → S b) ∧ (∀ b, fl b → ¬ hK b) ∧ aw w F d dp hK ∧ (Flat w F (k :: q) (mk ay) cs a d dp da fl ∨ Deep w F (k :: q) (mk ay) cs d dp da fl) := by
    intro mk Ed ay cs S a x d kt h aq aj
    obtain ⟨cD, gE, cz, cu, ij, rfl, h7, f_, hk, ik, gP, mh⟩ := bg.pick ay cs S k x h aq
    have hl := aw.length _ _ _ gP
    rw [sb cD gE cz _ _ h7 hl]
    obtain ⟨dp, da, fl, hK, h8, bc, bA, cU, eY, gg⟩ := ih x _ ij (a.map fun l => (l.1, l.2 + I.eK (ay.take k))) d gP aj
    refine ⟨dp, da, fun b => cu b ∨ fl b, hK, h8, ?_, fun b ad => hk _ (bA _ ad), ?_, eY, ?_⟩
    ·rintro b (h | h)
     ·exact f_ _ h
     ·exact hk _ (bc _ h)
    ·rintro b (h | h) aj
     ·exact ik _ h (bA _ aj)
     ·exact cU _ h aj
    ·have fN : ∀ (b : Nat) (aX : Nat → Prop), (cu b ∨ fl b ∨ aX b) → ((cu b ∨ fl b) ∨ aX b) := by
      rintro b aX (ad | ad | ad)
      ·exact .inl (.inl ad)
      ·exact .inl (.inr ad)
      ·exact .inr ad
     rcases gg with ⟨l, r, rfl, ba, aW⟩ | ⟨b, cur, e, fr, l, r, aU, ba, aW, cS, cZ, cn⟩
     ·refine .inl ⟨cD ++ l, r ++ cz, by simp, ?_, ?_⟩
      ·rw [ba, ← h7]; cases a <;> simp [Nat.add_assoc]
      ·intro aO bQ gO aX bI bZ hw hR jz
       have dK := aW aO bQ gO aX bI (fun b ad => bZ b (.inr ad)) hw hR (fun b ad ax => jz b ad (.inr ax))
       have bj := mh aO _ _ _ bI (fun b ad => bZ b (.inl ad)) dK (by
        rintro b (ad | ad) ae
        ·exact ik _ ae (bc _ ad)
        ·exact jz _ ad (.inl ae))
       rw [kt, Ed]
       have := bg.mono (fun _ h => h) _ _ _ _ (fun b => fN b aX) bj
       simpa using this
     ·refine .inr ⟨b, cur, e, fr, l, r, aU, .inr ba, aW, cS, cZ, ?_⟩
      intro aO bQ gO aX bI bZ mi hw hR jz
      have dK := cn aO bQ gO aX bI (fun c ax => bZ c (.inr ax)) mi hw hR (fun b ad ax => jz b ad (.inr ax))
      have bj := mh aO _ _ _ bI (fun c ax => bZ c (.inl ax) (by rintro rfl; exact ik _ ax (bc _ ba))) dK (by
        rintro b (ad | ad) ae
        ·exact ik _ ae (bc _ ad)
        ·exact jz _ ad (.inl ae))
      rw [kt, Ed]
      exact bg.mono (fun _ h => h) _ _ _ _ (fun b => fN b aX) bj
   intro av cs S a d h aj
   cases av with
   | agg ay =>
     simp only [I.sub] at aj
     split at aj
     ·rename_i x aq
      rw [aw] at h
      have := fields .agg (fun _ _ _ _ _ => by rw [aw]) ay cs S a x d (fun bQ => by simp only [I.put, aq]) h aq aj
      simpa only [dJ, aq] using this
     ·cases aj
   | tuple ay =>
     simp only [I.sub] at aj
     split at aj
     ·rename_i x aq
      rw [aw] at h
      have := fields .tuple (fun _ _ _ _ _ => by rw [aw]) ay cs S a x d (fun bQ => by simp only [I.put, aq]) h aq aj
      simpa only [dJ, aq] using this
     ·cases aj
   | ao sz xs =>
     simp only [I.sub] at aj
     split at aj
     ·rename_i x aq
      rw [aw] at h
      rcases h with ⟨rfl, _, rfl⟩ | ⟨b, cap, cur, e, fr, ez, rfl, ah, aH, a6, bN, cW, cI, fM, hQ, h5, la⟩
      ·simp at aq
      ·obtain ⟨cD, gE, cz, cu, ij, p, h7, f_, hk, ik, gP, mh⟩ := bg.pick xs _ ez k x hQ aq
       have hl := aw.length _ _ _ gP
       have QF : k < xs.length := (List.getElem?_eq_some_iff.1 aq).1
       have wW : x.wd = sz := fM x (List.mem_of_getElem? aq)
       have b_ : I.eK (xs.take k) = k * sz := by
        rw [sd _ (fun d aj => fM d (List.mem_of_mem_take aj))]
        rw [List.length_take, Nat.min_eq_left (by omega)]
       obtain ⟨qf, lD⟩ : ∃ qf, cur.toList = cD ++ (gE ++ (cz ++ qf)) := by
        refine ⟨cur.toList.drop (xs.length * sz), ?_⟩
        have := (List.take_append_drop (xs.length * sz) cur.toList).symm
        rw [p] at this
        simpa using this
       have kb : ng w b (k * sz) sz = gE := by
        have := uD aH lD
        rwa [h7, b_, hl, wW] at this
       obtain ⟨dp, da, fl, hK, h8, bc, bA, cU, eY, gg⟩ := ih x _ ij (some (b, k * sz)) d gP aj
       have kt : ∀ bQ, I.put (k :: q) bQ (.ao sz xs) = .ao sz (xs.set k (I.put q bQ x)) := fun bQ => by simp only [I.put, aq]
       refine ⟨dp, da, fun c => c = b ∨ cu c ∨ fl c, hK, ?_, ?_, fun c ax => h5 _ (hk _ (bA _ ax)), ?_, eY, .inr ?_⟩
       ·simp only [dJ, aq, kb]; exact h8
       ·rintro c (rfl | h | h)
        ·exact ah
        ·exact h5 _ (f_ _ h)
        ·exact h5 _ (hk _ (bc _ h))
       ·rintro c (rfl | h | h) aj
        ·exact la (hk _ (bA _ aj))
        ·exact ik _ h (bA _ aj)
        ·exact cU _ h aj
       ·have mI : ∀ bQ, bQ.wd = d.wd → (I.put q bQ x).wd = sz := fun bQ hw => (I.uC q x d bQ aj hw).trans wW
        rcases gg with ⟨l, r, rfl, ba, aW⟩ | ⟨gA, Ee, fQ, Ef, l, r, aU, ba, aW, cS, cZ, cn⟩
        ·refine ⟨b, cur, e, fr, cD ++ l, r ++ (cz ++ qf), ?_, .inl rfl, aH, a6, ?_, ?_⟩
         ·rw [ba]; simp [h7, b_]
         ·rw [lD]; simp
         ·intro aO bQ gO aX bI bZ mi hw hR jz
          have dK := aW aO bQ gO aX bI (fun c ax => bZ c (.inr (.inr ax)) (by rintro rfl; exact la (hk _ (bc _ ax)))) hw hR (fun b ad ax => jz b ad (.inr (.inr ax)))
          have bj := mh aO _ _ _ bI (fun c ax => bZ c (.inr (.inl ax)) (by rintro rfl; exact la (f_ _ ax))) dK (by
           rintro b (ad | ad) ae
           ·exact ik _ ae (bc _ ad)
           ·exact jz _ ad (.inr (.inl ae)))
          have wX := aw.length _ _ _ hR
          have wY := aw.length _ _ _ eY
          rw [kt, aw]
          refine .inr ⟨b, cap, _, e, fr, fun b => cu b ∨ fl b ∨ aX b, by simp, .inl (.inl rfl), mi, ?_, by simpa using bN, cW, ?_, Ec fM (mI bQ hw), ?_, ?_, ?_⟩
          ·have : (cD ++ l ++ (gO ++ (r ++ (cz ++ qf)))).toArray.size = cur.size := by
            have : cur.size = cur.toList.length := by simp
            rw [this, lD]; simp [wX, wY, hw]
           rw [this]; exact a6
          ·rw [← cI]
           have : cur.size = cur.toList.length := by simp
           rw [this, lD]; simp [wX, wY, hw]
          ·have hlen : (cD ++ (l ++ (gO ++ r) ++ cz)).length = xs.length * sz := by
            have := congrArg List.length p
            rw [List.length_take, Nat.min_eq_left (by simp [cI]; exact Nat.mul_le_mul_right _ bN)] at this
            rw [this]; simp [wX, wY, hw]
           have : (cD ++ l ++ (gO ++ (r ++ (cz ++ qf)))) = (cD ++ (l ++ (gO ++ r) ++ cz)) ++ qf := by simp
           rw [List.length_set]
           simp only [this]
           rw [List.take_left' hlen]
           exact bj
          ·rintro c (h | h | h)
           ·exact .inl (.inr (.inl h))
           ·exact .inl (.inr (.inr h))
           ·exact .inr h
          ·rintro (h | h | h)
           ·exact la (f_ _ h)
           ·exact la (hk _ (bc _ h))
           ·exact jz _ h (.inl rfl)
        ·refine ⟨gA, Ee, fQ, Ef, l, r, aU, .inr (.inr ba), aW, cS, cZ, ?_⟩
         intro aO bQ gO aX bI bZ mi hw hR jz
         have dK := cn aO bQ gO aX bI (fun c ax dL => bZ c (.inr (.inr ax)) dL) mi hw hR (fun b ad ax => jz b ad (.inr (.inr ax)))
         have dL : ∀ c, cu c → c ≠ gA := by rintro c ax rfl; exact ik _ ax (bc _ ba)
         have bj := mh aO _ _ _ bI (fun c ax => bZ c (.inr (.inl ax)) (dL c ax)) dK (by
          rintro b (ad | ad) ae
          ·exact ik _ ae (bc _ ad)
          ·exact jz _ ad (.inr (.inl ae)))
         have Eg : b ≠ gA := by rintro rfl; exact la (hk _ (bc _ ba))
         rw [kt, aw]
         refine .inr ⟨b, cap, cur, e, fr, fun b => cu b ∨ fl b ∨ aX b, by simp, .inl (.inl rfl), (bZ b (.inl rfl) Eg).trans aH, a6, by simpa using bN, cW, cI, Ec fM (mI bQ hw), ?_, ?_, ?_⟩
         ·rw [List.length_set, p]; exact bj
         ·rintro c (h | h | h)
          ·exact .inl (.inr (.inl h))
          ·exact .inl (.inr (.inr h))
          ·exact .inr h
         ·rintro (h | h | h)
          ·exact la (f_ _ h)
          ·exact la (hk _ (bc _ h))
          ·exact jz _ h (.inl rfl)
     ·cases aj
   | bb x =>
     cases k with
     | succ k => simp [I.sub] at aj
     | zero =>
       simp only [I.sub] at aj
       rw [aw] at h
       obtain ⟨b, cur, e, fr, ez, rfl, ah, aH, a6, bN, cW, cI⟩ := h
       have hl := aw.length _ _ _ bN
       have kb : ng w b 0 x.wd = cur.toList := by
        have := uD (l := []) (m := cur.toList) (r := []) aH (by simp)
        rwa [hl] at this
       obtain ⟨dp, da, fl, hK, h8, bc, bA, cU, eY, gg⟩ := ih x _ ez (some (b, 0)) d bN aj
       have kt : ∀ bQ, I.put (0 :: q) bQ (.bb x) = .bb (I.put q bQ x) := fun bQ => rfl
       refine ⟨dp, da, fun c => c = b ∨ fl c, hK, ?_, ?_, fun c ax => cW _ (bA _ ax), ?_, eY, .inr ?_⟩
       ·simp only [dJ, kb]; exact h8
       ·rintro c (rfl | h)
        ·exact ah
        ·exact cW _ (bc _ h)
       ·rintro c (rfl | h) aj
        ·exact cI (bA _ aj)
        ·exact cU _ h aj
       ·rcases gg with ⟨l, r, aU, ba, aW⟩ | ⟨gA, Ee, fQ, Ef, l, r, aU, ba, aW, cS, cZ, cn⟩
        ·refine ⟨b, cur, e, fr, l, r, ?_, .inl rfl, aH, a6, aU, ?_⟩
         ·rw [ba]; simp
         ·intro aO bQ gO aX bI bZ mi hw hR jz
          have dK := aW aO bQ gO aX bI (fun c ax => bZ c (.inr ax) (by rintro rfl; exact cI (bc _ ax))) hw hR (fun b ad ax => jz b ad (.inr ax))
          have wX := aw.length _ _ _ hR
          have wY := aw.length _ _ _ eY
          rw [kt, aw]
          refine ⟨b, _, e, fr, fun b => fl b ∨ aX b, rfl, .inl (.inl rfl), mi, ?_, dK, ?_, ?_⟩
          ·have : (l ++ (gO ++ r)).toArray.size = cur.size := by
            have : cur.size = cur.toList.length := by simp
            rw [this, aU]; simp [wX, wY, hw]
           rw [this]; exact a6
          ·rintro c (h | h)
           ·exact .inl (.inr h)
           ·exact .inr h
          ·rintro (h | h)
           ·exact cI (bc _ h)
           ·exact jz _ h (.inl rfl)
        ·refine ⟨gA, Ee, fQ, Ef, l, r, aU, .inr ba, aW, cS, cZ, ?_⟩
         intro aO bQ gO aX bI bZ mi hw hR jz
         have dK := cn aO bQ gO aX bI (fun c ax dL => bZ c (.inr ax) dL) mi hw hR (fun b ad ax => jz b ad (.inr ax))
         have Eg : b ≠ gA := by rintro rfl; exact cI (bc _ ba)
         rw [kt, aw]
         refine ⟨b, cur, e, fr, fun b => fl b ∨ aX b, rfl, .inl (.inl rfl), (bZ b (.inl rfl) Eg).trans aH, a6, dK, ?_, ?_⟩
         ·rintro c (h | h)
          ·exact .inl (.inr h)
          ·exact .inr h
         ·rintro (h | h)
          ·exact cI (bc _ h)
          ·exact jz _ h (.inl rfl)
   | _ => simp [I.sub] at aj
mutual
def I.plain : I → Bool
 | .ao _ _ => false
 | .bb _ => false
 | .fg _ => false
 | .agg ay => I.ed ay
 | .tuple ay => I.ed ay
 | _ => true
def I.ed : List I → Bool
 | [] => true
 | d :: ds => d.plain && I.ed ds
end
mutual
def I.du : I → I
 | .ao _ _ => .hole
 | .bb _ => .hole
 | .fg _ => .hole
 | .agg ay => .agg (I.lE ay)
 | .tuple ay => .tuple (I.lE ay)
 | d => d
def I.lE : List I → List I
 | [] => []
 | d :: ds => d.du :: I.lE ds
end
mutual
theorem I.rf : ∀ d : I, d.du.wd = d.wd
 | .hole => rfl
 | .bool _ => rfl
 | .fu => rfl
 | .int _ _ => rfl
 | .str _ => rfl
 | .dI => rfl
 | .bp => rfl
 | .slice _ => rfl
 | .ao _ _ => rfl
 | .ref _ => rfl
 | .bb _ => rfl
 | .agg ay => by simp only [I.du, I.wd]; exact I.Eh ay
 | .tuple ay => by simp only [I.du, I.wd]; exact I.Eh ay
 | .fn _ _ => rfl
 | .h _ _ => rfl
 | .az _ _ => rfl
 | .ad _ _ => rfl
 | .fg _ => rfl
theorem I.Eh : ∀ ds : List I, I.eK (I.lE ds) = I.eK ds
 | [] => rfl
 | d :: ds => by simp only [I.lE, I.eK]; rw [I.rf d, I.Eh ds]
end
mutual
theorem aw.du {w : World} {F : Nat → Prop} : ∀ (d : I) (cs : List Value) (S aX : Nat → Prop), aw w F d cs S → aw w F d.du cs aX
 | .hole, _, _, _, h => h
 | .bool _, _, _, _, h => h
 | .fu, _, _, _, h => h
 | .int _ _, _, _, _, h => h
 | .str _, _, _, _, h => h
 | .dI, _, _, _, h => h
 | .bp, _, _, _, h => h
 | .slice xs, cs, S, aX, h => by
   show aw w F (.slice xs) cs aX
   rw [aw] at h ⊢; exact h
 | .ao sz xs, cs, S, aX, h => by
   rw [I.du, aw]
   rw [aw] at h
   rcases h with ⟨_, _, rfl⟩ | ⟨b, cap, cur, e, fr, ez, rfl, _⟩
   ·exact ⟨_, rfl, rfl⟩
   ·exact ⟨_, rfl, rfl⟩
 | .ref d, cs, S, aX, h => by
   show aw w F (.ref d) cs aX
   rw [aw] at h ⊢; exact h
 | .bb d, cs, S, aX, h => by
   rw [I.du, aw]
   rw [aw] at h
   obtain ⟨b, cur, e, fr, ez, rfl, _⟩ := h
   exact ⟨_, rfl, rfl⟩
 | .agg ay, cs, S, aX, h => by rw [I.du, aw]; rw [aw] at h; exact bg.du ay _ _ _ h
 | .tuple ay, cs, S, aX, h => by rw [I.du, aw]; rw [aw] at h; exact bg.du ay _ _ _ h
 | .fn _ _, _, _, _, h => h
 | .h _ _, _, _, _, h => h
 | .az _ _, _, _, _, h => h
 | .ad _ _, _, _, _, h => h
 | .fg _, _, _, _, h => by rw [aw] at h; rw [I.du, aw]; exact lX.one h
theorem bg.du {w : World} {F : Nat → Prop} : ∀ (ds : List I) (cs : List Value) (S aX : Nat → Prop), bg w F ds cs S → bg w F (I.lE ds) cs aX
 | [], _, _, _, h => h
 | d :: ds, cs, S, aX, h => by
   rw [I.lE, bg]
   rw [bg] at h
   obtain ⟨cD, cz, cu, ej, ae, ah, aH, a6, bN, cW⟩ := h
   exact ⟨cD, cz, fun _ => False, fun _ => False, ae, aw.du d _ _ _ ah, bg.du ds _ _ _ aH, fun _ h => h.elim, fun _ h => h.elim, fun _ h => h.elim⟩
end
mutual
theorem aw.plain {w : World} {F : Nat → Prop} : ∀ (d : I) (cs : List Value) (S aX : Nat → Prop), d.plain = true → aw w F d cs S → aw w F d cs aX
 | .hole, _, _, _, _, h => h
 | .bool _, _, _, _, _, h => h
 | .fu, _, _, _, _, h => h
 | .int _ _, _, _, _, _, h => h
 | .str _, _, _, _, _, h => h
 | .dI, _, _, _, _, h => h
 | .bp, _, _, _, _, h => h
 | .slice xs, cs, S, aX, _, h => by rw [aw] at h ⊢; exact h
 | .ao sz xs, cs, S, aX, az, h => by simp [I.plain] at az
 | .ref d, cs, S, aX, _, h => by rw [aw] at h ⊢; exact h
 | .bb d, cs, S, aX, az, h => by simp [I.plain] at az
 | .agg ay, cs, S, aX, az, h => by rw [aw] at h ⊢; exact bg.plain ay _ _ _ az h
 | .tuple ay, cs, S, aX, az, h => by rw [aw] at h ⊢; exact bg.plain ay _ _ _ az h
 | .fn _ _, _, _, _, _, h => h
 | .h _ _, _, _, _, _, h => h
 | .az _ _, _, _, _, _, h => h
 | .ad _ _, _, _, _, _, h => h
 | .fg _, _, _, _, az, _ => by simp [I.plain] at az
theorem bg.plain {w : World} {F : Nat → Prop} : ∀ (ds : List I) (cs : List Value) (S aX : Nat → Prop), I.ed ds = true → bg w F ds cs S → bg w F ds cs aX
 | [], _, _, _, _, h => h
 | d :: ds, cs, S, aX, az, h => by
   rw [bg] at h ⊢
   simp only [I.ed, Bool.and_eq_true] at az
   obtain ⟨cD, cz, cu, ej, ae, ah, aH, a6, bN, cW⟩ := h
   exact ⟨cD, cz, fun _ => False, fun _ => False, ae, aw.plain d _ _ _ az.1 ah, bg.plain ds _ _ _ az.2 aH, fun _ h => h.elim, fun _ h => h.elim, fun _ h => h.elim⟩
end
def I.gh : List Nat → I → Bool
 | [], _ => false
 | k :: q, .agg ay => match ay[k]? with
   | some d => I.gh q d
   | none => false
 | k :: q, .tuple ay => match ay[k]? with
   | some d => I.gh q d
   | none => false
 | _ :: _, .ao _ _ => true
 | _ :: _, .bb _ => true
 | _ :: _, _ => false
theorem zZ {ay : List I} (h : I.ed ay = true) {k : Nat} {d : I} (aA : ay[k]? = some d) : d.plain = true := by
 induction ay generalizing k with
 | nil => simp at aA
 | cons a ay ih =>
   simp only [I.ed, Bool.and_eq_true] at h
   cases k with
   | zero => simp at aA; subst aA; exact h.1
   | succ k => simp at aA; exact ih h.2 aA
theorem I.IA : ∀ (q : List Nat) (d : I), d.plain = true → I.gh q d = false := by
 intro q
 induction q with
 | nil => intros; rfl
 | cons k q ih =>
   intro d aj
   cases d <;> first | rfl | (simp [I.plain] at aj; done) | skip
   all_goals
    simp only [I.gh]
    split
    ·rename_i ay x aq; exact ih _ (zZ (by simpa [I.plain] using aj) aq)
    ·rfl
theorem I.IB : ∀ (q : List Nat) (d e : I), d.plain = true → I.sub q d = some e → e.plain = true := by
 intro q
 induction q with
 | nil => intro d e aj h; simp [I.sub] at h; exact h ▸ aj
 | cons k q ih =>
   intro d e aj h
   cases d <;> first | (simp [I.plain] at aj; done) | (simp [I.sub] at h; done) | skip
   all_goals
    simp only [I.sub] at h
    split at h
    ·rename_i ay x aq; exact ih _ _ (zZ (by simpa [I.plain] using aj) aq) h
    ·cases h
theorem Ei {w aO : World} {F : Nat → Prop} : ∀ (q : List Nat) (av : I) (cs : List Value) (S : Nat → Prop) (a : Option (Nat × Nat)) (d : I),
  aw w F av cs S → I.sub q av = some d → (∀ b, S b → aO.heap[b]? = w.heap[b]?) → dJ aO q av cs a = dJ w q av cs a := by
 intro q
 induction q with
 | nil => intros; rfl
 | cons k q ih =>
   have fields : ∀ (ay : List I) (cs : List Value) (S : Nat → Prop) (a : Option (Nat × Nat)) (x d : I), bg w F ay cs S → ay[k]? = some x → I.sub q x = some d →
     (∀ b, S b → aO.heap[b]? = w.heap[b]?) →
     dJ aO q x ((cs.drop (I.eK (ay.take k))).take x.wd) (a.map fun l => (l.1, l.2 + I.eK (ay.take k))) = dJ w q x ((cs.drop (I.eK (ay.take k))).take x.wd) (a.map fun l => (l.1, l.2 + I.eK (ay.take k))) := by
    intro ay cs S a x d h aq aj bZ
    obtain ⟨cD, gE, cz, cu, ij, rfl, h7, f_, hk, ik, gP, mh⟩ := bg.pick ay cs S k x h aq
    rw [sb cD gE cz _ _ h7 (aw.length _ _ _ gP)]
    exact ih x gE ij _ d gP aj (fun b ad => bZ b (hk _ ad))
   intro av cs S a d h aj bZ
   cases av with
   | agg ay =>
     simp only [I.sub] at aj
     split at aj
     ·rename_i x aq
      rw [aw] at h
      simp only [dJ, aq]
      exact fields ay cs S a x d h aq aj bZ
     ·cases aj
   | tuple ay =>
     simp only [I.sub] at aj
     split at aj
     ·rename_i x aq
      rw [aw] at h
      simp only [dJ, aq]
      exact fields ay cs S a x d h aq aj bZ
     ·cases aj
   | ao sz xs =>
     simp only [I.sub] at aj
     split at aj
     ·rename_i x aq
      rw [aw] at h
      rcases h with ⟨rfl, _, rfl⟩ | ⟨b, cap, cur, e, fr, ez, rfl, ah, aH, a6, bN, cW, cI, fM, hQ, h5, la⟩
      ·simp at aq
      ·obtain ⟨cD, gE, cz, cu, ij, p, h7, f_, hk, ik, gP, mh⟩ := bg.pick xs _ ez k x hQ aq
       have hl := aw.length _ _ _ gP
       have QF : k < xs.length := (List.getElem?_eq_some_iff.1 aq).1
       have wW : x.wd = sz := fM x (List.mem_of_getElem? aq)
       have b_ : I.eK (xs.take k) = k * sz := by
        rw [sd _ (fun d aj => fM d (List.mem_of_mem_take aj))]
        rw [List.length_take, Nat.min_eq_left (by omega)]
       obtain ⟨qf, lD⟩ : ∃ qf, cur.toList = cD ++ (gE ++ (cz ++ qf)) := by
        refine ⟨cur.toList.drop (xs.length * sz), ?_⟩
        have := (List.take_append_drop (xs.length * sz) cur.toList).symm
        rw [p] at this
        simpa using this
       have kb : ng w b (k * sz) sz = gE := by
        have := uD aH lD
        rwa [h7, b_, hl, wW] at this
       have Ej : ng aO b (k * sz) sz = gE := by
        have := uD ((bZ b ah).trans aH) lD
        rwa [h7, b_, hl, wW] at this
       simp only [dJ, aq, kb, Ej]
       exact ih x gE ij _ d gP aj (fun c ax => bZ c (h5 _ (hk _ ax)))
     ·cases aj
   | bb x =>
     cases k with
     | succ k => simp [I.sub] at aj
     | zero =>
       simp only [I.sub] at aj
       rw [aw] at h
       obtain ⟨b, cur, e, fr, ez, rfl, ah, aH, a6, bN, cW, cI⟩ := h
       have hl := aw.length _ _ _ bN
       have kb : ng w b 0 x.wd = cur.toList := by
        have := uD (l := []) (m := cur.toList) (r := []) aH (by simp)
        rwa [hl] at this
       have Ej : ng aO b 0 x.wd = cur.toList := by
        have := uD (l := []) (m := cur.toList) (r := []) ((bZ b ah).trans aH) (by simp)
        rwa [hl] at this
       simp only [dJ, kb, Ej]
       exact ih x cur.toList ez _ d bN aj (fun c ax => bZ c (cW _ ax))
   | _ => simp [I.sub] at aj
def il : Value → List Value
 | .agg cs => cs.toList
 | v => [v]
def cL : Value → List Value
 | .tuple vs => vs.toList.flatMap il
 | v => il v
def i3 : I → Value → Prop
 | .agg _, v => ∃ arr, v = .agg arr
 | _, v => Value.hf v = true
def eN : I → Value → Prop
 | .tuple ds, v => ∃ arr : Array Value, v = .tuple arr ∧ arr.size = ds.length ∧ ∀ (k : Nat) (d : I) (x : Value), ds[k]? = some d → arr[k]? = some x → i3 d x ∧ (∀ vs, d ≠ .tuple vs) ∧ (il x).length = d.wd
 | d, v => i3 d v
abbrev ar := Nat → I
mutual
def aM (w : World) (F : Nat → Prop) (s : ar) (aC : Nat → Value) : I → Value → (Nat → Prop) → Prop
 | .hole, _, _ => True
 | .h x q, v, _ => ∀ d, I.sub q (s x) = some d → d.plain = false → ∃ dp a, dJ w q (s x) (cL (aC x)) none = some (d, dp, a) ∧ cL v = dp ∧ eN d v
 | .az x q, v, _ => ∀ d, I.sub q (s x) = some d → I.gh q (s x) = true → ∃ dp b o, dJ w q (s x) (cL (aC x)) none = some (d, dp, some (b, o)) ∧ v = .pointer (some ⟨b, o, none⟩)
 | .ad x k, v, _ => (s x).plain = false → ∃ b cur e fr, v = .pointer (some ⟨b, k, none⟩) ∧ F b ∧ w.heap[b]? = some (.cells cur e fr) ∧ cur.toList = cL (aC x)
 | .fn f cap, v, _ => ∃ arr : Array Value, v = .func (.func f) #[] arr ∧ eL w F s aC cap arr.toList
 | .bool b, v, S => eN (.bool b) v ∧ aw w F (.bool b) (cL v) S
 | .fu, v, S => eN .fu v ∧ aw w F .fu (cL v) S
 | .int k n, v, S => eN (.int k n) v ∧ aw w F (.int k n) (cL v) S
 | .str x, v, S => eN (.str x) v ∧ aw w F (.str x) (cL v) S
 | .dI, v, S => eN .dI v ∧ aw w F .dI (cL v) S
 | .bp, v, S => eN .bp v ∧ aw w F .bp (cL v) S
 | .slice xs, v, S => eN (.slice xs) v ∧ aw w F (.slice xs) (cL v) S
 | .ao sz xs, v, S => eN (.ao sz xs) v ∧ aw w F (.ao sz xs) (cL v) S
 | .ref d, v, S => eN (.ref d) v ∧ aw w F (.ref d) (cL v) S
 | .bb d, v, S => eN (.bb d) v ∧ aw w F (.bb d) (cL v) S
 | .agg d, v, S => eN (.agg d) v ∧ aw w F (.agg d) (cL v) S
 | .tuple d, v, S => eN (.tuple d) v ∧ aw w F (.tuple d) (cL v) S
 | .fg o, v, S => eN (.fg o) v ∧ aw w F (.fg o) (cL v) S
def eL (w : World) (F : Nat → Prop) (s : ar) (aC : Nat → Value) : List I → List Value → Prop
 | [], vs => vs = []
 | d :: ds, vs => ∃ v jW, vs = v :: jW ∧ aM w F s aC d v (fun _ => False) ∧ eL w F s aC ds jW
end
def I.tree : I → Bool
 | .hole => false
 | .h _ _ => false
 | .az _ _ => false
 | .ad _ _ => false
 | .fn _ _ => false
 | _ => true
theorem aM.c0 {w : World} {F : Nat → Prop} {s : ar} {aC : Nat → Value} {d : I} {v : Value} {S : Nat → Prop} (bo : d.tree = true) :
  aM w F s aC d v S ↔ (eN d v ∧ aw w F d (cL v) S) := by
 cases d <;> first | (simp [I.tree] at bo; done) | rw [aM]
theorem iX {q : List Nat} {av d : I} (h : I.sub q av = some d) (az : d.plain = false ∨ I.gh q av = true) : av.tree = true := by
 cases q with
 | nil =>
   simp [I.sub] at h; subst h
   rcases az with az | az
   ·cases av <;> first | rfl | (simp [I.plain] at az)
   ·simp [I.gh] at az
 | cons k q => cases av <;> first | rfl | (simp [I.sub] at h)
theorem Ek {d : I} (h : d.plain = false) : d.tree = true := iX (q := []) (by simp only [I.sub]) (.inl h)
theorem aM.frame {w aO : World} {F b7 : Nat → Prop} {s : ar} {aC : Nat → Value} {Sx : Nat → Nat → Prop} (bI : ∀ b, F b → aO.heap[b]? = w.heap[b]?) (IC : ∀ b, F b → b7 b)
  (bZ : ∀ x b, Sx x b → aO.heap[b]? = w.heap[b]?) (nQ : ∀ x, aM w F s aC (s x) (aC x) (Sx x)) :
  ∀ (d : I) (v : Value) (S : Nat → Prop), (∀ b, S b → aO.heap[b]? = w.heap[b]?) → aM w F s aC d v S → aM aO b7 s aC d v S := by
 have lF : ∀ (x : Nat) (q : List Nat) (d : I), I.sub q (s x) = some d → (d.plain = false ∨ I.gh q (s x) = true) → dJ aO q (s x) (cL (aC x)) none = dJ w q (s x) (cL (aC x)) none := by
  intro x q d aj az
  have bo := iX aj az
  have := nQ x
  rw [aM.c0 bo] at this
  exact Ei q _ _ (Sx x) none d this.2 aj (bZ x)
 have se : ∀ (d : I) (v : Value) (S : Nat → Prop), d.tree = true → (∀ b, S b → aO.heap[b]? = w.heap[b]?) → aM w F s aC d v S → aM aO b7 s aC d v S := by
  intro d v S bo sf h
  rw [aM.c0 bo] at h ⊢
  exact ⟨h.1, aw.mono IC _ _ _ _ (fun _ h => h) (aw.frame bI _ _ _ sf h.2)⟩
 have step : ∀ n, (∀ (d : I) (v : Value) (S : Nat → Prop), SizeOf.sizeOf d ≤ n → (∀ b, S b → aO.heap[b]? = w.heap[b]?) → aM w F s aC d v S → aM aO b7 s aC d v S) ∧
   (∀ (ds : List I) (vs : List Value), SizeOf.sizeOf ds ≤ n → eL w F s aC ds vs → eL aO b7 s aC ds vs) := by
  intro n
  induction n with
  | zero =>
    refine ⟨fun d v S b8 => ?_, fun ds vs b8 => ?_⟩
    ·cases d <;> simp at b8 <;> omega
    ·cases ds <;> simp at b8 <;> omega
  | succ n ih =>
    refine ⟨fun d v S b8 sf h => ?_, fun ds vs b8 h => ?_⟩
    ·cases d with
     | hole => rw [aM]; trivial
     | h x q =>
       rw [aM] at h ⊢
       intro d aj az
       rw [lF x q d aj (.inl az)]
       exact h d aj az
     | az x q =>
       rw [aM] at h ⊢
       intro d aj az
       rw [lF x q d aj (.inr az)]
       exact h d aj az
     | ad x k =>
       rw [aM] at h ⊢
       intro az
       obtain ⟨b, cur, e, fr, ae, ah, aH, a6⟩ := h az
       exact ⟨b, cur, e, fr, ae, IC b ah, (bI b ah).trans aH, a6⟩
     | fn f cap =>
       rw [aM] at h ⊢
       obtain ⟨arr, rfl, ax⟩ := h
       exact ⟨arr, rfl, ih.2 _ _ (by simp at b8; omega) ax⟩
     | _ => exact se _ _ _ rfl sf h
    ·cases ds with
     | nil => rw [eL] at h ⊢; exact h
     | cons d ds =>
       rw [eL] at h ⊢
       obtain ⟨v, jW, rfl, ae, ah⟩ := h
       simp at b8
       exact ⟨v, jW, rfl, ih.1 _ _ _ (by omega) (fun _ h => h.elim) ae, ih.2 _ _ (by omega) ah⟩
 intro d v S sf h
 exact (step (SizeOf.sizeOf d)).1 d v S (Nat.le_refl _) sf h
mutual
def c8 (x : Nat) : I → I
 | .h y q => if y = x then .hole else .h y q
 | .az y q => if y = x then .hole else .az y q
 | .ad y k => if y = x then .hole else .ad y k
 | .fn f cap => .fn f (jA x cap)
 | d => d
def jA (x : Nat) : List I → List I
 | [] => []
 | d :: ds => c8 x d :: jA x ds
end
mutual
def cx (x : Nat) : I → I
 | .h y q => if y = x then (if q = [] then .h y q else .hole) else .h y q
 | .az y q => if y = x then .hole else .az y q
 | .fn f cap => .fn f (i4 x cap)
 | d => d
def i4 (x : Nat) : List I → List I
 | [] => []
 | d :: ds => cx x d :: i4 x ds
end
def dM {α : Type} (f : Nat → α) (t : Nat) (v : α) : Nat → α := fun u => if u = t then v else f u
def lY (t : Nat) (s : ar) : ar := fun u => c8 t (s u)
def ji (t : Nat) (s : ar) : ar := fun u => cx t (s u)
theorem mJ {α : Type} (f : Nat → α) (t : Nat) (v : α) : dM f t v t = v := by simp [dM]
theorem jX {α : Type} (f : Nat → α) {t u : Nat} (v : α) (h : u ≠ t) : dM f t v u = f u := by simp [dM, h]
theorem QG {t : Nat} {d : I} (h : d.tree = true) : c8 t d = d := by cases d <;> first | rfl | (simp [I.tree] at h)
theorem El {t : Nat} {d : I} (h : d.tree = true) : cx t d = d := by cases d <;> first | rfl | (simp [I.tree] at h)
theorem QH {t : Nat} {d : I} (h : (c8 t d).tree = true) : d.tree = true ∧ c8 t d = d := by
 cases d <;> first | exact ⟨rfl, rfl⟩ | (simp only [c8] at h; first | (split at h <;> simp [I.tree] at h) | simp [I.tree] at h)
theorem Em {t : Nat} {d : I} (h : (cx t d).tree = true) : d.tree = true ∧ cx t d = d := by
 cases d <;> first | exact ⟨rfl, rfl⟩ | (simp only [cx] at h; first | (split at h <;> (try split at h) <;> simp [I.tree] at h) | simp [I.tree] at h)
section
variable {w : World} {F : Nat → Prop} {s aB : ar} {aC iL : Nat → Value} {t : Nat}
theorem aM.c8 (hY : ∀ x, x ≠ t → (aB x).tree = true → aB x = s x ∧ iL x = aC x) : ∀ (n : Nat),
  (∀ (d : I) (v : Value) (S : Nat → Prop), SizeOf.sizeOf d ≤ n → aM w F s aC d v S → aM w F aB iL (dg.c8 t d) v S) ∧
  (∀ (ds : List I) (vs : List Value), SizeOf.sizeOf ds ≤ n → eL w F s aC ds vs → eL w F aB iL (jA t ds) vs) := by
 intro n
 induction n with
 | zero =>
   refine ⟨fun d v S b8 => ?_, fun ds vs b8 => ?_⟩
   ·cases d <;> simp at b8 <;> omega
   ·cases ds <;> simp at b8 <;> omega
 | succ n ih =>
   refine ⟨fun d v S b8 h => ?_, fun ds vs b8 h => ?_⟩
   ·cases d with
    | hole => rw [dg.c8.eq_def]; simp only; rw [aM]; trivial
    | h x q =>
      simp only [dg.c8]
      split
      ·rw [aM]; trivial
      ·rename_i aq
       rw [aM] at h ⊢
       intro d aj az
       obtain ⟨aU, ba⟩ := hY x aq (iX aj (.inl az))
       rw [aU, ba]; rw [aU] at aj
       exact h d aj az
    | az x q =>
      simp only [dg.c8]
      split
      ·rw [aM]; trivial
      ·rename_i aq
       rw [aM] at h ⊢
       intro d aj az
       obtain ⟨aU, ba⟩ := hY x aq (iX aj (.inr az))
       rw [aU, ba]; rw [aU] at aj az
       exact h d aj az
    | ad x k =>
      simp only [dg.c8]
      split
      ·rw [aM]; trivial
      ·rename_i aq
       rw [aM] at h ⊢
       intro az
       obtain ⟨aU, ba⟩ := hY x aq (Ek az)
       rw [ba]; rw [aU] at az
       exact h az
    | fn f cap =>
      simp only [dg.c8]
      rw [aM] at h ⊢
      obtain ⟨arr, rfl, ax⟩ := h
      exact ⟨arr, rfl, ih.2 _ _ (by simp at b8; omega) ax⟩
    | _ =>
      rw [QG (by rfl)]
      exact (aM.c0 (by rfl)).2 ((aM.c0 (by rfl)).1 h)
   ·cases ds with
    | nil => rw [jA, eL]; rw [eL] at h; exact h
    | cons d ds =>
      rw [jA, eL]; rw [eL] at h
      obtain ⟨v, jW, rfl, ae, ah⟩ := h
      simp at b8
      exact ⟨v, jW, rfl, ih.1 _ _ _ (by omega) ae, ih.2 _ _ (by omega) ah⟩
theorem aM.cx {aO : World} (hY : ∀ x, x ≠ t → (aB x).tree = true → aB x = s x ∧ iL x = aC x) (ld : iL t = aC t) (ni : (aB t).plain = false → (s t).plain = false ∧ ∀ v, eN (s t) v → eN (aB t) v)
  (lF : ∀ x q d, x ≠ t → I.sub q (s x) = some d → (d.plain = false ∨ I.gh q (s x) = true) → dJ aO q (s x) (cL (aC x)) none = dJ w q (s x) (cL (aC x)) none)
  (bI : ∀ b, F b → aO.heap[b]? = w.heap[b]?) : ∀ (n : Nat),
  (∀ (d : I) (v : Value) (S : Nat → Prop), SizeOf.sizeOf d ≤ n → (∀ b, S b → aO.heap[b]? = w.heap[b]?) → aM w F s aC d v S → aM aO F aB iL (dg.cx t d) v S) ∧
  (∀ (ds : List I) (vs : List Value), SizeOf.sizeOf ds ≤ n → eL w F s aC ds vs → eL aO F aB iL (i4 t ds) vs) := by
 intro n
 induction n with
 | zero =>
   refine ⟨fun d v S b8 => ?_, fun ds vs b8 => ?_⟩
   ·cases d <;> simp at b8 <;> omega
   ·cases ds <;> simp at b8 <;> omega
 | succ n ih =>
   refine ⟨fun d v S b8 sf h => ?_, fun ds vs b8 h => ?_⟩
   ·cases d with
    | hole => rw [dg.cx.eq_def]; simp only; rw [aM]; trivial
    | h x q =>
      simp only [dg.cx]
      split
      ·rename_i aq
       subst aq
       split
       ·rename_i c4
        subst c4
        rw [aM] at h ⊢
        intro d aj az
        simp only [I.sub, Option.some.injEq] at aj
        subst aj
        obtain ⟨dK, bj⟩ := ni az
        obtain ⟨dp, a, bc, bA, cU⟩ := h (s x) rfl dK
        simp only [dJ, Option.some.injEq, Prod.mk.injEq] at bc
        obtain ⟨-, bc, aA1⟩ := bc
        refine ⟨cL (iL x), none, rfl, ?_, bj _ cU⟩
        rw [ld, bA, ← bc]
       ·rw [aM]; trivial
      ·rename_i aq
       rw [aM] at h ⊢
       intro d aj az
       obtain ⟨aU, ba⟩ := hY x aq (iX aj (.inl az))
       rw [aU, ba]; rw [aU] at aj
       rw [lF x q d aq aj (.inl az)]
       exact h d aj az
    | az x q =>
      simp only [dg.cx]
      split
      ·rw [aM]; trivial
      ·rename_i aq
       rw [aM] at h ⊢
       intro d aj az
       obtain ⟨aU, ba⟩ := hY x aq (iX aj (.inr az))
       rw [aU, ba]; rw [aU] at aj az
       rw [lF x q d aq aj (.inr az)]
       exact h d aj az
    | ad x k =>
      simp only [dg.cx]
      rw [aM] at h ⊢
      intro az
      by_cases aq : x = t
      ·subst aq
       obtain ⟨b, cur, e, fr, ae, ah, aH, a6⟩ := h (ni az).1
       exact ⟨b, cur, e, fr, ae, ah, (bI b ah).trans aH, by rw [ld]; exact a6⟩
      ·obtain ⟨aU, ba⟩ := hY x aq (Ek az)
       rw [aU] at az
       obtain ⟨b, cur, e, fr, ae, ah, aH, a6⟩ := h az
       exact ⟨b, cur, e, fr, ae, ah, (bI b ah).trans aH, by rw [ba]; exact a6⟩
    | fn f cap =>
      simp only [dg.cx]
      rw [aM] at h ⊢
      obtain ⟨arr, rfl, ax⟩ := h
      exact ⟨arr, rfl, ih.2 _ _ (by simp at b8; omega) ax⟩
    | _ =>
      rw [El (by rfl)]
      have bP := (aM.c0 (by rfl)).1 h
      exact (aM.c0 (by rfl)).2 ⟨bP.1, aw.frame bI _ _ _ sf bP.2⟩
   ·cases ds with
    | nil => rw [i4, eL]; rw [eL] at h; exact h
    | cons d ds =>
      rw [i4, eL]; rw [eL] at h
      obtain ⟨v, jW, rfl, ae, ah⟩ := h
      simp at b8
      exact ⟨v, jW, rfl, ih.1 _ _ _ (by omega) (fun _ h => h.elim) ae, ih.2 _ _ (by omega) ah⟩
theorem aM.void (hY : ∀ x, x ≠ t → (aB x).tree = true → aB x = s x ∧ iL x = aC x) (oD : (aB t).plain = true) : ∀ (n : Nat),
  (∀ (d : I) (v : Value) (S : Nat → Prop), SizeOf.sizeOf d ≤ n → aM w F s aC d v S → aM w F aB iL d v S) ∧
  (∀ (ds : List I) (vs : List Value), SizeOf.sizeOf ds ≤ n → eL w F s aC ds vs → eL w F aB iL ds vs) := by
 intro n
 induction n with
 | zero =>
   refine ⟨fun d v S b8 => ?_, fun ds vs b8 => ?_⟩
   ·cases d <;> simp at b8 <;> omega
   ·cases ds <;> simp at b8 <;> omega
 | succ n ih =>
   refine ⟨fun d v S b8 h => ?_, fun ds vs b8 h => ?_⟩
   ·cases d with
    | hole => rw [aM]; trivial
    | h x q =>
      rw [aM] at h ⊢
      intro d aj az
      by_cases aq : x = t
      ·subst aq
       rw [I.IB _ _ _ oD aj] at az; cases az
      ·obtain ⟨aU, ba⟩ := hY x aq (iX aj (.inl az))
       rw [aU, ba]; rw [aU] at aj
       exact h d aj az
    | az x q =>
      rw [aM] at h ⊢
      intro d aj az
      by_cases aq : x = t
      ·subst aq
       rw [I.IA _ _ oD] at az; cases az
      ·obtain ⟨aU, ba⟩ := hY x aq (iX aj (.inr az))
       rw [aU, ba]; rw [aU] at aj az
       exact h d aj az
    | ad x k =>
      rw [aM] at h ⊢
      intro az
      by_cases aq : x = t
      ·subst aq; rw [oD] at az; cases az
      ·obtain ⟨aU, ba⟩ := hY x aq (Ek az)
       rw [ba]; rw [aU] at az
       exact h az
    | fn f cap =>
      rw [aM] at h ⊢
      obtain ⟨arr, rfl, ax⟩ := h
      exact ⟨arr, rfl, ih.2 _ _ (by simp at b8; omega) ax⟩
    | _ => exact (aM.c0 (by rfl)).2 ((aM.c0 (by rfl)).1 h)
   ·cases ds with
    | nil => rw [eL]; rw [eL] at h; exact h
    | cons d ds =>
      rw [eL]; rw [eL] at h
      obtain ⟨v, jW, rfl, ae, ah⟩ := h
      simp at b8
      exact ⟨v, jW, rfl, ih.1 _ _ _ (by omega) ae, ih.2 _ _ (by omega) ah⟩
end
structure b9 (w0 : World) (F0 X F : Nat → Prop) (S : Nat → Nat → Prop) (s : ar) (aC : Nat → Value) (w : World) : Prop where
 hL : ∀ b, F0 b → F b
 hZ : ∀ b, F b → F0 b ∨ X b ∨ w0.heap.size ≤ b
 ga : ∀ b, F b → b < w.heap.size
 fh : ∀ t b, S t b → b < w.heap.size
 gF : ∀ t b, S t b → ¬ F b
 gq : ∀ t u b, t ≠ u → S t b → ¬ S u b
 ez : ∀ t b, S t b → X b ∨ w0.heap.size ≤ b
 eg : ∀ t, aM w F s aC (s t) (aC t) (S t)
 old : ∀ b, b < w0.heap.size → ¬ X b → w.heap[b]? = w0.heap[b]?
 size : w0.heap.size ≤ w.heap.size
 os : w.os = w0.os
 tape : w.tape = w0.tape
 output : w.output = w0.output
section
variable {w0 w aO : World} {F0 X F : Nat → Prop} {S : Nat → Nat → Prop} {s : ar} {aC : Nat → Value}
theorem b9.grow (h : b9 w0 F0 X F S s aC w) (ad : ∀ b, b < w.heap.size → aO.heap[b]? = w.heap[b]?) (af : w.heap.size ≤ aO.heap.size)
  (ae : aO.os = w.os) (ah : aO.tape = w.tape) (aH : aO.output = w.output) : b9 w0 F0 X F S s aC aO where
 hL := h.hL
 hZ := h.hZ
 ga := fun b bI => Nat.lt_of_lt_of_le (h.ga b bI) af
 fh := fun t b bI => Nat.lt_of_lt_of_le (h.fh t b bI) af
 gF := h.gF
 gq := h.gq
 ez := h.ez
 eg := fun t => aM.frame (Sx := S) (fun b bI => ad b (h.ga b bI)) (fun _ h => h) (fun x b bZ => ad b (h.fh x b bZ)) h.eg _ _ _ (fun b bZ => ad b (h.fh t b bZ)) (h.eg t)
 old := fun b e7 kS => (ad b (Nat.lt_of_lt_of_le e7 h.size)).trans (h.old b e7 kS)
 size := Nat.le_trans h.size af
 os := ae.trans h.os
 tape := ah.trans h.tape
 output := aH.trans h.output
def g3 (S : Nat → Nat → Prop) (t : Nat) (Sn : Nat → Prop) : Nat → Nat → Prop := fun u b => if u = t then Sn b else S u b
theorem z1 (S : Nat → Nat → Prop) (t : Nat) (Sn : Nat → Prop) : g3 S t Sn t = Sn := by funext b; simp [g3]
theorem z2 (S : Nat → Nat → Prop) {t u : Nat} (Sn : Nat → Prop) (h : u ≠ t) : g3 S t Sn u = S u := by funext b; simp [g3, h]
theorem b9.uE (h : b9 w0 F0 X F S s aC w) {t : Nat} {d : I} {v : Value} (az : d.plain = true) (aj : aM w F s aC d v (fun _ => False)) :
  b9 w0 F0 X F (g3 S t (fun _ => False)) (dM s t d) (dM aC t v) w where
 hL := h.hL
 hZ := h.hZ
 ga := h.ga
 fh := fun u b ad => by simp only [g3] at ad; split at ad; exact ad.elim; exact h.fh u b ad
 gF := fun u b ad => by simp only [g3] at ad; split at ad; exact ad.elim; exact h.gF u b ad
 gq := fun u x b dL ad aq => by
  simp only [g3] at ad aq
  split at ad
  ·exact ad.elim
  ·split at aq
   ·exact aq.elim
   ·exact h.gq u x b dL ad aq
 ez := fun u b ad => by simp only [g3] at ad; split at ad; exact ad.elim; exact h.ez u b ad
 eg := fun u => by
  have hY : ∀ x, x ≠ t → (dM s t d x).tree = true → dM s t d x = s x ∧ dM aC t v x = aC x := fun x aq _ => ⟨jX _ _ aq, jX _ _ aq⟩
  have oD : (dM s t d t).plain = true := by rw [mJ]; exact az
  by_cases hu : u = t
  ·subst hu
   rw [mJ, mJ, z1]
   exact (aM.void hY oD _).1 _ _ _ (Nat.le_refl _) aj
  ·rw [jX _ _ hu, jX _ _ hu, z2 _ _ hu]
   exact (aM.void hY oD _).1 _ _ _ (Nat.le_refl _) (h.eg u)
 old := h.old
 size := h.size
 os := h.os
 tape := h.tape
 output := h.output
theorem b9.ID (h : b9 w0 F0 X F S s aC w) {t : Nat} {d : I} {v : Value} {Sn : Nat → Prop} (aj : d.tree = true) (af : eN d v) (aQ : aw w F d (cL v) Sn)
  (e7 : ∀ b, Sn b → b < w.heap.size) (bI : ∀ b, Sn b → ¬ F b) (bZ : ∀ u b, u ≠ t → Sn b → ¬ S u b) (bf : ∀ b, Sn b → X b ∨ w0.heap.size ≤ b) :
  b9 w0 F0 X F (g3 S t Sn) (dM (lY t s) t d) (dM aC t v) w where
 hL := h.hL
 hZ := h.hZ
 ga := h.ga
 fh := fun u b ad => by simp only [g3] at ad; split at ad; exact e7 b ad; exact h.fh u b ad
 gF := fun u b ad => by simp only [g3] at ad; split at ad; exact bI b ad; exact h.gF u b ad
 gq := fun u x b dL ad aq => by
  simp only [g3] at ad aq
  split at ad
  ·rename_i hu
   rw [if_neg (fun e => dL (hu.trans e.symm))] at aq
   exact bZ x b (fun e => dL (hu.trans e.symm)) ad aq
  ·rename_i hu
   split at aq
   ·exact bZ u b hu aq ad
   ·exact h.gq u x b dL ad aq
 ez := fun u b ad => by simp only [g3] at ad; split at ad; exact bf b ad; exact h.ez u b ad
 eg := fun u => by
  have hY : ∀ x, x ≠ t → (dM (lY t s) t d x).tree = true → dM (lY t s) t d x = s x ∧ dM aC t v x = aC x := fun x aq bo => by
   rw [jX _ _ aq] at bo ⊢
   exact ⟨(QH bo).2, jX _ _ aq⟩
  by_cases hu : u = t
  ·subst hu
   rw [mJ, mJ, z1]
   exact (aM.c0 aj).2 ⟨af, aQ⟩
  ·rw [jX _ _ hu, jX _ _ hu, z2 _ _ hu]
   exact (aM.c8 hY _).1 _ _ _ (Nat.le_refl _) (h.eg u)
 old := h.old
 size := h.size
 os := h.os
 tape := h.tape
 output := h.output
theorem sg (k : Nat) (q : List Nat) (bQ x : I) : (∃ ay gs, x = .agg ay ∧ I.put (k :: q) bQ x = .agg gs) ∨ (∃ ay gs, x = .tuple ay ∧ I.put (k :: q) bQ x = .tuple gs) ∨
  (∃ sz xs cd, x = .ao sz xs ∧ I.put (k :: q) bQ x = .ao sz cd) ∨ (∃ y z, x = .bb y ∧ I.put (k :: q) bQ x = .bb z) ∨ I.put (k :: q) bQ x = x := by
 cases x with
 | agg ay => simp only [I.put]; split <;> exact .inl ⟨_, _, rfl, rfl⟩
 | tuple ay => simp only [I.put]; split <;> exact .inr (.inl ⟨_, _, rfl, rfl⟩)
 | ao sz ay => simp only [I.put]; split <;> exact .inr (.inr (.inl ⟨_, _, _, rfl, rfl⟩))
 | bb y => cases k <;> exact .inr (.inr (.inr (.inl ⟨_, _, rfl, rfl⟩)))
 | _ => exact .inr (.inr (.inr (.inr rfl)))
theorem IE {k : Nat} {q : List Nat} {bQ x : I} {v : Value} (h : i3 x v) : i3 (I.put (k :: q) bQ x) v := by
 rcases sg k q bQ x with ⟨ay, gs, rfl, e⟩ | ⟨ay, gs, rfl, e⟩ | ⟨sz, xs, cd, rfl, e⟩ | ⟨y, z, rfl, e⟩ | e <;> rw [e] <;> exact h
theorem IF {k : Nat} {q : List Nat} {bQ x : I} (h : ∀ vs, x ≠ .tuple vs) : ∀ vs, I.put (k :: q) bQ x ≠ .tuple vs := by
 rcases sg k q bQ x with ⟨ay, gs, rfl, e⟩ | ⟨ay, gs, rfl, e⟩ | ⟨sz, xs, cd, rfl, e⟩ | ⟨y, z, rfl, e⟩ | e <;> rw [e] <;> first | exact h | (intro vs bP; cases bP; done) | exact (h _ rfl).elim
theorem En {k : Nat} {q : List Nat} {d bQ av : I} {v : Value} (h : eN av v) (aj : I.sub (k :: q) av = some d) (ae : ∀ v, i3 d v → i3 bQ v) (ah : (∀ vs, d ≠ .tuple vs) → ∀ vs, bQ ≠ .tuple vs) (aH : bQ.wd = d.wd) :
  eN (I.put (k :: q) bQ av) v := by
 cases av with
 | tuple ay =>
   simp only [I.sub] at aj
   split at aj
   ·rename_i x aq
    simp only [I.put, aq]
    simp only [eN] at h ⊢
    obtain ⟨arr, rfl, b8, nQ⟩ := h
    refine ⟨arr, rfl, by simpa using b8, fun j e y he bl => ?_⟩
    rw [List.getElem?_set] at he
    split at he
    ·rename_i Eo
     subst Eo
     split at he
     ·simp only [Option.some.injEq] at he
      subst he
      obtain ⟨bc, bA, cU⟩ := nQ k x y aq bl
      refine ⟨?_, ?_, cU.trans (I.uC q x d bQ aj aH).symm⟩
      ·cases q with
       | nil =>
         simp only [I.sub, Option.some.injEq] at aj
         subst aj
         exact ae _ bc
       | cons cy q => exact IE bc
      ·cases q with
       | nil =>
         simp only [I.sub, Option.some.injEq] at aj
         subst aj
         exact ah bA
       | cons cy q => exact IF bA
     ·cases he
    ·exact nQ j e y he bl
   ·cases aj
 | agg ay => simp only [I.put]; split <;> exact h
 | ao sz ay => simp only [I.put]; split <;> exact h
 | bb y => cases k <;> exact h
 | _ => exact h
theorem Ep {d : I} {v : Value} (h : i3 d v) : i3 d.du v := by cases d <;> exact h
theorem IG {s : ar} {x : Nat} {q : List Nat} {d : I} (aj : I.sub q (s x) = some d) (az : d.plain = false) :
  (dM (ji x s) x (I.put q d.du (s x)) x).plain = false → (s x).plain = false ∧ ∀ v, eN (s x) v → eN (dM (ji x s) x (I.put q d.du (s x)) x) v := by
  rw [mJ]
  intro gG
  cases q with
  | nil =>
    exfalso
    have : ∀ d : I, d.du.plain = true := by
     intro d
     have key : ∀ n, (∀ d : I, SizeOf.sizeOf d ≤ n → d.du.plain = true) ∧ (∀ ds : List I, SizeOf.sizeOf ds ≤ n → I.ed (I.lE ds) = true) := by
      intro n
      induction n with
      | zero => exact ⟨fun d b8 => by cases d <;> simp at b8 <;> omega, fun ds b8 => by cases ds <;> simp at b8 <;> omega⟩
      | succ n ih =>
        refine ⟨fun d b8 => ?_, fun ds b8 => ?_⟩
        ·cases d with
         | agg ay => simp only [I.du, I.plain]; exact ih.2 _ (by simp at b8; omega)
         | tuple ay => simp only [I.du, I.plain]; exact ih.2 _ (by simp at b8; omega)
         | _ => rfl
        ·cases ds with
         | nil => rfl
         | cons d ds =>
           simp at b8
           simp only [I.lE, I.ed, Bool.and_eq_true]
           exact ⟨ih.1 _ (by omega), ih.2 _ (by omega)⟩
     exact (key _).1 d (Nat.le_refl _)
    simp only [I.put] at gG
    rw [this] at gG
    cases gG
  | cons k q =>
    refine ⟨?_, fun v aQ => En aQ aj (fun v h => Ep h) (fun h vs e => ?_) (I.rf d)⟩
    ·cases Er : (s x).plain with
     | false => rfl
     | true => rw [I.IB _ _ _ Er aj] at az; cases az
    ·cases d <;> first | (exact h _ rfl) | (simp [I.du] at e)
theorem b9.take (h : b9 w0 F0 X F S s aC w) {x : Nat} {q : List Nat} {d : I} (aj : I.sub q (s x) = some d) (az : d.plain = false) :
  ∃ (Sn hK : Nat → Prop) (dp : List Value) (a : Option (Nat × Nat)), b9 w0 F0 X F (g3 S x Sn) (dM (ji x s) x (I.put q d.du (s x))) aC w ∧
    dJ w q (s x) (cL (aC x)) none = some (d, dp, a) ∧ aw w F d dp hK ∧ (∀ b, hK b → S x b) ∧ (∀ b, Sn b → S x b) ∧ (∀ b, hK b → ¬ Sn b) ∧
    (∀ (bQ : I) (v : Value) (aX : Nat → Prop), aM w F s aC bQ v aX → aM w F (dM (ji x s) x (I.put q d.du (s x))) aC (dg.cx x bQ) v aX) := by
 have bo := iX aj (.inl az)
 have aq := h.eg x
 rw [aM.c0 bo] at aq
 obtain ⟨dp, a, fl, hK, h8, bc, bA, cU, eY, gg⟩ := ctx q (s x) (cL (aC x)) (S x) none d aq.2 aj
 have kt : aw w F (I.put q d.du (s x)) (cL (aC x)) fl := by
  have kT : aw w F d.du dp (fun _ => False) := aw.du _ _ _ _ eY
  have rh : ∀ b, (fl b ∨ False) → fl b := fun b h => h.elim id False.elim
  rcases gg with ⟨l, r, aU, ba, aW⟩ | ⟨b, cur, e, fr, l, r, aU, ba, aW, cS, cZ, cn⟩
  ·have := aW w _ dp _ (fun _ _ => rfl) (fun _ _ => rfl) (I.rf d) kT (fun _ h => h.elim)
   rw [← aU] at this
   exact aw.mono (fun _ h => h) _ _ _ _ rh this
  ·have := cn w _ dp _ (fun _ _ => rfl) (fun _ _ _ => rfl) (by rw [aW, ← cZ]) (I.rf d) kT (fun _ h => h.elim)
   exact aw.mono (fun _ h => h) _ _ _ _ rh this
 have QI : eN (I.put q d.du (s x)) (aC x) ∧ (I.put q d.du (s x)).tree = true ∨ I.put q d.du (s x) = .hole := by
  cases q with
  | nil =>
    simp only [I.sub, Option.some.injEq] at aj
    subst aj
    simp only [I.put]
    cases af : s x with
    | ao sz xs => right; rfl
    | bb y => right; rfl
    | fg y => right; rfl
    | agg ay => left; rw [af] at aq; exact ⟨aq.1, rfl⟩
    | tuple ay =>
      left
      rw [af] at aq
      refine ⟨?_, rfl⟩
      simp only [eN, I.du] at aq ⊢
      obtain ⟨arr, e, b8, nQ⟩ := aq.1
      have hl : ∀ ay : List I, I.lE ay = ay.map I.du := by
       intro ay; induction ay with
       | nil => rfl
       | cons a ay ih => simp [I.lE, ih]
      refine ⟨arr, e, by rw [hl]; simpa using b8, fun k fQ y he bl => ?_⟩
      rw [hl, List.getElem?_map] at he
      cases aA : ay[k]? with
      | none => rw [aA] at he; cases he
      | some z =>
        rw [aA] at he
        simp only [Option.map_some, Option.some.injEq] at he
        subst he
        obtain ⟨bc, bA, cU⟩ := nQ k z y aA bl
        refine ⟨Ep bc, fun vs e => ?_, cU.trans (I.rf z).symm⟩
        cases z <;> first | (exact bA _ rfl) | (simp [I.du] at e)
    | _ => rw [af] at az; simp [I.plain] at az
  | cons k q =>
    left
    refine ⟨En aq.1 aj (fun v h => Ep h) (fun h vs e => ?_) (I.rf d), ?_⟩
    ·cases d <;> first | (exact h _ rfl) | (simp [I.du] at e)
    ·rcases sg k q d.du (s x) with ⟨ay, gs, aU, e⟩ | ⟨ay, gs, aU, e⟩ | ⟨sz, xs, cd, aU, e⟩ | ⟨y, z, aU, e⟩ | e <;> rw [e] <;> first | rfl | exact bo
 refine ⟨fl, hK, dp, a, ?_, h8, eY, bA, bc, fun b ae ah => cU b ah ae, ?_⟩
 rotate_left
 ·have hY : ∀ y, y ≠ x → (dM (ji x s) x (I.put q d.du (s x)) y).tree = true → dM (ji x s) x (I.put q d.du (s x)) y = s y ∧ aC y = aC y := fun y bl bo => by
   rw [jX _ _ bl] at bo ⊢
   exact ⟨(Em bo).2, rfl⟩
  intro bQ v aX hR
  exact (aM.cx hY rfl (IG aj az) (fun _ _ _ _ _ _ => rfl) (fun _ _ => rfl) _).1 _ _ _ (Nat.le_refl _) (fun _ _ => rfl) hR
 have hY : ∀ y, y ≠ x → (dM (ji x s) x (I.put q d.du (s x)) y).tree = true → dM (ji x s) x (I.put q d.du (s x)) y = s y ∧ aC y = aC y := fun y bl bo => by
  rw [jX _ _ bl] at bo ⊢
  exact ⟨(Em bo).2, rfl⟩
 have ni := IG (s := s) (x := x) aj az
 constructor
 case hL => exact h.hL
 case hZ => exact h.hZ
 case ga => exact h.ga
 case fh => exact fun u b ad => by simp only [g3] at ad; split at ad; exact h.fh x b (bc b ad); exact h.fh u b ad
 case gF => exact fun u b ad => by simp only [g3] at ad; split at ad; exact h.gF x b (bc b ad); exact h.gF u b ad
 case gq =>
  intro u y b dL ad bl
  simp only [g3] at ad bl
  split at ad
  ·rename_i hu
   rw [if_neg (fun e => dL (hu.trans e.symm))] at bl
   exact h.gq x y b (fun e => dL (hu.trans e)) (bc b ad) bl
  ·rename_i hu
   split at bl
   ·exact h.gq u x b hu ad (bc b bl)
   ·exact h.gq u y b dL ad bl
 case ez => exact fun u b ad => by simp only [g3] at ad; split at ad; exact h.ez x b (bc b ad); exact h.ez u b ad
 case eg =>
  intro u
  by_cases hu : u = x
  ·subst hu
   rw [mJ, z1]
   rcases QI with ⟨aU, ba⟩ | e
   ·exact (aM.c0 ba).2 ⟨aU, kt⟩
   ·rw [e, aM]; trivial
  ·rw [jX _ _ hu, z2 _ _ hu]
   exact (aM.cx hY rfl ni (fun _ _ _ _ _ _ => rfl) (fun _ _ => rfl) _).1 _ _ _ (Nat.le_refl _) (fun _ _ => rfl) (h.eg u)
 case old => exact h.old
 case size => exact h.size
 case os => exact h.os
 case tape => exact h.tape
 case output => exact h.output
theorem b9.store (h : b9 w0 F0 X F S s aC w) {x : Nat} {q : List Nat} {d bQ : I} (aj : I.sub q (s x) = some d) (ax : I.gh q (s x) = true)
  {gO : List Value} {Sn : Nat → Prop} (aQ : aw w F bQ gO Sn) (mI : bQ.wd = d.wd)
  (e7 : ∀ b, Sn b → b < w.heap.size) (bI : ∀ b, Sn b → ¬ F b) (bZ : ∀ u b, Sn b → ¬ S u b) (bf : ∀ b, Sn b → X b ∨ w0.heap.size ≤ b) :
  ∃ (dp : List Value) (b : Nat) (l r : List Value) (cur : Array Value) (e : TypeId) (fr : Nat × Nat), dJ w q (s x) (cL (aC x)) none = some (d, dp, some (b, l.length)) ∧
    w.heap[b]? = some (.cells cur e fr) ∧ cur.toList = l ++ (dp ++ r) ∧ oC fr cur.size ∧
    ∀ aO, aO.heap[b]? = some (.cells (l ++ (gO ++ r)).toArray e fr) → (∀ c, c ≠ b → aO.heap[c]? = w.heap[c]?) → aO.heap.size = w.heap.size → aO.os = w.os → aO.tape = w.tape → aO.output = w.output →
      ∃ aX, b9 w0 F0 X F aX (dM (ji x s) x (I.put q bQ (s x))) aC aO := by
 have bo := iX aj (.inr ax)
 have aq := h.eg x
 rw [aM.c0 bo] at aq
 obtain ⟨dp, a, fl, hK, h8, bc, bA, cU, eY, gg⟩ := ctx q (s x) (cL (aC x)) (S x) none d aq.2 aj
 have QJ : Deep w F q (s x) (cL (aC x)) d dp a fl := by
  rcases gg with ⟨l, r, aU, ba, aW⟩ | gg
  ·exfalso
   have lZ : ∀ (q : List Nat) (av : I) (cs : List Value) (a0 : Option (Nat × Nat)) (d : I) (dp : List Value), I.gh q av = true → dJ w q av cs a0 = some (d, dp, none) → False := by
    intro q
    induction q with
    | nil => intro av cs a0 d dp ax; simp [I.gh] at ax
    | cons k q ih =>
      have IH : ∀ (q : List Nat) (av : I) (cs : List Value) (l : Nat × Nat) (d : I) (dp : List Value), dJ w q av cs (some l) = some (d, dp, none) → False := by
       intro q
       induction q with
       | nil => intro av cs l d dp h; simp [dJ] at h
       | cons k q z6 =>
         intro av cs l d dp h
         cases av with
         | agg ay => rw [dJ] at h; split at h; exact z6 _ _ _ _ _ h; cases h
         | tuple ay => rw [dJ] at h; split at h; exact z6 _ _ _ _ _ h; cases h
         | ao sz xs => simp only [dJ] at h; split at h; exact z6 _ _ _ _ _ h; cases h
         | bb y =>
           cases k with
           | zero => rw [dJ.eq_def] at h; simp only at h; split at h; exact z6 _ _ _ _ _ h; cases h
           | succ k => rw [show dJ w ((k + 1) :: q) (.bb y) cs (some l) = none from rfl] at h; cases h
         | _ => simp [dJ] at h
      intro av cs a0 d dp ax h
      cases av with
      | agg ay =>
        simp only [I.gh] at ax
        split at ax
        ·rename_i y bl
         simp only [dJ, bl] at h
         exact ih _ _ _ _ _ ax h
        ·cases ax
      | tuple ay =>
        simp only [I.gh] at ax
        split at ax
        ·rename_i y bl
         simp only [dJ, bl] at h
         exact ih _ _ _ _ _ ax h
        ·cases ax
      | ao sz xs => simp only [dJ] at h; split at h; exact IH _ _ _ _ _ _ h; cases h
      | bb y =>
        cases k with
        | zero => rw [dJ.eq_def] at h; simp only at h; split at h; exact IH _ _ _ _ _ _ h; cases h
        | succ k => rw [show dJ w ((k + 1) :: q) (.bb y) cs a0 = none from rfl] at h; cases h
      | _ => simp [I.gh] at ax
   simp only [Option.map_none] at ba
   subst ba
   exact lZ _ _ _ _ _ _ ax h8
  ·exact gg
 obtain ⟨b, cur, e, fr, l, r, rfl, ba, aW, cS, cZ, cn⟩ := QJ
 refine ⟨dp, b, l, r, cur, e, fr, h8, aW, cZ, cS, ?_⟩
 intro aO mi si eM QK QL wZ
 have z7 : S x b := bc _ ba
 have uF : ∀ c, F c → aO.heap[c]? = w.heap[c]? := fun c ax => si c (by rintro rfl; exact h.gF x _ z7 ax)
 have aA2 : gO.length = dp.length := by rw [aw.length _ _ _ aQ, aw.length _ _ _ eY, mI]
 have kt := cn aO bQ gO Sn uF (fun c _ dL => si c dL) mi mI
  (aw.frame uF _ _ _ (fun c ax => si c (by rintro rfl; exact bZ x _ ax z7)) aQ) (fun c ax rh => bZ x c ax (bc _ rh))
 obtain ⟨k, jL, rfl⟩ : ∃ k jL, q = k :: jL := by
  cases q with
  | nil => simp [I.gh] at ax
  | cons k q => exact ⟨k, q, rfl⟩
 have II : ∀ v, eN (s x) v → eN (I.put (k :: jL) bQ (s x)) v := by
  intro v aQ
  rcases sg k jL bQ (s x) with ⟨ay, gs, aU, e⟩ | ⟨ay, gs, aU, e⟩ | ⟨sz, xs, cd, aU, e⟩ | ⟨y, z, aU, e⟩ | e
  ·rw [e]; rw [aU] at aQ; exact aQ
  ·
   rw [aU] at aQ aj ax ⊢
   simp only [I.gh] at ax
   split at ax
   ·rename_i y bl
    simp only [I.put, bl]
    cases jL with
    | nil => simp [I.gh] at ax
    | cons cy hg =>
      simp only [eN] at aQ ⊢
      obtain ⟨arr, rfl, b8, nQ⟩ := aQ
      refine ⟨arr, rfl, by simpa using b8, fun j e kU he sj => ?_⟩
      rw [List.getElem?_set] at he
      split at he
      ·rename_i Eo
       subst Eo
       split at he
       ·simp only [Option.some.injEq] at he
        subst he
        obtain ⟨bc, bA, cU⟩ := nQ _ y kU bl sj
        simp only [I.sub, bl] at aj
        exact ⟨IE bc, IF bA, cU.trans (I.uC (cy :: hg) y d bQ aj mI).symm⟩
       ·cases he
      ·exact nQ j e kU he sj
   ·cases ax
  ·rw [e]; rw [aU] at aQ; exact aQ
  ·rw [e]; rw [aU] at aQ; exact aQ
  ·rw [e]; exact aQ
 have QM : (I.put (k :: jL) bQ (s x)).tree = true := by
  rcases sg k jL bQ (s x) with ⟨ay, gs, aU, e⟩ | ⟨ay, gs, aU, e⟩ | ⟨sz, xs, cd, aU, e⟩ | ⟨y, z, aU, e⟩ | e <;> rw [e] <;> first | rfl | exact bo
 let aB := dM (ji x s) x (I.put (k :: jL) bQ (s x))
 have hY : ∀ y, y ≠ x → (aB y).tree = true → aB y = s y ∧ aC y = aC y := fun y bl bo => by
  have e : aB y = cx x (s y) := jX _ _ bl
  rw [e] at bo ⊢
  exact ⟨(Em bo).2, rfl⟩
 have ni : (aB x).plain = false → (s x).plain = false ∧ ∀ v, eN (s x) v → eN (aB x) v := by
  intro _
  refine ⟨?_, ?_⟩
  ·cases Er : (s x).plain with
   | false => rfl
   | true => rw [I.IA _ _ Er] at ax; cases ax
  ·simp only [aB, mJ]; exact II
 refine ⟨g3 S x (fun c => fl c ∨ Sn c), ?_⟩
 constructor
 case hL => exact h.hL
 case hZ => exact h.hZ
 case ga => exact fun b ad => by rw [eM]; exact h.ga b ad
 case fh =>
  intro u c ad
  rw [eM]
  simp only [g3] at ad
  split at ad
  ·rcases ad with ad | ad
   ·exact h.fh x c (bc c ad)
   ·exact e7 c ad
  ·exact h.fh u c ad
 case gF =>
  intro u c ad
  simp only [g3] at ad
  split at ad
  ·rcases ad with ad | ad
   ·exact h.gF x c (bc c ad)
   ·exact bI c ad
  ·exact h.gF u c ad
 case gq =>
  intro u y c dL ad bl
  simp only [g3] at ad bl
  split at ad
  ·rename_i hu
   rw [if_neg (fun e => dL (hu.trans e.symm))] at bl
   rcases ad with ad | ad
   ·exact h.gq x y c (fun e => dL (hu.trans e)) (bc c ad) bl
   ·exact bZ y c ad bl
  ·rename_i hu
   split at bl
   ·rcases bl with bl | bl
    ·exact h.gq u x c hu ad (bc c bl)
    ·exact bZ u c bl ad
   ·exact h.gq u y c dL ad bl
 case ez =>
  intro u c ad
  simp only [g3] at ad
  split at ad
  ·rcases ad with ad | ad
   ·exact h.ez x c (bc c ad)
   ·exact bf c ad
  ·exact h.ez u c ad
 case eg =>
  intro u
  by_cases hu : u = x
  ·subst hu
   rw [mJ, z1]
   exact (aM.c0 QM).2 ⟨II _ aq.1, kt⟩
  ·rw [jX _ _ hu, z2 _ _ hu]
   have dL : ∀ y c, y ≠ x → S y c → aO.heap[c]? = w.heap[c]? := fun y c bl ax => si c (by rintro rfl; exact h.gq y x c bl ax z7)
   refine (aM.cx hY rfl ni (fun y hg d2 bl i5 Es => ?_) uF _).1 _ _ _ (Nat.le_refl _) (fun c ax => dL u c hu ax) (h.eg u)
   have IJ := h.eg y
   rw [aM.c0 (iX i5 Es)] at IJ
   exact Ei hg _ _ _ none d2 IJ.2 i5 (fun c ax => dL y c bl ax)
 case old =>
  intro c e7 kS
  by_cases z8 : c = b
  ·subst z8
   exfalso
   rcases h.ez x c z7 with kT | kT
   ·exact kS kT
   ·omega
  ·exact (si c z8).trans (h.old c e7 kS)
 case size => rw [eM]; exact h.size
 case os => exact QK.trans h.os
 case tape => exact QL.trans h.tape
 case output => exact wZ.trans h.output
end
end Go.dg
