/- Part of a proof that a law returns true for every input. No condition. -/
import GoSem.Core.View
import GoSem.Op.String
import GoSem.Core.Code
namespace Go.b1
def cJ {α : Type} (xs : List α) (n : Int) : Option α := if 0 ≤ n then xs[n.toNat]? else none
def fM {α : Type} (xs : List α) (a b : Int) : Option (List α) := if 0 ≤ a ∧ a ≤ b ∧ b ≤ xs.length then some ((xs.take b.toNat).drop a.toNat) else none
def room (bytes n : Nat) : Option Unit := if n * bytes ≤ 140737488355328 ∧ n ≤ 9223372036854775807 then some () else none
def fD (n : Nat) : Option Unit := if n ≤ 9223372036854775807 then some () else none
def lZ (bytes : Nat) (n : Int) : Option Unit := if 0 ≤ n ∧ bytes * n ≤ 140737488355328 ∧ n ≤ 9223372036854775807 then some () else none
def cX (n : Int) : UInt8 := UInt8.ofNat (IntKind.u8.wrap n).toNat
def bitsOf (op : BinOp) (k : IntKind) (x y : Int) : Int :=
 match op with
 | .and => k.wrap (BitVec.ofInt k.bits x &&& BitVec.ofInt k.bits y).toNat
 | .or => k.wrap (BitVec.ofInt k.bits x ||| BitVec.ofInt k.bits y).toNat
 | .xor => k.wrap (BitVec.ofInt k.bits x ^^^ BitVec.ofInt k.bits y).toNat
 | _ => k.wrap (BitVec.ofInt k.bits x &&& ~~~(BitVec.ofInt k.bits y)).toNat
theorem ch {α β : Type} {o : Option α} {k : α → Option β} {r : β} (h : o.bind k = some r) : ∃ x, o = some x ∧ k x = some r := Option.bind_eq_some_iff.1 h
theorem jj {β : Type} {b : Bool} {x y : Option β} {r : β} (h : cond b x y = some r) : (b = true ∧ x = some r) ∨ (b = false ∧ y = some r) := by
 cases b
 ·exact .inr ⟨rfl, h⟩
 ·exact .inl ⟨rfl, h⟩
theorem Aw {β : Type} {x r : β} (h : some x = some r) : r = x := (Option.some.inj h).symm
section
open Classical
noncomputable def eR {β : Type} (f : Nat → Option β) : Option β :=
 if h : ∃ x N, ∀ n, N ≤ n → f n = x then h.choose else none
end
theorem kt {β : Type} {f : Nat → Option β} {x : Option β} (N : Nat) (h : ∀ n, N ≤ n → f n = x) : eR f = x := by
 have hex : ∃ x N, ∀ n, N ≤ n → f n = x := ⟨x, N, h⟩
 unfold eR
 rw [dif_pos hex]
 obtain ⟨M, sr⟩ := hex.choose_spec
 rw [← sr (max M N) (Nat.le_max_left _ _)]
 exact h _ (Nat.le_max_right _ _)
theorem h8 {β : Type} {f : Nat → Option β} {r : β} (h : eR f = some r) : ∃ n, f n = some r := by
 unfold eR at h
 split at h
 ·rename_i hex
  obtain ⟨M, sr⟩ := hex.choose_spec
  exact ⟨M, (sr M (Nat.le_refl _)).trans h⟩
 ·cases h
theorem ss {α : Type} {xs : List α} {n : Int} {x : α} (h : cJ xs n = some x) : xs[n.toNat]? = some x := by
 unfold cJ at h; split at h
 ·exact h
 ·cases h
theorem vC {α β : Type} (e : α → β) (xs : List α) (n : Int) : cJ (xs.map e) n = (cJ xs n).map e := by
 unfold cJ; split
 ·simp
 ·rfl
theorem vD {α β : Type} (e : α → β) (xs : List α) (a b : Int) : fM (xs.map e) a b = (fM xs a b).map (List.map e) := by
 unfold fM
 simp only [List.length_map]
 split
 ·simp [List.map_drop, List.map_take]
 ·rfl
theorem qH {α : Type} {xs : List α} {n : Int} (bk : 0 ≤ n) (h : n.toNat < xs.length) : cJ xs n = some xs[n.toNat] := by
 unfold cJ; rw [if_pos bk, List.getElem?_eq_getElem h]
theorem nc {b : Nat} {n : Int} {u : Unit} (h : lZ b n = some u) : 0 ≤ n ∧ b * n ≤ 140737488355328 ∧ n ≤ 9223372036854775807 := by unfold lZ at h; split at h <;> simp_all
section
open Classical
noncomputable def both {β : Type} (a b : Option β) : Option β := if a = b then a else none
end
def qI (e_ : Bool) (a b : List UInt8) : List UInt8 := if (if e_ then !Op.bytesLess a b else (Op.bytesLess a b || a == b)) = true then a else b
end Go.b1
