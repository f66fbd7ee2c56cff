/- Part of a proof that a law returns true for every input. No condition. -/
import GoSem.Core.View
import GoSem.Op.String
import GoSem.Core.Code
namespace Go.dg
def bI {α : Type} (xs : List α) (n : Int) : Option α := if 0 ≤ n then xs[n.toNat]? else none
def jx {α : Type} (xs : List α) (a b : Int) : Option (List α) := if 0 ≤ a ∧ a ≤ b ∧ b ≤ xs.length then some ((xs.take b.toNat).drop a.toNat) else none
def room (bytes n : Nat) : Option Unit := if n * bytes ≤ 140737488355328 ∧ n ≤ 9223372036854775807 then some () else none
def oJ (n : Nat) : Option Unit := if n ≤ 9223372036854775807 then some () else none
def mx (bytes : Nat) (n : Int) : Option Unit := if 0 ≤ n ∧ bytes * n ≤ 140737488355328 ∧ n ≤ 9223372036854775807 then some () else none
def pq (n : Int) : UInt8 := UInt8.ofNat (IntKind.u8.wrap n).toNat
def bitsOf (op : BinOp) (k : IntKind) (x y : Int) : Int :=
 match op with
 | .and => k.wrap (BitVec.ofInt k.bits x &&& BitVec.ofInt k.bits y).toNat
 | .or => k.wrap (BitVec.ofInt k.bits x ||| BitVec.ofInt k.bits y).toNat
 | .xor => k.wrap (BitVec.ofInt k.bits x ^^^ BitVec.ofInt k.bits y).toNat
 | _ => k.wrap (BitVec.ofInt k.bits x &&& ~~~(BitVec.ofInt k.bits y)).toNat
theorem aO {α β : Type} {o : Option α} {k : α → Option β} {r : β} (h : o.bind k = some r) : ∃ x, o = some x ∧ k x = some r := Option.bind_eq_some_iff.1 h
theorem aQ {β : Type} {b : Bool} {x y : Option β} {r : β} (h : cond b x y = some r) : (b = true ∧ x = some r) ∨ (b = false ∧ y = some r) := by
 cases b
 ·exact .inr ⟨rfl, h⟩
 ·exact .inl ⟨rfl, h⟩
theorem aH {β : Type} {x r : β} (h : some x = some r) : r = x := (Option.some.inj h).symm
section
open Classical
noncomputable def cO {β : Type} (f : Nat → Option β) : Option β :=
 if h : ∃ x N, ∀ n, N ≤ n → f n = x then h.choose else none
end
theorem ir {β : Type} {f : Nat → Option β} {x : Option β} (N : Nat) (h : ∀ n, N ≤ n → f n = x) : cO f = x := by
 have hex : ∃ x N, ∀ n, N ≤ n → f n = x := ⟨x, N, h⟩
 unfold cO
 rw [dif_pos hex]
 obtain ⟨M, Cy⟩ := hex.choose_spec
 rw [← Cy (max M N) (Nat.le_max_left _ _)]
 exact h _ (Nat.le_max_right _ _)
theorem dH {β : Type} {f : Nat → Option β} {r : β} (h : cO f = some r) : ∃ n, f n = some r := by
 unfold cO at h
 split at h
 ·rename_i hex
  obtain ⟨M, Cy⟩ := hex.choose_spec
  exact ⟨M, (Cy M (Nat.le_refl _)).trans h⟩
 ·cases h
theorem c_ {α : Type} {xs : List α} {n : Int} {x : α} (h : bI xs n = some x) : xs[n.toNat]? = some x := by
 unfold bI at h; split at h
 ·exact h
 ·cases h
theorem Gn {α β : Type} (e : α → β) (xs : List α) (n : Int) : bI (xs.map e) n = (bI xs n).map e := by
 unfold bI; split
 ·simp
 ·rfl
theorem Gp {α β : Type} (e : α → β) (xs : List α) (a b : Int) : jx (xs.map e) a b = (jx xs a b).map (List.map e) := by
 unfold jx
 simp only [List.length_map]
 split
 ·simp [List.map_drop, List.map_take]
 ·rfl
theorem Gq {α : Type} {xs : List α} {n : Int} (ba : 0 ≤ n) (h : n.toNat < xs.length) : bI xs n = some xs[n.toNat] := by
 unfold bI; rw [if_pos ba, List.getElem?_eq_getElem h]
theorem e1 {b : Nat} {n : Int} {u : Unit} (h : mx b n = some u) : 0 ≤ n ∧ b * n ≤ 140737488355328 ∧ n ≤ 9223372036854775807 := by unfold mx at h; split at h <;> simp_all
section
open Classical
end
def yI (hE : Bool) (a b : List UInt8) : List UInt8 := if (if hE then !Op.bytesLess a b else (Op.bytesLess a b || a == b)) = true then a else b
end Go.dg
