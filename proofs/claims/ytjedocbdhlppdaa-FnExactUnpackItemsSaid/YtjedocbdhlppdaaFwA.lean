/- Part of a proof that a law returns true for every input. No condition. -/
import GoSem.Core.View
import GoSem.Op.String
import GoSem.Core.Code
namespace Go.b7
def cE {α : Type} (xs : List α) (n : Int) : Option α := if 0 ≤ n then xs[n.toNat]? else none
def eh {α : Type} (xs : List α) (a b : Int) : Option (List α) := if 0 ≤ a ∧ a ≤ b ∧ b ≤ xs.length then some ((xs.take b.toNat).drop a.toNat) else none
def room (bytes n : Nat) : Option Unit := if n * bytes ≤ 140737488355328 ∧ n ≤ 9223372036854775807 then some () else none
def eU (n : Nat) : Option Unit := if n ≤ 9223372036854775807 then some () else none
def wz (bytes : Nat) (n : Int) : Option Unit := if 0 ≤ n ∧ bytes * n ≤ 140737488355328 ∧ n ≤ 9223372036854775807 then some () else none
def c0 (n : Int) : UInt8 := UInt8.ofNat (IntKind.u8.wrap n).toNat
def bitsOf (op : BinOp) (k : IntKind) (x y : Int) : Int :=
 match op with
 | .and => k.wrap (BitVec.ofInt k.bits x &&& BitVec.ofInt k.bits y).toNat
 | .or => k.wrap (BitVec.ofInt k.bits x ||| BitVec.ofInt k.bits y).toNat
 | .xor => k.wrap (BitVec.ofInt k.bits x ^^^ BitVec.ofInt k.bits y).toNat
 | _ => k.wrap (BitVec.ofInt k.bits x &&& ~~~(BitVec.ofInt k.bits y)).toNat
theorem bL {α β : Type} {o : Option α} {k : α → Option β} {r : β} (h : o.bind k = some r) : ∃ x, o = some x ∧ k x = some r := Option.bind_eq_some_iff.1 h
theorem iD {β : Type} {b : Bool} {x y : Option β} {r : β} (h : cond b x y = some r) : (b = true ∧ x = some r) ∨ (b = false ∧ y = some r) := by
 cases b
 ·exact .inr ⟨rfl, h⟩
 ·exact .inl ⟨rfl, h⟩
theorem mO {β : Type} {x r : β} (h : some x = some r) : r = x := (Option.some.inj h).symm
section
open Classical
noncomputable def eo {β : Type} (f : Nat → Option β) : Option β :=
 if h : ∃ x N, ∀ n, N ≤ n → f n = x then h.choose else none
end
theorem i1 {β : Type} {f : Nat → Option β} {x : Option β} (N : Nat) (h : ∀ n, N ≤ n → f n = x) : eo f = x := by
 have hex : ∃ x N, ∀ n, N ≤ n → f n = x := ⟨x, N, h⟩
 unfold eo
 rw [dif_pos hex]
 obtain ⟨M, tf⟩ := hex.choose_spec
 rw [← tf (max M N) (Nat.le_max_left _ _)]
 exact h _ (Nat.le_max_right _ _)
theorem hB {β : Type} {f : Nat → Option β} {r : β} (h : eo f = some r) : ∃ n, f n = some r := by
 unfold eo at h
 split at h
 ·rename_i hex
  obtain ⟨M, tf⟩ := hex.choose_spec
  exact ⟨M, (tf M (Nat.le_refl _)).trans h⟩
 ·cases h
theorem n0 {α : Type} {xs : List α} {n : Int} {x : α} (h : cE xs n = some x) : xs[n.toNat]? = some x := by
 unfold cE at h; split at h
 ·exact h
 ·cases h
theorem wA {α β : Type} (e : α → β) (xs : List α) (n : Int) : cE (xs.map e) n = (cE xs n).map e := by
 unfold cE; split
 ·simp
 ·rfl
theorem wB {α β : Type} (e : α → β) (xs : List α) (a b : Int) : eh (xs.map e) a b = (eh xs a b).map (List.map e) := by
 unfold eh
 simp only [List.length_map]
 split
 ·simp [List.map_drop, List.map_take]
 ·rfl
theorem rq {α : Type} {xs : List α} {n : Int} (bz : 0 ≤ n) (h : n.toNat < xs.length) : cE xs n = some xs[n.toNat] := by
 unfold cE; rw [if_pos bz, List.getElem?_eq_getElem h]
section
open Classical
noncomputable def both {β : Type} (a b : Option β) : Option β := if a = b then a else none
end
def rr (fv : Bool) (a b : List UInt8) : List UInt8 := if (if fv then !Op.bytesLess a b else (Op.bytesLess a b || a == b)) = true then a else b
end Go.b7
