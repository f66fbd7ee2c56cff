/- Part of a proof that a law returns true for every input. No condition. -/
import GoSem.Core.View
import GoSem.Op.String
import GoSem.Core.Code
namespace Go.dp
def cw {α : Type} (xs : List α) (n : Int) : Option α := if 0 ≤ n then xs[n.toNat]? else none
def iD {α : Type} (xs : List α) (a b : Int) : Option (List α) := if 0 ≤ a ∧ a ≤ b ∧ b ≤ xs.length then some ((xs.take b.toNat).drop a.toNat) else none
def pb (c : Bool) : Option Unit := if c = true then some () else none
def room (bytes n : Nat) : Option Unit := if n * bytes ≤ 140737488355328 ∧ n ≤ 9223372036854775807 then some () else none
def nR (n : Nat) : Option Unit := if n ≤ 9223372036854775807 then some () else none
def lG (bytes : Nat) (n : Int) : Option Unit := if 0 ≤ n ∧ bytes * n ≤ 140737488355328 ∧ n ≤ 9223372036854775807 then some () else none
def ov (n : Int) : UInt8 := UInt8.ofNat (IntKind.u8.wrap n).toNat
def bitsOf (op : BinOp) (k : IntKind) (x y : Int) : Int :=
 match op with
 | .and => k.wrap (BitVec.ofInt k.bits x &&& BitVec.ofInt k.bits y).toNat
 | .or => k.wrap (BitVec.ofInt k.bits x ||| BitVec.ofInt k.bits y).toNat
 | .xor => k.wrap (BitVec.ofInt k.bits x ^^^ BitVec.ofInt k.bits y).toNat
 | _ => k.wrap (BitVec.ofInt k.bits x &&& ~~~(BitVec.ofInt k.bits y)).toNat
theorem aT {α β : Type} {o : Option α} {k : α → Option β} {r : β} (h : o.bind k = some r) : ∃ x, o = some x ∧ k x = some r := Option.bind_eq_some_iff.1 h
theorem bk {β : Type} {b : Bool} {x y : Option β} {r : β} (h : cond b x y = some r) : (b = true ∧ x = some r) ∨ (b = false ∧ y = some r) := by
 cases b
 ·exact .inr ⟨rfl, h⟩
 ·exact .inl ⟨rfl, h⟩
theorem a4 {β : Type} {x r : β} (h : some x = some r) : r = x := (Option.some.inj h).symm
section
open Classical
noncomputable def cX {β : Type} (f : Nat → Option β) : Option β :=
 if h : ∃ x N, ∀ n, N ≤ n → f n = x then h.choose else none
end
theorem i7 {β : Type} {f : Nat → Option β} {x : Option β} (N : Nat) (h : ∀ n, N ≤ n → f n = x) : cX f = x := by
 have hex : ∃ x N, ∀ n, N ≤ n → f n = x := ⟨x, N, h⟩
 unfold cX
 rw [dif_pos hex]
 obtain ⟨M, zW⟩ := hex.choose_spec
 rw [← zW (max M N) (Nat.le_max_left _ _)]
 exact h _ (Nat.le_max_right _ _)
theorem et {β : Type} {f : Nat → Option β} {r : β} (h : cX f = some r) : ∃ n, f n = some r := by
 unfold cX at h
 split at h
 ·rename_i hex
  obtain ⟨M, zW⟩ := hex.choose_spec
  exact ⟨M, (zW M (Nat.le_refl _)).trans h⟩
 ·cases h
theorem dD {α : Type} {xs : List α} {n : Int} {x : α} (h : cw xs n = some x) : xs[n.toNat]? = some x := by
 unfold cw at h; split at h
 ·exact h
 ·cases h
theorem DD {α β : Type} (e : α → β) (xs : List α) (n : Int) : cw (xs.map e) n = (cw xs n).map e := by
 unfold cw; split
 ·simp
 ·rfl
theorem DE {α β : Type} (e : α → β) (xs : List α) (a b : Int) : iD (xs.map e) a b = (iD xs a b).map (List.map e) := by
 unfold iD
 simp only [List.length_map]
 split
 ·simp [List.map_drop, List.map_take]
 ·rfl
theorem DF {α : Type} {xs : List α} {n : Int} (bM : 0 ≤ n) (h : n.toNat < xs.length) : cw xs n = some xs[n.toNat] := by
 unfold cw; rw [if_pos bM, List.getElem?_eq_getElem h]
theorem gk {b : Nat} {n : Int} {u : Unit} (h : lG b n = some u) : 0 ≤ n ∧ b * n ≤ 140737488355328 ∧ n ≤ 9223372036854775807 := by unfold lG at h; split at h <;> simp_all
section
open Classical
noncomputable def both {β : Type} (a b : Option β) : Option β := if a = b then a else none
end
theorem zX {β : Type} {a b : Option β} {r : β} (h : both a b = some r) : a = some r ∧ b = some r := by
 unfold both at h
 split at h
 ·rename_i e; exact ⟨h, e ▸ h⟩
 ·cases h
def wO (im : Bool) (a b : List UInt8) : List UInt8 := if (if im then !Op.bytesLess a b else (Op.bytesLess a b || a == b)) = true then a else b
end Go.dp
