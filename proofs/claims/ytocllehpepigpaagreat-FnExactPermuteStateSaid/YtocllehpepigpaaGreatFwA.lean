/- Part of a proof that a law returns true for every input. No condition. -/
import GoSem.Core.View
import GoSem.Op.String
import GoSem.Core.Code
namespace Go.dg
def bK {α : Type} (xs : List α) (n : Int) : Option α := if 0 ≤ n then xs[n.toNat]? else none
def ka {α : Type} (xs : List α) (a b : Int) : Option (List α) := if 0 ≤ a ∧ a ≤ b ∧ b ≤ xs.length then some ((xs.take b.toNat).drop a.toNat) else none
def room (bytes n : Nat) : Option Unit := if n * bytes ≤ 140737488355328 ∧ n ≤ 9223372036854775807 then some () else none
def pC (n : Nat) : Option Unit := if n ≤ 9223372036854775807 then some () else none
def mf (bytes : Nat) (n : Int) : Option Unit := if 0 ≤ n ∧ bytes * n ≤ 140737488355328 ∧ n ≤ 9223372036854775807 then some () else none
def qe (n : Int) : UInt8 := UInt8.ofNat (IntKind.u8.wrap n).toNat
def bitsOf (op : BinOp) (k : IntKind) (x y : Int) : Int :=
 match op with
 | .and => k.wrap (BitVec.ofInt k.bits x &&& BitVec.ofInt k.bits y).toNat
 | .or => k.wrap (BitVec.ofInt k.bits x ||| BitVec.ofInt k.bits y).toNat
 | .xor => k.wrap (BitVec.ofInt k.bits x ^^^ BitVec.ofInt k.bits y).toNat
 | _ => k.wrap (BitVec.ofInt k.bits x &&& ~~~(BitVec.ofInt k.bits y)).toNat
theorem aF {α β : Type} {o : Option α} {k : α → Option β} {r : β} (h : o.bind k = some r) : ∃ x, o = some x ∧ k x = some r := Option.bind_eq_some_iff.1 h
theorem fm {β : Type} {b : Bool} {x y : Option β} {r : β} (h : cond b x y = some r) : (b = true ∧ x = some r) ∨ (b = false ∧ y = some r) := by
 cases b
 ·exact .inr ⟨rfl, h⟩
 ·exact .inl ⟨rfl, h⟩
theorem jK {β : Type} {x r : β} (h : some x = some r) : r = x := (Option.some.inj h).symm
section
open Classical
noncomputable def lim {β : Type} (f : Nat → Option β) : Option β :=
 if h : ∃ x N, ∀ n, N ≤ n → f n = x then h.choose else none
end
theorem i1 {β : Type} {f : Nat → Option β} {x : Option β} (N : Nat) (h : ∀ n, N ≤ n → f n = x) : lim f = x := by
 have hex : ∃ x N, ∀ n, N ≤ n → f n = x := ⟨x, N, h⟩
 unfold lim
 rw [dif_pos hex]
 obtain ⟨M, D8⟩ := hex.choose_spec
 rw [← D8 (max M N) (Nat.le_max_left _ _)]
 exact h _ (Nat.le_max_right _ _)
theorem dQ {β : Type} {f : Nat → Option β} {r : β} (h : lim f = some r) : ∃ n, f n = some r := by
 unfold lim at h
 split at h
 ·rename_i hex
  obtain ⟨M, D8⟩ := hex.choose_spec
  exact ⟨M, (D8 M (Nat.le_refl _)).trans h⟩
 ·cases h
theorem c3 {α : Type} {xs : List α} {n : Int} {x : α} (h : bK xs n = some x) : xs[n.toNat]? = some x := by
 unfold bK at h; split at h
 ·exact h
 ·cases h
theorem Iy {α β : Type} (e : α → β) (xs : List α) (n : Int) : bK (xs.map e) n = (bK xs n).map e := by
 unfold bK; split
 ·simp
 ·rfl
theorem Iz {α β : Type} (e : α → β) (xs : List α) (a b : Int) : ka (xs.map e) a b = (ka xs a b).map (List.map e) := by
 unfold ka
 simp only [List.length_map]
 split
 ·simp [List.map_drop, List.map_take]
 ·rfl
theorem zW {α : Type} {xs : List α} {n : Int} (bf : 0 ≤ n) (h : n.toNat < xs.length) : bK xs n = some xs[n.toNat] := by
 unfold bK; rw [if_pos bf, List.getElem?_eq_getElem h]
theorem eA {b : Nat} {n : Int} {u : Unit} (h : mf b n = some u) : 0 ≤ n ∧ b * n ≤ 140737488355328 ∧ n ≤ 9223372036854775807 := by unfold mf at h; split at h <;> simp_all
section
open Classical
noncomputable def both {β : Type} (a b : Option β) : Option β := if a = b then a else none
end
theorem QD {β : Type} {a b : Option β} {r : β} (h : both a b = some r) : a = some r ∧ b = some r := by
 unfold both at h
 split at h
 ·rename_i e; exact ⟨h, e ▸ h⟩
 ·cases h
def lC {α : Type} [DecidableEq α] (p : Option α) : List α → List α
 | [] => []
 | x :: r => if p = some x then lC (some x) r else x :: lC (some x) r
def zX (h4 : Bool) (a b : List UInt8) : List UInt8 := if (if h4 then !Op.bytesLess a b else (Op.bytesLess a b || a == b)) = true then a else b
end Go.dg
