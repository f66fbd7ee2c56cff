/- Part of a proof that a law returns true for every input. No condition. -/
import GoSem.Core.View
import GoSem.Op.String
import GoSem.Core.Code
namespace Go.c0
def bH {α : Type} (xs : List α) (n : Int) : Option α := if 0 ≤ n then xs[n.toNat]? else none
def jU {α : Type} (xs : List α) (a b : Int) : Option (List α) := if 0 ≤ a ∧ a ≤ b ∧ b ≤ xs.length then some ((xs.take b.toNat).drop a.toNat) else none
def room (bytes n : Nat) : Option Unit := if n * bytes ≤ 140737488355328 ∧ n ≤ 9223372036854775807 then some () else none
def kE (n : Nat) : Option Unit := if n ≤ 9223372036854775807 then some () else none
def lA (bytes : Nat) (n : Int) : Option Unit := if 0 ≤ n ∧ bytes * n ≤ 140737488355328 ∧ n ≤ 9223372036854775807 then some () else none
def oN (n : Int) : UInt8 := UInt8.ofNat (IntKind.u8.wrap n).toNat
def bitsOf (op : BinOp) (k : IntKind) (x y : Int) : Int :=
 match op with
 | .and => k.wrap (BitVec.ofInt k.bits x &&& BitVec.ofInt k.bits y).toNat
 | .or => k.wrap (BitVec.ofInt k.bits x ||| BitVec.ofInt k.bits y).toNat
 | .xor => k.wrap (BitVec.ofInt k.bits x ^^^ BitVec.ofInt k.bits y).toNat
 | _ => k.wrap (BitVec.ofInt k.bits x &&& ~~~(BitVec.ofInt k.bits y)).toNat
theorem aH {α β : Type} {o : Option α} {k : α → Option β} {r : β} (h : o.bind k = some r) : ∃ x, o = some x ∧ k x = some r := Option.bind_eq_some_iff.1 h
theorem eZ {β : Type} {b : Bool} {x y : Option β} {r : β} (h : cond b x y = some r) : (b = true ∧ x = some r) ∨ (b = false ∧ y = some r) := by
 cases b
 ·exact .inr ⟨rfl, h⟩
 ·exact .inl ⟨rfl, h⟩
theorem Cp {β : Type} {x r : β} (h : some x = some r) : r = x := (Option.some.inj h).symm
section
open Classical
noncomputable def cZ {β : Type} (f : Nat → Option β) : Option β :=
 if h : ∃ x N, ∀ n, N ≤ n → f n = x then h.choose else none
end
theorem iH {β : Type} {f : Nat → Option β} {x : Option β} (N : Nat) (h : ∀ n, N ≤ n → f n = x) : cZ f = x := by
 have hex : ∃ x N, ∀ n, N ≤ n → f n = x := ⟨x, N, h⟩
 unfold cZ
 rw [dif_pos hex]
 obtain ⟨M, Cq⟩ := hex.choose_spec
 rw [← Cq (max M N) (Nat.le_max_left _ _)]
 exact h _ (Nat.le_max_right _ _)
theorem dR {β : Type} {f : Nat → Option β} {r : β} (h : cZ f = some r) : ∃ n, f n = some r := by
 unfold cZ at h
 split at h
 ·rename_i hex
  obtain ⟨M, Cq⟩ := hex.choose_spec
  exact ⟨M, (Cq M (Nat.le_refl _)).trans h⟩
 ·cases h
theorem fR {α : Type} {xs : List α} {n : Int} {x : α} (h : bH xs n = some x) : xs[n.toNat]? = some x := by
 unfold bH at h; split at h
 ·exact h
 ·cases h
theorem GM {α β : Type} (e : α → β) (xs : List α) (n : Int) : bH (xs.map e) n = (bH xs n).map e := by
 unfold bH; split
 ·simp
 ·rfl
theorem GN {α β : Type} (e : α → β) (xs : List α) (a b : Int) : jU (xs.map e) a b = (jU xs a b).map (List.map e) := by
 unfold jU
 simp only [List.length_map]
 split
 ·simp [List.map_drop, List.map_take]
 ·rfl
theorem GO {α : Type} {xs : List α} {n : Int} (bc : 0 ≤ n) (h : n.toNat < xs.length) : bH xs n = some xs[n.toNat] := by
 unfold bH; rw [if_pos bc, List.getElem?_eq_getElem h]
theorem dV {b : Nat} {n : Int} {u : Unit} (h : lA b n = some u) : 0 ≤ n ∧ b * n ≤ 140737488355328 ∧ n ≤ 9223372036854775807 := by unfold lA at h; split at h <;> simp_all
section
open Classical
noncomputable def both {β : Type} (a b : Option β) : Option β := if a = b then a else none
end
def yr (hJ : Bool) (a b : List UInt8) : List UInt8 := if (if hJ then !Op.bytesLess a b else (Op.bytesLess a b || a == b)) = true then a else b
def jF (a : List (List UInt8)) (s : List UInt8) : List UInt8 := s.intercalate a
def l4 (n : Nat) : List UInt8 := if n < 10 then [UInt8.ofNat (48 + n)] else [UInt8.ofNat (48 + n / 10), UInt8.ofNat (48 + n % 10)]
end Go.c0
