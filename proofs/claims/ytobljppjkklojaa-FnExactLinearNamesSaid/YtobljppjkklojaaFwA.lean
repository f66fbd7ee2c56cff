/- Part of a proof that a law returns true for every input. No condition. -/
import GoSem.Core.View
import GoSem.Op.String
import GoSem.Core.Code
namespace Go.cM
def cx {α : Type} (xs : List α) (n : Int) : Option α := if 0 ≤ n then xs[n.toNat]? else none
def gU {α : Type} (xs : List α) (a b : Int) : Option (List α) := if 0 ≤ a ∧ a ≤ b ∧ b ≤ xs.length then some ((xs.take b.toNat).drop a.toNat) else none
def room (bytes n : Nat) : Option Unit := if n * bytes ≤ 140737488355328 ∧ n ≤ 9223372036854775807 then some () else none
def mo (n : Nat) : Option Unit := if n ≤ 9223372036854775807 then some () else none
def lQ (bytes : Nat) (n : Int) : Option Unit := if 0 ≤ n ∧ bytes * n ≤ 140737488355328 ∧ n ≤ 9223372036854775807 then some () else none
def mU (n : Int) : UInt8 := UInt8.ofNat (IntKind.u8.wrap n).toNat
def bitsOf (op : BinOp) (k : IntKind) (x y : Int) : Int :=
 match op with
 | .and => k.wrap (BitVec.ofInt k.bits x &&& BitVec.ofInt k.bits y).toNat
 | .or => k.wrap (BitVec.ofInt k.bits x ||| BitVec.ofInt k.bits y).toNat
 | .xor => k.wrap (BitVec.ofInt k.bits x ^^^ BitVec.ofInt k.bits y).toNat
 | _ => k.wrap (BitVec.ofInt k.bits x &&& ~~~(BitVec.ofInt k.bits y)).toNat
theorem aY {α β : Type} {o : Option α} {k : α → Option β} {r : β} (h : o.bind k = some r) : ∃ x, o = some x ∧ k x = some r := Option.bind_eq_some_iff.1 h
theorem bl {β : Type} {b : Bool} {x y : Option β} {r : β} (h : cond b x y = some r) : (b = true ∧ x = some r) ∨ (b = false ∧ y = some r) := by
 cases b
 ·exact .inr ⟨rfl, h⟩
 ·exact .inl ⟨rfl, h⟩
theorem a1 {β : Type} {x r : β} (h : some x = some r) : r = x := (Option.some.inj h).symm
section
open Classical
noncomputable def lim {β : Type} (f : Nat → Option β) : Option β :=
 if h : ∃ x N, ∀ n, N ≤ n → f n = x then h.choose else none
end
theorem h1 {β : Type} {f : Nat → Option β} {x : Option β} (N : Nat) (h : ∀ n, N ≤ n → f n = x) : lim f = x := by
 have hex : ∃ x N, ∀ n, N ≤ n → f n = x := ⟨x, N, h⟩
 unfold lim
 rw [dif_pos hex]
 obtain ⟨M, wI⟩ := hex.choose_spec
 rw [← wI (max M N) (Nat.le_max_left _ _)]
 exact h _ (Nat.le_max_right _ _)
theorem eY {β : Type} {f : Nat → Option β} {r : β} (h : lim f = some r) : ∃ n, f n = some r := by
 unfold lim at h
 split at h
 ·rename_i hex
  obtain ⟨M, wI⟩ := hex.choose_spec
  exact ⟨M, (wI M (Nat.le_refl _)).trans h⟩
 ·cases h
theorem dg {α : Type} {xs : List α} {n : Int} {x : α} (h : cx xs n = some x) : xs[n.toNat]? = some x := by
 unfold cx at h; split at h
 ·exact h
 ·cases h
theorem zP {α β : Type} (e : α → β) (xs : List α) (n : Int) : cx (xs.map e) n = (cx xs n).map e := by
 unfold cx; split
 ·simp
 ·rfl
theorem zQ {α β : Type} (e : α → β) (xs : List α) (a b : Int) : gU (xs.map e) a b = (gU xs a b).map (List.map e) := by
 unfold gU
 simp only [List.length_map]
 split
 ·simp [List.map_drop, List.map_take]
 ·rfl
theorem zR {α : Type} {xs : List α} {n : Int} (bp : 0 ≤ n) (h : n.toNat < xs.length) : cx xs n = some xs[n.toNat] := by
 unfold cx; rw [if_pos bp, List.getElem?_eq_getElem h]
theorem f_ {b : Nat} {n : Int} {u : Unit} (h : lQ b n = some u) : 0 ≤ n ∧ b * n ≤ 140737488355328 ∧ n ≤ 9223372036854775807 := by unfold lQ at h; split at h <;> simp_all
section
open Classical
end
def i7 {α : Type} [DecidableEq α] (p : Option α) : List α → List α
 | [] => []
 | x :: r => if p = some x then i7 (some x) r else x :: i7 (some x) r
def tA (g8 : Bool) (a b : List UInt8) : List UInt8 := if (if g8 then !Op.bytesLess a b else (Op.bytesLess a b || a == b)) = true then a else b
end Go.cM
