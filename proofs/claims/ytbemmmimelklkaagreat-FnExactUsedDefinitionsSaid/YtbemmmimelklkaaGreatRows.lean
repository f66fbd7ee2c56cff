/-
  No cell of these rows narrows 'for every input' (looked for: loops, veiled, ifaces, maps, wideKeys, modest, calm, conditions, laid).
  DERIVED. THE GIVEN ROWS OF THIS SEAT. 4 by the template 'for every input the law returns true; each argument reads behind the call as it read before'; 0 by the template 'total and deterministic' (their statements: YtbemmmimelklkaaGreatTotals.lean).
  GIVEN WITH THE SEED: the statements are not yours to turn. If you find one false, say at which input.
  Laid BY PROGRAM, IN A SANDBOX (cutbox-rows.mjs): the forced cells as the released guide's own fill.sh prints them over the translation 761c0f4b878c69f1… (all of the seat's roots in one cut). By AI agents, Wed Nov 11 2026. No macro, syntax, notation, axiom, sorry.
-/
import Derived.Test.YtbemmmimelklkaaGreatChecked
import GoSem.Claim
import GoSem.ClaimJoined
import GoSem.ClaimMapViews
import Derived.JoinedTies
import Derived.KernelRfl
namespace Go.Proofs.YtbemmmimelklkaaGreat
/- THE CELL 'sum', in the pinned program and in every row, IS THE sha256 OF THE DUMP (.gsa) THAT YtbemmmimelklkaaGreatProg.lean LOADS. Nothing in Lean hashes anything: it is a label: what it is worth is what the hold of that sum in a sandbox is worth. -/
noncomputable def Tryz.pinned : Pinned := { name := "ytbemmmimelklkaagreat", sum := "761c0f4b878c69f1e3c58200cf1e9741a5adcec08a39d7e9563414652eed0327", checked := Tryz.checked }
namespace Rows
def none {H : Type} : Left H := { results := [], args := [] }

/-- 'laws.FnExactPlacesOf': WHATEVER THE INPUT: true; the input reads as it did. -/
def fnExactPlacesOfSpec : ChangeSpec := { name := "fnExactPlacesOf", fn := fun _ => fun
  | [d] => { results := [.lit (.bool true)], args := [d] }
  | _ => none }
def fnExactPlacesOfRow : OpenClaim := { program := "ytbemmmimelklkaagreat", sum := "761c0f4b878c69f1e3c58200cf1e9741a5adcec08a39d7e9563414652eed0327", func := "loop.example/g01075/laws.FnExactPlacesOf", spec := "fnExactPlacesOf", unfollowed := true, recurses := true, apart := false }
def FnExactPlacesOfSaid : Prop := fnExactPlacesOfRow.holds Tryz.pinned (OpenSpec.ofChange fnExactPlacesOfSpec)

/-- ITS FALSE NEIGHBOUR: 'it returns false'. Refute it at one input. -/
def fnExactPlacesOfWrong : ChangeSpec := { name := "fnExactPlacesOf", fn := fun _ => fun
  | [d] => { results := [.lit (.bool false)], args := [d] }
  | _ => none }
def FnExactPlacesOfWrongFalsely : Prop := fnExactPlacesOfRow.holds Tryz.pinned (OpenSpec.ofChange fnExactPlacesOfWrong)

/-- 'laws.FnExactRemoveUnused': WHATEVER THE INPUT: true; the input reads as it did. -/
def fnExactRemoveUnusedSpec : ChangeSpec := { name := "fnExactRemoveUnused", fn := fun _ => fun
  | [d] => { results := [.lit (.bool true)], args := [d] }
  | _ => none }
def fnExactRemoveUnusedRow : OpenClaim := { program := "ytbemmmimelklkaagreat", sum := "761c0f4b878c69f1e3c58200cf1e9741a5adcec08a39d7e9563414652eed0327", func := "loop.example/g01075/laws.FnExactRemoveUnused", spec := "fnExactRemoveUnused", unfollowed := true, recurses := true, apart := false }
def FnExactRemoveUnusedSaid : Prop := fnExactRemoveUnusedRow.holds Tryz.pinned (OpenSpec.ofChange fnExactRemoveUnusedSpec)

/-- ITS FALSE NEIGHBOUR: 'it returns false'. Refute it at one input. -/
def fnExactRemoveUnusedWrong : ChangeSpec := { name := "fnExactRemoveUnused", fn := fun _ => fun
  | [d] => { results := [.lit (.bool false)], args := [d] }
  | _ => none }
def FnExactRemoveUnusedWrongFalsely : Prop := fnExactRemoveUnusedRow.holds Tryz.pinned (OpenSpec.ofChange fnExactRemoveUnusedWrong)

/-- 'laws.FnExactStartState': WHATEVER THE INPUT: true; the input reads as it did. -/
def fnExactStartStateSpec : ChangeSpec := { name := "fnExactStartState", fn := fun _ => fun
  | [d] => { results := [.lit (.bool true)], args := [d] }
  | _ => none }
def fnExactStartStateRow : OpenClaim := { program := "ytbemmmimelklkaagreat", sum := "761c0f4b878c69f1e3c58200cf1e9741a5adcec08a39d7e9563414652eed0327", func := "loop.example/g01075/laws.FnExactStartState", spec := "fnExactStartState", unfollowed := true, recurses := true, apart := false }
def FnExactStartStateSaid : Prop := fnExactStartStateRow.holds Tryz.pinned (OpenSpec.ofChange fnExactStartStateSpec)

/-- ITS FALSE NEIGHBOUR: 'it returns false'. Refute it at one input. -/
def fnExactStartStateWrong : ChangeSpec := { name := "fnExactStartState", fn := fun _ => fun
  | [d] => { results := [.lit (.bool false)], args := [d] }
  | _ => none }
def FnExactStartStateWrongFalsely : Prop := fnExactStartStateRow.holds Tryz.pinned (OpenSpec.ofChange fnExactStartStateWrong)

/-- 'laws.FnExactUsedDefinitions': WHATEVER THE INPUT: true; the input reads as it did. -/
def fnExactUsedDefinitionsSpec : ChangeSpec := { name := "fnExactUsedDefinitions", fn := fun _ => fun
  | [d] => { results := [.lit (.bool true)], args := [d] }
  | _ => none }
def fnExactUsedDefinitionsRow : OpenClaim := { program := "ytbemmmimelklkaagreat", sum := "761c0f4b878c69f1e3c58200cf1e9741a5adcec08a39d7e9563414652eed0327", func := "loop.example/g01075/laws.FnExactUsedDefinitions", spec := "fnExactUsedDefinitions", unfollowed := true, recurses := true, apart := false }
def FnExactUsedDefinitionsSaid : Prop := fnExactUsedDefinitionsRow.holds Tryz.pinned (OpenSpec.ofChange fnExactUsedDefinitionsSpec)

/-- ITS FALSE NEIGHBOUR: 'it returns false'. Refute it at one input. -/
def fnExactUsedDefinitionsWrong : ChangeSpec := { name := "fnExactUsedDefinitions", fn := fun _ => fun
  | [d] => { results := [.lit (.bool false)], args := [d] }
  | _ => none }
def FnExactUsedDefinitionsWrongFalsely : Prop := fnExactUsedDefinitionsRow.holds Tryz.pinned (OpenSpec.ofChange fnExactUsedDefinitionsWrong)

/- THE SECOND FORM. 'bulk': how many values and letters a reading holds, each counted each time it is reached (what is shared counts as often as it is met; a slice's spare places count too). A statement '..UptoSaid' is the law's where the arguments, and the package variables that the reading takes, are together of bulk at most 1048576: NARROWER than '..Said'. Prove '..Said' where nothing that the law and all that it calls make is longer than what came in: it says more and counts as full. Else prove '..UptoSaid'. A law counts once. -/
mutual
def uptoBulk {H : Type} : DataW H → Nat
  | .lit (.string bytes) => bytes.length + 1
  | .lit _ => 1
  | .nil => 1
  | .ptr d => uptoBulk d + 1
  | .slice elems spare => uptoBulkAll elems + uptoBulkAll spare + 1
  | .agg parts => uptoBulkAll parts + 1
  | .iface _ d => uptoBulk d + 1
  | .map entries => uptoBulkEntries entries + 1
  | .held _ => 1
def uptoBulkAll {H : Type} : List (DataW H) → Nat
  | [] => 0
  | d :: r => uptoBulk d + uptoBulkAll r
def uptoBulkEntries {H : Type} : List (Lit × DataW H) → Nat
  | [] => 0
  | x :: r => uptoBulkEntry x + uptoBulkEntries r
def uptoBulkEntry {H : Type} : Lit × DataW H → Nat
  | (.string bytes, d) => bytes.length + uptoBulk d + 1
  | (_, d) => uptoBulk d + 1
 end
def uptoSmall : (H : Type) → List (DataW H) → Bool := fun _ ds => decide (uptoBulkAll ds ≤ 1048576)
def OpenSpec.upto (s : _root_.Go.ChangeSpec) : _root_.Go.OpenSpec := { _root_.Go.OpenSpec.ofChange s with cond := some uptoSmall }

/-- 'laws.FnExactPlacesOf', WHERE WHAT IT READS IS OF BULK AT MOST 1048576: true; the input reads as it did. -/
def fnExactPlacesOfUptoRow : OpenClaim := { program := "ytbemmmimelklkaagreat", sum := "761c0f4b878c69f1e3c58200cf1e9741a5adcec08a39d7e9563414652eed0327", func := "loop.example/g01075/laws.FnExactPlacesOf", spec := "fnExactPlacesOf", unfollowed := true, recurses := true, apart := false, narrowed := true }
def FnExactPlacesOfUptoSaid : Prop := fnExactPlacesOfUptoRow.holds Tryz.pinned (OpenSpec.upto fnExactPlacesOfSpec)

/-- 'laws.FnExactRemoveUnused', WHERE WHAT IT READS IS OF BULK AT MOST 1048576: true; the input reads as it did. -/
def fnExactRemoveUnusedUptoRow : OpenClaim := { program := "ytbemmmimelklkaagreat", sum := "761c0f4b878c69f1e3c58200cf1e9741a5adcec08a39d7e9563414652eed0327", func := "loop.example/g01075/laws.FnExactRemoveUnused", spec := "fnExactRemoveUnused", unfollowed := true, recurses := true, apart := false, narrowed := true }
def FnExactRemoveUnusedUptoSaid : Prop := fnExactRemoveUnusedUptoRow.holds Tryz.pinned (OpenSpec.upto fnExactRemoveUnusedSpec)

/-- 'laws.FnExactStartState', WHERE WHAT IT READS IS OF BULK AT MOST 1048576: true; the input reads as it did. -/
def fnExactStartStateUptoRow : OpenClaim := { program := "ytbemmmimelklkaagreat", sum := "761c0f4b878c69f1e3c58200cf1e9741a5adcec08a39d7e9563414652eed0327", func := "loop.example/g01075/laws.FnExactStartState", spec := "fnExactStartState", unfollowed := true, recurses := true, apart := false, narrowed := true }
def FnExactStartStateUptoSaid : Prop := fnExactStartStateUptoRow.holds Tryz.pinned (OpenSpec.upto fnExactStartStateSpec)

/-- 'laws.FnExactUsedDefinitions', WHERE WHAT IT READS IS OF BULK AT MOST 1048576: true; the input reads as it did. -/
def fnExactUsedDefinitionsUptoRow : OpenClaim := { program := "ytbemmmimelklkaagreat", sum := "761c0f4b878c69f1e3c58200cf1e9741a5adcec08a39d7e9563414652eed0327", func := "loop.example/g01075/laws.FnExactUsedDefinitions", spec := "fnExactUsedDefinitions", unfollowed := true, recurses := true, apart := false, narrowed := true }
def FnExactUsedDefinitionsUptoSaid : Prop := fnExactUsedDefinitionsUptoRow.holds Tryz.pinned (OpenSpec.upto fnExactUsedDefinitionsSpec)

end Rows
end Go.Proofs.YtbemmmimelklkaaGreat
