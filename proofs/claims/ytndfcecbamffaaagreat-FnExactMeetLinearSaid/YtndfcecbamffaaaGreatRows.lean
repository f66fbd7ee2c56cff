/-
  No cell of these rows narrows 'for every input' (looked for: loops, veiled, ifaces, maps, wideKeys, modest, calm, conditions, laid).
  DERIVED. THE GIVEN ROWS OF THIS SEAT. 3 by the template 'for every input the law returns true; each argument reads behind the call as it read before'; 0 by the template 'total and deterministic' (their statements: YtndfcecbamffaaaGreatTotals.lean).
  GIVEN WITH THE SEED: the statements are not yours to turn. If you find one false, say at which input.
  Laid BY PROGRAM, IN A SANDBOX (cutbox-rows.mjs): the forced cells as the released guide's own fill.sh prints them over the translation db7d8c1c3898f012… (all of the seat's roots in one cut). By AI agents, Wed Nov 11 2026. No macro, syntax, notation, axiom, sorry.
-/
import Derived.Test.YtndfcecbamffaaaGreatChecked
import GoSem.Claim
import GoSem.ClaimJoined
import GoSem.ClaimMapViews
import Derived.JoinedTies
import Derived.KernelRfl
namespace Go.Proofs.YtndfcecbamffaaaGreat
/- THE CELL 'sum', in the pinned program and in every row, IS THE sha256 OF THE DUMP (.gsa) THAT YtndfcecbamffaaaGreatProg.lean LOADS. Nothing in Lean hashes anything: it is a label: what it is worth is what the hold of that sum in a sandbox is worth. -/
noncomputable def Tryz.pinned : Pinned := { name := "ytndfcecbamffaaagreat", sum := "db7d8c1c3898f012a9c6efc902900bcfab1f024a0079cf3e8267c29f68e68843", checked := Tryz.checked }
namespace Rows
def none {H : Type} : Left H := { results := [], args := [] }

/-- 'laws.FnExactRemoveConstants': WHATEVER THE INPUT: true; the input reads as it did. -/
def fnExactRemoveConstantsSpec : ChangeSpec := { name := "fnExactRemoveConstants", fn := fun _ => fun
  | [d] => { results := [.lit (.bool true)], args := [d] }
  | _ => none }
def fnExactRemoveConstantsRow : OpenClaim := { program := "ytndfcecbamffaaagreat", sum := "db7d8c1c3898f012a9c6efc902900bcfab1f024a0079cf3e8267c29f68e68843", func := "loop.example/g01075/laws.FnExactRemoveConstants", spec := "fnExactRemoveConstants", unfollowed := true, recurses := true, apart := false }
def FnExactRemoveConstantsSaid : Prop := fnExactRemoveConstantsRow.holds Tryz.pinned (OpenSpec.ofChange fnExactRemoveConstantsSpec)

/-- ITS FALSE NEIGHBOUR: 'it returns false'. Refute it at one input. -/
def fnExactRemoveConstantsWrong : ChangeSpec := { name := "fnExactRemoveConstants", fn := fun _ => fun
  | [d] => { results := [.lit (.bool false)], args := [d] }
  | _ => none }
def FnExactRemoveConstantsWrongFalsely : Prop := fnExactRemoveConstantsRow.holds Tryz.pinned (OpenSpec.ofChange fnExactRemoveConstantsWrong)

/-- 'laws.FnExactMeetLinear': WHATEVER THE INPUT: true; the input reads as it did. -/
def fnExactMeetLinearSpec : ChangeSpec := { name := "fnExactMeetLinear", fn := fun _ => fun
  | [d1, d2, d3] => { results := [.lit (.bool true)], args := [d1, d2, d3] }
  | _ => none }
def fnExactMeetLinearRow : OpenClaim := { program := "ytndfcecbamffaaagreat", sum := "db7d8c1c3898f012a9c6efc902900bcfab1f024a0079cf3e8267c29f68e68843", func := "loop.example/g01075/laws.FnExactMeetLinear", spec := "fnExactMeetLinear", unfollowed := true, recurses := true, apart := false }
def FnExactMeetLinearSaid : Prop := fnExactMeetLinearRow.holds Tryz.pinned (OpenSpec.ofChange fnExactMeetLinearSpec)

/-- ITS FALSE NEIGHBOUR: 'it returns false'. Refute it at one input. -/
def fnExactMeetLinearWrong : ChangeSpec := { name := "fnExactMeetLinear", fn := fun _ => fun
  | [d1, d2, d3] => { results := [.lit (.bool false)], args := [d1, d2, d3] }
  | _ => none }
def FnExactMeetLinearWrongFalsely : Prop := fnExactMeetLinearRow.holds Tryz.pinned (OpenSpec.ofChange fnExactMeetLinearWrong)

/-- 'laws.FnExactRemoveUnused': WHATEVER THE INPUT: true; the input reads as it did. -/
def fnExactRemoveUnusedSpec : ChangeSpec := { name := "fnExactRemoveUnused", fn := fun _ => fun
  | [d] => { results := [.lit (.bool true)], args := [d] }
  | _ => none }
def fnExactRemoveUnusedRow : OpenClaim := { program := "ytndfcecbamffaaagreat", sum := "db7d8c1c3898f012a9c6efc902900bcfab1f024a0079cf3e8267c29f68e68843", func := "loop.example/g01075/laws.FnExactRemoveUnused", spec := "fnExactRemoveUnused", unfollowed := true, recurses := true, apart := false }
def FnExactRemoveUnusedSaid : Prop := fnExactRemoveUnusedRow.holds Tryz.pinned (OpenSpec.ofChange fnExactRemoveUnusedSpec)

/-- ITS FALSE NEIGHBOUR: 'it returns false'. Refute it at one input. -/
def fnExactRemoveUnusedWrong : ChangeSpec := { name := "fnExactRemoveUnused", fn := fun _ => fun
  | [d] => { results := [.lit (.bool false)], args := [d] }
  | _ => none }
def FnExactRemoveUnusedWrongFalsely : Prop := fnExactRemoveUnusedRow.holds Tryz.pinned (OpenSpec.ofChange fnExactRemoveUnusedWrong)

/- THE SECOND FORM. 'bulk': how many values and letters a reading holds, each counted each time it is reached (what is shared counts as often as it is met; a slice's spare places count too). A statement '..UptoSaid' is the law's where the arguments, and the package variables that the reading takes, are together of bulk at most 1048576: NARROWER than '..Said'. Prove '..Said' where nothing that the law and all that it calls make is longer than what came in: it says more and counts as full. Else prove '..UptoSaid'. A law counts once. -/
mutual
def uptoBulk {H : Type} : DataW H → Nat
  | .lit (.string bytes) => bytes.length + 1
  | .lit _ => 1
  | .nil => 1
  | .ptr d => uptoBulk d + 1
  | .slice elems spare => uptoBulkAll elems + uptoBulkAll spare + 1
  | .agg parts => uptoBulkAll parts + 1
  | .iface _ d => uptoBulk d + 1
  | .map entries => uptoBulkEntries entries + 1
  | .held _ => 1
def uptoBulkAll {H : Type} : List (DataW H) → Nat
  | [] => 0
  | d :: r => uptoBulk d + uptoBulkAll r
def uptoBulkEntries {H : Type} : List (Lit × DataW H) → Nat
  | [] => 0
  | x :: r => uptoBulkEntry x + uptoBulkEntries r
def uptoBulkEntry {H : Type} : Lit × DataW H → Nat
  | (.string bytes, d) => bytes.length + uptoBulk d + 1
  | (_, d) => uptoBulk d + 1
 end
def uptoSmall : (H : Type) → List (DataW H) → Bool := fun _ ds => decide (uptoBulkAll ds ≤ 1048576)
def OpenSpec.upto (s : _root_.Go.ChangeSpec) : _root_.Go.OpenSpec := { _root_.Go.OpenSpec.ofChange s with cond := some uptoSmall }

/-- 'laws.FnExactRemoveConstants', WHERE WHAT IT READS IS OF BULK AT MOST 1048576: true; the input reads as it did. -/
def fnExactRemoveConstantsUptoRow : OpenClaim := { program := "ytndfcecbamffaaagreat", sum := "db7d8c1c3898f012a9c6efc902900bcfab1f024a0079cf3e8267c29f68e68843", func := "loop.example/g01075/laws.FnExactRemoveConstants", spec := "fnExactRemoveConstants", unfollowed := true, recurses := true, apart := false, narrowed := true }
def FnExactRemoveConstantsUptoSaid : Prop := fnExactRemoveConstantsUptoRow.holds Tryz.pinned (OpenSpec.upto fnExactRemoveConstantsSpec)

/-- 'laws.FnExactMeetLinear', WHERE WHAT IT READS IS OF BULK AT MOST 1048576: true; the input reads as it did. -/
def fnExactMeetLinearUptoRow : OpenClaim := { program := "ytndfcecbamffaaagreat", sum := "db7d8c1c3898f012a9c6efc902900bcfab1f024a0079cf3e8267c29f68e68843", func := "loop.example/g01075/laws.FnExactMeetLinear", spec := "fnExactMeetLinear", unfollowed := true, recurses := true, apart := false, narrowed := true }
def FnExactMeetLinearUptoSaid : Prop := fnExactMeetLinearUptoRow.holds Tryz.pinned (OpenSpec.upto fnExactMeetLinearSpec)

/-- 'laws.FnExactRemoveUnused', WHERE WHAT IT READS IS OF BULK AT MOST 1048576: true; the input reads as it did. -/
def fnExactRemoveUnusedUptoRow : OpenClaim := { program := "ytndfcecbamffaaagreat", sum := "db7d8c1c3898f012a9c6efc902900bcfab1f024a0079cf3e8267c29f68e68843", func := "loop.example/g01075/laws.FnExactRemoveUnused", spec := "fnExactRemoveUnused", unfollowed := true, recurses := true, apart := false, narrowed := true }
def FnExactRemoveUnusedUptoSaid : Prop := fnExactRemoveUnusedUptoRow.holds Tryz.pinned (OpenSpec.upto fnExactRemoveUnusedSpec)

end Rows
end Go.Proofs.YtndfcecbamffaaaGreat
