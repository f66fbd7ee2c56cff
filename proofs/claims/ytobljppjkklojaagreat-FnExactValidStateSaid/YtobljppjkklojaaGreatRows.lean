/-
  No cell of these rows narrows 'for every input' (looked for: loops, veiled, ifaces, maps, wideKeys, modest, calm, conditions, laid).
  DERIVED. THE GIVEN ROWS OF THIS SEAT. 6 by the template 'for every input the law returns true; each argument reads behind the call as it read before'; 0 by the template 'total and deterministic' (their statements: YtobljppjkklojaaGreatTotals.lean).
  GIVEN WITH THE SEED: the statements are not yours to turn. If you find one false, say at which input.
  Laid BY PROGRAM, IN A SANDBOX (cutbox-rows.mjs): the forced cells as the released guide's own fill.sh prints them over the translation ce764b13e9f3cedc… (all of the seat's roots in one cut). By AI agents, Wed Nov 11 2026. No macro, syntax, notation, axiom, sorry.
-/
import Derived.Test.YtobljppjkklojaaGreatChecked
import GoSem.Claim
import GoSem.ClaimJoined
import GoSem.ClaimMapViews
import Derived.JoinedTies
import Derived.KernelRfl
namespace Go.Proofs.YtobljppjkklojaaGreat
/- THE CELL 'sum', in the pinned program and in every row, IS THE sha256 OF THE DUMP (.gsa) THAT YtobljppjkklojaaGreatProg.lean LOADS. Nothing in Lean hashes anything: it is a label: what it is worth is what the hold of that sum in a sandbox is worth. -/
noncomputable def Tryz.pinned : Pinned := { name := "ytobljppjkklojaagreat", sum := "ce764b13e9f3cedca7ee16451f8cae400c3c645e4635f84efdde9561b6a0310f", checked := Tryz.checked }
namespace Rows
def none {H : Type} : Left H := { results := [], args := [] }

/-- 'laws.FnExactRemoveConstants': WHATEVER THE INPUT: true; the input reads as it did. -/
def fnExactRemoveConstantsSpec : ChangeSpec := { name := "fnExactRemoveConstants", fn := fun _ => fun
  | [d] => { results := [.lit (.bool true)], args := [d] }
  | _ => none }
def fnExactRemoveConstantsRow : OpenClaim := { program := "ytobljppjkklojaagreat", sum := "ce764b13e9f3cedca7ee16451f8cae400c3c645e4635f84efdde9561b6a0310f", func := "loop.example/g01075/laws.FnExactRemoveConstants", spec := "fnExactRemoveConstants", unfollowed := true, recurses := true, apart := false }
def FnExactRemoveConstantsSaid : Prop := fnExactRemoveConstantsRow.holds Tryz.pinned (OpenSpec.ofChange fnExactRemoveConstantsSpec)

/-- ITS FALSE NEIGHBOUR: 'it returns false'. Refute it at one input. -/
def fnExactRemoveConstantsWrong : ChangeSpec := { name := "fnExactRemoveConstants", fn := fun _ => fun
  | [d] => { results := [.lit (.bool false)], args := [d] }
  | _ => none }
def FnExactRemoveConstantsWrongFalsely : Prop := fnExactRemoveConstantsRow.holds Tryz.pinned (OpenSpec.ofChange fnExactRemoveConstantsWrong)

/-- 'laws.FnExactSystemFault': WHATEVER THE INPUT: true; the input reads as it did. -/
def fnExactSystemFaultSpec : ChangeSpec := { name := "fnExactSystemFault", fn := fun _ => fun
  | [d] => { results := [.lit (.bool true)], args := [d] }
  | _ => none }
def fnExactSystemFaultRow : OpenClaim := { program := "ytobljppjkklojaagreat", sum := "ce764b13e9f3cedca7ee16451f8cae400c3c645e4635f84efdde9561b6a0310f", func := "loop.example/g01075/laws.FnExactSystemFault", spec := "fnExactSystemFault", unfollowed := true, recurses := true, apart := false }
def FnExactSystemFaultSaid : Prop := fnExactSystemFaultRow.holds Tryz.pinned (OpenSpec.ofChange fnExactSystemFaultSpec)

/-- ITS FALSE NEIGHBOUR: 'it returns false'. Refute it at one input. -/
def fnExactSystemFaultWrong : ChangeSpec := { name := "fnExactSystemFault", fn := fun _ => fun
  | [d] => { results := [.lit (.bool false)], args := [d] }
  | _ => none }
def FnExactSystemFaultWrongFalsely : Prop := fnExactSystemFaultRow.holds Tryz.pinned (OpenSpec.ofChange fnExactSystemFaultWrong)

/-- 'laws.FnExactValidSystem': WHATEVER THE INPUT: true; the input reads as it did. -/
def fnExactValidSystemSpec : ChangeSpec := { name := "fnExactValidSystem", fn := fun _ => fun
  | [d] => { results := [.lit (.bool true)], args := [d] }
  | _ => none }
def fnExactValidSystemRow : OpenClaim := { program := "ytobljppjkklojaagreat", sum := "ce764b13e9f3cedca7ee16451f8cae400c3c645e4635f84efdde9561b6a0310f", func := "loop.example/g01075/laws.FnExactValidSystem", spec := "fnExactValidSystem", unfollowed := true, recurses := true, apart := false }
def FnExactValidSystemSaid : Prop := fnExactValidSystemRow.holds Tryz.pinned (OpenSpec.ofChange fnExactValidSystemSpec)

/-- ITS FALSE NEIGHBOUR: 'it returns false'. Refute it at one input. -/
def fnExactValidSystemWrong : ChangeSpec := { name := "fnExactValidSystem", fn := fun _ => fun
  | [d] => { results := [.lit (.bool false)], args := [d] }
  | _ => none }
def FnExactValidSystemWrongFalsely : Prop := fnExactValidSystemRow.holds Tryz.pinned (OpenSpec.ofChange fnExactValidSystemWrong)

/-- 'laws.FnExactMeetLinear': WHATEVER THE INPUT: true; the input reads as it did. -/
def fnExactMeetLinearSpec : ChangeSpec := { name := "fnExactMeetLinear", fn := fun _ => fun
  | [d1, d2, d3] => { results := [.lit (.bool true)], args := [d1, d2, d3] }
  | _ => none }
def fnExactMeetLinearRow : OpenClaim := { program := "ytobljppjkklojaagreat", sum := "ce764b13e9f3cedca7ee16451f8cae400c3c645e4635f84efdde9561b6a0310f", func := "loop.example/g01075/laws.FnExactMeetLinear", spec := "fnExactMeetLinear", unfollowed := true, recurses := true, apart := false }
def FnExactMeetLinearSaid : Prop := fnExactMeetLinearRow.holds Tryz.pinned (OpenSpec.ofChange fnExactMeetLinearSpec)

/-- ITS FALSE NEIGHBOUR: 'it returns false'. Refute it at one input. -/
def fnExactMeetLinearWrong : ChangeSpec := { name := "fnExactMeetLinear", fn := fun _ => fun
  | [d1, d2, d3] => { results := [.lit (.bool false)], args := [d1, d2, d3] }
  | _ => none }
def FnExactMeetLinearWrongFalsely : Prop := fnExactMeetLinearRow.holds Tryz.pinned (OpenSpec.ofChange fnExactMeetLinearWrong)

/-- 'laws.FnExactMeetingOf': WHATEVER THE INPUT: true; the input reads as it did. -/
def fnExactMeetingOfSpec : ChangeSpec := { name := "fnExactMeetingOf", fn := fun _ => fun
  | [d1, d2, d3] => { results := [.lit (.bool true)], args := [d1, d2, d3] }
  | _ => none }
def fnExactMeetingOfRow : OpenClaim := { program := "ytobljppjkklojaagreat", sum := "ce764b13e9f3cedca7ee16451f8cae400c3c645e4635f84efdde9561b6a0310f", func := "loop.example/g01075/laws.FnExactMeetingOf", spec := "fnExactMeetingOf", unfollowed := true, recurses := true, apart := false }
def FnExactMeetingOfSaid : Prop := fnExactMeetingOfRow.holds Tryz.pinned (OpenSpec.ofChange fnExactMeetingOfSpec)

/-- ITS FALSE NEIGHBOUR: 'it returns false'. Refute it at one input. -/
def fnExactMeetingOfWrong : ChangeSpec := { name := "fnExactMeetingOf", fn := fun _ => fun
  | [d1, d2, d3] => { results := [.lit (.bool false)], args := [d1, d2, d3] }
  | _ => none }
def FnExactMeetingOfWrongFalsely : Prop := fnExactMeetingOfRow.holds Tryz.pinned (OpenSpec.ofChange fnExactMeetingOfWrong)

/-- 'laws.FnExactValidState': WHATEVER THE INPUT: true; the input reads as it did. -/
def fnExactValidStateSpec : ChangeSpec := { name := "fnExactValidState", fn := fun _ => fun
  | [d1, d2] => { results := [.lit (.bool true)], args := [d1, d2] }
  | _ => none }
def fnExactValidStateRow : OpenClaim := { program := "ytobljppjkklojaagreat", sum := "ce764b13e9f3cedca7ee16451f8cae400c3c645e4635f84efdde9561b6a0310f", func := "loop.example/g01075/laws.FnExactValidState", spec := "fnExactValidState", unfollowed := true, recurses := true, apart := false }
def FnExactValidStateSaid : Prop := fnExactValidStateRow.holds Tryz.pinned (OpenSpec.ofChange fnExactValidStateSpec)

/-- ITS FALSE NEIGHBOUR: 'it returns false'. Refute it at one input. -/
def fnExactValidStateWrong : ChangeSpec := { name := "fnExactValidState", fn := fun _ => fun
  | [d1, d2] => { results := [.lit (.bool false)], args := [d1, d2] }
  | _ => none }
def FnExactValidStateWrongFalsely : Prop := fnExactValidStateRow.holds Tryz.pinned (OpenSpec.ofChange fnExactValidStateWrong)

/- THE SECOND FORM. 'bulk': how many values and letters a reading holds, each counted each time it is reached (what is shared counts as often as it is met; a slice's spare places count too). A statement '..UptoSaid' is the law's where the arguments, and the package variables that the reading takes, are together of bulk at most 1048576: NARROWER than '..Said'. Prove '..Said' where nothing that the law and all that it calls make is longer than what came in: it says more and counts as full. Else prove '..UptoSaid'. A law counts once. -/
mutual
def uptoBulk {H : Type} : DataW H → Nat
  | .lit (.string bytes) => bytes.length + 1
  | .lit _ => 1
  | .nil => 1
  | .ptr d => uptoBulk d + 1
  | .slice elems spare => uptoBulkAll elems + uptoBulkAll spare + 1
  | .agg parts => uptoBulkAll parts + 1
  | .iface _ d => uptoBulk d + 1
  | .map entries => uptoBulkEntries entries + 1
  | .held _ => 1
def uptoBulkAll {H : Type} : List (DataW H) → Nat
  | [] => 0
  | d :: r => uptoBulk d + uptoBulkAll r
def uptoBulkEntries {H : Type} : List (Lit × DataW H) → Nat
  | [] => 0
  | x :: r => uptoBulkEntry x + uptoBulkEntries r
def uptoBulkEntry {H : Type} : Lit × DataW H → Nat
  | (.string bytes, d) => bytes.length + uptoBulk d + 1
  | (_, d) => uptoBulk d + 1
 end
def uptoSmall : (H : Type) → List (DataW H) → Bool := fun _ ds => decide (uptoBulkAll ds ≤ 1048576)
def OpenSpec.upto (s : _root_.Go.ChangeSpec) : _root_.Go.OpenSpec := { _root_.Go.OpenSpec.ofChange s with cond := some uptoSmall }

/-- 'laws.FnExactRemoveConstants', WHERE WHAT IT READS IS OF BULK AT MOST 1048576: true; the input reads as it did. -/
def fnExactRemoveConstantsUptoRow : OpenClaim := { program := "ytobljppjkklojaagreat", sum := "ce764b13e9f3cedca7ee16451f8cae400c3c645e4635f84efdde9561b6a0310f", func := "loop.example/g01075/laws.FnExactRemoveConstants", spec := "fnExactRemoveConstants", unfollowed := true, recurses := true, apart := false, narrowed := true }
def FnExactRemoveConstantsUptoSaid : Prop := fnExactRemoveConstantsUptoRow.holds Tryz.pinned (OpenSpec.upto fnExactRemoveConstantsSpec)

/-- 'laws.FnExactSystemFault', WHERE WHAT IT READS IS OF BULK AT MOST 1048576: true; the input reads as it did. -/
def fnExactSystemFaultUptoRow : OpenClaim := { program := "ytobljppjkklojaagreat", sum := "ce764b13e9f3cedca7ee16451f8cae400c3c645e4635f84efdde9561b6a0310f", func := "loop.example/g01075/laws.FnExactSystemFault", spec := "fnExactSystemFault", unfollowed := true, recurses := true, apart := false, narrowed := true }
def FnExactSystemFaultUptoSaid : Prop := fnExactSystemFaultUptoRow.holds Tryz.pinned (OpenSpec.upto fnExactSystemFaultSpec)

/-- 'laws.FnExactValidSystem', WHERE WHAT IT READS IS OF BULK AT MOST 1048576: true; the input reads as it did. -/
def fnExactValidSystemUptoRow : OpenClaim := { program := "ytobljppjkklojaagreat", sum := "ce764b13e9f3cedca7ee16451f8cae400c3c645e4635f84efdde9561b6a0310f", func := "loop.example/g01075/laws.FnExactValidSystem", spec := "fnExactValidSystem", unfollowed := true, recurses := true, apart := false, narrowed := true }
def FnExactValidSystemUptoSaid : Prop := fnExactValidSystemUptoRow.holds Tryz.pinned (OpenSpec.upto fnExactValidSystemSpec)

/-- 'laws.FnExactMeetLinear', WHERE WHAT IT READS IS OF BULK AT MOST 1048576: true; the input reads as it did. -/
def fnExactMeetLinearUptoRow : OpenClaim := { program := "ytobljppjkklojaagreat", sum := "ce764b13e9f3cedca7ee16451f8cae400c3c645e4635f84efdde9561b6a0310f", func := "loop.example/g01075/laws.FnExactMeetLinear", spec := "fnExactMeetLinear", unfollowed := true, recurses := true, apart := false, narrowed := true }
def FnExactMeetLinearUptoSaid : Prop := fnExactMeetLinearUptoRow.holds Tryz.pinned (OpenSpec.upto fnExactMeetLinearSpec)

/-- 'laws.FnExactMeetingOf', WHERE WHAT IT READS IS OF BULK AT MOST 1048576: true; the input reads as it did. -/
def fnExactMeetingOfUptoRow : OpenClaim := { program := "ytobljppjkklojaagreat", sum := "ce764b13e9f3cedca7ee16451f8cae400c3c645e4635f84efdde9561b6a0310f", func := "loop.example/g01075/laws.FnExactMeetingOf", spec := "fnExactMeetingOf", unfollowed := true, recurses := true, apart := false, narrowed := true }
def FnExactMeetingOfUptoSaid : Prop := fnExactMeetingOfUptoRow.holds Tryz.pinned (OpenSpec.upto fnExactMeetingOfSpec)

/-- 'laws.FnExactValidState', WHERE WHAT IT READS IS OF BULK AT MOST 1048576: true; the input reads as it did. -/
def fnExactValidStateUptoRow : OpenClaim := { program := "ytobljppjkklojaagreat", sum := "ce764b13e9f3cedca7ee16451f8cae400c3c645e4635f84efdde9561b6a0310f", func := "loop.example/g01075/laws.FnExactValidState", spec := "fnExactValidState", unfollowed := true, recurses := true, apart := false, narrowed := true }
def FnExactValidStateUptoSaid : Prop := fnExactValidStateUptoRow.holds Tryz.pinned (OpenSpec.upto fnExactValidStateSpec)

end Rows
end Go.Proofs.YtobljppjkklojaaGreat
