/-
  No cell of these rows narrows 'for every input' (looked for: loops, veiled, ifaces, maps, wideKeys, modest, calm, conditions, laid).
  DERIVED. THE GIVEN ROWS OF THIS SEAT. 18 by the template 'for every input the law returns true; each argument reads behind the call as it read before'; 0 by the template 'total and deterministic' (their statements: YtobljppjkklojaaTotals.lean).
  GIVEN WITH THE SEED: the statements are not yours to turn. If you find one false, say at which input.
  Laid BY PROGRAM, IN A SANDBOX (cutbox-rows.mjs): the forced cells as the released guide's own fill.sh prints them over the translation 4717fe30ff784c75… (all of the seat's roots in one cut). By AI agents, Wed Nov 11 2026. No macro, syntax, notation, axiom, sorry.
-/
import Derived.Test.YtobljppjkklojaaChecked
import GoSem.Claim
import GoSem.ClaimJoined
import GoSem.ClaimMapViews
import Derived.JoinedTies
import Derived.KernelRfl
namespace Go.Proofs.Ytobljppjkklojaa
/- THE CELL 'sum', in the pinned program and in every row, IS THE sha256 OF THE DUMP (.gsa) THAT YtobljppjkklojaaProg.lean LOADS. Nothing in Lean hashes anything: it is a label: what it is worth is what the hold of that sum in a sandbox is worth. -/
noncomputable def Try.pinned : Pinned := { name := "ytobljppjkklojaa", sum := "4717fe30ff784c75b885a137506810a4d925d416dbbfd9354cb087f1c02fed1d", checked := Try.checked }
namespace Rows
def none {H : Type} : Left H := { results := [], args := [] }

/-- 'laws.FnExactPackItems': WHATEVER THE INPUT: true; the input reads as it did. -/
def fnExactPackItemsSpec : ChangeSpec := { name := "fnExactPackItems", fn := fun _ => fun
  | [d] => { results := [.lit (.bool true)], args := [d] }
  | _ => none }
def fnExactPackItemsRow : OpenClaim := { program := "ytobljppjkklojaa", sum := "4717fe30ff784c75b885a137506810a4d925d416dbbfd9354cb087f1c02fed1d", func := "loop.example/g01075/laws.FnExactPackItems", spec := "fnExactPackItems", inPlace := ["internal/abi.NoEscape"], apart := false }
def FnExactPackItemsSaid : Prop := fnExactPackItemsRow.holds Try.pinned (OpenSpec.ofChange fnExactPackItemsSpec)

/-- ITS FALSE NEIGHBOUR: 'it returns false'. Refute it at one input. -/
def fnExactPackItemsWrong : ChangeSpec := { name := "fnExactPackItems", fn := fun _ => fun
  | [d] => { results := [.lit (.bool false)], args := [d] }
  | _ => none }
def FnExactPackItemsWrongFalsely : Prop := fnExactPackItemsRow.holds Try.pinned (OpenSpec.ofChange fnExactPackItemsWrong)

/-- 'laws.FnExactEncodeEquations': WHATEVER THE INPUT: true; the input reads as it did. -/
def fnExactEncodeEquationsSpec : ChangeSpec := { name := "fnExactEncodeEquations", fn := fun _ => fun
  | [d] => { results := [.lit (.bool true)], args := [d] }
  | _ => none }
def fnExactEncodeEquationsRow : OpenClaim := { program := "ytobljppjkklojaa", sum := "4717fe30ff784c75b885a137506810a4d925d416dbbfd9354cb087f1c02fed1d", func := "loop.example/g01075/laws.FnExactEncodeEquations", spec := "fnExactEncodeEquations", unfollowed := true, recurses := true, apart := false }
def FnExactEncodeEquationsSaid : Prop := fnExactEncodeEquationsRow.holds Try.pinned (OpenSpec.ofChange fnExactEncodeEquationsSpec)

/-- ITS FALSE NEIGHBOUR: 'it returns false'. Refute it at one input. -/
def fnExactEncodeEquationsWrong : ChangeSpec := { name := "fnExactEncodeEquations", fn := fun _ => fun
  | [d] => { results := [.lit (.bool false)], args := [d] }
  | _ => none }
def FnExactEncodeEquationsWrongFalsely : Prop := fnExactEncodeEquationsRow.holds Try.pinned (OpenSpec.ofChange fnExactEncodeEquationsWrong)

/-- 'laws.FnExactConstantOf': WHATEVER THE INPUT: true; the input reads as it did. -/
def fnExactConstantOfSpec : ChangeSpec := { name := "fnExactConstantOf", fn := fun _ => fun
  | [d] => { results := [.lit (.bool true)], args := [d] }
  | _ => none }
def fnExactConstantOfRow : OpenClaim := { program := "ytobljppjkklojaa", sum := "4717fe30ff784c75b885a137506810a4d925d416dbbfd9354cb087f1c02fed1d", func := "loop.example/g01075/laws.FnExactConstantOf", spec := "fnExactConstantOf", recurses := true, apart := false }
def FnExactConstantOfSaid : Prop := fnExactConstantOfRow.holds Try.pinned (OpenSpec.ofChange fnExactConstantOfSpec)

/-- ITS FALSE NEIGHBOUR: 'it returns false'. Refute it at one input. -/
def fnExactConstantOfWrong : ChangeSpec := { name := "fnExactConstantOf", fn := fun _ => fun
  | [d] => { results := [.lit (.bool false)], args := [d] }
  | _ => none }
def FnExactConstantOfWrongFalsely : Prop := fnExactConstantOfRow.holds Try.pinned (OpenSpec.ofChange fnExactConstantOfWrong)

/-- 'laws.FnExactUnpackItems': WHATEVER THE INPUT: true; the input reads as it did. -/
def fnExactUnpackItemsSpec : ChangeSpec := { name := "fnExactUnpackItems", fn := fun _ => fun
  | [d] => { results := [.lit (.bool true)], args := [d] }
  | _ => none }
def fnExactUnpackItemsRow : OpenClaim := { program := "ytobljppjkklojaa", sum := "4717fe30ff784c75b885a137506810a4d925d416dbbfd9354cb087f1c02fed1d", func := "loop.example/g01075/laws.FnExactUnpackItems", spec := "fnExactUnpackItems", inPlace := ["internal/abi.NoEscape"], apart := false }
def FnExactUnpackItemsSaid : Prop := fnExactUnpackItemsRow.holds Try.pinned (OpenSpec.ofChange fnExactUnpackItemsSpec)

/-- ITS FALSE NEIGHBOUR: 'it returns false'. Refute it at one input. -/
def fnExactUnpackItemsWrong : ChangeSpec := { name := "fnExactUnpackItems", fn := fun _ => fun
  | [d] => { results := [.lit (.bool false)], args := [d] }
  | _ => none }
def FnExactUnpackItemsWrongFalsely : Prop := fnExactUnpackItemsRow.holds Try.pinned (OpenSpec.ofChange fnExactUnpackItemsWrong)

/-- 'laws.FnExactSalvageItems': WHATEVER THE INPUT: true; the input reads as it did. -/
def fnExactSalvageItemsSpec : ChangeSpec := { name := "fnExactSalvageItems", fn := fun _ => fun
  | [d] => { results := [.lit (.bool true)], args := [d] }
  | _ => none }
def fnExactSalvageItemsRow : OpenClaim := { program := "ytobljppjkklojaa", sum := "4717fe30ff784c75b885a137506810a4d925d416dbbfd9354cb087f1c02fed1d", func := "loop.example/g01075/laws.FnExactSalvageItems", spec := "fnExactSalvageItems", inPlace := ["internal/bytealg.abigen_runtime_cmpstring", "slices.overlaps[loop.example/g01075/impl.Item]"], unfollowed := true, recurses := true, apart := false }
def FnExactSalvageItemsSaid : Prop := fnExactSalvageItemsRow.holds Try.pinned (OpenSpec.ofChange fnExactSalvageItemsSpec)

/-- ITS FALSE NEIGHBOUR: 'it returns false'. Refute it at one input. -/
def fnExactSalvageItemsWrong : ChangeSpec := { name := "fnExactSalvageItems", fn := fun _ => fun
  | [d] => { results := [.lit (.bool false)], args := [d] }
  | _ => none }
def FnExactSalvageItemsWrongFalsely : Prop := fnExactSalvageItemsRow.holds Try.pinned (OpenSpec.ofChange fnExactSalvageItemsWrong)

/-- 'laws.FnExactDecodeEquations': WHATEVER THE INPUT: true; the input reads as it did. -/
def fnExactDecodeEquationsSpec : ChangeSpec := { name := "fnExactDecodeEquations", fn := fun _ => fun
  | [d] => { results := [.lit (.bool true)], args := [d] }
  | _ => none }
def fnExactDecodeEquationsRow : OpenClaim := { program := "ytobljppjkklojaa", sum := "4717fe30ff784c75b885a137506810a4d925d416dbbfd9354cb087f1c02fed1d", func := "loop.example/g01075/laws.FnExactDecodeEquations", spec := "fnExactDecodeEquations", unfollowed := true, recurses := true, apart := false }
def FnExactDecodeEquationsSaid : Prop := fnExactDecodeEquationsRow.holds Try.pinned (OpenSpec.ofChange fnExactDecodeEquationsSpec)

/-- ITS FALSE NEIGHBOUR: 'it returns false'. Refute it at one input. -/
def fnExactDecodeEquationsWrong : ChangeSpec := { name := "fnExactDecodeEquations", fn := fun _ => fun
  | [d] => { results := [.lit (.bool false)], args := [d] }
  | _ => none }
def FnExactDecodeEquationsWrongFalsely : Prop := fnExactDecodeEquationsRow.holds Try.pinned (OpenSpec.ofChange fnExactDecodeEquationsWrong)

/-- 'laws.FnExactPutItem': WHATEVER THE INPUT: true; the input reads as it did. -/
def fnExactPutItemSpec : ChangeSpec := { name := "fnExactPutItem", fn := fun _ => fun
  | [d1, d2] => { results := [.lit (.bool true)], args := [d1, d2] }
  | _ => none }
def fnExactPutItemRow : OpenClaim := { program := "ytobljppjkklojaa", sum := "4717fe30ff784c75b885a137506810a4d925d416dbbfd9354cb087f1c02fed1d", func := "loop.example/g01075/laws.FnExactPutItem", spec := "fnExactPutItem", inPlace := ["internal/bytealg.abigen_runtime_cmpstring", "slices.overlaps[loop.example/g01075/impl.Item]"], unfollowed := true, recurses := true, apart := false }
def FnExactPutItemSaid : Prop := fnExactPutItemRow.holds Try.pinned (OpenSpec.ofChange fnExactPutItemSpec)

/-- ITS FALSE NEIGHBOUR: 'it returns false'. Refute it at one input. -/
def fnExactPutItemWrong : ChangeSpec := { name := "fnExactPutItem", fn := fun _ => fun
  | [d1, d2] => { results := [.lit (.bool false)], args := [d1, d2] }
  | _ => none }
def FnExactPutItemWrongFalsely : Prop := fnExactPutItemRow.holds Try.pinned (OpenSpec.ofChange fnExactPutItemWrong)

/-- 'laws.FnExactBodyFault': WHATEVER THE INPUT: true; the input reads as it did. -/
def fnExactBodyFaultSpec : ChangeSpec := { name := "fnExactBodyFault", fn := fun _ => fun
  | [d1, d2] => { results := [.lit (.bool true)], args := [d1, d2] }
  | _ => none }
def fnExactBodyFaultRow : OpenClaim := { program := "ytobljppjkklojaa", sum := "4717fe30ff784c75b885a137506810a4d925d416dbbfd9354cb087f1c02fed1d", func := "loop.example/g01075/laws.FnExactBodyFault", spec := "fnExactBodyFault", unfollowed := true, recurses := true, apart := false }
def FnExactBodyFaultSaid : Prop := fnExactBodyFaultRow.holds Try.pinned (OpenSpec.ofChange fnExactBodyFaultSpec)

/-- ITS FALSE NEIGHBOUR: 'it returns false'. Refute it at one input. -/
def fnExactBodyFaultWrong : ChangeSpec := { name := "fnExactBodyFault", fn := fun _ => fun
  | [d1, d2] => { results := [.lit (.bool false)], args := [d1, d2] }
  | _ => none }
def FnExactBodyFaultWrongFalsely : Prop := fnExactBodyFaultRow.holds Try.pinned (OpenSpec.ofChange fnExactBodyFaultWrong)

/-- 'laws.FnExactValidDefinitions': WHATEVER THE INPUT: true; the input reads as it did. -/
def fnExactValidDefinitionsSpec : ChangeSpec := { name := "fnExactValidDefinitions", fn := fun _ => fun
  | [d] => { results := [.lit (.bool true)], args := [d] }
  | _ => none }
def fnExactValidDefinitionsRow : OpenClaim := { program := "ytobljppjkklojaa", sum := "4717fe30ff784c75b885a137506810a4d925d416dbbfd9354cb087f1c02fed1d", func := "loop.example/g01075/laws.FnExactValidDefinitions", spec := "fnExactValidDefinitions", unfollowed := true, recurses := true, apart := false }
def FnExactValidDefinitionsSaid : Prop := fnExactValidDefinitionsRow.holds Try.pinned (OpenSpec.ofChange fnExactValidDefinitionsSpec)

/-- ITS FALSE NEIGHBOUR: 'it returns false'. Refute it at one input. -/
def fnExactValidDefinitionsWrong : ChangeSpec := { name := "fnExactValidDefinitions", fn := fun _ => fun
  | [d] => { results := [.lit (.bool false)], args := [d] }
  | _ => none }
def FnExactValidDefinitionsWrongFalsely : Prop := fnExactValidDefinitionsRow.holds Try.pinned (OpenSpec.ofChange fnExactValidDefinitionsWrong)

/-- 'laws.FnExactVariablesOf': WHATEVER THE INPUT: true; the input reads as it did. -/
def fnExactVariablesOfSpec : ChangeSpec := { name := "fnExactVariablesOf", fn := fun _ => fun
  | [d] => { results := [.lit (.bool true)], args := [d] }
  | _ => none }
def fnExactVariablesOfRow : OpenClaim := { program := "ytobljppjkklojaa", sum := "4717fe30ff784c75b885a137506810a4d925d416dbbfd9354cb087f1c02fed1d", func := "loop.example/g01075/laws.FnExactVariablesOf", spec := "fnExactVariablesOf", recurses := true, apart := false }
def FnExactVariablesOfSaid : Prop := fnExactVariablesOfRow.holds Try.pinned (OpenSpec.ofChange fnExactVariablesOfSpec)

/-- ITS FALSE NEIGHBOUR: 'it returns false'. Refute it at one input. -/
def fnExactVariablesOfWrong : ChangeSpec := { name := "fnExactVariablesOf", fn := fun _ => fun
  | [d] => { results := [.lit (.bool false)], args := [d] }
  | _ => none }
def FnExactVariablesOfWrongFalsely : Prop := fnExactVariablesOfRow.holds Try.pinned (OpenSpec.ofChange fnExactVariablesOfWrong)

/-- 'laws.FnExactPartEnd': WHATEVER THE INPUT: true; the input reads as it did. -/
def fnExactPartEndSpec : ChangeSpec := { name := "fnExactPartEnd", fn := fun _ => fun
  | [d1, d2, d3] => { results := [.lit (.bool true)], args := [d1, d2, d3] }
  | _ => none }
def fnExactPartEndRow : OpenClaim := { program := "ytobljppjkklojaa", sum := "4717fe30ff784c75b885a137506810a4d925d416dbbfd9354cb087f1c02fed1d", func := "loop.example/g01075/laws.FnExactPartEnd", spec := "fnExactPartEnd", unfollowed := true, recurses := true, apart := false }
def FnExactPartEndSaid : Prop := fnExactPartEndRow.holds Try.pinned (OpenSpec.ofChange fnExactPartEndSpec)

/-- ITS FALSE NEIGHBOUR: 'it returns false'. Refute it at one input. -/
def fnExactPartEndWrong : ChangeSpec := { name := "fnExactPartEnd", fn := fun _ => fun
  | [d1, d2, d3] => { results := [.lit (.bool false)], args := [d1, d2, d3] }
  | _ => none }
def FnExactPartEndWrongFalsely : Prop := fnExactPartEndRow.holds Try.pinned (OpenSpec.ofChange fnExactPartEndWrong)

/-- 'laws.FnExactScopeAt': WHATEVER THE INPUT: true; the input reads as it did. -/
def fnExactScopeAtSpec : ChangeSpec := { name := "fnExactScopeAt", fn := fun _ => fun
  | [d1, d2, d3] => { results := [.lit (.bool true)], args := [d1, d2, d3] }
  | _ => none }
def fnExactScopeAtRow : OpenClaim := { program := "ytobljppjkklojaa", sum := "4717fe30ff784c75b885a137506810a4d925d416dbbfd9354cb087f1c02fed1d", func := "loop.example/g01075/laws.FnExactScopeAt", spec := "fnExactScopeAt", unfollowed := true, recurses := true, apart := false }
def FnExactScopeAtSaid : Prop := fnExactScopeAtRow.holds Try.pinned (OpenSpec.ofChange fnExactScopeAtSpec)

/-- ITS FALSE NEIGHBOUR: 'it returns false'. Refute it at one input. -/
def fnExactScopeAtWrong : ChangeSpec := { name := "fnExactScopeAt", fn := fun _ => fun
  | [d1, d2, d3] => { results := [.lit (.bool false)], args := [d1, d2, d3] }
  | _ => none }
def FnExactScopeAtWrongFalsely : Prop := fnExactScopeAtRow.holds Try.pinned (OpenSpec.ofChange fnExactScopeAtWrong)

/-- 'laws.FnExactValidPoint': WHATEVER THE INPUT: true; the input reads as it did. -/
def fnExactValidPointSpec : ChangeSpec := { name := "fnExactValidPoint", fn := fun _ => fun
  | [d1, d2] => { results := [.lit (.bool true)], args := [d1, d2] }
  | _ => none }
def fnExactValidPointRow : OpenClaim := { program := "ytobljppjkklojaa", sum := "4717fe30ff784c75b885a137506810a4d925d416dbbfd9354cb087f1c02fed1d", func := "loop.example/g01075/laws.FnExactValidPoint", spec := "fnExactValidPoint", unfollowed := true, recurses := true, apart := false }
def FnExactValidPointSaid : Prop := fnExactValidPointRow.holds Try.pinned (OpenSpec.ofChange fnExactValidPointSpec)

/-- ITS FALSE NEIGHBOUR: 'it returns false'. Refute it at one input. -/
def fnExactValidPointWrong : ChangeSpec := { name := "fnExactValidPoint", fn := fun _ => fun
  | [d1, d2] => { results := [.lit (.bool false)], args := [d1, d2] }
  | _ => none }
def FnExactValidPointWrongFalsely : Prop := fnExactValidPointRow.holds Try.pinned (OpenSpec.ofChange fnExactValidPointWrong)

/-- 'laws.FnExactUnrollSums': WHATEVER THE INPUT: true; the input reads as it did. -/
def fnExactUnrollSumsSpec : ChangeSpec := { name := "fnExactUnrollSums", fn := fun _ => fun
  | [d] => { results := [.lit (.bool true)], args := [d] }
  | _ => none }
def fnExactUnrollSumsRow : OpenClaim := { program := "ytobljppjkklojaa", sum := "4717fe30ff784c75b885a137506810a4d925d416dbbfd9354cb087f1c02fed1d", func := "loop.example/g01075/laws.FnExactUnrollSums", spec := "fnExactUnrollSums", unfollowed := true, recurses := true, apart := false }
def FnExactUnrollSumsSaid : Prop := fnExactUnrollSumsRow.holds Try.pinned (OpenSpec.ofChange fnExactUnrollSumsSpec)

/-- ITS FALSE NEIGHBOUR: 'it returns false'. Refute it at one input. -/
def fnExactUnrollSumsWrong : ChangeSpec := { name := "fnExactUnrollSums", fn := fun _ => fun
  | [d] => { results := [.lit (.bool false)], args := [d] }
  | _ => none }
def FnExactUnrollSumsWrongFalsely : Prop := fnExactUnrollSumsRow.holds Try.pinned (OpenSpec.ofChange fnExactUnrollSumsWrong)

/-- 'laws.FnExactInterleaveLinear': WHATEVER THE INPUT: true; the input reads as it did. -/
def fnExactInterleaveLinearSpec : ChangeSpec := { name := "fnExactInterleaveLinear", fn := fun _ => fun
  | [d1, d2] => { results := [.lit (.bool true)], args := [d1, d2] }
  | _ => none }
def fnExactInterleaveLinearRow : OpenClaim := { program := "ytobljppjkklojaa", sum := "4717fe30ff784c75b885a137506810a4d925d416dbbfd9354cb087f1c02fed1d", func := "loop.example/g01075/laws.FnExactInterleaveLinear", spec := "fnExactInterleaveLinear", unfollowed := true, recurses := true, apart := false }
def FnExactInterleaveLinearSaid : Prop := fnExactInterleaveLinearRow.holds Try.pinned (OpenSpec.ofChange fnExactInterleaveLinearSpec)

/-- ITS FALSE NEIGHBOUR: 'it returns false'. Refute it at one input. -/
def fnExactInterleaveLinearWrong : ChangeSpec := { name := "fnExactInterleaveLinear", fn := fun _ => fun
  | [d1, d2] => { results := [.lit (.bool false)], args := [d1, d2] }
  | _ => none }
def FnExactInterleaveLinearWrongFalsely : Prop := fnExactInterleaveLinearRow.holds Try.pinned (OpenSpec.ofChange fnExactInterleaveLinearWrong)

/-- 'laws.FnExactConstantParameters': WHATEVER THE INPUT: true; the input reads as it did. -/
def fnExactConstantParametersSpec : ChangeSpec := { name := "fnExactConstantParameters", fn := fun _ => fun
  | [d] => { results := [.lit (.bool true)], args := [d] }
  | _ => none }
def fnExactConstantParametersRow : OpenClaim := { program := "ytobljppjkklojaa", sum := "4717fe30ff784c75b885a137506810a4d925d416dbbfd9354cb087f1c02fed1d", func := "loop.example/g01075/laws.FnExactConstantParameters", spec := "fnExactConstantParameters", unfollowed := true, recurses := true, apart := false }
def FnExactConstantParametersSaid : Prop := fnExactConstantParametersRow.holds Try.pinned (OpenSpec.ofChange fnExactConstantParametersSpec)

/-- ITS FALSE NEIGHBOUR: 'it returns false'. Refute it at one input. -/
def fnExactConstantParametersWrong : ChangeSpec := { name := "fnExactConstantParameters", fn := fun _ => fun
  | [d] => { results := [.lit (.bool false)], args := [d] }
  | _ => none }
def FnExactConstantParametersWrongFalsely : Prop := fnExactConstantParametersRow.holds Try.pinned (OpenSpec.ofChange fnExactConstantParametersWrong)

/-- 'laws.FnExactLinearNames': WHATEVER THE INPUT: true; the input reads as it did. -/
def fnExactLinearNamesSpec : ChangeSpec := { name := "fnExactLinearNames", fn := fun _ => fun
  | [d] => { results := [.lit (.bool true)], args := [d] }
  | _ => none }
def fnExactLinearNamesRow : OpenClaim := { program := "ytobljppjkklojaa", sum := "4717fe30ff784c75b885a137506810a4d925d416dbbfd9354cb087f1c02fed1d", func := "loop.example/g01075/laws.FnExactLinearNames", spec := "fnExactLinearNames", unfollowed := true, recurses := true, apart := false }
def FnExactLinearNamesSaid : Prop := fnExactLinearNamesRow.holds Try.pinned (OpenSpec.ofChange fnExactLinearNamesSpec)

/-- ITS FALSE NEIGHBOUR: 'it returns false'. Refute it at one input. -/
def fnExactLinearNamesWrong : ChangeSpec := { name := "fnExactLinearNames", fn := fun _ => fun
  | [d] => { results := [.lit (.bool false)], args := [d] }
  | _ => none }
def FnExactLinearNamesWrongFalsely : Prop := fnExactLinearNamesRow.holds Try.pinned (OpenSpec.ofChange fnExactLinearNamesWrong)

/-- 'laws.FnExactNeededParameters': WHATEVER THE INPUT: true; the input reads as it did. -/
def fnExactNeededParametersSpec : ChangeSpec := { name := "fnExactNeededParameters", fn := fun _ => fun
  | [d] => { results := [.lit (.bool true)], args := [d] }
  | _ => none }
def fnExactNeededParametersRow : OpenClaim := { program := "ytobljppjkklojaa", sum := "4717fe30ff784c75b885a137506810a4d925d416dbbfd9354cb087f1c02fed1d", func := "loop.example/g01075/laws.FnExactNeededParameters", spec := "fnExactNeededParameters", unfollowed := true, recurses := true, apart := false }
def FnExactNeededParametersSaid : Prop := fnExactNeededParametersRow.holds Try.pinned (OpenSpec.ofChange fnExactNeededParametersSpec)

/-- ITS FALSE NEIGHBOUR: 'it returns false'. Refute it at one input. -/
def fnExactNeededParametersWrong : ChangeSpec := { name := "fnExactNeededParameters", fn := fun _ => fun
  | [d] => { results := [.lit (.bool false)], args := [d] }
  | _ => none }
def FnExactNeededParametersWrongFalsely : Prop := fnExactNeededParametersRow.holds Try.pinned (OpenSpec.ofChange fnExactNeededParametersWrong)

/- THE SECOND FORM. 'bulk': how many values and letters a reading holds, each counted each time it is reached (what is shared counts as often as it is met; a slice's spare places count too). A statement '..UptoSaid' is the law's where the arguments, and the package variables that the reading takes, are together of bulk at most 1048576: NARROWER than '..Said'. Prove '..Said' where nothing that the law and all that it calls make is longer than what came in: it says more and counts as full. Else prove '..UptoSaid'. A law counts once. -/
mutual
def uptoBulk {H : Type} : DataW H → Nat
  | .lit (.string bytes) => bytes.length + 1
  | .lit _ => 1
  | .nil => 1
  | .ptr d => uptoBulk d + 1
  | .slice elems spare => uptoBulkAll elems + uptoBulkAll spare + 1
  | .agg parts => uptoBulkAll parts + 1
  | .iface _ d => uptoBulk d + 1
  | .map entries => uptoBulkEntries entries + 1
  | .held _ => 1
def uptoBulkAll {H : Type} : List (DataW H) → Nat
  | [] => 0
  | d :: r => uptoBulk d + uptoBulkAll r
def uptoBulkEntries {H : Type} : List (Lit × DataW H) → Nat
  | [] => 0
  | x :: r => uptoBulkEntry x + uptoBulkEntries r
def uptoBulkEntry {H : Type} : Lit × DataW H → Nat
  | (.string bytes, d) => bytes.length + uptoBulk d + 1
  | (_, d) => uptoBulk d + 1
 end
def uptoSmall : (H : Type) → List (DataW H) → Bool := fun _ ds => decide (uptoBulkAll ds ≤ 1048576)
def OpenSpec.upto (s : _root_.Go.ChangeSpec) : _root_.Go.OpenSpec := { _root_.Go.OpenSpec.ofChange s with cond := some uptoSmall }

/-- 'laws.FnExactPackItems', WHERE WHAT IT READS IS OF BULK AT MOST 1048576: true; the input reads as it did. -/
def fnExactPackItemsUptoRow : OpenClaim := { program := "ytobljppjkklojaa", sum := "4717fe30ff784c75b885a137506810a4d925d416dbbfd9354cb087f1c02fed1d", func := "loop.example/g01075/laws.FnExactPackItems", spec := "fnExactPackItems", inPlace := ["internal/abi.NoEscape"], apart := false, narrowed := true }
def FnExactPackItemsUptoSaid : Prop := fnExactPackItemsUptoRow.holds Try.pinned (OpenSpec.upto fnExactPackItemsSpec)

/-- 'laws.FnExactEncodeEquations', WHERE WHAT IT READS IS OF BULK AT MOST 1048576: true; the input reads as it did. -/
def fnExactEncodeEquationsUptoRow : OpenClaim := { program := "ytobljppjkklojaa", sum := "4717fe30ff784c75b885a137506810a4d925d416dbbfd9354cb087f1c02fed1d", func := "loop.example/g01075/laws.FnExactEncodeEquations", spec := "fnExactEncodeEquations", unfollowed := true, recurses := true, apart := false, narrowed := true }
def FnExactEncodeEquationsUptoSaid : Prop := fnExactEncodeEquationsUptoRow.holds Try.pinned (OpenSpec.upto fnExactEncodeEquationsSpec)

/-- 'laws.FnExactConstantOf', WHERE WHAT IT READS IS OF BULK AT MOST 1048576: true; the input reads as it did. -/
def fnExactConstantOfUptoRow : OpenClaim := { program := "ytobljppjkklojaa", sum := "4717fe30ff784c75b885a137506810a4d925d416dbbfd9354cb087f1c02fed1d", func := "loop.example/g01075/laws.FnExactConstantOf", spec := "fnExactConstantOf", recurses := true, apart := false, narrowed := true }
def FnExactConstantOfUptoSaid : Prop := fnExactConstantOfUptoRow.holds Try.pinned (OpenSpec.upto fnExactConstantOfSpec)

/-- 'laws.FnExactUnpackItems', WHERE WHAT IT READS IS OF BULK AT MOST 1048576: true; the input reads as it did. -/
def fnExactUnpackItemsUptoRow : OpenClaim := { program := "ytobljppjkklojaa", sum := "4717fe30ff784c75b885a137506810a4d925d416dbbfd9354cb087f1c02fed1d", func := "loop.example/g01075/laws.FnExactUnpackItems", spec := "fnExactUnpackItems", inPlace := ["internal/abi.NoEscape"], apart := false, narrowed := true }
def FnExactUnpackItemsUptoSaid : Prop := fnExactUnpackItemsUptoRow.holds Try.pinned (OpenSpec.upto fnExactUnpackItemsSpec)

/-- 'laws.FnExactSalvageItems', WHERE WHAT IT READS IS OF BULK AT MOST 1048576: true; the input reads as it did. -/
def fnExactSalvageItemsUptoRow : OpenClaim := { program := "ytobljppjkklojaa", sum := "4717fe30ff784c75b885a137506810a4d925d416dbbfd9354cb087f1c02fed1d", func := "loop.example/g01075/laws.FnExactSalvageItems", spec := "fnExactSalvageItems", inPlace := ["internal/bytealg.abigen_runtime_cmpstring", "slices.overlaps[loop.example/g01075/impl.Item]"], unfollowed := true, recurses := true, apart := false, narrowed := true }
def FnExactSalvageItemsUptoSaid : Prop := fnExactSalvageItemsUptoRow.holds Try.pinned (OpenSpec.upto fnExactSalvageItemsSpec)

/-- 'laws.FnExactDecodeEquations', WHERE WHAT IT READS IS OF BULK AT MOST 1048576: true; the input reads as it did. -/
def fnExactDecodeEquationsUptoRow : OpenClaim := { program := "ytobljppjkklojaa", sum := "4717fe30ff784c75b885a137506810a4d925d416dbbfd9354cb087f1c02fed1d", func := "loop.example/g01075/laws.FnExactDecodeEquations", spec := "fnExactDecodeEquations", unfollowed := true, recurses := true, apart := false, narrowed := true }
def FnExactDecodeEquationsUptoSaid : Prop := fnExactDecodeEquationsUptoRow.holds Try.pinned (OpenSpec.upto fnExactDecodeEquationsSpec)

/-- 'laws.FnExactPutItem', WHERE WHAT IT READS IS OF BULK AT MOST 1048576: true; the input reads as it did. -/
def fnExactPutItemUptoRow : OpenClaim := { program := "ytobljppjkklojaa", sum := "4717fe30ff784c75b885a137506810a4d925d416dbbfd9354cb087f1c02fed1d", func := "loop.example/g01075/laws.FnExactPutItem", spec := "fnExactPutItem", inPlace := ["internal/bytealg.abigen_runtime_cmpstring", "slices.overlaps[loop.example/g01075/impl.Item]"], unfollowed := true, recurses := true, apart := false, narrowed := true }
def FnExactPutItemUptoSaid : Prop := fnExactPutItemUptoRow.holds Try.pinned (OpenSpec.upto fnExactPutItemSpec)

/-- 'laws.FnExactBodyFault', WHERE WHAT IT READS IS OF BULK AT MOST 1048576: true; the input reads as it did. -/
def fnExactBodyFaultUptoRow : OpenClaim := { program := "ytobljppjkklojaa", sum := "4717fe30ff784c75b885a137506810a4d925d416dbbfd9354cb087f1c02fed1d", func := "loop.example/g01075/laws.FnExactBodyFault", spec := "fnExactBodyFault", unfollowed := true, recurses := true, apart := false, narrowed := true }
def FnExactBodyFaultUptoSaid : Prop := fnExactBodyFaultUptoRow.holds Try.pinned (OpenSpec.upto fnExactBodyFaultSpec)

/-- 'laws.FnExactValidDefinitions', WHERE WHAT IT READS IS OF BULK AT MOST 1048576: true; the input reads as it did. -/
def fnExactValidDefinitionsUptoRow : OpenClaim := { program := "ytobljppjkklojaa", sum := "4717fe30ff784c75b885a137506810a4d925d416dbbfd9354cb087f1c02fed1d", func := "loop.example/g01075/laws.FnExactValidDefinitions", spec := "fnExactValidDefinitions", unfollowed := true, recurses := true, apart := false, narrowed := true }
def FnExactValidDefinitionsUptoSaid : Prop := fnExactValidDefinitionsUptoRow.holds Try.pinned (OpenSpec.upto fnExactValidDefinitionsSpec)

/-- 'laws.FnExactVariablesOf', WHERE WHAT IT READS IS OF BULK AT MOST 1048576: true; the input reads as it did. -/
def fnExactVariablesOfUptoRow : OpenClaim := { program := "ytobljppjkklojaa", sum := "4717fe30ff784c75b885a137506810a4d925d416dbbfd9354cb087f1c02fed1d", func := "loop.example/g01075/laws.FnExactVariablesOf", spec := "fnExactVariablesOf", recurses := true, apart := false, narrowed := true }
def FnExactVariablesOfUptoSaid : Prop := fnExactVariablesOfUptoRow.holds Try.pinned (OpenSpec.upto fnExactVariablesOfSpec)

/-- 'laws.FnExactPartEnd', WHERE WHAT IT READS IS OF BULK AT MOST 1048576: true; the input reads as it did. -/
def fnExactPartEndUptoRow : OpenClaim := { program := "ytobljppjkklojaa", sum := "4717fe30ff784c75b885a137506810a4d925d416dbbfd9354cb087f1c02fed1d", func := "loop.example/g01075/laws.FnExactPartEnd", spec := "fnExactPartEnd", unfollowed := true, recurses := true, apart := false, narrowed := true }
def FnExactPartEndUptoSaid : Prop := fnExactPartEndUptoRow.holds Try.pinned (OpenSpec.upto fnExactPartEndSpec)

/-- 'laws.FnExactScopeAt', WHERE WHAT IT READS IS OF BULK AT MOST 1048576: true; the input reads as it did. -/
def fnExactScopeAtUptoRow : OpenClaim := { program := "ytobljppjkklojaa", sum := "4717fe30ff784c75b885a137506810a4d925d416dbbfd9354cb087f1c02fed1d", func := "loop.example/g01075/laws.FnExactScopeAt", spec := "fnExactScopeAt", unfollowed := true, recurses := true, apart := false, narrowed := true }
def FnExactScopeAtUptoSaid : Prop := fnExactScopeAtUptoRow.holds Try.pinned (OpenSpec.upto fnExactScopeAtSpec)

/-- 'laws.FnExactValidPoint', WHERE WHAT IT READS IS OF BULK AT MOST 1048576: true; the input reads as it did. -/
def fnExactValidPointUptoRow : OpenClaim := { program := "ytobljppjkklojaa", sum := "4717fe30ff784c75b885a137506810a4d925d416dbbfd9354cb087f1c02fed1d", func := "loop.example/g01075/laws.FnExactValidPoint", spec := "fnExactValidPoint", unfollowed := true, recurses := true, apart := false, narrowed := true }
def FnExactValidPointUptoSaid : Prop := fnExactValidPointUptoRow.holds Try.pinned (OpenSpec.upto fnExactValidPointSpec)

/-- 'laws.FnExactUnrollSums', WHERE WHAT IT READS IS OF BULK AT MOST 1048576: true; the input reads as it did. -/
def fnExactUnrollSumsUptoRow : OpenClaim := { program := "ytobljppjkklojaa", sum := "4717fe30ff784c75b885a137506810a4d925d416dbbfd9354cb087f1c02fed1d", func := "loop.example/g01075/laws.FnExactUnrollSums", spec := "fnExactUnrollSums", unfollowed := true, recurses := true, apart := false, narrowed := true }
def FnExactUnrollSumsUptoSaid : Prop := fnExactUnrollSumsUptoRow.holds Try.pinned (OpenSpec.upto fnExactUnrollSumsSpec)

/-- 'laws.FnExactInterleaveLinear', WHERE WHAT IT READS IS OF BULK AT MOST 1048576: true; the input reads as it did. -/
def fnExactInterleaveLinearUptoRow : OpenClaim := { program := "ytobljppjkklojaa", sum := "4717fe30ff784c75b885a137506810a4d925d416dbbfd9354cb087f1c02fed1d", func := "loop.example/g01075/laws.FnExactInterleaveLinear", spec := "fnExactInterleaveLinear", unfollowed := true, recurses := true, apart := false, narrowed := true }
def FnExactInterleaveLinearUptoSaid : Prop := fnExactInterleaveLinearUptoRow.holds Try.pinned (OpenSpec.upto fnExactInterleaveLinearSpec)

/-- 'laws.FnExactConstantParameters', WHERE WHAT IT READS IS OF BULK AT MOST 1048576: true; the input reads as it did. -/
def fnExactConstantParametersUptoRow : OpenClaim := { program := "ytobljppjkklojaa", sum := "4717fe30ff784c75b885a137506810a4d925d416dbbfd9354cb087f1c02fed1d", func := "loop.example/g01075/laws.FnExactConstantParameters", spec := "fnExactConstantParameters", unfollowed := true, recurses := true, apart := false, narrowed := true }
def FnExactConstantParametersUptoSaid : Prop := fnExactConstantParametersUptoRow.holds Try.pinned (OpenSpec.upto fnExactConstantParametersSpec)

/-- 'laws.FnExactLinearNames', WHERE WHAT IT READS IS OF BULK AT MOST 1048576: true; the input reads as it did. -/
def fnExactLinearNamesUptoRow : OpenClaim := { program := "ytobljppjkklojaa", sum := "4717fe30ff784c75b885a137506810a4d925d416dbbfd9354cb087f1c02fed1d", func := "loop.example/g01075/laws.FnExactLinearNames", spec := "fnExactLinearNames", unfollowed := true, recurses := true, apart := false, narrowed := true }
def FnExactLinearNamesUptoSaid : Prop := fnExactLinearNamesUptoRow.holds Try.pinned (OpenSpec.upto fnExactLinearNamesSpec)

/-- 'laws.FnExactNeededParameters', WHERE WHAT IT READS IS OF BULK AT MOST 1048576: true; the input reads as it did. -/
def fnExactNeededParametersUptoRow : OpenClaim := { program := "ytobljppjkklojaa", sum := "4717fe30ff784c75b885a137506810a4d925d416dbbfd9354cb087f1c02fed1d", func := "loop.example/g01075/laws.FnExactNeededParameters", spec := "fnExactNeededParameters", unfollowed := true, recurses := true, apart := false, narrowed := true }
def FnExactNeededParametersUptoSaid : Prop := fnExactNeededParametersUptoRow.holds Try.pinned (OpenSpec.upto fnExactNeededParametersSpec)

end Rows
end Go.Proofs.Ytobljppjkklojaa
