/-
  No cell of these rows narrows 'for every input' (looked for: loops, veiled, ifaces, maps, wideKeys, modest, calm, conditions, laid).
  DERIVED. THE GIVEN ROWS OF THIS SEAT. 6 by the template 'for every input the law returns true; each argument reads behind the call as it read before'; 0 by the template 'total and deterministic' (their statements: YtncnipaofaeaiaaTotals.lean).
  GIVEN WITH THE SEED: the statements are not yours to turn. If you find one false, say at which input.
  Laid BY PROGRAM, IN A SANDBOX (cutbox-rows.mjs): the forced cells as the released guide's own fill.sh prints them over the translation 4c7367ecc5e6cdb1… (all of the seat's roots in one cut). By AI agents, Wed Nov 11 2026. No macro, syntax, notation, axiom, sorry.
-/
import Derived.Test.YtncnipaofaeaiaaChecked
import GoSem.Claim
import GoSem.ClaimJoined
import GoSem.ClaimMapViews
import Derived.JoinedTies
import Derived.KernelRfl
namespace Go.Proofs.Ytncnipaofaeaiaa
/- THE CELL 'sum', in the pinned program and in every row, IS THE sha256 OF THE DUMP (.gsa) THAT YtncnipaofaeaiaaProg.lean LOADS. Nothing in Lean hashes anything: it is a label: what it is worth is what the hold of that sum in a sandbox is worth. -/
noncomputable def Try.pinned : Pinned := { name := "ytncnipaofaeaiaa", sum := "4c7367ecc5e6cdb19ee26c0920900ba31b6b6a44e6a8ba20c6657016734994e4", checked := Try.checked }
namespace Rows
def none {H : Type} : Left H := { results := [], args := [] }

/-- 'laws.FnExactClaimName': WHATEVER THE INPUT: true; the input reads as it did. -/
def fnExactClaimNameSpec : ChangeSpec := { name := "fnExactClaimName", fn := fun _ => fun
  | [d] => { results := [.lit (.bool true)], args := [d] }
  | _ => none }
def fnExactClaimNameRow : OpenClaim := { program := "ytncnipaofaeaiaa", sum := "4c7367ecc5e6cdb19ee26c0920900ba31b6b6a44e6a8ba20c6657016734994e4", func := "loop.example/g01075/laws.FnExactClaimName", spec := "fnExactClaimName", apart := false }
def FnExactClaimNameSaid : Prop := fnExactClaimNameRow.holds Try.pinned (OpenSpec.ofChange fnExactClaimNameSpec)

/-- ITS FALSE NEIGHBOUR: 'it returns false'. Refute it at one input. -/
def fnExactClaimNameWrong : ChangeSpec := { name := "fnExactClaimName", fn := fun _ => fun
  | [d] => { results := [.lit (.bool false)], args := [d] }
  | _ => none }
def FnExactClaimNameWrongFalsely : Prop := fnExactClaimNameRow.holds Try.pinned (OpenSpec.ofChange fnExactClaimNameWrong)

/-- 'laws.FnExactImageKind': WHATEVER THE INPUT: true; the input reads as it did. -/
def fnExactImageKindSpec : ChangeSpec := { name := "fnExactImageKind", fn := fun _ => fun
  | [d] => { results := [.lit (.bool true)], args := [d] }
  | _ => none }
def fnExactImageKindRow : OpenClaim := { program := "ytncnipaofaeaiaa", sum := "4c7367ecc5e6cdb19ee26c0920900ba31b6b6a44e6a8ba20c6657016734994e4", func := "loop.example/g01075/laws.FnExactImageKind", spec := "fnExactImageKind", apart := false }
def FnExactImageKindSaid : Prop := fnExactImageKindRow.holds Try.pinned (OpenSpec.ofChange fnExactImageKindSpec)

/-- ITS FALSE NEIGHBOUR: 'it returns false'. Refute it at one input. -/
def fnExactImageKindWrong : ChangeSpec := { name := "fnExactImageKind", fn := fun _ => fun
  | [d] => { results := [.lit (.bool false)], args := [d] }
  | _ => none }
def FnExactImageKindWrongFalsely : Prop := fnExactImageKindRow.holds Try.pinned (OpenSpec.ofChange fnExactImageKindWrong)

/-- 'laws.FnExactValidItems': WHATEVER THE INPUT: true; the input reads as it did. -/
def fnExactValidItemsSpec : ChangeSpec := { name := "fnExactValidItems", fn := fun _ => fun
  | [d] => { results := [.lit (.bool true)], args := [d] }
  | _ => none }
def fnExactValidItemsRow : OpenClaim := { program := "ytncnipaofaeaiaa", sum := "4c7367ecc5e6cdb19ee26c0920900ba31b6b6a44e6a8ba20c6657016734994e4", func := "loop.example/g01075/laws.FnExactValidItems", spec := "fnExactValidItems", apart := false }
def FnExactValidItemsSaid : Prop := fnExactValidItemsRow.holds Try.pinned (OpenSpec.ofChange fnExactValidItemsSpec)

/-- ITS FALSE NEIGHBOUR: 'it returns false'. Refute it at one input. -/
def fnExactValidItemsWrong : ChangeSpec := { name := "fnExactValidItems", fn := fun _ => fun
  | [d] => { results := [.lit (.bool false)], args := [d] }
  | _ => none }
def FnExactValidItemsWrongFalsely : Prop := fnExactValidItemsRow.holds Try.pinned (OpenSpec.ofChange fnExactValidItemsWrong)

/-- 'laws.FnExactFindItem': WHATEVER THE INPUT: true; the input reads as it did. -/
def fnExactFindItemSpec : ChangeSpec := { name := "fnExactFindItem", fn := fun _ => fun
  | [d1, d2] => { results := [.lit (.bool true)], args := [d1, d2] }
  | _ => none }
def fnExactFindItemRow : OpenClaim := { program := "ytncnipaofaeaiaa", sum := "4c7367ecc5e6cdb19ee26c0920900ba31b6b6a44e6a8ba20c6657016734994e4", func := "loop.example/g01075/laws.FnExactFindItem", spec := "fnExactFindItem", inPlace := ["internal/bytealg.abigen_runtime_cmpstring"], unfollowed := true, recurses := true, apart := false }
def FnExactFindItemSaid : Prop := fnExactFindItemRow.holds Try.pinned (OpenSpec.ofChange fnExactFindItemSpec)

/-- ITS FALSE NEIGHBOUR: 'it returns false'. Refute it at one input. -/
def fnExactFindItemWrong : ChangeSpec := { name := "fnExactFindItem", fn := fun _ => fun
  | [d1, d2] => { results := [.lit (.bool false)], args := [d1, d2] }
  | _ => none }
def FnExactFindItemWrongFalsely : Prop := fnExactFindItemRow.holds Try.pinned (OpenSpec.ofChange fnExactFindItemWrong)

/-- 'laws.FnExactPackItems': WHATEVER THE INPUT: true; the input reads as it did. -/
def fnExactPackItemsSpec : ChangeSpec := { name := "fnExactPackItems", fn := fun _ => fun
  | [d] => { results := [.lit (.bool true)], args := [d] }
  | _ => none }
def fnExactPackItemsRow : OpenClaim := { program := "ytncnipaofaeaiaa", sum := "4c7367ecc5e6cdb19ee26c0920900ba31b6b6a44e6a8ba20c6657016734994e4", func := "loop.example/g01075/laws.FnExactPackItems", spec := "fnExactPackItems", inPlace := ["internal/abi.NoEscape"], apart := false }
def FnExactPackItemsSaid : Prop := fnExactPackItemsRow.holds Try.pinned (OpenSpec.ofChange fnExactPackItemsSpec)

/-- ITS FALSE NEIGHBOUR: 'it returns false'. Refute it at one input. -/
def fnExactPackItemsWrong : ChangeSpec := { name := "fnExactPackItems", fn := fun _ => fun
  | [d] => { results := [.lit (.bool false)], args := [d] }
  | _ => none }
def FnExactPackItemsWrongFalsely : Prop := fnExactPackItemsRow.holds Try.pinned (OpenSpec.ofChange fnExactPackItemsWrong)

/-- 'laws.FnExactEncodeEquations': WHATEVER THE INPUT: true; the input reads as it did. -/
def fnExactEncodeEquationsSpec : ChangeSpec := { name := "fnExactEncodeEquations", fn := fun _ => fun
  | [d] => { results := [.lit (.bool true)], args := [d] }
  | _ => none }
def fnExactEncodeEquationsRow : OpenClaim := { program := "ytncnipaofaeaiaa", sum := "4c7367ecc5e6cdb19ee26c0920900ba31b6b6a44e6a8ba20c6657016734994e4", func := "loop.example/g01075/laws.FnExactEncodeEquations", spec := "fnExactEncodeEquations", unfollowed := true, recurses := true, apart := false }
def FnExactEncodeEquationsSaid : Prop := fnExactEncodeEquationsRow.holds Try.pinned (OpenSpec.ofChange fnExactEncodeEquationsSpec)

/-- ITS FALSE NEIGHBOUR: 'it returns false'. Refute it at one input. -/
def fnExactEncodeEquationsWrong : ChangeSpec := { name := "fnExactEncodeEquations", fn := fun _ => fun
  | [d] => { results := [.lit (.bool false)], args := [d] }
  | _ => none }
def FnExactEncodeEquationsWrongFalsely : Prop := fnExactEncodeEquationsRow.holds Try.pinned (OpenSpec.ofChange fnExactEncodeEquationsWrong)

/- THE SECOND FORM. 'bulk': how many values and letters a reading holds, each counted each time it is reached (what is shared counts as often as it is met; a slice's spare places count too). A statement '..UptoSaid' is the law's where the arguments, and the package variables that the reading takes, are together of bulk at most 1048576: NARROWER than '..Said'. Prove '..Said' where nothing that the law and all that it calls make is longer than what came in: it says more and counts as full. Else prove '..UptoSaid'. A law counts once. -/
mutual
def uptoBulk {H : Type} : DataW H → Nat
  | .lit (.string bytes) => bytes.length + 1
  | .lit _ => 1
  | .nil => 1
  | .ptr d => uptoBulk d + 1
  | .slice elems spare => uptoBulkAll elems + uptoBulkAll spare + 1
  | .agg parts => uptoBulkAll parts + 1
  | .iface _ d => uptoBulk d + 1
  | .map entries => uptoBulkEntries entries + 1
  | .held _ => 1
def uptoBulkAll {H : Type} : List (DataW H) → Nat
  | [] => 0
  | d :: r => uptoBulk d + uptoBulkAll r
def uptoBulkEntries {H : Type} : List (Lit × DataW H) → Nat
  | [] => 0
  | x :: r => uptoBulkEntry x + uptoBulkEntries r
def uptoBulkEntry {H : Type} : Lit × DataW H → Nat
  | (.string bytes, d) => bytes.length + uptoBulk d + 1
  | (_, d) => uptoBulk d + 1
 end
def uptoSmall : (H : Type) → List (DataW H) → Bool := fun _ ds => decide (uptoBulkAll ds ≤ 1048576)
def OpenSpec.upto (s : _root_.Go.ChangeSpec) : _root_.Go.OpenSpec := { _root_.Go.OpenSpec.ofChange s with cond := some uptoSmall }

/-- 'laws.FnExactClaimName', WHERE WHAT IT READS IS OF BULK AT MOST 1048576: true; the input reads as it did. -/
def fnExactClaimNameUptoRow : OpenClaim := { program := "ytncnipaofaeaiaa", sum := "4c7367ecc5e6cdb19ee26c0920900ba31b6b6a44e6a8ba20c6657016734994e4", func := "loop.example/g01075/laws.FnExactClaimName", spec := "fnExactClaimName", apart := false, narrowed := true }
def FnExactClaimNameUptoSaid : Prop := fnExactClaimNameUptoRow.holds Try.pinned (OpenSpec.upto fnExactClaimNameSpec)

/-- 'laws.FnExactImageKind', WHERE WHAT IT READS IS OF BULK AT MOST 1048576: true; the input reads as it did. -/
def fnExactImageKindUptoRow : OpenClaim := { program := "ytncnipaofaeaiaa", sum := "4c7367ecc5e6cdb19ee26c0920900ba31b6b6a44e6a8ba20c6657016734994e4", func := "loop.example/g01075/laws.FnExactImageKind", spec := "fnExactImageKind", apart := false, narrowed := true }
def FnExactImageKindUptoSaid : Prop := fnExactImageKindUptoRow.holds Try.pinned (OpenSpec.upto fnExactImageKindSpec)

/-- 'laws.FnExactValidItems', WHERE WHAT IT READS IS OF BULK AT MOST 1048576: true; the input reads as it did. -/
def fnExactValidItemsUptoRow : OpenClaim := { program := "ytncnipaofaeaiaa", sum := "4c7367ecc5e6cdb19ee26c0920900ba31b6b6a44e6a8ba20c6657016734994e4", func := "loop.example/g01075/laws.FnExactValidItems", spec := "fnExactValidItems", apart := false, narrowed := true }
def FnExactValidItemsUptoSaid : Prop := fnExactValidItemsUptoRow.holds Try.pinned (OpenSpec.upto fnExactValidItemsSpec)

/-- 'laws.FnExactFindItem', WHERE WHAT IT READS IS OF BULK AT MOST 1048576: true; the input reads as it did. -/
def fnExactFindItemUptoRow : OpenClaim := { program := "ytncnipaofaeaiaa", sum := "4c7367ecc5e6cdb19ee26c0920900ba31b6b6a44e6a8ba20c6657016734994e4", func := "loop.example/g01075/laws.FnExactFindItem", spec := "fnExactFindItem", inPlace := ["internal/bytealg.abigen_runtime_cmpstring"], unfollowed := true, recurses := true, apart := false, narrowed := true }
def FnExactFindItemUptoSaid : Prop := fnExactFindItemUptoRow.holds Try.pinned (OpenSpec.upto fnExactFindItemSpec)

/-- 'laws.FnExactPackItems', WHERE WHAT IT READS IS OF BULK AT MOST 1048576: true; the input reads as it did. -/
def fnExactPackItemsUptoRow : OpenClaim := { program := "ytncnipaofaeaiaa", sum := "4c7367ecc5e6cdb19ee26c0920900ba31b6b6a44e6a8ba20c6657016734994e4", func := "loop.example/g01075/laws.FnExactPackItems", spec := "fnExactPackItems", inPlace := ["internal/abi.NoEscape"], apart := false, narrowed := true }
def FnExactPackItemsUptoSaid : Prop := fnExactPackItemsUptoRow.holds Try.pinned (OpenSpec.upto fnExactPackItemsSpec)

/-- 'laws.FnExactEncodeEquations', WHERE WHAT IT READS IS OF BULK AT MOST 1048576: true; the input reads as it did. -/
def fnExactEncodeEquationsUptoRow : OpenClaim := { program := "ytncnipaofaeaiaa", sum := "4c7367ecc5e6cdb19ee26c0920900ba31b6b6a44e6a8ba20c6657016734994e4", func := "loop.example/g01075/laws.FnExactEncodeEquations", spec := "fnExactEncodeEquations", unfollowed := true, recurses := true, apart := false, narrowed := true }
def FnExactEncodeEquationsUptoSaid : Prop := fnExactEncodeEquationsUptoRow.holds Try.pinned (OpenSpec.upto fnExactEncodeEquationsSpec)

end Rows
end Go.Proofs.Ytncnipaofaeaiaa
