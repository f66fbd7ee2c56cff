/-
  DERIVED. GIVEN WITH THE SEED: THE CARDS: each row of YtafceioodemeeaaGreatDoorRows.lean that lists a variable, with what it lists TIED to the program's text (the seventh form; the later family's looks); each row that meets fmt, with fmt's text TOLD by the authors' own Lean function (tested against real Go, not proved from fmt's source: count such statements apart). THE CARD IS WHAT COUNTS. Prove the row's statement (the work); the ties are given (YtafceioodemeeaaGreatDoorTie.lean); close each card by the builder's one call (the guide's Derived/Test/ToyasCard.lean, 'card_holds'). Laid BY PROGRAM, IN A SANDBOX (cutbox-door.mjs). By AI agents, Wed Nov 11 2026. No macro, syntax, notation, axiom, sorry.
-/
import Derived.Test.YtafceioodemeeaaGreatDoorRows
import GoSem.ClaimSeven
namespace Go.Proofs.YtafceioodemeeaaGreatDoor
namespace Rows

/-- THE TIED CARD OF 'laws.FnExactMoveLabels'. -/
def fnExactMoveLabelsCard : Claim7 := { stood := { row := fnExactMoveLabelsRow, standIns := [], harness := (true, "4ef00a474e052f70842df83a34bec5534a3a25f1fdc5b36a48bc1d1ba7066881"), looks := true }, kinds := [], alts := [], laidByText := true, laidKinds := [.data, .data, .data, .data, .sentinel, .sentinel, .pinned], laidTests := true, laidLooks := .later }
def FnExactMoveLabelsCardSaid : Prop := Claim7.holds Tryz.pinned (.plain (OpenSpec.ofChange fnExactMoveLabelsSpec)) fnExactMoveLabelsCard

/-- THE SECOND FORM's CARD OF 'laws.FnExactMoveLabels'. -/
def fnExactMoveLabelsUptoCard : Claim7 := { stood := { row := fnExactMoveLabelsUptoRow, standIns := [], harness := (true, "4ef00a474e052f70842df83a34bec5534a3a25f1fdc5b36a48bc1d1ba7066881"), looks := true }, kinds := [], alts := [], laidByText := true, laidKinds := [.data, .data, .data, .data, .sentinel, .sentinel, .pinned], laidTests := true, laidLooks := .later }
def FnExactMoveLabelsUptoCardSaid : Prop := Claim7.holds Tryz.pinned (.plain (OpenSpec.upto fnExactMoveLabelsSpec)) fnExactMoveLabelsUptoCard
end Rows
end Go.Proofs.YtafceioodemeeaaGreatDoor
