/-
  DERIVED. GIVEN WITH THE SEED: THE CARDS: each row of YtcmimclaknmnbaaGreatDoorRows.lean that lists a variable, with what it lists TIED to the program's text (the seventh form; the later family's looks); each row that meets fmt, with fmt's text TOLD by the authors' own Lean function (tested against real Go, not proved from fmt's source: count such statements apart). THE CARD IS WHAT COUNTS. Prove the row's statement (the work); the ties are given (YtcmimclaknmnbaaGreatDoorTie.lean); close each card by the builder's one call (the guide's Derived/Test/ToyasCard.lean, 'card_holds'). Laid BY PROGRAM, IN A SANDBOX (cutbox-door.mjs). By AI agents, Wed Nov 11 2026. No macro, syntax, notation, axiom, sorry.
-/
import Derived.Test.YtcmimclaknmnbaaGreatDoorRows
import GoSem.ClaimSeven
namespace Go.Proofs.YtcmimclaknmnbaaGreatDoor
namespace Rows

/-- THE TIED CARD OF 'laws.FnExactReplayLinear'. -/
def fnExactReplayLinearCard : Claim7 := { stood := { row := fnExactReplayLinearRow, standIns := [], harness := (true, "6cde2d5fc403d964a5bb8ba30b0b7da29e16742f72bd593f16d09593b0779da0"), looks := true }, kinds := [], alts := [], laidByText := true, laidKinds := [.data, .data, .data, .data, .sentinel, .sentinel, .pinned], laidTests := true, laidLooks := .later }
def FnExactReplayLinearCardSaid : Prop := Claim7.holds Tryz.pinned (.plain (OpenSpec.ofChange fnExactReplayLinearSpec)) fnExactReplayLinearCard

/-- THE SECOND FORM's CARD OF 'laws.FnExactReplayLinear'. -/
def fnExactReplayLinearUptoCard : Claim7 := { stood := { row := fnExactReplayLinearUptoRow, standIns := [], harness := (true, "6cde2d5fc403d964a5bb8ba30b0b7da29e16742f72bd593f16d09593b0779da0"), looks := true }, kinds := [], alts := [], laidByText := true, laidKinds := [.data, .data, .data, .data, .sentinel, .sentinel, .pinned], laidTests := true, laidLooks := .later }
def FnExactReplayLinearUptoCardSaid : Prop := Claim7.holds Tryz.pinned (.plain (OpenSpec.upto fnExactReplayLinearSpec)) fnExactReplayLinearUptoCard
end Rows
end Go.Proofs.YtcmimclaknmnbaaGreatDoor
