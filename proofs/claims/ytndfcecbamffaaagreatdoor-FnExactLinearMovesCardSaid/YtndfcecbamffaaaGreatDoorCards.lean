/-
  DERIVED. GIVEN WITH THE SEED: THE CARDS: each row of YtndfcecbamffaaaGreatDoorRows.lean that lists a variable, with what it lists TIED to the program's text (the seventh form; the later family's looks); each row that meets fmt, with fmt's text TOLD by the authors' own Lean function (tested against real Go, not proved from fmt's source: count such statements apart). THE CARD IS WHAT COUNTS. Prove the row's statement (the work); the ties are given (YtndfcecbamffaaaGreatDoorTie.lean); close each card by the builder's one call (the guide's Derived/Test/ToyasCard.lean, 'card_holds'). Laid BY PROGRAM, IN A SANDBOX (cutbox-door.mjs). By AI agents, Wed Nov 11 2026. No macro, syntax, notation, axiom, sorry.
-/
import Derived.Test.YtndfcecbamffaaaGreatDoorRows
import GoSem.ClaimSeven
namespace Go.Proofs.YtndfcecbamffaaaGreatDoor
namespace Rows

/-- THE TIED CARD OF 'laws.FnExactLinearMoves'. -/
def fnExactLinearMovesCard : Claim7 := { stood := { row := fnExactLinearMovesRow, standIns := [], harness := (true, "f0d88201aa81bf5115a12f94d71639f463d675df9e0ac631d7f160a38eb40722"), looks := false }, kinds := [], alts := [], laidByText := true, laidKinds := [.data, .data, .data], laidTests := true, laidLooks := .later }
def FnExactLinearMovesCardSaid : Prop := Claim7.holds Tryz.pinned (.plain (OpenSpec.ofChange fnExactLinearMovesSpec)) fnExactLinearMovesCard

/-- THE SECOND FORM's CARD OF 'laws.FnExactLinearMoves'. -/
def fnExactLinearMovesUptoCard : Claim7 := { stood := { row := fnExactLinearMovesUptoRow, standIns := [], harness := (true, "f0d88201aa81bf5115a12f94d71639f463d675df9e0ac631d7f160a38eb40722"), looks := false }, kinds := [], alts := [], laidByText := true, laidKinds := [.data, .data, .data], laidTests := true, laidLooks := .later }
def FnExactLinearMovesUptoCardSaid : Prop := Claim7.holds Tryz.pinned (.plain (OpenSpec.upto fnExactLinearMovesSpec)) fnExactLinearMovesUptoCard
end Rows
end Go.Proofs.YtndfcecbamffaaaGreatDoor
