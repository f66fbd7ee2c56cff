/-
  DERIVED. GIVEN WITH THE SEED: THE CARDS: each row of YtmaepbgkcmjcjahGreatDoorRows.lean that lists a variable, with what it lists TIED to the program's text (the seventh form; the later family's looks); each row that meets fmt, with fmt's text TOLD by the authors' own Lean function (tested against real Go, not proved from fmt's source: count such statements apart). THE CARD IS WHAT COUNTS. Prove the row's statement (the work); the ties are given (YtmaepbgkcmjcjahGreatDoorTie.lean); close each card by the builder's one call (the guide's Derived/Test/ToyasCard.lean, 'card_holds'). Laid BY PROGRAM, IN A SANDBOX (cutbox-door.mjs). By AI agents, Wed Nov 11 2026. No macro, syntax, notation, axiom, sorry.
-/
import Derived.Test.YtmaepbgkcmjcjahGreatDoorRows
import GoSem.ClaimSeven
namespace Go.Proofs.YtmaepbgkcmjcjahGreatDoor
namespace Rows

/-- THE TIED CARD OF 'laws.FnExactTakeMoves'. -/
def fnExactTakeMovesCard : Claim7 := { stood := { row := fnExactTakeMovesRow, standIns := [], harness := (true, "a582402884db2731c773cb6bcb57e621f896de81fc5798df0d1d982b9ff21b49"), looks := true }, kinds := [], alts := [], laidByText := true, laidKinds := [.data, .data, .data, .data, .sentinel, .sentinel, .pinned], laidTests := true, laidLooks := .later }
def FnExactTakeMovesCardSaid : Prop := Claim7.holds Tryz.pinned (.plain (OpenSpec.ofChange fnExactTakeMovesSpec)) fnExactTakeMovesCard

/-- THE SECOND FORM's CARD OF 'laws.FnExactTakeMoves'. -/
def fnExactTakeMovesUptoCard : Claim7 := { stood := { row := fnExactTakeMovesUptoRow, standIns := [], harness := (true, "a582402884db2731c773cb6bcb57e621f896de81fc5798df0d1d982b9ff21b49"), looks := true }, kinds := [], alts := [], laidByText := true, laidKinds := [.data, .data, .data, .data, .sentinel, .sentinel, .pinned], laidTests := true, laidLooks := .later }
def FnExactTakeMovesUptoCardSaid : Prop := Claim7.holds Tryz.pinned (.plain (OpenSpec.upto fnExactTakeMovesSpec)) fnExactTakeMovesUptoCard
end Rows
end Go.Proofs.YtmaepbgkcmjcjahGreatDoor
