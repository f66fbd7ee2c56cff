/-
  DERIVED. GIVEN WITH THE SEED: THE CARDS: each row of YtmaepbgkcmjcjagGreatDoorRows.lean that lists a variable, with what it lists TIED to the program's text (the seventh form; the later family's looks); each row that meets fmt, with fmt's text TOLD by the authors' own Lean function (tested against real Go, not proved from fmt's source: count such statements apart). THE CARD IS WHAT COUNTS. Prove the row's statement (the work); the ties are given (YtmaepbgkcmjcjagGreatDoorTie.lean); close each card by the builder's one call (the guide's Derived/Test/ToyasCard.lean, 'card_holds'). Laid BY PROGRAM, IN A SANDBOX (cutbox-door.mjs). By AI agents, Wed Nov 11 2026. No macro, syntax, notation, axiom, sorry.
-/
import Derived.Test.YtmaepbgkcmjcjagGreatDoorRows
import GoSem.ClaimSeven
namespace Go.Proofs.YtmaepbgkcmjcjagGreatDoor
namespace Rows

/-- THE TIED CARD OF 'laws.FnExactIsStuck'. -/
def fnExactIsStuckCard : Claim7 := { stood := { row := fnExactIsStuckRow, standIns := [], harness := (true, "1c2c8bc80de54bba4e116dde6b7b967b778185b23edafd809866d5623cf00fcc"), looks := true }, kinds := [], alts := [], laidByText := true, laidKinds := [.data, .data, .data, .data, .sentinel, .sentinel, .pinned], laidTests := true, laidLooks := .later }
def FnExactIsStuckCardSaid : Prop := Claim7.holds Tryz.pinned (.plain (OpenSpec.ofChange fnExactIsStuckSpec)) fnExactIsStuckCard

/-- THE SECOND FORM's CARD OF 'laws.FnExactIsStuck'. -/
def fnExactIsStuckUptoCard : Claim7 := { stood := { row := fnExactIsStuckUptoRow, standIns := [], harness := (true, "1c2c8bc80de54bba4e116dde6b7b967b778185b23edafd809866d5623cf00fcc"), looks := true }, kinds := [], alts := [], laidByText := true, laidKinds := [.data, .data, .data, .data, .sentinel, .sentinel, .pinned], laidTests := true, laidLooks := .later }
def FnExactIsStuckUptoCardSaid : Prop := Claim7.holds Tryz.pinned (.plain (OpenSpec.upto fnExactIsStuckSpec)) fnExactIsStuckUptoCard
end Rows
end Go.Proofs.YtmaepbgkcmjcjagGreatDoor
