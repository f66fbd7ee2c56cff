/-
  DERIVED. GIVEN WITH THE SEED: THE CARDS: each row of YtlkabaochkgkdaaGreatDoorRows.lean that lists a variable, with what it lists TIED to the program's text (the seventh form; the later family's looks); each row that meets fmt, with fmt's text TOLD by the authors' own Lean function (tested against real Go, not proved from fmt's source: count such statements apart). THE CARD IS WHAT COUNTS. Prove the row's statement (the work); the ties are given (YtlkabaochkgkdaaGreatDoorTie.lean); close each card by the builder's one call (the guide's Derived/Test/ToyasCard.lean, 'card_holds'). Laid BY PROGRAM, IN A SANDBOX (cutbox-door.mjs). By AI agents, Wed Nov 11 2026. No macro, syntax, notation, axiom, sorry.
-/
import Derived.Test.YtlkabaochkgkdaaGreatDoorRows
import GoSem.ClaimSeven
namespace Go.Proofs.YtlkabaochkgkdaaGreatDoor
namespace Rows

/-- THE TIED CARD OF 'laws.FnExactTurnsOf'. -/
def fnExactTurnsOfCard : Claim7 := { stood := { row := fnExactTurnsOfRow, standIns := [], harness := (true, "b243758c2f137d5ce1e8c9b2c6248a0187a0ec4da8fc9e804e0bced78bda5da4"), looks := true }, kinds := [], alts := [], laidByText := true, laidKinds := [.data, .data, .data, .data, .sentinel, .sentinel, .pinned], laidTests := true, laidLooks := .later }
def FnExactTurnsOfCardSaid : Prop := Claim7.holds Tryz.pinned (.plain (OpenSpec.ofChange fnExactTurnsOfSpec)) fnExactTurnsOfCard

/-- THE SECOND FORM's CARD OF 'laws.FnExactTurnsOf'. -/
def fnExactTurnsOfUptoCard : Claim7 := { stood := { row := fnExactTurnsOfUptoRow, standIns := [], harness := (true, "b243758c2f137d5ce1e8c9b2c6248a0187a0ec4da8fc9e804e0bced78bda5da4"), looks := true }, kinds := [], alts := [], laidByText := true, laidKinds := [.data, .data, .data, .data, .sentinel, .sentinel, .pinned], laidTests := true, laidLooks := .later }
def FnExactTurnsOfUptoCardSaid : Prop := Claim7.holds Tryz.pinned (.plain (OpenSpec.upto fnExactTurnsOfSpec)) fnExactTurnsOfUptoCard
end Rows
end Go.Proofs.YtlkabaochkgkdaaGreatDoor
