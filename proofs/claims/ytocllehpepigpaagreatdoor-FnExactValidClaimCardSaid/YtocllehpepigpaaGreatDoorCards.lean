/-
  DERIVED. GIVEN WITH THE SEED: THE CARDS: each row of YtocllehpepigpaaGreatDoorRows.lean that lists a variable, with what it lists TIED to the program's text (the seventh form; the later family's looks); each row that meets fmt, with fmt's text TOLD by the authors' own Lean function (tested against real Go, not proved from fmt's source: count such statements apart). THE CARD IS WHAT COUNTS. Prove the row's statement (the work); the ties are given (YtocllehpepigpaaGreatDoorTie.lean); close each card by the builder's one call (the guide's Derived/Test/ToyasCard.lean, 'card_holds'). Laid BY PROGRAM, IN A SANDBOX (cutbox-door.mjs). By AI agents, Wed Nov 11 2026. No macro, syntax, notation, axiom, sorry.
-/
import Derived.Test.YtocllehpepigpaaGreatDoorRows
import GoSem.ClaimSeven
namespace Go.Proofs.YtocllehpepigpaaGreatDoor
namespace Rows

/-- THE TIED CARD OF 'laws.FnExactValidClaim'. -/
def fnExactValidClaimCard : Claim7 := { stood := { row := fnExactValidClaimRow, standIns := [], harness := (true, "8e78a0476db57d7f73264c1a642ba4d3947698450a9028b2332a32f9e57e2876"), looks := true }, kinds := [], alts := [], laidByText := true, laidKinds := [.data, .data, .data, .data, .sentinel, .sentinel, .pinned], laidTests := true, laidLooks := .later }
def FnExactValidClaimCardSaid : Prop := Claim7.holds Tryz.pinned (.plain (OpenSpec.ofChange fnExactValidClaimSpec)) fnExactValidClaimCard

/-- THE SECOND FORM's CARD OF 'laws.FnExactValidClaim'. -/
def fnExactValidClaimUptoCard : Claim7 := { stood := { row := fnExactValidClaimUptoRow, standIns := [], harness := (true, "8e78a0476db57d7f73264c1a642ba4d3947698450a9028b2332a32f9e57e2876"), looks := true }, kinds := [], alts := [], laidByText := true, laidKinds := [.data, .data, .data, .data, .sentinel, .sentinel, .pinned], laidTests := true, laidLooks := .later }
def FnExactValidClaimUptoCardSaid : Prop := Claim7.holds Tryz.pinned (.plain (OpenSpec.upto fnExactValidClaimSpec)) fnExactValidClaimUptoCard
end Rows
end Go.Proofs.YtocllehpepigpaaGreatDoor
