/-
  DERIVED. GIVEN WITH THE SEED: THE CARDS: each row of YtmaepbgkcmjcjaiGreatDoorRows.lean that lists a variable, with what it lists TIED to the program's text (the seventh form; the later family's looks); each row that meets fmt, with fmt's text TOLD by the authors' own Lean function (tested against real Go, not proved from fmt's source: count such statements apart). THE CARD IS WHAT COUNTS. Prove the row's statement (the work); the ties are given (YtmaepbgkcmjcjaiGreatDoorTie.lean); close each card by the builder's one call (the guide's Derived/Test/ToyasCard.lean, 'card_holds'). Laid BY PROGRAM, IN A SANDBOX (cutbox-door.mjs). By AI agents, Wed Nov 11 2026. No macro, syntax, notation, axiom, sorry.
-/
import Derived.Test.YtmaepbgkcmjcjaiGreatDoorRows
import GoSem.ClaimSeven
namespace Go.Proofs.YtmaepbgkcmjcjaiGreatDoor
namespace Rows

/-- THE TIED CARD OF 'laws.FnExactChooseMove'. -/
def fnExactChooseMoveCard : Claim7 := { stood := { row := fnExactChooseMoveRow, standIns := [], harness := (true, "28258860a395f943a50c1e924ebe775882b9c7c7fdb4fb76c194c52500863395"), looks := true }, kinds := [], alts := [], laidByText := true, laidKinds := [.data, .data, .data, .data, .sentinel, .sentinel, .pinned], laidTests := true, laidLooks := .later }
def FnExactChooseMoveCardSaid : Prop := Claim7.holds Tryz.pinned (.plain (OpenSpec.ofChange fnExactChooseMoveSpec)) fnExactChooseMoveCard

/-- THE SECOND FORM's CARD OF 'laws.FnExactChooseMove'. -/
def fnExactChooseMoveUptoCard : Claim7 := { stood := { row := fnExactChooseMoveUptoRow, standIns := [], harness := (true, "28258860a395f943a50c1e924ebe775882b9c7c7fdb4fb76c194c52500863395"), looks := true }, kinds := [], alts := [], laidByText := true, laidKinds := [.data, .data, .data, .data, .sentinel, .sentinel, .pinned], laidTests := true, laidLooks := .later }
def FnExactChooseMoveUptoCardSaid : Prop := Claim7.holds Tryz.pinned (.plain (OpenSpec.upto fnExactChooseMoveSpec)) fnExactChooseMoveUptoCard
end Rows
end Go.Proofs.YtmaepbgkcmjcjaiGreatDoor
