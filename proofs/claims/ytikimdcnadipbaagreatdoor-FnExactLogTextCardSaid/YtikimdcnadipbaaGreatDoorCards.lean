/-
  DERIVED. GIVEN WITH THE SEED: THE CARDS: each row of YtikimdcnadipbaaGreatDoorRows.lean that lists a variable, with what it lists TIED to the program's text (the seventh form; the later family's looks); each row that meets fmt, with fmt's text TOLD by the authors' own Lean function (tested against real Go, not proved from fmt's source: count such statements apart). THE CARD IS WHAT COUNTS. Prove the row's statement (the work); the ties are given (YtikimdcnadipbaaGreatDoorTie.lean); close each card by the builder's one call (the guide's Derived/Test/ToyasCard.lean, 'card_holds'). Laid BY PROGRAM, IN A SANDBOX (cutbox-door.mjs). By AI agents, Wed Nov 11 2026. No macro, syntax, notation, axiom, sorry.
-/
import Derived.Test.YtikimdcnadipbaaGreatDoorRows
import GoSem.ClaimSeven
namespace Go.Proofs.YtikimdcnadipbaaGreatDoor
namespace Rows

/-- THE TIED CARD OF 'laws.FnExactLinearMoves'. -/
def fnExactLinearMovesCard : Claim7 := { stood := { row := fnExactLinearMovesRow, standIns := [], harness := (true, "ae3503fae422373aeacd772265f191127de673fd59c7fc106f82c48a248e397a"), looks := true }, kinds := [], alts := [], laidByText := true, laidKinds := [.data, .data, .data], laidTests := true, laidLooks := .later }
def FnExactLinearMovesCardSaid : Prop := Claim7.holds Tryz.pinned (.plain (OpenSpec.ofChange fnExactLinearMovesSpec)) fnExactLinearMovesCard

/-- THE TIED CARD OF 'laws.FnExactLogText'. -/
def fnExactLogTextCard : Claim7 := { stood := { row := fnExactLogTextRow, standIns := [], harness := (true, "ae3503fae422373aeacd772265f191127de673fd59c7fc106f82c48a248e397a"), looks := true }, kinds := [], alts := [], laidByText := true, laidKinds := [.data, .data, .data, .data, .sentinel, .sentinel, .pinned], laidTests := true, laidLooks := .later }
def FnExactLogTextCardSaid : Prop := Claim7.holds Tryz.pinned (.plain (OpenSpec.ofChange fnExactLogTextSpec)) fnExactLogTextCard

/-- THE SECOND FORM's CARD OF 'laws.FnExactLinearMoves'. -/
def fnExactLinearMovesUptoCard : Claim7 := { stood := { row := fnExactLinearMovesUptoRow, standIns := [], harness := (true, "ae3503fae422373aeacd772265f191127de673fd59c7fc106f82c48a248e397a"), looks := true }, kinds := [], alts := [], laidByText := true, laidKinds := [.data, .data, .data], laidTests := true, laidLooks := .later }
def FnExactLinearMovesUptoCardSaid : Prop := Claim7.holds Tryz.pinned (.plain (OpenSpec.upto fnExactLinearMovesSpec)) fnExactLinearMovesUptoCard

/-- THE SECOND FORM's CARD OF 'laws.FnExactLogText'. -/
def fnExactLogTextUptoCard : Claim7 := { stood := { row := fnExactLogTextUptoRow, standIns := [], harness := (true, "ae3503fae422373aeacd772265f191127de673fd59c7fc106f82c48a248e397a"), looks := true }, kinds := [], alts := [], laidByText := true, laidKinds := [.data, .data, .data, .data, .sentinel, .sentinel, .pinned], laidTests := true, laidLooks := .later }
def FnExactLogTextUptoCardSaid : Prop := Claim7.holds Tryz.pinned (.plain (OpenSpec.upto fnExactLogTextSpec)) fnExactLogTextUptoCard
end Rows
end Go.Proofs.YtikimdcnadipbaaGreatDoor
