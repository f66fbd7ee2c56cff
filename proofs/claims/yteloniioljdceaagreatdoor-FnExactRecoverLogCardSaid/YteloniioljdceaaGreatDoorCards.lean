/-
  DERIVED. GIVEN WITH THE SEED: THE CARDS: each row of YteloniioljdceaaGreatDoorRows.lean that lists a variable, with what it lists TIED to the program's text (the seventh form; the later family's looks); each row that meets fmt, with fmt's text TOLD by the authors' own Lean function (tested against real Go, not proved from fmt's source: count such statements apart). THE CARD IS WHAT COUNTS. Prove the row's statement (the work); the ties are given (YteloniioljdceaaGreatDoorTie.lean); close each card by the builder's one call (the guide's Derived/Test/ToyasCard.lean, 'card_holds'). Laid BY PROGRAM, IN A SANDBOX (cutbox-door.mjs). By AI agents, Wed Nov 11 2026. No macro, syntax, notation, axiom, sorry.
-/
import Derived.Test.YteloniioljdceaaGreatDoorRows
import GoSem.ClaimSeven
namespace Go.Proofs.YteloniioljdceaaGreatDoor
namespace Rows

/-- THE TIED CARD OF 'laws.FnExactLinearMoves'. -/
def fnExactLinearMovesCard : Claim7 := { stood := { row := fnExactLinearMovesRow, standIns := [], harness := (true, "9b0d3003f85774066f85c9185eb1a492ac9562ff03da1271d6605e4436e6c063"), looks := true }, kinds := [], alts := [], laidByText := true, laidKinds := [.data, .data, .data], laidTests := true, laidLooks := .later }
def FnExactLinearMovesCardSaid : Prop := Claim7.holds Tryz.pinned (.plain (OpenSpec.ofChange fnExactLinearMovesSpec)) fnExactLinearMovesCard

/-- THE TIED CARD OF 'laws.FnExactRecoverLog'. -/
def fnExactRecoverLogCard : Claim7 := { stood := { row := fnExactRecoverLogRow, standIns := [], harness := (true, "9b0d3003f85774066f85c9185eb1a492ac9562ff03da1271d6605e4436e6c063"), looks := true }, kinds := [], alts := [], laidByText := true, laidKinds := [.data, .data, .data, .data, .sentinel, .sentinel, .pinned], laidTests := true, laidLooks := .later }
def FnExactRecoverLogCardSaid : Prop := Claim7.holds Tryz.pinned (.plain (OpenSpec.ofChange fnExactRecoverLogSpec)) fnExactRecoverLogCard

/-- THE TIED CARD OF 'laws.FnExactReadLog'. -/
def fnExactReadLogCard : Claim7 := { stood := { row := fnExactReadLogRow, standIns := [], harness := (true, "9b0d3003f85774066f85c9185eb1a492ac9562ff03da1271d6605e4436e6c063"), looks := true }, kinds := [], alts := [], laidByText := true, laidKinds := [.data, .data, .data, .data, .sentinel, .sentinel, .pinned], laidTests := true, laidLooks := .later }
def FnExactReadLogCardSaid : Prop := Claim7.holds Tryz.pinned (.plain (OpenSpec.ofChange fnExactReadLogSpec)) fnExactReadLogCard

/-- THE SECOND FORM's CARD OF 'laws.FnExactLinearMoves'. -/
def fnExactLinearMovesUptoCard : Claim7 := { stood := { row := fnExactLinearMovesUptoRow, standIns := [], harness := (true, "9b0d3003f85774066f85c9185eb1a492ac9562ff03da1271d6605e4436e6c063"), looks := true }, kinds := [], alts := [], laidByText := true, laidKinds := [.data, .data, .data], laidTests := true, laidLooks := .later }
def FnExactLinearMovesUptoCardSaid : Prop := Claim7.holds Tryz.pinned (.plain (OpenSpec.upto fnExactLinearMovesSpec)) fnExactLinearMovesUptoCard

/-- THE SECOND FORM's CARD OF 'laws.FnExactRecoverLog'. -/
def fnExactRecoverLogUptoCard : Claim7 := { stood := { row := fnExactRecoverLogUptoRow, standIns := [], harness := (true, "9b0d3003f85774066f85c9185eb1a492ac9562ff03da1271d6605e4436e6c063"), looks := true }, kinds := [], alts := [], laidByText := true, laidKinds := [.data, .data, .data, .data, .sentinel, .sentinel, .pinned], laidTests := true, laidLooks := .later }
def FnExactRecoverLogUptoCardSaid : Prop := Claim7.holds Tryz.pinned (.plain (OpenSpec.upto fnExactRecoverLogSpec)) fnExactRecoverLogUptoCard

/-- THE SECOND FORM's CARD OF 'laws.FnExactReadLog'. -/
def fnExactReadLogUptoCard : Claim7 := { stood := { row := fnExactReadLogUptoRow, standIns := [], harness := (true, "9b0d3003f85774066f85c9185eb1a492ac9562ff03da1271d6605e4436e6c063"), looks := true }, kinds := [], alts := [], laidByText := true, laidKinds := [.data, .data, .data, .data, .sentinel, .sentinel, .pinned], laidTests := true, laidLooks := .later }
def FnExactReadLogUptoCardSaid : Prop := Claim7.holds Tryz.pinned (.plain (OpenSpec.upto fnExactReadLogSpec)) fnExactReadLogUptoCard
end Rows
end Go.Proofs.YteloniioljdceaaGreatDoor
