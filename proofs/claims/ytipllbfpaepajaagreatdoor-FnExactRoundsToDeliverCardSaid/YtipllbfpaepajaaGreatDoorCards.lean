/-
  DERIVED. GIVEN WITH THE SEED: THE CARDS: each row of YtipllbfpaepajaaGreatDoorRows.lean that lists a variable, with what it lists TIED to the program's text (the seventh form; the later family's looks); each row that meets fmt, with fmt's text TOLD by the authors' own Lean function (tested against real Go, not proved from fmt's source: count such statements apart). THE CARD IS WHAT COUNTS. Prove the row's statement (the work); the ties are given (YtipllbfpaepajaaGreatDoorTie.lean); close each card by the builder's one call (the guide's Derived/Test/ToyasCard.lean, 'card_holds'). Laid BY PROGRAM, IN A SANDBOX (cutbox-door.mjs). By AI agents, Wed Nov 11 2026. No macro, syntax, notation, axiom, sorry.
-/
import Derived.Test.YtipllbfpaepajaaGreatDoorRows
import GoSem.ClaimSeven
namespace Go.Proofs.YtipllbfpaepajaaGreatDoor
namespace Rows

/-- THE TIED CARD OF 'laws.FnExactRoundsToDeliver'. -/
def fnExactRoundsToDeliverCard : Claim7 := { stood := { row := fnExactRoundsToDeliverRow, standIns := [], harness := (true, "86bae606b28c1583d6ac1b34400c8b8d12b847d9cfa96f498a5acdece7fc1684"), looks := true }, kinds := [], alts := [], laidByText := true, laidKinds := [.data, .data, .data, .data, .sentinel, .sentinel, .pinned], laidTests := true, laidLooks := .later }
def FnExactRoundsToDeliverCardSaid : Prop := Claim7.holds Tryz.pinned (.plain (OpenSpec.ofChange fnExactRoundsToDeliverSpec)) fnExactRoundsToDeliverCard

/-- THE TIED CARD OF 'laws.FnExactRecoverLog'. -/
def fnExactRecoverLogCard : Claim7 := { stood := { row := fnExactRecoverLogRow, standIns := [], harness := (true, "86bae606b28c1583d6ac1b34400c8b8d12b847d9cfa96f498a5acdece7fc1684"), looks := true }, kinds := [], alts := [], laidByText := true, laidKinds := [.data, .data, .data, .data, .sentinel, .sentinel, .pinned], laidTests := true, laidLooks := .later }
def FnExactRecoverLogCardSaid : Prop := Claim7.holds Tryz.pinned (.plain (OpenSpec.ofChange fnExactRecoverLogSpec)) fnExactRecoverLogCard

/-- THE TIED CARD OF 'laws.FnExactReadLog'. -/
def fnExactReadLogCard : Claim7 := { stood := { row := fnExactReadLogRow, standIns := [], harness := (true, "86bae606b28c1583d6ac1b34400c8b8d12b847d9cfa96f498a5acdece7fc1684"), looks := true }, kinds := [], alts := [], laidByText := true, laidKinds := [.data, .data, .data, .data, .sentinel, .sentinel, .pinned], laidTests := true, laidLooks := .later }
def FnExactReadLogCardSaid : Prop := Claim7.holds Tryz.pinned (.plain (OpenSpec.ofChange fnExactReadLogSpec)) fnExactReadLogCard

/-- THE TIED CARD OF 'laws.FnExactDeliverLabels'. -/
def fnExactDeliverLabelsCard : Claim7 := { stood := { row := fnExactDeliverLabelsRow, standIns := [], harness := (true, "86bae606b28c1583d6ac1b34400c8b8d12b847d9cfa96f498a5acdece7fc1684"), looks := true }, kinds := [], alts := [], laidByText := true, laidKinds := [.data, .data, .data, .data, .sentinel, .sentinel, .pinned], laidTests := true, laidLooks := .later }
def FnExactDeliverLabelsCardSaid : Prop := Claim7.holds Tryz.pinned (.plain (OpenSpec.ofChange fnExactDeliverLabelsSpec)) fnExactDeliverLabelsCard

/-- THE TIED CARD OF 'laws.FnExactStepsOf'. -/
def fnExactStepsOfCard : Claim7 := { stood := { row := fnExactStepsOfRow, standIns := [], harness := (true, "86bae606b28c1583d6ac1b34400c8b8d12b847d9cfa96f498a5acdece7fc1684"), looks := true }, kinds := [], alts := [], laidByText := true, laidKinds := [.data, .data, .data], laidTests := true, laidLooks := .later }
def FnExactStepsOfCardSaid : Prop := Claim7.holds Tryz.pinned (.plain (OpenSpec.ofChange fnExactStepsOfSpec)) fnExactStepsOfCard

/-- THE TIED CARD OF 'laws.FnExactStateText'. -/
def fnExactStateTextCard : Claim7 := { stood := { row := fnExactStateTextRow, standIns := [], harness := (true, "86bae606b28c1583d6ac1b34400c8b8d12b847d9cfa96f498a5acdece7fc1684"), looks := true }, kinds := [], alts := [], laidByText := true, laidKinds := [.data, .data, .data], laidTests := true, laidLooks := .later }
def FnExactStateTextCardSaid : Prop := Claim7.holds Tryz.pinned (.plain (OpenSpec.ofChange fnExactStateTextSpec)) fnExactStateTextCard

/-- THE SECOND FORM's CARD OF 'laws.FnExactRoundsToDeliver'. -/
def fnExactRoundsToDeliverUptoCard : Claim7 := { stood := { row := fnExactRoundsToDeliverUptoRow, standIns := [], harness := (true, "86bae606b28c1583d6ac1b34400c8b8d12b847d9cfa96f498a5acdece7fc1684"), looks := true }, kinds := [], alts := [], laidByText := true, laidKinds := [.data, .data, .data, .data, .sentinel, .sentinel, .pinned], laidTests := true, laidLooks := .later }
def FnExactRoundsToDeliverUptoCardSaid : Prop := Claim7.holds Tryz.pinned (.plain (OpenSpec.upto fnExactRoundsToDeliverSpec)) fnExactRoundsToDeliverUptoCard

/-- THE SECOND FORM's CARD OF 'laws.FnExactRecoverLog'. -/
def fnExactRecoverLogUptoCard : Claim7 := { stood := { row := fnExactRecoverLogUptoRow, standIns := [], harness := (true, "86bae606b28c1583d6ac1b34400c8b8d12b847d9cfa96f498a5acdece7fc1684"), looks := true }, kinds := [], alts := [], laidByText := true, laidKinds := [.data, .data, .data, .data, .sentinel, .sentinel, .pinned], laidTests := true, laidLooks := .later }
def FnExactRecoverLogUptoCardSaid : Prop := Claim7.holds Tryz.pinned (.plain (OpenSpec.upto fnExactRecoverLogSpec)) fnExactRecoverLogUptoCard

/-- THE SECOND FORM's CARD OF 'laws.FnExactReadLog'. -/
def fnExactReadLogUptoCard : Claim7 := { stood := { row := fnExactReadLogUptoRow, standIns := [], harness := (true, "86bae606b28c1583d6ac1b34400c8b8d12b847d9cfa96f498a5acdece7fc1684"), looks := true }, kinds := [], alts := [], laidByText := true, laidKinds := [.data, .data, .data, .data, .sentinel, .sentinel, .pinned], laidTests := true, laidLooks := .later }
def FnExactReadLogUptoCardSaid : Prop := Claim7.holds Tryz.pinned (.plain (OpenSpec.upto fnExactReadLogSpec)) fnExactReadLogUptoCard

/-- THE SECOND FORM's CARD OF 'laws.FnExactDeliverLabels'. -/
def fnExactDeliverLabelsUptoCard : Claim7 := { stood := { row := fnExactDeliverLabelsUptoRow, standIns := [], harness := (true, "86bae606b28c1583d6ac1b34400c8b8d12b847d9cfa96f498a5acdece7fc1684"), looks := true }, kinds := [], alts := [], laidByText := true, laidKinds := [.data, .data, .data, .data, .sentinel, .sentinel, .pinned], laidTests := true, laidLooks := .later }
def FnExactDeliverLabelsUptoCardSaid : Prop := Claim7.holds Tryz.pinned (.plain (OpenSpec.upto fnExactDeliverLabelsSpec)) fnExactDeliverLabelsUptoCard

/-- THE SECOND FORM's CARD OF 'laws.FnExactStepsOf'. -/
def fnExactStepsOfUptoCard : Claim7 := { stood := { row := fnExactStepsOfUptoRow, standIns := [], harness := (true, "86bae606b28c1583d6ac1b34400c8b8d12b847d9cfa96f498a5acdece7fc1684"), looks := true }, kinds := [], alts := [], laidByText := true, laidKinds := [.data, .data, .data], laidTests := true, laidLooks := .later }
def FnExactStepsOfUptoCardSaid : Prop := Claim7.holds Tryz.pinned (.plain (OpenSpec.upto fnExactStepsOfSpec)) fnExactStepsOfUptoCard

/-- THE SECOND FORM's CARD OF 'laws.FnExactStateText'. -/
def fnExactStateTextUptoCard : Claim7 := { stood := { row := fnExactStateTextUptoRow, standIns := [], harness := (true, "86bae606b28c1583d6ac1b34400c8b8d12b847d9cfa96f498a5acdece7fc1684"), looks := true }, kinds := [], alts := [], laidByText := true, laidKinds := [.data, .data, .data], laidTests := true, laidLooks := .later }
def FnExactStateTextUptoCardSaid : Prop := Claim7.holds Tryz.pinned (.plain (OpenSpec.upto fnExactStateTextSpec)) fnExactStateTextUptoCard
end Rows
end Go.Proofs.YtipllbfpaepajaaGreatDoor
