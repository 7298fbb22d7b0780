/-
  DERIVED. GIVEN WITH THE SEED: THE CARDS: each row of YtiimhpopcgiejaaDoorRows.lean that lists a variable, with what it lists TIED to the program's text (the seventh form; the later family's looks); each row that meets fmt, with fmt's text TOLD by the authors' own Lean function (tested against real Go, not proved from fmt's source: count such statements apart). THE CARD IS WHAT COUNTS. Prove the row's statement (the work); the ties are given (YtiimhpopcgiejaaDoorTie.lean); close each card by the builder's one call (the guide's Derived/Test/ToyasCard.lean, 'card_holds'). Laid BY PROGRAM, IN A SANDBOX (cutbox-door.mjs). By AI agents, Wed Nov 11 2026. No macro, syntax, notation, axiom, sorry.
-/
import Derived.Test.YtiimhpopcgiejaaDoorRows
import GoSem.ClaimSeven
namespace Go.Proofs.YtiimhpopcgiejaaDoor
namespace Rows

/-- THE TIED CARD OF 'laws.FnExactJournalOf'. -/
def fnExactJournalOfCard : Claim7 := { stood := { row := fnExactJournalOfRow, standIns := [], harness := (true, "a27b86ca5a16df98c61fa6b891c89518d0fe4505ba0b83e9772b586daf70c681"), looks := true }, kinds := [], alts := [], laidByText := true, laidKinds := [.data, .data, .data], laidTests := true, laidLooks := .later }
def FnExactJournalOfCardSaid : Prop := Claim7.holds Tryd.pinned (.plain (OpenSpec.ofChange fnExactJournalOfSpec)) fnExactJournalOfCard

/-- THE TIED CARD OF 'laws.FnExactRecoverJournal'. -/
def fnExactRecoverJournalCard : Claim7 := { stood := { row := fnExactRecoverJournalRow, standIns := [], harness := (true, "a27b86ca5a16df98c61fa6b891c89518d0fe4505ba0b83e9772b586daf70c681"), looks := true }, kinds := [], alts := [], laidByText := true, laidKinds := [.data, .data, .data], laidTests := true, laidLooks := .later }
def FnExactRecoverJournalCardSaid : Prop := Claim7.holds Tryd.pinned (.plain (OpenSpec.ofChange fnExactRecoverJournalSpec)) fnExactRecoverJournalCard

/-- THE TIED CARD OF 'laws.FnExactReadValues'. -/
def fnExactReadValuesCard : Claim7 := { stood := { row := fnExactReadValuesRow, standIns := [], harness := (true, "a27b86ca5a16df98c61fa6b891c89518d0fe4505ba0b83e9772b586daf70c681"), looks := true }, kinds := [], alts := [], laidByText := true, laidKinds := [.data, .data, .data, .data, .sentinel, .sentinel, .pinned], laidTests := true, laidLooks := .later }
def FnExactReadValuesCardSaid : Prop := Claim7.holds Tryd.pinned (.plain (OpenSpec.ofChange fnExactReadValuesSpec)) fnExactReadValuesCard

/-- THE TIED CARD OF 'laws.FnExactReadCrowd'. -/
def fnExactReadCrowdCard : Claim7 := { stood := { row := fnExactReadCrowdRow, standIns := [], harness := (true, "a27b86ca5a16df98c61fa6b891c89518d0fe4505ba0b83e9772b586daf70c681"), looks := true }, kinds := [], alts := [], laidByText := true, laidKinds := [.data, .data, .data, .data, .sentinel, .sentinel, .pinned], laidTests := true, laidLooks := .later }
def FnExactReadCrowdCardSaid : Prop := Claim7.holds Tryd.pinned (.plain (OpenSpec.ofChange fnExactReadCrowdSpec)) fnExactReadCrowdCard

/-- THE TIED CARD OF 'laws.FnExactReadGame'. -/
def fnExactReadGameCard : Claim7 := { stood := { row := fnExactReadGameRow, standIns := [], harness := (true, "a27b86ca5a16df98c61fa6b891c89518d0fe4505ba0b83e9772b586daf70c681"), looks := true }, kinds := [], alts := [], laidByText := true, laidKinds := [.data, .data, .data, .data, .sentinel, .sentinel, .pinned], laidTests := true, laidLooks := .later }
def FnExactReadGameCardSaid : Prop := Claim7.holds Tryd.pinned (.plain (OpenSpec.ofChange fnExactReadGameSpec)) fnExactReadGameCard

/-- THE SECOND FORM's CARD OF 'laws.FnExactJournalOf'. -/
def fnExactJournalOfUptoCard : Claim7 := { stood := { row := fnExactJournalOfUptoRow, standIns := [], harness := (true, "a27b86ca5a16df98c61fa6b891c89518d0fe4505ba0b83e9772b586daf70c681"), looks := true }, kinds := [], alts := [], laidByText := true, laidKinds := [.data, .data, .data], laidTests := true, laidLooks := .later }
def FnExactJournalOfUptoCardSaid : Prop := Claim7.holds Tryd.pinned (.plain (OpenSpec.upto fnExactJournalOfSpec)) fnExactJournalOfUptoCard

/-- THE SECOND FORM's CARD OF 'laws.FnExactRecoverJournal'. -/
def fnExactRecoverJournalUptoCard : Claim7 := { stood := { row := fnExactRecoverJournalUptoRow, standIns := [], harness := (true, "a27b86ca5a16df98c61fa6b891c89518d0fe4505ba0b83e9772b586daf70c681"), looks := true }, kinds := [], alts := [], laidByText := true, laidKinds := [.data, .data, .data], laidTests := true, laidLooks := .later }
def FnExactRecoverJournalUptoCardSaid : Prop := Claim7.holds Tryd.pinned (.plain (OpenSpec.upto fnExactRecoverJournalSpec)) fnExactRecoverJournalUptoCard

/-- THE SECOND FORM's CARD OF 'laws.FnExactReadValues'. -/
def fnExactReadValuesUptoCard : Claim7 := { stood := { row := fnExactReadValuesUptoRow, standIns := [], harness := (true, "a27b86ca5a16df98c61fa6b891c89518d0fe4505ba0b83e9772b586daf70c681"), looks := true }, kinds := [], alts := [], laidByText := true, laidKinds := [.data, .data, .data, .data, .sentinel, .sentinel, .pinned], laidTests := true, laidLooks := .later }
def FnExactReadValuesUptoCardSaid : Prop := Claim7.holds Tryd.pinned (.plain (OpenSpec.upto fnExactReadValuesSpec)) fnExactReadValuesUptoCard

/-- THE SECOND FORM's CARD OF 'laws.FnExactReadCrowd'. -/
def fnExactReadCrowdUptoCard : Claim7 := { stood := { row := fnExactReadCrowdUptoRow, standIns := [], harness := (true, "a27b86ca5a16df98c61fa6b891c89518d0fe4505ba0b83e9772b586daf70c681"), looks := true }, kinds := [], alts := [], laidByText := true, laidKinds := [.data, .data, .data, .data, .sentinel, .sentinel, .pinned], laidTests := true, laidLooks := .later }
def FnExactReadCrowdUptoCardSaid : Prop := Claim7.holds Tryd.pinned (.plain (OpenSpec.upto fnExactReadCrowdSpec)) fnExactReadCrowdUptoCard

/-- THE SECOND FORM's CARD OF 'laws.FnExactReadGame'. -/
def fnExactReadGameUptoCard : Claim7 := { stood := { row := fnExactReadGameUptoRow, standIns := [], harness := (true, "a27b86ca5a16df98c61fa6b891c89518d0fe4505ba0b83e9772b586daf70c681"), looks := true }, kinds := [], alts := [], laidByText := true, laidKinds := [.data, .data, .data, .data, .sentinel, .sentinel, .pinned], laidTests := true, laidLooks := .later }
def FnExactReadGameUptoCardSaid : Prop := Claim7.holds Tryd.pinned (.plain (OpenSpec.upto fnExactReadGameSpec)) fnExactReadGameUptoCard
end Rows
end Go.Proofs.YtiimhpopcgiejaaDoor
