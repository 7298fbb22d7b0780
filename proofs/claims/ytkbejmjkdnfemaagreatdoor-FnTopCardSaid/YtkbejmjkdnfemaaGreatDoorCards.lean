/-
  DERIVED. GIVEN WITH THE SEED: THE CARDS: each row of YtkbejmjkdnfemaaGreatDoorRows.lean that lists a variable, with what it lists TIED to the program's text (the seventh form; the later family's looks); each row that meets fmt, with fmt's text TOLD by the authors' own Lean function (tested against real Go, not proved from fmt's source: count such statements apart). THE CARD IS WHAT COUNTS. Prove the row's statement (the work); the ties are given (YtkbejmjkdnfemaaGreatDoorTie.lean); close each card by the builder's one call (the guide's Derived/Test/ToyasCard.lean, 'card_holds'). Laid BY PROGRAM, IN A SANDBOX (cutbox-door.mjs). By AI agents, Wed Nov 11 2026. No macro, syntax, notation, axiom, sorry.
-/
import Derived.Test.YtkbejmjkdnfemaaGreatDoorRows
import GoSem.ClaimSeven
namespace Go.Proofs.YtkbejmjkdnfemaaGreatDoor
namespace Rows

/-- THE TIED CARD OF 'laws.FnTop'. -/
def fnTopCard : Claim7 := { stood := { row := fnTopRow, standIns := [], harness := (true, "fd3f0f384f2e56b4fbb787ee2df6fa9f5f101d62cbdfaf8e8d18d1a0467556cb"), looks := true }, kinds := [], alts := [], laidByText := true, laidKinds := [.data, .data, .data, .data, .sentinel, .sentinel, .pinned], laidTests := true, laidLooks := .later }
def FnTopCardSaid : Prop := Claim7.holds Tryz.pinned (.plain (OpenSpec.ofChange fnTopSpec)) fnTopCard

/-- THE TIED CARD OF 'laws.FnDesk'. -/
def fnDeskCard : Claim7 := { stood := { row := fnDeskRow, standIns := [], harness := (true, "fd3f0f384f2e56b4fbb787ee2df6fa9f5f101d62cbdfaf8e8d18d1a0467556cb"), looks := true }, kinds := [], alts := [], laidByText := true, laidKinds := [.data, .data, .data, .data, .sentinel, .sentinel, .pinned], laidTests := true, laidLooks := .later }
def FnDeskCardSaid : Prop := Claim7.holds Tryz.pinned (.plain (OpenSpec.ofChange fnDeskSpec)) fnDeskCard

/-- THE TIED CARD OF 'laws.FnJournal'. -/
def fnJournalCard : Claim7 := { stood := { row := fnJournalRow, standIns := [], harness := (true, "fd3f0f384f2e56b4fbb787ee2df6fa9f5f101d62cbdfaf8e8d18d1a0467556cb"), looks := true }, kinds := [], alts := [], laidByText := true, laidKinds := [.data, .data, .data, .data, .sentinel, .sentinel, .pinned], laidTests := true, laidLooks := .later }
def FnJournalCardSaid : Prop := Claim7.holds Tryz.pinned (.plain (OpenSpec.ofChange fnJournalSpec)) fnJournalCard

/-- THE TIED CARD OF 'laws.FnExactDeskCommand'. -/
def fnExactDeskCommandCard : Claim7 := { stood := { row := fnExactDeskCommandRow, standIns := [], harness := (true, "fd3f0f384f2e56b4fbb787ee2df6fa9f5f101d62cbdfaf8e8d18d1a0467556cb"), looks := true }, kinds := [], alts := [], laidByText := true, laidKinds := [.data, .data, .data, .data, .sentinel, .sentinel, .pinned], laidTests := true, laidLooks := .later }
def FnExactDeskCommandCardSaid : Prop := Claim7.holds Tryz.pinned (.plain (OpenSpec.ofChange fnExactDeskCommandSpec)) fnExactDeskCommandCard

/-- THE TIED CARD OF 'laws.FnExactRunDesk'. -/
def fnExactRunDeskCard : Claim7 := { stood := { row := fnExactRunDeskRow, standIns := [], harness := (true, "fd3f0f384f2e56b4fbb787ee2df6fa9f5f101d62cbdfaf8e8d18d1a0467556cb"), looks := true }, kinds := [], alts := [], laidByText := true, laidKinds := [.data, .data, .data, .data, .sentinel, .sentinel, .pinned], laidTests := true, laidLooks := .later }
def FnExactRunDeskCardSaid : Prop := Claim7.holds Tryz.pinned (.plain (OpenSpec.ofChange fnExactRunDeskSpec)) fnExactRunDeskCard

/-- THE TIED CARD OF 'laws.FnExactRunJournal'. -/
def fnExactRunJournalCard : Claim7 := { stood := { row := fnExactRunJournalRow, standIns := [], harness := (true, "fd3f0f384f2e56b4fbb787ee2df6fa9f5f101d62cbdfaf8e8d18d1a0467556cb"), looks := true }, kinds := [], alts := [], laidByText := true, laidKinds := [.data, .data, .data, .data, .sentinel, .sentinel, .pinned], laidTests := true, laidLooks := .later }
def FnExactRunJournalCardSaid : Prop := Claim7.holds Tryz.pinned (.plain (OpenSpec.ofChange fnExactRunJournalSpec)) fnExactRunJournalCard

/-- THE SECOND FORM's CARD OF 'laws.FnTop'. -/
def fnTopUptoCard : Claim7 := { stood := { row := fnTopUptoRow, standIns := [], harness := (true, "fd3f0f384f2e56b4fbb787ee2df6fa9f5f101d62cbdfaf8e8d18d1a0467556cb"), looks := true }, kinds := [], alts := [], laidByText := true, laidKinds := [.data, .data, .data, .data, .sentinel, .sentinel, .pinned], laidTests := true, laidLooks := .later }
def FnTopUptoCardSaid : Prop := Claim7.holds Tryz.pinned (.plain (OpenSpec.upto fnTopSpec)) fnTopUptoCard

/-- THE SECOND FORM's CARD OF 'laws.FnDesk'. -/
def fnDeskUptoCard : Claim7 := { stood := { row := fnDeskUptoRow, standIns := [], harness := (true, "fd3f0f384f2e56b4fbb787ee2df6fa9f5f101d62cbdfaf8e8d18d1a0467556cb"), looks := true }, kinds := [], alts := [], laidByText := true, laidKinds := [.data, .data, .data, .data, .sentinel, .sentinel, .pinned], laidTests := true, laidLooks := .later }
def FnDeskUptoCardSaid : Prop := Claim7.holds Tryz.pinned (.plain (OpenSpec.upto fnDeskSpec)) fnDeskUptoCard

/-- THE SECOND FORM's CARD OF 'laws.FnJournal'. -/
def fnJournalUptoCard : Claim7 := { stood := { row := fnJournalUptoRow, standIns := [], harness := (true, "fd3f0f384f2e56b4fbb787ee2df6fa9f5f101d62cbdfaf8e8d18d1a0467556cb"), looks := true }, kinds := [], alts := [], laidByText := true, laidKinds := [.data, .data, .data, .data, .sentinel, .sentinel, .pinned], laidTests := true, laidLooks := .later }
def FnJournalUptoCardSaid : Prop := Claim7.holds Tryz.pinned (.plain (OpenSpec.upto fnJournalSpec)) fnJournalUptoCard

/-- THE SECOND FORM's CARD OF 'laws.FnExactDeskCommand'. -/
def fnExactDeskCommandUptoCard : Claim7 := { stood := { row := fnExactDeskCommandUptoRow, standIns := [], harness := (true, "fd3f0f384f2e56b4fbb787ee2df6fa9f5f101d62cbdfaf8e8d18d1a0467556cb"), looks := true }, kinds := [], alts := [], laidByText := true, laidKinds := [.data, .data, .data, .data, .sentinel, .sentinel, .pinned], laidTests := true, laidLooks := .later }
def FnExactDeskCommandUptoCardSaid : Prop := Claim7.holds Tryz.pinned (.plain (OpenSpec.upto fnExactDeskCommandSpec)) fnExactDeskCommandUptoCard

/-- THE SECOND FORM's CARD OF 'laws.FnExactRunDesk'. -/
def fnExactRunDeskUptoCard : Claim7 := { stood := { row := fnExactRunDeskUptoRow, standIns := [], harness := (true, "fd3f0f384f2e56b4fbb787ee2df6fa9f5f101d62cbdfaf8e8d18d1a0467556cb"), looks := true }, kinds := [], alts := [], laidByText := true, laidKinds := [.data, .data, .data, .data, .sentinel, .sentinel, .pinned], laidTests := true, laidLooks := .later }
def FnExactRunDeskUptoCardSaid : Prop := Claim7.holds Tryz.pinned (.plain (OpenSpec.upto fnExactRunDeskSpec)) fnExactRunDeskUptoCard

/-- THE SECOND FORM's CARD OF 'laws.FnExactRunJournal'. -/
def fnExactRunJournalUptoCard : Claim7 := { stood := { row := fnExactRunJournalUptoRow, standIns := [], harness := (true, "fd3f0f384f2e56b4fbb787ee2df6fa9f5f101d62cbdfaf8e8d18d1a0467556cb"), looks := true }, kinds := [], alts := [], laidByText := true, laidKinds := [.data, .data, .data, .data, .sentinel, .sentinel, .pinned], laidTests := true, laidLooks := .later }
def FnExactRunJournalUptoCardSaid : Prop := Claim7.holds Tryz.pinned (.plain (OpenSpec.upto fnExactRunJournalSpec)) fnExactRunJournalUptoCard
end Rows
end Go.Proofs.YtkbejmjkdnfemaaGreatDoor
