/-
  DERIVED. GIVEN WITH THE SEED: THE CARDS: each row of YtbknhgapjjaelaaGreatDoorRows.lean that lists a variable, with what it lists TIED to the program's text (the seventh form; the later family's looks); each row that meets fmt, with fmt's text TOLD by the authors' own Lean function (tested against real Go, not proved from fmt's source: count such statements apart). THE CARD IS WHAT COUNTS. Prove the row's statement (the work); the ties are given (YtbknhgapjjaelaaGreatDoorTie.lean); close each card by the builder's one call (the guide's Derived/Test/ToyasCard.lean, 'card_holds'). Laid BY PROGRAM, IN A SANDBOX (cutbox-door.mjs). By AI agents, Wed Nov 11 2026. No macro, syntax, notation, axiom, sorry.
-/
import Derived.Test.YtbknhgapjjaelaaGreatDoorRows
import GoSem.ClaimSeven
namespace Go.Proofs.YtbknhgapjjaelaaGreatDoor
namespace Rows

/-- THE TIED CARD OF 'laws.FnDesk'. -/
def fnDeskCard : Claim7 := { stood := { row := fnDeskRow, standIns := [], harness := (true, "d32c3bbf0b3a3ea45967f0924d819fbfba9c7429270ff01fde821abb4fcf8b8b"), looks := true }, kinds := [], alts := [], laidByText := true, laidKinds := [.data, .data, .data, .data, .sentinel, .sentinel, .pinned], laidTests := true, laidLooks := .later }
def FnDeskCardSaid : Prop := Claim7.holds Tryz.pinned (.plain (OpenSpec.ofChange fnDeskSpec)) fnDeskCard

/-- THE TIED CARD OF 'laws.FnJournal'. -/
def fnJournalCard : Claim7 := { stood := { row := fnJournalRow, standIns := [], harness := (true, "d32c3bbf0b3a3ea45967f0924d819fbfba9c7429270ff01fde821abb4fcf8b8b"), looks := true }, kinds := [], alts := [], laidByText := true, laidKinds := [.data, .data, .data, .data, .sentinel, .sentinel, .pinned], laidTests := true, laidLooks := .later }
def FnJournalCardSaid : Prop := Claim7.holds Tryz.pinned (.plain (OpenSpec.ofChange fnJournalSpec)) fnJournalCard

/-- THE SECOND FORM's CARD OF 'laws.FnDesk'. -/
def fnDeskUptoCard : Claim7 := { stood := { row := fnDeskUptoRow, standIns := [], harness := (true, "d32c3bbf0b3a3ea45967f0924d819fbfba9c7429270ff01fde821abb4fcf8b8b"), looks := true }, kinds := [], alts := [], laidByText := true, laidKinds := [.data, .data, .data, .data, .sentinel, .sentinel, .pinned], laidTests := true, laidLooks := .later }
def FnDeskUptoCardSaid : Prop := Claim7.holds Tryz.pinned (.plain (OpenSpec.upto fnDeskSpec)) fnDeskUptoCard

/-- THE SECOND FORM's CARD OF 'laws.FnJournal'. -/
def fnJournalUptoCard : Claim7 := { stood := { row := fnJournalUptoRow, standIns := [], harness := (true, "d32c3bbf0b3a3ea45967f0924d819fbfba9c7429270ff01fde821abb4fcf8b8b"), looks := true }, kinds := [], alts := [], laidByText := true, laidKinds := [.data, .data, .data, .data, .sentinel, .sentinel, .pinned], laidTests := true, laidLooks := .later }
def FnJournalUptoCardSaid : Prop := Claim7.holds Tryz.pinned (.plain (OpenSpec.upto fnJournalSpec)) fnJournalUptoCard
end Rows
end Go.Proofs.YtbknhgapjjaelaaGreatDoor
