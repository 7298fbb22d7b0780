/-
  No cell of these rows narrows 'for every input' (looked for: loops, veiled, ifaces, maps, wideKeys, modest, calm, conditions, laid).
  DERIVED. THE GIVEN ROWS OF THIS SEAT. 9 by the template 'for every input the law returns true; each argument reads behind the call as it read before'; 0 by the template 'total and deterministic' (their statements: YtiidgdfclgcmpaaTotals.lean).
  GIVEN WITH THE SEED: the statements are not yours to turn. If you find one false, say at which input.
  Laid BY PROGRAM, IN A SANDBOX (cutbox-rows.mjs): the forced cells as the released guide's own fill.sh prints them over the translation 07a4a23a619f77e7… (all of the seat's roots in one cut). By AI agents, Wed Nov 11 2026. No macro, syntax, notation, axiom, sorry.
-/
import Derived.Test.YtiidgdfclgcmpaaChecked
import GoSem.Claim
import GoSem.ClaimJoined
import GoSem.ClaimMapViews
import Derived.JoinedTies
import Derived.KernelRfl
namespace Go.Proofs.Ytiidgdfclgcmpaa
/- THE CELL 'sum', in the pinned program and in every row, IS THE sha256 OF THE DUMP (.gsa) THAT YtiidgdfclgcmpaaProg.lean LOADS. Nothing in Lean hashes anything: it is a label: what it is worth is what the hold of that sum in a sandbox is worth. -/
noncomputable def Try.pinned : Pinned := { name := "ytiidgdfclgcmpaa", sum := "07a4a23a619f77e71218c4f27fd7f65a2e394bd5173c202ae72ed2f66c6d277c", checked := Try.checked }
namespace Rows
def none {H : Type} : Left H := { results := [], args := [] }

/-- 'laws.FnExactQuotientSeats': WHATEVER THE INPUT: true; the input reads as it did. -/
def fnExactQuotientSeatsSpec : ChangeSpec := { name := "fnExactQuotientSeats", fn := fun _ => fun
  | [d1, d2, d3] => { results := [.lit (.bool true)], args := [d1, d2, d3] }
  | _ => none }
def fnExactQuotientSeatsRow : OpenClaim := { program := "ytiidgdfclgcmpaa", sum := "07a4a23a619f77e71218c4f27fd7f65a2e394bd5173c202ae72ed2f66c6d277c", func := "loop.example/g01365/laws.FnExactQuotientSeats", spec := "fnExactQuotientSeats", unfollowed := true, recurses := true, apart := false }
def FnExactQuotientSeatsSaid : Prop := fnExactQuotientSeatsRow.holds Try.pinned (OpenSpec.ofChange fnExactQuotientSeatsSpec)

/-- ITS FALSE NEIGHBOUR: 'it returns false'. Refute it at one input. -/
def fnExactQuotientSeatsWrong : ChangeSpec := { name := "fnExactQuotientSeats", fn := fun _ => fun
  | [d1, d2, d3] => { results := [.lit (.bool false)], args := [d1, d2, d3] }
  | _ => none }
def FnExactQuotientSeatsWrongFalsely : Prop := fnExactQuotientSeatsRow.holds Try.pinned (OpenSpec.ofChange fnExactQuotientSeatsWrong)

/-- 'laws.FnExactPointsOf': WHATEVER THE INPUT: true; the input reads as it did. -/
def fnExactPointsOfSpec : ChangeSpec := { name := "fnExactPointsOf", fn := fun _ => fun
  | [d] => { results := [.lit (.bool true)], args := [d] }
  | _ => none }
def fnExactPointsOfRow : OpenClaim := { program := "ytiidgdfclgcmpaa", sum := "07a4a23a619f77e71218c4f27fd7f65a2e394bd5173c202ae72ed2f66c6d277c", func := "loop.example/g01365/laws.FnExactPointsOf", spec := "fnExactPointsOf", unfollowed := true, recurses := true, apart := false }
def FnExactPointsOfSaid : Prop := fnExactPointsOfRow.holds Try.pinned (OpenSpec.ofChange fnExactPointsOfSpec)

/-- ITS FALSE NEIGHBOUR: 'it returns false'. Refute it at one input. -/
def fnExactPointsOfWrong : ChangeSpec := { name := "fnExactPointsOf", fn := fun _ => fun
  | [d] => { results := [.lit (.bool false)], args := [d] }
  | _ => none }
def FnExactPointsOfWrongFalsely : Prop := fnExactPointsOfRow.holds Try.pinned (OpenSpec.ofChange fnExactPointsOfWrong)

/-- 'laws.FnExactPairsOf': WHATEVER THE INPUT: true; the input reads as it did. -/
def fnExactPairsOfSpec : ChangeSpec := { name := "fnExactPairsOf", fn := fun _ => fun
  | [d] => { results := [.lit (.bool true)], args := [d] }
  | _ => none }
def fnExactPairsOfRow : OpenClaim := { program := "ytiidgdfclgcmpaa", sum := "07a4a23a619f77e71218c4f27fd7f65a2e394bd5173c202ae72ed2f66c6d277c", func := "loop.example/g01365/laws.FnExactPairsOf", spec := "fnExactPairsOf", unfollowed := true, recurses := true, apart := false }
def FnExactPairsOfSaid : Prop := fnExactPairsOfRow.holds Try.pinned (OpenSpec.ofChange fnExactPairsOfSpec)

/-- ITS FALSE NEIGHBOUR: 'it returns false'. Refute it at one input. -/
def fnExactPairsOfWrong : ChangeSpec := { name := "fnExactPairsOf", fn := fun _ => fun
  | [d] => { results := [.lit (.bool false)], args := [d] }
  | _ => none }
def FnExactPairsOfWrongFalsely : Prop := fnExactPairsOfRow.holds Try.pinned (OpenSpec.ofChange fnExactPairsOfWrong)

/-- 'laws.FnExactPairWinner': WHATEVER THE INPUT: true; the input reads as it did. -/
def fnExactPairWinnerSpec : ChangeSpec := { name := "fnExactPairWinner", fn := fun _ => fun
  | [d] => { results := [.lit (.bool true)], args := [d] }
  | _ => none }
def fnExactPairWinnerRow : OpenClaim := { program := "ytiidgdfclgcmpaa", sum := "07a4a23a619f77e71218c4f27fd7f65a2e394bd5173c202ae72ed2f66c6d277c", func := "loop.example/g01365/laws.FnExactPairWinner", spec := "fnExactPairWinner", unfollowed := true, recurses := true, apart := false }
def FnExactPairWinnerSaid : Prop := fnExactPairWinnerRow.holds Try.pinned (OpenSpec.ofChange fnExactPairWinnerSpec)

/-- ITS FALSE NEIGHBOUR: 'it returns false'. Refute it at one input. -/
def fnExactPairWinnerWrong : ChangeSpec := { name := "fnExactPairWinner", fn := fun _ => fun
  | [d] => { results := [.lit (.bool false)], args := [d] }
  | _ => none }
def FnExactPairWinnerWrongFalsely : Prop := fnExactPairWinnerRow.holds Try.pinned (OpenSpec.ofChange fnExactPairWinnerWrong)

/-- 'laws.FnBallots': WHATEVER THE INPUT: true; the input reads as it did. -/
def fnBallotsSpec : ChangeSpec := { name := "fnBallots", fn := fun _ => fun
  | [d1, d2] => { results := [.lit (.bool true)], args := [d1, d2] }
  | _ => none }
def fnBallotsRow : OpenClaim := { program := "ytiidgdfclgcmpaa", sum := "07a4a23a619f77e71218c4f27fd7f65a2e394bd5173c202ae72ed2f66c6d277c", func := "loop.example/g01365/laws.FnBallots", spec := "fnBallots", unfollowed := true, recurses := true, apart := false }
def FnBallotsSaid : Prop := fnBallotsRow.holds Try.pinned (OpenSpec.ofChange fnBallotsSpec)

/-- ITS FALSE NEIGHBOUR: 'it returns false'. Refute it at one input. -/
def fnBallotsWrong : ChangeSpec := { name := "fnBallots", fn := fun _ => fun
  | [d1, d2] => { results := [.lit (.bool false)], args := [d1, d2] }
  | _ => none }
def FnBallotsWrongFalsely : Prop := fnBallotsRow.holds Try.pinned (OpenSpec.ofChange fnBallotsWrong)

/-- 'laws.FnExactRoundsOf': WHATEVER THE INPUT: true; the input reads as it did. -/
def fnExactRoundsOfSpec : ChangeSpec := { name := "fnExactRoundsOf", fn := fun _ => fun
  | [d] => { results := [.lit (.bool true)], args := [d] }
  | _ => none }
def fnExactRoundsOfRow : OpenClaim := { program := "ytiidgdfclgcmpaa", sum := "07a4a23a619f77e71218c4f27fd7f65a2e394bd5173c202ae72ed2f66c6d277c", func := "loop.example/g01365/laws.FnExactRoundsOf", spec := "fnExactRoundsOf", unfollowed := true, recurses := true, apart := false }
def FnExactRoundsOfSaid : Prop := fnExactRoundsOfRow.holds Try.pinned (OpenSpec.ofChange fnExactRoundsOfSpec)

/-- ITS FALSE NEIGHBOUR: 'it returns false'. Refute it at one input. -/
def fnExactRoundsOfWrong : ChangeSpec := { name := "fnExactRoundsOf", fn := fun _ => fun
  | [d] => { results := [.lit (.bool false)], args := [d] }
  | _ => none }
def FnExactRoundsOfWrongFalsely : Prop := fnExactRoundsOfRow.holds Try.pinned (OpenSpec.ofChange fnExactRoundsOfWrong)

/-- 'laws.FnExactRestSeats': WHATEVER THE INPUT: true; the input reads as it did. -/
def fnExactRestSeatsSpec : ChangeSpec := { name := "fnExactRestSeats", fn := fun _ => fun
  | [d1, d2] => { results := [.lit (.bool true)], args := [d1, d2] }
  | _ => none }
def fnExactRestSeatsRow : OpenClaim := { program := "ytiidgdfclgcmpaa", sum := "07a4a23a619f77e71218c4f27fd7f65a2e394bd5173c202ae72ed2f66c6d277c", func := "loop.example/g01365/laws.FnExactRestSeats", spec := "fnExactRestSeats", unfollowed := true, recurses := true, apart := false }
def FnExactRestSeatsSaid : Prop := fnExactRestSeatsRow.holds Try.pinned (OpenSpec.ofChange fnExactRestSeatsSpec)

/-- ITS FALSE NEIGHBOUR: 'it returns false'. Refute it at one input. -/
def fnExactRestSeatsWrong : ChangeSpec := { name := "fnExactRestSeats", fn := fun _ => fun
  | [d1, d2] => { results := [.lit (.bool false)], args := [d1, d2] }
  | _ => none }
def FnExactRestSeatsWrongFalsely : Prop := fnExactRestSeatsRow.holds Try.pinned (OpenSpec.ofChange fnExactRestSeatsWrong)

/-- 'laws.FnExactSeatLost': WHATEVER THE INPUT: true; the input reads as it did. -/
def fnExactSeatLostSpec : ChangeSpec := { name := "fnExactSeatLost", fn := fun _ => fun
  | [d1, d2] => { results := [.lit (.bool true)], args := [d1, d2] }
  | _ => none }
def fnExactSeatLostRow : OpenClaim := { program := "ytiidgdfclgcmpaa", sum := "07a4a23a619f77e71218c4f27fd7f65a2e394bd5173c202ae72ed2f66c6d277c", func := "loop.example/g01365/laws.FnExactSeatLost", spec := "fnExactSeatLost", unfollowed := true, recurses := true, apart := false }
def FnExactSeatLostSaid : Prop := fnExactSeatLostRow.holds Try.pinned (OpenSpec.ofChange fnExactSeatLostSpec)

/-- ITS FALSE NEIGHBOUR: 'it returns false'. Refute it at one input. -/
def fnExactSeatLostWrong : ChangeSpec := { name := "fnExactSeatLost", fn := fun _ => fun
  | [d1, d2] => { results := [.lit (.bool false)], args := [d1, d2] }
  | _ => none }
def FnExactSeatLostWrongFalsely : Prop := fnExactSeatLostRow.holds Try.pinned (OpenSpec.ofChange fnExactSeatLostWrong)

/-- 'laws.FnSeats': WHATEVER THE INPUT: true; the input reads as it did. -/
def fnSeatsSpec : ChangeSpec := { name := "fnSeats", fn := fun _ => fun
  | [d1, d2] => { results := [.lit (.bool true)], args := [d1, d2] }
  | _ => none }
def fnSeatsRow : OpenClaim := { program := "ytiidgdfclgcmpaa", sum := "07a4a23a619f77e71218c4f27fd7f65a2e394bd5173c202ae72ed2f66c6d277c", func := "loop.example/g01365/laws.FnSeats", spec := "fnSeats", unfollowed := true, recurses := true, apart := false }
def FnSeatsSaid : Prop := fnSeatsRow.holds Try.pinned (OpenSpec.ofChange fnSeatsSpec)

/-- ITS FALSE NEIGHBOUR: 'it returns false'. Refute it at one input. -/
def fnSeatsWrong : ChangeSpec := { name := "fnSeats", fn := fun _ => fun
  | [d1, d2] => { results := [.lit (.bool false)], args := [d1, d2] }
  | _ => none }
def FnSeatsWrongFalsely : Prop := fnSeatsRow.holds Try.pinned (OpenSpec.ofChange fnSeatsWrong)

/- THE SECOND FORM. 'bulk': how many values and letters a reading holds, each counted each time it is reached (what is shared counts as often as it is met; a slice's spare places count too). A statement '..UptoSaid' is the law's where the arguments, and the package variables that the reading takes, are together of bulk at most 1048576: NARROWER than '..Said'. Prove '..Said' where nothing that the law and all that it calls make is longer than what came in: it says more and counts as full. Else prove '..UptoSaid'. A law counts once. -/
mutual
def uptoBulk {H : Type} : DataW H → Nat
  | .lit (.string bytes) => bytes.length + 1
  | .lit _ => 1
  | .nil => 1
  | .ptr d => uptoBulk d + 1
  | .slice elems spare => uptoBulkAll elems + uptoBulkAll spare + 1
  | .agg parts => uptoBulkAll parts + 1
  | .iface _ d => uptoBulk d + 1
  | .map entries => uptoBulkEntries entries + 1
  | .held _ => 1
def uptoBulkAll {H : Type} : List (DataW H) → Nat
  | [] => 0
  | d :: r => uptoBulk d + uptoBulkAll r
def uptoBulkEntries {H : Type} : List (Lit × DataW H) → Nat
  | [] => 0
  | x :: r => uptoBulkEntry x + uptoBulkEntries r
def uptoBulkEntry {H : Type} : Lit × DataW H → Nat
  | (.string bytes, d) => bytes.length + uptoBulk d + 1
  | (_, d) => uptoBulk d + 1
 end
def uptoSmall : (H : Type) → List (DataW H) → Bool := fun _ ds => decide (uptoBulkAll ds ≤ 1048576)
def OpenSpec.upto (s : _root_.Go.ChangeSpec) : _root_.Go.OpenSpec := { _root_.Go.OpenSpec.ofChange s with cond := some uptoSmall }

/-- 'laws.FnExactQuotientSeats', WHERE WHAT IT READS IS OF BULK AT MOST 1048576: true; the input reads as it did. -/
def fnExactQuotientSeatsUptoRow : OpenClaim := { program := "ytiidgdfclgcmpaa", sum := "07a4a23a619f77e71218c4f27fd7f65a2e394bd5173c202ae72ed2f66c6d277c", func := "loop.example/g01365/laws.FnExactQuotientSeats", spec := "fnExactQuotientSeats", unfollowed := true, recurses := true, apart := false, narrowed := true }
def FnExactQuotientSeatsUptoSaid : Prop := fnExactQuotientSeatsUptoRow.holds Try.pinned (OpenSpec.upto fnExactQuotientSeatsSpec)

/-- 'laws.FnExactPointsOf', WHERE WHAT IT READS IS OF BULK AT MOST 1048576: true; the input reads as it did. -/
def fnExactPointsOfUptoRow : OpenClaim := { program := "ytiidgdfclgcmpaa", sum := "07a4a23a619f77e71218c4f27fd7f65a2e394bd5173c202ae72ed2f66c6d277c", func := "loop.example/g01365/laws.FnExactPointsOf", spec := "fnExactPointsOf", unfollowed := true, recurses := true, apart := false, narrowed := true }
def FnExactPointsOfUptoSaid : Prop := fnExactPointsOfUptoRow.holds Try.pinned (OpenSpec.upto fnExactPointsOfSpec)

/-- 'laws.FnExactPairsOf', WHERE WHAT IT READS IS OF BULK AT MOST 1048576: true; the input reads as it did. -/
def fnExactPairsOfUptoRow : OpenClaim := { program := "ytiidgdfclgcmpaa", sum := "07a4a23a619f77e71218c4f27fd7f65a2e394bd5173c202ae72ed2f66c6d277c", func := "loop.example/g01365/laws.FnExactPairsOf", spec := "fnExactPairsOf", unfollowed := true, recurses := true, apart := false, narrowed := true }
def FnExactPairsOfUptoSaid : Prop := fnExactPairsOfUptoRow.holds Try.pinned (OpenSpec.upto fnExactPairsOfSpec)

/-- 'laws.FnExactPairWinner', WHERE WHAT IT READS IS OF BULK AT MOST 1048576: true; the input reads as it did. -/
def fnExactPairWinnerUptoRow : OpenClaim := { program := "ytiidgdfclgcmpaa", sum := "07a4a23a619f77e71218c4f27fd7f65a2e394bd5173c202ae72ed2f66c6d277c", func := "loop.example/g01365/laws.FnExactPairWinner", spec := "fnExactPairWinner", unfollowed := true, recurses := true, apart := false, narrowed := true }
def FnExactPairWinnerUptoSaid : Prop := fnExactPairWinnerUptoRow.holds Try.pinned (OpenSpec.upto fnExactPairWinnerSpec)

/-- 'laws.FnBallots', WHERE WHAT IT READS IS OF BULK AT MOST 1048576: true; the input reads as it did. -/
def fnBallotsUptoRow : OpenClaim := { program := "ytiidgdfclgcmpaa", sum := "07a4a23a619f77e71218c4f27fd7f65a2e394bd5173c202ae72ed2f66c6d277c", func := "loop.example/g01365/laws.FnBallots", spec := "fnBallots", unfollowed := true, recurses := true, apart := false, narrowed := true }
def FnBallotsUptoSaid : Prop := fnBallotsUptoRow.holds Try.pinned (OpenSpec.upto fnBallotsSpec)

/-- 'laws.FnExactRoundsOf', WHERE WHAT IT READS IS OF BULK AT MOST 1048576: true; the input reads as it did. -/
def fnExactRoundsOfUptoRow : OpenClaim := { program := "ytiidgdfclgcmpaa", sum := "07a4a23a619f77e71218c4f27fd7f65a2e394bd5173c202ae72ed2f66c6d277c", func := "loop.example/g01365/laws.FnExactRoundsOf", spec := "fnExactRoundsOf", unfollowed := true, recurses := true, apart := false, narrowed := true }
def FnExactRoundsOfUptoSaid : Prop := fnExactRoundsOfUptoRow.holds Try.pinned (OpenSpec.upto fnExactRoundsOfSpec)

/-- 'laws.FnExactRestSeats', WHERE WHAT IT READS IS OF BULK AT MOST 1048576: true; the input reads as it did. -/
def fnExactRestSeatsUptoRow : OpenClaim := { program := "ytiidgdfclgcmpaa", sum := "07a4a23a619f77e71218c4f27fd7f65a2e394bd5173c202ae72ed2f66c6d277c", func := "loop.example/g01365/laws.FnExactRestSeats", spec := "fnExactRestSeats", unfollowed := true, recurses := true, apart := false, narrowed := true }
def FnExactRestSeatsUptoSaid : Prop := fnExactRestSeatsUptoRow.holds Try.pinned (OpenSpec.upto fnExactRestSeatsSpec)

/-- 'laws.FnExactSeatLost', WHERE WHAT IT READS IS OF BULK AT MOST 1048576: true; the input reads as it did. -/
def fnExactSeatLostUptoRow : OpenClaim := { program := "ytiidgdfclgcmpaa", sum := "07a4a23a619f77e71218c4f27fd7f65a2e394bd5173c202ae72ed2f66c6d277c", func := "loop.example/g01365/laws.FnExactSeatLost", spec := "fnExactSeatLost", unfollowed := true, recurses := true, apart := false, narrowed := true }
def FnExactSeatLostUptoSaid : Prop := fnExactSeatLostUptoRow.holds Try.pinned (OpenSpec.upto fnExactSeatLostSpec)

/-- 'laws.FnSeats', WHERE WHAT IT READS IS OF BULK AT MOST 1048576: true; the input reads as it did. -/
def fnSeatsUptoRow : OpenClaim := { program := "ytiidgdfclgcmpaa", sum := "07a4a23a619f77e71218c4f27fd7f65a2e394bd5173c202ae72ed2f66c6d277c", func := "loop.example/g01365/laws.FnSeats", spec := "fnSeats", unfollowed := true, recurses := true, apart := false, narrowed := true }
def FnSeatsUptoSaid : Prop := fnSeatsUptoRow.holds Try.pinned (OpenSpec.upto fnSeatsSpec)

end Rows
end Go.Proofs.Ytiidgdfclgcmpaa
