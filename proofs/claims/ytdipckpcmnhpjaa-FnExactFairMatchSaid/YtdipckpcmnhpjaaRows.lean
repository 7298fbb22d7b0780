/-
  No cell of these rows narrows 'for every input' (looked for: loops, veiled, ifaces, maps, wideKeys, modest, calm, conditions, laid).
  DERIVED. THE GIVEN ROWS OF THIS SEAT. 12 by the template 'for every input the law returns true; each argument reads behind the call as it read before'; 0 by the template 'total and deterministic' (their statements: YtdipckpcmnhpjaaTotals.lean).
  GIVEN WITH THE SEED: the statements are not yours to turn. If you find one false, say at which input.
  Laid BY PROGRAM, IN A SANDBOX (cutbox-rows.mjs): the forced cells as the released guide's own fill.sh prints them over the translation 18514bf2ebaf76f2… (all of the seat's roots in one cut). By AI agents, Wed Nov 11 2026. No macro, syntax, notation, axiom, sorry.
-/
import Derived.Test.YtdipckpcmnhpjaaChecked
import GoSem.Claim
import GoSem.ClaimJoined
import GoSem.ClaimMapViews
import Derived.JoinedTies
import Derived.KernelRfl
namespace Go.Proofs.Ytdipckpcmnhpjaa
/- THE CELL 'sum', in the pinned program and in every row, IS THE sha256 OF THE DUMP (.gsa) THAT YtdipckpcmnhpjaaProg.lean LOADS. Nothing in Lean hashes anything: it is a label: what it is worth is what the hold of that sum in a sandbox is worth. -/
noncomputable def Try.pinned : Pinned := { name := "ytdipckpcmnhpjaa", sum := "18514bf2ebaf76f26e176f373f79c52c1cbb686dd3c0498ad325db0c87b8c14a", checked := Try.checked }
namespace Rows
def none {H : Type} : Left H := { results := [], args := [] }

/-- 'laws.FnExactIsMatch': WHATEVER THE INPUT: true; the input reads as it did. -/
def fnExactIsMatchSpec : ChangeSpec := { name := "fnExactIsMatch", fn := fun _ => fun
  | [d1, d2] => { results := [.lit (.bool true)], args := [d1, d2] }
  | _ => none }
def fnExactIsMatchRow : OpenClaim := { program := "ytdipckpcmnhpjaa", sum := "18514bf2ebaf76f26e176f373f79c52c1cbb686dd3c0498ad325db0c87b8c14a", func := "loop.example/g01365/laws.FnExactIsMatch", spec := "fnExactIsMatch", unfollowed := true, recurses := true, apart := false }
def FnExactIsMatchSaid : Prop := fnExactIsMatchRow.holds Try.pinned (OpenSpec.ofChange fnExactIsMatchSpec)

/-- ITS FALSE NEIGHBOUR: 'it returns false'. Refute it at one input. -/
def fnExactIsMatchWrong : ChangeSpec := { name := "fnExactIsMatch", fn := fun _ => fun
  | [d1, d2] => { results := [.lit (.bool false)], args := [d1, d2] }
  | _ => none }
def FnExactIsMatchWrongFalsely : Prop := fnExactIsMatchRow.holds Try.pinned (OpenSpec.ofChange fnExactIsMatchWrong)

/-- 'laws.FnExactBlockOf': WHATEVER THE INPUT: true; the input reads as it did. -/
def fnExactBlockOfSpec : ChangeSpec := { name := "fnExactBlockOf", fn := fun _ => fun
  | [d1, d2] => { results := [.lit (.bool true)], args := [d1, d2] }
  | _ => none }
def fnExactBlockOfRow : OpenClaim := { program := "ytdipckpcmnhpjaa", sum := "18514bf2ebaf76f26e176f373f79c52c1cbb686dd3c0498ad325db0c87b8c14a", func := "loop.example/g01365/laws.FnExactBlockOf", spec := "fnExactBlockOf", unfollowed := true, recurses := true, apart := false }
def FnExactBlockOfSaid : Prop := fnExactBlockOfRow.holds Try.pinned (OpenSpec.ofChange fnExactBlockOfSpec)

/-- ITS FALSE NEIGHBOUR: 'it returns false'. Refute it at one input. -/
def fnExactBlockOfWrong : ChangeSpec := { name := "fnExactBlockOf", fn := fun _ => fun
  | [d1, d2] => { results := [.lit (.bool false)], args := [d1, d2] }
  | _ => none }
def FnExactBlockOfWrongFalsely : Prop := fnExactBlockOfRow.holds Try.pinned (OpenSpec.ofChange fnExactBlockOfWrong)

/-- 'laws.FnExactIsStable': WHATEVER THE INPUT: true; the input reads as it did. -/
def fnExactIsStableSpec : ChangeSpec := { name := "fnExactIsStable", fn := fun _ => fun
  | [d1, d2] => { results := [.lit (.bool true)], args := [d1, d2] }
  | _ => none }
def fnExactIsStableRow : OpenClaim := { program := "ytdipckpcmnhpjaa", sum := "18514bf2ebaf76f26e176f373f79c52c1cbb686dd3c0498ad325db0c87b8c14a", func := "loop.example/g01365/laws.FnExactIsStable", spec := "fnExactIsStable", unfollowed := true, recurses := true, apart := false }
def FnExactIsStableSaid : Prop := fnExactIsStableRow.holds Try.pinned (OpenSpec.ofChange fnExactIsStableSpec)

/-- ITS FALSE NEIGHBOUR: 'it returns false'. Refute it at one input. -/
def fnExactIsStableWrong : ChangeSpec := { name := "fnExactIsStable", fn := fun _ => fun
  | [d1, d2] => { results := [.lit (.bool false)], args := [d1, d2] }
  | _ => none }
def FnExactIsStableWrongFalsely : Prop := fnExactIsStableRow.holds Try.pinned (OpenSpec.ofChange fnExactIsStableWrong)

/-- 'laws.FnExactSchoolBlock': WHATEVER THE INPUT: true; the input reads as it did. -/
def fnExactSchoolBlockSpec : ChangeSpec := { name := "fnExactSchoolBlock", fn := fun _ => fun
  | [d1, d2, d3] => { results := [.lit (.bool true)], args := [d1, d2, d3] }
  | _ => none }
def fnExactSchoolBlockRow : OpenClaim := { program := "ytdipckpcmnhpjaa", sum := "18514bf2ebaf76f26e176f373f79c52c1cbb686dd3c0498ad325db0c87b8c14a", func := "loop.example/g01365/laws.FnExactSchoolBlock", spec := "fnExactSchoolBlock", unfollowed := true, recurses := true, apart := false }
def FnExactSchoolBlockSaid : Prop := fnExactSchoolBlockRow.holds Try.pinned (OpenSpec.ofChange fnExactSchoolBlockSpec)

/-- ITS FALSE NEIGHBOUR: 'it returns false'. Refute it at one input. -/
def fnExactSchoolBlockWrong : ChangeSpec := { name := "fnExactSchoolBlock", fn := fun _ => fun
  | [d1, d2, d3] => { results := [.lit (.bool false)], args := [d1, d2, d3] }
  | _ => none }
def FnExactSchoolBlockWrongFalsely : Prop := fnExactSchoolBlockRow.holds Try.pinned (OpenSpec.ofChange fnExactSchoolBlockWrong)

/-- 'laws.FnExactJoinMatch': WHATEVER THE INPUT: true; the input reads as it did. -/
def fnExactJoinMatchSpec : ChangeSpec := { name := "fnExactJoinMatch", fn := fun _ => fun
  | [d1, d2, d3] => { results := [.lit (.bool true)], args := [d1, d2, d3] }
  | _ => none }
def fnExactJoinMatchRow : OpenClaim := { program := "ytdipckpcmnhpjaa", sum := "18514bf2ebaf76f26e176f373f79c52c1cbb686dd3c0498ad325db0c87b8c14a", func := "loop.example/g01365/laws.FnExactJoinMatch", spec := "fnExactJoinMatch", unfollowed := true, recurses := true, apart := false }
def FnExactJoinMatchSaid : Prop := fnExactJoinMatchRow.holds Try.pinned (OpenSpec.ofChange fnExactJoinMatchSpec)

/-- ITS FALSE NEIGHBOUR: 'it returns false'. Refute it at one input. -/
def fnExactJoinMatchWrong : ChangeSpec := { name := "fnExactJoinMatch", fn := fun _ => fun
  | [d1, d2, d3] => { results := [.lit (.bool false)], args := [d1, d2, d3] }
  | _ => none }
def FnExactJoinMatchWrongFalsely : Prop := fnExactJoinMatchRow.holds Try.pinned (OpenSpec.ofChange fnExactJoinMatchWrong)

/-- 'laws.FnExactMeetMatch': WHATEVER THE INPUT: true; the input reads as it did. -/
def fnExactMeetMatchSpec : ChangeSpec := { name := "fnExactMeetMatch", fn := fun _ => fun
  | [d1, d2, d3] => { results := [.lit (.bool true)], args := [d1, d2, d3] }
  | _ => none }
def fnExactMeetMatchRow : OpenClaim := { program := "ytdipckpcmnhpjaa", sum := "18514bf2ebaf76f26e176f373f79c52c1cbb686dd3c0498ad325db0c87b8c14a", func := "loop.example/g01365/laws.FnExactMeetMatch", spec := "fnExactMeetMatch", unfollowed := true, recurses := true, apart := false }
def FnExactMeetMatchSaid : Prop := fnExactMeetMatchRow.holds Try.pinned (OpenSpec.ofChange fnExactMeetMatchSpec)

/-- ITS FALSE NEIGHBOUR: 'it returns false'. Refute it at one input. -/
def fnExactMeetMatchWrong : ChangeSpec := { name := "fnExactMeetMatch", fn := fun _ => fun
  | [d1, d2, d3] => { results := [.lit (.bool false)], args := [d1, d2, d3] }
  | _ => none }
def FnExactMeetMatchWrongFalsely : Prop := fnExactMeetMatchRow.holds Try.pinned (OpenSpec.ofChange fnExactMeetMatchWrong)

/-- 'laws.FnExactAllStable': WHATEVER THE INPUT: true; the input reads as it did. -/
def fnExactAllStableSpec : ChangeSpec := { name := "fnExactAllStable", fn := fun _ => fun
  | [d] => { results := [.lit (.bool true)], args := [d] }
  | _ => none }
def fnExactAllStableRow : OpenClaim := { program := "ytdipckpcmnhpjaa", sum := "18514bf2ebaf76f26e176f373f79c52c1cbb686dd3c0498ad325db0c87b8c14a", func := "loop.example/g01365/laws.FnExactAllStable", spec := "fnExactAllStable", unfollowed := true, recurses := true, apart := false }
def FnExactAllStableSaid : Prop := fnExactAllStableRow.holds Try.pinned (OpenSpec.ofChange fnExactAllStableSpec)

/-- ITS FALSE NEIGHBOUR: 'it returns false'. Refute it at one input. -/
def fnExactAllStableWrong : ChangeSpec := { name := "fnExactAllStable", fn := fun _ => fun
  | [d] => { results := [.lit (.bool false)], args := [d] }
  | _ => none }
def FnExactAllStableWrongFalsely : Prop := fnExactAllStableRow.holds Try.pinned (OpenSpec.ofChange fnExactAllStableWrong)

/-- 'laws.FnExactTurnsOf': WHATEVER THE INPUT: true; the input reads as it did. -/
def fnExactTurnsOfSpec : ChangeSpec := { name := "fnExactTurnsOf", fn := fun _ => fun
  | [d1, d2] => { results := [.lit (.bool true)], args := [d1, d2] }
  | _ => none }
def fnExactTurnsOfRow : OpenClaim := { program := "ytdipckpcmnhpjaa", sum := "18514bf2ebaf76f26e176f373f79c52c1cbb686dd3c0498ad325db0c87b8c14a", func := "loop.example/g01365/laws.FnExactTurnsOf", spec := "fnExactTurnsOf", unfollowed := true, recurses := true, apart := false }
def FnExactTurnsOfSaid : Prop := fnExactTurnsOfRow.holds Try.pinned (OpenSpec.ofChange fnExactTurnsOfSpec)

/-- ITS FALSE NEIGHBOUR: 'it returns false'. Refute it at one input. -/
def fnExactTurnsOfWrong : ChangeSpec := { name := "fnExactTurnsOf", fn := fun _ => fun
  | [d1, d2] => { results := [.lit (.bool false)], args := [d1, d2] }
  | _ => none }
def FnExactTurnsOfWrongFalsely : Prop := fnExactTurnsOfRow.holds Try.pinned (OpenSpec.ofChange fnExactTurnsOfWrong)

/-- 'laws.FnExactFairMatch': WHATEVER THE INPUT: true; the input reads as it did. -/
def fnExactFairMatchSpec : ChangeSpec := { name := "fnExactFairMatch", fn := fun _ => fun
  | [d] => { results := [.lit (.bool true)], args := [d] }
  | _ => none }
def fnExactFairMatchRow : OpenClaim := { program := "ytdipckpcmnhpjaa", sum := "18514bf2ebaf76f26e176f373f79c52c1cbb686dd3c0498ad325db0c87b8c14a", func := "loop.example/g01365/laws.FnExactFairMatch", spec := "fnExactFairMatch", unfollowed := true, recurses := true, apart := false }
def FnExactFairMatchSaid : Prop := fnExactFairMatchRow.holds Try.pinned (OpenSpec.ofChange fnExactFairMatchSpec)

/-- ITS FALSE NEIGHBOUR: 'it returns false'. Refute it at one input. -/
def fnExactFairMatchWrong : ChangeSpec := { name := "fnExactFairMatch", fn := fun _ => fun
  | [d] => { results := [.lit (.bool false)], args := [d] }
  | _ => none }
def FnExactFairMatchWrongFalsely : Prop := fnExactFairMatchRow.holds Try.pinned (OpenSpec.ofChange fnExactFairMatchWrong)

/-- 'laws.FnExactTakeTurn': WHATEVER THE INPUT: true; the input reads as it did. -/
def fnExactTakeTurnSpec : ChangeSpec := { name := "fnExactTakeTurn", fn := fun _ => fun
  | [d1, d2, d3] => { results := [.lit (.bool true)], args := [d1, d2, d3] }
  | _ => none }
def fnExactTakeTurnRow : OpenClaim := { program := "ytdipckpcmnhpjaa", sum := "18514bf2ebaf76f26e176f373f79c52c1cbb686dd3c0498ad325db0c87b8c14a", func := "loop.example/g01365/laws.FnExactTakeTurn", spec := "fnExactTakeTurn", unfollowed := true, recurses := true, apart := false }
def FnExactTakeTurnSaid : Prop := fnExactTakeTurnRow.holds Try.pinned (OpenSpec.ofChange fnExactTakeTurnSpec)

/-- ITS FALSE NEIGHBOUR: 'it returns false'. Refute it at one input. -/
def fnExactTakeTurnWrong : ChangeSpec := { name := "fnExactTakeTurn", fn := fun _ => fun
  | [d1, d2, d3] => { results := [.lit (.bool false)], args := [d1, d2, d3] }
  | _ => none }
def FnExactTakeTurnWrongFalsely : Prop := fnExactTakeTurnRow.holds Try.pinned (OpenSpec.ofChange fnExactTakeTurnWrong)

/-- 'laws.FnLattices': WHATEVER THE INPUT: true; the input reads as it did. -/
def fnLatticesSpec : ChangeSpec := { name := "fnLattices", fn := fun _ => fun
  | [d1, d2] => { results := [.lit (.bool true)], args := [d1, d2] }
  | _ => none }
def fnLatticesRow : OpenClaim := { program := "ytdipckpcmnhpjaa", sum := "18514bf2ebaf76f26e176f373f79c52c1cbb686dd3c0498ad325db0c87b8c14a", func := "loop.example/g01365/laws.FnLattices", spec := "fnLattices", unfollowed := true, recurses := true, apart := false }
def FnLatticesSaid : Prop := fnLatticesRow.holds Try.pinned (OpenSpec.ofChange fnLatticesSpec)

/-- ITS FALSE NEIGHBOUR: 'it returns false'. Refute it at one input. -/
def fnLatticesWrong : ChangeSpec := { name := "fnLattices", fn := fun _ => fun
  | [d1, d2] => { results := [.lit (.bool false)], args := [d1, d2] }
  | _ => none }
def FnLatticesWrongFalsely : Prop := fnLatticesRow.holds Try.pinned (OpenSpec.ofChange fnLatticesWrong)

/-- 'laws.FnSchools': WHATEVER THE INPUT: true; the input reads as it did. -/
def fnSchoolsSpec : ChangeSpec := { name := "fnSchools", fn := fun _ => fun
  | [d1, d2] => { results := [.lit (.bool true)], args := [d1, d2] }
  | _ => none }
def fnSchoolsRow : OpenClaim := { program := "ytdipckpcmnhpjaa", sum := "18514bf2ebaf76f26e176f373f79c52c1cbb686dd3c0498ad325db0c87b8c14a", func := "loop.example/g01365/laws.FnSchools", spec := "fnSchools", unfollowed := true, recurses := true, apart := false }
def FnSchoolsSaid : Prop := fnSchoolsRow.holds Try.pinned (OpenSpec.ofChange fnSchoolsSpec)

/-- ITS FALSE NEIGHBOUR: 'it returns false'. Refute it at one input. -/
def fnSchoolsWrong : ChangeSpec := { name := "fnSchools", fn := fun _ => fun
  | [d1, d2] => { results := [.lit (.bool false)], args := [d1, d2] }
  | _ => none }
def FnSchoolsWrongFalsely : Prop := fnSchoolsRow.holds Try.pinned (OpenSpec.ofChange fnSchoolsWrong)

/- THE SECOND FORM. 'bulk': how many values and letters a reading holds, each counted each time it is reached (what is shared counts as often as it is met; a slice's spare places count too). A statement '..UptoSaid' is the law's where the arguments, and the package variables that the reading takes, are together of bulk at most 1048576: NARROWER than '..Said'. Prove '..Said' where nothing that the law and all that it calls make is longer than what came in: it says more and counts as full. Else prove '..UptoSaid'. A law counts once. -/
mutual
def uptoBulk {H : Type} : DataW H → Nat
  | .lit (.string bytes) => bytes.length + 1
  | .lit _ => 1
  | .nil => 1
  | .ptr d => uptoBulk d + 1
  | .slice elems spare => uptoBulkAll elems + uptoBulkAll spare + 1
  | .agg parts => uptoBulkAll parts + 1
  | .iface _ d => uptoBulk d + 1
  | .map entries => uptoBulkEntries entries + 1
  | .held _ => 1
def uptoBulkAll {H : Type} : List (DataW H) → Nat
  | [] => 0
  | d :: r => uptoBulk d + uptoBulkAll r
def uptoBulkEntries {H : Type} : List (Lit × DataW H) → Nat
  | [] => 0
  | x :: r => uptoBulkEntry x + uptoBulkEntries r
def uptoBulkEntry {H : Type} : Lit × DataW H → Nat
  | (.string bytes, d) => bytes.length + uptoBulk d + 1
  | (_, d) => uptoBulk d + 1
 end
def uptoSmall : (H : Type) → List (DataW H) → Bool := fun _ ds => decide (uptoBulkAll ds ≤ 1048576)
def OpenSpec.upto (s : _root_.Go.ChangeSpec) : _root_.Go.OpenSpec := { _root_.Go.OpenSpec.ofChange s with cond := some uptoSmall }

/-- 'laws.FnExactIsMatch', WHERE WHAT IT READS IS OF BULK AT MOST 1048576: true; the input reads as it did. -/
def fnExactIsMatchUptoRow : OpenClaim := { program := "ytdipckpcmnhpjaa", sum := "18514bf2ebaf76f26e176f373f79c52c1cbb686dd3c0498ad325db0c87b8c14a", func := "loop.example/g01365/laws.FnExactIsMatch", spec := "fnExactIsMatch", unfollowed := true, recurses := true, apart := false, narrowed := true }
def FnExactIsMatchUptoSaid : Prop := fnExactIsMatchUptoRow.holds Try.pinned (OpenSpec.upto fnExactIsMatchSpec)

/-- 'laws.FnExactBlockOf', WHERE WHAT IT READS IS OF BULK AT MOST 1048576: true; the input reads as it did. -/
def fnExactBlockOfUptoRow : OpenClaim := { program := "ytdipckpcmnhpjaa", sum := "18514bf2ebaf76f26e176f373f79c52c1cbb686dd3c0498ad325db0c87b8c14a", func := "loop.example/g01365/laws.FnExactBlockOf", spec := "fnExactBlockOf", unfollowed := true, recurses := true, apart := false, narrowed := true }
def FnExactBlockOfUptoSaid : Prop := fnExactBlockOfUptoRow.holds Try.pinned (OpenSpec.upto fnExactBlockOfSpec)

/-- 'laws.FnExactIsStable', WHERE WHAT IT READS IS OF BULK AT MOST 1048576: true; the input reads as it did. -/
def fnExactIsStableUptoRow : OpenClaim := { program := "ytdipckpcmnhpjaa", sum := "18514bf2ebaf76f26e176f373f79c52c1cbb686dd3c0498ad325db0c87b8c14a", func := "loop.example/g01365/laws.FnExactIsStable", spec := "fnExactIsStable", unfollowed := true, recurses := true, apart := false, narrowed := true }
def FnExactIsStableUptoSaid : Prop := fnExactIsStableUptoRow.holds Try.pinned (OpenSpec.upto fnExactIsStableSpec)

/-- 'laws.FnExactSchoolBlock', WHERE WHAT IT READS IS OF BULK AT MOST 1048576: true; the input reads as it did. -/
def fnExactSchoolBlockUptoRow : OpenClaim := { program := "ytdipckpcmnhpjaa", sum := "18514bf2ebaf76f26e176f373f79c52c1cbb686dd3c0498ad325db0c87b8c14a", func := "loop.example/g01365/laws.FnExactSchoolBlock", spec := "fnExactSchoolBlock", unfollowed := true, recurses := true, apart := false, narrowed := true }
def FnExactSchoolBlockUptoSaid : Prop := fnExactSchoolBlockUptoRow.holds Try.pinned (OpenSpec.upto fnExactSchoolBlockSpec)

/-- 'laws.FnExactJoinMatch', WHERE WHAT IT READS IS OF BULK AT MOST 1048576: true; the input reads as it did. -/
def fnExactJoinMatchUptoRow : OpenClaim := { program := "ytdipckpcmnhpjaa", sum := "18514bf2ebaf76f26e176f373f79c52c1cbb686dd3c0498ad325db0c87b8c14a", func := "loop.example/g01365/laws.FnExactJoinMatch", spec := "fnExactJoinMatch", unfollowed := true, recurses := true, apart := false, narrowed := true }
def FnExactJoinMatchUptoSaid : Prop := fnExactJoinMatchUptoRow.holds Try.pinned (OpenSpec.upto fnExactJoinMatchSpec)

/-- 'laws.FnExactMeetMatch', WHERE WHAT IT READS IS OF BULK AT MOST 1048576: true; the input reads as it did. -/
def fnExactMeetMatchUptoRow : OpenClaim := { program := "ytdipckpcmnhpjaa", sum := "18514bf2ebaf76f26e176f373f79c52c1cbb686dd3c0498ad325db0c87b8c14a", func := "loop.example/g01365/laws.FnExactMeetMatch", spec := "fnExactMeetMatch", unfollowed := true, recurses := true, apart := false, narrowed := true }
def FnExactMeetMatchUptoSaid : Prop := fnExactMeetMatchUptoRow.holds Try.pinned (OpenSpec.upto fnExactMeetMatchSpec)

/-- 'laws.FnExactAllStable', WHERE WHAT IT READS IS OF BULK AT MOST 1048576: true; the input reads as it did. -/
def fnExactAllStableUptoRow : OpenClaim := { program := "ytdipckpcmnhpjaa", sum := "18514bf2ebaf76f26e176f373f79c52c1cbb686dd3c0498ad325db0c87b8c14a", func := "loop.example/g01365/laws.FnExactAllStable", spec := "fnExactAllStable", unfollowed := true, recurses := true, apart := false, narrowed := true }
def FnExactAllStableUptoSaid : Prop := fnExactAllStableUptoRow.holds Try.pinned (OpenSpec.upto fnExactAllStableSpec)

/-- 'laws.FnExactTurnsOf', WHERE WHAT IT READS IS OF BULK AT MOST 1048576: true; the input reads as it did. -/
def fnExactTurnsOfUptoRow : OpenClaim := { program := "ytdipckpcmnhpjaa", sum := "18514bf2ebaf76f26e176f373f79c52c1cbb686dd3c0498ad325db0c87b8c14a", func := "loop.example/g01365/laws.FnExactTurnsOf", spec := "fnExactTurnsOf", unfollowed := true, recurses := true, apart := false, narrowed := true }
def FnExactTurnsOfUptoSaid : Prop := fnExactTurnsOfUptoRow.holds Try.pinned (OpenSpec.upto fnExactTurnsOfSpec)

/-- 'laws.FnExactFairMatch', WHERE WHAT IT READS IS OF BULK AT MOST 1048576: true; the input reads as it did. -/
def fnExactFairMatchUptoRow : OpenClaim := { program := "ytdipckpcmnhpjaa", sum := "18514bf2ebaf76f26e176f373f79c52c1cbb686dd3c0498ad325db0c87b8c14a", func := "loop.example/g01365/laws.FnExactFairMatch", spec := "fnExactFairMatch", unfollowed := true, recurses := true, apart := false, narrowed := true }
def FnExactFairMatchUptoSaid : Prop := fnExactFairMatchUptoRow.holds Try.pinned (OpenSpec.upto fnExactFairMatchSpec)

/-- 'laws.FnExactTakeTurn', WHERE WHAT IT READS IS OF BULK AT MOST 1048576: true; the input reads as it did. -/
def fnExactTakeTurnUptoRow : OpenClaim := { program := "ytdipckpcmnhpjaa", sum := "18514bf2ebaf76f26e176f373f79c52c1cbb686dd3c0498ad325db0c87b8c14a", func := "loop.example/g01365/laws.FnExactTakeTurn", spec := "fnExactTakeTurn", unfollowed := true, recurses := true, apart := false, narrowed := true }
def FnExactTakeTurnUptoSaid : Prop := fnExactTakeTurnUptoRow.holds Try.pinned (OpenSpec.upto fnExactTakeTurnSpec)

/-- 'laws.FnLattices', WHERE WHAT IT READS IS OF BULK AT MOST 1048576: true; the input reads as it did. -/
def fnLatticesUptoRow : OpenClaim := { program := "ytdipckpcmnhpjaa", sum := "18514bf2ebaf76f26e176f373f79c52c1cbb686dd3c0498ad325db0c87b8c14a", func := "loop.example/g01365/laws.FnLattices", spec := "fnLattices", unfollowed := true, recurses := true, apart := false, narrowed := true }
def FnLatticesUptoSaid : Prop := fnLatticesUptoRow.holds Try.pinned (OpenSpec.upto fnLatticesSpec)

/-- 'laws.FnSchools', WHERE WHAT IT READS IS OF BULK AT MOST 1048576: true; the input reads as it did. -/
def fnSchoolsUptoRow : OpenClaim := { program := "ytdipckpcmnhpjaa", sum := "18514bf2ebaf76f26e176f373f79c52c1cbb686dd3c0498ad325db0c87b8c14a", func := "loop.example/g01365/laws.FnSchools", spec := "fnSchools", unfollowed := true, recurses := true, apart := false, narrowed := true }
def FnSchoolsUptoSaid : Prop := fnSchoolsUptoRow.holds Try.pinned (OpenSpec.upto fnSchoolsSpec)

end Rows
end Go.Proofs.Ytdipckpcmnhpjaa
