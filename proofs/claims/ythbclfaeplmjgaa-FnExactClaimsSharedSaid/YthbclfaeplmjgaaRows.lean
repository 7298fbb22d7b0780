/-
  No cell of these rows narrows 'for every input' (looked for: loops, veiled, ifaces, maps, wideKeys, modest, calm, conditions, laid).
  DERIVED. THE GIVEN ROWS OF THIS SEAT. 14 by the template 'for every input the law returns true; each argument reads behind the call as it read before'; 0 by the template 'total and deterministic' (their statements: YthbclfaeplmjgaaTotals.lean).
  GIVEN WITH THE SEED: the statements are not yours to turn. If you find one false, say at which input.
  Laid BY PROGRAM, IN A SANDBOX (cutbox-rows.mjs): the forced cells as the released guide's own fill.sh prints them over the translation b0ae9069319a083d… (all of the seat's roots in one cut). By AI agents, Wed Nov 11 2026. No macro, syntax, notation, axiom, sorry.
-/
import Derived.Test.YthbclfaeplmjgaaChecked
import GoSem.Claim
import GoSem.ClaimJoined
import GoSem.ClaimMapViews
import Derived.JoinedTies
import Derived.KernelRfl
namespace Go.Proofs.Ythbclfaeplmjgaa
/- THE CELL 'sum', in the pinned program and in every row, IS THE sha256 OF THE DUMP (.gsa) THAT YthbclfaeplmjgaaProg.lean LOADS. Nothing in Lean hashes anything: it is a label: what it is worth is what the hold of that sum in a sandbox is worth. -/
noncomputable def Try.pinned : Pinned := { name := "ythbclfaeplmjgaa", sum := "b0ae9069319a083d610a2abb22d224c78f3525e830ea2742937a1499719d5616", checked := Try.checked }
namespace Rows
def none {H : Type} : Left H := { results := [], args := [] }

/-- 'laws.FnExactTakeInOrder': WHATEVER THE INPUT: true; the input reads as it did. -/
def fnExactTakeInOrderSpec : ChangeSpec := { name := "fnExactTakeInOrder", fn := fun _ => fun
  | [d1, d2, d3] => { results := [.lit (.bool true)], args := [d1, d2, d3] }
  | _ => none }
def fnExactTakeInOrderRow : OpenClaim := { program := "ythbclfaeplmjgaa", sum := "b0ae9069319a083d610a2abb22d224c78f3525e830ea2742937a1499719d5616", func := "loop.example/g01365/laws.FnExactTakeInOrder", spec := "fnExactTakeInOrder", apart := false }
def FnExactTakeInOrderSaid : Prop := fnExactTakeInOrderRow.holds Try.pinned (OpenSpec.ofChange fnExactTakeInOrderSpec)

/-- ITS FALSE NEIGHBOUR: 'it returns false'. Refute it at one input. -/
def fnExactTakeInOrderWrong : ChangeSpec := { name := "fnExactTakeInOrder", fn := fun _ => fun
  | [d1, d2, d3] => { results := [.lit (.bool false)], args := [d1, d2, d3] }
  | _ => none }
def FnExactTakeInOrderWrongFalsely : Prop := fnExactTakeInOrderRow.holds Try.pinned (OpenSpec.ofChange fnExactTakeInOrderWrong)

/-- 'laws.FnExactTakeInTurns': WHATEVER THE INPUT: true; the input reads as it did. -/
def fnExactTakeInTurnsSpec : ChangeSpec := { name := "fnExactTakeInTurns", fn := fun _ => fun
  | [d1, d2] => { results := [.lit (.bool true)], args := [d1, d2] }
  | _ => none }
def fnExactTakeInTurnsRow : OpenClaim := { program := "ythbclfaeplmjgaa", sum := "b0ae9069319a083d610a2abb22d224c78f3525e830ea2742937a1499719d5616", func := "loop.example/g01365/laws.FnExactTakeInTurns", spec := "fnExactTakeInTurns", unfollowed := true, recurses := true, apart := false }
def FnExactTakeInTurnsSaid : Prop := fnExactTakeInTurnsRow.holds Try.pinned (OpenSpec.ofChange fnExactTakeInTurnsSpec)

/-- ITS FALSE NEIGHBOUR: 'it returns false'. Refute it at one input. -/
def fnExactTakeInTurnsWrong : ChangeSpec := { name := "fnExactTakeInTurns", fn := fun _ => fun
  | [d1, d2] => { results := [.lit (.bool false)], args := [d1, d2] }
  | _ => none }
def FnExactTakeInTurnsWrongFalsely : Prop := fnExactTakeInTurnsRow.holds Try.pinned (OpenSpec.ofChange fnExactTakeInTurnsWrong)

/-- 'laws.FnExactEqualGains': WHATEVER THE INPUT: true; the input reads as it did. -/
def fnExactEqualGainsSpec : ChangeSpec := { name := "fnExactEqualGains", fn := fun _ => fun
  | [d1, d2] => { results := [.lit (.bool true)], args := [d1, d2] }
  | _ => none }
def fnExactEqualGainsRow : OpenClaim := { program := "ythbclfaeplmjgaa", sum := "b0ae9069319a083d610a2abb22d224c78f3525e830ea2742937a1499719d5616", func := "loop.example/g01365/laws.FnExactEqualGains", spec := "fnExactEqualGains", unfollowed := true, recurses := true, apart := false }
def FnExactEqualGainsSaid : Prop := fnExactEqualGainsRow.holds Try.pinned (OpenSpec.ofChange fnExactEqualGainsSpec)

/-- ITS FALSE NEIGHBOUR: 'it returns false'. Refute it at one input. -/
def fnExactEqualGainsWrong : ChangeSpec := { name := "fnExactEqualGains", fn := fun _ => fun
  | [d1, d2] => { results := [.lit (.bool false)], args := [d1, d2] }
  | _ => none }
def FnExactEqualGainsWrongFalsely : Prop := fnExactEqualGainsRow.holds Try.pinned (OpenSpec.ofChange fnExactEqualGainsWrong)

/-- 'laws.FnExactEqualLosses': WHATEVER THE INPUT: true; the input reads as it did. -/
def fnExactEqualLossesSpec : ChangeSpec := { name := "fnExactEqualLosses", fn := fun _ => fun
  | [d1, d2] => { results := [.lit (.bool true)], args := [d1, d2] }
  | _ => none }
def fnExactEqualLossesRow : OpenClaim := { program := "ythbclfaeplmjgaa", sum := "b0ae9069319a083d610a2abb22d224c78f3525e830ea2742937a1499719d5616", func := "loop.example/g01365/laws.FnExactEqualLosses", spec := "fnExactEqualLosses", unfollowed := true, recurses := true, apart := false }
def FnExactEqualLossesSaid : Prop := fnExactEqualLossesRow.holds Try.pinned (OpenSpec.ofChange fnExactEqualLossesSpec)

/-- ITS FALSE NEIGHBOUR: 'it returns false'. Refute it at one input. -/
def fnExactEqualLossesWrong : ChangeSpec := { name := "fnExactEqualLosses", fn := fun _ => fun
  | [d1, d2] => { results := [.lit (.bool false)], args := [d1, d2] }
  | _ => none }
def FnExactEqualLossesWrongFalsely : Prop := fnExactEqualLossesRow.holds Try.pinned (OpenSpec.ofChange fnExactEqualLossesWrong)

/-- 'laws.FnExactHalfRule': WHATEVER THE INPUT: true; the input reads as it did. -/
def fnExactHalfRuleSpec : ChangeSpec := { name := "fnExactHalfRule", fn := fun _ => fun
  | [d1, d2] => { results := [.lit (.bool true)], args := [d1, d2] }
  | _ => none }
def fnExactHalfRuleRow : OpenClaim := { program := "ythbclfaeplmjgaa", sum := "b0ae9069319a083d610a2abb22d224c78f3525e830ea2742937a1499719d5616", func := "loop.example/g01365/laws.FnExactHalfRule", spec := "fnExactHalfRule", unfollowed := true, recurses := true, apart := false }
def FnExactHalfRuleSaid : Prop := fnExactHalfRuleRow.holds Try.pinned (OpenSpec.ofChange fnExactHalfRuleSpec)

/-- ITS FALSE NEIGHBOUR: 'it returns false'. Refute it at one input. -/
def fnExactHalfRuleWrong : ChangeSpec := { name := "fnExactHalfRule", fn := fun _ => fun
  | [d1, d2] => { results := [.lit (.bool false)], args := [d1, d2] }
  | _ => none }
def FnExactHalfRuleWrongFalsely : Prop := fnExactHalfRuleRow.holds Try.pinned (OpenSpec.ofChange fnExactHalfRuleWrong)

/-- 'laws.FnExactClaimsShared': WHATEVER THE INPUT: true; the input reads as it did. -/
def fnExactClaimsSharedSpec : ChangeSpec := { name := "fnExactClaimsShared", fn := fun _ => fun
  | [d1, d2, d3] => { results := [.lit (.bool true)], args := [d1, d2, d3] }
  | _ => none }
def fnExactClaimsSharedRow : OpenClaim := { program := "ythbclfaeplmjgaa", sum := "b0ae9069319a083d610a2abb22d224c78f3525e830ea2742937a1499719d5616", func := "loop.example/g01365/laws.FnExactClaimsShared", spec := "fnExactClaimsShared", unfollowed := true, recurses := true, apart := false }
def FnExactClaimsSharedSaid : Prop := fnExactClaimsSharedRow.holds Try.pinned (OpenSpec.ofChange fnExactClaimsSharedSpec)

/-- ITS FALSE NEIGHBOUR: 'it returns false'. Refute it at one input. -/
def fnExactClaimsSharedWrong : ChangeSpec := { name := "fnExactClaimsShared", fn := fun _ => fun
  | [d1, d2, d3] => { results := [.lit (.bool false)], args := [d1, d2, d3] }
  | _ => none }
def FnExactClaimsSharedWrongFalsely : Prop := fnExactClaimsSharedRow.holds Try.pinned (OpenSpec.ofChange fnExactClaimsSharedWrong)

/-- 'laws.FnExactValidSaved': WHATEVER THE INPUT: true; the input reads as it did. -/
def fnExactValidSavedSpec : ChangeSpec := { name := "fnExactValidSaved", fn := fun _ => fun
  | [d] => { results := [.lit (.bool true)], args := [d] }
  | _ => none }
def fnExactValidSavedRow : OpenClaim := { program := "ythbclfaeplmjgaa", sum := "b0ae9069319a083d610a2abb22d224c78f3525e830ea2742937a1499719d5616", func := "loop.example/g01365/laws.FnExactValidSaved", spec := "fnExactValidSaved", apart := false }
def FnExactValidSavedSaid : Prop := fnExactValidSavedRow.holds Try.pinned (OpenSpec.ofChange fnExactValidSavedSpec)

/-- ITS FALSE NEIGHBOUR: 'it returns false'. Refute it at one input. -/
def fnExactValidSavedWrong : ChangeSpec := { name := "fnExactValidSaved", fn := fun _ => fun
  | [d] => { results := [.lit (.bool false)], args := [d] }
  | _ => none }
def FnExactValidSavedWrongFalsely : Prop := fnExactValidSavedRow.holds Try.pinned (OpenSpec.ofChange fnExactValidSavedWrong)

/-- 'laws.FnExactSameSaved': WHATEVER THE INPUT: true; the input reads as it did. -/
def fnExactSameSavedSpec : ChangeSpec := { name := "fnExactSameSaved", fn := fun _ => fun
  | [d1, d2] => { results := [.lit (.bool true)], args := [d1, d2] }
  | _ => none }
def fnExactSameSavedRow : OpenClaim := { program := "ythbclfaeplmjgaa", sum := "b0ae9069319a083d610a2abb22d224c78f3525e830ea2742937a1499719d5616", func := "loop.example/g01365/laws.FnExactSameSaved", spec := "fnExactSameSaved", unfollowed := true, recurses := true, apart := false }
def FnExactSameSavedSaid : Prop := fnExactSameSavedRow.holds Try.pinned (OpenSpec.ofChange fnExactSameSavedSpec)

/-- ITS FALSE NEIGHBOUR: 'it returns false'. Refute it at one input. -/
def fnExactSameSavedWrong : ChangeSpec := { name := "fnExactSameSaved", fn := fun _ => fun
  | [d1, d2] => { results := [.lit (.bool false)], args := [d1, d2] }
  | _ => none }
def FnExactSameSavedWrongFalsely : Prop := fnExactSameSavedRow.holds Try.pinned (OpenSpec.ofChange fnExactSameSavedWrong)

/-- 'laws.FnExactStoreSaved': WHATEVER THE INPUT: true; the input reads as it did. -/
def fnExactStoreSavedSpec : ChangeSpec := { name := "fnExactStoreSaved", fn := fun _ => fun
  | [d] => { results := [.lit (.bool true)], args := [d] }
  | _ => none }
def fnExactStoreSavedRow : OpenClaim := { program := "ythbclfaeplmjgaa", sum := "b0ae9069319a083d610a2abb22d224c78f3525e830ea2742937a1499719d5616", func := "loop.example/g01365/laws.FnExactStoreSaved", spec := "fnExactStoreSaved", apart := false }
def FnExactStoreSavedSaid : Prop := fnExactStoreSavedRow.holds Try.pinned (OpenSpec.ofChange fnExactStoreSavedSpec)

/-- ITS FALSE NEIGHBOUR: 'it returns false'. Refute it at one input. -/
def fnExactStoreSavedWrong : ChangeSpec := { name := "fnExactStoreSaved", fn := fun _ => fun
  | [d] => { results := [.lit (.bool false)], args := [d] }
  | _ => none }
def FnExactStoreSavedWrongFalsely : Prop := fnExactStoreSavedRow.holds Try.pinned (OpenSpec.ofChange fnExactStoreSavedWrong)

/-- 'laws.FnExactStoreAll': WHATEVER THE INPUT: true; the input reads as it did. -/
def fnExactStoreAllSpec : ChangeSpec := { name := "fnExactStoreAll", fn := fun _ => fun
  | [d] => { results := [.lit (.bool true)], args := [d] }
  | _ => none }
def fnExactStoreAllRow : OpenClaim := { program := "ythbclfaeplmjgaa", sum := "b0ae9069319a083d610a2abb22d224c78f3525e830ea2742937a1499719d5616", func := "loop.example/g01365/laws.FnExactStoreAll", spec := "fnExactStoreAll", apart := false }
def FnExactStoreAllSaid : Prop := fnExactStoreAllRow.holds Try.pinned (OpenSpec.ofChange fnExactStoreAllSpec)

/-- ITS FALSE NEIGHBOUR: 'it returns false'. Refute it at one input. -/
def fnExactStoreAllWrong : ChangeSpec := { name := "fnExactStoreAll", fn := fun _ => fun
  | [d] => { results := [.lit (.bool false)], args := [d] }
  | _ => none }
def FnExactStoreAllWrongFalsely : Prop := fnExactStoreAllRow.holds Try.pinned (OpenSpec.ofChange fnExactStoreAllWrong)

/-- 'laws.FnExactLoadSaved': WHATEVER THE INPUT: true; the input reads as it did. -/
def fnExactLoadSavedSpec : ChangeSpec := { name := "fnExactLoadSaved", fn := fun _ => fun
  | [d] => { results := [.lit (.bool true)], args := [d] }
  | _ => none }
def fnExactLoadSavedRow : OpenClaim := { program := "ythbclfaeplmjgaa", sum := "b0ae9069319a083d610a2abb22d224c78f3525e830ea2742937a1499719d5616", func := "loop.example/g01365/laws.FnExactLoadSaved", spec := "fnExactLoadSaved", inPlace := ["internal/abi.NoEscape", "internal/bytealg.MakeNoZero"], apart := false }
def FnExactLoadSavedSaid : Prop := fnExactLoadSavedRow.holds Try.pinned (OpenSpec.ofChange fnExactLoadSavedSpec)

/-- ITS FALSE NEIGHBOUR: 'it returns false'. Refute it at one input. -/
def fnExactLoadSavedWrong : ChangeSpec := { name := "fnExactLoadSaved", fn := fun _ => fun
  | [d] => { results := [.lit (.bool false)], args := [d] }
  | _ => none }
def FnExactLoadSavedWrongFalsely : Prop := fnExactLoadSavedRow.holds Try.pinned (OpenSpec.ofChange fnExactLoadSavedWrong)

/-- 'laws.FnExactRecoverAll': WHATEVER THE INPUT: true; the input reads as it did. -/
def fnExactRecoverAllSpec : ChangeSpec := { name := "fnExactRecoverAll", fn := fun _ => fun
  | [d] => { results := [.lit (.bool true)], args := [d] }
  | _ => none }
def fnExactRecoverAllRow : OpenClaim := { program := "ythbclfaeplmjgaa", sum := "b0ae9069319a083d610a2abb22d224c78f3525e830ea2742937a1499719d5616", func := "loop.example/g01365/laws.FnExactRecoverAll", spec := "fnExactRecoverAll", inPlace := ["internal/abi.NoEscape", "internal/bytealg.MakeNoZero"], apart := false }
def FnExactRecoverAllSaid : Prop := fnExactRecoverAllRow.holds Try.pinned (OpenSpec.ofChange fnExactRecoverAllSpec)

/-- ITS FALSE NEIGHBOUR: 'it returns false'. Refute it at one input. -/
def fnExactRecoverAllWrong : ChangeSpec := { name := "fnExactRecoverAll", fn := fun _ => fun
  | [d] => { results := [.lit (.bool false)], args := [d] }
  | _ => none }
def FnExactRecoverAllWrongFalsely : Prop := fnExactRecoverAllRow.holds Try.pinned (OpenSpec.ofChange fnExactRecoverAllWrong)

/-- 'laws.FnClaims': WHATEVER THE INPUT: true; the input reads as it did. -/
def fnClaimsSpec : ChangeSpec := { name := "fnClaims", fn := fun _ => fun
  | [d1, d2] => { results := [.lit (.bool true)], args := [d1, d2] }
  | _ => none }
def fnClaimsRow : OpenClaim := { program := "ythbclfaeplmjgaa", sum := "b0ae9069319a083d610a2abb22d224c78f3525e830ea2742937a1499719d5616", func := "loop.example/g01365/laws.FnClaims", spec := "fnClaims", unfollowed := true, recurses := true, apart := false }
def FnClaimsSaid : Prop := fnClaimsRow.holds Try.pinned (OpenSpec.ofChange fnClaimsSpec)

/-- ITS FALSE NEIGHBOUR: 'it returns false'. Refute it at one input. -/
def fnClaimsWrong : ChangeSpec := { name := "fnClaims", fn := fun _ => fun
  | [d1, d2] => { results := [.lit (.bool false)], args := [d1, d2] }
  | _ => none }
def FnClaimsWrongFalsely : Prop := fnClaimsRow.holds Try.pinned (OpenSpec.ofChange fnClaimsWrong)

/-- 'laws.FnSavedGames': WHATEVER THE INPUT: true; the input reads as it did. -/
def fnSavedGamesSpec : ChangeSpec := { name := "fnSavedGames", fn := fun _ => fun
  | [d1, d2] => { results := [.lit (.bool true)], args := [d1, d2] }
  | _ => none }
def fnSavedGamesRow : OpenClaim := { program := "ythbclfaeplmjgaa", sum := "b0ae9069319a083d610a2abb22d224c78f3525e830ea2742937a1499719d5616", func := "loop.example/g01365/laws.FnSavedGames", spec := "fnSavedGames", inPlace := ["internal/abi.NoEscape", "internal/bytealg.MakeNoZero"], unfollowed := true, recurses := true, apart := false }
def FnSavedGamesSaid : Prop := fnSavedGamesRow.holds Try.pinned (OpenSpec.ofChange fnSavedGamesSpec)

/-- ITS FALSE NEIGHBOUR: 'it returns false'. Refute it at one input. -/
def fnSavedGamesWrong : ChangeSpec := { name := "fnSavedGames", fn := fun _ => fun
  | [d1, d2] => { results := [.lit (.bool false)], args := [d1, d2] }
  | _ => none }
def FnSavedGamesWrongFalsely : Prop := fnSavedGamesRow.holds Try.pinned (OpenSpec.ofChange fnSavedGamesWrong)

/- THE SECOND FORM. 'bulk': how many values and letters a reading holds, each counted each time it is reached (what is shared counts as often as it is met; a slice's spare places count too). A statement '..UptoSaid' is the law's where the arguments, and the package variables that the reading takes, are together of bulk at most 1048576: NARROWER than '..Said'. Prove '..Said' where nothing that the law and all that it calls make is longer than what came in: it says more and counts as full. Else prove '..UptoSaid'. A law counts once. -/
mutual
def uptoBulk {H : Type} : DataW H → Nat
  | .lit (.string bytes) => bytes.length + 1
  | .lit _ => 1
  | .nil => 1
  | .ptr d => uptoBulk d + 1
  | .slice elems spare => uptoBulkAll elems + uptoBulkAll spare + 1
  | .agg parts => uptoBulkAll parts + 1
  | .iface _ d => uptoBulk d + 1
  | .map entries => uptoBulkEntries entries + 1
  | .held _ => 1
def uptoBulkAll {H : Type} : List (DataW H) → Nat
  | [] => 0
  | d :: r => uptoBulk d + uptoBulkAll r
def uptoBulkEntries {H : Type} : List (Lit × DataW H) → Nat
  | [] => 0
  | x :: r => uptoBulkEntry x + uptoBulkEntries r
def uptoBulkEntry {H : Type} : Lit × DataW H → Nat
  | (.string bytes, d) => bytes.length + uptoBulk d + 1
  | (_, d) => uptoBulk d + 1
 end
def uptoSmall : (H : Type) → List (DataW H) → Bool := fun _ ds => decide (uptoBulkAll ds ≤ 1048576)
def OpenSpec.upto (s : _root_.Go.ChangeSpec) : _root_.Go.OpenSpec := { _root_.Go.OpenSpec.ofChange s with cond := some uptoSmall }

/-- 'laws.FnExactTakeInOrder', WHERE WHAT IT READS IS OF BULK AT MOST 1048576: true; the input reads as it did. -/
def fnExactTakeInOrderUptoRow : OpenClaim := { program := "ythbclfaeplmjgaa", sum := "b0ae9069319a083d610a2abb22d224c78f3525e830ea2742937a1499719d5616", func := "loop.example/g01365/laws.FnExactTakeInOrder", spec := "fnExactTakeInOrder", apart := false, narrowed := true }
def FnExactTakeInOrderUptoSaid : Prop := fnExactTakeInOrderUptoRow.holds Try.pinned (OpenSpec.upto fnExactTakeInOrderSpec)

/-- 'laws.FnExactTakeInTurns', WHERE WHAT IT READS IS OF BULK AT MOST 1048576: true; the input reads as it did. -/
def fnExactTakeInTurnsUptoRow : OpenClaim := { program := "ythbclfaeplmjgaa", sum := "b0ae9069319a083d610a2abb22d224c78f3525e830ea2742937a1499719d5616", func := "loop.example/g01365/laws.FnExactTakeInTurns", spec := "fnExactTakeInTurns", unfollowed := true, recurses := true, apart := false, narrowed := true }
def FnExactTakeInTurnsUptoSaid : Prop := fnExactTakeInTurnsUptoRow.holds Try.pinned (OpenSpec.upto fnExactTakeInTurnsSpec)

/-- 'laws.FnExactEqualGains', WHERE WHAT IT READS IS OF BULK AT MOST 1048576: true; the input reads as it did. -/
def fnExactEqualGainsUptoRow : OpenClaim := { program := "ythbclfaeplmjgaa", sum := "b0ae9069319a083d610a2abb22d224c78f3525e830ea2742937a1499719d5616", func := "loop.example/g01365/laws.FnExactEqualGains", spec := "fnExactEqualGains", unfollowed := true, recurses := true, apart := false, narrowed := true }
def FnExactEqualGainsUptoSaid : Prop := fnExactEqualGainsUptoRow.holds Try.pinned (OpenSpec.upto fnExactEqualGainsSpec)

/-- 'laws.FnExactEqualLosses', WHERE WHAT IT READS IS OF BULK AT MOST 1048576: true; the input reads as it did. -/
def fnExactEqualLossesUptoRow : OpenClaim := { program := "ythbclfaeplmjgaa", sum := "b0ae9069319a083d610a2abb22d224c78f3525e830ea2742937a1499719d5616", func := "loop.example/g01365/laws.FnExactEqualLosses", spec := "fnExactEqualLosses", unfollowed := true, recurses := true, apart := false, narrowed := true }
def FnExactEqualLossesUptoSaid : Prop := fnExactEqualLossesUptoRow.holds Try.pinned (OpenSpec.upto fnExactEqualLossesSpec)

/-- 'laws.FnExactHalfRule', WHERE WHAT IT READS IS OF BULK AT MOST 1048576: true; the input reads as it did. -/
def fnExactHalfRuleUptoRow : OpenClaim := { program := "ythbclfaeplmjgaa", sum := "b0ae9069319a083d610a2abb22d224c78f3525e830ea2742937a1499719d5616", func := "loop.example/g01365/laws.FnExactHalfRule", spec := "fnExactHalfRule", unfollowed := true, recurses := true, apart := false, narrowed := true }
def FnExactHalfRuleUptoSaid : Prop := fnExactHalfRuleUptoRow.holds Try.pinned (OpenSpec.upto fnExactHalfRuleSpec)

/-- 'laws.FnExactClaimsShared', WHERE WHAT IT READS IS OF BULK AT MOST 1048576: true; the input reads as it did. -/
def fnExactClaimsSharedUptoRow : OpenClaim := { program := "ythbclfaeplmjgaa", sum := "b0ae9069319a083d610a2abb22d224c78f3525e830ea2742937a1499719d5616", func := "loop.example/g01365/laws.FnExactClaimsShared", spec := "fnExactClaimsShared", unfollowed := true, recurses := true, apart := false, narrowed := true }
def FnExactClaimsSharedUptoSaid : Prop := fnExactClaimsSharedUptoRow.holds Try.pinned (OpenSpec.upto fnExactClaimsSharedSpec)

/-- 'laws.FnExactValidSaved', WHERE WHAT IT READS IS OF BULK AT MOST 1048576: true; the input reads as it did. -/
def fnExactValidSavedUptoRow : OpenClaim := { program := "ythbclfaeplmjgaa", sum := "b0ae9069319a083d610a2abb22d224c78f3525e830ea2742937a1499719d5616", func := "loop.example/g01365/laws.FnExactValidSaved", spec := "fnExactValidSaved", apart := false, narrowed := true }
def FnExactValidSavedUptoSaid : Prop := fnExactValidSavedUptoRow.holds Try.pinned (OpenSpec.upto fnExactValidSavedSpec)

/-- 'laws.FnExactSameSaved', WHERE WHAT IT READS IS OF BULK AT MOST 1048576: true; the input reads as it did. -/
def fnExactSameSavedUptoRow : OpenClaim := { program := "ythbclfaeplmjgaa", sum := "b0ae9069319a083d610a2abb22d224c78f3525e830ea2742937a1499719d5616", func := "loop.example/g01365/laws.FnExactSameSaved", spec := "fnExactSameSaved", unfollowed := true, recurses := true, apart := false, narrowed := true }
def FnExactSameSavedUptoSaid : Prop := fnExactSameSavedUptoRow.holds Try.pinned (OpenSpec.upto fnExactSameSavedSpec)

/-- 'laws.FnExactStoreSaved', WHERE WHAT IT READS IS OF BULK AT MOST 1048576: true; the input reads as it did. -/
def fnExactStoreSavedUptoRow : OpenClaim := { program := "ythbclfaeplmjgaa", sum := "b0ae9069319a083d610a2abb22d224c78f3525e830ea2742937a1499719d5616", func := "loop.example/g01365/laws.FnExactStoreSaved", spec := "fnExactStoreSaved", apart := false, narrowed := true }
def FnExactStoreSavedUptoSaid : Prop := fnExactStoreSavedUptoRow.holds Try.pinned (OpenSpec.upto fnExactStoreSavedSpec)

/-- 'laws.FnExactStoreAll', WHERE WHAT IT READS IS OF BULK AT MOST 1048576: true; the input reads as it did. -/
def fnExactStoreAllUptoRow : OpenClaim := { program := "ythbclfaeplmjgaa", sum := "b0ae9069319a083d610a2abb22d224c78f3525e830ea2742937a1499719d5616", func := "loop.example/g01365/laws.FnExactStoreAll", spec := "fnExactStoreAll", apart := false, narrowed := true }
def FnExactStoreAllUptoSaid : Prop := fnExactStoreAllUptoRow.holds Try.pinned (OpenSpec.upto fnExactStoreAllSpec)

/-- 'laws.FnExactLoadSaved', WHERE WHAT IT READS IS OF BULK AT MOST 1048576: true; the input reads as it did. -/
def fnExactLoadSavedUptoRow : OpenClaim := { program := "ythbclfaeplmjgaa", sum := "b0ae9069319a083d610a2abb22d224c78f3525e830ea2742937a1499719d5616", func := "loop.example/g01365/laws.FnExactLoadSaved", spec := "fnExactLoadSaved", inPlace := ["internal/abi.NoEscape", "internal/bytealg.MakeNoZero"], apart := false, narrowed := true }
def FnExactLoadSavedUptoSaid : Prop := fnExactLoadSavedUptoRow.holds Try.pinned (OpenSpec.upto fnExactLoadSavedSpec)

/-- 'laws.FnExactRecoverAll', WHERE WHAT IT READS IS OF BULK AT MOST 1048576: true; the input reads as it did. -/
def fnExactRecoverAllUptoRow : OpenClaim := { program := "ythbclfaeplmjgaa", sum := "b0ae9069319a083d610a2abb22d224c78f3525e830ea2742937a1499719d5616", func := "loop.example/g01365/laws.FnExactRecoverAll", spec := "fnExactRecoverAll", inPlace := ["internal/abi.NoEscape", "internal/bytealg.MakeNoZero"], apart := false, narrowed := true }
def FnExactRecoverAllUptoSaid : Prop := fnExactRecoverAllUptoRow.holds Try.pinned (OpenSpec.upto fnExactRecoverAllSpec)

/-- 'laws.FnClaims', WHERE WHAT IT READS IS OF BULK AT MOST 1048576: true; the input reads as it did. -/
def fnClaimsUptoRow : OpenClaim := { program := "ythbclfaeplmjgaa", sum := "b0ae9069319a083d610a2abb22d224c78f3525e830ea2742937a1499719d5616", func := "loop.example/g01365/laws.FnClaims", spec := "fnClaims", unfollowed := true, recurses := true, apart := false, narrowed := true }
def FnClaimsUptoSaid : Prop := fnClaimsUptoRow.holds Try.pinned (OpenSpec.upto fnClaimsSpec)

/-- 'laws.FnSavedGames', WHERE WHAT IT READS IS OF BULK AT MOST 1048576: true; the input reads as it did. -/
def fnSavedGamesUptoRow : OpenClaim := { program := "ythbclfaeplmjgaa", sum := "b0ae9069319a083d610a2abb22d224c78f3525e830ea2742937a1499719d5616", func := "loop.example/g01365/laws.FnSavedGames", spec := "fnSavedGames", inPlace := ["internal/abi.NoEscape", "internal/bytealg.MakeNoZero"], unfollowed := true, recurses := true, apart := false, narrowed := true }
def FnSavedGamesUptoSaid : Prop := fnSavedGamesUptoRow.holds Try.pinned (OpenSpec.upto fnSavedGamesSpec)

end Rows
end Go.Proofs.Ythbclfaeplmjgaa
