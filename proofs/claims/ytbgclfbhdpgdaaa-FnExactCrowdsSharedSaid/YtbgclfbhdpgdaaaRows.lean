/-
  No cell of these rows narrows 'for every input' (looked for: loops, veiled, ifaces, maps, wideKeys, modest, calm, conditions, laid).
  DERIVED. THE GIVEN ROWS OF THIS SEAT. 7 by the template 'for every input the law returns true; each argument reads behind the call as it read before'; 0 by the template 'total and deterministic' (their statements: YtbgclfbhdpgdaaaTotals.lean).
  GIVEN WITH THE SEED: the statements are not yours to turn. If you find one false, say at which input.
  Laid BY PROGRAM, IN A SANDBOX (cutbox-rows.mjs): the forced cells as the released guide's own fill.sh prints them over the translation 22f8510de1dccd97… (all of the seat's roots in one cut). By AI agents, Wed Nov 11 2026. No macro, syntax, notation, axiom, sorry.
-/
import Derived.Test.YtbgclfbhdpgdaaaChecked
import GoSem.Claim
import GoSem.ClaimJoined
import GoSem.ClaimMapViews
import Derived.JoinedTies
import Derived.KernelRfl
namespace Go.Proofs.Ytbgclfbhdpgdaaa
/- THE CELL 'sum', in the pinned program and in every row, IS THE sha256 OF THE DUMP (.gsa) THAT YtbgclfbhdpgdaaaProg.lean LOADS. Nothing in Lean hashes anything: it is a label: what it is worth is what the hold of that sum in a sandbox is worth. -/
noncomputable def Try.pinned : Pinned := { name := "ytbgclfbhdpgdaaa", sum := "22f8510de1dccd97f6d23974effb8ab4a09318e79baf5548f8c29724d132fc2d", checked := Try.checked }
namespace Rows
def none {H : Type} : Left H := { results := [], args := [] }

/-- 'laws.FnExactIsRest': WHATEVER THE INPUT: true; the input reads as it did. -/
def fnExactIsRestSpec : ChangeSpec := { name := "fnExactIsRest", fn := fun _ => fun
  | [d1, d2] => { results := [.lit (.bool true)], args := [d1, d2] }
  | _ => none }
def fnExactIsRestRow : OpenClaim := { program := "ytbgclfbhdpgdaaa", sum := "22f8510de1dccd97f6d23974effb8ab4a09318e79baf5548f8c29724d132fc2d", func := "loop.example/g01365/laws.FnExactIsRest", spec := "fnExactIsRest", apart := false }
def FnExactIsRestSaid : Prop := fnExactIsRestRow.holds Try.pinned (OpenSpec.ofChange fnExactIsRestSpec)

/-- ITS FALSE NEIGHBOUR: 'it returns false'. Refute it at one input. -/
def fnExactIsRestWrong : ChangeSpec := { name := "fnExactIsRest", fn := fun _ => fun
  | [d1, d2] => { results := [.lit (.bool false)], args := [d1, d2] }
  | _ => none }
def FnExactIsRestWrongFalsely : Prop := fnExactIsRestRow.holds Try.pinned (OpenSpec.ofChange fnExactIsRestWrong)

/-- 'laws.FnExactBetterChoice': WHATEVER THE INPUT: true; the input reads as it did. -/
def fnExactBetterChoiceSpec : ChangeSpec := { name := "fnExactBetterChoice", fn := fun _ => fun
  | [d1, d2] => { results := [.lit (.bool true)], args := [d1, d2] }
  | _ => none }
def fnExactBetterChoiceRow : OpenClaim := { program := "ytbgclfbhdpgdaaa", sum := "22f8510de1dccd97f6d23974effb8ab4a09318e79baf5548f8c29724d132fc2d", func := "loop.example/g01365/laws.FnExactBetterChoice", spec := "fnExactBetterChoice", apart := false }
def FnExactBetterChoiceSaid : Prop := fnExactBetterChoiceRow.holds Try.pinned (OpenSpec.ofChange fnExactBetterChoiceSpec)

/-- ITS FALSE NEIGHBOUR: 'it returns false'. Refute it at one input. -/
def fnExactBetterChoiceWrong : ChangeSpec := { name := "fnExactBetterChoice", fn := fun _ => fun
  | [d1, d2] => { results := [.lit (.bool false)], args := [d1, d2] }
  | _ => none }
def FnExactBetterChoiceWrongFalsely : Prop := fnExactBetterChoiceRow.holds Try.pinned (OpenSpec.ofChange fnExactBetterChoiceWrong)

/-- 'laws.FnExactRestOf': WHATEVER THE INPUT: true; the input reads as it did. -/
def fnExactRestOfSpec : ChangeSpec := { name := "fnExactRestOf", fn := fun _ => fun
  | [d1, d2] => { results := [.lit (.bool true)], args := [d1, d2] }
  | _ => none }
def fnExactRestOfRow : OpenClaim := { program := "ytbgclfbhdpgdaaa", sum := "22f8510de1dccd97f6d23974effb8ab4a09318e79baf5548f8c29724d132fc2d", func := "loop.example/g01365/laws.FnExactRestOf", spec := "fnExactRestOf", apart := false }
def FnExactRestOfSaid : Prop := fnExactRestOfRow.holds Try.pinned (OpenSpec.ofChange fnExactRestOfSpec)

/-- ITS FALSE NEIGHBOUR: 'it returns false'. Refute it at one input. -/
def fnExactRestOfWrong : ChangeSpec := { name := "fnExactRestOf", fn := fun _ => fun
  | [d1, d2] => { results := [.lit (.bool false)], args := [d1, d2] }
  | _ => none }
def FnExactRestOfWrongFalsely : Prop := fnExactRestOfRow.holds Try.pinned (OpenSpec.ofChange fnExactRestOfWrong)

/-- 'laws.FnExactWorstRest': WHATEVER THE INPUT: true; the input reads as it did. -/
def fnExactWorstRestSpec : ChangeSpec := { name := "fnExactWorstRest", fn := fun _ => fun
  | [d] => { results := [.lit (.bool true)], args := [d] }
  | _ => none }
def fnExactWorstRestRow : OpenClaim := { program := "ytbgclfbhdpgdaaa", sum := "22f8510de1dccd97f6d23974effb8ab4a09318e79baf5548f8c29724d132fc2d", func := "loop.example/g01365/laws.FnExactWorstRest", spec := "fnExactWorstRest", unfollowed := true, recurses := true, apart := false }
def FnExactWorstRestSaid : Prop := fnExactWorstRestRow.holds Try.pinned (OpenSpec.ofChange fnExactWorstRestSpec)

/-- ITS FALSE NEIGHBOUR: 'it returns false'. Refute it at one input. -/
def fnExactWorstRestWrong : ChangeSpec := { name := "fnExactWorstRest", fn := fun _ => fun
  | [d] => { results := [.lit (.bool false)], args := [d] }
  | _ => none }
def FnExactWorstRestWrongFalsely : Prop := fnExactWorstRestRow.holds Try.pinned (OpenSpec.ofChange fnExactWorstRestWrong)

/-- 'laws.FnExactPriceOfRest': WHATEVER THE INPUT: true; the input reads as it did. -/
def fnExactPriceOfRestSpec : ChangeSpec := { name := "fnExactPriceOfRest", fn := fun _ => fun
  | [d] => { results := [.lit (.bool true)], args := [d] }
  | _ => none }
def fnExactPriceOfRestRow : OpenClaim := { program := "ytbgclfbhdpgdaaa", sum := "22f8510de1dccd97f6d23974effb8ab4a09318e79baf5548f8c29724d132fc2d", func := "loop.example/g01365/laws.FnExactPriceOfRest", spec := "fnExactPriceOfRest", unfollowed := true, recurses := true, apart := false }
def FnExactPriceOfRestSaid : Prop := fnExactPriceOfRestRow.holds Try.pinned (OpenSpec.ofChange fnExactPriceOfRestSpec)

/-- ITS FALSE NEIGHBOUR: 'it returns false'. Refute it at one input. -/
def fnExactPriceOfRestWrong : ChangeSpec := { name := "fnExactPriceOfRest", fn := fun _ => fun
  | [d] => { results := [.lit (.bool false)], args := [d] }
  | _ => none }
def FnExactPriceOfRestWrongFalsely : Prop := fnExactPriceOfRestRow.holds Try.pinned (OpenSpec.ofChange fnExactPriceOfRestWrong)

/-- 'laws.FnExactCrowdsShared': WHATEVER THE INPUT: true; the input reads as it did. -/
def fnExactCrowdsSharedSpec : ChangeSpec := { name := "fnExactCrowdsShared", fn := fun _ => fun
  | [d1, d2] => { results := [.lit (.bool true)], args := [d1, d2] }
  | _ => none }
def fnExactCrowdsSharedRow : OpenClaim := { program := "ytbgclfbhdpgdaaa", sum := "22f8510de1dccd97f6d23974effb8ab4a09318e79baf5548f8c29724d132fc2d", func := "loop.example/g01365/laws.FnExactCrowdsShared", spec := "fnExactCrowdsShared", apart := false }
def FnExactCrowdsSharedSaid : Prop := fnExactCrowdsSharedRow.holds Try.pinned (OpenSpec.ofChange fnExactCrowdsSharedSpec)

/-- ITS FALSE NEIGHBOUR: 'it returns false'. Refute it at one input. -/
def fnExactCrowdsSharedWrong : ChangeSpec := { name := "fnExactCrowdsShared", fn := fun _ => fun
  | [d1, d2] => { results := [.lit (.bool false)], args := [d1, d2] }
  | _ => none }
def FnExactCrowdsSharedWrongFalsely : Prop := fnExactCrowdsSharedRow.holds Try.pinned (OpenSpec.ofChange fnExactCrowdsSharedWrong)

/-- 'laws.FnCrowdsRest': WHATEVER THE INPUT: true; the input reads as it did. -/
def fnCrowdsRestSpec : ChangeSpec := { name := "fnCrowdsRest", fn := fun _ => fun
  | [d1, d2] => { results := [.lit (.bool true)], args := [d1, d2] }
  | _ => none }
def fnCrowdsRestRow : OpenClaim := { program := "ytbgclfbhdpgdaaa", sum := "22f8510de1dccd97f6d23974effb8ab4a09318e79baf5548f8c29724d132fc2d", func := "loop.example/g01365/laws.FnCrowdsRest", spec := "fnCrowdsRest", unfollowed := true, recurses := true, apart := false }
def FnCrowdsRestSaid : Prop := fnCrowdsRestRow.holds Try.pinned (OpenSpec.ofChange fnCrowdsRestSpec)

/-- ITS FALSE NEIGHBOUR: 'it returns false'. Refute it at one input. -/
def fnCrowdsRestWrong : ChangeSpec := { name := "fnCrowdsRest", fn := fun _ => fun
  | [d1, d2] => { results := [.lit (.bool false)], args := [d1, d2] }
  | _ => none }
def FnCrowdsRestWrongFalsely : Prop := fnCrowdsRestRow.holds Try.pinned (OpenSpec.ofChange fnCrowdsRestWrong)

/- THE SECOND FORM. 'bulk': how many values and letters a reading holds, each counted each time it is reached (what is shared counts as often as it is met; a slice's spare places count too). A statement '..UptoSaid' is the law's where the arguments, and the package variables that the reading takes, are together of bulk at most 1048576: NARROWER than '..Said'. Prove '..Said' where nothing that the law and all that it calls make is longer than what came in: it says more and counts as full. Else prove '..UptoSaid'. A law counts once. -/
mutual
def uptoBulk {H : Type} : DataW H → Nat
  | .lit (.string bytes) => bytes.length + 1
  | .lit _ => 1
  | .nil => 1
  | .ptr d => uptoBulk d + 1
  | .slice elems spare => uptoBulkAll elems + uptoBulkAll spare + 1
  | .agg parts => uptoBulkAll parts + 1
  | .iface _ d => uptoBulk d + 1
  | .map entries => uptoBulkEntries entries + 1
  | .held _ => 1
def uptoBulkAll {H : Type} : List (DataW H) → Nat
  | [] => 0
  | d :: r => uptoBulk d + uptoBulkAll r
def uptoBulkEntries {H : Type} : List (Lit × DataW H) → Nat
  | [] => 0
  | x :: r => uptoBulkEntry x + uptoBulkEntries r
def uptoBulkEntry {H : Type} : Lit × DataW H → Nat
  | (.string bytes, d) => bytes.length + uptoBulk d + 1
  | (_, d) => uptoBulk d + 1
 end
def uptoSmall : (H : Type) → List (DataW H) → Bool := fun _ ds => decide (uptoBulkAll ds ≤ 1048576)
def OpenSpec.upto (s : _root_.Go.ChangeSpec) : _root_.Go.OpenSpec := { _root_.Go.OpenSpec.ofChange s with cond := some uptoSmall }

/-- 'laws.FnExactIsRest', WHERE WHAT IT READS IS OF BULK AT MOST 1048576: true; the input reads as it did. -/
def fnExactIsRestUptoRow : OpenClaim := { program := "ytbgclfbhdpgdaaa", sum := "22f8510de1dccd97f6d23974effb8ab4a09318e79baf5548f8c29724d132fc2d", func := "loop.example/g01365/laws.FnExactIsRest", spec := "fnExactIsRest", apart := false, narrowed := true }
def FnExactIsRestUptoSaid : Prop := fnExactIsRestUptoRow.holds Try.pinned (OpenSpec.upto fnExactIsRestSpec)

/-- 'laws.FnExactBetterChoice', WHERE WHAT IT READS IS OF BULK AT MOST 1048576: true; the input reads as it did. -/
def fnExactBetterChoiceUptoRow : OpenClaim := { program := "ytbgclfbhdpgdaaa", sum := "22f8510de1dccd97f6d23974effb8ab4a09318e79baf5548f8c29724d132fc2d", func := "loop.example/g01365/laws.FnExactBetterChoice", spec := "fnExactBetterChoice", apart := false, narrowed := true }
def FnExactBetterChoiceUptoSaid : Prop := fnExactBetterChoiceUptoRow.holds Try.pinned (OpenSpec.upto fnExactBetterChoiceSpec)

/-- 'laws.FnExactRestOf', WHERE WHAT IT READS IS OF BULK AT MOST 1048576: true; the input reads as it did. -/
def fnExactRestOfUptoRow : OpenClaim := { program := "ytbgclfbhdpgdaaa", sum := "22f8510de1dccd97f6d23974effb8ab4a09318e79baf5548f8c29724d132fc2d", func := "loop.example/g01365/laws.FnExactRestOf", spec := "fnExactRestOf", apart := false, narrowed := true }
def FnExactRestOfUptoSaid : Prop := fnExactRestOfUptoRow.holds Try.pinned (OpenSpec.upto fnExactRestOfSpec)

/-- 'laws.FnExactWorstRest', WHERE WHAT IT READS IS OF BULK AT MOST 1048576: true; the input reads as it did. -/
def fnExactWorstRestUptoRow : OpenClaim := { program := "ytbgclfbhdpgdaaa", sum := "22f8510de1dccd97f6d23974effb8ab4a09318e79baf5548f8c29724d132fc2d", func := "loop.example/g01365/laws.FnExactWorstRest", spec := "fnExactWorstRest", unfollowed := true, recurses := true, apart := false, narrowed := true }
def FnExactWorstRestUptoSaid : Prop := fnExactWorstRestUptoRow.holds Try.pinned (OpenSpec.upto fnExactWorstRestSpec)

/-- 'laws.FnExactPriceOfRest', WHERE WHAT IT READS IS OF BULK AT MOST 1048576: true; the input reads as it did. -/
def fnExactPriceOfRestUptoRow : OpenClaim := { program := "ytbgclfbhdpgdaaa", sum := "22f8510de1dccd97f6d23974effb8ab4a09318e79baf5548f8c29724d132fc2d", func := "loop.example/g01365/laws.FnExactPriceOfRest", spec := "fnExactPriceOfRest", unfollowed := true, recurses := true, apart := false, narrowed := true }
def FnExactPriceOfRestUptoSaid : Prop := fnExactPriceOfRestUptoRow.holds Try.pinned (OpenSpec.upto fnExactPriceOfRestSpec)

/-- 'laws.FnExactCrowdsShared', WHERE WHAT IT READS IS OF BULK AT MOST 1048576: true; the input reads as it did. -/
def fnExactCrowdsSharedUptoRow : OpenClaim := { program := "ytbgclfbhdpgdaaa", sum := "22f8510de1dccd97f6d23974effb8ab4a09318e79baf5548f8c29724d132fc2d", func := "loop.example/g01365/laws.FnExactCrowdsShared", spec := "fnExactCrowdsShared", apart := false, narrowed := true }
def FnExactCrowdsSharedUptoSaid : Prop := fnExactCrowdsSharedUptoRow.holds Try.pinned (OpenSpec.upto fnExactCrowdsSharedSpec)

/-- 'laws.FnCrowdsRest', WHERE WHAT IT READS IS OF BULK AT MOST 1048576: true; the input reads as it did. -/
def fnCrowdsRestUptoRow : OpenClaim := { program := "ytbgclfbhdpgdaaa", sum := "22f8510de1dccd97f6d23974effb8ab4a09318e79baf5548f8c29724d132fc2d", func := "loop.example/g01365/laws.FnCrowdsRest", spec := "fnCrowdsRest", unfollowed := true, recurses := true, apart := false, narrowed := true }
def FnCrowdsRestUptoSaid : Prop := fnCrowdsRestUptoRow.holds Try.pinned (OpenSpec.upto fnCrowdsRestSpec)

end Rows
end Go.Proofs.Ytbgclfbhdpgdaaa
