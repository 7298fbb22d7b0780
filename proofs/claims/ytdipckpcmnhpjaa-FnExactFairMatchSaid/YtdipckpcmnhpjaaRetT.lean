/-
  Answers of three: a list of integers, an integer, and whether there are any.
-/
import Derived.Test.YtdipckpcmnhpjaaLawInts
namespace Go.Proofs.Ytdipckpcmnhpjaa
set_option linter.unusedVariables false
set_option linter.unusedSimpArgs false
open Go.RowKit

def RetT (T : Nat) (w : World) (r : Option (List Int × Int)) (e : Ending) (w' : World) : Prop :=
  Below w.heap.size w w' ∧ match r with
    | none => e = .returned (.tuple #[.slice none 0 0, .int .i64 0, .bool false])
    | some (ys, m) => ∃ a c, e = .returned (.tuple #[.slice a ys.length c, .int .i64 m, .bool true]) ∧ w'.ownsRow w.heap.size T 1 (.slice a ys.length c) ys.length (ints ys)
theorem RetT.no {T : Nat} {w w' : World} (h : Below w.heap.size w w') : RetT T w none (.returned (.tuple #[.slice none 0 0, .int .i64 0, .bool false])) w' := ⟨h, rfl⟩
theorem flat_ofT {f : Nat} {args : Array Value} {w : World} {T : Nat} {r : Option (List Int × Int)} (h : Calls Try.prog f args w (RetT T w r)) :
    Calls Try.prog f args w fun e w' => ∃ a c, e = .returned (.tuple #[.slice a ((r.map Prod.fst).getD []).length c, .int .i64 ((r.map Prod.snd).getD 0), .bool r.isSome]) ∧ OwnI T w' w.heap.size w'.heap.size a c ((r.map Prod.fst).getD []) ∧ Below w.heap.size w w' := by
  refine h.mono fun e w' hR => ?_
  obtain ⟨hb, h2⟩ := hR
  cases r with
  | none => exact ⟨none, 0, h2, OwnI.of_own (World.ownsRow_nil _ _ _ _), hb⟩
  | some p =>
    obtain ⟨ys, m⟩ := p
    obtain ⟨a, c, he, ho⟩ := h2
    exact ⟨a, c, he, OwnI.of_own ho, hb⟩
end Go.Proofs.Ytdipckpcmnhpjaa
