/-
  Seats by quotients: what the program's and the reference's functions compute, as plain functions, and the walks of the small ones.
-/
import Derived.Test.YthbclfaeplmjgaaBase
namespace Go.Proofs.Ythbclfaeplmjgaa
set_option linter.unusedVariables false
set_option linter.unusedSimpArgs false
open Go.RowKit

def votesB (xs : List Int) : Bool := manyB xs 1 12 0 1000000 && decide (0 < wsum xs)
theorem votesB_iff {xs : List Int} : votesB xs = true ↔ (1 ≤ xs.length ∧ xs.length ≤ 12) ∧ (∀ x ∈ xs, 0 ≤ x ∧ x ≤ 1000000) ∧ 0 < xs.sum := by
  unfold votesB
  rw [Bool.and_eq_true, manyB_iff, decide_eq_true_iff]
  constructor
  · rintro ⟨⟨⟨h1, h2⟩, h3⟩, h4⟩
    have := wsum_eq xs 1000000 (by omega) (fun x hx => by have := h3 x hx; omega) (by omega)
    exact ⟨⟨by omega, by omega⟩, h3, by omega⟩
  · rintro ⟨⟨h1, h2⟩, h3, h4⟩
    have := wsum_eq xs 1000000 (by omega) (fun x hx => by have := h3 x hx; omega) (by omega)
    exact ⟨⟨⟨by omega, by omega⟩, h3⟩, by omega⟩

def above (kind has : Int) : Int := if kind = 0 then has + 1 else if kind = 1 then 2 * has + 1 else has
theorem above_bd (kind has : Int) (h0 : 0 ≤ has) (h1 : has ≤ 1000) : 0 ≤ above kind has ∧ above kind has ≤ 2001 := by unfold above; (repeat' split) <;> omega
def beforeF (v a u b : Int) : Bool :=
  if (a == 0) && decide (0 < v) && (b == 0) && decide (0 < u) then decide (u < v) else if (a == 0) || (b == 0) then (a == 0) && decide (0 < v) && !((b == 0) && decide (0 < u)) else decide (u * a < v * b)
def aheadF (v a u b : Int) : Bool :=
  if (v == 0) || (u == 0) then decide (u < v) else if (a == 0) || (b == 0) then (a == 0) && (decide (0 < b) || decide (u < v)) else decide (u * a < v * b)

end Go.Proofs.Ythbclfaeplmjgaa
