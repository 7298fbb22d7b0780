/-
  PointsOf: the reference's and the program's answers are one plain function.
-/
import Derived.Test.YthbclfaeplmjgaaBallots
namespace Go.Proofs.Ythbclfaeplmjgaa
set_option linter.unusedVariables false
set_option linter.unusedSimpArgs false
open Go.RowKit

def addAt (os : List Int) (i : Nat) (d : Int) : List Int := os.set i (os.getD i 0 + d)
theorem addAt_length (os : List Int) (i : Nat) (d : Int) : (addAt os i d).length = os.length := by simp [addAt]
theorem addAt_bd {os : List Int} {m d e : Int} (h : ∀ j, 0 ≤ os.getD j 0 ∧ os.getD j 0 ≤ m) (i : Nat) (h0 : 0 ≤ d) (h1 : d ≤ e) : ∀ j, 0 ≤ (addAt os i d).getD j 0 ∧ (addAt os i d).getD j 0 ≤ m + e := by
  intro j
  have hj := h j
  have hi := h i
  unfold addAt
  simp only [List.getD, List.getElem?_set] at *
  by_cases e1 : i = j
  · subst e1
    by_cases e2 : i < os.length
    · rw [if_pos rfl, if_pos e2]; simp only [Option.getD_some]; omega
    · rw [if_pos rfl, if_neg e2]; simp only [Option.getD_none]; omega
  · rw [if_neg e1]; omega
/-- The points behind j places of a ballot. -/
def ptsB (n : Nat) (ys : List Int) : Nat → List Int → List Int
  | 0, os => os
  | j + 1, os => addAt (ptsB n ys j os) (ys.getD j 0).toNat ((n : Int) - 1 - j)
/-- .. behind i ballots. -/
def ptsF (n : Nat) (yss : List (List Int)) : Nat → List Int
  | 0 => List.replicate n 0
  | i + 1 => ptsB n (yss.getD i []) n (ptsF n yss i)
theorem ptsB_length (n : Nat) (ys : List Int) (j : Nat) (os : List Int) : (ptsB n ys j os).length = os.length := by
  induction j with
  | zero => rfl
  | succ j ih => simp [ptsB, addAt_length, ih]
theorem ptsF_length (n : Nat) (yss : List (List Int)) (i : Nat) : (ptsF n yss i).length = n := by
  induction i with
  | zero => simp [ptsF]
  | succ i ih => simp [ptsF, ptsB_length, ih]
theorem ptsB_bd {n : Nat} {os : List Int} {m : Int} (h : ∀ j, 0 ≤ os.getD j 0 ∧ os.getD j 0 ≤ m) (ys : List Int) (j : Nat) (hj : j ≤ n) (hn : n ≤ 12) : ∀ q, 0 ≤ (ptsB n ys j os).getD q 0 ∧ (ptsB n ys j os).getD q 0 ≤ m + 12 * j := by
  induction j with
  | zero => simpa [ptsB] using h
  | succ j ih =>
    intro q
    have := addAt_bd (ih (by omega)) (ys.getD j 0).toNat (d := (n : Int) - 1 - j) (e := 12) (by omega) (by omega) q
    simp only [ptsB]
    omega
theorem ptsF_bd {n : Nat} (yss : List (List Int)) (i : Nat) (hn : n ≤ 12) : ∀ q, 0 ≤ (ptsF n yss i).getD q 0 ∧ (ptsF n yss i).getD q 0 ≤ 144 * i := by
  induction i with
  | zero => intro q; simp only [ptsF, List.getD, List.getElem?_replicate]; split <;> simp
  | succ i ih =>
    intro q
    have := ptsB_bd ih (yss.getD i []) n (Nat.le_refl _) hn q
    simp only [ptsF]
    omega
def pointsF (yss : List (List Int)) : Option (List Int) := if ballotsB yss then some (ptsF (wide yss) yss yss.length) else none

/-- What a valid ballot holds at a place. -/
theorem order_get {ys : List Int} {n k : Nat} (h : orderB ys n = true) (hk : k < n) : ∃ q : Nat, ys[k]? = some (q : Int) ∧ q < n := by
  obtain ⟨h1, _, h3⟩ := orderB_iff.1 h
  have hk' : k < ys.length := by omega
  have := h1 ys[k] (List.getElem_mem hk')
  exact ⟨ys[k].toNat, by rw [List.getElem?_eq_getElem hk']; congr 1; omega, by omega⟩

end Go.Proofs.Ythbclfaeplmjgaa
