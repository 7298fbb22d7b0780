/-
  RoundsOf: the plain function, round by round.
-/
import Derived.Test.YthofpfnccgfohaaPoints
namespace Go.Proofs.Ythofpfnccgfohaa
set_option linter.unusedVariables false
set_option linter.unusedSimpArgs false
open Go.RowKit

theorem length_le_of_sub {xs ys : List Int} (h : xs.Nodup) (hs : ∀ x ∈ xs, x ∈ ys) : xs.length ≤ ys.length := List.Nodup.length_le_of_subset h hs
/-- Who is out, by number. -/
def goneL (n : Nat) (out : List Int) : List Value := (List.range n).map fun (j : Nat) => Value.bool (hasB out j)
theorem goneL_length (n : Nat) (out : List Int) : (goneL n out).length = n := by simp [goneL]
theorem goneL_nil (n : Nat) : List.replicate n (Value.bool false) = goneL n [] := by
  apply List.ext_getElem <;> simp [goneL, hasB]
theorem goneL_get {n : Nat} {out : List Int} {j : Nat} (h : j < n) : (goneL n out)[j]? = some (.bool (hasB out j)) := by simp [goneL, h]
theorem hasB_app (out : List Int) (q x : Int) : hasB (out ++ [q]) x = (hasB out x || (q == x)) := by simp [hasB]
theorem goneL_set (n : Nat) (out : List Int) (q : Nat) : (goneL n out).set q (.bool true) = goneL n (out ++ [(q : Int)]) := by
  apply List.ext_getElem
  · simp [goneL]
  · intro j h1 h2
    simp only [goneL, List.getElem_set, List.getElem_map, List.getElem_range, hasB_app]
    by_cases h : q = j
    · subst h; simp
    · rw [if_neg h]
      have : ((q : Int) == (j : Int)) = false := by simp; omega
      rw [this, Bool.or_false]

/-- The place, on a ballot, of the first who is not out. -/
def firstI (out ys : List Int) : Int := findI (fun j => !hasB out (ys.getD j 0)) ys.length
theorem first_spec {out ys : List Int} {n : Nat} (h : out.length < n) (hys : orderB ys n = true) :
    ∃ k : Nat, k < ys.length ∧ firstI out ys = k ∧ (∀ j, j < k → hasB out (ys.getD j 0) = true) ∧ hasB out (ys.getD k 0) = false := by
  rcases findI_spec (fun j => !hasB out (ys.getD j 0)) ys.length with ⟨k, hk, h1, h2, h3⟩ | ⟨h1, _⟩
  · exact ⟨k, hk, h3, fun j hj => by have := h2 j hj; simpa using this, by simpa using h1⟩
  · exfalso
    obtain ⟨_, hn, hl⟩ := orderB_iff.1 hys
    have := length_le_of_sub (ys := out) hn (fun x hx => by
      obtain ⟨j, hj, rfl⟩ := List.getElem_of_mem hx
      have := h1 j hj
      simp only [Bool.not_eq_false'] at this
      rw [List.getD_eq_getElem?_getD, List.getElem?_eq_getElem hj] at this
      exact hasB_iff.1 this)
    omega
def firstOf (out ys : List Int) : Nat := (ys.getD (firstI out ys).toNat 0).toNat
theorem missing {out : List Int} {n : Nat} (h : out.length < n) : ∃ j : Nat, j < n ∧ hasB out j = false := by
  refine Classical.byContradiction fun hno => ?_
  have : ((List.range n).map fun (j : Nat) => (j : Int)).length ≤ out.length := length_le_of_sub (by
      rw [List.nodup_iff_pairwise_ne, List.pairwise_map]
      exact (List.nodup_range (n := n)).imp fun h e => h (by omega)) (fun x hx => by
    obtain ⟨j, hj, rfl⟩ := List.mem_map.1 hx
    have hj' := List.mem_range.1 hj
    cases hh : hasB out j with
    | true => exact hasB_iff.1 hh
    | false => exact absurd ⟨j, hj', hh⟩ hno)
  simp at this
  omega
/-- How many ballots put each one first, of those not out. -/
def cntF (n : Nat) (out : List Int) (yss : List (List Int)) : Nat → List Int
  | 0 => List.replicate n 0
  | k + 1 => addAt (cntF n out yss k) (firstOf out (yss.getD k [])) 1
theorem cntF_length (n : Nat) (out : List Int) (yss : List (List Int)) : ∀ k, (cntF n out yss k).length = n
  | 0 => by simp [cntF]
  | k + 1 => by rw [cntF, addAt_length, cntF_length n out yss k]
theorem cntF_bd (n : Nat) (out : List Int) (yss : List (List Int)) : ∀ (k : Nat) (j : Nat), 0 ≤ (cntF n out yss k).getD j 0 ∧ (cntF n out yss k).getD j 0 ≤ k
  | 0, j => by
    have : (cntF n out yss 0).getD j 0 = 0 := by
      simp only [cntF, List.getD_eq_getElem?_getD, List.getElem?_replicate]
      split <;> rfl
    rw [this]; simp
  | k + 1, j => by
    have := addAt_bd (cntF_bd n out yss k) (firstOf out (yss.getD k [])) (d := 1) (e := 1) (by omega) (by omega) j
    exact ⟨this.1, by rw [cntF]; have := this.2; omega⟩
/-- The last of the ones with the fewest, of those not out; -1 if all are out. -/
def worstF (out cs : List Int) : Nat → Int
  | 0 => -1
  | i + 1 => if !hasB out i && (decide (worstF out cs i < 0) || decide (cs.getD i 0 ≤ cs.getD (worstF out cs i).toNat 0)) then (i : Int) else worstF out cs i
theorem worstF_bd (out cs : List Int) : ∀ i : Nat, -1 ≤ worstF out cs i ∧ worstF out cs i < i
  | 0 => by simp [worstF]
  | i + 1 => by
    have := worstF_bd out cs i
    unfold worstF
    split <;> omega
theorem worstF_yes (out cs : List Int) : ∀ i : Nat, (∃ j : Nat, j < i ∧ hasB out j = false) → 0 ≤ worstF out cs i
  | 0, h => by obtain ⟨j, hj, _⟩ := h; omega
  | i + 1, h => by
    unfold worstF
    split
    · omega
    · rename_i hc
      by_cases h0 : worstF out cs i < 0
      · exfalso
        obtain ⟨j, hj, hh⟩ := h
        by_cases hji : j = i
        · subst hji; simp [hh, h0] at hc
        · have := worstF_yes out cs i ⟨j, by omega, hh⟩
          omega
      · omega
def roundF (n : Nat) (yss : List (List Int)) (out : List Int) : List Int := out ++ [worstF out (cntF n out yss yss.length) n]
def rdF (n : Nat) (yss : List (List Int)) : Nat → List Int
  | 0 => []
  | t + 1 => roundF n yss (rdF n yss t)
theorem rdF_length (n : Nat) (yss : List (List Int)) : ∀ t, (rdF n yss t).length = t
  | 0 => rfl
  | t + 1 => by rw [rdF, roundF, List.length_append, rdF_length n yss t]; rfl
theorem rdF_worst {n t : Nat} (yss : List (List Int)) (h : t < n) : ∃ q : Nat, q < n ∧ worstF (rdF n yss t) (cntF n (rdF n yss t) yss yss.length) n = q := by
  have h1 := worstF_yes (rdF n yss t) (cntF n (rdF n yss t) yss yss.length) n (missing (by rw [rdF_length]; exact h))
  have h2 := (worstF_bd (rdF n yss t) (cntF n (rdF n yss t) yss yss.length) n).2
  exact ⟨(worstF (rdF n yss t) (cntF n (rdF n yss t) yss yss.length) n).toNat, by omega, by omega⟩
def roundsF (yss : List (List Int)) : Option (List Int) := if ballotsB yss then some (rdF (wide yss) yss (wide yss)) else none
end Go.Proofs.Ythofpfnccgfohaa
