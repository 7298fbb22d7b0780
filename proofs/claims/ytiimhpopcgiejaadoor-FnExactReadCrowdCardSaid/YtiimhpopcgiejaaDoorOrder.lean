/-
  Orders of all numbers below n: the reference's and the program's tests are one plain test.
-/
import Derived.Test.YtiimhpopcgiejaaDoorBase
namespace Go.Proofs.YtiimhpopcgiejaaDoor
set_option linter.unusedVariables false
set_option linter.unusedSimpArgs false
open Go.RowKit

def hasB (xs : List Int) (n : Int) : Bool := xs.any fun x => x == n
theorem hasB_iff {xs : List Int} {n : Int} : hasB xs n = true ↔ n ∈ xs := by simp [hasB]
theorem hasB_no {xs : List Int} {n : Int} : hasB xs n = false ↔ n ∉ xs := by rw [← hasB_iff]; simp
theorem hasB_snoc {xs : List Int} {k : Nat} {x n : Int} (hx : xs[k]? = some x) : hasB (xs.take (k + 1)) n = (hasB (xs.take k) n || (x == n)) := by
  rw [List.take_add_one, hx]; simp [hasB]
theorem hasB_take {xs : List Int} {k : Nat} {x n : Int} (hx : xs[k]? = some x) (h : (x == n) = true) : hasB xs n = true := by
  rw [hasB_iff]; rw [beq_iff_eq] at h; rw [← h]; exact List.mem_of_getElem? hx
/-- All numbers are from 0 to n - 1, each at most once. -/
def onceB (xs : List Int) (n : Nat) : Bool := allIn xs 0 (n - 1) && decide xs.Nodup
def orderB (xs : List Int) (n : Nat) : Bool := onceB xs n && decide (xs.length = n)
theorem orderB_iff {xs : List Int} {n : Nat} : orderB xs n = true ↔ (∀ x ∈ xs, 0 ≤ x ∧ x < n) ∧ xs.Nodup ∧ xs.length = n := by
  simp only [orderB, onceB, Bool.and_eq_true, allIn_iff, decide_eq_true_iff, and_assoc]
  constructor
  · rintro ⟨h1, h2, h3⟩; exact ⟨fun x hx => by have := h1 x hx; omega, h2, h3⟩
  · rintro ⟨h1, h2, h3⟩; exact ⟨fun x hx => by have := h1 x hx; omega, h2, h3⟩
theorem nodup_take_succ {xs : List Int} {k : Nat} {x : Int} (hx : xs[k]? = some x) : (xs.take (k + 1)).Nodup ↔ (xs.take k).Nodup ∧ x ∉ xs.take k := by
  rw [List.take_add_one, hx]
  simp only [Option.toList_some, List.nodup_append, List.nodup_cons, List.not_mem_nil, not_false_eq_true, List.nodup_nil, and_self, true_and]
  constructor
  · rintro ⟨h1, h2⟩; exact ⟨h1, fun h => h2 x h x (by simp) rfl⟩
  · rintro ⟨h1, h2⟩; exact ⟨h1, fun a ha b hb e => by simp at hb; subst hb; subst e; exact h2 ha⟩
theorem not_nodup_of {xs : List Int} {k : Nat} {x : Int} (hx : xs[k]? = some x) (h : x ∈ xs.take k) : ¬ xs.Nodup := by
  intro hn
  have h2 : (xs.take (k + 1)).Nodup := hn.sublist (List.take_sublist _ _)
  exact ((nodup_take_succ hx).1 h2).2 h
theorem onceB_step {xs : List Int} {k n : Nat} {x : Int} (hx : xs[k]? = some x) (h : onceB (xs.take k) n = true) (h1 : inB x 0 (n - 1) = true) (h2 : hasB (xs.take k) x = false) : onceB (xs.take (k + 1)) n = true := by
  simp only [onceB, Bool.and_eq_true, decide_eq_true_iff] at h ⊢
  exact ⟨by rw [allIn_snoc hx, h.1, h1]; rfl, (nodup_take_succ hx).2 ⟨h.2, hasB_no.1 h2⟩⟩
theorem onceB_out {xs : List Int} {k n : Nat} {x : Int} (hx : xs[k]? = some x) (h1 : inB x 0 (n - 1) = false) : onceB xs n = false := by
  simp [onceB, allIn_false hx h1]
theorem onceB_dup {xs : List Int} {k n : Nat} {x : Int} (hx : xs[k]? = some x) (h2 : hasB (xs.take k) x = true) : onceB xs n = false := by
  simp [onceB, not_nodup_of hx (hasB_iff.1 h2)]

/-- The beginning of a slice. -/
theorem Rd.take {w : World} {B : Nat} {a : Option Addr} {xs : List Int} (h : Rd w B a (ints xs)) (k : Nat) : Rd w B a (ints (xs.take k)) := by
  rcases h with h | ⟨b, o, ha, hb, hc⟩
  · have : (ints xs).length = 0 := by rw [h]; rfl
    simp at this; subst this; exact .inl (by simp)
  · refine .inr ⟨b, o, ha, hb, fun j hj => ?_⟩
    have hj' : j < (ints xs).length := by simp at hj ⊢; omega
    rw [hc j hj']
    simp only [ints, List.map_take, List.getElem?_take]
    rw [if_pos (by simp at hj; omega)]

end Go.Proofs.YtiimhpopcgiejaaDoor
