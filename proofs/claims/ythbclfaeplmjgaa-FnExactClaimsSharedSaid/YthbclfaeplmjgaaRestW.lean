/-
  Seats by remainders: the walks.
-/
import Derived.Test.YthbclfaeplmjgaaRest
import Derived.Test.YthbclfaeplmjgaaGrow
namespace Go.Proofs.Ythbclfaeplmjgaa
set_option linter.unusedVariables false
set_option linter.unusedSimpArgs false
open Go.RowKit

theorem take_map_succ (f : Int → Int) {xs : List Int} {k : Nat} {x : Int} (h : xs[k]? = some x) : (xs.take (k + 1)).map f = (xs.take k).map f ++ [f x] := by
  rw [List.take_add_one, h]; simp
theorem quo_bd {s S x : Int} (h0 : 0 ≤ x) (h1 : x ≤ 1000000) (s0 : 0 ≤ s) (s1 : s ≤ 101) (hS : 0 < S) : 0 ≤ x * s ∧ x * s ≤ 101000000 ∧ 0 ≤ quoF s S x ∧ quoF s S x ≤ 101000000 := by
  obtain ⟨q1, q2, q3, q4⟩ := quo_rem h0 s0 hS
  have hxs : x * s ≤ 1000000 * 101 := Int.mul_le_mul h1 s1 s0 (by omega)
  have : 1 * quoF s S x ≤ S * quoF s S x := Int.mul_le_mul_of_nonneg_right (by omega) q2
  have := Int.mul_nonneg h0 s0
  omega
theorem quo_sum_bd {s S : Int} (s0 : 0 ≤ s) (s1 : s ≤ 101) (hS : 0 < S) : ∀ xs : List Int, (∀ x ∈ xs, 0 ≤ x ∧ x ≤ 1000000) → 0 ≤ (xs.map (quoF s S)).sum ∧ (xs.map (quoF s S)).sum ≤ 101000000 * xs.length
  | [], _ => by simp
  | x :: xs, h => by
    have hx := h x (by simp)
    have := quo_bd hx.1 hx.2 s0 s1 hS
    have := quo_sum_bd s0 s1 hS xs (fun y hy => h y (by simp [hy]))
    simp only [List.map_cons, List.sum_cons, List.length_cons]
    omega

def cmpF (a b : Int) : Int := if a < b then -1 else if b < a then 1 else 0
theorem cmpF_bd (a b : Int) : -1 ≤ cmpF a b ∧ cmpF a b ≤ 1 := by unfold cmpF; split <;> (try split) <;> omega
theorem cmpF_neg (a b : Int) : decide (cmpF a b < 0) = decide (a < b) := by
  unfold cmpF
  by_cases h : a < b
  · simp [h]
  · by_cases h2 : b < a <;> simp [h, h2]
theorem compare_any (a b : Int) (w : World) : Calls Try.prog 130 #[.int .i64 a, .int .i64 b] w fun e w' => e = .returned (.int .i64 (cmpF a b)) ∧ w = w' := by
  by_cases h : a < b
  · have H : Hid (cmpF a b = -1) := by simp [Hid, cmpF, h]
    go_enter Try.func130, Try.ntmps130
    go_wp2
    go_ret
    exact ⟨ret_int H.out.symm, rfl⟩
  · by_cases h2 : b < a
    · have H : Hid (cmpF a b = 1) := by simp [Hid, cmpF, h, h2]
      go_enter Try.func130, Try.ntmps130
      go_wp2
      go_ret
      exact ⟨ret_int H.out.symm, rfl⟩
    · have H : Hid (cmpF a b = 0) := by simp [Hid, cmpF, h, h2]
      go_enter Try.func130, Try.ntmps130
      go_wp2
      go_ret
      exact ⟨ret_int H.out.symm, rfl⟩
end Go.Proofs.Ythbclfaeplmjgaa
