/-
  What the program's and the reference's smallest helpers compute: a number within bounds, numbers within bounds, sums.
-/
import Derived.Test.YtiimhpopcgiejaaDoorRows
import Derived.Test.YtiimhpopcgiejaaDoorLib
namespace Go.Proofs.YtiimhpopcgiejaaDoor
set_option linter.unusedVariables false
set_option linter.unusedSimpArgs false
open Go.RowKit

/-- n is from lo to hi. -/
def inB (n lo hi : Int) : Bool := decide (lo ≤ n) && decide (n ≤ hi)
theorem inB_iff {n lo hi : Int} : inB n lo hi = true ↔ lo ≤ n ∧ n ≤ hi := by simp [inB]
theorem inB_no {n lo hi : Int} : inB n lo hi = false ↔ ¬ (lo ≤ n ∧ n ≤ hi) := by rw [← inB_iff]; simp
def allIn (xs : List Int) (lo hi : Int) : Bool := xs.all fun x => inB x lo hi
theorem allIn_iff {xs : List Int} {lo hi : Int} : allIn xs lo hi = true ↔ ∀ x ∈ xs, lo ≤ x ∧ x ≤ hi := by simp [allIn, inB_iff]
def manyB (xs : List Int) (few many lo hi : Int) : Bool := inB xs.length few many && allIn xs lo hi
theorem manyB_iff {xs : List Int} {few many lo hi : Int} : manyB xs few many lo hi = true ↔ (few ≤ xs.length ∧ (xs.length : Int) ≤ many) ∧ ∀ x ∈ xs, lo ≤ x ∧ x ≤ hi := by
  simp [manyB, inB_iff, allIn_iff]
/-- The sum as Go reckons it. -/
def wsum (xs : List Int) : Int := xs.foldl (fun s x => wrap64 (s + x)) 0
theorem wsum_snoc (xs : List Int) (x : Int) : wsum (xs ++ [x]) = wrap64 (wsum xs + x) := by simp [wsum]
theorem wsum_from (m : Int) (hm : 0 ≤ m) : ∀ (xs : List Int) (s : Int), (∀ x ∈ xs, -m ≤ x ∧ x ≤ m) → -9223372036854775807 ≤ s - m * xs.length → s + m * xs.length ≤ 9223372036854775807 →
    xs.foldl (fun s x => wrap64 (s + x)) s = s + xs.sum ∧ -(m * xs.length) ≤ xs.sum ∧ xs.sum ≤ m * xs.length
  | [], s, _, _, _ => by simp
  | x :: xs, s, h, h1, h2 => by
    have hx := h x (by simp)
    have e : m * ((x :: xs).length : Int) = m * xs.length + m := by simp [Int.mul_add]
    rw [e] at h1 h2 ⊢
    have hp : 0 ≤ m * (xs.length : Int) := Int.mul_nonneg hm (by omega)
    obtain ⟨i1, i2, i3⟩ := wsum_from m hm xs (s + x) (fun y hy => h y (by simp [hy])) (by omega) (by omega)
    rw [List.foldl_cons, IntWalk.wrap64_in (s + x) (by omega), i1, List.sum_cons]
    exact ⟨by omega, by omega, by omega⟩
theorem wsum_eq (xs : List Int) (m : Int) (hm : 0 ≤ m) (h : ∀ x ∈ xs, -m ≤ x ∧ x ≤ m) (hl : m * xs.length ≤ 9223372036854775807) : wsum xs = xs.sum ∧ -(m * xs.length) ≤ xs.sum ∧ xs.sum ≤ m * xs.length := by
  have := wsum_from m hm xs 0 h (by omega) (by omega)
  rw [Int.zero_add] at this
  exact this

theorem allIn_snoc {xs : List Int} {k : Nat} {x lo hi : Int} (hx : xs[k]? = some x) : allIn (xs.take (k + 1)) lo hi = (allIn (xs.take k) lo hi && inB x lo hi) := by
  rw [List.take_add_one, hx]; simp [allIn]
theorem allIn_false {xs : List Int} {k : Nat} {x lo hi : Int} (hx : xs[k]? = some x) (h : inB x lo hi = false) : allIn xs lo hi = false := by
  rw [← Bool.not_eq_true]
  intro ha
  have := List.all_eq_true.1 ha x (List.mem_of_getElem? hx)
  rw [h] at this; cases this
theorem wsum_take {xs : List Int} {k : Nat} {x : Int} (hx : xs[k]? = some x) : wsum (xs.take (k + 1)) = wrap64 (wsum (xs.take k) + x) := by
  rw [List.take_add_one, hx]; exact wsum_snoc _ _

theorem info_i64p : (Tryd.prog.info? 2).map (fun i => (i.zero, i.size, i.bytes)) = some (some (.int .i64 0), 1, 8) := by kernel_rfl
theorem within_any (n lo hi : Int) (w : World) :
    Calls Tryd.prog 55 #[.int .i64 n, .int .i64 lo, .int .i64 hi] w fun e w' => e = .returned (.bool (inB n lo hi)) ∧ w = w' := by
  by_cases h : lo ≤ n
  · have H : Hid (inB n lo hi = decide (n ≤ hi)) := by simp [Hid, inB, h]
    go_enter Tryd.func55, Tryd.ntmps55
    go_wp2
    go_ret
    exact ⟨ret_bool H.out.symm, rfl⟩
  · have H : Hid (inB n lo hi = false) := by simp [Hid, inB, h]
    go_enter Tryd.func55, Tryd.ntmps55
    go_wp2
    go_ret
    exact ⟨ret_bool H.out.symm, rfl⟩
theorem l00In_any (n lo hi : Int) (w : World) :
    Calls Tryd.prog 78 #[.int .i64 n, .int .i64 lo, .int .i64 hi] w fun e w' => e = .returned (.bool (inB n lo hi)) ∧ w = w' := by
  by_cases h : lo ≤ n
  · have H : Hid (inB n lo hi = decide (n ≤ hi)) := by simp [Hid, inB, h]
    go_enter Tryd.func78, Tryd.ntmps78
    go_wp2
    go_ret
    exact ⟨ret_bool H.out.symm, rfl⟩
  · have H : Hid (inB n lo hi = false) := by simp [Hid, inB, h]
    go_enter Tryd.func78, Tryd.ntmps78
    go_wp2
    go_ret
    exact ⟨ret_bool H.out.symm, rfl⟩
theorem areWithin_any (w : World) (a : Option Addr) (c : Nat) (xs : List Int) (lo hi : Int) (h : Rd w w.heap.size a (ints xs)) (hl : xs.length ≤ 1152921504606846976) :
    Calls Tryd.prog 82 #[.slice a xs.length c, .int .i64 lo, .int .i64 hi] w fun e w' => e = .returned (.bool (allIn xs lo hi)) ∧ w = w' := by
  go_enter Tryd.func82, Tryd.ntmps82
  go_wp2
  go_loop [11] (fun i => ∃ k : Nat, k ≤ xs.length ∧ i = .int .i64 k ∧ allIn (xs.take k) lo hi = true) (fun i => xs.length - (intOf i).toNat)
  case atStart => exact ⟨0, Nat.zero_le _, rfl, rfl⟩
  case round =>
    obtain ⟨k, hk, rfl, ha'⟩ := hrel
    have ha := Lib.hid ha'
    clear ha'
    by_cases hlt : k < xs.length
    · obtain ⟨b, o, x, rfl, hbb, hck, hx⟩ := h.get hlt
      clear h
      cases hin : inB x lo hi with
      | true =>
        go_wp2_with (go_at_call 55; refine (within_any _ _ _ _).mono ?_; rintro e w' ⟨rfl, rfl⟩)
        go_round
        case rel => exact ⟨k + 1, by omega, by go_num, by rw [allIn_snoc hx.out, ha.out, hin]; rfl⟩
        case measure => simp [intOf]; omega
      | false =>
        go_wp2_with (go_at_call 55; refine (within_any _ _ _ _).mono ?_; rintro e w' ⟨rfl, rfl⟩)
        go_ret
        exact ⟨ret_bool (allIn_false hx.out hin).symm, rfl⟩
    · have : k = xs.length := by omega
      subst this
      go_wp2
      go_ret
      exact ⟨ret_bool (by rw [← ha.out, List.take_length]), rfl⟩
theorem areMany_any (w : World) (a : Option Addr) (c : Nat) (xs : List Int) (few many lo hi : Int) (h : Rd w w.heap.size a (ints xs)) (hl : xs.length ≤ 1152921504606846976) :
    Calls Tryd.prog 66 #[.slice a xs.length c, .int .i64 few, .int .i64 many, .int .i64 lo, .int .i64 hi] w fun e w' => e = .returned (.bool (manyB xs few many lo hi)) ∧ w = w' := by
  cases hin : inB xs.length few many with
  | true =>
    have H : Hid (manyB xs few many lo hi = allIn xs lo hi) := by simp [Hid, manyB, hin]
    go_enter Tryd.func66, Tryd.ntmps66
    go_wp2_with (first | (go_at_call 55; refine (within_any _ _ _ _).mono ?_; rintro e w' ⟨rfl, rfl⟩) | (go_at_call 82; refine (areWithin_any _ _ _ xs _ _ h hl).mono ?_; rintro e w' ⟨rfl, rfl⟩))
    go_ret
    exact ⟨ret_bool H.out.symm, rfl⟩
  | false =>
    have H : Hid (manyB xs few many lo hi = false) := by simp [Hid, manyB, hin]
    go_enter Tryd.func66, Tryd.ntmps66
    go_wp2_with (go_at_call 55; refine (within_any _ _ _ _).mono ?_; rintro e w' ⟨rfl, rfl⟩)
    go_ret
    exact ⟨ret_bool H.out.symm, rfl⟩
end Go.Proofs.YtiimhpopcgiejaaDoor
