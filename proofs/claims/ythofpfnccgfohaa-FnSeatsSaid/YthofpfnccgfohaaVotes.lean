/-
  Seats by quotients: what the program's and the reference's functions compute, as plain functions, and the walks of the small ones.
-/
import Derived.Test.YthofpfnccgfohaaBase
namespace Go.Proofs.Ythofpfnccgfohaa
set_option linter.unusedVariables false
set_option linter.unusedSimpArgs false
open Go.RowKit

def votesB (xs : List Int) : Bool := manyB xs 1 12 0 1000000 && decide (0 < wsum xs)
theorem votesB_iff {xs : List Int} : votesB xs = true ↔ (1 ≤ xs.length ∧ xs.length ≤ 12) ∧ (∀ x ∈ xs, 0 ≤ x ∧ x ≤ 1000000) ∧ 0 < xs.sum := by
  unfold votesB
  rw [Bool.and_eq_true, manyB_iff, decide_eq_true_iff]
  constructor
  · rintro ⟨⟨⟨h1, h2⟩, h3⟩, h4⟩
    have := wsum_eq xs 1000000 (by omega) (fun x hx => by have := h3 x hx; omega) (by omega)
    exact ⟨⟨by omega, by omega⟩, h3, by omega⟩
  · rintro ⟨⟨h1, h2⟩, h3, h4⟩
    have := wsum_eq xs 1000000 (by omega) (fun x hx => by have := h3 x hx; omega) (by omega)
    exact ⟨⟨⟨by omega, by omega⟩, h3⟩, by omega⟩

def above (kind has : Int) : Int := if kind = 0 then has + 1 else if kind = 1 then 2 * has + 1 else has
theorem above_bd (kind has : Int) (h0 : 0 ≤ has) (h1 : has ≤ 1000) : 0 ≤ above kind has ∧ above kind has ≤ 2001 := by unfold above; (repeat' split) <;> omega
def beforeF (v a u b : Int) : Bool :=
  if (a == 0) && decide (0 < v) && (b == 0) && decide (0 < u) then decide (u < v) else if (a == 0) || (b == 0) then (a == 0) && decide (0 < v) && !((b == 0) && decide (0 < u)) else decide (u * a < v * b)
def aheadF (v a u b : Int) : Bool :=
  if (v == 0) || (u == 0) then decide (u < v) else if (a == 0) || (b == 0) then (a == 0) && (decide (0 < b) || decide (u < v)) else decide (u * a < v * b)

theorem areVotesOf_any (w : World) (a : Option Addr) (c : Nat) (xs : List Int) (h : Rd w w.heap.size a (ints xs)) (hl : xs.length ≤ 1152921504606846976) :
    Calls Try.prog 32 #[.slice a xs.length c] w fun e w' => e = .returned (.bool (votesB xs)) ∧ w = w' := by
  cases hin : manyB xs 1 12 0 1000000 with
  | true =>
    have H : Hid (votesB xs = decide (0 < wsum xs)) := by simp [Hid, votesB, hin]
    go_enter Try.func32, Try.ntmps32
    go_wp2_with (first | (go_at_call 38; refine (areMany_any _ _ _ xs _ _ _ _ h hl).mono ?_; rintro e w' ⟨rfl, rfl⟩) | (go_at_call 39; refine (sumOf_any _ _ _ xs h hl).mono ?_; rintro e w' ⟨rfl, rfl⟩))
    go_ret
    exact ⟨ret_bool H.out.symm, rfl⟩
  | false =>
    have H : Hid (votesB xs = false) := by simp [Hid, votesB, hin]
    go_enter Try.func32, Try.ntmps32
    go_wp2_with (go_at_call 38; refine (areMany_any _ _ _ xs _ _ _ _ h hl).mono ?_; rintro e w' ⟨rfl, rfl⟩)
    go_ret
    exact ⟨ret_bool H.out.symm, rfl⟩
theorem areSeatsOf_any (n : Int) (w : World) : Calls Try.prog 33 #[.int .i64 n] w fun e w' => e = .returned (.bool (inB n 0 100)) ∧ w = w' := by
  go_enter Try.func33, Try.ntmps33
  go_wp2_with (go_at_call 35; refine (within_any _ _ _ _).mono ?_; rintro e w' ⟨rfl, rfl⟩)
  go_ret
  exact ⟨rfl, rfl⟩
theorem divisor_any (kind s : Int) (h0 : 0 ≤ s) (h1 : s ≤ 1000) (w : World) :
    Calls Try.prog 37 #[.int .i64 kind, .int .i64 s] w fun e w' => e = .returned (.int .i64 (above kind s)) ∧ w = w' := by
  by_cases k0 : kind = 0
  · have H : Hid (above kind s = s + 1) := by simp [Hid, above, k0]
    go_enter Try.func37, Try.ntmps37
    go_wp2
    go_ret
    exact ⟨ret_int H.out.symm, rfl⟩
  · by_cases k1 : kind = 1
    · have H : Hid (above kind s = 2 * s + 1) := by simp [Hid, above, k1]
      go_enter Try.func37, Try.ntmps37
      go_wp2
      go_ret
      exact ⟨ret_int H.out.symm, rfl⟩
    · have H : Hid (above kind s = s) := by simp [Hid, above, k0, k1]
      go_enter Try.func37, Try.ntmps37
      go_wp2
      go_ret
      exact ⟨ret_int H.out.symm, rfl⟩
theorem l07Above_any (kind s : Int) (h0 : 0 ≤ s) (h1 : s ≤ 1000) (w : World) :
    Calls Try.prog 44 #[.int .i64 s, .int .i64 kind] w fun e w' => e = .returned (.int .i64 (above kind s)) ∧ w = w' := by
  by_cases k0 : kind = 0
  · have H : Hid (above kind s = s + 1) := by simp [Hid, above, k0]
    go_enter Try.func44, Try.ntmps44
    go_wp2
    go_ret
    exact ⟨ret_int H.out.symm, rfl⟩
  · by_cases k1 : kind = 1
    · have H : Hid (above kind s = 2 * s + 1) := by simp [Hid, above, k1]
      go_enter Try.func44, Try.ntmps44
      go_wp2
      go_ret
      exact ⟨ret_int H.out.symm, rfl⟩
    · have H : Hid (above kind s = s) := by simp [Hid, above, k0, k1]
      go_enter Try.func44, Try.ntmps44
      go_wp2
      go_ret
      exact ⟨ret_int H.out.symm, rfl⟩
theorem mul_bd (x y m n : Int) (h0 : 0 ≤ x) (h1 : x ≤ m) (h2 : 0 ≤ y) (h3 : y ≤ n) : 0 ≤ x * y ∧ x * y ≤ m * n := 
  ⟨Int.mul_nonneg h0 h2, Int.mul_le_mul h1 h3 h2 (by omega)⟩
set_option maxHeartbeats 4000000 in
theorem l07Before_any (v a u b : Int) (hv : 0 ≤ v ∧ v ≤ 1000000) (hu : 0 ≤ u ∧ u ≤ 1000000) (ha : 0 ≤ a ∧ a ≤ 2001) (hb : 0 ≤ b ∧ b ≤ 2001) (w : World) :
    Calls Try.prog 43 #[.int .i64 v, .int .i64 a, .int .i64 u, .int .i64 b] w fun e w' => e = .returned (.bool (beforeF v a u b)) ∧ w = w' := by
  have m1 := mul_bd v b 1000000 2001 hv.1 hv.2 hb.1 hb.2
  have m2 := mul_bd u a 1000000 2001 hu.1 hu.2 ha.1 ha.2
  obtain ⟨hv0, hv1⟩ := hv
  obtain ⟨hu0, hu1⟩ := hu
  obtain ⟨m10, m11⟩ := m1
  obtain ⟨m20, m21⟩ := m2
  cases h1 : (a == 0) <;> cases h2 : decide (0 < v) <;> cases h3 : (b == 0) <;> cases h4 : decide (0 < u)
  all_goals
    obtain ⟨r, hr⟩ : ∃ r, r = beforeF v a u b := ⟨_, rfl⟩
    have H := Lib.hid hr
    rw [← hr]
    clear hr
    go_enter Try.func43, Try.ntmps43
    go_wp2
    go_ret
    refine ⟨ret_bool ?_, rfl⟩
    rw [H.out]
    simp [beforeF, h1, h2, h3, h4]
set_option maxHeartbeats 2000000 in
theorem ahead_any (b2 b3 b4 bo bv vo n co cv i k : Nat) (oi ok vi vk kind : Int) (hi : i < n) (hk : k < n) (hn : n ≤ 1000000) (w : World)
    (h2 : w.cell? ⟨b2, 0, none⟩ = some (.int .i64 kind)) (h3 : w.cell? ⟨b3, 0, none⟩ = some (.slice (some ⟨bo, 0, none⟩) n co)) (h4 : w.cell? ⟨b4, 0, none⟩ = some (.slice (some ⟨bv, vo, none⟩) n cv))
    (hoi : w.cell? ⟨bo, i, none⟩ = some (.int .i64 oi)) (hok : w.cell? ⟨bo, k, none⟩ = some (.int .i64 ok)) (hvi : w.cell? ⟨bv, vo + i, none⟩ = some (.int .i64 vi)) (hvk : w.cell? ⟨bv, vo + k, none⟩ = some (.int .i64 vk))
    (boi : 0 ≤ oi ∧ oi ≤ 1000) (bok : 0 ≤ ok ∧ ok ≤ 1000) (bvi : 0 ≤ vi ∧ vi ≤ 1000000) (bvk : 0 ≤ vk ∧ vk ≤ 1000000) :
    Calls Try.prog 36 #[.int .i64 i, .int .i64 k, .pointer (some ⟨b2, 0, none⟩), .pointer (some ⟨b3, 0, none⟩), .pointer (some ⟨b4, 0, none⟩)] w fun e w' =>
      e = .returned (.bool (aheadF vi (above kind oi) vk (above kind ok))) ∧ ∃ n, w' = w.drewN n := by
  have ba := above_bd kind oi boi.1 boi.2
  have bb := above_bd kind ok bok.1 bok.2
  have m1 := mul_bd vi (above kind ok) 1000000 2001 bvi.1 bvi.2 bb.1 bb.2
  have m2 := mul_bd vk (above kind oi) 1000000 2001 bvk.1 bvk.2 ba.1 ba.2
  obtain ⟨boi0, boi1⟩ := boi
  obtain ⟨bok0, bok1⟩ := bok
  obtain ⟨bvi0, bvi1⟩ := bvi
  obtain ⟨bvk0, bvk1⟩ := bvk
  obtain ⟨m10, m11⟩ := m1
  obtain ⟨m20, m21⟩ := m2
  have cs : (vi == 0) = true ∨ ((vi == 0) = false ∧ (vk == 0) = true) ∨ ((vi == 0) = false ∧ (vk == 0) = false ∧ (above kind oi == 0) = true ∧ decide (0 < above kind ok) = true) ∨ ((vi == 0) = false ∧ (vk == 0) = false ∧ (above kind oi == 0) = true ∧ decide (0 < above kind ok) = false) ∨
      ((vi == 0) = false ∧ (vk == 0) = false ∧ (above kind oi == 0) = false ∧ (above kind ok == 0) = true) ∨ ((vi == 0) = false ∧ (vk == 0) = false ∧ (above kind oi == 0) = false ∧ (above kind ok == 0) = false) := by
    cases (vi == 0) <;> cases (vk == 0) <;> cases (above kind oi == 0) <;> cases (above kind ok == 0) <;> cases decide (0 < above kind ok) <;> simp
  rcases cs with t1 | ⟨t1, t2⟩ | ⟨t1, t2, t3, t4⟩ | ⟨t1, t2, t3, t4⟩ | ⟨t1, t2, t3, t4⟩ | ⟨t1, t2, t3, t4⟩
  all_goals
    obtain ⟨r, hr⟩ : ∃ r, r = aheadF vi (above kind oi) vk (above kind ok) := ⟨_, rfl⟩
    have H := Lib.hid hr
    rw [← hr]
    clear hr
    go_enter Try.func36, Try.ntmps36
    go_wp2_with fail
    go_quiet ((go_at_call 37; exact Calls.quiet_of_same ((divisor_any _ _ (by assumption) (by assumption) _).mono fun _ _ h => ⟨h.1, h.2.symm⟩)))
    go_wp2_with fail
    go_quiet (fail)
    go_wp2_with fail
    go_ret
    refine ⟨ret_bool ?_, _, World.drewN_drewN _ _ _⟩
    rw [H.out]
    simp [aheadF, *]
end Go.Proofs.Ythofpfnccgfohaa
