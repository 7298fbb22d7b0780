/-
  The greatest common factor, and fractions without one: both roads.
-/
import Derived.Test.YtbgclfbhdpgdaaaBase
import Derived.BigQuiet
namespace Go.Proofs.Ytbgclfbhdpgdaaa
set_option linter.unusedVariables false
set_option linter.unusedSimpArgs false
open Go.RowKit

theorem gcd_step (x y : Nat) : Nat.gcd y (x % y) = Nat.gcd x y := by
  rw [Nat.gcd_comm x y, Nat.gcd_rec y x, Nat.gcd_comm]
theorem gcd_pos {x y : Nat} (h : 0 < x) : 0 < Nat.gcd x y := Nat.gcd_pos_of_pos_left y h
set_option maxRecDepth 10000 in
set_option maxHeartbeats 2000000 in
theorem common_any (w : World) (a b : Nat) (ha : a ≤ 1099511627776) (hb : b ≤ 1099511627776) :
    Calls Try.prog 86 #[.int .i64 a, .int .i64 b] w fun e w' => e = .returned (.int .i64 (Nat.gcd a b : Nat)) ∧ ∃ n, w' = w.drewN n := by
  go_enter Try.func86, Try.ntmps86
  go_wp2_with fail
  go_loopw [0, 1] (fun i j wr => ∃ x y n : Nat, i = .int .i64 x ∧ j = .int .i64 y ∧ x ≤ 1099511627776 ∧ y ≤ 1099511627776 ∧ Hid (Nat.gcd x y = Nat.gcd a b) ∧ wr = w.drewN n) (fun _ j _ => (intOf j).toNat)
  case atStart => exact ⟨a, b, 0, rfl, rfl, ha, hb, rfl, rfl⟩
  case round =>
    obtain ⟨x, y, n, rfl, rfl, hx, hy, hg, rfl⟩ := hrel
    by_cases h0 : y = 0
    · subst h0
      have HF : Hid ((x : Int) = (Nat.gcd a b : Nat)) := by show _ = _; rw [← hg.out, Nat.gcd_zero_right]
      have hne : ((((0 : Nat) : Int)) != 0) = false := by simp
      clear hg
      go_wp2_with fail
      go_ret
      exact ⟨ret_int HF.out, n, rfl⟩
    · have hy0 : (0 : Int) < (y : Int) := by omega
      have hne : ((y : Int) != 0) = true := by simp; omega
      have hnz : (y : Int) ≠ 0 := by omega
      have hnb : ((y : Int) == 0) = false := by simp; omega
      have hx0 : (0 : Int) ≤ (x : Int) := Int.natCast_nonneg _
      have HN : Hid (Nat.gcd y (x % y) = Nat.gcd a b) := by show _ = _; rw [gcd_step, hg.out]
      have hlt : x % y < y := Nat.mod_lt _ (by omega)
      have Hlt := Lib.hid hlt
      have Hmod : Hid ((((x % y : Nat)) : Int) = (x : Int) % (y : Int)) := by simp [Hid]
      clear hg hlt
      go_wp2_with fail
      go_quiet (fail)
      go_wp2_with fail
      go_roundw
      case rel => exact ⟨y, x % y, n + nq, rfl, by rw [Hmod.out], hy, by have := Hlt.out; omega, HN.out, by first | rfl | exact World.drewN_drewN _ _ _⟩
      case measure => have := Hlt.out; have := Hmod.out; simp [intOf]; omega
theorem l00Max_any (w : World) (a b : Int) :
    Calls Try.prog 93 #[.int .i64 a, .int .i64 b] w fun e w' => e = .returned (.int .i64 (max a b)) ∧ w' = w := by
  by_cases h : b < a
  · have hm : Hid (max a b = a) := by show _ = _; omega
    go_enter Try.func93, Try.ntmps93
    go_wp2_with fail
    go_ret
    exact ⟨ret_int hm.out.symm, rfl⟩
  · have hm : Hid (max a b = b) := by show _ = _; omega
    go_enter Try.func93, Try.ntmps93
    go_wp2_with fail
    go_ret
    exact ⟨ret_int hm.out.symm, rfl⟩
set_option maxRecDepth 10000 in
set_option maxHeartbeats 2000000 in
theorem l02Gcd_any (w : World) (a b : Nat) (ha : a ≤ 1099511627776) (hb : b ≤ 1099511627776) :
    Calls Try.prog 85 #[.int .i64 a, .int .i64 b] w fun e w' => e = .returned (.int .i64 (Nat.gcd a b : Nat)) ∧ ∃ n, w' = w.drewN n := by
  have hg8 : Hid (a = 0 ∧ b = 0 ∨ 0 < Nat.gcd a b) := by
    by_cases h : a = 0 ∧ b = 0
    · exact .inl h
    · exact .inr (Nat.gcd_pos_iff.2 (by omega))
  go_enter Try.func85, Try.ntmps85
  go_wp2_with fail
  go_loopw [0, 1] (fun i j wr => ∃ x y : Nat, i = .int .i64 x ∧ j = .int .i64 y ∧ x ≤ 1099511627776 ∧ y ≤ 1099511627776 ∧ Hid (Nat.gcd x y = Nat.gcd a b) ∧ wr = w) (fun _ j _ => (intOf j).toNat)
  case atStart => exact ⟨a, b, rfl, rfl, ha, hb, rfl, rfl⟩
  case round =>
    obtain ⟨x, y, rfl, rfl, hx, hy, hg, rfl⟩ := hrel
    by_cases h0 : y = 0
    · subst h0
      have HF : Hid ((x : Int) = (Nat.gcd a b : Nat)) := by show _ = _; rw [← hg.out, Nat.gcd_zero_right]
      have hne : ((((0 : Nat) : Int)) != 0) = false := by simp
      have LM := Lib.hid (l00Max_any wr (x : Int) (-(x : Int)))
      have hmx : Hid (max (x : Int) (-(x : Int)) = x) := by show _ = _; omega
      clear hg
      go_wp2_with fail
      refine LM.out.mono ?_
      rintro e w1 ⟨rfl, rfl⟩
      go_wp2_with fail
      go_ret
      exact ⟨ret_int (by rw [← HF.out]; exact hmx.out), 0, rfl⟩
    · have hy0 : (0 : Int) < (y : Int) := by omega
      have hne : ((y : Int) != 0) = true := by simp; omega
      have hnz : (y : Int) ≠ 0 := by omega
      have hnb : ((y : Int) == 0) = false := by simp; omega
      have hx0 : (0 : Int) ≤ (x : Int) := Int.natCast_nonneg _
      have HN : Hid (Nat.gcd y (x % y) = Nat.gcd a b) := by show _ = _; rw [gcd_step, hg.out]
      have hlt : x % y < y := Nat.mod_lt _ (by omega)
      have Hlt := Lib.hid hlt
      have Hmod : Hid ((((x % y : Nat)) : Int) = (x : Int) % (y : Int)) := by simp [Hid]
      clear hg hlt
      go_wp2_with fail
      go_roundw
      case rel => exact ⟨y, x % y, rfl, by rw [Hmod.out], hy, by have := Hlt.out; omega, HN.out, by first | trivial | rfl⟩
      case measure => have := Hlt.out; have := Hmod.out; simp [intOf]; omega
end Go.Proofs.Ytbgclfbhdpgdaaa
