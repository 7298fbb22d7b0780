/-
  FnExactSeatLost answers true: the law's walk.
-/
import Derived.Test.YtiidgdfclgcmpaaLawInts
import Derived.Test.YtiidgdfclgcmpaaRestS
namespace Go.Proofs.Ytiidgdfclgcmpaa
set_option linter.unusedVariables false
set_option linter.unusedSimpArgs false
open Go.RowKit

theorem flatI_SeatLost (w : World) (xs : List Int) (hl_xs : xs.length ≤ 1152921504606846976) (s : Int) (B_xs : Nat) (a_xs : Option Addr) (c_xs : Nat) (h_xs : Rd w B_xs a_xs (ints xs)) (hB_xs : B_xs ≤ w.heap.size) :
    Calls Try.prog 37 #[.slice a_xs xs.length c_xs, .int .i64 s] w fun e w' => e = .returned (.tuple #[.int .i64 ((lostF xs s).getD 0), .bool (lostF xs s).isSome]) ∧ Below w.heap.size w w' :=
  (lost_any w a_xs c_xs xs s (h_xs.mono hB_xs) hl_xs).mono fun e w' h => ⟨h.2, h.1⟩
theorem flatS_SeatLost (w : World) (xs : List Int) (hl_xs : xs.length ≤ 1152921504606846976) (s : Int) (B_xs : Nat) (a_xs : Option Addr) (c_xs : Nat) (h_xs : Rd w B_xs a_xs (ints xs)) (hB_xs : B_xs ≤ w.heap.size) :
    Calls Try.prog 36 #[.slice a_xs xs.length c_xs, .int .i64 s] w fun e w' => e = .returned (.tuple #[.int .i64 ((lostF xs s).getD 0), .bool (lostF xs s).isSome]) ∧ Below w.heap.size w w' :=
  (lostR_any w a_xs c_xs xs s (h_xs.mono hB_xs) hl_xs).mono fun e w' h => ⟨h.2, h.1⟩

set_option maxHeartbeats 4000000 in
theorem law_ExactSeatLost (w : World) (a_xs : Option Addr) (c_xs : Nat) (xs : List Int) (s : Int) (h_xs : Rd w w.heap.size a_xs (ints xs)) :
    Calls Try.prog 10 #[.slice a_xs xs.length c_xs, .int .i64 s] w fun e w' => e = .returned (.bool true) ∧ Below w.heap.size w w' := by
  by_cases hlen_xs : xs.length ≤ 1048576
  case neg =>
    go_enter Try.func10, Try.ntmps10
    go_wp2_with fail
    go_ret
    exact ⟨rfl, Below.refl _ _⟩
  have hl_xs : xs.length ≤ 1152921504606846976 := by omega
  have H1 := Lib.hid (fun w' => flatI_SeatLost w' xs hl_xs s)
  have H2 := Lib.hid (fun w' => flatS_SeatLost w' xs hl_xs s)
  generalize (lostF xs s).getD 0 = r0 at *
  generalize (lostF xs s).isSome = r1 at *
  have hne0 : (r0 != r0) = false := by simp
  have hne1 : (r1 != r1) = false := by simp
  go_enter Try.func10, Try.ntmps10
  have B0 := Below.refl w.heap.size w
  go_wp2_with fail
  refine (lawTo_I _ _ _ _ xs h_xs (by omega) hlen_xs).mono ?_
  rintro e w1 ⟨a_T0, c_T0, rfl, o1, hb1⟩
  have S1 := hb1.size
  have B1 := below_then B0 hb1
  have A_xs_1 := h_xs.below hb1 (by omega)
  clear B0 h_xs hb1
  go_wp2_with fail
  refine (H2.out _ _ _ _ (o1.rd) (by omega)).mono ?_
  rintro e w2 ⟨rfl, hb2⟩
  have S2 := hb2.size
  have B2 := below_then B1 hb2
  have A_xs_2 := A_xs_1.below hb2 (by omega)
  have T0_2 := o1.keep hb2
  clear B1 A_xs_1 o1 hb2
  go_wp2_with fail
  refine (lawTo_I _ _ _ _ xs A_xs_2 (by omega) hlen_xs).mono ?_
  rintro e w3 ⟨a_X0, c_X0, rfl, o3, hb3⟩
  have S3 := hb3.size
  have B3 := below_then B2 hb3
  have A_xs_3 := A_xs_2.below hb3 (by omega)
  clear B2 A_xs_2 hb3
  go_wp2_with fail
  refine (H1.out _ _ _ _ (o3.rd) (by omega)).mono ?_
  rintro e w4 ⟨rfl, hb4⟩
  have S4 := hb4.size
  have B4 := below_then B3 hb4
  have A_xs_4 := A_xs_3.below hb4 (by omega)
  have X0_4 := o3.keep hb4
  clear B3 A_xs_3 o3 hb4
  go_wp2_with fail
  refine (lawTo_I _ _ _ _ xs A_xs_4 (by omega) hlen_xs).mono ?_
  rintro e w5 ⟨a_Y0, c_Y0, rfl, o5, hb5⟩
  have S5 := hb5.size
  have B5 := below_then B4 hb5
  have A_xs_5 := A_xs_4.below hb5 (by omega)
  have X0_5 := X0_4.keep hb5
  clear B4 A_xs_4 X0_4 hb5
  go_wp2_with fail
  refine (lawEq_I' _ _ _ _ _ _ _ xs (X0_5.rd) (o5.rd) (by omega) (by omega) (by omega)).mono ?_
  rintro e w6 ⟨rfl, hb6⟩
  have S6 := hb6.size
  have B6 := below_then B5 hb6
  have A_xs_6 := A_xs_5.below hb6 (by omega)
  have X0_6 := X0_5.keep hb6
  have Y0_6 := o5.keep hb6
  clear B5 A_xs_5 X0_5 o5 hb6
  go_wp2_with fail
  go_ret
  exact ⟨rfl, B6⟩

end Go.Proofs.Ytiidgdfclgcmpaa
