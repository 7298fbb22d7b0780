/-
  FnExactTakeInOrder answers true: the law's walk.
-/
import Derived.Test.YthbclfaeplmjgaaLawInts
import Derived.Test.YthbclfaeplmjgaaTakeO
namespace Go.Proofs.Ythbclfaeplmjgaa
set_option linter.unusedVariables false
set_option linter.unusedSimpArgs false
open Go.RowKit

theorem takeOF_len0 (xs : List Int) (est : Int) (os : List Int) : ((takeOF xs est os).getD []).length ≤ 1073741824 := by
  unfold takeOF
  cases hq : (claimsB xs est && orderB os xs.length) with
  | false => simp
  | true =>
    simp only [Bool.and_eq_true] at hq
    have := (claimsB_iff.1 hq.1).1
    have := takeS_len xs os est os.length
    simp only [if_true, Option.getD_some, List.length_map, takeF]
    omega
theorem flatI_TakeInOrder (w : World) (xs : List Int) (hl_xs : xs.length ≤ 1152921504606846976) (est : Int) (os : List Int) (hl_os : os.length ≤ 1152921504606846976) (B_xs : Nat) (a_xs : Option Addr) (c_xs : Nat) (h_xs : Rd w B_xs a_xs (ints xs)) (hB_xs : B_xs ≤ w.heap.size) (B_os : Nat) (a_os : Option Addr) (c_os : Nat) (h_os : Rd w B_os a_os (ints os)) (hB_os : B_os ≤ w.heap.size) (hc_os : os.length ≤ c_os) :
    Calls Try.prog 19 #[.slice a_xs xs.length c_xs, .int .i64 est, .slice a_os os.length c_os] w fun e w' => ∃ a c, e = .returned (.tuple #[.slice a ((takeOF xs est os).getD []).length c, .bool (takeOF xs est os).isSome]) ∧ OwnI 2 w' w.heap.size w'.heap.size a c ((takeOF xs est os).getD []) ∧ Below w.heap.size w w' :=
  flat_of (takeO_any w a_xs c_xs xs est a_os c_os os (h_xs.mono hB_xs) hl_xs (h_os.mono hB_os) hl_os hc_os)
theorem flatS_TakeInOrder (w : World) (xs : List Int) (hl_xs : xs.length ≤ 1152921504606846976) (est : Int) (os : List Int) (hl_os : os.length ≤ 1152921504606846976) (B_xs : Nat) (a_xs : Option Addr) (c_xs : Nat) (h_xs : Rd w B_xs a_xs (ints xs)) (hB_xs : B_xs ≤ w.heap.size) (B_os : Nat) (a_os : Option Addr) (c_os : Nat) (h_os : Rd w B_os a_os (ints os)) (hB_os : B_os ≤ w.heap.size) (hc_os : os.length ≤ c_os) :
    Calls Try.prog 17 #[.slice a_xs xs.length c_xs, .int .i64 est, .slice a_os os.length c_os] w fun e w' => ∃ a c, e = .returned (.tuple #[.slice a ((takeOF xs est os).getD []).length c, .bool (takeOF xs est os).isSome]) ∧ OwnI 2 w' w.heap.size w'.heap.size a c ((takeOF xs est os).getD []) ∧ Below w.heap.size w w' :=
  flat_of (takeOR_any w a_xs c_xs xs est a_os c_os os (h_xs.mono hB_xs) hl_xs (h_os.mono hB_os) hl_os hc_os)

set_option maxHeartbeats 4000000 in
theorem law_ExactTakeInOrder (w : World) (a_xs : Option Addr) (c_xs : Nat) (xs : List Int) (est : Int) (a_os : Option Addr) (c_os : Nat) (os : List Int) (h_xs : Rd w w.heap.size a_xs (ints xs)) (h_os : Rd w w.heap.size a_os (ints os)) :
    Calls Try.prog 3 #[.slice a_xs xs.length c_xs, .int .i64 est, .slice a_os os.length c_os] w fun e w' => e = .returned (.bool true) ∧ Below w.heap.size w w' := by
  by_cases hlen_xs : xs.length ≤ 1048576
  case neg =>
    go_enter Try.func3, Try.ntmps3
    go_wp2_with fail
    go_ret
    exact ⟨rfl, Below.refl _ _⟩
  by_cases hlen_os : os.length ≤ 1048576
  case neg =>
    go_enter Try.func3, Try.ntmps3
    go_wp2_with fail
    go_ret
    exact ⟨rfl, Below.refl _ _⟩
  have hl_xs : xs.length ≤ 1152921504606846976 := by omega
  have hl_os : os.length ≤ 1152921504606846976 := by omega
  have hrl0 := takeOF_len0 xs est os
  have H1 := Lib.hid (fun w' => flatI_TakeInOrder w' xs hl_xs est os hl_os)
  have H2 := Lib.hid (fun w' => flatS_TakeInOrder w' xs hl_xs est os hl_os)
  generalize (takeOF xs est os).getD [] = r0 at *
  generalize (takeOF xs est os).isSome = r1 at *
  have hne1 : (r1 != r1) = false := by simp
  go_enter Try.func3, Try.ntmps3
  have B0 := Below.refl w.heap.size w
  go_wp2_with fail
  refine (lawTo_I _ _ _ _ xs h_xs (by omega) hlen_xs).mono ?_
  rintro e w1 ⟨a_T0, c_T0, rfl, o1, hb1⟩
  have S1 := hb1.size
  have B1 := below_then B0 hb1
  have A_xs_1 := h_xs.below hb1 (by omega)
  have A_os_1 := h_os.below hb1 (by omega)
  clear B0 h_xs h_os hb1
  go_wp2_with fail
  refine (lawTo_I _ _ _ _ os A_os_1 (by omega) hlen_os).mono ?_
  rintro e w2 ⟨a_T1, c_T1, rfl, o2, hb2⟩
  have S2 := hb2.size
  have B2 := below_then B1 hb2
  have A_xs_2 := A_xs_1.below hb2 (by omega)
  have A_os_2 := A_os_1.below hb2 (by omega)
  have T0_2 := o1.keep hb2
  clear B1 A_xs_1 A_os_1 o1 hb2
  go_wp2_with fail
  refine (H2.out _ _ _ _ (T0_2.rd) (by omega) _ _ _ (o2.rd) (by omega) o2.cap).mono ?_
  rintro e w3 ⟨a_V0, c_V0, rfl, o3_0, hb3⟩
  have S3 := hb3.size
  have B3 := below_then B2 hb3
  have A_xs_3 := A_xs_2.below hb3 (by omega)
  have A_os_3 := A_os_2.below hb3 (by omega)
  have T0_3 := T0_2.keep hb3
  have T1_3 := o2.keep hb3
  clear B2 A_xs_2 A_os_2 T0_2 o2 hb3
  go_wp2_with fail
  refine (lawTo_I _ _ _ _ xs A_xs_3 (by omega) hlen_xs).mono ?_
  rintro e w4 ⟨a_X0, c_X0, rfl, o4, hb4⟩
  have S4 := hb4.size
  have B4 := below_then B3 hb4
  have A_xs_4 := A_xs_3.below hb4 (by omega)
  have A_os_4 := A_os_3.below hb4 (by omega)
  have V0_4 := o3_0.keep hb4
  clear B3 A_xs_3 A_os_3 o3_0 hb4
  go_wp2_with fail
  refine (lawTo_I _ _ _ _ os A_os_4 (by omega) hlen_os).mono ?_
  rintro e w5 ⟨a_X1, c_X1, rfl, o5, hb5⟩
  have S5 := hb5.size
  have B5 := below_then B4 hb5
  have A_xs_5 := A_xs_4.below hb5 (by omega)
  have A_os_5 := A_os_4.below hb5 (by omega)
  have V0_5 := V0_4.keep hb5
  have X0_5 := o4.keep hb5
  clear B4 A_xs_4 A_os_4 V0_4 o4 hb5
  go_wp2_with fail
  refine (H1.out _ _ _ _ (X0_5.rd) (by omega) _ _ _ (o5.rd) (by omega) o5.cap).mono ?_
  rintro e w6 ⟨a_G0, c_G0, rfl, o6_0, hb6⟩
  have S6 := hb6.size
  have B6 := below_then B5 hb6
  have A_xs_6 := A_xs_5.below hb6 (by omega)
  have A_os_6 := A_os_5.below hb6 (by omega)
  have V0_6 := V0_5.keep hb6
  have X0_6 := X0_5.keep hb6
  have X1_6 := o5.keep hb6
  clear B5 A_xs_5 A_os_5 V0_5 X0_5 o5 hb6
  go_wp2_with fail
  refine (lawEq_I' _ _ _ _ _ _ _ r0 (o6_0.rd) (V0_6.rd) (by omega) (by omega) (by omega)).mono ?_
  rintro e w7 ⟨rfl, hb7⟩
  have S7 := hb7.size
  have B7 := below_then B6 hb7
  have A_xs_7 := A_xs_6.below hb7 (by omega)
  have A_os_7 := A_os_6.below hb7 (by omega)
  have V0_7 := V0_6.keep hb7
  have X0_7 := X0_6.keep hb7
  have X1_7 := X1_6.keep hb7
  have G0_7 := o6_0.keep hb7
  clear B6 A_xs_6 A_os_6 V0_6 X0_6 X1_6 o6_0 hb7
  go_wp2_with fail
  refine (lawTo_I _ _ _ _ xs A_xs_7 (by omega) hlen_xs).mono ?_
  rintro e w8 ⟨a_Y0, c_Y0, rfl, o8, hb8⟩
  have S8 := hb8.size
  have B8 := below_then B7 hb8
  have A_xs_8 := A_xs_7.below hb8 (by omega)
  have A_os_8 := A_os_7.below hb8 (by omega)
  have V0_8 := V0_7.keep hb8
  have X0_8 := X0_7.keep hb8
  have X1_8 := X1_7.keep hb8
  have G0_8 := G0_7.keep hb8
  clear B7 A_xs_7 A_os_7 V0_7 X0_7 X1_7 G0_7 hb8
  go_wp2_with fail
  refine (lawEq_I' _ _ _ _ _ _ _ xs (X0_8.rd) (o8.rd) (by omega) (by omega) (by omega)).mono ?_
  rintro e w9 ⟨rfl, hb9⟩
  have S9 := hb9.size
  have B9 := below_then B8 hb9
  have A_xs_9 := A_xs_8.below hb9 (by omega)
  have A_os_9 := A_os_8.below hb9 (by omega)
  have V0_9 := V0_8.keep hb9
  have X0_9 := X0_8.keep hb9
  have X1_9 := X1_8.keep hb9
  have G0_9 := G0_8.keep hb9
  have Y0_9 := o8.keep hb9
  clear B8 A_xs_8 A_os_8 V0_8 X0_8 X1_8 G0_8 o8 hb9
  go_wp2_with fail
  refine (lawTo_I _ _ _ _ os A_os_9 (by omega) hlen_os).mono ?_
  rintro e w10 ⟨a_Y1, c_Y1, rfl, o10, hb10⟩
  have S10 := hb10.size
  have B10 := below_then B9 hb10
  have A_xs_10 := A_xs_9.below hb10 (by omega)
  have A_os_10 := A_os_9.below hb10 (by omega)
  have V0_10 := V0_9.keep hb10
  have X0_10 := X0_9.keep hb10
  have X1_10 := X1_9.keep hb10
  have G0_10 := G0_9.keep hb10
  clear B9 A_xs_9 A_os_9 V0_9 X0_9 X1_9 G0_9 hb10
  go_wp2_with fail
  refine (lawEq_I' _ _ _ _ _ _ _ os (X1_10.rd) (o10.rd) (by omega) (by omega) (by omega)).mono ?_
  rintro e w11 ⟨rfl, hb11⟩
  have S11 := hb11.size
  have B11 := below_then B10 hb11
  have A_xs_11 := A_xs_10.below hb11 (by omega)
  have A_os_11 := A_os_10.below hb11 (by omega)
  have V0_11 := V0_10.keep hb11
  have X0_11 := X0_10.keep hb11
  have X1_11 := X1_10.keep hb11
  have G0_11 := G0_10.keep hb11
  have Y1_11 := o10.keep hb11
  clear B10 A_xs_10 A_os_10 V0_10 X0_10 X1_10 G0_10 o10 hb11
  go_wp2_with fail
  refine (lawMark_I _ _ _ _ _ xs _ X0_11 (by omega) (by omega) (by omega)).mono ?_
  rintro e w12 ⟨rfl, o12, hb12⟩
  have S12 := hb12.size
  have B12 := below_touch B11 hb12 (by omega) (by omega)
  have A_xs_12 := A_xs_11.touch hb12 (by omega) (by omega)
  have A_os_12 := A_os_11.touch hb12 (by omega) (by omega)
  have V0_12 := V0_11.touch hb12 (by omega)
  have X1_12 := X1_11.touch hb12 (by omega)
  have G0_12 := G0_11.touch hb12 (by omega)
  clear B11 A_xs_11 A_os_11 V0_11 X1_11 G0_11 hb12
  clear X0_11
  go_wp2_with fail
  refine (lawMark_I _ _ _ _ _ os _ X1_12 (by omega) (by omega) (by omega)).mono ?_
  rintro e w13 ⟨rfl, o13, hb13⟩
  have S13 := hb13.size
  have B13 := below_touch B12 hb13 (by omega) (by omega)
  have A_xs_13 := A_xs_12.touch hb13 (by omega) (by omega)
  have A_os_13 := A_os_12.touch hb13 (by omega) (by omega)
  have V0_13 := V0_12.touch hb13 (by omega)
  have X0_13 := o12.touch hb13 (by omega)
  have G0_13 := G0_12.touch hb13 (by omega)
  clear B12 A_xs_12 A_os_12 V0_12 o12 G0_12 hb13
  clear X1_12
  go_wp2_with fail
  refine (lawEq_I' _ _ _ _ _ _ _ r0 (G0_13.rd) (V0_13.rd) (by omega) (by omega) (by omega)).mono ?_
  rintro e w14 ⟨rfl, hb14⟩
  have S14 := hb14.size
  have B14 := below_then B13 hb14
  have A_xs_14 := A_xs_13.below hb14 (by omega)
  have A_os_14 := A_os_13.below hb14 (by omega)
  have V0_14 := V0_13.keep hb14
  have G0_14 := G0_13.keep hb14
  clear B13 A_xs_13 A_os_13 V0_13 G0_13 hb14
  go_wp2_with fail
  refine (lawMark_I _ _ _ _ _ r0 _ G0_14 (by omega) (by omega) (by omega)).mono ?_
  rintro e w15 ⟨rfl, o15, hb15⟩
  have S15 := hb15.size
  have B15 := below_touch B14 hb15 (by omega) (by omega)
  have A_xs_15 := A_xs_14.touch hb15 (by omega) (by omega)
  have A_os_15 := A_os_14.touch hb15 (by omega) (by omega)
  have V0_15 := V0_14.touch hb15 (by omega)
  clear B14 A_xs_14 A_os_14 V0_14 hb15
  clear G0_14
  go_wp2_with fail
  refine (lawHeld_I _ _ _ _ r0.length _ o15.rd (by omega) (by omega) (by omega) (by omega)).mono ?_
  rintro e w16 ⟨rfl, hb16⟩
  have S16 := hb16.size
  have B16 := below_then B15 hb16
  have A_xs_16 := A_xs_15.below hb16 (by omega)
  have A_os_16 := A_os_15.below hb16 (by omega)
  have V0_16 := V0_15.keep hb16
  have G0_16 := o15.keep hb16
  clear B15 A_xs_15 A_os_15 V0_15 o15 hb16
  go_wp2_with fail
  refine (lawTo_I _ _ _ _ xs A_xs_16 (by omega) hlen_xs).mono ?_
  rintro e w17 ⟨a_Z0, c_Z0, rfl, o17, hb17⟩
  have S17 := hb17.size
  have B17 := below_then B16 hb17
  have A_xs_17 := A_xs_16.below hb17 (by omega)
  have A_os_17 := A_os_16.below hb17 (by omega)
  have V0_17 := V0_16.keep hb17
  have G0_17 := G0_16.keep hb17
  clear B16 A_xs_16 A_os_16 V0_16 G0_16 hb17
  go_wp2_with fail
  refine (lawTo_I _ _ _ _ os A_os_17 (by omega) hlen_os).mono ?_
  rintro e w18 ⟨a_Z1, c_Z1, rfl, o18, hb18⟩
  have S18 := hb18.size
  have B18 := below_then B17 hb18
  have A_xs_18 := A_xs_17.below hb18 (by omega)
  have A_os_18 := A_os_17.below hb18 (by omega)
  have V0_18 := V0_17.keep hb18
  have G0_18 := G0_17.keep hb18
  have Z0_18 := o17.keep hb18
  clear B17 A_xs_17 A_os_17 V0_17 G0_17 o17 hb18
  go_wp2_with fail
  refine (H1.out _ _ _ _ (Z0_18.rd) (by omega) _ _ _ (o18.rd) (by omega) o18.cap).mono ?_
  rintro e w19 ⟨a_K0, c_K0, rfl, o19_0, hb19⟩
  have S19 := hb19.size
  have B19 := below_then B18 hb19
  have A_xs_19 := A_xs_18.below hb19 (by omega)
  have A_os_19 := A_os_18.below hb19 (by omega)
  have V0_19 := V0_18.keep hb19
  have G0_19 := G0_18.keep hb19
  have Z0_19 := Z0_18.keep hb19
  have Z1_19 := o18.keep hb19
  clear B18 A_xs_18 A_os_18 V0_18 G0_18 Z0_18 o18 hb19
  go_wp2_with fail
  refine (lawEq_I' _ _ _ _ _ _ _ r0 (o19_0.rd) (V0_19.rd) (by omega) (by omega) (by omega)).mono ?_
  rintro e w20 ⟨rfl, hb20⟩
  have S20 := hb20.size
  have B20 := below_then B19 hb20
  have A_xs_20 := A_xs_19.below hb20 (by omega)
  have A_os_20 := A_os_19.below hb20 (by omega)
  have V0_20 := V0_19.keep hb20
  have G0_20 := G0_19.keep hb20
  have K0_20 := o19_0.keep hb20
  clear B19 A_xs_19 A_os_19 V0_19 G0_19 o19_0 hb20
  go_wp2_with fail
  refine (lawHeld_I _ _ _ _ r0.length _ G0_20.rd (by omega) (by omega) (by omega) (by omega)).mono ?_
  rintro e w21 ⟨rfl, hb21⟩
  have S21 := hb21.size
  have B21 := below_then B20 hb21
  have A_xs_21 := A_xs_20.below hb21 (by omega)
  have A_os_21 := A_os_20.below hb21 (by omega)
  have V0_21 := V0_20.keep hb21
  have G0_21 := G0_20.keep hb21
  have K0_21 := K0_20.keep hb21
  clear B20 A_xs_20 A_os_20 V0_20 G0_20 K0_20 hb21
  go_wp2_with fail
  go_ret
  exact ⟨rfl, B21⟩

end Go.Proofs.Ythbclfaeplmjgaa
