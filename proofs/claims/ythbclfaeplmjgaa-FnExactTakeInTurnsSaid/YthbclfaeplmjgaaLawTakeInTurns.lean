/-
  FnExactTakeInTurns answers true: the law's walk.
-/
import Derived.Test.YthbclfaeplmjgaaLawInts
import Derived.Test.YthbclfaeplmjgaaTurnsR
namespace Go.Proofs.Ythbclfaeplmjgaa
set_option linter.unusedVariables false
set_option linter.unusedSimpArgs false
open Go.RowKit

theorem flat_ofT {f : Nat} {args : Array Value} {w : World} {T : Nat} {r : Option (List Int × Int)} (h : Calls Try.prog f args w (RetT T w r)) :
    Calls Try.prog f args w fun e w' => ∃ a c, e = .returned (.tuple #[.slice a ((r.map Prod.fst).getD []).length c, .int .i64 ((r.map Prod.snd).getD 0), .bool r.isSome]) ∧ OwnI T w' w.heap.size w'.heap.size a c ((r.map Prod.fst).getD []) ∧ Below w.heap.size w w' := by
  refine h.mono fun e w' hR => ?_
  obtain ⟨hb, h2⟩ := hR
  cases r with
  | none => exact ⟨none, 0, h2, OwnI.of_own (World.ownsRow_nil _ _ _ _), hb⟩
  | some p =>
    obtain ⟨ys, m⟩ := p
    obtain ⟨a, c, he, ho⟩ := h2
    exact ⟨a, c, he, OwnI.of_own ho, hb⟩
theorem turnsF_len0 (xs : List Int) (est : Int) : (((turnsF xs est).map Prod.fst).getD []).length ≤ 1073741824 := by
  unfold turnsF
  cases hq : (claimsB xs est && decide (xs.length ≤ 6)) with
  | false => simp
  | true =>
    simp only [Bool.and_eq_true, decide_eq_true_eq] at hq
    simp only [if_true, Option.map_some, Option.getD_some, sumT_len]
    omega
theorem flatI_TakeInTurns (w : World) (xs : List Int) (hl_xs : xs.length ≤ 1152921504606846976) (est : Int) (B_xs : Nat) (a_xs : Option Addr) (c_xs : Nat) (h_xs : Rd w B_xs a_xs (ints xs)) (hB_xs : B_xs ≤ w.heap.size) :
    Calls Try.prog 24 #[.slice a_xs xs.length c_xs, .int .i64 est] w fun e w' => ∃ a c, e = .returned (.tuple #[.slice a (((turnsF xs est).map Prod.fst).getD []).length c, .int .i64 (((turnsF xs est).map Prod.snd).getD 0), .bool ((turnsF xs est).isSome)]) ∧ OwnI 2 w' w.heap.size w'.heap.size a c (((turnsF xs est).map Prod.fst).getD []) ∧ Below w.heap.size w w' :=
  flat_ofT (turns_any w a_xs c_xs xs est (h_xs.mono hB_xs) hl_xs)
theorem flatS_TakeInTurns (w : World) (xs : List Int) (hl_xs : xs.length ≤ 1152921504606846976) (est : Int) (B_xs : Nat) (a_xs : Option Addr) (c_xs : Nat) (h_xs : Rd w B_xs a_xs (ints xs)) (hB_xs : B_xs ≤ w.heap.size) :
    Calls Try.prog 23 #[.slice a_xs xs.length c_xs, .int .i64 est] w fun e w' => ∃ a c, e = .returned (.tuple #[.slice a (((turnsF xs est).map Prod.fst).getD []).length c, .int .i64 (((turnsF xs est).map Prod.snd).getD 0), .bool ((turnsF xs est).isSome)]) ∧ OwnI 2 w' w.heap.size w'.heap.size a c (((turnsF xs est).map Prod.fst).getD []) ∧ Below w.heap.size w w' :=
  flat_ofT (turnsR_any w a_xs c_xs xs est (h_xs.mono hB_xs) hl_xs)

set_option maxHeartbeats 4000000 in
theorem law_ExactTakeInTurns (w : World) (a_xs : Option Addr) (c_xs : Nat) (xs : List Int) (est : Int) (h_xs : Rd w w.heap.size a_xs (ints xs)) :
    Calls Try.prog 4 #[.slice a_xs xs.length c_xs, .int .i64 est] w fun e w' => e = .returned (.bool true) ∧ Below w.heap.size w w' := by
  by_cases hlen_xs : xs.length ≤ 1048576
  case neg =>
    go_enter Try.func4, Try.ntmps4
    go_wp2_with fail
    go_ret
    exact ⟨rfl, Below.refl _ _⟩
  have hl_xs : xs.length ≤ 1152921504606846976 := by omega
  have hrl0 := turnsF_len0 xs est
  have H1 := Lib.hid (fun w' => flatI_TakeInTurns w' xs hl_xs est)
  have H2 := Lib.hid (fun w' => flatS_TakeInTurns w' xs hl_xs est)
  generalize ((turnsF xs est).map Prod.fst).getD [] = r0 at *
  generalize ((turnsF xs est).map Prod.snd).getD 0 = r1 at *
  generalize (turnsF xs est).isSome = r2 at *
  have hne1 : (r1 != r1) = false := by simp
  have hne2 : (r2 != r2) = false := by simp
  go_enter Try.func4, Try.ntmps4
  have B0 := Below.refl w.heap.size w
  go_wp2_with fail
  refine (lawTo_I _ _ _ _ xs h_xs (by omega) hlen_xs).mono ?_
  rintro e w1 ⟨a_T0, c_T0, rfl, o1, hb1⟩
  have S1 := hb1.size
  have B1 := below_then B0 hb1
  have A_xs_1 := h_xs.below hb1 (by omega)
  clear B0 h_xs hb1
  go_wp2_with fail
  refine (H2.out _ _ _ _ (o1.rd) (by omega)).mono ?_
  rintro e w2 ⟨a_V0, c_V0, rfl, o2_0, hb2⟩
  have S2 := hb2.size
  have B2 := below_then B1 hb2
  have A_xs_2 := A_xs_1.below hb2 (by omega)
  have T0_2 := o1.keep hb2
  clear B1 A_xs_1 o1 hb2
  go_wp2_with fail
  refine (lawTo_I _ _ _ _ xs A_xs_2 (by omega) hlen_xs).mono ?_
  rintro e w3 ⟨a_X0, c_X0, rfl, o3, hb3⟩
  have S3 := hb3.size
  have B3 := below_then B2 hb3
  have A_xs_3 := A_xs_2.below hb3 (by omega)
  have V0_3 := o2_0.keep hb3
  clear B2 A_xs_2 o2_0 hb3
  go_wp2_with fail
  refine (H1.out _ _ _ _ (o3.rd) (by omega)).mono ?_
  rintro e w4 ⟨a_G0, c_G0, rfl, o4_0, hb4⟩
  have S4 := hb4.size
  have B4 := below_then B3 hb4
  have A_xs_4 := A_xs_3.below hb4 (by omega)
  have V0_4 := V0_3.keep hb4
  have X0_4 := o3.keep hb4
  clear B3 A_xs_3 V0_3 o3 hb4
  go_wp2_with fail
  refine (lawEq_I' _ _ _ _ _ _ _ r0 (o4_0.rd) (V0_4.rd) (by omega) (by omega) (by omega)).mono ?_
  rintro e w5 ⟨rfl, hb5⟩
  have S5 := hb5.size
  have B5 := below_then B4 hb5
  have A_xs_5 := A_xs_4.below hb5 (by omega)
  have V0_5 := V0_4.keep hb5
  have X0_5 := X0_4.keep hb5
  have G0_5 := o4_0.keep hb5
  clear B4 A_xs_4 V0_4 X0_4 o4_0 hb5
  go_wp2_with fail
  refine (lawTo_I _ _ _ _ xs A_xs_5 (by omega) hlen_xs).mono ?_
  rintro e w6 ⟨a_Y0, c_Y0, rfl, o6, hb6⟩
  have S6 := hb6.size
  have B6 := below_then B5 hb6
  have A_xs_6 := A_xs_5.below hb6 (by omega)
  have V0_6 := V0_5.keep hb6
  have X0_6 := X0_5.keep hb6
  have G0_6 := G0_5.keep hb6
  clear B5 A_xs_5 V0_5 X0_5 G0_5 hb6
  go_wp2_with fail
  refine (lawEq_I' _ _ _ _ _ _ _ xs (X0_6.rd) (o6.rd) (by omega) (by omega) (by omega)).mono ?_
  rintro e w7 ⟨rfl, hb7⟩
  have S7 := hb7.size
  have B7 := below_then B6 hb7
  have A_xs_7 := A_xs_6.below hb7 (by omega)
  have V0_7 := V0_6.keep hb7
  have X0_7 := X0_6.keep hb7
  have G0_7 := G0_6.keep hb7
  have Y0_7 := o6.keep hb7
  clear B6 A_xs_6 V0_6 X0_6 G0_6 o6 hb7
  go_wp2_with fail
  refine (lawMark_I _ _ _ _ _ xs _ X0_7 (by omega) (by omega) (by omega)).mono ?_
  rintro e w8 ⟨rfl, o8, hb8⟩
  have S8 := hb8.size
  have B8 := below_touch B7 hb8 (by omega) (by omega)
  have A_xs_8 := A_xs_7.touch hb8 (by omega) (by omega)
  have V0_8 := V0_7.touch hb8 (by omega)
  have G0_8 := G0_7.touch hb8 (by omega)
  clear B7 A_xs_7 V0_7 G0_7 hb8
  clear X0_7
  go_wp2_with fail
  refine (lawEq_I' _ _ _ _ _ _ _ r0 (G0_8.rd) (V0_8.rd) (by omega) (by omega) (by omega)).mono ?_
  rintro e w9 ⟨rfl, hb9⟩
  have S9 := hb9.size
  have B9 := below_then B8 hb9
  have A_xs_9 := A_xs_8.below hb9 (by omega)
  have V0_9 := V0_8.keep hb9
  have G0_9 := G0_8.keep hb9
  clear B8 A_xs_8 V0_8 G0_8 hb9
  go_wp2_with fail
  refine (lawMark_I _ _ _ _ _ r0 _ G0_9 (by omega) (by omega) (by omega)).mono ?_
  rintro e w10 ⟨rfl, o10, hb10⟩
  have S10 := hb10.size
  have B10 := below_touch B9 hb10 (by omega) (by omega)
  have A_xs_10 := A_xs_9.touch hb10 (by omega) (by omega)
  have V0_10 := V0_9.touch hb10 (by omega)
  clear B9 A_xs_9 V0_9 hb10
  clear G0_9
  go_wp2_with fail
  refine (lawHeld_I _ _ _ _ r0.length _ o10.rd (by omega) (by omega) (by omega) (by omega)).mono ?_
  rintro e w11 ⟨rfl, hb11⟩
  have S11 := hb11.size
  have B11 := below_then B10 hb11
  have A_xs_11 := A_xs_10.below hb11 (by omega)
  have V0_11 := V0_10.keep hb11
  have G0_11 := o10.keep hb11
  clear B10 A_xs_10 V0_10 o10 hb11
  go_wp2_with fail
  refine (lawTo_I _ _ _ _ xs A_xs_11 (by omega) hlen_xs).mono ?_
  rintro e w12 ⟨a_Z0, c_Z0, rfl, o12, hb12⟩
  have S12 := hb12.size
  have B12 := below_then B11 hb12
  have A_xs_12 := A_xs_11.below hb12 (by omega)
  have V0_12 := V0_11.keep hb12
  have G0_12 := G0_11.keep hb12
  clear B11 A_xs_11 V0_11 G0_11 hb12
  go_wp2_with fail
  refine (H1.out _ _ _ _ (o12.rd) (by omega)).mono ?_
  rintro e w13 ⟨a_K0, c_K0, rfl, o13_0, hb13⟩
  have S13 := hb13.size
  have B13 := below_then B12 hb13
  have A_xs_13 := A_xs_12.below hb13 (by omega)
  have V0_13 := V0_12.keep hb13
  have G0_13 := G0_12.keep hb13
  have Z0_13 := o12.keep hb13
  clear B12 A_xs_12 V0_12 G0_12 o12 hb13
  go_wp2_with fail
  refine (lawEq_I' _ _ _ _ _ _ _ r0 (o13_0.rd) (V0_13.rd) (by omega) (by omega) (by omega)).mono ?_
  rintro e w14 ⟨rfl, hb14⟩
  have S14 := hb14.size
  have B14 := below_then B13 hb14
  have A_xs_14 := A_xs_13.below hb14 (by omega)
  have V0_14 := V0_13.keep hb14
  have G0_14 := G0_13.keep hb14
  have K0_14 := o13_0.keep hb14
  clear B13 A_xs_13 V0_13 G0_13 o13_0 hb14
  go_wp2_with fail
  refine (lawHeld_I _ _ _ _ r0.length _ G0_14.rd (by omega) (by omega) (by omega) (by omega)).mono ?_
  rintro e w15 ⟨rfl, hb15⟩
  have S15 := hb15.size
  have B15 := below_then B14 hb15
  have A_xs_15 := A_xs_14.below hb15 (by omega)
  have V0_15 := V0_14.keep hb15
  have G0_15 := G0_14.keep hb15
  have K0_15 := K0_14.keep hb15
  clear B14 A_xs_14 V0_14 G0_14 K0_14 hb15
  go_wp2_with fail
  go_ret
  exact ⟨rfl, B15⟩

end Go.Proofs.Ythbclfaeplmjgaa
