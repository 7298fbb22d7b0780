/-
  FnExactCrowdsShared answers true: the law's walk.
-/
import Derived.Test.YtbgclfbhdpgdaaaLawInts
import Derived.Test.YtbgclfbhdpgdaaaCrowdSF
namespace Go.Proofs.Ytbgclfbhdpgdaaa
set_option linter.unusedVariables false
set_option linter.unusedSimpArgs false
open Go.RowKit

theorem sharedC_len (cs : List Cr) (wk : Int) : ((sharedC cs wk).getD []).length ≤ 1073741824 := by
  by_cases h8 : cs.length ≤ 8
  · unfold sharedC
    split
    · simp; omega
    · simp
  · rw [shared_few h8]; simp
theorem flatI_CrowdsShared (w : World) (cl : List Cr) (hl_cl : cl.length ≤ 1048576) (hin_cl : ∀ y ∈ cl, y.ways.length ≤ 1048576 ∧ y.costs.length ≤ 1048576) (wk : Int) (B_cl : Nat) (a_cl : Option Addr) (c_cl : Nat) (h_cl : RdCs w B_cl a_cl cl) (hB_cl : B_cl ≤ w.heap.size) :
    Calls Try.prog 31 #[.slice a_cl cl.length c_cl, .int .i64 wk] w fun e w' => ∃ a0 c0, e = .returned (.tuple #[.slice a0 ((sharedC cl wk).getD []).length c0, .bool ((sharedC cl wk).isSome)]) ∧ OwnI 2 w' w.heap.size w'.heap.size a0 c0 ((sharedC cl wk).getD []) ∧ Below w.heap.size w w' :=
  flat_of (shared_any w a_cl c_cl cl wk (h_cl.mono hB_cl) hl_cl hin_cl )
theorem flatS_CrowdsShared (w : World) (cl : List Cr) (hl_cl : cl.length ≤ 1048576) (hin_cl : ∀ y ∈ cl, y.ways.length ≤ 1048576 ∧ y.costs.length ≤ 1048576) (wk : Int) (B_cl : Nat) (a_cl : Option Addr) (c_cl : Nat) (h_cl : RdCs w B_cl a_cl cl) (hB_cl : B_cl ≤ w.heap.size) :
    Calls Try.prog 29 #[.slice a_cl cl.length c_cl, .int .i64 wk] w fun e w' => ∃ a0 c0, e = .returned (.tuple #[.slice a0 ((sharedC cl wk).getD []).length c0, .bool ((sharedC cl wk).isSome)]) ∧ OwnI 2 w' w.heap.size w'.heap.size a0 c0 ((sharedC cl wk).getD []) ∧ Below w.heap.size w w' :=
  flat_of (sharedR_any w a_cl c_cl cl wk (h_cl.mono hB_cl) hl_cl hin_cl )

set_option maxRecDepth 10000 in
set_option maxHeartbeats 8000000 in
theorem law_ExactCrowdsShared (w : World) (a_cl : Option Addr) (c_cl : Nat) (cl : List Cr) (wk : Int) (h_cl : RdCs w w.heap.size a_cl cl) (hl0_cl : cl.length ≤ 9223372036854775807) (hin0_cl : ∀ y ∈ cl, y.ways.length ≤ 9223372036854775807 ∧ y.costs.length ≤ 9223372036854775807)  :
    Calls Try.prog 8 #[.slice a_cl cl.length c_cl, .int .i64 wk] w fun e w' => e = .returned (.bool true) ∧ Below w.heap.size w w' := by
  have S_cl := Lib.hid (fun w' hb => lawSz_CrowdS w' a_cl c_cl cl 1048576 (h_cl.to hb) (by omega) (by omega) hl0_cl hin0_cl)
  have hs_cl := szCsF_spec (left := 1048576) (cs := cl) (show (0 : Int) ≤ 1048576 by omega)
  generalize szCsF 1048576 cl = l_cl at *
  obtain ⟨hsa_cl, hsb_cl, hsc_cl⟩ := hs_cl
  by_cases hneg_cl : l_cl < 0
  case pos =>
    clear hsc_cl
    go_enter Try.func8, Try.ntmps8
    go_wp2_with fail
    refine (S_cl.out _ (Below.refl _ _)).mono ?_
    rintro e w_cl ⟨rfl, hz_cl⟩
    go_wp2_with fail
    go_ret
    exact ⟨rfl, hz_cl⟩
  obtain ⟨hsd_cl, hsi_cl⟩ := hsc_cl (by omega)
  have hl_cl : cl.length ≤ 1048576 := by omega
  have hin_cl : Hid (∀ y ∈ cl, y.ways.length ≤ 1048576 ∧ y.costs.length ≤ 1048576) := fun y hy => by have := hsi_cl y hy; omega
  clear hsc_cl hsd_cl hsi_cl hl0_cl hin0_cl
  have hrl0 := sharedC_len cl wk
  have H1 := Lib.hid (fun w' => flatI_CrowdsShared w' cl hl_cl hin_cl.out wk)
  have H2 := Lib.hid (fun w' => flatS_CrowdsShared w' cl hl_cl hin_cl.out wk)
  generalize (sharedC cl wk).getD [] = r0 at *
  generalize (sharedC cl wk).isSome = r1 at *
  have hne1 : (r1 != r1) = false := by simp
  go_enter Try.func8, Try.ntmps8
  have B0 := Below.refl w.heap.size w
  go_wp2_with fail
  refine (S_cl.out _ B0).mono ?_
  rintro e w1 ⟨rfl, hb1⟩
  have S1 := hb1.size
  have B1 := below_then B0 hb1
  have A_cl_1 := h_cl.below hb1 (by omega)
  clear B0 h_cl hb1
  go_wp2_with fail
  refine (lawTo_CrowdS _ _ _ _ cl A_cl_1 (by omega) hl_cl hin_cl.out).mono ?_
  rintro e w2 ⟨v0_T0, v1_T0, rfl, o2, hb2⟩
  have S2 := hb2.size
  have B2 := below_then B1 hb2
  have A_cl_2 := A_cl_1.below hb2 (by omega)
  clear B1 A_cl_1 hb2
  go_wp2_with fail
  refine (H2.out _ _ _ _ (o2.rd) (by omega)).mono ?_
  rintro e w3 ⟨a_V0, c_V0, rfl, o3_0, hb3⟩
  have S3 := hb3.size
  have B3 := below_then B2 hb3
  have A_cl_3 := A_cl_2.below hb3 (by omega)
  have T0_3 := o2.keep hb3
  clear B2 A_cl_2 o2 hb3
  go_wp2_with fail
  refine (lawTo_CrowdS _ _ _ _ cl A_cl_3 (by omega) hl_cl hin_cl.out).mono ?_
  rintro e w4 ⟨v0_X0, v1_X0, rfl, o4, hb4⟩
  have S4 := hb4.size
  have B4 := below_then B3 hb4
  have A_cl_4 := A_cl_3.below hb4 (by omega)
  have V0_4 := o3_0.keep hb4
  clear B3 A_cl_3 o3_0 hb4
  go_wp2_with fail
  refine (H1.out _ _ _ _ (o4.rd) (by omega)).mono ?_
  rintro e w5 ⟨a_G0, c_G0, rfl, o5_0, hb5⟩
  have S5 := hb5.size
  have B5 := below_then B4 hb5
  have A_cl_5 := A_cl_4.below hb5 (by omega)
  have V0_5 := V0_4.keep hb5
  have X0_5 := o4.keep hb5
  clear B4 A_cl_4 V0_4 o4 hb5
  go_wp2_with fail
  refine (lawEq_I' _ _ _ _ _ _ _ r0 (o5_0.rd) (V0_5.rd) (by omega) (by omega) (by omega)).mono ?_
  rintro e w6 ⟨rfl, hb6⟩
  have S6 := hb6.size
  have B6 := below_then B5 hb6
  have A_cl_6 := A_cl_5.below hb6 (by omega)
  have V0_6 := V0_5.keep hb6
  have X0_6 := X0_5.keep hb6
  have G0_6 := o5_0.keep hb6
  clear B5 A_cl_5 V0_5 X0_5 o5_0 hb6
  go_wp2_with fail
  refine (lawTo_CrowdS _ _ _ _ cl A_cl_6 (by omega) hl_cl hin_cl.out).mono ?_
  rintro e w7 ⟨v0_Y0, v1_Y0, rfl, o7, hb7⟩
  have S7 := hb7.size
  have B7 := below_then B6 hb7
  have A_cl_7 := A_cl_6.below hb7 (by omega)
  have V0_7 := V0_6.keep hb7
  have X0_7 := X0_6.keep hb7
  have G0_7 := G0_6.keep hb7
  clear B6 A_cl_6 V0_6 X0_6 G0_6 hb7
  go_wp2_with fail
  refine (lawEq_CrowdS _ _ _ _ _ _ _ cl (X0_7.rd) (o7.rd) (by omega) (by omega) hl_cl hin_cl.out).mono ?_
  rintro e w8 ⟨rfl, hb8⟩
  have S8 := hb8.size
  have B8 := below_then B7 hb8
  have A_cl_8 := A_cl_7.below hb8 (by omega)
  have V0_8 := V0_7.keep hb8
  have X0_8 := X0_7.keep hb8
  have G0_8 := G0_7.keep hb8
  have Y0_8 := o7.keep hb8
  clear B7 A_cl_7 V0_7 X0_7 G0_7 o7 hb8
  go_wp2_with fail
  refine (lawMark_CrowdS _ _ _ _ _ cl _ X0_8 hl_cl hin_cl.out (by omega) (by omega)).mono ?_
  rintro e w9 ⟨mk_cl, rfl, ⟨mka_cl, mkb_cl⟩, hb9⟩
  have S9 := hb9.size
  have B9 := below_touch B8 hb9 (by omega) (by omega)
  have A_cl_9 := A_cl_8.touch hb9 (by omega) (by omega)
  have V0_9 := V0_8.touch hb9 (by omega)
  have G0_9 := G0_8.touch hb9 (by omega)
  clear B8 A_cl_8 V0_8 G0_8 hb9
  clear X0_8
  go_wp2_with fail
  refine (lawEq_I' _ _ _ _ _ _ _ r0 (G0_9.rd) (V0_9.rd) (by omega) (by omega) (by omega)).mono ?_
  rintro e w10 ⟨rfl, hb10⟩
  have S10 := hb10.size
  have B10 := below_then B9 hb10
  have A_cl_10 := A_cl_9.below hb10 (by omega)
  have V0_10 := V0_9.keep hb10
  have G0_10 := G0_9.keep hb10
  clear B9 A_cl_9 V0_9 G0_9 hb10
  go_wp2_with fail
  refine (lawMark_I _ _ _ _ _ r0 _ G0_10 (by omega) (by omega) (by omega)).mono ?_
  rintro e w11 ⟨rfl, o11, hb11⟩
  have S11 := hb11.size
  have B11 := below_touch B10 hb11 (by omega) (by omega)
  have A_cl_11 := A_cl_10.touch hb11 (by omega) (by omega)
  have V0_11 := V0_10.touch hb11 (by omega)
  clear B10 A_cl_10 V0_10 hb11
  clear G0_10
  go_wp2_with fail
  refine (lawHeld_I _ _ _ _ r0.length _ o11.rd (by omega) (by omega) (by omega) (by omega)).mono ?_
  rintro e w12 ⟨rfl, hb12⟩
  have S12 := hb12.size
  have B12 := below_then B11 hb12
  have A_cl_12 := A_cl_11.below hb12 (by omega)
  have V0_12 := V0_11.keep hb12
  have G0_12 := o11.keep hb12
  clear B11 A_cl_11 V0_11 o11 hb12
  go_wp2_with fail
  refine (lawTo_CrowdS _ _ _ _ cl A_cl_12 (by omega) hl_cl hin_cl.out).mono ?_
  rintro e w13 ⟨v0_Z0, v1_Z0, rfl, o13, hb13⟩
  have S13 := hb13.size
  have B13 := below_then B12 hb13
  have A_cl_13 := A_cl_12.below hb13 (by omega)
  have V0_13 := V0_12.keep hb13
  have G0_13 := G0_12.keep hb13
  clear B12 A_cl_12 V0_12 G0_12 hb13
  go_wp2_with fail
  refine (H1.out _ _ _ _ (o13.rd) (by omega)).mono ?_
  rintro e w14 ⟨a_K0, c_K0, rfl, o14_0, hb14⟩
  have S14 := hb14.size
  have B14 := below_then B13 hb14
  have A_cl_14 := A_cl_13.below hb14 (by omega)
  have V0_14 := V0_13.keep hb14
  have G0_14 := G0_13.keep hb14
  have Z0_14 := o13.keep hb14
  clear B13 A_cl_13 V0_13 G0_13 o13 hb14
  go_wp2_with fail
  refine (lawEq_I' _ _ _ _ _ _ _ r0 (o14_0.rd) (V0_14.rd) (by omega) (by omega) (by omega)).mono ?_
  rintro e w15 ⟨rfl, hb15⟩
  have S15 := hb15.size
  have B15 := below_then B14 hb15
  have A_cl_15 := A_cl_14.below hb15 (by omega)
  have V0_15 := V0_14.keep hb15
  have G0_15 := G0_14.keep hb15
  have K0_15 := o14_0.keep hb15
  clear B14 A_cl_14 V0_14 G0_14 o14_0 hb15
  go_wp2_with fail
  refine (lawHeld_I _ _ _ _ r0.length _ G0_15.rd (by omega) (by omega) (by omega) (by omega)).mono ?_
  rintro e w16 ⟨rfl, hb16⟩
  have S16 := hb16.size
  have B16 := below_then B15 hb16
  have A_cl_16 := A_cl_15.below hb16 (by omega)
  have V0_16 := V0_15.keep hb16
  have G0_16 := G0_15.keep hb16
  have K0_16 := K0_15.keep hb16
  clear B15 A_cl_15 V0_15 G0_15 K0_15 hb16
  go_wp2_with fail
  go_ret
  exact ⟨rfl, B16⟩

end Go.Proofs.Ytbgclfbhdpgdaaa
