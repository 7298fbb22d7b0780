/-
  FnExactClaimsShared answers true: the law's walk.
-/
import Derived.Test.YthbclfaeplmjgaaLawLL
import Derived.Test.YthbclfaeplmjgaaClaimsS
namespace Go.Proofs.Ythbclfaeplmjgaa
set_option linter.unusedVariables false
set_option linter.unusedSimpArgs false
open Go.RowKit

theorem flat_ofLL {f : Nat} {args : Array Value} {w : World} {T T2 : Nat} {r : Option (List (List Int))} (h : Calls Try.prog f args w (RetLL T T2 w r)) :
    Calls Try.prog f args w fun e w' => ∃ a c, e = .returned (.tuple #[.slice a (r.getD []).length c, .bool r.isSome]) ∧ OwnLL T T2 w' w.heap.size w'.heap.size a c (r.getD []) ∧ Below w.heap.size w w' := by
  refine h.mono fun e w' hR => ?_
  obtain ⟨hb, h2⟩ := hR
  cases r with
  | none => exact ⟨none, 0, h2, OwnLL.nil, hb⟩
  | some p =>
    obtain ⟨a, c, he, ho⟩ := h2
    exact ⟨a, c, he, ho, hb⟩
theorem sharedF_len0 (many : List (List Int)) (est wk : Int) : ((sharedF many est wk).getD []).length ≤ 1048576 := by
  unfold sharedF
  by_cases h : many.length ≤ 16
  · split <;> simp; omega
  · rw [decide_eq_false h]; simp
theorem sharedF_in0 (many : List (List Int)) (hl : many.length ≤ 1048576) (hin : ∀ y ∈ many, y.length ≤ 1048576) (est wk : Int) : ∀ y ∈ (sharedF many est wk).getD [], y.length ≤ 1048576 := by
  intro y hy
  unfold sharedF at hy
  split at hy
  · rw [Option.getD_some] at hy
    obtain ⟨xs, hx, rfl⟩ := List.mem_map.1 hy
    unfold sharedG
    cases hg : eqGF xs est with
    | none => simp
    | some ys => have := eqGF_len hg; simp only [Option.getD_some]; omega
  · simp at hy
theorem flatI_ClaimsShared (w : World) (many : List (List Int)) (hl_many : many.length ≤ 1048576) (hin_many : ∀ b ∈ many, b.length ≤ 1048576) (est : Int) (wk : Int) (B_many : Nat) (a_many : Option Addr) (c_many : Nat) (h_many : RdII w B_many a_many many) (hB_many : B_many ≤ w.heap.size) :
    Calls Try.prog 34 #[.slice a_many many.length c_many, .int .i64 est, .int .i64 wk] w fun e w' => ∃ a c, e = .returned (.tuple #[.slice a ((sharedF many est wk).getD []).length c, .bool (sharedF many est wk).isSome]) ∧ OwnLL 2 22 w' w.heap.size w'.heap.size a c ((sharedF many est wk).getD []) ∧ Below w.heap.size w w' :=
  flat_ofLL (shared_any w a_many c_many many est wk (h_many.mono hB_many) hl_many hin_many)
theorem flatS_ClaimsShared (w : World) (many : List (List Int)) (hl_many : many.length ≤ 1048576) (hin_many : ∀ b ∈ many, b.length ≤ 1048576) (est : Int) (wk : Int) (B_many : Nat) (a_many : Option Addr) (c_many : Nat) (h_many : RdII w B_many a_many many) (hB_many : B_many ≤ w.heap.size) :
    Calls Try.prog 32 #[.slice a_many many.length c_many, .int .i64 est, .int .i64 wk] w fun e w' => ∃ a c, e = .returned (.tuple #[.slice a ((sharedF many est wk).getD []).length c, .bool (sharedF many est wk).isSome]) ∧ OwnLL 2 22 w' w.heap.size w'.heap.size a c ((sharedF many est wk).getD []) ∧ Below w.heap.size w w' :=
  flat_ofLL (sharedR_any w a_many c_many many est wk (h_many.mono hB_many) hl_many hin_many)

set_option maxHeartbeats 4000000 in
theorem law_ExactClaimsShared (w : World) (a_many : Option Addr) (c_many : Nat) (many : List (List Int)) (est : Int) (wk : Int) (h_many : RdII w w.heap.size a_many many) (hl0_many : many.length ≤ 9223372036854775807) (hin0_many : ∀ y ∈ many, y.length ≤ 9223372036854775807) :
    Calls Try.prog 8 #[.slice a_many many.length c_many, .int .i64 est, .int .i64 wk] w fun e w' => e = .returned (.bool true) ∧ Below w.heap.size w w' := by
  have S_many := Lib.hid (fun w' h => szInt64SS_any w' a_many c_many many h hl0_many hin0_many)
  have hsp_many := @szFF_spec many
  generalize szFF 1048576 many = l_many at S_many hsp_many
  by_cases hneg_many : l_many < 0
  case pos =>
    clear hsp_many
    go_enter Try.func8, Try.ntmps8
    go_wp2_with fail
    refine (S_many.out _ h_many).mono ?_
    rintro e w1 ⟨rfl, rfl⟩
    go_wp2_with fail
    go_ret
    exact ⟨rfl, Below.refl _ _⟩
  obtain ⟨hlen_many, hin_many⟩ := hsp_many hneg_many
  have Hin_many := Lib.hid hin_many
  clear hsp_many hin_many hin0_many
  have hrl0 := sharedF_len0 many est wk
  have hrin0 := Lib.hid (sharedF_in0 many hlen_many Hin_many.out est wk)
  have H1 := Lib.hid (fun w' => flatI_ClaimsShared w' many hlen_many Hin_many.out est wk)
  have H2 := Lib.hid (fun w' => flatS_ClaimsShared w' many hlen_many Hin_many.out est wk)
  generalize (sharedF many est wk).getD [] = r0 at *
  generalize (sharedF many est wk).isSome = r1 at *
  have hsl0 := sumLen_nonneg r0
  have hne1 : (r1 != r1) = false := by simp
  go_enter Try.func8, Try.ntmps8
  go_wp2_with fail
  refine (S_many.out _ h_many).mono ?_
  rintro e w1 ⟨rfl, rfl⟩
  have B0 := Below.refl w.heap.size w
  go_wp2_with fail
  refine (lawTo_II _ _ _ _ many h_many (by omega) hlen_many Hin_many.out).mono ?_
  rintro e w1 ⟨a_T0, c_T0, rfl, o1, hb1⟩
  have S1 := hb1.size
  have B1 := below_then B0 hb1
  have A_many_1 := h_many.below hb1 (by omega)
  clear B0 h_many hb1
  go_wp2_with fail
  refine (H2.out _ _ _ _ (o1.rd) (by omega)).mono ?_
  rintro e w2 ⟨a_V0, c_V0, rfl, o2_0, hb2⟩
  have S2 := hb2.size
  have B2 := below_then B1 hb2
  have A_many_2 := A_many_1.below hb2 (by omega)
  have T0_2 := o1.keep hb2
  clear B1 A_many_1 o1 hb2
  go_wp2_with fail
  refine (lawTo_II _ _ _ _ many A_many_2 (by omega) hlen_many Hin_many.out).mono ?_
  rintro e w3 ⟨a_X0, c_X0, rfl, o3, hb3⟩
  have S3 := hb3.size
  have B3 := below_then B2 hb3
  have A_many_3 := A_many_2.below hb3 (by omega)
  have V0_3 := o2_0.keep hb3
  clear B2 A_many_2 o2_0 hb3
  go_wp2_with fail
  refine (H1.out _ _ _ _ (o3.rd) (by omega)).mono ?_
  rintro e w4 ⟨a_G0, c_G0, rfl, o4_0, hb4⟩
  have S4 := hb4.size
  have B4 := below_then B3 hb4
  have A_many_4 := A_many_3.below hb4 (by omega)
  have V0_4 := V0_3.keep hb4
  have X0_4 := o3.keep hb4
  clear B3 A_many_3 V0_3 o3 hb4
  go_wp2_with fail
  refine (lawEq_II _ _ _ _ _ _ _ r0 (o4_0.rd) (V0_4.rd) (by omega) (by omega) hrl0 hrin0.out).mono ?_
  rintro e w5 ⟨rfl, hb5⟩
  have S5 := hb5.size
  have B5 := below_then B4 hb5
  have A_many_5 := A_many_4.below hb5 (by omega)
  have V0_5 := V0_4.keep hb5
  have X0_5 := X0_4.keep hb5
  have G0_5 := o4_0.keep hb5
  clear B4 A_many_4 V0_4 X0_4 o4_0 hb5
  go_wp2_with fail
  refine (lawTo_II _ _ _ _ many A_many_5 (by omega) hlen_many Hin_many.out).mono ?_
  rintro e w6 ⟨a_Y0, c_Y0, rfl, o6, hb6⟩
  have S6 := hb6.size
  have B6 := below_then B5 hb6
  have A_many_6 := A_many_5.below hb6 (by omega)
  have V0_6 := V0_5.keep hb6
  have X0_6 := X0_5.keep hb6
  have G0_6 := G0_5.keep hb6
  clear B5 A_many_5 V0_5 X0_5 G0_5 hb6
  go_wp2_with fail
  refine (lawEq_II _ _ _ _ _ _ _ many (X0_6.rd) (o6.rd) (by omega) (by omega) hlen_many Hin_many.out).mono ?_
  rintro e w7 ⟨rfl, hb7⟩
  have S7 := hb7.size
  have B7 := below_then B6 hb7
  have A_many_7 := A_many_6.below hb7 (by omega)
  have V0_7 := V0_6.keep hb7
  have X0_7 := X0_6.keep hb7
  have G0_7 := G0_6.keep hb7
  have Y0_7 := o6.keep hb7
  clear B6 A_many_6 V0_6 X0_6 G0_6 o6 hb7
  go_wp2_with fail
  refine (lawMark_II _ _ _ _ _ many (1) X0_7 hlen_many Hin_many.out (by omega) (by omega)).mono ?_
  rintro e w8 ⟨k_many, rfl, ⟨hk0_many, hk1_many⟩, hb8⟩
  have S8 := hb8.size
  have B8 := below_touch B7 hb8 (by omega) (by omega)
  have A_many_8 := A_many_7.touch hb8 (by omega) (by omega)
  have V0_8 := V0_7.touch hb8 (by omega)
  have G0_8 := G0_7.touch hb8 (by omega)
  clear B7 A_many_7 V0_7 G0_7 hb8
  clear X0_7
  go_wp2_with fail
  refine (lawEq_II _ _ _ _ _ _ _ r0 (G0_8.rd) (V0_8.rd) (by omega) (by omega) hrl0 hrin0.out).mono ?_
  rintro e w9 ⟨rfl, hb9⟩
  have S9 := hb9.size
  have B9 := below_then B8 hb9
  have A_many_9 := A_many_8.below hb9 (by omega)
  have V0_9 := V0_8.keep hb9
  have G0_9 := G0_8.keep hb9
  clear B8 A_many_8 V0_8 G0_8 hb9
  go_wp2_with fail
  refine (lawMark_LL _ _ _ _ _ r0 (1) G0_9 hrl0 hrin0.out (by omega) (by omega)).mono ?_
  rintro e w10 ⟨rfl, o10, hb10⟩
  have S10 := hb10.size
  have B10 := below_touch B9 hb10 (by omega) (by omega)
  have A_many_10 := A_many_9.touch hb10 (by omega) (by omega)
  have V0_10 := V0_9.touch hb10 (by omega)
  clear B9 A_many_9 V0_9 hb10
  clear G0_9
  go_wp2_with fail
  refine (lawHeld_LL _ _ _ _ r0 _ o10.rd (by omega) hrl0 hrin0.out (by omega) (by omega)).mono ?_
  rintro e w11 ⟨rfl, hb11⟩
  have S11 := hb11.size
  have B11 := below_then B10 hb11
  have A_many_11 := A_many_10.below hb11 (by omega)
  have V0_11 := V0_10.keep hb11
  have G0_11 := o10.keep hb11
  clear B10 A_many_10 V0_10 o10 hb11
  go_wp2_with fail
  refine (lawTo_II _ _ _ _ many A_many_11 (by omega) hlen_many Hin_many.out).mono ?_
  rintro e w12 ⟨a_Z0, c_Z0, rfl, o12, hb12⟩
  have S12 := hb12.size
  have B12 := below_then B11 hb12
  have A_many_12 := A_many_11.below hb12 (by omega)
  have V0_12 := V0_11.keep hb12
  have G0_12 := G0_11.keep hb12
  clear B11 A_many_11 V0_11 G0_11 hb12
  go_wp2_with fail
  refine (H1.out _ _ _ _ (o12.rd) (by omega)).mono ?_
  rintro e w13 ⟨a_K0, c_K0, rfl, o13_0, hb13⟩
  have S13 := hb13.size
  have B13 := below_then B12 hb13
  have A_many_13 := A_many_12.below hb13 (by omega)
  have V0_13 := V0_12.keep hb13
  have G0_13 := G0_12.keep hb13
  have Z0_13 := o12.keep hb13
  clear B12 A_many_12 V0_12 G0_12 o12 hb13
  go_wp2_with fail
  refine (lawEq_II _ _ _ _ _ _ _ r0 (o13_0.rd) (V0_13.rd) (by omega) (by omega) hrl0 hrin0.out).mono ?_
  rintro e w14 ⟨rfl, hb14⟩
  have S14 := hb14.size
  have B14 := below_then B13 hb14
  have A_many_14 := A_many_13.below hb14 (by omega)
  have V0_14 := V0_13.keep hb14
  have G0_14 := G0_13.keep hb14
  have K0_14 := o13_0.keep hb14
  clear B13 A_many_13 V0_13 G0_13 o13_0 hb14
  go_wp2_with fail
  refine (lawHeld_LL _ _ _ _ r0 _ G0_14.rd (by omega) hrl0 hrin0.out (by omega) (by omega)).mono ?_
  rintro e w15 ⟨rfl, hb15⟩
  have S15 := hb15.size
  have B15 := below_then B14 hb15
  have A_many_15 := A_many_14.below hb15 (by omega)
  have V0_15 := V0_14.keep hb15
  have G0_15 := G0_14.keep hb15
  have K0_15 := K0_14.keep hb15
  clear B14 A_many_14 V0_14 G0_14 K0_14 hb15
  go_wp2_with fail
  go_ret
  exact ⟨rfl, B15⟩

end Go.Proofs.Ythbclfaeplmjgaa
