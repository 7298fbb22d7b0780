/-
  FnExactRestOf answers true: the law's walk.
-/
import Derived.Test.YtbgclfbhdpgdaaaLawInts
import Derived.Test.YtbgclfbhdpgdaaaCrowdT
import Derived.Test.YtbgclfbhdpgdaaaRestOf
namespace Go.Proofs.Ytbgclfbhdpgdaaa
set_option linter.unusedVariables false
set_option linter.unusedSimpArgs false
open Go.RowKit

theorem cells4 {w : World} {g : Nat} {v0 v1 v2 v3 : Value} {t : TypeId} (h : Blk w g [v0, v1, v2, v3] t) : w.cell? ⟨g, 0, none⟩ = some v0 ∧ w.cell? ⟨g, 1, none⟩ = some v1 ∧ w.cell? ⟨g, 2, none⟩ = some v2 ∧ w.cell? ⟨g, 3, none⟩ = some v3 := ⟨h.cell 0, h.cell 1, h.cell 2, h.cell 3⟩
theorem two4 {w : World} {g k : Nat} {v0 v1 v2 v3 u0 u1 u2 u3 : Value} {t s : TypeId} (h : Blk w g [v0, v1, v2, v3] t) (h2 : Blk w k [u0, u1, u2, u3] s) : w.cell? ⟨g, 0, none⟩ = some v0 ∧ w.cell? ⟨g, 1, none⟩ = some v1 ∧ w.cell? ⟨g, 2, none⟩ = some v2 ∧ w.cell? ⟨g, 3, none⟩ = some v3 ∧ w.cell? ⟨k, 0, none⟩ = some u0 ∧ w.cell? ⟨k, 1, none⟩ = some u1 ∧ w.cell? ⟨k, 2, none⟩ = some u2 ∧ w.cell? ⟨k, 3, none⟩ = some u3 := ⟨h.cell 0, h.cell 1, h.cell 2, h.cell 3, h2.cell 0, h2.cell 1, h2.cell 2, h2.cell 3⟩
def boxed4 (w : World) (t : TypeId) (v0 v1 v2 v3 : Value) : World := w.alloc (.cells #[v0, v1, v2, v3] t)
theorem box4 (w : World) (t : TypeId) (v0 v1 v2 v3 : Value) : Below w.heap.size w (boxed4 w t v0 v1 v2 v3) ∧ Blk (boxed4 w t v0 v1 v2 v3) w.heap.size [v0, v1, v2, v3] t ∧ (boxed4 w t v0 v1 v2 v3).heap.size = w.heap.size + 1 := ⟨bl1 _ _, Blk.new w [v0, v1, v2, v3] t, by simp [boxed4]⟩

theorem flatI_RestOf (w : World) (c_n0 c_n1 : Int) (c_x2 c_x3 : List Int) (hl_c_x2 : c_x2.length ≤ 1048576) (hl_c_x3 : c_x3.length ≤ 1048576) (ch : List Int) (hl_ch : ch.length ≤ 1048576) (B_c : Nat) (c_a2 : Option Addr) (c_c2 : Nat) (c_a3 : Option Addr) (c_c3 : Nat) (h_c : RdCrowd w B_c c_a2 c_x2 c_a3 c_x3) (hB_c : B_c ≤ w.heap.size) (B_ch : Nat) (a_ch : Option Addr) (c_ch : Nat) (h_ch : Rd w B_ch a_ch (ints ch)) (hB_ch : B_ch ≤ w.heap.size) :
    Calls Try.prog 23 #[.agg #[.int .i64 c_n0, .int .i64 c_n1, .slice c_a2 c_x2.length c_c2, .slice c_a3 c_x3.length c_c3], .slice a_ch ch.length c_ch] w fun e w' => ∃ a0 c0, e = .returned (.tuple #[.slice a0 (((restOF ⟨c_n0, c_n1, c_x2, c_x3⟩ ch).map Prod.fst).getD []).length c0, .int .i64 (((restOF ⟨c_n0, c_n1, c_x2, c_x3⟩ ch).map Prod.snd).getD 0), .bool ((restOF ⟨c_n0, c_n1, c_x2, c_x3⟩ ch).isSome)]) ∧ OwnI 2 w' w.heap.size w'.heap.size a0 c0 (((restOF ⟨c_n0, c_n1, c_x2, c_x3⟩ ch).map Prod.fst).getD []) ∧ Below w.heap.size w w' :=
  flat_ofT (restOf_any w c_n0 c_n1 c_a2 c_c2 c_x2 c_a3 c_c3 c_x3 a_ch c_ch ch (h_c.mono hB_c) hl_c_x2 hl_c_x3 (h_ch.mono hB_ch) hl_ch)
theorem flatS_RestOf (w : World) (c_n0 c_n1 : Int) (c_x2 c_x3 : List Int) (hl_c_x2 : c_x2.length ≤ 1048576) (hl_c_x3 : c_x3.length ≤ 1048576) (ch : List Int) (hl_ch : ch.length ≤ 1048576) (B_c : Nat) (c_a2 : Option Addr) (c_c2 : Nat) (c_a3 : Option Addr) (c_c3 : Nat) (h_c : RdCrowd w B_c c_a2 c_x2 c_a3 c_x3) (hB_c : B_c ≤ w.heap.size) (B_ch : Nat) (a_ch : Option Addr) (c_ch : Nat) (h_ch : Rd w B_ch a_ch (ints ch)) (hB_ch : B_ch ≤ w.heap.size) :
    Calls Try.prog 22 #[.agg #[.int .i64 c_n0, .int .i64 c_n1, .slice c_a2 c_x2.length c_c2, .slice c_a3 c_x3.length c_c3], .slice a_ch ch.length c_ch] w fun e w' => ∃ a0 c0, e = .returned (.tuple #[.slice a0 (((restOF ⟨c_n0, c_n1, c_x2, c_x3⟩ ch).map Prod.fst).getD []).length c0, .int .i64 (((restOF ⟨c_n0, c_n1, c_x2, c_x3⟩ ch).map Prod.snd).getD 0), .bool ((restOF ⟨c_n0, c_n1, c_x2, c_x3⟩ ch).isSome)]) ∧ OwnI 2 w' w.heap.size w'.heap.size a0 c0 (((restOF ⟨c_n0, c_n1, c_x2, c_x3⟩ ch).map Prod.fst).getD []) ∧ Below w.heap.size w w' :=
  flat_ofT (restOfR_any w c_n0 c_n1 c_a2 c_c2 c_x2 c_a3 c_c3 c_x3 a_ch c_ch ch (h_c.mono hB_c) hl_c_x2 hl_c_x3 (h_ch.mono hB_ch) hl_ch)

set_option maxRecDepth 10000 in
set_option maxHeartbeats 8000000 in
theorem law_ExactRestOf (w : World) (c_n0 c_n1 : Int) (c_a2 : Option Addr) (c_c2 : Nat) (c_x2 : List Int) (c_a3 : Option Addr) (c_c3 : Nat) (c_x3 : List Int) (a_ch : Option Addr) (c_ch : Nat) (ch : List Int) (h_c : RdCrowd w w.heap.size c_a2 c_x2 c_a3 c_x3) (hl0_c_x2 : c_x2.length ≤ 9223372036854775807) (hl0_c_x3 : c_x3.length ≤ 9223372036854775807) (h_ch : Rd w w.heap.size a_ch (ints ch))  :
    Calls Try.prog 5 #[.agg #[.int .i64 c_n0, .int .i64 c_n1, .slice c_a2 c_x2.length c_c2, .slice c_a3 c_x3.length c_c3], .slice a_ch ch.length c_ch] w fun e w' => e = .returned (.bool true) ∧ Below w.heap.size w w' := by
  by_cases hl_ch : ch.length ≤ 1048576
  case neg =>
    go_enter Try.func5, Try.ntmps5
    go_wp2_with fail
    go_ret
    first | exact ⟨rfl, Below.refl _ _⟩ | exact ⟨rfl, bl1 _ _⟩ | exact ⟨rfl, bl2 _ _ _⟩
  have S_c := Lib.hid (fun w' => lawSz_Crowd w' c_n0 c_n1 c_a2 c_c2 c_x2 c_a3 c_c3 c_x3 1048576 (by omega) (by omega) hl0_c_x2 hl0_c_x3)
  have hs_c := szCrowdF_spec (left := 1048576) (x2 := c_x2) (x3 := c_x3) (show (0 : Int) ≤ 1048576 by omega)
  generalize szCrowdF 1048576 c_x2 c_x3 = l_c at *
  obtain ⟨hsa_c, hsb_c, hsc_c⟩ := hs_c
  by_cases hneg_c : l_c < 0
  case pos =>
    clear hsc_c
    go_enter Try.func5, Try.ntmps5
    go_wp2_with fail
    refine (S_c.out _).mono ?_
    rintro e w_c ⟨rfl, hz_c⟩
    go_wp2_with fail
    go_ret
    first | exact ⟨rfl, hz_c⟩ | exact ⟨rfl, below_then (bl1 _ _) (hz_c)⟩ | exact ⟨rfl, below_then (bl2 _ _ _) (hz_c)⟩
  have hsd_c := hsc_c (by omega)
  have hl_c_x2 : c_x2.length ≤ 1048576 := by omega
  have hl_c_x3 : c_x3.length ≤ 1048576 := by omega
  clear hsc_c hsd_c hl0_c_x2 hl0_c_x3
  have hrl0 := restOF_len ⟨c_n0, c_n1, c_x2, c_x3⟩ ch (by omega)
  have H1 := Lib.hid (fun w' => flatI_RestOf w' c_n0 c_n1 c_x2 c_x3 hl_c_x2 hl_c_x3 ch hl_ch)
  have H2 := Lib.hid (fun w' => flatS_RestOf w' c_n0 c_n1 c_x2 c_x3 hl_c_x2 hl_c_x3 ch hl_ch)
  generalize ((restOF ⟨c_n0, c_n1, c_x2, c_x3⟩ ch).map Prod.fst).getD [] = r0 at *
  generalize ((restOF ⟨c_n0, c_n1, c_x2, c_x3⟩ ch).map Prod.snd).getD 0 = r1 at *
  generalize (restOF ⟨c_n0, c_n1, c_x2, c_x3⟩ ch).isSome = r2 at *
  have hne1 : (r1 != r1) = false := by simp
  have hne2 : (r2 != r2) = false := by simp
  go_enter Try.func5, Try.ntmps5
  have K_c := Lib.hid (Blk.new (w) [.int .i64 c_n0, .int .i64 c_n1, .slice c_a2 c_x2.length c_c2, .slice c_a3 c_x3.length c_c3] 24)
  have hx0 := bl1 (w) (.cells #[.int .i64 c_n0, .int .i64 c_n1, .slice c_a2 c_x2.length c_c2, .slice c_a3 c_x3.length c_c3] 24)
  have SW0 : w.heap.size < (w.alloc (.cells #[.int .i64 c_n0, .int .i64 c_n1, .slice c_a2 c_x2.length c_c2, .slice c_a3 c_x3.length c_c3] 24)).heap.size := by simp
  have S0 := hx0.size
  have B0 := hx0
  have A_c_0 := h_c.below hx0 (by omega)
  have A_ch_0 := h_ch.below hx0 (by omega)
  clear h_c h_ch hx0
  obtain ⟨q0_0, q0_1, q0_2, q0_3⟩ := cells4 K_c.out
  go_wp2_with fail
  refine (S_c.out _).mono ?_
  rintro e w1 ⟨rfl, hb1⟩
  clear q0_0 q0_1 q0_2 q0_3
  have S1 := hb1.size
  have B1 := below_then B0 hb1
  have A_c_1 := A_c_0.below hb1 (by omega)
  have A_ch_1 := A_ch_0.below hb1 (by omega)
  have K_c_1 := Lib.hid (K_c.out.same hb1)
  clear B0 A_c_0 A_ch_0 K_c hb1
  obtain ⟨q0_0, q0_1, q0_2, q0_3⟩ := cells4 K_c_1.out
  go_wp2_with fail
  refine (lawTo_Crowd _ _ _ _ _ _ _ _ _ _  A_c_1 (by omega) hl_c_x2 hl_c_x3).mono ?_
  rintro e w2 ⟨v0_T0, v1_T0, v2_T0, v3_T0, rfl, o2, hb2⟩
  clear q0_0 q0_1 q0_2 q0_3
  have S2 := hb2.size
  have B2 := below_then B1 hb2
  have A_c_2 := A_c_1.below hb2 (by omega)
  have A_ch_2 := A_ch_1.below hb2 (by omega)
  have K_c_2 := Lib.hid (K_c_1.out.same hb2)
  clear B1 A_c_1 A_ch_1 K_c_1 hb2
  obtain ⟨q0_0, q0_1, q0_2, q0_3⟩ := cells4 K_c_2.out
  go_wp2_with fail
  refine (lawTo_I _ _ _ _ ch A_ch_2 (by omega) hl_ch).mono ?_
  rintro e w3 ⟨v0_T1, v1_T1, rfl, o3, hb3⟩
  clear q0_0 q0_1 q0_2 q0_3
  have S3 := hb3.size
  have B3 := below_then B2 hb3
  have A_c_3 := A_c_2.below hb3 (by omega)
  have A_ch_3 := A_ch_2.below hb3 (by omega)
  have K_c_3 := Lib.hid (K_c_2.out.same hb3)
  have T0_3 := o2.keep hb3
  clear B2 A_c_2 A_ch_2 K_c_2 o2 hb3
  obtain ⟨q0_0, q0_1, q0_2, q0_3⟩ := cells4 K_c_3.out
  go_wp2_with fail
  refine (H2.out _ _ _ _ _ _ (T0_3.rd) (by omega) _ _ _ (o3.rd) (by omega)).mono ?_
  rintro e w4 ⟨a_V0, c_V0, rfl, o4_0, hb4⟩
  clear q0_0 q0_1 q0_2 q0_3
  have S4 := hb4.size
  have B4 := below_then B3 hb4
  have A_c_4 := A_c_3.below hb4 (by omega)
  have A_ch_4 := A_ch_3.below hb4 (by omega)
  have K_c_4 := Lib.hid (K_c_3.out.same hb4)
  have T0_4 := T0_3.keep hb4
  have T1_4 := o3.keep hb4
  clear B3 A_c_3 A_ch_3 K_c_3 T0_3 o3 hb4
  obtain ⟨q0_0, q0_1, q0_2, q0_3⟩ := cells4 K_c_4.out
  go_wp2_with fail
  refine (lawTo_Crowd _ _ _ _ _ _ _ _ _ _  A_c_4 (by omega) hl_c_x2 hl_c_x3).mono ?_
  rintro e w5 ⟨v0_X0, v1_X0, v2_X0, v3_X0, rfl, o5, hb5⟩
  clear q0_0 q0_1 q0_2 q0_3
  have S5 := hb5.size
  have B5 := below_then B4 hb5
  have A_c_5 := A_c_4.below hb5 (by omega)
  have A_ch_5 := A_ch_4.below hb5 (by omega)
  have K_c_5 := Lib.hid (K_c_4.out.same hb5)
  have V0_5 := o4_0.keep hb5
  clear B4 A_c_4 A_ch_4 K_c_4 o4_0 hb5
  obtain ⟨q0_0, q0_1, q0_2, q0_3⟩ := cells4 K_c_5.out
  go_wp2_with fail
  have M6 := box4 w5 28 (.int .i64 c_n0) (.int .i64 c_n1) (.slice v0_X0 c_x2.length v1_X0) (.slice v2_X0 c_x3.length v3_X0)
  obtain ⟨w6, hW6⟩ : ∃ W, W = boxed4 w5 28 (.int .i64 c_n0) (.int .i64 c_n1) (.slice v0_X0 c_x2.length v1_X0) (.slice v2_X0 c_x3.length v3_X0) := ⟨_, rfl⟩
  rw [← hW6] at M6
  simp only [boxed4] at hW6
  try rw [← hW6]
  clear hW6
  obtain ⟨hb6, KX, SX6⟩ := M6
  have K_X0 := Lib.hid KX
  clear KX
  have S6 := hb6.size
  have B6 := below_then B5 hb6
  have A_c_6 := A_c_5.below hb6 (by omega)
  have A_ch_6 := A_ch_5.below hb6 (by omega)
  have K_c_6 := Lib.hid (K_c_5.out.same hb6)
  have V0_6 := V0_5.keep hb6
  have X0_6 := o5.keep hb6
  clear B5 A_c_5 A_ch_5 K_c_5 V0_5 o5 hb6
  refine (lawTo_I _ _ _ _ ch A_ch_6 (by omega) hl_ch).mono ?_
  rintro e w7 ⟨v0_X1, v1_X1, rfl, o7, hb7⟩
  clear q0_0 q0_1 q0_2 q0_3
  have S7 := hb7.size
  have B7 := below_then B6 hb7
  have A_c_7 := A_c_6.below hb7 (by omega)
  have A_ch_7 := A_ch_6.below hb7 (by omega)
  have K_c_7 := Lib.hid (K_c_6.out.same hb7)
  have V0_7 := V0_6.keep hb7
  have X0_7 := X0_6.keep hb7
  have K_X0_7 := Lib.hid (K_X0.out.same hb7)
  clear B6 A_c_6 A_ch_6 K_c_6 V0_6 X0_6 K_X0 hb7
  obtain ⟨q0_0, q0_1, q0_2, q0_3⟩ := cells4 K_c_7.out
  obtain ⟨q1_0, q1_1, q1_2, q1_3⟩ := cells4 K_X0_7.out
  go_wp2_with fail
  refine (H1.out _ _ _ _ _ _ (X0_7.rd) (by omega) _ _ _ (o7.rd) (by omega)).mono ?_
  rintro e w8 ⟨a_G0, c_G0, rfl, o8_0, hb8⟩
  clear q0_0 q0_1 q0_2 q0_3 q1_0 q1_1 q1_2 q1_3
  have S8 := hb8.size
  have B8 := below_then B7 hb8
  have A_c_8 := A_c_7.below hb8 (by omega)
  have A_ch_8 := A_ch_7.below hb8 (by omega)
  have K_c_8 := Lib.hid (K_c_7.out.same hb8)
  have V0_8 := V0_7.keep hb8
  have X0_8 := X0_7.keep hb8
  have K_X0_8 := Lib.hid (K_X0_7.out.same hb8)
  have X1_8 := o7.keep hb8
  clear B7 A_c_7 A_ch_7 K_c_7 V0_7 X0_7 K_X0_7 o7 hb8
  obtain ⟨q0_0, q0_1, q0_2, q0_3⟩ := cells4 K_c_8.out
  obtain ⟨q1_0, q1_1, q1_2, q1_3⟩ := cells4 K_X0_8.out
  go_wp2_with fail
  refine (lawEq_I' _ _ _ _ _ _ _ r0 (o8_0.rd) (V0_8.rd) (by omega) (by omega) (by omega)).mono ?_
  rintro e w9 ⟨rfl, hb9⟩
  clear q0_0 q0_1 q0_2 q0_3 q1_0 q1_1 q1_2 q1_3
  have S9 := hb9.size
  have B9 := below_then B8 hb9
  have A_c_9 := A_c_8.below hb9 (by omega)
  have A_ch_9 := A_ch_8.below hb9 (by omega)
  have K_c_9 := Lib.hid (K_c_8.out.same hb9)
  have V0_9 := V0_8.keep hb9
  have X0_9 := X0_8.keep hb9
  have K_X0_9 := Lib.hid (K_X0_8.out.same hb9)
  have X1_9 := X1_8.keep hb9
  have G0_9 := o8_0.keep hb9
  clear B8 A_c_8 A_ch_8 K_c_8 V0_8 X0_8 K_X0_8 X1_8 o8_0 hb9
  obtain ⟨q0_0, q0_1, q0_2, q0_3⟩ := cells4 K_c_9.out
  obtain ⟨q1_0, q1_1, q1_2, q1_3⟩ := cells4 K_X0_9.out
  go_wp2_with fail
  have hb10 := below_drew' (Below.refl w9.heap.size w9)
  have S10 := hb10.size
  have B10 := below_then B9 hb10
  have A_c_10 := A_c_9.below hb10 (by omega)
  have A_ch_10 := A_ch_9.below hb10 (by omega)
  have K_c_10 := Lib.hid (K_c_9.out.same hb10)
  have V0_10 := V0_9.keep hb10
  have X0_10 := X0_9.keep hb10
  have K_X0_10 := Lib.hid (K_X0_9.out.same hb10)
  have X1_10 := X1_9.keep hb10
  have G0_10 := G0_9.keep hb10
  clear B9 A_c_9 A_ch_9 K_c_9 V0_9 X0_9 K_X0_9 X1_9 G0_9 hb10
  go_region_held3 (fun w' => w'.cell? ⟨w5.heap.size, 0, none⟩ = some (.int .i64 c_n0) ∧ w'.cell? ⟨w5.heap.size, 1, none⟩ = some (.int .i64 c_n1) ∧ w'.cell? ⟨w5.heap.size, 2, none⟩ = some (.slice v0_X0 c_x2.length v1_X0) ∧ w'.cell? ⟨w5.heap.size, 3, none⟩ = some (.slice v2_X0 c_x3.length v3_X0) ∧ w'.cell? ⟨w.heap.size, 0, none⟩ = some (.int .i64 c_n0) ∧ w'.cell? ⟨w.heap.size, 1, none⟩ = some (.int .i64 c_n1) ∧ w'.cell? ⟨w.heap.size, 2, none⟩ = some (.slice c_a2 c_x2.length c_c2) ∧ w'.cell? ⟨w.heap.size, 3, none⟩ = some (.slice c_a3 c_x3.length c_c3))
    (first | go_keep | exact two4 K_X0_10.out K_c_10.out | exact two4 (K_X0_10.out.same hbq) (K_c_10.out.same hbq) | exact two4 ((K_X0_10.out.same hbq).same hbr) ((K_c_10.out.same hbq).same hbr))
    (first | (go_at_call 12; refine (lawTo_Crowd _ _ _ _ _ _ _ _ _ _  A_c_10 (by omega) hl_c_x2 hl_c_x3).mono ?_; rintro e wq ⟨v0_Y0, v1_Y0, v2_Y0, v3_Y0, rfl, oq, hbq⟩) | (go_at_call 15; have SQ := hbq.size; refine (lawEq_Crowd _ _ _ _ _ _ _ _ _ _ _ _ _ _ _  ((X0_10.keep hbq).rd) (oq.rd) (by omega) (by omega) hl_c_x2 hl_c_x3).mono ?_; rintro e wr ⟨rfl, hbr⟩))
  clear q0_0 q0_1 q0_2 q0_3 q1_0 q1_1 q1_2 q1_3
  have hb11 := hbq
  clear hbq oq
  have S11 := hb11.size
  have B11 := below_then B10 hb11
  have A_c_11 := A_c_10.below hb11 (by omega)
  have A_ch_11 := A_ch_10.below hb11 (by omega)
  have K_c_11 := Lib.hid (K_c_10.out.same hb11)
  have V0_11 := V0_10.keep hb11
  have X0_11 := X0_10.keep hb11
  have K_X0_11 := Lib.hid (K_X0_10.out.same hb11)
  have X1_11 := X1_10.keep hb11
  have G0_11 := G0_10.keep hb11
  clear B10 A_c_10 A_ch_10 K_c_10 V0_10 X0_10 K_X0_10 X1_10 G0_10 hb11
  have hb12 := hbr
  clear hbr
  have S12 := hb12.size
  have B12 := below_then B11 hb12
  have A_c_12 := A_c_11.below hb12 (by omega)
  have A_ch_12 := A_ch_11.below hb12 (by omega)
  have K_c_12 := Lib.hid (K_c_11.out.same hb12)
  have V0_12 := V0_11.keep hb12
  have X0_12 := X0_11.keep hb12
  have K_X0_12 := Lib.hid (K_X0_11.out.same hb12)
  have X1_12 := X1_11.keep hb12
  have G0_12 := G0_11.keep hb12
  clear B11 A_c_11 A_ch_11 K_c_11 V0_11 X0_11 K_X0_11 X1_11 G0_11 hb12
  obtain ⟨q0_0, q0_1, q0_2, q0_3⟩ := cells4 K_c_12.out
  obtain ⟨q1_0, q1_1, q1_2, q1_3⟩ := cells4 K_X0_12.out
  go_wp2_with fail
  refine (lawTo_I _ _ _ _ ch A_ch_12 (by omega) hl_ch).mono ?_
  rintro e w13 ⟨v0_Y1, v1_Y1, rfl, o13, hb13⟩
  clear q0_0 q0_1 q0_2 q0_3 q1_0 q1_1 q1_2 q1_3
  have S13 := hb13.size
  have B13 := below_then B12 hb13
  have A_c_13 := A_c_12.below hb13 (by omega)
  have A_ch_13 := A_ch_12.below hb13 (by omega)
  have K_c_13 := Lib.hid (K_c_12.out.same hb13)
  have V0_13 := V0_12.keep hb13
  have X0_13 := X0_12.keep hb13
  have K_X0_13 := Lib.hid (K_X0_12.out.same hb13)
  have X1_13 := X1_12.keep hb13
  have G0_13 := G0_12.keep hb13
  clear B12 A_c_12 A_ch_12 K_c_12 V0_12 X0_12 K_X0_12 X1_12 G0_12 hb13
  obtain ⟨q0_0, q0_1, q0_2, q0_3⟩ := cells4 K_c_13.out
  obtain ⟨q1_0, q1_1, q1_2, q1_3⟩ := cells4 K_X0_13.out
  go_wp2_with fail
  refine (lawEq_I' _ _ _ _ _ _ _ ch (X1_13.rd) (o13.rd) (by omega) (by omega) (by omega)).mono ?_
  rintro e w14 ⟨rfl, hb14⟩
  clear q0_0 q0_1 q0_2 q0_3 q1_0 q1_1 q1_2 q1_3
  have S14 := hb14.size
  have B14 := below_then B13 hb14
  have A_c_14 := A_c_13.below hb14 (by omega)
  have A_ch_14 := A_ch_13.below hb14 (by omega)
  have K_c_14 := Lib.hid (K_c_13.out.same hb14)
  have V0_14 := V0_13.keep hb14
  have X0_14 := X0_13.keep hb14
  have K_X0_14 := Lib.hid (K_X0_13.out.same hb14)
  have X1_14 := X1_13.keep hb14
  have G0_14 := G0_13.keep hb14
  have Y1_14 := o13.keep hb14
  clear B13 A_c_13 A_ch_13 K_c_13 V0_13 X0_13 K_X0_13 X1_13 G0_13 o13 hb14
  obtain ⟨q0_0, q0_1, q0_2, q0_3⟩ := cells4 K_c_14.out
  obtain ⟨q1_0, q1_1, q1_2, q1_3⟩ := cells4 K_X0_14.out
  go_wp2_with fail
  refine (lawMark_Crowd _ _ _ _ _ _ _ _ _ _ _  _ X0_14 (by omega) hl_c_x2 hl_c_x3 (by omega) (by omega)).mono ?_
  rintro e w15 ⟨rfl, hb15⟩
  clear q0_0 q0_1 q0_2 q0_3 q1_0 q1_1 q1_2 q1_3
  have S15 := hb15.size
  have B15 := below_touch B14 hb15 (by omega) (by omega)
  have A_c_15 := A_c_14.touch hb15 (by omega) (by omega)
  have A_ch_15 := A_ch_14.touch hb15 (by omega) (by omega)
  have K_c_15 := Lib.hid (K_c_14.out.touch hb15 (by omega))
  have V0_15 := V0_14.touch hb15 (by omega)
  have K_X0_15 := Lib.hid (K_X0_14.out.touch hb15 (by omega))
  have X1_15 := X1_14.touch hb15 (by omega)
  have G0_15 := G0_14.touch hb15 (by omega)
  clear B14 A_c_14 A_ch_14 K_c_14 V0_14 K_X0_14 X1_14 G0_14 hb15
  clear X0_14
  obtain ⟨q0_0, q0_1, q0_2, q0_3⟩ := cells4 K_c_15.out
  obtain ⟨q1_0, q1_1, q1_2, q1_3⟩ := cells4 K_X0_15.out
  go_wp2_with fail
  refine (lawMark_I _ _ _ _ _ ch _ X1_15 (by omega) (by omega) (by omega)).mono ?_
  rintro e w16 ⟨rfl, _, hb16⟩
  clear q0_0 q0_1 q0_2 q0_3 q1_0 q1_1 q1_2 q1_3
  have S16 := hb16.size
  have B16 := below_touch B15 hb16 (by omega) (by omega)
  have A_c_16 := A_c_15.touch hb16 (by omega) (by omega)
  have A_ch_16 := A_ch_15.touch hb16 (by omega) (by omega)
  have K_c_16 := Lib.hid (K_c_15.out.touch hb16 (by omega))
  have V0_16 := V0_15.touch hb16 (by omega)
  have K_X0_16 := Lib.hid (K_X0_15.out.touch hb16 (by omega))
  have G0_16 := G0_15.touch hb16 (by omega)
  clear B15 A_c_15 A_ch_15 K_c_15 V0_15 K_X0_15 G0_15 hb16
  clear X1_15
  obtain ⟨q0_0, q0_1, q0_2, q0_3⟩ := cells4 K_c_16.out
  go_wp2_with fail
  refine (lawEq_I' _ _ _ _ _ _ _ r0 (G0_16.rd) (V0_16.rd) (by omega) (by omega) (by omega)).mono ?_
  rintro e w17 ⟨rfl, hb17⟩
  clear q0_0 q0_1 q0_2 q0_3
  have S17 := hb17.size
  have B17 := below_then B16 hb17
  have A_c_17 := A_c_16.below hb17 (by omega)
  have A_ch_17 := A_ch_16.below hb17 (by omega)
  have K_c_17 := Lib.hid (K_c_16.out.same hb17)
  have V0_17 := V0_16.keep hb17
  have G0_17 := G0_16.keep hb17
  clear B16 A_c_16 A_ch_16 K_c_16 V0_16 G0_16 hb17
  obtain ⟨q0_0, q0_1, q0_2, q0_3⟩ := cells4 K_c_17.out
  go_wp2_with fail
  refine (lawMark_I _ _ _ _ _ r0 _ G0_17 (by omega) (by omega) (by omega)).mono ?_
  rintro e w18 ⟨rfl, o18, hb18⟩
  clear q0_0 q0_1 q0_2 q0_3
  have S18 := hb18.size
  have B18 := below_touch B17 hb18 (by omega) (by omega)
  have A_c_18 := A_c_17.touch hb18 (by omega) (by omega)
  have A_ch_18 := A_ch_17.touch hb18 (by omega) (by omega)
  have K_c_18 := Lib.hid (K_c_17.out.touch hb18 (by omega))
  have V0_18 := V0_17.touch hb18 (by omega)
  clear B17 A_c_17 A_ch_17 K_c_17 V0_17 hb18
  clear G0_17
  obtain ⟨q0_0, q0_1, q0_2, q0_3⟩ := cells4 K_c_18.out
  go_wp2_with fail
  refine (lawHeld_I _ _ _ _ r0.length _ o18.rd (by omega) (by omega) (by omega) (by omega)).mono ?_
  rintro e w19 ⟨rfl, hb19⟩
  clear q0_0 q0_1 q0_2 q0_3
  have S19 := hb19.size
  have B19 := below_then B18 hb19
  have A_c_19 := A_c_18.below hb19 (by omega)
  have A_ch_19 := A_ch_18.below hb19 (by omega)
  have K_c_19 := Lib.hid (K_c_18.out.same hb19)
  have V0_19 := V0_18.keep hb19
  have G0_19 := o18.keep hb19
  clear B18 A_c_18 A_ch_18 K_c_18 V0_18 o18 hb19
  obtain ⟨q0_0, q0_1, q0_2, q0_3⟩ := cells4 K_c_19.out
  go_wp2_with fail
  refine (lawTo_Crowd _ _ _ _ _ _ _ _ _ _  A_c_19 (by omega) hl_c_x2 hl_c_x3).mono ?_
  rintro e w20 ⟨v0_Z0, v1_Z0, v2_Z0, v3_Z0, rfl, o20, hb20⟩
  clear q0_0 q0_1 q0_2 q0_3
  have S20 := hb20.size
  have B20 := below_then B19 hb20
  have A_c_20 := A_c_19.below hb20 (by omega)
  have A_ch_20 := A_ch_19.below hb20 (by omega)
  have K_c_20 := Lib.hid (K_c_19.out.same hb20)
  have V0_20 := V0_19.keep hb20
  have G0_20 := G0_19.keep hb20
  clear B19 A_c_19 A_ch_19 K_c_19 V0_19 G0_19 hb20
  obtain ⟨q0_0, q0_1, q0_2, q0_3⟩ := cells4 K_c_20.out
  go_wp2_with fail
  refine (lawTo_I _ _ _ _ ch A_ch_20 (by omega) hl_ch).mono ?_
  rintro e w21 ⟨v0_Z1, v1_Z1, rfl, o21, hb21⟩
  clear q0_0 q0_1 q0_2 q0_3
  have S21 := hb21.size
  have B21 := below_then B20 hb21
  have A_c_21 := A_c_20.below hb21 (by omega)
  have A_ch_21 := A_ch_20.below hb21 (by omega)
  have K_c_21 := Lib.hid (K_c_20.out.same hb21)
  have V0_21 := V0_20.keep hb21
  have G0_21 := G0_20.keep hb21
  have Z0_21 := o20.keep hb21
  clear B20 A_c_20 A_ch_20 K_c_20 V0_20 G0_20 o20 hb21
  obtain ⟨q0_0, q0_1, q0_2, q0_3⟩ := cells4 K_c_21.out
  go_wp2_with fail
  refine (H1.out _ _ _ _ _ _ (Z0_21.rd) (by omega) _ _ _ (o21.rd) (by omega)).mono ?_
  rintro e w22 ⟨a_K0, c_K0, rfl, o22_0, hb22⟩
  clear q0_0 q0_1 q0_2 q0_3
  have S22 := hb22.size
  have B22 := below_then B21 hb22
  have A_c_22 := A_c_21.below hb22 (by omega)
  have A_ch_22 := A_ch_21.below hb22 (by omega)
  have K_c_22 := Lib.hid (K_c_21.out.same hb22)
  have V0_22 := V0_21.keep hb22
  have G0_22 := G0_21.keep hb22
  have Z0_22 := Z0_21.keep hb22
  have Z1_22 := o21.keep hb22
  clear B21 A_c_21 A_ch_21 K_c_21 V0_21 G0_21 Z0_21 o21 hb22
  obtain ⟨q0_0, q0_1, q0_2, q0_3⟩ := cells4 K_c_22.out
  go_wp2_with fail
  refine (lawEq_I' _ _ _ _ _ _ _ r0 (o22_0.rd) (V0_22.rd) (by omega) (by omega) (by omega)).mono ?_
  rintro e w23 ⟨rfl, hb23⟩
  clear q0_0 q0_1 q0_2 q0_3
  have S23 := hb23.size
  have B23 := below_then B22 hb23
  have A_c_23 := A_c_22.below hb23 (by omega)
  have A_ch_23 := A_ch_22.below hb23 (by omega)
  have K_c_23 := Lib.hid (K_c_22.out.same hb23)
  have V0_23 := V0_22.keep hb23
  have G0_23 := G0_22.keep hb23
  have K0_23 := o22_0.keep hb23
  clear B22 A_c_22 A_ch_22 K_c_22 V0_22 G0_22 o22_0 hb23
  obtain ⟨q0_0, q0_1, q0_2, q0_3⟩ := cells4 K_c_23.out
  go_wp2_with fail
  refine (lawHeld_I _ _ _ _ r0.length _ G0_23.rd (by omega) (by omega) (by omega) (by omega)).mono ?_
  rintro e w24 ⟨rfl, hb24⟩
  clear q0_0 q0_1 q0_2 q0_3
  have S24 := hb24.size
  have B24 := below_then B23 hb24
  have A_c_24 := A_c_23.below hb24 (by omega)
  have A_ch_24 := A_ch_23.below hb24 (by omega)
  have K_c_24 := Lib.hid (K_c_23.out.same hb24)
  have V0_24 := V0_23.keep hb24
  have G0_24 := G0_23.keep hb24
  have K0_24 := K0_23.keep hb24
  clear B23 A_c_23 A_ch_23 K_c_23 V0_23 G0_23 K0_23 hb24
  go_wp2_with fail
  go_ret
  exact ⟨rfl, B24⟩

end Go.Proofs.Ytbgclfbhdpgdaaa
