/-
  FnExactCrowdText answers true: the law's walk.
-/
import Derived.Test.YtdmeegfdmdbkiaaDoorLawInts
import Derived.Test.YtdmeegfdmdbkiaaDoorCrowdT
import Derived.Test.YtdmeegfdmdbkiaaDoorCrowdTx
namespace Go.Proofs.YtdmeegfdmdbkiaaDoor
set_option linter.unusedVariables false
set_option linter.unusedSimpArgs false
open Go.RowKit

theorem cells4 {w : World} {g : Nat} {v0 v1 v2 v3 : Value} {t : TypeId} (h : Blk w g [v0, v1, v2, v3] t) : w.cell? ⟨g, 0, none⟩ = some v0 ∧ w.cell? ⟨g, 1, none⟩ = some v1 ∧ w.cell? ⟨g, 2, none⟩ = some v2 ∧ w.cell? ⟨g, 3, none⟩ = some v3 := ⟨h.cell 0, h.cell 1, h.cell 2, h.cell 3⟩
theorem two4 {w : World} {g k : Nat} {v0 v1 v2 v3 u0 u1 u2 u3 : Value} {t s : TypeId} (h : Blk w g [v0, v1, v2, v3] t) (h2 : Blk w k [u0, u1, u2, u3] s) : w.cell? ⟨g, 0, none⟩ = some v0 ∧ w.cell? ⟨g, 1, none⟩ = some v1 ∧ w.cell? ⟨g, 2, none⟩ = some v2 ∧ w.cell? ⟨g, 3, none⟩ = some v3 ∧ w.cell? ⟨k, 0, none⟩ = some u0 ∧ w.cell? ⟨k, 1, none⟩ = some u1 ∧ w.cell? ⟨k, 2, none⟩ = some u2 ∧ w.cell? ⟨k, 3, none⟩ = some u3 := ⟨h.cell 0, h.cell 1, h.cell 2, h.cell 3, h2.cell 0, h2.cell 1, h2.cell 2, h2.cell 3⟩
def boxed4 (w : World) (t : TypeId) (v0 v1 v2 v3 : Value) : World := w.alloc (.cells #[v0, v1, v2, v3] t)
theorem box4 (w : World) (t : TypeId) (v0 v1 v2 v3 : Value) : Below w.heap.size w (boxed4 w t v0 v1 v2 v3) ∧ Blk (boxed4 w t v0 v1 v2 v3) w.heap.size [v0, v1, v2, v3] t ∧ (boxed4 w t v0 v1 v2 v3).heap.size = w.heap.size + 1 := ⟨bl1 _ _, Blk.new w [v0, v1, v2, v3] t, by simp [boxed4]⟩

theorem flatI_CrowdText (w : World) (ht : Tab w) (c_n0 c_n1 : Int) (c_x2 : List Int) (c_x3 : List Int) (hl_c_x2 : c_x2.length ≤ 1048576) (hl_c_x3 : c_x3.length ≤ 1048576) (B_c : Nat) (c_a2 : Option Addr) (c_c2 : Nat) (c_a3 : Option Addr) (c_c3 : Nat) (h_c : RdCrowd w B_c c_a2 c_x2 c_a3 c_x3) (hB_c : B_c ≤ w.heap.size) :
    Calls Tryd.prog 27 #[.agg #[.int .i64 c_n0, .int .i64 c_n1, .slice c_a2 c_x2.length c_c2, .slice c_a3 c_x3.length c_c3]] w fun e w' => e = .returned (.tuple #[.string (bs ((crowdText c_n0 c_n1 c_x2 c_x3).getD [])), .bool ((crowdText c_n0 c_n1 c_x2 c_x3).isSome)]) ∧ Below w.heap.size w w' :=
  crowdText_any w ht c_n0 c_n1 c_a2 c_c2 c_x2 c_a3 c_c3 c_x3 (h_c.mono hB_c) hl_c_x2 hl_c_x3
theorem flatS_CrowdText (w : World) (c_n0 c_n1 : Int) (c_x2 : List Int) (c_x3 : List Int) (hl_c_x2 : c_x2.length ≤ 1048576) (hl_c_x3 : c_x3.length ≤ 1048576) (B_c : Nat) (c_a2 : Option Addr) (c_c2 : Nat) (c_a3 : Option Addr) (c_c3 : Nat) (h_c : RdCrowd w B_c c_a2 c_x2 c_a3 c_x3) (hB_c : B_c ≤ w.heap.size) :
    Calls Tryd.prog 25 #[.agg #[.int .i64 c_n0, .int .i64 c_n1, .slice c_a2 c_x2.length c_c2, .slice c_a3 c_x3.length c_c3]] w fun e w' => e = .returned (.tuple #[.string (bs ((crowdText c_n0 c_n1 c_x2 c_x3).getD [])), .bool ((crowdText c_n0 c_n1 c_x2 c_x3).isSome)]) ∧ Below w.heap.size w w' :=
  crowdTextR_any w c_n0 c_n1 c_a2 c_c2 c_x2 c_a3 c_c3 c_x3 (h_c.mono hB_c) hl_c_x2 hl_c_x3

set_option maxRecDepth 10000 in
set_option maxHeartbeats 8000000 in
theorem law_ExactCrowdText (w : World) (ht : Tab w) (c_n0 c_n1 : Int) (c_a2 : Option Addr) (c_c2 : Nat) (c_x2 : List Int) (c_a3 : Option Addr) (c_c3 : Nat) (c_x3 : List Int) (h_c : RdCrowd w w.heap.size c_a2 c_x2 c_a3 c_x3) (hl0_c_x2 : c_x2.length ≤ 9223372036854775807) (hl0_c_x3 : c_x3.length ≤ 9223372036854775807) :
    Calls Tryd.prog 6 #[.agg #[.int .i64 c_n0, .int .i64 c_n1, .slice c_a2 c_x2.length c_c2, .slice c_a3 c_x3.length c_c3]] w fun e w' => e = .returned (.bool true) ∧ Below w.heap.size w w' := by
  have S_c := Lib.hid (fun w' => lawSz_Crowd w' c_n0 c_n1 c_a2 c_c2 c_x2 c_a3 c_c3 c_x3 1048576 (by omega) (by omega) hl0_c_x2 hl0_c_x3)
  have hs_c := szCrowdF_spec (left := 1048576) (x2 := c_x2) (x3 := c_x3) (show (0 : Int) ≤ 1048576 by omega)
  generalize szCrowdF 1048576 c_x2 c_x3 = l_c at *
  obtain ⟨hsa_c, hsb_c, hsc_c⟩ := hs_c
  by_cases hneg_c : l_c < 0
  case pos =>
    clear hsc_c
    go_enter Tryd.func6, Tryd.ntmps6
    go_wp2_with fail
    refine (S_c.out _).mono ?_
    rintro e w_c ⟨rfl, hz_c⟩
    go_wp2_with fail
    go_ret
    first | exact ⟨rfl, hz_c⟩ | exact ⟨rfl, below_then (bl1 _ _) (hz_c)⟩ | exact ⟨rfl, below_then (bl2 _ _ _) (hz_c)⟩
  have hsd_c := hsc_c (by omega)
  have hl_c_x2 : c_x2.length ≤ 1048576 := by omega
  have hl_c_x3 : c_x3.length ≤ 1048576 := by omega
  clear hsc_c hsd_c hl0_c_x2 hl0_c_x3
  have H1 := Lib.hid (fun w' (hb : Below w.heap.size w w') => flatI_CrowdText w' (ht.to hb) c_n0 c_n1 c_x2 c_x3 hl_c_x2 hl_c_x3)
  have H2 := Lib.hid (fun w' => flatS_CrowdText w' c_n0 c_n1 c_x2 c_x3 hl_c_x2 hl_c_x3)
  generalize (crowdText c_n0 c_n1 c_x2 c_x3).getD [] = r0 at *
  generalize (crowdText c_n0 c_n1 c_x2 c_x3).isSome = r1 at *
  have hne1 : (r1 != r1) = false := by simp
  go_enter Tryd.func6, Tryd.ntmps6
  have K_c := Lib.hid (Blk.new (w) [.int .i64 c_n0, .int .i64 c_n1, .slice c_a2 c_x2.length c_c2, .slice c_a3 c_x3.length c_c3] 42)
  have hx0 := bl1 (w) (.cells #[.int .i64 c_n0, .int .i64 c_n1, .slice c_a2 c_x2.length c_c2, .slice c_a3 c_x3.length c_c3] 42)
  have SW0 : w.heap.size < (w.alloc (.cells #[.int .i64 c_n0, .int .i64 c_n1, .slice c_a2 c_x2.length c_c2, .slice c_a3 c_x3.length c_c3] 42)).heap.size := by simp
  have S0 := hx0.size
  have B0 := hx0
  have A_c_0 := h_c.below hx0 (by omega)
  clear h_c hx0
  obtain ⟨q0_0, q0_1, q0_2, q0_3⟩ := cells4 K_c.out
  go_wp2_with fail
  refine (S_c.out _).mono ?_
  rintro e w1 ⟨rfl, hb1⟩
  clear q0_0 q0_1 q0_2 q0_3
  have S1 := hb1.size
  have B1 := below_then B0 hb1
  have A_c_1 := A_c_0.below hb1 (by omega)
  have K_c_1 := Lib.hid (K_c.out.same hb1)
  clear B0 A_c_0 K_c hb1
  obtain ⟨q0_0, q0_1, q0_2, q0_3⟩ := cells4 K_c_1.out
  go_wp2_with fail
  refine (lawTo_Crowd _ _ _ _ _ _ _ _ _ _  A_c_1 (by omega) hl_c_x2 hl_c_x3).mono ?_
  rintro e w2 ⟨v0_T0, v1_T0, v2_T0, v3_T0, rfl, o2, hb2⟩
  clear q0_0 q0_1 q0_2 q0_3
  have S2 := hb2.size
  have B2 := below_then B1 hb2
  have A_c_2 := A_c_1.below hb2 (by omega)
  have K_c_2 := Lib.hid (K_c_1.out.same hb2)
  clear B1 A_c_1 K_c_1 hb2
  obtain ⟨q0_0, q0_1, q0_2, q0_3⟩ := cells4 K_c_2.out
  go_wp2_with fail
  refine (H2.out _ _ _ _ _ _ (o2.rd) (by omega)).mono ?_
  rintro e w3 ⟨rfl, hb3⟩
  clear q0_0 q0_1 q0_2 q0_3
  have S3 := hb3.size
  have B3 := below_then B2 hb3
  have A_c_3 := A_c_2.below hb3 (by omega)
  have K_c_3 := Lib.hid (K_c_2.out.same hb3)
  have T0_3 := o2.keep hb3
  clear B2 A_c_2 K_c_2 o2 hb3
  obtain ⟨q0_0, q0_1, q0_2, q0_3⟩ := cells4 K_c_3.out
  go_wp2_with fail
  refine (lawTo_Crowd _ _ _ _ _ _ _ _ _ _  A_c_3 (by omega) hl_c_x2 hl_c_x3).mono ?_
  rintro e w4 ⟨v0_X0, v1_X0, v2_X0, v3_X0, rfl, o4, hb4⟩
  clear q0_0 q0_1 q0_2 q0_3
  have S4 := hb4.size
  have B4 := below_then B3 hb4
  have A_c_4 := A_c_3.below hb4 (by omega)
  have K_c_4 := Lib.hid (K_c_3.out.same hb4)
  clear B3 A_c_3 K_c_3 hb4
  obtain ⟨q0_0, q0_1, q0_2, q0_3⟩ := cells4 K_c_4.out
  go_wp2_with fail
  have M5 := box4 w4 45 (.int .i64 c_n0) (.int .i64 c_n1) (.slice v0_X0 c_x2.length v1_X0) (.slice v2_X0 c_x3.length v3_X0)
  obtain ⟨w5, hW5⟩ : ∃ W, W = boxed4 w4 45 (.int .i64 c_n0) (.int .i64 c_n1) (.slice v0_X0 c_x2.length v1_X0) (.slice v2_X0 c_x3.length v3_X0) := ⟨_, rfl⟩
  rw [← hW5] at M5
  simp only [boxed4] at hW5
  try rw [← hW5]
  clear hW5
  obtain ⟨hb5, KX, SX5⟩ := M5
  have K_X0 := Lib.hid KX
  clear KX
  have S5 := hb5.size
  have B5 := below_then B4 hb5
  have A_c_5 := A_c_4.below hb5 (by omega)
  have K_c_5 := Lib.hid (K_c_4.out.same hb5)
  have X0_5 := o4.keep hb5
  clear B4 A_c_4 K_c_4 o4 hb5
  refine (H1.out _ B5 _ _ _ _ _ (X0_5.rd) (by omega)).mono ?_
  rintro e w6 ⟨rfl, hb6⟩
  clear q0_0 q0_1 q0_2 q0_3
  have S6 := hb6.size
  have B6 := below_then B5 hb6
  have A_c_6 := A_c_5.below hb6 (by omega)
  have K_c_6 := Lib.hid (K_c_5.out.same hb6)
  have X0_6 := X0_5.keep hb6
  have K_X0_6 := Lib.hid (K_X0.out.same hb6)
  clear B5 A_c_5 K_c_5 X0_5 K_X0 hb6
  obtain ⟨q0_0, q0_1, q0_2, q0_3⟩ := cells4 K_c_6.out
  obtain ⟨q1_0, q1_1, q1_2, q1_3⟩ := cells4 K_X0_6.out
  go_wp2_with fail
  have hb7 := below_drew' (Below.refl w6.heap.size w6)
  have S7 := hb7.size
  have B7 := below_then B6 hb7
  have A_c_7 := A_c_6.below hb7 (by omega)
  have K_c_7 := Lib.hid (K_c_6.out.same hb7)
  have X0_7 := X0_6.keep hb7
  have K_X0_7 := Lib.hid (K_X0_6.out.same hb7)
  clear B6 A_c_6 K_c_6 X0_6 K_X0_6 hb7
  go_region_held3 (fun w' => w'.cell? ⟨w4.heap.size, 0, none⟩ = some (.int .i64 c_n0) ∧ w'.cell? ⟨w4.heap.size, 1, none⟩ = some (.int .i64 c_n1) ∧ w'.cell? ⟨w4.heap.size, 2, none⟩ = some (.slice v0_X0 c_x2.length v1_X0) ∧ w'.cell? ⟨w4.heap.size, 3, none⟩ = some (.slice v2_X0 c_x3.length v3_X0) ∧ w'.cell? ⟨w.heap.size, 0, none⟩ = some (.int .i64 c_n0) ∧ w'.cell? ⟨w.heap.size, 1, none⟩ = some (.int .i64 c_n1) ∧ w'.cell? ⟨w.heap.size, 2, none⟩ = some (.slice c_a2 c_x2.length c_c2) ∧ w'.cell? ⟨w.heap.size, 3, none⟩ = some (.slice c_a3 c_x3.length c_c3))
    (first | go_keep | exact two4 K_X0_7.out K_c_7.out | exact two4 (K_X0_7.out.same hbq) (K_c_7.out.same hbq) | exact two4 ((K_X0_7.out.same hbq).same hbr) ((K_c_7.out.same hbq).same hbr))
    (first | (go_at_call 26; refine (lawTo_Crowd _ _ _ _ _ _ _ _ _ _  A_c_7 (by omega) hl_c_x2 hl_c_x3).mono ?_; rintro e wq ⟨v0_Y0, v1_Y0, v2_Y0, v3_Y0, rfl, oq, hbq⟩) | (go_at_call 28; have SQ := hbq.size; refine (lawEq_Crowd _ _ _ _ _ _ _ _ _ _ _ _ _ _ _  ((X0_7.keep hbq).rd) (oq.rd) (by omega) (by omega) hl_c_x2 hl_c_x3).mono ?_; rintro e wr ⟨rfl, hbr⟩))
  clear q0_0 q0_1 q0_2 q0_3 q1_0 q1_1 q1_2 q1_3
  have hb8 := hbq
  clear hbq oq
  have S8 := hb8.size
  have B8 := below_then B7 hb8
  have A_c_8 := A_c_7.below hb8 (by omega)
  have K_c_8 := Lib.hid (K_c_7.out.same hb8)
  have X0_8 := X0_7.keep hb8
  have K_X0_8 := Lib.hid (K_X0_7.out.same hb8)
  clear B7 A_c_7 K_c_7 X0_7 K_X0_7 hb8
  have hb9 := hbr
  clear hbr
  have S9 := hb9.size
  have B9 := below_then B8 hb9
  have A_c_9 := A_c_8.below hb9 (by omega)
  have K_c_9 := Lib.hid (K_c_8.out.same hb9)
  have X0_9 := X0_8.keep hb9
  have K_X0_9 := Lib.hid (K_X0_8.out.same hb9)
  clear B8 A_c_8 K_c_8 X0_8 K_X0_8 hb9
  go_wp2_with fail
  go_ret
  exact ⟨rfl, B9⟩

end Go.Proofs.YtdmeegfdmdbkiaaDoor
