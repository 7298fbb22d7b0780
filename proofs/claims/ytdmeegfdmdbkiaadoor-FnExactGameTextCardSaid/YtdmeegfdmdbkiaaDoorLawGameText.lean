/-
  FnExactGameText answers true: the law's walk.
-/
import Derived.Test.YtdmeegfdmdbkiaaDoorLawInts
import Derived.Test.YtdmeegfdmdbkiaaDoorGameT
import Derived.Test.YtdmeegfdmdbkiaaDoorGameTx
namespace Go.Proofs.YtdmeegfdmdbkiaaDoor
set_option linter.unusedVariables false
set_option linter.unusedSimpArgs false
open Go.RowKit

theorem cells4 {w : World} {g : Nat} {v0 v1 v2 v3 : Value} {t : TypeId} (h : Blk w g [v0, v1, v2, v3] t) : w.cell? ⟨g, 0, none⟩ = some v0 ∧ w.cell? ⟨g, 1, none⟩ = some v1 ∧ w.cell? ⟨g, 2, none⟩ = some v2 ∧ w.cell? ⟨g, 3, none⟩ = some v3 := ⟨h.cell 0, h.cell 1, h.cell 2, h.cell 3⟩
theorem two4 {w : World} {g k : Nat} {v0 v1 v2 v3 u0 u1 u2 u3 : Value} {t s : TypeId} (h : Blk w g [v0, v1, v2, v3] t) (h2 : Blk w k [u0, u1, u2, u3] s) : w.cell? ⟨g, 0, none⟩ = some v0 ∧ w.cell? ⟨g, 1, none⟩ = some v1 ∧ w.cell? ⟨g, 2, none⟩ = some v2 ∧ w.cell? ⟨g, 3, none⟩ = some v3 ∧ w.cell? ⟨k, 0, none⟩ = some u0 ∧ w.cell? ⟨k, 1, none⟩ = some u1 ∧ w.cell? ⟨k, 2, none⟩ = some u2 ∧ w.cell? ⟨k, 3, none⟩ = some u3 := ⟨h.cell 0, h.cell 1, h.cell 2, h.cell 3, h2.cell 0, h2.cell 1, h2.cell 2, h2.cell 3⟩
def boxed4 (w : World) (t : TypeId) (v0 v1 v2 v3 : Value) : World := w.alloc (.cells #[v0, v1, v2, v3] t)
theorem box4 (w : World) (t : TypeId) (v0 v1 v2 v3 : Value) : Below w.heap.size w (boxed4 w t v0 v1 v2 v3) ∧ Blk (boxed4 w t v0 v1 v2 v3) w.heap.size [v0, v1, v2, v3] t ∧ (boxed4 w t v0 v1 v2 v3).heap.size = w.heap.size + 1 := ⟨bl1 _ _, Blk.new w [v0, v1, v2, v3] t, by simp [boxed4]⟩

theorem flatI_GameText (w : World) (ht : Tab w) (g_n0 g_n1 : Int) (g_x2 : List Int) (g_x3 : List Int) (hl_g_x2 : g_x2.length ≤ 1048576) (hl_g_x3 : g_x3.length ≤ 1048576) (B_g : Nat) (g_a2 : Option Addr) (g_c2 : Nat) (g_a3 : Option Addr) (g_c3 : Nat) (h_g : RdGame w B_g g_a2 g_x2 g_a3 g_x3) (hB_g : B_g ≤ w.heap.size) :
    Calls Tryd.prog 32 #[.agg #[.int .i64 g_n0, .int .i64 g_n1, .slice g_a2 g_x2.length g_c2, .slice g_a3 g_x3.length g_c3]] w fun e w' => e = .returned (.tuple #[.string (bs ((gameText g_n0 g_n1 g_x2 g_x3).getD [])), .bool ((gameText g_n0 g_n1 g_x2 g_x3).isSome)]) ∧ Below w.heap.size w w' :=
  gameText_any w ht g_n0 g_n1 g_a2 g_c2 g_x2 g_a3 g_c3 g_x3 (h_g.mono hB_g) hl_g_x2 hl_g_x3
theorem flatS_GameText (w : World) (g_n0 g_n1 : Int) (g_x2 : List Int) (g_x3 : List Int) (hl_g_x2 : g_x2.length ≤ 1048576) (hl_g_x3 : g_x3.length ≤ 1048576) (B_g : Nat) (g_a2 : Option Addr) (g_c2 : Nat) (g_a3 : Option Addr) (g_c3 : Nat) (h_g : RdGame w B_g g_a2 g_x2 g_a3 g_x3) (hB_g : B_g ≤ w.heap.size) :
    Calls Tryd.prog 30 #[.agg #[.int .i64 g_n0, .int .i64 g_n1, .slice g_a2 g_x2.length g_c2, .slice g_a3 g_x3.length g_c3]] w fun e w' => e = .returned (.tuple #[.string (bs ((gameText g_n0 g_n1 g_x2 g_x3).getD [])), .bool ((gameText g_n0 g_n1 g_x2 g_x3).isSome)]) ∧ Below w.heap.size w w' :=
  gameTextR_any w g_n0 g_n1 g_a2 g_c2 g_x2 g_a3 g_c3 g_x3 (h_g.mono hB_g) hl_g_x2 hl_g_x3

set_option maxRecDepth 10000 in
set_option maxHeartbeats 8000000 in
theorem law_ExactGameText (w : World) (ht : Tab w) (g_n0 g_n1 : Int) (g_a2 : Option Addr) (g_c2 : Nat) (g_x2 : List Int) (g_a3 : Option Addr) (g_c3 : Nat) (g_x3 : List Int) (h_g : RdGame w w.heap.size g_a2 g_x2 g_a3 g_x3) (hl0_g_x2 : g_x2.length ≤ 9223372036854775807) (hl0_g_x3 : g_x3.length ≤ 9223372036854775807) :
    Calls Tryd.prog 7 #[.agg #[.int .i64 g_n0, .int .i64 g_n1, .slice g_a2 g_x2.length g_c2, .slice g_a3 g_x3.length g_c3]] w fun e w' => e = .returned (.bool true) ∧ Below w.heap.size w w' := by
  have S_g := Lib.hid (fun w' => lawSz_Game w' g_n0 g_n1 g_a2 g_c2 g_x2 g_a3 g_c3 g_x3 1048576 (by omega) (by omega) hl0_g_x2 hl0_g_x3)
  have hs_g := szGameF_spec (left := 1048576) (x2 := g_x2) (x3 := g_x3) (show (0 : Int) ≤ 1048576 by omega)
  generalize szGameF 1048576 g_x2 g_x3 = l_g at *
  obtain ⟨hsa_g, hsb_g, hsc_g⟩ := hs_g
  by_cases hneg_g : l_g < 0
  case pos =>
    clear hsc_g
    go_enter Tryd.func7, Tryd.ntmps7
    go_wp2_with fail
    refine (S_g.out _).mono ?_
    rintro e w_g ⟨rfl, hz_g⟩
    go_wp2_with fail
    go_ret
    first | exact ⟨rfl, hz_g⟩ | exact ⟨rfl, below_then (bl1 _ _) (hz_g)⟩ | exact ⟨rfl, below_then (bl2 _ _ _) (hz_g)⟩
  have hsd_g := hsc_g (by omega)
  have hl_g_x2 : g_x2.length ≤ 1048576 := by omega
  have hl_g_x3 : g_x3.length ≤ 1048576 := by omega
  clear hsc_g hsd_g hl0_g_x2 hl0_g_x3
  have H1 := Lib.hid (fun w' (hb : Below w.heap.size w w') => flatI_GameText w' (ht.to hb) g_n0 g_n1 g_x2 g_x3 hl_g_x2 hl_g_x3)
  have H2 := Lib.hid (fun w' => flatS_GameText w' g_n0 g_n1 g_x2 g_x3 hl_g_x2 hl_g_x3)
  generalize (gameText g_n0 g_n1 g_x2 g_x3).getD [] = r0 at *
  generalize (gameText g_n0 g_n1 g_x2 g_x3).isSome = r1 at *
  have hne1 : (r1 != r1) = false := by simp
  go_enter Tryd.func7, Tryd.ntmps7
  have K_g := Lib.hid (Blk.new (w) [.int .i64 g_n0, .int .i64 g_n1, .slice g_a2 g_x2.length g_c2, .slice g_a3 g_x3.length g_c3] 50)
  have hx0 := bl1 (w) (.cells #[.int .i64 g_n0, .int .i64 g_n1, .slice g_a2 g_x2.length g_c2, .slice g_a3 g_x3.length g_c3] 50)
  have SW0 : w.heap.size < (w.alloc (.cells #[.int .i64 g_n0, .int .i64 g_n1, .slice g_a2 g_x2.length g_c2, .slice g_a3 g_x3.length g_c3] 50)).heap.size := by simp
  have S0 := hx0.size
  have B0 := hx0
  have A_g_0 := h_g.below hx0 (by omega)
  clear h_g hx0
  obtain ⟨q0_0, q0_1, q0_2, q0_3⟩ := cells4 K_g.out
  go_wp2_with fail
  refine (S_g.out _).mono ?_
  rintro e w1 ⟨rfl, hb1⟩
  clear q0_0 q0_1 q0_2 q0_3
  have S1 := hb1.size
  have B1 := below_then B0 hb1
  have A_g_1 := A_g_0.below hb1 (by omega)
  have K_g_1 := Lib.hid (K_g.out.same hb1)
  clear B0 A_g_0 K_g hb1
  obtain ⟨q0_0, q0_1, q0_2, q0_3⟩ := cells4 K_g_1.out
  go_wp2_with fail
  refine (lawTo_Game _ _ _ _ _ _ _ _ _ _  A_g_1 (by omega) hl_g_x2 hl_g_x3).mono ?_
  rintro e w2 ⟨v0_T0, v1_T0, v2_T0, v3_T0, rfl, o2, hb2⟩
  clear q0_0 q0_1 q0_2 q0_3
  have S2 := hb2.size
  have B2 := below_then B1 hb2
  have A_g_2 := A_g_1.below hb2 (by omega)
  have K_g_2 := Lib.hid (K_g_1.out.same hb2)
  clear B1 A_g_1 K_g_1 hb2
  obtain ⟨q0_0, q0_1, q0_2, q0_3⟩ := cells4 K_g_2.out
  go_wp2_with fail
  refine (H2.out _ _ _ _ _ _ (o2.rd) (by omega)).mono ?_
  rintro e w3 ⟨rfl, hb3⟩
  clear q0_0 q0_1 q0_2 q0_3
  have S3 := hb3.size
  have B3 := below_then B2 hb3
  have A_g_3 := A_g_2.below hb3 (by omega)
  have K_g_3 := Lib.hid (K_g_2.out.same hb3)
  have T0_3 := o2.keep hb3
  clear B2 A_g_2 K_g_2 o2 hb3
  obtain ⟨q0_0, q0_1, q0_2, q0_3⟩ := cells4 K_g_3.out
  go_wp2_with fail
  refine (lawTo_Game _ _ _ _ _ _ _ _ _ _  A_g_3 (by omega) hl_g_x2 hl_g_x3).mono ?_
  rintro e w4 ⟨v0_X0, v1_X0, v2_X0, v3_X0, rfl, o4, hb4⟩
  clear q0_0 q0_1 q0_2 q0_3
  have S4 := hb4.size
  have B4 := below_then B3 hb4
  have A_g_4 := A_g_3.below hb4 (by omega)
  have K_g_4 := Lib.hid (K_g_3.out.same hb4)
  clear B3 A_g_3 K_g_3 hb4
  obtain ⟨q0_0, q0_1, q0_2, q0_3⟩ := cells4 K_g_4.out
  go_wp2_with fail
  have M5 := box4 w4 53 (.int .i64 g_n0) (.int .i64 g_n1) (.slice v0_X0 g_x2.length v1_X0) (.slice v2_X0 g_x3.length v3_X0)
  obtain ⟨w5, hW5⟩ : ∃ W, W = boxed4 w4 53 (.int .i64 g_n0) (.int .i64 g_n1) (.slice v0_X0 g_x2.length v1_X0) (.slice v2_X0 g_x3.length v3_X0) := ⟨_, rfl⟩
  rw [← hW5] at M5
  simp only [boxed4] at hW5
  try rw [← hW5]
  clear hW5
  obtain ⟨hb5, KX, SX5⟩ := M5
  have K_X0 := Lib.hid KX
  clear KX
  have S5 := hb5.size
  have B5 := below_then B4 hb5
  have A_g_5 := A_g_4.below hb5 (by omega)
  have K_g_5 := Lib.hid (K_g_4.out.same hb5)
  have X0_5 := o4.keep hb5
  clear B4 A_g_4 K_g_4 o4 hb5
  refine (H1.out _ B5 _ _ _ _ _ (X0_5.rd) (by omega)).mono ?_
  rintro e w6 ⟨rfl, hb6⟩
  clear q0_0 q0_1 q0_2 q0_3
  have S6 := hb6.size
  have B6 := below_then B5 hb6
  have A_g_6 := A_g_5.below hb6 (by omega)
  have K_g_6 := Lib.hid (K_g_5.out.same hb6)
  have X0_6 := X0_5.keep hb6
  have K_X0_6 := Lib.hid (K_X0.out.same hb6)
  clear B5 A_g_5 K_g_5 X0_5 K_X0 hb6
  obtain ⟨q0_0, q0_1, q0_2, q0_3⟩ := cells4 K_g_6.out
  obtain ⟨q1_0, q1_1, q1_2, q1_3⟩ := cells4 K_X0_6.out
  go_wp2_with fail
  have hb7 := below_drew' (Below.refl w6.heap.size w6)
  have S7 := hb7.size
  have B7 := below_then B6 hb7
  have A_g_7 := A_g_6.below hb7 (by omega)
  have K_g_7 := Lib.hid (K_g_6.out.same hb7)
  have X0_7 := X0_6.keep hb7
  have K_X0_7 := Lib.hid (K_X0_6.out.same hb7)
  clear B6 A_g_6 K_g_6 X0_6 K_X0_6 hb7
  go_region_held3 (fun w' => w'.cell? ⟨w4.heap.size, 0, none⟩ = some (.int .i64 g_n0) ∧ w'.cell? ⟨w4.heap.size, 1, none⟩ = some (.int .i64 g_n1) ∧ w'.cell? ⟨w4.heap.size, 2, none⟩ = some (.slice v0_X0 g_x2.length v1_X0) ∧ w'.cell? ⟨w4.heap.size, 3, none⟩ = some (.slice v2_X0 g_x3.length v3_X0) ∧ w'.cell? ⟨w.heap.size, 0, none⟩ = some (.int .i64 g_n0) ∧ w'.cell? ⟨w.heap.size, 1, none⟩ = some (.int .i64 g_n1) ∧ w'.cell? ⟨w.heap.size, 2, none⟩ = some (.slice g_a2 g_x2.length g_c2) ∧ w'.cell? ⟨w.heap.size, 3, none⟩ = some (.slice g_a3 g_x3.length g_c3))
    (first | go_keep | exact two4 K_X0_7.out K_g_7.out | exact two4 (K_X0_7.out.same hbq) (K_g_7.out.same hbq) | exact two4 ((K_X0_7.out.same hbq).same hbr) ((K_g_7.out.same hbq).same hbr))
    (first | (go_at_call 31; refine (lawTo_Game _ _ _ _ _ _ _ _ _ _  A_g_7 (by omega) hl_g_x2 hl_g_x3).mono ?_; rintro e wq ⟨v0_Y0, v1_Y0, v2_Y0, v3_Y0, rfl, oq, hbq⟩) | (go_at_call 33; have SQ := hbq.size; refine (lawEq_Game _ _ _ _ _ _ _ _ _ _ _ _ _ _ _  ((X0_7.keep hbq).rd) (oq.rd) (by omega) (by omega) hl_g_x2 hl_g_x3).mono ?_; rintro e wr ⟨rfl, hbr⟩))
  clear q0_0 q0_1 q0_2 q0_3 q1_0 q1_1 q1_2 q1_3
  have hb8 := hbq
  clear hbq oq
  have S8 := hb8.size
  have B8 := below_then B7 hb8
  have A_g_8 := A_g_7.below hb8 (by omega)
  have K_g_8 := Lib.hid (K_g_7.out.same hb8)
  have X0_8 := X0_7.keep hb8
  have K_X0_8 := Lib.hid (K_X0_7.out.same hb8)
  clear B7 A_g_7 K_g_7 X0_7 K_X0_7 hb8
  have hb9 := hbr
  clear hbr
  have S9 := hb9.size
  have B9 := below_then B8 hb9
  have A_g_9 := A_g_8.below hb9 (by omega)
  have K_g_9 := Lib.hid (K_g_8.out.same hb9)
  have X0_9 := X0_8.keep hb9
  have K_X0_9 := Lib.hid (K_X0_8.out.same hb9)
  clear B8 A_g_8 K_g_8 X0_8 K_X0_8 hb9
  go_wp2_with fail
  go_ret
  exact ⟨rfl, B9⟩

end Go.Proofs.YtdmeegfdmdbkiaaDoor
