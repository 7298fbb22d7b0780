/-
  FnExactSchoolBlock answers true: the law's walk.
-/
import Derived.Test.YtdipckpcmnhpjaaLawInts
import Derived.Test.YtdipckpcmnhpjaaWishesT
import Derived.Test.YtdipckpcmnhpjaaMatSR
namespace Go.Proofs.Ytdipckpcmnhpjaa
set_option linter.unusedVariables false
set_option linter.unusedSimpArgs false
open Go.RowKit

theorem cells2 {w : World} {g : Nat} {v0 v1 : Value} {t : TypeId} (h : Blk w g [v0, v1] t) : w.cell? ⟨g, 0, none⟩ = some v0 ∧ w.cell? ⟨g, 1, none⟩ = some v1 := ⟨h.cell 0, h.cell 1⟩
theorem two2 {w : World} {g k : Nat} {v0 v1 u0 u1 : Value} {t s : TypeId} (h : Blk w g [v0, v1] t) (h2 : Blk w k [u0, u1] s) : w.cell? ⟨g, 0, none⟩ = some v0 ∧ w.cell? ⟨g, 1, none⟩ = some v1 ∧ w.cell? ⟨k, 0, none⟩ = some u0 ∧ w.cell? ⟨k, 1, none⟩ = some u1 := ⟨h.cell 0, h.cell 1, h2.cell 0, h2.cell 1⟩
def boxed2 (w : World) (t : TypeId) (v0 v1 : Value) : World := w.alloc (.cells #[v0, v1] t)
theorem box2 (w : World) (t : TypeId) (v0 v1 : Value) : Below w.heap.size w (boxed2 w t v0 v1) ∧ Blk (boxed2 w t v0 v1) w.heap.size [v0, v1] t ∧ (boxed2 w t v0 v1).heap.size = w.heap.size + 1 := ⟨bl1 _ _, Blk.new w [v0, v1] t, by simp [boxed2]⟩

theorem flatI_SchoolBlock (w : World) (ws_x0 : List (List Int)) (ws_x1 : List (List Int)) (hl_ws_x0 : ws_x0.length ≤ 1048576) (hin_ws_x0 : ∀ y ∈ ws_x0, y.length ≤ 1048576) (hl_ws_x1 : ws_x1.length ≤ 1048576) (hin_ws_x1 : ∀ y ∈ ws_x1, y.length ≤ 1048576) (s : List Int) (hl_s : s.length ≤ 1048576) (m : List Int) (hl_m : m.length ≤ 1048576) (B_ws : Nat) (ws_a0 : Option Addr) (ws_c0 : Nat) (ws_a1 : Option Addr) (ws_c1 : Nat) (h_ws : RdWishes w B_ws ws_a0 ws_x0 ws_a1 ws_x1) (hB_ws : B_ws ≤ w.heap.size) (B_s : Nat) (a_s : Option Addr) (c_s : Nat) (h_s : Rd w B_s a_s (ints s)) (hB_s : B_s ≤ w.heap.size) (B_m : Nat) (a_m : Option Addr) (c_m : Nat) (h_m : Rd w B_m a_m (ints m)) (hB_m : B_m ≤ w.heap.size) :
    Calls Try.prog 27 #[.agg #[.slice ws_a0 ws_x0.length ws_c0, .slice ws_a1 ws_x1.length ws_c1], .slice a_s s.length c_s, .slice a_m m.length c_m] w fun e w' => e = .returned (.tuple #[.int .i64 (bA (schoolF ⟨ws_x0, ws_x1⟩ s m)), .int .i64 (bZ (schoolF ⟨ws_x0, ws_x1⟩ s m)), .bool ((schoolF ⟨ws_x0, ws_x1⟩ s m).isSome)]) ∧ Below w.heap.size w w' :=
  school_any w ws_a0 ws_c0 ws_x0 ws_a1 ws_c1 ws_x1 a_s c_s s a_m c_m m (h_ws.mono hB_ws) hl_ws_x0 hin_ws_x0 hl_ws_x1 hin_ws_x1 (h_s.mono hB_s) hl_s (h_m.mono hB_m) hl_m
theorem flatS_SchoolBlock (w : World) (ws_x0 : List (List Int)) (ws_x1 : List (List Int)) (hl_ws_x0 : ws_x0.length ≤ 1048576) (hin_ws_x0 : ∀ y ∈ ws_x0, y.length ≤ 1048576) (hl_ws_x1 : ws_x1.length ≤ 1048576) (hin_ws_x1 : ∀ y ∈ ws_x1, y.length ≤ 1048576) (s : List Int) (hl_s : s.length ≤ 1048576) (m : List Int) (hl_m : m.length ≤ 1048576) (B_ws : Nat) (ws_a0 : Option Addr) (ws_c0 : Nat) (ws_a1 : Option Addr) (ws_c1 : Nat) (h_ws : RdWishes w B_ws ws_a0 ws_x0 ws_a1 ws_x1) (hB_ws : B_ws ≤ w.heap.size) (B_s : Nat) (a_s : Option Addr) (c_s : Nat) (h_s : Rd w B_s a_s (ints s)) (hB_s : B_s ≤ w.heap.size) (B_m : Nat) (a_m : Option Addr) (c_m : Nat) (h_m : Rd w B_m a_m (ints m)) (hB_m : B_m ≤ w.heap.size) :
    Calls Try.prog 26 #[.agg #[.slice ws_a0 ws_x0.length ws_c0, .slice ws_a1 ws_x1.length ws_c1], .slice a_s s.length c_s, .slice a_m m.length c_m] w fun e w' => e = .returned (.tuple #[.int .i64 (bA (schoolF ⟨ws_x0, ws_x1⟩ s m)), .int .i64 (bZ (schoolF ⟨ws_x0, ws_x1⟩ s m)), .bool ((schoolF ⟨ws_x0, ws_x1⟩ s m).isSome)]) ∧ Below w.heap.size w w' :=
  schoolR_any w ws_a0 ws_c0 ws_x0 ws_a1 ws_c1 ws_x1 a_s c_s s a_m c_m m (h_ws.mono hB_ws) hl_ws_x0 hin_ws_x0 hl_ws_x1 hin_ws_x1 (h_s.mono hB_s) hl_s (h_m.mono hB_m) hl_m

set_option maxRecDepth 10000 in
set_option maxHeartbeats 8000000 in
theorem law_ExactSchoolBlock (w : World) (ws_a0 : Option Addr) (ws_c0 : Nat) (ws_x0 : List (List Int)) (ws_a1 : Option Addr) (ws_c1 : Nat) (ws_x1 : List (List Int)) (a_s : Option Addr) (c_s : Nat) (s : List Int) (a_m : Option Addr) (c_m : Nat) (m : List Int) (h_ws : RdWishes w w.heap.size ws_a0 ws_x0 ws_a1 ws_x1) (hl0_ws_x0 : ws_x0.length ≤ 9223372036854775807) (hin0_ws_x0 : ∀ y ∈ ws_x0, y.length ≤ 9223372036854775807) (hl0_ws_x1 : ws_x1.length ≤ 9223372036854775807) (hin0_ws_x1 : ∀ y ∈ ws_x1, y.length ≤ 9223372036854775807) (h_s : Rd w w.heap.size a_s (ints s))  (h_m : Rd w w.heap.size a_m (ints m))  :
    Calls Try.prog 6 #[.agg #[.slice ws_a0 ws_x0.length ws_c0, .slice ws_a1 ws_x1.length ws_c1], .slice a_s s.length c_s, .slice a_m m.length c_m] w fun e w' => e = .returned (.bool true) ∧ Below w.heap.size w w' := by
  by_cases hl_s : s.length ≤ 1048576
  case neg =>
    go_enter Try.func6, Try.ntmps6
    go_wp2_with fail
    go_ret
    first | exact ⟨rfl, Below.refl _ _⟩ | exact ⟨rfl, bl1 _ _⟩ | exact ⟨rfl, bl2 _ _ _⟩
  by_cases hl_m : m.length ≤ 1048576
  case neg =>
    go_enter Try.func6, Try.ntmps6
    go_wp2_with fail
    go_ret
    first | exact ⟨rfl, Below.refl _ _⟩ | exact ⟨rfl, bl1 _ _⟩ | exact ⟨rfl, bl2 _ _ _⟩
  have S_ws := Lib.hid (fun w' hb => lawSz_Wishes w' ws_a0 ws_c0 ws_x0 ws_a1 ws_c1 ws_x1 1048576 (by omega) (by omega) hl0_ws_x0 hin0_ws_x0 hl0_ws_x1 hin0_ws_x1 (h_ws.to hb))
  have hs_ws := szWishesF_spec (left := 1048576) (x0 := ws_x0) (x1 := ws_x1) (show (0 : Int) ≤ 1048576 by omega)
  generalize szWishesF 1048576 ws_x0 ws_x1 = l_ws at *
  obtain ⟨hsa_ws, hsb_ws, hsc_ws⟩ := hs_ws
  by_cases hneg_ws : l_ws < 0
  case pos =>
    clear hsc_ws
    go_enter Try.func6, Try.ntmps6
    go_wp2_with fail
    refine (S_ws.out _ (by first | exact bl1 _ _ | exact bl2 _ _ _)).mono ?_
    rintro e w_ws ⟨rfl, hz_ws⟩
    go_wp2_with fail
    go_ret
    first | exact ⟨rfl, hz_ws⟩ | exact ⟨rfl, below_then (bl1 _ _) (hz_ws)⟩ | exact ⟨rfl, below_then (bl2 _ _ _) (hz_ws)⟩
  have hsd_ws := hsc_ws (by omega)
  obtain ⟨hsd_ws_0, hsi_ws_0, hsd_ws_1, hsi_ws_1⟩ := hsd_ws
  have hl_ws_x0 : ws_x0.length ≤ 1048576 := by omega
  have hin_ws_x0 : Hid (∀ y ∈ ws_x0, y.length ≤ 1048576) := fun y hy => by have := hsi_ws_0 y hy; omega
  have hl_ws_x1 : ws_x1.length ≤ 1048576 := by omega
  have hin_ws_x1 : Hid (∀ y ∈ ws_x1, y.length ≤ 1048576) := fun y hy => by have := hsi_ws_1 y hy; omega
  clear hsc_ws hl0_ws_x0 hsd_ws_0 hin0_ws_x0 hsi_ws_0 hl0_ws_x1 hsd_ws_1 hin0_ws_x1 hsi_ws_1
  have H1 := Lib.hid (fun w' => flatI_SchoolBlock w' ws_x0 ws_x1 hl_ws_x0 hin_ws_x0.out hl_ws_x1 hin_ws_x1.out s hl_s m hl_m)
  have H2 := Lib.hid (fun w' => flatS_SchoolBlock w' ws_x0 ws_x1 hl_ws_x0 hin_ws_x0.out hl_ws_x1 hin_ws_x1.out s hl_s m hl_m)
  generalize bA (schoolF ⟨ws_x0, ws_x1⟩ s m) = r0 at *
  generalize bZ (schoolF ⟨ws_x0, ws_x1⟩ s m) = r1 at *
  generalize (schoolF ⟨ws_x0, ws_x1⟩ s m).isSome = r2 at *
  have hne0 : (r0 != r0) = false := by simp
  have hne1 : (r1 != r1) = false := by simp
  have hne2 : (r2 != r2) = false := by simp
  go_enter Try.func6, Try.ntmps6
  have K_ws := Lib.hid (Blk.new (w) [.slice ws_a0 ws_x0.length ws_c0, .slice ws_a1 ws_x1.length ws_c1] 24)
  have hx0 := bl1 (w) (.cells #[.slice ws_a0 ws_x0.length ws_c0, .slice ws_a1 ws_x1.length ws_c1] 24)
  have SW0 : w.heap.size < (w.alloc (.cells #[.slice ws_a0 ws_x0.length ws_c0, .slice ws_a1 ws_x1.length ws_c1] 24)).heap.size := by simp
  have S0 := hx0.size
  have B0 := hx0
  have A_ws_0 := h_ws.below hx0 (by omega)
  have A_s_0 := h_s.below hx0 (by omega)
  have A_m_0 := h_m.below hx0 (by omega)
  clear h_ws h_s h_m hx0
  obtain ⟨q0_0, q0_1⟩ := cells2 K_ws.out
  go_wp2_with fail
  refine (S_ws.out _ B0).mono ?_
  rintro e w1 ⟨rfl, hb1⟩
  clear q0_0 q0_1
  have S1 := hb1.size
  have B1 := below_then B0 hb1
  have A_ws_1 := A_ws_0.below hb1 (by omega)
  have A_s_1 := A_s_0.below hb1 (by omega)
  have A_m_1 := A_m_0.below hb1 (by omega)
  have K_ws_1 := Lib.hid (K_ws.out.same hb1)
  clear B0 A_ws_0 A_s_0 A_m_0 K_ws hb1
  obtain ⟨q0_0, q0_1⟩ := cells2 K_ws_1.out
  go_wp2_with fail
  refine (lawTo_Wishes _ _ _ _ _ _ _ _  A_ws_1 (by omega) hl_ws_x0 hin_ws_x0.out hl_ws_x1 hin_ws_x1.out).mono ?_
  rintro e w2 ⟨v0_T0, v1_T0, v2_T0, v3_T0, rfl, o2, hb2⟩
  clear q0_0 q0_1
  have S2 := hb2.size
  have B2 := below_then B1 hb2
  have A_ws_2 := A_ws_1.below hb2 (by omega)
  have A_s_2 := A_s_1.below hb2 (by omega)
  have A_m_2 := A_m_1.below hb2 (by omega)
  have K_ws_2 := Lib.hid (K_ws_1.out.same hb2)
  clear B1 A_ws_1 A_s_1 A_m_1 K_ws_1 hb2
  obtain ⟨q0_0, q0_1⟩ := cells2 K_ws_2.out
  go_wp2_with fail
  refine (lawTo_I _ _ _ _ s A_s_2 (by omega) hl_s).mono ?_
  rintro e w3 ⟨v0_T1, v1_T1, rfl, o3, hb3⟩
  clear q0_0 q0_1
  have S3 := hb3.size
  have B3 := below_then B2 hb3
  have A_ws_3 := A_ws_2.below hb3 (by omega)
  have A_s_3 := A_s_2.below hb3 (by omega)
  have A_m_3 := A_m_2.below hb3 (by omega)
  have K_ws_3 := Lib.hid (K_ws_2.out.same hb3)
  have T0_3 := o2.keep hb3
  clear B2 A_ws_2 A_s_2 A_m_2 K_ws_2 o2 hb3
  obtain ⟨q0_0, q0_1⟩ := cells2 K_ws_3.out
  go_wp2_with fail
  refine (lawTo_I _ _ _ _ m A_m_3 (by omega) hl_m).mono ?_
  rintro e w4 ⟨v0_T2, v1_T2, rfl, o4, hb4⟩
  clear q0_0 q0_1
  have S4 := hb4.size
  have B4 := below_then B3 hb4
  have A_ws_4 := A_ws_3.below hb4 (by omega)
  have A_s_4 := A_s_3.below hb4 (by omega)
  have A_m_4 := A_m_3.below hb4 (by omega)
  have K_ws_4 := Lib.hid (K_ws_3.out.same hb4)
  have T0_4 := T0_3.keep hb4
  have T1_4 := o3.keep hb4
  clear B3 A_ws_3 A_s_3 A_m_3 K_ws_3 T0_3 o3 hb4
  obtain ⟨q0_0, q0_1⟩ := cells2 K_ws_4.out
  go_wp2_with fail
  refine (H2.out _ _ _ _ _ _ (T0_4.rd) (by omega) _ _ _ (T1_4.rd) (by omega) _ _ _ (o4.rd) (by omega)).mono ?_
  rintro e w5 ⟨rfl, hb5⟩
  clear q0_0 q0_1
  have S5 := hb5.size
  have B5 := below_then B4 hb5
  have A_ws_5 := A_ws_4.below hb5 (by omega)
  have A_s_5 := A_s_4.below hb5 (by omega)
  have A_m_5 := A_m_4.below hb5 (by omega)
  have K_ws_5 := Lib.hid (K_ws_4.out.same hb5)
  have T0_5 := T0_4.keep hb5
  have T1_5 := T1_4.keep hb5
  have T2_5 := o4.keep hb5
  clear B4 A_ws_4 A_s_4 A_m_4 K_ws_4 T0_4 T1_4 o4 hb5
  obtain ⟨q0_0, q0_1⟩ := cells2 K_ws_5.out
  go_wp2_with fail
  refine (lawTo_Wishes _ _ _ _ _ _ _ _  A_ws_5 (by omega) hl_ws_x0 hin_ws_x0.out hl_ws_x1 hin_ws_x1.out).mono ?_
  rintro e w6 ⟨v0_X0, v1_X0, v2_X0, v3_X0, rfl, o6, hb6⟩
  clear q0_0 q0_1
  have S6 := hb6.size
  have B6 := below_then B5 hb6
  have A_ws_6 := A_ws_5.below hb6 (by omega)
  have A_s_6 := A_s_5.below hb6 (by omega)
  have A_m_6 := A_m_5.below hb6 (by omega)
  have K_ws_6 := Lib.hid (K_ws_5.out.same hb6)
  clear B5 A_ws_5 A_s_5 A_m_5 K_ws_5 hb6
  obtain ⟨q0_0, q0_1⟩ := cells2 K_ws_6.out
  go_wp2_with fail
  have M7 := box2 w6 28 (.slice v0_X0 ws_x0.length v1_X0) (.slice v2_X0 ws_x1.length v3_X0)
  obtain ⟨w7, hW7⟩ : ∃ W, W = boxed2 w6 28 (.slice v0_X0 ws_x0.length v1_X0) (.slice v2_X0 ws_x1.length v3_X0) := ⟨_, rfl⟩
  rw [← hW7] at M7
  simp only [boxed2] at hW7
  try rw [← hW7]
  clear hW7
  obtain ⟨hb7, KX, SX7⟩ := M7
  have K_X0 := Lib.hid KX
  clear KX
  have S7 := hb7.size
  have B7 := below_then B6 hb7
  have A_ws_7 := A_ws_6.below hb7 (by omega)
  have A_s_7 := A_s_6.below hb7 (by omega)
  have A_m_7 := A_m_6.below hb7 (by omega)
  have K_ws_7 := Lib.hid (K_ws_6.out.same hb7)
  have X0_7 := o6.keep hb7
  clear B6 A_ws_6 A_s_6 A_m_6 K_ws_6 o6 hb7
  refine (lawTo_I _ _ _ _ s A_s_7 (by omega) hl_s).mono ?_
  rintro e w8 ⟨v0_X1, v1_X1, rfl, o8, hb8⟩
  clear q0_0 q0_1
  have S8 := hb8.size
  have B8 := below_then B7 hb8
  have A_ws_8 := A_ws_7.below hb8 (by omega)
  have A_s_8 := A_s_7.below hb8 (by omega)
  have A_m_8 := A_m_7.below hb8 (by omega)
  have K_ws_8 := Lib.hid (K_ws_7.out.same hb8)
  have X0_8 := X0_7.keep hb8
  have K_X0_8 := Lib.hid (K_X0.out.same hb8)
  clear B7 A_ws_7 A_s_7 A_m_7 K_ws_7 X0_7 K_X0 hb8
  obtain ⟨q0_0, q0_1⟩ := cells2 K_ws_8.out
  obtain ⟨q1_0, q1_1⟩ := cells2 K_X0_8.out
  go_wp2_with fail
  refine (lawTo_I _ _ _ _ m A_m_8 (by omega) hl_m).mono ?_
  rintro e w9 ⟨v0_X2, v1_X2, rfl, o9, hb9⟩
  clear q0_0 q0_1 q1_0 q1_1
  have S9 := hb9.size
  have B9 := below_then B8 hb9
  have A_ws_9 := A_ws_8.below hb9 (by omega)
  have A_s_9 := A_s_8.below hb9 (by omega)
  have A_m_9 := A_m_8.below hb9 (by omega)
  have K_ws_9 := Lib.hid (K_ws_8.out.same hb9)
  have X0_9 := X0_8.keep hb9
  have K_X0_9 := Lib.hid (K_X0_8.out.same hb9)
  have X1_9 := o8.keep hb9
  clear B8 A_ws_8 A_s_8 A_m_8 K_ws_8 X0_8 K_X0_8 o8 hb9
  obtain ⟨q0_0, q0_1⟩ := cells2 K_ws_9.out
  obtain ⟨q1_0, q1_1⟩ := cells2 K_X0_9.out
  go_wp2_with fail
  refine (H1.out _ _ _ _ _ _ (X0_9.rd) (by omega) _ _ _ (X1_9.rd) (by omega) _ _ _ (o9.rd) (by omega)).mono ?_
  rintro e w10 ⟨rfl, hb10⟩
  clear q0_0 q0_1 q1_0 q1_1
  have S10 := hb10.size
  have B10 := below_then B9 hb10
  have A_ws_10 := A_ws_9.below hb10 (by omega)
  have A_s_10 := A_s_9.below hb10 (by omega)
  have A_m_10 := A_m_9.below hb10 (by omega)
  have K_ws_10 := Lib.hid (K_ws_9.out.same hb10)
  have X0_10 := X0_9.keep hb10
  have K_X0_10 := Lib.hid (K_X0_9.out.same hb10)
  have X1_10 := X1_9.keep hb10
  have X2_10 := o9.keep hb10
  clear B9 A_ws_9 A_s_9 A_m_9 K_ws_9 X0_9 K_X0_9 X1_9 o9 hb10
  obtain ⟨q0_0, q0_1⟩ := cells2 K_ws_10.out
  obtain ⟨q1_0, q1_1⟩ := cells2 K_X0_10.out
  go_wp2_with fail
  have hb11 := below_drew' (Below.refl w10.heap.size w10)
  have S11 := hb11.size
  have B11 := below_then B10 hb11
  have A_ws_11 := A_ws_10.below hb11 (by omega)
  have A_s_11 := A_s_10.below hb11 (by omega)
  have A_m_11 := A_m_10.below hb11 (by omega)
  have K_ws_11 := Lib.hid (K_ws_10.out.same hb11)
  have X0_11 := X0_10.keep hb11
  have K_X0_11 := Lib.hid (K_X0_10.out.same hb11)
  have X1_11 := X1_10.keep hb11
  have X2_11 := X2_10.keep hb11
  clear B10 A_ws_10 A_s_10 A_m_10 K_ws_10 X0_10 K_X0_10 X1_10 X2_10 hb11
  go_region_held3 (fun w' => w'.cell? ⟨w6.heap.size, 0, none⟩ = some (.slice v0_X0 ws_x0.length v1_X0) ∧ w'.cell? ⟨w6.heap.size, 1, none⟩ = some (.slice v2_X0 ws_x1.length v3_X0) ∧ w'.cell? ⟨w.heap.size, 0, none⟩ = some (.slice ws_a0 ws_x0.length ws_c0) ∧ w'.cell? ⟨w.heap.size, 1, none⟩ = some (.slice ws_a1 ws_x1.length ws_c1))
    (first | go_keep | exact two2 K_X0_11.out K_ws_11.out | exact two2 (K_X0_11.out.same hbq) (K_ws_11.out.same hbq) | exact two2 ((K_X0_11.out.same hbq).same hbr) ((K_ws_11.out.same hbq).same hbr))
    (first | (go_at_call 17; refine (lawTo_Wishes _ _ _ _ _ _ _ _  A_ws_11 (by omega) hl_ws_x0 hin_ws_x0.out hl_ws_x1 hin_ws_x1.out).mono ?_; rintro e wq ⟨v0_Y0, v1_Y0, v2_Y0, v3_Y0, rfl, oq, hbq⟩) | (go_at_call 20; have SQ := hbq.size; refine (lawEq_Wishes _ _ _ _ _ _ _ _ _ _ _ _ _  ((X0_11.keep hbq).rd) (oq.rd) (by omega) (by omega) hl_ws_x0 hin_ws_x0.out hl_ws_x1 hin_ws_x1.out).mono ?_; rintro e wr ⟨rfl, hbr⟩))
  clear q0_0 q0_1 q1_0 q1_1
  have hb12 := hbq
  clear hbq oq
  have S12 := hb12.size
  have B12 := below_then B11 hb12
  have A_ws_12 := A_ws_11.below hb12 (by omega)
  have A_s_12 := A_s_11.below hb12 (by omega)
  have A_m_12 := A_m_11.below hb12 (by omega)
  have K_ws_12 := Lib.hid (K_ws_11.out.same hb12)
  have X0_12 := X0_11.keep hb12
  have K_X0_12 := Lib.hid (K_X0_11.out.same hb12)
  have X1_12 := X1_11.keep hb12
  have X2_12 := X2_11.keep hb12
  clear B11 A_ws_11 A_s_11 A_m_11 K_ws_11 X0_11 K_X0_11 X1_11 X2_11 hb12
  have hb13 := hbr
  clear hbr
  have S13 := hb13.size
  have B13 := below_then B12 hb13
  have A_ws_13 := A_ws_12.below hb13 (by omega)
  have A_s_13 := A_s_12.below hb13 (by omega)
  have A_m_13 := A_m_12.below hb13 (by omega)
  have K_ws_13 := Lib.hid (K_ws_12.out.same hb13)
  have X0_13 := X0_12.keep hb13
  have K_X0_13 := Lib.hid (K_X0_12.out.same hb13)
  have X1_13 := X1_12.keep hb13
  have X2_13 := X2_12.keep hb13
  clear B12 A_ws_12 A_s_12 A_m_12 K_ws_12 X0_12 K_X0_12 X1_12 X2_12 hb13
  obtain ⟨q0_0, q0_1⟩ := cells2 K_ws_13.out
  obtain ⟨q1_0, q1_1⟩ := cells2 K_X0_13.out
  go_wp2_with fail
  refine (lawTo_I _ _ _ _ s A_s_13 (by omega) hl_s).mono ?_
  rintro e w14 ⟨v0_Y1, v1_Y1, rfl, o14, hb14⟩
  clear q0_0 q0_1 q1_0 q1_1
  have S14 := hb14.size
  have B14 := below_then B13 hb14
  have A_ws_14 := A_ws_13.below hb14 (by omega)
  have A_s_14 := A_s_13.below hb14 (by omega)
  have A_m_14 := A_m_13.below hb14 (by omega)
  have K_ws_14 := Lib.hid (K_ws_13.out.same hb14)
  have X0_14 := X0_13.keep hb14
  have K_X0_14 := Lib.hid (K_X0_13.out.same hb14)
  have X1_14 := X1_13.keep hb14
  have X2_14 := X2_13.keep hb14
  clear B13 A_ws_13 A_s_13 A_m_13 K_ws_13 X0_13 K_X0_13 X1_13 X2_13 hb14
  obtain ⟨q0_0, q0_1⟩ := cells2 K_ws_14.out
  obtain ⟨q1_0, q1_1⟩ := cells2 K_X0_14.out
  go_wp2_with fail
  refine (lawEq_I' _ _ _ _ _ _ _ s (X1_14.rd) (o14.rd) (by omega) (by omega) (by omega)).mono ?_
  rintro e w15 ⟨rfl, hb15⟩
  clear q0_0 q0_1 q1_0 q1_1
  have S15 := hb15.size
  have B15 := below_then B14 hb15
  have A_ws_15 := A_ws_14.below hb15 (by omega)
  have A_s_15 := A_s_14.below hb15 (by omega)
  have A_m_15 := A_m_14.below hb15 (by omega)
  have K_ws_15 := Lib.hid (K_ws_14.out.same hb15)
  have X0_15 := X0_14.keep hb15
  have K_X0_15 := Lib.hid (K_X0_14.out.same hb15)
  have X1_15 := X1_14.keep hb15
  have X2_15 := X2_14.keep hb15
  have Y1_15 := o14.keep hb15
  clear B14 A_ws_14 A_s_14 A_m_14 K_ws_14 X0_14 K_X0_14 X1_14 X2_14 o14 hb15
  obtain ⟨q0_0, q0_1⟩ := cells2 K_ws_15.out
  obtain ⟨q1_0, q1_1⟩ := cells2 K_X0_15.out
  go_wp2_with fail
  refine (lawTo_I _ _ _ _ m A_m_15 (by omega) hl_m).mono ?_
  rintro e w16 ⟨v0_Y2, v1_Y2, rfl, o16, hb16⟩
  clear q0_0 q0_1 q1_0 q1_1
  have S16 := hb16.size
  have B16 := below_then B15 hb16
  have A_ws_16 := A_ws_15.below hb16 (by omega)
  have A_s_16 := A_s_15.below hb16 (by omega)
  have A_m_16 := A_m_15.below hb16 (by omega)
  have K_ws_16 := Lib.hid (K_ws_15.out.same hb16)
  have X0_16 := X0_15.keep hb16
  have K_X0_16 := Lib.hid (K_X0_15.out.same hb16)
  have X1_16 := X1_15.keep hb16
  have X2_16 := X2_15.keep hb16
  clear B15 A_ws_15 A_s_15 A_m_15 K_ws_15 X0_15 K_X0_15 X1_15 X2_15 hb16
  obtain ⟨q0_0, q0_1⟩ := cells2 K_ws_16.out
  obtain ⟨q1_0, q1_1⟩ := cells2 K_X0_16.out
  go_wp2_with fail
  refine (lawEq_I' _ _ _ _ _ _ _ m (X2_16.rd) (o16.rd) (by omega) (by omega) (by omega)).mono ?_
  rintro e w17 ⟨rfl, hb17⟩
  clear q0_0 q0_1 q1_0 q1_1
  have S17 := hb17.size
  have B17 := below_then B16 hb17
  have A_ws_17 := A_ws_16.below hb17 (by omega)
  have A_s_17 := A_s_16.below hb17 (by omega)
  have A_m_17 := A_m_16.below hb17 (by omega)
  have K_ws_17 := Lib.hid (K_ws_16.out.same hb17)
  have X0_17 := X0_16.keep hb17
  have K_X0_17 := Lib.hid (K_X0_16.out.same hb17)
  have X1_17 := X1_16.keep hb17
  have X2_17 := X2_16.keep hb17
  have Y2_17 := o16.keep hb17
  clear B16 A_ws_16 A_s_16 A_m_16 K_ws_16 X0_16 K_X0_16 X1_16 X2_16 o16 hb17
  go_wp2_with fail
  go_ret
  exact ⟨rfl, B17⟩

end Go.Proofs.Ytdipckpcmnhpjaa
