/-
  FnExactTakeTurn answers true: the law's walk.
-/
import Derived.Test.YtdipckpcmnhpjaaLawInts
import Derived.Test.YtdipckpcmnhpjaaWishesT
import Derived.Test.YtdipckpcmnhpjaaMatTI
namespace Go.Proofs.Ytdipckpcmnhpjaa
set_option linter.unusedVariables false
set_option linter.unusedSimpArgs false
open Go.RowKit

theorem cells2 {w : World} {g : Nat} {v0 v1 : Value} {t : TypeId} (h : Blk w g [v0, v1] t) : w.cell? ⟨g, 0, none⟩ = some v0 ∧ w.cell? ⟨g, 1, none⟩ = some v1 := ⟨h.cell 0, h.cell 1⟩
theorem two2 {w : World} {g k : Nat} {v0 v1 u0 u1 : Value} {t s : TypeId} (h : Blk w g [v0, v1] t) (h2 : Blk w k [u0, u1] s) : w.cell? ⟨g, 0, none⟩ = some v0 ∧ w.cell? ⟨g, 1, none⟩ = some v1 ∧ w.cell? ⟨k, 0, none⟩ = some u0 ∧ w.cell? ⟨k, 1, none⟩ = some u1 := ⟨h.cell 0, h.cell 1, h2.cell 0, h2.cell 1⟩
def boxed2 (w : World) (t : TypeId) (v0 v1 : Value) : World := w.alloc (.cells #[v0, v1] t)
theorem box2 (w : World) (t : TypeId) (v0 v1 : Value) : Below w.heap.size w (boxed2 w t v0 v1) ∧ Blk (boxed2 w t v0 v1) w.heap.size [v0, v1] t ∧ (boxed2 w t v0 v1).heap.size = w.heap.size + 1 := ⟨bl1 _ _, Blk.new w [v0, v1] t, by simp [boxed2]⟩

theorem takeTurnF_len (w : Wi) (m q : List Int) (h : m.length ≤ 1073741824) : ((takeTurnF w m q).getD []).length ≤ 1073741824 := by
  unfold takeTurnF
  split
  · have := takenN_len m q q.length
    rw [Option.getD_some]
    unfold takenF
    omega
  · simp
theorem flatI_TakeTurn (w : World) (ws_x0 : List (List Int)) (ws_x1 : List (List Int)) (hl_ws_x0 : ws_x0.length ≤ 1048576) (hin_ws_x0 : ∀ y ∈ ws_x0, y.length ≤ 1048576) (hl_ws_x1 : ws_x1.length ≤ 1048576) (hin_ws_x1 : ∀ y ∈ ws_x1, y.length ≤ 1048576) (m : List Int) (hl_m : m.length ≤ 1048576) (tn : List Int) (hl_tn : tn.length ≤ 1048576) (B_ws : Nat) (ws_a0 : Option Addr) (ws_c0 : Nat) (ws_a1 : Option Addr) (ws_c1 : Nat) (h_ws : RdWishes w B_ws ws_a0 ws_x0 ws_a1 ws_x1) (hB_ws : B_ws ≤ w.heap.size) (B_m : Nat) (a_m : Option Addr) (c_m : Nat) (h_m : Rd w B_m a_m (ints m)) (hB_m : B_m ≤ w.heap.size) (hc_m : m.length ≤ c_m) (B_tn : Nat) (a_tn : Option Addr) (c_tn : Nat) (h_tn : Rd w B_tn a_tn (ints tn)) (hB_tn : B_tn ≤ w.heap.size) (hc_tn : tn.length ≤ c_tn) :
    Calls Try.prog 45 #[.agg #[.slice ws_a0 ws_x0.length ws_c0, .slice ws_a1 ws_x1.length ws_c1], .slice a_m m.length c_m, .slice a_tn tn.length c_tn] w fun e w' => ∃ a0 c0, e = .returned (.tuple #[.slice a0 ((takeTurnF ⟨ws_x0, ws_x1⟩ m tn).getD []).length c0, .bool ((takeTurnF ⟨ws_x0, ws_x1⟩ m tn).isSome)]) ∧ OwnI 2 w' w.heap.size w'.heap.size a0 c0 ((takeTurnF ⟨ws_x0, ws_x1⟩ m tn).getD []) ∧ Below w.heap.size w w' :=
  flat_of (takeTurn_any w ws_a0 ws_c0 ws_x0 ws_a1 ws_c1 ws_x1 a_m c_m m a_tn c_tn tn (h_ws.mono hB_ws) hl_ws_x0 hin_ws_x0 hl_ws_x1 hin_ws_x1 (h_m.mono hB_m) hl_m (h_tn.mono hB_tn) hl_tn)
theorem flatS_TakeTurn (w : World) (ws_x0 : List (List Int)) (ws_x1 : List (List Int)) (hl_ws_x0 : ws_x0.length ≤ 1048576) (hin_ws_x0 : ∀ y ∈ ws_x0, y.length ≤ 1048576) (hl_ws_x1 : ws_x1.length ≤ 1048576) (hin_ws_x1 : ∀ y ∈ ws_x1, y.length ≤ 1048576) (m : List Int) (hl_m : m.length ≤ 1048576) (tn : List Int) (hl_tn : tn.length ≤ 1048576) (B_ws : Nat) (ws_a0 : Option Addr) (ws_c0 : Nat) (ws_a1 : Option Addr) (ws_c1 : Nat) (h_ws : RdWishes w B_ws ws_a0 ws_x0 ws_a1 ws_x1) (hB_ws : B_ws ≤ w.heap.size) (B_m : Nat) (a_m : Option Addr) (c_m : Nat) (h_m : Rd w B_m a_m (ints m)) (hB_m : B_m ≤ w.heap.size) (hc_m : m.length ≤ c_m) (B_tn : Nat) (a_tn : Option Addr) (c_tn : Nat) (h_tn : Rd w B_tn a_tn (ints tn)) (hB_tn : B_tn ≤ w.heap.size) (hc_tn : tn.length ≤ c_tn) :
    Calls Try.prog 44 #[.agg #[.slice ws_a0 ws_x0.length ws_c0, .slice ws_a1 ws_x1.length ws_c1], .slice a_m m.length c_m, .slice a_tn tn.length c_tn] w fun e w' => ∃ a0 c0, e = .returned (.tuple #[.slice a0 ((takeTurnF ⟨ws_x0, ws_x1⟩ m tn).getD []).length c0, .bool ((takeTurnF ⟨ws_x0, ws_x1⟩ m tn).isSome)]) ∧ OwnI 2 w' w.heap.size w'.heap.size a0 c0 ((takeTurnF ⟨ws_x0, ws_x1⟩ m tn).getD []) ∧ Below w.heap.size w w' :=
  flat_of (takeTurnR_any w ws_a0 ws_c0 ws_x0 ws_a1 ws_c1 ws_x1 a_m c_m m a_tn c_tn tn (h_ws.mono hB_ws) hl_ws_x0 hin_ws_x0 hl_ws_x1 hin_ws_x1 (h_m.mono hB_m) hl_m hc_m (h_tn.mono hB_tn) hl_tn hc_tn)

set_option maxRecDepth 10000 in
set_option maxHeartbeats 8000000 in
theorem law_ExactTakeTurn (w : World) (ws_a0 : Option Addr) (ws_c0 : Nat) (ws_x0 : List (List Int)) (ws_a1 : Option Addr) (ws_c1 : Nat) (ws_x1 : List (List Int)) (a_m : Option Addr) (c_m : Nat) (m : List Int) (a_tn : Option Addr) (c_tn : Nat) (tn : List Int) (h_ws : RdWishes w w.heap.size ws_a0 ws_x0 ws_a1 ws_x1) (hl0_ws_x0 : ws_x0.length ≤ 9223372036854775807) (hin0_ws_x0 : ∀ y ∈ ws_x0, y.length ≤ 9223372036854775807) (hl0_ws_x1 : ws_x1.length ≤ 9223372036854775807) (hin0_ws_x1 : ∀ y ∈ ws_x1, y.length ≤ 9223372036854775807) (h_m : Rd w w.heap.size a_m (ints m))  (h_tn : Rd w w.heap.size a_tn (ints tn))  :
    Calls Try.prog 12 #[.agg #[.slice ws_a0 ws_x0.length ws_c0, .slice ws_a1 ws_x1.length ws_c1], .slice a_m m.length c_m, .slice a_tn tn.length c_tn] w fun e w' => e = .returned (.bool true) ∧ Below w.heap.size w w' := by
  by_cases hl_m : m.length ≤ 1048576
  case neg =>
    go_enter Try.func12, Try.ntmps12
    go_wp2_with fail
    go_ret
    first | exact ⟨rfl, Below.refl _ _⟩ | exact ⟨rfl, bl1 _ _⟩ | exact ⟨rfl, bl2 _ _ _⟩
  by_cases hl_tn : tn.length ≤ 1048576
  case neg =>
    go_enter Try.func12, Try.ntmps12
    go_wp2_with fail
    go_ret
    first | exact ⟨rfl, Below.refl _ _⟩ | exact ⟨rfl, bl1 _ _⟩ | exact ⟨rfl, bl2 _ _ _⟩
  have S_ws := Lib.hid (fun w' hb => lawSz_Wishes w' ws_a0 ws_c0 ws_x0 ws_a1 ws_c1 ws_x1 1048576 (by omega) (by omega) hl0_ws_x0 hin0_ws_x0 hl0_ws_x1 hin0_ws_x1 (h_ws.to hb))
  have hs_ws := szWishesF_spec (left := 1048576) (x0 := ws_x0) (x1 := ws_x1) (show (0 : Int) ≤ 1048576 by omega)
  generalize szWishesF 1048576 ws_x0 ws_x1 = l_ws at *
  obtain ⟨hsa_ws, hsb_ws, hsc_ws⟩ := hs_ws
  by_cases hneg_ws : l_ws < 0
  case pos =>
    clear hsc_ws
    go_enter Try.func12, Try.ntmps12
    go_wp2_with fail
    refine (S_ws.out _ (by first | exact bl1 _ _ | exact bl2 _ _ _)).mono ?_
    rintro e w_ws ⟨rfl, hz_ws⟩
    go_wp2_with fail
    go_ret
    first | exact ⟨rfl, hz_ws⟩ | exact ⟨rfl, below_then (bl1 _ _) (hz_ws)⟩ | exact ⟨rfl, below_then (bl2 _ _ _) (hz_ws)⟩
  have hsd_ws := hsc_ws (by omega)
  obtain ⟨hsd_ws_0, hsi_ws_0, hsd_ws_1, hsi_ws_1⟩ := hsd_ws
  have hl_ws_x0 : ws_x0.length ≤ 1048576 := by omega
  have hin_ws_x0 : Hid (∀ y ∈ ws_x0, y.length ≤ 1048576) := fun y hy => by have := hsi_ws_0 y hy; omega
  have hl_ws_x1 : ws_x1.length ≤ 1048576 := by omega
  have hin_ws_x1 : Hid (∀ y ∈ ws_x1, y.length ≤ 1048576) := fun y hy => by have := hsi_ws_1 y hy; omega
  clear hsc_ws hl0_ws_x0 hsd_ws_0 hin0_ws_x0 hsi_ws_0 hl0_ws_x1 hsd_ws_1 hin0_ws_x1 hsi_ws_1
  have hrl0 := takeTurnF_len ⟨ws_x0, ws_x1⟩ m tn (by omega)
  have H1 := Lib.hid (fun w' => flatI_TakeTurn w' ws_x0 ws_x1 hl_ws_x0 hin_ws_x0.out hl_ws_x1 hin_ws_x1.out m hl_m tn hl_tn)
  have H2 := Lib.hid (fun w' => flatS_TakeTurn w' ws_x0 ws_x1 hl_ws_x0 hin_ws_x0.out hl_ws_x1 hin_ws_x1.out m hl_m tn hl_tn)
  generalize (takeTurnF ⟨ws_x0, ws_x1⟩ m tn).getD [] = r0 at *
  generalize (takeTurnF ⟨ws_x0, ws_x1⟩ m tn).isSome = r1 at *
  have hne1 : (r1 != r1) = false := by simp
  go_enter Try.func12, Try.ntmps12
  have K_ws := Lib.hid (Blk.new (w) [.slice ws_a0 ws_x0.length ws_c0, .slice ws_a1 ws_x1.length ws_c1] 24)
  have hx0 := bl1 (w) (.cells #[.slice ws_a0 ws_x0.length ws_c0, .slice ws_a1 ws_x1.length ws_c1] 24)
  have SW0 : w.heap.size < (w.alloc (.cells #[.slice ws_a0 ws_x0.length ws_c0, .slice ws_a1 ws_x1.length ws_c1] 24)).heap.size := by simp
  have S0 := hx0.size
  have B0 := hx0
  have A_ws_0 := h_ws.below hx0 (by omega)
  have A_m_0 := h_m.below hx0 (by omega)
  have A_tn_0 := h_tn.below hx0 (by omega)
  clear h_ws h_m h_tn hx0
  obtain ⟨q0_0, q0_1⟩ := cells2 K_ws.out
  go_wp2_with fail
  refine (S_ws.out _ B0).mono ?_
  rintro e w1 ⟨rfl, hb1⟩
  clear q0_0 q0_1
  have S1 := hb1.size
  have B1 := below_then B0 hb1
  have A_ws_1 := A_ws_0.below hb1 (by omega)
  have A_m_1 := A_m_0.below hb1 (by omega)
  have A_tn_1 := A_tn_0.below hb1 (by omega)
  have K_ws_1 := Lib.hid (K_ws.out.same hb1)
  clear B0 A_ws_0 A_m_0 A_tn_0 K_ws hb1
  obtain ⟨q0_0, q0_1⟩ := cells2 K_ws_1.out
  go_wp2_with fail
  refine (lawTo_Wishes _ _ _ _ _ _ _ _  A_ws_1 (by omega) hl_ws_x0 hin_ws_x0.out hl_ws_x1 hin_ws_x1.out).mono ?_
  rintro e w2 ⟨v0_T0, v1_T0, v2_T0, v3_T0, rfl, o2, hb2⟩
  clear q0_0 q0_1
  have S2 := hb2.size
  have B2 := below_then B1 hb2
  have A_ws_2 := A_ws_1.below hb2 (by omega)
  have A_m_2 := A_m_1.below hb2 (by omega)
  have A_tn_2 := A_tn_1.below hb2 (by omega)
  have K_ws_2 := Lib.hid (K_ws_1.out.same hb2)
  clear B1 A_ws_1 A_m_1 A_tn_1 K_ws_1 hb2
  obtain ⟨q0_0, q0_1⟩ := cells2 K_ws_2.out
  go_wp2_with fail
  refine (lawTo_I _ _ _ _ m A_m_2 (by omega) hl_m).mono ?_
  rintro e w3 ⟨v0_T1, v1_T1, rfl, o3, hb3⟩
  clear q0_0 q0_1
  have S3 := hb3.size
  have B3 := below_then B2 hb3
  have A_ws_3 := A_ws_2.below hb3 (by omega)
  have A_m_3 := A_m_2.below hb3 (by omega)
  have A_tn_3 := A_tn_2.below hb3 (by omega)
  have K_ws_3 := Lib.hid (K_ws_2.out.same hb3)
  have T0_3 := o2.keep hb3
  clear B2 A_ws_2 A_m_2 A_tn_2 K_ws_2 o2 hb3
  obtain ⟨q0_0, q0_1⟩ := cells2 K_ws_3.out
  go_wp2_with fail
  refine (lawTo_I _ _ _ _ tn A_tn_3 (by omega) hl_tn).mono ?_
  rintro e w4 ⟨v0_T2, v1_T2, rfl, o4, hb4⟩
  clear q0_0 q0_1
  have S4 := hb4.size
  have B4 := below_then B3 hb4
  have A_ws_4 := A_ws_3.below hb4 (by omega)
  have A_m_4 := A_m_3.below hb4 (by omega)
  have A_tn_4 := A_tn_3.below hb4 (by omega)
  have K_ws_4 := Lib.hid (K_ws_3.out.same hb4)
  have T0_4 := T0_3.keep hb4
  have T1_4 := o3.keep hb4
  clear B3 A_ws_3 A_m_3 A_tn_3 K_ws_3 T0_3 o3 hb4
  obtain ⟨q0_0, q0_1⟩ := cells2 K_ws_4.out
  go_wp2_with fail
  refine (H2.out _ _ _ _ _ _ (T0_4.rd) (by omega) _ _ _ (T1_4.rd) (by omega) T1_4.cap _ _ _ (o4.rd) (by omega) o4.cap).mono ?_
  rintro e w5 ⟨a_V0, c_V0, rfl, o5_0, hb5⟩
  clear q0_0 q0_1
  have S5 := hb5.size
  have B5 := below_then B4 hb5
  have A_ws_5 := A_ws_4.below hb5 (by omega)
  have A_m_5 := A_m_4.below hb5 (by omega)
  have A_tn_5 := A_tn_4.below hb5 (by omega)
  have K_ws_5 := Lib.hid (K_ws_4.out.same hb5)
  have T0_5 := T0_4.keep hb5
  have T1_5 := T1_4.keep hb5
  have T2_5 := o4.keep hb5
  clear B4 A_ws_4 A_m_4 A_tn_4 K_ws_4 T0_4 T1_4 o4 hb5
  obtain ⟨q0_0, q0_1⟩ := cells2 K_ws_5.out
  go_wp2_with fail
  refine (lawTo_Wishes _ _ _ _ _ _ _ _  A_ws_5 (by omega) hl_ws_x0 hin_ws_x0.out hl_ws_x1 hin_ws_x1.out).mono ?_
  rintro e w6 ⟨v0_X0, v1_X0, v2_X0, v3_X0, rfl, o6, hb6⟩
  clear q0_0 q0_1
  have S6 := hb6.size
  have B6 := below_then B5 hb6
  have A_ws_6 := A_ws_5.below hb6 (by omega)
  have A_m_6 := A_m_5.below hb6 (by omega)
  have A_tn_6 := A_tn_5.below hb6 (by omega)
  have K_ws_6 := Lib.hid (K_ws_5.out.same hb6)
  have V0_6 := o5_0.keep hb6
  clear B5 A_ws_5 A_m_5 A_tn_5 K_ws_5 o5_0 hb6
  obtain ⟨q0_0, q0_1⟩ := cells2 K_ws_6.out
  go_wp2_with fail
  have M7 := box2 w6 28 (.slice v0_X0 ws_x0.length v1_X0) (.slice v2_X0 ws_x1.length v3_X0)
  obtain ⟨w7, hW7⟩ : ∃ W, W = boxed2 w6 28 (.slice v0_X0 ws_x0.length v1_X0) (.slice v2_X0 ws_x1.length v3_X0) := ⟨_, rfl⟩
  rw [← hW7] at M7
  simp only [boxed2] at hW7
  try rw [← hW7]
  clear hW7
  obtain ⟨hb7, KX, SX7⟩ := M7
  have K_X0 := Lib.hid KX
  clear KX
  have S7 := hb7.size
  have B7 := below_then B6 hb7
  have A_ws_7 := A_ws_6.below hb7 (by omega)
  have A_m_7 := A_m_6.below hb7 (by omega)
  have A_tn_7 := A_tn_6.below hb7 (by omega)
  have K_ws_7 := Lib.hid (K_ws_6.out.same hb7)
  have V0_7 := V0_6.keep hb7
  have X0_7 := o6.keep hb7
  clear B6 A_ws_6 A_m_6 A_tn_6 K_ws_6 V0_6 o6 hb7
  refine (lawTo_I _ _ _ _ m A_m_7 (by omega) hl_m).mono ?_
  rintro e w8 ⟨v0_X1, v1_X1, rfl, o8, hb8⟩
  clear q0_0 q0_1
  have S8 := hb8.size
  have B8 := below_then B7 hb8
  have A_ws_8 := A_ws_7.below hb8 (by omega)
  have A_m_8 := A_m_7.below hb8 (by omega)
  have A_tn_8 := A_tn_7.below hb8 (by omega)
  have K_ws_8 := Lib.hid (K_ws_7.out.same hb8)
  have V0_8 := V0_7.keep hb8
  have X0_8 := X0_7.keep hb8
  have K_X0_8 := Lib.hid (K_X0.out.same hb8)
  clear B7 A_ws_7 A_m_7 A_tn_7 K_ws_7 V0_7 X0_7 K_X0 hb8
  obtain ⟨q0_0, q0_1⟩ := cells2 K_ws_8.out
  obtain ⟨q1_0, q1_1⟩ := cells2 K_X0_8.out
  go_wp2_with fail
  refine (lawTo_I _ _ _ _ tn A_tn_8 (by omega) hl_tn).mono ?_
  rintro e w9 ⟨v0_X2, v1_X2, rfl, o9, hb9⟩
  clear q0_0 q0_1 q1_0 q1_1
  have S9 := hb9.size
  have B9 := below_then B8 hb9
  have A_ws_9 := A_ws_8.below hb9 (by omega)
  have A_m_9 := A_m_8.below hb9 (by omega)
  have A_tn_9 := A_tn_8.below hb9 (by omega)
  have K_ws_9 := Lib.hid (K_ws_8.out.same hb9)
  have V0_9 := V0_8.keep hb9
  have X0_9 := X0_8.keep hb9
  have K_X0_9 := Lib.hid (K_X0_8.out.same hb9)
  have X1_9 := o8.keep hb9
  clear B8 A_ws_8 A_m_8 A_tn_8 K_ws_8 V0_8 X0_8 K_X0_8 o8 hb9
  obtain ⟨q0_0, q0_1⟩ := cells2 K_ws_9.out
  obtain ⟨q1_0, q1_1⟩ := cells2 K_X0_9.out
  go_wp2_with fail
  refine (H1.out _ _ _ _ _ _ (X0_9.rd) (by omega) _ _ _ (X1_9.rd) (by omega) X1_9.cap _ _ _ (o9.rd) (by omega) o9.cap).mono ?_
  rintro e w10 ⟨a_G0, c_G0, rfl, o10_0, hb10⟩
  clear q0_0 q0_1 q1_0 q1_1
  have S10 := hb10.size
  have B10 := below_then B9 hb10
  have A_ws_10 := A_ws_9.below hb10 (by omega)
  have A_m_10 := A_m_9.below hb10 (by omega)
  have A_tn_10 := A_tn_9.below hb10 (by omega)
  have K_ws_10 := Lib.hid (K_ws_9.out.same hb10)
  have V0_10 := V0_9.keep hb10
  have X0_10 := X0_9.keep hb10
  have K_X0_10 := Lib.hid (K_X0_9.out.same hb10)
  have X1_10 := X1_9.keep hb10
  have X2_10 := o9.keep hb10
  clear B9 A_ws_9 A_m_9 A_tn_9 K_ws_9 V0_9 X0_9 K_X0_9 X1_9 o9 hb10
  obtain ⟨q0_0, q0_1⟩ := cells2 K_ws_10.out
  obtain ⟨q1_0, q1_1⟩ := cells2 K_X0_10.out
  go_wp2_with fail
  refine (lawEq_I' _ _ _ _ _ _ _ r0 (o10_0.rd) (V0_10.rd) (by omega) (by omega) (by omega)).mono ?_
  rintro e w11 ⟨rfl, hb11⟩
  clear q0_0 q0_1 q1_0 q1_1
  have S11 := hb11.size
  have B11 := below_then B10 hb11
  have A_ws_11 := A_ws_10.below hb11 (by omega)
  have A_m_11 := A_m_10.below hb11 (by omega)
  have A_tn_11 := A_tn_10.below hb11 (by omega)
  have K_ws_11 := Lib.hid (K_ws_10.out.same hb11)
  have V0_11 := V0_10.keep hb11
  have X0_11 := X0_10.keep hb11
  have K_X0_11 := Lib.hid (K_X0_10.out.same hb11)
  have X1_11 := X1_10.keep hb11
  have X2_11 := X2_10.keep hb11
  have G0_11 := o10_0.keep hb11
  clear B10 A_ws_10 A_m_10 A_tn_10 K_ws_10 V0_10 X0_10 K_X0_10 X1_10 X2_10 o10_0 hb11
  obtain ⟨q0_0, q0_1⟩ := cells2 K_ws_11.out
  obtain ⟨q1_0, q1_1⟩ := cells2 K_X0_11.out
  go_wp2_with fail
  have hb12 := below_drew' (Below.refl w11.heap.size w11)
  have S12 := hb12.size
  have B12 := below_then B11 hb12
  have A_ws_12 := A_ws_11.below hb12 (by omega)
  have A_m_12 := A_m_11.below hb12 (by omega)
  have A_tn_12 := A_tn_11.below hb12 (by omega)
  have K_ws_12 := Lib.hid (K_ws_11.out.same hb12)
  have V0_12 := V0_11.keep hb12
  have X0_12 := X0_11.keep hb12
  have K_X0_12 := Lib.hid (K_X0_11.out.same hb12)
  have X1_12 := X1_11.keep hb12
  have X2_12 := X2_11.keep hb12
  have G0_12 := G0_11.keep hb12
  clear B11 A_ws_11 A_m_11 A_tn_11 K_ws_11 V0_11 X0_11 K_X0_11 X1_11 X2_11 G0_11 hb12
  go_region_held3 (fun w' => w'.cell? ⟨w6.heap.size, 0, none⟩ = some (.slice v0_X0 ws_x0.length v1_X0) ∧ w'.cell? ⟨w6.heap.size, 1, none⟩ = some (.slice v2_X0 ws_x1.length v3_X0) ∧ w'.cell? ⟨w.heap.size, 0, none⟩ = some (.slice ws_a0 ws_x0.length ws_c0) ∧ w'.cell? ⟨w.heap.size, 1, none⟩ = some (.slice ws_a1 ws_x1.length ws_c1))
    (first | go_keep | exact two2 K_X0_12.out K_ws_12.out | exact two2 (K_X0_12.out.same hbq) (K_ws_12.out.same hbq) | exact two2 ((K_X0_12.out.same hbq).same hbr) ((K_ws_12.out.same hbq).same hbr))
    (first | (go_at_call 17; refine (lawTo_Wishes _ _ _ _ _ _ _ _  A_ws_12 (by omega) hl_ws_x0 hin_ws_x0.out hl_ws_x1 hin_ws_x1.out).mono ?_; rintro e wq ⟨v0_Y0, v1_Y0, v2_Y0, v3_Y0, rfl, oq, hbq⟩) | (go_at_call 20; have SQ := hbq.size; refine (lawEq_Wishes _ _ _ _ _ _ _ _ _ _ _ _ _  ((X0_12.keep hbq).rd) (oq.rd) (by omega) (by omega) hl_ws_x0 hin_ws_x0.out hl_ws_x1 hin_ws_x1.out).mono ?_; rintro e wr ⟨rfl, hbr⟩))
  clear q0_0 q0_1 q1_0 q1_1
  have hb13 := hbq
  clear hbq oq
  have S13 := hb13.size
  have B13 := below_then B12 hb13
  have A_ws_13 := A_ws_12.below hb13 (by omega)
  have A_m_13 := A_m_12.below hb13 (by omega)
  have A_tn_13 := A_tn_12.below hb13 (by omega)
  have K_ws_13 := Lib.hid (K_ws_12.out.same hb13)
  have V0_13 := V0_12.keep hb13
  have X0_13 := X0_12.keep hb13
  have K_X0_13 := Lib.hid (K_X0_12.out.same hb13)
  have X1_13 := X1_12.keep hb13
  have X2_13 := X2_12.keep hb13
  have G0_13 := G0_12.keep hb13
  clear B12 A_ws_12 A_m_12 A_tn_12 K_ws_12 V0_12 X0_12 K_X0_12 X1_12 X2_12 G0_12 hb13
  have hb14 := hbr
  clear hbr
  have S14 := hb14.size
  have B14 := below_then B13 hb14
  have A_ws_14 := A_ws_13.below hb14 (by omega)
  have A_m_14 := A_m_13.below hb14 (by omega)
  have A_tn_14 := A_tn_13.below hb14 (by omega)
  have K_ws_14 := Lib.hid (K_ws_13.out.same hb14)
  have V0_14 := V0_13.keep hb14
  have X0_14 := X0_13.keep hb14
  have K_X0_14 := Lib.hid (K_X0_13.out.same hb14)
  have X1_14 := X1_13.keep hb14
  have X2_14 := X2_13.keep hb14
  have G0_14 := G0_13.keep hb14
  clear B13 A_ws_13 A_m_13 A_tn_13 K_ws_13 V0_13 X0_13 K_X0_13 X1_13 X2_13 G0_13 hb14
  obtain ⟨q0_0, q0_1⟩ := cells2 K_ws_14.out
  obtain ⟨q1_0, q1_1⟩ := cells2 K_X0_14.out
  go_wp2_with fail
  refine (lawTo_I _ _ _ _ m A_m_14 (by omega) hl_m).mono ?_
  rintro e w15 ⟨v0_Y1, v1_Y1, rfl, o15, hb15⟩
  clear q0_0 q0_1 q1_0 q1_1
  have S15 := hb15.size
  have B15 := below_then B14 hb15
  have A_ws_15 := A_ws_14.below hb15 (by omega)
  have A_m_15 := A_m_14.below hb15 (by omega)
  have A_tn_15 := A_tn_14.below hb15 (by omega)
  have K_ws_15 := Lib.hid (K_ws_14.out.same hb15)
  have V0_15 := V0_14.keep hb15
  have X0_15 := X0_14.keep hb15
  have K_X0_15 := Lib.hid (K_X0_14.out.same hb15)
  have X1_15 := X1_14.keep hb15
  have X2_15 := X2_14.keep hb15
  have G0_15 := G0_14.keep hb15
  clear B14 A_ws_14 A_m_14 A_tn_14 K_ws_14 V0_14 X0_14 K_X0_14 X1_14 X2_14 G0_14 hb15
  obtain ⟨q0_0, q0_1⟩ := cells2 K_ws_15.out
  obtain ⟨q1_0, q1_1⟩ := cells2 K_X0_15.out
  go_wp2_with fail
  refine (lawEq_I' _ _ _ _ _ _ _ m (X1_15.rd) (o15.rd) (by omega) (by omega) (by omega)).mono ?_
  rintro e w16 ⟨rfl, hb16⟩
  clear q0_0 q0_1 q1_0 q1_1
  have S16 := hb16.size
  have B16 := below_then B15 hb16
  have A_ws_16 := A_ws_15.below hb16 (by omega)
  have A_m_16 := A_m_15.below hb16 (by omega)
  have A_tn_16 := A_tn_15.below hb16 (by omega)
  have K_ws_16 := Lib.hid (K_ws_15.out.same hb16)
  have V0_16 := V0_15.keep hb16
  have X0_16 := X0_15.keep hb16
  have K_X0_16 := Lib.hid (K_X0_15.out.same hb16)
  have X1_16 := X1_15.keep hb16
  have X2_16 := X2_15.keep hb16
  have G0_16 := G0_15.keep hb16
  have Y1_16 := o15.keep hb16
  clear B15 A_ws_15 A_m_15 A_tn_15 K_ws_15 V0_15 X0_15 K_X0_15 X1_15 X2_15 G0_15 o15 hb16
  obtain ⟨q0_0, q0_1⟩ := cells2 K_ws_16.out
  obtain ⟨q1_0, q1_1⟩ := cells2 K_X0_16.out
  go_wp2_with fail
  refine (lawTo_I _ _ _ _ tn A_tn_16 (by omega) hl_tn).mono ?_
  rintro e w17 ⟨v0_Y2, v1_Y2, rfl, o17, hb17⟩
  clear q0_0 q0_1 q1_0 q1_1
  have S17 := hb17.size
  have B17 := below_then B16 hb17
  have A_ws_17 := A_ws_16.below hb17 (by omega)
  have A_m_17 := A_m_16.below hb17 (by omega)
  have A_tn_17 := A_tn_16.below hb17 (by omega)
  have K_ws_17 := Lib.hid (K_ws_16.out.same hb17)
  have V0_17 := V0_16.keep hb17
  have X0_17 := X0_16.keep hb17
  have K_X0_17 := Lib.hid (K_X0_16.out.same hb17)
  have X1_17 := X1_16.keep hb17
  have X2_17 := X2_16.keep hb17
  have G0_17 := G0_16.keep hb17
  clear B16 A_ws_16 A_m_16 A_tn_16 K_ws_16 V0_16 X0_16 K_X0_16 X1_16 X2_16 G0_16 hb17
  obtain ⟨q0_0, q0_1⟩ := cells2 K_ws_17.out
  obtain ⟨q1_0, q1_1⟩ := cells2 K_X0_17.out
  go_wp2_with fail
  refine (lawEq_I' _ _ _ _ _ _ _ tn (X2_17.rd) (o17.rd) (by omega) (by omega) (by omega)).mono ?_
  rintro e w18 ⟨rfl, hb18⟩
  clear q0_0 q0_1 q1_0 q1_1
  have S18 := hb18.size
  have B18 := below_then B17 hb18
  have A_ws_18 := A_ws_17.below hb18 (by omega)
  have A_m_18 := A_m_17.below hb18 (by omega)
  have A_tn_18 := A_tn_17.below hb18 (by omega)
  have K_ws_18 := Lib.hid (K_ws_17.out.same hb18)
  have V0_18 := V0_17.keep hb18
  have X0_18 := X0_17.keep hb18
  have K_X0_18 := Lib.hid (K_X0_17.out.same hb18)
  have X1_18 := X1_17.keep hb18
  have X2_18 := X2_17.keep hb18
  have G0_18 := G0_17.keep hb18
  have Y2_18 := o17.keep hb18
  clear B17 A_ws_17 A_m_17 A_tn_17 K_ws_17 V0_17 X0_17 K_X0_17 X1_17 X2_17 G0_17 o17 hb18
  obtain ⟨q0_0, q0_1⟩ := cells2 K_ws_18.out
  obtain ⟨q1_0, q1_1⟩ := cells2 K_X0_18.out
  go_wp2_with fail
  refine (lawMark_Wishes _ _ _ _ _ _ _ _ _  _ X0_18 (by omega) hl_ws_x0 hin_ws_x0.out hl_ws_x1 hin_ws_x1.out (by omega) (by omega)).mono ?_
  rintro e w19 ⟨mk_ws, rfl, ⟨mka_ws, mkb_ws⟩, hb19⟩
  clear q0_0 q0_1 q1_0 q1_1
  have S19 := hb19.size
  have B19 := below_touch B18 hb19 (by omega) (by omega)
  have A_ws_19 := A_ws_18.touch hb19 (by omega) (by omega)
  have A_m_19 := A_m_18.touch hb19 (by omega) (by omega)
  have A_tn_19 := A_tn_18.touch hb19 (by omega) (by omega)
  have K_ws_19 := Lib.hid (K_ws_18.out.touch hb19 (by omega))
  have V0_19 := V0_18.touch hb19 (by omega)
  have K_X0_19 := Lib.hid (K_X0_18.out.touch hb19 (by omega))
  have X1_19 := X1_18.touch hb19 (by omega)
  have X2_19 := X2_18.touch hb19 (by omega)
  have G0_19 := G0_18.touch hb19 (by omega)
  clear B18 A_ws_18 A_m_18 A_tn_18 K_ws_18 V0_18 K_X0_18 X1_18 X2_18 G0_18 hb19
  clear X0_18
  obtain ⟨q0_0, q0_1⟩ := cells2 K_ws_19.out
  obtain ⟨q1_0, q1_1⟩ := cells2 K_X0_19.out
  go_wp2_with fail
  refine (lawMark_I _ _ _ _ _ m _ X1_19 (by omega) (by omega) (by omega)).mono ?_
  rintro e w20 ⟨rfl, _, hb20⟩
  clear q0_0 q0_1 q1_0 q1_1
  have S20 := hb20.size
  have B20 := below_touch B19 hb20 (by omega) (by omega)
  have A_ws_20 := A_ws_19.touch hb20 (by omega) (by omega)
  have A_m_20 := A_m_19.touch hb20 (by omega) (by omega)
  have A_tn_20 := A_tn_19.touch hb20 (by omega) (by omega)
  have K_ws_20 := Lib.hid (K_ws_19.out.touch hb20 (by omega))
  have V0_20 := V0_19.touch hb20 (by omega)
  have K_X0_20 := Lib.hid (K_X0_19.out.touch hb20 (by omega))
  have X2_20 := X2_19.touch hb20 (by omega)
  have G0_20 := G0_19.touch hb20 (by omega)
  clear B19 A_ws_19 A_m_19 A_tn_19 K_ws_19 V0_19 K_X0_19 X2_19 G0_19 hb20
  clear X1_19
  obtain ⟨q0_0, q0_1⟩ := cells2 K_ws_20.out
  obtain ⟨q1_0, q1_1⟩ := cells2 K_X0_20.out
  go_wp2_with fail
  refine (lawMark_I _ _ _ _ _ tn _ X2_20 (by omega) (by omega) (by omega)).mono ?_
  rintro e w21 ⟨rfl, _, hb21⟩
  clear q0_0 q0_1 q1_0 q1_1
  have S21 := hb21.size
  have B21 := below_touch B20 hb21 (by omega) (by omega)
  have A_ws_21 := A_ws_20.touch hb21 (by omega) (by omega)
  have A_m_21 := A_m_20.touch hb21 (by omega) (by omega)
  have A_tn_21 := A_tn_20.touch hb21 (by omega) (by omega)
  have K_ws_21 := Lib.hid (K_ws_20.out.touch hb21 (by omega))
  have V0_21 := V0_20.touch hb21 (by omega)
  have K_X0_21 := Lib.hid (K_X0_20.out.touch hb21 (by omega))
  have G0_21 := G0_20.touch hb21 (by omega)
  clear B20 A_ws_20 A_m_20 A_tn_20 K_ws_20 V0_20 K_X0_20 G0_20 hb21
  clear X2_20
  obtain ⟨q0_0, q0_1⟩ := cells2 K_ws_21.out
  go_wp2_with fail
  refine (lawEq_I' _ _ _ _ _ _ _ r0 (G0_21.rd) (V0_21.rd) (by omega) (by omega) (by omega)).mono ?_
  rintro e w22 ⟨rfl, hb22⟩
  clear q0_0 q0_1
  have S22 := hb22.size
  have B22 := below_then B21 hb22
  have A_ws_22 := A_ws_21.below hb22 (by omega)
  have A_m_22 := A_m_21.below hb22 (by omega)
  have A_tn_22 := A_tn_21.below hb22 (by omega)
  have K_ws_22 := Lib.hid (K_ws_21.out.same hb22)
  have V0_22 := V0_21.keep hb22
  have G0_22 := G0_21.keep hb22
  clear B21 A_ws_21 A_m_21 A_tn_21 K_ws_21 V0_21 G0_21 hb22
  obtain ⟨q0_0, q0_1⟩ := cells2 K_ws_22.out
  go_wp2_with fail
  refine (lawMark_I _ _ _ _ _ r0 _ G0_22 (by omega) (by omega) (by omega)).mono ?_
  rintro e w23 ⟨rfl, o23, hb23⟩
  clear q0_0 q0_1
  have S23 := hb23.size
  have B23 := below_touch B22 hb23 (by omega) (by omega)
  have A_ws_23 := A_ws_22.touch hb23 (by omega) (by omega)
  have A_m_23 := A_m_22.touch hb23 (by omega) (by omega)
  have A_tn_23 := A_tn_22.touch hb23 (by omega) (by omega)
  have K_ws_23 := Lib.hid (K_ws_22.out.touch hb23 (by omega))
  have V0_23 := V0_22.touch hb23 (by omega)
  clear B22 A_ws_22 A_m_22 A_tn_22 K_ws_22 V0_22 hb23
  clear G0_22
  obtain ⟨q0_0, q0_1⟩ := cells2 K_ws_23.out
  go_wp2_with fail
  refine (lawHeld_I _ _ _ _ r0.length _ o23.rd (by omega) (by omega) (by omega) (by omega)).mono ?_
  rintro e w24 ⟨rfl, hb24⟩
  clear q0_0 q0_1
  have S24 := hb24.size
  have B24 := below_then B23 hb24
  have A_ws_24 := A_ws_23.below hb24 (by omega)
  have A_m_24 := A_m_23.below hb24 (by omega)
  have A_tn_24 := A_tn_23.below hb24 (by omega)
  have K_ws_24 := Lib.hid (K_ws_23.out.same hb24)
  have V0_24 := V0_23.keep hb24
  have G0_24 := o23.keep hb24
  clear B23 A_ws_23 A_m_23 A_tn_23 K_ws_23 V0_23 o23 hb24
  obtain ⟨q0_0, q0_1⟩ := cells2 K_ws_24.out
  go_wp2_with fail
  refine (lawTo_Wishes _ _ _ _ _ _ _ _  A_ws_24 (by omega) hl_ws_x0 hin_ws_x0.out hl_ws_x1 hin_ws_x1.out).mono ?_
  rintro e w25 ⟨v0_Z0, v1_Z0, v2_Z0, v3_Z0, rfl, o25, hb25⟩
  clear q0_0 q0_1
  have S25 := hb25.size
  have B25 := below_then B24 hb25
  have A_ws_25 := A_ws_24.below hb25 (by omega)
  have A_m_25 := A_m_24.below hb25 (by omega)
  have A_tn_25 := A_tn_24.below hb25 (by omega)
  have K_ws_25 := Lib.hid (K_ws_24.out.same hb25)
  have V0_25 := V0_24.keep hb25
  have G0_25 := G0_24.keep hb25
  clear B24 A_ws_24 A_m_24 A_tn_24 K_ws_24 V0_24 G0_24 hb25
  obtain ⟨q0_0, q0_1⟩ := cells2 K_ws_25.out
  go_wp2_with fail
  refine (lawTo_I _ _ _ _ m A_m_25 (by omega) hl_m).mono ?_
  rintro e w26 ⟨v0_Z1, v1_Z1, rfl, o26, hb26⟩
  clear q0_0 q0_1
  have S26 := hb26.size
  have B26 := below_then B25 hb26
  have A_ws_26 := A_ws_25.below hb26 (by omega)
  have A_m_26 := A_m_25.below hb26 (by omega)
  have A_tn_26 := A_tn_25.below hb26 (by omega)
  have K_ws_26 := Lib.hid (K_ws_25.out.same hb26)
  have V0_26 := V0_25.keep hb26
  have G0_26 := G0_25.keep hb26
  have Z0_26 := o25.keep hb26
  clear B25 A_ws_25 A_m_25 A_tn_25 K_ws_25 V0_25 G0_25 o25 hb26
  obtain ⟨q0_0, q0_1⟩ := cells2 K_ws_26.out
  go_wp2_with fail
  refine (lawTo_I _ _ _ _ tn A_tn_26 (by omega) hl_tn).mono ?_
  rintro e w27 ⟨v0_Z2, v1_Z2, rfl, o27, hb27⟩
  clear q0_0 q0_1
  have S27 := hb27.size
  have B27 := below_then B26 hb27
  have A_ws_27 := A_ws_26.below hb27 (by omega)
  have A_m_27 := A_m_26.below hb27 (by omega)
  have A_tn_27 := A_tn_26.below hb27 (by omega)
  have K_ws_27 := Lib.hid (K_ws_26.out.same hb27)
  have V0_27 := V0_26.keep hb27
  have G0_27 := G0_26.keep hb27
  have Z0_27 := Z0_26.keep hb27
  have Z1_27 := o26.keep hb27
  clear B26 A_ws_26 A_m_26 A_tn_26 K_ws_26 V0_26 G0_26 Z0_26 o26 hb27
  obtain ⟨q0_0, q0_1⟩ := cells2 K_ws_27.out
  go_wp2_with fail
  refine (H1.out _ _ _ _ _ _ (Z0_27.rd) (by omega) _ _ _ (Z1_27.rd) (by omega) Z1_27.cap _ _ _ (o27.rd) (by omega) o27.cap).mono ?_
  rintro e w28 ⟨a_K0, c_K0, rfl, o28_0, hb28⟩
  clear q0_0 q0_1
  have S28 := hb28.size
  have B28 := below_then B27 hb28
  have A_ws_28 := A_ws_27.below hb28 (by omega)
  have A_m_28 := A_m_27.below hb28 (by omega)
  have A_tn_28 := A_tn_27.below hb28 (by omega)
  have K_ws_28 := Lib.hid (K_ws_27.out.same hb28)
  have V0_28 := V0_27.keep hb28
  have G0_28 := G0_27.keep hb28
  have Z0_28 := Z0_27.keep hb28
  have Z1_28 := Z1_27.keep hb28
  have Z2_28 := o27.keep hb28
  clear B27 A_ws_27 A_m_27 A_tn_27 K_ws_27 V0_27 G0_27 Z0_27 Z1_27 o27 hb28
  obtain ⟨q0_0, q0_1⟩ := cells2 K_ws_28.out
  go_wp2_with fail
  refine (lawEq_I' _ _ _ _ _ _ _ r0 (o28_0.rd) (V0_28.rd) (by omega) (by omega) (by omega)).mono ?_
  rintro e w29 ⟨rfl, hb29⟩
  clear q0_0 q0_1
  have S29 := hb29.size
  have B29 := below_then B28 hb29
  have A_ws_29 := A_ws_28.below hb29 (by omega)
  have A_m_29 := A_m_28.below hb29 (by omega)
  have A_tn_29 := A_tn_28.below hb29 (by omega)
  have K_ws_29 := Lib.hid (K_ws_28.out.same hb29)
  have V0_29 := V0_28.keep hb29
  have G0_29 := G0_28.keep hb29
  have K0_29 := o28_0.keep hb29
  clear B28 A_ws_28 A_m_28 A_tn_28 K_ws_28 V0_28 G0_28 o28_0 hb29
  obtain ⟨q0_0, q0_1⟩ := cells2 K_ws_29.out
  go_wp2_with fail
  refine (lawHeld_I _ _ _ _ r0.length _ G0_29.rd (by omega) (by omega) (by omega) (by omega)).mono ?_
  rintro e w30 ⟨rfl, hb30⟩
  clear q0_0 q0_1
  have S30 := hb30.size
  have B30 := below_then B29 hb30
  have A_ws_30 := A_ws_29.below hb30 (by omega)
  have A_m_30 := A_m_29.below hb30 (by omega)
  have A_tn_30 := A_tn_29.below hb30 (by omega)
  have K_ws_30 := Lib.hid (K_ws_29.out.same hb30)
  have V0_30 := V0_29.keep hb30
  have G0_30 := G0_29.keep hb30
  have K0_30 := K0_29.keep hb30
  clear B29 A_ws_29 A_m_29 A_tn_29 K_ws_29 V0_29 G0_29 K0_29 hb30
  go_wp2_with fail
  go_ret
  exact ⟨rfl, B30⟩

end Go.Proofs.Ytdipckpcmnhpjaa
