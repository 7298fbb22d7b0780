/-
  FnExactTurnsOf answers true: the law's walk.
-/
import Derived.Test.YtdipckpcmnhpjaaLawInts
import Derived.Test.YtdipckpcmnhpjaaLawLL
import Derived.Test.YtdipckpcmnhpjaaWishesT
import Derived.Test.YtdipckpcmnhpjaaMatTR
namespace Go.Proofs.Ytdipckpcmnhpjaa
set_option linter.unusedVariables false
set_option linter.unusedSimpArgs false
open Go.RowKit

theorem cells2 {w : World} {g : Nat} {v0 v1 : Value} {t : TypeId} (h : Blk w g [v0, v1] t) : w.cell? ⟨g, 0, none⟩ = some v0 ∧ w.cell? ⟨g, 1, none⟩ = some v1 := ⟨h.cell 0, h.cell 1⟩
theorem two2 {w : World} {g k : Nat} {v0 v1 u0 u1 : Value} {t s : TypeId} (h : Blk w g [v0, v1] t) (h2 : Blk w k [u0, u1] s) : w.cell? ⟨g, 0, none⟩ = some v0 ∧ w.cell? ⟨g, 1, none⟩ = some v1 ∧ w.cell? ⟨k, 0, none⟩ = some u0 ∧ w.cell? ⟨k, 1, none⟩ = some u1 := ⟨h.cell 0, h.cell 1, h2.cell 0, h2.cell 1⟩
def boxed2 (w : World) (t : TypeId) (v0 v1 : Value) : World := w.alloc (.cells #[v0, v1] t)
theorem box2 (w : World) (t : TypeId) (v0 v1 : Value) : Below w.heap.size w (boxed2 w t v0 v1) ∧ Blk (boxed2 w t v0 v1) w.heap.size [v0, v1] t ∧ (boxed2 w t v0 v1).heap.size = w.heap.size + 1 := ⟨bl1 _ _, Blk.new w [v0, v1] t, by simp [boxed2]⟩

theorem turnsOfF_len (w : Wi) (m : List Int) (h : w.L.length ≤ 1048576) : ((turnsOfF w m).getD []).length ≤ 1048576 := by
  unfold turnsOfF
  split
  · have := TF_len w m w.L.length
    rw [TF_all] at this
    simp; omega
  · simp
theorem turnsOfF_in (w : Wi) (m : List Int) (h : w.L.length ≤ 1048576) : ∀ y ∈ (turnsOfF w m).getD [], y.length ≤ 1048576 := by
  unfold turnsOfF
  split
  · rename_i hh
    have h8 := (wish_of (Bool.and_eq_true _ _ ▸ hh : wishB w = true ∧ _).1).n8
    intro y hy
    rw [Option.getD_some, ← TF_all] at hy
    have := TF_in hy
    omega
  · simp
theorem flatI_TurnsOf (w : World) (ws_x0 : List (List Int)) (ws_x1 : List (List Int)) (hl_ws_x0 : ws_x0.length ≤ 1048576) (hin_ws_x0 : ∀ y ∈ ws_x0, y.length ≤ 1048576) (hl_ws_x1 : ws_x1.length ≤ 1048576) (hin_ws_x1 : ∀ y ∈ ws_x1, y.length ≤ 1048576) (m : List Int) (hl_m : m.length ≤ 1048576) (B_ws : Nat) (ws_a0 : Option Addr) (ws_c0 : Nat) (ws_a1 : Option Addr) (ws_c1 : Nat) (h_ws : RdWishes w B_ws ws_a0 ws_x0 ws_a1 ws_x1) (hB_ws : B_ws ≤ w.heap.size) (B_m : Nat) (a_m : Option Addr) (c_m : Nat) (h_m : Rd w B_m a_m (ints m)) (hB_m : B_m ≤ w.heap.size) (hc_m : m.length ≤ c_m) :
    Calls Try.prog 41 #[.agg #[.slice ws_a0 ws_x0.length ws_c0, .slice ws_a1 ws_x1.length ws_c1], .slice a_m m.length c_m] w fun e w' => ∃ a0 c0, e = .returned (.tuple #[.slice a0 ((turnsOfF ⟨ws_x0, ws_x1⟩ m).getD []).length c0, .bool ((turnsOfF ⟨ws_x0, ws_x1⟩ m).isSome)]) ∧ OwnLL 2 25 w' w.heap.size w'.heap.size a0 c0 ((turnsOfF ⟨ws_x0, ws_x1⟩ m).getD []) ∧ Below w.heap.size w w' :=
  flat_ofM (turnsOf_any w ws_a0 ws_c0 ws_x0 ws_a1 ws_c1 ws_x1 a_m c_m m (h_ws.mono hB_ws) hl_ws_x0 hin_ws_x0 hl_ws_x1 hin_ws_x1 (h_m.mono hB_m) hl_m)
theorem flatS_TurnsOf (w : World) (ws_x0 : List (List Int)) (ws_x1 : List (List Int)) (hl_ws_x0 : ws_x0.length ≤ 1048576) (hin_ws_x0 : ∀ y ∈ ws_x0, y.length ≤ 1048576) (hl_ws_x1 : ws_x1.length ≤ 1048576) (hin_ws_x1 : ∀ y ∈ ws_x1, y.length ≤ 1048576) (m : List Int) (hl_m : m.length ≤ 1048576) (B_ws : Nat) (ws_a0 : Option Addr) (ws_c0 : Nat) (ws_a1 : Option Addr) (ws_c1 : Nat) (h_ws : RdWishes w B_ws ws_a0 ws_x0 ws_a1 ws_x1) (hB_ws : B_ws ≤ w.heap.size) (B_m : Nat) (a_m : Option Addr) (c_m : Nat) (h_m : Rd w B_m a_m (ints m)) (hB_m : B_m ≤ w.heap.size) (hc_m : m.length ≤ c_m) :
    Calls Try.prog 40 #[.agg #[.slice ws_a0 ws_x0.length ws_c0, .slice ws_a1 ws_x1.length ws_c1], .slice a_m m.length c_m] w fun e w' => ∃ a0 c0, e = .returned (.tuple #[.slice a0 ((turnsOfF ⟨ws_x0, ws_x1⟩ m).getD []).length c0, .bool ((turnsOfF ⟨ws_x0, ws_x1⟩ m).isSome)]) ∧ OwnLL 2 25 w' w.heap.size w'.heap.size a0 c0 ((turnsOfF ⟨ws_x0, ws_x1⟩ m).getD []) ∧ Below w.heap.size w w' :=
  flat_ofM (turnsOfR_any w ws_a0 ws_c0 ws_x0 ws_a1 ws_c1 ws_x1 a_m c_m m (h_ws.mono hB_ws) hl_ws_x0 hin_ws_x0 hl_ws_x1 hin_ws_x1 (h_m.mono hB_m) hl_m hc_m)

set_option maxRecDepth 10000 in
set_option maxHeartbeats 8000000 in
theorem law_ExactTurnsOf (w : World) (ws_a0 : Option Addr) (ws_c0 : Nat) (ws_x0 : List (List Int)) (ws_a1 : Option Addr) (ws_c1 : Nat) (ws_x1 : List (List Int)) (a_m : Option Addr) (c_m : Nat) (m : List Int) (h_ws : RdWishes w w.heap.size ws_a0 ws_x0 ws_a1 ws_x1) (hl0_ws_x0 : ws_x0.length ≤ 9223372036854775807) (hin0_ws_x0 : ∀ y ∈ ws_x0, y.length ≤ 9223372036854775807) (hl0_ws_x1 : ws_x1.length ≤ 9223372036854775807) (hin0_ws_x1 : ∀ y ∈ ws_x1, y.length ≤ 9223372036854775807) (h_m : Rd w w.heap.size a_m (ints m))  :
    Calls Try.prog 10 #[.agg #[.slice ws_a0 ws_x0.length ws_c0, .slice ws_a1 ws_x1.length ws_c1], .slice a_m m.length c_m] w fun e w' => e = .returned (.bool true) ∧ Below w.heap.size w w' := by
  by_cases hl_m : m.length ≤ 1048576
  case neg =>
    go_enter Try.func10, Try.ntmps10
    go_wp2_with fail
    go_ret
    first | exact ⟨rfl, Below.refl _ _⟩ | exact ⟨rfl, bl1 _ _⟩ | exact ⟨rfl, bl2 _ _ _⟩
  have S_ws := Lib.hid (fun w' hb => lawSz_Wishes w' ws_a0 ws_c0 ws_x0 ws_a1 ws_c1 ws_x1 1048576 (by omega) (by omega) hl0_ws_x0 hin0_ws_x0 hl0_ws_x1 hin0_ws_x1 (h_ws.to hb))
  have hs_ws := szWishesF_spec (left := 1048576) (x0 := ws_x0) (x1 := ws_x1) (show (0 : Int) ≤ 1048576 by omega)
  generalize szWishesF 1048576 ws_x0 ws_x1 = l_ws at *
  obtain ⟨hsa_ws, hsb_ws, hsc_ws⟩ := hs_ws
  by_cases hneg_ws : l_ws < 0
  case pos =>
    clear hsc_ws
    go_enter Try.func10, Try.ntmps10
    go_wp2_with fail
    refine (S_ws.out _ (by first | exact bl1 _ _ | exact bl2 _ _ _)).mono ?_
    rintro e w_ws ⟨rfl, hz_ws⟩
    go_wp2_with fail
    go_ret
    first | exact ⟨rfl, hz_ws⟩ | exact ⟨rfl, below_then (bl1 _ _) (hz_ws)⟩ | exact ⟨rfl, below_then (bl2 _ _ _) (hz_ws)⟩
  have hsd_ws := hsc_ws (by omega)
  obtain ⟨hsd_ws_0, hsi_ws_0, hsd_ws_1, hsi_ws_1⟩ := hsd_ws
  have hl_ws_x0 : ws_x0.length ≤ 1048576 := by omega
  have hin_ws_x0 : Hid (∀ y ∈ ws_x0, y.length ≤ 1048576) := fun y hy => by have := hsi_ws_0 y hy; omega
  have hl_ws_x1 : ws_x1.length ≤ 1048576 := by omega
  have hin_ws_x1 : Hid (∀ y ∈ ws_x1, y.length ≤ 1048576) := fun y hy => by have := hsi_ws_1 y hy; omega
  clear hsc_ws hl0_ws_x0 hsd_ws_0 hin0_ws_x0 hsi_ws_0 hl0_ws_x1 hsd_ws_1 hin0_ws_x1 hsi_ws_1
  have hrl0 := turnsOfF_len ⟨ws_x0, ws_x1⟩ m hl_ws_x0
  have hrin0 := Lib.hid (turnsOfF_in ⟨ws_x0, ws_x1⟩ m hl_ws_x0)
  have H1 := Lib.hid (fun w' => flatI_TurnsOf w' ws_x0 ws_x1 hl_ws_x0 hin_ws_x0.out hl_ws_x1 hin_ws_x1.out m hl_m)
  have H2 := Lib.hid (fun w' => flatS_TurnsOf w' ws_x0 ws_x1 hl_ws_x0 hin_ws_x0.out hl_ws_x1 hin_ws_x1.out m hl_m)
  generalize (turnsOfF ⟨ws_x0, ws_x1⟩ m).getD [] = r0 at *
  generalize (turnsOfF ⟨ws_x0, ws_x1⟩ m).isSome = r1 at *
  have hsl0 := sumLen_nonneg r0
  have hne1 : (r1 != r1) = false := by simp
  go_enter Try.func10, Try.ntmps10
  have K_ws := Lib.hid (Blk.new (w) [.slice ws_a0 ws_x0.length ws_c0, .slice ws_a1 ws_x1.length ws_c1] 24)
  have hx0 := bl1 (w) (.cells #[.slice ws_a0 ws_x0.length ws_c0, .slice ws_a1 ws_x1.length ws_c1] 24)
  have SW0 : w.heap.size < (w.alloc (.cells #[.slice ws_a0 ws_x0.length ws_c0, .slice ws_a1 ws_x1.length ws_c1] 24)).heap.size := by simp
  have S0 := hx0.size
  have B0 := hx0
  have A_ws_0 := h_ws.below hx0 (by omega)
  have A_m_0 := h_m.below hx0 (by omega)
  clear h_ws h_m hx0
  obtain ⟨q0_0, q0_1⟩ := cells2 K_ws.out
  go_wp2_with fail
  refine (S_ws.out _ B0).mono ?_
  rintro e w1 ⟨rfl, hb1⟩
  clear q0_0 q0_1
  have S1 := hb1.size
  have B1 := below_then B0 hb1
  have A_ws_1 := A_ws_0.below hb1 (by omega)
  have A_m_1 := A_m_0.below hb1 (by omega)
  have K_ws_1 := Lib.hid (K_ws.out.same hb1)
  clear B0 A_ws_0 A_m_0 K_ws hb1
  obtain ⟨q0_0, q0_1⟩ := cells2 K_ws_1.out
  go_wp2_with fail
  refine (lawTo_Wishes _ _ _ _ _ _ _ _  A_ws_1 (by omega) hl_ws_x0 hin_ws_x0.out hl_ws_x1 hin_ws_x1.out).mono ?_
  rintro e w2 ⟨v0_T0, v1_T0, v2_T0, v3_T0, rfl, o2, hb2⟩
  clear q0_0 q0_1
  have S2 := hb2.size
  have B2 := below_then B1 hb2
  have A_ws_2 := A_ws_1.below hb2 (by omega)
  have A_m_2 := A_m_1.below hb2 (by omega)
  have K_ws_2 := Lib.hid (K_ws_1.out.same hb2)
  clear B1 A_ws_1 A_m_1 K_ws_1 hb2
  obtain ⟨q0_0, q0_1⟩ := cells2 K_ws_2.out
  go_wp2_with fail
  refine (lawTo_I _ _ _ _ m A_m_2 (by omega) hl_m).mono ?_
  rintro e w3 ⟨v0_T1, v1_T1, rfl, o3, hb3⟩
  clear q0_0 q0_1
  have S3 := hb3.size
  have B3 := below_then B2 hb3
  have A_ws_3 := A_ws_2.below hb3 (by omega)
  have A_m_3 := A_m_2.below hb3 (by omega)
  have K_ws_3 := Lib.hid (K_ws_2.out.same hb3)
  have T0_3 := o2.keep hb3
  clear B2 A_ws_2 A_m_2 K_ws_2 o2 hb3
  obtain ⟨q0_0, q0_1⟩ := cells2 K_ws_3.out
  go_wp2_with fail
  refine (H2.out _ _ _ _ _ _ (T0_3.rd) (by omega) _ _ _ (o3.rd) (by omega) o3.cap).mono ?_
  rintro e w4 ⟨a_V0, c_V0, rfl, o4_0, hb4⟩
  clear q0_0 q0_1
  have S4 := hb4.size
  have B4 := below_then B3 hb4
  have A_ws_4 := A_ws_3.below hb4 (by omega)
  have A_m_4 := A_m_3.below hb4 (by omega)
  have K_ws_4 := Lib.hid (K_ws_3.out.same hb4)
  have T0_4 := T0_3.keep hb4
  have T1_4 := o3.keep hb4
  clear B3 A_ws_3 A_m_3 K_ws_3 T0_3 o3 hb4
  obtain ⟨q0_0, q0_1⟩ := cells2 K_ws_4.out
  go_wp2_with fail
  refine (lawTo_Wishes _ _ _ _ _ _ _ _  A_ws_4 (by omega) hl_ws_x0 hin_ws_x0.out hl_ws_x1 hin_ws_x1.out).mono ?_
  rintro e w5 ⟨v0_X0, v1_X0, v2_X0, v3_X0, rfl, o5, hb5⟩
  clear q0_0 q0_1
  have S5 := hb5.size
  have B5 := below_then B4 hb5
  have A_ws_5 := A_ws_4.below hb5 (by omega)
  have A_m_5 := A_m_4.below hb5 (by omega)
  have K_ws_5 := Lib.hid (K_ws_4.out.same hb5)
  have V0_5 := o4_0.keep hb5
  clear B4 A_ws_4 A_m_4 K_ws_4 o4_0 hb5
  obtain ⟨q0_0, q0_1⟩ := cells2 K_ws_5.out
  go_wp2_with fail
  have M6 := box2 w5 28 (.slice v0_X0 ws_x0.length v1_X0) (.slice v2_X0 ws_x1.length v3_X0)
  obtain ⟨w6, hW6⟩ : ∃ W, W = boxed2 w5 28 (.slice v0_X0 ws_x0.length v1_X0) (.slice v2_X0 ws_x1.length v3_X0) := ⟨_, rfl⟩
  rw [← hW6] at M6
  simp only [boxed2] at hW6
  try rw [← hW6]
  clear hW6
  obtain ⟨hb6, KX, SX6⟩ := M6
  have K_X0 := Lib.hid KX
  clear KX
  have S6 := hb6.size
  have B6 := below_then B5 hb6
  have A_ws_6 := A_ws_5.below hb6 (by omega)
  have A_m_6 := A_m_5.below hb6 (by omega)
  have K_ws_6 := Lib.hid (K_ws_5.out.same hb6)
  have V0_6 := V0_5.keep hb6
  have X0_6 := o5.keep hb6
  clear B5 A_ws_5 A_m_5 K_ws_5 V0_5 o5 hb6
  refine (lawTo_I _ _ _ _ m A_m_6 (by omega) hl_m).mono ?_
  rintro e w7 ⟨v0_X1, v1_X1, rfl, o7, hb7⟩
  clear q0_0 q0_1
  have S7 := hb7.size
  have B7 := below_then B6 hb7
  have A_ws_7 := A_ws_6.below hb7 (by omega)
  have A_m_7 := A_m_6.below hb7 (by omega)
  have K_ws_7 := Lib.hid (K_ws_6.out.same hb7)
  have V0_7 := V0_6.keep hb7
  have X0_7 := X0_6.keep hb7
  have K_X0_7 := Lib.hid (K_X0.out.same hb7)
  clear B6 A_ws_6 A_m_6 K_ws_6 V0_6 X0_6 K_X0 hb7
  obtain ⟨q0_0, q0_1⟩ := cells2 K_ws_7.out
  obtain ⟨q1_0, q1_1⟩ := cells2 K_X0_7.out
  go_wp2_with fail
  refine (H1.out _ _ _ _ _ _ (X0_7.rd) (by omega) _ _ _ (o7.rd) (by omega) o7.cap).mono ?_
  rintro e w8 ⟨a_G0, c_G0, rfl, o8_0, hb8⟩
  clear q0_0 q0_1 q1_0 q1_1
  have S8 := hb8.size
  have B8 := below_then B7 hb8
  have A_ws_8 := A_ws_7.below hb8 (by omega)
  have A_m_8 := A_m_7.below hb8 (by omega)
  have K_ws_8 := Lib.hid (K_ws_7.out.same hb8)
  have V0_8 := V0_7.keep hb8
  have X0_8 := X0_7.keep hb8
  have K_X0_8 := Lib.hid (K_X0_7.out.same hb8)
  have X1_8 := o7.keep hb8
  clear B7 A_ws_7 A_m_7 K_ws_7 V0_7 X0_7 K_X0_7 o7 hb8
  obtain ⟨q0_0, q0_1⟩ := cells2 K_ws_8.out
  obtain ⟨q1_0, q1_1⟩ := cells2 K_X0_8.out
  go_wp2_with fail
  refine (lawEq_II _ _ _ _ _ _ _ r0 (o8_0.rd) (V0_8.rd) (by omega) (by omega) hrl0 hrin0.out).mono ?_
  rintro e w9 ⟨rfl, hb9⟩
  clear q0_0 q0_1 q1_0 q1_1
  have S9 := hb9.size
  have B9 := below_then B8 hb9
  have A_ws_9 := A_ws_8.below hb9 (by omega)
  have A_m_9 := A_m_8.below hb9 (by omega)
  have K_ws_9 := Lib.hid (K_ws_8.out.same hb9)
  have V0_9 := V0_8.keep hb9
  have X0_9 := X0_8.keep hb9
  have K_X0_9 := Lib.hid (K_X0_8.out.same hb9)
  have X1_9 := X1_8.keep hb9
  have G0_9 := o8_0.keep hb9
  clear B8 A_ws_8 A_m_8 K_ws_8 V0_8 X0_8 K_X0_8 X1_8 o8_0 hb9
  obtain ⟨q0_0, q0_1⟩ := cells2 K_ws_9.out
  obtain ⟨q1_0, q1_1⟩ := cells2 K_X0_9.out
  go_wp2_with fail
  have hb10 := below_drew' (Below.refl w9.heap.size w9)
  have S10 := hb10.size
  have B10 := below_then B9 hb10
  have A_ws_10 := A_ws_9.below hb10 (by omega)
  have A_m_10 := A_m_9.below hb10 (by omega)
  have K_ws_10 := Lib.hid (K_ws_9.out.same hb10)
  have V0_10 := V0_9.keep hb10
  have X0_10 := X0_9.keep hb10
  have K_X0_10 := Lib.hid (K_X0_9.out.same hb10)
  have X1_10 := X1_9.keep hb10
  have G0_10 := G0_9.keep hb10
  clear B9 A_ws_9 A_m_9 K_ws_9 V0_9 X0_9 K_X0_9 X1_9 G0_9 hb10
  go_region_held3 (fun w' => w'.cell? ⟨w5.heap.size, 0, none⟩ = some (.slice v0_X0 ws_x0.length v1_X0) ∧ w'.cell? ⟨w5.heap.size, 1, none⟩ = some (.slice v2_X0 ws_x1.length v3_X0) ∧ w'.cell? ⟨w.heap.size, 0, none⟩ = some (.slice ws_a0 ws_x0.length ws_c0) ∧ w'.cell? ⟨w.heap.size, 1, none⟩ = some (.slice ws_a1 ws_x1.length ws_c1))
    (first | go_keep | exact two2 K_X0_10.out K_ws_10.out | exact two2 (K_X0_10.out.same hbq) (K_ws_10.out.same hbq) | exact two2 ((K_X0_10.out.same hbq).same hbr) ((K_ws_10.out.same hbq).same hbr))
    (first | (go_at_call 17; refine (lawTo_Wishes _ _ _ _ _ _ _ _  A_ws_10 (by omega) hl_ws_x0 hin_ws_x0.out hl_ws_x1 hin_ws_x1.out).mono ?_; rintro e wq ⟨v0_Y0, v1_Y0, v2_Y0, v3_Y0, rfl, oq, hbq⟩) | (go_at_call 20; have SQ := hbq.size; refine (lawEq_Wishes _ _ _ _ _ _ _ _ _ _ _ _ _  ((X0_10.keep hbq).rd) (oq.rd) (by omega) (by omega) hl_ws_x0 hin_ws_x0.out hl_ws_x1 hin_ws_x1.out).mono ?_; rintro e wr ⟨rfl, hbr⟩))
  clear q0_0 q0_1 q1_0 q1_1
  have hb11 := hbq
  clear hbq oq
  have S11 := hb11.size
  have B11 := below_then B10 hb11
  have A_ws_11 := A_ws_10.below hb11 (by omega)
  have A_m_11 := A_m_10.below hb11 (by omega)
  have K_ws_11 := Lib.hid (K_ws_10.out.same hb11)
  have V0_11 := V0_10.keep hb11
  have X0_11 := X0_10.keep hb11
  have K_X0_11 := Lib.hid (K_X0_10.out.same hb11)
  have X1_11 := X1_10.keep hb11
  have G0_11 := G0_10.keep hb11
  clear B10 A_ws_10 A_m_10 K_ws_10 V0_10 X0_10 K_X0_10 X1_10 G0_10 hb11
  have hb12 := hbr
  clear hbr
  have S12 := hb12.size
  have B12 := below_then B11 hb12
  have A_ws_12 := A_ws_11.below hb12 (by omega)
  have A_m_12 := A_m_11.below hb12 (by omega)
  have K_ws_12 := Lib.hid (K_ws_11.out.same hb12)
  have V0_12 := V0_11.keep hb12
  have X0_12 := X0_11.keep hb12
  have K_X0_12 := Lib.hid (K_X0_11.out.same hb12)
  have X1_12 := X1_11.keep hb12
  have G0_12 := G0_11.keep hb12
  clear B11 A_ws_11 A_m_11 K_ws_11 V0_11 X0_11 K_X0_11 X1_11 G0_11 hb12
  obtain ⟨q0_0, q0_1⟩ := cells2 K_ws_12.out
  obtain ⟨q1_0, q1_1⟩ := cells2 K_X0_12.out
  go_wp2_with fail
  refine (lawTo_I _ _ _ _ m A_m_12 (by omega) hl_m).mono ?_
  rintro e w13 ⟨v0_Y1, v1_Y1, rfl, o13, hb13⟩
  clear q0_0 q0_1 q1_0 q1_1
  have S13 := hb13.size
  have B13 := below_then B12 hb13
  have A_ws_13 := A_ws_12.below hb13 (by omega)
  have A_m_13 := A_m_12.below hb13 (by omega)
  have K_ws_13 := Lib.hid (K_ws_12.out.same hb13)
  have V0_13 := V0_12.keep hb13
  have X0_13 := X0_12.keep hb13
  have K_X0_13 := Lib.hid (K_X0_12.out.same hb13)
  have X1_13 := X1_12.keep hb13
  have G0_13 := G0_12.keep hb13
  clear B12 A_ws_12 A_m_12 K_ws_12 V0_12 X0_12 K_X0_12 X1_12 G0_12 hb13
  obtain ⟨q0_0, q0_1⟩ := cells2 K_ws_13.out
  obtain ⟨q1_0, q1_1⟩ := cells2 K_X0_13.out
  go_wp2_with fail
  refine (lawEq_I' _ _ _ _ _ _ _ m (X1_13.rd) (o13.rd) (by omega) (by omega) (by omega)).mono ?_
  rintro e w14 ⟨rfl, hb14⟩
  clear q0_0 q0_1 q1_0 q1_1
  have S14 := hb14.size
  have B14 := below_then B13 hb14
  have A_ws_14 := A_ws_13.below hb14 (by omega)
  have A_m_14 := A_m_13.below hb14 (by omega)
  have K_ws_14 := Lib.hid (K_ws_13.out.same hb14)
  have V0_14 := V0_13.keep hb14
  have X0_14 := X0_13.keep hb14
  have K_X0_14 := Lib.hid (K_X0_13.out.same hb14)
  have X1_14 := X1_13.keep hb14
  have G0_14 := G0_13.keep hb14
  have Y1_14 := o13.keep hb14
  clear B13 A_ws_13 A_m_13 K_ws_13 V0_13 X0_13 K_X0_13 X1_13 G0_13 o13 hb14
  obtain ⟨q0_0, q0_1⟩ := cells2 K_ws_14.out
  obtain ⟨q1_0, q1_1⟩ := cells2 K_X0_14.out
  go_wp2_with fail
  refine (lawMark_Wishes _ _ _ _ _ _ _ _ _  _ X0_14 (by omega) hl_ws_x0 hin_ws_x0.out hl_ws_x1 hin_ws_x1.out (by omega) (by omega)).mono ?_
  rintro e w15 ⟨mk_ws, rfl, ⟨mka_ws, mkb_ws⟩, hb15⟩
  clear q0_0 q0_1 q1_0 q1_1
  have S15 := hb15.size
  have B15 := below_touch B14 hb15 (by omega) (by omega)
  have A_ws_15 := A_ws_14.touch hb15 (by omega) (by omega)
  have A_m_15 := A_m_14.touch hb15 (by omega) (by omega)
  have K_ws_15 := Lib.hid (K_ws_14.out.touch hb15 (by omega))
  have V0_15 := V0_14.touch hb15 (by omega)
  have K_X0_15 := Lib.hid (K_X0_14.out.touch hb15 (by omega))
  have X1_15 := X1_14.touch hb15 (by omega)
  have G0_15 := G0_14.touch hb15 (by omega)
  clear B14 A_ws_14 A_m_14 K_ws_14 V0_14 K_X0_14 X1_14 G0_14 hb15
  clear X0_14
  obtain ⟨q0_0, q0_1⟩ := cells2 K_ws_15.out
  obtain ⟨q1_0, q1_1⟩ := cells2 K_X0_15.out
  go_wp2_with fail
  refine (lawMark_I _ _ _ _ _ m _ X1_15 (by omega) (by omega) (by omega)).mono ?_
  rintro e w16 ⟨rfl, _, hb16⟩
  clear q0_0 q0_1 q1_0 q1_1
  have S16 := hb16.size
  have B16 := below_touch B15 hb16 (by omega) (by omega)
  have A_ws_16 := A_ws_15.touch hb16 (by omega) (by omega)
  have A_m_16 := A_m_15.touch hb16 (by omega) (by omega)
  have K_ws_16 := Lib.hid (K_ws_15.out.touch hb16 (by omega))
  have V0_16 := V0_15.touch hb16 (by omega)
  have K_X0_16 := Lib.hid (K_X0_15.out.touch hb16 (by omega))
  have G0_16 := G0_15.touch hb16 (by omega)
  clear B15 A_ws_15 A_m_15 K_ws_15 V0_15 K_X0_15 G0_15 hb16
  clear X1_15
  obtain ⟨q0_0, q0_1⟩ := cells2 K_ws_16.out
  go_wp2_with fail
  refine (lawEq_II _ _ _ _ _ _ _ r0 (G0_16.rd) (V0_16.rd) (by omega) (by omega) hrl0 hrin0.out).mono ?_
  rintro e w17 ⟨rfl, hb17⟩
  clear q0_0 q0_1
  have S17 := hb17.size
  have B17 := below_then B16 hb17
  have A_ws_17 := A_ws_16.below hb17 (by omega)
  have A_m_17 := A_m_16.below hb17 (by omega)
  have K_ws_17 := Lib.hid (K_ws_16.out.same hb17)
  have V0_17 := V0_16.keep hb17
  have G0_17 := G0_16.keep hb17
  clear B16 A_ws_16 A_m_16 K_ws_16 V0_16 G0_16 hb17
  obtain ⟨q0_0, q0_1⟩ := cells2 K_ws_17.out
  go_wp2_with fail
  refine (lawMark_LL _ _ _ _ _ r0 (1) G0_17 hrl0 hrin0.out (by omega) (by omega)).mono ?_
  rintro e w18 ⟨rfl, o18, hb18⟩
  clear q0_0 q0_1
  have S18 := hb18.size
  have B18 := below_touch B17 hb18 (by omega) (by omega)
  have A_ws_18 := A_ws_17.touch hb18 (by omega) (by omega)
  have A_m_18 := A_m_17.touch hb18 (by omega) (by omega)
  have K_ws_18 := Lib.hid (K_ws_17.out.touch hb18 (by omega))
  have V0_18 := V0_17.touch hb18 (by omega)
  clear B17 A_ws_17 A_m_17 K_ws_17 V0_17 hb18
  clear G0_17
  obtain ⟨q0_0, q0_1⟩ := cells2 K_ws_18.out
  go_wp2_with fail
  refine (lawHeld_LL _ _ _ _ r0 _ o18.rd (by omega) hrl0 hrin0.out (by omega) (by omega)).mono ?_
  rintro e w19 ⟨rfl, hb19⟩
  clear q0_0 q0_1
  have S19 := hb19.size
  have B19 := below_then B18 hb19
  have A_ws_19 := A_ws_18.below hb19 (by omega)
  have A_m_19 := A_m_18.below hb19 (by omega)
  have K_ws_19 := Lib.hid (K_ws_18.out.same hb19)
  have V0_19 := V0_18.keep hb19
  have G0_19 := o18.keep hb19
  clear B18 A_ws_18 A_m_18 K_ws_18 V0_18 o18 hb19
  obtain ⟨q0_0, q0_1⟩ := cells2 K_ws_19.out
  go_wp2_with fail
  refine (lawTo_Wishes _ _ _ _ _ _ _ _  A_ws_19 (by omega) hl_ws_x0 hin_ws_x0.out hl_ws_x1 hin_ws_x1.out).mono ?_
  rintro e w20 ⟨v0_Z0, v1_Z0, v2_Z0, v3_Z0, rfl, o20, hb20⟩
  clear q0_0 q0_1
  have S20 := hb20.size
  have B20 := below_then B19 hb20
  have A_ws_20 := A_ws_19.below hb20 (by omega)
  have A_m_20 := A_m_19.below hb20 (by omega)
  have K_ws_20 := Lib.hid (K_ws_19.out.same hb20)
  have V0_20 := V0_19.keep hb20
  have G0_20 := G0_19.keep hb20
  clear B19 A_ws_19 A_m_19 K_ws_19 V0_19 G0_19 hb20
  obtain ⟨q0_0, q0_1⟩ := cells2 K_ws_20.out
  go_wp2_with fail
  refine (lawTo_I _ _ _ _ m A_m_20 (by omega) hl_m).mono ?_
  rintro e w21 ⟨v0_Z1, v1_Z1, rfl, o21, hb21⟩
  clear q0_0 q0_1
  have S21 := hb21.size
  have B21 := below_then B20 hb21
  have A_ws_21 := A_ws_20.below hb21 (by omega)
  have A_m_21 := A_m_20.below hb21 (by omega)
  have K_ws_21 := Lib.hid (K_ws_20.out.same hb21)
  have V0_21 := V0_20.keep hb21
  have G0_21 := G0_20.keep hb21
  have Z0_21 := o20.keep hb21
  clear B20 A_ws_20 A_m_20 K_ws_20 V0_20 G0_20 o20 hb21
  obtain ⟨q0_0, q0_1⟩ := cells2 K_ws_21.out
  go_wp2_with fail
  refine (H1.out _ _ _ _ _ _ (Z0_21.rd) (by omega) _ _ _ (o21.rd) (by omega) o21.cap).mono ?_
  rintro e w22 ⟨a_K0, c_K0, rfl, o22_0, hb22⟩
  clear q0_0 q0_1
  have S22 := hb22.size
  have B22 := below_then B21 hb22
  have A_ws_22 := A_ws_21.below hb22 (by omega)
  have A_m_22 := A_m_21.below hb22 (by omega)
  have K_ws_22 := Lib.hid (K_ws_21.out.same hb22)
  have V0_22 := V0_21.keep hb22
  have G0_22 := G0_21.keep hb22
  have Z0_22 := Z0_21.keep hb22
  have Z1_22 := o21.keep hb22
  clear B21 A_ws_21 A_m_21 K_ws_21 V0_21 G0_21 Z0_21 o21 hb22
  obtain ⟨q0_0, q0_1⟩ := cells2 K_ws_22.out
  go_wp2_with fail
  refine (lawEq_II _ _ _ _ _ _ _ r0 (o22_0.rd) (V0_22.rd) (by omega) (by omega) hrl0 hrin0.out).mono ?_
  rintro e w23 ⟨rfl, hb23⟩
  clear q0_0 q0_1
  have S23 := hb23.size
  have B23 := below_then B22 hb23
  have A_ws_23 := A_ws_22.below hb23 (by omega)
  have A_m_23 := A_m_22.below hb23 (by omega)
  have K_ws_23 := Lib.hid (K_ws_22.out.same hb23)
  have V0_23 := V0_22.keep hb23
  have G0_23 := G0_22.keep hb23
  have K0_23 := o22_0.keep hb23
  clear B22 A_ws_22 A_m_22 K_ws_22 V0_22 G0_22 o22_0 hb23
  obtain ⟨q0_0, q0_1⟩ := cells2 K_ws_23.out
  go_wp2_with fail
  refine (lawHeld_LL _ _ _ _ r0 _ G0_23.rd (by omega) hrl0 hrin0.out (by omega) (by omega)).mono ?_
  rintro e w24 ⟨rfl, hb24⟩
  clear q0_0 q0_1
  have S24 := hb24.size
  have B24 := below_then B23 hb24
  have A_ws_24 := A_ws_23.below hb24 (by omega)
  have A_m_24 := A_m_23.below hb24 (by omega)
  have K_ws_24 := Lib.hid (K_ws_23.out.same hb24)
  have V0_24 := V0_23.keep hb24
  have G0_24 := G0_23.keep hb24
  have K0_24 := K0_23.keep hb24
  clear B23 A_ws_23 A_m_23 K_ws_23 V0_23 G0_23 K0_23 hb24
  go_wp2_with fail
  go_ret
  exact ⟨rfl, B24⟩

end Go.Proofs.Ytdipckpcmnhpjaa
