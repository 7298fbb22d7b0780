/-
  FnExactFairMatch answers true: the law's walk.
-/
import Derived.Test.YtdipckpcmnhpjaaLawInts
import Derived.Test.YtdipckpcmnhpjaaWishesT
import Derived.Test.YtdipckpcmnhpjaaFair
namespace Go.Proofs.Ytdipckpcmnhpjaa
set_option linter.unusedVariables false
set_option linter.unusedSimpArgs false
open Go.RowKit

theorem cells2 {w : World} {g : Nat} {v0 v1 : Value} {t : TypeId} (h : Blk w g [v0, v1] t) : w.cell? ⟨g, 0, none⟩ = some v0 ∧ w.cell? ⟨g, 1, none⟩ = some v1 := ⟨h.cell 0, h.cell 1⟩
theorem two2 {w : World} {g k : Nat} {v0 v1 u0 u1 : Value} {t s : TypeId} (h : Blk w g [v0, v1] t) (h2 : Blk w k [u0, u1] s) : w.cell? ⟨g, 0, none⟩ = some v0 ∧ w.cell? ⟨g, 1, none⟩ = some v1 ∧ w.cell? ⟨k, 0, none⟩ = some u0 ∧ w.cell? ⟨k, 1, none⟩ = some u1 := ⟨h.cell 0, h.cell 1, h2.cell 0, h2.cell 1⟩
def boxed2 (w : World) (t : TypeId) (v0 v1 : Value) : World := w.alloc (.cells #[v0, v1] t)
theorem box2 (w : World) (t : TypeId) (v0 v1 : Value) : Below w.heap.size w (boxed2 w t v0 v1) ∧ Blk (boxed2 w t v0 v1) w.heap.size [v0, v1] t ∧ (boxed2 w t v0 v1).heap.size = w.heap.size + 1 := ⟨bl1 _ _, Blk.new w [v0, v1] t, by simp [boxed2]⟩

theorem foldl_mem (w : Wi) : ∀ (al : List (List Int)) (b : BestM), (∀ m ∈ al, m.length ≤ 1073741824) → (∀ m s, b = some (m, s) → m.length ≤ 1073741824) → ∀ m s, al.foldl (fairStep w) b = some (m, s) → m.length ≤ 1073741824
  | [], b, _, h2 => fun m s h => h2 m s h
  | x :: al, b, h1, h2 => fun m s h => by
    refine foldl_mem w al (fairStep w b x) (fun m hm => h1 m (by simp [hm])) (fun m' s' h' => ?_) m s h
    cases b with
    | none => simp only [fairStep] at h'; injection h' with h'; injection h' with h' _; rw [← h']; exact h1 x (by simp)
    | some p =>
      obtain ⟨c, l⟩ := p
      simp only [fairStep] at h'
      split at h'
      · injection h' with h'; injection h' with h' _; rw [← h']; exact h1 x (by simp)
      · injection h' with h'; injection h' with h' _; rw [← h']; exact h2 c l rfl
theorem fairF_len (w : Wi) : (((fairF w).map Prod.fst).getD []).length ≤ 1073741824 := by
  cases hf : fairF w with
  | none => simp
  | some p =>
    obtain ⟨m, s⟩ := p
    unfold fairF at hf
    split at hf
    · rename_i h
      rw [Bool.and_eq_true, decide_eq_true_eq] at h
      have := foldl_mem w _ none (fun m hm => by
        have h2 := (List.mem_filter.1 hm).2
        simp only [stableB, matchB, Bool.and_eq_true, decide_eq_true_eq] at h2
        have := h2.1.1
        omega) (fun _ _ h => by cases h) m s hf
      simpa using this
    · cases hf
theorem flatI_FairMatch (w : World) (ws_x0 : List (List Int)) (ws_x1 : List (List Int)) (hl_ws_x0 : ws_x0.length ≤ 1048576) (hin_ws_x0 : ∀ y ∈ ws_x0, y.length ≤ 1048576) (hl_ws_x1 : ws_x1.length ≤ 1048576) (hin_ws_x1 : ∀ y ∈ ws_x1, y.length ≤ 1048576) (B_ws : Nat) (ws_a0 : Option Addr) (ws_c0 : Nat) (ws_a1 : Option Addr) (ws_c1 : Nat) (h_ws : RdWishes w B_ws ws_a0 ws_x0 ws_a1 ws_x1) (hB_ws : B_ws ≤ w.heap.size) :
    Calls Try.prog 43 #[.agg #[.slice ws_a0 ws_x0.length ws_c0, .slice ws_a1 ws_x1.length ws_c1]] w fun e w' => ∃ a0 c0, e = .returned (.tuple #[.slice a0 (((fairF ⟨ws_x0, ws_x1⟩).map Prod.fst).getD []).length c0, .int .i64 (((fairF ⟨ws_x0, ws_x1⟩).map Prod.snd).getD 0), .bool ((fairF ⟨ws_x0, ws_x1⟩).isSome)]) ∧ OwnI 2 w' w.heap.size w'.heap.size a0 c0 (((fairF ⟨ws_x0, ws_x1⟩).map Prod.fst).getD []) ∧ Below w.heap.size w w' :=
  flat_ofT (fair_any w ws_a0 ws_c0 ws_x0 ws_a1 ws_c1 ws_x1 (h_ws.mono hB_ws) hl_ws_x0 hin_ws_x0 hl_ws_x1 hin_ws_x1)
theorem flatS_FairMatch (w : World) (ws_x0 : List (List Int)) (ws_x1 : List (List Int)) (hl_ws_x0 : ws_x0.length ≤ 1048576) (hin_ws_x0 : ∀ y ∈ ws_x0, y.length ≤ 1048576) (hl_ws_x1 : ws_x1.length ≤ 1048576) (hin_ws_x1 : ∀ y ∈ ws_x1, y.length ≤ 1048576) (B_ws : Nat) (ws_a0 : Option Addr) (ws_c0 : Nat) (ws_a1 : Option Addr) (ws_c1 : Nat) (h_ws : RdWishes w B_ws ws_a0 ws_x0 ws_a1 ws_x1) (hB_ws : B_ws ≤ w.heap.size) :
    Calls Try.prog 42 #[.agg #[.slice ws_a0 ws_x0.length ws_c0, .slice ws_a1 ws_x1.length ws_c1]] w fun e w' => ∃ a0 c0, e = .returned (.tuple #[.slice a0 (((fairF ⟨ws_x0, ws_x1⟩).map Prod.fst).getD []).length c0, .int .i64 (((fairF ⟨ws_x0, ws_x1⟩).map Prod.snd).getD 0), .bool ((fairF ⟨ws_x0, ws_x1⟩).isSome)]) ∧ OwnI 2 w' w.heap.size w'.heap.size a0 c0 (((fairF ⟨ws_x0, ws_x1⟩).map Prod.fst).getD []) ∧ Below w.heap.size w w' :=
  flat_ofT (fairR_any w ws_a0 ws_c0 ws_x0 ws_a1 ws_c1 ws_x1 (h_ws.mono hB_ws) hl_ws_x0 hin_ws_x0 hl_ws_x1 hin_ws_x1)

set_option maxRecDepth 10000 in
set_option maxHeartbeats 8000000 in
theorem law_ExactFairMatch (w : World) (ws_a0 : Option Addr) (ws_c0 : Nat) (ws_x0 : List (List Int)) (ws_a1 : Option Addr) (ws_c1 : Nat) (ws_x1 : List (List Int)) (h_ws : RdWishes w w.heap.size ws_a0 ws_x0 ws_a1 ws_x1) (hl0_ws_x0 : ws_x0.length ≤ 9223372036854775807) (hin0_ws_x0 : ∀ y ∈ ws_x0, y.length ≤ 9223372036854775807) (hl0_ws_x1 : ws_x1.length ≤ 9223372036854775807) (hin0_ws_x1 : ∀ y ∈ ws_x1, y.length ≤ 9223372036854775807) :
    Calls Try.prog 11 #[.agg #[.slice ws_a0 ws_x0.length ws_c0, .slice ws_a1 ws_x1.length ws_c1]] w fun e w' => e = .returned (.bool true) ∧ Below w.heap.size w w' := by
  have S_ws := Lib.hid (fun w' hb => lawSz_Wishes w' ws_a0 ws_c0 ws_x0 ws_a1 ws_c1 ws_x1 1048576 (by omega) (by omega) hl0_ws_x0 hin0_ws_x0 hl0_ws_x1 hin0_ws_x1 (h_ws.to hb))
  have hs_ws := szWishesF_spec (left := 1048576) (x0 := ws_x0) (x1 := ws_x1) (show (0 : Int) ≤ 1048576 by omega)
  generalize szWishesF 1048576 ws_x0 ws_x1 = l_ws at *
  obtain ⟨hsa_ws, hsb_ws, hsc_ws⟩ := hs_ws
  by_cases hneg_ws : l_ws < 0
  case pos =>
    clear hsc_ws
    go_enter Try.func11, Try.ntmps11
    go_wp2_with fail
    refine (S_ws.out _ (by first | exact bl1 _ _ | exact bl2 _ _ _)).mono ?_
    rintro e w_ws ⟨rfl, hz_ws⟩
    go_wp2_with fail
    go_ret
    first | exact ⟨rfl, hz_ws⟩ | exact ⟨rfl, below_then (bl1 _ _) (hz_ws)⟩ | exact ⟨rfl, below_then (bl2 _ _ _) (hz_ws)⟩
  have hsd_ws := hsc_ws (by omega)
  obtain ⟨hsd_ws_0, hsi_ws_0, hsd_ws_1, hsi_ws_1⟩ := hsd_ws
  have hl_ws_x0 : ws_x0.length ≤ 1048576 := by omega
  have hin_ws_x0 : Hid (∀ y ∈ ws_x0, y.length ≤ 1048576) := fun y hy => by have := hsi_ws_0 y hy; omega
  have hl_ws_x1 : ws_x1.length ≤ 1048576 := by omega
  have hin_ws_x1 : Hid (∀ y ∈ ws_x1, y.length ≤ 1048576) := fun y hy => by have := hsi_ws_1 y hy; omega
  clear hsc_ws hl0_ws_x0 hsd_ws_0 hin0_ws_x0 hsi_ws_0 hl0_ws_x1 hsd_ws_1 hin0_ws_x1 hsi_ws_1
  have hrl0 := fairF_len ⟨ws_x0, ws_x1⟩
  have H1 := Lib.hid (fun w' => flatI_FairMatch w' ws_x0 ws_x1 hl_ws_x0 hin_ws_x0.out hl_ws_x1 hin_ws_x1.out)
  have H2 := Lib.hid (fun w' => flatS_FairMatch w' ws_x0 ws_x1 hl_ws_x0 hin_ws_x0.out hl_ws_x1 hin_ws_x1.out)
  generalize ((fairF ⟨ws_x0, ws_x1⟩).map Prod.fst).getD [] = r0 at *
  generalize ((fairF ⟨ws_x0, ws_x1⟩).map Prod.snd).getD 0 = r1 at *
  generalize (fairF ⟨ws_x0, ws_x1⟩).isSome = r2 at *
  have hne1 : (r1 != r1) = false := by simp
  have hne2 : (r2 != r2) = false := by simp
  go_enter Try.func11, Try.ntmps11
  have K_ws := Lib.hid (Blk.new (w) [.slice ws_a0 ws_x0.length ws_c0, .slice ws_a1 ws_x1.length ws_c1] 24)
  have hx0 := bl1 (w) (.cells #[.slice ws_a0 ws_x0.length ws_c0, .slice ws_a1 ws_x1.length ws_c1] 24)
  have SW0 : w.heap.size < (w.alloc (.cells #[.slice ws_a0 ws_x0.length ws_c0, .slice ws_a1 ws_x1.length ws_c1] 24)).heap.size := by simp
  have S0 := hx0.size
  have B0 := hx0
  have A_ws_0 := h_ws.below hx0 (by omega)
  clear h_ws hx0
  obtain ⟨q0_0, q0_1⟩ := cells2 K_ws.out
  go_wp2_with fail
  refine (S_ws.out _ B0).mono ?_
  rintro e w1 ⟨rfl, hb1⟩
  clear q0_0 q0_1
  have S1 := hb1.size
  have B1 := below_then B0 hb1
  have A_ws_1 := A_ws_0.below hb1 (by omega)
  have K_ws_1 := Lib.hid (K_ws.out.same hb1)
  clear B0 A_ws_0 K_ws hb1
  obtain ⟨q0_0, q0_1⟩ := cells2 K_ws_1.out
  go_wp2_with fail
  refine (lawTo_Wishes _ _ _ _ _ _ _ _  A_ws_1 (by omega) hl_ws_x0 hin_ws_x0.out hl_ws_x1 hin_ws_x1.out).mono ?_
  rintro e w2 ⟨v0_T0, v1_T0, v2_T0, v3_T0, rfl, o2, hb2⟩
  clear q0_0 q0_1
  have S2 := hb2.size
  have B2 := below_then B1 hb2
  have A_ws_2 := A_ws_1.below hb2 (by omega)
  have K_ws_2 := Lib.hid (K_ws_1.out.same hb2)
  clear B1 A_ws_1 K_ws_1 hb2
  obtain ⟨q0_0, q0_1⟩ := cells2 K_ws_2.out
  go_wp2_with fail
  refine (H2.out _ _ _ _ _ _ (o2.rd) (by omega)).mono ?_
  rintro e w3 ⟨a_V0, c_V0, rfl, o3_0, hb3⟩
  clear q0_0 q0_1
  have S3 := hb3.size
  have B3 := below_then B2 hb3
  have A_ws_3 := A_ws_2.below hb3 (by omega)
  have K_ws_3 := Lib.hid (K_ws_2.out.same hb3)
  have T0_3 := o2.keep hb3
  clear B2 A_ws_2 K_ws_2 o2 hb3
  obtain ⟨q0_0, q0_1⟩ := cells2 K_ws_3.out
  go_wp2_with fail
  refine (lawTo_Wishes _ _ _ _ _ _ _ _  A_ws_3 (by omega) hl_ws_x0 hin_ws_x0.out hl_ws_x1 hin_ws_x1.out).mono ?_
  rintro e w4 ⟨v0_X0, v1_X0, v2_X0, v3_X0, rfl, o4, hb4⟩
  clear q0_0 q0_1
  have S4 := hb4.size
  have B4 := below_then B3 hb4
  have A_ws_4 := A_ws_3.below hb4 (by omega)
  have K_ws_4 := Lib.hid (K_ws_3.out.same hb4)
  have V0_4 := o3_0.keep hb4
  clear B3 A_ws_3 K_ws_3 o3_0 hb4
  obtain ⟨q0_0, q0_1⟩ := cells2 K_ws_4.out
  go_wp2_with fail
  have M5 := box2 w4 28 (.slice v0_X0 ws_x0.length v1_X0) (.slice v2_X0 ws_x1.length v3_X0)
  obtain ⟨w5, hW5⟩ : ∃ W, W = boxed2 w4 28 (.slice v0_X0 ws_x0.length v1_X0) (.slice v2_X0 ws_x1.length v3_X0) := ⟨_, rfl⟩
  rw [← hW5] at M5
  simp only [boxed2] at hW5
  try rw [← hW5]
  clear hW5
  obtain ⟨hb5, KX, SX5⟩ := M5
  have K_X0 := Lib.hid KX
  clear KX
  have S5 := hb5.size
  have B5 := below_then B4 hb5
  have A_ws_5 := A_ws_4.below hb5 (by omega)
  have K_ws_5 := Lib.hid (K_ws_4.out.same hb5)
  have V0_5 := V0_4.keep hb5
  have X0_5 := o4.keep hb5
  clear B4 A_ws_4 K_ws_4 V0_4 o4 hb5
  refine (H1.out _ _ _ _ _ _ (X0_5.rd) (by omega)).mono ?_
  rintro e w6 ⟨a_G0, c_G0, rfl, o6_0, hb6⟩
  clear q0_0 q0_1
  have S6 := hb6.size
  have B6 := below_then B5 hb6
  have A_ws_6 := A_ws_5.below hb6 (by omega)
  have K_ws_6 := Lib.hid (K_ws_5.out.same hb6)
  have V0_6 := V0_5.keep hb6
  have X0_6 := X0_5.keep hb6
  have K_X0_6 := Lib.hid (K_X0.out.same hb6)
  clear B5 A_ws_5 K_ws_5 V0_5 X0_5 K_X0 hb6
  obtain ⟨q0_0, q0_1⟩ := cells2 K_ws_6.out
  obtain ⟨q1_0, q1_1⟩ := cells2 K_X0_6.out
  go_wp2_with fail
  refine (lawEq_I' _ _ _ _ _ _ _ r0 (o6_0.rd) (V0_6.rd) (by omega) (by omega) (by omega)).mono ?_
  rintro e w7 ⟨rfl, hb7⟩
  clear q0_0 q0_1 q1_0 q1_1
  have S7 := hb7.size
  have B7 := below_then B6 hb7
  have A_ws_7 := A_ws_6.below hb7 (by omega)
  have K_ws_7 := Lib.hid (K_ws_6.out.same hb7)
  have V0_7 := V0_6.keep hb7
  have X0_7 := X0_6.keep hb7
  have K_X0_7 := Lib.hid (K_X0_6.out.same hb7)
  have G0_7 := o6_0.keep hb7
  clear B6 A_ws_6 K_ws_6 V0_6 X0_6 K_X0_6 o6_0 hb7
  obtain ⟨q0_0, q0_1⟩ := cells2 K_ws_7.out
  obtain ⟨q1_0, q1_1⟩ := cells2 K_X0_7.out
  go_wp2_with fail
  have hb8 := below_drew' (Below.refl w7.heap.size w7)
  have S8 := hb8.size
  have B8 := below_then B7 hb8
  have A_ws_8 := A_ws_7.below hb8 (by omega)
  have K_ws_8 := Lib.hid (K_ws_7.out.same hb8)
  have V0_8 := V0_7.keep hb8
  have X0_8 := X0_7.keep hb8
  have K_X0_8 := Lib.hid (K_X0_7.out.same hb8)
  have G0_8 := G0_7.keep hb8
  clear B7 A_ws_7 K_ws_7 V0_7 X0_7 K_X0_7 G0_7 hb8
  go_region_held3 (fun w' => w'.cell? ⟨w4.heap.size, 0, none⟩ = some (.slice v0_X0 ws_x0.length v1_X0) ∧ w'.cell? ⟨w4.heap.size, 1, none⟩ = some (.slice v2_X0 ws_x1.length v3_X0) ∧ w'.cell? ⟨w.heap.size, 0, none⟩ = some (.slice ws_a0 ws_x0.length ws_c0) ∧ w'.cell? ⟨w.heap.size, 1, none⟩ = some (.slice ws_a1 ws_x1.length ws_c1))
    (first | go_keep | exact two2 K_X0_8.out K_ws_8.out | exact two2 (K_X0_8.out.same hbq) (K_ws_8.out.same hbq) | exact two2 ((K_X0_8.out.same hbq).same hbr) ((K_ws_8.out.same hbq).same hbr))
    (first | (go_at_call 17; refine (lawTo_Wishes _ _ _ _ _ _ _ _  A_ws_8 (by omega) hl_ws_x0 hin_ws_x0.out hl_ws_x1 hin_ws_x1.out).mono ?_; rintro e wq ⟨v0_Y0, v1_Y0, v2_Y0, v3_Y0, rfl, oq, hbq⟩) | (go_at_call 20; have SQ := hbq.size; refine (lawEq_Wishes _ _ _ _ _ _ _ _ _ _ _ _ _  ((X0_8.keep hbq).rd) (oq.rd) (by omega) (by omega) hl_ws_x0 hin_ws_x0.out hl_ws_x1 hin_ws_x1.out).mono ?_; rintro e wr ⟨rfl, hbr⟩))
  clear q0_0 q0_1 q1_0 q1_1
  have hb9 := hbq
  clear hbq oq
  have S9 := hb9.size
  have B9 := below_then B8 hb9
  have A_ws_9 := A_ws_8.below hb9 (by omega)
  have K_ws_9 := Lib.hid (K_ws_8.out.same hb9)
  have V0_9 := V0_8.keep hb9
  have X0_9 := X0_8.keep hb9
  have K_X0_9 := Lib.hid (K_X0_8.out.same hb9)
  have G0_9 := G0_8.keep hb9
  clear B8 A_ws_8 K_ws_8 V0_8 X0_8 K_X0_8 G0_8 hb9
  have hb10 := hbr
  clear hbr
  have S10 := hb10.size
  have B10 := below_then B9 hb10
  have A_ws_10 := A_ws_9.below hb10 (by omega)
  have K_ws_10 := Lib.hid (K_ws_9.out.same hb10)
  have V0_10 := V0_9.keep hb10
  have X0_10 := X0_9.keep hb10
  have K_X0_10 := Lib.hid (K_X0_9.out.same hb10)
  have G0_10 := G0_9.keep hb10
  clear B9 A_ws_9 K_ws_9 V0_9 X0_9 K_X0_9 G0_9 hb10
  obtain ⟨q0_0, q0_1⟩ := cells2 K_ws_10.out
  obtain ⟨q1_0, q1_1⟩ := cells2 K_X0_10.out
  go_wp2_with fail
  refine (lawMark_Wishes _ _ _ _ _ _ _ _ _  _ X0_10 (by omega) hl_ws_x0 hin_ws_x0.out hl_ws_x1 hin_ws_x1.out (by omega) (by omega)).mono ?_
  rintro e w11 ⟨mk_ws, rfl, ⟨mka_ws, mkb_ws⟩, hb11⟩
  clear q0_0 q0_1 q1_0 q1_1
  have S11 := hb11.size
  have B11 := below_touch B10 hb11 (by omega) (by omega)
  have A_ws_11 := A_ws_10.touch hb11 (by omega) (by omega)
  have K_ws_11 := Lib.hid (K_ws_10.out.touch hb11 (by omega))
  have V0_11 := V0_10.touch hb11 (by omega)
  have K_X0_11 := Lib.hid (K_X0_10.out.touch hb11 (by omega))
  have G0_11 := G0_10.touch hb11 (by omega)
  clear B10 A_ws_10 K_ws_10 V0_10 K_X0_10 G0_10 hb11
  clear X0_10
  obtain ⟨q0_0, q0_1⟩ := cells2 K_ws_11.out
  go_wp2_with fail
  refine (lawEq_I' _ _ _ _ _ _ _ r0 (G0_11.rd) (V0_11.rd) (by omega) (by omega) (by omega)).mono ?_
  rintro e w12 ⟨rfl, hb12⟩
  clear q0_0 q0_1
  have S12 := hb12.size
  have B12 := below_then B11 hb12
  have A_ws_12 := A_ws_11.below hb12 (by omega)
  have K_ws_12 := Lib.hid (K_ws_11.out.same hb12)
  have V0_12 := V0_11.keep hb12
  have G0_12 := G0_11.keep hb12
  clear B11 A_ws_11 K_ws_11 V0_11 G0_11 hb12
  obtain ⟨q0_0, q0_1⟩ := cells2 K_ws_12.out
  go_wp2_with fail
  refine (lawMark_I _ _ _ _ _ r0 _ G0_12 (by omega) (by omega) (by omega)).mono ?_
  rintro e w13 ⟨rfl, o13, hb13⟩
  clear q0_0 q0_1
  have S13 := hb13.size
  have B13 := below_touch B12 hb13 (by omega) (by omega)
  have A_ws_13 := A_ws_12.touch hb13 (by omega) (by omega)
  have K_ws_13 := Lib.hid (K_ws_12.out.touch hb13 (by omega))
  have V0_13 := V0_12.touch hb13 (by omega)
  clear B12 A_ws_12 K_ws_12 V0_12 hb13
  clear G0_12
  obtain ⟨q0_0, q0_1⟩ := cells2 K_ws_13.out
  go_wp2_with fail
  refine (lawHeld_I _ _ _ _ r0.length _ o13.rd (by omega) (by omega) (by omega) (by omega)).mono ?_
  rintro e w14 ⟨rfl, hb14⟩
  clear q0_0 q0_1
  have S14 := hb14.size
  have B14 := below_then B13 hb14
  have A_ws_14 := A_ws_13.below hb14 (by omega)
  have K_ws_14 := Lib.hid (K_ws_13.out.same hb14)
  have V0_14 := V0_13.keep hb14
  have G0_14 := o13.keep hb14
  clear B13 A_ws_13 K_ws_13 V0_13 o13 hb14
  obtain ⟨q0_0, q0_1⟩ := cells2 K_ws_14.out
  go_wp2_with fail
  refine (lawTo_Wishes _ _ _ _ _ _ _ _  A_ws_14 (by omega) hl_ws_x0 hin_ws_x0.out hl_ws_x1 hin_ws_x1.out).mono ?_
  rintro e w15 ⟨v0_Z0, v1_Z0, v2_Z0, v3_Z0, rfl, o15, hb15⟩
  clear q0_0 q0_1
  have S15 := hb15.size
  have B15 := below_then B14 hb15
  have A_ws_15 := A_ws_14.below hb15 (by omega)
  have K_ws_15 := Lib.hid (K_ws_14.out.same hb15)
  have V0_15 := V0_14.keep hb15
  have G0_15 := G0_14.keep hb15
  clear B14 A_ws_14 K_ws_14 V0_14 G0_14 hb15
  obtain ⟨q0_0, q0_1⟩ := cells2 K_ws_15.out
  go_wp2_with fail
  refine (H1.out _ _ _ _ _ _ (o15.rd) (by omega)).mono ?_
  rintro e w16 ⟨a_K0, c_K0, rfl, o16_0, hb16⟩
  clear q0_0 q0_1
  have S16 := hb16.size
  have B16 := below_then B15 hb16
  have A_ws_16 := A_ws_15.below hb16 (by omega)
  have K_ws_16 := Lib.hid (K_ws_15.out.same hb16)
  have V0_16 := V0_15.keep hb16
  have G0_16 := G0_15.keep hb16
  have Z0_16 := o15.keep hb16
  clear B15 A_ws_15 K_ws_15 V0_15 G0_15 o15 hb16
  obtain ⟨q0_0, q0_1⟩ := cells2 K_ws_16.out
  go_wp2_with fail
  refine (lawEq_I' _ _ _ _ _ _ _ r0 (o16_0.rd) (V0_16.rd) (by omega) (by omega) (by omega)).mono ?_
  rintro e w17 ⟨rfl, hb17⟩
  clear q0_0 q0_1
  have S17 := hb17.size
  have B17 := below_then B16 hb17
  have A_ws_17 := A_ws_16.below hb17 (by omega)
  have K_ws_17 := Lib.hid (K_ws_16.out.same hb17)
  have V0_17 := V0_16.keep hb17
  have G0_17 := G0_16.keep hb17
  have K0_17 := o16_0.keep hb17
  clear B16 A_ws_16 K_ws_16 V0_16 G0_16 o16_0 hb17
  obtain ⟨q0_0, q0_1⟩ := cells2 K_ws_17.out
  go_wp2_with fail
  refine (lawHeld_I _ _ _ _ r0.length _ G0_17.rd (by omega) (by omega) (by omega) (by omega)).mono ?_
  rintro e w18 ⟨rfl, hb18⟩
  clear q0_0 q0_1
  have S18 := hb18.size
  have B18 := below_then B17 hb18
  have A_ws_18 := A_ws_17.below hb18 (by omega)
  have K_ws_18 := Lib.hid (K_ws_17.out.same hb18)
  have V0_18 := V0_17.keep hb18
  have G0_18 := G0_17.keep hb18
  have K0_18 := K0_17.keep hb18
  clear B17 A_ws_17 K_ws_17 V0_17 G0_17 K0_17 hb18
  go_wp2_with fail
  go_ret
  exact ⟨rfl, B18⟩

end Go.Proofs.Ytdipckpcmnhpjaa
