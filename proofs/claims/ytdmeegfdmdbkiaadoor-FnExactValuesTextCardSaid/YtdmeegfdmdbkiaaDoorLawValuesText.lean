/-
  FnExactValuesText answers true: the law's walk.
-/
import Derived.Test.YtdmeegfdmdbkiaaDoorLawInts
import Derived.Test.YtdmeegfdmdbkiaaDoorValuesT
import Derived.Test.YtdmeegfdmdbkiaaDoorValuesTx
namespace Go.Proofs.YtdmeegfdmdbkiaaDoor
set_option linter.unusedVariables false
set_option linter.unusedSimpArgs false
open Go.RowKit

theorem cells3 {w : World} {g : Nat} {v0 v1 v2 : Value} {t : TypeId} (h : Blk w g [v0, v1, v2] t) : w.cell? ⟨g, 0, none⟩ = some v0 ∧ w.cell? ⟨g, 1, none⟩ = some v1 ∧ w.cell? ⟨g, 2, none⟩ = some v2 := ⟨h.cell 0, h.cell 1, h.cell 2⟩
theorem two3 {w : World} {g k : Nat} {v0 v1 v2 u0 u1 u2 : Value} {t s : TypeId} (h : Blk w g [v0, v1, v2] t) (h2 : Blk w k [u0, u1, u2] s) : w.cell? ⟨g, 0, none⟩ = some v0 ∧ w.cell? ⟨g, 1, none⟩ = some v1 ∧ w.cell? ⟨g, 2, none⟩ = some v2 ∧ w.cell? ⟨k, 0, none⟩ = some u0 ∧ w.cell? ⟨k, 1, none⟩ = some u1 ∧ w.cell? ⟨k, 2, none⟩ = some u2 := ⟨h.cell 0, h.cell 1, h.cell 2, h2.cell 0, h2.cell 1, h2.cell 2⟩
def boxed3 (w : World) (t : TypeId) (v0 v1 v2 : Value) : World := w.alloc (.cells #[v0, v1, v2] t)
theorem box3 (w : World) (t : TypeId) (v0 v1 v2 : Value) : Below w.heap.size w (boxed3 w t v0 v1 v2) ∧ Blk (boxed3 w t v0 v1 v2) w.heap.size [v0, v1, v2] t ∧ (boxed3 w t v0 v1 v2).heap.size = w.heap.size + 1 := ⟨bl1 _ _, Blk.new w [v0, v1, v2] t, by simp [boxed3]⟩

theorem flatI_ValuesText (w : World) (ht : Tab w) (v_n0 v_n1 : Int) (v_x2 : List Int) (hl_v_x2 : v_x2.length ≤ 1048576) (B_v : Nat) (v_a2 : Option Addr) (v_c2 : Nat) (h_v : RdValues w B_v v_a2 v_x2) (hB_v : B_v ≤ w.heap.size) :
    Calls Tryd.prog 17 #[.agg #[.int .i64 v_n0, .int .i64 v_n1, .slice v_a2 v_x2.length v_c2]] w fun e w' => e = .returned (.tuple #[.string (bs ((valuesText v_n0 v_n1 v_x2).getD [])), .bool ((valuesText v_n0 v_n1 v_x2).isSome)]) ∧ Below w.heap.size w w' :=
  valuesText_any w ht v_n0 v_n1 v_a2 v_c2 v_x2 (h_v.mono hB_v) hl_v_x2
theorem flatS_ValuesText (w : World) (v_n0 v_n1 : Int) (v_x2 : List Int) (hl_v_x2 : v_x2.length ≤ 1048576) (B_v : Nat) (v_a2 : Option Addr) (v_c2 : Nat) (h_v : RdValues w B_v v_a2 v_x2) (hB_v : B_v ≤ w.heap.size) :
    Calls Tryd.prog 15 #[.agg #[.int .i64 v_n0, .int .i64 v_n1, .slice v_a2 v_x2.length v_c2]] w fun e w' => e = .returned (.tuple #[.string (bs ((valuesText v_n0 v_n1 v_x2).getD [])), .bool ((valuesText v_n0 v_n1 v_x2).isSome)]) ∧ Below w.heap.size w w' :=
  valuesTextR_any w v_n0 v_n1 v_a2 v_c2 v_x2 (h_v.mono hB_v) hl_v_x2

set_option maxRecDepth 10000 in
set_option maxHeartbeats 8000000 in
theorem law_ExactValuesText (w : World) (ht : Tab w) (v_n0 v_n1 : Int) (v_a2 : Option Addr) (v_c2 : Nat) (v_x2 : List Int) (h_v : RdValues w w.heap.size v_a2 v_x2) (hl0_v_x2 : v_x2.length ≤ 9223372036854775807) :
    Calls Tryd.prog 4 #[.agg #[.int .i64 v_n0, .int .i64 v_n1, .slice v_a2 v_x2.length v_c2]] w fun e w' => e = .returned (.bool true) ∧ Below w.heap.size w w' := by
  have S_v := Lib.hid (fun w' => lawSz_Values w' v_n0 v_n1 v_a2 v_c2 v_x2 1048576 (by omega) (by omega) hl0_v_x2)
  have hs_v := szValuesF_spec (left := 1048576) (x2 := v_x2) (show (0 : Int) ≤ 1048576 by omega)
  generalize szValuesF 1048576 v_x2 = l_v at *
  obtain ⟨hsa_v, hsb_v, hsc_v⟩ := hs_v
  by_cases hneg_v : l_v < 0
  case pos =>
    clear hsc_v
    go_enter Tryd.func4, Tryd.ntmps4
    go_wp2_with fail
    refine (S_v.out _).mono ?_
    rintro e w_v ⟨rfl, hz_v⟩
    go_wp2_with fail
    go_ret
    first | exact ⟨rfl, hz_v⟩ | exact ⟨rfl, below_then (bl1 _ _) (hz_v)⟩ | exact ⟨rfl, below_then (bl2 _ _ _) (hz_v)⟩
  have hsd_v := hsc_v (by omega)
  have hl_v_x2 : v_x2.length ≤ 1048576 := by omega
  clear hsc_v hsd_v hl0_v_x2
  have H1 := Lib.hid (fun w' (hb : Below w.heap.size w w') => flatI_ValuesText w' (ht.to hb) v_n0 v_n1 v_x2 hl_v_x2)
  have H2 := Lib.hid (fun w' => flatS_ValuesText w' v_n0 v_n1 v_x2 hl_v_x2)
  generalize (valuesText v_n0 v_n1 v_x2).getD [] = r0 at *
  generalize (valuesText v_n0 v_n1 v_x2).isSome = r1 at *
  have hne1 : (r1 != r1) = false := by simp
  go_enter Tryd.func4, Tryd.ntmps4
  have K_v := Lib.hid (Blk.new (w) [.int .i64 v_n0, .int .i64 v_n1, .slice v_a2 v_x2.length v_c2] 27)
  have hx0 := bl1 (w) (.cells #[.int .i64 v_n0, .int .i64 v_n1, .slice v_a2 v_x2.length v_c2] 27)
  have SW0 : w.heap.size < (w.alloc (.cells #[.int .i64 v_n0, .int .i64 v_n1, .slice v_a2 v_x2.length v_c2] 27)).heap.size := by simp
  have S0 := hx0.size
  have B0 := hx0
  have A_v_0 := h_v.below hx0 (by omega)
  clear h_v hx0
  obtain ⟨q0_0, q0_1, q0_2⟩ := cells3 K_v.out
  go_wp2_with fail
  refine (S_v.out _).mono ?_
  rintro e w1 ⟨rfl, hb1⟩
  clear q0_0 q0_1 q0_2
  have S1 := hb1.size
  have B1 := below_then B0 hb1
  have A_v_1 := A_v_0.below hb1 (by omega)
  have K_v_1 := Lib.hid (K_v.out.same hb1)
  clear B0 A_v_0 K_v hb1
  obtain ⟨q0_0, q0_1, q0_2⟩ := cells3 K_v_1.out
  go_wp2_with fail
  refine (lawTo_Values _ _ _ _ _ _ _  A_v_1 (by omega) hl_v_x2).mono ?_
  rintro e w2 ⟨v0_T0, v1_T0, rfl, o2, hb2⟩
  clear q0_0 q0_1 q0_2
  have S2 := hb2.size
  have B2 := below_then B1 hb2
  have A_v_2 := A_v_1.below hb2 (by omega)
  have K_v_2 := Lib.hid (K_v_1.out.same hb2)
  clear B1 A_v_1 K_v_1 hb2
  obtain ⟨q0_0, q0_1, q0_2⟩ := cells3 K_v_2.out
  go_wp2_with fail
  refine (H2.out _ _ _ _ (o2.rd) (by omega)).mono ?_
  rintro e w3 ⟨rfl, hb3⟩
  clear q0_0 q0_1 q0_2
  have S3 := hb3.size
  have B3 := below_then B2 hb3
  have A_v_3 := A_v_2.below hb3 (by omega)
  have K_v_3 := Lib.hid (K_v_2.out.same hb3)
  have T0_3 := o2.keep hb3
  clear B2 A_v_2 K_v_2 o2 hb3
  obtain ⟨q0_0, q0_1, q0_2⟩ := cells3 K_v_3.out
  go_wp2_with fail
  refine (lawTo_Values _ _ _ _ _ _ _  A_v_3 (by omega) hl_v_x2).mono ?_
  rintro e w4 ⟨v0_X0, v1_X0, rfl, o4, hb4⟩
  clear q0_0 q0_1 q0_2
  have S4 := hb4.size
  have B4 := below_then B3 hb4
  have A_v_4 := A_v_3.below hb4 (by omega)
  have K_v_4 := Lib.hid (K_v_3.out.same hb4)
  clear B3 A_v_3 K_v_3 hb4
  obtain ⟨q0_0, q0_1, q0_2⟩ := cells3 K_v_4.out
  go_wp2_with fail
  have M5 := box3 w4 31 (.int .i64 v_n0) (.int .i64 v_n1) (.slice v0_X0 v_x2.length v1_X0)
  obtain ⟨w5, hW5⟩ : ∃ W, W = boxed3 w4 31 (.int .i64 v_n0) (.int .i64 v_n1) (.slice v0_X0 v_x2.length v1_X0) := ⟨_, rfl⟩
  rw [← hW5] at M5
  simp only [boxed3] at hW5
  try rw [← hW5]
  clear hW5
  obtain ⟨hb5, KX, SX5⟩ := M5
  have K_X0 := Lib.hid KX
  clear KX
  have S5 := hb5.size
  have B5 := below_then B4 hb5
  have A_v_5 := A_v_4.below hb5 (by omega)
  have K_v_5 := Lib.hid (K_v_4.out.same hb5)
  have X0_5 := o4.keep hb5
  clear B4 A_v_4 K_v_4 o4 hb5
  refine (H1.out _ B5 _ _ _ (X0_5.rd) (by omega)).mono ?_
  rintro e w6 ⟨rfl, hb6⟩
  clear q0_0 q0_1 q0_2
  have S6 := hb6.size
  have B6 := below_then B5 hb6
  have A_v_6 := A_v_5.below hb6 (by omega)
  have K_v_6 := Lib.hid (K_v_5.out.same hb6)
  have X0_6 := X0_5.keep hb6
  have K_X0_6 := Lib.hid (K_X0.out.same hb6)
  clear B5 A_v_5 K_v_5 X0_5 K_X0 hb6
  obtain ⟨q0_0, q0_1, q0_2⟩ := cells3 K_v_6.out
  obtain ⟨q1_0, q1_1, q1_2⟩ := cells3 K_X0_6.out
  go_wp2_with fail
  have hb7 := below_drew' (Below.refl w6.heap.size w6)
  have S7 := hb7.size
  have B7 := below_then B6 hb7
  have A_v_7 := A_v_6.below hb7 (by omega)
  have K_v_7 := Lib.hid (K_v_6.out.same hb7)
  have X0_7 := X0_6.keep hb7
  have K_X0_7 := Lib.hid (K_X0_6.out.same hb7)
  clear B6 A_v_6 K_v_6 X0_6 K_X0_6 hb7
  go_region_held3 (fun w' => w'.cell? ⟨w4.heap.size, 0, none⟩ = some (.int .i64 v_n0) ∧ w'.cell? ⟨w4.heap.size, 1, none⟩ = some (.int .i64 v_n1) ∧ w'.cell? ⟨w4.heap.size, 2, none⟩ = some (.slice v0_X0 v_x2.length v1_X0) ∧ w'.cell? ⟨w.heap.size, 0, none⟩ = some (.int .i64 v_n0) ∧ w'.cell? ⟨w.heap.size, 1, none⟩ = some (.int .i64 v_n1) ∧ w'.cell? ⟨w.heap.size, 2, none⟩ = some (.slice v_a2 v_x2.length v_c2))
    (first | go_keep | exact two3 K_X0_7.out K_v_7.out | exact two3 (K_X0_7.out.same hbq) (K_v_7.out.same hbq) | exact two3 ((K_X0_7.out.same hbq).same hbr) ((K_v_7.out.same hbq).same hbr))
    (first | (go_at_call 16; refine (lawTo_Values _ _ _ _ _ _ _  A_v_7 (by omega) hl_v_x2).mono ?_; rintro e wq ⟨v0_Y0, v1_Y0, rfl, oq, hbq⟩) | (go_at_call 18; have SQ := hbq.size; refine (lawEq_Values _ _ _ _ _ _ _ _ _ _  ((X0_7.keep hbq).rd) (oq.rd) (by omega) (by omega) hl_v_x2).mono ?_; rintro e wr ⟨rfl, hbr⟩))
  clear q0_0 q0_1 q0_2 q1_0 q1_1 q1_2
  have hb8 := hbq
  clear hbq oq
  have S8 := hb8.size
  have B8 := below_then B7 hb8
  have A_v_8 := A_v_7.below hb8 (by omega)
  have K_v_8 := Lib.hid (K_v_7.out.same hb8)
  have X0_8 := X0_7.keep hb8
  have K_X0_8 := Lib.hid (K_X0_7.out.same hb8)
  clear B7 A_v_7 K_v_7 X0_7 K_X0_7 hb8
  have hb9 := hbr
  clear hbr
  have S9 := hb9.size
  have B9 := below_then B8 hb9
  have A_v_9 := A_v_8.below hb9 (by omega)
  have K_v_9 := Lib.hid (K_v_8.out.same hb9)
  have X0_9 := X0_8.keep hb9
  have K_X0_9 := Lib.hid (K_X0_8.out.same hb9)
  clear B8 A_v_8 K_v_8 X0_8 K_X0_8 hb9
  go_wp2_with fail
  go_ret
  exact ⟨rfl, B9⟩

end Go.Proofs.YtdmeegfdmdbkiaaDoor
