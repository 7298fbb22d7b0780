/-
  FnExactPairWinner answers true: the law's walk.
-/
import Derived.Test.YtiidgdfclgcmpaaLawRows
import Derived.Test.YtiidgdfclgcmpaaWin
namespace Go.Proofs.Ytiidgdfclgcmpaa
open Go.RowKit

theorem flatI_PairWinner (w : World) (yss : List (List Int)) (hl_yss : yss.length ≤ 1048576) (hin_yss : ∀ b ∈ yss, b.length ≤ 1048576) (B_yss : Nat) (a_yss : Option Addr) (c_yss : Nat) (h_yss : RdII w B_yss a_yss yss) (hB_yss : B_yss ≤ w.heap.size) :
    Calls Try.prog 27 #[.slice a_yss yss.length c_yss] w fun e w' => e = .returned (.tuple #[.int .i64 ((winnerF yss).getD 0), .bool (winnerF yss).isSome]) ∧ Below w.heap.size w w' :=
  (winner_any w a_yss c_yss yss (h_yss.mono hB_yss) hl_yss hin_yss).mono fun e w' h => ⟨h.2, h.1⟩
theorem flatS_PairWinner (w : World) (yss : List (List Int)) (hl_yss : yss.length ≤ 1048576) (hin_yss : ∀ b ∈ yss, b.length ≤ 1048576) (B_yss : Nat) (a_yss : Option Addr) (c_yss : Nat) (h_yss : RdII w B_yss a_yss yss) (hB_yss : B_yss ≤ w.heap.size) :
    Calls Try.prog 26 #[.slice a_yss yss.length c_yss] w fun e w' => e = .returned (.tuple #[.int .i64 ((winnerF yss).getD 0), .bool (winnerF yss).isSome]) ∧ Below w.heap.size w w' :=
  (winnerR_any w a_yss c_yss yss (h_yss.mono hB_yss) hl_yss hin_yss).mono fun e w' h => ⟨h.2, h.1⟩

set_option maxHeartbeats 4000000 in
theorem law_ExactPairWinner (w : World) (a_yss : Option Addr) (c_yss : Nat) (yss : List (List Int)) (h_yss : RdII w w.heap.size a_yss yss) (hl0_yss : yss.length ≤ 9223372036854775807) (hin0_yss : ∀ y ∈ yss, y.length ≤ 9223372036854775807) :
    Calls Try.prog 6 #[.slice a_yss yss.length c_yss] w fun e w' => e = .returned (.bool true) ∧ Below w.heap.size w w' := by
  have S_yss := Lib.hid (fun w' h => szInt64SS_any w' a_yss c_yss yss h hl0_yss hin0_yss)
  have hsp_yss := @szFF_spec yss
  generalize szFF 1048576 yss = l_yss at S_yss hsp_yss
  by_cases hneg_yss : l_yss < 0
  case pos =>
    clear hsp_yss
    go_enter Try.func6, Try.ntmps6
    go_wp2_with fail
    refine (S_yss.out _ h_yss).mono ?_
    rintro e w1 ⟨rfl, rfl⟩
    go_wp2_with fail
    go_ret
    exact ⟨rfl, Below.refl _ _⟩
  obtain ⟨hlen_yss, hin_yss⟩ := hsp_yss hneg_yss
  have Hin_yss := Lib.hid hin_yss
  clear hsp_yss hin_yss hin0_yss
  have H1 := Lib.hid (fun w' => flatI_PairWinner w' yss hlen_yss Hin_yss.out)
  have H2 := Lib.hid (fun w' => flatS_PairWinner w' yss hlen_yss Hin_yss.out)
  generalize (winnerF yss).getD 0 = r0 at *
  generalize (winnerF yss).isSome = r1 at *
  have hne0 : (r0 != r0) = false := by simp
  have hne1 : (r1 != r1) = false := by simp
  go_enter Try.func6, Try.ntmps6
  go_wp2_with fail
  refine (S_yss.out _ h_yss).mono ?_
  rintro e w1 ⟨rfl, rfl⟩
  have B0 := Below.refl w.heap.size w
  go_wp2_with fail
  refine (lawTo_II _ _ _ _ yss h_yss (by omega) hlen_yss Hin_yss.out).mono ?_
  rintro e w1 ⟨a_T0, c_T0, rfl, o1, hb1⟩
  have S1 := hb1.size
  have B1 := below_then B0 hb1
  have A_yss_1 := h_yss.below hb1 (by omega)
  clear B0 h_yss hb1
  go_wp2_with fail
  refine (H2.out _ _ _ _ (o1.rd) (by omega)).mono ?_
  rintro e w2 ⟨rfl, hb2⟩
  have S2 := hb2.size
  have B2 := below_then B1 hb2
  have A_yss_2 := A_yss_1.below hb2 (by omega)
  have T0_2 := o1.keep hb2
  clear B1 A_yss_1 o1 hb2
  go_wp2_with fail
  refine (lawTo_II _ _ _ _ yss A_yss_2 (by omega) hlen_yss Hin_yss.out).mono ?_
  rintro e w3 ⟨a_X0, c_X0, rfl, o3, hb3⟩
  have S3 := hb3.size
  have B3 := below_then B2 hb3
  have A_yss_3 := A_yss_2.below hb3 (by omega)
  clear B2 A_yss_2 hb3
  go_wp2_with fail
  refine (H1.out _ _ _ _ (o3.rd) (by omega)).mono ?_
  rintro e w4 ⟨rfl, hb4⟩
  have S4 := hb4.size
  have B4 := below_then B3 hb4
  have A_yss_4 := A_yss_3.below hb4 (by omega)
  have X0_4 := o3.keep hb4
  clear B3 A_yss_3 o3 hb4
  go_wp2_with fail
  refine (lawTo_II _ _ _ _ yss A_yss_4 (by omega) hlen_yss Hin_yss.out).mono ?_
  rintro e w5 ⟨a_Y0, c_Y0, rfl, o5, hb5⟩
  have S5 := hb5.size
  have B5 := below_then B4 hb5
  have A_yss_5 := A_yss_4.below hb5 (by omega)
  have X0_5 := X0_4.keep hb5
  clear B4 A_yss_4 X0_4 hb5
  go_wp2_with fail
  refine (lawEq_II _ _ _ _ _ _ _ yss (X0_5.rd) (o5.rd) (by omega) (by omega) hlen_yss Hin_yss.out).mono ?_
  rintro e w6 ⟨rfl, hb6⟩
  have S6 := hb6.size
  have B6 := below_then B5 hb6
  have A_yss_6 := A_yss_5.below hb6 (by omega)
  have X0_6 := X0_5.keep hb6
  have Y0_6 := o5.keep hb6
  clear B5 A_yss_5 X0_5 o5 hb6
  go_wp2_with fail
  go_ret
  exact ⟨rfl, B6⟩

end Go.Proofs.Ytiidgdfclgcmpaa
