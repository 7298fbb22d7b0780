/-
  The quotient of the worst rest and the least total: both roads.
-/
import Derived.Test.YtbgclfbhdpgdaaaPrice
namespace Go.Proofs.Ytbgclfbhdpgdaaa
set_option linter.unusedVariables false
set_option linter.unusedSimpArgs false
open Go.RowKit

theorem wrapN (x : Nat) (h : x ≤ 1099511627776) : wrap64 (x : Int) = x := by
  unfold wrap64
  omega
set_option maxRecDepth 10000 in
set_option maxHeartbeats 2000000 in
theorem reduced_any (w : World) (a b : Nat) (h1 : 1 ≤ a) (ha : a ≤ 1099511627776) (h2 : 1 ≤ b) (hb : b ≤ 1099511627776) :
    Calls Try.prog 65 #[.int .i64 a, .int .i64 b] w fun e w' => e = .returned (.tuple #[.int .i64 (a / Nat.gcd a b : Nat), .int .i64 (b / Nat.gcd a b : Nat), .bool true]) ∧ ∃ n, w' = w.drewN n := by
  have hnb : ((b : Int) == 0) = false := by simp; omega
  have hnn : ¬ ((b : Int) < 0) := by omega
  have LA := Lib.hid (fun v => absolute_any v a ha)
  have LB := Lib.hid (fun v => absolute_any v b hb)
  have LC := Lib.hid (fun v => common_any v a b ha hb)
  have hg0 : 0 < Nat.gcd a b := gcd_pos (by omega)
  have hga : Nat.gcd a b ≤ a := Nat.gcd_le_left b (by omega)
  have Hda : Hid (((a / Nat.gcd a b : Nat) : Int) = (a : Int) / ((Nat.gcd a b : Nat) : Int)) := by simp [Hid]
  have Hdb : Hid (((b / Nat.gcd a b : Nat) : Int) = (b : Int) / ((Nat.gcd a b : Nat) : Int)) := by simp [Hid]
  generalize Nat.gcd a b = g at *
  have hqa : a / g ≤ a := Nat.div_le_self _ _
  have hqb : b / g ≤ b := Nat.div_le_self _ _
  have Hwa : Hid (wrap64 ((a : Int) / (g : Int)) = ((a / g : Nat) : Int)) := by show _ = _; rw [← Hda.out]; exact wrapN _ (Nat.le_trans hqa ha)
  have Hwb : Hid (wrap64 ((b : Int) / (g : Int)) = ((b / g : Nat) : Int)) := by show _ = _; rw [← Hdb.out]; exact wrapN _ (Nat.le_trans hqb hb)
  clear hqa hqb
  have hgz : ((g : Int) == 0) = false := by simp; omega
  have hgn : (g : Int) ≠ 0 := by omega
  have hgp : (0 : Int) < (g : Int) := by omega
  go_enter Try.func65, Try.ntmps65
  go_wp2_with fail
  refine (LA.out _).mono ?_
  rintro e w1 ⟨rfl, rfl⟩
  go_wp2_with fail
  refine (LB.out _).mono ?_
  rintro e w2 ⟨rfl, rfl⟩
  go_wp2_with fail
  refine (LC.out _).mono ?_
  rintro e w3 ⟨rfl, m, rfl⟩
  clear LA LB LC
  go_wp2_with fail
  go_quiet (fail)
  go_wp2_with fail
  go_ret3
  exact ⟨by show Ending.returned (.tuple #[.int .i64 (wrap64 ((a : Int) / (g : Int))), .int .i64 (wrap64 ((b : Int) / (g : Int))), .bool true]) = _; rw [Hwa.out, Hwb.out], _, by first | rfl | exact World.drewN_drewN _ _ _⟩
set_option maxRecDepth 10000 in
set_option maxHeartbeats 2000000 in
theorem l02Least2_any (w : World) (a b : Nat) (h1 : 1 ≤ a) (ha : a ≤ 1099511627776) (h2 : 1 ≤ b) (hb : b ≤ 1099511627776) :
    Calls Try.prog 64 #[.int .i64 a, .int .i64 b] w fun e w' => e = .returned (.tuple #[.int .i64 (a / Nat.gcd a b : Nat), .int .i64 (b / Nat.gcd a b : Nat)]) ∧ ∃ n, w' = w.drewN n := by
  have hnn : ¬ ((b : Int) < 0) := by omega
  have LC := Lib.hid (fun v => l02Gcd_any v a b ha hb)
  have hg0 : 0 < Nat.gcd a b := gcd_pos (by omega)
  have hga : Nat.gcd a b ≤ a := Nat.gcd_le_left b (by omega)
  have Hda : Hid (((a / Nat.gcd a b : Nat) : Int) = (a : Int) / ((Nat.gcd a b : Nat) : Int)) := by simp [Hid]
  have Hdb : Hid (((b / Nat.gcd a b : Nat) : Int) = (b : Int) / ((Nat.gcd a b : Nat) : Int)) := by simp [Hid]
  generalize Nat.gcd a b = g at *
  have hqa : a / g ≤ a := Nat.div_le_self _ _
  have hqb : b / g ≤ b := Nat.div_le_self _ _
  have Hwa : Hid (wrap64 ((a : Int) / (g : Int)) = ((a / g : Nat) : Int)) := by show _ = _; rw [← Hda.out]; exact wrapN _ (Nat.le_trans hqa ha)
  have Hwb : Hid (wrap64 ((b : Int) / (g : Int)) = ((b / g : Nat) : Int)) := by show _ = _; rw [← Hdb.out]; exact wrapN _ (Nat.le_trans hqb hb)
  clear hqa hqb
  have hgz : ((g : Int) == 0) = false := by simp; omega
  have hgn : (g : Int) ≠ 0 := by omega
  have hgp : (0 : Int) < (g : Int) := by omega
  go_enter Try.func64, Try.ntmps64
  go_wp2_with fail
  refine (LC.out _).mono ?_
  rintro e w3 ⟨rfl, m, rfl⟩
  clear LC
  go_wp2_with fail
  go_quiet (fail)
  go_wp2_with fail
  go_ret2
  exact ⟨by show Ending.returned (.tuple #[.int .i64 (wrap64 ((a : Int) / (g : Int))), .int .i64 (wrap64 ((b : Int) / (g : Int)))]) = _; rw [Hwa.out, Hwb.out], _, by first | rfl | exact World.drewN_drewN _ _ _⟩
set_option maxRecDepth 10000 in
set_option maxHeartbeats 4000000 in
theorem price_any (w : World) (U R : Int) (a2 : Option Addr) (c2 : Nat) (x2 : List Int) (a3 : Option Addr) (c3 : Nat) (x3 : List Int) (h : RdCrowd w w.heap.size a2 x2 a3 x3) (hl2 : x2.length ≤ 1048576) (hl3 : x3.length ≤ 1048576) :
    Calls Try.prog 27 #[.agg #[.int .i64 U, .int .i64 R, .slice a2 x2.length c2, .slice a3 x3.length c3]] w fun e w' => e = .returned (.tuple #[.int .i64 (priceF ⟨U, R, x2, x3⟩).1, .int .i64 (priceF ⟨U, R, x2, x3⟩).2.1, .bool (priceF ⟨U, R, x2, x3⟩).2.2]) ∧ Below w.heap.size w w' := by
  have LW := Lib.hid (fun w' hb => worst_any w' U R a2 c2 x2 a3 c3 x3 (h.to hb) hl2 hl3)
  have LL := Lib.hid (fun w' hb => least_any w' U R a2 c2 x2 a3 c3 x3 (h.to hb) hl2 hl3)
  rcases priceCase ⟨U, R, x2, x3⟩ with ⟨p1, p2, p3⟩ | ⟨bw, bl, m, l, p1, p2, p3, p4⟩ | ⟨bw, bl, m, l, p1, p2, p3, p4, p5, p6⟩
  · rw [p3]
    rw [p1] at LW
    rw [p2] at LL
    clear h p1 p2 p3
    go_enter Try.func27, Try.ntmps27
    go_wp2_with fail
    refine (LW.out _ (bl1 _ _)).mono ?_
    rintro e w0 ⟨hb0, rfl⟩
    have B0 := below_then (bl1 w (.cells #[.int .i64 U, .int .i64 R, .slice a2 x2.length c2, .slice a3 x3.length c3] 28)) hb0
    have kA := (Blk.new w [.int .i64 U, .int .i64 R, .slice a2 x2.length c2, .slice a3 x3.length c3] 28).same hb0
    obtain ⟨q0, q1, q2, q3⟩ : _ ∧ _ ∧ _ ∧ _ := ⟨kA.cell 0, kA.cell 1, kA.cell 2, kA.cell 3⟩
    simp only [List.getElem?_cons_zero, List.getElem?_cons_succ] at q0 q1 q2 q3
    clear kA hb0
    go_wp2_with fail
    refine (LL.out _ B0).mono ?_
    rintro e w1 ⟨hb1, rfl⟩
    have B1 := below_then B0 hb1
    clear hb1 q0 q1 q2 q3 LW LL
    go_wp2_with fail
    go_ret3
    exact ⟨rfl, B1⟩
  · rw [p3]
    rw [p1] at LW
    rw [p2] at LL
    clear h p1 p2 p3
    go_enter Try.func27, Try.ntmps27
    go_wp2_with fail
    refine (LW.out _ (bl1 _ _)).mono ?_
    rintro e w0 ⟨hb0, aW, cW, rfl, _⟩
    have B0 := below_then (bl1 w (.cells #[.int .i64 U, .int .i64 R, .slice a2 x2.length c2, .slice a3 x3.length c3] 28)) hb0
    have kA := (Blk.new w [.int .i64 U, .int .i64 R, .slice a2 x2.length c2, .slice a3 x3.length c3] 28).same hb0
    obtain ⟨q0, q1, q2, q3⟩ : _ ∧ _ ∧ _ ∧ _ := ⟨kA.cell 0, kA.cell 1, kA.cell 2, kA.cell 3⟩
    simp only [List.getElem?_cons_zero, List.getElem?_cons_succ] at q0 q1 q2 q3
    clear kA hb0
    go_wp2_with fail
    refine (LL.out _ B0).mono ?_
    rintro e w1 ⟨hb1, aL, cL, rfl, _⟩
    have B1 := below_then B0 hb1
    clear hb1 q0 q1 q2 q3 LW LL
    go_wp2_with fail
    go_ret3
    exact ⟨rfl, B1⟩
  · rw [p3]
    rw [p1] at LW
    rw [p2] at LL
    have hnl : ¬ ((l : Int) < 1) := by omega
    have LR := Lib.hid (fun v => reduced_any v m l (by omega) (by omega) p4 (by omega))
    clear h p1 p2 p3
    generalize m / Nat.gcd m l = u1 at *
    generalize l / Nat.gcd m l = u2 at *
    go_enter Try.func27, Try.ntmps27
    go_wp2_with fail
    refine (LW.out _ (bl1 _ _)).mono ?_
    rintro e w0 ⟨hb0, aW, cW, rfl, _⟩
    have B0 := below_then (bl1 w (.cells #[.int .i64 U, .int .i64 R, .slice a2 x2.length c2, .slice a3 x3.length c3] 28)) hb0
    have kA := (Blk.new w [.int .i64 U, .int .i64 R, .slice a2 x2.length c2, .slice a3 x3.length c3] 28).same hb0
    obtain ⟨q0, q1, q2, q3⟩ : _ ∧ _ ∧ _ ∧ _ := ⟨kA.cell 0, kA.cell 1, kA.cell 2, kA.cell 3⟩
    simp only [List.getElem?_cons_zero, List.getElem?_cons_succ] at q0 q1 q2 q3
    clear kA hb0
    go_wp2_with fail
    refine (LL.out _ B0).mono ?_
    rintro e w1 ⟨hb1, aL, cL, rfl, _⟩
    have B1 := below_then B0 hb1
    clear hb1 q0 q1 q2 q3 LW LL
    go_wp2_with fail
    refine (LR.out _).mono ?_
    rintro e w5 ⟨rfl, mm, rfl⟩
    go_wp2_with fail
    go_ret3
    exact ⟨rfl, below_drewN B1 mm⟩
set_option maxRecDepth 10000 in
set_option maxHeartbeats 4000000 in
theorem priceR_any (w : World) (U R : Int) (a2 : Option Addr) (c2 : Nat) (x2 : List Int) (a3 : Option Addr) (c3 : Nat) (x3 : List Int) (h : RdCrowd w w.heap.size a2 x2 a3 x3) (hl2 : x2.length ≤ 1048576) (hl3 : x3.length ≤ 1048576) :
    Calls Try.prog 26 #[.agg #[.int .i64 U, .int .i64 R, .slice a2 x2.length c2, .slice a3 x3.length c3]] w fun e w' => e = .returned (.tuple #[.int .i64 (priceF ⟨U, R, x2, x3⟩).1, .int .i64 (priceF ⟨U, R, x2, x3⟩).2.1, .bool (priceF ⟨U, R, x2, x3⟩).2.2]) ∧ Below w.heap.size w w' := by
  have LW := Lib.hid (fun w' hb => worstR_any w' U R a2 c2 x2 a3 c3 x3 (h.to hb) hl2 hl3)
  have LL := Lib.hid (fun w' hb => leastR_any w' U R a2 c2 x2 a3 c3 x3 (h.to hb) hl2 hl3)
  rcases priceCase ⟨U, R, x2, x3⟩ with ⟨p1, p2, p3⟩ | ⟨bw, bl, m, l, p1, p2, p3, p4⟩ | ⟨bw, bl, m, l, p1, p2, p3, p4, p5, p6⟩
  · rw [p3]
    rw [p1] at LW
    rw [p2] at LL
    clear h p1 p2 p3
    go_enter Try.func26, Try.ntmps26
    go_wp2_with fail
    refine (LL.out _ (bl1 _ _)).mono ?_
    rintro e w0 ⟨hb0, rfl⟩
    have B0 := below_then (bl1 w (.cells #[.int .i64 U, .int .i64 R, .slice a2 x2.length c2, .slice a3 x3.length c3] 28)) hb0
    have kA := (Blk.new w [.int .i64 U, .int .i64 R, .slice a2 x2.length c2, .slice a3 x3.length c3] 28).same hb0
    obtain ⟨q0, q1, q2, q3⟩ : _ ∧ _ ∧ _ ∧ _ := ⟨kA.cell 0, kA.cell 1, kA.cell 2, kA.cell 3⟩
    simp only [List.getElem?_cons_zero, List.getElem?_cons_succ] at q0 q1 q2 q3
    clear kA hb0
    go_wp2_with fail
    refine (LW.out _ B0).mono ?_
    rintro e w1 ⟨hb1, rfl⟩
    have B1 := below_then B0 hb1
    clear hb1 q0 q1 q2 q3 LW LL
    go_wp2_with fail
    go_ret3
    exact ⟨rfl, B1⟩
  · rw [p3]
    rw [p1] at LW
    rw [p2] at LL
    clear h p1 p2 p3
    go_enter Try.func26, Try.ntmps26
    go_wp2_with fail
    refine (LL.out _ (bl1 _ _)).mono ?_
    rintro e w0 ⟨hb0, aL, cL, rfl, _⟩
    have B0 := below_then (bl1 w (.cells #[.int .i64 U, .int .i64 R, .slice a2 x2.length c2, .slice a3 x3.length c3] 28)) hb0
    have kA := (Blk.new w [.int .i64 U, .int .i64 R, .slice a2 x2.length c2, .slice a3 x3.length c3] 28).same hb0
    obtain ⟨q0, q1, q2, q3⟩ : _ ∧ _ ∧ _ ∧ _ := ⟨kA.cell 0, kA.cell 1, kA.cell 2, kA.cell 3⟩
    simp only [List.getElem?_cons_zero, List.getElem?_cons_succ] at q0 q1 q2 q3
    clear kA hb0
    go_wp2_with fail
    refine (LW.out _ B0).mono ?_
    rintro e w1 ⟨hb1, aW, cW, rfl, _⟩
    have B1 := below_then B0 hb1
    clear hb1 q0 q1 q2 q3 LW LL
    go_wp2_with fail
    go_ret3
    exact ⟨rfl, B1⟩
  · rw [p3]
    rw [p1] at LW
    rw [p2] at LL
    have hnl : ¬ ((l : Int) < 1) := by omega
    have LR := Lib.hid (fun v => l02Least2_any v m l (by omega) (by omega) p4 (by omega))
    clear h p1 p2 p3
    generalize m / Nat.gcd m l = u1 at *
    generalize l / Nat.gcd m l = u2 at *
    go_enter Try.func26, Try.ntmps26
    go_wp2_with fail
    refine (LL.out _ (bl1 _ _)).mono ?_
    rintro e w0 ⟨hb0, aL, cL, rfl, _⟩
    have B0 := below_then (bl1 w (.cells #[.int .i64 U, .int .i64 R, .slice a2 x2.length c2, .slice a3 x3.length c3] 28)) hb0
    have kA := (Blk.new w [.int .i64 U, .int .i64 R, .slice a2 x2.length c2, .slice a3 x3.length c3] 28).same hb0
    obtain ⟨q0, q1, q2, q3⟩ : _ ∧ _ ∧ _ ∧ _ := ⟨kA.cell 0, kA.cell 1, kA.cell 2, kA.cell 3⟩
    simp only [List.getElem?_cons_zero, List.getElem?_cons_succ] at q0 q1 q2 q3
    clear kA hb0
    go_wp2_with fail
    refine (LW.out _ B0).mono ?_
    rintro e w1 ⟨hb1, aW, cW, rfl, _⟩
    have B1 := below_then B0 hb1
    clear hb1 q0 q1 q2 q3 LW LL
    go_wp2_with fail
    refine (LR.out _).mono ?_
    rintro e w5 ⟨rfl, mm, rfl⟩
    go_wp2_with fail
    go_ret3
    exact ⟨rfl, below_drewN B1 mm⟩
end Go.Proofs.Ytbgclfbhdpgdaaa
