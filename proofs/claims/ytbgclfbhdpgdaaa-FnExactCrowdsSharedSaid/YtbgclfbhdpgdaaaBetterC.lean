/-
  The first user takes a better way: both roads.
-/
import Derived.Test.YtbgclfbhdpgdaaaIsRest
namespace Go.Proofs.Ytbgclfbhdpgdaaa
set_option linter.unusedVariables false
set_option linter.unusedSimpArgs false
open Go.RowKit

def betterCF (c : Cr) (ch : List Int) : Option (List Int) := if canB c ch then betL c ch else none
theorem betterCF_no {c : Cr} {ch : List Int} (h : canB c ch = false) : betterCF c ch = none := by simp [betterCF, h]
theorem betterCF_yes {c : Cr} {ch : List Int} (h : canB c ch = true) : betterCF c ch = betL c ch := by simp [betterCF, h]
theorem betterCF_none {c : Cr} {ch : List Int} (h : canB c ch = true) (hb : betterF c ch = none) : betterCF c ch = none := by simp [betterCF, betL, h, hb]
theorem betterCF_some {c : Cr} {ch : List Int} {u k : Nat} (h : canB c ch = true) (hb : betterF c ch = some (u, k)) : betterCF c ch = some (ch.set u (k : Int)) := by simp [betterCF, betL, h, hb]
theorem betterCF_len (c : Cr) (ch : List Int) (hl : ch.length ≤ 1073741824) : ((betterCF c ch).getD []).length ≤ 1073741824 := by
  unfold betterCF
  split
  · cases h : betL c ch with
    | none => simp
    | some ys => have := betL_len h; simp; omega
  · simp
set_option maxRecDepth 10000 in
set_option maxHeartbeats 4000000 in
theorem betterC_any (w : World) (U R : Int) (a2 : Option Addr) (c2 : Nat) (x2 : List Int) (a3 : Option Addr) (c3 : Nat) (x3 : List Int) (a : Option Addr) (c : Nat) (ch : List Int) (h : RdCrowd w w.heap.size a2 x2 a3 x3) (hl2 : x2.length ≤ 1048576) (hl3 : x3.length ≤ 1048576) (g : Rd w w.heap.size a (ints ch)) (hl : ch.length ≤ 1048576) :
    Calls Try.prog 18 #[.agg #[.int .i64 U, .int .i64 R, .slice a2 x2.length c2, .slice a3 x3.length c3], .slice a ch.length c] w (RetI 2 w (betterCF ⟨U, R, x2, x3⟩ ch)) := by
  have LC := Lib.hid (fun w' hb => chosen_any w' U R a2 c2 x2 a3 c3 x3 a c ch (h.to hb) hl2 hl3 (g.to hb) hl)
  cases t1 : canB ⟨U, R, x2, x3⟩ ch with
  | false =>
    rw [betterCF_no t1]
    rw [t1] at LC
    clear h g t1
    go_enter Try.func18, Try.ntmps18
    go_wp2_with fail
    refine (LC.out _ (bl1 _ _)).mono ?_
    rintro e w1 ⟨rfl, hb1⟩
    have B1 := below_then (bl1 w _) hb1
    clear hb1
    go_wp2_with fail
    go_ret2
    exact RetI.no B1
  | true =>
    rw [t1] at LC
    have hc := can_of t1
    obtain ⟨n, rfl⟩ := roads_nat hc
    have LB := Lib.hid (fun w' hb => better_any w' U n a2 c2 x2 a3 c3 x3 a c ch (h.to hb) (g.to hb) hc)
    cases hbf : betterF ⟨U, n, x2, x3⟩ ch with
    | none =>
      rw [betterCF_none t1 hbf]
      simp only [hbf, bU, bK] at LB
      clear h g t1 hc hbf
      go_enter Try.func18, Try.ntmps18
      go_wp2_with fail
      refine (LC.out _ (bl1 _ _)).mono ?_
      rintro e w1 ⟨rfl, hb1⟩
      have kA := (Blk.new w [.int .i64 U, .int .i64 n, .slice a2 x2.length c2, .slice a3 x3.length c3] 28).same hb1
      have B1 := below_then (bl1 w (.cells #[.int .i64 U, .int .i64 n, .slice a2 x2.length c2, .slice a3 x3.length c3] 28)) hb1
      have q0 := kA.cell 0
      have q1 := kA.cell 1
      have q2 := kA.cell 2
      have q3 := kA.cell 3
      simp only [List.getElem?_cons_zero, List.getElem?_cons_succ] at q0 q1 q2 q3
      clear hb1 kA LC
      go_wp2_with fail
      refine (LB.out _ B1).mono ?_
      rintro e w2 ⟨rfl, hb2⟩
      have B2 := below_then B1 hb2
      clear hb2 LB q0 q1 q2 q3
      go_wp2_with fail
      go_ret2
      exact RetI.no B2
    | some p =>
      obtain ⟨u, k⟩ := p
      rw [betterCF_some t1 hbf]
      simp only [hbf, bU, bK] at LB
      obtain ⟨hu, _, _⟩ := better_some hbf
      have hU1 : 1 ≤ ch.length := by omega
      have LCl := Lib.hid (fun w' hb => clone_any w' a c ch (g.to hb) hU1 (by omega))
      clear h g t1 hc hbf
      go_enter Try.func18, Try.ntmps18
      go_wp2_with fail
      refine (LC.out _ (bl1 _ _)).mono ?_
      rintro e w1 ⟨rfl, hb1⟩
      have kA := (Blk.new w [.int .i64 U, .int .i64 n, .slice a2 x2.length c2, .slice a3 x3.length c3] 28).same hb1
      have B1 := below_then (bl1 w (.cells #[.int .i64 U, .int .i64 n, .slice a2 x2.length c2, .slice a3 x3.length c3] 28)) hb1
      have q0 := kA.cell 0
      have q1 := kA.cell 1
      have q2 := kA.cell 2
      have q3 := kA.cell 3
      simp only [List.getElem?_cons_zero, List.getElem?_cons_succ] at q0 q1 q2 q3
      clear hb1 kA LC
      go_wp2_with fail
      refine (LB.out _ B1).mono ?_
      rintro e w2 ⟨rfl, hb2⟩
      have B2 := below_then B1 hb2
      have hneg : ¬ ((u : Int) < 0) := by omega
      clear hb2 LB q0 q1 q2 q3 B1
      go_wp2_with fail
      refine (LCl.out _ B2).mono ?_
      rintro e w3 ⟨a1, c1, rfl, o1, hb3⟩
      have B3 := below_then B2 hb3
      have o1' := own_base o1.1 B2.size
      obtain ⟨q, tl, rfl, hq, hbq, hcc, hccm, hcl⟩ := own_open o1' (by omega)
      have f1 := hbq.free u
      have e1 := cell_app hbq (j := u) hu
      have hset := set_app hbq (j := u) hu k
      have B4 := below_sto B3 hq u (.int .i64 k)
      have HR : Hid (RetI 2 w (some (ch.set u (k : Int))) (.returned (.tuple #[.slice (some ⟨q, 0, none⟩) ch.length c1, .bool true])) (w3.setCell ⟨q, u, none⟩ (.int .i64 k))) := by
        refine ⟨B4, _, _, by rw [List.length_set], ?_⟩
        rw [List.length_set]
        refine own_close hset hq (by simp) hcc hccm ?_
        simp at hcl ⊢
        omega
      clear o1 o1' hb3 hbq hset LCl B2 B3 B4
      go_wp2_with fail
      go_ret2
      exact HR.out
set_option maxRecDepth 10000 in
set_option maxHeartbeats 4000000 in
theorem betterCR_any (w : World) (U R : Int) (a2 : Option Addr) (c2 : Nat) (x2 : List Int) (a3 : Option Addr) (c3 : Nat) (x3 : List Int) (a : Option Addr) (c : Nat) (ch : List Int) (h : RdCrowd w w.heap.size a2 x2 a3 x3) (hl2 : x2.length ≤ 1048576) (hl3 : x3.length ≤ 1048576) (g : Rd w w.heap.size a (ints ch)) (hl : ch.length ≤ 1048576) :
    Calls Try.prog 17 #[.agg #[.int .i64 U, .int .i64 R, .slice a2 x2.length c2, .slice a3 x3.length c3], .slice a ch.length c] w (RetI 2 w (betterCF ⟨U, R, x2, x3⟩ ch)) := by
  have kA := Blk.new w [.int .i64 U, .int .i64 R, .slice a2 x2.length c2, .slice a3 x3.length c3] 28
  have q0 := kA.cell 0
  have q1 := kA.cell 1
  have q2 := kA.cell 2
  have q3 := kA.cell 3
  simp only [List.getElem?_cons_zero, List.getElem?_cons_succ] at q0 q1 q2 q3
  have hB := bl1 w (.cells #[.int .i64 U, .int .i64 R, .slice a2 x2.length c2, .slice a3 x3.length c3] 28)
  have LC := Lib.hid (l06Can_any _ w.heap.size 0 U R a2 c2 x2 a3 c3 x3 q0 q1 q2 q3 a c ch (h.to hB) hl2 hl3 (g.to hB) hl)
  cases t1 : canB ⟨U, R, x2, x3⟩ ch with
  | false =>
    rw [betterCF_no t1]
    rw [t1] at LC
    clear h g t1 q0 q1 q2 q3 kA
    go_enter Try.func17, Try.ntmps17
    go_wp2_with fail
    refine LC.out.mono ?_
    rintro e w1 ⟨rfl, m, rfl⟩
    clear LC
    go_wp2_with fail
    go_ret2
    exact RetI.no (below_drewN hB m)
  | true =>
    rw [betterCF_yes t1]
    rw [t1] at LC
    have hc := can_of t1
    obtain ⟨n, rfl⟩ := roads_nat hc
    have LB := Lib.hid (fun m => l06Better_any ((w.alloc (.cells #[.int .i64 U, .int .i64 n, .slice a2 x2.length c2, .slice a3 x3.length c3] 28)).drewN m) w.heap.size 0 U n a2 c2 x2 a3 c3 x3 a c ch (by simp) (by simp) (by simp) (by simp) (h.to (below_drewN hB m)) (g.to (below_drewN hB m)) hc)
    clear h g t1 q0 q1 q2 q3 kA hc
    generalize betL ⟨U, (n : Int), x2, x3⟩ ch = r at *
    cases r with
    | none =>
      go_enter Try.func17, Try.ntmps17
      go_wp2_with fail
      refine LC.out.mono ?_
      rintro e w1 ⟨rfl, m, rfl⟩
      clear LC
      go_wp2_with fail
      refine (LB.out m).mono ?_
      rintro e w2 ⟨hb2, rfl⟩
      have B2 := below_then (below_drewN hB m) hb2
      clear LB hb2 hB
      go_wp2_with fail
      go_ret2
      exact RetI.no B2
    | some ys =>
      go_enter Try.func17, Try.ntmps17
      go_wp2_with fail
      refine LC.out.mono ?_
      rintro e w1 ⟨rfl, m, rfl⟩
      clear LC
      go_wp2_with fail
      refine (LB.out m).mono ?_
      rintro e w2 ⟨hb2, a', c', rfl, ho⟩
      have B2 := below_then (below_drewN hB m) hb2
      have HR : Hid (RetI 2 w (some ys) (.returned (.tuple #[.slice a' ys.length c', .bool true])) w2) := ⟨B2, _, _, rfl, own_base ho (below_drewN hB m).size⟩
      clear LB hb2 hB ho B2
      go_wp2_with fail
      go_ret2
      exact HR.out
end Go.Proofs.Ytbgclfbhdpgdaaa
