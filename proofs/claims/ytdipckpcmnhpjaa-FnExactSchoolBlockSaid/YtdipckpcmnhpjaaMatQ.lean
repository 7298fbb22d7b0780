/-
  Seats for wishes: both roads' tests.
-/
import Derived.Test.YtdipckpcmnhpjaaMatX
namespace Go.Proofs.Ytdipckpcmnhpjaa
set_option linter.unusedVariables false
set_option linter.unusedSimpArgs false
open Go.RowKit

set_option maxRecDepth 10000 in
set_option maxHeartbeats 4000000 in
theorem areSeats_any (w : World) (a0 : Option Addr) (c0 : Nat) (x0 : List (List Int)) (a1 : Option Addr) (c1 : Nat) (x1 : List (List Int)) (a : Option Addr) (c : Nat) (m : List Int) (h : RdWishes w w.heap.size a0 x0 a1 x1) (hl0 : x0.length ≤ 1048576) (hin0 : ∀ y ∈ x0, y.length ≤ 1048576) (hl1 : x1.length ≤ 1048576) (hin1 : ∀ y ∈ x1, y.length ≤ 1048576)
    (g : Rd w w.heap.size a (ints m)) (hl : m.length ≤ 1048576) :
    Calls Try.prog 68 #[.agg #[.slice a0 x0.length c0, .slice a1 x1.length c1], .slice a m.length c] w fun e w' => e = .returned (.bool (seatsB ⟨x0, x1⟩ m)) ∧ Below w.heap.size w w' := by
  have X0 : Bx w (w.alloc (.cells #[.slice a0 x0.length c0, .slice a1 x1.length c1] 28)) [.slice a0 x0.length c0, .slice a1 x1.length c1] 28 := Bx.start w _ _
  have LV := Lib.hid (fun w' hb => validWishes_any w' a0 c0 x0 a1 c1 x1 (h.to hb) hl0 hin0 hl1 hin1)
  have LC := Lib.hid (fun w' => count_any w' a0 c0 x0 a1 c1 x1)
  have LM := Lib.hid (fun w' hb => areMany_any w' a c m x0.length x0.length 0 8 (g.to hb) (by omega))
  have HF : Hid (seatsB ⟨x0, x1⟩ m = (wishB ⟨x0, x1⟩ && manyB m x0.length x0.length 0 8)) := rfl
  clear h g hin0 hin1
  obtain ⟨w0, hw0⟩ : ∃ W, W = w.alloc (.cells #[.slice a0 x0.length c0, .slice a1 x1.length c1] 28) := ⟨_, rfl⟩
  have HW := Lib.hid hw0
  rw [← hw0] at X0
  clear hw0
  have F0 : ∀ z : Later (w.alloc (.cells #[.slice a0 x0.length c0, .slice a1 x1.length c1] 28)), z.w'.cell? ⟨w.heap.size, 0, none⟩ = some (.slice a0 x0.length c0) := fun z => z.cell (by simp) (by rw [← HW.out]; exact X0.two.1)
  have F1 : ∀ z : Later (w.alloc (.cells #[.slice a0 x0.length c0, .slice a1 x1.length c1] 28)), z.w'.cell? ⟨w.heap.size, 1, none⟩ = some (.slice a1 x1.length c1) := fun z => z.cell (by simp) (by rw [← HW.out]; exact X0.two.2)
  have HB : Hid (∀ z : Later (w.alloc (.cells #[.slice a0 x0.length c0, .slice a1 x1.length c1] 28)), Below w.heap.size w z.w') := fun z => (bl1 _ _).trans (z.h.mono (by simp))
  cases t1 : wishB ⟨x0, x1⟩ with
  | false =>
    rw [t1, Bool.false_and] at HF
    rw [t1] at LV
    go_enter Try.func68, Try.ntmps68
    go_wp2_with fail
    refine wp_region_later (by kernel_rfl) (by kernel_rfl) ?_
    repeat (go_big_quiet_step ((go_at_call 58; exact later_of (LV.out _ (HB.out _)))))
    refine wpQuiet_nil ?_
    rintro wq ⟨z, rfl⟩
    have hb := HB.out z
    clear F0 F1
    go_wp2_with fail
    go_ret
    exact ⟨ret_bool HF.out.symm, hb⟩
  | true =>
    rw [t1, Bool.true_and] at HF
    rw [t1] at LV
    generalize manyB m x0.length x0.length 0 8 = r at *
    go_enter Try.func68, Try.ntmps68
    go_wp2_with fail
    refine wp_region_later (by kernel_rfl) (by kernel_rfl) ?_
    repeat (go_big_quiet_step (first | (go_at_call 58; exact later_of (LV.out _ (HB.out _))) | (go_at_call 70; exact later_of (LC.out _)) | (go_at_call 107; exact later_same (LM.out _ (HB.out _)))))
    refine wpQuiet_nil ?_
    rintro wq ⟨z, rfl⟩
    have hb := HB.out z
    clear F0 F1
    go_wp2_with fail
    go_ret
    exact ⟨ret_bool HF.out.symm, hb⟩
set_option maxRecDepth 10000 in
set_option maxHeartbeats 4000000 in
theorem l05Seats_any (w : World) (b o : Nat) (a0 : Option Addr) (c0 : Nat) (x0 : List (List Int)) (a1 : Option Addr) (c1 : Nat) (x1 : List (List Int)) (d0 : w.cell? ⟨b, o, none⟩ = some (.slice a0 x0.length c0)) (d1 : w.cell? ⟨b, o + 1, none⟩ = some (.slice a1 x1.length c1))
    (a : Option Addr) (c : Nat) (m : List Int) (h : RdWishes w w.heap.size a0 x0 a1 x1) (hl0 : x0.length ≤ 1048576) (hin0 : ∀ y ∈ x0, y.length ≤ 1048576) (hl1 : x1.length ≤ 1048576) (hin1 : ∀ y ∈ x1, y.length ≤ 1048576) (g : Rd w w.heap.size a (ints m)) (hl : m.length ≤ 1048576) :
    Calls Try.prog 64 #[.pointer (some ⟨b, o, none⟩), .slice a m.length c] w fun e w' => e = .returned (.bool (seatsB ⟨x0, x1⟩ m)) ∧ ∃ q, w' = w.drewN q := by
  have LI := Lib.hid (l05Is_any w b o a0 c0 x0 a1 c1 x1 d0 d1 h hl0 hin0 hl1 hin1)
  have HF : Hid (seatsB ⟨x0, x1⟩ m = (wishB ⟨x0, x1⟩ && manyB m x0.length x0.length 0 8)) := rfl
  cases t1 : wishB ⟨x0, x1⟩ with
  | false =>
    rw [t1] at LI HF
    rw [Bool.false_and] at HF
    clear h g hin0 hin1
    go_enter Try.func64, Try.ntmps64
    go_wp2_with fail
    refine LI.out.mono ?_
    rintro e w1 ⟨rfl, q, rfl⟩
    go_wp2_with fail
    go_ret
    exact ⟨ret_bool HF.out.symm, q, rfl⟩
  | true =>
  rw [t1] at LI HF
  rw [Bool.true_and] at HF
  have hln := Lib.hid (wish_of t1).len
  simp only at hln
  by_cases hn : m.length = x1.length
  case neg =>
    have HF2 : Hid (seatsB ⟨x0, x1⟩ m = false) := by
      rw [Hid, HF.out]
      have : inB (m.length : Int) x0.length x0.length = false := inB_no.2 (by have := hln.out; omega)
      unfold manyB; rw [this]; rfl
    have hne : ((m.length : Int) != (x1.length : Int)) = true := by simp; omega
    clear h g hin0 hin1 hn
    go_enter Try.func64, Try.ntmps64
    go_wp2_with fail
    refine LI.out.mono ?_
    rintro e w1 ⟨rfl, q, rfl⟩
    go_wp2_with fail
    go_ret
    exact ⟨ret_bool HF2.out.symm, q, rfl⟩
  have hne : ((m.length : Int) != (x1.length : Int)) = false := by simp; omega
  have HF2 : Hid (seatsB ⟨x0, x1⟩ m = allIn m 0 8) := by
    rw [Hid, HF.out]
    have : inB (m.length : Int) x0.length x0.length = true := inB_iff.2 (by have := hln.out; omega)
    unfold manyB; rw [this]; rfl
  have G := Lib.hid g
  clear h g hin0 hin1 hn t1
  go_enter Try.func64, Try.ntmps64
  go_wp2_with fail
  refine LI.out.mono ?_
  rintro e w1 ⟨rfl, q0, rfl⟩
  go_wp2_with fail
  go_loop [21] (fun i => ∃ k : Nat, k ≤ m.length ∧ i = .int .i64 k ∧ Hid (allIn (m.take k) 0 8 = true)) (fun i => m.length - (intOf i).toNat)
  case atStart => exact ⟨0, Nat.zero_le _, rfl, rfl⟩
  case round =>
    obtain ⟨k, hk, rfl, ha⟩ := hrel
    by_cases hlt : k < m.length
    · obtain ⟨b1, o1, x, rfl, hbb, hck, hx⟩ := G.out.get hlt
      have LX := Lib.hid (fun v => l00In_any x 0 8 v)
      cases hin : inB x 0 8 with
      | true =>
        have HA : Hid (allIn (m.take (k + 1)) 0 8 = true) := by rw [Hid, allIn_snoc hx.out, ha.out, hin]; rfl
        rw [hin] at LX
        clear ha
        go_wp2_with (go_at_call 65; refine (LX.out _).mono ?_; rintro e w' ⟨rfl, rfl⟩)
        go_round
        case rel => exact ⟨k + 1, by omega, by go_num, HA⟩
        case measure => simp [intOf]; omega
      | false =>
        have HB : Hid (seatsB ⟨x0, x1⟩ m = false) := HF2.out.trans (allIn_false hx.out hin)
        rw [hin] at LX
        clear ha
        go_wp2_with (go_at_call 65; refine (LX.out _).mono ?_; rintro e w' ⟨rfl, rfl⟩)
        go_ret
        exact ⟨ret_bool HB.out.symm, q0, rfl⟩
    · have : k = m.length := by omega
      subst this
      rw [List.take_length] at ha
      have HB : Hid (seatsB ⟨x0, x1⟩ m = true) := HF2.out.trans ha.out
      clear ha
      go_wp2
      go_ret
      exact ⟨ret_bool HB.out.symm, q0, rfl⟩
end Go.Proofs.Ytdipckpcmnhpjaa
