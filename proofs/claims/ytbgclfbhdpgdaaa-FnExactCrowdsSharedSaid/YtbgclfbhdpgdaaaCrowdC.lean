/-
  Choices that are valid: both roads.
-/
import Derived.Test.YtbgclfbhdpgdaaaCrowdV2
namespace Go.Proofs.Ytbgclfbhdpgdaaa
set_option linter.unusedVariables false
set_option linter.unusedSimpArgs false
open Go.RowKit

set_option maxRecDepth 10000 in
set_option maxHeartbeats 4000000 in
theorem chosen_any (w : World) (U R : Int) (a2 : Option Addr) (c2 : Nat) (x2 : List Int) (a3 : Option Addr) (c3 : Nat) (x3 : List Int) (a : Option Addr) (c : Nat) (ch : List Int) (h : RdCrowd w w.heap.size a2 x2 a3 x3) (hl2 : x2.length ≤ 1048576) (hl3 : x3.length ≤ 1048576) (g : Rd w w.heap.size a (ints ch)) (hl : ch.length ≤ 1048576) :
    Calls Try.prog 52 #[.agg #[.int .i64 U, .int .i64 R, .slice a2 x2.length c2, .slice a3 x3.length c3], .slice a ch.length c] w fun e w' => e = .returned (.bool (canB ⟨U, R, x2, x3⟩ ch)) ∧ Below w.heap.size w w' := by
  have LV := Lib.hid (fun w' hb => validCrowd_any w' U R a2 c2 x2 a3 c3 x3 (h.to hb) hl2 hl3)
  have LM := Lib.hid (fun w' hb => areMany_any w' a c ch U U 0 ((x2.length : Int) - 1) (g.to hb) (by omega))
  cases t1 : validB ⟨U, R, x2, x3⟩ with
  | false =>
    have HF : Hid (canB ⟨U, R, x2, x3⟩ ch = false) := by simp [Hid, canB, t1]
    rw [t1] at LV
    clear h g
    go_enter Try.func52, Try.ntmps52
    go_wp2_with fail
    refine (LV.out _ (bl1 _ _)).mono ?_
    rintro e w1 ⟨rfl, hb1⟩
    have B1 := below_then (bl1 w _) hb1
    clear hb1
    go_wp2_with fail
    go_ret
    exact ⟨ret_bool HF.out.symm, B1⟩
  | true =>
    have HF : Hid (canB ⟨U, R, x2, x3⟩ ch = manyB ch U U 0 ((x2.length : Int) - 1)) := by simp [Hid, canB, t1]
    rw [t1] at LV
    clear h g
    go_enter Try.func52, Try.ntmps52
    go_wp2_with fail
    refine (LV.out _ (bl1 _ _)).mono ?_
    rintro e w1 ⟨rfl, hb1⟩
    have kA := (Blk.new w [.int .i64 U, .int .i64 R, .slice a2 x2.length c2, .slice a3 x3.length c3] 28).same hb1
    have B1 := below_then (bl1 w (.cells #[.int .i64 U, .int .i64 R, .slice a2 x2.length c2, .slice a3 x3.length c3] 28)) hb1
    have q0 := kA.cell 0
    have q2 := kA.cell 2
    simp only [List.getElem?_cons_zero, List.getElem?_cons_succ] at q0 q2
    have L2 := Lib.hid (LM.out _ B1)
    clear hb1 kA
    go_wp2_with (go_at_call 75; refine L2.out.mono ?_; rintro e w' ⟨rfl, rfl⟩)
    go_ret
    exact ⟨ret_bool HF.out.symm, B1⟩
set_option maxRecDepth 10000 in
set_option maxHeartbeats 4000000 in
theorem l06Can_any (w : World) (b o : Nat) (U R : Int) (a2 : Option Addr) (c2 : Nat) (x2 : List Int) (a3 : Option Addr) (c3 : Nat) (x3 : List Int)
    (d0 : w.cell? ⟨b, o, none⟩ = some (.int .i64 U)) (d1 : w.cell? ⟨b, o + 1, none⟩ = some (.int .i64 R)) (d2 : w.cell? ⟨b, o + 2, none⟩ = some (.slice a2 x2.length c2)) (d3 : w.cell? ⟨b, o + 3, none⟩ = some (.slice a3 x3.length c3))
    (a : Option Addr) (c : Nat) (ch : List Int) (h : RdCrowd w w.heap.size a2 x2 a3 x3) (hl2 : x2.length ≤ 1048576) (hl3 : x3.length ≤ 1048576) (g : Rd w w.heap.size a (ints ch)) (hl : ch.length ≤ 1048576) :
    Calls Try.prog 50 #[.pointer (some ⟨b, o, none⟩), .slice a ch.length c] w fun e w' => e = .returned (.bool (canB ⟨U, R, x2, x3⟩ ch)) ∧ ∃ n, w' = w.drewN n := by
  have LV := Lib.hid (l06Is_any w b o U R a2 c2 x2 a3 c3 x3 d0 d1 d2 d3 h hl2 hl3)
  clear h
  cases t1 : validB ⟨U, R, x2, x3⟩ with
  | false =>
    have HF : Hid (canB ⟨U, R, x2, x3⟩ ch = false) := by simp [Hid, canB, t1]
    rw [t1] at LV
    clear g
    go_enter Try.func50, Try.ntmps50
    go_wp2_with fail
    refine LV.out.mono ?_
    rintro e w1 ⟨rfl, m, rfl⟩
    go_wp2_with fail
    go_ret
    exact ⟨ret_bool HF.out.symm, m, rfl⟩
  | true =>
  rw [t1] at LV
  by_cases hn : (ch.length : Int) = U
  case neg =>
    have HF : Hid (canB ⟨U, R, x2, x3⟩ ch = false) := by
      have : inB ch.length U U = false := inB_no.2 (by omega)
      simp [Hid, canB, t1, manyB, this]
    have hnd : ((ch.length : Int) != U) = true := by simp [hn]
    clear g hn
    go_enter Try.func50, Try.ntmps50
    go_wp2_with fail
    refine LV.out.mono ?_
    rintro e w1 ⟨rfl, m, rfl⟩
    go_wp2_with fail
    go_ret
    exact ⟨ret_bool HF.out.symm, m, rfl⟩
  have HF : Hid (canB ⟨U, R, x2, x3⟩ ch = allIn ch 0 ((x2.length : Int) - 1)) := by
    have : inB ch.length U U = true := inB_iff.2 (by omega)
    simp [Hid, canB, t1, manyB, this]
  have hnd : ((ch.length : Int) != U) = false := by simp [hn]
  have Hn := Lib.hid hn
  have hwr : IntKind.i64.wrap ((x2.length : Int) - 1) = (x2.length : Int) - 1 := IntWalk.i64_in _ (by omega)
  clear hn
  go_enter Try.func50, Try.ntmps50
  go_wp2_with fail
  refine LV.out.mono ?_
  rintro e w1 ⟨rfl, m0, rfl⟩
  clear LV
  go_wp2_with fail
  go_loopw [5] (fun i wi => ∃ (k m : Nat), k ≤ ch.length ∧ i = .int .i64 k ∧ Hid (allIn (ch.take k) 0 ((x2.length : Int) - 1) = true) ∧ wi = w.drewN m) (fun i _ => ch.length - (intOf i).toNat)
  case atStart => exact ⟨0, _, Nat.zero_le _, rfl, rfl, rfl⟩
  case round =>
    obtain ⟨k, m, hk, rfl, hall, rfl⟩ := hrel
    by_cases hlt : k < ch.length
    · obtain ⟨b2, o2, x, rfl, hbb, hck, hx⟩ := g.get hlt
      have LX := Lib.hid (fun v => l00In_any x 0 ((x2.length : Int) - 1) v)
      cases hin : inB x 0 ((x2.length : Int) - 1) with
      | true =>
        have hall2 : Hid (allIn (ch.take (k + 1)) 0 ((x2.length : Int) - 1) = true) := by rw [Hid, allIn_snoc hx.out, hall.out, hin]; rfl
        rw [hin] at LX
        clear hin hall g
        go_wp2_with fail
        go_quiet ((go_at_call 66; exact qs2 (LX.out _)))
        go_wp2_with fail
        go_roundw
        case rel => exact ⟨k + 1, m + nq, by omega, by go_num, hall2, by first | rfl | exact World.drewN_drewN _ _ _⟩
        case measure => simp [intOf]; omega
      | false =>
        have HF2 : Hid (canB ⟨U, R, x2, x3⟩ ch = false) := by rw [Hid, HF.out, allIn_false hx.out hin]
        rw [hin] at LX
        clear hin hall g
        go_wp2_with fail
        go_quiet ((go_at_call 66; exact qs2 (LX.out _)))
        go_wp2_with fail
        go_ret
        exact ⟨ret_bool HF2.out.symm, m + nq, by first | rfl | exact World.drewN_drewN _ _ _⟩
    · have : k = ch.length := by omega
      subst this
      rw [List.take_length] at hall
      have HF2 : Hid (canB ⟨U, R, x2, x3⟩ ch = true) := by rw [Hid, HF.out, hall.out]
      clear hall g
      go_wp2_with fail
      go_ret
      exact ⟨ret_bool HF2.out.symm, _, rfl⟩
end Go.Proofs.Ytbgclfbhdpgdaaa
