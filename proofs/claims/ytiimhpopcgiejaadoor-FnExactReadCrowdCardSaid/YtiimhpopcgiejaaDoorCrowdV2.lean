/-
  The reference's test of a crowd.
-/
import Derived.Test.YtiimhpopcgiejaaDoorCrowdV
namespace Go.Proofs.YtiimhpopcgiejaaDoor
set_option linter.unusedVariables false
set_option linter.unusedSimpArgs false
open Go.RowKit
set_option maxRecDepth 10000 in
set_option maxHeartbeats 4000000 in
theorem l06Is_any (w : World) (b o : Nat) (U R : Int) (a2 : Option Addr) (c2 : Nat) (x2 : List Int) (a3 : Option Addr) (c3 : Nat) (x3 : List Int)
    (d0 : w.cell? ⟨b, o, none⟩ = some (.int .i64 U)) (d1 : w.cell? ⟨b, o + 1, none⟩ = some (.int .i64 R)) (d2 : w.cell? ⟨b, o + 2, none⟩ = some (.slice a2 x2.length c2)) (d3 : w.cell? ⟨b, o + 3, none⟩ = some (.slice a3 x3.length c3))
    (h : RdCrowd w w.heap.size a2 x2 a3 x3) (hl2 : x2.length ≤ 1048576) (hl3 : x3.length ≤ 1048576) :
    Calls Tryd.prog 83 #[.pointer (some ⟨b, o, none⟩)] w fun e w' => e = .returned (.bool (validB ⟨U, R, x2, x3⟩)) ∧ ∃ n, w' = w.drewN n := by
  have LU := Lib.hid (fun v => l00In_any U 1 8 v)
  have LR := Lib.hid (fun v => l00In_any R 1 8 v)
  cases t1 : inB U 1 8 with
  | false =>
    have HF : Hid (validB ⟨U, R, x2, x3⟩ = false) := by simp [Hid, validB, t1]
    rw [t1] at LU
    clear h
    go_enter Tryd.func83, Tryd.ntmps83
    go_wp2_with fail
    go_quiet ((go_at_call 78; with_reducible exact qs1 (LU.out _)))
    go_wp2_with fail
    go_ret
    exact ⟨ret_bool HF.out.symm, _, rfl⟩
  | true =>
  rw [t1] at LU
  cases t2 : inB R 1 8 with
  | false =>
    have HF : Hid (validB ⟨U, R, x2, x3⟩ = false) := by simp [Hid, validB, t1, t2]
    rw [t2] at LR
    clear h
    go_enter Tryd.func83, Tryd.ntmps83
    go_wp2_with fail
    go_quiet (first | (go_at_call 78; with_reducible exact qs1 (LU.out _)) | (go_at_call 78; with_reducible exact qs1 (LR.out _)))
    go_wp2_with fail
    go_ret
    exact ⟨ret_bool HF.out.symm, _, rfl⟩
  | true =>
  rw [t2] at LR
  obtain ⟨u1, u8⟩ := inB_iff.1 t1
  obtain ⟨r1, r8⟩ := inB_iff.1 t2
  obtain ⟨p1, p2⟩ := prod_bd u1 u8 r1 r8
  have HV : Hid (validB ⟨U, R, x2, x3⟩ = (manyB x2 1 8 1 (2 ^ R.toNat - 1) && manyB x3 (U * R) (U * R) (-100000) 100000)) := by
    show _ = _
    simp only [validB, t1, t2, Bool.true_and]
  by_cases h1 : x2.length < 1
  case pos =>
    have HF : Hid (validB ⟨U, R, x2, x3⟩ = false) := by
      rw [Hid, HV.out]
      have : inB x2.length 1 8 = false := inB_no.2 (by omega)
      simp [manyB, this]
    have h1d : decide ((x2.length : Int) < 1) = true := decide_eq_true (by omega)
    clear h h1
    go_enter Tryd.func83, Tryd.ntmps83
    go_wp2_with fail
    go_quiet (first | (go_at_call 78; with_reducible exact qs1 (LU.out _)) | (go_at_call 78; with_reducible exact qs1 (LR.out _)))
    go_wp2_with fail
    go_ret
    exact ⟨ret_bool HF.out.symm, _, rfl⟩
  by_cases h8 : 8 < x2.length
  case pos =>
    have HF : Hid (validB ⟨U, R, x2, x3⟩ = false) := by
      rw [Hid, HV.out]
      have : inB x2.length 1 8 = false := inB_no.2 (by omega)
      simp [manyB, this]
    have h1' : 1 ≤ x2.length := by omega
    have h1d : decide ((x2.length : Int) < 1) = false := decide_eq_false (by omega)
    have h8d : decide ((8 : Int) < (x2.length : Int)) = true := decide_eq_true (by omega)
    clear h h1
    go_enter Tryd.func83, Tryd.ntmps83
    go_wp2_with fail
    go_quiet (first | (go_at_call 78; with_reducible exact qs1 (LU.out _)) | (go_at_call 78; with_reducible exact qs1 (LR.out _)))
    go_wp2_with fail
    go_ret
    exact ⟨ret_bool HF.out.symm, _, rfl⟩
  have h1' : 1 ≤ x2.length := by omega
  have h8' : x2.length ≤ 8 := by omega
  have h1d : decide ((x2.length : Int) < 1) = false := decide_eq_false (by omega)
  have h8d : decide ((8 : Int) < (x2.length : Int)) = false := decide_eq_false (by omega)
  clear h1 h8
  by_cases hn : (x3.length : Int) = U * R
  case neg =>
    have HF : Hid (validB ⟨U, R, x2, x3⟩ = false) := by
      rw [Hid, HV.out]
      have : inB x3.length (U * R) (U * R) = false := inB_no.2 (by omega)
      simp [manyB, this]
    have hnd : ((x3.length : Int) != U * R) = true := by simp [hn]
    clear h hn
    go_enter Tryd.func83, Tryd.ntmps83
    go_wp2_with fail
    go_quiet (first | (go_at_call 78; with_reducible exact qs1 (LU.out _)) | (go_at_call 78; with_reducible exact qs1 (LR.out _)))
    go_wp2_with fail
    go_ret
    exact ⟨ret_bool HF.out.symm, _, rfl⟩
  have hnd : ((x3.length : Int) != U * R) = false := by simp [hn]
  have HV2 : Hid (validB ⟨U, R, x2, x3⟩ = (allIn x2 1 (wrap64 (wrap64 (2 ^ R.toNat) - 1)) && allIn x3 (-100000) 100000)) := by
    rw [Hid, HV.out, pow_wrap r1 r8]
    have e1 : inB x2.length 1 8 = true := inB_iff.2 ⟨by omega, by omega⟩
    have e2 : inB x3.length (U * R) (U * R) = true := inB_iff.2 ⟨by omega, by omega⟩
    simp only [manyB, e1, e2, Bool.true_and]
  have Hn := Lib.hid hn
  have h2 := Lib.hid h.1
  have h3 := Lib.hid h.2
  clear h hn HV
  go_enter Tryd.func83, Tryd.ntmps83
  go_wp2_with fail
  go_quiet (first | (go_at_call 78; with_reducible exact qs1 (LU.out _)) | (go_at_call 78; with_reducible exact qs1 (LR.out _)))
  clear LU LR h1d h8d hnd
  go_wp2_with fail
  go_loopw [3] (fun i wi => ∃ (k m : Nat), k ≤ x2.length ∧ i = .int .i64 k ∧ Hid (allIn (x2.take k) 1 (wrap64 (wrap64 (2 ^ R.toNat) - 1)) = true) ∧ wi = w.drewN m) (fun i _ => x2.length - (intOf i).toNat)
  case atStart => exact ⟨0, _, Nat.zero_le _, rfl, rfl, rfl⟩
  case round =>
    obtain ⟨k, m, hk, rfl, hall, rfl⟩ := hrel
    by_cases hlt : k < x2.length
    · obtain ⟨b2, o2, x, rfl, hbb, hck, hx⟩ := h2.out.get hlt
      have LX := Lib.hid (fun v => l00In_any x 1 (wrap64 (wrap64 (2 ^ R.toNat) - 1)) v)
      cases hin : inB x 1 (wrap64 (wrap64 (2 ^ R.toNat) - 1)) with
      | true =>
        have hall2 : Hid (allIn (x2.take (k + 1)) 1 (wrap64 (wrap64 (2 ^ R.toNat) - 1)) = true) := by rw [Hid, allIn_snoc hx.out, hall.out, hin]; rfl
        rw [hin] at LX
        clear hin hall
        go_wp2_with fail
        go_quiet ((go_at_call 78; exact qs2 (LX.out _)))
        go_wp2_with fail
        go_roundw
        case rel => exact ⟨k + 1, m + nq, by omega, by go_num, hall2, by first | rfl | exact World.drewN_drewN _ _ _⟩
        case measure => simp [intOf]; omega
      | false =>
        have HF : Hid (validB ⟨U, R, x2, x3⟩ = false) := by rw [Hid, HV2.out, allIn_false hx.out hin]; rfl
        rw [hin] at LX
        clear hin hall
        go_wp2_with fail
        go_quiet ((go_at_call 78; exact qs2 (LX.out _)))
        go_wp2_with fail
        go_ret
        exact ⟨ret_bool HF.out.symm, m + nq, by first | rfl | exact World.drewN_drewN _ _ _⟩
    · have : k = x2.length := by omega
      subst this
      rw [List.take_length] at hall
      have HV3 : Hid (validB ⟨U, R, x2, x3⟩ = allIn x3 (-100000) 100000) := by rw [Hid, HV2.out, hall.out]; rfl
      clear hall
      go_wp2_with fail
      go_loop [4] (fun i => ∃ k : Nat, k ≤ x3.length ∧ i = .int .i64 k ∧ Hid (allIn (x3.take k) (-100000) 100000 = true)) (fun i => x3.length - (intOf i).toNat)
      case atStart => exact ⟨0, Nat.zero_le _, rfl, rfl⟩
      case round =>
        obtain ⟨k, hk, rfl, hall⟩ := hrel
        by_cases hlt : k < x3.length
        · obtain ⟨b3, o3, x, rfl, hbb, hck, hx⟩ := h3.out.get hlt
          have LX := Lib.hid (fun v => l00In_any x (-100000) 100000 v)
          cases hin : inB x (-100000) 100000 with
          | true =>
            have hall2 : Hid (allIn (x3.take (k + 1)) (-100000) 100000 = true) := by rw [Hid, allIn_snoc hx.out, hall.out, hin]; rfl
            rw [hin] at LX
            clear hin hall
            go_wp2_with (go_at_call 78; refine (LX.out _).mono ?_; rintro e w' ⟨rfl, rfl⟩)
            go_round
            case rel => exact ⟨k + 1, by omega, by go_num, hall2⟩
            case measure => simp [intOf]; omega
          | false =>
            have HF : Hid (validB ⟨U, R, x2, x3⟩ = false) := by rw [Hid, HV3.out, allIn_false hx.out hin]
            rw [hin] at LX
            clear hin hall
            go_wp2_with (go_at_call 78; refine (LX.out _).mono ?_; rintro e w' ⟨rfl, rfl⟩)
            go_ret
            exact ⟨ret_bool HF.out.symm, _, rfl⟩
        · have : k = x3.length := by omega
          subst this
          rw [List.take_length] at hall
          have HF : Hid (validB ⟨U, R, x2, x3⟩ = true) := by rw [Hid, HV3.out, hall.out]
          go_wp2_with fail
          go_ret
          exact ⟨ret_bool HF.out.symm, _, rfl⟩
end Go.Proofs.YtiimhpopcgiejaaDoor
