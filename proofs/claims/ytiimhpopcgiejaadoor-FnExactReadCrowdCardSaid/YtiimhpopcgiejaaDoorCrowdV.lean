/-
  What makes a valid crowd, and choices of its users: both roads.
-/
import Derived.Test.YtiimhpopcgiejaaDoorCrowdW
import Derived.Test.YtiimhpopcgiejaaDoorCrowdT
import Derived.Test.YtiimhpopcgiejaaDoorSlices
namespace Go.Proofs.YtiimhpopcgiejaaDoor
set_option linter.unusedVariables false
set_option linter.unusedSimpArgs false
open Go.RowKit

theorem prod_bd {U R : Int} (u1 : 1 ≤ U) (u8 : U ≤ 8) (r1 : 1 ≤ R) (r8 : R ≤ 8) : 1 ≤ U * R ∧ U * R ≤ 64 := by
  have h1 : 1 * 1 ≤ U * R := Int.mul_le_mul u1 r1 (by omega) (by omega)
  have h2 : U * R ≤ 8 * 8 := Int.mul_le_mul u8 r8 (by omega) (by omega)
  omega
theorem pow_bd {R : Int} (r1 : 1 ≤ R) (r8 : R ≤ 8) : 2 ≤ (2 : Int) ^ R.toNat ∧ (2 : Int) ^ R.toNat ≤ 256 := by
  have : R = 1 ∨ R = 2 ∨ R = 3 ∨ R = 4 ∨ R = 5 ∨ R = 6 ∨ R = 7 ∨ R = 8 := by omega
  rcases this with rfl | rfl | rfl | rfl | rfl | rfl | rfl | rfl <;> decide
theorem pow_wrap {R : Int} (r1 : 1 ≤ R) (r8 : R ≤ 8) : wrap64 (wrap64 (2 ^ R.toNat) - 1) = 2 ^ R.toNat - 1 := by
  have := pow_bd r1 r8
  rw [IntWalk.wrap64_in (2 ^ R.toNat) (by omega), IntWalk.wrap64_in _ (by omega)]
set_option maxRecDepth 10000 in
set_option maxHeartbeats 4000000 in
theorem validCrowd_any (w : World) (U R : Int) (a2 : Option Addr) (c2 : Nat) (x2 : List Int) (a3 : Option Addr) (c3 : Nat) (x3 : List Int) (h : RdCrowd w w.heap.size a2 x2 a3 x3) (hl2 : x2.length ≤ 1048576) (hl3 : x3.length ≤ 1048576) :
    Calls Tryd.prog 49 #[.agg #[.int .i64 U, .int .i64 R, .slice a2 x2.length c2, .slice a3 x3.length c3]] w fun e w' => e = .returned (.bool (validB ⟨U, R, x2, x3⟩)) ∧ Below w.heap.size w w' := by
  have LU := Lib.hid (fun v => within_any U 1 8 v)
  have LR := Lib.hid (fun v => within_any R 1 8 v)
  cases t1 : inB U 1 8 with
  | false =>
    have HF : Hid (validB ⟨U, R, x2, x3⟩ = false) := by simp [Hid, validB, t1]
    rw [t1] at LU
    clear h
    go_enter Tryd.func49, Tryd.ntmps49
    go_wp2_with fail
    go_quiet ((go_at_call 55; with_reducible exact qs1 (LU.out _)))
    go_wp2_with fail
    go_ret
    exact ⟨ret_bool HF.out.symm, below_drewN (bl1 _ _) _⟩
  | true =>
    rw [t1] at LU
    cases t2 : inB R 1 8 with
    | false =>
      have HF : Hid (validB ⟨U, R, x2, x3⟩ = false) := by simp [Hid, validB, t1, t2]
      rw [t2] at LR
      clear h
      go_enter Tryd.func49, Tryd.ntmps49
      go_wp2_with fail
      go_quiet (first | (go_at_call 55; with_reducible exact qs1 (LU.out _)) | (go_at_call 55; with_reducible exact qs1 (LR.out _)))
      go_wp2_with fail
      go_ret
      exact ⟨ret_bool HF.out.symm, below_drewN (bl1 _ _) _⟩
    | true =>
      rw [t2] at LR
      obtain ⟨u1, u8⟩ := inB_iff.1 t1
      obtain ⟨r1, r8⟩ := inB_iff.1 t2
      obtain ⟨p1, p2⟩ := prod_bd u1 u8 r1 r8
      have epw := pow_wrap r1 r8
      have LW0 := Lib.hid (fun v hb => areMany_any v a2 c2 x2 1 8 1 (wrap64 (wrap64 (2 ^ R.toNat) - 1)) (Rd.to h.1 hb) (by omega))
      have LC0 := Lib.hid (fun v hb => areMany_any v a3 c3 x3 (U * R) (U * R) (-100000) 100000 (Rd.to h.2 hb) (by omega))
      have LW := Lib.hid (fun n => LW0.out _ (below_drewN (bl1 w (.cells #[.int .i64 U, .int .i64 R, .slice a2 x2.length c2, .slice a3 x3.length c3] 40)) n))
      have LC := Lib.hid (fun n => LC0.out _ (below_drewN (bl1 w (.cells #[.int .i64 U, .int .i64 R, .slice a2 x2.length c2, .slice a3 x3.length c3] 40)) n))
      clear LW0 LC0
      have HF : Hid (validB ⟨U, R, x2, x3⟩ = (manyB x2 1 8 1 (wrap64 (wrap64 (2 ^ R.toNat) - 1)) && manyB x3 (U * R) (U * R) (-100000) 100000)) := by
        show _ = _
        rw [epw]
        simp only [validB, t1, t2, Bool.true_and]
      clear epw
      cases t3 : manyB x2 1 8 1 (wrap64 (wrap64 (2 ^ R.toNat) - 1)) with
      | false =>
        have HF2 : Hid (validB ⟨U, R, x2, x3⟩ = false) := by rw [Hid, HF.out, t3]; rfl
        rw [t3] at LW
        clear t3
        go_enter Tryd.func49, Tryd.ntmps49
        go_wp2_with fail
        go_quiet (first | (go_at_call 55; with_reducible exact qs1 (LU.out _)) | (go_at_call 55; with_reducible exact qs1 (LR.out _)) | (go_at_call 66; exact qs1 (LW.out _)))
        go_wp2_with fail
        go_ret
        exact ⟨ret_bool HF2.out.symm, below_drewN (bl1 _ _) _⟩
      | true =>
        have HF2 : Hid (validB ⟨U, R, x2, x3⟩ = manyB x3 (U * R) (U * R) (-100000) 100000) := by rw [Hid, HF.out, t3]; rfl
        rw [t3] at LW
        clear t3
        go_enter Tryd.func49, Tryd.ntmps49
        go_wp2_with fail
        go_quiet (first | (go_at_call 55; with_reducible exact qs1 (LU.out _)) | (go_at_call 55; with_reducible exact qs1 (LR.out _)) | (go_at_call 66; with_reducible exact qs1 (LC.out _)) | (go_at_call 66; exact qs1 (LW.out _)))
        go_wp2_with fail
        go_ret
        exact ⟨ret_bool HF2.out.symm, below_drewN (bl1 _ _) _⟩
end Go.Proofs.YtiimhpopcgiejaaDoor
