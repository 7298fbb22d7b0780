/-
  Valid games and valid values: both roads.
-/
import Derived.Test.YtiimhpopcgiejaaDoorGameT
import Derived.Test.YtiimhpopcgiejaaDoorValuesT
import Derived.Test.YtiimhpopcgiejaaDoorBase
import Derived.Test.YtiimhpopcgiejaaDoorLater
import Derived.BigQuiet
namespace Go.Proofs.YtiimhpopcgiejaaDoor
set_option linter.unusedVariables false
set_option linter.unusedSimpArgs false
open Go.RowKit

def gameB (R C : Int) (x2 x3 : List Int) : Bool := inB R 1 6 && inB C 1 6 && (manyB x2 (R * C) (R * C) (-1000) 1000 && manyB x3 (R * C) (R * C) (-1000) 1000)
def valuesB (P T : Int) (x2 : List Int) : Bool := inB P 1 6 && inB T 1 8 && manyB x2 (P * T) (P * T) 0 1000
theorem prod_in {a b m n : Int} (a1 : 1 ≤ a) (am : a ≤ m) (b1 : 1 ≤ b) (bn : b ≤ n) : 1 ≤ a * b ∧ a * b ≤ m * n := by
  have h1 : 1 * 1 ≤ a * b := Int.mul_le_mul a1 b1 (by omega) (by omega)
  have h2 : a * b ≤ m * n := Int.mul_le_mul am bn (by omega) (by omega)
  omega
theorem many_eq {xs : List Int} {n lo hi : Int} : manyB xs n n lo hi = (allIn xs lo hi && decide ((xs.length : Int) = n)) := by
  unfold manyB
  rw [Bool.and_comm]
  congr 1
  rw [Bool.eq_iff_iff, inB_iff, decide_eq_true_eq]
  omega
theorem isSide_any (n : Int) (w : World) :
    Calls Tryd.prog 69 #[.int .i64 n] w fun e w' => e = .returned (.bool (inB n 1 6)) ∧ w = w' := by
  go_enter Tryd.func69, Tryd.ntmps69
  go_wp2_with (go_at_call 55; refine (within_any _ _ _ _).mono ?_; rintro e w' ⟨rfl, rfl⟩)
  go_ret
  exact ⟨rfl, rfl⟩
set_option maxRecDepth 10000 in
theorem isGains_any (w : World) (a : Option Addr) (c : Nat) (xs : List Int) (R C : Int) (p1 : 1 ≤ R * C) (p2 : R * C ≤ 1000) (h : Rd w w.heap.size a (ints xs)) (hl : xs.length ≤ 1048576) :
    Calls Tryd.prog 70 #[.slice a xs.length c, .int .i64 R, .int .i64 C] w fun e w' => e = .returned (.bool (manyB xs (R * C) (R * C) (-1000) 1000)) ∧ w = w' := by
  have e1 : IntKind.i64.wrap (R * C) = R * C := IntWalk.i64_in _ (by omega)
  have L := Lib.hid (areMany_any w a c xs (R * C) (R * C) (-1000) 1000 h (by omega))
  clear h
  go_enter Tryd.func70, Tryd.ntmps70
  go_wp2_with (go_at_call 66; refine (L.out).mono ?_; rintro e w' ⟨rfl, rfl⟩)
  go_ret
  exact ⟨rfl, rfl⟩
set_option maxRecDepth 10000 in
set_option maxHeartbeats 4000000 in
theorem validGame_any (w : World) (U R : Int) (a2 : Option Addr) (c2 : Nat) (x2 : List Int) (a3 : Option Addr) (c3 : Nat) (x3 : List Int) (h : RdGame w w.heap.size a2 x2 a3 x3) (hl2 : x2.length ≤ 1048576) (hl3 : x3.length ≤ 1048576) :
    Calls Tryd.prog 51 #[.agg #[.int .i64 U, .int .i64 R, .slice a2 x2.length c2, .slice a3 x3.length c3]] w fun e w' => e = .returned (.bool (gameB U R x2 x3)) ∧ Below w.heap.size w w' := by
  have LU := Lib.hid (fun v => isSide_any U v)
  have LR := Lib.hid (fun v => isSide_any R v)
  cases t1 : inB U 1 6 with
  | false =>
    have HF : Hid (gameB U R x2 x3 = false) := by simp [Hid, gameB, t1]
    rw [t1] at LU
    clear h
    go_enter Tryd.func51, Tryd.ntmps51
    go_wp2_with (go_at_call 69; with_reducible refine (LU.out _).mono ?_; rintro e w' ⟨rfl, rfl⟩)
    go_ret
    exact ⟨ret_bool HF.out.symm, bl1 _ _⟩
  | true =>
    rw [t1] at LU
    cases t2 : inB R 1 6 with
    | false =>
      have HF : Hid (gameB U R x2 x3 = false) := by simp [Hid, gameB, t1, t2]
      rw [t2] at LR
      clear h
      go_enter Tryd.func51, Tryd.ntmps51
      go_wp2_with (first | (go_at_call 69; with_reducible refine (LU.out _).mono ?_; rintro e w' ⟨rfl, rfl⟩) | (go_at_call 69; with_reducible refine (LR.out _).mono ?_; rintro e w' ⟨rfl, rfl⟩))
      go_ret
      exact ⟨ret_bool HF.out.symm, bl1 _ _⟩
    | true =>
      rw [t2] at LR
      obtain ⟨u1, u8⟩ := inB_iff.1 t1
      obtain ⟨r1, r8⟩ := inB_iff.1 t2
      obtain ⟨p1, p2⟩ := prod_in u1 u8 r1 r8
      have hB := bl1 w (.cells #[.int .i64 U, .int .i64 R, .slice a2 x2.length c2, .slice a3 x3.length c3] 46)
      have L2 := Lib.hid (isGains_any _ a2 c2 x2 U R p1 (by omega) (Rd.to h.1 hB) hl2)
      have L3 := Lib.hid (isGains_any _ a3 c3 x3 U R p1 (by omega) (Rd.to h.2 hB) hl3)
      have HF : Hid (gameB U R x2 x3 = (manyB x2 (U * R) (U * R) (-1000) 1000 && manyB x3 (U * R) (U * R) (-1000) 1000)) := by
        show _ = _
        simp only [gameB, t1, t2, Bool.true_and]
      clear h hB
      cases t3 : manyB x2 (U * R) (U * R) (-1000) 1000 with
      | false =>
        rw [t3] at L2
        have HF2 : Hid (gameB U R x2 x3 = false) := by rw [Hid, HF.out, t3]; rfl
        clear t3
        go_enter Tryd.func51, Tryd.ntmps51
        go_wp2_with (first | (go_at_call 69; with_reducible refine (LU.out _).mono ?_; rintro e w' ⟨rfl, rfl⟩) | (go_at_call 69; with_reducible refine (LR.out _).mono ?_; rintro e w' ⟨rfl, rfl⟩) | (go_at_call 70; with_reducible refine (L2.out).mono ?_; rintro e w' ⟨rfl, rfl⟩))
        go_ret
        exact ⟨ret_bool HF2.out.symm, bl1 _ _⟩
      | true =>
        rw [t3] at L2
        have HF2 : Hid (gameB U R x2 x3 = manyB x3 (U * R) (U * R) (-1000) 1000) := by rw [Hid, HF.out, t3]; rfl
        clear t3
        go_enter Tryd.func51, Tryd.ntmps51
        go_wp2_with (first | (go_at_call 69; with_reducible refine (LU.out _).mono ?_; rintro e w' ⟨rfl, rfl⟩) | (go_at_call 69; with_reducible refine (LR.out _).mono ?_; rintro e w' ⟨rfl, rfl⟩) | (go_at_call 70; with_reducible refine (L2.out).mono ?_; rintro e w' ⟨rfl, rfl⟩) | (go_at_call 70; with_reducible refine (L3.out).mono ?_; rintro e w' ⟨rfl, rfl⟩))
        go_ret
        exact ⟨ret_bool HF2.out.symm, bl1 _ _⟩
set_option maxRecDepth 10000 in
set_option maxHeartbeats 4000000 in
theorem l02Gains_any (w : World) (a : Option Addr) (c : Nat) (xs : List Int) (n : Int) (h : Rd w w.heap.size a (ints xs)) (hl : xs.length ≤ 1048576) :
    Calls Tryd.prog 98 #[.slice a xs.length c, .int .i64 n] w fun e w' => e = .returned (.bool (manyB xs n n (-1000) 1000)) ∧ w = w' := by
  have HV : Hid (manyB xs n n (-1000) 1000 = (allIn xs (-1000) 1000 && decide ((xs.length : Int) = n))) := many_eq
  go_enter Tryd.func98, Tryd.ntmps98
  go_wp2_with fail
  go_loop [5] (fun i => ∃ k : Nat, k ≤ xs.length ∧ i = .int .i64 k ∧ Hid (allIn (xs.take k) (-1000) 1000 = true)) (fun i => xs.length - (intOf i).toNat)
  case atStart => exact ⟨0, Nat.zero_le _, rfl, rfl⟩
  case round =>
    obtain ⟨k, hk, rfl, ha⟩ := hrel
    by_cases hlt : k < xs.length
    · obtain ⟨b, o, x, rfl, hbb, hck, hx⟩ := h.get hlt
      clear h
      cases hin : inB x (-1000) 1000 with
      | true =>
        have L := Lib.hid (l00In_any x (-1000) 1000)
        rw [hin] at L
        go_wp2_with (go_at_call 78; refine (L.out _).mono ?_; rintro e w' ⟨rfl, rfl⟩)
        go_round
        case rel => exact ⟨k + 1, by omega, by go_num, by rw [Hid, allIn_snoc hx.out, ha.out, hin]; rfl⟩
        case measure => simp [intOf]; omega
      | false =>
        have L := Lib.hid (l00In_any x (-1000) 1000)
        rw [hin] at L
        have HF : Hid (manyB xs n n (-1000) 1000 = false) := by rw [Hid, HV.out, allIn_false hx.out hin]; rfl
        go_wp2_with (go_at_call 78; refine (L.out _).mono ?_; rintro e w' ⟨rfl, rfl⟩)
        go_ret
        exact ⟨ret_bool HF.out.symm, rfl⟩
    · have : k = xs.length := by omega
      subst this
      rw [List.take_length] at ha
      have HF : Hid (manyB xs n n (-1000) 1000 = ((xs.length : Int) == n)) := by
        rw [Hid, HV.out, ha.out, Bool.true_and, Bool.eq_iff_iff, decide_eq_true_eq, beq_iff_eq]
      go_wp2_with fail
      go_ret
      exact ⟨ret_bool (by rw [HF.out]), rfl⟩
set_option maxRecDepth 10000 in
set_option maxHeartbeats 4000000 in
theorem l04Worths_any (w : World) (a : Option Addr) (c : Nat) (xs : List Int) (n : Int) (h : Rd w w.heap.size a (ints xs)) (hl : xs.length ≤ 1048576) :
    Calls Tryd.prog 79 #[.slice a xs.length c, .int .i64 n] w fun e w' => e = .returned (.bool (manyB xs n n 0 1000)) ∧ w = w' := by
  have HV : Hid (manyB xs n n 0 1000 = (allIn xs 0 1000 && decide ((xs.length : Int) = n))) := many_eq
  go_enter Tryd.func79, Tryd.ntmps79
  go_wp2_with fail
  go_loop [5] (fun i => ∃ k : Nat, k ≤ xs.length ∧ i = .int .i64 k ∧ Hid (allIn (xs.take k) 0 1000 = true)) (fun i => xs.length - (intOf i).toNat)
  case atStart => exact ⟨0, Nat.zero_le _, rfl, rfl⟩
  case round =>
    obtain ⟨k, hk, rfl, ha⟩ := hrel
    by_cases hlt : k < xs.length
    · obtain ⟨b, o, x, rfl, hbb, hck, hx⟩ := h.get hlt
      clear h
      cases hin : inB x 0 1000 with
      | true =>
        have L := Lib.hid (l00In_any x 0 1000)
        rw [hin] at L
        go_wp2_with (go_at_call 78; refine (L.out _).mono ?_; rintro e w' ⟨rfl, rfl⟩)
        go_round
        case rel => exact ⟨k + 1, by omega, by go_num, by rw [Hid, allIn_snoc hx.out, ha.out, hin]; rfl⟩
        case measure => simp [intOf]; omega
      | false =>
        have L := Lib.hid (l00In_any x 0 1000)
        rw [hin] at L
        have HF : Hid (manyB xs n n 0 1000 = false) := by rw [Hid, HV.out, allIn_false hx.out hin]; rfl
        go_wp2_with (go_at_call 78; refine (L.out _).mono ?_; rintro e w' ⟨rfl, rfl⟩)
        go_ret
        exact ⟨ret_bool HF.out.symm, rfl⟩
    · have : k = xs.length := by omega
      subst this
      rw [List.take_length] at ha
      have HF : Hid (manyB xs n n 0 1000 = ((xs.length : Int) == n)) := by
        rw [Hid, HV.out, ha.out, Bool.true_and, Bool.eq_iff_iff, decide_eq_true_eq, beq_iff_eq]
      go_wp2_with fail
      go_ret
      exact ⟨ret_bool (by rw [HF.out]), rfl⟩
theorem areHeirs_any (n : Int) (w : World) :
    Calls Tryd.prog 65 #[.int .i64 n] w fun e w' => e = .returned (.bool (inB n 1 6)) ∧ w = w' := by
  go_enter Tryd.func65, Tryd.ntmps65
  go_wp2_with (go_at_call 55; refine (within_any _ _ _ _).mono ?_; rintro e w' ⟨rfl, rfl⟩)
  go_ret
  exact ⟨rfl, rfl⟩
set_option maxRecDepth 10000 in
set_option maxHeartbeats 4000000 in
theorem validValues_any (w : World) (U R : Int) (a2 : Option Addr) (c2 : Nat) (x2 : List Int) (h : RdValues w w.heap.size a2 x2) (hl2 : x2.length ≤ 1048576) :
    Calls Tryd.prog 44 #[.agg #[.int .i64 U, .int .i64 R, .slice a2 x2.length c2]] w fun e w' => e = .returned (.bool (valuesB U R x2)) ∧ Below w.heap.size w w' := by
  have LU := Lib.hid (fun v => areHeirs_any U v)
  have LR := Lib.hid (fun v => within_any R 1 8 v)
  have B0 := bl1 w (.cells #[.int .i64 U, .int .i64 R, .slice a2 x2.length c2] 34)
  cases t1 : inB U 1 6 with
  | false =>
    have HF : Hid (valuesB U R x2 = false) := by simp [Hid, valuesB, t1]
    rw [t1] at LU
    clear h
    go_enter Tryd.func44, Tryd.ntmps44
    go_wp2_with (go_at_call 65; with_reducible refine (LU.out _).mono ?_; rintro e w' ⟨rfl, rfl⟩)
    go_ret
    exact ⟨ret_bool HF.out.symm, bl1 _ _⟩
  | true =>
    rw [t1] at LU
    cases t2 : inB R 1 8 with
    | false =>
      have HF : Hid (valuesB U R x2 = false) := by simp [Hid, valuesB, t1, t2]
      rw [t2] at LR
      clear h
      go_enter Tryd.func44, Tryd.ntmps44
      go_wp2_with (first | (go_at_call 65; with_reducible refine (LU.out _).mono ?_; rintro e w' ⟨rfl, rfl⟩) | (go_at_call 55; with_reducible refine (LR.out _).mono ?_; rintro e w' ⟨rfl, rfl⟩))
      go_ret
      exact ⟨ret_bool HF.out.symm, bl1 _ _⟩
    | true =>
      rw [t2] at LR
      obtain ⟨u1, u8⟩ := inB_iff.1 t1
      obtain ⟨r1, r8⟩ := inB_iff.1 t2
      obtain ⟨p1, p2⟩ := prod_in u1 u8 r1 r8
      have HF : Hid (valuesB U R x2 = manyB x2 (U * R) (U * R) 0 1000) := by
        show _ = _
        simp only [valuesB, t1, t2, Bool.true_and]
      have e1 : IntKind.i64.wrap (U * R) = U * R := IntWalk.i64_in _ (by omega)
      have L2 : Hid (Calls Tryd.prog 66 #[.slice a2 x2.length c2, .int .i64 (U * R), .int .i64 (U * R), .int .i64 0, .int .i64 1000] (w.alloc (.cells #[.int .i64 U, .int .i64 R, .slice a2 x2.length c2] 34)) _) := areMany_any _ a2 c2 x2 (U * R) (U * R) 0 1000 (Rd.to h B0) (by omega)
      clear h
      go_enter Tryd.func44, Tryd.ntmps44
      go_wp2_with (first | (go_at_call 65; with_reducible refine (LU.out _).mono ?_; rintro e w' ⟨rfl, rfl⟩) | (go_at_call 55; with_reducible refine (LR.out _).mono ?_; rintro e w' ⟨rfl, rfl⟩) | (go_at_call 66; refine (L2.out).mono ?_; rintro e w' ⟨rfl, rfl⟩))
      go_ret
      exact ⟨ret_bool HF.out.symm, bl1 _ _⟩
set_option maxRecDepth 10000 in
set_option maxHeartbeats 4000000 in
theorem l02Is_any (w : World) (b o : Nat) (U R : Int) (a2 : Option Addr) (c2 : Nat) (x2 : List Int) (a3 : Option Addr) (c3 : Nat) (x3 : List Int)
    (d0 : w.cell? ⟨b, o, none⟩ = some (.int .i64 U)) (d1 : w.cell? ⟨b, o + 1, none⟩ = some (.int .i64 R)) (d2 : w.cell? ⟨b, o + 2, none⟩ = some (.slice a2 x2.length c2)) (d3 : w.cell? ⟨b, o + 3, none⟩ = some (.slice a3 x3.length c3))
    (h : RdGame w w.heap.size a2 x2 a3 x3) (hl2 : x2.length ≤ 1048576) (hl3 : x3.length ≤ 1048576) :
    Calls Tryd.prog 84 #[.pointer (some ⟨b, o, none⟩)] w fun e w' => e = .returned (.bool (gameB U R x2 x3)) ∧ ∃ n, w' = w.drewN n := by
  have LU := Lib.hid (fun v => l00In_any U 1 6 v)
  have LR := Lib.hid (fun v => l00In_any R 1 6 v)
  cases t1 : inB U 1 6 with
  | false =>
    have HF : Hid (gameB U R x2 x3 = false) := by simp [Hid, gameB, t1]
    rw [t1] at LU
    clear h
    go_enter Tryd.func84, Tryd.ntmps84
    go_wp2_with (go_at_call 78; with_reducible refine (LU.out _).mono ?_; rintro e w' ⟨rfl, rfl⟩)
    go_ret
    exact ⟨ret_bool HF.out.symm, 0, rfl⟩
  | true =>
    rw [t1] at LU
    cases t2 : inB R 1 6 with
    | false =>
      have HF : Hid (gameB U R x2 x3 = false) := by simp [Hid, gameB, t1, t2]
      rw [t2] at LR
      clear h
      go_enter Tryd.func84, Tryd.ntmps84
      go_wp2_with (first | (go_at_call 78; with_reducible refine (LU.out _).mono ?_; rintro e w' ⟨rfl, rfl⟩) | (go_at_call 78; with_reducible refine (LR.out _).mono ?_; rintro e w' ⟨rfl, rfl⟩))
      go_ret
      exact ⟨ret_bool HF.out.symm, 0, rfl⟩
    | true =>
      rw [t2] at LR
      obtain ⟨u1, u8⟩ := inB_iff.1 t1
      obtain ⟨r1, r8⟩ := inB_iff.1 t2
      obtain ⟨p1, p2⟩ := prod_in u1 u8 r1 r8
      have e1 : IntKind.i64.wrap (U * R) = U * R := IntWalk.i64_in _ (by omega)
      have L20 := Lib.hid (fun v hb => l02Gains_any v a2 c2 x2 (U * R) (Rd.to h.1 hb) hl2)
      have L30 := Lib.hid (fun v hb => l02Gains_any v a3 c3 x3 (U * R) (Rd.to h.2 hb) hl3)
      have L2 := Lib.hid (fun n => L20.out _ (below_drewN (Below.refl w.heap.size w) n))
      have L3 := Lib.hid (fun n => L30.out _ (below_drewN (Below.refl w.heap.size w) n))
      clear L20 L30
      have HF : Hid (gameB U R x2 x3 = (manyB x2 (U * R) (U * R) (-1000) 1000 && manyB x3 (U * R) (U * R) (-1000) 1000)) := by
        show _ = _
        simp only [gameB, t1, t2, Bool.true_and]
      clear h
      cases t3 : manyB x2 (U * R) (U * R) (-1000) 1000 with
      | false =>
        rw [t3] at L2
        have HF2 : Hid (gameB U R x2 x3 = false) := by rw [Hid, HF.out, t3]; rfl
        clear t3
        go_enter Tryd.func84, Tryd.ntmps84
        go_wp2_with (first | (go_at_call 78; with_reducible refine (LU.out _).mono ?_; rintro e w' ⟨rfl, rfl⟩) | (go_at_call 78; with_reducible refine (LR.out _).mono ?_; rintro e w' ⟨rfl, rfl⟩))
        go_quiet ((go_at_call 98; exact qs1 (L2.out _)))
        go_wp2_with fail
        go_ret
        exact ⟨ret_bool HF2.out.symm, _, rfl⟩
      | true =>
        rw [t3] at L2
        have HF2 : Hid (gameB U R x2 x3 = manyB x3 (U * R) (U * R) (-1000) 1000) := by rw [Hid, HF.out, t3]; rfl
        clear t3
        go_enter Tryd.func84, Tryd.ntmps84
        go_wp2_with (first | (go_at_call 78; with_reducible refine (LU.out _).mono ?_; rintro e w' ⟨rfl, rfl⟩) | (go_at_call 78; with_reducible refine (LR.out _).mono ?_; rintro e w' ⟨rfl, rfl⟩))
        go_quiet (first | (go_at_call 98; with_reducible exact qs1 (L2.out _)) | (go_at_call 98; exact qs1 (L3.out _)))
        go_wp2_with fail
        go_ret
        exact ⟨ret_bool HF2.out.symm, _, rfl⟩
set_option maxRecDepth 10000 in
set_option maxHeartbeats 4000000 in
theorem l04Is_any (w : World) (b o : Nat) (U R : Int) (a2 : Option Addr) (c2 : Nat) (x2 : List Int)
    (d0 : w.cell? ⟨b, o, none⟩ = some (.int .i64 U)) (d1 : w.cell? ⟨b, o + 1, none⟩ = some (.int .i64 R)) (d2 : w.cell? ⟨b, o + 2, none⟩ = some (.slice a2 x2.length c2))
    (h : RdValues w w.heap.size a2 x2) (hl2 : x2.length ≤ 1048576) :
    Calls Tryd.prog 62 #[.pointer (some ⟨b, o, none⟩)] w fun e w' => e = .returned (.bool (valuesB U R x2)) ∧ ∃ n, w' = w.drewN n := by
  have LU := Lib.hid (fun v => l00In_any U 1 6 v)
  have LR := Lib.hid (fun v => l00In_any R 1 8 v)
  cases t1 : inB U 1 6 with
  | false =>
    have HF : Hid (valuesB U R x2 = false) := by simp [Hid, valuesB, t1]
    rw [t1] at LU
    clear h
    go_enter Tryd.func62, Tryd.ntmps62
    go_wp2_with fail
    go_quiet ((go_at_call 78; with_reducible exact qs1 (LU.out _)))
    go_wp2_with fail
    go_ret
    exact ⟨ret_bool HF.out.symm, _, rfl⟩
  | true =>
    rw [t1] at LU
    cases t2 : inB R 1 8 with
    | false =>
      have HF : Hid (valuesB U R x2 = false) := by simp [Hid, valuesB, t1, t2]
      rw [t2] at LR
      clear h
      go_enter Tryd.func62, Tryd.ntmps62
      go_wp2_with fail
      go_quiet (first | (go_at_call 78; with_reducible exact qs1 (LU.out _)) | (go_at_call 78; with_reducible exact qs1 (LR.out _)))
      go_wp2_with fail
      go_ret
      exact ⟨ret_bool HF.out.symm, _, rfl⟩
    | true =>
      rw [t2] at LR
      obtain ⟨u1, u8⟩ := inB_iff.1 t1
      obtain ⟨r1, r8⟩ := inB_iff.1 t2
      obtain ⟨p1, p2⟩ := prod_in u1 u8 r1 r8
      have e1 : IntKind.i64.wrap (U * R) = U * R := IntWalk.i64_in _ (by omega)
      have L20 := Lib.hid (fun v hb => l04Worths_any v a2 c2 x2 (U * R) (Rd.to h hb) hl2)
      have L2 := Lib.hid (fun n => L20.out _ (below_drewN (Below.refl w.heap.size w) n))
      clear L20
      have HF : Hid (valuesB U R x2 = manyB x2 (U * R) (U * R) 0 1000) := by
        show _ = _
        simp only [valuesB, t1, t2, Bool.true_and]
      clear h
      go_enter Tryd.func62, Tryd.ntmps62
      go_wp2_with fail
      go_quiet (first | (go_at_call 78; with_reducible exact qs1 (LU.out _)) | (go_at_call 78; with_reducible exact qs1 (LR.out _)) | (go_at_call 79; exact qs1 (L2.out _)))
      go_wp2_with fail
      go_ret
      exact ⟨ret_bool HF.out.symm, _, rfl⟩
end Go.Proofs.YtiimhpopcgiejaaDoor
