/-
  RestSeats and SeatLost: both walks of each.
-/
import Derived.Test.YthofpfnccgfohaaRestW
import Derived.Test.YthofpfnccgfohaaQuot
import Derived.Test.YthofpfnccgfohaaWin
namespace Go.Proofs.Ythofpfnccgfohaa
set_option linter.unusedVariables false
set_option linter.unusedSimpArgs false
open Go.RowKit

def lostI (xs : List Int) (s : Int) : Int := findI (fun j => decide ((restF xs (s + 1)).getD j 0 < (restF xs s).getD j 0)) (restF xs s).length
def lostF (xs : List Int) (s : Int) : Option Int := if votesB xs && inB s 0 99 then (if 0 ≤ lostI xs s then some (lostI xs s) else none) else none
theorem rest_any (w : World) (a : Option Addr) (c : Nat) (xs : List Int) (s : Int) (h : Rd w w.heap.size a (ints xs)) (hl : xs.length ≤ 1152921504606846976) :
    Calls Try.prog 14 #[.slice a xs.length c, .int .i64 s] w (RetI 2 w (restSF xs s)) := by
  unfold restSF
  have LV := Lib.hid (areVotesOf_any w a c xs h hl)
  cases t1 : votesB xs with
  | false =>
    rw [t1] at LV
    simp only [Bool.false_and, Bool.false_eq_true, if_false]
    clear h
    go_enter Try.func14, Try.ntmps14
    go_wp2_with fail
    refine LV.out.mono ?_
    rintro e w1 ⟨rfl, rfl⟩
    go_wp2_with fail
    go_ret2
    exact RetI.no (Below.refl _ _)
  | true =>
    rw [t1] at LV
    have LS := Lib.hid (areSeatsOf_any s w)
    cases t2 : inB s 0 100 with
    | false =>
      rw [t2] at LS
      simp only [Bool.and_false, Bool.false_eq_true, if_false]
      clear h
      go_enter Try.func14, Try.ntmps14
      go_wp2_with fail
      refine LV.out.mono ?_
      rintro e w1 ⟨rfl, rfl⟩
      go_wp2_with fail
      refine LS.out.mono ?_
      rintro e w1 ⟨rfl, rfl⟩
      go_wp2_with fail
      go_ret2
      exact RetI.no (Below.refl _ _)
    | true =>
      rw [t2] at LS
      obtain ⟨s0, s1⟩ := inB_iff.1 t2
      have LR := Lib.hid (restSeats_any w a c xs s h t1 s0 (by omega))
      simp only [Bool.and_self, if_true]
      clear h
      go_enter Try.func14, Try.ntmps14
      go_wp2_with fail
      refine LV.out.mono ?_
      rintro e w1 ⟨rfl, rfl⟩
      go_wp2_with fail
      refine LS.out.mono ?_
      rintro e w1 ⟨rfl, rfl⟩
      go_wp2_with fail
      refine LR.out.mono ?_
      rintro e w1 ⟨a1, c1, rfl, o1, hb1⟩
      have HR : RetI 2 w (some (restF xs s)) (.returned (.tuple #[.slice a1 xs.length c1, .bool true])) w1 := ⟨hb1, a1, c1, by rw [restF_length], o1.1⟩
      have HRR := Lib.hid HR
      clear HR o1
      go_wp2_with fail
      go_ret2
      exact HRR.out
set_option maxHeartbeats 2000000 in
theorem lost_any (w : World) (a : Option Addr) (c : Nat) (xs : List Int) (s : Int) (h : Rd w w.heap.size a (ints xs)) (hl : xs.length ≤ 1152921504606846976) :
    Calls Try.prog 20 #[.slice a xs.length c, .int .i64 s] w (RetN w (lostF xs s)) := by
  unfold lostF
  have LV := Lib.hid (areVotesOf_any w a c xs h hl)
  cases t1 : votesB xs with
  | false =>
    rw [t1] at LV
    simp only [Bool.false_and, Bool.false_eq_true, if_false]
    clear h
    go_enter Try.func20, Try.ntmps20
    go_wp2_with fail
    refine LV.out.mono ?_
    rintro e w1 ⟨rfl, rfl⟩
    go_wp2_with fail
    go_ret2
    exact ⟨Below.refl _ _, rfl⟩
  | true =>
    rw [t1] at LV
    have LS := Lib.hid (within_any s 0 99 w)
    cases t2 : inB s 0 99 with
    | false =>
      rw [t2] at LS
      simp only [Bool.and_false, Bool.false_eq_true, if_false]
      clear h
      go_enter Try.func20, Try.ntmps20
      go_wp2_with fail
      refine LV.out.mono ?_
      rintro e w1 ⟨rfl, rfl⟩
      go_wp2_with fail
      refine LS.out.mono ?_
      rintro e w1 ⟨rfl, rfl⟩
      go_wp2_with fail
      go_ret2
      exact ⟨Below.refl _ _, rfl⟩
    | true =>
      rw [t2] at LS
      obtain ⟨s0, s1⟩ := inB_iff.1 t2
      have LR := Lib.hid (restSeats_any w a c xs s h t1 s0 (by omega))
      have LR2 := Lib.hid (fun (w' : World) (hb : Below w.heap.size w w') => restSeats_any w' a c xs (s + 1) (h.to hb) t1 (by omega) (by omega))
      have hl1 := restF_length xs s
      have hl2 := restF_length xs (s + 1)
      have hl12 := (votesB_iff.1 t1).1
      simp only [Bool.and_self, if_true]
      obtain ⟨r, hr⟩ : ∃ r, r = (if 0 ≤ lostI xs s then some (lostI xs s) else none) := ⟨_, rfl⟩
      rw [← hr]
      have Hr := Lib.hid hr
      clear h hr
      go_enter Try.func20, Try.ntmps20
      go_wp2_with fail
      refine LV.out.mono ?_
      rintro e w1 ⟨rfl, rfl⟩
      go_wp2_with fail
      refine LS.out.mono ?_
      rintro e w1 ⟨rfl, rfl⟩
      go_wp2_with fail
      refine LR.out.mono ?_
      rintro e w1 ⟨a1, c1, rfl, o1, hb1⟩
      go_wp2_with fail
      refine (LR2.out _ hb1).mono ?_
      rintro e w2 ⟨a2, c2, rfl, o2, hb2⟩
      have o1' := o1.keep hb2
      have r1 := o1'.rd
      have r2 := o2.rd
      have hw := below_then hb1 hb2
      have Hl1 := Lib.hid hl1
      have Hl2 := Lib.hid hl2
      clear o1 o2 o1' hb1 hb2 LR LR2 LV LS hl1 hl2 t1 t2
      go_wp2_with fail
      go_loopw [27] (fun i wi => ∃ (k n : Nat), k ≤ xs.length ∧ i = .int .i64 k ∧ Hid (∀ j, j < k → decide ((restF xs (s + 1)).getD j 0 < (restF xs s).getD j 0) = false) ∧ wi = w2.drewN n) (fun i _ => xs.length - (intOf i).toNat)
      case atStart => exact ⟨0, 0, Nat.zero_le _, rfl, fun j hj => by omega, rfl⟩
      case round =>
        obtain ⟨k, n, hk, rfl, ha, rfl⟩ := hrel
        by_cases hlt : k < xs.length
        · obtain ⟨b1, o1, x1, rfl, _, e1, hx1⟩ := r1.get (k := k) (by rw [Hl1.out]; exact hlt)
          obtain ⟨b2, o2, x2, rfl, _, e2, hx2⟩ := r2.get (k := k) (by rw [Hl2.out]; exact hlt)
          have hd : Hid (decide ((restF xs (s + 1)).getD k 0 < (restF xs s).getD k 0) = decide (x2 < x1)) := by
            show _ = _
            rw [getD_of_get hx1.out, getD_of_get hx2.out]
          clear r1 r2
          by_cases hc : x2 < x1
          · have hF : Hid (r = some (k : Int)) := by
              have : lostI xs s = k := findI_here (by rw [Hl1.out]; exact hlt) (by rw [hd.out]; exact decide_eq_true hc) ha.out
              show _ = _
              rw [Hr.out, this, if_pos (by omega)]
            clear hd ha
            go_wp2_with fail
            go_ret2
            refine ⟨by first | exact below_drewN hw _ | exact below_drewN (below_drewN hw _) _, ?_⟩
            rw [hF.out]; rfl
          · have hF : Hid (∀ j, j < k + 1 → decide ((restF xs (s + 1)).getD j 0 < (restF xs s).getD j 0) = false) := fun j hj => by
              by_cases e : j = k
              · rw [e, hd.out]; exact decide_eq_false hc
              · exact ha.out j (by omega)
            clear hd ha
            go_wp2_with fail
            go_roundw
            case rel => exact ⟨k + 1, n, by omega, by go_num, hF, by first | rfl | exact World.drewN_drewN _ _ _⟩
            case measure => simp [intOf]; omega
        · have : k = xs.length := by omega
          subst this
          have hF : Hid (r = none) := by
            have : lostI xs s = -1 := findI_none (by rw [Hl1.out]; exact ha.out)
            show _ = _
            rw [Hr.out, this]; rfl
          go_wp2_with fail
          go_ret2
          refine ⟨below_drewN hw n, ?_⟩
          rw [hF.out]; rfl
end Go.Proofs.Ythofpfnccgfohaa
