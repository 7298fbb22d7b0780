/-
  Are two games, values, crowds equal: both roads.
-/
import Derived.Test.YteclpcmbicjjgaaGameT
import Derived.Test.YteclpcmbicjjgaaValuesT
import Derived.Test.YteclpcmbicjjgaaCrowdT
namespace Go.Proofs.Yteclpcmbicjjgaa
set_option linter.unusedVariables false
set_option linter.unusedSimpArgs false
open Go.RowKit

set_option maxHeartbeats 1000000 in
theorem eqlI_any (w : World) (a b : Option Addr) (c d : Nat) (xs ys : List Int) (hx : Rd w w.heap.size a (ints xs)) (hy : Rd w w.heap.size b (ints ys)) (hlx : xs.length ≤ 1099511627776) (hly : ys.length ≤ 1099511627776) :
    Calls Try.prog 79 #[.slice a xs.length c, .slice b ys.length d] w fun e w' => e = .returned (.bool (decide (xs = ys))) ∧ ∃ n, w' = w.drewN n := by
  by_cases hlen : xs.length = ys.length
  · have hb1 : ((xs.length : Int) != (ys.length : Int)) = false := by simp [hlen]
    go_enter Try.func79, Try.ntmps79
    go_wp2
    go_loopw [13] (fun i wr => ∃ k n : Nat, k ≤ xs.length ∧ i = .int .i64 k ∧ xs.take k = ys.take k ∧ wr = w.drewN n) (fun i _ => xs.length - (intOf i).toNat)
    case atStart => exact ⟨0, 0, Nat.zero_le _, rfl, rfl, rfl⟩
    case round =>
      obtain ⟨k, n, hk, rfl, htk', rfl⟩ := hrel
      have htk := Lib.hid htk'
      clear htk'
      by_cases hlt : k < xs.length
      · obtain ⟨b1, o1, x, rfl, _, hcx, hx'⟩ := hx.get hlt
        obtain ⟨b2, o2, y, rfl, _, hcy, hy'⟩ := hy.get (k := k) (by omega)
        have hlt2 : k < ys.length := by omega
        clear hx hy
        by_cases hxy : x = y
        · subst hxy
          go_wp2
          go_quiet (fail)
          go_wp2
          go_roundw
          case rel => exact ⟨k + 1, n + nq, by omega, by go_num, (take_eq_succ hx'.out hy'.out htk.out).2 rfl, by first | rfl | exact World.drewN_drewN _ _ _⟩
          case measure => simp [intOf]; omega
        · have hne : (x != y) = true := by simp [hxy]
          go_wp2
          go_quiet (fail)
          go_wp2
          go_ret
          exact ⟨ret_bool (by simp [ne_of_get hx'.out hy'.out hxy]), n + nq, by first | rfl | exact World.drewN_drewN _ _ _⟩
      · have : k = xs.length := by omega
        subst this
        go_wp2
        go_ret
        exact ⟨ret_bool (by have := htk.out; rw [List.take_length, hlen, List.take_length] at this; simp [this]), _, rfl⟩
  · have hb1 : ((xs.length : Int) != (ys.length : Int)) = true := by simp; omega
    have hnn : xs ≠ ys := fun e => hlen (by rw [e])
    go_enter Try.func79, Try.ntmps79
    go_wp2
    go_ret
    exact ⟨ret_bool (by simp [hnn]), 0, rfl⟩
set_option maxHeartbeats 1000000 in
theorem eqlR_any (w : World) (a b : Option Addr) (c d : Nat) (xs ys : List Int) (hx : Rd w w.heap.size a (ints xs)) (hy : Rd w w.heap.size b (ints ys)) (hlx : xs.length ≤ 1099511627776) (hly : ys.length ≤ 1099511627776) :
    Calls Try.prog 94 #[.slice a xs.length c, .slice b ys.length d] w fun e w' => e = .returned (.bool (decide (xs = ys))) ∧ ∃ n, w' = w.drewN n := by
  by_cases hlen : xs.length = ys.length
  · have hb1 : ((xs.length : Int) != (ys.length : Int)) = false := by simp [hlen]
    go_enter Try.func94, Try.ntmps94
    go_wp2
    go_loopw [5] (fun i wr => ∃ k n : Nat, k ≤ xs.length ∧ i = .int .i64 k ∧ xs.take k = ys.take k ∧ wr = w.drewN n) (fun i _ => xs.length - (intOf i).toNat)
    case atStart => exact ⟨0, 0, Nat.zero_le _, rfl, rfl, rfl⟩
    case round =>
      obtain ⟨k, n, hk, rfl, htk', rfl⟩ := hrel
      have htk := Lib.hid htk'
      clear htk'
      by_cases hlt : k < xs.length
      · obtain ⟨b1, o1, x, rfl, _, hcx, hx'⟩ := hx.get hlt
        obtain ⟨b2, o2, y, rfl, _, hcy, hy'⟩ := hy.get (k := k) (by omega)
        have hlt2 : k < ys.length := by omega
        clear hx hy
        by_cases hxy : x = y
        · subst hxy
          go_wp2
          go_quiet (fail)
          go_wp2
          go_roundw
          case rel => exact ⟨k + 1, n + nq, by omega, by go_num, (take_eq_succ hx'.out hy'.out htk.out).2 rfl, by first | rfl | exact World.drewN_drewN _ _ _⟩
          case measure => simp [intOf]; omega
        · have hne : (x != y) = true := by simp [hxy]
          go_wp2
          go_quiet (fail)
          go_wp2
          go_ret
          exact ⟨ret_bool (by simp [ne_of_get hx'.out hy'.out hxy]), n + nq, by first | rfl | exact World.drewN_drewN _ _ _⟩
      · have : k = xs.length := by omega
        subst this
        go_wp2
        go_ret
        exact ⟨ret_bool (by have := htk.out; rw [List.take_length, hlen, List.take_length] at this; simp [this]), _, rfl⟩
  · have hb1 : ((xs.length : Int) != (ys.length : Int)) = true := by simp; omega
    have hnn : xs ≠ ys := fun e => hlen (by rw [e])
    go_enter Try.func94, Try.ntmps94
    go_wp2
    go_ret
    exact ⟨ret_bool (by simp [hnn]), 0, rfl⟩
def sameG (R C : Int) (xA xB : List Int) (R' C' : Int) (yA yB : List Int) : Bool := (R == R') && (C == C') && decide (xA = yA) && decide (xB = yB)
def sameV (P T : Int) (xV : List Int) (P' T' : Int) (yV : List Int) : Bool := (P == P') && (T == T') && decide (xV = yV)
set_option maxRecDepth 10000 in
set_option maxHeartbeats 4000000 in
theorem sameGame_any (w : World) (R C : Int) (aA : Option Addr) (cA : Nat) (xA : List Int) (aB : Option Addr) (cB : Nat) (xB : List Int) (S D : Int) (bA : Option Addr) (dA : Nat) (yA : List Int) (bB : Option Addr) (dB : Nat) (yB : List Int) (hA : Rd w w.heap.size aA (ints xA)) (gA : Rd w w.heap.size bA (ints yA)) (lA : xA.length ≤ 1048576) (mA : yA.length ≤ 1048576) (hB : Rd w w.heap.size aB (ints xB)) (gB : Rd w w.heap.size bB (ints yB)) (lB : xB.length ≤ 1048576) (mB : yB.length ≤ 1048576) :
    Calls Try.prog 49 #[.agg #[.int .i64 R, .int .i64 C, .slice aA xA.length cA, .slice aB xB.length cB], .agg #[.int .i64 S, .int .i64 D, .slice bA yA.length dA, .slice bB yB.length dB]] w fun e w' => e = .returned (.bool (sameG R C xA xB S D yA yB)) ∧ Below w.heap.size w w' := by
  have LA := Lib.hid (fun (v : World) (hb : Below w.heap.size w v) => eqlI_any v aA bA cA dA xA yA ((hA.below hb (Nat.le_refl _)).mono hb.size) ((gA.below hb (Nat.le_refl _)).mono hb.size) (by omega) (by omega))
  have LB := Lib.hid (fun (v : World) (hb : Below w.heap.size w v) => eqlI_any v aB bB cB dB xB yB ((hB.below hb (Nat.le_refl _)).mono hb.size) ((gB.below hb (Nat.le_refl _)).mono hb.size) (by omega) (by omega))
  clear hA gA hB gB
  cases t1 : (R == S) with
  | false =>
    have HF : Hid (sameG R C xA xB S D yA yB = false) := by simp [Hid, sameG, t1]
    skip
    go_enter Try.func49, Try.ntmps49
    go_wp2_with fail
    go_ret
    exact ⟨ret_bool HF.out.symm, by first | exact bl2 w _ _ | exact below_drewN (bl2 w _ _) _ | exact below_drewN (below_drewN (bl2 w _ _) _) _⟩
  | true =>
  cases t2 : (C == D) with
  | false =>
    have HF : Hid (sameG R C xA xB S D yA yB = false) := by simp [Hid, sameG, t1, t2]
    skip
    go_enter Try.func49, Try.ntmps49
    go_wp2_with fail
    go_ret
    exact ⟨ret_bool HF.out.symm, by first | exact bl2 w _ _ | exact below_drewN (bl2 w _ _) _ | exact below_drewN (below_drewN (bl2 w _ _) _) _⟩
  | true =>
  cases u0 : decide (xA = yA) with
  | false =>
    rw [u0] at LA
    have HF : Hid (sameG R C xA xB S D yA yB = false) := by simp only [Hid, sameG, t1, t2, u0, Bool.true_and, Bool.false_and]
    clear u0
    go_enter Try.func49, Try.ntmps49
    go_wp2_with fail
    refine (LA.out _ ?_).mono ?_
    · first | exact bl2 w _ _ | exact below_drewN (bl2 w _ _) _ | exact below_drewN (below_drewN (bl2 w _ _) _) _
    rintro e w1 ⟨rfl, n0, rfl⟩
    go_wp2_with fail
    go_ret
    exact ⟨ret_bool HF.out.symm, by first | exact bl2 w _ _ | exact below_drewN (bl2 w _ _) _ | exact below_drewN (below_drewN (bl2 w _ _) _) _⟩
  | true =>
  rw [u0] at LA
  have HF : Hid (sameG R C xA xB S D yA yB = decide (xB = yB)) := by simp only [Hid, sameG, t1, t2, u0, Bool.true_and]
  go_enter Try.func49, Try.ntmps49
  go_wp2_with fail
  refine (LA.out _ ?_).mono ?_
  · first | exact bl2 w _ _ | exact below_drewN (bl2 w _ _) _ | exact below_drewN (below_drewN (bl2 w _ _) _) _
  rintro e w1 ⟨rfl, n0, rfl⟩
  go_wp2_with fail
  refine (LB.out _ ?_).mono ?_
  · first | exact bl2 w _ _ | exact below_drewN (bl2 w _ _) _ | exact below_drewN (below_drewN (bl2 w _ _) _) _
  rintro e w1 ⟨rfl, n1, rfl⟩
  go_wp2_with fail
  go_ret
  exact ⟨ret_bool HF.out.symm, by first | exact bl2 w _ _ | exact below_drewN (bl2 w _ _) _ | exact below_drewN (below_drewN (bl2 w _ _) _) _⟩
set_option maxRecDepth 10000 in
set_option maxHeartbeats 4000000 in
theorem l02Same_any (w : World) (b o d p : Nat) (R C : Int) (aA : Option Addr) (cA : Nat) (xA : List Int) (aB : Option Addr) (cB : Nat) (xB : List Int) (S D : Int) (bA : Option Addr) (dA : Nat) (yA : List Int) (bB : Option Addr) (dB : Nat) (yB : List Int) (k0 : w.cell? ⟨b, o, none⟩ = some (.int .i64 R)) (q0 : w.cell? ⟨d, p, none⟩ = some (.int .i64 S)) (k1 : w.cell? ⟨b, o + 1, none⟩ = some (.int .i64 C)) (q1 : w.cell? ⟨d, p + 1, none⟩ = some (.int .i64 D)) (k2 : w.cell? ⟨b, o + 2, none⟩ = some (.slice aA xA.length cA)) (q2 : w.cell? ⟨d, p + 2, none⟩ = some (.slice bA yA.length dA)) (k3 : w.cell? ⟨b, o + 3, none⟩ = some (.slice aB xB.length cB)) (q3 : w.cell? ⟨d, p + 3, none⟩ = some (.slice bB yB.length dB)) (hA : Rd w w.heap.size aA (ints xA)) (gA : Rd w w.heap.size bA (ints yA)) (lA : xA.length ≤ 1048576) (mA : yA.length ≤ 1048576) (hB : Rd w w.heap.size aB (ints xB)) (gB : Rd w w.heap.size bB (ints yB)) (lB : xB.length ≤ 1048576) (mB : yB.length ≤ 1048576) :
    Calls Try.prog 77 #[.pointer (some ⟨b, o, none⟩), .pointer (some ⟨d, p, none⟩)] w fun e w' => e = .returned (.bool (sameG R C xA xB S D yA yB)) ∧ ∃ n, w' = w.drewN n := by
  have LA := Lib.hid (fun (n : Nat) => eqlR_any (w.drewN n) aA bA cA dA xA yA hA gA (by omega) (by omega))
  have LB := Lib.hid (fun (n : Nat) => eqlR_any (w.drewN n) aB bB cB dB xB yB hB gB (by omega) (by omega))
  clear hA gA hB gB
  cases t1 : (R == S) with
  | false =>
    have HF : Hid (sameG R C xA xB S D yA yB = false) := by simp [Hid, sameG, t1]
    skip
    go_enter Try.func77, Try.ntmps77
    go_wp2_with fail
    go_quiet (fail)
    go_wp2_with fail
    go_ret
    exact ⟨ret_bool HF.out.symm, _, rfl⟩
  | true =>
  cases t2 : (C == D) with
  | false =>
    have HF : Hid (sameG R C xA xB S D yA yB = false) := by simp [Hid, sameG, t1, t2]
    skip
    go_enter Try.func77, Try.ntmps77
    go_wp2_with fail
    go_quiet (fail)
    go_wp2_with fail
    go_ret
    exact ⟨ret_bool HF.out.symm, _, rfl⟩
  | true =>
  cases u0 : decide (xA = yA) with
  | false =>
    rw [u0] at LA
    have HF : Hid (sameG R C xA xB S D yA yB = false) := by simp only [Hid, sameG, t1, t2, u0, Bool.true_and, Bool.false_and]
    clear u0
    go_enter Try.func77, Try.ntmps77
    go_wp2_with fail
    go_quiet (first | (go_at_call 94; with_reducible exact qd1 (LA.out _)))
    go_wp2_with fail
    go_ret
    exact ⟨ret_bool HF.out.symm, _, rfl⟩
  | true =>
  rw [u0] at LA
  have HF : Hid (sameG R C xA xB S D yA yB = decide (xB = yB)) := by simp only [Hid, sameG, t1, t2, u0, Bool.true_and]
  go_enter Try.func77, Try.ntmps77
  go_wp2_with fail
  go_quiet (first | (go_at_call 94; with_reducible exact qd1 (LA.out _)) | (go_at_call 94; with_reducible exact qd1 (LB.out _)))
  go_wp2_with fail
  go_ret
  exact ⟨ret_bool HF.out.symm, _, rfl⟩
end Go.Proofs.Yteclpcmbicjjgaa
