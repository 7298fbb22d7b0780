/-
  TakeInOrder: both walks.
-/
import Derived.Test.YthbclfaeplmjgaaClaims
namespace Go.Proofs.Ythbclfaeplmjgaa
set_option linter.unusedVariables false
set_option linter.unusedSimpArgs false
open Go.RowKit

def takeOF (xs : List Int) (e : Int) (os : List Int) : Option (List Int) := if claimsB xs e && orderB os xs.length then some ((takeF xs os e).map (· * 1680)) else none
set_option maxHeartbeats 1000000 in
theorem takeOR_any (w : World) (a : Option Addr) (c : Nat) (xs : List Int) (e : Int) (ao : Option Addr) (co : Nat) (os : List Int) (h : Rd w w.heap.size a (ints xs)) (hl : xs.length ≤ 1152921504606846976) (g : Rd w w.heap.size ao (ints os)) (gl : os.length ≤ 1152921504606846976) (gc : os.length ≤ co) :
    Calls Try.prog 17 #[.slice a xs.length c, .int .i64 e, .slice ao os.length co] w (RetI 2 w (takeOF xs e os)) := by
  unfold takeOF
  have LC := Lib.hid (l07Claims_any w a c xs e h hl)
  cases t1 : claimsB xs e with
  | false =>
    rw [t1] at LC
    simp only [Bool.false_and, Bool.false_eq_true, if_false]
    clear h g
    go_enter Try.func17, Try.ntmps17
    go_wp2_with fail
    refine LC.out.mono ?_
    rintro e' w1 ⟨rfl, rfl⟩
    go_wp2_with fail
    go_ret2
    exact RetI.no (Below.refl _ _)
  | true =>
    rw [t1] at LC
    have LO := Lib.hid (l07Order_any w ao co xs.length os g gc gl hl)
    cases t2 : orderB os xs.length with
    | false =>
      rw [t2] at LO
      simp only [Bool.and_false, Bool.false_eq_true, if_false]
      clear h g
      go_enter Try.func17, Try.ntmps17
      go_wp2_with fail
      refine LC.out.mono ?_
      rintro e' w1 ⟨rfl, rfl⟩
      go_wp2_with fail
      refine LO.out.mono ?_
      rintro e' w1 ⟨rfl, m, rfl⟩
      go_wp2_with fail
      go_ret2
      exact RetI.no (drewN_below w m)
    | true =>
    rw [t2] at LO
    simp only [Bool.and_self, if_true]
    have LT := Lib.hid (fun (w' : World) (hb : Below w.heap.size w w') => l07Take_any w' w.heap.size w.heap.size a ao c co xs os e (h.below hb (Nat.le_refl _)) (g.below hb (Nat.le_refl _)) hb.size hb.size t1 t2)
    have hfl := takeS_len xs os e os.length
    have hbd := (takeS_bd (os := os) (claimsB_iff.1 t1).2.2.1 (by have := claims_sum (claimsB_iff.1 t1).2.1; have := (claimsB_iff.1 t1).1; have := (claimsB_iff.1 t1).2.2.2; omega) (claimsB_iff.1 t1).2.1 os.length).2
    have hl8 := (claimsB_iff.1 t1).1
    obtain ⟨_, _, hos⟩ := orderB_iff.1 t2
    clear h g hos
    go_enter Try.func17, Try.ntmps17
    go_wp2_with fail
    refine LC.out.mono ?_
    rintro e' w1 ⟨rfl, rfl⟩
    go_wp2_with fail
    refine LO.out.mono ?_
    rintro e' w1 ⟨rfl, m, rfl⟩
    have HB := drewN_below w m
    have hw0 := LT.out _ HB
    clear LT
    go_wp2_with fail
    refine hw0.mono ?_
    rintro e' w3 ⟨a3, c3, rfl, o3, hb3⟩
    have hfl' : (takeF xs os e).length = xs.length := hfl
    have LM := Lib.hid (l07Times_any w3 w3.heap.size a3 c3 (takeF xs os e) 1680 o3.rd (Nat.le_refl _) (by omega) (fun x hx => by have := hbd x hx; omega) (by omega) (by omega))
    rw [hfl'] at LM
    have HB3 := HB.trans (hb3.mono HB.size)
    clear o3 hb3 hw0
    go_wp2_with fail
    refine LM.out.mono ?_
    rintro e' w4 ⟨a4, c4, rfl, o4, hb4⟩
    have HB4 := HB3.trans (hb4.mono HB3.size)
    have HR : RetI 2 w (some ((takeF xs os e).map (· * 1680))) (.returned (.tuple #[.slice a4 xs.length c4, .bool true])) w4 := ⟨HB4, a4, c4, by rw [List.length_map, hfl'], own_base o4.1 HB3.size⟩
    have HRR := Lib.hid HR
    clear HR o4 hb4
    go_wp2_with fail
    go_ret2
    exact HRR.out
set_option maxHeartbeats 1000000 in
theorem takeO_any (w : World) (a : Option Addr) (c : Nat) (xs : List Int) (e : Int) (ao : Option Addr) (co : Nat) (os : List Int) (h : Rd w w.heap.size a (ints xs)) (hl : xs.length ≤ 1152921504606846976) (g : Rd w w.heap.size ao (ints os)) (gl : os.length ≤ 1152921504606846976) (gc : os.length ≤ co) :
    Calls Try.prog 19 #[.slice a xs.length c, .int .i64 e, .slice ao os.length co] w (RetI 2 w (takeOF xs e os)) := by
  unfold takeOF
  have LC := Lib.hid (areClaims_any w a c xs e h hl)
  cases t1 : claimsB xs e with
  | false =>
    rw [t1] at LC
    simp only [Bool.false_and, Bool.false_eq_true, if_false]
    clear h g
    go_enter Try.func19, Try.ntmps19
    go_wp2_with fail
    refine LC.out.mono ?_
    rintro e' w1 ⟨rfl, rfl⟩
    go_wp2_with fail
    go_ret2
    exact RetI.no (Below.refl _ _)
  | true =>
    rw [t1] at LC
    have hl8' := (claimsB_iff.1 t1).1
    by_cases hlen : os.length = xs.length
    case neg =>
      have t2 : orderB os xs.length = false := by simp [orderB, hlen]
      have hne : ((os.length : Int) != (xs.length : Int)) = true := by simp; omega
      rw [t2]
      simp only [Bool.and_false, Bool.false_eq_true, if_false]
      clear h g hlen
      go_enter Try.func19, Try.ntmps19
      go_wp2_with fail
      refine LC.out.mono ?_
      rintro e' w1 ⟨rfl, rfl⟩
      go_wp2_with fail
      go_ret2
      exact RetI.no (Below.refl _ _)
    have hne : ((os.length : Int) != (xs.length : Int)) = false := by simp [hlen]
    have LO := Lib.hid (isAll_any w ao co os g (by omega))
    have t3 : orderB os xs.length = onceB os os.length := by simp [orderB, hlen]
    rw [t3]
    cases t2' : onceB os os.length with
    | false =>
      rw [t2'] at LO
      simp only [Bool.and_false, Bool.false_eq_true, if_false]
      clear h g hlen t3 t2'
      go_enter Try.func19, Try.ntmps19
      go_wp2_with fail
      refine LC.out.mono ?_
      rintro e' w1 ⟨rfl, rfl⟩
      go_wp2_with fail
      refine LO.out.mono ?_
      rintro e' w1 ⟨rfl, hb⟩
      go_wp2_with fail
      go_ret2
      exact RetI.no hb
    | true =>
    rw [t2'] at LO
    have t2 : orderB os xs.length = true := by rw [t3, t2']
    simp only [Bool.and_self, if_true]
    have LT := Lib.hid (fun (w' : World) (hb : Below w.heap.size w w') => inOrder_any w' w.heap.size w.heap.size a ao c co xs os e (h.below hb (Nat.le_refl _)) (g.below hb (Nat.le_refl _)) hb.size hb.size t1 t2)
    have hfl := takeS_len xs os e os.length
    have hbd := (takeS_bd (os := os) (claimsB_iff.1 t1).2.2.1 (by have := claims_sum (claimsB_iff.1 t1).2.1; have := (claimsB_iff.1 t1).1; have := (claimsB_iff.1 t1).2.2.2; omega) (claimsB_iff.1 t1).2.1 os.length).2
    have hl8 := (claimsB_iff.1 t1).1
    obtain ⟨_, _, hos⟩ := orderB_iff.1 t2
    clear h g hlen t3 t2' hos
    go_enter Try.func19, Try.ntmps19
    go_wp2_with fail
    refine LC.out.mono ?_
    rintro e' w1 ⟨rfl, rfl⟩
    go_wp2_with fail
    refine LO.out.mono ?_
    rintro e' w1 ⟨rfl, HB⟩
    have hw0 := LT.out _ HB
    clear LT
    go_wp2_with fail
    refine hw0.mono ?_
    rintro e' w3 ⟨a3, c3, rfl, o3, hb3⟩
    have hfl' : (takeF xs os e).length = xs.length := hfl
    have LM := Lib.hid (scaled_any w3 w3.heap.size a3 c3 (takeF xs os e) 1680 o3.rd (Nat.le_refl _) (by omega) (fun x hx => by have := hbd x hx; omega) (by omega) (by omega))
    rw [hfl'] at LM
    have HB3 := HB.trans (hb3.mono HB.size)
    clear o3 hb3 hw0
    go_wp2_with fail
    refine LM.out.mono ?_
    rintro e' w4 ⟨a4, c4, rfl, o4, hb4⟩
    have HB4 := HB3.trans (hb4.mono HB3.size)
    have HR : RetI 2 w (some ((takeF xs os e).map (· * 1680))) (.returned (.tuple #[.slice a4 xs.length c4, .bool true])) w4 := ⟨HB4, a4, c4, by rw [List.length_map, hfl'], own_base o4.1 HB3.size⟩
    have HRR := Lib.hid HR
    clear HR o4 hb4
    go_wp2_with fail
    go_ret2
    exact HRR.out
end Go.Proofs.Ythbclfaeplmjgaa
