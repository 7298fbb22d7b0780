/-
  EqualGains, EqualLosses, HalfRule: both walks.
-/
import Derived.Test.YthbclfaeplmjgaaLessR
import Derived.Test.YthbclfaeplmjgaaClaims
namespace Go.Proofs.Ythbclfaeplmjgaa
set_option linter.unusedVariables false
set_option linter.unusedSimpArgs false
open Go.RowKit

theorem sum_scale (m : Int) : ∀ xs : List Int, (xs.map (· * m)).sum = xs.sum * m
  | [] => by simp
  | x :: xs => by simp only [List.map_cons, List.sum_cons]; rw [sum_scale m xs, Int.add_mul]
theorem scale_facts {xs : List Int} {e : Int} (h : claimsB xs e = true) (m : Int) (hm : m = 840 ∨ m = 1680) :
    (xs.map (· * m)).length = xs.length ∧ (∀ x ∈ xs.map (· * m), 0 ≤ x ∧ x % 840 = 0) ∧ (∀ x ∈ xs.map (· * m), x ≤ 1680000) ∧ (xs.map (· * m)).sum = xs.sum * m := by
  obtain ⟨_, h2, _⟩ := claimsB_iff.1 h
  refine ⟨by simp, fun x hx => ?_, fun x hx => ?_, ?_⟩
  · obtain ⟨y, hy, rfl⟩ := List.mem_map.1 hx
    have := h2 y hy
    rcases hm with rfl | rfl <;> omega
  · obtain ⟨y, hy, rfl⟩ := List.mem_map.1 hx
    have := h2 y hy
    rcases hm with rfl | rfl <;> omega
  · exact sum_scale m xs
theorem gainS_bd {cs : List Int} {est : Int} (hn : cs.length ≤ 8) (hc : ∀ x ∈ cs, 0 ≤ x ∧ x % 840 = 0) (hc1 : ∀ x ∈ cs, x ≤ 1680000) (h0 : 0 ≤ est) (hd : est % 840 = 0) :
    ∀ t, t ≤ cs.length → ∀ j, 0 ≤ (gainS cs (ascF cs) est t).1.getD j 0 ∧ (gainS cs (ascF cs) est t).1.getD j 0 ≤ 1680000
  | 0, _, j => by
    simp only [gainS, List.getD_eq_getElem?_getD, List.getElem?_replicate]
    split <;> simp
  | t + 1, ht, j => by
    have ih := gainS_bd hn hc hc1 h0 hd t (by omega) j
    obtain ⟨j1, _⟩ := gainS_le hn hc h0 hd t (by omega)
    simp only [gainS]
    have hq : 0 ≤ (gainS cs (ascF cs) est t).2 / (((ascF cs).length : Int) - t) := Int.ediv_nonneg j1 (by rw [ascF_length]; omega)
    have hx : 0 ≤ cs.getD ((ascF cs).getD t 0).toNat 0 ∧ cs.getD ((ascF cs).getD t 0).toNat 0 ≤ 1680000 := getD_bd (fun x hx => ⟨(hc x hx).1, hc1 x hx⟩) (by omega) (by omega) _
    generalize ((ascF cs).getD t 0).toNat = q at *
    by_cases hj : j = q
    · subst hj
      by_cases hlt : j < (gainS cs (ascF cs) est t).1.length
      · rw [getD_set_self hlt]; omega
      · rw [List.set_eq_of_length_le (by omega)]; exact ih
    · rw [getD_set_ne hj]; exact ih
def eqGF (xs : List Int) (e : Int) : Option (List Int) := if claimsB xs e then some (gainF (xs.map (· * 1680)) (e * 1680)) else none
theorem gainF_length (cs : List Int) (est : Int) : (gainF cs est).length = cs.length := gainS_len _ _ _ _
set_option maxHeartbeats 1000000 in
theorem eqGR_any (w : World) (a : Option Addr) (c : Nat) (xs : List Int) (e : Int) (h : Rd w w.heap.size a (ints xs)) (hl : xs.length ≤ 1152921504606846976) :
    Calls Try.prog 25 #[.slice a xs.length c, .int .i64 e] w (RetI 2 w (eqGF xs e)) := by
  unfold eqGF
  have LC := Lib.hid (l07Claims_any w a c xs e h hl)
  cases t1 : claimsB xs e with
  | false =>
    rw [t1] at LC
    simp only [Bool.false_eq_true, if_false]
    clear h
    go_enter Try.func25, Try.ntmps25
    go_wp2_with fail
    refine LC.out.mono ?_
    rintro e' w1 ⟨rfl, rfl⟩
    go_wp2_with fail
    go_ret2
    exact RetI.no (Below.refl _ _)
  | true =>
    rw [t1] at LC
    simp only [if_true]
    obtain ⟨⟨hl1, hl8⟩, hxs, he0, he1⟩ := claimsB_iff.1 t1
    obtain ⟨s1, s2, s3, s4⟩ := scale_facts t1 1680 (.inr rfl)
    have hs := claims_sum hxs
    have LM := Lib.hid (l07Times_any w w.heap.size a c xs 1680 h (Nat.le_refl _) (by omega) (fun x hx => by have := hxs x hx; omega) (by omega) (by omega))
    have LG := Lib.hid (fun (w' : World) (a' : Option Addr) (c' : Nat) (hr : Rd w' w'.heap.size a' (ints (xs.map (· * 1680)))) => l07Gains_any w' w'.heap.size a' c' (xs.map (· * 1680)) (e * 1680) hr (Nat.le_refl _) (by omega) (by omega) s2 s3 (by omega) (by omega) (by omega) (by omega))
    have hfl := Lib.hid (gainF_length (xs.map (· * 1680)) (e * 1680))
    rw [s1] at LG hfl
    have Hs := Lib.hid hs
    have he2 : e ≤ 8000 := by omega
    clear h s1 s2 s3 s4 hxs hs he1 hl1
    go_enter Try.func25, Try.ntmps25
    go_wp2_with fail
    refine LC.out.mono ?_
    rintro e' w1 ⟨rfl, rfl⟩
    go_wp2_with fail
    refine LM.out.mono ?_
    rintro e' w3 ⟨a3, c3, rfl, o3, hb3⟩
    have L2 := Lib.hid (LG.out w3 a3 c3 (o3.rd.mono (Nat.le_refl _)))
    have O3 := Lib.hid o3
    clear o3 LG
    go_wp2_with fail
    refine L2.out.mono ?_
    rintro e' w4 ⟨a4, c4, rfl, o4, hb4⟩
    have HB4 := hb3.trans (hb4.mono hb3.size)
    have HR : RetI 2 w (some (gainF (xs.map (· * 1680)) (e * 1680))) (.returned (.tuple #[.slice a4 xs.length c4, .bool true])) w4 := ⟨HB4, a4, c4, by rw [hfl.out], own_base o4.1 hb3.size⟩
    have HRR := Lib.hid HR
    clear HR o4 hb4
    go_wp2_with fail
    go_ret2
    exact HRR.out
set_option maxHeartbeats 1000000 in
theorem eqG_any (w : World) (a : Option Addr) (c : Nat) (xs : List Int) (e : Int) (h : Rd w w.heap.size a (ints xs)) (hl : xs.length ≤ 1152921504606846976) :
    Calls Try.prog 26 #[.slice a xs.length c, .int .i64 e] w (RetI 2 w (eqGF xs e)) := by
  unfold eqGF
  have LC := Lib.hid (areClaims_any w a c xs e h hl)
  cases t1 : claimsB xs e with
  | false =>
    rw [t1] at LC
    simp only [Bool.false_eq_true, if_false]
    clear h
    go_enter Try.func26, Try.ntmps26
    go_wp2_with fail
    refine LC.out.mono ?_
    rintro e' w1 ⟨rfl, rfl⟩
    go_wp2_with fail
    go_ret2
    exact RetI.no (Below.refl _ _)
  | true =>
    rw [t1] at LC
    simp only [if_true]
    obtain ⟨⟨hl1, hl8⟩, hxs, he0, he1⟩ := claimsB_iff.1 t1
    obtain ⟨s1, s2, s3, s4⟩ := scale_facts t1 1680 (.inr rfl)
    have hs := claims_sum hxs
    have LM := Lib.hid (scaled_any w w.heap.size a c xs 1680 h (Nat.le_refl _) (by omega) (fun x hx => by have := hxs x hx; omega) (by omega) (by omega))
    have LG := Lib.hid (fun (w' : World) (a' : Option Addr) (c' : Nat) (hr : Rd w' w'.heap.size a' (ints (xs.map (· * 1680)))) => gains_any w' w'.heap.size a' c' (xs.map (· * 1680)) (e * 1680) hr (Nat.le_refl _) (by omega) (by omega) s2 s3 (by omega) (by omega) (by omega))
    have hfl := Lib.hid (gainF_length (xs.map (· * 1680)) (e * 1680))
    rw [s1] at LG hfl
    have Hs := Lib.hid hs
    have he2 : e ≤ 8000 := by omega
    clear h s1 s2 s3 s4 hxs hs he1 hl1
    go_enter Try.func26, Try.ntmps26
    go_wp2_with fail
    refine LC.out.mono ?_
    rintro e' w1 ⟨rfl, rfl⟩
    go_wp2_with fail
    refine LM.out.mono ?_
    rintro e' w3 ⟨a3, c3, rfl, o3, hb3⟩
    have L2 := Lib.hid (LG.out w3 a3 c3 (o3.rd.mono (Nat.le_refl _)))
    have O3 := Lib.hid o3
    clear o3 LG
    go_wp2_with fail
    refine L2.out.mono ?_
    rintro e' w4 ⟨a4, c4, rfl, o4, hb4⟩
    have HB4 := hb3.trans (hb4.mono hb3.size)
    have HR : RetI 2 w (some (gainF (xs.map (· * 1680)) (e * 1680))) (.returned (.tuple #[.slice a4 xs.length c4, .bool true])) w4 := ⟨HB4, a4, c4, by rw [hfl.out], own_base o4.1 hb3.size⟩
    have HRR := Lib.hid HR
    clear HR o4 hb4
    go_wp2_with fail
    go_ret2
    exact HRR.out
end Go.Proofs.Ythbclfaeplmjgaa
