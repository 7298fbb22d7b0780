/-
  EqualLosses, HalfRule: both walks.
-/
import Derived.Test.YthbclfaeplmjgaaEqG
namespace Go.Proofs.Ythbclfaeplmjgaa
set_option linter.unusedVariables false
set_option linter.unusedSimpArgs false
open Go.RowKit

def eqLF (xs : List Int) (e : Int) : Option (List Int) := if claimsB xs e then some (lessF (xs.map (· * 1680)) (gainF (xs.map (· * 1680)) ((xs.sum - e) * 1680))) else none
def halfF (xs : List Int) (e : Int) : Option (List Int) :=
  if claimsB xs e then (if 2 * e ≤ xs.sum then some (gainF (xs.map (· * 840)) (e * 1680)) else some (lessF (xs.map (· * 1680)) (gainF (xs.map (· * 840)) ((xs.sum - e) * 1680)))) else none
theorem claims_wsum {xs : List Int} {e : Int} (h : claimsB xs e = true) : wsum xs = xs.sum := by
  obtain ⟨⟨h1, h2⟩, h3, _⟩ := claimsB_iff.1 h
  exact (wsum_eq xs 1000 (by omega) (fun x hx => by have := h3 x hx; omega) (by omega)).1
theorem scale_getD {xs : List Int} {e : Int} (h : claimsB xs e = true) (m : Int) (hm : m = 840 ∨ m = 1680) (j : Nat) : 0 ≤ (xs.map (· * m)).getD j 0 ∧ (xs.map (· * m)).getD j 0 ≤ 1099511627776 := by
  obtain ⟨_, s2, s3, _⟩ := scale_facts h m hm
  have := getD_bd (cs := xs.map (· * m)) (lo := 0) (hi := 1680000) (fun x hx => ⟨(s2 x hx).1, s3 x hx⟩) (by omega) (by omega) j
  omega
theorem gain_getD {xs : List Int} {e : Int} (h : claimsB xs e = true) (m : Int) (hm : m = 840 ∨ m = 1680) {E : Int} (h0 : 0 ≤ E) (hd : E % 840 = 0) (j : Nat) : 0 ≤ (gainF (xs.map (· * m)) E).getD j 0 ∧ (gainF (xs.map (· * m)) E).getD j 0 ≤ 1099511627776 := by
  obtain ⟨s1, s2, s3, _⟩ := scale_facts h m hm
  have := gainS_bd (cs := xs.map (· * m)) (est := E) (by have := (claimsB_iff.1 h).1; omega) s2 s3 h0 hd _ (Nat.le_refl _) j
  unfold gainF
  omega
theorem claims_turn (xs : List Int) (e : Int) (he : -9223372036854775808 ≤ e ∧ e ≤ 9223372036854775807) : claimsB xs (wrap64 (wsum xs - e)) = claimsB xs e := by
  unfold claimsB
  cases hm : manyB xs 1 8 0 1000 with
  | false => rfl
  | true =>
    obtain ⟨⟨h1, h2⟩, h3⟩ := manyB_iff.1 hm
    obtain ⟨hs, _⟩ := wsum_eq xs 1000 (by omega) (fun x hx => by have := h3 x hx; omega) (by omega)
    have := claims_sum h3
    rw [hs]
    simp only [Bool.true_and]
    rw [Bool.eq_iff_iff, inB_iff, inB_iff]
    unfold wrap64
    omega

set_option maxHeartbeats 2000000 in
theorem eqLR_any (w : World) (a : Option Addr) (c : Nat) (xs : List Int) (e : Int) (he : -9223372036854775808 ≤ e ∧ e ≤ 9223372036854775807) (h : Rd w w.heap.size a (ints xs)) (hl : xs.length ≤ 1152921504606846976) :
    Calls Try.prog 27 #[.slice a xs.length c, .int .i64 e] w (RetI 2 w (eqLF xs e)) := by
  unfold eqLF
  have LC := Lib.hid (l07Claims_any w a c xs e h hl)
  cases t1 : claimsB xs e with
  | false =>
    rw [t1] at LC
    simp only [Bool.false_eq_true, if_false]
    clear h
    go_enter Try.func27, Try.ntmps27
    go_wp2_with fail
    refine LC.out.mono ?_
    rintro e' w1 ⟨rfl, rfl⟩
    go_wp2_with fail
    go_ret2
    exact RetI.no (Below.refl _ _)
  | true =>
    rw [t1] at LC
    simp only [if_true]
    obtain ⟨⟨hl1, hl8⟩, hxs, he0, he1⟩ := claimsB_iff.1 t1
    have hs := claims_sum hxs
    have LM := Lib.hid (fun (w1 : World) (hb : Below w.heap.size w w1) => l07Times_any w1 w1.heap.size a c xs 1680 (h.to hb) (Nat.le_refl _) (by omega) (fun x hx => by have := hxs x hx; omega) (by omega) (by omega))
    have LS := Lib.hid (fun (w1 : World) (hb : Below w.heap.size w w1) => l07Sum_any w1 a c xs (h.to hb) hl)
    rw [claims_wsum t1] at LS
    obtain ⟨s1LG, s2LG, s3LG, s4LG⟩ := scale_facts t1 1680 (.inr rfl)
    have LG := Lib.hid (fun (w1 : World) (a1 : Option Addr) (c1 : Nat) (hr : Rd w1 w1.heap.size a1 (ints (xs.map (· * 1680)))) => l07Gains_any w1 w1.heap.size a1 c1 (xs.map (· * 1680)) ((xs.sum - e) * 1680) hr (Nat.le_refl _) (by omega) (by omega) s2LG s3LG (by omega) (by omega) (by omega) (by omega))
    have FLG := Lib.hid (gainF_length (xs.map (· * 1680)) ((xs.sum - e) * 1680))
    rw [s1LG] at LG FLG
    clear s1LG s2LG s3LG s4LG
    have Ln : (xs.map (· * 1680)).length = xs.length := by simp
    have LL := Lib.hid (fun (w1 : World) (a1 a2 : Option Addr) (c1 c2 : Nat) (h1 : Rd w1 w1.heap.size a1 (ints (xs.map (· * 1680)))) (h2 : Rd w1 w1.heap.size a2 (ints (gainF (xs.map (· * 1680)) ((xs.sum - e) * 1680)))) => l07Less_any w1 w1.heap.size w1.heap.size a1 a2 c1 c2 (xs.map (· * 1680)) _ h1 h2 (Nat.le_refl _) (Nat.le_refl _) (by omega) (by simp [gainF_length]) (scale_getD t1 1680 (.inr rfl)) (gain_getD t1 1680 (.inr rfl) (by omega) (by omega)))
    have FLL := Lib.hid (lessF_length (xs.map (· * 1680)) (gainF (xs.map (· * 1680)) ((xs.sum - e) * 1680)))
    rw [Ln] at LL FLL
    clear Ln
    have hS0 : 0 ≤ xs.sum ∧ xs.sum ≤ 8000 := by omega
    clear h hxs hs hl1
    have t1h := Lib.hid t1; clear t1
    generalize gainF (xs.map (· * 1680)) ((xs.sum - e) * 1680) = gs at *
    generalize xs.sum = S at *
    generalize hwh : xs.map (· * 1680) = wh at *
    clear hwh
    obtain ⟨S0, S1⟩ := hS0
    go_enter Try.func27, Try.ntmps27
    go_wp2_with fail
    refine LC.out.mono ?_
    rintro e' w1 ⟨rfl, rfl⟩
    go_wp2_with fail
    refine (LM.out _ (Below.refl _ _)).mono ?_
    rintro e' w3 ⟨a3, c3, rfl, o3, hb3⟩
    have O3 := Lib.hid o3
    have LS3 := Lib.hid (LS.out _ hb3)
    clear o3
    go_wp2_with fail
    refine LS3.out.mono ?_
    rintro e' w4 ⟨rfl, rfl⟩
    have LG3 := Lib.hid (LG.out w3 a3 c3 (O3.out.rd.mono (Nat.le_refl _)))
    go_wp2_with fail
    refine LG3.out.mono ?_
    rintro e' w4 ⟨a4, c4, rfl, o4, hb4⟩
    have HBw4 := hb3.trans (hb4.mono hb3.size)
    have LL4 := Lib.hid (LL.out w4 a3 a4 c3 c4 ((O3.out.keep hb4).rd.mono hb4.size) (o4.rd.mono (Nat.le_refl _)))
    have O4 := Lib.hid o4
    clear o4
    go_wp2_with fail
    refine LL4.out.mono ?_
    rintro e' w5 ⟨a5, c5, rfl, o5, hb5⟩
    have HBw5 := HBw4.trans (hb5.mono HBw4.size)
    have HR : RetI 2 w (some (lessF wh gs)) (.returned (.tuple #[.slice a5 xs.length c5, .bool true])) w5 := ⟨HBw5, a5, c5, by rw [FLL.out], own_base o5.1 HBw4.size⟩
    have HRR := Lib.hid HR
    clear HR
    clear o5
    go_wp2_with fail
    go_ret2
    exact HRR.out
set_option maxHeartbeats 2000000 in
theorem eqL_any (w : World) (a : Option Addr) (c : Nat) (xs : List Int) (e : Int) (he : -9223372036854775808 ≤ e ∧ e ≤ 9223372036854775807) (h : Rd w w.heap.size a (ints xs)) (hl : xs.length ≤ 1152921504606846976) :
    Calls Try.prog 28 #[.slice a xs.length c, .int .i64 e] w (RetI 2 w (eqLF xs e)) := by
  unfold eqLF
  have LS := Lib.hid (sumOf_any w a c xs h hl)
  have LE := Lib.hid (eqG_any w a c xs (wrap64 (wsum xs - e)) h hl)
  cases t1 : claimsB xs e with
  | false =>
    rw [show eqGF xs (wrap64 (wsum xs - e)) = none from by unfold eqGF; rw [claims_turn xs e he, t1]; rfl] at LE
    simp only [Bool.false_eq_true, if_false]
    clear h he
    generalize wsum xs = S at *
    go_enter Try.func28, Try.ntmps28
    go_wp2_with fail
    refine LS.out.mono ?_
    rintro e' w1 ⟨rfl, rfl⟩
    go_wp2_with fail
    refine LE.out.mono ?_
    rintro e' w1 ⟨hb1, rfl⟩
    go_wp2_with fail
    go_ret2
    exact RetI.no hb1
  | true =>
    have hws := claims_wsum t1
    obtain ⟨⟨hl1, hl8⟩, hxs, he0, he1⟩ := claimsB_iff.1 t1
    have hs := claims_sum hxs
    rw [hws, IntWalk.wrap64_in (xs.sum - e) (by omega), show eqGF xs (xs.sum - e) = some (gainF (xs.map (· * 1680)) ((xs.sum - e) * 1680)) from by
      unfold eqGF; rw [show claimsB xs (xs.sum - e) = true from claimsB_iff.2 ⟨⟨hl1, hl8⟩, hxs, by omega, by omega⟩]; rfl] at LE
    rw [hws] at LS
    have LC := Lib.hid (fun (w1 : World) (hb : Below w.heap.size w w1) => areClaims_any w1 a c xs e (h.to hb) hl)
    rw [t1] at LC
    simp only [if_true]
    have LM := Lib.hid (fun (w1 : World) (hb : Below w.heap.size w w1) => scaled_any w1 w1.heap.size a c xs 1680 (h.to hb) (Nat.le_refl _) (by omega) (fun x hx => by have := hxs x hx; omega) (by omega) (by omega))
    have FG : Hid ((gainF (xs.map (· * 1680)) ((xs.sum - e) * 1680)).length = xs.length) := by simp [Hid, gainF_length]
    have Ln : (xs.map (· * 1680)).length = xs.length := by simp
    have LL := Lib.hid (fun (w1 : World) (a1 a2 : Option Addr) (c1 c2 : Nat) (h1 : Rd w1 w1.heap.size a1 (ints (xs.map (· * 1680)))) (h2 : Rd w1 w1.heap.size a2 (ints (gainF (xs.map (· * 1680)) ((xs.sum - e) * 1680)))) => less_any w1 w1.heap.size w1.heap.size a1 a2 c1 c2 (xs.map (· * 1680)) _ h1 h2 (Nat.le_refl _) (Nat.le_refl _) (by omega) (by simp [gainF_length]) (scale_getD t1 1680 (.inr rfl)) (gain_getD t1 1680 (.inr rfl) (by omega) (by omega)))
    have FLL := Lib.hid (lessF_length (xs.map (· * 1680)) (gainF (xs.map (· * 1680)) ((xs.sum - e) * 1680)))
    rw [Ln] at LL FLL
    clear Ln
    have hS0 : 0 ≤ xs.sum ∧ xs.sum ≤ 8000 := by omega
    clear h hxs hs hl1 hws
    have t1h := Lib.hid t1; clear t1
    generalize gainF (xs.map (· * 1680)) ((xs.sum - e) * 1680) = gs at *
    generalize xs.sum = S at *
    generalize hwh : xs.map (· * 1680) = wh at *
    clear hwh
    obtain ⟨S0, S1⟩ := hS0
    go_enter Try.func28, Try.ntmps28
    go_wp2_with fail
    refine LS.out.mono ?_
    rintro e' w1 ⟨rfl, rfl⟩
    go_wp2_with fail
    refine LE.out.mono ?_
    rintro e' w3 ⟨hb3, a3, c3, rfl, o3⟩
    rw [FG.out]
    have O3 : Hid (OwnI 2 w3 w.heap.size w3.heap.size a3 c3 gs) := OwnI.of_own o3
    have LC3 := Lib.hid (LC.out _ hb3)
    have LM3 := Lib.hid (LM.out _ hb3)
    clear o3
    go_wp2_with fail
    refine LC3.out.mono ?_
    rintro e' w4 ⟨rfl, rfl⟩
    go_wp2_with fail
    refine LM3.out.mono ?_
    rintro e' w4 ⟨a4, c4, rfl, o4, hb4⟩
    have HBw4 := hb3.trans (hb4.mono hb3.size)
    have LL4 := Lib.hid (LL.out w4 a4 a3 c4 c3 (o4.rd.mono (Nat.le_refl _)) ((O3.out.keep hb4).rd.mono hb4.size))
    have O4 := Lib.hid o4
    clear o4
    go_wp2_with fail
    refine LL4.out.mono ?_
    rintro e' w5 ⟨a5, c5, rfl, o5, hb5⟩
    have HBw5 := HBw4.trans (hb5.mono HBw4.size)
    have HR : RetI 2 w (some (lessF wh gs)) (.returned (.tuple #[.slice a5 xs.length c5, .bool true])) w5 := ⟨HBw5, a5, c5, by rw [FLL.out], own_base o5.1 HBw4.size⟩
    have HRR := Lib.hid HR
    clear HR
    clear o5
    go_wp2_with fail
    go_ret2
    exact HRR.out
set_option maxHeartbeats 2000000 in
theorem halfR_any (w : World) (a : Option Addr) (c : Nat) (xs : List Int) (e : Int) (he : -9223372036854775808 ≤ e ∧ e ≤ 9223372036854775807) (h : Rd w w.heap.size a (ints xs)) (hl : xs.length ≤ 1152921504606846976) :
    Calls Try.prog 29 #[.slice a xs.length c, .int .i64 e] w (RetI 2 w (halfF xs e)) := by
  unfold halfF
  have LC := Lib.hid (l07Claims_any w a c xs e h hl)
  cases t1 : claimsB xs e with
  | false =>
    rw [t1] at LC
    simp only [Bool.false_eq_true, if_false]
    clear h
    go_enter Try.func29, Try.ntmps29
    go_wp2_with fail
    refine LC.out.mono ?_
    rintro e' w1 ⟨rfl, rfl⟩
    go_wp2_with fail
    go_ret2
    exact RetI.no (Below.refl _ _)
  | true =>
    rw [t1] at LC
    simp only [if_true]
    obtain ⟨⟨hl1, hl8⟩, hxs, he0, he1⟩ := claimsB_iff.1 t1
    have hs := claims_sum hxs
    have LM := Lib.hid (fun (w1 : World) (hb : Below w.heap.size w w1) => l07Times_any w1 w1.heap.size a c xs 840 (h.to hb) (Nat.le_refl _) (by omega) (fun x hx => by have := hxs x hx; omega) (by omega) (by omega))
    have LS := Lib.hid (fun (w1 : World) (hb : Below w.heap.size w w1) => l07Sum_any w1 a c xs (h.to hb) hl)
    rw [claims_wsum t1] at LS
    by_cases h2 : 2 * e ≤ xs.sum
    case pos =>
      rw [if_pos h2]
      obtain ⟨s1LG, s2LG, s3LG, s4LG⟩ := scale_facts t1 840 (.inl rfl)
      have LG := Lib.hid (fun (w1 : World) (a1 : Option Addr) (c1 : Nat) (hr : Rd w1 w1.heap.size a1 (ints (xs.map (· * 840)))) => l07Gains_any w1 w1.heap.size a1 c1 (xs.map (· * 840)) (e * 1680) hr (Nat.le_refl _) (by omega) (by omega) s2LG s3LG (by omega) (by omega) (by omega) (by omega))
      have FLG := Lib.hid (gainF_length (xs.map (· * 840)) (e * 1680))
      rw [s1LG] at LG FLG
      clear s1LG s2LG s3LG s4LG
      have hS0 : 0 ≤ xs.sum ∧ xs.sum ≤ 8000 := by omega
      clear h hxs hs hl1
      have t1h := Lib.hid t1; clear t1
      generalize gainF (xs.map (· * 840)) (e * 1680) = gs at *
      generalize xs.sum = S at *
      generalize hwh : xs.map (· * 840) = wh at *
      clear hwh
      obtain ⟨S0, S1⟩ := hS0
      go_enter Try.func29, Try.ntmps29
      go_wp2_with fail
      refine LC.out.mono ?_
      rintro e' w1 ⟨rfl, rfl⟩
      go_wp2_with fail
      refine (LM.out _ (Below.refl _ _)).mono ?_
      rintro e' w3 ⟨a3, c3, rfl, o3, hb3⟩
      have O3 := Lib.hid o3
      have LS3 := Lib.hid (LS.out _ hb3)
      clear o3
      go_wp2_with fail
      refine LS3.out.mono ?_
      rintro e' w4 ⟨rfl, rfl⟩
      have LG3 := Lib.hid (LG.out w3 a3 c3 (O3.out.rd.mono (Nat.le_refl _)))
      go_wp2_with fail
      refine LG3.out.mono ?_
      rintro e' w4 ⟨a4, c4, rfl, o4, hb4⟩
      have HBw4 := hb3.trans (hb4.mono hb3.size)
      have HR : RetI 2 w (some (gs)) (.returned (.tuple #[.slice a4 xs.length c4, .bool true])) w4 := ⟨HBw4, a4, c4, by rw [FLG.out], own_base o4.1 hb3.size⟩
      have HRR := Lib.hid HR
      clear HR
      clear o4
      go_wp2_with fail
      go_ret2
      exact HRR.out
    case neg =>
      rw [if_neg h2]
      have LW := Lib.hid (fun (w1 : World) (hb : Below w.heap.size w w1) => l07Times_any w1 w1.heap.size a c xs 1680 (h.to hb) (Nat.le_refl _) (by omega) (fun x hx => by have := hxs x hx; omega) (by omega) (by omega))
      obtain ⟨s1LG, s2LG, s3LG, s4LG⟩ := scale_facts t1 840 (.inl rfl)
      have LG := Lib.hid (fun (w1 : World) (a1 : Option Addr) (c1 : Nat) (hr : Rd w1 w1.heap.size a1 (ints (xs.map (· * 840)))) => l07Gains_any w1 w1.heap.size a1 c1 (xs.map (· * 840)) ((xs.sum - e) * 1680) hr (Nat.le_refl _) (by omega) (by omega) s2LG s3LG (by omega) (by omega) (by omega) (by omega))
      have FLG := Lib.hid (gainF_length (xs.map (· * 840)) ((xs.sum - e) * 1680))
      rw [s1LG] at LG FLG
      clear s1LG s2LG s3LG s4LG
      have Ln : (xs.map (· * 1680)).length = xs.length := by simp
      have LL := Lib.hid (fun (w1 : World) (a1 a2 : Option Addr) (c1 c2 : Nat) (h1 : Rd w1 w1.heap.size a1 (ints (xs.map (· * 1680)))) (h2 : Rd w1 w1.heap.size a2 (ints (gainF (xs.map (· * 840)) ((xs.sum - e) * 1680)))) => l07Less_any w1 w1.heap.size w1.heap.size a1 a2 c1 c2 (xs.map (· * 1680)) _ h1 h2 (Nat.le_refl _) (Nat.le_refl _) (by omega) (by simp [gainF_length]) (scale_getD t1 1680 (.inr rfl)) (gain_getD t1 840 (.inl rfl) (by omega) (by omega)))
      have FLL := Lib.hid (lessF_length (xs.map (· * 1680)) (gainF (xs.map (· * 840)) ((xs.sum - e) * 1680)))
      rw [Ln] at LL FLL
      clear Ln
      have hS0 : 0 ≤ xs.sum ∧ xs.sum ≤ 8000 := by omega
      have h2 : xs.sum < 2 * e := by omega
      clear h hxs hs hl1
      have t1h := Lib.hid t1; clear t1
      generalize gainF (xs.map (· * 840)) ((xs.sum - e) * 1680) = gs at *
      generalize xs.sum = S at *
      generalize hwh : xs.map (· * 840) = wh at *
      generalize hwi : xs.map (· * 1680) = wi at *
      clear hwh hwi
      obtain ⟨S0, S1⟩ := hS0
      go_enter Try.func29, Try.ntmps29
      go_wp2_with fail
      refine LC.out.mono ?_
      rintro e' w1 ⟨rfl, rfl⟩
      go_wp2_with fail
      refine (LM.out _ (Below.refl _ _)).mono ?_
      rintro e' w3 ⟨a3, c3, rfl, o3, hb3⟩
      have O3 := Lib.hid o3
      have LS3 := Lib.hid (LS.out _ hb3)
      clear o3
      go_wp2_with fail
      refine LS3.out.mono ?_
      rintro e' w4 ⟨rfl, rfl⟩
      go_wp2_with fail
      refine (LW.out _ hb3).mono ?_
      rintro e' w4 ⟨a4, c4, rfl, o4, hb4⟩
      have HBw4 := hb3.trans (hb4.mono hb3.size)
      have LG3 := Lib.hid (LG.out w4 a3 c3 ((O3.out.keep hb4).rd.mono hb4.size))
      have O4 := Lib.hid o4
      clear o4
      go_wp2_with fail
      refine LG3.out.mono ?_
      rintro e' w5 ⟨a5, c5, rfl, o5, hb5⟩
      have HBw5 := HBw4.trans (hb5.mono HBw4.size)
      have LL5 := Lib.hid (LL.out w5 a4 a5 c4 c5 ((O4.out.keep hb5).rd.mono hb5.size) (o5.rd.mono (Nat.le_refl _)))
      have O5 := Lib.hid o5
      clear o5
      go_wp2_with fail
      refine LL5.out.mono ?_
      rintro e' w6 ⟨a6, c6, rfl, o6, hb6⟩
      have HBw6 := HBw5.trans (hb6.mono HBw5.size)
      have HR : RetI 2 w (some (lessF wi gs)) (.returned (.tuple #[.slice a6 xs.length c6, .bool true])) w6 := ⟨HBw6, a6, c6, by rw [FLL.out], own_base o6.1 HBw5.size⟩
      have HRR := Lib.hid HR
      clear HR
      clear o6
      go_wp2_with fail
      go_ret2
      exact HRR.out
set_option maxHeartbeats 2000000 in
theorem half_any (w : World) (a : Option Addr) (c : Nat) (xs : List Int) (e : Int) (he : -9223372036854775808 ≤ e ∧ e ≤ 9223372036854775807) (h : Rd w w.heap.size a (ints xs)) (hl : xs.length ≤ 1152921504606846976) :
    Calls Try.prog 30 #[.slice a xs.length c, .int .i64 e] w (RetI 2 w (halfF xs e)) := by
  unfold halfF
  have LC := Lib.hid (areClaims_any w a c xs e h hl)
  cases t1 : claimsB xs e with
  | false =>
    rw [t1] at LC
    simp only [Bool.false_eq_true, if_false]
    clear h
    go_enter Try.func30, Try.ntmps30
    go_wp2_with fail
    refine LC.out.mono ?_
    rintro e' w1 ⟨rfl, rfl⟩
    go_wp2_with fail
    go_ret2
    exact RetI.no (Below.refl _ _)
  | true =>
    rw [t1] at LC
    simp only [if_true]
    obtain ⟨⟨hl1, hl8⟩, hxs, he0, he1⟩ := claimsB_iff.1 t1
    have hs := claims_sum hxs
    have LM := Lib.hid (fun (w1 : World) (hb : Below w.heap.size w w1) => scaled_any w1 w1.heap.size a c xs 840 (h.to hb) (Nat.le_refl _) (by omega) (fun x hx => by have := hxs x hx; omega) (by omega) (by omega))
    have LS := Lib.hid (fun (w1 : World) (hb : Below w.heap.size w w1) => sumOf_any w1 a c xs (h.to hb) hl)
    rw [claims_wsum t1] at LS
    by_cases h2 : 2 * e ≤ xs.sum
    case pos =>
      rw [if_pos h2]
      obtain ⟨s1LG, s2LG, s3LG, s4LG⟩ := scale_facts t1 840 (.inl rfl)
      have LG := Lib.hid (fun (w1 : World) (a1 : Option Addr) (c1 : Nat) (hr : Rd w1 w1.heap.size a1 (ints (xs.map (· * 840)))) => gains_any w1 w1.heap.size a1 c1 (xs.map (· * 840)) (e * 1680) hr (Nat.le_refl _) (by omega) (by omega) s2LG s3LG (by omega) (by omega) (by omega))
      have FLG := Lib.hid (gainF_length (xs.map (· * 840)) (e * 1680))
      rw [s1LG] at LG FLG
      clear s1LG s2LG s3LG s4LG
      have hS0 : 0 ≤ xs.sum ∧ xs.sum ≤ 8000 := by omega
      clear h hxs hs hl1
      have t1h := Lib.hid t1; clear t1
      generalize gainF (xs.map (· * 840)) (e * 1680) = gs at *
      generalize xs.sum = S at *
      generalize hwh : xs.map (· * 840) = wh at *
      clear hwh
      obtain ⟨S0, S1⟩ := hS0
      go_enter Try.func30, Try.ntmps30
      go_wp2_with fail
      refine LC.out.mono ?_
      rintro e' w1 ⟨rfl, rfl⟩
      go_wp2_with fail
      refine (LM.out _ (Below.refl _ _)).mono ?_
      rintro e' w3 ⟨a3, c3, rfl, o3, hb3⟩
      have O3 := Lib.hid o3
      have LS3 := Lib.hid (LS.out _ hb3)
      clear o3
      go_wp2_with fail
      refine LS3.out.mono ?_
      rintro e' w4 ⟨rfl, rfl⟩
      have LG3 := Lib.hid (LG.out w3 a3 c3 (O3.out.rd.mono (Nat.le_refl _)))
      go_wp2_with fail
      refine LG3.out.mono ?_
      rintro e' w4 ⟨a4, c4, rfl, o4, hb4⟩
      have HBw4 := hb3.trans (hb4.mono hb3.size)
      have HR : RetI 2 w (some (gs)) (.returned (.tuple #[.slice a4 xs.length c4, .bool true])) w4 := ⟨HBw4, a4, c4, by rw [FLG.out], own_base o4.1 hb3.size⟩
      have HRR := Lib.hid HR
      clear HR
      clear o4
      go_wp2_with fail
      go_ret2
      exact HRR.out
    case neg =>
      rw [if_neg h2]
      have LW := Lib.hid (fun (w1 : World) (hb : Below w.heap.size w w1) => scaled_any w1 w1.heap.size a c xs 1680 (h.to hb) (Nat.le_refl _) (by omega) (fun x hx => by have := hxs x hx; omega) (by omega) (by omega))
      obtain ⟨s1LG, s2LG, s3LG, s4LG⟩ := scale_facts t1 840 (.inl rfl)
      have LG := Lib.hid (fun (w1 : World) (a1 : Option Addr) (c1 : Nat) (hr : Rd w1 w1.heap.size a1 (ints (xs.map (· * 840)))) => gains_any w1 w1.heap.size a1 c1 (xs.map (· * 840)) ((xs.sum - e) * 1680) hr (Nat.le_refl _) (by omega) (by omega) s2LG s3LG (by omega) (by omega) (by omega))
      have FLG := Lib.hid (gainF_length (xs.map (· * 840)) ((xs.sum - e) * 1680))
      rw [s1LG] at LG FLG
      clear s1LG s2LG s3LG s4LG
      have Ln : (xs.map (· * 1680)).length = xs.length := by simp
      have LL := Lib.hid (fun (w1 : World) (a1 a2 : Option Addr) (c1 c2 : Nat) (h1 : Rd w1 w1.heap.size a1 (ints (xs.map (· * 1680)))) (h2 : Rd w1 w1.heap.size a2 (ints (gainF (xs.map (· * 840)) ((xs.sum - e) * 1680)))) => less_any w1 w1.heap.size w1.heap.size a1 a2 c1 c2 (xs.map (· * 1680)) _ h1 h2 (Nat.le_refl _) (Nat.le_refl _) (by omega) (by simp [gainF_length]) (scale_getD t1 1680 (.inr rfl)) (gain_getD t1 840 (.inl rfl) (by omega) (by omega)))
      have FLL := Lib.hid (lessF_length (xs.map (· * 1680)) (gainF (xs.map (· * 840)) ((xs.sum - e) * 1680)))
      rw [Ln] at LL FLL
      clear Ln
      have hS0 : 0 ≤ xs.sum ∧ xs.sum ≤ 8000 := by omega
      have h2 : xs.sum < 2 * e := by omega
      clear h hxs hs hl1
      have t1h := Lib.hid t1; clear t1
      generalize gainF (xs.map (· * 840)) ((xs.sum - e) * 1680) = gs at *
      generalize xs.sum = S at *
      generalize hwh : xs.map (· * 840) = wh at *
      generalize hwi : xs.map (· * 1680) = wi at *
      clear hwh hwi
      obtain ⟨S0, S1⟩ := hS0
      go_enter Try.func30, Try.ntmps30
      go_wp2_with fail
      refine LC.out.mono ?_
      rintro e' w1 ⟨rfl, rfl⟩
      go_wp2_with fail
      refine (LM.out _ (Below.refl _ _)).mono ?_
      rintro e' w3 ⟨a3, c3, rfl, o3, hb3⟩
      have O3 := Lib.hid o3
      have LS3 := Lib.hid (LS.out _ hb3)
      clear o3
      go_wp2_with fail
      refine LS3.out.mono ?_
      rintro e' w4 ⟨rfl, rfl⟩
      go_wp2_with fail
      refine (LW.out _ hb3).mono ?_
      rintro e' w4 ⟨a4, c4, rfl, o4, hb4⟩
      have HBw4 := hb3.trans (hb4.mono hb3.size)
      have LG3 := Lib.hid (LG.out w4 a3 c3 ((O3.out.keep hb4).rd.mono hb4.size))
      have O4 := Lib.hid o4
      clear o4
      go_wp2_with fail
      refine LG3.out.mono ?_
      rintro e' w5 ⟨a5, c5, rfl, o5, hb5⟩
      have HBw5 := HBw4.trans (hb5.mono HBw4.size)
      have LL5 := Lib.hid (LL.out w5 a4 a5 c4 c5 ((O4.out.keep hb5).rd.mono hb5.size) (o5.rd.mono (Nat.le_refl _)))
      have O5 := Lib.hid o5
      clear o5
      go_wp2_with fail
      refine LL5.out.mono ?_
      rintro e' w6 ⟨a6, c6, rfl, o6, hb6⟩
      have HBw6 := HBw5.trans (hb6.mono HBw5.size)
      have HR : RetI 2 w (some (lessF wi gs)) (.returned (.tuple #[.slice a6 xs.length c6, .bool true])) w6 := ⟨HBw6, a6, c6, by rw [FLL.out], own_base o6.1 HBw5.size⟩
      have HRR := Lib.hid HR
      clear HR
      clear o6
      go_wp2_with fail
      go_ret2
      exact HRR.out
end Go.Proofs.Ythbclfaeplmjgaa
