/-
  The reference's JournalOf.
-/
import Derived.Test.YtiimhpopcgiejaaDoorJourS
namespace Go.Proofs.YtiimhpopcgiejaaDoor
set_option linter.unusedVariables false
set_option linter.unusedSimpArgs false
open Go.RowKit

set_option maxRecDepth 200000 in
set_option maxHeartbeats 8000000 in
theorem journalOfR_any (w : World) (a : Option Addr) (c : Nat) (xs : List (List UInt8)) (h : Rd w w.heap.size a (strs xs)) (hl : xs.length ≤ 1048576) (hin : ∀ y ∈ xs, y.length ≤ 1048576) :
    Calls Tryd.prog 9 #[.slice a xs.length c] w fun e w' => e = .returned (.tuple #[.string (bs ((jourF xs).getD [])), .bool (jourF xs).isSome]) ∧ Below w.heap.size w w' := by
  have HX := Lib.hid h
  have HS : Hid (∀ k l, xs[k]? = some l → jmin (xs.take (k + 1)) = jmin (xs.take k) + (l.length + 3) ∧ l.length ≤ 1048576 ∧ l ∈ xs) := fun k l hk => ⟨jmin_take hk, hin l (List.mem_of_getElem? hk), List.mem_of_getElem? hk⟩
  have HNo : Hid (∀ l, l ∈ xs → (10 : UInt8) ∈ l → jourF xs = none) := fun l h1 h2 => jourF_line h1 h2
  have HLong : Hid (∀ k, 16000 < jmin (xs.take k) → jourF xs = none) := fun k h => jourF_long h
  have HLong2 : Hid (16000 < (jst xs).2.length → jourF xs = none) := fun h => jourF_long2 (k := xs.length) (by rw [List.take_length]; exact h)
  have HYes : Hid ((∀ l ∈ xs, (10 : UInt8) ∉ l) → (jst xs).2.length ≤ 16000 → jourF xs = some (jst xs).2) := fun h1 h2 => jourF_yes h1 h2
  have HJ : Hid (jmin xs ≤ 16000 → Calls Tryd.prog 32 #[.slice a xs.length c] w fun e w' => e = .returned (.string (bs (jst xs).2)) ∧ Below w.heap.size w w') := fun hm => l08Journal_any w a c xs h hm
  have HZ : Hid (jmin xs ≤ 16000 → (jst xs).2.length ≤ 48000) := fun hm => by have := (jst_min xs).2; omega
  clear h hin
  go_enter Tryd.func9, Tryd.ntmps9
  go_wp2_with fail
  go_loop [5, 4] (fun iv tv => ∃ k : Nat, k ≤ xs.length ∧ iv = .int .i64 k ∧ tv = .int .i64 (jmin (xs.take k) : Nat) ∧ jmin (xs.take k) ≤ 16000 ∧ Hid (∀ l ∈ xs.take k, (10 : UInt8) ∉ l)) (fun iv _ => xs.length - (intOf iv).toNat)
  case atStart => exact ⟨0, Nat.zero_le _, rfl, rfl, Nat.zero_le _, fun l h => by simp at h⟩
  case round =>
    obtain ⟨k, hk, rfl, rfl, htl, hno⟩ := hrel
    have k0 : (0 : Int) ≤ (k : Int) := Int.natCast_nonneg _
    by_cases hlt : k < xs.length
    · have k1 : (k : Int) < (xs.length : Int) := by omega
      obtain ⟨b, o, l, ha, hb, hc, hl2⟩ := strs_line HX.out hlt
      subst ha
      obtain ⟨hst, hll, hmem⟩ := HS.out k l hl2.out
      have zL : (bs l).size = l.length := bs_size l
      have HLg := Lib.hid (HLong.out (k + 1))
      have HN := Lib.hid (HNo.out l hmem)
      have HN2 : Hid ((10 : UInt8) ∉ l → ∀ x ∈ xs.take (k + 1), (10 : UInt8) ∉ x) := fun h10 x hx => by
        rw [List.take_add_one, hl2.out] at hx
        rcases List.mem_append.1 hx with hx | hx
        · exact hno.out x hx
        · simp at hx; subst hx; exact h10
      have HGet : Hid (∀ j (hj : j < (bs l).size), l[j]? = some ((bs l)[j]'hj)) := fun j hj => get_byte (bs l) j hj
      obtain ⟨s, hs⟩ : ∃ s, s = bs l := ⟨_, rfl⟩
      rw [← hs] at hc zL
      have HGet2 : Hid (∀ j (hj : j < s.size), l[j]? = some (s[j]'hj)) := by subst hs; exact HGet.out
      have HT := Lib.hid hst
      generalize jmin (xs.take k) = t at *
      obtain ⟨t2, ht2⟩ : ∃ t2, t2 = jmin (xs.take (k + 1)) := ⟨_, rfl⟩
      rw [← ht2] at HLg hst
      have Ht2 := Lib.hid ht2
      clear hs HGet hl2 hno hmem HT ht2
      have et : (t : Int) + ((s.size : Int) + 3) = (t2 : Int) := by omega
      by_cases hbig : 16000 < t2
      · have HF := Lib.hid (HLg.out hbig)
        have hbi : (16000 : Int) < (t2 : Int) := by omega
        go_wp2_with fail
        go_ret2
        rw [HF.out]
        exact ⟨rfl, Below.refl _ _⟩
      · have hbi : ¬ (16000 : Int) < (t2 : Int) := by omega
        go_wp2_with fail
        go_loop [6] (fun jv => ∃ j : Nat, j ≤ s.size ∧ jv = .int .i64 j ∧ Hid (∀ i (hi : i < s.size), i < j → s[i]'hi ≠ 10)) (fun jv => s.size - (intOf jv).toNat)
        case atStart => exact ⟨0, Nat.zero_le _, rfl, fun i _ h => by omega⟩
        case round =>
          obtain ⟨j, hj, rfl, hno2⟩ := hrel
          have j0 : (0 : Int) ≤ (j : Int) := Int.natCast_nonneg _
          by_cases hlj : j < s.size
          · have j1 : (j : Int) < (s.size : Int) := by omega
            by_cases h10 : s[j] = 10
            · have HF := Lib.hid (HN.out (List.mem_of_getElem? (by rw [HGet2.out j hlj, h10])))
              have h10i : ((s[j].toNat : Int) == 10) = true := by rw [h10]; rfl
              clear h10
              go_wp2_with fail
              go_ret2
              rw [HF.out]
              exact ⟨rfl, Below.refl _ _⟩
            · have h10i : ((s[j].toNat : Int) == 10) = false := by
                rw [beq_eq_false_iff_ne]
                intro e
                exact h10 (UInt8.toNat_inj.1 (by have : s[j].toNat = 10 := by omega
                                                 rw [this]; rfl))
              have hno3 : Hid (∀ i (hi : i < s.size), i < j + 1 → s[i]'hi ≠ 10) := fun i hi h => by
                by_cases h2 : i < j
                · exact hno2.out i hi h2
                · obtain rfl : i = j := by omega
                  exact h10
              clear h10 hno2
              go_wp2_with fail
              go_round
              case rel => exact ⟨j + 1, by omega, by go_num, hno3⟩
              case measure => simp [intOf]; omega
          · obtain rfl : j = s.size := by omega
            have HN3 := Lib.hid (HN2.out (fun hm => by
              obtain ⟨i, hi, e⟩ := List.getElem_of_mem hm
              have hi2 : i < s.size := by omega
              have e2 := HGet2.out i hi2
              rw [List.getElem?_eq_getElem hi, e] at e2
              injection e2 with e2
              exact hno2.out i hi2 hi2 e2.symm))
            go_wp2_with fail
            go_round
            case rel => exact ⟨k + 1, by omega, by go_num, by rw [← Ht2.out]; first | rfl | go_num | (rw [← et]), by rw [← Ht2.out]; omega, HN3⟩
            case measure => simp [intOf]; omega
    · obtain rfl : k = xs.length := by omega
      have HE : Hid (xs.take xs.length = xs) := List.take_length
      rw [HE.out] at htl hno
      have LJ := Lib.hid (HJ.out htl)
      have hz := HZ.out htl
      have zO : (bs (jst xs).2).size = (jst xs).2.length := bs_size _
      by_cases hlong : 16000 < (jst xs).2.length
      · have HF := Lib.hid (HLong2.out hlong)
        have hli : (16000 : Int) < ((bs (jst xs).2).size : Int) := by omega
        clear hno htl
        go_wp2_with fail
        refine LJ.out.mono ?_
        rintro e w5 ⟨rfl, hb5⟩
        go_wp2_with fail
        go_ret2
        rw [HF.out]
        exact ⟨rfl, hb5⟩
      · have HF := Lib.hid (HYes.out hno.out (by omega))
        have hli : ¬ (16000 : Int) < ((bs (jst xs).2).size : Int) := by omega
        clear hno htl
        go_wp2_with fail
        refine LJ.out.mono ?_
        rintro e w5 ⟨rfl, hb5⟩
        go_wp2_with fail
        go_ret2
        rw [HF.out]
        exact ⟨rfl, hb5⟩
end Go.Proofs.YtiimhpopcgiejaaDoor
