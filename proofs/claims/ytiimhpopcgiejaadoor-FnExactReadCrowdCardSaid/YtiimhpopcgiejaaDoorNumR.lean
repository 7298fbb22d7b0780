/-
  The reference's number of a text.
-/
import Derived.Test.YtiimhpopcgiejaaDoorNumP
import Derived.Test.YtiimhpopcgiejaaDoorNames
import Derived.Test.YtiimhpopcgiejaaDoorCut
import Derived.Deep.RegionHeld3
import Derived.Deep.RegionHeldLaw
namespace Go.Proofs.YtiimhpopcgiejaaDoor
set_option linter.unusedVariables false
set_option linter.unusedSimpArgs false
open Go.RowKit

set_option maxRecDepth 200000 in
set_option maxHeartbeats 8000000 in
theorem l01Value_any (w : World) (s : ByteArray) (hs : s.size ≤ 1048576) :
    Calls Tryd.prog 93 #[.string s] w fun e w' => e = .returned (.tuple #[.int .i64 ((valF s.data.toList).getD 0), .bool (valF s.data.toList).isSome]) ∧ Below w.heap.size w w' := by
  have hz : s.size = s.data.toList.length := Lib.size_eq s
  have s0 : (0 : Int) ≤ (s.size : Int) := Int.natCast_nonneg _
  by_cases h1 : s.size < 1
  · have hn := valF_len (l := s.data.toList) (.inl (by omega))
    rw [hn]
    have h1' : (s.size : Int) < 1 := by omega
    clear hn hz
    go_enter Tryd.func93, Tryd.ntmps93
    go_wp2_with fail
    go_ret2
    exact ⟨rfl, Below.refl _ _⟩
  by_cases h2 : 17 < s.size
  · have hn := valF_len (l := s.data.toList) (.inr (by omega))
    rw [hn]
    have h1' : ¬ (s.size : Int) < 1 := by omega
    have h2' : (17 : Int) < (s.size : Int) := by omega
    clear hn hz
    go_enter Tryd.func93, Tryd.ntmps93
    go_wp2_with fail
    go_ret2
    exact ⟨rfl, Below.refl _ _⟩
  have h1' : ¬ (s.size : Int) < 1 := by omega
  have h2' : ¬ (17 : Int) < (s.size : Int) := by omega
  obtain ⟨l, hl⟩ : ∃ l, l = s.data.toList := ⟨_, rfl⟩
  rw [← hl] at hz ⊢
  have HGET : Hid (∀ k (hk : k < s.size), l[k]? = some s[k]) := fun k hk => by
    have hk2 : k < s.data.toList.length := by rw [← Lib.size_eq]; exact hk
    rw [hl, List.getElem?_eq_getElem hk2]; rfl
  have HB := Lib.hid (fun k => digN_small (l := l) (by omega) k)
  have HST : Hid (∀ k (hk : k < s.size), digN (l.take (k + 1)) = digS (digN (l.take k)) s[k]) := fun k hk => digN_take (HGET.out k hk)
  have HALL : Hid (digN (l.take s.size) = digN l) := by rw [Hid, hz, List.take_length]
  have HV : Hid (valF l = if -bigM ≤ nOf l ∧ nOf l ≤ bigM ∧ Lib.itoa (nOf l) = l then some (nOf l) else none) := rfl
  have HN : Hid (nOf l = if l[0]? = some 45 then - digN l else digN l) := rfl
  have HS : Hid (bs l = s) := by rw [hl]; exact bs_of s
  have HLV := Lib.hid (fun v n => l00In_any n (-1000000000000000) 1000000000000000 v)
  have HLD := Lib.hid (fun v n h0 h1 => l01Dec_any v n h0 h1)
  clear hl hz
  go_enter Tryd.func93, Tryd.ntmps93
  go_wp2_with fail
  go_loop [4, 5] (fun nv iv => ∃ k : Nat, k ≤ s.size ∧ iv = .int .i64 k ∧ nv = .int .i64 (digN (l.take k))) (fun _ iv => s.size - (intOf iv).toNat)
  case atStart => exact ⟨0, Nat.zero_le _, rfl, rfl⟩
  case round =>
    obtain ⟨k, hk, rfl, rfl⟩ := hrel
    have k0 : (0 : Int) ≤ (k : Int) := Int.natCast_nonneg _
    obtain ⟨d0, d1⟩ := HB.out k
    by_cases hlt : k < s.size
    · have k1 : (k : Int) < (s.size : Int) := by omega
      have hst := HST.out k hlt
      unfold digS at hst
      have t0 : (0 : Int) ≤ (s[k].toNat : Int) := Int.natCast_nonneg _
      by_cases hd : 48 ≤ s[k].toNat ∧ s[k].toNat ≤ 57
      · rw [if_pos hd] at hst
        have HD := Lib.hid hst
        have e1 : (48 : Int) ≤ (s[k].toNat : Int) := by omega
        have e2 : (s[k].toNat : Int) ≤ 57 := by omega
        clear hst hd
        generalize digN (l.take k) = n at *
        go_wp2_with fail
        go_round
        case rel => exact ⟨k + 1, by omega, by go_num, by rw [HD.out]⟩
        case measure => simp [intOf]; omega
      · rw [if_neg hd] at hst
        have HD := Lib.hid hst
        clear hst
        by_cases e1 : (48 : Int) ≤ (s[k].toNat : Int)
        · have e2 : ¬ (s[k].toNat : Int) ≤ 57 := by omega
          clear hd
          go_wp2_with fail
          go_round
          case rel => exact ⟨k + 1, by omega, by go_num, by rw [HD.out]⟩
          case measure => simp [intOf]; omega
        · clear hd
          go_wp2_with fail
          go_round
          case rel => exact ⟨k + 1, by omega, by go_num, by rw [HD.out]⟩
          case measure => simp [intOf]; omega
    · obtain rfl : k = s.size := by omega
      have hg0 := HGET.out 0 (by omega)
      have hp0 : 0 < s.size := by omega
      rw [HALL.out] at d0 d1 ⊢
      generalize digN l = D at *
      by_cases h45 : s[0] = 45
      · have hb2 : ((s[0].toNat : Int) == ((45 : UInt8).toNat : Int)) = true := by rw [beq_byte]; exact decide_eq_true h45
        have hb3 : ((s[0].toNat : Int) == 45) = true := hb2
        have HNq : Hid (nOf l = -D) := by rw [Hid, HN.out, if_pos (by rw [hg0, h45])]
        clear hg0 h45 hlt HN
        have hD0 : -100000000000000000 ≤ -D := by omega
        have hD1 : -D ≤ 100000000000000000 := by omega
        have hD2 : -9223372036854775808 ≤ -D := by omega
        have hD3 : -D ≤ 9223372036854775807 := by omega
        have LV1 := Lib.hid (HLV.out w (-D))
        cases hin : inB (-D) (-1000000000000000) 1000000000000000 with
        | false =>
          have HR : Hid (valF l = none) := by
            rw [Hid, HV.out, HNq.out, if_neg]
            rintro ⟨a1, a2, _⟩
            have h9 := (inB_iff (lo := -1000000000000000) (hi := 1000000000000000)).2 ⟨a1, a2⟩
            rw [h9] at hin
            cases hin
          rw [hin] at LV1
          clear hin
          go_wp2_with fail
          refine LV1.out.mono ?_
          rintro e w' ⟨rfl, rfl⟩
          go_wp2_with fail
          go_ret2
          rw [HR.out]
          exact ⟨rfl, Below.refl _ _⟩
        | true =>
          obtain ⟨i0, i1⟩ := inB_iff.1 hin
          rw [hin] at LV1
          have LD1 := Lib.hid (HLD.out w (-D) hD2 hD3)
          by_cases he : Lib.itoa (-D) = l
          · have HR : Hid (valF l = some (-D)) := by
              rw [Hid, HV.out, HNq.out, if_pos ⟨i0, i1, he⟩]
            rw [he, HS.out] at LD1
            clear hin he
            go_wp2_with fail
            refine LV1.out.mono ?_
            rintro e w' ⟨rfl, rfl⟩
            go_wp2_with fail
            refine LD1.out.mono ?_
            rintro e w2 ⟨rfl, hb2⟩
            go_wp2_with fail
            go_ret2
            rw [HR.out]
            exact ⟨rfl, hb2⟩
          · have HR : Hid (valF l = none) := by
              rw [Hid, HV.out, HNq.out, if_neg]
              rintro ⟨_, _, a3⟩
              exact he a3
            have hbl : ((bs (Lib.itoa (-D))).toList == s.toList) = false := by rw [bs_toList, Lib.toList_data, Bool.eq_false_iff]; intro h; have h := eq_of_beq h; rw [← HS.out] at h; exact he h
            generalize bs (Lib.itoa (-D)) = DS at *
            clear hin he
            go_wp2_with fail
            refine LV1.out.mono ?_
            rintro e w' ⟨rfl, rfl⟩
            go_wp2_with fail
            refine LD1.out.mono ?_
            rintro e w2 ⟨rfl, hb2⟩
            go_wp2_with fail
            go_ret2
            rw [HR.out]
            exact ⟨rfl, hb2⟩
      · have hb2 : ((s[0].toNat : Int) == ((45 : UInt8).toNat : Int)) = false := by rw [beq_byte]; exact decide_eq_false h45
        have hb3 : ((s[0].toNat : Int) == 45) = false := hb2
        have HNq : Hid (nOf l = D) := by rw [Hid, HN.out, if_neg (by rw [hg0]; intro e; injection e with e; exact h45 e)]
        clear hg0 h45 hlt HN
        have hD0 : -100000000000000000 ≤ D := by omega
        have hD1 : D ≤ 100000000000000000 := by omega
        have hD2 : -9223372036854775808 ≤ D := by omega
        have hD3 : D ≤ 9223372036854775807 := by omega
        have LV1 := Lib.hid (HLV.out w (D))
        cases hin : inB (D) (-1000000000000000) 1000000000000000 with
        | false =>
          have HR : Hid (valF l = none) := by
            rw [Hid, HV.out, HNq.out, if_neg]
            rintro ⟨a1, a2, _⟩
            have h9 := (inB_iff (lo := -1000000000000000) (hi := 1000000000000000)).2 ⟨a1, a2⟩
            rw [h9] at hin
            cases hin
          rw [hin] at LV1
          clear hin
          go_wp2_with fail
          refine LV1.out.mono ?_
          rintro e w' ⟨rfl, rfl⟩
          go_wp2_with fail
          go_ret2
          rw [HR.out]
          exact ⟨rfl, Below.refl _ _⟩
        | true =>
          obtain ⟨i0, i1⟩ := inB_iff.1 hin
          rw [hin] at LV1
          have LD1 := Lib.hid (HLD.out w (D) hD2 hD3)
          by_cases he : Lib.itoa (D) = l
          · have HR : Hid (valF l = some (D)) := by
              rw [Hid, HV.out, HNq.out, if_pos ⟨i0, i1, he⟩]
            rw [he, HS.out] at LD1
            clear hin he
            go_wp2_with fail
            refine LV1.out.mono ?_
            rintro e w' ⟨rfl, rfl⟩
            go_wp2_with fail
            refine LD1.out.mono ?_
            rintro e w2 ⟨rfl, hb2⟩
            go_wp2_with fail
            go_ret2
            rw [HR.out]
            exact ⟨rfl, hb2⟩
          · have HR : Hid (valF l = none) := by
              rw [Hid, HV.out, HNq.out, if_neg]
              rintro ⟨_, _, a3⟩
              exact he a3
            have hbl : ((bs (Lib.itoa (D))).toList == s.toList) = false := by rw [bs_toList, Lib.toList_data, Bool.eq_false_iff]; intro h; have h := eq_of_beq h; rw [← HS.out] at h; exact he h
            generalize bs (Lib.itoa (D)) = DS at *
            clear hin he
            go_wp2_with fail
            refine LV1.out.mono ?_
            rintro e w' ⟨rfl, rfl⟩
            go_wp2_with fail
            refine LD1.out.mono ?_
            rintro e w2 ⟨rfl, hb2⟩
            go_wp2_with fail
            go_ret2
            rw [HR.out]
            exact ⟨rfl, hb2⟩
end Go.Proofs.YtiimhpopcgiejaaDoor
