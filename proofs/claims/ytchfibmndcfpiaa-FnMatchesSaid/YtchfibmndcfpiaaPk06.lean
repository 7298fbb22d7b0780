/-
  Part 6 of what the proof stands on: lemmas and contracts, each with its conditions ahead of the colon.
-/
import Derived.Deep.RegionHeld3
import Derived.WalkKit
import Derived.Test.YtchfibmndcfpiaaRows
import Derived.OpenShut
import Derived.ChangeAt
import Derived.Test.YtchfibmndcfpiaaPk01
import Derived.Test.YtchfibmndcfpiaaPk03
import Derived.Test.YtchfibmndcfpiaaPk05
namespace Go.Proofs.Ytchfibmndcfpiaa
set_option linter.unusedVariables false
set_option linter.unusedSimpArgs false
open Go.RowKit

def cntL (m : List Int) (n t : Nat) : List Int := (List.range n).map fun k => ((hasN m k t).length : Int)
theorem cntL_len (m : List Int) (n t : Nat) : (cntL m n t).length = n := by simp [cntL]
theorem cntL_zero (m : List Int) (n : Nat) : cntL m n 0 = List.replicate n 0 := by
  apply List.ext_getElem
  · simp [cntL]
  · intro i h1 h2; simp [cntL, hasN]
theorem cntL_get {m : List Int} {n t k : Nat} (h : k < n) : (cntL m n t)[k]? = some ((hasN m k t).length : Int) := by simp [cntL, h]
theorem cntL_skip {m : List Int} {n t : Nat} (h : m.getD t 0 < 0) : cntL m n (t + 1) = cntL m n t :=
  List.map_congr_left fun k _ => by rw [hasN, if_neg (by omega)]
theorem cntL_set {m : List Int} {n t k : Nat} (h : m.getD t 0 = (k : Int)) : cntL m n (t + 1) = (cntL m n t).set k ((hasN m k t).length + 1) := by
  apply List.ext_getElem
  · simp [cntL]
  · intro j h1 h2
    have hj : j < n := by simpa [cntL] using h1
    rw [List.getElem_set]
    split
    case isTrue e =>
      subst e
      simp only [cntL, List.getElem_map, List.getElem_range]
      rw [hasN, if_pos h]; simp
    case isFalse e =>
      simp only [cntL, List.getElem_map, List.getElem_range]
      rw [hasN, if_neg (by omega)]
theorem rall_step {p : Nat → Bool} {t : Nat} (h : (List.range t).all p = true) (h2 : p t = true) : (List.range (t + 1)).all p = true := by
  rw [List.range_succ, List.all_append, h]; simp [h2]
theorem rany_step (p : Nat → Bool) (t : Nat) : (List.range (t + 1)).any p = ((List.range t).any p || p t) := by
  rw [List.range_succ, List.any_append]; simp
set_option maxRecDepth 10000 in
set_option maxHeartbeats 8000000 in
theorem schoolR_any (w : World) (a0 : Option Addr) (c0 : Nat) (x0 : List (List Int)) (a1 : Option Addr) (c1 : Nat) (x1 : List (List Int)) (as' : Option Addr) (cs : Nat) (s : List Int) (a : Option Addr) (c : Nat) (m : List Int) (h : RdWishes w w.heap.size a0 x0 a1 x1) (hl0 : x0.length ≤ 1048576) (hin0 : ∀ y ∈ x0, y.length ≤ 1048576) (hl1 : x1.length ≤ 1048576) (hin1 : ∀ y ∈ x1, y.length ≤ 1048576)
    (gs : Rd w w.heap.size as' (ints s)) (hls : s.length ≤ 1048576) (g : Rd w w.heap.size a (ints m)) (hl : m.length ≤ 1048576) :
    Calls Try.prog 25 #[.agg #[.slice a0 x0.length c0, .slice a1 x1.length c1], .slice as' s.length cs, .slice a m.length c] w fun e w' => e = .returned (.tuple #[.int .i64 (bA (schoolF ⟨x0, x1⟩ s m)), .int .i64 (bZ (schoolF ⟨x0, x1⟩ s m)), .bool (schoolF ⟨x0, x1⟩ s m).isSome]) ∧ Below w.heap.size w w' := by
  have X0 : Bx w (w.alloc (.cells #[.slice a0 x0.length c0, .slice a1 x1.length c1] 27)) [.slice a0 x0.length c0, .slice a1 x1.length c1] 27 := Bx.start w _ _
  have LS := Lib.hid (fun w' hb hc0 hc1 => l05Seats_any w' w.heap.size 0 a0 c0 x0 a1 c1 x1 hc0 hc1 as' cs s (h.to hb) hl0 hin0 hl1 hin1 (gs.to hb) hls)
  cases t1 : seatsB ⟨x0, x1⟩ s with
  | false =>
    rw [school_no1 t1]
    rw [t1] at LS
    clear h g gs hin0 hin1 t1
    go_enter Try.func25, Try.ntmps25
    go_wp2_with fail
    refine (LS.out _ X0.1 X0.two.1 X0.two.2).mono ?_
    rintro e w1 ⟨rfl, q, rfl⟩
    go_wp2_with fail
    go_ret3
    exact ⟨rfl, below_drewN X0.1 q⟩
  | true =>
  rw [t1] at LS
  by_cases hml : m.length = x0.length
  case neg =>
    rw [school_no2 (partners_len hml)]
    have hne : ((m.length : Int) != (x0.length : Int)) = true := by simp; omega
    clear h g gs hin0 hin1 t1 hml
    go_enter Try.func25, Try.ntmps25
    go_wp2_with fail
    refine (LS.out _ X0.1 X0.two.1 X0.two.2).mono ?_
    rintro e w1 ⟨rfl, q, rfl⟩
    have X1 := X0.drewN q
    obtain ⟨q0, q1⟩ := X1.two
    go_wp2_with fail
    go_ret3
    exact ⟨rfl, X1.1⟩
  have hv : Wish ⟨x0, x1⟩ := wish_of (Bool.and_eq_true _ _ ▸ t1 : wishB ⟨x0, x1⟩ = true ∧ _).1
  have hsm : manyB s x0.length x0.length 0 8 = true := (Bool.and_eq_true _ _ ▸ t1 : wishB ⟨x0, x1⟩ = true ∧ manyB s x0.length x0.length 0 8 = true).2
  have hsl : s.length = x0.length := by have := (manyB_iff.1 hsm).1; omega
  have hne : ((m.length : Int) != (x0.length : Int)) = false := by simp; omega
  have h8 := hv.n8
  simp only at h8
  have hln := Lib.hid hv.len
  simp only at hln
  have Hm : Hid (m.length = x0.length) := hml
  have Hs : Hid (s.length = x0.length) := hsl
  have G := Lib.hid g
  have GS := Lib.hid gs
  have hm8 : m.length ≤ 8 := by omega
  have HNO : Hid (∀ t, t < m.length → partR ⟨x0, x1⟩ m t = false → schoolF ⟨x0, x1⟩ s m = none) := fun t ht hp => school_no2 (by rw [partners_eqR hml]; exact rangeAll_false ht hp)
  have HYES : Hid ((List.range m.length).all (partR ⟨x0, x1⟩ m) = true → partnersB ⟨x0, x1⟩ m = true) := fun hh => by rw [partners_eqR hml]; exact hh
  have LP : Hid (∀ (w' : World) (i k : Nat), Below w.heap.size w w' → i < m.length → k < m.length → w'.cell? ⟨w.heap.size, 0, none⟩ = some (.slice a0 x0.length c0) → w'.cell? ⟨w.heap.size, 1, none⟩ = some (.slice a1 x1.length c1) → _) := fun w' i k hb hi hk e0 e1 => l05Pair_any w' w.heap.size 0 a0 c0 x0 a1 c1 x1 e0 e1 (h.to hb) hin0 hin1 i k (by omega) (by rw [hln.out]; omega)
  have LD := Lib.hid (fun w' a c ys x y => l05Dearer_any w' a c ys x y)
  have LX := Lib.hid (fun x v => l00In_any x 0 ((m.length : Int) - 1) v)
  have Hh := Lib.hid h
  have Hin0 := Lib.hid hin0
  have Hin1 := Lib.hid hin1
  have Hv := Lib.hid hv
  have T1 := Lib.hid t1
  clear h g gs hin0 hin1 t1 hml hsl hsm hv
  go_enter Try.func25, Try.ntmps25
  go_wp2_with fail
  refine (LS.out _ X0.1 X0.two.1 X0.two.2).mono ?_
  rintro e w1 ⟨rfl, q, hq⟩
  have X1 : Bx w w1 [.slice a0 x0.length c0, .slice a1 x1.length c1] 27 := by rw [hq]; exact X0.drewN q
  have hx1 := X1.lt
  obtain ⟨q0, q1⟩ := X1.two
  clear hq X0
  go_wp2_with (at_make; refine wpList_make_blk _ rfl _ _ 31 rfl 2 (.int .i64 0) 8 Try.underlying31 info_i64p rfl _ _ m.length rfl rfl (by omega) (by unfold maxLen; omega) ?_)
  intro w2 hb2 hw2 hs2
  have X2 := X1.next hw2
  have HB0 : Blk w2 w1.heap.size (ints (cntL m m.length 0)) 2 := by rw [cntL_zero, ← ints_replicate]; exact hb2
  clear hb2 hw2 X1 q0 q1
  go_wp2_with fail
  go_loopw [34] (fun tv wr => ∃ t : Nat, t ≤ m.length ∧ tv = .int .i64 t ∧ Hid ((List.range t).all (partR ⟨x0, x1⟩ m) = true) ∧ Blk wr w1.heap.size (ints (cntL m m.length t)) 2 ∧ Bx w wr [.slice a0 x0.length c0, .slice a1 x1.length c1] 27) (fun tv _ => m.length - (intOf tv).toNat)
  case atStart => exact ⟨0, Nat.zero_le _, rfl, rfl, HB0, X2⟩
  case round =>
    clear HB0 X2
    obtain ⟨t, ht, rfl, hall, hB, X⟩ := hrel
    by_cases hlt : t < m.length
    · obtain ⟨b4, o4, x, rfl, hb4, hc4, hx4⟩ := G.out.get hlt
      have d4 := (X.1.cell (p := ⟨b4, o4 + t, none⟩) hb4).trans hc4
      have hgd := Lib.hid (getD_of_get hx4.out)
      have i0 : (0 : Int) ≤ (t : Int) := Int.natCast_nonneg _
      have i1 : (t : Int) < (m.length : Int) := by omega
      have hpr : Hid (partR ⟨x0, x1⟩ m t = (decide (x = -1) || (inB x 0 ((m.length : Int) - 1) && pairB ⟨x0, x1⟩ t x.toNat))) := by unfold partR; rw [hgd.out]; rfl
      by_cases hx1' : x = -1
      · subst hx1'
        have HA : Hid ((List.range (t + 1)).all (partR ⟨x0, x1⟩ m) = true) := rall_step hall.out (by rw [hpr.out]; rfl)
        have HB1 : Blk wr w1.heap.size (ints (cntL m m.length (t + 1))) 2 := by rw [cntL_skip (by rw [hgd.out]; omega)]; exact hB
        clear hall hB hpr hgd hc4
        go_wp2_with fail
        go_roundw
        case rel => exact ⟨t + 1, by omega, by go_num, HA, HB1, X⟩
        case measure => simp [intOf]; omega
      · have hne1 : (x == -1) = false := by simpa using hx1'
        have LX1 := Lib.hid (LX.out x)
        cases hin : inB x 0 ((m.length : Int) - 1) with
        | false =>
          have HB := Lib.hid (HNO.out t hlt (by rw [hpr.out, hin, decide_eq_false hx1']; rfl))
          rw [hin] at LX1
          have hb := X.1
          clear hall hB hpr hgd hc4 hx1' X
          go_wp2_with (go_at_call 64; refine (LX1.out _).mono ?_; rintro e w' ⟨rfl, rfl⟩)
          go_ret3
          exact ⟨by rw [HB.out]; rfl, hb⟩
        | true =>
          rw [hin] at LX1
          obtain ⟨hx0, hx9⟩ := inB_iff.1 hin
          obtain ⟨k, rfl⟩ : ∃ k : Nat, x = k := ⟨x.toNat, by omega⟩
          have hk : k < m.length := by omega
          obtain ⟨q0, q1⟩ := X.two
          have LP1 := Lib.hid (LP.out wr t k X.1 hlt hk q0 q1)
          cases t3 : pairB ⟨x0, x1⟩ t k with
          | false =>
            have HB := Lib.hid (HNO.out t hlt (by rw [hpr.out, decide_eq_false hx1', Int.toNat_natCast, t3, Bool.and_false]; rfl))
            rw [t3] at LP1
            have hb := X.1
            clear hall hB hpr hgd hc4 hx1' X hin hx0 hx9 q0 q1
            go_wp2_with (first | (go_at_call 64; refine (LX1.out _).mono ?_; rintro e w' ⟨rfl, rfl⟩) | (go_at_call 65; refine LP1.out.mono ?_; rintro e w' ⟨rfl, rfl⟩))
            go_ret3
            exact ⟨by rw [HB.out]; rfl, hb⟩
          | true =>
            rw [t3] at LP1
            have HA : Hid ((List.range (t + 1)).all (partR ⟨x0, x1⟩ m) = true) := rall_step hall.out (by rw [hpr.out, hin, Int.toNat_natCast, t3]; simp)
            have ck : wr.cell? ⟨w1.heap.size, k, none⟩ = some (.int .i64 ((hasN m k t).length : Int)) := by
              rw [hB.cell]; simp only [ints, List.getElem?_map, cntL_get hk, Option.map_some]
            have fk := hB.free k
            have HS := Lib.hid (hB.setI k ((hasN m k t).length + 1))
            rw [← cntL_set hgd.out] at HS
            have hnl := hasN_len m k t
            generalize (hasN m k t).length = ln at *
            have X5 := X.far (below_sto (Below.refl w1.heap.size wr) (g := w1.heap.size) (Nat.le_refl _) k (.int .i64 ((ln : Int) + 1))) (by omega)
            have k0 : (0 : Int) ≤ (k : Int) := Int.natCast_nonneg _
            have k1 : (k : Int) < (m.length : Int) := by omega
            have HL := Lib.hid (cntL_len m m.length t)
            clear hall hB hpr hgd hc4 hx1' X hin hx0 hx9 q0 q1
            go_wp2_with (first | (go_at_call 64; refine (LX1.out _).mono ?_; rintro e w' ⟨rfl, rfl⟩) | (go_at_call 65; refine LP1.out.mono ?_; rintro e w' ⟨rfl, rfl⟩))
            go_roundw
            case rel => exact ⟨t + 1, by omega, by go_num, HA, HS.out, X5⟩
            case measure => simp [intOf]; omega
    · have htm : t = m.length := by omega
      subst htm
      have HP := Lib.hid (HYES.out hall.out)
      obtain ⟨w5, hw5⟩ : ∃ W : World, W = wr := ⟨_, rfl⟩
      subst hw5
      have HC : Hid (∀ k, k < m.length → ∀ z : Later w5, z.w'.cell? ⟨w1.heap.size, k, none⟩ = some (.int .i64 ((hasL m k).length : Int))) := fun k hk z => z.cell hB.lt (by rw [hB.cell]; simp only [ints, List.getElem?_map, cntL_get hk, Option.map_some, hasL])
      have HSE : Hid (∀ k, k < m.length → ∃ b5 o5 y, as' = some ⟨b5, o5, none⟩ ∧ (∀ z : Later w5, z.w'.cell? ⟨b5, o5 + k, none⟩ = some (.int .i64 y)) ∧ Hid (s[k]? = some y)) := fun k hk => by
        obtain ⟨b5, o5, y, e5, hb5, hc5, hy5⟩ := GS.out.get (k := k) (by rw [Hs.out, ← Hm.out]; exact hk)
        exact ⟨b5, o5, y, e5, fun z => ((below_then X.1 z.h).cell (p := ⟨b5, o5 + k, none⟩) hb5).trans hc5, hy5⟩
      have HFull : Hid (∀ k, k < m.length → ¬ ((hasL m k).length : Int) ≤ s.getD k 0 → schoolF ⟨x0, x1⟩ s m = none) := fun k hk hh => school_no3 (rangeAll_false (n := x0.length) (by rw [← Hm.out]; exact hk) (decide_eq_false hh))
      have HLL := Lib.hid (cntL_len m m.length m.length)
      clear hB hall
      go_wp2_with fail
      go_loopw [71] (fun kv wr => ∃ k : Nat, k ≤ m.length ∧ kv = .int .i64 k ∧ Hid (∀ j, j < k → ((hasL m j).length : Int) ≤ s.getD j 0) ∧ Below w5.heap.size w5 wr) (fun kv _ => m.length - (intOf kv).toNat)
      case atStart => exact ⟨0, Nat.zero_le _, rfl, fun _ hj => by omega, Below.refl _ _⟩
      case round =>
        obtain ⟨k, hk, rfl, hle, hw5⟩ := hrel
        by_cases hlk : k < m.length
        · have c1' := HC.out k hlk
          obtain ⟨b5, o5, y, rfl, c2', hy5⟩ := HSE.out k hlk
          have F1 : ∀ z : Later wr, z.w'.cell? ⟨w1.heap.size, k, none⟩ = some (.int .i64 ((hasL m k).length : Int)) := fun z => c1' ⟨z.w', below_then hw5 z.h⟩
          have F2 : ∀ z : Later wr, z.w'.cell? ⟨b5, o5 + k, none⟩ = some (.int .i64 y) := fun z => c2' ⟨z.w', below_then hw5 z.h⟩
          have hgd := Lib.hid (getD_of_get hy5.out)
          have HF1 := Lib.hid (HFull.out k hlk)
          rw [hgd.out] at HF1
          have HL1 : Hid (((hasL m k).length : Int) ≤ y → ∀ j, j < k + 1 → ((hasL m j).length : Int) ≤ s.getD j 0) := fun hh j hj => by
            by_cases e : j = k
            · subst e; rw [hgd.out]; exact hh
            · exact hle.out j (by omega)
          have k0 : (0 : Int) ≤ (k : Int) := Int.natCast_nonneg _
          have k1 : (k : Int) < (m.length : Int) := by omega
          have k2 : (k : Int) < (s.length : Int) := by rw [Hs.out, ← Hm.out]; omega
          generalize (hasL m k).length = ln at *
          clear hgd hle c1' c2'
          by_cases hc : (ln : Int) ≤ y
          · have HL2 := Lib.hid (HL1.out hc)
            have hgt : ¬ (y < (ln : Int)) := by omega
            go_wp2_with fail
            refine wp_region_later (by kernel_rfl) (by kernel_rfl) ?_
            repeat (go_big_quiet_step (fail))
            refine wpQuiet_nil ?_
            rintro wq ⟨⟨_, hbq⟩, rfl⟩
            clear F1 F2
            have hw5' := below_then hw5 hbq
            go_wp2_with fail
            go_roundw
            case rel => exact ⟨k + 1, by omega, by go_num, HL2, hw5'⟩
            case measure => simp [intOf]; omega
          · have HF2 := Lib.hid (HF1.out (by omega))
            have hgt : (y < (ln : Int)) := by omega
            go_wp2_with fail
            refine wp_region_later (by kernel_rfl) (by kernel_rfl) ?_
            repeat (go_big_quiet_step (fail))
            refine wpQuiet_nil ?_
            rintro wq ⟨⟨_, hbq⟩, rfl⟩
            clear F1 F2
            have hwf := below_then X.1 (below_then hw5 hbq)
            go_wp2_with fail
            go_ret3
            rw [HF2.out]
            exact ⟨rfl, hwf⟩
        · have hkk : k = m.length := by omega
          subst hkk
          have hfull : fullB ⟨x0, x1⟩ s m = true := List.all_eq_true.2 fun j hj => decide_eq_true (hle.out j (by rw [Hm.out]; exact List.mem_range.1 hj))
          have HSF : Hid (schoolF ⟨x0, x1⟩ s m = first2 m.length (sblocksR ⟨x0, x1⟩ s m)) := by
            rw [Hid, school_yes T1.out HP.out hfull, school_eqR Hv.out HP.out, Hm.out]
          have Hbl : Hid (∀ (i k : Nat) (ys zs : List Int) (x y : Int), i < m.length → k < m.length → x0[i]? = some ys → x1[k]? = some zs → m[i]? = some x → s[k]? = some y → sblocksR ⟨x0, x1⟩ s m i k = (pairB ⟨x0, x1⟩ i k && !(x == (k : Int)) && dearB ys k x && (decide (((hasL m k).length : Int) < y) || (List.range m.length).any (rivalB ⟨x0, x1⟩ m i k)))) := by
            intro i k ys zs x y _ _ e1 e2 e3 e4
            unfold sblocksR
            simp only [row_get e1, getD_of_get e3, getD_of_get e4]
            rfl
          have HH : Hid (∀ i k, i < m.length → k < m.length → sblocksR ⟨x0, x1⟩ s m i k = true → (∀ i' k', i' < i → k' < m.length → sblocksR ⟨x0, x1⟩ s m i' k' = false) → (∀ k', k' < k → sblocksR ⟨x0, x1⟩ s m i k' = false) → schoolF ⟨x0, x1⟩ s m = some (i, k)) := fun i k h1 h2 h3 h4 h5 => by rw [HSF.out]; exact first2_here h1 h2 h3 h4 h5
          have HZ : Hid ((∀ i k, i < m.length → k < m.length → sblocksR ⟨x0, x1⟩ s m i k = false) → schoolF ⟨x0, x1⟩ s m = none) := fun hh => by rw [HSF.out]; exact first2_none.2 hh
          generalize hbf : sblocksR ⟨x0, x1⟩ s m = bf at *
          clear hfull hle HSF hbf HFull HNO HYES
          go_wp2_with fail
          go_loopw [13] (fun iv wr => ∃ i : Nat, i ≤ m.length ∧ iv = .int .i64 i ∧ Hid (∀ i' k', i' < i → k' < m.length → bf i' k' = false) ∧ Below w5.heap.size w5 wr) (fun iv _ => m.length - (intOf iv).toNat)
          case atStart => exact ⟨0, Nat.zero_le _, rfl, fun _ _ h => by omega, hw5⟩
          case round =>
            clear hw5
            obtain ⟨i, hi, rfl, hrows, hw5⟩ := hrel
            by_cases hlt : i < m.length
            · go_wp2_with fail
              go_loopw [14] (fun kv wr => ∃ k : Nat, k ≤ m.length ∧ kv = .int .i64 k ∧ Hid (∀ k', k' < k → bf i k' = false) ∧ Below w5.heap.size w5 wr) (fun kv _ => m.length - (intOf kv).toNat)
              case atStart => exact ⟨0, Nat.zero_le _, rfl, fun _ h => by omega, hw5⟩
              case round =>
                clear hw5
                obtain ⟨k, hk, rfl, hcols, hw5⟩ := hrel
                by_cases hlk : k < m.length
                · obtain ⟨b2, o2, ys, a2, c2, e2, hb2, hc2, _, hr2, hy2⟩ := (Hh.out.1).get (k := i) (by rw [← Hm.out]; exact hlt)
                  obtain ⟨b3, o3, zs, a3, c3, e3, hb3, hc3, _, hr3, hy3⟩ := (Hh.out.2).get (k := k) (by rw [hln.out, ← Hm.out]; exact hlk)
                  obtain ⟨b4, o4, x, e4, hb4, hc4, hx4⟩ := G.out.get (k := i) hlt
                  obtain ⟨b5, o5, y, e5, hc5, hy5⟩ := HSE.out k hlk
                  subst e2 e3 e4 e5
                  have hWB : Hid (∀ w', Below wr.heap.size wr w' → Below w.heap.size w w') := fun w' hb => below_then X.1 (below_then hw5 hb)
                  have hW5 : Hid (∀ w', Below wr.heap.size wr w' → Below w5.heap.size w5 w') := fun w' hb => below_then hw5 hb
                  have hX : Hid (∀ w', Below wr.heap.size wr w' → Bx w w' [.slice (some ⟨b2, o2, none⟩) x0.length c0, .slice (some ⟨b3, o3, none⟩) x1.length c1] 27) := fun w' hb => X.next (below_then hw5 hb)
                  have c0' : Hid (∀ (p : Addr) (v : Value), p.block < w.heap.size → w.cell? p = some v → ∀ z : Later wr, z.w'.cell? p = some v) := fun p v hp hv z => ((hWB.out _ z.h).cell (p := p) hp).trans hv
                  have F0 : ∀ z : Later wr, z.w'.cell? ⟨w.heap.size, 0, none⟩ = some (.slice (some ⟨b2, o2, none⟩) x0.length c0) := fun z => (hX.out _ z.h).two.1
                  have F1 : ∀ z : Later wr, z.w'.cell? ⟨w.heap.size, 1, none⟩ = some (.slice (some ⟨b3, o3, none⟩) x1.length c1) := fun z => (hX.out _ z.h).two.2
                  have F2 := c0'.out ⟨b2, o2 + i, none⟩ _ hb2 hc2
                  have F3 := c0'.out ⟨b3, o3 + k, none⟩ _ hb3 hc3
                  have F4 := c0'.out ⟨b4, o4 + i, none⟩ _ hb4 hc4
                  have F5 : ∀ z : Later wr, z.w'.cell? ⟨b5, o5 + k, none⟩ = some (.int .i64 y) := fun z => hc5 ⟨z.w', hW5.out _ z.h⟩
                  have F6 : ∀ z : Later wr, z.w'.cell? ⟨w1.heap.size, k, none⟩ = some (.int .i64 ((hasL m k).length : Int)) := fun z => HC.out k hlk ⟨z.w', hW5.out _ z.h⟩
                  have LT1 : Hid (∀ w', Below wr.heap.size wr w' → _) := fun w' hb => LP.out w' i k (hWB.out w' hb) hlt hlk (hX.out _ hb).two.1 (hX.out _ hb).two.2
                  have LD1 : Hid (∀ w', Below wr.heap.size wr w' → _) := fun w' hb => LD.out w' a2 c2 ys k x (hr2.to (hWB.out w' hb)) (Hin0.out ys (List.mem_of_getElem? hy2.out))
                  have LD2 : Hid (∀ (w' : World) (t : Nat), Below wr.heap.size wr w' → _) := fun w' t hb => LD.out w' a3 c3 zs i t (hr3.to (hWB.out w' hb)) (Hin1.out zs (List.mem_of_getElem? hy3.out))
                  have hbl := Hbl.out i k ys zs x y hlt hlk hy2.out hy3.out hx4.out hy5.out
                  have HN : Hid (∀ w' : World, bf i k = false → Below wr.heap.size wr w' → ∃ k' : Nat, k' ≤ m.length ∧ (Value.int .i64 ((k : Int) + 1)) = .int .i64 k' ∧ Hid (∀ q, q < k' → bf i q = false) ∧ Below w5.heap.size w5 w') := fun w' hf hb =>
                    ⟨k + 1, by omega, by go_num, fun q hq => by
                      by_cases e : q = k
                      · subst e; exact hf
                      · exact hcols.out q (by omega), hW5.out w' hb⟩
                  have HR : Hid (bf i k = true → schoolF ⟨x0, x1⟩ s m = some (i, k)) := fun hf => HH.out i k hlt hlk hf hrows.out hcols.out
                  have HRV : Hid (∀ (t : Nat) (v : Int), m[t]? = some v → rivalB ⟨x0, x1⟩ m i k t = ((v == (k : Int)) && dearB zs i t)) := fun t v hv => by
                    unfold rivalB
                    simp only [getD_of_get hv, row_get hy3.out]
                    rfl
                  have i0 : (0 : Int) ≤ (i : Int) := Int.natCast_nonneg _
                  have k0 : (0 : Int) ≤ (k : Int) := Int.natCast_nonneg _
                  have i1 : (i : Int) < (m.length : Int) := by omega
                  have k1 : (k : Int) < (m.length : Int) := by omega
                  have i2 : (i : Int) < (x0.length : Int) := by rw [← Hm.out]; omega
                  have k2 : (k : Int) < (s.length : Int) := by rw [Hs.out, ← Hm.out]; omega
                  have k3 : (k : Int) < (x1.length : Int) := by rw [hln.out, ← Hm.out]; omega
                  generalize (hasL m k).length = ln at *
                  clear hc2 hc3 hc4 hc5 hr2 hr3 hy2 hy3 hx4 hy5 hcols hrows c0' hX hw5 X
                  cases t1 : pairB ⟨x0, x1⟩ i k with
                  | false =>
                    rw [t1] at LT1
                    rw [t1, Bool.false_and, Bool.false_and, Bool.false_and] at hbl
                    go_wp2_with fail
                    refine wp_region_later (by kernel_rfl) (by kernel_rfl) ?_
                    repeat (go_big_quiet_step ((go_at_call 65; exact later_same (LT1.out _ (Later.h _)))))
                    refine wpQuiet_nil ?_
                    rintro wq ⟨⟨_, hbq⟩, rfl⟩
                    clear F0 F1 F2 F3 F4 F5 F6
                    go_wp2_with fail
                    go_roundw
                    case rel => exact HN.out _ hbl hbq
                    case measure => simp [intOf]; omega
                  | true =>
                    rw [t1] at LT1
                    rw [t1, Bool.true_and] at hbl
                    cases t2 : (x == (k : Int)) with
                    | true =>
                      rw [t2, Bool.not_true, Bool.false_and, Bool.false_and] at hbl
                      go_wp2_with fail
                      refine wp_region_later (by kernel_rfl) (by kernel_rfl) ?_
                      repeat (go_big_quiet_step ((go_at_call 65; exact later_same (LT1.out _ (Later.h _)))))
                      refine wpQuiet_nil ?_
                      rintro wq ⟨⟨_, hbq⟩, rfl⟩
                      clear F0 F1 F2 F3 F4 F5 F6
                      go_wp2_with fail
                      go_roundw
                      case rel => exact HN.out _ hbl hbq
                      case measure => simp [intOf]; omega
                    | false =>
                      rw [t2, Bool.not_false, Bool.true_and] at hbl
                      cases t3 : dearB ys k x with
                      | false =>
                        rw [t3, Bool.false_and] at hbl
                        rw [t3] at LD1
                        go_wp2_with fail
                        refine wp_region_later (by kernel_rfl) (by kernel_rfl) ?_
                        repeat (go_big_quiet_step (first | (go_at_call 65; exact later_same (LT1.out _ (Later.h _))) | (go_at_call 66; exact later_same (LD1.out _ (Later.h _)))))
                        refine wpQuiet_nil ?_
                        rintro wq ⟨⟨_, hbq⟩, rfl⟩
                        clear F0 F1 F2 F3 F4 F5 F6
                        go_wp2_with fail
                        go_roundw
                        case rel => exact HN.out _ hbl hbq
                        case measure => simp [intOf]; omega
                      | true =>
                        rw [t3, Bool.true_and] at hbl
                        rw [t3] at LD1
                        go_wp2_with fail
                        refine wp_region_later (by kernel_rfl) (by kernel_rfl) ?_
                        repeat (go_big_quiet_step (first | (go_at_call 65; exact later_same (LT1.out _ (Later.h _))) | (go_at_call 66; exact later_same (LD1.out _ (Later.h _)))))
                        refine wpQuiet_nil ?_
                        rintro wq ⟨⟨_, hbq⟩, rfl⟩
                        have G1 : ∀ z : Later wq, z.w'.cell? ⟨w.heap.size, 1, none⟩ = some (.slice (some ⟨b3, o3, none⟩) x1.length c1) := fun z => F1 ⟨z.w', below_then hbq z.h⟩
                        have G3 : ∀ z : Later wq, z.w'.cell? ⟨b3, o3 + k, none⟩ = some (.slice a3 zs.length c3) := fun z => F3 ⟨z.w', below_then hbq z.h⟩
                        have G5 : ∀ z : Later wq, z.w'.cell? ⟨b5, o5 + k, none⟩ = some (.int .i64 y) := fun z => F5 ⟨z.w', below_then hbq z.h⟩
                        have G6 : ∀ z : Later wq, z.w'.cell? ⟨w1.heap.size, k, none⟩ = some (.int .i64 (ln : Int)) := fun z => F6 ⟨z.w', below_then hbq z.h⟩
                        have HM : Hid (∀ t, t < m.length → ∃ v, m[t]? = some v ∧ ∀ z : Later wq, z.w'.cell? ⟨b4, o4 + t, none⟩ = some (.int .i64 v)) := fun t ht => by
                          obtain ⟨b6, o6, v, e6, hb6, hc6, hx6⟩ := G.out.get (k := t) ht
                          injection e6 with e6
                          injection e6 with e6 e7
                          subst e6 e7
                          exact ⟨v, hx6.out, fun z => ((hWB.out _ (below_then hbq z.h)).cell (p := ⟨b4, o4 + t, none⟩) hb6).trans hc6⟩
                        clear F0 F1 F2 F3 F4 F5 F6 LT1 LD1
                        go_wp2_with fail
                        refine wp_region_later (by kernel_rfl) (by kernel_rfl) ?_
                        repeat (go_big_quiet_step (fail))
                        refine wpQuiet_nil ?_
                        rintro wq2 ⟨⟨_, hbq2⟩, rfl⟩
                        have C1 : wq2.cell? ⟨w.heap.size, 1, none⟩ = some (.slice (some ⟨b3, o3, none⟩) x1.length c1) := G1 ⟨wq2, hbq2⟩
                        have C3 : wq2.cell? ⟨b3, o3 + k, none⟩ = some (.slice a3 zs.length c3) := G3 ⟨wq2, hbq2⟩
                        have HM2 : Hid (∀ t, t < m.length → ∃ v, m[t]? = some v ∧ wq2.cell? ⟨b4, o4 + t, none⟩ = some (.int .i64 v)) := fun t ht => by
                          obtain ⟨v, e1, e2⟩ := HM.out t ht
                          exact ⟨v, e1, e2 ⟨wq2, hbq2⟩⟩
                        have LD3 : Hid (∀ t : Nat, _) := fun t => LD2.out wq2 t (below_then hbq hbq2)
                        have hbqq := below_then hbq hbq2
                        clear G1 G3 G5 G6 HM LD2 hbq hbq2
                        go_wp2_with fail
                        go_loop [15, 131] (fun fv tv => ∃ (t : Nat) (f : Bool), t ≤ m.length ∧ tv = .int .i64 t ∧ fv = .bool f ∧ Hid (f = (decide ((ln : Int) < y) || (List.range t).any (rivalB ⟨x0, x1⟩ m i k)))) (fun _ tv => m.length - (intOf tv).toNat)
                        case atStart => exact ⟨0, _, Nat.zero_le _, rfl, rfl, by simp [Hid]⟩
                        case round =>
                          obtain ⟨t, f, ht, rfl, rfl, hf⟩ := hrel
                          by_cases hlt2 : t < m.length
                          · cases f with
                            | true =>
                              have HF : Hid (true = (decide ((ln : Int) < y) || (List.range (t + 1)).any (rivalB ⟨x0, x1⟩ m i k))) := by
                                rw [Hid, rany_step, ← Bool.or_assoc, ← hf.out]; rfl
                              clear hf
                              go_wp2_with fail
                              go_round
                              case rel => exact ⟨t + 1, true, by omega, by go_num, rfl, HF⟩
                              case measure => simp [intOf]; omega
                            | false =>
                              obtain ⟨v, hv, d4⟩ := HM2.out t hlt2
                              have HV := Lib.hid (HRV.out t v hv)
                              have LD4 := Lib.hid (LD3.out t)
                              have j0 : (0 : Int) ≤ (t : Int) := Int.natCast_nonneg _
                              have j1 : (t : Int) < (m.length : Int) := by omega
                              cases t5 : (v == (k : Int)) with
                              | false =>
                                have HF : Hid (false = (decide ((ln : Int) < y) || (List.range (t + 1)).any (rivalB ⟨x0, x1⟩ m i k))) := by
                                  rw [Hid, rany_step, ← Bool.or_assoc, ← hf.out, HV.out, t5]; rfl
                                clear hf hv
                                go_wp2_with fail
                                go_round
                                case rel => exact ⟨t + 1, false, by omega, by go_num, rfl, HF⟩
                                case measure => simp [intOf]; omega
                              | true =>
                                have HF : Hid (dearB zs i t = (decide ((ln : Int) < y) || (List.range (t + 1)).any (rivalB ⟨x0, x1⟩ m i k))) := by
                                  rw [Hid, rany_step, ← Bool.or_assoc, ← hf.out, HV.out, t5]; rfl
                                generalize dearB zs i t = f2 at *
                                clear hf hv
                                go_wp2_with (go_at_call 66; refine LD4.out.mono ?_; rintro e w' ⟨rfl, rfl⟩)
                                go_round
                                case rel => exact ⟨t + 1, f2, by omega, by go_num, rfl, HF⟩
                                case measure => simp [intOf]; omega
                          · have htt : t = m.length := by omega
                            subst htt
                            rw [← hf.out] at hbl
                            clear hf
                            cases f with
                            | true =>
                              have HRR := Lib.hid (HR.out hbl)
                              have hbb := hWB.out _ hbqq
                              go_wp2_with fail
                              go_ret3
                              exact ⟨by rw [HRR.out]; rfl, hbb⟩
                            | false =>
                              go_wp2_with fail
                              go_roundw
                              case rel => exact HN.out _ hbl hbqq
                              case measure => simp [intOf]; omega
                · have : k = m.length := by omega
                  subst this
                  have HROW : Hid (∀ i' k', i' < i + 1 → k' < m.length → bf i' k' = false) := fun i' k' h1 h2 => by
                    by_cases e : i' = i
                    · subst e; exact hcols.out k' h2
                    · exact hrows.out i' k' (by omega) h2
                  clear hcols hrows
                  go_wp2_with fail
                  go_roundw
                  case rel => exact ⟨i + 1, by omega, by go_num, HROW, hw5⟩
                  case measure => simp [intOf]; omega
            · have : i = m.length := by omega
              subst this
              have HR : Hid (schoolF ⟨x0, x1⟩ s m = none) := HZ.out hrows.out
              have hb := below_then X.1 hw5
              clear hrows
              go_wp2_with fail
              go_ret3
              exact ⟨by rw [HR.out]; rfl, hb⟩
end Go.Proofs.Ytchfibmndcfpiaa
namespace Go.Proofs.Ytchfibmndcfpiaa
set_option linter.unusedVariables false
set_option linter.unusedSimpArgs false
open Go.RowKit

/-- A list of one's own, how often was asked, and yes. -/
def AskRet (w : World) (n : Nat) (m : List Int) (k : Int) (e : Ending) (w' : World) : Prop :=
  ∃ g c, e = .returned (.tuple #[.slice (some ⟨g, 0, none⟩) n c, .int .i64 k, .bool true]) ∧ OwnI 2 w' w.heap.size w'.heap.size (some ⟨g, 0, none⟩) c m ∧ Below w.heap.size w w'
def SchoolRet (w : World) (n : Nat) (m : List Int) (e : Ending) (w' : World) : Prop :=
  ∃ g c, e = .returned (.tuple #[.slice (some ⟨g, 0, none⟩) n c, .bool true]) ∧ OwnI 2 w' w.heap.size w'.heap.size (some ⟨g, 0, none⟩) c m ∧ Below w.heap.size w w'
theorem ask_len {w : Wi} {s : List Int} (hw : Wish w) (hs : ∀ k, k < w.L.length → 0 ≤ s.getD k 0) : (askF w s).1.length = w.L.length := (ask_end hw hs).1.lm
set_option maxHeartbeats 1000000 in
theorem ones_any (w : World) (a0 : Option Addr) (c0 : Nat) (x0 : List (List Int)) (a1 : Option Addr) (c1 : Nat) (x1 : List (List Int)) (h1 : 1 ≤ x0.length) (h8 : x0.length ≤ 8) :
    Calls Try.prog 44 #[.agg #[.slice a0 x0.length c0, .slice a1 x1.length c1]] w fun e w' => ∃ g, e = .returned (.slice (some ⟨g, 0, none⟩) x0.length x0.length) ∧ Rd w' w'.heap.size (some ⟨g, 0, none⟩) (ints (onesL x0.length)) ∧ Below w.heap.size w w' := by
  have X0 : Bx w (w.alloc (.cells #[.slice a0 x0.length c0, .slice a1 x1.length c1] 27)) [.slice a0 x0.length c0, .slice a1 x1.length c1] 27 := Bx.start w _ _
  have X1 := X0.next (bl1 _ (.cells #[.int .i64 1] 2))
  obtain ⟨q0, q1⟩ := X1.two
  have LC := Lib.hid (fun w' => count_any w' a0 c0 x0 a1 c1 x1)
  have K1 := Blk.new (w.alloc (.cells #[.slice a0 x0.length c0, .slice a1 x1.length c1] 27)) [.int .i64 1] 2
  have e1 : (w.alloc (.cells #[.slice a0 x0.length c0, .slice a1 x1.length c1] 27)).heap.size = w.heap.size + 1 := by simp
  rw [e1] at K1
  clear X0 e1
  go_enter Try.func44, Try.ntmps44
  go_wp2_with fail
  refine (LC.out _).mono ?_
  rintro e w2 ⟨rfl, hb2⟩
  have K2 := K1.same hb2
  have LR := Lib.hid (repeat_any w2 (w.heap.size + 1) 1 x0.length (K2.cell 0) K2.lt h1 (by omega))
  have X2 := X1.next hb2
  clear q0 q1 hb2
  go_wp2_with fail
  refine LR.out.mono ?_
  rintro e w3 ⟨rfl, hk3, hb3⟩
  have X3 := X2.next hb3
  have R3 : Rd w3 w3.heap.size (some ⟨w2.heap.size, 0, none⟩) (ints (onesL x0.length)) := hk3.rd hk3.lt
  have HR3 := Lib.hid R3
  clear hb3 hk3 X1 X2 R3
  go_wp2_with fail
  go_ret
  exact ⟨_, rfl, HR3.out, X3.1⟩
set_option maxRecDepth 10000 in
set_option maxHeartbeats 4000000 in
theorem askMatch_any (w : World) (a0 : Option Addr) (c0 : Nat) (x0 : List (List Int)) (a1 : Option Addr) (c1 : Nat) (x1 : List (List Int)) (h : RdWishes w w.heap.size a0 x0 a1 x1) (hl0 : x0.length ≤ 1048576) (hin0 : ∀ y ∈ x0, y.length ≤ 1048576) (hl1 : x1.length ≤ 1048576) (hin1 : ∀ y ∈ x1, y.length ≤ 1048576) (hvb : wishB ⟨x0, x1⟩ = true) :
    Calls Try.prog 16 #[.agg #[.slice a0 x0.length c0, .slice a1 x1.length c1]] w (AskRet w x0.length (askedF ⟨x0, x1⟩) (askF ⟨x0, x1⟩ (onesL x0.length)).2.sum) := by
  have hv := wish_of hvb
  have hn1 : 1 ≤ x0.length := hv.n1
  have hn8 : x0.length ≤ 8 := hv.n8
  have X0 : Bx w (w.alloc (.cells #[.slice a0 x0.length c0, .slice a1 x1.length c1] 27)) [.slice a0 x0.length c0, .slice a1 x1.length c1] 27 := Bx.start w _ _
  have LV := Lib.hid (fun w' hb => validWishes_any w' a0 c0 x0 a1 c1 x1 (h.to hb) hl0 hin0 hl1 hin1)
  rw [hvb] at LV
  have LO := Lib.hid (fun w' => ones_any w' a0 c0 x0 a1 c1 x1 hn1 hn8)
  have LA := Lib.hid (fun (w' : World) (g : Nat) (hb : Below w.heap.size w w') hg => ask_any w' a0 c0 x0 a1 c1 x1 (some ⟨g, 0, none⟩) x0.length (onesL x0.length) (h.to hb) hv hin0 hin1 hg (by simp [onesL]))
  have HOl : Hid ((onesL x0.length).length = x0.length) := by simp [Hid, onesL]
  rw [HOl.out] at LA
  obtain ⟨m, hm⟩ : ∃ m, m = askedF ⟨x0, x1⟩ := ⟨_, rfl⟩
  have hm2 : (askF ⟨x0, x1⟩ (onesL x0.length)).1 = m := hm.symm
  rw [hm2] at LA
  rw [← hm]
  generalize (askF ⟨x0, x1⟩ (onesL x0.length)).2.sum = sm at *
  clear h hin0 hin1 hv hvb hm hm2
  go_enter Try.func16, Try.ntmps16
  go_wp2_with fail
  refine (LV.out _ X0.1).mono ?_
  rintro e w1 ⟨rfl, hb1⟩
  have X1 := X0.next hb1
  have EE := Lib.hid X1.two
  obtain ⟨q0, q1⟩ := EE.out
  clear hb1 X0
  go_wp2_with fail
  go_region_held3 (fun w' => w'.cell? ⟨w.heap.size, 0, none⟩ = some (.slice a0 x0.length c0) ∧ w'.cell? ⟨w.heap.size, 1, none⟩ = some (.slice a1 x1.length c1))
    (first | exact EE.out | exact HQ.out | exact HT.out)
    (first | (go_at_call 44; refine (LO.out _).mono ?_; rintro e wq ⟨gO, rfl, rO, hbq⟩; have XQ := Lib.hid ((X1.drewN 1).next hbq); have HQ := Lib.hid XQ.out.two) | (go_at_call 43; refine (LA.out _ _ XQ.out.1 rO).mono ?_; rintro e wt ⟨g, rfl, oT, hbt⟩; have XT := Lib.hid (XQ.out.next hbt); have HT := Lib.hid XT.out.two))
  all_goals
    have HO := Lib.hid (oT.mono (by have := XQ.out.1.size; omega) (Nat.le_refl _))
    clear oT rO hbt hbq
    go_wp2_with fail
    go_ret3
    exact ⟨g, _, rfl, HO.out, XT.out.1⟩
set_option maxRecDepth 10000 in
set_option maxHeartbeats 4000000 in
theorem schoolMatch_any (w : World) (a0 : Option Addr) (c0 : Nat) (x0 : List (List Int)) (a1 : Option Addr) (c1 : Nat) (x1 : List (List Int)) (as' : Option Addr) (cs : Nat) (s : List Int) (h : RdWishes w w.heap.size a0 x0 a1 x1) (hl0 : x0.length ≤ 1048576) (hin0 : ∀ y ∈ x0, y.length ≤ 1048576) (hl1 : x1.length ≤ 1048576) (hin1 : ∀ y ∈ x1, y.length ≤ 1048576) (gs : Rd w w.heap.size as' (ints s)) (hls : s.length = x0.length) (hsb : seatsB ⟨x0, x1⟩ s = true) :
    Calls Try.prog 22 #[.agg #[.slice a0 x0.length c0, .slice a1 x1.length c1], .slice as' s.length cs] w (SchoolRet w x0.length (askF ⟨x0, x1⟩ s).1) := by
  have hv : Wish ⟨x0, x1⟩ := wish_of (Bool.and_eq_true _ _ ▸ hsb : wishB ⟨x0, x1⟩ = true ∧ _).1
  have hn1 : 1 ≤ x0.length := hv.n1
  have hn8 : x0.length ≤ 8 := hv.n8
  have X0 : Bx w (w.alloc (.cells #[.slice a0 x0.length c0, .slice a1 x1.length c1] 27)) [.slice a0 x0.length c0, .slice a1 x1.length c1] 27 := Bx.start w _ _
  have LV := Lib.hid (fun w' hb => areSeats_any w' a0 c0 x0 a1 c1 x1 as' cs s (h.to hb) hl0 hin0 hl1 hin1 (gs.to hb) (by omega))
  rw [hsb] at LV
  have LA := Lib.hid (fun (w' : World) (hb : Below w.heap.size w w') => ask_any w' a0 c0 x0 a1 c1 x1 as' cs s (h.to hb) hv hin0 hin1 (gs.to hb) hls)
  generalize (askF ⟨x0, x1⟩ s).1 = m at *
  generalize (askF ⟨x0, x1⟩ s).2.sum = sm at *
  clear h hin0 hin1 hv hsb gs hls
  go_enter Try.func22, Try.ntmps22
  go_wp2_with fail
  refine (LV.out _ X0.1).mono ?_
  rintro e w1 ⟨rfl, hb1⟩
  have X1 := X0.next hb1
  obtain ⟨q0, q1⟩ := X1.two
  clear hb1 X0
  go_wp2_with fail
  refine (LA.out _ X1.1).mono ?_
  rintro e w2 ⟨g, rfl, oT, hbt⟩
  have X2 := X1.next hbt
  have HO := Lib.hid (oT.mono (lo' := w.heap.size) (by have := X1.1.size; omega) (Nat.le_refl _))
  clear oT hbt q0 q1
  go_wp2_with fail
  go_ret2
  exact ⟨g, _, rfl, HO.out, X2.1⟩
set_option maxHeartbeats 1000000 in
theorem l05Ones_any (w : World) (n : Nat) (h1 : 1 ≤ n) (h8 : n ≤ 1048576) :
    Calls Try.prog 50 #[.int .i64 n] w fun e w' => ∃ g c, e = .returned (.slice (some ⟨g, 0, none⟩) n c) ∧ Rd w' w'.heap.size (some ⟨g, 0, none⟩) (ints (onesL n)) ∧ Below w.heap.size w w' := by
  go_enter Try.func50, Try.ntmps50
  go_wp2_with fail
  go_loopw [0, 3] (fun iv v wr => ∃ k : Nat, k ≤ n ∧ iv = .int .i64 ((n - k : Nat) : Int) ∧ Hid (wr.ownsRow w.heap.size 2 1 v k (ints (onesL k))) ∧ Below w.heap.size w wr) (fun iv _ _ => (intOf iv).toNat)
  case atStart => exact ⟨0, Nat.zero_le _, rfl, own_empty w _, bl1 w _⟩
  case round =>
    obtain ⟨k, hk, rfl, hown, hw⟩ := hrel
    by_cases hlt : k < n
    · obtain ⟨j, hj⟩ : ∃ j : Nat, n - k = j + 1 := ⟨n - k - 1, by omega⟩
      have hj2 : n - (k + 1) = j := by omega
      rw [hj]
      have Hj := Lib.hid hj2
      have ejj : ((j + 1 : Nat) : Int) = (j : Int) + 1 := by omega
      rw [ejj]
      have j0 : (0 : Int) ≤ (j : Int) := Int.natCast_nonneg _
      have j9 : (j : Int) ≤ 1048576 := by omega
      clear hj hj2 ejj
      go_wp2_with (at_builtin; refine wpList_append_one _ rfl _ _ 31 rfl w.heap.size 2 (.int .i64 0) 8 Try.underlying31 info_i64p rfl _ k _ rfl hown.out (.int .i64 1) rfl rfl (by omega) (by omega) hw.size ?_)
      intro v' w1 ho hgr
      have hb := below_append hw hown.out hgr (Nat.le_refl _) hw.size
      have HO : Hid (w1.ownsRow w.heap.size 2 1 v' (k + 1) (ints (onesL (k + 1)))) := by
        have : ints (onesL k) ++ [Value.int .i64 1] = ints (onesL (k + 1)) := by unfold onesL; rw [List.replicate_succ', ints_append]; rfl
        rw [← this]; exact ho
      clear hown hw ho hgr
      go_wp2_with fail
      go_roundw
      case rel => exact ⟨k + 1, by omega, by rw [Hj.out], HO, hb⟩
      case measure => first | (simp [intOf]; done) | (simp [intOf]; omega)
    · obtain rfl : k = n := by omega
      obtain ⟨a1, c1, rfl, _, _⟩ := own_shape hown.out
      obtain ⟨g, tl, rfl, _⟩ := own_open hown.out h1
      have HR := Lib.hid (rd_of_own hown.out (Nat.le_refl _))
      rw [Nat.sub_self]
      rw [show ((0 : Nat) : Int) = 0 from rfl]
      clear hown
      go_wp2_with fail
      go_ret
      exact ⟨_, _, rfl, HR.out, hw⟩
set_option maxRecDepth 10000 in
set_option maxHeartbeats 4000000 in
theorem askMatchR_any (w : World) (a0 : Option Addr) (c0 : Nat) (x0 : List (List Int)) (a1 : Option Addr) (c1 : Nat) (x1 : List (List Int)) (h : RdWishes w w.heap.size a0 x0 a1 x1) (hl0 : x0.length ≤ 1048576) (hin0 : ∀ y ∈ x0, y.length ≤ 1048576) (hl1 : x1.length ≤ 1048576) (hin1 : ∀ y ∈ x1, y.length ≤ 1048576) (hvb : wishB ⟨x0, x1⟩ = true) :
    Calls Try.prog 20 #[.agg #[.slice a0 x0.length c0, .slice a1 x1.length c1]] w (AskRet w x0.length (askedF ⟨x0, x1⟩) (askF ⟨x0, x1⟩ (onesL x0.length)).2.sum) := by
  have hv := wish_of hvb
  have hn1 : 1 ≤ x0.length := hv.n1
  have hn8 : x0.length ≤ 8 := hv.n8
  have X0 : Bx w (w.alloc (.cells #[.slice a0 x0.length c0, .slice a1 x1.length c1] 27)) [.slice a0 x0.length c0, .slice a1 x1.length c1] 27 := Bx.start w _ _
  have LV := Lib.hid (fun w' (X : Bx w w' [.slice a0 x0.length c0, .slice a1 x1.length c1] 27) => l05Is_any w' w.heap.size 0 a0 c0 x0 a1 c1 x1 X.two.1 X.two.2 (h.to X.1) hl0 hin0 hl1 hin1)
  rw [hvb] at LV
  have LO := Lib.hid (fun w' => l05Ones_any w' x0.length hn1 (by omega))
  have LA := Lib.hid (fun (w' : World) (g c : Nat) (X : Bx w w' [.slice a0 x0.length c0, .slice a1 x1.length c1] 27) hg => l05Ask_any w' w.heap.size 0 a0 c0 x0 a1 c1 x1 X.two.1 X.two.2 (by have := X.lt; omega) (some ⟨g, 0, none⟩) c (onesL x0.length) (h.to X.1) hv hin0 hin1 hg (by simp [onesL]))
  have HOl : Hid ((onesL x0.length).length = x0.length) := by simp [Hid, onesL]
  rw [HOl.out] at LA
  obtain ⟨m, hm⟩ : ∃ m, m = askedF ⟨x0, x1⟩ := ⟨_, rfl⟩
  have hm2 : (askF ⟨x0, x1⟩ (onesL x0.length)).1 = m := hm.symm
  rw [hm2] at LA
  rw [← hm]
  generalize (askF ⟨x0, x1⟩ (onesL x0.length)).2.sum = sm at *
  clear h hin0 hin1 hv hvb hm hm2
  go_enter Try.func20, Try.ntmps20
  go_wp2_with fail
  refine (LV.out _ X0).mono ?_
  rintro e w1 ⟨rfl, k1, rfl⟩
  have X1 := X0.drewN k1
  obtain ⟨w2, hw2⟩ : ∃ W, W = World.drewN (w.alloc (.cells #[.slice a0 x0.length c0, .slice a1 x1.length c1] 27)) k1 := ⟨_, rfl⟩
  rw [← hw2] at X1 ⊢
  obtain ⟨q0, q1⟩ := X1.two
  clear X0 hw2
  go_wp2_with fail
  refine (LO.out _).mono ?_
  rintro e w3 ⟨gO, cO, rfl, rO, hb3⟩
  have X3 := X1.next hb3
  clear q0 q1 hb3
  go_wp2_with fail
  refine (LA.out _ _ _ X3 rO).mono ?_
  rintro e w4 ⟨g, c, rfl, oT, hb4⟩
  have X4 := X3.next hb4
  have HO := Lib.hid (oT.mono (lo' := w.heap.size) (by have := X3.1.size; omega) (Nat.le_refl _))
  clear oT hb4 rO
  go_wp2_with fail
  go_ret3
  exact ⟨g, _, rfl, HO.out, X4.1⟩
set_option maxRecDepth 10000 in
set_option maxHeartbeats 4000000 in
theorem schoolMatchR_any (w : World) (a0 : Option Addr) (c0 : Nat) (x0 : List (List Int)) (a1 : Option Addr) (c1 : Nat) (x1 : List (List Int)) (as' : Option Addr) (cs : Nat) (s : List Int) (h : RdWishes w w.heap.size a0 x0 a1 x1) (hl0 : x0.length ≤ 1048576) (hin0 : ∀ y ∈ x0, y.length ≤ 1048576) (hl1 : x1.length ≤ 1048576) (hin1 : ∀ y ∈ x1, y.length ≤ 1048576) (gs : Rd w w.heap.size as' (ints s)) (hls : s.length = x0.length) (hsb : seatsB ⟨x0, x1⟩ s = true) :
    Calls Try.prog 23 #[.agg #[.slice a0 x0.length c0, .slice a1 x1.length c1], .slice as' s.length cs] w (SchoolRet w x0.length (askF ⟨x0, x1⟩ s).1) := by
  have hv : Wish ⟨x0, x1⟩ := wish_of (Bool.and_eq_true _ _ ▸ hsb : wishB ⟨x0, x1⟩ = true ∧ _).1
  have hn1 : 1 ≤ x0.length := hv.n1
  have hn8 : x0.length ≤ 8 := hv.n8
  have X0 : Bx w (w.alloc (.cells #[.slice a0 x0.length c0, .slice a1 x1.length c1] 27)) [.slice a0 x0.length c0, .slice a1 x1.length c1] 27 := Bx.start w _ _
  have LV := Lib.hid (fun w' (X : Bx w w' [.slice a0 x0.length c0, .slice a1 x1.length c1] 27) => l05Seats_any w' w.heap.size 0 a0 c0 x0 a1 c1 x1 X.two.1 X.two.2 as' cs s (h.to X.1) hl0 hin0 hl1 hin1 (gs.to X.1) (by omega))
  rw [hsb] at LV
  have LA := Lib.hid (fun (w' : World) (X : Bx w w' [.slice a0 x0.length c0, .slice a1 x1.length c1] 27) => l05Ask_any w' w.heap.size 0 a0 c0 x0 a1 c1 x1 X.two.1 X.two.2 (by have := X.lt; omega) as' cs s (h.to X.1) hv hin0 hin1 (gs.to X.1) hls)
  generalize (askF ⟨x0, x1⟩ s).1 = m at *
  generalize (askF ⟨x0, x1⟩ s).2.sum = sm at *
  clear h hin0 hin1 hv hsb gs hls
  go_enter Try.func23, Try.ntmps23
  go_wp2_with fail
  refine (LV.out _ X0).mono ?_
  rintro e w1 ⟨rfl, k1, rfl⟩
  have X1 := X0.drewN k1
  obtain ⟨w2, hw2⟩ : ∃ W, W = World.drewN (w.alloc (.cells #[.slice a0 x0.length c0, .slice a1 x1.length c1] 27)) k1 := ⟨_, rfl⟩
  rw [← hw2] at X1 ⊢
  clear X0 hw2
  go_wp2_with fail
  refine (LA.out _ X1).mono ?_
  rintro e w2 ⟨g, c, rfl, oT, hbt⟩
  have X2 := X1.next hbt
  have HO := Lib.hid (oT.mono (lo' := w.heap.size) (by have := X1.1.size; omega) (Nat.le_refl _))
  clear oT hbt
  go_wp2_with fail
  go_ret2
  exact ⟨g, _, rfl, HO.out, X2.1⟩
end Go.Proofs.Ytchfibmndcfpiaa
namespace Go.Proofs.Ytchfibmndcfpiaa
set_option linter.unusedVariables false
set_option linter.unusedSimpArgs false
open Go.RowKit

/-- The code from the region with this number on. -/
def fromReg (n : Nat) : Code → Option Code
  | .seq (.region i o d) b => if i == n then some (.seq (.region i o d) b) else fromReg n b
  | .seq a b => match fromReg n a with
    | some c => some c
    | none => fromReg n b
  | .region i o d => if i == n then some (.region i o d) else none
  | .scope c => fromReg n c
  | .block _ c => fromReg n c
  | .loop c => fromReg n c
  | .cond _ a b => match fromReg n a with
    | some c => some c
    | none => fromReg n b
  | _ => none
/-- The region with this number. -/
def regAt (n : Nat) (c : Code) : Option Code := match fromReg n c with
  | some (.seq a _) => some a
  | some c => some c
  | none => none
/-- The code behind the region with this number. -/
def restAt (n : Nat) (c : Code) : Option Code := match fromReg n c with
  | some (.seq _ b) => some b
  | _ => none
theorem into_k {P : Program} {r : Code} {K : Act → World → Prop} {Q : Exit → Act → World → Prop} {a : Act} {w : World} (h : ∀ a v, Code.wp P r Q a v → K a v) (hw : Code.wp P r Q a w) : K a w := h a w hw
end Go.Proofs.Ytchfibmndcfpiaa
namespace Go.Proofs.Ytchfibmndcfpiaa
set_option linter.unusedVariables false
set_option linter.unusedSimpArgs false
open Go.RowKit

/-- Bytes as the cells of a slice. -/
def byts (xs : List Int) : List Value := xs.map (Value.int .u8)
@[simp] theorem byts_length (xs : List Int) : (byts xs).length = xs.length := by simp [byts]
theorem byts_get (xs : List Int) (k : Nat) (hk : k < xs.length) : (byts xs)[k]? = some (.int .u8 (xs.getD k 0)) := by
  simp [byts, List.getD, List.getElem?_eq_getElem hk]
theorem Rd.atB {w : World} {B : Nat} {a : Option Addr} {xs : List Int} (h : Rd w B a (byts xs)) {k : Nat} (hk : k < xs.length) :
    ∃ b o, a = some ⟨b, o, none⟩ ∧ b < B ∧ ∀ j, j < xs.length → w.cell? ⟨b, o + j, none⟩ = some (.int .u8 (xs.getD j 0)) := by
  rcases h with h | ⟨b, o, ha, hb, hc⟩
  · have : (byts xs).length = 0 := by rw [h]; rfl
    simp at this; subst this; simp at hk
  · exact ⟨b, o, ha, hb, fun j hj => by rw [hc j (by simpa using hj)]; exact byts_get xs j hj⟩
section
open Go.ChangeShapes Go.WideShapes Go.ChangeAt
theorem rd_of_byts {w : World} {a : Option Addr} {len cap : Nat} {zs : List Int} (h : (a = none ∧ len = 0 ∧ cap = 0 ∧ zs = []) ∨
    ∃ x, a = some x ∧ len ≤ cap ∧ cap ≤ maxLen ∧ zs.length = cap ∧ (∀ i, i < zs.length → w.cell? (x.add i) = some (.int .u8 (zs.getD i 0))) ∧ ∀ n ∈ zs, (Lit.int .u8 n).wf = true) :
    Rd w w.heap.size a (byts (zs.take len)) ∧ (zs.take len).length = len := by
  rcases h with ⟨rfl, rfl, rfl, rfl⟩ | ⟨x, rfl, h1, h2, h3, h4, _⟩
  · exact ⟨.inl rfl, rfl⟩
  · have hl : (zs.take len).length = len := by simp; omega
    refine ⟨?_, hl⟩
    by_cases h0 : len = 0
    · subst h0; exact .inl rfl
    · have hx := h4 0 (by omega)
      have hx0 : x.add 0 = x := rfl
      rw [hx0] at hx
      obtain ⟨b, o, s⟩ := x
      have hs : s = none := by
        cases s with
        | none => rfl
        | some s =>
          unfold World.cell? at hx
          split at hx <;> simp at hx
      subst hs
      refine .inr ⟨b, o, rfl, World.block_lt_of_cell? w _ hx, fun j hj => ?_⟩
      rw [byts_length, hl] at hj
      have hj2 := h4 j (by omega)
      have ea : (⟨b, o, none⟩ : Addr).add j = ⟨b, o + j, none⟩ := by unfold Addr.add; split <;> simp_all
      rw [ea] at hj2
      rw [hj2, byts_get _ _ (by omega)]
      simp [List.getD, List.getElem?_take, hj]
/-- Bytes that come in as an argument. -/
theorem open_byts {H : Type} {enc : TypeId × Value → H} {P : Program} {w : World} {t e : TypeId} {a : Option Addr} {len cap : Nat} {d : DataW H} {ps : List MemPlace} (ht : P.underlying t = some (.slice e)) (he : P.underlying e = some (.int .u8)) (hc : P.cellsOf e = 1)
    (h : DataW.Trod enc P w 0 (fun _ => true) true t (.slice a len cap) d ps) :
    ∃ xs : List Int, xs.length = len ∧ Rd w w.heap.size a (byts xs) ∧ xs.length ≤ 9223372036854775807 ∧ ∀ x ∈ xs, 0 ≤ x ∧ x ≤ 255 := by
  obtain ⟨fuel, hf⟩ := h
  rcases open_ints ht he hc hf with ⟨hcs, _⟩ | ⟨x, l, c, zs, hcs, _, hl, hm, hz, _, hcell, hwz⟩
  · simp [Value.cells] at hcs
    obtain ⟨rfl, rfl, rfl⟩ := hcs
    exact ⟨[], rfl, Rd.nil _ _ _, by simp, by simp⟩
  · simp [Value.cells] at hcs
    obtain ⟨rfl, rfl, rfl⟩ := hcs
    have := rd_of_byts (.inr ⟨_, rfl, hl, hm, by simpa using hz, hcell, hwz⟩)
    refine ⟨_, this.2, this.1, by rw [this.2]; unfold maxLen at hm; omega, fun y hy => ?_⟩
    have hw := hwz y (List.mem_of_mem_take hy)
    simp only [Lit.wf, Bool.and_eq_true, decide_eq_true_eq] at hw
    exact ⟨hw.1, hw.2⟩
end
/-- The number below n that bytes choose. -/
def atF (xs : List Int) (i n : Int) : Int := if n ≤ 1 then 0 else if i < xs.length then xs.getD i.toNat 0 % n else (i * 37 + 11) % n
theorem atF_bd {xs : List Int} {i n : Int} (hn : 1 ≤ n) : 0 ≤ atF xs i n ∧ atF xs i n < n := by
  unfold atF
  split
  · omega
  · split
    · exact ⟨Int.emod_nonneg _ (by omega), Int.emod_lt_of_pos _ (by omega)⟩
    · exact ⟨Int.emod_nonneg _ (by omega), Int.emod_lt_of_pos _ (by omega)⟩
set_option maxHeartbeats 2000000 in
theorem b10At_any (w : World) (a : Option Addr) (c : Nat) (xs : List Int) (i n : Int) (h : Rd w w.heap.size a (byts xs)) (hl : xs.length ≤ 1048576) (hx : ∀ x ∈ xs, 0 ≤ x ∧ x ≤ 255) (hi : 0 ≤ i) (hi2 : i ≤ 1000000) :
    Calls Try.prog 7 #[.slice a xs.length c, .int .i64 i, .int .i64 n] w fun e w' => e = .returned (.int .i64 (atF xs i n)) ∧ w = w' := by
  by_cases h1 : n ≤ 1
  · have HF : Hid (atF xs i n = 0) := by simp [Hid, atF, h1]
    clear h hx
    go_enter Try.func7, Try.ntmps7
    go_wp2_with fail
    go_ret
    exact ⟨ret_int HF.out.symm, rfl⟩
  · by_cases h2 : i < xs.length
    · obtain ⟨k, rfl⟩ : ∃ k : Nat, i = k := ⟨i.toNat, by omega⟩
      have hk : k < xs.length := by omega
      have HF : Hid (atF xs k n = xs.getD k 0 % n) := by simp [Hid, atF, h1, hk]
      obtain ⟨b, o, rfl, hbb, hc⟩ := h.atB hk
      have hck := hc k hk
      have hxk := hx (xs.getD k 0) (by simp only [List.getD, List.getElem?_eq_getElem hk]; exact List.getElem_mem _)
      generalize xs.getD k 0 = x at *
      obtain ⟨x0, x1⟩ := hxk
      clear h hx hc
      go_enter Try.func7, Try.ntmps7
      go_wp2_with fail
      go_ret
      exact ⟨ret_int HF.out.symm, rfl⟩
    · have HF : Hid (atF xs i n = (i * 37 + 11) % n) := by simp [Hid, atF, h1, h2]
      clear h hx
      go_enter Try.func7, Try.ntmps7
      go_wp2_with fail
      go_ret
      exact ⟨ret_int HF.out.symm, rfl⟩
def longB (xs ys : List Int) : Bool := decide (1048576 < xs.length) || decide (1048576 < ys.length)
theorem b10Long_any (w : World) (a b : Option Addr) (c d : Nat) (xs ys : List Int) (hl : xs.length ≤ 9223372036854775807) (hm : ys.length ≤ 9223372036854775807) :
    Calls Try.prog 6 #[.slice a xs.length c, .slice b ys.length d] w fun e w' => e = .returned (.bool (longB xs ys)) ∧ w = w' := by
  cases h1 : decide ((1048576 : Int) < (xs.length : Int)) with
  | true =>
    have HF : Hid (longB xs ys = true) := by
      have := of_decide_eq_true h1
      have h : 1048576 < xs.length := by omega
      simp [Hid, longB, h]
    go_enter Try.func6, Try.ntmps6
    go_wp2_with fail
    go_ret
    exact ⟨ret_bool HF.out.symm, rfl⟩
  | false =>
    have HF : Hid (longB xs ys = decide ((1048576 : Int) < (ys.length : Int))) := by
      have := of_decide_eq_false h1
      have h : ¬ 1048576 < xs.length := by omega
      show _ = _
      unfold longB
      rw [decide_eq_false h, Bool.false_or]
      exact decide_eq_decide.2 (by omega)
    go_enter Try.func6, Try.ntmps6
    go_wp2_with fail
    go_ret
    exact ⟨ret_bool HF.out.symm, rfl⟩
set_option maxHeartbeats 400000 in
theorem b10Ints_any (w : World) (a b : Option Addr) (c d : Nat) (xs : List Int) (hx : Rd w w.heap.size a (ints xs)) (hy : Rd w w.heap.size b (ints xs)) (hlx : xs.length ≤ 1099511627776) :
    Calls Try.prog 14 #[.slice a xs.length c, .slice b xs.length d] w fun e w' => e = .returned (.bool true) ∧ ∃ n, w' = w.drewN n := by
  have hb1 : ((xs.length : Int) != (xs.length : Int)) = false := by simp
  go_enter Try.func14, Try.ntmps14
  go_wp2
  go_loopw [13] (fun i wr => ∃ k n : Nat, k ≤ xs.length ∧ i = .int .i64 k ∧ wr = w.drewN n) (fun i _ => xs.length - (intOf i).toNat)
  case atStart => exact ⟨0, 0, Nat.zero_le _, rfl, rfl⟩
  case round =>
    obtain ⟨k, n, hk, rfl, rfl⟩ := hrel
    by_cases hlt : k < xs.length
    · obtain ⟨b1, o1, x, rfl, _, hcx, hx'⟩ := hx.get hlt
      obtain ⟨b2, o2, y, rfl, _, hcy, hy'⟩ := hy.get (k := k) (by omega)
      have hxy : x = y := by
        have h1 := hx'.out
        rw [hy'.out] at h1
        injection h1 with h1
        exact h1.symm
      subst hxy
      have hne : (x != x) = false := by simp
      clear hx hy
      go_wp2
      go_quiet (fail)
      go_wp2
      go_roundw
      case rel => exact ⟨k + 1, n + nq, by omega, by go_num, by first | rfl | exact World.drewN_drewN _ _ _⟩
      case measure => simp [intOf]; omega
    · have : k = xs.length := by omega
      subst this
      go_wp2
      go_ret
      exact ⟨rfl, _, rfl⟩
end Go.Proofs.Ytchfibmndcfpiaa
namespace Go.Proofs.Ytchfibmndcfpiaa
set_option linter.unusedVariables false
set_option linter.unusedSimpArgs false
open Go.RowKit

/-- A source over a slice of bytes, some of which are used. -/
def Src (w : World) (b : Nat) (a : Option Addr) (n c : Nat) (p : Nat) : Prop := ∃ seed : Int, (0 ≤ seed ∧ seed < 18446744073709551616) ∧ Blk w b [.slice a n c, .int .i64 p, .int .u64 seed] 88
theorem Src.same {w w' : World} {b n c p : Nat} {a : Option Addr} (h : Src w b a n c p) (hb : Below w.heap.size w w') : Src w' b a n c p := by
  obtain ⟨s, h1, h2⟩ := h
  exact ⟨s, h1, h2.same hb⟩
theorem l00From_any (w : World) (a : Option Addr) (n c : Nat) :
    Calls Try.prog 36 #[.slice a n c] w fun e w' => e = .returned (.pointer (some ⟨w.heap.size, 0, none⟩)) ∧ Src w' w.heap.size a n c 0 ∧ Below w.heap.size w w' ∧ w'.heap.size = w.heap.size + 1 := by
  have K := Blk.new w [.slice a n c, .int .i64 0, .int .u64 0] 88
  have B := bl1 w (.cells #[.slice a n c, .int .i64 0, .int .u64 0] 88)
  go_enter Try.func36, Try.ntmps36
  go_wp2_with fail
  go_ret
  exact ⟨rfl, ⟨0, by omega, K⟩, B, by simp⟩
theorem u64_eq (x : Int) : IntKind.u64.wrap x = x % 18446744073709551616 := by
  show (if (false && decide (x % 2 ^ 64 ≥ 2 ^ (64 - 1))) = true then x % 2 ^ 64 - 2 ^ 64 else x % 2 ^ 64) = _
  simp
theorem and255 (a : Nat) (ha : a < 18446744073709551616) : bits .and .u64 (a : Int) 255 = ((a % 256 : Nat) : Int) := by
  show IntKind.u64.wrap ((BitVec.ofInt 64 (a : Int) &&& BitVec.ofInt 64 (255 : Int)).toNat : Int) = _
  have h1 : (BitVec.ofInt 64 (255 : Int)).toNat = 255 := by decide
  have h2 : (BitVec.ofInt 64 (a : Int)).toNat = a := by rw [BitVec.ofInt_natCast, BitVec.toNat_ofNat]; exact Nat.mod_eq_of_lt (by omega)
  rw [BitVec.toNat_and, h1, h2, show a &&& 255 = a % 256 from Nat.and_two_pow_sub_one_eq_mod a 8, u64_eq]
  have := Nat.mod_lt a (show 0 < 256 by omega)
  omega
theorem u64_rng (x : Int) : 0 ≤ IntKind.u64.wrap x ∧ IntKind.u64.wrap x < 18446744073709551616 := by
  rw [u64_eq]; omega
theorem byte_end (S : Int) (h0 : 0 ≤ S) (h1 : S < 18446744073709551616) : 0 ≤ wrap64 (bits .and .u64 (S / 1099511627776) 255) ∧ wrap64 (bits .and .u64 (S / 1099511627776) 255) ≤ 255 := by
  obtain ⟨n, hn⟩ : ∃ n : Nat, S / 1099511627776 = n := ⟨(S / 1099511627776).toNat, by omega⟩
  rw [hn, and255 n (by omega)]
  have := Nat.mod_lt n (show 0 < 256 by omega)
  unfold wrap64
  omega
theorem src_end {w : World} {b n c p : Nat} {a : Option Addr} {sd : Int} (K : Blk w b [.slice a n c, .int .i64 p, .int .u64 sd] 88) (m k : Nat) (S : Int) (h0 : 0 ≤ S) (h1 : S < 18446744073709551616) :
    Src ((((w.drewN m).setCell ⟨b, 1, none⟩ (.int .i64 ((p : Int) + 1))).setCell ⟨b, 2, none⟩ (.int .u64 S)).drewN k) b a n c (p + 1) ∧ w.grownBy ((((w.drewN m).setCell ⟨b, 1, none⟩ (.int .i64 ((p : Int) + 1))).setCell ⟨b, 2, none⟩ (.int .u64 S)).drewN k) (some b) := by
  have K2 := (((K.drewN m).set 1 (.int .i64 ((p : Int) + 1))).set 2 (.int .u64 S)).drewN k
  simp only [List.set_cons_zero, List.set_cons_succ] at K2
  refine ⟨⟨S, ⟨h0, h1⟩, by simpa using K2⟩, ?_⟩
  have g1 : w.grownBy (w.drewN m) (some b) := ⟨rfl, rfl, rfl, Nat.le_refl _, fun _ _ _ => rfl⟩
  have st : ∀ (v : World) (j : Nat) (u : Value), v.grownBy (v.setCell ⟨b, j, none⟩ u) (some b) := fun v j u => ⟨rfl, rfl, rfl, by simp, fun i _ hi => Below.heap_setCell _ _ _ _ (fun e => hi (by simp [e]))⟩
  have g2 := grown_of_grown (grown_of_grown g1 (st _ 1 (.int .i64 ((p : Int) + 1)))) (st _ 2 (.int .u64 S))
  exact grown_of_grown g2 ⟨rfl, rfl, rfl, Nat.le_refl _, fun _ _ _ => rfl⟩
set_option maxRecDepth 10000 in
set_option maxHeartbeats 4000000 in
theorem next_any (w : World) (b : Nat) (a : Option Addr) (xs : List Int) (c p : Nat) (h : Src w b a xs.length c p) (hr : Rd w w.heap.size a (byts xs)) (hx : ∀ x ∈ xs, 0 ≤ x ∧ x ≤ 255) (hl : xs.length ≤ 1048576) (hp : p ≤ 1000000) :
    Calls Try.prog 101 #[.pointer (some ⟨b, 0, none⟩)] w fun e w' => ∃ x, e = .returned (.int .i64 x) ∧ (0 ≤ x ∧ x ≤ 255) ∧ Src w' b a xs.length c (p + 1) ∧ w.grownBy w' (some b) := by
  obtain ⟨sd, ⟨sd0, sd1⟩, K⟩ := h
  have c0 := K.cell 0
  have c1 := K.cell 1
  have c2 := K.cell 2
  have f0 := K.free 0
  have f1 := K.free 1
  have f2 := K.free 2
  simp only [List.getElem?_cons_zero, List.getElem?_cons_succ] at c0 c1 c2
  by_cases hlt : p < xs.length
  · obtain ⟨g, o, rfl, hg, hc⟩ := hr.atB hlt
    have ck := hc p hlt
    have hxk := hx (xs.getD p 0) (by simp only [List.getD, List.getElem?_eq_getElem hlt]; exact List.getElem_mem _)
    generalize xs.getD p 0 = y at *
    obtain ⟨y0, y1⟩ := hxk
    clear hr hc hx
    go_enter Try.func101, Try.ntmps101
    go_wp2_with fail
    go_quiet (fail)
    go_wp2_with fail
    go_quiet (fail)
    go_wp2_with fail
    go_quiet (fail)
    go_wp2_with fail
    go_ret
    exact ⟨_, rfl, ⟨y0, y1⟩, src_end K _ _ _ (u64_rng _).1 (u64_rng _).2⟩
  · clear hr hx
    go_enter Try.func101, Try.ntmps101
    go_wp2_with fail
    go_quiet (fail)
    go_wp2_with fail
    go_quiet (fail)
    go_wp2_with fail
    go_ret
    exact ⟨_, rfl, byte_end _ (u64_rng _).1 (u64_rng _).2, src_end K _ _ _ (u64_rng _).1 (u64_rng _).2⟩
set_option maxRecDepth 10000 in
set_option maxHeartbeats 4000000 in
theorem pick_any (w : World) (b : Nat) (a : Option Addr) (xs : List Int) (c p : Nat) (n : Int) (h : Src w b a xs.length c p) (hr : Rd w w.heap.size a (byts xs)) (hx : ∀ x ∈ xs, 0 ≤ x ∧ x ≤ 255) (hl : xs.length ≤ 1048576) (hp : p ≤ 900000) (hn : n ≤ 200) :
    Calls Try.prog 81 #[.pointer (some ⟨b, 0, none⟩), .int .i64 n] w fun e w' => ∃ (x : Int) (p' : Nat), e = .returned (.int .i64 x) ∧ (0 ≤ x ∧ (x < n ∨ x = 0)) ∧ p' ≤ p + 1 ∧ Src w' b a xs.length c p' ∧ w.grownBy w' (some b) := by
  by_cases h1 : n ≤ 1
  · clear hr hx
    go_enter Try.func81, Try.ntmps81
    go_wp2_with fail
    go_ret
    exact ⟨0, p, rfl, ⟨by omega, .inr rfl⟩, by omega, h, World.grownBy.refl _ _⟩
  · have L := Lib.hid (next_any w b a xs c p h hr hx hl (by omega))
    clear h hr hx
    go_enter Try.func81, Try.ntmps81
    go_wp2_with fail
    refine L.out.mono ?_
    rintro e w1 ⟨x, rfl, ⟨x0, x1⟩, hs, hg⟩
    have hm0 := Int.emod_nonneg x (show n ≠ 0 by omega)
    have hm1 := Int.emod_lt_of_pos x (show 0 < n by omega)
    go_wp2_with fail
    go_ret
    exact ⟨x % n, p + 1, rfl, ⟨hm0, .inl hm1⟩, by omega, hs, hg⟩
end Go.Proofs.Ytchfibmndcfpiaa
namespace Go.Proofs.Ytchfibmndcfpiaa
set_option linter.unusedVariables false
set_option linter.unusedSimpArgs false
open Go.RowKit

theorem touch_grown {w w' : World} {g : Nat} (h : Touch w w' g (g + 1)) : w.grownBy w' (some g) :=
  ⟨h.os, h.tape, h.output, h.size, fun q hq hne => h.block q hq (by have : q ≠ g := fun e => hne (by rw [e]); omega)⟩
theorem touch_below {w w1 w2 : World} {lo hi : Nat} (h : Touch w w1 lo hi) (hb : Below w.heap.size w1 w2) : Touch w w2 lo hi :=
  ⟨hb.os.trans h.os, hb.tape.trans h.tape, hb.output.trans h.output, Nat.le_trans h.size hb.size, fun k hk hd => (hb.block k hk).trans (h.block k hk hd)⟩
end Go.Proofs.Ytchfibmndcfpiaa
namespace Go.Proofs.Ytchfibmndcfpiaa
set_option linter.unusedVariables false
set_option linter.unusedSimpArgs false
open Go.RowKit

/-- A source over bytes that lie below it. -/
structure DS (w : World) (B0 b : Nat) (a : Option Addr) (xs : List Int) (c p : Nat) : Prop where
  S : Src w b a xs.length c p
  R : Rd w B0 a (byts xs)
  lb : B0 ≤ b
  hx : ∀ x ∈ xs, 0 ≤ x ∧ x ≤ 255
  hl : xs.length ≤ 1048576
section
variable {w w' : World} {B0 b c p : Nat} {a : Option Addr} {xs : List Int}
theorem DS.lt (h : DS w B0 b a xs c p) : b < w.heap.size := by obtain ⟨s, _, k⟩ := h.S; exact k.lt
theorem DS.same (h : DS w B0 b a xs c p) (hb : Below w.heap.size w w') : DS w' B0 b a xs c p :=
  ⟨h.S.same hb, h.R.below hb (by have := h.lt; have := h.lb; omega), h.lb, h.hx, h.hl⟩
theorem DS.touch {lo hi : Nat} (h : DS w B0 b a xs c p) (ht : Touch w w' lo hi) (hlo : b < lo) : DS w' B0 b a xs c p := by
  have := h.lt
  have := h.lb
  obtain ⟨s, h1, h2⟩ := h.S
  exact ⟨⟨s, h1, h2.touch ht (.inl hlo)⟩, h.R.touch ht (by omega) (by omega), h.lb, h.hx, h.hl⟩
theorem touch_of_below' {B : Nat} (h : Below B w w') : Touch w w' B w.heap.size := ⟨h.os, h.tape, h.output, h.size, fun k hk hd => h.block k (by omega)⟩
theorem touch_of_grown' {g : Nat} (h : w.grownBy w' (some g)) : Touch w w' g (g + 1) := Touch.of_grown h (Nat.le_refl _) (Nat.lt_succ_self _)
end
theorem pick_ds (w : World) (B0 b : Nat) (a : Option Addr) (xs : List Int) (c p : Nat) (n : Int) (h : DS w B0 b a xs c p) (hp : p ≤ 900000) (hn : n ≤ 200) :
    Calls Try.prog 81 #[.pointer (some ⟨b, 0, none⟩), .int .i64 n] w fun e w' => ∃ (x : Int) (p' : Nat), e = .returned (.int .i64 x) ∧ (0 ≤ x ∧ (x < n ∨ x = 0)) ∧ p' ≤ p + 1 ∧ DS w' B0 b a xs c p' ∧ Touch w w' b (b + 1) := by
  have hlt := h.lt
  refine (pick_any w b a xs c p n h.S (h.R.mono (by have := h.lb; omega)) h.hx h.hl hp hn).mono ?_
  rintro e w' ⟨x, p', rfl, hx, hp', hs, hg⟩
  exact ⟨x, p', rfl, hx, hp', ⟨hs, h.R.grown hg h.lb (by have := h.lb; omega), h.lb, h.hx, h.hl⟩, touch_of_grown' hg⟩
end Go.Proofs.Ytchfibmndcfpiaa
namespace Go.Proofs.Ytchfibmndcfpiaa
set_option linter.unusedVariables false
set_option linter.unusedSimpArgs false
open Go.RowKit

theorem one_ds (w : World) (B0 b : Nat) (a : Option Addr) (xs : List Int) (c p : Nat) (n : Int) (h : DS w B0 b a xs c p) (hp : p ≤ 900000) (hn : n ≤ 200) :
    Calls Try.prog 79 #[.pointer (some ⟨b, 0, none⟩), .int .i64 n] w fun e w' => ∃ (y : Bool) (p' : Nat), e = .returned (.bool y) ∧ p' ≤ p + 1 ∧ DS w' B0 b a xs c p' ∧ Touch w w' b (b + 1) := by
  have L := Lib.hid (pick_ds w B0 b a xs c p n h hp hn)
  clear h
  go_enter Try.func79, Try.ntmps79
  go_wp2_with fail
  refine L.out.mono ?_
  rintro e w1 ⟨x, p1, rfl, _, hp1, D1, T1⟩
  have HD := Lib.hid D1
  have HT := Lib.hid T1
  clear D1 T1 L
  go_wp2_with fail
  go_ret
  exact ⟨_, p1, rfl, hp1, HD.out, HT.out⟩
/-- Numbers below k, each once. -/
structure Ordn (l : List Int) (k : Nat) : Prop where
  len : l.length = k
  mem : ∀ x ∈ l, 0 ≤ x ∧ x < k
  nd : l.Nodup
theorem Ordn.nil : Ordn [] 0 := ⟨rfl, fun x h => by simp at h, List.nodup_nil⟩
theorem Ordn.put {l : List Int} {k : Nat} (h : Ordn l k) (t : Nat) (ht : t ≤ k) : Ordn (l.take t ++ [(k : Int)] ++ l.drop t) (k + 1) := by
  have hk : (k : Int) ∉ l := fun hm => by have := (h.mem _ hm).2; omega
  refine ⟨by have := h.len; simp; omega, fun x hx => ?_, ?_⟩
  · simp only [List.mem_append, List.mem_singleton] at hx
    rcases hx with (hx | rfl) | hx
    · have := h.mem x (List.mem_of_mem_take hx); omega
    · omega
    · have := h.mem x (List.mem_of_mem_drop hx); omega
  · have hn := h.nd
    rw [← List.take_append_drop t l] at hn
    obtain ⟨n1, n2, n3⟩ := List.nodup_append.1 hn
    rw [List.append_assoc, List.singleton_append]
    refine List.nodup_append.2 ⟨n1, ?_, ?_⟩
    · refine List.nodup_cons.2 ⟨fun hm => hk (List.mem_of_mem_drop hm), n2⟩
    · intro x hx y hy
      rcases List.mem_cons.1 hy with rfl | hy
      · rintro rfl; exact hk (List.mem_of_mem_take hx)
      · exact n3 x hx y hy
def OrdR (w : World) (B0 b : Nat) (a : Option Addr) (xs : List Int) (c q n : Nat) (e : Ending) (w' : World) : Prop :=
  ∃ (g cc : Nat) (l : List Int) (p' : Nat), e = .returned (.slice (some ⟨g, 0, none⟩) n cc) ∧ Ordn l n ∧ OwnI 2 w' w.heap.size w'.heap.size (some ⟨g, 0, none⟩) cc l ∧ p' ≤ q ∧ DS w' B0 b a xs c p' ∧ Touch w w' b (b + 1)
set_option maxRecDepth 10000 in
set_option maxHeartbeats 8000000 in
theorem order_ds (w : World) (B0 b : Nat) (a : Option Addr) (xs : List Int) (c p n : Nat) (h : DS w B0 b a xs c p) (hp : p ≤ 700000) (n8 : n ≤ 8) :
    Calls Try.prog 80 #[.pointer (some ⟨b, 0, none⟩), .int .i64 n] w (OrdR w B0 b a xs c (p + n) n) := by
  have hbw := h.lt
  have B0' := bl1 w (.cells #[] 2)
  have D0 := Lib.hid (h.same B0')
  have T0 := Lib.hid (Below.touch B0' b (b + 1))
  clear h B0'
  go_enter Try.func80, Try.ntmps80
  go_wp2_with fail
  go_loopw [6, 5] (fun iv v wr => ∃ (k g cc : Nat) (l : List Int) (p' : Nat), k ≤ n ∧ iv = .int .i64 k ∧ v = .slice (some ⟨g, 0, none⟩) k cc ∧ Hid (Ordn l k) ∧ Hid (OwnI 2 wr w.heap.size wr.heap.size (some ⟨g, 0, none⟩) cc l) ∧ p' ≤ p + k ∧ Hid (DS wr B0 b a xs c p') ∧ Hid (Touch w wr b (b + 1))) (fun iv _ _ => n - (intOf iv).toNat)
  case atStart => exact ⟨0, w.heap.size, 0, [], p, Nat.zero_le _, rfl, rfl, Ordn.nil, OwnI.of_own (xs := []) (own_empty w _), Nat.le_refl _, D0, T0⟩
  case round =>
    clear D0 T0
    obtain ⟨k, g, cc, l, p1, hk, rfl, rfl, HO, HI, hp1, HD, HT⟩ := hrel
    have k0 : (0 : Int) ≤ (k : Int) := Int.natCast_nonneg _
    by_cases hlt : k < n
    · have hki : (k : Int) < (n : Int) := by omega
      have e1 : (k : Int) + 1 = ((k + 1 : Nat) : Int) := by omega
      have L1 := Lib.hid (pick_ds wr B0 b a xs c p1 ((k : Int) + 1) HD.out (by omega) (by omega))
      have hcap : k ≤ cc := by have := HI.out.cap; rw [HO.out.len] at this; exact this
      clear e1
      go_wp2_with fail
      refine L1.out.mono ?_
      rintro e w1 ⟨x, p2, rfl, ⟨x0, x1⟩, hp2, D1, T1⟩
      obtain ⟨t, rfl⟩ : ∃ t : Nat, x = t := ⟨x.toNat, by omega⟩
      have ht : t ≤ k := by omega
      have htk : (t : Int) ≤ (k : Int) := by omega
      have htc : (t : Int) ≤ (cc : Int) := by omega
      have hkc : (k : Int) ≤ (cc : Int) := by omega
      have hdl : ((k : Int) - (t : Int)) = ((k - t : Nat) : Int) := by omega
      have hI1 := HI.out.touch T1 (.inr (by omega))
      have hrd : ∀ j, j < k → w1.cell? ⟨g, 0 + j, none⟩ = some (.int .i64 (l.getD j 0)) := fun j hj => by
        obtain ⟨b', o', e', _, hc'⟩ := hI1.rd.at (k := j) (by rw [HO.out.len]; exact hj)
        injection e' with e'; injection e' with e1 e2 e3
        subst e1 e2
        exact hc' j (by rw [HO.out.len]; exact hj)
      have hg1 : g < w1.heap.size := by
        have h2 := hI1.2 _ rfl
        have := T1.size
        simp only at h2; omega
      have Hrd := Lib.hid hrd
      have HT1 : Hid (Touch w w1 b (b + 1)) := HT.out.trans T1
      have HD1 := Lib.hid D1
      have hw1 := T1.size
      have hww := HT.out.size
      have hll := Lib.hid HO.out.len
      clear hrd hI1 D1 T1 L1 x0 x1 hdl
      go_wp2_with (at_builtin; refine append_manyC _ rfl _ _ 31 rfl w1.heap.size 2 (.int .i64 0) 8 Try.underlying31 info_i64p rfl _ 0 [] rfl (own_emptyC w1 2) g 0 t cc (l.take t) rfl (by rw [List.length_take, hll.out]; omega) ?_ (by omega) (by omega) (by simp) ?_)
      · intro j hj
        rw [(bl1 w1 _).cell (p := ⟨g, 0 + j, none⟩) hg1, Hrd.out j (by omega)]
        simp [List.getD, List.getElem?_take, hj]
      intro v7 w7 o7 g7
      have B7 := below_append (bl1 w1 (.cells #[] 2)) (own_emptyC w1 2) g7 (Nat.le_refl _) (by simp)
      try simp only [Nat.zero_add, List.nil_append] at o7
      have s7 := B7.size
      have H7 := Lib.hid o7
      clear o7 g7
      go_wp2_with (at_builtin; refine wpList_append_one _ rfl _ _ 31 rfl w1.heap.size 2 (.int .i64 0) 8 Try.underlying31 info_i64p rfl _ t _ rfl H7.out (.int .i64 k) rfl rfl (by omega) (by omega) s7 ?_)
      intro v8 w8 o8 g8
      have B8 := below_append B7 H7.out g8 (Nat.le_refl _) s7
      have H8 : Hid (w8.ownsRow w1.heap.size 2 1 v8 (t + 1) (ints (l.take t ++ [(k : Int)]))) := by rw [ints_append]; exact o8
      have s8 := B8.size
      have HB8 := Lib.hid B8
      clear o8 g8 B7 H7 s7 B8
      have Hrd8 : Hid (∀ j, j < k → w8.cell? ⟨g, 0 + j, none⟩ = some (.int .i64 (l.getD j 0))) := fun j hj => by rw [HB8.out.cell (p := ⟨g, 0 + j, none⟩) hg1]; exact Hrd.out j hj
      have HPut := Lib.hid (HO.out.put t ht)
      have hkt : t + 1 + (k - t) = k + 1 := by omega
      have hT8 : Hid (Touch w w8 b (b + 1)) := ⟨HB8.out.os.trans HT1.out.os, HB8.out.tape.trans HT1.out.tape, HB8.out.output.trans HT1.out.output, by have := HT1.out.size; omega, fun q hq hd => (HB8.out.block q (by have := HT1.out.size; omega)).trans (HT1.out.block q hq hd)⟩
      have HD8 := Lib.hid (HD1.out.same HB8.out)
      have HKt := Lib.hid hkt
      clear Hrd HD1 HT1 HD HT HI hkt
      by_cases hct : cc = t
      · have htk2 : t = k := by omega
        subst htk2
        subst hct
        have hz : l.drop cc = [] := List.drop_eq_nil_of_le (by rw [hll.out]; exact Nat.le_refl _)
        rw [hz, List.append_nil] at HPut
        have hz2 : l.take cc = l := List.take_of_length_le (by rw [hll.out]; exact Nat.le_refl _)
        clear hz hz2 htk htc hkc hcap ht
        go_wp2_with (at_builtin; refine append_manyC _ rfl _ _ 31 rfl w1.heap.size 2 (.int .i64 0) 8 Try.underlying31 info_i64p rfl _ (cc + 1) _ rfl H8.out g 0 0 0 [] rfl rfl (fun j hj => by omega) (by omega) (by omega) s8 ?_)
        intro v9 w9 o9 g9
        have B9 := Lib.hid (below_append HB8.out H8.out g9 (Nat.le_refl _) s8)
        try simp only [Nat.add_zero, List.append_nil] at o9
        obtain ⟨a9, c9, e9, _, _⟩ := own_shape o9
        subst e9
        obtain ⟨g10, tl, e10, _⟩ := own_open o9 (by omega)
        subst e10
        have H9 : Hid (OwnI 2 w9 w.heap.size w9.heap.size (some ⟨g10, 0, none⟩) c9 (l.take cc ++ [(cc : Int)])) := by
          have := OwnI.of_own (T := 2) (xs := l.take cc ++ [(cc : Int)]) (w := w9) (lo := w1.heap.size) (a := some ⟨g10, 0, none⟩) (c := c9) (by rw [HPut.out.len]; exact o9)
          exact this.mono (by omega) (Nat.le_refl _)
        have HT9 : Hid (Touch w w9 b (b + 1)) := by
          have hB : Below w.heap.size w8 w9 := below_of_grown g9 (by omega) (fun q hq => by have := (H8.out.lt q hq).1; omega)
          exact touch_below hT8.out hB
        have HD9 : Hid (DS w9 B0 b a xs c p2) := by
          have hB : Below w1.heap.size w8 w9 := below_of_grown g9 s8 (fun q hq => (H8.out.lt q hq).1)
          exact HD8.out.touch (touch_of_below' hB) (by omega)
        clear o9 g9
        go_wp2_with fail
        go_roundw
        case rel => exact ⟨cc + 1, g10, c9, _, p2, by omega, by go_num, by go_num, HPut, H9, by omega, HD9, HT9⟩
        case measure => simp [intOf]; omega
      · have hlt2 : (t : Int) < (cc : Int) := by omega
        have hne : ¬ cc = t := hct
        go_wp2_with (at_builtin; refine append_manyC _ rfl _ _ 31 rfl w1.heap.size 2 (.int .i64 0) 8 Try.underlying31 info_i64p rfl _ (t + 1) _ rfl H8.out g t (k - t) (cc - t) (l.drop t) rfl (by rw [List.length_drop, hll.out]) ?_ (by omega) (by omega) s8 ?_)
        · intro j hj
          have := Hrd8.out (t + j) (by omega)
          rw [Nat.zero_add] at this
          rw [this]
          simp [List.getD, List.getElem?_drop]
        intro v9 w9 o9 g9
        have B9 := Lib.hid (below_append HB8.out H8.out g9 (Nat.le_refl _) s8)
        rw [HKt.out] at o9
        obtain ⟨a9, c9, e9, _, _⟩ := own_shape o9
        subst e9
        obtain ⟨g10, tl, e10, _⟩ := own_open o9 (by omega)
        subst e10
        have H9 : Hid (OwnI 2 w9 w.heap.size w9.heap.size (some ⟨g10, 0, none⟩) c9 (l.take t ++ [(k : Int)] ++ l.drop t)) := by
          have := OwnI.of_own (T := 2) (xs := l.take t ++ [(k : Int)] ++ l.drop t) (w := w9) (lo := w1.heap.size) (a := some ⟨g10, 0, none⟩) (c := c9) (by rw [HPut.out.len]; first | exact o9 | (rw [List.append_assoc, List.singleton_append]; exact o9))
          exact this.mono (by omega) (Nat.le_refl _)
        have HT9 : Hid (Touch w w9 b (b + 1)) := by
          have hB : Below w.heap.size w8 w9 := below_of_grown g9 (by omega) (fun q hq => by have := (H8.out.lt q hq).1; omega)
          exact touch_below hT8.out hB
        have HD9 : Hid (DS w9 B0 b a xs c p2) := by
          have hB : Below w1.heap.size w8 w9 := below_of_grown g9 s8 (fun q hq => (H8.out.lt q hq).1)
          exact HD8.out.touch (touch_of_below' hB) (by omega)
        clear o9 g9
        go_wp2_with fail
        go_roundw
        case rel => exact ⟨k + 1, g10, c9, _, p2, by omega, by go_num, by go_num, HPut, H9, by omega, HD9, HT9⟩
        case measure => simp [intOf]; omega
    · obtain rfl : k = n := by omega
      clear hlt
      go_wp2_with fail
      go_ret
      exact ⟨g, cc, l, p1, rfl, HO.out, HI.out, hp1, HD.out, HT.out⟩
end Go.Proofs.Ytchfibmndcfpiaa
