/-
  SchoolBlock: the reference's road.
-/
import Derived.Test.YtdipckpcmnhpjaaMatSI
namespace Go.Proofs.Ytdipckpcmnhpjaa
set_option linter.unusedVariables false
set_option linter.unusedSimpArgs false
open Go.RowKit

def cntL (m : List Int) (n t : Nat) : List Int := (List.range n).map fun k => ((hasN m k t).length : Int)
theorem cntL_len (m : List Int) (n t : Nat) : (cntL m n t).length = n := by simp [cntL]
theorem cntL_zero (m : List Int) (n : Nat) : cntL m n 0 = List.replicate n 0 := by
  apply List.ext_getElem
  · simp [cntL]
  · intro i h1 h2; simp [cntL, hasN]
theorem cntL_get {m : List Int} {n t k : Nat} (h : k < n) : (cntL m n t)[k]? = some ((hasN m k t).length : Int) := by simp [cntL, h]
theorem cntL_skip {m : List Int} {n t : Nat} (h : m.getD t 0 < 0) : cntL m n (t + 1) = cntL m n t :=
  List.map_congr_left fun k _ => by rw [hasN, if_neg (by omega)]
theorem cntL_set {m : List Int} {n t k : Nat} (h : m.getD t 0 = (k : Int)) : cntL m n (t + 1) = (cntL m n t).set k ((hasN m k t).length + 1) := by
  apply List.ext_getElem
  · simp [cntL]
  · intro j h1 h2
    have hj : j < n := by simpa [cntL] using h1
    rw [List.getElem_set]
    split
    case isTrue e =>
      subst e
      simp only [cntL, List.getElem_map, List.getElem_range]
      rw [hasN, if_pos h]; simp
    case isFalse e =>
      simp only [cntL, List.getElem_map, List.getElem_range]
      rw [hasN, if_neg (by omega)]
theorem rall_step {p : Nat → Bool} {t : Nat} (h : (List.range t).all p = true) (h2 : p t = true) : (List.range (t + 1)).all p = true := by
  rw [List.range_succ, List.all_append, h]; simp [h2]
theorem rany_step (p : Nat → Bool) (t : Nat) : (List.range (t + 1)).any p = ((List.range t).any p || p t) := by
  rw [List.range_succ, List.any_append]; simp
set_option maxRecDepth 10000 in
set_option maxHeartbeats 8000000 in
theorem schoolR_any (w : World) (a0 : Option Addr) (c0 : Nat) (x0 : List (List Int)) (a1 : Option Addr) (c1 : Nat) (x1 : List (List Int)) (as' : Option Addr) (cs : Nat) (s : List Int) (a : Option Addr) (c : Nat) (m : List Int) (h : RdWishes w w.heap.size a0 x0 a1 x1) (hl0 : x0.length ≤ 1048576) (hin0 : ∀ y ∈ x0, y.length ≤ 1048576) (hl1 : x1.length ≤ 1048576) (hin1 : ∀ y ∈ x1, y.length ≤ 1048576)
    (gs : Rd w w.heap.size as' (ints s)) (hls : s.length ≤ 1048576) (g : Rd w w.heap.size a (ints m)) (hl : m.length ≤ 1048576) :
    Calls Try.prog 26 #[.agg #[.slice a0 x0.length c0, .slice a1 x1.length c1], .slice as' s.length cs, .slice a m.length c] w fun e w' => e = .returned (.tuple #[.int .i64 (bA (schoolF ⟨x0, x1⟩ s m)), .int .i64 (bZ (schoolF ⟨x0, x1⟩ s m)), .bool (schoolF ⟨x0, x1⟩ s m).isSome]) ∧ Below w.heap.size w w' := by
  have X0 : Bx w (w.alloc (.cells #[.slice a0 x0.length c0, .slice a1 x1.length c1] 28)) [.slice a0 x0.length c0, .slice a1 x1.length c1] 28 := Bx.start w _ _
  have LS := Lib.hid (fun w' hb hc0 hc1 => l05Seats_any w' w.heap.size 0 a0 c0 x0 a1 c1 x1 hc0 hc1 as' cs s (h.to hb) hl0 hin0 hl1 hin1 (gs.to hb) hls)
  cases t1 : seatsB ⟨x0, x1⟩ s with
  | false =>
    rw [school_no1 t1]
    rw [t1] at LS
    clear h g gs hin0 hin1 t1
    go_enter Try.func26, Try.ntmps26
    go_wp2_with fail
    refine (LS.out _ X0.1 X0.two.1 X0.two.2).mono ?_
    rintro e w1 ⟨rfl, q, rfl⟩
    go_wp2_with fail
    go_ret3
    exact ⟨rfl, below_drewN X0.1 q⟩
  | true =>
  rw [t1] at LS
  by_cases hml : m.length = x0.length
  case neg =>
    rw [school_no2 (partners_len hml)]
    have hne : ((m.length : Int) != (x0.length : Int)) = true := by simp; omega
    clear h g gs hin0 hin1 t1 hml
    go_enter Try.func26, Try.ntmps26
    go_wp2_with fail
    refine (LS.out _ X0.1 X0.two.1 X0.two.2).mono ?_
    rintro e w1 ⟨rfl, q, rfl⟩
    have X1 := X0.drewN q
    obtain ⟨q0, q1⟩ := X1.two
    go_wp2_with fail
    go_ret3
    exact ⟨rfl, X1.1⟩
  have hv : Wish ⟨x0, x1⟩ := wish_of (Bool.and_eq_true _ _ ▸ t1 : wishB ⟨x0, x1⟩ = true ∧ _).1
  have hsm : manyB s x0.length x0.length 0 8 = true := (Bool.and_eq_true _ _ ▸ t1 : wishB ⟨x0, x1⟩ = true ∧ manyB s x0.length x0.length 0 8 = true).2
  have hsl : s.length = x0.length := by have := (manyB_iff.1 hsm).1; omega
  have hne : ((m.length : Int) != (x0.length : Int)) = false := by simp; omega
  have h8 := hv.n8
  simp only at h8
  have hln := Lib.hid hv.len
  simp only at hln
  have Hm : Hid (m.length = x0.length) := hml
  have Hs : Hid (s.length = x0.length) := hsl
  have G := Lib.hid g
  have GS := Lib.hid gs
  have hm8 : m.length ≤ 8 := by omega
  have HNO : Hid (∀ t, t < m.length → partR ⟨x0, x1⟩ m t = false → schoolF ⟨x0, x1⟩ s m = none) := fun t ht hp => school_no2 (by rw [partners_eqR hml]; exact rangeAll_false ht hp)
  have HYES : Hid ((List.range m.length).all (partR ⟨x0, x1⟩ m) = true → partnersB ⟨x0, x1⟩ m = true) := fun hh => by rw [partners_eqR hml]; exact hh
  have LP : Hid (∀ (w' : World) (i k : Nat), Below w.heap.size w w' → i < m.length → k < m.length → w'.cell? ⟨w.heap.size, 0, none⟩ = some (.slice a0 x0.length c0) → w'.cell? ⟨w.heap.size, 1, none⟩ = some (.slice a1 x1.length c1) → _) := fun w' i k hb hi hk e0 e1 => l05Pair_any w' w.heap.size 0 a0 c0 x0 a1 c1 x1 e0 e1 (h.to hb) hin0 hin1 i k (by omega) (by rw [hln.out]; omega)
  have LD := Lib.hid (fun w' a c ys x y => l05Dearer_any w' a c ys x y)
  have LX := Lib.hid (fun x v => l00In_any x 0 ((m.length : Int) - 1) v)
  have Hh := Lib.hid h
  have Hin0 := Lib.hid hin0
  have Hin1 := Lib.hid hin1
  have Hv := Lib.hid hv
  have T1 := Lib.hid t1
  clear h g gs hin0 hin1 t1 hml hsl hsm hv
  go_enter Try.func26, Try.ntmps26
  go_wp2_with fail
  refine (LS.out _ X0.1 X0.two.1 X0.two.2).mono ?_
  rintro e w1 ⟨rfl, q, hq⟩
  have X1 : Bx w w1 [.slice a0 x0.length c0, .slice a1 x1.length c1] 28 := by rw [hq]; exact X0.drewN q
  have hx1 := X1.lt
  obtain ⟨q0, q1⟩ := X1.two
  clear hq X0
  go_wp2_with (at_make; refine wpList_make_blk _ rfl _ _ 25 rfl 2 (.int .i64 0) 8 Try.underlying25 info_i64p rfl _ _ m.length rfl rfl (by omega) (by unfold maxLen; omega) ?_)
  intro w2 hb2 hw2 hs2
  have X2 := X1.next hw2
  have HB0 : Blk w2 w1.heap.size (ints (cntL m m.length 0)) 2 := by rw [cntL_zero, ← ints_replicate]; exact hb2
  clear hb2 hw2 X1 q0 q1
  go_wp2_with fail
  go_loopw [34] (fun tv wr => ∃ t : Nat, t ≤ m.length ∧ tv = .int .i64 t ∧ Hid ((List.range t).all (partR ⟨x0, x1⟩ m) = true) ∧ Blk wr w1.heap.size (ints (cntL m m.length t)) 2 ∧ Bx w wr [.slice a0 x0.length c0, .slice a1 x1.length c1] 28) (fun tv _ => m.length - (intOf tv).toNat)
  case atStart => exact ⟨0, Nat.zero_le _, rfl, rfl, HB0, X2⟩
  case round =>
    clear HB0 X2
    obtain ⟨t, ht, rfl, hall, hB, X⟩ := hrel
    by_cases hlt : t < m.length
    · obtain ⟨b4, o4, x, rfl, hb4, hc4, hx4⟩ := G.out.get hlt
      have d4 := (X.1.cell (p := ⟨b4, o4 + t, none⟩) hb4).trans hc4
      have hgd := Lib.hid (getD_of_get hx4.out)
      have i0 : (0 : Int) ≤ (t : Int) := Int.natCast_nonneg _
      have i1 : (t : Int) < (m.length : Int) := by omega
      have hpr : Hid (partR ⟨x0, x1⟩ m t = (decide (x = -1) || (inB x 0 ((m.length : Int) - 1) && pairB ⟨x0, x1⟩ t x.toNat))) := by unfold partR; rw [hgd.out]; rfl
      by_cases hx1' : x = -1
      · subst hx1'
        have HA : Hid ((List.range (t + 1)).all (partR ⟨x0, x1⟩ m) = true) := rall_step hall.out (by rw [hpr.out]; rfl)
        have HB1 : Blk wr w1.heap.size (ints (cntL m m.length (t + 1))) 2 := by rw [cntL_skip (by rw [hgd.out]; omega)]; exact hB
        clear hall hB hpr hgd hc4
        go_wp2_with fail
        go_roundw
        case rel => exact ⟨t + 1, by omega, by go_num, HA, HB1, X⟩
        case measure => simp [intOf]; omega
      · have hne1 : (x == -1) = false := by simpa using hx1'
        have LX1 := Lib.hid (LX.out x)
        cases hin : inB x 0 ((m.length : Int) - 1) with
        | false =>
          have HB := Lib.hid (HNO.out t hlt (by rw [hpr.out, hin, decide_eq_false hx1']; rfl))
          rw [hin] at LX1
          have hb := X.1
          clear hall hB hpr hgd hc4 hx1' X
          go_wp2_with (go_at_call 65; refine (LX1.out _).mono ?_; rintro e w' ⟨rfl, rfl⟩)
          go_ret3
          exact ⟨by rw [HB.out]; rfl, hb⟩
        | true =>
          rw [hin] at LX1
          obtain ⟨hx0, hx9⟩ := inB_iff.1 hin
          obtain ⟨k, rfl⟩ : ∃ k : Nat, x = k := ⟨x.toNat, by omega⟩
          have hk : k < m.length := by omega
          obtain ⟨q0, q1⟩ := X.two
          have LP1 := Lib.hid (LP.out wr t k X.1 hlt hk q0 q1)
          cases t3 : pairB ⟨x0, x1⟩ t k with
          | false =>
            have HB := Lib.hid (HNO.out t hlt (by rw [hpr.out, decide_eq_false hx1', Int.toNat_natCast, t3, Bool.and_false]; rfl))
            rw [t3] at LP1
            have hb := X.1
            clear hall hB hpr hgd hc4 hx1' X hin hx0 hx9 q0 q1
            go_wp2_with (first | (go_at_call 65; refine (LX1.out _).mono ?_; rintro e w' ⟨rfl, rfl⟩) | (go_at_call 66; refine LP1.out.mono ?_; rintro e w' ⟨rfl, rfl⟩))
            go_ret3
            exact ⟨by rw [HB.out]; rfl, hb⟩
          | true =>
            rw [t3] at LP1
            have HA : Hid ((List.range (t + 1)).all (partR ⟨x0, x1⟩ m) = true) := rall_step hall.out (by rw [hpr.out, hin, Int.toNat_natCast, t3]; simp)
            have ck : wr.cell? ⟨w1.heap.size, k, none⟩ = some (.int .i64 ((hasN m k t).length : Int)) := by
              rw [hB.cell]; simp only [ints, List.getElem?_map, cntL_get hk, Option.map_some]
            have fk := hB.free k
            have HS := Lib.hid (hB.setI k ((hasN m k t).length + 1))
            rw [← cntL_set hgd.out] at HS
            have hnl := hasN_len m k t
            generalize (hasN m k t).length = ln at *
            have X5 := X.far (below_sto (Below.refl w1.heap.size wr) (g := w1.heap.size) (Nat.le_refl _) k (.int .i64 ((ln : Int) + 1))) (by omega)
            have k0 : (0 : Int) ≤ (k : Int) := Int.natCast_nonneg _
            have k1 : (k : Int) < (m.length : Int) := by omega
            have HL := Lib.hid (cntL_len m m.length t)
            clear hall hB hpr hgd hc4 hx1' X hin hx0 hx9 q0 q1
            go_wp2_with (first | (go_at_call 65; refine (LX1.out _).mono ?_; rintro e w' ⟨rfl, rfl⟩) | (go_at_call 66; refine LP1.out.mono ?_; rintro e w' ⟨rfl, rfl⟩))
            go_roundw
            case rel => exact ⟨t + 1, by omega, by go_num, HA, HS.out, X5⟩
            case measure => simp [intOf]; omega
    · have htm : t = m.length := by omega
      subst htm
      have HP := Lib.hid (HYES.out hall.out)
      obtain ⟨w5, hw5⟩ : ∃ W : World, W = wr := ⟨_, rfl⟩
      subst hw5
      have HC : Hid (∀ k, k < m.length → ∀ z : Later w5, z.w'.cell? ⟨w1.heap.size, k, none⟩ = some (.int .i64 ((hasL m k).length : Int))) := fun k hk z => z.cell hB.lt (by rw [hB.cell]; simp only [ints, List.getElem?_map, cntL_get hk, Option.map_some, hasL])
      have HSE : Hid (∀ k, k < m.length → ∃ b5 o5 y, as' = some ⟨b5, o5, none⟩ ∧ (∀ z : Later w5, z.w'.cell? ⟨b5, o5 + k, none⟩ = some (.int .i64 y)) ∧ Hid (s[k]? = some y)) := fun k hk => by
        obtain ⟨b5, o5, y, e5, hb5, hc5, hy5⟩ := GS.out.get (k := k) (by rw [Hs.out, ← Hm.out]; exact hk)
        exact ⟨b5, o5, y, e5, fun z => ((below_then X.1 z.h).cell (p := ⟨b5, o5 + k, none⟩) hb5).trans hc5, hy5⟩
      have HFull : Hid (∀ k, k < m.length → ¬ ((hasL m k).length : Int) ≤ s.getD k 0 → schoolF ⟨x0, x1⟩ s m = none) := fun k hk hh => school_no3 (rangeAll_false (n := x0.length) (by rw [← Hm.out]; exact hk) (decide_eq_false hh))
      have HLL := Lib.hid (cntL_len m m.length m.length)
      clear hB hall
      go_wp2_with fail
      go_loopw [71] (fun kv wr => ∃ k : Nat, k ≤ m.length ∧ kv = .int .i64 k ∧ Hid (∀ j, j < k → ((hasL m j).length : Int) ≤ s.getD j 0) ∧ Below w5.heap.size w5 wr) (fun kv _ => m.length - (intOf kv).toNat)
      case atStart => exact ⟨0, Nat.zero_le _, rfl, fun _ hj => by omega, Below.refl _ _⟩
      case round =>
        obtain ⟨k, hk, rfl, hle, hw5⟩ := hrel
        by_cases hlk : k < m.length
        · have c1' := HC.out k hlk
          obtain ⟨b5, o5, y, rfl, c2', hy5⟩ := HSE.out k hlk
          have F1 : ∀ z : Later wr, z.w'.cell? ⟨w1.heap.size, k, none⟩ = some (.int .i64 ((hasL m k).length : Int)) := fun z => c1' ⟨z.w', below_then hw5 z.h⟩
          have F2 : ∀ z : Later wr, z.w'.cell? ⟨b5, o5 + k, none⟩ = some (.int .i64 y) := fun z => c2' ⟨z.w', below_then hw5 z.h⟩
          have hgd := Lib.hid (getD_of_get hy5.out)
          have HF1 := Lib.hid (HFull.out k hlk)
          rw [hgd.out] at HF1
          have HL1 : Hid (((hasL m k).length : Int) ≤ y → ∀ j, j < k + 1 → ((hasL m j).length : Int) ≤ s.getD j 0) := fun hh j hj => by
            by_cases e : j = k
            · subst e; rw [hgd.out]; exact hh
            · exact hle.out j (by omega)
          have k0 : (0 : Int) ≤ (k : Int) := Int.natCast_nonneg _
          have k1 : (k : Int) < (m.length : Int) := by omega
          have k2 : (k : Int) < (s.length : Int) := by rw [Hs.out, ← Hm.out]; omega
          generalize (hasL m k).length = ln at *
          clear hgd hle c1' c2'
          by_cases hc : (ln : Int) ≤ y
          · have HL2 := Lib.hid (HL1.out hc)
            have hgt : ¬ (y < (ln : Int)) := by omega
            go_wp2_with fail
            refine wp_region_later (by kernel_rfl) (by kernel_rfl) ?_
            repeat (go_big_quiet_step (fail))
            refine wpQuiet_nil ?_
            rintro wq ⟨⟨_, hbq⟩, rfl⟩
            clear F1 F2
            have hw5' := below_then hw5 hbq
            go_wp2_with fail
            go_roundw
            case rel => exact ⟨k + 1, by omega, by go_num, HL2, hw5'⟩
            case measure => simp [intOf]; omega
          · have HF2 := Lib.hid (HF1.out (by omega))
            have hgt : (y < (ln : Int)) := by omega
            go_wp2_with fail
            refine wp_region_later (by kernel_rfl) (by kernel_rfl) ?_
            repeat (go_big_quiet_step (fail))
            refine wpQuiet_nil ?_
            rintro wq ⟨⟨_, hbq⟩, rfl⟩
            clear F1 F2
            have hwf := below_then X.1 (below_then hw5 hbq)
            go_wp2_with fail
            go_ret3
            rw [HF2.out]
            exact ⟨rfl, hwf⟩
        · have hkk : k = m.length := by omega
          subst hkk
          have hfull : fullB ⟨x0, x1⟩ s m = true := List.all_eq_true.2 fun j hj => decide_eq_true (hle.out j (by rw [Hm.out]; exact List.mem_range.1 hj))
          have HSF : Hid (schoolF ⟨x0, x1⟩ s m = first2 m.length (sblocksR ⟨x0, x1⟩ s m)) := by
            rw [Hid, school_yes T1.out HP.out hfull, school_eqR Hv.out HP.out, Hm.out]
          have Hbl : Hid (∀ (i k : Nat) (ys zs : List Int) (x y : Int), i < m.length → k < m.length → x0[i]? = some ys → x1[k]? = some zs → m[i]? = some x → s[k]? = some y → sblocksR ⟨x0, x1⟩ s m i k = (pairB ⟨x0, x1⟩ i k && !(x == (k : Int)) && dearB ys k x && (decide (((hasL m k).length : Int) < y) || (List.range m.length).any (rivalB ⟨x0, x1⟩ m i k)))) := by
            intro i k ys zs x y _ _ e1 e2 e3 e4
            unfold sblocksR
            simp only [row_get e1, getD_of_get e3, getD_of_get e4]
            rfl
          have HH : Hid (∀ i k, i < m.length → k < m.length → sblocksR ⟨x0, x1⟩ s m i k = true → (∀ i' k', i' < i → k' < m.length → sblocksR ⟨x0, x1⟩ s m i' k' = false) → (∀ k', k' < k → sblocksR ⟨x0, x1⟩ s m i k' = false) → schoolF ⟨x0, x1⟩ s m = some (i, k)) := fun i k h1 h2 h3 h4 h5 => by rw [HSF.out]; exact first2_here h1 h2 h3 h4 h5
          have HZ : Hid ((∀ i k, i < m.length → k < m.length → sblocksR ⟨x0, x1⟩ s m i k = false) → schoolF ⟨x0, x1⟩ s m = none) := fun hh => by rw [HSF.out]; exact first2_none.2 hh
          generalize hbf : sblocksR ⟨x0, x1⟩ s m = bf at *
          clear hfull hle HSF hbf HFull HNO HYES
          go_wp2_with fail
          go_loopw [13] (fun iv wr => ∃ i : Nat, i ≤ m.length ∧ iv = .int .i64 i ∧ Hid (∀ i' k', i' < i → k' < m.length → bf i' k' = false) ∧ Below w5.heap.size w5 wr) (fun iv _ => m.length - (intOf iv).toNat)
          case atStart => exact ⟨0, Nat.zero_le _, rfl, fun _ _ h => by omega, hw5⟩
          case round =>
            clear hw5
            obtain ⟨i, hi, rfl, hrows, hw5⟩ := hrel
            by_cases hlt : i < m.length
            · go_wp2_with fail
              go_loopw [14] (fun kv wr => ∃ k : Nat, k ≤ m.length ∧ kv = .int .i64 k ∧ Hid (∀ k', k' < k → bf i k' = false) ∧ Below w5.heap.size w5 wr) (fun kv _ => m.length - (intOf kv).toNat)
              case atStart => exact ⟨0, Nat.zero_le _, rfl, fun _ h => by omega, hw5⟩
              case round =>
                clear hw5
                obtain ⟨k, hk, rfl, hcols, hw5⟩ := hrel
                by_cases hlk : k < m.length
                · obtain ⟨b2, o2, ys, a2, c2, e2, hb2, hc2, _, hr2, hy2⟩ := (Hh.out.1).get (k := i) (by rw [← Hm.out]; exact hlt)
                  obtain ⟨b3, o3, zs, a3, c3, e3, hb3, hc3, _, hr3, hy3⟩ := (Hh.out.2).get (k := k) (by rw [hln.out, ← Hm.out]; exact hlk)
                  obtain ⟨b4, o4, x, e4, hb4, hc4, hx4⟩ := G.out.get (k := i) hlt
                  obtain ⟨b5, o5, y, e5, hc5, hy5⟩ := HSE.out k hlk
                  subst e2 e3 e4 e5
                  have hWB : Hid (∀ w', Below wr.heap.size wr w' → Below w.heap.size w w') := fun w' hb => below_then X.1 (below_then hw5 hb)
                  have hW5 : Hid (∀ w', Below wr.heap.size wr w' → Below w5.heap.size w5 w') := fun w' hb => below_then hw5 hb
                  have hX : Hid (∀ w', Below wr.heap.size wr w' → Bx w w' [.slice (some ⟨b2, o2, none⟩) x0.length c0, .slice (some ⟨b3, o3, none⟩) x1.length c1] 28) := fun w' hb => X.next (below_then hw5 hb)
                  have c0' : Hid (∀ (p : Addr) (v : Value), p.block < w.heap.size → w.cell? p = some v → ∀ z : Later wr, z.w'.cell? p = some v) := fun p v hp hv z => ((hWB.out _ z.h).cell (p := p) hp).trans hv
                  have F0 : ∀ z : Later wr, z.w'.cell? ⟨w.heap.size, 0, none⟩ = some (.slice (some ⟨b2, o2, none⟩) x0.length c0) := fun z => (hX.out _ z.h).two.1
                  have F1 : ∀ z : Later wr, z.w'.cell? ⟨w.heap.size, 1, none⟩ = some (.slice (some ⟨b3, o3, none⟩) x1.length c1) := fun z => (hX.out _ z.h).two.2
                  have F2 := c0'.out ⟨b2, o2 + i, none⟩ _ hb2 hc2
                  have F3 := c0'.out ⟨b3, o3 + k, none⟩ _ hb3 hc3
                  have F4 := c0'.out ⟨b4, o4 + i, none⟩ _ hb4 hc4
                  have F5 : ∀ z : Later wr, z.w'.cell? ⟨b5, o5 + k, none⟩ = some (.int .i64 y) := fun z => hc5 ⟨z.w', hW5.out _ z.h⟩
                  have F6 : ∀ z : Later wr, z.w'.cell? ⟨w1.heap.size, k, none⟩ = some (.int .i64 ((hasL m k).length : Int)) := fun z => HC.out k hlk ⟨z.w', hW5.out _ z.h⟩
                  have LT1 : Hid (∀ w', Below wr.heap.size wr w' → _) := fun w' hb => LP.out w' i k (hWB.out w' hb) hlt hlk (hX.out _ hb).two.1 (hX.out _ hb).two.2
                  have LD1 : Hid (∀ w', Below wr.heap.size wr w' → _) := fun w' hb => LD.out w' a2 c2 ys k x (hr2.to (hWB.out w' hb)) (Hin0.out ys (List.mem_of_getElem? hy2.out))
                  have LD2 : Hid (∀ (w' : World) (t : Nat), Below wr.heap.size wr w' → _) := fun w' t hb => LD.out w' a3 c3 zs i t (hr3.to (hWB.out w' hb)) (Hin1.out zs (List.mem_of_getElem? hy3.out))
                  have hbl := Hbl.out i k ys zs x y hlt hlk hy2.out hy3.out hx4.out hy5.out
                  have HN : Hid (∀ w' : World, bf i k = false → Below wr.heap.size wr w' → ∃ k' : Nat, k' ≤ m.length ∧ (Value.int .i64 ((k : Int) + 1)) = .int .i64 k' ∧ Hid (∀ q, q < k' → bf i q = false) ∧ Below w5.heap.size w5 w') := fun w' hf hb =>
                    ⟨k + 1, by omega, by go_num, fun q hq => by
                      by_cases e : q = k
                      · subst e; exact hf
                      · exact hcols.out q (by omega), hW5.out w' hb⟩
                  have HR : Hid (bf i k = true → schoolF ⟨x0, x1⟩ s m = some (i, k)) := fun hf => HH.out i k hlt hlk hf hrows.out hcols.out
                  have HRV : Hid (∀ (t : Nat) (v : Int), m[t]? = some v → rivalB ⟨x0, x1⟩ m i k t = ((v == (k : Int)) && dearB zs i t)) := fun t v hv => by
                    unfold rivalB
                    simp only [getD_of_get hv, row_get hy3.out]
                    rfl
                  have i0 : (0 : Int) ≤ (i : Int) := Int.natCast_nonneg _
                  have k0 : (0 : Int) ≤ (k : Int) := Int.natCast_nonneg _
                  have i1 : (i : Int) < (m.length : Int) := by omega
                  have k1 : (k : Int) < (m.length : Int) := by omega
                  have i2 : (i : Int) < (x0.length : Int) := by rw [← Hm.out]; omega
                  have k2 : (k : Int) < (s.length : Int) := by rw [Hs.out, ← Hm.out]; omega
                  have k3 : (k : Int) < (x1.length : Int) := by rw [hln.out, ← Hm.out]; omega
                  generalize (hasL m k).length = ln at *
                  clear hc2 hc3 hc4 hc5 hr2 hr3 hy2 hy3 hx4 hy5 hcols hrows c0' hX hw5 X
                  cases t1 : pairB ⟨x0, x1⟩ i k with
                  | false =>
                    rw [t1] at LT1
                    rw [t1, Bool.false_and, Bool.false_and, Bool.false_and] at hbl
                    go_wp2_with fail
                    refine wp_region_later (by kernel_rfl) (by kernel_rfl) ?_
                    repeat (go_big_quiet_step ((go_at_call 66; exact later_same (LT1.out _ (Later.h _)))))
                    refine wpQuiet_nil ?_
                    rintro wq ⟨⟨_, hbq⟩, rfl⟩
                    clear F0 F1 F2 F3 F4 F5 F6
                    go_wp2_with fail
                    go_roundw
                    case rel => exact HN.out _ hbl hbq
                    case measure => simp [intOf]; omega
                  | true =>
                    rw [t1] at LT1
                    rw [t1, Bool.true_and] at hbl
                    cases t2 : (x == (k : Int)) with
                    | true =>
                      rw [t2, Bool.not_true, Bool.false_and, Bool.false_and] at hbl
                      go_wp2_with fail
                      refine wp_region_later (by kernel_rfl) (by kernel_rfl) ?_
                      repeat (go_big_quiet_step ((go_at_call 66; exact later_same (LT1.out _ (Later.h _)))))
                      refine wpQuiet_nil ?_
                      rintro wq ⟨⟨_, hbq⟩, rfl⟩
                      clear F0 F1 F2 F3 F4 F5 F6
                      go_wp2_with fail
                      go_roundw
                      case rel => exact HN.out _ hbl hbq
                      case measure => simp [intOf]; omega
                    | false =>
                      rw [t2, Bool.not_false, Bool.true_and] at hbl
                      cases t3 : dearB ys k x with
                      | false =>
                        rw [t3, Bool.false_and] at hbl
                        rw [t3] at LD1
                        go_wp2_with fail
                        refine wp_region_later (by kernel_rfl) (by kernel_rfl) ?_
                        repeat (go_big_quiet_step (first | (go_at_call 66; exact later_same (LT1.out _ (Later.h _))) | (go_at_call 67; exact later_same (LD1.out _ (Later.h _)))))
                        refine wpQuiet_nil ?_
                        rintro wq ⟨⟨_, hbq⟩, rfl⟩
                        clear F0 F1 F2 F3 F4 F5 F6
                        go_wp2_with fail
                        go_roundw
                        case rel => exact HN.out _ hbl hbq
                        case measure => simp [intOf]; omega
                      | true =>
                        rw [t3, Bool.true_and] at hbl
                        rw [t3] at LD1
                        go_wp2_with fail
                        refine wp_region_later (by kernel_rfl) (by kernel_rfl) ?_
                        repeat (go_big_quiet_step (first | (go_at_call 66; exact later_same (LT1.out _ (Later.h _))) | (go_at_call 67; exact later_same (LD1.out _ (Later.h _)))))
                        refine wpQuiet_nil ?_
                        rintro wq ⟨⟨_, hbq⟩, rfl⟩
                        have G1 : ∀ z : Later wq, z.w'.cell? ⟨w.heap.size, 1, none⟩ = some (.slice (some ⟨b3, o3, none⟩) x1.length c1) := fun z => F1 ⟨z.w', below_then hbq z.h⟩
                        have G3 : ∀ z : Later wq, z.w'.cell? ⟨b3, o3 + k, none⟩ = some (.slice a3 zs.length c3) := fun z => F3 ⟨z.w', below_then hbq z.h⟩
                        have G5 : ∀ z : Later wq, z.w'.cell? ⟨b5, o5 + k, none⟩ = some (.int .i64 y) := fun z => F5 ⟨z.w', below_then hbq z.h⟩
                        have G6 : ∀ z : Later wq, z.w'.cell? ⟨w1.heap.size, k, none⟩ = some (.int .i64 (ln : Int)) := fun z => F6 ⟨z.w', below_then hbq z.h⟩
                        have HM : Hid (∀ t, t < m.length → ∃ v, m[t]? = some v ∧ ∀ z : Later wq, z.w'.cell? ⟨b4, o4 + t, none⟩ = some (.int .i64 v)) := fun t ht => by
                          obtain ⟨b6, o6, v, e6, hb6, hc6, hx6⟩ := G.out.get (k := t) ht
                          injection e6 with e6
                          injection e6 with e6 e7
                          subst e6 e7
                          exact ⟨v, hx6.out, fun z => ((hWB.out _ (below_then hbq z.h)).cell (p := ⟨b4, o4 + t, none⟩) hb6).trans hc6⟩
                        clear F0 F1 F2 F3 F4 F5 F6 LT1 LD1
                        go_wp2_with fail
                        refine wp_region_later (by kernel_rfl) (by kernel_rfl) ?_
                        repeat (go_big_quiet_step (fail))
                        refine wpQuiet_nil ?_
                        rintro wq2 ⟨⟨_, hbq2⟩, rfl⟩
                        have C1 : wq2.cell? ⟨w.heap.size, 1, none⟩ = some (.slice (some ⟨b3, o3, none⟩) x1.length c1) := G1 ⟨wq2, hbq2⟩
                        have C3 : wq2.cell? ⟨b3, o3 + k, none⟩ = some (.slice a3 zs.length c3) := G3 ⟨wq2, hbq2⟩
                        have HM2 : Hid (∀ t, t < m.length → ∃ v, m[t]? = some v ∧ wq2.cell? ⟨b4, o4 + t, none⟩ = some (.int .i64 v)) := fun t ht => by
                          obtain ⟨v, e1, e2⟩ := HM.out t ht
                          exact ⟨v, e1, e2 ⟨wq2, hbq2⟩⟩
                        have LD3 : Hid (∀ t : Nat, _) := fun t => LD2.out wq2 t (below_then hbq hbq2)
                        have hbqq := below_then hbq hbq2
                        clear G1 G3 G5 G6 HM LD2 hbq hbq2
                        go_wp2_with fail
                        go_loop [15, 131] (fun fv tv => ∃ (t : Nat) (f : Bool), t ≤ m.length ∧ tv = .int .i64 t ∧ fv = .bool f ∧ Hid (f = (decide ((ln : Int) < y) || (List.range t).any (rivalB ⟨x0, x1⟩ m i k)))) (fun _ tv => m.length - (intOf tv).toNat)
                        case atStart => exact ⟨0, _, Nat.zero_le _, rfl, rfl, by simp [Hid]⟩
                        case round =>
                          obtain ⟨t, f, ht, rfl, rfl, hf⟩ := hrel
                          by_cases hlt2 : t < m.length
                          · cases f with
                            | true =>
                              have HF : Hid (true = (decide ((ln : Int) < y) || (List.range (t + 1)).any (rivalB ⟨x0, x1⟩ m i k))) := by
                                rw [Hid, rany_step, ← Bool.or_assoc, ← hf.out]; rfl
                              clear hf
                              go_wp2_with fail
                              go_round
                              case rel => exact ⟨t + 1, true, by omega, by go_num, rfl, HF⟩
                              case measure => simp [intOf]; omega
                            | false =>
                              obtain ⟨v, hv, d4⟩ := HM2.out t hlt2
                              have HV := Lib.hid (HRV.out t v hv)
                              have LD4 := Lib.hid (LD3.out t)
                              have j0 : (0 : Int) ≤ (t : Int) := Int.natCast_nonneg _
                              have j1 : (t : Int) < (m.length : Int) := by omega
                              cases t5 : (v == (k : Int)) with
                              | false =>
                                have HF : Hid (false = (decide ((ln : Int) < y) || (List.range (t + 1)).any (rivalB ⟨x0, x1⟩ m i k))) := by
                                  rw [Hid, rany_step, ← Bool.or_assoc, ← hf.out, HV.out, t5]; rfl
                                clear hf hv
                                go_wp2_with fail
                                go_round
                                case rel => exact ⟨t + 1, false, by omega, by go_num, rfl, HF⟩
                                case measure => simp [intOf]; omega
                              | true =>
                                have HF : Hid (dearB zs i t = (decide ((ln : Int) < y) || (List.range (t + 1)).any (rivalB ⟨x0, x1⟩ m i k))) := by
                                  rw [Hid, rany_step, ← Bool.or_assoc, ← hf.out, HV.out, t5]; rfl
                                generalize dearB zs i t = f2 at *
                                clear hf hv
                                go_wp2_with (go_at_call 67; refine LD4.out.mono ?_; rintro e w' ⟨rfl, rfl⟩)
                                go_round
                                case rel => exact ⟨t + 1, f2, by omega, by go_num, rfl, HF⟩
                                case measure => simp [intOf]; omega
                          · have htt : t = m.length := by omega
                            subst htt
                            rw [← hf.out] at hbl
                            clear hf
                            cases f with
                            | true =>
                              have HRR := Lib.hid (HR.out hbl)
                              have hbb := hWB.out _ hbqq
                              go_wp2_with fail
                              go_ret3
                              exact ⟨by rw [HRR.out]; rfl, hbb⟩
                            | false =>
                              go_wp2_with fail
                              go_roundw
                              case rel => exact HN.out _ hbl hbqq
                              case measure => simp [intOf]; omega
                · have : k = m.length := by omega
                  subst this
                  have HROW : Hid (∀ i' k', i' < i + 1 → k' < m.length → bf i' k' = false) := fun i' k' h1 h2 => by
                    by_cases e : i' = i
                    · subst e; exact hcols.out k' h2
                    · exact hrows.out i' k' (by omega) h2
                  clear hcols hrows
                  go_wp2_with fail
                  go_roundw
                  case rel => exact ⟨i + 1, by omega, by go_num, HROW, hw5⟩
                  case measure => simp [intOf]; omega
            · have : i = m.length := by omega
              subst this
              have HR : Hid (schoolF ⟨x0, x1⟩ s m = none) := HZ.out hrows.out
              have hb := below_then X.1 hw5
              clear hrows
              go_wp2_with fail
              go_ret3
              exact ⟨by rw [HR.out]; rfl, hb⟩
end Go.Proofs.Ytdipckpcmnhpjaa
