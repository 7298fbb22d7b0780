/-
  Wishes that are valid, whether two take one another, places: the program's road.
-/
import Derived.Test.YtdipckpcmnhpjaaMatS
import Derived.Test.YtdipckpcmnhpjaaWishesT
namespace Go.Proofs.Ytdipckpcmnhpjaa
set_option linter.unusedVariables false
set_option linter.unusedSimpArgs false
open Go.RowKit

theorem rangeAll_succ (p : Nat → Bool) (k : Nat) : (List.range (k + 1)).all p = ((List.range k).all p && p k) := by
  rw [List.range_succ, List.all_append]; simp
theorem rangeAll_false {p : Nat → Bool} {k n : Nat} (hk : k < n) (h : p k = false) : (List.range n).all p = false := by
  rw [← Bool.not_eq_true]
  intro ha
  have := List.all_eq_true.1 ha k (List.mem_range.2 hk)
  rw [h] at this; cases this
def twiceB (xs : List Int) : Bool := !decide xs.Nodup
theorem containsI_hasB (xs : List Int) (x : Int) : containsI xs x = hasB xs x := by rw [Bool.eq_iff_iff, containsI_iff, hasB_iff]
set_option maxHeartbeats 1000000 in
theorem hasTwice_any (w : World) (a : Option Addr) (c : Nat) (xs : List Int) (h : Rd w w.heap.size a (ints xs)) (hc : xs.length ≤ c) (hl : xs.length ≤ 1048576) :
    Calls Try.prog 101 #[.slice a xs.length c] w fun e w' => e = .returned (.bool (twiceB xs)) ∧ w = w' := by
  go_enter Try.func101, Try.ntmps101
  go_wp2
  go_loop [7] (fun i => ∃ k : Nat, k ≤ xs.length ∧ i = .int .i64 k ∧ Hid ((xs.take k).Nodup)) (fun i => xs.length - (intOf i).toNat)
  case atStart => exact ⟨0, Nat.zero_le _, rfl, by simp [Hid]⟩
  case round =>
    obtain ⟨k, hk, rfl, ha⟩ := hrel
    by_cases hlt : k < xs.length
    · obtain ⟨b, o, x, rfl, hbb, hck, hx⟩ := h.get hlt
      have hl1 : (xs.take k).length = k := by simp; omega
      have L2 := Lib.hid (contains_any w (some ⟨b, o, none⟩) c (xs.take k) x (h.take k) (by omega))
      rw [hl1] at L2
      clear hl1 h
      cases hin : containsI (xs.take k) x with
      | true =>
        have HF : Hid (twiceB xs = true) := by
          have := not_nodup_of hx.out (hasB_iff.1 (by rw [← containsI_hasB]; exact hin))
          simp [Hid, twiceB, this]
        rw [hin] at L2
        go_wp2_with (go_at_call 82; refine L2.out.mono ?_; rintro e w' ⟨rfl, rfl⟩)
        go_ret
        exact ⟨ret_bool HF.out.symm, rfl⟩
      | false =>
        have HN : Hid ((xs.take (k + 1)).Nodup) := (nodup_take_succ hx.out).2 ⟨ha.out, fun hm => by rw [containsI_iff.2 hm] at hin; cases hin⟩
        rw [hin] at L2
        go_wp2_with (go_at_call 82; refine L2.out.mono ?_; rintro e w' ⟨rfl, rfl⟩)
        go_round
        case rel => exact ⟨k + 1, by omega, by go_num, HN⟩
        case measure => simp [intOf]; omega
    · have : k = xs.length := by omega
      subst this
      rw [List.take_length] at ha
      have HF : Hid (twiceB xs = false) := by have := ha.out; simp [Hid, twiceB, this]
      go_wp2
      go_ret
      exact ⟨ret_bool HF.out.symm, rfl⟩
def aWishB (L : List (List Int)) : Bool := (L.all fun xs => onceB xs L.length) && inB L.length 1 8
theorem wish_two {L R : List (List Int)} (h : L.length = R.length) : wishB ⟨L, R⟩ = (aWishB L && aWishB R) := by
  have e2 : decide (R.length = R.length) = true := decide_eq_true rfl
  unfold wishB aWishB listsB
  simp only [h, e2, Bool.and_true]
  cases inB (R.length : Int) 1 8 <;> simp
theorem wish_len {L R : List (List Int)} (h : L.length ≠ R.length) : wishB ⟨L, R⟩ = false := by
  have : decide (R.length = L.length) = false := decide_eq_false (by omega)
  simp [wishB, listsB, this]
set_option maxHeartbeats 1000000 in
theorem areWishes_any (w : World) (a : Option Addr) (c : Nat) (L : List (List Int)) (h : RdII w w.heap.size a L) (hl : L.length ≤ 1048576) (hin : ∀ y ∈ L, y.length ≤ 1048576) :
    Calls Try.prog 100 #[.slice a L.length c] w fun e w' => e = .returned (.bool (aWishB L)) ∧ w = w' := by
  obtain ⟨n, hn⟩ : ∃ n, n = L.length := ⟨_, rfl⟩
  have HF : Hid (aWishB L = ((L.all fun xs => onceB xs n) && inB n 1 8)) := by rw [hn]; rfl
  have HN := Lib.hid hn
  have Hin := Lib.hid hin
  have LW := Lib.hid (fun v => within_any (n : Int) 1 8 v)
  have Hh := Lib.hid h
  clear h hin
  rw [← hn] at hl ⊢
  clear hn
  have hwr : IntKind.i64.wrap ((n : Int) - 1) = (n : Int) - 1 := IntWalk.i64_in _ (by omega)
  go_enter Try.func100, Try.ntmps100
  go_wp2
  go_loop [10] (fun i => ∃ k : Nat, k ≤ n ∧ i = .int .i64 k ∧ Hid (((L.take k).all fun xs => onceB xs n) = true)) (fun i => n - (intOf i).toNat)
  case atStart => exact ⟨0, Nat.zero_le _, rfl, by simp [Hid]⟩
  case round =>
    obtain ⟨k, hk, rfl, ha⟩ := hrel
    by_cases hlt : k < n
    · obtain ⟨b, o, ys, a', c', rfl, hbb, hck, hc', hr, hy⟩ := Hh.out.get (k := k) (by rw [← HN.out]; exact hlt)
      have hlen := Hin.out ys (List.mem_of_getElem? hy.out)
      have L1 := Lib.hid (fun lo hi => areWithin_any w a' c' ys lo hi hr (by omega))
      have L2 := Lib.hid (hasTwice_any w a' c' ys hr hc' hlen)
      have hob : onceB ys n = (allIn ys 0 ((n : Int) - 1) && !twiceB ys) := by simp [onceB, twiceB]
      clear hr
      cases h1 : allIn ys 0 ((n : Int) - 1) with
      | false =>
        rw [h1, Bool.false_and] at hob
        have HB : Hid (aWishB L = false) := by rw [Hid, HF.out, all_false (p := fun xs => onceB xs n) hy.out hob]; rfl
        have L1' := Lib.hid (L1.out 0 ((n : Int) - 1))
        rw [h1] at L1'
        clear hob L1
        go_wp2_with (first | (go_at_call 108; refine L1'.out.mono ?_; rintro e w' ⟨rfl, rfl⟩))
        go_ret
        exact ⟨ret_bool HB.out.symm, rfl⟩
      | true =>
        rw [h1, Bool.true_and] at hob
        have L1' := Lib.hid (L1.out 0 ((n : Int) - 1))
        rw [h1] at L1'
        clear L1
        cases h2 : twiceB ys with
        | true =>
          rw [h2] at hob L2
          have HB : Hid (aWishB L = false) := by rw [Hid, HF.out, all_false (p := fun xs => onceB xs n) hy.out hob]; rfl
          clear hob
          go_wp2_with (first | (go_at_call 108; refine L1'.out.mono ?_; rintro e w' ⟨rfl, rfl⟩) | (go_at_call 101; refine L2.out.mono ?_; rintro e w' ⟨rfl, rfl⟩))
          go_ret
          exact ⟨ret_bool HB.out.symm, rfl⟩
        | false =>
          rw [h2] at hob L2
          have HA : Hid (((L.take (k + 1)).all fun xs => onceB xs n) = true) := all_take_succ hy.out ha.out hob
          clear hob ha
          go_wp2_with (first | (go_at_call 108; refine L1'.out.mono ?_; rintro e w' ⟨rfl, rfl⟩) | (go_at_call 101; refine L2.out.mono ?_; rintro e w' ⟨rfl, rfl⟩))
          go_round
          case rel => exact ⟨k + 1, by omega, by go_num, HA⟩
          case measure => simp [intOf]; omega
    · have : k = n := by omega
      subst this
      have HB : Hid (aWishB L = inB k 1 8) := by rw [Hid, HF.out, ← List.take_length (l := L), ← HN.out, ha.out, Bool.true_and]
      clear ha
      go_wp2_with (go_at_call 120; refine (LW.out _).mono ?_; rintro e w' ⟨rfl, rfl⟩)
      go_ret
      exact ⟨ret_bool HB.out.symm, rfl⟩
set_option maxHeartbeats 1000000 in
theorem validWishes_any (w : World) (a0 : Option Addr) (c0 : Nat) (x0 : List (List Int)) (a1 : Option Addr) (c1 : Nat) (x1 : List (List Int)) (h : RdWishes w w.heap.size a0 x0 a1 x1) (hl0 : x0.length ≤ 1048576) (hin0 : ∀ y ∈ x0, y.length ≤ 1048576) (hl1 : x1.length ≤ 1048576) (hin1 : ∀ y ∈ x1, y.length ≤ 1048576) :
    Calls Try.prog 58 #[.agg #[.slice a0 x0.length c0, .slice a1 x1.length c1]] w fun e w' => e = .returned (.bool (wishB ⟨x0, x1⟩)) ∧ Below w.heap.size w w' := by
  have hB := bl1 w (.cells #[.slice a0 x0.length c0, .slice a1 x1.length c1] 28)
  have L0 := Lib.hid (areWishes_any _ a0 c0 x0 (RdII.to h.1 hB) hl0 hin0)
  have L1 := Lib.hid (areWishes_any _ a1 c1 x1 (RdII.to h.2 hB) hl1 hin1)
  clear h
  by_cases hn : x0.length = x1.length
  case neg =>
    have HF : Hid (wishB ⟨x0, x1⟩ = false) := wish_len hn
    have hne : ((x0.length : Int) == (x1.length : Int)) = false := by simp; omega
    clear hn
    go_enter Try.func58, Try.ntmps58
    go_wp2_with fail
    go_ret
    exact ⟨ret_bool HF.out.symm, hB⟩
  have HF : Hid (wishB ⟨x0, x1⟩ = (aWishB x0 && aWishB x1)) := wish_two hn
  have hne : ((x0.length : Int) == (x1.length : Int)) = true := by simp; omega
  clear hn
  cases t0 : aWishB x0 with
  | false =>
    rw [t0] at L0 HF
    go_enter Try.func58, Try.ntmps58
    go_wp2_with fail
    refine L0.out.mono ?_
    rintro e w1 ⟨rfl, rfl⟩
    go_wp2_with fail
    go_ret
    exact ⟨ret_bool HF.out.symm, hB⟩
  | true =>
    rw [t0, Bool.true_and] at HF
    rw [t0] at L0
    go_enter Try.func58, Try.ntmps58
    go_wp2_with fail
    refine L0.out.mono ?_
    rintro e w1 ⟨rfl, rfl⟩
    go_wp2_with fail
    refine L1.out.mono ?_
    rintro e w1 ⟨rfl, rfl⟩
    go_wp2_with fail
    go_ret
    exact ⟨ret_bool HF.out.symm, hB⟩
theorem count_any (w : World) (a0 : Option Addr) (c0 : Nat) (x0 : List (List Int)) (a1 : Option Addr) (c1 : Nat) (x1 : List (List Int)) :
    Calls Try.prog 70 #[.agg #[.slice a0 x0.length c0, .slice a1 x1.length c1]] w fun e w' => e = .returned (.int .i64 x0.length) ∧ Below w.heap.size w w' := by
  go_enter Try.func70, Try.ntmps70
  go_wp2
  go_ret
  exact ⟨rfl, bl1 _ _⟩
theorem row_get {xss : List (List Int)} {k : Nat} {ys : List Int} (h : xss[k]? = some ys) : row xss k = ys := by simp [row, List.getD, h]
set_option maxHeartbeats 2000000 in
theorem take_any (w : World) (a0 : Option Addr) (c0 : Nat) (x0 : List (List Int)) (a1 : Option Addr) (c1 : Nat) (x1 : List (List Int)) (h : RdWishes w w.heap.size a0 x0 a1 x1) (hin0 : ∀ y ∈ x0, y.length ≤ 1048576) (hin1 : ∀ y ∈ x1, y.length ≤ 1048576) (i k : Nat) (hi : i < x0.length) (hk : k < x1.length) :
    Calls Try.prog 71 #[.agg #[.slice a0 x0.length c0, .slice a1 x1.length c1], .int .i64 i, .int .i64 k] w fun e w' => e = .returned (.bool (pairB ⟨x0, x1⟩ i k)) ∧ Below w.heap.size w w' := by
  have hB := bl1 w (.cells #[.slice a0 x0.length c0, .slice a1 x1.length c1] 28)
  obtain ⟨b2, o2, ys, a2, c2, e2, hb2, hc2, _, hr2, hy2⟩ := h.1.get hi
  obtain ⟨b3, o3, zs, a3, c3, e3, hb3, hc3, _, hr3, hy3⟩ := h.2.get hk
  subst e2 e3
  have d2 := (hB.cell (p := ⟨b2, o2 + i, none⟩) hb2).trans hc2
  have d3 := (hB.cell (p := ⟨b3, o3 + k, none⟩) hb3).trans hc3
  have L2 := Lib.hid (contains_any _ a2 c2 ys k (hr2.to hB) (by have := hin0 ys (List.mem_of_getElem? hy2.out); omega))
  have L3 := Lib.hid (contains_any _ a3 c3 zs i (hr3.to hB) (by have := hin1 zs (List.mem_of_getElem? hy3.out); omega))
  have HF : Hid (pairB ⟨x0, x1⟩ i k = (containsI ys k && containsI zs i)) := by
    show _ = _
    unfold pairB
    simp only [row_get hy2.out, row_get hy3.out]
  have i0 : (0 : Int) ≤ (i : Int) := Int.natCast_nonneg _
  have k0 : (0 : Int) ≤ (k : Int) := Int.natCast_nonneg _
  have i1 : (i : Int) < (x0.length : Int) := by omega
  have k1 : (k : Int) < (x1.length : Int) := by omega
  clear h hr2 hr3 hy2 hy3 hin0 hin1 hc2 hc3 hi hk
  cases t2 : containsI ys k with
  | false =>
    rw [t2] at L2 HF
    go_enter Try.func71, Try.ntmps71
    go_wp2_with fail
    refine L2.out.mono ?_
    rintro e w1 ⟨rfl, rfl⟩
    go_wp2_with fail
    go_ret
    exact ⟨ret_bool HF.out.symm, hB⟩
  | true =>
    rw [t2, Bool.true_and] at HF
    rw [t2] at L2
    go_enter Try.func71, Try.ntmps71
    go_wp2_with fail
    refine L2.out.mono ?_
    rintro e w1 ⟨rfl, rfl⟩
    go_wp2_with fail
    refine L3.out.mono ?_
    rintro e w1 ⟨rfl, rfl⟩
    go_wp2_with fail
    go_ret
    exact ⟨ret_bool HF.out.symm, hB⟩
theorem place_any (w : World) (a : Option Addr) (c : Nat) (xs : List Int) (x : Int) (h : Rd w w.heap.size a (ints xs)) (hl : xs.length ≤ 1048576) :
    Calls Try.prog 86 #[.slice a xs.length c, .int .i64 x] w fun e w' => e = .returned (.int .i64 (placeI xs x)) ∧ w = w' := by
  have L := Lib.hid (index_any w a c xs x h (by omega))
  have HF : Hid (placeI xs x = if indexI xs x < 0 then (xs.length : Int) else indexI xs x) := rfl
  clear h
  generalize indexI xs x = q at *
  by_cases hq : q < 0
  · rw [if_pos hq] at HF
    go_enter Try.func86, Try.ntmps86
    go_wp2_with (go_at_call 105; refine L.out.mono ?_; rintro e w' ⟨rfl, rfl⟩)
    go_ret
    exact ⟨ret_int HF.out.symm, rfl⟩
  · rw [if_neg hq] at HF
    go_enter Try.func86, Try.ntmps86
    go_wp2_with (go_at_call 105; refine L.out.mono ?_; rintro e w' ⟨rfl, rfl⟩)
    go_ret
    exact ⟨ret_int HF.out.symm, rfl⟩
theorem dearer_any (w : World) (a : Option Addr) (c : Nat) (xs : List Int) (x y : Int) (h : Rd w w.heap.size a (ints xs)) (hl : xs.length ≤ 1048576) :
    Calls Try.prog 72 #[.slice a xs.length c, .int .i64 x, .int .i64 y] w fun e w' => e = .returned (.bool (dearI xs x y)) ∧ w = w' := by
  have L1 := Lib.hid (place_any w a c xs x h hl)
  have L2 := Lib.hid (place_any w a c xs y h hl)
  have HF : Hid (dearI xs x y = decide (placeI xs x < placeI xs y)) := rfl
  clear h
  generalize placeI xs x = p at *
  generalize placeI xs y = q at *
  go_enter Try.func72, Try.ntmps72
  go_wp2_with fail
  refine L1.out.mono ?_
  rintro e w1 ⟨rfl, rfl⟩
  go_wp2_with fail
  refine L2.out.mono ?_
  rintro e w1 ⟨rfl, rfl⟩
  go_wp2_with fail
  go_ret
  exact ⟨ret_bool HF.out.symm, rfl⟩
end Go.Proofs.Ytdipckpcmnhpjaa
