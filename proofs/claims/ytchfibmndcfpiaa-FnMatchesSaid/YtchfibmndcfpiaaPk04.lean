/-
  Part 4 of what the proof stands on: lemmas and contracts, each with its conditions ahead of the colon.
-/
import Derived.Test.YtchfibmndcfpiaaShelf
import Derived.Laws.CopyOwn
import Derived.Deep.RegionLaw
import Derived.Test.YtchfibmndcfpiaaPk01
import Derived.Test.YtchfibmndcfpiaaPk02
import Derived.Test.YtchfibmndcfpiaaPk03
namespace Go.Proofs.Ytchfibmndcfpiaa
set_option linter.unusedVariables false
set_option linter.unusedSimpArgs false
open Go.RowKit

set_option maxRecDepth 10000 in
set_option maxHeartbeats 4000000 in
theorem isStableW_any (w : World) (a0 : Option Addr) (c0 : Nat) (x0 : List (List Int)) (a1 : Option Addr) (c1 : Nat) (x1 : List (List Int)) (h : RdWishes w w.heap.size a0 x0 a1 x1) (hv : Wish ⟨x0, x1⟩) (hin0 : ∀ y ∈ x0, y.length ≤ 1048576) (hin1 : ∀ y ∈ x1, y.length ≤ 1048576)
    (a : Option Addr) (c : Nat) (m : List Int) (g : Rd w w.heap.size a (ints m)) (hm : Mat ⟨x0, x1⟩ m) :
    Calls Try.prog 42 #[.agg #[.slice a0 x0.length c0, .slice a1 x1.length c1], .slice a m.length c] w fun e w' => e = .returned (.bool (blockF ⟨x0, x1⟩ m).isNone) ∧ Below w.heap.size w w' := by
  have hB := bl1 w (.cells #[.slice a0 x0.length c0, .slice a1 x1.length c1] 27)
  have LB := Lib.hid (block_any _ a0 c0 x0 a1 c1 x1 (h.to hB) hv hin0 hin1 a c m (g.to hB) hm.len)
  have he := block_eqI hv hm
  simp only at he
  rw [he] at LB
  clear h g hv hm hin0 hin1 he
  cases hf : blockF ⟨x0, x1⟩ m with
  | none =>
    simp only [hf] at LB
    go_enter Try.func42, Try.ntmps42
    go_wp2_with fail
    refine LB.out.mono ?_
    rintro e w1 ⟨rfl, hb1⟩
    have B1 := below_then hB hb1
    clear hb1 LB
    go_wp2_with fail
    go_ret
    exact ⟨rfl, B1⟩
  | some p =>
    simp only [hf] at LB
    go_enter Try.func42, Try.ntmps42
    go_wp2_with fail
    refine LB.out.mono ?_
    rintro e w1 ⟨rfl, hb1⟩
    have B1 := below_then hB hb1
    clear hb1 LB
    go_wp2_with fail
    go_ret
    exact ⟨rfl, B1⟩
def blockOfF (w : Wi) (m : List Int) : Option (Nat × Nat) := if wishB w && matchB w m then blockF w m else none
def isStableF (w : Wi) (m : List Int) : Bool × Bool := if wishB w && matchB w m then ((blockF w m).isNone, true) else (false, false)
set_option maxRecDepth 10000 in
set_option maxHeartbeats 4000000 in
theorem blockOf_any (w : World) (a0 : Option Addr) (c0 : Nat) (x0 : List (List Int)) (a1 : Option Addr) (c1 : Nat) (x1 : List (List Int)) (a : Option Addr) (c : Nat) (m : List Int) (h : RdWishes w w.heap.size a0 x0 a1 x1) (hl0 : x0.length ≤ 1048576) (hin0 : ∀ y ∈ x0, y.length ≤ 1048576) (hl1 : x1.length ≤ 1048576) (hin1 : ∀ y ∈ x1, y.length ≤ 1048576)
    (g : Rd w w.heap.size a (ints m)) (hl : m.length ≤ 1048576) :
    Calls Try.prog 34 #[.agg #[.slice a0 x0.length c0, .slice a1 x1.length c1], .slice a m.length c] w fun e w' => e = .returned (.tuple #[.int .i64 (bA (blockOfF ⟨x0, x1⟩ m)), .int .i64 (bZ (blockOfF ⟨x0, x1⟩ m)), .bool (blockOfF ⟨x0, x1⟩ m).isSome]) ∧ Below w.heap.size w w' := by
  have hB := bl1 w (.cells #[.slice a0 x0.length c0, .slice a1 x1.length c1] 27)
  have LM := Lib.hid (isMatchI_any _ a0 c0 x0 a1 c1 x1 a c m (h.to hB) hl0 hin0 hl1 hin1 (g.to hB) hl)
  cases t1 : wishB ⟨x0, x1⟩ && matchB ⟨x0, x1⟩ m with
  | false =>
    have HF : blockOfF ⟨x0, x1⟩ m = none := by simp [blockOfF, t1]
    rw [t1] at LM
    rw [HF]
    clear h g hin0 hin1 HF t1
    go_enter Try.func34, Try.ntmps34
    go_wp2_with fail
    refine LM.out.mono ?_
    rintro e w1 ⟨rfl, hb1⟩
    have B1 := below_then hB hb1
    clear hb1
    go_wp2_with fail
    go_ret3
    exact ⟨rfl, B1⟩
  | true =>
    have HF : blockOfF ⟨x0, x1⟩ m = blockF ⟨x0, x1⟩ m := by simp [blockOfF, t1]
    rw [t1] at LM
    rw [HF]
    rw [Bool.and_eq_true] at t1
    have hv := wish_of t1.1
    have hm := mat_of t1.2
    have he := block_eqI hv hm
    have LB := Lib.hid (fun w' hb => block_any w' a0 c0 x0 a1 c1 x1 (h.to hb) hv hin0 hin1 a c m (g.to hb) hm.len)
    simp only at he
    rw [he] at LB
    generalize blockF ⟨x0, x1⟩ m = F at *
    clear h g hin0 hin1 HF t1 hv hm he
    go_enter Try.func34, Try.ntmps34
    go_wp2_with fail
    refine LM.out.mono ?_
    rintro e w1 ⟨rfl, hb1⟩
    have B1 := below_then hB hb1
    have k1 := (Blk.new w [.slice a0 x0.length c0, .slice a1 x1.length c1] 27).same hb1
    have q0 := k1.cell 0
    have q1 := k1.cell 1
    simp only [List.getElem?_cons_zero, List.getElem?_cons_succ] at q0 q1
    clear hb1 k1 LM
    go_wp2_with fail
    refine (LB.out _ B1).mono ?_
    rintro e w2 ⟨rfl, hb2⟩
    have B2 := below_then B1 hb2
    clear hb2 q0 q1
    go_wp2_with fail
    go_ret3
    exact ⟨rfl, B2⟩
set_option maxRecDepth 10000 in
set_option maxHeartbeats 4000000 in
theorem isStable_any (w : World) (a0 : Option Addr) (c0 : Nat) (x0 : List (List Int)) (a1 : Option Addr) (c1 : Nat) (x1 : List (List Int)) (a : Option Addr) (c : Nat) (m : List Int) (h : RdWishes w w.heap.size a0 x0 a1 x1) (hl0 : x0.length ≤ 1048576) (hin0 : ∀ y ∈ x0, y.length ≤ 1048576) (hl1 : x1.length ≤ 1048576) (hin1 : ∀ y ∈ x1, y.length ≤ 1048576)
    (g : Rd w w.heap.size a (ints m)) (hl : m.length ≤ 1048576) :
    Calls Try.prog 15 #[.agg #[.slice a0 x0.length c0, .slice a1 x1.length c1], .slice a m.length c] w fun e w' => e = .returned (.tuple #[.bool (isStableF ⟨x0, x1⟩ m).1, .bool (isStableF ⟨x0, x1⟩ m).2]) ∧ Below w.heap.size w w' := by
  have hB := bl1 w (.cells #[.slice a0 x0.length c0, .slice a1 x1.length c1] 27)
  have LM := Lib.hid (isMatchI_any _ a0 c0 x0 a1 c1 x1 a c m (h.to hB) hl0 hin0 hl1 hin1 (g.to hB) hl)
  cases t1 : wishB ⟨x0, x1⟩ && matchB ⟨x0, x1⟩ m with
  | false =>
    have HF : isStableF ⟨x0, x1⟩ m = (false, false) := by simp [isStableF, t1]
    rw [t1] at LM
    rw [HF]
    clear h g hin0 hin1 HF t1
    go_enter Try.func15, Try.ntmps15
    go_wp2_with fail
    refine LM.out.mono ?_
    rintro e w1 ⟨rfl, hb1⟩
    have B1 := below_then hB hb1
    clear hb1
    go_wp2_with fail
    go_ret2
    exact ⟨rfl, B1⟩
  | true =>
    have HF : isStableF ⟨x0, x1⟩ m = ((blockF ⟨x0, x1⟩ m).isNone, true) := by simp [isStableF, t1]
    rw [t1] at LM
    rw [HF]
    rw [Bool.and_eq_true] at t1
    have hv := wish_of t1.1
    have hm := mat_of t1.2
    have LB := Lib.hid (fun w' hb => isStableW_any w' a0 c0 x0 a1 c1 x1 (h.to hb) hv hin0 hin1 a c m (g.to hb) hm)
    generalize (blockF ⟨x0, x1⟩ m).isNone = F at *
    clear h g hin0 hin1 HF t1 hv hm
    go_enter Try.func15, Try.ntmps15
    go_wp2_with fail
    refine LM.out.mono ?_
    rintro e w1 ⟨rfl, hb1⟩
    have B1 := below_then hB hb1
    have k1 := (Blk.new w [.slice a0 x0.length c0, .slice a1 x1.length c1] 27).same hb1
    have q0 := k1.cell 0
    have q1 := k1.cell 1
    simp only [List.getElem?_cons_zero, List.getElem?_cons_succ] at q0 q1
    clear hb1 k1 LM
    go_wp2_with fail
    refine (LB.out _ B1).mono ?_
    rintro e w2 ⟨rfl, hb2⟩
    have B2 := below_then B1 hb2
    clear hb2 q0 q1
    go_wp2_with fail
    go_ret2
    exact ⟨rfl, B2⟩
end Go.Proofs.Ytchfibmndcfpiaa
namespace Go.Proofs.Ytchfibmndcfpiaa
set_option linter.unusedVariables false
set_option linter.unusedSimpArgs false
open Go.RowKit

theorem beq_flip (x y : Int) : (x == y) = (y == x) := by rw [Bool.eq_iff_iff, beq_iff_eq, beq_iff_eq]; exact eq_comm
theorem l05Place_any (w : World) (a : Option Addr) (c : Nat) (xs : List Int) (x : Int) (h : Rd w w.heap.size a (ints xs)) (hl : xs.length ≤ 1048576) :
    Calls Try.prog 71 #[.slice a xs.length c, .int .i64 x] w fun e w' => e = .returned (.int .i64 (placeI xs x)) ∧ w = w' := by
  have HH : Hid (∀ k, k < xs.length → (xs.getD k 0 == x) = true → (∀ j, j < k → (xs.getD j 0 == x) = false) → placeI xs x = k) := fun k hk hp hb => by
    have e : indexI xs x = k := findI_here hk (by rw [beq_flip]; exact hp) (fun j hj => by rw [beq_flip]; exact hb j hj)
    unfold placeI
    rw [e, if_neg (by omega)]
  have HZ : Hid ((∀ j, j < xs.length → (xs.getD j 0 == x) = false) → placeI xs x = xs.length) := fun hb => by
    have e : indexI xs x = -1 := findI_none (fun j hj => by rw [beq_flip]; exact hb j hj)
    unfold placeI
    rw [e, if_pos (by omega)]
  generalize placeI xs x = q at *
  go_enter Try.func71, Try.ntmps71
  go_wp2
  go_loop [8] (fun i => ∃ k : Nat, k ≤ xs.length ∧ i = .int .i64 k ∧ Hid (∀ j, j < k → (xs.getD j 0 == x) = false)) (fun i => xs.length - (intOf i).toNat)
  case atStart => exact ⟨0, Nat.zero_le _, rfl, fun j hj => by omega⟩
  case round =>
    obtain ⟨k, hk, rfl, ha⟩ := hrel
    by_cases hlt : k < xs.length
    · obtain ⟨b, o, y, rfl, hbb, hck, hx⟩ := h.get hlt
      have hgd := getD_of_get hx.out
      clear h
      cases hin : (y == x) with
      | false =>
        have hF : Hid (∀ j, j < k + 1 → (xs.getD j 0 == x) = false) := fun j hj => by
          by_cases e : j = k
          · rw [e, hgd, hin]
          · exact ha.out j (by omega)
        clear hgd
        go_wp2
        go_round
        case rel => exact ⟨k + 1, by omega, by go_num, hF⟩
        case measure => simp [intOf]; omega
      | true =>
        have hF : Hid (q = k) := HH.out k hlt (by rw [hgd, hin]) ha.out
        clear hgd
        go_wp2
        go_ret
        exact ⟨ret_int hF.out.symm, rfl⟩
    · have : k = xs.length := by omega
      subst this
      have hF : Hid (q = xs.length) := HZ.out ha.out
      go_wp2
      go_ret
      exact ⟨ret_int hF.out.symm, rfl⟩
theorem l05Takes_any (w : World) (a : Option Addr) (c : Nat) (xs : List Int) (x : Int) (h : Rd w w.heap.size a (ints xs)) (hl : xs.length ≤ 1048576) :
    Calls Try.prog 90 #[.slice a xs.length c, .int .i64 x] w fun e w' => e = .returned (.bool (containsI xs x)) ∧ w = w' := by
  have L := Lib.hid (l05Place_any w a c xs x h hl)
  have HF : Hid (containsI xs x = decide (placeI xs x < xs.length)) := (takesB_eq xs x).symm
  generalize placeI xs x = q at *
  clear h
  go_enter Try.func90, Try.ntmps90
  go_wp2_with (go_at_call 71; refine L.out.mono ?_; rintro e w' ⟨rfl, rfl⟩)
  go_ret
  exact ⟨ret_bool HF.out.symm, rfl⟩
theorem l05Dearer_any (w : World) (a : Option Addr) (c : Nat) (xs : List Int) (x y : Int) (h : Rd w w.heap.size a (ints xs)) (hl : xs.length ≤ 1048576) :
    Calls Try.prog 66 #[.slice a xs.length c, .int .i64 x, .int .i64 y] w fun e w' => e = .returned (.bool (dearB xs x y)) ∧ w = w' := by
  have L1 := Lib.hid (l05Place_any w a c xs x h hl)
  have L2 := Lib.hid (l05Place_any w a c xs y h hl)
  have HF : Hid (dearB xs x y = (decide (y < 0) || decide (placeI xs x < placeI xs y))) := rfl
  clear h
  generalize placeI xs x = p at *
  generalize placeI xs y = q at *
  by_cases hy : y < 0
  · rw [decide_eq_true hy, Bool.true_or] at HF
    go_enter Try.func66, Try.ntmps66
    go_wp2_with fail
    go_ret
    exact ⟨ret_bool HF.out.symm, rfl⟩
  · rw [decide_eq_false hy, Bool.false_or] at HF
    go_enter Try.func66, Try.ntmps66
    go_wp2_with fail
    refine L1.out.mono ?_
    rintro e w1 ⟨rfl, rfl⟩
    go_wp2_with fail
    refine L2.out.mono ?_
    rintro e w1 ⟨rfl, rfl⟩
    go_wp2_with fail
    go_ret
    exact ⟨ret_bool HF.out.symm, rfl⟩
set_option maxHeartbeats 2000000 in
theorem l05Pair_any (w : World) (b o : Nat) (a0 : Option Addr) (c0 : Nat) (x0 : List (List Int)) (a1 : Option Addr) (c1 : Nat) (x1 : List (List Int)) (d0 : w.cell? ⟨b, o, none⟩ = some (.slice a0 x0.length c0)) (d1 : w.cell? ⟨b, o + 1, none⟩ = some (.slice a1 x1.length c1))
    (h : RdWishes w w.heap.size a0 x0 a1 x1) (hin0 : ∀ y ∈ x0, y.length ≤ 1048576) (hin1 : ∀ y ∈ x1, y.length ≤ 1048576) (i k : Nat) (hi : i < x0.length) (hk : k < x1.length) :
    Calls Try.prog 65 #[.pointer (some ⟨b, o, none⟩), .int .i64 i, .int .i64 k] w fun e w' => e = .returned (.bool (pairB ⟨x0, x1⟩ i k)) ∧ w = w' := by
  obtain ⟨b2, o2, ys, a2, c2, e2, hb2, d2, _, hr2, hy2⟩ := h.1.get hi
  obtain ⟨b3, o3, zs, a3, c3, e3, hb3, d3, _, hr3, hy3⟩ := h.2.get hk
  subst e2 e3
  have L2 := Lib.hid (l05Takes_any _ a2 c2 ys k hr2 (hin0 ys (List.mem_of_getElem? hy2.out)))
  have L3 := Lib.hid (l05Takes_any _ a3 c3 zs i hr3 (hin1 zs (List.mem_of_getElem? hy3.out)))
  have HF : Hid (pairB ⟨x0, x1⟩ i k = (containsI ys k && containsI zs i)) := by
    show _ = _
    unfold pairB
    simp only [row_get hy2.out, row_get hy3.out]
  have i0 : (0 : Int) ≤ (i : Int) := Int.natCast_nonneg _
  have k0 : (0 : Int) ≤ (k : Int) := Int.natCast_nonneg _
  have i1 : (i : Int) < (x0.length : Int) := by omega
  have k1 : (k : Int) < (x1.length : Int) := by omega
  clear h hr2 hr3 hy2 hy3 hin0 hin1 hi hk
  cases t2 : containsI ys k with
  | false =>
    rw [t2] at L2 HF
    go_enter Try.func65, Try.ntmps65
    go_wp2_with fail
    refine L2.out.mono ?_
    rintro e w1 ⟨rfl, rfl⟩
    go_wp2_with fail
    go_ret
    exact ⟨ret_bool HF.out.symm, rfl⟩
  | true =>
    rw [t2, Bool.true_and] at HF
    rw [t2] at L2
    go_enter Try.func65, Try.ntmps65
    go_wp2_with fail
    refine L2.out.mono ?_
    rintro e w1 ⟨rfl, rfl⟩
    go_wp2_with fail
    refine L3.out.mono ?_
    rintro e w1 ⟨rfl, rfl⟩
    go_wp2_with fail
    go_ret
    exact ⟨ret_bool HF.out.symm, rfl⟩
set_option maxRecDepth 10000 in
set_option maxHeartbeats 4000000 in
theorem l05Lists_any (w : World) (a : Option Addr) (c : Nat) (xss : List (List Int)) (n : Nat) (h : RdII w w.heap.size a xss) (hl : xss.length ≤ 1048576) (hin : ∀ y ∈ xss, y.length ≤ 1048576) (hn : n ≤ 1048576) :
    Calls Try.prog 82 #[.slice a xss.length c, .int .i64 n] w fun e w' => e = .returned (.bool (listsB xss n)) ∧ ∃ q, w' = w.drewN q := by
  have Hh := Lib.hid h
  have Hin := Lib.hid hin
  have HF : Hid (listsB xss n = ((xss.all fun xs => onceB xs n) && decide (xss.length = n))) := rfl
  have hwr : IntKind.i64.wrap ((n : Int) - 1) = (n : Int) - 1 := IntWalk.i64_in _ (by omega)
  clear h hin
  go_enter Try.func82, Try.ntmps82
  go_wp2_with fail
  go_loopw [9] (fun iv wr => ∃ i m : Nat, i ≤ xss.length ∧ iv = .int .i64 i ∧ Hid (((xss.take i).all fun xs => onceB xs n) = true) ∧ wr = w.drewN m) (fun iv _ => xss.length - (intOf iv).toNat)
  case atStart => exact ⟨0, 0, Nat.zero_le _, rfl, by simp [Hid], rfl⟩
  case round =>
    obtain ⟨i, m, hi, rfl, hall, rfl⟩ := hrel
    by_cases hlt : i < xss.length
    · obtain ⟨b, o, ys, a', c', rfl, hbb, hck, hc', hr, hy⟩ := Hh.out.get hlt
      have hlen := Hin.out ys (List.mem_of_getElem? hy.out)
      go_wp2_with fail
      go_loopw [17] (fun kv wr => ∃ k q : Nat, k ≤ ys.length ∧ kv = .int .i64 k ∧ Hid (onceB (ys.take k) n = true) ∧ wr = w.drewN q) (fun kv _ => ys.length - (intOf kv).toNat)
      case atStart => exact ⟨0, m, Nat.zero_le _, rfl, by simp [onceB, allIn, Hid], rfl⟩
      case round =>
        obtain ⟨k, q, hk, rfl, hon, rfl⟩ := hrel
        by_cases hlk : k < ys.length
        · obtain ⟨b2, o2, x, rfl, hb2, hc2, hx⟩ := hr.get hlk
          have hl1 : (ys.take k).length = k := by simp; omega
          have L1 := Lib.hid (fun v => l00In_any x 0 ((n : Int) - 1) v)
          have L2 := Lib.hid (fun t => l00Has_any (w.drewN t) (some ⟨b2, o2, none⟩) c' (ys.take k) x (hr.take k) (by omega))
          rw [hl1] at L2
          have i0 : (0 : Int) ≤ (i : Int) := Int.natCast_nonneg _
          have i1 : (i : Int) < (xss.length : Int) := by omega
          have k0 : (0 : Int) ≤ (k : Int) := Int.natCast_nonneg _
          have k1 : (k : Int) < (ys.length : Int) := by omega
          cases h1 : inB x 0 ((n : Int) - 1) with
          | false =>
            have HB : Hid (listsB xss n = false) := by rw [Hid, HF.out, all_false (p := fun xs => onceB xs n) hy.out (onceB_out hx.out h1)]; rfl
            rw [h1] at L1
            clear hr hl1
            go_wp2_with fail
            go_quiet ((go_at_call 64; exact qs2 (L1.out _)))
            go_wp2_with fail
            go_ret
            exact ⟨ret_bool HB.out.symm, _, World.drewN_drewN _ _ _⟩
          | true =>
            rw [h1] at L1
            cases h2 : hasB (ys.take k) x with
            | true =>
              have HB : Hid (listsB xss n = false) := by rw [Hid, HF.out, all_false (p := fun xs => onceB xs n) hy.out (onceB_dup hx.out h2)]; rfl
              rw [h2] at L2
              clear hr hl1
              go_wp2_with fail
              go_quiet (first | (go_at_call 64; exact qs2 (L1.out _)) | (go_at_call 100; exact qs2 (L2.out _)))
              go_wp2_with fail
              go_ret
              exact ⟨ret_bool HB.out.symm, _, World.drewN_drewN _ _ _⟩
            | false =>
              have HO : Hid (onceB (ys.take (k + 1)) n = true) := onceB_step hx.out hon.out h1 h2
              rw [h2] at L2
              clear hr hl1 hon
              go_wp2_with fail
              go_quiet (first | (go_at_call 64; exact qs2 (L1.out _)) | (go_at_call 100; exact qs2 (L2.out _)))
              go_wp2_with fail
              go_roundw
              case rel => exact ⟨k + 1, q + nq, by omega, by go_num, HO, by first | rfl | exact World.drewN_drewN _ _ _⟩
              case measure => simp [intOf]; omega
        · have : k = ys.length := by omega
          subst this
          rw [List.take_length] at hon
          have HA : Hid (((xss.take (i + 1)).all fun xs => onceB xs n) = true) := all_take_succ hy.out hall.out hon.out
          clear hon hall hr
          go_wp2_with fail
          go_roundw
          case rel => exact ⟨i + 1, q, by omega, by go_num, HA, rfl⟩
          case measure => simp [intOf]; omega
    · have : i = xss.length := by omega
      subst this
      rw [List.take_length] at hall
      have HB : Hid (listsB xss n = ((xss.length : Int) == (n : Int))) := by
        rw [Hid, HF.out, hall.out, Bool.true_and]
        by_cases e : xss.length = n
        · simp [e]
        · have : ¬ (xss.length : Int) = (n : Int) := by omega
          simp [e, this]
      clear hall
      go_wp2_with fail
      go_ret
      exact ⟨ret_bool HB.out.symm, m, rfl⟩
set_option maxRecDepth 10000 in
set_option maxHeartbeats 4000000 in
theorem l05Is_any (w : World) (b o : Nat) (a0 : Option Addr) (c0 : Nat) (x0 : List (List Int)) (a1 : Option Addr) (c1 : Nat) (x1 : List (List Int)) (d0 : w.cell? ⟨b, o, none⟩ = some (.slice a0 x0.length c0)) (d1 : w.cell? ⟨b, o + 1, none⟩ = some (.slice a1 x1.length c1))
    (h : RdWishes w w.heap.size a0 x0 a1 x1) (hl0 : x0.length ≤ 1048576) (hin0 : ∀ y ∈ x0, y.length ≤ 1048576) (hl1 : x1.length ≤ 1048576) (hin1 : ∀ y ∈ x1, y.length ≤ 1048576) :
    Calls Try.prog 38 #[.pointer (some ⟨b, o, none⟩)] w fun e w' => e = .returned (.bool (wishB ⟨x0, x1⟩)) ∧ ∃ q, w' = w.drewN q := by
  have HF : Hid (wishB ⟨x0, x1⟩ = (inB x0.length 1 8 && listsB x0 x0.length && listsB x1 x0.length)) := rfl
  have L0 := Lib.hid (l05Lists_any w a0 c0 x0 x0.length h.1 hl0 hin0 hl0)
  have L1 := Lib.hid (fun q => l05Lists_any (w.drewN q) a1 c1 x1 x0.length h.2 hl1 hin1 hl0)
  clear h
  by_cases h1 : 1 ≤ x0.length
  case neg =>
    have : inB x0.length 1 8 = false := inB_no.2 (by omega)
    rw [this, Bool.false_and, Bool.false_and] at HF
    go_enter Try.func38, Try.ntmps38
    go_wp2_with fail
    go_ret
    exact ⟨ret_bool HF.out.symm, 0, rfl⟩
  by_cases h8 : x0.length ≤ 8
  case neg =>
    have : inB x0.length 1 8 = false := inB_no.2 (by omega)
    rw [this, Bool.false_and, Bool.false_and] at HF
    go_enter Try.func38, Try.ntmps38
    go_wp2_with fail
    go_ret
    exact ⟨ret_bool HF.out.symm, 0, rfl⟩
  have : inB x0.length 1 8 = true := inB_iff.2 (by omega)
  rw [this, Bool.true_and] at HF
  clear this
  cases t0 : listsB x0 x0.length with
  | false =>
    rw [t0] at HF L0
    go_enter Try.func38, Try.ntmps38
    go_wp2_with fail
    refine L0.out.mono ?_
    rintro e w1 ⟨rfl, q, rfl⟩
    go_wp2_with fail
    go_ret
    exact ⟨ret_bool HF.out.symm, q, rfl⟩
  | true =>
    rw [t0, Bool.true_and] at HF
    rw [t0] at L0
    go_enter Try.func38, Try.ntmps38
    go_wp2_with fail
    refine L0.out.mono ?_
    rintro e w1 ⟨rfl, q, rfl⟩
    go_wp2_with fail
    refine (L1.out q).mono ?_
    rintro e w1 ⟨rfl, q2, rfl⟩
    go_wp2_with fail
    go_ret
    exact ⟨ret_bool HF.out.symm, q + q2, by first | rfl | exact World.drewN_drewN _ _ _⟩
theorem partN_succ (w : Wi) (m : List Int) (k : Nat) : partN w m (k + 1) = (partN w m k && okB w (m.take k) (m.getD k 0)) := rfl
theorem partN_false {w : Wi} {m : List Int} {k : Nat} (hk : k < m.length) (h : okB w (m.take k) (m.getD k 0) = false) : partB w m = false := by
  rw [← Bool.not_eq_true]
  intro hp
  have := partN_at (k := m.length) hp hk
  rw [h] at this; cases this
set_option maxRecDepth 10000 in
set_option maxHeartbeats 4000000 in
theorem l05Match_any (w : World) (b o : Nat) (a0 : Option Addr) (c0 : Nat) (x0 : List (List Int)) (a1 : Option Addr) (c1 : Nat) (x1 : List (List Int)) (d0 : w.cell? ⟨b, o, none⟩ = some (.slice a0 x0.length c0)) (d1 : w.cell? ⟨b, o + 1, none⟩ = some (.slice a1 x1.length c1))
    (a : Option Addr) (c : Nat) (m : List Int) (h : RdWishes w w.heap.size a0 x0 a1 x1) (hl0 : x0.length ≤ 1048576) (hin0 : ∀ y ∈ x0, y.length ≤ 1048576) (hl1 : x1.length ≤ 1048576) (hin1 : ∀ y ∈ x1, y.length ≤ 1048576) (g : Rd w w.heap.size a (ints m)) (hl : m.length ≤ 1048576) (hc : m.length ≤ c) :
    Calls Try.prog 77 #[.pointer (some ⟨b, o, none⟩), .slice a m.length c] w fun e w' => e = .returned (.bool (wishB ⟨x0, x1⟩ && matchB ⟨x0, x1⟩ m)) ∧ ∃ q, w' = w.drewN q := by
  have LI := Lib.hid (l05Is_any w b o a0 c0 x0 a1 c1 x1 d0 d1 h hl0 hin0 hl1 hin1)
  cases t1 : wishB ⟨x0, x1⟩ with
  | false =>
    rw [t1] at LI
    clear h g hin0 hin1
    go_enter Try.func77, Try.ntmps77
    go_wp2_with fail
    refine LI.out.mono ?_
    rintro e w1 ⟨rfl, q, rfl⟩
    go_wp2_with fail
    go_ret
    exact ⟨rfl, q, rfl⟩
  | true =>
  rw [t1] at LI
  rw [Bool.true_and]
  have hv := wish_of t1
  have hln := Lib.hid hv.len
  have h8 := hv.n8
  simp only at h8 hln
  by_cases hn : m.length = x0.length
  case neg =>
    have HF : Hid (matchB ⟨x0, x1⟩ m = false) := by simp [Hid, matchB, hn]
    have hne : ((m.length : Int) != (x0.length : Int)) = true := by simp; omega
    clear h g hin0 hin1 hn
    go_enter Try.func77, Try.ntmps77
    go_wp2_with fail
    refine LI.out.mono ?_
    rintro e w1 ⟨rfl, q, rfl⟩
    go_wp2_with fail
    go_ret
    exact ⟨ret_bool HF.out.symm, q, rfl⟩
  have hne : ((m.length : Int) != (x0.length : Int)) = false := by simp; omega
  have HF : Hid (matchB ⟨x0, x1⟩ m = partB ⟨x0, x1⟩ m) := by simp [Hid, matchB, hn]
  have HN := Lib.hid hn
  have hwr : IntKind.i64.wrap ((m.length : Int) - 1) = (m.length : Int) - 1 := IntWalk.i64_in _ (by omega)
  have HOK : Hid (∀ k x, k < m.length → m[k]? = some x → okB ⟨x0, x1⟩ (m.take k) (m.getD k 0) = (decide (x = -1) || (inB x 0 ((m.length : Int) - 1) && !hasB (m.take k) x && pairB ⟨x0, x1⟩ k x.toNat))) := fun k x hk hx => by
    have e : (m.take k).length = k := by simp; omega
    unfold okB
    rw [getD_of_get hx, e, hn]
  have HFA : Hid (∀ k, k < m.length → okB ⟨x0, x1⟩ (m.take k) (m.getD k 0) = false → matchB ⟨x0, x1⟩ m = false) := fun k hk hf => by rw [HF.out]; exact partN_false hk hf
  have LP : Hid (∀ (q i k : Nat), i < m.length → k < m.length → _) := fun q i k hi hk => l05Pair_any (w.drewN q) b o a0 c0 x0 a1 c1 x1 d0 d1 h hin0 hin1 i k (by rw [← hn]; exact hi) (by rw [hln.out, ← hn]; exact hk)
  have G := Lib.hid g
  clear h g hin0 hin1 hn hv t1
  go_enter Try.func77, Try.ntmps77
  go_wp2_with fail
  refine LI.out.mono ?_
  rintro e w1 ⟨rfl, q0, rfl⟩
  go_wp2_with fail
  go_loopw [21] (fun iv wr => ∃ k q : Nat, k ≤ m.length ∧ iv = .int .i64 k ∧ Hid (partN ⟨x0, x1⟩ m k = true) ∧ wr = w.drewN q) (fun iv _ => m.length - (intOf iv).toNat)
  case atStart => exact ⟨0, q0, Nat.zero_le _, rfl, rfl, rfl⟩
  case round =>
    obtain ⟨k, q, hk, rfl, hp, rfl⟩ := hrel
    by_cases hlt : k < m.length
    · obtain ⟨b2, o2, x, rfl, hb2, hc2, hx⟩ := G.out.get hlt
      have hok := HOK.out k x hlt hx.out
      have k0 : (0 : Int) ≤ (k : Int) := Int.natCast_nonneg _
      have k1 : (k : Int) < (m.length : Int) := by omega
      have HS : Hid (okB ⟨x0, x1⟩ (m.take k) (m.getD k 0) = true → partN ⟨x0, x1⟩ m (k + 1) = true) := fun hh => by rw [partN_succ, hp.out, hh]; rfl
      have HZ := Lib.hid (HFA.out k hlt)
      by_cases hx1 : x = -1
      · have hd : (x == (-1 : Int)) = true := by rw [beq_iff_eq]; exact hx1
        rw [decide_eq_true hx1, Bool.true_or] at hok
        have HP := Lib.hid (HS.out hok)
        subst hx1
        clear hok HS HZ hp
        go_wp2_with fail
        go_roundw
        case rel => exact ⟨k + 1, q, by omega, by go_num, HP, rfl⟩
        case measure => simp [intOf]; omega
      · have hd : (x == (-1 : Int)) = false := by rw [beq_eq_false_iff_ne]; exact hx1
        rw [decide_eq_false hx1, Bool.false_or] at hok
        have hl1 : (m.take k).length = k := by simp; omega
        have L1 := Lib.hid (fun v => l00In_any x 0 ((m.length : Int) - 1) v)
        have L2 := Lib.hid (fun t => l00Has_any (w.drewN t) (some ⟨b2, o2, none⟩) c (m.take k) x (G.out.take k) (by omega))
        rw [hl1] at L2
        clear hl1
        cases h1 : inB x 0 ((m.length : Int) - 1) with
        | false =>
          rw [h1] at L1
          rw [h1, Bool.false_and, Bool.false_and] at hok
          have HB := Lib.hid (HZ.out hok)
          clear hok HS HZ hp
          go_wp2_with fail
          go_quiet ((go_at_call 64; exact qs2 (L1.out _)))
          go_wp2_with fail
          go_ret
          exact ⟨ret_bool HB.out.symm, _, World.drewN_drewN _ _ _⟩
        | true =>
          have hbd := inB_iff.1 h1
          rw [h1] at L1
          rw [h1, Bool.true_and] at hok
          cases h2 : hasB (m.take k) x with
          | true =>
            rw [h2] at L2
            rw [h2, Bool.not_true, Bool.false_and] at hok
            have HB := Lib.hid (HZ.out hok)
            clear hok HS HZ hp
            go_wp2_with fail
            go_quiet (first | (go_at_call 64; exact qs2 (L1.out _)) | (go_at_call 100; exact qs2 (L2.out _)))
            go_wp2_with fail
            go_ret
            exact ⟨ret_bool HB.out.symm, _, World.drewN_drewN _ _ _⟩
          | false =>
            obtain ⟨y, rfl⟩ : ∃ y : Nat, x = y := ⟨x.toNat, by omega⟩
            have L3 : Hid (∀ q, _) := fun q => LP.out q k y hlt (by omega)
            rw [h2] at L2
            rw [h2, Bool.not_false, Bool.true_and, Int.toNat_natCast] at hok
            cases h3 : pairB ⟨x0, x1⟩ k y with
            | true =>
              rw [h3] at L3 hok
              have HP := Lib.hid (HS.out hok)
              clear hok HS HZ hp
              go_wp2_with fail
              go_quiet (first | (go_at_call 64; exact qs2 (L1.out _)) | (go_at_call 100; exact qs2 (L2.out _)) | (go_at_call 65; exact qs2 (L3.out _)))
              go_wp2_with fail
              go_roundw
              case rel => exact ⟨k + 1, q + nq, by omega, by go_num, HP, by first | rfl | exact World.drewN_drewN _ _ _⟩
              case measure => simp [intOf]; omega
            | false =>
              rw [h3] at L3 hok
              have HB := Lib.hid (HZ.out hok)
              clear hok HS HZ hp
              go_wp2_with fail
              go_quiet (first | (go_at_call 64; exact qs2 (L1.out _)) | (go_at_call 100; exact qs2 (L2.out _)) | (go_at_call 65; exact qs2 (L3.out _)))
              go_wp2_with fail
              go_ret
              exact ⟨ret_bool HB.out.symm, _, World.drewN_drewN _ _ _⟩
    · have : k = m.length := by omega
      subst this
      have HB : Hid (matchB ⟨x0, x1⟩ m = true) := HF.out.trans hp.out
      clear hp
      go_wp2_with fail
      go_ret
      exact ⟨ret_bool HB.out.symm, q, rfl⟩
end Go.Proofs.Ytchfibmndcfpiaa
namespace Go.Proofs.Ytchfibmndcfpiaa
set_option linter.unusedVariables false
set_option linter.unusedSimpArgs false
open Go.RowKit

def bkL (m : List Int) (n k : Nat) : List Int := (List.range n).map fun (b : Nat) => indexI (m.take k) b
def backL (m : List Int) (n : Nat) : List Int := (List.range n).map fun (b : Nat) => backF m b
theorem bkL_len (m : List Int) (n k : Nat) : (bkL m n k).length = n := by simp [bkL]
theorem bkL_zero (m : List Int) (n : Nat) : bkL m n 0 = List.replicate n (-1) := by
  apply List.ext_getElem
  · simp [bkL]
  · intro i h1 h2
    simp [bkL, indexI, findI]
theorem bkL_all (m : List Int) (n : Nat) : bkL m n m.length = backL m n := by
  unfold bkL backL backF
  rw [List.take_length]
theorem backL_get {m : List Int} {n b : Nat} (h : b < n) : (backL m n)[b]? = some (backF m b) := by simp [backL, h]
theorem index_take_other {m : List Int} {k : Nat} {v : Int} (hk : k < m.length) (h : m.getD k 0 ≠ v) : indexI (m.take (k + 1)) v = indexI (m.take k) v := by
  have l1 : (m.take (k + 1)).length = k + 1 := by simp; omega
  have l0 : (m.take k).length = k := by simp; omega
  have g1 : ∀ j, j < k + 1 → (m.take (k + 1)).getD j 0 = m.getD j 0 := fun j hj => by simp [List.getD, List.getElem?_take, hj]
  have g0 : ∀ j, j < k → (m.take k).getD j 0 = m.getD j 0 := fun j hj => by simp [List.getD, List.getElem?_take, hj]
  unfold indexI
  rw [l0, l1]
  rcases findI_spec (fun j => v == (m.take k).getD j 0) k with ⟨j, hj, hp, hb, e⟩ | ⟨hb, e⟩
  · rw [e]
    refine findI_here (by omega) ?_ (fun q hq => ?_)
    · rw [g1 j (by omega)]; rw [g0 j hj] at hp; exact hp
    · have := hb q hq; rw [g0 q (by omega)] at this; rw [g1 q (by omega)]; exact this
  · rw [e]
    refine findI_none fun q hq => ?_
    rw [g1 q hq]
    by_cases e2 : q = k
    · subst e2; rw [beq_eq_false_iff_ne]; exact fun e => h e.symm
    · have := hb q (by omega); rw [g0 q (by omega)] at this; exact this
theorem bkL_skip {m : List Int} {n k : Nat} (hk : k < m.length) (h : m.getD k 0 < 0) : bkL m n (k + 1) = bkL m n k :=
  List.map_congr_left fun b _ => index_take_other hk (by omega)
theorem bkL_set {w : Wi} {m : List Int} (hm : Mat w m) {n k x : Nat} (hk : k < m.length) (h : m.getD k 0 = x) : (bkL m n k).set x (k : Int) = bkL m n (k + 1) := by
  apply List.ext_getElem
  · simp [bkL]
  · intro b h1 h2
    have hb : b < n := by simpa [bkL] using h2
    have l1 : (m.take (k + 1)).length = k + 1 := by simp; omega
    rw [List.getElem_set]
    split
    case isTrue e =>
      subst e
      simp only [bkL, List.getElem_map, List.getElem_range]
      unfold indexI
      rw [l1]
      refine (findI_here (by omega) ?_ (fun q hq => ?_)).symm
      · have : (m.take (k + 1)).getD k 0 = m.getD k 0 := by simp [List.getD, List.getElem?_take]
        rw [this, h]; simp
      · have : (m.take (k + 1)).getD q 0 = m.getD q 0 := by simp [List.getD, List.getElem?_take, show q < k + 1 by omega]
        rw [this, beq_eq_false_iff_ne]
        intro e2
        have := hm.inj q k (by omega) hk (by omega) (by omega)
        omega
    case isFalse e =>
      simp only [bkL, List.getElem_map, List.getElem_range]
      exact (index_take_other hk (by omega)).symm
set_option maxRecDepth 10000 in
set_option maxHeartbeats 4000000 in
theorem l05Back_any (w : World) (W : Wi) (a : Option Addr) (c : Nat) (m : List Int) (g : Rd w w.heap.size a (ints m)) (hm : Mat W m) (h1 : 1 ≤ m.length) (h8 : m.length ≤ 8) :
    Calls Try.prog 88 #[.slice a m.length c] w fun e w' => ∃ a' c', e = .returned (.slice a' m.length c') ∧ OwnI 2 w' w.heap.size w'.heap.size a' c' (backL m m.length) ∧ Below w.heap.size w w' := by
  obtain ⟨n, hn⟩ : ∃ n, n = m.length := ⟨_, rfl⟩
  have G := Lib.hid g
  have HV : Hid (∀ (k : Nat) (x : Int), m[k]? = some x → x < 0 ∨ ∃ y : Nat, x = y ∧ y < n) := fun k x hx => by
    have hk := (List.getElem?_eq_some_iff.1 hx).1
    rw [← getD_of_get hx]
    rcases hm.val k hk with h | ⟨b, h, hb, _⟩
    · exact .inl (by omega)
    · exact .inr ⟨b, h, by rw [hn, hm.len]; exact hb⟩
  have HZ := Lib.hid (bkL_zero m n)
  have HS : Hid (∀ (k : Nat) (x : Int), k < n → m[k]? = some x → x < 0 → bkL m n (k + 1) = bkL m n k) := fun k x hk hx h0 => bkL_skip (by omega) (by rw [getD_of_get hx]; exact h0)
  have HT : Hid (∀ (k y : Nat), k < n → m[k]? = some (y : Int) → (bkL m n k).set y (k : Int) = bkL m n (k + 1)) := fun k y hk hx => bkL_set hm (by omega) (getD_of_get hx)
  have HE : Hid (bkL m n n = backL m n) := by rw [hn]; exact bkL_all m _
  have HL : Hid (∀ k, (bkL m n k).length = n) := fun k => bkL_len m n k
  have HN := Lib.hid hn
  rw [← hn] at h1 h8 ⊢
  clear g hm hn
  go_enter Try.func88, Try.ntmps88
  go_wp2_with fail
  go_loopw [8, 3] (fun iv v wr => ∃ k : Nat, k ≤ n ∧ iv = .int .i64 k ∧ Hid (wr.ownsRow w.heap.size 2 1 v k (ints (List.replicate k (-1)))) ∧ Below w.heap.size w wr) (fun iv _ _ => n - (intOf iv).toNat)
  case atStart => exact ⟨0, Nat.zero_le _, rfl, own_empty w _, bl1 w _⟩
  case round =>
    obtain ⟨k, hk, rfl, hown, hw⟩ := hrel
    by_cases hlt : k < n
    · go_wp2_with (at_builtin; refine wpList_append_one _ rfl _ _ 31 rfl w.heap.size 2 (.int .i64 0) 8 Try.underlying31 info_i64p rfl _ k _ rfl hown.out (.int .i64 (-1)) rfl rfl (by omega) (by omega) hw.size ?_)
      intro v' w1 ho hgr
      have hb := below_append hw hown.out hgr (Nat.le_refl _) hw.size
      have HO : Hid (w1.ownsRow w.heap.size 2 1 v' (k + 1) (ints (List.replicate (k + 1) (-1)))) := by
        have : ints (List.replicate k (-1)) ++ [Value.int .i64 (-1)] = ints (List.replicate (k + 1) (-1)) := by rw [List.replicate_succ', ints_append]; rfl
        rw [← this]; exact ho
      clear hown hw ho hgr
      go_wp2_with fail
      go_roundw
      case rel => exact ⟨k + 1, by omega, by go_num, HO, hb⟩
      case measure => simp [intOf]; omega
    · have : k = n := by omega
      subst this
      obtain ⟨a1, c1, rfl, _, _⟩ := own_shape hown.out
      obtain ⟨g, tl, rfl, hg, kb, hnc, hcm, hcl⟩ := own_open hown.out h1
      rw [← HZ.out] at kb
      have KB := Lib.hid kb
      have hcl2 := Lib.hid hcl
      clear hown kb hcl
      go_wp2_with fail
      go_loopw [16] (fun iv wr => ∃ i : Nat, i ≤ k ∧ iv = .int .i64 i ∧ Hid (Blk wr g (ints (bkL m k i) ++ tl) 2) ∧ Below w.heap.size w wr) (fun iv _ => k - (intOf iv).toNat)
      case atStart => exact ⟨0, Nat.zero_le _, rfl, KB.out, hw⟩
      case round =>
        clear KB hw
        obtain ⟨i, hi, rfl, hK, hw⟩ := hrel
        by_cases hli : i < k
        · obtain ⟨b, o, x, rfl, hbb, hck0, hx⟩ := G.out.get (k := i) (by rw [← HN.out]; exact hli)
          have hck := (hw.cell (p := ⟨b, o + i, none⟩) hbb).trans hck0
          have i0 : (0 : Int) ≤ (i : Int) := Int.natCast_nonneg _
          have i1 : (i : Int) < (k : Int) := by omega
          rcases HV.out i x hx.out with hx0 | ⟨y, rfl, hy⟩
          · have hsk := HS.out i x hli hx.out hx0
            have HK2 : Hid (Blk wr g (ints (bkL m k (i + 1)) ++ tl) 2) := by rw [hsk]; exact hK.out
            clear hck0 hsk hK
            go_wp2_with fail
            go_roundw
            case rel => exact ⟨i + 1, by omega, by go_num, HK2, hw⟩
            case measure => simp [intOf]; omega
          · have hy0 : (0 : Int) ≤ (y : Int) := Int.natCast_nonneg _
            have hy1 : (y : Int) < (k : Int) := by omega
            have hyl : y < (bkL m k i).length := by rw [HL.out]; exact hy
            have cy := cell_app hK.out hyl
            have fy := hK.out.free y
            have HK2 : Hid (Blk (wr.setCell ⟨g, y, none⟩ (.int .i64 i)) g (ints (bkL m k (i + 1)) ++ tl) 2) := by
              rw [← HT.out i y hli hx.out]; exact set_app hK.out hyl (i : Int)
            have HB2 := below_sto hw (g := g) hg y (.int .i64 i)
            clear hck0 hK hyl
            go_wp2_with fail
            go_roundw
            case rel => exact ⟨i + 1, by omega, by go_num, HK2, HB2⟩
            case measure => simp [intOf]; omega
        · have : i = k := by omega
          subst this
          have HO : Hid (OwnI 2 wr w.heap.size wr.heap.size (some ⟨g, 0, none⟩) c1 (backL m i)) := by
            have hk := hK.out
            rw [HE.out] at hk
            have hl : (ints (backL m i)).length = i := by simp [backL]
            have hll : (backL m i).length = i := by simp [backL]
            have := own_close hk hg hl hnc hcm (by have := hcl2.out; rw [List.length_append] at this ⊢; rw [hl]; simpa using this)
            refine OwnI.of_own ?_
            rw [hll]; exact this
          clear hK
          go_wp2_with fail
          go_ret
          exact ⟨_, _, rfl, HO.out, hw⟩
set_option maxRecDepth 10000 in
set_option maxHeartbeats 8000000 in
theorem l05Block_any (w : World) (b o : Nat) (a0 : Option Addr) (c0 : Nat) (x0 : List (List Int)) (a1 : Option Addr) (c1 : Nat) (x1 : List (List Int)) (d0 : w.cell? ⟨b, o, none⟩ = some (.slice a0 x0.length c0)) (d1 : w.cell? ⟨b, o + 1, none⟩ = some (.slice a1 x1.length c1)) (hbl : b < w.heap.size)
    (h : RdWishes w w.heap.size a0 x0 a1 x1) (hv : Wish ⟨x0, x1⟩) (hin0 : ∀ y ∈ x0, y.length ≤ 1048576) (hin1 : ∀ y ∈ x1, y.length ≤ 1048576)
    (a : Option Addr) (c : Nat) (m : List Int) (g : Rd w w.heap.size a (ints m)) (hm : Mat ⟨x0, x1⟩ m) :
    Calls Try.prog 78 #[.pointer (some ⟨b, o, none⟩), .slice a m.length c] w fun e w' => e = .returned (.tuple #[.int .i64 (bA (blockF ⟨x0, x1⟩ m)), .int .i64 (bZ (blockF ⟨x0, x1⟩ m)), .bool (blockF ⟨x0, x1⟩ m).isSome]) ∧ Below w.heap.size w w' := by
  obtain ⟨n, hn⟩ : ∃ n, n = m.length := ⟨_, rfl⟩
  have h8 := hv.n8
  have h1 := hv.n1
  have hl := hm.len
  simp only at h8 h1 hl
  have hln := Lib.hid hv.len
  simp only at hln
  have LB := Lib.hid (l05Back_any w ⟨x0, x1⟩ a c m g hm (by omega) (by omega))
  have LP : Hid (∀ (w' : World) (i k : Nat), Below w.heap.size w w' → i < n → k < n → _) := fun w' i k hb hi hk => l05Pair_any w' b o a0 c0 x0 a1 c1 x1 ((hb.cell (p := ⟨b, o, none⟩) hbl).trans d0) ((hb.cell (p := ⟨b, o + 1, none⟩) hbl).trans d1) (h.to hb) hin0 hin1 i k (by omega) (by rw [hln.out]; omega)
  have LD := Lib.hid (fun w' a c ys x y => l05Dearer_any w' a c ys x y)
  have Hh := Lib.hid h
  have G := Lib.hid g
  have Hin0 := Lib.hid hin0
  have Hin1 := Lib.hid hin1
  have Hl0 : Hid (x0.length = n) := by rw [hn]; exact hl.symm
  have Hl1 : Hid (x1.length = n) := by rw [hn, hl]; exact hln.out
  have Hbl : Hid (∀ (i k : Nat) (ys zs : List Int) (x : Int), i < n → k < n → x0[i]? = some ys → x1[k]? = some zs → m[i]? = some x → blocksB ⟨x0, x1⟩ m i k = (pairB ⟨x0, x1⟩ i k && x != (k : Int) && dearB ys k x && dearB zs i (backF m k))) := by
    intro i k ys zs x _ _ e1 e2 e3
    have e4 : (x != (k : Int)) = !decide (x = (k : Int)) := rfl
    unfold blocksB
    simp only [row_get e1, row_get e2, getD_of_get e3, e4]
  have HBL : Hid (∀ k, k < n → (backL m n)[k]? = some (backF m k)) := fun k hk => backL_get hk
  have HBN : Hid ((backL m n).length = n) := by simp [backL, Hid]
  have HH : Hid (∀ i k, i < n → k < n → blocksB ⟨x0, x1⟩ m i k = true → (∀ i' k', i' < i → k' < n → blocksB ⟨x0, x1⟩ m i' k' = false) → (∀ k', k' < k → blocksB ⟨x0, x1⟩ m i k' = false) → blockF ⟨x0, x1⟩ m = some (i, k)) := fun i k h1 h2 h3 h4 h5 => by
    rw [block_first]; simp only [Hl0.out]; exact first2_here h1 h2 h3 h4 h5
  have HZ : Hid ((∀ i k, i < n → k < n → blocksB ⟨x0, x1⟩ m i k = false) → blockF ⟨x0, x1⟩ m = none) := fun hh => by
    rw [block_first]; simp only [Hl0.out]; exact first2_none.2 hh
  have Hn := Lib.hid hn
  rw [← hn] at LB ⊢
  generalize hbf : blocksB ⟨x0, x1⟩ m = bf at *
  generalize hFF : blockF ⟨x0, x1⟩ m = FF at *
  generalize hbk : backL m n = bk at *
  rw [Hl0.out] at d0
  rw [Hl1.out] at d1
  have n1 : 1 ≤ n := by omega
  have n8 : n ≤ 8 := by omega
  clear h g hv hin0 hin1 hbf hFF hbk hm hl hn h1 h8
  go_enter Try.func78, Try.ntmps78
  go_wp2_with fail
  refine LB.out.mono ?_
  rintro e w1 ⟨ab, cb, rfl, ob, B1⟩
  have RB := Lib.hid ob.rd
  clear ob LB
  go_wp2_with fail
  go_loopw [9] (fun iv wr => ∃ i : Nat, i ≤ n ∧ iv = .int .i64 i ∧ Hid (∀ i' k', i' < i → k' < n → bf i' k' = false) ∧ Below w1.heap.size w1 wr) (fun iv _ => n - (intOf iv).toNat)
  case atStart => exact ⟨0, Nat.zero_le _, rfl, fun _ _ h => by omega, Below.refl _ _⟩
  case round =>
    obtain ⟨i, hi, rfl, hrows, hw1⟩ := hrel
    by_cases hlt : i < n
    · go_wp2_with fail
      go_loopw [10] (fun kv wr => ∃ k : Nat, k ≤ n ∧ kv = .int .i64 k ∧ Hid (∀ k', k' < k → bf i k' = false) ∧ Below w1.heap.size w1 wr) (fun kv _ => n - (intOf kv).toNat)
      case atStart => exact ⟨0, Nat.zero_le _, rfl, fun _ h => by omega, hw1⟩
      case round =>
        clear hw1
        obtain ⟨k, hk, rfl, hcols, hw1⟩ := hrel
        by_cases hlk : k < n
        · have hw := B1.trans (hw1.mono B1.size)
          obtain ⟨b2, o2, ys, a2, c2, e2, hb2, hc2, _, hr2, hy2⟩ := (Hh.out.1).get (k := i) (by rw [Hl0.out]; exact hlt)
          obtain ⟨b3, o3, zs, a3, c3, e3, hb3, hc3, _, hr3, hy3⟩ := (Hh.out.2).get (k := k) (by rw [Hl1.out]; exact hlk)
          obtain ⟨b4, o4, x, e4, hb4, hc4, hx4⟩ := G.out.get (k := i) (by rw [← Hn.out]; exact hlt)
          obtain ⟨b5, o5, ix, e5, hb5, hc5, hx5⟩ := RB.out.get (k := k) (by rw [HBN.out]; exact hlk)
          subst e2 e3 e4 e5
          have eix : ix = backF m k := by
            have := hx5.out
            rw [HBL.out k hlk] at this
            injection this with this
            exact this.symm
          have hbl' := Hbl.out i k ys zs x hlt hlk hy2.out hy3.out hx4.out
          rw [← eix] at hbl'
          have LT1 : Hid (∀ w', Below wr.heap.size wr w' → _) := fun w' hb => LP.out w' i k (hw.trans (hb.mono hw.size)) hlt hlk
          have LD1 : Hid (∀ w', Below wr.heap.size wr w' → _) := fun w' hb => LD.out w' a2 c2 ys k x (hr2.to (hw.trans (hb.mono hw.size))) (Hin0.out ys (List.mem_of_getElem? hy2.out))
          have LD2 : Hid (∀ w', Below wr.heap.size wr w' → _) := fun w' hb => LD.out w' a3 c3 zs i ix (hr3.to (hw.trans (hb.mono hw.size))) (Hin1.out zs (List.mem_of_getElem? hy3.out))
          have hs := hw.size
          have F0 : ∀ z : Later wr, z.w'.cell? ⟨b, o, none⟩ = some (.slice (some ⟨b2, o2, none⟩) n c0) := fun z => z.cell (by simp only; omega) ((hw.cell (p := ⟨b, o, none⟩) hbl).trans d0)
          have F1 : ∀ z : Later wr, z.w'.cell? ⟨b, o + 1, none⟩ = some (.slice (some ⟨b3, o3, none⟩) n c1) := fun z => z.cell (by simp only; omega) ((hw.cell (p := ⟨b, o + 1, none⟩) hbl).trans d1)
          have F2 : ∀ z : Later wr, z.w'.cell? ⟨b2, o2 + i, none⟩ = some (.slice a2 ys.length c2) := fun z => z.cell (by simp only; omega) ((hw.cell (p := ⟨b2, o2 + i, none⟩) hb2).trans hc2)
          have F3 : ∀ z : Later wr, z.w'.cell? ⟨b3, o3 + k, none⟩ = some (.slice a3 zs.length c3) := fun z => z.cell (by simp only; omega) ((hw.cell (p := ⟨b3, o3 + k, none⟩) hb3).trans hc3)
          have F4 : ∀ z : Later wr, z.w'.cell? ⟨b4, o4 + i, none⟩ = some (.int .i64 x) := fun z => z.cell (by simp only; omega) ((hw.cell (p := ⟨b4, o4 + i, none⟩) hb4).trans hc4)
          have F5 : ∀ z : Later wr, z.w'.cell? ⟨b5, o5 + k, none⟩ = some (.int .i64 ix) := fun z => z.cell (by have := hw1.size; simp only; omega) ((hw1.cell (p := ⟨b5, o5 + k, none⟩) hb5).trans hc5)
          have i0 : (0 : Int) ≤ (i : Int) := Int.natCast_nonneg _
          have k0 : (0 : Int) ≤ (k : Int) := Int.natCast_nonneg _
          have i1 : (i : Int) < (n : Int) := by omega
          have k1 : (k : Int) < (n : Int) := by omega
          have HN : Hid (∀ w' : World, bf i k = false → Below wr.heap.size wr w' → ∃ k' : Nat, k' ≤ n ∧ (Value.int .i64 ((k : Int) + 1)) = .int .i64 k' ∧ Hid (∀ q, q < k' → bf i q = false) ∧ Below w1.heap.size w1 w') := fun w' hf hb =>
            ⟨k + 1, by omega, by go_num, fun q hq => by
              by_cases e : q = k
              · subst e; exact hf
              · exact hcols.out q (by omega), hw1.trans (hb.mono hw1.size)⟩
          have HBB : Hid (∀ w' : World, Below wr.heap.size wr w' → Below w.heap.size w w') := fun w' hb => hw.trans (hb.mono hw.size)
          have Hhit : Hid (bf i k = true → FF = some (i, k)) := fun hh => HH.out i k hlt hlk hh hrows.out hcols.out
          have HC := Lib.hid hbl'
          clear hr2 hr3 hc2 hc3 hc4 hc5 hy2 hy3 hx4 hx5 eix hbl' hw hs hcols
          cases t1 : pairB ⟨x0, x1⟩ i k with
          | false =>
            rw [t1] at LT1 HC
            rw [Bool.false_and, Bool.false_and, Bool.false_and] at HC
            go_wp2_with fail
            refine wp_region_later (by kernel_rfl) (by kernel_rfl) ?_
            repeat (go_big_quiet_step ((go_at_call 65; exact later_same (LT1.out _ (Later.h _)))))
            refine wpQuiet_nil ?_
            rintro _ ⟨⟨wq, hbq⟩, rfl⟩
            clear F0 F1 F2 F3 F4 F5
            go_wp2_with fail
            go_roundw
            case rel => exact HN.out _ HC.out hbq
            case measure => simp [intOf]; omega
          | true =>
            rw [t1] at LT1 HC
            rw [Bool.true_and] at HC
            cases t2 : (x != (k : Int)) with
            | false =>
              rw [t2, Bool.false_and, Bool.false_and] at HC
              go_wp2_with fail
              refine wp_region_later (by kernel_rfl) (by kernel_rfl) ?_
              repeat (go_big_quiet_step ((go_at_call 65; exact later_same (LT1.out _ (Later.h _)))))
              refine wpQuiet_nil ?_
              rintro _ ⟨⟨wq, hbq⟩, rfl⟩
              clear F0 F1 F2 F3 F4 F5
              go_wp2_with fail
              go_roundw
              case rel => exact HN.out _ HC.out hbq
              case measure => simp [intOf]; omega
            | true =>
              rw [t2, Bool.true_and] at HC
              cases t3 : dearB ys k x with
              | false =>
                rw [t3] at LD1 HC
                rw [Bool.false_and] at HC
                go_wp2_with fail
                refine wp_region_later (by kernel_rfl) (by kernel_rfl) ?_
                repeat (go_big_quiet_step (first | (go_at_call 65; exact later_same (LT1.out _ (Later.h _))) | (go_at_call_of 66 a2; exact later_same (LD1.out _ (Later.h _)))))
                refine wpQuiet_nil ?_
                rintro _ ⟨⟨wq, hbq⟩, rfl⟩
                clear F0 F1 F2 F3 F4 F5
                go_wp2_with fail
                go_roundw
                case rel => exact HN.out _ HC.out hbq
                case measure => simp [intOf]; omega
              | true =>
                rw [t3] at LD1 HC
                rw [Bool.true_and] at HC
                cases t4 : dearB zs i ix with
                | false =>
                  rw [t4] at LD2 HC
                  go_wp2_with fail
                  refine wp_region_later (by kernel_rfl) (by kernel_rfl) ?_
                  repeat (go_big_quiet_step (first | (go_at_call 65; exact later_same (LT1.out _ (Later.h _))) | (go_at_call_of 66 a2; exact later_same (LD1.out _ (Later.h _))) | (go_at_call_of 66 a3; exact later_same (LD2.out _ (Later.h _)))))
                  refine wpQuiet_nil ?_
                  rintro _ ⟨⟨wq, hbq⟩, rfl⟩
                  clear F0 F1 F2 F3 F4 F5
                  go_wp2_with fail
                  go_roundw
                  case rel => exact HN.out _ HC.out hbq
                  case measure => simp [intOf]; omega
                | true =>
                  rw [t4] at LD2 HC
                  have HR : Hid (FF = some (i, k)) := Hhit.out HC.out
                  go_wp2_with fail
                  refine wp_region_later (by kernel_rfl) (by kernel_rfl) ?_
                  repeat (go_big_quiet_step (first | (go_at_call 65; exact later_same (LT1.out _ (Later.h _))) | (go_at_call_of 66 a2; exact later_same (LD1.out _ (Later.h _))) | (go_at_call_of 66 a3; exact later_same (LD2.out _ (Later.h _)))))
                  refine wpQuiet_nil ?_
                  rintro _ ⟨⟨wq, hbq⟩, rfl⟩
                  clear F0 F1 F2 F3 F4 F5
                  have HB := Lib.hid (HBB.out _ hbq)
                  clear hbq
                  go_wp2_with fail
                  go_ret3
                  exact ⟨by rw [HR.out]; rfl, HB.out⟩
        · have : k = n := by omega
          subst this
          have HROW : Hid (∀ i' k', i' < i + 1 → k' < k → bf i' k' = false) := fun i' k' h1 h2 => by
            by_cases e : i' = i
            · subst e; exact hcols.out k' h2
            · exact hrows.out i' k' (by omega) h2
          clear hcols hrows
          go_wp2_with fail
          go_roundw
          case rel => exact ⟨i + 1, by omega, by go_num, HROW, hw1⟩
          case measure => simp [intOf]; omega
    · have : i = n := by omega
      subst this
      have HR : Hid (FF = none) := HZ.out hrows.out
      have HB := Lib.hid (B1.trans (hw1.mono B1.size))
      clear hrows
      go_wp2_with fail
      go_ret3
      exact ⟨by rw [HR.out]; rfl, HB.out⟩
set_option maxRecDepth 10000 in
set_option maxHeartbeats 4000000 in
theorem l05Stable_any (w : World) (b o : Nat) (a0 : Option Addr) (c0 : Nat) (x0 : List (List Int)) (a1 : Option Addr) (c1 : Nat) (x1 : List (List Int)) (d0 : w.cell? ⟨b, o, none⟩ = some (.slice a0 x0.length c0)) (d1 : w.cell? ⟨b, o + 1, none⟩ = some (.slice a1 x1.length c1)) (hbl : b < w.heap.size)
    (a : Option Addr) (c : Nat) (m : List Int) (h : RdWishes w w.heap.size a0 x0 a1 x1) (hl0 : x0.length ≤ 1048576) (hin0 : ∀ y ∈ x0, y.length ≤ 1048576) (hl1 : x1.length ≤ 1048576) (hin1 : ∀ y ∈ x1, y.length ≤ 1048576) (g : Rd w w.heap.size a (ints m)) (hl : m.length ≤ 1048576) (hc : m.length ≤ c) :
    Calls Try.prog 46 #[.pointer (some ⟨b, o, none⟩), .slice a m.length c] w fun e w' => e = .returned (.bool (wishB ⟨x0, x1⟩ && stableB ⟨x0, x1⟩ m)) ∧ Below w.heap.size w w' := by
  have LM := Lib.hid (l05Match_any w b o a0 c0 x0 a1 c1 x1 d0 d1 a c m h hl0 hin0 hl1 hin1 g hl hc)
  have HF : Hid ((wishB ⟨x0, x1⟩ && stableB ⟨x0, x1⟩ m) = ((wishB ⟨x0, x1⟩ && matchB ⟨x0, x1⟩ m) && (blockF ⟨x0, x1⟩ m).isNone)) := by unfold stableB; rw [Hid, Bool.and_assoc]
  cases t1 : wishB ⟨x0, x1⟩ && matchB ⟨x0, x1⟩ m with
  | false =>
    rw [t1] at LM HF
    rw [Bool.false_and] at HF
    clear h g hin0 hin1 t1
    go_enter Try.func46, Try.ntmps46
    go_wp2_with fail
    refine LM.out.mono ?_
    rintro e w1 ⟨rfl, q, rfl⟩
    go_wp2_with fail
    go_ret
    exact ⟨ret_bool HF.out.symm, below_drewN (Below.refl _ _) q⟩
  | true =>
    rw [t1] at LM HF
    rw [Bool.true_and] at HF
    rw [Bool.and_eq_true] at t1
    have hv := wish_of t1.1
    have hm := mat_of t1.2
    have LB := Lib.hid (fun q => l05Block_any (w.drewN q) b o a0 c0 x0 a1 c1 x1 d0 d1 hbl h hv hin0 hin1 a c m g hm)
    clear h g hv hm hin0 hin1 t1
    cases hf : blockF ⟨x0, x1⟩ m with
    | none =>
      rw [hf] at LB HF
      go_enter Try.func46, Try.ntmps46
      go_wp2_with fail
      refine LM.out.mono ?_
      rintro e w1 ⟨rfl, q, rfl⟩
      go_wp2_with fail
      refine (LB.out q).mono ?_
      rintro e w2 ⟨rfl, hb2⟩
      have B2 := below_then (below_drewN (Below.refl w.heap.size w) q) hb2
      clear hb2 LB LM
      go_wp2_with fail
      go_ret
      exact ⟨ret_bool HF.out.symm, B2⟩
    | some p =>
      rw [hf] at LB HF
      go_enter Try.func46, Try.ntmps46
      go_wp2_with fail
      refine LM.out.mono ?_
      rintro e w1 ⟨rfl, q, rfl⟩
      go_wp2_with fail
      refine (LB.out q).mono ?_
      rintro e w2 ⟨rfl, hb2⟩
      have B2 := below_then (below_drewN (Below.refl w.heap.size w) q) hb2
      clear hb2 LB LM
      go_wp2_with fail
      go_ret
      exact ⟨ret_bool HF.out.symm, B2⟩
set_option maxHeartbeats 2000000 in
theorem blockOfR_any (w : World) (a0 : Option Addr) (c0 : Nat) (x0 : List (List Int)) (a1 : Option Addr) (c1 : Nat) (x1 : List (List Int)) (a : Option Addr) (c : Nat) (m : List Int) (h : RdWishes w w.heap.size a0 x0 a1 x1) (hl0 : x0.length ≤ 1048576) (hin0 : ∀ y ∈ x0, y.length ≤ 1048576) (hl1 : x1.length ≤ 1048576) (hin1 : ∀ y ∈ x1, y.length ≤ 1048576)
    (g : Rd w w.heap.size a (ints m)) (hl : m.length ≤ 1048576) (hc : m.length ≤ c) :
    Calls Try.prog 35 #[.agg #[.slice a0 x0.length c0, .slice a1 x1.length c1], .slice a m.length c] w fun e w' => e = .returned (.tuple #[.int .i64 (bA (blockOfF ⟨x0, x1⟩ m)), .int .i64 (bZ (blockOfF ⟨x0, x1⟩ m)), .bool (blockOfF ⟨x0, x1⟩ m).isSome]) ∧ Below w.heap.size w w' := by
  have hB := bl1 w (.cells #[.slice a0 x0.length c0, .slice a1 x1.length c1] 27)
  have k := Blk.new w [.slice a0 x0.length c0, .slice a1 x1.length c1] 27
  have LM := Lib.hid (l05Match_any _ w.heap.size 0 a0 c0 x0 a1 c1 x1 (k.cell 0) (k.cell 1) a c m (h.to hB) hl0 hin0 hl1 hin1 (g.to hB) hl hc)
  cases t1 : wishB ⟨x0, x1⟩ && matchB ⟨x0, x1⟩ m with
  | false =>
    have HF : blockOfF ⟨x0, x1⟩ m = none := by simp [blockOfF, t1]
    rw [t1] at LM
    rw [HF]
    clear h g hin0 hin1 HF t1 k
    go_enter Try.func35, Try.ntmps35
    go_wp2_with fail
    refine LM.out.mono ?_
    rintro e w1 ⟨rfl, q, rfl⟩
    go_wp2_with fail
    go_ret3
    exact ⟨rfl, below_drewN hB q⟩
  | true =>
    have HF : blockOfF ⟨x0, x1⟩ m = blockF ⟨x0, x1⟩ m := by simp [blockOfF, t1]
    rw [t1] at LM
    rw [HF]
    rw [Bool.and_eq_true] at t1
    have LB := Lib.hid (fun q => l05Block_any ((w.alloc (.cells #[.slice a0 x0.length c0, .slice a1 x1.length c1] 27)).drewN q) w.heap.size 0 a0 c0 x0 a1 c1 x1 (k.cell 0) (k.cell 1) (by simp) (h.to (below_drewN hB q)) (wish_of t1.1) hin0 hin1 a c m (g.to (below_drewN hB q)) (mat_of t1.2))
    generalize blockF ⟨x0, x1⟩ m = F at *
    clear h g hin0 hin1 HF t1 k
    go_enter Try.func35, Try.ntmps35
    go_wp2_with fail
    refine LM.out.mono ?_
    rintro e w1 ⟨rfl, q, rfl⟩
    go_wp2_with fail
    refine (LB.out q).mono ?_
    rintro e w2 ⟨rfl, hb2⟩
    have B2 := below_then (below_drewN hB q) hb2
    clear hb2 LB LM
    go_wp2_with fail
    go_ret3
    exact ⟨rfl, B2⟩
end Go.Proofs.Ytchfibmndcfpiaa
namespace Go.Proofs.Ytchfibmndcfpiaa
set_option linter.unusedVariables false
set_option linter.unusedSimpArgs false
open Go.RowKit

/-- The box made first still holds what it held, and all that was there before is as it was. -/
def Bx (w w' : World) (cs : List Value) (t : TypeId) : Prop := Below w.heap.size w w' ∧ Blk w' w.heap.size cs t
section
variable {w w1 w2 : World} {cs : List Value} {t : TypeId}
theorem Bx.start (w : World) (cs : List Value) (t : TypeId) : Bx w (w.alloc (.cells cs.toArray t)) cs t := ⟨bl1 _ _, Blk.new w cs t⟩
theorem Bx.lt (h : Bx w w1 cs t) : w.heap.size + 1 ≤ w1.heap.size := h.2.lt
theorem Bx.next (h : Bx w w1 cs t) (hb : Below w1.heap.size w1 w2) : Bx w w2 cs t := ⟨below_then h.1 hb, h.2.same hb⟩
theorem Bx.far {C : Nat} (h : Bx w w1 cs t) (hb : Below C w1 w2) (hC : w.heap.size + 1 ≤ C) : Bx w w2 cs t := ⟨h.1.trans (hb.mono (by omega)), h.2.below hb (by omega)⟩
theorem Bx.drewN (h : Bx w w1 cs t) (n : Nat) : Bx w (w1.drewN n) cs t := ⟨below_drewN h.1 n, h.2⟩
theorem Bx.drew (h : Bx w w1 cs t) : Bx w w1.drew cs t := ⟨below_drew' h.1, h.2⟩
theorem Bx.two {v0 v1 : Value} (h : Bx w w1 [v0, v1] t) : w1.cell? ⟨w.heap.size, 0, none⟩ = some v0 ∧ w1.cell? ⟨w.heap.size, 1, none⟩ = some v1 := ⟨h.2.cell 0, h.2.cell 1⟩
end
/-- What appending to a row of one's own leaves below the row. -/
theorem below_row {wr w' : World} {base e n : Nat} {v : Value} {xs : List Value} (ho : wr.ownsRow base e 1 v n xs) (hg : wr.grownBy w' v.ownBlock) (hB : base ≤ wr.heap.size) : Below base wr w' :=
  below_append (Below.refl base wr) ho hg (Nat.le_refl _) hB
theorem take_snoc {xs : List Int} {k : Nat} {x : Int} (h : xs[k]? = some x) : ints (xs.take (k + 1)) = ints (xs.take k) ++ [.int .i64 x] := by
  rw [List.take_add_one, h, Option.toList_some, ints_append]; rfl
/-- An answer of two: a list and whether it is one, or nothing. -/
def RetB (T : Nat) (w : World) (r : Option (List Int × Bool)) (e : Ending) (w' : World) : Prop :=
  Below w.heap.size w w' ∧ match r with
    | none => e = .returned (.tuple #[.slice none 0 0, .bool false])
    | some (ys, b) => ∃ a c, e = .returned (.tuple #[.slice a ys.length c, .bool b]) ∧ w'.ownsRow w.heap.size T 1 (.slice a ys.length c) ys.length (ints ys)
end Go.Proofs.Ytchfibmndcfpiaa
namespace Go.Proofs.Ytchfibmndcfpiaa
set_option linter.unusedVariables false
set_option linter.unusedSimpArgs false
open Go.RowKit

theorem splice_rep (x : Int) (n k m : Nat) (h : k + m ≤ n) : splice (ints (List.replicate k x ++ List.replicate (n - k) 0)) k (ints (List.replicate m x)) = ints (List.replicate (k + m) x ++ List.replicate (n - (k + m)) 0) := by
  unfold splice
  simp only [ints, List.map_append, List.map_replicate, List.length_replicate]
  rw [List.take_append_of_le_length (by simp), List.take_of_length_le (by simp), List.drop_append, List.drop_of_length_le (by simp)]
  simp only [List.length_replicate, List.nil_append, List.drop_replicate, ← List.append_assoc, List.replicate_append_replicate]
  congr 2
  omega
theorem rep_get (x : Int) (k m j : Nat) (hj : j < k) : (ints (List.replicate k x ++ List.replicate m 0))[j]? = some (.int .i64 x) := by
  simp [ints, List.getElem?_append_left, hj]
theorem src_rep {w : World} {b o m : Nat} {x : Int} (hc : ∀ j, j < m → w.cell? ⟨b, o + j, none⟩ = some (.int .i64 x)) : ∀ j v, (ints (List.replicate m x))[j]? = some v → w.cell? ((⟨b, o, none⟩ : Addr).add j) = some v := by
  intro j v hj
  have hlt : j < m := by have := (List.getElem?_eq_some_iff.1 hj).1; simpa using this
  have ea : (⟨b, o, none⟩ : Addr).add j = ⟨b, o + j, none⟩ := by unfold Addr.add; split <;> simp_all
  rw [ea, hc j hlt, ← hj]
  simp [ints, hlt]
theorem src_pos {w : World} {b o m g k : Nat} {x : Int} (hc : ∀ j, j < m → w.cell? ⟨b, o + j, none⟩ = some (.int .i64 x)) : 0 < (ints (List.replicate m x)).length → (some ⟨g, k, none⟩ : Option Addr) = some ⟨g, k, none⟩ ∧ ∃ ad, (some ⟨b, o, none⟩ : Option Addr) = some ad ∧ ∀ j v, (ints (List.replicate m x))[j]? = some v → w.cell? (ad.add j) = some v :=
  fun _ => ⟨rfl, _, rfl, src_rep hc⟩
theorem one_rep (m : Nat) (x : Int) : ∀ v ∈ ints (List.replicate m x), v.oneCell' = true := by
  intro v hv
  obtain ⟨y, _, rfl⟩ := List.mem_map.1 hv
  rfl
theorem mul_one (n : Nat) (hn : n ≤ 1048576) (w : World) : Calls Try.prog 102 #[.int .u64 1, .int .u64 n] w fun e w' => e = .returned (.tuple #[.int .u64 0, .int .u64 n]) ∧ w = w' := by
  refine (Try.bits_Mul 1 n (by omega) (by omega) w).mono ?_
  rintro e w' ⟨h1, h2⟩
  rw [h1, h2]
  refine ⟨?_, rfl⟩
  have e1 : 1 * n / 18446744073709551616 = 0 := by omega
  have e2 : 1 * n % 18446744073709551616 = n := by omega
  rw [e1, e2]
  rfl
set_option maxRecDepth 10000 in
set_option maxHeartbeats 4000000 in
theorem repeat_any (w : World) (b : Nat) (x : Int) (n : Nat) (h : w.cell? ⟨b, 0, none⟩ = some (.int .i64 x)) (hb : b < w.heap.size) (h1 : 1 ≤ n) (hn : n ≤ 1048576) :
    Calls Try.prog 86 #[.slice (some ⟨b, 0, none⟩) 1 1, .int .i64 n] w fun e w' => e = .returned (.slice (some ⟨w.heap.size, 0, none⟩) n n) ∧ Blk w' w.heap.size (ints (List.replicate n x)) 2 ∧ Below w.heap.size w w' := by
  have LM := Lib.hid (mul_one n hn)
  go_enter Try.func86, Try.ntmps86
  go_wp2_with fail
  refine (LM.out _).mono ?_
  rintro e w1 ⟨rfl, rfl⟩
  clear LM
  go_wp2_with (at_make; refine wpList_make_blk _ rfl _ _ 31 rfl 2 (.int .i64 0) 8 Try.underlying31 info_i64p rfl _ _ n rfl rfl (by omega) (by unfold maxLen; omega) ?_)
  intro w1 hb1 hw1 hs1
  have hc1 := (hw1.cell (p := ⟨b, 0, none⟩) hb).trans h
  have hb1' : Blk w1 w.heap.size (ints (List.replicate 0 x ++ List.replicate (n - 0) 0)) 2 := by simpa [ints_replicate] using hb1
  clear h hb1
  have HP : Hid (∀ j, j < 1 → w1.cell? ⟨b, 0 + j, none⟩ = some (.int .i64 x)) := (fun j hj => by
    have : j = 0 := by omega
    subst this; exact hc1)
  have HM : Hid ((ints (List.replicate 1 x)).length = Nat.min 1 n) := by
    show _ = _
    rw [ints_length, List.length_replicate]; exact (Nat.min_eq_left h1).symm
  have HF : Hid (0 + (ints (List.replicate 1 x)).length ≤ (ints (List.replicate 0 x ++ List.replicate (n - 0) 0)).length) := by
    show _ ≤ _
    simp only [ints_length, List.length_append, List.length_replicate]; omega
  have HO := Lib.hid (one_rep 1 x)
  go_wp2_with (refine wpList_copy_splice (o := ⟨some 33, _, _, _, _, _⟩) rfl (.tmp 31) (.tmp 32) 31 31 rfl 2 Try.underlying31 (by kernel_rfl) (some ⟨w.heap.size, 0, none⟩) (some ⟨b, 0, none⟩) n n 1 1 rfl rfl w.heap.size 0 _ 2 hb1' (ints (List.replicate 1 x)) HM.out (src_pos HP.out) HF.out HO.out w.heap.size w hw1 (Nat.le_refl _) ?_)
  intro w2 hg2 hb2
  have hB2 : Blk w2 w.heap.size (ints (List.replicate 1 x ++ List.replicate (n - 1) 0)) 2 := by
    have h2 := hg2.out
    have e := splice_rep x n 0 1 (by omega)
    have e0 : List.replicate 0 x ++ List.replicate (n - 0) (0 : Int) = List.replicate n 0 := by simp
    have e1 : List.replicate 1 x = [x] := rfl
    rw [e0, e1, Nat.zero_add] at e
    rw [e] at h2
    exact h2
  clear hg2 hb1' hc1 hw1
  go_wp2_with fail
  go_loopw [8] (fun kv wr => ∃ k : Nat, 1 ≤ k ∧ k ≤ n ∧ kv = .int .i64 k ∧ Blk wr w.heap.size (ints (List.replicate k x ++ List.replicate (n - k) 0)) 2 ∧ Below w.heap.size w wr) (fun kv _ => n - (intOf kv).toNat)
  case atStart => exact ⟨1, Nat.le_refl _, h1, rfl, hB2, hb2⟩
  case round =>
    clear hB2 hb2
    obtain ⟨k, hk1, hk, rfl, hB, hw⟩ := hrel
    by_cases hlt : k < n
    · obtain ⟨m, hm⟩ : ∃ m, m = Nat.min k (n - k) := ⟨_, rfl⟩
      have hm1 : 1 ≤ m := by rw [hm]; simp only [Nat.min_def]; split <;> omega
      have hm2 : k + m ≤ n := by rw [hm]; simp only [Nat.min_def]; split <;> omega
      have hmk : m ≤ k := by rw [hm]; exact Nat.min_le_left _ _
      have Hm : Hid (m = Nat.min k (n - k)) := hm
      have HS := Lib.hid (splice_rep x n k m hm2)
      have hdrew := below_drew' hw
      have hnk : ¬ n = k := by omega
      have k0 : (0 : Int) ≤ (k : Int) := Int.natCast_nonneg _
      have k2 : (k : Int) ≤ (n : Int) := by omega
      clear hm
      have hwp : IntKind.i64.wrap ((k : Int) + (m : Int)) = (k : Int) + (m : Int) := IntWalk.i64_in _ (by omega)
      have HP : Hid (∀ j, j < m → wr.drew.cell? ⟨w.heap.size, 0 + j, none⟩ = some (.int .i64 x)) := (fun j hj => by
        rw [Nat.zero_add, show wr.drew.cell? ⟨w.heap.size, j, none⟩ = _ from Blk.cell (w := wr.drew) hB j]; exact rep_get x k _ j (by omega))
      have HM : Hid ((ints (List.replicate m x)).length = Nat.min k (n - k)) := by
        show _ = _
        rw [ints_length, List.length_replicate]; exact Hm.out
      have HF : Hid (k + (ints (List.replicate m x)).length ≤ (ints (List.replicate k x ++ List.replicate (n - k) 0)).length) := by
        show _ ≤ _
        simp only [ints_length, List.length_append, List.length_replicate]; omega
      have HO := Lib.hid (one_rep m x)
      have hB1 : Hid (Blk wr.drew w.heap.size (ints (List.replicate k x ++ List.replicate (n - k) 0)) 2) := hB
      go_wp2_with fail
      go_region_law (refine step_copy_splice (by rfl) (.tmp 41) (.tmp 44) 31 31 (by rfl) 2 Try.underlying31 (by kernel_rfl) (some ⟨w.heap.size, k, none⟩) (some ⟨w.heap.size, 0, none⟩) (n - k) (n - k) k n (by simp [Act.eval, Act.put]) (by simp [Act.eval, Act.put]) w.heap.size k _ 2 hB1.out (ints (List.replicate m x)) HM.out (src_pos HP.out) HF.out HO.out w.heap.size w hdrew (Nat.le_refl _) ?_; intro w4 hg4 hb4)
      all_goals
        have hB4 : Blk w4 w.heap.size (ints (List.replicate (k + m) x ++ List.replicate (n - (k + m)) 0)) 2 := by
          have h2 := hg4.out
          rw [HS.out] at h2
          exact h2
        have hl : Hid ((ints (List.replicate m x)).length = m) := by show _ = _; simp
        clear hB hw hdrew hg4
        try simp only [hwp]
        go_simp
        go_wp2_with fail
        go_roundw
        case rel => exact ⟨k + m, by omega, hm2, by go_num, hB4, hb4⟩
        case measure => simp [intOf]; omega
    · have : k = n := by omega
      subst this
      have hB2 : Blk wr w.heap.size (ints (List.replicate k x)) 2 := by simpa using hB
      clear hB
      go_wp2_with fail
      go_ret
      exact ⟨rfl, hB2, hw⟩
theorem none_any (w : World) (n : Nat) (h1 : 1 ≤ n) (hn : n ≤ 1048576) :
    Calls Try.prog 67 #[.int .i64 n] w fun e w' => e = .returned (.slice (some ⟨w.heap.size + 1, 0, none⟩) n n) ∧ Blk w' (w.heap.size + 1) (ints (List.replicate n (-1))) 2 ∧ Below w.heap.size w w' := by
  have LR := Lib.hid (repeat_any (w.alloc (.cells #[.int .i64 (-1)] 2)) w.heap.size (-1) n ((Blk.new w [.int .i64 (-1)] 2).cell 0) (by simp) h1 hn)
  go_enter Try.func67, Try.ntmps67
  go_wp2_with fail
  refine LR.out.mono ?_
  rintro e w1 ⟨rfl, hb, hw⟩
  rw [World.size_alloc] at hb hw
  have hB := (bl1 w (.cells #[.int .i64 (-1)] 2)).trans (hw.mono (Nat.le_succ _))
  clear hw
  go_wp2_with fail
  go_ret
  exact ⟨by simp, hb, hB⟩
end Go.Proofs.Ytchfibmndcfpiaa
namespace Go.Proofs.Ytchfibmndcfpiaa
set_option linter.unusedVariables false
set_option linter.unusedSimpArgs false
open Go.RowKit

set_option maxRecDepth 10000 in
set_option maxHeartbeats 4000000 in
theorem areSeats_any (w : World) (a0 : Option Addr) (c0 : Nat) (x0 : List (List Int)) (a1 : Option Addr) (c1 : Nat) (x1 : List (List Int)) (a : Option Addr) (c : Nat) (m : List Int) (h : RdWishes w w.heap.size a0 x0 a1 x1) (hl0 : x0.length ≤ 1048576) (hin0 : ∀ y ∈ x0, y.length ≤ 1048576) (hl1 : x1.length ≤ 1048576) (hin1 : ∀ y ∈ x1, y.length ≤ 1048576)
    (g : Rd w w.heap.size a (ints m)) (hl : m.length ≤ 1048576) :
    Calls Try.prog 56 #[.agg #[.slice a0 x0.length c0, .slice a1 x1.length c1], .slice a m.length c] w fun e w' => e = .returned (.bool (seatsB ⟨x0, x1⟩ m)) ∧ Below w.heap.size w w' := by
  have X0 : Bx w (w.alloc (.cells #[.slice a0 x0.length c0, .slice a1 x1.length c1] 27)) [.slice a0 x0.length c0, .slice a1 x1.length c1] 27 := Bx.start w _ _
  have LV := Lib.hid (fun w' hb => validWishes_any w' a0 c0 x0 a1 c1 x1 (h.to hb) hl0 hin0 hl1 hin1)
  have LC := Lib.hid (fun w' => count_any w' a0 c0 x0 a1 c1 x1)
  have LM := Lib.hid (fun w' hb => areMany_any w' a c m x0.length x0.length 0 8 (g.to hb) (by omega))
  have HF : Hid (seatsB ⟨x0, x1⟩ m = (wishB ⟨x0, x1⟩ && manyB m x0.length x0.length 0 8)) := rfl
  clear h g hin0 hin1
  obtain ⟨w0, hw0⟩ : ∃ W, W = w.alloc (.cells #[.slice a0 x0.length c0, .slice a1 x1.length c1] 27) := ⟨_, rfl⟩
  have HW := Lib.hid hw0
  rw [← hw0] at X0
  clear hw0
  have F0 : ∀ z : Later (w.alloc (.cells #[.slice a0 x0.length c0, .slice a1 x1.length c1] 27)), z.w'.cell? ⟨w.heap.size, 0, none⟩ = some (.slice a0 x0.length c0) := fun z => z.cell (by simp) (by rw [← HW.out]; exact X0.two.1)
  have F1 : ∀ z : Later (w.alloc (.cells #[.slice a0 x0.length c0, .slice a1 x1.length c1] 27)), z.w'.cell? ⟨w.heap.size, 1, none⟩ = some (.slice a1 x1.length c1) := fun z => z.cell (by simp) (by rw [← HW.out]; exact X0.two.2)
  have HB : Hid (∀ z : Later (w.alloc (.cells #[.slice a0 x0.length c0, .slice a1 x1.length c1] 27)), Below w.heap.size w z.w') := fun z => (bl1 _ _).trans (z.h.mono (by simp))
  cases t1 : wishB ⟨x0, x1⟩ with
  | false =>
    rw [t1, Bool.false_and] at HF
    rw [t1] at LV
    go_enter Try.func56, Try.ntmps56
    go_wp2_with fail
    refine wp_region_later (by kernel_rfl) (by kernel_rfl) ?_
    repeat (go_big_quiet_step ((go_at_call 31; exact later_of (LV.out _ (HB.out _)))))
    refine wpQuiet_nil ?_
    rintro wq ⟨z, rfl⟩
    have hb := HB.out z
    clear F0 F1
    go_wp2_with fail
    go_ret
    exact ⟨ret_bool HF.out.symm, hb⟩
  | true =>
    rw [t1, Bool.true_and] at HF
    rw [t1] at LV
    generalize manyB m x0.length x0.length 0 8 = r at *
    go_enter Try.func56, Try.ntmps56
    go_wp2_with fail
    refine wp_region_later (by kernel_rfl) (by kernel_rfl) ?_
    repeat (go_big_quiet_step (first | (go_at_call 31; exact later_of (LV.out _ (HB.out _))) | (go_at_call 59; exact later_of (LC.out _)) | (go_at_call 95; exact later_same (LM.out _ (HB.out _)))))
    refine wpQuiet_nil ?_
    rintro wq ⟨z, rfl⟩
    have hb := HB.out z
    clear F0 F1
    go_wp2_with fail
    go_ret
    exact ⟨ret_bool HF.out.symm, hb⟩
set_option maxRecDepth 10000 in
set_option maxHeartbeats 4000000 in
theorem l05Seats_any (w : World) (b o : Nat) (a0 : Option Addr) (c0 : Nat) (x0 : List (List Int)) (a1 : Option Addr) (c1 : Nat) (x1 : List (List Int)) (d0 : w.cell? ⟨b, o, none⟩ = some (.slice a0 x0.length c0)) (d1 : w.cell? ⟨b, o + 1, none⟩ = some (.slice a1 x1.length c1))
    (a : Option Addr) (c : Nat) (m : List Int) (h : RdWishes w w.heap.size a0 x0 a1 x1) (hl0 : x0.length ≤ 1048576) (hin0 : ∀ y ∈ x0, y.length ≤ 1048576) (hl1 : x1.length ≤ 1048576) (hin1 : ∀ y ∈ x1, y.length ≤ 1048576) (g : Rd w w.heap.size a (ints m)) (hl : m.length ≤ 1048576) :
    Calls Try.prog 57 #[.pointer (some ⟨b, o, none⟩), .slice a m.length c] w fun e w' => e = .returned (.bool (seatsB ⟨x0, x1⟩ m)) ∧ ∃ q, w' = w.drewN q := by
  have LI := Lib.hid (l05Is_any w b o a0 c0 x0 a1 c1 x1 d0 d1 h hl0 hin0 hl1 hin1)
  have HF : Hid (seatsB ⟨x0, x1⟩ m = (wishB ⟨x0, x1⟩ && manyB m x0.length x0.length 0 8)) := rfl
  cases t1 : wishB ⟨x0, x1⟩ with
  | false =>
    rw [t1] at LI HF
    rw [Bool.false_and] at HF
    clear h g hin0 hin1
    go_enter Try.func57, Try.ntmps57
    go_wp2_with fail
    refine LI.out.mono ?_
    rintro e w1 ⟨rfl, q, rfl⟩
    go_wp2_with fail
    go_ret
    exact ⟨ret_bool HF.out.symm, q, rfl⟩
  | true =>
  rw [t1] at LI HF
  rw [Bool.true_and] at HF
  have hln := Lib.hid (wish_of t1).len
  simp only at hln
  by_cases hn : m.length = x1.length
  case neg =>
    have HF2 : Hid (seatsB ⟨x0, x1⟩ m = false) := by
      rw [Hid, HF.out]
      have : inB (m.length : Int) x0.length x0.length = false := inB_no.2 (by have := hln.out; omega)
      unfold manyB; rw [this]; rfl
    have hne : ((m.length : Int) != (x1.length : Int)) = true := by simp; omega
    clear h g hin0 hin1 hn
    go_enter Try.func57, Try.ntmps57
    go_wp2_with fail
    refine LI.out.mono ?_
    rintro e w1 ⟨rfl, q, rfl⟩
    go_wp2_with fail
    go_ret
    exact ⟨ret_bool HF2.out.symm, q, rfl⟩
  have hne : ((m.length : Int) != (x1.length : Int)) = false := by simp; omega
  have HF2 : Hid (seatsB ⟨x0, x1⟩ m = allIn m 0 8) := by
    rw [Hid, HF.out]
    have : inB (m.length : Int) x0.length x0.length = true := inB_iff.2 (by have := hln.out; omega)
    unfold manyB; rw [this]; rfl
  have G := Lib.hid g
  clear h g hin0 hin1 hn t1
  go_enter Try.func57, Try.ntmps57
  go_wp2_with fail
  refine LI.out.mono ?_
  rintro e w1 ⟨rfl, q0, rfl⟩
  go_wp2_with fail
  go_loop [21] (fun i => ∃ k : Nat, k ≤ m.length ∧ i = .int .i64 k ∧ Hid (allIn (m.take k) 0 8 = true)) (fun i => m.length - (intOf i).toNat)
  case atStart => exact ⟨0, Nat.zero_le _, rfl, rfl⟩
  case round =>
    obtain ⟨k, hk, rfl, ha⟩ := hrel
    by_cases hlt : k < m.length
    · obtain ⟨b1, o1, x, rfl, hbb, hck, hx⟩ := G.out.get hlt
      have LX := Lib.hid (fun v => l00In_any x 0 8 v)
      cases hin : inB x 0 8 with
      | true =>
        have HA : Hid (allIn (m.take (k + 1)) 0 8 = true) := by rw [Hid, allIn_snoc hx.out, ha.out, hin]; rfl
        rw [hin] at LX
        clear ha
        go_wp2_with (go_at_call 64; refine (LX.out _).mono ?_; rintro e w' ⟨rfl, rfl⟩)
        go_round
        case rel => exact ⟨k + 1, by omega, by go_num, HA⟩
        case measure => simp [intOf]; omega
      | false =>
        have HB : Hid (seatsB ⟨x0, x1⟩ m = false) := HF2.out.trans (allIn_false hx.out hin)
        rw [hin] at LX
        clear ha
        go_wp2_with (go_at_call 64; refine (LX.out _).mono ?_; rintro e w' ⟨rfl, rfl⟩)
        go_ret
        exact ⟨ret_bool HB.out.symm, q0, rfl⟩
    · have : k = m.length := by omega
      subst this
      rw [List.take_length] at ha
      have HB : Hid (seatsB ⟨x0, x1⟩ m = true) := HF2.out.trans ha.out
      clear ha
      go_wp2
      go_ret
      exact ⟨ret_bool HB.out.symm, q0, rfl⟩
end Go.Proofs.Ytchfibmndcfpiaa
namespace Go.Proofs.Ytchfibmndcfpiaa
set_option linter.unusedVariables false
set_option linter.unusedSimpArgs false
open Go.RowKit

structure OwnTab (T T2 : Nat) (w : World) (gh : Nat) (vs : List Value) (xss : List (List Int)) : Prop where
  len : vs.length = xss.length
  blk : Blk w gh vs T2
  row : ∀ (k : Nat) (v : Value) (xs : List Int), vs[k]? = some v → xss[k]? = some xs → w.ownsRow (gh + 1) T 1 v xs.length (ints xs)
  dis : ∀ (i j : Nat) (v v' : Value), i ≠ j → vs[i]? = some v → vs[j]? = some v' → Apart v v'
theorem OwnTab.start {T T2 : Nat} {w : World} {gh n : Nat} (h : Blk w gh (List.replicate n (.slice none 0 0)) T2) : OwnTab T T2 w gh (List.replicate n (.slice none 0 0)) (List.replicate n []) := by
  refine ⟨by simp, h, fun k v xs hv hx => ?_, fun i j v v' _ hv _ => ?_⟩
  · have hk : k < n := by have := (List.getElem?_eq_some_iff.1 hv).1; simpa using this
    simp [hk] at hv hx
    subst hv hx
    exact World.ownsRow_nil _ _ _ _
  · have hk : i < n := by have := (List.getElem?_eq_some_iff.1 hv).1; simpa using this
    simp [hk] at hv
    subst hv
    exact fun g hg => by cases hg
theorem OwnTab.keep {T T2 : Nat} {w w' : World} {gh : Nat} {vs : List Value} {xss : List (List Int)} (h : OwnTab T T2 w gh vs xss) (hb : Below w.heap.size w w') : OwnTab T T2 w' gh vs xss :=
  ⟨h.len, h.blk.same hb, fun k v xs hv hx => own_below (h.row k v xs hv hx) hb, h.dis⟩
theorem set_grown (w : World) (g j : Nat) (u : Value) : w.grownBy (w.setCell ⟨g, j, none⟩ u) (some g) := ⟨rfl, rfl, rfl, by simp, fun i _ hi => Below.heap_setCell _ _ _ _ (fun e => hi (by simp [e]))⟩
/-- A row of the table grows, its new value is stored. -/
theorem OwnTab.grow {T T2 : Nat} {w w' : World} {gh k : Nat} {vs : List Value} {xss : List (List Int)} {v v' : Value} {xs xs' : List Int} (h : OwnTab T T2 w gh vs xss) (hv : vs[k]? = some v) (hx : xss[k]? = some xs)
    (ho : w'.ownsRow (gh + 1) T 1 v' xs'.length (ints xs')) (hg : w.grownBy w' v.ownBlock) (hn : ∀ g, g < w.heap.size → some g ≠ v.ownBlock → some g ≠ v'.ownBlock) :
    OwnTab T T2 (w'.setCell ⟨gh, k, none⟩ v') gh (vs.set k v') (xss.set k xs') := by
  have hkv : k < vs.length := (List.getElem?_eq_some_iff.1 hv).1
  have hkx : k < xss.length := (List.getElem?_eq_some_iff.1 hx).1
  have hrow := h.row k v xs hv hx
  have hne : some gh ≠ v.ownBlock := own_block_ne hrow (Nat.lt_succ_self _)
  have other : ∀ (j : Nat) (u : Value), j ≠ k → vs[j]? = some u → Apart v u := fun j u hj hu => h.dis k j v u (Ne.symm hj) hv hu
  have get : ∀ (j : Nat) (u : Value), j ≠ k → (vs.set k v')[j]? = some u → vs[j]? = some u := fun j u hj hu => by rwa [List.getElem?_set_ne (Ne.symm hj)] at hu
  have getk : ∀ u : Value, (vs.set k v')[k]? = some u → u = v' := fun u hu => by rw [List.getElem?_set_self hkv] at hu; injection hu with hu; exact hu.symm
  have oth : ∀ (j : Nat) (u : Value), j ≠ k → vs[j]? = some u → ∃ ys, xss[j]? = some ys := fun j u _ hu => by
    have : j < xss.length := by rw [← h.len]; exact (List.getElem?_eq_some_iff.1 hu).1
    exact ⟨_, List.getElem?_eq_getElem this⟩
  refine ⟨by simp [h.len], (h.blk.grown hg hne).set k v', fun j u ys hu hy => ?_, fun i j u u' hij hu hu' => ?_⟩
  · by_cases e : j = k
    · subst e
      have := getk u hu
      subst this
      rw [List.getElem?_set_self hkx] at hy
      injection hy with hy
      subst hy
      exact own_grown ho (set_grown w' gh j u) (Nat.lt_succ_self _)
    · have hu0 := get j u e hu
      rw [List.getElem?_set_ne (Ne.symm e)] at hy
      exact own_grown (own_apart (h.row j u ys hu0 hy) hg (other j u e hu0)) (set_grown w' gh k v') (Nat.lt_succ_self _)
  · by_cases e1 : i = k <;> by_cases e2 : j = k
    · omega
    · subst e1
      have := getk u hu
      subst this
      have hu0 := get j u' e2 hu'
      obtain ⟨ys, hy⟩ := oth j u' e2 hu0
      exact apart_grow (h.row j u' ys hu0 hy) (other j u' e2 hu0) hn
    · subst e2
      have := getk u' hu'
      subst this
      have hu0 := get i u e1 hu
      obtain ⟨ys, hy⟩ := oth i u e1 hu0
      exact (apart_grow (h.row i u ys hu0 hy) (other i u e1 hu0) hn).symm
    · exact h.dis i j u u' hij (get i u e1 hu) (get j u' e2 hu')
/-- Whom each one with seats has, of those below t. -/
def hasT (m : List Int) (n t : Nat) : List (List Int) := (List.range n).map fun k => hasN m k t
theorem hasT_get {m : List Int} {n t k : Nat} (h : k < n) : (hasT m n t)[k]? = some (hasN m k t) := by simp [hasT, h]
theorem hasT_zero (m : List Int) (n : Nat) : hasT m n 0 = List.replicate n [] := by
  apply List.ext_getElem
  · simp [hasT]
  · intro i h1 h2; simp [hasT, hasN]
theorem hasT_skip {m : List Int} {n t : Nat} (h : m.getD t 0 < 0) : hasT m n (t + 1) = hasT m n t :=
  List.map_congr_left fun k _ => by rw [hasN, if_neg (by omega)]
theorem hasT_set {m : List Int} {n t k : Nat} (h : m.getD t 0 = (k : Int)) : hasT m n (t + 1) = (hasT m n t).set k (hasN m k t ++ [(t : Int)]) := by
  apply List.ext_getElem
  · simp [hasT]
  · intro j h1 h2
    have hj : j < n := by simpa [hasT] using h1
    rw [List.getElem_set]
    split
    case isTrue e =>
      subst e
      simp only [hasT, List.getElem_map, List.getElem_range]
      rw [hasN, if_pos h]
    case isFalse e =>
      simp only [hasT, List.getElem_map, List.getElem_range]
      rw [hasN, if_neg (by omega)]
end Go.Proofs.Ytchfibmndcfpiaa
namespace Go.Proofs.Ytchfibmndcfpiaa
set_option linter.unusedVariables false
set_option linter.unusedSimpArgs false
open Go.RowKit

set_option maxRecDepth 10000 in
set_option maxHeartbeats 4000000 in
theorem rival_any (w : World) (bw bk bi : Nat) (a1 : Option Addr) (c1 : Nat) (x1 : List (List Int)) (i k : Nat) (j : Int)
    (d1 : w.cell? ⟨bw, 1, none⟩ = some (.slice a1 x1.length c1)) (dk : w.cell? ⟨bk, 0, none⟩ = some (.int .i64 k)) (di : w.cell? ⟨bi, 0, none⟩ = some (.int .i64 i)) (hbw : bw < w.heap.size) (hbk : bk < w.heap.size) (hbi : bi < w.heap.size)
    (h : RdII w w.heap.size a1 x1) (hin1 : ∀ y ∈ x1, y.length ≤ 1048576) (hk : k < x1.length) :
    Calls Try.prog 63 #[.int .i64 j, .pointer (some ⟨bw, 0, none⟩), .pointer (some ⟨bk, 0, none⟩), .pointer (some ⟨bi, 0, none⟩)] w fun e w' => e = .returned (.bool (dearI (row x1 k) i j)) ∧ Below w.heap.size w w' := by
  obtain ⟨b3, o3, zs, a3, c3, e3, hb3, d3, _, hr3, hy3⟩ := h.get hk
  subst e3
  rw [row_get hy3.out]
  have LD : Hid (∀ w', Below w.heap.size w w' → _) := fun w' hb => dearer_any w' a3 c3 zs i j (hr3.to hb) (hin1 zs (List.mem_of_getElem? hy3.out))
  have F1 : ∀ z : Later w, z.w'.cell? ⟨bw, 1, none⟩ = some (.slice (some ⟨b3, o3, none⟩) x1.length c1) := fun z => z.cell hbw d1
  have F2 : ∀ z : Later w, z.w'.cell? ⟨bk, 0, none⟩ = some (.int .i64 k) := fun z => z.cell hbk dk
  have F3 : ∀ z : Later w, z.w'.cell? ⟨bi, 0, none⟩ = some (.int .i64 i) := fun z => z.cell hbi di
  have F4 : ∀ z : Later w, z.w'.cell? ⟨b3, o3 + k, none⟩ = some (.slice a3 zs.length c3) := fun z => z.cell hb3 d3
  have k0 : (0 : Int) ≤ (k : Int) := Int.natCast_nonneg _
  have k1 : (k : Int) < (x1.length : Int) := by omega
  generalize dearI zs i j = r at *
  clear h hr3 hy3 hin1 d1 dk di d3
  go_enter Try.func63, Try.ntmps63
  go_wp2_with fail
  refine wp_region_later (by kernel_rfl) (by kernel_rfl) ?_
  repeat (go_big_quiet_step ((go_at_call 61; exact later_same (LD.out _ (Later.h _)))))
  refine wpQuiet_nil ?_
  rintro wq ⟨⟨_, hbq⟩, rfl⟩
  clear F1 F2 F3 F4
  go_wp2_with fail
  go_ret
  exact ⟨rfl, hbq⟩
end Go.Proofs.Ytchfibmndcfpiaa
