/-
  KeepsQuota of valid votes and seats: both roads; the sum of a list.
-/
import Derived.Test.YthofpfnccgfohaaSeatP
import Derived.Test.YthofpfnccgfohaaBytes
namespace Go.Proofs.Ythofpfnccgfohaa
set_option linter.unusedVariables false
set_option linter.unusedSimpArgs false
open Go.RowKit

theorem up_down {z S : Int} (hS : 0 < S) (hz : 0 ≤ z) : z / S ≤ (z + S - 1) / S ∧ (z + S - 1) / S ≤ z / S + 1 := by
  constructor
  · exact Int.ediv_le_ediv hS (by omega)
  · have h1 : (z + S - 1) / S ≤ (z + S) / S := Int.ediv_le_ediv hS (by omega)
    rw [show z + S = z + S * 1 by omega, Int.add_mul_ediv_left _ _ (by omega)] at h1
    rw [show z + S * 1 = z + S by omega] at h1
    exact h1
theorem keepB_two {S sm v x : Int} (hS : 0 < S) (hz : 0 ≤ v * sm) : keepB S sm v x = (!(decide (x < v * sm / S)) && !(decide ((v * sm + S - 1) / S < x))) := by
  have h := up_down hS hz
  unfold keepB
  generalize v * sm / S = d at *
  generalize (v * sm + S - 1) / S = u at *
  rw [Bool.eq_iff_iff]
  simp
  omega
structure KeepOk (xs ss : List Int) : Prop where
  v : votesB xs = true
  l : ss.length = xs.length
  b : ∀ x ∈ ss, 0 ≤ x ∧ x ≤ 100
theorem KeepOk.bounds {xs ss : List Int} (h : KeepOk xs ss) : (1 ≤ xs.length ∧ xs.length ≤ 12) ∧ (0 < xs.sum ∧ xs.sum ≤ 12000000) ∧ (0 ≤ ss.sum ∧ ss.sum ≤ 1200) ∧ wsum xs = xs.sum ∧ wsum ss = ss.sum ∧ manyB ss xs.length xs.length 0 100 = true := by
  obtain ⟨⟨h1, h2⟩, h3, h4⟩ := votesB_iff.1 h.v
  have w1 := wsum_eq xs 1000000 (by omega) (fun x hx => by have := h3 x hx; omega) (by omega)
  have hl := h.l
  have w2 := wsum_eq ss 100 (by omega) (fun x hx => by have := h.b x hx; omega) (by omega)
  have s0 : ∀ l : List Int, (∀ x ∈ l, 0 ≤ x) → 0 ≤ l.sum := fun l => by
    induction l with
    | nil => simp
    | cons x l ih => intro hh; have := ih (fun y hy => hh y (by simp [hy])); have := hh x (by simp); simp only [List.sum_cons]; omega
  exact ⟨⟨h1, h2⟩, ⟨h4, by omega⟩, ⟨s0 ss (fun x hx => (h.b x hx).1), by omega⟩, w1.1, w2.1, manyB_iff.2 ⟨⟨by omega, by omega⟩, h.b⟩⟩
def keepK (xs ss : List Int) (k : Nat) : Bool := (List.range k).all fun i => keepB xs.sum ss.sum (xs.getD i 0) (ss.getD i 0)
theorem keepK_succ (xs ss : List Int) (k : Nat) : keepK xs ss (k + 1) = (keepK xs ss k && keepB xs.sum ss.sum (xs.getD k 0) (ss.getD k 0)) := by simp [keepK, List.range_succ]
theorem keepK_no {xs ss : List Int} {k : Nat} (hk : k < xs.length) (h : keepB xs.sum ss.sum (xs.getD k 0) (ss.getD k 0) = false) : keepsB xs ss = false := by
  unfold keepsB
  rw [List.all_eq_false]
  exact ⟨k, List.mem_range.2 hk, by rw [h]; simp⟩
set_option maxRecDepth 10000 in
set_option maxHeartbeats 4000000 in
theorem keeps_any (w : World) (a b : Option Addr) (c d : Nat) (xs ss : List Int) (h : Rd w w.heap.size a (ints xs)) (g : Rd w w.heap.size b (ints ss)) (ok : KeepOk xs ss) :
    Calls Try.prog 16 #[.slice a xs.length c, .slice b ss.length d] w fun e w' => e = .returned (.tuple #[.bool (keepsB xs ss), .bool true]) ∧ Below w.heap.size w w' := by
  obtain ⟨⟨l1, l2⟩, ⟨S0, S1⟩, ⟨m0, m1⟩, e1, e2, hM⟩ := ok.bounds
  have L1 := Lib.hid (areVotesOf_any w a c xs h (by omega))
  rw [ok.v] at L1
  have hls := ok.l
  have L2 := Lib.hid (areMany_any w b d ss xs.length xs.length 0 100 g (by omega))
  rw [hM] at L2
  have L3 := Lib.hid (sumOf_any w a c xs h (by omega))
  have L4 := Lib.hid (sumOf_any w b d ss g (by omega))
  rw [e1] at L3
  rw [e2] at L4
  have hxb := (votesB_iff.1 ok.v).2.1
  have hsb := ok.b
  obtain ⟨b1, o1, rfl, _, hc1⟩ := h.at (k := 0) (by omega)
  obtain ⟨b2, o2, rfl, _, hc2⟩ := g.at (k := 0) (by omega)
  have Hc1 := Lib.hid hc1
  have Hc2 := Lib.hid hc2
  have Hxb : Hid (∀ k, k < xs.length → 0 ≤ xs.getD k 0 ∧ xs.getD k 0 ≤ 1000000) := fun k hk => hxb _ (by simp only [List.getD, List.getElem?_eq_getElem hk]; exact List.getElem_mem _)
  have HK : Hid (∀ k, keepK xs ss (k + 1) = (keepK xs ss k && keepB xs.sum ss.sum (xs.getD k 0) (ss.getD k 0))) := fun k => keepK_succ xs ss k
  have HN : Hid (∀ k, k < xs.length → keepB xs.sum ss.sum (xs.getD k 0) (ss.getD k 0) = false → keepsB xs ss = false) := fun k hk => keepK_no hk
  have HE : Hid (keepsB xs ss = keepK xs ss xs.length) := rfl
  have HL := Lib.hid hls
  have hz : keepK xs ss 0 = true := rfl
  clear h g ok e1 e2 hM hxb hsb hc1 hc2 hls
  generalize xs.sum = S at *
  generalize ss.sum = sm at *
  go_enter Try.func16, Try.ntmps16
  go_wp2_with fail
  refine L1.out.mono ?_
  rintro e w1 ⟨rfl, rfl⟩
  go_wp2_with fail
  refine L2.out.mono ?_
  rintro e w1 ⟨rfl, rfl⟩
  go_wp2_with fail
  refine L3.out.mono ?_
  rintro e w1 ⟨rfl, rfl⟩
  go_wp2_with fail
  refine L4.out.mono ?_
  rintro e w1 ⟨rfl, rfl⟩
  go_wp2_with fail
  go_loopw [30] (fun i wr => ∃ k m : Nat, k ≤ xs.length ∧ i = .int .i64 k ∧ keepK xs ss k = true ∧ wr = w.drewN m) (fun i _ => xs.length - (intOf i).toNat)
  case atStart => exact ⟨0, 0, Nat.zero_le _, rfl, hz, rfl⟩
  case round =>
    clear hz
    obtain ⟨k, m, hk, rfl, hK, rfl⟩ := hrel
    by_cases hlt : k < xs.length
    · have hlt2 : k < ss.length := by rw [HL.out]; exact hlt
      have c1 := Hc1.out k hlt
      have c2 := Hc2.out k hlt2
      obtain ⟨x0, x1⟩ := Hxb.out k hlt
      have HKk := Lib.hid (HK.out k)
      have HNk := Lib.hid (HN.out k hlt)
      have hKk := Lib.hid hK
      clear hK
      generalize xs.getD k 0 = x at *
      generalize ss.getD k 0 = y at *
      have p0 : 0 ≤ x * sm := Int.mul_nonneg x0 m0
      have p1 : x * sm ≤ 1000000 * 1200 := Int.mul_le_mul x1 m1 m0 (by omega)
      have HB : Hid (keepB S sm x y = ((y == x * sm / S) || (y == (x * sm + S - 1) / S))) := rfl
      cases t1 : (y != x * sm / S) with
      | false =>
        have hq : Hid (keepB S sm x y = true) := by
          have : (y == x * sm / S) = true := by simpa using t1
          rw [Hid, HB.out, this]; rfl
        go_wp2_with fail
        go_quiet (fail)
        go_wp2_with fail
        go_roundw
        case rel => exact ⟨k + 1, _, by omega, by go_num, by rw [HKk.out, hKk.out, hq.out]; rfl, by first | rfl | exact World.drewN_drewN _ _ _⟩
        case measure => simp [intOf]; omega
      | true =>
        cases t2 : (y != (x * sm + S - 1) / S) with
        | false =>
          have hq : Hid (keepB S sm x y = true) := by
            have : (y == (x * sm + S - 1) / S) = true := by simpa using t2
            rw [Hid, HB.out, this]; simp
          go_wp2_with fail
          go_quiet (fail)
          go_wp2_with fail
          go_roundw
          case rel => exact ⟨k + 1, _, by omega, by go_num, by rw [HKk.out, hKk.out, hq.out]; rfl, by first | rfl | exact World.drewN_drewN _ _ _⟩
          case measure => simp [intOf]; omega
        | true =>
          have hq : Hid (keepsB xs ss = false) := by
            refine HNk.out ?_
            have e1 : (y == x * sm / S) = false := by simpa using t1
            have e2 : (y == (x * sm + S - 1) / S) = false := by simpa using t2
            rw [HB.out, e1, e2]; rfl
          go_wp2_with fail
          go_quiet (fail)
          go_wp2_with fail
          go_ret2
          exact ⟨by simp [hq.out], by first | exact drewN_below _ _ | exact below_drewN (drewN_below _ _) _⟩
    · have : k = xs.length := by omega
      subst this
      have hq : Hid (keepsB xs ss = true) := by rw [Hid, HE.out]; exact hK
      go_wp2_with fail
      go_ret2
      exact ⟨by simp [hq.out], drewN_below _ _⟩
set_option maxRecDepth 10000 in
set_option maxHeartbeats 4000000 in
theorem keepsR_any (w : World) (a b : Option Addr) (c d : Nat) (xs ss : List Int) (h : Rd w w.heap.size a (ints xs)) (g : Rd w w.heap.size b (ints ss)) (ok : KeepOk xs ss) :
    Calls Try.prog 17 #[.slice a xs.length c, .slice b ss.length d] w fun e w' => e = .returned (.tuple #[.bool (keepsB xs ss), .bool true]) ∧ Below w.heap.size w w' := by
  obtain ⟨⟨l1, l2⟩, ⟨S0, S1⟩, ⟨m0, m1⟩, e1, e2, hM⟩ := ok.bounds
  have L1 := Lib.hid (l07Votes_any w a c xs h (by omega))
  rw [ok.v] at L1
  have hls := ok.l
  have hne : ((ss.length : Int) != (xs.length : Int)) = false := by simp [hls]
  have L2 := Lib.hid (fun y v => l00In_any y 0 100 v)
  have L3 := Lib.hid (l07Sum_any w a c xs h (by omega))
  have L4 := Lib.hid (l07Sum_any w b d ss g (by omega))
  rw [e1] at L3
  rw [e2] at L4
  have hxb := (votesB_iff.1 ok.v).2.1
  have hsb := ok.b
  obtain ⟨b1, o1, rfl, _, hc1⟩ := h.at (k := 0) (by omega)
  obtain ⟨b2, o2, rfl, _, hc2⟩ := g.at (k := 0) (by omega)
  have Hc1 := Lib.hid hc1
  have Hc2 := Lib.hid hc2
  have Hxb : Hid (∀ k, k < xs.length → 0 ≤ xs.getD k 0 ∧ xs.getD k 0 ≤ 1000000) := fun k hk => hxb _ (by simp only [List.getD, List.getElem?_eq_getElem hk]; exact List.getElem_mem _)
  have Hsb : Hid (∀ k, k < ss.length → inB (ss.getD k 0) 0 100 = true) := fun k hk => inB_iff.2 (hsb _ (by simp only [List.getD, List.getElem?_eq_getElem hk]; exact List.getElem_mem _))
  have HK : Hid (∀ k, keepK xs ss (k + 1) = (keepK xs ss k && keepB xs.sum ss.sum (xs.getD k 0) (ss.getD k 0))) := fun k => keepK_succ xs ss k
  have HN : Hid (∀ k, k < xs.length → keepB xs.sum ss.sum (xs.getD k 0) (ss.getD k 0) = false → keepsB xs ss = false) := fun k hk => keepK_no hk
  have HE : Hid (keepsB xs ss = keepK xs ss xs.length) := rfl
  have HL := Lib.hid hls
  have hz : keepK xs ss 0 = true := rfl
  have lss : ss.length ≤ 12 := by omega
  clear h g ok e1 e2 hM hxb hsb hc1 hc2 hls
  generalize xs.sum = S at *
  generalize ss.sum = sm at *
  go_enter Try.func17, Try.ntmps17
  go_wp2_with fail
  refine L1.out.mono ?_
  rintro e w1 ⟨rfl, rfl⟩
  go_wp2_with fail
  go_loop [23] (fun i => ∃ k : Nat, k ≤ ss.length ∧ i = .int .i64 k) (fun i => ss.length - (intOf i).toNat)
  case atStart => exact ⟨0, Nat.zero_le _, rfl⟩
  case round =>
    obtain ⟨k, hk, rfl⟩ := hrel
    by_cases hlt : k < ss.length
    · have c2 := Hc2.out k hlt
      have hin := Hsb.out k hlt
      have L2k := Lib.hid (L2.out (ss.getD k 0) w)
      rw [hin] at L2k
      clear hin
      generalize ss.getD k 0 = y at *
      go_wp2_with fail
      refine L2k.out.mono ?_
      rintro e w1 ⟨rfl, rfl⟩
      go_wp2_with fail
      go_round
      case rel => exact ⟨k + 1, by omega, by go_num⟩
      case measure => simp [intOf]; omega
    · go_wp2_with fail
      refine L3.out.mono ?_
      rintro e w1 ⟨rfl, rfl⟩
      go_wp2_with fail
      refine L4.out.mono ?_
      rintro e w1 ⟨rfl, rfl⟩
      clear hk hlt
      go_wp2_with fail
      go_loopw [39] (fun i wr => ∃ k m : Nat, k ≤ ss.length ∧ i = .int .i64 k ∧ keepK xs ss k = true ∧ wr = w.drewN m) (fun i _ => ss.length - (intOf i).toNat)
      case atStart => exact ⟨0, 0, Nat.zero_le _, rfl, hz, rfl⟩
      case round =>
        clear hz
        obtain ⟨k, m, hk, rfl, hK, rfl⟩ := hrel
        by_cases hlt2 : k < ss.length
        · have hlt : k < xs.length := by rw [← HL.out]; exact hlt2
          have c1 := Hc1.out k hlt
          have c2 := Hc2.out k hlt2
          obtain ⟨x0, x1⟩ := Hxb.out k hlt
          have HKk := Lib.hid (HK.out k)
          have HNk := Lib.hid (HN.out k hlt)
          have hKk := Lib.hid hK
          clear hK
          generalize xs.getD k 0 = x at *
          generalize ss.getD k 0 = y at *
          have p0 : 0 ≤ x * sm := Int.mul_nonneg x0 m0
          have p1 : x * sm ≤ 1000000 * 1200 := Int.mul_le_mul x1 m1 m0 (by omega)
          have HB := Lib.hid (keepB_two (x := y) S0 p0)
          cases t1 : decide (y < x * sm / S) with
          | true =>
            have hq : Hid (keepsB xs ss = false) := by
              refine HNk.out ?_
              rw [HB.out, t1]; rfl
            go_wp2_with fail
            go_quiet (fail)
            go_wp2_with fail
            go_ret2
            exact ⟨by simp [hq.out], by first | exact drewN_below _ _ | exact below_drewN (drewN_below _ _) _⟩
          | false =>
            cases t2 : decide ((x * sm + S - 1) / S < y) with
            | false =>
              have hq : Hid (keepB S sm x y = true) := by rw [Hid, HB.out, t1, t2]; rfl
              go_wp2_with fail
              go_quiet (fail)
              go_wp2_with fail
              go_roundw
              case rel => exact ⟨k + 1, _, by omega, by go_num, by rw [HKk.out, hKk.out, hq.out]; rfl, by first | rfl | exact World.drewN_drewN _ _ _⟩
              case measure => simp [intOf]; omega
            | true =>
              have hq : Hid (keepsB xs ss = false) := by
                refine HNk.out ?_
                rw [HB.out, t1, t2]; rfl
              go_wp2_with fail
              go_quiet (fail)
              go_wp2_with fail
              go_ret2
              exact ⟨by simp [hq.out], by first | exact drewN_below _ _ | exact below_drewN (drewN_below _ _) _⟩
        · have : k = ss.length := by omega
          subst this
          have hq : Hid (keepsB xs ss = true) := by rw [Hid, HE.out, ← HL.out]; exact hK
          go_wp2_with fail
          go_ret2
          exact ⟨by simp [hq.out], drewN_below _ _⟩
theorem b10Sum_any (w : World) (a : Option Addr) (c : Nat) (xs : List Int) (h : Rd w w.heap.size a (ints xs)) (hl : xs.length ≤ 1152921504606846976) :
    Calls Try.prog 19 #[.slice a xs.length c] w fun e w' => e = .returned (.int .i64 (wsum xs)) ∧ w = w' := by
  go_enter Try.func19, Try.ntmps19
  go_wp2
  go_loop [3, 7] (fun s i => ∃ k : Nat, k ≤ xs.length ∧ i = .int .i64 k ∧ s = .int .i64 (wsum (xs.take k))) (fun _ i => xs.length - (intOf i).toNat)
  case atStart => exact ⟨0, Nat.zero_le _, rfl, rfl⟩
  case round =>
    obtain ⟨k, hk, rfl, rfl⟩ := hrel
    by_cases hlt : k < xs.length
    · obtain ⟨b, o, x, rfl, hbb, hck, hx⟩ := h.get hlt
      clear h
      go_wp2
      go_round
      case rel => exact ⟨k + 1, by omega, by go_num, by rw [wsum_take hx.out]⟩
      case measure => simp [intOf]; omega
    · have : k = xs.length := by omega
      subst this
      go_wp2
      go_ret
      exact ⟨ret_int (by first | rfl | rw [List.take_length]), rfl⟩
end Go.Proofs.Ythofpfnccgfohaa
