/-
  QuotientSeats of the reference: its walk, and that it answers as the program's does.
-/
import Derived.Test.YthofpfnccgfohaaQuot
namespace Go.Proofs.Ythofpfnccgfohaa
set_option linter.unusedVariables false
set_option linter.unusedSimpArgs false
open Go.RowKit

def rStep (vs os : List Int) (kind : Int) (best : Int) (i : Nat) : Int :=
  if vs.getD i 0 == 0 then best else if decide (best < 0) || beforeF (vs.getD i 0) (above kind (os.getD i 0)) (vs.getD best.toNat 0) (above kind (os.getD best.toNat 0)) then i else best
def rBest (vs os : List Int) (kind : Int) (k : Nat) : Int := (List.range k).foldl (rStep vs os kind) (-1)
theorem rBest_succ (vs os : List Int) (kind : Int) (k : Nat) : rBest vs os kind (k + 1) = rStep vs os kind (rBest vs os kind k) k := by simp [rBest, List.range_succ]
theorem rBest_bd (vs os : List Int) (kind : Int) (k : Nat) : -1 ≤ rBest vs os kind k ∧ rBest vs os kind k < k := by
  induction k with
  | zero => simp [rBest]
  | succ k ih => rw [rBest_succ]; unfold rStep; (repeat' split) <;> omega

/-- Both ways to find the one that gets the next seat find the same. -/
theorem best_same (vs os : List Int) (kind : Int) (k : Nat) (hv : ∀ j, 0 ≤ vs.getD j 0) (ho : ∀ j, 0 ≤ os.getD j 0 ∧ os.getD j 0 ≤ 1000) (hk : ∃ j, j < k ∧ vs.getD j 0 ≠ 0) :
    rBest vs os kind k = qBest vs os kind k ∧ vs.getD (qBest vs os kind k) 0 ≠ 0 := by
  have key : ∀ k, (∀ j, j < k → vs.getD j 0 = 0) ∧ rBest vs os kind k = -1 ∧ (vs.getD (qBest vs os kind k) 0 = 0 ∨ (k = 0)) ∧ qBest vs os kind k = 0 ∨ rBest vs os kind k = qBest vs os kind k ∧ vs.getD (qBest vs os kind k) 0 ≠ 0 := by
    intro k
    induction k with
    | zero => exact .inl ⟨fun j hj => by omega, by simp [rBest], .inr rfl, by simp [qBest]⟩
    | succ k ih =>
      rw [rBest_succ, qBest_succ]
      by_cases h0 : vs.getD k 0 = 0
      · rcases ih with ⟨i1, i2, i3, i4⟩ | ⟨i1, i2⟩
        · refine .inl ⟨fun j hj => ?_, by rw [rStep, h0, i2]; rfl, ?_⟩
          · by_cases e : j = k
            · rw [e, h0]
            · exact i1 j (by omega)
          · rw [i4]
            have : vs.getD 0 0 = 0 := by
              by_cases e : k = 0
              · rw [← e, h0]
              · exact i1 0 (by omega)
            have e : qStep vs os kind 0 k = 0 := by
              unfold qStep
              simp only [h0, this, aheadF]
              simp
            rw [e, this]
            simp
        · refine .inr ?_
          have e : qStep vs os kind (qBest vs os kind k) k = qBest vs os kind k := by
            unfold qStep
            have := hv (qBest vs os kind k)
            simp only [h0, aheadF]
            rw [if_neg]
            simp only [beq_self_eq_true, Bool.true_or, if_true, decide_eq_true_iff]; omega
          rw [e, rStep, h0]
          exact ⟨by simp [i1], i2⟩
      · have hk0 := hv k
        rcases ih with ⟨i1, i2, i3, i4⟩ | ⟨i1, i2⟩
        · refine .inr ?_
          have e : rStep vs os kind (rBest vs os kind k) k = k := by rw [i2, rStep, if_neg (by simpa using h0)]; simp
          have e2 : qStep vs os kind (qBest vs os kind k) k = k := by
            unfold qStep
            rw [i4]
            by_cases ek : k = 0
            · subst ek; split <;> rfl
            · have : vs.getD 0 0 = 0 := i1 0 (by omega)
              simp only [this, aheadF]
              rw [if_pos]
              simp only [beq_self_eq_true, Bool.or_true, if_true, decide_eq_true_iff]; omega
          rw [e, e2]
          exact ⟨rfl, h0⟩
        · refine .inr ?_
          have hb0 := hv (qBest vs os kind k)
          have a1 := above_bd kind (os.getD k 0) (ho k).1 (ho k).2
          have a2 := above_bd kind (os.getD (qBest vs os kind k) 0) (ho _).1 (ho _).2
          have e : rStep vs os kind (rBest vs os kind k) k = qStep vs os kind (qBest vs os kind k) k := by
            rw [rStep, qStep, i1, if_neg (by simpa using h0)]
            have ht : ((qBest vs os kind k : Nat) : Int).toNat = qBest vs os kind k := rfl
            rw [ht]
            generalize qBest vs os kind k = q at *
            have hn : decide ((q : Int) < 0) = false := decide_eq_false (by omega)
            rw [hn, Bool.false_or]
            have : beforeF (vs.getD k 0) (above kind (os.getD k 0)) (vs.getD q 0) (above kind (os.getD q 0)) = aheadF (vs.getD k 0) (above kind (os.getD k 0)) (vs.getD q 0) (above kind (os.getD q 0)) := by
              generalize above kind (os.getD k 0) = A at *
              generalize above kind (os.getD q 0) = B at *
              have h1 : (vs.getD k 0 == 0) = false := by simpa using h0
              have h2 : (vs.getD q 0 == 0) = false := by simpa using i2
              have h3 : decide (0 < vs.getD k 0) = true := decide_eq_true (by omega)
              have h4 : decide (0 < vs.getD q 0) = true := decide_eq_true (by omega)
              generalize vs.getD k 0 = x at *
              generalize vs.getD q 0 = y at *
              unfold beforeF aheadF
              rw [h1, h2, h3, h4]
              by_cases hA : A = 0 <;> by_cases hB : B = 0 <;> simp [hA, hB]
              rw [decide_eq_true (show 0 < B by omega)]; simp [hB]
            rw [this]
            split <;> rfl
          rw [e]
          refine ⟨rfl, ?_⟩
          unfold qStep
          split
          · exact h0
          · exact i2
  rcases key k with ⟨h1, _⟩ | h
  · obtain ⟨j, hj, hne⟩ := hk
    exact absurd (h1 j hj) hne
  · exact h

set_option maxHeartbeats 2000000 in
theorem quotientSeatsR_no (w : World) (a : Option Addr) (c : Nat) (xs : List Int) (seats kind : Int) (h : Rd w w.heap.size a (ints xs)) (hl : xs.length ≤ 1152921504606846976)
    (hno : quotF xs seats kind = none) :
    Calls Try.prog 18 #[.slice a xs.length c, .int .i64 seats, .int .i64 kind] w (RetI 2 w none) := by
  have cs : votesB xs = false ∨ (votesB xs = true ∧ inB seats 0 100 = false) ∨ (votesB xs = true ∧ inB seats 0 100 = true ∧ inB kind 0 2 = false) := by
    unfold quotF at hno
    cases h1 : votesB xs <;> cases h2 : inB seats 0 100 <;> cases h3 : inB kind 0 2 <;> simp_all
  clear hno
  rcases cs with t1 | ⟨t1, t2⟩ | ⟨t1, t2, t3⟩
  all_goals
    go_enter Try.func18, Try.ntmps18
    go_wp2_with (first
      | (go_at_call 40; refine (l07Votes_any _ _ _ xs h hl).mono ?_; rintro e w' ⟨rfl, rfl⟩)
      | (go_at_call 41; refine (l00In_any _ _ _ _).mono ?_; rintro e w' ⟨rfl, rfl⟩))
    go_ret2
    exact RetI.no (Below.refl _ _)

/-- Some vote is not 0. -/
theorem some_vote {xs : List Int} (h : ∀ x ∈ xs, 0 ≤ x) (hs : 0 < xs.sum) : ∃ j, j < xs.length ∧ xs.getD j 0 ≠ 0 := by
  induction xs with
  | nil => simp at hs
  | cons x xs ih =>
    by_cases hx : x = 0
    · obtain ⟨j, hj, hne⟩ := ih (fun y hy => h y (by simp [hy])) (by simpa [hx] using hs)
      exact ⟨j + 1, by simpa using hj, by simpa using hne⟩
    · exact ⟨0, by simp, by simpa using hx⟩
theorem getD_nonneg {xs : List Int} (h : ∀ x ∈ xs, 0 ≤ x) (j : Nat) : 0 ≤ xs.getD j 0 := by
  by_cases hj : j < xs.length
  · exact h _ (List.mem_of_getElem? (get_of_lt hj))
  · simp [List.getD, List.getElem?_eq_none (by omega : xs.length ≤ j)]

set_option maxHeartbeats 4000000 in
theorem quotientSeatsR_yes (w : World) (a : Option Addr) (c : Nat) (xs : List Int) (seats kind : Int) (h : Rd w w.heap.size a (ints xs))
    (hv : votesB xs = true) (hs : inB seats 0 100 = true) (hk : inB kind 0 2 = true) :
    Calls Try.prog 18 #[.slice a xs.length c, .int .i64 seats, .int .i64 kind] w (RetI 2 w (some (qSeats xs kind seats.toNat))) := by
  obtain ⟨⟨hl1, hl2⟩, hxb, hsum⟩ := votesB_iff.1 hv
  obtain ⟨hs1, hs2⟩ := inB_iff.1 hs
  have hl : xs.length ≤ 1152921504606846976 := by omega
  have hxn := getD_nonneg (fun x hx => (hxb x hx).1)
  have hsv := some_vote (fun x hx => (hxb x hx).1) hsum
  obtain ⟨S, rfl⟩ := Int.eq_ofNat_of_zero_le hs1
  obtain ⟨b, o, ha, hbb, hcell⟩ : ∃ b o, a = some ⟨b, o, none⟩ ∧ b < w.heap.size ∧ ∀ j, j < xs.length → w.cell? ⟨b, o + j, none⟩ = some (.int .i64 (xs.getD j 0)) := h.at (k := 0) (by omega)
  subst ha
  have Hxn := Lib.hid hxn
  have Hsv := Lib.hid hsv
  clear hxn hsv hsum
  go_enter Try.func18, Try.ntmps18
  go_wp2_with (first
      | (go_at_call 40; refine (l07Votes_any _ _ _ xs h hl).mono ?_; rintro e w' ⟨rfl, rfl⟩)
      | (go_at_call 41; refine (l00In_any _ _ _ _).mono ?_; rintro e w' ⟨rfl, rfl⟩)
      | (at_make; refine wpList_make_blk _ rfl _ _ 26 rfl 2 (.int .i64 0) 8 Try.underlying26 info_i64' rfl _ _ xs.length rfl rfl (by omega) (by unfold maxLen; omega) ?_))
  intro w1 hrow hbel hsz
  go_wp2_with fail
  rw [ints_replicate] at hrow
  go_loopw [1] (fun i wr => ∃ s : Nat, s ≤ S ∧ i = .int .i64 (S - s) ∧ Blk wr w.heap.size (ints (qSeats xs kind s)) 2 ∧ Below w.heap.size w wr) (fun i _ => (intOf i).toNat)
  case atStart => exact ⟨0, Nat.zero_le _, by go_num, hrow, hbel⟩
  case round =>
    clear hrow hbel hsz
    obtain ⟨s, hsS, rfl, g3, g5⟩ := hrel
    have hlen := qSeats_length xs kind s
    have hbd := qSeats_bd xs kind s
    by_cases hlt : s < S
    · obtain ⟨os, hos⟩ : ∃ os, os = qSeats xs kind s := ⟨_, rfl⟩
      rw [← hos] at g3 hlen hbd
      have Hos := Lib.hid hos
      clear hos
      have Hlen := Lib.hid hlen
      clear hlen
      have Hbd := Lib.hid hbd
      clear hbd
      go_wp2_with fail
      go_loopw [9, 33] (fun bst j wi => ∃ k m : Nat, k ≤ xs.length ∧ j = .int .i64 k ∧ bst = .int .i64 (rBest xs os kind k) ∧ wi = wr.drewN m) (fun _ j _ => xs.length - (intOf j).toNat)
      case atStart => exact ⟨0, 0, Nat.zero_le _, rfl, rfl, rfl⟩
      case round =>
        obtain ⟨k, m, hk', rfl, hbst, rfl⟩ := hrel
        have hq := rBest_bd xs os kind k
        have Hq := Lib.hid (rBest_succ xs os kind k)
        by_cases hkl : k < xs.length
        · generalize rBest xs os kind k = q at *
          subst hbst
          have e1 := hcell k hkl
          rw [← g5.cell (p := ⟨b, o + k, none⟩) hbb] at e1
          have e3 := g3.at (k := k) (by rw [Hlen.out]; exact hkl)
          have i1 := hxb _ (List.mem_of_getElem? (get_of_lt hkl))
          have i3 := Hbd.out k
          obtain ⟨q1, q2⟩ := hq
          have Hst : Hid (rStep xs os kind q k = if xs.getD k 0 == 0 then q else if decide (q < 0) || beforeF (xs.getD k 0) (above kind (os.getD k 0)) (xs.getD q.toNat 0) (above kind (os.getD q.toNat 0)) then (k : Int) else q) := rfl
          cases t0 : (xs.getD k 0 == 0) with
          | true =>
            rw [t0] at Hst
            generalize xs.getD k 0 = vi at *
            go_wp2
            go_roundw
            case rel => exact ⟨k + 1, m, by omega, by go_num, by rw [Hq.out, Hst.out]; rfl, rfl⟩
            case measure => simp [intOf]; omega
          | false =>
            rw [t0] at Hst
            cases t1 : decide (q < 0) with
            | true =>
              rw [t1] at Hst
              generalize xs.getD k 0 = vi at *
              go_wp2
              go_quiet (fail)
              go_wp2
              go_roundw
              case rel => exact ⟨k + 1, m + nq, by omega, by go_num, by rw [Hq.out, Hst.out]; rfl, by first | rfl | exact World.drewN_drewN _ _ _⟩
              case measure => simp [intOf]; omega
            | false =>
              have hq0 : 0 ≤ q := by have := of_decide_eq_false t1; omega
              obtain ⟨Q, rfl⟩ := Int.eq_ofNat_of_zero_le hq0
              rw [t1, Int.toNat_natCast] at Hst
              have hQ : Q < xs.length := by omega
              have e2 := hcell Q hQ
              rw [← g5.cell (p := ⟨b, o + Q, none⟩) hbb] at e2
              have e4 := g3.at (k := Q) (by rw [Hlen.out]; exact hQ)
              have i2 := hxb _ (List.mem_of_getElem? (get_of_lt hQ))
              have i4 := Hbd.out Q
              have a1 := above_bd kind (os.getD k 0) i3.1 (by omega)
              have a2 := above_bd kind (os.getD Q 0) i4.1 (by omega)
              generalize xs.getD k 0 = vi at *
              generalize xs.getD Q 0 = vk at *
              generalize os.getD k 0 = oi at *
              generalize os.getD Q 0 = ok at *
              have L1 := Lib.hid (fun w => l07Above_any kind oi i3.1 (by omega) w)
              have L2 := Lib.hid (fun w => l07Above_any kind ok i4.1 (by omega) w)
              have L3 := Lib.hid (fun w => l07Before_any vi (above kind oi) vk (above kind ok) i1 i2 a1 a2 w)
              clear a1 a2 i1 i2
              obtain ⟨i31, i32⟩ := i3
              obtain ⟨i41, i42⟩ := i4
              cases t : beforeF vi (above kind oi) vk (above kind ok) with
              | true =>
                rw [t] at Hst L3
                go_wp2
                go_quiet (first
                  | (go_at_call_of 44 oi; exact qs2 (L1.out _))
                  | (go_at_call_of 44 ok; exact qs2 (L2.out _))
                  | (go_at_call 43; exact qs2 (L3.out _)))
                go_wp2
                go_roundw
                case rel => exact ⟨k + 1, m + nq, by omega, by go_num, by rw [Hq.out, Hst.out]; rfl, by first | rfl | exact World.drewN_drewN _ _ _⟩
                case measure => simp [intOf]; omega
              | false =>
                rw [t] at Hst L3
                go_wp2
                go_quiet (first
                  | (go_at_call_of 44 oi; exact qs2 (L1.out _))
                  | (go_at_call_of 44 ok; exact qs2 (L2.out _))
                  | (go_at_call 43; exact qs2 (L3.out _)))
                go_wp2
                go_roundw
                case rel => exact ⟨k + 1, m + nq, by omega, by go_num, by rw [Hq.out, Hst.out]; rfl, by first | rfl | exact World.drewN_drewN _ _ _⟩
                case measure => simp [intOf]; omega
        · have : k = xs.length := by omega
          subst this
          have Hs : Hid (qSeats xs kind (s + 1) = bump os (qBest xs os kind xs.length)) := by rw [Hos.out]; rfl
          have hbs := best_same xs os kind xs.length Hxn.out (fun j => by have := Hbd.out j; omega) Hsv.out
          have hq := qBest_lt xs os kind xs.length xs.length (Nat.le_refl _) (by omega)
          rw [hbs.1] at hbst
          clear hbs Hq
          generalize qBest xs os kind xs.length = q at *
          subst hbst
          have e4 := g3.at (k := q) (by rw [Hlen.out]; exact hq)
          have e5 := g3.free q
          have i4 := Hbd.out q
          have g3' := g3.setI q (os.getD q 0 + 1)
          have Hb : Hid (bump os q = os.set q (os.getD q 0 + 1)) := rfl
          rw [← Hb.out, ← Hs.out] at g3'
          generalize os.getD q 0 = oq at *
          have g5' := below_sto g5 (Nat.le_refl _) q (.int .i64 (oq + 1))
          clear g3 g5 hcell h
          obtain ⟨i41, i42⟩ := i4
          go_wp2
          go_roundw
          case rel => exact ⟨s + 1, by omega, by go_num, g3', below_drewN g5' m⟩
          case measure => simp [intOf]; omega
    · have : s = S := by omega
      subst this
      have hR := RetI.blk g3 (Nat.le_refl _) (by rw [hlen]; exact hl) g5
      rw [hlen] at hR
      have HR := Lib.hid hR
      clear hR hlen hbd
      go_wp2
      go_ret2
      exact HR.out
end Go.Proofs.Ythofpfnccgfohaa
