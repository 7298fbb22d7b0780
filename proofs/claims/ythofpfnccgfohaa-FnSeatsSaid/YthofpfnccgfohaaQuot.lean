/-
  QuotientSeats: the program's and the reference's answers are one plain function each.
-/
import Derived.Test.YthofpfnccgfohaaVotes
namespace Go.Proofs.Ythofpfnccgfohaa
set_option linter.unusedVariables false
set_option linter.unusedSimpArgs false
open Go.RowKit

theorem info_i64' : (Try.prog.info? 2).map (fun i => (i.zero, i.size, i.bytes)) = some (some (.int .i64 0), 1, 8) := by kernel_rfl

/-- The one that gets the next seat, after k of them have been looked at. -/
def qStep (vs os : List Int) (kind : Int) (best i : Nat) : Nat := if aheadF (vs.getD i 0) (above kind (os.getD i 0)) (vs.getD best 0) (above kind (os.getD best 0)) then i else best
def qBest (vs os : List Int) (kind : Int) (k : Nat) : Nat := (List.range k).foldl (qStep vs os kind) 0
def bump (os : List Int) (i : Nat) : List Int := os.set i (os.getD i 0 + 1)
def qSeats (vs : List Int) (kind : Int) : Nat → List Int
  | 0 => List.replicate vs.length 0
  | s + 1 => bump (qSeats vs kind s) (qBest vs (qSeats vs kind s) kind vs.length)
theorem qBest_succ (vs os : List Int) (kind : Int) (k : Nat) : qBest vs os kind (k + 1) = qStep vs os kind (qBest vs os kind k) k := by simp [qBest, List.range_succ]
theorem qBest_lt (vs os : List Int) (kind : Int) (k n : Nat) (hk : k ≤ n) (hn : 0 < n) : qBest vs os kind k < n := by
  induction k with
  | zero => simpa [qBest] using hn
  | succ k ih => rw [qBest_succ]; unfold qStep; have := ih (by omega); split <;> omega
theorem bump_length (os : List Int) (i : Nat) : (bump os i).length = os.length := by simp [bump]
theorem qSeats_length (vs : List Int) (kind : Int) (s : Nat) : (qSeats vs kind s).length = vs.length := by
  induction s with
  | zero => simp [qSeats]
  | succ s ih => simp [qSeats, bump_length, ih]
theorem bump_bd {os : List Int} {m : Int} (h : ∀ j, 0 ≤ os.getD j 0 ∧ os.getD j 0 ≤ m) (i : Nat) : ∀ j, 0 ≤ (bump os i).getD j 0 ∧ (bump os i).getD j 0 ≤ m + 1 := by
  intro j
  have hj := h j
  have hi := h i
  unfold bump
  simp only [List.getD, List.getElem?_set] at *
  by_cases e : i = j
  · subst e
    by_cases e2 : i < os.length
    · rw [if_pos rfl, if_pos e2]; simp only [Option.getD_some]; omega
    · rw [if_pos rfl, if_neg e2]; simp only [Option.getD_none]; omega
  · rw [if_neg e]; omega
theorem qSeats_bd (vs : List Int) (kind : Int) (s : Nat) : ∀ j, 0 ≤ (qSeats vs kind s).getD j 0 ∧ (qSeats vs kind s).getD j 0 ≤ s := by
  induction s with
  | zero =>
    intro j
    simp only [qSeats, List.getD, List.getElem?_replicate]
    split <;> simp
  | succ s ih => intro j; have := bump_bd ih (qBest vs (qSeats vs kind s) kind vs.length) j; simp only [qSeats]; omega

def quotF (vs : List Int) (seats kind : Int) : Option (List Int) := if votesB vs && inB seats 0 100 && inB kind 0 2 then some (qSeats vs kind seats.toNat) else none

set_option maxHeartbeats 2000000 in
theorem quotientSeats_no (w : World) (a : Option Addr) (c : Nat) (xs : List Int) (seats kind : Int) (h : Rd w w.heap.size a (ints xs)) (hl : xs.length ≤ 1152921504606846976)
    (hno : quotF xs seats kind = none) :
    Calls Try.prog 15 #[.slice a xs.length c, .int .i64 seats, .int .i64 kind] w (RetI 2 w none) := by
  have cs : votesB xs = false ∨ (votesB xs = true ∧ inB seats 0 100 = false) ∨ (votesB xs = true ∧ inB seats 0 100 = true ∧ inB kind 0 2 = false) := by
    unfold quotF at hno
    cases h1 : votesB xs <;> cases h2 : inB seats 0 100 <;> cases h3 : inB kind 0 2 <;> simp_all
  clear hno
  rcases cs with t1 | ⟨t1, t2⟩ | ⟨t1, t2, t3⟩
  all_goals
    go_enter Try.func15, Try.ntmps15
    go_wp2_with (first
      | (go_at_call 32; refine (areVotesOf_any _ _ _ xs ((h.up _).up _) hl).mono ?_; rintro e w' ⟨rfl, rfl⟩)
      | (go_at_call 33; refine (areSeatsOf_any _ _).mono ?_; rintro e w' ⟨rfl, rfl⟩)
      | (go_at_call 35; refine (within_any _ _ _ _).mono ?_; rintro e w' ⟨rfl, rfl⟩))
    go_ret2
    exact RetI.no (bl2 _ _ _)

set_option maxHeartbeats 4000000 in
theorem quotientSeats_yes (w : World) (a : Option Addr) (c : Nat) (xs : List Int) (seats kind : Int) (h : Rd w w.heap.size a (ints xs))
    (hv : votesB xs = true) (hs : inB seats 0 100 = true) (hk : inB kind 0 2 = true) :
    Calls Try.prog 15 #[.slice a xs.length c, .int .i64 seats, .int .i64 kind] w (RetI 2 w (some (qSeats xs kind seats.toNat))) := by
  obtain ⟨⟨hl1, hl2⟩, hxb, _⟩ := votesB_iff.1 hv
  obtain ⟨hs1, hs2⟩ := inB_iff.1 hs
  have hl : xs.length ≤ 1152921504606846976 := by omega
  obtain ⟨S, rfl⟩ := Int.eq_ofNat_of_zero_le hs1
  obtain ⟨b, o, ha, hbb, hcell⟩ : ∃ b o, a = some ⟨b, o, none⟩ ∧ b < w.heap.size ∧ ∀ j, j < xs.length → w.cell? ⟨b, o + j, none⟩ = some (.int .i64 (xs.getD j 0)) := h.at (k := 0) (by omega)
  subst ha
  go_enter Try.func15, Try.ntmps15
  go_wp2_with (first
      | (go_at_call 32; refine (areVotesOf_any _ _ _ xs ((h.up _).up _) hl).mono ?_; rintro e w' ⟨rfl, rfl⟩)
      | (go_at_call 33; refine (areSeatsOf_any _ _).mono ?_; rintro e w' ⟨rfl, rfl⟩)
      | (go_at_call 35; refine (within_any _ _ _ _).mono ?_; rintro e w' ⟨rfl, rfl⟩)
      | (at_make; refine wpList_make_blk _ rfl _ _ 26 rfl 2 (.int .i64 0) 8 Try.underlying26 info_i64' rfl _ _ xs.length rfl rfl (by omega) (by unfold maxLen; omega) ?_))
  intro w1 hrow hbel hsz
  go_wp2_with fail
  have f1 : Blk w1 w.heap.size [.slice (some ⟨b, o, none⟩) xs.length c] 26 := ((Blk.new w _ _).alloc _).below hbel (by omega)
  have f2 : Blk w1 (w.heap.size + 1) [.int .i64 kind] 2 := by
    have := Blk.new (w.alloc (.cells #[.slice (some ⟨b, o, none⟩) xs.length c] 26)) [.int .i64 kind] 2
    rw [World.size_alloc] at this
    exact this.below hbel (by omega)
  have hb0 : Below w.heap.size w w1 := (bl2 w _ _).trans (hbel.mono (by omega))
  have g1 := f1.alloc (.cells #[.slice (some ⟨w.heap.size + 1 + 1, 0, none⟩) xs.length xs.length] 26)
  have g2 := f2.alloc (.cells #[.slice (some ⟨w.heap.size + 1 + 1, 0, none⟩) xs.length xs.length] 26)
  have g3 := hrow.alloc (.cells #[.slice (some ⟨w.heap.size + 1 + 1, 0, none⟩) xs.length xs.length] 26)
  have g4 := Blk.new w1 [.slice (some ⟨w.heap.size + 1 + 1, 0, none⟩) xs.length xs.length] 26
  rw [hsz] at g4
  have g5 := hb0.alloc (by omega) (.cells #[.slice (some ⟨w.heap.size + 1 + 1, 0, none⟩) xs.length xs.length] 26)
  have g6 : (w1.alloc (.cells #[.slice (some ⟨w.heap.size + 1 + 1, 0, none⟩) xs.length xs.length] 26)).heap.size = w.heap.size + 1 + 1 + 1 + 1 := by rw [World.size_alloc, hsz]
  clear f1 f2 hrow hb0 hbel hsz
  rw [ints_replicate] at g3
  go_loopw [30] (fun i wr => ∃ s : Nat, s ≤ S ∧ i = .int .i64 s ∧ Blk wr w.heap.size [.slice (some ⟨b, o, none⟩) xs.length c] 26 ∧ Blk wr (w.heap.size + 1) [.int .i64 kind] 2 ∧ Blk wr (w.heap.size + 1 + 1) (ints (qSeats xs kind s)) 2 ∧
      Blk wr (w.heap.size + 1 + 1 + 1) [.slice (some ⟨w.heap.size + 1 + 1, 0, none⟩) xs.length xs.length] 26 ∧ Below w.heap.size w wr) (fun i _ => S - (intOf i).toNat)
  case atStart => exact ⟨0, Nat.zero_le _, rfl, g1, g2, g3, g4, g5⟩
  case round =>
    clear g1 g2 g3 g4 g5 g6
    obtain ⟨s, hsS, rfl, g1, g2, g3, g4, g5⟩ := hrel
    have hlen := qSeats_length xs kind s
    have hbd := qSeats_bd xs kind s
    by_cases hlt : s < S
    · obtain ⟨os, hos⟩ : ∃ os, os = qSeats xs kind s := ⟨_, rfl⟩
      rw [← hos] at g3 hlen hbd
      have Hos := Lib.hid hos
      clear hos
      have Hlen := Lib.hid hlen
      clear hlen
      have Hbd := Lib.hid hbd
      clear hbd
      have c1 := g1.cell 0
      have c2 := g2.cell 0
      have c4 := g4.cell 0
      simp only [List.getElem?_cons_zero] at c1 c2 c4
      go_wp2_with fail
      go_loopw [10, 34] (fun bst j wi => ∃ k m : Nat, k ≤ xs.length ∧ j = .int .i64 k ∧ bst = .int .i64 (qBest xs os kind k) ∧ wi = wr.drewN m) (fun _ j _ => xs.length - (intOf j).toNat)
      case atStart => exact ⟨0, 0, Nat.zero_le _, rfl, rfl, rfl⟩
      case round =>
        obtain ⟨k, m, hk', rfl, hbst, rfl⟩ := hrel
        have hq := qBest_lt xs os kind k xs.length hk' (by omega)
        have Hq := Lib.hid (qBest_succ xs os kind k)
        by_cases hkl : k < xs.length
        · generalize qBest xs os kind k = q at *
          subst hbst
          have e1 := hcell k hkl
          have e2 := hcell q hq
          rw [← g5.cell (p := ⟨b, o + k, none⟩) hbb] at e1
          rw [← g5.cell (p := ⟨b, o + q, none⟩) hbb] at e2
          have e3 := g3.at (k := k) (by rw [Hlen.out]; exact hkl)
          have e4 := g3.at (k := q) (by rw [Hlen.out]; exact hq)
          have i1 := hxb _ (List.mem_of_getElem? (get_of_lt hkl))
          have i2 := hxb _ (List.mem_of_getElem? (get_of_lt hq))
          have i3 := Hbd.out k
          have i4 := Hbd.out q
          have Hst : Hid (qStep xs os kind q k = if aheadF (xs.getD k 0) (above kind (os.getD k 0)) (xs.getD q 0) (above kind (os.getD q 0)) = true then k else q) := rfl
          generalize xs.getD k 0 = vi at *
          generalize xs.getD q 0 = vk at *
          generalize os.getD k 0 = oi at *
          generalize os.getD q 0 = ok at *
          have A := ahead_any (w.heap.size + 1) (w.heap.size + 1 + 1 + 1) w.heap.size (w.heap.size + 1 + 1) b o xs.length xs.length c k q oi ok vi vk kind hkl hq (by omega) (wr.drewN m) c2 c4 c1 e3 e4 e1 e2 (by omega) (by omega) i1 i2
          have HA := Lib.hid A
          clear A
          cases t : aheadF vi (above kind oi) vk (above kind ok) with
          | true =>
            rw [t] at Hst HA
            go_wp2_with (go_at_call 36; refine HA.out.mono ?_; rintro e w' ⟨rfl, n, rfl⟩)
            go_roundw
            case rel => exact ⟨k + 1, m + n, by omega, by go_num, by rw [Hq.out, Hst.out]; simp, by first | rfl | exact World.drewN_drewN _ _ _⟩
            case measure => simp [intOf]; omega
          | false =>
            rw [t] at Hst HA
            go_wp2_with (go_at_call 36; refine HA.out.mono ?_; rintro e w' ⟨rfl, n, rfl⟩)
            go_roundw
            case rel => exact ⟨k + 1, m + n, by omega, by go_num, by rw [Hq.out, Hst.out]; simp, by first | rfl | exact World.drewN_drewN _ _ _⟩
            case measure => simp [intOf]; omega
        · have : k = xs.length := by omega
          subst this
          have Hs : Hid (qSeats xs kind (s + 1) = bump os (qBest xs os kind xs.length)) := by rw [Hos.out]; rfl
          generalize qBest xs os kind xs.length = q at *
          subst hbst
          have e4 := g3.at (k := q) (by rw [Hlen.out]; exact hq)
          have e5 := g3.free q
          have i4 := Hbd.out q
          have g3' := g3.setI q (os.getD q 0 + 1)
          have Hb : Hid (bump os q = os.set q (os.getD q 0 + 1)) := rfl
          rw [← Hb.out, ← Hs.out] at g3'
          generalize os.getD q 0 = oq at *
          have g1' := g1.oth (g := w.heap.size + 1 + 1) (by omega) q (.int .i64 (oq + 1))
          have g2' := g2.oth (g := w.heap.size + 1 + 1) (by omega) q (.int .i64 (oq + 1))
          have g4' := g4.oth (g := w.heap.size + 1 + 1) (by omega) q (.int .i64 (oq + 1))
          have g5' := below_sto g5 (g := w.heap.size + 1 + 1) (by omega) q (.int .i64 (oq + 1))
          have g1d := g1'.drewN m
          clear g1 g2 g3 g4 g5 hcell h
          obtain ⟨i41, i42⟩ := i4
          go_wp2
          go_roundw
          case rel => exact ⟨s + 1, by omega, by go_num, g1', g2', g3', g4', below_drewN g5' m⟩
          case measure => simp [intOf]; omega
    · have : s = S := by omega
      subst this
      have c4 := g4.cell 0
      simp only [List.getElem?_cons_zero] at c4
      have hR := RetI.blk g3 (by omega) (by rw [hlen]; exact hl) g5
      rw [hlen] at hR
      have HR := Lib.hid hR
      clear hR hlen hbd
      go_wp2
      go_ret2
      exact HR.out
theorem l07Votes_any (w : World) (a : Option Addr) (c : Nat) (xs : List Int) (h : Rd w w.heap.size a (ints xs)) (hl : xs.length ≤ 1152921504606846976) :
    Calls Try.prog 40 #[.slice a xs.length c] w fun e w' => e = .returned (.bool (votesB xs)) ∧ w = w' := by
  by_cases hlen : 1 ≤ xs.length ∧ xs.length ≤ 12
  · have HF : Hid (votesB xs = (allIn xs 0 1000000 && decide (0 < wsum xs))) := by
      have : inB xs.length 1 12 = true := inB_iff.2 (by omega)
      simp [Hid, votesB, manyB, this]
    obtain ⟨hl1, hl2⟩ := hlen
    go_enter Try.func40, Try.ntmps40
    go_wp2
    go_loop [14] (fun i => ∃ k : Nat, k ≤ xs.length ∧ i = .int .i64 k ∧ allIn (xs.take k) 0 1000000 = true) (fun i => xs.length - (intOf i).toNat)
    case atStart => exact ⟨0, Nat.zero_le _, rfl, rfl⟩
    case round =>
      obtain ⟨k, hk, rfl, ha'⟩ := hrel
      have ha := Lib.hid ha'
      clear ha'
      by_cases hlt : k < xs.length
      · obtain ⟨b, o, x, rfl, hbb, hck, hx⟩ := h.get hlt
        clear h
        cases hin : inB x 0 1000000 with
        | true =>
          go_wp2_with (go_at_call 41; refine (l00In_any _ _ _ _).mono ?_; rintro e w' ⟨rfl, rfl⟩)
          go_round
          case rel => exact ⟨k + 1, by omega, by go_num, by rw [allIn_snoc hx.out, ha.out, hin]; rfl⟩
          case measure => simp [intOf]; omega
        | false =>
          go_wp2_with (go_at_call 41; refine (l00In_any _ _ _ _).mono ?_; rintro e w' ⟨rfl, rfl⟩)
          go_ret
          exact ⟨ret_bool (by rw [HF.out, allIn_false hx.out hin]; rfl), rfl⟩
      · have : k = xs.length := by omega
        subst this
        rw [List.take_length] at ha
        go_wp2_with (go_at_call 42; refine (l07Sum_any _ _ _ xs h hl).mono ?_; rintro e w' ⟨rfl, rfl⟩)
        go_ret
        exact ⟨ret_bool (by rw [HF.out, ha.out]; rfl), rfl⟩
  · have HF : Hid (votesB xs = false) := by
      have : inB xs.length 1 12 = false := inB_no.2 (by omega)
      simp [Hid, votesB, manyB, this]
    by_cases h0 : xs.length < 1
    · have hl0 : xs.length = 0 := by omega
      have : xs = [] := List.eq_nil_of_length_eq_zero hl0
      subst this
      clear h hl hlen h0 hl0
      go_enter Try.func40, Try.ntmps40
      go_wp2
      go_ret
      exact ⟨ret_bool HF.out.symm, rfl⟩
    · have h12 : 12 < xs.length := by omega
      clear hlen h
      go_enter Try.func40, Try.ntmps40
      go_wp2
      go_ret
      exact ⟨ret_bool HF.out.symm, rfl⟩
end Go.Proofs.Ythofpfnccgfohaa
