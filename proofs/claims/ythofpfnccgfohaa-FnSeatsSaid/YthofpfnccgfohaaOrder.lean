/-
  Orders of all numbers below n: the reference's and the program's tests are one plain test.
-/
import Derived.Test.YthofpfnccgfohaaBase
namespace Go.Proofs.Ythofpfnccgfohaa
set_option linter.unusedVariables false
set_option linter.unusedSimpArgs false
open Go.RowKit

def hasB (xs : List Int) (n : Int) : Bool := xs.any fun x => x == n
theorem hasB_iff {xs : List Int} {n : Int} : hasB xs n = true ↔ n ∈ xs := by simp [hasB]
theorem hasB_no {xs : List Int} {n : Int} : hasB xs n = false ↔ n ∉ xs := by rw [← hasB_iff]; simp
theorem hasB_snoc {xs : List Int} {k : Nat} {x n : Int} (hx : xs[k]? = some x) : hasB (xs.take (k + 1)) n = (hasB (xs.take k) n || (x == n)) := by
  rw [List.take_add_one, hx]; simp [hasB]
theorem hasB_take {xs : List Int} {k : Nat} {x n : Int} (hx : xs[k]? = some x) (h : (x == n) = true) : hasB xs n = true := by
  rw [hasB_iff]; rw [beq_iff_eq] at h; rw [← h]; exact List.mem_of_getElem? hx
/-- All numbers are from 0 to n - 1, each at most once. -/
def onceB (xs : List Int) (n : Nat) : Bool := allIn xs 0 (n - 1) && decide xs.Nodup
def orderB (xs : List Int) (n : Nat) : Bool := onceB xs n && decide (xs.length = n)
theorem orderB_iff {xs : List Int} {n : Nat} : orderB xs n = true ↔ (∀ x ∈ xs, 0 ≤ x ∧ x < n) ∧ xs.Nodup ∧ xs.length = n := by
  simp only [orderB, onceB, Bool.and_eq_true, allIn_iff, decide_eq_true_iff, and_assoc]
  constructor
  · rintro ⟨h1, h2, h3⟩; exact ⟨fun x hx => by have := h1 x hx; omega, h2, h3⟩
  · rintro ⟨h1, h2, h3⟩; exact ⟨fun x hx => by have := h1 x hx; omega, h2, h3⟩
theorem nodup_take_succ {xs : List Int} {k : Nat} {x : Int} (hx : xs[k]? = some x) : (xs.take (k + 1)).Nodup ↔ (xs.take k).Nodup ∧ x ∉ xs.take k := by
  rw [List.take_add_one, hx]
  simp only [Option.toList_some, List.nodup_append, List.nodup_cons, List.not_mem_nil, not_false_eq_true, List.nodup_nil, and_self, true_and]
  constructor
  · rintro ⟨h1, h2⟩; exact ⟨h1, fun h => h2 x h x (by simp) rfl⟩
  · rintro ⟨h1, h2⟩; exact ⟨h1, fun a ha b hb e => by simp at hb; subst hb; subst e; exact h2 ha⟩
theorem not_nodup_of {xs : List Int} {k : Nat} {x : Int} (hx : xs[k]? = some x) (h : x ∈ xs.take k) : ¬ xs.Nodup := by
  intro hn
  have h2 : (xs.take (k + 1)).Nodup := hn.sublist (List.take_sublist _ _)
  exact ((nodup_take_succ hx).1 h2).2 h
theorem onceB_step {xs : List Int} {k n : Nat} {x : Int} (hx : xs[k]? = some x) (h : onceB (xs.take k) n = true) (h1 : inB x 0 (n - 1) = true) (h2 : hasB (xs.take k) x = false) : onceB (xs.take (k + 1)) n = true := by
  simp only [onceB, Bool.and_eq_true, decide_eq_true_iff] at h ⊢
  exact ⟨by rw [allIn_snoc hx, h.1, h1]; rfl, (nodup_take_succ hx).2 ⟨h.2, hasB_no.1 h2⟩⟩
theorem onceB_out {xs : List Int} {k n : Nat} {x : Int} (hx : xs[k]? = some x) (h1 : inB x 0 (n - 1) = false) : onceB xs n = false := by
  simp [onceB, allIn_false hx h1]
theorem onceB_dup {xs : List Int} {k n : Nat} {x : Int} (hx : xs[k]? = some x) (h2 : hasB (xs.take k) x = true) : onceB xs n = false := by
  simp [onceB, not_nodup_of hx (hasB_iff.1 h2)]

/-- The beginning of a slice. -/
theorem Rd.take {w : World} {B : Nat} {a : Option Addr} {xs : List Int} (h : Rd w B a (ints xs)) (k : Nat) : Rd w B a (ints (xs.take k)) := by
  rcases h with h | ⟨b, o, ha, hb, hc⟩
  · have : (ints xs).length = 0 := by rw [h]; rfl
    simp at this; subst this; exact .inl (by simp)
  · refine .inr ⟨b, o, ha, hb, fun j hj => ?_⟩
    have hj' : j < (ints xs).length := by simp at hj ⊢; omega
    rw [hc j hj']
    simp only [ints, List.map_take, List.getElem?_take]
    rw [if_pos (by simp at hj; omega)]

theorem l00Has_any (w : World) (a : Option Addr) (c : Nat) (xs : List Int) (n : Int) (h : Rd w w.heap.size a (ints xs)) (hl : xs.length ≤ 1152921504606846976) :
    Calls Try.prog 52 #[.slice a xs.length c, .int .i64 n] w fun e w' => e = .returned (.bool (hasB xs n)) ∧ w = w' := by
  go_enter Try.func52, Try.ntmps52
  go_wp2
  go_loop [5] (fun i => ∃ k : Nat, k ≤ xs.length ∧ i = .int .i64 k ∧ hasB (xs.take k) n = false) (fun i => xs.length - (intOf i).toNat)
  case atStart => exact ⟨0, Nat.zero_le _, rfl, rfl⟩
  case round =>
    obtain ⟨k, hk, rfl, ha'⟩ := hrel
    have ha := Lib.hid ha'
    clear ha'
    by_cases hlt : k < xs.length
    · obtain ⟨b, o, x, rfl, hbb, hck, hx⟩ := h.get hlt
      clear h
      cases hin : (x == n) with
      | false =>
        go_wp2
        go_round
        case rel => exact ⟨k + 1, by omega, by go_num, by rw [hasB_snoc hx.out, ha.out, hin]; rfl⟩
        case measure => simp [intOf]; omega
      | true =>
        go_wp2
        go_ret
        exact ⟨ret_bool (hasB_take hx.out hin).symm, rfl⟩
    · have : k = xs.length := by omega
      subst this
      go_wp2
      go_ret
      exact ⟨ret_bool (by rw [← ha.out, List.take_length]), rfl⟩
set_option maxHeartbeats 2000000 in
theorem l07Order_any (w : World) (a : Option Addr) (c n : Nat) (xs : List Int) (h : Rd w w.heap.size a (ints xs)) (hc : xs.length ≤ c) (hl : xs.length ≤ 1152921504606846976) (hn : n ≤ 1152921504606846976) :
    Calls Try.prog 46 #[.slice a xs.length c, .int .i64 n] w fun e w' => e = .returned (.bool (orderB xs n)) ∧ ∃ m, w' = w.drewN m := by
  go_enter Try.func46, Try.ntmps46
  go_wp2
  go_loopw [8] (fun i wr => ∃ k m : Nat, k ≤ xs.length ∧ i = .int .i64 k ∧ onceB (xs.take k) n = true ∧ wr = w.drewN m) (fun i _ => xs.length - (intOf i).toNat)
  case atStart => exact ⟨0, 0, Nat.zero_le _, rfl, by simp [onceB, allIn], rfl⟩
  case round =>
    obtain ⟨k, m, hk, rfl, ha', rfl⟩ := hrel
    have ha := Lib.hid ha'
    clear ha'
    by_cases hlt : k < xs.length
    · obtain ⟨b, o, x, rfl, hbb, hck, hx⟩ := h.get hlt
      have ht : Rd (w.drewN m) w.heap.size (some ⟨b, o, none⟩) (ints (xs.take k)) := h.take k
      have hl1 : (xs.take k).length = k := by simp; omega
      have L1 := Lib.hid (fun v => l00In_any x 0 (n - 1) v)
      have L2 := Lib.hid (fun q => l00Has_any (w.drewN q) (some ⟨b, o, none⟩) c (xs.take k) x (h.take k) (by omega))
      rw [hl1] at L2
      cases hin : inB x 0 (n - 1) with
      | false =>
        rw [hin] at L1
        go_wp2
        go_quiet ((go_at_call 41; exact qs2 (L1.out _)))
        go_wp2
        go_ret
        exact ⟨ret_bool (by simp [orderB, onceB_out hx.out hin]), _, World.drewN_drewN _ _ _⟩
      | true =>
        rw [hin] at L1
        cases hh : hasB (xs.take k) x with
        | true =>
          rw [hh] at L2
          go_wp2
          go_quiet (first | (go_at_call 41; exact qs2 (L1.out _)) | (go_at_call 52; exact qs2 (L2.out _)))
          go_wp2
          go_ret
          exact ⟨ret_bool (by simp [orderB, onceB_dup hx.out hh]), _, World.drewN_drewN _ _ _⟩
        | false =>
          rw [hh] at L2
          go_wp2
          go_quiet (first | (go_at_call 41; exact qs2 (L1.out _)) | (go_at_call 52; exact qs2 (L2.out _)))
          go_wp2
          go_roundw
          case rel => exact ⟨k + 1, m + nq, by omega, by go_num, onceB_step hx.out ha.out hin hh, by first | rfl | exact World.drewN_drewN _ _ _⟩
          case measure => simp [intOf]; omega
    · have : k = xs.length := by omega
      subst this
      rw [List.take_length] at ha
      have HF : Hid (orderB xs n = ((xs.length : Int) == (n : Int))) := by
        simp only [Hid, orderB, ha.out, Bool.true_and]
        by_cases e : xs.length = n
        · simp [e]
        · have : ¬ (xs.length : Int) = (n : Int) := by omega
          simp [e, this]
      go_wp2
      go_ret
      exact ⟨ret_bool HF.out.symm, m, rfl⟩
/-- Which numbers have been seen among the first k. -/
def seenL (n : Nat) (xs : List Int) (k : Nat) : List Value := (List.range n).map fun (j : Nat) => .bool (hasB (xs.take k) j)
theorem seenL_length (n : Nat) (xs : List Int) (k : Nat) : (seenL n xs k).length = n := by simp [seenL]
theorem seenL_zero (n : Nat) (xs : List Int) : seenL n xs 0 = List.replicate n (.bool false) := by
  apply List.ext_getElem?
  intro j
  simp only [seenL, List.getElem?_map, List.getElem?_range, List.getElem?_replicate]
  by_cases h : j < n <;> simp [h, hasB]
theorem seenL_get (n : Nat) (xs : List Int) (k j : Nat) (h : j < n) : (seenL n xs k)[j]? = some (.bool (hasB (xs.take k) j)) := by
  simp [seenL, h]
theorem seenL_set {n : Nat} {xs : List Int} {k q : Nat} (hx : xs[k]? = some (q : Int)) : (seenL n xs k).set q (.bool true) = seenL n xs (k + 1) := by
  apply List.ext_getElem?
  intro j
  rw [List.getElem?_set]
  by_cases h : q = j
  · subst h
    rw [if_pos rfl, seenL_length]
    by_cases hq : q < n
    · rw [if_pos hq, seenL_get _ _ _ _ hq, hasB_snoc hx]; simp
    · rw [if_neg hq, List.getElem?_eq_none (by rw [seenL_length]; omega)]
  · rw [if_neg h]
    by_cases hj : j < n
    · rw [seenL_get _ _ _ _ hj, seenL_get _ _ _ _ hj, hasB_snoc hx]
      have : ((q : Int) == (j : Int)) = false := by simp; omega
      rw [this, Bool.or_false]
    · rw [List.getElem?_eq_none (by rw [seenL_length]; omega), List.getElem?_eq_none (by rw [seenL_length]; omega)]
theorem info_bool : (Try.prog.info? 4).map (fun i => (i.zero, i.size, i.bytes)) = some (some (.bool false), 1, 1) := by kernel_rfl
set_option maxHeartbeats 2000000 in
theorem isAll_any (w : World) (a : Option Addr) (c : Nat) (xs : List Int) (h : Rd w w.heap.size a (ints xs)) (hl : xs.length ≤ 1048576) :
    Calls Try.prog 31 #[.slice a xs.length c] w fun e w' => e = .returned (.bool (onceB xs xs.length)) ∧ Below w.heap.size w w' := by
  go_enter Try.func31, Try.ntmps31
  go_wp2_with (at_make; refine wpList_make_blk _ rfl _ _ 45 rfl 4 (.bool false) 1 Try.underlying45 info_bool rfl _ _ xs.length rfl rfl (by omega) (by unfold maxLen; omega) ?_)
  intro w1 hb1 hw1 hs1
  rw [← seenL_zero xs.length xs] at hb1
  go_wp2
  go_loopw [11] (fun i wr => ∃ k : Nat, k ≤ xs.length ∧ i = .int .i64 k ∧ onceB (xs.take k) xs.length = true ∧ Blk wr w.heap.size (seenL xs.length xs k) 4 ∧ Below w.heap.size w wr) (fun i _ => xs.length - (intOf i).toNat)
  case atStart => exact ⟨0, Nat.zero_le _, rfl, by simp [onceB, allIn], hb1, hw1⟩
  case round =>
    clear hb1 hw1 hs1
    obtain ⟨k, hk, rfl, ha', hb, hw⟩ := hrel
    have ha := Lib.hid ha'
    clear ha'
    by_cases hlt : k < xs.length
    · obtain ⟨b, o, x, rfl, hbb, hck, hx⟩ := (h.below hw (Nat.le_refl _)).get hlt
      have L1 := Lib.hid (fun v => within_any x 0 (xs.length - 1) v)
      cases hin : inB x 0 (xs.length - 1) with
      | false =>
        rw [hin] at L1
        have hF := Lib.hid (onceB_out hx.out hin)
        clear h hb
        go_wp2_with (go_at_call 35; refine (L1.out _).mono ?_; rintro e w' ⟨rfl, rfl⟩)
        go_ret
        exact ⟨ret_bool hF.out.symm, hw⟩
      | true =>
        obtain ⟨h0, h1⟩ := inB_iff.1 hin
        obtain ⟨q, rfl⟩ := Int.eq_ofNat_of_zero_le h0
        rw [hin] at L1
        have hq : q < xs.length := by omega
        have hcell := hb.cell q
        rw [seenL_get _ _ _ _ hq] at hcell
        cases hh : hasB (xs.take k) q with
        | true =>
          rw [hh] at hcell
          have hF := Lib.hid (onceB_dup (n := xs.length) hx.out hh)
          clear h hb
          go_wp2_with (go_at_call 35; refine (L1.out _).mono ?_; rintro e w' ⟨rfl, rfl⟩)
          go_ret
          exact ⟨ret_bool hF.out.symm, hw⟩
        | false =>
          rw [hh] at hcell
          have hfr := hb.free q
          have hset := hb.set q (.bool true)
          rw [seenL_set hx.out] at hset
          have hbel := below_sto hw (Nat.le_refl _) q (.bool true)
          have hF := Lib.hid (onceB_step hx.out ha.out hin hh)
          clear h hb hw
          go_wp2_with (go_at_call 35; refine (L1.out _).mono ?_; rintro e w' ⟨rfl, rfl⟩)
          go_roundw
          case rel => exact ⟨k + 1, by omega, by go_num, hF.out, hset, hbel⟩
          case measure => simp [intOf]; omega
    · have : k = xs.length := by omega
      subst this
      rw [List.take_length] at ha
      go_wp2
      go_ret
      exact ⟨ret_bool ha.out.symm, hw⟩
end Go.Proofs.Ythofpfnccgfohaa
