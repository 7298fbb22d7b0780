/-
  Are worths valid: both roads.
-/
import Derived.Test.YteclpcmbicjjgaaWorthsT
import Derived.Test.YteclpcmbicjjgaaBase
namespace Go.Proofs.Yteclpcmbicjjgaa
set_option linter.unusedVariables false
set_option linter.unusedSimpArgs false
open Go.RowKit

/-- A number for each set of one to six, 0 for the one without players. -/
def worthsB (P : Int) (xs : List Int) : Bool := inB P 1 6 && manyB xs (2 ^ P.toNat) (2 ^ P.toNat) (-10000) 10000 && (xs.getD 0 0 == 0)
theorem pow6 {P : Int} (h1 : 1 ≤ P) (h6 : P ≤ 6) : 2 ≤ (2 : Int) ^ P.toNat ∧ (2 : Int) ^ P.toNat ≤ 64 := by
  have : P = 1 ∨ P = 2 ∨ P = 3 ∨ P = 4 ∨ P = 5 ∨ P = 6 := by omega
  rcases this with rfl | rfl | rfl | rfl | rfl | rfl <;> decide
theorem pow6w {P : Int} (h1 : 1 ≤ P) (h6 : P ≤ 6) : wrap64 (2 ^ P.toNat) = 2 ^ P.toNat := by
  obtain ⟨a, b⟩ := pow6 h1 h6
  generalize (2 : Int) ^ P.toNat = x at *
  unfold wrap64
  omega
theorem arePlayers_any (n : Int) (w : World) : Calls Try.prog 87 #[.int .i64 n] w fun e w' => e = .returned (.bool (inB n 1 6)) ∧ w = w' := by
  go_enter Try.func87, Try.ntmps87
  go_wp2_with (go_at_call 82; refine (within_any _ _ _ _).mono ?_; rintro e w' ⟨rfl, rfl⟩)
  go_ret
  exact ⟨rfl, rfl⟩
set_option maxRecDepth 10000 in
set_option maxHeartbeats 4000000 in
theorem areSets_any (w : World) (P : Int) (a : Option Addr) (c : Nat) (xs : List Int) (h : Rd w w.heap.size a (ints xs)) (hl : xs.length ≤ 1048576) :
    Calls Try.prog 75 #[.slice a xs.length c, .int .i64 P, .int .i64 10000] w fun e w' => e = .returned (.bool (worthsB P xs)) ∧ ∃ n, w' = w.drewN n := by
  have L1 := Lib.hid (fun v => arePlayers_any P v)
  cases t1 : inB P 1 6 with
  | false =>
    rw [t1] at L1
    have HF : Hid (worthsB P xs = false) := by simp [Hid, worthsB, t1]
    clear h t1
    go_enter Try.func75, Try.ntmps75
    go_wp2_with fail
    go_quiet ((go_at_call 87; exact qs1 (L1.out _)))
    go_wp2_with fail
    go_ret
    exact ⟨ret_bool HF.out.symm, _, rfl⟩
  | true =>
    rw [t1] at L1
    obtain ⟨p1, p6⟩ := inB_iff.1 t1
    have hw := pow6w p1 p6
    obtain ⟨q1, q2⟩ := pow6 p1 p6
    have L2 := Lib.hid (fun n => areMany_any (w.drewN n) a c xs (2 ^ P.toNat) (2 ^ P.toNat) (-10000) 10000 h (by omega))
    cases t2 : manyB xs (2 ^ P.toNat) (2 ^ P.toNat) (-10000) 10000 with
    | false =>
      rw [t2] at L2
      have HF : Hid (worthsB P xs = false) := by simp [Hid, worthsB, t1, t2]
      clear h t1 t2
      go_enter Try.func75, Try.ntmps75
      go_wp2_with fail
      go_quiet (first | (go_at_call 87; exact qs1 (L1.out _)) | (go_at_call 93; exact qs1 (L2.out _)))
      go_wp2_with fail
      go_ret
      exact ⟨ret_bool HF.out.symm, _, rfl⟩
    | true =>
      rw [t2] at L2
      have hlen := (manyB_iff.1 t2).1
      have hpos : 0 < xs.length := by omega
      obtain ⟨b, o, rfl, hb, hc⟩ := h.at hpos
      have c0 := hc 0 hpos
      rw [Nat.add_zero] at c0
      have HF : Hid (worthsB P xs = (xs.getD 0 0 == 0)) := by simp only [Hid, worthsB, t1, t2, Bool.true_and]
      generalize xs.getD 0 0 = y at *
      clear h t1 t2 hc hlen
      go_enter Try.func75, Try.ntmps75
      go_wp2_with fail
      go_quiet (first | (go_at_call 87; exact qs1 (L1.out _)) | (go_at_call 93; exact qs1 (L2.out _)))
      go_wp2_with fail
      go_ret
      exact ⟨ret_bool HF.out.symm, _, rfl⟩
theorem validWorths_any (w : World) (P : Int) (a : Option Addr) (c : Nat) (xs : List Int) (h : Rd w w.heap.size a (ints xs)) (hl : xs.length ≤ 1048576) :
    Calls Try.prog 42 #[.agg #[.int .i64 P, .slice a xs.length c]] w fun e w' => e = .returned (.bool (worthsB P xs)) ∧ Below w.heap.size w w' := by
  have L := Lib.hid (areSets_any _ P a c xs (h.to (bl1 w (.cells #[.int .i64 P, .slice a xs.length c] 32))) hl)
  clear h
  go_enter Try.func42, Try.ntmps42
  go_wp2_with fail
  refine L.out.mono ?_
  rintro e w1 ⟨rfl, n, rfl⟩
  go_wp2_with fail
  go_ret
  exact ⟨rfl, below_drewN (bl1 w _) n⟩
set_option maxRecDepth 10000 in
set_option maxHeartbeats 4000000 in
theorem l03Is_any (w : World) (b o : Nat) (P : Int) (a : Option Addr) (c : Nat) (xs : List Int) (d0 : w.cell? ⟨b, o, none⟩ = some (.int .i64 P)) (d1 : w.cell? ⟨b, o + 1, none⟩ = some (.slice a xs.length c)) (h : Rd w w.heap.size a (ints xs)) (hl : xs.length ≤ 1048576) :
    Calls Try.prog 71 #[.pointer (some ⟨b, o, none⟩)] w fun e w' => e = .returned (.bool (worthsB P xs)) ∧ ∃ n, w' = w.drewN n := by
  have L1 := Lib.hid (fun v => l00In_any P 1 6 v)
  cases t1 : inB P 1 6 with
  | false =>
    rw [t1] at L1
    have HF : Hid (worthsB P xs = false) := by simp [Hid, worthsB, t1]
    clear h t1
    go_enter Try.func71, Try.ntmps71
    go_wp2_with fail
    go_quiet ((go_at_call 91; exact qs1 (L1.out _)))
    go_wp2_with fail
    go_ret
    exact ⟨ret_bool HF.out.symm, _, rfl⟩
  | true =>
    rw [t1] at L1
    obtain ⟨p1, p6⟩ := inB_iff.1 t1
    have hw := pow6w p1 p6
    obtain ⟨q1, q2⟩ := pow6 p1 p6
    cases t2 : ((xs.length : Int) != 2 ^ P.toNat) with
    | true =>
      have HF : Hid (worthsB P xs = false) := by
        have : manyB xs (2 ^ P.toNat) (2 ^ P.toNat) (-10000) 10000 = false := by
          rw [Bool.eq_false_iff]; intro h2
          have := (manyB_iff.1 h2).1
          simp at t2; omega
        simp [Hid, worthsB, this]
      clear h t1
      go_enter Try.func71, Try.ntmps71
      go_wp2_with fail
      go_quiet ((go_at_call 91; exact qs1 (L1.out _)))
      go_wp2_with fail
      go_ret
      exact ⟨ret_bool HF.out.symm, _, rfl⟩
    | false =>
      have hlen : (xs.length : Int) = 2 ^ P.toNat := by simpa using t2
      have hpos : 0 < xs.length := by omega
      obtain ⟨b1, o1, rfl, hb, hc⟩ := h.at hpos
      have c0 := hc 0 hpos
      rw [Nat.add_zero] at c0
      cases t3 : (xs.getD 0 0 != 0) with
      | true =>
        have HF : Hid (worthsB P xs = false) := by
          have : (xs.getD 0 0 == 0) = false := by simpa using t3
          simp only [Hid, worthsB, this, Bool.and_false]
        generalize xs.getD 0 0 = y at *
        clear h t1 hc hlen
        go_enter Try.func71, Try.ntmps71
        go_wp2_with fail
        go_quiet ((go_at_call 91; exact qs1 (L1.out _)))
        go_wp2_with fail
        go_ret
        exact ⟨ret_bool HF.out.symm, _, rfl⟩
      | false =>
        have HF : Hid (worthsB P xs = allIn xs (-10000) 10000) := by
          have e3 : (xs.getD 0 0 == 0) = true := by simpa using t3
          have e4 : inB (xs.length : Int) (2 ^ P.toNat) (2 ^ P.toNat) = true := inB_iff.2 ⟨by omega, by omega⟩
          simp only [Hid, worthsB, manyB, t1, e3, e4, Bool.true_and, Bool.and_true]
        have HC := Lib.hid hc
        have HS : Hid (∀ (k : Nat) (x : Int), xs[k]? = some x → allIn (xs.take k) (-10000) 10000 = true → inB x (-10000) 10000 = true → allIn (xs.take (k + 1)) (-10000) 10000 = true) := fun k x hx h1 h2 => by rw [allIn_snoc hx, h1, h2]; rfl
        have HN : Hid (∀ (k : Nat) (x : Int), xs[k]? = some x → inB x (-10000) 10000 = false → worthsB P xs = false) := fun k x hx h2 => by rw [HF.out]; exact allIn_false hx h2
        have HG : Hid (∀ k, k < xs.length → xs[k]? = some (xs.getD k 0)) := fun k hk => get_of_lt hk
        have hz : allIn (xs.take 0) (-10000) 10000 = true := by simp [allIn]
        have t3' := t3
        generalize xs.getD 0 0 = y at c0 t3'
        clear t3 h t1 hc hlen
        go_enter Try.func71, Try.ntmps71
        go_wp2_with fail
        go_quiet ((go_at_call 91; exact qs1 (L1.out _)))
        go_wp2_with fail
        go_loopw [37] (fun iv wr => ∃ k n : Nat, k ≤ xs.length ∧ iv = .int .i64 k ∧ Hid (allIn (xs.take k) (-10000) 10000 = true) ∧ wr = w.drewN n) (fun iv _ => xs.length - (intOf iv).toNat)
        case atStart => exact ⟨0, _, Nat.zero_le _, rfl, hz, rfl⟩
        case round =>
          clear hz
          obtain ⟨k, n, hk, rfl, hA, rfl⟩ := hrel
          by_cases hlt : k < xs.length
          · have ck := HC.out k hlt
            have hx := HG.out k hlt
            have HSk := Lib.hid (fun h2 => HS.out k _ hx hA.out h2)
            have HNk := Lib.hid (fun h2 => HN.out k _ hx h2)
            clear hx
            generalize xs.getD k 0 = z at *
            have L3 := Lib.hid (fun v => l00In_any z (-10000) 10000 v)
            cases t : inB z (-10000) 10000 with
            | true =>
              rw [t] at L3
              have HF2 := Lib.hid (HSk.out t)
              clear t
              go_wp2_with fail
              first
                | (refine (L3.out _).mono ?_; rintro e w1 ⟨rfl, rfl⟩; go_wp2_with fail)
                | (go_quiet ((go_at_call 91; exact qs2 (L3.out _))); go_wp2_with fail)
              go_roundw
              case rel => exact ⟨k + 1, _, by omega, by go_num, HF2, by first | rfl | exact World.drewN_drewN _ _ _⟩
              case measure => simp [intOf]; omega
            | false =>
              rw [t] at L3
              have HF2 := Lib.hid (HNk.out t)
              clear t
              go_wp2_with fail
              first
                | (refine (L3.out _).mono ?_; rintro e w1 ⟨rfl, rfl⟩; go_wp2_with fail)
                | (go_quiet ((go_at_call 91; exact qs2 (L3.out _))); go_wp2_with fail)
              go_ret
              exact ⟨ret_bool HF2.out.symm, _, by first | rfl | exact World.drewN_drewN _ _ _⟩
          · have : k = xs.length := by omega
            subst this
            have HF2 : Hid (worthsB P xs = true) := by rw [Hid, HF.out, ← List.take_length (l := xs)]; exact hA.out
            go_wp2_with fail
            go_ret
            exact ⟨ret_bool HF2.out.symm, _, rfl⟩
end Go.Proofs.Yteclpcmbicjjgaa
