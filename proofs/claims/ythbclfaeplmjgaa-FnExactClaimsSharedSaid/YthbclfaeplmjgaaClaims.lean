/-
  Claims: what makes claims; lists times a number; taking in order.
-/
import Derived.Test.YthbclfaeplmjgaaPoints
import Derived.Test.YthbclfaeplmjgaaGrow
namespace Go.Proofs.Ythbclfaeplmjgaa
set_option linter.unusedVariables false
set_option linter.unusedSimpArgs false
open Go.RowKit

def claimsB (xs : List Int) (e : Int) : Bool := manyB xs 1 8 0 1000 && inB e 0 (wsum xs)
theorem claimsB_iff {xs : List Int} {e : Int} : claimsB xs e = true ↔ (1 ≤ xs.length ∧ xs.length ≤ 8) ∧ (∀ x ∈ xs, 0 ≤ x ∧ x ≤ 1000) ∧ 0 ≤ e ∧ e ≤ xs.sum := by
  unfold claimsB
  rw [Bool.and_eq_true, manyB_iff, inB_iff]
  constructor
  · rintro ⟨⟨⟨h1, h2⟩, h3⟩, h4, h5⟩
    have := wsum_eq xs 1000 (by omega) (fun x hx => by have := h3 x hx; omega) (by omega)
    exact ⟨⟨by omega, by omega⟩, h3, h4, by omega⟩
  · rintro ⟨⟨h1, h2⟩, h3, h4, h5⟩
    have := wsum_eq xs 1000 (by omega) (fun x hx => by have := h3 x hx; omega) (by omega)
    exact ⟨⟨⟨by omega, by omega⟩, h3⟩, h4, by omega⟩
theorem claims_sum {xs : List Int} (h : ∀ x ∈ xs, 0 ≤ x ∧ x ≤ 1000) : 0 ≤ xs.sum ∧ xs.sum ≤ 1000 * xs.length := by
  induction xs with
  | nil => simp
  | cons x xs ih =>
    have h1 := h x (by simp)
    have h2 := ih (fun y hy => h y (by simp [hy]))
    simp only [List.sum_cons, List.length_cons]
    omega
set_option maxHeartbeats 1000000 in
theorem l07Claims_any (w : World) (a : Option Addr) (c : Nat) (xs : List Int) (e : Int) (h : Rd w w.heap.size a (ints xs)) (hl : xs.length ≤ 1152921504606846976) :
    Calls Try.prog 70 #[.slice a xs.length c, .int .i64 e] w fun e' w' => e' = .returned (.bool (claimsB xs e)) ∧ w = w' := by
  by_cases hlen : 1 ≤ xs.length ∧ xs.length ≤ 8
  · have HF : Hid (claimsB xs e = (allIn xs 0 1000 && inB e 0 (wsum xs))) := by
      have : inB xs.length 1 8 = true := inB_iff.2 ⟨by omega, by omega⟩
      simp [Hid, claimsB, manyB, this]
    obtain ⟨hl1, hl2⟩ := hlen
    go_enter Try.func70, Try.ntmps70
    go_wp2_with fail
    go_loop [16] (fun i => ∃ k : Nat, k ≤ xs.length ∧ i = .int .i64 k ∧ Hid (allIn (xs.take k) 0 1000 = true)) (fun i => xs.length - (intOf i).toNat)
    case atStart => exact ⟨0, Nat.zero_le _, rfl, rfl⟩
    case round =>
      obtain ⟨k, hk, rfl, ha⟩ := hrel
      by_cases hlt : k < xs.length
      · obtain ⟨b, o, x, rfl, hbb, hck, hx⟩ := h.get hlt
        have L := Lib.hid (l00In_any x 0 1000 w)
        cases hin : inB x 0 1000 with
        | true =>
          have hF : Hid (allIn (xs.take (k + 1)) 0 1000 = true) := by rw [Hid, allIn_snoc hx.out, ha.out, hin]; rfl
          rw [hin] at L
          clear h
          go_wp2_with (go_at_call 87; refine L.out.mono ?_; rintro e' w' ⟨rfl, rfl⟩)
          go_round
          case rel => exact ⟨k + 1, by omega, by go_num, hF⟩
          case measure => simp [intOf]; omega
        | false =>
          have hF : Hid (claimsB xs e = false) := by rw [Hid, HF.out, allIn_false hx.out hin]; rfl
          rw [hin] at L
          clear h
          go_wp2_with (go_at_call 87; refine L.out.mono ?_; rintro e' w' ⟨rfl, rfl⟩)
          go_ret
          exact ⟨ret_bool hF.out.symm, rfl⟩
      · have : k = xs.length := by omega
        subst this
        rw [List.take_length] at ha
        have hF : Hid (claimsB xs e = inB e 0 (wsum xs)) := by rw [Hid, HF.out, ha.out]; rfl
        have L := Lib.hid (l07Sum_any w a c xs h hl)
        have L2 := Lib.hid (l00In_any e 0 (wsum xs) w)
        clear h
        go_wp2_with (first | (go_at_call 83; refine L.out.mono ?_; rintro e' w' ⟨rfl, rfl⟩) | (go_at_call 87; refine L2.out.mono ?_; rintro e' w' ⟨rfl, rfl⟩))
        go_ret
        exact ⟨ret_bool hF.out.symm, rfl⟩
  · have HF : Hid (claimsB xs e = false) := by
      have : inB xs.length 1 8 = false := inB_no.2 (by omega)
      simp [Hid, claimsB, manyB, this]
    by_cases h1 : xs.length < 1
    · clear hlen h
      go_enter Try.func70, Try.ntmps70
      go_wp2
      go_ret
      exact ⟨ret_bool HF.out.symm, rfl⟩
    · have h2 : 8 < xs.length := by omega
      clear hlen h
      go_enter Try.func70, Try.ntmps70
      go_wp2
      go_ret
      exact ⟨ret_bool HF.out.symm, rfl⟩
theorem areClaims_any (w : World) (a : Option Addr) (c : Nat) (xs : List Int) (e : Int) (h : Rd w w.heap.size a (ints xs)) (hl : xs.length ≤ 1152921504606846976) :
    Calls Try.prog 65 #[.slice a xs.length c, .int .i64 e] w fun e' w' => e' = .returned (.bool (claimsB xs e)) ∧ w = w' := by
  have L1 := Lib.hid (areMany_any w a c xs 1 8 0 1000 h hl)
  have L2 := Lib.hid (sumOf_any w a c xs h hl)
  have L3 := Lib.hid (within_any e 0 (wsum xs) w)
  clear h
  cases hin : manyB xs 1 8 0 1000 with
  | true =>
    have H : Hid (claimsB xs e = inB e 0 (wsum xs)) := by simp [Hid, claimsB, hin]
    rw [hin] at L1
    go_enter Try.func65, Try.ntmps65
    go_wp2_with (first | (go_at_call 117; refine L1.out.mono ?_; rintro e' w' ⟨rfl, rfl⟩) | (go_at_call 84; refine L2.out.mono ?_; rintro e' w' ⟨rfl, rfl⟩) | (go_at_call 118; refine L3.out.mono ?_; rintro e' w' ⟨rfl, rfl⟩))
    go_ret
    exact ⟨ret_bool H.out.symm, rfl⟩
  | false =>
    have H : Hid (claimsB xs e = false) := by simp [Hid, claimsB, hin]
    rw [hin] at L1
    go_enter Try.func65, Try.ntmps65
    go_wp2_with (go_at_call 117; refine L1.out.mono ?_; rintro e' w' ⟨rfl, rfl⟩)
    go_ret
    exact ⟨ret_bool H.out.symm, rfl⟩
/-- What is taken after k of the order, and what is left. -/
def takeS (cs os : List Int) (e : Int) : Nat → List Int × Int
  | 0 => (List.replicate cs.length 0, e)
  | k + 1 => ((takeS cs os e k).1.set (os.getD k 0).toNat (min (cs.getD (os.getD k 0).toNat 0) (takeS cs os e k).2), (takeS cs os e k).2 - min (cs.getD (os.getD k 0).toNat 0) (takeS cs os e k).2)
def takeF (cs os : List Int) (e : Int) : List Int := (takeS cs os e os.length).1
theorem takeS_len (cs os : List Int) (e : Int) : ∀ k, (takeS cs os e k).1.length = cs.length
  | 0 => by simp [takeS]
  | k + 1 => by simp [takeS, takeS_len cs os e k]
theorem getD_bd {cs : List Int} {lo hi : Int} (h : ∀ x ∈ cs, lo ≤ x ∧ x ≤ hi) (h0 : lo ≤ 0) (h1 : 0 ≤ hi) (j : Nat) : lo ≤ cs.getD j 0 ∧ cs.getD j 0 ≤ hi := by
  by_cases hj : j < cs.length
  · exact h _ (List.mem_of_getElem? (get_of_lt hj))
  · simp [List.getD, List.getElem?_eq_none (by omega : cs.length ≤ j), h0, h1]
theorem takeS_bd {cs os : List Int} {e : Int} (h0 : 0 ≤ e) (h1 : e ≤ 8000) (hc : ∀ x ∈ cs, 0 ≤ x ∧ x ≤ 1000) : ∀ k, (0 ≤ (takeS cs os e k).2 ∧ (takeS cs os e k).2 ≤ 8000) ∧ ∀ y ∈ (takeS cs os e k).1, 0 ≤ y ∧ y ≤ 1000
  | 0 => ⟨⟨h0, h1⟩, fun y hy => by simp [takeS] at hy; omega⟩
  | k + 1 => by
    obtain ⟨⟨i1, i2⟩, i3⟩ := takeS_bd (os := os) h0 h1 hc k
    have hx := getD_bd hc (by omega) (by omega) (os.getD k 0).toNat
    simp only [takeS]
    refine ⟨by omega, fun y hy => ?_⟩
    rcases List.mem_or_eq_of_mem_set hy with hy | rfl
    · exact i3 y hy
    · omega
theorem l00Min_any (a b : Int) (w : World) : Calls Try.prog 124 #[.int .i64 a, .int .i64 b] w fun e w' => e = .returned (.int .i64 (min a b)) ∧ w = w' := by
  by_cases h : a < b
  · have H : Hid (min a b = a) := by show _ = _; omega
    go_enter Try.func124, Try.ntmps124
    go_wp2
    go_ret
    exact ⟨ret_int H.out.symm, rfl⟩
  · have H : Hid (min a b = b) := by show _ = _; omega
    go_enter Try.func124, Try.ntmps124
    go_wp2
    go_ret
    exact ⟨ret_int H.out.symm, rfl⟩
set_option maxHeartbeats 1000000 in
theorem l07Times_any (w : World) (B : Nat) (a : Option Addr) (c : Nat) (xs : List Int) (by' : Int) (h' : Rd w B a (ints xs)) (hB : B ≤ w.heap.size) (hl : xs.length ≤ 1048576) (hx0 : ∀ x ∈ xs, -1048576 ≤ x ∧ x ≤ 1048576) (b0 : 0 ≤ by') (b1 : by' ≤ 1048576) :
    Calls Try.prog 72 #[.slice a xs.length c, .int .i64 by'] w fun e w' => ∃ a' c', e = .returned (.slice a' xs.length c') ∧ OwnI 2 w' w.heap.size w'.heap.size a' c' (xs.map (· * by')) ∧ Below w.heap.size w w' := by
  have h := h'.mono hB
  have Hx := Lib.hid hx0
  clear hx0 h' hB
  have Hs : Hid (∀ (k : Nat) (x : Int), xs[k]? = some x → (xs.map (· * by')).take (k + 1) = (xs.map (· * by')).take k ++ [x * by']) := fun k x hx => by rw [List.take_add_one, List.getElem?_map, hx]; rfl
  have Hl : Hid ((xs.map (· * by')).length = xs.length) := by simp [Hid]
  generalize xs.map (· * by') = ys at *
  go_enter Try.func72, Try.ntmps72
  go_wp2_with fail
  go_loopw [10, 5] (fun i v wr => ∃ (k : Nat) (u : Value), k ≤ xs.length ∧ i = .int .i64 k ∧ v = u ∧ Hid (wr.ownsRow w.heap.size 2 1 u k (ints (ys.take k))) ∧ Below w.heap.size w wr) (fun i _ _ => xs.length - (intOf i).toNat)
  case atStart => exact ⟨0, _, Nat.zero_le _, rfl, rfl, own_empty w _, bl1 w _⟩
  case round =>
    obtain ⟨k, u, hk, rfl, rfl, ho, hw⟩ := hrel
    by_cases hlt : k < xs.length
    · obtain ⟨b, o, x, rfl, hbb, hck, hx⟩ := (h.below hw (Nat.le_refl _)).get hlt
      obtain ⟨x0, x1⟩ := Hx.out x (List.mem_of_getElem? hx.out)
      have hn := Lib.hid (Hs.out k x hx.out)
      have m1 : x * by' ≤ 1048576 * 1048576 := Int.le_trans (Int.mul_le_mul_of_nonneg_right x1 b0) (Int.mul_le_mul_of_nonneg_left b1 (by omega))
      have m2 : -1048576 * 1048576 ≤ x * by' := by
        have h1 : -1048576 * by' ≤ x * by' := Int.mul_le_mul_of_nonneg_right x0 b0
        omega
      have ho1 := ho.out
      clear h ho
      go_wp2_with (at_builtin; refine wpList_append_one _ rfl _ _ 22 rfl w.heap.size 2 (.int .i64 0) 8 Try.underlying22 info_i64p rfl _ k _ rfl ho1 (.int .i64 (x * by')) rfl rfl (by omega) (by omega) hw.size ?_)
      intro v' w1 o1 hgr
      have hb := below_append hw ho1 hgr (Nat.le_refl _) hw.size
      rw [show ints (ys.take k) ++ [Value.int .i64 (x * by')] = ints (ys.take (k + 1)) from by rw [hn.out, ints_append]; rfl] at o1
      have HO := Lib.hid o1
      clear ho1 hgr hw o1 hck
      go_wp2_with fail
      go_roundw
      case rel => exact ⟨k + 1, v', by omega, by go_num, rfl, HO, hb⟩
      case measure => simp [intOf]; omega
    · have : k = xs.length := by omega
      subst this
      rw [show ys.take xs.length = ys from List.take_of_length_le (by rw [Hl.out]; exact Nat.le_refl _)] at ho
      obtain ⟨a1, c1, rfl, _, _⟩ := own_shape ho.out
      have hR : OwnI 2 wr w.heap.size wr.heap.size a1 c1 ys := OwnI.of_own (by rw [Hl.out]; exact ho.out)
      have HR := Lib.hid hR
      clear hR ho
      go_wp2_with fail
      go_ret
      exact ⟨_, _, rfl, HR.out, hw⟩
set_option maxHeartbeats 1000000 in
theorem scaled_any (w : World) (B : Nat) (a : Option Addr) (c : Nat) (xs : List Int) (by' : Int) (h' : Rd w B a (ints xs)) (hB : B ≤ w.heap.size) (hl : xs.length ≤ 1048576) (hx0 : ∀ x ∈ xs, -1048576 ≤ x ∧ x ≤ 1048576) (b0 : 0 ≤ by') (b1 : by' ≤ 1048576) :
    Calls Try.prog 75 #[.slice a xs.length c, .int .i64 by'] w fun e w' => ∃ a' c', e = .returned (.slice a' xs.length c') ∧ OwnI 2 w' w.heap.size w'.heap.size a' c' (xs.map (· * by')) ∧ Below w.heap.size w w' := by
  have h := h'.mono hB
  have Hx := Lib.hid hx0
  clear hx0 h' hB
  have Hs : Hid (∀ (k : Nat) (x : Int), xs[k]? = some x → (xs.map (· * by')).take (k + 1) = (xs.map (· * by')).take k ++ [x * by']) := fun k x hx => by rw [List.take_add_one, List.getElem?_map, hx]; rfl
  have Hl : Hid ((xs.map (· * by')).length = xs.length) := by simp [Hid]
  generalize xs.map (· * by') = ys at *
  go_enter Try.func75, Try.ntmps75
  go_wp2_with fail
  go_loopw [11, 5] (fun i v wr => ∃ (k : Nat) (u : Value), k ≤ xs.length ∧ i = .int .i64 k ∧ v = u ∧ Hid (wr.ownsRow w.heap.size 2 1 u k (ints (ys.take k))) ∧ Below w.heap.size w wr) (fun i _ _ => xs.length - (intOf i).toNat)
  case atStart => exact ⟨0, _, Nat.zero_le _, rfl, rfl, own_empty w _, bl1 w _⟩
  case round =>
    obtain ⟨k, u, hk, rfl, rfl, ho, hw⟩ := hrel
    by_cases hlt : k < xs.length
    · obtain ⟨b, o, x, rfl, hbb, hck, hx⟩ := (h.below hw (Nat.le_refl _)).get hlt
      obtain ⟨x0, x1⟩ := Hx.out x (List.mem_of_getElem? hx.out)
      have hn := Lib.hid (Hs.out k x hx.out)
      have m1 : x * by' ≤ 1048576 * 1048576 := Int.le_trans (Int.mul_le_mul_of_nonneg_right x1 b0) (Int.mul_le_mul_of_nonneg_left b1 (by omega))
      have m2 : -1048576 * 1048576 ≤ x * by' := by
        have h1 : -1048576 * by' ≤ x * by' := Int.mul_le_mul_of_nonneg_right x0 b0
        omega
      have ho1 := ho.out
      clear h ho
      go_wp2_with (at_builtin; refine wpList_append_one _ rfl _ _ 22 rfl w.heap.size 2 (.int .i64 0) 8 Try.underlying22 info_i64p rfl _ k _ rfl ho1 (.int .i64 (x * by')) rfl rfl (by omega) (by omega) hw.size ?_)
      intro v' w1 o1 hgr
      have hb := below_append hw ho1 hgr (Nat.le_refl _) hw.size
      rw [show ints (ys.take k) ++ [Value.int .i64 (x * by')] = ints (ys.take (k + 1)) from by rw [hn.out, ints_append]; rfl] at o1
      have HO := Lib.hid o1
      clear ho1 hgr hw o1 hck
      go_wp2_with fail
      go_roundw
      case rel => exact ⟨k + 1, v', by omega, by go_num, rfl, HO, hb⟩
      case measure => simp [intOf]; omega
    · have : k = xs.length := by omega
      subst this
      rw [show ys.take xs.length = ys from List.take_of_length_le (by rw [Hl.out]; exact Nat.le_refl _)] at ho
      obtain ⟨a1, c1, rfl, _, _⟩ := own_shape ho.out
      have hR : OwnI 2 wr w.heap.size wr.heap.size a1 c1 ys := OwnI.of_own (by rw [Hl.out]; exact ho.out)
      have HR := Lib.hid hR
      clear hR ho
      go_wp2_with fail
      go_ret
      exact ⟨_, _, rfl, HR.out, hw⟩
set_option maxHeartbeats 2000000 in
theorem l07Take_any (w : World) (B C : Nat) (a ao : Option Addr) (c co : Nat) (xs os : List Int) (e : Int) (h' : Rd w B a (ints xs)) (g' : Rd w C ao (ints os)) (hB : B ≤ w.heap.size) (hC : C ≤ w.heap.size) (hv : claimsB xs e = true) (hor : orderB os xs.length = true) :
    Calls Try.prog 73 #[.slice a xs.length c, .int .i64 e, .slice ao os.length co] w fun e' w' => ∃ a' c', e' = .returned (.slice a' xs.length c') ∧ OwnI 2 w' w.heap.size w'.heap.size a' c' (takeF xs os e) ∧ Below w.heap.size w w' := by
  have h := h'.mono hB
  have g := g'.mono hC
  obtain ⟨⟨hl1, hl2⟩, hxb, he0, he1⟩ := claimsB_iff.1 hv
  have hsm := claims_sum hxb
  have e1 : e ≤ 8000 := by omega
  have Hxb := Lib.hid hxb
  have Hor := Lib.hid hor
  obtain ⟨_, _, hol⟩ := orderB_iff.1 hor
  have Hbd := Lib.hid (fun k => takeS_bd (os := os) he0 e1 (fun x hx => (hxb x hx)) k)
  have Hln := Lib.hid (takeS_len xs os e)
  have hF : Hid (takeF xs os e = (takeS xs os e os.length).1) := rfl
  rw [hol]
  rw [hol] at hF
  have Hol := Lib.hid hol
  clear h' g' hB hC hv hxb hor hsm he1 hol
  go_enter Try.func73, Try.ntmps73
  go_wp2_with (at_make; refine wpList_make_blk _ rfl _ _ 22 rfl 2 (.int .i64 0) 8 Try.underlying22 info_i64p rfl _ _ xs.length rfl rfl (by omega) (by unfold maxLen; omega) ?_)
  intro w1 hb1 hw1 _
  rw [ints_replicate] at hb1
  go_wp2_with fail
  go_loopw [15, 1] (fun i ev wr => ∃ k : Nat, k ≤ xs.length ∧ i = .int .i64 k ∧ ev = .int .i64 (takeS xs os e k).2 ∧ Blk wr w.heap.size (ints (takeS xs os e k).1) 2 ∧ Below w.heap.size w wr) (fun i _ _ => xs.length - (intOf i).toNat)
  case atStart => exact ⟨0, Nat.zero_le _, rfl, rfl, hb1, hw1⟩
  case round =>
    clear hb1 hw1
    obtain ⟨k, hk, rfl, rfl, hb, hw⟩ := hrel
    by_cases hlt : k < xs.length
    · obtain ⟨q, hq, hqn⟩ := order_get Hor.out hlt
      obtain ⟨b2, o2, y, rfl, _, hc2, hy⟩ := (g.below hw (Nat.le_refl _)).get (k := k) (by rw [Hol.out]; exact hlt)
      have hyq := hy.out
      rw [hq] at hyq
      injection hyq with hyq
      subst hyq
      obtain ⟨b1, o1, hax, hbb, hcell⟩ := (h.below hw (Nat.le_refl _)).at (k := q) hqn
      subst hax
      have hcq := hcell q hqn
      have hxq := Hxb.out _ (List.mem_of_getElem? (get_of_lt hqn))
      have hS1 : Hid ((takeS xs os e (k + 1)).1 = (takeS xs os e k).1.set q (min (xs.getD q 0) (takeS xs os e k).2)) := by
        show ((takeS xs os e k).1.set (os.getD k 0).toNat _) = _
        rw [getD_of_get hq, Int.toNat_natCast]
      have hS2 : Hid ((takeS xs os e (k + 1)).2 = (takeS xs os e k).2 - min (xs.getD q 0) (takeS xs os e k).2) := by
        show (takeS xs os e k).2 - min (xs.getD (os.getD k 0).toNat 0) _ = _
        rw [getD_of_get hq, Int.toNat_natCast]
      obtain ⟨⟨p0, p1⟩, _⟩ := Hbd.out k
      have hlk := Hln.out k
      generalize (takeS xs os e k).2 = ev at *
      generalize (takeS xs os e k).1 = ot at *
      generalize xs.getD q 0 = xq at *
      obtain ⟨x0, x1⟩ := hxq
      obtain ⟨mn, hmn⟩ : ∃ mn, mn = min xq ev := ⟨_, rfl⟩
      have hm1 : mn ≤ ev ∧ 0 ≤ mn ∧ mn ≤ xq := by omega
      rw [← hmn] at hS1 hS2
      have Hmn := Lib.hid hmn
      have hfr := hb.free q
      obtain ⟨old, hold⟩ := hb.has (j := q) (by rw [ints_length, hlk]; exact hqn)
      have hset := hb.setI q mn
      rw [← hS1.out] at hset
      have hbel := below_sto hw (Nat.le_refl _) q (.int .i64 mn)
      have hcell2 := hset.cell q
      rw [hS1.out] at hcell2
      have e3 : (ints (ot.set q mn))[q]? = some (.int .i64 mn) := by
        rw [ints_set, List.getElem?_set_self (by rw [ints_length, hlk]; exact hqn)]
      rw [e3] at hcell2
      obtain ⟨hm11, hm12, hm13⟩ := hm1
      clear hb hw h g hq hy hcell hlk e3 hmn
      have L := Lib.hid (fun v => l00Min_any xq ev v)
      rw [← Hmn.out] at L
      go_wp2_with (go_at_call 124; refine (L.out _).mono ?_; rintro e' w' ⟨rfl, rfl⟩)
      go_roundw
      case rel => exact ⟨k + 1, by omega, by go_num, by rw [hS2.out] <;> simp, hset, hbel⟩
      case measure => simp [intOf]; omega
    · have : k = xs.length := by omega
      subst this
      rw [← hF.out] at hb
      have hfl : (takeF xs os e).length = xs.length := by rw [hF.out]; exact Hln.out _
      have hR : OwnI 2 wr w.heap.size wr.heap.size (some ⟨w.heap.size, 0, none⟩) xs.length (takeF xs os e) := by
        have := (OwnI.of_blk hb (by rw [hfl]; omega)).mono (Nat.le_refl _) (hi' := wr.heap.size) (by have := hb.lt; omega)
        rwa [hfl] at this
      have HR := Lib.hid hR
      clear hR hb hfl
      go_wp2_with fail
      go_ret
      exact ⟨_, _, rfl, HR.out, hw⟩
set_option maxHeartbeats 2000000 in
theorem inOrder_any (w : World) (B C : Nat) (a ao : Option Addr) (c co : Nat) (xs os : List Int) (e : Int) (h' : Rd w B a (ints xs)) (g' : Rd w C ao (ints os)) (hB : B ≤ w.heap.size) (hC : C ≤ w.heap.size) (hv : claimsB xs e = true) (hor : orderB os xs.length = true) :
    Calls Try.prog 76 #[.slice a xs.length c, .int .i64 e, .slice ao os.length co] w fun e' w' => ∃ a' c', e' = .returned (.slice a' xs.length c') ∧ OwnI 2 w' w.heap.size w'.heap.size a' c' (takeF xs os e) ∧ Below w.heap.size w w' := by
  have h := h'.mono hB
  have g := g'.mono hC
  obtain ⟨⟨hl1, hl2⟩, hxb, he0, he1⟩ := claimsB_iff.1 hv
  have hsm := claims_sum hxb
  have e1 : e ≤ 8000 := by omega
  have Hxb := Lib.hid hxb
  have Hor := Lib.hid hor
  obtain ⟨_, _, hol⟩ := orderB_iff.1 hor
  have Hbd := Lib.hid (fun k => takeS_bd (os := os) he0 e1 (fun x hx => (hxb x hx)) k)
  have Hln := Lib.hid (takeS_len xs os e)
  have hF : Hid (takeF xs os e = (takeS xs os e os.length).1) := rfl
  rw [hol]
  rw [hol] at hF
  have Hol := Lib.hid hol
  clear h' g' hB hC hv hxb hor hsm he1 hol
  go_enter Try.func76, Try.ntmps76
  go_wp2_with (at_make; refine wpList_make_blk _ rfl _ _ 22 rfl 2 (.int .i64 0) 8 Try.underlying22 info_i64p rfl _ _ xs.length rfl rfl (by omega) (by unfold maxLen; omega) ?_)
  intro w1 hb1 hw1 _
  rw [ints_replicate] at hb1
  go_wp2_with fail
  go_loopw [15, 1] (fun i ev wr => ∃ k : Nat, k ≤ xs.length ∧ i = .int .i64 k ∧ ev = .int .i64 (takeS xs os e k).2 ∧ Blk wr w.heap.size (ints (takeS xs os e k).1) 2 ∧ Below w.heap.size w wr) (fun i _ _ => xs.length - (intOf i).toNat)
  case atStart => exact ⟨0, Nat.zero_le _, rfl, rfl, hb1, hw1⟩
  case round =>
    clear hb1 hw1
    obtain ⟨k, hk, rfl, rfl, hb, hw⟩ := hrel
    by_cases hlt : k < xs.length
    · obtain ⟨q, hq, hqn⟩ := order_get Hor.out hlt
      obtain ⟨b2, o2, y, rfl, _, hc2, hy⟩ := (g.below hw (Nat.le_refl _)).get (k := k) (by rw [Hol.out]; exact hlt)
      have hyq := hy.out
      rw [hq] at hyq
      injection hyq with hyq
      subst hyq
      obtain ⟨b1, o1, hax, hbb, hcell⟩ := (h.below hw (Nat.le_refl _)).at (k := q) hqn
      subst hax
      have hcq := hcell q hqn
      have hxq := Hxb.out _ (List.mem_of_getElem? (get_of_lt hqn))
      have hS1 : Hid ((takeS xs os e (k + 1)).1 = (takeS xs os e k).1.set q (min (xs.getD q 0) (takeS xs os e k).2)) := by
        show ((takeS xs os e k).1.set (os.getD k 0).toNat _) = _
        rw [getD_of_get hq, Int.toNat_natCast]
      have hS2 : Hid ((takeS xs os e (k + 1)).2 = (takeS xs os e k).2 - min (xs.getD q 0) (takeS xs os e k).2) := by
        show (takeS xs os e k).2 - min (xs.getD (os.getD k 0).toNat 0) _ = _
        rw [getD_of_get hq, Int.toNat_natCast]
      obtain ⟨⟨p0, p1⟩, _⟩ := Hbd.out k
      have hlk := Hln.out k
      generalize (takeS xs os e k).2 = ev at *
      generalize (takeS xs os e k).1 = ot at *
      generalize xs.getD q 0 = xq at *
      obtain ⟨x0, x1⟩ := hxq
      obtain ⟨mn, hmn⟩ : ∃ mn, mn = min xq ev := ⟨_, rfl⟩
      have hm1 : mn ≤ ev ∧ 0 ≤ mn ∧ mn ≤ xq := by omega
      rw [← hmn] at hS1 hS2
      have Hmn := Lib.hid hmn
      have hfr := hb.free q
      obtain ⟨old, hold⟩ := hb.has (j := q) (by rw [ints_length, hlk]; exact hqn)
      have hset := hb.setI q mn
      rw [← hS1.out] at hset
      have hbel := below_sto hw (Nat.le_refl _) q (.int .i64 mn)
      have hcell2 := hset.cell q
      rw [hS1.out] at hcell2
      have e3 : (ints (ot.set q mn))[q]? = some (.int .i64 mn) := by
        rw [ints_set, List.getElem?_set_self (by rw [ints_length, hlk]; exact hqn)]
      rw [e3] at hcell2
      obtain ⟨hm11, hm12, hm13⟩ := hm1
      clear hb hw h g hq hy hcell hlk e3 hmn
      by_cases hle : xq ≤ ev
      · have : mn = xq := by have := Hmn.out; omega
        subst this
        go_wp2_with fail
        go_roundw
        case rel => exact ⟨k + 1, by omega, by go_num, by rw [hS2.out] <;> simp, hset, hbel⟩
        case measure => simp [intOf]; omega
      · have : mn = ev := by have := Hmn.out; omega
        subst this
        go_wp2_with fail
        go_roundw
        case rel => exact ⟨k + 1, by omega, by go_num, by rw [hS2.out] <;> simp, hset, hbel⟩
        case measure => simp [intOf]; omega
    · have : k = xs.length := by omega
      subst this
      rw [← hF.out] at hb
      have hfl : (takeF xs os e).length = xs.length := by rw [hF.out]; exact Hln.out _
      have hR : OwnI 2 wr w.heap.size wr.heap.size (some ⟨w.heap.size, 0, none⟩) xs.length (takeF xs os e) := by
        have := (OwnI.of_blk hb (by rw [hfl]; omega)).mono (Nat.le_refl _) (hi' := wr.heap.size) (by have := hb.lt; omega)
        rwa [hfl] at this
      have HR := Lib.hid hR
      clear hR hb hfl
      go_wp2_with fail
      go_ret
      exact ⟨_, _, rfl, HR.out, hw⟩
end Go.Proofs.Ythbclfaeplmjgaa
