/-
  What the law's helpers on lists of integers compute: copy, compare, mark, look whether marks are held, count.
-/
import Derived.Test.YtiimhpopcgiejaaDoorRows
import Derived.Test.YtiimhpopcgiejaaDoorOwn
namespace Go.Proofs.YtiimhpopcgiejaaDoor
set_option linter.unusedVariables false
set_option linter.unusedSimpArgs false
open Go.RowKit

theorem info_i64 : (Tryd.prog.info? 2).map (fun i => (i.zero, i.size, i.bytes)) = some (some (.int .i64 0), 1, 8) := by kernel_rfl

set_option maxHeartbeats 400000 in
theorem eqInt64S_any (w : World) (a b : Option Addr) (c d : Nat) (xs ys : List Int) (hx : Rd w w.heap.size a (ints xs)) (hy : Rd w w.heap.size b (ints ys)) (hlx : xs.length ≤ 1099511627776) (hly : ys.length ≤ 1099511627776) :
    Calls Tryd.prog 45 #[.slice a xs.length c, .slice b ys.length d] w fun e w' => e = .returned (.bool (decide (xs = ys))) ∧ ∃ n, w' = w.drewN n := by
  by_cases hlen : xs.length = ys.length
  · have hb1 : ((xs.length : Int) != (ys.length : Int)) = false := by simp [hlen]
    go_enter Tryd.func45, Tryd.ntmps45
    go_wp2
    go_loopw [5] (fun i wr => ∃ k n : Nat, k ≤ xs.length ∧ i = .int .i64 k ∧ xs.take k = ys.take k ∧ wr = w.drewN n) (fun i _ => xs.length - (intOf i).toNat)
    case atStart => exact ⟨0, 0, Nat.zero_le _, rfl, rfl, rfl⟩
    case round =>
      obtain ⟨k, n, hk, rfl, htk', rfl⟩ := hrel
      have htk := Lib.hid htk'
      clear htk'
      by_cases hlt : k < xs.length
      · obtain ⟨b1, o1, x, rfl, _, hcx, hx'⟩ := hx.get hlt
        obtain ⟨b2, o2, y, rfl, _, hcy, hy'⟩ := hy.get (k := k) (by omega)
        have hlt2 : k < ys.length := by omega
        clear hx hy
        by_cases hxy : x = y
        · subst hxy
          go_wp2
          go_quiet (fail)
          go_wp2
          go_roundw
          case rel => exact ⟨k + 1, n + nq, by omega, by go_num, (take_eq_succ hx'.out hy'.out htk.out).2 rfl, by first | rfl | exact World.drewN_drewN _ _ _⟩
          case measure => simp [intOf]; omega
        · have hne : (x != y) = true := by simp [hxy]
          go_wp2
          go_quiet (fail)
          go_wp2
          go_ret
          exact ⟨ret_bool (by simp [ne_of_get hx'.out hy'.out hxy]), n + nq, by first | rfl | exact World.drewN_drewN _ _ _⟩
      · have : k = xs.length := by omega
        subst this
        go_wp2
        go_ret
        exact ⟨ret_bool (by have := htk.out; rw [List.take_length, hlen, List.take_length] at this; simp [this]), _, rfl⟩
  · have hb1 : ((xs.length : Int) != (ys.length : Int)) = true := by simp; omega
    go_enter Tryd.func45, Tryd.ntmps45
    go_wp2
    go_ret
    exact ⟨ret_bool (by have : xs ≠ ys := fun e => hlen (by rw [e])
                        simp [this]), 0, rfl⟩

def szF (left : Int) (n : Nat) : Int := if left < n then -1 else left - n

/-- What the marks are: k, k + 1, and so on. -/
def marks (n : Nat) (k : Int) : List Int := (List.range n).map fun (i : Nat) => k + (i : Int)
@[simp] theorem marks_length (n : Nat) (k : Int) : (marks n k).length = n := by simp [marks]
theorem marks_get (n : Nat) (k : Int) (i : Nat) (h : i < n) : (marks n k)[i]? = some (k + i) := by simp [marks, h]

theorem mark_step (xs : List Int) (rest : List Value) (k : Int) (j : Nat) (h : j < xs.length) :
    (ints ((marks j k) ++ xs.drop j) ++ rest).set j (.int .i64 (k + j)) = ints (marks (j + 1) k ++ xs.drop (j + 1)) ++ rest := by
  rw [List.set_append_left _ _ (by simp; omega), ← ints_set, List.set_append_right _ _ (by simp), marks_length, Nat.sub_self, List.drop_eq_getElem_cons h, List.set_cons_zero]
  simp [marks, List.range_succ]

set_option maxHeartbeats 400000 in
theorem markInt64S_blk (w : World) (g c T : Nat) (xs : List Int) (rest : List Value) (k : Int) (h : Blk w g (ints xs ++ rest) T) (hl : xs.length ≤ 1073741824) (hk0 : -1073741824 ≤ k) (hk : k ≤ 1152921504606846976) :
    Calls Tryd.prog 46 #[.slice (some ⟨g, 0, none⟩) xs.length c, .int .i64 k] w fun e w' => e = .returned (.int .i64 (k + xs.length)) ∧ Blk w' g (ints (marks xs.length k) ++ rest) T ∧ w.grownBy w' (some g) := by
  go_enter Tryd.func46, Tryd.ntmps46
  go_wp2
  go_loopw [1, 5] (fun kk i wr => ∃ j : Nat, j ≤ xs.length ∧ i = .int .i64 j ∧ kk = .int .i64 (k + j) ∧ Blk wr g (ints (marks j k ++ xs.drop j) ++ rest) T ∧ w.grownBy wr (some g)) (fun _ i _ => xs.length - (intOf i).toNat)
  case atStart => exact ⟨0, Nat.zero_le _, rfl, by go_num, by simpa [marks] using h, World.grownBy.refl _ _⟩
  case round =>
    obtain ⟨j, hj, rfl, rfl, hb, hw⟩ := hrel
    by_cases hlt : j < xs.length
    · have hfr := hb.free j
      obtain ⟨old, hcell⟩ := hb.has (j := j) (by simp; omega)
      have hset := hb.set j (.int .i64 (k + j))
      rw [mark_step xs rest k j hlt] at hset
      have hgr := (show wr.grownBy (wr.setCell ⟨g, j, none⟩ (.int .i64 (k + j))) (some g) from ⟨rfl, rfl, rfl, by simp, fun i _ hi => Below.heap_setCell _ _ _ _ (fun e => hi (by simp [e]))⟩)
      have hgr' := grown_of_grown hw hgr
      clear hb hw hgr h
      go_wp2
      go_roundw
      case rel => exact ⟨j + 1, by omega, by go_num, by go_num, hset, hgr'⟩
      case measure => simp [intOf]; omega
    · have : j = xs.length := by omega
      subst this
      rw [List.drop_length, List.append_nil] at hb
      go_wp2
      go_ret
      exact ⟨rfl, hb, hw⟩

theorem markInt64S_nil (w : World) (k : Int) :
    Calls Tryd.prog 46 #[.slice none 0 0, .int .i64 k] w fun e w' => e = .returned (.int .i64 k) ∧ w = w' := by
  go_enter Tryd.func46, Tryd.ntmps46
  go_wp2
  refine wp_loop_rounds 1 ?_
  rw [rounds_succ]
  go_wp2
  go_ret
  exact ⟨rfl, rfl⟩

set_option maxHeartbeats 400000 in
theorem heldInt64S_marks (w : World) (a : Option Addr) (c n : Nat) (k : Int) (h : Rd w w.heap.size a (ints (marks n k))) (hl : n ≤ 1073741824) (hk0 : -1073741824 ≤ k) (hk : k ≤ 1152921504606846976) :
    Calls Tryd.prog 47 #[.slice a n c, .int .i64 k] w fun e w' => e = .returned (.int .i64 (k + n)) ∧ w = w' := by
  go_enter Tryd.func47, Tryd.ntmps47
  go_wp2
  go_loop [1, 5] (fun kk i => ∃ j : Nat, j ≤ n ∧ i = .int .i64 j ∧ kk = .int .i64 (k + j)) (fun _ i => n - (intOf i).toNat)
  case atStart => exact ⟨0, Nat.zero_le _, rfl, by go_num⟩
  case round =>
    obtain ⟨j, hj, rfl, rfl⟩ := hrel
    by_cases hlt : j < n
    · obtain ⟨b, o, x, rfl, hbb, hck, hx⟩ := h.get (k := j) (by simpa using hlt)
      have hx' := hx.out
      rw [marks_get n k j hlt] at hx'
      injection hx' with hx'
      subst hx'
      clear hx h
      have hb1 : (k + (j : Int) != k + (j : Int)) = false := by simp
      go_wp2
      go_round
      case rel => exact ⟨j + 1, by omega, by go_num, by go_num⟩
      case measure => simp [intOf]; omega
    · have : j = n := by omega
      subst this
      go_wp2
      go_ret
      exact ⟨rfl, rfl⟩

/-! In terms of stretches. -/
theorem lawEq_I (w : World) (B C : Nat) (a b : Option Addr) (c d : Nat) (xs ys : List Int) (hx : Rd w B a (ints xs)) (hy : Rd w C b (ints ys)) (hB : B ≤ w.heap.size) (hC : C ≤ w.heap.size) (hlx : xs.length ≤ 1073741824) (hly : ys.length ≤ 1073741824) :
    Calls Tryd.prog 45 #[.slice a xs.length c, .slice b ys.length d] w fun e w' => e = .returned (.bool (decide (xs = ys))) ∧ Below w.heap.size w w' :=
  (eqInt64S_any w a b c d xs ys (hx.mono hB) (hy.mono hC) (by omega) (by omega)).mono fun e w' ⟨h1, n, h2⟩ => ⟨h1, by rw [h2]; exact drewN_below w n⟩
theorem lawEq_I' (w : World) (B C : Nat) (a b : Option Addr) (c d : Nat) (xs : List Int) (hx : Rd w B a (ints xs)) (hy : Rd w C b (ints xs)) (hB : B ≤ w.heap.size) (hC : C ≤ w.heap.size) (hlx : xs.length ≤ 1073741824) :
    Calls Tryd.prog 45 #[.slice a xs.length c, .slice b xs.length d] w fun e w' => e = .returned (.bool true) ∧ Below w.heap.size w w' :=
  (lawEq_I w B C a b c d xs xs hx hy hB hC hlx hlx).mono fun e w' ⟨h1, h2⟩ => ⟨by simpa using h1, h2⟩
theorem lawMark_I (w : World) (lo hi : Nat) (a : Option Addr) (c : Nat) (xs : List Int) (k : Int) (h : OwnI 2 w lo hi a c xs) (hl : xs.length ≤ 1073741824) (hk0 : -1073741824 ≤ k) (hk : k ≤ 1152921504606846976) :
    Calls Tryd.prog 46 #[.slice a xs.length c, .int .i64 k] w fun e w' => e = .returned (.int .i64 (k + xs.length)) ∧ OwnI 2 w' lo hi a c (marks xs.length k) ∧ Touch w w' lo hi := by
  rcases h.1.2 with ⟨h2, h3⟩ | ⟨g, cap, cur, hv, hg, hh, hn, hm, hs, ht⟩
  · injection h2 with ha hx hc
    have : xs = [] := List.eq_nil_of_length_eq_zero h3
    subst this ha hc
    refine (markInt64S_nil w k).mono ?_
    rintro e w' ⟨rfl, rfl⟩
    exact ⟨ret_int (by simp), by simpa [marks] using h, Touch.refl _ _ _⟩
  · injection hv with ha hx hc
    subst ha hc
    rw [Nat.mul_one] at ht hs
    have hgh : g < hi := h.2 _ rfl
    have hb : Blk w g (ints xs ++ cur.toList.drop xs.length) 2 := by
      rw [← ht, List.take_append_drop]
      exact hh
    refine (markInt64S_blk w g c 2 xs _ k hb hl hk0 hk).mono ?_
    rintro e w' ⟨rfl, hb', hgr⟩
    refine ⟨rfl, ⟨?_, h.2⟩, Touch.of_grown hgr hg hgh⟩
    rw [marks_length]
    refine ⟨by simp, .inr ⟨g, c, _, rfl, hg, hb', hn, hm, ?_, ?_⟩⟩
    · have : cur.toList.length = c := by simpa using hs
      simp only [List.size_toArray, List.length_append, ints_length, marks_length, List.length_drop, this]
      omega
    · rw [Nat.mul_one]
      exact List.take_left' (by simp)
theorem lawHeld_I (w : World) (B : Nat) (a : Option Addr) (c n : Nat) (k : Int) (h : Rd w B a (ints (marks n k))) (hB : B ≤ w.heap.size) (hl : n ≤ 1073741824) (hk0 : -1073741824 ≤ k) (hk : k ≤ 1152921504606846976) :
    Calls Tryd.prog 47 #[.slice a n c, .int .i64 k] w fun e w' => e = .returned (.int .i64 (k + n)) ∧ Below w.heap.size w w' :=
  (heldInt64S_marks w a c n k (h.mono hB) hl hk0 hk).mono fun e w' ⟨h1, h2⟩ => ⟨h1, h2 ▸ Below.refl _ _⟩
/-- A call that answers with a new list or with a no, in terms of stretches. -/
theorem flat_of {f : Nat} {args : Array Value} {w : World} {T : Nat} {r : Option (List Int)} (h : Calls Tryd.prog f args w (RetI T w r)) :
    Calls Tryd.prog f args w fun e w' => ∃ a c, e = .returned (.tuple #[.slice a (r.getD []).length c, .bool r.isSome]) ∧ OwnI T w' w.heap.size w'.heap.size a c (r.getD []) ∧ Below w.heap.size w w' :=
  h.mono fun e w' hR => let ⟨hb, a, c, he, ho⟩ := hR.flat; ⟨a, c, he, OwnI.of_own ho, hb⟩
end Go.Proofs.YtiimhpopcgiejaaDoor
