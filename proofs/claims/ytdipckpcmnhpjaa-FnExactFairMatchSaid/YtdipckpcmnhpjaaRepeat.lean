/-
  The library's Repeat of a slice of one integer.
-/
import Derived.Test.YtdipckpcmnhpjaaOwn
import Derived.Test.YtdipckpcmnhpjaaBase
import Derived.Test.YtdipckpcmnhpjaaShelf
import Derived.Laws.CopyOwn
import Derived.Deep.RegionLaw
namespace Go.Proofs.Ytdipckpcmnhpjaa
set_option linter.unusedVariables false
set_option linter.unusedSimpArgs false
open Go.RowKit

theorem splice_rep (x : Int) (n k m : Nat) (h : k + m ≤ n) : splice (ints (List.replicate k x ++ List.replicate (n - k) 0)) k (ints (List.replicate m x)) = ints (List.replicate (k + m) x ++ List.replicate (n - (k + m)) 0) := by
  unfold splice
  simp only [ints, List.map_append, List.map_replicate, List.length_replicate]
  rw [List.take_append_of_le_length (by simp), List.take_of_length_le (by simp), List.drop_append, List.drop_of_length_le (by simp)]
  simp only [List.length_replicate, List.nil_append, List.drop_replicate, ← List.append_assoc, List.replicate_append_replicate]
  congr 2
  omega
theorem rep_get (x : Int) (k m j : Nat) (hj : j < k) : (ints (List.replicate k x ++ List.replicate m 0))[j]? = some (.int .i64 x) := by
  simp [ints, List.getElem?_append_left, hj]
theorem src_rep {w : World} {b o m : Nat} {x : Int} (hc : ∀ j, j < m → w.cell? ⟨b, o + j, none⟩ = some (.int .i64 x)) : ∀ j v, (ints (List.replicate m x))[j]? = some v → w.cell? ((⟨b, o, none⟩ : Addr).add j) = some v := by
  intro j v hj
  have hlt : j < m := by have := (List.getElem?_eq_some_iff.1 hj).1; simpa using this
  have ea : (⟨b, o, none⟩ : Addr).add j = ⟨b, o + j, none⟩ := by unfold Addr.add; split <;> simp_all
  rw [ea, hc j hlt, ← hj]
  simp [ints, hlt]
theorem src_pos {w : World} {b o m g k : Nat} {x : Int} (hc : ∀ j, j < m → w.cell? ⟨b, o + j, none⟩ = some (.int .i64 x)) : 0 < (ints (List.replicate m x)).length → (some ⟨g, k, none⟩ : Option Addr) = some ⟨g, k, none⟩ ∧ ∃ ad, (some ⟨b, o, none⟩ : Option Addr) = some ad ∧ ∀ j v, (ints (List.replicate m x))[j]? = some v → w.cell? (ad.add j) = some v :=
  fun _ => ⟨rfl, _, rfl, src_rep hc⟩
theorem one_rep (m : Nat) (x : Int) : ∀ v ∈ ints (List.replicate m x), v.oneCell' = true := by
  intro v hv
  obtain ⟨y, _, rfl⟩ := List.mem_map.1 hv
  rfl
theorem mul_one (n : Nat) (hn : n ≤ 1048576) (w : World) : Calls Try.prog 121 #[.int .u64 1, .int .u64 n] w fun e w' => e = .returned (.tuple #[.int .u64 0, .int .u64 n]) ∧ w = w' := by
  refine (Try.bits_Mul 1 n (by omega) (by omega) w).mono ?_
  rintro e w' ⟨h1, h2⟩
  rw [h1, h2]
  refine ⟨?_, rfl⟩
  have e1 : 1 * n / 18446744073709551616 = 0 := by omega
  have e2 : 1 * n % 18446744073709551616 = n := by omega
  rw [e1, e2]
  rfl
set_option maxRecDepth 10000 in
set_option maxHeartbeats 4000000 in
theorem repeat_any (w : World) (b : Nat) (x : Int) (n : Nat) (h : w.cell? ⟨b, 0, none⟩ = some (.int .i64 x)) (hb : b < w.heap.size) (h1 : 1 ≤ n) (hn : n ≤ 1048576) :
    Calls Try.prog 111 #[.slice (some ⟨b, 0, none⟩) 1 1, .int .i64 n] w fun e w' => e = .returned (.slice (some ⟨w.heap.size, 0, none⟩) n n) ∧ Blk w' w.heap.size (ints (List.replicate n x)) 2 ∧ Below w.heap.size w w' := by
  have LM := Lib.hid (mul_one n hn)
  go_enter Try.func111, Try.ntmps111
  go_wp2_with fail
  refine (LM.out _).mono ?_
  rintro e w1 ⟨rfl, rfl⟩
  clear LM
  go_wp2_with (at_make; refine wpList_make_blk _ rfl _ _ 25 rfl 2 (.int .i64 0) 8 Try.underlying25 info_i64p rfl _ _ n rfl rfl (by omega) (by unfold maxLen; omega) ?_)
  intro w1 hb1 hw1 hs1
  have hc1 := (hw1.cell (p := ⟨b, 0, none⟩) hb).trans h
  have hb1' : Blk w1 w.heap.size (ints (List.replicate 0 x ++ List.replicate (n - 0) 0)) 2 := by simpa [ints_replicate] using hb1
  clear h hb1
  have HP : Hid (∀ j, j < 1 → w1.cell? ⟨b, 0 + j, none⟩ = some (.int .i64 x)) := (fun j hj => by
    have : j = 0 := by omega
    subst this; exact hc1)
  have HM : Hid ((ints (List.replicate 1 x)).length = Nat.min 1 n) := by
    show _ = _
    rw [ints_length, List.length_replicate]; exact (Nat.min_eq_left h1).symm
  have HF : Hid (0 + (ints (List.replicate 1 x)).length ≤ (ints (List.replicate 0 x ++ List.replicate (n - 0) 0)).length) := by
    show _ ≤ _
    simp only [ints_length, List.length_append, List.length_replicate]; omega
  have HO := Lib.hid (one_rep 1 x)
  go_wp2_with (refine wpList_copy_splice (o := ⟨some 33, _, _, _, _, _⟩) rfl (.tmp 31) (.tmp 32) 25 25 rfl 2 Try.underlying25 (by kernel_rfl) (some ⟨w.heap.size, 0, none⟩) (some ⟨b, 0, none⟩) n n 1 1 rfl rfl w.heap.size 0 _ 2 hb1' (ints (List.replicate 1 x)) HM.out (src_pos HP.out) HF.out HO.out w.heap.size w hw1 (Nat.le_refl _) ?_)
  intro w2 hg2 hb2
  have hB2 : Blk w2 w.heap.size (ints (List.replicate 1 x ++ List.replicate (n - 1) 0)) 2 := by
    have h2 := hg2.out
    have e := splice_rep x n 0 1 (by omega)
    have e0 : List.replicate 0 x ++ List.replicate (n - 0) (0 : Int) = List.replicate n 0 := by simp
    have e1 : List.replicate 1 x = [x] := rfl
    rw [e0, e1, Nat.zero_add] at e
    rw [e] at h2
    exact h2
  clear hg2 hb1' hc1 hw1
  go_wp2_with fail
  go_loopw [8] (fun kv wr => ∃ k : Nat, 1 ≤ k ∧ k ≤ n ∧ kv = .int .i64 k ∧ Blk wr w.heap.size (ints (List.replicate k x ++ List.replicate (n - k) 0)) 2 ∧ Below w.heap.size w wr) (fun kv _ => n - (intOf kv).toNat)
  case atStart => exact ⟨1, Nat.le_refl _, h1, rfl, hB2, hb2⟩
  case round =>
    clear hB2 hb2
    obtain ⟨k, hk1, hk, rfl, hB, hw⟩ := hrel
    by_cases hlt : k < n
    · obtain ⟨m, hm⟩ : ∃ m, m = Nat.min k (n - k) := ⟨_, rfl⟩
      have hm1 : 1 ≤ m := by rw [hm]; simp only [Nat.min_def]; split <;> omega
      have hm2 : k + m ≤ n := by rw [hm]; simp only [Nat.min_def]; split <;> omega
      have hmk : m ≤ k := by rw [hm]; exact Nat.min_le_left _ _
      have Hm : Hid (m = Nat.min k (n - k)) := hm
      have HS := Lib.hid (splice_rep x n k m hm2)
      have hdrew := below_drew' hw
      have hnk : ¬ n = k := by omega
      have k0 : (0 : Int) ≤ (k : Int) := Int.natCast_nonneg _
      have k2 : (k : Int) ≤ (n : Int) := by omega
      clear hm
      have hwp : IntKind.i64.wrap ((k : Int) + (m : Int)) = (k : Int) + (m : Int) := IntWalk.i64_in _ (by omega)
      have HP : Hid (∀ j, j < m → wr.drew.cell? ⟨w.heap.size, 0 + j, none⟩ = some (.int .i64 x)) := (fun j hj => by
        rw [Nat.zero_add, show wr.drew.cell? ⟨w.heap.size, j, none⟩ = _ from Blk.cell (w := wr.drew) hB j]; exact rep_get x k _ j (by omega))
      have HM : Hid ((ints (List.replicate m x)).length = Nat.min k (n - k)) := by
        show _ = _
        rw [ints_length, List.length_replicate]; exact Hm.out
      have HF : Hid (k + (ints (List.replicate m x)).length ≤ (ints (List.replicate k x ++ List.replicate (n - k) 0)).length) := by
        show _ ≤ _
        simp only [ints_length, List.length_append, List.length_replicate]; omega
      have HO := Lib.hid (one_rep m x)
      have hB1 : Hid (Blk wr.drew w.heap.size (ints (List.replicate k x ++ List.replicate (n - k) 0)) 2) := hB
      go_wp2_with fail
      go_region_law (refine step_copy_splice (by rfl) (.tmp 41) (.tmp 44) 25 25 (by rfl) 2 Try.underlying25 (by kernel_rfl) (some ⟨w.heap.size, k, none⟩) (some ⟨w.heap.size, 0, none⟩) (n - k) (n - k) k n (by simp [Act.eval, Act.put]) (by simp [Act.eval, Act.put]) w.heap.size k _ 2 hB1.out (ints (List.replicate m x)) HM.out (src_pos HP.out) HF.out HO.out w.heap.size w hdrew (Nat.le_refl _) ?_; intro w4 hg4 hb4)
      all_goals
        have hB4 : Blk w4 w.heap.size (ints (List.replicate (k + m) x ++ List.replicate (n - (k + m)) 0)) 2 := by
          have h2 := hg4.out
          rw [HS.out] at h2
          exact h2
        have hl : Hid ((ints (List.replicate m x)).length = m) := by show _ = _; simp
        clear hB hw hdrew hg4
        try simp only [hwp]
        go_simp
        go_wp2_with fail
        go_roundw
        case rel => exact ⟨k + m, by omega, hm2, by go_num, hB4, hb4⟩
        case measure => simp [intOf]; omega
    · have : k = n := by omega
      subst this
      have hB2 : Blk wr w.heap.size (ints (List.replicate k x)) 2 := by simpa using hB
      clear hB
      go_wp2_with fail
      go_ret
      exact ⟨rfl, hB2, hw⟩
theorem none_any (w : World) (n : Nat) (h1 : 1 ≤ n) (hn : n ≤ 1048576) :
    Calls Try.prog 79 #[.int .i64 n] w fun e w' => e = .returned (.slice (some ⟨w.heap.size + 1, 0, none⟩) n n) ∧ Blk w' (w.heap.size + 1) (ints (List.replicate n (-1))) 2 ∧ Below w.heap.size w w' := by
  have LR := Lib.hid (repeat_any (w.alloc (.cells #[.int .i64 (-1)] 2)) w.heap.size (-1) n ((Blk.new w [.int .i64 (-1)] 2).cell 0) (by simp) h1 hn)
  go_enter Try.func79, Try.ntmps79
  go_wp2_with fail
  refine LR.out.mono ?_
  rintro e w1 ⟨rfl, hb, hw⟩
  rw [World.size_alloc] at hb hw
  have hB := (bl1 w (.cells #[.int .i64 (-1)] 2)).trans (hw.mono (Nat.le_succ _))
  clear hw
  go_wp2_with fail
  go_ret
  exact ⟨by simp, hb, hB⟩
end Go.Proofs.Ytdipckpcmnhpjaa
