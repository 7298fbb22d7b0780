/-
  The law's helpers on the desk at the beginning.
-/
import Derived.Test.YtdmeegfdmdbkiaaDeskN
namespace Go.Proofs.Ytdmeegfdmdbkiaa
set_option linter.unusedVariables false
set_option linter.unusedSimpArgs false
open Go.RowKit

theorem blk_of_own {T : TypeId} {w : World} {lo hi g c : Nat} {xs : List Int} (h : OwnI T w lo hi (some ⟨g, 0, none⟩) c xs) (hc : c = xs.length) : Blk w g (ints xs) T := by
  rcases h.1.2 with ⟨h2, h3⟩ | ⟨g', cap, cur, hv, hg, hh, hn, hm, hs, ht⟩
  · cases h2
  · injection hv with ha _ hcap
    injection ha with ha
    injection ha with ha _ _
    subst ha
    have e : cur.toList = ints xs := by
      rw [← ht, List.take_of_length_le (by rw [Array.length_toList]; omega)]
    have e2 : cur = (ints xs).toArray := by rw [← e]
    unfold Blk
    rw [hh, e2]
theorem markB (w : World) (g n : Nat) (xs : List Int) (k : Int) (h : Blk w g (ints xs) 2) (hn : n = xs.length) (hl : xs.length ≤ 1000) (hk0 : 0 ≤ k) (hk : k ≤ 1000000) :
    Calls Try.prog 53 #[.slice (some ⟨g, 0, none⟩) n n, .int .i64 k] w fun e w' => e = .returned (.int .i64 (k + n)) ∧ Blk w' g (ints (marks n k)) 2 ∧ Touch w w' g (g + 1) := by
  subst hn
  refine (lawMark_I w g (g + 1) (some ⟨g, 0, none⟩) xs.length xs k (OwnI.of_blk h (by omega)) (by omega) (by omega) (by omega)).mono ?_
  rintro e w' ⟨rfl, h2, h3⟩
  exact ⟨rfl, blk_of_own h2 (by simp [marks]), h3⟩
theorem heldB (w : World) (g n : Nat) (k : Int) (h : Blk w g (ints (marks n k)) 2) (hl : n ≤ 1000) (hk0 : 0 ≤ k) (hk : k ≤ 1000000) :
    Calls Try.prog 54 #[.slice (some ⟨g, 0, none⟩) n n, .int .i64 k] w fun e w' => e = .returned (.int .i64 (k + n)) ∧ Below w.heap.size w w' :=
  lawHeld_I w w.heap.size (some ⟨g, 0, none⟩) n n k (h.rd h.lt) (Nat.le_refl _) (by omega) (by omega) (by omega)
set_option maxRecDepth 10000 in
set_option maxHeartbeats 4000000 in
theorem markG (w : World) (g1 g2 n1 n2 : Nat) (A B : List Int) (k k1 k2 : Int) (h1 : Blk w g1 (ints A) 2) (h2 : Blk w g2 (ints B) 2) (l1 : n1 = A.length) (l2 : n2 = B.length) (m1 : n1 ≤ 100) (m2 : n2 ≤ 100) (hg : g1 < g2) (hk0 : 0 ≤ k) (hk : k ≤ 1000) (e1 : k1 = k + n1) (e2 : k2 = k1 + n2) :
    Calls Try.prog 21 #[.agg #[.int .i64 2, .int .i64 2, .slice (some ⟨g1, 0, none⟩) n1 n1, .slice (some ⟨g2, 0, none⟩) n2 n2], .int .i64 k] w fun e w' => e = .returned (.int .i64 k2) ∧ Blk w' g1 (ints (marks n1 k)) 2 ∧ Blk w' g2 (ints (marks n2 k1)) 2 ∧ Touch w w' g1 (g2 + 1) := by
  have hb := bl1 w (.cells #[.int .i64 2, .int .i64 2, .slice (some ⟨g1, 0, none⟩) n1 n1, .slice (some ⟨g2, 0, none⟩) n2 n2] 24)
  have K0 := Blk.new w [.int .i64 2, .int .i64 2, .slice (some ⟨g1, 0, none⟩) n1 n1, .slice (some ⟨g2, 0, none⟩) n2 n2] 24
  have H1 := h1.same hb
  have H2 := h2.same hb
  have lt2 := h2.lt
  have T0 : Hid (Touch w (w.alloc (.cells #[.int .i64 2, .int .i64 2, .slice (some ⟨g1, 0, none⟩) n1 n1, .slice (some ⟨g2, 0, none⟩) n2 n2] 24)) g1 (g2 + 1)) := Below.touch hb _ _
  have L1 := Lib.hid (markB _ g1 n1 A k H1 l1 (by omega) hk0 (by omega))
  rw [← e1] at L1
  have p1 : 0 ≤ k1 := by omega
  have p2 : k1 ≤ 1000000 := by omega
  have E2 := Lib.hid e2
  have HL2 := Lib.hid l2
  have HH2 := Lib.hid H2
  have HK0 := Lib.hid K0
  clear h1 h2 H1 H2 l1 l2 hb K0 e1 e2
  go_enter Try.func21, Try.ntmps21
  go_wp2_with fail
  refine L1.out.mono ?_
  rintro e w1 ⟨rfl, b1, ht1⟩
  have KA := HK0.out.touch ht1 (.inr (by omega))
  have q3 := KA.cell 3
  have B2 := HH2.out.touch ht1 (.inr (by omega))
  have L2 := Lib.hid (markB _ g2 n2 B k1 B2 HL2.out (by have := HL2.out; omega) p1 p2)
  rw [← E2.out] at L2
  have T1 := Lib.hid (T0.out.trans (ht1.mono (Nat.le_refl _) (by omega)))
  have HB1 := Lib.hid b1
  simp only [List.getElem?_cons_zero, List.getElem?_cons_succ] at q3
  clear ht1 KA B2 b1 L1
  go_wp2_with fail
  refine L2.out.mono ?_
  rintro e w2 ⟨rfl, b2, ht2⟩
  have b1 := HB1.out.touch ht2 (.inl (by omega))
  have T2 := T1.out.trans (ht2.mono (by omega) (Nat.le_refl _))
  clear ht2 L2
  go_wp2_with fail
  go_ret
  exact ⟨rfl, b1, b2, T2⟩
set_option maxRecDepth 10000 in
set_option maxHeartbeats 4000000 in
theorem heldG (w : World) (g1 g2 n1 n2 : Nat) (k k1 k2 : Int) (h1 : Blk w g1 (ints (marks n1 k)) 2) (h2 : Blk w g2 (ints (marks n2 k1)) 2) (m1 : n1 ≤ 100) (m2 : n2 ≤ 100) (hk0 : 0 ≤ k) (hk : k ≤ 1000) (e1 : k1 = k + n1) (e2 : k2 = k1 + n2) :
    Calls Try.prog 25 #[.agg #[.int .i64 2, .int .i64 2, .slice (some ⟨g1, 0, none⟩) n1 n1, .slice (some ⟨g2, 0, none⟩) n2 n2], .int .i64 k] w fun e w' => e = .returned (.int .i64 k2) ∧ Below w.heap.size w w' := by
  have hb := bl1 w (.cells #[.int .i64 2, .int .i64 2, .slice (some ⟨g1, 0, none⟩) n1 n1, .slice (some ⟨g2, 0, none⟩) n2 n2] 24)
  have K0 := Blk.new w [.int .i64 2, .int .i64 2, .slice (some ⟨g1, 0, none⟩) n1 n1, .slice (some ⟨g2, 0, none⟩) n2 n2] 24
  have L1 := Lib.hid (heldB _ g1 n1 k (h1.same hb) (by omega) hk0 (by omega))
  rw [← e1] at L1
  have HH2 := Lib.hid (h2.same hb)
  have HK0 := Lib.hid K0
  have HB := Lib.hid hb
  have p1 : 0 ≤ k1 := by omega
  have p2 : 0 ≤ k2 := by omega
  have p3 : k1 ≤ 1000000 := by omega
  have E2 := Lib.hid e2
  clear h1 h2 hb K0 e1 e2
  go_enter Try.func25, Try.ntmps25
  go_wp2_with fail
  refine L1.out.mono ?_
  rintro e w1 ⟨rfl, hb1⟩
  have q3 := (HK0.out.same hb1).cell 3
  simp only [List.getElem?_cons_zero, List.getElem?_cons_succ] at q3
  have L2 := Lib.hid (heldB _ g2 n2 k1 (HH2.out.same hb1) (by omega) p1 p3)
  rw [← E2.out] at L2
  have HB1 := Lib.hid (below_then HB.out hb1)
  clear hb1 L1
  go_wp2_with fail
  refine L2.out.mono ?_
  rintro e w2 ⟨rfl, hb2⟩
  have HB2 := below_then HB1.out hb2
  clear hb2 L2
  go_wp2_with fail
  go_ret
  exact ⟨rfl, HB2⟩
end Go.Proofs.Ytdmeegfdmdbkiaa
