/-
  The law's helpers on the desk at the beginning: values, crowds, the whole.
-/
import Derived.Test.YtdmeegfdmdbkiaaDeskL
namespace Go.Proofs.Ytdmeegfdmdbkiaa
set_option linter.unusedVariables false
set_option linter.unusedSimpArgs false
open Go.RowKit

set_option maxRecDepth 10000 in
set_option maxHeartbeats 4000000 in
theorem markC (w : World) (g1 g2 n1 n2 : Nat) (A B : List Int) (k k1 k2 : Int) (h1 : Blk w g1 (ints A) 2) (h2 : Blk w g2 (ints B) 2) (l1 : n1 = A.length) (l2 : n2 = B.length) (m1 : n1 ≤ 100) (m2 : n2 ≤ 100) (hg : g1 < g2) (hk0 : 0 ≤ k) (hk : k ≤ 1000) (e1 : k1 = k + n1) (e2 : k2 = k1 + n2) :
    Calls Try.prog 23 #[.agg #[.int .i64 2, .int .i64 2, .slice (some ⟨g1, 0, none⟩) n1 n1, .slice (some ⟨g2, 0, none⟩) n2 n2], .int .i64 k] w fun e w' => e = .returned (.int .i64 k2) ∧ Blk w' g1 (ints (marks n1 k)) 2 ∧ Blk w' g2 (ints (marks n2 k1)) 2 ∧ Touch w w' g1 (g2 + 1) := by
  have hb := bl1 w (.cells #[.int .i64 2, .int .i64 2, .slice (some ⟨g1, 0, none⟩) n1 n1, .slice (some ⟨g2, 0, none⟩) n2 n2] 28)
  have K0 := Blk.new w [.int .i64 2, .int .i64 2, .slice (some ⟨g1, 0, none⟩) n1 n1, .slice (some ⟨g2, 0, none⟩) n2 n2] 28
  have H1 := h1.same hb
  have H2 := h2.same hb
  have lt2 := h2.lt
  have T0 : Hid (Touch w (w.alloc (.cells #[.int .i64 2, .int .i64 2, .slice (some ⟨g1, 0, none⟩) n1 n1, .slice (some ⟨g2, 0, none⟩) n2 n2] 28)) g1 (g2 + 1)) := Below.touch hb _ _
  have L1 := Lib.hid (markB _ g1 n1 A k H1 l1 (by omega) hk0 (by omega))
  rw [← e1] at L1
  have p1 : 0 ≤ k1 := by omega
  have p2 : k1 ≤ 1000000 := by omega
  have E2 := Lib.hid e2
  have HL2 := Lib.hid l2
  have HH2 := Lib.hid H2
  have HK0 := Lib.hid K0
  clear h1 h2 H1 H2 l1 l2 hb K0 e1 e2
  go_enter Try.func23, Try.ntmps23
  go_wp2_with fail
  refine L1.out.mono ?_
  rintro e w1 ⟨rfl, b1, ht1⟩
  have KA := HK0.out.touch ht1 (.inr (by omega))
  have q3 := KA.cell 3
  have B2 := HH2.out.touch ht1 (.inr (by omega))
  have L2 := Lib.hid (markB _ g2 n2 B k1 B2 HL2.out (by have := HL2.out; omega) p1 p2)
  rw [← E2.out] at L2
  have T1 := Lib.hid (T0.out.trans (ht1.mono (Nat.le_refl _) (by omega)))
  have HB1 := Lib.hid b1
  simp only [List.getElem?_cons_zero, List.getElem?_cons_succ] at q3
  clear ht1 KA B2 b1 L1
  go_wp2_with fail
  refine L2.out.mono ?_
  rintro e w2 ⟨rfl, b2, ht2⟩
  have b1 := HB1.out.touch ht2 (.inl (by omega))
  have T2 := T1.out.trans (ht2.mono (by omega) (Nat.le_refl _))
  clear ht2 L2
  go_wp2_with fail
  go_ret
  exact ⟨rfl, b1, b2, T2⟩
set_option maxRecDepth 10000 in
set_option maxHeartbeats 4000000 in
theorem heldC (w : World) (g1 g2 n1 n2 : Nat) (k k1 k2 : Int) (h1 : Blk w g1 (ints (marks n1 k)) 2) (h2 : Blk w g2 (ints (marks n2 k1)) 2) (m1 : n1 ≤ 100) (m2 : n2 ≤ 100) (hk0 : 0 ≤ k) (hk : k ≤ 1000) (e1 : k1 = k + n1) (e2 : k2 = k1 + n2) :
    Calls Try.prog 27 #[.agg #[.int .i64 2, .int .i64 2, .slice (some ⟨g1, 0, none⟩) n1 n1, .slice (some ⟨g2, 0, none⟩) n2 n2], .int .i64 k] w fun e w' => e = .returned (.int .i64 k2) ∧ Below w.heap.size w w' := by
  have hb := bl1 w (.cells #[.int .i64 2, .int .i64 2, .slice (some ⟨g1, 0, none⟩) n1 n1, .slice (some ⟨g2, 0, none⟩) n2 n2] 28)
  have K0 := Blk.new w [.int .i64 2, .int .i64 2, .slice (some ⟨g1, 0, none⟩) n1 n1, .slice (some ⟨g2, 0, none⟩) n2 n2] 28
  have L1 := Lib.hid (heldB _ g1 n1 k (h1.same hb) (by omega) hk0 (by omega))
  rw [← e1] at L1
  have HH2 := Lib.hid (h2.same hb)
  have HK0 := Lib.hid K0
  have HB := Lib.hid hb
  have p1 : 0 ≤ k1 := by omega
  have p2 : 0 ≤ k2 := by omega
  have p3 : k1 ≤ 1000000 := by omega
  have E2 := Lib.hid e2
  clear h1 h2 hb K0 e1 e2
  go_enter Try.func27, Try.ntmps27
  go_wp2_with fail
  refine L1.out.mono ?_
  rintro e w1 ⟨rfl, hb1⟩
  have q3 := (HK0.out.same hb1).cell 3
  simp only [List.getElem?_cons_zero, List.getElem?_cons_succ] at q3
  have L2 := Lib.hid (heldB _ g2 n2 k1 (HH2.out.same hb1) (by omega) p1 p3)
  rw [← E2.out] at L2
  have HB1 := Lib.hid (below_then HB.out hb1)
  clear hb1 L1
  go_wp2_with fail
  refine L2.out.mono ?_
  rintro e w2 ⟨rfl, hb2⟩
  have HB2 := below_then HB1.out hb2
  clear hb2 L2
  go_wp2_with fail
  go_ret
  exact ⟨rfl, HB2⟩
set_option maxRecDepth 10000 in
set_option maxHeartbeats 4000000 in
theorem markV (w : World) (g1 n1 : Nat) (A : List Int) (k k1 : Int) (h1 : Blk w g1 (ints A) 2) (l1 : n1 = A.length) (m1 : n1 ≤ 100) (hk0 : 0 ≤ k) (hk : k ≤ 1000) (e1 : k1 = k + n1) :
    Calls Try.prog 22 #[.agg #[.int .i64 2, .int .i64 2, .slice (some ⟨g1, 0, none⟩) n1 n1], .int .i64 k] w fun e w' => e = .returned (.int .i64 k1) ∧ Blk w' g1 (ints (marks n1 k)) 2 ∧ Touch w w' g1 (g1 + 1) := by
  have hb := bl1 w (.cells #[.int .i64 2, .int .i64 2, .slice (some ⟨g1, 0, none⟩) n1 n1] 26)
  have T0 : Hid (Touch w (w.alloc (.cells #[.int .i64 2, .int .i64 2, .slice (some ⟨g1, 0, none⟩) n1 n1] 26)) g1 (g1 + 1)) := Below.touch hb _ _
  have L1 := Lib.hid (markB _ g1 n1 A k (h1.same hb) l1 (by omega) hk0 (by omega))
  rw [← e1] at L1
  clear h1 l1 hb e1
  go_enter Try.func22, Try.ntmps22
  go_wp2_with fail
  refine L1.out.mono ?_
  rintro e w1 ⟨rfl, b1, ht1⟩
  have T1 := T0.out.trans ht1
  clear ht1 L1
  go_wp2_with fail
  go_ret
  exact ⟨rfl, b1, T1⟩
set_option maxRecDepth 10000 in
set_option maxHeartbeats 4000000 in
theorem heldV (w : World) (g1 n1 : Nat) (k k1 : Int) (h1 : Blk w g1 (ints (marks n1 k)) 2) (m1 : n1 ≤ 100) (hk0 : 0 ≤ k) (hk : k ≤ 1000) (e1 : k1 = k + n1) :
    Calls Try.prog 26 #[.agg #[.int .i64 2, .int .i64 2, .slice (some ⟨g1, 0, none⟩) n1 n1], .int .i64 k] w fun e w' => e = .returned (.int .i64 k1) ∧ Below w.heap.size w w' := by
  have hb := bl1 w (.cells #[.int .i64 2, .int .i64 2, .slice (some ⟨g1, 0, none⟩) n1 n1] 26)
  have L1 := Lib.hid (heldB _ g1 n1 k (h1.same hb) (by omega) hk0 (by omega))
  rw [← e1] at L1
  have HB := Lib.hid hb
  have p1 : 0 ≤ k1 := by omega
  clear h1 hb e1
  go_enter Try.func26, Try.ntmps26
  go_wp2_with fail
  refine L1.out.mono ?_
  rintro e w1 ⟨rfl, hb1⟩
  have HB1 := below_then HB.out hb1
  clear hb1 L1
  go_wp2_with fail
  go_ret
  exact ⟨rfl, HB1⟩
set_option maxRecDepth 10000 in
set_option maxHeartbeats 4000000 in
theorem markD (w : World) (lo g1 g2 g3 g4 g5 g6 : Nat) (h : Dsk w lo g1 g2 g3 g4 g5 g6 gA gB vW cW cC tT) :
    Calls Try.prog 9 #[.agg (deskC g1 g2 g3 g4 g5 g6).toArray, .int .i64 1] w fun e w' => e = .returned (.int .i64 21) ∧ Dsk w' lo g1 g2 g3 g4 g5 g6 (marks 4 1) (marks 4 5) (marks 4 9) (marks 2 13) (marks 4 15) (mk2 19 20) ∧ Touch w w' lo (g6 + 1) := by
  have hb := bl1 w (.cells (deskC g1 g2 g3 g4 g5 g6).toArray 31)
  have K0 := Blk.new w (deskC g1 g2 g3 g4 g5 g6) 31
  have hd := h.same hb
  obtain ⟨l1, l2, l3, l4, l5, l6, l7⟩ : lo ≤ g1 ∧ g1 < g2 ∧ g2 < g3 ∧ g3 < g4 ∧ g4 < g5 ∧ g5 < g6 ∧ g6 < w.heap.size := ⟨h.l1, h.l2, h.l3, h.l4, h.l5, h.l6, h.l7⟩
  have T0 : Hid (Touch w (w.alloc (.cells (deskC g1 g2 g3 g4 g5 g6).toArray 31)) lo (g6 + 1)) := Below.touch hb _ _
  have L1 := Lib.hid (markG _ g1 g2 4 4 gA gB 1 5 9 hd.b1 hd.b2 rfl rfl (by omega) (by omega) l2 (by omega) (by omega) rfl rfl)
  have HD := Lib.hid hd
  have HK := Lib.hid K0
  have z := cells12 K0
  obtain ⟨z0, z1, z2, z3, z4, z5, z6, z7, z8, z9, z10, z11⟩ := z
  clear h hb K0 hd
  go_enter Try.func9, Try.ntmps9
  go_wp2_with fail
  refine L1.out.mono ?_
  rintro e w1 ⟨rfl, b1, b2, ht1⟩
  have HK1 := Lib.hid (HK.out.touch ht1 (.inr (by omega)))
  have b3 := HD.out.b3.touch ht1 (.inr (by omega))
  have b4 := Lib.hid (HD.out.b4.touch ht1 (.inr (by omega)))
  have b5 := Lib.hid (HD.out.b5.touch ht1 (.inr (by omega)))
  have b6 := Lib.hid (HD.out.b6.touch ht1 (.inr (by omega)))
  have L2 := Lib.hid (markV _ g3 4 vW 9 13 b3 rfl (by omega) (by omega) (by omega) rfl)
  have T1 := Lib.hid (T0.out.trans (ht1.mono (by omega) (by omega)))
  have B1 := Lib.hid b1
  have B2 := Lib.hid b2
  clear z0 z1 z2 z3 z4 z5 z6 z7 z8 z9 z10 z11 ht1 b1 b2 b3 L1
  obtain ⟨z0, z1, z2, z3, z4, z5, z6, z7, z8, z9, z10, z11⟩ := cells12 HK1.out
  go_wp2_with fail
  refine L2.out.mono ?_
  rintro e w2 ⟨rfl, b3, ht2⟩
  have HK2 := Lib.hid (HK1.out.touch ht2 (.inr (by omega)))
  have B1' := Lib.hid (B1.out.touch ht2 (.inl (by omega)))
  have B2' := Lib.hid (B2.out.touch ht2 (.inl (by omega)))
  have b4' := b4.out.touch ht2 (.inr (by omega))
  have b5' := b5.out.touch ht2 (.inr (by omega))
  have b6' := Lib.hid (b6.out.touch ht2 (.inr (by omega)))
  have L3 := Lib.hid (markC _ g4 g5 2 4 cW cC 13 15 19 b4' b5' rfl rfl (by omega) (by omega) l5 (by omega) (by omega) rfl rfl)
  have T2 := Lib.hid (T1.out.trans (ht2.mono (by omega) (by omega)))
  have B3 := Lib.hid b3
  clear z0 z1 z2 z3 z4 z5 z6 z7 z8 z9 z10 z11 ht2 b3 b4 b5 b6 b4' b5' L2 B1 B2 T1
  obtain ⟨z0, z1, z2, z3, z4, z5, z6, z7, z8, z9, z10, z11⟩ := cells12 HK2.out
  go_wp2_with fail
  refine L3.out.mono ?_
  rintro e w3 ⟨rfl, b4, b5, ht3⟩
  have HK3 := Lib.hid (HK2.out.touch ht3 (.inr (by omega)))
  have C1 := Lib.hid (B1'.out.touch ht3 (.inl (by omega)))
  have C2 := Lib.hid (B2'.out.touch ht3 (.inl (by omega)))
  have C3 := Lib.hid (B3.out.touch ht3 (.inl (by omega)))
  have L4 := Lib.hid (lawMark_F2 _ g6 0 1048576000 46 19 (by omega) (by omega) (b6'.out.touch ht3 (.inr (by omega))))
  have T3 := Lib.hid (T2.out.trans (ht3.mono (by omega) (by omega)))
  have B4 := Lib.hid b4
  have B5 := Lib.hid b5
  clear z0 z1 z2 z3 z4 z5 z6 z7 z8 z9 z10 z11 ht3 b4 b5 b6' L3 B1' B2' B3 T2
  obtain ⟨z0, z1, z2, z3, z4, z5, z6, z7, z8, z9, z10, z11⟩ := cells12 HK3.out
  go_wp2_with fail
  refine L4.out.mono ?_
  rintro e w4 ⟨rfl, b6, ht4⟩
  have D1 := C1.out.touch ht4 (.inl (by omega))
  have D2 := C2.out.touch ht4 (.inl (by omega))
  have D3 := C3.out.touch ht4 (.inl (by omega))
  have D4 := B4.out.touch ht4 (.inl (by omega))
  have D5 := B5.out.touch ht4 (.inl (by omega))
  have T4 := T3.out.trans (ht4.mono (by omega) (by omega))
  clear z0 z1 z2 z3 z4 z5 z6 z7 z8 z9 z10 z11 ht4 L4
  go_wp2_with fail
  go_ret
  exact ⟨rfl, ⟨l1, l2, l3, l4, l5, l6, b6.lt, D1, D2, D3, D4, D5, b6⟩, T4⟩
set_option maxRecDepth 10000 in
set_option maxHeartbeats 4000000 in
theorem heldD (w : World) (lo g1 g2 g3 g4 g5 g6 : Nat) (h : Dsk w lo g1 g2 g3 g4 g5 g6 (marks 4 1) (marks 4 5) (marks 4 9) (marks 2 13) (marks 4 15) (mk2 19 20)) :
    Calls Try.prog 10 #[.agg (deskC g1 g2 g3 g4 g5 g6).toArray, .int .i64 1] w fun e w' => e = .returned (.int .i64 21) ∧ Below w.heap.size w w' := by
  have hb := bl1 w (.cells (deskC g1 g2 g3 g4 g5 g6).toArray 31)
  have K0 := Blk.new w (deskC g1 g2 g3 g4 g5 g6) 31
  have HD0 := Lib.hid (h.same hb)
  have HK0 := Lib.hid K0
  have H0 := Lib.hid hb
  have L1 := Lib.hid (heldG _ g1 g2 4 4 1 5 9 HD0.out.b1 HD0.out.b2 (by omega) (by omega) (by omega) (by omega) rfl rfl)
  obtain ⟨z0, z1, z2, z3, z4, z5, z6, z7, z8, z9, z10, z11⟩ := cells12 K0
  clear h hb K0
  go_enter Try.func10, Try.ntmps10
  go_wp2_with fail
  refine L1.out.mono ?_
  rintro e w1 ⟨rfl, hb⟩
  have HD1 := Lib.hid (HD0.out.same hb)
  have HK1 := Lib.hid (HK0.out.same hb)
  have H1 := Lib.hid (below_then H0.out hb)
  have L2 := Lib.hid (heldV _ g3 4 9 13 HD1.out.b3 (by omega) (by omega) (by omega) rfl)
  clear z0 z1 z2 z3 z4 z5 z6 z7 z8 z9 z10 z11 hb L1 HD0 HK0 H0
  obtain ⟨z0, z1, z2, z3, z4, z5, z6, z7, z8, z9, z10, z11⟩ := cells12 HK1.out
  go_wp2_with fail
  refine L2.out.mono ?_
  rintro e w2 ⟨rfl, hb⟩
  have HD2 := Lib.hid (HD1.out.same hb)
  have HK2 := Lib.hid (HK1.out.same hb)
  have H2 := Lib.hid (below_then H1.out hb)
  have L3 := Lib.hid (heldC _ g4 g5 2 4 13 15 19 HD2.out.b4 HD2.out.b5 (by omega) (by omega) (by omega) (by omega) rfl rfl)
  clear z0 z1 z2 z3 z4 z5 z6 z7 z8 z9 z10 z11 hb L2 HD1 HK1 H1
  obtain ⟨z0, z1, z2, z3, z4, z5, z6, z7, z8, z9, z10, z11⟩ := cells12 HK2.out
  go_wp2_with fail
  refine L3.out.mono ?_
  rintro e w3 ⟨rfl, hb⟩
  have HD3 := Lib.hid (HD2.out.same hb)
  have HK3 := Lib.hid (HK2.out.same hb)
  have H3 := Lib.hid (below_then H2.out hb)
  have L4 := Lib.hid (lawHeld_F2 _ g6 46 HD3.out.b6)
  clear z0 z1 z2 z3 z4 z5 z6 z7 z8 z9 z10 z11 hb L3 HD2 HK2 H2
  obtain ⟨z0, z1, z2, z3, z4, z5, z6, z7, z8, z9, z10, z11⟩ := cells12 HK3.out
  go_wp2_with fail
  refine L4.out.mono ?_
  rintro e w4 ⟨rfl, rfl⟩
  have H4 := H3.out
  clear z0 z1 z2 z3 z4 z5 z6 z7 z8 z9 z10 z11 L4
  go_wp2_with fail
  go_ret
  exact ⟨rfl, H4⟩
theorem desk2 (w : World) (u v : List Value) (t : TypeId) : Blk ((w.alloc (.cells u.toArray t)).alloc (.cells v.toArray t)) w.heap.size u t ∧ Blk ((w.alloc (.cells u.toArray t)).alloc (.cells v.toArray t)) (w.heap.size + 1) v t := by
  refine ⟨(Blk.new w u t).alloc _, ?_⟩
  have := Blk.new (w.alloc (.cells u.toArray t)) v t
  simpa using this
set_option maxRecDepth 10000 in
set_option maxHeartbeats 4000000 in
theorem eqD (w : World) (lo g1 g2 g3 g4 g5 g6 lo' h1 h2 h3 h4 h5 h6 : Nat) (h : Dsk w lo g1 g2 g3 g4 g5 g6 gA gB vW cW cC tT) (k : Dsk w lo' h1 h2 h3 h4 h5 h6 gA gB vW cW cC tT) :
    Calls Try.prog 8 #[.agg (deskC g1 g2 g3 g4 g5 g6).toArray, .agg (deskC h1 h2 h3 h4 h5 h6).toArray] w fun e w' => e = .returned (.bool true) ∧ Below w.heap.size w w' := by
  have hb := bl2 w (.cells (deskC g1 g2 g3 g4 g5 g6).toArray 31) (.cells (deskC h1 h2 h3 h4 h5 h6).toArray 31)
  obtain ⟨K0, J0⟩ := desk2 w (deskC g1 g2 g3 g4 g5 g6) (deskC h1 h2 h3 h4 h5 h6) 31
  have HD0 := Lib.hid (h.same hb)
  have HE0 := Lib.hid (k.same hb)
  have HK0 := Lib.hid K0
  have HJ0 := Lib.hid J0
  have H0 := Lib.hid hb
  have L1 := Lib.hid (lawEq_Game _ _ _ 2 2 (some ⟨g1, 0, none⟩) (some ⟨h1, 0, none⟩) 4 4 gA (some ⟨g2, 0, none⟩) (some ⟨h2, 0, none⟩) 4 4 gB ⟨HD0.out.b1.rd HD0.out.b1.lt, HD0.out.b2.rd HD0.out.b2.lt⟩ ⟨HE0.out.b1.rd HE0.out.b1.lt, HE0.out.b2.rd HE0.out.b2.lt⟩ (Nat.le_refl _) (Nat.le_refl _) (by decide) (by decide))
  obtain ⟨z0, z1, z2, z3, z4, z5, z6, z7, z8, z9, z10, z11⟩ := cells12 K0
  obtain ⟨y0, y1, y2, y3, y4, y5, y6, y7, y8, y9, y10, y11⟩ := cells12 J0
  clear h k hb K0 J0
  go_enter Try.func8, Try.ntmps8
  go_wp2_with fail
  refine L1.out.mono ?_
  rintro e w1 ⟨rfl, hb⟩
  have HD1 := Lib.hid (HD0.out.same hb)
  have HE1 := Lib.hid (HE0.out.same hb)
  have HK1 := Lib.hid (HK0.out.same hb)
  have HJ1 := Lib.hid (HJ0.out.same hb)
  have H1 := Lib.hid (below_then H0.out hb)
  have L2 := Lib.hid (lawEq_Values _ _ _ 2 2 (some ⟨g3, 0, none⟩) (some ⟨h3, 0, none⟩) 4 4 vW (HD1.out.b3.rd HD1.out.b3.lt) (HE1.out.b3.rd HE1.out.b3.lt) (Nat.le_refl _) (Nat.le_refl _) (by decide))
  clear z0 z1 z2 z3 z4 z5 z6 z7 z8 z9 z10 z11 y0 y1 y2 y3 y4 y5 y6 y7 y8 y9 y10 y11 hb L1 HD0 HE0 HK0 HJ0 H0
  obtain ⟨z0, z1, z2, z3, z4, z5, z6, z7, z8, z9, z10, z11⟩ := cells12 HK1.out
  obtain ⟨y0, y1, y2, y3, y4, y5, y6, y7, y8, y9, y10, y11⟩ := cells12 HJ1.out
  go_wp2_with fail
  refine L2.out.mono ?_
  rintro e w2 ⟨rfl, hb⟩
  have HD2 := Lib.hid (HD1.out.same hb)
  have HE2 := Lib.hid (HE1.out.same hb)
  have HK2 := Lib.hid (HK1.out.same hb)
  have HJ2 := Lib.hid (HJ1.out.same hb)
  have H2 := Lib.hid (below_then H1.out hb)
  have L3 := Lib.hid (lawEq_Crowd _ _ _ 2 2 (some ⟨g4, 0, none⟩) (some ⟨h4, 0, none⟩) 2 2 cW (some ⟨g5, 0, none⟩) (some ⟨h5, 0, none⟩) 4 4 cC ⟨HD2.out.b4.rd HD2.out.b4.lt, HD2.out.b5.rd HD2.out.b5.lt⟩ ⟨HE2.out.b4.rd HE2.out.b4.lt, HE2.out.b5.rd HE2.out.b5.lt⟩ (Nat.le_refl _) (Nat.le_refl _) (by decide) (by decide))
  clear z0 z1 z2 z3 z4 z5 z6 z7 z8 z9 z10 z11 y0 y1 y2 y3 y4 y5 y6 y7 y8 y9 y10 y11 hb L2 HD1 HE1 HK1 HJ1 H1
  obtain ⟨z0, z1, z2, z3, z4, z5, z6, z7, z8, z9, z10, z11⟩ := cells12 HK2.out
  obtain ⟨y0, y1, y2, y3, y4, y5, y6, y7, y8, y9, y10, y11⟩ := cells12 HJ2.out
  go_wp2_with fail
  refine L3.out.mono ?_
  rintro e w3 ⟨rfl, hb⟩
  have HD3 := Lib.hid (HD2.out.same hb)
  have HE3 := Lib.hid (HE2.out.same hb)
  have HK3 := Lib.hid (HK2.out.same hb)
  have HJ3 := Lib.hid (HJ2.out.same hb)
  have H3 := Lib.hid (below_then H2.out hb)
  have L4 := Lib.hid (lawEq_F2 _ g6 h6 46 46 HD3.out.b6 HE3.out.b6)
  clear z0 z1 z2 z3 z4 z5 z6 z7 z8 z9 z10 z11 y0 y1 y2 y3 y4 y5 y6 y7 y8 y9 y10 y11 hb L3 HD2 HE2 HK2 HJ2 H2
  obtain ⟨z0, z1, z2, z3, z4, z5, z6, z7, z8, z9, z10, z11⟩ := cells12 HK3.out
  obtain ⟨y0, y1, y2, y3, y4, y5, y6, y7, y8, y9, y10, y11⟩ := cells12 HJ3.out
  go_wp2_with fail
  refine L4.out.mono ?_
  rintro e w4 ⟨rfl, hb⟩
  have H4 := below_then H3.out hb
  clear z0 z1 z2 z3 z4 z5 z6 z7 z8 z9 z10 z11 y0 y1 y2 y3 y4 y5 y6 y7 y8 y9 y10 y11 hb L4
  go_wp2_with fail
  go_ret
  exact ⟨rfl, H4⟩
end Go.Proofs.Ytdmeegfdmdbkiaa
