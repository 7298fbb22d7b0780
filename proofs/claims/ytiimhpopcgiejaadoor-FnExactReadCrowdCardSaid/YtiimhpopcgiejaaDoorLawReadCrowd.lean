/-
  FnExactReadCrowd answers true: the law's walk.
-/
import Derived.Test.YtiimhpopcgiejaaDoorRdCrowdR
import Derived.Test.YtiimhpopcgiejaaDoorRdMCrowd
namespace Go.Proofs.YtiimhpopcgiejaaDoor
set_option linter.unusedVariables false
set_option linter.unusedSimpArgs false
open Go.RowKit

set_option maxRecDepth 200000 in
set_option maxHeartbeats 4000000 in
theorem readCrowdR_any (w : World) (s : ByteArray) (hs : s.size ≤ 1048576) :
    Calls Tryd.prog 22 #[.string s] w (RetCrowd w (rd2F crowdB2 s.data.toList)) := by
  have KR0 := Lib.hid (Blk.new w [.int .i64 0, .int .i64 0, .slice none 0 0, .slice none 0 0] 40)
  have B0 := Lib.hid (bl1 w (.cells #[.int .i64 0, .int .i64 0, .slice none 0 0, .slice none 0 0] 40))
  have LR := Lib.hid (l08ReadCrowd_any (w.alloc (.cells #[.int .i64 0, .int .i64 0, .slice none 0 0, .slice none 0 0] 40)) s hs)
  generalize rd2F crowdB2 s.data.toList = R at *
  obtain ⟨n0, n1, x2, x3, b⟩ := R
  unfold RetCrowd at LR ⊢
  simp only at LR ⊢
  go_enter Tryd.func22, Tryd.ntmps22
  go_wp2_with fail
  refine LR.out.mono ?_
  rintro e w1 ⟨hb, a2, c2, a3, c3, rfl, hO⟩
  have B1 := Lib.hid (below_then B0.out hb)
  have R1 := Lib.hid (KR0.out.same hb)
  have S1 := hb.size
  rw [World.size_alloc] at S1 hO
  clear LR hb KR0 B0
  have f0 := R1.out.free 0
  have f1 := R1.out.free 1
  have f2 := R1.out.free 2
  have f3 := R1.out.free 3
  have r0 := R1.out.cell 0
  have r1 := R1.out.cell 1
  have r2 := R1.out.cell 2
  have r3 := R1.out.cell 3
  simp only [List.getElem?_cons_zero, List.getElem?_cons_succ] at r0 r1 r2 r3
  go_wp2_with fail
  obtain ⟨wz, hwz⟩ : ∃ X, X = (((w1.setCell ⟨w.heap.size, 0, none⟩ (.int .i64 n0)).setCell ⟨w.heap.size, 1, none⟩ (.int .i64 n1)).setCell ⟨w.heap.size, 2, none⟩ (.slice a2 x2.length c2)).setCell ⟨w.heap.size, 3, none⟩ (.slice a3 x3.length c3) := ⟨_, rfl⟩
  have KZ : Blk wz (w.heap.size) [.int .i64 n0, .int .i64 n1, .slice a2 x2.length c2, .slice a3 x3.length c3] 40 := by rw [hwz]; exact (((R1.out.set 0 (.int .i64 n0)).set 1 (.int .i64 n1)).set 2 (.slice a2 x2.length c2)).set 3 (.slice a3 x3.length c3)
  have TZ : Touch w1 wz (w.heap.size) (w.heap.size + 1) := by rw [hwz]; exact (((touch_setR w1 (w.heap.size) 0 (.int .i64 n0)).trans (touch_setR _ (w.heap.size) 1 (.int .i64 n1))).trans (touch_setR _ (w.heap.size) 2 (.slice a2 x2.length c2))).trans (touch_setR _ (w.heap.size) 3 (.slice a3 x3.length c3))
  have BZ : Below w.heap.size w wz := below_touch B1.out TZ (by omega) (by have := R1.out.lt; omega)
  rw [← hwz]
  clear hwz r0 r1 r2 r3
  have r0 := KZ.cell 0
  have r1 := KZ.cell 1
  have r2 := KZ.cell 2
  have r3 := KZ.cell 3
  simp only [List.getElem?_cons_zero, List.getElem?_cons_succ] at r0 r1 r2 r3
  refine bodyPost_ret (v := .tuple #[.agg #[.int .i64 n0, .int .i64 n1, .slice a2 x2.length c2, .slice a3 x3.length c3], .bool b]) (by simp [results, Tryd.results22, go_sem, r0, r1, r2, r3]) rfl ?_
  exact ⟨BZ, a2, c2, a3, c3, rfl, ⟨hO.choose, ⟨by have := hO.choose_spec.1; omega, by have := hO.choose_spec.1; have := TZ.size; omega⟩, (hO.choose_spec.2.1.touch TZ (.inr (Nat.le_refl _))).mono (by omega) (Nat.le_refl _), (hO.choose_spec.2.2.touch TZ (.inr (by have := hO.choose_spec.1; omega))).mono (Nat.le_refl _) TZ.size⟩⟩
set_option maxRecDepth 200000 in
set_option maxHeartbeats 16000000 in
theorem law_ExactReadCrowd (w : World) (hS : Shp w) (hT : Tab w) (hE : Errs w) (s : ByteArray) :
    Calls Tryd.prog 6 #[.string s] w fun e w' => e = .returned (.bool true) ∧ Below w.heap.size w w' := by
  have s0 : (0 : Int) ≤ (s.size : Int) := Int.natCast_nonneg _
  by_cases hs : s.size ≤ 1048576
  case neg =>
    have hsi : (1048576 : Int) < (s.size : Int) := by omega
    clear hs
    go_enter Tryd.func6, Tryd.ntmps6
    go_wp2_with fail
    go_ret
    exact ⟨rfl, Below.refl _ _⟩
  case pos =>
    have hsi : ¬ (1048576 : Int) < (s.size : Int) := by omega
    have hlen := rd2F_len (V := crowdB2) (l := s.data.toList)
    have LR := Lib.hid (fun w => readCrowdR_any w s hs)
    have LI := Lib.hid (fun v (hb : Below w.heap.size w v) => readCrowd_any v (hT.to hb) (hS.to hb) (hE.to hb) s hs)
    generalize rd2F crowdB2 s.data.toList = R at *
    clear hs hT hS hE
    obtain ⟨n0, n1, x2, x3, b⟩ := R
    unfold RetCrowd at LR LI
    simp only at LR LI hlen
    have hne1 : (b != b) = false := by simp
    obtain ⟨hl2, hl3⟩ := hlen
    go_enter Tryd.func6, Tryd.ntmps6
    go_wp2_with fail
    refine (LR.out _).mono ?_
    rintro e w1 ⟨hb, a2, c2, a3, c3, rfl, hO⟩
    have hb' := bl1 w1 (.cells #[.int .i64 n0, .int .i64 n1, .slice a2 x2.length c2, .slice a3 x3.length c3] 40)
    have KW1 := Lib.hid (Blk.new w1 [.int .i64 n0, .int .i64 n1, .slice a2 x2.length c2, .slice a3 x3.length c3] 40)
    have OW1 := Lib.hid (hO.keep hb')
    have B1 := Lib.hid (below_then hb hb')
    have s1 := hb.size
    clear hb hb' hO
    go_wp2_with fail
    refine (LI.out _ B1.out).mono ?_
    rintro e w2 ⟨hb, b2, d2, b3, d3, rfl, hO⟩
    have KW2 := Lib.hid (KW1.out.same hb)
    have OW2 := Lib.hid (OW1.out.keep hb)
    have B2 := Lib.hid (below_then B1.out hb)
    have s2 := hb.size
    rw [World.size_alloc] at hO s2
    have hb' := bl1 w2 (.cells #[.int .i64 n0, .int .i64 n1, .slice b2 x2.length d2, .slice b3 x3.length d3] 40)
    have KW3 := Lib.hid (KW2.out.same hb')
    have OW3 := Lib.hid (OW2.out.keep hb')
    have B3 := Lib.hid (below_then B2.out hb')
    have KG3 := Lib.hid (Blk.new w2 [.int .i64 n0, .int .i64 n1, .slice b2 x2.length d2, .slice b3 x3.length d3] 40)
    have OG3 := Lib.hid (hO.keep hb')
    have s3a : (w2.alloc (.cells #[.int .i64 n0, .int .i64 n1, .slice b2 x2.length d2, .slice b3 x3.length d3] 40)).heap.size = w2.heap.size + 1 := by simp
    clear hb hb' hO KW1 OW1 B1 KW2 OW2 B2
    have L3 := Lib.hid (lawEq_Crowd _ _ _ n0 n1 b2 a2 d2 c2 x2 b3 a3 d3 c3 x3 OG3.out.rd OW3.out.rd (by omega) (by omega) (by omega) (by omega))
    have z0 := KG3.out.cell 0
    have z1 := KG3.out.cell 1
    have z2 := KG3.out.cell 2
    have z3 := KG3.out.cell 3
    simp only [List.getElem?_cons_zero, List.getElem?_cons_succ] at z0 z1 z2 z3
    have y0 := KW3.out.cell 0
    have y1 := KW3.out.cell 1
    have y2 := KW3.out.cell 2
    have y3 := KW3.out.cell 3
    simp only [List.getElem?_cons_zero, List.getElem?_cons_succ] at y0 y1 y2 y3
    clear s3a
    go_wp2_with fail
    refine L3.out.mono ?_
    rintro e w3 ⟨rfl, hb⟩
    have KW4 := Lib.hid (KW3.out.same hb)
    have OW4 := Lib.hid (OW3.out.keep hb)
    have B4 := Lib.hid (below_then B3.out hb)
    have KG4 := Lib.hid (KG3.out.same hb)
    have OG4 := Lib.hid (OG3.out.keep hb)
    have s3 := hb.size
    rw [World.size_alloc] at s3
    clear hb KW3 OW3 B3 KG3 OG3 L3 z0 z1 z2 z3 y0 y1 y2 y3
    have L4 := Lib.hid (markCrowd_ownR w3 _ _ n0 n1 b2 d2 x2 b3 d3 x3 1 OG4.out (by omega) (by omega) (by omega) (by omega) (by omega))
    have z0 := KG4.out.cell 0
    have z1 := KG4.out.cell 1
    have z2 := KG4.out.cell 2
    have z3 := KG4.out.cell 3
    simp only [List.getElem?_cons_zero, List.getElem?_cons_succ] at z0 z1 z2 z3
    go_wp2_with fail
    refine L4.out.mono ?_
    rintro e w4 ⟨rfl, hO, ht⟩
    have OG5 := Lib.hid (hO.rd.mono (C := w4.heap.size) (by have := ht.size; omega))
    have KW5 := Lib.hid (KW4.out.touch ht (.inl (by omega)))
    have OW5 := Lib.hid (OW4.out.touch ht (.inl (by omega)))
    have KG5 := Lib.hid (KG4.out.touch ht (.inr (by omega)))
    have B5 := Lib.hid (below_touch B4.out ht (by omega) B4.out.size)
    have s4 := ht.size
    clear hO ht L4 KW4 OW4 B4 KG4 OG4 z0 z1 z2 z3
    have L5 := Lib.hid (fun w' hb => heldCrowd_anyR w' n0 n1 b2 d2 x2.length b3 d3 x3.length 1 (1 + x2.length) (OG5.out.to hb).1 (OG5.out.to hb).2 rfl (by omega) (by omega) (by omega) (by omega))
    have L5a := Lib.hid (L5.out w4 (Below.refl _ _))
    have z0 := KG5.out.cell 0
    have z1 := KG5.out.cell 1
    have z2 := KG5.out.cell 2
    have z3 := KG5.out.cell 3
    simp only [List.getElem?_cons_zero, List.getElem?_cons_succ] at z0 z1 z2 z3
    go_wp2_with fail
    refine L5a.out.mono ?_
    rintro e w5 ⟨rfl, hb⟩
    have OG6 := Lib.hid (OG5.out.to hb)
    have KW6 := Lib.hid (KW5.out.same hb)
    have OW6 := Lib.hid (OW5.out.keep hb)
    have KG6 := Lib.hid (KG5.out.same hb)
    have B6 := Lib.hid (below_then B5.out hb)
    have B65 := Lib.hid hb
    have s5 := hb.size
    clear hb L5a KW5 OW5 B5 KG5 z0 z1 z2 z3
    have q0 : ¬ (1 + (x2.length : Int) + (x3.length : Int)) < 0 := by omega
    have hne3 : ((1 + (x2.length : Int) + (x3.length : Int)) != (1 + (x2.length : Int) + (x3.length : Int))) = false := by simp
    go_wp2_with fail
    refine (LI.out _ B6.out).mono ?_
    rintro e w6 ⟨hb, e2, f2, e3, f3, rfl, hO⟩
    have hb' := bl1 w6 (.cells #[.int .i64 n0, .int .i64 n1, .slice e2 x2.length f2, .slice e3 x3.length f3] 40)
    have hbb := below_then hb hb'
    have KW7 := Lib.hid (KW6.out.same hbb)
    have OW7 := Lib.hid (OW6.out.keep hbb)
    have B7 := Lib.hid (below_then B6.out hbb)
    have B75 := Lib.hid (below_then B65.out hbb)
    have KG7 := Lib.hid (KG6.out.same hbb)
    have KH7 := Lib.hid (Blk.new w6 [.int .i64 n0, .int .i64 n1, .slice e2 x2.length f2, .slice e3 x3.length f3] 40)
    have OH7 := Lib.hid (hO.keep hb')
    have s6 := hb.size
    have s7a : (w6.alloc (.cells #[.int .i64 n0, .int .i64 n1, .slice e2 x2.length f2, .slice e3 x3.length f3] 40)).heap.size = w6.heap.size + 1 := by simp
    clear hb hb' hbb hO KW6 OW6 B6 OG6 KG6 B65
    have L6 := Lib.hid (lawEq_Crowd _ _ _ n0 n1 e2 a2 f2 c2 x2 e3 a3 f3 c3 x3 OH7.out.rd OW7.out.rd (by omega) (by omega) (by omega) (by omega))
    have z0 := KH7.out.cell 0
    have z1 := KH7.out.cell 1
    have z2 := KH7.out.cell 2
    have z3 := KH7.out.cell 3
    simp only [List.getElem?_cons_zero, List.getElem?_cons_succ] at z0 z1 z2 z3
    have y0 := KW7.out.cell 0
    have y1 := KW7.out.cell 1
    have y2 := KW7.out.cell 2
    have y3 := KW7.out.cell 3
    simp only [List.getElem?_cons_zero, List.getElem?_cons_succ] at y0 y1 y2 y3
    clear s7a
    go_wp2_with fail
    refine L6.out.mono ?_
    rintro e w7 ⟨rfl, hb⟩
    have B8 := Lib.hid (below_then B7.out hb)
    have L7 := Lib.hid (L5.out w7 (below_then B75.out hb))
    have KG8 := Lib.hid (KG7.out.same hb)
    clear hb KW7 OW7 B7 B75 KG7 KH7 OH7 L6 L5 z0 z1 z2 z3 y0 y1 y2 y3
    have z0 := KG8.out.cell 0
    have z1 := KG8.out.cell 1
    have z2 := KG8.out.cell 2
    have z3 := KG8.out.cell 3
    simp only [List.getElem?_cons_zero, List.getElem?_cons_succ] at z0 z1 z2 z3
    go_wp2_with fail
    refine L7.out.mono ?_
    rintro e w8 ⟨rfl, hb⟩
    have B9 := Lib.hid (below_then B8.out hb)
    clear hb L7 B8 KG8 z0 z1 z2 z3
    go_wp2_with fail
    go_ret
    exact ⟨rfl, B9.out⟩
end Go.Proofs.YtiimhpopcgiejaaDoor
