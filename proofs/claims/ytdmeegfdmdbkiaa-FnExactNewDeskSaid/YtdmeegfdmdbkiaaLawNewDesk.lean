/-
  FnExactNewDesk answers true: the law's walk.
-/
import Derived.Test.YtdmeegfdmdbkiaaDeskL2
namespace Go.Proofs.Ytdmeegfdmdbkiaa
set_option linter.unusedVariables false
set_option linter.unusedSimpArgs false
open Go.RowKit

set_option maxRecDepth 10000 in
set_option maxHeartbeats 8000000 in
theorem law_ExactNewDesk (w : World) :
    Calls Try.prog 3 #[] w fun e w' => e = .returned (.bool true) ∧ Below w.heap.size w w' := by
  have L1 := Lib.hid (newDeskR_any w)
  go_enter Try.func3, Try.ntmps3
  go_wp2_with fail
  refine L1.out.mono ?_
  rintro e w1 ⟨h1, h2, h3, h4, h5, h6, rfl, dW, hb⟩
  have hb' := bl1 w1 (.cells (deskC h1 h2 h3 h4 h5 h6).toArray 31)
  have L2 := Lib.hid (newDesk_any (w1.alloc (.cells (deskC h1 h2 h3 h4 h5 h6).toArray 31)))
  have DW1 := Lib.hid (dW.same hb')
  have KW1 := Lib.hid (Blk.new w1 (deskC h1 h2 h3 h4 h5 h6) 31)
  have B1 := Lib.hid (below_then hb hb')
  have hwl := dW.l7
  have s1 : w.heap.size ≤ w1.heap.size := hb.size
  clear dW hb hb' L1
  simp only [World.size_alloc] at L2
  simp only [deskC]
  go_wp2_with fail
  refine L2.out.mono ?_
  rintro e w2 ⟨g1, g2, g3, g4, g5, g6, rfl, dG, hb⟩
  rw [← World.size_alloc w1 (.cells (deskC h1 h2 h3 h4 h5 h6).toArray 31)] at hb
  have DW2 := Lib.hid (DW1.out.same hb)
  have KW2 := Lib.hid (KW1.out.same hb)
  have B2 := Lib.hid (below_then B1.out hb)
  have hb' := bl1 w2 (.cells (deskC g1 g2 g3 g4 g5 g6).toArray 31)
  have DW3 := Lib.hid (DW2.out.same hb')
  have KW3 := Lib.hid (KW2.out.same hb')
  have B3 := Lib.hid (below_then B2.out hb')
  have DG3 := Lib.hid (dG.same hb')
  have KG3 := Lib.hid (Blk.new w2 (deskC g1 g2 g3 g4 g5 g6) 31)
  have hgl := dG.l7
  have hg0 : w1.heap.size + 1 ≤ g1 ∧ g1 < g2 ∧ g2 < g3 ∧ g3 < g4 ∧ g4 < g5 ∧ g5 < g6 := ⟨dG.l1, dG.l2, dG.l3, dG.l4, dG.l5, dG.l6⟩
  have L3 := Lib.hid (eqD _ _ g1 g2 g3 g4 g5 g6 _ h1 h2 h3 h4 h5 h6 DG3.out DW3.out)
  obtain ⟨z0, z1, z2, z3, z4, z5, z6, z7, z8, z9, z10, z11⟩ := cells12 KG3.out
  obtain ⟨y0, y1, y2, y3, y4, y5, y6, y7, y8, y9, y10, y11⟩ := cells12 KW3.out
  clear hb hb' dG L2 DW1 KW1 B1 DW2 KW2 B2
  simp only [deskC] at y0 y1 y2 y3 y4 y5 y6 y7 y8 y9 y10 y11
  simp only [deskC]
  go_wp2_with fail
  refine L3.out.mono ?_
  rintro e w3 ⟨rfl, hb⟩
  have DW4 := Lib.hid (DW3.out.same hb)
  have KW4 := Lib.hid (KW3.out.same hb)
  have DG4 := Lib.hid (DG3.out.same hb)
  have KG4 := Lib.hid (KG3.out.same hb)
  have B4 := Lib.hid (below_then B3.out hb)
  have L4 := Lib.hid (markD w3 _ g1 g2 g3 g4 g5 g6 DG4.out)
  clear z0 z1 z2 z3 z4 z5 z6 z7 z8 z9 z10 z11 y0 y1 y2 y3 y4 y5 y6 y7 y8 y9 y10 y11 hb L3 DW3 KW3 DG3 KG3 B3
  obtain ⟨z0, z1, z2, z3, z4, z5, z6, z7, z8, z9, z10, z11⟩ := cells12 KG4.out
  go_wp2_with fail
  refine L4.out.mono ?_
  rintro e w4 ⟨rfl, dG, ht⟩
  have DG5 := Lib.hid dG
  have DW5 := Lib.hid (DW4.out.touch ht (.inl (by have := DW4.out.l7; omega)))
  have KW5 := Lib.hid (KW4.out.touch ht (.inl (by omega)))
  have KG5 := Lib.hid (KG4.out.touch ht (.inr (by omega)))
  have B5 := Lib.hid (below_touch B4.out ht (by omega) B4.out.size)
  have L5 := Lib.hid (heldD w4 _ g1 g2 g3 g4 g5 g6 dG)
  clear z0 z1 z2 z3 z4 z5 z6 z7 z8 z9 z10 z11 dG ht L4 DW4 KW4 DG4 KG4 B4
  obtain ⟨z0, z1, z2, z3, z4, z5, z6, z7, z8, z9, z10, z11⟩ := cells12 KG5.out
  go_wp2_with fail
  refine L5.out.mono ?_
  rintro e w5 ⟨rfl, hb⟩
  have DW6 := Lib.hid (DW5.out.same hb)
  have KW6 := Lib.hid (KW5.out.same hb)
  have DG6 := Lib.hid (DG5.out.same hb)
  have KG6 := Lib.hid (KG5.out.same hb)
  have B6 := Lib.hid (below_then B5.out hb)
  have L6 := Lib.hid (newDesk_any w5)
  clear z0 z1 z2 z3 z4 z5 z6 z7 z8 z9 z10 z11 hb L5 DW5 KW5 DG5 KG5 B5
  go_wp2_with fail
  refine L6.out.mono ?_
  rintro e w6 ⟨k1, k2, k3, k4, k5, k6, rfl, dK, hb⟩
  have hb' := bl1 w6 (.cells (deskC k1 k2 k3 k4 k5 k6).toArray 31)
  have hc := below_then hb hb'
  have DW7 := Lib.hid (DW6.out.same hc)
  have KW7 := Lib.hid (KW6.out.same hc)
  have DG7 := Lib.hid (DG6.out.same hc)
  have KG7 := Lib.hid (KG6.out.same hc)
  have B7 := Lib.hid (below_then B6.out hc)
  have DK7 := Lib.hid (dK.same hb')
  have KK7 := Blk.new w6 (deskC k1 k2 k3 k4 k5 k6) 31
  have L7 := Lib.hid (eqD _ _ k1 k2 k3 k4 k5 k6 _ h1 h2 h3 h4 h5 h6 DK7.out DW7.out)
  obtain ⟨z0, z1, z2, z3, z4, z5, z6, z7, z8, z9, z10, z11⟩ := cells12 KK7
  obtain ⟨y0, y1, y2, y3, y4, y5, y6, y7, y8, y9, y10, y11⟩ := cells12 KW7.out
  clear hb hb' hc dK KK7 L6 DW6 KW6 DG6 KG6 B6
  simp only [deskC] at y0 y1 y2 y3 y4 y5 y6 y7 y8 y9 y10 y11
  simp only [deskC]
  go_wp2_with fail
  refine L7.out.mono ?_
  rintro e w7 ⟨rfl, hb⟩
  have DG8 := Lib.hid (DG7.out.same hb)
  have KG8 := Lib.hid (KG7.out.same hb)
  have B8 := Lib.hid (below_then B7.out hb)
  have L8 := Lib.hid (heldD w7 _ g1 g2 g3 g4 g5 g6 DG8.out)
  clear z0 z1 z2 z3 z4 z5 z6 z7 z8 z9 z10 z11 y0 y1 y2 y3 y4 y5 y6 y7 y8 y9 y10 y11 hb L7 DW7 KW7 DG7 KG7 B7 DK7
  obtain ⟨z0, z1, z2, z3, z4, z5, z6, z7, z8, z9, z10, z11⟩ := cells12 KG8.out
  go_wp2_with fail
  refine L8.out.mono ?_
  rintro e w8 ⟨rfl, hb⟩
  have B9 := below_then B8.out hb
  clear z0 z1 z2 z3 z4 z5 z6 z7 z8 z9 z10 z11 hb L8 DG8 KG8 B8
  go_wp2_with fail
  go_ret
  exact ⟨rfl, B9⟩
end Go.Proofs.Ytdmeegfdmdbkiaa
