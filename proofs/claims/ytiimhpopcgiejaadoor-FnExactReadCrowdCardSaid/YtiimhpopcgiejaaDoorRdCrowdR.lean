/-
  ReadCrowd: the reference's road.
-/
import Derived.Test.YtiimhpopcgiejaaDoorRdCrowdI
import Derived.Test.YtiimhpopcgiejaaDoorPartsR
import Derived.Test.YtiimhpopcgiejaaDoorCrowdV
import Derived.Test.YtiimhpopcgiejaaDoorCrowdV2
namespace Go.Proofs.YtiimhpopcgiejaaDoor
set_option linter.unusedVariables false
set_option linter.unusedSimpArgs false
open Go.RowKit

set_option maxRecDepth 200000 in
set_option maxHeartbeats 4000000 in
theorem giveCrowd_false (w : World) (n0 n1 : Int) (a2 : Option Addr) (c2 : Nat) (x2 : List Int) (a3 : Option Addr) (c3 : Nat) (x3 : List Int) (h : RdCrowd w w.heap.size a2 x2 a3 x3) (hl2 : x2.length ≤ 1048576) (hl3 : x3.length ≤ 1048576) (hV : crowdB2 n0 n1 x2 x3 = false) :
    Calls Tryd.prog 67 #[.agg #[.int .i64 n0, .int .i64 n1, .slice a2 x2.length c2, .slice a3 x3.length c3]] w fun e w' => e = .returned (.tuple #[.agg #[.int .i64 0, .int .i64 0, .slice none 0 0, .slice none 0 0], .bool false]) ∧ Below w.heap.size w w' := by
  have B0 := Lib.hid (bl2 w (.cells #[.int .i64 n0, .int .i64 n1, .slice a2 x2.length c2, .slice a3 x3.length c3] 40) (.cells #[.int .i64 0, .int .i64 0, .slice none 0 0, .slice none 0 0] 40))
  have K0 := (Blk.new w [.int .i64 n0, .int .i64 n1, .slice a2 x2.length c2, .slice a3 x3.length c3] 40).alloc (.cells #[.int .i64 0, .int .i64 0, .slice none 0 0, .slice none 0 0] 40)
  have R0 := blkat1_Crowd w (.cells #[.int .i64 n0, .int .i64 n1, .slice a2 x2.length c2, .slice a3 x3.length c3] 40) [.int .i64 0, .int .i64 0, .slice none 0 0, .slice none 0 0] 40
  have hV2 : validB ⟨n0, n1, x2, x3⟩ = false := hV
  have LV := Lib.hid ((l06Is_any ((w.alloc (.cells #[.int .i64 n0, .int .i64 n1, .slice a2 x2.length c2, .slice a3 x3.length c3] 40)).alloc (.cells #[.int .i64 0, .int .i64 0, .slice none 0 0, .slice none 0 0] 40)) w.heap.size 0 n0 n1 a2 c2 x2 a3 c3 x3 (K0.cell 0) (K0.cell 1) (K0.cell 2) (K0.cell 3) (h.to B0.out) hl2 hl3).mono fun e w' h => (⟨h.1, by obtain ⟨n, h2⟩ := h.2; rw [h2]; exact drewN_below _ _⟩ : e = _ ∧ Below _ _ w'))
  rw [hV2] at LV
  clear hV h hV2
  go_enter Tryd.func67, Tryd.ntmps67
  go_wp2_with fail
  refine LV.out.mono ?_
  rintro e w3 ⟨rfl, hb3⟩
  have R3 := Lib.hid (R0.same hb3)
  have K3 := K0.same hb3
  have B3 := Lib.hid (below_then B0.out hb3)
  clear hb3 K0 R0 B0 LV
  have z0 := K3.cell 0
  have z1 := K3.cell 1
  have z2 := K3.cell 2
  have z3 := K3.cell 3
  simp only [List.getElem?_cons_zero, List.getElem?_cons_succ] at z0 z1 z2 z3
  have f0 := R3.out.free 0
  have f1 := R3.out.free 1
  have f2 := R3.out.free 2
  have f3 := R3.out.free 3
  have r0 := R3.out.cell 0
  have r1 := R3.out.cell 1
  have r2 := R3.out.cell 2
  have r3 := R3.out.cell 3
  simp only [List.getElem?_cons_zero, List.getElem?_cons_succ] at r0 r1 r2 r3
  go_wp2_with fail
  obtain ⟨wz, hwz⟩ : ∃ X, X = (((w3.setCell ⟨w.heap.size + 1, 0, none⟩ (.int .i64 0)).setCell ⟨w.heap.size + 1, 1, none⟩ (.int .i64 0)).setCell ⟨w.heap.size + 1, 2, none⟩ (.slice none 0 0)).setCell ⟨w.heap.size + 1, 3, none⟩ (.slice none 0 0) := ⟨_, rfl⟩
  have KZ : Blk wz (w.heap.size + 1) [.int .i64 0, .int .i64 0, .slice none 0 0, .slice none 0 0] 40 := by rw [hwz]; exact (((R3.out.set 0 (.int .i64 0)).set 1 (.int .i64 0)).set 2 (.slice none 0 0)).set 3 (.slice none 0 0)
  have TZ : Touch w3 wz (w.heap.size + 1) (w.heap.size + 1 + 1) := by rw [hwz]; exact (((touch_setR w3 (w.heap.size + 1) 0 (.int .i64 0)).trans (touch_setR _ (w.heap.size + 1) 1 (.int .i64 0))).trans (touch_setR _ (w.heap.size + 1) 2 (.slice none 0 0))).trans (touch_setR _ (w.heap.size + 1) 3 (.slice none 0 0))
  have BZ : Below w.heap.size w wz := below_touch B3.out TZ (by omega) (by have := R3.out.lt; omega)
  rw [← hwz]
  clear hwz r0 r1 r2 r3
  have r0 := KZ.cell 0
  have r1 := KZ.cell 1
  have r2 := KZ.cell 2
  have r3 := KZ.cell 3
  simp only [List.getElem?_cons_zero, List.getElem?_cons_succ] at r0 r1 r2 r3
  refine bodyPost_ret (v := .tuple #[.agg #[.int .i64 0, .int .i64 0, .slice none 0 0, .slice none 0 0], .bool false]) (by simp [results, Tryd.results67, go_sem, r0, r1, r2, r3]) rfl ?_
  exact ⟨rfl, BZ⟩
set_option maxRecDepth 200000 in
set_option maxHeartbeats 4000000 in
theorem giveCrowd_true (w : World) (n0 n1 : Int) (a2 : Option Addr) (c2 : Nat) (x2 : List Int) (a3 : Option Addr) (c3 : Nat) (x3 : List Int) (h : RdCrowd w w.heap.size a2 x2 a3 x3) (hl2 : x2.length ≤ 1048576) (hl3 : x3.length ≤ 1048576) (hV : crowdB2 n0 n1 x2 x3 = true) :
    Calls Tryd.prog 67 #[.agg #[.int .i64 n0, .int .i64 n1, .slice a2 x2.length c2, .slice a3 x3.length c3]] w fun e w' => e = .returned (.tuple #[.agg #[.int .i64 n0, .int .i64 n1, .slice a2 x2.length c2, .slice a3 x3.length c3], .bool true]) ∧ Below w.heap.size w w' := by
  have B0 := Lib.hid (bl2 w (.cells #[.int .i64 n0, .int .i64 n1, .slice a2 x2.length c2, .slice a3 x3.length c3] 40) (.cells #[.int .i64 0, .int .i64 0, .slice none 0 0, .slice none 0 0] 40))
  have K0 := (Blk.new w [.int .i64 n0, .int .i64 n1, .slice a2 x2.length c2, .slice a3 x3.length c3] 40).alloc (.cells #[.int .i64 0, .int .i64 0, .slice none 0 0, .slice none 0 0] 40)
  have R0 := blkat1_Crowd w (.cells #[.int .i64 n0, .int .i64 n1, .slice a2 x2.length c2, .slice a3 x3.length c3] 40) [.int .i64 0, .int .i64 0, .slice none 0 0, .slice none 0 0] 40
  have hV2 : validB ⟨n0, n1, x2, x3⟩ = true := hV
  have LV := Lib.hid ((l06Is_any ((w.alloc (.cells #[.int .i64 n0, .int .i64 n1, .slice a2 x2.length c2, .slice a3 x3.length c3] 40)).alloc (.cells #[.int .i64 0, .int .i64 0, .slice none 0 0, .slice none 0 0] 40)) w.heap.size 0 n0 n1 a2 c2 x2 a3 c3 x3 (K0.cell 0) (K0.cell 1) (K0.cell 2) (K0.cell 3) (h.to B0.out) hl2 hl3).mono fun e w' h => (⟨h.1, by obtain ⟨n, h2⟩ := h.2; rw [h2]; exact drewN_below _ _⟩ : e = _ ∧ Below _ _ w'))
  rw [hV2] at LV
  clear hV h hV2
  go_enter Tryd.func67, Tryd.ntmps67
  go_wp2_with fail
  refine LV.out.mono ?_
  rintro e w3 ⟨rfl, hb3⟩
  have R3 := Lib.hid (R0.same hb3)
  have K3 := K0.same hb3
  have B3 := Lib.hid (below_then B0.out hb3)
  clear hb3 K0 R0 B0 LV
  have z0 := K3.cell 0
  have z1 := K3.cell 1
  have z2 := K3.cell 2
  have z3 := K3.cell 3
  simp only [List.getElem?_cons_zero, List.getElem?_cons_succ] at z0 z1 z2 z3
  have f0 := R3.out.free 0
  have f1 := R3.out.free 1
  have f2 := R3.out.free 2
  have f3 := R3.out.free 3
  have r0 := R3.out.cell 0
  have r1 := R3.out.cell 1
  have r2 := R3.out.cell 2
  have r3 := R3.out.cell 3
  simp only [List.getElem?_cons_zero, List.getElem?_cons_succ] at r0 r1 r2 r3
  go_wp2_with fail
  obtain ⟨wz, hwz⟩ : ∃ X, X = (((w3.setCell ⟨w.heap.size + 1, 0, none⟩ (.int .i64 n0)).setCell ⟨w.heap.size + 1, 1, none⟩ (.int .i64 n1)).setCell ⟨w.heap.size + 1, 2, none⟩ (.slice a2 x2.length c2)).setCell ⟨w.heap.size + 1, 3, none⟩ (.slice a3 x3.length c3) := ⟨_, rfl⟩
  have KZ : Blk wz (w.heap.size + 1) [.int .i64 n0, .int .i64 n1, .slice a2 x2.length c2, .slice a3 x3.length c3] 40 := by rw [hwz]; exact (((R3.out.set 0 (.int .i64 n0)).set 1 (.int .i64 n1)).set 2 (.slice a2 x2.length c2)).set 3 (.slice a3 x3.length c3)
  have TZ : Touch w3 wz (w.heap.size + 1) (w.heap.size + 1 + 1) := by rw [hwz]; exact (((touch_setR w3 (w.heap.size + 1) 0 (.int .i64 n0)).trans (touch_setR _ (w.heap.size + 1) 1 (.int .i64 n1))).trans (touch_setR _ (w.heap.size + 1) 2 (.slice a2 x2.length c2))).trans (touch_setR _ (w.heap.size + 1) 3 (.slice a3 x3.length c3))
  have BZ : Below w.heap.size w wz := below_touch B3.out TZ (by omega) (by have := R3.out.lt; omega)
  rw [← hwz]
  clear hwz r0 r1 r2 r3
  have r0 := KZ.cell 0
  have r1 := KZ.cell 1
  have r2 := KZ.cell 2
  have r3 := KZ.cell 3
  simp only [List.getElem?_cons_zero, List.getElem?_cons_succ] at r0 r1 r2 r3
  refine bodyPost_ret (v := .tuple #[.agg #[.int .i64 n0, .int .i64 n1, .slice a2 x2.length c2, .slice a3 x3.length c3], .bool true]) (by simp [results, Tryd.results67, go_sem, r0, r1, r2, r3]) rfl ?_
  exact ⟨rfl, BZ⟩
set_option maxRecDepth 200000 in
set_option maxHeartbeats 8000000 in
theorem l08ReadCrowd_any (w : World) (s : ByteArray) (hs : s.size ≤ 1048576) :
    Calls Tryd.prog 48 #[.string s] w (RetCrowd w (rd2F crowdB2 s.data.toList)) := by
  have KR0 := Lib.hid (Blk.new w [.int .i64 0, .int .i64 0, .slice none 0 0, .slice none 0 0] 40)
  have B0 := Lib.hid (bl1 w (.cells #[.int .i64 0, .int .i64 0, .slice none 0 0, .slice none 0 0] 40))
  have LP := Lib.hid (l08Lists_any (w.alloc (.cells #[.int .i64 0, .int .i64 0, .slice none 0 0, .slice none 0 0] 40)) s 3 (by omega) hs)
  have HNo := Lib.hid (fun h => rd2F_none (V := crowdB2) (l := s.data.toList) h)
  have HSo := Lib.hid (fun p q x2 x3 h => rd2F_some (V := crowdB2) (l := s.data.toList) (p := p) (q := q) (x2 := x2) (x3 := x3) h)
  have HG := Lib.hid (fun yss h => listsF_get (cnt := 3) (l := s.data.toList) (yss := yss) h)
  unfold RetParts at LP
  generalize rd2F crowdB2 s.data.toList = RF at *
  generalize listsF 3 s.data.toList = LF at *
  clear hs
  go_enter Tryd.func48, Tryd.ntmps48
  go_wp2_with fail
  refine LP.out.mono ?_
  rintro e w1 ⟨hb, v, rfl, hv⟩
  have B1 := Lib.hid (below_then B0.out hb)
  have R1 := Lib.hid (KR0.out.same hb)
  have S1 := hb.size
  rw [World.size_alloc] at S1 hv
  clear LP hb
  cases LF with
  | none =>
    have HF := Lib.hid (HNo.out rfl)
    clear HNo HSo HG hv
    have f0 := R1.out.free 0
    have f1 := R1.out.free 1
    have f2 := R1.out.free 2
    have f3 := R1.out.free 3
    have r0 := R1.out.cell 0
    have r1 := R1.out.cell 1
    have r2 := R1.out.cell 2
    have r3 := R1.out.cell 3
    simp only [List.getElem?_cons_zero, List.getElem?_cons_succ] at r0 r1 r2 r3
    go_wp2_with fail
    obtain ⟨wz, hwz⟩ : ∃ X, X = (((w1.setCell ⟨w.heap.size, 0, none⟩ (.int .i64 0)).setCell ⟨w.heap.size, 1, none⟩ (.int .i64 0)).setCell ⟨w.heap.size, 2, none⟩ (.slice none 0 0)).setCell ⟨w.heap.size, 3, none⟩ (.slice none 0 0) := ⟨_, rfl⟩
    have KZ : Blk wz (w.heap.size) [.int .i64 0, .int .i64 0, .slice none 0 0, .slice none 0 0] 40 := by rw [hwz]; exact (((R1.out.set 0 (.int .i64 0)).set 1 (.int .i64 0)).set 2 (.slice none 0 0)).set 3 (.slice none 0 0)
    have TZ : Touch w1 wz (w.heap.size) (w.heap.size + 1) := by rw [hwz]; exact (((touch_setR w1 (w.heap.size) 0 (.int .i64 0)).trans (touch_setR _ (w.heap.size) 1 (.int .i64 0))).trans (touch_setR _ (w.heap.size) 2 (.slice none 0 0))).trans (touch_setR _ (w.heap.size) 3 (.slice none 0 0))
    have BZ : Below w.heap.size w wz := below_touch B1.out TZ (by omega) (by have := R1.out.lt; omega)
    rw [← hwz]
    clear hwz r0 r1 r2 r3
    have r0 := KZ.cell 0
    have r1 := KZ.cell 1
    have r2 := KZ.cell 2
    have r3 := KZ.cell 3
    simp only [List.getElem?_cons_zero, List.getElem?_cons_succ] at r0 r1 r2 r3
    refine bodyPost_ret (v := .tuple #[.agg #[.int .i64 0, .int .i64 0, .slice none 0 0, .slice none 0 0], .bool false]) (by simp [results, Tryd.results48, go_sem, r0, r1, r2, r3]) rfl ?_
    exact RetCrowd.no HF.out BZ
  | some yss =>
    obtain ⟨g, c, vs, rfl, hO, hOrd⟩ := hv yss rfl
    obtain ⟨hn1, hn2, hn3⟩ := HG.out yss rfl
    obtain ⟨p, q, x2, x3, rfl, l2, l3⟩ := lists3 hn1 hn2 hn3
    have HF := Lib.hid (HSo.out p q x2 x3 rfl)
    clear hn1 hn2 hn3 HG HNo HSo hv
    obtain ⟨g0, d0, v0, o0⟩ := hO.row 0 [p, q] rfl
    obtain ⟨g1, d1, v1, o1⟩ := hO.row 1 x2 rfl
    obtain ⟨g2, d2, v2, o2⟩ := hO.row 2 x3 rfl
    have C0 := hO.cellAt rfl v0
    have C1 := hO.cellAt rfl v1
    have C2 := hO.cellAt rfl v2
    have I0 := o0.cellAt (j := 0) (x := p) rfl
    have I1 := o0.cellAt (j := 1) (x := q) rfl
    have P1 := o1.place
    have N1 := Lib.hid o1.narrow
    have P2 := o2.place
    have N2 := Lib.hid o2.narrow
    have PG0 := (hO.out.lt g rfl).1
    have P0 := o0.place
    have hlt12 := hOrd 1 2 _ _ g1 g2 (by omega) v1 v2 rfl rfl
    clear hO hOrd o0 o1 o2 v0 v1 v2
    have EE : Hid ((fun w' : World => w'.cell? ⟨g, 0, none⟩ = some (.slice (some ⟨g0, 0, none⟩) 2 d0) ∧ w'.cell? ⟨g0, 0, none⟩ = some (.int .i64 p) ∧ w'.cell? ⟨g0, 1, none⟩ = some (.int .i64 q) ∧ w'.cell? ⟨g, 1, none⟩ = some (.slice (some ⟨g1, 0, none⟩) x2.length d1) ∧ w'.cell? ⟨g, 2, none⟩ = some (.slice (some ⟨g2, 0, none⟩) x3.length d2)) w1) := ⟨C0, I0, I1, C1, C2⟩
    have EX : Hid ((fun w' : World => w'.cell? ⟨g, 0, none⟩ = some (.slice (some ⟨g0, 0, none⟩) 2 d0) ∧ w'.cell? ⟨g0, 0, none⟩ = some (.int .i64 p) ∧ w'.cell? ⟨g0, 1, none⟩ = some (.int .i64 q) ∧ w'.cell? ⟨g, 1, none⟩ = some (.slice (some ⟨g1, 0, none⟩) x2.length d1) ∧ w'.cell? ⟨g, 2, none⟩ = some (.slice (some ⟨g2, 0, none⟩) x3.length d2)) w1.drew) := ⟨C0, I0, I1, C1, C2⟩
    have EV : Hid ((fun w' : World => w'.cell? ⟨g, 0, none⟩ = some (.slice (some ⟨g0, 0, none⟩) 2 d0) ∧ w'.cell? ⟨g0, 0, none⟩ = some (.int .i64 p) ∧ w'.cell? ⟨g0, 1, none⟩ = some (.int .i64 q) ∧ w'.cell? ⟨g, 1, none⟩ = some (.slice (some ⟨g1, 0, none⟩) x2.length d1) ∧ w'.cell? ⟨g, 2, none⟩ = some (.slice (some ⟨g2, 0, none⟩) x3.length d2)) (w1.alloc (.cells #[.int .i64 p, .int .i64 q, .slice (some ⟨g1, 0, none⟩) x2.length d1, .slice (some ⟨g2, 0, none⟩) x3.length d2] 40)).drew) := by
      have hb := bl1 w1 (.cells #[.int .i64 p, .int .i64 q, .slice (some ⟨g1, 0, none⟩) x2.length d1, .slice (some ⟨g2, 0, none⟩) x3.length d2] 40)
      exact ⟨(hb.cell (p := ⟨g, 0, none⟩) (World.block_lt_of_cell? w1 _ C0)).trans C0, (hb.cell (p := ⟨g0, 0, none⟩) (World.block_lt_of_cell? w1 _ I0)).trans I0, (hb.cell (p := ⟨g0, 1, none⟩) (World.block_lt_of_cell? w1 _ I1)).trans I1, (hb.cell (p := ⟨g, 1, none⟩) (World.block_lt_of_cell? w1 _ C1)).trans C1, (hb.cell (p := ⟨g, 2, none⟩) (World.block_lt_of_cell? w1 _ C2)).trans C2⟩
    have EA : Hid ((fun w' : World => w'.cell? ⟨g, 0, none⟩ = some (.slice (some ⟨g0, 0, none⟩) 2 d0) ∧ w'.cell? ⟨g0, 0, none⟩ = some (.int .i64 p) ∧ w'.cell? ⟨g0, 1, none⟩ = some (.int .i64 q) ∧ w'.cell? ⟨g, 1, none⟩ = some (.slice (some ⟨g1, 0, none⟩) x2.length d1) ∧ w'.cell? ⟨g, 2, none⟩ = some (.slice (some ⟨g2, 0, none⟩) x3.length d2)) (w1.alloc (.cells #[.int .i64 0, .int .i64 0, .slice none 0 0, .slice none 0 0] 40)).drew) := by
      have hb := bl1 w1 (.cells #[.int .i64 0, .int .i64 0, .slice none 0 0, .slice none 0 0] 40)
      exact ⟨(hb.cell (p := ⟨g, 0, none⟩) (World.block_lt_of_cell? w1 _ C0)).trans C0, (hb.cell (p := ⟨g0, 0, none⟩) (World.block_lt_of_cell? w1 _ I0)).trans I0, (hb.cell (p := ⟨g0, 1, none⟩) (World.block_lt_of_cell? w1 _ I1)).trans I1, (hb.cell (p := ⟨g, 1, none⟩) (World.block_lt_of_cell? w1 _ C1)).trans C1, (hb.cell (p := ⟨g, 2, none⟩) (World.block_lt_of_cell? w1 _ C2)).trans C2⟩
    clear EE
    have PG := PG0
    have Q1 := Lib.hid ((N1.out.keep (drewN_below w1 1)).rd)
    have Q2 := Lib.hid ((N2.out.keep (drewN_below w1 1)).rd)
    cases hV : crowdB2 p q x2 x3 with
    | false =>
      have LG := Lib.hid (giveCrowd_false w1.drew p q (some ⟨g1, 0, none⟩) d1 x2 (some ⟨g2, 0, none⟩) d2 x3 ⟨Q1.out.mono (by show g1 + 1 ≤ w1.heap.size; omega), Q2.out.mono (by show g2 + 1 ≤ w1.heap.size; omega)⟩ (by omega) (by omega) hV)
      have HF2 : Hid (RF = (0, 0, [], [], false)) := by rw [Hid, HF.out, hV]; rfl
      clear HF hV Q1 Q2
      go_wp2_with fail
      have LG2 : Hid (Calls Tryd.prog 67 #[.agg #[.int .i64 p, .int .i64 q, .slice (some ⟨g1, 0, none⟩) x2.length d1, .slice (some ⟨g2, 0, none⟩) x3.length d2]] w1.drew fun e w3 => e = .returned (.tuple #[.agg #[.int .i64 0, .int .i64 0, .slice none 0 0, .slice none 0 0], .bool false]) ∧ Hid ((fun w' : World => w'.cell? ⟨g, 0, none⟩ = some (.slice (some ⟨g0, 0, none⟩) 2 d0) ∧ w'.cell? ⟨g0, 0, none⟩ = some (.int .i64 p) ∧ w'.cell? ⟨g0, 1, none⟩ = some (.int .i64 q) ∧ w'.cell? ⟨g, 1, none⟩ = some (.slice (some ⟨g1, 0, none⟩) x2.length d1) ∧ w'.cell? ⟨g, 2, none⟩ = some (.slice (some ⟨g2, 0, none⟩) x3.length d2)) w3) ∧ Hid ((fun w' : World => w'.cell? ⟨g, 0, none⟩ = some (.slice (some ⟨g0, 0, none⟩) 2 d0) ∧ w'.cell? ⟨g0, 0, none⟩ = some (.int .i64 p) ∧ w'.cell? ⟨g0, 1, none⟩ = some (.int .i64 q) ∧ w'.cell? ⟨g, 1, none⟩ = some (.slice (some ⟨g1, 0, none⟩) x2.length d1) ∧ w'.cell? ⟨g, 2, none⟩ = some (.slice (some ⟨g2, 0, none⟩) x3.length d2)) ((((w3.setCell ⟨w.heap.size, 0, none⟩ (.int .i64 0)).setCell ⟨w.heap.size, 1, none⟩ (.int .i64 0)).setCell ⟨w.heap.size, 2, none⟩ (.slice none 0 0)).setCell ⟨w.heap.size, 3, none⟩ (.slice none 0 0))) ∧ Hid (Blk w3 w.heap.size [.int .i64 0, .int .i64 0, .slice none 0 0, .slice none 0 0] 40) ∧ Hid (Blk ((((w3.setCell ⟨w.heap.size, 0, none⟩ (.int .i64 0)).setCell ⟨w.heap.size, 1, none⟩ (.int .i64 0)).setCell ⟨w.heap.size, 2, none⟩ (.slice none 0 0)).setCell ⟨w.heap.size, 3, none⟩ (.slice none 0 0)) w.heap.size [.int .i64 0, .int .i64 0, .slice none 0 0, .slice none 0 0] 40) ∧ Hid (Below w.heap.size w ((((w3.setCell ⟨w.heap.size, 0, none⟩ (.int .i64 0)).setCell ⟨w.heap.size, 1, none⟩ (.int .i64 0)).setCell ⟨w.heap.size, 2, none⟩ (.slice none 0 0)).setCell ⟨w.heap.size, 3, none⟩ (.slice none 0 0))) ∧ Hid (w1.heap.size ≤ ((((w3.setCell ⟨w.heap.size, 0, none⟩ (.int .i64 0)).setCell ⟨w.heap.size, 1, none⟩ (.int .i64 0)).setCell ⟨w.heap.size, 2, none⟩ (.slice none 0 0)).setCell ⟨w.heap.size, 3, none⟩ (.slice none 0 0)).heap.size) ∧ Hid (OwnI 2 ((((w3.setCell ⟨w.heap.size, 0, none⟩ (.int .i64 0)).setCell ⟨w.heap.size, 1, none⟩ (.int .i64 0)).setCell ⟨w.heap.size, 2, none⟩ (.slice none 0 0)).setCell ⟨w.heap.size, 3, none⟩ (.slice none 0 0)) g1 (g1 + 1) (some ⟨g1, 0, none⟩) d1 x2) ∧ Hid (OwnI 2 ((((w3.setCell ⟨w.heap.size, 0, none⟩ (.int .i64 0)).setCell ⟨w.heap.size, 1, none⟩ (.int .i64 0)).setCell ⟨w.heap.size, 2, none⟩ (.slice none 0 0)).setCell ⟨w.heap.size, 3, none⟩ (.slice none 0 0)) g2 (g2 + 1) (some ⟨g2, 0, none⟩) d2 x3)) := by
        refine LG.out.mono ?_
        rintro e w3 ⟨rfl, hb9⟩
        have hb3 := (below_drew' (Below.refl w1.heap.size w1)).trans hb9
        have S3 : w1.heap.size ≤ w3.heap.size := hb3.size
        have R3 := Lib.hid (R1.out.same hb3)
        obtain ⟨wz, hwz⟩ : ∃ X, X = (((w3.setCell ⟨w.heap.size, 0, none⟩ (.int .i64 0)).setCell ⟨w.heap.size, 1, none⟩ (.int .i64 0)).setCell ⟨w.heap.size, 2, none⟩ (.slice none 0 0)).setCell ⟨w.heap.size, 3, none⟩ (.slice none 0 0) := ⟨_, rfl⟩
        have TS : Touch w3 wz w.heap.size (w.heap.size + 1) := by rw [hwz]; exact (((touch_setR w3 w.heap.size 0 (.int .i64 0)).trans (touch_setR _ w.heap.size 1 (.int .i64 0))).trans (touch_setR _ w.heap.size 2 (.slice none 0 0))).trans (touch_setR _ w.heap.size 3 (.slice none 0 0))
        have KZ : Blk wz w.heap.size [.int .i64 0, .int .i64 0, .slice none 0 0, .slice none 0 0] 40 := by rw [hwz]; exact (((R3.out.set 0 (.int .i64 0)).set 1 (.int .i64 0)).set 2 (.slice none 0 0)).set 3 (.slice none 0 0)
        rw [← hwz]
        clear hwz
        have SZ := TS.size
        have c0 := (hb3.cell (p := ⟨g, 0, none⟩) (World.block_lt_of_cell? w1 _ C0)).trans C0
        have c1 := (hb3.cell (p := ⟨g0, 0, none⟩) (World.block_lt_of_cell? w1 _ I0)).trans I0
        have c2 := (hb3.cell (p := ⟨g0, 1, none⟩) (World.block_lt_of_cell? w1 _ I1)).trans I1
        have c3 := (hb3.cell (p := ⟨g, 1, none⟩) (World.block_lt_of_cell? w1 _ C1)).trans C1
        have c4 := (hb3.cell (p := ⟨g, 2, none⟩) (World.block_lt_of_cell? w1 _ C2)).trans C2
        have k0 := keepCell TS (World.block_lt_of_cell? w3 _ c0) (by show w.heap.size + 1 ≤ g; omega) c0
        have k1 := keepCell TS (World.block_lt_of_cell? w3 _ c1) (by show w.heap.size + 1 ≤ g0; omega) c1
        have k2 := keepCell TS (World.block_lt_of_cell? w3 _ c2) (by show w.heap.size + 1 ≤ g0; omega) c2
        have k3 := keepCell TS (World.block_lt_of_cell? w3 _ c3) (by show w.heap.size + 1 ≤ g; omega) c3
        have k4 := keepCell TS (World.block_lt_of_cell? w3 _ c4) (by show w.heap.size + 1 ≤ g; omega) c4
        have BZ := below_touch (B1.out.trans (hb3.mono (by omega))) TS (Nat.le_refl _) (by omega)
        have o1 := (N1.out.keep hb3).touch TS (.inr (by omega))
        have o2 := (N2.out.keep hb3).touch TS (.inr (by omega))
        exact ⟨rfl, Lib.hid ⟨c0, c1, c2, c3, c4⟩, Lib.hid ⟨k0, k1, k2, k3, k4⟩, R3, Lib.hid KZ, Lib.hid BZ, Lib.hid (by omega), Lib.hid o1, Lib.hid o2⟩
      go_region_held3 (fun w' : World => w'.cell? ⟨g, 0, none⟩ = some (.slice (some ⟨g0, 0, none⟩) 2 d0) ∧ w'.cell? ⟨g0, 0, none⟩ = some (.int .i64 p) ∧ w'.cell? ⟨g0, 1, none⟩ = some (.int .i64 q) ∧ w'.cell? ⟨g, 1, none⟩ = some (.slice (some ⟨g1, 0, none⟩) x2.length d1) ∧ w'.cell? ⟨g, 2, none⟩ = some (.slice (some ⟨g2, 0, none⟩) x3.length d2)) (first | exact EX.out | exact HQ.out | exact HS.out)
        ((go_at_call 67; refine LG2.out.mono ?_; rintro e w3 ⟨rfl, HQ, HS, R3, KZ, BZ, SZ0, O1, O2⟩; have f0 := R3.out.free 0; have f1 := R3.out.free 1; have f2 := R3.out.free 2; have f3 := R3.out.free 3; have y0 := R3.out.cell 0; have y1 := R3.out.cell 1; have y2 := R3.out.cell 2; have y3 := R3.out.cell 3; simp only [List.getElem?_cons_zero, List.getElem?_cons_succ] at y0 y1 y2 y3))
      all_goals
        have SZ := SZ0.out
        clear R1 R3 C0 C1 C2 EX HQ HS LG LG2 EV EA
        generalize (((w3.setCell ⟨w.heap.size, 0, none⟩ (.int .i64 0)).setCell ⟨w.heap.size, 1, none⟩ (.int .i64 0)).setCell ⟨w.heap.size, 2, none⟩ (.slice none 0 0)).setCell ⟨w.heap.size, 3, none⟩ (.slice none 0 0) = wz at *
        have r0 := KZ.out.cell 0
        have r1 := KZ.out.cell 1
        have r2 := KZ.out.cell 2
        have r3 := KZ.out.cell 3
        simp only [List.getElem?_cons_zero, List.getElem?_cons_succ] at r0 r1 r2 r3
        go_wp2_with fail
        refine bodyPost_ret (v := .tuple #[.agg #[.int .i64 0, .int .i64 0, .slice none 0 0, .slice none 0 0], .bool false]) (by simp [results, Tryd.results48, go_sem, r0, r1, r2, r3]) rfl ?_
        exact RetCrowd.no HF2.out BZ.out
    | true =>
      have LG := Lib.hid (giveCrowd_true w1.drew p q (some ⟨g1, 0, none⟩) d1 x2 (some ⟨g2, 0, none⟩) d2 x3 ⟨Q1.out.mono (by show g1 + 1 ≤ w1.heap.size; omega), Q2.out.mono (by show g2 + 1 ≤ w1.heap.size; omega)⟩ (by omega) (by omega) hV)
      have HF2 : Hid (RF = (p, q, x2, x3, true)) := by rw [Hid, HF.out, hV]; rfl
      clear HF hV Q1 Q2
      go_wp2_with fail
      have LG2 : Hid (Calls Tryd.prog 67 #[.agg #[.int .i64 p, .int .i64 q, .slice (some ⟨g1, 0, none⟩) x2.length d1, .slice (some ⟨g2, 0, none⟩) x3.length d2]] w1.drew fun e w3 => e = .returned (.tuple #[.agg #[.int .i64 p, .int .i64 q, .slice (some ⟨g1, 0, none⟩) x2.length d1, .slice (some ⟨g2, 0, none⟩) x3.length d2], .bool true]) ∧ Hid ((fun w' : World => w'.cell? ⟨g, 0, none⟩ = some (.slice (some ⟨g0, 0, none⟩) 2 d0) ∧ w'.cell? ⟨g0, 0, none⟩ = some (.int .i64 p) ∧ w'.cell? ⟨g0, 1, none⟩ = some (.int .i64 q) ∧ w'.cell? ⟨g, 1, none⟩ = some (.slice (some ⟨g1, 0, none⟩) x2.length d1) ∧ w'.cell? ⟨g, 2, none⟩ = some (.slice (some ⟨g2, 0, none⟩) x3.length d2)) w3) ∧ Hid ((fun w' : World => w'.cell? ⟨g, 0, none⟩ = some (.slice (some ⟨g0, 0, none⟩) 2 d0) ∧ w'.cell? ⟨g0, 0, none⟩ = some (.int .i64 p) ∧ w'.cell? ⟨g0, 1, none⟩ = some (.int .i64 q) ∧ w'.cell? ⟨g, 1, none⟩ = some (.slice (some ⟨g1, 0, none⟩) x2.length d1) ∧ w'.cell? ⟨g, 2, none⟩ = some (.slice (some ⟨g2, 0, none⟩) x3.length d2)) ((((w3.setCell ⟨w.heap.size, 0, none⟩ (.int .i64 p)).setCell ⟨w.heap.size, 1, none⟩ (.int .i64 q)).setCell ⟨w.heap.size, 2, none⟩ (.slice (some ⟨g1, 0, none⟩) x2.length d1)).setCell ⟨w.heap.size, 3, none⟩ (.slice (some ⟨g2, 0, none⟩) x3.length d2))) ∧ Hid (Blk w3 w.heap.size [.int .i64 0, .int .i64 0, .slice none 0 0, .slice none 0 0] 40) ∧ Hid (Blk ((((w3.setCell ⟨w.heap.size, 0, none⟩ (.int .i64 p)).setCell ⟨w.heap.size, 1, none⟩ (.int .i64 q)).setCell ⟨w.heap.size, 2, none⟩ (.slice (some ⟨g1, 0, none⟩) x2.length d1)).setCell ⟨w.heap.size, 3, none⟩ (.slice (some ⟨g2, 0, none⟩) x3.length d2)) w.heap.size [.int .i64 p, .int .i64 q, .slice (some ⟨g1, 0, none⟩) x2.length d1, .slice (some ⟨g2, 0, none⟩) x3.length d2] 40) ∧ Hid (Below w.heap.size w ((((w3.setCell ⟨w.heap.size, 0, none⟩ (.int .i64 p)).setCell ⟨w.heap.size, 1, none⟩ (.int .i64 q)).setCell ⟨w.heap.size, 2, none⟩ (.slice (some ⟨g1, 0, none⟩) x2.length d1)).setCell ⟨w.heap.size, 3, none⟩ (.slice (some ⟨g2, 0, none⟩) x3.length d2))) ∧ Hid (w1.heap.size ≤ ((((w3.setCell ⟨w.heap.size, 0, none⟩ (.int .i64 p)).setCell ⟨w.heap.size, 1, none⟩ (.int .i64 q)).setCell ⟨w.heap.size, 2, none⟩ (.slice (some ⟨g1, 0, none⟩) x2.length d1)).setCell ⟨w.heap.size, 3, none⟩ (.slice (some ⟨g2, 0, none⟩) x3.length d2)).heap.size) ∧ Hid (OwnI 2 ((((w3.setCell ⟨w.heap.size, 0, none⟩ (.int .i64 p)).setCell ⟨w.heap.size, 1, none⟩ (.int .i64 q)).setCell ⟨w.heap.size, 2, none⟩ (.slice (some ⟨g1, 0, none⟩) x2.length d1)).setCell ⟨w.heap.size, 3, none⟩ (.slice (some ⟨g2, 0, none⟩) x3.length d2)) g1 (g1 + 1) (some ⟨g1, 0, none⟩) d1 x2) ∧ Hid (OwnI 2 ((((w3.setCell ⟨w.heap.size, 0, none⟩ (.int .i64 p)).setCell ⟨w.heap.size, 1, none⟩ (.int .i64 q)).setCell ⟨w.heap.size, 2, none⟩ (.slice (some ⟨g1, 0, none⟩) x2.length d1)).setCell ⟨w.heap.size, 3, none⟩ (.slice (some ⟨g2, 0, none⟩) x3.length d2)) g2 (g2 + 1) (some ⟨g2, 0, none⟩) d2 x3)) := by
        refine LG.out.mono ?_
        rintro e w3 ⟨rfl, hb9⟩
        have hb3 := (below_drew' (Below.refl w1.heap.size w1)).trans hb9
        have S3 : w1.heap.size ≤ w3.heap.size := hb3.size
        have R3 := Lib.hid (R1.out.same hb3)
        obtain ⟨wz, hwz⟩ : ∃ X, X = (((w3.setCell ⟨w.heap.size, 0, none⟩ (.int .i64 p)).setCell ⟨w.heap.size, 1, none⟩ (.int .i64 q)).setCell ⟨w.heap.size, 2, none⟩ (.slice (some ⟨g1, 0, none⟩) x2.length d1)).setCell ⟨w.heap.size, 3, none⟩ (.slice (some ⟨g2, 0, none⟩) x3.length d2) := ⟨_, rfl⟩
        have TS : Touch w3 wz w.heap.size (w.heap.size + 1) := by rw [hwz]; exact (((touch_setR w3 w.heap.size 0 (.int .i64 p)).trans (touch_setR _ w.heap.size 1 (.int .i64 q))).trans (touch_setR _ w.heap.size 2 (.slice (some ⟨g1, 0, none⟩) x2.length d1))).trans (touch_setR _ w.heap.size 3 (.slice (some ⟨g2, 0, none⟩) x3.length d2))
        have KZ : Blk wz w.heap.size [.int .i64 p, .int .i64 q, .slice (some ⟨g1, 0, none⟩) x2.length d1, .slice (some ⟨g2, 0, none⟩) x3.length d2] 40 := by rw [hwz]; exact (((R3.out.set 0 (.int .i64 p)).set 1 (.int .i64 q)).set 2 (.slice (some ⟨g1, 0, none⟩) x2.length d1)).set 3 (.slice (some ⟨g2, 0, none⟩) x3.length d2)
        rw [← hwz]
        clear hwz
        have SZ := TS.size
        have c0 := (hb3.cell (p := ⟨g, 0, none⟩) (World.block_lt_of_cell? w1 _ C0)).trans C0
        have c1 := (hb3.cell (p := ⟨g0, 0, none⟩) (World.block_lt_of_cell? w1 _ I0)).trans I0
        have c2 := (hb3.cell (p := ⟨g0, 1, none⟩) (World.block_lt_of_cell? w1 _ I1)).trans I1
        have c3 := (hb3.cell (p := ⟨g, 1, none⟩) (World.block_lt_of_cell? w1 _ C1)).trans C1
        have c4 := (hb3.cell (p := ⟨g, 2, none⟩) (World.block_lt_of_cell? w1 _ C2)).trans C2
        have k0 := keepCell TS (World.block_lt_of_cell? w3 _ c0) (by show w.heap.size + 1 ≤ g; omega) c0
        have k1 := keepCell TS (World.block_lt_of_cell? w3 _ c1) (by show w.heap.size + 1 ≤ g0; omega) c1
        have k2 := keepCell TS (World.block_lt_of_cell? w3 _ c2) (by show w.heap.size + 1 ≤ g0; omega) c2
        have k3 := keepCell TS (World.block_lt_of_cell? w3 _ c3) (by show w.heap.size + 1 ≤ g; omega) c3
        have k4 := keepCell TS (World.block_lt_of_cell? w3 _ c4) (by show w.heap.size + 1 ≤ g; omega) c4
        have BZ := below_touch (B1.out.trans (hb3.mono (by omega))) TS (Nat.le_refl _) (by omega)
        have o1 := (N1.out.keep hb3).touch TS (.inr (by omega))
        have o2 := (N2.out.keep hb3).touch TS (.inr (by omega))
        exact ⟨rfl, Lib.hid ⟨c0, c1, c2, c3, c4⟩, Lib.hid ⟨k0, k1, k2, k3, k4⟩, R3, Lib.hid KZ, Lib.hid BZ, Lib.hid (by omega), Lib.hid o1, Lib.hid o2⟩
      go_region_held3 (fun w' : World => w'.cell? ⟨g, 0, none⟩ = some (.slice (some ⟨g0, 0, none⟩) 2 d0) ∧ w'.cell? ⟨g0, 0, none⟩ = some (.int .i64 p) ∧ w'.cell? ⟨g0, 1, none⟩ = some (.int .i64 q) ∧ w'.cell? ⟨g, 1, none⟩ = some (.slice (some ⟨g1, 0, none⟩) x2.length d1) ∧ w'.cell? ⟨g, 2, none⟩ = some (.slice (some ⟨g2, 0, none⟩) x3.length d2)) (first | exact EX.out | exact HQ.out | exact HS.out)
        ((go_at_call 67; refine LG2.out.mono ?_; rintro e w3 ⟨rfl, HQ, HS, R3, KZ, BZ, SZ0, O1, O2⟩; have f0 := R3.out.free 0; have f1 := R3.out.free 1; have f2 := R3.out.free 2; have f3 := R3.out.free 3; have y0 := R3.out.cell 0; have y1 := R3.out.cell 1; have y2 := R3.out.cell 2; have y3 := R3.out.cell 3; simp only [List.getElem?_cons_zero, List.getElem?_cons_succ] at y0 y1 y2 y3))
      all_goals
        have SZ := SZ0.out
        clear R1 R3 C0 C1 C2 EX HQ HS LG LG2 EV EA
        generalize (((w3.setCell ⟨w.heap.size, 0, none⟩ (.int .i64 p)).setCell ⟨w.heap.size, 1, none⟩ (.int .i64 q)).setCell ⟨w.heap.size, 2, none⟩ (.slice (some ⟨g1, 0, none⟩) x2.length d1)).setCell ⟨w.heap.size, 3, none⟩ (.slice (some ⟨g2, 0, none⟩) x3.length d2) = wz at *
        have r0 := KZ.out.cell 0
        have r1 := KZ.out.cell 1
        have r2 := KZ.out.cell 2
        have r3 := KZ.out.cell 3
        simp only [List.getElem?_cons_zero, List.getElem?_cons_succ] at r0 r1 r2 r3
        go_wp2_with fail
        refine bodyPost_ret (v := .tuple #[.agg #[.int .i64 p, .int .i64 q, .slice (some ⟨g1, 0, none⟩) x2.length d1, .slice (some ⟨g2, 0, none⟩) x3.length d2], .bool true]) (by simp [results, Tryd.results48, go_sem, r0, r1, r2, r3]) rfl ?_
        rw [HF2.out]
        exact ⟨BZ.out, _, _, _, _, rfl, ⟨g2, ⟨by omega, by omega⟩, O1.out.mono (by omega) (by omega), O2.out.mono (Nat.le_refl _) (by omega)⟩⟩
end Go.Proofs.YtiimhpopcgiejaaDoor
