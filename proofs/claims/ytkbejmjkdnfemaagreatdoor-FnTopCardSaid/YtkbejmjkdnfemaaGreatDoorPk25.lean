/-
  Part 25 of what the proof stands on: lemmas and contracts, each with its conditions ahead of the colon.
-/
import Derived.Test.YtkbejmjkdnfemaaGreatDoorPk03
import Derived.Test.YtkbejmjkdnfemaaGreatDoorPk04
import Derived.Test.YtkbejmjkdnfemaaGreatDoorPk05
import Derived.Test.YtkbejmjkdnfemaaGreatDoorPk24
namespace Go.Proofs.YtkbejmjkdnfemaaGreatDoor
set_option linter.unusedVariables false
set_option linter.unusedSimpArgs false
open Go.RowKit

/-- A struct of its own and whether it was taken. -/
def RetGame (w : World) (r : Int × Int × List Int × List Int × Bool) (e : Ending) (w' : World) : Prop := Below w.heap.size w w' ∧ ∃ (a2 : Option Addr) (c2 : Nat) (a3 : Option Addr) (c3 : Nat), e = .returned (.tuple #[.agg #[.int .i64 r.1, .int .i64 r.2.1, .slice a2 r.2.2.1.length c2, .slice a3 r.2.2.2.1.length c3], .bool r.2.2.2.2]) ∧ OwnGame w' w.heap.size w'.heap.size a2 c2 r.2.2.1 a3 c3 r.2.2.2.1
theorem RetGame.no {w w' : World} {r : Int × Int × List Int × List Int × Bool} (hr : r = (0, 0, [], [], false)) (h : Below w.heap.size w w') : RetGame w r (.returned (.tuple #[.agg #[.int .i64 0, .int .i64 0, .slice none 0 0, .slice none 0 0], .bool false])) w' := by
  subst hr
  exact ⟨h, none, 0, none, 0, rfl, ⟨w.heap.size, ⟨Nat.le_refl _, h.size⟩, ⟨World.ownsRow_nil _ _ _ _, fun b hb => by cases hb⟩, ⟨World.ownsRow_nil _ _ _ _, fun b hb => by cases hb⟩⟩⟩
theorem touch_setRG (w : World) (g j : Nat) (u : Value) : Touch w (w.setCell ⟨g, j, none⟩ u) g (g + 1) :=
  Touch.of_grown ⟨rfl, rfl, rfl, by simp, fun i _ hi => Below.heap_setCell _ _ _ _ (fun e => hi (by simp [e]))⟩ (Nat.le_refl _) (Nat.lt_succ_self _)
set_option maxRecDepth 200000 in
set_option maxHeartbeats 8000000 in
theorem readGame_any (w : World) (hT : Tab w) (hS : Shp w) (hE : Errs w) (s : ByteArray) (hs : s.size ≤ 1048576) :
    Calls Tryz.prog 33 #[.string s] w (RetGame w (rd2F gameB s.data.toList)) := by
  have KR0 := Lib.hid (Blk.new w [.int .i64 0, .int .i64 0, .slice none 0 0, .slice none 0 0] 26)
  have B0 := Lib.hid (bl1 w (.cells #[.int .i64 0, .int .i64 0, .slice none 0 0, .slice none 0 0] 26))
  have LP := Lib.hid (readParts_any (w.alloc (.cells #[.int .i64 0, .int .i64 0, .slice none 0 0, .slice none 0 0] 26)) (hT.to B0.out) (hS.to B0.out) (hE.to B0.out) s 3 (by omega) hs)
  have HNo := Lib.hid (fun h => rd2F_none (V := gameB) (l := s.data.toList) h)
  have HSo := Lib.hid (fun p q x2 x3 h => rd2F_some (V := gameB) (l := s.data.toList) (p := p) (q := q) (x2 := x2) (x3 := x3) h)
  have HG := Lib.hid (fun yss h => listsF_get (cnt := 3) (l := s.data.toList) (yss := yss) h)
  unfold RetParts at LP
  generalize rd2F gameB s.data.toList = RF at *
  generalize listsF 3 s.data.toList = LF at *
  clear hT hS hE hs
  go_enter Tryz.func33, Tryz.ntmps33
  go_wp2_with fail
  refine LP.out.mono ?_
  rintro e w1 ⟨hb, v, rfl, hv⟩
  have B1 := Lib.hid (below_then B0.out hb)
  have R1 := Lib.hid (KR0.out.same hb)
  have S1 := hb.size
  rw [World.size_alloc] at S1 hv
  clear LP hb
  cases LF with
  | none =>
    have HF := Lib.hid (HNo.out rfl)
    clear HNo HSo HG hv
    have f0 := R1.out.free 0
    have f1 := R1.out.free 1
    have f2 := R1.out.free 2
    have f3 := R1.out.free 3
    have r0 := R1.out.cell 0
    have r1 := R1.out.cell 1
    have r2 := R1.out.cell 2
    have r3 := R1.out.cell 3
    simp only [List.getElem?_cons_zero, List.getElem?_cons_succ] at r0 r1 r2 r3
    go_wp2_with fail
    obtain ⟨wz, hwz⟩ : ∃ X, X = (((w1.setCell ⟨w.heap.size, 0, none⟩ (.int .i64 0)).setCell ⟨w.heap.size, 1, none⟩ (.int .i64 0)).setCell ⟨w.heap.size, 2, none⟩ (.slice none 0 0)).setCell ⟨w.heap.size, 3, none⟩ (.slice none 0 0) := ⟨_, rfl⟩
    have KZ : Blk wz (w.heap.size) [.int .i64 0, .int .i64 0, .slice none 0 0, .slice none 0 0] 26 := by rw [hwz]; exact (((R1.out.set 0 (.int .i64 0)).set 1 (.int .i64 0)).set 2 (.slice none 0 0)).set 3 (.slice none 0 0)
    have TZ : Touch w1 wz (w.heap.size) (w.heap.size + 1) := by rw [hwz]; exact (((touch_setRG w1 (w.heap.size) 0 (.int .i64 0)).trans (touch_setRG _ (w.heap.size) 1 (.int .i64 0))).trans (touch_setRG _ (w.heap.size) 2 (.slice none 0 0))).trans (touch_setRG _ (w.heap.size) 3 (.slice none 0 0))
    have BZ : Below w.heap.size w wz := below_touch B1.out TZ (by omega) (by have := R1.out.lt; omega)
    rw [← hwz]
    clear hwz r0 r1 r2 r3
    have r0 := KZ.cell 0
    have r1 := KZ.cell 1
    have r2 := KZ.cell 2
    have r3 := KZ.cell 3
    simp only [List.getElem?_cons_zero, List.getElem?_cons_succ] at r0 r1 r2 r3
    refine bodyPost_ret (v := .tuple #[.agg #[.int .i64 0, .int .i64 0, .slice none 0 0, .slice none 0 0], .bool false]) (by simp [results, Tryz.results33, go_sem, r0, r1, r2, r3]) rfl ?_
    exact RetGame.no HF.out BZ
  | some yss =>
    obtain ⟨g, c, vs, rfl, hO, hOrd⟩ := hv yss rfl
    obtain ⟨hn1, hn2, hn3⟩ := HG.out yss rfl
    obtain ⟨p, q, x2, x3, rfl, l2, l3⟩ := lists3 hn1 hn2 hn3
    have HF := Lib.hid (HSo.out p q x2 x3 rfl)
    clear hn1 hn2 hn3 HG HNo HSo hv
    obtain ⟨g0, d0, v0, o0⟩ := hO.row 0 [p, q] rfl
    obtain ⟨g1, d1, v1, o1⟩ := hO.row 1 x2 rfl
    obtain ⟨g2, d2, v2, o2⟩ := hO.row 2 x3 rfl
    have C0 := hO.cellAt rfl v0
    have C1 := hO.cellAt rfl v1
    have C2 := hO.cellAt rfl v2
    have I0 := o0.cellAt (j := 0) (x := p) rfl
    have I1 := o0.cellAt (j := 1) (x := q) rfl
    have P1 := o1.place
    have N1 := Lib.hid o1.narrow
    have P2 := o2.place
    have N2 := Lib.hid o2.narrow
    have hlt12 := hOrd 1 2 _ _ g1 g2 (by omega) v1 v2 rfl rfl
    clear hO hOrd o0 o1 o2 v0 v1 v2
    have EE : Hid ((fun w' : World => w'.cell? ⟨g, 0, none⟩ = some (.slice (some ⟨g0, 0, none⟩) 2 d0) ∧ w'.cell? ⟨g0, 0, none⟩ = some (.int .i64 p) ∧ w'.cell? ⟨g0, 1, none⟩ = some (.int .i64 q) ∧ w'.cell? ⟨g, 1, none⟩ = some (.slice (some ⟨g1, 0, none⟩) x2.length d1) ∧ w'.cell? ⟨g, 2, none⟩ = some (.slice (some ⟨g2, 0, none⟩) x3.length d2)) w1) := ⟨C0, I0, I1, C1, C2⟩
    have EX : Hid ((fun w' : World => w'.cell? ⟨g, 0, none⟩ = some (.slice (some ⟨g0, 0, none⟩) 2 d0) ∧ w'.cell? ⟨g0, 0, none⟩ = some (.int .i64 p) ∧ w'.cell? ⟨g0, 1, none⟩ = some (.int .i64 q) ∧ w'.cell? ⟨g, 1, none⟩ = some (.slice (some ⟨g1, 0, none⟩) x2.length d1) ∧ w'.cell? ⟨g, 2, none⟩ = some (.slice (some ⟨g2, 0, none⟩) x3.length d2)) w1.drew) := ⟨C0, I0, I1, C1, C2⟩
    have EV : Hid ((fun w' : World => w'.cell? ⟨g, 0, none⟩ = some (.slice (some ⟨g0, 0, none⟩) 2 d0) ∧ w'.cell? ⟨g0, 0, none⟩ = some (.int .i64 p) ∧ w'.cell? ⟨g0, 1, none⟩ = some (.int .i64 q) ∧ w'.cell? ⟨g, 1, none⟩ = some (.slice (some ⟨g1, 0, none⟩) x2.length d1) ∧ w'.cell? ⟨g, 2, none⟩ = some (.slice (some ⟨g2, 0, none⟩) x3.length d2)) (w1.alloc (.cells #[.int .i64 p, .int .i64 q, .slice (some ⟨g1, 0, none⟩) x2.length d1, .slice (some ⟨g2, 0, none⟩) x3.length d2] 26)).drew) := by
      have hb := bl1 w1 (.cells #[.int .i64 p, .int .i64 q, .slice (some ⟨g1, 0, none⟩) x2.length d1, .slice (some ⟨g2, 0, none⟩) x3.length d2] 26)
      exact ⟨(hb.cell (p := ⟨g, 0, none⟩) (World.block_lt_of_cell? w1 _ C0)).trans C0, (hb.cell (p := ⟨g0, 0, none⟩) (World.block_lt_of_cell? w1 _ I0)).trans I0, (hb.cell (p := ⟨g0, 1, none⟩) (World.block_lt_of_cell? w1 _ I1)).trans I1, (hb.cell (p := ⟨g, 1, none⟩) (World.block_lt_of_cell? w1 _ C1)).trans C1, (hb.cell (p := ⟨g, 2, none⟩) (World.block_lt_of_cell? w1 _ C2)).trans C2⟩
    have EA : Hid ((fun w' : World => w'.cell? ⟨g, 0, none⟩ = some (.slice (some ⟨g0, 0, none⟩) 2 d0) ∧ w'.cell? ⟨g0, 0, none⟩ = some (.int .i64 p) ∧ w'.cell? ⟨g0, 1, none⟩ = some (.int .i64 q) ∧ w'.cell? ⟨g, 1, none⟩ = some (.slice (some ⟨g1, 0, none⟩) x2.length d1) ∧ w'.cell? ⟨g, 2, none⟩ = some (.slice (some ⟨g2, 0, none⟩) x3.length d2)) (w1.alloc (.cells #[.int .i64 0, .int .i64 0, .slice none 0 0, .slice none 0 0] 26)).drew) := by
      have hb := bl1 w1 (.cells #[.int .i64 0, .int .i64 0, .slice none 0 0, .slice none 0 0] 26)
      exact ⟨(hb.cell (p := ⟨g, 0, none⟩) (World.block_lt_of_cell? w1 _ C0)).trans C0, (hb.cell (p := ⟨g0, 0, none⟩) (World.block_lt_of_cell? w1 _ I0)).trans I0, (hb.cell (p := ⟨g0, 1, none⟩) (World.block_lt_of_cell? w1 _ I1)).trans I1, (hb.cell (p := ⟨g, 1, none⟩) (World.block_lt_of_cell? w1 _ C1)).trans C1, (hb.cell (p := ⟨g, 2, none⟩) (World.block_lt_of_cell? w1 _ C2)).trans C2⟩
    clear EE
    go_wp2_with fail
    go_region_held3 (fun w' : World => w'.cell? ⟨g, 0, none⟩ = some (.slice (some ⟨g0, 0, none⟩) 2 d0) ∧ w'.cell? ⟨g0, 0, none⟩ = some (.int .i64 p) ∧ w'.cell? ⟨g0, 1, none⟩ = some (.int .i64 q) ∧ w'.cell? ⟨g, 1, none⟩ = some (.slice (some ⟨g1, 0, none⟩) x2.length d1) ∧ w'.cell? ⟨g, 2, none⟩ = some (.slice (some ⟨g2, 0, none⟩) x3.length d2)) (first | exact EX.out | exact EV.out | exact EA.out) (fail)
    all_goals
      have K2 : Blk (w1.alloc (.cells #[.int .i64 p, .int .i64 q, .slice (some ⟨g1, 0, none⟩) x2.length d1, .slice (some ⟨g2, 0, none⟩) x3.length d2] 26)).drew w1.heap.size [.int .i64 p, .int .i64 q, .slice (some ⟨g1, 0, none⟩) x2.length d1, .slice (some ⟨g2, 0, none⟩) x3.length d2] 26 := Blk.new w1 [.int .i64 p, .int .i64 q, .slice (some ⟨g1, 0, none⟩) x2.length d1, .slice (some ⟨g2, 0, none⟩) x3.length d2] 26
      have b12 : Below w1.heap.size w1 (w1.alloc (.cells #[.int .i64 p, .int .i64 q, .slice (some ⟨g1, 0, none⟩) x2.length d1, .slice (some ⟨g2, 0, none⟩) x3.length d2] 26)).drew := below_drew' (bl1 w1 (.cells #[.int .i64 p, .int .i64 q, .slice (some ⟨g1, 0, none⟩) x2.length d1, .slice (some ⟨g2, 0, none⟩) x3.length d2] 26))
      have R2 := Lib.hid (R1.out.same b12)
      have M1 := Lib.hid (N1.out.keep b12)
      have M2 := Lib.hid (N2.out.keep b12)
      have B2 := Lib.hid (B1.out.trans (b12.mono (by omega)))
      have S2 := b12.size
      clear R1 N1 N2 B1 EX EV EA C0 C1 C2 I0 I1 b12
      generalize (w1.alloc (.cells #[.int .i64 p, .int .i64 q, .slice (some ⟨g1, 0, none⟩) x2.length d1, .slice (some ⟨g2, 0, none⟩) x3.length d2] 26)).drew = w2 at *
      generalize w1.heap.size = gs at *
      have LV := Lib.hid (validGame_any w2 p q (some ⟨g1, 0, none⟩) d1 x2 (some ⟨g2, 0, none⟩) d2 x3 ⟨M1.out.rd.mono (by omega), M2.out.rd.mono (by omega)⟩ (by omega) (by omega))
      have z0 := K2.cell 0
      have z1 := K2.cell 1
      have z2 := K2.cell 2
      have z3 := K2.cell 3
      simp only [List.getElem?_cons_zero, List.getElem?_cons_succ] at z0 z1 z2 z3
      cases hV : gameB p q x2 x3 with
      | false =>
        rw [hV] at LV
        have HF2 : Hid (RF = (0, 0, [], [], false)) := by rw [Hid, HF.out, hV]; rfl
        clear HF hV
        go_wp2_with fail
        refine LV.out.mono ?_
        rintro e w3 ⟨rfl, hb3⟩
        have R3 := Lib.hid (R2.out.same hb3)
        have K3 := K2.same hb3
        have B3 := Lib.hid (B2.out.trans (hb3.mono B2.out.size))
        have O1 := Lib.hid (M1.out.keep hb3)
        have O2 := Lib.hid (M2.out.keep hb3)
        have S3 := hb3.size
        clear R2 B2 M1 M2 hb3 LV K2 z0 z1 z2 z3
        have f0 := R3.out.free 0
        have f1 := R3.out.free 1
        have f2 := R3.out.free 2
        have f3 := R3.out.free 3
        have r0 := R3.out.cell 0
        have r1 := R3.out.cell 1
        have r2 := R3.out.cell 2
        have r3 := R3.out.cell 3
        simp only [List.getElem?_cons_zero, List.getElem?_cons_succ] at r0 r1 r2 r3
        go_wp2_with fail
        obtain ⟨wz, hwz⟩ : ∃ X, X = (((w3.setCell ⟨w.heap.size, 0, none⟩ (.int .i64 0)).setCell ⟨w.heap.size, 1, none⟩ (.int .i64 0)).setCell ⟨w.heap.size, 2, none⟩ (.slice none 0 0)).setCell ⟨w.heap.size, 3, none⟩ (.slice none 0 0) := ⟨_, rfl⟩
        have KZ : Blk wz (w.heap.size) [.int .i64 0, .int .i64 0, .slice none 0 0, .slice none 0 0] 26 := by rw [hwz]; exact (((R3.out.set 0 (.int .i64 0)).set 1 (.int .i64 0)).set 2 (.slice none 0 0)).set 3 (.slice none 0 0)
        have TZ : Touch w3 wz (w.heap.size) (w.heap.size + 1) := by rw [hwz]; exact (((touch_setRG w3 (w.heap.size) 0 (.int .i64 0)).trans (touch_setRG _ (w.heap.size) 1 (.int .i64 0))).trans (touch_setRG _ (w.heap.size) 2 (.slice none 0 0))).trans (touch_setRG _ (w.heap.size) 3 (.slice none 0 0))
        have BZ : Below w.heap.size w wz := below_touch B3.out TZ (by omega) (by have := R3.out.lt; omega)
        rw [← hwz]
        clear hwz r0 r1 r2 r3
        have r0 := KZ.cell 0
        have r1 := KZ.cell 1
        have r2 := KZ.cell 2
        have r3 := KZ.cell 3
        simp only [List.getElem?_cons_zero, List.getElem?_cons_succ] at r0 r1 r2 r3
        refine bodyPost_ret (v := .tuple #[.agg #[.int .i64 0, .int .i64 0, .slice none 0 0, .slice none 0 0], .bool false]) (by simp [results, Tryz.results33, go_sem, r0, r1, r2, r3]) rfl ?_
        exact RetGame.no HF2.out BZ
      | true =>
        rw [hV] at LV
        have HF2 : Hid (RF = (p, q, x2, x3, true)) := by rw [Hid, HF.out, hV]; rfl
        clear HF hV
        go_wp2_with fail
        refine LV.out.mono ?_
        rintro e w3 ⟨rfl, hb3⟩
        have R3 := Lib.hid (R2.out.same hb3)
        have K3 := K2.same hb3
        have B3 := Lib.hid (B2.out.trans (hb3.mono B2.out.size))
        have O1 := Lib.hid (M1.out.keep hb3)
        have O2 := Lib.hid (M2.out.keep hb3)
        have S3 := hb3.size
        clear R2 B2 M1 M2 hb3 LV K2 z0 z1 z2 z3
        have z0 := K3.cell 0
        have z1 := K3.cell 1
        have z2 := K3.cell 2
        have z3 := K3.cell 3
        simp only [List.getElem?_cons_zero, List.getElem?_cons_succ] at z0 z1 z2 z3
        have f0 := R3.out.free 0
        have f1 := R3.out.free 1
        have f2 := R3.out.free 2
        have f3 := R3.out.free 3
        have r0 := R3.out.cell 0
        have r1 := R3.out.cell 1
        have r2 := R3.out.cell 2
        have r3 := R3.out.cell 3
        simp only [List.getElem?_cons_zero, List.getElem?_cons_succ] at r0 r1 r2 r3
        go_wp2_with fail
        obtain ⟨wz, hwz⟩ : ∃ X, X = (((w3.setCell ⟨w.heap.size, 0, none⟩ (.int .i64 p)).setCell ⟨w.heap.size, 1, none⟩ (.int .i64 q)).setCell ⟨w.heap.size, 2, none⟩ (.slice (some ⟨g1, 0, none⟩) x2.length d1)).setCell ⟨w.heap.size, 3, none⟩ (.slice (some ⟨g2, 0, none⟩) x3.length d2) := ⟨_, rfl⟩
        have KZ : Blk wz (w.heap.size) [.int .i64 p, .int .i64 q, .slice (some ⟨g1, 0, none⟩) x2.length d1, .slice (some ⟨g2, 0, none⟩) x3.length d2] 26 := by rw [hwz]; exact (((R3.out.set 0 (.int .i64 p)).set 1 (.int .i64 q)).set 2 (.slice (some ⟨g1, 0, none⟩) x2.length d1)).set 3 (.slice (some ⟨g2, 0, none⟩) x3.length d2)
        have TZ : Touch w3 wz (w.heap.size) (w.heap.size + 1) := by rw [hwz]; exact (((touch_setRG w3 (w.heap.size) 0 (.int .i64 p)).trans (touch_setRG _ (w.heap.size) 1 (.int .i64 q))).trans (touch_setRG _ (w.heap.size) 2 (.slice (some ⟨g1, 0, none⟩) x2.length d1))).trans (touch_setRG _ (w.heap.size) 3 (.slice (some ⟨g2, 0, none⟩) x3.length d2))
        have BZ : Below w.heap.size w wz := below_touch B3.out TZ (by omega) (by have := R3.out.lt; omega)
        rw [← hwz]
        clear hwz r0 r1 r2 r3
        have r0 := KZ.cell 0
        have r1 := KZ.cell 1
        have r2 := KZ.cell 2
        have r3 := KZ.cell 3
        simp only [List.getElem?_cons_zero, List.getElem?_cons_succ] at r0 r1 r2 r3
        refine bodyPost_ret (v := .tuple #[.agg #[.int .i64 p, .int .i64 q, .slice (some ⟨g1, 0, none⟩) x2.length d1, .slice (some ⟨g2, 0, none⟩) x3.length d2], .bool true]) (by simp [results, Tryz.results33, go_sem, r0, r1, r2, r3]) rfl ?_
        rw [HF2.out]
        exact ⟨BZ, _, _, _, _, rfl, ⟨g2, ⟨by omega, by have := TZ.size; omega⟩, (O1.out.touch TZ (by omega)).mono (by omega) (by omega), (O2.out.touch TZ (by omega)).mono (Nat.le_refl _) (by have := TZ.size; omega)⟩⟩
end Go.Proofs.YtkbejmjkdnfemaaGreatDoor
namespace Go.Proofs.YtkbejmjkdnfemaaGreatDoor
set_option linter.unusedVariables false
set_option linter.unusedSimpArgs false
open Go.RowKit

/-- A struct of its own and whether it was taken. -/
def RetValues (w : World) (r : Int × Int × List Int × Bool) (e : Ending) (w' : World) : Prop := Below w.heap.size w w' ∧ ∃ (a2 : Option Addr) (c2 : Nat), e = .returned (.tuple #[.agg #[.int .i64 r.1, .int .i64 r.2.1, .slice a2 r.2.2.1.length c2], .bool r.2.2.2]) ∧ OwnValues w' w.heap.size w'.heap.size a2 c2 r.2.2.1
theorem RetValues.no {w w' : World} {r : Int × Int × List Int × Bool} (hr : r = (0, 0, [], false)) (h : Below w.heap.size w w') : RetValues w r (.returned (.tuple #[.agg #[.int .i64 0, .int .i64 0, .slice none 0 0], .bool false])) w' := by
  subst hr
  exact ⟨h, none, 0, rfl, ⟨h.size, ⟨World.ownsRow_nil _ _ _ _, fun b hb => by cases hb⟩⟩⟩
theorem touch_setRV (w : World) (g j : Nat) (u : Value) : Touch w (w.setCell ⟨g, j, none⟩ u) g (g + 1) :=
  Touch.of_grown ⟨rfl, rfl, rfl, by simp, fun i _ hi => Below.heap_setCell _ _ _ _ (fun e => hi (by simp [e]))⟩ (Nat.le_refl _) (Nat.lt_succ_self _)
set_option maxRecDepth 200000 in
set_option maxHeartbeats 8000000 in
theorem readValues_any (w : World) (hT : Tab w) (hS : Shp w) (hE : Errs w) (s : ByteArray) (hs : s.size ≤ 1048576) :
    Calls Tryz.prog 34 #[.string s] w (RetValues w (rd1F valuesB s.data.toList)) := by
  have KR0 := Lib.hid (Blk.new w [.int .i64 0, .int .i64 0, .slice none 0 0] 28)
  have B0 := Lib.hid (bl1 w (.cells #[.int .i64 0, .int .i64 0, .slice none 0 0] 28))
  have LP := Lib.hid (readParts_any (w.alloc (.cells #[.int .i64 0, .int .i64 0, .slice none 0 0] 28)) (hT.to B0.out) (hS.to B0.out) (hE.to B0.out) s 2 (by omega) hs)
  have HNo := Lib.hid (fun h => rd1F_none (V := valuesB) (l := s.data.toList) h)
  have HSo := Lib.hid (fun p q x2 h => rd1F_some (V := valuesB) (l := s.data.toList) (p := p) (q := q) (x2 := x2) h)
  have HG := Lib.hid (fun yss h => listsF_get (cnt := 2) (l := s.data.toList) (yss := yss) h)
  unfold RetParts at LP
  generalize rd1F valuesB s.data.toList = RF at *
  generalize listsF 2 s.data.toList = LF at *
  clear hT hS hE hs
  go_enter Tryz.func34, Tryz.ntmps34
  go_wp2_with fail
  refine LP.out.mono ?_
  rintro e w1 ⟨hb, v, rfl, hv⟩
  have B1 := Lib.hid (below_then B0.out hb)
  have R1 := Lib.hid (KR0.out.same hb)
  have S1 := hb.size
  rw [World.size_alloc] at S1 hv
  clear LP hb
  cases LF with
  | none =>
    have HF := Lib.hid (HNo.out rfl)
    clear HNo HSo HG hv
    have f0 := R1.out.free 0
    have f1 := R1.out.free 1
    have f2 := R1.out.free 2
    have r0 := R1.out.cell 0
    have r1 := R1.out.cell 1
    have r2 := R1.out.cell 2
    simp only [List.getElem?_cons_zero, List.getElem?_cons_succ] at r0 r1 r2
    go_wp2_with fail
    obtain ⟨wz, hwz⟩ : ∃ X, X = ((w1.setCell ⟨w.heap.size, 0, none⟩ (.int .i64 0)).setCell ⟨w.heap.size, 1, none⟩ (.int .i64 0)).setCell ⟨w.heap.size, 2, none⟩ (.slice none 0 0) := ⟨_, rfl⟩
    have KZ : Blk wz (w.heap.size) [.int .i64 0, .int .i64 0, .slice none 0 0] 28 := by rw [hwz]; exact ((R1.out.set 0 (.int .i64 0)).set 1 (.int .i64 0)).set 2 (.slice none 0 0)
    have TZ : Touch w1 wz (w.heap.size) (w.heap.size + 1) := by rw [hwz]; exact ((touch_setRV w1 (w.heap.size) 0 (.int .i64 0)).trans (touch_setRV _ (w.heap.size) 1 (.int .i64 0))).trans (touch_setRV _ (w.heap.size) 2 (.slice none 0 0))
    have BZ : Below w.heap.size w wz := below_touch B1.out TZ (by omega) (by have := R1.out.lt; omega)
    rw [← hwz]
    clear hwz r0 r1 r2
    have r0 := KZ.cell 0
    have r1 := KZ.cell 1
    have r2 := KZ.cell 2
    simp only [List.getElem?_cons_zero, List.getElem?_cons_succ] at r0 r1 r2
    refine bodyPost_ret (v := .tuple #[.agg #[.int .i64 0, .int .i64 0, .slice none 0 0], .bool false]) (by simp [results, Tryz.results34, go_sem, r0, r1, r2]) rfl ?_
    exact RetValues.no HF.out BZ
  | some yss =>
    obtain ⟨g, c, vs, rfl, hO, hOrd⟩ := hv yss rfl
    obtain ⟨hn1, hn2, hn3⟩ := HG.out yss rfl
    obtain ⟨p, q, x2, rfl, l2⟩ := lists2 hn1 hn2 hn3
    have HF := Lib.hid (HSo.out p q x2 rfl)
    clear hn1 hn2 hn3 HG HNo HSo hv
    obtain ⟨g0, d0, v0, o0⟩ := hO.row 0 [p, q] rfl
    obtain ⟨g1, d1, v1, o1⟩ := hO.row 1 x2 rfl
    have C0 := hO.cellAt rfl v0
    have C1 := hO.cellAt rfl v1
    have I0 := o0.cellAt (j := 0) (x := p) rfl
    have I1 := o0.cellAt (j := 1) (x := q) rfl
    have P1 := o1.place
    have N1 := Lib.hid o1.narrow
    clear hO hOrd o0 o1 v0 v1
    have EE : Hid ((fun w' : World => w'.cell? ⟨g, 0, none⟩ = some (.slice (some ⟨g0, 0, none⟩) 2 d0) ∧ w'.cell? ⟨g0, 0, none⟩ = some (.int .i64 p) ∧ w'.cell? ⟨g0, 1, none⟩ = some (.int .i64 q) ∧ w'.cell? ⟨g, 1, none⟩ = some (.slice (some ⟨g1, 0, none⟩) x2.length d1)) w1) := ⟨C0, I0, I1, C1⟩
    have EX : Hid ((fun w' : World => w'.cell? ⟨g, 0, none⟩ = some (.slice (some ⟨g0, 0, none⟩) 2 d0) ∧ w'.cell? ⟨g0, 0, none⟩ = some (.int .i64 p) ∧ w'.cell? ⟨g0, 1, none⟩ = some (.int .i64 q) ∧ w'.cell? ⟨g, 1, none⟩ = some (.slice (some ⟨g1, 0, none⟩) x2.length d1)) w1.drew) := ⟨C0, I0, I1, C1⟩
    have EV : Hid ((fun w' : World => w'.cell? ⟨g, 0, none⟩ = some (.slice (some ⟨g0, 0, none⟩) 2 d0) ∧ w'.cell? ⟨g0, 0, none⟩ = some (.int .i64 p) ∧ w'.cell? ⟨g0, 1, none⟩ = some (.int .i64 q) ∧ w'.cell? ⟨g, 1, none⟩ = some (.slice (some ⟨g1, 0, none⟩) x2.length d1)) (w1.alloc (.cells #[.int .i64 p, .int .i64 q, .slice (some ⟨g1, 0, none⟩) x2.length d1] 28)).drew) := by
      have hb := bl1 w1 (.cells #[.int .i64 p, .int .i64 q, .slice (some ⟨g1, 0, none⟩) x2.length d1] 28)
      exact ⟨(hb.cell (p := ⟨g, 0, none⟩) (World.block_lt_of_cell? w1 _ C0)).trans C0, (hb.cell (p := ⟨g0, 0, none⟩) (World.block_lt_of_cell? w1 _ I0)).trans I0, (hb.cell (p := ⟨g0, 1, none⟩) (World.block_lt_of_cell? w1 _ I1)).trans I1, (hb.cell (p := ⟨g, 1, none⟩) (World.block_lt_of_cell? w1 _ C1)).trans C1⟩
    have EA : Hid ((fun w' : World => w'.cell? ⟨g, 0, none⟩ = some (.slice (some ⟨g0, 0, none⟩) 2 d0) ∧ w'.cell? ⟨g0, 0, none⟩ = some (.int .i64 p) ∧ w'.cell? ⟨g0, 1, none⟩ = some (.int .i64 q) ∧ w'.cell? ⟨g, 1, none⟩ = some (.slice (some ⟨g1, 0, none⟩) x2.length d1)) (w1.alloc (.cells #[.int .i64 0, .int .i64 0, .slice none 0 0] 28)).drew) := by
      have hb := bl1 w1 (.cells #[.int .i64 0, .int .i64 0, .slice none 0 0] 28)
      exact ⟨(hb.cell (p := ⟨g, 0, none⟩) (World.block_lt_of_cell? w1 _ C0)).trans C0, (hb.cell (p := ⟨g0, 0, none⟩) (World.block_lt_of_cell? w1 _ I0)).trans I0, (hb.cell (p := ⟨g0, 1, none⟩) (World.block_lt_of_cell? w1 _ I1)).trans I1, (hb.cell (p := ⟨g, 1, none⟩) (World.block_lt_of_cell? w1 _ C1)).trans C1⟩
    clear EE
    go_wp2_with fail
    go_region_held3 (fun w' : World => w'.cell? ⟨g, 0, none⟩ = some (.slice (some ⟨g0, 0, none⟩) 2 d0) ∧ w'.cell? ⟨g0, 0, none⟩ = some (.int .i64 p) ∧ w'.cell? ⟨g0, 1, none⟩ = some (.int .i64 q) ∧ w'.cell? ⟨g, 1, none⟩ = some (.slice (some ⟨g1, 0, none⟩) x2.length d1)) (first | exact EX.out | exact EV.out | exact EA.out) (fail)
    all_goals
      have K2 : Blk (w1.alloc (.cells #[.int .i64 p, .int .i64 q, .slice (some ⟨g1, 0, none⟩) x2.length d1] 28)).drew w1.heap.size [.int .i64 p, .int .i64 q, .slice (some ⟨g1, 0, none⟩) x2.length d1] 28 := Blk.new w1 [.int .i64 p, .int .i64 q, .slice (some ⟨g1, 0, none⟩) x2.length d1] 28
      have b12 : Below w1.heap.size w1 (w1.alloc (.cells #[.int .i64 p, .int .i64 q, .slice (some ⟨g1, 0, none⟩) x2.length d1] 28)).drew := below_drew' (bl1 w1 (.cells #[.int .i64 p, .int .i64 q, .slice (some ⟨g1, 0, none⟩) x2.length d1] 28))
      have R2 := Lib.hid (R1.out.same b12)
      have M1 := Lib.hid (N1.out.keep b12)
      have B2 := Lib.hid (B1.out.trans (b12.mono (by omega)))
      have S2 := b12.size
      clear R1 N1 B1 EX EV EA C0 C1 I0 I1 b12
      generalize (w1.alloc (.cells #[.int .i64 p, .int .i64 q, .slice (some ⟨g1, 0, none⟩) x2.length d1] 28)).drew = w2 at *
      generalize w1.heap.size = gs at *
      have LV := Lib.hid (validValues_any w2 p q (some ⟨g1, 0, none⟩) d1 x2 (M1.out.rd.mono (by omega)) (by omega))
      have z0 := K2.cell 0
      have z1 := K2.cell 1
      have z2 := K2.cell 2
      simp only [List.getElem?_cons_zero, List.getElem?_cons_succ] at z0 z1 z2
      cases hV : valuesB p q x2 with
      | false =>
        rw [hV] at LV
        have HF2 : Hid (RF = (0, 0, [], false)) := by rw [Hid, HF.out, hV]; rfl
        clear HF hV
        go_wp2_with fail
        refine LV.out.mono ?_
        rintro e w3 ⟨rfl, hb3⟩
        have R3 := Lib.hid (R2.out.same hb3)
        have K3 := K2.same hb3
        have B3 := Lib.hid (B2.out.trans (hb3.mono B2.out.size))
        have O1 := Lib.hid (M1.out.keep hb3)
        have S3 := hb3.size
        clear R2 B2 M1 hb3 LV K2 z0 z1 z2
        have f0 := R3.out.free 0
        have f1 := R3.out.free 1
        have f2 := R3.out.free 2
        have r0 := R3.out.cell 0
        have r1 := R3.out.cell 1
        have r2 := R3.out.cell 2
        simp only [List.getElem?_cons_zero, List.getElem?_cons_succ] at r0 r1 r2
        go_wp2_with fail
        obtain ⟨wz, hwz⟩ : ∃ X, X = ((w3.setCell ⟨w.heap.size, 0, none⟩ (.int .i64 0)).setCell ⟨w.heap.size, 1, none⟩ (.int .i64 0)).setCell ⟨w.heap.size, 2, none⟩ (.slice none 0 0) := ⟨_, rfl⟩
        have KZ : Blk wz (w.heap.size) [.int .i64 0, .int .i64 0, .slice none 0 0] 28 := by rw [hwz]; exact ((R3.out.set 0 (.int .i64 0)).set 1 (.int .i64 0)).set 2 (.slice none 0 0)
        have TZ : Touch w3 wz (w.heap.size) (w.heap.size + 1) := by rw [hwz]; exact ((touch_setRV w3 (w.heap.size) 0 (.int .i64 0)).trans (touch_setRV _ (w.heap.size) 1 (.int .i64 0))).trans (touch_setRV _ (w.heap.size) 2 (.slice none 0 0))
        have BZ : Below w.heap.size w wz := below_touch B3.out TZ (by omega) (by have := R3.out.lt; omega)
        rw [← hwz]
        clear hwz r0 r1 r2
        have r0 := KZ.cell 0
        have r1 := KZ.cell 1
        have r2 := KZ.cell 2
        simp only [List.getElem?_cons_zero, List.getElem?_cons_succ] at r0 r1 r2
        refine bodyPost_ret (v := .tuple #[.agg #[.int .i64 0, .int .i64 0, .slice none 0 0], .bool false]) (by simp [results, Tryz.results34, go_sem, r0, r1, r2]) rfl ?_
        exact RetValues.no HF2.out BZ
      | true =>
        rw [hV] at LV
        have HF2 : Hid (RF = (p, q, x2, true)) := by rw [Hid, HF.out, hV]; rfl
        clear HF hV
        go_wp2_with fail
        refine LV.out.mono ?_
        rintro e w3 ⟨rfl, hb3⟩
        have R3 := Lib.hid (R2.out.same hb3)
        have K3 := K2.same hb3
        have B3 := Lib.hid (B2.out.trans (hb3.mono B2.out.size))
        have O1 := Lib.hid (M1.out.keep hb3)
        have S3 := hb3.size
        clear R2 B2 M1 hb3 LV K2 z0 z1 z2
        have z0 := K3.cell 0
        have z1 := K3.cell 1
        have z2 := K3.cell 2
        simp only [List.getElem?_cons_zero, List.getElem?_cons_succ] at z0 z1 z2
        have f0 := R3.out.free 0
        have f1 := R3.out.free 1
        have f2 := R3.out.free 2
        have r0 := R3.out.cell 0
        have r1 := R3.out.cell 1
        have r2 := R3.out.cell 2
        simp only [List.getElem?_cons_zero, List.getElem?_cons_succ] at r0 r1 r2
        go_wp2_with fail
        obtain ⟨wz, hwz⟩ : ∃ X, X = ((w3.setCell ⟨w.heap.size, 0, none⟩ (.int .i64 p)).setCell ⟨w.heap.size, 1, none⟩ (.int .i64 q)).setCell ⟨w.heap.size, 2, none⟩ (.slice (some ⟨g1, 0, none⟩) x2.length d1) := ⟨_, rfl⟩
        have KZ : Blk wz (w.heap.size) [.int .i64 p, .int .i64 q, .slice (some ⟨g1, 0, none⟩) x2.length d1] 28 := by rw [hwz]; exact ((R3.out.set 0 (.int .i64 p)).set 1 (.int .i64 q)).set 2 (.slice (some ⟨g1, 0, none⟩) x2.length d1)
        have TZ : Touch w3 wz (w.heap.size) (w.heap.size + 1) := by rw [hwz]; exact ((touch_setRV w3 (w.heap.size) 0 (.int .i64 p)).trans (touch_setRV _ (w.heap.size) 1 (.int .i64 q))).trans (touch_setRV _ (w.heap.size) 2 (.slice (some ⟨g1, 0, none⟩) x2.length d1))
        have BZ : Below w.heap.size w wz := below_touch B3.out TZ (by omega) (by have := R3.out.lt; omega)
        rw [← hwz]
        clear hwz r0 r1 r2
        have r0 := KZ.cell 0
        have r1 := KZ.cell 1
        have r2 := KZ.cell 2
        simp only [List.getElem?_cons_zero, List.getElem?_cons_succ] at r0 r1 r2
        refine bodyPost_ret (v := .tuple #[.agg #[.int .i64 p, .int .i64 q, .slice (some ⟨g1, 0, none⟩) x2.length d1], .bool true]) (by simp [results, Tryz.results34, go_sem, r0, r1, r2]) rfl ?_
        rw [HF2.out]
        exact ⟨BZ, _, _, rfl, ⟨BZ.size, (O1.out.touch TZ (by omega)).mono (by omega) (by have := TZ.size; omega)⟩⟩
end Go.Proofs.YtkbejmjkdnfemaaGreatDoor
namespace Go.Proofs.YtkbejmjkdnfemaaGreatDoor
set_option linter.unusedVariables false
set_option linter.unusedSimpArgs false
open Go.RowKit

def crowdB2 (U R : Int) (x2 x3 : List Int) : Bool := validB ⟨U, R, x2, x3⟩
/-- A struct of its own and whether it was taken. -/
def RetCrowd (w : World) (r : Int × Int × List Int × List Int × Bool) (e : Ending) (w' : World) : Prop := Below w.heap.size w w' ∧ ∃ (a2 : Option Addr) (c2 : Nat) (a3 : Option Addr) (c3 : Nat), e = .returned (.tuple #[.agg #[.int .i64 r.1, .int .i64 r.2.1, .slice a2 r.2.2.1.length c2, .slice a3 r.2.2.2.1.length c3], .bool r.2.2.2.2]) ∧ OwnCrowd w' w.heap.size w'.heap.size a2 c2 r.2.2.1 a3 c3 r.2.2.2.1
theorem RetCrowd.no {w w' : World} {r : Int × Int × List Int × List Int × Bool} (hr : r = (0, 0, [], [], false)) (h : Below w.heap.size w w') : RetCrowd w r (.returned (.tuple #[.agg #[.int .i64 0, .int .i64 0, .slice none 0 0, .slice none 0 0], .bool false])) w' := by
  subst hr
  exact ⟨h, none, 0, none, 0, rfl, ⟨w.heap.size, ⟨Nat.le_refl _, h.size⟩, ⟨World.ownsRow_nil _ _ _ _, fun b hb => by cases hb⟩, ⟨World.ownsRow_nil _ _ _ _, fun b hb => by cases hb⟩⟩⟩
theorem touch_setRC (w : World) (g j : Nat) (u : Value) : Touch w (w.setCell ⟨g, j, none⟩ u) g (g + 1) :=
  Touch.of_grown ⟨rfl, rfl, rfl, by simp, fun i _ hi => Below.heap_setCell _ _ _ _ (fun e => hi (by simp [e]))⟩ (Nat.le_refl _) (Nat.lt_succ_self _)
set_option maxRecDepth 200000 in
set_option maxHeartbeats 8000000 in
theorem readCrowd_any (w : World) (hT : Tab w) (hS : Shp w) (hE : Errs w) (s : ByteArray) (hs : s.size ≤ 1048576) :
    Calls Tryz.prog 35 #[.string s] w (RetCrowd w (rd2F crowdB2 s.data.toList)) := by
  have KR0 := Lib.hid (Blk.new w [.int .i64 0, .int .i64 0, .slice none 0 0, .slice none 0 0] 30)
  have B0 := Lib.hid (bl1 w (.cells #[.int .i64 0, .int .i64 0, .slice none 0 0, .slice none 0 0] 30))
  have LP := Lib.hid (readParts_any (w.alloc (.cells #[.int .i64 0, .int .i64 0, .slice none 0 0, .slice none 0 0] 30)) (hT.to B0.out) (hS.to B0.out) (hE.to B0.out) s 3 (by omega) hs)
  have HNo := Lib.hid (fun h => rd2F_none (V := crowdB2) (l := s.data.toList) h)
  have HSo := Lib.hid (fun p q x2 x3 h => rd2F_some (V := crowdB2) (l := s.data.toList) (p := p) (q := q) (x2 := x2) (x3 := x3) h)
  have HG := Lib.hid (fun yss h => listsF_get (cnt := 3) (l := s.data.toList) (yss := yss) h)
  unfold RetParts at LP
  generalize rd2F crowdB2 s.data.toList = RF at *
  generalize listsF 3 s.data.toList = LF at *
  clear hT hS hE hs
  go_enter Tryz.func35, Tryz.ntmps35
  go_wp2_with fail
  refine LP.out.mono ?_
  rintro e w1 ⟨hb, v, rfl, hv⟩
  have B1 := Lib.hid (below_then B0.out hb)
  have R1 := Lib.hid (KR0.out.same hb)
  have S1 := hb.size
  rw [World.size_alloc] at S1 hv
  clear LP hb
  cases LF with
  | none =>
    have HF := Lib.hid (HNo.out rfl)
    clear HNo HSo HG hv
    have f0 := R1.out.free 0
    have f1 := R1.out.free 1
    have f2 := R1.out.free 2
    have f3 := R1.out.free 3
    have r0 := R1.out.cell 0
    have r1 := R1.out.cell 1
    have r2 := R1.out.cell 2
    have r3 := R1.out.cell 3
    simp only [List.getElem?_cons_zero, List.getElem?_cons_succ] at r0 r1 r2 r3
    go_wp2_with fail
    obtain ⟨wz, hwz⟩ : ∃ X, X = (((w1.setCell ⟨w.heap.size, 0, none⟩ (.int .i64 0)).setCell ⟨w.heap.size, 1, none⟩ (.int .i64 0)).setCell ⟨w.heap.size, 2, none⟩ (.slice none 0 0)).setCell ⟨w.heap.size, 3, none⟩ (.slice none 0 0) := ⟨_, rfl⟩
    have KZ : Blk wz (w.heap.size) [.int .i64 0, .int .i64 0, .slice none 0 0, .slice none 0 0] 30 := by rw [hwz]; exact (((R1.out.set 0 (.int .i64 0)).set 1 (.int .i64 0)).set 2 (.slice none 0 0)).set 3 (.slice none 0 0)
    have TZ : Touch w1 wz (w.heap.size) (w.heap.size + 1) := by rw [hwz]; exact (((touch_setRC w1 (w.heap.size) 0 (.int .i64 0)).trans (touch_setRC _ (w.heap.size) 1 (.int .i64 0))).trans (touch_setRC _ (w.heap.size) 2 (.slice none 0 0))).trans (touch_setRC _ (w.heap.size) 3 (.slice none 0 0))
    have BZ : Below w.heap.size w wz := below_touch B1.out TZ (by omega) (by have := R1.out.lt; omega)
    rw [← hwz]
    clear hwz r0 r1 r2 r3
    have r0 := KZ.cell 0
    have r1 := KZ.cell 1
    have r2 := KZ.cell 2
    have r3 := KZ.cell 3
    simp only [List.getElem?_cons_zero, List.getElem?_cons_succ] at r0 r1 r2 r3
    refine bodyPost_ret (v := .tuple #[.agg #[.int .i64 0, .int .i64 0, .slice none 0 0, .slice none 0 0], .bool false]) (by simp [results, Tryz.results35, go_sem, r0, r1, r2, r3]) rfl ?_
    exact RetCrowd.no HF.out BZ
  | some yss =>
    obtain ⟨g, c, vs, rfl, hO, hOrd⟩ := hv yss rfl
    obtain ⟨hn1, hn2, hn3⟩ := HG.out yss rfl
    obtain ⟨p, q, x2, x3, rfl, l2, l3⟩ := lists3 hn1 hn2 hn3
    have HF := Lib.hid (HSo.out p q x2 x3 rfl)
    clear hn1 hn2 hn3 HG HNo HSo hv
    obtain ⟨g0, d0, v0, o0⟩ := hO.row 0 [p, q] rfl
    obtain ⟨g1, d1, v1, o1⟩ := hO.row 1 x2 rfl
    obtain ⟨g2, d2, v2, o2⟩ := hO.row 2 x3 rfl
    have C0 := hO.cellAt rfl v0
    have C1 := hO.cellAt rfl v1
    have C2 := hO.cellAt rfl v2
    have I0 := o0.cellAt (j := 0) (x := p) rfl
    have I1 := o0.cellAt (j := 1) (x := q) rfl
    have P1 := o1.place
    have N1 := Lib.hid o1.narrow
    have P2 := o2.place
    have N2 := Lib.hid o2.narrow
    have hlt12 := hOrd 1 2 _ _ g1 g2 (by omega) v1 v2 rfl rfl
    clear hO hOrd o0 o1 o2 v0 v1 v2
    have EE : Hid ((fun w' : World => w'.cell? ⟨g, 0, none⟩ = some (.slice (some ⟨g0, 0, none⟩) 2 d0) ∧ w'.cell? ⟨g0, 0, none⟩ = some (.int .i64 p) ∧ w'.cell? ⟨g0, 1, none⟩ = some (.int .i64 q) ∧ w'.cell? ⟨g, 1, none⟩ = some (.slice (some ⟨g1, 0, none⟩) x2.length d1) ∧ w'.cell? ⟨g, 2, none⟩ = some (.slice (some ⟨g2, 0, none⟩) x3.length d2)) w1) := ⟨C0, I0, I1, C1, C2⟩
    have EX : Hid ((fun w' : World => w'.cell? ⟨g, 0, none⟩ = some (.slice (some ⟨g0, 0, none⟩) 2 d0) ∧ w'.cell? ⟨g0, 0, none⟩ = some (.int .i64 p) ∧ w'.cell? ⟨g0, 1, none⟩ = some (.int .i64 q) ∧ w'.cell? ⟨g, 1, none⟩ = some (.slice (some ⟨g1, 0, none⟩) x2.length d1) ∧ w'.cell? ⟨g, 2, none⟩ = some (.slice (some ⟨g2, 0, none⟩) x3.length d2)) w1.drew) := ⟨C0, I0, I1, C1, C2⟩
    have EV : Hid ((fun w' : World => w'.cell? ⟨g, 0, none⟩ = some (.slice (some ⟨g0, 0, none⟩) 2 d0) ∧ w'.cell? ⟨g0, 0, none⟩ = some (.int .i64 p) ∧ w'.cell? ⟨g0, 1, none⟩ = some (.int .i64 q) ∧ w'.cell? ⟨g, 1, none⟩ = some (.slice (some ⟨g1, 0, none⟩) x2.length d1) ∧ w'.cell? ⟨g, 2, none⟩ = some (.slice (some ⟨g2, 0, none⟩) x3.length d2)) (w1.alloc (.cells #[.int .i64 p, .int .i64 q, .slice (some ⟨g1, 0, none⟩) x2.length d1, .slice (some ⟨g2, 0, none⟩) x3.length d2] 30)).drew) := by
      have hb := bl1 w1 (.cells #[.int .i64 p, .int .i64 q, .slice (some ⟨g1, 0, none⟩) x2.length d1, .slice (some ⟨g2, 0, none⟩) x3.length d2] 30)
      exact ⟨(hb.cell (p := ⟨g, 0, none⟩) (World.block_lt_of_cell? w1 _ C0)).trans C0, (hb.cell (p := ⟨g0, 0, none⟩) (World.block_lt_of_cell? w1 _ I0)).trans I0, (hb.cell (p := ⟨g0, 1, none⟩) (World.block_lt_of_cell? w1 _ I1)).trans I1, (hb.cell (p := ⟨g, 1, none⟩) (World.block_lt_of_cell? w1 _ C1)).trans C1, (hb.cell (p := ⟨g, 2, none⟩) (World.block_lt_of_cell? w1 _ C2)).trans C2⟩
    have EA : Hid ((fun w' : World => w'.cell? ⟨g, 0, none⟩ = some (.slice (some ⟨g0, 0, none⟩) 2 d0) ∧ w'.cell? ⟨g0, 0, none⟩ = some (.int .i64 p) ∧ w'.cell? ⟨g0, 1, none⟩ = some (.int .i64 q) ∧ w'.cell? ⟨g, 1, none⟩ = some (.slice (some ⟨g1, 0, none⟩) x2.length d1) ∧ w'.cell? ⟨g, 2, none⟩ = some (.slice (some ⟨g2, 0, none⟩) x3.length d2)) (w1.alloc (.cells #[.int .i64 0, .int .i64 0, .slice none 0 0, .slice none 0 0] 30)).drew) := by
      have hb := bl1 w1 (.cells #[.int .i64 0, .int .i64 0, .slice none 0 0, .slice none 0 0] 30)
      exact ⟨(hb.cell (p := ⟨g, 0, none⟩) (World.block_lt_of_cell? w1 _ C0)).trans C0, (hb.cell (p := ⟨g0, 0, none⟩) (World.block_lt_of_cell? w1 _ I0)).trans I0, (hb.cell (p := ⟨g0, 1, none⟩) (World.block_lt_of_cell? w1 _ I1)).trans I1, (hb.cell (p := ⟨g, 1, none⟩) (World.block_lt_of_cell? w1 _ C1)).trans C1, (hb.cell (p := ⟨g, 2, none⟩) (World.block_lt_of_cell? w1 _ C2)).trans C2⟩
    clear EE
    go_wp2_with fail
    go_region_held3 (fun w' : World => w'.cell? ⟨g, 0, none⟩ = some (.slice (some ⟨g0, 0, none⟩) 2 d0) ∧ w'.cell? ⟨g0, 0, none⟩ = some (.int .i64 p) ∧ w'.cell? ⟨g0, 1, none⟩ = some (.int .i64 q) ∧ w'.cell? ⟨g, 1, none⟩ = some (.slice (some ⟨g1, 0, none⟩) x2.length d1) ∧ w'.cell? ⟨g, 2, none⟩ = some (.slice (some ⟨g2, 0, none⟩) x3.length d2)) (first | exact EX.out | exact EV.out | exact EA.out) (fail)
    all_goals
      have K2 : Blk (w1.alloc (.cells #[.int .i64 p, .int .i64 q, .slice (some ⟨g1, 0, none⟩) x2.length d1, .slice (some ⟨g2, 0, none⟩) x3.length d2] 30)).drew w1.heap.size [.int .i64 p, .int .i64 q, .slice (some ⟨g1, 0, none⟩) x2.length d1, .slice (some ⟨g2, 0, none⟩) x3.length d2] 30 := Blk.new w1 [.int .i64 p, .int .i64 q, .slice (some ⟨g1, 0, none⟩) x2.length d1, .slice (some ⟨g2, 0, none⟩) x3.length d2] 30
      have b12 : Below w1.heap.size w1 (w1.alloc (.cells #[.int .i64 p, .int .i64 q, .slice (some ⟨g1, 0, none⟩) x2.length d1, .slice (some ⟨g2, 0, none⟩) x3.length d2] 30)).drew := below_drew' (bl1 w1 (.cells #[.int .i64 p, .int .i64 q, .slice (some ⟨g1, 0, none⟩) x2.length d1, .slice (some ⟨g2, 0, none⟩) x3.length d2] 30))
      have R2 := Lib.hid (R1.out.same b12)
      have M1 := Lib.hid (N1.out.keep b12)
      have M2 := Lib.hid (N2.out.keep b12)
      have B2 := Lib.hid (B1.out.trans (b12.mono (by omega)))
      have S2 := b12.size
      clear R1 N1 N2 B1 EX EV EA C0 C1 C2 I0 I1 b12
      generalize (w1.alloc (.cells #[.int .i64 p, .int .i64 q, .slice (some ⟨g1, 0, none⟩) x2.length d1, .slice (some ⟨g2, 0, none⟩) x3.length d2] 30)).drew = w2 at *
      generalize w1.heap.size = gs at *
      have LV := Lib.hid (validCrowd_any w2 p q (some ⟨g1, 0, none⟩) d1 x2 (some ⟨g2, 0, none⟩) d2 x3 ⟨M1.out.rd.mono (by omega), M2.out.rd.mono (by omega)⟩ (by omega) (by omega))
      have z0 := K2.cell 0
      have z1 := K2.cell 1
      have z2 := K2.cell 2
      have z3 := K2.cell 3
      simp only [List.getElem?_cons_zero, List.getElem?_cons_succ] at z0 z1 z2 z3
      cases hV : crowdB2 p q x2 x3 with
      | false =>
        have hV2 : validB ⟨p, q, x2, x3⟩ = false := hV
        rw [hV2] at LV
        have HF2 : Hid (RF = (0, 0, [], [], false)) := by rw [Hid, HF.out, hV]; rfl
        clear HF hV hV2
        go_wp2_with fail
        refine LV.out.mono ?_
        rintro e w3 ⟨rfl, hb3⟩
        have R3 := Lib.hid (R2.out.same hb3)
        have K3 := K2.same hb3
        have B3 := Lib.hid (B2.out.trans (hb3.mono B2.out.size))
        have O1 := Lib.hid (M1.out.keep hb3)
        have O2 := Lib.hid (M2.out.keep hb3)
        have S3 := hb3.size
        clear R2 B2 M1 M2 hb3 LV K2 z0 z1 z2 z3
        have f0 := R3.out.free 0
        have f1 := R3.out.free 1
        have f2 := R3.out.free 2
        have f3 := R3.out.free 3
        have r0 := R3.out.cell 0
        have r1 := R3.out.cell 1
        have r2 := R3.out.cell 2
        have r3 := R3.out.cell 3
        simp only [List.getElem?_cons_zero, List.getElem?_cons_succ] at r0 r1 r2 r3
        go_wp2_with fail
        obtain ⟨wz, hwz⟩ : ∃ X, X = (((w3.setCell ⟨w.heap.size, 0, none⟩ (.int .i64 0)).setCell ⟨w.heap.size, 1, none⟩ (.int .i64 0)).setCell ⟨w.heap.size, 2, none⟩ (.slice none 0 0)).setCell ⟨w.heap.size, 3, none⟩ (.slice none 0 0) := ⟨_, rfl⟩
        have KZ : Blk wz (w.heap.size) [.int .i64 0, .int .i64 0, .slice none 0 0, .slice none 0 0] 30 := by rw [hwz]; exact (((R3.out.set 0 (.int .i64 0)).set 1 (.int .i64 0)).set 2 (.slice none 0 0)).set 3 (.slice none 0 0)
        have TZ : Touch w3 wz (w.heap.size) (w.heap.size + 1) := by rw [hwz]; exact (((touch_setRC w3 (w.heap.size) 0 (.int .i64 0)).trans (touch_setRC _ (w.heap.size) 1 (.int .i64 0))).trans (touch_setRC _ (w.heap.size) 2 (.slice none 0 0))).trans (touch_setRC _ (w.heap.size) 3 (.slice none 0 0))
        have BZ : Below w.heap.size w wz := below_touch B3.out TZ (by omega) (by have := R3.out.lt; omega)
        rw [← hwz]
        clear hwz r0 r1 r2 r3
        have r0 := KZ.cell 0
        have r1 := KZ.cell 1
        have r2 := KZ.cell 2
        have r3 := KZ.cell 3
        simp only [List.getElem?_cons_zero, List.getElem?_cons_succ] at r0 r1 r2 r3
        refine bodyPost_ret (v := .tuple #[.agg #[.int .i64 0, .int .i64 0, .slice none 0 0, .slice none 0 0], .bool false]) (by simp [results, Tryz.results35, go_sem, r0, r1, r2, r3]) rfl ?_
        exact RetCrowd.no HF2.out BZ
      | true =>
        have hV2 : validB ⟨p, q, x2, x3⟩ = true := hV
        rw [hV2] at LV
        have HF2 : Hid (RF = (p, q, x2, x3, true)) := by rw [Hid, HF.out, hV]; rfl
        clear HF hV hV2
        go_wp2_with fail
        refine LV.out.mono ?_
        rintro e w3 ⟨rfl, hb3⟩
        have R3 := Lib.hid (R2.out.same hb3)
        have K3 := K2.same hb3
        have B3 := Lib.hid (B2.out.trans (hb3.mono B2.out.size))
        have O1 := Lib.hid (M1.out.keep hb3)
        have O2 := Lib.hid (M2.out.keep hb3)
        have S3 := hb3.size
        clear R2 B2 M1 M2 hb3 LV K2 z0 z1 z2 z3
        have z0 := K3.cell 0
        have z1 := K3.cell 1
        have z2 := K3.cell 2
        have z3 := K3.cell 3
        simp only [List.getElem?_cons_zero, List.getElem?_cons_succ] at z0 z1 z2 z3
        have f0 := R3.out.free 0
        have f1 := R3.out.free 1
        have f2 := R3.out.free 2
        have f3 := R3.out.free 3
        have r0 := R3.out.cell 0
        have r1 := R3.out.cell 1
        have r2 := R3.out.cell 2
        have r3 := R3.out.cell 3
        simp only [List.getElem?_cons_zero, List.getElem?_cons_succ] at r0 r1 r2 r3
        go_wp2_with fail
        obtain ⟨wz, hwz⟩ : ∃ X, X = (((w3.setCell ⟨w.heap.size, 0, none⟩ (.int .i64 p)).setCell ⟨w.heap.size, 1, none⟩ (.int .i64 q)).setCell ⟨w.heap.size, 2, none⟩ (.slice (some ⟨g1, 0, none⟩) x2.length d1)).setCell ⟨w.heap.size, 3, none⟩ (.slice (some ⟨g2, 0, none⟩) x3.length d2) := ⟨_, rfl⟩
        have KZ : Blk wz (w.heap.size) [.int .i64 p, .int .i64 q, .slice (some ⟨g1, 0, none⟩) x2.length d1, .slice (some ⟨g2, 0, none⟩) x3.length d2] 30 := by rw [hwz]; exact (((R3.out.set 0 (.int .i64 p)).set 1 (.int .i64 q)).set 2 (.slice (some ⟨g1, 0, none⟩) x2.length d1)).set 3 (.slice (some ⟨g2, 0, none⟩) x3.length d2)
        have TZ : Touch w3 wz (w.heap.size) (w.heap.size + 1) := by rw [hwz]; exact (((touch_setRC w3 (w.heap.size) 0 (.int .i64 p)).trans (touch_setRC _ (w.heap.size) 1 (.int .i64 q))).trans (touch_setRC _ (w.heap.size) 2 (.slice (some ⟨g1, 0, none⟩) x2.length d1))).trans (touch_setRC _ (w.heap.size) 3 (.slice (some ⟨g2, 0, none⟩) x3.length d2))
        have BZ : Below w.heap.size w wz := below_touch B3.out TZ (by omega) (by have := R3.out.lt; omega)
        rw [← hwz]
        clear hwz r0 r1 r2 r3
        have r0 := KZ.cell 0
        have r1 := KZ.cell 1
        have r2 := KZ.cell 2
        have r3 := KZ.cell 3
        simp only [List.getElem?_cons_zero, List.getElem?_cons_succ] at r0 r1 r2 r3
        refine bodyPost_ret (v := .tuple #[.agg #[.int .i64 p, .int .i64 q, .slice (some ⟨g1, 0, none⟩) x2.length d1, .slice (some ⟨g2, 0, none⟩) x3.length d2], .bool true]) (by simp [results, Tryz.results35, go_sem, r0, r1, r2, r3]) rfl ?_
        rw [HF2.out]
        exact ⟨BZ, _, _, _, _, rfl, ⟨g2, ⟨by omega, by have := TZ.size; omega⟩, (O1.out.touch TZ (by omega)).mono (by omega) (by omega), (O2.out.touch TZ (by omega)).mono (Nat.le_refl _) (by have := TZ.size; omega)⟩⟩
end Go.Proofs.YtkbejmjkdnfemaaGreatDoor
