/-
  The program's lists of a text.
-/
import Derived.Test.YtiimhpopcgiejaaDoorListI
import Derived.Test.YtiimhpopcgiejaaDoorOwnLL
namespace Go.Proofs.YtiimhpopcgiejaaDoor
set_option linter.unusedVariables false
set_option linter.unusedSimpArgs false
open Go.RowKit

/-- Rows made one behind another. -/
def OrdV (vs : List Value) : Prop := ∀ (i j : Nat) (v v' : Value) (p q : Nat), i < j → vs[i]? = some v → vs[j]? = some v' → v.ownBlock = some p → v'.ownBlock = some q → p < q
theorem OrdV.nil : OrdV [] := fun i j v v' p q _ h => by simp at h
theorem OrdV.snoc {vs : List Value} {B g n c : Nat} (h : OrdV vs) (hlt : ∀ (i : Nat) (v : Value) (p : Nat), vs[i]? = some v → v.ownBlock = some p → p < B) (hg : B ≤ g) : OrdV (vs ++ [.slice (some ⟨g, 0, none⟩) n c]) := by
  intro i j v v' p q hij hi hj hp hq
  have hjl : j < vs.length + 1 := by have := (List.getElem?_eq_some_iff.1 hj).1; simpa using this
  have hi2 : vs[i]? = some v := by rwa [List.getElem?_append_left (by omega)] at hi
  by_cases hl : j < vs.length
  · rw [List.getElem?_append_left hl] at hj
    exact h i j v v' p q hij hi2 hj hp hq
  · obtain rfl : j = vs.length := by omega
    rw [List.getElem?_append_right (Nat.le_refl _), Nat.sub_self] at hj
    simp at hj
    subst hj
    have hq2 : some g = some q := hq
    injection hq2 with hq2
    have := hlt i v p hi2 hp
    omega
theorem OwnRows.blk_lt {T T2 : Nat} {w : World} {lo hi : Nat} {u : Value} {vs : List Value} {yss : List (List Int)} (h : OwnRows T T2 w lo hi u vs yss) (i : Nat) (v : Value) (p : Nat) (hi' : vs[i]? = some v) (hp : v.ownBlock = some p) : p < hi := by
  have hlt : i < yss.length := by have := (List.getElem?_eq_some_iff.1 hi').1; rw [h.len] at this; exact this
  obtain ⟨g, c, h1, h2⟩ := h.row i yss[i] (List.getElem?_eq_getElem hlt)
  rw [hi'] at h1
  injection h1 with h1
  subst h1
  have hp2 : some g = some p := hp
  injection hp2 with hp2
  subst hp2
  exact h2.2 _ rfl
/-- The lists of a text as rows of one's own, or no. -/
def RetParts (T T2 : Nat) (w : World) (cnt : Nat) (l : List UInt8) (e : Ending) (w' : World) : Prop := Below w.heap.size w w' ∧ ∃ v, e = .returned (.tuple #[v, .bool (listsF cnt l).isSome]) ∧ ∀ yss, listsF cnt l = some yss → ∃ g c vs, v = .slice (some ⟨g, 0, none⟩) yss.length c ∧ OwnRows T T2 w' w.heap.size w'.heap.size (.slice (some ⟨g, 0, none⟩) yss.length c) vs yss ∧ OrdV vs
theorem info_intsP : (Tryd.prog.info? 32).map (fun i => (i.zero, i.size, i.bytes)) = some (some (.slice none 0 0), 1, 24) := by kernel_rfl
set_option maxRecDepth 200000 in
set_option maxHeartbeats 8000000 in
theorem readParts_any (w : World) (hT : Tab w) (hS : Shp w) (hE : Errs w) (s : ByteArray) (cnt : Nat) (hcn : cnt ≤ 1048576) (hs : s.size ≤ 1048576) :
    Calls Tryd.prog 43 #[.string s, .int .i64 cnt] w (RetParts 2 32 w cnt s.data.toList) := by
  have hln : (cutL 59 s.data.toList).length ≤ 1048577 := by have := cutL_len 59 s.data.toList; have := Lib.size_eq s; omega
  have hln1 := cutL_pos 59 s.data.toList
  have HM : Hid (∀ x ∈ cutL 59 s.data.toList, x.length ≤ 1048576) := fun x hx => by have := cutL_mem hx; have := Lib.size_eq s; omega
  have LP := Lib.hid (fun v (hv : Below w.heap.size w v) => split_any v (hS.to hv) s hs 59 ⟨#[59]⟩ rfl)
  have LR := Lib.hid (fun v (hv : Below w.heap.size w v) (x : ByteArray) hx => readListTop_any v (hT.to hv) (hS.to hv) (hE.to hv) x hx)
  have HTl := Lib.hid (Till.start numsF (cutL 59 s.data.toList))
  have HNo := Lib.hid (fun h => listsF_none (cnt := cnt) (l := s.data.toList) h)
  have HSo := Lib.hid (fun yss h => listsF_some (cnt := cnt) (l := s.data.toList) (yss := yss) h)
  unfold RetParts
  generalize listsF cnt s.data.toList = LF at *
  generalize cutL 59 s.data.toList = ps at *
  clear hT hS hE hs
  have hO0 := Lib.hid (own_empty w 32)
  have cn0 : (0 : Int) ≤ (cnt : Int) := Int.natCast_nonneg _
  go_enter Tryd.func43, Tryd.ntmps43
  go_wp2_with fail
  refine (LP.out _ (bl1 _ _)).mono ?_
  rintro e w1 ⟨rfl, hblk, hb1⟩
  have hlt0 : (w.alloc (.cells #[] 32)).heap.size = w.heap.size + 1 := by simp
  rw [hlt0] at hblk
  have HX := Lib.hid (hblk.rd hblk.lt)
  have hl1 := hblk.lt
  have HB1 := Lib.hid (below_then (bl1 _ _) hb1)
  have h00 : Hid (OwnRows 2 32 w1 w.heap.size w1.heap.size (.slice (some ⟨w.heap.size, 0, none⟩) 0 0) [] []) := OwnRows.start (own_below hO0.out hb1)
  have HA0 : Hid (Apt (some ⟨w.heap.size + 1, 0, none⟩) (.slice (some ⟨w.heap.size, 0, none⟩) 0 0)) := fun b e h => by
    injection e with e
    subst e
    have h2 : some (w.heap.size + 1) = some w.heap.size := h
    injection h2 with h2
    omega
  rw [hlt0]
  clear hblk hb1 hO0 LP
  generalize hgb : w.heap.size + 1 = gb at *
  clear hlt0
  go_wp2_with fail
  go_loopw [6, 15] (fun u iv wr => ∃ (k : Nat) (d : List (List Int)) (vs : List Value) (g c : Nat), k ≤ ps.length ∧ d.length = k ∧ iv = .int .i64 k ∧ u = .slice (some ⟨g, 0, none⟩) k c ∧ Hid (Till numsF ps k d) ∧ Hid (OwnRows 2 32 wr w.heap.size wr.heap.size (.slice (some ⟨g, 0, none⟩) k c) vs d) ∧ Hid (OrdV vs) ∧ Hid (Below w.heap.size w wr) ∧ Hid (Rd wr w1.heap.size (some ⟨gb, 0, none⟩) (strs ps)) ∧ Hid (w1.heap.size ≤ wr.heap.size) ∧ Hid (Apt (some ⟨gb, 0, none⟩) (.slice (some ⟨g, 0, none⟩) k c))) (fun _ iv _ => ps.length - (intOf iv).toNat)
  case atStart => exact ⟨0, [], [], w.heap.size, 0, Nat.zero_le _, rfl, rfl, rfl, HTl.out, h00.out, OrdV.nil, HB1.out, HX.out, Nat.le_refl _, HA0.out⟩
  case round =>
    obtain ⟨k, d, vs, g, cp, hk, hdk, rfl, rfl, hTl, hO, hOrd, hw, hR, hS1, hA⟩ := hrel
    have HDK := Lib.hid hdk
    clear hdk
    have k0 : (0 : Int) ≤ (k : Int) := Int.natCast_nonneg _
    by_cases hlt : k < ps.length
    · have k1 : (k : Int) < (ps.length : Int) := by omega
      obtain ⟨b, o, l, ha, hb, hc, hl⟩ := strs_line hR.out hlt
      injection ha with ha
      injection ha with ha1 ha2
      subst ha1 ha2
      rw [Nat.zero_add] at hc
      have hlm := HM.out l (List.mem_of_getElem? hl.out)
      have LD1 := Lib.hid (LR.out wr hw.out (bs l) (by rw [bs_size]; exact hlm))
      rw [show (bs l).data.toList = l from rfl] at LD1
      cases hv : numsF l with
      | none =>
        have HF := Lib.hid (HNo.out (hTl.out.stop hl.out hv))
        rw [hv] at LD1
        clear hTl hl hv
        go_wp2_with fail
        refine LD1.out.mono ?_
        rintro e w2 ⟨hb2, rfl⟩
        go_wp2_with fail
        go_ret2
        rw [HF.out]
        exact ⟨below_then hw.out hb2, _, rfl, fun yss h => by cases h⟩
      | some ns =>
        have HT2 := Lib.hid (hTl.out.step hl.out hv)
        rw [hv] at LD1
        clear hTl hl hv
        go_wp2_with fail
        refine LD1.out.mono ?_
        rintro e w2 ⟨hb2, q3, c3, rfl, o3⟩
        have HRow : Hid (OwnI 2 w2 wr.heap.size w2.heap.size (some ⟨q3, 0, none⟩) c3 ns) := OwnI.of_own o3
        have HQ3 := Lib.hid ((o3.lt q3 rfl).1)
        have hOo := hO.out.out
        rw [HDK.out] at hOo
        have HOo := Lib.hid (own_below hOo hb2)
        have hw2 := below_then hw.out hb2
        have hws2 := hw2.size
        have HR2 := Lib.hid (hR.out.below (hb2.mono hS1.out) (Nat.le_refl _))
        have HS2 := Lib.hid (Nat.le_trans hS1.out hb2.size)
        have Hb2 := Lib.hid hb2
        have HOrd2 := Lib.hid (hOrd.out.snoc (g := q3) (n := ns.length) (c := c3) (fun i v p h1 h2 => hO.out.blk_lt i v p h1 h2) HQ3.out)
        clear hb2 hR LD1 hOo o3 hOrd
        go_wp2_with (at_builtin; refine wpList_append_blk _ rfl _ _ 71 rfl w.heap.size 32 (.slice none 0 0) 24 Tryd.underlying71 info_intsP rfl _ k vs rfl HOo.out (.slice (some ⟨q3, 0, none⟩) ns.length c3) rfl rfl (by omega) (by omega) hws2 ?_)
        intro v' w' ho hgr hng
        obtain ⟨g2, c2, rfl⟩ := own_some ho (by omega)
        have HO2 : Hid (OwnRows 2 32 w' w.heap.size w'.heap.size (.slice (some ⟨g2, 0, none⟩) (k + 1) c2) (vs ++ [.slice (some ⟨q3, 0, none⟩) ns.length c3]) (d ++ [ns])) :=
          OwnRows.snoc (w := w2) hO.out Hb2.out (r0 := wr.heap.size) hw.out.size (Nat.le_refl _) HRow.out (Nat.le_refl _) (by rw [HDK.out]; exact ho) hgr hng
        have HW3 := Lib.hid (below_append hw2 HOo.out hgr (Nat.le_refl _) hws2)
        have HR3 := Lib.hid (HR2.out.apt HS2.out hgr hA.out)
        have HS3 := Lib.hid (Nat.le_trans HS2.out hgr.size)
        have HA3 := Lib.hid (hA.out.grow (fun b e => by injection e with e; subst e; exact Nat.lt_of_lt_of_le hl1 HS2.out) hng)
        clear ho hgr hng hw2 HR2 hA hO hw HRow HOo
        go_wp2_with fail
        go_roundw
        case rel => exact ⟨k + 1, d ++ [ns], _, g2, c2, by omega, by simp [HDK.out], by go_num, by first | rfl | simp, HT2.out, HO2.out, HOrd2.out, HW3.out, HR3.out, HS3.out, HA3.out⟩
        case measure => simp [intOf]; omega
    · obtain rfl : k = ps.length := by omega
      have HAll := Lib.hid (HSo.out d hTl.out.done)
      have hkp : (0 : Int) < (ps.length : Int) := by omega
      obtain ⟨y0, hy0⟩ : ∃ y0, d[0]? = some y0 := ⟨d[0]'(by have := HDK.out; omega), List.getElem?_eq_getElem _⟩
      obtain ⟨g0, c0, hv0, ho0⟩ := hO.out.row 0 y0 hy0
      have hc0 : wr.cell? ⟨g, 0, none⟩ = some (.slice (some ⟨g0, 0, none⟩) y0.length c0) := by
        rcases rd_of_own hO.out.out (Nat.le_refl _) with h' | ⟨b, o, ha, hb, hc⟩
        · rw [h'] at hv0; cases hv0
        · injection ha with ha
          injection ha with ha1 ha2
          have := hc 0 (by have := (List.getElem?_eq_some_iff.1 hv0).1; exact this)
          rw [← ha1, ← ha2, hv0] at this
          exact this
      have hgd : d.getD 0 [] = y0 := by simp [List.getD, hy0]
      rw [hgd] at HAll
      have HDL := HDK.out
      have y00 : (0 : Int) ≤ (y0.length : Int) := Int.natCast_nonneg _
      by_cases hcn1 : ps.length = cnt
      · have t1 : ((ps.length : Int) == (cnt : Int)) = true := by simp; omega
        by_cases hy2 : y0.length = 2
        · have t2 : ((y0.length : Int) == 2) = true := by simp; omega
          have HF : Hid (LF = some d) := by rw [Hid, HAll.out, if_pos ⟨by omega, hy2⟩]
          have HDL2 := Lib.hid HDL
          clear hTl HAll hy0 hv0 ho0 hgd hcn1 hy2 HDL
          go_wp2_with fail
          go_quiet (fail)
          go_wp2_with fail
          go_ret2
          rw [HF.out]
          refine ⟨below_drewN hw.out _, _, rfl, fun yss h => ?_⟩
          injection h with h
          subst h
          exact ⟨g, cp, vs, by rw [HDL2.out]; rfl, by rw [HDL2.out]; exact hO.out.keep (drewN_below _ _), hOrd.out⟩
        · have t2 : ((y0.length : Int) == 2) = false := by simp; omega
          have HF : Hid (LF = none) := by rw [Hid, HAll.out, if_neg (fun h => hy2 h.2)]
          clear hTl HAll hy0 hv0 ho0 hgd hcn1 hy2 HDL
          go_wp2_with fail
          go_quiet (fail)
          go_wp2_with fail
          go_ret2
          rw [HF.out]
          exact ⟨below_drewN hw.out _, _, rfl, fun yss h => by cases h⟩
      · have t1 : ((ps.length : Int) == (cnt : Int)) = false := by simp; omega
        have HF : Hid (LF = none) := by rw [Hid, HAll.out, if_neg (fun h => hcn1 (by omega))]
        clear hTl HAll hy0 hv0 ho0 hgd hcn1 HDL
        go_wp2_with fail
        go_quiet (fail)
        go_wp2_with fail
        go_ret2
        rw [HF.out]
        exact ⟨below_drewN hw.out _, _, rfl, fun yss h => by cases h⟩
end Go.Proofs.YtiimhpopcgiejaaDoor
