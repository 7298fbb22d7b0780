/-
  The reference's lists of a text.
-/
import Derived.Test.YtiimhpopcgiejaaDoorPartsI
import Derived.Test.YtiimhpopcgiejaaDoorListR
namespace Go.Proofs.YtiimhpopcgiejaaDoor
set_option linter.unusedVariables false
set_option linter.unusedSimpArgs false
open Go.RowKit

set_option maxRecDepth 200000 in
set_option maxHeartbeats 8000000 in
theorem l08Lists_any (w : World) (s : ByteArray) (cnt : Nat) (hcn : cnt ≤ 1048576) (hs : s.size ≤ 1048576) :
    Calls Tryd.prog 61 #[.string s, .int .i64 cnt] w (RetParts 2 32 w cnt s.data.toList) := by
  have hln : (cutL 59 s.data.toList).length ≤ 1048577 := by have := cutL_len 59 s.data.toList; have := Lib.size_eq s; omega
  have hln1 := cutL_pos 59 s.data.toList
  have HM : Hid (∀ x ∈ cutL 59 s.data.toList, x.length ≤ 1048576) := fun x hx => by have := cutL_mem hx; have := Lib.size_eq s; omega
  have LP := Lib.hid (fun v => l01Cut_any v s 59 hs)
  have LR := Lib.hid l01Numbers_any
  have HTl := Lib.hid (Till.start numsF (cutL 59 s.data.toList))
  have HNo := Lib.hid (fun h => listsF_none (cnt := cnt) (l := s.data.toList) h)
  have HCn := Lib.hid (fun h => listsF_count (cnt := cnt) (l := s.data.toList) h)
  have HFi := Lib.hid (fun x y h h2 h3 => listsF_first (cnt := cnt) (l := s.data.toList) (x := x) (y := y) h h2 h3)
  have HSo := Lib.hid (fun yss h => listsF_some (cnt := cnt) (l := s.data.toList) (yss := yss) h)
  unfold RetParts
  generalize listsF cnt s.data.toList = LF at *
  generalize cutL 59 s.data.toList = ps at *
  clear hs
  have cn0 : (0 : Int) ≤ (cnt : Int) := Int.natCast_nonneg _
  go_enter Tryd.func61, Tryd.ntmps61
  go_wp2_with fail
  refine (LP.out _).mono ?_
  rintro e w1 ⟨a, ca, rfl, hown, hb1⟩
  have HX := Lib.hid (rd_of_own hown (Nat.le_refl _))
  have HB1 := Lib.hid hb1
  have HL := Lib.hid (fun b (e : a = some b) => (hown.lt b.block (by rw [e]; rfl)).2)
  have hs1 := hb1.size
  clear hown hb1 LP
  by_cases hcn1 : ps.length = cnt
  case neg =>
    have t1 : ((ps.length : Int) != (cnt : Int)) = true := by simp; omega
    have HF := Lib.hid (HCn.out hcn1)
    clear hcn1 HCn HFi HNo HSo
    go_wp2_with fail
    go_ret2
    rw [HF.out]
    exact ⟨HB1.out, _, rfl, fun yss h => by cases h⟩
  have t1 : ((ps.length : Int) != (cnt : Int)) = false := by simp; omega
  have HO0 := Lib.hid (own_empty w1 32)
  have HRd := Lib.hid (HX.out.below (bl1 w1 (.cells #[] 32)) (Nat.le_refl _))
  have h00 : Hid (OwnRows 2 32 (w1.alloc (.cells #[] 32)) w.heap.size (w1.alloc (.cells #[] 32)).heap.size (.slice (some ⟨w1.heap.size, 0, none⟩) 0 0) [] []) := OwnRows.start (own_base HO0.out hs1)
  have HA0 : Hid (Apt a (.slice (some ⟨w1.heap.size, 0, none⟩) 0 0)) := fun b e h => by
    have h1 := HL.out b e
    have h2 : some b.block = some w1.heap.size := h
    injection h2 with h2
    omega
  go_wp2_with fail
  go_loopw [7, 8] (fun u iv wr => ∃ (k : Nat) (d : List (List Int)) (vs : List Value) (g c : Nat), k ≤ ps.length ∧ d.length = k ∧ iv = .int .i64 k ∧ u = .slice (some ⟨g, 0, none⟩) k c ∧ Hid (Till numsF ps k d) ∧ Hid (OwnRows 2 32 wr w.heap.size wr.heap.size (.slice (some ⟨g, 0, none⟩) k c) vs d) ∧ Hid (OrdV vs) ∧ Hid (0 < k → (d.getD 0 []).length = 2) ∧ Hid (Below w.heap.size w wr) ∧ Hid (Rd wr w1.heap.size a (strs ps)) ∧ Hid (w1.heap.size ≤ wr.heap.size) ∧ Hid (Apt a (.slice (some ⟨g, 0, none⟩) k c))) (fun _ iv _ => ps.length - (intOf iv).toNat)
  case atStart => exact ⟨0, [], [], w1.heap.size, 0, Nat.zero_le _, rfl, rfl, rfl, HTl.out, h00.out, OrdV.nil, (fun h => by omega), below_then HB1.out (bl1 _ _), HRd.out, by simp [Hid], HA0.out⟩
  case round =>
    obtain ⟨k, d, vs, g, cp, hk, hdk, rfl, rfl, hTl, hO, hOrd, hF2, hw, hR, hS1, hA⟩ := hrel
    have HDK := Lib.hid hdk
    clear hdk
    have k0 : (0 : Int) ≤ (k : Int) := Int.natCast_nonneg _
    by_cases hlt : k < ps.length
    · have k1 : (k : Int) < (ps.length : Int) := by omega
      obtain ⟨b, o, l, ha, hb, hc, hl⟩ := strs_line hR.out hlt
      subst ha
      have hlm := HM.out l (List.mem_of_getElem? hl.out)
      have LD1 := Lib.hid (LR.out wr (bs l) (by rw [bs_size]; exact hlm))
      rw [show (bs l).data.toList = l from rfl] at LD1
      cases hv : numsF l with
      | none =>
        have HF := Lib.hid (HNo.out (hTl.out.stop hl.out hv))
        rw [hv] at LD1
        clear hTl hl hv
        go_wp2_with fail
        refine LD1.out.mono ?_
        rintro e w2 ⟨hb2, rfl⟩
        go_wp2_with fail
        go_ret2
        rw [HF.out]
        exact ⟨below_then hw.out hb2, _, rfl, fun yss h => by cases h⟩
      | some ns =>
        have HT2 := Lib.hid (hTl.out.step hl.out hv)
        rw [hv] at LD1
        by_cases hbad : k = 0 ∧ ns.length ≠ 2
        · have HF := Lib.hid (HFi.out l ns (by rw [← hbad.1]; exact hl.out) hv hbad.2)
          have t3 : ((k : Int) == 0) = true := by simp; omega
          have t4 : ((ns.length : Int) != 2) = true := by simp; omega
          clear hTl hl hv hbad HT2
          go_wp2_with fail
          refine LD1.out.mono ?_
          rintro e w2 ⟨hb2, q3, c3, rfl, o3⟩
          go_wp2_with fail
          go_ret2
          rw [HF.out]
          exact ⟨below_then hw.out hb2, _, rfl, fun yss h => by cases h⟩
        have HF3 : Hid (0 < k + 1 → ((d ++ [ns]).getD 0 []).length = 2) := fun _ => by
          have hdk := HDK.out
          by_cases hk0 : k = 0
          · have hd0 : d = [] := List.eq_nil_of_length_eq_zero (by omega)
            rw [hd0]
            have : ns.length = 2 := by
              rcases Nat.decEq ns.length 2 with h | h
              · exact absurd ⟨hk0, h⟩ hbad
              · exact h
            simpa [List.getD] using this
          · have := hF2.out (by omega)
            rw [List.getD, List.getElem?_append_left (by omega)]
            exact this
        have ht : (((k : Int) == 0) = true ∧ ((ns.length : Int) != 2) = false) ∨ ((k : Int) == 0) = false := by
          by_cases hk0 : k = 0
          · have : ns.length = 2 := by
              rcases Nat.decEq ns.length 2 with h | h
              · exact absurd ⟨hk0, h⟩ hbad
              · exact h
            exact .inl ⟨by simp; omega, by simp; omega⟩
          · exact .inr (by simp; omega)
        clear hTl hl hv hbad hF2
        rcases ht with ⟨t3, t4⟩ | t3
        all_goals
         go_wp2_with fail
         refine LD1.out.mono ?_
         rintro e w2 ⟨hb2, q3, c3, rfl, o3⟩
         have HRow : Hid (OwnI 2 w2 wr.heap.size w2.heap.size (some ⟨q3, 0, none⟩) c3 ns) := OwnI.of_own o3
         have HQ3 := Lib.hid ((o3.lt q3 rfl).1)
         have hOo := hO.out.out
         rw [HDK.out] at hOo
         have HOo := Lib.hid (own_below hOo hb2)
         have hw2 := below_then hw.out hb2
         have hws2 := hw2.size
         have HR2 := Lib.hid (hR.out.below (hb2.mono hS1.out) (Nat.le_refl _))
         have HS2 := Lib.hid (Nat.le_trans hS1.out hb2.size)
         have Hb2 := Lib.hid hb2
         have HOrd2 := Lib.hid (hOrd.out.snoc (g := q3) (n := ns.length) (c := c3) (fun i v p h1 h2 => hO.out.blk_lt i v p h1 h2) HQ3.out)
         clear hb2 hR LD1 hOo o3 hOrd
         go_wp2_with (at_builtin; refine wpList_append_blk _ rfl _ _ 71 rfl w.heap.size 32 (.slice none 0 0) 24 Tryd.underlying71 info_intsP rfl _ k vs rfl HOo.out (.slice (some ⟨q3, 0, none⟩) ns.length c3) rfl rfl (by omega) (by omega) hws2 ?_)
         intro v' w' ho hgr hng
         obtain ⟨g2, c2, rfl⟩ := own_some ho (by omega)
         have HO2 : Hid (OwnRows 2 32 w' w.heap.size w'.heap.size (.slice (some ⟨g2, 0, none⟩) (k + 1) c2) (vs ++ [.slice (some ⟨q3, 0, none⟩) ns.length c3]) (d ++ [ns])) :=
           OwnRows.snoc (w := w2) hO.out Hb2.out (r0 := wr.heap.size) hw.out.size (Nat.le_refl _) HRow.out (Nat.le_refl _) (by rw [HDK.out]; exact ho) hgr hng
         have HW3 := Lib.hid (below_append hw2 HOo.out hgr (Nat.le_refl _) hws2)
         have HR3 := Lib.hid (HR2.out.apt HS2.out hgr hA.out)
         have HS3 := Lib.hid (Nat.le_trans HS2.out hgr.size)
         have HA3 := Lib.hid (hA.out.grow (fun b e => Nat.lt_of_lt_of_le (HL.out b e) HS2.out) hng)
         clear ho hgr hng hw2 HR2 hA hO hw HRow HOo
         go_wp2_with fail
         go_roundw
         case rel => exact ⟨k + 1, d ++ [ns], _, g2, c2, by omega, by simp [HDK.out], by go_num, by first | rfl | simp, HT2.out, HO2.out, HOrd2.out, HF3.out, HW3.out, HR3.out, HS3.out, HA3.out⟩
         case measure => simp [intOf]; omega
    · obtain rfl : k = ps.length := by omega
      have HDK2 := HDK.out
      have HF : Hid (LF = some d) := by rw [Hid, HSo.out d hTl.out.done, if_pos ⟨by omega, hF2.out (by omega)⟩]
      have HDL2 := Lib.hid HDK2
      clear hTl HDK2
      go_wp2_with fail
      go_ret2
      rw [HF.out]
      refine ⟨hw.out, _, rfl, fun yss h => ?_⟩
      injection h with h
      subst h
      exact ⟨g, cp, vs, by rw [HDL2.out]; rfl, by rw [HDL2.out]; exact hO.out, hOrd.out⟩
end Go.Proofs.YtiimhpopcgiejaaDoor
