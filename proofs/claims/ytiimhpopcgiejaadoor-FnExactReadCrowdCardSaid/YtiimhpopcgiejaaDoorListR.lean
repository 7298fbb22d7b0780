/-
  The reference's lists with a text.
-/
import Derived.Test.YtiimhpopcgiejaaDoorListI
import Derived.Test.YtiimhpopcgiejaaDoorNumR
import Derived.Test.YtiimhpopcgiejaaDoorCut
namespace Go.Proofs.YtiimhpopcgiejaaDoor
set_option linter.unusedVariables false
set_option linter.unusedSimpArgs false
open Go.RowKit

set_option maxRecDepth 200000 in
set_option maxHeartbeats 8000000 in
theorem l01Numbers_any (w : World) (s : ByteArray) (hs : s.size ≤ 1048576) :
    Calls Tryd.prog 77 #[.string s] w (RetN 2 w (numsF s.data.toList)) := by
  by_cases hn : s.data.toList = noneL
  · have hbl : (s.toList == [110, 111, 110, 101]) = true := by rw [Lib.toList_data, hn]; rfl
    rw [numsF_none hn]
    have hO0 := Lib.hid (own_empty w 2)
    clear hn
    go_enter Tryd.func77, Tryd.ntmps77
    go_wp2_with fail
    go_ret2
    exact ⟨bl1 _ _, _, _, rfl, hO0.out⟩
  have hbl : (s.toList == [110, 111, 110, 101]) = false := by rw [Lib.toList_data, Bool.eq_false_iff]; intro e; exact hn (eq_of_beq e)
  have LC := Lib.hid (fun v => l01Cut_any v s 44 hs)
  have HP : pcsF s.data.toList = cutL 44 s.data.toList := by unfold pcsF; rw [if_neg hn]
  rw [← HP] at LC
  have hln : (pcsF s.data.toList).length ≤ 1048577 := by have := pcsF_len s.data.toList; have := Lib.size_eq s; omega
  have HM : Hid (∀ x ∈ pcsF s.data.toList, x.length ≤ 1048576) := fun x hx => by have := pcsF_mem hx; have := Lib.size_eq s; omega
  have HLong := Lib.hid (fun h => numsF_long (l := s.data.toList) h)
  have HAll := Lib.hid (fun h => numsF_all (l := s.data.toList) h)
  have HSome := Lib.hid (fun ns h h2 => numsF_some (l := s.data.toList) (ns := ns) h h2)
  have LV := Lib.hid l01Value_any
  have HTl := Lib.hid (Till.start valF (pcsF s.data.toList))
  generalize numsF s.data.toList = NF at *
  generalize pcsF s.data.toList = ps at *
  clear hs hn HP
  have hO0 := Lib.hid (own_empty w 2)
  go_enter Tryd.func77, Tryd.ntmps77
  go_wp2_with fail
  refine (LC.out _).mono ?_
  rintro e w1 ⟨a, c, rfl, hown, hb1⟩
  have HX := Lib.hid (rd_of_own hown (Nat.le_refl _))
  have HB1 := Lib.hid (below_then (bl1 _ _) hb1)
  have HO1 := Lib.hid (own_below hO0.out hb1)
  have hbl2 : ∀ b, a = some b → (w.alloc (.cells #[] 2)).heap.size ≤ b.block ∧ b.block < w1.heap.size := fun b e => hown.lt b.block (by rw [e]; rfl)
  have HL := Lib.hid (fun b (e : a = some b) => (hbl2 b e).2)
  have HA0 : Hid (Apt a (.slice (some ⟨w.heap.size, 0, none⟩) 0 0)) := fun b e h => by
    have h1 := (hbl2 b e).1
    have h2 : some b.block = some w.heap.size := h
    injection h2 with h2
    simp at h1
    omega
  clear hown hb1 hO0 LC hbl2
  by_cases hlong : 64 < ps.length
  · have hlong2 : (64 : Int) < (ps.length : Int) := by omega
    have HF := Lib.hid (HLong.out hlong)
    clear hlong HLong HAll HSome
    go_wp2_with fail
    go_ret2
    rw [HF.out]
    exact ⟨HB1.out, rfl⟩
  have hlong2 : ¬ (64 : Int) < (ps.length : Int) := by omega
  go_wp2_with fail
  go_loopw [4, 6] (fun v iv wr => ∃ (k : Nat) (d : List Int), k ≤ ps.length ∧ d.length = k ∧ iv = .int .i64 k ∧ (∃ g c, v = .slice (some ⟨g, 0, none⟩) d.length c) ∧ Hid (Till valF ps k d) ∧ Hid (wr.ownsRow w.heap.size 2 1 v d.length (ints d)) ∧ Hid (Below w.heap.size w wr) ∧ Hid (Rd wr w1.heap.size a (strs ps)) ∧ Hid (w1.heap.size ≤ wr.heap.size) ∧ Hid (Apt a v)) (fun _ iv _ => ps.length - (intOf iv).toNat)
  case atStart => exact ⟨0, [], Nat.zero_le _, rfl, rfl, ⟨_, _, rfl⟩, HTl.out, HO1.out, HB1.out, HX.out, Nat.le_refl _, HA0.out⟩
  case round =>
    obtain ⟨k, d, hk, hdk, rfl, ⟨g, cp, rfl⟩, hTl, hO, hw, hR, hS1, hA⟩ := hrel
    have HDK := Lib.hid hdk
    clear hdk
    have k0 : (0 : Int) ≤ (k : Int) := Int.natCast_nonneg _
    by_cases hlt : k < ps.length
    · have k1 : (k : Int) < (ps.length : Int) := by omega
      obtain ⟨b, o, l, ha, hb, hc, hl⟩ := strs_line hR.out hlt
      subst ha
      have hlm := HM.out l (List.mem_of_getElem? hl.out)
      have LD1 := Lib.hid (LV.out wr (bs l) (by rw [bs_size]; exact hlm))
      rw [show (bs l).data.toList = l from rfl] at LD1
      cases hv : valF l with
      | none =>
        have HF := Lib.hid (HAll.out (hTl.out.stop hl.out hv))
        rw [hv] at LD1
        clear hTl hl hv
        go_wp2_with fail
        refine LD1.out.mono ?_
        rintro e w2 ⟨rfl, hb2⟩
        go_wp2_with fail
        go_ret2
        rw [HF.out]
        exact ⟨below_then hw.out hb2, rfl⟩
      | some n =>
        have HT2 := Lib.hid (hTl.out.step hl.out hv)
        rw [hv] at LD1
        clear hTl hl hv
        go_wp2_with fail
        refine LD1.out.mono ?_
        rintro e w2 ⟨rfl, hb2⟩
        have hO' := own_below hO.out hb2
        have hw2 := below_then hw.out hb2
        have hws2 := hw2.size
        have hdl : d.length ≤ 1099511627776 := by have := HDK.out; omega
        have HR2 := Lib.hid (hR.out.below (hb2.mono hS1.out) (Nat.le_refl _))
        have HS2 := Lib.hid (Nat.le_trans hS1.out hb2.size)
        clear hb2 hO hw hR LD1
        go_wp2_with (at_builtin; refine wpList_append_blk _ rfl _ _ 32 rfl w.heap.size 2 (.int .i64 0) 8 Tryd.underlying32 info_i64p rfl _ d.length _ rfl hO' (.int .i64 n) rfl rfl (by omega) hdl hws2 ?_)
        intro v' w' ho hgr hng
        obtain ⟨g2, c2, rfl⟩ := own_some ho (by omega)
        have HO2 : Hid (w'.ownsRow w.heap.size 2 1 (.slice (some ⟨g2, 0, none⟩) (d.length + 1) c2) (d ++ [n]).length (ints (d ++ [n]))) := by
          rw [Hid, List.length_append, List.length_singleton, ints_append]; exact ho
        have HW3 := Lib.hid (below_append hw2 hO' hgr (Nat.le_refl _) hws2)
        have HR3 := Lib.hid (HR2.out.apt HS2.out hgr hA.out)
        have HS3 := Lib.hid (Nat.le_trans HS2.out hgr.size)
        have HA3 := Lib.hid (hA.out.grow (fun b e => Nat.lt_of_lt_of_le (HL.out b e) HS2.out) hng)
        clear ho hgr hng hO' hw2 HR2 hA
        go_wp2_with fail
        go_roundw
        case rel => exact ⟨k + 1, d ++ [n], by omega, by simp [HDK.out], by go_num, ⟨g2, c2, by simp⟩, HT2.out, HO2.out, HW3.out, HR3.out, HS3.out, HA3.out⟩
        case measure => simp [intOf]; omega
    · obtain rfl : k = ps.length := by omega
      have HF := Lib.hid (HSome.out d hTl.out.done (by have := HDK.out; omega))
      clear hTl
      go_wp2_with fail
      go_ret2
      rw [HF.out]
      exact ⟨hw.out, _, _, rfl, hO.out⟩
end Go.Proofs.YtiimhpopcgiejaaDoor
