/-
  The program's lists with a text.
-/
import Derived.Test.YtiimhpopcgiejaaDoorListP
import Derived.Test.YtiimhpopcgiejaaDoorNumI
import Derived.Test.YtiimhpopcgiejaaDoorLines
import Derived.Test.YtiimhpopcgiejaaDoorGrow
import Derived.Test.YtiimhpopcgiejaaDoorJourS
namespace Go.Proofs.YtiimhpopcgiejaaDoor
set_option linter.unusedVariables false
set_option linter.unusedSimpArgs false
open Go.RowKit

/-- A list that lies elsewhere than a row. -/
def Apt (a : Option Addr) (v : Value) : Prop := ∀ b, a = some b → some b.block ≠ v.ownBlock
theorem Rd.apt {wr w' : World} {B : Nat} {a : Option Addr} {vs : List Value} {v : Value} (h : Rd wr B a vs) (hB : B ≤ wr.heap.size) (hg : wr.grownBy w' v.ownBlock) (ha : Apt a v) : Rd w' B a vs := by
  rcases h with h | ⟨b, o, e, hb, hc⟩
  · exact .inl h
  · exact .inr ⟨b, o, e, hb, fun j hj => by rw [World.cell?_of_block (w := wr) (hg.block b (by omega) (ha _ e))]; exact hc j hj⟩
theorem Apt.grow {wr : World} {a : Option Addr} {v v' : Value} (ha : Apt a v) (hlt : ∀ b, a = some b → b.block < wr.heap.size) (hn : ∀ g, g < wr.heap.size → some g ≠ v.ownBlock → some g ≠ v'.ownBlock) : Apt a v' :=
  fun b e => hn _ (hlt b e) (ha b e)
/-- Pieces that lie in blocks made since. -/
def RetPc (w : World) (ps : List (List UInt8)) (e : Ending) (w' : World) : Prop := ∃ a c, e = .returned (.slice a ps.length c) ∧ Rd w' w'.heap.size a (strs ps) ∧ (∀ b, a = some b → w.heap.size ≤ b.block ∧ b.block < w'.heap.size) ∧ Below w.heap.size w w'
set_option maxRecDepth 200000 in
set_option maxHeartbeats 4000000 in
theorem pieces_any (w : World) (h : Shp w) (s : ByteArray) (hs : s.size ≤ 1048576) :
    Calls Tryd.prog 96 #[.string s] w (RetPc w (pcsF s.data.toList)) := by
  have LS := Lib.hid (split_any w h s hs 44 ⟨#[44]⟩ rfl)
  by_cases hn : s.data.toList = noneL
  · have HP : Hid (pcsF s.data.toList = []) := by unfold pcsF; rw [Hid, if_pos hn]
    have hS : s = ⟨#[110, 111, 110, 101]⟩ := by rw [← bs_of s, hn]; rfl
    have hbl : (s.toList == [110, 111, 110, 101]) = true := by rw [Lib.toList_data, hn]; rfl
    rw [HP.out]
    clear hn LS hS
    go_enter Tryd.func96, Tryd.ntmps96
    go_wp2_with fail
    go_ret
    exact ⟨none, 0, rfl, .inl rfl, (fun b e => by cases e), Below.refl _ _⟩
  · have HP : Hid (pcsF s.data.toList = cutL 44 s.data.toList) := by unfold pcsF; rw [Hid, if_neg hn]
    have hbl : (s.toList == [110, 111, 110, 101]) = false := by rw [Lib.toList_data, Bool.eq_false_iff]; intro e; exact hn (eq_of_beq e)
    rw [HP.out]
    generalize cutL 44 s.data.toList = ps at *
    clear hn
    go_enter Tryd.func96, Tryd.ntmps96
    go_wp2_with fail
    refine LS.out.mono ?_
    rintro e w' ⟨rfl, hb, hw⟩
    go_wp2_with fail
    go_ret
    exact ⟨_, _, rfl, hb.rd hb.lt, (fun b e => by injection e with e; subst e; exact ⟨Nat.le_refl _, hb.lt⟩), hw⟩
set_option maxRecDepth 200000 in
set_option maxHeartbeats 8000000 in
theorem readList_any (w : World) (hT : Tab w) (hS : Shp w) (hE : Errs w) (s : ByteArray) (hs : s.size ≤ 1048576) :
    Calls Tryd.prog 81 #[.string s] w (RetN 2 w (allO valF (pcsF s.data.toList))) := by
  have hln : (pcsF s.data.toList).length ≤ 1048577 := by have := pcsF_len s.data.toList; have := Lib.size_eq s; omega
  have HM : Hid (∀ x ∈ pcsF s.data.toList, x.length ≤ 1048576) := fun x hx => by have := pcsF_mem hx; have := Lib.size_eq s; omega
  have LP := Lib.hid (fun v (hv : Below w.heap.size w v) => pieces_any v (hS.to hv) s hs)
  have HT := Lib.hid hT
  have HE := Lib.hid hE
  have LD := Lib.hid readDec_any
  have HTl := Lib.hid (Till.start valF (pcsF s.data.toList))
  generalize pcsF s.data.toList = ps at *
  clear hT hS hE hs
  have hO0 := Lib.hid (own_empty w 2)
  go_enter Tryd.func81, Tryd.ntmps81
  go_wp2_with fail
  refine (LP.out _ (bl1 _ _)).mono ?_
  rintro e w1 ⟨a, c, rfl, hrd, hbl, hb1⟩
  have HX := Lib.hid hrd
  have HB1 := Lib.hid (below_then (bl1 _ _) hb1)
  have HO1 := Lib.hid (own_below hO0.out hb1)
  have HL := Lib.hid (fun b (e : a = some b) => (hbl b e).2)
  have HA0 : Hid (Apt a (.slice (some ⟨w.heap.size, 0, none⟩) 0 0)) := fun b e h => by
    have h1 := (hbl b e).1
    have h2 : some b.block = some w.heap.size := h
    injection h2 with h2
    simp at h1
    omega
  clear hrd hb1 hO0 LP hbl
  go_wp2_with fail
  go_loopw [4, 13] (fun v iv wr => ∃ (k : Nat) (d : List Int), k ≤ ps.length ∧ d.length = k ∧ iv = .int .i64 k ∧ (∃ g c, v = .slice (some ⟨g, 0, none⟩) d.length c) ∧ Hid (Till valF ps k d) ∧ Hid (wr.ownsRow w.heap.size 2 1 v d.length (ints d)) ∧ Hid (Below w.heap.size w wr) ∧ Hid (Rd wr w1.heap.size a (strs ps)) ∧ Hid (w1.heap.size ≤ wr.heap.size) ∧ Hid (Apt a v)) (fun _ iv _ => ps.length - (intOf iv).toNat)
  case atStart => exact ⟨0, [], Nat.zero_le _, rfl, rfl, ⟨_, _, rfl⟩, HTl.out, HO1.out, HB1.out, HX.out, Nat.le_refl _, HA0.out⟩
  case round =>
    obtain ⟨k, d, hk, hdk, rfl, ⟨g, cp, rfl⟩, hTl, hO, hw, hR, hS1, hA⟩ := hrel
    have HDK := Lib.hid hdk
    clear hdk
    have k0 : (0 : Int) ≤ (k : Int) := Int.natCast_nonneg _
    by_cases hlt : k < ps.length
    · have k1 : (k : Int) < (ps.length : Int) := by omega
      obtain ⟨b, o, l, ha, hb, hc, hl⟩ := strs_line hR.out hlt
      have HAe := Lib.hid ha
      subst ha
      have hlm := HM.out l (List.mem_of_getElem? hl.out)
      have LD1 := Lib.hid (LD.out wr (HT.out.to hw.out) (HE.out.to hw.out) (bs l) (by rw [bs_size]; exact hlm))
      rw [show (bs l).data.toList = l from rfl] at LD1
      cases hv : valF l with
      | none =>
        have HF := Lib.hid (hTl.out.stop hl.out hv)
        rw [hv] at LD1
        clear hTl hl hv
        go_wp2_with fail
        refine LD1.out.mono ?_
        rintro e w2 ⟨rfl, hb2⟩
        go_wp2_with fail
        go_ret2
        rw [HF.out]
        exact ⟨below_then hw.out hb2, rfl⟩
      | some n =>
        have HT2 := Lib.hid (hTl.out.step hl.out hv)
        rw [hv] at LD1
        clear hTl hl hv
        go_wp2_with fail
        refine LD1.out.mono ?_
        rintro e w2 ⟨rfl, hb2⟩
        have hO' := own_below hO.out hb2
        have hw2 := below_then hw.out hb2
        have hws2 := hw2.size
        have hdl : d.length ≤ 1099511627776 := by have := HDK.out; omega
        have HR2 := Lib.hid (hR.out.below (hb2.mono hS1.out) (Nat.le_refl _))
        have HS2 := Lib.hid (Nat.le_trans hS1.out hb2.size)
        clear hb2 hO hw hR LD1
        go_wp2_with (at_builtin; go_loud (refine wpList_append_blk _ rfl _ _ 32 rfl w.heap.size 2 (.int .i64 0) 8 Tryd.underlying32 info_i64p rfl _ d.length _ rfl hO' (.int .i64 n) rfl rfl (by omega) hdl hws2 ?_))
        intro v' w' ho hgr hng
        obtain ⟨g2, c2, rfl⟩ := own_some ho (by omega)
        have HO2 : Hid (w'.ownsRow w.heap.size 2 1 (.slice (some ⟨g2, 0, none⟩) (d.length + 1) c2) (d ++ [n]).length (ints (d ++ [n]))) := by
          rw [Hid, List.length_append, List.length_singleton, ints_append]; exact ho
        have HW3 := Lib.hid (below_append hw2 hO' hgr (Nat.le_refl _) hws2)
        have HR3 := Lib.hid (HR2.out.apt HS2.out hgr hA.out)
        have HS3 := Lib.hid (Nat.le_trans HS2.out hgr.size)
        have HA3 := Lib.hid (hA.out.grow (fun b e => Nat.lt_of_lt_of_le (HL.out b e) HS2.out) hng)
        clear ho hgr hng hO' hw2 HR2 hA
        go_wp2_with fail
        go_roundw
        case rel => exact ⟨k + 1, d ++ [n], by omega, by simp [HDK.out], by go_num, ⟨g2, c2, by simp⟩, HT2.out, HO2.out, HW3.out, HR3.out, HS3.out, HA3.out⟩
        case measure => simp [intOf]; omega
    · obtain rfl : k = ps.length := by omega
      have HF := Lib.hid hTl.out.done
      clear hTl
      go_wp2_with fail
      go_ret2
      rw [HF.out]
      exact ⟨hw.out, _, _, rfl, hO.out⟩
set_option maxRecDepth 200000 in
set_option maxHeartbeats 4000000 in
theorem readListTop_any (w : World) (hT : Tab w) (hS : Shp w) (hE : Errs w) (s : ByteArray) (hs : s.size ≤ 1048576) :
    Calls Tryd.prog 64 #[.string s] w (RetN 2 w (numsF s.data.toList)) := by
  have LR := Lib.hid (readList_any w hT hS hE s hs)
  clear hT hS hE
  cases ha : allO valF (pcsF s.data.toList) with
  | none =>
    have HF := Lib.hid (numsF_all ha)
    rw [ha] at LR
    rw [HF.out]
    clear ha
    go_enter Tryd.func64, Tryd.ntmps64
    go_wp2_with fail
    refine LR.out.mono ?_
    rintro e w' ⟨hb, rfl⟩
    go_wp2_with fail
    go_ret2
    exact ⟨hb, rfl⟩
  | some ns =>
    rw [ha] at LR
    by_cases hl : ns.length ≤ 64
    · have HF := Lib.hid (numsF_some ha hl)
      rw [HF.out]
      have hl2 : ¬ (64 : Int) < (ns.length : Int) := by omega
      clear ha
      go_enter Tryd.func64, Tryd.ntmps64
      go_wp2_with fail
      refine LR.out.mono ?_
      rintro e w' ⟨hb, g, c, rfl, ho⟩
      go_wp2_with fail
      go_ret2
      exact ⟨hb, g, c, rfl, ho⟩
    · have HF : Hid (numsF s.data.toList = none) := numsF_long (by rw [← allO_len ha]; omega)
      rw [HF.out]
      have hl2 : (64 : Int) < (ns.length : Int) := by omega
      clear ha
      go_enter Tryd.func64, Tryd.ntmps64
      go_wp2_with fail
      refine LR.out.mono ?_
      rintro e w' ⟨hb, g, c, rfl, ho⟩
      go_wp2_with fail
      go_ret2
      exact ⟨hb, rfl⟩
end Go.Proofs.YtiimhpopcgiejaaDoor
