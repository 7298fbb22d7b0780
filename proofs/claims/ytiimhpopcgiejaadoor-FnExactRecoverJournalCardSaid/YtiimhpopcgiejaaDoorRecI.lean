/-
  The program's recovery of a journal.
-/
import Derived.Test.YtiimhpopcgiejaaDoorRecP
import Derived.Test.YtiimhpopcgiejaaDoorShelf
import Derived.Test.YtiimhpopcgiejaaDoorCut
namespace Go.Proofs.YtiimhpopcgiejaaDoor
set_option linter.unusedVariables false
set_option linter.unusedSimpArgs false
open Go.RowKit

theorem cutOne_any (w : World) (h : Shp w) (x : List UInt8) (hs : x.length ≤ 1048576) :
    Calls Tryd.prog 60 #[.string (bs x), .string ⟨#[32]⟩] w fun e w' => e = .returned (.tuple #[.string (bs (wordOf x)), .string (bs (lineOf x)), .bool (hasSp x)]) ∧ Below w.heap.size w w' := by
  obtain ⟨m, hm⟩ := h
  refine (Tryd.strings_Cut (bs x) ⟨#[32]⟩ m w (by rw [bs_size]; omega) hm).mono ?_
  rintro e w' ⟨rfl, n, rfl⟩
  rw [show (bs x).data.toList = x from rfl, show (ByteArray.mk #[32]).data.toList = [32] from rfl, cut_sp]
  exact ⟨rfl, drewN_below w n⟩
theorem indexNl_any (w : World) (x : List UInt8) :
    Calls Tryd.prog 59 #[.string (bs x), .int .u8 10] w fun e w' => e = .returned (.int .i64 (Lib.indexByte x 10)) ∧ w' = w := Tryd.strings_IndexByte (bs x) 10 w
set_option maxRecDepth 200000 in
set_option maxHeartbeats 8000000 in
theorem recovered_any (w : World) (hT : Tab w) (hS : Shp w) (s : ByteArray) (hs : s.size ≤ 1048576) :
    Calls Tryd.prog 40 #[.string s] w fun e w' => ∃ v, e = .returned (.tuple #[v, .int .i64 (recF s.data.toList).2]) ∧ w'.ownsRow w.heap.size 9 1 v (recF s.data.toList).1.length (strs (recF s.data.toList).1) ∧ Below w.heap.size w w' := by
  obtain ⟨l, hl⟩ : ∃ l, l = s.data.toList := ⟨_, rfl⟩
  have hsz : s.size = l.length := by rw [hl]; exact Lib.size_eq s
  have HEX : Hid (∀ a b, s.extract a b = bs ((l.take b).drop a)) := fun a b => by rw [hl]; exact extract_bs s a b
  have Hsz := Lib.hid hsz
  have HT := Lib.hid hT
  have HS := Lib.hid hS
  rw [← hl]
  clear hl hsz hT hS
  go_enter Tryd.func40, Tryd.ntmps40
  go_wp2_with fail
  go_loopw [4, 5, 6] (fun v cv av wr => ∃ (k : Nat) (c : Int) (d : List (List UInt8)), k ≤ s.size ∧ d.length ≤ k ∧ av = .int .i64 k ∧ cv = .int .i64 c ∧ 0 ≤ c ∧ c ≤ 65002 ∧ Hid (recF l = (d ++ (recG c (linesL (l.drop k))).1, k + (recG c (linesL (l.drop k))).2)) ∧ Hid (wr.ownsRow w.heap.size 9 1 v d.length (strs d)) ∧ Below w.heap.size w wr) (fun _ _ av _ => s.size - (intOf av).toNat)
  case atStart => exact ⟨0, 0, [], Nat.zero_le _, Nat.le_refl _, rfl, rfl, by omega, by omega, by show _ = _; rw [List.drop_zero, Nat.zero_add, List.nil_append]; rfl, own_empty w _, bl1 _ _⟩
  case round =>
    obtain ⟨k, c, d, hk, hd, rfl, rfl, c0, c1, hst, hO, hw⟩ := hrel
    have hws := hw.size
    have k0 : (0 : Int) ≤ (k : Int) := Int.natCast_nonneg _
    have hk2 : (k : Int) ≤ (s.size : Int) := by omega
    have hE1 : s.extract k s.size = bs (l.drop k) := by rw [HEX.out, Hsz.out, List.take_length]
    have LI := Lib.hid (indexNl_any wr (l.drop k))
    have HE1 := Lib.hid hE1
    rw [← hE1] at LI
    clear hE1
    rcases Int.lt_or_le (Lib.indexByte (l.drop k) 10) 0 with hn | hn
    · have hn1 : Lib.indexByte (l.drop k) 10 = -1 := by have := Lib.indexByte_ge (l.drop k) 10; omega
      rw [hn1] at LI
      have HF : Hid (recF l = (d, k)) := by rw [Hid, hst.out, linesL_no hn1]; simp [recG]
      clear hst hn1 hn
      go_wp2_with fail
      refine LI.out.mono ?_
      rintro e w' ⟨rfl, rfl⟩
      go_wp2_with fail
      go_ret2
      rw [HF.out]
      exact ⟨_, rfl, hO.out, hw⟩
    · obtain ⟨n, hn1⟩ := Int.eq_ofNat_of_zero_le hn
      rw [hn1] at LI
      obtain ⟨hnl, hli⟩ := linesL_at hn1
      rw [List.drop_drop] at hli
      have hkn : k + n + 1 ≤ s.size := by rw [List.length_drop] at hnl; have := Hsz.out; omega
      obtain ⟨x, hx⟩ : ∃ x, x = (l.drop k).take n := ⟨_, rfl⟩
      rw [← hx] at hli
      have hxl : x.length = n := by rw [hx, List.length_take]; omega
      have hE2 : s.extract k (k + n) = bs x := by rw [HEX.out, hx, List.take_drop]
      rw [hli] at hst
      have hkn2 : (k : Int) + (n : Int) ≤ (s.size : Int) := by omega
      have n0 : (0 : Int) ≤ (n : Int) := Int.natCast_nonneg _
      have LCt := Lib.hid (cutOne_any wr (HS.out.to hw) x (by omega))
      have HLD : Hid ((lineOf x).length ≤ 1048576) := by show _ ≤ _; unfold lineOf; rw [List.length_drop]; omega
      have hzl : (bs (lineOf x)).size ≤ 1099511627776 := by rw [bs_size]; have := HLD.out; omega
      have LC := Lib.hid (fun v => checkOf_any c c0 c1 (bs (lineOf x)) hzl v)
      rw [show (bs (lineOf x)).data.toList = lineOf x from rfl] at LC
      obtain ⟨c2, c3⟩ := chkF_bd (lineOf x) c c0 c1
      have LD := Lib.hid (fun v (hv : Tab v) => decimal_any v hv (chkF c (lineOf x)) (by omega) (by omega))
      rw [← hE2] at LCt
      cases hsp : hasSp x with
      | false =>
        have HF : Hid (recF l = (d, k)) := by
          rw [Hid, hst.out, recG_no (by unfold recOk; rw [hsp]; rfl)]; simp
        rw [hsp] at LCt
        clear hst hli hn1 hnl hn hsp LD hE2 hx hxl HLD hzl
        generalize chkF c (lineOf x) = cn at *
        generalize bs (lineOf x) = LN at *
        generalize bs (wordOf x) = WD at *
        go_wp2_with fail
        refine LI.out.mono ?_
        rintro e w' ⟨rfl, rfl⟩
        go_wp2_with fail
        refine LCt.out.mono ?_
        rintro e wc ⟨rfl, hbc⟩
        go_wp2_with fail
        refine (LC.out _).mono ?_
        rintro e w' ⟨rfl, rfl⟩
        go_wp2_with fail
        go_ret2
        rw [HF.out]
        exact ⟨_, rfl, own_below hO.out hbc, below_then hw hbc⟩
      | true =>
        by_cases hwd : wordOf x = Lib.itoa (chkF c (lineOf x))
        · have HF : Hid (recF l = ((d ++ [lineOf x]) ++ (recG (chkF c (lineOf x)) (linesL (l.drop (k + n + 1)))).1, (k + n + 1) + (recG (chkF c (lineOf x)) (linesL (l.drop (k + n + 1)))).2)) := by
            rw [Hid, hst.out, recG_yes (by unfold recOk; rw [hsp, hwd]; simp), hxl]
            simp only [List.append_assoc, List.singleton_append, ← Nat.add_assoc]
          rw [hsp] at LCt
          rw [hwd] at LCt
          have HLN : Hid (strs [lineOf x] = [.string (bs (lineOf x))]) := rfl
          clear hst hli hn1 hnl hn hsp hE2 hx hxl HLD hzl hwd
          generalize chkF c (lineOf x) = cn at *
          generalize bs (Lib.itoa cn) = D at *
          generalize hln : lineOf x = ln at *
          generalize hLN : bs ln = LN at *
          have hdl : d.length ≤ 1099511627776 := by omega
          clear hln
          go_wp2_with fail
          refine LI.out.mono ?_
          rintro e w' ⟨rfl, rfl⟩
          go_wp2_with fail
          refine LCt.out.mono ?_
          rintro e wc ⟨rfl, hbc⟩
          have HTc := HT.out.to (below_then hw hbc)
          have Hbc := Lib.hid hbc
          clear hbc
          go_wp2_with fail
          refine (LC.out _).mono ?_
          rintro e w' ⟨rfl, rfl⟩
          go_wp2_with fail
          refine (LD.out _ HTc).mono ?_
          rintro e wd ⟨rfl, hbd⟩
          have hO' := own_below (own_below hO.out Hbc.out) hbd
          have hwd := below_then (below_then hw Hbc.out) hbd
          have hwsd := hwd.size
          clear hbd Hbc hO hw hws
          go_wp2_with (at_builtin; refine wpList_append_one _ rfl _ _ 22 rfl w.heap.size 9 (.string ByteArray.empty) 16 Tryd.underlying22 info_str rfl _ d.length _ rfl hO' (.string LN) rfl rfl (by omega) hdl hwsd ?_)
          intro v' w' ho hgr
          have HO2 : Hid (w'.ownsRow w.heap.size 9 1 v' (d ++ [ln]).length (strs (d ++ [ln]))) := by
            rw [Hid, List.length_append, List.length_singleton, strs_append, HLN.out]; exact ho
          have hw2 := below_append hwd hO' hgr (Nat.le_refl _) hwsd
          clear ho hgr hO' hwd
          go_wp2_with fail
          go_roundw
          case rel => exact ⟨k + n + 1, cn, d ++ [ln], by omega, by simp; omega, by go_num, rfl, c2, c3, HF, HO2, hw2⟩
          case measure => simp [intOf]; omega
        · have HF : Hid (recF l = (d, k)) := by
            rw [Hid, hst.out, recG_no (by unfold recOk; rw [hsp, decide_eq_false hwd]; rfl)]; simp
          have hbl : ((bs (wordOf x)).toList == (bs (Lib.itoa (chkF c (lineOf x)))).toList) = false := by rw [bs_toList, bs_toList, Bool.eq_false_iff]; intro h; exact hwd (eq_of_beq h)
          rw [hsp] at LCt
          clear hst hli hn1 hnl hn hsp hE2 hx hxl HLD hzl hwd
          generalize chkF c (lineOf x) = cn at *
          generalize bs (Lib.itoa cn) = D at *
          generalize bs (lineOf x) = LN at *
          generalize bs (wordOf x) = WD at *
          go_wp2_with fail
          refine LI.out.mono ?_
          rintro e w' ⟨rfl, rfl⟩
          go_wp2_with fail
          refine LCt.out.mono ?_
          rintro e wc ⟨rfl, hbc⟩
          have HTc := HT.out.to (below_then hw hbc)
          have Hbc := Lib.hid hbc
          clear hbc
          go_wp2_with fail
          refine (LC.out _).mono ?_
          rintro e w' ⟨rfl, rfl⟩
          go_wp2_with fail
          refine (LD.out _ HTc).mono ?_
          rintro e wd ⟨rfl, hbd⟩
          go_wp2_with fail
          go_ret2
          rw [HF.out]
          exact ⟨_, rfl, own_below (own_below hO.out Hbc.out) hbd, below_then (below_then hw Hbc.out) hbd⟩
end Go.Proofs.YtiimhpopcgiejaaDoor
