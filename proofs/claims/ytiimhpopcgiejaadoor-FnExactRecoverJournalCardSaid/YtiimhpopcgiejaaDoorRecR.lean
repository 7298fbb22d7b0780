/-
  The reference's recovery of a journal.
-/
import Derived.Test.YtiimhpopcgiejaaDoorRecP
import Derived.Test.YtiimhpopcgiejaaDoorJourS
import Derived.Test.YtiimhpopcgiejaaDoorCut
namespace Go.Proofs.YtiimhpopcgiejaaDoor
set_option linter.unusedVariables false
set_option linter.unusedSimpArgs false
open Go.RowKit

set_option maxRecDepth 200000 in
set_option maxHeartbeats 16000000 in
theorem l08Recover_any (w : World) (s : ByteArray) (hs : s.size ≤ 1048576) :
    Calls Tryd.prog 39 #[.string s] w fun e w' => ∃ v, e = .returned (.tuple #[v, .int .i64 (recF s.data.toList).2]) ∧ w'.ownsRow w.heap.size 9 1 v (recF s.data.toList).1.length (strs (recF s.data.toList).1) ∧ Below w.heap.size w w' := by
  have LL := Lib.hid (l08Lines_any w s hs)
  have hxl : (linesL s.data.toList).length ≤ 1048576 := by have := linesL_len s.data.toList; have := Lib.size_eq s; omega
  have HM : Hid (∀ x ∈ linesL s.data.toList, x.length ≤ 1048576) := fun x hx => by have := linesL_mem hx; have := Lib.size_eq s; omega
  have HR : Hid (recF s.data.toList = recG 0 (linesL s.data.toList)) := rfl
  generalize recF s.data.toList = RF at *
  generalize linesL s.data.toList = xs at *
  generalize restL s.data.toList = rs at *
  go_enter Tryd.func39, Tryd.ntmps39
  go_wp2_with fail
  refine LL.out.mono ?_
  rintro e w1 ⟨a, cp, rfl, hrd, hb1⟩
  have HX := Lib.hid hrd
  have HB1 := Lib.hid hb1
  have hs1 := hb1.size
  clear hrd hb1 LL
  go_wp2_with fail
  go_loopw [6, 7, 8, 9] (fun v cv nv iv wr => ∃ (k N : Nat) (c : Int) (d : List (List UInt8)), k ≤ xs.length ∧ d.length ≤ k ∧ N ≤ k * 1048577 ∧ iv = .int .i64 k ∧ nv = .int .i64 N ∧ cv = .int .i64 c ∧ 0 ≤ c ∧ c ≤ 65002 ∧ Hid (RF = (d ++ (recG c (xs.drop k)).1, N + (recG c (xs.drop k)).2)) ∧ Hid (wr.ownsRow w1.heap.size 9 1 v d.length (strs d)) ∧ Below w1.heap.size w1 wr) (fun _ _ _ iv _ => xs.length - (intOf iv).toNat)
  case atStart => exact ⟨0, 0, 0, [], Nat.zero_le _, Nat.le_refl _, Nat.zero_le _, rfl, rfl, rfl, by omega, by omega, by show _ = _; rw [HR.out, List.drop_zero, Nat.zero_add, List.nil_append], own_empty w1 _, bl1 _ _⟩
  case round =>
    obtain ⟨k, N, c, d, hk, hd, hN, rfl, rfl, rfl, c0, c1, hst, hO, hw⟩ := hrel
    have hws := hw.size
    have k0 : (0 : Int) ≤ (k : Int) := Int.natCast_nonneg _
    by_cases hlt : k < xs.length
    case neg =>
      obtain rfl : k = xs.length := by omega
      have HF : Hid (RF = (d, N)) := by rw [Hid, hst.out, List.drop_length]; simp [recG]
      clear hst
      go_wp2_with fail
      go_ret2
      rw [HF.out]
      exact ⟨_, rfl, own_base hO.out hs1, below_then HB1.out hw⟩
    have k1 : (k : Int) < (xs.length : Int) := by omega
    obtain ⟨b, o, x, ha, hb, hc, hl⟩ := strs_line (HX.out.to hw) hlt
    subst ha
    have hxm := HM.out x (List.mem_of_getElem? hl.out)
    have e : xs.drop k = x :: xs.drop (k + 1) := by
      rw [List.drop_eq_getElem_cons hlt]
      have := hl.out
      rw [List.getElem?_eq_getElem hlt] at this
      injection this with this
      rw [this]
    rw [e] at hst
    clear e
    have hdl : d.length ≤ 1099511627776 := by omega
    have hW := wordOf_le x
    have zT : (bs x).size = x.length := bs_size x
    have HBe := Lib.hid (fun j b (h1 : j < (wordOf x).length) (h2 : x[j]? = some b) => wordOf_before h1 h2)
    have HAt := Lib.hid (fun b (h2 : x[(wordOf x).length]? = some b) => wordOf_at h2)
    have HG : Hid (∀ j (h : j < (bs x).size), x[j]? = some (bs x)[j]) := fun j h => by rw [List.getElem?_eq_getElem (by rw [← zT]; exact h)]; rfl
    have HE1 : Hid ((bs x).extract 0 (wordOf x).length = bs (wordOf x)) := by rw [Hid, extract_bs, bs_list, List.drop_zero, wordOf_take]
    have HE2 : Hid ((bs x).extract ((wordOf x).length + 1) (bs x).size = bs (lineOf x)) := by rw [Hid, extract_bs, bs_list, zT, List.take_length]; rfl
    have hLl : (lineOf x).length ≤ 1048576 := by unfold lineOf; rw [List.length_drop]; omega
    have LC := Lib.hid (l01Check_any c c0 c1 (bs (lineOf x)) (by rw [bs_size]; omega))
    rw [show (bs (lineOf x)).data.toList = lineOf x from rfl] at LC
    obtain ⟨c2, c3⟩ := chkF_bd (lineOf x) c c0 c1
    have LD := Lib.hid (fun v => l01Dec_any v (chkF c (lineOf x)) (by omega) (by omega))
    have HNo : Hid (recOk c x = false → RF = (d, N)) := fun h => by rw [hst.out, recG_no h]; simp
    have HYes : Hid (recOk c x = true → RF = ((d ++ [lineOf x]) ++ (recG (chkF c (lineOf x)) (xs.drop (k + 1))).1, (N + (x.length + 1)) + (recG (chkF c (lineOf x)) (xs.drop (k + 1))).2)) := fun h => by
      rw [hst.out, recG_yes h]
      simp only [List.append_assoc, List.singleton_append, ← Nat.add_assoc]
    have HOk : Hid (recOk c x = (decide ((wordOf x).length < x.length) && decide (wordOf x = Lib.itoa (chkF c (lineOf x))))) := rfl
    have HEq : Hid ((decide (wordOf x = Lib.itoa (chkF c (lineOf x)))) = ((bs (wordOf x)).toList == (bs (Lib.itoa (chkF c (lineOf x)))).toList)) := by
      rw [Hid, bs_toList, bs_toList, Bool.eq_iff_iff, decide_eq_true_eq, beq_iff_eq]
    have HLN : Hid (strs [lineOf x] = [.string (bs (lineOf x))]) := rfl
    clear hst
    generalize recOk c x = ok at *
    rw [HEq.out] at HOk
    clear HEq
    generalize hWL : (wordOf x).length = W at *
    generalize bs (wordOf x) = WD at *
    generalize bs (Lib.itoa (chkF c (lineOf x))) = D at *
    generalize chkF c (lineOf x) = cn at *
    generalize lineOf x = ln at *
    generalize bs ln = LN at *
    generalize x.length = xn at *
    generalize hT : bs x = T at *
    have HTx := Lib.hid hT
    have HOw := Lib.hid hO.out
    have HWr := Lib.hid hw
    clear hWL hT hO hw
    subst zT
    have W0 : (0 : Int) ≤ (W : Int) := Int.natCast_nonneg _
    have T0 : (0 : Int) ≤ (T.size : Int) := Int.natCast_nonneg _
    obtain ⟨wo, hwo⟩ : ∃ V : World, V = wr := ⟨_, rfl⟩
    subst hwo
    go_wp2_with fail
    go_loop [10] (fun jv => ∃ j : Nat, j ≤ W ∧ jv = .int .i64 j) (fun jv => W - (intOf jv).toNat)
    case atStart => exact ⟨0, Nat.zero_le _, rfl⟩
    case round =>
      obtain ⟨j, hj, rfl⟩ := hrel
      have j0 : (0 : Int) ≤ (j : Int) := Int.natCast_nonneg _
      by_cases hjW : j < W
      · have hjT : j < T.size := by omega
        have hjT2 : (j : Int) < (T.size : Int) := by omega
        have hne := HBe.out j T[j] hjW (HG.out j hjT)
        have hb2 : ((T[j].toNat : Int) == ((32 : UInt8).toNat : Int)) = false := by rw [beq_byte]; exact decide_eq_false hne
        have hb3 : ((T[j].toNat : Int) == 32) = false := hb2
        clear hne
        go_wp2_with fail
        go_round
        case rel => exact ⟨j + 1, by omega, by go_num⟩
        case measure => simp [intOf]; omega
      · obtain rfl : j = W := by omega
        by_cases hjT : j < T.size
        · have hjT2 : (j : Int) < (T.size : Int) := by omega
          have he := HAt.out T[j] (HG.out j hjT)
          have hb2 : ((T[j].toNat : Int) == ((32 : UInt8).toNat : Int)) = true := by rw [beq_byte]; exact decide_eq_true he
          have hb3 : ((T[j].toNat : Int) == 32) = true := hb2
          have hq : ((j : Int) == (T.size : Int)) = false := by simp; omega
          have HOk2 : Hid (ok = (WD.toList == D.toList)) := by rw [Hid, HOk.out, decide_eq_true hjT]; rfl
          clear he HOk
          have hE2 := HE2.out
          have hE1 := HE1.out
          have EE : Hid (wo.cell? ⟨b, o + k, none⟩ = some (.string T)) := hc
          have EX : Hid (wo.drew.cell? ⟨b, o + k, none⟩ = some (.string T)) := hc
          cases hbb : (WD.toList == D.toList) with
          | true =>
            have HF := Lib.hid (HYes.out (by rw [HOk2.out, hbb]))
            obtain rfl : WD = D := by rw [Lib.toList_data, Lib.toList_data] at hbb; exact ext_bs (eq_of_beq hbb)
            clear HOk2 HYes HNo hbb
            go_wp2_with fail
            refine (LC.out _).mono ?_
            rintro e w' ⟨rfl, rfl⟩
            go_wp2_with fail
            go_region_held3 (fun w' => w'.cell? ⟨b, o + k, none⟩ = some (.string T))
              (first | exact EE.out | exact EX.out | exact HQ2.out)
              ((go_at_call 53; refine (LD.out _).mono ?_; rintro e wq ⟨rfl, hbq⟩; have HBq := Lib.hid (below_then (below_drew' HWr.out) hbq); have HOq := Lib.hid (own_below (own_below HOw.out (below_drew' (Below.refl _ _))) hbq); have HQ2 : Hid (wq.cell? ⟨b, o + k, none⟩ = some (.string T)) := (hbq.cell (p := ⟨b, o + k, none⟩) hb).trans EX.out))
            all_goals
              have hO' := HOq.out
              have hwd := HBq.out
              have hwsd := hwd.size
              have hcq := HQ2.out
              clear HOq HBq LC LD hc HOw HWr
              go_wp2_with (at_builtin; refine wpList_append_one _ rfl _ _ 22 rfl w1.heap.size 9 (.string ByteArray.empty) 16 Tryd.underlying22 info_str rfl _ d.length _ rfl hO' (.string LN) rfl rfl (by omega) hdl hwsd ?_)
              intro v' w' ho hgr
              have HO2 : Hid (w'.ownsRow w1.heap.size 9 1 v' (d ++ [ln]).length (strs (d ++ [ln]))) := by
                rw [Hid, List.length_append, List.length_singleton, strs_append, HLN.out]; exact ho
              have hw2 := below_append hwd hO' hgr (Nat.le_refl _) hwsd
              obtain ⟨b9, o9, x9, ha9, hb9, hc9, hl9⟩ := strs_line (HX.out.to hw2) hlt
              obtain rfl : x9 = x := by have h1 := hl9.out; rw [hl.out] at h1; injection h1 with h1; exact h1.symm
              rw [HTx.out] at hc9
              clear hl9
              go_wp2_with fail
              go_roundw
              case rel => exact ⟨k + 1, N + (T.size + 1), cn, d ++ [ln], by omega, by simp; omega, by omega, by go_num, by go_num, rfl, c2, c3, HF, HO2, hw2⟩
              case measure => simp [intOf]; omega
          | false =>
            have HF := Lib.hid (HNo.out (by rw [HOk2.out, hbb]))
            clear HOk2 HYes HNo
            go_wp2_with fail
            refine (LC.out _).mono ?_
            rintro e w' ⟨rfl, rfl⟩
            go_wp2_with fail
            go_region_held3 (fun w' => w'.cell? ⟨b, o + k, none⟩ = some (.string T))
              (first | exact EE.out | exact EX.out | exact HQ2.out)
              ((go_at_call 53; refine (LD.out _).mono ?_; rintro e wq ⟨rfl, hbq⟩; have HBq := Lib.hid (below_then (below_drew' HWr.out) hbq); have HOq := Lib.hid (own_below (own_below HOw.out (below_drew' (Below.refl _ _))) hbq); have HQ2 : Hid (wq.cell? ⟨b, o + k, none⟩ = some (.string T)) := (hbq.cell (p := ⟨b, o + k, none⟩) hb).trans EX.out))
            all_goals
              go_wp2_with fail
              go_ret2
              rw [HF.out]
              exact ⟨_, rfl, own_base HOq.out hs1, below_then HB1.out HBq.out⟩
        · have hjT2 : ¬ (j : Int) < (T.size : Int) := by omega
          have hq : ((j : Int) == (T.size : Int)) = true := by simp; omega
          have HF := Lib.hid (HNo.out (by rw [HOk.out, decide_eq_false hjT]; rfl))
          clear HOk HYes HNo
          go_wp2_with fail
          go_ret2
          rw [HF.out]
          exact ⟨_, rfl, own_base HOw.out hs1, below_then HB1.out HWr.out⟩
end Go.Proofs.YtiimhpopcgiejaaDoor
