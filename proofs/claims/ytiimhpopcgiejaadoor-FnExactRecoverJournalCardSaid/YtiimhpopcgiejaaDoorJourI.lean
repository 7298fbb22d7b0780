/-
  The program's journal of lines.
-/
import Derived.Test.YtiimhpopcgiejaaDoorJourS
import Derived.Test.YtiimhpopcgiejaaDoorBuildW
import Derived.Lib.IndexAny
namespace Go.Proofs.YtiimhpopcgiejaaDoor
set_option linter.unusedVariables false
set_option linter.unusedSimpArgs false
open Go.RowKit

theorem bld_to {T e : TypeId} {B b : Nat} {bs : List Value} {w w' : World} (h : Lib.IsBuilder T e B b bs w) (hb : Below w.heap.size w w') : Lib.IsBuilder T e B b bs w' := by
  have go : ∀ p, Lib.BuilderAt T e B b p bs w → Lib.BuilderAt T e B b p bs w' := fun p h => by
    have hl := h.lt
    obtain ⟨hB, v, hbk, hown, hne⟩ := h
    exact ⟨hB, v, by rw [hb.block b hl]; exact hbk, own_below hown hb, hne⟩
  exact h.elim (fun x => .inl (go _ x)) (fun x => .inr (go _ x))
set_option maxRecDepth 10000 in
set_option maxHeartbeats 8000000 in
theorem journalOf_any (w : World) (hT : Tab w) (a : Option Addr) (c : Nat) (xs : List (List UInt8)) (h : Rd w w.heap.size a (strs xs)) (hl : xs.length ≤ 1048576) (hin : ∀ y ∈ xs, y.length ≤ 1048576) :
    Calls Tryd.prog 11 #[.slice a xs.length c] w fun e w' => e = .returned (.tuple #[.string (bs ((jourF xs).getD [])), .bool (jourF xs).isSome]) ∧ Below w.heap.size w w' := by
  have HX := Lib.hid h
  have HT := Lib.hid hT
  have HChk : Hid (∀ k, 0 ≤ (jst (xs.take k)).1 ∧ (jst (xs.take k)).1 ≤ 65002) := fun k => jst_chk (xs.take k)
  have HS : Hid (∀ k l, xs[k]? = some l → jst (xs.take (k + 1)) = jstep (jst (xs.take k)) l ∧ l.length ≤ 1048576 ∧ l ∈ xs) := fun k l hk => ⟨jst_take hk, hin l (List.mem_of_getElem? hk), List.mem_of_getElem? hk⟩
  have HNo : Hid (∀ l, l ∈ xs → (10 : UInt8) ∈ l → jourF xs = none) := fun l h1 h2 => jourF_line h1 h2
  have HLong : Hid (∀ k, 16000 < (jst (xs.take k)).2.length → jourF xs = none) := fun k h => jourF_long2 h
  have HYes : Hid ((∀ l ∈ xs, (10 : UInt8) ∉ l) → (jst xs).2.length ≤ 16000 → jourF xs = some (jst xs).2) := fun h1 h2 => jourF_yes h1 h2
  have HB0 := Lib.hid (Lib.fresh_isBuilder 55 5 w)
  have hb0 := bl1 w (.cells #[.pointer none, .slice none 0 0] 55)
  clear h hT hin
  go_enter Tryd.func11, Tryd.ntmps11
  go_wp2_with fail
  go_loopw [11, 5] (fun iv nv wr => ∃ k : Nat, k ≤ xs.length ∧ iv = .int .i64 k ∧ nv = .int .i64 (jst (xs.take k)).1 ∧ (jst (xs.take k)).2.length ≤ 16000 ∧ Hid (∀ l ∈ xs.take k, (10 : UInt8) ∉ l) ∧ Hid (Lib.IsBuilder 55 5 w.heap.size w.heap.size (Lib.byteCells (jst (xs.take k)).2) wr) ∧ Hid (Below w.heap.size w wr)) (fun iv _ _ => xs.length - (intOf iv).toNat)
  case atStart => exact ⟨0, Nat.zero_le _, rfl, rfl, Nat.zero_le _, fun l h => by simp at h, HB0.out, hb0⟩
  case round =>
    clear HB0 hb0
    obtain ⟨k, hk, rfl, rfl, htl, hno, hbd, hw⟩ := hrel
    have k0 : (0 : Int) ≤ (k : Int) := Int.natCast_nonneg _
    by_cases hlt : k < xs.length
    · have k1 : (k : Int) < (xs.length : Int) := by omega
      obtain ⟨b, o, l, ha, hb, hc, hl2⟩ := strs_line (HX.out.to hw.out) hlt
      subst ha
      obtain ⟨n0, n1⟩ := HChk.out k
      obtain ⟨hst, hll, hmem⟩ := HS.out k l hl2.out
      have LCt := Tryd.strings_Contains_one (bs l) 10 wr
      rw [← Lib.contains_iff_indexByte, show (bs l).data.toList = l from rfl] at LCt
      by_cases h10 : (10 : UInt8) ∈ l
      · have HN := Lib.hid (HNo.out l hmem h10)
        rw [List.contains_iff_mem.2 h10] at LCt
        have LCt := Lib.hid LCt
        clear hst hl2 htl hno hbd
        go_wp2_with fail
        refine LCt.out.mono ?_
        rintro e w' ⟨rfl, rfl⟩
        go_wp2_with fail
        go_ret2
        rw [HN.out]
        exact ⟨rfl, hw.out⟩
      · have hcf : l.contains 10 = false := by
          rw [← Bool.not_eq_true, List.contains_iff_mem]; exact h10
        rw [hcf] at LCt
        have LCt := Lib.hid LCt
        have LC := Lib.hid (checkOf_any (jst (xs.take k)).1 n0 n1 (bs l) (by rw [bs_size]; omega) wr)
        obtain ⟨c0, c1⟩ := chkF_bd l _ n0 n1
        have LD := Lib.hid (decimal_any wr (HT.out.to hw.out) (chkF (jst (xs.take k)).1 l) (by omega) (by omega))
        have hd5 := itoa_le5 c0 c1
        have HC : Hid ((jst (xs.take (k + 1))).1 = chkF (jst (xs.take k)).1 l) := by rw [Hid, hst]; rfl
        have HQ : Hid ((jst (xs.take (k + 1))).2 = (jst (xs.take k)).2 ++ (Lib.itoa (chkF (jst (xs.take k)).1 l) ++ 32 :: (l ++ [10]))) := by rw [Hid, hst]; rfl
        have HQ2 : Hid (bs (Lib.itoa (chkF (jst (xs.take k)).1 l)) ++ ⟨#[32]⟩ ++ bs l ++ ⟨#[10]⟩ = bs (Lib.itoa (chkF (jst (xs.take k)).1 l) ++ 32 :: (l ++ [10]))) := by
          have e : Lib.itoa (chkF (jst (xs.take k)).1 l) ++ 32 :: (l ++ [10]) = Lib.itoa (chkF (jst (xs.take k)).1 l) ++ [32] ++ l ++ [10] := by simp
          rw [Hid, e, ← bsJ, ← bsJ, ← bsJ]; rfl
        have HN2 : Hid (∀ x ∈ xs.take (k + 1), (10 : UInt8) ∉ x) := fun x hx => by
          rw [List.take_add_one, hl2.out] at hx
          rcases List.mem_append.1 hx with hx | hx
          · exact hno.out x hx
          · simp at hx; subst hx; exact h10
        have HLg := Lib.hid (HLong.out (k + 1))
        rw [show (bs l).data.toList = l from rfl] at LC
        have zL : (bs l).size ≤ 1048576 := by rw [bs_size]; exact hll
        have zD : (bs (Lib.itoa (chkF (jst (xs.take k)).1 l))).size ≤ 5 := by rw [bs_size]; omega
        have zW : (bs (Lib.itoa (chkF (jst (xs.take k)).1 l) ++ 32 :: (l ++ [10]))).size ≤ 1048600 := by rw [bs_size]; simp; omega
        obtain ⟨W, hWd⟩ : ∃ W, W = Lib.itoa (chkF (jst (xs.take k)).1 l) ++ 32 :: (l ++ [10]) := ⟨_, rfl⟩
        rw [← hWd] at HQ HQ2 zW
        have hlen : (Lib.byteCells (jst (xs.take k)).2).length + (bs W).size ≤ 140737488355328 := by rw [Lib.byteCells_length]; omega
        have hws := hw.out.size
        have LW := Lib.hid (fun (v : World) (hb : Below wr.heap.size wr v) => writeString_any w.heap.size w.heap.size (Lib.byteCells (jst (xs.take k)).2) (bs W) v (bld_to hbd.out hb) hlen (by have := hb.size; omega))
        rw [Lib.strCells_eq, show (bs W).data.toList = W from rfl, ← Lib.byteCells_append, ← HQ.out] at LW
        generalize bs (Lib.itoa (chkF (jst (xs.take k)).1 l)) = D at *
        generalize chkF (jst (xs.take k)).1 l = cn at *
        generalize (jst (xs.take k)).1 = n at *
        generalize bs l = T at *
        have s0 : ¬ 9223372036854775807 < D.size + 1 := by omega
        have s1 : ¬ 9223372036854775807 < D.size + 1 + T.size := by omega
        have s2 : ¬ 9223372036854775807 < D.size + 1 + T.size + 1 := by omega
        clear hst hl2 hd5 htl hll hno hbd hWd HQ hlen hmem hcf
        go_wp2_with fail
        refine LCt.out.mono ?_
        rintro e w' ⟨rfl, rfl⟩
        go_wp2_with fail
        refine LC.out.mono ?_
        rintro e w' ⟨rfl, rfl⟩
        go_wp2_with fail
        refine LD.out.mono ?_
        rintro e w5 ⟨rfl, hb5⟩
        have LW5 := Lib.hid (LW.out w5 hb5)
        have hw5 := Lib.hid (below_then hw.out hb5)
        clear LW hb5 LD LC LCt
        go_wp2_with fail
        rw [HQ2.out]
        refine LW5.out.mono ?_
        rintro e w6 ⟨rfl, hbd6, hb6⟩
        have hw6 : Hid (Below w.heap.size w w6) := hw5.out.trans hb6
        have HBd := Lib.hid (Or.inr hbd6 : Lib.IsBuilder 55 5 w.heap.size w.heap.size (Lib.byteCells (jst (xs.take (k + 1))).2) w6)
        have LL := Lib.hid (Tryd.Builder_Len w.heap.size w.heap.size _ w6 HBd.out)
        rw [Lib.byteCells_length] at LL
        clear hbd6 hb6 LW5
        by_cases hlong : 16000 < (jst (xs.take (k + 1))).2.length
        · have HN := Lib.hid (HLg.out hlong)
          have hli : (16000 : Int) < ((jst (xs.take (k + 1))).2.length : Int) := by omega
          go_wp2_with fail
          refine LL.out.mono ?_
          rintro e w' ⟨rfl, rfl⟩
          go_wp2_with fail
          go_ret2
          rw [HN.out]
          exact ⟨rfl, hw6.out⟩
        · have hli : ¬ (16000 : Int) < ((jst (xs.take (k + 1))).2.length : Int) := by omega
          go_wp2_with fail
          refine LL.out.mono ?_
          rintro e w' ⟨rfl, rfl⟩
          go_wp2_with fail
          go_roundw
          case rel => exact ⟨k + 1, by omega, by go_num, by rw [HC.out], by omega, HN2, HBd, hw6⟩
          case measure => simp [intOf]; omega
    · obtain rfl : k = xs.length := by omega
      have HE : Hid (xs.take xs.length = xs) := List.take_length
      rw [HE.out] at htl hno hbd
      have HF := Lib.hid (HYes.out hno.out htl)
      have LS := Lib.hid (Tryd.Builder_String_any w.heap.size w.heap.size _ wr hbd.out hw.out.size)
      clear hno hbd htl
      go_wp2_with fail
      refine LS.out.mono ?_
      rintro e w5 ⟨rfl, hb5⟩
      go_wp2_with fail
      go_ret2
      rw [HF.out]
      exact ⟨rfl, hw.out.trans hb5⟩
end Go.Proofs.YtiimhpopcgiejaaDoor
