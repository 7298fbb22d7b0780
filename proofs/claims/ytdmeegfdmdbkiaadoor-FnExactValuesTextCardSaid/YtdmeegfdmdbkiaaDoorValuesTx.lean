/-
  The text of a set of values: both roads.
-/
import Derived.Test.YtdmeegfdmdbkiaaDoorTextB
import Derived.Test.YtdmeegfdmdbkiaaDoorGameV
import Derived.Deep.RegionHeld3
namespace Go.Proofs.YtdmeegfdmdbkiaaDoor
set_option linter.unusedVariables false
set_option linter.unusedSimpArgs false
open Go.RowKit

def valuesText (U R : Int) (x2 : List Int) : Option (List UInt8) := if valuesB U R x2 then some (partsL [[U, R], x2]) else none
theorem values_ok {U R : Int} {x2 : List Int} (h : valuesB U R x2 = true) : ∀ x ∈ [[U, R], x2], valOk x = true := by
  simp only [valuesB, Bool.and_eq_true, inB_iff, manyB_iff] at h
  obtain ⟨⟨⟨v1, v2⟩, v3, v4⟩, ⟨v5, v6⟩, v7⟩ := h
  have hp := prod_in v1 v2 v3 v4
  intro x hx
  simp only [List.mem_cons, List.not_mem_nil, or_false] at hx
  rcases hx with rfl | rfl
  · refine valOk_of (fun y hy => ?_) (by simp)
    simp only [List.mem_cons, List.not_mem_nil, or_false] at hy
    omega
  · exact valOk_of (fun y hy => by have := v7 y hy; omega) (by omega)
set_option maxRecDepth 10000 in
set_option maxHeartbeats 4000000 in
theorem valuesText_any (w : World) (ht : Tab w) (U R : Int) (a2 : Option Addr) (c2 : Nat) (x2 : List Int) (h : RdValues w w.heap.size a2 x2) (hl2 : x2.length ≤ 1048576) :
    Calls Tryd.prog 17 #[.agg #[.int .i64 U, .int .i64 R, .slice a2 x2.length c2]] w fun e w' => e = .returned (.tuple #[.string (bs ((valuesText U R x2).getD [])), .bool (valuesText U R x2).isSome]) ∧ Below w.heap.size w w' := by
  have LV := Lib.hid (fun v hb => validValues_any v U R a2 c2 x2 (h.to hb) hl2)
  have B0 := bl1 w (.cells #[.int .i64 U, .int .i64 R, .slice a2 x2.length c2] 31)
  have K0 := Blk.new w [.int .i64 U, .int .i64 R, .slice a2 x2.length c2] 31
  cases t1 : valuesB U R x2 with
  | false =>
    have HF : Hid (valuesText U R x2 = none) := by simp [Hid, valuesText, t1]
    rw [t1] at LV
    clear h t1
    go_enter Tryd.func17, Tryd.ntmps17
    go_wp2_with fail
    refine (LV.out _ B0).mono ?_
    rintro e w1 ⟨rfl, hb1⟩
    go_wp2_with fail
    go_ret2
    rw [HF.out]
    exact ⟨rfl, below_then B0 hb1⟩
  | true =>
    have HF : Hid (valuesText U R x2 = some (partsL [[U, R], x2])) := by simp [Hid, valuesText, t1]
    have HOK := Lib.hid (values_ok t1)
    rw [t1] at LV
    have HT := Lib.hid ht
    have HA := Lib.hid h
    clear h t1 ht
    go_enter Tryd.func17, Tryd.ntmps17
    go_wp2_with fail
    refine (LV.out _ B0).mono ?_
    rintro e w1 ⟨rfl, hb1⟩
    have B1 := below_then B0 hb1
    have K1 := K0.same hb1
    have k0 := K1.cell 0
    have k1 := K1.cell 1
    have k2 := K1.cell 2
    simp only [List.getElem?_cons_zero, List.getElem?_cons_succ] at k0 k1 k2
    have HA1 := HA.out.to B1
    have HT1 := Lib.hid (HT.out.to B1)
    have q2 := (bl1 w1 (.cells #[.int .i64 U, .int .i64 R] 2)).cell (p := ⟨w.heap.size, 2, none⟩) K1.lt
    rw [k2] at q2
    have HB := Lib.hid B1
    have hHA := Lib.hid HA1
    clear B1 K1 B0 K0 hb1 HA1 HT HA
    go_wp2_with fail
    have b2 := bl2 w1 (.cells #[.int .i64 U, .int .i64 R] 2) (.cells #[.slice (some ⟨w1.heap.size, 0, none⟩) 2 2, .slice a2 x2.length c2] 25)
    obtain ⟨e1, e2⟩ := alloc2 w1 [.int .i64 U, .int .i64 R] [.slice (some ⟨w1.heap.size, 0, none⟩) 2 2, .slice a2 x2.length c2] 2 25
    have hA2 := hHA.out.to b2
    refine (partsText_any _ (HT1.out.to b2) _ _ [[U, R], x2] (rdP2 e2 e1 hA2) (by simp) HOK.out).mono ?_
    rintro e w2 ⟨rfl, hb2⟩
    have hB := below_then HB.out (below_then b2 hb2)
    clear b2 e1 e2 hA2 hb2
    go_wp2_with fail
    go_ret2
    rw [HF.out]
    exact ⟨rfl, hB⟩
set_option maxRecDepth 10000 in
set_option maxHeartbeats 8000000 in
theorem l08Values_any (w : World) (b o : Nat) (U R : Int) (a2 : Option Addr) (c2 : Nat) (x2 : List Int)
    (d0 : w.cell? ⟨b, o, none⟩ = some (.int .i64 U)) (d1 : w.cell? ⟨b, o + 1, none⟩ = some (.int .i64 R)) (d2 : w.cell? ⟨b, o + 2, none⟩ = some (.slice a2 x2.length c2))
    (h : RdValues w w.heap.size a2 x2) (ok : ∀ x ∈ [[U, R], x2], valOk x = true) :
    Calls Tryd.prog 54 #[.pointer (some ⟨b, o, none⟩)] w fun e w' => e = .returned (.string (bs (partsL [[U, R], x2]))) ∧ Below w.heap.size w w' := by
  have hbk := World.block_lt_of_cell? w _ d0
  have HS : Hid (∀ w', Below w.heap.size w w' → (w'.cell? ⟨b, o, none⟩ = some (.int .i64 U) ∧ w'.cell? ⟨b, o + 1, none⟩ = some (.int .i64 R) ∧ w'.cell? ⟨b, o + 2, none⟩ = some (.slice a2 x2.length c2))) := fun w' hb =>
    ⟨(hb.cell (p := ⟨b, o, none⟩) hbk).trans d0, (hb.cell (p := ⟨b, o + 1, none⟩) hbk).trans d1, (hb.cell (p := ⟨b, o + 2, none⟩) hbk).trans d2⟩
  have o0 := ok [U, R] (by simp)
  have o1 := ok x2 (by simp)
  have LU : Hid (Calls Tryd.prog 85 #[.slice (some ⟨w.heap.size, 0, none⟩) 2 2] (w.alloc (.cells #[.int .i64 U, .int .i64 R] 2)).drew _) := l01Text_any (w.alloc (.cells #[.int .i64 U, .int .i64 R] 2)).drew (some ⟨w.heap.size, 0, none⟩) 2 [U, R] (blk_rd (show Blk (w.alloc (.cells #[.int .i64 U, .int .i64 R] 2)).drew _ _ _ from Blk.new w [.int .i64 U, .int .i64 R] 2)) (by simp) (valOk_rng o0).1
  have HD : Hid (Below w.heap.size w w.drew) := below_drew' (Below.refl _ _)
  have HE : Hid (Below w.heap.size w (w.alloc (.cells #[.int .i64 U, .int .i64 R] 2)).drew) := below_drew' (bl1 _ _)
  have LW := Lib.hid (fun (w' : World) (hb : Below w.heap.size w w') => l01Text_any w' a2 c2 x2 (Rd.to h hb) (by have := (valOk_rng o1).2; omega) (valOk_rng o1).1)
  have z0 := valOk_size o0
  have z1 := valOk_size o1
  have HP := Lib.hid (parts2 [U, R] x2)
  have HQ : Hid (bs (textL [U, R]) ++ ⟨#[59]⟩ ++ bs (textL x2) = bs (partsL [[U, R], x2])) := by
    show _ = _
    rw [HP.out, ← bs_plus, ← bs_plus]; rfl
  generalize bs (textL [U, R]) = T0 at *
  generalize bs (textL x2) = T1 at *
  have n0 : ¬ 9223372036854775807 < T0.size + 1 := by omega
  have n1 : ¬ 9223372036854775807 < T0.size + 1 + T1.size := by omega
  clear HP o0 o1 h ok
  go_enter Tryd.func54, Tryd.ntmps54
  obtain ⟨d0, d1, d2⟩ := HS.out _ (Below.refl _ _)
  go_wp2_with fail
  go_region_held3 (fun w' => w'.cell? ⟨b, o, none⟩ = some (.int .i64 U) ∧ w'.cell? ⟨b, o + 1, none⟩ = some (.int .i64 R) ∧ w'.cell? ⟨b, o + 2, none⟩ = some (.slice a2 x2.length c2))
    (first | with_reducible exact HS.out _ hB2 | with_reducible exact HS.out _ hB1 | with_reducible exact HS.out _ HD.out | with_reducible exact HS.out _ HE.out)
    (first | (go_at_call 85; with_reducible refine (LU.out).mono ?_; rintro e w4 ⟨rfl, hz1⟩; have hB1 := below_then HE.out hz1) | (go_at_call 85; with_reducible refine (LW.out _ hB1).mono ?_; rintro e w5 ⟨rfl, hz2⟩; have hB2 := below_then hB1 hz2))
  all_goals
    clear hz1 hz2 hB1
    go_wp2_with fail
    go_ret
    exact ⟨by rw [← HQ.out]; rfl, hB2⟩
set_option maxRecDepth 10000 in
set_option maxHeartbeats 4000000 in
theorem valuesTextR_any (w : World) (U R : Int) (a2 : Option Addr) (c2 : Nat) (x2 : List Int) (h : RdValues w w.heap.size a2 x2) (hl2 : x2.length ≤ 1048576) :
    Calls Tryd.prog 15 #[.agg #[.int .i64 U, .int .i64 R, .slice a2 x2.length c2]] w fun e w' => e = .returned (.tuple #[.string (bs ((valuesText U R x2).getD [])), .bool (valuesText U R x2).isSome]) ∧ Below w.heap.size w w' := by
  have B0 := bl1 w (.cells #[.int .i64 U, .int .i64 R, .slice a2 x2.length c2] 31)
  have K0 := Blk.new w [.int .i64 U, .int .i64 R, .slice a2 x2.length c2] 31
  have LV := Lib.hid (l04Is_any _ w.heap.size 0 U R a2 c2 x2 (K0.cell 0) (K0.cell 1) (K0.cell 2) (h.to B0) hl2)
  cases t1 : valuesB U R x2 with
  | false =>
    have HF : Hid (valuesText U R x2 = none) := by simp [Hid, valuesText, t1]
    rw [t1] at LV
    clear h t1 K0
    go_enter Tryd.func15, Tryd.ntmps15
    go_wp2_with fail
    refine LV.out.mono ?_
    rintro e w1 ⟨rfl, n, rfl⟩
    go_wp2_with fail
    go_ret2
    rw [HF.out]
    exact ⟨rfl, below_drewN B0 n⟩
  | true =>
    have HF : Hid (valuesText U R x2 = some (partsL [[U, R], x2])) := by simp [Hid, valuesText, t1]
    have HOK := Lib.hid (values_ok t1)
    rw [t1] at LV
    have LT := Lib.hid (fun n => l08Values_any ((w.alloc (.cells #[.int .i64 U, .int .i64 R, .slice a2 x2.length c2] 31)).drewN n) w.heap.size 0 U R a2 c2 x2 (K0.cell 0) (K0.cell 1) (K0.cell 2) (h.to (below_drewN B0 n)) HOK.out)
    clear h t1 K0
    go_enter Tryd.func15, Tryd.ntmps15
    go_wp2_with fail
    refine LV.out.mono ?_
    rintro e w1 ⟨rfl, n, rfl⟩
    have B1 := Lib.hid (below_drewN B0 n)
    have LT2 := Lib.hid (LT.out n)
    generalize (w.alloc (.cells #[.int .i64 U, .int .i64 R, .slice a2 x2.length c2] 31)).drewN n = w1 at *
    clear LT LV
    go_wp2_with fail
    refine LT2.out.mono ?_
    rintro e w2 ⟨rfl, hb2⟩
    have hB := below_then B1.out hb2
    clear hb2 LT2
    go_wp2_with fail
    go_ret2
    rw [HF.out]
    exact ⟨rfl, hB⟩
end Go.Proofs.YtdmeegfdmdbkiaaDoor
