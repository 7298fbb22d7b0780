/-
  Part 10 of what the proof stands on: lemmas and contracts, each with its conditions ahead of the colon.
-/
import Derived.Test.YtiodkmddmgjikaaPk08
import Derived.Test.YtiodkmddmgjikaaPk09
namespace Go.Proofs.Ytiodkmddmgjikaa
set_option linter.unusedVariables false
set_option linter.unusedSimpArgs false
open Go.RowKit

set_option maxRecDepth 100000 in
set_option maxHeartbeats 32000000 in
theorem law_CrowdsRest (w : World) (ac am : Option Addr) (cc cm : Nat) (cs ms : List Int) (hc : Rd w w.heap.size ac (byts cs)) (hm : Rd w w.heap.size am (byts ms)) (lc : cs.length ≤ 9223372036854775807) (lm : ms.length ≤ 9223372036854775807) (bc : ∀ x ∈ cs, 0 ≤ x ∧ x ≤ 255) (bm : ∀ x ∈ ms, 0 ≤ x ∧ x ≤ 255) :
    Calls Try.prog 3 #[.slice ac cs.length cc, .slice am ms.length cm] w fun e w' => e = .returned (.bool true) ∧ Below w.heap.size w w' := by
  have LL := Lib.hid (r8Long_any w ac am cc cm cs ms lc lm)
  cases hlong : longR cs ms with
  | true =>
    rw [hlong] at LL
    clear hlong hc hm bc bm
    go_enter Try.func3, Try.ntmps3
    go_wp2_with fail
    refine LL.out.mono ?_
    rintro e w' ⟨rfl, rfl⟩
    go_wp2_with fail
    go_ret
    exact ⟨rfl, Below.refl _ _⟩
  | false =>
  rw [hlong] at LL
  have hlc : cs.length ≤ 48 ∧ ms.length ≤ 48 := by
    simp only [longR, Bool.or_eq_false_iff, decide_eq_false_iff_not] at hlong
    omega
  obtain ⟨hlc, hlm⟩ := hlc
  have L0 := Lib.hid (r8Crowd_any w ac cc cs hc bc (by omega))
  have LM := Lib.hid (fun (w' : World) (hb : Below w.heap.size w w') (n : Nat) (most : Int) (h1 : n ≤ 1000) (h2 : most ≤ 200) => r8Below_any w' am cm ms n most (hm.to hb) bm (by omega) h1 h2)
  have LA := Lib.hid (fun (w' : World) (hb : Below w.heap.size w w') (k n : Int) (hk : 0 ≤ k) => r8At_any w' am cm ms k n (hm.to hb) (by omega) bm hk)
  clear hlong hc hm bc bm lc lm
  go_enter Try.func3, Try.ntmps3
  go_wp2_with fail
  refine LL.out.mono ?_
  rintro e w' ⟨rfl, rfl⟩
  go_wp2_with fail
  refine L0.out.mono ?_
  rintro e w1 ⟨u, n, aW, cW, lW, aC, cC, lC, rfl, hu, hn, hW, hww, hC, hcc, hrd, hb1⟩
  have hvb := r8_valid hu hn hW hww hC (fun x hx => by have := hcc x hx; omega)
  have HV := Lib.hid hvb
  have HFew := Lib.hid (r8_few (n := n) (lC := lC) hu.2 hW.2)
  have HVT : Hid (validB (turnC (tollN ⟨u, n, lW, lC⟩) ⟨u, n, lW, lC⟩) = true) := r8_valid hu hn hW hww (by simp [turnL_len]) (fun x hx => toll_in hu.2 hcc (by simpa using hx))
  have HCC := Lib.hid hcc
  obtain ⟨gc, hgc⟩ : ∃ g, g = w1.heap.size := ⟨_, rfl⟩
  have HBX2 : Hid (Bx (w1.alloc (.cells #[.int .i64 u, .int .i64 n, .slice aW lW.length cW, .slice aC lC.length cC] 26)) gc u n aW cW lW aC cC lC) := ⟨by rw [hgc]; exact Blk.new w1 _ _, hrd.to (bl1 _ _)⟩
  have HW2 : Hid (Below w.heap.size w (w1.alloc (.cells #[.int .i64 u, .int .i64 n, .slice aW lW.length cW, .slice aC lC.length cC] 26))) := below_then hb1 (bl1 _ _)
  obtain ⟨w2, hw2⟩ : ∃ W, W = w1.alloc (.cells #[.int .i64 u, .int .i64 n, .slice aW lW.length cW, .slice aC lC.length cC] 26) := ⟨_, rfl⟩
  rw [← hw2] at HBX2 HW2
  have Hw2 := Lib.hid hw2
  have Hgc := Lib.hid hgc
  obtain ⟨ub1, ub4⟩ := hu
  obtain ⟨n1, n4⟩ := hn
  obtain ⟨W1, W4⟩ := hW
  have HlC := Lib.hid hC
  have hCn : lC.length ≤ 16 := by rw [hC]; exact Nat.mul_le_mul n4 ub4
  have ub1i : (1 : Int) ≤ (u : Int) := by omega
  have ub4i : (u : Int) ≤ 4 := by omega
  have n1i : (1 : Int) ≤ (n : Int) := by omega
  have n4i : (n : Int) ≤ 4 := by omega
  clear hgc hw2 hrd hb1 L0 LL hvb hC hcc hww
  go_upto_region 4 with fail
  rw [← Hw2.out, ← Hgc.out]
  obtain ⟨q0, q1, q2, q3⟩ := HBX2.out.cells
  have L1 := Lib.hid (LM.out w2 HW2.out u (lW.length : Int) (by omega) (by omega))
  clear LM
  go_wp2_with fail
  refine L1.out.mono ?_
  rintro e w3 ⟨a6, c6, ch, rfl, hch, hchx, oCh, hb⟩
  have HBX3 := Lib.hid (HBX2.out.to hb)
  have HW3 := Lib.hid (below_then HW2.out hb)
  have Rch3 := Lib.hid oCh.rd
  have HCB : Hid (canB ⟨u, n, lW, lC⟩ ch = true) := r8_can HV.out hch hchx W1
  have HCT : Hid (canB ⟨u, n, lW, turnL (tollN ⟨u, n, lW, lC⟩) u n⟩ ch = true) := r8_can HVT.out hch hchx W1
  have Hch := Lib.hid hch
  clear L1 hchx hch oCh
  clear hb HBX2 HW2 q0 q1 q2 q3 
  obtain ⟨q0, q1, q2, q3⟩ := HBX3.out.cells
  have L1 := loadsOf_any w3 u n aW cW lW aC cC lC a6 c6 ch HBX3.out.R (by omega) (by omega) Rch3.out HCB.out
  rw [Hch.out] at L1
  have L1 := Lib.hid L1
  go_wp2_with fail
  refine L1.out.mono ?_
  rintro e w4 ⟨a7, c7, rfl, oL, hb⟩
  have HBX4 := Lib.hid (HBX3.out.to hb)
  have HW4 := Lib.hid (below_then HW3.out hb)
  have Rch4 := Lib.hid (Rch3.out.to hb)
  have Rld4 := Lib.hid oL.rd
  clear L1 oL
  clear hb HBX3 HW3 q0 q1 q2 q3 Rch3
  obtain ⟨q0, q1, q2, q3⟩ := HBX4.out.cells
  have L1 := costsOf_any w4 u n aW cW lW aC cC lC a6 c6 ch HBX4.out.R (by omega) (by omega) Rch4.out HCB.out
  rw [Hch.out] at L1
  have L1 := Lib.hid L1
  go_wp2_with fail
  refine L1.out.mono ?_
  rintro e w5 ⟨a9, c9, rfl, oC9, hb⟩
  have HBX5 := Lib.hid (HBX4.out.to hb)
  have HW5 := Lib.hid (below_then HW4.out hb)
  have Rch5 := Lib.hid (Rch4.out.to hb)
  have Rld5 := Lib.hid (Rld4.out.to hb)
  have Rco5 := Lib.hid oC9.rd
  clear L1 oC9
  clear hb HBX4 HW4 q0 q1 q2 q3 Rch4 Rld4
  obtain ⟨q0, q1, q2, q3⟩ := HBX5.out.cells
  obtain ⟨tot, htot⟩ : ∃ t, t = totalF ⟨u, n, lW, lC⟩ ch := ⟨_, rfl⟩
  have HTot := Lib.hid htot
  clear htot
  have L1 := totalOf_any w5 u n aW cW lW aC cC lC a6 c6 ch HBX5.out.R (by omega) (by omega) Rch5.out HCB.out
  rw [Hch.out] at L1
  rw [← HTot.out] at L1
  have L1 := Lib.hid L1
  go_wp2_with fail
  refine L1.out.mono ?_
  rintro e w6 ⟨rfl, hb⟩
  have HBX6 := Lib.hid (HBX5.out.to hb)
  have HW6 := Lib.hid (below_then HW5.out hb)
  have Rch6 := Lib.hid (Rch5.out.to hb)
  have Rld6 := Lib.hid (Rld5.out.to hb)
  have Rco6 := Lib.hid (Rco5.out.to hb)
  clear L1
  clear hb HBX5 HW5 q0 q1 q2 q3 Rch5 Rld5 Rco5
  obtain ⟨q0, q1, q2, q3⟩ := HBX6.out.cells
  obtain ⟨pot, hpot⟩ : ∃ t, t = potF ⟨u, n, lW, lC⟩ ch := ⟨_, rfl⟩
  have HPot := Lib.hid hpot
  clear hpot
  have HCan := Lib.hid (can_of HCB.out)
  have hpb := pot_bd HCan.out
  rw [← HPot.out] at hpb
  obtain ⟨pb0, pb1⟩ := hpb
  have L1 := crowdPotential_any w6 u n aW cW lW aC cC lC a6 c6 ch HBX6.out.R (by omega) (by omega) Rch6.out HCB.out
  rw [Hch.out] at L1
  rw [← HPot.out] at L1
  have L1 := Lib.hid L1
  go_wp2_with fail
  refine L1.out.mono ?_
  rintro e w7 ⟨rfl, hb⟩
  have HBX7 := Lib.hid (HBX6.out.to hb)
  have HW7 := Lib.hid (below_then HW6.out hb)
  have Rch7 := Lib.hid (Rch6.out.to hb)
  have Rld7 := Lib.hid (Rld6.out.to hb)
  have Rco7 := Lib.hid (Rco6.out.to hb)
  clear L1
  clear hb HBX6 HW6 q0 q1 q2 q3 Rch6 Rld6 Rco6
  obtain ⟨q0, q1, q2, q3⟩ := HBX7.out.cells
  obtain ⟨rest, hrest⟩ : ∃ t, t = (restF ⟨u, n, lW, lC⟩ ch).1 := ⟨_, rfl⟩
  obtain ⟨st, hst⟩ : ∃ t, t = (restF ⟨u, n, lW, lC⟩ ch).2 := ⟨_, rfl⟩
  have HRA := Lib.hid (rest_all HCan.out)
  rw [← hrest, ← hst] at HRA
  have hro : restOF ⟨u, n, lW, lC⟩ ch = some (rest, (st : Int)) := by rw [restOF_yes HCB.out, hrest, hst]
  have HRcan : Hid (canB ⟨u, n, lW, lC⟩ rest = true) := can_back HV.out HRA.out.1
  have Hrl : Hid (rest.length = u) := by have := HRA.out.1.len; rw [Hid]; simp only at this; omega
  have hms := (restF_rest HCan.out).2.2
  rw [← hst] at hms
  have hst2 : (st : Int) ≤ 13000000 := by
    have : measF ⟨u, n, lW, lC⟩ ch ≤ 12800000 := by have := pot_bd HCan.out; unfold measF; omega
    omega
  clear hrest hst hms
  have L1 := restOf_any w7 u n aW cW lW aC cC lC a6 c6 ch HBX7.out.R (by omega) (by omega) Rch7.out (by rw [Hch.out]; omega)
  rw [hro, Hch.out] at L1
  have L1 : Hid (Calls Try.prog 11 #[.agg #[.int .i64 u, .int .i64 n, .slice aW lW.length cW, .slice aC lC.length cC], .slice a6 u c6] w7 fun e w' => ∃ a c, e = .returned (.tuple #[.slice a u c, .int .i64 st, .bool true]) ∧ Rd w' w'.heap.size a (ints rest) ∧ Below w7.heap.size w7 w') := by
    refine L1.mono fun e w' ⟨hb, a, c, he, ho⟩ => ⟨a, c, by rw [he, Hrl.out], ?_, hb⟩
    exact rd_of_own ho (Nat.le_refl _)
  clear hro
  go_wp2_with fail
  refine L1.out.mono ?_
  rintro e w8 ⟨a15, c15, rfl, oR, hb⟩
  have HBX8 := Lib.hid (HBX7.out.to hb)
  have HW8 := Lib.hid (below_then HW7.out hb)
  have Rch8 := Lib.hid (Rch7.out.to hb)
  have Rld8 := Lib.hid (Rld7.out.to hb)
  have Rco8 := Lib.hid (Rco7.out.to hb)
  have Rre8 := Lib.hid oR
  clear L1 oR
  clear hb HBX7 HW7 q0 q1 q2 q3 Rch7 Rld7 Rco7
  obtain ⟨q0, q1, q2, q3⟩ := HBX8.out.cells
  have L1 := isRest_any w8 u n aW cW lW aC cC lC a15 c15 rest HBX8.out.R (by omega) (by omega) Rre8.out (by rw [Hrl.out]; omega)
  rw [isRestF_none HRcan.out HRA.out.2.1, Hrl.out] at L1
  have L1 := Lib.hid L1
  go_wp2_with fail
  refine L1.out.mono ?_
  rintro e w9 ⟨rfl, hb⟩
  have HBX9 := Lib.hid (HBX8.out.to hb)
  have HW9 := Lib.hid (below_then HW8.out hb)
  have Rch9 := Lib.hid (Rch8.out.to hb)
  have Rld9 := Lib.hid (Rld8.out.to hb)
  have Rco9 := Lib.hid (Rco8.out.to hb)
  have Rre9 := Lib.hid (Rre8.out.to hb)
  clear L1
  clear hb HBX8 HW8 q0 q1 q2 q3 Rch8 Rld8 Rco8 Rre8
  obtain ⟨q0, q1, q2, q3⟩ := HBX9.out.cells
  have HSm := Lib.hid HRA.out.2.2.2.2
  have tb := total_bd HCan.out.v ch
  rw [← HTot.out] at tb
  obtain ⟨bC, oC, haC, hbC, hcC⟩ := HBX9.out.R.2.at (k := 0) (by rw [HlC.out]; exact Nat.mul_pos n1 ub1)
  subst haC
  clear hbC hcC
  go_upto_region 11 with fail
  by_cases hs0 : st = 0
  · have hs1 : ((st : Int) == 0) = true := by rw [hs0]; rfl
    have HE : Hid (rest = ch) := HRA.out.2.2.2.1 hs0
    clear hs0
    exact crM1a w w9 gc u n bC oC cW cC aW lW lC tot am cm ms a6 a15 c6 c15 ch rest pot st a9 c9 a7 c7 HBX9 HW9 ⟨ub1, ub4⟩ ⟨n1, n4⟩ W1 W4 hCn HV LA Rch9 Rre9 HFew HVT HCT HCB HRcan (Lib.hid HRA.out.2.1) Hch Hrl HTot Rco9 HPot hst2 HSm tb ⟨pb0, pb1⟩ Rld9 HCC (Lib.hid HRA.out.2.2.1) hs1 HE _ (by assumption)
  · have hs1 : ((st : Int) == 0) = false := by rw [beq_eq_false_iff_ne]; omega
    clear hs0
    exact crM1b w w9 gc u n bC oC cW cC aW lW lC tot am cm ms a6 a15 c6 c15 ch rest pot st a9 c9 a7 c7 HBX9 HW9 ⟨ub1, ub4⟩ ⟨n1, n4⟩ W1 W4 hCn HV LA Rch9 Rre9 HFew HVT HCT HCB HRcan (Lib.hid HRA.out.2.1) Hch Hrl HTot Rco9 HPot hst2 HSm tb ⟨pb0, pb1⟩ Rld9 HCC (Lib.hid HRA.out.2.2.1) hs1 _ (by assumption)
end Go.Proofs.Ytiodkmddmgjikaa
