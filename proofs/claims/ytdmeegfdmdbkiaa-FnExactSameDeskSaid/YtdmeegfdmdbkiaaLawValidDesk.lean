/-
  The law on ValidDesk: what its walk answers.
-/
import Derived.Test.YtdmeegfdmdbkiaaDeskT
import Derived.Test.YtdmeegfdmdbkiaaDeskVI
import Derived.Test.YtdmeegfdmdbkiaaFltO
import Derived.Deep.RegionHeld3
namespace Go.Proofs.Ytdmeegfdmdbkiaa
set_option linter.unusedVariables false
set_option linter.unusedSimpArgs false
open Go.RowKit

theorem szDeskF_spec {left : Int} {xA xB xV xW xC : List Int} {xT : List Nat} (h : 0 ≤ left) : -1 ≤ szDeskF left xA xB xV xW xC xT ∧ szDeskF left xA xB xV xW xC xT ≤ left ∧ (0 ≤ szDeskF left xA xB xV xW xC xT → (xA.length : Int) ≤ left ∧ (xB.length : Int) ≤ left ∧ (xV.length : Int) ≤ left ∧ (xW.length : Int) ≤ left ∧ (xC.length : Int) ≤ left ∧ (xT.length : Int) ≤ left) := by
  have hn : ∀ l m : Int, nxt l m = if l < 0 then -1 else m := fun _ _ => rfl
  obtain ⟨a1, a2, a3⟩ := szGameF_spec (left := left) (x2 := xA) (x3 := xB) h
  unfold szDeskF
  generalize szGameF left xA xB = m1 at *
  rw [hn]
  by_cases g1 : m1 < 0
  · rw [if_pos g1]; omega
  · rw [if_neg g1]
    obtain ⟨b1, b2, b3⟩ := szValuesF_spec (left := m1) (x2 := xV) (by omega)
    generalize szValuesF m1 xV = m2 at *
    rw [hn]
    by_cases g2 : m2 < 0
    · rw [if_pos g2]; omega
    · rw [if_neg g2]
      obtain ⟨c1, c2, c3⟩ := szCrowdF_spec (left := m2) (x2 := xW) (x3 := xC) (by omega)
      generalize szCrowdF m2 xW xC = m3 at *
      rw [hn]
      by_cases g3 : m3 < 0
      · rw [if_pos g3]; omega
      · rw [if_neg g3]
        have d : szF m3 xT.length = if m3 < (xT.length : Int) then -1 else m3 - xT.length := rfl
        rw [hn, d]
        by_cases g4 : m3 < (xT.length : Int)
        · rw [if_pos g4]; simp; omega
        · rw [if_neg g4]; split <;> omega
theorem two12 {w : World} {g k : Nat} {t s : TypeId} {v0 v1 v2 v3 v4 v5 v6 v7 v8 v9 v10 v11 u0 u1 u2 u3 u4 u5 u6 u7 u8 u9 u10 u11 : Value} (h : Blk w g [v0, v1, v2, v3, v4, v5, v6, v7, v8, v9, v10, v11] t) (h2 : Blk w k [u0, u1, u2, u3, u4, u5, u6, u7, u8, u9, u10, u11] s) : w.cell? ⟨g, 0, none⟩ = some v0 ∧ w.cell? ⟨g, 1, none⟩ = some v1 ∧ w.cell? ⟨g, 2, none⟩ = some v2 ∧ w.cell? ⟨g, 3, none⟩ = some v3 ∧ w.cell? ⟨g, 4, none⟩ = some v4 ∧ w.cell? ⟨g, 5, none⟩ = some v5 ∧ w.cell? ⟨g, 6, none⟩ = some v6 ∧ w.cell? ⟨g, 7, none⟩ = some v7 ∧ w.cell? ⟨g, 8, none⟩ = some v8 ∧ w.cell? ⟨g, 9, none⟩ = some v9 ∧ w.cell? ⟨g, 10, none⟩ = some v10 ∧ w.cell? ⟨g, 11, none⟩ = some v11 ∧ w.cell? ⟨k, 0, none⟩ = some u0 ∧ w.cell? ⟨k, 1, none⟩ = some u1 ∧ w.cell? ⟨k, 2, none⟩ = some u2 ∧ w.cell? ⟨k, 3, none⟩ = some u3 ∧ w.cell? ⟨k, 4, none⟩ = some u4 ∧ w.cell? ⟨k, 5, none⟩ = some u5 ∧ w.cell? ⟨k, 6, none⟩ = some u6 ∧ w.cell? ⟨k, 7, none⟩ = some u7 ∧ w.cell? ⟨k, 8, none⟩ = some u8 ∧ w.cell? ⟨k, 9, none⟩ = some u9 ∧ w.cell? ⟨k, 10, none⟩ = some u10 ∧ w.cell? ⟨k, 11, none⟩ = some u11 := ⟨h.cell 0, h.cell 1, h.cell 2, h.cell 3, h.cell 4, h.cell 5, h.cell 6, h.cell 7, h.cell 8, h.cell 9, h.cell 10, h.cell 11, h2.cell 0, h2.cell 1, h2.cell 2, h2.cell 3, h2.cell 4, h2.cell 5, h2.cell 6, h2.cell 7, h2.cell 8, h2.cell 9, h2.cell 10, h2.cell 11⟩
set_option maxRecDepth 10000 in
set_option maxHeartbeats 8000000 in
theorem law_ExactValidDesk (w : World) (R C P T U N : Int) (aA : Option Addr) (cA : Nat) (xA : List Int) (aB : Option Addr) (cB : Nat) (xB : List Int) (aV : Option Addr) (cV : Nat) (xV : List Int) (aW : Option Addr) (cW : Nat) (xW : List Int) (aC : Option Addr) (cC : Nat) (xC : List Int) (aT : Option Addr) (cT : Nat) (xT : List Nat)
    (h : RdDesk w w.heap.size aA xA aB xB aV xV aW xW aC xC aT xT)
    (hl : xA.length ≤ 9223372036854775807 ∧ xB.length ≤ 9223372036854775807 ∧ xV.length ≤ 9223372036854775807 ∧ xW.length ≤ 9223372036854775807 ∧ xC.length ≤ 9223372036854775807 ∧ xT.length ≤ 9223372036854775807) :
    Calls Try.prog 5 #[.agg #[.int .i64 R, .int .i64 C, .slice aA xA.length cA, .slice aB xB.length cB, .int .i64 P, .int .i64 T, .slice aV xV.length cV, .int .i64 U, .int .i64 N, .slice aW xW.length cW, .slice aC xC.length cC, .slice aT xT.length cT]] w fun e w' => e = .returned (.bool true) ∧ Below w.heap.size w w' := by
  obtain ⟨hA, hB, hV, hW, hC, hT⟩ := hl
  have B0 := Lib.hid (bl1 w (.cells #[.int .i64 R, .int .i64 C, .slice aA xA.length cA, .slice aB xB.length cB, .int .i64 P, .int .i64 T, .slice aV xV.length cV, .int .i64 U, .int .i64 N, .slice aW xW.length cW, .slice aC xC.length cC, .slice aT xT.length cT] 40))
  have K0 := Lib.hid (Blk.new w [.int .i64 R, .int .i64 C, .slice aA xA.length cA, .slice aB xB.length cB, .int .i64 P, .int .i64 T, .slice aV xV.length cV, .int .i64 U, .int .i64 N, .slice aW xW.length cW, .slice aC xC.length cC, .slice aT xT.length cT] 40)
  have H0 := Lib.hid (h.to B0.out)
  have Z := Lib.hid (fun v => lawSz_Desk v R C P T U N aA cA xA aB cB xB aV cV xV aW cW xW aC cC xC aT cT xT 1048576 (by omega) (by omega) hA hB hV hW hC hT)
  have hsp := szDeskF_spec (left := 1048576) (xA := xA) (xB := xB) (xV := xV) (xW := xW) (xC := xC) (xT := xT) (by omega)
  generalize szDeskF 1048576 xA xB xV xW xC xT = m at *
  obtain ⟨s1, s2, s3⟩ := hsp
  clear h hA hB hV hW hC hT
  obtain ⟨z0, z1, z2, z3, z4, z5, z6, z7, z8, z9, z10, z11⟩ := cells12 K0.out
  obtain ⟨v0, hv0⟩ : ∃ W, W = w.alloc (.cells #[.int .i64 R, .int .i64 C, .slice aA xA.length cA, .slice aB xB.length cB, .int .i64 P, .int .i64 T, .slice aV xV.length cV, .int .i64 U, .int .i64 N, .slice aW xW.length cW, .slice aC xC.length cC, .slice aT xT.length cT] 40) := ⟨_, rfl⟩
  rw [← hv0] at B0 K0 H0
  have HV0 := Lib.hid hv0
  clear hv0
  by_cases hneg : m < 0
  case pos =>
    clear s3
    go_enter Try.func5, Try.ntmps5
    go_wp2_with fail
    rw [← HV0.out]
    refine (Z.out _).mono ?_
    rintro e w1 ⟨rfl, hb⟩
    have B1 := below_then B0.out hb
    clear hb
    go_wp2_with fail
    go_ret
    exact ⟨rfl, B1⟩
  obtain ⟨lA, lB, lV, lW, lC, lT⟩ := s3 (by omega)
  have kA : xA.length ≤ 1048576 := by omega
  have kB : xB.length ≤ 1048576 := by omega
  have kV : xV.length ≤ 1048576 := by omega
  have kW : xW.length ≤ 1048576 := by omega
  have kC : xC.length ≤ 1048576 := by omega
  have kT : xT.length ≤ 1048576 := by omega
  have LT := Lib.hid (fun v hr => lawTo_Desk v R C P T U N aA cA xA aB cB xB aV cV xV aW cW xW aC cC xC aT cT xT hr kA kB kV kW kC kT)
  have LS := Lib.hid (fun (v : World) (aA : Option Addr) (cA : Nat) (aB : Option Addr) (cB : Nat) (aV : Option Addr) (cV : Nat) (aW : Option Addr) (cW : Nat) (aC : Option Addr) (cC : Nat) (aT : Option Addr) (cT : Nat) (hr : RdDesk v v.heap.size aA xA aB xB aV xV aW xW aC xC aT xT) => validDeskR_any v R C aA cA xA aB cB xB P T aV cV xV U N aW cW xW aC cC xC aT cT xT hr kA kB kV kW kC kT)
  have LI := Lib.hid (fun (v : World) (aA : Option Addr) (cA : Nat) (aB : Option Addr) (cB : Nat) (aV : Option Addr) (cV : Nat) (aW : Option Addr) (cW : Nat) (aC : Option Addr) (cC : Nat) (aT : Option Addr) (cT : Nat) (hr : RdDesk v v.heap.size aA xA aB xB aV xV aW xW aC xC aT xT) => validDesk_any v R C aA cA xA aB cB xB P T aV cV xV U N aW cW xW aC cC xC aT cT xT hr kA kB kV kW kC kT)
  clear s3 lA lB lV lW lC lT
  have HK := Lib.hid (And.intro kA (And.intro kB (And.intro kV (And.intro kW (And.intro kC kT)))))
  clear kA kB kV kW kC kT
  generalize hr : deskB R C xA xB P T xV U N xW xC xT = r at *
  clear hr
  have hne : (r != r) = false := by simp
  go_enter Try.func5, Try.ntmps5
  go_wp2_with fail
  rw [← HV0.out]
  refine (Z.out _).mono ?_
  rintro e w1 ⟨rfl, hb⟩
  have B1 := Lib.hid (below_then B0.out hb)
  have H1 := Lib.hid (H0.out.to hb)
  have K1 := Lib.hid (K0.out.same hb)
  clear hb z0 z1 z2 z3 z4 z5 z6 z7 z8 z9 z10 z11 B0 H0 K0 
  obtain ⟨z0, z1, z2, z3, z4, z5, z6, z7, z8, z9, z10, z11⟩ := cells12 K1.out
  go_wp2_with fail
  refine (LT.out _ H1.out).mono ?_
  rintro e w2 ⟨aA1, cA1, aB1, cB1, aV1, cV1, aW1, cW1, aC1, cC1, aT1, cT1, rfl, o2, hb⟩
  have B2 := Lib.hid (below_then B1.out hb)
  have H2 := Lib.hid (H1.out.to hb)
  have K2 := Lib.hid (K1.out.same hb)
  clear hb z0 z1 z2 z3 z4 z5 z6 z7 z8 z9 z10 z11 B1 H1 K1 
  obtain ⟨z0, z1, z2, z3, z4, z5, z6, z7, z8, z9, z10, z11⟩ := cells12 K2.out
  go_wp2_with fail
  refine (LS.out _ _ _ _ _ _ _ _ _ _ _ _ _ o2.rd).mono ?_
  clear o2
  rintro e w3 ⟨rfl, hb⟩
  have B3 := Lib.hid (below_then B2.out hb)
  have H3 := Lib.hid (H2.out.to hb)
  have K3 := Lib.hid (K2.out.same hb)
  clear hb z0 z1 z2 z3 z4 z5 z6 z7 z8 z9 z10 z11 B2 H2 K2 
  obtain ⟨z0, z1, z2, z3, z4, z5, z6, z7, z8, z9, z10, z11⟩ := cells12 K3.out
  go_wp2_with fail
  refine (LT.out _ H3.out).mono ?_
  rintro e w4 ⟨aA2, cA2, aB2, cB2, aV2, cV2, aW2, cW2, aC2, cC2, aT2, cT2, rfl, o4, hb⟩
  have X4 := Lib.hid o4.rd
  clear o4
  have B4 := Lib.hid (below_then B3.out hb)
  have H4 := Lib.hid (H3.out.to hb)
  have K4 := Lib.hid (K3.out.same hb)
  clear hb z0 z1 z2 z3 z4 z5 z6 z7 z8 z9 z10 z11 B3 H3 K3 
  obtain ⟨z0, z1, z2, z3, z4, z5, z6, z7, z8, z9, z10, z11⟩ := cells12 K4.out
  go_wp2_with fail
  have bx := bl1 w4 (.cells #[.int .i64 R, .int .i64 C, .slice aA2 xA.length cA2, .slice aB2 xB.length cB2, .int .i64 P, .int .i64 T, .slice aV2 xV.length cV2, .int .i64 U, .int .i64 N, .slice aW2 xW.length cW2, .slice aC2 xC.length cC2, .slice aT2 xT.length cT2] 31)
  have bk := Blk.new w4 [.int .i64 R, .int .i64 C, .slice aA2 xA.length cA2, .slice aB2 xB.length cB2, .int .i64 P, .int .i64 T, .slice aV2 xV.length cV2, .int .i64 U, .int .i64 N, .slice aW2 xW.length cW2, .slice aC2 xC.length cC2, .slice aT2 xT.length cT2] 31
  obtain ⟨w5, hw⟩ : ∃ W, W = w4.alloc (.cells #[.int .i64 R, .int .i64 C, .slice aA2 xA.length cA2, .slice aB2 xB.length cB2, .int .i64 P, .int .i64 T, .slice aV2 xV.length cV2, .int .i64 U, .int .i64 N, .slice aW2 xW.length cW2, .slice aC2 xC.length cC2, .slice aT2 xT.length cT2] 31) := ⟨_, rfl⟩
  rw [← hw] at bx bk
  rw [← hw]
  clear hw
  have hb := bx
  clear bx
  have X5 := Lib.hid (X4.out.to hb)
  clear X4
  have J5 := Lib.hid bk
  clear bk
  have B5 := Lib.hid (below_then B4.out hb)
  have H5 := Lib.hid (H4.out.to hb)
  have K5 := Lib.hid (K4.out.same hb)
  clear hb z0 z1 z2 z3 z4 z5 z6 z7 z8 z9 z10 z11 B4 H4 K4 
  obtain ⟨z0, z1, z2, z3, z4, z5, z6, z7, z8, z9, z10, z11⟩ := cells12 K5.out
  obtain ⟨y0, y1, y2, y3, y4, y5, y6, y7, y8, y9, y10, y11⟩ := cells12 J5.out
  refine (LI.out _ _ _ _ _ _ _ _ _ _ _ _ _ X5.out).mono ?_
  rintro e w6 ⟨rfl, hb⟩
  have X6 := Lib.hid (X5.out.to hb)
  have J6 := Lib.hid (J5.out.same hb)
  clear X5 J5 y0 y1 y2 y3 y4 y5 y6 y7 y8 y9 y10 y11
  have B6 := Lib.hid (below_then B5.out hb)
  have H6 := Lib.hid (H5.out.to hb)
  have K6 := Lib.hid (K5.out.same hb)
  clear hb z0 z1 z2 z3 z4 z5 z6 z7 z8 z9 z10 z11 B5 H5 K5 
  obtain ⟨z0, z1, z2, z3, z4, z5, z6, z7, z8, z9, z10, z11⟩ := cells12 K6.out
  obtain ⟨y0, y1, y2, y3, y4, y5, y6, y7, y8, y9, y10, y11⟩ := cells12 J6.out
  go_wp2_with fail
  have hb := below_drew' (Below.refl w6.heap.size w6)
  have X7 := Lib.hid (X6.out.to hb)
  have J7 := Lib.hid (J6.out.same hb)
  clear X6 J6 y0 y1 y2 y3 y4 y5 y6 y7 y8 y9 y10 y11
  have B7 := Lib.hid (below_then B6.out hb)
  have H7 := Lib.hid (H6.out.to hb)
  have K7 := Lib.hid (K6.out.same hb)
  clear hb z0 z1 z2 z3 z4 z5 z6 z7 z8 z9 z10 z11 B6 H6 K6 
  obtain ⟨z0, z1, z2, z3, z4, z5, z6, z7, z8, z9, z10, z11⟩ := cells12 K7.out
  obtain ⟨y0, y1, y2, y3, y4, y5, y6, y7, y8, y9, y10, y11⟩ := cells12 J7.out
  go_region_held3 (fun w' => w'.cell? ⟨w4.heap.size, 0, none⟩ = some (.int .i64 R) ∧ w'.cell? ⟨w4.heap.size, 1, none⟩ = some (.int .i64 C) ∧ w'.cell? ⟨w4.heap.size, 2, none⟩ = some (.slice aA2 xA.length cA2) ∧ w'.cell? ⟨w4.heap.size, 3, none⟩ = some (.slice aB2 xB.length cB2) ∧ w'.cell? ⟨w4.heap.size, 4, none⟩ = some (.int .i64 P) ∧ w'.cell? ⟨w4.heap.size, 5, none⟩ = some (.int .i64 T) ∧ w'.cell? ⟨w4.heap.size, 6, none⟩ = some (.slice aV2 xV.length cV2) ∧ w'.cell? ⟨w4.heap.size, 7, none⟩ = some (.int .i64 U) ∧ w'.cell? ⟨w4.heap.size, 8, none⟩ = some (.int .i64 N) ∧ w'.cell? ⟨w4.heap.size, 9, none⟩ = some (.slice aW2 xW.length cW2) ∧ w'.cell? ⟨w4.heap.size, 10, none⟩ = some (.slice aC2 xC.length cC2) ∧ w'.cell? ⟨w4.heap.size, 11, none⟩ = some (.slice aT2 xT.length cT2) ∧ w'.cell? ⟨w.heap.size, 0, none⟩ = some (.int .i64 R) ∧ w'.cell? ⟨w.heap.size, 1, none⟩ = some (.int .i64 C) ∧ w'.cell? ⟨w.heap.size, 2, none⟩ = some (.slice aA xA.length cA) ∧ w'.cell? ⟨w.heap.size, 3, none⟩ = some (.slice aB xB.length cB) ∧ w'.cell? ⟨w.heap.size, 4, none⟩ = some (.int .i64 P) ∧ w'.cell? ⟨w.heap.size, 5, none⟩ = some (.int .i64 T) ∧ w'.cell? ⟨w.heap.size, 6, none⟩ = some (.slice aV xV.length cV) ∧ w'.cell? ⟨w.heap.size, 7, none⟩ = some (.int .i64 U) ∧ w'.cell? ⟨w.heap.size, 8, none⟩ = some (.int .i64 N) ∧ w'.cell? ⟨w.heap.size, 9, none⟩ = some (.slice aW xW.length cW) ∧ w'.cell? ⟨w.heap.size, 10, none⟩ = some (.slice aC xC.length cC) ∧ w'.cell? ⟨w.heap.size, 11, none⟩ = some (.slice aT xT.length cT))
    (first | go_keep | exact two12 J7.out K7.out | exact two12 (J7.out.same hbq) (K7.out.same hbq) | exact two12 ((J7.out.same hbq).same hbr) ((K7.out.same hbq).same hbr))
    (first | (go_at_call 13; refine (LT.out _ H7.out).mono ?_; rintro e wq ⟨aA3, cA3, aB3, cB3, aV3, cV3, aW3, cW3, aC3, cC3, aT3, cT3, rfl, oq, hbq⟩) | (go_at_call 8; refine (lawEq_Desk _ R C P T U N _ _ _ _ xA _ _ _ _ xB _ _ _ _ xV _ _ _ _ xW _ _ _ _ xC _ _ _ _ xT (X7.out.to hbq) oq.rd HK.out.1 HK.out.2.1 HK.out.2.2.1 HK.out.2.2.2.1 HK.out.2.2.2.2.1 HK.out.2.2.2.2.2).mono ?_; rintro e wr ⟨rfl, hbr⟩))
  have BF := below_then (below_then B7.out hbq) hbr
  clear hbq hbr oq z0 z1 z2 z3 z4 z5 z6 z7 z8 z9 z10 z11 y0 y1 y2 y3 y4 y5 y6 y7 y8 y9 y10 y11
  go_wp2_with fail
  go_ret
  exact ⟨rfl, BF⟩
end Go.Proofs.Ytdmeegfdmdbkiaa
