/-
  Is a desk valid: the program's road.
-/
import Derived.Test.YtdmeegfdmdbkiaaDeskV
namespace Go.Proofs.Ytdmeegfdmdbkiaa
set_option linter.unusedVariables false
set_option linter.unusedSimpArgs false
open Go.RowKit

set_option maxRecDepth 10000 in
set_option maxHeartbeats 8000000 in
theorem validDesk_any (w : World) (R C : Int) (aA : Option Addr) (cA : Nat) (xA : List Int) (aB : Option Addr) (cB : Nat) (xB : List Int) (P T : Int) (aV : Option Addr) (cV : Nat) (xV : List Int) (U N : Int) (aW : Option Addr) (cW : Nat) (xW : List Int) (aC : Option Addr) (cC : Nat) (xC : List Int) (aT : Option Addr) (cT : Nat) (xT : List Nat)
    (h : RdDesk w w.heap.size aA xA aB xB aV xV aW xW aC xC aT xT) (lA : xA.length ≤ 1048576) (lB : xB.length ≤ 1048576) (lV : xV.length ≤ 1048576) (lW : xW.length ≤ 1048576) (lC : xC.length ≤ 1048576) (lT : xT.length ≤ 1048576) :
    Calls Try.prog 16 #[.agg #[.int .i64 R, .int .i64 C, .slice aA xA.length cA, .slice aB xB.length cB, .int .i64 P, .int .i64 T, .slice aV xV.length cV, .int .i64 U, .int .i64 N, .slice aW xW.length cW, .slice aC xC.length cC, .slice aT xT.length cT]] w fun e w' => e = .returned (.bool (deskB R C xA xB P T xV U N xW xC xT)) ∧ Below w.heap.size w w' := by
  have B0 := Lib.hid (bl1 w (.cells #[.int .i64 R, .int .i64 C, .slice aA xA.length cA, .slice aB xB.length cB, .int .i64 P, .int .i64 T, .slice aV xV.length cV, .int .i64 U, .int .i64 N, .slice aW xW.length cW, .slice aC xC.length cC, .slice aT xT.length cT] 31))
  have K0 := Lib.hid (Blk.new w [.int .i64 R, .int .i64 C, .slice aA xA.length cA, .slice aB xB.length cB, .int .i64 P, .int .i64 T, .slice aV xV.length cV, .int .i64 U, .int .i64 N, .slice aW xW.length cW, .slice aC xC.length cC, .slice aT xT.length cT] 31)
  have L1 := Lib.hid (fun v hb => validGame_any v R C aA cA xA aB cB xB ⟨(h.to hb).A, (h.to hb).B⟩ lA lB)
  have L2 := Lib.hid (fun v hb => validValues_any v P T aV cV xV (h.to hb).V lV)
  have L3 := Lib.hid (fun v hb => validCrowd_any v U N aW cW xW aC cC xC ⟨(h.to hb).W, (h.to hb).C⟩ lW lC)
  have L4 := Lib.hid (fun v hb => areFinite_any v aT cT xT (h.to hb).T lT)
  obtain ⟨z0, z1, z2, z3, z4, z5, z6, z7, z8, z9, z10, z11⟩ := cells12 K0.out
  clear h
  cases t1 : gameB R C xA xB with
  | false =>
    have HF : Hid (deskB R C xA xB P T xV U N xW xC xT = false) := by simp [Hid, deskB, t1]
    rw [t1] at L1
    clear t1
    go_enter Try.func16, Try.ntmps16
    go_wp2_with fail
    refine (L1.out _ B0.out).mono ?_
    rintro e w1 ⟨rfl, hb⟩
    have K1 := Lib.hid (K0.out.same hb)
    have B1 := Lib.hid (below_then B0.out hb)
    clear z0 z1 z2 z3 z4 z5 z6 z7 z8 z9 z10 z11 hb
    obtain ⟨z0, z1, z2, z3, z4, z5, z6, z7, z8, z9, z10, z11⟩ := cells12 K1.out
    go_wp2_with fail
    go_ret
    exact ⟨ret_bool HF.out.symm, B1.out⟩
  | true =>
  cases t2 : valuesB P T xV with
  | false =>
    have HF : Hid (deskB R C xA xB P T xV U N xW xC xT = false) := by simp [Hid, deskB, t2]
    rw [t1] at L1
    rw [t2] at L2
    clear t1 t2
    go_enter Try.func16, Try.ntmps16
    go_wp2_with fail
    refine (L1.out _ B0.out).mono ?_
    rintro e w1 ⟨rfl, hb⟩
    have K1 := Lib.hid (K0.out.same hb)
    have B1 := Lib.hid (below_then B0.out hb)
    clear z0 z1 z2 z3 z4 z5 z6 z7 z8 z9 z10 z11 hb
    obtain ⟨z0, z1, z2, z3, z4, z5, z6, z7, z8, z9, z10, z11⟩ := cells12 K1.out
    go_wp2_with fail
    refine (L2.out _ B1.out).mono ?_
    rintro e w2 ⟨rfl, hb⟩
    have K2 := Lib.hid (K1.out.same hb)
    have B2 := Lib.hid (below_then B1.out hb)
    clear z0 z1 z2 z3 z4 z5 z6 z7 z8 z9 z10 z11 hb
    obtain ⟨z0, z1, z2, z3, z4, z5, z6, z7, z8, z9, z10, z11⟩ := cells12 K2.out
    go_wp2_with fail
    go_ret
    exact ⟨ret_bool HF.out.symm, B2.out⟩
  | true =>
  cases t3 : validB ⟨U, N, xW, xC⟩ with
  | false =>
    have HF : Hid (deskB R C xA xB P T xV U N xW xC xT = false) := by simp [Hid, deskB, t3]
    rw [t1] at L1
    rw [t2] at L2
    rw [t3] at L3
    clear t1 t2 t3
    go_enter Try.func16, Try.ntmps16
    go_wp2_with fail
    refine (L1.out _ B0.out).mono ?_
    rintro e w1 ⟨rfl, hb⟩
    have K1 := Lib.hid (K0.out.same hb)
    have B1 := Lib.hid (below_then B0.out hb)
    clear z0 z1 z2 z3 z4 z5 z6 z7 z8 z9 z10 z11 hb
    obtain ⟨z0, z1, z2, z3, z4, z5, z6, z7, z8, z9, z10, z11⟩ := cells12 K1.out
    go_wp2_with fail
    refine (L2.out _ B1.out).mono ?_
    rintro e w2 ⟨rfl, hb⟩
    have K2 := Lib.hid (K1.out.same hb)
    have B2 := Lib.hid (below_then B1.out hb)
    clear z0 z1 z2 z3 z4 z5 z6 z7 z8 z9 z10 z11 hb
    obtain ⟨z0, z1, z2, z3, z4, z5, z6, z7, z8, z9, z10, z11⟩ := cells12 K2.out
    go_wp2_with fail
    refine (L3.out _ B2.out).mono ?_
    rintro e w3 ⟨rfl, hb⟩
    have K3 := Lib.hid (K2.out.same hb)
    have B3 := Lib.hid (below_then B2.out hb)
    clear z0 z1 z2 z3 z4 z5 z6 z7 z8 z9 z10 z11 hb
    obtain ⟨z0, z1, z2, z3, z4, z5, z6, z7, z8, z9, z10, z11⟩ := cells12 K3.out
    go_wp2_with fail
    go_ret
    exact ⟨ret_bool HF.out.symm, B3.out⟩
  | true =>
  have HT : Hid (deskB R C xA xB P T xV U N xW xC xT = turnsB xT) := by simp [Hid, deskB, t1, t2, t3]
  rw [t1] at L1
  rw [t2] at L2
  rw [t3] at L3
  clear t1 t2 t3
  by_cases h1 : 1 ≤ xT.length
  · have h1' : (1 : Int) ≤ (xT.length : Int) := by omega
    by_cases h2 : xT.length ≤ 16
    · have h2' : (xT.length : Int) ≤ 16 := by omega
      have HF : Hid (deskB R C xA xB P T xV U N xW xC xT = finAll xT) := by rw [Hid, HT.out]; simp [turnsB, h1, h2]
      clear h1 h2
      go_enter Try.func16, Try.ntmps16
      go_wp2_with fail
      refine (L1.out _ B0.out).mono ?_
      rintro e w1 ⟨rfl, hb⟩
      have K1 := Lib.hid (K0.out.same hb)
      have B1 := Lib.hid (below_then B0.out hb)
      clear z0 z1 z2 z3 z4 z5 z6 z7 z8 z9 z10 z11 hb
      obtain ⟨z0, z1, z2, z3, z4, z5, z6, z7, z8, z9, z10, z11⟩ := cells12 K1.out
      go_wp2_with fail
      refine (L2.out _ B1.out).mono ?_
      rintro e w2 ⟨rfl, hb⟩
      have K2 := Lib.hid (K1.out.same hb)
      have B2 := Lib.hid (below_then B1.out hb)
      clear z0 z1 z2 z3 z4 z5 z6 z7 z8 z9 z10 z11 hb
      obtain ⟨z0, z1, z2, z3, z4, z5, z6, z7, z8, z9, z10, z11⟩ := cells12 K2.out
      go_wp2_with fail
      refine (L3.out _ B2.out).mono ?_
      rintro e w3 ⟨rfl, hb⟩
      have K3 := Lib.hid (K2.out.same hb)
      have B3 := Lib.hid (below_then B2.out hb)
      clear z0 z1 z2 z3 z4 z5 z6 z7 z8 z9 z10 z11 hb
      obtain ⟨z0, z1, z2, z3, z4, z5, z6, z7, z8, z9, z10, z11⟩ := cells12 K3.out
      go_wp2_with fail
      refine (L4.out _ B3.out).mono ?_
      rintro e w4 ⟨rfl, hb⟩
      have K4 := Lib.hid (K3.out.same hb)
      have B4 := Lib.hid (below_then B3.out hb)
      clear z0 z1 z2 z3 z4 z5 z6 z7 z8 z9 z10 z11 hb
      obtain ⟨z0, z1, z2, z3, z4, z5, z6, z7, z8, z9, z10, z11⟩ := cells12 K4.out
      go_wp2_with fail
      go_ret
      exact ⟨ret_bool HF.out.symm, B4.out⟩
    · have h2' : ¬ (xT.length : Int) ≤ 16 := by omega
      have HF : Hid (deskB R C xA xB P T xV U N xW xC xT = false) := by rw [Hid, HT.out]; simp [turnsB, h1, h2]
      clear h1 h2
      go_enter Try.func16, Try.ntmps16
      go_wp2_with fail
      refine (L1.out _ B0.out).mono ?_
      rintro e w1 ⟨rfl, hb⟩
      have K1 := Lib.hid (K0.out.same hb)
      have B1 := Lib.hid (below_then B0.out hb)
      clear z0 z1 z2 z3 z4 z5 z6 z7 z8 z9 z10 z11 hb
      obtain ⟨z0, z1, z2, z3, z4, z5, z6, z7, z8, z9, z10, z11⟩ := cells12 K1.out
      go_wp2_with fail
      refine (L2.out _ B1.out).mono ?_
      rintro e w2 ⟨rfl, hb⟩
      have K2 := Lib.hid (K1.out.same hb)
      have B2 := Lib.hid (below_then B1.out hb)
      clear z0 z1 z2 z3 z4 z5 z6 z7 z8 z9 z10 z11 hb
      obtain ⟨z0, z1, z2, z3, z4, z5, z6, z7, z8, z9, z10, z11⟩ := cells12 K2.out
      go_wp2_with fail
      refine (L3.out _ B2.out).mono ?_
      rintro e w3 ⟨rfl, hb⟩
      have K3 := Lib.hid (K2.out.same hb)
      have B3 := Lib.hid (below_then B2.out hb)
      clear z0 z1 z2 z3 z4 z5 z6 z7 z8 z9 z10 z11 hb
      obtain ⟨z0, z1, z2, z3, z4, z5, z6, z7, z8, z9, z10, z11⟩ := cells12 K3.out
      go_wp2_with fail
      go_ret
      exact ⟨ret_bool HF.out.symm, B3.out⟩
  · have h1' : ¬ (1 : Int) ≤ (xT.length : Int) := by omega
    have HF : Hid (deskB R C xA xB P T xV U N xW xC xT = false) := by rw [Hid, HT.out]; simp [turnsB, h1]
    clear h1
    go_enter Try.func16, Try.ntmps16
    go_wp2_with fail
    refine (L1.out _ B0.out).mono ?_
    rintro e w1 ⟨rfl, hb⟩
    have K1 := Lib.hid (K0.out.same hb)
    have B1 := Lib.hid (below_then B0.out hb)
    clear z0 z1 z2 z3 z4 z5 z6 z7 z8 z9 z10 z11 hb
    obtain ⟨z0, z1, z2, z3, z4, z5, z6, z7, z8, z9, z10, z11⟩ := cells12 K1.out
    go_wp2_with fail
    refine (L2.out _ B1.out).mono ?_
    rintro e w2 ⟨rfl, hb⟩
    have K2 := Lib.hid (K1.out.same hb)
    have B2 := Lib.hid (below_then B1.out hb)
    clear z0 z1 z2 z3 z4 z5 z6 z7 z8 z9 z10 z11 hb
    obtain ⟨z0, z1, z2, z3, z4, z5, z6, z7, z8, z9, z10, z11⟩ := cells12 K2.out
    go_wp2_with fail
    refine (L3.out _ B2.out).mono ?_
    rintro e w3 ⟨rfl, hb⟩
    have K3 := Lib.hid (K2.out.same hb)
    have B3 := Lib.hid (below_then B2.out hb)
    clear z0 z1 z2 z3 z4 z5 z6 z7 z8 z9 z10 z11 hb
    obtain ⟨z0, z1, z2, z3, z4, z5, z6, z7, z8, z9, z10, z11⟩ := cells12 K3.out
    go_wp2_with fail
    go_ret
    exact ⟨ret_bool HF.out.symm, B3.out⟩
end Go.Proofs.Ytdmeegfdmdbkiaa
