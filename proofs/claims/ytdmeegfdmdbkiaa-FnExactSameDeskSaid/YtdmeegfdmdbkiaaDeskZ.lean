/-
  The law's count of a desk.
-/
import Derived.Test.YtdmeegfdmdbkiaaDeskE
import Derived.Test.YtdmeegfdmdbkiaaFltZ
namespace Go.Proofs.Ytdmeegfdmdbkiaa
set_option linter.unusedVariables false
set_option linter.unusedSimpArgs false
open Go.RowKit

def nxt (l m : Int) : Int := if l < 0 then -1 else m
def szDeskF (left : Int) (xA xB xV xW xC : List Int) (xT : List Nat) : Int :=
  nxt (szGameF left xA xB) (nxt (szValuesF (szGameF left xA xB) xV) (nxt (szCrowdF (szValuesF (szGameF left xA xB) xV) xW xC) (nxt (szF (szCrowdF (szValuesF (szGameF left xA xB) xV) xW xC) xT.length) (szF (szCrowdF (szValuesF (szGameF left xA xB) xV) xW xC) xT.length))))
set_option maxRecDepth 10000 in
set_option maxHeartbeats 8000000 in
theorem lawSz_Desk (w : World) (R C P T U N : Int) (aA : Option Addr) (cA : Nat) (xA : List Int) (aB : Option Addr) (cB : Nat) (xB : List Int) (aV : Option Addr) (cV : Nat) (xV : List Int) (aW : Option Addr) (cW : Nat) (xW : List Int) (aC : Option Addr) (cC : Nat) (xC : List Int) (aT : Option Addr) (cT : Nat) (xT : List Nat) (left : Int) (h0 : 0 ≤ left) (h1 : left ≤ 1048576) (lA : xA.length ≤ 9223372036854775807) (lB : xB.length ≤ 9223372036854775807) (lV : xV.length ≤ 9223372036854775807) (lW : xW.length ≤ 9223372036854775807) (lC : xC.length ≤ 9223372036854775807) (lT : xT.length ≤ 9223372036854775807) :
    Calls Try.prog 11 #[.agg #[.int .i64 R, .int .i64 C, .slice aA xA.length cA, .slice aB xB.length cB, .int .i64 P, .int .i64 T, .slice aV xV.length cV, .int .i64 U, .int .i64 N, .slice aW xW.length cW, .slice aC xC.length cC, .slice aT xT.length cT], .int .i64 left] w fun e w' => e = .returned (.int .i64 (szDeskF left xA xB xV xW xC xT)) ∧ Below w.heap.size w w' := by
  have B0 := Lib.hid (bl1 w (.cells #[.int .i64 R, .int .i64 C, .slice aA xA.length cA, .slice aB xB.length cB, .int .i64 P, .int .i64 T, .slice aV xV.length cV, .int .i64 U, .int .i64 N, .slice aW xW.length cW, .slice aC xC.length cC, .slice aT xT.length cT] 40))
  have K0 := Lib.hid (Blk.new w [.int .i64 R, .int .i64 C, .slice aA xA.length cA, .slice aB xB.length cB, .int .i64 P, .int .i64 T, .slice aV xV.length cV, .int .i64 U, .int .i64 N, .slice aW xW.length cW, .slice aC xC.length cC, .slice aT xT.length cT] 40)
  have HF : Hid (szDeskF left xA xB xV xW xC xT = nxt (szGameF left xA xB) (nxt (szValuesF (szGameF left xA xB) xV) (nxt (szCrowdF (szValuesF (szGameF left xA xB) xV) xW xC) (nxt (szF (szCrowdF (szValuesF (szGameF left xA xB) xV) xW xC) xT.length) (szF (szCrowdF (szValuesF (szGameF left xA xB) xV) xW xC) xT.length))))) := rfl
  obtain ⟨z0, z1, z2, z3, z4, z5, z6, z7, z8, z9, z10, z11⟩ := cells12 K0.out
  have L1 := Lib.hid (fun v => lawSz_Game v R C aA cA xA aB cB xB left h0 h1 lA lB)
  have s1 := szGameF_spec (left := left) (x2 := xA) (x3 := xB) h0
  obtain ⟨s1a, s1b, _⟩ := s1
  by_cases g1 : szGameF left xA xB < 0
  · have HN : Hid (szDeskF left xA xB xV xW xC xT = -1) := by rw [Hid, HF.out, nxt, if_pos g1]
    generalize szGameF left xA xB = m1 at *
    go_enter Try.func11, Try.ntmps11
    go_wp2_with fail
    refine (L1.out _).mono ?_
    rintro e w1 ⟨rfl, hb⟩
    have B1 := below_then B0.out hb
    clear hb
    go_wp2_with fail
    go_ret
    exact ⟨ret_int HN.out.symm, B1⟩
  · generalize hm1 : szGameF left xA xB = m1 at *
    have q1 : 0 ≤ m1 := by omega
    have q1' : m1 ≤ 1048576 := by omega
    have L2 := Lib.hid (fun v => lawSz_Values v P T aV cV xV m1 q1 q1' lV)
    have s2 := szValuesF_spec (left := m1) (x2 := xV) q1
    obtain ⟨s2a, s2b, _⟩ := s2
    clear hm1
    by_cases g2 : szValuesF m1 xV < 0
    · have HN : Hid (szDeskF left xA xB xV xW xC xT = -1) := by rw [Hid, HF.out, nxt, if_neg g1, nxt, if_pos g2]
      generalize szValuesF m1 xV = m2 at *
      go_enter Try.func11, Try.ntmps11
      go_wp2_with fail
      refine (L1.out _).mono ?_
      rintro e w1 ⟨rfl, hb⟩
      have B1 := Lib.hid (below_then B0.out hb)
      have K1 := Lib.hid (K0.out.same hb)
      clear z0 z1 z2 z3 z4 z5 z6 z7 z8 z9 z10 z11 hb
      obtain ⟨z0, z1, z2, z3, z4, z5, z6, z7, z8, z9, z10, z11⟩ := cells12 K1.out
      go_wp2_with fail
      refine (L2.out _).mono ?_
      rintro e w2 ⟨rfl, hb⟩
      have B2 := Lib.hid (below_then B1.out hb)
      go_wp2_with fail
      go_ret
      exact ⟨ret_int HN.out.symm, B2.out⟩
    · generalize hm2 : szValuesF m1 xV = m2 at *
      have q2 : 0 ≤ m2 := by omega
      have q2' : m2 ≤ 1048576 := by omega
      have L3 := Lib.hid (fun v => lawSz_Crowd v U N aW cW xW aC cC xC m2 q2 q2' lW lC)
      have s3 := szCrowdF_spec (left := m2) (x2 := xW) (x3 := xC) q2
      obtain ⟨s3a, s3b, _⟩ := s3
      clear hm2
      by_cases g3 : szCrowdF m2 xW xC < 0
      · have HN : Hid (szDeskF left xA xB xV xW xC xT = -1) := by rw [Hid, HF.out, nxt, if_neg g1, nxt, if_neg g2, nxt, if_pos g3]
        generalize szCrowdF m2 xW xC = m3 at *
        go_enter Try.func11, Try.ntmps11
        go_wp2_with fail
        refine (L1.out _).mono ?_
        rintro e w1 ⟨rfl, hb⟩
        have B1 := Lib.hid (below_then B0.out hb)
        have K1 := Lib.hid (K0.out.same hb)
        clear z0 z1 z2 z3 z4 z5 z6 z7 z8 z9 z10 z11 hb
        obtain ⟨z0, z1, z2, z3, z4, z5, z6, z7, z8, z9, z10, z11⟩ := cells12 K1.out
        go_wp2_with fail
        refine (L2.out _).mono ?_
        rintro e w2 ⟨rfl, hb⟩
        have B2 := Lib.hid (below_then B1.out hb)
        have K2 := Lib.hid (K1.out.same hb)
        clear z0 z1 z2 z3 z4 z5 z6 z7 z8 z9 z10 z11 hb
        obtain ⟨z0, z1, z2, z3, z4, z5, z6, z7, z8, z9, z10, z11⟩ := cells12 K2.out
        go_wp2_with fail
        refine (L3.out _).mono ?_
        rintro e w3 ⟨rfl, hb⟩
        have B3 := Lib.hid (below_then B2.out hb)
        go_wp2_with fail
        go_ret
        exact ⟨ret_int HN.out.symm, B3.out⟩
      · generalize hm3 : szCrowdF m2 xW xC = m3 at *
        have q3 : 0 ≤ m3 := by omega
        have q3' : m3 ≤ 1048576 := by omega
        have L4 := Lib.hid (fun v => lawSz_F v aT xT.length cT m3 q3 q3' lT)
        clear hm3
        by_cases g4 : szF m3 xT.length < 0
        · have HN : Hid (szDeskF left xA xB xV xW xC xT = -1) := by rw [Hid, HF.out, nxt, if_neg g1, nxt, if_neg g2, nxt, if_neg g3, nxt, if_pos g4]
          generalize szF m3 xT.length = m4 at *
          go_enter Try.func11, Try.ntmps11
          go_wp2_with fail
          refine (L1.out _).mono ?_
          rintro e w1 ⟨rfl, hb⟩
          have B1 := Lib.hid (below_then B0.out hb)
          have K1 := Lib.hid (K0.out.same hb)
          clear z0 z1 z2 z3 z4 z5 z6 z7 z8 z9 z10 z11 hb
          obtain ⟨z0, z1, z2, z3, z4, z5, z6, z7, z8, z9, z10, z11⟩ := cells12 K1.out
          go_wp2_with fail
          refine (L2.out _).mono ?_
          rintro e w2 ⟨rfl, hb⟩
          have B2 := Lib.hid (below_then B1.out hb)
          have K2 := Lib.hid (K1.out.same hb)
          clear z0 z1 z2 z3 z4 z5 z6 z7 z8 z9 z10 z11 hb
          obtain ⟨z0, z1, z2, z3, z4, z5, z6, z7, z8, z9, z10, z11⟩ := cells12 K2.out
          go_wp2_with fail
          refine (L3.out _).mono ?_
          rintro e w3 ⟨rfl, hb⟩
          have B3 := Lib.hid (below_then B2.out hb)
          have K3 := Lib.hid (K2.out.same hb)
          clear z0 z1 z2 z3 z4 z5 z6 z7 z8 z9 z10 z11 hb
          obtain ⟨z0, z1, z2, z3, z4, z5, z6, z7, z8, z9, z10, z11⟩ := cells12 K3.out
          go_wp2_with fail
          refine (L4.out _).mono ?_
          rintro e w4 ⟨rfl, rfl⟩
          have B4 := Lib.hid B3.out
          go_wp2_with fail
          go_ret
          exact ⟨ret_int HN.out.symm, B4.out⟩
        · have HN : Hid (szDeskF left xA xB xV xW xC xT = szF m3 xT.length) := by rw [Hid, HF.out, nxt, if_neg g1, nxt, if_neg g2, nxt, if_neg g3, nxt, if_neg g4]
          generalize szF m3 xT.length = m4 at *
          go_enter Try.func11, Try.ntmps11
          go_wp2_with fail
          refine (L1.out _).mono ?_
          rintro e w1 ⟨rfl, hb⟩
          have B1 := Lib.hid (below_then B0.out hb)
          have K1 := Lib.hid (K0.out.same hb)
          clear z0 z1 z2 z3 z4 z5 z6 z7 z8 z9 z10 z11 hb
          obtain ⟨z0, z1, z2, z3, z4, z5, z6, z7, z8, z9, z10, z11⟩ := cells12 K1.out
          go_wp2_with fail
          refine (L2.out _).mono ?_
          rintro e w2 ⟨rfl, hb⟩
          have B2 := Lib.hid (below_then B1.out hb)
          have K2 := Lib.hid (K1.out.same hb)
          clear z0 z1 z2 z3 z4 z5 z6 z7 z8 z9 z10 z11 hb
          obtain ⟨z0, z1, z2, z3, z4, z5, z6, z7, z8, z9, z10, z11⟩ := cells12 K2.out
          go_wp2_with fail
          refine (L3.out _).mono ?_
          rintro e w3 ⟨rfl, hb⟩
          have B3 := Lib.hid (below_then B2.out hb)
          have K3 := Lib.hid (K2.out.same hb)
          clear z0 z1 z2 z3 z4 z5 z6 z7 z8 z9 z10 z11 hb
          obtain ⟨z0, z1, z2, z3, z4, z5, z6, z7, z8, z9, z10, z11⟩ := cells12 K3.out
          go_wp2_with fail
          refine (L4.out _).mono ?_
          rintro e w4 ⟨rfl, rfl⟩
          have B4 := Lib.hid B3.out
          go_wp2_with fail
          go_ret
          exact ⟨ret_int HN.out.symm, B4.out⟩
end Go.Proofs.Ytdmeegfdmdbkiaa
