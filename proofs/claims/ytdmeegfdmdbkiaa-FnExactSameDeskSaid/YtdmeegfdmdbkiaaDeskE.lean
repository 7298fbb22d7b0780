/-
  The law's comparison of a desk and its copy.
-/
import Derived.Test.YtdmeegfdmdbkiaaDeskV
import Derived.Test.YtdmeegfdmdbkiaaDeskL2
namespace Go.Proofs.Ytdmeegfdmdbkiaa
set_option linter.unusedVariables false
set_option linter.unusedSimpArgs false
open Go.RowKit

theorem eqF_nil (w : World) (a b : Option Addr) (c d : Nat) : Calls Try.prog 20 #[.slice a 0 c, .slice b 0 d] w fun e w' => e = .returned (.bool true) ∧ w = w' := by
  go_enter Try.func20, Try.ntmps20
  go_wp2_with fail
  refine wp_loop_rounds 1 ?_
  rw [rounds_succ]
  go_wp2_with fail
  go_ret
  exact ⟨rfl, rfl⟩
theorem lawEq_FR (w : World) (a b : Option Addr) (c d : Nat) (xs : List Nat) (h : Rd w w.heap.size a (flts xs)) (g : Rd w w.heap.size b (flts xs)) (hl : xs.length ≤ 1048576) :
    Calls Try.prog 20 #[.slice a xs.length c, .slice b xs.length d] w fun e w' => e = .returned (.bool true) ∧ Below w.heap.size w w' := by
  rcases Nat.eq_zero_or_pos xs.length with e | e
  · rw [e]
    exact (eqF_nil w a b c d).mono fun e w' ⟨h1, h2⟩ => ⟨h1, h2 ▸ Below.refl _ _⟩
  · obtain ⟨b1, o1, rfl, _, h1⟩ := h.atF e
    obtain ⟨b2, o2, rfl, _, h2⟩ := g.atF e
    exact lawEq_F w b1 o1 b2 o2 c d xs.length xs rfl hl h1 h2
set_option maxRecDepth 10000 in
set_option maxHeartbeats 8000000 in
theorem lawEq_Desk (w : World) (R C P T U N : Int) (aA bA : Option Addr) (cA dA : Nat) (xA : List Int) (aB bB : Option Addr) (cB dB : Nat) (xB : List Int) (aV bV : Option Addr) (cV dV : Nat) (xV : List Int) (aW bW : Option Addr) (cW dW : Nat) (xW : List Int) (aC bC : Option Addr) (cC dC : Nat) (xC : List Int) (aT bT : Option Addr) (cT dT : Nat) (xT : List Nat)
    (h : RdDesk w w.heap.size aA xA aB xB aV xV aW xW aC xC aT xT) (g : RdDesk w w.heap.size bA xA bB xB bV xV bW xW bC xC bT xT) (lA : xA.length ≤ 1048576) (lB : xB.length ≤ 1048576) (lV : xV.length ≤ 1048576) (lW : xW.length ≤ 1048576) (lC : xC.length ≤ 1048576) (lT : xT.length ≤ 1048576) :
    Calls Try.prog 8 #[.agg #[.int .i64 R, .int .i64 C, .slice aA xA.length cA, .slice aB xB.length cB, .int .i64 P, .int .i64 T, .slice aV xV.length cV, .int .i64 U, .int .i64 N, .slice aW xW.length cW, .slice aC xC.length cC, .slice aT xT.length cT], .agg #[.int .i64 R, .int .i64 C, .slice bA xA.length dA, .slice bB xB.length dB, .int .i64 P, .int .i64 T, .slice bV xV.length dV, .int .i64 U, .int .i64 N, .slice bW xW.length dW, .slice bC xC.length dC, .slice bT xT.length dT]] w fun e w' => e = .returned (.bool true) ∧ Below w.heap.size w w' := by
  have hb := bl2 w (.cells #[.int .i64 R, .int .i64 C, .slice aA xA.length cA, .slice aB xB.length cB, .int .i64 P, .int .i64 T, .slice aV xV.length cV, .int .i64 U, .int .i64 N, .slice aW xW.length cW, .slice aC xC.length cC, .slice aT xT.length cT] 31) (.cells #[.int .i64 R, .int .i64 C, .slice bA xA.length dA, .slice bB xB.length dB, .int .i64 P, .int .i64 T, .slice bV xV.length dV, .int .i64 U, .int .i64 N, .slice bW xW.length dW, .slice bC xC.length dC, .slice bT xT.length dT] 31)
  obtain ⟨K, J⟩ := desk2 w [.int .i64 R, .int .i64 C, .slice aA xA.length cA, .slice aB xB.length cB, .int .i64 P, .int .i64 T, .slice aV xV.length cV, .int .i64 U, .int .i64 N, .slice aW xW.length cW, .slice aC xC.length cC, .slice aT xT.length cT] [.int .i64 R, .int .i64 C, .slice bA xA.length dA, .slice bB xB.length dB, .int .i64 P, .int .i64 T, .slice bV xV.length dV, .int .i64 U, .int .i64 N, .slice bW xW.length dW, .slice bC xC.length dC, .slice bT xT.length dT] 31
  have H0 := Lib.hid (h.to hb)
  have G0 := Lib.hid (g.to hb)
  have K0 := Lib.hid K
  have J0 := Lib.hid J
  have B0 := Lib.hid hb
  obtain ⟨z0, z1, z2, z3, z4, z5, z6, z7, z8, z9, z10, z11⟩ := cells12 K
  obtain ⟨y0, y1, y2, y3, y4, y5, y6, y7, y8, y9, y10, y11⟩ := cells12 J
  have L1 := Lib.hid (lawEq_Game _ _ _ R C aA bA cA dA xA aB bB cB dB xB ⟨H0.out.A, H0.out.B⟩ ⟨G0.out.A, G0.out.B⟩ (Nat.le_refl _) (Nat.le_refl _) lA lB)
  clear h g hb K J
  go_enter Try.func8, Try.ntmps8
  go_wp2_with fail
  refine L1.out.mono ?_
  rintro e w1 ⟨rfl, hb⟩
  have B1 := Lib.hid (below_then B0.out hb)
  have H1 := Lib.hid (H0.out.to hb)
  have G1 := Lib.hid (G0.out.to hb)
  have K1 := Lib.hid (K0.out.same hb)
  have J1 := Lib.hid (J0.out.same hb)
  have L2 := Lib.hid (lawEq_Values _ _ _ P T aV bV cV dV xV H1.out.V G1.out.V (Nat.le_refl _) (Nat.le_refl _) lV)
  clear hb z0 z1 z2 z3 z4 z5 z6 z7 z8 z9 z10 z11 y0 y1 y2 y3 y4 y5 y6 y7 y8 y9 y10 y11
  obtain ⟨z0, z1, z2, z3, z4, z5, z6, z7, z8, z9, z10, z11⟩ := cells12 K1.out
  obtain ⟨y0, y1, y2, y3, y4, y5, y6, y7, y8, y9, y10, y11⟩ := cells12 J1.out
  go_wp2_with fail
  refine L2.out.mono ?_
  rintro e w2 ⟨rfl, hb⟩
  have B2 := Lib.hid (below_then B1.out hb)
  have H2 := Lib.hid (H1.out.to hb)
  have G2 := Lib.hid (G1.out.to hb)
  have K2 := Lib.hid (K1.out.same hb)
  have J2 := Lib.hid (J1.out.same hb)
  have L3 := Lib.hid (lawEq_Crowd _ _ _ U N aW bW cW dW xW aC bC cC dC xC ⟨H2.out.W, H2.out.C⟩ ⟨G2.out.W, G2.out.C⟩ (Nat.le_refl _) (Nat.le_refl _) lW lC)
  clear hb z0 z1 z2 z3 z4 z5 z6 z7 z8 z9 z10 z11 y0 y1 y2 y3 y4 y5 y6 y7 y8 y9 y10 y11
  obtain ⟨z0, z1, z2, z3, z4, z5, z6, z7, z8, z9, z10, z11⟩ := cells12 K2.out
  obtain ⟨y0, y1, y2, y3, y4, y5, y6, y7, y8, y9, y10, y11⟩ := cells12 J2.out
  go_wp2_with fail
  refine L3.out.mono ?_
  rintro e w3 ⟨rfl, hb⟩
  have B3 := Lib.hid (below_then B2.out hb)
  have H3 := Lib.hid (H2.out.to hb)
  have G3 := Lib.hid (G2.out.to hb)
  have K3 := Lib.hid (K2.out.same hb)
  have J3 := Lib.hid (J2.out.same hb)
  have L4 := Lib.hid (lawEq_FR _ aT bT cT dT xT H3.out.T G3.out.T lT)
  clear hb z0 z1 z2 z3 z4 z5 z6 z7 z8 z9 z10 z11 y0 y1 y2 y3 y4 y5 y6 y7 y8 y9 y10 y11
  obtain ⟨z0, z1, z2, z3, z4, z5, z6, z7, z8, z9, z10, z11⟩ := cells12 K3.out
  obtain ⟨y0, y1, y2, y3, y4, y5, y6, y7, y8, y9, y10, y11⟩ := cells12 J3.out
  go_wp2_with fail
  refine L4.out.mono ?_
  rintro e w4 ⟨rfl, hb⟩
  have B4 := Lib.hid (below_then B3.out hb)
  clear hb z0 z1 z2 z3 z4 z5 z6 z7 z8 z9 z10 z11 y0 y1 y2 y3 y4 y5 y6 y7 y8 y9 y10 y11
  go_wp2_with fail
  go_ret
  exact ⟨rfl, B4.out⟩
end Go.Proofs.Ytdmeegfdmdbkiaa
