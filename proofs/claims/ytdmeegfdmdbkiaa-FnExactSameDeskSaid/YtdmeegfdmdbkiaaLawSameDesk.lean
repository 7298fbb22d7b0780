/-
  The law on SameDesk: what its walk answers.
-/
import Derived.Test.YtdmeegfdmdbkiaaLawValidDesk
import Derived.Test.YtdmeegfdmdbkiaaSameD
namespace Go.Proofs.Ytdmeegfdmdbkiaa
set_option linter.unusedVariables false
set_option linter.unusedSimpArgs false
open Go.RowKit

theorem wf32 {x : Nat} (h : (Lit.float .f32 x).wf = true) : x < 4294967296 := by
  have : decide (x < 2 ^ 32) = true := h
  have := of_decide_eq_true this
  omega
set_option maxRecDepth 10000 in
set_option maxHeartbeats 16000000 in
theorem law_ExactSameDesk (w : World) (R C P T U N : Int) (aA : Option Addr) (cA : Nat) (xA : List Int) (aB : Option Addr) (cB : Nat) (xB : List Int) (aV : Option Addr) (cV : Nat) (xV : List Int) (aW : Option Addr) (cW : Nat) (xW : List Int) (aC : Option Addr) (cC : Nat) (xC : List Int) (aT : Option Addr) (cT : Nat) (xT : List Nat) (R' C' P' T' U' N' : Int) (bA : Option Addr) (dA : Nat) (yA : List Int) (bB : Option Addr) (dB : Nat) (yB : List Int) (bV : Option Addr) (dV : Nat) (yV : List Int) (bW : Option Addr) (dW : Nat) (yW : List Int) (bC : Option Addr) (dC : Nat) (yC : List Int) (bT : Option Addr) (dT : Nat) (yT : List Nat)
    (h : RdDesk w w.heap.size aA xA aB xB aV xV aW xW aC xC aT xT) (hl : xA.length ≤ 9223372036854775807 ∧ xB.length ≤ 9223372036854775807 ∧ xV.length ≤ 9223372036854775807 ∧ xW.length ≤ 9223372036854775807 ∧ xC.length ≤ 9223372036854775807 ∧ xT.length ≤ 9223372036854775807) (wfx0 : ∀ v ∈ xT, (Lit.float .f32 v).wf = true)
    (g : RdDesk w w.heap.size bA yA bB yB bV yV bW yW bC yC bT yT) (gl : yA.length ≤ 9223372036854775807 ∧ yB.length ≤ 9223372036854775807 ∧ yV.length ≤ 9223372036854775807 ∧ yW.length ≤ 9223372036854775807 ∧ yC.length ≤ 9223372036854775807 ∧ yT.length ≤ 9223372036854775807) (wfy0 : ∀ v ∈ yT, (Lit.float .f32 v).wf = true) :
    Calls Try.prog 4 #[.agg #[.int .i64 R, .int .i64 C, .slice aA xA.length cA, .slice aB xB.length cB, .int .i64 P, .int .i64 T, .slice aV xV.length cV, .int .i64 U, .int .i64 N, .slice aW xW.length cW, .slice aC xC.length cC, .slice aT xT.length cT], .agg #[.int .i64 R', .int .i64 C', .slice bA yA.length dA, .slice bB yB.length dB, .int .i64 P', .int .i64 T', .slice bV yV.length dV, .int .i64 U', .int .i64 N', .slice bW yW.length dW, .slice bC yC.length dC, .slice bT yT.length dT]] w fun e w' => e = .returned (.bool true) ∧ Below w.heap.size w w' := by
  have wfx : ∀ v ∈ xT, v < 4294967296 := fun v hv => wf32 (wfx0 v hv)
  have wfy : ∀ v ∈ yT, v < 4294967296 := fun v hv => wf32 (wfy0 v hv)
  obtain ⟨hA, hB, hV, hW, hC, hT⟩ := hl
  obtain ⟨gA, gB, gV, gW, gC, gT⟩ := gl
  have B0 := Lib.hid (bl2 w (.cells #[.int .i64 R, .int .i64 C, .slice aA xA.length cA, .slice aB xB.length cB, .int .i64 P, .int .i64 T, .slice aV xV.length cV, .int .i64 U, .int .i64 N, .slice aW xW.length cW, .slice aC xC.length cC, .slice aT xT.length cT] 40) (.cells #[.int .i64 R', .int .i64 C', .slice bA yA.length dA, .slice bB yB.length dB, .int .i64 P', .int .i64 T', .slice bV yV.length dV, .int .i64 U', .int .i64 N', .slice bW yW.length dW, .slice bC yC.length dC, .slice bT yT.length dT] 40))
  obtain ⟨K, J⟩ := desk2 w [.int .i64 R, .int .i64 C, .slice aA xA.length cA, .slice aB xB.length cB, .int .i64 P, .int .i64 T, .slice aV xV.length cV, .int .i64 U, .int .i64 N, .slice aW xW.length cW, .slice aC xC.length cC, .slice aT xT.length cT] [.int .i64 R', .int .i64 C', .slice bA yA.length dA, .slice bB yB.length dB, .int .i64 P', .int .i64 T', .slice bV yV.length dV, .int .i64 U', .int .i64 N', .slice bW yW.length dW, .slice bC yC.length dC, .slice bT yT.length dT] 40
  have K0 := Lib.hid K
  have J0 := Lib.hid J
  clear K J
  have H0 := Lib.hid (h.to B0.out)
  have G0 := Lib.hid (g.to B0.out)
  have Z := Lib.hid (fun v => lawSz_Desk v R C P T U N aA cA xA aB cB xB aV cV xV aW cW xW aC cC xC aT cT xT 1048576 (by omega) (by omega) hA hB hV hW hC hT)
  have hsp := szDeskF_spec (left := 1048576) (xA := xA) (xB := xB) (xV := xV) (xW := xW) (xC := xC) (xT := xT) (by omega)
  generalize szDeskF 1048576 xA xB xV xW xC xT = m at *
  obtain ⟨s1, s2, s3⟩ := hsp
  clear h g hA hB hV hW hC hT wfx0 wfy0
  obtain ⟨z0, z1, z2, z3, z4, z5, z6, z7, z8, z9, z10, z11⟩ := cells12 K0.out
  obtain ⟨y0, y1, y2, y3, y4, y5, y6, y7, y8, y9, y10, y11⟩ := cells12 J0.out
  obtain ⟨v0, hv0⟩ : ∃ W, W = (w.alloc (.cells #[.int .i64 R, .int .i64 C, .slice aA xA.length cA, .slice aB xB.length cB, .int .i64 P, .int .i64 T, .slice aV xV.length cV, .int .i64 U, .int .i64 N, .slice aW xW.length cW, .slice aC xC.length cC, .slice aT xT.length cT] 40)).alloc (.cells #[.int .i64 R', .int .i64 C', .slice bA yA.length dA, .slice bB yB.length dB, .int .i64 P', .int .i64 T', .slice bV yV.length dV, .int .i64 U', .int .i64 N', .slice bW yW.length dW, .slice bC yC.length dC, .slice bT yT.length dT] 40) := ⟨_, rfl⟩
  rw [← hv0] at B0 K0 J0 H0 G0
  have HV0 := Lib.hid hv0
  clear hv0
  by_cases hneg : m < 0
  case pos =>
    clear s3
    go_enter Try.func4, Try.ntmps4
    go_wp2_with fail
    rw [← HV0.out]
    refine (Z.out _).mono ?_
    rintro e w1 ⟨rfl, hb⟩
    have B1 := below_then B0.out hb
    clear hb
    go_wp2_with fail
    go_ret
    exact ⟨rfl, B1⟩
  obtain ⟨lA, lB, lV, lW, lC, lT⟩ := s3 (by omega)
  have m0 : 0 ≤ m := by omega
  have Z2 := Lib.hid (fun v => lawSz_Desk v R' C' P' T' U' N' bA dA yA bB dB yB bV dV yV bW dW yW bC dC yC bT dT yT m m0 s2 gA gB gV gW gC gT)
  have hsp := szDeskF_spec (left := m) (xA := yA) (xB := yB) (xV := yV) (xW := yW) (xC := yC) (xT := yT) m0
  generalize szDeskF m yA yB yV yW yC yT = m2 at *
  obtain ⟨r1, r2, r3⟩ := hsp
  clear gA gB gV gW gC gT s3
  by_cases hneg2 : m2 < 0
  case pos =>
    clear r3
    go_enter Try.func4, Try.ntmps4
    go_wp2_with fail
    rw [← HV0.out]
    refine (Z.out _).mono ?_
    rintro e w1 ⟨rfl, hb⟩
    have B1 := Lib.hid (below_then B0.out hb)
    have K1 := Lib.hid (K0.out.same hb)
    have J1 := Lib.hid (J0.out.same hb)
    clear hb z0 z1 z2 z3 z4 z5 z6 z7 z8 z9 z10 z11 y0 y1 y2 y3 y4 y5 y6 y7 y8 y9 y10 y11
    obtain ⟨z0, z1, z2, z3, z4, z5, z6, z7, z8, z9, z10, z11⟩ := cells12 K1.out
    obtain ⟨y0, y1, y2, y3, y4, y5, y6, y7, y8, y9, y10, y11⟩ := cells12 J1.out
    go_wp2_with fail
    refine (Z2.out _).mono ?_
    rintro e w2 ⟨rfl, hb⟩
    have B2 := below_then B1.out hb
    clear hb
    go_wp2_with fail
    go_ret
    exact ⟨rfl, B2⟩
  obtain ⟨nA, nB, nV, nW, nC, nT⟩ := r3 (by omega)
  have kA : xA.length ≤ 1048576 := by omega
  have kB : xB.length ≤ 1048576 := by omega
  have kV : xV.length ≤ 1048576 := by omega
  have kW : xW.length ≤ 1048576 := by omega
  have kC : xC.length ≤ 1048576 := by omega
  have kT : xT.length ≤ 1048576 := by omega
  have jA : yA.length ≤ 1048576 := by omega
  have jB : yB.length ≤ 1048576 := by omega
  have jV : yV.length ≤ 1048576 := by omega
  have jW : yW.length ≤ 1048576 := by omega
  have jC : yC.length ≤ 1048576 := by omega
  have jT : yT.length ≤ 1048576 := by omega
  have LT1 := Lib.hid (fun v hr => lawTo_Desk v R C P T U N aA cA xA aB cB xB aV cV xV aW cW xW aC cC xC aT cT xT hr kA kB kV kW kC kT)
  have LT2 := Lib.hid (fun v hr => lawTo_Desk v R' C' P' T' U' N' bA dA yA bB dB yB bV dV yV bW dW yW bC dC yC bT dT yT hr jA jB jV jW jC jT)
  have LS := Lib.hid (fun (v : World) (aA : Option Addr) (cA : Nat) (aB : Option Addr) (cB : Nat) (aV : Option Addr) (cV : Nat) (aW : Option Addr) (cW : Nat) (aC : Option Addr) (cC : Nat) (aT : Option Addr) (cT : Nat) (bA : Option Addr) (dA : Nat) (bB : Option Addr) (dB : Nat) (bV : Option Addr) (dV : Nat) (bW : Option Addr) (dW : Nat) (bC : Option Addr) (dC : Nat) (bT : Option Addr) (dT : Nat) (hr : RdDesk v v.heap.size aA xA aB xB aV xV aW xW aC xC aT xT) (hg : RdDesk v v.heap.size bA yA bB yB bV yV bW yW bC yC bT yT) => sameDeskR_any v R C P T U N aA cA xA aB cB xB aV cV xV aW cW xW aC cC xC aT cT xT R' C' P' T' U' N' bA dA yA bB dB yB bV dV yV bW dW yW bC dC yC bT dT yT hr hg kA jA kB jB kV jV kW jW kC jC kT jT wfx wfy)
  have LI := Lib.hid (fun (v : World) (aA : Option Addr) (cA : Nat) (aB : Option Addr) (cB : Nat) (aV : Option Addr) (cV : Nat) (aW : Option Addr) (cW : Nat) (aC : Option Addr) (cC : Nat) (aT : Option Addr) (cT : Nat) (bA : Option Addr) (dA : Nat) (bB : Option Addr) (dB : Nat) (bV : Option Addr) (dV : Nat) (bW : Option Addr) (dW : Nat) (bC : Option Addr) (dC : Nat) (bT : Option Addr) (dT : Nat) (hr : RdDesk v v.heap.size aA xA aB xB aV xV aW xW aC xC aT xT) (hg : RdDesk v v.heap.size bA yA bB yB bV yV bW yW bC yC bT yT) => sameDesk_any v R C P T U N aA cA xA aB cB xB aV cV xV aW cW xW aC cC xC aT cT xT R' C' P' T' U' N' bA dA yA bB dB yB bV dV yV bW dW yW bC dC yC bT dT yT hr hg kA jA kB jB kV jV kW jW kC jC kT jT wfx wfy)
  have HK := Lib.hid (And.intro kA (And.intro kB (And.intro kV (And.intro kW (And.intro kC kT)))))
  have HJ := Lib.hid (And.intro jA (And.intro jB (And.intro jV (And.intro jW (And.intro jC jT)))))
  clear r3 lA lB lV lW lC lT nA nB nV nW nC nT kA kB kV kW kC kT jA jB jV jW jC jT wfx wfy
  generalize hr : deskS R C P T U N xA xB xV xW xC xT R' C' P' T' U' N' yA yB yV yW yC yT = r at *
  clear hr
  have hne : (r != r) = false := by simp
  go_enter Try.func4, Try.ntmps4
  go_wp2_with fail
  rw [← HV0.out]
  refine (Z.out _).mono ?_
  rintro e w1 ⟨rfl, hb⟩
  have B1 := Lib.hid (below_then B0.out hb)
  have H1 := Lib.hid (H0.out.to hb)
  have G1 := Lib.hid (G0.out.to hb)
  have K1 := Lib.hid (K0.out.same hb)
  have J1 := Lib.hid (J0.out.same hb)
  clear hb B0 H0 G0 K0 J0 
  clear z0 z1 z2 z3 z4 z5 z6 z7 z8 z9 z10 z11 y0 y1 y2 y3 y4 y5 y6 y7 y8 y9 y10 y11 
  obtain ⟨z0, z1, z2, z3, z4, z5, z6, z7, z8, z9, z10, z11⟩ := cells12 K1.out
  obtain ⟨y0, y1, y2, y3, y4, y5, y6, y7, y8, y9, y10, y11⟩ := cells12 J1.out
  go_wp2_with fail
  refine (Z2.out _).mono ?_
  rintro e w2 ⟨rfl, hb⟩
  have B2 := Lib.hid (below_then B1.out hb)
  have H2 := Lib.hid (H1.out.to hb)
  have G2 := Lib.hid (G1.out.to hb)
  have K2 := Lib.hid (K1.out.same hb)
  have J2 := Lib.hid (J1.out.same hb)
  clear hb B1 H1 G1 K1 J1 
  clear z0 z1 z2 z3 z4 z5 z6 z7 z8 z9 z10 z11 y0 y1 y2 y3 y4 y5 y6 y7 y8 y9 y10 y11 
  obtain ⟨z0, z1, z2, z3, z4, z5, z6, z7, z8, z9, z10, z11⟩ := cells12 K2.out
  obtain ⟨y0, y1, y2, y3, y4, y5, y6, y7, y8, y9, y10, y11⟩ := cells12 J2.out
  go_wp2_with fail
  have hb := below_drew' (Below.refl w2.heap.size w2)
  have B3 := Lib.hid (below_then B2.out hb)
  have H3 := Lib.hid (H2.out.to hb)
  have G3 := Lib.hid (G2.out.to hb)
  have K3 := Lib.hid (K2.out.same hb)
  have J3 := Lib.hid (J2.out.same hb)
  clear hb B2 H2 G2 K2 J2 
  clear z0 z1 z2 z3 z4 z5 z6 z7 z8 z9 z10 z11 y0 y1 y2 y3 y4 y5 y6 y7 y8 y9 y10 y11 
  obtain ⟨z0, z1, z2, z3, z4, z5, z6, z7, z8, z9, z10, z11⟩ := cells12 K3.out
  obtain ⟨y0, y1, y2, y3, y4, y5, y6, y7, y8, y9, y10, y11⟩ := cells12 J3.out
  go_region_held3 (fun w' => w'.cell? ⟨w.heap.size, 0, none⟩ = some (.int .i64 R) ∧ w'.cell? ⟨w.heap.size, 1, none⟩ = some (.int .i64 C) ∧ w'.cell? ⟨w.heap.size, 2, none⟩ = some (.slice aA xA.length cA) ∧ w'.cell? ⟨w.heap.size, 3, none⟩ = some (.slice aB xB.length cB) ∧ w'.cell? ⟨w.heap.size, 4, none⟩ = some (.int .i64 P) ∧ w'.cell? ⟨w.heap.size, 5, none⟩ = some (.int .i64 T) ∧ w'.cell? ⟨w.heap.size, 6, none⟩ = some (.slice aV xV.length cV) ∧ w'.cell? ⟨w.heap.size, 7, none⟩ = some (.int .i64 U) ∧ w'.cell? ⟨w.heap.size, 8, none⟩ = some (.int .i64 N) ∧ w'.cell? ⟨w.heap.size, 9, none⟩ = some (.slice aW xW.length cW) ∧ w'.cell? ⟨w.heap.size, 10, none⟩ = some (.slice aC xC.length cC) ∧ w'.cell? ⟨w.heap.size, 11, none⟩ = some (.slice aT xT.length cT) ∧ w'.cell? ⟨w.heap.size + 1, 0, none⟩ = some (.int .i64 R') ∧ w'.cell? ⟨w.heap.size + 1, 1, none⟩ = some (.int .i64 C') ∧ w'.cell? ⟨w.heap.size + 1, 2, none⟩ = some (.slice bA yA.length dA) ∧ w'.cell? ⟨w.heap.size + 1, 3, none⟩ = some (.slice bB yB.length dB) ∧ w'.cell? ⟨w.heap.size + 1, 4, none⟩ = some (.int .i64 P') ∧ w'.cell? ⟨w.heap.size + 1, 5, none⟩ = some (.int .i64 T') ∧ w'.cell? ⟨w.heap.size + 1, 6, none⟩ = some (.slice bV yV.length dV) ∧ w'.cell? ⟨w.heap.size + 1, 7, none⟩ = some (.int .i64 U') ∧ w'.cell? ⟨w.heap.size + 1, 8, none⟩ = some (.int .i64 N') ∧ w'.cell? ⟨w.heap.size + 1, 9, none⟩ = some (.slice bW yW.length dW) ∧ w'.cell? ⟨w.heap.size + 1, 10, none⟩ = some (.slice bC yC.length dC) ∧ w'.cell? ⟨w.heap.size + 1, 11, none⟩ = some (.slice bT yT.length dT))
    (first | go_keep | exact two12 K3.out J3.out | exact two12 (K3.out.same hbq) (J3.out.same hbq) | exact two12 ((K3.out.same hbq).same hbr) ((J3.out.same hbq).same hbr) | exact two12 (((K3.out.same hbq).same hbr).same hbs) (((J3.out.same hbq).same hbr).same hbs))
    (first | (go_at_call_of 13 aA; refine (LT1.out _ H3.out).mono ?_; rintro e wq ⟨aA1, cA1, aB1, cB1, aV1, cV1, aW1, cW1, aC1, cC1, aT1, cT1, rfl, oq, hbq⟩) | (go_at_call_of 13 bA; refine (LT2.out _ (G3.out.to hbq)).mono ?_; rintro e wr ⟨bA1, dA1, bB1, dB1, bV1, dV1, bW1, dW1, bC1, dC1, bT1, dT1, rfl, or, hbr⟩) | (go_at_call 12; refine (LS.out _ _ _ _ _ _ _ _ _ _ _ _ _ _ _ _ _ _ _ _ _ _ _ _ _ (oq.keep hbr).rd or.rd).mono ?_; rintro e ws ⟨rfl, hbs⟩))
  have hb := below_then (below_then hbq hbr) hbs
  clear hbq hbr hbs oq or
  have B4 := Lib.hid (below_then B3.out hb)
  have H4 := Lib.hid (H3.out.to hb)
  have G4 := Lib.hid (G3.out.to hb)
  have K4 := Lib.hid (K3.out.same hb)
  have J4 := Lib.hid (J3.out.same hb)
  clear hb B3 H3 G3 K3 J3 
  clear z0 z1 z2 z3 z4 z5 z6 z7 z8 z9 z10 z11 y0 y1 y2 y3 y4 y5 y6 y7 y8 y9 y10 y11 
  obtain ⟨z0, z1, z2, z3, z4, z5, z6, z7, z8, z9, z10, z11⟩ := cells12 K4.out
  obtain ⟨y0, y1, y2, y3, y4, y5, y6, y7, y8, y9, y10, y11⟩ := cells12 J4.out
  go_wp2_with fail
  refine (LT1.out _ H4.out).mono ?_
  rintro e w5 ⟨aA2, cA2, aB2, cB2, aV2, cV2, aW2, cW2, aC2, cC2, aT2, cT2, rfl, o5, hb⟩
  have X_5 := Lib.hid o5.rd
  clear o5
  have B5 := Lib.hid (below_then B4.out hb)
  have H5 := Lib.hid (H4.out.to hb)
  have G5 := Lib.hid (G4.out.to hb)
  have K5 := Lib.hid (K4.out.same hb)
  have J5 := Lib.hid (J4.out.same hb)
  clear hb B4 H4 G4 K4 J4 
  clear z0 z1 z2 z3 z4 z5 z6 z7 z8 z9 z10 z11 y0 y1 y2 y3 y4 y5 y6 y7 y8 y9 y10 y11 
  obtain ⟨z0, z1, z2, z3, z4, z5, z6, z7, z8, z9, z10, z11⟩ := cells12 K5.out
  obtain ⟨y0, y1, y2, y3, y4, y5, y6, y7, y8, y9, y10, y11⟩ := cells12 J5.out
  have JL := J5.out.alloc (.cells #[.int .i64 R, .int .i64 C, .slice aA2 xA.length cA2, .slice aB2 xB.length cB2, .int .i64 P, .int .i64 T, .slice aV2 xV.length cV2, .int .i64 U, .int .i64 N, .slice aW2 xW.length cW2, .slice aC2 xC.length cC2, .slice aT2 xT.length cT2] 31)
  obtain ⟨u0, u1, u2, u3, u4, u5, u6, u7, u8, u9, u10, u11⟩ := cells12 JL
  clear JL
  go_wp2_with fail
  clear u0 u1 u2 u3 u4 u5 u6 u7 u8 u9 u10 u11
  have hb := bl1 w5 (.cells #[.int .i64 R, .int .i64 C, .slice aA2 xA.length cA2, .slice aB2 xB.length cB2, .int .i64 P, .int .i64 T, .slice aV2 xV.length cV2, .int .i64 U, .int .i64 N, .slice aW2 xW.length cW2, .slice aC2 xC.length cC2, .slice aT2 xT.length cT2] 31)
  have bk := Blk.new w5 [.int .i64 R, .int .i64 C, .slice aA2 xA.length cA2, .slice aB2 xB.length cB2, .int .i64 P, .int .i64 T, .slice aV2 xV.length cV2, .int .i64 U, .int .i64 N, .slice aW2 xW.length cW2, .slice aC2 xC.length cC2, .slice aT2 xT.length cT2] 31
  obtain ⟨w6, hw⟩ : ∃ W, W = w5.alloc (.cells #[.int .i64 R, .int .i64 C, .slice aA2 xA.length cA2, .slice aB2 xB.length cB2, .int .i64 P, .int .i64 T, .slice aV2 xV.length cV2, .int .i64 U, .int .i64 N, .slice aW2 xW.length cW2, .slice aC2 xC.length cC2, .slice aT2 xT.length cT2] 31) := ⟨_, rfl⟩
  rw [← hw] at hb bk
  rw [← hw]
  clear hw
  have M_6 := Lib.hid bk
  clear bk
  have X_6 := Lib.hid (X_5.out.to hb)
  clear X_5
  have B6 := Lib.hid (below_then B5.out hb)
  have H6 := Lib.hid (H5.out.to hb)
  have G6 := Lib.hid (G5.out.to hb)
  have K6 := Lib.hid (K5.out.same hb)
  have J6 := Lib.hid (J5.out.same hb)
  clear hb B5 H5 G5 K5 J5 
  clear z0 z1 z2 z3 z4 z5 z6 z7 z8 z9 z10 z11 y0 y1 y2 y3 y4 y5 y6 y7 y8 y9 y10 y11 
  obtain ⟨z0, z1, z2, z3, z4, z5, z6, z7, z8, z9, z10, z11⟩ := cells12 K6.out
  obtain ⟨y0, y1, y2, y3, y4, y5, y6, y7, y8, y9, y10, y11⟩ := cells12 J6.out
  refine (LT2.out _ G6.out).mono ?_
  rintro e w7 ⟨bA2, dA2, bB2, dB2, bV2, dV2, bW2, dW2, bC2, dC2, bT2, dT2, rfl, o7, hb⟩
  have Y_7 := Lib.hid o7.rd
  clear o7
  have B7 := Lib.hid (below_then B6.out hb)
  have H7 := Lib.hid (H6.out.to hb)
  have G7 := Lib.hid (G6.out.to hb)
  have K7 := Lib.hid (K6.out.same hb)
  have J7 := Lib.hid (J6.out.same hb)
  have X_7 := Lib.hid (X_6.out.to hb)
  have M_7 := Lib.hid (M_6.out.same hb)
  clear hb B6 H6 G6 K6 J6 X_6 M_6
  clear z0 z1 z2 z3 z4 z5 z6 z7 z8 z9 z10 z11 y0 y1 y2 y3 y4 y5 y6 y7 y8 y9 y10 y11 
  obtain ⟨z0, z1, z2, z3, z4, z5, z6, z7, z8, z9, z10, z11⟩ := cells12 K7.out
  obtain ⟨y0, y1, y2, y3, y4, y5, y6, y7, y8, y9, y10, y11⟩ := cells12 J7.out
  have ML := M_7.out.alloc (.cells #[.int .i64 R', .int .i64 C', .slice bA2 yA.length dA2, .slice bB2 yB.length dB2, .int .i64 P', .int .i64 T', .slice bV2 yV.length dV2, .int .i64 U', .int .i64 N', .slice bW2 yW.length dW2, .slice bC2 yC.length dC2, .slice bT2 yT.length dT2] 31)
  obtain ⟨u0, u1, u2, u3, u4, u5, u6, u7, u8, u9, u10, u11⟩ := cells12 ML
  clear ML
  go_wp2_with fail
  clear u0 u1 u2 u3 u4 u5 u6 u7 u8 u9 u10 u11
  have hb := bl1 w7 (.cells #[.int .i64 R', .int .i64 C', .slice bA2 yA.length dA2, .slice bB2 yB.length dB2, .int .i64 P', .int .i64 T', .slice bV2 yV.length dV2, .int .i64 U', .int .i64 N', .slice bW2 yW.length dW2, .slice bC2 yC.length dC2, .slice bT2 yT.length dT2] 31)
  have bk := Blk.new w7 [.int .i64 R', .int .i64 C', .slice bA2 yA.length dA2, .slice bB2 yB.length dB2, .int .i64 P', .int .i64 T', .slice bV2 yV.length dV2, .int .i64 U', .int .i64 N', .slice bW2 yW.length dW2, .slice bC2 yC.length dC2, .slice bT2 yT.length dT2] 31
  obtain ⟨w8, hw⟩ : ∃ W, W = w7.alloc (.cells #[.int .i64 R', .int .i64 C', .slice bA2 yA.length dA2, .slice bB2 yB.length dB2, .int .i64 P', .int .i64 T', .slice bV2 yV.length dV2, .int .i64 U', .int .i64 N', .slice bW2 yW.length dW2, .slice bC2 yC.length dC2, .slice bT2 yT.length dT2] 31) := ⟨_, rfl⟩
  rw [← hw] at hb bk
  try rw [← hw]
  have HW8 := Lib.hid hw
  clear hw
  have P_8 := Lib.hid bk
  clear bk
  have Y_8 := Lib.hid (Y_7.out.to hb)
  clear Y_7
  have B8 := Lib.hid (below_then B7.out hb)
  have H8 := Lib.hid (H7.out.to hb)
  have G8 := Lib.hid (G7.out.to hb)
  have K8 := Lib.hid (K7.out.same hb)
  have J8 := Lib.hid (J7.out.same hb)
  have X_8 := Lib.hid (X_7.out.to hb)
  have M_8 := Lib.hid (M_7.out.same hb)
  clear hb B7 H7 G7 K7 J7 X_7 M_7
  clear z0 z1 z2 z3 z4 z5 z6 z7 z8 z9 z10 z11 y0 y1 y2 y3 y4 y5 y6 y7 y8 y9 y10 y11 
  obtain ⟨z0, z1, z2, z3, z4, z5, z6, z7, z8, z9, z10, z11⟩ := cells12 K8.out
  obtain ⟨y0, y1, y2, y3, y4, y5, y6, y7, y8, y9, y10, y11⟩ := cells12 J8.out
  obtain ⟨u0, u1, u2, u3, u4, u5, u6, u7, u8, u9, u10, u11⟩ := cells12 M_8.out
  obtain ⟨v0, v1, v2, v3, v4, v5, v6, v7, v8, v9, v10, v11⟩ := cells12 P_8.out
  refine (LI.out _ _ _ _ _ _ _ _ _ _ _ _ _ _ _ _ _ _ _ _ _ _ _ _ _ X_8.out Y_8.out).mono ?_
  rintro e w9 ⟨rfl, hb⟩
  have B9 := Lib.hid (below_then B8.out hb)
  have H9 := Lib.hid (H8.out.to hb)
  have G9 := Lib.hid (G8.out.to hb)
  have K9 := Lib.hid (K8.out.same hb)
  have J9 := Lib.hid (J8.out.same hb)
  have X_9 := Lib.hid (X_8.out.to hb)
  have M_9 := Lib.hid (M_8.out.same hb)
  have Y_9 := Lib.hid (Y_8.out.to hb)
  have P_9 := Lib.hid (P_8.out.same hb)
  clear hb B8 H8 G8 K8 J8 X_8 M_8 Y_8 P_8
  clear z0 z1 z2 z3 z4 z5 z6 z7 z8 z9 z10 z11 y0 y1 y2 y3 y4 y5 y6 y7 y8 y9 y10 y11 u0 u1 u2 u3 u4 u5 u6 u7 u8 u9 u10 u11 v0 v1 v2 v3 v4 v5 v6 v7 v8 v9 v10 v11
  obtain ⟨z0, z1, z2, z3, z4, z5, z6, z7, z8, z9, z10, z11⟩ := cells12 K9.out
  obtain ⟨y0, y1, y2, y3, y4, y5, y6, y7, y8, y9, y10, y11⟩ := cells12 J9.out
  obtain ⟨u0, u1, u2, u3, u4, u5, u6, u7, u8, u9, u10, u11⟩ := cells12 M_9.out
  obtain ⟨v0, v1, v2, v3, v4, v5, v6, v7, v8, v9, v10, v11⟩ := cells12 P_9.out
  go_wp2_with fail
  have hb := below_drew' (Below.refl w9.heap.size w9)
  have B10 := Lib.hid (below_then B9.out hb)
  have H10 := Lib.hid (H9.out.to hb)
  have G10 := Lib.hid (G9.out.to hb)
  have K10 := Lib.hid (K9.out.same hb)
  have J10 := Lib.hid (J9.out.same hb)
  have X_10 := Lib.hid (X_9.out.to hb)
  have M_10 := Lib.hid (M_9.out.same hb)
  have Y_10 := Lib.hid (Y_9.out.to hb)
  have P_10 := Lib.hid (P_9.out.same hb)
  clear hb B9 H9 G9 K9 J9 X_9 M_9 Y_9 P_9
  clear z0 z1 z2 z3 z4 z5 z6 z7 z8 z9 z10 z11 y0 y1 y2 y3 y4 y5 y6 y7 y8 y9 y10 y11 u0 u1 u2 u3 u4 u5 u6 u7 u8 u9 u10 u11 v0 v1 v2 v3 v4 v5 v6 v7 v8 v9 v10 v11
  obtain ⟨z0, z1, z2, z3, z4, z5, z6, z7, z8, z9, z10, z11⟩ := cells12 K10.out
  obtain ⟨y0, y1, y2, y3, y4, y5, y6, y7, y8, y9, y10, y11⟩ := cells12 J10.out
  obtain ⟨u0, u1, u2, u3, u4, u5, u6, u7, u8, u9, u10, u11⟩ := cells12 M_10.out
  obtain ⟨v0, v1, v2, v3, v4, v5, v6, v7, v8, v9, v10, v11⟩ := cells12 P_10.out
  go_region_held3 (fun w' => w'.cell? ⟨w5.heap.size, 0, none⟩ = some (.int .i64 R) ∧ w'.cell? ⟨w5.heap.size, 1, none⟩ = some (.int .i64 C) ∧ w'.cell? ⟨w5.heap.size, 2, none⟩ = some (.slice aA2 xA.length cA2) ∧ w'.cell? ⟨w5.heap.size, 3, none⟩ = some (.slice aB2 xB.length cB2) ∧ w'.cell? ⟨w5.heap.size, 4, none⟩ = some (.int .i64 P) ∧ w'.cell? ⟨w5.heap.size, 5, none⟩ = some (.int .i64 T) ∧ w'.cell? ⟨w5.heap.size, 6, none⟩ = some (.slice aV2 xV.length cV2) ∧ w'.cell? ⟨w5.heap.size, 7, none⟩ = some (.int .i64 U) ∧ w'.cell? ⟨w5.heap.size, 8, none⟩ = some (.int .i64 N) ∧ w'.cell? ⟨w5.heap.size, 9, none⟩ = some (.slice aW2 xW.length cW2) ∧ w'.cell? ⟨w5.heap.size, 10, none⟩ = some (.slice aC2 xC.length cC2) ∧ w'.cell? ⟨w5.heap.size, 11, none⟩ = some (.slice aT2 xT.length cT2) ∧ w'.cell? ⟨w.heap.size, 0, none⟩ = some (.int .i64 R) ∧ w'.cell? ⟨w.heap.size, 1, none⟩ = some (.int .i64 C) ∧ w'.cell? ⟨w.heap.size, 2, none⟩ = some (.slice aA xA.length cA) ∧ w'.cell? ⟨w.heap.size, 3, none⟩ = some (.slice aB xB.length cB) ∧ w'.cell? ⟨w.heap.size, 4, none⟩ = some (.int .i64 P) ∧ w'.cell? ⟨w.heap.size, 5, none⟩ = some (.int .i64 T) ∧ w'.cell? ⟨w.heap.size, 6, none⟩ = some (.slice aV xV.length cV) ∧ w'.cell? ⟨w.heap.size, 7, none⟩ = some (.int .i64 U) ∧ w'.cell? ⟨w.heap.size, 8, none⟩ = some (.int .i64 N) ∧ w'.cell? ⟨w.heap.size, 9, none⟩ = some (.slice aW xW.length cW) ∧ w'.cell? ⟨w.heap.size, 10, none⟩ = some (.slice aC xC.length cC) ∧ w'.cell? ⟨w.heap.size, 11, none⟩ = some (.slice aT xT.length cT))
    (first | go_keep | exact two12 M_10.out K10.out | exact two12 (M_10.out.same hbq) (K10.out.same hbq) | exact two12 ((M_10.out.same hbq).same hbr) ((K10.out.same hbq).same hbr))
    (first | (go_at_call 13; refine (LT1.out _ H10.out).mono ?_; rintro e wq ⟨aA3, cA3, aB3, cB3, aV3, cV3, aW3, cW3, aC3, cC3, aT3, cT3, rfl, oq, hbq⟩) | (go_at_call 8; refine (lawEq_Desk _ R C P T U N _ _ _ _ xA _ _ _ _ xB _ _ _ _ xV _ _ _ _ xW _ _ _ _ xC _ _ _ _ xT (X_10.out.to hbq) oq.rd HK.out.1 HK.out.2.1 HK.out.2.2.1 HK.out.2.2.2.1 HK.out.2.2.2.2.1 HK.out.2.2.2.2.2).mono ?_; rintro e wr ⟨rfl, hbr⟩))
  have hb := below_then hbq hbr
  clear hbq hbr oq
  have B11 := Lib.hid (below_then B10.out hb)
  have H11 := Lib.hid (H10.out.to hb)
  have G11 := Lib.hid (G10.out.to hb)
  have K11 := Lib.hid (K10.out.same hb)
  have J11 := Lib.hid (J10.out.same hb)
  have X_11 := Lib.hid (X_10.out.to hb)
  have M_11 := Lib.hid (M_10.out.same hb)
  have Y_11 := Lib.hid (Y_10.out.to hb)
  have P_11 := Lib.hid (P_10.out.same hb)
  clear hb B10 H10 G10 K10 J10 X_10 M_10 Y_10 P_10
  clear z0 z1 z2 z3 z4 z5 z6 z7 z8 z9 z10 z11 y0 y1 y2 y3 y4 y5 y6 y7 y8 y9 y10 y11 u0 u1 u2 u3 u4 u5 u6 u7 u8 u9 u10 u11 v0 v1 v2 v3 v4 v5 v6 v7 v8 v9 v10 v11
  obtain ⟨z0, z1, z2, z3, z4, z5, z6, z7, z8, z9, z10, z11⟩ := cells12 K11.out
  obtain ⟨y0, y1, y2, y3, y4, y5, y6, y7, y8, y9, y10, y11⟩ := cells12 J11.out
  obtain ⟨u0, u1, u2, u3, u4, u5, u6, u7, u8, u9, u10, u11⟩ := cells12 M_11.out
  obtain ⟨v0, v1, v2, v3, v4, v5, v6, v7, v8, v9, v10, v11⟩ := cells12 P_11.out
  go_wp2_with fail
  have hb := below_drew' (Below.refl wr.heap.size wr)
  have B12 := Lib.hid (below_then B11.out hb)
  have H12 := Lib.hid (H11.out.to hb)
  have G12 := Lib.hid (G11.out.to hb)
  have K12 := Lib.hid (K11.out.same hb)
  have J12 := Lib.hid (J11.out.same hb)
  have Y_12 := Lib.hid (Y_11.out.to hb)
  have P_12 := Lib.hid (P_11.out.same hb)
  clear hb B11 H11 G11 K11 J11 Y_11 P_11
  clear z0 z1 z2 z3 z4 z5 z6 z7 z8 z9 z10 z11 y0 y1 y2 y3 y4 y5 y6 y7 y8 y9 y10 y11 u0 u1 u2 u3 u4 u5 u6 u7 u8 u9 u10 u11 v0 v1 v2 v3 v4 v5 v6 v7 v8 v9 v10 v11
  obtain ⟨z0, z1, z2, z3, z4, z5, z6, z7, z8, z9, z10, z11⟩ := cells12 K12.out
  obtain ⟨y0, y1, y2, y3, y4, y5, y6, y7, y8, y9, y10, y11⟩ := cells12 J12.out
  obtain ⟨v0, v1, v2, v3, v4, v5, v6, v7, v8, v9, v10, v11⟩ := cells12 P_12.out
  go_region_held3 (fun w' => w'.cell? ⟨w7.heap.size, 0, none⟩ = some (.int .i64 R') ∧ w'.cell? ⟨w7.heap.size, 1, none⟩ = some (.int .i64 C') ∧ w'.cell? ⟨w7.heap.size, 2, none⟩ = some (.slice bA2 yA.length dA2) ∧ w'.cell? ⟨w7.heap.size, 3, none⟩ = some (.slice bB2 yB.length dB2) ∧ w'.cell? ⟨w7.heap.size, 4, none⟩ = some (.int .i64 P') ∧ w'.cell? ⟨w7.heap.size, 5, none⟩ = some (.int .i64 T') ∧ w'.cell? ⟨w7.heap.size, 6, none⟩ = some (.slice bV2 yV.length dV2) ∧ w'.cell? ⟨w7.heap.size, 7, none⟩ = some (.int .i64 U') ∧ w'.cell? ⟨w7.heap.size, 8, none⟩ = some (.int .i64 N') ∧ w'.cell? ⟨w7.heap.size, 9, none⟩ = some (.slice bW2 yW.length dW2) ∧ w'.cell? ⟨w7.heap.size, 10, none⟩ = some (.slice bC2 yC.length dC2) ∧ w'.cell? ⟨w7.heap.size, 11, none⟩ = some (.slice bT2 yT.length dT2) ∧ w'.cell? ⟨w.heap.size + 1, 0, none⟩ = some (.int .i64 R') ∧ w'.cell? ⟨w.heap.size + 1, 1, none⟩ = some (.int .i64 C') ∧ w'.cell? ⟨w.heap.size + 1, 2, none⟩ = some (.slice bA yA.length dA) ∧ w'.cell? ⟨w.heap.size + 1, 3, none⟩ = some (.slice bB yB.length dB) ∧ w'.cell? ⟨w.heap.size + 1, 4, none⟩ = some (.int .i64 P') ∧ w'.cell? ⟨w.heap.size + 1, 5, none⟩ = some (.int .i64 T') ∧ w'.cell? ⟨w.heap.size + 1, 6, none⟩ = some (.slice bV yV.length dV) ∧ w'.cell? ⟨w.heap.size + 1, 7, none⟩ = some (.int .i64 U') ∧ w'.cell? ⟨w.heap.size + 1, 8, none⟩ = some (.int .i64 N') ∧ w'.cell? ⟨w.heap.size + 1, 9, none⟩ = some (.slice bW yW.length dW) ∧ w'.cell? ⟨w.heap.size + 1, 10, none⟩ = some (.slice bC yC.length dC) ∧ w'.cell? ⟨w.heap.size + 1, 11, none⟩ = some (.slice bT yT.length dT))
    (first | go_keep | exact two12 P_12.out J12.out | exact two12 (P_12.out.same hbs) (J12.out.same hbs) | exact two12 ((P_12.out.same hbs).same hbt) ((J12.out.same hbs).same hbt))
    (first | (go_at_call 13; refine (LT2.out _ G12.out).mono ?_; rintro e ws ⟨bA3, dA3, bB3, dB3, bV3, dV3, bW3, dW3, bC3, dC3, bT3, dT3, rfl, os, hbs⟩) | (go_at_call 8; refine (lawEq_Desk _ R' C' P' T' U' N' _ _ _ _ yA _ _ _ _ yB _ _ _ _ yV _ _ _ _ yW _ _ _ _ yC _ _ _ _ yT (Y_12.out.to hbs) os.rd HJ.out.1 HJ.out.2.1 HJ.out.2.2.1 HJ.out.2.2.2.1 HJ.out.2.2.2.2.1 HJ.out.2.2.2.2.2).mono ?_; rintro e wt ⟨rfl, hbt⟩))
  have BF := below_then (below_then B12.out hbs) hbt
  clear hbs hbt os z0 z1 z2 z3 z4 z5 z6 z7 z8 z9 z10 z11 y0 y1 y2 y3 y4 y5 y6 y7 y8 y9 y10 y11 v0 v1 v2 v3 v4 v5 v6 v7 v8 v9 v10 v11
  go_wp2_with fail
  go_ret
  exact ⟨rfl, BF⟩
end Go.Proofs.Ytdmeegfdmdbkiaa
