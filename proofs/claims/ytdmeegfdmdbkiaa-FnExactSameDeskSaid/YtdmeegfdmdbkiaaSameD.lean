/-
  Are two desks the same: both roads.
-/
import Derived.Test.YtdmeegfdmdbkiaaSameN
import Derived.Test.YtdmeegfdmdbkiaaSameG
import Derived.Test.YtdmeegfdmdbkiaaDeskV
import Derived.Test.YtdmeegfdmdbkiaaDeskL2
namespace Go.Proofs.Ytdmeegfdmdbkiaa
set_option linter.unusedVariables false
set_option linter.unusedSimpArgs false
open Go.RowKit

def sameK (xs ys : List Nat) (k : Nat) : Bool := (List.range k).all fun i => sameN (xs.getD i 0) (ys.getD i 0)
theorem sameK_succ (xs ys : List Nat) (k : Nat) : sameK xs ys (k + 1) = (sameK xs ys k && sameN (xs.getD k 0) (ys.getD k 0)) := by simp [sameK, List.range_succ]
def eqF (xs ys : List Nat) : Bool := decide (xs.length = ys.length) && sameK xs ys xs.length
theorem eqF_no {xs ys : List Nat} {k : Nat} (hk : k < xs.length) (h : sameN (xs.getD k 0) (ys.getD k 0) = false) : eqF xs ys = false := by
  have : sameK xs ys xs.length = false := by
    unfold sameK
    rw [List.all_eq_false]
    exact ⟨k, List.mem_range.2 hk, by rw [h]; simp⟩
  simp [eqF, this]
def deskS (R C P T U N : Int) (xA xB xV xW xC : List Int) (xT : List Nat) (R' C' P' T' U' N' : Int) (yA yB yV yW yC : List Int) (yT : List Nat) : Bool :=
  sameG R C xA xB R' C' yA yB && sameV P T xV P' T' yV && sameG U N xW xC U' N' yW yC && eqF xT yT
theorem wf_get {xs : List Nat} (h : ∀ v ∈ xs, v < 4294967296) {k : Nat} (hk : k < xs.length) : xs.getD k 0 < 4294967296 := h _ (by simp only [List.getD, List.getElem?_eq_getElem hk]; exact List.getElem_mem _)
set_option maxHeartbeats 4000000 in
theorem l01SameAll_any (w : World) (a b : Option Addr) (c d : Nat) (xs ys : List Nat) (h : Rd w w.heap.size a (flts xs)) (g : Rd w w.heap.size b (flts ys)) (lx : xs.length ≤ 1048576) (ly : ys.length ≤ 1048576) (wx : ∀ v ∈ xs, v < 4294967296) (wy : ∀ v ∈ ys, v < 4294967296) :
    Calls Try.prog 36 #[.slice a xs.length c, .slice b ys.length d] w fun e w' => e = .returned (.bool (eqF xs ys)) ∧ ∃ n, w' = w.drewN n := by
  by_cases hlen : xs.length = ys.length
  · have hb1 : ((xs.length : Int) != (ys.length : Int)) = false := by simp [hlen]
    have HE : Hid (eqF xs ys = sameK xs ys xs.length) := by simp [Hid, eqF, hlen]
    have HN : Hid (∀ k, k < xs.length → sameN (xs.getD k 0) (ys.getD k 0) = false → eqF xs ys = false) := fun k hk => eqF_no hk
    have HL := Lib.hid hlen
    have HX := Lib.hid h
    have HY := Lib.hid g
    have WX := Lib.hid wx
    have WY := Lib.hid wy
    clear h g wx wy hlen
    go_enter Try.func36, Try.ntmps36
    go_wp2_with fail
    go_loopw [5] (fun i wr => ∃ k n : Nat, k ≤ xs.length ∧ i = .int .i64 k ∧ Hid (sameK xs ys k = true) ∧ wr = w.drewN n) (fun i _ => xs.length - (intOf i).toNat)
    case atStart => exact ⟨0, 0, Nat.zero_le _, rfl, rfl, rfl⟩
    case round =>
      obtain ⟨k, n, hk, rfl, hK, rfl⟩ := hrel
      by_cases hlt : k < xs.length
      · have hlt2 : k < ys.length := by have := HL.out; omega
        obtain ⟨b1, o1, rfl, _, hc1⟩ := HX.out.atF hlt
        obtain ⟨b2, o2, rfl, _, hc2⟩ := HY.out.atF hlt2
        have c1 := hc1 k hlt
        have c2 := hc2 k hlt2
        have L := Lib.hid (fun v => l01Same_any (xs.getD k 0) (ys.getD k 0) (wf_get WX.out hlt) (wf_get WY.out hlt2) v)
        have HS : Hid (sameK xs ys (k + 1) = (sameK xs ys k && sameN (xs.getD k 0) (ys.getD k 0))) := sameK_succ xs ys k
        have HNk := Lib.hid (HN.out k hlt)
        clear hc1 hc2 HX HY
        generalize xs.getD k 0 = x at *
        generalize ys.getD k 0 = y at *
        cases t : sameN x y with
        | true =>
          rw [t] at L
          have HS2 : Hid (sameK xs ys (k + 1) = true) := by rw [Hid, HS.out, hK.out, t]; rfl
          clear t
          go_wp2_with fail
          go_quiet ((go_at_call 57; exact qs2 (L.out _)))
          go_wp2_with fail
          go_roundw
          case rel => exact ⟨k + 1, _, by omega, by go_num, HS2, by first | rfl | exact World.drewN_drewN _ _ _⟩
          case measure => simp [intOf]; omega
        | false =>
          rw [t] at L
          have HF := Lib.hid (HNk.out t)
          clear t
          go_wp2_with fail
          go_quiet ((go_at_call 57; exact qs2 (L.out _)))
          go_wp2_with fail
          go_ret
          exact ⟨ret_bool HF.out.symm, _, by first | rfl | exact World.drewN_drewN _ _ _⟩
      · have : k = xs.length := by omega
        subst this
        have HF : Hid (eqF xs ys = true) := by rw [Hid, HE.out, hK.out]
        go_wp2_with fail
        go_ret
        exact ⟨ret_bool HF.out.symm, _, rfl⟩
  · have hb1 : ((xs.length : Int) != (ys.length : Int)) = true := by simp; omega
    have HF : Hid (eqF xs ys = false) := by simp [Hid, eqF, hlen]
    clear h g
    go_enter Try.func36, Try.ntmps36
    go_wp2_with fail
    go_ret
    exact ⟨ret_bool HF.out.symm, 0, rfl⟩
theorem enter_sameN (args : Array Value) (w : World) : (callFunc 45 args).run Try.prog w = .ok (.enter 45 args) w := by kernel_rfl
set_option maxHeartbeats 4000000 in
theorem equalFunc_any (w : World) (a b : Option Addr) (c d : Nat) (xs ys : List Nat) (h : Rd w w.heap.size a (flts xs)) (g : Rd w w.heap.size b (flts ys)) (lx : xs.length ≤ 1048576) (ly : ys.length ≤ 1048576) (wx : ∀ v ∈ xs, v < 4294967296) (wy : ∀ v ∈ ys, v < 4294967296) :
    Calls Try.prog 44 #[.slice a xs.length c, .slice b ys.length d, .func (.func 45) #[] #[]] w fun e w' => e = .returned (.bool (eqF xs ys)) ∧ w = w' := by
  have hK := enter_sameN
  by_cases hlen : xs.length = ys.length
  · have hb1 : ((xs.length : Int) != (ys.length : Int)) = false := by simp [hlen]
    have HE : Hid (eqF xs ys = sameK xs ys xs.length) := by simp [Hid, eqF, hlen]
    have HN : Hid (∀ k, k < xs.length → sameN (xs.getD k 0) (ys.getD k 0) = false → eqF xs ys = false) := fun k hk => eqF_no hk
    have HL := Lib.hid hlen
    have HX := Lib.hid h
    have HY := Lib.hid g
    have WX := Lib.hid wx
    have WY := Lib.hid wy
    clear h g wx wy hlen
    go_enter Try.func44, Try.ntmps44
    go_wp2_with fail
    go_loop [17] (fun i => ∃ k : Nat, k ≤ xs.length ∧ i = .int .i64 k ∧ Hid (sameK xs ys k = true)) (fun i => xs.length - (intOf i).toNat)
    case atStart => exact ⟨0, Nat.zero_le _, rfl, rfl⟩
    case round =>
      obtain ⟨k, hk, rfl, hK2⟩ := hrel
      by_cases hlt : k < xs.length
      · have hlt2 : k < ys.length := by have := HL.out; omega
        obtain ⟨b1, o1, rfl, _, hc1⟩ := HX.out.atF hlt
        obtain ⟨b2, o2, rfl, _, hc2⟩ := HY.out.atF hlt2
        have c1 := hc1 k hlt
        have c2 := hc2 k hlt2
        have L := Lib.hid (fun v => sameNumber_any (xs.getD k 0) (ys.getD k 0) (wf_get WX.out hlt) (wf_get WY.out hlt2) v)
        have HS : Hid (sameK xs ys (k + 1) = (sameK xs ys k && sameN (xs.getD k 0) (ys.getD k 0))) := sameK_succ xs ys k
        have HNk := Lib.hid (HN.out k hlt)
        clear hc1 hc2 HX HY
        generalize xs.getD k 0 = x at *
        generalize ys.getD k 0 = y at *
        cases t : sameN x y with
        | true =>
          rw [t] at L
          have HS2 : Hid (sameK xs ys (k + 1) = true) := by rw [Hid, HS.out, hK2.out, t]; rfl
          clear t
          go_wp2_with fail
          refine (L.out _).mono ?_
          rintro e w2 ⟨rfl, rfl⟩
          go_wp2_with fail
          go_round
          case rel => exact ⟨k + 1, by omega, by go_num, HS2⟩
          case measure => simp [intOf]; omega
        | false =>
          rw [t] at L
          have HF := Lib.hid (HNk.out t)
          clear t
          go_wp2_with fail
          refine (L.out _).mono ?_
          rintro e w2 ⟨rfl, rfl⟩
          go_wp2_with fail
          go_ret
          exact ⟨ret_bool HF.out.symm, rfl⟩
      · have : k = xs.length := by omega
        subst this
        have HF : Hid (eqF xs ys = true) := by rw [Hid, HE.out, hK2.out]
        go_wp2_with fail
        go_ret
        exact ⟨ret_bool HF.out.symm, rfl⟩
  · have hb1 : ((xs.length : Int) != (ys.length : Int)) = true := by simp; omega
    have HF : Hid (eqF xs ys = false) := by simp [Hid, eqF, hlen]
    clear h g
    go_enter Try.func44, Try.ntmps44
    go_wp2_with fail
    go_ret
    exact ⟨ret_bool HF.out.symm, rfl⟩
set_option maxRecDepth 10000 in
set_option maxHeartbeats 8000000 in
theorem sameDesk_any (w : World) (R C P T U N : Int) (aA : Option Addr) (cA : Nat) (xA : List Int) (aB : Option Addr) (cB : Nat) (xB : List Int) (aV : Option Addr) (cV : Nat) (xV : List Int) (aW : Option Addr) (cW : Nat) (xW : List Int) (aC : Option Addr) (cC : Nat) (xC : List Int) (aT : Option Addr) (cT : Nat) (xT : List Nat) (R' C' P' T' U' N' : Int) (bA : Option Addr) (dA : Nat) (yA : List Int) (bB : Option Addr) (dB : Nat) (yB : List Int) (bV : Option Addr) (dV : Nat) (yV : List Int) (bW : Option Addr) (dW : Nat) (yW : List Int) (bC : Option Addr) (dC : Nat) (yC : List Int) (bT : Option Addr) (dT : Nat) (yT : List Nat) (h : RdDesk w w.heap.size aA xA aB xB aV xV aW xW aC xC aT xT) (g : RdDesk w w.heap.size bA yA bB yB bV yV bW yW bC yC bT yT) (lA : xA.length ≤ 1048576) (mA : yA.length ≤ 1048576) (lB : xB.length ≤ 1048576) (mB : yB.length ≤ 1048576) (lV : xV.length ≤ 1048576) (mV : yV.length ≤ 1048576) (lW : xW.length ≤ 1048576) (mW : yW.length ≤ 1048576) (lC : xC.length ≤ 1048576) (mC : yC.length ≤ 1048576) (lT : xT.length ≤ 1048576) (mT : yT.length ≤ 1048576) (wfx : ∀ v ∈ xT, v < 4294967296) (wfy : ∀ v ∈ yT, v < 4294967296) :
    Calls Try.prog 14 #[.agg #[.int .i64 R, .int .i64 C, .slice aA xA.length cA, .slice aB xB.length cB, .int .i64 P, .int .i64 T, .slice aV xV.length cV, .int .i64 U, .int .i64 N, .slice aW xW.length cW, .slice aC xC.length cC, .slice aT xT.length cT], .agg #[.int .i64 R', .int .i64 C', .slice bA yA.length dA, .slice bB yB.length dB, .int .i64 P', .int .i64 T', .slice bV yV.length dV, .int .i64 U', .int .i64 N', .slice bW yW.length dW, .slice bC yC.length dC, .slice bT yT.length dT]] w fun e w' => e = .returned (.bool (deskS R C P T U N xA xB xV xW xC xT R' C' P' T' U' N' yA yB yV yW yC yT)) ∧ Below w.heap.size w w' := by
  have B0 := Lib.hid (bl2 w (.cells #[.int .i64 R, .int .i64 C, .slice aA xA.length cA, .slice aB xB.length cB, .int .i64 P, .int .i64 T, .slice aV xV.length cV, .int .i64 U, .int .i64 N, .slice aW xW.length cW, .slice aC xC.length cC, .slice aT xT.length cT] 31) (.cells #[.int .i64 R', .int .i64 C', .slice bA yA.length dA, .slice bB yB.length dB, .int .i64 P', .int .i64 T', .slice bV yV.length dV, .int .i64 U', .int .i64 N', .slice bW yW.length dW, .slice bC yC.length dC, .slice bT yT.length dT] 31))
  obtain ⟨K, J⟩ := desk2 w [.int .i64 R, .int .i64 C, .slice aA xA.length cA, .slice aB xB.length cB, .int .i64 P, .int .i64 T, .slice aV xV.length cV, .int .i64 U, .int .i64 N, .slice aW xW.length cW, .slice aC xC.length cC, .slice aT xT.length cT] [.int .i64 R', .int .i64 C', .slice bA yA.length dA, .slice bB yB.length dB, .int .i64 P', .int .i64 T', .slice bV yV.length dV, .int .i64 U', .int .i64 N', .slice bW yW.length dW, .slice bC yC.length dC, .slice bT yT.length dT] 31
  have K0 := Lib.hid K
  have J0 := Lib.hid J
  clear K J
  have H := Lib.hid (fun (v : World) (hb : Below w.heap.size w v) => h.to hb)
  have G := Lib.hid (fun (v : World) (hb : Below w.heap.size w v) => g.to hb)
  clear h g
  have L1 := Lib.hid (fun v hb => sameGame_any v R C aA cA xA aB cB xB R' C' bA dA yA bB dB yB (H.out v hb).A (G.out v hb).A lA mA (H.out v hb).B (G.out v hb).B lB mB)
  have L2 := Lib.hid (fun v hb => sameValues_any v P T aV cV xV P' T' bV dV yV (H.out v hb).V (G.out v hb).V lV mV)
  have L3 := Lib.hid (fun v hb => sameCrowd_any v U N aW cW xW aC cC xC U' N' bW dW yW bC dC yC (H.out v hb).W (G.out v hb).W lW mW (H.out v hb).C (G.out v hb).C lC mC)
  have L4 := Lib.hid (fun v hb => equalFunc_any v aT bT cT dT xT yT (H.out v hb).T (G.out v hb).T lT mT wfx wfy)
  obtain ⟨z0, z1, z2, z3, z4, z5, z6, z7, z8, z9, z10, z11⟩ := cells12 K0.out
  obtain ⟨y0, y1, y2, y3, y4, y5, y6, y7, y8, y9, y10, y11⟩ := cells12 J0.out
  clear H G
  cases t1 : sameG R C xA xB R' C' yA yB with
  | false =>
    have HF : Hid (deskS R C P T U N xA xB xV xW xC xT R' C' P' T' U' N' yA yB yV yW yC yT = false) := by simp [Hid, deskS, t1]
    rw [t1] at L1
    clear t1
    go_enter Try.func14, Try.ntmps14
    go_wp2_with fail
    refine (L1.out _ B0.out).mono ?_
    rintro e w1 ⟨rfl, hb⟩
    have B1 := Lib.hid (below_then B0.out hb)
    have K1 := Lib.hid (K0.out.same hb)
    have J1 := Lib.hid (J0.out.same hb)
    clear hb
    clear z0 z1 z2 z3 z4 z5 z6 z7 z8 z9 z10 z11 y0 y1 y2 y3 y4 y5 y6 y7 y8 y9 y10 y11
    obtain ⟨z0, z1, z2, z3, z4, z5, z6, z7, z8, z9, z10, z11⟩ := cells12 K1.out
    obtain ⟨y0, y1, y2, y3, y4, y5, y6, y7, y8, y9, y10, y11⟩ := cells12 J1.out
    go_wp2_with fail
    go_ret
    exact ⟨ret_bool HF.out.symm, B1.out⟩
  | true =>
  cases t2 : sameV P T xV P' T' yV with
  | false =>
    have HF : Hid (deskS R C P T U N xA xB xV xW xC xT R' C' P' T' U' N' yA yB yV yW yC yT = false) := by simp [Hid, deskS, t1, t2]
    rw [t1] at L1
    rw [t2] at L2
    clear t1 t2
    go_enter Try.func14, Try.ntmps14
    go_wp2_with fail
    refine (L1.out _ B0.out).mono ?_
    rintro e w1 ⟨rfl, hb⟩
    have B1 := Lib.hid (below_then B0.out hb)
    have K1 := Lib.hid (K0.out.same hb)
    have J1 := Lib.hid (J0.out.same hb)
    clear hb
    clear z0 z1 z2 z3 z4 z5 z6 z7 z8 z9 z10 z11 y0 y1 y2 y3 y4 y5 y6 y7 y8 y9 y10 y11
    obtain ⟨z0, z1, z2, z3, z4, z5, z6, z7, z8, z9, z10, z11⟩ := cells12 K1.out
    obtain ⟨y0, y1, y2, y3, y4, y5, y6, y7, y8, y9, y10, y11⟩ := cells12 J1.out
    go_wp2_with fail
    refine (L2.out _ B1.out).mono ?_
    rintro e w2 ⟨rfl, hb⟩
    have B2 := Lib.hid (below_then B1.out hb)
    have K2 := Lib.hid (K1.out.same hb)
    have J2 := Lib.hid (J1.out.same hb)
    clear hb
    clear z0 z1 z2 z3 z4 z5 z6 z7 z8 z9 z10 z11 y0 y1 y2 y3 y4 y5 y6 y7 y8 y9 y10 y11
    obtain ⟨z0, z1, z2, z3, z4, z5, z6, z7, z8, z9, z10, z11⟩ := cells12 K2.out
    obtain ⟨y0, y1, y2, y3, y4, y5, y6, y7, y8, y9, y10, y11⟩ := cells12 J2.out
    go_wp2_with fail
    go_ret
    exact ⟨ret_bool HF.out.symm, B2.out⟩
  | true =>
  cases t3 : sameG U N xW xC U' N' yW yC with
  | false =>
    have HF : Hid (deskS R C P T U N xA xB xV xW xC xT R' C' P' T' U' N' yA yB yV yW yC yT = false) := by simp [Hid, deskS, t1, t2, t3]
    rw [t1] at L1
    rw [t2] at L2
    rw [t3] at L3
    clear t1 t2 t3
    go_enter Try.func14, Try.ntmps14
    go_wp2_with fail
    refine (L1.out _ B0.out).mono ?_
    rintro e w1 ⟨rfl, hb⟩
    have B1 := Lib.hid (below_then B0.out hb)
    have K1 := Lib.hid (K0.out.same hb)
    have J1 := Lib.hid (J0.out.same hb)
    clear hb
    clear z0 z1 z2 z3 z4 z5 z6 z7 z8 z9 z10 z11 y0 y1 y2 y3 y4 y5 y6 y7 y8 y9 y10 y11
    obtain ⟨z0, z1, z2, z3, z4, z5, z6, z7, z8, z9, z10, z11⟩ := cells12 K1.out
    obtain ⟨y0, y1, y2, y3, y4, y5, y6, y7, y8, y9, y10, y11⟩ := cells12 J1.out
    go_wp2_with fail
    refine (L2.out _ B1.out).mono ?_
    rintro e w2 ⟨rfl, hb⟩
    have B2 := Lib.hid (below_then B1.out hb)
    have K2 := Lib.hid (K1.out.same hb)
    have J2 := Lib.hid (J1.out.same hb)
    clear hb
    clear z0 z1 z2 z3 z4 z5 z6 z7 z8 z9 z10 z11 y0 y1 y2 y3 y4 y5 y6 y7 y8 y9 y10 y11
    obtain ⟨z0, z1, z2, z3, z4, z5, z6, z7, z8, z9, z10, z11⟩ := cells12 K2.out
    obtain ⟨y0, y1, y2, y3, y4, y5, y6, y7, y8, y9, y10, y11⟩ := cells12 J2.out
    go_wp2_with fail
    refine (L3.out _ B2.out).mono ?_
    rintro e w3 ⟨rfl, hb⟩
    have B3 := Lib.hid (below_then B2.out hb)
    have K3 := Lib.hid (K2.out.same hb)
    have J3 := Lib.hid (J2.out.same hb)
    clear hb
    clear z0 z1 z2 z3 z4 z5 z6 z7 z8 z9 z10 z11 y0 y1 y2 y3 y4 y5 y6 y7 y8 y9 y10 y11
    obtain ⟨z0, z1, z2, z3, z4, z5, z6, z7, z8, z9, z10, z11⟩ := cells12 K3.out
    obtain ⟨y0, y1, y2, y3, y4, y5, y6, y7, y8, y9, y10, y11⟩ := cells12 J3.out
    go_wp2_with fail
    go_ret
    exact ⟨ret_bool HF.out.symm, B3.out⟩
  | true =>
  have HF : Hid (deskS R C P T U N xA xB xV xW xC xT R' C' P' T' U' N' yA yB yV yW yC yT = eqF xT yT) := by simp [Hid, deskS, t1, t2, t3]
  rw [t1] at L1
  rw [t2] at L2
  rw [t3] at L3
  clear t1 t2 t3
  go_enter Try.func14, Try.ntmps14
  go_wp2_with fail
  refine (L1.out _ B0.out).mono ?_
  rintro e w1 ⟨rfl, hb⟩
  have B1 := Lib.hid (below_then B0.out hb)
  have K1 := Lib.hid (K0.out.same hb)
  have J1 := Lib.hid (J0.out.same hb)
  clear hb
  clear z0 z1 z2 z3 z4 z5 z6 z7 z8 z9 z10 z11 y0 y1 y2 y3 y4 y5 y6 y7 y8 y9 y10 y11
  obtain ⟨z0, z1, z2, z3, z4, z5, z6, z7, z8, z9, z10, z11⟩ := cells12 K1.out
  obtain ⟨y0, y1, y2, y3, y4, y5, y6, y7, y8, y9, y10, y11⟩ := cells12 J1.out
  go_wp2_with fail
  refine (L2.out _ B1.out).mono ?_
  rintro e w2 ⟨rfl, hb⟩
  have B2 := Lib.hid (below_then B1.out hb)
  have K2 := Lib.hid (K1.out.same hb)
  have J2 := Lib.hid (J1.out.same hb)
  clear hb
  clear z0 z1 z2 z3 z4 z5 z6 z7 z8 z9 z10 z11 y0 y1 y2 y3 y4 y5 y6 y7 y8 y9 y10 y11
  obtain ⟨z0, z1, z2, z3, z4, z5, z6, z7, z8, z9, z10, z11⟩ := cells12 K2.out
  obtain ⟨y0, y1, y2, y3, y4, y5, y6, y7, y8, y9, y10, y11⟩ := cells12 J2.out
  go_wp2_with fail
  refine (L3.out _ B2.out).mono ?_
  rintro e w3 ⟨rfl, hb⟩
  have B3 := Lib.hid (below_then B2.out hb)
  have K3 := Lib.hid (K2.out.same hb)
  have J3 := Lib.hid (J2.out.same hb)
  clear hb
  clear z0 z1 z2 z3 z4 z5 z6 z7 z8 z9 z10 z11 y0 y1 y2 y3 y4 y5 y6 y7 y8 y9 y10 y11
  obtain ⟨z0, z1, z2, z3, z4, z5, z6, z7, z8, z9, z10, z11⟩ := cells12 K3.out
  obtain ⟨y0, y1, y2, y3, y4, y5, y6, y7, y8, y9, y10, y11⟩ := cells12 J3.out
  go_wp2_with fail
  refine (L4.out _ B3.out).mono ?_
  rintro e w4 ⟨rfl, rfl⟩
  have B4 := Lib.hid B3.out
  go_wp2_with fail
  go_ret
  exact ⟨ret_bool HF.out.symm, B4.out⟩
set_option maxRecDepth 10000 in
set_option maxHeartbeats 8000000 in
theorem sameDeskR_any (w : World) (R C P T U N : Int) (aA : Option Addr) (cA : Nat) (xA : List Int) (aB : Option Addr) (cB : Nat) (xB : List Int) (aV : Option Addr) (cV : Nat) (xV : List Int) (aW : Option Addr) (cW : Nat) (xW : List Int) (aC : Option Addr) (cC : Nat) (xC : List Int) (aT : Option Addr) (cT : Nat) (xT : List Nat) (R' C' P' T' U' N' : Int) (bA : Option Addr) (dA : Nat) (yA : List Int) (bB : Option Addr) (dB : Nat) (yB : List Int) (bV : Option Addr) (dV : Nat) (yV : List Int) (bW : Option Addr) (dW : Nat) (yW : List Int) (bC : Option Addr) (dC : Nat) (yC : List Int) (bT : Option Addr) (dT : Nat) (yT : List Nat) (h : RdDesk w w.heap.size aA xA aB xB aV xV aW xW aC xC aT xT) (g : RdDesk w w.heap.size bA yA bB yB bV yV bW yW bC yC bT yT) (lA : xA.length ≤ 1048576) (mA : yA.length ≤ 1048576) (lB : xB.length ≤ 1048576) (mB : yB.length ≤ 1048576) (lV : xV.length ≤ 1048576) (mV : yV.length ≤ 1048576) (lW : xW.length ≤ 1048576) (mW : yW.length ≤ 1048576) (lC : xC.length ≤ 1048576) (mC : yC.length ≤ 1048576) (lT : xT.length ≤ 1048576) (mT : yT.length ≤ 1048576) (wfx : ∀ v ∈ xT, v < 4294967296) (wfy : ∀ v ∈ yT, v < 4294967296) :
    Calls Try.prog 12 #[.agg #[.int .i64 R, .int .i64 C, .slice aA xA.length cA, .slice aB xB.length cB, .int .i64 P, .int .i64 T, .slice aV xV.length cV, .int .i64 U, .int .i64 N, .slice aW xW.length cW, .slice aC xC.length cC, .slice aT xT.length cT], .agg #[.int .i64 R', .int .i64 C', .slice bA yA.length dA, .slice bB yB.length dB, .int .i64 P', .int .i64 T', .slice bV yV.length dV, .int .i64 U', .int .i64 N', .slice bW yW.length dW, .slice bC yC.length dC, .slice bT yT.length dT]] w fun e w' => e = .returned (.bool (deskS R C P T U N xA xB xV xW xC xT R' C' P' T' U' N' yA yB yV yW yC yT)) ∧ Below w.heap.size w w' := by
  have B0 := Lib.hid (bl2 w (.cells #[.int .i64 R, .int .i64 C, .slice aA xA.length cA, .slice aB xB.length cB, .int .i64 P, .int .i64 T, .slice aV xV.length cV, .int .i64 U, .int .i64 N, .slice aW xW.length cW, .slice aC xC.length cC, .slice aT xT.length cT] 31) (.cells #[.int .i64 R', .int .i64 C', .slice bA yA.length dA, .slice bB yB.length dB, .int .i64 P', .int .i64 T', .slice bV yV.length dV, .int .i64 U', .int .i64 N', .slice bW yW.length dW, .slice bC yC.length dC, .slice bT yT.length dT] 31))
  obtain ⟨K, J⟩ := desk2 w [.int .i64 R, .int .i64 C, .slice aA xA.length cA, .slice aB xB.length cB, .int .i64 P, .int .i64 T, .slice aV xV.length cV, .int .i64 U, .int .i64 N, .slice aW xW.length cW, .slice aC xC.length cC, .slice aT xT.length cT] [.int .i64 R', .int .i64 C', .slice bA yA.length dA, .slice bB yB.length dB, .int .i64 P', .int .i64 T', .slice bV yV.length dV, .int .i64 U', .int .i64 N', .slice bW yW.length dW, .slice bC yC.length dC, .slice bT yT.length dT] 31
  have K0 := Lib.hid K
  have J0 := Lib.hid J
  clear K J
  have H := Lib.hid (fun (v : World) (hb : Below w.heap.size w v) => h.to hb)
  have G := Lib.hid (fun (v : World) (hb : Below w.heap.size w v) => g.to hb)
  clear h g
  have L1 := Lib.hid (fun (v : World) (hb : Below w.heap.size w v) (k : Blk v w.heap.size [.int .i64 R, .int .i64 C, .slice aA xA.length cA, .slice aB xB.length cB, .int .i64 P, .int .i64 T, .slice aV xV.length cV, .int .i64 U, .int .i64 N, .slice aW xW.length cW, .slice aC xC.length cC, .slice aT xT.length cT] 31) (j : Blk v (w.heap.size + 1) [.int .i64 R', .int .i64 C', .slice bA yA.length dA, .slice bB yB.length dB, .int .i64 P', .int .i64 T', .slice bV yV.length dV, .int .i64 U', .int .i64 N', .slice bW yW.length dW, .slice bC yC.length dC, .slice bT yT.length dT] 31) => l02Same_any v w.heap.size 0 (w.heap.size + 1) 0 R C aA cA xA aB cB xB R' C' bA dA yA bB dB yB (k.cell 0) (j.cell 0) (k.cell 1) (j.cell 1) (k.cell 2) (j.cell 2) (k.cell 3) (j.cell 3) (H.out v hb).A (G.out v hb).A lA mA (H.out v hb).B (G.out v hb).B lB mB)
  have L2 := Lib.hid (fun (v : World) (hb : Below w.heap.size w v) (k : Blk v w.heap.size [.int .i64 R, .int .i64 C, .slice aA xA.length cA, .slice aB xB.length cB, .int .i64 P, .int .i64 T, .slice aV xV.length cV, .int .i64 U, .int .i64 N, .slice aW xW.length cW, .slice aC xC.length cC, .slice aT xT.length cT] 31) (j : Blk v (w.heap.size + 1) [.int .i64 R', .int .i64 C', .slice bA yA.length dA, .slice bB yB.length dB, .int .i64 P', .int .i64 T', .slice bV yV.length dV, .int .i64 U', .int .i64 N', .slice bW yW.length dW, .slice bC yC.length dC, .slice bT yT.length dT] 31) => l04Same_any v w.heap.size 4 (w.heap.size + 1) 4 P T aV cV xV P' T' bV dV yV (k.cell 4) (j.cell 4) (k.cell 5) (j.cell 5) (k.cell 6) (j.cell 6) (H.out v hb).V (G.out v hb).V lV mV)
  have L3 := Lib.hid (fun v hb => sameCrowdR_any v U N aW cW xW aC cC xC U' N' bW dW yW bC dC yC (H.out v hb).W (G.out v hb).W lW mW (H.out v hb).C (G.out v hb).C lC mC)
  have L4 := Lib.hid (fun v hb => l01SameAll_any v aT bT cT dT xT yT (H.out v hb).T (G.out v hb).T lT mT wfx wfy)
  obtain ⟨z0, z1, z2, z3, z4, z5, z6, z7, z8, z9, z10, z11⟩ := cells12 K0.out
  obtain ⟨y0, y1, y2, y3, y4, y5, y6, y7, y8, y9, y10, y11⟩ := cells12 J0.out
  clear H G
  cases t1 : sameG R C xA xB R' C' yA yB with
  | false =>
    have HF : Hid (deskS R C P T U N xA xB xV xW xC xT R' C' P' T' U' N' yA yB yV yW yC yT = false) := by simp [Hid, deskS, t1]
    rw [t1] at L1
    clear t1
    go_enter Try.func12, Try.ntmps12
    go_wp2_with fail
    refine (L1.out _ B0.out K0.out J0.out).mono ?_
    rintro e w1 ⟨rfl, n1, hn⟩
    have B1 := Lib.hid (show Below w.heap.size w w1 by rw [hn]; exact below_drewN B0.out n1)
    have K1 : Hid (Blk w1 w.heap.size [.int .i64 R, .int .i64 C, .slice aA xA.length cA, .slice aB xB.length cB, .int .i64 P, .int .i64 T, .slice aV xV.length cV, .int .i64 U, .int .i64 N, .slice aW xW.length cW, .slice aC xC.length cC, .slice aT xT.length cT] 31) := by rw [Hid, hn]; exact K0.out.drewN n1
    have J1 : Hid (Blk w1 (w.heap.size + 1) [.int .i64 R', .int .i64 C', .slice bA yA.length dA, .slice bB yB.length dB, .int .i64 P', .int .i64 T', .slice bV yV.length dV, .int .i64 U', .int .i64 N', .slice bW yW.length dW, .slice bC yC.length dC, .slice bT yT.length dT] 31) := by rw [Hid, hn]; exact J0.out.drewN n1
    clear hn
    clear z0 z1 z2 z3 z4 z5 z6 z7 z8 z9 z10 z11 y0 y1 y2 y3 y4 y5 y6 y7 y8 y9 y10 y11
    obtain ⟨z0, z1, z2, z3, z4, z5, z6, z7, z8, z9, z10, z11⟩ := cells12 K1.out
    obtain ⟨y0, y1, y2, y3, y4, y5, y6, y7, y8, y9, y10, y11⟩ := cells12 J1.out
    go_wp2_with fail
    go_ret
    exact ⟨ret_bool HF.out.symm, B1.out⟩
  | true =>
  cases t2 : sameV P T xV P' T' yV with
  | false =>
    have HF : Hid (deskS R C P T U N xA xB xV xW xC xT R' C' P' T' U' N' yA yB yV yW yC yT = false) := by simp [Hid, deskS, t1, t2]
    rw [t1] at L1
    rw [t2] at L2
    clear t1 t2
    go_enter Try.func12, Try.ntmps12
    go_wp2_with fail
    refine (L1.out _ B0.out K0.out J0.out).mono ?_
    rintro e w1 ⟨rfl, n1, hn⟩
    have B1 := Lib.hid (show Below w.heap.size w w1 by rw [hn]; exact below_drewN B0.out n1)
    have K1 : Hid (Blk w1 w.heap.size [.int .i64 R, .int .i64 C, .slice aA xA.length cA, .slice aB xB.length cB, .int .i64 P, .int .i64 T, .slice aV xV.length cV, .int .i64 U, .int .i64 N, .slice aW xW.length cW, .slice aC xC.length cC, .slice aT xT.length cT] 31) := by rw [Hid, hn]; exact K0.out.drewN n1
    have J1 : Hid (Blk w1 (w.heap.size + 1) [.int .i64 R', .int .i64 C', .slice bA yA.length dA, .slice bB yB.length dB, .int .i64 P', .int .i64 T', .slice bV yV.length dV, .int .i64 U', .int .i64 N', .slice bW yW.length dW, .slice bC yC.length dC, .slice bT yT.length dT] 31) := by rw [Hid, hn]; exact J0.out.drewN n1
    clear hn
    clear z0 z1 z2 z3 z4 z5 z6 z7 z8 z9 z10 z11 y0 y1 y2 y3 y4 y5 y6 y7 y8 y9 y10 y11
    obtain ⟨z0, z1, z2, z3, z4, z5, z6, z7, z8, z9, z10, z11⟩ := cells12 K1.out
    obtain ⟨y0, y1, y2, y3, y4, y5, y6, y7, y8, y9, y10, y11⟩ := cells12 J1.out
    go_wp2_with fail
    refine (L2.out _ B1.out K1.out J1.out).mono ?_
    rintro e w2 ⟨rfl, n2, hn⟩
    have B2 := Lib.hid (show Below w.heap.size w w2 by rw [hn]; exact below_drewN B1.out n2)
    have K2 : Hid (Blk w2 w.heap.size [.int .i64 R, .int .i64 C, .slice aA xA.length cA, .slice aB xB.length cB, .int .i64 P, .int .i64 T, .slice aV xV.length cV, .int .i64 U, .int .i64 N, .slice aW xW.length cW, .slice aC xC.length cC, .slice aT xT.length cT] 31) := by rw [Hid, hn]; exact K1.out.drewN n2
    have J2 : Hid (Blk w2 (w.heap.size + 1) [.int .i64 R', .int .i64 C', .slice bA yA.length dA, .slice bB yB.length dB, .int .i64 P', .int .i64 T', .slice bV yV.length dV, .int .i64 U', .int .i64 N', .slice bW yW.length dW, .slice bC yC.length dC, .slice bT yT.length dT] 31) := by rw [Hid, hn]; exact J1.out.drewN n2
    clear hn
    clear z0 z1 z2 z3 z4 z5 z6 z7 z8 z9 z10 z11 y0 y1 y2 y3 y4 y5 y6 y7 y8 y9 y10 y11
    obtain ⟨z0, z1, z2, z3, z4, z5, z6, z7, z8, z9, z10, z11⟩ := cells12 K2.out
    obtain ⟨y0, y1, y2, y3, y4, y5, y6, y7, y8, y9, y10, y11⟩ := cells12 J2.out
    go_wp2_with fail
    go_ret
    exact ⟨ret_bool HF.out.symm, B2.out⟩
  | true =>
  cases t3 : sameG U N xW xC U' N' yW yC with
  | false =>
    have HF : Hid (deskS R C P T U N xA xB xV xW xC xT R' C' P' T' U' N' yA yB yV yW yC yT = false) := by simp [Hid, deskS, t1, t2, t3]
    rw [t1] at L1
    rw [t2] at L2
    rw [t3] at L3
    clear t1 t2 t3
    go_enter Try.func12, Try.ntmps12
    go_wp2_with fail
    refine (L1.out _ B0.out K0.out J0.out).mono ?_
    rintro e w1 ⟨rfl, n1, hn⟩
    have B1 := Lib.hid (show Below w.heap.size w w1 by rw [hn]; exact below_drewN B0.out n1)
    have K1 : Hid (Blk w1 w.heap.size [.int .i64 R, .int .i64 C, .slice aA xA.length cA, .slice aB xB.length cB, .int .i64 P, .int .i64 T, .slice aV xV.length cV, .int .i64 U, .int .i64 N, .slice aW xW.length cW, .slice aC xC.length cC, .slice aT xT.length cT] 31) := by rw [Hid, hn]; exact K0.out.drewN n1
    have J1 : Hid (Blk w1 (w.heap.size + 1) [.int .i64 R', .int .i64 C', .slice bA yA.length dA, .slice bB yB.length dB, .int .i64 P', .int .i64 T', .slice bV yV.length dV, .int .i64 U', .int .i64 N', .slice bW yW.length dW, .slice bC yC.length dC, .slice bT yT.length dT] 31) := by rw [Hid, hn]; exact J0.out.drewN n1
    clear hn
    clear z0 z1 z2 z3 z4 z5 z6 z7 z8 z9 z10 z11 y0 y1 y2 y3 y4 y5 y6 y7 y8 y9 y10 y11
    obtain ⟨z0, z1, z2, z3, z4, z5, z6, z7, z8, z9, z10, z11⟩ := cells12 K1.out
    obtain ⟨y0, y1, y2, y3, y4, y5, y6, y7, y8, y9, y10, y11⟩ := cells12 J1.out
    go_wp2_with fail
    refine (L2.out _ B1.out K1.out J1.out).mono ?_
    rintro e w2 ⟨rfl, n2, hn⟩
    have B2 := Lib.hid (show Below w.heap.size w w2 by rw [hn]; exact below_drewN B1.out n2)
    have K2 : Hid (Blk w2 w.heap.size [.int .i64 R, .int .i64 C, .slice aA xA.length cA, .slice aB xB.length cB, .int .i64 P, .int .i64 T, .slice aV xV.length cV, .int .i64 U, .int .i64 N, .slice aW xW.length cW, .slice aC xC.length cC, .slice aT xT.length cT] 31) := by rw [Hid, hn]; exact K1.out.drewN n2
    have J2 : Hid (Blk w2 (w.heap.size + 1) [.int .i64 R', .int .i64 C', .slice bA yA.length dA, .slice bB yB.length dB, .int .i64 P', .int .i64 T', .slice bV yV.length dV, .int .i64 U', .int .i64 N', .slice bW yW.length dW, .slice bC yC.length dC, .slice bT yT.length dT] 31) := by rw [Hid, hn]; exact J1.out.drewN n2
    clear hn
    clear z0 z1 z2 z3 z4 z5 z6 z7 z8 z9 z10 z11 y0 y1 y2 y3 y4 y5 y6 y7 y8 y9 y10 y11
    obtain ⟨z0, z1, z2, z3, z4, z5, z6, z7, z8, z9, z10, z11⟩ := cells12 K2.out
    obtain ⟨y0, y1, y2, y3, y4, y5, y6, y7, y8, y9, y10, y11⟩ := cells12 J2.out
    go_wp2_with fail
    refine (L3.out _ B2.out).mono ?_
    rintro e w3 ⟨rfl, hb⟩
    have B3 := Lib.hid (below_then B2.out hb)
    have K3 := Lib.hid (K2.out.same hb)
    have J3 := Lib.hid (J2.out.same hb)
    clear hb
    clear z0 z1 z2 z3 z4 z5 z6 z7 z8 z9 z10 z11 y0 y1 y2 y3 y4 y5 y6 y7 y8 y9 y10 y11
    obtain ⟨z0, z1, z2, z3, z4, z5, z6, z7, z8, z9, z10, z11⟩ := cells12 K3.out
    obtain ⟨y0, y1, y2, y3, y4, y5, y6, y7, y8, y9, y10, y11⟩ := cells12 J3.out
    go_wp2_with fail
    go_ret
    exact ⟨ret_bool HF.out.symm, B3.out⟩
  | true =>
  have HF : Hid (deskS R C P T U N xA xB xV xW xC xT R' C' P' T' U' N' yA yB yV yW yC yT = eqF xT yT) := by simp [Hid, deskS, t1, t2, t3]
  rw [t1] at L1
  rw [t2] at L2
  rw [t3] at L3
  clear t1 t2 t3
  go_enter Try.func12, Try.ntmps12
  go_wp2_with fail
  refine (L1.out _ B0.out K0.out J0.out).mono ?_
  rintro e w1 ⟨rfl, n1, hn⟩
  have B1 := Lib.hid (show Below w.heap.size w w1 by rw [hn]; exact below_drewN B0.out n1)
  have K1 : Hid (Blk w1 w.heap.size [.int .i64 R, .int .i64 C, .slice aA xA.length cA, .slice aB xB.length cB, .int .i64 P, .int .i64 T, .slice aV xV.length cV, .int .i64 U, .int .i64 N, .slice aW xW.length cW, .slice aC xC.length cC, .slice aT xT.length cT] 31) := by rw [Hid, hn]; exact K0.out.drewN n1
  have J1 : Hid (Blk w1 (w.heap.size + 1) [.int .i64 R', .int .i64 C', .slice bA yA.length dA, .slice bB yB.length dB, .int .i64 P', .int .i64 T', .slice bV yV.length dV, .int .i64 U', .int .i64 N', .slice bW yW.length dW, .slice bC yC.length dC, .slice bT yT.length dT] 31) := by rw [Hid, hn]; exact J0.out.drewN n1
  clear hn
  clear z0 z1 z2 z3 z4 z5 z6 z7 z8 z9 z10 z11 y0 y1 y2 y3 y4 y5 y6 y7 y8 y9 y10 y11
  obtain ⟨z0, z1, z2, z3, z4, z5, z6, z7, z8, z9, z10, z11⟩ := cells12 K1.out
  obtain ⟨y0, y1, y2, y3, y4, y5, y6, y7, y8, y9, y10, y11⟩ := cells12 J1.out
  go_wp2_with fail
  refine (L2.out _ B1.out K1.out J1.out).mono ?_
  rintro e w2 ⟨rfl, n2, hn⟩
  have B2 := Lib.hid (show Below w.heap.size w w2 by rw [hn]; exact below_drewN B1.out n2)
  have K2 : Hid (Blk w2 w.heap.size [.int .i64 R, .int .i64 C, .slice aA xA.length cA, .slice aB xB.length cB, .int .i64 P, .int .i64 T, .slice aV xV.length cV, .int .i64 U, .int .i64 N, .slice aW xW.length cW, .slice aC xC.length cC, .slice aT xT.length cT] 31) := by rw [Hid, hn]; exact K1.out.drewN n2
  have J2 : Hid (Blk w2 (w.heap.size + 1) [.int .i64 R', .int .i64 C', .slice bA yA.length dA, .slice bB yB.length dB, .int .i64 P', .int .i64 T', .slice bV yV.length dV, .int .i64 U', .int .i64 N', .slice bW yW.length dW, .slice bC yC.length dC, .slice bT yT.length dT] 31) := by rw [Hid, hn]; exact J1.out.drewN n2
  clear hn
  clear z0 z1 z2 z3 z4 z5 z6 z7 z8 z9 z10 z11 y0 y1 y2 y3 y4 y5 y6 y7 y8 y9 y10 y11
  obtain ⟨z0, z1, z2, z3, z4, z5, z6, z7, z8, z9, z10, z11⟩ := cells12 K2.out
  obtain ⟨y0, y1, y2, y3, y4, y5, y6, y7, y8, y9, y10, y11⟩ := cells12 J2.out
  go_wp2_with fail
  refine (L3.out _ B2.out).mono ?_
  rintro e w3 ⟨rfl, hb⟩
  have B3 := Lib.hid (below_then B2.out hb)
  have K3 := Lib.hid (K2.out.same hb)
  have J3 := Lib.hid (J2.out.same hb)
  clear hb
  clear z0 z1 z2 z3 z4 z5 z6 z7 z8 z9 z10 z11 y0 y1 y2 y3 y4 y5 y6 y7 y8 y9 y10 y11
  obtain ⟨z0, z1, z2, z3, z4, z5, z6, z7, z8, z9, z10, z11⟩ := cells12 K3.out
  obtain ⟨y0, y1, y2, y3, y4, y5, y6, y7, y8, y9, y10, y11⟩ := cells12 J3.out
  go_wp2_with fail
  refine (L4.out _ B3.out).mono ?_
  rintro e w4 ⟨rfl, n4, hn⟩
  have B4 := Lib.hid (show Below w.heap.size w w4 by rw [hn]; exact below_drewN B3.out n4)
  clear hn
  go_wp2_with fail
  go_ret
  exact ⟨ret_bool HF.out.symm, B4.out⟩
end Go.Proofs.Ytdmeegfdmdbkiaa
