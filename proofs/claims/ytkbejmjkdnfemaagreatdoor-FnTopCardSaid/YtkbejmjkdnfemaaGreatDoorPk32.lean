/-
  Part 32 of what the proof stands on: lemmas and contracts, each with its conditions ahead of the colon.
-/
import Derived.Test.YtkbejmjkdnfemaaGreatDoorPk05
import Derived.Test.YtkbejmjkdnfemaaGreatDoorPk12
import Derived.Test.YtkbejmjkdnfemaaGreatDoorPk23
import Derived.Test.YtkbejmjkdnfemaaGreatDoorPk30
import Derived.Test.YtkbejmjkdnfemaaGreatDoorPk31
namespace Go.Proofs.YtkbejmjkdnfemaaGreatDoor
set_option linter.unusedVariables false
set_option linter.unusedSimpArgs false
open Go.RowKit

end Go.Proofs.YtkbejmjkdnfemaaGreatDoor
namespace Go.Proofs.YtkbejmjkdnfemaaGreatDoor
set_option linter.unusedVariables false
set_option linter.unusedSimpArgs false
open Go.RowKit

theorem desk2 (w : World) (u v : List Value) (t : TypeId) : Blk ((w.alloc (.cells u.toArray t)).alloc (.cells v.toArray t)) w.heap.size u t ∧ Blk ((w.alloc (.cells u.toArray t)).alloc (.cells v.toArray t)) (w.heap.size + 1) v t := by
  refine ⟨(Blk.new w u t).alloc _, ?_⟩
  have := Blk.new (w.alloc (.cells u.toArray t)) v t
  simpa using this
end Go.Proofs.YtkbejmjkdnfemaaGreatDoor
namespace Go.Proofs.YtkbejmjkdnfemaaGreatDoor
set_option linter.unusedVariables false
set_option linter.unusedSimpArgs false
open Go.RowKit

def sameK (xs ys : List Nat) (k : Nat) : Bool := (List.range k).all fun i => sameN (xs.getD i 0) (ys.getD i 0)
theorem sameK_succ (xs ys : List Nat) (k : Nat) : sameK xs ys (k + 1) = (sameK xs ys k && sameN (xs.getD k 0) (ys.getD k 0)) := by simp [sameK, List.range_succ]
def eqF (xs ys : List Nat) : Bool := decide (xs.length = ys.length) && sameK xs ys xs.length
theorem eqF_no {xs ys : List Nat} {k : Nat} (hk : k < xs.length) (h : sameN (xs.getD k 0) (ys.getD k 0) = false) : eqF xs ys = false := by
  have : sameK xs ys xs.length = false := by
    unfold sameK
    rw [List.all_eq_false]
    exact ⟨k, List.mem_range.2 hk, by rw [h]; simp⟩
  simp [eqF, this]
def deskS (R C P T U N : Int) (xA xB xV xW xC : List Int) (xT : List Nat) (R' C' P' T' U' N' : Int) (yA yB yV yW yC : List Int) (yT : List Nat) : Bool :=
  sameG R C xA xB R' C' yA yB && sameV P T xV P' T' yV && sameG U N xW xC U' N' yW yC && eqF xT yT
theorem wf_get {xs : List Nat} (h : ∀ v ∈ xs, v < 4294967296) {k : Nat} (hk : k < xs.length) : xs.getD k 0 < 4294967296 := h _ (by simp only [List.getD, List.getElem?_eq_getElem hk]; exact List.getElem_mem _)
theorem enter_sameN (args : Array Value) (w : World) : (callFunc 89 args).run Tryz.prog w = .ok (.enter 89 args) w := by kernel_rfl
set_option maxHeartbeats 4000000 in
theorem equalFunc_any (w : World) (a b : Option Addr) (c d : Nat) (xs ys : List Nat) (h : Rd w w.heap.size a (flts xs)) (g : Rd w w.heap.size b (flts ys)) (lx : xs.length ≤ 1048576) (ly : ys.length ≤ 1048576) (wx : ∀ v ∈ xs, v < 4294967296) (wy : ∀ v ∈ ys, v < 4294967296) :
    Calls Tryz.prog 88 #[.slice a xs.length c, .slice b ys.length d, .func (.func 89) #[] #[]] w fun e w' => e = .returned (.bool (eqF xs ys)) ∧ w = w' := by
  have hK := enter_sameN
  by_cases hlen : xs.length = ys.length
  · have hb1 : ((xs.length : Int) != (ys.length : Int)) = false := by simp [hlen]
    have HE : Hid (eqF xs ys = sameK xs ys xs.length) := by simp [Hid, eqF, hlen]
    have HN : Hid (∀ k, k < xs.length → sameN (xs.getD k 0) (ys.getD k 0) = false → eqF xs ys = false) := fun k hk => eqF_no hk
    have HL := Lib.hid hlen
    have HX := Lib.hid h
    have HY := Lib.hid g
    have WX := Lib.hid wx
    have WY := Lib.hid wy
    clear h g wx wy hlen
    go_enter Tryz.func88, Tryz.ntmps88
    go_wp2_with fail
    go_loop [17] (fun i => ∃ k : Nat, k ≤ xs.length ∧ i = .int .i64 k ∧ Hid (sameK xs ys k = true)) (fun i => xs.length - (intOf i).toNat)
    case atStart => exact ⟨0, Nat.zero_le _, rfl, rfl⟩
    case round =>
      obtain ⟨k, hk, rfl, hK2⟩ := hrel
      by_cases hlt : k < xs.length
      · have hlt2 : k < ys.length := by have := HL.out; omega
        obtain ⟨b1, o1, rfl, _, hc1⟩ := HX.out.atF hlt
        obtain ⟨b2, o2, rfl, _, hc2⟩ := HY.out.atF hlt2
        have c1 := hc1 k hlt
        have c2 := hc2 k hlt2
        have L := Lib.hid (fun v => sameNumber_any (xs.getD k 0) (ys.getD k 0) (wf_get WX.out hlt) (wf_get WY.out hlt2) v)
        have HS : Hid (sameK xs ys (k + 1) = (sameK xs ys k && sameN (xs.getD k 0) (ys.getD k 0))) := sameK_succ xs ys k
        have HNk := Lib.hid (HN.out k hlt)
        clear hc1 hc2 HX HY
        generalize xs.getD k 0 = x at *
        generalize ys.getD k 0 = y at *
        cases t : sameN x y with
        | true =>
          rw [t] at L
          have HS2 : Hid (sameK xs ys (k + 1) = true) := by rw [Hid, HS.out, hK2.out, t]; rfl
          clear t
          go_wp2_with fail
          refine (L.out _).mono ?_
          rintro e w2 ⟨rfl, rfl⟩
          go_wp2_with fail
          go_round
          case rel => exact ⟨k + 1, by omega, by go_num, HS2⟩
          case measure => simp [intOf]; omega
        | false =>
          rw [t] at L
          have HF := Lib.hid (HNk.out t)
          clear t
          go_wp2_with fail
          refine (L.out _).mono ?_
          rintro e w2 ⟨rfl, rfl⟩
          go_wp2_with fail
          go_ret
          exact ⟨ret_bool HF.out.symm, rfl⟩
      · have : k = xs.length := by omega
        subst this
        have HF : Hid (eqF xs ys = true) := by rw [Hid, HE.out, hK2.out]
        go_wp2_with fail
        go_ret
        exact ⟨ret_bool HF.out.symm, rfl⟩
  · have hb1 : ((xs.length : Int) != (ys.length : Int)) = true := by simp; omega
    have HF : Hid (eqF xs ys = false) := by simp [Hid, eqF, hlen]
    clear h g
    go_enter Tryz.func88, Tryz.ntmps88
    go_wp2_with fail
    go_ret
    exact ⟨ret_bool HF.out.symm, rfl⟩
set_option maxRecDepth 10000 in
set_option maxHeartbeats 8000000 in
theorem sameDesk_any (w : World) (R C P T U N : Int) (aA : Option Addr) (cA : Nat) (xA : List Int) (aB : Option Addr) (cB : Nat) (xB : List Int) (aV : Option Addr) (cV : Nat) (xV : List Int) (aW : Option Addr) (cW : Nat) (xW : List Int) (aC : Option Addr) (cC : Nat) (xC : List Int) (aT : Option Addr) (cT : Nat) (xT : List Nat) (R' C' P' T' U' N' : Int) (bA : Option Addr) (dA : Nat) (yA : List Int) (bB : Option Addr) (dB : Nat) (yB : List Int) (bV : Option Addr) (dV : Nat) (yV : List Int) (bW : Option Addr) (dW : Nat) (yW : List Int) (bC : Option Addr) (dC : Nat) (yC : List Int) (bT : Option Addr) (dT : Nat) (yT : List Nat) (h : RdDesk w w.heap.size aA xA aB xB aV xV aW xW aC xC aT xT) (g : RdDesk w w.heap.size bA yA bB yB bV yV bW yW bC yC bT yT) (lA : xA.length ≤ 1048576) (mA : yA.length ≤ 1048576) (lB : xB.length ≤ 1048576) (mB : yB.length ≤ 1048576) (lV : xV.length ≤ 1048576) (mV : yV.length ≤ 1048576) (lW : xW.length ≤ 1048576) (mW : yW.length ≤ 1048576) (lC : xC.length ≤ 1048576) (mC : yC.length ≤ 1048576) (lT : xT.length ≤ 1048576) (mT : yT.length ≤ 1048576) (wfx : ∀ v ∈ xT, v < 4294967296) (wfy : ∀ v ∈ yT, v < 4294967296) :
    Calls Tryz.prog 30 #[.agg #[.int .i64 R, .int .i64 C, .slice aA xA.length cA, .slice aB xB.length cB, .int .i64 P, .int .i64 T, .slice aV xV.length cV, .int .i64 U, .int .i64 N, .slice aW xW.length cW, .slice aC xC.length cC, .slice aT xT.length cT], .agg #[.int .i64 R', .int .i64 C', .slice bA yA.length dA, .slice bB yB.length dB, .int .i64 P', .int .i64 T', .slice bV yV.length dV, .int .i64 U', .int .i64 N', .slice bW yW.length dW, .slice bC yC.length dC, .slice bT yT.length dT]] w fun e w' => e = .returned (.bool (deskS R C P T U N xA xB xV xW xC xT R' C' P' T' U' N' yA yB yV yW yC yT)) ∧ Below w.heap.size w w' := by
  have B0 := Lib.hid (bl2 w (.cells #[.int .i64 R, .int .i64 C, .slice aA xA.length cA, .slice aB xB.length cB, .int .i64 P, .int .i64 T, .slice aV xV.length cV, .int .i64 U, .int .i64 N, .slice aW xW.length cW, .slice aC xC.length cC, .slice aT xT.length cT] 33) (.cells #[.int .i64 R', .int .i64 C', .slice bA yA.length dA, .slice bB yB.length dB, .int .i64 P', .int .i64 T', .slice bV yV.length dV, .int .i64 U', .int .i64 N', .slice bW yW.length dW, .slice bC yC.length dC, .slice bT yT.length dT] 33))
  obtain ⟨K, J⟩ := desk2 w [.int .i64 R, .int .i64 C, .slice aA xA.length cA, .slice aB xB.length cB, .int .i64 P, .int .i64 T, .slice aV xV.length cV, .int .i64 U, .int .i64 N, .slice aW xW.length cW, .slice aC xC.length cC, .slice aT xT.length cT] [.int .i64 R', .int .i64 C', .slice bA yA.length dA, .slice bB yB.length dB, .int .i64 P', .int .i64 T', .slice bV yV.length dV, .int .i64 U', .int .i64 N', .slice bW yW.length dW, .slice bC yC.length dC, .slice bT yT.length dT] 33
  have K0 := Lib.hid K
  have J0 := Lib.hid J
  clear K J
  have H := Lib.hid (fun (v : World) (hb : Below w.heap.size w v) => h.to hb)
  have G := Lib.hid (fun (v : World) (hb : Below w.heap.size w v) => g.to hb)
  clear h g
  have L1 := Lib.hid (fun v hb => sameGame_any v R C aA cA xA aB cB xB R' C' bA dA yA bB dB yB (H.out v hb).A (G.out v hb).A lA mA (H.out v hb).B (G.out v hb).B lB mB)
  have L2 := Lib.hid (fun v hb => sameValues_any v P T aV cV xV P' T' bV dV yV (H.out v hb).V (G.out v hb).V lV mV)
  have L3 := Lib.hid (fun v hb => sameCrowd_any v U N aW cW xW aC cC xC U' N' bW dW yW bC dC yC (H.out v hb).W (G.out v hb).W lW mW (H.out v hb).C (G.out v hb).C lC mC)
  have L4 := Lib.hid (fun v hb => equalFunc_any v aT bT cT dT xT yT (H.out v hb).T (G.out v hb).T lT mT wfx wfy)
  obtain ⟨z0, z1, z2, z3, z4, z5, z6, z7, z8, z9, z10, z11⟩ := cells12 K0.out
  obtain ⟨y0, y1, y2, y3, y4, y5, y6, y7, y8, y9, y10, y11⟩ := cells12 J0.out
  clear H G
  cases t1 : sameG R C xA xB R' C' yA yB with
  | false =>
    have HF : Hid (deskS R C P T U N xA xB xV xW xC xT R' C' P' T' U' N' yA yB yV yW yC yT = false) := by simp [Hid, deskS, t1]
    rw [t1] at L1
    clear t1
    go_enter Tryz.func30, Tryz.ntmps30
    go_wp2_with fail
    refine (L1.out _ B0.out).mono ?_
    rintro e w1 ⟨rfl, hb⟩
    have B1 := Lib.hid (below_then B0.out hb)
    have K1 := Lib.hid (K0.out.same hb)
    have J1 := Lib.hid (J0.out.same hb)
    clear hb
    clear z0 z1 z2 z3 z4 z5 z6 z7 z8 z9 z10 z11 y0 y1 y2 y3 y4 y5 y6 y7 y8 y9 y10 y11
    obtain ⟨z0, z1, z2, z3, z4, z5, z6, z7, z8, z9, z10, z11⟩ := cells12 K1.out
    obtain ⟨y0, y1, y2, y3, y4, y5, y6, y7, y8, y9, y10, y11⟩ := cells12 J1.out
    go_wp2_with fail
    go_ret
    exact ⟨ret_bool HF.out.symm, B1.out⟩
  | true =>
  cases t2 : sameV P T xV P' T' yV with
  | false =>
    have HF : Hid (deskS R C P T U N xA xB xV xW xC xT R' C' P' T' U' N' yA yB yV yW yC yT = false) := by simp [Hid, deskS, t1, t2]
    rw [t1] at L1
    rw [t2] at L2
    clear t1 t2
    go_enter Tryz.func30, Tryz.ntmps30
    go_wp2_with fail
    refine (L1.out _ B0.out).mono ?_
    rintro e w1 ⟨rfl, hb⟩
    have B1 := Lib.hid (below_then B0.out hb)
    have K1 := Lib.hid (K0.out.same hb)
    have J1 := Lib.hid (J0.out.same hb)
    clear hb
    clear z0 z1 z2 z3 z4 z5 z6 z7 z8 z9 z10 z11 y0 y1 y2 y3 y4 y5 y6 y7 y8 y9 y10 y11
    obtain ⟨z0, z1, z2, z3, z4, z5, z6, z7, z8, z9, z10, z11⟩ := cells12 K1.out
    obtain ⟨y0, y1, y2, y3, y4, y5, y6, y7, y8, y9, y10, y11⟩ := cells12 J1.out
    go_wp2_with fail
    refine (L2.out _ B1.out).mono ?_
    rintro e w2 ⟨rfl, hb⟩
    have B2 := Lib.hid (below_then B1.out hb)
    have K2 := Lib.hid (K1.out.same hb)
    have J2 := Lib.hid (J1.out.same hb)
    clear hb
    clear z0 z1 z2 z3 z4 z5 z6 z7 z8 z9 z10 z11 y0 y1 y2 y3 y4 y5 y6 y7 y8 y9 y10 y11
    obtain ⟨z0, z1, z2, z3, z4, z5, z6, z7, z8, z9, z10, z11⟩ := cells12 K2.out
    obtain ⟨y0, y1, y2, y3, y4, y5, y6, y7, y8, y9, y10, y11⟩ := cells12 J2.out
    go_wp2_with fail
    go_ret
    exact ⟨ret_bool HF.out.symm, B2.out⟩
  | true =>
  cases t3 : sameG U N xW xC U' N' yW yC with
  | false =>
    have HF : Hid (deskS R C P T U N xA xB xV xW xC xT R' C' P' T' U' N' yA yB yV yW yC yT = false) := by simp [Hid, deskS, t1, t2, t3]
    rw [t1] at L1
    rw [t2] at L2
    rw [t3] at L3
    clear t1 t2 t3
    go_enter Tryz.func30, Tryz.ntmps30
    go_wp2_with fail
    refine (L1.out _ B0.out).mono ?_
    rintro e w1 ⟨rfl, hb⟩
    have B1 := Lib.hid (below_then B0.out hb)
    have K1 := Lib.hid (K0.out.same hb)
    have J1 := Lib.hid (J0.out.same hb)
    clear hb
    clear z0 z1 z2 z3 z4 z5 z6 z7 z8 z9 z10 z11 y0 y1 y2 y3 y4 y5 y6 y7 y8 y9 y10 y11
    obtain ⟨z0, z1, z2, z3, z4, z5, z6, z7, z8, z9, z10, z11⟩ := cells12 K1.out
    obtain ⟨y0, y1, y2, y3, y4, y5, y6, y7, y8, y9, y10, y11⟩ := cells12 J1.out
    go_wp2_with fail
    refine (L2.out _ B1.out).mono ?_
    rintro e w2 ⟨rfl, hb⟩
    have B2 := Lib.hid (below_then B1.out hb)
    have K2 := Lib.hid (K1.out.same hb)
    have J2 := Lib.hid (J1.out.same hb)
    clear hb
    clear z0 z1 z2 z3 z4 z5 z6 z7 z8 z9 z10 z11 y0 y1 y2 y3 y4 y5 y6 y7 y8 y9 y10 y11
    obtain ⟨z0, z1, z2, z3, z4, z5, z6, z7, z8, z9, z10, z11⟩ := cells12 K2.out
    obtain ⟨y0, y1, y2, y3, y4, y5, y6, y7, y8, y9, y10, y11⟩ := cells12 J2.out
    go_wp2_with fail
    refine (L3.out _ B2.out).mono ?_
    rintro e w3 ⟨rfl, hb⟩
    have B3 := Lib.hid (below_then B2.out hb)
    have K3 := Lib.hid (K2.out.same hb)
    have J3 := Lib.hid (J2.out.same hb)
    clear hb
    clear z0 z1 z2 z3 z4 z5 z6 z7 z8 z9 z10 z11 y0 y1 y2 y3 y4 y5 y6 y7 y8 y9 y10 y11
    obtain ⟨z0, z1, z2, z3, z4, z5, z6, z7, z8, z9, z10, z11⟩ := cells12 K3.out
    obtain ⟨y0, y1, y2, y3, y4, y5, y6, y7, y8, y9, y10, y11⟩ := cells12 J3.out
    go_wp2_with fail
    go_ret
    exact ⟨ret_bool HF.out.symm, B3.out⟩
  | true =>
  have HF : Hid (deskS R C P T U N xA xB xV xW xC xT R' C' P' T' U' N' yA yB yV yW yC yT = eqF xT yT) := by simp [Hid, deskS, t1, t2, t3]
  rw [t1] at L1
  rw [t2] at L2
  rw [t3] at L3
  clear t1 t2 t3
  go_enter Tryz.func30, Tryz.ntmps30
  go_wp2_with fail
  refine (L1.out _ B0.out).mono ?_
  rintro e w1 ⟨rfl, hb⟩
  have B1 := Lib.hid (below_then B0.out hb)
  have K1 := Lib.hid (K0.out.same hb)
  have J1 := Lib.hid (J0.out.same hb)
  clear hb
  clear z0 z1 z2 z3 z4 z5 z6 z7 z8 z9 z10 z11 y0 y1 y2 y3 y4 y5 y6 y7 y8 y9 y10 y11
  obtain ⟨z0, z1, z2, z3, z4, z5, z6, z7, z8, z9, z10, z11⟩ := cells12 K1.out
  obtain ⟨y0, y1, y2, y3, y4, y5, y6, y7, y8, y9, y10, y11⟩ := cells12 J1.out
  go_wp2_with fail
  refine (L2.out _ B1.out).mono ?_
  rintro e w2 ⟨rfl, hb⟩
  have B2 := Lib.hid (below_then B1.out hb)
  have K2 := Lib.hid (K1.out.same hb)
  have J2 := Lib.hid (J1.out.same hb)
  clear hb
  clear z0 z1 z2 z3 z4 z5 z6 z7 z8 z9 z10 z11 y0 y1 y2 y3 y4 y5 y6 y7 y8 y9 y10 y11
  obtain ⟨z0, z1, z2, z3, z4, z5, z6, z7, z8, z9, z10, z11⟩ := cells12 K2.out
  obtain ⟨y0, y1, y2, y3, y4, y5, y6, y7, y8, y9, y10, y11⟩ := cells12 J2.out
  go_wp2_with fail
  refine (L3.out _ B2.out).mono ?_
  rintro e w3 ⟨rfl, hb⟩
  have B3 := Lib.hid (below_then B2.out hb)
  have K3 := Lib.hid (K2.out.same hb)
  have J3 := Lib.hid (J2.out.same hb)
  clear hb
  clear z0 z1 z2 z3 z4 z5 z6 z7 z8 z9 z10 z11 y0 y1 y2 y3 y4 y5 y6 y7 y8 y9 y10 y11
  obtain ⟨z0, z1, z2, z3, z4, z5, z6, z7, z8, z9, z10, z11⟩ := cells12 K3.out
  obtain ⟨y0, y1, y2, y3, y4, y5, y6, y7, y8, y9, y10, y11⟩ := cells12 J3.out
  go_wp2_with fail
  refine (L4.out _ B3.out).mono ?_
  rintro e w4 ⟨rfl, rfl⟩
  have B4 := Lib.hid B3.out
  go_wp2_with fail
  go_ret
  exact ⟨ret_bool HF.out.symm, B4.out⟩
end Go.Proofs.YtkbejmjkdnfemaaGreatDoor
namespace Go.Proofs.YtkbejmjkdnfemaaGreatDoor
set_option linter.unusedVariables false
set_option linter.unusedSimpArgs false
open Go.RowKit

/-- The desk at the beginning. -/
def newD : DD := ⟨2, 2, gA, gB, 2, 2, vW, 2, 2, cW, cC, tT⟩
theorem newD_ok : newD.ok = true := by decide +kernel
theorem rd_blk {w : World} {g T Z : Nat} {cs : List Value} (h : Blk w g cs T) (hg : g < Z) : Rd w Z (some ⟨g, 0, none⟩) cs :=
  .inr ⟨g, 0, rfl, hg, fun j _ => by rw [Nat.zero_add, h.cell]⟩
theorem newDD_any (w : World) : Calls Tryz.prog 18 #[] w fun e w' => ∃ x : DA, e = .returned (newD.val x) ∧ DRd w' w'.heap.size newD x ∧ Below w.heap.size w w' := by
  refine (newDesk_any w).mono ?_
  rintro e w' ⟨g1, g2, g3, g4, g5, g6, rfl, h, hb⟩
  have := h.l1; have := h.l2; have := h.l3; have := h.l4; have := h.l5; have := h.l6; have := h.l7
  exact ⟨⟨some ⟨g1, 0, none⟩, 4, some ⟨g2, 0, none⟩, 4, some ⟨g3, 0, none⟩, 4, some ⟨g4, 0, none⟩, 2, some ⟨g5, 0, none⟩, 4, some ⟨g6, 0, none⟩, 2⟩, rfl,
    ⟨⟨rd_blk h.b1 (by omega), rd_blk h.b2 (by omega), rd_blk h.b3 (by omega), rd_blk h.b4 (by omega), rd_blk h.b5 (by omega), rd_blk h.b6 (by omega)⟩, by show ∀ y ∈ tT, y < 4294967296; decide⟩, hb⟩
theorem validDD_any (w : World) (d : DD) (x : DA) (h : DRd w w.heap.size d x) (hs : d.small) : Calls Tryz.prog 19 #[d.val x] w fun e w' => e = .returned (.bool d.ok) ∧ Below w.heap.size w w' := by
  obtain ⟨m1, m2, m3, m4, m5, m6⟩ := hs
  exact validDesk_any w d.R d.C x.a x.ca d.A x.b x.cb d.B d.P d.T x.v x.cv d.V d.U d.N x.w x.cw d.W x.k x.ck d.K x.f x.cf d.F h.r m1 m2 m3 m4 m5 m6
def sameDD (d d' : DD) : Bool := deskS d.R d.C d.P d.T d.U d.N d.A d.B d.V d.W d.K d.F d'.R d'.C d'.P d'.T d'.U d'.N d'.A d'.B d'.V d'.W d'.K d'.F
theorem sameK_self (xs : List Nat) : ∀ n, sameK xs xs n = true := by
  intro n
  unfold sameK
  rw [List.all_eq_true]
  intro k _
  unfold sameN
  simp
theorem sameDD_self (d : DD) : sameDD d d = true := by
  unfold sameDD deskS sameG sameV eqF
  rw [sameK_self]
  simp
theorem sameDD_any (w : World) (d d' : DD) (x x' : DA) (h : DRd w w.heap.size d x) (h' : DRd w w.heap.size d' x') (hs : d.small) (hs' : d'.small) : Calls Tryz.prog 30 #[d.val x, d'.val x'] w fun e w' => e = .returned (.bool (sameDD d d')) ∧ Below w.heap.size w w' := by
  obtain ⟨m1, m2, m3, m4, m5, m6⟩ := hs
  obtain ⟨n1, n2, n3, n4, n5, n6⟩ := hs'
  exact sameDesk_any w d.R d.C d.P d.T d.U d.N x.a x.ca d.A x.b x.cb d.B x.v x.cv d.V x.w x.cw d.W x.k x.ck d.K x.f x.cf d.F d'.R d'.C d'.P d'.T d'.U d'.N x'.a x'.ca d'.A x'.b x'.cb d'.B x'.v x'.cv d'.V x'.w x'.cw d'.W x'.k x'.ck d'.K x'.f x'.cf d'.F h.r h'.r m1 n1 m2 n2 m3 n3 m4 n4 m5 n5 m6 n6 h.f h'.f
section
variable (w : World) (o : DD) (x : DA) (h : DRd w w.heap.size o x) (hk : o.ok = true) (hE : Env w)
include h hk
include hE in
theorem gameDD_any : Calls Tryz.prog 12 #[.agg #[.int .i64 o.R, .int .i64 o.C, .slice x.a o.A.length x.ca, .slice x.b o.B.length x.cb]] w fun e w' => e = .returned (.tuple #[.string (bs (gT o)), .bool true]) ∧ Below w.heap.size w w' := by
  obtain ⟨m1, m2, m3, m4, m5, m6⟩ := small_of hk
  have e : gameText o.R o.C o.A o.B = some (gT o) := by unfold gameText; rw [if_pos (DD.ok_parts hk).1]; rfl
  have := gameText_any w hE.tab o.R o.C x.a x.ca o.A x.b x.cb o.B ⟨h.r.A, h.r.B⟩ m1 m2
  rw [e] at this
  exact this
include hE in
theorem valuesDD_any : Calls Tryz.prog 13 #[.agg #[.int .i64 o.P, .int .i64 o.T, .slice x.v o.V.length x.cv]] w fun e w' => e = .returned (.tuple #[.string (bs (vT o)), .bool true]) ∧ Below w.heap.size w w' := by
  obtain ⟨m1, m2, m3, m4, m5, m6⟩ := small_of hk
  have e : valuesText o.P o.T o.V = some (vT o) := by unfold valuesText; rw [if_pos (DD.ok_parts hk).2.1]; rfl
  have := valuesText_any w hE.tab o.P o.T x.v x.cv o.V h.r.V m3
  rw [e] at this
  exact this
include hE in
theorem crowdDD_any : Calls Tryz.prog 14 #[.agg #[.int .i64 o.U, .int .i64 o.N, .slice x.w o.W.length x.cw, .slice x.k o.K.length x.ck]] w fun e w' => e = .returned (.tuple #[.string (bs (cT o)), .bool true]) ∧ Below w.heap.size w w' := by
  obtain ⟨m1, m2, m3, m4, m5, m6⟩ := small_of hk
  have e : crowdText o.U o.N o.W o.K = some (cT o) := by unfold crowdText; rw [if_pos (DD.ok_parts hk).2.2.1]; rfl
  have := crowdText_any w hE.tab o.U o.N x.w x.cw o.W x.k x.ck o.K ⟨h.r.W, h.r.C⟩ m4 m5
  rw [e] at this
  exact this
include hE in
theorem turnsDD_any : Calls Tryz.prog 15 #[.slice x.f o.F.length x.cf] w fun e w' => e = .returned (.tuple #[.string (bs (ntextL o.F)), .bool true]) ∧ Below w.heap.size w w' := by
  obtain ⟨m1, m2, m3, m4, m5, m6⟩ := small_of hk
  have hF := (DD.ok_len hk).2.2.2.2.2.2
  have := numbersText_any w hE.bit x.f x.cf o.F h.r.T h.f m6
  rw [if_pos (by omega)] at this
  exact this.mono fun e w' h => ⟨h.2, h.1⟩
theorem pureDD_any : Calls Tryz.prog 20 #[.agg #[.int .i64 o.R, .int .i64 o.C, .slice x.a o.A.length x.ca, .slice x.b o.B.length x.cb]] w fun e w' => ∃ a' c', e = .returned (.tuple #[.slice a' (pureO o).length c', .bool true]) ∧ Rd w' w'.heap.size a' (ints (pureO o)) ∧ Below w.heap.size w w' := by
  have g := (DD.ok_parts hk).1
  obtain ⟨R, C, e1, e2, -⟩ := game_nat g
  have := pureEq_any w R C x.a x.ca o.A x.b x.cb o.B (by rw [← e1, ← e2]; exact g) h.r.A h.r.B
  unfold pureO
  rw [e1, e2, Int.toNat_natCast, Int.toNat_natCast]
  exact this
theorem safeDD_any (hc : o.A.length ≤ x.ca) : Calls Tryz.prog 21 #[.agg #[.int .i64 o.R, .int .i64 o.C, .slice x.a o.A.length x.ca, .slice x.b o.B.length x.cb]] w fun e w' => e = .returned (.tuple #[.int .i64 (safeO o).1, .int .i64 (safeO o).2, .bool true]) ∧ Below w.heap.size w w' := by
  have g := (DD.ok_parts hk).1
  obtain ⟨R, C, e1, e2, -⟩ := game_nat g
  have := safeRow_any w R C x.a x.ca o.A x.b x.cb o.B (by rw [← e1, ← e2]; exact g) hc h.r.A h.r.B
  unfold safeO
  rw [e1, e2, Int.toNat_natCast, Int.toNat_natCast]
  exact this
theorem roundDD_any : Calls Tryz.prog 22 #[.agg #[.int .i64 o.P, .int .i64 o.T, .slice x.v o.V.length x.cv]] w fun e w' => ∃ a c, e = .returned (.tuple #[.slice a (roundO o).length c, .bool true]) ∧ Rd w' w'.heap.size a (ints (roundO o)) ∧ Below w.heap.size w w' := by
  have g := (DD.ok_parts hk).2.1
  obtain ⟨P, T, e1, e2, -⟩ := values_nat g
  have := envyRounds_any w P T x.v x.cv o.V (by rw [← e1, ← e2]; exact g) h.r.V
  unfold roundO
  rw [e1, e2, Int.toNat_natCast, Int.toNat_natCast]
  refine this.mono ?_
  rintro e w' ⟨res, a, c, hR, hl, rfl, hr, hb⟩
  rw [envyF_eq hR]
  exact ⟨a, c, rfl, hr, hb⟩
theorem round_ok : valOk (roundO o) = true := by
  have g := (DD.ok_parts hk).2.1
  obtain ⟨P, T, e1, e2, p1, p6, t1, t8, -⟩ := values_nat g
  obtain ⟨e, w', fr, ⟨res, a, c, hR, hl, -⟩, -⟩ := envyRounds_any w P T x.v x.cv o.V (by rw [← e1, ← e2]; exact g) h.r.V []
  unfold roundO
  rw [e1, e2, Int.toNat_natCast, Int.toNat_natCast, envyF_eq hR]
  have hb := envyR_bd hR p1 (fun p hp => by rw [List.eq_of_mem_replicate hp]; omega) (List.length_replicate ..)
  exact valOk_mk (fun p hp => by have := hb.1 p hp; omega) (by omega)
theorem tabDD_any (ow : List Int) (aO : Option Addr) (cO : Nat) (hO : Rd w w.heap.size aO (ints ow)) (hl : ow.length ≤ 1048576) (hm : manyB ow (o.T.toNat : Int) (o.T.toNat : Int) 0 ((o.P.toNat : Int) - 1) = true) : Calls Tryz.prog 23 #[.agg #[.int .i64 o.P, .int .i64 o.T, .slice x.v o.V.length x.cv], .slice aO ow.length cO] w fun e w' => ∃ a c, e = .returned (.tuple #[.slice a (tabO o ow).length c, .bool true]) ∧ Rd w' w'.heap.size a (ints (tabO o ow)) ∧ Below w.heap.size w w' := by
  have g := (DD.ok_parts hk).2.1
  obtain ⟨P, T, e1, e2, -⟩ := values_nat g
  have := envyTable_any w P T x.v x.cv o.V aO cO ow (by rw [← e1, ← e2]; exact g) h.r.V hO hl
  unfold tabO
  rw [e1, e2, Int.toNat_natCast, Int.toNat_natCast] at hm ⊢
  unfold envyTab at this
  rw [if_pos hm] at this
  refine this.mono ?_
  rintro e w' ⟨hb, a, c, rfl, hr⟩
  exact ⟨a, c, rfl, hr, hb⟩
theorem stopDD_any (ch : List Int) (aC : Option Addr) (cC : Nat) (hC : Rd w w.heap.size aC (ints ch)) (hl : ch.length ≤ 1048576) (hm : canB ⟨o.U, o.N, o.W, o.K⟩ ch = true) : Calls Tryz.prog 24 #[.agg #[.int .i64 o.U, .int .i64 o.N, .slice x.w o.W.length x.cw, .slice x.k o.K.length x.ck], .slice aC ch.length cC] w fun e w' => ∃ a c, e = .returned (.tuple #[.slice a (stopO o ch).1.length c, .int .i64 (stopO o ch).2, .bool true]) ∧ Rd w' w'.heap.size a (ints (stopO o ch).1) ∧ Below w.heap.size w w' := by
  obtain ⟨m1, m2, m3, m4, m5, m6⟩ := small_of hk
  have := restOf_any w o.U o.N x.w x.cw o.W x.k x.ck o.K aC cC ch ⟨h.r.W, h.r.C⟩ m4 m5 hC hl
  rw [restOF_yes hm] at this
  refine this.mono ?_
  rintro e w' ⟨hb, a, c, rfl, ho⟩
  exact ⟨a, c, rfl, rd_of_own ho (Nat.le_refl _), hb⟩
theorem sumDD_any (ch : List Int) (aC : Option Addr) (cC : Nat) (hC : Rd w w.heap.size aC (ints ch)) (hm : canB ⟨o.U, o.N, o.W, o.K⟩ ch = true) : Calls Tryz.prog 25 #[.agg #[.int .i64 o.U, .int .i64 o.N, .slice x.w o.W.length x.cw, .slice x.k o.K.length x.ck], .slice aC ch.length cC] w fun e w' => e = .returned (.tuple #[.int .i64 (sumO o ch), .bool true]) ∧ Below w.heap.size w w' := by
  obtain ⟨m1, m2, m3, m4, m5, m6⟩ := small_of hk
  have hv := valid_of (DD.ok_parts hk).2.2.1
  have n1 : 1 ≤ o.N := hv.r1
  obtain ⟨n, hn⟩ : ∃ n : Nat, o.N = (n : Int) := ⟨o.N.toNat, by omega⟩
  unfold sumO
  rw [hn] at hm ⊢
  exact totalOf_any w o.U n x.w x.cw o.W x.k x.ck o.K aC cC ch ⟨h.r.W, h.r.C⟩ m4 m5 hC hm
theorem leftDD_any : Calls Tryz.prog 26 #[.agg #[.int .i64 o.R, .int .i64 o.C, .slice x.a o.A.length x.ca, .slice x.b o.B.length x.cb]] w fun e w' => ∃ a2 c2 a3 c3, e = .returned (.tuple #[.slice a2 (leftO o).1.length c2, .slice a3 (leftO o).2.length c3, .bool true]) ∧ Rd w' w'.heap.size a2 (ints (leftO o).1) ∧ Rd w' w'.heap.size a3 (ints (leftO o).2) ∧ Below w.heap.size w w' := by
  have g := (DD.ok_parts hk).1
  obtain ⟨R, C, e1, e2, -⟩ := game_nat g
  have := survivors_any w R C x.a x.ca o.A x.b x.cb o.B (by rw [← e1, ← e2]; exact g) h.r.A h.r.B
  unfold leftO
  rw [e1, e2, Int.toNat_natCast, Int.toNat_natCast]
  exact this
theorem turnDD_any : Calls Tryz.prog 27 #[.agg #[.int .i64 o.R, .int .i64 o.C, .slice x.a o.A.length x.ca, .slice x.b o.B.length x.cb]] w fun e w' => ∃ a2 c2 a3 c3, e = .returned (.tuple #[.agg #[.int .i64 (turnD o).R, .int .i64 (turnD o).C, .slice a2 (turnD o).A.length c2, .slice a3 (turnD o).B.length c3], .bool true]) ∧ Rd w' w'.heap.size a2 (ints (turnD o).A) ∧ Rd w' w'.heap.size a3 (ints (turnD o).B) ∧ Below w.heap.size w w' := by
  have g := (DD.ok_parts hk).1
  obtain ⟨R, C, e1, e2, -⟩ := game_nat g
  have := turnGame_any w R C x.a x.ca o.A x.b x.cb o.B (by rw [← e1, ← e2]; exact g) h.r.A h.r.B
  unfold turnD
  dsimp only
  rw [e1, e2, Int.toNat_natCast, Int.toNat_natCast]
  refine this.mono ?_
  rintro e w' ⟨a2, c2, a3, c3, rfl, r2, r3, hb, -⟩
  exact ⟨a2, c2, a3, c3, rfl, r2, r3, hb⟩
end
end Go.Proofs.YtkbejmjkdnfemaaGreatDoor
