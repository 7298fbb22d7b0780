/-
  Are lists of saved games the same: both roads.
-/
import Derived.Test.YteclpcmbicjjgaaSameG
import Derived.Test.YteclpcmbicjjgaaSavO
import Derived.Test.YteclpcmbicjjgaaLater
namespace Go.Proofs.Yteclpcmbicjjgaa
set_option linter.unusedVariables false
set_option linter.unusedSimpArgs false
open Go.RowKit

set_option maxHeartbeats 1000000 in
theorem eqlS_any (w : World) (a b : Option Addr) (c d : Nat) (xs ys : List Int) (hx : Rd w w.heap.size a (ints xs)) (hy : Rd w w.heap.size b (ints ys)) (hlx : xs.length ≤ 1099511627776) (hly : ys.length ≤ 1099511627776) :
    Calls Try.prog 78 #[.slice a xs.length c, .slice b ys.length d] w fun e w' => e = .returned (.bool (decide (xs = ys))) ∧ ∃ n, w' = w.drewN n := by
  by_cases hlen : xs.length = ys.length
  · have hb1 : ((xs.length : Int) != (ys.length : Int)) = false := by simp [hlen]
    go_enter Try.func78, Try.ntmps78
    go_wp2
    go_loopw [5] (fun i wr => ∃ k n : Nat, k ≤ xs.length ∧ i = .int .i64 k ∧ xs.take k = ys.take k ∧ wr = w.drewN n) (fun i _ => xs.length - (intOf i).toNat)
    case atStart => exact ⟨0, 0, Nat.zero_le _, rfl, rfl, rfl⟩
    case round =>
      obtain ⟨k, n, hk, rfl, htk', rfl⟩ := hrel
      have htk := Lib.hid htk'
      clear htk'
      by_cases hlt : k < xs.length
      · obtain ⟨b1, o1, x, rfl, _, hcx, hx'⟩ := hx.get hlt
        obtain ⟨b2, o2, y, rfl, _, hcy, hy'⟩ := hy.get (k := k) (by omega)
        have hlt2 : k < ys.length := by omega
        clear hx hy
        by_cases hxy : x = y
        · subst hxy
          go_wp2
          go_quiet (fail)
          go_wp2
          go_roundw
          case rel => exact ⟨k + 1, n + nq, by omega, by go_num, (take_eq_succ hx'.out hy'.out htk.out).2 rfl, by first | rfl | exact World.drewN_drewN _ _ _⟩
          case measure => simp [intOf]; omega
        · have hne : (x != y) = true := by simp [hxy]
          go_wp2
          go_quiet (fail)
          go_wp2
          go_ret
          exact ⟨ret_bool (by simp [ne_of_get hx'.out hy'.out hxy]), n + nq, by first | rfl | exact World.drewN_drewN _ _ _⟩
      · have : k = xs.length := by omega
        subst this
        go_wp2
        go_ret
        exact ⟨ret_bool (by have := htk.out; rw [List.take_length, hlen, List.take_length] at this; simp [this]), _, rfl⟩
  · have hb1 : ((xs.length : Int) != (ys.length : Int)) = true := by simp; omega
    have hnn : xs ≠ ys := fun e => hlen (by rw [e])
    go_enter Try.func78, Try.ntmps78
    go_wp2
    go_ret
    exact ⟨ret_bool (by simp [hnn]), 0, rfl⟩
def sameWo (P : Int) (xW : List Int) (Q : Int) (yW : List Int) : Bool := (P == Q) && decide (xW = yW)
set_option maxRecDepth 10000 in
set_option maxHeartbeats 4000000 in
theorem sameWorths_any (w : World) (P : Int) (aW : Option Addr) (cW : Nat) (xW : List Int) (Q : Int) (bW : Option Addr) (dW : Nat) (yW : List Int) (hW : Rd w w.heap.size aW (ints xW)) (gW : Rd w w.heap.size bW (ints yW)) (lW : xW.length ≤ 1048576) (mW : yW.length ≤ 1048576) :
    Calls Try.prog 50 #[.agg #[.int .i64 P, .slice aW xW.length cW], .agg #[.int .i64 Q, .slice bW yW.length dW]] w fun e w' => e = .returned (.bool (sameWo P xW Q yW)) ∧ Below w.heap.size w w' := by
  have LA := Lib.hid (fun (v : World) (hb : Below w.heap.size w v) => eqlI_any v aW bW cW dW xW yW ((hW.below hb (Nat.le_refl _)).mono hb.size) ((gW.below hb (Nat.le_refl _)).mono hb.size) (by omega) (by omega))
  clear hW gW
  cases t1 : (P == Q) with
  | false =>
    have HF : Hid (sameWo P xW Q yW = false) := by simp [Hid, sameWo, t1]
    go_enter Try.func50, Try.ntmps50
    go_wp2_with fail
    go_ret
    exact ⟨ret_bool HF.out.symm, bl2 w _ _⟩
  | true =>
  have HF : Hid (sameWo P xW Q yW = decide (xW = yW)) := by simp only [Hid, sameWo, t1, Bool.true_and]
  go_enter Try.func50, Try.ntmps50
  go_wp2_with fail
  refine (LA.out _ ?_).mono ?_
  · exact bl2 w _ _
  rintro e w1 ⟨rfl, n0, rfl⟩
  go_wp2_with fail
  go_ret
  exact ⟨ret_bool HF.out.symm, below_drewN (bl2 w _ _) _⟩
set_option maxRecDepth 10000 in
set_option maxHeartbeats 4000000 in
theorem sameWorthsR_any (w : World) (P : Int) (aW : Option Addr) (cW : Nat) (xW : List Int) (Q : Int) (bW : Option Addr) (dW : Nat) (yW : List Int) (hW : Rd w w.heap.size aW (ints xW)) (gW : Rd w w.heap.size bW (ints yW)) (lW : xW.length ≤ 1048576) (mW : yW.length ≤ 1048576) :
    Calls Try.prog 46 #[.agg #[.int .i64 P, .slice aW xW.length cW], .agg #[.int .i64 Q, .slice bW yW.length dW]] w fun e w' => e = .returned (.bool (sameWo P xW Q yW)) ∧ Below w.heap.size w w' := by
  have LA := Lib.hid (fun (v : World) (hb : Below w.heap.size w v) => eqlS_any v aW bW cW dW xW yW ((hW.below hb (Nat.le_refl _)).mono hb.size) ((gW.below hb (Nat.le_refl _)).mono hb.size) (by omega) (by omega))
  clear hW gW
  cases t1 : (P == Q) with
  | false =>
    have HF : Hid (sameWo P xW Q yW = false) := by simp [Hid, sameWo, t1]
    go_enter Try.func46, Try.ntmps46
    go_wp2_with fail
    go_ret
    exact ⟨ret_bool HF.out.symm, bl2 w _ _⟩
  | true =>
  have HF : Hid (sameWo P xW Q yW = decide (xW = yW)) := by simp only [Hid, sameWo, t1, Bool.true_and]
  go_enter Try.func46, Try.ntmps46
  go_wp2_with fail
  refine (LA.out _ ?_).mono ?_
  · exact bl2 w _ _
  rintro e w1 ⟨rfl, n0, rfl⟩
  go_wp2_with fail
  go_ret
  exact ⟨ret_bool HF.out.symm, below_drewN (bl2 w _ _) _⟩
theorem blk2S' (w : World) (cs ds : List Value) (t : TypeId) : Blk ((w.alloc (.cells cs.toArray t)).alloc (.cells ds.toArray t)) w.heap.size cs t ∧ Blk ((w.alloc (.cells cs.toArray t)).alloc (.cells ds.toArray t)) (w.heap.size + 1) ds t := blk2S w cs ds t
set_option maxRecDepth 10000 in
set_option maxHeartbeats 4000000 in
theorem sameGameR_any (w : World) (R C : Int) (aA : Option Addr) (cA : Nat) (xA : List Int) (aB : Option Addr) (cB : Nat) (xB : List Int) (S D : Int) (bA : Option Addr) (dA : Nat) (yA : List Int) (bB : Option Addr) (dB : Nat) (yB : List Int) (hA : Rd w w.heap.size aA (ints xA)) (gA : Rd w w.heap.size bA (ints yA)) (lA : xA.length ≤ 1048576) (mA : yA.length ≤ 1048576) (hB : Rd w w.heap.size aB (ints xB)) (gB : Rd w w.heap.size bB (ints yB)) (lB : xB.length ≤ 1048576) (mB : yB.length ≤ 1048576) :
    Calls Try.prog 45 #[.agg #[.int .i64 R, .int .i64 C, .slice aA xA.length cA, .slice aB xB.length cB], .agg #[.int .i64 S, .int .i64 D, .slice bA yA.length dA, .slice bB yB.length dB]] w fun e w' => e = .returned (.bool (sameG R C xA xB S D yA yB)) ∧ Below w.heap.size w w' := by
  have B0 := bl2 w (.cells #[.int .i64 R, .int .i64 C, .slice aA xA.length cA, .slice aB xB.length cB] 31) (.cells #[.int .i64 S, .int .i64 D, .slice bA yA.length dA, .slice bB yB.length dB] 31)
  obtain ⟨K, J⟩ := blk2S w [.int .i64 R, .int .i64 C, .slice aA xA.length cA, .slice aB xB.length cB] [.int .i64 S, .int .i64 D, .slice bA yA.length dA, .slice bB yB.length dB] 31
  have L := Lib.hid (l02Same_any _ w.heap.size 0 (w.heap.size + 1) 0 R C aA cA xA aB cB xB S D bA dA yA bB dB yB (K.cell 0) (J.cell 0) (K.cell 1) (J.cell 1) (K.cell 2) (J.cell 2) (K.cell 3) (J.cell 3) (hA.to B0) (gA.to B0) lA mA (hB.to B0) (gB.to B0) lB mB)
  clear K J hA gA hB gB
  go_enter Try.func45, Try.ntmps45
  go_wp2_with fail
  refine L.out.mono ?_
  rintro e w1 ⟨rfl, n, rfl⟩
  have B1 := below_drewN B0 n
  go_wp2_with fail
  go_ret
  exact ⟨rfl, B1⟩
def sameSv (v u : Sv) : Bool := (v.s.toList == u.s.toList) && sameG v.R v.C v.A v.B u.R u.C u.A u.B && sameWo v.P v.W u.P u.W
def sameAt (vs us : List Sv) (k : Nat) : Bool := match vs[k]?, us[k]? with
  | some v, some u => sameSv v u
  | _, _ => true
def sameSs (vs us : List Sv) : Bool := decide (vs.length = us.length) && (List.range vs.length).all (sameAt vs us)
theorem sameAt_of {vs us : List Sv} {k : Nat} {v u : Sv} (h1 : vs[k]? = some v) (h2 : us[k]? = some u) : sameAt vs us k = sameSv v u := by simp [sameAt, h1, h2]
theorem sameSs_no {vs us : List Sv} {k : Nat} (hk : k < vs.length) (h : sameAt vs us k = false) : sameSs vs us = false := by
  have : (List.range vs.length).all (sameAt vs us) = false := by
    rw [← Bool.not_eq_true]; intro h2
    have := List.all_eq_true.1 h2 k (List.mem_range.2 hk)
    rw [h] at this; cases this
  rw [sameSs, this, Bool.and_false]
theorem sameSs_yes {vs us : List Sv} (hl : vs.length = us.length) (h : ∀ k, k < vs.length → sameAt vs us k = true) : sameSs vs us = true := by
  rw [sameSs, decide_eq_true hl, Bool.true_and, List.all_eq_true]
  exact fun k hk => h k (List.mem_range.1 hk)
set_option maxRecDepth 10000 in
set_option maxHeartbeats 4000000 in
theorem sameOne_any (w : World) (v u : Sv) (aA : Option Addr) (cA : Nat) (aB : Option Addr) (cB : Nat) (aW : Option Addr) (cW : Nat) (bA : Option Addr) (dA : Nat) (bB : Option Addr) (dB : Nat) (bW : Option Addr) (dW : Nat)
    (h : RdSaved w w.heap.size aA v.A aB v.B aW v.W) (g : RdSaved w w.heap.size bA u.A bB u.B bW u.W) (hv : SvIn 1048576 v) (hu : SvIn 1048576 u) :
    Calls Try.prog 48 #[.agg #[.string v.s, .int .i64 v.R, .int .i64 v.C, .slice aA v.A.length cA, .slice aB v.B.length cB, .int .i64 v.P, .slice aW v.W.length cW], .agg #[.string u.s, .int .i64 u.R, .int .i64 u.C, .slice bA u.A.length dA, .slice bB u.B.length dB, .int .i64 u.P, .slice bW u.W.length dW]] w fun e w' => e = .returned (.bool (sameSv v u)) ∧ Below w.heap.size w w' := by
  obtain ⟨_, v1, v2, v3⟩ := hv
  obtain ⟨_, u1, u2, u3⟩ := hu
  have B0 := Lib.hid (bl2 w (.cells #[.string v.s, .int .i64 v.R, .int .i64 v.C, .slice aA v.A.length cA, .slice aB v.B.length cB, .int .i64 v.P, .slice aW v.W.length cW] 34) (.cells #[.string u.s, .int .i64 u.R, .int .i64 u.C, .slice bA u.A.length dA, .slice bB u.B.length dB, .int .i64 u.P, .slice bW u.W.length dW] 34))
  obtain ⟨K, J⟩ := blk2S w [.string v.s, .int .i64 v.R, .int .i64 v.C, .slice aA v.A.length cA, .slice aB v.B.length cB, .int .i64 v.P, .slice aW v.W.length cW] [.string u.s, .int .i64 u.R, .int .i64 u.C, .slice bA u.A.length dA, .slice bB u.B.length dB, .int .i64 u.P, .slice bW u.W.length dW] 34
  have K0 := Lib.hid K
  have J0 := Lib.hid J
  have H0 := Lib.hid (h.to B0.out)
  have G0 := Lib.hid (g.to B0.out)
  clear K J h g
  have LG := Lib.hid (sameGame_any _ v.R v.C aA cA v.A aB cB v.B u.R u.C bA dA u.A bB dB u.B H0.out.A G0.out.A v1 u1 H0.out.B G0.out.B v2 u2)
  have LW := Lib.hid (fun w' hb => sameWorths_any w' v.P aW cW v.W u.P bW dW u.W (H0.out.to hb).W (G0.out.to hb).W v3 u3)
  obtain ⟨z0, z1, z2, z3, z4, z5, z6⟩ := cells7 K0.out
  obtain ⟨y0, y1, y2, y3, y4, y5, y6⟩ := cells7 J0.out
  cases t0 : (v.s.toList == u.s.toList) with
  | false =>
    have HF : Hid (sameSv v u = false) := by simp [Hid, sameSv, t0]
    go_enter Try.func48, Try.ntmps48
    go_wp2_with fail
    go_ret
    exact ⟨ret_bool HF.out.symm, B0.out⟩
  | true =>
  cases t1 : sameG v.R v.C v.A v.B u.R u.C u.A u.B with
  | false =>
    have HF : Hid (sameSv v u = false) := by simp [Hid, sameSv, t1]
    rw [t1] at LG
    clear t1
    go_enter Try.func48, Try.ntmps48
    go_wp2_with fail
    refine LG.out.mono ?_
    rintro e w1 ⟨rfl, hb⟩
    have B1 := below_then B0.out hb
    clear hb
    go_wp2_with fail
    go_ret
    exact ⟨ret_bool HF.out.symm, B1⟩
  | true =>
  have HF : Hid (sameSv v u = sameWo v.P v.W u.P u.W) := by simp only [Hid, sameSv, t0, t1, Bool.true_and]
  rw [t1] at LG
  clear t1
  go_enter Try.func48, Try.ntmps48
  go_wp2_with fail
  refine LG.out.mono ?_
  rintro e w1 ⟨rfl, hb⟩
  have B1 := Lib.hid (below_then B0.out hb)
  have K1 := Lib.hid (K0.out.same hb)
  have J1 := Lib.hid (J0.out.same hb)
  have L2 := Lib.hid (LW.out _ hb)
  clear hb z0 z1 z2 z3 z4 z5 z6 y0 y1 y2 y3 y4 y5 y6
  obtain ⟨z0, z1, z2, z3, z4, z5, z6⟩ := cells7 K1.out
  obtain ⟨y0, y1, y2, y3, y4, y5, y6⟩ := cells7 J1.out
  go_wp2_with fail
  refine L2.out.mono ?_
  rintro e w2 ⟨rfl, hb⟩
  have B2 := below_then B1.out hb
  clear hb
  go_wp2_with fail
  go_ret
  exact ⟨ret_bool HF.out.symm, B2⟩
theorem blk2T (w : World) (o1 : Obj) (ds : List Value) (t : TypeId) : Blk ((w.alloc o1).alloc (.cells ds.toArray t)) (w.heap.size + 1) ds t := blkat1S w o1 ds t
set_option maxRecDepth 10000 in
set_option maxHeartbeats 4000000 in
theorem equalFunc_any (w : World) (a b : Option Addr) (cp dp : Nat) (vs us : List Sv) (h : RdSs w w.heap.size a vs) (g : RdSs w w.heap.size b us) (hlv : vs.length ≤ 1048576) (hlu : us.length ≤ 1048576) (hv : ∀ v ∈ vs, SvIn 1048576 v) (hu : ∀ v ∈ us, SvIn 1048576 v) :
    Calls Try.prog 47 #[.slice a vs.length cp, .slice b us.length dp, .func (.func 48) #[] #[]] w fun e w' => e = .returned (.bool (sameSs vs us)) ∧ Below w.heap.size w w' := by
  by_cases hlen : vs.length = us.length
  case neg =>
    have hb1 : ((vs.length : Int) != (us.length : Int)) = true := by simp; omega
    have HF : Hid (sameSs vs us = false) := by simp [Hid, sameSs, hlen]
    clear h g hv hu
    go_enter Try.func47, Try.ntmps47
    go_wp2_with fail
    go_ret
    exact ⟨ret_bool HF.out.symm, Below.refl _ _⟩
  have hb1 : ((vs.length : Int) != (us.length : Int)) = false := by simp [hlen]
  have Hh := Lib.hid h
  have Hg := Lib.hid g
  have Hv := Lib.hid hv
  have Hu := Lib.hid hu
  have HL := Lib.hid hlen
  have HN : Hid (∀ k, k < vs.length → sameAt vs us k = false → sameSs vs us = false) := fun k hk h2 => sameSs_no hk h2
  have HY : Hid ((∀ k, k < vs.length → sameAt vs us k = true) → sameSs vs us = true) := fun h2 => sameSs_yes hlen h2
  clear h g hv hu hlen
  go_enter Try.func47, Try.ntmps47
  go_wp2_with fail
  go_loopw [17] (fun i wr => ∃ k : Nat, k ≤ vs.length ∧ i = .int .i64 k ∧ Hid (∀ j, j < k → sameAt vs us j = true) ∧ Below w.heap.size w wr) (fun i _ => vs.length - (intOf i).toNat)
  case atStart => exact ⟨0, Nat.zero_le _, rfl, fun j hj => absurd hj (Nat.not_lt_zero _), Below.refl _ _⟩
  case round =>
    obtain ⟨k, hk, rfl, hA, hw⟩ := hrel
    by_cases hlt : k < vs.length
    · obtain ⟨v, hv⟩ : ∃ v, vs[k]? = some v := ⟨vs[k], by simp⟩
      have hltu : k < us.length := by rw [← HL.out]; exact hlt
      obtain ⟨u, hu⟩ : ∃ u, us[k]? = some u := ⟨us[k], by simp⟩
      obtain ⟨b1, o1, aA, cA, aB, cB, aW, cW, rfl, hb1, e0, e1, e2, e3, e4, e5, e6, hr⟩ := (Hh.out.below hw (Nat.le_refl _)).get hv
      obtain ⟨b2, o2, bA, dA, bB, dB, bW, dW, rfl, hb2, g0, g1, g2, g3, g4, g5, g6, hs⟩ := (Hg.out.below hw (Nat.le_refl _)).get hu
      have mv := Hv.out v (List.mem_of_getElem? hv)
      have mu := Hu.out u (List.mem_of_getElem? hu)
      have hsz := hw.size
      have k0 : (0 : Int) ≤ (k : Int) := Int.natCast_nonneg _
      have k1 : (k : Int) < (vs.length : Int) := by omega
      have k2 : (k : Int) < (us.length : Int) := by omega
      have HB1 := bl1 wr (.cells #[.string v.s, .int .i64 v.R, .int .i64 v.C, .slice aA v.A.length cA, .slice aB v.B.length cB, .int .i64 v.P, .slice aW v.W.length cW] 34)
      have HB2 := bl2 wr (.cells #[.string v.s, .int .i64 v.R, .int .i64 v.C, .slice aA v.A.length cA, .slice aB v.B.length cB, .int .i64 v.P, .slice aW v.W.length cW] 34) (.cells #[.string u.s, .int .i64 u.R, .int .i64 u.C, .slice bA u.A.length dA, .slice bB u.B.length dB, .int .i64 u.P, .slice bW u.W.length dW] 34)
      obtain ⟨K, J⟩ := blk2S wr [.string v.s, .int .i64 v.R, .int .i64 v.C, .slice aA v.A.length cA, .slice aB v.B.length cB, .int .i64 v.P, .slice aW v.W.length cW] [.string u.s, .int .i64 u.R, .int .i64 u.C, .slice bA u.A.length dA, .slice bB u.B.length dB, .int .i64 u.P, .slice bW u.W.length dW] 34
      have K1 := Blk.new wr [.string v.s, .int .i64 v.R, .int .i64 v.C, .slice aA v.A.length cA, .slice aB v.B.length cB, .int .i64 v.P, .slice aW v.W.length cW] 34
      have hbw : b2 < wr.heap.size := by omega
      have LO := Lib.hid (sameOne_any _ v u aA cA aB cB aW cW bA dA bB dB bW dW ((hr.mono hsz).to HB2) ((hs.mono hsz).to HB2) mv mu)
      have BX := Lib.hid (hw.trans (HB2.mono hsz))
      have q0 := (HB1.cell (p := ⟨b2, _, none⟩) hbw).trans g0
      have q1 := (HB1.cell (p := ⟨b2, _, none⟩) hbw).trans g1
      have q2 := (HB1.cell (p := ⟨b2, _, none⟩) hbw).trans g2
      have q3 := (HB1.cell (p := ⟨b2, _, none⟩) hbw).trans g3
      have q4 := (HB1.cell (p := ⟨b2, _, none⟩) hbw).trans g4
      have q5 := (HB1.cell (p := ⟨b2, _, none⟩) hbw).trans g5
      have q6 := (HB1.cell (p := ⟨b2, _, none⟩) hbw).trans g6
      have hxs := BX.out.size
      obtain ⟨x0, x1, x2, x3, x4, x5, x6⟩ := cells7 K
      obtain ⟨y0, y1, y2, y3, y4, y5, y6⟩ := cells7 J
      cases hS : sameSv v u with
      | false =>
        have HF := Lib.hid (HN.out k hlt ((sameAt_of hv hu).trans hS))
        rw [hS] at LO
        clear hA hr hs hv hu HB1 HB2 K J K1 HN HY mv mu hS
        go_wp2_with fail
        refine LO.out.mono ?_
        rintro e w1 ⟨rfl, hb⟩
        have B1 := BX.out.trans (hb.mono hxs)
        clear hb LO x0 x1 x2 x3 x4 x5 x6 y0 y1 y2 y3 y4 y5 y6 e0 e1 e2 e3 e4 e5 e6 g0 g1 g2 g3 g4 g5 g6 q0 q1 q2 q3 q4 q5 q6
        go_wp2_with fail
        go_ret
        exact ⟨ret_bool HF.out.symm, B1⟩
      | true =>
        have hA2 : Hid (∀ j, j < k + 1 → sameAt vs us j = true) := fun j hj => by
          by_cases hjk : j = k
          · rw [hjk]; exact (sameAt_of hv hu).trans hS
          · exact hA.out j (by omega)
        rw [hS] at LO
        clear hA hr hs hv hu HB1 HB2 K J K1 HN HY mv mu hS
        go_wp2_with fail
        refine LO.out.mono ?_
        rintro e w1 ⟨rfl, hb⟩
        have B1 := BX.out.trans (hb.mono hxs)
        clear hb LO x0 x1 x2 x3 x4 x5 x6 y0 y1 y2 y3 y4 y5 y6 e0 e1 e2 e3 e4 e5 e6 g0 g1 g2 g3 g4 g5 g6 q0 q1 q2 q3 q4 q5 q6
        go_wp2_with fail
        go_roundw
        case rel => exact ⟨k + 1, by omega, by go_num, hA2, B1⟩
        case measure => first | (simp [intOf]; done) | (simp [intOf]; omega)
    · have : k = vs.length := by omega
      subst this
      have HF := Lib.hid (HY.out hA.out)
      clear hA
      go_wp2_with fail
      go_ret
      exact ⟨ret_bool HF.out.symm, hw⟩
set_option maxRecDepth 10000 in
theorem sameSaved_any (w : World) (a b : Option Addr) (cp dp : Nat) (vs us : List Sv) (h : RdSs w w.heap.size a vs) (g : RdSs w w.heap.size b us) (hlv : vs.length ≤ 1048576) (hlu : us.length ≤ 1048576) (hv : ∀ v ∈ vs, SvIn 1048576 v) (hu : ∀ v ∈ us, SvIn 1048576 v) :
    Calls Try.prog 18 #[.slice a vs.length cp, .slice b us.length dp] w fun e w' => e = .returned (.bool (sameSs vs us)) ∧ Below w.heap.size w w' := by
  have L := Lib.hid (equalFunc_any w a b cp dp vs us h g hlv hlu hv hu)
  clear h g hv hu
  go_enter Try.func18, Try.ntmps18
  go_wp2_with fail
  refine L.out.mono ?_
  rintro e w1 ⟨rfl, hb⟩
  go_wp2_with fail
  go_ret
  exact ⟨rfl, hb⟩
end Go.Proofs.Yteclpcmbicjjgaa
