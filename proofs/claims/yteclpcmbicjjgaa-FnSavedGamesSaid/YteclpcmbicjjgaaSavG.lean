/-
  The law of saved games: what it does, walked.
-/
import Derived.Test.YteclpcmbicjjgaaDrawB
import Derived.Test.YteclpcmbicjjgaaSavP
import Derived.Test.YteclpcmbicjjgaaSavSame
import Derived.Test.YteclpcmbicjjgaaStoreA
import Derived.Deep.RegionHeld3
import Derived.Lib.ConvBytes
import Derived.StillTailTactics
namespace Go.Proofs.Yteclpcmbicjjgaa
set_option linter.unusedVariables false
set_option linter.unusedSimpArgs false
open Go.RowKit

def endsI (vs : List Sv) (k : Nat) : List Int := (List.range (k + 1)).map fun j => (endK vs j : Int)
theorem endsI_len (vs : List Sv) (k : Nat) : (endsI vs k).length = k + 1 := by simp [endsI]
theorem endsI_get (vs : List Sv) {k j : Nat} (h : j ≤ k) : (endsI vs k).getD j 0 = endK vs j := by
  simp [endsI, List.getD, List.getElem?_map, List.getElem?_range (show j < k + 1 by omega)]
theorem endsI_succ (vs : List Sv) (k : Nat) : endsI vs (k + 1) = endsI vs k ++ [(endK vs (k + 1) : Int)] := by
  unfold endsI
  rw [List.range_succ, List.map_append]
  rfl
theorem sameSv_refl (v : Sv) : sameSv v v = true := by
  simp [sameSv, sameG, sameWo]
theorem sameSs_refl (vs : List Sv) : sameSs vs vs = true := sameSs_yes rfl fun k hk => by
  unfold sameAt
  rw [List.getElem?_eq_getElem hk]
  exact sameSv_refl _
/-- The seven cells of what is saved. -/
abbrev c7 (v : Sv) (aA : Option Addr) (cA : Nat) (aB : Option Addr) (cB : Nat) (aW : Option Addr) (cW : Nat) : List Value := [.string v.s, .int .i64 v.R, .int .i64 v.C, .slice aA v.A.length cA, .slice aB v.B.length cB, .int .i64 v.P, .slice aW v.W.length cW]
theorem blk_rdss {w : World} {g : Nat} {v : Sv} {aA aB aW : Option Addr} {cA cB cW : Nat} (K : Blk w g (c7 v aA cA aB cB aW cW) 34) (h : RdSaved w w.heap.size aA v.A aB v.B aW v.W) : RdSs w w.heap.size (some ⟨g, 0, none⟩) [v] := by
  refine .inr ⟨g, 0, rfl, K.lt, fun k u hk => ?_⟩
  have : k = 0 ∧ u = v := by
    cases k with
    | zero => simp at hk; exact ⟨rfl, hk.symm⟩
    | succ k => simp at hk
  obtain ⟨rfl, rfl⟩ := this
  exact ⟨aA, cA, aB, cB, aW, cW, K.cell 0, K.cell 1, K.cell 2, K.cell 3, K.cell 4, K.cell 5, K.cell 6, h⟩
theorem info_int : (Try.prog.info? 3).map (fun i => (i.zero, i.size, i.bytes)) = some (some (.int .i64 0), 1, 8) := by kernel_rfl
theorem blk_new2 {w v : World} {cs : List Value} {t : TypeId} {o : Obj} (h : Blk v (w.alloc o).heap.size cs t) : Blk v (w.heap.size + 1) cs t := by
  rw [World.size_alloc] at h; exact h
theorem bytes_below (w : World) (e : TypeId) (s : ByteArray) : Below w.heap.size w (Lib.bytesWorld w e s) :=
  ⟨rfl, rfl, rfl, by rw [Lib.bytesWorld_size]; omega, fun k hk => Lib.bytesWorld_at_old w e s k hk⟩
theorem bytes_free (w : World) (e : TypeId) (s : ByteArray) (j : Nat) (hj : j < s.size) : (Lib.bytesWorld w e s).frozen? ⟨w.heap.size, j, none⟩ = false := by
  have h : j < (Lib.bytesCells w e s).size := by
    unfold Lib.bytesCells
    simp
    have : s.data.size = s.size := rfl
    omega
  simp [World.frozen?, Lib.bytesWorld_at_new]
  omega
set_option maxRecDepth 100000 in
set_option maxHeartbeats 16000000 in
theorem law_SavedGames (w : World) (ac am : Option Addr) (cc cm : Nat) (cs ms : List Int) (hc : Rd w w.heap.size ac (byts cs)) (hm : Rd w w.heap.size am (byts ms)) (lc : cs.length ≤ 9223372036854775807) (lm : ms.length ≤ 9223372036854775807) (bc : ∀ x ∈ cs, 0 ≤ x ∧ x ≤ 255) (bm : ∀ x ∈ ms, 0 ≤ x ∧ x ≤ 255) :
    Calls Try.prog 9 #[.slice ac cs.length cc, .slice am ms.length cm] w fun e w' => e = .returned (.bool true) ∧ Below w.heap.size w w' := by
  have LL := Lib.hid (b10Long_any w ac am cc cm cs ms lc lm)
  cases hlong : longB cs ms with
  | true =>
    rw [hlong] at LL
    clear hlong hc hm bc bm
    go_enter Try.func9, Try.ntmps9
    go_wp2_with fail
    refine LL.out.mono ?_
    rintro e w' ⟨rfl, rfl⟩
    go_wp2_with fail
    go_ret
    exact ⟨rfl, Below.refl _ _⟩
  | false =>
  rw [hlong] at LL
  have hlc : cs.length ≤ 1048576 ∧ ms.length ≤ 1048576 := by
    simp only [longB, Bool.or_eq_false_iff, decide_eq_false_iff_not] at hlong
    omega
  obtain ⟨hlc, hlm⟩ := hlc
  have LB := Lib.hid (b10Saved_any w ac cc cs hc bc hlc)
  have LM := Lib.hid (fun (w' : World) (hb : Below w.heap.size w w') (i n : Int) (hi : 0 ≤ i) (hi2 : i ≤ 1000000) => b10At_any w' am cm ms i n (hm.to hb) hlm bm hi hi2)
  have HA := Lib.hid (fun (i n : Int) (hn : 1 ≤ n) => atF_bd (xs := ms) (i := i) hn)
  clear hlong hc hm bc bm lc lm
  go_enter Try.func9, Try.ntmps9
  go_wp2_with fail
  refine LL.out.mono ?_
  rintro e w' ⟨rfl, rfl⟩
  go_wp2_with fail
  refine LB.out.mono ?_
  rintro e w1 ⟨aV, cV, vs, rfl, hv4, hvs, hR1, hB1⟩
  have HV := Lib.hid hvs
  have B1 := Lib.hid hB1
  have R1 := Lib.hid hR1
  have HKB : Hid (∀ k, k ≤ vs.length → (endK vs k : Int) ≤ 10000) := fun k hk => by
    have h1 := allL_len (vs.take k) (by rw [List.all_eq_true]; exact fun v hv => hvs v (List.mem_of_mem_take hv))
    rw [List.length_take] at h1
    unfold endK
    omega
  clear LB LL hvs hB1 hR1
  have BE := bl1 w1 (.cells #[.int .i64 0] 3)
  have hE0 : Hid ((w1.alloc (.cells #[.int .i64 0] 3)).ownsRow w1.heap.size 3 1 (.slice (some ⟨w1.heap.size, 0, none⟩) 1 1) (0 + 1) (ints (endsI vs 0))) := by
    have e : endsI vs 0 = [0] := by simp [endsI, endK_zero]
    rw [e]
    have K : Blk (w1.alloc (.cells #[.int .i64 0] 3)) w1.heap.size (ints [0]) 3 := Blk.new w1 [.int .i64 0] 3
    exact K.owns (Nat.le_refl _) (by unfold maxLen; simp)
  have B2 := Lib.hid (below_then B1.out BE)
  go_wp2_with fail
  go_loopw [36, 6] (fun iv ev wr => ∃ (k : Nat) (aE : Option Addr) (cE : Nat), k ≤ vs.length ∧ iv = .int .i64 k ∧ ev = .slice aE (k + 1) cE ∧ Hid (wr.ownsRow w1.heap.size 3 1 (.slice aE (k + 1) cE) (k + 1) (ints (endsI vs k))) ∧ Hid (Below w1.heap.size w1 wr)) (fun iv _ _ => vs.length - (intOf iv).toNat)
  case atStart => exact ⟨0, _, _, Nat.zero_le _, rfl, rfl, hE0.out, BE⟩
  case round =>
    obtain ⟨k, aE, cE, hk, rfl, rfl, hO, hB⟩ := hrel
    by_cases hlt : k < vs.length
    · obtain ⟨v, hv⟩ : ∃ v, vs[k]? = some v := ⟨vs[k], by simp⟩
      have hV := HV.out v (List.mem_of_getElem? hv)
      have RW := R1.out.to hB.out
      obtain ⟨b, o, aA, cA, aB, cB, aW, cW, hab, hbb, e0, e1, e2, e3, e4, e5, e6, hr⟩ := RW.get hv
      obtain ⟨m0, m1, m2, m3⟩ := svB_small (.inr hV)
      have k0 : (0 : Int) ≤ (k : Int) := Int.natCast_nonneg _
      have hki : (k : Int) < (vs.length : Int) := by omega
      have LS := Lib.hid (fun (w' : World) (hb : Below wr.heap.size wr w') => storeSaved_any w' v.s v.R v.C v.P aA cA v.A aB cB v.B aW cW v.W (hr.to hb) (by omega) (by omega) (by omega) (by omega))
      rw [svo_yes hV] at LS
      have hl3 := svL_len hV
      obtain ⟨t1, ht1⟩ : ∃ t1, t1 = bs (svL v) := ⟨_, rfl⟩
      have hl1 : t1.size ≤ 300 := by rw [ht1, bs_size]; exact hl3
      rw [← ht1] at LS
      have LO := Lib.hid (fun (w' : World) => loadSaved_any w' t1 (by omega))
      have hlo : loadF t1 = (v, true) := by rw [ht1]; exact load_store hV
      rw [hlo] at LO
      clear hlo
      have HT1 := Lib.hid ht1
      have HR := Lib.hid hr
      have HVV := Lib.hid hV
      have HK := Lib.hid (endK_succ hv)
      clear hV hr ht1 hv RW hl3
      subst hab
      go_wp2_with fail
      refine (LS.out wr (Below.refl _ _)).mono ?_
      rintro e w2 ⟨rfl, hb2⟩
      go_wp2_with fail
      refine (LO.out w2).mono ?_
      rintro e w3 ⟨hb3, yA, dA, yB, dB, yW, dW, rfl, hOS⟩
      dsimp only
      have W3 := below_then hb2 hb3
      have BX := bl1 w3 (.cells #[.string v.s, .int .i64 v.R, .int .i64 v.C, .slice yA v.A.length dA, .slice yB v.B.length dB, .int .i64 v.P, .slice yW v.W.length dW] 34)
      have KX := Blk.new w3 (c7 v yA dA yB dB yW dW) 34
      obtain ⟨gX, hgX⟩ : ∃ g, g = w3.heap.size := ⟨_, rfl⟩
      obtain ⟨wS, hwS⟩ : ∃ W, W = w3.alloc (.cells #[.string v.s, .int .i64 v.R, .int .i64 v.C, .slice yA v.A.length dA, .slice yB v.B.length dB, .int .i64 v.P, .slice yW v.W.length dW] 34) := ⟨_, rfl⟩
      rw [← hwS, ← hgX] at KX
      rw [← hwS] at BX
      have WS := below_then W3 BX
      have HRX : RdSaved wS wS.heap.size yA v.A yB v.B yW v.W := (hOS.rdH).to BX
      have RW := (R1.out.to hB.out).to WS
      have hbS : b < wS.heap.size := by have := WS.size; omega
      have HS : Hid (∀ w', Below wS.heap.size wS w' → (w'.cell? ⟨b, o + k * 7, none⟩ = some (.string v.s) ∧ w'.cell? ⟨b, o + k * 7 + 1, none⟩ = some (.int .i64 v.R) ∧ w'.cell? ⟨b, o + k * 7 + 2, none⟩ = some (.int .i64 v.C) ∧ w'.cell? ⟨b, o + k * 7 + 3, none⟩ = some (.slice aA v.A.length cA) ∧ w'.cell? ⟨b, o + k * 7 + 4, none⟩ = some (.slice aB v.B.length cB) ∧ w'.cell? ⟨b, o + k * 7 + 5, none⟩ = some (.int .i64 v.P) ∧ w'.cell? ⟨b, o + k * 7 + 6, none⟩ = some (.slice aW v.W.length cW) ∧ w'.cell? ⟨gX, 0, none⟩ = some (.string v.s) ∧ w'.cell? ⟨gX, 1, none⟩ = some (.int .i64 v.R) ∧ w'.cell? ⟨gX, 2, none⟩ = some (.int .i64 v.C) ∧ w'.cell? ⟨gX, 3, none⟩ = some (.slice yA v.A.length dA) ∧ w'.cell? ⟨gX, 4, none⟩ = some (.slice yB v.B.length dB) ∧ w'.cell? ⟨gX, 5, none⟩ = some (.int .i64 v.P) ∧ w'.cell? ⟨gX, 6, none⟩ = some (.slice yW v.W.length dW))) := fun w' hb => by
        have K' := KX.same hb
        have C : ∀ j u, wr.cell? ⟨b, j, none⟩ = some u → w'.cell? ⟨b, j, none⟩ = some u := fun j u h => (hb.cell (p := ⟨b, j, none⟩) hbS).trans ((WS.cell (p := ⟨b, j, none⟩) hbb).trans h)
        exact ⟨C _ _ e0, C _ _ e1, C _ _ e2, C _ _ e3, C _ _ e4, C _ _ e5, C _ _ e6, K'.cell 0, K'.cell 1, K'.cell 2, K'.cell 3, K'.cell 4, K'.cell 5, K'.cell 6⟩
      have LV := Lib.hid (fun (w' : World) (hb : Below wS.heap.size wS w') => validSaved_any w' v.s v.R v.C v.P aA cA v.A aB cB v.B aW cW v.W ((HR.out.to WS).to hb) (by omega) (by omega) (by omega) (by omega))
      have LQ : Hid (∀ (w' : World) (g1 g2 : Nat) (hb : Below wS.heap.size wS w') (K1 : Blk w' g1 (c7 v yA dA yB dB yW dW) 34) (K2 : Blk w' g2 (c7 v aA cA aB cB aW cW) 34), Calls Try.prog 18 #[.slice (some ⟨g1, 0, none⟩) 1 1, .slice (some ⟨g2, 0, none⟩) 1 1] w' fun e w'' => e = .returned (.bool (sameSs [v] [v])) ∧ Below w'.heap.size w' w'') := fun w' g1 g2 hb K1 K2 => sameSaved_any w' (some ⟨g1, 0, none⟩) (some ⟨g2, 0, none⟩) 1 1 [v] [v] (blk_rdss K1 (HRX.to hb)) (blk_rdss K2 ((HR.out.to WS).to hb)) (by simp) (by simp) (by intro u hu; simp at hu; subst hu; exact ⟨by omega, by omega, by omega, by omega⟩) (by intro u hu; simp at hu; subst hu; exact ⟨by omega, by omega, by omega, by omega⟩)
      rw [show savedB v.s v.R v.C v.A v.B v.P v.W = true from HVV.out] at LV
      rw [sameSs_refl] at LQ
      have WSH := Lib.hid WS
      have HO := Lib.hid (own_below hO.out WS)
      have HB := Lib.hid (hB.out.trans (WS.mono hB.out.size))
      have RWH := Lib.hid RW
      have HWS := Lib.hid hwS
      have HGX := Lib.hid hgX
      clear LS LO hb2 hb3 W3 BX KX hOS RW R1 WS HRX hwS hgX
      go_wp2_with fail
      rw [← HWS.out, ← HGX.out]
      obtain ⟨e0, e1, e2, e3, e4, e5, e6, x0, x1, x2, x3, x4, x5, x6⟩ := HS.out _ (Below.refl _ _)
      have HD : Hid (Below wS.heap.size wS wS.drew) := below_drew' (Below.refl _ _)
      go_region_held3 (fun w' => w'.cell? ⟨b, o + k * 7, none⟩ = some (.string v.s) ∧ w'.cell? ⟨b, o + k * 7 + 1, none⟩ = some (.int .i64 v.R) ∧ w'.cell? ⟨b, o + k * 7 + 2, none⟩ = some (.int .i64 v.C) ∧ w'.cell? ⟨b, o + k * 7 + 3, none⟩ = some (.slice aA v.A.length cA) ∧ w'.cell? ⟨b, o + k * 7 + 4, none⟩ = some (.slice aB v.B.length cB) ∧ w'.cell? ⟨b, o + k * 7 + 5, none⟩ = some (.int .i64 v.P) ∧ w'.cell? ⟨b, o + k * 7 + 6, none⟩ = some (.slice aW v.W.length cW) ∧ w'.cell? ⟨gX, 0, none⟩ = some (.string v.s) ∧ w'.cell? ⟨gX, 1, none⟩ = some (.int .i64 v.R) ∧ w'.cell? ⟨gX, 2, none⟩ = some (.int .i64 v.C) ∧ w'.cell? ⟨gX, 3, none⟩ = some (.slice yA v.A.length dA) ∧ w'.cell? ⟨gX, 4, none⟩ = some (.slice yB v.B.length dB) ∧ w'.cell? ⟨gX, 5, none⟩ = some (.int .i64 v.P) ∧ w'.cell? ⟨gX, 6, none⟩ = some (.slice yW v.W.length dW))
        (first | with_reducible exact HS.out _ hB2 | with_reducible exact HS.out _ (below_then hB1 (bl2 w5 (.cells #[.string v.s, .int .i64 v.R, .int .i64 v.C, .slice yA v.A.length dA, .slice yB v.B.length dB, .int .i64 v.P, .slice yW v.W.length dW] 34) (.cells #[.string v.s, .int .i64 v.R, .int .i64 v.C, .slice aA v.A.length cA, .slice aB v.B.length cB, .int .i64 v.P, .slice aW v.W.length cW] 34))) | with_reducible exact HS.out _ (below_then hB1 (bl1 w5 (.cells #[.string v.s, .int .i64 v.R, .int .i64 v.C, .slice yA v.A.length dA, .slice yB v.B.length dB, .int .i64 v.P, .slice yW v.W.length dW] 34))) | with_reducible exact HS.out _ (below_then hB1 (bl2 w5 (.cells #[.string v.s, .int .i64 v.R, .int .i64 v.C, .slice aA v.A.length cA, .slice aB v.B.length cB, .int .i64 v.P, .slice aW v.W.length cW] 34) (.cells #[.string v.s, .int .i64 v.R, .int .i64 v.C, .slice yA v.A.length dA, .slice yB v.B.length dB, .int .i64 v.P, .slice yW v.W.length dW] 34))) | with_reducible exact HS.out _ (below_then hB1 (bl1 w5 (.cells #[.string v.s, .int .i64 v.R, .int .i64 v.C, .slice aA v.A.length cA, .slice aB v.B.length cB, .int .i64 v.P, .slice aW v.W.length cW] 34))) | with_reducible exact HS.out _ hB1 | with_reducible exact HS.out _ HD.out)
        (first | (go_at_call 13; with_reducible refine (LV.out _ HD.out).mono ?_; rintro e w5 ⟨rfl, hz1⟩; have hB1 := below_then HD.out hz1) | (go_at_call 18; with_reducible refine (LQ.out (((w5.alloc (.cells #[.string v.s, .int .i64 v.R, .int .i64 v.C, .slice yA v.A.length dA, .slice yB v.B.length dB, .int .i64 v.P, .slice yW v.W.length dW] 34)).alloc (.cells #[.string v.s, .int .i64 v.R, .int .i64 v.C, .slice aA v.A.length cA, .slice aB v.B.length cB, .int .i64 v.P, .slice aW v.W.length cW] 34))) w5.heap.size (w5.heap.size + 1) (below_then hB1 (bl2 w5 (.cells #[.string v.s, .int .i64 v.R, .int .i64 v.C, .slice yA v.A.length dA, .slice yB v.B.length dB, .int .i64 v.P, .slice yW v.W.length dW] 34) (.cells #[.string v.s, .int .i64 v.R, .int .i64 v.C, .slice aA v.A.length cA, .slice aB v.B.length cB, .int .i64 v.P, .slice aW v.W.length cW] 34))) ((Blk.new w5 (c7 v yA dA yB dB yW dW) 34).same (bl1 _ (.cells #[.string v.s, .int .i64 v.R, .int .i64 v.C, .slice aA v.A.length cA, .slice aB v.B.length cB, .int .i64 v.P, .slice aW v.W.length cW] 34))) (blk_new2 (Blk.new (w5.alloc (.cells #[.string v.s, .int .i64 v.R, .int .i64 v.C, .slice yA v.A.length dA, .slice yB v.B.length dB, .int .i64 v.P, .slice yW v.W.length dW] 34)) (c7 v aA cA aB cB aW cW) 34))).mono ?_; rintro e w6 ⟨rfl, hz2⟩; have hB2 := below_then (below_then hB1 (bl2 w5 (.cells #[.string v.s, .int .i64 v.R, .int .i64 v.C, .slice yA v.A.length dA, .slice yB v.B.length dB, .int .i64 v.P, .slice yW v.W.length dW] 34) (.cells #[.string v.s, .int .i64 v.R, .int .i64 v.C, .slice aA v.A.length cA, .slice aB v.B.length cB, .int .i64 v.P, .slice aW v.W.length cW] 34))) hz2) | (go_at_call 18; with_reducible refine (LQ.out (((w5.alloc (.cells #[.string v.s, .int .i64 v.R, .int .i64 v.C, .slice aA v.A.length cA, .slice aB v.B.length cB, .int .i64 v.P, .slice aW v.W.length cW] 34)).alloc (.cells #[.string v.s, .int .i64 v.R, .int .i64 v.C, .slice yA v.A.length dA, .slice yB v.B.length dB, .int .i64 v.P, .slice yW v.W.length dW] 34))) (w5.heap.size + 1) w5.heap.size (below_then hB1 (bl2 w5 (.cells #[.string v.s, .int .i64 v.R, .int .i64 v.C, .slice aA v.A.length cA, .slice aB v.B.length cB, .int .i64 v.P, .slice aW v.W.length cW] 34) (.cells #[.string v.s, .int .i64 v.R, .int .i64 v.C, .slice yA v.A.length dA, .slice yB v.B.length dB, .int .i64 v.P, .slice yW v.W.length dW] 34))) (blk_new2 (Blk.new (w5.alloc (.cells #[.string v.s, .int .i64 v.R, .int .i64 v.C, .slice aA v.A.length cA, .slice aB v.B.length cB, .int .i64 v.P, .slice aW v.W.length cW] 34)) (c7 v yA dA yB dB yW dW) 34)) ((Blk.new w5 (c7 v aA cA aB cB aW cW) 34).same (bl1 _ (.cells #[.string v.s, .int .i64 v.R, .int .i64 v.C, .slice yA v.A.length dA, .slice yB v.B.length dB, .int .i64 v.P, .slice yW v.W.length dW] 34)))).mono ?_; rintro e w6 ⟨rfl, hz2⟩; have hB2 := below_then (below_then hB1 (bl2 w5 (.cells #[.string v.s, .int .i64 v.R, .int .i64 v.C, .slice aA v.A.length cA, .slice aB v.B.length cB, .int .i64 v.P, .slice aW v.W.length cW] 34) (.cells #[.string v.s, .int .i64 v.R, .int .i64 v.C, .slice yA v.A.length dA, .slice yB v.B.length dB, .int .i64 v.P, .slice yW v.W.length dW] 34))) hz2))
      all_goals
        have O6 := Lib.hid (own_below HO.out hB2)
        have B6 := Lib.hid (HB.out.trans (hB2.mono HB.out.size))
        obtain ⟨gE, hgE, _, _⟩ := own_none (l := endsI vs k) O6.out (by omega)
        subst hgE
        obtain ⟨hcE, _⟩ := own_cellD O6.out (show k < k + 1 by omega)
        rw [endsI_get vs (Nat.le_refl k)] at hcE
        have eK : (endK vs (k + 1) : Int) = (endK vs k : Int) + (t1.size : Int) := by rw [HK.out, HT1.out, bs_size]; omega
        have hK3 : (endK vs k : Int) ≤ 10000 := HKB.out k hk
        have hK0 : (0 : Int) ≤ (endK vs k : Int) := Int.natCast_nonneg _
        have heK := Lib.hid eK
        have ht0 : (0 : Int) ≤ (t1.size : Int) := Int.natCast_nonneg _
        have ht3 : (t1.size : Int) ≤ 300 := by omega
        have ek1 : ((k + 1 : Nat) : Int) - 1 = (k : Int) := by omega
        generalize (endK vs k : Int) = ek at *
        clear eK hz1 hz2 hB1 hB2 e0 e1 e2 e3 e4 e5 e6 x0 x1 x2 x3 x4 x5 x6 HO HB HS LV LQ HR HVV HWS HGX HD
        have hws6 : w1.heap.size ≤ w6.heap.size := B6.out.size
        go_wp2_with (at_builtin; refine wpList_append_one _ rfl _ _ 58 rfl w1.heap.size 3 (.int .i64 0) 8 Try.underlying58 info_int (by rfl) _ (k + 1) _ rfl O6.out _ rfl rfl (by omega) (by omega) hws6 ?_)
        intro v7 w7 ho7 hg7
        obtain ⟨a7, c7', rfl, _⟩ := own_shape ho7
        have hb7 := below_append (Below.refl w1.heap.size _) O6.out hg7 (Nat.le_refl _) hws6
        have B7 := Lib.hid (B6.out.trans hb7)
        have O7 : Hid (w7.ownsRow w1.heap.size 3 1 (.slice a7 (k + 1 + 1) c7') (k + 1 + 1) (ints (endsI vs (k + 1)))) := by
          rw [endsI_succ, ints_append, heK.out]; exact ho7
        clear ho7 hg7 hb7 hcE O6 B6 hK3 hK0 ht0 ht3 ek1
        go_wp2_with fail
        go_roundw
        case rel => exact ⟨k + 1, a7, c7', by omega, by go_num, rfl, O7.out, B7.out⟩
        case measure => first | (simp [intOf]; done) | (simp [intOf]; omega)
    · have hkn : k = vs.length := by omega
      subst hkn
      have HO := hO
      have HB := hB
      obtain ⟨wL, hwL⟩ : ∃ W : World, W = wr := ⟨_, rfl⟩
      rw [← hwL] at HO HB ⊢
      clear hwL hO hB
      have BL := Lib.hid (B1.out.trans (HB.out.mono B1.out.size))
      have RL := Lib.hid (R1.out.to HB.out)
      have LSA := Lib.hid (fun (w' : World) (hb : Below wL.heap.size wL w') => storeAll_any w' aV cV vs (RL.out.to hb) (by omega) (fun v hv => by obtain ⟨m0, m1, m2, m3⟩ := svB_small (.inr (HV.out v hv)); exact ⟨by omega, by omega, by omega, by omega⟩))
      have hsa : storeAllF vs = (bs (allL vs), true) := by
        unfold storeAllF
        rw [if_pos]
        simp only [Bool.and_eq_true, decide_eq_true_eq, List.all_eq_true]
        exact ⟨by omega, HV.out⟩
      rw [hsa] at LSA
      obtain ⟨T, hT⟩ : ∃ T, T = bs (allL vs) := ⟨_, rfl⟩
      have hTs : T.size = endK vs vs.length := by rw [hT, bs_size, endK_all]
      have hT4 : T.size ≤ 10000 := by have := HKB.out vs.length (Nat.le_refl _); omega
      have hT0 : (0 : Int) ≤ (T.size : Int) := Int.natCast_nonneg _
      have hT4i : (T.size : Int) ≤ 10000 := by omega
      have hrec : recoverF T = (vs, T.size) := by rw [hT, bs_size]; exact rec_all HV.out (by omega)
      rw [← hT] at LSA
      have LRA := Lib.hid (fun (w' : World) => recoverAll_any w' T (by omega))
      rw [hrec] at LRA
      have HT := Lib.hid hT
      have HTs := Lib.hid hTs
      clear hT hTs hrec hsa hE0 BE B2
      go_wp2_with fail
      refine (LSA.out wL (Below.refl _ _)).mono ?_
      rintro e w5 ⟨rfl, hb5⟩
      go_wp2_with fail
      refine (LRA.out w5).mono ?_
      rintro e w6 ⟨hb6, aR, cR, hs, St, rfl, hOV⟩
      have W6 := below_then hb5 hb6
      have HW6 := Lib.hid W6
      have HRR := Lib.hid hOV.rd
      have SvAll : ∀ v ∈ vs, SvIn 1048576 v := fun v hv => by obtain ⟨m0, m1, m2, m3⟩ := svB_small (.inr (HV.out v hv)); exact ⟨by omega, by omega, by omega, by omega⟩
      have LQ := Lib.hid (sameSaved_any w6 aR aV cR cV vs vs hOV.rd (RL.out.to W6) (by omega) (by omega) SvAll SvAll)
      rw [sameSs_refl] at LQ
      have O6 := Lib.hid (own_below HO.out W6)
      have B6 := Lib.hid (BL.out.trans (W6.mono BL.out.size))
      obtain ⟨gE, hgE, hgE1, hgE2⟩ := own_none (l := endsI vs vs.length) O6.out (by omega)
      subst hgE
      obtain ⟨hcE, _⟩ := own_cellD O6.out (show vs.length < vs.length + 1 by omega)
      rw [endsI_get vs (Nat.le_refl _), ← HTs.out] at hcE
      have hne : ((T.size : Int) != (T.size : Int)) = false := by simp
      have hv0 : (0 : Int) ≤ (vs.length : Int) := Int.natCast_nonneg _
      dsimp only
      clear LSA LRA hb5 hb6 hOV W6 HW6 HRR HO
      go_wp2_with fail
      refine LQ.out.mono ?_
      rintro e w7 ⟨rfl, hb7⟩
      have O7 := Lib.hid (own_below O6.out hb7)
      have hgE3 : gE < w7.heap.size := by have := hb7.size; omega
      have B7 := Lib.hid (B6.out.trans (hb7.mono B6.out.size))
      clear LQ hb7 hcE O6 B6 hne
      by_cases hT00 : T.size = 0
      · have e0 : ((T.size : Int) == 0) = true := by rw [hT00]; rfl
        have HT00 := Lib.hid hT00
        clear hT00
        go_wp2_with fail
        go_ret
        exact ⟨rfl, B7.out⟩
      have e0 : ((T.size : Int) == 0) = false := by rw [beq_eq_false_iff_ne]; omega
      have hT1 : 1 ≤ T.size := by omega
      clear hT00
      have LA0 := Lib.hid (LM.out w7 B7.out 0 256 (by omega) (by omega))
      have LA1 := Lib.hid (LM.out w7 B7.out 1 256 (by omega) (by omega))
      obtain ⟨x00, x01⟩ := HA.out 0 256 (by omega)
      obtain ⟨x10, x11⟩ := HA.out 1 256 (by omega)
      generalize atF ms 0 256 = x0 at *
      generalize atF ms 1 256 = x1 at *
      have hT1i : (1 : Int) ≤ (T.size : Int) := by omega
      go_wp2_with fail
      refine LA0.out.mono ?_
      rintro e w' ⟨rfl, rfl⟩
      go_wp2_with fail
      refine LA1.out.mono ?_
      rintro e w' ⟨rfl, rfl⟩
      have hcm0 := Int.emod_nonneg (256 * x0 + x1) (show (T.size : Int) ≠ 0 by omega)
      have hcm1 := Int.emod_lt_of_pos (256 * x0 + x1) (show (0 : Int) < (T.size : Int) by omega)
      go_wp2_with fail
      obtain ⟨cut, hcut⟩ : ∃ cut : Nat, (256 * x0 + x1) % (T.size : Int) = cut := ⟨((256 * x0 + x1) % (T.size : Int)).toNat, by omega⟩
      rw [hcut] at hcm0 hcm1
      rw [hcut]
      clear hcut LA0 LA1 x00 x01 x10 x11 e0
      have hcT : cut < T.size := by omega
      have hend : endK vs vs.length = T.size := HTs.out.symm
      have HEND : Hid (∀ k, k ≤ vs.length → endK vs k ≤ cut → k < vs.length) := fun k hk h => by
        rcases Nat.lt_or_ge k vs.length with h1 | h1
        · exact h1
        · have : k = vs.length := by omega
          subst this
          omega
      clear hend
      have HC6 : Hid (∀ j, j ≤ vs.length → w7.cell? ⟨gE, j, none⟩ = some (.int .i64 (endK vs j))) := fun j hj => by
        obtain ⟨h1, _⟩ := own_cellD O7.out (show j < vs.length + 1 by omega)
        rwa [endsI_get vs hj] at h1
      go_loop [18] (fun kv => ∃ k : Nat, k ≤ vs.length ∧ kv = .int .i64 k ∧ Hid (endK vs k ≤ cut)) (fun kv => vs.length - (intOf kv).toNat)
      case atStart => exact ⟨0, Nat.zero_le _, rfl, by rw [Hid, endK_zero]; omega⟩
      case round =>
        obtain ⟨k, hk, rfl, hkc⟩ := hrel
        have hlt2 := HEND.out k hk hkc.out
        have hki : (k : Int) < (vs.length : Int) := by omega
        have k0 : (0 : Int) ≤ (k : Int) := Int.natCast_nonneg _
        have hc1 := HC6.out (k + 1) (by omega)
        by_cases hle : endK vs (k + 1) ≤ cut
        · have hlei : (endK vs (k + 1) : Int) ≤ (cut : Int) := by omega
          have HL := Lib.hid hle
          clear hle
          go_wp2_with fail
          go_round
          case rel => exact ⟨k + 1, by omega, by go_num, HL.out⟩
          case measure => first | (simp [intOf]; done) | (simp [intOf]; omega)
        · have hlei : (cut : Int) < (endK vs (k + 1) : Int) := by omega
          obtain ⟨v, hv⟩ : ∃ v, vs[k]? = some v := ⟨vs[k], by simp⟩
          have hexs : (T.extract 0 cut).data.toList = (allL vs).take cut := by
            rw [extract_bs, bs_list, HT.out, bs_list]; rfl
          have hrc := rec_cut HV.out (by omega) hv hkc.out (by omega) hexs
          have hsz : (T.extract 0 cut).size ≤ 1048576 := by rw [ByteArray.size_extract]; omega
          have LR2 := Lib.hid (recoverAll_any w7 (T.extract 0 cut) hsz)
          rw [hrc] at LR2
          have HKC := Lib.hid hkc.out
          clear hle hrc hsz hexs hv hkc
          go_wp2_with fail
          refine LR2.out.mono ?_
          rintro e w8 ⟨hb8, aS, cS, hs2, St2, rfl, _⟩
          have hlk : (vs.take k).length = k := by rw [List.length_take]; omega
          dsimp only
          rw [hlk]
          have hck := (hb8.cell (p := ⟨gE, k, none⟩) hgE3).trans (HC6.out k (by omega))
          have B8 := Lib.hid (B7.out.trans (hb8.mono B7.out.size))
          have hn1 : ((endK vs k : Int) != (endK vs k : Int)) = false := by simp
          have hn2 : ((k : Int) != (k : Int)) = false := by simp
          clear LR2 hb8 hlk hlei hc1
          have hcv := Lib.run_convert_string_bytes (P := Try.prog) w8 9 55 5 T Try.underlying9 Try.underlying55 Try.underlying5
          obtain ⟨cG, hcG⟩ : ∃ c, c = grownCap w8 T.size 0 5 := ⟨_, rfl⟩
          rw [← hcG] at hcv
          have hcGe : T.size ≤ cG := by rw [hcG]; exact grownCap_ge _ _ _ _
          obtain ⟨wB, hwB⟩ : ∃ W, W = Lib.bytesWorld w8 5 T := ⟨_, rfl⟩
          rw [← hwB] at hcv
          have BB : Below w8.heap.size w8 wB := by rw [hwB]; exact bytes_below w8 _ T
          have hTb : Hid (∀ j, j < T.size → wB.cell? ⟨w8.heap.size, j, none⟩ = some (.int .u8 ((T.data.toList.getD j 0).toNat : Int))) := fun j hj => by rw [hwB]; exact Lib.bytesWorld_cell w8 _ T j hj
          have hTf : wB.frozen? ⟨w8.heap.size, cut, none⟩ = false := by rw [hwB]; exact bytes_free w8 _ T cut hcT
          have sB : wB.heap.size = w8.heap.size + 1 := by rw [hwB]; exact Lib.bytesWorld_size w8 _ T
          have hcb := hTb.out cut hcT
          have B9 := Lib.hid (B8.out.trans (BB.mono B8.out.size))
          have LA2 := Lib.hid (LM.out wB.drew (below_drew' B9.out) 2 255 (by omega) (by omega))
          obtain ⟨x20, x21⟩ := HA.out 2 255 (by omega)
          generalize atF ms 2 255 = x2 at *
          have hgB : w8.heap.size < wB.heap.size := by omega
          obtain ⟨by0, hby0⟩ : ∃ z : Int, z = ((T.data.toList.getD cut 0).toNat : Int) := ⟨_, rfl⟩
          rw [← hby0] at hcb
          have hb0 : 0 ≤ by0 := by omega
          have hb1 : by0 ≤ 255 := by rw [hby0]; have := (T.data.toList.getD cut 0).toNat_lt; omega
          have HBB := Lib.hid BB
          clear hwB hcG sB BB hby0
          go_wp2_with fail
          clear hck hcv hn1 hn2
          refine wp_region_still_tail 10 (by kernel_rfl) (by kernel_rfl) ?_
          simp only [List.take_succ_cons, List.take_zero, List.drop_succ_cons, List.drop_zero]
          repeat (first | still_call (LA2.out.mono fun _ _ h => ⟨h.1, h.2.symm⟩) | still_step)
          refine wpStill_nil ?_
          obtain ⟨wD, hwD⟩ : ∃ W : World, W = wB.drew := ⟨_, rfl⟩
          have hTbD : Hid (∀ j, j < T.size → wD.cell? ⟨w8.heap.size, j, none⟩ = some (.int .u8 ((T.data.toList.getD j 0).toNat : Int))) := fun j hj => by rw [hwD]; exact hTb.out j hj
          have hTfD : wD.frozen? ⟨w8.heap.size, cut, none⟩ = false := by rw [hwD]; exact hTf
          have BD : Hid (Below w8.heap.size w8 wD) := by rw [hwD]; exact below_drew' HBB.out
          have hgD : w8.heap.size < wD.heap.size := by rw [hwD]; exact hgB
          have hcbD : wD.cell? ⟨w8.heap.size, cut, none⟩ = some (.int .u8 by0) := by rw [hwD]; exact hcb
          rw [show ({ heap := wB.heap, tape := wB.tape, drawn := wB.drawn + 1, os := wB.os, output := wB.output } : World) = wD from hwD.symm]
          clear hwD hTb hTf HBB hcb hgB LA2 B9
          go_upto_region 29 with fail
          obtain ⟨nb, hnb⟩ : ∃ z, z = (by0 + (1 + x2)) % 256 := ⟨_, rfl⟩
          rw [← hnb]
          have hnb0 : 0 ≤ nb ∧ nb ≤ 255 := by omega
          obtain ⟨L, hL⟩ : ∃ L, L = T.data.toList.set cut (UInt8.ofNat nb.toNat) := ⟨_, rfl⟩
          have hLl : L.length = T.size := by rw [hL, List.length_set, ← Lib.size_eq]
          obtain ⟨wE, hwE⟩ : ∃ W : World, W = wD.setCell ⟨w8.heap.size, cut, none⟩ (.int .u8 nb) := ⟨_, rfl⟩
          have hcE : ∀ j (hj : j < L.length), wE.cell? ⟨w8.heap.size, j, none⟩ = some (.int .u8 ((L[j].toNat : Nat) : Int)) := fun j hj => by
            rw [hwE]
            by_cases hjc : j = cut
            · subst hjc
              rw [World.cell?_setCell_same wD _ _ hcbD]
              have : L[j] = UInt8.ofNat nb.toNat := by simp [hL]
              rw [this]
              congr 2
              rw [UInt8.toNat_ofNat']
              omega
            · rw [World.cell?_setCell_other wD _ _ _ (by intro e; injection e with _ e; exact hjc e.symm), hTbD.out j (by omega)]
              congr 3
              have hj2 : j < T.data.toList.length := by rw [← Lib.size_eq]; omega
              simp [hL, List.getElem_set_ne (Ne.symm hjc), List.getD, List.getElem?_eq_getElem hj2]
          have BE : Below w8.heap.size w8 wE := by rw [hwE]; exact below_sto BD.out (Nat.le_refl _) _ _
          have hgE8 : w8.heap.size < wE.heap.size := by rw [hwE]; simpa using hgD
          have HCV : Hid (∀ (w' : World) (m : Nat), Below wE.heap.size wE w' → m ≤ T.size → (convert 55 9 (.slice (some ⟨w8.heap.size, 0, none⟩) m cG)).run Try.prog w' = .ok (.string (bs (L.take m))) w') := fun w' m hb hm => by
            have hml : (L.take m).length = m := by rw [List.length_take]; omega
            have := run_convert_bytes_back (P := Try.prog) w' 55 9 5 ⟨w8.heap.size, 0, none⟩ cG (L.take m) Try.underlying55 Try.underlying5 Try.underlying9 (fun j hj => by
              rw [add_none2, Nat.zero_add, (hb.cell (p := ⟨w8.heap.size, j, none⟩) hgE8), hcE j (by omega)]
              simp)
            rw [hml] at this
            exact this
          rw [← hwE]
          have hcv := HCV.out wE T.size (Below.refl _ _) (Nat.le_refl _)
          rw [List.take_of_length_le (by omega)] at hcv
          have BE9 := Lib.hid (B8.out.trans (BE.mono B8.out.size))
          have hpre : L.take cut = (allL vs).take cut := by
            rw [hL, List.take_set_of_le (Nat.le_refl _), HT.out, bs_list]
          have hbk := rec_bent (s := bs L) HV.out (by omega) hk HKC.out (by rw [bs_list]; exact hpre)
          have hro := recF_ok (s := bs L) 8 0 (Nat.zero_le _)
          obtain ⟨ho1, ho2, ho3⟩ := hro
          have hst := store_back (bs L)
          rw [bs_list] at hst
          have HBZ : Hid ((bs L).size = T.size) := by rw [Hid, bs_size, hLl]
          have LR3 := Lib.hid (recoverAll_any wE (bs L) (by rw [HBZ.out]; omega))
          obtain ⟨lf, hlf⟩ : ∃ lf, lf = (recoverF (bs L)).1 := ⟨_, rfl⟩
          obtain ⟨oo, hoo⟩ : ∃ oo, oo = (recoverF (bs L)).2 := ⟨_, rfl⟩
          have hpair : recoverF (bs L) = (lf, oo) := by rw [hlf, hoo]
          have ho1' : oo ≤ T.size := by rw [hoo, ← HBZ.out]; exact ho1
          have ho2' : lf.length ≤ 8 := by rw [hlf]; exact ho2
          have HO3 : Hid (∀ v ∈ lf, svB v = true) := by rw [hlf]; exact ho3
          have hkl : k ≤ lf.length := by rw [hlf]; exact hbk
          rw [hpair] at LR3 hst
          have hkli : (k : Int) ≤ (lf.length : Int) := by omega
          have hoT : (oo : Int) ≤ (T.size : Int) := by omega
          have hoo0 : (0 : Int) ≤ (oo : Int) := Int.natCast_nonneg _
          have HST := Lib.hid hst
          clear hL hLl hnb hnb0 hwE hcE BE hpre hbk ho1 ho2 ho3 hst hlf hoo hpair hcbD hTbD hTfD BD hgD x20 x21
          go_wp2_with fail
          refine LR3.out.mono ?_
          rintro e w9 ⟨hb9, aL, cL, hs3, St3, rfl, hOL⟩
          have B9 := Lib.hid (BE9.out.trans (hb9.mono BE9.out.size))
          have hb9H := Lib.hid hb9
          have LS3 := Lib.hid (storeAll_any w9 aL cL lf hOL.rd (by omega) (fun v hv => by obtain ⟨m0, m1, m2, m3⟩ := svB_small (.inr (HO3.out v hv)); exact ⟨by omega, by omega, by omega, by omega⟩))
          rw [HST.out] at LS3
          dsimp only
          clear LR3 hb9 hOL hcv
          go_wp2_with fail
          refine LS3.out.mono ?_
          rintro e w10 ⟨rfl, hb10⟩
          have hcv := HCV.out w10 oo (below_then hb9H.out hb10) ho1'
          have B10 := Lib.hid (B9.out.trans (hb10.mono B9.out.size))
          clear hb10 LS3 hb9H
          dsimp only
          obtain ⟨Z, hZ⟩ : ∃ Z, Z = bs (L.take oo) := ⟨_, rfl⟩
          rw [← hZ] at hcv ⊢
          clear hZ
          have hzz : (Z.toList == Z.toList) = true := by simp
          have hocG : (oo : Int) ≤ (cG : Int) := by omega
          go_wp2_with fail
          go_ret
          exact ⟨rfl, B10.out⟩
end Go.Proofs.Yteclpcmbicjjgaa
