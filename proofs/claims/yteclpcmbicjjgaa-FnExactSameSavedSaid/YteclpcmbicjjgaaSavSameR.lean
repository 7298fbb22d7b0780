/-
  Are lists of saved games the same, as the reference asks.
-/
import Derived.Test.YteclpcmbicjjgaaSavSame
namespace Go.Proofs.Yteclpcmbicjjgaa
set_option linter.unusedVariables false
set_option linter.unusedSimpArgs false
open Go.RowKit

set_option maxRecDepth 10000 in
set_option maxHeartbeats 8000000 in
theorem sameSavedR_any (w : World) (a b : Option Addr) (cp dp : Nat) (vs us : List Sv) (h : RdSs w w.heap.size a vs) (g : RdSs w w.heap.size b us) (hlv : vs.length ≤ 1048576) (hlu : us.length ≤ 1048576) (hv : ∀ v ∈ vs, SvIn 1048576 v) (hu : ∀ v ∈ us, SvIn 1048576 v) :
    Calls Try.prog 16 #[.slice a vs.length cp, .slice b us.length dp] w fun e w' => e = .returned (.bool (sameSs vs us)) ∧ Below w.heap.size w w' := by
  by_cases hlen : vs.length = us.length
  case neg =>
    have hb1 : ((vs.length : Int) != (us.length : Int)) = true := by simp; omega
    have HF : Hid (sameSs vs us = false) := by simp [Hid, sameSs, hlen]
    clear h g hv hu
    go_enter Try.func16, Try.ntmps16
    go_wp2_with fail
    go_ret
    exact ⟨ret_bool HF.out.symm, Below.refl _ _⟩
  have hb1 : ((vs.length : Int) != (us.length : Int)) = false := by simp [hlen]
  have Hh := Lib.hid h
  have Hg := Lib.hid g
  have Hv := Lib.hid hv
  have Hu := Lib.hid hu
  have HL := Lib.hid hlen
  have HN : Hid (∀ k, k < vs.length → sameAt vs us k = false → sameSs vs us = false) := fun k hk h2 => sameSs_no hk h2
  have HY : Hid ((∀ k, k < vs.length → sameAt vs us k = true) → sameSs vs us = true) := fun h2 => sameSs_yes hlen h2
  clear h g hv hu hlen
  go_enter Try.func16, Try.ntmps16
  go_wp2_with fail
  go_loopw [13] (fun i wr => ∃ k : Nat, k ≤ vs.length ∧ i = .int .i64 k ∧ Hid (∀ j, j < k → sameAt vs us j = true) ∧ Below w.heap.size w wr) (fun i _ => vs.length - (intOf i).toNat)
  case atStart => exact ⟨0, Nat.zero_le _, rfl, fun j hj => absurd hj (Nat.not_lt_zero _), Below.refl _ _⟩
  case round =>
    obtain ⟨k, hk, rfl, hA, hw⟩ := hrel
    by_cases hlt : k < vs.length
    · obtain ⟨v, hv⟩ : ∃ v, vs[k]? = some v := ⟨vs[k], by simp⟩
      have hltu : k < us.length := by rw [← HL.out]; exact hlt
      obtain ⟨u, hu⟩ : ∃ u, us[k]? = some u := ⟨us[k], by simp⟩
      obtain ⟨b1, o1, aA, cA, aB, cB, aW, cW, rfl, hb1, e0, e1, e2, e3, e4, e5, e6, hr⟩ := (Hh.out.below hw (Nat.le_refl _)).get hv
      obtain ⟨b2, o2, bA, dA, bB, dB, bW, dW, rfl, hb2, g0, g1, g2, g3, g4, g5, g6, hs⟩ := (Hg.out.below hw (Nat.le_refl _)).get hu
      obtain ⟨_, v1, v2, v3⟩ := Hv.out v (List.mem_of_getElem? hv)
      obtain ⟨_, u1, u2, u3⟩ := Hu.out u (List.mem_of_getElem? hu)
      have hsz := hw.size
      have hlt1 : b1 < wr.heap.size := by omega
      have hlt2 : b2 < wr.heap.size := by omega
      have k0 : (0 : Int) ≤ (k : Int) := Int.natCast_nonneg _
      have k1 : (k : Int) < (vs.length : Int) := by omega
      have k2 : (k : Int) < (us.length : Int) := by omega
      have hr' := hr.mono hsz
      have hs' := hs.mono hsz
      have LG := Lib.hid (fun (w' : World) (hb : Below wr.heap.size wr w') => sameGameR_any w' v.R v.C aA cA v.A aB cB v.B u.R u.C bA dA u.A bB dB u.B (hr'.to hb).A (hs'.to hb).A v1 u1 (hr'.to hb).B (hs'.to hb).B v2 u2)
      have LW := Lib.hid (fun (w' : World) (hb : Below wr.heap.size wr w') => sameWorthsR_any w' v.P aW cW v.W u.P bW dW u.W (hr'.to hb).W (hs'.to hb).W v3 u3)
      have HS := Lib.hid (sameAt_of hv hu)
      have F0_0 : ∀ z : Later wr, z.w'.cell? ⟨b1, o1 + k * 7, none⟩ = some (.string v.s) := fun z => z.cell hlt1 e0
      have F0_1 : ∀ z : Later wr, z.w'.cell? ⟨b1, o1 + k * 7 + 1, none⟩ = some (.int .i64 v.R) := fun z => z.cell hlt1 e1
      have F0_2 : ∀ z : Later wr, z.w'.cell? ⟨b1, o1 + k * 7 + 2, none⟩ = some (.int .i64 v.C) := fun z => z.cell hlt1 e2
      have F0_3 : ∀ z : Later wr, z.w'.cell? ⟨b1, o1 + k * 7 + 1 + 1, none⟩ = some (.int .i64 v.C) := fun z => z.cell hlt1 e2
      have F0_4 : ∀ z : Later wr, z.w'.cell? ⟨b1, o1 + k * 7 + 3, none⟩ = some (.slice aA v.A.length cA) := fun z => z.cell hlt1 e3
      have F0_5 : ∀ z : Later wr, z.w'.cell? ⟨b1, o1 + k * 7 + 1 + 2, none⟩ = some (.slice aA v.A.length cA) := fun z => z.cell hlt1 e3
      have F0_6 : ∀ z : Later wr, z.w'.cell? ⟨b1, o1 + k * 7 + 4, none⟩ = some (.slice aB v.B.length cB) := fun z => z.cell hlt1 e4
      have F0_7 : ∀ z : Later wr, z.w'.cell? ⟨b1, o1 + k * 7 + 1 + 3, none⟩ = some (.slice aB v.B.length cB) := fun z => z.cell hlt1 e4
      have F0_8 : ∀ z : Later wr, z.w'.cell? ⟨b1, o1 + k * 7 + 5, none⟩ = some (.int .i64 v.P) := fun z => z.cell hlt1 e5
      have F0_9 : ∀ z : Later wr, z.w'.cell? ⟨b1, o1 + k * 7 + 6, none⟩ = some (.slice aW v.W.length cW) := fun z => z.cell hlt1 e6
      have F0_10 : ∀ z : Later wr, z.w'.cell? ⟨b1, o1 + k * 7 + 5 + 1, none⟩ = some (.slice aW v.W.length cW) := fun z => z.cell hlt1 e6
      have F1_0 : ∀ z : Later wr, z.w'.cell? ⟨b2, o2 + k * 7, none⟩ = some (.string u.s) := fun z => z.cell hlt2 g0
      have F1_1 : ∀ z : Later wr, z.w'.cell? ⟨b2, o2 + k * 7 + 1, none⟩ = some (.int .i64 u.R) := fun z => z.cell hlt2 g1
      have F1_2 : ∀ z : Later wr, z.w'.cell? ⟨b2, o2 + k * 7 + 2, none⟩ = some (.int .i64 u.C) := fun z => z.cell hlt2 g2
      have F1_3 : ∀ z : Later wr, z.w'.cell? ⟨b2, o2 + k * 7 + 1 + 1, none⟩ = some (.int .i64 u.C) := fun z => z.cell hlt2 g2
      have F1_4 : ∀ z : Later wr, z.w'.cell? ⟨b2, o2 + k * 7 + 3, none⟩ = some (.slice bA u.A.length dA) := fun z => z.cell hlt2 g3
      have F1_5 : ∀ z : Later wr, z.w'.cell? ⟨b2, o2 + k * 7 + 1 + 2, none⟩ = some (.slice bA u.A.length dA) := fun z => z.cell hlt2 g3
      have F1_6 : ∀ z : Later wr, z.w'.cell? ⟨b2, o2 + k * 7 + 4, none⟩ = some (.slice bB u.B.length dB) := fun z => z.cell hlt2 g4
      have F1_7 : ∀ z : Later wr, z.w'.cell? ⟨b2, o2 + k * 7 + 1 + 3, none⟩ = some (.slice bB u.B.length dB) := fun z => z.cell hlt2 g4
      have F1_8 : ∀ z : Later wr, z.w'.cell? ⟨b2, o2 + k * 7 + 5, none⟩ = some (.int .i64 u.P) := fun z => z.cell hlt2 g5
      have F1_9 : ∀ z : Later wr, z.w'.cell? ⟨b2, o2 + k * 7 + 6, none⟩ = some (.slice bW u.W.length dW) := fun z => z.cell hlt2 g6
      have F1_10 : ∀ z : Later wr, z.w'.cell? ⟨b2, o2 + k * 7 + 5 + 1, none⟩ = some (.slice bW u.W.length dW) := fun z => z.cell hlt2 g6
      clear e0 e1 e2 e3 e4 e5 e6 g0 g1 g2 g3 g4 g5 g6 hr hs hr' hs' hv hu v1 v2 v3 u1 u2 u3
      cases t0 : (v.s.toList == u.s.toList) with
      | false =>
        have hS : sameSv v u = false := by simp [sameSv, t0]
        have HF := Lib.hid (HN.out k hlt (HS.out.trans hS))
        clear HS hS HN HY hA
        go_wp2_with fail
        refine wp_region_later (by kernel_rfl) (by kernel_rfl) ?_
        repeat (go_big_quiet_step (first | (go_at_call 45; exact later_of (LG.out _ (Later.h _))) | (go_at_call 46; exact later_of (LW.out _ (Later.h _)))))
        refine wpQuiet_nil ?_
        rintro _ ⟨⟨wq, hbq⟩, rfl⟩
        clear F0_0 F0_1 F0_2 F0_3 F0_4 F0_5 F0_6 F0_7 F0_8 F0_9 F0_10 F1_0 F1_1 F1_2 F1_3 F1_4 F1_5 F1_6 F1_7 F1_8 F1_9 F1_10
        have HB := Lib.hid (hw.trans (hbq.mono hsz))
        clear hbq LG LW
        go_wp2_with fail
        go_ret
        exact ⟨ret_bool HF.out.symm, HB.out⟩
      | true =>
      cases t1 : sameG v.R v.C v.A v.B u.R u.C u.A u.B with
      | false =>
        have hS : sameSv v u = false := by simp [sameSv, t1]
        rw [t1] at LG
        clear t1
        have HF := Lib.hid (HN.out k hlt (HS.out.trans hS))
        clear HS hS HN HY hA
        go_wp2_with fail
        refine wp_region_later (by kernel_rfl) (by kernel_rfl) ?_
        repeat (go_big_quiet_step (first | (go_at_call 45; exact later_of (LG.out _ (Later.h _))) | (go_at_call 46; exact later_of (LW.out _ (Later.h _)))))
        refine wpQuiet_nil ?_
        rintro _ ⟨⟨wq, hbq⟩, rfl⟩
        clear F0_0 F0_1 F0_2 F0_3 F0_4 F0_5 F0_6 F0_7 F0_8 F0_9 F0_10 F1_0 F1_1 F1_2 F1_3 F1_4 F1_5 F1_6 F1_7 F1_8 F1_9 F1_10
        have HB := Lib.hid (hw.trans (hbq.mono hsz))
        clear hbq LG LW
        go_wp2_with fail
        go_ret
        exact ⟨ret_bool HF.out.symm, HB.out⟩
      | true =>
      rw [t1] at LG
      cases t2 : sameWo v.P v.W u.P u.W with
      | false =>
        have hS : sameSv v u = false := by simp [sameSv, t2]
        rw [t2] at LW
        clear t1 t2
        have HF := Lib.hid (HN.out k hlt (HS.out.trans hS))
        clear HS hS HN HY hA
        go_wp2_with fail
        refine wp_region_later (by kernel_rfl) (by kernel_rfl) ?_
        repeat (go_big_quiet_step (first | (go_at_call 45; exact later_of (LG.out _ (Later.h _))) | (go_at_call 46; exact later_of (LW.out _ (Later.h _)))))
        refine wpQuiet_nil ?_
        rintro _ ⟨⟨wq, hbq⟩, rfl⟩
        clear F0_0 F0_1 F0_2 F0_3 F0_4 F0_5 F0_6 F0_7 F0_8 F0_9 F0_10 F1_0 F1_1 F1_2 F1_3 F1_4 F1_5 F1_6 F1_7 F1_8 F1_9 F1_10
        have HB := Lib.hid (hw.trans (hbq.mono hsz))
        clear hbq LG LW
        go_wp2_with fail
        go_ret
        exact ⟨ret_bool HF.out.symm, HB.out⟩
      | true =>
        have hS : sameSv v u = true := by simp [sameSv, t0, t1, t2]
        rw [t2] at LW
        clear t1 t2
        have hA2 : Hid (∀ j, j < k + 1 → sameAt vs us j = true) := fun j hj => by
          by_cases hjk : j = k
          · rw [hjk]; exact HS.out.trans hS
          · exact hA.out j (by omega)
        clear HS hS HN HY hA
        go_wp2_with fail
        refine wp_region_later (by kernel_rfl) (by kernel_rfl) ?_
        repeat (go_big_quiet_step (first | (go_at_call 45; exact later_of (LG.out _ (Later.h _))) | (go_at_call 46; exact later_of (LW.out _ (Later.h _)))))
        refine wpQuiet_nil ?_
        rintro _ ⟨⟨wq, hbq⟩, rfl⟩
        clear F0_0 F0_1 F0_2 F0_3 F0_4 F0_5 F0_6 F0_7 F0_8 F0_9 F0_10 F1_0 F1_1 F1_2 F1_3 F1_4 F1_5 F1_6 F1_7 F1_8 F1_9 F1_10
        have HB := Lib.hid (hw.trans (hbq.mono hsz))
        clear hbq LG LW
        go_wp2_with fail
        go_roundw
        case rel => exact ⟨k + 1, by omega, by go_num, hA2, HB.out⟩
        case measure => first | (simp [intOf]; done) | (simp [intOf]; omega)
    · have : k = vs.length := by omega
      subst this
      have HF := Lib.hid (HY.out hA.out)
      clear hA
      go_wp2_with fail
      go_ret
      exact ⟨ret_bool HF.out.symm, hw⟩
end Go.Proofs.Yteclpcmbicjjgaa
