/-
  RoundsOf of the reference: its walk.
-/
import Derived.Test.YthofpfnccgfohaaRounds
namespace Go.Proofs.Ythofpfnccgfohaa
set_option linter.unusedVariables false
set_option linter.unusedSimpArgs false
open Go.RowKit

set_option maxRecDepth 10000 in
set_option maxHeartbeats 8000000 in
theorem roundsR_any (w : World) (a : Option Addr) (c : Nat) (yss : List (List Int)) (h : RdII w w.heap.size a yss) (hl : yss.length ≤ 1048576) (hin : ∀ b ∈ yss, b.length ≤ 1048576) :
    Calls Try.prog 11 #[.slice a yss.length c] w (RetI 2 w (roundsF yss)) := by
  unfold roundsF
  have L := Lib.hid (l07Ballots_any w a c yss h (by omega) (fun b hb => by have := hin b hb; omega))
  cases hv : ballotsB yss with
  | false =>
    rw [hv] at L
    clear h hin
    simp only [Bool.false_eq_true, if_false]
    go_enter Try.func11, Try.ntmps11
    go_wp2_with fail
    refine L.out.mono ?_
    rintro e w0 ⟨rfl, m0, rfl⟩
    go_wp2_with fail
    go_ret2
    exact RetI.no (drewN_below w m0)
  | true =>
    rw [hv] at L
    simp only [if_true]
    obtain ⟨⟨hl1, hl2⟩, ⟨hw1, hw2⟩, hall⟩ := ballotsB_iff.1 hv
    have hin2 : ∀ b ∈ yss, b.length = wide yss := fun b hb => (orderB_iff.1 (hall b hb)).2.2
    obtain ⟨b, o, y0, a0, c0, rfl, hbb, hcell0, hc0, hr0, hy0⟩ := h.get (k := 0) (by omega)
    rw [Nat.add_zero] at hcell0
    have hw0 := wide_of_get hy0.out
    have Hall := Lib.hid hall
    have Hin := Lib.hid hin2
    rw [hw0] at Hall Hin hw1 hw2 ⊢
    clear hall hin hin2 hw0
    generalize y0.length = n at *
    go_enter Try.func11, Try.ntmps11
    go_wp2_with fail
    refine L.out.mono ?_
    rintro e w0 ⟨rfl, m0, rfl⟩
    clear L
    go_wp2_with (at_make; refine wpList_make_blk _ rfl _ _ 45 rfl 4 (.bool false) 1 Try.underlying45 info_bool rfl _ _ n rfl rfl (by omega) (by unfold maxLen; omega) ?_)
    intro w1 hb1 hbw hs1
    rw [goneL_nil] at hb1
    have hbel := (below_then (drewN_below w m0) hbw).alloc (by rw [hs1]; exact Nat.le_succ _) (.cells #[] 2)
    have hb1' := hb1.alloc (.cells #[] 2)
    have hown := own_empty w1 2
    have hs1' : w1.heap.size = w.heap.size + 1 := hs1
    clear hcell0 hr0 hbw hb1 hs1
    go_wp2_with fail
    go_loopw [6] (fun ov wr => ∃ (t : Nat) (v : Value), t ≤ n ∧ ov = v ∧ Hid (wr.ownsRow (w.heap.size + 1) 2 1 v t (ints (rdF n yss t))) ∧ Blk wr w.heap.size (goneL n (rdF n yss t)) 4 ∧ Below w.heap.size w wr) (fun ov _ => n - (match ov with | .slice _ l _ => l | _ => 0))
    case atStart => exact ⟨0, _, Nat.zero_le _, rfl, by show World.ownsRow _ _ _ _ _ _ _; rw [← hs1']; exact hown, hb1', hbel⟩
    case round =>
      clear hb1' hbel hown
      obtain ⟨t, v, ht, rfl, ho, hg, hw⟩ := hrel
      obtain ⟨av, cv, rfl, hcv, hnil⟩ := own_shape ho.out
      have ol := Lib.hid (rdF_length n yss t)
      have oW := Lib.hid (fun h => @rdF_worst n t yss h)
      have oS : Hid (rdF n yss (t + 1) = roundF n yss (rdF n yss t)) := rfl
      generalize hout : rdF n yss t = out at *
      have Hout := Lib.hid hout
      clear hout
      by_cases hlt : t < n
      · have hb := h.below hw (Nat.le_refl _)
        clear hnil h
        go_wp2_with (at_make; refine wpList_make_blk _ rfl _ _ 26 rfl 2 (.int .i64 0) 8 Try.underlying26 info_i64p rfl _ _ n rfl rfl (by omega) (by unfold maxLen; omega) ?_)
        intro w2 hb2 hbw2 hs2
        rw [ints_replicate] at hb2
        obtain ⟨wo, rfl⟩ : ∃ wo : World, wo = wr := ⟨_, rfl⟩
        have hsz := hw.size
        go_wp2_with fail
        go_loopw [30] (fun i wi => ∃ k : Nat, k ≤ yss.length ∧ i = .int .i64 k ∧ Blk wi wo.heap.size (ints (cntF n out yss k)) 2 ∧ Below wo.heap.size wo wi) (fun i _ => yss.length - (intOf i).toNat)
        case atStart => exact ⟨0, Nat.zero_le _, rfl, hb2, hbw2⟩
        case round =>
          clear hb2 hbw2 hs2
          obtain ⟨k, hk, rfl, hc, hwi⟩ := hrel
          by_cases hkl : k < yss.length
          · obtain ⟨b1, o1, ys, a1, c1, e1, _, hcell, hc1, hr1, hy1⟩ := (hb.below hwi hsz).get hkl
            injection e1 with e1
            injection e1 with e11 e12
            subst e11 e12
            have hord := Hall.out _ (List.mem_of_getElem? hy1.out)
            have hys := Hin.out _ (List.mem_of_getElem? hy1.out)
            obtain ⟨f, hf, hfe, hfb, hfn⟩ := first_spec (out := out) (n := n) (by rw [ol.out]; exact hlt) hord
            have HS : Hid (cntF n out yss (k + 1) = addAt (cntF n out yss k) (firstOf out ys) 1) := by
              show addAt _ (firstOf out (yss.getD k [])) 1 = _
              rw [show yss.getD k [] = ys from by simp [List.getD, hy1.out]]
            have hbd := cntF_bd n out yss k (firstOf out ys)
            have hcl := cntF_length n out yss k
            generalize cntF n out yss k = cs at *
            obtain ⟨p, hp, hpn⟩ := order_get hord (k := f) (by omega)
            have hpo : firstOf out ys = p := by
              unfold firstOf
              rw [hfe, Int.toNat_natCast, getD_of_get hp, Int.toNat_natCast]
            rw [hpo] at HS hbd
            have hpb := hfn
            rw [getD_of_get hp] at hpb
            have hcp := hc.at (k := p) (by omega)
            have hfp := hc.free p
            have hset := hc.setI p (cs.getD p 0 + 1)
            rw [show cs.set p (cs.getD p 0 + 1) = cntF n out yss (k + 1) from HS.out.symm] at hset
            have hbel := below_sto hwi (Nat.le_refl _) p (.int .i64 (cs.getD p 0 + 1))
            have hgw := hg.same hwi
            have Hfb := Lib.hid hfb
            have Hpb := Lib.hid hpb
            have Hp := Lib.hid hp
            have Hord := Lib.hid hord
            clear hfb hfn hpb hpo hp HS hc hord hcl
            generalize cs.getD p 0 = cv' at *
            obtain ⟨hbd0, hbd1⟩ := hbd
            go_wp2_with fail
            go_loop [9] (fun kv => ∃ q : Nat, q ≤ f ∧ kv = .int .i64 q) (fun kv => f - (intOf kv).toNat)
            case atStart => exact ⟨0, Nat.zero_le _, rfl⟩
            case round =>
              obtain ⟨q, hq, rfl⟩ := hrel
              by_cases hqf : q < f
              · obtain ⟨b2, o2, x, rfl, hb2, hcx, hx⟩ := hr1.get (k := q) (by omega)
                obtain ⟨z, hz, hzn⟩ := order_get Hord.out (k := q) (by omega)
                have hxz := hx.out
                rw [hz] at hxz
                injection hxz with hxz
                subst hxz
                have hgz := hgw.cell z
                rw [goneL_get hzn, show hasB out z = true from by have := Hfb.out q hqf; rwa [getD_of_get hz] at this] at hgz
                clear hset hbel hz hr1
                go_wp2
                go_round
                case rel => exact ⟨q + 1, by omega, by go_num⟩
                case measure => simp [intOf]; omega
              · have : q = f := by omega
                subst this
                obtain ⟨b2, o2, x, rfl, hb2, hcx, hx⟩ := hr1.get (k := q) (by omega)
                have hxz := hx.out
                rw [Hp.out] at hxz
                injection hxz with hxz
                subst hxz
                have hgz := hgw.cell p
                rw [goneL_get hpn, Hpb.out] at hgz
                clear hr1 hx
                go_wp2
                go_roundw
                case rel => exact ⟨k + 1, by omega, by go_num, hset, hbel⟩
                case measure => simp [intOf]; omega
          · have : k = yss.length := by omega
            subst this
            obtain ⟨q, hqn, hqw⟩ := oW.out hlt
            have hcl := cntF_length n out yss yss.length
            have oS2 : Hid (rdF n yss (t + 1) = out ++ [worstF out (cntF n out yss yss.length) n]) := oS.out
            generalize cntF n out yss yss.length = cs at *
            rw [hqw] at oS2
            have Hqw := Lib.hid hqw
            have Hcl := Lib.hid hcl
            have hgw := hg.same hwi
            have hsz2 := hwi.size
            clear oS hqw hcl
            obtain ⟨wp, rfl⟩ : ∃ wp : World, wp = wr := ⟨_, rfl⟩
            go_wp2_with fail
            go_loopw [60, 10] (fun i wv wi => ∃ (k m : Nat), k ≤ n ∧ i = .int .i64 k ∧ wv = .int .i64 (worstF out cs k) ∧ wi = wp.drewN m) (fun i _ _ => n - (intOf i).toNat)
            case atStart => exact ⟨0, 0, Nat.zero_le _, rfl, rfl, rfl⟩
            case round =>
              obtain ⟨k, m, hk, rfl, rfl, rfl⟩ := hrel
              by_cases hkn : k < n
              · have hgz := hgw.cell k
                rw [goneL_get hkn] at hgz
                have hck := hc.at (k := k) (by rw [Hcl.out]; exact hkn)
                obtain ⟨u0, u1⟩ := worstF_bd out cs k
                have HS : Hid (worstF out cs (k + 1) = if !hasB out k && (decide (worstF out cs k < 0) || decide (cs.getD k 0 ≤ cs.getD (worstF out cs k).toNat 0)) then (k : Int) else worstF out cs k) := rfl
                have hcu : ∀ u : Nat, worstF out cs k = u → wp.cell? ⟨wo.heap.size, u, none⟩ = some (.int .i64 (cs.getD u 0)) := fun u hu => hc.at (by rw [Hcl.out]; omega)
                generalize worstF out cs k = wv at *
                cases t1 : hasB out k with
                | true =>
                  rw [t1] at hgz HS
                  have HS2 : Hid (worstF out cs (k + 1) = wv) := HS.out
                  clear HS t1 hcu hc hgw hg
                  go_wp2_with fail
                  go_quiet (fail)
                  go_wp2_with fail
                  go_roundw
                  case rel => exact ⟨k + 1, m + nq, by omega, by go_num, by rw [HS2.out], by first | rfl | exact World.drewN_drewN _ _ _⟩
                  case measure => simp [intOf]; omega
                | false =>
                  rw [t1] at hgz HS
                  by_cases h0 : wv < 0
                  · have HS2 : Hid (worstF out cs (k + 1) = (k : Int)) := by rw [Hid, HS.out, decide_eq_true h0]; rfl
                    clear HS t1 hcu hc hgw hg
                    go_wp2_with fail
                    go_quiet (fail)
                    go_wp2_with fail
                    go_roundw
                    case rel => exact ⟨k + 1, m + nq, by omega, by go_num, by rw [HS2.out], by first | rfl | exact World.drewN_drewN _ _ _⟩
                    case measure => simp [intOf]; omega
                  · obtain ⟨u, rfl⟩ : ∃ u : Nat, wv = u := ⟨wv.toNat, by omega⟩
                    have hcu2 := hcu u rfl
                    rw [Int.toNat_natCast] at HS
                    have huk : u < n := by omega
                    by_cases hle : cs.getD k 0 ≤ cs.getD u 0
                    · have HS2 : Hid (worstF out cs (k + 1) = (k : Int)) := by rw [Hid, HS.out, decide_eq_true hle, Bool.or_true]; rfl
                      clear HS t1 hcu hc hgw hg
                      generalize cs.getD k 0 = x1 at *
                      generalize cs.getD u 0 = x2 at *
                      go_wp2_with fail
                      go_quiet (fail)
                      go_wp2_with fail
                      go_roundw
                      case rel => exact ⟨k + 1, m + nq, by omega, by go_num, by rw [HS2.out], by first | rfl | exact World.drewN_drewN _ _ _⟩
                      case measure => simp [intOf]; omega
                    · have HS2 : Hid (worstF out cs (k + 1) = (u : Int)) := by rw [Hid, HS.out, decide_eq_false hle, decide_eq_false h0]; rfl
                      clear HS t1 hcu hc hgw hg
                      generalize cs.getD k 0 = x1 at *
                      generalize cs.getD u 0 = x2 at *
                      go_wp2_with fail
                      go_quiet (fail)
                      go_wp2_with fail
                      go_roundw
                      case rel => exact ⟨k + 1, m + nq, by omega, by go_num, by rw [HS2.out], by first | rfl | exact World.drewN_drewN _ _ _⟩
                      case measure => simp [intOf]; omega
              · have : k = n := by omega
                subst this
                rw [Hqw.out]
                have hfq := (hgw.drewN m).free q
                obtain ⟨old, hold⟩ := (hgw.drewN m).has (j := q) (by rw [goneL_length]; exact hqn)
                have hset := (hgw.drewN m).set q (.bool true)
                rw [goneL_set, ← oS2.out] at hset
                have hbx : Below wo.heap.size wo (wp.drewN m) := below_drewN hwi m
                have hown2 := own_below ho.out hbx
                have hgr2 : (wp.drewN m).grownBy ((wp.drewN m).setCell ⟨w.heap.size, q, none⟩ (.bool true)) (some w.heap.size) := ⟨rfl, rfl, rfl, by simp, fun i _ hi => Below.heap_setCell _ _ _ _ (fun e => hi (by simp [e]))⟩
                have hown3 := own_grown hown2 hgr2 (by omega)
                have hw3 := below_sto (hw.trans (hbx.mono hsz)) (Nat.le_refl _) q (.bool true)
                have hsz3 : w.heap.size + 1 ≤ ((wp.drewN m).setCell ⟨w.heap.size, q, none⟩ (.bool true)).heap.size := by have := hgw.lt; simp; omega
                clear hgw hc hbx hown2 hgr2 hg ho hwi
                go_wp2_with (at_builtin; refine wpList_append_one _ rfl _ _ 26 rfl (w.heap.size + 1) 2 (.int .i64 0) 8 Try.underlying26 info_i64p rfl _ t _ rfl hown3 (.int .i64 q) rfl (by first | rfl | (show Value.slice (some ⟨wp.heap.size, 0, none⟩) 1 1 = _; simp)) (by omega) (by omega) hsz3 ?_)
                intro v' w9 ho9 hgr9
                have hb9 := below_append hw3 hown3 hgr9 (Nat.le_succ _) (Nat.le_of_succ_le hsz3)
                have hg9 := hset.grown hgr9 (own_block_ne hown3 (Nat.lt_succ_self _))
                rw [show ints out ++ [Value.int .i64 q] = ints (rdF k yss (t + 1)) from by rw [oS2.out, ints_append]; rfl] at ho9
                obtain ⟨av9, cv9, rfl, hcv9, _⟩ := own_shape ho9
                have Ho9 := Lib.hid ho9
                clear hown3 hw3 hset hgr9 ho9
                go_wp2
                go_roundw
                case rel => exact ⟨t + 1, _, by omega, rfl, Ho9, hg9, hb9⟩
                case measure => simp; omega
      · have : t = n := by omega
        subst this
        have hR : RetI 2 w (some out) (.returned (.tuple #[.slice av t cv, .bool true])) wr := ⟨hw, av, cv, by rw [ol.out], by rw [ol.out]; exact own_base ho.out (by omega)⟩
        rw [← Hout.out] at hR
        have HR := Lib.hid hR
        clear hR
        go_wp2
        go_ret2
        exact HR.out
end Go.Proofs.Ythofpfnccgfohaa
