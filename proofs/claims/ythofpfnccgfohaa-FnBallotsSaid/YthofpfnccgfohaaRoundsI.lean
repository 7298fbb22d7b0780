/-
  RoundsOf of the program: its walk.
-/
import Derived.Test.YthofpfnccgfohaaRounds
namespace Go.Proofs.Ythofpfnccgfohaa
set_option linter.unusedVariables false
set_option linter.unusedSimpArgs false
open Go.RowKit

theorem own_ne {w : World} {base e b t : Nat} {v : Value} {n : Nat} {xs cs : List Value} (h : w.ownsRow base e 1 v n xs) (hb : Blk w b cs t) (hne : e ≠ t) : some b ≠ v.ownBlock := by
  rcases h.2 with ⟨h2, h3⟩ | ⟨g, cap, cur, hv, hg, hh, r⟩
  · subst h2; simp [Value.ownBlock]
  · subst hv
    intro e1
    have : b = g := by simpa [Value.ownBlock] using e1
    subst this
    have := hb.symm.trans hh
    simp at this
    exact hne this.2.symm
theorem hasB_containsI (xs : List Int) (v : Int) : containsI xs v = hasB xs v := by
  rw [Bool.eq_iff_iff, containsI_iff, hasB_iff]
theorem enter_rounds (args : Array Value) (w : World) : (callFunc 26 args).run Try.prog w = .ok (.enter 26 args) w := by kernel_rfl
theorem roundsK_any (w : World) (bx t cv : Nat) (av : Option Addr) (out : List Int) (x : Int) (hb : w.cell? ⟨bx, 0, none⟩ = some (.slice av t cv)) (ht : out.length = t) (hr : Rd w w.heap.size av (ints out)) (hl : t ≤ 1048576) :
    Calls Try.prog 26 #[.int .i64 x, .pointer (some ⟨bx, 0, none⟩)] w fun e w' => e = .returned (.bool (!hasB out x)) ∧ w = w' := by
  subst ht
  have L := Lib.hid (contains_any w av cv out x hr (by omega))
  rw [hasB_containsI] at L
  clear hr
  generalize hasB out x = bb at *
  go_enter Try.func26, Try.ntmps26
  go_wp2_with fail
  refine L.out.mono ?_
  rintro e w1 ⟨rfl, rfl⟩
  go_wp2_with fail
  go_ret
  exact ⟨rfl, rfl⟩
set_option maxRecDepth 10000 in
set_option maxHeartbeats 8000000 in
theorem rounds_any (w : World) (a : Option Addr) (c : Nat) (yss : List (List Int)) (h : RdII w w.heap.size a yss) (hl : yss.length ≤ 1048576) (hin : ∀ b ∈ yss, b.length ≤ 1048576) :
    Calls Try.prog 10 #[.slice a yss.length c] w (RetI 2 w (roundsF yss)) := by
  unfold roundsF
  have L := Lib.hid (areBallots_any w a c yss h hl hin)
  cases hv : ballotsB yss with
  | false =>
    rw [hv] at L
    clear h hin
    simp only [Bool.false_eq_true, if_false]
    go_enter Try.func10, Try.ntmps10
    go_wp2_with fail
    refine L.out.mono ?_
    rintro e w0 ⟨rfl, hw0⟩
    go_wp2_with fail
    go_ret2
    exact RetI.no hw0
  | true =>
    rw [hv] at L
    simp only [if_true]
    obtain ⟨⟨hl1, hl2⟩, ⟨hw1, hw2⟩, hall⟩ := ballotsB_iff.1 hv
    have hin2 : ∀ b ∈ yss, b.length = wide yss := fun b hb => (orderB_iff.1 (hall b hb)).2.2
    obtain ⟨b, o, y0, a0, c0, rfl, hbb, hcell0, hc0, hr0, hy0⟩ := h.get (k := 0) (by omega)
    rw [Nat.add_zero] at hcell0
    have hwd := wide_of_get hy0.out
    have Hall := Lib.hid hall
    have Hin := Lib.hid hin2
    rw [hwd] at Hall Hin hw1 hw2 ⊢
    clear hall hin hin2 hwd
    generalize y0.length = n at *
    go_enter Try.func10, Try.ntmps10
    go_wp2_with fail
    refine L.out.mono ?_
    rintro e w0 ⟨rfl, hw0⟩
    rw [← hw0.cell (p := ⟨b, o, none⟩) hbb] at hcell0
    clear L
    have hown : (((w0.alloc (Obj.cells #[] 2)).alloc (Obj.cells #[Value.slice (some { block := w0.heap.size, off := 0 }) 0 0] 26))).ownsRow w0.heap.size 2 1 (Value.slice (some { block := w0.heap.size, off := 0 }) 0 0) 0 (ints []) := (own_empty w0 2).alloc _
    have hbx := Blk.new (w0.alloc (Obj.cells #[] 2)) [Value.slice (some { block := w0.heap.size, off := 0 }) 0 0] 26
    have hbel := below_then hw0 (bl2 w0 (Obj.cells #[] 2) (Obj.cells #[Value.slice (some { block := w0.heap.size, off := 0 }) 0 0] 26))
    rw [World.size_alloc] at hbx
    have hsz0 := hw0.size
    clear hw0 hr0
    go_wp2_with fail
    go_loopw [6] (fun _ wr => ∃ (t : Nat) (v : Value), t ≤ n ∧ Blk wr (w0.heap.size + 1) [v] 26 ∧ Hid (wr.ownsRow w0.heap.size 2 1 v t (ints (rdF n yss t))) ∧ Below w.heap.size w wr) (fun _ wr => n - (match wr.cell? ⟨w0.heap.size + 1, 0, none⟩ with | some (.slice _ l _) => l | _ => 0))
    case atStart => exact ⟨0, _, Nat.zero_le _, hbx, hown, hbel⟩
    case round =>
      clear hbx hbel hown
      obtain ⟨t, v, ht, hbx, ho, hw⟩ := hrel
      obtain ⟨av, cv, rfl, hcv, hnil⟩ := own_shape ho.out
      have hcx := hbx.cell 0
      simp only [List.getElem?_cons_zero] at hcx
      have ol := Lib.hid (rdF_length n yss t)
      have oW := Lib.hid (fun h => @rdF_worst n t yss h)
      have oS : Hid (rdF n yss (t + 1) = roundF n yss (rdF n yss t)) := rfl
      generalize hout : rdF n yss t = out at *
      have Hout := Lib.hid hout
      clear hout
      by_cases hlt : t < n
      · have hb := h.below hw (Nat.le_refl _)
        clear hnil h
        go_wp2_with (at_make; refine wpList_make_blk _ rfl _ _ 26 rfl 2 (.int .i64 0) 8 Try.underlying26 info_i64p rfl _ _ n rfl rfl (by omega) (by unfold maxLen; omega) ?_)
        intro w2 hb2 hbw2 hs2
        rw [ints_replicate] at hb2
        obtain ⟨wo, rfl⟩ : ∃ wo : World, wo = wr := ⟨_, rfl⟩
        have hsz := hw.size
        have hbxl := hbx.lt
        go_wp2_with fail
        go_loopw [28] (fun i wi => ∃ k : Nat, k ≤ yss.length ∧ i = .int .i64 k ∧ Blk wi wo.heap.size (ints (cntF n out yss k)) 2 ∧ Below wo.heap.size wo wi) (fun i _ => yss.length - (intOf i).toNat)
        case atStart => exact ⟨0, Nat.zero_le _, rfl, hb2, hbw2⟩
        case round =>
          clear hb2 hbw2 hs2
          obtain ⟨k, hk, rfl, hc, hwi⟩ := hrel
          by_cases hkl : k < yss.length
          · obtain ⟨b1, o1, ys, a1, c1, e1, _, hcell, hc1, hr1, hy1⟩ := (hb.below hwi hsz).get hkl
            injection e1 with e1
            injection e1 with e11 e12
            subst e11 e12
            have hord := Hall.out _ (List.mem_of_getElem? hy1.out)
            have hys := Hin.out _ (List.mem_of_getElem? hy1.out)
            obtain ⟨f, hf, hfe, hfb, hfn⟩ := first_spec (out := out) (n := n) (by rw [ol.out]; exact hlt) hord
            have HS : Hid (cntF n out yss (k + 1) = addAt (cntF n out yss k) (firstOf out ys) 1) := by
              show addAt _ (firstOf out (yss.getD k [])) 1 = _
              rw [show yss.getD k [] = ys from by simp [List.getD, hy1.out]]
            have hbd := cntF_bd n out yss k (firstOf out ys)
            have hcl := cntF_length n out yss k
            generalize cntF n out yss k = cs at *
            obtain ⟨p, hp, hpn⟩ := order_get hord (k := f) (by omega)
            have hpo : firstOf out ys = p := by
              unfold firstOf
              rw [hfe, Int.toNat_natCast, getD_of_get hp, Int.toNat_natCast]
            rw [hpo] at HS hbd
            have hwsz := hwi.size
            have hoi := rd_of_own (own_below ho.out hwi) (Nat.le_refl _)
            have hbxi := hbx.same hwi
            have LI := indexFunc_I 26 #[.pointer (some ⟨w0.heap.size + 1, 0, none⟩)] enter_rounds wr a1 c1 (ints ys) (fun j => !hasB out (ys.getD j 0)) (hr1.mono (by omega)) (by rw [ints_length]; omega) (by
              intro w4 j v4 hw4 hv4
              have hj : j < ys.length := by
                have := (List.getElem?_eq_some_iff.1 hv4).1
                simpa using this
              rw [ints_get _ _ hj] at hv4
              injection hv4 with hv4
              subst hv4
              refine (roundsK_any w4 (w0.heap.size + 1) t cv av out (ys.getD j 0) ?_ ol.out ((hoi.below hw4 (Nat.le_refl _)).mono hw4.size) (by omega)).mono ?_
              · have := (hbxi.same hw4).cell 0
                simpa using this
              · rintro e w5 ⟨e1, e2⟩
                exact ⟨e1, by rw [← e2]; exact Below.refl _ _⟩)
            rw [ints_length, show findI (fun j => !hasB out (ys.getD j 0)) ys.length = f from hfe] at LI
            rw [hys] at LI
            have LI' := Lib.hid LI
            have Hp := Lib.hid hp
            have Hcl := Lib.hid hcl
            clear LI hfb hfn hpo hp hord hcl hoi hbxi hfe
            have hlt1 := hc.lt
            go_wp2_with fail
            refine LI'.out.mono ?_
            rintro e w4 ⟨rfl, hb4⟩
            have hc4 := hc.same hb4
            have hwi4 := hwi.trans (hb4.mono hwsz)
            have hr4 := hr1.below hb4 (by omega)
            obtain ⟨b2, o2, x, rfl, hb2, hcx, hx⟩ := hr4.get (k := f) (by omega)
            have hxz := hx.out
            rw [Hp.out] at hxz
            injection hxz with hxz
            subst hxz
            have hcp := hc4.at (k := p) (by rw [Hcl.out]; exact hpn)
            have hfp := hc4.free p
            have hset := hc4.setI p (cs.getD p 0 + 1)
            rw [show cs.set p (cs.getD p 0 + 1) = cntF n out yss (k + 1) from HS.out.symm] at hset
            have hbel := below_sto hwi4 (Nat.le_refl _) p (.int .i64 (cs.getD p 0 + 1))
            clear hc hc4 hwi hwi4 hb4 hx HS hr1 hr4 LI'
            generalize cs.getD p 0 = cv' at *
            obtain ⟨hbd0, hbd1⟩ := hbd
            go_wp2_with fail
            go_roundw
            case rel => exact ⟨k + 1, by omega, by go_num, hset, hbel⟩
            case measure => simp [intOf]; omega
          · have : k = yss.length := by omega
            subst this
            obtain ⟨q, hqn, hqw⟩ := oW.out hlt
            have hcl := cntF_length n out yss yss.length
            have oS2 : Hid (rdF n yss (t + 1) = out ++ [worstF out (cntF n out yss yss.length) n]) := oS.out
            generalize cntF n out yss yss.length = cs at *
            rw [hqw] at oS2
            have Hqw := Lib.hid hqw
            have Hcl := Lib.hid hcl
            have hbw := hbx.same hwi
            have hsz2 := hwi.size
            have how := Lib.hid (own_below ho.out hwi)
            have hww := hw.trans (hwi.mono hsz)
            have LC := Lib.hid (fun x => contains_any wr av cv out x (rd_of_own how.out (Nat.le_refl _)) (by rw [ol.out]; omega))
            simp only [hasB_containsI] at LC
            have hcw := hbw.cell 0
            simp only [List.getElem?_cons_zero] at hcw
            have olt := ol.out
            have Hcx := Lib.hid hcx
            clear oS hqw hcl hcx ho hbx hbxl hw
            have Holt := Lib.hid olt
            rw [olt] at LC
            clear olt
            obtain ⟨wp, rfl⟩ : ∃ wp : World, wp = wr := ⟨_, rfl⟩
            go_wp2_with fail
            go_loopw [46, 9] (fun i wv wi => ∃ k : Nat, k ≤ n ∧ i = .int .i64 k ∧ wv = .int .i64 (worstF out cs k) ∧ wi = wp) (fun i _ _ => n - (intOf i).toNat)
            case atStart => exact ⟨0, Nat.zero_le _, rfl, rfl, rfl⟩
            case round =>
              obtain ⟨k, hk, rfl, rfl, rfl⟩ := hrel
              by_cases hkn : k < n
              · have hck := hc.at (k := k) (by rw [Hcl.out]; exact hkn)
                obtain ⟨u0, u1⟩ := worstF_bd out cs k
                have HS : Hid (worstF out cs (k + 1) = if !hasB out k && (decide (worstF out cs k < 0) || decide (cs.getD k 0 ≤ cs.getD (worstF out cs k).toNat 0)) then (k : Int) else worstF out cs k) := rfl
                have hcu : ∀ u : Nat, worstF out cs k = u → wr.cell? ⟨wo.heap.size, u, none⟩ = some (.int .i64 (cs.getD u 0)) := fun u hu => hc.at (by rw [Hcl.out]; omega)
                have LCk := Lib.hid (LC.out k)
                generalize worstF out cs k = wv at *
                cases t1 : hasB out k with
                | true =>
                  rw [t1] at LCk HS
                  have HS2 : Hid (worstF out cs (k + 1) = wv) := HS.out
                  clear HS t1 hcu hc hbw LC
                  go_wp2_with (go_at_call 27; refine LCk.out.mono ?_; rintro e w' ⟨rfl, rfl⟩)
                  go_roundw
                  case rel => exact ⟨k + 1, by omega, by go_num, by rw [HS2.out], by first | rfl | trivial⟩
                  case measure => simp [intOf]; omega
                | false =>
                  rw [t1] at LCk HS
                  by_cases h0 : wv < 0
                  · have HS2 : Hid (worstF out cs (k + 1) = (k : Int)) := by rw [Hid, HS.out, decide_eq_true h0]; rfl
                    clear HS t1 hcu hc hbw LC
                    go_wp2_with (go_at_call 27; refine LCk.out.mono ?_; rintro e w' ⟨rfl, rfl⟩)
                    go_roundw
                    case rel => exact ⟨k + 1, by omega, by go_num, by rw [HS2.out], by first | rfl | trivial⟩
                    case measure => simp [intOf]; omega
                  · obtain ⟨u, rfl⟩ : ∃ u : Nat, wv = u := ⟨wv.toNat, by omega⟩
                    have hcu2 := hcu u rfl
                    rw [Int.toNat_natCast] at HS
                    have huk : u < n := by omega
                    by_cases hle : cs.getD k 0 ≤ cs.getD u 0
                    · have HS2 : Hid (worstF out cs (k + 1) = (k : Int)) := by rw [Hid, HS.out, decide_eq_true hle, Bool.or_true]; rfl
                      clear HS t1 hcu hc hbw LC
                      generalize cs.getD k 0 = x1 at *
                      generalize cs.getD u 0 = x2 at *
                      go_wp2_with (go_at_call 27; refine LCk.out.mono ?_; rintro e w' ⟨rfl, rfl⟩)
                      go_roundw
                      case rel => exact ⟨k + 1, by omega, by go_num, by rw [HS2.out], by first | rfl | trivial⟩
                      case measure => simp [intOf]; omega
                    · have HS2 : Hid (worstF out cs (k + 1) = (u : Int)) := by rw [Hid, HS.out, decide_eq_false hle, decide_eq_false h0]; rfl
                      clear HS t1 hcu hc hbw LC
                      generalize cs.getD k 0 = x1 at *
                      generalize cs.getD u 0 = x2 at *
                      go_wp2_with (go_at_call 27; refine LCk.out.mono ?_; rintro e w' ⟨rfl, rfl⟩)
                      go_roundw
                      case rel => exact ⟨k + 1, by omega, by go_num, by rw [HS2.out], by first | rfl | trivial⟩
                      case measure => simp [intOf]; omega
              · have : k = n := by omega
                subst this
                rw [Hqw.out]
                have hsz3 : w0.heap.size ≤ wr.heap.size := by have := hbw.lt; omega
                have hsz4 := hww.size
                clear hc LC
                go_wp2_with (at_builtin; refine wpList_append_one _ rfl _ _ 26 rfl w0.heap.size 2 (.int .i64 0) 8 Try.underlying26 info_i64p rfl _ t _ rfl how.out (.int .i64 q) rfl rfl (by omega) (by omega) hsz3 ?_)
                intro v' w9 ho9 hgr9
                have hb9 := below_append hww how.out hgr9 hsz0 hsz4
                have hx9 := hbw.grown hgr9 (own_ne how.out hbw (by decide))
                rw [show ints out ++ [Value.int .i64 q] = ints (rdF k yss (t + 1)) from by rw [oS2.out, ints_append]; rfl] at ho9
                obtain ⟨av9, cv9, rfl, hcv9, _⟩ := own_shape ho9
                have hfr9 := hx9.free 0
                have hcc9 := hx9.cell 0
                simp only [List.getElem?_cons_zero] at hcc9
                have hset9 := hx9.set 0 (.slice av9 (t + 1) cv9)
                simp only [List.set_cons_zero] at hset9
                have hb10 := below_sto hb9 (g := w0.heap.size + 1) (by omega) 0 (.slice av9 (t + 1) cv9)
                have hown10 := ho9.kept (w' := w9.setCell ⟨w0.heap.size + 1, 0, none⟩ (.slice av9 (t + 1) cv9)) (row := some (w0.heap.size + 1)) ⟨rfl, rfl, rfl, by simp, fun i _ hi => Below.heap_setCell _ _ _ _ (fun e => hi (by simp [e]))⟩ (.inr (own_ne ho9 hx9 (by decide)).symm)
                have Ho10 := Lib.hid hown10
                have hm10 := hset9.cell 0
                simp only [List.getElem?_cons_zero] at hm10
                clear hww hgr9 ho9 hown10 hb9 hx9 hbw how
                go_wp2
                go_roundw
                case rel => exact ⟨t + 1, _, by omega, hset9, Ho10, hb10⟩
                case measure => rw [Hcx.out]; first | (rw [hm10]; simp; omega) | (simp; omega)
      · have : t = n := by omega
        subst this
        have hR : RetI 2 w (some out) (.returned (.tuple #[.slice av t cv, .bool true])) wr := ⟨hw, av, cv, by rw [ol.out], by rw [ol.out]; exact own_base ho.out hsz0⟩
        rw [← Hout.out] at hR
        have HR := Lib.hid hR
        clear hR
        go_wp2
        go_ret2
        exact HR.out
end Go.Proofs.Ythofpfnccgfohaa
