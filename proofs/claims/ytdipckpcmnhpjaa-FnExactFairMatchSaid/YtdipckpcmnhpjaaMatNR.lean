/-
  Who follows whom in a turn, all turns: the reference's road.
-/
import Derived.Test.YtdipckpcmnhpjaaMatTn
namespace Go.Proofs.Ytdipckpcmnhpjaa
set_option linter.unusedVariables false
set_option linter.unusedSimpArgs false
open Go.RowKit

set_option maxRecDepth 10000 in
set_option maxHeartbeats 8000000 in
theorem l05Next_any (w : World) (bb oo : Nat) (a0 : Option Addr) (c0 : Nat) (x0 : List (List Int)) (a1 : Option Addr) (c1 : Nat) (x1 : List (List Int)) (d0 : w.cell? ⟨bb, oo, none⟩ = some (.slice a0 x0.length c0)) (d1 : w.cell? ⟨bb, oo + 1, none⟩ = some (.slice a1 x1.length c1)) (hbl : bb < w.heap.size)
    (h : RdWishes w w.heap.size a0 x0 a1 x1) (hv : Wish ⟨x0, x1⟩) (hin0 : ∀ y ∈ x0, y.length ≤ 1048576) (hin1 : ∀ y ∈ x1, y.length ≤ 1048576) (a : Option Addr) (c : Nat) (m : List Int) (g : Rd w w.heap.size a (ints m)) (hm : Mat ⟨x0, x1⟩ m) (a4 : Option Addr) (c4 : Nat) (rb : Rd w w.heap.size a4 (ints (backL m m.length))) (i : Nat) (hi : i < x0.length) :
    Calls Try.prog 112 #[.pointer (some ⟨bb, oo, none⟩), .slice a m.length c, .slice a4 m.length c4, .int .i64 i] w fun e w' => e = .returned (.int .i64 (nextF ⟨x0, x1⟩ m i)) ∧ Below w.heap.size w w' := by
  have hml := hm.len
  have hln := Lib.hid hv.len
  simp only at hml hln
  obtain ⟨b4, o4, x, e4, hb4, d4, hx4⟩ := g.get (k := i) (by omega)
  obtain ⟨b2, o2, ys, a2, c2, e2, hb2, d2, hcap2, hr2, hy2⟩ := h.1.get hi
  have i0 : (0 : Int) ≤ (i : Int) := Int.natCast_nonneg _
  have i1 : (i : Int) < (x0.length : Int) := by omega
  have i2 : (i : Int) < (m.length : Int) := by omega
  have hgd := getD_of_get hx4.out
  have HmL : Hid (m.length = x0.length) := hml
  by_cases hx0 : x < 0
  · have HF : Hid (nextF ⟨x0, x1⟩ m i = -1) := next_nobody (by rw [hgd]; exact hx0)
    subst e4
    clear h g hm hv hin0 hin1 e2 hr2 hgd hml rb d0 d1
    go_enter Try.func112, Try.ntmps112
    go_wp2_with fail
    go_ret
    exact ⟨ret_int HF.out.symm, Below.refl _ _⟩
  · have hrow := row_get hy2.out
    have hyl := hin0 ys (List.mem_of_getElem? hy2.out)
    obtain ⟨y, rfl, hyn, hin⟩ : ∃ y : Nat, x = y ∧ y < x0.length ∧ containsI ys y = true := by
      rcases hm.val i (by omega) with h1 | ⟨y, h1, h2, h3⟩
      · rw [hgd] at h1; omega
      · rw [hgd] at h1
        simp only [pairB, Bool.and_eq_true, hrow] at h3
        exact ⟨y, h1, h2, h3.1⟩
    obtain ⟨p, hp⟩ : ∃ p : Nat, placeI ys y = p := ⟨(placeI ys y).toNat, by have := (placeI_bd ys y).1; omega⟩
    have hpl : p < ys.length := by have := placeI_in hin; omega
    have LPl := Lib.hid (l05Place_any w a2 c2 ys y hr2 hyl)
    rw [hp] at LPl
    have h00 : ¬ m.getD i 0 < 0 := by rw [hgd]; exact hx0
    have hpt : (placeI (row x0 i) (m.getD i 0)).toNat = p := by rw [hrow, hgd, hp]; simp
    have HV : Hid (∀ (t : Nat) (z : Int), ys[t]? = some z → ∃ k : Nat, z = k ∧ k < x0.length) := fun t z hz => by
      obtain ⟨z0, z1⟩ := (hv.left ys (List.mem_of_getElem? hy2.out)).1 z (List.mem_of_getElem? hz)
      simp only at z1
      exact ⟨z.toNat, by omega, by omega⟩
    have Hhit : Hid (∀ (t k : Nat), (ys.drop (p + 1))[t]? = some (k : Int) → nextB ⟨x0, x1⟩ m i k = true → (∀ (j : Nat) (z : Int), j < t → (ys.drop (p + 1))[j]? = some z → nextB ⟨x0, x1⟩ m i z = false) → nextF ⟨x0, x1⟩ m i = backF m k) := fun t k h1 h2 h3 => by
      have := next_hit (w := ⟨x0, x1⟩) (i := i) (k := t) (b := (k : Int)) h00 (by simp only; rw [hpt, hrow]; exact h1) h2 (by simp only; rw [hpt, hrow]; exact h3)
      rw [this]; rfl
    have Hmiss : Hid ((∀ (j : Nat) (z : Int), j < (ys.drop (p + 1)).length → (ys.drop (p + 1))[j]? = some z → nextB ⟨x0, x1⟩ m i z = false) → nextF ⟨x0, x1⟩ m i = -1) := fun h3 =>
      next_miss (w := ⟨x0, x1⟩) (i := i) h00 (by simp only; rw [hpt, hrow]; exact h3)
    have HT : Hid (∀ (k : Nat) (zs : List Int), x1[k]? = some zs → nextB ⟨x0, x1⟩ m i k = (containsI zs i && dearB zs i (backF m k))) := fun k zs hz => by
      unfold nextB
      simp only [Int.toNat_natCast, row_get hz]
    have HBL : Hid (∀ k, k < m.length → (backL m m.length)[k]? = some (backF m k)) := fun k hk => backL_get hk
    have LTk := Lib.hid (fun w' a c zs x => l05Takes_any w' a c zs x)
    have LD := Lib.hid (fun w' a c ys x y => l05Dearer_any w' a c ys x y)
    have HR1 := Lib.hid h.2
    have Hin1 := Lib.hid hin1
    have HRY := Lib.hid hr2
    have HRB := Lib.hid rb
    obtain ⟨b5, o5, _, e5, hb5, _⟩ := hr2.get (k := 0) (by omega)
    obtain ⟨b6, o6, _, e6, hb6, _⟩ := rb.get (k := 0) (by simp [backL]; omega)
    have HBLl : Hid ((backL m m.length).length = m.length) := by simp [backL, Hid]
    subst e4 e2 e5 e6
    have Hdl : Hid ((ys.drop (p + 1)).length = ys.length - (p + 1)) := by simp [Hid]
    generalize hnf : nextF ⟨x0, x1⟩ m i = nf at *
    generalize hbk : backL m m.length = bk at *
    clear h g hm hv hin0 hin1 hgd hml hrow h00 hpt hnf hin hp hr2 rb hbk
    go_enter Try.func112, Try.ntmps112
    go_wp2_with fail
    refine LPl.out.mono ?_
    rintro e w1 ⟨rfl, rfl⟩
    clear d4 d2
    go_wp2_with fail
    go_loopw [10] (fun tv wr => ∃ t : Nat, p + 1 ≤ t ∧ t ≤ ys.length ∧ tv = .int .i64 t ∧ Hid (∀ (j : Nat) (z : Int), j < t - (p + 1) → (ys.drop (p + 1))[j]? = some z → nextB ⟨x0, x1⟩ m i z = false) ∧ Below w.heap.size w wr) (fun tv _ => ys.length - (intOf tv).toNat)
    case atStart => exact ⟨p + 1, Nat.le_refl _, hpl, by go_num, fun _ _ h => by omega, Below.refl _ _⟩
    case round =>
      obtain ⟨t, ht0, ht, rfl, hbef, hw⟩ := hrel
      by_cases hlt : t < ys.length
      · obtain ⟨b7, o7, z, e7, hb7, hc7, hz7⟩ := (HRY.out.to hw).get (k := t) hlt
        injection e7 with e7
        injection e7 with e71 e72
        subst e71 e72
        have hzd : (ys.drop (p + 1))[t - (p + 1)]? = some z := by rw [drop_get, show p + 1 + (t - (p + 1)) = t by omega]; exact hz7.out
        obtain ⟨k, rfl, hkn⟩ := HV.out t z hz7.out
        obtain ⟨b3, o3, zs, a3, c3, e3, hb3, hc3, _, hr3, hy3⟩ := (HR1.out).get (k := k) (by rw [hln.out]; exact hkn)
        obtain ⟨b8, o8, ix, e8, hb8, hc8, hx8⟩ := (HRB.out).get (k := k) (by rw [HBLl.out, HmL.out]; exact hkn)
        injection e8 with e8
        injection e8 with e81 e82
        subst e3 e81 e82
        have eix : ix = backF m k := by
          have := hx8.out
          rw [HBL.out k (by rw [HmL.out]; exact hkn)] at this
          injection this with this
          exact this.symm
        have htest := HT.out k zs hy3.out
        rw [← eix] at htest
        have hzl := Hin1.out zs (List.mem_of_getElem? hy3.out)
        have LT1 : Hid (∀ w', Below wr.heap.size wr w' → _) := fun w' hb => LTk.out w' a3 c3 zs i (hr3.to (hw.trans (hb.mono hw.size))) hzl
        have LD1 : Hid (∀ w', Below wr.heap.size wr w' → _) := fun w' hb => LD.out w' a3 c3 zs i ix (hr3.to (hw.trans (hb.mono hw.size))) hzl
        have HH := Lib.hid (Hhit.out (t - (p + 1)) k hzd)
        rw [← eix] at HH
        have HStep : Hid (nextB ⟨x0, x1⟩ m i k = false → ∀ (j : Nat) (z : Int), j < t + 1 - (p + 1) → (ys.drop (p + 1))[j]? = some z → nextB ⟨x0, x1⟩ m i z = false) := fun hf j z hj hz => by
          by_cases e : j = t - (p + 1)
          · subst e
            rw [hzd] at hz
            injection hz with hz
            subst hz
            exact hf
          · exact hbef.out j z (by omega) hz
        have hs := hw.size
        have k0 : (0 : Int) ≤ (k : Int) := Int.natCast_nonneg _
        have k1 : (k : Int) < (x1.length : Int) := by rw [hln.out]; omega
        have k2 : (k : Int) < (m.length : Int) := by rw [HmL.out]; omega
        have t0 : (0 : Int) ≤ (t : Int) := Int.natCast_nonneg _
        have t1 : (t : Int) < (ys.length : Int) := by omega
        have F1 : ∀ z : Later wr, z.w'.cell? ⟨bb, oo + 1, none⟩ = some (.slice (some ⟨b3, o3, none⟩) x1.length c1) := fun z => z.cell (by simp only; omega) ((hw.cell (p := ⟨bb, oo + 1, none⟩) hbl).trans d1)
        have F3 : ∀ z : Later wr, z.w'.cell? ⟨b3, o3 + k, none⟩ = some (.slice a3 zs.length c3) := fun z => z.cell (by simp only; omega) ((hw.cell (p := ⟨b3, o3 + k, none⟩) hb3).trans hc3)
        have F5 : ∀ z : Later wr, z.w'.cell? ⟨b6, o6 + k, none⟩ = some (.int .i64 ix) := fun z => z.cell (by simp only; omega) ((hw.cell (p := ⟨b6, o6 + k, none⟩) hb6).trans hc8)
        have D5 : Hid (∀ w', Below wr.heap.size wr w' → w'.cell? ⟨b6, o6 + k, none⟩ = some (.int .i64 ix)) := fun w' hb => Later.cell ⟨w', hb⟩ (by simp only; omega) ((hw.cell (p := ⟨b6, o6 + k, none⟩) hb6).trans hc8)
        generalize hnb : nextB ⟨x0, x1⟩ m i (k : Int) = nb at *
        clear hnb hzd hz7 hc3 hr3 hy3 eix hx8 hc8 hs
        cases q1 : containsI zs i with
        | false =>
          rw [q1] at LT1
          rw [q1, Bool.false_and] at htest
          have HS2 := Lib.hid (HStep.out htest)
          clear HH HStep htest
          go_wp2_with fail
          refine wp_region_later (by kernel_rfl) (by kernel_rfl) ?_
          repeat (go_big_quiet_step ((go_at_call 106; exact later_same (LT1.out _ (Later.h _)))))
          refine wpQuiet_nil ?_
          rintro wq ⟨⟨_, hbq⟩, rfl⟩
          have hwq := hw.trans (hbq.mono hw.size)
          clear F1 F3 F5 hc7 hbq hw
          go_wp2_with fail
          go_roundw
          case rel => exact ⟨t + 1, by omega, by omega, by go_num, HS2, hwq⟩
          case measure => simp [intOf]; omega
        | true =>
          rw [q1] at LT1
          rw [q1, Bool.true_and] at htest
          cases q2 : dearB zs i ix with
          | false =>
            rw [q2] at LD1 htest
            have HS2 := Lib.hid (HStep.out htest)
            clear HH HStep htest
            go_wp2_with fail
            refine wp_region_later (by kernel_rfl) (by kernel_rfl) ?_
            repeat (go_big_quiet_step (first | (go_at_call 106; exact later_same (LT1.out _ (Later.h _))) | (go_at_call 67; exact later_same (LD1.out _ (Later.h _)))))
            refine wpQuiet_nil ?_
            rintro wq ⟨⟨_, hbq⟩, rfl⟩
            have hwq := hw.trans (hbq.mono hw.size)
            clear F1 F3 F5 hc7 hbq hw
            go_wp2_with fail
            go_roundw
            case rel => exact ⟨t + 1, by omega, by omega, by go_num, HS2, hwq⟩
            case measure => simp [intOf]; omega
          | true =>
            rw [q2] at LD1 htest
            have HR : Hid (nf = ix) := HH.out htest hbef.out
            clear HH HStep htest
            go_wp2_with fail
            refine wp_region_later (by kernel_rfl) (by kernel_rfl) ?_
            repeat (go_big_quiet_step (first | (go_at_call 106; exact later_same (LT1.out _ (Later.h _))) | (go_at_call 67; exact later_same (LD1.out _ (Later.h _)))))
            refine wpQuiet_nil ?_
            rintro wq ⟨⟨_, hbq⟩, rfl⟩
            have hwq := hw.trans (hbq.mono hw.size)
            have d5 := D5.out _ hbq
            clear F1 F3 F5 hc7 hbq hw
            go_wp2_with fail
            go_ret
            exact ⟨ret_int HR.out.symm, hwq⟩
      · have : t = ys.length := by omega
        subst this
        have HR : Hid (nf = -1) := Hmiss.out (by rw [Hdl.out]; exact hbef.out)
        clear hbef
        go_wp2_with fail
        go_ret
        exact ⟨ret_int HR.out.symm, hw⟩
end Go.Proofs.Ytdipckpcmnhpjaa
