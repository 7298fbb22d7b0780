/-
  Who follows whom in a turn: the program's road.
-/
import Derived.Test.YtdipckpcmnhpjaaMatX
namespace Go.Proofs.Ytdipckpcmnhpjaa
set_option linter.unusedVariables false
set_option linter.unusedSimpArgs false
open Go.RowKit

theorem drop_get {ys : List Int} {p t : Nat} : (ys.drop (p + 1))[t]? = ys[p + 1 + t]? := by rw [List.getElem?_drop]
set_option maxRecDepth 10000 in
set_option maxHeartbeats 8000000 in
theorem nextW_any (w : World) (a0 : Option Addr) (c0 : Nat) (x0 : List (List Int)) (a1 : Option Addr) (c1 : Nat) (x1 : List (List Int)) (h : RdWishes w w.heap.size a0 x0 a1 x1) (hv : Wish ⟨x0, x1⟩) (hin0 : ∀ y ∈ x0, y.length ≤ 1048576) (hin1 : ∀ y ∈ x1, y.length ≤ 1048576)
    (a : Option Addr) (c : Nat) (m : List Int) (g : Rd w w.heap.size a (ints m)) (hm : Mat ⟨x0, x1⟩ m) (i : Nat) (hi : i < x0.length) :
    Calls Try.prog 113 #[.agg #[.slice a0 x0.length c0, .slice a1 x1.length c1], .slice a m.length c, .int .i64 i] w fun e w' => e = .returned (.int .i64 (nextF ⟨x0, x1⟩ m i)) ∧ Below w.heap.size w w' := by
  have X0 : Bx w (w.alloc (.cells #[.slice a0 x0.length c0, .slice a1 x1.length c1] 28)) [.slice a0 x0.length c0, .slice a1 x1.length c1] 28 := Bx.start w _ _
  have hml := hm.len
  have hln := Lib.hid hv.len
  simp only at hml hln
  obtain ⟨b4, o4, x, e4, hb4, hc4, hx4⟩ := g.get (k := i) (by omega)
  obtain ⟨b2, o2, ys, a2, c2, e2, hb2, hc2, hcap2, hr2, hy2⟩ := h.1.get hi
  have i0 : (0 : Int) ≤ (i : Int) := Int.natCast_nonneg _
  have i1 : (i : Int) < (x0.length : Int) := by omega
  have i2 : (i : Int) < (m.length : Int) := by omega
  have hgd := getD_of_get hx4.out
  have d4 := (X0.1.cell (p := ⟨b4, o4 + i, none⟩) hb4).trans hc4
  have d2 := (X0.1.cell (p := ⟨b2, o2 + i, none⟩) hb2).trans hc2
  have HmL : Hid (m.length = x0.length) := hml
  by_cases hx0 : x < 0
  · have HF : Hid (nextF ⟨x0, x1⟩ m i = -1) := next_nobody (by rw [hgd]; exact hx0)
    subst e4
    clear h g hm hv hin0 hin1 e2 hr2 hgd hml hc4 hc2
    go_enter Try.func113, Try.ntmps113
    go_wp2_with fail
    go_ret
    exact ⟨ret_int HF.out.symm, X0.1⟩
  · have hrow := row_get hy2.out
    have hyl := hin0 ys (List.mem_of_getElem? hy2.out)
    obtain ⟨y, rfl, hyn, hin⟩ : ∃ y : Nat, x = y ∧ y < x0.length ∧ containsI ys y = true := by
      rcases hm.val i (by omega) with h1 | ⟨y, h1, h2, h3⟩
      · rw [hgd] at h1; omega
      · rw [hgd] at h1
        simp only [pairB, Bool.and_eq_true, hrow] at h3
        exact ⟨y, h1, h2, h3.1⟩
    obtain ⟨p, hp⟩ : ∃ p : Nat, placeI ys y = p := ⟨(placeI ys y).toNat, by have := (placeI_bd ys y).1; omega⟩
    have hpl : p < ys.length := by have := placeI_in hin; omega
    have hwr : IntKind.i64.wrap ((p : Int) + 1) = (p : Int) + 1 := IntWalk.i64_in _ (by omega)
    have LPl := Lib.hid (fun w' hb => place_any w' a2 c2 ys y (hr2.to hb) hyl)
    rw [hp] at LPl
    have h00 : ¬ m.getD i 0 < 0 := by rw [hgd]; exact hx0
    have hpt : (placeI (row x0 i) (m.getD i 0)).toNat = p := by rw [hrow, hgd, hp]; simp
    have HV : Hid (∀ (t : Nat) (z : Int), (ys.drop (p + 1))[t]? = some z → ∃ k : Nat, z = k ∧ k < x0.length ∧ (k : Int) ∈ row x0 i) := fun t z hz => by
      have hmem : z ∈ ys := List.mem_of_mem_drop (List.mem_of_getElem? hz)
      obtain ⟨z0, z1⟩ := (hv.left ys (List.mem_of_getElem? hy2.out)).1 z hmem
      simp only at z1
      exact ⟨z.toNat, by omega, by omega, by rw [hrow, Int.toNat_of_nonneg z0]; exact hmem⟩
    have Hhit : Hid (∀ (t k : Nat), (ys.drop (p + 1))[t]? = some (k : Int) → nextB ⟨x0, x1⟩ m i k = true → (∀ (j : Nat) (z : Int), j < t → (ys.drop (p + 1))[j]? = some z → nextB ⟨x0, x1⟩ m i z = false) → nextF ⟨x0, x1⟩ m i = indexI m k) := fun t k h1 h2 h3 => by
      have := next_hit (w := ⟨x0, x1⟩) (i := i) (k := t) (b := (k : Int)) h00 (by simp only; rw [hpt, hrow]; exact h1) h2 (by simp only; rw [hpt, hrow]; exact h3)
      rw [this]; rfl
    have Hmiss : Hid ((∀ (j : Nat) (z : Int), j < (ys.drop (p + 1)).length → (ys.drop (p + 1))[j]? = some z → nextB ⟨x0, x1⟩ m i z = false) → nextF ⟨x0, x1⟩ m i = -1) := fun h3 =>
      next_miss (w := ⟨x0, x1⟩) (i := i) h00 (by simp only; rw [hpt, hrow]; exact h3)
    have HT : Hid (∀ k : Nat, k < x0.length → (k : Int) ∈ row x0 i → (pairB ⟨x0, x1⟩ i k && dearI (row x1 k) i (indexI m k)) = nextB ⟨x0, x1⟩ m i k) := fun k hk hmem => next_test hv (m := m) hi hk hmem
    have LTk : Hid (∀ (w' : World) (k : Nat), Below w.heap.size w w' → k < x0.length → _) := fun w' k hb hk => take_any w' a0 c0 x0 a1 c1 x1 (h.to hb) hin0 hin1 i k hi (by rw [hln.out]; exact hk)
    have LI := Lib.hid (fun w' hb (k : Int) => index_any w' a c m k (g.to hb) (by have := hv.n8; simp only at this; omega))
    have LD := Lib.hid (fun w' a c ys x y => dearer_any w' a c ys x y)
    have HR1 := Lib.hid h.2
    have Hin1 := Lib.hid hin1
    obtain ⟨b5, o5, _, e5, hb5, _⟩ := hr2.get (k := 0) (by omega)
    have HRY := Lib.hid hr2
    subst e4 e2 e5
    have Hdl : Hid ((ys.drop (p + 1)).length = ys.length - (p + 1)) := by simp [Hid]
    generalize hnf : nextF ⟨x0, x1⟩ m i = nf at *
    clear h g hm hv hin0 hin1 hgd hml hrow h00 hpt hnf hc2 hc4 hin hp hr2
    by_cases hcp : c2 = p + 1
    · have hly : ys.length - (p + 1) = 0 := by omega
      have HR : Hid (nf = -1) := Hmiss.out (fun j z hj => by rw [Hdl.out, hly] at hj; omega)
      have X1 := X0
      subst hcp
      clear Hmiss Hhit HT HV LTk LI LD HR1 Hin1 HRY Hdl
      go_enter Try.func113, Try.ntmps113
      go_wp2_with fail
      refine (LPl.out _ X0.1).mono ?_
      rintro e w1 ⟨rfl, rfl⟩
      clear d4 d2
      go_wp2_with fail
      go_loopw [31] (fun tv wr => tv = .int .i64 0 ∧ Bx w wr [.slice (some ⟨b2, o2, none⟩) x0.length c0, .slice a1 x1.length c1] 28) (fun _ _ => 0)
      case atStart => exact ⟨rfl, X1⟩
      case round =>
        clear X0 X1
        obtain ⟨rfl, X⟩ := hrel
        have h01 : ¬ ((0 : Int) < ((ys.length - (p + 1) : Nat) : Int)) := by omega
        go_wp2_with fail
        go_ret
        exact ⟨ret_int HR.out.symm, X.1⟩
    · go_enter Try.func113, Try.ntmps113
      go_wp2_with fail
      refine (LPl.out _ X0.1).mono ?_
      rintro e w1 ⟨rfl, rfl⟩
      clear d4 d2
      go_wp2_with fail
      go_loopw [31] (fun tv wr => ∃ t : Nat, t ≤ ys.length - (p + 1) ∧ tv = .int .i64 t ∧ Hid (∀ (j : Nat) (z : Int), j < t → (ys.drop (p + 1))[j]? = some z → nextB ⟨x0, x1⟩ m i z = false) ∧ Bx w wr [.slice (some ⟨b2, o2, none⟩) x0.length c0, .slice a1 x1.length c1] 28) (fun tv _ => ys.length - (p + 1) - (intOf tv).toNat)
      case atStart => exact ⟨0, Nat.zero_le _, rfl, fun _ _ h => by omega, X0⟩
      case round =>
        clear X0
        obtain ⟨t, ht, rfl, hbef, X⟩ := hrel
        by_cases hlt : t < ys.length - (p + 1)
        · have hw := X.1
          obtain ⟨b6, o6, z, e6, hb6, hc6, hz6⟩ := (HRY.out.to hw).get (k := p + 1 + t) (by omega)
          injection e6 with e6
          injection e6 with e61 e62
          subst e61 e62
          have hzd : (ys.drop (p + 1))[t]? = some z := by rw [drop_get]; exact hz6.out
          obtain ⟨k, rfl, hkn, hmem⟩ := HV.out t z hzd
          have htest := HT.out k hkn hmem
          obtain ⟨b3, o3, zs, a3, c3, e3, hb3, hc3, _, hr3, hy3⟩ := (HR1.out).get (k := k) (by rw [hln.out]; exact hkn)
          subst e3
          rw [row_get hy3.out] at htest
          have hzl := Hin1.out zs (List.mem_of_getElem? hy3.out)
          have LI1 := Lib.hid (LI.out wr hw (k : Int))
          have LT1 := Lib.hid (LTk.out wr k hw hkn)
          have LD1 : Hid (∀ w', Below w.heap.size w w' → _) := fun w' hb => LD.out w' a3 c3 zs i (indexI m k) (hr3.to hb) hzl
          have HH := Lib.hid (Hhit.out t k hzd)
          have HStep : Hid (nextB ⟨x0, x1⟩ m i k = false → ∀ (j : Nat) (z : Int), j < t + 1 → (ys.drop (p + 1))[j]? = some z → nextB ⟨x0, x1⟩ m i z = false) := fun hf j z hj hz => by
            by_cases e : j = t
            · subst e
              rw [hzd] at hz
              injection hz with hz
              subst hz
              exact hf
            · exact hbef.out j z (by omega) hz
          have k0 : (0 : Int) ≤ (k : Int) := Int.natCast_nonneg _
          have k1 : (k : Int) < (x1.length : Int) := by rw [hln.out]; omega
          have t0 : (0 : Int) ≤ (t : Int) := Int.natCast_nonneg _
          have d3 : Hid (∀ w', Below w.heap.size w w' → w'.cell? ⟨b3, o3 + k, none⟩ = some (.slice a3 zs.length c3)) := fun w' hb => (hb.cell (p := ⟨b3, o3 + k, none⟩) hb3).trans hc3
          obtain ⟨q0, q1⟩ := X.two
          have ht1 : (t : Int) < ((ys.length - (p + 1) : Nat) : Int) := by omega
          rw [show o5 + (p + 1 + t) = o5 + (p + 1) + t by omega] at hc6
          generalize indexI m (k : Int) = ix at *
          generalize hnb : nextB ⟨x0, x1⟩ m i (k : Int) = nb at *
          clear hnb hzd hz6 hc3 hr3 hy3 hmem
          cases t1 : pairB ⟨x0, x1⟩ i k with
          | false =>
            rw [t1] at LT1
            rw [t1, Bool.false_and] at htest
            have HS2 := Lib.hid (HStep.out htest.symm)
            clear HH HStep htest
            go_wp2_with (go_at_call 105; refine LI1.out.mono ?_; rintro e w' ⟨rfl, rfl⟩)
            refine LT1.out.mono ?_
            rintro e w3 ⟨rfl, hb3'⟩
            have X3 := X.next hb3'
            clear hb3' q0 q1 hc6 X
            go_wp2_with fail
            go_roundw
            case rel => exact ⟨t + 1, by omega, by go_num, HS2, X3⟩
            case measure => simp [intOf]; omega
          | true =>
            rw [t1] at LT1
            rw [t1, Bool.true_and] at htest
            cases t2 : dearI zs i ix with
            | false =>
              rw [t2] at LD1 htest
              have HS2 := Lib.hid (HStep.out htest.symm)
              clear HH HStep htest
              go_wp2_with (go_at_call 105; refine LI1.out.mono ?_; rintro e w' ⟨rfl, rfl⟩)
              refine LT1.out.mono ?_
              rintro e w3 ⟨rfl, hb3'⟩
              have X3 := X.next hb3'
              clear hb3' q0 q1 hc6 X
              obtain ⟨q0, q1⟩ := X3.two
              have d33 := d3.out _ X3.1
              go_wp2_with fail
              refine (LD1.out _ X3.1).mono ?_
              rintro e w4 ⟨rfl, rfl⟩
              clear q0 q1 d33
              go_wp2_with fail
              go_roundw
              case rel => exact ⟨t + 1, by omega, by go_num, HS2, X3⟩
              case measure => simp [intOf]; omega
            | true =>
              rw [t2] at LD1 htest
              have HR : Hid (nf = ix) := HH.out htest.symm hbef.out
              clear HH HStep htest
              go_wp2_with (go_at_call 105; refine LI1.out.mono ?_; rintro e w' ⟨rfl, rfl⟩)
              refine LT1.out.mono ?_
              rintro e w3 ⟨rfl, hb3'⟩
              have X3 := X.next hb3'
              clear hb3' q0 q1 hc6 X
              obtain ⟨q0, q1⟩ := X3.two
              have d33 := d3.out _ X3.1
              go_wp2_with fail
              refine (LD1.out _ X3.1).mono ?_
              rintro e w4 ⟨rfl, rfl⟩
              clear q0 q1 d33
              go_wp2_with fail
              go_ret
              exact ⟨ret_int HR.out.symm, X3.1⟩
        · have : t = ys.length - (p + 1) := by omega
          subst this
          have HR : Hid (nf = -1) := Hmiss.out (by rw [Hdl.out]; exact hbef.out)
          clear hbef
          go_wp2_with fail
          go_ret
          exact ⟨ret_int HR.out.symm, X.1⟩
end Go.Proofs.Ytdipckpcmnhpjaa
