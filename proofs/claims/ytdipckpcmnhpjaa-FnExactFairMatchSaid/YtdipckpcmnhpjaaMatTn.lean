/-
  All turns of a stable match: the program's road.
-/
import Derived.Test.YtdipckpcmnhpjaaMatN
import Derived.Test.YtdipckpcmnhpjaaMatTp
namespace Go.Proofs.Ytdipckpcmnhpjaa
set_option linter.unusedVariables false
set_option linter.unusedSimpArgs false
open Go.RowKit

theorem info_intsM : (Try.prog.info? 25).map (fun i => (i.zero, i.size, i.bytes)) = some (some (.slice none 0 0), 1, 24) := by kernel_rfl
set_option maxRecDepth 10000 in
set_option maxHeartbeats 8000000 in
theorem turnsW_any (w : World) (a0 : Option Addr) (c0 : Nat) (x0 : List (List Int)) (a1 : Option Addr) (c1 : Nat) (x1 : List (List Int)) (h : RdWishes w w.heap.size a0 x0 a1 x1) (hv : Wish ⟨x0, x1⟩) (hin0 : ∀ y ∈ x0, y.length ≤ 1048576) (hin1 : ∀ y ∈ x1, y.length ≤ 1048576)
    (a : Option Addr) (c : Nat) (m : List Int) (g : Rd w w.heap.size a (ints m)) (hm : Mat ⟨x0, x1⟩ m) :
    Calls Try.prog 84 #[.agg #[.slice a0 x0.length c0, .slice a1 x1.length c1], .slice a m.length c] w fun e w' => ∃ a' c', e = .returned (.slice a' (turnsF ⟨x0, x1⟩ m).length c') ∧ OwnLL 2 25 w' w.heap.size w'.heap.size a' c' (turnsF ⟨x0, x1⟩ m) ∧ Below w.heap.size w w' := by
  have X0 : Bx w (w.alloc (.cells #[.slice a0 x0.length c0, .slice a1 x1.length c1] 28)) [.slice a0 x0.length c0, .slice a1 x1.length c1] 28 := Bx.start w _ _
  have LC := Lib.hid (fun w' => count_any w' a0 c0 x0 a1 c1 x1)
  have LN : Hid (∀ (w' : World) (i : Nat), Below w.heap.size w w' → i < x0.length → _) := fun w' i hb hi => nextW_any w' a0 c0 x0 a1 c1 x1 (h.to hb) hv hin0 hin1 a c m (g.to hb) hm i hi
  have h8 := hv.n8
  simp only at h8
  have HV : Hid (∀ i : Nat, i < x0.length → nextF ⟨x0, x1⟩ m i = -1 ∨ ∃ j : Nat, nextF ⟨x0, x1⟩ m i = j ∧ j < x0.length ∧ j ≠ i) := fun i hi => (nextF_spec hv hm hi).imp id fun ⟨j, _, h1, h2, h3, _⟩ => ⟨j, h1, h2, h3⟩
  have HSt : Hid (∀ i : Nat, i < x0.length → OnRing (nextZ ⟨x0, x1⟩ m) i x0.length 0) := fun i hi => OnRing.start _ hi
  have HIt : Hid (∀ i t y : Nat, itZ (nextZ ⟨x0, x1⟩ m) i t = y → itZ (nextZ ⟨x0, x1⟩ m) i (t + 1) = nextF ⟨x0, x1⟩ m y) := fun i t y he => itZ_next he
  have HNo : Hid (∀ i : Nat, ringF (nextZ ⟨x0, x1⟩ m) i x0.length = none → TF ⟨x0, x1⟩ m (i + 1) = TF ⟨x0, x1⟩ m i) := fun i hh => TF_none hh
  have HYes : Hid (∀ (i : Nat) (r : List Int), ringF (nextZ ⟨x0, x1⟩ m) i x0.length = some r → TF ⟨x0, x1⟩ m (i + 1) = TF ⟨x0, x1⟩ m i ++ [r]) := fun i r hh => TF_some hh
  have HAll : Hid (TF ⟨x0, x1⟩ m x0.length = turnsF ⟨x0, x1⟩ m) := rfl
  have HLen := Lib.hid (TF_len ⟨x0, x1⟩ m)
  have HZ : Hid (TF ⟨x0, x1⟩ m 0 = []) := rfl
  generalize hgz : nextZ ⟨x0, x1⟩ m = gz at *
  generalize hnf : nextF ⟨x0, x1⟩ m = nf at *
  generalize htf : TF ⟨x0, x1⟩ m = tf at *
  generalize htt : turnsF ⟨x0, x1⟩ m = tt at *
  clear h g hv hm hin0 hin1 hgz hnf htf htt
  go_enter Try.func84, Try.ntmps84
  go_wp2_with fail
  refine (LC.out _).mono ?_
  rintro e w1 ⟨rfl, hb1⟩
  have hO0 := (OwnRows.start (T := 2) (own_empty (w.alloc (.cells #[.slice a0 x0.length c0, .slice a1 x1.length c1] 28)) 25)).keep hb1
  have X1 := (X0.next (bl1 _ _)).next hb1
  have HO0 := Lib.hid (hO0.up hb1.size)
  have hs1 : w.heap.size + 1 ≤ w1.heap.size := X1.lt
  have HE : Hid ((w.alloc (.cells #[.slice a0 x0.length c0, .slice a1 x1.length c1] 28)).heap.size = w.heap.size + 1) := by simp [Hid]
  rw [HE.out] at HO0
  clear hb1 X0 hO0
  go_wp2_with fail
  go_loopw [12, 5] (fun iv v wr => ∃ (i : Nat) (a2 : Option Addr) (c2 m2 : Nat) (vs : List Value), i ≤ x0.length ∧ iv = .int .i64 i ∧ v = .slice a2 m2 c2 ∧ Hid (m2 = (tf i).length) ∧ Hid (OwnRows 2 25 wr (w.heap.size + 1) wr.heap.size (.slice a2 (tf i).length c2) vs (tf i)) ∧ Bx w wr [.slice a0 x0.length c0, .slice a1 x1.length c1] 28) (fun iv _ _ => x0.length - (intOf iv).toNat)
  case atStart => exact ⟨0, some ⟨w.heap.size + 1, 0, none⟩, 0, 0, [], Nat.zero_le _, rfl, (by first | rfl | simp), by rw [HZ.out]; rfl, by rw [HZ.out]; exact HO0.out, X1⟩
  case round =>
    clear HO0 X1
    obtain ⟨i, a2, c2, m2, vs, hi, rfl, rfl, hm2, hO, X⟩ := hrel
    by_cases hlt : i < x0.length
    · obtain ⟨wo, hwo⟩ : ∃ W : World, W = wr := ⟨_, rfl⟩
      subst hwo
      have hR0 : Hid ((wo.alloc (.cells #[.int .i64 i] 2)).ownsRow wo.heap.size 2 1 (.slice (some ⟨wo.heap.size, 0, none⟩) 1 1) 1 (ints (rg gz i 0))) := (Blk.new wo [.int .i64 i] 2).owns (Nat.le_refl _) (by simp [maxLen])
      have hst := Lib.hid (HSt.out i hlt)
      have hxl := X.lt
      have hB0 := bl1 wo (.cells #[.int .i64 i] 2)
      have hm8 : m2 ≤ 8 := by rw [hm2.out]; have := HLen.out i; omega
      go_wp2_with fail
      go_loopw [7, 5] (fun v u wr => ∃ (t c3 : Nat) (a3 : Option Addr), v = .slice a3 (t + 1) c3 ∧ u = .slice a2 m2 c2 ∧ Hid (OnRing gz i x0.length t) ∧ Hid (wr.ownsRow wo.heap.size 2 1 (.slice a3 (t + 1) c3) (t + 1) (ints (rg gz i t))) ∧ Below wo.heap.size wo wr) (fun v _ _ => x0.length + 1 - sliceLen v)
      case atStart => exact ⟨0, 1, _, rfl, rfl, hst.out, hR0.out, hB0⟩
      case round =>
        clear hR0 hst hB0
        obtain ⟨t, c3, a3, rfl, rfl, hon, hown, hwi⟩ := hrel
        obtain ⟨y, hy, hyn⟩ := hon.out.nat t (Nat.le_refl _)
        have hle := hon.out.le
        obtain ⟨g3, tl, rfl, hg3, kb, hc3, hcm, hcl⟩ := own_open hown.out (by omega)
        have hX := X.far hwi hxl
        obtain ⟨q0, q1⟩ := hX.two
        have hxi := hX.lt
        have hkl := kb.lt
        have hct : wr.cell? ⟨g3, t, none⟩ = some (.int .i64 y) := by rw [cell_app kb (j := t) (by rw [rg_len]; omega), rg_at (Nat.le_refl _), hy]
        have F0 : ∀ z : Later wr, z.w'.cell? ⟨w.heap.size, 0, none⟩ = some (.slice a0 x0.length c0) := fun z => z.cell hxi q0
        have F1 : ∀ z : Later wr, z.w'.cell? ⟨w.heap.size, 1, none⟩ = some (.slice a1 x1.length c1) := fun z => z.cell hxi q1
        have F2 : ∀ z : Later wr, z.w'.cell? ⟨g3, t, none⟩ = some (.int .i64 y) := fun z => z.cell hkl hct
        have LN1 : Hid (∀ w', Below wr.heap.size wr w' → _) := fun w' hb => LN.out w' y (hX.1.trans (hb.mono hX.1.size)) hyn
        have hnx := HIt.out i t y hy
        have Hlow : Hid (nf y < i → ringF gz i x0.length = none) := fun hh => hon.out.low (by rw [hnx]; exact hh)
        have Hhit : Hid (nf y = i → ringF gz i x0.length = some (rg gz i t)) := fun hh => hon.out.hit (by rw [hnx]; exact hh)
        have Hseen : Hid ((i : Int) < nf y → nf y ∈ rg gz i t → ringF gz i x0.length = none) := fun h1 h2 => hon.out.seen (by rw [hnx]; exact h1) (by rw [hnx]; exact h2)
        have Hstep : Hid (∀ j : Nat, nf y = j → j < x0.length → i < j → (j : Int) ∉ rg gz i t → OnRing gz i x0.length (t + 1)) := fun j h1 h2 h3 h4 => hon.out.step (by rw [hnx]; exact h1) h2 h3 h4
        have Hsucc : Hid (rg gz i (t + 1) = rg gz i t ++ [nf y]) := by rw [Hid, rg_succ, hnx]
        have H0 : Hid (t = 0 → y = i) := fun e => by
          subst e
          have h1 : itZ gz (i : Int) 0 = i := rfl
          rw [h1] at hy; omega
        have HN2 : Hid (ringF gz i x0.length = none → ∀ w', Below wo.heap.size wo w' → (m2 = (tf (i + 1)).length) ∧ OwnRows 2 25 w' (w.heap.size + 1) w'.heap.size (.slice a2 (tf (i + 1)).length c2) vs (tf (i + 1)) ∧ Bx w w' [.slice a0 x0.length c0, .slice a1 x1.length c1] 28) := fun hh w' hb => by
          rw [HNo.out i hh]
          exact ⟨hm2.out, (hO.out.keep hb).up hb.size, X.next hb⟩
        have t0 : (0 : Int) ≤ (t : Int) := Int.natCast_nonneg _
        have hvy := HV.out y hyn
        clear q0 q1 kb hcl hct hX hon hnx hcm hc3
        generalize nf y = z at *
        rcases hvy with rfl | ⟨j, rfl, hjn, hjy⟩
        · have hnone := Hlow.out (by omega)
          have hne : (((-1 : Int)) == (i : Int)) = false := by rw [beq_eq_false_iff_ne]; omega
          clear Hlow Hhit Hseen Hstep H0
          go_wp2_with fail
          refine wp_region_later (by kernel_rfl) (by kernel_rfl) ?_
          repeat (go_big_quiet_step ((go_at_call 113; exact later_of (LN1.out _ (Later.h _)))))
          refine wpQuiet_nil ?_
          rintro wq ⟨⟨_, hbq⟩, rfl⟩
          have hBq := hwi.trans (hbq.mono hwi.size)
          have HRq := Lib.hid (own_below hown.out hbq)
          have hsq := hBq.size
          clear F0 F1 F2
          obtain ⟨e1, e2, e3⟩ := HN2.out hnone wq hBq
          have E1 := Lib.hid e1
          have E2 := Lib.hid e2
          clear HN2 e1 e2 hbq hBq hown hwi HRq
          go_wp2_with fail
          go_roundw
          case rel => exact ⟨i + 1, a2, c2, m2, vs, by omega, by go_num, rfl, E1, E2, e3⟩
          case measure => simp [intOf]; omega
        · rcases Nat.lt_trichotomy j i with hji | hji | hji
          · have hnone := Hlow.out (by omega)
            have hne : ((j : Int) == (i : Int)) = false := by rw [beq_eq_false_iff_ne]; omega
            clear Hlow Hhit Hseen Hstep H0
            go_wp2_with fail
            refine wp_region_later (by kernel_rfl) (by kernel_rfl) ?_
            repeat (go_big_quiet_step ((go_at_call 113; exact later_of (LN1.out _ (Later.h _)))))
            refine wpQuiet_nil ?_
            rintro wq ⟨⟨_, hbq⟩, rfl⟩
            have hBq := hwi.trans (hbq.mono hwi.size)
            have HRq := Lib.hid (own_below hown.out hbq)
            have hsq := hBq.size
            clear F0 F1 F2
            obtain ⟨e1, e2, e3⟩ := HN2.out hnone wq hBq
            have E1 := Lib.hid e1
            have E2 := Lib.hid e2
            clear HN2 e1 e2 hbq hBq hown hwi HRq
            go_wp2_with fail
            go_roundw
            case rel => exact ⟨i + 1, a2, c2, m2, vs, by omega, by go_num, rfl, E1, E2, e3⟩
            case measure => simp [intOf]; omega
          · subst hji
            have ht1 : 1 ≤ t := by
              rcases Nat.eq_zero_or_pos t with e | e
              · exact absurd (H0.out e).symm hjy
              · exact e
            have hyes := Lib.hid (Hhit.out rfl)
            have hne : ((j : Int) == (j : Int)) = true := by simp
            have hgt : (1 : Int) < ((t + 1 : Nat) : Int) := by omega
            clear Hlow Hhit Hseen Hstep H0 HN2
            go_wp2_with fail
            refine wp_region_later (by kernel_rfl) (by kernel_rfl) ?_
            repeat (go_big_quiet_step ((go_at_call 113; exact later_of (LN1.out _ (Later.h _)))))
            refine wpQuiet_nil ?_
            rintro wq ⟨⟨_, hbq⟩, rfl⟩
            have hBq := hwi.trans (hbq.mono hwi.size)
            have HRq := Lib.hid (own_below hown.out hbq)
            have hsq := hBq.size
            clear F0 F1 F2
            have hOo := hO.out.out
            rw [← hm2.out] at hOo
            have HOo := Lib.hid (own_below hOo hBq)
            have hXq := X.next hBq
            have hsx : w.heap.size + 1 ≤ wq.heap.size := hXq.lt
            have hrow : Hid (OwnI 2 wq wo.heap.size wq.heap.size (some ⟨g3, 0, none⟩) c3 (rg gz j t)) := OwnI.of_own (by rw [rg_len]; exact HRq.out)
            have HBq := Lib.hid hBq
            clear hOo hbq hBq hown hwi HRq
            go_wp2_with (at_builtin; refine wpList_append_blk _ rfl _ _ 22 rfl (w.heap.size + 1) 25 (.slice none 0 0) 24 Try.underlying22 info_intsM rfl _ m2 vs rfl HOo.out (.slice (some ⟨g3, 0, none⟩) (t + 1) c3) rfl rfl (by omega) (by omega) hsx ?_)
            intro v6 w6 o6 g6 n6
            obtain ⟨a6, c6, rfl, _, _⟩ := own_shape o6
            have HM6 : Hid (m2 + 1 = (tf (j + 1)).length) := by rw [Hid, HYes.out j _ hyes.out, List.length_append, ← hm2.out]; rfl
            have HN6 : Hid (OwnRows 2 25 w6 (w.heap.size + 1) w6.heap.size (.slice a6 (tf (j + 1)).length c6) (vs ++ [.slice (some ⟨g3, 0, none⟩) (rg gz j t).length c3]) (tf (j + 1))) := by
              rw [← HM6.out, HYes.out j _ hyes.out]
              have hOO := hO.out
              rw [← hm2.out] at hOO
              exact OwnRows.snoc (w := wq) hOO HBq.out (r0 := wo.heap.size) hxl (Nat.le_refl _) hrow.out (Nat.le_refl _) (by rw [rg_len, ← hm2.out]; exact o6) g6 n6
            have X6 := hXq.far (below_row HOo.out g6 hsx) (Nat.le_refl _)
            clear o6 g6 n6 HOo hrow HBq hXq hO
            go_wp2_with fail
            go_roundw
            case rel => exact ⟨j + 1, a6, c6, m2 + 1, _, by omega, by go_num, rfl, HM6, HN6, X6⟩
            case measure => simp [intOf]; omega
          · have hne : ((j : Int) == (i : Int)) = false := by rw [beq_eq_false_iff_ne]; omega
            have hjl : ¬ ((j : Int) ≤ (i : Int)) := by omega
            cases hcn : containsI (rg gz i t) j with
            | true =>
              have hnone := Hseen.out (by omega) (containsI_iff.1 hcn)
              clear Hlow Hhit Hseen Hstep H0
              go_wp2_with fail
              refine wp_region_later (by kernel_rfl) (by kernel_rfl) ?_
              repeat (go_big_quiet_step ((go_at_call 113; exact later_of (LN1.out _ (Later.h _)))))
              refine wpQuiet_nil ?_
              rintro wq ⟨⟨_, hbq⟩, rfl⟩
              have hBq := hwi.trans (hbq.mono hwi.size)
              have HRq := Lib.hid (own_below hown.out hbq)
              have hsq := hBq.size
              clear F0 F1 F2
              have LCn := Lib.hid (contains_any wq (some ⟨g3, 0, none⟩) c3 (rg gz i t) j (rd_of_own HRq.out (Nat.le_refl _)) (by rw [rg_len]; omega))
              rw [rg_len, hcn] at LCn
              obtain ⟨e1, e2, e3⟩ := HN2.out hnone wq hBq
              have E1 := Lib.hid e1
              have E2 := Lib.hid e2
              clear HN2 e1 e2 hbq hBq hown hwi HRq
              go_wp2_with fail
              refine LCn.out.mono ?_
              rintro e w5 ⟨rfl, rfl⟩
              go_wp2_with fail
              go_roundw
              case rel => exact ⟨i + 1, a2, c2, m2, vs, by omega, by go_num, rfl, E1, E2, e3⟩
              case measure => simp [intOf]; omega
            | false =>
              have hon2 := Lib.hid (Hstep.out j rfl hjn hji (fun hm => by rw [containsI_iff.2 hm] at hcn; cases hcn))
              clear Hlow Hhit Hseen Hstep H0 HN2
              go_wp2_with fail
              refine wp_region_later (by kernel_rfl) (by kernel_rfl) ?_
              repeat (go_big_quiet_step ((go_at_call 113; exact later_of (LN1.out _ (Later.h _)))))
              refine wpQuiet_nil ?_
              rintro wq ⟨⟨_, hbq⟩, rfl⟩
              have hBq := hwi.trans (hbq.mono hwi.size)
              have HRq := Lib.hid (own_below hown.out hbq)
              have hsq := hBq.size
              clear F0 F1 F2
              have LCn := Lib.hid (contains_any wq (some ⟨g3, 0, none⟩) c3 (rg gz i t) j (rd_of_own HRq.out (Nat.le_refl _)) (by rw [rg_len]; omega))
              rw [rg_len, hcn] at LCn
              clear hbq hown hwi
              go_wp2_with fail
              refine LCn.out.mono ?_
              rintro e w5 ⟨rfl, rfl⟩
              go_wp2_with (at_builtin; refine wpList_append_one _ rfl _ _ 25 rfl wo.heap.size 2 (.int .i64 0) 8 Try.underlying25 info_i64p rfl _ (t + 1) _ rfl HRq.out (.int .i64 j) rfl rfl (by omega) (by omega) hsq ?_)
              intro v' w6 ho hgr
              have B6 := hBq.trans (below_row HRq.out hgr hsq)
              obtain ⟨a6, c6, rfl, _, _⟩ := own_shape ho
              have HO6 : Hid (w6.ownsRow wo.heap.size 2 1 (.slice a6 (t + 1 + 1) c6) (t + 1 + 1) (ints (rg gz i (t + 1)))) := by rw [Hsucc.out, ints_append]; exact ho
              clear ho hgr hBq HRq
              go_wp2_with fail
              go_roundw
              case rel => exact ⟨t + 1, c6, a6, rfl, rfl, hon2, HO6, B6⟩
              case measure => simp [sliceLen]; omega
    · have : i = x0.length := by omega
      subst this
      have hb := X.1
      have HR : Hid (m2 = tt.length ∧ OwnLL 2 25 wr w.heap.size wr.heap.size a2 c2 tt) := by
        have h1 := hm2.out
        have h2 := hO.out
        rw [HAll.out] at h1 h2
        exact ⟨h1, (show OwnLL 2 25 wr (w.heap.size + 1) wr.heap.size a2 c2 tt from ⟨vs, h2⟩).mono (by omega) (Nat.le_refl _)⟩
      clear hm2 hO
      go_wp2_with fail
      go_ret
      exact ⟨a2, c2, by rw [HR.out.1]; rfl, HR.out.2, hb⟩
end Go.Proofs.Ytdipckpcmnhpjaa
