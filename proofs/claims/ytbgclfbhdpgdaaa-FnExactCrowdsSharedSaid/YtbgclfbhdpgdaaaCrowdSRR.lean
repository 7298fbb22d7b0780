/-
  CrowdsShared: the reference's road.
-/
import Derived.Test.YtbgclfbhdpgdaaaCrowdSI
namespace Go.Proofs.Ytbgclfbhdpgdaaa
set_option linter.unusedVariables false
set_option linter.unusedSimpArgs false
open Go.RowKit

set_option maxRecDepth 10000 in
set_option maxHeartbeats 8000000 in
theorem sharedR_any (w : World) (a : Option Addr) (cp : Nat) (cs : List Cr) (wk : Int) (h : RdCs w w.heap.size a cs) (hl : cs.length ≤ 1048576) (hin : ∀ c ∈ cs, c.ways.length ≤ 1048576 ∧ c.costs.length ≤ 1048576) :
    Calls Try.prog 29 #[.slice a cs.length cp, .int .i64 wk] w (RetI 2 w (sharedC cs wk)) := by
  by_cases h8 : cs.length ≤ 8
  case neg =>
    have HF := Lib.hid (shared_few (wk := wk) h8)
    clear h hin
    go_enter Try.func29, Try.ntmps29
    go_wp2_with fail
    go_ret2
    rw [HF.out]
    exact RetI.no (Below.refl _ _)
  have LW := Lib.hid (l00In_any wk 1 8)
  cases h2 : inB wk 1 8 with
  | false =>
    have HF := Lib.hid (shared_work (cs := cs) h2)
    rw [h2] at LW
    clear h hin
    go_enter Try.func29, Try.ntmps29
    go_wp2_with (go_at_call 66; refine (LW.out _).mono ?_; rintro e w' ⟨rfl, rfl⟩)
    go_ret2
    rw [HF.out]
    exact RetI.no (Below.refl _ _)
  | true =>
  have HBad : Hid (cs.all validB = false → sharedC cs wk = none) := fun hh => shared_bad hh
  have HYes : Hid (cs.all validB = true → sharedC cs wk = some (cs.map shOne)) := fun hh => shared_yes h8 h2 hh
  have Hh := Lib.hid h
  have Hin := Lib.hid hin
  rw [h2] at LW
  obtain ⟨N, hN⟩ : ∃ N, N = cs.length := ⟨_, rfl⟩
  have HN := Lib.hid hN
  rw [← hN] at h8 hl ⊢
  generalize hsc : sharedC cs wk = sc at *
  clear h hin h2 hN hsc
  go_enter Try.func29, Try.ntmps29
  go_wp2_with (go_at_call 66; refine (LW.out _).mono ?_; rintro e w' ⟨rfl, rfl⟩)
  go_loopw [7, 6] (fun iv v wr => ∃ k : Nat, k ≤ N ∧ iv = .int .i64 k ∧ Hid ((cs.take k).all validB = true) ∧ Hid (wr.ownsRow w.heap.size 2 1 v k (ints ((cs.take k).map shOne))) ∧ Below w.heap.size w wr) (fun iv _ _ => N - (intOf iv).toNat)
  case atStart => exact ⟨0, Nat.zero_le _, rfl, rfl, by simpa [Hid] using own_empty w _, bl1 w _⟩
  case round =>
    obtain ⟨k, hk, rfl, hall, hown, hw⟩ := hrel
    by_cases hlt : k < N
    · obtain ⟨c, hc⟩ : ∃ c, cs[k]? = some c := ⟨cs[k]'(by rw [← HN.out]; exact hlt), by simp⟩
      obtain ⟨b, o, a2, c2, a3, c3, rfl, hb, e0, e1, e2, e3, hr⟩ := (Hh.out.below hw (Nat.le_refl _)).get hc
      obtain ⟨m2, m3⟩ := Hin.out c (List.mem_of_getElem? hc)
      have hsz := hw.size
      have k0 : (0 : Int) ≤ (k : Int) := Int.natCast_nonneg _
      have k1 : (k : Int) < (N : Int) := by omega
      have LV := Lib.hid (l06Is_any wr b (o + k * 4) c.U c.R a2 c2 c.ways a3 c3 c.costs e0 e1 e2 e3 (hr.mono hsz) m2 m3)
      cases hv : validB c with
      | false =>
        have HF := Lib.hid (HBad.out (all_no_c hc hv))
        have hvv : validB ⟨c.U, c.R, c.ways, c.costs⟩ = false := hv
        rw [hvv] at LV
        clear hall hown hr hc hv hvv e0 e1 e2 e3
        go_wp2_with fail
        refine LV.out.mono ?_
        rintro e w1 ⟨rfl, q, rfl⟩
        go_wp2_with fail
        go_ret2
        rw [HF.out]
        exact RetI.no (below_drewN hw q)
      | true =>
        have hvv : validB ⟨c.U, c.R, c.ways, c.costs⟩ = true := hv
        rw [hvv] at LV
        obtain ⟨hV, hz, hrc, NU, n, hNU, hn, hU8⟩ := one_rest hv
        have hall2 : Hid ((cs.take (k + 1)).all validB = true) := all_take_c hc hall.out hv
        have HMap := Lib.hid (map_take_c hc)
        have hra0 : (restF ⟨c.U, n, c.ways, c.costs⟩ (List.replicate NU 0)).1 = restAll c := by
          have e9 : c.U.toNat = NU := by rw [hNU]; simp
          rw [← hn]; unfold restAll; rw [e9]
        have LR : Hid (∀ w' g, Below w.heap.size wr w' → w.heap.size ≤ w'.heap.size → Rd w' w'.heap.size (some ⟨g, 0, none⟩) (ints (List.replicate NU 0)) → _) := fun w' g hb' hs' hg => l06Rest_any w' b (o + k * 4) c.U n a2 c2 c.ways a3 c3 c.costs (some ⟨g, 0, none⟩) NU (List.replicate NU 0)
          ((hb'.cell (p := ⟨b, o + k * 4, none⟩) hb).trans e0) ((hb'.cell (p := ⟨b, o + k * 4 + 1, none⟩) hb).trans (by rw [← hn]; exact e1)) ((hb'.cell (p := ⟨b, o + k * 4 + 2, none⟩) hb).trans e2) ((hb'.cell (p := ⟨b, o + k * 4 + 3, none⟩) hb).trans e3)
          ((hr.below hb' (Nat.le_refl _)).mono hs') hg (by rw [← hn]; rw [hNU] at hz; exact hz)
        have LT : Hid (∀ w' g cc, Below w.heap.size wr w' → w.heap.size ≤ w'.heap.size → Rd w' w'.heap.size g (ints (restAll c)) → _) := fun w' g cc hb' hs' hg => l06Total_any w' b (o + k * 4) c.U n a2 c2 c.ways a3 c3 c.costs g cc (restAll c)
          ((hb'.cell (p := ⟨b, o + k * 4, none⟩) hb).trans e0) ((hb'.cell (p := ⟨b, o + k * 4 + 1, none⟩) hb).trans (by rw [← hn]; exact e1)) ((hb'.cell (p := ⟨b, o + k * 4 + 2, none⟩) hb).trans e2) ((hb'.cell (p := ⟨b, o + k * 4 + 3, none⟩) hb).trans e3)
          ((hr.below hb' (Nat.le_refl _)).mono hs') hg (by rw [← hn]; exact hrc)
        have hto : totalF ⟨c.U, n, c.ways, c.costs⟩ (restAll c) = shOne c := by rw [← hn]; rfl
        rw [hto] at LT
        rw [hra0] at LR
        simp only [List.length_replicate] at LR
        rw [hNU] at e0
        have hmk := fun w => run_make_ints w NU (by omega)
        generalize hra : restAll c = ra at *
        generalize hso : shOne c = so at *
        have E0 := Lib.hid e0
        have hbw : b < wr.heap.size := by omega
        clear hall hr hc hv hvv hV hz hrc hto hra0 e0 e1 e2 e3
        go_wp2_with fail
        refine LV.out.mono ?_
        rintro e w1 ⟨rfl, q, rfl⟩
        have e0 : (wr.drewN q).cell? ⟨b, o + k * 4, none⟩ = some (.int .i64 NU) := E0.out
        clear LV
        go_wp2_with fail
        go_region_held3 (fun w' => w'.cell? ⟨b, o + k * 4, none⟩ = some (.int .i64 NU))
          (first | exact E0.out | exact ((bl1 _ _).cell (p := ⟨b, o + k * 4, none⟩) hbw).trans E0.out | exact HQ.out)
          ((go_at_call 55; refine (LR.out _ _ ((bl1c (below_drew' (below_drewN (Below.refl wr.heap.size wr) q)) (Nat.le_refl _) _).mono hsz) (by simp; omega) ((Blk.new (wr.drewN q).drew _ _).rd (by simp))).mono ?_; rintro e wq ⟨aq, cq, rfl, oq, hbq⟩; have HQ : Hid (wq.cell? ⟨b, o + k * 4, none⟩ = some (.int .i64 NU)) := by
              have hl2 : b < ((wr.drewN q).drew.alloc (.cells (ints (List.replicate NU 0)).toArray 2)).heap.size := by simp; omega
              exact ((hbq.cell (p := ⟨b, o + k * 4, none⟩) hl2).trans ((bl1 (wr.drewN q).drew _).cell (p := ⟨b, o + k * 4, none⟩) hbw)).trans E0.out))
        have Bq : Below wr.heap.size wr wq := (bl1c (below_drew' (below_drewN (Below.refl wr.heap.size wr) q)) (Nat.le_refl _) _).trans (hbq.mono (by simp))
        have hsq := Bq.size
        have LT1 := Lib.hid (LT.out wq aq cq (Bq.mono hsz) (by omega) (oq.rd.mono (Nat.le_refl _)))
        have HO := Lib.hid (own_below hown.out Bq)
        have HBq := Lib.hid Bq
        clear hbq oq LR hmk hown LT HQ e0 E0
        go_wp2_with fail
        refine LT1.out.mono ?_
        rintro e w5 ⟨rfl, hb5⟩
        have HO5 := Lib.hid (own_below HO.out hb5)
        have B5 := (hw.trans (HBq.out.mono hsz)).trans (hb5.mono (by omega))
        have hs5 := B5.size
        clear hb5 HO HBq hw LT1
        go_wp2_with (at_builtin; refine wpList_append_one _ rfl _ _ 22 rfl w.heap.size 2 (.int .i64 0) 8 Try.underlying22 info_i64p rfl _ k _ rfl HO5.out (.int .i64 so) rfl rfl (by omega) (by omega) hs5 ?_)
        intro v' w6 ho hgr
        have B6 := below_append B5 HO5.out hgr (Nat.le_refl _) hs5
        have HO6 : Hid (w6.ownsRow w.heap.size 2 1 v' (k + 1) (ints ((cs.take (k + 1)).map shOne))) := by rw [Hid, HMap.out, List.map_take]; exact ho
        clear HO5 ho hgr B5
        go_wp2_with fail
        go_roundw
        case rel => exact ⟨k + 1, by omega, by go_num, hall2, HO6, B6⟩
        case measure => simp [intOf]; omega
    · have : k = N := by omega
      subst this
      have e : cs.take k = cs := List.take_of_length_le (by rw [← HN.out]; exact Nat.le_refl _)
      rw [e] at hall hown
      have HF := Lib.hid (HYes.out hall.out)
      obtain ⟨a5, c5, rfl, _, _⟩ := own_shape hown.out
      have hml : (cs.map shOne).length = k := by rw [List.length_map, ← HN.out]
      have HR : Hid (RetI 2 w sc (.returned (.tuple #[.slice a5 k c5, .bool true])) wr) := by
        show RetI _ _ _ _ _
        rw [HF.out]
        exact ⟨hw, a5, c5, by rw [hml], by rw [hml]; exact hown.out⟩
      clear hall hown e hml HF
      go_wp2_with fail
      go_ret2
      exact HR.out
end Go.Proofs.Ytbgclfbhdpgdaaa
