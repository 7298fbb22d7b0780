/-
  CrowdsShared: the program's road.
-/
import Derived.Test.YtbgclfbhdpgdaaaCrowdSh
namespace Go.Proofs.Ytbgclfbhdpgdaaa
set_option linter.unusedVariables false
set_option linter.unusedSimpArgs false
open Go.RowKit

theorem all_take_c {cs : List Cr} {k : Nat} {c : Cr} (hc : cs[k]? = some c) (h : (cs.take k).all validB = true) (h2 : validB c = true) : (cs.take (k + 1)).all validB = true := by
  rw [List.take_add_one, hc]; simp [h2] at *; exact h
theorem all_no_c {cs : List Cr} {k : Nat} {c : Cr} (hc : cs[k]? = some c) (h2 : validB c = false) : cs.all validB = false := by
  rw [← Bool.not_eq_true]; intro h
  have := List.all_eq_true.1 h c (List.mem_of_getElem? hc)
  rw [h2] at this; cases this
theorem map_take_c {cs : List Cr} {k : Nat} {c : Cr} (hc : cs[k]? = some c) : ints ((cs.take (k + 1)).map shOne) = ints ((cs.take k).map shOne) ++ [.int .i64 (shOne c)] := by
  rw [List.take_add_one, hc, List.map_append, ints_append]; rfl
theorem shared_few {cs : List Cr} {wk : Int} (h : ¬ cs.length ≤ 8) : sharedC cs wk = none := by unfold sharedC; rw [decide_eq_false h]; rfl
theorem shared_work {cs : List Cr} {wk : Int} (h : inB wk 1 8 = false) : sharedC cs wk = none := by unfold sharedC; rw [h, Bool.and_false, Bool.false_and]; rfl
theorem shared_bad {cs : List Cr} {wk : Int} (h : cs.all validB = false) : sharedC cs wk = none := by unfold sharedC; rw [h, Bool.and_false]; rfl
theorem shared_yes {cs : List Cr} {wk : Int} (h1 : cs.length ≤ 8) (h2 : inB wk 1 8 = true) (h3 : cs.all validB = true) : sharedC cs wk = some (cs.map shOne) := by unfold sharedC; rw [decide_eq_true h1, h2, h3]; rfl
/-- What is known of one crowd. -/
theorem one_rest {c : Cr} (hv : validB c = true) : Valid c ∧ Can c (List.replicate c.U.toNat 0) ∧ Can c (restAll c) ∧ ∃ N n : Nat, c.U = N ∧ c.R = n ∧ N ≤ 8 := by
  have h := valid_of hv
  have hz := zeros_can h
  refine ⟨h, hz, (restF_rest hz).1, c.U.toNat, c.R.toNat, ?_, ?_, ?_⟩
  · have := h.u1; omega
  · have := h.r1; omega
  · have := h.u8; omega
theorem bl1c {B : Nat} {w w1 : World} (h : Below B w w1) (hB : B ≤ w1.heap.size) (o : Obj) : Below B w (w1.alloc o) := h.trans ((bl1 w1 o).mono hB)
theorem areWorkers_any (n : Int) (w : World) : Calls Try.prog 67 #[.int .i64 n] w fun e w' => e = .returned (.bool (inB n 1 8)) ∧ w = w' := by
  go_enter Try.func67, Try.ntmps67
  go_wp2_with (go_at_call 74; refine (within_any _ _ _ _).mono ?_; rintro e w' ⟨rfl, rfl⟩)
  go_ret
  exact ⟨rfl, rfl⟩
set_option maxRecDepth 10000 in
set_option maxHeartbeats 8000000 in
theorem shared_any (w : World) (a : Option Addr) (cp : Nat) (cs : List Cr) (wk : Int) (h : RdCs w w.heap.size a cs) (hl : cs.length ≤ 1048576) (hin : ∀ c ∈ cs, c.ways.length ≤ 1048576 ∧ c.costs.length ≤ 1048576) :
    Calls Try.prog 31 #[.slice a cs.length cp, .int .i64 wk] w (RetI 2 w (sharedC cs wk)) := by
  by_cases h8 : cs.length ≤ 8
  case neg =>
    have HF := Lib.hid (shared_few (wk := wk) h8)
    clear h hin
    go_enter Try.func31, Try.ntmps31
    go_wp2_with fail
    go_ret2
    rw [HF.out]
    exact RetI.no (Below.refl _ _)
  have LW := Lib.hid (areWorkers_any wk)
  cases h2 : inB wk 1 8 with
  | false =>
    have HF := Lib.hid (shared_work (cs := cs) h2)
    rw [h2] at LW
    clear h hin
    go_enter Try.func31, Try.ntmps31
    go_wp2_with (go_at_call 67; refine (LW.out _).mono ?_; rintro e w' ⟨rfl, rfl⟩)
    go_ret2
    rw [HF.out]
    exact RetI.no (Below.refl _ _)
  | true =>
  have HBad : Hid (cs.all validB = false → sharedC cs wk = none) := fun hh => shared_bad hh
  have HYes : Hid (cs.all validB = true → sharedC cs wk = some (cs.map shOne)) := fun hh => shared_yes h8 h2 hh
  have Hh := Lib.hid h
  have Hin := Lib.hid hin
  rw [h2] at LW
  obtain ⟨N, hN⟩ : ∃ N, N = cs.length := ⟨_, rfl⟩
  have HN := Lib.hid hN
  rw [← hN] at h8 hl ⊢
  generalize hsc : sharedC cs wk = sc at *
  clear h hin h2 hN hsc
  go_enter Try.func31, Try.ntmps31
  go_wp2_with (go_at_call 67; refine (LW.out _).mono ?_; rintro e w' ⟨rfl, rfl⟩)
  go_loopw [23, 6] (fun iv v wr => ∃ k : Nat, k ≤ N ∧ iv = .int .i64 k ∧ Hid ((cs.take k).all validB = true) ∧ Hid (wr.ownsRow w.heap.size 2 1 v k (ints ((cs.take k).map shOne))) ∧ Below w.heap.size w wr) (fun iv _ _ => N - (intOf iv).toNat)
  case atStart => exact ⟨0, Nat.zero_le _, rfl, rfl, by simpa [Hid] using own_empty w _, bl1 w _⟩
  case round =>
    obtain ⟨k, hk, rfl, hall, hown, hw⟩ := hrel
    by_cases hlt : k < N
    · obtain ⟨c, hc⟩ : ∃ c, cs[k]? = some c := ⟨cs[k]'(by rw [← HN.out]; exact hlt), by simp⟩
      obtain ⟨b, o, a2, c2, a3, c3, rfl, hb, e0, e1, e2, e3, hr⟩ := (Hh.out.below hw (Nat.le_refl _)).get hc
      obtain ⟨m2, m3⟩ := Hin.out c (List.mem_of_getElem? hc)
      have hsz := hw.size
      have LV : Hid (∀ w', Below w.heap.size wr w' → w.heap.size ≤ w'.heap.size → _) := fun w' hb' hs' => validCrowd_any w' c.U c.R a2 c2 c.ways a3 c3 c.costs ((hr.below hb' (Nat.le_refl _)).mono hs') m2 m3
      have k0 : (0 : Int) ≤ (k : Int) := Int.natCast_nonneg _
      have k1 : (k : Int) < (N : Int) := by omega
      have hBx := bl1 wr (.cells #[.int .i64 c.U, .int .i64 c.R, .slice a2 c.ways.length c2, .slice a3 c.costs.length c3] 28)
      have kX := Blk.new wr [.int .i64 c.U, .int .i64 c.R, .slice a2 c.ways.length c2, .slice a3 c.costs.length c3] 28
      have HX : Hid (∀ w', Below (wr.heap.size + 1) (wr.alloc (.cells #[.int .i64 c.U, .int .i64 c.R, .slice a2 c.ways.length c2, .slice a3 c.costs.length c3] 28)) w' → Blk w' wr.heap.size [.int .i64 c.U, .int .i64 c.R, .slice a2 c.ways.length c2, .slice a3 c.costs.length c3] 28 ∧ Below wr.heap.size wr w') := fun w' hb' => ⟨kX.below hb' (by omega), hBx.trans (hb'.mono (by omega))⟩
      clear kX
      cases hv : validB c with
      | false =>
        have HF := Lib.hid (HBad.out (all_no_c hc hv))
        have hvv : validB ⟨c.U, c.R, c.ways, c.costs⟩ = false := hv
        rw [hvv] at LV
        clear hall hown hr hc hv hvv
        go_wp2_with fail
        refine (LV.out _ (hBx.mono hsz) (by simp; omega)).mono ?_
        rintro e w1 ⟨rfl, hb1⟩
        have B1 := (hw.trans (hBx.mono hsz)).trans (hb1.mono (by simp; omega))
        clear hb1 e0 e1 e2 e3 hBx
        go_wp2_with fail
        go_ret2
        rw [HF.out]
        exact RetI.no B1
      | true =>
        have hvv : validB ⟨c.U, c.R, c.ways, c.costs⟩ = true := hv
        rw [hvv] at LV
        obtain ⟨hV, hz, hrc, NU, n, hNU, hn, hU8⟩ := one_rest hv
        have hall2 : Hid ((cs.take (k + 1)).all validB = true) := all_take_c hc hall.out hv
        have HMap := Lib.hid (map_take_c hc)
        have hro : restOF c (List.replicate NU 0) = some (restAll c, ((restF c (List.replicate NU 0)).2 : Int)) := by
          rw [restOF_yes (canB_of (by rw [hNU] at hz; exact hz) hv)]
          unfold restAll
          rw [hNU]; rfl
        have LR : Hid (∀ w' g, Below w.heap.size wr w' → w.heap.size ≤ w'.heap.size → Rd w' w'.heap.size (some ⟨g, 0, none⟩) (ints (List.replicate NU 0)) → _) := fun w' g hb' hs' hg => restOf_any w' c.U c.R a2 c2 c.ways a3 c3 c.costs (some ⟨g, 0, none⟩) NU (List.replicate NU 0) ((hr.below hb' (Nat.le_refl _)).mono hs') m2 m3 hg (by simp; omega)
        have LT : Hid (∀ w' g cc, Below w.heap.size wr w' → w.heap.size ≤ w'.heap.size → Rd w' w'.heap.size g (ints (restAll c)) → _) := fun w' g cc hb' hs' hg => total_any w' c.U n a2 c2 c.ways a3 c3 c.costs g cc (restAll c) ((hr.below hb' (Nat.le_refl _)).mono hs') hg (by rw [← hn]; exact hrc)
        have hto : totalF ⟨c.U, n, c.ways, c.costs⟩ (restAll c) = shOne c := by rw [← hn]; rfl
        have hcc : (⟨c.U, c.R, c.ways, c.costs⟩ : Cr) = c := rfl
        rw [hto] at LT
        rw [hcc, hro] at LR
        simp only [List.length_replicate] at LR
        rw [hNU] at LR LT LV HX e0 hBx
        rw [hn] at LR LV HX e1 hBx
        have hmk := fun w => run_make_ints w NU (by omega)
        generalize hra : restAll c = ra at *
        generalize hso : shOne c = so at *
        clear hall hr hc hv hvv hV hz hrc hro hto hcc
        go_wp2_with fail
        refine (LV.out _ (hBx.mono hsz) (by simp; omega)).mono ?_
        rintro e w1 ⟨rfl, hb1⟩
        have A1 : Below (wr.heap.size + 1) (wr.alloc (.cells #[.int .i64 NU, .int .i64 n, .slice a2 c.ways.length c2, .slice a3 c.costs.length c3] 28)) w1 := by simpa using hb1
        have sA := A1.size
        have kk := (HX.out _ A1).1
        have BB := (HX.out _ A1).2
        have EE : Hid (w1.cell? ⟨wr.heap.size, 0, none⟩ = some (.int .i64 NU) ∧ w1.cell? ⟨wr.heap.size, 1, none⟩ = some (.int .i64 n) ∧ w1.cell? ⟨wr.heap.size, 2, none⟩ = some (.slice a2 c.ways.length c2) ∧ w1.cell? ⟨wr.heap.size, 3, none⟩ = some (.slice a3 c.costs.length c3)) := ⟨kk.cell 0, kk.cell 1, kk.cell 2, kk.cell 3⟩
        have hbl : wr.heap.size < w1.heap.size := kk.lt
        obtain ⟨f0, f1, f2, f3⟩ := EE.out
        clear hb1 e0 e1 e2 e3 kk LV
        go_wp2_with fail
        go_region_held3 (fun w' => w'.cell? ⟨wr.heap.size, 0, none⟩ = some (.int .i64 NU) ∧ w'.cell? ⟨wr.heap.size, 1, none⟩ = some (.int .i64 n) ∧ w'.cell? ⟨wr.heap.size, 2, none⟩ = some (.slice a2 c.ways.length c2) ∧ w'.cell? ⟨wr.heap.size, 3, none⟩ = some (.slice a3 c.costs.length c3))
          (first | exact EE.out | exact ⟨((bl1 _ _).cell (p := ⟨wr.heap.size, 0, none⟩) hbl).trans EE.out.1, ((bl1 _ _).cell (p := ⟨wr.heap.size, 1, none⟩) hbl).trans EE.out.2.1, ((bl1 _ _).cell (p := ⟨wr.heap.size, 2, none⟩) hbl).trans EE.out.2.2.1, ((bl1 _ _).cell (p := ⟨wr.heap.size, 3, none⟩) hbl).trans EE.out.2.2.2⟩ | exact HQ.out)
          ((go_at_call 23; refine (LR.out _ _ ((BB.mono hsz).trans ((bl1c (below_drew' (Below.refl w1.heap.size w1)) (Nat.le_refl _) _).mono (by omega))) (by simp; omega) ((Blk.new w1.drew _ _).rd (by simp))).mono ?_; rintro e wq ⟨hbq, aq, cq, rfl, oq⟩; have HQ : Hid (wq.cell? ⟨wr.heap.size, 0, none⟩ = some (.int .i64 NU) ∧ wq.cell? ⟨wr.heap.size, 1, none⟩ = some (.int .i64 n) ∧ wq.cell? ⟨wr.heap.size, 2, none⟩ = some (.slice a2 c.ways.length c2) ∧ wq.cell? ⟨wr.heap.size, 3, none⟩ = some (.slice a3 c.costs.length c3)) := by
              have hl2 : wr.heap.size < (w1.drew.alloc (.cells (ints (List.replicate NU 0)).toArray 2)).heap.size := by simp; omega
              have hz : ∀ r, wq.cell? ⟨wr.heap.size, r, none⟩ = w1.cell? ⟨wr.heap.size, r, none⟩ := fun r => (hbq.cell (p := ⟨wr.heap.size, r, none⟩) hl2).trans ((bl1 w1.drew _).cell (p := ⟨wr.heap.size, r, none⟩) hbl)
              exact ⟨(hz 0).trans EE.out.1, (hz 1).trans EE.out.2.1, (hz 2).trans EE.out.2.2.1, (hz 3).trans EE.out.2.2.2⟩))
        have Bq : Below wr.heap.size wr wq := (BB.trans ((bl1c (below_drew' (Below.refl w1.heap.size w1)) (Nat.le_refl _) _).mono (by omega))).trans (hbq.mono (by simp; omega))
        have hsq := Bq.size
        have LT1 := Lib.hid (LT.out wq aq cq (Bq.mono hsz) (by omega) (rd_of_own oq (Nat.le_refl _)))
        have HO := Lib.hid (own_below hown.out Bq)
        obtain ⟨f0, f1, f2, f3⟩ := HQ.out
        have HBq := Lib.hid Bq
        clear hbq oq EE LR hmk BB A1 hown LT HQ
        go_wp2_with fail
        refine LT1.out.mono ?_
        rintro e w5 ⟨rfl, hb5⟩
        have HO5 := Lib.hid (own_below HO.out hb5)
        have B5 := (hw.trans (HBq.out.mono hsz)).trans (hb5.mono (by omega))
        have hs5 := B5.size
        clear hb5 f0 f1 f2 f3 HO HBq hw LT1
        go_wp2_with (at_builtin; refine wpList_append_one _ rfl _ _ 22 rfl w.heap.size 2 (.int .i64 0) 8 Try.underlying22 info_i64p rfl _ k _ rfl HO5.out (.int .i64 so) rfl rfl (by omega) (by omega) hs5 ?_)
        intro v' w6 ho hgr
        have B6 := below_append B5 HO5.out hgr (Nat.le_refl _) hs5
        have HO6 : Hid (w6.ownsRow w.heap.size 2 1 v' (k + 1) (ints ((cs.take (k + 1)).map shOne))) := by rw [Hid, HMap.out, List.map_take]; exact ho
        clear HO5 ho hgr B5
        go_wp2_with fail
        go_roundw
        case rel => exact ⟨k + 1, by omega, by go_num, hall2, HO6, B6⟩
        case measure => simp [intOf]; omega
    · have : k = N := by omega
      subst this
      have e : cs.take k = cs := List.take_of_length_le (by rw [← HN.out]; exact Nat.le_refl _)
      rw [e] at hall hown
      have HF := Lib.hid (HYes.out hall.out)
      obtain ⟨a5, c5, rfl, _, _⟩ := own_shape hown.out
      have hml : (cs.map shOne).length = k := by rw [List.length_map, ← HN.out]
      have HR : Hid (RetI 2 w sc (.returned (.tuple #[.slice a5 k c5, .bool true])) wr) := by
        show RetI _ _ _ _ _
        rw [HF.out]
        exact ⟨hw, a5, c5, by rw [hml], by rw [hml]; exact hown.out⟩
      clear hall hown e hml HF
      go_wp2_with fail
      go_ret2
      exact HR.out
end Go.Proofs.Ytbgclfbhdpgdaaa
