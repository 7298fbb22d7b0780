/-
  WorstRest of the reference.
-/
import Derived.Test.YtbgclfbhdpgdaaaWorstR
namespace Go.Proofs.Ytbgclfbhdpgdaaa
set_option linter.unusedVariables false
set_option linter.unusedSimpArgs false
open Go.RowKit

/-- How the reference keeps the best so far: an empty list for none. -/
def asR : Best → List Int → Int → Prop
  | none, bl, mm => bl = [] ∧ mm = 0
  | some p, bl, mm => p = (bl, mm) ∧ 0 < bl.length
theorem asR_some {s : Best} {bl : List Int} {mm : Int} (h : s.isSome) (hr : asR s bl mm) : s = some (bl, mm) := by
  cases s with
  | none => cases h
  | some p => rw [hr.1]
set_option maxRecDepth 10000 in
set_option maxHeartbeats 8000000 in
theorem worstR_any (w : World) (U R : Int) (a2 : Option Addr) (c2 : Nat) (x2 : List Int) (a3 : Option Addr) (c3 : Nat) (x3 : List Int) (h : RdCrowd w w.heap.size a2 x2 a3 x3) (hl2 : x2.length ≤ 1048576) (hl3 : x3.length ≤ 1048576) :
    Calls Try.prog 24 #[.agg #[.int .i64 U, .int .i64 R, .slice a2 x2.length c2, .slice a3 x3.length c3]] w (RetT 2 w (worstF ⟨U, R, x2, x3⟩)) := by
  have kA := Blk.new w [.int .i64 U, .int .i64 R, .slice a2 x2.length c2, .slice a3 x3.length c3] 28
  obtain ⟨q0, q1, q2, q3⟩ : _ ∧ _ ∧ _ ∧ _ := ⟨kA.cell 0, kA.cell 1, kA.cell 2, kA.cell 3⟩
  simp only [List.getElem?_cons_zero, List.getElem?_cons_succ] at q0 q1 q2 q3
  have hB := bl1 w (.cells #[.int .i64 U, .int .i64 R, .slice a2 x2.length c2, .slice a3 x3.length c3] 28)
  have LC := Lib.hid (l06Is_any _ w.heap.size 0 U R a2 c2 x2 a3 c3 x3 q0 q1 q2 q3 (h.to hB) hl2 hl3)
  cases t1 : validB ⟨U, R, x2, x3⟩ with
  | false =>
    rw [worstF_no t1]
    rw [t1] at LC
    clear h t1 q0 q1 q2 q3 kA
    go_enter Try.func24, Try.ntmps24
    go_wp2_with fail
    refine LC.out.mono ?_
    rintro e w1 ⟨rfl, m, rfl⟩
    clear LC
    go_wp2_with fail
    go_ret3
    exact RetT.no (below_drewN hB m)
  | true =>
    rw [t1] at LC
    have hv := valid_of t1
    obtain ⟨N, n, rfl, rfl⟩ := nat_of_valid hv
    have hN8 : N ≤ 8 := by have := hv.u8; simp only at this; omega
    have hN1 : 1 ≤ N := by have := hv.u1; simp only at this; omega
    have hL8 : x2.length ≤ 8 := hv.w8
    have hL1 : 1 ≤ x2.length := hv.w1
    have LF := Lib.hid (fun m => l06Few_any ((w.alloc (.cells #[.int .i64 N, .int .i64 n, .slice a2 x2.length c2, .slice a3 x3.length c3] 28)).drewN m) w.heap.size 0 N n a2 c2 x2 x3 (by simp) (by simp) hv)
    cases hf : fewB ⟨N, n, x2, x3⟩ with
    | false =>
      rw [worstF_few hf]
      rw [hf] at LF
      clear h t1 q0 q1 q2 q3 kA hv hf
      go_enter Try.func24, Try.ntmps24
      go_wp2_with fail
      refine LC.out.mono ?_
      rintro e w1 ⟨rfl, m, rfl⟩
      clear LC
      go_wp2_with fail
      refine (LF.out m).mono ?_
      rintro e w1 ⟨rfl, rfl⟩
      go_wp2_with fail
      go_ret3
      exact RetT.no (below_drewN hB m)
    | true =>
      rw [worstF_yes t1 hf]
      rw [hf] at LF
      simp only [Int.toNat_natCast]
      have KA : Hid (∀ w', Below (w.heap.size + 1) (w.alloc (.cells #[.int .i64 N, .int .i64 n, .slice a2 x2.length c2, .slice a3 x3.length c3] 28)) w' → Blk w' w.heap.size [.int .i64 N, .int .i64 n, .slice a2 x2.length c2, .slice a3 x3.length c3] 28) := fun w' hb => kA.below hb (by omega)
      have LT : Hid (∀ w' g c ch, Below (w.heap.size + 1) (w.alloc (.cells #[.int .i64 N, .int .i64 n, .slice a2 x2.length c2, .slice a3 x3.length c3] 28)) w' → Blk w' g (ints ch) 2 → Can ⟨N, n, x2, x3⟩ ch →
          Calls Try.prog 58 #[.pointer (some ⟨w.heap.size, 0, none⟩), .slice (some ⟨g, 0, none⟩) ch.length c] w' fun e w'' => e = .returned (.int .i64 (totalF ⟨N, n, x2, x3⟩ ch)) ∧ Below w'.heap.size w' w'') := fun w' g c ch hb hg hc => by
        have k := kA.below hb (by omega)
        have hb2 : Below w.heap.size w w' := hB.trans (hb.mono (by omega))
        exact l06Total_any w' w.heap.size 0 N n a2 c2 x2 a3 c3 x3 (some ⟨g, 0, none⟩) c ch (k.cell 0) (k.cell 1) (k.cell 2) (k.cell 3) (h.to hb2) (hg.rd hg.lt) hc
      have LN := Lib.hid (fun (w' : World) (g c : Nat) (ch : List Int) (hb : Blk w' g (ints ch) 2) (hd : digB x2.length ch) (hl : ch.length = N) => l04Next_any w' g [] c ch x2.length (by rw [List.append_nil]; exact hb) hd hL1 (by omega) (by omega))
      have HC : Hid (∀ t, t < x2.length ^ N → Can ⟨N, n, x2, x3⟩ (chAt x2.length N t)) := fun t ht => can_chAt hv (t := t) ht
      have Hsp := Lib.hid (fun t ht => chAt_spec hL1 N t ht)
      have Hln := Lib.hid (fun t => chAt_len x2.length N t)
      have HM : Hid (0 < x2.length ^ N) := zero_lt hv
      have Hz : Hid (chAt x2.length N 0 = List.replicate N 0) := rfl
      have Hfl : Hid (∀ t, foldC x2.length N (worstStep ⟨N, n, x2, x3⟩) (t + 1) = worstStep ⟨N, n, x2, x3⟩ (chAt x2.length N t) (foldC x2.length N (worstStep ⟨N, n, x2, x3⟩) t)) := fun t => rfl
      have Hsome : Hid ((foldC x2.length N (worstStep ⟨N, n, x2, x3⟩) (x2.length ^ N)).isSome) := worst_some hv
      have LB : Hid (∀ w' g c ch, Below (w.heap.size + 1) (w.alloc (.cells #[.int .i64 N, .int .i64 n, .slice a2 x2.length c2, .slice a3 x3.length c3] 28)) w' → Blk w' g (ints ch) 2 → Can ⟨N, n, x2, x3⟩ ch →
          Calls Try.prog 51 #[.pointer (some ⟨w.heap.size, 0, none⟩), .slice (some ⟨g, 0, none⟩) ch.length c] w' (RetI 2 w' (betL ⟨N, n, x2, x3⟩ ch))) := fun w' g c ch hb hg hc => by
        have k := kA.below hb (by omega)
        have hb2 : Below w.heap.size w w' := hB.trans (hb.mono (by omega))
        exact l06Better_any w' w.heap.size 0 N n a2 c2 x2 a3 c3 x3 (some ⟨g, 0, none⟩) c ch (k.cell 0) (k.cell 1) (k.cell 2) (k.cell 3) (h.to hb2) (hg.rd hg.lt) hc
      have Hstn : Hid (∀ ch s p, betterF ⟨N, n, x2, x3⟩ ch = some p → worstStep ⟨N, n, x2, x3⟩ ch s = s) := fun ch s p hb => by unfold worstStep; rw [hb]; rfl
      have Hst0 : Hid (∀ ch, betterF ⟨N, n, x2, x3⟩ ch = none → worstStep ⟨N, n, x2, x3⟩ ch none = some (ch, totalF ⟨N, n, x2, x3⟩ ch)) := fun ch hb => by unfold worstStep; rw [hb]; rfl
      have Hst1 : Hid (∀ ch b m, betterF ⟨N, n, x2, x3⟩ ch = none → worstStep ⟨N, n, x2, x3⟩ ch (some (b, m)) = if m < totalF ⟨N, n, x2, x3⟩ ch then some (ch, totalF ⟨N, n, x2, x3⟩ ch) else some (b, m)) := fun ch b m hb => by unfold worstStep; rw [hb]; rfl
      clear h t1 q0 q1 q2 q3 kA hv hf
      generalize hC : (⟨(N : Int), (n : Int), x2, x3⟩ : Cr) = C at *
      clear hC
      have Hfo0 : Hid (foldC x2.length N (worstStep C) 0 = none) := rfl
      generalize hFo : foldC x2.length N (worstStep C) = fo at *
      clear hFo
      generalize hMM : x2.length ^ N = M at *
      clear hMM
      go_enter Try.func24, Try.ntmps24
      go_wp2_with fail
      refine LC.out.mono ?_
      rintro e w1 ⟨rfl, m, rfl⟩
      clear LC
      go_wp2_with fail
      refine (LF.out m).mono ?_
      rintro e w1 ⟨rfl, rfl⟩
      clear LF
      go_wp2_with (at_make; refine wpList_make_blk _ rfl _ _ 22 rfl 2 (.int .i64 0) 8 Try.underlying22 info_i64p rfl _ _ N rfl rfl (by omega) (by unfold maxLen; omega) ?_)
      intro w2 hb2 hw2 hs2
      try simp at hs2
      try simp at hb2
      rw [ints_replicate, ← Hz.out] at hb2
      have B2 : Below (w.heap.size + 1) (w.alloc (.cells #[.int .i64 N, .int .i64 n, .slice a2 x2.length c2, .slice a3 x3.length c3] 28)) w2 := (below_drewN (Below.refl _ _) m).trans hw2
      have KG := Lib.hid hb2
      have Hs2 := Lib.hid hs2
      have B3 := B2.trans ((bl1 w2 (.cells #[] 2)).mono (by omega))
      have KG3 := Lib.hid (KG.out.alloc (.cells #[] 2))
      have O3 : Hid ((w2.alloc (.cells #[] 2)).ownsRow (w.heap.size + 2) 2 1 (.slice (some ⟨w2.heap.size, 0, none⟩) 0 0) 0 (ints [])) := own_base (own_emptyC w2 2) (by omega)
      have hs3 : w.heap.size + 2 ≤ (w2.alloc (.cells #[] 2)).heap.size := by simp; omega
      have R0 : Hid (asR (fo 0) [] 0) := by rw [Hid, Hfo0.out]; exact ⟨rfl, rfl⟩
      have HN1 := Lib.hid hN1
      have Hs3 := Lib.hid hs3
      clear hb2 hw2 hs2 hs3 KG B2 Hfo0
      go_wp2_with fail
      go_loopw [6, 7] (fun v l wr => ∃ (t : Nat) (bl : List Int) (mm : Int) (ab : Option Addr) (cb : Nat), t < M ∧ v = .slice ab bl.length cb ∧ l = .int .i64 mm ∧ Hid (asR (fo t) bl mm) ∧ Hid (Blk wr (w.heap.size + 1) (ints (chAt x2.length N t)) 2) ∧ Hid (wr.ownsRow (w.heap.size + 2) 2 1 (.slice ab bl.length cb) bl.length (ints bl)) ∧ Below (w.heap.size + 1) (w.alloc (.cells #[.int .i64 N, .int .i64 n, .slice a2 x2.length c2, .slice a3 x3.length c3] 28)) wr ∧ w.heap.size + 2 ≤ wr.heap.size) (fun _ _ wr => M - valOf x2.length wr (w.heap.size + 1))
      case atStart => exact ⟨0, [], 0, _, _, HM.out, by first | rfl | (rw [Hs2.out]; rfl), rfl, R0.out, KG3.out, O3.out, B3, Hs3.out⟩
      case round =>
        clear KG3 O3 B3 Hs3 R0 Hs2
        obtain ⟨t, bl, mm, ab, cb, ht, rfl, rfl, hfo, hG, hO, hw, hsz⟩ := hrel
        obtain ⟨hdg, hvd, hnx⟩ := Hsp.out t ht
        have hcan := HC.out t ht
        have LB1 := LB.out wr (w.heap.size + 1) N (chAt x2.length N t) hw hG.out hcan
        rw [Hln.out] at LB1
        have LT1 : Hid (∀ w', Below (w.heap.size + 1) (w.alloc (.cells #[.int .i64 N, .int .i64 n, .slice a2 x2.length c2, .slice a3 x3.length c3] 28)) w' → Blk w' (w.heap.size + 1) (ints (chAt x2.length N t)) 2 → Calls Try.prog 58 #[.pointer (some ⟨w.heap.size, 0, none⟩), .slice (some ⟨w.heap.size + 1, 0, none⟩) N N] w' fun e w'' => e = .returned (.int .i64 (totalF C (chAt x2.length N t))) ∧ Below w'.heap.size w' w'') := fun w' hb hg => by
          have := LT.out w' (w.heap.size + 1) N (chAt x2.length N t) hb hg hcan
          rwa [Hln.out] at this
        have LN1 : Hid (∀ w', Blk w' (w.heap.size + 1) (ints (chAt x2.length N t)) 2 → Calls Try.prog 59 #[.slice (some ⟨w.heap.size + 1, 0, none⟩) N N, .int .i64 x2.length] w' fun e w'' => e = .returned (.bool (decide (t + 1 < M))) ∧ Blk w'' (w.heap.size + 1) (ints (chAt x2.length N (t + 1))) 2 ∧ w'.grownBy w'' (some (w.heap.size + 1))) := fun w' hb => by
          have := LN.out w' (w.heap.size + 1) N (chAt x2.length N t) hb hdg (Hln.out t)
          rw [Hln.out, hnx, List.append_nil] at this
          exact this
        have Hval : Hid (valOf x2.length wr (w.heap.size + 1) = t) := by show _ = _; rw [valOf_blk hG.out, hvd]
        have Hv2 : Hid (∀ w', t + 1 < M → Blk w' (w.heap.size + 1) (ints (chAt x2.length N (t + 1))) 2 → valOf x2.length w' (w.heap.size + 1) = t + 1) := fun w' hl hb => by rw [valOf_blk hb, (Hsp.out (t + 1) hl).2.1]
        have Hbn : Hid (∀ w1 w', Below (w.heap.size + 1) (w.alloc (.cells #[.int .i64 N, .int .i64 n, .slice a2 x2.length c2, .slice a3 x3.length c3] 28)) w1 → w.heap.size + 2 ≤ w1.heap.size → w1.grownBy w' (some (w.heap.size + 1)) → Below (w.heap.size + 1) (w.alloc (.cells #[.int .i64 N, .int .i64 n, .slice a2 x2.length c2, .slice a3 x3.length c3] 28)) w') := fun w1 w' hw hs hg => hw.grown hg (by omega) (fun q hq => by injection hq with hq; omega)
        have Hcl := Lib.hid (Hln.out t)
        have Hft := Hfl.out t
        have h0s := Hst0.out (chAt x2.length N t)
        have h1s := Hst1.out (chAt x2.length N t)
        have hns := Hstn.out (chAt x2.length N t)
        clear hdg hvd hnx hcan
        generalize hct : chAt x2.length N t = ct at *
        clear hct
        generalize totalF C ct = tt at *
        unfold betL at LB1
        cases hbf : betterF C ct with
        | some p =>
          have HF : Hid (asR (fo (t + 1)) bl mm) := by rw [Hid, Hft, hns _ p hbf]; exact hfo.out
          rw [hbf] at LB1
          have LB1 := Lib.hid LB1
          clear h0s h1s hns Hft hbf hfo
          go_wp2_with fail
          refine LB1.out.mono ?_
          rintro e w5 ⟨hb5, a5, c5, rfl, _⟩
          have B5 := hw.trans (hb5.mono (by omega))
          have KG5 := Lib.hid (hG.out.same hb5)
          have O5 := Lib.hid (own_below hO.out hb5)
          have hs5 : w.heap.size + 2 ≤ w5.heap.size := by have := hb5.size; omega
          have LT2 := Lib.hid (LT1.out w5 B5 KG5.out)
          clear hb5 LB1 hw hG hO hsz LT1
          go_wp2_with fail
          refine LT2.out.mono ?_
          rintro e w6 ⟨rfl, hb6⟩
          have B6 := B5.trans (hb6.mono (by omega))
          have KG6 := Lib.hid (KG5.out.same hb6)
          have O6 := Lib.hid (own_below O5.out hb6)
          have hs6 : w.heap.size + 2 ≤ w6.heap.size := by have := hb6.size; omega
          clear hb6 KG5 O5 LT2 B5 hs5
          have k2 := (KA.out w6 B6).cell 2
          simp only [List.getElem?_cons_zero, List.getElem?_cons_succ] at k2
          have LN2 := LN1.out w6 KG6.out
          by_cases hlt : t + 1 < M
          · rw [decide_eq_true hlt] at LN2
            have LN2 := Lib.hid LN2
            go_wp2_with fail
            refine LN2.out.mono ?_
            rintro e w8 ⟨rfl, hb8, hg8⟩
            have B8 := Hbn.out w6 w8 B6 hs6 hg8
            have O8 := Lib.hid (own_none O6.out hg8 (by omega))
            have KG8 := Lib.hid hb8
            have hs8 : w.heap.size + 2 ≤ w8.heap.size := Nat.le_trans hs6 hg8.size
            have hv8 := Lib.hid (Hv2.out w8 hlt hb8)
            clear LN2 hb8 hg8 k2
            go_wp2_with fail
            go_roundw
            case rel => exact ⟨t + 1, bl, mm, ab, cb, hlt, rfl, rfl, HF.out, KG8.out, O8.out, B8, hs8⟩
            case measure => show _ < _; rw [Hval.out, hv8.out]; omega
          · rw [decide_eq_false hlt] at LN2
            have LN2 := Lib.hid LN2
            have hM : Hid (asR (fo M) bl mm) := by
              have e : M = t + 1 := by omega
              show asR _ _ _
              rw [e]; exact HF.out
            go_wp2_with fail
            refine LN2.out.mono ?_
            rintro e w8 ⟨rfl, hb8, hg8⟩
            have B8 := Hbn.out w6 w8 B6 hs6 hg8
            have HR : Hid (RetT 2 w (fo M) (.returned (.tuple #[.slice ab bl.length cb, .int .i64 mm, .bool true])) w8) := by
              rw [asR_some Hsome.out hM.out]
              exact ⟨hB.trans (B8.mono (by omega)), ab, cb, rfl, own_base (own_none O6.out hg8 (by omega)) (by omega)⟩
            clear LN2 hb8 hg8 k2 B8
            skip
            go_wp2_with fail
            go_ret3
            exact HR.out
        | none =>
          rw [hbf] at LB1
          have LB1 := Lib.hid LB1
          cases hs : fo t with
          | none =>
            have hfo' := hfo.out
            rw [hs] at hfo'
            obtain ⟨rfl, rfl⟩ := hfo'
            have HF : Hid (asR (fo (t + 1)) ct tt) := by rw [Hid, Hft, hs, h0s hbf]; exact ⟨rfl, by rw [Hcl.out]; exact HN1.out⟩
            clear h0s h1s hns Hft hbf hfo hs
            go_wp2_with fail
            refine LB1.out.mono ?_
            rintro e w5 ⟨hb5, rfl⟩
            have B5 := hw.trans (hb5.mono (by omega))
            have KG5 := Lib.hid (hG.out.same hb5)
            have O5 := Lib.hid (own_below hO.out hb5)
            have hs5 : w.heap.size + 2 ≤ w5.heap.size := by have := hb5.size; omega
            have LT2 := Lib.hid (LT1.out w5 B5 KG5.out)
            clear hb5 LB1 hw hG hO hsz LT1
            go_wp2_with fail
            refine LT2.out.mono ?_
            rintro e w6 ⟨rfl, hb6⟩
            have B6 := B5.trans (hb6.mono (by omega))
            have KG6 := Lib.hid (KG5.out.same hb6)
            have O6 := Lib.hid (own_below O5.out hb6)
            have hs6 : w.heap.size + 2 ≤ w6.heap.size := by have := hb6.size; omega
            clear hb6 KG5 O5 LT2 B5 hs5
            have Hcell : Hid (∀ j, j < N → w6.cell? ⟨w.heap.size + 1, 0 + j, none⟩ = some (.int .i64 (ct.getD j 0))) := fun j hj => by
              rw [Nat.zero_add]; exact KG6.out.at (by rw [Hcl.out]; exact hj)
            go_wp2_with (at_builtin; refine append_manyC _ rfl _ _ 22 rfl w6.heap.size 2 (.int .i64 0) 8 Try.underlying22 info_i64p rfl _ 0 [] rfl (own_emptyC w6 2) (w.heap.size + 1) 0 N N ct rfl Hcl.out ?_ (by omega) (by omega) (by simp) ?_)
            · intro j hj
              rw [(bl1 w6 _).cell (p := ⟨w.heap.size + 1, 0 + j, none⟩) (by simp only; omega), Hcell.out j hj]
            intro v7 w7 o7 g7
            have B67 := below_append (bl1 w6 (.cells #[] 2)) (own_emptyC w6 2) g7 (Nat.le_refl _) (by simp)
            have B7 := B6.trans (B67.mono (by omega))
            have KG7 := Lib.hid (KG6.out.same B67)
            obtain ⟨a7, c7, rfl, _, _⟩ := own_shape o7
            have O7 : Hid (w7.ownsRow (w.heap.size + 2) 2 1 (.slice a7 ct.length c7) ct.length (ints ct)) := by
              rw [Hcl.out]; exact own_base (by simpa using o7) (by omega)
            have hs7 : w.heap.size + 2 ≤ w7.heap.size := by have := B67.size; omega
            clear o7 g7 B67 KG6 Hcell B6 O6 hs6
            obtain ⟨w6, hw6⟩ : ∃ x, x = w7 := ⟨_, rfl⟩
            subst hw6
            have B6 := B7
            have KG6 := KG7
            have O6 := O7
            have hs6 := hs7
            clear B7 KG7 O7 hs7
            have k2 := (KA.out w6 B6).cell 2
            simp only [List.getElem?_cons_zero, List.getElem?_cons_succ] at k2
            have LN2 := LN1.out w6 KG6.out
            by_cases hlt : t + 1 < M
            · rw [decide_eq_true hlt] at LN2
              have LN2 := Lib.hid LN2
              go_wp2_with fail
              refine LN2.out.mono ?_
              rintro e w8 ⟨rfl, hb8, hg8⟩
              have B8 := Hbn.out w6 w8 B6 hs6 hg8
              have O8 := Lib.hid (own_none O6.out hg8 (by omega))
              have KG8 := Lib.hid hb8
              have hs8 : w.heap.size + 2 ≤ w8.heap.size := Nat.le_trans hs6 hg8.size
              have hv8 := Lib.hid (Hv2.out w8 hlt hb8)
              clear LN2 hb8 hg8 k2
              go_wp2_with fail
              go_roundw
              case rel => exact ⟨t + 1, ct, tt, a7, c7, hlt, by rw [Hcl.out], rfl, HF.out, KG8.out, O8.out, B8, hs8⟩
              case measure => show _ < _; rw [Hval.out, hv8.out]; omega
            · rw [decide_eq_false hlt] at LN2
              have LN2 := Lib.hid LN2
              have hM : Hid (asR (fo M) ct tt) := by
                have e : M = t + 1 := by omega
                show asR _ _ _
                rw [e]; exact HF.out
              go_wp2_with fail
              refine LN2.out.mono ?_
              rintro e w8 ⟨rfl, hb8, hg8⟩
              have B8 := Hbn.out w6 w8 B6 hs6 hg8
              have HR : Hid (RetT 2 w (fo M) (.returned (.tuple #[.slice a7 ct.length c7, .int .i64 tt, .bool true])) w8) := by
                rw [asR_some Hsome.out hM.out]
                exact ⟨hB.trans (B8.mono (by omega)), a7, c7, rfl, own_base (own_none O6.out hg8 (by omega)) (by omega)⟩
              clear LN2 hb8 hg8 k2 B8
              rw [Hcl.out] at HR
              go_wp2_with fail
              go_ret3
              exact HR.out
          | some p =>
            have hfo' := hfo.out
            rw [hs] at hfo'
            obtain ⟨rfl, hl0⟩ := hfo'
            have hne : ((bl.length : Int) == 0) = false := by simp; intro h; subst h; simp at hl0
            by_cases hm : mm < tt
            · have HF : Hid (asR (fo (t + 1)) ct tt) := by rw [Hid, Hft, hs, h1s _ _ hbf, if_pos hm]; exact ⟨rfl, by rw [Hcl.out]; exact HN1.out⟩
              clear h0s h1s hns Hft hbf hfo hs
              go_wp2_with fail
              refine LB1.out.mono ?_
              rintro e w5 ⟨hb5, rfl⟩
              have B5 := hw.trans (hb5.mono (by omega))
              have KG5 := Lib.hid (hG.out.same hb5)
              have O5 := Lib.hid (own_below hO.out hb5)
              have hs5 : w.heap.size + 2 ≤ w5.heap.size := by have := hb5.size; omega
              have LT2 := Lib.hid (LT1.out w5 B5 KG5.out)
              clear hb5 LB1 hw hG hO hsz LT1
              go_wp2_with fail
              refine LT2.out.mono ?_
              rintro e w6 ⟨rfl, hb6⟩
              have B6 := B5.trans (hb6.mono (by omega))
              have KG6 := Lib.hid (KG5.out.same hb6)
              have O6 := Lib.hid (own_below O5.out hb6)
              have hs6 : w.heap.size + 2 ≤ w6.heap.size := by have := hb6.size; omega
              clear hb6 KG5 O5 LT2 B5 hs5
              have Hcell : Hid (∀ j, j < N → w6.cell? ⟨w.heap.size + 1, 0 + j, none⟩ = some (.int .i64 (ct.getD j 0))) := fun j hj => by
                rw [Nat.zero_add]; exact KG6.out.at (by rw [Hcl.out]; exact hj)
              go_wp2_with (at_builtin; refine append_manyC _ rfl _ _ 22 rfl w6.heap.size 2 (.int .i64 0) 8 Try.underlying22 info_i64p rfl _ 0 [] rfl (own_emptyC w6 2) (w.heap.size + 1) 0 N N ct rfl Hcl.out ?_ (by omega) (by omega) (by simp) ?_)
              · intro j hj
                rw [(bl1 w6 _).cell (p := ⟨w.heap.size + 1, 0 + j, none⟩) (by simp only; omega), Hcell.out j hj]
              intro v7 w7 o7 g7
              have B67 := below_append (bl1 w6 (.cells #[] 2)) (own_emptyC w6 2) g7 (Nat.le_refl _) (by simp)
              have B7 := B6.trans (B67.mono (by omega))
              have KG7 := Lib.hid (KG6.out.same B67)
              obtain ⟨a7, c7, rfl, _, _⟩ := own_shape o7
              have O7 : Hid (w7.ownsRow (w.heap.size + 2) 2 1 (.slice a7 ct.length c7) ct.length (ints ct)) := by
                rw [Hcl.out]; exact own_base (by simpa using o7) (by omega)
              have hs7 : w.heap.size + 2 ≤ w7.heap.size := by have := B67.size; omega
              clear o7 g7 B67 KG6 Hcell B6 O6 hs6
              obtain ⟨w6, hw6⟩ : ∃ x, x = w7 := ⟨_, rfl⟩
              subst hw6
              have B6 := B7
              have KG6 := KG7
              have O6 := O7
              have hs6 := hs7
              clear B7 KG7 O7 hs7
              have k2 := (KA.out w6 B6).cell 2
              simp only [List.getElem?_cons_zero, List.getElem?_cons_succ] at k2
              have LN2 := LN1.out w6 KG6.out
              by_cases hlt : t + 1 < M
              · rw [decide_eq_true hlt] at LN2
                have LN2 := Lib.hid LN2
                go_wp2_with fail
                refine LN2.out.mono ?_
                rintro e w8 ⟨rfl, hb8, hg8⟩
                have B8 := Hbn.out w6 w8 B6 hs6 hg8
                have O8 := Lib.hid (own_none O6.out hg8 (by omega))
                have KG8 := Lib.hid hb8
                have hs8 : w.heap.size + 2 ≤ w8.heap.size := Nat.le_trans hs6 hg8.size
                have hv8 := Lib.hid (Hv2.out w8 hlt hb8)
                clear LN2 hb8 hg8 k2
                go_wp2_with fail
                go_roundw
                case rel => exact ⟨t + 1, ct, tt, a7, c7, hlt, by rw [Hcl.out], rfl, HF.out, KG8.out, O8.out, B8, hs8⟩
                case measure => show _ < _; rw [Hval.out, hv8.out]; omega
              · rw [decide_eq_false hlt] at LN2
                have LN2 := Lib.hid LN2
                have hM : Hid (asR (fo M) ct tt) := by
                  have e : M = t + 1 := by omega
                  show asR _ _ _
                  rw [e]; exact HF.out
                go_wp2_with fail
                refine LN2.out.mono ?_
                rintro e w8 ⟨rfl, hb8, hg8⟩
                have B8 := Hbn.out w6 w8 B6 hs6 hg8
                have HR : Hid (RetT 2 w (fo M) (.returned (.tuple #[.slice a7 ct.length c7, .int .i64 tt, .bool true])) w8) := by
                  rw [asR_some Hsome.out hM.out]
                  exact ⟨hB.trans (B8.mono (by omega)), a7, c7, rfl, own_base (own_none O6.out hg8 (by omega)) (by omega)⟩
                clear LN2 hb8 hg8 k2 B8
                rw [Hcl.out] at HR
                go_wp2_with fail
                go_ret3
                exact HR.out
            · have HF : Hid (asR (fo (t + 1)) bl mm) := by rw [Hid, Hft, hs, h1s _ _ hbf, if_neg hm]; exact ⟨rfl, hl0⟩
              clear h0s h1s hns Hft hbf hfo hs
              go_wp2_with fail
              refine LB1.out.mono ?_
              rintro e w5 ⟨hb5, rfl⟩
              have B5 := hw.trans (hb5.mono (by omega))
              have KG5 := Lib.hid (hG.out.same hb5)
              have O5 := Lib.hid (own_below hO.out hb5)
              have hs5 : w.heap.size + 2 ≤ w5.heap.size := by have := hb5.size; omega
              have LT2 := Lib.hid (LT1.out w5 B5 KG5.out)
              clear hb5 LB1 hw hG hO hsz LT1
              go_wp2_with fail
              refine LT2.out.mono ?_
              rintro e w6 ⟨rfl, hb6⟩
              have B6 := B5.trans (hb6.mono (by omega))
              have KG6 := Lib.hid (KG5.out.same hb6)
              have O6 := Lib.hid (own_below O5.out hb6)
              have hs6 : w.heap.size + 2 ≤ w6.heap.size := by have := hb6.size; omega
              clear hb6 KG5 O5 LT2 B5 hs5
              have k2 := (KA.out w6 B6).cell 2
              simp only [List.getElem?_cons_zero, List.getElem?_cons_succ] at k2
              have LN2 := LN1.out w6 KG6.out
              by_cases hlt : t + 1 < M
              · rw [decide_eq_true hlt] at LN2
                have LN2 := Lib.hid LN2
                go_wp2_with fail
                refine LN2.out.mono ?_
                rintro e w8 ⟨rfl, hb8, hg8⟩
                have B8 := Hbn.out w6 w8 B6 hs6 hg8
                have O8 := Lib.hid (own_none O6.out hg8 (by omega))
                have KG8 := Lib.hid hb8
                have hs8 : w.heap.size + 2 ≤ w8.heap.size := Nat.le_trans hs6 hg8.size
                have hv8 := Lib.hid (Hv2.out w8 hlt hb8)
                clear LN2 hb8 hg8 k2
                go_wp2_with fail
                go_roundw
                case rel => exact ⟨t + 1, bl, mm, ab, cb, hlt, rfl, rfl, HF.out, KG8.out, O8.out, B8, hs8⟩
                case measure => show _ < _; rw [Hval.out, hv8.out]; omega
              · rw [decide_eq_false hlt] at LN2
                have LN2 := Lib.hid LN2
                have hM : Hid (asR (fo M) bl mm) := by
                  have e : M = t + 1 := by omega
                  show asR _ _ _
                  rw [e]; exact HF.out
                go_wp2_with fail
                refine LN2.out.mono ?_
                rintro e w8 ⟨rfl, hb8, hg8⟩
                have B8 := Hbn.out w6 w8 B6 hs6 hg8
                have HR : Hid (RetT 2 w (fo M) (.returned (.tuple #[.slice ab bl.length cb, .int .i64 mm, .bool true])) w8) := by
                  rw [asR_some Hsome.out hM.out]
                  exact ⟨hB.trans (B8.mono (by omega)), ab, cb, rfl, own_base (own_none O6.out hg8 (by omega)) (by omega)⟩
                clear LN2 hb8 hg8 k2 B8
                skip
                go_wp2_with fail
                go_ret3
                exact HR.out
end Go.Proofs.Ytbgclfbhdpgdaaa
