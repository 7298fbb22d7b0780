/-
  LeastTotal and WorstRest of the reference.
-/
import Derived.Test.YtbgclfbhdpgdaaaWorst
namespace Go.Proofs.Ytbgclfbhdpgdaaa
set_option linter.unusedVariables false
set_option linter.unusedSimpArgs false
open Go.RowKit

/-- Where the choices in block g stand. -/
def valOf (n : Nat) (w : World) (g : Nat) : Nat :=
  match w.heap[g]? with
  | some (.cells cs _) => valD n (cs.toList.map intOf)
  | _ => 0
theorem intOf_ints (xs : List Int) : (ints xs).map intOf = xs := by
  unfold ints
  rw [List.map_map]
  exact (List.map_congr_left (fun x _ => rfl)).trans (List.map_id xs)
theorem valOf_blk {n g T : Nat} {w : World} {ch : List Int} (h : Blk w g (ints ch) T) : valOf n w g = valD n ch := by
  have h' : w.heap[g]? = some (.cells (ints ch).toArray T) := h
  unfold valOf
  rw [h']
  simp only [intOf_ints]
theorem foldC_succ (n U : Nat) (f : List Int → Best → Best) (t : Nat) : foldC n U f (t + 1) = f (chAt n U t) (foldC n U f t) := rfl
theorem chAt_succ (n U t : Nat) : chAt n U (t + 1) = (nextAt n (chAt n U t) U).1 := rfl
/-- A best one, as the reference keeps it: an empty list for none. -/
def asL : Best → List Int × Int
  | none => ([], 0)
  | some p => p
theorem own_none {w : World} {base e n : Nat} {v : Value} {xs : List Value} (h : w.ownsRow base e 1 v n xs) {w' : World} {g : Nat} (hg : w.grownBy w' (some g)) (hb : g < base) : w'.ownsRow base e 1 v n xs := own_grown h hg hb
set_option maxRecDepth 10000 in
set_option maxHeartbeats 8000000 in
theorem leastR_any (w : World) (U R : Int) (a2 : Option Addr) (c2 : Nat) (x2 : List Int) (a3 : Option Addr) (c3 : Nat) (x3 : List Int) (h : RdCrowd w w.heap.size a2 x2 a3 x3) (hl2 : x2.length ≤ 1048576) (hl3 : x3.length ≤ 1048576) :
    Calls Try.prog 63 #[.agg #[.int .i64 U, .int .i64 R, .slice a2 x2.length c2, .slice a3 x3.length c3]] w (RetT 2 w (leastF ⟨U, R, x2, x3⟩)) := by
  have kA := Blk.new w [.int .i64 U, .int .i64 R, .slice a2 x2.length c2, .slice a3 x3.length c3] 28
  obtain ⟨q0, q1, q2, q3⟩ : _ ∧ _ ∧ _ ∧ _ := ⟨kA.cell 0, kA.cell 1, kA.cell 2, kA.cell 3⟩
  simp only [List.getElem?_cons_zero, List.getElem?_cons_succ] at q0 q1 q2 q3
  have hB := bl1 w (.cells #[.int .i64 U, .int .i64 R, .slice a2 x2.length c2, .slice a3 x3.length c3] 28)
  have LC := Lib.hid (l06Is_any _ w.heap.size 0 U R a2 c2 x2 a3 c3 x3 q0 q1 q2 q3 (h.to hB) hl2 hl3)
  cases t1 : validB ⟨U, R, x2, x3⟩ with
  | false =>
    rw [leastF_no t1]
    rw [t1] at LC
    clear h t1 q0 q1 q2 q3 kA
    go_enter Try.func63, Try.ntmps63
    go_wp2_with fail
    refine LC.out.mono ?_
    rintro e w1 ⟨rfl, m, rfl⟩
    clear LC
    go_wp2_with fail
    go_ret3
    exact RetT.no (below_drewN hB m)
  | true =>
    rw [t1] at LC
    have hv := valid_of t1
    obtain ⟨N, n, rfl, rfl⟩ := nat_of_valid hv
    have hN8 : N ≤ 8 := by have := hv.u8; simp only at this; omega
    have hN1 : 1 ≤ N := by have := hv.u1; simp only at this; omega
    have hL8 : x2.length ≤ 8 := hv.w8
    have hL1 : 1 ≤ x2.length := hv.w1
    have LF := Lib.hid (fun m => l06Few_any ((w.alloc (.cells #[.int .i64 N, .int .i64 n, .slice a2 x2.length c2, .slice a3 x3.length c3] 28)).drewN m) w.heap.size 0 N n a2 c2 x2 x3 (by simp) (by simp) hv)
    cases hf : fewB ⟨N, n, x2, x3⟩ with
    | false =>
      rw [leastF_few hf]
      rw [hf] at LF
      clear h t1 q0 q1 q2 q3 kA hv hf
      go_enter Try.func63, Try.ntmps63
      go_wp2_with fail
      refine LC.out.mono ?_
      rintro e w1 ⟨rfl, m, rfl⟩
      clear LC
      go_wp2_with fail
      refine (LF.out m).mono ?_
      rintro e w1 ⟨rfl, rfl⟩
      go_wp2_with fail
      go_ret3
      exact RetT.no (below_drewN hB m)
    | true =>
      rw [leastF_yes t1 hf]
      rw [hf] at LF
      simp only [Int.toNat_natCast]
      have KA : Hid (∀ w', Below (w.heap.size + 1) (w.alloc (.cells #[.int .i64 N, .int .i64 n, .slice a2 x2.length c2, .slice a3 x3.length c3] 28)) w' → Blk w' w.heap.size [.int .i64 N, .int .i64 n, .slice a2 x2.length c2, .slice a3 x3.length c3] 28) := fun w' hb => kA.below hb (by omega)
      have LT : Hid (∀ w' g c ch, Below (w.heap.size + 1) (w.alloc (.cells #[.int .i64 N, .int .i64 n, .slice a2 x2.length c2, .slice a3 x3.length c3] 28)) w' → Blk w' g (ints ch) 2 → Can ⟨N, n, x2, x3⟩ ch →
          Calls Try.prog 58 #[.pointer (some ⟨w.heap.size, 0, none⟩), .slice (some ⟨g, 0, none⟩) ch.length c] w' fun e w'' => e = .returned (.int .i64 (totalF ⟨N, n, x2, x3⟩ ch)) ∧ Below w'.heap.size w' w'') := fun w' g c ch hb hg hc => by
        have k := kA.below hb (by omega)
        have hb2 : Below w.heap.size w w' := hB.trans (hb.mono (by omega))
        exact l06Total_any w' w.heap.size 0 N n a2 c2 x2 a3 c3 x3 (some ⟨g, 0, none⟩) c ch (k.cell 0) (k.cell 1) (k.cell 2) (k.cell 3) (h.to hb2) (hg.rd hg.lt) hc
      have LN := Lib.hid (fun (w' : World) (g c : Nat) (ch : List Int) (hb : Blk w' g (ints ch) 2) (hd : digB x2.length ch) (hl : ch.length = N) => l04Next_any w' g [] c ch x2.length (by rw [List.append_nil]; exact hb) hd hL1 (by omega) (by omega))
      have HC : Hid (∀ t, t < x2.length ^ N → Can ⟨N, n, x2, x3⟩ (chAt x2.length N t)) := fun t ht => can_chAt hv (t := t) ht
      have Hsp := Lib.hid (fun t ht => chAt_spec hL1 N t ht)
      have Hln := Lib.hid (fun t => chAt_len x2.length N t)
      have HM : Hid (0 < x2.length ^ N) := zero_lt hv
      have Hz : Hid (chAt x2.length N 0 = List.replicate N 0) := rfl
      have Hfl : Hid (∀ t, foldC x2.length N (leastStep ⟨N, n, x2, x3⟩) (t + 1) = leastStep ⟨N, n, x2, x3⟩ (chAt x2.length N t) (foldC x2.length N (leastStep ⟨N, n, x2, x3⟩) t)) := fun t => rfl
      have Hf1 : Hid (foldC x2.length N (leastStep ⟨N, n, x2, x3⟩) 1 = some (chAt x2.length N 0, totalF ⟨N, n, x2, x3⟩ (chAt x2.length N 0))) := rfl
      have Hst : Hid (∀ ch b m, leastStep ⟨N, n, x2, x3⟩ ch (some (b, m)) = if totalF ⟨N, n, x2, x3⟩ ch < m then some (ch, totalF ⟨N, n, x2, x3⟩ ch) else some (b, m)) := fun _ _ _ => rfl
      clear h t1 q0 q1 q2 q3 kA hv hf
      generalize hC : (⟨(N : Int), (n : Int), x2, x3⟩ : Cr) = C at *
      clear hC
      generalize hFo : foldC x2.length N (leastStep C) = fo at *
      clear hFo
      generalize hMM : x2.length ^ N = M at *
      clear hMM
      go_enter Try.func63, Try.ntmps63
      go_wp2_with fail
      refine LC.out.mono ?_
      rintro e w1 ⟨rfl, m, rfl⟩
      clear LC
      go_wp2_with fail
      refine (LF.out m).mono ?_
      rintro e w1 ⟨rfl, rfl⟩
      clear LF
      go_wp2_with (at_make; refine wpList_make_blk _ rfl _ _ 22 rfl 2 (.int .i64 0) 8 Try.underlying22 info_i64p rfl _ _ N rfl rfl (by omega) (by unfold maxLen; omega) ?_)
      intro w2 hb2 hw2 hs2
      try simp at hs2
      try simp at hb2
      rw [ints_replicate, ← Hz.out] at hb2
      have B2 : Below (w.heap.size + 1) (w.alloc (.cells #[.int .i64 N, .int .i64 n, .slice a2 x2.length c2, .slice a3 x3.length c3] 28)) w2 := (below_drewN (Below.refl _ _) m).trans hw2
      have KG := Lib.hid hb2
      have hcell : ∀ j, j < N → w2.cell? ⟨w.heap.size + 1, 0 + j, none⟩ = some (.int .i64 ((chAt x2.length N 0).getD j 0)) := fun j hj => by
        rw [Nat.zero_add]; exact KG.out.at (by rw [Hln.out]; exact hj)
      have Hcell := Lib.hid hcell
      have Hs2 := Lib.hid hs2
      clear hb2 hw2 hcell hs2
      go_wp2_with (at_builtin; refine append_manyC _ rfl _ _ 22 rfl w2.heap.size 2 (.int .i64 0) 8 Try.underlying22 info_i64p rfl _ 0 [] rfl (own_emptyC w2 2) (w.heap.size + 1) 0 N N (chAt x2.length N 0) rfl (Hln.out 0) ?_ (by omega) (by omega) (by simp) ?_)
      · intro j hj
        have hs2 := Hs2.out
        rw [(bl1 w2 _).cell (p := ⟨w.heap.size + 1, 0 + j, none⟩) (by simp only; omega), Hcell.out j hj]
      intro v3 w3 o3 g3
      have hs2 := Hs2.out
      have B23 := below_append (bl1 w2 (.cells #[] 2)) (own_emptyC w2 2) g3 (Nat.le_refl _) (by simp)
      have B3 := B2.trans (B23.mono (by omega))
      have KG3 := Lib.hid (KG.out.same B23)
      have O3 : Hid (w3.ownsRow (w.heap.size + 2) 2 1 v3 N (ints (chAt x2.length N 0))) := own_base (by simpa using o3) (by omega)
      have LT1 := Lib.hid (LT.out w3 (w.heap.size + 1) N (chAt x2.length N 0) B3 KG3.out (HC.out 0 HM.out))
      rw [Hln.out] at LT1
      have hs3 : w.heap.size + 2 ≤ w3.heap.size := by have := B23.size; omega
      clear o3 g3 B23 KG Hcell hs2 Hs2 B2
      go_wp2_with fail
      refine LT1.out.mono ?_
      rintro e w4 ⟨rfl, hb4⟩
      have B4 := B3.trans (hb4.mono (by omega))
      have KG4 := Lib.hid (KG3.out.same hb4)
      have O4 := Lib.hid (own_below O3.out hb4)
      have hs4 : w.heap.size + 2 ≤ w4.heap.size := by have := hb4.size; omega
      clear hb4 KG3 O3 LT1 B3 hs3
      go_wp2_with fail
      go_loopw [6, 7] (fun v l wr => ∃ (t : Nat) (bl : List Int) (mm : Int) (ab : Option Addr) (cb : Nat), t < M ∧ v = .slice ab bl.length cb ∧ l = .int .i64 mm ∧ Hid (fo (t + 1) = some (bl, mm)) ∧ Hid (Blk wr (w.heap.size + 1) (ints (chAt x2.length N t)) 2) ∧ Hid (wr.ownsRow (w.heap.size + 2) 2 1 (.slice ab bl.length cb) bl.length (ints bl)) ∧ Below (w.heap.size + 1) (w.alloc (.cells #[.int .i64 N, .int .i64 n, .slice a2 x2.length c2, .slice a3 x3.length c3] 28)) wr ∧ w.heap.size + 2 ≤ wr.heap.size) (fun _ _ wr => M - valOf x2.length wr (w.heap.size + 1))
      case atStart =>
        obtain ⟨a1, c1, rfl, _, _⟩ := own_shape O4.out
        exact ⟨0, chAt x2.length N 0, _, a1, c1, HM.out, by rw [Hln.out], rfl, Hf1.out, KG4.out, by rw [Hln.out]; exact O4.out, B4, hs4⟩
      case round =>
        clear KG4 O4 B4 hs4
        obtain ⟨t, bl, mm, ab, cb, ht, rfl, rfl, hfo, hG, hO, hw, hsz⟩ := hrel
        obtain ⟨hdg, hvd, hnx⟩ := Hsp.out t ht
        have LN1 := Lib.hid (LN.out wr (w.heap.size + 1) N (chAt x2.length N t) hG.out hdg (Hln.out t))
        rw [Hln.out, hnx] at LN1
        have Hval : Hid (valOf x2.length wr (w.heap.size + 1) = t) := by show _ = _; rw [valOf_blk hG.out, hvd]
        have Hsu : Hid ((nextAt x2.length (chAt x2.length N t) N).1 = chAt x2.length N (t + 1)) := rfl
        rw [Hsu.out] at LN1
        have k2 := (KA.out wr hw).cell 2
        simp only [List.getElem?_cons_zero, List.getElem?_cons_succ] at k2
        have Hbn : Hid (∀ w', wr.grownBy w' (some (w.heap.size + 1)) → Below (w.heap.size + 1) (w.alloc (.cells #[.int .i64 N, .int .i64 n, .slice a2 x2.length c2, .slice a3 x3.length c3] 28)) w') := fun w' hg => hw.grown hg (by omega) (fun q hq => by injection hq with hq; omega)
        clear hdg hvd hnx
        by_cases hlt : t + 1 < M
        · rw [decide_eq_true hlt] at LN1
          obtain ⟨hdg, hvd, _⟩ := Hsp.out (t + 1) hlt
          have hcan := HC.out (t + 1) hlt
          have HLT1 : Hid (∀ w', Below (w.heap.size + 1) (w.alloc (.cells #[.int .i64 N, .int .i64 n, .slice a2 x2.length c2, .slice a3 x3.length c3] 28)) w' → Blk w' (w.heap.size + 1) (ints (chAt x2.length N (t + 1))) 2 → Calls Try.prog 58 #[.pointer (some ⟨w.heap.size, 0, none⟩), .slice (some ⟨w.heap.size + 1, 0, none⟩) N N] w' fun e w'' => e = .returned (.int .i64 (totalF C (chAt x2.length N (t + 1)))) ∧ Below w'.heap.size w' w'') := fun w' hb hg => by
            have := LT.out w' (w.heap.size + 1) N (chAt x2.length N (t + 1)) hb hg hcan
            rwa [Hln.out] at this
          have hf2 : fo (t + 1 + 1) = if totalF C (chAt x2.length N (t + 1)) < mm then some (chAt x2.length N (t + 1), totalF C (chAt x2.length N (t + 1))) else some (bl, mm) := by rw [Hfl.out, hfo.out, Hst.out]
          have HF2 := Lib.hid hf2
          have Hv2 : Hid (∀ w', Blk w' (w.heap.size + 1) (ints (chAt x2.length N (t + 1))) 2 → valOf x2.length w' (w.heap.size + 1) = t + 1) := fun w' hb => by rw [valOf_blk hb, hvd]
          have Hl2 := Lib.hid (Hln.out (t + 1))
          clear hf2 hfo hdg hvd hcan
          generalize hcc : chAt x2.length N (t + 1) = c1 at *
          have Hcc := Lib.hid hcc
          clear hcc
          generalize totalF C c1 = tt at *
          go_wp2_with fail
          refine LN1.out.mono ?_
          rintro e w5 ⟨rfl, hb5, hg5⟩
          rw [List.append_nil] at hb5
          have B5 := Hbn.out w5 hg5
          have O5 := Lib.hid (own_none hO.out hg5 (by omega))
          have KG5 := Lib.hid hb5
          have hs5 : w.heap.size + 2 ≤ w5.heap.size := Nat.le_trans hsz hg5.size
          have LT2 := Lib.hid (HLT1.out w5 B5 hb5)
          clear LN1 hb5 hg5 hG hO hw hsz k2 Hbn HLT1
          go_wp2_with fail
          refine LT2.out.mono ?_
          rintro e w6 ⟨rfl, hb6⟩
          have B6 := B5.trans (hb6.mono (by omega))
          have KG6 := Lib.hid (KG5.out.same hb6)
          have O6 := Lib.hid (own_below O5.out hb6)
          have hs6 : w.heap.size + 2 ≤ w6.heap.size := by have := hb6.size; omega
          clear hb6 KG5 O5 LT2 B5 hs5
          by_cases hm : tt < mm
          · rw [if_pos hm] at HF2
            have Hcell : Hid (∀ j, j < N → w6.cell? ⟨w.heap.size + 1, 0 + j, none⟩ = some (.int .i64 (c1.getD j 0))) := fun j hj => by
              rw [Nat.zero_add]; exact KG6.out.at (by rw [Hl2.out]; exact hj)
            go_wp2_with (at_builtin; refine append_manyC _ rfl _ _ 22 rfl w6.heap.size 2 (.int .i64 0) 8 Try.underlying22 info_i64p rfl _ 0 [] rfl (own_emptyC w6 2) (w.heap.size + 1) 0 N N c1 rfl Hl2.out ?_ (by omega) (by omega) (by simp) ?_)
            · intro j hj
              rw [(bl1 w6 _).cell (p := ⟨w.heap.size + 1, 0 + j, none⟩) (by simp only; omega), Hcell.out j hj]
            intro v7 w7 o7 g7
            have B67 := below_append (bl1 w6 (.cells #[] 2)) (own_emptyC w6 2) g7 (Nat.le_refl _) (by simp)
            have B7 := B6.trans (B67.mono (by omega))
            have KG7 := Lib.hid (KG6.out.same B67)
            obtain ⟨a7, c7, rfl, _, _⟩ := own_shape o7
            have O7 : Hid (w7.ownsRow (w.heap.size + 2) 2 1 (.slice a7 c1.length c7) c1.length (ints c1)) := by
              rw [Hl2.out]; exact own_base (by simpa using o7) (by omega)
            have hs7 : w.heap.size + 2 ≤ w7.heap.size := by have := B67.size; omega
            have hv7 := Lib.hid (Hv2.out w7 KG7.out)
            clear o7 g7 B67 KG6 Hcell B6 O6
            go_wp2_with fail
            go_roundw
            case rel => exact ⟨t + 1, c1, tt, a7, c7, hlt, by rw [Hl2.out], rfl, HF2.out, (by show Blk _ _ _ _; rw [Hcc.out]; exact KG7.out), O7.out, B7, hs7⟩
            case measure => show _ < _; rw [Hval.out, hv7.out]; omega
          · rw [if_neg hm] at HF2
            have hv6 := Lib.hid (Hv2.out w6 KG6.out)
            go_wp2_with fail
            go_roundw
            case rel => exact ⟨t + 1, bl, mm, ab, cb, hlt, rfl, rfl, HF2.out, (by show Blk _ _ _ _; rw [Hcc.out]; exact KG6.out), O6.out, B6, hs6⟩
            case measure => show _ < _; rw [Hval.out, hv6.out]; omega
        · rw [decide_eq_false hlt] at LN1
          have hM : Hid (fo M = some (bl, mm)) := by
            have e : M = t + 1 := by omega
            show _ = _
            rw [e]; exact hfo.out
          clear hfo
          go_wp2_with fail
          refine LN1.out.mono ?_
          rintro e w5 ⟨rfl, hb5, hg5⟩
          have B5 := Hbn.out w5 hg5
          have HR : Hid (RetT 2 w (fo M) (.returned (.tuple #[.slice ab bl.length cb, .int .i64 mm, .bool true])) w5) := by
            rw [hM.out]
            exact ⟨hB.trans (B5.mono (by omega)), ab, cb, rfl, own_base (own_none hO.out hg5 (by omega)) (by omega)⟩
          clear LN1 hb5 hg5 hG hO hw hsz k2 Hbn B5
          go_wp2_with fail
          go_ret3
          exact HR.out
end Go.Proofs.Ytbgclfbhdpgdaaa
