/-
  Of two stable matches the dearer ones, or the less dear ones: the program's road.
-/
import Derived.Test.YtdipckpcmnhpjaaMatX
namespace Go.Proofs.Ytdipckpcmnhpjaa
set_option linter.unusedVariables false
set_option linter.unusedSimpArgs false
open Go.RowKit

theorem chooseL_len (w : Wi) (a b : List Int) (dear : Bool) : (chooseL w a b dear).length = a.length := by simp [chooseL]
theorem chooseL_get {w : Wi} {a b : List Int} {dear : Bool} {k : Nat} (h : k < a.length) : (chooseL w a b dear)[k]? = some (pickI w a b dear k) := by simp [chooseL, h]
theorem choose_no1 {w : Wi} {a b : List Int} {dear : Bool} (h : (wishB w && stableB w a) = false) : chooseF w a b dear = none := by
  unfold chooseF; rw [h]; rfl
theorem choose_no2 {w : Wi} {a b : List Int} {dear : Bool} (h : (wishB w && stableB w b) = false) : chooseF w a b dear = none := by
  unfold chooseF
  have : (wishB w && stableB w a && stableB w b && matchB w (chooseL w a b dear)) = false := by
    revert h; cases wishB w <;> cases stableB w a <;> cases stableB w b <;> simp
  rw [this]; rfl
theorem choose_yes {w : Wi} {a b : List Int} {dear : Bool} (h1 : (wishB w && stableB w a) = true) (h2 : (wishB w && stableB w b) = true) : chooseF w a b dear = if matchB w (chooseL w a b dear) then some (chooseL w a b dear) else none := by
  unfold chooseF
  simp only [Bool.and_eq_true] at h1 h2
  rw [h1.1, h1.2, h2.2]; rfl
theorem stab_two {w : Wi} {m : List Int} (h : (wishB w && matchB w m) = true) : (wishB w && stableB w m) = (blockF w m).isNone := by unfold stableB; rw [← Bool.and_assoc, h, Bool.true_and]
theorem stab_no {w : Wi} {m : List Int} (h : (wishB w && matchB w m) = false) : (wishB w && stableB w m) = false := by unfold stableB; rw [← Bool.and_assoc, h, Bool.false_and]
set_option maxRecDepth 10000 in
set_option maxHeartbeats 8000000 in
theorem choose_any (w : World) (a0 : Option Addr) (c0 : Nat) (x0 : List (List Int)) (a1 : Option Addr) (c1 : Nat) (x1 : List (List Int)) (a : Option Addr) (c : Nat) (m : List Int) (b : Option Addr) (d : Nat) (q : List Int) (dear : Bool)
    (h : RdWishes w w.heap.size a0 x0 a1 x1) (hl0 : x0.length ≤ 1048576) (hin0 : ∀ y ∈ x0, y.length ≤ 1048576) (hl1 : x1.length ≤ 1048576) (hin1 : ∀ y ∈ x1, y.length ≤ 1048576) (g : Rd w w.heap.size a (ints m)) (hl : m.length ≤ 1048576) (g2 : Rd w w.heap.size b (ints q)) (hl2 : q.length ≤ 1048576) :
    Calls Try.prog 76 #[.agg #[.slice a0 x0.length c0, .slice a1 x1.length c1], .slice a m.length c, .slice b q.length d, .bool dear] w (RetI 2 w (chooseF ⟨x0, x1⟩ m q dear)) := by
  have X0 : Bx w (w.alloc (.cells #[.slice a0 x0.length c0, .slice a1 x1.length c1] 28)) [.slice a0 x0.length c0, .slice a1 x1.length c1] 28 := Bx.start w _ _
  have LA := Lib.hid (fun w' hb => isMatchI_any w' a0 c0 x0 a1 c1 x1 a c m (h.to hb) hl0 hin0 hl1 hin1 (g.to hb) hl)
  have LB := Lib.hid (fun w' hb => isMatchI_any w' a0 c0 x0 a1 c1 x1 b d q (h.to hb) hl0 hin0 hl1 hin1 (g2.to hb) hl2)
  have HNO1 : Hid ((wishB ⟨x0, x1⟩ && stableB ⟨x0, x1⟩ m) = false → chooseF ⟨x0, x1⟩ m q dear = none) := choose_no1
  have HNO2 : Hid ((wishB ⟨x0, x1⟩ && stableB ⟨x0, x1⟩ q) = false → chooseF ⟨x0, x1⟩ m q dear = none) := choose_no2
  obtain ⟨q0, q1⟩ := X0.two
  cases t1 : wishB ⟨x0, x1⟩ && matchB ⟨x0, x1⟩ m with
  | false =>
    have HF := Lib.hid (HNO1.out (stab_no t1))
    rw [t1] at LA
    clear h g g2 hin0 hin1 t1 HNO1 HNO2
    go_enter Try.func76, Try.ntmps76
    go_wp2_with fail
    refine (LA.out _ X0.1).mono ?_
    rintro e w1 ⟨rfl, hb1⟩
    have X1 := X0.next hb1
    obtain ⟨q0, q1⟩ := X1.two
    clear hb1
    clear q0 q1
    go_wp2_with fail
    go_ret2
    rw [HF.out]
    exact RetI.no X1.1
  | true =>
  cases t2 : wishB ⟨x0, x1⟩ && matchB ⟨x0, x1⟩ q with
  | false =>
    have HF := Lib.hid (HNO2.out (stab_no t2))
    rw [t1] at LA
    rw [t2] at LB
    clear h g g2 hin0 hin1 t1 t2 HNO1 HNO2
    go_enter Try.func76, Try.ntmps76
    go_wp2_with fail
    refine (LA.out _ X0.1).mono ?_
    rintro e w1 ⟨rfl, hb1⟩
    have X1 := X0.next hb1
    obtain ⟨q0, q1⟩ := X1.two
    clear hb1
    go_wp2_with fail
    refine (LB.out _ X1.1).mono ?_
    rintro e w2 ⟨rfl, hb2⟩
    have X2 := X1.next hb2
    obtain ⟨q0, q1⟩ := X2.two
    clear hb2
    clear q0 q1
    go_wp2_with fail
    go_ret2
    rw [HF.out]
    exact RetI.no X2.1
  | true =>
  have hv := wish_of (Bool.and_eq_true _ _ ▸ t1 : wishB ⟨x0, x1⟩ = true ∧ _).1
  have hm := mat_of (Bool.and_eq_true _ _ ▸ t1 : _ ∧ matchB ⟨x0, x1⟩ m = true).2
  have hm2 := mat_of (Bool.and_eq_true _ _ ▸ t2 : _ ∧ matchB ⟨x0, x1⟩ q = true).2
  have e1 := stab_two t1
  have e2 := stab_two t2
  have LC := Lib.hid (fun w' hb => isStableW_any w' a0 c0 x0 a1 c1 x1 (h.to hb) hv hin0 hin1 a c m (g.to hb) hm)
  have LD := Lib.hid (fun w' hb => isStableW_any w' a0 c0 x0 a1 c1 x1 (h.to hb) hv hin0 hin1 b d q (g2.to hb) hm2)
  rw [t1] at LA
  rw [t2] at LB
  rw [← e1] at LC
  rw [← e2] at LD
  clear e1 e2
  cases t3 : wishB ⟨x0, x1⟩ && stableB ⟨x0, x1⟩ m with
  | false =>
    have HF := Lib.hid (HNO1.out t3)
    rw [t3] at LC
    clear h g g2 hin0 hin1 t1 t2 t3 HNO1 HNO2 hv hm hm2
    go_enter Try.func76, Try.ntmps76
    go_wp2_with fail
    refine (LA.out _ X0.1).mono ?_
    rintro e w1 ⟨rfl, hb1⟩
    have X1 := X0.next hb1
    obtain ⟨q0, q1⟩ := X1.two
    clear hb1
    go_wp2_with fail
    refine (LB.out _ X1.1).mono ?_
    rintro e w2 ⟨rfl, hb2⟩
    have X2 := X1.next hb2
    obtain ⟨q0, q1⟩ := X2.two
    clear hb2
    go_wp2_with fail
    refine (LC.out _ X2.1).mono ?_
    rintro e w3 ⟨rfl, hb3⟩
    have X3 := X2.next hb3
    obtain ⟨q0, q1⟩ := X3.two
    clear hb3
    clear q0 q1
    go_wp2_with fail
    go_ret2
    rw [HF.out]
    exact RetI.no X3.1
  | true =>
  cases t4 : wishB ⟨x0, x1⟩ && stableB ⟨x0, x1⟩ q with
  | false =>
    have HF := Lib.hid (HNO2.out t4)
    rw [t3] at LC
    rw [t4] at LD
    clear h g g2 hin0 hin1 t1 t2 t3 t4 HNO1 HNO2 hv hm hm2
    go_enter Try.func76, Try.ntmps76
    go_wp2_with fail
    refine (LA.out _ X0.1).mono ?_
    rintro e w1 ⟨rfl, hb1⟩
    have X1 := X0.next hb1
    obtain ⟨q0, q1⟩ := X1.two
    clear hb1
    go_wp2_with fail
    refine (LB.out _ X1.1).mono ?_
    rintro e w2 ⟨rfl, hb2⟩
    have X2 := X1.next hb2
    obtain ⟨q0, q1⟩ := X2.two
    clear hb2
    go_wp2_with fail
    refine (LC.out _ X2.1).mono ?_
    rintro e w3 ⟨rfl, hb3⟩
    have X3 := X2.next hb3
    obtain ⟨q0, q1⟩ := X3.two
    clear hb3
    go_wp2_with fail
    refine (LD.out _ X3.1).mono ?_
    rintro e w4 ⟨rfl, hb4⟩
    have X4 := X3.next hb4
    obtain ⟨q0, q1⟩ := X4.two
    clear hb4
    clear q0 q1
    go_wp2_with fail
    go_ret2
    rw [HF.out]
    exact RetI.no X4.1
  | true =>
  have HY := Lib.hid (choose_yes (dear := dear) t3 t4)
  have hln := hm.len
  have hln2 := hm2.len
  have h8 := hv.n8
  simp only at hln hln2 h8
  obtain ⟨n, hn⟩ : ∃ n, n = m.length := ⟨_, rfl⟩
  have Hx0 : Hid (x0.length = n) := by rw [hn]; exact hln.symm
  have Hq : Hid (q.length = n) := by rw [hn, hln2]; exact hln.symm
  have Hm : Hid (m.length = n) := hn.symm
  obtain ⟨CL, hCL⟩ : ∃ CL, CL = chooseL ⟨x0, x1⟩ m q dear := ⟨_, rfl⟩
  have HCLl : Hid (CL.length = n) := by rw [hCL, hn]; exact chooseL_len _ _ _ _
  have HCLg : Hid (∀ (k : Nat) (ys : List Int) (x y : Int), k < n → x0[k]? = some ys → m[k]? = some x → q[k]? = some y → CL[k]? = some (if dearI ys y x == dear then y else x)) := fun k ys x y hk e1 e2 e3 => by
    rw [hCL, chooseL_get (by omega)]
    unfold pickI
    simp only [row_get e1, getD_of_get e2, getD_of_get e3]
  have LM := Lib.hid (fun w' hb a' c' g' => isMatchW_any w' a0 c0 x0 a1 c1 x1 (h.to hb) hv hin0 hin1 a' c' CL g' (by have := HCLl.out; omega))
  rw [HCLl.out] at LM
  rw [← hCL] at HY
  have LE := Lib.hid (fun w' a c ys x y => dearer_any w' a c ys x y)
  have Hh := Lib.hid h
  have G := Lib.hid g
  have G2 := Lib.hid g2
  have Hin0 := Lib.hid hin0
  rw [t3] at LC
  rw [t4] at LD
  have hn8 : n ≤ 8 := by omega
  generalize hcf : chooseF ⟨x0, x1⟩ m q dear = cf at *
  clear h g g2 hin0 hin1 t1 t2 t3 t4 HNO1 HNO2 hv hm hm2 hln hln2 h8 hCL hcf hn
  rw [Hm.out] at LA LC ⊢
  rw [Hx0.out] at LA LB LC LD LM X0 q0 hl0 ⊢
  rw [Hq.out] at LB LD ⊢
  go_enter Try.func76, Try.ntmps76
  go_wp2_with fail
  refine (LA.out _ X0.1).mono ?_
  rintro e w1 ⟨rfl, hb1⟩
  have X1 := X0.next hb1
  obtain ⟨q0, q1⟩ := X1.two
  clear hb1
  go_wp2_with fail
  refine (LB.out _ X1.1).mono ?_
  rintro e w2 ⟨rfl, hb2⟩
  have X2 := X1.next hb2
  obtain ⟨q0, q1⟩ := X2.two
  clear hb2
  go_wp2_with fail
  refine (LC.out _ X2.1).mono ?_
  rintro e w3 ⟨rfl, hb3⟩
  have X3 := X2.next hb3
  obtain ⟨q0, q1⟩ := X3.two
  clear hb3
  go_wp2_with fail
  refine (LD.out _ X3.1).mono ?_
  rintro e w4 ⟨rfl, hb4⟩
  have X4 := X3.next hb4
  obtain ⟨q0, q1⟩ := X4.two
  clear hb4
  have s4 := X4.lt
  go_wp2_with fail
  clear q0 q1
  go_loopw [38, 10] (fun iv v wr => ∃ k : Nat, k ≤ n ∧ iv = .int .i64 k ∧ Hid (wr.ownsRow w4.heap.size 2 1 v k (ints (CL.take k))) ∧ Bx w wr [.slice a0 n c0, .slice a1 x1.length c1] 28 ∧ w4.heap.size ≤ wr.heap.size) (fun iv _ _ => n - (intOf iv).toNat)
  case atStart => exact ⟨0, Nat.zero_le _, rfl, by simpa [Hid] using own_empty w4 _, X4.next (bl1 w4 _), by simp⟩
  case round =>
    obtain ⟨k, hk, rfl, hown, X, hsz⟩ := hrel
    by_cases hlt : k < n
    · obtain ⟨b2, o2, ys, a2, c2, e2, hb2, hc2, _, hr2, hy2⟩ := (Hh.out.1).get (k := k) (by rw [Hx0.out]; exact hlt)
      obtain ⟨b3, o3, x, e3, hb3, hc3, hx3⟩ := G.out.get (k := k) (by rw [Hm.out]; exact hlt)
      obtain ⟨b4, o4, y, e4, hb4, hc4, hx4⟩ := G2.out.get (k := k) (by rw [Hq.out]; exact hlt)
      subst e2 e3 e4
      have hw := X.1
      have d3 := (hw.cell (p := ⟨b3, o3 + k, none⟩) hb3).trans hc3
      have hs := hw.size
      have hxl := X.lt
      obtain ⟨q0, q1⟩ := X.two
      have F0 : ∀ z : Later wr, z.w'.cell? ⟨w.heap.size, 0, none⟩ = some (.slice (some ⟨b2, o2, none⟩) n c0) := fun z => z.cell hxl q0
      have F2 : ∀ z : Later wr, z.w'.cell? ⟨b2, o2 + k, none⟩ = some (.slice a2 ys.length c2) := fun z => z.cell (by simp only; omega) ((hw.cell (p := ⟨b2, o2 + k, none⟩) hb2).trans hc2)
      have F4 : ∀ z : Later wr, z.w'.cell? ⟨b4, o4 + k, none⟩ = some (.int .i64 y) := fun z => z.cell (by simp only; omega) ((hw.cell (p := ⟨b4, o4 + k, none⟩) hb4).trans hc4)
      have LE1 : Hid (∀ w', Below wr.heap.size wr w' → _) := fun w' hb => LE.out w' a2 c2 ys y x (hr2.to (hw.trans (hb.mono hw.size))) (Hin0.out ys (List.mem_of_getElem? hy2.out))
      have hcl := HCLg.out k ys x y hlt hy2.out hx3.out hx4.out
      have k0 : (0 : Int) ≤ (k : Int) := Int.natCast_nonneg _
      have k1 : (k : Int) < (n : Int) := by omega
      have F4' := fun z : Later wr => F4 z
      have Hd4 : Hid (∀ w', Below wr.heap.size wr w' → w'.cell? ⟨b4, o4 + k, none⟩ = some (.int .i64 y)) := fun w' hb => Later.cell ⟨w', hb⟩ (by simp only; omega) ((hw.cell (p := ⟨b4, o4 + k, none⟩) hb4).trans hc4)
      generalize dearI ys y x = D at *
      have HX := Lib.hid X
      clear hc2 hc3 hc4 hr2 hy2 hx3 hx4 hw hs hxl F4' q0 q1 X
      cases t : (D == dear) with
      | true =>
        rw [t] at hcl
        have HT : Hid (ints (CL.take (k + 1)) = ints (CL.take k) ++ [.int .i64 y]) := take_snoc hcl
        clear hcl
        go_wp2_with fail
        refine wp_region_later (by kernel_rfl) (by kernel_rfl) ?_
        repeat (go_big_quiet_step ((go_at_call 72; exact later_same (LE1.out _ (Later.h _)))))
        refine wpQuiet_nil ?_
        rintro wq ⟨⟨_, hbq⟩, rfl⟩
        clear F0 F2 F4 d3
        have X1 := HX.out.next hbq
        have hown1 := Lib.hid (own_below hown.out hbq)
        have hsz1 : w4.heap.size ≤ wq.heap.size := Nat.le_trans hsz hbq.size
        have d4 := Hd4.out _ hbq
        clear hbq HX hown hsz LE1
        go_wp2_with (at_builtin; refine wpList_append_one _ rfl _ _ 25 rfl w4.heap.size 2 (.int .i64 0) 8 Try.underlying25 info_i64p rfl _ k _ rfl hown1.out (.int .i64 y) rfl rfl (by omega) (by omega) hsz1 ?_)
        intro v' w5 ho hgr
        have hb5 := below_row hown1.out hgr hsz1
        have X5 := X1.far hb5 s4
        have HO : Hid (w5.ownsRow w4.heap.size 2 1 v' (k + 1) (ints (CL.take (k + 1)))) := by rw [HT.out]; exact ho
        have hsz5 : w4.heap.size ≤ w5.heap.size := Nat.le_trans hsz1 hb5.size
        clear hown1 ho hgr hb5 X1 hsz1
        go_wp2_with fail
        go_roundw
        case rel => exact ⟨k + 1, by omega, by go_num, HO, X5, hsz5⟩
        case measure => simp [intOf]; omega
      | false =>
        rw [t] at hcl
        have HT : Hid (ints (CL.take (k + 1)) = ints (CL.take k) ++ [.int .i64 x]) := take_snoc hcl
        clear hcl
        go_wp2_with fail
        refine wp_region_later (by kernel_rfl) (by kernel_rfl) ?_
        repeat (go_big_quiet_step ((go_at_call 72; exact later_same (LE1.out _ (Later.h _)))))
        refine wpQuiet_nil ?_
        rintro wq ⟨⟨_, hbq⟩, rfl⟩
        clear F0 F2 F4 d3
        have X1 := HX.out.next hbq
        have hown1 := Lib.hid (own_below hown.out hbq)
        have hsz1 : w4.heap.size ≤ wq.heap.size := Nat.le_trans hsz hbq.size
        clear hbq HX hown hsz LE1
        go_wp2_with (at_builtin; refine wpList_append_one _ rfl _ _ 25 rfl w4.heap.size 2 (.int .i64 0) 8 Try.underlying25 info_i64p rfl _ k _ rfl hown1.out (.int .i64 x) rfl rfl (by omega) (by omega) hsz1 ?_)
        intro v' w5 ho hgr
        have hb5 := below_row hown1.out hgr hsz1
        have X5 := X1.far hb5 s4
        have HO : Hid (w5.ownsRow w4.heap.size 2 1 v' (k + 1) (ints (CL.take (k + 1)))) := by rw [HT.out]; exact ho
        have hsz5 : w4.heap.size ≤ w5.heap.size := Nat.le_trans hsz1 hb5.size
        clear hown1 ho hgr hb5 X1 hsz1
        go_wp2_with fail
        go_roundw
        case rel => exact ⟨k + 1, by omega, by go_num, HO, X5, hsz5⟩
        case measure => simp [intOf]; omega
    · have : k = n := by omega
      subst this
      obtain ⟨a5, c5, rfl, _, _⟩ := own_shape hown.out
      have e5 : CL.take k = CL := List.take_of_length_le (by rw [HCLl.out]; exact Nat.le_refl _)
      rw [e5] at hown
      have LM1 := Lib.hid (LM.out wr X.1 a5 c5 (rd_of_own hown.out (Nat.le_refl _)))
      obtain ⟨q0, q1⟩ := X.two
      have HO := Lib.hid (own_base hown.out (show w.heap.size ≤ w4.heap.size by omega))
      clear hown e5
      cases t5 : matchB ⟨x0, x1⟩ CL with
      | false =>
        rw [t5] at LM1
        have HF : Hid (cf = none) := by rw [Hid, HY.out, t5]; rfl
        go_wp2_with fail
        refine LM1.out.mono ?_
        rintro e w6 ⟨rfl, hb6⟩
        have X6 := X.next hb6
        clear hb6 q0 q1
        go_wp2_with fail
        go_ret2
        rw [HF.out]
        exact RetI.no X6.1
      | true =>
        rw [t5] at LM1
        have HF : Hid (cf = some CL) := by rw [Hid, HY.out, t5]; rfl
        go_wp2_with fail
        refine LM1.out.mono ?_
        rintro e w6 ⟨rfl, hb6⟩
        have X6 := X.next hb6
        have HO6 := Lib.hid (own_below HO.out hb6)
        clear hb6 q0 q1
        go_wp2_with fail
        go_ret2
        rw [HF.out]
        exact ⟨X6.1, a5, c5, by rw [HCLl.out]; rfl, by rw [HCLl.out]; exact HO6.out⟩
theorem retI_up {T : Nat} {w w1 w2 : World} {r : Option (List Int)} {e : Ending} (hB : Below w.heap.size w w1) (h : RetI T w1 r e w2) : RetI T w r e w2 := by
  obtain ⟨h1, h2⟩ := h
  refine ⟨below_then hB h1, ?_⟩
  cases r with
  | none => exact h2
  | some xs =>
    obtain ⟨a, c, he, ho⟩ := h2
    exact ⟨a, c, he, own_base ho hB.size⟩
set_option maxHeartbeats 2000000 in
theorem meet_any (w : World) (a0 : Option Addr) (c0 : Nat) (x0 : List (List Int)) (a1 : Option Addr) (c1 : Nat) (x1 : List (List Int)) (a : Option Addr) (c : Nat) (m : List Int) (b : Option Addr) (d : Nat) (q : List Int)
    (h : RdWishes w w.heap.size a0 x0 a1 x1) (hl0 : x0.length ≤ 1048576) (hin0 : ∀ y ∈ x0, y.length ≤ 1048576) (hl1 : x1.length ≤ 1048576) (hin1 : ∀ y ∈ x1, y.length ≤ 1048576) (g : Rd w w.heap.size a (ints m)) (hl : m.length ≤ 1048576) (g2 : Rd w w.heap.size b (ints q)) (hl2 : q.length ≤ 1048576) :
    Calls Try.prog 34 #[.agg #[.slice a0 x0.length c0, .slice a1 x1.length c1], .slice a m.length c, .slice b q.length d] w (RetI 2 w (chooseF ⟨x0, x1⟩ m q true)) := by
  have hB := bl1 w (.cells #[.slice a0 x0.length c0, .slice a1 x1.length c1] 28)
  have L := Lib.hid (choose_any _ a0 c0 x0 a1 c1 x1 a c m b d q true (h.to hB) hl0 hin0 hl1 hin1 (g.to hB) hl (g2.to hB) hl2)
  generalize chooseF ⟨x0, x1⟩ m q true = r at *
  clear h g g2 hin0 hin1
  go_enter Try.func34, Try.ntmps34
  go_wp2_with fail
  refine L.out.mono ?_
  intro e w1 hR
  obtain ⟨hb, a', c', rfl, ho⟩ := hR.flat
  have HR : Hid (RetI 2 w r (.returned (.tuple #[.slice a' (r.getD []).length c', .bool r.isSome])) w1) := retI_up hB hR
  clear hR hb ho L
  go_wp2_with fail
  go_ret2
  exact HR.out
set_option maxHeartbeats 2000000 in
theorem join_any (w : World) (a0 : Option Addr) (c0 : Nat) (x0 : List (List Int)) (a1 : Option Addr) (c1 : Nat) (x1 : List (List Int)) (a : Option Addr) (c : Nat) (m : List Int) (b : Option Addr) (d : Nat) (q : List Int)
    (h : RdWishes w w.heap.size a0 x0 a1 x1) (hl0 : x0.length ≤ 1048576) (hin0 : ∀ y ∈ x0, y.length ≤ 1048576) (hl1 : x1.length ≤ 1048576) (hin1 : ∀ y ∈ x1, y.length ≤ 1048576) (g : Rd w w.heap.size a (ints m)) (hl : m.length ≤ 1048576) (g2 : Rd w w.heap.size b (ints q)) (hl2 : q.length ≤ 1048576) :
    Calls Try.prog 29 #[.agg #[.slice a0 x0.length c0, .slice a1 x1.length c1], .slice a m.length c, .slice b q.length d] w (RetI 2 w (chooseF ⟨x0, x1⟩ m q false)) := by
  have hB := bl1 w (.cells #[.slice a0 x0.length c0, .slice a1 x1.length c1] 28)
  have L := Lib.hid (choose_any _ a0 c0 x0 a1 c1 x1 a c m b d q false (h.to hB) hl0 hin0 hl1 hin1 (g.to hB) hl (g2.to hB) hl2)
  generalize chooseF ⟨x0, x1⟩ m q false = r at *
  clear h g g2 hin0 hin1
  go_enter Try.func29, Try.ntmps29
  go_wp2_with fail
  refine L.out.mono ?_
  intro e w1 hR
  obtain ⟨hb, a', c', rfl, ho⟩ := hR.flat
  have HR : Hid (RetI 2 w r (.returned (.tuple #[.slice a' (r.getD []).length c', .bool r.isSome])) w1) := retI_up hB hR
  clear hR hb ho L
  go_wp2_with fail
  go_ret2
  exact HR.out
end Go.Proofs.Ytdipckpcmnhpjaa
