/-
  Of two stable matches the dearer ones, or the less dear ones: the reference's road.
-/
import Derived.Test.YtdipckpcmnhpjaaMatC
namespace Go.Proofs.Ytdipckpcmnhpjaa
set_option linter.unusedVariables false
set_option linter.unusedSimpArgs false
open Go.RowKit

def bothF (w : Wi) (a b : List Int) (less : Bool) : Option (List Int × Bool) := if (wishB w && stableB w a) && (wishB w && stableB w b) then some (chooseR w a b less, matchB w (chooseR w a b less)) else none
theorem chooseR_len (w : Wi) (a b : List Int) (less : Bool) : (chooseR w a b less).length = a.length := by simp [chooseR]
theorem chooseR_get {w : Wi} {a b : List Int} {less : Bool} {k : Nat} (h : k < a.length) : (chooseR w a b less)[k]? = some (pickR w a b less k) := by simp [chooseR, h]
theorem both_choose (w : Wi) (a b : List Int) (dear : Bool) : chooseF w a b dear = match bothF w a b (!dear) with
    | some (xs, true) => some xs
    | _ => none := by
  unfold bothF
  cases h1 : wishB w && stableB w a with
  | false => rw [choose_no1 h1]; simp
  | true =>
    cases h2 : wishB w && stableB w b with
    | false => rw [choose_no2 h2]; simp
    | true =>
      rw [choose_yes h1 h2]
      simp only [Bool.and_eq_true] at h1 h2
      have e := choose_eq (wish_of h1.1) (stab_of h1.2) (stab_of h2.2) dear
      rw [e]
      simp only [Bool.and_self, if_true]
      cases matchB w (chooseR w a b (!dear)) <;> rfl
set_option maxRecDepth 10000 in
set_option maxHeartbeats 8000000 in
theorem l05Both_any (w : World) (bb oo : Nat) (a0 : Option Addr) (c0 : Nat) (x0 : List (List Int)) (a1 : Option Addr) (c1 : Nat) (x1 : List (List Int)) (d0 : w.cell? ⟨bb, oo, none⟩ = some (.slice a0 x0.length c0)) (d1 : w.cell? ⟨bb, oo + 1, none⟩ = some (.slice a1 x1.length c1)) (hbl : bb < w.heap.size) (a : Option Addr) (c : Nat) (m : List Int) (b : Option Addr) (d : Nat) (q : List Int) (less : Bool)
    (h : RdWishes w w.heap.size a0 x0 a1 x1) (hl0 : x0.length ≤ 1048576) (hin0 : ∀ y ∈ x0, y.length ≤ 1048576) (hl1 : x1.length ≤ 1048576) (hin1 : ∀ y ∈ x1, y.length ≤ 1048576) (g : Rd w w.heap.size a (ints m)) (hl : m.length ≤ 1048576) (hc : m.length ≤ c) (g2 : Rd w w.heap.size b (ints q)) (hl2 : q.length ≤ 1048576) (hd : q.length ≤ d) :
    Calls Try.prog 75 #[.pointer (some ⟨bb, oo, none⟩), .slice a m.length c, .slice b q.length d, .bool less] w (RetB 2 w (bothF ⟨x0, x1⟩ m q less)) := by
  have D0 : Hid (∀ w', Below w.heap.size w w' → w'.cell? ⟨bb, oo, none⟩ = some (.slice a0 x0.length c0)) := fun w' hb => (hb.cell (p := ⟨bb, oo, none⟩) hbl).trans d0
  have D1 : Hid (∀ w', Below w.heap.size w w' → w'.cell? ⟨bb, oo + 1, none⟩ = some (.slice a1 x1.length c1)) := fun w' hb => (hb.cell (p := ⟨bb, oo + 1, none⟩) hbl).trans d1
  have LA := Lib.hid (fun w' hb => l05Stable_any w' bb oo a0 c0 x0 a1 c1 x1 (D0.out w' hb) (D1.out w' hb) (Nat.lt_of_lt_of_le hbl hb.size) a c m (h.to hb) hl0 hin0 hl1 hin1 (g.to hb) hl hc)
  have LB := Lib.hid (fun w' hb => l05Stable_any w' bb oo a0 c0 x0 a1 c1 x1 (D0.out w' hb) (D1.out w' hb) (Nat.lt_of_lt_of_le hbl hb.size) b d q (h.to hb) hl0 hin0 hl1 hin1 (g2.to hb) hl2 hd)
  cases t1 : wishB ⟨x0, x1⟩ && stableB ⟨x0, x1⟩ m with
  | false =>
    have HF : Hid (bothF ⟨x0, x1⟩ m q less = none) := by rw [Hid]; unfold bothF; rw [t1]; rfl
    rw [t1] at LA
    clear h g g2 hin0 hin1 t1 d0 d1 hbl
    go_enter Try.func75, Try.ntmps75
    go_wp2_with fail
    refine (LA.out _ (Below.refl _ _)).mono ?_
    rintro e w1 ⟨rfl, hb1⟩
    go_wp2_with fail
    go_ret2
    rw [HF.out]
    exact ⟨hb1, rfl⟩
  | true =>
  cases t2 : wishB ⟨x0, x1⟩ && stableB ⟨x0, x1⟩ q with
  | false =>
    have HF : Hid (bothF ⟨x0, x1⟩ m q less = none) := by rw [Hid]; unfold bothF; rw [t1, t2]; rfl
    rw [t1] at LA
    rw [t2] at LB
    clear h g g2 hin0 hin1 t1 t2 d0 d1 hbl
    go_enter Try.func75, Try.ntmps75
    go_wp2_with fail
    refine (LA.out _ (Below.refl _ _)).mono ?_
    rintro e w1 ⟨rfl, hb1⟩
    go_wp2_with fail
    refine (LB.out _ hb1).mono ?_
    rintro e w2 ⟨rfl, hb2⟩
    have B2 := below_then hb1 hb2
    clear hb1 hb2
    go_wp2_with fail
    go_ret2
    rw [HF.out]
    exact ⟨B2, rfl⟩
  | true =>
  have HY : Hid (bothF ⟨x0, x1⟩ m q less = some (chooseR ⟨x0, x1⟩ m q less, matchB ⟨x0, x1⟩ (chooseR ⟨x0, x1⟩ m q less))) := by rw [Hid]; unfold bothF; rw [t1, t2]; rfl
  have hv := wish_of (Bool.and_eq_true _ _ ▸ t1 : wishB ⟨x0, x1⟩ = true ∧ _).1
  have hm := stab_of (Bool.and_eq_true _ _ ▸ t1 : _ ∧ stableB ⟨x0, x1⟩ m = true).2
  have hm2 := stab_of (Bool.and_eq_true _ _ ▸ t2 : _ ∧ stableB ⟨x0, x1⟩ q = true).2
  have hW : wishB ⟨x0, x1⟩ = true := (Bool.and_eq_true _ _ ▸ t1 : wishB ⟨x0, x1⟩ = true ∧ _).1
  have hln := hm.len
  have hln2 := hm2.len
  have h8 := hv.n8
  simp only at hln hln2 h8
  obtain ⟨n, hn⟩ : ∃ n, n = m.length := ⟨_, rfl⟩
  have Hx0 : Hid (x0.length = n) := by rw [hn]; exact hln.symm
  have Hq : Hid (q.length = n) := by rw [hn, hln2]; exact hln.symm
  have Hm : Hid (m.length = n) := hn.symm
  obtain ⟨CL, hCL⟩ : ∃ CL, CL = chooseR ⟨x0, x1⟩ m q less := ⟨_, rfl⟩
  have HCLl : Hid (CL.length = n) := by rw [hCL, hn]; exact chooseR_len _ _ _ _
  have HCLg : Hid (∀ (k : Nat) (ys : List Int) (x y : Int), k < n → x0[k]? = some ys → m[k]? = some x → q[k]? = some y → CL[k]? = some (if less then (if (decide (x < 0) || (decide (0 ≤ y) && dearB ys y x)) then x else y) else (if (decide (x < 0) || (decide (0 ≤ y) && dearB ys y x)) then y else x))) := fun k ys x y hk e1 e2 e3 => by
    rw [hCL, chooseR_get (by omega)]
    unfold pickR swapB
    simp only [row_get e1, getD_of_get e2, getD_of_get e3]
  have LM := Lib.hid (fun w' hb a' c' g' hcc => l05Match_any w' bb oo a0 c0 x0 a1 c1 x1 (D0.out w' hb) (D1.out w' hb) a' c' CL (h.to hb) hl0 hin0 hl1 hin1 g' (by have := HCLl.out; omega) hcc)
  rw [HCLl.out, hW, Bool.true_and] at LM
  rw [← hCL] at HY
  have LE := Lib.hid (fun w' a c ys x y => l05Dearer_any w' a c ys x y)
  have Hh := Lib.hid h
  have G := Lib.hid g
  have G2 := Lib.hid g2
  have Hin0 := Lib.hid hin0
  rw [t1] at LA
  rw [t2] at LB
  have hn8 : n ≤ 8 := by omega
  generalize hcf : bothF ⟨x0, x1⟩ m q less = cf at *
  generalize hmb : matchB ⟨x0, x1⟩ CL = mb at *
  clear h g g2 hin0 hin1 t1 t2 hv hm hm2 hln hln2 h8 hCL hcf hn hW hmb d0 d1 hbl
  rw [Hm.out] at LA ⊢
  rw [Hx0.out] at D0
  rw [Hq.out] at LB ⊢
  go_enter Try.func75, Try.ntmps75
  go_wp2_with fail
  refine (LA.out _ (Below.refl _ _)).mono ?_
  rintro e w1 ⟨rfl, hb1⟩
  go_wp2_with fail
  refine (LB.out _ hb1).mono ?_
  rintro e w2 ⟨rfl, hb2⟩
  have B2 := below_then hb1 hb2
  have s2 := B2.size
  clear hb1 hb2
  go_wp2_with fail
  go_loopw [27, 10] (fun iv v wr => ∃ k : Nat, k ≤ n ∧ iv = .int .i64 k ∧ Hid (wr.ownsRow w2.heap.size 2 1 v k (ints (CL.take k))) ∧ Below w2.heap.size w2 wr) (fun iv _ _ => n - (intOf iv).toNat)
  case atStart => exact ⟨0, Nat.zero_le _, rfl, by simpa [Hid] using own_empty w2 _, bl1 w2 _⟩
  case round =>
    obtain ⟨k, hk, rfl, hown, hw2⟩ := hrel
    by_cases hlt : k < n
    · have hw := B2.trans (hw2.mono s2)
      obtain ⟨b2, o2, ys, a2, c2, e2, hb2, hc2, _, hr2, hy2⟩ := (Hh.out.1).get (k := k) (by rw [Hx0.out]; exact hlt)
      obtain ⟨b3, o3, x, e3, hb3, hc3, hx3⟩ := G.out.get (k := k) (by rw [Hm.out]; exact hlt)
      obtain ⟨b4, o4, y, e4, hb4, hc4, hx4⟩ := G2.out.get (k := k) (by rw [Hq.out]; exact hlt)
      subst e2 e3 e4
      have d2 := (hw.cell (p := ⟨b2, o2 + k, none⟩) hb2).trans hc2
      have d3 := (hw.cell (p := ⟨b3, o3 + k, none⟩) hb3).trans hc3
      have d4 := (hw.cell (p := ⟨b4, o4 + k, none⟩) hb4).trans hc4
      have d0 := D0.out _ hw
      have LE1 := Lib.hid (LE.out wr a2 c2 ys y x (hr2.to hw) (Hin0.out ys (List.mem_of_getElem? hy2.out)))
      have hcl := HCLg.out k ys x y hlt hy2.out hx3.out hx4.out
      have k0 : (0 : Int) ≤ (k : Int) := Int.natCast_nonneg _
      have k1 : (k : Int) < (n : Int) := by omega
      generalize dearB ys y x = D at *
      have hsz := hw2.size
      clear hc2 hc3 hc4 hr2 hy2 hx3 hx4 hw
      cases less with
      | true =>
        by_cases hx0 : x < 0
        · have hcl : CL[k]? = some x := by rw [hcl]; simp [hx0]
          have HT : Hid (ints (CL.take (k + 1)) = ints (CL.take k) ++ [.int .i64 x]) := take_snoc hcl
          clear hcl
          go_wp2_with (at_builtin; refine wpList_append_one _ rfl _ _ 25 rfl w2.heap.size 2 (.int .i64 0) 8 Try.underlying25 info_i64p rfl _ k _ rfl hown.out (.int .i64 x) rfl rfl (by omega) (by omega) hsz ?_)
          intro v' w5 ho hgr
          have hw5 := hw2.trans (below_row hown.out hgr hsz)
          have HO : Hid (w5.ownsRow w2.heap.size 2 1 v' (k + 1) (ints (CL.take (k + 1)))) := by rw [HT.out]; exact ho
          clear hown ho hgr hw2 d0 d2 d3 d4
          go_wp2_with fail
          go_roundw
          case rel => exact ⟨k + 1, by omega, by go_num, HO, hw5⟩
          case measure => simp [intOf]; omega
        · by_cases hy0 : y < 0
          · have hcl : CL[k]? = some y := by (have h9 : ¬ (0 ≤ y) := by omega); rw [hcl]; simp [hx0, h9]
            have HT : Hid (ints (CL.take (k + 1)) = ints (CL.take k) ++ [.int .i64 y]) := take_snoc hcl
            clear hcl
            go_wp2_with (at_builtin; refine wpList_append_one _ rfl _ _ 25 rfl w2.heap.size 2 (.int .i64 0) 8 Try.underlying25 info_i64p rfl _ k _ rfl hown.out (.int .i64 y) rfl rfl (by omega) (by omega) hsz ?_)
            intro v' w5 ho hgr
            have hw5 := hw2.trans (below_row hown.out hgr hsz)
            have HO : Hid (w5.ownsRow w2.heap.size 2 1 v' (k + 1) (ints (CL.take (k + 1)))) := by rw [HT.out]; exact ho
            clear hown ho hgr hw2 d0 d2 d3 d4
            go_wp2_with fail
            go_roundw
            case rel => exact ⟨k + 1, by omega, by go_num, HO, hw5⟩
            case measure => simp [intOf]; omega
          · have hy1 : 0 ≤ y := by omega
            cases D with
            | true =>
              have hcl : CL[k]? = some x := by rw [hcl]; simp [hx0, hy1]
              have HT : Hid (ints (CL.take (k + 1)) = ints (CL.take k) ++ [.int .i64 x]) := take_snoc hcl
              clear hcl
              go_wp2_with fail
              refine LE1.out.mono ?_
              rintro e w5 ⟨rfl, rfl⟩
              go_wp2_with (at_builtin; refine wpList_append_one _ rfl _ _ 25 rfl w2.heap.size 2 (.int .i64 0) 8 Try.underlying25 info_i64p rfl _ k _ rfl hown.out (.int .i64 x) rfl rfl (by omega) (by omega) hsz ?_)
              intro v' w5 ho hgr
              have hw5 := hw2.trans (below_row hown.out hgr hsz)
              have HO : Hid (w5.ownsRow w2.heap.size 2 1 v' (k + 1) (ints (CL.take (k + 1)))) := by rw [HT.out]; exact ho
              clear hown ho hgr hw2 d0 d2 d3 d4
              go_wp2_with fail
              go_roundw
              case rel => exact ⟨k + 1, by omega, by go_num, HO, hw5⟩
              case measure => simp [intOf]; omega
            | false =>
              have hcl : CL[k]? = some y := by rw [hcl]; simp [hx0, hy1]
              have HT : Hid (ints (CL.take (k + 1)) = ints (CL.take k) ++ [.int .i64 y]) := take_snoc hcl
              clear hcl
              go_wp2_with fail
              refine LE1.out.mono ?_
              rintro e w5 ⟨rfl, rfl⟩
              go_wp2_with (at_builtin; refine wpList_append_one _ rfl _ _ 25 rfl w2.heap.size 2 (.int .i64 0) 8 Try.underlying25 info_i64p rfl _ k _ rfl hown.out (.int .i64 y) rfl rfl (by omega) (by omega) hsz ?_)
              intro v' w5 ho hgr
              have hw5 := hw2.trans (below_row hown.out hgr hsz)
              have HO : Hid (w5.ownsRow w2.heap.size 2 1 v' (k + 1) (ints (CL.take (k + 1)))) := by rw [HT.out]; exact ho
              clear hown ho hgr hw2 d0 d2 d3 d4
              go_wp2_with fail
              go_roundw
              case rel => exact ⟨k + 1, by omega, by go_num, HO, hw5⟩
              case measure => simp [intOf]; omega
      | false =>
        by_cases hx0 : x < 0
        · have hcl : CL[k]? = some y := by rw [hcl]; simp [hx0]
          have HT : Hid (ints (CL.take (k + 1)) = ints (CL.take k) ++ [.int .i64 y]) := take_snoc hcl
          clear hcl
          go_wp2_with (at_builtin; refine wpList_append_one _ rfl _ _ 25 rfl w2.heap.size 2 (.int .i64 0) 8 Try.underlying25 info_i64p rfl _ k _ rfl hown.out (.int .i64 y) rfl rfl (by omega) (by omega) hsz ?_)
          intro v' w5 ho hgr
          have hw5 := hw2.trans (below_row hown.out hgr hsz)
          have HO : Hid (w5.ownsRow w2.heap.size 2 1 v' (k + 1) (ints (CL.take (k + 1)))) := by rw [HT.out]; exact ho
          clear hown ho hgr hw2 d0 d2 d3 d4
          go_wp2_with fail
          go_roundw
          case rel => exact ⟨k + 1, by omega, by go_num, HO, hw5⟩
          case measure => simp [intOf]; omega
        · by_cases hy0 : y < 0
          · have hcl : CL[k]? = some x := by (have h9 : ¬ (0 ≤ y) := by omega); rw [hcl]; simp [hx0, h9]
            have HT : Hid (ints (CL.take (k + 1)) = ints (CL.take k) ++ [.int .i64 x]) := take_snoc hcl
            clear hcl
            go_wp2_with (at_builtin; refine wpList_append_one _ rfl _ _ 25 rfl w2.heap.size 2 (.int .i64 0) 8 Try.underlying25 info_i64p rfl _ k _ rfl hown.out (.int .i64 x) rfl rfl (by omega) (by omega) hsz ?_)
            intro v' w5 ho hgr
            have hw5 := hw2.trans (below_row hown.out hgr hsz)
            have HO : Hid (w5.ownsRow w2.heap.size 2 1 v' (k + 1) (ints (CL.take (k + 1)))) := by rw [HT.out]; exact ho
            clear hown ho hgr hw2 d0 d2 d3 d4
            go_wp2_with fail
            go_roundw
            case rel => exact ⟨k + 1, by omega, by go_num, HO, hw5⟩
            case measure => simp [intOf]; omega
          · have hy1 : 0 ≤ y := by omega
            cases D with
            | true =>
              have hcl : CL[k]? = some y := by rw [hcl]; simp [hx0, hy1]
              have HT : Hid (ints (CL.take (k + 1)) = ints (CL.take k) ++ [.int .i64 y]) := take_snoc hcl
              clear hcl
              go_wp2_with fail
              refine LE1.out.mono ?_
              rintro e w5 ⟨rfl, rfl⟩
              go_wp2_with (at_builtin; refine wpList_append_one _ rfl _ _ 25 rfl w2.heap.size 2 (.int .i64 0) 8 Try.underlying25 info_i64p rfl _ k _ rfl hown.out (.int .i64 y) rfl rfl (by omega) (by omega) hsz ?_)
              intro v' w5 ho hgr
              have hw5 := hw2.trans (below_row hown.out hgr hsz)
              have HO : Hid (w5.ownsRow w2.heap.size 2 1 v' (k + 1) (ints (CL.take (k + 1)))) := by rw [HT.out]; exact ho
              clear hown ho hgr hw2 d0 d2 d3 d4
              go_wp2_with fail
              go_roundw
              case rel => exact ⟨k + 1, by omega, by go_num, HO, hw5⟩
              case measure => simp [intOf]; omega
            | false =>
              have hcl : CL[k]? = some x := by rw [hcl]; simp [hx0, hy1]
              have HT : Hid (ints (CL.take (k + 1)) = ints (CL.take k) ++ [.int .i64 x]) := take_snoc hcl
              clear hcl
              go_wp2_with fail
              refine LE1.out.mono ?_
              rintro e w5 ⟨rfl, rfl⟩
              go_wp2_with (at_builtin; refine wpList_append_one _ rfl _ _ 25 rfl w2.heap.size 2 (.int .i64 0) 8 Try.underlying25 info_i64p rfl _ k _ rfl hown.out (.int .i64 x) rfl rfl (by omega) (by omega) hsz ?_)
              intro v' w5 ho hgr
              have hw5 := hw2.trans (below_row hown.out hgr hsz)
              have HO : Hid (w5.ownsRow w2.heap.size 2 1 v' (k + 1) (ints (CL.take (k + 1)))) := by rw [HT.out]; exact ho
              clear hown ho hgr hw2 d0 d2 d3 d4
              go_wp2_with fail
              go_roundw
              case rel => exact ⟨k + 1, by omega, by go_num, HO, hw5⟩
              case measure => simp [intOf]; omega
    · have : k = n := by omega
      subst this
      obtain ⟨a5, c5, rfl, hcap, _⟩ := own_shape hown.out
      have e5 : CL.take k = CL := List.take_of_length_le (by rw [HCLl.out]; exact Nat.le_refl _)
      rw [e5] at hown
      have hw := B2.trans (hw2.mono s2)
      have LM1 := Lib.hid (LM.out wr hw a5 c5 (rd_of_own hown.out (Nat.le_refl _)) hcap)
      have HO := Lib.hid (own_base hown.out s2)
      clear hown e5 hw2
      go_wp2_with fail
      refine LM1.out.mono ?_
      rintro e w6 ⟨rfl, t, rfl⟩
      go_wp2_with fail
      go_ret2
      rw [HY.out]
      exact ⟨below_drewN hw t, a5, c5, by rw [HCLl.out]; rfl, by rw [HCLl.out]; exact HO.out⟩
set_option maxHeartbeats 2000000 in
theorem meetR_any (w : World) (a0 : Option Addr) (c0 : Nat) (x0 : List (List Int)) (a1 : Option Addr) (c1 : Nat) (x1 : List (List Int)) (a : Option Addr) (c : Nat) (m : List Int) (b : Option Addr) (d : Nat) (q : List Int)
    (h : RdWishes w w.heap.size a0 x0 a1 x1) (hl0 : x0.length ≤ 1048576) (hin0 : ∀ y ∈ x0, y.length ≤ 1048576) (hl1 : x1.length ≤ 1048576) (hin1 : ∀ y ∈ x1, y.length ≤ 1048576) (g : Rd w w.heap.size a (ints m)) (hl : m.length ≤ 1048576) (hc : m.length ≤ c) (g2 : Rd w w.heap.size b (ints q)) (hl2 : q.length ≤ 1048576) (hd : q.length ≤ d) :
    Calls Try.prog 33 #[.agg #[.slice a0 x0.length c0, .slice a1 x1.length c1], .slice a m.length c, .slice b q.length d] w (RetI 2 w (chooseF ⟨x0, x1⟩ m q true)) := by
  have hB := bl1 w (.cells #[.slice a0 x0.length c0, .slice a1 x1.length c1] 28)
  have k := Blk.new w [.slice a0 x0.length c0, .slice a1 x1.length c1] 28
  have L := Lib.hid (l05Both_any _ w.heap.size 0 a0 c0 x0 a1 c1 x1 (k.cell 0) (k.cell 1) (by simp) a c m b d q false (h.to hB) hl0 hin0 hl1 hin1 (g.to hB) hl hc (g2.to hB) hl2 hd)
  have HE := Lib.hid (both_choose ⟨x0, x1⟩ m q true)
  simp only [Bool.not_true, Bool.not_false] at HE
  generalize chooseF ⟨x0, x1⟩ m q true = r at *
  generalize bothF ⟨x0, x1⟩ m q false = r2 at *
  clear h g g2 hin0 hin1 k
  match r2 with
  | none =>
    have HR : Hid (r = none) := HE.out
    rw [HR.out]
    go_enter Try.func33, Try.ntmps33
    go_wp2_with fail
    refine L.out.mono ?_
    rintro e w1 ⟨hb1, rfl⟩
    have B1 := below_then hB hb1
    clear hb1
    go_wp2_with fail
    go_ret2
    exact RetI.no B1
  | some (xs, false) =>
    have HR : Hid (r = none) := HE.out
    rw [HR.out]
    go_enter Try.func33, Try.ntmps33
    go_wp2_with fail
    refine L.out.mono ?_
    rintro e w1 ⟨hb1, a', c', rfl, ho⟩
    have B1 := below_then hB hb1
    clear hb1 ho
    go_wp2_with fail
    go_ret2
    exact RetI.no B1
  | some (xs, true) =>
    have HR : Hid (r = some xs) := HE.out
    rw [HR.out]
    go_enter Try.func33, Try.ntmps33
    go_wp2_with fail
    refine L.out.mono ?_
    rintro e w1 ⟨hb1, a', c', rfl, ho⟩
    have B1 := below_then hB hb1
    have HO := Lib.hid (own_base ho hB.size)
    clear hb1 ho
    go_wp2_with fail
    go_ret2
    exact ⟨B1, a', c', rfl, HO.out⟩
set_option maxHeartbeats 2000000 in
theorem joinR_any (w : World) (a0 : Option Addr) (c0 : Nat) (x0 : List (List Int)) (a1 : Option Addr) (c1 : Nat) (x1 : List (List Int)) (a : Option Addr) (c : Nat) (m : List Int) (b : Option Addr) (d : Nat) (q : List Int)
    (h : RdWishes w w.heap.size a0 x0 a1 x1) (hl0 : x0.length ≤ 1048576) (hin0 : ∀ y ∈ x0, y.length ≤ 1048576) (hl1 : x1.length ≤ 1048576) (hin1 : ∀ y ∈ x1, y.length ≤ 1048576) (g : Rd w w.heap.size a (ints m)) (hl : m.length ≤ 1048576) (hc : m.length ≤ c) (g2 : Rd w w.heap.size b (ints q)) (hl2 : q.length ≤ 1048576) (hd : q.length ≤ d) :
    Calls Try.prog 28 #[.agg #[.slice a0 x0.length c0, .slice a1 x1.length c1], .slice a m.length c, .slice b q.length d] w (RetI 2 w (chooseF ⟨x0, x1⟩ m q false)) := by
  have hB := bl1 w (.cells #[.slice a0 x0.length c0, .slice a1 x1.length c1] 28)
  have k := Blk.new w [.slice a0 x0.length c0, .slice a1 x1.length c1] 28
  have L := Lib.hid (l05Both_any _ w.heap.size 0 a0 c0 x0 a1 c1 x1 (k.cell 0) (k.cell 1) (by simp) a c m b d q true (h.to hB) hl0 hin0 hl1 hin1 (g.to hB) hl hc (g2.to hB) hl2 hd)
  have HE := Lib.hid (both_choose ⟨x0, x1⟩ m q false)
  simp only [Bool.not_true, Bool.not_false] at HE
  generalize chooseF ⟨x0, x1⟩ m q false = r at *
  generalize bothF ⟨x0, x1⟩ m q true = r2 at *
  clear h g g2 hin0 hin1 k
  match r2 with
  | none =>
    have HR : Hid (r = none) := HE.out
    rw [HR.out]
    go_enter Try.func28, Try.ntmps28
    go_wp2_with fail
    refine L.out.mono ?_
    rintro e w1 ⟨hb1, rfl⟩
    have B1 := below_then hB hb1
    clear hb1
    go_wp2_with fail
    go_ret2
    exact RetI.no B1
  | some (xs, false) =>
    have HR : Hid (r = none) := HE.out
    rw [HR.out]
    go_enter Try.func28, Try.ntmps28
    go_wp2_with fail
    refine L.out.mono ?_
    rintro e w1 ⟨hb1, a', c', rfl, ho⟩
    have B1 := below_then hB hb1
    clear hb1 ho
    go_wp2_with fail
    go_ret2
    exact RetI.no B1
  | some (xs, true) =>
    have HR : Hid (r = some xs) := HE.out
    rw [HR.out]
    go_enter Try.func28, Try.ntmps28
    go_wp2_with fail
    refine L.out.mono ?_
    rintro e w1 ⟨hb1, a', c', rfl, ho⟩
    have B1 := below_then hB hb1
    have HO := Lib.hid (own_base ho hB.size)
    clear hb1 ho
    go_wp2_with fail
    go_ret2
    exact ⟨B1, a', c', rfl, HO.out⟩
end Go.Proofs.Ytdipckpcmnhpjaa
