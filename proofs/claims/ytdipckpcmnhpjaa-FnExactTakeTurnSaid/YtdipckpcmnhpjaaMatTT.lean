/-
  A turn is taken: lists compared, the stores; both roads.
-/
import Derived.Test.YtdipckpcmnhpjaaMatTR
namespace Go.Proofs.Ytdipckpcmnhpjaa
set_option linter.unusedVariables false
set_option linter.unusedSimpArgs false
open Go.RowKit

set_option maxHeartbeats 1000000 in
theorem l00Same_any (w : World) (a b : Option Addr) (c d : Nat) (xs ys : List Int) (hx : Rd w w.heap.size a (ints xs)) (hy : Rd w w.heap.size b (ints ys)) (hlx : xs.length ≤ 1099511627776) (hly : ys.length ≤ 1099511627776) :
    Calls Try.prog 87 #[.slice a xs.length c, .slice b ys.length d] w fun e w' => e = .returned (.bool (decide (xs = ys))) ∧ ∃ n, w' = w.drewN n := by
  by_cases hlen : xs.length = ys.length
  · have hb1 : ((xs.length : Int) != (ys.length : Int)) = false := by simp [hlen]
    go_enter Try.func87, Try.ntmps87
    go_wp2
    go_loopw [5] (fun i wr => ∃ k n : Nat, k ≤ xs.length ∧ i = .int .i64 k ∧ xs.take k = ys.take k ∧ wr = w.drewN n) (fun i _ => xs.length - (intOf i).toNat)
    case atStart => exact ⟨0, 0, Nat.zero_le _, rfl, rfl, rfl⟩
    case round =>
      obtain ⟨k, n, hk, rfl, htk', rfl⟩ := hrel
      have htk := Lib.hid htk'
      clear htk'
      by_cases hlt : k < xs.length
      · obtain ⟨b1, o1, x, rfl, _, hcx, hx'⟩ := hx.get hlt
        obtain ⟨b2, o2, y, rfl, _, hcy, hy'⟩ := hy.get (k := k) (by omega)
        have hlt2 : k < ys.length := by omega
        clear hx hy
        by_cases hxy : x = y
        · subst hxy
          go_wp2
          go_quiet (fail)
          go_wp2
          go_roundw
          case rel => exact ⟨k + 1, n + nq, by omega, by go_num, (take_eq_succ hx'.out hy'.out htk.out).2 rfl, by first | rfl | exact World.drewN_drewN _ _ _⟩
          case measure => simp [intOf]; omega
        · have hne : (x != y) = true := by simp [hxy]
          go_wp2
          go_quiet (fail)
          go_wp2
          go_ret
          exact ⟨ret_bool (by simp [ne_of_get hx'.out hy'.out hxy]), n + nq, by first | rfl | exact World.drewN_drewN _ _ _⟩
      · have : k = xs.length := by omega
        subst this
        go_wp2
        go_ret
        exact ⟨ret_bool (by have := htk.out; rw [List.take_length, hlen, List.take_length] at this; simp [this]), _, rfl⟩
  · have hb1 : ((xs.length : Int) != (ys.length : Int)) = true := by simp; omega
    have hnn : xs ≠ ys := fun e => hlen (by rw [e])
    go_enter Try.func87, Try.ntmps87
    go_wp2
    go_ret
    exact ⟨ret_bool (by simp [hnn]), 0, rfl⟩
set_option maxHeartbeats 1000000 in
theorem slEqual_any (w : World) (a b : Option Addr) (c d : Nat) (xs ys : List Int) (hx : Rd w w.heap.size a (ints xs)) (hy : Rd w w.heap.size b (ints ys)) (hlx : xs.length ≤ 1099511627776) (hly : ys.length ≤ 1099511627776) :
    Calls Try.prog 90 #[.slice a xs.length c, .slice b ys.length d] w fun e w' => e = .returned (.bool (decide (xs = ys))) ∧ ∃ n, w' = w.drewN n := by
  by_cases hlen : xs.length = ys.length
  · have hb1 : ((xs.length : Int) != (ys.length : Int)) = false := by simp [hlen]
    go_enter Try.func90, Try.ntmps90
    go_wp2
    go_loopw [13] (fun i wr => ∃ k n : Nat, k ≤ xs.length ∧ i = .int .i64 k ∧ xs.take k = ys.take k ∧ wr = w.drewN n) (fun i _ => xs.length - (intOf i).toNat)
    case atStart => exact ⟨0, 0, Nat.zero_le _, rfl, rfl, rfl⟩
    case round =>
      obtain ⟨k, n, hk, rfl, htk', rfl⟩ := hrel
      have htk := Lib.hid htk'
      clear htk'
      by_cases hlt : k < xs.length
      · obtain ⟨b1, o1, x, rfl, _, hcx, hx'⟩ := hx.get hlt
        obtain ⟨b2, o2, y, rfl, _, hcy, hy'⟩ := hy.get (k := k) (by omega)
        have hlt2 : k < ys.length := by omega
        clear hx hy
        by_cases hxy : x = y
        · subst hxy
          go_wp2
          go_quiet (fail)
          go_wp2
          go_roundw
          case rel => exact ⟨k + 1, n + nq, by omega, by go_num, (take_eq_succ hx'.out hy'.out htk.out).2 rfl, by first | rfl | exact World.drewN_drewN _ _ _⟩
          case measure => simp [intOf]; omega
        · have hne : (x != y) = true := by simp [hxy]
          go_wp2
          go_quiet (fail)
          go_wp2
          go_ret
          exact ⟨ret_bool (by simp [ne_of_get hx'.out hy'.out hxy]), n + nq, by first | rfl | exact World.drewN_drewN _ _ _⟩
      · have : k = xs.length := by omega
        subst this
        go_wp2
        go_ret
        exact ⟨ret_bool (by have := htk.out; rw [List.take_length, hlen, List.take_length] at this; simp [this]), _, rfl⟩
  · have hb1 : ((xs.length : Int) != (ys.length : Int)) = true := by simp; omega
    have hnn : xs ≠ ys := fun e => hlen (by rw [e])
    go_enter Try.func90, Try.ntmps90
    go_wp2
    go_ret
    exact ⟨ret_bool (by simp [hnn]), 0, rfl⟩
theorem ring_spec {w : Wi} (hw : Wish w) {m : List Int} (hm : Mat w m) {ring : List Int} (hr : ring ∈ turnsF w m) : 1 ≤ ring.length ∧ ring.length ≤ w.L.length + 1 ∧ ∀ s, s < ring.length → ∃ y : Nat, ring.getD s 0 = y ∧ y < w.L.length := by
  unfold turnsF at hr
  obtain ⟨a, ha, hr⟩ := List.mem_filterMap.1 hr
  have ha' := List.mem_range.1 ha
  obtain ⟨t, ht, rfl, hback, hgt⟩ := ringF_mem hr
  have hnat : ∀ s, s ≤ t → ∃ y : Nat, itZ (nextZ w m) a s = y ∧ y < w.L.length := by
    intro s
    induction s with
    | zero => exact fun _ => ⟨a, rfl, ha'⟩
    | succ s ih =>
      intro hs
      obtain ⟨y, hy, hyn⟩ := ih (by omega)
      have hg := hgt s (by omega)
      have hs' := itZ_next hy
      rcases nextF_spec hw hm hyn with h | ⟨j, b, h1, h2, _⟩
      · rw [hs', h] at hg; omega
      · exact ⟨j, by rw [hs', h1], h2⟩
  refine ⟨by simp, by simp; omega, fun s hs => ?_⟩
  have hst : s < t + 1 := by simpa using hs
  obtain ⟨y, hy, hn⟩ := hnat s (by omega)
  exact ⟨y, by rw [← hy]; simp [List.getD, hst], hn⟩
def takeB (yss : List (List Int)) (q : List Int) (k : Nat) : Bool := (yss.take k).any fun ys => decide (ys = q)
theorem takeB_succ {yss : List (List Int)} {q ys : List Int} {k : Nat} (h : yss[k]? = some ys) : takeB yss q (k + 1) = (takeB yss q k || decide (ys = q)) := by
  unfold takeB; rw [List.take_add_one, h]; simp
theorem takeB_all (yss : List (List Int)) (q : List Int) : takeB yss q yss.length = yss.contains q := by
  unfold takeB
  rw [List.take_length, Bool.eq_iff_iff, List.any_eq_true, List.contains_iff_mem]
  constructor
  · rintro ⟨x, hx, e⟩; have := of_decide_eq_true e; subst this; exact hx
  · intro h; exact ⟨q, h, decide_eq_true rfl⟩
theorem takeB_anyI (yss : List (List Int)) (q : List Int) : anyI (fun j => decide (yss.getD j [] = q)) yss.length = yss.contains q := by
  rw [Bool.eq_iff_iff, anyI_iff, List.contains_iff_mem]
  constructor
  · rintro ⟨k, hk, e⟩
    have := of_decide_eq_true e
    rw [← this]
    simp [List.getD, List.getElem?_eq_getElem hk]
  · intro h
    obtain ⟨k, hk, e⟩ := List.getElem_of_mem h
    exact ⟨k, hk, decide_eq_true (by simp [List.getD, List.getElem?_eq_getElem hk, e])⟩
theorem takeTurn_no1 {w : Wi} {m q : List Int} (h : (wishB w && stableB w m) = false) : takeTurnF w m q = none := by unfold takeTurnF; rw [h]; rfl
theorem takeTurn_no2 {w : Wi} {m q : List Int} (h : (turnsF w m).contains q = false) : takeTurnF w m q = none := by unfold takeTurnF; rw [h, Bool.and_false]; rfl
theorem takeTurn_yes {w : Wi} {m q : List Int} (h : (wishB w && stableB w m) = true) (h2 : (turnsF w m).contains q = true) : takeTurnF w m q = some (takenF m q) := by unfold takeTurnF; rw [h, h2]; rfl
theorem mod_natc (k L : Nat) : ((k : Int) + 1) % (L : Int) = (((k + 1) % L : Nat) : Int) := by
  rw [show ((k : Int) + 1) = ((k + 1 : Nat) : Int) by omega]
  first | exact (Int.natCast_mod _ _).symm | exact (Int.natCast_emod _ _).symm | norm_cast
set_option maxRecDepth 10000 in
set_option maxHeartbeats 8000000 in
theorem takeTurnR_any (w : World) (a0 : Option Addr) (c0 : Nat) (x0 : List (List Int)) (a1 : Option Addr) (c1 : Nat) (x1 : List (List Int)) (a : Option Addr) (c : Nat) (m : List Int) (b : Option Addr) (d : Nat) (q : List Int) (h : RdWishes w w.heap.size a0 x0 a1 x1) (hl0 : x0.length ≤ 1048576) (hin0 : ∀ y ∈ x0, y.length ≤ 1048576) (hl1 : x1.length ≤ 1048576) (hin1 : ∀ y ∈ x1, y.length ≤ 1048576)
    (g : Rd w w.heap.size a (ints m)) (hl : m.length ≤ 1048576) (hc : m.length ≤ c) (g2 : Rd w w.heap.size b (ints q)) (hl2 : q.length ≤ 1048576) (hd : q.length ≤ d) :
    Calls Try.prog 44 #[.agg #[.slice a0 x0.length c0, .slice a1 x1.length c1], .slice a m.length c, .slice b q.length d] w (RetI 2 w (takeTurnF ⟨x0, x1⟩ m q)) := by
  have hB := bl1 w (.cells #[.slice a0 x0.length c0, .slice a1 x1.length c1] 28)
  have k := Blk.new w [.slice a0 x0.length c0, .slice a1 x1.length c1] 28
  have LS := Lib.hid (l05Stable_any _ w.heap.size 0 a0 c0 x0 a1 c1 x1 (k.cell 0) (k.cell 1) (by simp) a c m (h.to hB) hl0 hin0 hl1 hin1 (g.to hB) hl hc)
  cases t1 : wishB ⟨x0, x1⟩ && stableB ⟨x0, x1⟩ m with
  | false =>
    rw [takeTurn_no1 t1]
    rw [t1] at LS
    clear h g g2 hin0 hin1 t1 k
    go_enter Try.func44, Try.ntmps44
    go_wp2_with fail
    refine LS.out.mono ?_
    rintro e w1 ⟨rfl, hb1⟩
    have B1 := below_then hB hb1
    clear hb1
    go_wp2_with fail
    go_ret2
    exact RetI.no B1
  | true =>
    rw [t1] at LS
    have t1' := t1
    rw [Bool.and_eq_true] at t1'
    have hv := wish_of t1'.1
    have hm := stab_of t1'.2
    have HNo : Hid ((turnsF ⟨x0, x1⟩ m).contains q = false → takeTurnF ⟨x0, x1⟩ m q = none) := takeTurn_no2
    have HYes : Hid ((turnsF ⟨x0, x1⟩ m).contains q = true → takeTurnF ⟨x0, x1⟩ m q = some (takenF m q)) := takeTurn_yes t1
    have HSp : Hid ((turnsF ⟨x0, x1⟩ m).contains q = true → 1 ≤ q.length ∧ q.length ≤ x0.length + 1 ∧ ∀ s, s < q.length → ∃ y : Nat, q.getD s 0 = y ∧ y < x0.length) := fun hh => ring_spec hv hm (List.contains_iff_mem.1 hh)
    have KK : Hid (∀ w', Below (w.heap.size + 1) (w.alloc (.cells #[.slice a0 x0.length c0, .slice a1 x1.length c1] 28)) w' → Blk w' w.heap.size [.slice a0 x0.length c0, .slice a1 x1.length c1] 28) := fun w' hb => k.below hb (by omega)
    have LT : Hid (∀ w', Below (w.heap.size + 1) (w.alloc (.cells #[.slice a0 x0.length c0, .slice a1 x1.length c1] 28)) w' → Below w.heap.size w w' → _) := fun w' hb hb' => l05Turns_any w' w.heap.size 0 a0 c0 x0 a1 c1 x1 ((KK.out w' hb).cell 0) ((KK.out w' hb).cell 1) (KK.out w' hb).lt (h.to hb') hv hin0 hin1 a c m (g.to hb') hm
    have hml := hm.len
    have h8 := hv.n8
    have h1 := hv.n1
    simp only at hml h8 h1
    have hTi : Hid (∀ y ∈ turnsF ⟨x0, x1⟩ m, y.length ≤ 9) := fun y hy => by have := TF_in (i := x0.length) hy; simp only at this; omega
    have htl : (turnsF ⟨x0, x1⟩ m).length ≤ 8 := by have h9 := TF_len ⟨x0, x1⟩ m x0.length; have : TF ⟨x0, x1⟩ m x0.length = turnsF ⟨x0, x1⟩ m := rfl; rw [← this]; omega
    have G := Lib.hid g
    have G2 := Lib.hid g2
    obtain ⟨n, hn⟩ : ∃ n, n = m.length := ⟨_, rfl⟩
    have HN := Lib.hid hn
    have hx0n : x0.length = n := by omega
    rw [hx0n] at HSp
    have hn1 : 1 ≤ n := by omega
    have hn8 : n ≤ 8 := by omega
    generalize htt : turnsF ⟨x0, x1⟩ m = tt at *
    generalize hcf : takeTurnF ⟨x0, x1⟩ m q = cf at *
    rw [← hn] at LS LT ⊢
    clear h g g2 hin0 hin1 t1 t1' k hv hm htt hcf hml h8 h1 hx0n hn
    go_enter Try.func44, Try.ntmps44
    go_wp2_with fail
    refine LS.out.mono ?_
    rintro e w1 ⟨rfl, hb1⟩
    have B1 := below_then hB hb1
    have LT1 := Lib.hid (LT.out w1 (by simpa using hb1) B1)
    clear hb1 LT LS
    go_wp2_with fail
    refine LT1.out.mono ?_
    rintro e w2 ⟨at', ct, rfl, o2, hb2⟩
    have B2 := below_then B1 hb2
    have s2 := B2.size
    have RT := Lib.hid o2.rd
    clear hb2 o2 LT1
    go_wp2_with fail
    go_loopw [21, 9] (fun iv tv wr => ∃ (i : Nat) (f : Bool), i ≤ tt.length ∧ iv = .int .i64 i ∧ tv = .bool f ∧ Hid (f = takeB tt q i) ∧ Below w2.heap.size w2 wr) (fun iv _ _ => tt.length - (intOf iv).toNat)
    case atStart => exact ⟨0, false, Nat.zero_le _, rfl, rfl, rfl, Below.refl _ _⟩
    case round =>
      obtain ⟨i, f, hi, rfl, rfl, hf, hw2⟩ := hrel
      by_cases hlt : i < tt.length
      · obtain ⟨b5, o5, ys, a5, c5, rfl, hb5, hc5, _, hr5, hy5⟩ := (RT.out.to hw2).get hlt
        have hsu := takeB_succ (q := q) hy5.out
        rw [← hf.out] at hsu
        have hyl := hTi.out ys (List.mem_of_getElem? hy5.out)
        have LE := Lib.hid (l00Same_any wr a5 b c5 d ys q hr5 (G2.out.to (B2.trans (hw2.mono s2))) (by omega) (by omega))
        have i0 : (0 : Int) ≤ (i : Int) := Int.natCast_nonneg _
        have i1 : (i : Int) < (tt.length : Int) := by omega
        cases f with
        | true =>
          rw [Bool.true_or] at hsu
          have HSu : Hid (true = takeB tt q (i + 1)) := hsu.symm
          clear hsu hf hr5 hy5 LE
          go_wp2_with fail
          go_roundw
          case rel => exact ⟨i + 1, true, by omega, by go_num, rfl, HSu, hw2⟩
          case measure => simp [intOf]; omega
        | false =>
          rw [Bool.false_or] at hsu
          generalize hde : decide (ys = q) = f2 at *
          have HSu : Hid (f2 = takeB tt q (i + 1)) := hsu.symm
          clear hsu hf hr5 hy5 hde
          go_wp2_with fail
          refine LE.out.mono ?_
          rintro e w3 ⟨rfl, t, rfl⟩
          have hw3 := below_drewN hw2 t
          clear hw2 LE hc5
          go_wp2_with fail
          go_roundw
          case rel => exact ⟨i + 1, f2, by omega, by go_num, rfl, HSu, hw3⟩
          case measure => simp [intOf]; omega
      · have : i = tt.length := by omega
        subst this
        have hcn := hf.out
        rw [takeB_all] at hcn
        have hw := B2.trans (hw2.mono s2)
        cases f with
        | false =>
          have HF := Lib.hid (HNo.out hcn.symm)
          clear hcn hf
          go_wp2_with fail
          go_ret2
          rw [HF.out]
          exact RetI.no hw
        | true =>
          have HF := Lib.hid (HYes.out hcn.symm)
          obtain ⟨hq1, hq9, hqv⟩ := HSp.out hcn.symm
          have HQ := Lib.hid hqv
          clear hcn hf hqv
          obtain ⟨b4, o4, rfl, hb4, hc4⟩ := G.out.at (k := 0) (by rw [← HN.out]; exact hn1)
          have HC4 : Hid (∀ w', Below w.heap.size w w' → ∀ j, j < n → w'.cell? ⟨b4, o4 + j, none⟩ = some (.int .i64 (m.getD j 0))) := fun w' hb j hj => (hb.cell (p := ⟨b4, o4 + j, none⟩) hb4).trans (hc4 j (by rw [← HN.out]; exact hj))
          obtain ⟨b6, o6, rfl, hb6, hc6⟩ := G2.out.at (k := 0) (by omega)
          have HC6 : Hid (∀ w', Below w.heap.size w w' → ∀ j, j < q.length → w'.cell? ⟨b6, o6 + j, none⟩ = some (.int .i64 (q.getD j 0))) := fun w' hb j hj => (hb.cell (p := ⟨b6, o6 + j, none⟩) hb6).trans (hc6 j hj)
          clear hc4 hc6
          have hsw := hw.size
          go_wp2_with (at_builtin; refine append_manyC _ rfl _ _ 25 rfl wr.heap.size 2 (.int .i64 0) 8 Try.underlying25 info_i64p rfl _ 0 [] rfl (own_emptyC wr 2) b4 o4 n c m rfl HN.out.symm ?_ (by omega) (by omega) (by simp) ?_)
          · intro j hj
            exact HC4.out _ (hw.trans ((bl1 wr _).mono hsw)) j hj
          intro v3 w3 o3 g3
          have B3 := hw.trans ((below_append (bl1 wr (.cells #[] 2)) (own_emptyC wr 2) g3 (Nat.le_refl _) (by simp)).mono hsw)
          obtain ⟨a3, c3, rfl, _, _⟩ := own_shape o3
          try rw [Nat.zero_add, List.nil_append] at o3
          obtain ⟨gO, tl, rfl, hgO, kO, hcO, hcmO, hclO⟩ := own_open o3 hn1
          have KO : Hid (Blk w3 gO (ints (takenN m q 0) ++ tl) 2) := kO
          have hclO2 := Lib.hid hclO
          have hgw : w.heap.size ≤ gO := by omega
          clear o3 g3 kO hclO hw hw2
          go_wp2_with fail
          go_loopw [41] (fun kv wr => ∃ k : Nat, k ≤ q.length ∧ kv = .int .i64 k ∧ Hid (Blk wr gO (ints (takenN m q k) ++ tl) 2) ∧ Below w.heap.size w wr) (fun kv _ => q.length - (intOf kv).toNat)
          case atStart => exact ⟨0, Nat.zero_le _, rfl, KO.out, B3⟩
          case round =>
            clear KO B3
            obtain ⟨k, hk, rfl, hK, hw⟩ := hrel
            by_cases hlt : k < q.length
            · have hr : (k + 1) % q.length < q.length := Nat.mod_lt _ (by omega)
              have hmod := mod_natc k q.length
              obtain ⟨y, hy, hyn⟩ := HQ.out k hlt
              obtain ⟨z, hz, hzn⟩ := HQ.out _ hr
              have e1 := HC6.out _ hw k hlt
              have e2 := HC6.out _ hw _ hr
              have e3 := HC4.out _ hw z hzn
              have hlen := takenN_len m q k
              rw [← HN.out] at hlen
              have cy := cell_app hK.out (j := y) (by omega)
              have fy := hK.out.free y
              have HK2 : Hid (Blk (wr.setCell ⟨gO, y, none⟩ (.int .i64 (m.getD z 0))) gO (ints (takenN m q (k + 1)) ++ tl) 2) := by
                have h9 := set_app hK.out (j := y) (by omega) (m.getD z 0)
                have h8 : takenN m q (k + 1) = (takenN m q k).set y (m.getD z 0) := by
                  rw [takenN, hy, Int.toNat_natCast]
                  congr 1
                  unfold turnAt
                  rw [hz, Int.toNat_natCast]
                rw [h8]; exact h9
              have HB2 := below_sto hw (g := gO) hgw y (.int .i64 (m.getD z 0))
              rw [hy] at e1
              rw [hz] at e2
              generalize m.getD z 0 = val at *
              generalize (takenN m q k).getD y 0 = old at *
              generalize (k + 1) % q.length = r at *
              have k0 : (0 : Int) ≤ (k : Int) := Int.natCast_nonneg _
              have k1 : (k : Int) < (q.length : Int) := by omega
              have r0 : (0 : Int) ≤ (r : Int) := Int.natCast_nonneg _
              have r1 : (r : Int) < (q.length : Int) := by omega
              have y0 : (0 : Int) ≤ (y : Int) := Int.natCast_nonneg _
              have y1 : (y : Int) < (n : Int) := by omega
              have z0 : (0 : Int) ≤ (z : Int) := Int.natCast_nonneg _
              have z1 : (z : Int) < (n : Int) := by omega
              have hL0 : ¬ ((q.length : Int) = 0) := by omega
              clear hK hlen hy hz
              go_wp2_with fail
              go_region
              all_goals
                go_wp2_with fail
                go_roundw
                case rel => exact ⟨k + 1, by omega, by go_num, HK2, below_drew' HB2⟩
                case measure => simp [intOf]; omega
            · have : k = q.length := by omega
              subst this
              have hlen := takenN_len m q q.length
              rw [← HN.out] at hlen
              have hOwn : Hid (wr.ownsRow w.heap.size 2 1 (.slice (some ⟨gO, 0, none⟩) n c3) n (ints (takenN m q q.length))) := own_close hK.out hgw (by simp; exact hlen) hcO hcmO (by have := hclO2.out; simp only [List.length_append, ints_length] at this ⊢; rw [hlen]; rw [← HN.out] at this; exact this)
              have hTl : (takenF m q).length = n := hlen
              clear hK hlen
              go_wp2_with fail
              go_ret2
              rw [HF.out]
              exact ⟨hw, some ⟨gO, 0, none⟩, c3, by rw [hTl]; rfl, by rw [hTl]; exact hOwn.out⟩
end Go.Proofs.Ytdipckpcmnhpjaa
