/-
  A turn is taken: the program's road.
-/
import Derived.Test.YtdipckpcmnhpjaaMatTT
namespace Go.Proofs.Ytdipckpcmnhpjaa
set_option linter.unusedVariables false
set_option linter.unusedSimpArgs false
open Go.RowKit

theorem sameTurn_any (w : World) (g : Nat) (a b : Option Addr) (c d : Nat) (ys q : List Int) (hg : w.cell? ⟨g, 0, none⟩ = some (.slice b q.length d)) (hx : Rd w w.heap.size a (ints ys)) (hy : Rd w w.heap.size b (ints q)) (hlx : ys.length ≤ 1099511627776) (hly : q.length ≤ 1099511627776) :
    Calls Try.prog 89 #[.slice a ys.length c, .pointer (some ⟨g, 0, none⟩)] w fun e w' => e = .returned (.bool (decide (ys = q))) ∧ Below w.heap.size w w' := by
  have L := Lib.hid (slEqual_any w a b c d ys q hx hy hlx hly)
  generalize decide (ys = q) = r at *
  clear hx hy
  go_enter Try.func89, Try.ntmps89
  go_wp2_with fail
  refine L.out.mono ?_
  rintro e w1 ⟨rfl, t, rfl⟩
  go_wp2_with fail
  go_ret
  exact ⟨rfl, below_drewN (Below.refl _ _) t⟩
set_option maxRecDepth 10000 in
set_option maxHeartbeats 8000000 in
theorem takeTurn_any (w : World) (a0 : Option Addr) (c0 : Nat) (x0 : List (List Int)) (a1 : Option Addr) (c1 : Nat) (x1 : List (List Int)) (a : Option Addr) (c : Nat) (m : List Int) (b : Option Addr) (d : Nat) (q : List Int) (h : RdWishes w w.heap.size a0 x0 a1 x1) (hl0 : x0.length ≤ 1048576) (hin0 : ∀ y ∈ x0, y.length ≤ 1048576) (hl1 : x1.length ≤ 1048576) (hin1 : ∀ y ∈ x1, y.length ≤ 1048576)
    (g : Rd w w.heap.size a (ints m)) (hl : m.length ≤ 1048576) (g2 : Rd w w.heap.size b (ints q)) (hl2 : q.length ≤ 1048576) :
    Calls Try.prog 45 #[.agg #[.slice a0 x0.length c0, .slice a1 x1.length c1], .slice a m.length c, .slice b q.length d] w (RetI 2 w (takeTurnF ⟨x0, x1⟩ m q)) := by
  have X0 : Bx w ((w.alloc (.cells #[.slice a0 x0.length c0, .slice a1 x1.length c1] 28)).alloc (.cells #[.slice b q.length d] 25)) [.slice a0 x0.length c0, .slice a1 x1.length c1] 28 := (Bx.start w _ _).next (bl1 _ _)
  have hb0 : Hid (((w.alloc (.cells #[.slice a0 x0.length c0, .slice a1 x1.length c1] 28)).alloc (.cells #[.slice b q.length d] 25)).cell? ⟨w.heap.size + 1, 0, none⟩ = some (.slice b q.length d)) := by
    have := (Blk.new (w.alloc (.cells #[.slice a0 x0.length c0, .slice a1 x1.length c1] 28)) [.slice b q.length d] 25).cell 0
    have e9 : (w.alloc (.cells #[.slice a0 x0.length c0, .slice a1 x1.length c1] 28)).heap.size = w.heap.size + 1 := by simp
    rw [e9] at this
    exact this
  have hsz0 : ((w.alloc (.cells #[.slice a0 x0.length c0, .slice a1 x1.length c1] 28)).alloc (.cells #[.slice b q.length d] 25)).heap.size = w.heap.size + 2 := by simp
  have HS0 := Lib.hid hsz0
  have LS := Lib.hid (turnsOf_any _ a0 c0 x0 a1 c1 x1 a c m (h.to X0.1) hl0 hin0 hl1 hin1 (g.to X0.1) hl)
  cases t1 : wishB ⟨x0, x1⟩ && stableB ⟨x0, x1⟩ m with
  | false =>
    rw [takeTurn_no1 t1]
    rw [turnsOf_no t1] at LS
    clear h g g2 hin0 hin1 t1 hsz0
    go_enter Try.func45, Try.ntmps45
    go_wp2_with fail
    refine LS.out.mono ?_
    rintro e w1 ⟨hb1, rfl⟩
    have X1 := X0.next hb1
    clear hb1
    go_wp2_with fail
    go_ret2
    exact RetI.no X1.1
  | true =>
    rw [turnsOf_yes t1] at LS
    have t1' := t1
    rw [Bool.and_eq_true] at t1'
    have hv := wish_of t1'.1
    have hm := stab_of t1'.2
    have HNo : Hid ((turnsF ⟨x0, x1⟩ m).contains q = false → takeTurnF ⟨x0, x1⟩ m q = none) := takeTurn_no2
    have HYes : Hid ((turnsF ⟨x0, x1⟩ m).contains q = true → takeTurnF ⟨x0, x1⟩ m q = some (takenF m q)) := takeTurn_yes t1
    have HSp : Hid ((turnsF ⟨x0, x1⟩ m).contains q = true → 1 ≤ q.length ∧ q.length ≤ x0.length + 1 ∧ ∀ s, s < q.length → ∃ y : Nat, q.getD s 0 = y ∧ y < x0.length) := fun hh => ring_spec hv hm (List.contains_iff_mem.1 hh)
    have HMt : Hid ((turnsF ⟨x0, x1⟩ m).contains q = true → matchB ⟨x0, x1⟩ (takenF m q) = true) := fun hh => takenF_mat hv hm (List.contains_iff_mem.1 hh)
    have hml := hm.len
    have h8 := hv.n8
    have h1 := hv.n1
    simp only at hml h8 h1
    have hTi : Hid (∀ y ∈ turnsF ⟨x0, x1⟩ m, y.length ≤ 9) := fun y hy => by have := TF_in (i := x0.length) hy; simp only at this; omega
    have htl : (turnsF ⟨x0, x1⟩ m).length ≤ 8 := by have h9 := TF_len ⟨x0, x1⟩ m x0.length; have : TF ⟨x0, x1⟩ m x0.length = turnsF ⟨x0, x1⟩ m := rfl; rw [← this]; omega
    have LM := Lib.hid (fun w' hb a' c' m' g' hl' => isMatchW_any w' a0 c0 x0 a1 c1 x1 (h.to hb) hv hin0 hin1 a' c' m' g' hl')
    have LCl := Lib.hid (fun w' hb => clone_any w' a c m (g.to hb) (by omega) hl)
    have G := Lib.hid g
    have G2 := Lib.hid g2
    have HAny := Lib.hid (takeB_anyI (turnsF ⟨x0, x1⟩ m) q)
    obtain ⟨n, hn⟩ : ∃ n, n = m.length := ⟨_, rfl⟩
    have HN := Lib.hid hn
    have hx0n : x0.length = n := by omega
    have HX0n := Lib.hid hx0n
    rw [hx0n] at HSp
    have hn1 : 1 ≤ n := by omega
    have hn8 : n ≤ 8 := by omega
    generalize htt : turnsF ⟨x0, x1⟩ m = tt at *
    generalize hcf : takeTurnF ⟨x0, x1⟩ m q = cf at *
    rw [← hn] at LS LCl ⊢
    clear h g g2 hin0 hin1 t1 t1' hv hm htt hcf hml h8 h1 hx0n hn hsz0
    go_enter Try.func45, Try.ntmps45
    go_wp2_with fail
    refine LS.out.mono ?_
    rintro e w1 ⟨hb1, at', ct, rfl, o1⟩
    have X1 := X0.next hb1
    have Q1 : Hid (w1.cell? ⟨w.heap.size + 1, 0, none⟩ = some (.slice b q.length d)) := (hb1.cell (p := ⟨w.heap.size + 1, 0, none⟩) (by have := HS0.out; simp only; omega)).trans hb0.out
    have s1 : w.heap.size + 2 ≤ w1.heap.size := by have := hb1.size; have := HS0.out; omega
    obtain ⟨vs, hvl, hvr, hvk⟩ := o1.rd
    have hen : ∀ (args : Array Value) (w : World), (callFunc 89 args).run Try.prog w = .ok (.enter 89 args) w := fun _ _ => by kernel_rfl
    have LCf := Lib.hid (containsFunc_L 89 #[.pointer (some ⟨w.heap.size + 1, 0, none⟩)] hen w1 at' ct vs (fun j => decide (tt.getD j [] = q)) hvr (by omega) (fun w' j v hb hj => by
      have hjl : j < tt.length := by have := (List.getElem?_eq_some_iff.1 hj).1; omega
      obtain ⟨a', c', e1, e2, e3⟩ := hvk j tt[j] (List.getElem?_eq_getElem hjl)
      rw [hj] at e1
      injection e1 with e1
      subst e1
      have eg : tt.getD j [] = tt[j] := by simp [List.getD, List.getElem?_eq_getElem hjl]
      rw [eg]
      have h9 := hTi.out tt[j] (List.getElem_mem hjl)
      exact sameTurn_any w' (w.heap.size + 1) a' b c' d tt[j] q ((hb.cell (p := ⟨w.heap.size + 1, 0, none⟩) (by simp only; omega)).trans Q1.out) (e3.to hb) (G2.out.to (X1.1.trans (hb.mono X1.1.size))) (by omega) (by omega)))
    rw [hvl, HAny.out] at LCf
    clear hvr hvk hvl hen hb1 o1 LS HAny
    cases hcn : tt.contains q with
    | false =>
      have HF := Lib.hid (HNo.out hcn)
      rw [hcn] at LCf
      clear hcn
      go_wp2_with fail
      refine LCf.out.mono ?_
      rintro e w2 ⟨rfl, hb2⟩
      have X2 := X1.next hb2
      clear hb2
      go_wp2_with fail
      go_ret2
      rw [HF.out]
      exact RetI.no X2.1
    | true =>
      have HF := Lib.hid (HYes.out hcn)
      have HM := Lib.hid (HMt.out hcn)
      obtain ⟨hq1, hq9, hqv⟩ := HSp.out hcn
      have HQ := Lib.hid hqv
      rw [hcn] at LCf
      clear hcn hqv HNo HYes HMt HSp
      obtain ⟨b4, o4, rfl, hb4, hc4⟩ := G.out.at (k := 0) (by rw [← HN.out]; exact hn1)
      have HC4 : Hid (∀ w', Below w.heap.size w w' → ∀ j, j < n → w'.cell? ⟨b4, o4 + j, none⟩ = some (.int .i64 (m.getD j 0))) := fun w' hb j hj => (hb.cell (p := ⟨b4, o4 + j, none⟩) hb4).trans (hc4 j (by rw [← HN.out]; exact hj))
      obtain ⟨b6, o6, rfl, hb6, hc6⟩ := G2.out.at (k := 0) (by omega)
      have HC6 : Hid (∀ w', Below w.heap.size w w' → ∀ j, j < q.length → w'.cell? ⟨b6, o6 + j, none⟩ = some (.int .i64 (q.getD j 0))) := fun w' hb j hj => (hb.cell (p := ⟨b6, o6 + j, none⟩) hb6).trans (hc6 j hj)
      clear hc4 hc6
      go_wp2_with fail
      refine LCf.out.mono ?_
      rintro e w2 ⟨rfl, hb2⟩
      have X2 := X1.next hb2
      have Q2 : Hid (w2.cell? ⟨w.heap.size + 1, 0, none⟩ = some (.slice (some ⟨b6, o6, none⟩) q.length d)) := (hb2.cell (p := ⟨w.heap.size + 1, 0, none⟩) (by simp only; omega)).trans Q1.out
      have s2 : w.heap.size + 2 ≤ w2.heap.size := by have := hb2.size; omega
      clear hb2 LCf X1 Q1
      go_wp2_with fail
      refine (LCl.out _ X2.1).mono ?_
      rintro e w3 ⟨a3, c3, rfl, o3, hb3⟩
      have X3 := X2.next hb3
      have Q3 : Hid (w3.cell? ⟨w.heap.size + 1, 0, none⟩ = some (.slice (some ⟨b6, o6, none⟩) q.length d)) := (hb3.cell (p := ⟨w.heap.size + 1, 0, none⟩) (by simp only; omega)).trans Q2.out
      obtain ⟨gO, tl, rfl, hgO, kO, hcO, hcmO, hclO⟩ := own_open o3.1 (by rw [← HN.out]; exact hn1)
      have KO : Hid (Blk w3 gO (ints (takenN m q 0) ++ tl) 2) := kO
      have hclO2 := Lib.hid hclO
      rw [← HN.out] at hcO
      have hgw : w.heap.size ≤ gO := by omega
      have hgX : w.heap.size + 1 ≤ gO := by omega
      have hgY : w.heap.size + 2 ≤ gO := by omega
      have B3 := X3.1
      have HX4 : Bx w w3 [.slice a0 x0.length c0, .slice a1 x1.length c1] 28 ∧ Hid (w3.cell? ⟨w.heap.size + 1, 0, none⟩ = some (.slice (some ⟨b6, o6, none⟩) q.length d)) := ⟨X3, Q3⟩
      have qb3 := Q3.out
      clear hb3 o3 kO hclO X2 Q2 X3 Q3 LCl
      go_wp2_with fail
      go_loopw [31] (fun kv wr => ∃ k : Nat, k ≤ q.length ∧ kv = .int .i64 k ∧ Hid (Blk wr gO (ints (takenN m q k) ++ tl) 2) ∧ Below w.heap.size w wr ∧ (Bx w wr [.slice a0 x0.length c0, .slice a1 x1.length c1] 28 ∧ Hid (wr.cell? ⟨w.heap.size + 1, 0, none⟩ = some (.slice (some ⟨b6, o6, none⟩) q.length d)))) (fun kv _ => q.length - (intOf kv).toNat)
      case atStart => exact ⟨0, Nat.zero_le _, rfl, KO.out, B3, HX4⟩
      case round =>
        clear KO B3
        obtain ⟨k, hk, rfl, hK, hw, hX⟩ := hrel
        by_cases hlt : k < q.length
        · have hr : (k + 1) % q.length < q.length := Nat.mod_lt _ (by omega)
          have hmod := mod_natc k q.length
          obtain ⟨y, hy, hyn⟩ := HQ.out k hlt
          obtain ⟨z, hz, hzn⟩ := HQ.out _ hr
          have e1 := HC6.out _ hw k hlt
          have e2 := HC6.out _ hw _ hr
          have e3 := HC4.out _ hw z hzn
          have hlen := takenN_len m q k
          rw [← HN.out] at hlen
          have cy := cell_app hK.out (j := y) (by omega)
          have fy := hK.out.free y
          have HK2 : Hid (Blk (wr.setCell ⟨gO, y, none⟩ (.int .i64 (m.getD z 0))) gO (ints (takenN m q (k + 1)) ++ tl) 2) := by
            have h9 := set_app hK.out (j := y) (by omega) (m.getD z 0)
            have h8 : takenN m q (k + 1) = (takenN m q k).set y (m.getD z 0) := by
              rw [takenN, hy, Int.toNat_natCast]
              congr 1
              unfold turnAt
              rw [hz, Int.toNat_natCast]
            rw [h8]; exact h9
          have HB2 := below_sto hw (g := gO) hgw y (.int .i64 (m.getD z 0))
          rw [hy] at e1
          rw [hz] at e2
          generalize m.getD z 0 = val at *
          generalize (takenN m q k).getD y 0 = old at *
          generalize (k + 1) % q.length = r at *
          have k0 : (0 : Int) ≤ (k : Int) := Int.natCast_nonneg _
          have k1 : (k : Int) < (q.length : Int) := by omega
          have r0 : (0 : Int) ≤ (r : Int) := Int.natCast_nonneg _
          have r1 : (r : Int) < (q.length : Int) := by omega
          have y0 : (0 : Int) ≤ (y : Int) := Int.natCast_nonneg _
          have y1 : (y : Int) < (n : Int) := by omega
          have z0 : (0 : Int) ≤ (z : Int) := Int.natCast_nonneg _
          have z1 : (z : Int) < (n : Int) := by omega
          have hL0 : ¬ ((q.length : Int) = 0) := by omega
          obtain ⟨XA, XB⟩ := hX
          obtain ⟨qq0, qq1⟩ := XA.two
          have qb := XB.out
          have HBX : Hid ((wr.setCell ⟨gO, y, none⟩ (.int .i64 val)).cell? ⟨w.heap.size + 1, 0, none⟩ = some (.slice (some ⟨b6, o6, none⟩) q.length d)) := ((below_sto (Below.refl gO wr) (g := gO) (Nat.le_refl _) y (.int .i64 val)).cell (p := ⟨w.heap.size + 1, 0, none⟩) (by simp only; omega)).trans qb
          clear hK hlen hy hz
          go_wp2_with fail
          go_region
          all_goals
            go_wp2_with fail
            go_roundw
            case rel => exact ⟨k + 1, by omega, by go_num, HK2, below_drew' HB2, ⟨(XA.far (below_sto (Below.refl _ wr) (g := gO) (Nat.le_refl _) y (.int .i64 val)) hgX).drew, HBX.out⟩⟩
            case measure => simp [intOf]; omega
        · have : k = q.length := by omega
          subst this
          have hlen := takenN_len m q q.length
          rw [← HN.out] at hlen
          have hOwn : Hid (wr.ownsRow w.heap.size 2 1 (.slice (some ⟨gO, 0, none⟩) n c3) n (ints (takenN m q q.length))) := own_close hK.out hgw (by simp; exact hlen) hcO hcmO (by have := hclO2.out; simp only [List.length_append, ints_length] at this ⊢; rw [hlen]; rw [← HN.out] at this; exact this)
          have hTl : (takenF m q).length = n := hlen
          obtain ⟨XA, XB⟩ := hX
          obtain ⟨qq0, qq1⟩ := XA.two
          have LM1 := Lib.hid (LM.out wr hw (some ⟨gO, 0, none⟩) c3 (takenF m q) (by
            have := rd_of_own hOwn.out (Nat.le_refl _)
            exact this) (by rw [hTl]; omega))
          rw [hTl, HM.out] at LM1
          clear hK hlen
          go_wp2_with fail
          refine LM1.out.mono ?_
          rintro e w6 ⟨rfl, hb6'⟩
          have hw6 := below_then hw hb6'
          have HO6 := Lib.hid (own_below hOwn.out hb6')
          clear hb6' qq0 qq1 LM1
          go_wp2_with fail
          go_ret2
          rw [HF.out]
          exact ⟨hw6, some ⟨gO, 0, none⟩, c3, by rw [hTl]; rfl, by rw [hTl]; exact HO6.out⟩

end Go.Proofs.Ytdipckpcmnhpjaa
