/-
  AllStable: the reference's road: all lists, one after another.
-/
import Derived.Test.YtdipckpcmnhpjaaAllI2
import Derived.Deep.LoopGhost
namespace Go.Proofs.Ytdipckpcmnhpjaa
set_option linter.unusedVariables false
set_option linter.unusedSimpArgs false
open Go.RowKit

/-- The t-th list of n numbers from -1 on. -/
def mtAt (n t : Nat) : List Int := (chAt (n + 1) n t).map (· - 1)
theorem mtAt_len (n t : Nat) : (mtAt n t).length = n := by simp [mtAt, chAt_len]
def someF (w : Wi) (n t : Nat) : List (List Int) := ((List.range t).map (mtAt n)).filter (stableB w)
theorem someF_succ (w : Wi) (n t : Nat) : someF w n (t + 1) = someF w n t ++ if stableB w (mtAt n t) then [mtAt n t] else [] := by
  unfold someF
  rw [List.range_succ, List.map_append, List.filter_append]
  cases h : stableB w (mtAt n t) <;> simp [h]
theorem someF_all (w : Wi) : someF w w.L.length ((w.L.length + 1) ^ w.L.length) = allStabF w := by
  unfold someF allStabF allM
  rw [allD_eq (by omega), List.map_map]
  rfl
theorem someF_mono (w : Wi) (n : Nat) {t u : Nat} (h : t ≤ u) : (someF w n t).length ≤ (someF w n u).length := by
  induction u with
  | zero => have : t = 0 := by omega
            subst this; exact Nat.le_refl _
  | succ u ih =>
    by_cases e : t = u + 1
    · subst e; exact Nat.le_refl _
    · have := ih (by omega)
      rw [someF_succ, List.length_append]; omega
theorem decL_getD {xs : List Int} {k : Nat} (h : k < xs.length) : (xs.map (· - 1)).getD k 0 = xs.getD k 0 - 1 := by
  simp [List.getD, h]
theorem decL_set (xs : List Int) (k : Nat) (x : Int) : (xs.map (· - 1)).set k (x - 1) = (xs.set k x).map (· - 1) := by rw [List.map_set]
theorem set_appA {w : World} {g T : Nat} {xs : List Int} {tl : List Value} (h : Blk w g (ints xs ++ tl) T) {j : Nat} (hj : j < xs.length) (y : Int) : Blk (w.setCell ⟨g, j, none⟩ (.int .i64 y)) g (ints (xs.set j y) ++ tl) T := set_app h hj y
theorem reps_snoc (k : Nat) : ints (List.replicate k (-1)) ++ [Value.int .i64 (-1)] = ints (List.replicate (k + 1) (-1)) := by
  rw [← ints_append', List.replicate_succ']
where ints_append' : ints (List.replicate k (-1) ++ [-1]) = ints (List.replicate k (-1)) ++ [Value.int .i64 (-1)] := by rw [ints_append]; rfl
/-- What a round of all lists hands on. -/
def Handed9 (T T2 : Nat) (TT k : Nat) (sf : Nat → List (List Int)) (w ws : World) (g : Nat) (tl : List Value) (a : Option Addr) (c : Nat) (vs : List Value) (t : Nat) (m : Bool) (ch : List Int) (wr : World) : Prop :=
  m = decide (t + 1 < TT) ∧ ((t + 1 < TT → ch.map (· - 1) = mtAt k (t + 1)) ∧ (ch.map (· - 1)).length = k) ∧ Blk wr g (ints (ch.map (· - 1)) ++ tl) T ∧ OwnTop T T2 wr w.heap.size ws.heap.size wr.heap.size (.slice a (sf (t + 1)).length c) vs (sf (t + 1)) ∧ Below w.heap.size w wr ∧ ws.heap.size ≤ wr.heap.size
set_option maxRecDepth 10000 in
set_option maxHeartbeats 8000000 in
theorem l05All_any (w : World) (b o : Nat) (a0 : Option Addr) (c0 : Nat) (x0 : List (List Int)) (a1 : Option Addr) (c1 : Nat) (x1 : List (List Int)) (d0 : w.cell? ⟨b, o, none⟩ = some (.slice a0 x0.length c0)) (d1 : w.cell? ⟨b, o + 1, none⟩ = some (.slice a1 x1.length c1)) (hbl : b < w.heap.size)
    (h : RdWishes w w.heap.size a0 x0 a1 x1) (hl0 : x0.length ≤ 1048576) (hin0 : ∀ y ∈ x0, y.length ≤ 1048576) (hl1 : x1.length ≤ 1048576) (hin1 : ∀ y ∈ x1, y.length ≤ 1048576) (hw : wishB ⟨x0, x1⟩ = true) (h5 : x0.length ≤ 5) :
    Calls Try.prog 78 #[.pointer (some ⟨b, o, none⟩)] w fun e w' => ∃ a c, e = .returned (.slice a (allStabF ⟨x0, x1⟩).length c) ∧ OwnLL 2 25 w' w.heap.size w'.heap.size a c (allStabF ⟨x0, x1⟩) ∧ Below w.heap.size w w' := by
  have hv := wish_of hw
  have h1 := hv.n1
  simp only at h1
  obtain ⟨n, hn⟩ : ∃ n, n = x0.length := ⟨_, rfl⟩
  have LS : Hid (∀ (w' : World) (a : Option Addr) (c : Nat) (m : List Int), Below w.heap.size w w' → Rd w' w'.heap.size a (ints m) → m.length ≤ 1048576 → m.length ≤ c → Calls Try.prog 62 #[.pointer (some ⟨b, o, none⟩), .slice a m.length c] w' fun e w'' => e = .returned (.bool (stableB ⟨x0, x1⟩ m)) ∧ Below w'.heap.size w' w'') := fun w' a c m hb g hl hc => by
    have := l05Stable_any w' b o a0 c0 x0 a1 c1 x1 ((hb.cell (p := ⟨b, o, none⟩) hbl).trans d0) ((hb.cell (p := ⟨b, o + 1, none⟩) hbl).trans d1) (Nat.lt_of_lt_of_le hbl hb.size) a c m (h.to hb) hl0 hin0 hl1 hin1 g hl hc
    rwa [hw, Bool.true_and] at this
  have HT : Hid ((n + 1) ^ n ≤ 7776) := pow_few (by omega)
  have HALL : Hid (someF ⟨x0, x1⟩ n ((n + 1) ^ n) = allStabF ⟨x0, x1⟩) := by rw [Hid, hn]; exact someF_all ⟨x0, x1⟩
  have HFM : Hid (∀ t, t ≤ (n + 1) ^ n → (someF ⟨x0, x1⟩ n t).length ≤ 7776) := fun t ht => by
    have := someF_mono ⟨x0, x1⟩ n ht
    have e := HALL.out
    have := allStab_few (w := ⟨x0, x1⟩) h5
    rw [← e] at this
    omega
  have HSP := Lib.hid (fun t ht => chAt_spec (n := n + 1) (by omega) n t ht)
  have HFS := Lib.hid (someF_succ ⟨x0, x1⟩ n)
  have HF0 : Hid (someF ⟨x0, x1⟩ n 0 = []) := rfl
  have HPos : Hid (0 < (n + 1) ^ n) := Nat.pow_pos (by omega)
  have Hn := Lib.hid hn
  have n1 : 1 ≤ n := by omega
  have n5 : n ≤ 5 := by omega
  rw [← hn] at d0
  generalize hST : stableB ⟨x0, x1⟩ = st at *
  generalize hSF : someF ⟨x0, x1⟩ n = sf at *
  rw [← HALL.out]
  generalize hTT : (n + 1) ^ n = TT at *
  clear h hin0 hin1 hw hv h1 hn hST hSF h5 hTT HALL
  go_enter Try.func78, Try.ntmps78
  go_wp2_with fail
  go_loopw [5, 20] (fun v kv wr => ∃ k : Nat, k ≤ n ∧ kv = .int .i64 k ∧ Hid (wr.ownsRow (w.heap.size + 1) 2 1 v k (ints (List.replicate k (-1)))) ∧ Hid (Blk wr w.heap.size [] 25) ∧ Below w.heap.size w wr ∧ w.heap.size + 1 ≤ wr.heap.size) (fun _ kv _ => n - (intOf kv).toNat)
  case atStart =>
    refine ⟨0, Nat.zero_le _, rfl, ?_, (Blk.new w [] 25).alloc _, bl2 _ _ _, by simp⟩
    have := own_empty (w.alloc (.cells #[] 25)) 2
    simpa [Hid] using this
  case round =>
    obtain ⟨k, hk, rfl, hO, hB, hw, hsz⟩ := hrel
    by_cases hlt : k < n
    · have hO' := hO.out
      clear hO
      go_wp2_with (at_builtin; refine wpList_append_one _ rfl _ _ 25 rfl (w.heap.size + 1) 2 (.int .i64 0) 8 Try.underlying25 info_i64p rfl _ k _ rfl hO' (.int .i64 (-1)) rfl rfl (by omega) (by omega) hsz ?_)
      intro v' w' ho hgr
      have HB2 := Lib.hid (hB.out.grown hgr (fun e => by have := (hO'.lt _ e.symm).1; omega))
      have HO2 : Hid (w'.ownsRow (w.heap.size + 1) 2 1 v' (k + 1) (ints (List.replicate (k + 1) (-1)))) := by
        rw [reps_snoc] at ho; exact ho
      have hw2 : Below w.heap.size w w' := below_append hw hO' hgr (by omega) (by omega)
      have hs2 : w.heap.size + 1 ≤ w'.heap.size := by have := hgr.size; omega
      clear ho hgr hO' hB hw
      go_wp2_with fail
      go_roundw
      case rel => exact ⟨k + 1, by omega, by go_num, HO2, HB2, hw2, hs2⟩
      case measure => simp [intOf]; omega
    · have : k = n := by omega
      subst this
      obtain ⟨a5, c5, e5, _, _⟩ := own_shape hO.out
      subst e5
      obtain ⟨g, tl, e6, hg0, hBg, hkc, _, _⟩ := own_open hO.out (by omega)
      subst e6
      obtain ⟨ws, hws⟩ : ∃ W : World, W = wr := ⟨_, rfl⟩
      subst hws
      have hgl := hBg.lt
      have HBg : Hid (Blk ws g (ints (mtAt k 0) ++ tl) 2) := by
        have : mtAt k 0 = List.replicate k (-1) := by simp [mtAt, chAt]
        rw [this]; exact hBg
      have HT0 : Hid (OwnTop 2 25 ws w.heap.size ws.heap.size ws.heap.size (.slice (some ⟨w.heap.size, 0, none⟩) (sf 0).length 0) [] (sf 0)) := by
        rw [HF0.out]
        exact OwnTop.start (hB.out.owns (Nat.le_refl _) (Nat.zero_le _)) (fun q hq => by simp [Value.ownBlock] at hq; exact hq.symm)
      have HF0' := Lib.hid (congrArg List.length HF0.out)
      rw [List.length_nil] at HF0'
      clear hO hB hBg
      go_wp2_with fail
      go_loopg [4, 6] (TT) (fun gk u4 u6 wr => ∃ (t : Nat) (m : Bool) (ml : List Int) (a : Option Addr) (c : Nat) (vs : List Value), t ≤ TT ∧ gk = TT - t ∧ u6 = .bool m ∧ u4 = .slice a (sf t).length c ∧ Hid (m = decide (t < TT)) ∧ Hid ((t < TT → ml = mtAt k t) ∧ ml.length = k) ∧ Hid (Blk wr g (ints ml ++ tl) 2) ∧ Hid (OwnTop 2 25 wr w.heap.size ws.heap.size wr.heap.size (.slice a (sf t).length c) vs (sf t)) ∧ Below w.heap.size w wr ∧ ws.heap.size ≤ wr.heap.size)
      case atStart => exact ⟨0, true, mtAt k 0, some ⟨w.heap.size, 0, none⟩, 0, [], Nat.zero_le _, rfl, rfl, by rw [HF0'.out], (decide_eq_true HPos.out).symm, ⟨fun _ => rfl, mtAt_len k 0⟩, HBg.out, HT0.out, hw, Nat.le_refl _⟩
      case round =>
        clear HBg HT0 hw
        obtain ⟨t, m, ml, a, c, vs, ht, rfl, rfl, rfl, hm, hml, hB, hO, hw, hsz⟩ := hrel
        cases m with
        | false =>
          have hlt : ¬ t < TT := by have := hm.out; simpa using this.symm
          have : t = TT := by omega
          subst this
          have HR : Hid (OwnLL 2 25 wr w.heap.size wr.heap.size a c (sf t)) := ⟨vs, hO.out.rows (by omega) (by omega)⟩
          clear hO hB hml
          go_wp2_with fail
          go_ret
          exact ⟨a, c, rfl, HR.out, hw⟩
        | true =>
          have hlt : t < TT := by have := hm.out; simpa using this.symm
          have e7 := hml.out.1 hlt
          subst e7
          have hl7 := mtAt_len k t
          have LS1 := Lib.hid (LS.out wr (some ⟨g, 0, none⟩) c5 (mtAt k t) hw (rd_app hB.out hB.out.lt) (by omega) (by omega))
          rw [hl7] at LS1
          have HSF := Lib.hid (HFS.out t)
          have HLT := Lib.hid (HFM.out t (by omega))
          cases hst : st (mtAt k t) with
          | false =>
            rw [hst] at LS1
            have HSF2 : Hid (sf (t + 1) = sf t) := by rw [Hid, HSF.out, hst]; simp
            clear HSF hst
            go_wp2_with fail
            refine LS1.out.mono ?_
            rintro e w9 ⟨rfl, hb9⟩
            have HB9 := Lib.hid (hB.out.same hb9)
            have HO9 : Hid (OwnTop 2 25 w9 w.heap.size ws.heap.size w9.heap.size (.slice a (sf (t + 1)).length c) vs (sf (t + 1))) := by rw [HSF2.out]; exact (hO.out.keep hb9).mono hb9.size
            have hw9 := below_then hw hb9
            have hs9 : ws.heap.size ≤ w9.heap.size := Nat.le_trans hsz hb9.size
            have HSL : Hid ((sf t).length = (sf (t + 1)).length) := by rw [Hid, HSF2.out]
            rw [HSL.out]
            obtain ⟨a9, ha9⟩ : ∃ x, x = a := ⟨_, rfl⟩
            obtain ⟨c9, hc9⟩ : ∃ x, x = c := ⟨_, rfl⟩
            obtain ⟨vs9, hvs9⟩ : ∃ x, x = vs := ⟨_, rfl⟩
            subst ha9 hc9 hvs9
            clear hb9 LS1 HSF2 HSL HLT
            obtain ⟨hdg, hvd, hnx⟩ := HSP.out t hlt
            have HNX := Lib.hid hnx
            have HDG := Lib.hid hdg
            have HDL := Lib.hid (chAt_len (k + 1) k t)
            have HNXT : Hid (∀ ch m, nextAt ((k : Int) + 1) (chAt (k + 1) k t) k = (ch, m) → m = decide (t + 1 < TT) ∧ (t + 1 < TT → ch.map (· - 1) = mtAt k (t + 1))) := fun ch m hh => by
              have e1 : (((k + 1 : Nat) : Int)) = (k : Int) + 1 := by omega
              have h2 := HNX.out
              rw [e1, hh] at h2
              refine ⟨h2, fun _ => ?_⟩
              show _ = (chAt (k + 1) k (t + 1)).map _
              rw [chAt, e1, hh]
            have e9 : mtAt k t = (chAt (k + 1) k t).map (· - 1) := rfl
            rw [e9] at HB9
            generalize chAt (k + 1) k t = D at *
            clear hdg hvd hnx e9 HSP hml hB hO hw hsz
            go_wp2_with fail
            go_loopw [6, 7] (fun u6 u7 wr => ∃ (m : Bool) (j : Nat) (ch : List Int), j ≤ k ∧ u6 = .bool m ∧ u7 = .int .i64 ((j : Int) - 1) ∧ Hid (ch.length = k ∧ digB (k + 1) ch ∧ (m = false → nextAt ((k : Int) + 1) D k = nextAt ((k : Int) + 1) ch j) ∧ (m = true → nextAt ((k : Int) + 1) D k = (ch, true))) ∧ Hid (Blk wr g (ints (ch.map (· - 1)) ++ tl) 2) ∧ w9.grownBy wr (some g)) (fun _ u7 _ => (intOf u7 + 1).toNat)
            case atStart => exact ⟨false, k, D, Nat.le_refl _, rfl, rfl, ⟨HDL.out, HDG.out, fun _ => rfl, fun h => by cases h⟩, HB9.out, ⟨rfl, rfl, rfl, Nat.le_refl _, fun _ _ _ => rfl⟩⟩
            case round =>
              obtain ⟨m, j, ch, hj, rfl, rfl, hinv, hB, hgw⟩ := hrel
              have HEND : Hid (nextAt ((k : Int) + 1) D k = (ch, m) → Handed9 2 25 TT k sf w ws g tl a9 c9 vs9 t m ch wr) := fun hh => by
                obtain ⟨i1, i2⟩ := HNXT.out ch m hh
                refine ⟨i1, ⟨fun h => i2 h, by rw [List.length_map]; exact hinv.out.1⟩, hB.out, (HO9.out.grown hgw (by omega) (by omega)).mono hgw.size, hw9.grown hgw (by have := hw9.size; omega) (fun q hq => by injection hq with hq; omega), Nat.le_trans hs9 hgw.size⟩
              cases m with
              | true =>
                have HE := Lib.hid (HEND.out (hinv.out.2.2.2 rfl))
                clear HEND hinv hB
                by_cases hj0 : j = 0
                · subst hj0
                  have e0 : ((0 : Nat) : Int) - 1 = -1 := by omega
                  rw [e0]
                  go_wp2_with fail
                  go_roundg (TT - (t + 1))
                  case rel => exact ⟨t + 1, true, ch.map (· - 1), a9, c9, vs9, by omega, rfl, rfl, rfl, HE.out.1, HE.out.2.1, HE.out.2.2.1, HE.out.2.2.2.1, HE.out.2.2.2.2.1, HE.out.2.2.2.2.2⟩
                  case measure => omega
                · have j1 : 0 ≤ (j : Int) - 1 := by omega
                  go_wp2_with fail
                  go_roundg (TT - (t + 1))
                  case rel => exact ⟨t + 1, true, ch.map (· - 1), a9, c9, vs9, by omega, rfl, rfl, rfl, HE.out.1, HE.out.2.1, HE.out.2.2.1, HE.out.2.2.2.1, HE.out.2.2.2.2.1, HE.out.2.2.2.2.2⟩
                  case measure => omega
              | false =>
                by_cases hj0 : j = 0
                · subst hj0
                  have HE := Lib.hid (HEND.out (hinv.out.2.2.1 rfl))
                  clear HEND hinv hB
                  have e0 : ((0 : Nat) : Int) - 1 = -1 := by omega
                  rw [e0]
                  go_wp2_with fail
                  go_roundg (TT - (t + 1))
                  case rel => exact ⟨t + 1, false, ch.map (· - 1), a9, c9, vs9, by omega, rfl, rfl, rfl, HE.out.1, HE.out.2.1, HE.out.2.2.1, HE.out.2.2.2.1, HE.out.2.2.2.2.1, HE.out.2.2.2.2.2⟩
                  case measure => omega
                · obtain ⟨q, rfl⟩ : ∃ q, j = q + 1 := ⟨j - 1, by omega⟩
                  have e0 : ((q + 1 : Nat) : Int) - 1 = (q : Int) := by omega
                  rw [e0]
                  obtain ⟨il, id, i1, _⟩ := hinv.out
                  have i2 := i1 rfl
                  have hy : 0 ≤ ch.getD q 0 ∧ ch.getD q 0 < ((k + 1 : Nat) : Int) := id _ (getD_mem (by omega))
                  have ck : wr.cell? ⟨g, q, none⟩ = some (.int .i64 (ch.getD q 0 - 1)) := by
                    have := cell_app hB.out (j := q) (by rw [List.length_map]; omega)
                    rwa [decL_getD (by omega)] at this
                  have fk := hB.out.free q
                  obtain ⟨x, hx⟩ : ∃ x, x = ch.getD q 0 - 1 := ⟨_, rfl⟩
                  rw [← hx] at ck
                  have q0 : (0 : Int) ≤ (q : Int) := Int.natCast_nonneg _
                  have q1 : (q : Int) < (k : Int) := by omega
                  have x0' : -1 ≤ x := by omega
                  have x1' : x < (k : Int) := by omega
                  have HB1 : Hid (Blk (wr.setCell ⟨g, q, none⟩ (.int .i64 (x + 1))) g (ints ((ch.set q (x + 2)).map (· - 1)) ++ tl) 2) := by
                    have := set_appA hB.out (j := q) (by rw [List.length_map]; omega) (x + 1)
                    rw [show x + 1 = (x + 2) - 1 by omega, decL_set] at this
                    rw [show x + 1 = (x + 2) - 1 by omega]
                    exact this
                  have HG1 := Lib.hid (grown_of_grown hgw (stored wr g q (.int .i64 (x + 1))))
                  by_cases hxk : x + 1 < (k : Int)
                  · have HI : Hid ((ch.set q (x + 2)).length = k ∧ digB (k + 1) (ch.set q (x + 2)) ∧ (true = false → nextAt ((k : Int) + 1) D k = nextAt ((k : Int) + 1) (ch.set q (x + 2)) q) ∧ (true = true → nextAt ((k : Int) + 1) D k = (ch.set q (x + 2), true))) := by
                      refine ⟨by rw [List.length_set]; exact il, fun z hz => ?_, (fun h => by cases h), fun _ => ?_⟩
                      · rcases List.mem_or_eq_of_mem_set hz with h | h
                        · exact id z h
                        · omega
                      · rw [i2, nextAt, if_pos (by omega), show ch.getD q 0 + 1 = x + 2 by omega]
                    clear HEND hinv hB hgw hx hy il id i1 i2
                    go_wp2_with fail
                    go_roundw
                    case rel => exact ⟨true, q, ch.set q (x + 2), by omega, rfl, rfl, HI.out, HB1.out, HG1.out⟩
                    case measure => first | (simp [intOf]; done) | (simp [intOf]; omega)
                  · have HI : Hid ((ch.set q 0).length = k ∧ digB (k + 1) (ch.set q 0) ∧ (false = false → nextAt ((k : Int) + 1) D k = nextAt ((k : Int) + 1) (ch.set q 0) q) ∧ (false = true → nextAt ((k : Int) + 1) D k = (ch.set q 0, true))) := by
                      refine ⟨by rw [List.length_set]; exact il, fun z hz => ?_, fun _ => ?_, (fun h => by cases h)⟩
                      · rcases List.mem_or_eq_of_mem_set hz with h | h
                        · exact id z h
                        · omega
                      · rw [i2, nextAt, if_neg (by omega)]
                    have HB2 : Hid (Blk ((wr.setCell ⟨g, q, none⟩ (.int .i64 (x + 1))).setCell ⟨g, q, none⟩ (.int .i64 (-1))) g (ints ((ch.set q 0).map (· - 1)) ++ tl) 2) := by
                      have := set_appA HB1.out (j := q) (by rw [List.length_map, List.length_set]; omega) (-1)
                      rw [show (-1 : Int) = 0 - 1 by omega, decL_set, List.set_set] at this
                      exact this
                    have HG2 := Lib.hid (grown_of_grown HG1.out (stored (wr.setCell ⟨g, q, none⟩ (.int .i64 (x + 1))) g q (.int .i64 (-1))))
                    clear HEND hinv hB hgw hx hy il id i1 i2
                    go_wp2_with fail
                    go_roundw
                    case rel => exact ⟨false, q, ch.set q 0, by omega, rfl, rfl, HI.out, HB2.out, HG2.out⟩
                    case measure => first | (simp [intOf]; done) | (simp [intOf]; omega)
          | true =>
            rw [hst] at LS1
            have HSF2 : Hid (sf (t + 1) = sf t ++ [mtAt k t]) := by rw [Hid, HSF.out, hst]; simp
            clear HSF hst
            go_wp2_with fail
            refine LS1.out.mono ?_
            rintro e w8 ⟨rfl, hb8⟩
            have HB8 := Lib.hid (hB.out.same hb8)
            have HO8 := Lib.hid (hO.out.keep hb8)
            have hw8 := below_then hw hb8
            have hs8 := hb8.size
            have Hc8 : Hid (∀ j, j < k → w8.cell? ⟨g, 0 + j, none⟩ = some (.int .i64 ((mtAt k t).getD j 0))) := fun j hj => by rw [Nat.zero_add]; exact cell_app HB8.out (by rw [hl7]; exact hj)
            have Hl7 := Lib.hid hl7
            have hlen8 : (sf t).length ≤ 1099511627776 := by have := HLT.out; omega
            clear hb8 LS1 hl7
            go_wp2_with (at_builtin; refine append_manyC _ rfl _ _ 25 rfl w8.heap.size 2 (.int .i64 0) 8 Try.underlying25 info_i64p rfl _ 0 [] rfl (own_emptyC w8 2) g 0 k c5 (mtAt k t) rfl Hl7.out ?_ (by omega) (by omega) (by simp) ?_)
            · intro j hj
              rw [(bl1 w8 _).cell (p := ⟨g, 0 + j, none⟩) HB8.out.lt, Hc8.out j hj]
            intro v7 w7 o7 g7
            have B87 := below_append (bl1 w8 (.cells #[] 2)) (own_emptyC w8 2) g7 (Nat.le_refl _) (by simp)
            obtain ⟨a7, c7, e7, _, _⟩ := own_shape o7
            subst e7
            obtain ⟨g7', e7⟩ := own_someA o7 (by omega)
            subst e7
            have HB7 := Lib.hid (HB8.out.same B87)
            have HO7 := Lib.hid ((HO8.out.keep B87).out)
            have HI7 : Hid (OwnI 2 w7 w8.heap.size w7.heap.size (some ⟨g7', 0, none⟩) c7 (mtAt k t)) := OwnI.of_own (by
              rw [Hl7.out]
              simpa using o7)
            have hs7 := B87.size
            clear o7 g7 Hc8
            go_wp2_with (at_builtin; refine wpList_append_blk _ rfl _ _ 22 rfl w.heap.size 25 (.slice none 0 0) 24 Try.underlying22 info_intsA rfl _ (sf t).length vs rfl HO7.out (.slice (some ⟨g7', 0, none⟩) k c7) rfl rfl (by omega) hlen8 (by have := hw8.size; omega) ?_)
            intro v9 w9 ho9 hgr hnew
            obtain ⟨a9, c9, e9, _, _⟩ := own_shape ho9
            subst e9
            obtain ⟨vs9, hvs9⟩ : ∃ x, x = vs ++ [Value.slice (some ⟨g7', 0, none⟩) k c7] := ⟨_, rfl⟩
            have HSL : Hid ((sf t).length + 1 = (sf (t + 1)).length) := by rw [Hid, HSF2.out]; simp
            have HO9 : Hid (OwnTop 2 25 w9 w.heap.size ws.heap.size w9.heap.size (.slice a9 (sf (t + 1)).length c9) vs9 (sf (t + 1))) := by
              have hsn := HO8.out.snoc B87 (by omega) (by omega) (by omega) HI7.out (Nat.le_refl _) (by rw [Hl7.out]; exact ho9) hgr hnew
              rw [← HSL.out, HSF2.out, hvs9]
              rwa [Hl7.out] at hsn
            have HB9 := Lib.hid (HB7.out.grown hgr (fun e => by rcases HO8.out.lt g e.symm with h1 | ⟨h1, _⟩ <;> omega))
            have hw9 : Below w.heap.size w w9 := (hw8.trans (B87.mono hw8.size)).grown hgr (by have := hw8.size; omega) (fun q hq => by rcases HO8.out.lt q hq with h1 | ⟨h1, _⟩ <;> omega)
            have hs9 : ws.heap.size ≤ w9.heap.size := by have := hgr.size; omega
            rw [HSL.out]
            clear HB7 HO7 HI7 HO8 HB8 hw8 B87 ho9 hgr hnew hvs9 HSF2 HSL HLT hs7 hs8
            obtain ⟨hdg, hvd, hnx⟩ := HSP.out t hlt
            have HNX := Lib.hid hnx
            have HDG := Lib.hid hdg
            have HDL := Lib.hid (chAt_len (k + 1) k t)
            have HNXT : Hid (∀ ch m, nextAt ((k : Int) + 1) (chAt (k + 1) k t) k = (ch, m) → m = decide (t + 1 < TT) ∧ (t + 1 < TT → ch.map (· - 1) = mtAt k (t + 1))) := fun ch m hh => by
              have e1 : (((k + 1 : Nat) : Int)) = (k : Int) + 1 := by omega
              have h2 := HNX.out
              rw [e1, hh] at h2
              refine ⟨h2, fun _ => ?_⟩
              show _ = (chAt (k + 1) k (t + 1)).map _
              rw [chAt, e1, hh]
            have e9 : mtAt k t = (chAt (k + 1) k t).map (· - 1) := rfl
            rw [e9] at HB9
            generalize chAt (k + 1) k t = D at *
            clear hdg hvd hnx e9 HSP hml hB hO hw hsz
            go_wp2_with fail
            go_loopw [6, 7] (fun u6 u7 wr => ∃ (m : Bool) (j : Nat) (ch : List Int), j ≤ k ∧ u6 = .bool m ∧ u7 = .int .i64 ((j : Int) - 1) ∧ Hid (ch.length = k ∧ digB (k + 1) ch ∧ (m = false → nextAt ((k : Int) + 1) D k = nextAt ((k : Int) + 1) ch j) ∧ (m = true → nextAt ((k : Int) + 1) D k = (ch, true))) ∧ Hid (Blk wr g (ints (ch.map (· - 1)) ++ tl) 2) ∧ w9.grownBy wr (some g)) (fun _ u7 _ => (intOf u7 + 1).toNat)
            case atStart => exact ⟨false, k, D, Nat.le_refl _, rfl, rfl, ⟨HDL.out, HDG.out, fun _ => rfl, fun h => by cases h⟩, HB9.out, ⟨rfl, rfl, rfl, Nat.le_refl _, fun _ _ _ => rfl⟩⟩
            case round =>
              obtain ⟨m, j, ch, hj, rfl, rfl, hinv, hB, hgw⟩ := hrel
              have HEND : Hid (nextAt ((k : Int) + 1) D k = (ch, m) → Handed9 2 25 TT k sf w ws g tl a9 c9 vs9 t m ch wr) := fun hh => by
                obtain ⟨i1, i2⟩ := HNXT.out ch m hh
                refine ⟨i1, ⟨fun h => i2 h, by rw [List.length_map]; exact hinv.out.1⟩, hB.out, (HO9.out.grown hgw (by omega) (by omega)).mono hgw.size, hw9.grown hgw (by have := hw9.size; omega) (fun q hq => by injection hq with hq; omega), Nat.le_trans hs9 hgw.size⟩
              cases m with
              | true =>
                have HE := Lib.hid (HEND.out (hinv.out.2.2.2 rfl))
                clear HEND hinv hB
                by_cases hj0 : j = 0
                · subst hj0
                  have e0 : ((0 : Nat) : Int) - 1 = -1 := by omega
                  rw [e0]
                  go_wp2_with fail
                  go_roundg (TT - (t + 1))
                  case rel => exact ⟨t + 1, true, ch.map (· - 1), a9, c9, vs9, by omega, rfl, rfl, rfl, HE.out.1, HE.out.2.1, HE.out.2.2.1, HE.out.2.2.2.1, HE.out.2.2.2.2.1, HE.out.2.2.2.2.2⟩
                  case measure => omega
                · have j1 : 0 ≤ (j : Int) - 1 := by omega
                  go_wp2_with fail
                  go_roundg (TT - (t + 1))
                  case rel => exact ⟨t + 1, true, ch.map (· - 1), a9, c9, vs9, by omega, rfl, rfl, rfl, HE.out.1, HE.out.2.1, HE.out.2.2.1, HE.out.2.2.2.1, HE.out.2.2.2.2.1, HE.out.2.2.2.2.2⟩
                  case measure => omega
              | false =>
                by_cases hj0 : j = 0
                · subst hj0
                  have HE := Lib.hid (HEND.out (hinv.out.2.2.1 rfl))
                  clear HEND hinv hB
                  have e0 : ((0 : Nat) : Int) - 1 = -1 := by omega
                  rw [e0]
                  go_wp2_with fail
                  go_roundg (TT - (t + 1))
                  case rel => exact ⟨t + 1, false, ch.map (· - 1), a9, c9, vs9, by omega, rfl, rfl, rfl, HE.out.1, HE.out.2.1, HE.out.2.2.1, HE.out.2.2.2.1, HE.out.2.2.2.2.1, HE.out.2.2.2.2.2⟩
                  case measure => omega
                · obtain ⟨q, rfl⟩ : ∃ q, j = q + 1 := ⟨j - 1, by omega⟩
                  have e0 : ((q + 1 : Nat) : Int) - 1 = (q : Int) := by omega
                  rw [e0]
                  obtain ⟨il, id, i1, _⟩ := hinv.out
                  have i2 := i1 rfl
                  have hy : 0 ≤ ch.getD q 0 ∧ ch.getD q 0 < ((k + 1 : Nat) : Int) := id _ (getD_mem (by omega))
                  have ck : wr.cell? ⟨g, q, none⟩ = some (.int .i64 (ch.getD q 0 - 1)) := by
                    have := cell_app hB.out (j := q) (by rw [List.length_map]; omega)
                    rwa [decL_getD (by omega)] at this
                  have fk := hB.out.free q
                  obtain ⟨x, hx⟩ : ∃ x, x = ch.getD q 0 - 1 := ⟨_, rfl⟩
                  rw [← hx] at ck
                  have q0 : (0 : Int) ≤ (q : Int) := Int.natCast_nonneg _
                  have q1 : (q : Int) < (k : Int) := by omega
                  have x0' : -1 ≤ x := by omega
                  have x1' : x < (k : Int) := by omega
                  have HB1 : Hid (Blk (wr.setCell ⟨g, q, none⟩ (.int .i64 (x + 1))) g (ints ((ch.set q (x + 2)).map (· - 1)) ++ tl) 2) := by
                    have := set_appA hB.out (j := q) (by rw [List.length_map]; omega) (x + 1)
                    rw [show x + 1 = (x + 2) - 1 by omega, decL_set] at this
                    rw [show x + 1 = (x + 2) - 1 by omega]
                    exact this
                  have HG1 := Lib.hid (grown_of_grown hgw (stored wr g q (.int .i64 (x + 1))))
                  by_cases hxk : x + 1 < (k : Int)
                  · have HI : Hid ((ch.set q (x + 2)).length = k ∧ digB (k + 1) (ch.set q (x + 2)) ∧ (true = false → nextAt ((k : Int) + 1) D k = nextAt ((k : Int) + 1) (ch.set q (x + 2)) q) ∧ (true = true → nextAt ((k : Int) + 1) D k = (ch.set q (x + 2), true))) := by
                      refine ⟨by rw [List.length_set]; exact il, fun z hz => ?_, (fun h => by cases h), fun _ => ?_⟩
                      · rcases List.mem_or_eq_of_mem_set hz with h | h
                        · exact id z h
                        · omega
                      · rw [i2, nextAt, if_pos (by omega), show ch.getD q 0 + 1 = x + 2 by omega]
                    clear HEND hinv hB hgw hx hy il id i1 i2
                    go_wp2_with fail
                    go_roundw
                    case rel => exact ⟨true, q, ch.set q (x + 2), by omega, rfl, rfl, HI.out, HB1.out, HG1.out⟩
                    case measure => first | (simp [intOf]; done) | (simp [intOf]; omega)
                  · have HI : Hid ((ch.set q 0).length = k ∧ digB (k + 1) (ch.set q 0) ∧ (false = false → nextAt ((k : Int) + 1) D k = nextAt ((k : Int) + 1) (ch.set q 0) q) ∧ (false = true → nextAt ((k : Int) + 1) D k = (ch.set q 0, true))) := by
                      refine ⟨by rw [List.length_set]; exact il, fun z hz => ?_, fun _ => ?_, (fun h => by cases h)⟩
                      · rcases List.mem_or_eq_of_mem_set hz with h | h
                        · exact id z h
                        · omega
                      · rw [i2, nextAt, if_neg (by omega)]
                    have HB2 : Hid (Blk ((wr.setCell ⟨g, q, none⟩ (.int .i64 (x + 1))).setCell ⟨g, q, none⟩ (.int .i64 (-1))) g (ints ((ch.set q 0).map (· - 1)) ++ tl) 2) := by
                      have := set_appA HB1.out (j := q) (by rw [List.length_map, List.length_set]; omega) (-1)
                      rw [show (-1 : Int) = 0 - 1 by omega, decL_set, List.set_set] at this
                      exact this
                    have HG2 := Lib.hid (grown_of_grown HG1.out (stored (wr.setCell ⟨g, q, none⟩ (.int .i64 (x + 1))) g q (.int .i64 (-1))))
                    clear HEND hinv hB hgw hx hy il id i1 i2
                    go_wp2_with fail
                    go_roundw
                    case rel => exact ⟨false, q, ch.set q 0, by omega, rfl, rfl, HI.out, HB2.out, HG2.out⟩
                    case measure => first | (simp [intOf]; done) | (simp [intOf]; omega)
set_option maxRecDepth 10000 in
set_option maxHeartbeats 4000000 in
theorem allStableR_any (w : World) (a0 : Option Addr) (c0 : Nat) (x0 : List (List Int)) (a1 : Option Addr) (c1 : Nat) (x1 : List (List Int)) (h : RdWishes w w.heap.size a0 x0 a1 x1) (hl0 : x0.length ≤ 1048576) (hin0 : ∀ y ∈ x0, y.length ≤ 1048576) (hl1 : x1.length ≤ 1048576) (hin1 : ∀ y ∈ x1, y.length ≤ 1048576) :
    Calls Try.prog 35 #[.agg #[.slice a0 x0.length c0, .slice a1 x1.length c1]] w (RetM 2 25 w (allF ⟨x0, x1⟩)) := by
  have X0 : Bx w (w.alloc (.cells #[.slice a0 x0.length c0, .slice a1 x1.length c1] 28)) [.slice a0 x0.length c0, .slice a1 x1.length c1] 28 := Bx.start w _ _
  have LV := Lib.hid (l05Is_any _ w.heap.size 0 a0 c0 x0 a1 c1 x1 X0.two.1 X0.two.2 (h.to X0.1) hl0 hin0 hl1 hin1)
  cases t1 : wishB ⟨x0, x1⟩ with
  | false =>
    rw [all_no1 t1]
    rw [t1] at LV
    clear h hin0 hin1 t1
    go_enter Try.func35, Try.ntmps35
    go_wp2_with fail
    refine LV.out.mono ?_
    rintro e w1 ⟨rfl, q, rfl⟩
    have X1 := X0.drewN q
    go_wp2_with fail
    go_ret2
    exact ⟨X1.1, rfl⟩
  | true =>
  rw [t1] at LV
  by_cases h5 : x0.length ≤ 5
  case neg =>
    rw [all_no2 h5]
    have hgt : (5 : Int) < (x0.length : Int) := by omega
    clear h hin0 hin1 t1
    go_enter Try.func35, Try.ntmps35
    go_wp2_with fail
    refine LV.out.mono ?_
    rintro e w1 ⟨rfl, q, rfl⟩
    have X1 := X0.drewN q
    obtain ⟨q0, q1⟩ := X1.two
    go_wp2_with fail
    go_ret2
    exact ⟨X1.1, rfl⟩
  rw [all_yes t1 h5]
  have hgt : ¬ (5 : Int) < (x0.length : Int) := by omega
  have LA : Hid (∀ w', Bx w w' [.slice a0 x0.length c0, .slice a1 x1.length c1] 28 → _) := fun w' X => l05All_any w' w.heap.size 0 a0 c0 x0 a1 c1 x1 X.two.1 X.two.2 X.2.lt (h.to X.1) hl0 hin0 hl1 hin1 t1 h5
  generalize allStabF ⟨x0, x1⟩ = al at *
  clear h hin0 hin1 t1
  go_enter Try.func35, Try.ntmps35
  go_wp2_with fail
  refine LV.out.mono ?_
  rintro e w1 ⟨rfl, q, hq⟩
  have X1 : Bx w w1 [.slice a0 x0.length c0, .slice a1 x1.length c1] 28 := by rw [hq]; exact X0.drewN q
  have LA1 := Lib.hid (LA.out w1 X1)
  obtain ⟨q0, q1⟩ := X1.two
  clear hq X0 LA LV
  go_wp2_with fail
  refine LA1.out.mono ?_
  rintro e w2 ⟨a, c, rfl, ho, hb2⟩
  have HO := Lib.hid (ho.mono X1.1.size (Nat.le_refl _))
  have B2 := below_then X1.1 hb2
  clear ho hb2 q0 q1 LA1
  go_wp2_with fail
  go_ret2
  exact ⟨B2, a, c, rfl, HO.out⟩
end Go.Proofs.Ytdipckpcmnhpjaa
