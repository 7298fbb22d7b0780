/-
  Part 9 of what the proof stands on: lemmas and contracts, each with its conditions ahead of the colon.
-/
import Derived.Deep.LoopGhost
import Derived.Deep.RegionHeld3
import Derived.Deep.DeepCutAuto
import Derived.Deep.CutBlock
import Derived.Test.YtchfibmndcfpiaaPk03
import Derived.Test.YtchfibmndcfpiaaPk04
import Derived.Test.YtchfibmndcfpiaaPk06
import Derived.Test.YtchfibmndcfpiaaPk07
import Derived.Test.YtchfibmndcfpiaaPk08
namespace Go.Proofs.Ytchfibmndcfpiaa
set_option linter.unusedVariables false
set_option linter.unusedSimpArgs false
open Go.RowKit

/-- The t-th list of n numbers from -1 on. -/
def mtAt (n t : Nat) : List Int := (chAt (n + 1) n t).map (· - 1)
theorem mtAt_len (n t : Nat) : (mtAt n t).length = n := by simp [mtAt, chAt_len]
def someF (w : Wi) (n t : Nat) : List (List Int) := ((List.range t).map (mtAt n)).filter (stableB w)
theorem someF_succ (w : Wi) (n t : Nat) : someF w n (t + 1) = someF w n t ++ if stableB w (mtAt n t) then [mtAt n t] else [] := by
  unfold someF
  rw [List.range_succ, List.map_append, List.filter_append]
  cases h : stableB w (mtAt n t) <;> simp [h]
theorem someF_all (w : Wi) : someF w w.L.length ((w.L.length + 1) ^ w.L.length) = allStabF w := by
  unfold someF allStabF allM
  rw [allD_eq (by omega), List.map_map]
  rfl
theorem someF_mono (w : Wi) (n : Nat) {t u : Nat} (h : t ≤ u) : (someF w n t).length ≤ (someF w n u).length := by
  induction u with
  | zero => have : t = 0 := by omega
            subst this; exact Nat.le_refl _
  | succ u ih =>
    by_cases e : t = u + 1
    · subst e; exact Nat.le_refl _
    · have := ih (by omega)
      rw [someF_succ, List.length_append]; omega
theorem decL_getD {xs : List Int} {k : Nat} (h : k < xs.length) : (xs.map (· - 1)).getD k 0 = xs.getD k 0 - 1 := by
  simp [List.getD, h]
theorem decL_set (xs : List Int) (k : Nat) (x : Int) : (xs.map (· - 1)).set k (x - 1) = (xs.set k x).map (· - 1) := by rw [List.map_set]
theorem set_appA {w : World} {g T : Nat} {xs : List Int} {tl : List Value} (h : Blk w g (ints xs ++ tl) T) {j : Nat} (hj : j < xs.length) (y : Int) : Blk (w.setCell ⟨g, j, none⟩ (.int .i64 y)) g (ints (xs.set j y) ++ tl) T := set_app h hj y
theorem reps_snoc (k : Nat) : ints (List.replicate k (-1)) ++ [Value.int .i64 (-1)] = ints (List.replicate (k + 1) (-1)) := by
  rw [← ints_append', List.replicate_succ']
where ints_append' : ints (List.replicate k (-1) ++ [-1]) = ints (List.replicate k (-1)) ++ [Value.int .i64 (-1)] := by rw [ints_append]; rfl
/-- What a round of all lists hands on. -/
def Handed9 (T T2 : Nat) (TT k : Nat) (sf : Nat → List (List Int)) (w ws : World) (g : Nat) (tl : List Value) (a : Option Addr) (c : Nat) (vs : List Value) (t : Nat) (m : Bool) (ch : List Int) (wr : World) : Prop :=
  m = decide (t + 1 < TT) ∧ ((t + 1 < TT → ch.map (· - 1) = mtAt k (t + 1)) ∧ (ch.map (· - 1)).length = k) ∧ Blk wr g (ints (ch.map (· - 1)) ++ tl) T ∧ OwnTop T T2 wr w.heap.size ws.heap.size wr.heap.size (.slice a (sf (t + 1)).length c) vs (sf (t + 1)) ∧ Below w.heap.size w wr ∧ ws.heap.size ≤ wr.heap.size
set_option maxRecDepth 10000 in
set_option maxHeartbeats 8000000 in
theorem l05All_any (w : World) (b o : Nat) (a0 : Option Addr) (c0 : Nat) (x0 : List (List Int)) (a1 : Option Addr) (c1 : Nat) (x1 : List (List Int)) (d0 : w.cell? ⟨b, o, none⟩ = some (.slice a0 x0.length c0)) (d1 : w.cell? ⟨b, o + 1, none⟩ = some (.slice a1 x1.length c1)) (hbl : b < w.heap.size)
    (h : RdWishes w w.heap.size a0 x0 a1 x1) (hl0 : x0.length ≤ 1048576) (hin0 : ∀ y ∈ x0, y.length ≤ 1048576) (hl1 : x1.length ≤ 1048576) (hin1 : ∀ y ∈ x1, y.length ≤ 1048576) (hw : wishB ⟨x0, x1⟩ = true) (h5 : x0.length ≤ 5) :
    Calls Try.prog 39 #[.pointer (some ⟨b, o, none⟩)] w fun e w' => ∃ a c, e = .returned (.slice a (allStabF ⟨x0, x1⟩).length c) ∧ OwnLL 2 31 w' w.heap.size w'.heap.size a c (allStabF ⟨x0, x1⟩) ∧ Below w.heap.size w w' := by
  have hv := wish_of hw
  have h1 := hv.n1
  simp only at h1
  obtain ⟨n, hn⟩ : ∃ n, n = x0.length := ⟨_, rfl⟩
  have LS : Hid (∀ (w' : World) (a : Option Addr) (c : Nat) (m : List Int), Below w.heap.size w w' → Rd w' w'.heap.size a (ints m) → m.length ≤ 1048576 → m.length ≤ c → Calls Try.prog 46 #[.pointer (some ⟨b, o, none⟩), .slice a m.length c] w' fun e w'' => e = .returned (.bool (stableB ⟨x0, x1⟩ m)) ∧ Below w'.heap.size w' w'') := fun w' a c m hb g hl hc => by
    have := l05Stable_any w' b o a0 c0 x0 a1 c1 x1 ((hb.cell (p := ⟨b, o, none⟩) hbl).trans d0) ((hb.cell (p := ⟨b, o + 1, none⟩) hbl).trans d1) (Nat.lt_of_lt_of_le hbl hb.size) a c m (h.to hb) hl0 hin0 hl1 hin1 g hl hc
    rwa [hw, Bool.true_and] at this
  have HT : Hid ((n + 1) ^ n ≤ 7776) := pow_few (by omega)
  have HALL : Hid (someF ⟨x0, x1⟩ n ((n + 1) ^ n) = allStabF ⟨x0, x1⟩) := by rw [Hid, hn]; exact someF_all ⟨x0, x1⟩
  have HFM : Hid (∀ t, t ≤ (n + 1) ^ n → (someF ⟨x0, x1⟩ n t).length ≤ 7776) := fun t ht => by
    have := someF_mono ⟨x0, x1⟩ n ht
    have e := HALL.out
    have := allStab_few (w := ⟨x0, x1⟩) h5
    rw [← e] at this
    omega
  have HSP := Lib.hid (fun t ht => chAt_spec (n := n + 1) (by omega) n t ht)
  have HFS := Lib.hid (someF_succ ⟨x0, x1⟩ n)
  have HF0 : Hid (someF ⟨x0, x1⟩ n 0 = []) := rfl
  have HPos : Hid (0 < (n + 1) ^ n) := Nat.pow_pos (by omega)
  have Hn := Lib.hid hn
  have n1 : 1 ≤ n := by omega
  have n5 : n ≤ 5 := by omega
  rw [← hn] at d0
  generalize hST : stableB ⟨x0, x1⟩ = st at *
  generalize hSF : someF ⟨x0, x1⟩ n = sf at *
  rw [← HALL.out]
  generalize hTT : (n + 1) ^ n = TT at *
  clear h hin0 hin1 hw hv h1 hn hST hSF h5 hTT HALL
  go_enter Try.func39, Try.ntmps39
  go_wp2_with fail
  go_loopw [5, 20] (fun v kv wr => ∃ k : Nat, k ≤ n ∧ kv = .int .i64 k ∧ Hid (wr.ownsRow (w.heap.size + 1) 2 1 v k (ints (List.replicate k (-1)))) ∧ Hid (Blk wr w.heap.size [] 31) ∧ Below w.heap.size w wr ∧ w.heap.size + 1 ≤ wr.heap.size) (fun _ kv _ => n - (intOf kv).toNat)
  case atStart =>
    refine ⟨0, Nat.zero_le _, rfl, ?_, (Blk.new w [] 31).alloc _, bl2 _ _ _, by simp⟩
    have := own_empty (w.alloc (.cells #[] 31)) 2
    simpa [Hid] using this
  case round =>
    obtain ⟨k, hk, rfl, hO, hB, hw, hsz⟩ := hrel
    by_cases hlt : k < n
    · have hO' := hO.out
      clear hO
      go_wp2_with (at_builtin; refine wpList_append_one _ rfl _ _ 31 rfl (w.heap.size + 1) 2 (.int .i64 0) 8 Try.underlying31 info_i64p rfl _ k _ rfl hO' (.int .i64 (-1)) rfl rfl (by omega) (by omega) hsz ?_)
      intro v' w' ho hgr
      have HB2 := Lib.hid (hB.out.grown hgr (fun e => by have := (hO'.lt _ e.symm).1; omega))
      have HO2 : Hid (w'.ownsRow (w.heap.size + 1) 2 1 v' (k + 1) (ints (List.replicate (k + 1) (-1)))) := by
        rw [reps_snoc] at ho; exact ho
      have hw2 : Below w.heap.size w w' := below_append hw hO' hgr (by omega) (by omega)
      have hs2 : w.heap.size + 1 ≤ w'.heap.size := by have := hgr.size; omega
      clear ho hgr hO' hB hw
      go_wp2_with fail
      go_roundw
      case rel => exact ⟨k + 1, by omega, by go_num, HO2, HB2, hw2, hs2⟩
      case measure => simp [intOf]; omega
    · have : k = n := by omega
      subst this
      obtain ⟨a5, c5, e5, _, _⟩ := own_shape hO.out
      subst e5
      obtain ⟨g, tl, e6, hg0, hBg, hkc, _, _⟩ := own_open hO.out (by omega)
      subst e6
      obtain ⟨ws, hws⟩ : ∃ W : World, W = wr := ⟨_, rfl⟩
      subst hws
      have hgl := hBg.lt
      have HBg : Hid (Blk ws g (ints (mtAt k 0) ++ tl) 2) := by
        have : mtAt k 0 = List.replicate k (-1) := by simp [mtAt, chAt]
        rw [this]; exact hBg
      have HT0 : Hid (OwnTop 2 31 ws w.heap.size ws.heap.size ws.heap.size (.slice (some ⟨w.heap.size, 0, none⟩) (sf 0).length 0) [] (sf 0)) := by
        rw [HF0.out]
        exact OwnTop.start (hB.out.owns (Nat.le_refl _) (Nat.zero_le _)) (fun q hq => by simp [Value.ownBlock] at hq; exact hq.symm)
      have HF0' := Lib.hid (congrArg List.length HF0.out)
      rw [List.length_nil] at HF0'
      clear hO hB hBg
      go_wp2_with fail
      go_loopg [4, 6] (TT) (fun gk u4 u6 wr => ∃ (t : Nat) (m : Bool) (ml : List Int) (a : Option Addr) (c : Nat) (vs : List Value), t ≤ TT ∧ gk = TT - t ∧ u6 = .bool m ∧ u4 = .slice a (sf t).length c ∧ Hid (m = decide (t < TT)) ∧ Hid ((t < TT → ml = mtAt k t) ∧ ml.length = k) ∧ Hid (Blk wr g (ints ml ++ tl) 2) ∧ Hid (OwnTop 2 31 wr w.heap.size ws.heap.size wr.heap.size (.slice a (sf t).length c) vs (sf t)) ∧ Below w.heap.size w wr ∧ ws.heap.size ≤ wr.heap.size)
      case atStart => exact ⟨0, true, mtAt k 0, some ⟨w.heap.size, 0, none⟩, 0, [], Nat.zero_le _, rfl, rfl, by rw [HF0'.out], (decide_eq_true HPos.out).symm, ⟨fun _ => rfl, mtAt_len k 0⟩, HBg.out, HT0.out, hw, Nat.le_refl _⟩
      case round =>
        clear HBg HT0 hw
        obtain ⟨t, m, ml, a, c, vs, ht, rfl, rfl, rfl, hm, hml, hB, hO, hw, hsz⟩ := hrel
        cases m with
        | false =>
          have hlt : ¬ t < TT := by have := hm.out; simpa using this.symm
          have : t = TT := by omega
          subst this
          have HR : Hid (OwnLL 2 31 wr w.heap.size wr.heap.size a c (sf t)) := ⟨vs, hO.out.rows (by omega) (by omega)⟩
          clear hO hB hml
          go_wp2_with fail
          go_ret
          exact ⟨a, c, rfl, HR.out, hw⟩
        | true =>
          have hlt : t < TT := by have := hm.out; simpa using this.symm
          have e7 := hml.out.1 hlt
          subst e7
          have hl7 := mtAt_len k t
          have LS1 := Lib.hid (LS.out wr (some ⟨g, 0, none⟩) c5 (mtAt k t) hw (rd_app hB.out hB.out.lt) (by omega) (by omega))
          rw [hl7] at LS1
          have HSF := Lib.hid (HFS.out t)
          have HLT := Lib.hid (HFM.out t (by omega))
          cases hst : st (mtAt k t) with
          | false =>
            rw [hst] at LS1
            have HSF2 : Hid (sf (t + 1) = sf t) := by rw [Hid, HSF.out, hst]; simp
            clear HSF hst
            go_wp2_with fail
            refine LS1.out.mono ?_
            rintro e w9 ⟨rfl, hb9⟩
            have HB9 := Lib.hid (hB.out.same hb9)
            have HO9 : Hid (OwnTop 2 31 w9 w.heap.size ws.heap.size w9.heap.size (.slice a (sf (t + 1)).length c) vs (sf (t + 1))) := by rw [HSF2.out]; exact (hO.out.keep hb9).mono hb9.size
            have hw9 := below_then hw hb9
            have hs9 : ws.heap.size ≤ w9.heap.size := Nat.le_trans hsz hb9.size
            have HSL : Hid ((sf t).length = (sf (t + 1)).length) := by rw [Hid, HSF2.out]
            rw [HSL.out]
            obtain ⟨a9, ha9⟩ : ∃ x, x = a := ⟨_, rfl⟩
            obtain ⟨c9, hc9⟩ : ∃ x, x = c := ⟨_, rfl⟩
            obtain ⟨vs9, hvs9⟩ : ∃ x, x = vs := ⟨_, rfl⟩
            subst ha9 hc9 hvs9
            clear hb9 LS1 HSF2 HSL HLT
            obtain ⟨hdg, hvd, hnx⟩ := HSP.out t hlt
            have HNX := Lib.hid hnx
            have HDG := Lib.hid hdg
            have HDL := Lib.hid (chAt_len (k + 1) k t)
            have HNXT : Hid (∀ ch m, nextAt ((k : Int) + 1) (chAt (k + 1) k t) k = (ch, m) → m = decide (t + 1 < TT) ∧ (t + 1 < TT → ch.map (· - 1) = mtAt k (t + 1))) := fun ch m hh => by
              have e1 : (((k + 1 : Nat) : Int)) = (k : Int) + 1 := by omega
              have h2 := HNX.out
              rw [e1, hh] at h2
              refine ⟨h2, fun _ => ?_⟩
              show _ = (chAt (k + 1) k (t + 1)).map _
              rw [chAt, e1, hh]
            have e9 : mtAt k t = (chAt (k + 1) k t).map (· - 1) := rfl
            rw [e9] at HB9
            generalize chAt (k + 1) k t = D at *
            clear hdg hvd hnx e9 HSP hml hB hO hw hsz
            go_wp2_with fail
            go_loopw [6, 7] (fun u6 u7 wr => ∃ (m : Bool) (j : Nat) (ch : List Int), j ≤ k ∧ u6 = .bool m ∧ u7 = .int .i64 ((j : Int) - 1) ∧ Hid (ch.length = k ∧ digB (k + 1) ch ∧ (m = false → nextAt ((k : Int) + 1) D k = nextAt ((k : Int) + 1) ch j) ∧ (m = true → nextAt ((k : Int) + 1) D k = (ch, true))) ∧ Hid (Blk wr g (ints (ch.map (· - 1)) ++ tl) 2) ∧ w9.grownBy wr (some g)) (fun _ u7 _ => (intOf u7 + 1).toNat)
            case atStart => exact ⟨false, k, D, Nat.le_refl _, rfl, rfl, ⟨HDL.out, HDG.out, fun _ => rfl, fun h => by cases h⟩, HB9.out, ⟨rfl, rfl, rfl, Nat.le_refl _, fun _ _ _ => rfl⟩⟩
            case round =>
              obtain ⟨m, j, ch, hj, rfl, rfl, hinv, hB, hgw⟩ := hrel
              have HEND : Hid (nextAt ((k : Int) + 1) D k = (ch, m) → Handed9 2 31 TT k sf w ws g tl a9 c9 vs9 t m ch wr) := fun hh => by
                obtain ⟨i1, i2⟩ := HNXT.out ch m hh
                refine ⟨i1, ⟨fun h => i2 h, by rw [List.length_map]; exact hinv.out.1⟩, hB.out, (HO9.out.grown hgw (by omega) (by omega)).mono hgw.size, hw9.grown hgw (by have := hw9.size; omega) (fun q hq => by injection hq with hq; omega), Nat.le_trans hs9 hgw.size⟩
              cases m with
              | true =>
                have HE := Lib.hid (HEND.out (hinv.out.2.2.2 rfl))
                clear HEND hinv hB
                by_cases hj0 : j = 0
                · subst hj0
                  have e0 : ((0 : Nat) : Int) - 1 = -1 := by omega
                  rw [e0]
                  go_wp2_with fail
                  go_roundg (TT - (t + 1))
                  case rel => exact ⟨t + 1, true, ch.map (· - 1), a9, c9, vs9, by omega, rfl, rfl, rfl, HE.out.1, HE.out.2.1, HE.out.2.2.1, HE.out.2.2.2.1, HE.out.2.2.2.2.1, HE.out.2.2.2.2.2⟩
                  case measure => omega
                · have j1 : 0 ≤ (j : Int) - 1 := by omega
                  go_wp2_with fail
                  go_roundg (TT - (t + 1))
                  case rel => exact ⟨t + 1, true, ch.map (· - 1), a9, c9, vs9, by omega, rfl, rfl, rfl, HE.out.1, HE.out.2.1, HE.out.2.2.1, HE.out.2.2.2.1, HE.out.2.2.2.2.1, HE.out.2.2.2.2.2⟩
                  case measure => omega
              | false =>
                by_cases hj0 : j = 0
                · subst hj0
                  have HE := Lib.hid (HEND.out (hinv.out.2.2.1 rfl))
                  clear HEND hinv hB
                  have e0 : ((0 : Nat) : Int) - 1 = -1 := by omega
                  rw [e0]
                  go_wp2_with fail
                  go_roundg (TT - (t + 1))
                  case rel => exact ⟨t + 1, false, ch.map (· - 1), a9, c9, vs9, by omega, rfl, rfl, rfl, HE.out.1, HE.out.2.1, HE.out.2.2.1, HE.out.2.2.2.1, HE.out.2.2.2.2.1, HE.out.2.2.2.2.2⟩
                  case measure => omega
                · obtain ⟨q, rfl⟩ : ∃ q, j = q + 1 := ⟨j - 1, by omega⟩
                  have e0 : ((q + 1 : Nat) : Int) - 1 = (q : Int) := by omega
                  rw [e0]
                  obtain ⟨il, id, i1, _⟩ := hinv.out
                  have i2 := i1 rfl
                  have hy : 0 ≤ ch.getD q 0 ∧ ch.getD q 0 < ((k + 1 : Nat) : Int) := id _ (getD_mem (by omega))
                  have ck : wr.cell? ⟨g, q, none⟩ = some (.int .i64 (ch.getD q 0 - 1)) := by
                    have := cell_app hB.out (j := q) (by rw [List.length_map]; omega)
                    rwa [decL_getD (by omega)] at this
                  have fk := hB.out.free q
                  obtain ⟨x, hx⟩ : ∃ x, x = ch.getD q 0 - 1 := ⟨_, rfl⟩
                  rw [← hx] at ck
                  have q0 : (0 : Int) ≤ (q : Int) := Int.natCast_nonneg _
                  have q1 : (q : Int) < (k : Int) := by omega
                  have x0' : -1 ≤ x := by omega
                  have x1' : x < (k : Int) := by omega
                  have HB1 : Hid (Blk (wr.setCell ⟨g, q, none⟩ (.int .i64 (x + 1))) g (ints ((ch.set q (x + 2)).map (· - 1)) ++ tl) 2) := by
                    have := set_appA hB.out (j := q) (by rw [List.length_map]; omega) (x + 1)
                    rw [show x + 1 = (x + 2) - 1 by omega, decL_set] at this
                    rw [show x + 1 = (x + 2) - 1 by omega]
                    exact this
                  have HG1 := Lib.hid (grown_of_grown hgw (stored wr g q (.int .i64 (x + 1))))
                  by_cases hxk : x + 1 < (k : Int)
                  · have HI : Hid ((ch.set q (x + 2)).length = k ∧ digB (k + 1) (ch.set q (x + 2)) ∧ (true = false → nextAt ((k : Int) + 1) D k = nextAt ((k : Int) + 1) (ch.set q (x + 2)) q) ∧ (true = true → nextAt ((k : Int) + 1) D k = (ch.set q (x + 2), true))) := by
                      refine ⟨by rw [List.length_set]; exact il, fun z hz => ?_, (fun h => by cases h), fun _ => ?_⟩
                      · rcases List.mem_or_eq_of_mem_set hz with h | h
                        · exact id z h
                        · omega
                      · rw [i2, nextAt, if_pos (by omega), show ch.getD q 0 + 1 = x + 2 by omega]
                    clear HEND hinv hB hgw hx hy il id i1 i2
                    go_wp2_with fail
                    go_roundw
                    case rel => exact ⟨true, q, ch.set q (x + 2), by omega, rfl, rfl, HI.out, HB1.out, HG1.out⟩
                    case measure => first | (simp [intOf]; done) | (simp [intOf]; omega)
                  · have HI : Hid ((ch.set q 0).length = k ∧ digB (k + 1) (ch.set q 0) ∧ (false = false → nextAt ((k : Int) + 1) D k = nextAt ((k : Int) + 1) (ch.set q 0) q) ∧ (false = true → nextAt ((k : Int) + 1) D k = (ch.set q 0, true))) := by
                      refine ⟨by rw [List.length_set]; exact il, fun z hz => ?_, fun _ => ?_, (fun h => by cases h)⟩
                      · rcases List.mem_or_eq_of_mem_set hz with h | h
                        · exact id z h
                        · omega
                      · rw [i2, nextAt, if_neg (by omega)]
                    have HB2 : Hid (Blk ((wr.setCell ⟨g, q, none⟩ (.int .i64 (x + 1))).setCell ⟨g, q, none⟩ (.int .i64 (-1))) g (ints ((ch.set q 0).map (· - 1)) ++ tl) 2) := by
                      have := set_appA HB1.out (j := q) (by rw [List.length_map, List.length_set]; omega) (-1)
                      rw [show (-1 : Int) = 0 - 1 by omega, decL_set, List.set_set] at this
                      exact this
                    have HG2 := Lib.hid (grown_of_grown HG1.out (stored (wr.setCell ⟨g, q, none⟩ (.int .i64 (x + 1))) g q (.int .i64 (-1))))
                    clear HEND hinv hB hgw hx hy il id i1 i2
                    go_wp2_with fail
                    go_roundw
                    case rel => exact ⟨false, q, ch.set q 0, by omega, rfl, rfl, HI.out, HB2.out, HG2.out⟩
                    case measure => first | (simp [intOf]; done) | (simp [intOf]; omega)
          | true =>
            rw [hst] at LS1
            have HSF2 : Hid (sf (t + 1) = sf t ++ [mtAt k t]) := by rw [Hid, HSF.out, hst]; simp
            clear HSF hst
            go_wp2_with fail
            refine LS1.out.mono ?_
            rintro e w8 ⟨rfl, hb8⟩
            have HB8 := Lib.hid (hB.out.same hb8)
            have HO8 := Lib.hid (hO.out.keep hb8)
            have hw8 := below_then hw hb8
            have hs8 := hb8.size
            have Hc8 : Hid (∀ j, j < k → w8.cell? ⟨g, 0 + j, none⟩ = some (.int .i64 ((mtAt k t).getD j 0))) := fun j hj => by rw [Nat.zero_add]; exact cell_app HB8.out (by rw [hl7]; exact hj)
            have Hl7 := Lib.hid hl7
            have hlen8 : (sf t).length ≤ 1099511627776 := by have := HLT.out; omega
            clear hb8 LS1 hl7
            go_wp2_with (at_builtin; refine append_manyC _ rfl _ _ 31 rfl w8.heap.size 2 (.int .i64 0) 8 Try.underlying31 info_i64p rfl _ 0 [] rfl (own_emptyC w8 2) g 0 k c5 (mtAt k t) rfl Hl7.out ?_ (by omega) (by omega) (by simp) ?_)
            · intro j hj
              rw [(bl1 w8 _).cell (p := ⟨g, 0 + j, none⟩) HB8.out.lt, Hc8.out j hj]
            intro v7 w7 o7 g7
            have B87 := below_append (bl1 w8 (.cells #[] 2)) (own_emptyC w8 2) g7 (Nat.le_refl _) (by simp)
            obtain ⟨a7, c7, e7, _, _⟩ := own_shape o7
            subst e7
            obtain ⟨g7', e7⟩ := own_someA o7 (by omega)
            subst e7
            have HB7 := Lib.hid (HB8.out.same B87)
            have HO7 := Lib.hid ((HO8.out.keep B87).out)
            have HI7 : Hid (OwnI 2 w7 w8.heap.size w7.heap.size (some ⟨g7', 0, none⟩) c7 (mtAt k t)) := OwnI.of_own (by
              rw [Hl7.out]
              simpa using o7)
            have hs7 := B87.size
            clear o7 g7 Hc8
            go_wp2_with (at_builtin; refine wpList_append_blk _ rfl _ _ 25 rfl w.heap.size 31 (.slice none 0 0) 24 Try.underlying25 info_intsA rfl _ (sf t).length vs rfl HO7.out (.slice (some ⟨g7', 0, none⟩) k c7) rfl rfl (by omega) hlen8 (by have := hw8.size; omega) ?_)
            intro v9 w9 ho9 hgr hnew
            obtain ⟨a9, c9, e9, _, _⟩ := own_shape ho9
            subst e9
            obtain ⟨vs9, hvs9⟩ : ∃ x, x = vs ++ [Value.slice (some ⟨g7', 0, none⟩) k c7] := ⟨_, rfl⟩
            have HSL : Hid ((sf t).length + 1 = (sf (t + 1)).length) := by rw [Hid, HSF2.out]; simp
            have HO9 : Hid (OwnTop 2 31 w9 w.heap.size ws.heap.size w9.heap.size (.slice a9 (sf (t + 1)).length c9) vs9 (sf (t + 1))) := by
              have hsn := HO8.out.snoc B87 (by omega) (by omega) (by omega) HI7.out (Nat.le_refl _) (by rw [Hl7.out]; exact ho9) hgr hnew
              rw [← HSL.out, HSF2.out, hvs9]
              rwa [Hl7.out] at hsn
            have HB9 := Lib.hid (HB7.out.grown hgr (fun e => by rcases HO8.out.lt g e.symm with h1 | ⟨h1, _⟩ <;> omega))
            have hw9 : Below w.heap.size w w9 := (hw8.trans (B87.mono hw8.size)).grown hgr (by have := hw8.size; omega) (fun q hq => by rcases HO8.out.lt q hq with h1 | ⟨h1, _⟩ <;> omega)
            have hs9 : ws.heap.size ≤ w9.heap.size := by have := hgr.size; omega
            rw [HSL.out]
            clear HB7 HO7 HI7 HO8 HB8 hw8 B87 ho9 hgr hnew hvs9 HSF2 HSL HLT hs7 hs8
            obtain ⟨hdg, hvd, hnx⟩ := HSP.out t hlt
            have HNX := Lib.hid hnx
            have HDG := Lib.hid hdg
            have HDL := Lib.hid (chAt_len (k + 1) k t)
            have HNXT : Hid (∀ ch m, nextAt ((k : Int) + 1) (chAt (k + 1) k t) k = (ch, m) → m = decide (t + 1 < TT) ∧ (t + 1 < TT → ch.map (· - 1) = mtAt k (t + 1))) := fun ch m hh => by
              have e1 : (((k + 1 : Nat) : Int)) = (k : Int) + 1 := by omega
              have h2 := HNX.out
              rw [e1, hh] at h2
              refine ⟨h2, fun _ => ?_⟩
              show _ = (chAt (k + 1) k (t + 1)).map _
              rw [chAt, e1, hh]
            have e9 : mtAt k t = (chAt (k + 1) k t).map (· - 1) := rfl
            rw [e9] at HB9
            generalize chAt (k + 1) k t = D at *
            clear hdg hvd hnx e9 HSP hml hB hO hw hsz
            go_wp2_with fail
            go_loopw [6, 7] (fun u6 u7 wr => ∃ (m : Bool) (j : Nat) (ch : List Int), j ≤ k ∧ u6 = .bool m ∧ u7 = .int .i64 ((j : Int) - 1) ∧ Hid (ch.length = k ∧ digB (k + 1) ch ∧ (m = false → nextAt ((k : Int) + 1) D k = nextAt ((k : Int) + 1) ch j) ∧ (m = true → nextAt ((k : Int) + 1) D k = (ch, true))) ∧ Hid (Blk wr g (ints (ch.map (· - 1)) ++ tl) 2) ∧ w9.grownBy wr (some g)) (fun _ u7 _ => (intOf u7 + 1).toNat)
            case atStart => exact ⟨false, k, D, Nat.le_refl _, rfl, rfl, ⟨HDL.out, HDG.out, fun _ => rfl, fun h => by cases h⟩, HB9.out, ⟨rfl, rfl, rfl, Nat.le_refl _, fun _ _ _ => rfl⟩⟩
            case round =>
              obtain ⟨m, j, ch, hj, rfl, rfl, hinv, hB, hgw⟩ := hrel
              have HEND : Hid (nextAt ((k : Int) + 1) D k = (ch, m) → Handed9 2 31 TT k sf w ws g tl a9 c9 vs9 t m ch wr) := fun hh => by
                obtain ⟨i1, i2⟩ := HNXT.out ch m hh
                refine ⟨i1, ⟨fun h => i2 h, by rw [List.length_map]; exact hinv.out.1⟩, hB.out, (HO9.out.grown hgw (by omega) (by omega)).mono hgw.size, hw9.grown hgw (by have := hw9.size; omega) (fun q hq => by injection hq with hq; omega), Nat.le_trans hs9 hgw.size⟩
              cases m with
              | true =>
                have HE := Lib.hid (HEND.out (hinv.out.2.2.2 rfl))
                clear HEND hinv hB
                by_cases hj0 : j = 0
                · subst hj0
                  have e0 : ((0 : Nat) : Int) - 1 = -1 := by omega
                  rw [e0]
                  go_wp2_with fail
                  go_roundg (TT - (t + 1))
                  case rel => exact ⟨t + 1, true, ch.map (· - 1), a9, c9, vs9, by omega, rfl, rfl, rfl, HE.out.1, HE.out.2.1, HE.out.2.2.1, HE.out.2.2.2.1, HE.out.2.2.2.2.1, HE.out.2.2.2.2.2⟩
                  case measure => omega
                · have j1 : 0 ≤ (j : Int) - 1 := by omega
                  go_wp2_with fail
                  go_roundg (TT - (t + 1))
                  case rel => exact ⟨t + 1, true, ch.map (· - 1), a9, c9, vs9, by omega, rfl, rfl, rfl, HE.out.1, HE.out.2.1, HE.out.2.2.1, HE.out.2.2.2.1, HE.out.2.2.2.2.1, HE.out.2.2.2.2.2⟩
                  case measure => omega
              | false =>
                by_cases hj0 : j = 0
                · subst hj0
                  have HE := Lib.hid (HEND.out (hinv.out.2.2.1 rfl))
                  clear HEND hinv hB
                  have e0 : ((0 : Nat) : Int) - 1 = -1 := by omega
                  rw [e0]
                  go_wp2_with fail
                  go_roundg (TT - (t + 1))
                  case rel => exact ⟨t + 1, false, ch.map (· - 1), a9, c9, vs9, by omega, rfl, rfl, rfl, HE.out.1, HE.out.2.1, HE.out.2.2.1, HE.out.2.2.2.1, HE.out.2.2.2.2.1, HE.out.2.2.2.2.2⟩
                  case measure => omega
                · obtain ⟨q, rfl⟩ : ∃ q, j = q + 1 := ⟨j - 1, by omega⟩
                  have e0 : ((q + 1 : Nat) : Int) - 1 = (q : Int) := by omega
                  rw [e0]
                  obtain ⟨il, id, i1, _⟩ := hinv.out
                  have i2 := i1 rfl
                  have hy : 0 ≤ ch.getD q 0 ∧ ch.getD q 0 < ((k + 1 : Nat) : Int) := id _ (getD_mem (by omega))
                  have ck : wr.cell? ⟨g, q, none⟩ = some (.int .i64 (ch.getD q 0 - 1)) := by
                    have := cell_app hB.out (j := q) (by rw [List.length_map]; omega)
                    rwa [decL_getD (by omega)] at this
                  have fk := hB.out.free q
                  obtain ⟨x, hx⟩ : ∃ x, x = ch.getD q 0 - 1 := ⟨_, rfl⟩
                  rw [← hx] at ck
                  have q0 : (0 : Int) ≤ (q : Int) := Int.natCast_nonneg _
                  have q1 : (q : Int) < (k : Int) := by omega
                  have x0' : -1 ≤ x := by omega
                  have x1' : x < (k : Int) := by omega
                  have HB1 : Hid (Blk (wr.setCell ⟨g, q, none⟩ (.int .i64 (x + 1))) g (ints ((ch.set q (x + 2)).map (· - 1)) ++ tl) 2) := by
                    have := set_appA hB.out (j := q) (by rw [List.length_map]; omega) (x + 1)
                    rw [show x + 1 = (x + 2) - 1 by omega, decL_set] at this
                    rw [show x + 1 = (x + 2) - 1 by omega]
                    exact this
                  have HG1 := Lib.hid (grown_of_grown hgw (stored wr g q (.int .i64 (x + 1))))
                  by_cases hxk : x + 1 < (k : Int)
                  · have HI : Hid ((ch.set q (x + 2)).length = k ∧ digB (k + 1) (ch.set q (x + 2)) ∧ (true = false → nextAt ((k : Int) + 1) D k = nextAt ((k : Int) + 1) (ch.set q (x + 2)) q) ∧ (true = true → nextAt ((k : Int) + 1) D k = (ch.set q (x + 2), true))) := by
                      refine ⟨by rw [List.length_set]; exact il, fun z hz => ?_, (fun h => by cases h), fun _ => ?_⟩
                      · rcases List.mem_or_eq_of_mem_set hz with h | h
                        · exact id z h
                        · omega
                      · rw [i2, nextAt, if_pos (by omega), show ch.getD q 0 + 1 = x + 2 by omega]
                    clear HEND hinv hB hgw hx hy il id i1 i2
                    go_wp2_with fail
                    go_roundw
                    case rel => exact ⟨true, q, ch.set q (x + 2), by omega, rfl, rfl, HI.out, HB1.out, HG1.out⟩
                    case measure => first | (simp [intOf]; done) | (simp [intOf]; omega)
                  · have HI : Hid ((ch.set q 0).length = k ∧ digB (k + 1) (ch.set q 0) ∧ (false = false → nextAt ((k : Int) + 1) D k = nextAt ((k : Int) + 1) (ch.set q 0) q) ∧ (false = true → nextAt ((k : Int) + 1) D k = (ch.set q 0, true))) := by
                      refine ⟨by rw [List.length_set]; exact il, fun z hz => ?_, fun _ => ?_, (fun h => by cases h)⟩
                      · rcases List.mem_or_eq_of_mem_set hz with h | h
                        · exact id z h
                        · omega
                      · rw [i2, nextAt, if_neg (by omega)]
                    have HB2 : Hid (Blk ((wr.setCell ⟨g, q, none⟩ (.int .i64 (x + 1))).setCell ⟨g, q, none⟩ (.int .i64 (-1))) g (ints ((ch.set q 0).map (· - 1)) ++ tl) 2) := by
                      have := set_appA HB1.out (j := q) (by rw [List.length_map, List.length_set]; omega) (-1)
                      rw [show (-1 : Int) = 0 - 1 by omega, decL_set, List.set_set] at this
                      exact this
                    have HG2 := Lib.hid (grown_of_grown HG1.out (stored (wr.setCell ⟨g, q, none⟩ (.int .i64 (x + 1))) g q (.int .i64 (-1))))
                    clear HEND hinv hB hgw hx hy il id i1 i2
                    go_wp2_with fail
                    go_roundw
                    case rel => exact ⟨false, q, ch.set q 0, by omega, rfl, rfl, HI.out, HB2.out, HG2.out⟩
                    case measure => first | (simp [intOf]; done) | (simp [intOf]; omega)
set_option maxRecDepth 10000 in
set_option maxHeartbeats 4000000 in
theorem allStableR_any (w : World) (a0 : Option Addr) (c0 : Nat) (x0 : List (List Int)) (a1 : Option Addr) (c1 : Nat) (x1 : List (List Int)) (h : RdWishes w w.heap.size a0 x0 a1 x1) (hl0 : x0.length ≤ 1048576) (hin0 : ∀ y ∈ x0, y.length ≤ 1048576) (hl1 : x1.length ≤ 1048576) (hin1 : ∀ y ∈ x1, y.length ≤ 1048576) :
    Calls Try.prog 9 #[.agg #[.slice a0 x0.length c0, .slice a1 x1.length c1]] w (RetM 2 31 w (allF ⟨x0, x1⟩)) := by
  have X0 : Bx w (w.alloc (.cells #[.slice a0 x0.length c0, .slice a1 x1.length c1] 27)) [.slice a0 x0.length c0, .slice a1 x1.length c1] 27 := Bx.start w _ _
  have LV := Lib.hid (l05Is_any _ w.heap.size 0 a0 c0 x0 a1 c1 x1 X0.two.1 X0.two.2 (h.to X0.1) hl0 hin0 hl1 hin1)
  cases t1 : wishB ⟨x0, x1⟩ with
  | false =>
    rw [all_no1 t1]
    rw [t1] at LV
    clear h hin0 hin1 t1
    go_enter Try.func9, Try.ntmps9
    go_wp2_with fail
    refine LV.out.mono ?_
    rintro e w1 ⟨rfl, q, rfl⟩
    have X1 := X0.drewN q
    go_wp2_with fail
    go_ret2
    exact ⟨X1.1, rfl⟩
  | true =>
  rw [t1] at LV
  by_cases h5 : x0.length ≤ 5
  case neg =>
    rw [all_no2 h5]
    have hgt : (5 : Int) < (x0.length : Int) := by omega
    clear h hin0 hin1 t1
    go_enter Try.func9, Try.ntmps9
    go_wp2_with fail
    refine LV.out.mono ?_
    rintro e w1 ⟨rfl, q, rfl⟩
    have X1 := X0.drewN q
    obtain ⟨q0, q1⟩ := X1.two
    go_wp2_with fail
    go_ret2
    exact ⟨X1.1, rfl⟩
  rw [all_yes t1 h5]
  have hgt : ¬ (5 : Int) < (x0.length : Int) := by omega
  have LA : Hid (∀ w', Bx w w' [.slice a0 x0.length c0, .slice a1 x1.length c1] 27 → _) := fun w' X => l05All_any w' w.heap.size 0 a0 c0 x0 a1 c1 x1 X.two.1 X.two.2 X.2.lt (h.to X.1) hl0 hin0 hl1 hin1 t1 h5
  generalize allStabF ⟨x0, x1⟩ = al at *
  clear h hin0 hin1 t1
  go_enter Try.func9, Try.ntmps9
  go_wp2_with fail
  refine LV.out.mono ?_
  rintro e w1 ⟨rfl, q, hq⟩
  have X1 : Bx w w1 [.slice a0 x0.length c0, .slice a1 x1.length c1] 27 := by rw [hq]; exact X0.drewN q
  have LA1 := Lib.hid (LA.out w1 X1)
  obtain ⟨q0, q1⟩ := X1.two
  clear hq X0 LA LV
  go_wp2_with fail
  refine LA1.out.mono ?_
  rintro e w2 ⟨a, c, rfl, ho, hb2⟩
  have HO := Lib.hid (ho.mono X1.1.size (Nat.le_refl _))
  have B2 := below_then X1.1 hb2
  clear ho hb2 q0 q1 LA1
  go_wp2_with fail
  go_ret2
  exact ⟨B2, a, c, rfl, HO.out⟩
end Go.Proofs.Ytchfibmndcfpiaa
namespace Go.Proofs.Ytchfibmndcfpiaa
set_option linter.unusedVariables false
set_option linter.unusedSimpArgs false
open Go.RowKit

/-- The wishes' cells and what they show. -/
structure WBl (w : World) (gw n gL cL : Nat) (xL : List (List Int)) (gR cR : Nat) (xR : List (List Int)) : Prop where
  K : Blk w gw [.slice (some ⟨gL, 0, none⟩) n cL, .slice (some ⟨gR, 0, none⟩) n cR] 27
  R : RdL w w.heap.size gL 0 xL ∧ RdL w w.heap.size gR 0 xR
section
variable {w w' : World} {gw n gL cL gR cR : Nat} {xL xR : List (List Int)}
theorem WBl.to (h : WBl w gw n gL cL xL gR cR xR) (hb : Below w.heap.size w w') : WBl w' gw n gL cL xL gR cR xR := ⟨h.K.same hb, h.R.1.to hb, h.R.2.to hb⟩
theorem WBl.cells (h : WBl w gw n gL cL xL gR cR xR) : w.cell? ⟨gw, 0, none⟩ = some (.slice (some ⟨gL, 0, none⟩) n cL) ∧ w.cell? ⟨gw, 1, none⟩ = some (.slice (some ⟨gR, 0, none⟩) n cR) := ⟨h.K.cell 0, h.K.cell 1⟩
theorem WBl.W (h : WBl w gw n gL cL xL gR cR xR) : RdWishes w w.heap.size (some ⟨gL, 0, none⟩) xL (some ⟨gR, 0, none⟩) xR := ⟨h.R.1.rdII, h.R.2.rdII⟩
end
theorem cells_at {w : World} {B g : Nat} {xs : List Int} (h : Rd w B (some ⟨g, 0, none⟩) (ints xs)) {t : Nat} (ht : t < xs.length) : w.cell? ⟨g, t, none⟩ = some (.int .i64 (xs.getD t 0)) := by
  obtain ⟨b, o, e, _, hc⟩ := h.at ht
  injection e with e; injection e with e1 e2 e3
  subst e1 e2
  have := hc t ht
  rwa [Nat.zero_add] at this
theorem isStableF_yes {w : Wi} (hv : wishB w = true) {m : List Int} (h : stableB w m = true) : isStableF w m = (true, true) := by
  unfold isStableF
  unfold stableB at h
  rw [Bool.and_eq_true] at h
  rw [hv, h.1, Bool.and_self, if_pos rfl, h.2]
theorem mat_stab {w : Wi} (hw : Wish w) {m : List Int} (h : stableB w m = true) : Mat w m := by
  unfold stableB at h
  rw [Bool.and_eq_true] at h
  exact mat_of h.1
theorem turns_len (w : Wi) (m : List Int) : (turnsF w m).length ≤ w.L.length := by
  unfold turnsF
  exact Nat.le_trans (List.length_filterMap_le _ _) (by simp)
theorem wishB_of {w : Wi} (h : Wish w) : wishB w = true := by
  have e0 : listsB w.L w.L.length = true := listsB_iff.2 ⟨h.left, rfl⟩
  have e1 : listsB w.R w.L.length = true := listsB_iff.2 ⟨h.right, h.len⟩
  unfold wishB
  simp only [e0, e1, Bool.and_true, inB_iff]
  have := h.n1; have := h.n8; omega
theorem allF_lenL (w : Wi) : ((allF w).getD []).length ≤ 1048576 := by
  unfold allF
  split
  · rename_i h
    rw [Bool.and_eq_true, decide_eq_true_eq] at h
    have := allStab_few h.2
    rw [Option.getD_some]; omega
  · simp
end Go.Proofs.Ytchfibmndcfpiaa
namespace Go.Proofs.Ytchfibmndcfpiaa
set_option linter.unusedVariables false
set_option linter.unusedSimpArgs false
open Go.RowKit

theorem ints_eq_of {xs ys : List Int} (hl : xs.length = ys.length) (h : ∀ j, j < xs.length → xs.getD j 0 = ys.getD j 0) : xs = ys := by
  refine List.ext_getElem hl fun j h1 h2 => ?_
  have := h j h1
  simp only [List.getD, List.getElem?_eq_getElem h1, List.getElem?_eq_getElem h2, Option.getD_some] at this
  exact this
set_option maxHeartbeats 800000 in
theorem b10IntsD_any (w : World) (a b : Option Addr) (n c d : Nat) (xs ys : List Int) (hx : Rd w w.heap.size a (ints xs)) (hy : Rd w w.heap.size b (ints ys)) (lx : xs.length = n) (ly : ys.length = n) (hn : n ≤ 1099511627776) :
    Calls Try.prog 14 #[.slice a n c, .slice b n d] w fun e w' => e = .returned (.bool (decide (xs = ys))) ∧ ∃ n, w' = w.drewN n := by
  have hb1 : ((n : Int) != (n : Int)) = false := by simp
  have HX := Lib.hid hx
  have HY := Lib.hid hy
  have HEq : Hid ((∀ j, j < n → xs.getD j 0 = ys.getD j 0) → decide (xs = ys) = true) := fun h => decide_eq_true (ints_eq_of (by omega) (by rw [lx]; exact h))
  have HLx := Lib.hid lx
  have HLy := Lib.hid ly
  clear hx hy lx ly
  obtain ⟨B, hB⟩ : ∃ B, B = decide (xs = ys) := ⟨_, rfl⟩
  rw [← hB] at HEq ⊢
  have HB := Lib.hid hB
  clear hB
  go_enter Try.func14, Try.ntmps14
  go_wp2
  go_loopw [13] (fun i wr => ∃ k q : Nat, k ≤ n ∧ i = .int .i64 k ∧ wr = w.drewN q ∧ Hid (∀ j, j < k → xs.getD j 0 = ys.getD j 0)) (fun i _ => n - (intOf i).toNat)
  case atStart => exact ⟨0, 0, Nat.zero_le _, rfl, rfl, fun j hj => by omega⟩
  case round =>
    obtain ⟨k, q, hk, rfl, rfl, HP⟩ := hrel
    by_cases hlt : k < n
    · obtain ⟨b1, o1, x, rfl, _, hcx, hx'⟩ := HX.out.get (k := k) (by rw [HLx.out]; exact hlt)
      obtain ⟨b2, o2, y, rfl, _, hcy, hy'⟩ := HY.out.get (k := k) (by rw [HLy.out]; exact hlt)
      have ex : xs.getD k 0 = x := by simp [List.getD, hx'.out]
      have ey : ys.getD k 0 = y := by simp [List.getD, hy'.out]
      by_cases hxy : x = y
      · subst hxy
        have HP2 : Hid (∀ j, j < k + 1 → xs.getD j 0 = ys.getD j 0) := fun j hj => by
          by_cases h : j < k
          · exact HP.out j h
          · obtain rfl : j = k := by omega
            rw [ex, ey]
        have hne : (x != x) = false := by simp
        clear hx' hy' ex ey HP
        go_wp2
        go_quiet (fail)
        go_wp2
        go_roundw
        case rel => exact ⟨k + 1, q + nq, by omega, by go_num, by first | rfl | exact World.drewN_drewN _ _ _, HP2⟩
        case measure => simp [intOf]; omega
      · have hne : (x != y) = true := by simpa using hxy
        have HN : Hid (B = false) := by
          rw [Hid, HB.out]
          refine decide_eq_false fun e => hxy ?_
          rw [← ex, ← ey, e]
        clear hx' hy' ex ey HP hxy
        go_wp2
        go_quiet (fail)
        go_wp2
        go_ret
        exact ⟨ret_bool HN.out.symm, q + nq, by first | rfl | exact World.drewN_drewN _ _ _⟩
    · have hkn : k = n := by omega
      subst hkn
      have HT := Lib.hid (HEq.out HP.out)
      clear HP
      go_wp2
      go_ret
      exact ⟨ret_bool HT.out.symm, _, rfl⟩
theorem place_first {xs : List Int} {x y : Int} (hx : containsI xs x = true) (hp : placeI xs x < placeI xs y) : ∃ k : Nat, k < xs.length ∧ xs.getD k 0 = x ∧ ∀ j, j < k → xs.getD j 0 ≠ x ∧ xs.getD j 0 ≠ y := by
  have hc : 0 ≤ indexI xs x := of_decide_eq_true hx
  unfold placeI at hp
  unfold indexI at hp hc
  rcases findI_spec (fun j => x == xs.getD j 0) xs.length with ⟨k, h1, h2, h3, h4⟩ | ⟨h1, h2⟩
  · refine ⟨k, h1, (eq_of_beq h2).symm, fun j hj => ⟨fun e => ?_, fun e => ?_⟩⟩
    · have := h3 j hj; rw [e] at this; simp at this
    · rw [h4, if_neg (by omega)] at hp
      rcases findI_spec (fun j => y == xs.getD j 0) xs.length with ⟨l, g1, g2, g3, g4⟩ | ⟨g1, g2⟩
      · rw [g4, if_neg (by omega)] at hp
        have := g3 j (by omega)
        rw [e] at this; simp at this
      · have := g1 j (by omega)
        rw [e] at this; simp at this
  · rw [h2] at hc; omega
/-- Where the asked match differs from a stable one, the row meets the asked one first. -/
theorem asked_first {w : Wi} (hw : Wish w) {m : List Int} (hs : stableB w m = true) {a : Nat} (ha : a < w.L.length) (hne : (askedF w).getD a 0 ≠ m.getD a 0) : ∃ k : Nat, k < (row w.L a).length ∧ (row w.L a).getD k 0 = (askedF w).getD a 0 ∧ ∀ j, j < k → (row w.L a).getD j 0 ≠ (askedF w).getD a 0 ∧ (row w.L a).getD j 0 ≠ m.getD a 0 := by
  obtain ⟨p, h1, h2, h3⟩ := asked_dear hw hs ha hne
  rw [h1]
  exact place_first h2 h3
end Go.Proofs.Ytchfibmndcfpiaa
namespace Go.Proofs.Ytchfibmndcfpiaa
set_option linter.unusedVariables false
set_option linter.unusedSimpArgs false
open Go.RowKit

theorem own_setM {w : World} {base e g n c j : Nat} {l : List Int} (h : w.ownsRow base e 1 (.slice (some ⟨g, 0, none⟩) n c) n (ints l)) (hj : j < n) (x : Int) :
    (w.setCell ⟨g, j, none⟩ (.int .i64 x)).ownsRow base e 1 (.slice (some ⟨g, 0, none⟩) n c) n (ints (l.set j x)) ∧ w.grownBy (w.setCell ⟨g, j, none⟩ (.int .i64 x)) (some g) := by
  have hg : w.grownBy (w.setCell ⟨g, j, none⟩ (.int .i64 x)) (some g) := ⟨rfl, rfl, rfl, by simp, fun i _ hi => Below.heap_setCell _ _ _ _ (fun e => hi (by simp [e]))⟩
  refine ⟨?_, hg⟩
  obtain ⟨hl, h | ⟨g', cap, cur, hv, hb, hh, hn, hm, hs, ht⟩⟩ := h
  · omega
  · injection hv with ha _ hc
    injection ha with ha
    injection ha with ha
    subst ha hc
    have K : Blk w g cur.toList e := by unfold Blk; simpa using hh
    have K2 := K.set j (.int .i64 x)
    refine ⟨by simpa using hl, .inr ⟨g, c, (cur.toList.set j (.int .i64 x)).toArray, rfl, hb, K2, hn, hm, by simpa using hs, ?_⟩⟩
    rw [ints_set, ← ht, List.take_set]
theorem own_cellM {w : World} {base e g n c j : Nat} {l : List Int} (h : w.ownsRow base e 1 (.slice (some ⟨g, 0, none⟩) n c) n (ints l)) (hj : j < n) : w.cell? ⟨g, j, none⟩ = some (.int .i64 (l.getD j 0)) ∧ w.frozen? ⟨g, j, none⟩ = false := by
  obtain ⟨hl, h | ⟨g', cap, cur, hv, hb, hg, hn, hc, hs, ht⟩⟩ := h
  · omega
  · injection hv with ha _ _
    injection ha with ha
    injection ha with ha
    subst ha
    rw [ints_length] at hl
    refine ⟨?_, by simp [World.frozen?, hg]⟩
    have e1 : cur.toList[j]? = (ints l)[j]? := by rw [← ht, List.getElem?_take_of_lt (by omega)]
    rw [ints_get l j (by omega)] at e1
    simp only [World.cell?, hg]
    simpa using e1
end Go.Proofs.Ytchfibmndcfpiaa
namespace Go.Proofs.Ytchfibmndcfpiaa
set_option linter.unusedVariables false
set_option linter.unusedSimpArgs false
open Go.RowKit

set_option maxRecDepth 100000 in
set_option maxHeartbeats 32000000 in
theorem matL4 (w v0 : World) (n gw gL cL gR cR : Nat) (xL xR : List (List Int)) (am : Option Addr) (cm : Nat) (ms : List Int) (gm cg : Nat) (m : List Int) (HBX0 : Hid (WBl v0 gw n gL cL xL gR cR xR)) (HW0 : Hid (Below w.heap.size w v0)) (hn : 1 ≤ n ∧ n ≤ 4) (HL : Hid (xL.length = n)) (HR : Hid (xR.length = n)) (HV : Hid (wishB ⟨xL, xR⟩ = true)) (HGL : Hid (∀ y ∈ xL, y.length ≤ 1048576)) (HGR : Hid (∀ y ∈ xR, y.length ≤ 1048576)) (LM : Hid (∀ (v : World), Below w.heap.size w v → ∀ (i n : Int), 0 ≤ i → i ≤ 1000000 → Calls Try.prog 7 #[.slice am ms.length cm, .int .i64 i, .int .i64 n] v fun e w' => e = .returned (.int .i64 (atF ms i n)) ∧ v = w')) (hml : Hid (m.length = n)) (Rm0 : Hid (Rd v0 v0.heap.size (some ⟨gm, 0, none⟩) (ints m))) (K : Act → World → Prop) (hK : ∀ (a : Act) (v : World), Code.wp Try.prog (((Try.f5).body.bind (restAt 41)).getD .skip) (bodyPost Try.prog Try.f5 fun e w' => e = .returned (.bool true) ∧ Below w.heap.size w w') a v → K a v)
    {z0 z2 z3 z4 z8 z9 z10 z11 z12 z13 z14 z15 z16 z17 z18 z19 z20 z21 z22 z23 z24 z25 z26 z27 z28 z29 z30 z31 z32 z33 z34 z35 z36 z37 z38 z39 z40 z41 z42 z43 z44 z45 z46 z47 z48 z49 z50 z51 z52 z53 z54 z55 z56 z57 z58 z59 z60 z61 z62 z63 z64 z65 z66 z67 z68 z69 z70 z71 z72 z73 z74 z75 z76 z77 z78 z79 z80 z81 z82 z83 z84 z85 z86 z87 z88 z89 z90 z91 z92 z93 z94 z95 z96 z97 z98 z99 z100 z101 z102 z103 z104 z105 z106 z107 z108 z109 z110 z111 z112 z113 z114 z115 z116 z117 z118 z119 z120 z121 z122 z123 z124 z125 z126 z127 z128 z129 z130 z131 z132 z133 z134 z135 z136 z137 z138 z139 z140 z141 z142 z143 z144 z145 z146 z147 z148 z149 z150 z151 z152 z153 z154 z155 z156 z157 z158 z159 z160 z161 z162 z163 z164 z165 z166 z167 z168 z169 z170 z171 z172 z173 z174 z175 z176 z177 z178 z179 z180 z181 z182 z183 z184 z185 z186 z187 z188 z189 z190 z191 z192 z193 z194 z195 z196 z197 z198 z199 z200 z201 z202 z203 z204 z205 z206 z207 z208 z209 z210 z211 z212 z213 z214 z215 z216 z217 z218 z219 z220 z221 z222 z223 z224 z225 z226 z227 z228 z229 z230 z231 z232 z233 z234 z235 z236 z237 z238 z239 z240 z241 z242 z243 z244 z245 z246 z247 z248 z249 z250 z251 z252 z253 z254 z255 z256 z257 z258 z259 z260 z261 z262 z263 z264 z265 z266 z267 z268 z269 z270 z271 z272 z273 z274 z275 z276 z277 z278 z279 z280 z281 z282 z283 z284 z285 z286 z287 z288 z289 z290 z291 z292 z293 z294 z295 z296 z297 z298 z299 z300 z301 z302 z303 z304 z305 z306 z307 z308 z309 z310 z311 z312 z313 z314 z315 z316 z317 z318 z319 z320 z321 z322 z323 z324 z325 z326 z327 z328 z329 z330 z331 z332 z333 z334 z335 z336 z337 z338 z339 z340 z341 z342 z343 : Value} :
    Code.wp Try.prog (((Try.f5).body.bind (regAt 41)).getD .skip) (Exit.then K (bodyPost Try.prog Try.f5 fun e w' => e = .returned (.bool true) ∧ Below w.heap.size w w')) ⟨#[z0, .slice am ms.length cm, z2, z3, z4, .int .i64 n, .pointer (some ⟨gw, 0, none⟩), .slice (some ⟨gm, 0, none⟩) n cg, z8, z9, z10, z11, z12, z13, z14, z15, z16, z17, z18, z19, z20, z21, z22, z23, z24, z25, z26, z27, z28, z29, z30, z31, z32, z33, z34, z35, z36, z37, z38, z39, z40, z41, z42, z43, z44, z45, z46, z47, z48, z49, z50, z51, z52, z53, z54, z55, z56, z57, z58, z59, z60, z61, z62, z63, z64, z65, z66, z67, z68, z69, z70, z71, z72, z73, z74, z75, z76, z77, z78, z79, z80, z81, z82, z83, z84, z85, z86, z87, z88, z89, z90, z91, z92, z93, z94, z95, z96, z97, z98, z99, z100, z101, z102, z103, z104, z105, z106, z107, z108, z109, z110, z111, z112, z113, z114, z115, z116, z117, z118, z119, z120, z121, z122, z123, z124, z125, z126, z127, z128, z129, z130, z131, z132, z133, z134, z135, z136, z137, z138, z139, z140, z141, z142, z143, z144, z145, z146, z147, z148, z149, z150, z151, z152, z153, z154, z155, z156, z157, z158, z159, z160, z161, z162, z163, z164, z165, z166, z167, z168, z169, z170, z171, z172, z173, z174, z175, z176, z177, z178, z179, z180, z181, z182, z183, z184, z185, z186, z187, z188, z189, z190, z191, z192, z193, z194, z195, z196, z197, z198, z199, z200, z201, z202, z203, z204, z205, z206, z207, z208, z209, z210, z211, z212, z213, z214, z215, z216, z217, z218, z219, z220, z221, z222, z223, z224, z225, z226, z227, z228, z229, z230, z231, z232, z233, z234, z235, z236, z237, z238, z239, z240, z241, z242, z243, z244, z245, z246, z247, z248, z249, z250, z251, z252, z253, z254, z255, z256, z257, z258, z259, z260, z261, z262, z263, z264, z265, z266, z267, z268, z269, z270, z271, z272, z273, z274, z275, z276, z277, z278, z279, z280, z281, z282, z283, z284, z285, z286, z287, z288, z289, z290, z291, z292, z293, z294, z295, z296, z297, z298, z299, z300, z301, z302, z303, z304, z305, z306, z307, z308, z309, z310, z311, z312, z313, z314, z315, z316, z317, z318, z319, z320, z321, z322, z323, z324, z325, z326, z327, z328, z329, z330, z331, z332, z333, z334, z335, z336, z337, z338, z339, z340, z341, z342, z343], []⟩ v0 := by
  obtain ⟨cr, hcr⟩ : ∃ c, c = (((Try.f5).body.bind (restAt 41)).getD .skip) := ⟨_, rfl⟩
  rw [← hcr] at hK
  conv at hcr => rhs; whnf
  subst hcr
  conv => arg 2; whnf

  obtain ⟨n1, n4⟩ := hn
  have n1i : (1 : Int) ≤ (n : Int) := by omega
  have n4i : (n : Int) ≤ 4 := by omega
  have HWi := Lib.hid (wish_of HV.out)
  have HcM : ∀ t, t < n → v0.cell? ⟨gm, 0 + t, none⟩ = some (.int .i64 (m.getD t 0)) := fun t ht => by
    rw [Nat.zero_add]; exact cells_at Rm0.out (by rw [hml.out]; exact ht)
  have hgm : gm < v0.heap.size := by
    obtain ⟨b, o, e, hlt, _⟩ := Rm0.out.at (k := 0) (by rw [hml.out]; exact n1)
    injection e with e; injection e with e1 e2 e3
    omega
  obtain ⟨i, hi, hi1⟩ : ∃ i : Nat, atF ms 2 (n : Int) = i ∧ i < n := by
    have := atF_bd (xs := ms) (i := 2) (n := (n : Int)) (by omega)
    exact ⟨(atF ms 2 (n : Int)).toNat, by omega, by omega⟩
  have LA := fun v hb => LM.out v hb 2 (n : Int) (by omega) (by omega)
  rw [hi] at LA
  have LA := Lib.hid LA
  have i0 : (0 : Int) ≤ (i : Int) := Int.natCast_nonneg _
  have i1 : (i : Int) < (n : Int) := by omega
  clear hi LM
  go_wp2_with (at_builtin; refine append_manyX _ rfl _ _ 31 rfl v0.heap.size 2 (.int .i64 0) 8 Try.underlying31 info_i64p rfl _ 0 [] rfl (own_emptyC v0 2) (fun e => by cases e) gm 0 n cg m rfl hml.out ?_ (by omega) (by omega) (by simp) ?_)
  · intro j hj
    rw [(bl1 v0 _).cell (p := ⟨gm, 0 + j, none⟩) hgm, HcM j hj]
  intro g1 c1 w1 o1 gr1
  have B1 := below_append (bl1 v0 (.cells #[] 2)) (own_emptyC v0 2) gr1 (Nat.le_refl _) (by simp)
  try simp only [Nat.zero_add, List.nil_append] at o1
  have s1 := B1.size
  obtain ⟨hc1, hc2⟩ := own_cellM o1 hi1
  obtain ⟨oS, gS⟩ := own_setM o1 hi1 (-1)
  have B2 := below_append B1 o1 gS (Nat.le_refl _) s1
  have Hll : Hid ((m.set i (-1)).length = n) := by rw [Hid, List.length_set, hml.out]
  have h3 : n ≤ c1 := by
    obtain ⟨a3, c3, e3, h3, _⟩ := own_shape oS
    injection e3 with _ _ e3
    omega
  have R2 := Lib.hid (rd_of_own oS (Nat.le_refl _))
  have HB1 := Lib.hid B1
  have HB2 := Lib.hid B2
  obtain ⟨m2, hm2⟩ : ∃ l, l = m.set i (-1) := ⟨_, rfl⟩
  rw [← hm2] at R2 Hll
  clear HcM o1 gr1 B1 B2 oS gS hm2
  try simp only [Nat.zero_add]
  go_wp2_with fail
  refine (LA.out w1 (below_then HW0.out HB1.out)).mono ?_
  rintro e w2 ⟨rfl, rfl⟩
  go_upto_region 43 with fail
  try simp only [Nat.zero_add]
  obtain ⟨w2, hw2⟩ : ∃ W, W = w1.setCell ⟨g1, i, none⟩ (.int .i64 (-1)) := ⟨_, rfl⟩
  rw [← hw2]
  rw [← hw2] at R2 HB2
  have HX2 := Lib.hid (HBX0.out.to HB2.out)
  have HW2 := Lib.hid (below_then HW0.out HB2.out)
  clear hw2 hc1 LA HB1 HB2 HBX0 HW0 s1 Rm0
  have L1 := blockOf_any w2 (some ⟨gL, 0, none⟩) cL xL (some ⟨gR, 0, none⟩) cR xR (some ⟨g1, 0, none⟩) c1 m2 HX2.out.W (by rw [HL.out]; omega) HGL.out (by rw [HR.out]; omega) HGR.out R2.out (by rw [Hll.out]; omega)
  have L2 := fun (v : World) (hb : Below w2.heap.size w2 v) => blockOfR_any v (some ⟨gL, 0, none⟩) cL xL (some ⟨gR, 0, none⟩) cR xR (some ⟨g1, 0, none⟩) c1 m2 (Lib.hid (HX2.out.to hb)).out.W (by rw [HL.out]; omega) HGL.out (by rw [HR.out]; omega) HGR.out (R2.out.to hb) (by rw [Hll.out]; omega) (by rw [Hll.out]; exact h3)
  rw [HL.out, HR.out, Hll.out] at L1
  simp only [HL.out, HR.out, Hll.out] at L2
  generalize blockOfF ⟨xL, xR⟩ m2 = fr at *
  generalize hA : bA fr = A at *
  generalize hZ : bZ fr = Z at *
  have hAA : (A == A) = true := by simp
  have hZZ : (Z == Z) = true := by simp
  have L1 := Lib.hid L1
  have L2 := Lib.hid L2
  clear hA hZ
  obtain ⟨q0, q1⟩ := HX2.out.cells
  go_wp2_with fail
  refine L1.out.mono ?_
  rintro e v2 ⟨rfl, hb2⟩
  have L3 := Lib.hid (L2.out v2 hb2)
  have HB2 := Lib.hid (HX2.out.to hb2)
  have HW3 := Lib.hid (below_then HW2.out hb2)
  clear L2 q0 q1 hb2
  obtain ⟨q0, q1⟩ := HB2.out.cells
  go_wp2_with fail
  refine L3.out.mono ?_
  rintro e v3 ⟨rfl, hb3⟩
  have HW4 := Lib.hid (below_then HW3.out hb3)
  clear hb3 L3 q0 q1
  cases hfs : fr.isSome with
  | true =>
    go_wp2_with fail
    go_ret
    exact ⟨rfl, HW4.out⟩
  | false =>
    go_wp2_with fail
    go_ret
    exact ⟨rfl, HW4.out⟩
end Go.Proofs.Ytchfibmndcfpiaa
namespace Go.Proofs.Ytchfibmndcfpiaa
set_option linter.unusedVariables false
set_option linter.unusedSimpArgs false
open Go.RowKit

set_option maxRecDepth 100000 in
set_option maxHeartbeats 32000000 in
theorem matL3 (w v0 : World) (n gw gL cL gR cR : Nat) (xL xR : List (List Int)) (am : Option Addr) (cm : Nat) (ms : List Int) (gm cg : Nat) (m : List Int) (aA aB : Option Addr) (cA cB : Nat) (al : List (List Int)) (HBX0 : Hid (WBl v0 gw n gL cL xL gR cR xR)) (HW0 : Hid (Below w.heap.size w v0)) (hn : 1 ≤ n ∧ n ≤ 4) (HL : Hid (xL.length = n)) (HR : Hid (xR.length = n)) (HV : Hid (wishB ⟨xL, xR⟩ = true)) (HGL : Hid (∀ y ∈ xL, y.length ≤ 1048576)) (HGR : Hid (∀ y ∈ xR, y.length ≤ 1048576)) (LM : Hid (∀ (v : World), Below w.heap.size w v → ∀ (i n : Int), 0 ≤ i → i ≤ 1000000 → Calls Try.prog 7 #[.slice am ms.length cm, .int .i64 i, .int .i64 n] v fun e w' => e = .returned (.int .i64 (atF ms i n)) ∧ v = w')) (hml : Hid (m.length = n)) (Rm0 : Hid (Rd v0 v0.heap.size (some ⟨gm, 0, none⟩) (ints m))) (RA0 : Hid (RdII v0 v0.heap.size aA al)) (RB0 : Hid (RdII v0 v0.heap.size aB al)) (HAl : Hid (al.length ≤ 1048576 ∧ ∀ y ∈ al, y.length = n)) (HMem : Hid (m ∈ al)) (HDe : Hid (∀ y ∈ al, ∀ a : Nat, a < n → m.getD a 0 ≠ y.getD a 0 → ∃ k : Nat, k < (row xL a).length ∧ (row xL a).getD k 0 = m.getD a 0 ∧ ∀ j, j < k → (row xL a).getD j 0 ≠ m.getD a 0 ∧ (row xL a).getD j 0 ≠ y.getD a 0)) (K : Act → World → Prop) (hK : ∀ (a : Act) (v : World), Code.wp Try.prog (((Try.f5).body.bind (restAt 16)).getD .skip) (bodyPost Try.prog Try.f5 fun e w' => e = .returned (.bool true) ∧ Below w.heap.size w w') a v → K a v)
    {z0 z2 z3 z4 z8 z9 z10 z11 z13 z15 z16 z17 z18 z19 z20 z21 z22 z23 z24 z25 z26 z27 z28 z29 z30 z31 z32 z33 z34 z35 z36 z37 z38 z39 z40 z41 z42 z43 z44 z45 z46 z47 z48 z49 z50 z51 z52 z53 z54 z55 z56 z57 z58 z59 z60 z61 z62 z63 z64 z65 z66 z67 z68 z69 z70 z71 z72 z73 z74 z75 z76 z77 z78 z79 z80 z81 z82 z83 z84 z85 z86 z87 z88 z89 z90 z91 z92 z93 z94 z95 z96 z97 z98 z99 z100 z101 z102 z103 z104 z105 z106 z107 z108 z109 z110 z111 z112 z113 z114 z115 z116 z117 z118 z119 z120 z121 z122 z123 z124 z125 z126 z127 z128 z129 z130 z131 z132 z133 z134 z135 z136 z137 z138 z139 z140 z141 z142 z143 z144 z145 z146 z147 z148 z149 z150 z151 z152 z153 z154 z155 z156 z157 z158 z159 z160 z161 z162 z163 z164 z165 z166 z167 z168 z169 z170 z171 z172 z173 z174 z175 z176 z177 z178 z179 z180 z181 z182 z183 z184 z185 z186 z187 z188 z189 z190 z191 z192 z193 z194 z195 z196 z197 z198 z199 z200 z201 z202 z203 z204 z205 z206 z207 z208 z209 z210 z211 z212 z213 z214 z215 z216 z217 z218 z219 z220 z221 z222 z223 z224 z225 z226 z227 z228 z229 z230 z231 z232 z233 z234 z235 z236 z237 z238 z239 z240 z241 z242 z243 z244 z245 z246 z247 z248 z249 z250 z251 z252 z253 z254 z255 z256 z257 z258 z259 z260 z261 z262 z263 z264 z265 z266 z267 z268 z269 z270 z271 z272 z273 z274 z275 z276 z277 z278 z279 z280 z281 z282 z283 z284 z285 z286 z287 z288 z289 z290 z291 z292 z293 z294 z295 z296 z297 z298 z299 z300 z301 z302 z303 z304 z305 z306 z307 z308 z309 z310 z311 z312 z313 z314 z315 z316 z317 z318 z319 z320 z321 z322 z323 z324 z325 z326 z327 z328 z329 z330 z331 z332 z333 z334 z335 z336 z337 z338 z339 z340 z341 z342 z343 : Value} :
    Code.wp Try.prog (((Try.f5).body.bind (regAt 16)).getD .skip) (Exit.then K (bodyPost Try.prog Try.f5 fun e w' => e = .returned (.bool true) ∧ Below w.heap.size w w')) ⟨#[z0, .slice am ms.length cm, z2, z3, z4, .int .i64 n, .pointer (some ⟨gw, 0, none⟩), .slice (some ⟨gm, 0, none⟩) n cg, z8, z9, z10, z11, .slice aA al.length cA, z13, .slice aB al.length cB, z15, z16, z17, z18, z19, z20, z21, z22, z23, z24, z25, z26, z27, z28, z29, z30, z31, z32, z33, z34, z35, z36, z37, z38, z39, z40, z41, z42, z43, z44, z45, z46, z47, z48, z49, z50, z51, z52, z53, z54, z55, z56, z57, z58, z59, z60, z61, z62, z63, z64, z65, z66, z67, z68, z69, z70, z71, z72, z73, z74, z75, z76, z77, z78, z79, z80, z81, z82, z83, z84, z85, z86, z87, z88, z89, z90, z91, z92, z93, z94, z95, z96, z97, z98, z99, z100, z101, z102, z103, z104, z105, z106, z107, z108, z109, z110, z111, z112, z113, z114, z115, z116, z117, z118, z119, z120, z121, z122, z123, z124, z125, z126, z127, z128, z129, z130, z131, z132, z133, z134, z135, z136, z137, z138, z139, z140, z141, z142, z143, z144, z145, z146, z147, z148, z149, z150, z151, z152, z153, z154, z155, z156, z157, z158, z159, z160, z161, z162, z163, z164, z165, z166, z167, z168, z169, z170, z171, z172, z173, z174, z175, z176, z177, z178, z179, z180, z181, z182, z183, z184, z185, z186, z187, z188, z189, z190, z191, z192, z193, z194, z195, z196, z197, z198, z199, z200, z201, z202, z203, z204, z205, z206, z207, z208, z209, z210, z211, z212, z213, z214, z215, z216, z217, z218, z219, z220, z221, z222, z223, z224, z225, z226, z227, z228, z229, z230, z231, z232, z233, z234, z235, z236, z237, z238, z239, z240, z241, z242, z243, z244, z245, z246, z247, z248, z249, z250, z251, z252, z253, z254, z255, z256, z257, z258, z259, z260, z261, z262, z263, z264, z265, z266, z267, z268, z269, z270, z271, z272, z273, z274, z275, z276, z277, z278, z279, z280, z281, z282, z283, z284, z285, z286, z287, z288, z289, z290, z291, z292, z293, z294, z295, z296, z297, z298, z299, z300, z301, z302, z303, z304, z305, z306, z307, z308, z309, z310, z311, z312, z313, z314, z315, z316, z317, z318, z319, z320, z321, z322, z323, z324, z325, z326, z327, z328, z329, z330, z331, z332, z333, z334, z335, z336, z337, z338, z339, z340, z341, z342, z343], []⟩ v0 := by
  obtain ⟨cr, hcr⟩ : ∃ c, c = (((Try.f5).body.bind (restAt 16)).getD .skip) := ⟨_, rfl⟩
  rw [← hcr] at hK
  conv at hcr => rhs; whnf
  subst hcr
  conv => arg 2; whnf

  obtain ⟨n1, n4⟩ := hn
  have n1i : (1 : Int) ≤ (n : Int) := by omega
  have n4i : (n : Int) ≤ 4 := by omega
  have HWi := Lib.hid (wish_of HV.out)
  have hal := HAl.out.1
  have HcM : Hid (∀ t, t < n → v0.cell? ⟨gm, t, none⟩ = some (.int .i64 (m.getD t 0))) := fun t ht => cells_at Rm0.out (by rw [hml.out]; exact ht)
  have LB := Lib.hid (fun (a b : Option Addr) (c d : Nat) (ys zs : List Int) (ha : Rd v0 v0.heap.size a (ints ys)) (hb : Rd v0 v0.heap.size b (ints zs)) (ly : ys.length = n) (lz : zs.length = n) (q : Nat) => b10IntsD_any (v0.drewN q) a b n c d ys zs ha hb ly lz (by omega))
  obtain ⟨q0, q1⟩ := HBX0.out.cells
  have RL := Lib.hid HBX0.out.R.1
  go_wp2_with fail
  go_loopw [221, 28] (fun iv tv wr => ∃ (i j : Nat) (b : Bool), i ≤ al.length ∧ iv = .int .i64 i ∧ tv = .bool b ∧ wr = v0.drewN j ∧ Hid (b = decide (m ∈ al.take i))) (fun iv _ _ => al.length - (intOf iv).toNat)
  case atStart => exact ⟨0, 0, false, Nat.zero_le _, rfl, rfl, rfl, by simp [Hid]⟩
  case round =>
    obtain ⟨i, j, b, hi, rfl, rfl, rfl, HB⟩ := hrel
    have i0 : (0 : Int) ≤ (i : Int) := Int.natCast_nonneg _
    by_cases hlt : i < al.length
    · have i1 : (i : Int) < (al.length : Int) := by omega
      obtain ⟨bA, oA, ys, a1, c1, eA, hbA, hcA, _, hrA, hyA⟩ := RA0.out.get hlt
      obtain ⟨bB, oB, zs, a2, c2, eB, hbB, hcB, _, hrB, hyB⟩ := RB0.out.get hlt
      have hyz : ys = zs := by have := hyA.out.symm.trans hyB.out; injection this
      subst hyz eA eB
      have hymem : ys ∈ al := List.mem_of_getElem? hyA.out
      have hyl := HAl.out.2 ys hymem
      rw [hyl] at hcA hcB
      have LB1 := Lib.hid (LB.out a1 a2 c1 c2 ys ys hrA hrB hyl hyl)
      rw [decide_eq_true (rfl : ys = ys)] at LB1
      have LB2 := Lib.hid (LB.out a1 (some ⟨gm, 0, none⟩) c1 cg ys m hrA Rm0.out hyl hml.out)
      have HY := Lib.hid (HDe.out ys hymem)
      obtain ⟨bY, oY, hbY, hltY, hcy⟩ := hrA.at (k := 0) (by rw [hyl]; exact n1)
      subst hbY
      have HcY : Hid (∀ t, t < n → v0.cell? ⟨bY, oY + t, none⟩ = some (.int .i64 (ys.getD t 0))) := fun t ht => hcy t (by rw [hyl]; exact ht)
      have HB2 : Hid ((b || decide (ys = m)) = decide (m ∈ al.take (i + 1))) := by
        have e : al.take (i + 1) = al.take i ++ [ys] := by rw [List.take_add_one, hyA.out]; rfl
        rw [Hid, HB.out, e]
        simp only [List.mem_append, List.mem_singleton, Bool.decide_or]
        congr 1
        exact decide_eq_decide.2 eq_comm
      clear hrA hrB hyA hyB hcy hymem hyl HB
      go_wp2_with fail
      go_quiet ((go_at_call 14; exact qd2 (LB1.out _)))
      obtain ⟨d, hd⟩ : ∃ d, d = decide (ys = m) := ⟨_, rfl⟩
      rw [← hd] at LB2 HB2
      clear hd LB1
      cases b with
      | true =>
        rw [Bool.true_or] at HB2
        go_wp2_with fail
        go_loopw [245] (fun av wr => ∃ (a j2 : Nat), a ≤ n ∧ av = .int .i64 a ∧ wr = v0.drewN j2) (fun av _ => n - (intOf av).toNat)
        case atStart => (try simp only [World.drewN_drewN]); exact ⟨0, _, Nat.zero_le _, rfl, rfl⟩
        case round =>
          obtain ⟨a, j2, ha, rfl, rfl⟩ := hrel
          have a0 : (0 : Int) ≤ (a : Int) := Int.natCast_nonneg _
          by_cases hla : a < n
          · have a1' : (a : Int) < (n : Int) := by omega
            have cm1 := HcM.out a hla
            have cy1 := HcY.out a hla
            have hHY := HY.out a hla
            have hal2 : a < xL.length := by rw [HL.out]; exact hla
            obtain ⟨gr, qr, cr, e1, e2, e3, e4⟩ := RL.out.2 a (row xL a) (by simp [row, List.getD, List.getElem?_eq_getElem hal2])
            have hrl : (row xL a).length ≤ 1048576 := HGL.out _ (row_mem hal2)
            rw [Nat.zero_add] at e1
            obtain ⟨rw_, hrw⟩ : ∃ r, r = row xL a := ⟨_, rfl⟩
            rw [← hrw] at hHY e1 e4 hrl
            have HE4 := Lib.hid e4
            have e2' := e2
            clear hrw e2 e2' e3 e4 hal2
            generalize m.getD a 0 = x at *
            generalize ys.getD a 0 = y at *
            by_cases hxy : x = y
            · subst hxy
              have hbe : (x == x) = true := by simp
              clear hHY
              go_wp2_with fail
              go_quiet (fail)
              go_wp2_with fail
              go_roundw
              case rel => (try simp only [World.drewN_drewN]); exact ⟨a + 1, _, by omega, by go_num, rfl⟩
              case measure => simp [intOf]; omega
            · have hbe : (x == y) = false := by simpa using hxy
              obtain ⟨k, hk, hk2, hk3⟩ := hHY hxy
              have HK3 := Lib.hid hk3
              clear hHY hk3 hxy
              go_wp2_with fail
              go_quiet (fail)
              go_wp2_with fail
              go_loopw [266, 31] (fun tv dv wr => ∃ (t j3 : Nat), t ≤ k ∧ tv = .int .i64 t ∧ dv = .bool false ∧ wr = v0.drewN j3) (fun tv _ _ => k + 1 - (intOf tv).toNat)
              case atStart => (try simp only [World.drewN_drewN]); exact ⟨0, _, Nat.zero_le _, rfl, by trivial, rfl⟩
              case round =>
                obtain ⟨t, j3, ht, rfl, rfl, rfl⟩ := hrel
                have t0 : (0 : Int) ≤ (t : Int) := Int.natCast_nonneg _
                have t1 : (t : Int) < (rw_.length : Int) := by omega
                have cr1 := HE4.out t (by omega)
                by_cases htk : t = k
                · subst htk
                  rw [hk2] at cr1
                  have hb2 : (x == x) = true := by simp
                  clear HE4 HK3
                  go_wp2_with fail
                  go_quiet (fail)
                  go_wp2_with fail
                  go_roundw
                  case rel => (try simp only [World.drewN_drewN]); exact ⟨a + 1, _, by omega, by go_num, rfl⟩
                  case measure => simp [intOf]; omega
                · obtain ⟨h5, h6⟩ := HK3.out t (by omega)
                  generalize rw_.getD t 0 = z at *
                  have hb2 : (z == x) = false := by simpa using h5
                  have hb3 : (z == y) = false := by simpa using h6
                  clear h5 h6
                  go_wp2_with fail
                  go_quiet (fail)
                  go_wp2_with fail
                  go_quiet (fail)
                  go_wp2_with fail
                  go_roundw
                  case rel => (try simp only [World.drewN_drewN]); exact ⟨t + 1, _, by omega, by go_num, by trivial, rfl⟩
                  case measure => simp [intOf]; omega
          · obtain rfl : a = n := by omega
            go_wp2_with fail
            go_roundw
            case rel => exact ⟨i + 1, j2, _, by omega, by go_num, rfl, rfl, HB2⟩
            case measure => simp [intOf]; omega
      | false =>
        rw [Bool.false_or] at HB2
        go_wp2_with fail
        refine (LB2.out _).mono ?_
        rintro e w9 ⟨rfl, q9, rfl⟩
        go_wp2_with fail
        go_loopw [245] (fun av wr => ∃ (a j2 : Nat), a ≤ n ∧ av = .int .i64 a ∧ wr = v0.drewN j2) (fun av _ => n - (intOf av).toNat)
        case atStart => (try simp only [World.drewN_drewN]); exact ⟨0, _, Nat.zero_le _, rfl, rfl⟩
        case round =>
          obtain ⟨a, j2, ha, rfl, rfl⟩ := hrel
          have a0 : (0 : Int) ≤ (a : Int) := Int.natCast_nonneg _
          by_cases hla : a < n
          · have a1' : (a : Int) < (n : Int) := by omega
            have cm1 := HcM.out a hla
            have cy1 := HcY.out a hla
            have hHY := HY.out a hla
            have hal2 : a < xL.length := by rw [HL.out]; exact hla
            obtain ⟨gr, qr, cr, e1, e2, e3, e4⟩ := RL.out.2 a (row xL a) (by simp [row, List.getD, List.getElem?_eq_getElem hal2])
            have hrl : (row xL a).length ≤ 1048576 := HGL.out _ (row_mem hal2)
            rw [Nat.zero_add] at e1
            obtain ⟨rw_, hrw⟩ : ∃ r, r = row xL a := ⟨_, rfl⟩
            rw [← hrw] at hHY e1 e4 hrl
            have HE4 := Lib.hid e4
            have e2' := e2
            clear hrw e2 e2' e3 e4 hal2
            generalize m.getD a 0 = x at *
            generalize ys.getD a 0 = y at *
            by_cases hxy : x = y
            · subst hxy
              have hbe : (x == x) = true := by simp
              clear hHY
              go_wp2_with fail
              go_quiet (fail)
              go_wp2_with fail
              go_roundw
              case rel => (try simp only [World.drewN_drewN]); exact ⟨a + 1, _, by omega, by go_num, rfl⟩
              case measure => simp [intOf]; omega
            · have hbe : (x == y) = false := by simpa using hxy
              obtain ⟨k, hk, hk2, hk3⟩ := hHY hxy
              have HK3 := Lib.hid hk3
              clear hHY hk3 hxy
              go_wp2_with fail
              go_quiet (fail)
              go_wp2_with fail
              go_loopw [266, 31] (fun tv dv wr => ∃ (t j3 : Nat), t ≤ k ∧ tv = .int .i64 t ∧ dv = .bool false ∧ wr = v0.drewN j3) (fun tv _ _ => k + 1 - (intOf tv).toNat)
              case atStart => (try simp only [World.drewN_drewN]); exact ⟨0, _, Nat.zero_le _, rfl, by trivial, rfl⟩
              case round =>
                obtain ⟨t, j3, ht, rfl, rfl, rfl⟩ := hrel
                have t0 : (0 : Int) ≤ (t : Int) := Int.natCast_nonneg _
                have t1 : (t : Int) < (rw_.length : Int) := by omega
                have cr1 := HE4.out t (by omega)
                by_cases htk : t = k
                · subst htk
                  rw [hk2] at cr1
                  have hb2 : (x == x) = true := by simp
                  clear HE4 HK3
                  go_wp2_with fail
                  go_quiet (fail)
                  go_wp2_with fail
                  go_roundw
                  case rel => (try simp only [World.drewN_drewN]); exact ⟨a + 1, _, by omega, by go_num, rfl⟩
                  case measure => simp [intOf]; omega
                · obtain ⟨h5, h6⟩ := HK3.out t (by omega)
                  generalize rw_.getD t 0 = z at *
                  have hb2 : (z == x) = false := by simpa using h5
                  have hb3 : (z == y) = false := by simpa using h6
                  clear h5 h6
                  go_wp2_with fail
                  go_quiet (fail)
                  go_wp2_with fail
                  go_quiet (fail)
                  go_wp2_with fail
                  go_roundw
                  case rel => (try simp only [World.drewN_drewN]); exact ⟨t + 1, _, by omega, by go_num, by trivial, rfl⟩
                  case measure => simp [intOf]; omega
          · obtain rfl : a = n := by omega
            go_wp2_with fail
            go_roundw
            case rel => exact ⟨i + 1, j2, _, by omega, by go_num, rfl, rfl, HB2⟩
            case measure => simp [intOf]; omega
    · obtain rfl : i = al.length := by omega
      have hbT : b = true := by rw [HB.out, List.take_length]; exact decide_eq_true HMem.out
      subst hbT
      have hbj := drewN_below v0 j
      obtain ⟨w4, hw4⟩ : ∃ W, W = v0.drewN j := ⟨_, rfl⟩
      rw [← hw4] at hbj ⊢
      have HB4 := Lib.hid (HBX0.out.to hbj)
      have HW4 := Lib.hid (below_then HW0.out hbj)
      have Rm4 := Lib.hid (Rm0.out.to hbj)
      clear hbj hw4 hlt hi
      go_upto_region 41 with fail
      exact matL4 w w4 n gw gL cL gR cR xL xR am cm ms gm cg m HB4 HW4 ⟨n1, n4⟩ HL HR HV HGL HGR LM hml Rm4 _ (by assumption)
end Go.Proofs.Ytchfibmndcfpiaa
namespace Go.Proofs.Ytchfibmndcfpiaa
set_option linter.unusedVariables false
set_option linter.unusedSimpArgs false
open Go.RowKit

set_option maxRecDepth 10000 in
set_option maxHeartbeats 2000000 in
theorem cloneS_any (w : World) (b o c : Nat) (xs : List Int) (hb : b < w.heap.size) (hcell : ∀ j, j < xs.length → w.cell? ⟨b, o + j, none⟩ = some (.int .i64 (xs.getD j 0))) (hl : xs.length ≤ 1048576) :
    Calls Try.prog 54 #[.slice (some ⟨b, o, none⟩) xs.length c] w fun e w' => ∃ g' c', e = .returned (.slice (some ⟨g', 0, none⟩) xs.length c') ∧ OwnI 2 w' w.heap.size w'.heap.size (some ⟨g', 0, none⟩) c' xs ∧ Below w.heap.size w w' := by
  have hen := fun (w : World) (a : Option Addr) (n c : Nat) => Lib.run_eql_slice_nil (P := Try.prog) w 31 2 a n c 0 0 Try.underlying31
  go_enter Try.func54, Try.ntmps54
  go_wp2_with (at_builtin; refine append_manyX _ rfl _ _ 31 rfl w.heap.size 2 (.int .i64 0) 8 Try.underlying31 info_i64p rfl _ 0 [] rfl (own_emptyC w 2) (fun e => by cases e) b o xs.length c xs rfl rfl ?_ (by omega) (by omega) (by simp) ?_)
  · intro j hj
    rw [(bl1 w _).cell (p := ⟨b, o + j, none⟩) hb, hcell j hj]
  intro g1 c1 w1 o1 gr1
  have B1 := below_append (bl1 w (.cells #[] 2)) (own_emptyC w 2) gr1 (Nat.le_refl _) (by simp)
  try simp only [Nat.zero_add, List.nil_append] at o1
  have HR : Hid (OwnI 2 w1 w.heap.size w1.heap.size (some ⟨g1, 0, none⟩) c1 xs) := OwnI.of_own o1
  clear o1 gr1 hcell
  go_wp2_with fail
  go_ret
  exact ⟨_, _, by simp, HR.out, B1⟩
set_option maxRecDepth 10000 in
set_option maxHeartbeats 8000000 in
theorem copyLists_any (w : World) (b o c : Nat) (yss : List (List Int)) (h : RdL w w.heap.size b o yss) (h1 : 1 ≤ yss.length) (h8 : yss.length ≤ 8) (hin : ∀ y ∈ yss, y.length ≤ 1048576) :
    Calls Try.prog 73 #[.slice (some ⟨b, o, none⟩) yss.length c] w (OwnsL w yss) := by
  have Hh := Lib.hid h
  have Hin := Lib.hid hin
  have hbb := h.1
  clear h hin
  go_enter Try.func73, Try.ntmps73
  go_wp2_with fail
  go_loopw [9, 3] (fun iv ov wr => ∃ (k : Nat) (a : Option Addr) (cc : Nat) (vs : List Value), k ≤ yss.length ∧ iv = .int .i64 k ∧ ov = .slice a k cc ∧ Hid (OwnRows 2 31 wr w.heap.size wr.heap.size (.slice a k cc) vs (yss.take k)) ∧ Hid (Below w.heap.size w wr)) (fun iv _ _ => yss.length - (intOf iv).toNat)
  case atStart => exact ⟨0, some ⟨w.heap.size, 0, none⟩, 0, [], Nat.zero_le _, rfl, rfl, by rw [Hid, List.take_zero]; simpa using OwnRows.start (own_empty w 31), bl1 w _⟩
  case round =>
    obtain ⟨k, a, cc, vs, hk, rfl, rfl, hO, hw⟩ := hrel
    have k0 : (0 : Int) ≤ (k : Int) := Int.natCast_nonneg _
    by_cases hlt : k < yss.length
    · have k1 : (k : Int) < (yss.length : Int) := by omega
      obtain ⟨ys, hys⟩ : ∃ ys, yss[k]? = some ys := ⟨_, List.getElem?_eq_getElem hlt⟩
      obtain ⟨g, q, c', e1, e2, e3, e4⟩ := (Hh.out.to hw.out).2 k ys hys
      have hyl := Hin.out ys (List.mem_of_getElem? hys)
      have hws := hw.out.size
      have LC := Lib.hid (cloneS_any wr g q c' ys e3 e4 hyl)
      have Hys := Lib.hid hys
      have HTl : Hid ((yss.take k).length = k) := by rw [Hid, List.length_take]; omega
      clear e4 hys
      go_wp2_with fail
      refine LC.out.mono ?_
      rintro e w7 ⟨g7, c7, rfl, hI7, B7⟩
      have HI7 := Lib.hid hI7
      have s7 := B7.size
      have HB7 := Lib.hid (below_then hw.out B7)
      have HO7 := Lib.hid (hO.out.keep B7)
      clear hI7 B7 e1 hO hw LC
      go_wp2_with (at_builtin; refine wpList_append_blk _ rfl _ _ 25 rfl w.heap.size 31 (.slice none 0 0) 24 Try.underlying25 info_intsY rfl _ k vs rfl (by have := HO7.out.out; rw [HTl.out] at this; exact this) (.slice (some ⟨g7, 0, none⟩) ys.length c7) rfl rfl (by omega) (by omega) (by omega) ?_)
      intro v9 w9 o9 gr9 n9
      obtain ⟨a9, c9, e9, _, _⟩ := own_shape o9
      subst e9
      have HT2 : yss.take (k + 1) = yss.take k ++ [ys] := by rw [List.take_add_one, Hys.out]; rfl
      have HR9 : Hid (OwnRows 2 31 w9 w.heap.size w9.heap.size (.slice a9 (k + 1) c9) (vs ++ [.slice (some ⟨g7, 0, none⟩) ys.length c7]) (yss.take (k + 1))) := by
        rw [HT2]
        exact HO7.out.snocX (u' := .slice a9 (k + 1) c9) hws (Nat.le_refl _) HI7.out (by rw [HTl.out]; exact o9) gr9 n9
      have HB9 := Lib.hid (below_append HB7.out (by have := HO7.out.out; rw [HTl.out] at this; exact this) gr9 (Nat.le_refl _) (by omega))
      clear o9 gr9 n9 HT2 HO7 HB7 HI7
      go_wp2_with fail
      go_roundw
      case rel => exact ⟨k + 1, a9, c9, _, by omega, by go_num, rfl, HR9, HB9⟩
      case measure => simp [intOf]; omega
    · obtain rfl : k = yss.length := by omega
      rw [List.take_length] at hO
      obtain ⟨g, tl, rfl, -⟩ := own_open hO.out.out h1
      clear hlt hk
      go_wp2_with fail
      go_ret
      exact ⟨g, cc, vs, rfl, hO.out, hw.out⟩
end Go.Proofs.Ytchfibmndcfpiaa
namespace Go.Proofs.Ytchfibmndcfpiaa
set_option linter.unusedVariables false
set_option linter.unusedSimpArgs false
open Go.RowKit

set_option maxRecDepth 10000 in
set_option maxHeartbeats 8000000 in
theorem turnWishes_any (w : World) (b0 o0 c0 : Nat) (x0 : List (List Int)) (b1 o1 c1 : Nat) (x1 : List (List Int)) (h0 : RdL w w.heap.size b0 o0 x0) (h1 : RdL w w.heap.size b1 o1 x1) (hin0 : ∀ y ∈ x0, y.length ≤ 1048576) (hin1 : ∀ y ∈ x1, y.length ≤ 1048576) (hvb : wishB ⟨x0, x1⟩ = true) :
    Calls Try.prog 30 #[.agg #[.slice (some ⟨b0, o0, none⟩) x0.length c0, .slice (some ⟨b1, o1, none⟩) x1.length c1]] w (TurnsR w x0 x1) := by
  have hv := wish_of hvb
  have n1 : 1 ≤ x0.length := hv.n1
  have n8 : x0.length ≤ 8 := hv.n8
  have hl1 : x1.length = x0.length := hv.len
  obtain ⟨W0, hW0⟩ : ∃ W, W = (w.alloc (.cells #[.slice (some ⟨b0, o0, none⟩) x0.length c0, .slice (some ⟨b1, o1, none⟩) x1.length c1] 27)).alloc (.cells #[.slice none 0 0, .slice none 0 0] 27) := ⟨_, rfl⟩
  have B0 : Below w.heap.size w W0 := by rw [hW0]; exact bl2 w _ _
  have KB : Blk W0 w.heap.size [.slice (some ⟨b0, o0, none⟩) x0.length c0, .slice (some ⟨b1, o1, none⟩) x1.length c1] 27 := by rw [hW0]; exact (Blk.new w _ _).alloc _
  have KR : Blk W0 (w.heap.size + 1) [.slice none 0 0, .slice none 0 0] 27 := by
    have e1 : (w.alloc (.cells #[.slice (some ⟨b0, o0, none⟩) x0.length c0, .slice (some ⟨b1, o1, none⟩) x1.length c1] 27)).heap.size = w.heap.size + 1 := World.size_alloc _ _
    rw [hW0, ← e1]; exact Blk.new _ _ _
  have LV := validWishes_any W0 (some ⟨b0, o0, none⟩) c0 x0 (some ⟨b1, o1, none⟩) c1 x1 ⟨(h0.to B0).rdII, (h1.to B0).rdII⟩ (by omega) hin0 (by omega) hin1
  rw [hvb] at LV
  have LV := Lib.hid LV
  have LL := Lib.hid (fun (v : World) (hb : Below w.heap.size w v) => copyLists_any v b0 o0 c0 x0 (h0.to hb) n1 n8 hin0)
  have LR := Lib.hid (fun (v : World) (hb : Below w.heap.size w v) => copyLists_any v b1 o1 c1 x1 (h1.to hb) (by omega) (by omega) hin1)
  have HB0 := Lib.hid B0
  have HKB := Lib.hid KB
  have HKR := Lib.hid KR
  have HW0 := Lib.hid hW0
  have Hl1 := Lib.hid hl1
  clear h0 h1 hin0 hin1 hv hvb B0 KB KR hW0 hl1
  go_enter Try.func30, Try.ntmps30
  go_wp2_with fail
  rw [← HW0.out]
  refine LV.out.mono ?_
  rintro e v1 ⟨rfl, hbv⟩
  have HB1 := Lib.hid (below_then HB0.out hbv)
  have KB1 := Lib.hid (HKB.out.same hbv)
  have KR1 := Lib.hid (HKR.out.same hbv)
  clear hbv HB0 HKB HKR LV HW0
  have EC : Hid (∀ v, Below v1.heap.size v1 v → v.cell? ⟨w.heap.size, 0, none⟩ = some (.slice (some ⟨b0, o0, none⟩) x0.length c0) ∧ v.cell? ⟨w.heap.size, 1, none⟩ = some (.slice (some ⟨b1, o1, none⟩) x1.length c1)) := fun v hb => ⟨(KB1.out.same hb).cell 0, (KB1.out.same hb).cell 1⟩
  have EE := Lib.hid (EC.out v1 (Below.refl _ _))
  have EB0 : Hid (Below v1.heap.size v1 v1.drew) := below_drew' (Below.refl _ _)
  have EW0 : Hid (Below w.heap.size w v1.drew) := below_then HB1.out EB0.out
  have hsv : w.heap.size + 2 ≤ v1.heap.size := KR1.out.lt
  have hsd : w.heap.size + 2 ≤ v1.drew.heap.size := hsv
  have HOth : Hid (∀ v, Below v1.heap.size v1 v → ∀ (u z : Value), ((v.setCell ⟨w.heap.size + 1, 0, none⟩ u).setCell ⟨w.heap.size + 1, 1, none⟩ z).cell? ⟨w.heap.size, 0, none⟩ = some (.slice (some ⟨b0, o0, none⟩) x0.length c0) ∧ ((v.setCell ⟨w.heap.size + 1, 0, none⟩ u).setCell ⟨w.heap.size + 1, 1, none⟩ z).cell? ⟨w.heap.size, 1, none⟩ = some (.slice (some ⟨b1, o1, none⟩) x1.length c1)) := fun v hb u z => by
    have K := (((KB1.out.same hb).oth (g := w.heap.size + 1) (by omega) 0 u).oth (g := w.heap.size + 1) (by omega) 1 z)
    exact ⟨K.cell 0, K.cell 1⟩
  obtain ⟨q0, q1⟩ := EE.out
  go_wp2_with fail
  go_region_held3 (fun w' => w'.cell? ⟨w.heap.size, 0, none⟩ = some (.slice (some ⟨b0, o0, none⟩) x0.length c0) ∧ w'.cell? ⟨w.heap.size, 1, none⟩ = some (.slice (some ⟨b1, o1, none⟩) x1.length c1))
    (first | exact EE.out | exact HSt.out _ _ | exact HT.out | exact HQ.out)
    (first | (go_at_call_of 73 b1; refine (LR.out _ EW0.out).mono ?_; rintro e wq ⟨gR, cR, vR, rfl, oR, hbq⟩; have EBq := Lib.hid (below_then EB0.out hbq); have EWq := Lib.hid (below_then EW0.out hbq); have HQ := Lib.hid (EC.out wq EBq.out); have RR := Lib.hid oR) | (go_at_call_of 73 b0; refine (LL.out _ EW0.out).mono ?_; rintro e wq ⟨gL, cL, vL, rfl, oL, hbq⟩; have EBq := Lib.hid (below_then EB0.out hbq); have EWq := Lib.hid (below_then EW0.out hbq); have HQ := Lib.hid (EC.out wq EBq.out); have RL := Lib.hid oL) | (go_at_call_of 73 b1; refine (LR.out _ EWq.out).mono ?_; rintro e wt ⟨gR, cR, vR, rfl, oR, hbt⟩; have EBt := Lib.hid (below_then EBq.out hbt); have HT := Lib.hid (EC.out wt EBt.out); have sbq := EBq.out.size; have sbt := hbt.size; have FR : Hid (∃ lo hi vs, w.heap.size + 2 ≤ lo ∧ hi ≤ wt.heap.size ∧ OwnRows 2 31 wt lo hi (.slice (some ⟨gR, 0, none⟩) x1.length cR) vs x1) := ⟨_, _, _, Nat.le_trans hsv sbq, Nat.le_refl _, oR⟩; have FL : Hid (∃ lo hi vs, w.heap.size + 2 ≤ lo ∧ hi ≤ wt.heap.size ∧ OwnRows 2 31 wt lo hi (.slice (some ⟨gL, 0, none⟩) x0.length cL) vs x0) := ⟨_, _, _, hsd, sbt, RL.out.keep hbt⟩; have f0 := (KR1.out.same EBt.out).free 0; have f1 := (KR1.out.same EBt.out).free 1; have HSt : Hid (∀ (u z : Value), ((wt.setCell ⟨w.heap.size + 1, 0, none⟩ u).setCell ⟨w.heap.size + 1, 1, none⟩ z).cell? ⟨w.heap.size, 0, none⟩ = some (.slice (some ⟨b0, o0, none⟩) x0.length c0) ∧ ((wt.setCell ⟨w.heap.size + 1, 0, none⟩ u).setCell ⟨w.heap.size + 1, 1, none⟩ z).cell? ⟨w.heap.size, 1, none⟩ = some (.slice (some ⟨b1, o1, none⟩) x1.length c1)) := fun u z => HOth.out wt EBt.out u z; have y0 := (KR1.out.same EBt.out).cell 0; have y1 := (KR1.out.same EBt.out).cell 1) | (go_at_call_of 73 b0; refine (LL.out _ EWq.out).mono ?_; rintro e wt ⟨gL, cL, vL, rfl, oL, hbt⟩; have EBt := Lib.hid (below_then EBq.out hbt); have HT := Lib.hid (EC.out wt EBt.out); have sbq := EBq.out.size; have sbt := hbt.size; have FL : Hid (∃ lo hi vs, w.heap.size + 2 ≤ lo ∧ hi ≤ wt.heap.size ∧ OwnRows 2 31 wt lo hi (.slice (some ⟨gL, 0, none⟩) x0.length cL) vs x0) := ⟨_, _, _, Nat.le_trans hsv sbq, Nat.le_refl _, oL⟩; have FR : Hid (∃ lo hi vs, w.heap.size + 2 ≤ lo ∧ hi ≤ wt.heap.size ∧ OwnRows 2 31 wt lo hi (.slice (some ⟨gR, 0, none⟩) x1.length cR) vs x1) := ⟨_, _, _, hsd, sbt, RR.out.keep hbt⟩; have f0 := (KR1.out.same EBt.out).free 0; have f1 := (KR1.out.same EBt.out).free 1; have HSt : Hid (∀ (u z : Value), ((wt.setCell ⟨w.heap.size + 1, 0, none⟩ u).setCell ⟨w.heap.size + 1, 1, none⟩ z).cell? ⟨w.heap.size, 0, none⟩ = some (.slice (some ⟨b0, o0, none⟩) x0.length c0) ∧ ((wt.setCell ⟨w.heap.size + 1, 0, none⟩ u).setCell ⟨w.heap.size + 1, 1, none⟩ z).cell? ⟨w.heap.size, 1, none⟩ = some (.slice (some ⟨b1, o1, none⟩) x1.length c1)) := fun u z => HOth.out wt EBt.out u z; have y0 := (KR1.out.same EBt.out).cell 0; have y1 := (KR1.out.same EBt.out).cell 1))
  all_goals
    have KRt := KR1.out.same EBt.out
    have BWt := Lib.hid (below_then HB1.out EBt.out)
    have swt := EBt.out.size
    clear oR oL hbq hbt
    go_wp2_with fail
    obtain ⟨wz, hwz⟩ : ∃ Y, Y = (wt.setCell ⟨w.heap.size + 1, 0, none⟩ (.slice (some ⟨gR, 0, none⟩) x1.length cR)).setCell ⟨w.heap.size + 1, 1, none⟩ (.slice (some ⟨gL, 0, none⟩) x0.length cL) := ⟨_, rfl⟩
    have KZ : Blk wz (w.heap.size + 1) [.slice (some ⟨gR, 0, none⟩) x1.length cR, .slice (some ⟨gL, 0, none⟩) x0.length cL] 27 := by rw [hwz]; exact (KRt.set 0 (.slice (some ⟨gR, 0, none⟩) x1.length cR)).set 1 (.slice (some ⟨gL, 0, none⟩) x0.length cL)
    have TZ : Touch wt wz (w.heap.size + 1) (w.heap.size + 1 + 1) := by rw [hwz]; exact (touch_setX wt (w.heap.size + 1) 0 _).trans (touch_setX _ (w.heap.size + 1) 1 _)
    have sZ := TZ.size
    obtain ⟨loR, hiR, vsR, r1, r2, r3⟩ := FR.out
    obtain ⟨loL, hiL, vsL, l1, l2, l3⟩ := FL.out
    have R3 := ((r3.grown (touch_grown TZ) (.inl (by omega))).rdl (by rw [Hl1.out]; exact n1) rfl)
    have L3 := ((l3.grown (touch_grown TZ) (.inl (by omega))).rdl n1 rfl)
    have R4 : RdL wz wz.heap.size gR 0 x1 := R3.mono (by omega)
    have L4 : RdL wz wz.heap.size gL 0 x0 := L3.mono (by omega)
    have BZ := below_touch BWt.out TZ (by omega) (by have := BWt.out.size; omega)
    rw [← hwz]
    clear hwz q0 q1 y0 y1
    have y0 : wz.cell? ⟨w.heap.size + 1, 0, none⟩ = some (.slice (some ⟨gR, 0, none⟩) x1.length cR) := KZ.cell 0
    have y1 : wz.cell? ⟨w.heap.size + 1, 1, none⟩ = some (.slice (some ⟨gL, 0, none⟩) x0.length cL) := KZ.cell 1
    refine bodyPost_ret (v := .tuple #[.agg #[.slice (some ⟨gR, 0, none⟩) x1.length cR, .slice (some ⟨gL, 0, none⟩) x0.length cL], .bool true]) (by simp [results, Try.results30, go_sem, y0, y1]) rfl ?_
    exact ⟨gR, cR, gL, cL, rfl, R4, L4, BZ⟩
end Go.Proofs.Ytchfibmndcfpiaa
namespace Go.Proofs.Ytchfibmndcfpiaa
set_option linter.unusedVariables false
set_option linter.unusedSimpArgs false
open Go.RowKit

theorem enter_slEq (args : Array Value) (w : World) : (callFunc 53 args).run Try.prog w = .ok (.enter 53 args) w := by kernel_rfl
set_option maxHeartbeats 4000000 in
theorem equalFuncL_any (w : World) (a b : Option Addr) (c d : Nat) (yss : List (List Int)) (h : RdII w w.heap.size a yss) (g : RdII w w.heap.size b yss) (lx : yss.length ≤ 1048576) (hin : ∀ y ∈ yss, y.length ≤ 1048576) :
    Calls Try.prog 99 #[.slice a yss.length c, .slice b yss.length d, .func (.func 53) #[] #[]] w fun e w' => e = .returned (.bool true) ∧ ∃ n, w' = w.drewN n := by
  have hK := enter_slEq
  have hb1 : ((yss.length : Int) != (yss.length : Int)) = false := by simp
  have HX := Lib.hid h
  have HY := Lib.hid g
  have HI := Lib.hid hin
  clear h g hin
  go_enter Try.func99, Try.ntmps99
  go_wp2_with fail
  go_loopw [17] (fun i wr => ∃ k n : Nat, k ≤ yss.length ∧ i = .int .i64 k ∧ wr = w.drewN n) (fun i _ => yss.length - (intOf i).toNat)
  case atStart => exact ⟨0, 0, Nat.zero_le _, rfl, rfl⟩
  case round =>
    obtain ⟨k, n, hk, rfl, rfl⟩ := hrel
    by_cases hlt : k < yss.length
    · obtain ⟨b1, o1, ys, a1, c1, e1, _, hc1, _, hr1, hy1⟩ := HX.out.get hlt
      obtain ⟨b2, o2, zs, a2, c2, e2, _, hc2, _, hr2, hy2⟩ := HY.out.get hlt
      have hyz : ys = zs := by have := hy1.out.symm.trans hy2.out; injection this
      subst hyz e1 e2
      have hyl := HI.out ys (List.mem_of_getElem? hy1.out)
      have L := slEqual_any (w.drewN n) a1 a2 c1 c2 ys ys hr1 hr2 (by omega) (by omega)
      rw [decide_eq_true (rfl : ys = ys)] at L
      have L := Lib.hid L
      clear hr1 hr2 hy1 hy2
      go_wp2_with fail
      refine L.out.mono ?_
      rintro e w2 ⟨rfl, q, rfl⟩
      go_wp2_with fail
      go_roundw
      case rel => exact ⟨k + 1, n + q, by omega, by go_num, rfl⟩
      case measure => simp [intOf]; omega
    · obtain rfl : k = yss.length := by omega
      go_wp2_with fail
      go_ret
      exact ⟨rfl, n, rfl⟩
theorem sameLists_any (w : World) (a b : Option Addr) (c d : Nat) (yss : List (List Int)) (h : RdII w w.heap.size a yss) (g : RdII w w.heap.size b yss) (lx : yss.length ≤ 1048576) (hin : ∀ y ∈ yss, y.length ≤ 1048576) :
    Calls Try.prog 75 #[.slice a yss.length c, .slice b yss.length d] w fun e w' => e = .returned (.bool true) ∧ ∃ n, w' = w.drewN n := by
  have L := Lib.hid (equalFuncL_any w a b c d yss h g lx hin)
  clear h g hin
  go_enter Try.func75, Try.ntmps75
  go_wp2_with fail
  refine L.out.mono ?_
  rintro e w' ⟨rfl, n, rfl⟩
  go_wp2_with fail
  go_ret
  exact ⟨rfl, n, rfl⟩
set_option maxHeartbeats 4000000 in
theorem sameWishes_any (w : World) (a0 b0 : Option Addr) (c0 d0 : Nat) (x0 : List (List Int)) (a1 b1 : Option Addr) (c1 d1 : Nat) (x1 : List (List Int)) (h : RdWishes w w.heap.size a0 x0 a1 x1) (g : RdWishes w w.heap.size b0 x0 b1 x1) (l0 : x0.length ≤ 1048576) (hin0 : ∀ y ∈ x0, y.length ≤ 1048576) (l1 : x1.length ≤ 1048576) (hin1 : ∀ y ∈ x1, y.length ≤ 1048576) :
    Calls Try.prog 32 #[.agg #[.slice a0 x0.length c0, .slice a1 x1.length c1], .agg #[.slice b0 x0.length d0, .slice b1 x1.length d1]] w fun e w' => e = .returned (.bool true) ∧ Below w.heap.size w w' := by
  obtain ⟨W0, hW0⟩ : ∃ W, W = (w.alloc (.cells #[.slice a0 x0.length c0, .slice a1 x1.length c1] 27)).alloc (.cells #[.slice b0 x0.length d0, .slice b1 x1.length d1] 27) := ⟨_, rfl⟩
  have B0 : Below w.heap.size w W0 := by rw [hW0]; exact bl2 w _ _
  have L0 := Lib.hid (sameLists_any W0 a0 b0 c0 d0 x0 (RdII.to h.1 B0) (RdII.to g.1 B0) l0 hin0)
  have L1 := Lib.hid (fun n => sameLists_any (W0.drewN n) a1 b1 c1 d1 x1 (RdII.to h.2 (below_drewN B0 n)) (RdII.to g.2 (below_drewN B0 n)) l1 hin1)
  have HB0 := Lib.hid B0
  have HW0 := Lib.hid hW0
  have q0 : W0.cell? ⟨w.heap.size, 1, none⟩ = some (.slice a1 x1.length c1) := by rw [hW0]; exact ((Blk.new w [.slice a0 x0.length c0, .slice a1 x1.length c1] 27).alloc _).cell 1
  have q1 : W0.cell? ⟨w.heap.size + 1, 1, none⟩ = some (.slice b1 x1.length d1) := by
    have e1 : (w.alloc (.cells #[.slice a0 x0.length c0, .slice a1 x1.length c1] 27)).heap.size = w.heap.size + 1 := World.size_alloc _ _
    rw [hW0, ← e1]
    exact (Blk.new (w.alloc (.cells #[.slice a0 x0.length c0, .slice a1 x1.length c1] 27)) [.slice b0 x0.length d0, .slice b1 x1.length d1] 27).cell 1
  clear h g hin0 hin1 B0 hW0
  go_enter Try.func32, Try.ntmps32
  go_wp2_with fail
  rw [← HW0.out]
  refine L0.out.mono ?_
  rintro e w1 ⟨rfl, n, rfl⟩
  go_wp2_with fail
  refine (L1.out n).mono ?_
  rintro e w2 ⟨rfl, m, rfl⟩
  go_wp2_with fail
  go_ret
  exact ⟨rfl, below_drewN HB0.out (n + m)⟩
theorem areWorkersW_any (n : Int) (w : World) : Calls Try.prog 72 #[.int .i64 n] w fun e w' => e = .returned (.bool (inB n 1 8)) ∧ w = w' := by
  go_enter Try.func72, Try.ntmps72
  go_wp2_with (go_at_call 98; refine (within_any _ _ _ _).mono ?_; rintro e w' ⟨rfl, rfl⟩)
  go_ret
  exact ⟨rfl, rfl⟩
theorem info_intsW : (Try.prog.info? 31).map (fun i => (i.zero, i.size, i.bytes)) = some (some (.slice none 0 0), 1, 24) := by kernel_rfl
set_option maxRecDepth 10000 in
set_option maxHeartbeats 8000000 in
theorem wishesTwice_any (w : World) (g : Nat) (a0 : Option Addr) (c0 : Nat) (x0 : List (List Int)) (a1 : Option Addr) (c1 : Nat) (x1 : List (List Int)) (wk : Int) (hg : Blk w g [.slice a0 x0.length c0, .slice a1 x1.length c1, .slice a0 x0.length c0, .slice a1 x1.length c1] 27) (h : RdWishes w w.heap.size a0 x0 a1 x1) (hl0 : x0.length ≤ 1048576) (hin0 : ∀ y ∈ x0, y.length ≤ 1048576) (hl1 : x1.length ≤ 1048576) (hin1 : ∀ y ∈ x1, y.length ≤ 1048576) (hvb : wishB ⟨x0, x1⟩ = true) (hwk : inB wk 1 8 = true) :
    Calls Try.prog 29 #[.slice (some ⟨g, 0, none⟩) 2 2, .int .i64 wk] w fun e w' => ∃ a c, e = .returned (.tuple #[.slice a 2 c, .bool true]) ∧ RdII w' w'.heap.size a [askedF ⟨x0, x1⟩, askedF ⟨x0, x1⟩] ∧ Below w.heap.size w w' := by
  obtain ⟨m, hm⟩ : ∃ m, m = askedF ⟨x0, x1⟩ := ⟨_, rfl⟩
  have hml : m.length = x0.length := by
    have := ask_len (wish_of hvb) (ones_pos ⟨x0, x1⟩)
    rw [hm]; exact this
  have Hml := Lib.hid hml
  have LA := Lib.hid (fun (v : World) (hb : Below w.heap.size w v) => askMatch_any v a0 c0 x0 a1 c1 x1 (h.to hb) hl0 hin0 hl1 hin1 hvb)
  rw [← hm] at LA ⊢
  have LW : Hid (∀ v, Calls Try.prog 72 #[.int .i64 wk] v fun e w' => e = .returned (.bool true) ∧ v = w') := fun v => by
    have := areWorkersW_any wk v
    rwa [hwk] at this
  have HG := Lib.hid hg
  have HR : Hid (∀ k, k ≤ 2 → (List.replicate k m).length = k) := fun k _ => by simp
  clear h hin0 hin1 hvb hg hm hwk hml
  go_enter Try.func29, Try.ntmps29
  go_wp2_with fail
  refine (LW.out _).mono ?_
  rintro e w' ⟨rfl, rfl⟩
  go_wp2_with fail
  go_loopw [23, 6] (fun iv ov wr => ∃ (k : Nat) (a : Option Addr) (cc : Nat) (vs : List Value), k ≤ 2 ∧ iv = .int .i64 k ∧ ov = .slice a k cc ∧ Hid (OwnRows 2 31 wr w.heap.size wr.heap.size (.slice a k cc) vs (List.replicate k m)) ∧ Hid (Below w.heap.size w wr)) (fun iv _ _ => 2 - (intOf iv).toNat)
  case atStart => exact ⟨0, some ⟨w.heap.size, 0, none⟩, 0, [], Nat.zero_le _, rfl, rfl, by rw [Hid, List.replicate_zero]; simpa using OwnRows.start (own_empty w 31), bl1 w _⟩
  case round =>
    obtain ⟨k, a, cc, vs, hk, rfl, rfl, hO, hw⟩ := hrel
    have k0 : (0 : Int) ≤ (k : Int) := Int.natCast_nonneg _
    by_cases hlt : k < 2
    · have k1 : (k : Int) < 2 := by omega
      have KG := HG.out.same hw.out
      have y0 : wr.cell? ⟨g, k * 2, none⟩ = some (.slice a0 x0.length c0) := by
        have : k = 0 ∨ k = 1 := by omega
        rcases this with rfl | rfl
        · exact KG.cell 0
        · exact KG.cell 2
      have y1 : wr.cell? ⟨g, k * 2 + 1, none⟩ = some (.slice a1 x1.length c1) := by
        have : k = 0 ∨ k = 1 := by omega
        rcases this with rfl | rfl
        · exact KG.cell 1
        · exact KG.cell 3
      have y2 : wr.cell? ⟨g, 0 + k * 2, none⟩ = some (.slice a0 x0.length c0) := by rw [Nat.zero_add]; exact y0
      have y3 : wr.cell? ⟨g, 0 + k * 2 + 1, none⟩ = some (.slice a1 x1.length c1) := by rw [Nat.zero_add]; exact y1
      clear KG
      go_wp2_with fail
      have X := Bx.start wr [.slice a0 x0.length c0, .slice a1 x1.length c1] 27
      refine (LA.out _ (below_then hw.out X.1)).mono ?_
      rintro e w7 ⟨g7, c7, rfl, hI7, B7'⟩
      have B7 : Below wr.heap.size wr w7 := below_then X.1 B7'
      have hwr1 : wr.heap.size ≤ (wr.alloc (.cells #[.slice a0 x0.length c0, .slice a1 x1.length c1] 27)).heap.size := by simp
      have HI7 := Lib.hid (hI7.mono (lo' := wr.heap.size) hwr1 (Nat.le_refl _))
      have s7 := B7.size
      have hws := hw.out.size
      have HB7 := Lib.hid (below_then hw.out B7)
      have HO7 := Lib.hid (hO.out.keep B7)
      have HTl := Lib.hid (HR.out k hk)
      clear hI7 B7 B7' X hO hw y0 y1 y2 y3 hwr1
      go_wp2_with (at_builtin; refine wpList_append_blk _ rfl _ _ 25 rfl w.heap.size 31 (.slice none 0 0) 24 Try.underlying25 info_intsW rfl _ k vs rfl (by have := HO7.out.out; rw [HTl.out] at this; exact this) (.slice (some ⟨g7, 0, none⟩) x0.length c7) rfl rfl (by omega) (by omega) (by omega) ?_)
      intro v9 w9 o9 gr9 n9
      obtain ⟨a9, c9, e9, _, _⟩ := own_shape o9
      subst e9
      have HR9 : Hid (OwnRows 2 31 w9 w.heap.size w9.heap.size (.slice a9 (k + 1) c9) (vs ++ [.slice (some ⟨g7, 0, none⟩) x0.length c7]) (List.replicate (k + 1) m)) := by
        rw [List.replicate_succ']
        have := HO7.out.snocX (u' := .slice a9 (k + 1) c9) hws (Nat.le_refl _) HI7.out (w' := w9) (by rw [HTl.out, Hml.out]; exact o9) gr9 n9
        rw [Hml.out] at this
        exact this
      have HB9 := Lib.hid (below_append HB7.out (by have := HO7.out.out; rw [HTl.out] at this; exact this) gr9 (Nat.le_refl _) (by omega))
      clear o9 gr9 n9 HO7 HB7 HI7
      go_wp2_with fail
      go_roundw
      case rel => exact ⟨k + 1, a9, c9, _, by omega, by go_num, rfl, HR9, HB9⟩
      case measure => simp [intOf]; omega
    · obtain rfl : k = 2 := by omega
      have HF := Lib.hid (OwnLL.rd (T := 2) (T2 := 31) (lo := w.heap.size) (c := cc) (yss := List.replicate 2 m) ⟨vs, by simpa using hO.out⟩)
      clear hlt hk hO
      go_wp2_with fail
      go_ret2
      exact ⟨a, cc, rfl, HF.out, hw.out⟩
end Go.Proofs.Ytchfibmndcfpiaa
namespace Go.Proofs.Ytchfibmndcfpiaa
set_option linter.unusedVariables false
set_option linter.unusedSimpArgs false
open Go.RowKit

set_option maxRecDepth 100000 in
set_option maxHeartbeats 32000000 in
theorem matL7 (w v0 : World) (n gw gL cL gR cR : Nat) (xL xR : List (List Int)) (am : Option Addr) (cm : Nat) (ms : List Int) (gm cg : Nat) (m : List Int) (aA aB : Option Addr) (cA cB : Nat) (al : List (List Int)) (gt d0 e0 d1 e1 : Nat) (af ao aS : Option Addr) (cf co cS : Nat) (f : List Int) (su ak : Int) (HBX0 : Hid (WBl v0 gw n gL cL xL gR cR xR)) (HW0 : Hid (Below w.heap.size w v0)) (hn : 1 ≤ n ∧ n ≤ 4) (HL : Hid (xL.length = n)) (HR : Hid (xR.length = n)) (HV : Hid (wishB ⟨xL, xR⟩ = true)) (HGL : Hid (∀ y ∈ xL, y.length ≤ 1048576)) (HGR : Hid (∀ y ∈ xR, y.length ≤ 1048576)) (LM : Hid (∀ (v : World), Below w.heap.size w v → ∀ (i n : Int), 0 ≤ i → i ≤ 1000000 → Calls Try.prog 7 #[.slice am ms.length cm, .int .i64 i, .int .i64 n] v fun e w' => e = .returned (.int .i64 (atF ms i n)) ∧ v = w')) (hml : Hid (m.length = n)) (Rm0 : Hid (Rd v0 v0.heap.size (some ⟨gm, 0, none⟩) (ints m))) (RA0 : Hid (RdII v0 v0.heap.size aA al)) (RB0 : Hid (RdII v0 v0.heap.size aB al)) (HAl : Hid (al.length ≤ 1048576 ∧ ∀ y ∈ al, y.length = n)) (HMem : Hid (m ∈ al)) (HDe : Hid (∀ y ∈ al, ∀ a : Nat, a < n → m.getD a 0 ≠ y.getD a 0 → ∃ k : Nat, k < (row xL a).length ∧ (row xL a).getD k 0 = m.getD a 0 ∧ ∀ j, j < k → (row xL a).getD j 0 ≠ m.getD a 0 ∧ (row xL a).getD j 0 ≠ y.getD a 0)) (HBT0 : Hid (WBl v0 gt n d0 e0 xR d1 e1 xL)) (Rf0 : Hid (Rd v0 v0.heap.size af (ints f))) (Ro0 : Hid (Rd v0 v0.heap.size ao (ints f))) (hfl : Hid (f.length ≤ 1073741824)) (RS0 : Hid (RdII v0 v0.heap.size aS [m, m])) (hak : 0 ≤ ak ∧ ak ≤ (n : Int) * (n : Int)) (HMa : Hid (matchB ⟨xL, xR⟩ m = true)) (K : Act → World → Prop) (hK : ∀ (a : Act) (v : World), Code.wp Try.prog (((Try.f5).body.bind (restAt 13)).getD .skip) (bodyPost Try.prog Try.f5 fun e w' => e = .returned (.bool true) ∧ Below w.heap.size w w') a v → K a v)
    {z0 z2 z3 z4 z26 z27 z28 z29 z30 z31 z32 z33 z34 z35 z36 z37 z38 z39 z40 z41 z42 z43 z44 z45 z46 z47 z48 z49 z50 z51 z52 z53 z54 z55 z56 z57 z58 z59 z60 z61 z62 z63 z64 z65 z66 z67 z68 z69 z70 z71 z72 z73 z74 z75 z76 z77 z78 z79 z80 z81 z82 z83 z84 z85 z86 z87 z88 z89 z90 z91 z92 z93 z94 z95 z96 z97 z98 z99 z100 z101 z102 z103 z104 z105 z106 z107 z108 z109 z110 z111 z112 z113 z114 z115 z116 z117 z118 z119 z120 z121 z122 z123 z124 z125 z126 z127 z128 z129 z130 z131 z132 z133 z134 z135 z136 z137 z138 z139 z140 z141 z142 z143 z144 z145 z146 z147 z148 z149 z150 z151 z152 z153 z154 z155 z156 z157 z158 z159 z160 z161 z162 z163 z164 z165 z166 z167 z168 z169 z170 z171 z172 z173 z174 z175 z176 z177 z178 z179 z180 z181 z182 z183 z184 z185 z186 z187 z188 z189 z190 z191 z192 z193 z194 z195 z196 z197 z198 z199 z200 z201 z202 z203 z204 z205 z206 z207 z208 z209 z210 z211 z212 z213 z214 z215 z216 z217 z218 z219 z220 z221 z222 z223 z224 z225 z226 z227 z228 z229 z230 z231 z232 z233 z234 z235 z236 z237 z238 z239 z240 z241 z242 z243 z244 z245 z246 z247 z248 z249 z250 z251 z252 z253 z254 z255 z256 z257 z258 z259 z260 z261 z262 z263 z264 z265 z266 z267 z268 z269 z270 z271 z272 z273 z274 z275 z276 z277 z278 z279 z280 z281 z282 z283 z284 z285 z286 z287 z288 z289 z290 z291 z292 z293 z294 z295 z296 z297 z298 z299 z300 z301 z302 z303 z304 z305 z306 z307 z308 z309 z310 z311 z312 z313 z314 z315 z316 z317 z318 z319 z320 z321 z322 z323 z324 z325 z326 z327 z328 z329 z330 z331 z332 z333 z334 z335 z336 z337 z338 z339 z340 z341 z342 z343 : Value} :
    Code.wp Try.prog (((Try.f5).body.bind (regAt 13)).getD .skip) (Exit.then K (bodyPost Try.prog Try.f5 fun e w' => e = .returned (.bool true) ∧ Below w.heap.size w w')) ⟨#[z0, .slice am ms.length cm, z2, z3, z4, .int .i64 n, .pointer (some ⟨gw, 0, none⟩), .slice (some ⟨gm, 0, none⟩) n cg, .int .i64 ak, .bool true, .bool true, .bool true, .slice aA al.length cA, .bool true, .slice aB al.length cB, .bool true, .slice af f.length cf, .int .i64 su, .bool true, .slice ao f.length co, .int .i64 su, .bool true, .slice aS 2 cS, .bool true, .pointer (some ⟨gt, 0, none⟩), .bool true, z26, z27, z28, z29, z30, z31, z32, z33, z34, z35, z36, z37, z38, z39, z40, z41, z42, z43, z44, z45, z46, z47, z48, z49, z50, z51, z52, z53, z54, z55, z56, z57, z58, z59, z60, z61, z62, z63, z64, z65, z66, z67, z68, z69, z70, z71, z72, z73, z74, z75, z76, z77, z78, z79, z80, z81, z82, z83, z84, z85, z86, z87, z88, z89, z90, z91, z92, z93, z94, z95, z96, z97, z98, z99, z100, z101, z102, z103, z104, z105, z106, z107, z108, z109, z110, z111, z112, z113, z114, z115, z116, z117, z118, z119, z120, z121, z122, z123, z124, z125, z126, z127, z128, z129, z130, z131, z132, z133, z134, z135, z136, z137, z138, z139, z140, z141, z142, z143, z144, z145, z146, z147, z148, z149, z150, z151, z152, z153, z154, z155, z156, z157, z158, z159, z160, z161, z162, z163, z164, z165, z166, z167, z168, z169, z170, z171, z172, z173, z174, z175, z176, z177, z178, z179, z180, z181, z182, z183, z184, z185, z186, z187, z188, z189, z190, z191, z192, z193, z194, z195, z196, z197, z198, z199, z200, z201, z202, z203, z204, z205, z206, z207, z208, z209, z210, z211, z212, z213, z214, z215, z216, z217, z218, z219, z220, z221, z222, z223, z224, z225, z226, z227, z228, z229, z230, z231, z232, z233, z234, z235, z236, z237, z238, z239, z240, z241, z242, z243, z244, z245, z246, z247, z248, z249, z250, z251, z252, z253, z254, z255, z256, z257, z258, z259, z260, z261, z262, z263, z264, z265, z266, z267, z268, z269, z270, z271, z272, z273, z274, z275, z276, z277, z278, z279, z280, z281, z282, z283, z284, z285, z286, z287, z288, z289, z290, z291, z292, z293, z294, z295, z296, z297, z298, z299, z300, z301, z302, z303, z304, z305, z306, z307, z308, z309, z310, z311, z312, z313, z314, z315, z316, z317, z318, z319, z320, z321, z322, z323, z324, z325, z326, z327, z328, z329, z330, z331, z332, z333, z334, z335, z336, z337, z338, z339, z340, z341, z342, z343], []⟩ v0 := by
  obtain ⟨cr, hcr⟩ : ∃ c, c = (((Try.f5).body.bind (restAt 13)).getD .skip) := ⟨_, rfl⟩
  rw [← hcr] at hK
  conv at hcr => rhs; whnf
  subst hcr
  conv => arg 2; whnf

  obtain ⟨n1, n4⟩ := hn
  have n1i : (1 : Int) ≤ (n : Int) := by omega
  have n4i : (n : Int) ≤ 4 := by omega
  have HWi := Lib.hid (wish_of HV.out)
  have hwt : wishB ⟨xR, xL⟩ = true := wishB_of (turn_wish HWi.out)
  have L1 := turnWishes_any v0 d0 0 e0 xR d1 0 e1 xL HBT0.out.R.1 HBT0.out.R.2 HGR.out HGL.out hwt
  rw [HL.out, HR.out] at L1
  have L1 := Lib.hid L1
  have HnnN : n * n ≤ 16 := Nat.mul_le_mul n4 n4
  obtain ⟨N, hN⟩ : ∃ N, N = n * n := ⟨_, rfl⟩
  have hNi : (n : Int) * (n : Int) = (N : Int) := by rw [hN]; exact (Int.natCast_mul n n).symm
  rw [← hN] at HnnN
  obtain ⟨hak1, hak2⟩ := hak
  rw [hNi] at hak2
  have hal1 : 1 ≤ al.length := List.length_pos_of_mem HMem.out
  have hal2 := HAl.out.1
  have hnn : ((n : Int) != (n : Int)) = false := by simp
  have hll : ((al.length : Int) != (al.length : Int)) = false := by simp
  have hss : (su != su) = false := by simp
  clear hN hwt
  obtain ⟨q0, q1⟩ := HBT0.out.cells
  go_wp2_with fail
  refine L1.out.mono ?_
  rintro e w1 ⟨g0, k0, g1, k1, rfl, r0, r1, hb1⟩
  rw [HL.out, HR.out]
  have HBX1 := Lib.hid (HBX0.out.to hb1)
  have HW1 := Lib.hid (below_then HW0.out hb1)
  have hb2 := bl1 w1 (.cells #[.slice (some ⟨g0, 0, none⟩) n k0, .slice (some ⟨g1, 0, none⟩) n k1] 27)
  obtain ⟨w2, hw2⟩ : ∃ W, W = w1.alloc (.cells #[.slice (some ⟨g0, 0, none⟩) n k0, .slice (some ⟨g1, 0, none⟩) n k1] 27) := ⟨_, rfl⟩
  obtain ⟨gb, hgb⟩ : ∃ g, g = w1.heap.size := ⟨_, rfl⟩
  rw [← hw2] at hb2
  have HBB2 : Hid (WBl w2 gb n g0 k0 xL g1 k1 xR) := by rw [hw2, hgb]; exact ⟨Blk.new w1 _ _, r0.to (bl1 _ _), r1.to (bl1 _ _)⟩
  have hb02 := below_then hb1 hb2
  have HBX2 := Lib.hid (HBX1.out.to hb2)
  have HW2 := Lib.hid (below_then HW1.out hb2)
  have Rf2 := Lib.hid (Rf0.out.to hb02)
  have Ro2 := Lib.hid (Ro0.out.to hb02)
  have Rm2 := Lib.hid (Rm0.out.to hb02)
  have RS2 := Lib.hid (RdII.to RS0.out hb02)
  have RA2 := Lib.hid (RdII.to RA0.out hb02)
  have RB2 := Lib.hid (RdII.to RB0.out hb02)
  obtain ⟨q2, q3⟩ := HBX2.out.cells
  rw [hw2] at q2 q3
  have LV := validWishes_any w2 (some ⟨gL, 0, none⟩) cL xL (some ⟨gR, 0, none⟩) cR xR HBX2.out.W (by rw [HL.out]; omega) HGL.out (by rw [HR.out]; omega) HGR.out
  rw [HV.out, HL.out, HR.out, hw2] at LV
  have LV := Lib.hid LV
  have Hw2 := Lib.hid hw2
  have Hgb := Lib.hid hgb
  clear hw2 hgb r0 r1 hb1 hb2 hb02 L1 q0 q1 HBX0 HW0 HBX1 HW1 HBT0 Rf0 Ro0 Rm0 RS0 RA0 RB0
  go_wp2_with fail
  refine LV.out.mono ?_
  rw [← Hw2.out, ← Hgb.out]
  rintro e w3 ⟨rfl, hb3⟩
  have HBX3 := Lib.hid (HBX2.out.to hb3)
  have Rf3 := Lib.hid (Rf2.out.to hb3)
  have Ro3 := Lib.hid (Ro2.out.to hb3)
  have Rm3 := Lib.hid (Rm2.out.to hb3)
  have RS3 := Lib.hid (RdII.to RS2.out hb3)
  have RA3 := Lib.hid (RdII.to RA2.out hb3)
  have RB3 := Lib.hid (RdII.to RB2.out hb3)
  have HW3 := Lib.hid (below_then HW2.out hb3)
  clear HBX2 HW2 Rf2 Ro2 Rm2 RS2 RA2 RB2
  have HBB3 := Lib.hid (HBB2.out.to hb3)
  clear hb3 HBB2 LV q2 q3 Hw2 Hgb
  obtain ⟨q0, q1⟩ := HBX3.out.cells
  obtain ⟨q2, q3⟩ := HBB3.out.cells
  have LS := sameWishes_any w3 (some ⟨g0, 0, none⟩) (some ⟨gL, 0, none⟩) k0 cL xL (some ⟨g1, 0, none⟩) (some ⟨gR, 0, none⟩) k1 cR xR HBB3.out.W HBX3.out.W (by rw [HL.out]; omega) HGL.out (by rw [HR.out]; omega) HGR.out
  rw [HL.out, HR.out] at LS
  have LS := Lib.hid LS
  go_wp2_with fail
  refine LS.out.mono ?_
  rintro e w4 ⟨rfl, hb4⟩
  have HBX4 := Lib.hid (HBX3.out.to hb4)
  have Rf4 := Lib.hid (Rf3.out.to hb4)
  have Ro4 := Lib.hid (Ro3.out.to hb4)
  have Rm4 := Lib.hid (Rm3.out.to hb4)
  have RS4 := Lib.hid (RdII.to RS3.out hb4)
  have RA4 := Lib.hid (RdII.to RA3.out hb4)
  have RB4 := Lib.hid (RdII.to RB3.out hb4)
  have HW4 := Lib.hid (below_then HW3.out hb4)
  clear HBX3 HW3 Rf3 Ro3 Rm3 RS3 RA3 RB3
  clear hb4 HBB3 LS q0 q1 q2 q3
  obtain ⟨q0, q1⟩ := HBX4.out.cells
  have LI := isMatchI_any w4 (some ⟨gL, 0, none⟩) cL xL (some ⟨gR, 0, none⟩) cR xR (some ⟨gm, 0, none⟩) cg m HBX4.out.W (by rw [HL.out]; omega) HGL.out (by rw [HR.out]; omega) HGR.out Rm4.out (by rw [hml.out]; omega)
  rw [HV.out, HMa.out, HL.out, HR.out, hml.out, Bool.true_and] at LI
  have LI := Lib.hid LI
  go_wp2_with fail
  refine LI.out.mono ?_
  rintro e w5 ⟨rfl, hb5⟩
  have HBX5 := Lib.hid (HBX4.out.to hb5)
  have Rf5 := Lib.hid (Rf4.out.to hb5)
  have Ro5 := Lib.hid (Ro4.out.to hb5)
  have Rm5 := Lib.hid (Rm4.out.to hb5)
  have RS5 := Lib.hid (RdII.to RS4.out hb5)
  have RA5 := Lib.hid (RdII.to RA4.out hb5)
  have RB5 := Lib.hid (RdII.to RB4.out hb5)
  have HW5 := Lib.hid (below_then HW4.out hb5)
  clear HBX4 HW4 Rf4 Ro4 Rm4 RS4 RA4 RB4
  clear hb5 LI q0 q1
  obtain ⟨bS, oS, ya, a1, c1, eA, hbA, hcA, _, hrA, hyA⟩ := RS5.out.get (k := 0) (by simp)
  obtain ⟨bS2, oS2, yb, a2, c2, eB, hbB, hcB, _, hrB, hyB⟩ := RS5.out.get (k := 1) (by simp)
  subst eA
  injection eB with eB; injection eB with eB1 eB2 eB3
  subst eB1 eB2
  have e1 : ya = m := by have := hyA.out; simp at this; exact this.symm
  have e2 : yb = m := by have := hyB.out; simp at this; exact this.symm
  subst e1
  subst e2
  rw [hml.out] at hcA hcB
  rw [Nat.add_zero] at hcA
  have L1 := b10Ints_any w5 af ao cf co f Rf5.out Ro5.out (by have := hfl.out; omega)
  have L2 := fun q => b10Ints_any (w5.drewN q) a1 (some ⟨gm, 0, none⟩) c1 cg yb hrA Rm5.out (by rw [hml.out]; omega)
  have L3 := fun q => b10Ints_any (w5.drewN q) a2 (some ⟨gm, 0, none⟩) c2 cg yb hrB Rm5.out (by rw [hml.out]; omega)
  simp only [hml.out] at L2 L3
  have L1 := Lib.hid L1
  have L2 := Lib.hid L2
  have L3 := Lib.hid L3
  have h02 : 0 < 2 := by omega
  have h12 : 1 < 2 := by omega
  clear hrA hrB hyA hyB
  go_wp2_with fail
  refine L1.out.mono ?_
  rintro e w6 ⟨rfl, k6, rfl⟩
  go_wp2_with fail
  refine (L2.out _).mono ?_
  rintro e w6 ⟨rfl, k7, rfl⟩
  go_wp2_with fail
  refine (L3.out _).mono ?_
  rintro e w6 ⟨rfl, k8, rfl⟩
  go_upto_region 16 with fail
  try simp only [World.drewN_drewN]
  obtain ⟨w6, hw6⟩ : ∃ W, W = w5.drewN (k6 + k7 + k8) := ⟨_, rfl⟩
  have hb6 : Below w5.heap.size w5 w6 := by rw [hw6]; exact drewN_below w5 _
  first | rw [← hw6] | (rw [Nat.add_assoc] at hw6; rw [← hw6])
  have HBX6 := Lib.hid (HBX5.out.to hb6)
  -- Rf6 := Lib.hid (Rf5.out.to hb6)
  -- Ro6 := Lib.hid (Ro5.out.to hb6)
  have Rm6 := Lib.hid (Rm5.out.to hb6)
  have RS6 := Lib.hid (RdII.to RS5.out hb6)
  have RA6 := Lib.hid (RdII.to RA5.out hb6)
  have RB6 := Lib.hid (RdII.to RB5.out hb6)
  have HW6 := Lib.hid (below_then HW5.out hb6)
  clear HBX5 HW5 Rf5 Ro5 Rm5 RS5 RA5 RB5
  clear hb6 hw6
  exact matL3 w w6 n gw gL cL gR cR xL xR am cm ms gm cg yb aA aB cA cB al HBX6 HW6 ⟨n1, n4⟩ HL HR HV HGL HGR LM hml Rm6 RA6 RB6 HAl HMem HDe _ (by assumption)
end Go.Proofs.Ytchfibmndcfpiaa
