/-
  Part 9 of what the proof stands on: lemmas and contracts, each with its conditions ahead of the colon.
-/
import Derived.Deep.LoopGhost
import Derived.Deep.RegionHeld3
import Derived.Deep.DeepCutAuto
import Derived.Deep.CutBlock
import Derived.Test.YtchfibmndcfpiaaPk06
import Derived.Test.YtchfibmndcfpiaaPk07
import Derived.Test.YtchfibmndcfpiaaPk08
namespace Go.Proofs.Ytchfibmndcfpiaa
set_option linter.unusedVariables false
set_option linter.unusedSimpArgs false
open Go.RowKit

/-- The t-th list of n numbers from -1 on. -/
def mtAt (n t : Nat) : List Int := (chAt (n + 1) n t).map (· - 1)
theorem mtAt_len (n t : Nat) : (mtAt n t).length = n := by simp [mtAt, chAt_len]
def someF (w : Wi) (n t : Nat) : List (List Int) := ((List.range t).map (mtAt n)).filter (stableB w)
theorem someF_succ (w : Wi) (n t : Nat) : someF w n (t + 1) = someF w n t ++ if stableB w (mtAt n t) then [mtAt n t] else [] := by
  unfold someF
  rw [List.range_succ, List.map_append, List.filter_append]
  cases h : stableB w (mtAt n t) <;> simp [h]
theorem someF_all (w : Wi) : someF w w.L.length ((w.L.length + 1) ^ w.L.length) = allStabF w := by
  unfold someF allStabF allM
  rw [allD_eq (by omega), List.map_map]
  rfl
theorem someF_mono (w : Wi) (n : Nat) {t u : Nat} (h : t ≤ u) : (someF w n t).length ≤ (someF w n u).length := by
  induction u with
  | zero => have : t = 0 := by omega
            subst this; exact Nat.le_refl _
  | succ u ih =>
    by_cases e : t = u + 1
    · subst e; exact Nat.le_refl _
    · have := ih (by omega)
      rw [someF_succ, List.length_append]; omega
theorem decL_getD {xs : List Int} {k : Nat} (h : k < xs.length) : (xs.map (· - 1)).getD k 0 = xs.getD k 0 - 1 := by
  simp [List.getD, h]
theorem decL_set (xs : List Int) (k : Nat) (x : Int) : (xs.map (· - 1)).set k (x - 1) = (xs.set k x).map (· - 1) := by rw [List.map_set]
theorem set_appA {w : World} {g T : Nat} {xs : List Int} {tl : List Value} (h : Blk w g (ints xs ++ tl) T) {j : Nat} (hj : j < xs.length) (y : Int) : Blk (w.setCell ⟨g, j, none⟩ (.int .i64 y)) g (ints (xs.set j y) ++ tl) T := set_app h hj y
theorem reps_snoc (k : Nat) : ints (List.replicate k (-1)) ++ [Value.int .i64 (-1)] = ints (List.replicate (k + 1) (-1)) := by
  rw [← ints_append', List.replicate_succ']
where ints_append' : ints (List.replicate k (-1) ++ [-1]) = ints (List.replicate k (-1)) ++ [Value.int .i64 (-1)] := by rw [ints_append]; rfl
/-- What a round of all lists hands on. -/
def Handed9 (T T2 : Nat) (TT k : Nat) (sf : Nat → List (List Int)) (w ws : World) (g : Nat) (tl : List Value) (a : Option Addr) (c : Nat) (vs : List Value) (t : Nat) (m : Bool) (ch : List Int) (wr : World) : Prop :=
  m = decide (t + 1 < TT) ∧ ((t + 1 < TT → ch.map (· - 1) = mtAt k (t + 1)) ∧ (ch.map (· - 1)).length = k) ∧ Blk wr g (ints (ch.map (· - 1)) ++ tl) T ∧ OwnTop T T2 wr w.heap.size ws.heap.size wr.heap.size (.slice a (sf (t + 1)).length c) vs (sf (t + 1)) ∧ Below w.heap.size w wr ∧ ws.heap.size ≤ wr.heap.size
set_option maxRecDepth 10000 in
set_option maxHeartbeats 8000000 in
theorem l05All_any (w : World) (b o : Nat) (a0 : Option Addr) (c0 : Nat) (x0 : List (List Int)) (a1 : Option Addr) (c1 : Nat) (x1 : List (List Int)) (d0 : w.cell? ⟨b, o, none⟩ = some (.slice a0 x0.length c0)) (d1 : w.cell? ⟨b, o + 1, none⟩ = some (.slice a1 x1.length c1)) (hbl : b < w.heap.size)
    (h : RdWishes w w.heap.size a0 x0 a1 x1) (hl0 : x0.length ≤ 1048576) (hin0 : ∀ y ∈ x0, y.length ≤ 1048576) (hl1 : x1.length ≤ 1048576) (hin1 : ∀ y ∈ x1, y.length ≤ 1048576) (hw : wishB ⟨x0, x1⟩ = true) (h5 : x0.length ≤ 5) :
    Calls Try.prog 39 #[.pointer (some ⟨b, o, none⟩)] w fun e w' => ∃ a c, e = .returned (.slice a (allStabF ⟨x0, x1⟩).length c) ∧ OwnLL 2 31 w' w.heap.size w'.heap.size a c (allStabF ⟨x0, x1⟩) ∧ Below w.heap.size w w' := by
  have hv := wish_of hw
  have h1 := hv.n1
  simp only at h1
  obtain ⟨n, hn⟩ : ∃ n, n = x0.length := ⟨_, rfl⟩
  have LS : Hid (∀ (w' : World) (a : Option Addr) (c : Nat) (m : List Int), Below w.heap.size w w' → Rd w' w'.heap.size a (ints m) → m.length ≤ 1048576 → m.length ≤ c → Calls Try.prog 46 #[.pointer (some ⟨b, o, none⟩), .slice a m.length c] w' fun e w'' => e = .returned (.bool (stableB ⟨x0, x1⟩ m)) ∧ Below w'.heap.size w' w'') := fun w' a c m hb g hl hc => by
    have := l05Stable_any w' b o a0 c0 x0 a1 c1 x1 ((hb.cell (p := ⟨b, o, none⟩) hbl).trans d0) ((hb.cell (p := ⟨b, o + 1, none⟩) hbl).trans d1) (Nat.lt_of_lt_of_le hbl hb.size) a c m (h.to hb) hl0 hin0 hl1 hin1 g hl hc
    rwa [hw, Bool.true_and] at this
  have HT : Hid ((n + 1) ^ n ≤ 7776) := pow_few (by omega)
  have HALL : Hid (someF ⟨x0, x1⟩ n ((n + 1) ^ n) = allStabF ⟨x0, x1⟩) := by rw [Hid, hn]; exact someF_all ⟨x0, x1⟩
  have HFM : Hid (∀ t, t ≤ (n + 1) ^ n → (someF ⟨x0, x1⟩ n t).length ≤ 7776) := fun t ht => by
    have := someF_mono ⟨x0, x1⟩ n ht
    have e := HALL.out
    have := allStab_few (w := ⟨x0, x1⟩) h5
    rw [← e] at this
    omega
  have HSP := Lib.hid (fun t ht => chAt_spec (n := n + 1) (by omega) n t ht)
  have HFS := Lib.hid (someF_succ ⟨x0, x1⟩ n)
  have HF0 : Hid (someF ⟨x0, x1⟩ n 0 = []) := rfl
  have HPos : Hid (0 < (n + 1) ^ n) := Nat.pow_pos (by omega)
  have Hn := Lib.hid hn
  have n1 : 1 ≤ n := by omega
  have n5 : n ≤ 5 := by omega
  rw [← hn] at d0
  generalize hST : stableB ⟨x0, x1⟩ = st at *
  generalize hSF : someF ⟨x0, x1⟩ n = sf at *
  rw [← HALL.out]
  generalize hTT : (n + 1) ^ n = TT at *
  clear h hin0 hin1 hw hv h1 hn hST hSF h5 hTT HALL
  go_enter Try.func39, Try.ntmps39
  go_wp2_with fail
  go_loopw [5, 20] (fun v kv wr => ∃ k : Nat, k ≤ n ∧ kv = .int .i64 k ∧ Hid (wr.ownsRow (w.heap.size + 1) 2 1 v k (ints (List.replicate k (-1)))) ∧ Hid (Blk wr w.heap.size [] 31) ∧ Below w.heap.size w wr ∧ w.heap.size + 1 ≤ wr.heap.size) (fun _ kv _ => n - (intOf kv).toNat)
  case atStart =>
    refine ⟨0, Nat.zero_le _, rfl, ?_, (Blk.new w [] 31).alloc _, bl2 _ _ _, by simp⟩
    have := own_empty (w.alloc (.cells #[] 31)) 2
    simpa [Hid] using this
  case round =>
    obtain ⟨k, hk, rfl, hO, hB, hw, hsz⟩ := hrel
    by_cases hlt : k < n
    · have hO' := hO.out
      clear hO
      go_wp2_with (at_builtin; refine wpList_append_one _ rfl _ _ 31 rfl (w.heap.size + 1) 2 (.int .i64 0) 8 Try.underlying31 info_i64p rfl _ k _ rfl hO' (.int .i64 (-1)) rfl rfl (by omega) (by omega) hsz ?_)
      intro v' w' ho hgr
      have HB2 := Lib.hid (hB.out.grown hgr (fun e => by have := (hO'.lt _ e.symm).1; omega))
      have HO2 : Hid (w'.ownsRow (w.heap.size + 1) 2 1 v' (k + 1) (ints (List.replicate (k + 1) (-1)))) := by
        rw [reps_snoc] at ho; exact ho
      have hw2 : Below w.heap.size w w' := below_append hw hO' hgr (by omega) (by omega)
      have hs2 : w.heap.size + 1 ≤ w'.heap.size := by have := hgr.size; omega
      clear ho hgr hO' hB hw
      go_wp2_with fail
      go_roundw
      case rel => exact ⟨k + 1, by omega, by go_num, HO2, HB2, hw2, hs2⟩
      case measure => simp [intOf]; omega
    · have : k = n := by omega
      subst this
      obtain ⟨a5, c5, e5, _, _⟩ := own_shape hO.out
      subst e5
      obtain ⟨g, tl, e6, hg0, hBg, hkc, _, _⟩ := own_open hO.out (by omega)
      subst e6
      obtain ⟨ws, hws⟩ : ∃ W : World, W = wr := ⟨_, rfl⟩
      subst hws
      have hgl := hBg.lt
      have HBg : Hid (Blk ws g (ints (mtAt k 0) ++ tl) 2) := by
        have : mtAt k 0 = List.replicate k (-1) := by simp [mtAt, chAt]
        rw [this]; exact hBg
      have HT0 : Hid (OwnTop 2 31 ws w.heap.size ws.heap.size ws.heap.size (.slice (some ⟨w.heap.size, 0, none⟩) (sf 0).length 0) [] (sf 0)) := by
        rw [HF0.out]
        exact OwnTop.start (hB.out.owns (Nat.le_refl _) (Nat.zero_le _)) (fun q hq => by simp [Value.ownBlock] at hq; exact hq.symm)
      have HF0' := Lib.hid (congrArg List.length HF0.out)
      rw [List.length_nil] at HF0'
      clear hO hB hBg
      go_wp2_with fail
      go_loopg [4, 6] (TT) (fun gk u4 u6 wr => ∃ (t : Nat) (m : Bool) (ml : List Int) (a : Option Addr) (c : Nat) (vs : List Value), t ≤ TT ∧ gk = TT - t ∧ u6 = .bool m ∧ u4 = .slice a (sf t).length c ∧ Hid (m = decide (t < TT)) ∧ Hid ((t < TT → ml = mtAt k t) ∧ ml.length = k) ∧ Hid (Blk wr g (ints ml ++ tl) 2) ∧ Hid (OwnTop 2 31 wr w.heap.size ws.heap.size wr.heap.size (.slice a (sf t).length c) vs (sf t)) ∧ Below w.heap.size w wr ∧ ws.heap.size ≤ wr.heap.size)
      case atStart => exact ⟨0, true, mtAt k 0, some ⟨w.heap.size, 0, none⟩, 0, [], Nat.zero_le _, rfl, rfl, by rw [HF0'.out], (decide_eq_true HPos.out).symm, ⟨fun _ => rfl, mtAt_len k 0⟩, HBg.out, HT0.out, hw, Nat.le_refl _⟩
      case round =>
        clear HBg HT0 hw
        obtain ⟨t, m, ml, a, c, vs, ht, rfl, rfl, rfl, hm, hml, hB, hO, hw, hsz⟩ := hrel
        cases m with
        | false =>
          have hlt : ¬ t < TT := by have := hm.out; simpa using this.symm
          have : t = TT := by omega
          subst this
          have HR : Hid (OwnLL 2 31 wr w.heap.size wr.heap.size a c (sf t)) := ⟨vs, hO.out.rows (by omega) (by omega)⟩
          clear hO hB hml
          go_wp2_with fail
          go_ret
          exact ⟨a, c, rfl, HR.out, hw⟩
        | true =>
          have hlt : t < TT := by have := hm.out; simpa using this.symm
          have e7 := hml.out.1 hlt
          subst e7
          have hl7 := mtAt_len k t
          have LS1 := Lib.hid (LS.out wr (some ⟨g, 0, none⟩) c5 (mtAt k t) hw (rd_app hB.out hB.out.lt) (by omega) (by omega))
          rw [hl7] at LS1
          have HSF := Lib.hid (HFS.out t)
          have HLT := Lib.hid (HFM.out t (by omega))
          cases hst : st (mtAt k t) with
          | false =>
            rw [hst] at LS1
            have HSF2 : Hid (sf (t + 1) = sf t) := by rw [Hid, HSF.out, hst]; simp
            clear HSF hst
            go_wp2_with fail
            refine LS1.out.mono ?_
            rintro e w9 ⟨rfl, hb9⟩
            have HB9 := Lib.hid (hB.out.same hb9)
            have HO9 : Hid (OwnTop 2 31 w9 w.heap.size ws.heap.size w9.heap.size (.slice a (sf (t + 1)).length c) vs (sf (t + 1))) := by rw [HSF2.out]; exact (hO.out.keep hb9).mono hb9.size
            have hw9 := below_then hw hb9
            have hs9 : ws.heap.size ≤ w9.heap.size := Nat.le_trans hsz hb9.size
            have HSL : Hid ((sf t).length = (sf (t + 1)).length) := by rw [Hid, HSF2.out]
            rw [HSL.out]
            obtain ⟨a9, ha9⟩ : ∃ x, x = a := ⟨_, rfl⟩
            obtain ⟨c9, hc9⟩ : ∃ x, x = c := ⟨_, rfl⟩
            obtain ⟨vs9, hvs9⟩ : ∃ x, x = vs := ⟨_, rfl⟩
            subst ha9 hc9 hvs9
            clear hb9 LS1 HSF2 HSL HLT
            obtain ⟨hdg, hvd, hnx⟩ := HSP.out t hlt
            have HNX := Lib.hid hnx
            have HDG := Lib.hid hdg
            have HDL := Lib.hid (chAt_len (k + 1) k t)
            have HNXT : Hid (∀ ch m, nextAt ((k : Int) + 1) (chAt (k + 1) k t) k = (ch, m) → m = decide (t + 1 < TT) ∧ (t + 1 < TT → ch.map (· - 1) = mtAt k (t + 1))) := fun ch m hh => by
              have e1 : (((k + 1 : Nat) : Int)) = (k : Int) + 1 := by omega
              have h2 := HNX.out
              rw [e1, hh] at h2
              refine ⟨h2, fun _ => ?_⟩
              show _ = (chAt (k + 1) k (t + 1)).map _
              rw [chAt, e1, hh]
            have e9 : mtAt k t = (chAt (k + 1) k t).map (· - 1) := rfl
            rw [e9] at HB9
            generalize chAt (k + 1) k t = D at *
            clear hdg hvd hnx e9 HSP hml hB hO hw hsz
            go_wp2_with fail
            go_loopw [6, 7] (fun u6 u7 wr => ∃ (m : Bool) (j : Nat) (ch : List Int), j ≤ k ∧ u6 = .bool m ∧ u7 = .int .i64 ((j : Int) - 1) ∧ Hid (ch.length = k ∧ digB (k + 1) ch ∧ (m = false → nextAt ((k : Int) + 1) D k = nextAt ((k : Int) + 1) ch j) ∧ (m = true → nextAt ((k : Int) + 1) D k = (ch, true))) ∧ Hid (Blk wr g (ints (ch.map (· - 1)) ++ tl) 2) ∧ w9.grownBy wr (some g)) (fun _ u7 _ => (intOf u7 + 1).toNat)
            case atStart => exact ⟨false, k, D, Nat.le_refl _, rfl, rfl, ⟨HDL.out, HDG.out, fun _ => rfl, fun h => by cases h⟩, HB9.out, ⟨rfl, rfl, rfl, Nat.le_refl _, fun _ _ _ => rfl⟩⟩
            case round =>
              obtain ⟨m, j, ch, hj, rfl, rfl, hinv, hB, hgw⟩ := hrel
              have HEND : Hid (nextAt ((k : Int) + 1) D k = (ch, m) → Handed9 2 31 TT k sf w ws g tl a9 c9 vs9 t m ch wr) := fun hh => by
                obtain ⟨i1, i2⟩ := HNXT.out ch m hh
                refine ⟨i1, ⟨fun h => i2 h, by rw [List.length_map]; exact hinv.out.1⟩, hB.out, (HO9.out.grown hgw (by omega) (by omega)).mono hgw.size, hw9.grown hgw (by have := hw9.size; omega) (fun q hq => by injection hq with hq; omega), Nat.le_trans hs9 hgw.size⟩
              cases m with
              | true =>
                have HE := Lib.hid (HEND.out (hinv.out.2.2.2 rfl))
                clear HEND hinv hB
                by_cases hj0 : j = 0
                · subst hj0
                  have e0 : ((0 : Nat) : Int) - 1 = -1 := by omega
                  rw [e0]
                  go_wp2_with fail
                  go_roundg (TT - (t + 1))
                  case rel => exact ⟨t + 1, true, ch.map (· - 1), a9, c9, vs9, by omega, rfl, rfl, rfl, HE.out.1, HE.out.2.1, HE.out.2.2.1, HE.out.2.2.2.1, HE.out.2.2.2.2.1, HE.out.2.2.2.2.2⟩
                  case measure => omega
                · have j1 : 0 ≤ (j : Int) - 1 := by omega
                  go_wp2_with fail
                  go_roundg (TT - (t + 1))
                  case rel => exact ⟨t + 1, true, ch.map (· - 1), a9, c9, vs9, by omega, rfl, rfl, rfl, HE.out.1, HE.out.2.1, HE.out.2.2.1, HE.out.2.2.2.1, HE.out.2.2.2.2.1, HE.out.2.2.2.2.2⟩
                  case measure => omega
              | false =>
                by_cases hj0 : j = 0
                · subst hj0
                  have HE := Lib.hid (HEND.out (hinv.out.2.2.1 rfl))
                  clear HEND hinv hB
                  have e0 : ((0 : Nat) : Int) - 1 = -1 := by omega
                  rw [e0]
                  go_wp2_with fail
                  go_roundg (TT - (t + 1))
                  case rel => exact ⟨t + 1, false, ch.map (· - 1), a9, c9, vs9, by omega, rfl, rfl, rfl, HE.out.1, HE.out.2.1, HE.out.2.2.1, HE.out.2.2.2.1, HE.out.2.2.2.2.1, HE.out.2.2.2.2.2⟩
                  case measure => omega
                · obtain ⟨q, rfl⟩ : ∃ q, j = q + 1 := ⟨j - 1, by omega⟩
                  have e0 : ((q + 1 : Nat) : Int) - 1 = (q : Int) := by omega
                  rw [e0]
                  obtain ⟨il, id, i1, _⟩ := hinv.out
                  have i2 := i1 rfl
                  have hy : 0 ≤ ch.getD q 0 ∧ ch.getD q 0 < ((k + 1 : Nat) : Int) := id _ (getD_mem (by omega))
                  have ck : wr.cell? ⟨g, q, none⟩ = some (.int .i64 (ch.getD q 0 - 1)) := by
                    have := cell_app hB.out (j := q) (by rw [List.length_map]; omega)
                    rwa [decL_getD (by omega)] at this
                  have fk := hB.out.free q
                  obtain ⟨x, hx⟩ : ∃ x, x = ch.getD q 0 - 1 := ⟨_, rfl⟩
                  rw [← hx] at ck
                  have q0 : (0 : Int) ≤ (q : Int) := Int.natCast_nonneg _
                  have q1 : (q : Int) < (k : Int) := by omega
                  have x0' : -1 ≤ x := by omega
                  have x1' : x < (k : Int) := by omega
                  have HB1 : Hid (Blk (wr.setCell ⟨g, q, none⟩ (.int .i64 (x + 1))) g (ints ((ch.set q (x + 2)).map (· - 1)) ++ tl) 2) := by
                    have := set_appA hB.out (j := q) (by rw [List.length_map]; omega) (x + 1)
                    rw [show x + 1 = (x + 2) - 1 by omega, decL_set] at this
                    rw [show x + 1 = (x + 2) - 1 by omega]
                    exact this
                  have HG1 := Lib.hid (grown_of_grown hgw (stored wr g q (.int .i64 (x + 1))))
                  by_cases hxk : x + 1 < (k : Int)
                  · have HI : Hid ((ch.set q (x + 2)).length = k ∧ digB (k + 1) (ch.set q (x + 2)) ∧ (true = false → nextAt ((k : Int) + 1) D k = nextAt ((k : Int) + 1) (ch.set q (x + 2)) q) ∧ (true = true → nextAt ((k : Int) + 1) D k = (ch.set q (x + 2), true))) := by
                      refine ⟨by rw [List.length_set]; exact il, fun z hz => ?_, (fun h => by cases h), fun _ => ?_⟩
                      · rcases List.mem_or_eq_of_mem_set hz with h | h
                        · exact id z h
                        · omega
                      · rw [i2, nextAt, if_pos (by omega), show ch.getD q 0 + 1 = x + 2 by omega]
                    clear HEND hinv hB hgw hx hy il id i1 i2
                    go_wp2_with fail
                    go_roundw
                    case rel => exact ⟨true, q, ch.set q (x + 2), by omega, rfl, rfl, HI.out, HB1.out, HG1.out⟩
                    case measure => first | (simp [intOf]; done) | (simp [intOf]; omega)
                  · have HI : Hid ((ch.set q 0).length = k ∧ digB (k + 1) (ch.set q 0) ∧ (false = false → nextAt ((k : Int) + 1) D k = nextAt ((k : Int) + 1) (ch.set q 0) q) ∧ (false = true → nextAt ((k : Int) + 1) D k = (ch.set q 0, true))) := by
                      refine ⟨by rw [List.length_set]; exact il, fun z hz => ?_, fun _ => ?_, (fun h => by cases h)⟩
                      · rcases List.mem_or_eq_of_mem_set hz with h | h
                        · exact id z h
                        · omega
                      · rw [i2, nextAt, if_neg (by omega)]
                    have HB2 : Hid (Blk ((wr.setCell ⟨g, q, none⟩ (.int .i64 (x + 1))).setCell ⟨g, q, none⟩ (.int .i64 (-1))) g (ints ((ch.set q 0).map (· - 1)) ++ tl) 2) := by
                      have := set_appA HB1.out (j := q) (by rw [List.length_map, List.length_set]; omega) (-1)
                      rw [show (-1 : Int) = 0 - 1 by omega, decL_set, List.set_set] at this
                      exact this
                    have HG2 := Lib.hid (grown_of_grown HG1.out (stored (wr.setCell ⟨g, q, none⟩ (.int .i64 (x + 1))) g q (.int .i64 (-1))))
                    clear HEND hinv hB hgw hx hy il id i1 i2
                    go_wp2_with fail
                    go_roundw
                    case rel => exact ⟨false, q, ch.set q 0, by omega, rfl, rfl, HI.out, HB2.out, HG2.out⟩
                    case measure => first | (simp [intOf]; done) | (simp [intOf]; omega)
          | true =>
            rw [hst] at LS1
            have HSF2 : Hid (sf (t + 1) = sf t ++ [mtAt k t]) := by rw [Hid, HSF.out, hst]; simp
            clear HSF hst
            go_wp2_with fail
            refine LS1.out.mono ?_
            rintro e w8 ⟨rfl, hb8⟩
            have HB8 := Lib.hid (hB.out.same hb8)
            have HO8 := Lib.hid (hO.out.keep hb8)
            have hw8 := below_then hw hb8
            have hs8 := hb8.size
            have Hc8 : Hid (∀ j, j < k → w8.cell? ⟨g, 0 + j, none⟩ = some (.int .i64 ((mtAt k t).getD j 0))) := fun j hj => by rw [Nat.zero_add]; exact cell_app HB8.out (by rw [hl7]; exact hj)
            have Hl7 := Lib.hid hl7
            have hlen8 : (sf t).length ≤ 1099511627776 := by have := HLT.out; omega
            clear hb8 LS1 hl7
            go_wp2_with (at_builtin; refine append_manyC _ rfl _ _ 31 rfl w8.heap.size 2 (.int .i64 0) 8 Try.underlying31 info_i64p rfl _ 0 [] rfl (own_emptyC w8 2) g 0 k c5 (mtAt k t) rfl Hl7.out ?_ (by omega) (by omega) (by simp) ?_)
            · intro j hj
              rw [(bl1 w8 _).cell (p := ⟨g, 0 + j, none⟩) HB8.out.lt, Hc8.out j hj]
            intro v7 w7 o7 g7
            have B87 := below_append (bl1 w8 (.cells #[] 2)) (own_emptyC w8 2) g7 (Nat.le_refl _) (by simp)
            obtain ⟨a7, c7, e7, _, _⟩ := own_shape o7
            subst e7
            obtain ⟨g7', e7⟩ := own_someA o7 (by omega)
            subst e7
            have HB7 := Lib.hid (HB8.out.same B87)
            have HO7 := Lib.hid ((HO8.out.keep B87).out)
            have HI7 : Hid (OwnI 2 w7 w8.heap.size w7.heap.size (some ⟨g7', 0, none⟩) c7 (mtAt k t)) := OwnI.of_own (by
              rw [Hl7.out]
              simpa using o7)
            have hs7 := B87.size
            clear o7 g7 Hc8
            go_wp2_with (at_builtin; refine wpList_append_blk _ rfl _ _ 25 rfl w.heap.size 31 (.slice none 0 0) 24 Try.underlying25 info_intsA rfl _ (sf t).length vs rfl HO7.out (.slice (some ⟨g7', 0, none⟩) k c7) rfl rfl (by omega) hlen8 (by have := hw8.size; omega) ?_)
            intro v9 w9 ho9 hgr hnew
            obtain ⟨a9, c9, e9, _, _⟩ := own_shape ho9
            subst e9
            obtain ⟨vs9, hvs9⟩ : ∃ x, x = vs ++ [Value.slice (some ⟨g7', 0, none⟩) k c7] := ⟨_, rfl⟩
            have HSL : Hid ((sf t).length + 1 = (sf (t + 1)).length) := by rw [Hid, HSF2.out]; simp
            have HO9 : Hid (OwnTop 2 31 w9 w.heap.size ws.heap.size w9.heap.size (.slice a9 (sf (t + 1)).length c9) vs9 (sf (t + 1))) := by
              have hsn := HO8.out.snoc B87 (by omega) (by omega) (by omega) HI7.out (Nat.le_refl _) (by rw [Hl7.out]; exact ho9) hgr hnew
              rw [← HSL.out, HSF2.out, hvs9]
              rwa [Hl7.out] at hsn
            have HB9 := Lib.hid (HB7.out.grown hgr (fun e => by rcases HO8.out.lt g e.symm with h1 | ⟨h1, _⟩ <;> omega))
            have hw9 : Below w.heap.size w w9 := (hw8.trans (B87.mono hw8.size)).grown hgr (by have := hw8.size; omega) (fun q hq => by rcases HO8.out.lt q hq with h1 | ⟨h1, _⟩ <;> omega)
            have hs9 : ws.heap.size ≤ w9.heap.size := by have := hgr.size; omega
            rw [HSL.out]
            clear HB7 HO7 HI7 HO8 HB8 hw8 B87 ho9 hgr hnew hvs9 HSF2 HSL HLT hs7 hs8
            obtain ⟨hdg, hvd, hnx⟩ := HSP.out t hlt
            have HNX := Lib.hid hnx
            have HDG := Lib.hid hdg
            have HDL := Lib.hid (chAt_len (k + 1) k t)
            have HNXT : Hid (∀ ch m, nextAt ((k : Int) + 1) (chAt (k + 1) k t) k = (ch, m) → m = decide (t + 1 < TT) ∧ (t + 1 < TT → ch.map (· - 1) = mtAt k (t + 1))) := fun ch m hh => by
              have e1 : (((k + 1 : Nat) : Int)) = (k : Int) + 1 := by omega
              have h2 := HNX.out
              rw [e1, hh] at h2
              refine ⟨h2, fun _ => ?_⟩
              show _ = (chAt (k + 1) k (t + 1)).map _
              rw [chAt, e1, hh]
            have e9 : mtAt k t = (chAt (k + 1) k t).map (· - 1) := rfl
            rw [e9] at HB9
            generalize chAt (k + 1) k t = D at *
            clear hdg hvd hnx e9 HSP hml hB hO hw hsz
            go_wp2_with fail
            go_loopw [6, 7] (fun u6 u7 wr => ∃ (m : Bool) (j : Nat) (ch : List Int), j ≤ k ∧ u6 = .bool m ∧ u7 = .int .i64 ((j : Int) - 1) ∧ Hid (ch.length = k ∧ digB (k + 1) ch ∧ (m = false → nextAt ((k : Int) + 1) D k = nextAt ((k : Int) + 1) ch j) ∧ (m = true → nextAt ((k : Int) + 1) D k = (ch, true))) ∧ Hid (Blk wr g (ints (ch.map (· - 1)) ++ tl) 2) ∧ w9.grownBy wr (some g)) (fun _ u7 _ => (intOf u7 + 1).toNat)
            case atStart => exact ⟨false, k, D, Nat.le_refl _, rfl, rfl, ⟨HDL.out, HDG.out, fun _ => rfl, fun h => by cases h⟩, HB9.out, ⟨rfl, rfl, rfl, Nat.le_refl _, fun _ _ _ => rfl⟩⟩
            case round =>
              obtain ⟨m, j, ch, hj, rfl, rfl, hinv, hB, hgw⟩ := hrel
              have HEND : Hid (nextAt ((k : Int) + 1) D k = (ch, m) → Handed9 2 31 TT k sf w ws g tl a9 c9 vs9 t m ch wr) := fun hh => by
                obtain ⟨i1, i2⟩ := HNXT.out ch m hh
                refine ⟨i1, ⟨fun h => i2 h, by rw [List.length_map]; exact hinv.out.1⟩, hB.out, (HO9.out.grown hgw (by omega) (by omega)).mono hgw.size, hw9.grown hgw (by have := hw9.size; omega) (fun q hq => by injection hq with hq; omega), Nat.le_trans hs9 hgw.size⟩
              cases m with
              | true =>
                have HE := Lib.hid (HEND.out (hinv.out.2.2.2 rfl))
                clear HEND hinv hB
                by_cases hj0 : j = 0
                · subst hj0
                  have e0 : ((0 : Nat) : Int) - 1 = -1 := by omega
                  rw [e0]
                  go_wp2_with fail
                  go_roundg (TT - (t + 1))
                  case rel => exact ⟨t + 1, true, ch.map (· - 1), a9, c9, vs9, by omega, rfl, rfl, rfl, HE.out.1, HE.out.2.1, HE.out.2.2.1, HE.out.2.2.2.1, HE.out.2.2.2.2.1, HE.out.2.2.2.2.2⟩
                  case measure => omega
                · have j1 : 0 ≤ (j : Int) - 1 := by omega
                  go_wp2_with fail
                  go_roundg (TT - (t + 1))
                  case rel => exact ⟨t + 1, true, ch.map (· - 1), a9, c9, vs9, by omega, rfl, rfl, rfl, HE.out.1, HE.out.2.1, HE.out.2.2.1, HE.out.2.2.2.1, HE.out.2.2.2.2.1, HE.out.2.2.2.2.2⟩
                  case measure => omega
              | false =>
                by_cases hj0 : j = 0
                · subst hj0
                  have HE := Lib.hid (HEND.out (hinv.out.2.2.1 rfl))
                  clear HEND hinv hB
                  have e0 : ((0 : Nat) : Int) - 1 = -1 := by omega
                  rw [e0]
                  go_wp2_with fail
                  go_roundg (TT - (t + 1))
                  case rel => exact ⟨t + 1, false, ch.map (· - 1), a9, c9, vs9, by omega, rfl, rfl, rfl, HE.out.1, HE.out.2.1, HE.out.2.2.1, HE.out.2.2.2.1, HE.out.2.2.2.2.1, HE.out.2.2.2.2.2⟩
                  case measure => omega
                · obtain ⟨q, rfl⟩ : ∃ q, j = q + 1 := ⟨j - 1, by omega⟩
                  have e0 : ((q + 1 : Nat) : Int) - 1 = (q : Int) := by omega
                  rw [e0]
                  obtain ⟨il, id, i1, _⟩ := hinv.out
                  have i2 := i1 rfl
                  have hy : 0 ≤ ch.getD q 0 ∧ ch.getD q 0 < ((k + 1 : Nat) : Int) := id _ (getD_mem (by omega))
                  have ck : wr.cell? ⟨g, q, none⟩ = some (.int .i64 (ch.getD q 0 - 1)) := by
                    have := cell_app hB.out (j := q) (by rw [List.length_map]; omega)
                    rwa [decL_getD (by omega)] at this
                  have fk := hB.out.free q
                  obtain ⟨x, hx⟩ : ∃ x, x = ch.getD q 0 - 1 := ⟨_, rfl⟩
                  rw [← hx] at ck
                  have q0 : (0 : Int) ≤ (q : Int) := Int.natCast_nonneg _
                  have q1 : (q : Int) < (k : Int) := by omega
                  have x0' : -1 ≤ x := by omega
                  have x1' : x < (k : Int) := by omega
                  have HB1 : Hid (Blk (wr.setCell ⟨g, q, none⟩ (.int .i64 (x + 1))) g (ints ((ch.set q (x + 2)).map (· - 1)) ++ tl) 2) := by
                    have := set_appA hB.out (j := q) (by rw [List.length_map]; omega) (x + 1)
                    rw [show x + 1 = (x + 2) - 1 by omega, decL_set] at this
                    rw [show x + 1 = (x + 2) - 1 by omega]
                    exact this
                  have HG1 := Lib.hid (grown_of_grown hgw (stored wr g q (.int .i64 (x + 1))))
                  by_cases hxk : x + 1 < (k : Int)
                  · have HI : Hid ((ch.set q (x + 2)).length = k ∧ digB (k + 1) (ch.set q (x + 2)) ∧ (true = false → nextAt ((k : Int) + 1) D k = nextAt ((k : Int) + 1) (ch.set q (x + 2)) q) ∧ (true = true → nextAt ((k : Int) + 1) D k = (ch.set q (x + 2), true))) := by
                      refine ⟨by rw [List.length_set]; exact il, fun z hz => ?_, (fun h => by cases h), fun _ => ?_⟩
                      · rcases List.mem_or_eq_of_mem_set hz with h | h
                        · exact id z h
                        · omega
                      · rw [i2, nextAt, if_pos (by omega), show ch.getD q 0 + 1 = x + 2 by omega]
                    clear HEND hinv hB hgw hx hy il id i1 i2
                    go_wp2_with fail
                    go_roundw
                    case rel => exact ⟨true, q, ch.set q (x + 2), by omega, rfl, rfl, HI.out, HB1.out, HG1.out⟩
                    case measure => first | (simp [intOf]; done) | (simp [intOf]; omega)
                  · have HI : Hid ((ch.set q 0).length = k ∧ digB (k + 1) (ch.set q 0) ∧ (false = false → nextAt ((k : Int) + 1) D k = nextAt ((k : Int) + 1) (ch.set q 0) q) ∧ (false = true → nextAt ((k : Int) + 1) D k = (ch.set q 0, true))) := by
                      refine ⟨by rw [List.length_set]; exact il, fun z hz => ?_, fun _ => ?_, (fun h => by cases h)⟩
                      · rcases List.mem_or_eq_of_mem_set hz with h | h
                        · exact id z h
                        · omega
                      · rw [i2, nextAt, if_neg (by omega)]
                    have HB2 : Hid (Blk ((wr.setCell ⟨g, q, none⟩ (.int .i64 (x + 1))).setCell ⟨g, q, none⟩ (.int .i64 (-1))) g (ints ((ch.set q 0).map (· - 1)) ++ tl) 2) := by
                      have := set_appA HB1.out (j := q) (by rw [List.length_map, List.length_set]; omega) (-1)
                      rw [show (-1 : Int) = 0 - 1 by omega, decL_set, List.set_set] at this
                      exact this
                    have HG2 := Lib.hid (grown_of_grown HG1.out (stored (wr.setCell ⟨g, q, none⟩ (.int .i64 (x + 1))) g q (.int .i64 (-1))))
                    clear HEND hinv hB hgw hx hy il id i1 i2
                    go_wp2_with fail
                    go_roundw
                    case rel => exact ⟨false, q, ch.set q 0, by omega, rfl, rfl, HI.out, HB2.out, HG2.out⟩
                    case measure => first | (simp [intOf]; done) | (simp [intOf]; omega)
set_option maxRecDepth 10000 in
set_option maxHeartbeats 4000000 in
theorem allStableR_any (w : World) (a0 : Option Addr) (c0 : Nat) (x0 : List (List Int)) (a1 : Option Addr) (c1 : Nat) (x1 : List (List Int)) (h : RdWishes w w.heap.size a0 x0 a1 x1) (hl0 : x0.length ≤ 1048576) (hin0 : ∀ y ∈ x0, y.length ≤ 1048576) (hl1 : x1.length ≤ 1048576) (hin1 : ∀ y ∈ x1, y.length ≤ 1048576) :
    Calls Try.prog 9 #[.agg #[.slice a0 x0.length c0, .slice a1 x1.length c1]] w (RetM 2 31 w (allF ⟨x0, x1⟩)) := by
  have X0 : Bx w (w.alloc (.cells #[.slice a0 x0.length c0, .slice a1 x1.length c1] 27)) [.slice a0 x0.length c0, .slice a1 x1.length c1] 27 := Bx.start w _ _
  have LV := Lib.hid (l05Is_any _ w.heap.size 0 a0 c0 x0 a1 c1 x1 X0.two.1 X0.two.2 (h.to X0.1) hl0 hin0 hl1 hin1)
  cases t1 : wishB ⟨x0, x1⟩ with
  | false =>
    rw [all_no1 t1]
    rw [t1] at LV
    clear h hin0 hin1 t1
    go_enter Try.func9, Try.ntmps9
    go_wp2_with fail
    refine LV.out.mono ?_
    rintro e w1 ⟨rfl, q, rfl⟩
    have X1 := X0.drewN q
    go_wp2_with fail
    go_ret2
    exact ⟨X1.1, rfl⟩
  | true =>
  rw [t1] at LV
  by_cases h5 : x0.length ≤ 5
  case neg =>
    rw [all_no2 h5]
    have hgt : (5 : Int) < (x0.length : Int) := by omega
    clear h hin0 hin1 t1
    go_enter Try.func9, Try.ntmps9
    go_wp2_with fail
    refine LV.out.mono ?_
    rintro e w1 ⟨rfl, q, rfl⟩
    have X1 := X0.drewN q
    obtain ⟨q0, q1⟩ := X1.two
    go_wp2_with fail
    go_ret2
    exact ⟨X1.1, rfl⟩
  rw [all_yes t1 h5]
  have hgt : ¬ (5 : Int) < (x0.length : Int) := by omega
  have LA : Hid (∀ w', Bx w w' [.slice a0 x0.length c0, .slice a1 x1.length c1] 27 → _) := fun w' X => l05All_any w' w.heap.size 0 a0 c0 x0 a1 c1 x1 X.two.1 X.two.2 X.2.lt (h.to X.1) hl0 hin0 hl1 hin1 t1 h5
  generalize allStabF ⟨x0, x1⟩ = al at *
  clear h hin0 hin1 t1
  go_enter Try.func9, Try.ntmps9
  go_wp2_with fail
  refine LV.out.mono ?_
  rintro e w1 ⟨rfl, q, hq⟩
  have X1 : Bx w w1 [.slice a0 x0.length c0, .slice a1 x1.length c1] 27 := by rw [hq]; exact X0.drewN q
  have LA1 := Lib.hid (LA.out w1 X1)
  obtain ⟨q0, q1⟩ := X1.two
  clear hq X0 LA LV
  go_wp2_with fail
  refine LA1.out.mono ?_
  rintro e w2 ⟨a, c, rfl, ho, hb2⟩
  have HO := Lib.hid (ho.mono X1.1.size (Nat.le_refl _))
  have B2 := below_then X1.1 hb2
  clear ho hb2 q0 q1 LA1
  go_wp2_with fail
  go_ret2
  exact ⟨B2, a, c, rfl, HO.out⟩
end Go.Proofs.Ytchfibmndcfpiaa
namespace Go.Proofs.Ytchfibmndcfpiaa
set_option linter.unusedVariables false
set_option linter.unusedSimpArgs false
open Go.RowKit

/-- The wishes' cells and what they show. -/
structure WBl (w : World) (gw n gL cL : Nat) (xL : List (List Int)) (gR cR : Nat) (xR : List (List Int)) : Prop where
  K : Blk w gw [.slice (some ⟨gL, 0, none⟩) n cL, .slice (some ⟨gR, 0, none⟩) n cR] 27
  R : RdL w w.heap.size gL 0 xL ∧ RdL w w.heap.size gR 0 xR
section
variable {w w' : World} {gw n gL cL gR cR : Nat} {xL xR : List (List Int)}
theorem WBl.to (h : WBl w gw n gL cL xL gR cR xR) (hb : Below w.heap.size w w') : WBl w' gw n gL cL xL gR cR xR := ⟨h.K.same hb, h.R.1.to hb, h.R.2.to hb⟩
theorem WBl.cells (h : WBl w gw n gL cL xL gR cR xR) : w.cell? ⟨gw, 0, none⟩ = some (.slice (some ⟨gL, 0, none⟩) n cL) ∧ w.cell? ⟨gw, 1, none⟩ = some (.slice (some ⟨gR, 0, none⟩) n cR) := ⟨h.K.cell 0, h.K.cell 1⟩
theorem WBl.W (h : WBl w gw n gL cL xL gR cR xR) : RdWishes w w.heap.size (some ⟨gL, 0, none⟩) xL (some ⟨gR, 0, none⟩) xR := ⟨h.R.1.rdII, h.R.2.rdII⟩
end
theorem cells_at {w : World} {B g : Nat} {xs : List Int} (h : Rd w B (some ⟨g, 0, none⟩) (ints xs)) {t : Nat} (ht : t < xs.length) : w.cell? ⟨g, t, none⟩ = some (.int .i64 (xs.getD t 0)) := by
  obtain ⟨b, o, e, _, hc⟩ := h.at ht
  injection e with e; injection e with e1 e2 e3
  subst e1 e2
  have := hc t ht
  rwa [Nat.zero_add] at this
theorem isStableF_yes {w : Wi} (hv : wishB w = true) {m : List Int} (h : stableB w m = true) : isStableF w m = (true, true) := by
  unfold isStableF
  unfold stableB at h
  rw [Bool.and_eq_true] at h
  rw [hv, h.1, Bool.and_self, if_pos rfl, h.2]
theorem mat_stab {w : Wi} (hw : Wish w) {m : List Int} (h : stableB w m = true) : Mat w m := by
  unfold stableB at h
  rw [Bool.and_eq_true] at h
  exact mat_of h.1
theorem turns_len (w : Wi) (m : List Int) : (turnsF w m).length ≤ w.L.length := by
  unfold turnsF
  exact Nat.le_trans (List.length_filterMap_le _ _) (by simp)
theorem wishB_of {w : Wi} (h : Wish w) : wishB w = true := by
  have e0 : listsB w.L w.L.length = true := listsB_iff.2 ⟨h.left, rfl⟩
  have e1 : listsB w.R w.L.length = true := listsB_iff.2 ⟨h.right, h.len⟩
  unfold wishB
  simp only [e0, e1, Bool.and_true, inB_iff]
  have := h.n1; have := h.n8; omega
theorem allF_lenL (w : Wi) : ((allF w).getD []).length ≤ 1048576 := by
  unfold allF
  split
  · rename_i h
    rw [Bool.and_eq_true, decide_eq_true_eq] at h
    have := allStab_few h.2
    rw [Option.getD_some]; omega
  · simp
end Go.Proofs.Ytchfibmndcfpiaa
namespace Go.Proofs.Ytchfibmndcfpiaa
set_option linter.unusedVariables false
set_option linter.unusedSimpArgs false
open Go.RowKit

set_option maxRecDepth 100000 in
set_option maxHeartbeats 32000000 in
theorem latL4 (w v0 : World) (n gw gL cL gR cR : Nat) (xL xR : List (List Int)) (HBX0 : Hid (WBl v0 gw n gL cL xL gR cR xR)) (HW0 : Hid (Below w.heap.size w v0)) (hn : 2 ≤ n ∧ n ≤ 5) (HL : Hid (xL.length = n)) (HR : Hid (xR.length = n)) (HV : Hid (wishB ⟨xL, xR⟩ = true)) (HGL : Hid (∀ y ∈ xL, y.length ≤ 1048576)) (HGR : Hid (∀ y ∈ xR, y.length ≤ 1048576)) (K : Act → World → Prop) (hK : ∀ (a : Act) (v : World), Code.wp Try.prog (((Try.f3).body.bind (restAt 20)).getD .skip) (bodyPost Try.prog Try.f3 fun e w' => e = .returned (.bool true) ∧ Below w.heap.size w w') a v → K a v)
    {z0 z1 z2 z3 z4 z7 z8 z9 z10 z11 z12 z13 z14 z15 z16 z17 z18 z19 z20 z21 z22 z23 z24 z25 z26 z27 z28 z29 z30 z31 z32 z33 z34 z35 z36 z37 z38 z39 z40 z41 z42 z43 z44 z45 z46 z47 z48 z49 z50 z51 z52 z53 z54 z55 z56 z57 z58 z59 z60 z61 z62 z63 z64 z65 z66 z67 z68 z69 z70 z71 z72 z73 z74 z75 z76 z77 z78 z79 z80 z81 z82 z83 z84 z85 z86 z87 z88 z89 z90 z91 z92 z93 z94 z95 z96 z97 z98 z99 z100 z101 z102 z103 z104 z105 z106 z107 z108 z109 z110 z111 z112 z113 z114 z115 z116 z117 z118 z119 z120 z121 z122 z123 z124 z125 z126 z127 z128 z129 z130 z131 z132 z133 z134 z135 z136 z137 z138 z139 z140 z141 z142 z143 z144 z145 z146 z147 z148 z149 z150 z151 z152 z153 z154 z155 z156 z157 z158 z159 z160 z161 z162 z163 z164 z165 z166 z167 z168 z169 z170 z171 z172 z173 z174 z175 z176 z177 z178 z179 z180 z181 z182 z183 z184 z185 z186 z187 z188 z189 z190 z191 z192 z193 z194 z195 z196 z197 z198 z199 z200 z201 z202 z203 z204 z205 z206 z207 z208 z209 z210 z211 z212 z213 z214 z215 z216 z217 z218 z219 z220 z221 z222 z223 z224 z225 z226 z227 z228 z229 z230 z231 z232 z233 z234 z235 z236 z237 z238 z239 z240 z241 z242 z243 z244 z245 z246 z247 z248 z249 z250 z251 z252 z253 z254 z255 z256 z257 z258 z259 z260 z261 z262 z263 z264 z265 z266 z267 z268 z269 z270 z271 z272 z273 z274 z275 z276 : Value} :
    Code.wp Try.prog (((Try.f3).body.bind (regAt 20)).getD .skip) (Exit.then K (bodyPost Try.prog Try.f3 fun e w' => e = .returned (.bool true) ∧ Below w.heap.size w w')) ⟨#[z0, z1, z2, z3, z4, .int .i64 n, .pointer (some ⟨gw, 0, none⟩), z7, z8, z9, z10, z11, z12, z13, z14, z15, z16, z17, z18, z19, z20, z21, z22, z23, z24, z25, z26, z27, z28, z29, z30, z31, z32, z33, z34, z35, z36, z37, z38, z39, z40, z41, z42, z43, z44, z45, z46, z47, z48, z49, z50, z51, z52, z53, z54, z55, z56, z57, z58, z59, z60, z61, z62, z63, z64, z65, z66, z67, z68, z69, z70, z71, z72, z73, z74, z75, z76, z77, z78, z79, z80, z81, z82, z83, z84, z85, z86, z87, z88, z89, z90, z91, z92, z93, z94, z95, z96, z97, z98, z99, z100, z101, z102, z103, z104, z105, z106, z107, z108, z109, z110, z111, z112, z113, z114, z115, z116, z117, z118, z119, z120, z121, z122, z123, z124, z125, z126, z127, z128, z129, z130, z131, z132, z133, z134, z135, z136, z137, z138, z139, z140, z141, z142, z143, z144, z145, z146, z147, z148, z149, z150, z151, z152, z153, z154, z155, z156, z157, z158, z159, z160, z161, z162, z163, z164, z165, z166, z167, z168, z169, z170, z171, z172, z173, z174, z175, z176, z177, z178, z179, z180, z181, z182, z183, z184, z185, z186, z187, z188, z189, z190, z191, z192, z193, z194, z195, z196, z197, z198, z199, z200, z201, z202, z203, z204, z205, z206, z207, z208, z209, z210, z211, z212, z213, z214, z215, z216, z217, z218, z219, z220, z221, z222, z223, z224, z225, z226, z227, z228, z229, z230, z231, z232, z233, z234, z235, z236, z237, z238, z239, z240, z241, z242, z243, z244, z245, z246, z247, z248, z249, z250, z251, z252, z253, z254, z255, z256, z257, z258, z259, z260, z261, z262, z263, z264, z265, z266, z267, z268, z269, z270, z271, z272, z273, z274, z275, z276], []⟩ v0 := by
  obtain ⟨cr, hcr⟩ : ∃ c, c = (((Try.f3).body.bind (restAt 20)).getD .skip) := ⟨_, rfl⟩
  rw [← hcr] at hK
  conv at hcr => rhs; whnf
  subst hcr
  conv => arg 2; whnf

  obtain ⟨n2, n5⟩ := hn
  have n2i : (2 : Int) ≤ (n : Int) := by omega
  have n5i : (n : Int) ≤ 5 := by omega
  have HWi := Lib.hid (wish_of HV.out)
  obtain ⟨q0, q1⟩ := HBX0.out.cells
  have L1 := askMatch_any v0 (some ⟨gL, 0, none⟩) cL xL (some ⟨gR, 0, none⟩) cR xR HBX0.out.W (by rw [HL.out]; omega) HGL.out (by rw [HR.out]; omega) HGR.out HV.out
  rw [HL.out, HR.out] at L1
  have HSt : Hid (stableB ⟨xL, xR⟩ (askedF ⟨xL, xR⟩) = true) := asked_stable HWi.out
  have L1 := Lib.hid L1
  go_wp2_with fail
  refine L1.out.mono ?_
  rintro e v1 ⟨g8, cn, rfl, oM, hb⟩
  have HBX1 := Lib.hid (HBX0.out.to hb)
  have HW1 := Lib.hid (below_then HW0.out hb)
  have hcap := oM.cap
  rw [(show (askedF ⟨xL, xR⟩).length = n by rw [← HL.out]; exact (mat_stab HWi.out HSt.out).len)] at hcap
  have Rm1 := Lib.hid oM.rd
  clear oM L1
  clear hb q0 q1 
  obtain ⟨q0, q1⟩ := HBX1.out.cells
  have hcn := hcap
  clear hcap q0 q1
  obtain ⟨m0, hm0⟩ : ∃ m, m = askedF ⟨xL, xR⟩ := ⟨_, rfl⟩
  have Rm0 := Rm1
  have HS0 := HSt
  rw [← hm0] at Rm0 HS0
  clear Rm1 HSt hm0
  have HW1' := HW1
  clear HW1
  have HnnN : n * n ≤ 25 := Nat.mul_le_mul n5 n5
  obtain ⟨N, hN⟩ : ∃ N, N = n * n := ⟨_, rfl⟩
  have hNi : (n : Int) * (n : Int) = (N : Int) := by rw [hN]; exact (Int.natCast_mul n n).symm
  rw [← hN] at HnnN
  have HN := Lib.hid hN
  have HLow : Hid (∀ m, stableB ⟨xL, xR⟩ m = true → lowS ⟨xL, xR⟩ m < N) := fun m hs => by
    have := low_bd HWi.out (mat_stab HWi.out hs)
    rw [HN.out]
    simp only [HL.out] at this
    omega
  have HLen : Hid (∀ m, stableB ⟨xL, xR⟩ m = true → m.length = n) := fun m hs => by
    have := (mat_stab HWi.out hs).len
    rw [← HL.out]; exact this
  clear hN
  go_wp2_with fail
  go_loopw [23, 26] (fun mv kv wr => ∃ (k : Nat) (a : Option Addr) (c : Nat) (m : List Int), kv = .int .i64 k ∧ mv = .slice a n c ∧ n ≤ c ∧ k ≤ lowS ⟨xL, xR⟩ m ∧ Hid (stableB ⟨xL, xR⟩ m = true) ∧ Hid (Rd wr wr.heap.size a (ints m)) ∧ Hid (Below v1.heap.size v1 wr)) (fun _ kv _ => (25 - intOf kv).toNat)
  case atStart => exact ⟨0, (some ⟨g8, 0, none⟩), cn, m0, rfl, rfl, hcn, Nat.zero_le _, HS0, Rm0, Below.refl _ _⟩
  case round =>
    clear Rm0 hcn HS0
    obtain ⟨k, a, c, m, rfl, rfl, hcn, hk, HS, Rm, hw⟩ := hrel
    have hkN : k < N := by have := HLow.out m HS.out; omega
    have k0 : (0 : Int) ≤ (k : Int) := Int.natCast_nonneg _
    have k1 : (k : Int) < (N : Int) := by omega
    have HB1 := Lib.hid (HBX1.out.to hw.out)
    have HW1 := Lib.hid (below_then HW1'.out hw.out)
    have HZ1 := Lib.hid hw.out
    have Hml := Lib.hid (HLen.out m HS.out)
    obtain ⟨q0, q1⟩ := HB1.out.cells
    obtain ⟨ts, hts⟩ : ∃ t, t = turnsF ⟨xL, xR⟩ m := ⟨_, rfl⟩
    have hto : turnsOfF ⟨xL, xR⟩ m = some ts := by unfold turnsOfF; rw [HV.out, HS.out, hts]; rfl
    have HTs := Lib.hid hts
    have L1 := flat_ofM (turnsOf_any wr (some ⟨gL, 0, none⟩) cL xL (some ⟨gR, 0, none⟩) cR xR a c m HB1.out.W (by rw [HL.out]; omega) HGL.out (by rw [HR.out]; omega) HGR.out Rm.out (by rw [Hml.out]; omega))
    have L2 := fun (v : World) (hb : Below wr.heap.size wr v) => flat_ofM (turnsOfR_any v (some ⟨gL, 0, none⟩) cL xL (some ⟨gR, 0, none⟩) cR xR a c m (HB1.out.to hb).W (by rw [HL.out]; omega) HGL.out (by rw [HR.out]; omega) HGR.out (Rm.out.to hb) (by rw [Hml.out]; omega) (by rw [Hml.out]; exact hcn))
    rw [hto, HL.out, HR.out, Hml.out] at L1
    simp only [hto, HL.out, HR.out, Hml.out, Option.getD_some, Option.isSome_some] at L2
    simp only [Option.getD_some, Option.isSome_some] at L1
    have L1 := Lib.hid L1
    have L2 := Lib.hid L2
    have htl : ts.length ≤ 5 := by
      rw [hts]
      have := turns_len ⟨xL, xR⟩ m
      simp only [HL.out] at this
      omega
    have htin : ∀ y ∈ ts, y.length ≤ 1048576 := fun y hy => by
      rw [hts] at hy
      have h2 := (ring_spec HWi.out (mat_stab HWi.out HS.out) hy).2.1
      have h3 := HL.out
      simp only at h2
      omega
    have HTin := Lib.hid htin
    clear hto hts htin hw
    go_wp2_with fail
    refine L1.out.mono ?_
    rintro e w2 ⟨aT, cT, rfl, oT, hb2⟩
    have HB2 := Lib.hid (HB1.out.to hb2)
    have HW2 := Lib.hid (below_then HW1.out hb2)
    have HZ2 := Lib.hid (below_then HZ1.out hb2)
    have Rm2 := Lib.hid (Rm.out.to hb2)
    have RT2 := Lib.hid oT.rd
    have L3 := Lib.hid (L2.out w2 hb2)
    clear L1 L2 oT hb2 q0 q1 HB1 HW1 Rm
    obtain ⟨q0, q1⟩ := HB2.out.cells
    go_wp2_with fail
    refine L3.out.mono ?_
    rintro e w3 ⟨aU, cU, rfl, oU, hb3⟩
    have HB3 := Lib.hid (HB2.out.to hb3)
    have HW3 := Lib.hid (below_then HW2.out hb3)
    have HZ3 := Lib.hid (below_then HZ2.out hb3)
    have Rm3 := Lib.hid (Rm2.out.to hb3)
    have RT3 := Lib.hid (RdII.to RT2.out hb3)
    have RU3 := Lib.hid oU.rd
    clear L3 oU hb3 q0 q1 HB2 HW2 Rm2 RT2
    have hll : ((ts.length : Int) != (ts.length : Int)) = false := by simp
    go_wp2_with fail
    go_loopw [199] (fun iv wi => ∃ (i j : Nat), i ≤ ts.length ∧ iv = .int .i64 i ∧ wi = w3.drewN j) (fun iv _ => ts.length - (intOf iv).toNat)
    case atStart => exact ⟨0, 0, Nat.zero_le _, rfl, rfl⟩
    case round =>
      obtain ⟨i, j, hi, rfl, rfl⟩ := hrel
      have i0 : (0 : Int) ≤ (i : Int) := Int.natCast_nonneg _
      by_cases hlt : i < ts.length
      · have i1 : (i : Int) < (ts.length : Int) := by omega
        obtain ⟨bT, oT, ys, aT2, cT2, eT, hbT, hcT, _, hrT, hyT⟩ := RT3.out.get hlt
        obtain ⟨bU, oU, zs, aU2, cU2, eU, hbU, hcU, _, hrU, hyU⟩ := RU3.out.get hlt
        have hyz : ys = zs := by have := hyT.out.symm.trans hyU.out; injection this
        subst hyz eT eU
        have hyl := HTin.out ys (List.mem_of_getElem? hyT.out)
        have LB := Lib.hid (fun q => b10Ints_any (w3.drewN q) aT2 aU2 cT2 cU2 ys hrT hrU (by omega))
        clear hrT hrU hyT hyU
        go_wp2_with fail
        go_quiet ((go_at_call 14; exact qd2 (LB.out _)))
        go_wp2_with fail
        go_roundw
        case rel => exact ⟨i + 1, j + nq, by omega, by go_num, rfl⟩
        case measure => simp [intOf]; omega
      · obtain rfl : i = ts.length := by omega
        have hbj := drewN_below w3 j
        obtain ⟨w4, hw4⟩ : ∃ W, W = w3.drewN j := ⟨_, rfl⟩
        rw [← hw4] at hbj ⊢
        have HB4 := Lib.hid (HB3.out.to hbj)
        have HW4 := Lib.hid (below_then HW3.out hbj)
        have HZ4 := Lib.hid (below_then HZ3.out hbj)
        have Rm4 := Lib.hid (Rm3.out.to hbj)
        have RT4 := Lib.hid (RdII.to RT3.out hbj)
        clear hbj hw4 HB3 HW3 Rm3 RT3 RU3 hlt hi
        obtain ⟨q0, q1⟩ := HB4.out.cells
        by_cases ht0 : ts.length = 0
        · have htn : turnsF ⟨xL, xR⟩ m = [] := by rw [← HTs.out]; exact List.eq_nil_of_length_eq_zero ht0
          have hb0 : ((ts.length : Int) == 0) = true := by rw [ht0]; rfl
          have HLast : Hid (∀ b : Nat, b < n → ∀ a : Nat, (askedF (turnW ⟨xL, xR⟩)).getD b 0 = (a : Int) → a < n ∧ m.getD a 0 = (b : Int)) := fun b hb a ha => by
            have := last_all HWi.out HS.out htn (b := b) (a := a) (by rw [HL.out]; exact hb) ha
            simp only [HL.out] at this
            exact this
          have LT := turnWishesR_any w4 gL 0 cL xL gR 0 cR xR HB4.out.R.1 HB4.out.R.2 HGL.out HGR.out HV.out
          rw [HL.out, HR.out] at LT
          have LT := Lib.hid LT
          clear ht0 htn
          go_wp2_with fail
          refine LT.out.mono ?_
          rintro e w5 ⟨d0, e0, d1, e1, rfl, r0, r1, hb5⟩
          rw [HL.out, HR.out]
          obtain ⟨gt, hgt⟩ : ∃ g, g = w5.heap.size := ⟨_, rfl⟩
          obtain ⟨w6, hw6⟩ : ∃ W, W = w5.alloc (.cells #[.slice (some ⟨d0, 0, none⟩) n e0, .slice (some ⟨d1, 0, none⟩) n e1] 27) := ⟨_, rfl⟩
          have hb6 : Below w4.heap.size w4 w6 := by rw [hw6]; exact below_then hb5 (bl1 _ _)
          have HT6 : Hid (WBl w6 gt n d0 e0 xR d1 e1 xL) := by rw [hw6, hgt]; exact ⟨Blk.new w5 _ _, r0.to (bl1 _ _), r1.to (bl1 _ _)⟩
          have HW6 := Lib.hid (below_then HW4.out hb6)
          have Rm6 := Lib.hid (Rm4.out.to hb6)
          have Hw6 := Lib.hid hw6
          have Hgt := Lib.hid hgt
          clear hw6 hgt r0 r1 hb5 hb6 LT
          go_upto_region 38 with fail
          rw [← Hw6.out, ← Hgt.out]
          obtain ⟨t0, t1⟩ := HT6.out.cells
          have hvt : wishB ⟨xR, xL⟩ = true := wishB_of (turn_wish HWi.out)
          have LA := askMatchR_any w6 (some ⟨d0, 0, none⟩) e0 xR (some ⟨d1, 0, none⟩) e1 xL HT6.out.W (by rw [HR.out]; omega) HGR.out (by rw [HL.out]; omega) HGL.out hvt
          rw [HL.out, HR.out] at LA
          have hal : (askedF (turnW ⟨xL, xR⟩)).length = n := by
            have := ask_len (turn_wish HWi.out) (ones_pos (turnW ⟨xL, xR⟩))
            have h2 : (turnW ⟨xL, xR⟩).L.length = n := HR.out
            unfold askedF
            rw [this, h2]
          obtain ⟨la, hla⟩ : ∃ l, l = askedF (turnW ⟨xL, xR⟩) := ⟨_, rfl⟩
          rw [← hla] at hal
          have hla2 : askedF ⟨xR, xL⟩ = la := hla.symm
          rw [hla2] at LA
          have LA := Lib.hid LA
          have HLa2 : Hid (∀ b : Nat, b < n → ∀ a : Nat, la.getD b 0 = (a : Int) → a < n ∧ m.getD a 0 = (b : Int)) := by rw [hla]; exact HLast.out
          have HVal : Hid (∀ b : Nat, b < n → la.getD b 0 < 0 ∨ ∃ a : Nat, la.getD b 0 = (a : Int)) := fun b hb => by
            by_cases h : la.getD b 0 < 0
            · exact .inl h
            · exact .inr ⟨(la.getD b 0).toNat, by omega⟩
          have Hal := Lib.hid hal
          clear hal hla hla2 HLast hvt q0 q1
          go_wp2_with fail
          refine LA.out.mono ?_
          rintro e w7 ⟨gl, cl, rfl, ol, hb7⟩
          have HW7 := Lib.hid (below_then HW6.out hb7)
          have Rm7 := Rm6.out.to hb7
          have Rl7 := ol.rd
          have HcL : Hid (∀ t, t < n → w7.cell? ⟨gl, t, none⟩ = some (.int .i64 (la.getD t 0))) := fun t ht => cells_at Rl7 (by rw [Hal.out]; exact ht)
          obtain ⟨bm, om, hbm, _, hcm⟩ := Rm7.at (k := 0) (by rw [Hml.out]; omega)
          subst hbm
          have HcM : Hid (∀ t, t < n → w7.cell? ⟨bm, om + t, none⟩ = some (.int .i64 (m.getD t 0))) := fun t ht => hcm t (by rw [Hml.out]; exact ht)
          clear LA ol hb7 Rm7 Rl7 hcm t0 t1
          go_wp2_with fail
          go_loop [231] (fun iv => ∃ i : Nat, i ≤ n ∧ iv = .int .i64 i) (fun iv => n - (intOf iv).toNat)
          case atStart => exact ⟨0, Nat.zero_le _, rfl⟩
          case round =>
            obtain ⟨i, hi, rfl⟩ := hrel
            have i0 : (0 : Int) ≤ (i : Int) := Int.natCast_nonneg _
            by_cases hlt : i < n
            · have i1 : (i : Int) < (n : Int) := by omega
              have cl1 := HcL.out i hlt
              rcases HVal.out i hlt with hneg | ⟨a2, ha2⟩
              · have hd : decide (0 ≤ la.getD i 0) = false := decide_eq_false (by omega)
                have hd2 : ¬ (0 ≤ la.getD i 0) := by omega
                generalize la.getD i 0 = x at *
                go_wp2_with fail
                go_round
                case rel => exact ⟨i + 1, by omega, by go_num⟩
                case measure => simp [intOf]; omega
              · obtain ⟨ha3, ha4⟩ := HLa2.out i hlt a2 ha2
                have cm1 := HcM.out a2 ha3
                rw [ha4] at cm1
                rw [ha2] at cl1
                have b0 : (0 : Int) ≤ (a2 : Int) := Int.natCast_nonneg _
                have b1 : (a2 : Int) < (n : Int) := by omega
                have hii : ((i : Int) != (i : Int)) = false := by simp
                clear ha2 ha4
                go_wp2_with fail
                go_round
                case rel => exact ⟨i + 1, by omega, by go_num⟩
                case measure => simp [intOf]; omega
            · obtain rfl : i = n := by omega
              have HF := Lib.hid HW7.out
              go_wp2_with fail
              go_ret
              exact ⟨rfl, HF.out⟩
        · have hb0 : ((ts.length : Int) == 0) = false := by rw [beq_eq_false_iff_ne]; omega
          have tl1 : (0 : Int) < (ts.length : Int) := by omega
          have tl0 : 0 < ts.length := by omega
          obtain ⟨bT, oT, ring, aT2, cT2, eT, hbT, hcT, _, hrT, hyT⟩ := RT4.out.get (k := 0) (by omega)
          subst eT
          have hring : ring ∈ turnsF ⟨xL, xR⟩ m := by rw [← HTs.out]; exact List.mem_of_getElem? hyT.out
          obtain ⟨hst, hlow⟩ := taken_stable HWi.out HS.out hring
          have hry := HTin.out ring (List.mem_of_getElem? hyT.out)
          obtain ⟨nx, hnx⟩ : ∃ l, l = takenF m ring := ⟨_, rfl⟩
          have htk : takeTurnF ⟨xL, xR⟩ m ring = some nx := by rw [hnx]; exact takeTurn_yes HV.out HS.out hring
          rw [← hnx] at hst hlow
          have hnl := HLen.out nx hst
          have LT : Hid (∀ v, Below w4.heap.size w4 v → Calls Try.prog 21 #[.agg #[.slice (some ⟨gL, 0, none⟩) n cL, .slice (some ⟨gR, 0, none⟩) n cR], .slice a n c, .slice aT2 ring.length cT2] v fun e w' => ∃ a' c', e = .returned (.tuple #[.slice a' n c', .bool true]) ∧ n ≤ c' ∧ Rd w' w'.heap.size a' (ints nx) ∧ Below v.heap.size v w') := fun v hb => by
            have L := takeTurn_any v (some ⟨gL, 0, none⟩) cL xL (some ⟨gR, 0, none⟩) cR xR a c m aT2 cT2 ring (HB4.out.to hb).W (by rw [HL.out]; omega) HGL.out (by rw [HR.out]; omega) HGR.out (Rm4.out.to hb) (by rw [Hml.out]; omega) (hrT.to hb) hry
            rw [htk, HL.out, HR.out, Hml.out] at L
            refine L.mono fun e w' h => ?_
            obtain ⟨hbb, a', c', he, ho⟩ := h
            rw [hnl] at he ho
            obtain ⟨a3, c3, e3, h3, _⟩ := own_shape ho
            injection e3 with _ _ e3
            exact ⟨a', c', he, by omega, rd_of_own ho (Nat.le_refl _), hbb⟩
          have EE : Hid (w4.cell? ⟨gw, 0, none⟩ = some (.slice (some ⟨gL, 0, none⟩) n cL) ∧ w4.cell? ⟨gw, 1, none⟩ = some (.slice (some ⟨gR, 0, none⟩) n cR) ∧ w4.cell? ⟨bT, oT, none⟩ = some (.slice aT2 ring.length cT2)) := ⟨q0, q1, hcT⟩
          have hbT2 : bT < w4.heap.size := hbT
          have hgw2 : gw < w4.heap.size := HB4.out.K.lt
          have EK : Hid (∀ v, Below w4.heap.size w4 v → v.cell? ⟨gw, 0, none⟩ = some (.slice (some ⟨gL, 0, none⟩) n cL) ∧ v.cell? ⟨gw, 1, none⟩ = some (.slice (some ⟨gR, 0, none⟩) n cR) ∧ v.cell? ⟨bT, oT, none⟩ = some (.slice aT2 ring.length cT2)) := fun v hb => ⟨(hb.cell (p := ⟨gw, 0, none⟩) hgw2).trans EE.out.1, (hb.cell (p := ⟨gw, 1, none⟩) hgw2).trans EE.out.2.1, (hb.cell (p := ⟨bT, oT, none⟩) hbT2).trans EE.out.2.2⟩
          have EB0 : Hid (Below w4.heap.size w4 w4.drew) := below_drew' (Below.refl _ _)
          have hcT' : w4.cell? ⟨bT, oT, none⟩ = some (.slice aT2 ring.length cT2) := hcT
          have HSn := Lib.hid hst
          have Hnl := Lib.hid hnl
          have LS : Hid (∀ v, Below w4.heap.size w4 v → ∀ a' c', Rd v v.heap.size a' (ints nx) → Calls Try.prog 15 #[.agg #[.slice (some ⟨gL, 0, none⟩) n cL, .slice (some ⟨gR, 0, none⟩) n cR], .slice a' n c'] v fun e w' => e = .returned (.tuple #[.bool true, .bool true]) ∧ Below v.heap.size v w') := fun v hb a' c' hr => by
            have L := isStable_any v (some ⟨gL, 0, none⟩) cL xL (some ⟨gR, 0, none⟩) cR xR a' c' nx (HB4.out.to hb).W (by rw [HL.out]; omega) HGL.out (by rw [HR.out]; omega) HGR.out hr (by rw [Hnl.out]; omega)
            rw [isStableF_yes HV.out HSn.out, HL.out, HR.out, Hnl.out] at L
            exact L
          clear hrT hyT hring hst htk hnx hnl RT4 ht0
          go_wp2_with fail
          go_region_held3 (fun w' => w'.cell? ⟨gw, 0, none⟩ = some (.slice (some ⟨gL, 0, none⟩) n cL) ∧ w'.cell? ⟨gw, 1, none⟩ = some (.slice (some ⟨gR, 0, none⟩) n cR) ∧ w'.cell? ⟨bT, oT, none⟩ = some (.slice aT2 ring.length cT2))
            (first | exact EE.out | exact HQ.out)
            ((go_at_call 21; refine (LT.out _ EB0.out).mono ?_; rintro e wq ⟨aN, cN, rfl, hcN, rN, hbq⟩; have EBq := Lib.hid (below_then EB0.out hbq); have HQ := Lib.hid (EK.out wq EBq.out)))
          all_goals
            have LS1 := Lib.hid (LS.out wq EBq.out aN cN rN)
            have RN := Lib.hid rN
            obtain ⟨q0, q1, q2⟩ := HQ.out
            clear rN hbq LS
            go_wp2_with fail
            refine LS1.out.mono ?_
            rintro e w9 ⟨rfl, hb9⟩
            have RN9 := Lib.hid (RN.out.to hb9)
            have HW9 : Hid (Below v1.heap.size v1 w9) := below_then HZ4.out (below_then EBq.out hb9)
            clear hb9 LS1 q0 q1 q2
            go_wp2_with fail
            go_roundw
            case rel => exact ⟨k + 1, aN, cN, nx, by go_num, rfl, hcN, by omega, HSn, RN9, HW9⟩
            case measure => simp [intOf]; omega
end Go.Proofs.Ytchfibmndcfpiaa
namespace Go.Proofs.Ytchfibmndcfpiaa
set_option linter.unusedVariables false
set_option linter.unusedSimpArgs false
open Go.RowKit

set_option maxRecDepth 100000 in
set_option maxHeartbeats 32000000 in
theorem latL3 (w v0 : World) (n gw gL cL gR cR : Nat) (xL xR : List (List Int)) (aa ab : Option Addr) (ca cb : Nat) (ma mb : List Int) (HBX0 : Hid (WBl v0 gw n gL cL xL gR cR xR)) (HW0 : Hid (Below w.heap.size w v0)) (hn : 2 ≤ n ∧ n ≤ 5) (HL : Hid (xL.length = n)) (HR : Hid (xR.length = n)) (HV : Hid (wishB ⟨xL, xR⟩ = true)) (HGL : Hid (∀ y ∈ xL, y.length ≤ 1048576)) (HGR : Hid (∀ y ∈ xR, y.length ≤ 1048576)) (Ra0 : Hid (Rd v0 v0.heap.size aa (ints ma))) (Rb0 : Hid (Rd v0 v0.heap.size ab (ints mb))) (hca : n ≤ ca) (hcb : n ≤ cb) (HSa : Hid (stableB ⟨xL, xR⟩ ma = true)) (HSb : Hid (stableB ⟨xL, xR⟩ mb = true)) (K : Act → World → Prop) (hK : ∀ (a : Act) (v : World), Code.wp Try.prog (((Try.f3).body.bind (restAt 10)).getD .skip) (bodyPost Try.prog Try.f3 fun e w' => e = .returned (.bool true) ∧ Below w.heap.size w w') a v → K a v)
    {z0 z1 z2 z3 z4 z7 z8 z11 z12 z13 z14 z15 z16 z17 z18 z19 z20 z21 z22 z23 z24 z25 z26 z27 z28 z29 z30 z31 z32 z33 z34 z35 z36 z37 z38 z39 z40 z41 z42 z43 z44 z45 z46 z47 z48 z49 z50 z51 z52 z53 z54 z55 z56 z57 z58 z59 z60 z61 z62 z63 z64 z65 z66 z67 z68 z69 z70 z71 z72 z73 z74 z75 z76 z77 z78 z79 z80 z81 z82 z83 z84 z85 z86 z87 z88 z89 z90 z91 z92 z93 z94 z95 z96 z97 z98 z99 z100 z101 z102 z103 z104 z105 z106 z107 z108 z109 z110 z111 z112 z113 z114 z115 z116 z117 z118 z119 z120 z121 z122 z123 z124 z125 z126 z127 z128 z129 z130 z131 z132 z133 z134 z135 z136 z137 z138 z139 z140 z141 z142 z143 z144 z145 z146 z147 z148 z149 z150 z151 z152 z153 z154 z155 z156 z157 z158 z159 z160 z161 z162 z163 z164 z165 z166 z167 z168 z169 z170 z171 z172 z173 z174 z175 z176 z177 z178 z179 z180 z181 z182 z183 z184 z185 z186 z187 z188 z189 z190 z191 z192 z193 z194 z195 z196 z197 z198 z199 z200 z201 z202 z203 z204 z205 z206 z207 z208 z209 z210 z211 z212 z213 z214 z215 z216 z217 z218 z219 z220 z221 z222 z223 z224 z225 z226 z227 z228 z229 z230 z231 z232 z233 z234 z235 z236 z237 z238 z239 z240 z241 z242 z243 z244 z245 z246 z247 z248 z249 z250 z251 z252 z253 z254 z255 z256 z257 z258 z259 z260 z261 z262 z263 z264 z265 z266 z267 z268 z269 z270 z271 z272 z273 z274 z275 z276 : Value} :
    Code.wp Try.prog (((Try.f3).body.bind (regAt 10)).getD .skip) (Exit.then K (bodyPost Try.prog Try.f3 fun e w' => e = .returned (.bool true) ∧ Below w.heap.size w w')) ⟨#[z0, z1, z2, z3, z4, .int .i64 n, .pointer (some ⟨gw, 0, none⟩), z7, z8, .slice aa n ca, .slice ab n cb, z11, z12, z13, z14, z15, z16, z17, z18, z19, z20, z21, z22, z23, z24, z25, z26, z27, z28, z29, z30, z31, z32, z33, z34, z35, z36, z37, z38, z39, z40, z41, z42, z43, z44, z45, z46, z47, z48, z49, z50, z51, z52, z53, z54, z55, z56, z57, z58, z59, z60, z61, z62, z63, z64, z65, z66, z67, z68, z69, z70, z71, z72, z73, z74, z75, z76, z77, z78, z79, z80, z81, z82, z83, z84, z85, z86, z87, z88, z89, z90, z91, z92, z93, z94, z95, z96, z97, z98, z99, z100, z101, z102, z103, z104, z105, z106, z107, z108, z109, z110, z111, z112, z113, z114, z115, z116, z117, z118, z119, z120, z121, z122, z123, z124, z125, z126, z127, z128, z129, z130, z131, z132, z133, z134, z135, z136, z137, z138, z139, z140, z141, z142, z143, z144, z145, z146, z147, z148, z149, z150, z151, z152, z153, z154, z155, z156, z157, z158, z159, z160, z161, z162, z163, z164, z165, z166, z167, z168, z169, z170, z171, z172, z173, z174, z175, z176, z177, z178, z179, z180, z181, z182, z183, z184, z185, z186, z187, z188, z189, z190, z191, z192, z193, z194, z195, z196, z197, z198, z199, z200, z201, z202, z203, z204, z205, z206, z207, z208, z209, z210, z211, z212, z213, z214, z215, z216, z217, z218, z219, z220, z221, z222, z223, z224, z225, z226, z227, z228, z229, z230, z231, z232, z233, z234, z235, z236, z237, z238, z239, z240, z241, z242, z243, z244, z245, z246, z247, z248, z249, z250, z251, z252, z253, z254, z255, z256, z257, z258, z259, z260, z261, z262, z263, z264, z265, z266, z267, z268, z269, z270, z271, z272, z273, z274, z275, z276], []⟩ v0 := by
  obtain ⟨cr, hcr⟩ : ∃ c, c = (((Try.f3).body.bind (restAt 10)).getD .skip) := ⟨_, rfl⟩
  rw [← hcr] at hK
  conv at hcr => rhs; whnf
  subst hcr
  conv => arg 2; whnf

  obtain ⟨n2, n5⟩ := hn
  have n2i : (2 : Int) ≤ (n : Int) := by omega
  have n5i : (n : Int) ≤ 5 := by omega
  have HWi := Lib.hid (wish_of HV.out)
  have hla : ma.length = n := by have := (mat_stab HWi.out HSa.out).len; rw [← HL.out]; exact this
  have hlb : mb.length = n := by have := (mat_stab HWi.out HSb.out).len; rw [← HL.out]; exact this
  obtain ⟨me, hme⟩ : ∃ l, l = chooseL ⟨xL, xR⟩ ma mb true := ⟨_, rfl⟩
  obtain ⟨jo, hjo⟩ : ∃ l, l = chooseL ⟨xL, xR⟩ ma mb false := ⟨_, rfl⟩
  have HCm : Hid (chooseF ⟨xL, xR⟩ ma mb true = some me) := by rw [hme]; exact chooseF_yes HV.out HSa.out HSb.out true
  have HCj : Hid (chooseF ⟨xL, xR⟩ ma mb false = some jo) := by rw [hjo]; exact chooseF_yes HV.out HSa.out HSb.out false
  have HSm : Hid (stableB ⟨xL, xR⟩ me = true) := by rw [hme]; exact choose_stable HWi.out HSa.out HSb.out true
  have HSj : Hid (stableB ⟨xL, xR⟩ jo = true) := by rw [hjo]; exact choose_stable HWi.out HSa.out HSb.out false
  have Hme : Hid (me.length = n) := by rw [hme, Hid, choose_len, hla]
  have Hjo : Hid (jo.length = n) := by rw [hjo, Hid, choose_len, hla]
  have Hla := Lib.hid hla
  have Hlb := Lib.hid hlb
  clear hla hlb hme hjo
  obtain ⟨q0, q1⟩ := HBX0.out.cells
  have L1 := meet_any v0 (some ⟨gL, 0, none⟩) cL xL (some ⟨gR, 0, none⟩) cR xR aa ca ma ab cb mb HBX0.out.W (by rw [HL.out]; omega) HGL.out (by rw [HR.out]; omega) HGR.out Ra0.out (by rw [Hla.out]; omega) Rb0.out (by rw [Hlb.out]; omega)
  rw [HCm.out, HL.out, HR.out, Hla.out, Hlb.out] at L1
  have L1 : Hid (Calls _ _ _ v0 fun e w' => ∃ a c, e = .returned (.tuple #[.slice a n c, .bool true]) ∧ Rd w' w'.heap.size a (ints me) ∧ Below v0.heap.size v0 w') := L1.mono fun e w' h => by
    obtain ⟨hbb, a, c, he, ho⟩ := h
    rw [Hme.out] at he ho
    exact ⟨a, c, he, rd_of_own ho (Nat.le_refl _), hbb⟩
  go_wp2_with fail
  refine L1.out.mono ?_
  rintro e v1 ⟨a1, c1, rfl, oM, hb⟩
  have HBX1 := Lib.hid (HBX0.out.to hb)
  have HW1 := Lib.hid (below_then HW0.out hb)
  have Ra1 := Lib.hid (Ra0.out.to hb)
  have Rb1 := Lib.hid (Rb0.out.to hb)
  have R11 := Lib.hid oM
  clear oM L1
  clear hb q0 q1 Ra0 Rb0
  obtain ⟨q0, q1⟩ := HBX1.out.cells
  have L1 := join_any v1 (some ⟨gL, 0, none⟩) cL xL (some ⟨gR, 0, none⟩) cR xR aa ca ma ab cb mb HBX1.out.W (by rw [HL.out]; omega) HGL.out (by rw [HR.out]; omega) HGR.out Ra1.out (by rw [Hla.out]; omega) Rb1.out (by rw [Hlb.out]; omega)
  rw [HCj.out, HL.out, HR.out, Hla.out, Hlb.out] at L1
  have L1 : Hid (Calls _ _ _ v1 fun e w' => ∃ a c, e = .returned (.tuple #[.slice a n c, .bool true]) ∧ Rd w' w'.heap.size a (ints jo) ∧ Below v1.heap.size v1 w') := L1.mono fun e w' h => by
    obtain ⟨hbb, a, c, he, ho⟩ := h
    rw [Hjo.out] at he ho
    exact ⟨a, c, he, rd_of_own ho (Nat.le_refl _), hbb⟩
  go_wp2_with fail
  refine L1.out.mono ?_
  rintro e v2 ⟨a2, c2, rfl, oM, hb⟩
  have HBX2 := Lib.hid (HBX1.out.to hb)
  have HW2 := Lib.hid (below_then HW1.out hb)
  have Ra2 := Lib.hid (Ra1.out.to hb)
  have Rb2 := Lib.hid (Rb1.out.to hb)
  have R22 := Lib.hid oM
  have R12 := Lib.hid (R11.out.to hb)
  clear oM L1 R11
  clear hb q0 q1 Ra1 Rb1
  obtain ⟨q0, q1⟩ := HBX2.out.cells
  have L1 := meetR_any v2 (some ⟨gL, 0, none⟩) cL xL (some ⟨gR, 0, none⟩) cR xR aa ca ma ab cb mb HBX2.out.W (by rw [HL.out]; omega) HGL.out (by rw [HR.out]; omega) HGR.out Ra2.out (by rw [Hla.out]; omega) (by rw [Hla.out]; exact hca) Rb2.out (by rw [Hlb.out]; omega) (by rw [Hlb.out]; exact hcb)
  rw [HCm.out, HL.out, HR.out, Hla.out, Hlb.out] at L1
  have L1 : Hid (Calls _ _ _ v2 fun e w' => ∃ a c, e = .returned (.tuple #[.slice a n c, .bool true]) ∧ Rd w' w'.heap.size a (ints me) ∧ Below v2.heap.size v2 w') := L1.mono fun e w' h => by
    obtain ⟨hbb, a, c, he, ho⟩ := h
    rw [Hme.out] at he ho
    exact ⟨a, c, he, rd_of_own ho (Nat.le_refl _), hbb⟩
  go_wp2_with fail
  refine L1.out.mono ?_
  rintro e v3 ⟨a3, c3, rfl, oM, hb⟩
  have HBX3 := Lib.hid (HBX2.out.to hb)
  have HW3 := Lib.hid (below_then HW2.out hb)
  have Ra3 := Lib.hid (Ra2.out.to hb)
  have Rb3 := Lib.hid (Rb2.out.to hb)
  have R33 := Lib.hid oM
  have R13 := Lib.hid (R12.out.to hb)
  have R23 := Lib.hid (R22.out.to hb)
  clear oM L1 R12 R22
  clear hb q0 q1 Ra2 Rb2
  obtain ⟨q0, q1⟩ := HBX3.out.cells
  have L1 := joinR_any v3 (some ⟨gL, 0, none⟩) cL xL (some ⟨gR, 0, none⟩) cR xR aa ca ma ab cb mb HBX3.out.W (by rw [HL.out]; omega) HGL.out (by rw [HR.out]; omega) HGR.out Ra3.out (by rw [Hla.out]; omega) (by rw [Hla.out]; exact hca) Rb3.out (by rw [Hlb.out]; omega) (by rw [Hlb.out]; exact hcb)
  rw [HCj.out, HL.out, HR.out, Hla.out, Hlb.out] at L1
  have L1 : Hid (Calls _ _ _ v3 fun e w' => ∃ a c, e = .returned (.tuple #[.slice a n c, .bool true]) ∧ Rd w' w'.heap.size a (ints jo) ∧ Below v3.heap.size v3 w') := L1.mono fun e w' h => by
    obtain ⟨hbb, a, c, he, ho⟩ := h
    rw [Hjo.out] at he ho
    exact ⟨a, c, he, rd_of_own ho (Nat.le_refl _), hbb⟩
  go_wp2_with fail
  refine L1.out.mono ?_
  rintro e v4 ⟨a4, c4, rfl, oM, hb⟩
  have HBX4 := Lib.hid (HBX3.out.to hb)
  have HW4 := Lib.hid (below_then HW3.out hb)
  have R44 := Lib.hid oM
  have R14 := Lib.hid (R13.out.to hb)
  have R24 := Lib.hid (R23.out.to hb)
  have R34 := Lib.hid (R33.out.to hb)
  clear oM L1 R13 R23 R33 Ra3 Rb3
  clear hb q0 q1 
  obtain ⟨q0, q1⟩ := HBX4.out.cells
  have L1 := b10Ints_any v4 a1 a3 c1 c3 me R14.out R34.out (by rw [Hme.out]; omega)
  have L2 := fun k : Nat => b10Ints_any (v4.drewN k) a2 a4 c2 c4 jo R24.out R44.out (by rw [Hjo.out]; omega)
  rw [Hme.out] at L1
  simp only [Hjo.out] at L2
  have L1 := Lib.hid L1
  have L2 := Lib.hid L2
  go_wp2_with fail
  refine L1.out.mono ?_
  rintro e v5 ⟨rfl, k5, rfl⟩
  clear L1
  go_wp2_with fail
  refine (L2.out k5).mono ?_
  rintro e v6 ⟨rfl, k6, rfl⟩
  clear L2
  go_upto_region 16 with fail
  obtain ⟨v5, hv5⟩ : ∃ W, W = (v4.drewN k5).drewN k6 := ⟨_, rfl⟩
  have hb : Below v4.heap.size v4 v5 := by rw [hv5]; exact below_drewN (drewN_below v4 k5) k6
  first | rw [← hv5] | (rw [World.drewN_drewN] at hv5; rw [← hv5])
  have HBX5 := Lib.hid (HBX4.out.to hb)
  have HW5 := Lib.hid (below_then HW4.out hb)
  have R15 := Lib.hid (R14.out.to hb)
  have R25 := Lib.hid (R24.out.to hb)
  clear hb hv5 q0 q1 R14 R24 R34 R44
  obtain ⟨q0, q1⟩ := HBX5.out.cells
  have L1 := isStable_any v5 (some ⟨gL, 0, none⟩) cL xL (some ⟨gR, 0, none⟩) cR xR a1 c1 me HBX5.out.W (by rw [HL.out]; omega) HGL.out (by rw [HR.out]; omega) HGR.out R15.out (by rw [Hme.out]; omega)
  rw [isStableF_yes HV.out HSm.out, HL.out, HR.out, Hme.out] at L1
  have L1 := Lib.hid L1
  go_wp2_with fail
  refine L1.out.mono ?_
  rintro e v6 ⟨rfl, hb⟩
  have HBX6 := Lib.hid (HBX5.out.to hb)
  have HW6 := Lib.hid (below_then HW5.out hb)
  have R26 := Lib.hid (R25.out.to hb)
  clear L1 R25 R15
  clear hb q0 q1 
  obtain ⟨q0, q1⟩ := HBX6.out.cells
  have L1 := isStable_any v6 (some ⟨gL, 0, none⟩) cL xL (some ⟨gR, 0, none⟩) cR xR a2 c2 jo HBX6.out.W (by rw [HL.out]; omega) HGL.out (by rw [HR.out]; omega) HGR.out R26.out (by rw [Hjo.out]; omega)
  rw [isStableF_yes HV.out HSj.out, HL.out, HR.out, Hjo.out] at L1
  have L1 := Lib.hid L1
  go_wp2_with fail
  refine L1.out.mono ?_
  rintro e v7 ⟨rfl, hb⟩
  have HBX7 := Lib.hid (HBX6.out.to hb)
  have HW7 := Lib.hid (below_then HW6.out hb)
  clear L1 R26
  clear hb q0 q1 
  obtain ⟨q0, q1⟩ := HBX7.out.cells
  go_upto_region 20 with fail
  exact latL4 w v7 n gw gL cL gR cR xL xR HBX7 HW7 ⟨n2, n5⟩ HL HR HV HGL HGR _ (by assumption)
end Go.Proofs.Ytchfibmndcfpiaa
namespace Go.Proofs.Ytchfibmndcfpiaa
set_option linter.unusedVariables false
set_option linter.unusedSimpArgs false
open Go.RowKit

set_option maxRecDepth 100000 in
set_option maxHeartbeats 32000000 in
theorem latL2 (w v0 : World) (n gw gL cL gR cR : Nat) (xL xR : List (List Int)) (am : Option Addr) (cm : Nat) (ms : List Int) (HBX0 : Hid (WBl v0 gw n gL cL xL gR cR xR)) (HW0 : Hid (Below w.heap.size w v0)) (hn : 2 ≤ n ∧ n ≤ 5) (HL : Hid (xL.length = n)) (HR : Hid (xR.length = n)) (HV : Hid (wishB ⟨xL, xR⟩ = true)) (HGL : Hid (∀ y ∈ xL, y.length ≤ 1048576)) (HGR : Hid (∀ y ∈ xR, y.length ≤ 1048576)) (LM : Hid (∀ (v : World), Below w.heap.size w v → ∀ (i n : Int), 0 ≤ i → i ≤ 1000000 → Calls Try.prog 7 #[.slice am ms.length cm, .int .i64 i, .int .i64 n] v fun e w' => e = .returned (.int .i64 (atF ms i n)) ∧ v = w')) (K : Act → World → Prop) (hK : ∀ (a : Act) (v : World), Code.wp Try.prog (((Try.f3).body.bind (restAt 5)).getD .skip) (bodyPost Try.prog Try.f3 fun e w' => e = .returned (.bool true) ∧ Below w.heap.size w w') a v → K a v)
    {z0 z2 z3 z4 z7 z8 z9 z10 z11 z12 z13 z14 z15 z16 z17 z18 z19 z20 z21 z22 z23 z24 z25 z26 z27 z28 z29 z30 z31 z32 z33 z34 z35 z36 z37 z38 z39 z40 z41 z42 z43 z44 z45 z46 z47 z48 z49 z50 z51 z52 z53 z54 z55 z56 z57 z58 z59 z60 z61 z62 z63 z64 z65 z66 z67 z68 z69 z70 z71 z72 z73 z74 z75 z76 z77 z78 z79 z80 z81 z82 z83 z84 z85 z86 z87 z88 z89 z90 z91 z92 z93 z94 z95 z96 z97 z98 z99 z100 z101 z102 z103 z104 z105 z106 z107 z108 z109 z110 z111 z112 z113 z114 z115 z116 z117 z118 z119 z120 z121 z122 z123 z124 z125 z126 z127 z128 z129 z130 z131 z132 z133 z134 z135 z136 z137 z138 z139 z140 z141 z142 z143 z144 z145 z146 z147 z148 z149 z150 z151 z152 z153 z154 z155 z156 z157 z158 z159 z160 z161 z162 z163 z164 z165 z166 z167 z168 z169 z170 z171 z172 z173 z174 z175 z176 z177 z178 z179 z180 z181 z182 z183 z184 z185 z186 z187 z188 z189 z190 z191 z192 z193 z194 z195 z196 z197 z198 z199 z200 z201 z202 z203 z204 z205 z206 z207 z208 z209 z210 z211 z212 z213 z214 z215 z216 z217 z218 z219 z220 z221 z222 z223 z224 z225 z226 z227 z228 z229 z230 z231 z232 z233 z234 z235 z236 z237 z238 z239 z240 z241 z242 z243 z244 z245 z246 z247 z248 z249 z250 z251 z252 z253 z254 z255 z256 z257 z258 z259 z260 z261 z262 z263 z264 z265 z266 z267 z268 z269 z270 z271 z272 z273 z274 z275 z276 : Value} :
    Code.wp Try.prog (((Try.f3).body.bind (regAt 5)).getD .skip) (Exit.then K (bodyPost Try.prog Try.f3 fun e w' => e = .returned (.bool true) ∧ Below w.heap.size w w')) ⟨#[z0, .slice am ms.length cm, z2, z3, z4, .int .i64 n, .pointer (some ⟨gw, 0, none⟩), z7, z8, z9, z10, z11, z12, z13, z14, z15, z16, z17, z18, z19, z20, z21, z22, z23, z24, z25, z26, z27, z28, z29, z30, z31, z32, z33, z34, z35, z36, z37, z38, z39, z40, z41, z42, z43, z44, z45, z46, z47, z48, z49, z50, z51, z52, z53, z54, z55, z56, z57, z58, z59, z60, z61, z62, z63, z64, z65, z66, z67, z68, z69, z70, z71, z72, z73, z74, z75, z76, z77, z78, z79, z80, z81, z82, z83, z84, z85, z86, z87, z88, z89, z90, z91, z92, z93, z94, z95, z96, z97, z98, z99, z100, z101, z102, z103, z104, z105, z106, z107, z108, z109, z110, z111, z112, z113, z114, z115, z116, z117, z118, z119, z120, z121, z122, z123, z124, z125, z126, z127, z128, z129, z130, z131, z132, z133, z134, z135, z136, z137, z138, z139, z140, z141, z142, z143, z144, z145, z146, z147, z148, z149, z150, z151, z152, z153, z154, z155, z156, z157, z158, z159, z160, z161, z162, z163, z164, z165, z166, z167, z168, z169, z170, z171, z172, z173, z174, z175, z176, z177, z178, z179, z180, z181, z182, z183, z184, z185, z186, z187, z188, z189, z190, z191, z192, z193, z194, z195, z196, z197, z198, z199, z200, z201, z202, z203, z204, z205, z206, z207, z208, z209, z210, z211, z212, z213, z214, z215, z216, z217, z218, z219, z220, z221, z222, z223, z224, z225, z226, z227, z228, z229, z230, z231, z232, z233, z234, z235, z236, z237, z238, z239, z240, z241, z242, z243, z244, z245, z246, z247, z248, z249, z250, z251, z252, z253, z254, z255, z256, z257, z258, z259, z260, z261, z262, z263, z264, z265, z266, z267, z268, z269, z270, z271, z272, z273, z274, z275, z276], []⟩ v0 := by
  obtain ⟨cr, hcr⟩ : ∃ c, c = (((Try.f3).body.bind (restAt 5)).getD .skip) := ⟨_, rfl⟩
  rw [← hcr] at hK
  conv at hcr => rhs; whnf
  subst hcr
  conv => arg 2; whnf

  obtain ⟨n2, n5⟩ := hn
  have n2i : (2 : Int) ≤ (n : Int) := by omega
  have n5i : (n : Int) ≤ 5 := by omega
  have HWi := Lib.hid (wish_of HV.out)
  obtain ⟨al, hal⟩ : ∃ l, l = allStabF ⟨xL, xR⟩ := ⟨_, rfl⟩
  have hall : allF ⟨xL, xR⟩ = some al := by rw [hal]; exact all_yes HV.out (by rw [HL.out]; omega)
  have hal1 : 1 ≤ al.length := by rw [hal]; exact allStab_some HWi.out
  have hal2 : al.length ≤ 1048576 := by have := allF_lenL ⟨xL, xR⟩; rw [hall] at this; exact this
  have HAs : Hid (∀ y ∈ al, stableB ⟨xL, xR⟩ y = true ∧ y.length = n) := fun y hy => by
    rw [hal] at hy
    have hs := (List.mem_filter.1 hy).2
    exact ⟨hs, by have := (mat_stab HWi.out hs).len; rw [← HL.out]; exact this⟩
  have L1 := flat_ofM (allStableR_any v0 (some ⟨gL, 0, none⟩) cL xL (some ⟨gR, 0, none⟩) cR xR HBX0.out.W (by rw [HL.out]; omega) HGL.out (by rw [HR.out]; omega) HGR.out)
  rw [hall, HL.out, HR.out] at L1
  simp only [Option.getD_some, Option.isSome_some] at L1
  have L1 := Lib.hid L1
  have hl0 : (0 : Int) < (al.length : Int) := by omega
  have hl1 : decide ((al.length : Int) < 1) = false := decide_eq_false (by omega)
  have hl1' : ¬ ((al.length : Int) < 1) := by omega
  obtain ⟨i, hi, hi1⟩ : ∃ i : Nat, atF ms 1 (al.length : Int) = i ∧ i < al.length := by
    have := atF_bd (xs := ms) (i := 1) (n := (al.length : Int)) (by omega)
    exact ⟨(atF ms 1 (al.length : Int)).toNat, by omega, by omega⟩
  obtain ⟨j, hj, hj1⟩ : ∃ j : Nat, atF ms 2 (al.length : Int) = j ∧ j < al.length := by
    have := atF_bd (xs := ms) (i := 2) (n := (al.length : Int)) (by omega)
    exact ⟨(atF ms 2 (al.length : Int)).toNat, by omega, by omega⟩
  have LA1 := fun v hb => LM.out v hb 1 (al.length : Int) (by omega) (by omega)
  have LA2 := fun v hb => LM.out v hb 2 (al.length : Int) (by omega) (by omega)
  rw [hi] at LA1
  rw [hj] at LA2
  have LA1 := Lib.hid LA1
  have LA2 := Lib.hid LA2
  have i0 : (0 : Int) ≤ (i : Int) := Int.natCast_nonneg _
  have i1 : (i : Int) < (al.length : Int) := by omega
  have j0 : (0 : Int) ≤ (j : Int) := Int.natCast_nonneg _
  have j1 : (j : Int) < (al.length : Int) := by omega
  clear hal hall hi hj LM
  obtain ⟨q0, q1⟩ := HBX0.out.cells
  go_wp2_with fail
  refine L1.out.mono ?_
  rintro e v1 ⟨aA, cA, rfl, oA, hb⟩
  have HBX1 := Lib.hid (HBX0.out.to hb)
  have HW1 := Lib.hid (below_then HW0.out hb)
  have rA := oA.rd
  obtain ⟨bA, oA', ya, a1, c1, eA, hbA, hcA, hca, hrA, hyA⟩ := rA.get hi1
  obtain ⟨bB, oB', yb, a2, c2, eB, hbB, hcB, hcb, hrB, hyB⟩ := rA.get hj1
  subst eA
  injection eB with eB; injection eB with eB1 eB2 eB3
  subst eB1 eB2
  obtain ⟨sa, la⟩ := HAs.out ya (List.mem_of_getElem? hyA.out)
  obtain ⟨sb, lb⟩ := HAs.out yb (List.mem_of_getElem? hyB.out)
  rw [la] at hcA hca
  rw [lb] at hcB hcb
  have Ra := Lib.hid hrA
  have Rb := Lib.hid hrB
  have Sa := Lib.hid sa
  have Sb := Lib.hid sb
  clear hb oA rA hrA hrB hyA hyB sa sb la lb L1 q0 q1 HBX0 HW0
  go_wp2_with fail
  refine (LA1.out v1 HW1.out).mono ?_
  rintro e v2 ⟨rfl, rfl⟩
  go_wp2_with fail
  refine (LA2.out v1 HW1.out).mono ?_
  rintro e v2 ⟨rfl, rfl⟩
  go_upto_region 10 with fail
  exact latL3 w v1 n gw gL cL gR cR xL xR a1 a2 c1 c2 ya yb HBX1 HW1 ⟨n2, n5⟩ HL HR HV HGL HGR Ra Rb hca hcb Sa Sb _ (by assumption)
end Go.Proofs.Ytchfibmndcfpiaa
namespace Go.Proofs.Ytchfibmndcfpiaa
set_option linter.unusedVariables false
set_option linter.unusedSimpArgs false
open Go.RowKit

def WishB2 (w : World) (n : Nat) (e : Ending) (w' : World) : Prop :=
  ∃ (gL cL : Nat) (xL : List (List Int)) (gR cR : Nat) (xR : List (List Int)), e = .returned (.agg #[.slice (some ⟨gL, 0, none⟩) n cL, .slice (some ⟨gR, 0, none⟩) n cR]) ∧ (xL.length = n ∧ xR.length = n) ∧ (GoodX xL n ∧ GoodX xR n) ∧ (RdL w' w'.heap.size gL 0 xL ∧ RdL w' w'.heap.size gR 0 xR) ∧ Below w.heap.size w w'
set_option maxRecDepth 10000 in
set_option maxHeartbeats 4000000 in
theorem b10WishesL_any (w : World) (a : Option Addr) (c : Nat) (xs : List Int) (n : Nat) (h : Rd w w.heap.size a (byts xs)) (hx : ∀ x ∈ xs, 0 ≤ x ∧ x ≤ 255) (hl : xs.length ≤ 1048576) (n1 : 1 ≤ n) (n8 : n ≤ 8) :
    Calls Try.prog 8 #[.slice a xs.length c, .int .i64 n] w (WishB2 w n) := by
  have B0' := bl1 w (.cells #[.slice none 0 0, .slice none 0 0] 27)
  have KR0 := Lib.hid (Blk.new w [.slice none 0 0, .slice none 0 0] 27)
  have L0 := Lib.hid (l00From_any (w.alloc (.cells #[.slice none 0 0, .slice none 0 0] 27)) a xs.length c)
  have H0 := Lib.hid ((h.below B0' (Nat.le_refl _)).mono B0'.size)
  have HX := Lib.hid hx
  have HB0 := Lib.hid B0'
  clear h hx B0'
  go_enter Try.func8, Try.ntmps8
  go_wp2_with fail
  refine L0.out.mono ?_
  rintro e w1 ⟨rfl, S1, B1, s1⟩
  have s0 : (w.alloc (.cells #[.slice none 0 0, .slice none 0 0] 27)).heap.size = w.heap.size + 1 := World.size_alloc _ _
  have D1 : Hid (DS w1 (w.heap.size + 1) (w.heap.size + 1) a xs c 0) := ⟨by rw [← s0]; exact S1, by rw [← s0]; exact H0.out.below B1 (Nat.le_refl _), Nat.le_refl _, HX.out, hl⟩
  have KR1 := Lib.hid (KR0.out.same B1)
  have HB1 := Lib.hid (below_then HB0.out B1)
  have L1 := Lib.hid (wishes_ds w1 (w.heap.size + 1) (w.heap.size + 1) a xs c 0 n D1.out (by omega) n1 n8)
  have hs1 : w.heap.size + 2 ≤ w1.heap.size := by omega
  clear L0 S1 B1 s1 s0 D1 H0 HX KR0 HB0
  go_wp2_with fail
  refine L1.out.mono ?_
  rintro e w2 ⟨aL, cL, xL, aR, cR, xR, p4, rfl, hl1, hg1, ⟨mm, hmm, oL, oR⟩, hp4, D4, T4⟩
  have KR2 := Lib.hid (KR1.out.touch T4 (.inl (by omega)))
  have B2 := Lib.hid (below_touch HB1.out T4 (by omega) HB1.out.size)
  have s4 := T4.size
  have H1 := Lib.hid hl1
  have H2 := Lib.hid hg1
  have HL := Lib.hid oL
  have HR := Lib.hid oR
  have HM := Lib.hid hmm
  clear L1 KR1 T4 hl1 hg1 oL oR hmm D4
  have y0' : w2.cell? ⟨w.heap.size, 0, none⟩ = some (.slice none 0 0) := KR2.out.cell 0
  have y1' : w2.cell? ⟨w.heap.size, 1, none⟩ = some (.slice none 0 0) := KR2.out.cell 1
  have f0 := KR2.out.free 0
  have f1 := KR2.out.free 1
  go_wp2_with fail
  obtain ⟨wz, hwz⟩ : ∃ Y, Y = (w2.setCell ⟨w.heap.size, 0, none⟩ (.slice aL n cL)).setCell ⟨w.heap.size, 1, none⟩ (.slice aR n cR) := ⟨_, rfl⟩
  have KZ : Blk wz w.heap.size [.slice aL n cL, .slice aR n cR] 27 := by rw [hwz]; exact (KR2.out.set 0 (.slice aL n cL)).set 1 (.slice aR n cR)
  have TZ : Touch w2 wz w.heap.size (w.heap.size + 1) := by rw [hwz]; exact (touch_setX w2 w.heap.size 0 (.slice aL n cL)).trans (touch_setX _ w.heap.size 1 (.slice aR n cR))
  obtain ⟨hm1, hm2⟩ := HM.out
  have OLZ := HL.out.touch TZ (.inr (by omega))
  have ORZ := HR.out.touch TZ (.inr (by omega))
  have BZ := below_touch B2.out TZ (Nat.le_refl _) (by omega)
  have sZ := TZ.size
  rw [← hwz]
  clear hwz y0' y1'
  have y0' : wz.cell? ⟨w.heap.size, 0, none⟩ = some (.slice aL n cL) := KZ.cell 0
  have y1' : wz.cell? ⟨w.heap.size, 1, none⟩ = some (.slice aR n cR) := KZ.cell 1
  refine bodyPost_ret (v := .agg #[.slice aL n cL, .slice aR n cR]) (by simp [results, Try.results8, go_sem, y0', y1']) rfl ?_
  obtain ⟨vL, oL⟩ := OLZ
  obtain ⟨vR, oR⟩ := ORZ
  have eL : ∃ gL, aL = some ⟨gL, 0, none⟩ := by obtain ⟨g, tl, e, -⟩ := own_open oL.out (by rw [H1.out.1]; exact n1); exact ⟨g, e⟩
  have eR : ∃ gR, aR = some ⟨gR, 0, none⟩ := by obtain ⟨g, tl, e, -⟩ := own_open oR.out (by rw [H1.out.2]; exact n1); exact ⟨g, e⟩
  obtain ⟨gL, rfl⟩ := eL
  obtain ⟨gR, rfl⟩ := eR
  exact ⟨gL, cL, xL, gR, cR, xR, rfl, H1.out, H2.out, ⟨(oL.rdl (by rw [H1.out.1]; exact n1) rfl).mono (by omega), (oR.rdl (by rw [H1.out.2]; exact n1) rfl).mono (by omega)⟩, BZ⟩
end Go.Proofs.Ytchfibmndcfpiaa
namespace Go.Proofs.Ytchfibmndcfpiaa
set_option linter.unusedVariables false
set_option linter.unusedSimpArgs false
open Go.RowKit

set_option maxRecDepth 100000 in
set_option maxHeartbeats 32000000 in
theorem law_Lattices (w : World) (ac am : Option Addr) (cc cm : Nat) (cs ms : List Int) (hc : Rd w w.heap.size ac (byts cs)) (hm : Rd w w.heap.size am (byts ms)) (lc : cs.length ≤ 9223372036854775807) (lm : ms.length ≤ 9223372036854775807) (bc : ∀ x ∈ cs, 0 ≤ x ∧ x ≤ 255) (bm : ∀ x ∈ ms, 0 ≤ x ∧ x ≤ 255) :
    Calls Try.prog 3 #[.slice ac cs.length cc, .slice am ms.length cm] w fun e w' => e = .returned (.bool true) ∧ Below w.heap.size w w' := by
  have LL := Lib.hid (b10Long_any w ac am cc cm cs ms lc lm)
  cases hlong : longB cs ms with
  | true =>
    rw [hlong] at LL
    clear hlong hc hm bc bm
    go_enter Try.func3, Try.ntmps3
    go_wp2_with fail
    refine LL.out.mono ?_
    rintro e w' ⟨rfl, rfl⟩
    go_wp2_with fail
    go_ret
    exact ⟨rfl, Below.refl _ _⟩
  | false =>
  rw [hlong] at LL
  have hlc : cs.length ≤ 1048576 ∧ ms.length ≤ 1048576 := by
    simp only [longB, Bool.or_eq_false_iff, decide_eq_false_iff_not] at hlong
    omega
  obtain ⟨hlc, hlm⟩ := hlc
  have LM := Lib.hid (fun (v : World) (hb : Below w.heap.size w v) (i n : Int) (hi : 0 ≤ i) (hi2 : i ≤ 1000000) => b10At_any v am cm ms i n ((hm.below hb (Nat.le_refl _)).mono hb.size) hlm bm hi hi2)
  have L0 := LM.out w (Below.refl _ _) 0 4 (by omega) (by omega)
  have e0 := atF_bd (xs := ms) (i := 0) (n := 4) (by omega)
  obtain ⟨n, hn⟩ : ∃ n : Nat, 2 + atF ms 0 4 = (n : Int) := ⟨(2 + atF ms 0 4).toNat, by omega⟩
  have hA0 : atF ms 0 4 = (n : Int) - 2 := by omega
  rw [hA0] at L0
  have L0 := Lib.hid L0
  have n2 : 2 ≤ n := by omega
  have n5 : n ≤ 5 := by omega
  have LW := Lib.hid (b10WishesL_any w ac cc cs n hc bc hlc (by omega) (by omega))
  have en : (2 : Int) + ((n : Int) - 2) = n := by omega
  clear hlong hc hm bc bm e0 hn hA0 lc lm
  go_enter Try.func3, Try.ntmps3
  go_wp2_with fail
  refine LL.out.mono ?_
  rintro e w' ⟨rfl, rfl⟩
  go_wp2_with fail
  refine L0.out.mono ?_
  rintro e w' ⟨rfl, rfl⟩
  go_wp2_with fail
  refine LW.out.mono ?_
  rintro e w1 ⟨gL, cL, xL, gR, cR, xR, rfl, ⟨hl0, hl1⟩, ⟨hg0, hg1⟩, ⟨r0, r1⟩, hb1⟩
  have HV := Lib.hid (good_wish (by omega) (by omega) hl0 hl1 hg0 hg1)
  have HL := Lib.hid hl0
  have HR := Lib.hid hl1
  have HGL : Hid (∀ y ∈ xL, y.length ≤ 1048576) := fun y hy => by have := (hg0 y hy).1; omega
  have HGR : Hid (∀ y ∈ xR, y.length ≤ 1048576) := fun y hy => by have := (hg1 y hy).1; omega
  clear LW LL L0
  go_upto_region 5 with fail
  obtain ⟨gw, hgw⟩ : ∃ g, g = w1.heap.size := ⟨_, rfl⟩
  obtain ⟨w2, hw2⟩ : ∃ W, W = w1.alloc (.cells #[.slice (some ⟨gL, 0, none⟩) n cL, .slice (some ⟨gR, 0, none⟩) n cR] 27) := ⟨_, rfl⟩
  have HBX : Hid (WBl w2 gw n gL cL xL gR cR xR) := by rw [hw2, hgw]; exact ⟨Blk.new w1 _ _, r0.to (bl1 _ _), r1.to (bl1 _ _)⟩
  have HW : Hid (Below w.heap.size w w2) := by rw [hw2]; exact below_then hb1 (bl1 _ _)
  rw [← hw2, ← hgw]
  clear hw2 hgw r0 r1 hb1 hl0 hl1 hg0 hg1
  exact latL2 w w2 n gw gL cL gR cR xL xR am cm ms HBX HW ⟨n2, n5⟩ HL HR HV HGL HGR LM _ (by assumption)
end Go.Proofs.Ytchfibmndcfpiaa
