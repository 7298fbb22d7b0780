/-
  Part 5 of what the proof stands on: lemmas and contracts, each with its conditions ahead of the colon.
-/
import Derived.Laws.EntriesVeiled
import Derived.Outline
import Derived.Deep.AppendLies
import Derived.Deep.DeepCutAuto
import Derived.Deep.CutBlock
import Derived.Test.YtchfibmndcfpiaaPk03
import Derived.Test.YtchfibmndcfpiaaPk04
namespace Go.Proofs.Ytchfibmndcfpiaa
set_option linter.unusedVariables false
set_option linter.unusedSimpArgs false
open Go.RowKit

theorem info_intsQ : (Try.prog.info? 31).map (fun i => (i.zero, i.size, i.bytes)) = some (some (.slice none 0 0), 1, 24) := by kernel_rfl
theorem hasT_len (m : List Int) (n t : Nat) : (hasT m n t).length = n := by simp [hasT]
theorem school_no1 {w : Wi} {s m : List Int} (h : seatsB w s = false) : schoolF w s m = none := by unfold schoolF; rw [h]; rfl
theorem school_no2 {w : Wi} {s m : List Int} (h : partnersB w m = false) : schoolF w s m = none := by unfold schoolF; rw [h, Bool.and_false]; rfl
theorem school_no3 {w : Wi} {s m : List Int} (h : fullB w s m = false) : schoolF w s m = none := by unfold schoolF; rw [h, Bool.and_false]; rfl
theorem school_yes {w : Wi} {s m : List Int} (h1 : seatsB w s = true) (h2 : partnersB w m = true) (h3 : fullB w s m = true) : schoolF w s m = first2 w.L.length (sblocksI w s m) := by unfold schoolF; rw [h1, h2, h3]; rfl
theorem any_anyI (xs : List Int) (f : Int → Bool) : xs.any f = anyI (fun j => f (xs.getD j 0)) xs.length := by
  rw [Bool.eq_iff_iff, List.any_eq_true, anyI_iff]
  constructor
  · rintro ⟨x, hx, hf⟩
    obtain ⟨k, hk, rfl⟩ := List.getElem_of_mem hx
    exact ⟨k, hk, by rw [getD_eq hk]; exact hf⟩
  · rintro ⟨k, hk, hf⟩
    exact ⟨_, getD_mem hk, hf⟩
theorem enter_rival (args : Array Value) (w : World) : (callFunc 63 args).run Try.prog w = .ok (.enter 63 args) w := by kernel_rfl
set_option maxRecDepth 10000 in
set_option maxHeartbeats 8000000 in
theorem school_any (w : World) (a0 : Option Addr) (c0 : Nat) (x0 : List (List Int)) (a1 : Option Addr) (c1 : Nat) (x1 : List (List Int)) (as' : Option Addr) (cs : Nat) (s : List Int) (a : Option Addr) (c : Nat) (m : List Int) (h : RdWishes w w.heap.size a0 x0 a1 x1) (hl0 : x0.length ≤ 1048576) (hin0 : ∀ y ∈ x0, y.length ≤ 1048576) (hl1 : x1.length ≤ 1048576) (hin1 : ∀ y ∈ x1, y.length ≤ 1048576)
    (gs : Rd w w.heap.size as' (ints s)) (hls : s.length ≤ 1048576) (g : Rd w w.heap.size a (ints m)) (hl : m.length ≤ 1048576) :
    Calls Try.prog 24 #[.agg #[.slice a0 x0.length c0, .slice a1 x1.length c1], .slice as' s.length cs, .slice a m.length c] w fun e w' => e = .returned (.tuple #[.int .i64 (bA (schoolF ⟨x0, x1⟩ s m)), .int .i64 (bZ (schoolF ⟨x0, x1⟩ s m)), .bool (schoolF ⟨x0, x1⟩ s m).isSome]) ∧ Below w.heap.size w w' := by
  have X0 : Bx w (w.alloc (.cells #[.slice a0 x0.length c0, .slice a1 x1.length c1] 27)) [.slice a0 x0.length c0, .slice a1 x1.length c1] 27 := Bx.start w _ _
  have LA := Lib.hid (fun w' hb => areSeats_any w' a0 c0 x0 a1 c1 x1 as' cs s (h.to hb) hl0 hin0 hl1 hin1 (gs.to hb) hls)
  cases t1 : seatsB ⟨x0, x1⟩ s with
  | false =>
    rw [school_no1 t1]
    rw [t1] at LA
    clear h g gs hin0 hin1 t1
    go_enter Try.func24, Try.ntmps24
    go_wp2_with fail
    refine (LA.out _ X0.1).mono ?_
    rintro e w1 ⟨rfl, hb1⟩
    have X1 := X0.next hb1
    clear hb1
    go_wp2_with fail
    go_ret3
    exact ⟨rfl, X1.1⟩
  | true =>
  have hv : Wish ⟨x0, x1⟩ := wish_of (Bool.and_eq_true _ _ ▸ t1 : wishB ⟨x0, x1⟩ = true ∧ _).1
  have LP := Lib.hid (fun w' hb => partners_any w' a0 c0 x0 a1 c1 x1 (h.to hb) hv hin0 hin1 a c m (g.to hb) hl)
  rw [t1] at LA
  cases t2 : partnersB ⟨x0, x1⟩ m with
  | false =>
    rw [school_no2 t2]
    rw [t2] at LP
    clear h g gs hin0 hin1 t1 t2 hv
    go_enter Try.func24, Try.ntmps24
    go_wp2_with fail
    refine (LA.out _ X0.1).mono ?_
    rintro e w1 ⟨rfl, hb1⟩
    have X1 := X0.next hb1
    obtain ⟨q0, q1⟩ := X1.two
    clear hb1
    go_wp2_with fail
    refine (LP.out _ X1.1).mono ?_
    rintro e w2 ⟨rfl, hb2⟩
    have X2 := X1.next hb2
    clear hb2 q0 q1
    go_wp2_with fail
    go_ret3
    exact ⟨rfl, X2.1⟩
  | true =>
  rw [t2] at LP
  have hsm : manyB s x0.length x0.length 0 8 = true := (Bool.and_eq_true _ _ ▸ t1 : wishB ⟨x0, x1⟩ = true ∧ manyB s x0.length x0.length 0 8 = true).2
  have hsl : s.length = x0.length := by have := (manyB_iff.1 hsm).1; omega
  obtain ⟨hml, hmv⟩ := partners_iff.1 t2
  simp only at hml hmv
  have h8 := hv.n8
  simp only at h8
  have LC := Lib.hid (fun w' => count_any w' a0 c0 x0 a1 c1 x1)
  have HMV : Hid (∀ (k : Nat) (x : Int), k < m.length → m[k]? = some x → m.getD k 0 = x ∧ (x < 0 ∨ ∃ y : Nat, x = y ∧ y < x0.length)) := fun k x hk hx => by
    refine ⟨getD_of_get hx, ?_⟩
    rw [← getD_of_get hx]
    rcases hmv k hk with h | ⟨y, h, hy, _⟩
    · exact .inl (by omega)
    · exact .inr ⟨y, h, by omega⟩
  have Hm : Hid (m.length = x0.length) := hml
  have Hs : Hid (s.length = x0.length) := hsl
  have G := Lib.hid g
  have GS := Lib.hid gs
  have hm8 : m.length ≤ 8 := by omega
  clear hml hsl hmv hsm
  go_enter Try.func24, Try.ntmps24
  go_wp2_with fail
  refine (LA.out _ X0.1).mono ?_
  rintro e w1 ⟨rfl, hb1⟩
  have X1 := X0.next hb1
  obtain ⟨q0, q1⟩ := X1.two
  clear hb1
  go_wp2_with fail
  refine (LP.out _ X1.1).mono ?_
  rintro e w2 ⟨rfl, hb2⟩
  have X2 := X1.next hb2
  clear q0 q1
  obtain ⟨q0, q1⟩ := X2.two
  clear hb2
  go_wp2_with fail
  refine (LC.out _).mono ?_
  rintro e w3 ⟨rfl, hb3⟩
  have X3 := X2.next hb3
  have hx3 := X3.lt
  clear hb3 q0 q1 X0 X1 X2
  go_wp2_with (at_make; refine wpList_make_blk _ rfl _ _ 25 rfl 31 (.slice none 0 0) 24 Try.underlying25 info_intsQ rfl _ _ x0.length rfl rfl (by omega) (by unfold maxLen; omega) ?_)
  intro w4 hb4 hw4 hs4
  have X4 := X3.next hw4
  have HT0 : Hid (OwnTab 2 31 w4 w3.heap.size (List.replicate x0.length (.slice none 0 0)) (hasT m x0.length 0)) := by
    rw [Hid, hasT_zero]; exact OwnTab.start hb4
  clear hb4 hw4 X3
  go_wp2_with fail
  go_loopw [31] (fun tv wr => ∃ (t : Nat) (vs : List Value), t ≤ m.length ∧ tv = .int .i64 t ∧ Hid (OwnTab 2 31 wr w3.heap.size vs (hasT m x0.length t)) ∧ Bx w wr [.slice a0 x0.length c0, .slice a1 x1.length c1] 27 ∧ w3.heap.size + 1 ≤ wr.heap.size) (fun tv _ => m.length - (intOf tv).toNat)
  case atStart => exact ⟨0, _, Nat.zero_le _, rfl, HT0.out, X4, by omega⟩
  case round =>
    clear HT0 X4
    obtain ⟨t, vs, ht, rfl, hO, X, hszr⟩ := hrel
    by_cases hlt : t < m.length
    · obtain ⟨b, o, x, rfl, hbb, hc4, hx⟩ := G.out.get hlt
      have d4 := (X.1.cell (p := ⟨b, o + t, none⟩) hbb).trans hc4
      obtain ⟨hgd, hxv⟩ := HMV.out t x hlt hx.out
      have t0 : (0 : Int) ≤ (t : Int) := Int.natCast_nonneg _
      have t1' : (t : Int) < (m.length : Int) := by omega
      rcases hxv with hx0 | ⟨k, rfl, hk⟩
      · have hO2 : Hid (OwnTab 2 31 wr w3.heap.size vs (hasT m x0.length (t + 1))) := by
          rw [Hid, hasT_skip (by rw [hgd]; exact hx0)]; exact hO.out
        clear hO hgd hc4
        go_wp2_with fail
        go_roundw
        case rel => exact ⟨t + 1, vs, by omega, by go_num, hO2, X, hszr⟩
        case measure => simp [intOf]; omega
      · obtain ⟨v, hvk⟩ : ∃ v, vs[k]? = some v := ⟨vs[k]'(by rw [hO.out.len, hasT_len]; exact hk), by simp⟩
        have hrow := hO.out.row k v _ hvk (hasT_get hk)
        obtain ⟨av, cv, rfl, _, _⟩ := own_shape hrow
        have ck : wr.cell? ⟨w3.heap.size, k, none⟩ = some (.slice av (hasN m k t).length cv) := by rw [hO.out.blk.cell]; exact hvk
        have hnl := hasN_len m k t
        have hset := hasT_set (n := x0.length) hgd
        have hgt' : (hasT m x0.length t)[k]? = some (hasN m k t) := hasT_get hk
        have k0 : (0 : Int) ≤ (k : Int) := Int.natCast_nonneg _
        have k1 : (k : Int) < (x0.length : Int) := by omega
        generalize hasN m k t = xs at *
        have HRow := Lib.hid hrow
        have HV := Lib.hid hvk
        have hne : some w3.heap.size ≠ (Value.slice av xs.length cv).ownBlock := own_block_ne hrow (Nat.lt_succ_self _)
        have Hne := Lib.hid hne
        have HGt := Lib.hid hgt'
        have HSet := Lib.hid hset
        clear hrow hvk hne hgd hc4 hgt' hset
        go_wp2_with (at_builtin; refine wpList_append_blk _ rfl _ _ 31 rfl (w3.heap.size + 1) 2 (.int .i64 0) 8 Try.underlying31 info_i64p rfl _ xs.length _ rfl HRow.out (.int .i64 t) rfl rfl (by omega) (by omega) hszr ?_)
        intro v' w5 ho hgr hnn
        obtain ⟨a5, c5, rfl, _, _⟩ := own_shape ho
        have HG : Hid (OwnTab 2 31 (w5.setCell ⟨w3.heap.size, k, none⟩ (.slice a5 (xs.length + 1) c5)) w3.heap.size (vs.set k (.slice a5 (xs.length + 1) c5)) (hasT m x0.length (t + 1))) := by
          rw [Hid, HSet.out]
          exact hO.out.grow HV.out HGt.out (by rw [ints_append, List.length_append]; exact ho) hgr hnn
        have hb5 := hO.out.blk.grown hgr Hne.out
        have ck5 := hb5.cell k
        rw [HV.out] at ck5
        have fk5 := hb5.free k
        have X5 := X.far (below_row HRow.out hgr hszr) (by omega)
        have X6 := X5.far (below_sto (Below.refl w3.heap.size w5) (g := w3.heap.size) (Nat.le_refl _) k (.slice a5 (xs.length + 1) c5)) (by omega)
        have hsz6 : w3.heap.size + 1 ≤ (w5.setCell ⟨w3.heap.size, k, none⟩ (.slice a5 (xs.length + 1) c5)).heap.size := by have := hgr.size; simp; omega
        clear ho hgr hnn hb5 hO X X5 HRow HV ck
        go_wp2_with fail
        go_roundw
        case rel => exact ⟨t + 1, vs.set k (.slice a5 (xs.length + 1) c5), by omega, by go_num, HG, X6, hsz6⟩
        case measure => simp [intOf]; omega
    · have htm : t = m.length := by omega
      subst htm
      obtain ⟨wo, hwo⟩ : ∃ W : World, W = wr := ⟨_, rfl⟩
      subst hwo
      have HRowL : Hid (∀ k, k < x0.length → ∃ av cv, vs[k]? = some (.slice av (hasL m k).length cv) ∧ wo.ownsRow (w3.heap.size + 1) 2 1 (.slice av (hasL m k).length cv) (hasL m k).length (ints (hasL m k))) := fun k hk => by
        obtain ⟨v, hvk⟩ : ∃ v, vs[k]? = some v := ⟨vs[k]'(by rw [hO.out.len, hasT_len]; exact hk), by simp⟩
        have hrow := hO.out.row k v _ hvk (hasT_get hk)
        obtain ⟨av, cv, rfl, _, _⟩ := own_shape hrow
        exact ⟨av, cv, hvk, hrow⟩
      have HBlk := Lib.hid hO.out.blk
      have HFull : Hid (∀ k, k < x0.length → ¬ ((hasL m k).length : Int) ≤ s.getD k 0 → schoolF ⟨x0, x1⟩ s m = none) := fun k hk hh => school_no3 (rangeAll_false (n := x0.length) hk (decide_eq_false hh))
      clear hO
      go_wp2_with fail
      go_loopw [51] (fun kv wr => ∃ k : Nat, k ≤ x0.length ∧ kv = .int .i64 k ∧ Hid (∀ j, j < k → ((hasL m j).length : Int) ≤ s.getD j 0) ∧ wr = wo) (fun kv _ => x0.length - (intOf kv).toNat)
      case atStart => exact ⟨0, Nat.zero_le _, rfl, fun _ hj => by omega, rfl⟩
      case round =>
        obtain ⟨k, hk, rfl, hle, rfl⟩ := hrel
        by_cases hlk : k < x0.length
        · obtain ⟨av, cv, hvk, hrow⟩ := HRowL.out k hlk
          have ck := HBlk.out.cell k
          rw [hvk] at ck
          obtain ⟨b5, o5, y, rfl, hb5, hc5, hy5⟩ := GS.out.get (k := k) (by rw [Hs.out]; exact hlk)
          have d5 := (X.1.cell (p := ⟨b5, o5 + k, none⟩) hb5).trans hc5
          have hgd := getD_of_get hy5.out
          have HF1 := Lib.hid (HFull.out k hlk)
          rw [hgd] at HF1
          have HL1 : Hid (((hasL m k).length : Int) ≤ y → ∀ j, j < k + 1 → ((hasL m j).length : Int) ≤ s.getD j 0) := fun hh j hj => by
            by_cases e : j = k
            · subst e; rw [hgd]; exact hh
            · exact hle.out j (by omega)
          have k0 : (0 : Int) ≤ (k : Int) := Int.natCast_nonneg _
          have k1 : (k : Int) < (x0.length : Int) := by omega
          have k2 : (k : Int) < (s.length : Int) := by rw [Hs.out]; omega
          generalize (hasL m k).length = ln at *
          clear hrow hvk hc5 hgd hle
          by_cases hc : (ln : Int) ≤ y
          · have HL2 := Lib.hid (HL1.out hc)
            have hgt : ¬ (y < (ln : Int)) := by omega
            go_wp2_with fail
            go_roundw
            case rel => exact ⟨k + 1, by omega, by go_num, HL2, by first | rfl | trivial⟩
            case measure => simp [intOf]; omega
          · have HF2 := Lib.hid (HF1.out (by omega))
            have hgt : (y < (ln : Int)) := by omega
            go_wp2_with fail
            go_ret3
            rw [HF2.out]
            exact ⟨rfl, X.1⟩
        · have hkk : k = x0.length := by omega
          subst hkk
          have hfull : fullB ⟨x0, x1⟩ s m = true := List.all_eq_true.2 fun j hj => decide_eq_true (hle.out j (List.mem_range.1 hj))
          have HSF := Lib.hid (school_yes t1 t2 hfull)
          have hln := Lib.hid hv.len
          simp only at hln
          have Hbl : Hid (∀ (i k : Nat) (ys zs : List Int) (x y : Int), i < x0.length → k < x0.length → x0[i]? = some ys → x1[k]? = some zs → m[i]? = some x → s[k]? = some y → sblocksI ⟨x0, x1⟩ s m i k = (pairB ⟨x0, x1⟩ i k && dearI ys k x && (decide (((hasL m k).length : Int) < y) || anyI (fun j => dearI zs i ((hasL m k).getD j 0)) (hasL m k).length))) := by
            intro i k ys zs x y _ _ e1 e2 e3 e4
            unfold sblocksI
            simp only [row_get e1, row_get e2, getD_of_get e3, getD_of_get e4]
            congr 2
            exact any_anyI _ _
          have HH : Hid (∀ i k, i < x0.length → k < x0.length → sblocksI ⟨x0, x1⟩ s m i k = true → (∀ i' k', i' < i → k' < x0.length → sblocksI ⟨x0, x1⟩ s m i' k' = false) → (∀ k', k' < k → sblocksI ⟨x0, x1⟩ s m i k' = false) → schoolF ⟨x0, x1⟩ s m = some (i, k)) := fun i k h1 h2 h3 h4 h5 => by rw [HSF.out]; exact first2_here h1 h2 h3 h4 h5
          have HZ : Hid ((∀ i k, i < x0.length → k < x0.length → sblocksI ⟨x0, x1⟩ s m i k = false) → schoolF ⟨x0, x1⟩ s m = none) := fun hh => by rw [HSF.out]; exact first2_none.2 hh
          have LT : Hid (∀ (w' : World) (i k : Nat), Below w.heap.size w w' → i < x0.length → k < x0.length → _) := fun w' i k hb hi hk => take_any w' a0 c0 x0 a1 c1 x1 (h.to hb) hin0 hin1 i k hi (by rw [hln.out]; exact hk)
          have LD := Lib.hid (fun w' a c ys x y => dearer_any w' a c ys x y)
          have Hh := Lib.hid h
          have Hin0 := Lib.hid hin0
          have Hin1 := Lib.hid hin1
          generalize hbf : sblocksI ⟨x0, x1⟩ s m = bf at *
          clear h hin0 hin1 g gs hv t1 t2 hfull hle HSF hbf HFull
          obtain ⟨q0, q1⟩ := X.two
          go_wp2_with fail
          refine (LC.out _).mono ?_
          rintro e w6 ⟨rfl, hb6⟩
          have X6 := X.next hb6
          have B6 := Lib.hid hb6
          have HC6 : Hid (∀ k, k < x0.length → ∃ av cv, w6.cell? ⟨w3.heap.size, k, none⟩ = some (.slice av (hasL m k).length cv) ∧ Rd w6 w6.heap.size av (ints (hasL m k))) := fun k hk => by
            obtain ⟨av, cv, hvk, hrow⟩ := HRowL.out k hk
            refine ⟨av, cv, ?_, rd_of_own (own_below hrow B6.out) (Nat.le_refl _)⟩
            rw [(HBlk.out.same B6.out).cell]; exact hvk
          have hgh : w3.heap.size < w6.heap.size := by have := B6.out.size; omega
          clear q0 q1 hb6 B6 HRowL HBlk X
          go_wp2_with fail
          go_loopw [66] (fun iv wr => ∃ i : Nat, i ≤ x0.length ∧ iv = .int .i64 i ∧ Hid (∀ i' k', i' < i → k' < x0.length → bf i' k' = false) ∧ Bx w wr [.slice a0 x0.length c0, .slice a1 x1.length c1] 27 ∧ Below w6.heap.size w6 wr) (fun iv _ => x0.length - (intOf iv).toNat)
          case atStart => exact ⟨0, Nat.zero_le _, rfl, fun _ _ h => by omega, X6, Below.refl _ _⟩
          case round =>
            clear X6
            obtain ⟨i, hi, rfl, hrows, X, hw6⟩ := hrel
            by_cases hlt : i < x0.length
            · have XA := X.next (bl1 _ (.cells #[.int .i64 i] 2))
              obtain ⟨q0, q1⟩ := XA.two
              obtain ⟨wo2, hwo2⟩ : ∃ W : World, W = wr := ⟨_, rfl⟩
              subst hwo2
              have hci := (Blk.new wo2 [.int .i64 i] 2).cell 0
              go_wp2_with fail
              refine (LC.out _).mono ?_
              rintro e w7 ⟨rfl, hb7⟩
              have X7 := XA.next hb7
              have ci7 : w7.cell? ⟨wo2.heap.size, 0, none⟩ = some (.int .i64 i) := (hb7.cell (p := ⟨wo2.heap.size, 0, none⟩) (by simp)).trans hci
              have B7 := below_then (bl1 wo2 (.cells #[.int .i64 i] 2)) hb7
              have A7 := hw6.trans (B7.mono hw6.size)
              have hz7 : wo2.heap.size < w7.heap.size := by have := hb7.size; simp at this; omega
              have HCi := Lib.hid ci7
              clear q0 q1 hb7 XA hci X B7 ci7
              go_wp2_with fail
              go_loopw [71] (fun kv wr => ∃ k : Nat, k ≤ x0.length ∧ kv = .int .i64 k ∧ Hid (∀ k', k' < k → bf i k' = false) ∧ Bx w wr [.slice a0 x0.length c0, .slice a1 x1.length c1] 27 ∧ Below w6.heap.size w6 wr ∧ Hid (wr.cell? ⟨wo2.heap.size, 0, none⟩ = some (.int .i64 i)) ∧ wo2.heap.size < wr.heap.size) (fun kv _ => x0.length - (intOf kv).toNat)
              case atStart => exact ⟨0, Nat.zero_le _, rfl, fun _ h => by omega, X7, A7, HCi.out, hz7⟩
              case round =>
                clear X7 A7 HCi hz7
                obtain ⟨k, hk, rfl, hcols, X, hA, hci, hz⟩ := hrel
                by_cases hlk : k < x0.length
                · have XB := X.next (bl1 wr (.cells #[.int .i64 k] 2))
                  have hAB := hA.trans ((bl1 wr (.cells #[.int .i64 k] 2)).mono hA.size)
                  obtain ⟨b2, o2, ys, a2, c2, e2, hb2, hc2, _, hr2, hy2⟩ := (Hh.out.1).get (k := i) hlt
                  obtain ⟨b3, o3, zs, a3, c3, e3, hb3, hc3, _, hr3, hy3⟩ := (Hh.out.2).get (k := k) (by rw [hln.out]; exact hlk)
                  obtain ⟨b4, o4, x, e4, hb4, hc4, hx4⟩ := G.out.get (k := i) (by rw [Hm.out]; exact hlt)
                  obtain ⟨b5, o5, y, e5, hb5, hc5, hy5⟩ := GS.out.get (k := k) (by rw [Hs.out]; exact hlk)
                  obtain ⟨av, cv, hk6, hrd6⟩ := HC6.out k hlk
                  have hWB : Hid (∀ w', Below (wr.alloc (.cells #[.int .i64 k] 2)).heap.size (wr.alloc (.cells #[.int .i64 k] 2)) w' → Below w.heap.size w w') := fun w' hb => below_then XB.1 hb
                  have hW6 : Hid (∀ w', Below (wr.alloc (.cells #[.int .i64 k] 2)).heap.size (wr.alloc (.cells #[.int .i64 k] 2)) w' → Below w6.heap.size w6 w') := fun w' hb => hAB.trans (hb.mono (by have := hA.size; simp; omega))
                  have LT1 : Hid (∀ w', Below (wr.alloc (.cells #[.int .i64 k] 2)).heap.size (wr.alloc (.cells #[.int .i64 k] 2)) w' → _) := fun w' hb => LT.out w' i k (hWB.out w' hb) hlt hlk
                  have LD1 : Hid (∀ w', Below (wr.alloc (.cells #[.int .i64 k] 2)).heap.size (wr.alloc (.cells #[.int .i64 k] 2)) w' → _) := fun w' hb => LD.out w' a2 c2 ys k x (hr2.to (hWB.out w' hb)) (Hin0.out ys (List.mem_of_getElem? hy2.out))
                  have hbl := Hbl.out i k ys zs x y hlt hlk hy2.out hy3.out hx4.out hy5.out
                  have gw : w.heap.size < (wr.alloc (.cells #[.int .i64 k] 2)).heap.size := by have := X.lt; simp; omega
                  have hsz6 := hA.size
                  have c0' : Hid (∀ (p : Addr) (v : Value), p.block < w.heap.size → w.cell? p = some v → ∀ z : Later (wr.alloc (.cells #[.int .i64 k] 2)), z.w'.cell? p = some v) := fun p v hp hv z => ((hWB.out _ z.h).cell (p := p) hp).trans hv
                  have F0 : ∀ z : Later (wr.alloc (.cells #[.int .i64 k] 2)), z.w'.cell? ⟨w.heap.size, 0, none⟩ = some (.slice a0 x0.length c0) := fun z => z.cell gw XB.two.1
                  have F1 : ∀ z : Later (wr.alloc (.cells #[.int .i64 k] 2)), z.w'.cell? ⟨w.heap.size, 1, none⟩ = some (.slice a1 x1.length c1) := fun z => z.cell gw XB.two.2
                  have F2 := c0'.out ⟨b2, o2 + i, none⟩ _ hb2 hc2
                  have F4 := c0'.out ⟨b4, o4 + i, none⟩ _ hb4 hc4
                  have F5 := c0'.out ⟨b5, o5 + k, none⟩ _ hb5 hc5
                  have F6 : ∀ z : Later (wr.alloc (.cells #[.int .i64 k] 2)), z.w'.cell? ⟨wr.heap.size, 0, none⟩ = some (.int .i64 k) := fun z => z.cell (by simp) ((Blk.new wr [.int .i64 k] 2).cell 0)
                  have F7 : ∀ z : Later (wr.alloc (.cells #[.int .i64 k] 2)), z.w'.cell? ⟨wo2.heap.size, 0, none⟩ = some (.int .i64 i) := fun z => z.cell (by simp; omega) (((bl1 wr (.cells #[.int .i64 k] 2)).cell (p := ⟨wo2.heap.size, 0, none⟩) hz).trans hci.out)
                  have F8 : ∀ z : Later (wr.alloc (.cells #[.int .i64 k] 2)), z.w'.cell? ⟨w3.heap.size, k, none⟩ = some (.slice av (hasL m k).length cv) := fun z => ((hW6.out _ z.h).cell (p := ⟨w3.heap.size, k, none⟩) hgh).trans hk6
                  have LCF : Hid (∀ w', Below (wr.alloc (.cells #[.int .i64 k] 2)).heap.size (wr.alloc (.cells #[.int .i64 k] 2)) w' → Calls Try.prog 62 #[.slice av (hasL m k).length cv, .func (.func 63) #[] #[.pointer (some ⟨w.heap.size, 0, none⟩), .pointer (some ⟨wr.heap.size, 0, none⟩), .pointer (some ⟨wo2.heap.size, 0, none⟩)]] w' fun e w'' => e = .returned (.bool (anyI (fun j => dearI zs i ((hasL m k).getD j 0)) (hasL m k).length)) ∧ Below w'.heap.size w' w'') := fun w' hb => by
                    have hlen : (hasL m k).length ≤ m.length := hasN_len m k m.length
                    have := containsFunc_I 63 #[.pointer (some ⟨w.heap.size, 0, none⟩), .pointer (some ⟨wr.heap.size, 0, none⟩), .pointer (some ⟨wo2.heap.size, 0, none⟩)] enter_rival w' av cv (ints (hasL m k)) (fun j => dearI zs i ((hasL m k).getD j 0)) (hrd6.to (hW6.out w' hb)) (by simp; omega) (fun w'' j v hb2 hv => by
                      have hj : j < (hasL m k).length := by have := (List.getElem?_eq_some_iff.1 hv).1; simpa using this
                      rw [ints_get _ _ hj] at hv
                      injection hv with hv
                      subst hv
                      have hb3 := below_then hb hb2
                      have hsz3 := hb3.size
                      have := rival_any w'' w.heap.size wr.heap.size wo2.heap.size a1 c1 x1 i k ((hasL m k).getD j 0) (F1 ⟨w'', hb3⟩) (F6 ⟨w'', hb3⟩) (F7 ⟨w'', hb3⟩) (by omega) (by simp at hsz3; omega) (by simp at hsz3; omega) (Hh.out.to (hWB.out _ hb3)).2 Hin1.out (by rw [hln.out]; exact hlk)
                      rw [row_get hy3.out] at this
                      exact this)
                    rwa [ints_length] at this
                  have HN : Hid (∀ w' : World, bf i k = false → Below (wr.alloc (.cells #[.int .i64 k] 2)).heap.size (wr.alloc (.cells #[.int .i64 k] 2)) w' → ∃ k' : Nat, k' ≤ x0.length ∧ (Value.int .i64 ((k : Int) + 1)) = .int .i64 k' ∧ Hid (∀ q, q < k' → bf i q = false) ∧ Bx w w' [.slice a0 x0.length c0, .slice a1 x1.length c1] 27 ∧ Below w6.heap.size w6 w' ∧ Hid (w'.cell? ⟨wo2.heap.size, 0, none⟩ = some (.int .i64 i)) ∧ wo2.heap.size < w'.heap.size) := fun w' hf hb =>
                    ⟨k + 1, by omega, by go_num, fun q hq => by
                      by_cases e : q = k
                      · subst e; exact hf
                      · exact hcols.out q (by omega), XB.next hb, hW6.out w' hb, F7 ⟨w', hb⟩, by have := hb.size; simp at this; omega⟩
                  have HBA : Hid (∀ w', Below (wr.alloc (.cells #[.int .i64 k] 2)).heap.size (wr.alloc (.cells #[.int .i64 k] 2)) w' → Below w.heap.size w w') := hWB.out
                  have HR : Hid (bf i k = true → schoolF ⟨x0, x1⟩ s m = some (i, k)) := fun hf => HH.out i k hlt hlk hf hrows.out hcols.out
                  have i0 : (0 : Int) ≤ (i : Int) := Int.natCast_nonneg _
                  have k0 : (0 : Int) ≤ (k : Int) := Int.natCast_nonneg _
                  have i1 : (i : Int) < (x0.length : Int) := by omega
                  have k1 : (k : Int) < (x0.length : Int) := by omega
                  have i2 : (i : Int) < (m.length : Int) := by rw [Hm.out]; omega
                  have k2 : (k : Int) < (s.length : Int) := by rw [Hs.out]; omega
                  subst e2 e3 e4 e5
                  generalize anyI (fun j => dearI zs i ((hasL m k).getD j 0)) (hasL m k).length = an at *
                  generalize (hasL m k).length = ln at *
                  clear X XB hAB hc2 hc3 hc4 hc5 hk6 hrd6 hr2 hr3 hy2 hy3 hx4 hy5 hcols hrows hci hWB hW6 c0'
                  cases t1 : pairB ⟨x0, x1⟩ i k with
                  | false =>
                    rw [t1] at LT1
                    rw [t1, Bool.false_and, Bool.false_and] at hbl
                    go_wp2_with fail
                    refine wp_region_later (by kernel_rfl) (by kernel_rfl) ?_
                    repeat (go_big_quiet_step (first | (go_at_call 60; exact later_of (LT1.out _ (Later.h _))) | (go_at_call 61; exact later_same (LD1.out _ (Later.h _)))))
                    refine wpQuiet_nil ?_
                    rintro wq ⟨⟨_, hbq⟩, rfl⟩
                    clear F0 F1 F2 F4 F5 F6 F7 F8
                    go_wp2_with fail
                    go_roundw
                    case rel => exact HN.out _ hbl hbq
                    case measure => simp [intOf]; omega
                  | true =>
                    rw [t1] at LT1
                    rw [t1, Bool.true_and] at hbl
                    cases t2 : dearI ys k x with
                    | false =>
                      rw [t2, Bool.false_and] at hbl
                      rw [t2] at LD1
                      go_wp2_with fail
                      refine wp_region_later (by kernel_rfl) (by kernel_rfl) ?_
                      repeat (go_big_quiet_step (first | (go_at_call 60; exact later_of (LT1.out _ (Later.h _))) | (go_at_call 61; exact later_same (LD1.out _ (Later.h _)))))
                      refine wpQuiet_nil ?_
                      rintro wq ⟨⟨_, hbq⟩, rfl⟩
                      clear F0 F1 F2 F4 F5 F6 F7 F8
                      go_wp2_with fail
                      go_roundw
                      case rel => exact HN.out _ hbl hbq
                      case measure => simp [intOf]; omega
                    | true =>
                      rw [t2, Bool.true_and] at hbl
                      rw [t2] at LD1
                      go_wp2_with fail
                      refine wp_region_later (by kernel_rfl) (by kernel_rfl) ?_
                      repeat (go_big_quiet_step (first | (go_at_call 60; exact later_of (LT1.out _ (Later.h _))) | (go_at_call 61; exact later_same (LD1.out _ (Later.h _)))))
                      refine wpQuiet_nil ?_
                      rintro wq ⟨⟨_, hbq⟩, rfl⟩
                      have G5 : ∀ z : Later wq, _ := fun z => F5 ⟨z.w', below_then hbq z.h⟩
                      have G6 : ∀ z : Later wq, _ := fun z => F6 ⟨z.w', below_then hbq z.h⟩
                      have G7 : ∀ z : Later wq, _ := fun z => F7 ⟨z.w', below_then hbq z.h⟩
                      have G8 : ∀ z : Later wq, _ := fun z => F8 ⟨z.w', below_then hbq z.h⟩
                      have LCG : Hid (∀ w', Below wq.heap.size wq w' → _) := fun w' hb => LCF.out w' (below_then hbq hb)
                      have HNG : Hid (∀ w', bf i k = false → Below wq.heap.size wq w' → _) := fun w' hf hb => HN.out w' hf (below_then hbq hb)
                      have HBG : Hid (∀ w', Below wq.heap.size wq w' → Below w.heap.size w w') := fun w' hb => (HBA.out _ (below_then hbq hb))
                      simp only at G5 G6 G7 G8
                      clear F0 F1 F2 F4 F5 F6 F7 F8 LT1 LD1 LCF HN
                      cases t3 : decide ((ln : Int) < y) with
                      | true =>
                        rw [t3, Bool.true_or] at hbl
                        go_wp2_with fail
                        refine wp_region_later (by kernel_rfl) (by kernel_rfl) ?_
                        repeat (go_big_quiet_step ((go_at_call 62; exact later_of (LCG.out _ (Later.h _)))))
                        refine wpQuiet_nil ?_
                        rintro wq2 ⟨⟨_, hbq2⟩, rfl⟩
                        have HRR := Lib.hid (HR.out hbl)
                        have H6 : ∀ z : Later wq2, z.w'.cell? ⟨wr.heap.size, 0, none⟩ = some (.int .i64 k) := fun z => G6 ⟨z.w', below_then hbq2 z.h⟩
                        have H7 : ∀ z : Later wq2, z.w'.cell? ⟨wo2.heap.size, 0, none⟩ = some (.int .i64 i) := fun z => G7 ⟨z.w', below_then hbq2 z.h⟩
                        have HBH : Hid (∀ w', Below wq2.heap.size wq2 w' → Below w.heap.size w w') := fun w' hb => (HBG.out _ (below_then hbq2 hb))
                        clear G5 G6 G7 G8
                        go_wp2_with fail
                        refine wp_region_later (by kernel_rfl) (by kernel_rfl) ?_
                        repeat (go_big_quiet_step (fail))
                        refine wpQuiet_nil ?_
                        rintro wq3 ⟨⟨_, hbq3⟩, rfl⟩
                        clear H6 H7
                        go_wp2_with fail
                        go_ret3
                        exact ⟨by rw [HRR.out]; rfl, HBH.out _ hbq3⟩
                      | false =>
                        rw [t3, Bool.false_or] at hbl
                        cases t4 : an with
                        | false =>
                          rw [t4] at LCG hbl
                          go_wp2_with fail
                          refine wp_region_later (by kernel_rfl) (by kernel_rfl) ?_
                          repeat (go_big_quiet_step ((go_at_call 62; exact later_of (LCG.out _ (Later.h _)))))
                          refine wpQuiet_nil ?_
                          rintro wq2 ⟨⟨_, hbq2⟩, rfl⟩
                          clear G5 G6 G7 G8
                          go_wp2_with fail
                          go_roundw
                          case rel => exact HNG.out _ hbl hbq2
                          case measure => simp [intOf]; omega
                        | true =>
                          rw [t4] at LCG hbl
                          go_wp2_with fail
                          refine wp_region_later (by kernel_rfl) (by kernel_rfl) ?_
                          repeat (go_big_quiet_step ((go_at_call 62; exact later_of (LCG.out _ (Later.h _)))))
                          refine wpQuiet_nil ?_
                          rintro wq2 ⟨⟨_, hbq2⟩, rfl⟩
                          have HRR := Lib.hid (HR.out hbl)
                          have H6 : ∀ z : Later wq2, z.w'.cell? ⟨wr.heap.size, 0, none⟩ = some (.int .i64 k) := fun z => G6 ⟨z.w', below_then hbq2 z.h⟩
                          have H7 : ∀ z : Later wq2, z.w'.cell? ⟨wo2.heap.size, 0, none⟩ = some (.int .i64 i) := fun z => G7 ⟨z.w', below_then hbq2 z.h⟩
                          have HBH : Hid (∀ w', Below wq2.heap.size wq2 w' → Below w.heap.size w w') := fun w' hb => (HBG.out _ (below_then hbq2 hb))
                          clear G5 G6 G7 G8
                          go_wp2_with fail
                          refine wp_region_later (by kernel_rfl) (by kernel_rfl) ?_
                          repeat (go_big_quiet_step (fail))
                          refine wpQuiet_nil ?_
                          rintro wq3 ⟨⟨_, hbq3⟩, rfl⟩
                          clear H6 H7
                          go_wp2_with fail
                          go_ret3
                          exact ⟨by rw [HRR.out]; rfl, HBH.out _ hbq3⟩
                · have : k = x0.length := by omega
                  subst this
                  have HROW : Hid (∀ i' k', i' < i + 1 → k' < x0.length → bf i' k' = false) := fun i' k' h1 h2 => by
                    by_cases e : i' = i
                    · subst e; exact hcols.out k' h2
                    · exact hrows.out i' k' (by omega) h2
                  clear hcols hrows
                  go_wp2_with fail
                  go_roundw
                  case rel => exact ⟨i + 1, by omega, by go_num, HROW, X, hA⟩
                  case measure => simp [intOf]; omega
            · have : i = x0.length := by omega
              subst this
              have HR : Hid (schoolF ⟨x0, x1⟩ s m = none) := HZ.out hrows.out
              have hb := X.1
              clear hrows
              go_wp2_with fail
              go_ret3
              exact ⟨by rw [HR.out]; rfl, hb⟩
end Go.Proofs.Ytchfibmndcfpiaa
namespace Go.Proofs.Ytchfibmndcfpiaa
set_option linter.unusedVariables false
set_option linter.unusedSimpArgs false
open Go.RowKit

theorem RdII.rowAt {w : World} {B b o : Nat} {yss : List (List Int)} (h : RdII w B (some ⟨b, o, none⟩) yss) {k : Nat} (hk : k < yss.length) :
    ∃ a' c', w.cell? ⟨b, o + k, none⟩ = some (.slice a' (row yss k).length c') ∧ Rd w B a' (ints (row yss k)) := by
  obtain ⟨b', o', ys, a', c', e, _, h1, _, h2, h3⟩ := h.get hk
  injection e with e; injection e with e1 e2 e3
  subst e1 e2
  have : row yss k = ys := by simp [row, List.getD, h3.out]
  rw [this]
  exact ⟨a', c', h1, h2⟩
/-- Where the boxes of the asking lie. -/
structure LayK (B0 gm b6 gq b7 : Nat) : Prop where
  h1 : B0 < gm
  h2 : gm < b6
  h3 : b6 < gq
  h4 : gq < b7
structure AskS (w0 : World) (bx : List Value) (n gm b6 gq b7 : Nat) (m q : List Int) (w : World) : Prop where
  bx : Bx w0 w bx 27
  md : Blk w gm (ints m) 2
  mb : Blk w b6 [.slice (some ⟨gm, 0, none⟩) n n] 31
  qd : Blk w gq (ints q) 3
  qb : Blk w b7 [.slice (some ⟨gq, 0, none⟩) n n] 92
section
variable {w0 w w' : World} {bx : List Value} {n gm b6 gq b7 : Nat} {m q : List Int}
theorem AskS.later (h : AskS w0 bx n gm b6 gq b7 m q w) (hb : Below w.heap.size w w') : AskS w0 bx n gm b6 gq b7 m q w' :=
  ⟨h.bx.next hb, h.md.same hb, h.mb.same hb, h.qd.same hb, h.qb.same hb⟩
theorem AskS.stoM (L : LayK w0.heap.size gm b6 gq b7) (h : AskS w0 bx n gm b6 gq b7 m q w) (i : Nat) (x : Int) : AskS w0 bx n gm b6 gq b7 (m.set i x) q (w.setCell ⟨gm, i, none⟩ (.int .i64 x)) := by
  obtain ⟨l1, l2, l3, l4⟩ := L
  exact ⟨h.bx.far (below_sto (Below.refl gm w) (Nat.le_refl _) i _) (by omega), h.md.setI i x, h.mb.oth (by omega) _ _, h.qd.oth (by omega) _ _, h.qb.oth (by omega) _ _⟩
theorem AskS.stoQ (L : LayK w0.heap.size gm b6 gq b7) (h : AskS w0 bx n gm b6 gq b7 m q w) (i : Nat) (x : Int) : AskS w0 bx n gm b6 gq b7 m (q.set i x) (w.setCell ⟨gq, i, none⟩ (.int .i64 x)) := by
  obtain ⟨l1, l2, l3, l4⟩ := L
  exact ⟨h.bx.far (below_sto (Below.refl gq w) (Nat.le_refl _) i _) (by omega), h.md.oth (by omega) _ _, h.mb.oth (by omega) _ _, h.qd.setI i x, h.qb.oth (by omega) _ _⟩
end
theorem enter_ask (args : Array Value) (w : World) : (callFunc 85 args).run Try.prog w = .ok (.enter 85 args) w := by kernel_rfl
set_option maxHeartbeats 1000000 in
theorem ask1_any (w : World) (gw gm b6 gq b7 bL oL c0 n i : Nat) (mi qi : Int) (al : Option Addr) (ll cl : Nat) (hi : i < n) (hn : n ≤ 8) (hll : ll ≤ 1048576)
    (k0 : w.cell? ⟨gw, 0, none⟩ = some (.slice (some ⟨bL, oL, none⟩) n c0)) (k6 : w.cell? ⟨b6, 0, none⟩ = some (.slice (some ⟨gm, 0, none⟩) n n)) (k7 : w.cell? ⟨b7, 0, none⟩ = some (.slice (some ⟨gq, 0, none⟩) n n))
    (km : w.cell? ⟨gm, i, none⟩ = some (.int .i64 mi)) (kq : w.cell? ⟨gq, i, none⟩ = some (.int .i64 qi)) (kl : w.cell? ⟨bL, oL + i, none⟩ = some (.slice al ll cl)) :
    Calls Try.prog 85 #[.int .i64 i, .pointer (some ⟨b6, 0, none⟩), .pointer (some ⟨b7, 0, none⟩), .pointer (some ⟨gw, 0, none⟩)] w fun e w' => e = .returned (.bool (decide (mi < 0) && decide (qi < (ll : Int)))) ∧ Below w.heap.size w w' := by
  have i0 : (0 : Int) ≤ (i : Int) := Int.natCast_nonneg _
  have i1 : (i : Int) < (n : Int) := by omega
  have km' : w.cell? ⟨gm, 0 + i, none⟩ = some (.int .i64 mi) := by rw [Nat.zero_add]; exact km
  have kq' : w.cell? ⟨gq, 0 + i, none⟩ = some (.int .i64 qi) := by rw [Nat.zero_add]; exact kq
  cases h1 : decide (mi < 0) with
  | false =>
    go_enter Try.func85, Try.ntmps85
    go_wp2_with fail
    go_quiet (fail)
    go_wp2_with fail
    go_ret
    exact ⟨rfl, drewN_below _ _⟩
  | true =>
    go_enter Try.func85, Try.ntmps85
    go_wp2_with fail
    go_quiet (fail)
    go_wp2_with fail
    go_ret
    exact ⟨rfl, drewN_below _ _⟩
end Go.Proofs.Ytchfibmndcfpiaa
namespace Go.Proofs.Ytchfibmndcfpiaa
set_option linter.unusedVariables false
set_option linter.unusedSimpArgs false
open Go.RowKit

theorem own_touch {T : Nat} {w w' : World} {lo hi lo' hi' n : Nat} {v : Value} {xs : List Value} (h : w.ownsRow lo T 1 v n xs) (hv : ∀ g, v.ownBlock = some g → g < hi) (ht : Touch w w' lo' hi') (hd : hi ≤ lo' ∨ hi' ≤ lo) : w'.ownsRow lo T 1 v n xs := by
  refine ⟨h.1, ?_⟩
  rcases h.2 with h2 | ⟨g, cap, cur, hv2, hg, hh, r⟩
  · exact .inl h2
  · have h3 : g < hi := hv g (by rw [hv2]; rfl)
    exact .inr ⟨g, cap, cur, hv2, hg, by rw [ht.block g (lt_of_block hh) (by omega)]; exact hh, r⟩
/-- A slice of slices of integers in blocks of its own, each row in a block of its own. -/
structure OwnRows (T T2 : Nat) (w : World) (lo hi : Nat) (u : Value) (vs : List Value) (yss : List (List Int)) : Prop where
  out : w.ownsRow lo T2 1 u yss.length vs
  lt : ∀ g, u.ownBlock = some g → g < hi
  row : ∀ (j : Nat) (ys : List Int), yss[j]? = some ys → ∃ g c, vs[j]? = some (.slice (some ⟨g, 0, none⟩) ys.length c) ∧ OwnI T w lo hi (some ⟨g, 0, none⟩) c ys
  top : ∀ (j : Nat) (v : Value), vs[j]? = some v → Apart u v
  dis : ∀ (i j : Nat) (v v' : Value), i ≠ j → vs[i]? = some v → vs[j]? = some v' → Apart v v'
def OwnLL (T T2 : Nat) (w : World) (lo hi : Nat) (a : Option Addr) (c : Nat) (yss : List (List Int)) : Prop := ∃ vs, OwnRows T T2 w lo hi (.slice a yss.length c) vs yss
section
variable {T T2 lo hi c : Nat} {w w' : World} {a : Option Addr} {yss : List (List Int)}
theorem OwnRows.len {u : Value} {vs : List Value} (h : OwnRows T T2 w lo hi u vs yss) : vs.length = yss.length := by
  have := h.out.1; omega
theorem OwnLL.rd (h : OwnLL T T2 w lo hi a c yss) : RdII w hi a yss := by
  obtain ⟨vs, h⟩ := h
  refine ⟨vs, h.len, ?_, fun k ys hk => ?_⟩
  · rcases rd_of_own h.out (Nat.le_refl _) with h' | ⟨b, o, ha, hb, hc⟩
    · exact .inl h'
    · exact .inr ⟨b, o, ha, h.lt b (by rw [ha]; rfl), hc⟩
  · obtain ⟨g', c', h1, h2⟩ := h.row k ys hk
    exact ⟨_, c', h1, h2.cap, h2.rd⟩
theorem OwnLL.keep (h : OwnLL T T2 w lo hi a c yss) (hb : Below w.heap.size w w') : OwnLL T T2 w' lo hi a c yss := by
  obtain ⟨vs, h⟩ := h
  exact ⟨vs, own_below h.out hb, h.lt, fun j ys hj => let ⟨a', c', h1, h2⟩ := h.row j ys hj; ⟨a', c', h1, h2.keep hb⟩, h.top, h.dis⟩
theorem OwnLL.touch {lo' hi' : Nat} (h : OwnLL T T2 w lo hi a c yss) (ht : Touch w w' lo' hi') (hd : hi ≤ lo' ∨ hi' ≤ lo) : OwnLL T T2 w' lo hi a c yss := by
  obtain ⟨vs, h⟩ := h
  exact ⟨vs, own_touch h.out h.lt ht hd, h.lt, fun j ys hj => let ⟨a', c', h1, h2⟩ := h.row j ys hj; ⟨a', c', h1, h2.touch ht hd⟩, h.top, h.dis⟩
theorem OwnLL.mono {lo' hi' : Nat} (h : OwnLL T T2 w lo hi a c yss) (h1 : lo' ≤ lo) (h2 : hi ≤ hi') : OwnLL T T2 w lo' hi' a c yss := by
  obtain ⟨vs, h⟩ := h
  exact ⟨vs, own_base h.out h1, fun g hg => Nat.lt_of_lt_of_le (h.lt g hg) h2, fun j ys hj => let ⟨a', c', h3, h4⟩ := h.row j ys hj; ⟨a', c', h3, h4.mono h1 h2⟩, h.top, h.dis⟩
theorem OwnLL.nil {w : World} : OwnLL T T2 w lo hi none 0 [] :=
  ⟨[], World.ownsRow_nil _ _ _ _, (fun g hg => by cases hg), (fun j ys hj => by simp at hj), (fun j v hj => by simp at hj), (fun i j v v' _ hi _ => by simp at hi)⟩
end
theorem OwnI.apart {T lo hi c : Nat} {w w' : World} {a : Option Addr} {xs : List Int} {u : Value} (h : OwnI T w lo hi a c xs) (hg : w.grownBy w' u.ownBlock) (ha : Apart u (.slice a xs.length c)) : OwnI T w' lo hi a c xs :=
  ⟨own_apart h.1 hg ha, h.2⟩
/-- Nothing, as '[][]int64{}' makes it. -/
theorem OwnRows.start {T T2 : Nat} {w : World} {lo : Nat} {u : Value} (h : w.ownsRow lo T2 1 u 0 []) : OwnRows T T2 w lo w.heap.size u [] [] :=
  ⟨h, (fun g hg => (h.lt g hg).2), (fun j ys hj => by simp at hj), (fun j v hj => by simp at hj), (fun i j v v' _ hi _ => by simp at hi)⟩
theorem OwnRows.keep {T T2 : Nat} {w w' : World} {lo hi : Nat} {u : Value} {vs : List Value} {yss : List (List Int)} (h : OwnRows T T2 w lo hi u vs yss) (hb : Below w.heap.size w w') : OwnRows T T2 w' lo hi u vs yss :=
  ⟨own_below h.out hb, h.lt, fun j ys hj => let ⟨a', c', h1, h2⟩ := h.row j ys hj; ⟨a', c', h1, h2.keep hb⟩, h.top, h.dis⟩
theorem OwnRows.grown {T T2 : Nat} {w w' : World} {lo hi q : Nat} {u : Value} {vs : List Value} {yss : List (List Int)} (h : OwnRows T T2 w lo hi u vs yss) (hg : w.grownBy w' (some q)) (hq : q < lo ∨ hi ≤ q) : OwnRows T T2 w' lo hi u vs yss := by
  have ht : Touch w w' q (q + 1) := Touch.of_grown hg (Nat.le_refl _) (by omega)
  exact ⟨own_touch h.out h.lt ht (by omega), h.lt, fun j ys hj => let ⟨a', c', h1, h2⟩ := h.row j ys hj; ⟨a', c', h1, h2.touch ht (by omega)⟩, h.top, h.dis⟩
/-- A row of its own, made since, is appended. -/
theorem OwnRows.snoc {T T2 : Nat} {w0 w w' : World} {lo hi r0 g c : Nat} {u u' : Value} {vs : List Value} {yss : List (List Int)} {ys : List Int}
    (h : OwnRows T T2 w0 lo hi u vs yss) (hb : Below w0.heap.size w0 w) (hlo : lo ≤ r0) (hhi : hi ≤ r0) (hr : OwnI T w r0 w.heap.size (some ⟨g, 0, none⟩) c ys) (hy0 : w0.heap.size ≤ r0)
    (ho : w'.ownsRow lo T2 1 u' (yss.length + 1) (vs ++ [.slice (some ⟨g, 0, none⟩) ys.length c])) (hg : w.grownBy w' u.ownBlock) (hn : ∀ g, g < w.heap.size → some g ≠ u.ownBlock → some g ≠ u'.ownBlock) :
    OwnRows T T2 w' lo w'.heap.size u' (vs ++ [.slice (some ⟨g, 0, none⟩) ys.length c]) (yss ++ [ys]) := by
  have hl := h.len
  have hk := h.keep hb
  have hrg : r0 ≤ g := (hr.1.lt g rfl).1
  have hgw : g < w.heap.size := (hr.1.lt g rfl).2
  have hap : Apart u (.slice (some ⟨g, 0, none⟩) ys.length c) := fun q hq e => by
    have := h.lt q hq
    simp [Value.ownBlock] at e
    omega
  have at' : ∀ (j : Nat) (v : Value), (vs ++ [.slice (some ⟨g, 0, none⟩) ys.length c])[j]? = some v → (j < yss.length ∧ vs[j]? = some v) ∨ (j = yss.length ∧ v = .slice (some ⟨g, 0, none⟩) ys.length c) := by
    intro j v hj
    by_cases hlt : j < vs.length
    · rw [List.getElem?_append_left hlt] at hj
      exact .inl ⟨by omega, hj⟩
    · rw [List.getElem?_append_right (by omega)] at hj
      have : j - vs.length = 0 := by
        have := (List.getElem?_eq_some_iff.1 hj).1
        simp at this
        omega
      rw [this] at hj
      simp at hj
      exact .inr ⟨by omega, hj.symm⟩
  have hrow : ∀ (j : Nat) (v : Value), vs[j]? = some v → ∃ g' c' ys', v = .slice (some ⟨g', 0, none⟩) ys'.length c' ∧ OwnI T w lo hi (some ⟨g', 0, none⟩) c' ys' := by
    intro j v hj
    have hlt : j < yss.length := by have := (List.getElem?_eq_some_iff.1 hj).1; omega
    obtain ⟨g', c', h1, h2⟩ := hk.row j yss[j] (List.getElem?_eq_getElem hlt)
    rw [hj] at h1
    injection h1 with h1
    exact ⟨g', c', _, h1, h2⟩
  refine ⟨by rw [List.length_append, List.length_singleton]; exact ho, fun q hq => (ho.lt q hq).2, fun j zs hj => ?_, fun j v hj => ?_, fun i j v v' hij hi hj => ?_⟩
  · by_cases hlt : j < yss.length
    · rw [List.getElem?_append_left hlt] at hj
      obtain ⟨g', c', h1, h2⟩ := hk.row j zs hj
      refine ⟨g', c', by rw [List.getElem?_append_left (by omega)]; exact h1, ?_⟩
      exact (h2.apart hg (h.top j _ h1)).mono (Nat.le_refl _) (by have := hb.size; have := hg.size; omega)
    · rw [List.getElem?_append_right (by omega)] at hj
      have : j - yss.length = 0 := by
        have := (List.getElem?_eq_some_iff.1 hj).1
        simp at this
        omega
      rw [this] at hj
      simp at hj
      subst hj
      refine ⟨g, c, by rw [List.getElem?_append_right (by omega), show j - vs.length = 0 by omega]; rfl, ?_⟩
      exact (hr.apart hg hap).mono hlo hg.size
  · rcases at' j v hj with ⟨_, h1⟩ | ⟨_, rfl⟩
    · obtain ⟨g', c', ys', e, h2⟩ := hrow j v h1
      have ha := h.top j v h1
      subst e
      exact apart_grow h2.1 ha hn
    · exact apart_grow hr.1 hap hn
  · rcases at' i v hi with ⟨i1, h1⟩ | ⟨i1, rfl⟩ <;> rcases at' j v' hj with ⟨j1, h2⟩ | ⟨j1, rfl⟩
    · exact h.dis i j v v' hij h1 h2
    · obtain ⟨g', c', ys', e, h3⟩ := hrow i v h1
      subst e
      intro q hq e
      have := h3.2 _ rfl
      simp [Value.ownBlock] at hq e
      simp at this
      omega
    · obtain ⟨g', c', ys', e, h3⟩ := hrow j v' h2
      subst e
      intro q hq e
      have := h3.2 _ rfl
      simp [Value.ownBlock] at hq e
      simp at this
      omega
    · omega
end Go.Proofs.Ytchfibmndcfpiaa
namespace Go.Proofs.Ytchfibmndcfpiaa
set_option linter.unusedVariables false
set_option linter.unusedSimpArgs false
open Go.RowKit

structure OwnTop (T T2 : Nat) (w : World) (t0 lo hi : Nat) (u : Value) (vs : List Value) (yss : List (List Int)) : Prop where
  out : w.ownsRow t0 T2 1 u yss.length vs
  lt : ∀ g, u.ownBlock = some g → g = t0 ∨ (lo ≤ g ∧ g < hi)
  row : ∀ (j : Nat) (ys : List Int), yss[j]? = some ys → ∃ g c, vs[j]? = some (.slice (some ⟨g, 0, none⟩) ys.length c) ∧ OwnI T w lo hi (some ⟨g, 0, none⟩) c ys
  top : ∀ (j : Nat) (v : Value), vs[j]? = some v → Apart u v
  dis : ∀ (i j : Nat) (v v' : Value), i ≠ j → vs[i]? = some v → vs[j]? = some v' → Apart v v'
section
variable {T T2 t0 lo hi : Nat} {w w' : World} {u : Value} {vs : List Value} {yss : List (List Int)}
theorem OwnTop.len (h : OwnTop T T2 w t0 lo hi u vs yss) : vs.length = yss.length := by have := h.out.1; omega
theorem OwnTop.start (h : w.ownsRow t0 T2 1 u 0 []) (hu : ∀ g, u.ownBlock = some g → g = t0) : OwnTop T T2 w t0 lo hi u [] [] :=
  ⟨h, (fun g hg => .inl (hu g hg)), (fun j ys hj => by simp at hj), (fun j v hj => by simp at hj), (fun i j v v' _ hi _ => by simp at hi)⟩
theorem OwnTop.mono {hi' : Nat} (h : OwnTop T T2 w t0 lo hi u vs yss) (hh : hi ≤ hi') : OwnTop T T2 w t0 lo hi' u vs yss :=
  ⟨h.out, fun g hg => (h.lt g hg).imp id fun ⟨h1, h2⟩ => ⟨h1, by omega⟩, fun j ys hj => let ⟨g, c, h1, h2⟩ := h.row j ys hj; ⟨g, c, h1, h2.mono (Nat.le_refl _) hh⟩, h.top, h.dis⟩
theorem OwnTop.keep (h : OwnTop T T2 w t0 lo hi u vs yss) (hb : Below w.heap.size w w') : OwnTop T T2 w' t0 lo hi u vs yss :=
  ⟨own_below h.out hb, h.lt, fun j ys hj => let ⟨g, c, h1, h2⟩ := h.row j ys hj; ⟨g, c, h1, h2.keep hb⟩, h.top, h.dis⟩
theorem OwnTop.grown {q : Nat} (h : OwnTop T T2 w t0 lo hi u vs yss) (hg : w.grownBy w' (some q)) (hq0 : q ≠ t0) (hq : q < lo ∨ hi ≤ q) : OwnTop T T2 w' t0 lo hi u vs yss := by
  have ht : Touch w w' q (q + 1) := Touch.of_grown hg (Nat.le_refl _) (by omega)
  refine ⟨h.out.kept hg (.inr fun e => ?_), h.lt, fun j ys hj => let ⟨g, c, h1, h2⟩ := h.row j ys hj; ⟨g, c, h1, h2.touch ht (by omega)⟩, h.top, h.dis⟩
  rcases h.lt q e with h1 | ⟨h1, h2⟩ <;> omega
theorem OwnTop.rows (h : OwnTop T T2 w t0 lo hi u vs yss) (h1 : t0 ≤ lo) (h2 : t0 < hi) : OwnRows T T2 w t0 hi u vs yss :=
  ⟨h.out, fun g hg => by rcases h.lt g hg with h3 | ⟨_, h3⟩ <;> omega, fun j ys hj => let ⟨g, c, h3, h4⟩ := h.row j ys hj; ⟨g, c, h3, h4.mono h1 (Nat.le_refl _)⟩, h.top, h.dis⟩
end
/-- A row of its own, made since, is appended. -/
theorem OwnTop.snoc {T T2 : Nat} {w0 w w' : World} {t0 lo hi r0 g c : Nat} {u u' : Value} {vs : List Value} {yss : List (List Int)} {ys : List Int}
    (h : OwnTop T T2 w0 t0 lo hi u vs yss) (hb : Below w0.heap.size w0 w) (ht0 : t0 < lo) (hlo : lo ≤ r0) (hhi : hi ≤ r0) (hr : OwnI T w r0 w.heap.size (some ⟨g, 0, none⟩) c ys) (hy0 : w0.heap.size ≤ r0)
    (ho : w'.ownsRow t0 T2 1 u' (yss.length + 1) (vs ++ [.slice (some ⟨g, 0, none⟩) ys.length c])) (hg : w.grownBy w' u.ownBlock) (hn : ∀ g, g < w.heap.size → some g ≠ u.ownBlock → some g ≠ u'.ownBlock) :
    OwnTop T T2 w' t0 lo w'.heap.size u' (vs ++ [.slice (some ⟨g, 0, none⟩) ys.length c]) (yss ++ [ys]) := by
  have hl := h.len
  have hk := h.keep hb
  have hrg : r0 ≤ g := (hr.1.lt g rfl).1
  have hgw : g < w.heap.size := (hr.1.lt g rfl).2
  have hap : Apart u (.slice (some ⟨g, 0, none⟩) ys.length c) := fun q hq e => by
    have := h.lt q hq
    simp [Value.ownBlock] at e
    omega
  have at' : ∀ (j : Nat) (v : Value), (vs ++ [.slice (some ⟨g, 0, none⟩) ys.length c])[j]? = some v → (j < yss.length ∧ vs[j]? = some v) ∨ (j = yss.length ∧ v = .slice (some ⟨g, 0, none⟩) ys.length c) := by
    intro j v hj
    by_cases hlt : j < vs.length
    · rw [List.getElem?_append_left hlt] at hj
      exact .inl ⟨by omega, hj⟩
    · rw [List.getElem?_append_right (by omega)] at hj
      have : j - vs.length = 0 := by
        have := (List.getElem?_eq_some_iff.1 hj).1
        simp at this
        omega
      rw [this] at hj
      simp at hj
      exact .inr ⟨by omega, hj.symm⟩
  have hrow : ∀ (j : Nat) (v : Value), vs[j]? = some v → ∃ g' c' ys', v = .slice (some ⟨g', 0, none⟩) ys'.length c' ∧ OwnI T w lo hi (some ⟨g', 0, none⟩) c' ys' := by
    intro j v hj
    have hlt : j < yss.length := by have := (List.getElem?_eq_some_iff.1 hj).1; omega
    obtain ⟨g', c', h1, h2⟩ := hk.row j yss[j] (List.getElem?_eq_getElem hlt)
    rw [hj] at h1
    injection h1 with h1
    exact ⟨g', c', _, h1, h2⟩
  refine ⟨by rw [List.length_append, List.length_singleton]; exact ho, fun q hq => ?_, fun j zs hj => ?_, fun j v hj => ?_, fun i j v v' hij hi hj => ?_⟩
  · by_cases e : some q = u.ownBlock
    · rcases h.lt q e.symm with h1 | ⟨h1, h2⟩
      · exact .inl h1
      · exact .inr ⟨h1, (ho.lt q hq).2⟩
    · refine .inr ⟨?_, (ho.lt q hq).2⟩
      by_cases hqw : q < w.heap.size
      · exact absurd hq.symm (hn q hqw e)
      · omega
  · by_cases hlt : j < yss.length
    · rw [List.getElem?_append_left hlt] at hj
      obtain ⟨g', c', h1, h2⟩ := hk.row j zs hj
      refine ⟨g', c', by rw [List.getElem?_append_left (by omega)]; exact h1, ?_⟩
      exact (h2.apart hg (h.top j _ h1)).mono (Nat.le_refl _) (by have := hb.size; have := hg.size; omega)
    · rw [List.getElem?_append_right (by omega)] at hj
      have : j - yss.length = 0 := by
        have := (List.getElem?_eq_some_iff.1 hj).1
        simp at this
        omega
      rw [this] at hj
      simp at hj
      subst hj
      refine ⟨g, c, by rw [List.getElem?_append_right (by omega), show j - vs.length = 0 by omega]; rfl, ?_⟩
      exact (hr.apart hg hap).mono hlo hg.size
  · rcases at' j v hj with ⟨_, h1⟩ | ⟨_, rfl⟩
    · obtain ⟨g', c', ys', e, h2⟩ := hrow j v h1
      have ha := h.top j v h1
      subst e
      exact apart_grow h2.1 ha hn
    · exact apart_grow hr.1 hap hn
  · rcases at' i v hi with ⟨i1, h1⟩ | ⟨i1, rfl⟩ <;> rcases at' j v' hj with ⟨j1, h2⟩ | ⟨j1, rfl⟩
    · exact h.dis i j v v' hij h1 h2
    · obtain ⟨g', c', ys', e, h3⟩ := hrow i v h1
      subst e
      intro q hq e
      have := h3.2 _ rfl
      simp [Value.ownBlock] at hq e
      simp at this
      omega
    · obtain ⟨g', c', ys', e, h3⟩ := hrow j v' h2
      subst e
      intro q hq e
      have := h3.2 _ rfl
      simp [Value.ownBlock] at hq e
      simp at this
      omega
    · omega
/-- append as a step of a region that draws its order; the new value's block is known. -/
theorem step_append_blk {P : Program} {ops : Array Oper} {o : Oper} {a : Act} {wr : World} {K : Act → World → Prop} {Q : Exit → Act → World → Prop} {E : Prop}
    (hg : o.guard = none) (s x : Operand) (t : TypeId) (hop : o.op = Op.call { callee := Callee.builtin Builtin.append, args := #[s, x], argTypes := #[t, t] })
    (base : Nat) (e : TypeId) (z : Value) (bytes : Nat) (h1 : P.underlying t = some (.slice e)) (hinfo : (P.info? e).map (fun i => (i.zero, i.size, i.bytes)) = some (some z, 1, bytes)) (hz : z.cells.size = 1)
    (v : Value) (n : Nat) (xs : List Value) (hs : a.eval s = v) (hown : wr.ownsRow base e 1 v n xs) (y : Value) (hy : y.oneCell' = true)
    (hx : a.eval x = .slice (some ⟨wr.heap.size, 0, none⟩) 1 1) (hb : bytes ≤ 64) (hn : n ≤ 1099511627776) (hbase : base ≤ wr.heap.size)
    (hK : ∀ g c w', w'.ownsRow base e 1 (.slice (some ⟨g, 0, none⟩) (n + 1) c) (n + 1) (xs ++ [y]) → wr.grownBy w' v.ownBlock → (∀ q, q < wr.heap.size → some q ≠ v.ownBlock → some q ≠ (Value.slice (some ⟨g, 0, none⟩) (n + 1) c).ownBlock) → K (a.put o.dst (.slice (some ⟨g, 0, none⟩) (n + 1) c)) w') :
    if Region.wanted o (yielded ops a.tmps) = true then Oper.wp P o a (wr.alloc (.cells #[y] e)) K Q else E := by
  obtain ⟨i, h2, h3, h4, h5⟩ := info_parts hinfo
  have hbb : (n + 1) * bytes ≤ 140737488355328 := Nat.le_trans (Nat.mul_le_mul_left (n + 1) hb) (by omega)
  have hone : ∀ u ∈ [y], u.oneCell' = true := by
    intro u hu
    simp at hu
    subst hu
    exact hy
  refine step_append_lies _ hg s x t hop base e i z 1 bytes h1 h2 h3 h4 h5 hz (by omega) v n xs hs (hown.alloc _) ⟨wr.heap.size, 0, none⟩ 1 1 [y] hx rfl (World.news_of_block (cs := #[y]) (t := e) (fr := (0, 0)) (heap_alloc_new wr _)) hone (by omega) (by unfold maxLen; omega) hbb (by simp; omega) (wr.heap.size + 1) (by simp) ?_
  intro g c w' ho hgr hat _
  refine hK g c w' ho ⟨hgr.os, hgr.tape, hgr.output, ?_, fun k hk hne => ?_⟩ fun q hq hqv hqv' => ?_
  · have := hgr.size; simp at this; omega
  · rw [hgr.block k (by simp; omega) hne]
    exact Below.heap_alloc _ _ _ hk
  · simp [Value.ownBlock] at hqv'
    subst hqv'
    rcases hat with h | h
    · exact hqv h.symm
    · omega
end Go.Proofs.Ytchfibmndcfpiaa
namespace Go.Proofs.Ytchfibmndcfpiaa
set_option linter.unusedVariables false
set_option linter.unusedSimpArgs false
open Go.RowKit

theorem info_intA : (Try.prog.info? 3).map (fun i => (i.zero, i.size, i.bytes)) = some (some (.int .i64 0), 1, 8) := by kernel_rfl
theorem intsR (n : Nat) (x : Int) : List.replicate n (Value.int .i64 x) = ints (List.replicate n x) := by simp [ints]
theorem worstN_yes {xs m : List Int} {k t : Nat} (h : m.getD t 0 = (k : Int)) (h2 : worstN xs m k t < 0 ∨ placeI xs (worstN xs m k t) < placeI xs t) : worstN xs m k (t + 1) = (t : Int) := by rw [worstN, if_pos ⟨h, h2⟩]
theorem worstN_old {xs m : List Int} {k t : Nat} (h2 : ¬ (worstN xs m k t < 0 ∨ placeI xs (worstN xs m k t) < placeI xs t)) : worstN xs m k (t + 1) = worstN xs m k t := by rw [worstN, if_neg (fun h => h2 h.2)]
theorem worstN_ne {xs m : List Int} {k t : Nat} (h : m.getD t 0 ≠ (k : Int)) : worstN xs m k (t + 1) = worstN xs m k t := by rw [worstN, if_neg (fun hh => h hh.1)]
theorem hasN_yes {m : List Int} {k t : Nat} (h : m.getD t 0 = (k : Int)) : (hasN m k (t + 1)).length = (hasN m k t).length + 1 := by rw [hasN, if_pos h]; simp
theorem hasN_ne {m : List Int} {k t : Nat} (h : m.getD t 0 ≠ (k : Int)) : (hasN m k (t + 1)).length = (hasN m k t).length := by rw [hasN, if_neg h]
theorem worstN_bd {xs m : List Int} {k t : Nat} : -1 ≤ worstN xs m k t ∧ worstN xs m k t < t := by
  rcases worstN_spec (xs := xs) (m := m) (k := k) (t := t) with ⟨h, _⟩ | ⟨j, h, hj, _⟩ <;> rw [h] <;> omega
set_option maxRecDepth 10000 in
set_option maxHeartbeats 16000000 in
theorem ask_any (w : World) (a0 : Option Addr) (c0 : Nat) (x0 : List (List Int)) (a1 : Option Addr) (c1 : Nat) (x1 : List (List Int)) (as' : Option Addr) (cs : Nat) (s : List Int) (h : RdWishes w w.heap.size a0 x0 a1 x1) (hv : Wish ⟨x0, x1⟩) (hin0 : ∀ y ∈ x0, y.length ≤ 1048576) (hin1 : ∀ y ∈ x1, y.length ≤ 1048576)
    (gs : Rd w w.heap.size as' (ints s)) (hls : s.length = x0.length) :
    Calls Try.prog 43 #[.agg #[.slice a0 x0.length c0, .slice a1 x1.length c1], .slice as' s.length cs] w fun e w' => ∃ g, e = .returned (.tuple #[.slice (some ⟨g, 0, none⟩) x0.length x0.length, .int .i64 (askF ⟨x0, x1⟩ s).2.sum]) ∧ OwnI 2 w' w.heap.size w'.heap.size (some ⟨g, 0, none⟩) x0.length (askF ⟨x0, x1⟩ s).1 ∧ Below w.heap.size w w' := by
  have hn1 : 1 ≤ x0.length := hv.n1
  have hn8 : x0.length ≤ 8 := hv.n8
  have hRl : x1.length = x0.length := hv.len
  obtain ⟨bL, oL, _, _, _, hLe, hbL, -⟩ := h.1.get (k := 0) (by omega)
  subst hLe
  obtain ⟨bR, oR, _, _, _, hRe, hbR, -⟩ := h.2.get (k := 0) (by omega)
  subst hRe
  obtain ⟨bS, oS, hSe, hbS, hcS⟩ := gs.at (k := 0) (by omega)
  subst hSe
  have HRL := Lib.hid (fun (wr : World) (hb : Below w.heap.size w wr) (i : Nat) (hi : i < x0.length) => RdII.rowAt (h.to hb).1 hi)
  have HRR := Lib.hid (fun (wr : World) (hb : Below w.heap.size w wr) (i : Nat) (hi : i < x0.length) => RdII.rowAt (h.to hb).2 (k := i) (by omega))
  have HS := Lib.hid (fun (wr : World) (hb : Below w.heap.size w wr) (i : Nat) (hi : i < x0.length) => (hb.cell (p := ⟨bS, oS + i, none⟩) hbS).trans (hcS i (by omega)))
  have HLl : Hid (∀ i, i < x0.length → (row x0 i).length ≤ 1048576) := fun i hi => hin0 _ (row_mem hi)
  have HRn : Hid (∀ i, i < x0.length → (row x1 i).length ≤ 1048576) := fun i hi => hin1 _ (row_mem (by omega))
  have X0 : Bx w (w.alloc (.cells #[.slice (some ⟨bL, oL, none⟩) x0.length c0, .slice (some ⟨bR, oR, none⟩) x1.length c1] 27)) [.slice (some ⟨bL, oL, none⟩) x0.length c0, .slice (some ⟨bR, oR, none⟩) x1.length c1] 27 := Bx.start w _ _
  have LC := Lib.hid (fun w' => count_any w' (some ⟨bL, oL, none⟩) c0 x0 (some ⟨bR, oR, none⟩) c1 x1)
  have LN := Lib.hid (fun w' => none_any w' x0.length hn1 (by omega))
  have HVw := Lib.hid hv
  have HRl := Lib.hid hRl
  have HLs := Lib.hid hls
  obtain ⟨W0, hW0⟩ : ∃ W, W = w := ⟨_, rfl⟩
  clear h gs hcS hin0 hin1 hv hRl hls
  go_enter Try.func43, Try.ntmps43
  go_wp2_with fail
  refine (LC.out _).mono ?_
  rintro e w1 ⟨rfl, hb1⟩
  have X1 := X0.next hb1
  obtain ⟨q0, q1⟩ := X1.two
  clear hb1 X0
  go_wp2_with fail
  refine (LN.out _).mono ?_
  rintro e w2 ⟨rfl, hm2, hb2⟩
  have X2 := X1.next hb2
  have s2 := hb2.size
  have x1s := X1.lt
  obtain ⟨gm, hgm⟩ : ∃ g, g = w1.heap.size + 1 := ⟨_, rfl⟩
  rw [← hgm] at hm2 ⊢
  have l1 : w.heap.size < gm := by omega
  have l2 : gm < w2.heap.size := hm2.lt
  clear q0 q1 hb2 X1 hgm s2 x1s
  go_upto_region 2 with fail
  obtain ⟨b6, hb6⟩ : ∃ g, g = w2.heap.size := ⟨_, rfl⟩
  obtain ⟨w3, hw3⟩ : ∃ W, W = w2.alloc (.cells #[.slice (some ⟨gm, 0, none⟩) x0.length x0.length] 31) := ⟨_, rfl⟩
  have X3 : Bx w w3 [.slice (some ⟨bL, oL, none⟩) x0.length c0, .slice (some ⟨bR, oR, none⟩) x1.length c1] 27 := X2.next (by rw [hw3]; exact bl1 _ _)
  have mb3 : Blk w3 b6 [.slice (some ⟨gm, 0, none⟩) x0.length x0.length] 31 := by rw [hw3, hb6]; exact Blk.new _ _ _
  have md3 : Blk w3 gm (ints (List.replicate x0.length (-1))) 2 := by rw [hw3]; exact hm2.alloc _
  rw [← hw3, ← hb6]
  rw [← hb6] at l2
  have Hw3 := Lib.hid hw3
  obtain ⟨q0, q1⟩ := X3.two
  clear hw3 hb6 hm2 X2
  go_wp2_with fail
  refine (LC.out _).mono ?_
  rintro e w4 ⟨rfl, hb4⟩
  have X4 := X3.next hb4
  have mb4 := mb3.same hb4
  have md4 := md3.same hb4
  have l3 : b6 < w4.heap.size := mb4.lt
  clear q0 q1 hb4 X3 mb3 md3 Hw3
  obtain ⟨gq, hgq⟩ : ∃ g, g = w4.heap.size := ⟨_, rfl⟩
  go_wp2_with (at_make; refine wpList_make_blk _ rfl _ _ 92 rfl 3 (.int .i64 0) 8 Try.underlying92 info_intA rfl _ _ x0.length rfl rfl (by omega) (by unfold maxLen; omega) ?_)
  intro w5 qd5 hb5 hs5
  rw [intsR] at qd5
  rw [← hgq] at qd5 l3 ⊢
  have X5 := X4.next hb5
  have mb5 := mb4.same hb5
  have md5 := md4.same hb5
  have l4 : gq < w5.heap.size := qd5.lt
  clear hb5 hs5 X4 mb4 md4 hgq
  go_upto_region 3 with fail
  obtain ⟨b7, hb7⟩ : ∃ g, g = w5.heap.size := ⟨_, rfl⟩
  obtain ⟨w6, hw6⟩ : ∃ W, W = w5.alloc (.cells #[.slice (some ⟨gq, 0, none⟩) x0.length x0.length] 92) := ⟨_, rfl⟩
  have S0 : Hid (AskS w [.slice (some ⟨bL, oL, none⟩) x0.length c0, .slice (some ⟨bR, oR, none⟩) x1.length c1] x0.length gm b6 gq b7 (List.replicate x0.length (-1)) (List.replicate x0.length 0) w6) := by
    rw [hw6]
    exact ⟨X5.next (bl1 _ _), md5.alloc _, mb5.alloc _, qd5.alloc _, by rw [hb7]; exact Blk.new _ _ _⟩
  rw [← hw6, ← hb7]
  rw [← hb7] at l4
  have HK : Hid (LayK w.heap.size gm b6 gq b7) := ⟨l1, l2, l3, l4⟩
  clear hw6 hb7 X5 mb5 md5 qd5 l1 l2 l3 l4
  have hsz : gm < w6.heap.size := S0.out.md.lt
  have HRun : Hid (∀ m q, Asks ⟨x0, x1⟩ m q → askE ⟨x0, x1⟩ s m q = askF ⟨x0, x1⟩ s → ∀ i : Nat, askerI ⟨x0, x1⟩ m q = i → i < x0.length → m.getD i 0 < 0 → q.getD i 0 < ((row x0 i).length : Int) → Asks ⟨x0, x1⟩ (askM ⟨x0, x1⟩ s m q i) (askQ q i) ∧ askE ⟨x0, x1⟩ s (askM ⟨x0, x1⟩ s m q i) (askQ q i) = askF ⟨x0, x1⟩ s) := fun m q ha he i h1 h2 h3 h4 =>
    ⟨asks_step HVw.out ha h2 h3 h4, by rw [← askE_step HVw.out ha h1 h2 h3 h4]; exact he⟩
  go_wp2_with fail
  go_loopw [8] (fun cv wr => ∃ (m q : List Int), cv = .int .i64 q.sum ∧ Hid (Asks ⟨x0, x1⟩ m q) ∧ Hid (askE ⟨x0, x1⟩ s m q = askF ⟨x0, x1⟩ s) ∧ Hid (AskS w [.slice (some ⟨bL, oL, none⟩) x0.length c0, .slice (some ⟨bR, oR, none⟩) x1.length c1] x0.length gm b6 gq b7 m q wr)) (fun cv _ => (65 - intOf cv).toNat)
  case atStart => exact ⟨_, _, by simp, asks_start _, rfl, S0⟩
  case round =>
    clear S0 hsz
    obtain ⟨m, q, rfl, HA, HE, HSt⟩ := hrel
    have hsum := asks_sum HVw.out HA.out
    have hsum1 : 0 ≤ q.sum := hsum.1
    have hsum2 : q.sum ≤ 64 := by
      have h2 := hsum.2
      have : (x0.length : Int) * x0.length ≤ 8 * 8 := Int.mul_le_mul (by omega) (by omega) (by omega) (by omega)
      simp only at h2; omega
    obtain ⟨q0, q1⟩ := HSt.out.bx.two
    clear hsum
    go_wp2_with fail
    refine (LC.out _).mono ?_
    rintro e v1 ⟨rfl, hb1⟩
    have S1 := HSt.out.later hb1
    clear q0 q1 hb1 HSt
    go_wp2_with fail
    refine (counting_any v1 x0.length (by omega)).mono ?_
    rintro e v2 ⟨ac, cc, rfl, ho, hb2⟩
    have S2 := S1.later hb2
    have lm := HA.out.lm
    have lq := HA.out.lq
    simp only at lm lq
    have LI := indexFunc_I 85 #[.pointer (some ⟨b6, 0, none⟩), .pointer (some ⟨b7, 0, none⟩), .pointer (some ⟨w.heap.size, 0, none⟩)] enter_ask v2 ac cc (ints (upto x0.length)) (fun i => decide (m.getD i 0 < 0) && decide (q.getD i 0 < ((row x0 i).length : Int))) (rd_of_own ho (Nat.le_refl _)) (by simp [upto_length]; omega) (fun w' j v hb hvj => by
      have hj : j < x0.length := by have := (List.getElem?_eq_some_iff.1 hvj).1; simpa [upto_length] using this
      have hvv : v = .int .i64 j := by
        rw [ints_get _ _ (by rw [upto_length]; exact hj), getD_of_get (upto_get hj)] at hvj
        injection hvj with hvj; exact hvj.symm
      subst hvv
      have S' := S2.later hb
      obtain ⟨al, cl, hl1, _⟩ := HRL.out w' S'.bx.1 j hj
      exact ask1_any w' w.heap.size gm b6 gq b7 bL oL c0 x0.length j (m.getD j 0) (q.getD j 0) al _ cl hj hn8 (HLl.out j hj) S'.bx.two.1 (S'.mb.cell 0) (S'.qb.cell 0) (S'.md.at (by omega)) (S'.qd.at (by omega)) hl1)
    have hask : findI (fun i => decide (m.getD i 0 < 0) && decide (q.getD i 0 < ((row x0 i).length : Int))) x0.length = askerI ⟨x0, x1⟩ m q := rfl
    simp only [ints_length, upto_length, hask] at LI
    clear hask
    rcases asker_spec ⟨x0, x1⟩ m q with ⟨i, hi, hin, hmi, hqi⟩ | ⟨hi, _⟩
    · rw [hi] at LI
      simp only at hin hqi
      obtain ⟨hA2, hE2⟩ := HRun.out m q HA.out HE.out i hi hin hmi hqi
      obtain ⟨k, hk1, hk2, hk3, hk4, hcase⟩ := ask_case HVw.out (seats := s) HA.out hin hqi
      have hq0 := (HA.out.q0 i hin).1
      generalize askM ⟨x0, x1⟩ s m q i = m2 at hA2 hE2 hcase
      obtain ⟨p, hp⟩ : ∃ p : Nat, q.getD i 0 = p := ⟨(q.getD i 0).toNat, by omega⟩
      rw [hp] at hqi hk1 hk4
      simp only [Int.toNat_natCast] at hk1 hk2
      have Hp := Lib.hid hp
      have HA2 := Lib.hid hA2
      have HE2 := Lib.hid hE2
      have Hk1 := Lib.hid hk1
      have HCase := Lib.hid hcase
      have Hlm := Lib.hid lm
      have Hlq := Lib.hid lq
      have hpl : p < (row x0 i).length := by omega
      have hpl8 := HLl.out i hin
      have LI := Lib.hid LI
      have i0 : (0 : Int) ≤ (i : Int) := Int.natCast_nonneg _
      have i1 : (i : Int) < (x0.length : Int) := by omega
      have p0 : (0 : Int) ≤ (p : Int) := Int.natCast_nonneg _
      have k0 : (0 : Int) ≤ (k : Int) := Int.natCast_nonneg _
      have k1 : (k : Int) < (x0.length : Int) := by omega
      clear hp hA2 hE2 hk1 hk3 hk4 hcase lm lq hi hmi ho hb2 S1 hq0 HE
      go_wp2_with fail
      refine LI.out.mono ?_
      rintro e v3 ⟨rfl, hb3⟩
      have S3 := S2.later hb3
      obtain ⟨q0, q1⟩ := S3.bx.two
      obtain ⟨al, cl, hl1, hrl⟩ := HRL.out v3 S3.bx.1 i hin
      obtain ⟨br, or', hae, _, hrc⟩ := hrl.at hpl
      subst hae
      have cr := hrc p hpl
      rw [Hk1.out] at cr
      have c7 := S3.qb.cell 0
      have cq := S3.qd.at (k := i) (by rw [Hlq.out]; exact hin)
      rw [Hp.out] at cq
      have cq' : v3.cell? ⟨gq, 0 + i, none⟩ = some (.int .i64 p) := by rw [Nat.zero_add]; exact cq
      simp only [List.getElem?_cons_zero] at c7
      generalize hL : (row x0 i).length = L at *
      have HL := Lib.hid hL
      have S3' := Lib.hid S3
      clear hL hrl hrc LI S2 hb3 S3
      go_wp2_with fail
      go_quiet (fail)
      have S4 := S3'.out.later (drewN_below v3 nq)
      obtain ⟨v4, hv4⟩ : ∃ W, W = v3.drewN nq := ⟨_, rfl⟩
      rw [← hv4] at S4 ⊢
      clear hv4 q0 q1 hl1 cr c7 cq' cq
      obtain ⟨q0, q1⟩ := S4.bx.two
      have c7 := S4.qb.cell 0
      simp only [List.getElem?_cons_zero] at c7
      have cq := S4.qd.at (k := i) (by rw [Hlq.out]; exact hin)
      rw [Hp.out] at cq
      have cq' : v4.cell? ⟨gq, 0 + i, none⟩ = some (.int .i64 p) := by rw [Nat.zero_add]; exact cq
      have fq := S4.qd.free (0 + i)
      have S5 := Lib.hid (S4.stoQ HK.out i ((p : Int) + 1))
      have e5 : v4.setCell ⟨gq, 0 + i, none⟩ (.int .i64 ((p : Int) + 1)) = v4.setCell ⟨gq, i, none⟩ (.int .i64 ((p : Int) + 1)) := by rw [Nat.zero_add]
      have HS4 := Lib.hid S4
      have HE5 := Lib.hid e5
      have fq2 := S4.qd.free i
      clear S4 e5 S3'
      have hsm2 : (askQ q i).sum = q.sum + 1 := askQ_sum (by rw [Hlq.out]; exact hin)
      have hqs : q.set i ((p : Int) + 1) = askQ q i := by unfold askQ; rw [Hp.out]
      rw [hqs] at S5
      have HSm2 := Lib.hid hsm2
      clear hsm2 hqs
      go_upto_region 9 with fail
      obtain ⟨v5, hv5⟩ : ∃ W, W = v4.setCell ⟨gq, i, none⟩ (.int .i64 ((p : Int) + 1)) := ⟨_, rfl⟩
      rw [← hv5] at S5
      rw [← hv5]
      clear hv5 fq fq2 cq' cq c7 q0 q1 HS4 HE5
      obtain ⟨q0, q1⟩ := S5.out.bx.two
      obtain ⟨ar, cr, hr1, hrr⟩ := HRR.out v5 S5.out.bx.1 k hk2
      have k1R : (k : Int) < (x1.length : Int) := by rw [HRl.out]; exact k1
      have LCo := contains_any v5 ar cr (row x1 k) i hrr (by have := HRn.out k hk2; omega)
      cases hcon : containsI (row x1 k) i with
      | false =>
        rw [hcon] at LCo
        have LCo := Lib.hid LCo
        have hm2 : m2 = m := by
          cases HCase.out with
          | no h => rfl
          | room h _ => simp only [pairB, Bool.and_eq_true] at h; rw [hcon] at h; exact absurd h.2 (by simp)
          | full h _ l _ _ _ _ => simp only [pairB, Bool.and_eq_true] at h; rw [hcon] at h; exact absurd h.2 (by simp)
        subst hm2
        clear hrr hcon
        go_wp2_with fail
        refine LCo.out.mono ?_
        rintro e v6 ⟨rfl, rfl⟩
        go_wp2_with fail
        go_roundw
        case rel => exact ⟨_, askQ q i, by rw [HSm2.out], HA2, HE2, S5⟩
        case measure => simp [intOf]; omega
      | true =>
        rw [hcon] at LCo
        have LCo := Lib.hid LCo
        have c6 := S5.out.mb.cell 0
        simp only [List.getElem?_cons_zero] at c6
        have cm : v5.cell? ⟨gm, i, none⟩ = some (.int .i64 (m.getD i 0)) := S5.out.md.at (by rw [Hlm.out]; exact hin)
        have fm := S5.out.md.free i
        have fm0 := S5.out.md.free (0 + i)
        have S6 := Lib.hid (S5.out.stoM HK.out i (k : Int))
        obtain ⟨m', hm'⟩ : ∃ l, l = m.set i (k : Int) := ⟨_, rfl⟩
        rw [← hm'] at S6
        have Hm' := Lib.hid hm'
        have Hcon := Lib.hid hcon
        have hml' : m'.length = x0.length := by rw [hm', List.length_set]; exact Hlm.out
        have HMl := Lib.hid hml'
        generalize m.getD i 0 = mi0 at *
        clear hm' hcon hml' hrr
        go_wp2_with fail
        refine LCo.out.mono ?_
        rintro e v6 ⟨rfl, rfl⟩
        go_upto_region 12 with fail
        obtain ⟨v6, hv6⟩ : ∃ W, W = v5.setCell ⟨gm, i, none⟩ (.int .i64 (k : Int)) := ⟨_, rfl⟩
        rw [← hv6] at S6
        rw [← hv6]
        clear hv6 S5 q0 q1 c6 cm fm fm0 hr1
        obtain ⟨q0, q1⟩ := S6.out.bx.two
        obtain ⟨ar, cr, hr1, hrr⟩ := HRR.out v6 S6.out.bx.1 k hk2
        have c6 := S6.out.mb.cell 0
        simp only [List.getElem?_cons_zero] at c6
        have HCm : Hid (∀ t, t < x0.length → v6.cell? ⟨gm, t, none⟩ = some (.int .i64 (m'.getD t 0))) := fun t ht => S6.out.md.at (by rw [HMl.out]; exact ht)
        have LD := Lib.hid (fun x y => dearer_any v6 ar cr (row x1 k) x y hrr (by have := HRn.out k hk2; omega))
        have HSk : Hid (v6.cell? ⟨bS, oS + k, none⟩ = some (.int .i64 (s.getD k 0))) := HS.out v6 S6.out.bx.1 k hk2
        clear hrr
        go_wp2_with fail
        go_loop [11, 12, 63] (fun hv lv tv => ∃ (t : Nat), t ≤ x0.length ∧ tv = .int .i64 t ∧ hv = .int .i64 ((hasN m' k t).length : Nat) ∧ lv = .int .i64 (worstN (row x1 k) m' k t)) (fun _ _ tv => x0.length - (intOf tv).toNat)
        case atStart => exact ⟨0, Nat.zero_le _, rfl, rfl, rfl⟩
        case round =>
          obtain ⟨t, ht, rfl, rfl, rfl⟩ := hrel
          have t0 : (0 : Int) ≤ (t : Int) := Int.natCast_nonneg _
          have hw := worstN_bd (xs := row x1 k) (m := m') (k := k) (t := t)
          have hhl := hasN_len m' k t
          by_cases hlt : t < x0.length
          · have t1 : (t : Int) < (x0.length : Int) := by omega
            have ct := HCm.out t hlt
            have ct0 : v6.cell? ⟨gm, 0 + t, none⟩ = some (.int .i64 (m'.getD t 0)) := by rw [Nat.zero_add]; exact ct
            by_cases hy : m'.getD t 0 = (k : Int)
            · have HN := Lib.hid (hasN_yes hy)
              have hyk : (m'.getD t 0 != (k : Int)) = false := by rw [hy]; simp
              by_cases hw0 : worstN (row x1 k) m' k t < 0
              · have HW := Lib.hid (worstN_yes hy (xs := row x1 k) (.inl hw0))
                generalize worstN (row x1 k) m' k t = wt at *
                generalize (hasN m' k t).length = hn at *
                generalize m'.getD t 0 = y at *
                clear hy
                go_wp2_with fail
                go_round
                case rel => exact ⟨t + 1, by omega, by go_num, by rw [HN.out]; go_num, by rw [HW.out]⟩
                case measure => simp [intOf]; omega
              · obtain ⟨wn, hwn⟩ : ∃ wn : Nat, worstN (row x1 k) m' k t = wn := ⟨(worstN (row x1 k) m' k t).toNat, by omega⟩
                have LD1 := LD.out (wn : Int) (t : Int)
                cases hd : dearI (row x1 k) (wn : Int) (t : Int) with
                | true =>
                  have HW := Lib.hid (worstN_yes hy (xs := row x1 k) (.inr (by rw [hwn]; simpa [dearI] using hd)))
                  rw [hd] at LD1
                  have LD1 := Lib.hid LD1
                  rw [hwn]
                  rw [hwn] at hw hw0
                  generalize (hasN m' k t).length = hn at *
                  generalize m'.getD t 0 = y at *
                  clear hy hd hwn
                  go_wp2_with fail
                  refine LD1.out.mono ?_
                  rintro e v7 ⟨rfl, rfl⟩
                  go_wp2_with fail
                  go_round
                  case rel => exact ⟨t + 1, by omega, by go_num, by rw [HN.out]; go_num, by rw [HW.out]⟩
                  case measure => simp [intOf]; omega
                | false =>
                  have HW := Lib.hid (worstN_old (k := k) (t := t) (m := m') (xs := row x1 k) (by rw [hwn]; simp only [dearI, decide_eq_false_iff_not] at hd; omega))
                  have HWn := Lib.hid hwn
                  rw [hd] at LD1
                  have LD1 := Lib.hid LD1
                  rw [hwn]
                  rw [hwn] at hw hw0
                  generalize (hasN m' k t).length = hn at *
                  generalize m'.getD t 0 = y at *
                  clear hy hd hwn
                  go_wp2_with fail
                  refine LD1.out.mono ?_
                  rintro e v7 ⟨rfl, rfl⟩
                  go_wp2_with fail
                  go_round
                  case rel => exact ⟨t + 1, by omega, by go_num, by rw [HN.out]; go_num, by rw [HW.out, HWn.out]⟩
                  case measure => simp [intOf]; omega
            · have HN := Lib.hid (hasN_ne hy)
              have HW := Lib.hid (worstN_ne (xs := row x1 k) hy)
              have hyk : (m'.getD t 0 != (k : Int)) = true := by simpa using hy
              generalize worstN (row x1 k) m' k t = wt at *
              generalize (hasN m' k t).length = hn at *
              generalize m'.getD t 0 = y at *
              clear hy
              go_wp2_with fail
              go_round
              case rel => exact ⟨t + 1, by omega, by go_num, by rw [HN.out], by rw [HW.out]⟩
              case measure => simp [intOf]; omega
          · obtain rfl : t = x0.length := by omega
            have hhL : (hasN m' k x0.length).length = (hasL m' k).length := by rw [hasL, HMl.out]
            rw [hhL]
            have hks : (k : Int) < (s.length : Int) := by rw [HLs.out]; exact k1
            have csk := HSk.out
            clear hlt ht hw
            rw [hhL] at hhl
            cases HCase.out with
            | no h => rw [Hcon.out] at h; cases h
            | room h hf =>
              rw [← Hm'.out] at hf HA2 HE2
              have hd : decide (s.getD k 0 < ((hasL m' k).length : Int)) = false := decide_eq_false (by omega)
              have hsk : ¬ (s.getD k 0 < ((hasL m' k).length : Int)) := by omega
              generalize worstN (row x1 k) m' k x0.length = wt at *
              generalize (hasL m' k).length = hn at *
              generalize s.getD k 0 = sk at *
              clear hhL h hf
              go_wp2_with fail
              go_roundw
              case rel => exact ⟨m', askQ q i, by rw [HSm2.out], HA2, HE2, S6⟩
              case measure => simp [intOf]; omega
            | full h hf l hl hlk hmax he =>
              rw [← Hm'.out] at hf he
              simp only at hl he
              have HA3 : Hid (Asks ⟨x0, x1⟩ (m'.set l (-1)) (askQ q i)) := by rw [Hm'.out]; exact HA2.out
              have HE3 : Hid (askE ⟨x0, x1⟩ s (m'.set l (-1)) (askQ q i) = askF ⟨x0, x1⟩ s) := by rw [Hm'.out]; exact HE2.out
              have hd : decide (s.getD k 0 < ((hasL m' k).length : Int)) = true := decide_eq_true hf
              have S7 := Lib.hid (S6.out.stoM HK.out l (-1))
              have cm : v6.cell? ⟨gm, l, none⟩ = some (.int .i64 (m'.getD l 0)) := HCm.out l hl
              have fm := S6.out.md.free l
              have l0 : (0 : Int) ≤ (l : Int) := Int.natCast_nonneg _
              have l1 : (l : Int) < (x0.length : Int) := by omega
              rw [he]
              generalize m'.getD l 0 = ml at *
              generalize (hasL m' k).length = hn at *
              generalize s.getD k 0 = sk at *
              clear hhL h hlk hmax he HA2 HE2
              go_wp2_with fail
              go_roundw
              case rel => exact ⟨m'.set l (-1), askQ q i, by rw [HSm2.out], HA3, HE3, S7⟩
              case measure => simp [intOf]; omega
    · rw [hi] at LI
      have HEnd := Lib.hid (askE_end (w := ⟨x0, x1⟩) (seats := s) (m := m) (q := q) (by rw [hi]; omega))
      have LI := Lib.hid LI
      clear hi lm lq ho hb2 S1
      go_wp2_with fail
      refine LI.out.mono ?_
      rintro e v3 ⟨rfl, hb3⟩
      have S3 := S2.later hb3
      have c6 := S3.mb.cell 0
      simp only [List.getElem?_cons_zero] at c6
      have HS3 := Lib.hid S3
      clear S2 hb3 S3 LI
      go_wp2_with fail
      go_ret2
      have hfq : askF ⟨x0, x1⟩ s = (m, q) := by rw [← HE.out, HEnd.out]
      have hlm : m.length = x0.length := HA.out.lm
      rw [hfq]
      refine ⟨gm, rfl, ?_, HS3.out.bx.1⟩
      have hO := OwnI.of_blk (T := 2) HS3.out.md (by omega)
      rw [hlm] at hO
      exact hO.mono (by have := HK.out.h1; omega) HS3.out.md.lt
end Go.Proofs.Ytchfibmndcfpiaa
namespace Go.Proofs.Ytchfibmndcfpiaa
set_option linter.unusedVariables false
set_option linter.unusedSimpArgs false
open Go.RowKit

/-- Below w0 as it was; the match and the numbers of askings in blocks of their own. -/
structure AskT (w0 : World) (gm gq : Nat) (tl : List Value) (m q : List Int) (w : World) : Prop where
  bw : Below w0.heap.size w0 w
  md : Blk w gm (ints m ++ tl) 2
  qd : Blk w gq (ints q) 3
section
variable {w0 w w' : World} {gm gq : Nat} {tl : List Value} {m q : List Int}
theorem AskT.drewN (h : AskT w0 gm gq tl m q w) (k : Nat) : AskT w0 gm gq tl m q (w.drewN k) := ⟨below_drewN h.bw k, h.md, h.qd⟩
theorem AskT.stoM (hg : w0.heap.size ≤ gm) (hne : gm < gq) (h : AskT w0 gm gq tl m q w) {i : Nat} (hi : i < m.length) (x : Int) : AskT w0 gm gq tl (m.set i x) q (w.setCell ⟨gm, i, none⟩ (.int .i64 x)) :=
  ⟨below_sto h.bw hg i _, set_app h.md hi x, h.qd.oth (by omega) _ _⟩
theorem AskT.stoQ (hg : w0.heap.size ≤ gm) (hne : gm < gq) (h : AskT w0 gm gq tl m q w) (i : Nat) (x : Int) : AskT w0 gm gq tl m (q.set i x) (w.setCell ⟨gq, i, none⟩ (.int .i64 x)) :=
  ⟨below_sto h.bw (by omega) i _, h.md.oth (by omega) _ _, h.qd.setI i x⟩
end
theorem findI_old {p : Nat → Bool} {t : Nat} (h : 0 ≤ findI p t) : findI p (t + 1) = findI p t := by
  rcases findI_spec p t with ⟨k, hk, hp, hb, e⟩ | ⟨_, e⟩
  · rw [e]; exact findI_here (by omega) hp hb
  · omega
theorem findI_new {p : Nat → Bool} {t : Nat} (h : findI p t < 0) (hp : p t = true) : findI p (t + 1) = t := by
  rcases findI_spec p t with ⟨k, hk, hp', hb, e⟩ | ⟨hb, e⟩
  · omega
  · exact findI_here (by omega) hp hb
theorem findI_not {p : Nat → Bool} {t : Nat} (h : findI p t < 0) (hp : p t = false) : findI p (t + 1) = findI p t := by
  rcases findI_spec p t with ⟨k, hk, hp', hb, e⟩ | ⟨hb, e⟩
  · omega
  · rw [e]
    refine findI_none fun j hj => ?_
    by_cases e : j = t
    · subst e; exact hp
    · exact hb j (by omega)
theorem worstR_yes {xs m : List Int} {k at0 t : Nat} (h : m.getD t 0 = (k : Int)) (h2 : placeI xs (worstRN xs m k at0 t) < placeI xs t) : worstRN xs m k at0 (t + 1) = (t : Int) := by rw [worstRN, if_pos ⟨h, h2⟩]
theorem worstR_old {xs m : List Int} {k at0 t : Nat} (h2 : ¬ placeI xs (worstRN xs m k at0 t) < placeI xs t) : worstRN xs m k at0 (t + 1) = worstRN xs m k at0 t := by rw [worstRN, if_neg (fun h => h2 h.2)]
theorem worstR_ne {xs m : List Int} {k at0 t : Nat} (h : m.getD t 0 ≠ (k : Int)) : worstRN xs m k at0 (t + 1) = worstRN xs m k at0 t := by rw [worstRN, if_neg (fun hh => h hh.1)]
theorem worstR_bd {xs m : List Int} {k at0 n : Nat} (h0 : at0 < n) : ∀ {t : Nat}, t ≤ n → ∃ j : Nat, worstRN xs m k at0 t = j ∧ j < n
  | 0, _ => ⟨at0, rfl, h0⟩
  | t + 1, h => by
    obtain ⟨j, hj, hl⟩ := worstR_bd (xs := xs) (m := m) (k := k) h0 (t := t) (by omega)
    rw [worstRN]
    by_cases hc : m.getD t 0 = (k : Int) ∧ placeI xs (worstRN xs m k at0 t) < placeI xs t
    · rw [if_pos hc]; exact ⟨t, rfl, by omega⟩
    · rw [if_neg hc]; exact ⟨j, hj, hl⟩
theorem place_bdA (xs : List Int) (x : Int) : 0 ≤ placeI xs x ∧ placeI xs x ≤ xs.length := by
  unfold placeI
  rcases indexI_cases xs x with ⟨k, hk, _, e⟩ | ⟨_, e⟩ <;> rw [e] <;> split <;> omega
set_option maxRecDepth 10000 in
set_option maxHeartbeats 16000000 in
theorem l05Ask_any (w : World) (b o : Nat) (a0 : Option Addr) (c0 : Nat) (x0 : List (List Int)) (a1 : Option Addr) (c1 : Nat) (x1 : List (List Int)) (d0 : w.cell? ⟨b, o, none⟩ = some (.slice a0 x0.length c0)) (d1 : w.cell? ⟨b, o + 1, none⟩ = some (.slice a1 x1.length c1)) (hbl : b < w.heap.size) (as' : Option Addr) (cs : Nat) (s : List Int) (h : RdWishes w w.heap.size a0 x0 a1 x1) (hv : Wish ⟨x0, x1⟩) (hin0 : ∀ y ∈ x0, y.length ≤ 1048576) (hin1 : ∀ y ∈ x1, y.length ≤ 1048576)
    (gs : Rd w w.heap.size as' (ints s)) (hls : s.length = x0.length) :
    Calls Try.prog 49 #[.pointer (some ⟨b, o, none⟩), .slice as' s.length cs] w fun e w' => ∃ g c, e = .returned (.tuple #[.slice (some ⟨g, 0, none⟩) x0.length c, .int .i64 (askF ⟨x0, x1⟩ s).2.sum]) ∧ OwnI 2 w' w.heap.size w'.heap.size (some ⟨g, 0, none⟩) c (askF ⟨x0, x1⟩ s).1 ∧ Below w.heap.size w w' := by
  have hn1 : 1 ≤ x0.length := hv.n1
  have hn8 : x0.length ≤ 8 := hv.n8
  have hRl : x1.length = x0.length := hv.len
  obtain ⟨bL, oL, _, _, _, hLe, hbL, -⟩ := h.1.get (k := 0) (by omega)
  subst hLe
  obtain ⟨bR, oR, _, _, _, hRe, hbR, -⟩ := h.2.get (k := 0) (by omega)
  subst hRe
  obtain ⟨bS, oS, hSe, hbS, hcS⟩ := gs.at (k := 0) (by omega)
  subst hSe
  have HRL := Lib.hid (fun (wr : World) (hb : Below w.heap.size w wr) (i : Nat) (hi : i < x0.length) => RdII.rowAt (h.to hb).1 hi)
  have HRR := Lib.hid (fun (wr : World) (hb : Below w.heap.size w wr) (i : Nat) (hi : i < x0.length) => RdII.rowAt (h.to hb).2 (k := i) (by omega))
  have HS := Lib.hid (fun (wr : World) (hb : Below w.heap.size w wr) (i : Nat) (hi : i < x0.length) => (hb.cell (p := ⟨bS, oS + i, none⟩) hbS).trans (hcS i (by omega)))
  have HLl : Hid (∀ i, i < x0.length → (row x0 i).length ≤ 1048576) := fun i hi => hin0 _ (row_mem hi)
  have HRn : Hid (∀ i, i < x0.length → (row x1 i).length ≤ 1048576) := fun i hi => hin1 _ (row_mem (by omega))
  have HD : Hid (∀ (wr : World), Below w.heap.size w wr → wr.cell? ⟨b, o, none⟩ = some (.slice (some ⟨bL, oL, none⟩) x0.length c0) ∧ wr.cell? ⟨b, o + 1, none⟩ = some (.slice (some ⟨bR, oR, none⟩) x1.length c1)) := fun wr hb => ⟨(hb.cell (p := ⟨b, o, none⟩) hbl).trans d0, (hb.cell (p := ⟨b, o + 1, none⟩) hbl).trans d1⟩
  have HVw := Lib.hid hv
  have HRl := Lib.hid hRl
  have HLs := Lib.hid hls
  clear h gs hcS hin0 hin1 hv hRl hls
  go_enter Try.func49, Try.ntmps49
  go_wp2_with fail
  go_loopw [27, 7] (fun iv v wr => ∃ k : Nat, k ≤ x0.length ∧ iv = .int .i64 k ∧ Hid (wr.ownsRow w.heap.size 2 1 v k (ints (List.replicate k (-1)))) ∧ Below w.heap.size w wr) (fun iv _ _ => x0.length - (intOf iv).toNat)
  case atStart => exact ⟨0, Nat.zero_le _, rfl, own_empty w _, bl1 w _⟩
  case round =>
    obtain ⟨k, hk, rfl, hown, hw⟩ := hrel
    by_cases hlt : k < x0.length
    · clear d0 d1
      go_wp2_with (at_builtin; refine wpList_append_one _ rfl _ _ 31 rfl w.heap.size 2 (.int .i64 0) 8 Try.underlying31 info_i64p rfl _ k _ rfl hown.out (.int .i64 (-1)) rfl rfl (by omega) (by omega) hw.size ?_)
      intro v' w1 ho hgr
      have hb := below_append hw hown.out hgr (Nat.le_refl _) hw.size
      have HO : Hid (w1.ownsRow w.heap.size 2 1 v' (k + 1) (ints (List.replicate (k + 1) (-1)))) := by
        have : ints (List.replicate k (-1)) ++ [Value.int .i64 (-1)] = ints (List.replicate (k + 1) (-1)) := by rw [List.replicate_succ', ints_append]; rfl
        rw [← this]; exact ho
      clear hown hw ho hgr
      go_wp2_with fail
      go_roundw
      case rel => exact ⟨k + 1, by omega, by go_num, HO, hb⟩
      case measure => simp [intOf]; omega
    · obtain rfl : k = x0.length := by omega
      obtain ⟨a2, c2, rfl, _, _⟩ := own_shape hown.out
      obtain ⟨gm, tl, rfl, hg, kb, hnc, hcm, hcl⟩ := own_open hown.out hn1
      have hgs : gm < wr.heap.size := kb.lt
      obtain ⟨gq, hgq⟩ : ∃ g, g = wr.heap.size := ⟨_, rfl⟩
      have KB := Lib.hid kb
      have Hcl := Lib.hid hcl
      have HBw := Lib.hid hw
      clear hown kb hcl d0 d1 hlt hk
      go_wp2_with (at_make; refine wpList_make_blk _ rfl _ _ 92 rfl 3 (.int .i64 0) 8 Try.underlying92 info_intA rfl _ _ x0.length rfl rfl (by omega) (by unfold maxLen; omega) ?_)
      intro w5 qd5 hb5 hs5
      rw [intsR] at qd5
      rw [← hgq] at qd5 hgs ⊢
      have S0 : Hid (AskT w gm gq tl (List.replicate x0.length (-1)) (List.replicate x0.length 0) w5) := ⟨below_then HBw.out hb5, KB.out.same hb5, qd5⟩
      have HRun : Hid (∀ m q, Asks ⟨x0, x1⟩ m q → askE ⟨x0, x1⟩ s m q = askF ⟨x0, x1⟩ s → ∀ i : Nat, askerI ⟨x0, x1⟩ m q = i → i < x0.length → m.getD i 0 < 0 → q.getD i 0 < ((row x0 i).length : Int) → Asks ⟨x0, x1⟩ (askM ⟨x0, x1⟩ s m q i) (askQ q i) ∧ askE ⟨x0, x1⟩ s (askM ⟨x0, x1⟩ s m q i) (askQ q i) = askF ⟨x0, x1⟩ s) := fun m q ha he i h1 h2 h3 h4 =>
        ⟨asks_step HVw.out ha h2 h3 h4, by rw [← askE_step HVw.out ha h1 h2 h3 h4]; exact he⟩
      clear qd5 hb5 hs5 hgq KB hw HBw
      go_wp2_with fail
      go_loopw [9] (fun cv wr => ∃ (m q : List Int), cv = .int .i64 q.sum ∧ Hid (Asks ⟨x0, x1⟩ m q) ∧ Hid (askE ⟨x0, x1⟩ s m q = askF ⟨x0, x1⟩ s) ∧ Hid (AskT w gm gq tl m q wr)) (fun cv _ => (65 - intOf cv).toNat)
      case atStart => exact ⟨_, _, by simp, asks_start _, rfl, S0⟩
      case round =>
        clear S0
        obtain ⟨m, q, rfl, HA, HE, HSt⟩ := hrel
        have hsum := asks_sum HVw.out HA.out
        have hsum1 : 0 ≤ q.sum := hsum.1
        have hsum2 : q.sum ≤ 64 := by
          have h2 := hsum.2
          have : (x0.length : Int) * x0.length ≤ 8 * 8 := Int.mul_le_mul (by omega) (by omega) (by omega) (by omega)
          simp only at h2; omega
        have lm := HA.out.lm
        have lq := HA.out.lq
        simp only at lm lq
        have Hlm := Lib.hid lm
        have Hlq := Lib.hid lq
        obtain ⟨p, hp⟩ : ∃ p : Nat → Bool, p = fun i => decide (m.getD i 0 < 0) && decide (q.getD i 0 < ((row x0 i).length : Int)) := ⟨_, rfl⟩
        have Hp := Lib.hid hp
        obtain ⟨wo, hwo⟩ : ∃ W : World, W = wr := ⟨_, rfl⟩
        subst hwo
        have HCm : Hid (∀ t, t < x0.length → wo.cell? ⟨gm, t, none⟩ = some (.int .i64 (m.getD t 0))) := fun t ht => cell_app HSt.out.md (by rw [Hlm.out]; exact ht)
        have HCq : Hid (∀ t, t < x0.length → wo.cell? ⟨gq, t, none⟩ = some (.int .i64 (q.getD t 0))) := fun t ht => HSt.out.qd.at (by rw [Hlq.out]; exact ht)
        clear hsum lm lq hp
        go_wp2_with fail
        go_loopw [10, 37] (fun av tv wi => ∃ (t j : Nat), t ≤ x0.length ∧ tv = .int .i64 t ∧ av = .int .i64 (findI p t) ∧ wi = wo.drewN j) (fun _ tv _ => x0.length - (intOf tv).toNat)
        case atStart => exact ⟨0, 0, Nat.zero_le _, rfl, rfl, rfl⟩
        case round =>
          obtain ⟨t, j, ht, rfl, rfl, rfl⟩ := hrel
          have t0 : (0 : Int) ≤ (t : Int) := Int.natCast_nonneg _
          have hfb := findI_bd p t
          obtain ⟨q0, q1⟩ := HD.out wo HSt.out.bw
          by_cases hlt : t < x0.length
          · have t1 : (t : Int) < (x0.length : Int) := by omega
            have ct := HCm.out t hlt
            have cq := HCq.out t hlt
            have ct0 : wo.cell? ⟨gm, 0 + t, none⟩ = some (.int .i64 (m.getD t 0)) := by rw [Nat.zero_add]; exact ct
            have cq0 : wo.cell? ⟨gq, 0 + t, none⟩ = some (.int .i64 (q.getD t 0)) := by rw [Nat.zero_add]; exact cq
            obtain ⟨al, cl, hl1, -⟩ := HRL.out wo HSt.out.bw t hlt
            have hpt : p t = (decide (m.getD t 0 < 0) && decide (q.getD t 0 < ((row x0 t).length : Int))) := by rw [Hp.out]
            have hll := HLl.out t hlt
            generalize (row x0 t).length = ll at *
            generalize m.getD t 0 = mt at *
            generalize q.getD t 0 = qt at *
            by_cases hf0 : 0 ≤ findI p t
            · have HF := Lib.hid (findI_old hf0)
              have hfd : decide (findI p t < 0) = false := decide_eq_false (by omega)
              generalize findI p t = ft at *
              clear hpt
              go_wp2_with fail
              go_quiet (fail)
              go_wp2_with fail
              go_roundw
              case rel => exact ⟨t + 1, j + nq, by omega, by go_num, by rw [HF.out], rfl⟩
              case measure => simp [intOf]; omega
            · have hfd : decide (findI p t < 0) = true := decide_eq_true (by omega)
              have hF1 : p t = true → findI p (t + 1) = t := findI_new (by omega)
              have hF2 : p t = false → findI p (t + 1) = findI p t := findI_not (by omega)
              cases h1 : decide (mt < 0) with
              | false =>
                have HF := Lib.hid (hF2 (by rw [hpt, h1]; rfl))
                generalize findI p t = ft at *
                clear hpt hF1 hF2
                go_wp2_with fail
                go_quiet (fail)
                go_wp2_with fail
                go_roundw
                case rel => exact ⟨t + 1, j + nq, by omega, by go_num, by rw [HF.out], rfl⟩
                case measure => simp [intOf]; omega
              | true =>
                cases h2 : decide (qt < (ll : Int)) with
                | false =>
                  have HF := Lib.hid (hF2 (by rw [hpt, h1, h2]; rfl))
                  generalize findI p t = ft at *
                  clear hpt hF1 hF2
                  go_wp2_with fail
                  go_quiet (fail)
                  go_wp2_with fail
                  go_roundw
                  case rel => exact ⟨t + 1, j + nq, by omega, by go_num, by rw [HF.out], rfl⟩
                  case measure => simp [intOf]; omega
                | true =>
                  have HF := Lib.hid (hF1 (by rw [hpt, h1, h2]; rfl))
                  generalize findI p t = ft at *
                  clear hpt hF1 hF2
                  go_wp2_with fail
                  go_quiet (fail)
                  go_wp2_with fail
                  go_roundw
                  case rel => exact ⟨t + 1, j + nq, by omega, by go_num, by rw [HF.out], rfl⟩
                  case measure => simp [intOf]; omega
          · obtain rfl : t = x0.length := by omega
            have hask : findI p x0.length = askerI ⟨x0, x1⟩ m q := by rw [Hp.out]; rfl
            have S3 := HSt.out.drewN j
            obtain ⟨v3, hv3⟩ : ∃ W, W = wo.drewN j := ⟨_, rfl⟩
            rw [← hv3] at S3 ⊢
            clear hv3 HCm HCq HSt q0 q1 hlt ht hfb
            rcases asker_spec ⟨x0, x1⟩ m q with ⟨i, hi, hin, hmi, hqi⟩ | ⟨hi, _⟩
            · rw [hask, hi]
              simp only at hin hqi
              obtain ⟨hA2, hE2⟩ := HRun.out m q HA.out HE.out i hi hin hmi hqi
              obtain ⟨k, hk1, hk2, hk3, hk4, hcase⟩ := ask_case HVw.out (seats := s) HA.out hin hqi
              have hq0 := (HA.out.q0 i hin).1
              generalize askM ⟨x0, x1⟩ s m q i = m2 at hA2 hE2 hcase
              obtain ⟨pn, hp⟩ : ∃ p : Nat, q.getD i 0 = p := ⟨(q.getD i 0).toNat, by omega⟩
              rw [hp] at hqi hk1 hk4
              simp only [Int.toNat_natCast] at hk1 hk2
              have Hpn := Lib.hid hp
              have HA2 := Lib.hid hA2
              have HE2 := Lib.hid hE2
              have Hk1 := Lib.hid hk1
              have HCase := Lib.hid hcase
              have hpl : pn < (row x0 i).length := by omega
              have hpl8 := HLl.out i hin
              have i0 : (0 : Int) ≤ (i : Int) := Int.natCast_nonneg _
              have i1 : (i : Int) < (x0.length : Int) := by omega
              have p0 : (0 : Int) ≤ (pn : Int) := Int.natCast_nonneg _
              have k0 : (0 : Int) ≤ (k : Int) := Int.natCast_nonneg _
              have k1 : (k : Int) < (x0.length : Int) := by omega
              clear hp hA2 hE2 hk1 hk3 hk4 hcase hi hmi hq0 HE hask t0
              obtain ⟨q0, q1⟩ := HD.out v3 S3.bw
              obtain ⟨al, cl, hl1, hrl⟩ := HRL.out v3 S3.bw i hin
              obtain ⟨br, or', hae, _, hrc⟩ := hrl.at hpl
              subst hae
              have cr := hrc pn hpl
              rw [Hk1.out] at cr
              have cq : v3.cell? ⟨gq, i, none⟩ = some (.int .i64 pn) := by rw [← Hpn.out]; exact S3.qd.at (by rw [Hlq.out]; exact hin)
              generalize hL : (row x0 i).length = L at *
              have HL := Lib.hid hL
              have S3' := Lib.hid S3
              clear hL hrl hrc S3
              go_wp2_with fail
              go_quiet (fail)
              have S4 := S3'.out.drewN nq
              obtain ⟨v4, hv4⟩ : ∃ W, W = v3.drewN nq := ⟨_, rfl⟩
              rw [← hv4] at S4 ⊢
              clear hv4 q0 q1 hl1 cr cq
              obtain ⟨q0, q1⟩ := HD.out v4 S4.bw
              have cq : v4.cell? ⟨gq, i, none⟩ = some (.int .i64 pn) := by rw [← Hpn.out]; exact S4.qd.at (by rw [Hlq.out]; exact hin)
              have fq := S4.qd.free i
              have S5 := Lib.hid (S4.stoQ hg hgs i ((pn : Int) + 1))
              have hsm2 : (askQ q i).sum = q.sum + 1 := askQ_sum (by rw [Hlq.out]; exact hin)
              have hqs : q.set i ((pn : Int) + 1) = askQ q i := by unfold askQ; rw [Hpn.out]
              rw [hqs] at S5
              have HSm2 := Lib.hid hsm2
              clear hsm2 hqs S4 S3'
              go_upto_region 20 with fail
              obtain ⟨v5, hv5⟩ : ∃ W, W = v4.setCell ⟨gq, i, none⟩ (.int .i64 ((pn : Int) + 1)) := ⟨_, rfl⟩
              rw [← hv5] at S5
              rw [← hv5]
              clear hv5 fq cq q0 q1
              obtain ⟨q0, q1⟩ := HD.out v5 S5.out.bw
              obtain ⟨ar, cr, hr1, hrr⟩ := HRR.out v5 S5.out.bw k hk2
              have k1R : (k : Int) < (x1.length : Int) := by rw [HRl.out]; exact k1
              have LCo := l05Takes_any v5 ar cr (row x1 k) i hrr (by have := HRn.out k hk2; omega)
              cases hcon : containsI (row x1 k) i with
              | false =>
                rw [hcon] at LCo
                have LCo := Lib.hid LCo
                have hm2 : m2 = m := by
                  cases HCase.out with
                  | no h => rfl
                  | room h _ => simp only [pairB, Bool.and_eq_true] at h; rw [hcon] at h; exact absurd h.2 (by simp)
                  | full h _ l _ _ _ _ => simp only [pairB, Bool.and_eq_true] at h; rw [hcon] at h; exact absurd h.2 (by simp)
                subst hm2
                clear hrr hcon
                go_wp2_with fail
                refine LCo.out.mono ?_
                rintro e v6 ⟨rfl, rfl⟩
                go_wp2_with fail
                go_roundw
                case rel => exact ⟨_, askQ q i, by rw [HSm2.out], HA2, HE2, S5⟩
                case measure => simp [intOf]; omega
              | true =>
                rw [hcon] at LCo
                have LCo := Lib.hid LCo
                have cm : v5.cell? ⟨gm, i, none⟩ = some (.int .i64 (m.getD i 0)) := cell_app S5.out.md (by rw [Hlm.out]; exact hin)
                have fm := S5.out.md.free i
                have S6 := Lib.hid (S5.out.stoM hg hgs (by rw [Hlm.out]; exact hin) (k : Int))
                obtain ⟨m', hm'⟩ : ∃ l, l = m.set i (k : Int) := ⟨_, rfl⟩
                rw [← hm'] at S6
                have Hm' := Lib.hid hm'
                have Hcon := Lib.hid hcon
                have hml' : m'.length = x0.length := by rw [hm', List.length_set]; exact Hlm.out
                have HMl := Lib.hid hml'
                have him : m'.getD i 0 = (k : Int) := by rw [hm']; exact getD_set_eq (by rw [Hlm.out]; exact hin) _
                have hsame : worstRN (row x1 k) m' k i x0.length = worstN (row x1 k) m' k x0.length := worst_same him hin (fun t ht hk => by
                  by_cases e : t = i
                  · subst e; exact hcon
                  · rw [hm', getD_set_ne' (Ne.symm e)] at hk
                    exact right_of HA.out ht hk)
                have HSame := Lib.hid hsame
                generalize m.getD i 0 = mi0 at *
                clear hm' hcon hml' hrr him hsame
                go_wp2_with fail
                refine LCo.out.mono ?_
                rintro e v6 ⟨rfl, rfl⟩
                go_upto_region 23 with fail
                obtain ⟨v6, hv6⟩ : ∃ W, W = v5.setCell ⟨gm, i, none⟩ (.int .i64 (k : Int)) := ⟨_, rfl⟩
                rw [← hv6] at S6
                rw [← hv6]
                clear hv6 S5 q0 q1 cm fm hr1
                obtain ⟨q0, q1⟩ := HD.out v6 S6.out.bw
                obtain ⟨ar, cr, hr1, hrr⟩ := HRR.out v6 S6.out.bw k hk2
                have HCm : Hid (∀ t, t < x0.length → v6.cell? ⟨gm, t, none⟩ = some (.int .i64 (m'.getD t 0))) := fun t ht => cell_app S6.out.md (by rw [HMl.out]; exact ht)
                have LD := Lib.hid (fun j x => l05Place_any (v6.drewN j) ar cr (row x1 k) x hrr (by have := HRn.out k hk2; omega))
                have HSk : Hid (v6.cell? ⟨bS, oS + k, none⟩ = some (.int .i64 (s.getD k 0))) := HS.out v6 S6.out.bw k hk2
                clear hrr
                go_wp2_with fail
                go_loopw [13, 14, 108] (fun hv lv tv wi => ∃ (t j : Nat), t ≤ x0.length ∧ tv = .int .i64 t ∧ hv = .int .i64 ((hasN m' k t).length : Nat) ∧ lv = .int .i64 (worstRN (row x1 k) m' k i t) ∧ wi = v6.drewN j) (fun _ _ tv _ => x0.length - (intOf tv).toNat)
                case atStart => exact ⟨0, 0, Nat.zero_le _, rfl, rfl, rfl, rfl⟩
                case round =>
                  obtain ⟨t, j, ht, rfl, rfl, rfl, rfl⟩ := hrel
                  have t0 : (0 : Int) ≤ (t : Int) := Int.natCast_nonneg _
                  have hhl := hasN_len m' k t
                  by_cases hlt : t < x0.length
                  · have t1 : (t : Int) < (x0.length : Int) := by omega
                    have ct := HCm.out t hlt
                    obtain ⟨wn, hwn, hwl⟩ := worstR_bd (xs := row x1 k) (m := m') (k := k) hin (t := t) ht
                    rw [hwn]
                    by_cases hy : m'.getD t 0 = (k : Int)
                    · have HN := Lib.hid (hasN_yes hy)
                      have hyk : (m'.getD t 0 == (k : Int)) = true := by rw [hy]; simp
                      have LD1 := Lib.hid (fun n => LD.out n (t : Int))
                      have LD2 := Lib.hid (fun n => LD.out n (wn : Int))
                      have hpb := place_bdA (row x1 k)
                      have hb1 := hpb (t : Int)
                      have hb2 := hpb (wn : Int)
                      have hRn := HRn.out k hk2
                      by_cases hd : placeI (row x1 k) wn < placeI (row x1 k) t
                      · have HW := Lib.hid (worstR_yes hy (xs := row x1 k) (at0 := i) (by rw [hwn]; exact hd))
                        have hdd : decide (placeI (row x1 k) wn < placeI (row x1 k) t) = true := decide_eq_true hd
                        generalize placeI (row x1 k) (t : Int) = pt at *
                        generalize placeI (row x1 k) (wn : Int) = pw at *
                        generalize (hasN m' k t).length = hn at *
                        generalize m'.getD t 0 = y at *
                        clear hy hwn hd hpb
                        go_wp2_with fail
                        go_quiet ((go_at_call 71; first | with_reducible exact qs2 (LD1.out _) | with_reducible exact qs2 (LD2.out _)))
                        go_wp2_with fail
                        go_roundw
                        case rel => exact ⟨t + 1, j + nq, by omega, by go_num, by rw [HN.out]; go_num, by rw [HW.out], rfl⟩
                        case measure => simp [intOf]; omega
                      · have HW := Lib.hid (worstR_old (m := m') (k := k) (xs := row x1 k) (at0 := i) (t := t) (by rw [hwn]; exact hd))
                        have HWn := Lib.hid hwn
                        have hdd : decide (placeI (row x1 k) wn < placeI (row x1 k) t) = false := decide_eq_false hd
                        generalize placeI (row x1 k) (t : Int) = pt at *
                        generalize placeI (row x1 k) (wn : Int) = pw at *
                        generalize (hasN m' k t).length = hn at *
                        generalize m'.getD t 0 = y at *
                        clear hy hwn hd hpb
                        go_wp2_with fail
                        go_quiet ((go_at_call 71; first | with_reducible exact qs2 (LD1.out _) | with_reducible exact qs2 (LD2.out _)))
                        go_wp2_with fail
                        go_roundw
                        case rel => exact ⟨t + 1, j + nq, by omega, by go_num, by rw [HN.out]; go_num, by rw [HW.out, HWn.out], rfl⟩
                        case measure => simp [intOf]; omega
                    · have HN := Lib.hid (hasN_ne hy)
                      have HW := Lib.hid (worstR_ne (xs := row x1 k) (at0 := i) hy)
                      have HWn := Lib.hid hwn
                      have hyk : (m'.getD t 0 == (k : Int)) = false := by simpa using hy
                      generalize (hasN m' k t).length = hn at *
                      generalize m'.getD t 0 = y at *
                      clear hy hwn
                      go_wp2_with fail
                      go_roundw
                      case rel => exact ⟨t + 1, j, by omega, by go_num, by rw [HN.out], by rw [HW.out, HWn.out], rfl⟩
                      case measure => simp [intOf]; omega
                  · obtain rfl : t = x0.length := by omega
                    have hhL : (hasN m' k x0.length).length = (hasL m' k).length := by rw [hasL, HMl.out]
                    rw [hhL, HSame.out]
                    have hks : (k : Int) < (s.length : Int) := by rw [HLs.out]; exact k1
                    have csk := HSk.out
                    have S6' := Lib.hid (S6.out.drewN j)
                    clear hlt ht
                    rw [hhL] at hhl
                    cases HCase.out with
                    | no h => rw [Hcon.out] at h; cases h
                    | room h hf =>
                      rw [← Hm'.out] at hf HA2 HE2
                      have hd : decide (s.getD k 0 < ((hasL m' k).length : Int)) = false := decide_eq_false (by omega)
                      generalize worstN (row x1 k) m' k x0.length = wt at *
                      generalize (hasL m' k).length = hn at *
                      generalize s.getD k 0 = sk at *
                      clear hhL h hf
                      go_wp2_with fail
                      go_roundw
                      case rel => exact ⟨m', askQ q i, by rw [HSm2.out], HA2, HE2, S6'⟩
                      case measure => simp [intOf]; omega
                    | full h hf l hl hlk hmax he =>
                      rw [← Hm'.out] at hf he
                      simp only at hl he
                      have HA3 : Hid (Asks ⟨x0, x1⟩ (m'.set l (-1)) (askQ q i)) := by rw [Hm'.out]; exact HA2.out
                      have HE3 : Hid (askE ⟨x0, x1⟩ s (m'.set l (-1)) (askQ q i) = askF ⟨x0, x1⟩ s) := by rw [Hm'.out]; exact HE2.out
                      have hd : decide (s.getD k 0 < ((hasL m' k).length : Int)) = true := decide_eq_true hf
                      have S7 := Lib.hid (S6'.out.stoM hg hgs (by rw [HMl.out]; exact hl) (-1))
                      have cm : (v6.drewN j).cell? ⟨gm, l, none⟩ = some (.int .i64 (m'.getD l 0)) := HCm.out l hl
                      have cm2 : v6.cell? ⟨gm, l, none⟩ = some (.int .i64 (m'.getD l 0)) := HCm.out l hl
                      have fm := S6'.out.md.free l
                      have fm2 := S6.out.md.free l
                      have l0 : (0 : Int) ≤ (l : Int) := Int.natCast_nonneg _
                      have l1 : (l : Int) < (x0.length : Int) := by omega
                      rw [he]
                      generalize m'.getD l 0 = ml at *
                      generalize (hasL m' k).length = hn at *
                      generalize s.getD k 0 = sk at *
                      clear hhL h hlk hmax he HA2 HE2
                      go_wp2_with fail
                      go_roundw
                      case rel => exact ⟨m'.set l (-1), askQ q i, by rw [HSm2.out], HA3, HE3, S7⟩
                      case measure => simp [intOf]; omega
            · rw [hask, hi]
              have HEnd := Lib.hid (askE_end (w := ⟨x0, x1⟩) (seats := s) (m := m) (q := q) (by rw [hi]; omega))
              have HS3 := Lib.hid S3
              clear hi hask S3
              go_wp2_with fail
              go_ret2
              have hfq : askF ⟨x0, x1⟩ s = (m, q) := by rw [← HE.out, HEnd.out]
              have hlm : m.length = x0.length := HA.out.lm
              rw [hfq]
              refine ⟨gm, c2, rfl, ?_, HS3.out.bw⟩
              refine OwnI.of_own ?_
              rw [hlm]
              exact own_close HS3.out.md hg (by rw [ints_length]; exact hlm) hnc hcm (by have := Hcl.out; rw [List.length_append, ints_length, List.length_replicate] at this; rw [List.length_append, ints_length, hlm]; exact this)
end Go.Proofs.Ytchfibmndcfpiaa
