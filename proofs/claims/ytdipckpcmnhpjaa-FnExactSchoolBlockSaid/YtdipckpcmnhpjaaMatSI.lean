/-
  SchoolBlock: the program's road.
-/
import Derived.Test.YtdipckpcmnhpjaaMatSC
namespace Go.Proofs.Ytdipckpcmnhpjaa
set_option linter.unusedVariables false
set_option linter.unusedSimpArgs false
open Go.RowKit

theorem info_intsQ : (Try.prog.info? 25).map (fun i => (i.zero, i.size, i.bytes)) = some (some (.slice none 0 0), 1, 24) := by kernel_rfl
theorem hasT_len (m : List Int) (n t : Nat) : (hasT m n t).length = n := by simp [hasT]
theorem school_no1 {w : Wi} {s m : List Int} (h : seatsB w s = false) : schoolF w s m = none := by unfold schoolF; rw [h]; rfl
theorem school_no2 {w : Wi} {s m : List Int} (h : partnersB w m = false) : schoolF w s m = none := by unfold schoolF; rw [h, Bool.and_false]; rfl
theorem school_no3 {w : Wi} {s m : List Int} (h : fullB w s m = false) : schoolF w s m = none := by unfold schoolF; rw [h, Bool.and_false]; rfl
theorem school_yes {w : Wi} {s m : List Int} (h1 : seatsB w s = true) (h2 : partnersB w m = true) (h3 : fullB w s m = true) : schoolF w s m = first2 w.L.length (sblocksI w s m) := by unfold schoolF; rw [h1, h2, h3]; rfl
theorem any_anyI (xs : List Int) (f : Int → Bool) : xs.any f = anyI (fun j => f (xs.getD j 0)) xs.length := by
  rw [Bool.eq_iff_iff, List.any_eq_true, anyI_iff]
  constructor
  · rintro ⟨x, hx, hf⟩
    obtain ⟨k, hk, rfl⟩ := List.getElem_of_mem hx
    exact ⟨k, hk, by rw [getD_eq hk]; exact hf⟩
  · rintro ⟨k, hk, hf⟩
    exact ⟨_, getD_mem hk, hf⟩
theorem enter_rival (args : Array Value) (w : World) : (callFunc 74 args).run Try.prog w = .ok (.enter 74 args) w := by kernel_rfl
set_option maxRecDepth 10000 in
set_option maxHeartbeats 8000000 in
theorem school_any (w : World) (a0 : Option Addr) (c0 : Nat) (x0 : List (List Int)) (a1 : Option Addr) (c1 : Nat) (x1 : List (List Int)) (as' : Option Addr) (cs : Nat) (s : List Int) (a : Option Addr) (c : Nat) (m : List Int) (h : RdWishes w w.heap.size a0 x0 a1 x1) (hl0 : x0.length ≤ 1048576) (hin0 : ∀ y ∈ x0, y.length ≤ 1048576) (hl1 : x1.length ≤ 1048576) (hin1 : ∀ y ∈ x1, y.length ≤ 1048576)
    (gs : Rd w w.heap.size as' (ints s)) (hls : s.length ≤ 1048576) (g : Rd w w.heap.size a (ints m)) (hl : m.length ≤ 1048576) :
    Calls Try.prog 27 #[.agg #[.slice a0 x0.length c0, .slice a1 x1.length c1], .slice as' s.length cs, .slice a m.length c] w fun e w' => e = .returned (.tuple #[.int .i64 (bA (schoolF ⟨x0, x1⟩ s m)), .int .i64 (bZ (schoolF ⟨x0, x1⟩ s m)), .bool (schoolF ⟨x0, x1⟩ s m).isSome]) ∧ Below w.heap.size w w' := by
  have X0 : Bx w (w.alloc (.cells #[.slice a0 x0.length c0, .slice a1 x1.length c1] 28)) [.slice a0 x0.length c0, .slice a1 x1.length c1] 28 := Bx.start w _ _
  have LA := Lib.hid (fun w' hb => areSeats_any w' a0 c0 x0 a1 c1 x1 as' cs s (h.to hb) hl0 hin0 hl1 hin1 (gs.to hb) hls)
  cases t1 : seatsB ⟨x0, x1⟩ s with
  | false =>
    rw [school_no1 t1]
    rw [t1] at LA
    clear h g gs hin0 hin1 t1
    go_enter Try.func27, Try.ntmps27
    go_wp2_with fail
    refine (LA.out _ X0.1).mono ?_
    rintro e w1 ⟨rfl, hb1⟩
    have X1 := X0.next hb1
    clear hb1
    go_wp2_with fail
    go_ret3
    exact ⟨rfl, X1.1⟩
  | true =>
  have hv : Wish ⟨x0, x1⟩ := wish_of (Bool.and_eq_true _ _ ▸ t1 : wishB ⟨x0, x1⟩ = true ∧ _).1
  have LP := Lib.hid (fun w' hb => partners_any w' a0 c0 x0 a1 c1 x1 (h.to hb) hv hin0 hin1 a c m (g.to hb) hl)
  rw [t1] at LA
  cases t2 : partnersB ⟨x0, x1⟩ m with
  | false =>
    rw [school_no2 t2]
    rw [t2] at LP
    clear h g gs hin0 hin1 t1 t2 hv
    go_enter Try.func27, Try.ntmps27
    go_wp2_with fail
    refine (LA.out _ X0.1).mono ?_
    rintro e w1 ⟨rfl, hb1⟩
    have X1 := X0.next hb1
    obtain ⟨q0, q1⟩ := X1.two
    clear hb1
    go_wp2_with fail
    refine (LP.out _ X1.1).mono ?_
    rintro e w2 ⟨rfl, hb2⟩
    have X2 := X1.next hb2
    clear hb2 q0 q1
    go_wp2_with fail
    go_ret3
    exact ⟨rfl, X2.1⟩
  | true =>
  rw [t2] at LP
  have hsm : manyB s x0.length x0.length 0 8 = true := (Bool.and_eq_true _ _ ▸ t1 : wishB ⟨x0, x1⟩ = true ∧ manyB s x0.length x0.length 0 8 = true).2
  have hsl : s.length = x0.length := by have := (manyB_iff.1 hsm).1; omega
  obtain ⟨hml, hmv⟩ := partners_iff.1 t2
  simp only at hml hmv
  have h8 := hv.n8
  simp only at h8
  have LC := Lib.hid (fun w' => count_any w' a0 c0 x0 a1 c1 x1)
  have HMV : Hid (∀ (k : Nat) (x : Int), k < m.length → m[k]? = some x → m.getD k 0 = x ∧ (x < 0 ∨ ∃ y : Nat, x = y ∧ y < x0.length)) := fun k x hk hx => by
    refine ⟨getD_of_get hx, ?_⟩
    rw [← getD_of_get hx]
    rcases hmv k hk with h | ⟨y, h, hy, _⟩
    · exact .inl (by omega)
    · exact .inr ⟨y, h, by omega⟩
  have Hm : Hid (m.length = x0.length) := hml
  have Hs : Hid (s.length = x0.length) := hsl
  have G := Lib.hid g
  have GS := Lib.hid gs
  have hm8 : m.length ≤ 8 := by omega
  clear hml hsl hmv hsm
  go_enter Try.func27, Try.ntmps27
  go_wp2_with fail
  refine (LA.out _ X0.1).mono ?_
  rintro e w1 ⟨rfl, hb1⟩
  have X1 := X0.next hb1
  obtain ⟨q0, q1⟩ := X1.two
  clear hb1
  go_wp2_with fail
  refine (LP.out _ X1.1).mono ?_
  rintro e w2 ⟨rfl, hb2⟩
  have X2 := X1.next hb2
  clear q0 q1
  obtain ⟨q0, q1⟩ := X2.two
  clear hb2
  go_wp2_with fail
  refine (LC.out _).mono ?_
  rintro e w3 ⟨rfl, hb3⟩
  have X3 := X2.next hb3
  have hx3 := X3.lt
  clear hb3 q0 q1 X0 X1 X2
  go_wp2_with (at_make; refine wpList_make_blk _ rfl _ _ 22 rfl 25 (.slice none 0 0) 24 Try.underlying22 info_intsQ rfl _ _ x0.length rfl rfl (by omega) (by unfold maxLen; omega) ?_)
  intro w4 hb4 hw4 hs4
  have X4 := X3.next hw4
  have HT0 : Hid (OwnTab 2 25 w4 w3.heap.size (List.replicate x0.length (.slice none 0 0)) (hasT m x0.length 0)) := by
    rw [Hid, hasT_zero]; exact OwnTab.start hb4
  clear hb4 hw4 X3
  go_wp2_with fail
  go_loopw [31] (fun tv wr => ∃ (t : Nat) (vs : List Value), t ≤ m.length ∧ tv = .int .i64 t ∧ Hid (OwnTab 2 25 wr w3.heap.size vs (hasT m x0.length t)) ∧ Bx w wr [.slice a0 x0.length c0, .slice a1 x1.length c1] 28 ∧ w3.heap.size + 1 ≤ wr.heap.size) (fun tv _ => m.length - (intOf tv).toNat)
  case atStart => exact ⟨0, _, Nat.zero_le _, rfl, HT0.out, X4, by omega⟩
  case round =>
    clear HT0 X4
    obtain ⟨t, vs, ht, rfl, hO, X, hszr⟩ := hrel
    by_cases hlt : t < m.length
    · obtain ⟨b, o, x, rfl, hbb, hc4, hx⟩ := G.out.get hlt
      have d4 := (X.1.cell (p := ⟨b, o + t, none⟩) hbb).trans hc4
      obtain ⟨hgd, hxv⟩ := HMV.out t x hlt hx.out
      have t0 : (0 : Int) ≤ (t : Int) := Int.natCast_nonneg _
      have t1' : (t : Int) < (m.length : Int) := by omega
      rcases hxv with hx0 | ⟨k, rfl, hk⟩
      · have hO2 : Hid (OwnTab 2 25 wr w3.heap.size vs (hasT m x0.length (t + 1))) := by
          rw [Hid, hasT_skip (by rw [hgd]; exact hx0)]; exact hO.out
        clear hO hgd hc4
        go_wp2_with fail
        go_roundw
        case rel => exact ⟨t + 1, vs, by omega, by go_num, hO2, X, hszr⟩
        case measure => simp [intOf]; omega
      · obtain ⟨v, hvk⟩ : ∃ v, vs[k]? = some v := ⟨vs[k]'(by rw [hO.out.len, hasT_len]; exact hk), by simp⟩
        have hrow := hO.out.row k v _ hvk (hasT_get hk)
        obtain ⟨av, cv, rfl, _, _⟩ := own_shape hrow
        have ck : wr.cell? ⟨w3.heap.size, k, none⟩ = some (.slice av (hasN m k t).length cv) := by rw [hO.out.blk.cell]; exact hvk
        have hnl := hasN_len m k t
        have hset := hasT_set (n := x0.length) hgd
        have hgt' : (hasT m x0.length t)[k]? = some (hasN m k t) := hasT_get hk
        have k0 : (0 : Int) ≤ (k : Int) := Int.natCast_nonneg _
        have k1 : (k : Int) < (x0.length : Int) := by omega
        generalize hasN m k t = xs at *
        have HRow := Lib.hid hrow
        have HV := Lib.hid hvk
        have hne : some w3.heap.size ≠ (Value.slice av xs.length cv).ownBlock := own_block_ne hrow (Nat.lt_succ_self _)
        have Hne := Lib.hid hne
        have HGt := Lib.hid hgt'
        have HSet := Lib.hid hset
        clear hrow hvk hne hgd hc4 hgt' hset
        go_wp2_with (at_builtin; refine wpList_append_blk _ rfl _ _ 25 rfl (w3.heap.size + 1) 2 (.int .i64 0) 8 Try.underlying25 info_i64p rfl _ xs.length _ rfl HRow.out (.int .i64 t) rfl rfl (by omega) (by omega) hszr ?_)
        intro v' w5 ho hgr hnn
        obtain ⟨a5, c5, rfl, _, _⟩ := own_shape ho
        have HG : Hid (OwnTab 2 25 (w5.setCell ⟨w3.heap.size, k, none⟩ (.slice a5 (xs.length + 1) c5)) w3.heap.size (vs.set k (.slice a5 (xs.length + 1) c5)) (hasT m x0.length (t + 1))) := by
          rw [Hid, HSet.out]
          exact hO.out.grow HV.out HGt.out (by rw [ints_append, List.length_append]; exact ho) hgr hnn
        have hb5 := hO.out.blk.grown hgr Hne.out
        have ck5 := hb5.cell k
        rw [HV.out] at ck5
        have fk5 := hb5.free k
        have X5 := X.far (below_row HRow.out hgr hszr) (by omega)
        have X6 := X5.far (below_sto (Below.refl w3.heap.size w5) (g := w3.heap.size) (Nat.le_refl _) k (.slice a5 (xs.length + 1) c5)) (by omega)
        have hsz6 : w3.heap.size + 1 ≤ (w5.setCell ⟨w3.heap.size, k, none⟩ (.slice a5 (xs.length + 1) c5)).heap.size := by have := hgr.size; simp; omega
        clear ho hgr hnn hb5 hO X X5 HRow HV ck
        go_wp2_with fail
        go_roundw
        case rel => exact ⟨t + 1, vs.set k (.slice a5 (xs.length + 1) c5), by omega, by go_num, HG, X6, hsz6⟩
        case measure => simp [intOf]; omega
    · have htm : t = m.length := by omega
      subst htm
      obtain ⟨wo, hwo⟩ : ∃ W : World, W = wr := ⟨_, rfl⟩
      subst hwo
      have HRowL : Hid (∀ k, k < x0.length → ∃ av cv, vs[k]? = some (.slice av (hasL m k).length cv) ∧ wo.ownsRow (w3.heap.size + 1) 2 1 (.slice av (hasL m k).length cv) (hasL m k).length (ints (hasL m k))) := fun k hk => by
        obtain ⟨v, hvk⟩ : ∃ v, vs[k]? = some v := ⟨vs[k]'(by rw [hO.out.len, hasT_len]; exact hk), by simp⟩
        have hrow := hO.out.row k v _ hvk (hasT_get hk)
        obtain ⟨av, cv, rfl, _, _⟩ := own_shape hrow
        exact ⟨av, cv, hvk, hrow⟩
      have HBlk := Lib.hid hO.out.blk
      have HFull : Hid (∀ k, k < x0.length → ¬ ((hasL m k).length : Int) ≤ s.getD k 0 → schoolF ⟨x0, x1⟩ s m = none) := fun k hk hh => school_no3 (rangeAll_false (n := x0.length) hk (decide_eq_false hh))
      clear hO
      go_wp2_with fail
      go_loopw [51] (fun kv wr => ∃ k : Nat, k ≤ x0.length ∧ kv = .int .i64 k ∧ Hid (∀ j, j < k → ((hasL m j).length : Int) ≤ s.getD j 0) ∧ wr = wo) (fun kv _ => x0.length - (intOf kv).toNat)
      case atStart => exact ⟨0, Nat.zero_le _, rfl, fun _ hj => by omega, rfl⟩
      case round =>
        obtain ⟨k, hk, rfl, hle, rfl⟩ := hrel
        by_cases hlk : k < x0.length
        · obtain ⟨av, cv, hvk, hrow⟩ := HRowL.out k hlk
          have ck := HBlk.out.cell k
          rw [hvk] at ck
          obtain ⟨b5, o5, y, rfl, hb5, hc5, hy5⟩ := GS.out.get (k := k) (by rw [Hs.out]; exact hlk)
          have d5 := (X.1.cell (p := ⟨b5, o5 + k, none⟩) hb5).trans hc5
          have hgd := getD_of_get hy5.out
          have HF1 := Lib.hid (HFull.out k hlk)
          rw [hgd] at HF1
          have HL1 : Hid (((hasL m k).length : Int) ≤ y → ∀ j, j < k + 1 → ((hasL m j).length : Int) ≤ s.getD j 0) := fun hh j hj => by
            by_cases e : j = k
            · subst e; rw [hgd]; exact hh
            · exact hle.out j (by omega)
          have k0 : (0 : Int) ≤ (k : Int) := Int.natCast_nonneg _
          have k1 : (k : Int) < (x0.length : Int) := by omega
          have k2 : (k : Int) < (s.length : Int) := by rw [Hs.out]; omega
          generalize (hasL m k).length = ln at *
          clear hrow hvk hc5 hgd hle
          by_cases hc : (ln : Int) ≤ y
          · have HL2 := Lib.hid (HL1.out hc)
            have hgt : ¬ (y < (ln : Int)) := by omega
            go_wp2_with fail
            go_roundw
            case rel => exact ⟨k + 1, by omega, by go_num, HL2, by first | rfl | trivial⟩
            case measure => simp [intOf]; omega
          · have HF2 := Lib.hid (HF1.out (by omega))
            have hgt : (y < (ln : Int)) := by omega
            go_wp2_with fail
            go_ret3
            rw [HF2.out]
            exact ⟨rfl, X.1⟩
        · have hkk : k = x0.length := by omega
          subst hkk
          have hfull : fullB ⟨x0, x1⟩ s m = true := List.all_eq_true.2 fun j hj => decide_eq_true (hle.out j (List.mem_range.1 hj))
          have HSF := Lib.hid (school_yes t1 t2 hfull)
          have hln := Lib.hid hv.len
          simp only at hln
          have Hbl : Hid (∀ (i k : Nat) (ys zs : List Int) (x y : Int), i < x0.length → k < x0.length → x0[i]? = some ys → x1[k]? = some zs → m[i]? = some x → s[k]? = some y → sblocksI ⟨x0, x1⟩ s m i k = (pairB ⟨x0, x1⟩ i k && dearI ys k x && (decide (((hasL m k).length : Int) < y) || anyI (fun j => dearI zs i ((hasL m k).getD j 0)) (hasL m k).length))) := by
            intro i k ys zs x y _ _ e1 e2 e3 e4
            unfold sblocksI
            simp only [row_get e1, row_get e2, getD_of_get e3, getD_of_get e4]
            congr 2
            exact any_anyI _ _
          have HH : Hid (∀ i k, i < x0.length → k < x0.length → sblocksI ⟨x0, x1⟩ s m i k = true → (∀ i' k', i' < i → k' < x0.length → sblocksI ⟨x0, x1⟩ s m i' k' = false) → (∀ k', k' < k → sblocksI ⟨x0, x1⟩ s m i k' = false) → schoolF ⟨x0, x1⟩ s m = some (i, k)) := fun i k h1 h2 h3 h4 h5 => by rw [HSF.out]; exact first2_here h1 h2 h3 h4 h5
          have HZ : Hid ((∀ i k, i < x0.length → k < x0.length → sblocksI ⟨x0, x1⟩ s m i k = false) → schoolF ⟨x0, x1⟩ s m = none) := fun hh => by rw [HSF.out]; exact first2_none.2 hh
          have LT : Hid (∀ (w' : World) (i k : Nat), Below w.heap.size w w' → i < x0.length → k < x0.length → _) := fun w' i k hb hi hk => take_any w' a0 c0 x0 a1 c1 x1 (h.to hb) hin0 hin1 i k hi (by rw [hln.out]; exact hk)
          have LD := Lib.hid (fun w' a c ys x y => dearer_any w' a c ys x y)
          have Hh := Lib.hid h
          have Hin0 := Lib.hid hin0
          have Hin1 := Lib.hid hin1
          generalize hbf : sblocksI ⟨x0, x1⟩ s m = bf at *
          clear h hin0 hin1 g gs hv t1 t2 hfull hle HSF hbf HFull
          obtain ⟨q0, q1⟩ := X.two
          go_wp2_with fail
          refine (LC.out _).mono ?_
          rintro e w6 ⟨rfl, hb6⟩
          have X6 := X.next hb6
          have B6 := Lib.hid hb6
          have HC6 : Hid (∀ k, k < x0.length → ∃ av cv, w6.cell? ⟨w3.heap.size, k, none⟩ = some (.slice av (hasL m k).length cv) ∧ Rd w6 w6.heap.size av (ints (hasL m k))) := fun k hk => by
            obtain ⟨av, cv, hvk, hrow⟩ := HRowL.out k hk
            refine ⟨av, cv, ?_, rd_of_own (own_below hrow B6.out) (Nat.le_refl _)⟩
            rw [(HBlk.out.same B6.out).cell]; exact hvk
          have hgh : w3.heap.size < w6.heap.size := by have := B6.out.size; omega
          clear q0 q1 hb6 B6 HRowL HBlk X
          go_wp2_with fail
          go_loopw [66] (fun iv wr => ∃ i : Nat, i ≤ x0.length ∧ iv = .int .i64 i ∧ Hid (∀ i' k', i' < i → k' < x0.length → bf i' k' = false) ∧ Bx w wr [.slice a0 x0.length c0, .slice a1 x1.length c1] 28 ∧ Below w6.heap.size w6 wr) (fun iv _ => x0.length - (intOf iv).toNat)
          case atStart => exact ⟨0, Nat.zero_le _, rfl, fun _ _ h => by omega, X6, Below.refl _ _⟩
          case round =>
            clear X6
            obtain ⟨i, hi, rfl, hrows, X, hw6⟩ := hrel
            by_cases hlt : i < x0.length
            · have XA := X.next (bl1 _ (.cells #[.int .i64 i] 2))
              obtain ⟨q0, q1⟩ := XA.two
              obtain ⟨wo2, hwo2⟩ : ∃ W : World, W = wr := ⟨_, rfl⟩
              subst hwo2
              have hci := (Blk.new wo2 [.int .i64 i] 2).cell 0
              go_wp2_with fail
              refine (LC.out _).mono ?_
              rintro e w7 ⟨rfl, hb7⟩
              have X7 := XA.next hb7
              have ci7 : w7.cell? ⟨wo2.heap.size, 0, none⟩ = some (.int .i64 i) := (hb7.cell (p := ⟨wo2.heap.size, 0, none⟩) (by simp)).trans hci
              have B7 := below_then (bl1 wo2 (.cells #[.int .i64 i] 2)) hb7
              have A7 := hw6.trans (B7.mono hw6.size)
              have hz7 : wo2.heap.size < w7.heap.size := by have := hb7.size; simp at this; omega
              have HCi := Lib.hid ci7
              clear q0 q1 hb7 XA hci X B7 ci7
              go_wp2_with fail
              go_loopw [71] (fun kv wr => ∃ k : Nat, k ≤ x0.length ∧ kv = .int .i64 k ∧ Hid (∀ k', k' < k → bf i k' = false) ∧ Bx w wr [.slice a0 x0.length c0, .slice a1 x1.length c1] 28 ∧ Below w6.heap.size w6 wr ∧ Hid (wr.cell? ⟨wo2.heap.size, 0, none⟩ = some (.int .i64 i)) ∧ wo2.heap.size < wr.heap.size) (fun kv _ => x0.length - (intOf kv).toNat)
              case atStart => exact ⟨0, Nat.zero_le _, rfl, fun _ h => by omega, X7, A7, HCi.out, hz7⟩
              case round =>
                clear X7 A7 HCi hz7
                obtain ⟨k, hk, rfl, hcols, X, hA, hci, hz⟩ := hrel
                by_cases hlk : k < x0.length
                · have XB := X.next (bl1 wr (.cells #[.int .i64 k] 2))
                  have hAB := hA.trans ((bl1 wr (.cells #[.int .i64 k] 2)).mono hA.size)
                  obtain ⟨b2, o2, ys, a2, c2, e2, hb2, hc2, _, hr2, hy2⟩ := (Hh.out.1).get (k := i) hlt
                  obtain ⟨b3, o3, zs, a3, c3, e3, hb3, hc3, _, hr3, hy3⟩ := (Hh.out.2).get (k := k) (by rw [hln.out]; exact hlk)
                  obtain ⟨b4, o4, x, e4, hb4, hc4, hx4⟩ := G.out.get (k := i) (by rw [Hm.out]; exact hlt)
                  obtain ⟨b5, o5, y, e5, hb5, hc5, hy5⟩ := GS.out.get (k := k) (by rw [Hs.out]; exact hlk)
                  obtain ⟨av, cv, hk6, hrd6⟩ := HC6.out k hlk
                  have hWB : Hid (∀ w', Below (wr.alloc (.cells #[.int .i64 k] 2)).heap.size (wr.alloc (.cells #[.int .i64 k] 2)) w' → Below w.heap.size w w') := fun w' hb => below_then XB.1 hb
                  have hW6 : Hid (∀ w', Below (wr.alloc (.cells #[.int .i64 k] 2)).heap.size (wr.alloc (.cells #[.int .i64 k] 2)) w' → Below w6.heap.size w6 w') := fun w' hb => hAB.trans (hb.mono (by have := hA.size; simp; omega))
                  have LT1 : Hid (∀ w', Below (wr.alloc (.cells #[.int .i64 k] 2)).heap.size (wr.alloc (.cells #[.int .i64 k] 2)) w' → _) := fun w' hb => LT.out w' i k (hWB.out w' hb) hlt hlk
                  have LD1 : Hid (∀ w', Below (wr.alloc (.cells #[.int .i64 k] 2)).heap.size (wr.alloc (.cells #[.int .i64 k] 2)) w' → _) := fun w' hb => LD.out w' a2 c2 ys k x (hr2.to (hWB.out w' hb)) (Hin0.out ys (List.mem_of_getElem? hy2.out))
                  have hbl := Hbl.out i k ys zs x y hlt hlk hy2.out hy3.out hx4.out hy5.out
                  have gw : w.heap.size < (wr.alloc (.cells #[.int .i64 k] 2)).heap.size := by have := X.lt; simp; omega
                  have hsz6 := hA.size
                  have c0' : Hid (∀ (p : Addr) (v : Value), p.block < w.heap.size → w.cell? p = some v → ∀ z : Later (wr.alloc (.cells #[.int .i64 k] 2)), z.w'.cell? p = some v) := fun p v hp hv z => ((hWB.out _ z.h).cell (p := p) hp).trans hv
                  have F0 : ∀ z : Later (wr.alloc (.cells #[.int .i64 k] 2)), z.w'.cell? ⟨w.heap.size, 0, none⟩ = some (.slice a0 x0.length c0) := fun z => z.cell gw XB.two.1
                  have F1 : ∀ z : Later (wr.alloc (.cells #[.int .i64 k] 2)), z.w'.cell? ⟨w.heap.size, 1, none⟩ = some (.slice a1 x1.length c1) := fun z => z.cell gw XB.two.2
                  have F2 := c0'.out ⟨b2, o2 + i, none⟩ _ hb2 hc2
                  have F4 := c0'.out ⟨b4, o4 + i, none⟩ _ hb4 hc4
                  have F5 := c0'.out ⟨b5, o5 + k, none⟩ _ hb5 hc5
                  have F6 : ∀ z : Later (wr.alloc (.cells #[.int .i64 k] 2)), z.w'.cell? ⟨wr.heap.size, 0, none⟩ = some (.int .i64 k) := fun z => z.cell (by simp) ((Blk.new wr [.int .i64 k] 2).cell 0)
                  have F7 : ∀ z : Later (wr.alloc (.cells #[.int .i64 k] 2)), z.w'.cell? ⟨wo2.heap.size, 0, none⟩ = some (.int .i64 i) := fun z => z.cell (by simp; omega) (((bl1 wr (.cells #[.int .i64 k] 2)).cell (p := ⟨wo2.heap.size, 0, none⟩) hz).trans hci.out)
                  have F8 : ∀ z : Later (wr.alloc (.cells #[.int .i64 k] 2)), z.w'.cell? ⟨w3.heap.size, k, none⟩ = some (.slice av (hasL m k).length cv) := fun z => ((hW6.out _ z.h).cell (p := ⟨w3.heap.size, k, none⟩) hgh).trans hk6
                  have LCF : Hid (∀ w', Below (wr.alloc (.cells #[.int .i64 k] 2)).heap.size (wr.alloc (.cells #[.int .i64 k] 2)) w' → Calls Try.prog 73 #[.slice av (hasL m k).length cv, .func (.func 74) #[] #[.pointer (some ⟨w.heap.size, 0, none⟩), .pointer (some ⟨wr.heap.size, 0, none⟩), .pointer (some ⟨wo2.heap.size, 0, none⟩)]] w' fun e w'' => e = .returned (.bool (anyI (fun j => dearI zs i ((hasL m k).getD j 0)) (hasL m k).length)) ∧ Below w'.heap.size w' w'') := fun w' hb => by
                    have hlen : (hasL m k).length ≤ m.length := hasN_len m k m.length
                    have := containsFunc_I 74 #[.pointer (some ⟨w.heap.size, 0, none⟩), .pointer (some ⟨wr.heap.size, 0, none⟩), .pointer (some ⟨wo2.heap.size, 0, none⟩)] enter_rival w' av cv (ints (hasL m k)) (fun j => dearI zs i ((hasL m k).getD j 0)) (hrd6.to (hW6.out w' hb)) (by simp; omega) (fun w'' j v hb2 hv => by
                      have hj : j < (hasL m k).length := by have := (List.getElem?_eq_some_iff.1 hv).1; simpa using this
                      rw [ints_get _ _ hj] at hv
                      injection hv with hv
                      subst hv
                      have hb3 := below_then hb hb2
                      have hsz3 := hb3.size
                      have := rival_any w'' w.heap.size wr.heap.size wo2.heap.size a1 c1 x1 i k ((hasL m k).getD j 0) (F1 ⟨w'', hb3⟩) (F6 ⟨w'', hb3⟩) (F7 ⟨w'', hb3⟩) (by omega) (by simp at hsz3; omega) (by simp at hsz3; omega) (Hh.out.to (hWB.out _ hb3)).2 Hin1.out (by rw [hln.out]; exact hlk)
                      rw [row_get hy3.out] at this
                      exact this)
                    rwa [ints_length] at this
                  have HN : Hid (∀ w' : World, bf i k = false → Below (wr.alloc (.cells #[.int .i64 k] 2)).heap.size (wr.alloc (.cells #[.int .i64 k] 2)) w' → ∃ k' : Nat, k' ≤ x0.length ∧ (Value.int .i64 ((k : Int) + 1)) = .int .i64 k' ∧ Hid (∀ q, q < k' → bf i q = false) ∧ Bx w w' [.slice a0 x0.length c0, .slice a1 x1.length c1] 28 ∧ Below w6.heap.size w6 w' ∧ Hid (w'.cell? ⟨wo2.heap.size, 0, none⟩ = some (.int .i64 i)) ∧ wo2.heap.size < w'.heap.size) := fun w' hf hb =>
                    ⟨k + 1, by omega, by go_num, fun q hq => by
                      by_cases e : q = k
                      · subst e; exact hf
                      · exact hcols.out q (by omega), XB.next hb, hW6.out w' hb, F7 ⟨w', hb⟩, by have := hb.size; simp at this; omega⟩
                  have HBA : Hid (∀ w', Below (wr.alloc (.cells #[.int .i64 k] 2)).heap.size (wr.alloc (.cells #[.int .i64 k] 2)) w' → Below w.heap.size w w') := hWB.out
                  have HR : Hid (bf i k = true → schoolF ⟨x0, x1⟩ s m = some (i, k)) := fun hf => HH.out i k hlt hlk hf hrows.out hcols.out
                  have i0 : (0 : Int) ≤ (i : Int) := Int.natCast_nonneg _
                  have k0 : (0 : Int) ≤ (k : Int) := Int.natCast_nonneg _
                  have i1 : (i : Int) < (x0.length : Int) := by omega
                  have k1 : (k : Int) < (x0.length : Int) := by omega
                  have i2 : (i : Int) < (m.length : Int) := by rw [Hm.out]; omega
                  have k2 : (k : Int) < (s.length : Int) := by rw [Hs.out]; omega
                  subst e2 e3 e4 e5
                  generalize anyI (fun j => dearI zs i ((hasL m k).getD j 0)) (hasL m k).length = an at *
                  generalize (hasL m k).length = ln at *
                  clear X XB hAB hc2 hc3 hc4 hc5 hk6 hrd6 hr2 hr3 hy2 hy3 hx4 hy5 hcols hrows hci hWB hW6 c0'
                  cases t1 : pairB ⟨x0, x1⟩ i k with
                  | false =>
                    rw [t1] at LT1
                    rw [t1, Bool.false_and, Bool.false_and] at hbl
                    go_wp2_with fail
                    refine wp_region_later (by kernel_rfl) (by kernel_rfl) ?_
                    repeat (go_big_quiet_step (first | (go_at_call 71; exact later_of (LT1.out _ (Later.h _))) | (go_at_call 72; exact later_same (LD1.out _ (Later.h _)))))
                    refine wpQuiet_nil ?_
                    rintro wq ⟨⟨_, hbq⟩, rfl⟩
                    clear F0 F1 F2 F4 F5 F6 F7 F8
                    go_wp2_with fail
                    go_roundw
                    case rel => exact HN.out _ hbl hbq
                    case measure => simp [intOf]; omega
                  | true =>
                    rw [t1] at LT1
                    rw [t1, Bool.true_and] at hbl
                    cases t2 : dearI ys k x with
                    | false =>
                      rw [t2, Bool.false_and] at hbl
                      rw [t2] at LD1
                      go_wp2_with fail
                      refine wp_region_later (by kernel_rfl) (by kernel_rfl) ?_
                      repeat (go_big_quiet_step (first | (go_at_call 71; exact later_of (LT1.out _ (Later.h _))) | (go_at_call 72; exact later_same (LD1.out _ (Later.h _)))))
                      refine wpQuiet_nil ?_
                      rintro wq ⟨⟨_, hbq⟩, rfl⟩
                      clear F0 F1 F2 F4 F5 F6 F7 F8
                      go_wp2_with fail
                      go_roundw
                      case rel => exact HN.out _ hbl hbq
                      case measure => simp [intOf]; omega
                    | true =>
                      rw [t2, Bool.true_and] at hbl
                      rw [t2] at LD1
                      go_wp2_with fail
                      refine wp_region_later (by kernel_rfl) (by kernel_rfl) ?_
                      repeat (go_big_quiet_step (first | (go_at_call 71; exact later_of (LT1.out _ (Later.h _))) | (go_at_call 72; exact later_same (LD1.out _ (Later.h _)))))
                      refine wpQuiet_nil ?_
                      rintro wq ⟨⟨_, hbq⟩, rfl⟩
                      have G5 : ∀ z : Later wq, _ := fun z => F5 ⟨z.w', below_then hbq z.h⟩
                      have G6 : ∀ z : Later wq, _ := fun z => F6 ⟨z.w', below_then hbq z.h⟩
                      have G7 : ∀ z : Later wq, _ := fun z => F7 ⟨z.w', below_then hbq z.h⟩
                      have G8 : ∀ z : Later wq, _ := fun z => F8 ⟨z.w', below_then hbq z.h⟩
                      have LCG : Hid (∀ w', Below wq.heap.size wq w' → _) := fun w' hb => LCF.out w' (below_then hbq hb)
                      have HNG : Hid (∀ w', bf i k = false → Below wq.heap.size wq w' → _) := fun w' hf hb => HN.out w' hf (below_then hbq hb)
                      have HBG : Hid (∀ w', Below wq.heap.size wq w' → Below w.heap.size w w') := fun w' hb => (HBA.out _ (below_then hbq hb))
                      simp only at G5 G6 G7 G8
                      clear F0 F1 F2 F4 F5 F6 F7 F8 LT1 LD1 LCF HN
                      cases t3 : decide ((ln : Int) < y) with
                      | true =>
                        rw [t3, Bool.true_or] at hbl
                        go_wp2_with fail
                        refine wp_region_later (by kernel_rfl) (by kernel_rfl) ?_
                        repeat (go_big_quiet_step ((go_at_call 73; exact later_of (LCG.out _ (Later.h _)))))
                        refine wpQuiet_nil ?_
                        rintro wq2 ⟨⟨_, hbq2⟩, rfl⟩
                        have HRR := Lib.hid (HR.out hbl)
                        have H6 : ∀ z : Later wq2, z.w'.cell? ⟨wr.heap.size, 0, none⟩ = some (.int .i64 k) := fun z => G6 ⟨z.w', below_then hbq2 z.h⟩
                        have H7 : ∀ z : Later wq2, z.w'.cell? ⟨wo2.heap.size, 0, none⟩ = some (.int .i64 i) := fun z => G7 ⟨z.w', below_then hbq2 z.h⟩
                        have HBH : Hid (∀ w', Below wq2.heap.size wq2 w' → Below w.heap.size w w') := fun w' hb => (HBG.out _ (below_then hbq2 hb))
                        clear G5 G6 G7 G8
                        go_wp2_with fail
                        refine wp_region_later (by kernel_rfl) (by kernel_rfl) ?_
                        repeat (go_big_quiet_step (fail))
                        refine wpQuiet_nil ?_
                        rintro wq3 ⟨⟨_, hbq3⟩, rfl⟩
                        clear H6 H7
                        go_wp2_with fail
                        go_ret3
                        exact ⟨by rw [HRR.out]; rfl, HBH.out _ hbq3⟩
                      | false =>
                        rw [t3, Bool.false_or] at hbl
                        cases t4 : an with
                        | false =>
                          rw [t4] at LCG hbl
                          go_wp2_with fail
                          refine wp_region_later (by kernel_rfl) (by kernel_rfl) ?_
                          repeat (go_big_quiet_step ((go_at_call 73; exact later_of (LCG.out _ (Later.h _)))))
                          refine wpQuiet_nil ?_
                          rintro wq2 ⟨⟨_, hbq2⟩, rfl⟩
                          clear G5 G6 G7 G8
                          go_wp2_with fail
                          go_roundw
                          case rel => exact HNG.out _ hbl hbq2
                          case measure => simp [intOf]; omega
                        | true =>
                          rw [t4] at LCG hbl
                          go_wp2_with fail
                          refine wp_region_later (by kernel_rfl) (by kernel_rfl) ?_
                          repeat (go_big_quiet_step ((go_at_call 73; exact later_of (LCG.out _ (Later.h _)))))
                          refine wpQuiet_nil ?_
                          rintro wq2 ⟨⟨_, hbq2⟩, rfl⟩
                          have HRR := Lib.hid (HR.out hbl)
                          have H6 : ∀ z : Later wq2, z.w'.cell? ⟨wr.heap.size, 0, none⟩ = some (.int .i64 k) := fun z => G6 ⟨z.w', below_then hbq2 z.h⟩
                          have H7 : ∀ z : Later wq2, z.w'.cell? ⟨wo2.heap.size, 0, none⟩ = some (.int .i64 i) := fun z => G7 ⟨z.w', below_then hbq2 z.h⟩
                          have HBH : Hid (∀ w', Below wq2.heap.size wq2 w' → Below w.heap.size w w') := fun w' hb => (HBG.out _ (below_then hbq2 hb))
                          clear G5 G6 G7 G8
                          go_wp2_with fail
                          refine wp_region_later (by kernel_rfl) (by kernel_rfl) ?_
                          repeat (go_big_quiet_step (fail))
                          refine wpQuiet_nil ?_
                          rintro wq3 ⟨⟨_, hbq3⟩, rfl⟩
                          clear H6 H7
                          go_wp2_with fail
                          go_ret3
                          exact ⟨by rw [HRR.out]; rfl, HBH.out _ hbq3⟩
                · have : k = x0.length := by omega
                  subst this
                  have HROW : Hid (∀ i' k', i' < i + 1 → k' < x0.length → bf i' k' = false) := fun i' k' h1 h2 => by
                    by_cases e : i' = i
                    · subst e; exact hcols.out k' h2
                    · exact hrows.out i' k' (by omega) h2
                  clear hcols hrows
                  go_wp2_with fail
                  go_roundw
                  case rel => exact ⟨i + 1, by omega, by go_num, HROW, X, hA⟩
                  case measure => simp [intOf]; omega
            · have : i = x0.length := by omega
              subst this
              have HR : Hid (schoolF ⟨x0, x1⟩ s m = none) := HZ.out hrows.out
              have hb := X.1
              clear hrows
              go_wp2_with fail
              go_ret3
              exact ⟨by rw [HR.out]; rfl, hb⟩
end Go.Proofs.Ytdipckpcmnhpjaa
