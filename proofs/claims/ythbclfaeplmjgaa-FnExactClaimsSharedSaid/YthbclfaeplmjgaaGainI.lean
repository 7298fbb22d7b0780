/-
  gains of the program: its walk.
-/
import Derived.Test.YthbclfaeplmjgaaWater
namespace Go.Proofs.Ythbclfaeplmjgaa
set_option linter.unusedVariables false
set_option linter.unusedSimpArgs false
open Go.RowKit

theorem gainS_le {cs : List Int} {est : Int} (hn : cs.length ≤ 8) (hc : ∀ x ∈ cs, 0 ≤ x ∧ x % 840 = 0) (h0 : 0 ≤ est) (hd : est % 840 = 0) :
    ∀ t, t ≤ cs.length → 0 ≤ (gainS cs (ascF cs) est t).2 ∧ (gainS cs (ascF cs) est t).2 ≤ est
  | 0, _ => ⟨h0, Int.le_refl _⟩
  | t + 1, ht => by
    have i1 := (gain_inv hn hc h0 hd (t + 1) ht).pos
    obtain ⟨j1, j2⟩ := gainS_le hn hc h0 hd t (by omega)
    have hx' : ∀ j, 0 ≤ cs.getD j 0 := fun j => by
      by_cases hj : j < cs.length
      · exact (hc _ (List.mem_of_getElem? (get_of_lt hj))).1
      · simp [List.getD, List.getElem?_eq_none (by omega : cs.length ≤ j)]
    have hx := hx' ((ascF cs).getD t 0).toNat
    have hq : 0 ≤ (gainS cs (ascF cs) est t).2 / (((ascF cs).length : Int) - t) := Int.ediv_nonneg j1 (by rw [ascF_length]; omega)
    refine ⟨i1, ?_⟩
    simp only [gainS]
    omega
theorem enter_gain (args : Array Value) (w : World) : (callFunc 129 args).run Try.prog w = .ok (.enter 129 args) w := by kernel_rfl
set_option maxHeartbeats 2000000 in
theorem gainK_any (w : World) (b1 n c i k g o : Nat) (xi xk : Int) (hi : i < n) (hk : k < n)
    (h1 : w.cell? ⟨b1, 0, none⟩ = some (.slice (some ⟨g, o, none⟩) n c))
    (hci : w.cell? ⟨g, o + i, none⟩ = some (.int .i64 xi)) (hck : w.cell? ⟨g, o + k, none⟩ = some (.int .i64 xk)) :
    Calls Try.prog 129 #[.int .i64 i, .int .i64 k, .pointer (some ⟨b1, 0, none⟩)] w fun e w' => e = .returned (.int .i64 (cmpF xi xk)) ∧ ∃ q, w' = w.drewN q := by
  have L := Lib.hid (fun v => compare_any xi xk v)
  go_enter Try.func129, Try.ntmps129
  go_wp2_with fail
  go_quiet ((go_at_call 130; exact qs1 (L.out _)))
  go_wp2_with fail
  go_ret
  exact ⟨rfl, _, rfl⟩
set_option maxRecDepth 10000 in
set_option maxHeartbeats 8000000 in
theorem gains_any (w : World) (B : Nat) (a : Option Addr) (c : Nat) (cs : List Int) (est : Int) (h' : Rd w B a (ints cs)) (hB : B ≤ w.heap.size) (hl1 : 1 ≤ cs.length) (hl2 : cs.length ≤ 8)
    (hc0 : ∀ x ∈ cs, 0 ≤ x ∧ x % 840 = 0) (hc1 : ∀ x ∈ cs, x ≤ 1680000) (h0 : 0 ≤ est) (h1 : est ≤ 13440000) (hd : est % 840 = 0) :
    Calls Try.prog 81 #[.slice a cs.length c, .int .i64 est] w fun e w' => ∃ a' c', e = .returned (.slice a' cs.length c') ∧ OwnI 2 w' w.heap.size w'.heap.size a' c' (gainF cs est) ∧ Below w.heap.size w w' := by
  have h := h'.mono hB
  have Hle := Lib.hid (fun t ht => gainS_le hl2 hc0 h0 hd t ht)
  have Hc : Hid (∀ x ∈ cs, 0 ≤ x ∧ x ≤ 1680000) := fun x hx => ⟨(hc0 x hx).1, hc1 x hx⟩
  have Hln := Lib.hid (gainS_len cs (ascF cs) est)
  have HF : Hid (gainF cs est = (gainS cs (ascF cs) est cs.length).1) := rfl
  clear h' hc0 hc1 hB hd
  go_enter Try.func81, Try.ntmps81
  go_wp2_with fail
  refine (counting_any _ cs.length (by omega)).mono ?_
  rintro e w3 ⟨ac, cc, rfl, hown, hb3⟩
  obtain ⟨g, tl, rfl, hg, hbg, hcc, hccm, hcl⟩ := own_open hown (by omega)
  rw [World.size_alloc] at hg
  have y1 := (Blk.new w [Value.slice a cs.length c] 22).same hb3
  have hw3 := below_then (bl1 w _) hb3
  clear hown hb3
  have LS := sortStable_any 129 #[.pointer (some ⟨w.heap.size, 0, none⟩)] (fun x y => cmpF (cs.getD x.toNat 0) (cs.getD y.toNat 0)) enter_gain w3 g cc (upto cs.length) tl hbg (by rw [upto_length]; omega) (fun x y => cmpF_bd _ _) (by
    intro w' x y hgr hx hy
    obtain ⟨x0, x1⟩ := mem_upto.1 hx
    obtain ⟨y0, y1'⟩ := mem_upto.1 hy
    obtain ⟨i, rfl⟩ : ∃ i : Nat, x = i := ⟨x.toNat, by omega⟩
    obtain ⟨k, rfl⟩ : ∃ k : Nat, y = k := ⟨y.toNat, by omega⟩
    rw [Int.toNat_natCast, Int.toNat_natCast]
    have hrd := (h.below hw3 (Nat.le_refl _)).grown hgr (by omega) hw3.size
    obtain ⟨b, o, rfl, hbb, hcell⟩ := hrd.at (k := i) (by omega)
    exact gainK_any w' w.heap.size cs.length c i k b o (cs.getD i 0) (cs.getD k 0) (by omega) (by omega) ((y1.grown hgr (by intro e; injection e; omega)).cell 0) (hcell i (by omega)) (hcell k (by omega)))
  rw [upto_length, show (fun x y : Int => decide (cmpF (cs.getD x.toNat 0) (cs.getD y.toNat 0) < 0)) = ascLt cs from by funext x y; rw [cmpF_neg]; rfl, show stab (ascLt cs) (upto cs.length) = ascF cs from rfl] at LS
  have HLS := Lib.hid LS
  clear LS
  go_wp2_with fail
  refine HLS.out.mono ?_
  rintro e w4 ⟨rfl, hb4, hg4⟩
  have z1 := y1.grown hg4 (by intro e; injection e; omega)
  have hw4 := hw3.grown hg4 hw3.size (fun k hk => by injection hk with hk; omega)
  have d1 := z1.cell 0
  simp only [List.getElem?_cons_zero] at d1
  clear HLS hbg hg4 hw3 y1
  go_wp2_with (at_make; refine wpList_make_blk _ rfl _ _ 22 rfl 2 (.int .i64 0) 8 Try.underlying22 info_i64p rfl _ _ cs.length rfl rfl (by omega) (by unfold maxLen; omega) ?_)
  intro w5 hb5 hw5 hs5
  rw [ints_replicate] at hb5
  have e1 := z1.same hw5
  have e4 := hb4.same hw5
  have hw5' := hw4.trans (hw5.mono hw4.size)
  have hgl := hb4.lt
  have hsz4 := hw4.size
  have zl := z1.lt
  clear z1 hb4 hw4 hw5 d1
  go_wp2_with fail
  go_loopw [20, 1] (fun i ev wr => ∃ t : Nat, t ≤ cs.length ∧ i = .int .i64 t ∧ ev = .int .i64 (gainS cs (ascF cs) est t).2 ∧ Blk wr w4.heap.size (ints (gainS cs (ascF cs) est t).1) 2 ∧ Blk wr g (ints (ascF cs) ++ tl) 2 ∧ Blk wr w.heap.size [Value.slice a cs.length c] 22 ∧ Below w.heap.size w wr) (fun i _ _ => cs.length - (intOf i).toNat)
  case atStart => exact ⟨0, Nat.zero_le _, rfl, rfl, hb5, e4, e1, hw5'⟩
  case round =>
    clear hb5 e4 e1 hw5'
    obtain ⟨t, ht, rfl, rfl, hb, hbo, hbx, hw⟩ := hrel
    have d1 := hbx.cell 0
    simp only [List.getElem?_cons_zero] at d1
    by_cases hlt : t < cs.length
    · obtain ⟨q, hq, hqn⟩ := ascF_get (cs := cs) hlt
      have e0 := cell_app hbo (j := t) (by rw [ascF_length]; exact hlt)
      rw [getD_of_get hq] at e0
      obtain ⟨b1, o1, hax, hbb, hcell⟩ := (h.below hw (Nat.le_refl _)).at (k := q) hqn
      subst hax
      have hcq := hcell q hqn
      have hxq := Hc.out _ (List.mem_of_getElem? (get_of_lt hqn))
      have hS1 : Hid ((gainS cs (ascF cs) est (t + 1)).1 = (gainS cs (ascF cs) est t).1.set q (min (cs.getD q 0) ((gainS cs (ascF cs) est t).2 / ((cs.length : Int) - t)))) := by
        show (gainS cs (ascF cs) est t).1.set ((ascF cs).getD t 0).toNat _ = _
        rw [getD_of_get hq, Int.toNat_natCast, ascF_length]
      have hS2 : Hid ((gainS cs (ascF cs) est (t + 1)).2 = (gainS cs (ascF cs) est t).2 - min (cs.getD q 0) ((gainS cs (ascF cs) est t).2 / ((cs.length : Int) - t))) := by
        show (gainS cs (ascF cs) est t).2 - min (cs.getD ((ascF cs).getD t 0).toNat 0) _ = _
        rw [getD_of_get hq, Int.toNat_natCast, ascF_length]
      obtain ⟨p0, p1⟩ := Hle.out t ht
      have hlk := Hln.out t
      generalize (gainS cs (ascF cs) est t).2 = ev at *
      generalize (gainS cs (ascF cs) est t).1 = ot at *
      generalize cs.getD q 0 = xq at *
      obtain ⟨x0, x1⟩ := hxq
      have hdv0 : 0 ≤ ev / ((cs.length : Int) - t) := Int.ediv_nonneg p0 (by omega)
      have hdv1 : ev / ((cs.length : Int) - t) ≤ ev := Int.ediv_le_self _ p0
      obtain ⟨mn, hmn⟩ : ∃ mn, mn = min xq (ev / ((cs.length : Int) - t)) := ⟨_, rfl⟩
      rw [← hmn] at hS1 hS2
      have hm1 : mn ≤ ev ∧ 0 ≤ mn := by omega
      have Hmn := Lib.hid hmn
      have hfr := hb.free q
      obtain ⟨old, hold⟩ := hb.has (j := q) (by rw [ints_length, hlk]; exact hqn)
      have hset := hb.setI q mn
      rw [← hS1.out] at hset
      have hbel := below_sto hw (g := w4.heap.size) (by omega) q (.int .i64 mn)
      have hcell2 := hset.cell q
      rw [hS1.out] at hcell2
      have e3 : (ints (ot.set q mn))[q]? = some (.int .i64 mn) := by
        rw [ints_set, List.getElem?_set_self (by rw [ints_length, hlk]; exact hqn)]
      rw [e3] at hcell2
      have hbo2 := hbo.oth (g := w4.heap.size) (by omega) q (.int .i64 mn)
      have hbx2 := hbx.oth (g := w4.heap.size) (by omega) q (.int .i64 mn)
      obtain ⟨hm11, hm12⟩ := hm1
      clear hb hbo hbx hw h hq hcell hlk e3 hmn
      by_cases hle : xq ≤ ev / ((cs.length : Int) - t)
      · have : mn = xq := by have := Hmn.out; omega
        subst this
        go_wp2_with fail
        go_region
        go_wp2_with fail
        go_roundw
        case rel => exact ⟨t + 1, by omega, by go_num, by rw [hS2.out] <;> simp, hset, hbo2, hbx2, by first | exact hbel | exact below_drew' hbel⟩
        case measure => simp [intOf]; omega
      · have : mn = ev / ((cs.length : Int) - t) := by have := Hmn.out; omega
        have HV := Lib.hid this
        clear this
        go_wp2_with fail
        go_region
        rw [← HV.out]
        go_wp2_with fail
        go_roundw
        case rel => exact ⟨t + 1, by omega, by go_num, by rw [hS2.out] <;> simp, hset, hbo2, hbx2, by first | exact hbel | exact below_drew' hbel⟩
        case measure => simp [intOf]; omega
    · have : t = cs.length := by omega
      subst this
      rw [← HF.out] at hb
      have hfl : (gainF cs est).length = cs.length := Hln.out _
      have hR : OwnI 2 wr w.heap.size wr.heap.size (some ⟨w4.heap.size, 0, none⟩) cs.length (gainF cs est) := by
        have := (OwnI.of_blk hb (by rw [hfl]; omega)).mono (lo' := w.heap.size) hsz4 (hi' := wr.heap.size) (by have := hb.lt; omega)
        rwa [hfl] at this
      have HR := Lib.hid hR
      clear hR hb hfl
      go_wp2_with fail
      go_ret
      exact ⟨_, _, rfl, HR.out, hw⟩
end Go.Proofs.Ythbclfaeplmjgaa
