/-
  Seats by remainders: the walks.
-/
import Derived.Test.YthofpfnccgfohaaRest
import Derived.Test.YthofpfnccgfohaaGrow
namespace Go.Proofs.Ythofpfnccgfohaa
set_option linter.unusedVariables false
set_option linter.unusedSimpArgs false
open Go.RowKit

theorem take_map_succ (f : Int → Int) {xs : List Int} {k : Nat} {x : Int} (h : xs[k]? = some x) : (xs.take (k + 1)).map f = (xs.take k).map f ++ [f x] := by
  rw [List.take_add_one, h]; simp
theorem quo_bd {s S x : Int} (h0 : 0 ≤ x) (h1 : x ≤ 1000000) (s0 : 0 ≤ s) (s1 : s ≤ 101) (hS : 0 < S) : 0 ≤ x * s ∧ x * s ≤ 101000000 ∧ 0 ≤ quoF s S x ∧ quoF s S x ≤ 101000000 := by
  obtain ⟨q1, q2, q3, q4⟩ := quo_rem h0 s0 hS
  have hxs : x * s ≤ 1000000 * 101 := Int.mul_le_mul h1 s1 s0 (by omega)
  have : 1 * quoF s S x ≤ S * quoF s S x := Int.mul_le_mul_of_nonneg_right (by omega) q2
  have := Int.mul_nonneg h0 s0
  omega
theorem quo_sum_bd {s S : Int} (s0 : 0 ≤ s) (s1 : s ≤ 101) (hS : 0 < S) : ∀ xs : List Int, (∀ x ∈ xs, 0 ≤ x ∧ x ≤ 1000000) → 0 ≤ (xs.map (quoF s S)).sum ∧ (xs.map (quoF s S)).sum ≤ 101000000 * xs.length
  | [], _ => by simp
  | x :: xs, h => by
    have hx := h x (by simp)
    have := quo_bd hx.1 hx.2 s0 s1 hS
    have := quo_sum_bd s0 s1 hS xs (fun y hy => h y (by simp [hy]))
    simp only [List.map_cons, List.sum_cons, List.length_cons]
    omega

def cmpF (a b : Int) : Int := if a < b then -1 else if b < a then 1 else 0
theorem cmpF_bd (a b : Int) : -1 ≤ cmpF a b ∧ cmpF a b ≤ 1 := by unfold cmpF; split <;> (try split) <;> omega
theorem cmpF_neg (a b : Int) : decide (cmpF a b < 0) = decide (a < b) := by
  unfold cmpF
  by_cases h : a < b
  · simp [h]
  · by_cases h2 : b < a <;> simp [h, h2]
theorem compare_any (a b : Int) (w : World) : Calls Try.prog 50 #[.int .i64 a, .int .i64 b] w fun e w' => e = .returned (.int .i64 (cmpF a b)) ∧ w = w' := by
  by_cases h : a < b
  · have H : Hid (cmpF a b = -1) := by simp [Hid, cmpF, h]
    go_enter Try.func50, Try.ntmps50
    go_wp2
    go_ret
    exact ⟨ret_int H.out.symm, rfl⟩
  · by_cases h2 : b < a
    · have H : Hid (cmpF a b = 1) := by simp [Hid, cmpF, h, h2]
      go_enter Try.func50, Try.ntmps50
      go_wp2
      go_ret
      exact ⟨ret_int H.out.symm, rfl⟩
    · have H : Hid (cmpF a b = 0) := by simp [Hid, cmpF, h, h2]
      go_enter Try.func50, Try.ntmps50
      go_wp2
      go_ret
      exact ⟨ret_int H.out.symm, rfl⟩
theorem enter_rest (args : Array Value) (w : World) : (callFunc 49 args).run Try.prog w = .ok (.enter 49 args) w := by kernel_rfl
set_option maxHeartbeats 2000000 in
theorem restK_any (w : World) (b1 b2 b3 n c i k g o : Nat) (s S xi xk : Int) (hi : i < n) (hk : k < n) (hS : 0 < S) (hS2 : S ≤ 12000000) (s0 : 0 ≤ s) (s1 : s ≤ 101) (i0 : 0 ≤ xi) (i1 : xi ≤ 1000000) (k0 : 0 ≤ xk) (k1 : xk ≤ 1000000)
    (h1 : w.cell? ⟨b1, 0, none⟩ = some (.slice (some ⟨g, o, none⟩) n c)) (h2 : w.cell? ⟨b2, 0, none⟩ = some (.int .i64 s)) (h3 : w.cell? ⟨b3, 0, none⟩ = some (.int .i64 S))
    (hci : w.cell? ⟨g, o + i, none⟩ = some (.int .i64 xi)) (hck : w.cell? ⟨g, o + k, none⟩ = some (.int .i64 xk)) :
    Calls Try.prog 49 #[.int .i64 i, .int .i64 k, .pointer (some ⟨b1, 0, none⟩), .pointer (some ⟨b2, 0, none⟩), .pointer (some ⟨b3, 0, none⟩)] w fun e w' => e = .returned (.int .i64 (cmpF (remF s S xk) (remF s S xi))) ∧ ∃ q, w' = w.drewN q := by
  have p1 := quo_bd i0 i1 s0 s1 hS
  have p2 := quo_bd k0 k1 s0 s1 hS
  have L := Lib.hid (fun v => compare_any (remF s S xk) (remF s S xi) v)
  obtain ⟨p11, p12, _, _⟩ := p1
  obtain ⟨p21, p22, _, _⟩ := p2
  unfold remF at *
  go_enter Try.func49, Try.ntmps49
  go_wp2_with fail
  go_quiet ((go_at_call 50; exact qs1 (L.out _)))
  go_wp2_with fail
  go_ret
  exact ⟨rfl, _, rfl⟩
set_option maxRecDepth 10000 in
set_option maxHeartbeats 8000000 in
theorem restSeats_any (w : World) (a : Option Addr) (c : Nat) (xs : List Int) (s : Int) (h : Rd w w.heap.size a (ints xs)) (hv : votesB xs = true) (s0 : 0 ≤ s) (s1 : s ≤ 101) :
    Calls Try.prog 34 #[.slice a xs.length c, .int .i64 s] w fun e w' => ∃ a' c', e = .returned (.slice a' xs.length c') ∧ OwnI 2 w' w.heap.size w'.heap.size a' c' (restF xs s) ∧ Below w.heap.size w w' := by
  obtain ⟨⟨hl1, hl2⟩, hb, hpos⟩ := votesB_iff.1 hv
  have hws := wsum_eq xs 1000000 (by omega) (fun x hx => by have := hb x hx; omega) (by omega)
  have hL := left_bd (s := s) hl1 (fun x hx => (hb x hx).1) s0 hpos
  have hsum := Lib.hid (sumOf_any ((w.alloc (.cells #[.slice a xs.length c] 26)).alloc (.cells #[.int .i64 s] 2)) a c xs (h.to (bl2 w _ _)) (by omega))
  rw [hws.1] at hsum
  have hqs : Hid (∀ k, k ≤ xs.length → 0 ≤ ((xs.map (quoF s xs.sum)).take k).sum ∧ ((xs.map (quoF s xs.sum)).take k).sum ≤ 101000000 * k) := fun k hk => by
    have := quo_sum_bd s0 s1 hpos (xs.take k) (fun x hx => hb x (List.mem_of_mem_take hx))
    rw [List.map_take, List.length_take, Nat.min_eq_left hk] at this
    exact this
  have hrest : Hid (restF xs s = moreF (xs.map (quoF s xs.sum)) ((ordF (xs.map (remF s xs.sum))).take (leftF xs s).toNat)) := rfl
  have hleft : Hid (leftF xs s = s - (xs.map (quoF s xs.sum)).sum) := rfl
  have hquo : Hid (∀ j, 0 ≤ (xs.map (quoF s xs.sum)).getD j 0 ∧ (xs.map (quoF s xs.sum)).getD j 0 ≤ 101000000) := by
    intro j
    by_cases hj : j < xs.length
    · rw [map_getD _ hj]
      have : xs.getD j 0 ∈ xs := List.mem_of_getElem? (get_of_lt hj)
      have := quo_bd (hb _ this).1 (hb _ this).2 s0 s1 hpos
      exact ⟨this.2.2.1, this.2.2.2⟩
    · simp [List.getD, List.getElem?_eq_none (show (xs.map (quoF s xs.sum)).length ≤ j by simp; omega)]
  have hqm : Hid (∀ y ∈ xs.map (quoF s xs.sum), 0 ≤ y ∧ y ≤ 101000000) := by
    intro y hy
    obtain ⟨x, hx, rfl⟩ := List.mem_map.1 hy
    have := quo_bd (hb x hx).1 (hb x hx).2 s0 s1 hpos
    exact ⟨this.2.2.1, this.2.2.2⟩
  have Hb := Lib.hid hb
  obtain ⟨w1', w2', w3'⟩ := hws
  have hS12 : xs.sum ≤ 12000000 := by omega
  clear hv hb w1' w2' w3'
  rw [← hleft.out] at hL
  generalize xs.sum = S at *
  have Hqx : Hid (∀ (k : Nat) (x : Int), xs[k]? = some x → (xs.map (quoF s S)).take (k + 1) = (xs.map (quoF s S)).take k ++ [quoF s S x]) := fun k x hx => by rw [List.take_add_one, List.getElem?_map, hx]; rfl
  have Hkx : Hid (∀ k : Nat, k < xs.length → (xs.map (remF s S)).getD k 0 = remF s S (xs.getD k 0)) := fun k hk => map_getD _ hk
  have Hkl : Hid ((xs.map (remF s S)).length = xs.length) := by simp [Hid]
  have Hql : Hid ((xs.map (quoF s S)).length = xs.length) := by simp [Hid]
  generalize xs.map (quoF s S) = qs at *
  generalize xs.map (remF s S) = ks at *
  go_enter Try.func34, Try.ntmps34
  go_wp2_with fail
  refine hsum.out.mono ?_
  rintro e w1 ⟨rfl, rfl⟩
  go_wp2_with fail
  have ho1 : ((((w.alloc (Obj.cells #[Value.slice a xs.length c] 26)).alloc (Obj.cells #[Value.int IntKind.i64 s] 2)).alloc (Obj.cells #[Value.int IntKind.i64 S] 2)).alloc (Obj.cells #[] 2)).ownsRow (w.heap.size + 1 + 1 + 1) 2 1 (.slice (some ⟨w.heap.size + 1 + 1 + 1, 0, none⟩) 0 0) 0 (ints (qs.take 0)) := by
    have := own_empty (((w.alloc (Obj.cells #[Value.slice a xs.length c] 26)).alloc (Obj.cells #[Value.int IntKind.i64 s] 2)).alloc (Obj.cells #[Value.int IntKind.i64 S] 2)) 2
    simpa using this
  have x1 := (((Blk.new w [Value.slice a xs.length c] 26).alloc (Obj.cells #[Value.int IntKind.i64 s] 2)).alloc (Obj.cells #[Value.int IntKind.i64 S] 2)).alloc (Obj.cells #[] 2)
  have x2 := ((Blk.new (w.alloc (Obj.cells #[Value.slice a xs.length c] 26)) [Value.int IntKind.i64 s] 2).alloc (Obj.cells #[Value.int IntKind.i64 S] 2)).alloc (Obj.cells #[] 2)
  have x3 := (Blk.new ((w.alloc (Obj.cells #[Value.slice a xs.length c] 26)).alloc (Obj.cells #[Value.int IntKind.i64 s] 2)) [Value.int IntKind.i64 S] 2).alloc (Obj.cells #[] 2)
  simp only [World.size_alloc] at x2 x3
  have hbel := (bl3 w (Obj.cells #[Value.slice a xs.length c] 26) (Obj.cells #[Value.int IntKind.i64 s] 2) (Obj.cells #[Value.int IntKind.i64 S] 2)).alloc (by simp; omega) (Obj.cells #[] 2)
  go_loopw [17, 6] (fun i v wr => ∃ (k : Nat) (u : Value), k ≤ xs.length ∧ i = .int .i64 k ∧ v = u ∧ Hid (wr.ownsRow (w.heap.size + 1 + 1 + 1) 2 1 u k (ints (qs.take k))) ∧ Blk wr w.heap.size [Value.slice a xs.length c] 26 ∧ Blk wr (w.heap.size + 1) [Value.int IntKind.i64 s] 2 ∧ Blk wr (w.heap.size + 1 + 1) [Value.int IntKind.i64 S] 2 ∧ Below w.heap.size w wr) (fun i _ _ => xs.length - (intOf i).toNat)
  case atStart => exact ⟨0, _, Nat.zero_le _, rfl, rfl, ho1, x1, x2, x3, hbel⟩
  case round =>
    clear ho1 x1 x2 x3 hbel
    obtain ⟨k, u, hk, rfl, rfl, ho, x1, x2, x3, hw⟩ := hrel
    have l3 := x3.lt
    by_cases hlt : k < xs.length
    · obtain ⟨b, o, x, rfl, hbb, hck, hx⟩ := (h.below hw (Nat.le_refl _)).get hlt
      have hxb := Hb.out x (List.mem_of_getElem? hx.out)
      obtain ⟨q1, q2, q3, q4⟩ := quo_bd hxb.1 hxb.2 s0 s1 hpos
      have hn := Lib.hid (Hqx.out k x hx.out)
      have ho1 := ho.out
      have d2 := x2.cell 0
      have d3 := x3.cell 0
      simp only [List.getElem?_cons_zero] at d2 d3
      clear h hxb q3 q4
      go_wp2_with (at_builtin; refine wpList_append_blk _ rfl _ _ 26 rfl (w.heap.size + 1 + 1 + 1) 2 (.int .i64 0) 8 Try.underlying26 info_i64p rfl _ k _ rfl ho1 (.int .i64 (quoF s S x)) rfl rfl (by omega) (by omega) (by omega) ?_)
      intro v1' w1 o1 g1 _
      have hw1 := below_append hw ho1 g1 (by omega) hw.size
      have y1 := x1.grown g1 (own_block_ne ho1 (by omega))
      have y2 := x2.grown g1 (own_block_ne ho1 (by omega))
      have y3 := x3.grown g1 (own_block_ne ho1 (by omega))
      rw [show ints (qs.take k) ++ [Value.int .i64 (quoF s S x)] = ints (qs.take (k + 1)) from by rw [hn.out, ints_append]; rfl] at o1
      have HO := Lib.hid o1
      clear ho1 o1 g1 ho hw hck x1 x2 x3 d2 d3
      go_wp2_with fail
      go_roundw
      case rel => exact ⟨k + 1, v1', by omega, by go_num, rfl, HO, y1, y2, y3, hw1⟩
      case measure => simp [intOf]; omega
    · have : k = xs.length := by omega
      subst this
      rw [show qs.take xs.length = qs from List.take_of_length_le (by rw [Hql.out]; exact Nat.le_refl _)] at ho
      obtain ⟨a1, c1, rfl, hc1, _⟩ := own_shape ho.out
      have d1 := x1.cell 0
      simp only [List.getElem?_cons_zero] at d1
      have hsz := hw.size
      go_wp2_with fail
      refine (counting_any _ xs.length (by omega)).mono ?_
      rintro e w3 ⟨ac, cc, rfl, hown, hb3⟩
      obtain ⟨g, tl, rfl, hg, hbg, hcc, hccm, hcl⟩ := own_open hown (by omega)
      have y1 := x1.same hb3
      have y2 := x2.same hb3
      have y3 := x3.same hb3
      have ho3 := own_below ho.out hb3
      have hw3 := hw.trans (hb3.mono hsz)
      have hlo := ho.out.lt
      clear x1 x2 x3 d1 hown
      have LS := sortStable_any 49 #[.pointer (some ⟨w.heap.size, 0, none⟩), .pointer (some ⟨w.heap.size + 1, 0, none⟩), .pointer (some ⟨w.heap.size + 1 + 1, 0, none⟩)] (fun x y => cmpF (ks.getD y.toNat 0) (ks.getD x.toNat 0)) enter_rest w3 g cc (upto xs.length) tl hbg (by rw [upto_length]; omega) (fun x y => cmpF_bd _ _) (by
        intro w' x y hgr hx hy
        obtain ⟨x0, x1⟩ := mem_upto.1 hx
        obtain ⟨y0, y1'⟩ := mem_upto.1 hy
        obtain ⟨i, rfl⟩ : ∃ i : Nat, x = i := ⟨x.toNat, by omega⟩
        obtain ⟨k, rfl⟩ : ∃ k : Nat, y = k := ⟨y.toNat, by omega⟩
        rw [Int.toNat_natCast, Int.toNat_natCast, Hkx.out i (by omega), Hkx.out k (by omega)]
        have hrd := (h.below hw3 (Nat.le_refl _)).grown hgr (by omega) hw3.size
        obtain ⟨b, o, rfl, hbb, hcell⟩ := hrd.at (k := i) (by omega)
        have hi' : xs.getD i 0 ∈ xs := List.mem_of_getElem? (get_of_lt (by omega))
        have hk' : xs.getD k 0 ∈ xs := List.mem_of_getElem? (get_of_lt (by omega))
        exact restK_any w' w.heap.size (w.heap.size + 1) (w.heap.size + 1 + 1) xs.length c i k b o s S (xs.getD i 0) (xs.getD k 0) (by omega) (by omega) hpos hS12 s0 s1 (Hb.out _ hi').1 (Hb.out _ hi').2 (Hb.out _ hk').1 (Hb.out _ hk').2
          ((y1.grown hgr (by intro e; injection e; omega)).cell 0) ((y2.grown hgr (by intro e; injection e; omega)).cell 0) ((y3.grown hgr (by intro e; injection e; omega)).cell 0) (hcell i (by omega)) (hcell k (by omega)))
      rw [upto_length, show (fun x y : Int => decide (cmpF (ks.getD y.toNat 0) (ks.getD x.toNat 0) < 0)) = keyLt ks from by funext x y; rw [cmpF_neg]; rfl, show stab (keyLt ks) (upto xs.length) = ordF ks from by rw [ordF, Hkl.out]] at LS
      have HLS := Lib.hid LS
      clear LS h
      have hgl := hbg.lt
      go_wp2_with fail
      refine HLS.out.mono ?_
      rintro e w4 ⟨rfl, hb4, hg4⟩
      have z2 := y2.grown hg4 (by intro e; injection e; omega)
      have ho4 : w4.ownsRow (w.heap.size + 1 + 1 + 1) 2 1 (.slice a1 xs.length c1) xs.length (ints qs) := ho3.kept hg4 (by
        cases hv : (Value.slice a1 xs.length c1).ownBlock with
        | none => exact .inl rfl
        | some q => refine .inr fun e => ?_
                    injection e with e
                    have := (hlo q hv).2
                    omega)
      have hw4 := hw3.grown hg4 hw3.size (fun k hk => by injection hk with hk; omega)
      have d2 := z2.cell 0
      simp only [List.getElem?_cons_zero] at d2
      have hqsum := wsum_eq qs 101000000 (by omega) (fun y hy => by have := hqm.out y hy; omega) (by rw [Hql.out]; omega)
      have Lsum := Lib.hid (fun v => sumOf_any (w4.drewN v) a1 c1 qs ((rd_of_own ho4 (Nat.le_refl _)).to (drewN_below w4 v)) (by rw [Hql.out]; omega))
      rw [hqsum.1, Hql.out] at Lsum
      obtain ⟨_, hq1, hq2⟩ := hqsum
      have hq0 := (hqs.out xs.length (Nat.le_refl _))
      rw [show qs.take xs.length = qs from List.take_of_length_le (by rw [Hql.out]; exact Nat.le_refl _)] at hq0
      obtain ⟨m, hm⟩ : ∃ m : Nat, leftF xs s = m := ⟨(leftF xs s).toNat, by omega⟩
      rw [hm, Int.toNat_natCast] at hrest
      rw [hm] at hL
      have hsm : s - qs.sum = (m : Int) := by rw [← hleft.out, hm]
      obtain ⟨g1, t1, rfl, hg1, hb1, hc1', hm1, hl1'⟩ := own_open ho4 (by omega)
      have hgne : g1 ≠ g := by have := (hlo g1 rfl).2; omega
      rw [Hql.out] at hq2
      generalize qs.sum = sg at *
      clear hq1 hqs ho4 ho3 ho HLS hlo hleft y1 y2 y3 hbg hgl hg4 z2 hm hb3 hcl hw hw3 hsz
      obtain ⟨hq01, hq02⟩ := hq0
      obtain ⟨_, hmn⟩ := hL
      go_wp2_with fail
      go_quiet ((go_at_call 39; exact qs1 (Lsum.out _)))
      go_wp2_with fail
      go_loopw [43] (fun i wr => ∃ t : Nat, t ≤ m ∧ i = .int .i64 t ∧ Blk wr g1 (ints (moreF qs ((ordF ks).take t)) ++ t1) 2 ∧ Blk wr g (ints (ordF ks) ++ tl) 2 ∧ Below w.heap.size w wr) (fun i _ => m - (intOf i).toNat)
      case atStart => exact ⟨0, Nat.zero_le _, rfl, by simpa [moreF] using hb1.drewN nq, hb4.drewN nq, below_drewN hw4 nq⟩
      case round =>
        clear hb1 hb4 hw4 d2
        obtain ⟨t, ht, rfl, hb1, hb4, hw⟩ := hrel
        by_cases hlt2 : t < m
        · obtain ⟨q, hq, hqn⟩ := ordF_get (ks := ks) (t := t) (by rw [Hkl.out]; omega)
          rw [Hkl.out] at hqn
          have HT : Hid ((ordF ks).take (t + 1) = (ordF ks).take t ++ [(q : Int)]) := by
            show _ = _
            rw [List.take_add_one, hq]; rfl
          have hmb := moreF_bd ((ordF ks).take t) qs 101000000 hquo.out q
          have htl : (((ordF ks).take t).length : Int) ≤ t := by simp; omega
          have HM : Hid (moreF qs ((ordF ks).take (t + 1)) = addAt (moreF qs ((ordF ks).take t)) q 1) := by
            show _ = _
            rw [HT.out, moreF_snoc, Int.toNat_natCast]
          have hml := moreF_length qs ((ordF ks).take t)
          rw [Hql.out] at hml
          have e0 := cell_app hb4 (j := t) (by rw [ordF_length, Hkl.out]; omega)
          rw [getD_of_get hq] at e0
          generalize moreF qs ((ordF ks).take t) = os at *
          have Hml := Lib.hid hml
          clear hml hq
          have e1 := cell_app hb1 (j := q) (by rw [Hml.out]; exact hqn)
          have f1 := hb1.free q
          have s1' := set_app hb1 (j := q) (by rw [Hml.out]; exact hqn) (os.getD q 0 + 1)
          rw [show os.set q (os.getD q 0 + 1) = moreF qs ((ordF ks).take (t + 1)) from HM.out.symm] at s1'
          have s4' := hb4.oth hgne.symm q (.int .i64 (os.getD q 0 + 1))
          have hwn := below_sto hw (g := g1) (by omega) q (.int .i64 (os.getD q 0 + 1))
          clear hb1 hb4 hw
          generalize os.getD q 0 = oq at *
          obtain ⟨hmb0, hmb1⟩ := hmb
          go_wp2_with fail
          go_roundw
          case rel => exact ⟨t + 1, by omega, by go_num, s1', s4', hwn⟩
          case measure => simp [intOf]; omega
        · have : t = m := by omega
          subst this
          rw [← hrest.out] at hb1
          have hcl := own_close (base := w.heap.size) hb1 (by omega) (n := xs.length) (by rw [ints_length, restF_length]) hc1' hm1 (by have := hl1'; simp at this ⊢; rw [restF_length]; rw [Hql.out] at this; exact this)
          have hR : OwnI 2 wr w.heap.size wr.heap.size (some ⟨g1, 0, none⟩) c1 (restF xs s) := by
            refine OwnI.of_own ?_
            rw [restF_length]; exact hcl
          have HRR := Lib.hid hR
          clear hR hcl hb1 hb4
          go_wp2_with fail
          go_ret
          exact ⟨_, _, rfl, HRR.out, hw⟩
end Go.Proofs.Ythofpfnccgfohaa
