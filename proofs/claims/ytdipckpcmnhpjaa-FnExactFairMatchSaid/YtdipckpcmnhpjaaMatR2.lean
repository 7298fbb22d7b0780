/-
  Who has each one on the right, the first pair that blocks, stable matches: the reference's road.
-/
import Derived.Test.YtdipckpcmnhpjaaMatR
namespace Go.Proofs.Ytdipckpcmnhpjaa
set_option linter.unusedVariables false
set_option linter.unusedSimpArgs false
open Go.RowKit

def bkL (m : List Int) (n k : Nat) : List Int := (List.range n).map fun (b : Nat) => indexI (m.take k) b
def backL (m : List Int) (n : Nat) : List Int := (List.range n).map fun (b : Nat) => backF m b
theorem bkL_len (m : List Int) (n k : Nat) : (bkL m n k).length = n := by simp [bkL]
theorem bkL_zero (m : List Int) (n : Nat) : bkL m n 0 = List.replicate n (-1) := by
  apply List.ext_getElem
  · simp [bkL]
  · intro i h1 h2
    simp [bkL, indexI, findI]
theorem bkL_all (m : List Int) (n : Nat) : bkL m n m.length = backL m n := by
  unfold bkL backL backF
  rw [List.take_length]
theorem backL_get {m : List Int} {n b : Nat} (h : b < n) : (backL m n)[b]? = some (backF m b) := by simp [backL, h]
theorem index_take_other {m : List Int} {k : Nat} {v : Int} (hk : k < m.length) (h : m.getD k 0 ≠ v) : indexI (m.take (k + 1)) v = indexI (m.take k) v := by
  have l1 : (m.take (k + 1)).length = k + 1 := by simp; omega
  have l0 : (m.take k).length = k := by simp; omega
  have g1 : ∀ j, j < k + 1 → (m.take (k + 1)).getD j 0 = m.getD j 0 := fun j hj => by simp [List.getD, List.getElem?_take, hj]
  have g0 : ∀ j, j < k → (m.take k).getD j 0 = m.getD j 0 := fun j hj => by simp [List.getD, List.getElem?_take, hj]
  unfold indexI
  rw [l0, l1]
  rcases findI_spec (fun j => v == (m.take k).getD j 0) k with ⟨j, hj, hp, hb, e⟩ | ⟨hb, e⟩
  · rw [e]
    refine findI_here (by omega) ?_ (fun q hq => ?_)
    · rw [g1 j (by omega)]; rw [g0 j hj] at hp; exact hp
    · have := hb q hq; rw [g0 q (by omega)] at this; rw [g1 q (by omega)]; exact this
  · rw [e]
    refine findI_none fun q hq => ?_
    rw [g1 q hq]
    by_cases e2 : q = k
    · subst e2; rw [beq_eq_false_iff_ne]; exact fun e => h e.symm
    · have := hb q (by omega); rw [g0 q (by omega)] at this; exact this
theorem bkL_skip {m : List Int} {n k : Nat} (hk : k < m.length) (h : m.getD k 0 < 0) : bkL m n (k + 1) = bkL m n k :=
  List.map_congr_left fun b _ => index_take_other hk (by omega)
theorem bkL_set {w : Wi} {m : List Int} (hm : Mat w m) {n k x : Nat} (hk : k < m.length) (h : m.getD k 0 = x) : (bkL m n k).set x (k : Int) = bkL m n (k + 1) := by
  apply List.ext_getElem
  · simp [bkL]
  · intro b h1 h2
    have hb : b < n := by simpa [bkL] using h2
    have l1 : (m.take (k + 1)).length = k + 1 := by simp; omega
    rw [List.getElem_set]
    split
    case isTrue e =>
      subst e
      simp only [bkL, List.getElem_map, List.getElem_range]
      unfold indexI
      rw [l1]
      refine (findI_here (by omega) ?_ (fun q hq => ?_)).symm
      · have : (m.take (k + 1)).getD k 0 = m.getD k 0 := by simp [List.getD, List.getElem?_take]
        rw [this, h]; simp
      · have : (m.take (k + 1)).getD q 0 = m.getD q 0 := by simp [List.getD, List.getElem?_take, show q < k + 1 by omega]
        rw [this, beq_eq_false_iff_ne]
        intro e2
        have := hm.inj q k (by omega) hk (by omega) (by omega)
        omega
    case isFalse e =>
      simp only [bkL, List.getElem_map, List.getElem_range]
      exact (index_take_other hk (by omega)).symm
set_option maxRecDepth 10000 in
set_option maxHeartbeats 4000000 in
theorem l05Back_any (w : World) (W : Wi) (a : Option Addr) (c : Nat) (m : List Int) (g : Rd w w.heap.size a (ints m)) (hm : Mat W m) (h1 : 1 ≤ m.length) (h8 : m.length ≤ 8) :
    Calls Try.prog 104 #[.slice a m.length c] w fun e w' => ∃ a' c', e = .returned (.slice a' m.length c') ∧ OwnI 2 w' w.heap.size w'.heap.size a' c' (backL m m.length) ∧ Below w.heap.size w w' := by
  obtain ⟨n, hn⟩ : ∃ n, n = m.length := ⟨_, rfl⟩
  have G := Lib.hid g
  have HV : Hid (∀ (k : Nat) (x : Int), m[k]? = some x → x < 0 ∨ ∃ y : Nat, x = y ∧ y < n) := fun k x hx => by
    have hk := (List.getElem?_eq_some_iff.1 hx).1
    rw [← getD_of_get hx]
    rcases hm.val k hk with h | ⟨b, h, hb, _⟩
    · exact .inl (by omega)
    · exact .inr ⟨b, h, by rw [hn, hm.len]; exact hb⟩
  have HZ := Lib.hid (bkL_zero m n)
  have HS : Hid (∀ (k : Nat) (x : Int), k < n → m[k]? = some x → x < 0 → bkL m n (k + 1) = bkL m n k) := fun k x hk hx h0 => bkL_skip (by omega) (by rw [getD_of_get hx]; exact h0)
  have HT : Hid (∀ (k y : Nat), k < n → m[k]? = some (y : Int) → (bkL m n k).set y (k : Int) = bkL m n (k + 1)) := fun k y hk hx => bkL_set hm (by omega) (getD_of_get hx)
  have HE : Hid (bkL m n n = backL m n) := by rw [hn]; exact bkL_all m _
  have HL : Hid (∀ k, (bkL m n k).length = n) := fun k => bkL_len m n k
  have HN := Lib.hid hn
  rw [← hn] at h1 h8 ⊢
  clear g hm hn
  go_enter Try.func104, Try.ntmps104
  go_wp2_with fail
  go_loopw [8, 3] (fun iv v wr => ∃ k : Nat, k ≤ n ∧ iv = .int .i64 k ∧ Hid (wr.ownsRow w.heap.size 2 1 v k (ints (List.replicate k (-1)))) ∧ Below w.heap.size w wr) (fun iv _ _ => n - (intOf iv).toNat)
  case atStart => exact ⟨0, Nat.zero_le _, rfl, own_empty w _, bl1 w _⟩
  case round =>
    obtain ⟨k, hk, rfl, hown, hw⟩ := hrel
    by_cases hlt : k < n
    · go_wp2_with (at_builtin; refine wpList_append_one _ rfl _ _ 25 rfl w.heap.size 2 (.int .i64 0) 8 Try.underlying25 info_i64p rfl _ k _ rfl hown.out (.int .i64 (-1)) rfl rfl (by omega) (by omega) hw.size ?_)
      intro v' w1 ho hgr
      have hb := below_append hw hown.out hgr (Nat.le_refl _) hw.size
      have HO : Hid (w1.ownsRow w.heap.size 2 1 v' (k + 1) (ints (List.replicate (k + 1) (-1)))) := by
        have : ints (List.replicate k (-1)) ++ [Value.int .i64 (-1)] = ints (List.replicate (k + 1) (-1)) := by rw [List.replicate_succ', ints_append]; rfl
        rw [← this]; exact ho
      clear hown hw ho hgr
      go_wp2_with fail
      go_roundw
      case rel => exact ⟨k + 1, by omega, by go_num, HO, hb⟩
      case measure => simp [intOf]; omega
    · have : k = n := by omega
      subst this
      obtain ⟨a1, c1, rfl, _, _⟩ := own_shape hown.out
      obtain ⟨g, tl, rfl, hg, kb, hnc, hcm, hcl⟩ := own_open hown.out h1
      rw [← HZ.out] at kb
      have KB := Lib.hid kb
      have hcl2 := Lib.hid hcl
      clear hown kb hcl
      go_wp2_with fail
      go_loopw [16] (fun iv wr => ∃ i : Nat, i ≤ k ∧ iv = .int .i64 i ∧ Hid (Blk wr g (ints (bkL m k i) ++ tl) 2) ∧ Below w.heap.size w wr) (fun iv _ => k - (intOf iv).toNat)
      case atStart => exact ⟨0, Nat.zero_le _, rfl, KB.out, hw⟩
      case round =>
        clear KB hw
        obtain ⟨i, hi, rfl, hK, hw⟩ := hrel
        by_cases hli : i < k
        · obtain ⟨b, o, x, rfl, hbb, hck0, hx⟩ := G.out.get (k := i) (by rw [← HN.out]; exact hli)
          have hck := (hw.cell (p := ⟨b, o + i, none⟩) hbb).trans hck0
          have i0 : (0 : Int) ≤ (i : Int) := Int.natCast_nonneg _
          have i1 : (i : Int) < (k : Int) := by omega
          rcases HV.out i x hx.out with hx0 | ⟨y, rfl, hy⟩
          · have hsk := HS.out i x hli hx.out hx0
            have HK2 : Hid (Blk wr g (ints (bkL m k (i + 1)) ++ tl) 2) := by rw [hsk]; exact hK.out
            clear hck0 hsk hK
            go_wp2_with fail
            go_roundw
            case rel => exact ⟨i + 1, by omega, by go_num, HK2, hw⟩
            case measure => simp [intOf]; omega
          · have hy0 : (0 : Int) ≤ (y : Int) := Int.natCast_nonneg _
            have hy1 : (y : Int) < (k : Int) := by omega
            have hyl : y < (bkL m k i).length := by rw [HL.out]; exact hy
            have cy := cell_app hK.out hyl
            have fy := hK.out.free y
            have HK2 : Hid (Blk (wr.setCell ⟨g, y, none⟩ (.int .i64 i)) g (ints (bkL m k (i + 1)) ++ tl) 2) := by
              rw [← HT.out i y hli hx.out]; exact set_app hK.out hyl (i : Int)
            have HB2 := below_sto hw (g := g) hg y (.int .i64 i)
            clear hck0 hK hyl
            go_wp2_with fail
            go_roundw
            case rel => exact ⟨i + 1, by omega, by go_num, HK2, HB2⟩
            case measure => simp [intOf]; omega
        · have : i = k := by omega
          subst this
          have HO : Hid (OwnI 2 wr w.heap.size wr.heap.size (some ⟨g, 0, none⟩) c1 (backL m i)) := by
            have hk := hK.out
            rw [HE.out] at hk
            have hl : (ints (backL m i)).length = i := by simp [backL]
            have hll : (backL m i).length = i := by simp [backL]
            have := own_close hk hg hl hnc hcm (by have := hcl2.out; rw [List.length_append] at this ⊢; rw [hl]; simpa using this)
            refine OwnI.of_own ?_
            rw [hll]; exact this
          clear hK
          go_wp2_with fail
          go_ret
          exact ⟨_, _, rfl, HO.out, hw⟩
set_option maxRecDepth 10000 in
set_option maxHeartbeats 8000000 in
theorem l05Block_any (w : World) (b o : Nat) (a0 : Option Addr) (c0 : Nat) (x0 : List (List Int)) (a1 : Option Addr) (c1 : Nat) (x1 : List (List Int)) (d0 : w.cell? ⟨b, o, none⟩ = some (.slice a0 x0.length c0)) (d1 : w.cell? ⟨b, o + 1, none⟩ = some (.slice a1 x1.length c1)) (hbl : b < w.heap.size)
    (h : RdWishes w w.heap.size a0 x0 a1 x1) (hv : Wish ⟨x0, x1⟩) (hin0 : ∀ y ∈ x0, y.length ≤ 1048576) (hin1 : ∀ y ∈ x1, y.length ≤ 1048576)
    (a : Option Addr) (c : Nat) (m : List Int) (g : Rd w w.heap.size a (ints m)) (hm : Mat ⟨x0, x1⟩ m) :
    Calls Try.prog 60 #[.pointer (some ⟨b, o, none⟩), .slice a m.length c] w fun e w' => e = .returned (.tuple #[.int .i64 (bA (blockF ⟨x0, x1⟩ m)), .int .i64 (bZ (blockF ⟨x0, x1⟩ m)), .bool (blockF ⟨x0, x1⟩ m).isSome]) ∧ Below w.heap.size w w' := by
  obtain ⟨n, hn⟩ : ∃ n, n = m.length := ⟨_, rfl⟩
  have h8 := hv.n8
  have h1 := hv.n1
  have hl := hm.len
  simp only at h8 h1 hl
  have hln := Lib.hid hv.len
  simp only at hln
  have LB := Lib.hid (l05Back_any w ⟨x0, x1⟩ a c m g hm (by omega) (by omega))
  have LP : Hid (∀ (w' : World) (i k : Nat), Below w.heap.size w w' → i < n → k < n → _) := fun w' i k hb hi hk => l05Pair_any w' b o a0 c0 x0 a1 c1 x1 ((hb.cell (p := ⟨b, o, none⟩) hbl).trans d0) ((hb.cell (p := ⟨b, o + 1, none⟩) hbl).trans d1) (h.to hb) hin0 hin1 i k (by omega) (by rw [hln.out]; omega)
  have LD := Lib.hid (fun w' a c ys x y => l05Dearer_any w' a c ys x y)
  have Hh := Lib.hid h
  have G := Lib.hid g
  have Hin0 := Lib.hid hin0
  have Hin1 := Lib.hid hin1
  have Hl0 : Hid (x0.length = n) := by rw [hn]; exact hl.symm
  have Hl1 : Hid (x1.length = n) := by rw [hn, hl]; exact hln.out
  have Hbl : Hid (∀ (i k : Nat) (ys zs : List Int) (x : Int), i < n → k < n → x0[i]? = some ys → x1[k]? = some zs → m[i]? = some x → blocksB ⟨x0, x1⟩ m i k = (pairB ⟨x0, x1⟩ i k && x != (k : Int) && dearB ys k x && dearB zs i (backF m k))) := by
    intro i k ys zs x _ _ e1 e2 e3
    have e4 : (x != (k : Int)) = !decide (x = (k : Int)) := rfl
    unfold blocksB
    simp only [row_get e1, row_get e2, getD_of_get e3, e4]
  have HBL : Hid (∀ k, k < n → (backL m n)[k]? = some (backF m k)) := fun k hk => backL_get hk
  have HBN : Hid ((backL m n).length = n) := by simp [backL, Hid]
  have HH : Hid (∀ i k, i < n → k < n → blocksB ⟨x0, x1⟩ m i k = true → (∀ i' k', i' < i → k' < n → blocksB ⟨x0, x1⟩ m i' k' = false) → (∀ k', k' < k → blocksB ⟨x0, x1⟩ m i k' = false) → blockF ⟨x0, x1⟩ m = some (i, k)) := fun i k h1 h2 h3 h4 h5 => by
    rw [block_first]; simp only [Hl0.out]; exact first2_here h1 h2 h3 h4 h5
  have HZ : Hid ((∀ i k, i < n → k < n → blocksB ⟨x0, x1⟩ m i k = false) → blockF ⟨x0, x1⟩ m = none) := fun hh => by
    rw [block_first]; simp only [Hl0.out]; exact first2_none.2 hh
  have Hn := Lib.hid hn
  rw [← hn] at LB ⊢
  generalize hbf : blocksB ⟨x0, x1⟩ m = bf at *
  generalize hFF : blockF ⟨x0, x1⟩ m = FF at *
  generalize hbk : backL m n = bk at *
  rw [Hl0.out] at d0
  rw [Hl1.out] at d1
  have n1 : 1 ≤ n := by omega
  have n8 : n ≤ 8 := by omega
  clear h g hv hin0 hin1 hbf hFF hbk hm hl hn h1 h8
  go_enter Try.func60, Try.ntmps60
  go_wp2_with fail
  refine LB.out.mono ?_
  rintro e w1 ⟨ab, cb, rfl, ob, B1⟩
  have RB := Lib.hid ob.rd
  clear ob LB
  go_wp2_with fail
  go_loopw [9] (fun iv wr => ∃ i : Nat, i ≤ n ∧ iv = .int .i64 i ∧ Hid (∀ i' k', i' < i → k' < n → bf i' k' = false) ∧ Below w1.heap.size w1 wr) (fun iv _ => n - (intOf iv).toNat)
  case atStart => exact ⟨0, Nat.zero_le _, rfl, fun _ _ h => by omega, Below.refl _ _⟩
  case round =>
    obtain ⟨i, hi, rfl, hrows, hw1⟩ := hrel
    by_cases hlt : i < n
    · go_wp2_with fail
      go_loopw [10] (fun kv wr => ∃ k : Nat, k ≤ n ∧ kv = .int .i64 k ∧ Hid (∀ k', k' < k → bf i k' = false) ∧ Below w1.heap.size w1 wr) (fun kv _ => n - (intOf kv).toNat)
      case atStart => exact ⟨0, Nat.zero_le _, rfl, fun _ h => by omega, hw1⟩
      case round =>
        clear hw1
        obtain ⟨k, hk, rfl, hcols, hw1⟩ := hrel
        by_cases hlk : k < n
        · have hw := B1.trans (hw1.mono B1.size)
          obtain ⟨b2, o2, ys, a2, c2, e2, hb2, hc2, _, hr2, hy2⟩ := (Hh.out.1).get (k := i) (by rw [Hl0.out]; exact hlt)
          obtain ⟨b3, o3, zs, a3, c3, e3, hb3, hc3, _, hr3, hy3⟩ := (Hh.out.2).get (k := k) (by rw [Hl1.out]; exact hlk)
          obtain ⟨b4, o4, x, e4, hb4, hc4, hx4⟩ := G.out.get (k := i) (by rw [← Hn.out]; exact hlt)
          obtain ⟨b5, o5, ix, e5, hb5, hc5, hx5⟩ := RB.out.get (k := k) (by rw [HBN.out]; exact hlk)
          subst e2 e3 e4 e5
          have eix : ix = backF m k := by
            have := hx5.out
            rw [HBL.out k hlk] at this
            injection this with this
            exact this.symm
          have hbl' := Hbl.out i k ys zs x hlt hlk hy2.out hy3.out hx4.out
          rw [← eix] at hbl'
          have LT1 : Hid (∀ w', Below wr.heap.size wr w' → _) := fun w' hb => LP.out w' i k (hw.trans (hb.mono hw.size)) hlt hlk
          have LD1 : Hid (∀ w', Below wr.heap.size wr w' → _) := fun w' hb => LD.out w' a2 c2 ys k x (hr2.to (hw.trans (hb.mono hw.size))) (Hin0.out ys (List.mem_of_getElem? hy2.out))
          have LD2 : Hid (∀ w', Below wr.heap.size wr w' → _) := fun w' hb => LD.out w' a3 c3 zs i ix (hr3.to (hw.trans (hb.mono hw.size))) (Hin1.out zs (List.mem_of_getElem? hy3.out))
          have hs := hw.size
          have F0 : ∀ z : Later wr, z.w'.cell? ⟨b, o, none⟩ = some (.slice (some ⟨b2, o2, none⟩) n c0) := fun z => z.cell (by simp only; omega) ((hw.cell (p := ⟨b, o, none⟩) hbl).trans d0)
          have F1 : ∀ z : Later wr, z.w'.cell? ⟨b, o + 1, none⟩ = some (.slice (some ⟨b3, o3, none⟩) n c1) := fun z => z.cell (by simp only; omega) ((hw.cell (p := ⟨b, o + 1, none⟩) hbl).trans d1)
          have F2 : ∀ z : Later wr, z.w'.cell? ⟨b2, o2 + i, none⟩ = some (.slice a2 ys.length c2) := fun z => z.cell (by simp only; omega) ((hw.cell (p := ⟨b2, o2 + i, none⟩) hb2).trans hc2)
          have F3 : ∀ z : Later wr, z.w'.cell? ⟨b3, o3 + k, none⟩ = some (.slice a3 zs.length c3) := fun z => z.cell (by simp only; omega) ((hw.cell (p := ⟨b3, o3 + k, none⟩) hb3).trans hc3)
          have F4 : ∀ z : Later wr, z.w'.cell? ⟨b4, o4 + i, none⟩ = some (.int .i64 x) := fun z => z.cell (by simp only; omega) ((hw.cell (p := ⟨b4, o4 + i, none⟩) hb4).trans hc4)
          have F5 : ∀ z : Later wr, z.w'.cell? ⟨b5, o5 + k, none⟩ = some (.int .i64 ix) := fun z => z.cell (by have := hw1.size; simp only; omega) ((hw1.cell (p := ⟨b5, o5 + k, none⟩) hb5).trans hc5)
          have i0 : (0 : Int) ≤ (i : Int) := Int.natCast_nonneg _
          have k0 : (0 : Int) ≤ (k : Int) := Int.natCast_nonneg _
          have i1 : (i : Int) < (n : Int) := by omega
          have k1 : (k : Int) < (n : Int) := by omega
          have HN : Hid (∀ w' : World, bf i k = false → Below wr.heap.size wr w' → ∃ k' : Nat, k' ≤ n ∧ (Value.int .i64 ((k : Int) + 1)) = .int .i64 k' ∧ Hid (∀ q, q < k' → bf i q = false) ∧ Below w1.heap.size w1 w') := fun w' hf hb =>
            ⟨k + 1, by omega, by go_num, fun q hq => by
              by_cases e : q = k
              · subst e; exact hf
              · exact hcols.out q (by omega), hw1.trans (hb.mono hw1.size)⟩
          have HBB : Hid (∀ w' : World, Below wr.heap.size wr w' → Below w.heap.size w w') := fun w' hb => hw.trans (hb.mono hw.size)
          have Hhit : Hid (bf i k = true → FF = some (i, k)) := fun hh => HH.out i k hlt hlk hh hrows.out hcols.out
          have HC := Lib.hid hbl'
          clear hr2 hr3 hc2 hc3 hc4 hc5 hy2 hy3 hx4 hx5 eix hbl' hw hs hcols
          cases t1 : pairB ⟨x0, x1⟩ i k with
          | false =>
            rw [t1] at LT1 HC
            rw [Bool.false_and, Bool.false_and, Bool.false_and] at HC
            go_wp2_with fail
            refine wp_region_later (by kernel_rfl) (by kernel_rfl) ?_
            repeat (go_big_quiet_step ((go_at_call 66; exact later_same (LT1.out _ (Later.h _)))))
            refine wpQuiet_nil ?_
            rintro _ ⟨⟨wq, hbq⟩, rfl⟩
            clear F0 F1 F2 F3 F4 F5
            go_wp2_with fail
            go_roundw
            case rel => exact HN.out _ HC.out hbq
            case measure => simp [intOf]; omega
          | true =>
            rw [t1] at LT1 HC
            rw [Bool.true_and] at HC
            cases t2 : (x != (k : Int)) with
            | false =>
              rw [t2, Bool.false_and, Bool.false_and] at HC
              go_wp2_with fail
              refine wp_region_later (by kernel_rfl) (by kernel_rfl) ?_
              repeat (go_big_quiet_step ((go_at_call 66; exact later_same (LT1.out _ (Later.h _)))))
              refine wpQuiet_nil ?_
              rintro _ ⟨⟨wq, hbq⟩, rfl⟩
              clear F0 F1 F2 F3 F4 F5
              go_wp2_with fail
              go_roundw
              case rel => exact HN.out _ HC.out hbq
              case measure => simp [intOf]; omega
            | true =>
              rw [t2, Bool.true_and] at HC
              cases t3 : dearB ys k x with
              | false =>
                rw [t3] at LD1 HC
                rw [Bool.false_and] at HC
                go_wp2_with fail
                refine wp_region_later (by kernel_rfl) (by kernel_rfl) ?_
                repeat (go_big_quiet_step (first | (go_at_call 66; exact later_same (LT1.out _ (Later.h _))) | (go_at_call_of 67 a2; exact later_same (LD1.out _ (Later.h _)))))
                refine wpQuiet_nil ?_
                rintro _ ⟨⟨wq, hbq⟩, rfl⟩
                clear F0 F1 F2 F3 F4 F5
                go_wp2_with fail
                go_roundw
                case rel => exact HN.out _ HC.out hbq
                case measure => simp [intOf]; omega
              | true =>
                rw [t3] at LD1 HC
                rw [Bool.true_and] at HC
                cases t4 : dearB zs i ix with
                | false =>
                  rw [t4] at LD2 HC
                  go_wp2_with fail
                  refine wp_region_later (by kernel_rfl) (by kernel_rfl) ?_
                  repeat (go_big_quiet_step (first | (go_at_call 66; exact later_same (LT1.out _ (Later.h _))) | (go_at_call_of 67 a2; exact later_same (LD1.out _ (Later.h _))) | (go_at_call_of 67 a3; exact later_same (LD2.out _ (Later.h _)))))
                  refine wpQuiet_nil ?_
                  rintro _ ⟨⟨wq, hbq⟩, rfl⟩
                  clear F0 F1 F2 F3 F4 F5
                  go_wp2_with fail
                  go_roundw
                  case rel => exact HN.out _ HC.out hbq
                  case measure => simp [intOf]; omega
                | true =>
                  rw [t4] at LD2 HC
                  have HR : Hid (FF = some (i, k)) := Hhit.out HC.out
                  go_wp2_with fail
                  refine wp_region_later (by kernel_rfl) (by kernel_rfl) ?_
                  repeat (go_big_quiet_step (first | (go_at_call 66; exact later_same (LT1.out _ (Later.h _))) | (go_at_call_of 67 a2; exact later_same (LD1.out _ (Later.h _))) | (go_at_call_of 67 a3; exact later_same (LD2.out _ (Later.h _)))))
                  refine wpQuiet_nil ?_
                  rintro _ ⟨⟨wq, hbq⟩, rfl⟩
                  clear F0 F1 F2 F3 F4 F5
                  have HB := Lib.hid (HBB.out _ hbq)
                  clear hbq
                  go_wp2_with fail
                  go_ret3
                  exact ⟨by rw [HR.out]; rfl, HB.out⟩
        · have : k = n := by omega
          subst this
          have HROW : Hid (∀ i' k', i' < i + 1 → k' < k → bf i' k' = false) := fun i' k' h1 h2 => by
            by_cases e : i' = i
            · subst e; exact hcols.out k' h2
            · exact hrows.out i' k' (by omega) h2
          clear hcols hrows
          go_wp2_with fail
          go_roundw
          case rel => exact ⟨i + 1, by omega, by go_num, HROW, hw1⟩
          case measure => simp [intOf]; omega
    · have : i = n := by omega
      subst this
      have HR : Hid (FF = none) := HZ.out hrows.out
      have HB := Lib.hid (B1.trans (hw1.mono B1.size))
      clear hrows
      go_wp2_with fail
      go_ret3
      exact ⟨by rw [HR.out]; rfl, HB.out⟩
set_option maxRecDepth 10000 in
set_option maxHeartbeats 4000000 in
theorem l05Stable_any (w : World) (b o : Nat) (a0 : Option Addr) (c0 : Nat) (x0 : List (List Int)) (a1 : Option Addr) (c1 : Nat) (x1 : List (List Int)) (d0 : w.cell? ⟨b, o, none⟩ = some (.slice a0 x0.length c0)) (d1 : w.cell? ⟨b, o + 1, none⟩ = some (.slice a1 x1.length c1)) (hbl : b < w.heap.size)
    (a : Option Addr) (c : Nat) (m : List Int) (h : RdWishes w w.heap.size a0 x0 a1 x1) (hl0 : x0.length ≤ 1048576) (hin0 : ∀ y ∈ x0, y.length ≤ 1048576) (hl1 : x1.length ≤ 1048576) (hin1 : ∀ y ∈ x1, y.length ≤ 1048576) (g : Rd w w.heap.size a (ints m)) (hl : m.length ≤ 1048576) (hc : m.length ≤ c) :
    Calls Try.prog 62 #[.pointer (some ⟨b, o, none⟩), .slice a m.length c] w fun e w' => e = .returned (.bool (wishB ⟨x0, x1⟩ && stableB ⟨x0, x1⟩ m)) ∧ Below w.heap.size w w' := by
  have LM := Lib.hid (l05Match_any w b o a0 c0 x0 a1 c1 x1 d0 d1 a c m h hl0 hin0 hl1 hin1 g hl hc)
  have HF : Hid ((wishB ⟨x0, x1⟩ && stableB ⟨x0, x1⟩ m) = ((wishB ⟨x0, x1⟩ && matchB ⟨x0, x1⟩ m) && (blockF ⟨x0, x1⟩ m).isNone)) := by unfold stableB; rw [Hid, Bool.and_assoc]
  cases t1 : wishB ⟨x0, x1⟩ && matchB ⟨x0, x1⟩ m with
  | false =>
    rw [t1] at LM HF
    rw [Bool.false_and] at HF
    clear h g hin0 hin1 t1
    go_enter Try.func62, Try.ntmps62
    go_wp2_with fail
    refine LM.out.mono ?_
    rintro e w1 ⟨rfl, q, rfl⟩
    go_wp2_with fail
    go_ret
    exact ⟨ret_bool HF.out.symm, below_drewN (Below.refl _ _) q⟩
  | true =>
    rw [t1] at LM HF
    rw [Bool.true_and] at HF
    rw [Bool.and_eq_true] at t1
    have hv := wish_of t1.1
    have hm := mat_of t1.2
    have LB := Lib.hid (fun q => l05Block_any (w.drewN q) b o a0 c0 x0 a1 c1 x1 d0 d1 hbl h hv hin0 hin1 a c m g hm)
    clear h g hv hm hin0 hin1 t1
    cases hf : blockF ⟨x0, x1⟩ m with
    | none =>
      rw [hf] at LB HF
      go_enter Try.func62, Try.ntmps62
      go_wp2_with fail
      refine LM.out.mono ?_
      rintro e w1 ⟨rfl, q, rfl⟩
      go_wp2_with fail
      refine (LB.out q).mono ?_
      rintro e w2 ⟨rfl, hb2⟩
      have B2 := below_then (below_drewN (Below.refl w.heap.size w) q) hb2
      clear hb2 LB LM
      go_wp2_with fail
      go_ret
      exact ⟨ret_bool HF.out.symm, B2⟩
    | some p =>
      rw [hf] at LB HF
      go_enter Try.func62, Try.ntmps62
      go_wp2_with fail
      refine LM.out.mono ?_
      rintro e w1 ⟨rfl, q, rfl⟩
      go_wp2_with fail
      refine (LB.out q).mono ?_
      rintro e w2 ⟨rfl, hb2⟩
      have B2 := below_then (below_drewN (Below.refl w.heap.size w) q) hb2
      clear hb2 LB LM
      go_wp2_with fail
      go_ret
      exact ⟨ret_bool HF.out.symm, B2⟩
set_option maxHeartbeats 2000000 in
theorem isMatchR_any (w : World) (a0 : Option Addr) (c0 : Nat) (x0 : List (List Int)) (a1 : Option Addr) (c1 : Nat) (x1 : List (List Int)) (a : Option Addr) (c : Nat) (m : List Int) (h : RdWishes w w.heap.size a0 x0 a1 x1) (hl0 : x0.length ≤ 1048576) (hin0 : ∀ y ∈ x0, y.length ≤ 1048576) (hl1 : x1.length ≤ 1048576) (hin1 : ∀ y ∈ x1, y.length ≤ 1048576)
    (g : Rd w w.heap.size a (ints m)) (hl : m.length ≤ 1048576) (hc : m.length ≤ c) :
    Calls Try.prog 16 #[.agg #[.slice a0 x0.length c0, .slice a1 x1.length c1], .slice a m.length c] w fun e w' => e = .returned (.bool (wishB ⟨x0, x1⟩ && matchB ⟨x0, x1⟩ m)) ∧ Below w.heap.size w w' := by
  have hB := bl1 w (.cells #[.slice a0 x0.length c0, .slice a1 x1.length c1] 28)
  have k := Blk.new w [.slice a0 x0.length c0, .slice a1 x1.length c1] 28
  have LM := Lib.hid (l05Match_any _ w.heap.size 0 a0 c0 x0 a1 c1 x1 (k.cell 0) (k.cell 1) a c m (h.to hB) hl0 hin0 hl1 hin1 (g.to hB) hl hc)
  generalize (wishB ⟨x0, x1⟩ && matchB ⟨x0, x1⟩ m) = r at *
  clear h g hin0 hin1 k
  go_enter Try.func16, Try.ntmps16
  go_wp2_with fail
  refine LM.out.mono ?_
  rintro e w1 ⟨rfl, q, rfl⟩
  go_wp2_with fail
  go_ret
  exact ⟨rfl, below_drewN hB q⟩
set_option maxHeartbeats 2000000 in
theorem blockOfR_any (w : World) (a0 : Option Addr) (c0 : Nat) (x0 : List (List Int)) (a1 : Option Addr) (c1 : Nat) (x1 : List (List Int)) (a : Option Addr) (c : Nat) (m : List Int) (h : RdWishes w w.heap.size a0 x0 a1 x1) (hl0 : x0.length ≤ 1048576) (hin0 : ∀ y ∈ x0, y.length ≤ 1048576) (hl1 : x1.length ≤ 1048576) (hin1 : ∀ y ∈ x1, y.length ≤ 1048576)
    (g : Rd w w.heap.size a (ints m)) (hl : m.length ≤ 1048576) (hc : m.length ≤ c) :
    Calls Try.prog 22 #[.agg #[.slice a0 x0.length c0, .slice a1 x1.length c1], .slice a m.length c] w fun e w' => e = .returned (.tuple #[.int .i64 (bA (blockOfF ⟨x0, x1⟩ m)), .int .i64 (bZ (blockOfF ⟨x0, x1⟩ m)), .bool (blockOfF ⟨x0, x1⟩ m).isSome]) ∧ Below w.heap.size w w' := by
  have hB := bl1 w (.cells #[.slice a0 x0.length c0, .slice a1 x1.length c1] 28)
  have k := Blk.new w [.slice a0 x0.length c0, .slice a1 x1.length c1] 28
  have LM := Lib.hid (l05Match_any _ w.heap.size 0 a0 c0 x0 a1 c1 x1 (k.cell 0) (k.cell 1) a c m (h.to hB) hl0 hin0 hl1 hin1 (g.to hB) hl hc)
  cases t1 : wishB ⟨x0, x1⟩ && matchB ⟨x0, x1⟩ m with
  | false =>
    have HF : blockOfF ⟨x0, x1⟩ m = none := by simp [blockOfF, t1]
    rw [t1] at LM
    rw [HF]
    clear h g hin0 hin1 HF t1 k
    go_enter Try.func22, Try.ntmps22
    go_wp2_with fail
    refine LM.out.mono ?_
    rintro e w1 ⟨rfl, q, rfl⟩
    go_wp2_with fail
    go_ret3
    exact ⟨rfl, below_drewN hB q⟩
  | true =>
    have HF : blockOfF ⟨x0, x1⟩ m = blockF ⟨x0, x1⟩ m := by simp [blockOfF, t1]
    rw [t1] at LM
    rw [HF]
    rw [Bool.and_eq_true] at t1
    have LB := Lib.hid (fun q => l05Block_any ((w.alloc (.cells #[.slice a0 x0.length c0, .slice a1 x1.length c1] 28)).drewN q) w.heap.size 0 a0 c0 x0 a1 c1 x1 (k.cell 0) (k.cell 1) (by simp) (h.to (below_drewN hB q)) (wish_of t1.1) hin0 hin1 a c m (g.to (below_drewN hB q)) (mat_of t1.2))
    generalize blockF ⟨x0, x1⟩ m = F at *
    clear h g hin0 hin1 HF t1 k
    go_enter Try.func22, Try.ntmps22
    go_wp2_with fail
    refine LM.out.mono ?_
    rintro e w1 ⟨rfl, q, rfl⟩
    go_wp2_with fail
    refine (LB.out q).mono ?_
    rintro e w2 ⟨rfl, hb2⟩
    have B2 := below_then (below_drewN hB q) hb2
    clear hb2 LB LM
    go_wp2_with fail
    go_ret3
    exact ⟨rfl, B2⟩
set_option maxHeartbeats 2000000 in
theorem isStableR_any (w : World) (a0 : Option Addr) (c0 : Nat) (x0 : List (List Int)) (a1 : Option Addr) (c1 : Nat) (x1 : List (List Int)) (a : Option Addr) (c : Nat) (m : List Int) (h : RdWishes w w.heap.size a0 x0 a1 x1) (hl0 : x0.length ≤ 1048576) (hin0 : ∀ y ∈ x0, y.length ≤ 1048576) (hl1 : x1.length ≤ 1048576) (hin1 : ∀ y ∈ x1, y.length ≤ 1048576)
    (g : Rd w w.heap.size a (ints m)) (hl : m.length ≤ 1048576) (hc : m.length ≤ c) :
    Calls Try.prog 24 #[.agg #[.slice a0 x0.length c0, .slice a1 x1.length c1], .slice a m.length c] w fun e w' => e = .returned (.tuple #[.bool (isStableF ⟨x0, x1⟩ m).1, .bool (isStableF ⟨x0, x1⟩ m).2]) ∧ Below w.heap.size w w' := by
  have hB := bl1 w (.cells #[.slice a0 x0.length c0, .slice a1 x1.length c1] 28)
  have k := Blk.new w [.slice a0 x0.length c0, .slice a1 x1.length c1] 28
  have LM := Lib.hid (l05Match_any _ w.heap.size 0 a0 c0 x0 a1 c1 x1 (k.cell 0) (k.cell 1) a c m (h.to hB) hl0 hin0 hl1 hin1 (g.to hB) hl hc)
  cases t1 : wishB ⟨x0, x1⟩ && matchB ⟨x0, x1⟩ m with
  | false =>
    have HF : isStableF ⟨x0, x1⟩ m = (false, false) := by simp [isStableF, t1]
    rw [t1] at LM
    rw [HF]
    clear h g hin0 hin1 HF t1 k
    go_enter Try.func24, Try.ntmps24
    go_wp2_with fail
    refine LM.out.mono ?_
    rintro e w1 ⟨rfl, q, rfl⟩
    go_wp2_with fail
    go_ret2
    exact ⟨rfl, below_drewN hB q⟩
  | true =>
    have HF : isStableF ⟨x0, x1⟩ m = ((blockF ⟨x0, x1⟩ m).isNone, true) := by simp [isStableF, t1]
    have hst : (wishB ⟨x0, x1⟩ && stableB ⟨x0, x1⟩ m) = (blockF ⟨x0, x1⟩ m).isNone := by
      unfold stableB; rw [← Bool.and_assoc, t1, Bool.true_and]
    rw [t1] at LM
    rw [HF]
    have LB := Lib.hid (fun q => l05Stable_any ((w.alloc (.cells #[.slice a0 x0.length c0, .slice a1 x1.length c1] 28)).drewN q) w.heap.size 0 a0 c0 x0 a1 c1 x1 (k.cell 0) (k.cell 1) (by simp) a c m (h.to (below_drewN hB q)) hl0 hin0 hl1 hin1 (g.to (below_drewN hB q)) hl hc)
    rw [hst] at LB
    generalize (blockF ⟨x0, x1⟩ m).isNone = F at *
    clear h g hin0 hin1 HF t1 k hst
    go_enter Try.func24, Try.ntmps24
    go_wp2_with fail
    refine LM.out.mono ?_
    rintro e w1 ⟨rfl, q, rfl⟩
    go_wp2_with fail
    refine (LB.out q).mono ?_
    rintro e w2 ⟨rfl, hb2⟩
    have B2 := below_then (below_drewN hB q) hb2
    clear hb2 LB LM
    go_wp2_with fail
    go_ret2
    exact ⟨rfl, B2⟩
end Go.Proofs.Ytdipckpcmnhpjaa
