/-
  Partners, matches: the program's road.
-/
import Derived.Test.YtdipckpcmnhpjaaMatV
import Derived.Test.YtdipckpcmnhpjaaClone
import Derived.Test.YtdipckpcmnhpjaaGrow
namespace Go.Proofs.Ytdipckpcmnhpjaa
set_option linter.unusedVariables false
set_option linter.unusedSimpArgs false
open Go.RowKit

def partI (w : Wi) (m : List Int) (i : Nat) : Bool := decide (m.getD i 0 < 0) || pairB w i (m.getD i 0).toNat
set_option maxRecDepth 10000 in
set_option maxHeartbeats 4000000 in
theorem partners_any (w : World) (a0 : Option Addr) (c0 : Nat) (x0 : List (List Int)) (a1 : Option Addr) (c1 : Nat) (x1 : List (List Int)) (h : RdWishes w w.heap.size a0 x0 a1 x1) (hv : Wish ⟨x0, x1⟩) (hin0 : ∀ y ∈ x0, y.length ≤ 1048576) (hin1 : ∀ y ∈ x1, y.length ≤ 1048576)
    (a : Option Addr) (c : Nat) (m : List Int) (g : Rd w w.heap.size a (ints m)) (hl : m.length ≤ 1048576) :
    Calls Try.prog 69 #[.agg #[.slice a0 x0.length c0, .slice a1 x1.length c1], .slice a m.length c] w fun e w' => e = .returned (.bool (partnersB ⟨x0, x1⟩ m)) ∧ Below w.heap.size w w' := by
  have LC := Lib.hid (fun w' => count_any w' a0 c0 x0 a1 c1 x1)
  have LM := Lib.hid (fun w' hb => areWithin_any w' a c m (-1) ((x0.length : Int) - 1) (g.to hb) (by omega))
  have hB := bl1 w (.cells #[.slice a0 x0.length c0, .slice a1 x1.length c1] 28)
  have KA : Hid (∀ w', Below (w.heap.size + 1) (w.alloc (.cells #[.slice a0 x0.length c0, .slice a1 x1.length c1] 28)) w' → Blk w' w.heap.size [.slice a0 x0.length c0, .slice a1 x1.length c1] 28) := fun w' hb => (Blk.new w [.slice a0 x0.length c0, .slice a1 x1.length c1] 28).below hb (by omega)
  have h8 := hv.n8
  have h1 := hv.n1
  have hln := Lib.hid hv.len
  simp only at h8 h1 hln
  have LT : Hid (∀ (w' : World) (i k : Nat), Below w.heap.size w w' → i < x0.length → k < x0.length → _) := fun w' i k hb hi hk => take_any w' a0 c0 x0 a1 c1 x1 (h.to hb) hin0 hin1 i k hi (by rw [hln.out]; exact hk)
  have G := Lib.hid g
  have hwr : IntKind.i64.wrap ((x0.length : Int) - 1) = (x0.length : Int) - 1 := IntWalk.i64_in _ (by omega)
  clear h hin0 hin1 g hv
  by_cases hn : m.length = x0.length
  case neg =>
    have HF : Hid (partnersB ⟨x0, x1⟩ m = false) := by simp [Hid, partnersB, hn]
    have hne : ((m.length : Int) != (x0.length : Int)) = true := by simp; omega
    clear hn
    go_enter Try.func69, Try.ntmps69
    go_wp2_with fail
    refine (LC.out _).mono ?_
    rintro e w1 ⟨rfl, hb1⟩
    have B1 := below_then hB hb1
    clear hb1
    go_wp2_with fail
    go_ret
    exact ⟨ret_bool HF.out.symm, B1⟩
  have hne : ((m.length : Int) != (x0.length : Int)) = false := by simp; omega
  cases t1 : allIn m (-1) ((x0.length : Int) - 1) with
  | false =>
    have HF : Hid (partnersB ⟨x0, x1⟩ m = false) := by simp [Hid, partnersB, t1]
    rw [t1] at LM
    clear hn
    go_enter Try.func69, Try.ntmps69
    go_wp2_with fail
    refine (LC.out _).mono ?_
    rintro e w1 ⟨rfl, hb1⟩
    have B1 := below_then hB hb1
    have k1 := KA.out _ (by simpa using hb1)
    have q0 := k1.cell 0
    have q1 := k1.cell 1
    simp only [List.getElem?_cons_zero, List.getElem?_cons_succ] at q0 q1
    clear k1
    go_wp2_with fail
    refine (LC.out _).mono ?_
    rintro e w2 ⟨rfl, hb2⟩
    have B2 := below_then B1 hb2
    clear hb1 hb2 q0 q1
    go_wp2_with fail
    refine (LM.out _ B2).mono ?_
    rintro e w3 ⟨rfl, rfl⟩
    go_wp2_with fail
    go_ret
    exact ⟨ret_bool HF.out.symm, B2⟩
  | true =>
    have HF : Hid (partnersB ⟨x0, x1⟩ m = (List.range m.length).all (partI ⟨x0, x1⟩ m)) := by
      show _ = _
      unfold partnersB
      simp only [hn, t1, decide_true, Bool.true_and]
      rfl
    have HA := Lib.hid (allIn_iff.1 t1)
    rw [t1] at LM
    have HN := Lib.hid hn
    clear hn t1
    go_enter Try.func69, Try.ntmps69
    go_wp2_with fail
    refine (LC.out _).mono ?_
    rintro e w1 ⟨rfl, hb1⟩
    have B1 := below_then hB hb1
    have hb1' : Below (w.heap.size + 1) (w.alloc (.cells #[.slice a0 x0.length c0, .slice a1 x1.length c1] 28)) w1 := by simpa using hb1
    have k1 := KA.out _ hb1'
    have q0 := k1.cell 0
    have q1 := k1.cell 1
    simp only [List.getElem?_cons_zero, List.getElem?_cons_succ] at q0 q1
    clear k1
    go_wp2_with fail
    refine (LC.out _).mono ?_
    rintro e w2 ⟨rfl, hb2⟩
    have B2 := below_then B1 hb2
    have A2 := hb1'.trans (hb2.mono (by have := hb1'.size; simpa using this))
    clear hb1 hb2 q0 q1 hb1' B1
    go_wp2_with fail
    refine (LM.out _ B2).mono ?_
    rintro e w3 ⟨rfl, rfl⟩
    go_wp2_with fail
    go_loopw [22] (fun i wr => ∃ k : Nat, k ≤ m.length ∧ i = .int .i64 k ∧ Hid ((List.range k).all (partI ⟨x0, x1⟩ m) = true) ∧ Below w.heap.size w wr ∧ Below (w.heap.size + 1) (w.alloc (.cells #[.slice a0 x0.length c0, .slice a1 x1.length c1] 28)) wr) (fun i _ => m.length - (intOf i).toNat)
    case atStart => exact ⟨0, Nat.zero_le _, rfl, rfl, B2, A2⟩
    case round =>
      clear B2 A2
      obtain ⟨k, hk, rfl, ha, hw, hA⟩ := hrel
      by_cases hlt : k < m.length
      · obtain ⟨b, o, x, rfl, hbb, hck, hx⟩ := (G.out.to hw).get hlt
        have hbd := HA.out x (List.mem_of_getElem? hx.out)
        have hgd := getD_of_get hx.out
        have k1 := KA.out _ hA
        have q0 := k1.cell 0
        have q1 := k1.cell 1
        simp only [List.getElem?_cons_zero, List.getElem?_cons_succ] at q0 q1
        by_cases hx0 : x < 0
        · have HS : Hid ((List.range (k + 1)).all (partI ⟨x0, x1⟩ m) = true) := by
            rw [Hid, rangeAll_succ, ha.out, Bool.true_and]
            unfold partI
            rw [hgd, decide_eq_true hx0, Bool.true_or]
          clear hgd ha k1 q0 q1
          go_wp2_with fail
          go_roundw
          case rel => exact ⟨k + 1, by omega, by go_num, HS, hw, hA⟩
          case measure => simp [intOf]; omega
        · obtain ⟨y, rfl⟩ : ∃ y : Nat, x = y := ⟨x.toNat, by omega⟩
          have hy : y < x0.length := by omega
          have LT1 := Lib.hid (LT.out wr k y hw (by have := HN.out; omega) hy)
          have HP : Hid (partI ⟨x0, x1⟩ m k = pairB ⟨x0, x1⟩ k y) := by
            show _ = _
            unfold partI
            rw [hgd, decide_eq_false hx0, Bool.false_or, Int.toNat_natCast]
          clear hgd
          cases hp : pairB ⟨x0, x1⟩ k y with
          | true =>
            rw [hp] at LT1 HP
            have HS : Hid ((List.range (k + 1)).all (partI ⟨x0, x1⟩ m) = true) := by
              rw [Hid, rangeAll_succ, ha.out, HP.out]; rfl
            clear ha k1
            go_wp2_with fail
            refine LT1.out.mono ?_
            rintro e w3 ⟨rfl, hb3⟩
            have hw3 := below_then hw hb3
            have hA3 := hA.trans (hb3.mono (by have := hA.size; simpa using this))
            clear hb3 q0 q1 hw hA LT1
            go_wp2_with fail
            go_roundw
            case rel => exact ⟨k + 1, by omega, by go_num, HS, hw3, hA3⟩
            case measure => simp [intOf]; omega
          | false =>
            rw [hp] at LT1 HP
            have HS : Hid (partnersB ⟨x0, x1⟩ m = false) := by
              rw [Hid, HF.out]
              exact rangeAll_false hlt HP.out
            clear ha k1
            go_wp2_with fail
            refine LT1.out.mono ?_
            rintro e w3 ⟨rfl, hb3⟩
            have hw3 := below_then hw hb3
            clear hb3 q0 q1 hw hA LT1
            go_wp2_with fail
            go_ret
            exact ⟨ret_bool HS.out.symm, hw3⟩
      · have : k = m.length := by omega
        subst this
        have HS : Hid (partnersB ⟨x0, x1⟩ m = true) := HF.out.trans ha.out
        clear ha
        go_wp2_with fail
        go_ret
        exact ⟨ret_bool HS.out.symm, hw⟩
theorem isNobody_any (w : World) (x : Int) :
    Calls Try.prog 103 #[.int .i64 x] w fun e w' => e = .returned (.bool (decide (x < 0))) ∧ w = w' := by
  go_enter Try.func103, Try.ntmps103
  go_wp2
  go_ret
  exact ⟨rfl, rfl⟩
theorem blk_setCells {b : Nat} {t : TypeId} : ∀ (vs : List Value) (o : Nat) (w : World) (cs : List Value), Blk w b cs t → ∃ cs', Blk (w.setCells b o vs) b cs' t ∧ cs'.length = cs.length ∧ ∀ j, j < o → cs'[j]? = cs[j]?
  | [], o, w, cs, h => ⟨cs, h, rfl, fun _ _ => rfl⟩
  | v :: vs, o, w, cs, h => by
    obtain ⟨cs', h1, h2, h3⟩ := blk_setCells vs (o + 1) (w.setCell ⟨b, o, none⟩ v) _ (h.set o v)
    refine ⟨cs', h1, by rw [h2, List.length_set], fun j hj => ?_⟩
    rw [h3 j (by omega), List.getElem?_set_ne (by omega)]
theorem grown_setCells {b : Nat} : ∀ (vs : List Value) (o : Nat) (w : World), w.grownBy (w.setCells b o vs) (some b)
  | [], o, w => ⟨rfl, rfl, rfl, Nat.le_refl _, fun _ _ _ => rfl⟩
  | v :: vs, o, w => grown_of_grown (⟨rfl, rfl, rfl, by simp, fun i _ hi => Below.heap_setCell _ _ _ _ (fun e => hi (by simp [e]))⟩ : w.grownBy (w.setCell ⟨b, o, none⟩ v) (some b)) (grown_setCells vs (o + 1) (w.setCell ⟨b, o, none⟩ v))
theorem whoL_snoc {m : List Int} {k : Nat} {x : Int} (hx : m[k]? = some x) : whoL (m.take (k + 1)) = if x < 0 then whoL (m.take k) else whoL (m.take k) ++ [x] := by
  unfold whoL
  rw [List.take_add_one, hx, List.filter_append]
  by_cases h : x < 0
  · rw [if_pos h]; have : ¬ (0 ≤ x) := by omega
    simp [this]
  · rw [if_neg h]; have : (0 ≤ x) := by omega
    simp [this]
theorem whoL_len (m : List Int) (k : Nat) : (whoL (m.take k)).length ≤ k := Nat.le_trans (List.length_filter_le _ _) (by simp; omega)
theorem whoL_all {m : List Int} (h : ∀ j, j < m.length → decide (m.getD j 0 < 0) = false) : whoL m = m := by
  unfold whoL
  rw [List.filter_eq_self]
  intro x hx
  obtain ⟨j, hj, rfl⟩ := List.getElem_of_mem hx
  have := of_decide_eq_false (h j hj)
  rw [getD_eq hj] at this
  simp; omega
theorem whoL_pre {m : List Int} {k : Nat} (hk : k ≤ m.length) (h : ∀ j, j < k → decide (m.getD j 0 < 0) = false) : whoL (m.take k) = m.take k :=
  whoL_all fun j hj => by
    simp only [List.length_take] at hj
    have h2 := h j (by omega)
    have e : (m.take k).getD j 0 = m.getD j 0 := by simp [List.getD, List.getElem?_take, show j < k by omega]
    rw [e]; exact h2
set_option maxRecDepth 10000 in
set_option maxHeartbeats 4000000 in
theorem deleteNobody_any (w : World) (g c : Nat) (m : List Int) (tl : List Value) (h : Blk w g (ints m ++ tl) 2) (hc : m.length ≤ c) (hl : m.length ≤ 1048576) :
    Calls Try.prog 102 #[.slice (some ⟨g, 0, none⟩) m.length c, .func (.func 103) #[] #[]] w fun e w' => e = .returned (.slice (some ⟨g, 0, none⟩) (whoL m).length c) ∧ Rd w' w'.heap.size (some ⟨g, 0, none⟩) (ints (whoL m)) ∧ Below g w w' := by
  have hen : ∀ (args : Array Value) (w : World), (callFunc 103 args).run Try.prog w = .ok (.enter 103 args) w := fun _ _ => by kernel_rfl
  have hrd : Rd w w.heap.size (some ⟨g, 0, none⟩) (ints m) := .inr ⟨g, 0, rfl, h.lt, fun j hj => by rw [Nat.zero_add, h.cell, List.getElem?_append_left hj]⟩
  have LI := Lib.hid (indexFunc_I 103 #[] hen w (some ⟨g, 0, none⟩) c (ints m) (fun j => decide (m.getD j 0 < 0)) hrd (by simp; omega) (fun w' j v _ hj => by
    have hj' : j < m.length := by have := (List.getElem?_eq_some_iff.1 hj).1; simpa using this
    rw [ints_get _ _ hj'] at hj
    injection hj with hj
    subst hj
    exact (isNobody_any w' (m.getD j 0)).mono fun e w'' ⟨h1, h2⟩ => ⟨h1, by subst h2; exact Below.refl _ _⟩))
  simp only [ints_length] at LI
  have HK := Lib.hid h
  have hlt := h.lt
  clear h hrd
  rcases findI_spec (fun j => decide (m.getD j 0 < 0)) m.length with ⟨k0, hk0, hp, hbef, e1⟩ | ⟨hall, e1⟩
  case inr =>
    have hw := whoL_all hall
    rw [e1] at LI
    rw [hw]
    clear hall e1 hw
    go_enter Try.func102, Try.ntmps102
    go_wp2_with fail
    refine LI.out.mono ?_
    rintro e w1 ⟨rfl, hb1⟩
    have k1 := HK.out.same hb1
    go_wp2_with fail
    go_ret
    exact ⟨rfl, rd_app k1 k1.lt, hb1.mono (by omega)⟩
  case inl =>
    rw [e1] at LI
    have hpre := whoL_pre (m := m) (k := k0) (by omega) hbef
    have hx0 : m[k0]? = some (m.getD k0 0) := get_of_lt hk0
    have hw1 := whoL_snoc hx0
    rw [if_pos (of_decide_eq_true hp), hpre] at hw1
    have HW1 : Hid (whoL (m.take (k0 + 1)) = m.take k0) := hw1
    have hpl : (m.take k0).length = k0 := by simp; omega
    have HPL := Lib.hid hpl
    have hz : ∀ w : World, (zeroValue 2).run Try.prog w = .ok (.int .i64 0) w := fun _ => by kernel_rfl
    have hne1 : ((k0 : Int) == -1) = false := beq_eq_false_iff_ne.2 (by omega)
    clear hpre hx0 hw1 hp hbef e1 hpl hen
    go_enter Try.func102, Try.ntmps102
    go_wp2_with fail
    refine LI.out.mono ?_
    rintro e w1 ⟨rfl, hb1⟩
    have k1 := Lib.hid (HK.out.same hb1)
    have B1 := hb1.mono (show g ≤ w.heap.size by omega)
    have hg1 : g < w1.heap.size := k1.out.lt
    clear hb1 HK LI
    go_wp2_with fail
    go_loopw [5, 6, 7] (fun iv jv _ wr => ∃ (i j : Nat) (ds : List Int), iv = .int .i64 i ∧ jv = .int .i64 j ∧ i < j ∧ j ≤ m.length ∧ ds.length = m.length ∧ Hid (ds.take i = whoL (m.take j)) ∧ Hid (∀ t, j ≤ t → ds[t]? = m[t]?) ∧ Hid (Blk wr g (ints ds ++ tl) 2) ∧ Below g w wr) (fun _ jv _ _ => m.length - (intOf jv).toNat)
    case atStart => exact ⟨k0, k0 + 1, m, rfl, by go_num, by omega, by omega, rfl, HW1.out.symm, fun _ _ => rfl, k1.out, B1⟩
    case round =>
      clear k1 B1 hg1
      obtain ⟨i, j, ds, rfl, rfl, hij, hj, hdl, htk, hrest, hK, hB⟩ := hrel
      by_cases hlt' : j < m.length
      · have hx : m[j]? = some (m.getD j 0) := get_of_lt hlt'
        have hd : ds[j]? = some (m.getD j 0) := by rw [hrest.out j (Nat.le_refl _), hx]
        have cj : wr.cell? ⟨g, j, none⟩ = some (.int .i64 (m.getD j 0)) := by
          rw [cell_app hK.out (by omega), getD_of_get hd]
        have ci : wr.cell? ⟨g, i, none⟩ = some (.int .i64 (ds.getD i 0)) := cell_app hK.out (by omega)
        have fi := hK.out.free i
        have hsn := whoL_snoc hx
        generalize m.getD j 0 = x at *
        have LN := Lib.hid (fun w => isNobody_any w x)
        have j0 : (0 : Int) ≤ (j : Int) := Int.natCast_nonneg _
        have i0 : (0 : Int) ≤ (i : Int) := Int.natCast_nonneg _
        have j1 : (j : Int) < (m.length : Int) := by omega
        have i1 : (i : Int) < (m.length : Int) := by omega
        by_cases hx0 : x < 0
        · rw [if_pos hx0] at hsn
          have HT : Hid (ds.take i = whoL (m.take (j + 1))) := by rw [Hid, htk.out, hsn]
          rw [decide_eq_true hx0] at LN
          clear hx hd hsn
          go_wp2_with fail
          refine (LN.out _).mono ?_
          rintro e w2 ⟨rfl, rfl⟩
          clear cj ci fi
          go_wp2_with fail
          go_roundw
          case rel => exact ⟨i, j + 1, ds, rfl, by go_num, by omega, by omega, hdl, HT, fun t ht => hrest.out t (by omega), hK, hB⟩
          case measure => simp [intOf]; omega
        · rw [if_neg hx0] at hsn
          have HT : Hid ((ds.set i x).take (i + 1) = whoL (m.take (j + 1))) := by
            rw [Hid, hsn, ← htk.out, List.take_add_one, List.take_set_of_le (Nat.le_refl _)]
            simp [show i < ds.length by omega]
          have HR : Hid (∀ t, j + 1 ≤ t → (ds.set i x)[t]? = m[t]?) := fun t ht => by
            rw [List.getElem?_set_ne (by omega)]; exact hrest.out t (by omega)
          rw [decide_eq_false hx0] at LN
          have HK2 := Lib.hid (set_app hK.out (j := i) (by omega) x)
          have HB2 := below_sto hB (g := g) (Nat.le_refl _) i (.int .i64 x)
          have hdl2 : (ds.set i x).length = m.length := by simp [hdl]
          clear hx hd hsn hK
          go_wp2_with fail
          refine (LN.out _).mono ?_
          rintro e w2 ⟨rfl, rfl⟩
          go_wp2_with fail
          go_roundw
          case rel => exact ⟨i + 1, j + 1, ds.set i x, by go_num, by go_num, by omega, by omega, hdl2, HT, HR, HK2, HB2⟩
          case measure => simp [intOf]; omega
      · have : j = m.length := by omega
        subst this
        have hcl : ∀ ty, (Builtin.clear_ #[25] ty #[.slice (some ⟨g, i, none⟩) (m.length - i) (c - i)]).run Try.prog wr = .ok (.tuple #[]) (wr.setCells g i (List.replicate (m.length - i) (.int .i64 0))) :=
          fun ty => Lib.run_clear_slice wr _ _ ty _ Try.underlying25 hz rfl rfl g i _ _ (by omega) (fun t ht => by rw [cell_app hK.out (j := i + t) (by omega)]; rfl) (fun t ht => hK.out.free _)
        have HRD : Hid ((whoL m).length = i ∧ Rd (wr.setCells g i (List.replicate (m.length - i) (.int .i64 0))) (wr.setCells g i (List.replicate (m.length - i) (.int .i64 0))).heap.size (some ⟨g, 0, none⟩) (ints (whoL m))) := by
          have ht := htk.out
          rw [List.take_length] at ht
          have hle : (whoL m).length = i := by rw [← ht]; simp; omega
          refine ⟨hle, ?_⟩
          obtain ⟨cs', h1, h2, h3⟩ := blk_setCells (List.replicate (m.length - i) (.int .i64 0)) i wr _ hK.out
          refine .inr ⟨g, 0, rfl, h1.lt, fun q hq => ?_⟩
          rw [ints_length, hle] at hq
          rw [Nat.zero_add, h1.cell, h3 q hq, List.getElem?_append_left (by simp; omega), ← ht, ints_get _ _ (by omega), ints_get _ _ (by simp; omega)]
          simp [List.getD, List.getElem?_take, hq]
        have HB2 : Hid (Below g w (wr.setCells g i (List.replicate (m.length - i) (.int .i64 0)))) := hB.grown (grown_setCells _ _ _) (Nat.le_of_lt hK.out.lt) (fun k hk => by injection hk with hk; omega)
        clear hrest htk hK
        go_wp2_with fail
        go_ret
        exact ⟨by rw [HRD.out.1]; rfl, HRD.out.2, HB2.out⟩
end Go.Proofs.Ytdipckpcmnhpjaa
