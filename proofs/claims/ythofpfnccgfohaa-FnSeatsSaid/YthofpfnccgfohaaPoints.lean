/-
  PointsOf: the reference's and the program's answers are one plain function.
-/
import Derived.Test.YthofpfnccgfohaaBallots
namespace Go.Proofs.Ythofpfnccgfohaa
set_option linter.unusedVariables false
set_option linter.unusedSimpArgs false
open Go.RowKit

def addAt (os : List Int) (i : Nat) (d : Int) : List Int := os.set i (os.getD i 0 + d)
theorem addAt_length (os : List Int) (i : Nat) (d : Int) : (addAt os i d).length = os.length := by simp [addAt]
theorem addAt_bd {os : List Int} {m d e : Int} (h : ∀ j, 0 ≤ os.getD j 0 ∧ os.getD j 0 ≤ m) (i : Nat) (h0 : 0 ≤ d) (h1 : d ≤ e) : ∀ j, 0 ≤ (addAt os i d).getD j 0 ∧ (addAt os i d).getD j 0 ≤ m + e := by
  intro j
  have hj := h j
  have hi := h i
  unfold addAt
  simp only [List.getD, List.getElem?_set] at *
  by_cases e1 : i = j
  · subst e1
    by_cases e2 : i < os.length
    · rw [if_pos rfl, if_pos e2]; simp only [Option.getD_some]; omega
    · rw [if_pos rfl, if_neg e2]; simp only [Option.getD_none]; omega
  · rw [if_neg e1]; omega
/-- The points behind j places of a ballot. -/
def ptsB (n : Nat) (ys : List Int) : Nat → List Int → List Int
  | 0, os => os
  | j + 1, os => addAt (ptsB n ys j os) (ys.getD j 0).toNat ((n : Int) - 1 - j)
/-- .. behind i ballots. -/
def ptsF (n : Nat) (yss : List (List Int)) : Nat → List Int
  | 0 => List.replicate n 0
  | i + 1 => ptsB n (yss.getD i []) n (ptsF n yss i)
theorem ptsB_length (n : Nat) (ys : List Int) (j : Nat) (os : List Int) : (ptsB n ys j os).length = os.length := by
  induction j with
  | zero => rfl
  | succ j ih => simp [ptsB, addAt_length, ih]
theorem ptsF_length (n : Nat) (yss : List (List Int)) (i : Nat) : (ptsF n yss i).length = n := by
  induction i with
  | zero => simp [ptsF]
  | succ i ih => simp [ptsF, ptsB_length, ih]
theorem ptsB_bd {n : Nat} {os : List Int} {m : Int} (h : ∀ j, 0 ≤ os.getD j 0 ∧ os.getD j 0 ≤ m) (ys : List Int) (j : Nat) (hj : j ≤ n) (hn : n ≤ 12) : ∀ q, 0 ≤ (ptsB n ys j os).getD q 0 ∧ (ptsB n ys j os).getD q 0 ≤ m + 12 * j := by
  induction j with
  | zero => simpa [ptsB] using h
  | succ j ih =>
    intro q
    have := addAt_bd (ih (by omega)) (ys.getD j 0).toNat (d := (n : Int) - 1 - j) (e := 12) (by omega) (by omega) q
    simp only [ptsB]
    omega
theorem ptsF_bd {n : Nat} (yss : List (List Int)) (i : Nat) (hn : n ≤ 12) : ∀ q, 0 ≤ (ptsF n yss i).getD q 0 ∧ (ptsF n yss i).getD q 0 ≤ 144 * i := by
  induction i with
  | zero => intro q; simp only [ptsF, List.getD, List.getElem?_replicate]; split <;> simp
  | succ i ih =>
    intro q
    have := ptsB_bd ih (yss.getD i []) n (Nat.le_refl _) hn q
    simp only [ptsF]
    omega
def pointsF (yss : List (List Int)) : Option (List Int) := if ballotsB yss then some (ptsF (wide yss) yss yss.length) else none

/-- What a valid ballot holds at a place. -/
theorem order_get {ys : List Int} {n k : Nat} (h : orderB ys n = true) (hk : k < n) : ∃ q : Nat, ys[k]? = some (q : Int) ∧ q < n := by
  obtain ⟨h1, _, h3⟩ := orderB_iff.1 h
  have hk' : k < ys.length := by omega
  have := h1 ys[k] (List.getElem_mem hk')
  exact ⟨ys[k].toNat, by rw [List.getElem?_eq_getElem hk']; congr 1; omega, by omega⟩

set_option maxHeartbeats 4000000 in
theorem points_yes (w : World) (a : Option Addr) (c : Nat) (yss : List (List Int)) (h : RdII w w.heap.size a yss) (hv : ballotsB yss = true) :
    Calls Try.prog 7 #[.slice a yss.length c] w (RetI 2 w (some (ptsF (wide yss) yss yss.length))) := by
  obtain ⟨⟨hl1, hl2⟩, ⟨hw1, hw2⟩, hall⟩ := ballotsB_iff.1 hv
  have hin : ∀ b ∈ yss, b.length = wide yss := fun b hb => (orderB_iff.1 (hall b hb)).2.2
  obtain ⟨b, o, y0, a0, c0, rfl, hbb, hcell0, hc0, hr0, hy0⟩ := h.get (k := 0) (by omega)
  rw [Nat.add_zero] at hcell0
  have hw0 := wide_of_get hy0.out
  have L := Lib.hid (areBallots_any w (some ⟨b, o, none⟩) c yss h (by omega) (fun b hb => by rw [hin b hb]; omega))
  rw [hv] at L
  have Hall := Lib.hid hall
  have Hin := Lib.hid hin
  rw [hw0] at Hall Hin hw1 hw2 ⊢
  clear hall hin hw0
  generalize y0.length = n at *
  go_enter Try.func7, Try.ntmps7
  go_wp2_with fail
  refine L.out.mono ?_
  rintro e w0 ⟨rfl, hbw0⟩
  have hcell1 := hcell0
  rw [← hbw0.cell (p := ⟨b, o, none⟩) hbb] at hcell1
  go_wp2_with (at_make; refine wpList_make_blk _ rfl _ _ 26 rfl 2 (.int .i64 0) 8 Try.underlying26 info_i64p rfl _ _ n rfl rfl (by omega) (by unfold maxLen; omega) ?_)
  intro w1 hb1 hbw hs1
  rw [ints_replicate] at hb1
  have hbel := below_then hbw0 hbw
  have hord : w.heap.size ≤ w0.heap.size := hbw0.size
  clear hcell0 hr0 hs1 hbw hbw0 hcell1
  go_wp2_with fail
  go_loopw [19] (fun i wr => ∃ k : Nat, k ≤ yss.length ∧ i = .int .i64 k ∧ Blk wr w0.heap.size (ints (ptsF n yss k)) 2 ∧ Below w.heap.size w wr) (fun i _ => yss.length - (intOf i).toNat)
  case atStart => exact ⟨0, Nat.zero_le _, rfl, hb1, hbel⟩
  case round =>
    clear hb1 hbel
    obtain ⟨k, hk, rfl, hb, hw⟩ := hrel
    by_cases hlt : k < yss.length
    · obtain ⟨b1, o1, ys, a1, c1, e1, _, hcell, hc1, hr1, hy1⟩ := (h.below hw (Nat.le_refl _)).get hlt
      injection e1 with e1
      injection e1 with e11 e12
      subst e11 e12
      have hord1 := Hall.out _ (List.mem_of_getElem? hy1.out)
      have hys := Hin.out _ (List.mem_of_getElem? hy1.out)
      have hbd := Lib.hid (ptsF_bd (n := n) yss k (by omega))
      have hln := Lib.hid (ptsF_length n yss k)
      have HS : Hid (ptsF n yss (k + 1) = ptsB n ys n (ptsF n yss k)) := by
        show ptsB n (yss.getD k []) n (ptsF n yss k) = _
        rw [show yss.getD k [] = ys from by simp [List.getD, hy1.out]]
      generalize ptsF n yss k = os at *
      subst hys
      have Hord := Lib.hid hord1
      clear hord1 h
      obtain ⟨wo, rfl⟩ : ∃ wo : World, wo = wr := ⟨_, rfl⟩
      go_wp2_with fail
      go_loopw [25] (fun j wi => ∃ q : Nat, q ≤ ys.length ∧ j = .int .i64 q ∧ Blk wi w0.heap.size (ints (ptsB ys.length ys q os)) 2 ∧ Below w.heap.size w wi) (fun j _ => ys.length - (intOf j).toNat)
      case atStart => exact ⟨0, Nat.zero_le _, rfl, hb, hw⟩
      case round =>
        obtain ⟨q, hq, rfl, hbi, hwi⟩ := hrel
        by_cases hql : q < ys.length
        · obtain ⟨p, hp, hpn⟩ := order_get Hord.out hql
          have Hp := Lib.hid hp
          have cB : wr.cell? ⟨b, o + k, none⟩ = some (.slice a1 ys.length c1) := by
            rw [hwi.cell (p := ⟨b, o + k, none⟩) hbb, ← hw.cell (p := ⟨b, o + k, none⟩) hbb]; exact hcell
          have hr2 : Rd wr w.heap.size a1 (ints ys) := by
            rcases hr1 with hr1 | ⟨b2, o2, ea, hb2, hc2⟩
            · exact .inl hr1
            · exact .inr ⟨b2, o2, ea, hb2, fun j hj => by rw [hwi.cell (p := ⟨b2, o2 + j, none⟩) hb2, ← hw.cell (p := ⟨b2, o2 + j, none⟩) hb2]; exact hc2 j hj⟩
          obtain ⟨b2, o2, x, rfl, hb2, hcx, hx⟩ := hr2.get hql
          have hxp := hx.out
          rw [Hp.out] at hxp
          injection hxp with hxp
          subst hxp
          have hcp := hbi.at (k := p) (by rw [ptsB_length, hln.out]; exact hpn)
          have hfp := hbi.free p
          have hset := hbi.setI p ((ptsB ys.length ys q os).getD p 0 + ((ys.length : Int) - 1 - q))
          have HA : Hid ((ptsB ys.length ys q os).set p ((ptsB ys.length ys q os).getD p 0 + ((ys.length : Int) - 1 - q)) = ptsB ys.length ys (q + 1) os) := by
            show _ = addAt _ (ys.getD q 0).toNat _
            rw [getD_of_get Hp.out, Int.toNat_natCast]; rfl
          rw [HA.out] at hset
          have hbd2 := ptsB_bd (n := ys.length) hbd.out ys q (by omega) (by omega) p
          generalize (ptsB ys.length ys q os).getD p 0 = v at *
          obtain ⟨v0, v1⟩ := hbd2
          have hbel := below_sto hwi hord p (.int .i64 (v + ((ys.length : Int) - 1 - q)))
          clear hbi hwi hr1 hcell hx hb hw
          go_wp2
          go_roundw
          case rel => exact ⟨q + 1, by omega, by go_num, hset, hbel⟩
          case measure => simp [intOf]; omega
        · have : q = ys.length := by omega
          subst this
          rw [← HS.out] at hbi
          clear hr1 hcell hb hw
          go_wp2
          go_roundw
          case rel => exact ⟨k + 1, by omega, by go_num, hbi, hwi⟩
          case measure => simp [intOf]; omega
    · have : k = yss.length := by omega
      subst this
      have hR := RetI.blk hb hord (by rw [ptsF_length]; omega) hw
      rw [ptsF_length] at hR
      have HR := Lib.hid hR
      clear hR
      go_wp2
      go_ret2
      exact HR.out
theorem points_no (w : World) (a : Option Addr) (c : Nat) (yss : List (List Int)) (h : RdII w w.heap.size a yss) (hl : yss.length ≤ 1048576) (hin : ∀ b ∈ yss, b.length ≤ 1048576) (hv : ballotsB yss = false) :
    Calls Try.prog 7 #[.slice a yss.length c] w (RetI 2 w none) := by
  have L := Lib.hid (areBallots_any w a c yss h (by omega) (fun b hb => by have := hin b hb; omega))
  rw [hv] at L
  clear h hin
  go_enter Try.func7, Try.ntmps7
  go_wp2_with fail
  refine L.out.mono ?_
  rintro e w0 ⟨rfl, hb⟩
  go_wp2_with fail
  go_ret2
  exact RetI.no hb
theorem points_any (w : World) (a : Option Addr) (c : Nat) (yss : List (List Int)) (h : RdII w w.heap.size a yss) (hl : yss.length ≤ 1048576) (hin : ∀ b ∈ yss, b.length ≤ 1048576) :
    Calls Try.prog 7 #[.slice a yss.length c] w (RetI 2 w (pointsF yss)) := by
  unfold pointsF
  cases hv : ballotsB yss with
  | true => exact points_yes w a c yss h hv
  | false => exact points_no w a c yss h hl hin hv
end Go.Proofs.Ythofpfnccgfohaa
