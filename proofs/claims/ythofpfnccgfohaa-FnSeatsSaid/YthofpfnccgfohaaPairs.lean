/-
  PairsOf: the reference's and the program's answers are one plain function.
-/
import Derived.Test.YthofpfnccgfohaaPoints
import Derived.StillTailTactics
namespace Go.Proofs.Ythofpfnccgfohaa
set_option linter.unusedVariables false
set_option linter.unusedSimpArgs false
open Go.RowKit

/-- One place of a ballot before t others behind it. -/
def prI (n : Nat) (ys : List Int) (p : Nat) : Nat → List Int → List Int
  | 0, os => os
  | t + 1, os => addAt (prI n ys p t os) ((ys.getD p 0).toNat * n + (ys.getD (p + 1 + t) 0).toNat) 1
/-- All pairs of the first p places of a ballot, and those behind them. -/
def prA (n : Nat) (ys : List Int) : Nat → List Int → List Int
  | 0, os => os
  | p + 1, os => prI n ys p (n - (p + 1)) (prA n ys p os)
def prF (n : Nat) (yss : List (List Int)) : Nat → List Int
  | 0 => List.replicate (n * n) 0
  | i + 1 => prA n (yss.getD i []) n (prF n yss i)
theorem prI_length (n : Nat) (ys : List Int) (p t : Nat) (os : List Int) : (prI n ys p t os).length = os.length := by
  induction t with
  | zero => rfl
  | succ t ih => simp [prI, addAt_length, ih]
theorem prA_length (n : Nat) (ys : List Int) (p : Nat) (os : List Int) : (prA n ys p os).length = os.length := by
  induction p with
  | zero => rfl
  | succ p ih => simp [prA, prI_length, ih]
theorem prF_length (n : Nat) (yss : List (List Int)) (i : Nat) : (prF n yss i).length = n * n := by
  induction i with
  | zero => simp [prF]
  | succ i ih => simp [prF, prA_length, ih]
theorem prI_bd {n : Nat} {os : List Int} {m : Int} (h : ∀ j, 0 ≤ os.getD j 0 ∧ os.getD j 0 ≤ m) (ys : List Int) (p t : Nat) : ∀ q, 0 ≤ (prI n ys p t os).getD q 0 ∧ (prI n ys p t os).getD q 0 ≤ m + t := by
  induction t with
  | zero => simpa [prI] using h
  | succ t ih =>
    intro q
    have := addAt_bd ih ((ys.getD p 0).toNat * n + (ys.getD (p + 1 + t) 0).toNat) (d := 1) (e := 1) (by omega) (by omega) q
    simp only [prI]
    omega
theorem prA_bd {n : Nat} {os : List Int} {m : Int} (h : ∀ j, 0 ≤ os.getD j 0 ∧ os.getD j 0 ≤ m) (ys : List Int) (p : Nat) (hn : n ≤ 12) : ∀ q, 0 ≤ (prA n ys p os).getD q 0 ∧ (prA n ys p os).getD q 0 ≤ m + 12 * p := by
  induction p with
  | zero => simpa [prA] using h
  | succ p ih =>
    intro q
    have := prI_bd (n := n) ih ys p (n - (p + 1)) q
    simp only [prA]
    omega
theorem prF_bd {n : Nat} (yss : List (List Int)) (i : Nat) (hn : n ≤ 12) : ∀ q, 0 ≤ (prF n yss i).getD q 0 ∧ (prF n yss i).getD q 0 ≤ 144 * i := by
  induction i with
  | zero => intro q; simp only [prF, List.getD, List.getElem?_replicate]; split <;> simp
  | succ i ih =>
    intro q
    have := prA_bd ih (yss.getD i []) n hn q
    simp only [prF]
    omega
def pairsF (yss : List (List Int)) : Option (List Int) := if ballotsB yss then some (prF (wide yss) yss yss.length) else none
theorem idx_lt {x y n : Nat} (hx : x < n) (hy : y < n) : x * n + y < n * n := by
  have : x * n + n ≤ n * n := by
    have := Nat.mul_le_mul_right n (show x + 1 ≤ n from hx)
    rw [Nat.add_mul, Nat.one_mul] at this
    exact this
  omega

set_option maxHeartbeats 4000000 in
theorem pairs_any (w : World) (a : Option Addr) (c : Nat) (yss : List (List Int)) (h : RdII w w.heap.size a yss) (hv : ballotsB yss = true) :
    Calls Try.prog 21 #[.slice a yss.length c] w fun e w' => ∃ g, e = .returned (.slice (some ⟨g, 0, none⟩) (wide yss * wide yss) (wide yss * wide yss)) ∧ w.heap.size ≤ g ∧ Blk w' g (ints (prF (wide yss) yss yss.length)) 2 ∧ Below w.heap.size w w' := by
  obtain ⟨⟨hl1, hl2⟩, ⟨hw1, hw2⟩, hall⟩ := ballotsB_iff.1 hv
  have hin : ∀ b ∈ yss, b.length = wide yss := fun b hb => (orderB_iff.1 (hall b hb)).2.2
  obtain ⟨b, o, y0, a0, c0, rfl, hbb, hcell0, hc0, hr0, hy0⟩ := h.get (k := 0) (by omega)
  rw [Nat.add_zero] at hcell0
  have hw0 := wide_of_get hy0.out
  have Hall := Lib.hid hall
  have Hin := Lib.hid hin
  rw [hw0] at Hall Hin hw1 hw2 ⊢
  clear hall hin hw0
  generalize y0.length = n at *
  have hnn1 : n * n ≤ 144 := Nat.mul_le_mul hw2 hw2
  go_enter Try.func21, Try.ntmps21
  go_wp2_with (at_make; refine wpList_make_blk _ rfl _ _ 26 rfl 2 (.int .i64 0) 8 Try.underlying26 info_i64p rfl _ _ (n * n) rfl rfl (by omega) (by unfold maxLen; omega) ?_)
  intro w1 hb1 hbel hs1
  rw [ints_replicate] at hb1
  clear hcell0 hr0 hs1
  go_wp2_with fail
  go_loopw [21] (fun i wr => ∃ k : Nat, k ≤ yss.length ∧ i = .int .i64 k ∧ Blk wr w.heap.size (ints (prF n yss k)) 2 ∧ Below w.heap.size w wr) (fun i _ => yss.length - (intOf i).toNat)
  case atStart => exact ⟨0, Nat.zero_le _, rfl, hb1, hbel⟩
  case round =>
    clear hb1 hbel
    obtain ⟨k, hk, rfl, hb, hw⟩ := hrel
    by_cases hlt : k < yss.length
    · obtain ⟨b1, o1, ys, a1, c1, e1, _, hcell, hc1, hr1, hy1⟩ := (h.below hw (Nat.le_refl _)).get hlt
      injection e1 with e1
      injection e1 with e11 e12
      subst e11 e12
      have hord1 := Hall.out _ (List.mem_of_getElem? hy1.out)
      have hys := Hin.out _ (List.mem_of_getElem? hy1.out)
      have hbd := Lib.hid (prF_bd (n := n) yss k (by omega))
      have hln := Lib.hid (prF_length n yss k)
      have HS : Hid (prF n yss (k + 1) = prA n ys n (prF n yss k)) := by
        show prA n (yss.getD k []) n (prF n yss k) = _
        rw [show yss.getD k [] = ys from by simp [List.getD, hy1.out]]
      generalize prF n yss k = os at *
      subst hys
      have Hord := Lib.hid hord1
      clear hord1 h
      obtain ⟨b2, o2, rfl, hb2, hcx⟩ := hr1.at (k := 0) (by omega)
      have Hcx : Hid (∀ j, j < ys.length → w.cell? ⟨b2, o2 + j, none⟩ = some (.int .i64 (ys.getD j 0))) := fun j hj => by rw [← hw.cell (p := ⟨b2, o2 + j, none⟩) hb2]; exact hcx j hj
      clear hcx hr1
      obtain ⟨wo, rfl⟩ : ∃ wo : World, wo = wr := ⟨_, rfl⟩
      go_wp2_with fail
      go_loopw [27] (fun j wi => ∃ q : Nat, q ≤ ys.length ∧ j = .int .i64 q ∧ Blk wi w.heap.size (ints (prA ys.length ys q os)) 2 ∧ Below w.heap.size w wi) (fun j _ => ys.length - (intOf j).toNat)
      case atStart => exact ⟨0, Nat.zero_le _, rfl, hb, hw⟩
      case round =>
        obtain ⟨q, hq, rfl, hbi, hwi⟩ := hrel
        by_cases hql : q < ys.length
        · obtain ⟨p, hp, hpn⟩ := order_get Hord.out hql
          have Hp := Lib.hid hp
          have hbd2 := Lib.hid (prA_bd (n := ys.length) hbd.out ys q (by omega))
          have hln2 : Hid ((prA ys.length ys q os).length = ys.length * ys.length) := by show _ = _; rw [prA_length, hln.out]
          have HS2 : Hid (prA ys.length ys (q + 1) os = prI ys.length ys q (ys.length - (q + 1)) (prA ys.length ys q os)) := rfl
          generalize prA ys.length ys q os = oa at *
          obtain ⟨wp, rfl⟩ : ∃ wp : World, wp = wr := ⟨_, rfl⟩
          have cq := Hcx.out q hql
          rw [← hwi.cell (p := ⟨b2, o2 + q, none⟩) hb2, getD_of_get Hp.out] at cq
          by_cases hq1 : q + 1 < ys.length
          · have hcq : ¬ c1 = q + 1 := by omega
            clear hcell hb hw
            go_wp2_with fail
            go_loopw [37] (fun j wi => ∃ t : Nat, t ≤ ys.length - (q + 1) ∧ j = .int .i64 t ∧ Blk wi w.heap.size (ints (prI ys.length ys q t oa)) 2 ∧ Below w.heap.size w wi) (fun j _ => ys.length - (intOf j).toNat)
            case atStart => exact ⟨0, Nat.zero_le _, rfl, hbi, hwi⟩
            case round =>
              obtain ⟨t, ht, rfl, hbt, hwt⟩ := hrel
              by_cases htl : t < ys.length - (q + 1)
              · have hqt : q + 1 + t < ys.length := by omega
                obtain ⟨p2, hp2, hpn2⟩ := order_get Hord.out hqt
                have Hp2 := Lib.hid hp2
                have c2x := Hcx.out (q + 1 + t) hqt
                rw [← hwt.cell (p := ⟨b2, o2 + (q + 1 + t), none⟩) hb2, getD_of_get Hp2.out, ← Nat.add_assoc o2 (q + 1) t] at c2x
                have hix := idx_lt hpn hpn2
                have hcp := hbt.at (k := p * ys.length + p2) (by rw [prI_length, hln2.out]; exact hix)
                have hfp := hbt.free (p * ys.length + p2)
                have hset := hbt.setI (p * ys.length + p2) ((prI ys.length ys q t oa).getD (p * ys.length + p2) 0 + 1)
                have HA : Hid ((prI ys.length ys q t oa).set (p * ys.length + p2) ((prI ys.length ys q t oa).getD (p * ys.length + p2) 0 + 1) = prI ys.length ys q (t + 1) oa) := by
                  show _ = addAt _ ((ys.getD q 0).toNat * ys.length + (ys.getD (q + 1 + t) 0).toNat) _
                  rw [getD_of_get Hp.out, getD_of_get Hp2.out, Int.toNat_natCast, Int.toNat_natCast]; rfl
                rw [HA.out] at hset
                have hbd3 := prI_bd (n := ys.length) hbd2.out ys q t (p * ys.length + p2)
                generalize (prI ys.length ys q t oa).getD (p * ys.length + p2) 0 = v at *
                obtain ⟨v0, v1⟩ := hbd3
                have hbel := below_sto hwt (Nat.le_refl _) (p * ys.length + p2) (.int .i64 (v + 1))
                have hm1 : p * ys.length ≤ 144 := by omega
                clear hbt hwt hbi hwi
                go_wp2
                go_roundw
                case rel => exact ⟨t + 1, by omega, by go_num, hset, hbel⟩
                case measure => simp [intOf]; omega
              · have : t = ys.length - (q + 1) := by omega
                subst this
                rw [← HS2.out] at hbt
                clear hbi hwi
                go_wp2
                go_roundw
                case rel => exact ⟨q + 1, by omega, by go_num, hbt, hwt⟩
                case measure => simp [intOf]; omega
          · have hq2 : ys.length - (q + 1) = 0 := by omega
            rw [hq2] at HS2
            have hbi' : Blk wp w.heap.size (ints (prA ys.length ys (q + 1) os)) 2 := by rw [HS2.out]; exact hbi
            have Hq2 := Lib.hid hq2
            clear hq2 hcell hb hw hbi hp
            by_cases hcc : c1 = q + 1
            case' pos => subst hcc
            all_goals
              go_wp2_with fail
              go_loopw [37] (fun j wi => j = .int .i64 0 ∧ Blk wi w.heap.size (ints (prA ys.length ys (q + 1) os)) 2 ∧ Below w.heap.size w wi) (fun _ _ => 0)
              case atStart => exact ⟨rfl, hbi', hwi⟩
              case round =>
                clear hbi' hwi
                obtain ⟨rfl, hbi', hwi⟩ := hrel
                go_wp2
                go_roundw
                case rel => exact ⟨q + 1, by omega, by go_num, hbi', hwi⟩
                case measure => simp [intOf]; omega
        · have : q = ys.length := by omega
          subst this
          rw [← HS.out] at hbi
          clear hcell hb hw
          go_wp2
          go_roundw
          case rel => exact ⟨k + 1, by omega, by go_num, hbi, hwi⟩
          case measure => simp [intOf]; omega
    · have : k = yss.length := by omega
      subst this
      go_wp2
      go_ret
      exact ⟨_, rfl, Nat.le_refl _, hb, hw⟩
end Go.Proofs.Ythofpfnccgfohaa
