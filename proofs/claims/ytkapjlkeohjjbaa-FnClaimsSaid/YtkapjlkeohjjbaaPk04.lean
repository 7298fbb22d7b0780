/-
  Part 4 of what the proof stands on: lemmas and contracts, each with its conditions ahead of the colon.
-/
import Derived.Laws.FloatArith
import Derived.WalkLawsBesides
import Derived.Deep.RegionHeld
import Derived.Test.YtkapjlkeohjjbaaRows
import Derived.OpenShut
import Derived.ChangeAt
import Derived.Lib.SliceRun
import Derived.WalkKit
import Derived.BigQuiet
import Derived.Still
import Derived.Deep.RegionHeld3
import Derived.Deep.DeepCutAuto
import Derived.Deep.CutBlock
import Derived.Test.YtkapjlkeohjjbaaPk01
import Derived.Test.YtkapjlkeohjjbaaPk02
import Derived.Test.YtkapjlkeohjjbaaPk03
namespace Go.Proofs.Ytkapjlkeohjjbaa
set_option linter.unusedVariables false
set_option linter.unusedSimpArgs false
open Ieee

theorem lit67 (m : Nat) : m * 67108864 = 33554432 * (2 * m) := by omega
theorem log2_is {m k : Nat} (h1 : 2 ^ k ≤ m) (h2 : m < 2 ^ (k + 1)) : m.log2 = k := by
  have hm : m ≠ 0 := by have := Nat.two_pow_pos k; omega
  have l1 : 2 ^ m.log2 ≤ m := Nat.log2_self_le hm
  have l2 : m < 2 ^ (m.log2 + 1) := Nat.lt_log2_self
  have a1 : k < m.log2 + 1 := pow_lt_of (by omega)
  have a2 : m.log2 < k + 1 := pow_lt_of (by omega)
  omega
/-- What is left over of a quotient. -/
theorem quot_near (D n : Nat) (hn : 0 < n) : (2 * (D / n) + (D % n != 0).toNat) * n ≤ 2 * D + n ∧ 2 * D ≤ (2 * (D / n) + (D % n != 0).toNat) * n + n := by
  have h1 := Nat.div_add_mod D n
  have h2 := Nat.mod_lt D hn
  rw [Nat.add_mul, Nat.mul_assoc, Nat.mul_comm (D / n) n]
  generalize n * (D / n) = x at *
  generalize D % n = r at *
  by_cases h : r = 0
  · subst h
    simp only [bne_self_eq_false, Bool.toNat_false, Nat.zero_mul]
    omega
  · have : (r != 0) = true := by simp [h]
    rw [this, Bool.toNat_true, Nat.one_mul]
    omega
set_option maxHeartbeats 1000000 in
theorem div_is (N S : Nat) (hN : 1 ≤ N) (hN2 : N ≤ 10000) (hS : 1 ≤ S) (hS2 : S < 256) :
    ∃ r V, single.div (single.nearest false N 0) (single.nearest false S 0) = some r ∧ Is single r V ∧ U ∣ V ∧ (V * S) * 4194304 ≤ (N * W) * 4194304 + N * W ∧ (N * W) * 4194304 ≤ (V * S) * 4194304 + N * W := by
  obtain ⟨m, ⟨i, x1, x2, x3, x4⟩, m1, m2⟩ := single_int N hN (by omega)
  obtain ⟨n, ⟨j, y1, y2, y3, y4⟩, n1, n2⟩ := single_int S hS (by omega)
  have hW : W = 2 ^ eW := rfl
  obtain ⟨ei, hei⟩ : ∃ ei, ei = (i + 1074).toNat := ⟨_, rfl⟩
  obtain ⟨ej, hej⟩ : ∃ ej, ej = (j + 1074).toNat := ⟨_, rfl⟩
  rw [← hei] at x4
  rw [← hej] at y4
  have i1 : 23 + ei < 14 + eW := by
    refine pow_lt_of ?_
    rw [Nat.pow_add, Nat.pow_add, ← hW]
    have a1 : 2 ^ 23 * 2 ^ ei ≤ m * 2 ^ ei := Nat.mul_le_mul_right _ (by omega)
    have a2 : N * W < 2 ^ 14 * W := Nat.mul_lt_mul_of_pos_right (by omega) (Nat.two_pow_pos _)
    omega
  have i2 : eW < 24 + ei := by
    refine pow_lt_of ?_
    rw [Nat.pow_add, ← hW]
    have a1 : m * 2 ^ ei < 2 ^ 24 * 2 ^ ei := Nat.mul_lt_mul_of_pos_right (by omega) (Nat.two_pow_pos _)
    have a2 : 1 * W ≤ N * W := Nat.mul_le_mul_right _ hN
    omega
  have j1 : 23 + ej < 8 + eW := by
    refine pow_lt_of ?_
    rw [Nat.pow_add, Nat.pow_add, ← hW]
    have a1 : 2 ^ 23 * 2 ^ ej ≤ n * 2 ^ ej := Nat.mul_le_mul_right _ (by omega)
    have a2 : S * W < 2 ^ 8 * W := Nat.mul_lt_mul_of_pos_right (by omega) (Nat.two_pow_pos _)
    omega
  have j2 : eW < 24 + ej := by
    refine pow_lt_of ?_
    rw [Nat.pow_add, ← hW]
    have a1 : n * 2 ^ ej < 2 ^ 24 * 2 ^ ej := Nat.mul_lt_mul_of_pos_right (by omega) (Nat.two_pow_pos _)
    have a2 : 1 * W ≤ S * W := Nat.mul_le_mul_right _ hS
    omega
  have hlm : m.log2 = 23 := log2_is (by omega) (by omega)
  have hln : n.log2 = 23 := log2_is (by omega) (by omega)
  obtain ⟨mag, hmag⟩ : ∃ mag, mag = 2 * (m <<< 25 / n) + (m <<< 25 % n != 0).toNat := ⟨_, rfl⟩
  have hdiv : single.div (single.nearest false N 0) (single.nearest false S 0) = some (single.nearest false mag (i - j - 26)) := by
    unfold Format.div
    rw [x1, y1]
    simp only [Datum.quotient, Option.map_some]
    rw [if_neg (by omega)]
    show some (single.write (.number _ _ _)) = _
    rw [show single.fractionBits + 2 + n.log2 - m.log2 = 25 from by rw [hlm, hln]; rfl, ← hmag]
    show some (single.nearest (false ^^ false) mag (i - j - ((25 : Nat) : Int) - 1)) = _
    have : i - j - ((25 : Nat) : Int) - 1 = i - j - 26 := by omega
    rw [this]; rfl
  have hsh : m <<< 25 = m * 33554432 := by rw [Nat.shiftLeft_eq]
  have hq1 : 16777216 ≤ m * 33554432 / n := by rw [Nat.le_div_iff_mul_le (by omega)]; omega
  have hq2 : m * 33554432 / n < 67108864 := by rw [Nat.div_lt_iff_lt_mul (by omega)]; omega
  obtain ⟨q1, q2⟩ := quot_near (m * 33554432) n (by omega)
  rw [hsh] at hmag
  rw [← hmag] at q1 q2
  have hst : (m * 33554432 % n != 0).toNat ≤ 1 := Bool.toNat_le _
  have g1 : 33554432 ≤ mag := by omega
  have g2 : mag < 134217728 := by omega
  have gl1 : 25 ≤ mag.log2 := by
    have : 25 < mag.log2 + 1 := pow_lt_of (by have := Nat.lt_log2_self (n := mag); omega)
    omega
  have gl2 : mag.log2 ≤ 26 := by
    have : mag.log2 < 27 := pow_lt_of (by have := Nat.log2_self_le (n := mag) (by omega); omega)
    omega
  obtain ⟨V, mm, hI, _, _, v1, v2, _, v3⟩ := nearest_val single mag (i - j - 26) (by omega) (by have h9 := eW_is; omega) (by decide)
    (by rw [sgl_lp]; show (-149 : Int) ≤ i - j - 26 + mag.log2 - ((23 : Nat) : Int); have h9 := eW_is; omega)
    (by rw [sgl_lp]; show i - j - 26 + (mag.log2 : Int) - ((23 : Nat) : Int) - -149 + 2 < ((255 : Nat) : Int); have h9 := eW_is; omega)
  have hfb : mag.log2 - single.fractionBits = mag.log2 - 23 := rfl
  rw [hfb] at v1 v2 v3
  obtain ⟨eP, heP⟩ : ∃ eP, eP = (i - j - 26 + 1074).toNat := ⟨_, rfl⟩
  rw [← heP] at v1 v2 v3
  have hd8 : 2 ^ (mag.log2 - 23) ≤ 8 := by
    have : 2 ^ (mag.log2 - 23) ≤ 2 ^ 3 := Nat.pow_le_pow_right (by omega) (by omega)
    omega
  refine ⟨_, V, hdiv, ⟨mm, hI⟩, ?_, ?_⟩
  · refine Nat.dvd_trans ?_ v3
    unfold U
    rw [← Nat.pow_add]
    exact Nat.pow_dvd_pow 2 (by have h8 := eU_is; have h9 := eW_is; omega)
  · -- all in halves of what the last place counts
    have hE : 0 < 2 ^ eP := Nat.two_pow_pos _
    have hX : 0 < 2 ^ ej := Nat.two_pow_pos _
    have he1 : 2 ^ eP * 2 ^ ej * 67108864 = 2 ^ ei * W := by
      rw [hW, show (67108864 : Nat) = 2 ^ 26 from by decide, ← Nat.pow_add, ← Nat.pow_add, ← Nat.pow_add]
      rw [show eP + ej + 26 = ei + eW from by have := eW_is; omega]
    have hdE : 2 ^ (mag.log2 - 23) * 2 ^ eP ≤ 8 * 2 ^ eP := Nat.mul_le_mul_right _ hd8
    generalize 2 ^ (mag.log2 - 23) * 2 ^ eP = dE at *
    generalize 2 ^ eP = E at *
    generalize 2 ^ ej = X at *
    generalize 2 ^ ei = Y at *
    have hWp : 0 < W := Nat.two_pow_pos _
    -- V against mag
    have w1 : V ≤ mag * E + 4 * E := by omega
    have w2 : mag * E ≤ V + 4 * E := by omega
    -- times n
    have k1 : V * n ≤ m * 67108864 * E + 5 * (E * n) := by
      have a1 := Nat.mul_le_mul_right n w1
      have a2 := Nat.mul_le_mul_right E q1
      rw [Nat.add_mul] at a1 a2
      have b1 : mag * E * n = mag * n * E := by ac_rfl
      have b2 : 4 * E * n = 4 * (E * n) := by ac_rfl
      have b3 : n * E = E * n := Nat.mul_comm _ _
      have b4 : 2 * (m * 33554432) * E = m * 67108864 * E := by rw [show 2 * (m * 33554432) = m * 67108864 from by omega]
      omega
    have k2 : m * 67108864 * E ≤ V * n + 5 * (E * n) := by
      have a1 := Nat.mul_le_mul_right n w2
      have a2 := Nat.mul_le_mul_right E q2
      rw [Nat.add_mul] at a1 a2
      have b1 : mag * E * n = mag * n * E := by ac_rfl
      have b2 : 4 * E * n = 4 * (E * n) := by ac_rfl
      have b3 : n * E = E * n := Nat.mul_comm _ _
      have b4 : 2 * (m * 33554432) * E = m * 67108864 * E := by rw [show 2 * (m * 33554432) = m * 67108864 from by omega]
      omega
    -- times X
    have c1 : V * n * X = V * S * W := by rw [Nat.mul_assoc, y4, Nat.mul_assoc]
    have c2 : m * 67108864 * E * X = N * W * W := by
      have : m * 67108864 * E * X = m * (E * X * 67108864) := by ac_rfl
      rw [this, he1, ← Nat.mul_assoc, x4]
    have c3 : E * n * X = E * S * W := by rw [Nat.mul_assoc, y4, Nat.mul_assoc]
    have d1 : V * S ≤ N * W + 5 * (E * S) := by
      have a := Nat.mul_le_mul_right X k1
      rw [Nat.add_mul, c1, c2, Nat.mul_assoc 5, c3, ← Nat.mul_assoc 5, ← Nat.add_mul] at a
      exact Nat.le_of_mul_le_mul_right a hWp
    have d2 : N * W ≤ V * S + 5 * (E * S) := by
      have a := Nat.mul_le_mul_right X k2
      rw [Nat.add_mul, c1, c2, Nat.mul_assoc 5, c3, ← Nat.mul_assoc 5, ← Nat.add_mul] at a
      exact Nat.le_of_mul_le_mul_right a hWp
    have d3 : 33554432 * (E * S) ≤ N * W := by
      refine Nat.le_of_mul_le_mul_right (c := W) ?_ hWp
      rw [← c2, Nat.mul_assoc 33554432, ← c3]
      have : m * 67108864 * E * X = 33554432 * ((2 * m) * E * X) := by
        rw [lit67 m, Nat.mul_assoc 33554432, Nat.mul_assoc 33554432]
      rw [this]
      refine Nat.mul_le_mul_left _ (Nat.mul_le_mul_right _ ?_)
      rw [Nat.mul_comm E n]
      exact Nat.mul_le_mul_right _ (by omega)
    exact ⟨by omega, by omega⟩
end Go.Proofs.Ytkapjlkeohjjbaa
namespace Go.Proofs.Ytkapjlkeohjjbaa
set_option linter.unusedVariables false
set_option linter.unusedSimpArgs false
open Ieee

theorem W_U : W = 1099511627776 * U := by
  unfold W U
  rw [show (1099511627776 : Nat) = 2 ^ 40 from by decide, ← Nat.pow_add]
  exact congrArg (fun k => 2 ^ k) (show eW = 40 + eU from rfl)
theorem W_x : W = 2048 * 2 ^ (eW - 11) := by
  unfold W
  rw [show (2048 : Nat) = 2 ^ 11 from by decide, ← Nat.pow_add]
  exact congrArg (fun k => 2 ^ k) (show eW = 11 + (eW - 11) from rfl)
theorem U_pos : 0 < U := Nat.two_pow_pos _
theorem W_pos : 0 < W := Nat.two_pow_pos _
theorem U_W (k : Nat) : U ∣ k * W := ⟨k * 1099511627776, by rw [W_U, ← Nat.mul_assoc, Nat.mul_comm _ U]⟩
theorem lt_53 {k : Nat} (h : k ≤ 8000) : k * W < 2 ^ 53 * U := by
  rw [W_U, ← Nat.mul_assoc]
  exact Nat.mul_lt_mul_of_pos_right (by omega) U_pos
/-- A small whole number as a double. -/
theorem double_int (k : Nat) (hk : k ≤ 1000) : Is double (floatOfInt .f64 (k : Int)) (k * W) := by
  have e1 : floatOfInt .f64 (k : Int) = double.nearest false k 0 := by
    show double.write (.number (decide ((k : Int) < 0)) (k : Int).natAbs 0) = _
    rw [decide_eq_false (by omega), Int.natAbs_natCast]; rfl
  rw [e1]
  exact double_nearest k 0 (by omega) (k * W) (by rw [show ((0 : Int) + 1074).toNat = eW from rfl]; unfold W; rfl) (U_W k) (lt_53 (by omega))
/-- A sum of parts, against the true one. -/
def TotOk (S M T : Nat) : Prop := U ∣ T ∧ (T * S) * 4194304 ≤ (M * W) * 4194304 + M * W ∧ (M * W) * 4194304 ≤ (T * S) * 4194304 + M * W
/-- A part as it is told, against the true one. -/
def Even (S N b : Nat) : Prop := ∃ V, Is Ieee.single b V ∧ U ∣ V ∧ (V * S) * 4194304 ≤ (N * W) * 4194304 + N * W ∧ (N * W) * 4194304 ≤ (V * S) * 4194304 + N * W
theorem tot_zero (S : Nat) : TotOk S 0 0 := ⟨Nat.dvd_zero _, by rw [Nat.zero_mul, Nat.zero_mul]; exact Nat.zero_le _, by rw [Nat.zero_mul, Nat.zero_mul]; exact Nat.zero_le _⟩
theorem small_gen {S X M w : Nat} (hS : 1 ≤ S) (hM : M ≤ 234 * S) (h : (X * S) * 4194304 ≤ (M * w) * 4194304 + M * w) : X ≤ 468 * w := by
  have h2 : M * w ≤ 234 * (w * S) := by
    have := Nat.mul_le_mul_right w hM
    rwa [Nat.mul_assoc, Nat.mul_comm S w] at this
  refine Nat.le_of_mul_le_mul_right (c := S) ?_ hS
  rw [Nat.mul_assoc 468 w S]
  generalize X * S = x at *
  generalize M * w = y at *
  generalize w * S = z at *
  omega
theorem small_of {S X M : Nat} (hS : 1 ≤ S) (hM : M ≤ 234 * S) (h : (X * S) * 4194304 ≤ (M * W) * 4194304 + M * W) : X ≤ 468 * W := small_gen hS hM h
theorem lt53 {X : Nat} (h : X ≤ 468 * W) : X < 2 ^ 53 * U := Nat.lt_of_le_of_lt h (lt_53 (by omega))
theorem add_gen {S M N T V w : Nat} (t3 : (T * S) * 4194304 ≤ (M * w) * 4194304 + M * w) (t4 : (M * w) * 4194304 ≤ (T * S) * 4194304 + M * w) (v3 : (V * S) * 4194304 ≤ (N * w) * 4194304 + N * w) (v4 : (N * w) * 4194304 ≤ (V * S) * 4194304 + N * w) :
    ((T + V) * S) * 4194304 ≤ ((M + N) * w) * 4194304 + (M + N) * w ∧ ((M + N) * w) * 4194304 ≤ ((T + V) * S) * 4194304 + (M + N) * w := by
  rw [Nat.add_mul T V S, Nat.add_mul M N w]
  generalize T * S = x at *
  generalize V * S = y at *
  generalize M * w = z at *
  generalize N * w = u at *
  omega
theorem end_gen {S T m : Nat} (hS : 1 ≤ S) (t3 : (T * S) * 4194304 ≤ (m * S) * 4194304 + m * S) (t4 : (m * S) * 4194304 ≤ (T * S) * 4194304 + m * S) : T * 4194304 ≤ m * 4194304 + m ∧ m * 4194304 ≤ T * 4194304 + m := by
  constructor
  · refine Nat.le_of_mul_le_mul_right (c := S) ?_ hS
    rw [Nat.add_mul, Nat.mul_right_comm T, Nat.mul_right_comm m]; exact t3
  · refine Nat.le_of_mul_le_mul_right (c := S) ?_ hS
    rw [Nat.add_mul, Nat.mul_right_comm T, Nat.mul_right_comm m]; exact t4
theorem gap_gen {G e w x R : Nat} (hG : G * 4194304 ≤ e * w) (he : e ≤ 234) (hw : w = 2048 * x) (hx : 0 < x) (hR : x ≤ R) : G < R := by
  have h5 : e * w ≤ 234 * w := Nat.mul_le_mul_right _ he
  generalize e * w = y at *
  omega
theorem sub_gen {T y : Nat} (c1 : T * 4194304 ≤ y * 4194304 + y) (c2 : y * 4194304 ≤ T * 4194304 + y) : (y - T) * 4194304 ≤ y ∧ (T - y) * 4194304 ≤ y := by omega
theorem widen_bits {b V : Nat} (h : Is single b V) (hd : U ∣ V) (hlt : V < 2 ^ 53 * U) : ∃ r, floatToFloatBits .f32 b .f64 = some r ∧ Is double r V := by
  have hI := widen_is h hd hlt
  obtain ⟨m, p, h1, _⟩ := h
  obtain ⟨n, q, g1, _⟩ := id hI
  refine ⟨double.write (single.read b), ?_, hI⟩
  unfold floatToFloatBits
  rw [if_neg (by decide)]
  have e1 : FloatKind.f32.decode b = .number false m p := h1
  rw [e1]
  have e2 : FloatKind.f64.decode (FloatKind.f64.encode (.number false m p)) = .number false n q := by rw [← h1]; exact g1
  simp only [e2]
  rw [h1]; rfl
theorem tot_step {S M N T b t : Nat} (hS : 1 ≤ S) (hM : M + N ≤ 234 * S) (hT : TotOk S M T) (hb : Even S N b) (ht : Is double t T) :
    ∃ r t2 T2, floatToFloatBits .f32 b .f64 = some r ∧ floatBits .add .f64 t r = some t2 ∧ Is double t2 T2 ∧ TotOk S (M + N) T2 := by
  obtain ⟨V, v1, v2, v3, v4⟩ := hb
  obtain ⟨t1, t3, t4⟩ := hT
  obtain ⟨c1, c2⟩ := add_gen t3 t4 v3 v4
  have hs := lt53 (small_of hS hM c1)
  obtain ⟨r, r1, r2⟩ := widen_bits v1 v2 (by omega)
  obtain ⟨t2, a1, a2⟩ := add_is ht r2 t1 v2 hs
  exact ⟨r, t2, T + V, r1, a1, a2, Nat.dvd_add t1 v2, c1, c2⟩
theorem tot_end {S e T : Nat} (hS : 1 ≤ S) (hT : TotOk S (e * S) T) : T * 4194304 ≤ (e * W) * 4194304 + e * W ∧ (e * W) * 4194304 ≤ T * 4194304 + e * W := by
  obtain ⟨_, t3, t4⟩ := hT
  rw [Nat.mul_right_comm e S W] at t3 t4
  exact end_gen hS t3 t4
/-- What the sum may be off by. -/
def oneMore (e : Nat) : Option Nat := double.add 4607182418800017408 (floatOfInt .f64 (e : Int))
def thou (b : Nat) : Option Nat := double.mul 4562254508917369340 b
def thrOk (e : Nat) : Bool := match oneMore e with
  | none => false
  | some s => match thou s with
    | none => false
    | some r => match double.read r with
      | .number false m p => decide (double.leastPlace ≤ p) && decide (-1074 ≤ p) && decide (2 ^ (eW - 11) ≤ m * 2 ^ (p + 1074).toNat)
      | _ => false
theorem thr_table : (List.range 235).all thrOk = true := by decide +kernel
theorem thr_is {e : Nat} (h : e ≤ 234) : ∃ s r R, oneMore e = some s ∧ thou s = some r ∧ Is double r R ∧ 2 ^ (eW - 11) ≤ R := by
  have h1 := List.all_eq_true.1 thr_table e (List.mem_range.2 (by omega))
  unfold thrOk at h1
  cases hs : oneMore e with
  | none => rw [hs] at h1; cases h1
  | some s =>
    rw [hs] at h1
    simp only at h1
    cases hr : thou s with
    | none => rw [hr] at h1; cases h1
    | some r =>
      rw [hr] at h1
      simp only at h1
      cases hd : double.read r with
      | infinity n => rw [hd] at h1; cases h1
      | nan n f => rw [hd] at h1; cases h1
      | number n m p =>
        rw [hd] at h1
        cases n with
        | true => cases h1
        | false =>
          simp only [Bool.and_eq_true, decide_eq_true_eq] at h1
          exact ⟨s, r, _, rfl, hr, ⟨m, p, hd, h1.1.1, h1.1.2, rfl⟩, h1.2⟩
/-- The gap between the sum and the estate is small. -/
theorem gap_is {S e T t : Nat} (hS : 1 ≤ S) (he : e ≤ 234) (hT : TotOk S (e * S) T) (ht : Is double t T) :
    ∃ g s r, ((FloatKind.f64.format.order t (floatOfInt .f64 (e : Int)) == some .lt) = true ∧ floatBits .sub .f64 (floatOfInt .f64 (e : Int)) t = some g ∨ (FloatKind.f64.format.order t (floatOfInt .f64 (e : Int)) == some .lt) = false ∧ floatBits .sub .f64 t (floatOfInt .f64 (e : Int)) = some g) ∧
      floatBits .add .f64 4607182418800017408 (floatOfInt .f64 (e : Int)) = some s ∧ floatBits .mul .f64 4562254508917369340 s = some r ∧ (FloatKind.f64.format.order g r == some .lt) = true := by
  obtain ⟨s, r, R, h1, h2, h3, h4⟩ := thr_is he
  obtain ⟨c1, c2⟩ := tot_end hS hT
  have hE := double_int e (by omega)
  have hUT := hT.1
  have hEs : e * W < 2 ^ 53 * U := lt_53 (by omega)
  have hTs : T < 2 ^ 53 * U := by
    have h1 := lt_53 (k := 2 * e) (by omega)
    rw [Nat.mul_assoc] at h1
    generalize e * W = y at *
    omega
  have hsm : ∀ G, G * 4194304 ≤ e * W → G < R := fun G hG => gap_gen hG he W_x (Nat.two_pow_pos _) h4
  have hord := order_is ht hE
  have hord2 : FloatKind.f64.format.order t (floatOfInt .f64 (e : Int)) = _ := hord
  by_cases hlt : T < e * W
  · rw [if_pos hlt] at hord2
    obtain ⟨g, g1, g2⟩ := sub_is hE ht (U_W e) hUT (Nat.le_of_lt hlt) hEs
    have hg3 : FloatKind.f64.format.order g r = _ := order_is g2 h3
    rw [if_pos (hsm _ (sub_gen c1 c2).1)] at hg3
    exact ⟨g, s, r, .inl ⟨by rw [hord2]; rfl, g1⟩, h1, h2, by rw [hg3]; rfl⟩
  · rw [if_neg hlt] at hord2
    obtain ⟨g, g1, g2⟩ := sub_is ht hE hUT (U_W e) (Nat.le_of_not_lt hlt) hTs
    have hg3 : FloatKind.f64.format.order g r = _ := order_is g2 h3
    rw [if_pos (hsm _ (sub_gen c1 c2).2)] at hg3
    refine ⟨g, s, r, .inr ⟨?_, g1⟩, h1, h2, by rw [hg3]; rfl⟩
    rw [hord2]
    split <;> rfl
end Go.Proofs.Ytkapjlkeohjjbaa
namespace Go.Proofs.Ytkapjlkeohjjbaa
set_option linter.unusedVariables false
set_option linter.unusedSimpArgs false
open Go.RowKit

def flts (xs : List Nat) : List Value := xs.map fun x => Value.float .f32 x
theorem run_store_float (P : Program) (w : World) (a : Addr) (m : Mode) (k : FloatKind) (b : Nat) : (store a (.float k b) m).run P w = stored P w a (.float k b) m := run_store P w a _ m rfl
attribute [local go_sem] run_store_float
end Go.Proofs.Ytkapjlkeohjjbaa
namespace Go.Proofs.Ytkapjlkeohjjbaa
set_option linter.unusedVariables false
set_option linter.unusedSimpArgs false
open Ieee

theorem cut_none (neg : Bool) (n : Nat) : Toward.even.cut neg n 0 = n := by
  simp [Toward.cut, Nat.mod_one]
theorem read_word (neg : Bool) (a r : Nat) (hr : r < 4503599627370496) (ha : a < 2046) :
    double.read (double.word neg (a * 4503599627370496 + (4503599627370496 + r))) = .number neg (4503599627370496 + r) (-1074 + (a : Int)) := by
  have hsw : double.signWeight = 9223372036854775808 := by decide
  have hbi : double.binade = 4503599627370496 := by decide
  have hin : double.infRung = 9218868437227405312 := by decide
  have hlp : double.leastPlace = -1074 := by decide
  have h1 : double.word neg (a * 4503599627370496 + (4503599627370496 + r)) % 9223372036854775808 = a * 4503599627370496 + (4503599627370496 + r) := by
    unfold Format.word
    rw [hsw]
    split <;> omega
  have h2 : (double.word neg (a * 4503599627370496 + (4503599627370496 + r)) / 9223372036854775808 % 2 == 1) = neg := by
    unfold Format.word
    rw [hsw]
    cases neg
    · simp; omega
    · simp; omega
  unfold Format.read
  simp only [hsw, hbi, hin, hlp, h1, h2]
  rw [if_neg (by omega), if_pos (by omega)]
  congr 1
  · omega
  · omega
theorem wide_read (neg : Bool) (mag : Nat) (place : Int) (hm : 0 < mag) (h24 : mag < 16777216) (p0 : -149 ≤ place) (p1 : place ≤ 104) :
    ∃ m p, double.read (double.nearest neg mag place) = .number neg m p ∧ 0 < m := by
  have hlp : double.leastPlace = -1074 := by decide
  have hbi : double.binade = 4503599627370496 := by decide
  have hin : double.infRung = 9218868437227405312 := by decide
  have hfb : (double.fractionBits : Int) = 52 := by decide
  obtain ⟨L, hL⟩ : ∃ L, L = mag.log2 := ⟨_, rfl⟩
  have l1 : 2 ^ L ≤ mag := by rw [hL]; exact Nat.log2_self_le (by omega)
  have l2 : mag < 2 ^ (L + 1) := by rw [hL]; exact Nat.lt_log2_self
  have l3 : L ≤ 23 := by
    rcases Nat.lt_or_ge 23 L with h | h
    · have : 2 ^ 24 ≤ 2 ^ L := Nat.pow_le_pow_right (by omega) (by omega)
      omega
    · exact h
  have e1 : max (place + (L : Int) - 52) (-1074) = place + (L : Int) - 52 := by omega
  have e2 : (place - (place + (L : Int) - 52)).toNat = 52 - L := by omega
  have e3 : (place + (L : Int) - 52 - place).toNat = 0 := by omega
  have k1 : 4503599627370496 ≤ mag * 2 ^ (52 - L) := by
    have := Nat.mul_le_mul_right (2 ^ (52 - L)) l1
    rw [← Nat.pow_add, show L + (52 - L) = 52 from by omega] at this
    omega
  have k2 : mag * 2 ^ (52 - L) < 9007199254740992 := by
    have := Nat.mul_lt_mul_of_pos_right l2 (Nat.two_pow_pos (52 - L))
    rw [← Nat.pow_add, show L + 1 + (52 - L) = 53 from by omega] at this
    omega
  obtain ⟨r, hr⟩ : ∃ r, mag * 2 ^ (52 - L) = 4503599627370496 + r := ⟨mag * 2 ^ (52 - L) - 4503599627370496, by omega⟩
  have hnear : double.nearest neg mag place = double.word neg (((place + (L : Int) - 52) - (-1074)).toNat * 4503599627370496 + (4503599627370496 + r)) := by
    unfold Format.nearest
    rw [if_neg (by omega)]
    simp only [hlp, hbi, hin, hfb, ← hL, e1, e2, e3, cut_none, Nat.shiftLeft_eq]
    rw [hr, Nat.min_eq_left (by omega)]
  rw [hnear, read_word neg _ r (by omega) (by omega)]
  exact ⟨_, _, rfl, by omega⟩
theorem single_read (x : Nat) : (∃ n f, single.read x = .nan n f) ∨ (∃ n, single.read x = .infinity n) ∨ ∃ n m p, single.read x = .number n m p ∧ m < 16777216 ∧ -149 ≤ p ∧ p ≤ 104 := by
  have hsw : single.signWeight = 2147483648 := by decide
  have hbi : single.binade = 8388608 := by decide
  have hin : single.infRung = 2139095040 := by decide
  have hlp : single.leastPlace = -149 := by decide
  unfold Format.read
  simp only [hsw, hbi, hin, hlp]
  split
  · exact .inr (.inr ⟨_, _, _, rfl, by omega, by omega, by omega⟩)
  · split
    · exact .inr (.inr ⟨_, _, _, rfl, by omega, by omega, by omega⟩)
    · split
      · exact .inr (.inl ⟨_, rfl⟩)
      · exact .inl ⟨_, _, rfl⟩
theorem order_self (d : Datum) : (∃ n f, d = .nan n f) ∨ d.order d = some .eq := by
  cases d with
  | nan n f => exact .inl ⟨_, _, rfl⟩
  | infinity n => right; cases n <;> rfl
  | number n m p => right; simp [Datum.order]
end Go.Proofs.Ytkapjlkeohjjbaa
namespace Go.Proofs.Ytkapjlkeohjjbaa
set_option linter.unusedVariables false
set_option linter.unusedSimpArgs false
open Go.RowKit Ieee

theorem order_nan {d e : Datum} (h : ∃ n f, d = .nan n f) : d.order e = none := by obtain ⟨n, f, rfl⟩ := h; cases e <;> rfl
theorem order_nan' {d e : Datum} (h : ∃ n f, e = .nan n f) : d.order e = none := by obtain ⟨n, f, rfl⟩ := h; cases d <;> rfl
def one64 : Nat := 4607182418800017408
theorem one_read : double.read one64 = .number false 4503599627370496 (-52) := by decide +kernel
theorem quot_one {d : Datum} (h : ¬ ∃ n f, d = .nan n f) : ∃ e, Datum.quotient (double.fractionBits + 2) (.number false 4503599627370496 (-52)) d = some e := by
  cases d with
  | nan n f => exact absurd ⟨n, f, rfl⟩ h
  | infinity n => exact ⟨_, rfl⟩
  | number n m p =>
    unfold Datum.quotient
    by_cases h0 : m = 0
    · subst h0; exact ⟨_, by simp; rfl⟩
    · exact ⟨_, by simp only [if_neg h0]; rfl⟩
theorem div_one {r : Nat} (h : ¬ ∃ n f, double.read r = .nan n f) : ∃ v, floatBits .quo .f64 4607182418800017408 r = some v := by
  obtain ⟨e, he⟩ := quot_one h
  refine ⟨double.write e, ?_⟩
  show double.div one64 r = _
  unfold Format.div
  rw [one_read, he]; rfl
theorem wide_cases (x : Nat) : (∃ n f, single.read x = .nan n f) ∨ ∃ r, floatToFloatBits .f32 x .f64 = some r ∧ ¬ ∃ n f, double.read r = .nan n f := by
  rcases single_read x with h | ⟨n, h⟩ | ⟨n, m, p, h, h1, h2, h3⟩
  · exact .inl h
  · right
    refine ⟨double.write (.infinity n), ?_, ?_⟩
    · simp [floatToFloatBits, FloatKind.decode, FloatKind.format, FloatKind.encode, h]
    · have : double.read (double.write (.infinity n)) = .infinity n := by cases n <;> decide +kernel
      rw [this]; rintro ⟨_, _, e⟩; cases e
  · right
    have hr : ∃ m' p', double.read (double.write (.number n m p)) = .number n m' p' := by
      rcases Nat.eq_zero_or_pos m with h0 | h0
      · subst h0
        have : double.write (.number n 0 p) = double.word n 0 := by
          show double.nearest n 0 p = _
          unfold Format.nearest; rw [if_pos rfl]
        rw [this]
        cases n
        · exact ⟨0, -1074, by decide +kernel⟩
        · exact ⟨0, -1074, by decide +kernel⟩
      · obtain ⟨m', p', e, _⟩ := wide_read n m p h0 h1 h2 h3
        exact ⟨m', p', e⟩
    obtain ⟨m', p', e⟩ := hr
    refine ⟨double.write (.number n m p), ?_, ?_⟩
    · simp [floatToFloatBits, FloatKind.decode, FloatKind.format, FloatKind.encode, h, e, Datum.isInfinity]
    · rw [e]; rintro ⟨_, _, e'⟩; cases e'
end Go.Proofs.Ytkapjlkeohjjbaa
namespace Go.Proofs.Ytkapjlkeohjjbaa
set_option linter.unusedVariables false
set_option linter.unusedSimpArgs false
open Go.RowKit

attribute [local go_sem] run_store_float
@[simp] theorem flts_length (xs : List Nat) : (flts xs).length = xs.length := by simp [flts]
theorem flts_get {xs : List Nat} {j : Nat} (h : j < xs.length) : (flts xs)[j]? = some (.float .f32 (xs.getD j 0)) := by simp [flts, List.getD, List.getElem?_eq_getElem h]
theorem Rd.atF {w : World} {B : Nat} {a : Option Addr} {xs : List Nat} (h : Rd w B a (flts xs)) {k : Nat} (hk : k < xs.length) :
    ∃ b o, a = some ⟨b, o, none⟩ ∧ b < B ∧ ∀ j, j < xs.length → w.cell? ⟨b, o + j, none⟩ = some (.float .f32 (xs.getD j 0)) := by
  rcases h with h | ⟨b, o, ha, hb, hc⟩
  · have : (flts xs).length = 0 := by rw [h]; rfl
    rw [flts_length] at this; omega
  · exact ⟨b, o, ha, hb, fun j hj => by rw [hc j (by rw [flts_length]; exact hj), flts_get hj]⟩
theorem Blk.setF {w : World} {b : Nat} {t : TypeId} {xs : List Nat} (h : Blk w b (flts xs) t) (j : Nat) (x : Nat) : Blk (w.setCell ⟨b, j, none⟩ (.float .f32 x)) b (flts (xs.set j x)) t := by
  have := h.set j (.float .f32 x)
  rw [show (flts xs).set j (.float .f32 x) = flts (xs.set j x) from by simp [flts, List.map_set]] at this
  exact this
theorem info_f32 : (Try.prog.info? 30).map (fun i => (i.zero, i.size, i.bytes)) = some (some (.float .f32 0), 1, 4) := by kernel_rfl
end Go.Proofs.Ytkapjlkeohjjbaa
namespace Go.Proofs.Ytkapjlkeohjjbaa
set_option linter.unusedVariables false
set_option linter.unusedSimpArgs false
open Go.RowKit

/-- One part, as the program finds it. -/
def evenB (S N : Nat) : Nat := (Ieee.single.div (Ieee.single.nearest false N 0) (Ieee.single.nearest false S 0)).getD 0
theorem even_some (S N : Nat) (hS : 1 ≤ S) (hS2 : S < 256) (hN : N ≤ 10000) : floatBits .quo .f32 (floatOfInt .f32 (N : Int)) (floatOfInt .f32 (S : Int)) = some (evenB S N) ∧ Even S N (evenB S N) := by
  have e1 : ∀ k : Nat, floatOfInt .f32 (k : Int) = Ieee.single.nearest false k 0 := fun k => by
    show Ieee.single.write (.number (decide ((k : Int) < 0)) (k : Int).natAbs 0) = _
    rw [decide_eq_false (by omega), Int.natAbs_natCast]; rfl
  rw [e1, e1]
  show Ieee.single.div _ _ = _ ∧ _
  unfold evenB
  rcases Nat.eq_zero_or_pos N with h0 | h0
  · subst h0
    obtain ⟨n, ⟨j, y1, y2, y3, y4⟩, n1, n2⟩ := single_int S hS (by omega)
    have hz : Ieee.single.nearest false 0 0 = 0 := by unfold Ieee.Format.nearest; rw [if_pos rfl]; rfl
    have hr : Ieee.single.read 0 = .number false 0 (-149) := by decide
    have hd : Ieee.single.div (Ieee.single.nearest false 0 0) (Ieee.single.nearest false S 0) = some 0 := by
      rw [hz]
      unfold Ieee.Format.div
      rw [hr, y1]
      simp only [Ieee.Datum.quotient, Option.map_some]
      rw [if_neg (by omega)]
      simp only [Nat.zero_shiftLeft, Nat.zero_div, Nat.zero_mod, Nat.mul_zero, bne_self_eq_false, Bool.toNat_false, Nat.add_zero, Ieee.Format.write, Ieee.Format.nearest, if_true]
      rfl
    rw [hd]
    exact ⟨rfl, 0, is_zero _ (by decide), Nat.dvd_zero _, by simp, by simp⟩
  · obtain ⟨r, V, h1, h2, h3, h4, h5⟩ := div_is N S h0 hN hS hS2
    rw [h1]
    exact ⟨rfl, V, h2, h3, h4, h5⟩
attribute [local go_sem] run_store_float
set_option maxRecDepth 10000 in
set_option maxHeartbeats 4000000 in
theorem even_any (w : World) (a : Option Addr) (c : Nat) (xs : List Int) (e : Int) (h : Rd w w.heap.size a (ints xs)) (hv : claimsB xs e = true) (h6 : xs.length ≤ 6) (hx39 : ∀ x ∈ xs, x ≤ 39) :
    Calls Try.prog 22 #[.slice a xs.length c, .int .i64 e] w fun en w' => ∃ bs', en = .returned (.tuple #[.slice (some ⟨w.heap.size, 0, none⟩) xs.length xs.length, .bool true]) ∧ Blk w' w.heap.size (flts bs') 30 ∧ bs'.length = xs.length ∧ (∀ k, k < xs.length → (0 < xs.sum → Even xs.sum.toNat (e * xs.getD k 0).toNat (bs'.getD k 0)) ∧ (xs.sum = 0 → bs'.getD k 0 = 0)) ∧ Below w.heap.size w w' := by
  obtain ⟨⟨l1, l8⟩, hx, e0, e1⟩ := claimsB_iff.1 hv
  have hs39 : ∀ ys : List Int, (∀ x ∈ ys, 0 ≤ x ∧ x ≤ 39) → 0 ≤ ys.sum ∧ ys.sum ≤ 39 * ys.length := by
    intro ys
    induction ys with
    | nil => simp
    | cons y ys ih =>
      intro hh
      have h1 := ih (fun x hx => hh x (by simp [hx]))
      have h2 := hh y (by simp)
      simp only [List.sum_cons, List.length_cons]
      omega
  obtain ⟨s0, s1⟩ := hs39 xs (fun x hm => ⟨(hx x hm).1, hx39 x hm⟩)
  have LA := Lib.hid (areClaims_any w a c xs e h (by omega))
  rw [hv] at LA
  have LS := Lib.hid (fun v (hb : Below w.heap.size w v) => sumOf_any v a c xs (h.to hb) (by omega))
  have hws : wsum xs = xs.sum := claims_wsum hv
  rw [hws] at LS
  have HX : Hid (∀ x ∈ xs, 0 ≤ x ∧ x ≤ 39) := fun x hm => ⟨(hx x hm).1, hx39 x hm⟩
  have hS : xs.sum ≤ 234 := by omega
  have HR := Lib.hid h
  obtain ⟨S, hSn⟩ : ∃ S : Nat, xs.sum = S := ⟨xs.sum.toNat, by omega⟩
  obtain ⟨E, hEn⟩ : ∃ E : Nat, e = E := ⟨e.toNat, by omega⟩
  rw [hSn] at LS e1 hS ⊢
  subst hEn
  have E1 : E ≤ 234 := by omega
  have S0 : (0 : Int) ≤ (S : Int) := Int.natCast_nonneg _
  have E0 : (0 : Int) ≤ (E : Int) := Int.natCast_nonneg _
  clear hx hx39 h hv hws hs39 s0 s1 hSn
  go_enter Try.func22, Try.ntmps22
  go_wp2_with fail
  refine LA.out.mono ?_
  rintro en wQ ⟨rfl, rfl⟩
  clear LA
  go_wp2_with (at_make; refine wpList_make_blk _ rfl _ _ 41 rfl 30 (.float .f32 0) 4 Try.underlying41 info_f32 rfl _ _ xs.length rfl rfl (by omega) (by unfold maxLen; omega) ?_)
  intro w1 hb1 hw1 hs1
  have LS1 := Lib.hid (LS.out w1 hw1)
  have HW1 := Lib.hid hw1
  have HB1 : Hid (Blk w1 w.heap.size (flts (List.replicate xs.length 0)) 30) := by
    have : List.replicate xs.length (Value.float .f32 0) = flts (List.replicate xs.length 0) := by simp [flts]
    rw [Hid, ← this]; exact hb1
  have HS1 := Lib.hid hs1
  clear hb1 hw1 hs1 LS
  go_wp2_with fail
  refine LS1.out.mono ?_
  rintro en w2 ⟨rfl, rfl⟩
  by_cases hz : S = 0
  · subst hz
    have hng : ¬ (0 : Int) < ((0 : Nat) : Int) := by omega
    clear LS1
    go_wp2_with fail
    go_ret2
    refine ⟨List.replicate xs.length 0, rfl, HB1.out, by simp, fun k hk => ⟨fun h => by omega, fun _ => ?_⟩, HW1.out⟩
    simp [List.getD, List.getElem?_replicate, hk]
  have hpos : (0 : Int) < (S : Int) := by omega
  have HSm := Lib.hid (fun N hN => even_some S N (by omega) (by omega) hN)
  clear LS1
  go_wp2_with fail
  go_loopw [23] (fun i wr => ∃ (k : Nat) (d : List Nat), k ≤ xs.length ∧ i = .int .i64 k ∧ Hid (d.length = xs.length) ∧ Hid (Blk wr w.heap.size (flts d) 30) ∧ Hid (Below w.heap.size w wr) ∧ Hid (∀ j, j < k → Even S ((E : Int) * xs.getD j 0).toNat (d.getD j 0))) (fun i _ => xs.length - (intOf i).toNat)
  case atStart => exact ⟨0, List.replicate xs.length 0, Nat.zero_le _, rfl, by simp [Hid], HB1, HW1, fun j hj => by omega⟩
  case round =>
    obtain ⟨k, d, hk, rfl, hdl, hB, hW, hA⟩ := hrel
    have k0 : (0 : Int) ≤ (k : Int) := Int.natCast_nonneg _
    by_cases hlt : k < xs.length
    · have k1 : (k : Int) < (xs.length : Int) := by omega
      obtain ⟨b, o, x, ha, hbb, hck, hx⟩ := (HR.out.below hW.out (Nat.le_refl _)).get hlt
      subst ha
      obtain ⟨x0, x1⟩ := HX.out x (List.mem_of_getElem? hx.out)
      obtain ⟨X, hX⟩ : ∃ X : Nat, x = X := ⟨x.toNat, by omega⟩
      subst hX
      have hEX : E * X ≤ 234 * 39 := Nat.mul_le_mul E1 (by omega)
      have hEXi : (E : Int) * (X : Int) = ((E * X : Nat) : Int) := by rw [Int.natCast_mul]
      have hmul : (E : Int) * (X : Int) ≤ 10000 := by rw [hEXi]; omega
      have hmul0 : 0 ≤ (E : Int) * (X : Int) := by rw [hEXi]; omega
      obtain ⟨hq, hev⟩ := HSm.out (E * X) (by omega)
      rw [← hEXi] at hq
      have HQ : Hid (∀ v : World, (binOp BinOp.quo 30 (.float .f32 (floatOfInt .f32 ((E : Int) * (X : Int)))) (.float .f32 (floatOfInt .f32 (S : Int)))).run Try.prog v = .ok (.float .f32 (evenB S (E * X))) v) := fun v => run_float_arith v _ _ _ _ _ _ hq
      have hqv := HQ.out
      have hfr := hB.out.free k
      obtain ⟨old, hcell⟩ := hB.out.has (j := k) (by simp [flts]; rw [hdl.out]; exact hlt)
      have hset := hB.out.setF k (evenB S (E * X))
      have HSet := Lib.hid hset
      have HBel := Lib.hid (hW.out.setCell (p := ⟨w.heap.size, k, none⟩) (Nat.le_refl _) (.float .f32 (evenB S (E * X))))
      have HA2 : Hid (∀ j, j < k + 1 → Even S ((E : Int) * xs.getD j 0).toNat ((d.set k (evenB S (E * X))).getD j 0)) := fun j hj => by
        by_cases hjk : j = k
        · subst hjk
          have e1 : xs.getD j 0 = (X : Int) := by simp [List.getD, hx.out]
          rw [e1, hEXi, Int.toNat_natCast]
          have e2 : (d.set j (evenB S (E * X))).getD j 0 = evenB S (E * X) := by
            simp [List.getD, hdl.out, hlt]
          rw [e2]; exact hev
        · have e2 : (d.set k (evenB S (E * X))).getD j 0 = d.getD j 0 := by
            simp [List.getD, List.getElem?_set, Ne.symm hjk]
          rw [e2]
          exact hA.out j (by omega)
      have HD2 : Hid ((d.set k (evenB S (E * X))).length = xs.length) := by rw [Hid, List.length_set]; exact hdl.out
      clear hset hB hW hA hdl hev hq hx HQ hEX hEXi
      generalize evenB S (E * X) = ev at *
      go_wp2_with fail
      go_roundw
      case rel => exact ⟨k + 1, d.set k ev, by omega, by go_num, HD2, HSet, HBel, HA2⟩
      case measure => simp [intOf]; omega
    · obtain rfl : k = xs.length := by omega
      go_wp2_with fail
      go_ret2
      exact ⟨d, rfl, hB.out, hdl.out, fun k hk => ⟨fun _ => by rw [Int.toNat_natCast]; exact hA.out k hk, fun h => by omega⟩, hW.out⟩
end Go.Proofs.Ytkapjlkeohjjbaa
namespace Go.Proofs.Ytkapjlkeohjjbaa
set_option linter.unusedVariables false
set_option linter.unusedSimpArgs false
open Go.RowKit

/-- Bytes as the cells of a slice. -/
def byts (xs : List Int) : List Value := xs.map (Value.int .u8)
@[simp] theorem byts_length (xs : List Int) : (byts xs).length = xs.length := by simp [byts]
theorem byts_get (xs : List Int) (k : Nat) (hk : k < xs.length) : (byts xs)[k]? = some (.int .u8 (xs.getD k 0)) := by
  simp [byts, List.getD, List.getElem?_eq_getElem hk]
theorem Rd.atB {w : World} {B : Nat} {a : Option Addr} {xs : List Int} (h : Rd w B a (byts xs)) {k : Nat} (hk : k < xs.length) :
    ∃ b o, a = some ⟨b, o, none⟩ ∧ b < B ∧ ∀ j, j < xs.length → w.cell? ⟨b, o + j, none⟩ = some (.int .u8 (xs.getD j 0)) := by
  rcases h with h | ⟨b, o, ha, hb, hc⟩
  · have : (byts xs).length = 0 := by rw [h]; rfl
    simp at this; subst this; simp at hk
  · exact ⟨b, o, ha, hb, fun j hj => by rw [hc j (by simpa using hj)]; exact byts_get xs j hj⟩
section
open Go.ChangeShapes Go.WideShapes Go.ChangeAt
theorem rd_of_byts {w : World} {a : Option Addr} {len cap : Nat} {zs : List Int} (h : (a = none ∧ len = 0 ∧ cap = 0 ∧ zs = []) ∨
    ∃ x, a = some x ∧ len ≤ cap ∧ cap ≤ maxLen ∧ zs.length = cap ∧ (∀ i, i < zs.length → w.cell? (x.add i) = some (.int .u8 (zs.getD i 0))) ∧ ∀ n ∈ zs, (Lit.int .u8 n).wf = true) :
    Rd w w.heap.size a (byts (zs.take len)) ∧ (zs.take len).length = len := by
  rcases h with ⟨rfl, rfl, rfl, rfl⟩ | ⟨x, rfl, h1, h2, h3, h4, _⟩
  · exact ⟨.inl rfl, rfl⟩
  · have hl : (zs.take len).length = len := by simp; omega
    refine ⟨?_, hl⟩
    by_cases h0 : len = 0
    · subst h0; exact .inl rfl
    · have hx := h4 0 (by omega)
      have hx0 : x.add 0 = x := rfl
      rw [hx0] at hx
      obtain ⟨b, o, s⟩ := x
      have hs : s = none := by
        cases s with
        | none => rfl
        | some s =>
          unfold World.cell? at hx
          split at hx <;> simp at hx
      subst hs
      refine .inr ⟨b, o, rfl, World.block_lt_of_cell? w _ hx, fun j hj => ?_⟩
      rw [byts_length, hl] at hj
      have hj2 := h4 j (by omega)
      have ea : (⟨b, o, none⟩ : Addr).add j = ⟨b, o + j, none⟩ := by unfold Addr.add; split <;> simp_all
      rw [ea] at hj2
      rw [hj2, byts_get _ _ (by omega)]
      simp [List.getD, List.getElem?_take, hj]
/-- Bytes that come in as an argument. -/
theorem open_byts {H : Type} {enc : TypeId × Value → H} {P : Program} {w : World} {t e : TypeId} {a : Option Addr} {len cap : Nat} {d : DataW H} {ps : List MemPlace} (ht : P.underlying t = some (.slice e)) (he : P.underlying e = some (.int .u8)) (hc : P.cellsOf e = 1)
    (h : DataW.Trod enc P w 0 (fun _ => true) true t (.slice a len cap) d ps) :
    ∃ xs : List Int, xs.length = len ∧ Rd w w.heap.size a (byts xs) ∧ xs.length ≤ 9223372036854775807 ∧ ∀ x ∈ xs, 0 ≤ x ∧ x ≤ 255 := by
  obtain ⟨fuel, hf⟩ := h
  rcases open_ints ht he hc hf with ⟨hcs, _⟩ | ⟨x, l, c, zs, hcs, _, hl, hm, hz, _, hcell, hwz⟩
  · simp [Value.cells] at hcs
    obtain ⟨rfl, rfl, rfl⟩ := hcs
    exact ⟨[], rfl, Rd.nil _ _ _, by simp, by simp⟩
  · simp [Value.cells] at hcs
    obtain ⟨rfl, rfl, rfl⟩ := hcs
    have := rd_of_byts (.inr ⟨_, rfl, hl, hm, by simpa using hz, hcell, hwz⟩)
    refine ⟨_, this.2, this.1, by rw [this.2]; unfold maxLen at hm; omega, fun y hy => ?_⟩
    have hw := hwz y (List.mem_of_mem_take hy)
    simp only [Lit.wf, Bool.and_eq_true, decide_eq_true_eq] at hw
    exact ⟨hw.1, hw.2⟩
end
/-- The number below n that bytes choose. -/
def atF (xs : List Int) (i n : Int) : Int := if n ≤ 1 then 0 else if i < xs.length then xs.getD i.toNat 0 % n else (i * 37 + 11) % n
theorem atF_bd {xs : List Int} {i n : Int} (hn : 1 ≤ n) : 0 ≤ atF xs i n ∧ atF xs i n < n := by
  unfold atF
  split
  · omega
  · split
    · exact ⟨Int.emod_nonneg _ (by omega), Int.emod_lt_of_pos _ (by omega)⟩
    · exact ⟨Int.emod_nonneg _ (by omega), Int.emod_lt_of_pos _ (by omega)⟩
set_option maxHeartbeats 2000000 in
theorem b10At_any (w : World) (a : Option Addr) (c : Nat) (xs : List Int) (i n : Int) (h : Rd w w.heap.size a (byts xs)) (hl : xs.length ≤ 1048576) (hx : ∀ x ∈ xs, 0 ≤ x ∧ x ≤ 255) (hi : 0 ≤ i) (hi2 : i ≤ 1000000) :
    Calls Try.prog 6 #[.slice a xs.length c, .int .i64 i, .int .i64 n] w fun e w' => e = .returned (.int .i64 (atF xs i n)) ∧ w = w' := by
  by_cases h1 : n ≤ 1
  · have HF : Hid (atF xs i n = 0) := by simp [Hid, atF, h1]
    clear h hx
    go_enter Try.func6, Try.ntmps6
    go_wp2_with fail
    go_ret
    exact ⟨ret_int HF.out.symm, rfl⟩
  · by_cases h2 : i < xs.length
    · obtain ⟨k, rfl⟩ : ∃ k : Nat, i = k := ⟨i.toNat, by omega⟩
      have hk : k < xs.length := by omega
      have HF : Hid (atF xs k n = xs.getD k 0 % n) := by simp [Hid, atF, h1, hk]
      obtain ⟨b, o, rfl, hbb, hc⟩ := h.atB hk
      have hck := hc k hk
      have hxk := hx (xs.getD k 0) (by simp only [List.getD, List.getElem?_eq_getElem hk]; exact List.getElem_mem _)
      generalize xs.getD k 0 = x at *
      obtain ⟨x0, x1⟩ := hxk
      clear h hx hc
      go_enter Try.func6, Try.ntmps6
      go_wp2_with fail
      go_ret
      exact ⟨ret_int HF.out.symm, rfl⟩
    · have HF : Hid (atF xs i n = (i * 37 + 11) % n) := by simp [Hid, atF, h1, h2]
      clear h hx
      go_enter Try.func6, Try.ntmps6
      go_wp2_with fail
      go_ret
      exact ⟨ret_int HF.out.symm, rfl⟩
def longB (xs ys : List Int) : Bool := decide (1048576 < xs.length) || decide (1048576 < ys.length)
theorem b10Long_any (w : World) (a b : Option Addr) (c d : Nat) (xs ys : List Int) (hl : xs.length ≤ 9223372036854775807) (hm : ys.length ≤ 9223372036854775807) :
    Calls Try.prog 5 #[.slice a xs.length c, .slice b ys.length d] w fun e w' => e = .returned (.bool (longB xs ys)) ∧ w = w' := by
  cases h1 : decide ((1048576 : Int) < (xs.length : Int)) with
  | true =>
    have HF : Hid (longB xs ys = true) := by
      have := of_decide_eq_true h1
      have h : 1048576 < xs.length := by omega
      simp [Hid, longB, h]
    go_enter Try.func5, Try.ntmps5
    go_wp2_with fail
    go_ret
    exact ⟨ret_bool HF.out.symm, rfl⟩
  | false =>
    have HF : Hid (longB xs ys = decide ((1048576 : Int) < (ys.length : Int))) := by
      have := of_decide_eq_false h1
      have h : ¬ 1048576 < xs.length := by omega
      show _ = _
      unfold longB
      rw [decide_eq_false h, Bool.false_or]
      exact decide_eq_decide.2 (by omega)
    go_enter Try.func5, Try.ntmps5
    go_wp2_with fail
    go_ret
    exact ⟨ret_bool HF.out.symm, rfl⟩
set_option maxHeartbeats 400000 in
theorem b10Ints_any (w : World) (a b : Option Addr) (c d : Nat) (xs : List Int) (hx : Rd w w.heap.size a (ints xs)) (hy : Rd w w.heap.size b (ints xs)) (hlx : xs.length ≤ 1099511627776) :
    Calls Try.prog 15 #[.slice a xs.length c, .slice b xs.length d] w fun e w' => e = .returned (.bool true) ∧ ∃ n, w' = w.drewN n := by
  have hb1 : ((xs.length : Int) != (xs.length : Int)) = false := by simp
  go_enter Try.func15, Try.ntmps15
  go_wp2
  go_loopw [13] (fun i wr => ∃ k n : Nat, k ≤ xs.length ∧ i = .int .i64 k ∧ wr = w.drewN n) (fun i _ => xs.length - (intOf i).toNat)
  case atStart => exact ⟨0, 0, Nat.zero_le _, rfl, rfl⟩
  case round =>
    obtain ⟨k, n, hk, rfl, rfl⟩ := hrel
    by_cases hlt : k < xs.length
    · obtain ⟨b1, o1, x, rfl, _, hcx, hx'⟩ := hx.get hlt
      obtain ⟨b2, o2, y, rfl, _, hcy, hy'⟩ := hy.get (k := k) (by omega)
      have hxy : x = y := by
        have h1 := hx'.out
        rw [hy'.out] at h1
        injection h1 with h1
        exact h1.symm
      subst hxy
      have hne : (x != x) = false := by simp
      clear hx hy
      go_wp2
      go_quiet (fail)
      go_wp2
      go_roundw
      case rel => exact ⟨k + 1, n + nq, by omega, by go_num, by first | rfl | exact World.drewN_drewN _ _ _⟩
      case measure => simp [intOf]; omega
    · have : k = xs.length := by omega
      subst this
      go_wp2
      go_ret
      exact ⟨rfl, _, rfl⟩
end Go.Proofs.Ytkapjlkeohjjbaa
namespace Go.Proofs.Ytkapjlkeohjjbaa
set_option linter.unusedVariables false
set_option linter.unusedSimpArgs false
open Go.RowKit

/-- A source over a slice of bytes, some of which are used. -/
def Src (w : World) (b : Nat) (a : Option Addr) (n c : Nat) (p : Nat) : Prop := ∃ seed : Int, (0 ≤ seed ∧ seed < 18446744073709551616) ∧ Blk w b [.slice a n c, .int .i64 p, .int .u64 seed] 77
theorem Src.same {w w' : World} {b n c p : Nat} {a : Option Addr} (h : Src w b a n c p) (hb : Below w.heap.size w w') : Src w' b a n c p := by
  obtain ⟨s, h1, h2⟩ := h
  exact ⟨s, h1, h2.same hb⟩
theorem l00From_any (w : World) (a : Option Addr) (n c : Nat) :
    Calls Try.prog 47 #[.slice a n c] w fun e w' => e = .returned (.pointer (some ⟨w.heap.size, 0, none⟩)) ∧ Src w' w.heap.size a n c 0 ∧ Below w.heap.size w w' ∧ w'.heap.size = w.heap.size + 1 := by
  have K := Blk.new w [.slice a n c, .int .i64 0, .int .u64 0] 77
  have B := bl1 w (.cells #[.slice a n c, .int .i64 0, .int .u64 0] 77)
  go_enter Try.func47, Try.ntmps47
  go_wp2_with fail
  go_ret
  exact ⟨rfl, ⟨0, by omega, K⟩, B, by simp⟩
theorem u64_eq (x : Int) : IntKind.u64.wrap x = x % 18446744073709551616 := by
  show (if (false && decide (x % 2 ^ 64 ≥ 2 ^ (64 - 1))) = true then x % 2 ^ 64 - 2 ^ 64 else x % 2 ^ 64) = _
  simp
theorem and255 (a : Nat) (ha : a < 18446744073709551616) : bits .and .u64 (a : Int) 255 = ((a % 256 : Nat) : Int) := by
  show IntKind.u64.wrap ((BitVec.ofInt 64 (a : Int) &&& BitVec.ofInt 64 (255 : Int)).toNat : Int) = _
  have h1 : (BitVec.ofInt 64 (255 : Int)).toNat = 255 := by decide
  have h2 : (BitVec.ofInt 64 (a : Int)).toNat = a := by rw [BitVec.ofInt_natCast, BitVec.toNat_ofNat]; exact Nat.mod_eq_of_lt (by omega)
  rw [BitVec.toNat_and, h1, h2, show a &&& 255 = a % 256 from Nat.and_two_pow_sub_one_eq_mod a 8, u64_eq]
  have := Nat.mod_lt a (show 0 < 256 by omega)
  omega
theorem u64_rng (x : Int) : 0 ≤ IntKind.u64.wrap x ∧ IntKind.u64.wrap x < 18446744073709551616 := by
  rw [u64_eq]; omega
theorem byte_end (S : Int) (h0 : 0 ≤ S) (h1 : S < 18446744073709551616) : 0 ≤ wrap64 (bits .and .u64 (S / 1099511627776) 255) ∧ wrap64 (bits .and .u64 (S / 1099511627776) 255) ≤ 255 := by
  obtain ⟨n, hn⟩ : ∃ n : Nat, S / 1099511627776 = n := ⟨(S / 1099511627776).toNat, by omega⟩
  rw [hn, and255 n (by omega)]
  have := Nat.mod_lt n (show 0 < 256 by omega)
  unfold wrap64
  omega
theorem src_end {w : World} {b n c p : Nat} {a : Option Addr} {sd : Int} (K : Blk w b [.slice a n c, .int .i64 p, .int .u64 sd] 77) (m k : Nat) (S : Int) (h0 : 0 ≤ S) (h1 : S < 18446744073709551616) :
    Src ((((w.drewN m).setCell ⟨b, 1, none⟩ (.int .i64 ((p : Int) + 1))).setCell ⟨b, 2, none⟩ (.int .u64 S)).drewN k) b a n c (p + 1) ∧ w.grownBy ((((w.drewN m).setCell ⟨b, 1, none⟩ (.int .i64 ((p : Int) + 1))).setCell ⟨b, 2, none⟩ (.int .u64 S)).drewN k) (some b) := by
  have K2 := (((K.drewN m).set 1 (.int .i64 ((p : Int) + 1))).set 2 (.int .u64 S)).drewN k
  simp only [List.set_cons_zero, List.set_cons_succ] at K2
  refine ⟨⟨S, ⟨h0, h1⟩, by simpa using K2⟩, ?_⟩
  have g1 : w.grownBy (w.drewN m) (some b) := ⟨rfl, rfl, rfl, Nat.le_refl _, fun _ _ _ => rfl⟩
  have st : ∀ (v : World) (j : Nat) (u : Value), v.grownBy (v.setCell ⟨b, j, none⟩ u) (some b) := fun v j u => ⟨rfl, rfl, rfl, by simp, fun i _ hi => Below.heap_setCell _ _ _ _ (fun e => hi (by simp [e]))⟩
  have g2 := grown_of_grown (grown_of_grown g1 (st _ 1 (.int .i64 ((p : Int) + 1)))) (st _ 2 (.int .u64 S))
  exact grown_of_grown g2 ⟨rfl, rfl, rfl, Nat.le_refl _, fun _ _ _ => rfl⟩
set_option maxRecDepth 10000 in
set_option maxHeartbeats 4000000 in
theorem next_any (w : World) (b : Nat) (a : Option Addr) (xs : List Int) (c p : Nat) (h : Src w b a xs.length c p) (hr : Rd w w.heap.size a (byts xs)) (hx : ∀ x ∈ xs, 0 ≤ x ∧ x ≤ 255) (hl : xs.length ≤ 1048576) (hp : p ≤ 1000000) :
    Calls Try.prog 66 #[.pointer (some ⟨b, 0, none⟩)] w fun e w' => ∃ x, e = .returned (.int .i64 x) ∧ (0 ≤ x ∧ x ≤ 255) ∧ Src w' b a xs.length c (p + 1) ∧ w.grownBy w' (some b) := by
  obtain ⟨sd, ⟨sd0, sd1⟩, K⟩ := h
  have c0 := K.cell 0
  have c1 := K.cell 1
  have c2 := K.cell 2
  have f0 := K.free 0
  have f1 := K.free 1
  have f2 := K.free 2
  simp only [List.getElem?_cons_zero, List.getElem?_cons_succ] at c0 c1 c2
  by_cases hlt : p < xs.length
  · obtain ⟨g, o, rfl, hg, hc⟩ := hr.atB hlt
    have ck := hc p hlt
    have hxk := hx (xs.getD p 0) (by simp only [List.getD, List.getElem?_eq_getElem hlt]; exact List.getElem_mem _)
    generalize xs.getD p 0 = y at *
    obtain ⟨y0, y1⟩ := hxk
    clear hr hc hx
    go_enter Try.func66, Try.ntmps66
    go_wp2_with fail
    go_quiet (fail)
    go_wp2_with fail
    go_quiet (fail)
    go_wp2_with fail
    go_quiet (fail)
    go_wp2_with fail
    go_ret
    exact ⟨_, rfl, ⟨y0, y1⟩, src_end K _ _ _ (u64_rng _).1 (u64_rng _).2⟩
  · clear hr hx
    go_enter Try.func66, Try.ntmps66
    go_wp2_with fail
    go_quiet (fail)
    go_wp2_with fail
    go_quiet (fail)
    go_wp2_with fail
    go_ret
    exact ⟨_, rfl, byte_end _ (u64_rng _).1 (u64_rng _).2, src_end K _ _ _ (u64_rng _).1 (u64_rng _).2⟩
set_option maxRecDepth 10000 in
set_option maxHeartbeats 4000000 in
theorem pick_any (w : World) (b : Nat) (a : Option Addr) (xs : List Int) (c p : Nat) (n : Int) (h : Src w b a xs.length c p) (hr : Rd w w.heap.size a (byts xs)) (hx : ∀ x ∈ xs, 0 ≤ x ∧ x ≤ 255) (hl : xs.length ≤ 1048576) (hp : p ≤ 900000) (hn : n ≤ 200) :
    Calls Try.prog 62 #[.pointer (some ⟨b, 0, none⟩), .int .i64 n] w fun e w' => ∃ (x : Int) (p' : Nat), e = .returned (.int .i64 x) ∧ (0 ≤ x ∧ (x < n ∨ x = 0)) ∧ p' ≤ p + 1 ∧ Src w' b a xs.length c p' ∧ w.grownBy w' (some b) := by
  by_cases h1 : n ≤ 1
  · clear hr hx
    go_enter Try.func62, Try.ntmps62
    go_wp2_with fail
    go_ret
    exact ⟨0, p, rfl, ⟨by omega, .inr rfl⟩, by omega, h, World.grownBy.refl _ _⟩
  · have L := Lib.hid (next_any w b a xs c p h hr hx hl (by omega))
    clear h hr hx
    go_enter Try.func62, Try.ntmps62
    go_wp2_with fail
    refine L.out.mono ?_
    rintro e w1 ⟨x, rfl, ⟨x0, x1⟩, hs, hg⟩
    have hm0 := Int.emod_nonneg x (show n ≠ 0 by omega)
    have hm1 := Int.emod_lt_of_pos x (show 0 < n by omega)
    go_wp2_with fail
    go_ret
    exact ⟨x % n, p + 1, rfl, ⟨hm0, .inl hm1⟩, by omega, hs, hg⟩
end Go.Proofs.Ytkapjlkeohjjbaa
namespace Go.Proofs.Ytkapjlkeohjjbaa
set_option linter.unusedVariables false
set_option linter.unusedSimpArgs false
open Go.RowKit

theorem touch_grown {w w' : World} {g : Nat} (h : Touch w w' g (g + 1)) : w.grownBy w' (some g) :=
  ⟨h.os, h.tape, h.output, h.size, fun q hq hne => h.block q hq (by have : q ≠ g := fun e => hne (by rw [e]); omega)⟩
theorem touch_below {w w1 w2 : World} {lo hi : Nat} (h : Touch w w1 lo hi) (hb : Below w.heap.size w1 w2) : Touch w w2 lo hi :=
  ⟨hb.os.trans h.os, hb.tape.trans h.tape, hb.output.trans h.output, Nat.le_trans h.size hb.size, fun k hk hd => (hb.block k hk).trans (h.block k hk hd)⟩
end Go.Proofs.Ytkapjlkeohjjbaa
namespace Go.Proofs.Ytkapjlkeohjjbaa
set_option linter.unusedVariables false
set_option linter.unusedSimpArgs false
open Go.RowKit

/-- A source over bytes that lie below it. -/
structure DS (w : World) (B0 b : Nat) (a : Option Addr) (xs : List Int) (c p : Nat) : Prop where
  S : Src w b a xs.length c p
  R : Rd w B0 a (byts xs)
  lb : B0 ≤ b
  hx : ∀ x ∈ xs, 0 ≤ x ∧ x ≤ 255
  hl : xs.length ≤ 1048576
section
variable {w w' : World} {B0 b c p : Nat} {a : Option Addr} {xs : List Int}
theorem DS.lt (h : DS w B0 b a xs c p) : b < w.heap.size := by obtain ⟨s, _, k⟩ := h.S; exact k.lt
theorem DS.same (h : DS w B0 b a xs c p) (hb : Below w.heap.size w w') : DS w' B0 b a xs c p :=
  ⟨h.S.same hb, h.R.below hb (by have := h.lt; have := h.lb; omega), h.lb, h.hx, h.hl⟩
theorem DS.touch {lo hi : Nat} (h : DS w B0 b a xs c p) (ht : Touch w w' lo hi) (hlo : b < lo) : DS w' B0 b a xs c p := by
  have := h.lt
  have := h.lb
  obtain ⟨s, h1, h2⟩ := h.S
  exact ⟨⟨s, h1, h2.touch ht (.inl hlo)⟩, h.R.touch ht (by omega) (by omega), h.lb, h.hx, h.hl⟩
theorem touch_of_below' {B : Nat} (h : Below B w w') : Touch w w' B w.heap.size := ⟨h.os, h.tape, h.output, h.size, fun k hk hd => h.block k (by omega)⟩
theorem touch_of_grown' {g : Nat} (h : w.grownBy w' (some g)) : Touch w w' g (g + 1) := Touch.of_grown h (Nat.le_refl _) (Nat.lt_succ_self _)
end
theorem pick_ds (w : World) (B0 b : Nat) (a : Option Addr) (xs : List Int) (c p : Nat) (n : Int) (h : DS w B0 b a xs c p) (hp : p ≤ 900000) (hn : n ≤ 200) :
    Calls Try.prog 62 #[.pointer (some ⟨b, 0, none⟩), .int .i64 n] w fun e w' => ∃ (x : Int) (p' : Nat), e = .returned (.int .i64 x) ∧ (0 ≤ x ∧ (x < n ∨ x = 0)) ∧ p' ≤ p + 1 ∧ DS w' B0 b a xs c p' ∧ Touch w w' b (b + 1) := by
  have hlt := h.lt
  refine (pick_any w b a xs c p n h.S (h.R.mono (by have := h.lb; omega)) h.hx h.hl hp hn).mono ?_
  rintro e w' ⟨x, p', rfl, hx, hp', hs, hg⟩
  exact ⟨x, p', rfl, hx, hp', ⟨hs, h.R.grown hg h.lb (by have := h.lb; omega), h.lb, h.hx, h.hl⟩, touch_of_grown' hg⟩
end Go.Proofs.Ytkapjlkeohjjbaa
namespace Go.Proofs.Ytkapjlkeohjjbaa
set_option linter.unusedVariables false
set_option linter.unusedSimpArgs false
open Go.RowKit

theorem append_manyC {P : Program} (wr : World) {ops : Array Oper} {rest : List Oper} {o : Oper} {a : Act} {Q : Exit → Act → World → Prop}
    (hg : o.guard = none) (s x : Operand) (t : TypeId) (hop : o.op = Op.call { callee := Callee.builtin Builtin.append, args := #[s, x], argTypes := #[t, t] })
    (base : Nat) (e : TypeId) (z : Value) (bytes : Nat) (h1 : P.underlying t = some (.slice e)) (hinfo : (P.info? e).map (fun i => (i.zero, i.size, i.bytes)) = some (some z, 1, bytes)) (hz : z.cells.size = 1)
    (v : Value) (n : Nat) (xs : List Int) (hs : a.eval s = v) (hown : wr.ownsRow base e 1 v n (ints xs)) (b off m c : Nat) (ys : List Int) (hx : a.eval x = .slice (some ⟨b, off, none⟩) m c) (hm : ys.length = m)
    (hcell : ∀ j, j < m → wr.cell? ⟨b, off + j, none⟩ = some (.int .i64 (ys.getD j 0))) (hb : bytes ≤ 64) (hn : n + m ≤ 1099511627776) (hbase : base ≤ wr.heap.size)
    (hK : ∀ v' w', w'.ownsRow base e 1 v' (n + m) (ints (xs ++ ys)) → wr.grownBy w' v.ownBlock → wpList P ops Q rest (a.put o.dst v') w') :
    wpList P ops Q (o :: rest) a wr := by
  obtain ⟨i, h2, h3, h4, h5⟩ := info_parts hinfo
  have hbb : (n + m) * bytes ≤ 140737488355328 := Nat.le_trans (Nat.mul_le_mul_left (n + m) hb) (by omega)
  refine wpList_append_own wr hg s x t hop base e i z 1 bytes h1 h2 h3 h4 h5 hz (by omega) v n (ints xs) hs hown ⟨b, off, none⟩ m c (ints ys) hx (by simp; omega) ?_ ?_ (by unfold maxLen; omega) hbb hbase (fun v' w' ho hgr _ => hK v' w' (by rw [ints_append]; exact ho) hgr)
  · intro j u hj
    have hj' : j < m := by have := (List.getElem?_eq_some_iff.1 hj).1; simp at this; omega
    have ea : (⟨b, off, none⟩ : Addr).add j = ⟨b, off + j, none⟩ := by unfold Addr.add; split <;> simp_all
    rw [ea, hcell j hj', ← hj, ints_get _ _ (by omega)]
  · intro u hu
    obtain ⟨x, _, rfl⟩ := List.mem_map.1 hu
    rfl
theorem own_emptyC (w : World) (e : Nat) : (w.alloc (.cells #[] e)).ownsRow w.heap.size e 1 (.slice (some ⟨w.heap.size, 0, none⟩) 0 0) 0 (ints []) := own_empty w e
set_option maxRecDepth 10000 in
set_option maxHeartbeats 2000000 in
theorem clone_any (w : World) (a : Option Addr) (c : Nat) (xs : List Int) (h : Rd w w.heap.size a (ints xs)) (hl1 : 1 ≤ xs.length) (hl : xs.length ≤ 1048576) :
    Calls Try.prog 33 #[.slice a xs.length c] w fun e w' => ∃ a' c', e = .returned (.slice a' xs.length c') ∧ OwnI 2 w' w.heap.size w'.heap.size a' c' xs ∧ Below w.heap.size w w' := by
  obtain ⟨b, o, rfl, hb, hcell⟩ := h.at (k := 0) (by omega)
  clear h
  have hen := fun (w : World) (a : Option Addr) (n c : Nat) => Lib.run_eql_slice_nil (P := Try.prog) w 24 2 a n c 0 0 Try.underlying24
  go_enter Try.func33, Try.ntmps33
  go_wp2_with (at_builtin; refine append_manyC _ rfl _ _ 24 rfl w.heap.size 2 (.int .i64 0) 8 Try.underlying24 info_i64p rfl _ 0 [] rfl (own_emptyC w 2) b o xs.length c xs rfl rfl ?_ (by omega) (by omega) (by simp) ?_)
  · intro j hj
    rw [(bl1 w _).cell (p := ⟨b, o + j, none⟩) hb, hcell j hj]
  intro v1 w1 o1 g1
  have B1 := below_append (bl1 w (.cells #[] 2)) (own_emptyC w 2) g1 (Nat.le_refl _) (by simp)
  obtain ⟨a1, c1, rfl, _, _⟩ := own_shape o1
  have HR : Hid (OwnI 2 w1 w.heap.size w1.heap.size a1 c1 xs) := OwnI.of_own (by simpa using o1)
  clear o1 g1 hcell
  go_wp2_with fail
  go_ret
  exact ⟨_, _, by simp, HR.out, B1⟩
end Go.Proofs.Ytkapjlkeohjjbaa
namespace Go.Proofs.Ytkapjlkeohjjbaa
set_option linter.unusedVariables false
set_option linter.unusedSimpArgs false
open Go.RowKit

/-- Numbers below k, each once. -/
structure Ordn (l : List Int) (k : Nat) : Prop where
  len : l.length = k
  mem : ∀ x ∈ l, 0 ≤ x ∧ x < k
  nd : l.Nodup
theorem Ordn.order {l : List Int} {k : Nat} (h : Ordn l k) : orderB l k = true := orderB_iff.2 ⟨h.mem, h.nd, h.len⟩
theorem Ordn.nil : Ordn [] 0 := ⟨rfl, fun x h => by simp at h, List.nodup_nil⟩
theorem Ordn.put {l : List Int} {k : Nat} (h : Ordn l k) (t : Nat) (ht : t ≤ k) : Ordn (l.take t ++ [(k : Int)] ++ l.drop t) (k + 1) := by
  have hk : (k : Int) ∉ l := fun hm => by have := (h.mem _ hm).2; omega
  refine ⟨by have := h.len; simp; omega, fun x hx => ?_, ?_⟩
  · simp only [List.mem_append, List.mem_singleton] at hx
    rcases hx with (hx | rfl) | hx
    · have := h.mem x (List.mem_of_mem_take hx); omega
    · omega
    · have := h.mem x (List.mem_of_mem_drop hx); omega
  · have hn := h.nd
    rw [← List.take_append_drop t l] at hn
    obtain ⟨n1, n2, n3⟩ := List.nodup_append.1 hn
    rw [List.append_assoc, List.singleton_append]
    refine List.nodup_append.2 ⟨n1, ?_, ?_⟩
    · refine List.nodup_cons.2 ⟨fun hm => hk (List.mem_of_mem_drop hm), n2⟩
    · intro x hx y hy
      rcases List.mem_cons.1 hy with rfl | hy
      · rintro rfl; exact hk (List.mem_of_mem_take hx)
      · exact n3 x hx y hy
def OrdR (w : World) (B0 b : Nat) (a : Option Addr) (xs : List Int) (c q n : Nat) (e : Ending) (w' : World) : Prop :=
  ∃ (g cc : Nat) (l : List Int) (p' : Nat), e = .returned (.slice (some ⟨g, 0, none⟩) n cc) ∧ Ordn l n ∧ OwnI 2 w' w.heap.size w'.heap.size (some ⟨g, 0, none⟩) cc l ∧ p' ≤ q ∧ DS w' B0 b a xs c p' ∧ Touch w w' b (b + 1)
set_option maxRecDepth 10000 in
set_option maxHeartbeats 8000000 in
theorem order7_ds (w : World) (B0 b : Nat) (a : Option Addr) (xs : List Int) (c p n : Nat) (h : DS w B0 b a xs c p) (hp : p ≤ 700000) (n8 : n ≤ 8) :
    Calls Try.prog 48 #[.pointer (some ⟨b, 0, none⟩), .int .i64 n] w (OrdR w B0 b a xs c (p + n) n) := by
  have hbw := h.lt
  have B0' := bl1 w (.cells #[] 2)
  have D0 := Lib.hid (h.same B0')
  have T0 := Lib.hid (Below.touch B0' b (b + 1))
  clear h B0'
  go_enter Try.func48, Try.ntmps48
  go_wp2_with fail
  go_loopw [6, 5] (fun iv v wr => ∃ (k g cc : Nat) (l : List Int) (p' : Nat), k ≤ n ∧ iv = .int .i64 k ∧ v = .slice (some ⟨g, 0, none⟩) k cc ∧ Hid (Ordn l k) ∧ Hid (OwnI 2 wr w.heap.size wr.heap.size (some ⟨g, 0, none⟩) cc l) ∧ p' ≤ p + k ∧ Hid (DS wr B0 b a xs c p') ∧ Hid (Touch w wr b (b + 1))) (fun iv _ _ => n - (intOf iv).toNat)
  case atStart => exact ⟨0, w.heap.size, 0, [], p, Nat.zero_le _, rfl, rfl, Ordn.nil, OwnI.of_own (xs := []) (own_empty w _), Nat.le_refl _, D0, T0⟩
  case round =>
    clear D0 T0
    obtain ⟨k, g, cc, l, p1, hk, rfl, rfl, HO, HI, hp1, HD, HT⟩ := hrel
    have k0 : (0 : Int) ≤ (k : Int) := Int.natCast_nonneg _
    by_cases hlt : k < n
    · have hki : (k : Int) < (n : Int) := by omega
      have e1 : (k : Int) + 1 = ((k + 1 : Nat) : Int) := by omega
      have L1 := Lib.hid (pick_ds wr B0 b a xs c p1 ((k : Int) + 1) HD.out (by omega) (by omega))
      have hcap : k ≤ cc := by have := HI.out.cap; rw [HO.out.len] at this; exact this
      clear e1
      go_wp2_with fail
      refine L1.out.mono ?_
      rintro e w1 ⟨x, p2, rfl, ⟨x0, x1⟩, hp2, D1, T1⟩
      obtain ⟨t, rfl⟩ : ∃ t : Nat, x = t := ⟨x.toNat, by omega⟩
      have ht : t ≤ k := by omega
      have htk : (t : Int) ≤ (k : Int) := by omega
      have htc : (t : Int) ≤ (cc : Int) := by omega
      have hkc : (k : Int) ≤ (cc : Int) := by omega
      have hdl : ((k : Int) - (t : Int)) = ((k - t : Nat) : Int) := by omega
      have hI1 := HI.out.touch T1 (.inr (by omega))
      have hrd : ∀ j, j < k → w1.cell? ⟨g, 0 + j, none⟩ = some (.int .i64 (l.getD j 0)) := fun j hj => by
        obtain ⟨b', o', e', _, hc'⟩ := hI1.rd.at (k := j) (by rw [HO.out.len]; exact hj)
        injection e' with e'; injection e' with e1 e2 e3
        subst e1 e2
        exact hc' j (by rw [HO.out.len]; exact hj)
      have hg1 : g < w1.heap.size := by
        have h2 := hI1.2 _ rfl
        have := T1.size
        simp only at h2; omega
      have Hrd := Lib.hid hrd
      have HT1 : Hid (Touch w w1 b (b + 1)) := HT.out.trans T1
      have HD1 := Lib.hid D1
      have hw1 := T1.size
      have hww := HT.out.size
      have hll := Lib.hid HO.out.len
      clear hrd hI1 D1 T1 L1 x0 x1 hdl
      go_wp2_with (at_builtin; refine append_manyC _ rfl _ _ 24 rfl w1.heap.size 2 (.int .i64 0) 8 Try.underlying24 info_i64p rfl _ 0 [] rfl (own_emptyC w1 2) g 0 t cc (l.take t) rfl (by rw [List.length_take, hll.out]; omega) ?_ (by omega) (by omega) (by simp) ?_)
      · intro j hj
        rw [(bl1 w1 _).cell (p := ⟨g, 0 + j, none⟩) hg1, Hrd.out j (by omega)]
        simp [List.getD, List.getElem?_take, hj]
      intro v7 w7 o7 g7
      have B7 := below_append (bl1 w1 (.cells #[] 2)) (own_emptyC w1 2) g7 (Nat.le_refl _) (by simp)
      try simp only [Nat.zero_add, List.nil_append] at o7
      have s7 := B7.size
      have H7 := Lib.hid o7
      clear o7 g7
      go_wp2_with (at_builtin; refine wpList_append_one _ rfl _ _ 24 rfl w1.heap.size 2 (.int .i64 0) 8 Try.underlying24 info_i64p rfl _ t _ rfl H7.out (.int .i64 k) rfl rfl (by omega) (by omega) s7 ?_)
      intro v8 w8 o8 g8
      have B8 := below_append B7 H7.out g8 (Nat.le_refl _) s7
      have H8 : Hid (w8.ownsRow w1.heap.size 2 1 v8 (t + 1) (ints (l.take t ++ [(k : Int)]))) := by rw [ints_append]; exact o8
      have s8 := B8.size
      have HB8 := Lib.hid B8
      clear o8 g8 B7 H7 s7 B8
      have Hrd8 : Hid (∀ j, j < k → w8.cell? ⟨g, 0 + j, none⟩ = some (.int .i64 (l.getD j 0))) := fun j hj => by rw [HB8.out.cell (p := ⟨g, 0 + j, none⟩) hg1]; exact Hrd.out j hj
      have HPut := Lib.hid (HO.out.put t ht)
      have hkt : t + 1 + (k - t) = k + 1 := by omega
      have hT8 : Hid (Touch w w8 b (b + 1)) := ⟨HB8.out.os.trans HT1.out.os, HB8.out.tape.trans HT1.out.tape, HB8.out.output.trans HT1.out.output, by have := HT1.out.size; omega, fun q hq hd => (HB8.out.block q (by have := HT1.out.size; omega)).trans (HT1.out.block q hq hd)⟩
      have HD8 := Lib.hid (HD1.out.same HB8.out)
      have HKt := Lib.hid hkt
      clear Hrd HD1 HT1 HD HT HI hkt
      by_cases hct : cc = t
      · have htk2 : t = k := by omega
        subst htk2
        subst hct
        have hz : l.drop cc = [] := List.drop_eq_nil_of_le (by rw [hll.out]; exact Nat.le_refl _)
        rw [hz, List.append_nil] at HPut
        have hz2 : l.take cc = l := List.take_of_length_le (by rw [hll.out]; exact Nat.le_refl _)
        clear hz hz2 htk htc hkc hcap ht
        go_wp2_with (at_builtin; refine append_manyC _ rfl _ _ 24 rfl w1.heap.size 2 (.int .i64 0) 8 Try.underlying24 info_i64p rfl _ (cc + 1) _ rfl H8.out g 0 0 0 [] rfl rfl (fun j hj => by omega) (by omega) (by omega) s8 ?_)
        intro v9 w9 o9 g9
        have B9 := Lib.hid (below_append HB8.out H8.out g9 (Nat.le_refl _) s8)
        try simp only [Nat.add_zero, List.append_nil] at o9
        obtain ⟨a9, c9, e9, _, _⟩ := own_shape o9
        subst e9
        obtain ⟨g10, tl, e10, _⟩ := own_open o9 (by omega)
        subst e10
        have H9 : Hid (OwnI 2 w9 w.heap.size w9.heap.size (some ⟨g10, 0, none⟩) c9 (l.take cc ++ [(cc : Int)])) := by
          have := OwnI.of_own (T := 2) (xs := l.take cc ++ [(cc : Int)]) (w := w9) (lo := w1.heap.size) (a := some ⟨g10, 0, none⟩) (c := c9) (by rw [HPut.out.len]; exact o9)
          exact this.mono (by omega) (Nat.le_refl _)
        have HT9 : Hid (Touch w w9 b (b + 1)) := by
          have hB : Below w.heap.size w8 w9 := below_of_grown g9 (by omega) (fun q hq => by have := (H8.out.lt q hq).1; omega)
          exact touch_below hT8.out hB
        have HD9 : Hid (DS w9 B0 b a xs c p2) := by
          have hB : Below w1.heap.size w8 w9 := below_of_grown g9 s8 (fun q hq => (H8.out.lt q hq).1)
          exact HD8.out.touch (touch_of_below' hB) (by omega)
        clear o9 g9
        go_wp2_with fail
        go_roundw
        case rel => exact ⟨cc + 1, g10, c9, _, p2, by omega, by go_num, by go_num, HPut, H9, by omega, HD9, HT9⟩
        case measure => simp [intOf]; omega
      · have hlt2 : (t : Int) < (cc : Int) := by omega
        have hne : ¬ cc = t := hct
        go_wp2_with (at_builtin; refine append_manyC _ rfl _ _ 24 rfl w1.heap.size 2 (.int .i64 0) 8 Try.underlying24 info_i64p rfl _ (t + 1) _ rfl H8.out g t (k - t) (cc - t) (l.drop t) rfl (by rw [List.length_drop, hll.out]) ?_ (by omega) (by omega) s8 ?_)
        · intro j hj
          have := Hrd8.out (t + j) (by omega)
          rw [Nat.zero_add] at this
          rw [this]
          simp [List.getD, List.getElem?_drop]
        intro v9 w9 o9 g9
        have B9 := Lib.hid (below_append HB8.out H8.out g9 (Nat.le_refl _) s8)
        rw [HKt.out] at o9
        obtain ⟨a9, c9, e9, _, _⟩ := own_shape o9
        subst e9
        obtain ⟨g10, tl, e10, _⟩ := own_open o9 (by omega)
        subst e10
        have H9 : Hid (OwnI 2 w9 w.heap.size w9.heap.size (some ⟨g10, 0, none⟩) c9 (l.take t ++ [(k : Int)] ++ l.drop t)) := by
          have := OwnI.of_own (T := 2) (xs := l.take t ++ [(k : Int)] ++ l.drop t) (w := w9) (lo := w1.heap.size) (a := some ⟨g10, 0, none⟩) (c := c9) (by rw [HPut.out.len]; first | exact o9 | (rw [List.append_assoc, List.singleton_append]; exact o9))
          exact this.mono (by omega) (Nat.le_refl _)
        have HT9 : Hid (Touch w w9 b (b + 1)) := by
          have hB : Below w.heap.size w8 w9 := below_of_grown g9 (by omega) (fun q hq => by have := (H8.out.lt q hq).1; omega)
          exact touch_below hT8.out hB
        have HD9 : Hid (DS w9 B0 b a xs c p2) := by
          have hB : Below w1.heap.size w8 w9 := below_of_grown g9 s8 (fun q hq => (H8.out.lt q hq).1)
          exact HD8.out.touch (touch_of_below' hB) (by omega)
        clear o9 g9
        go_wp2_with fail
        go_roundw
        case rel => exact ⟨k + 1, g10, c9, _, p2, by omega, by go_num, by go_num, HPut, H9, by omega, HD9, HT9⟩
        case measure => simp [intOf]; omega
    · obtain rfl : k = n := by omega
      clear hlt
      go_wp2_with fail
      go_ret
      exact ⟨g, cc, l, p1, rfl, HO.out, HI.out, hp1, HD.out, HT.out⟩
set_option maxRecDepth 10000 in
set_option maxHeartbeats 4000000 in
theorem b10Order_any (w : World) (a : Option Addr) (xs : List Int) (c n : Nat) (hr : Rd w w.heap.size a (byts xs)) (hx : ∀ x ∈ xs, 0 ≤ x ∧ x ≤ 255) (hl : xs.length ≤ 1048576) (n8 : n ≤ 8) :
    Calls Try.prog 19 #[.slice a xs.length c, .int .i64 n] w fun e w' => ∃ (g cc : Nat) (l : List Int), e = .returned (.slice (some ⟨g, 0, none⟩) n cc) ∧ Ordn l n ∧ OwnI 2 w' w.heap.size w'.heap.size (some ⟨g, 0, none⟩) cc l ∧ Below w.heap.size w w' := by
  have LF := Lib.hid (l00From_any w a xs.length c)
  have LO := Lib.hid (fun v b h => order7_ds v w.heap.size b a xs c 0 n h (by omega) n8)
  have HR := Lib.hid hr
  have HX := Lib.hid hx
  clear hr hx
  go_enter Try.func19, Try.ntmps19
  go_wp2_with fail
  refine LF.out.mono ?_
  rintro e w1 ⟨rfl, hs, hb, hz⟩
  have HB := Lib.hid hb
  have HZ := Lib.hid hz
  have HD : Hid (DS w1 w.heap.size w.heap.size a xs c 0) := ⟨hs, HR.out.below hb (Nat.le_refl _), Nat.le_refl _, HX.out, hl⟩
  clear hs hb hz
  go_wp2_with fail
  refine (LO.out w1 _ HD.out).mono ?_
  rintro e w2 ⟨g, cc, l, p', rfl, ho, hi, _, _, ht⟩
  have HI := Lib.hid hi
  have HT := Lib.hid ht
  clear hi ht
  go_wp2_with fail
  go_ret
  exact ⟨g, cc, l, rfl, ho, HI.out.mono HB.out.size (Nat.le_refl _), below_touch HB.out HT.out (Nat.le_refl _) HB.out.size⟩
end Go.Proofs.Ytkapjlkeohjjbaa
namespace Go.Proofs.Ytkapjlkeohjjbaa
set_option linter.unusedVariables false
set_option linter.unusedSimpArgs false
open Go.RowKit

theorem up_down {z S : Int} (hS : 0 < S) (hz : 0 ≤ z) : z / S ≤ (z + S - 1) / S ∧ (z + S - 1) / S ≤ z / S + 1 := by
  constructor
  · exact Int.ediv_le_ediv hS (by omega)
  · have h1 : (z + S - 1) / S ≤ (z + S) / S := Int.ediv_le_ediv hS (by omega)
    rw [show z + S = z + S * 1 by omega, Int.add_mul_ediv_left _ _ (by omega)] at h1
    rw [show z + S * 1 = z + S by omega] at h1
    exact h1
theorem keepB_two {S sm v x : Int} (hS : 0 < S) (hz : 0 ≤ v * sm) : keepB S sm v x = (!(decide (x < v * sm / S)) && !(decide ((v * sm + S - 1) / S < x))) := by
  have h := up_down hS hz
  unfold keepB
  generalize v * sm / S = d at *
  generalize (v * sm + S - 1) / S = u at *
  rw [Bool.eq_iff_iff]
  simp
  omega
structure KeepOk (xs ss : List Int) : Prop where
  v : votesB xs = true
  l : ss.length = xs.length
  b : ∀ x ∈ ss, 0 ≤ x ∧ x ≤ 100
theorem KeepOk.bounds {xs ss : List Int} (h : KeepOk xs ss) : (1 ≤ xs.length ∧ xs.length ≤ 12) ∧ (0 < xs.sum ∧ xs.sum ≤ 12000000) ∧ (0 ≤ ss.sum ∧ ss.sum ≤ 1200) ∧ wsum xs = xs.sum ∧ wsum ss = ss.sum ∧ manyB ss xs.length xs.length 0 100 = true := by
  obtain ⟨⟨h1, h2⟩, h3, h4⟩ := votesB_iff.1 h.v
  have w1 := wsum_eq xs 1000000 (by omega) (fun x hx => by have := h3 x hx; omega) (by omega)
  have hl := h.l
  have w2 := wsum_eq ss 100 (by omega) (fun x hx => by have := h.b x hx; omega) (by omega)
  have s0 : ∀ l : List Int, (∀ x ∈ l, 0 ≤ x) → 0 ≤ l.sum := fun l => by
    induction l with
    | nil => simp
    | cons x l ih => intro hh; have := ih (fun y hy => hh y (by simp [hy])); have := hh x (by simp); simp only [List.sum_cons]; omega
  exact ⟨⟨h1, h2⟩, ⟨h4, by omega⟩, ⟨s0 ss (fun x hx => (h.b x hx).1), by omega⟩, w1.1, w2.1, manyB_iff.2 ⟨⟨by omega, by omega⟩, h.b⟩⟩
def keepK (xs ss : List Int) (k : Nat) : Bool := (List.range k).all fun i => keepB xs.sum ss.sum (xs.getD i 0) (ss.getD i 0)
theorem keepK_succ (xs ss : List Int) (k : Nat) : keepK xs ss (k + 1) = (keepK xs ss k && keepB xs.sum ss.sum (xs.getD k 0) (ss.getD k 0)) := by simp [keepK, List.range_succ]
theorem keepK_no {xs ss : List Int} {k : Nat} (hk : k < xs.length) (h : keepB xs.sum ss.sum (xs.getD k 0) (ss.getD k 0) = false) : keepsB xs ss = false := by
  unfold keepsB
  rw [List.all_eq_false]
  exact ⟨k, List.mem_range.2 hk, by rw [h]; simp⟩
theorem b10Sum_any (w : World) (a : Option Addr) (c : Nat) (xs : List Int) (h : Rd w w.heap.size a (ints xs)) (hl : xs.length ≤ 1152921504606846976) :
    Calls Try.prog 26 #[.slice a xs.length c] w fun e w' => e = .returned (.int .i64 (wsum xs)) ∧ w = w' := by
  go_enter Try.func26, Try.ntmps26
  go_wp2
  go_loop [3, 7] (fun s i => ∃ k : Nat, k ≤ xs.length ∧ i = .int .i64 k ∧ s = .int .i64 (wsum (xs.take k))) (fun _ i => xs.length - (intOf i).toNat)
  case atStart => exact ⟨0, Nat.zero_le _, rfl, rfl⟩
  case round =>
    obtain ⟨k, hk, rfl, rfl⟩ := hrel
    by_cases hlt : k < xs.length
    · obtain ⟨b, o, x, rfl, hbb, hck, hx⟩ := h.get hlt
      clear h
      go_wp2
      go_round
      case rel => exact ⟨k + 1, by omega, by go_num, by rw [wsum_take hx.out]⟩
      case measure => simp [intOf]; omega
    · have : k = xs.length := by omega
      subst this
      go_wp2
      go_ret
      exact ⟨ret_int (by first | rfl | rw [List.take_length]), rfl⟩
end Go.Proofs.Ytkapjlkeohjjbaa
namespace Go.Proofs.Ytkapjlkeohjjbaa
set_option linter.unusedVariables false
set_option linter.unusedSimpArgs false
open Go.RowKit

theorem own_touch {T : Nat} {w w' : World} {lo hi lo' hi' n : Nat} {v : Value} {xs : List Value} (h : w.ownsRow lo T 1 v n xs) (hv : ∀ g, v.ownBlock = some g → g < hi) (ht : Touch w w' lo' hi') (hd : hi ≤ lo' ∨ hi' ≤ lo) : w'.ownsRow lo T 1 v n xs := by
  refine ⟨h.1, ?_⟩
  rcases h.2 with h2 | ⟨g, cap, cur, hv2, hg, hh, r⟩
  · exact .inl h2
  · have h3 : g < hi := hv g (by rw [hv2]; rfl)
    exact .inr ⟨g, cap, cur, hv2, hg, by rw [ht.block g (lt_of_block hh) (by omega)]; exact hh, r⟩
/-- A slice of slices of integers in blocks of its own, each row in a block of its own. -/
structure OwnRows (T T2 : Nat) (w : World) (lo hi : Nat) (u : Value) (vs : List Value) (yss : List (List Int)) : Prop where
  out : w.ownsRow lo T2 1 u yss.length vs
  lt : ∀ g, u.ownBlock = some g → g < hi
  row : ∀ (j : Nat) (ys : List Int), yss[j]? = some ys → ∃ g c, vs[j]? = some (.slice (some ⟨g, 0, none⟩) ys.length c) ∧ OwnI T w lo hi (some ⟨g, 0, none⟩) c ys
  top : ∀ (j : Nat) (v : Value), vs[j]? = some v → Apart u v
  dis : ∀ (i j : Nat) (v v' : Value), i ≠ j → vs[i]? = some v → vs[j]? = some v' → Apart v v'
def OwnLL (T T2 : Nat) (w : World) (lo hi : Nat) (a : Option Addr) (c : Nat) (yss : List (List Int)) : Prop := ∃ vs, OwnRows T T2 w lo hi (.slice a yss.length c) vs yss
section
variable {T T2 lo hi c : Nat} {w w' : World} {a : Option Addr} {yss : List (List Int)}
theorem OwnRows.len {u : Value} {vs : List Value} (h : OwnRows T T2 w lo hi u vs yss) : vs.length = yss.length := by
  have := h.out.1; omega
theorem OwnLL.rd (h : OwnLL T T2 w lo hi a c yss) : RdII w hi a yss := by
  obtain ⟨vs, h⟩ := h
  refine ⟨vs, h.len, ?_, fun k ys hk => ?_⟩
  · rcases rd_of_own h.out (Nat.le_refl _) with h' | ⟨b, o, ha, hb, hc⟩
    · exact .inl h'
    · exact .inr ⟨b, o, ha, h.lt b (by rw [ha]; rfl), hc⟩
  · obtain ⟨g', c', h1, h2⟩ := h.row k ys hk
    exact ⟨_, c', h1, h2.cap, h2.rd⟩
theorem OwnLL.keep (h : OwnLL T T2 w lo hi a c yss) (hb : Below w.heap.size w w') : OwnLL T T2 w' lo hi a c yss := by
  obtain ⟨vs, h⟩ := h
  exact ⟨vs, own_below h.out hb, h.lt, fun j ys hj => let ⟨a', c', h1, h2⟩ := h.row j ys hj; ⟨a', c', h1, h2.keep hb⟩, h.top, h.dis⟩
theorem OwnLL.touch {lo' hi' : Nat} (h : OwnLL T T2 w lo hi a c yss) (ht : Touch w w' lo' hi') (hd : hi ≤ lo' ∨ hi' ≤ lo) : OwnLL T T2 w' lo hi a c yss := by
  obtain ⟨vs, h⟩ := h
  exact ⟨vs, own_touch h.out h.lt ht hd, h.lt, fun j ys hj => let ⟨a', c', h1, h2⟩ := h.row j ys hj; ⟨a', c', h1, h2.touch ht hd⟩, h.top, h.dis⟩
theorem OwnLL.mono {lo' hi' : Nat} (h : OwnLL T T2 w lo hi a c yss) (h1 : lo' ≤ lo) (h2 : hi ≤ hi') : OwnLL T T2 w lo' hi' a c yss := by
  obtain ⟨vs, h⟩ := h
  exact ⟨vs, own_base h.out h1, fun g hg => Nat.lt_of_lt_of_le (h.lt g hg) h2, fun j ys hj => let ⟨a', c', h3, h4⟩ := h.row j ys hj; ⟨a', c', h3, h4.mono h1 h2⟩, h.top, h.dis⟩
theorem OwnLL.nil {w : World} : OwnLL T T2 w lo hi none 0 [] :=
  ⟨[], World.ownsRow_nil _ _ _ _, (fun g hg => by cases hg), (fun j ys hj => by simp at hj), (fun j v hj => by simp at hj), (fun i j v v' _ hi _ => by simp at hi)⟩
end
theorem OwnI.apart {T lo hi c : Nat} {w w' : World} {a : Option Addr} {xs : List Int} {u : Value} (h : OwnI T w lo hi a c xs) (hg : w.grownBy w' u.ownBlock) (ha : Apart u (.slice a xs.length c)) : OwnI T w' lo hi a c xs :=
  ⟨own_apart h.1 hg ha, h.2⟩
/-- Nothing, as '[][]int64{}' makes it. -/
theorem OwnRows.start {T T2 : Nat} {w : World} {lo : Nat} {u : Value} (h : w.ownsRow lo T2 1 u 0 []) : OwnRows T T2 w lo w.heap.size u [] [] :=
  ⟨h, (fun g hg => (h.lt g hg).2), (fun j ys hj => by simp at hj), (fun j v hj => by simp at hj), (fun i j v v' _ hi _ => by simp at hi)⟩
theorem OwnRows.keep {T T2 : Nat} {w w' : World} {lo hi : Nat} {u : Value} {vs : List Value} {yss : List (List Int)} (h : OwnRows T T2 w lo hi u vs yss) (hb : Below w.heap.size w w') : OwnRows T T2 w' lo hi u vs yss :=
  ⟨own_below h.out hb, h.lt, fun j ys hj => let ⟨a', c', h1, h2⟩ := h.row j ys hj; ⟨a', c', h1, h2.keep hb⟩, h.top, h.dis⟩
theorem OwnRows.grown {T T2 : Nat} {w w' : World} {lo hi q : Nat} {u : Value} {vs : List Value} {yss : List (List Int)} (h : OwnRows T T2 w lo hi u vs yss) (hg : w.grownBy w' (some q)) (hq : q < lo ∨ hi ≤ q) : OwnRows T T2 w' lo hi u vs yss := by
  have ht : Touch w w' q (q + 1) := Touch.of_grown hg (Nat.le_refl _) (by omega)
  exact ⟨own_touch h.out h.lt ht (by omega), h.lt, fun j ys hj => let ⟨a', c', h1, h2⟩ := h.row j ys hj; ⟨a', c', h1, h2.touch ht (by omega)⟩, h.top, h.dis⟩
/-- A row of its own, made since, is appended. -/
theorem OwnRows.snoc {T T2 : Nat} {w0 w w' : World} {lo hi r0 g c : Nat} {u u' : Value} {vs : List Value} {yss : List (List Int)} {ys : List Int}
    (h : OwnRows T T2 w0 lo hi u vs yss) (hb : Below w0.heap.size w0 w) (hlo : lo ≤ r0) (hhi : hi ≤ r0) (hr : OwnI T w r0 w.heap.size (some ⟨g, 0, none⟩) c ys) (hy0 : w0.heap.size ≤ r0)
    (ho : w'.ownsRow lo T2 1 u' (yss.length + 1) (vs ++ [.slice (some ⟨g, 0, none⟩) ys.length c])) (hg : w.grownBy w' u.ownBlock) (hn : ∀ g, g < w.heap.size → some g ≠ u.ownBlock → some g ≠ u'.ownBlock) :
    OwnRows T T2 w' lo w'.heap.size u' (vs ++ [.slice (some ⟨g, 0, none⟩) ys.length c]) (yss ++ [ys]) := by
  have hl := h.len
  have hk := h.keep hb
  have hrg : r0 ≤ g := (hr.1.lt g rfl).1
  have hgw : g < w.heap.size := (hr.1.lt g rfl).2
  have hap : Apart u (.slice (some ⟨g, 0, none⟩) ys.length c) := fun q hq e => by
    have := h.lt q hq
    simp [Value.ownBlock] at e
    omega
  have at' : ∀ (j : Nat) (v : Value), (vs ++ [.slice (some ⟨g, 0, none⟩) ys.length c])[j]? = some v → (j < yss.length ∧ vs[j]? = some v) ∨ (j = yss.length ∧ v = .slice (some ⟨g, 0, none⟩) ys.length c) := by
    intro j v hj
    by_cases hlt : j < vs.length
    · rw [List.getElem?_append_left hlt] at hj
      exact .inl ⟨by omega, hj⟩
    · rw [List.getElem?_append_right (by omega)] at hj
      have : j - vs.length = 0 := by
        have := (List.getElem?_eq_some_iff.1 hj).1
        simp at this
        omega
      rw [this] at hj
      simp at hj
      exact .inr ⟨by omega, hj.symm⟩
  have hrow : ∀ (j : Nat) (v : Value), vs[j]? = some v → ∃ g' c' ys', v = .slice (some ⟨g', 0, none⟩) ys'.length c' ∧ OwnI T w lo hi (some ⟨g', 0, none⟩) c' ys' := by
    intro j v hj
    have hlt : j < yss.length := by have := (List.getElem?_eq_some_iff.1 hj).1; omega
    obtain ⟨g', c', h1, h2⟩ := hk.row j yss[j] (List.getElem?_eq_getElem hlt)
    rw [hj] at h1
    injection h1 with h1
    exact ⟨g', c', _, h1, h2⟩
  refine ⟨by rw [List.length_append, List.length_singleton]; exact ho, fun q hq => (ho.lt q hq).2, fun j zs hj => ?_, fun j v hj => ?_, fun i j v v' hij hi hj => ?_⟩
  · by_cases hlt : j < yss.length
    · rw [List.getElem?_append_left hlt] at hj
      obtain ⟨g', c', h1, h2⟩ := hk.row j zs hj
      refine ⟨g', c', by rw [List.getElem?_append_left (by omega)]; exact h1, ?_⟩
      exact (h2.apart hg (h.top j _ h1)).mono (Nat.le_refl _) (by have := hb.size; have := hg.size; omega)
    · rw [List.getElem?_append_right (by omega)] at hj
      have : j - yss.length = 0 := by
        have := (List.getElem?_eq_some_iff.1 hj).1
        simp at this
        omega
      rw [this] at hj
      simp at hj
      subst hj
      refine ⟨g, c, by rw [List.getElem?_append_right (by omega), show j - vs.length = 0 by omega]; rfl, ?_⟩
      exact (hr.apart hg hap).mono hlo hg.size
  · rcases at' j v hj with ⟨_, h1⟩ | ⟨_, rfl⟩
    · obtain ⟨g', c', ys', e, h2⟩ := hrow j v h1
      have ha := h.top j v h1
      subst e
      exact apart_grow h2.1 ha hn
    · exact apart_grow hr.1 hap hn
  · rcases at' i v hi with ⟨i1, h1⟩ | ⟨i1, rfl⟩ <;> rcases at' j v' hj with ⟨j1, h2⟩ | ⟨j1, rfl⟩
    · exact h.dis i j v v' hij h1 h2
    · obtain ⟨g', c', ys', e, h3⟩ := hrow i v h1
      subst e
      intro q hq e
      have := h3.2 _ rfl
      simp [Value.ownBlock] at hq e
      simp at this
      omega
    · obtain ⟨g', c', ys', e, h3⟩ := hrow j v' h2
      subst e
      intro q hq e
      have := h3.2 _ rfl
      simp [Value.ownBlock] at hq e
      simp at this
      omega
    · omega
end Go.Proofs.Ytkapjlkeohjjbaa
namespace Go.Proofs.Ytkapjlkeohjjbaa
set_option linter.unusedVariables false
set_option linter.unusedSimpArgs false
open Go.RowKit

theorem own_someS {w : World} {base e n c : Nat} {a : Option Addr} {xs : List Value} (h : w.ownsRow base e 1 (.slice a n c) n xs) (hn : 0 < n) : ∃ g, a = some ⟨g, 0, none⟩ := by
  rcases h.2 with ⟨_, h3⟩ | ⟨g, cap, cur, hv, _⟩
  · omega
  · injection hv with ha _ _; exact ⟨g, ha⟩
theorem info_intsS : (Try.prog.info? 24).map (fun i => (i.zero, i.size, i.bytes)) = some (some (.slice none 0 0), 1, 24) := by kernel_rfl
def sharedG (e : Int) (xs : List Int) : List Int := (eqGF xs e).getD []
def sharedF (many : List (List Int)) (e wk : Int) : Option (List (List Int)) :=
  if decide (many.length ≤ 16) && inB wk 1 8 && many.all (fun xs => (eqGF xs e).isSome) then some (many.map (sharedG e)) else none
/-- The answer of a function that gives lists of integers or says no. -/
def RetLL (T T2 : Nat) (w : World) (r : Option (List (List Int))) (e : Ending) (w' : World) : Prop :=
  Below w.heap.size w w' ∧ match r with
    | none => e = .returned (.tuple #[.slice none 0 0, .bool false])
    | some yss => ∃ a c, e = .returned (.tuple #[.slice a yss.length c, .bool true]) ∧ OwnLL T T2 w' w.heap.size w'.heap.size a c yss
theorem RetLL.no {T T2 : Nat} {w w' : World} (h : Below w.heap.size w w') : RetLL T T2 w none (.returned (.tuple #[.slice none 0 0, .bool false])) w' := ⟨h, rfl⟩
theorem eqGF_len {xs ys : List Int} {e : Int} (h : eqGF xs e = some ys) : ys.length = xs.length ∧ 1 ≤ xs.length ∧ xs.length ≤ 8 := by
  unfold eqGF at h
  cases hv : claimsB xs e with
  | false => rw [hv] at h; cases h
  | true =>
    rw [hv] at h
    injection h with h
    have := (claimsB_iff.1 hv).1
    subst h
    rw [gainF_length]
    simp
    omega
theorem all_take_s {xss : List (List Int)} {k : Nat} {xs : List Int} {f : List Int → Bool} (hx : xss[k]? = some xs) : (xss.take (k + 1)).all f = ((xss.take k).all f && f xs) := by
  rw [List.take_add_one, hx]; simp
theorem all_no {xss : List (List Int)} {k : Nat} {xs : List Int} {f : List Int → Bool} (hx : xss[k]? = some xs) (h : f xs = false) : xss.all f = false := by
  rw [← Bool.not_eq_true]
  intro ha
  have := List.all_eq_true.1 ha xs (List.mem_of_getElem? hx)
  rw [h] at this; cases this
theorem within_wk (n : Int) : inB n 1 8 = inB n 1 8 := rfl
theorem areWk_any (n : Int) (w : World) : Calls Try.prog 53 #[.int .i64 n] w fun e w' => e = .returned (.bool (inB n 1 8)) ∧ w = w' := by
  have L := Lib.hid (within_any n 1 8 w)
  go_enter Try.func53, Try.ntmps53
  go_wp2_with (go_at_call 54; refine L.out.mono ?_; rintro e w' ⟨rfl, rfl⟩)
  go_ret
  exact ⟨rfl, rfl⟩
set_option maxRecDepth 10000 in
set_option maxHeartbeats 4000000 in
theorem shared_any (w : World) (a : Option Addr) (c : Nat) (many : List (List Int)) (est wk : Int) (h : RdII w w.heap.size a many) (hl : many.length ≤ 1048576) (hin : ∀ b ∈ many, b.length ≤ 1048576) :
    Calls Try.prog 24 #[.slice a many.length c, .int .i64 est, .int .i64 wk] w (RetLL 2 24 w (sharedF many est wk)) := by
  by_cases h16 : many.length ≤ 16
  case neg =>
    have HF : Hid (sharedF many est wk = none) := by show _ = _; unfold sharedF; rw [decide_eq_false h16]; rfl
    clear h hin
    rw [HF.out]
    go_enter Try.func24, Try.ntmps24
    go_wp2_with fail
    go_ret2
    exact RetLL.no (Below.refl _ _)
  have LW := Lib.hid (areWk_any wk w)
  cases hwk : inB wk 1 8 with
  | false =>
    have HF : Hid (sharedF many est wk = none) := by show _ = _; unfold sharedF; rw [hwk, Bool.and_false, Bool.false_and]; rfl
    rw [hwk] at LW
    rw [HF.out]
    clear h hin
    go_enter Try.func24, Try.ntmps24
    go_wp2_with fail
    refine LW.out.mono ?_
    rintro e w1 ⟨rfl, rfl⟩
    go_wp2_with fail
    go_ret2
    exact RetLL.no (Below.refl _ _)
  | true =>
    rw [hwk] at LW
    have HF : Hid (sharedF many est wk = if many.all (fun xs => (eqGF xs est).isSome) then some (many.map (sharedG est)) else none) := by
      show _ = _
      unfold sharedF
      rw [hwk, decide_eq_true h16]
      simp only [Bool.true_and]
    have LE := Lib.hid (fun (w' : World) (a' : Option Addr) (c' : Nat) (xs : List Int) (hr : Rd w' w'.heap.size a' (ints xs)) (hx : xs.length ≤ 1152921504606846976) => eqG_any w' a' c' xs est hr hx)
    have Hin := Lib.hid hin
    clear hin hwk
    have h0 : Hid (OwnRows 2 24 (w.alloc (.cells #[] 24)) w.heap.size (w.alloc (.cells #[] 24)).heap.size (.slice (some ⟨w.heap.size, 0, none⟩) 0 0) [] []) := OwnRows.start (own_empty w 24)
    go_enter Try.func24, Try.ntmps24
    go_wp2_with fail
    refine LW.out.mono ?_
    rintro e w1 ⟨rfl, rfl⟩
    go_wp2_with fail
    go_loopw [24, 8] (fun ii uu wr => ∃ (k : Nat) (a2 : Option Addr) (c2 : Nat) (vs : List Value), k ≤ many.length ∧ ii = .int .i64 k ∧ uu = .slice a2 k c2 ∧ Hid ((many.take k).all (fun xs => (eqGF xs est).isSome) = true) ∧ Hid (OwnRows 2 24 wr w.heap.size wr.heap.size (.slice a2 k c2) vs ((many.take k).map (sharedG est))) ∧ Below w.heap.size w wr) (fun ii _ _ => many.length - (intOf ii).toNat)
    case atStart => exact ⟨0, _, 0, [], Nat.zero_le _, rfl, rfl, rfl, h0.out, bl1 w _⟩
    case round =>
      clear h0 LW
      obtain ⟨k, a2, c2, vs, hk, rfl, rfl, hall, hO, hw⟩ := hrel
      by_cases hlt : k < many.length
      · obtain ⟨b, o, xs, a', c', rfl, hbb, hcell, hc1, hr1, hy1⟩ := (h.below hw (Nat.le_refl _)).get hlt
        have hxl := Hin.out _ (List.mem_of_getElem? hy1.out)
        have L1 := Lib.hid (LE.out wr a' c' xs (hr1.mono hw.size) (by omega))
        have hsz := hw.size
        have htl : Hid (((many.take k).map (sharedG est)).length = k) := by show _ = _; simp; omega
        cases hg : eqGF xs est with
        | none =>
          have HN : Hid (sharedF many est wk = none) := by
            show _ = _
            rw [HF.out, all_no hy1.out (by rw [hg]; rfl)]; rfl
          rw [hg] at L1
          clear h hall hO hr1 hy1 hg
          go_wp2_with fail
          refine L1.out.mono ?_
          rintro e w2 ⟨hb2, rfl⟩
          have hw2 := hw.trans (hb2.mono hsz)
          go_wp2_with fail
          go_ret2
          rw [HN.out]
          exact RetLL.no hw2
        | some ys =>
          rw [hg] at L1
          obtain ⟨l1, l2, l3⟩ := eqGF_len hg
          have Hg : Hid (sharedG est xs = ys) := by show _ = _; unfold sharedG; rw [hg]; rfl
          have hall2 : Hid ((many.take (k + 1)).all (fun xs => (eqGF xs est).isSome) = true) := by show _ = _; rw [all_take_s hy1.out, hall.out, hg]; rfl
          have Hmap : Hid ((many.take (k + 1)).map (sharedG est) = (many.take k).map (sharedG est) ++ [ys]) := by
            show _ = _
            rw [List.take_add_one, hy1.out]
            simp [Hg.out]
          have Hyl : Hid (1 ≤ ys.length) := by show _ ≤ _; omega
          clear h hall hr1 hy1 hg l1
          go_wp2_with fail
          refine L1.out.mono ?_
          rintro e w2 ⟨hb2, a3, c3, rfl, o3⟩
          obtain ⟨q3, rfl⟩ := own_someS o3 (by have := Hyl.out; omega)
          have hrow : Hid (OwnI 2 w2 wr.heap.size w2.heap.size (some ⟨q3, 0, none⟩) c3 ys) := OwnI.of_own o3
          have hOo := hO.out.out
          rw [htl.out] at hOo
          have HOo := Lib.hid (own_below hOo hb2)
          have hs2 : w.heap.size ≤ w2.heap.size := by have := hb2.size; omega
          have hw2 := hw.trans (hb2.mono hsz)
          have Hb2 := Lib.hid hb2
          clear hOo o3 hb2
          go_wp2_with (at_builtin; refine wpList_append_blk _ rfl _ _ 44 rfl w.heap.size 24 (.slice none 0 0) 24 Try.underlying44 info_intsS rfl _ k vs rfl HOo.out (.slice (some ⟨q3, 0, none⟩) ys.length c3) rfl rfl (by omega) (by omega) hs2 ?_)
          intro v6 w6 o6 g6 n6
          obtain ⟨a6, c6, rfl, _, _⟩ := own_shape o6
          have HN6 : Hid (OwnRows 2 24 w6 w.heap.size w6.heap.size (.slice a6 (k + 1) c6) (vs ++ [.slice (some ⟨q3, 0, none⟩) ys.length c3]) ((many.take (k + 1)).map (sharedG est))) := by
            rw [Hmap.out]
            exact OwnRows.snoc (w := w2) hO.out Hb2.out (r0 := wr.heap.size) hsz (Nat.le_refl _) hrow.out (Nat.le_refl _) (by rw [htl.out]; exact o6) g6 n6
          have hw6 : Below w.heap.size w w6 := below_append hw2 HOo.out g6 (Nat.le_refl _) hs2
          clear o6 g6 n6 HOo hO hrow
          go_wp2_with fail
          go_roundw
          case rel => exact ⟨k + 1, a6, c6, _, by omega, by go_num, rfl, hall2, HN6, hw6⟩
          case measure => simp [intOf]; omega
      · have : k = many.length := by omega
        subst this
        have ha := hall.out
        have hOO := hO.out
        rw [List.take_length] at ha hOO
        have HR : Hid (RetLL 2 24 w (sharedF many est wk) (.returned (.tuple #[.slice a2 many.length c2, .bool true])) wr) := by
          show RetLL _ _ _ _ _ _
          rw [HF.out, ha]
          exact ⟨hw, a2, c2, by rw [List.length_map], vs, by rw [List.length_map]; exact hOO⟩
        clear h hall ha hOO hO
        go_wp2_with fail
        go_ret2
        exact HR.out
end Go.Proofs.Ytkapjlkeohjjbaa
namespace Go.Proofs.Ytkapjlkeohjjbaa
set_option linter.unusedVariables false
set_option linter.unusedSimpArgs false
open Go.RowKit

/-- The code from the region with this number on. -/
def fromReg (n : Nat) : Code → Option Code
  | .seq (.region i o d) b => if i == n then some (.seq (.region i o d) b) else fromReg n b
  | .seq a b => match fromReg n a with
    | some c => some c
    | none => fromReg n b
  | .region i o d => if i == n then some (.region i o d) else none
  | .scope c => fromReg n c
  | .block _ c => fromReg n c
  | .loop c => fromReg n c
  | .cond _ a b => match fromReg n a with
    | some c => some c
    | none => fromReg n b
  | _ => none
/-- The region with this number. -/
def regAt (n : Nat) (c : Code) : Option Code := match fromReg n c with
  | some (.seq a _) => some a
  | some c => some c
  | none => none
/-- The code behind the region with this number. -/
def restAt (n : Nat) (c : Code) : Option Code := match fromReg n c with
  | some (.seq _ b) => some b
  | _ => none
theorem into_k {P : Program} {r : Code} {K : Act → World → Prop} {Q : Exit → Act → World → Prop} {a : Act} {w : World} (h : ∀ a v, Code.wp P r Q a v → K a v) (hw : Code.wp P r Q a w) : K a w := h a w hw
end Go.Proofs.Ytkapjlkeohjjbaa
namespace Go.Proofs.Ytkapjlkeohjjbaa
set_option linter.unusedVariables false
set_option linter.unusedSimpArgs false
open Go.RowKit

/-- A world in which all that was there in w is as it was. -/
structure Later (w : World) where
  w' : World
  h : Below w.heap.size w w'
instance (w : World) : Nonempty (Later w) := ⟨⟨w, Below.refl _ w⟩⟩
section
variable {P : Program} {w : World}
theorem Later.cell (n : Later w) {p : Addr} {v : Value} (hp : p.block < w.heap.size) (hc : w.cell? p = some v) : n.w'.cell? p = some v := (n.h.cell (p := p) hp).trans hc
theorem later_of {f : FuncId} {args : Array Value} {n : Later w} {v : Value} (h : Calls P f args n.w' fun e w' => e = .returned v ∧ Below n.w'.heap.size n.w' w') :
    Calls P f args n.w' fun e w'' => e = .returned v ∧ ∃ m : Later w, w'' = m.w' := h.mono fun _ w'' ⟨h1, h2⟩ => ⟨h1, ⟨w'', below_then n.h h2⟩, rfl⟩
theorem later_same {f : FuncId} {args : Array Value} {n : Later w} {v : Value} (h : Calls P f args n.w' fun e w' => e = .returned v ∧ n.w' = w') :
    Calls P f args n.w' fun e w'' => e = .returned v ∧ ∃ m : Later w, w'' = m.w' := h.mono fun _ w'' ⟨h1, h2⟩ => ⟨h1, n, h2.symm⟩
theorem later_drew {f : FuncId} {args : Array Value} {n : Later w} {v : Value} (h : Calls P f args n.w' fun e w' => e = .returned v ∧ ∃ k, w' = n.w'.drewN k) :
    Calls P f args n.w' fun e w'' => e = .returned v ∧ ∃ m : Later w, w'' = m.w' := h.mono fun _ w'' ⟨h1, k, h2⟩ => ⟨h1, ⟨w'', by rw [h2]; exact below_drewN n.h k⟩, rfl⟩
theorem wp_region_later {id : Nat} {Q : Exit → Act → World → Prop} {a : Act} {l : List Oper} (hm : P.follows .mixedOrders = true) (hB : Region.lexB .any l.toArray = true)
    (h : wpQuiet P l.toArray (fun w' => ∃ n : Later w, w' = n.w') (fun a' => ∀ w', (∃ n : Later w, w' = n.w') → Q .normal a' w') l a) : (Code.region id l.toArray true).wp P Q a w :=
  wp_region_quiet (C := fun w' => ∃ n : Later w, w' = n.w') hm hB ⟨⟨w.drew, below_drew' (Below.refl _ w)⟩, rfl⟩ (by simpa using h)
end
end Go.Proofs.Ytkapjlkeohjjbaa
namespace Go.Proofs.Ytkapjlkeohjjbaa
set_option linter.unusedVariables false
set_option linter.unusedSimpArgs false
open Go

def lexRow (md : Region.Mode) (ops : Array Oper) (k : Nat) : Bool :=
  match ops[k]? with
  | none => false
  | some ok => (ok.after.all fun e => !Region.binds md e || decide (e.on < k)) && (List.range ops.size).all fun j => decide (j ≤ k) || match ops[j]? with
      | some oj => oj.after.any (fun e => Region.binds md e && e.on == k) || ok.apart ops oj
      | none => true
/-- The first k are listed. -/
def listedK (N k : Nat) : Array Bool := ((List.range N).map fun j => decide (j < k)).toArray
theorem listedK_size (N k : Nat) : (listedK N k).size = N := by simp [listedK]
theorem listedK_get {N k j : Nat} (d : Bool) (hj : j < N) : (listedK N k).getD j d = decide (j < k) := by
  unfold listedK
  simp [Array.getD, hj]
theorem listedK_out {N k j : Nat} (d : Bool) (hj : N ≤ j) : (listedK N k).getD j d = d := by
  unfold listedK
  simp [Array.getD, Nat.not_lt.2 hj]
theorem listedK_set {N k : Nat} : (listedK N k).setIfInBounds k true = listedK N (k + 1) := by
  unfold listedK
  apply Array.ext
  · simp
  · intro j h1 h2
    rw [Array.getElem_setIfInBounds (by simpa using h1)]
    by_cases hjk : k = j
    · subst hjk; simp
    · rw [if_neg hjk]
      have : (j < k) ↔ (j < k + 1) := by omega
      simp [this]
theorem listedK_zero (N : Nat) : Array.replicate N false = listedK N 0 := by
  apply Array.ext
  · simp [listedK]
  · intro j h1 h2
    simp [listedK]
theorem lexFrom_rows {md : Region.Mode} {ops : Array Oper} (h : ∀ k, k < ops.size → lexRow md ops k = true) : ∀ n k, n + k = ops.size → Region.lexFrom md ops n k (listedK ops.size k) = true
  | 0, k, hk => by
    have hk2 : k = ops.size := by omega
    subst hk2
    unfold Region.lexFrom
    rw [List.isEmpty_iff]
    unfold Region.ready
    rw [List.filter_eq_nil_iff]
    intro i hi
    have hi2 := List.mem_range.1 hi
    rw [listedK_get true hi2, decide_eq_true hi2]
    simp
  | n + 1, k, hk => by
    have hlt : k < ops.size := by omega
    have hr := h k hlt
    unfold lexRow at hr
    cases ho : ops[k]? with
    | none => rw [ho] at hr; cases hr
    | some ok =>
      rw [ho] at hr
      simp only [Bool.and_eq_true] at hr
      obtain ⟨h1, h2⟩ := hr
      unfold Region.lexFrom
      rw [listedK_set, lexFrom_rows h n (k + 1) (by omega), Bool.and_true, Bool.and_eq_true]
      constructor
      · rw [List.contains_iff_mem]
        unfold Region.ready
        rw [List.mem_filter]
        refine ⟨List.mem_range.2 hlt, ?_⟩
        rw [listedK_get true hlt, ho]
        simp only [Nat.lt_irrefl, decide_false, Bool.not_false, Bool.true_and, Option.map_some, Option.getD_some]
        rw [Array.all_eq_true'] at h1 ⊢
        intro e he
        have h3 := h1 e he
        rw [Bool.or_eq_true] at h3 ⊢
        rcases h3 with h3 | h3
        · exact .inl h3
        · have h4 := of_decide_eq_true h3
          exact .inr (by rw [listedK_get false (by omega)]; exact decide_eq_true h4)
      · unfold Region.free
        rw [ho]
        simp only
        rw [List.all_eq_true] at h2 ⊢
        intro j hj
        have hj2 := List.mem_range.1 hj
        have h3 := h2 j hj
        by_cases hjk : j = k
        · subst hjk; simp
        · rw [listedK_get true hj2]
          by_cases hlt2 : j < k
          · rw [decide_eq_true hlt2]; simp
          · have : decide (j ≤ k) = false := decide_eq_false (by omega)
            rw [this, Bool.false_or] at h3
            rw [Bool.or_eq_true]
            exact .inr h3
theorem lexB_rows {md : Region.Mode} {ops : Array Oper} (hns : Region.noSelect ops = true) (h : (List.range ops.size).all (lexRow md ops) = true) : Region.lexB md ops = true := by
  unfold Region.lexB
  rw [hns, listedK_zero, lexFrom_rows (fun k hk => List.all_eq_true.1 h k (List.mem_range.2 hk)) ops.size 0 (by omega)]; rfl
end Go.Proofs.Ytkapjlkeohjjbaa
namespace Go.Proofs.Ytkapjlkeohjjbaa
set_option linter.unusedVariables false
set_option linter.unusedSimpArgs false
open Go.RowKit

theorem b10Gap_any (t b g : Nat) (h : (FloatKind.f64.format.order t b == some .lt) = true ∧ floatBits .sub .f64 b t = some g ∨ (FloatKind.f64.format.order t b == some .lt) = false ∧ floatBits .sub .f64 t b = some g) (w : World) :
    Calls Try.prog 27 #[.float .f64 t, .float .f64 b] w fun e w' => e = .returned (.float .f64 g) ∧ w = w' := by
  rcases h with ⟨h1, h2⟩ | ⟨h1, h2⟩
  · have q : ∀ v : World, (binOp BinOp.sub 35 (.float .f64 b) (.float .f64 t)).run Try.prog v = .ok (.float .f64 g) v := fun v => run_float_arith v _ _ _ _ _ _ h2
    clear h2
    go_enter Try.func27, Try.ntmps27
    go_wp2_with fail
    go_ret
    exact ⟨rfl, rfl⟩
  · have q : ∀ v : World, (binOp BinOp.sub 35 (.float .f64 t) (.float .f64 b)).run Try.prog v = .ok (.float .f64 g) v := fun v => run_float_arith v _ _ _ _ _ _ h2
    clear h2
    go_enter Try.func27, Try.ntmps27
    go_wp2_with fail
    go_ret
    exact ⟨rfl, rfl⟩
set_option maxRecDepth 100000 in
set_option maxHeartbeats 32000000 in
theorem clE (w v0 : World) (e S T t : Nat) (HW0 : Hid (Below w.heap.size w v0)) (HT : Hid (TotOk S (e * S) T)) (HI : Hid (Is Ieee.double t T)) (hS : 1 ≤ S) (he : e ≤ 234) (K : Act → World → Prop) (hK : ∀ (a : Act) (v : World), Code.wp Try.prog (((Try.f4).body.bind (restAt 47)).getD .skip) (bodyPost Try.prog Try.f4 fun e w' => e = .returned (.bool true) ∧ Below w.heap.size w w') a v → K a v)
    {z0 z1 z2 z3 z4 z5 z6 z7 z8 z10 z11 z12 z13 z14 z15 z16 z17 z18 z19 z20 z21 z22 z23 z24 z25 z26 z27 z28 z29 z30 z31 z33 z34 z35 z36 z37 z38 z39 z40 z41 z42 z43 z44 z45 z46 z47 z48 z49 z50 z51 z52 z53 z54 z55 z56 z57 z58 z59 z60 z61 z62 z63 z64 z65 z66 z67 z68 z69 z70 z71 z72 z73 z74 z75 z76 z77 z78 z79 z80 z81 z82 z83 z84 z85 z86 z87 z88 z89 z90 z91 z92 z93 z94 z95 z96 z97 z98 z99 z100 z101 z102 z103 z104 z105 z106 z107 z108 z109 z110 z111 z112 z113 z114 z115 z116 z117 z118 z119 z120 z121 z122 z123 z124 z125 z126 z127 z128 z129 z130 z131 z132 z133 z134 z135 z136 z137 z138 z139 z140 z141 z142 z143 z144 z145 z146 z147 z148 z149 z150 z151 z152 z153 z154 z155 z156 z157 z158 z159 z160 z161 z162 z163 z164 z165 z166 z167 z168 z169 z170 z171 z172 z173 z174 z175 z176 z177 z178 z179 z180 z181 z182 z183 z184 z185 z186 z187 z188 z189 z190 z191 z192 z193 z194 z195 z196 z197 z198 z199 z200 z201 z202 z203 z204 z205 z206 z207 z208 z209 z210 z211 z212 z213 z214 z215 z216 z217 z218 z219 z220 z221 z222 z223 z224 z225 z226 z227 z228 z229 z230 z231 z232 z233 z234 z235 z236 z237 z238 z239 z240 z241 z242 z243 z244 z245 z246 z247 z248 z249 z250 z251 z252 z253 z254 z255 z256 z257 z258 z259 z260 z261 z262 z263 z264 z265 z266 z267 z268 z269 z270 z271 z272 z273 z274 z275 z276 z277 z278 z279 z280 z281 z282 z283 z284 z285 z286 z287 z288 z289 z290 z291 z292 z293 z294 z295 z296 z297 z298 z299 z300 z301 z302 z303 z304 z305 z306 z307 z308 z309 z310 z311 z312 z313 z314 z315 z316 z317 z318 z319 z320 z321 z322 z323 z324 z325 z326 z327 z328 z329 z330 z331 z332 z333 z334 z335 z336 z337 z338 z339 z340 z341 z342 z343 z344 z345 z346 z347 z348 z349 z350 z351 z352 z353 z354 z355 z356 z357 z358 z359 z360 z361 z362 z363 z364 z365 z366 z367 z368 z369 z370 z371 z372 z373 z374 z375 z376 z377 z378 z379 z380 z381 z382 z383 z384 z385 z386 z387 z388 z389 z390 z391 z392 z393 z394 z395 z396 z397 z398 z399 z400 z401 z402 z403 z404 z405 z406 z407 z408 z409 z410 z411 z412 z413 z414 z415 z416 z417 z418 z419 z420 z421 z422 z423 z424 z425 z426 z427 z428 z429 z430 z431 z432 z433 z434 z435 z436 : Value} :
    Code.wp Try.prog (((Try.f4).body.bind (regAt 47)).getD .skip) (Exit.then K (bodyPost Try.prog Try.f4 fun e w' => e = .returned (.bool true) ∧ Below w.heap.size w w')) ⟨#[z0, z1, z2, z3, z4, z5, z6, z7, z8, .int .i64 e, z10, z11, z12, z13, z14, z15, z16, z17, z18, z19, z20, z21, z22, z23, z24, z25, z26, z27, z28, z29, z30, z31, .float .f64 t, z33, z34, z35, z36, z37, z38, z39, z40, z41, z42, z43, z44, z45, z46, z47, z48, z49, z50, z51, z52, z53, z54, z55, z56, z57, z58, z59, z60, z61, z62, z63, z64, z65, z66, z67, z68, z69, z70, z71, z72, z73, z74, z75, z76, z77, z78, z79, z80, z81, z82, z83, z84, z85, z86, z87, z88, z89, z90, z91, z92, z93, z94, z95, z96, z97, z98, z99, z100, z101, z102, z103, z104, z105, z106, z107, z108, z109, z110, z111, z112, z113, z114, z115, z116, z117, z118, z119, z120, z121, z122, z123, z124, z125, z126, z127, z128, z129, z130, z131, z132, z133, z134, z135, z136, z137, z138, z139, z140, z141, z142, z143, z144, z145, z146, z147, z148, z149, z150, z151, z152, z153, z154, z155, z156, z157, z158, z159, z160, z161, z162, z163, z164, z165, z166, z167, z168, z169, z170, z171, z172, z173, z174, z175, z176, z177, z178, z179, z180, z181, z182, z183, z184, z185, z186, z187, z188, z189, z190, z191, z192, z193, z194, z195, z196, z197, z198, z199, z200, z201, z202, z203, z204, z205, z206, z207, z208, z209, z210, z211, z212, z213, z214, z215, z216, z217, z218, z219, z220, z221, z222, z223, z224, z225, z226, z227, z228, z229, z230, z231, z232, z233, z234, z235, z236, z237, z238, z239, z240, z241, z242, z243, z244, z245, z246, z247, z248, z249, z250, z251, z252, z253, z254, z255, z256, z257, z258, z259, z260, z261, z262, z263, z264, z265, z266, z267, z268, z269, z270, z271, z272, z273, z274, z275, z276, z277, z278, z279, z280, z281, z282, z283, z284, z285, z286, z287, z288, z289, z290, z291, z292, z293, z294, z295, z296, z297, z298, z299, z300, z301, z302, z303, z304, z305, z306, z307, z308, z309, z310, z311, z312, z313, z314, z315, z316, z317, z318, z319, z320, z321, z322, z323, z324, z325, z326, z327, z328, z329, z330, z331, z332, z333, z334, z335, z336, z337, z338, z339, z340, z341, z342, z343, z344, z345, z346, z347, z348, z349, z350, z351, z352, z353, z354, z355, z356, z357, z358, z359, z360, z361, z362, z363, z364, z365, z366, z367, z368, z369, z370, z371, z372, z373, z374, z375, z376, z377, z378, z379, z380, z381, z382, z383, z384, z385, z386, z387, z388, z389, z390, z391, z392, z393, z394, z395, z396, z397, z398, z399, z400, z401, z402, z403, z404, z405, z406, z407, z408, z409, z410, z411, z412, z413, z414, z415, z416, z417, z418, z419, z420, z421, z422, z423, z424, z425, z426, z427, z428, z429, z430, z431, z432, z433, z434, z435, z436], []⟩ v0 := by
  obtain ⟨cr, hcr⟩ : ∃ c, c = (((Try.f4).body.bind (restAt 47)).getD .skip) := ⟨_, rfl⟩
  rw [← hcr] at hK
  conv at hcr => rhs; whnf
  subst hcr
  conv => arg 2; whnf

  obtain ⟨g, s, r, hcase, h2, h3, h4⟩ := gap_is hS he HT.out HI.out
  have LG := Lib.hid (b10Gap_any t (floatOfInt .f64 (e : Int)) g hcase)
  have q1 : ∀ v : World, (binOp BinOp.add 35 (.float .f64 4607182418800017408) (.float .f64 (floatOfInt .f64 (e : Int)))).run Try.prog v = .ok (.float .f64 s) v := fun v => run_float_arith v _ _ _ _ _ _ h2
  have q2 : ∀ v : World, (binOp BinOp.mul 35 (.float .f64 4562254508917369340) (.float .f64 s)).run Try.prog v = .ok (.float .f64 r) v := fun v => run_float_arith v _ _ _ _ _ _ h3
  clear hcase h2 h3 HT HI
  go_wp2_with fail
  refine (LG.out _).mono ?_
  rintro en w1 ⟨rfl, rfl⟩
  go_wp2_with fail
  go_ret
  exact ⟨rfl, HW0.out⟩
end Go.Proofs.Ytkapjlkeohjjbaa
