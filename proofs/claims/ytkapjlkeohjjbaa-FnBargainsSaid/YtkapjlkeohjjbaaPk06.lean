/-
  Part 6 of what the proof stands on: lemmas and contracts, each with its conditions ahead of the colon.
-/
import Derived.Deep.RegionHeld3
import Derived.Deep.DeepCutAuto
import Derived.Deep.CutBlock
import Derived.WalkLawsBesides
import Derived.Test.YtkapjlkeohjjbaaPk01
import Derived.Test.YtkapjlkeohjjbaaPk02
import Derived.Test.YtkapjlkeohjjbaaPk03
import Derived.Test.YtkapjlkeohjjbaaPk05
namespace Go.Proofs.Ytkapjlkeohjjbaa
set_option linter.unusedVariables false
set_option linter.unusedSimpArgs false
open Go.RowKit

theorem told_all {xs : List Int} {x y n A B : Nat} (hT : ∀ p q u v, mixR xs x y n p q u v → ∀ s, 0 ≤ s → s ≤ 4 → FS p q u v s * ((wB : Int) * (wB : Int)) * 64 ≤ 1024 * ((A : Int) * (B : Int)) + 4 * ((wB : Int) * (wB : Int)))
    {i k : Nat} {p q u v : Nat} (hi : i < n) (hk : k < n) (hp : xs.getD (2 * i) 0 - (x : Int) = p) (hq : xs.getD (2 * i + 1) 0 - (y : Int) = q) (hu : xs.getD (2 * k) 0 - (x : Int) = u) (hv : xs.getD (2 * k + 1) 0 - (y : Int) = v) (s : Nat) (hs : s < 5) :
    FS p q u v s * ((wB : Int) * (wB : Int)) * 64 ≤ 1024 * ((A : Int) * (B : Int)) + 4 * ((wB : Int) * (wB : Int)) := by
  have n1 : notW xs x y i = true := by
    unfold notW
    rw [decide_eq_true (by omega), decide_eq_true (by omega)]; rfl
  have n2 : notW xs x y k = true := by
    unfold notW
    rw [decide_eq_true (by omega), decide_eq_true (by omega)]; rfl
  rcases Nat.le_total i k with h | h
  · exact hT p q u v ⟨i, k, h, hk, n1, n2, hp.symm, hq.symm, hu.symm, hv.symm⟩ s (by omega) (by omega)
  · rw [FS_swap]
    exact hT u v p q ⟨k, i, h, hi, n2, n1, hu.symm, hv.symm, hp.symm, hq.symm⟩ (4 - s) (by omega) (by omega)
/-- How many quarters a word tells. -/
def tU (v : Value) : Nat := match v with
  | .float _ b => if b = tW 0 then 0 else if b = tW 1 then 1 else if b = tW 2 then 2 else if b = tW 3 then 3 else if b = tW 4 then 4 else 5
  | _ => 0
theorem tU_tW : ∀ s, s ≤ 5 → tU (.float .f64 (tW s)) = s
  | 0, _ => by decide +kernel
  | 1, _ => by decide +kernel
  | 2, _ => by decide +kernel
  | 3, _ => by decide +kernel
  | 4, _ => by decide +kernel
  | 5, _ => by decide +kernel
  | n + 6, h => by omega
set_option maxRecDepth 100000 in
set_option maxHeartbeats 32000000 in
theorem baD (w v0 : World) (x y n uw vw : Nat) (xs : List Int) (aC : Option Addr) (cC : Nat) (HW0 : Hid (Below w.heap.size w v0)) (RC0 : Hid (Rd v0 v0.heap.size aC (ints xs))) (HPt : Hid (Pts xs n)) (hx7 : x ≤ 7) (hy7 : y ≤ 7) (HT : Hid (Told x y uw vw (mixR xs x y n))) (K : Act → World → Prop) (hK : ∀ (a : Act) (v : World), Code.wp Try.prog (((Try.f3).body.bind (restAt 23)).getD .skip) (bodyPost Try.prog Try.f3 fun e w' => e = .returned (.bool true) ∧ Below w.heap.size w w') a v → K a v)
    {z0 z1 z2 z3 z4 z6 z9 z10 z11 z12 z13 z14 z17 z18 z19 z20 z21 z22 z23 z24 z25 z26 z27 z28 z29 z30 z31 z32 z33 z34 z35 z36 z37 z38 z39 z40 z41 z42 z43 z44 z45 z46 z47 z48 z49 z50 z51 z52 z53 z54 z55 z56 z57 z58 z59 z60 z61 z62 z63 z64 z65 z66 z67 z68 z69 z70 z71 z72 z73 z74 z75 z76 z77 z78 z79 z80 z81 z82 z83 z84 z85 z86 z87 z88 z89 z90 z91 z92 z93 z94 z95 z96 z97 z98 z99 z100 z101 z102 z103 z104 z105 z106 z107 z108 z109 z110 z111 z112 z113 z114 z115 z116 z117 z118 z119 z120 z121 z122 z123 z124 z125 z126 z127 z128 z129 z130 z131 z132 z133 z134 z135 z136 z137 z138 z139 z140 z141 z142 z143 z144 z145 z146 z147 z148 z149 z150 z151 z152 z153 z154 z155 z156 z157 z158 z159 z160 z161 z162 z163 z164 z165 z166 z167 z168 z169 z170 z171 z172 z173 z174 z175 z176 z177 z178 z179 z180 z181 z182 z183 z184 z185 z186 z187 z188 z189 z190 z191 z192 z193 z194 z195 z196 z197 z198 z199 z200 z201 z202 z203 z204 z205 z206 z207 z208 z209 z210 z211 z212 z213 z214 z215 z216 z217 z218 z219 z220 z221 z222 z223 z224 z225 z226 z227 z228 z229 z230 z231 z232 z233 z234 z235 z236 z237 z238 : Value} :
    Code.wp Try.prog (((Try.f3).body.bind (regAt 23)).getD .skip) (Exit.then K (bodyPost Try.prog Try.f3 fun e w' => e = .returned (.bool true) ∧ Below w.heap.size w w')) ⟨#[z0, z1, z2, z3, z4, .slice aC xs.length cC, z6, .int .i64 x, .int .i64 y, z9, z10, z11, z12, z13, z14, .float .f32 uw, .float .f32 vw, z17, z18, z19, z20, z21, z22, z23, z24, z25, z26, z27, z28, z29, z30, z31, z32, z33, z34, z35, z36, z37, z38, z39, z40, z41, z42, z43, z44, z45, z46, z47, z48, z49, z50, z51, z52, z53, z54, z55, z56, z57, z58, z59, z60, z61, z62, z63, z64, z65, z66, z67, z68, z69, z70, z71, z72, z73, z74, z75, z76, z77, z78, z79, z80, z81, z82, z83, z84, z85, z86, z87, z88, z89, z90, z91, z92, z93, z94, z95, z96, z97, z98, z99, z100, z101, z102, z103, z104, z105, z106, z107, z108, z109, z110, z111, z112, z113, z114, z115, z116, z117, z118, z119, z120, z121, z122, z123, z124, z125, z126, z127, z128, z129, z130, z131, z132, z133, z134, z135, z136, z137, z138, z139, z140, z141, z142, z143, z144, z145, z146, z147, z148, z149, z150, z151, z152, z153, z154, z155, z156, z157, z158, z159, z160, z161, z162, z163, z164, z165, z166, z167, z168, z169, z170, z171, z172, z173, z174, z175, z176, z177, z178, z179, z180, z181, z182, z183, z184, z185, z186, z187, z188, z189, z190, z191, z192, z193, z194, z195, z196, z197, z198, z199, z200, z201, z202, z203, z204, z205, z206, z207, z208, z209, z210, z211, z212, z213, z214, z215, z216, z217, z218, z219, z220, z221, z222, z223, z224, z225, z226, z227, z228, z229, z230, z231, z232, z233, z234, z235, z236, z237, z238], []⟩ v0 := by
  obtain ⟨cr, hcr⟩ : ∃ c, c = (((Try.f3).body.bind (restAt 23)).getD .skip) := ⟨_, rfl⟩
  rw [← hcr] at hK
  conv at hcr => rhs; whnf
  subst hcr
  conv => arg 2; whnf

  obtain ⟨A, B, hA1, hB1, hA, hB, hall⟩ := HT.out
  rw [Int.toNat_natCast] at hA1 hB1
  obtain ⟨k1, d1, k2, d2, P, R1, q1, q2, q3, q4, q5, HP, HR⟩ := product_word hx7 hy7 hA1 hB1 hA hB
  have HQT := Lib.hid (fun (i k p q u v s : Nat) hi hk hp hq hu hv hs h1 h2 h3 h4 => quarter_test (s := s) HP HR hA hB h1 h2 h3 h4 hs (told_all hall (i := i) (k := k) (p := p) (q := q) (u := u) (v := v) hi hk hp hq hu hv s hs))
  have c1 : ∀ v : World, (convert 30 35 (.float .f32 uw)).run Try.prog v = .ok (.float .f64 k1) v := fun v => run_convert_float_float v _ _ _ _ _ _ (by kernel_rfl) Try.underlying35 q1
  have c2 : ∀ v : World, (binOp BinOp.sub 35 (.float .f64 k1) (.float .f64 (floatOfInt .f64 (x : Int)))).run Try.prog v = .ok (.float .f64 d1) v := fun v => run_float_arith v _ _ _ _ _ _ q2
  have c3 : ∀ v : World, (convert 30 35 (.float .f32 vw)).run Try.prog v = .ok (.float .f64 k2) v := fun v => run_convert_float_float v _ _ _ _ _ _ (by kernel_rfl) Try.underlying35 q3
  have c4 : ∀ v : World, (binOp BinOp.sub 35 (.float .f64 k2) (.float .f64 (floatOfInt .f64 (y : Int)))).run Try.prog v = .ok (.float .f64 d2) v := fun v => run_float_arith v _ _ _ _ _ _ q4
  have c5 : ∀ v : World, (binOp BinOp.mul 35 (.float .f64 d1) (.float .f64 d2)).run Try.prog v = .ok (.float .f64 P) v := fun v => run_float_arith v _ _ _ _ _ _ q5
  have hlen := HPt.out.len
  have hn8 := HPt.out.few
  have hn1 := HPt.out.one
  have HAt := Lib.hid HPt.out.at
  have hl1 : xs.length ≤ 2 * n ∧ 2 * n ≤ xs.length := by omega
  obtain ⟨hl1, hl2⟩ := hl1
  obtain ⟨b, o, ea, hb, hc⟩ := RC0.out.at (k := 0) (by omega)
  subst ea
  have HC := Lib.hid hc
  clear HT hA1 hB1 hA hB hall q1 q2 q3 q4 q5 HP HR hlen hb hc RC0 HPt
  go_wp2_with fail
  clear c1 c2 c3 c4 c5
  go_loopw [25] (fun iv wr => ∃ i : Nat, i ≤ n ∧ iv = .int .i64 (2 * (i : Int)) ∧ Hid (v0 = wr)) (fun iv _ => 2 * n - (intOf iv).toNat)
  case atStart => exact ⟨0, Nat.zero_le _, rfl, rfl⟩
  case round =>
    obtain ⟨i, hi, rfl, hw⟩ := hrel
    have hw' := hw.out
    subst hw'
    have i0 : (0 : Int) ≤ (i : Int) := Int.natCast_nonneg _
    by_cases hlt : i < n
    case neg =>
      obtain rfl : i = n := by omega
      go_wp2_with fail
      go_ret
      exact ⟨rfl, HW0.out⟩
    have i1 : 2 * (i : Int) < (xs.length : Int) := by omega
    have i2 : 2 * (i : Int) + 1 < (xs.length : Int) := by omega
    go_wp2_with fail
    go_loopw [26] (fun kv wr => ∃ k : Nat, k ≤ n ∧ kv = .int .i64 (2 * (k : Int)) ∧ Hid (v0 = wr)) (fun kv _ => 2 * n - (intOf kv).toNat)
    case atStart => exact ⟨0, Nat.zero_le _, rfl, rfl⟩
    case round =>
      obtain ⟨k, hk, rfl, hwk⟩ := hrel
      have hw' := hwk.out
      subst hw'
      have k0 : (0 : Int) ≤ (k : Int) := Int.natCast_nonneg _
      by_cases hlk : k < n
      case neg =>
        obtain rfl : k = n := by omega
        go_wp2_with fail
        go_roundw
        case rel => exact ⟨i + 1, by omega, by go_num, trivial⟩
        case measure => simp [intOf]; omega
      have m1 : 2 * (k : Int) < (xs.length : Int) := by omega
      have m2 : 2 * (k : Int) + 1 < (xs.length : Int) := by omega
      have g1 := HC.out (2 * i) (by omega)
      have g2 := HC.out (2 * i + 1) (by omega)
      have g3 := HC.out (2 * k) (by omega)
      have g4 := HC.out (2 * k + 1) (by omega)
      have b1 := HAt.out (2 * i)
      have b2 := HAt.out (2 * i + 1)
      have b3 := HAt.out (2 * k)
      have b4 := HAt.out (2 * k + 1)
      have HQ1 := Lib.hid (fun p q u v s => HQT.out i k p q u v s hlt hlk)
      clear HQT
      generalize xs.getD (2 * i) 0 = zp at *
      generalize xs.getD (2 * i + 1) 0 = zq at *
      generalize xs.getD (2 * k) 0 = zu at *
      generalize xs.getD (2 * k + 1) 0 = zv at *
      have t1 := neg_test (z := zp - (x : Int)) (by omega) (by omega)
      have t2 := neg_test (z := zq - (y : Int)) (by omega) (by omega)
      have t3 := neg_test (z := zu - (x : Int)) (by omega) (by omega)
      have t4 := neg_test (z := zv - (y : Int)) (by omega) (by omega)
      have x0 : (0 : Int) ≤ (x : Int) := Int.natCast_nonneg _
      have y0 : (0 : Int) ≤ (y : Int) := Int.natCast_nonneg _
      cases hp : decide (zp - (x : Int) < 0) with
      | true =>
        rw [hp] at t1
        clear HQ1
        go_wp2_with fail
        go_roundw
        case rel => exact ⟨k + 1, by omega, by go_num, trivial⟩
        case measure => simp [intOf]; omega
      | false =>
      rw [hp] at t1
      cases hq : decide (zq - (y : Int) < 0) with
      | true =>
        rw [hq] at t2
        clear HQ1
        go_wp2_with fail
        go_roundw
        case rel => exact ⟨k + 1, by omega, by go_num, trivial⟩
        case measure => simp [intOf]; omega
      | false =>
      rw [hq] at t2
      cases hu : decide (zu - (x : Int) < 0) with
      | true =>
        rw [hu] at t3
        clear HQ1
        go_wp2_with fail
        go_roundw
        case rel => exact ⟨k + 1, by omega, by go_num, trivial⟩
        case measure => simp [intOf]; omega
      | false =>
      rw [hu] at t3
      cases hv : decide (zv - (y : Int) < 0) with
      | true =>
        rw [hv] at t4
        clear HQ1
        go_wp2_with fail
        go_roundw
        case rel => exact ⟨k + 1, by omega, by go_num, trivial⟩
        case measure => simp [intOf]; omega
      | false =>
      rw [hv] at t4
      have hp' := of_decide_eq_false hp
      have hq' := of_decide_eq_false hq
      have hu' := of_decide_eq_false hu
      have hv' := of_decide_eq_false hv
      obtain ⟨p, ep⟩ : ∃ p : Nat, zp - (x : Int) = p := ⟨(zp - (x : Int)).toNat, by omega⟩
      obtain ⟨q, eq⟩ : ∃ q : Nat, zq - (y : Int) = q := ⟨(zq - (y : Int)).toNat, by omega⟩
      obtain ⟨u, eu⟩ : ∃ u : Nat, zu - (x : Int) = u := ⟨(zu - (x : Int)).toNat, by omega⟩
      obtain ⟨v, ev⟩ : ∃ v : Nat, zv - (y : Int) = v := ⟨(zv - (y : Int)).toNat, by omega⟩
      have HQ2 := Lib.hid (fun s hs => HQ1.out p q u v s ep eq eu ev hs (by omega) (by omega) (by omega) (by omega))
      clear HQ1 hp hq hu hv
      rw [ep] at t1
      rw [eq] at t2
      rw [eu] at t3
      rw [ev] at t4
      go_wp2_with fail
      clear g1 g2 g3 g4 t1 t2 t3 t4 hp' hq' hu' hv' ep eq eu ev b1 b2 b3 b4
      go_loopw [31] (fun tv wr => ∃ s : Nat, s ≤ 5 ∧ tv = .float .f64 (tW s) ∧ Hid (v0 = wr)) (fun tv _ => 5 - (tU tv))
      case atStart => exact ⟨0, by omega, by rw [tw_zero], rfl⟩
      case round =>
        obtain ⟨s, hs, rfl, hwt⟩ := hrel
        have hw' := hwt.out
        subst hw'
        have hord := tw_order s hs
        by_cases hs5 : s < 5
        case neg =>
          obtain rfl : s = 5 := by omega
          rw [if_neg (by omega), if_neg (by omega)] at hord
          clear HQ2
          go_wp2_with fail
          go_roundw
          case rel => exact ⟨k + 1, by omega, by go_num, trivial⟩
          case measure => simp [intOf]; omega
        obtain ⟨d1, e1, f1, d2, e2, f2, h, s1, r1, z1, ⟨w1, w2, w3⟩, ⟨w4, w5, w6⟩, w7, w8, w9, w10, w11⟩ := HQ2.out s hs5
        have w12 : floatBits .add .f64 (tW s) 4598175219545276416 = some (tW (s + 1)) := tw_step s hs5
        have x1 : ∀ a : World, (binOp BinOp.sub 35 (.float .f64 (floatOfInt .f64 (u : Int))) (.float .f64 (floatOfInt .f64 (p : Int)))).run Try.prog a = .ok (.float .f64 d1) a := fun a => run_float_arith a _ _ _ _ _ _ w1
        have x2 : ∀ a : World, (binOp BinOp.mul 35 (.float .f64 (tW s)) (.float .f64 d1)).run Try.prog a = .ok (.float .f64 e1) a := fun a => run_float_arith a _ _ _ _ _ _ w2
        have x3 : ∀ a : World, (binOp BinOp.add 35 (.float .f64 (floatOfInt .f64 (p : Int))) (.float .f64 e1)).run Try.prog a = .ok (.float .f64 f1) a := fun a => run_float_arith a _ _ _ _ _ _ w3
        have x4 : ∀ a : World, (binOp BinOp.sub 35 (.float .f64 (floatOfInt .f64 (v : Int))) (.float .f64 (floatOfInt .f64 (q : Int)))).run Try.prog a = .ok (.float .f64 d2) a := fun a => run_float_arith a _ _ _ _ _ _ w4
        have x5 : ∀ a : World, (binOp BinOp.mul 35 (.float .f64 (tW s)) (.float .f64 d2)).run Try.prog a = .ok (.float .f64 e2) a := fun a => run_float_arith a _ _ _ _ _ _ w5
        have x6 : ∀ a : World, (binOp BinOp.add 35 (.float .f64 (floatOfInt .f64 (q : Int))) (.float .f64 e2)).run Try.prog a = .ok (.float .f64 f2) a := fun a => run_float_arith a _ _ _ _ _ _ w6
        have x7 : ∀ a : World, (binOp BinOp.mul 35 (.float .f64 f1) (.float .f64 f2)).run Try.prog a = .ok (.float .f64 h) a := fun a => run_float_arith a _ _ _ _ _ _ w7
        have x8 : ∀ a : World, (binOp BinOp.add 35 (.float .f64 4607182418800017408) (.float .f64 P)).run Try.prog a = .ok (.float .f64 s1) a := fun a => run_float_arith a _ _ _ _ _ _ w8
        have x9 : ∀ a : World, (binOp BinOp.mul 35 (.float .f64 4576918229304087675) (.float .f64 s1)).run Try.prog a = .ok (.float .f64 r1) a := fun a => run_float_arith a _ _ _ _ _ _ w9
        have x10 : ∀ a : World, (binOp BinOp.add 35 (.float .f64 P) (.float .f64 r1)).run Try.prog a = .ok (.float .f64 z1) a := fun a => run_float_arith a _ _ _ _ _ _ w10
        have x12 : ∀ a : World, (binOp BinOp.add 35 (.float .f64 (tW s)) (.float .f64 4598175219545276416)).run Try.prog a = .ok (.float .f64 (tW (s + 1))) a := fun a => run_float_arith a _ _ _ _ _ _ w12
        have hm := tU_tW s hs
        have hm2 := tU_tW (s + 1) (by omega)
        clear w1 w2 w3 w4 w5 w6 w7 w8 w9 w10 w12 HQ2
        by_cases hs4 : s < 4
        · rw [if_pos hs4] at hord
          go_wp2_with fail
          go_roundw
          case rel => exact ⟨s + 1, by omega, rfl, trivial⟩
          case measure => rw [hm, hm2]; omega
        · rw [if_neg hs4, if_pos (by omega)] at hord
          go_wp2_with fail
          go_roundw
          case rel => exact ⟨s + 1, by omega, rfl, trivial⟩
          case measure => rw [hm, hm2]; omega
end Go.Proofs.Ytkapjlkeohjjbaa
