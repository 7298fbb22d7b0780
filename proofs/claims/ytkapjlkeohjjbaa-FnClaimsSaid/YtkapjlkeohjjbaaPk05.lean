/-
  Part 5 of what the proof stands on: lemmas and contracts, each with its conditions ahead of the colon.
-/
import Derived.Deep.RegionHeld3
import Derived.Deep.DeepCutAuto
import Derived.Deep.CutBlock
import Derived.WalkLawsBesides
import Derived.Test.YtkapjlkeohjjbaaPk04
namespace Go.Proofs.Ytkapjlkeohjjbaa
set_option linter.unusedVariables false
set_option linter.unusedSimpArgs false
open Go.RowKit

set_option maxRecDepth 100000 in
set_option maxHeartbeats 32000000 in
theorem clD (w v0 : World) (e S : Nat) (lg ll : Int) (xs G L H O Z : List Int) (bs' : List Nat) (aC aG aL aH aO aZ aE : Option Addr) (cC cG cL cH cO cZ cE : Nat) (HW0 : Hid (Below w.heap.size w v0)) (RC0 : Hid (Rd v0 v0.heap.size aC (ints xs))) (RG0 : Hid (Rd v0 v0.heap.size aG (ints G))) (RL0 : Hid (Rd v0 v0.heap.size aL (ints L))) (RH0 : Hid (Rd v0 v0.heap.size aH (ints H))) (RO0 : Hid (Rd v0 v0.heap.size aO (ints O))) (RZ0 : Hid (Rd v0 v0.heap.size aZ (ints Z))) (RE0 : Hid (Rd v0 v0.heap.size aE (flts bs'))) (HFG : Hid (Fair xs e G)) (HFL : Hid (Fair xs e L)) (HFH : Hid (Fair xs e H)) (HFO : Hid (O.length = xs.length ∧ ∀ i, i < xs.length → H.getD i 0 + O.getD i 0 = xs.getD i 0 * 1680)) (HFZ : Hid (Z.length = xs.length ∧ ∀ i, i < xs.length → 0 ≤ Z.getD i 0 ∧ Z.getD i 0 ≤ G.getD i 0 ∧ Z.getD i 0 ≤ L.getD i 0 ∧ Z.getD i 0 ≤ H.getD i 0)) (HlG : Hid (∀ i, i < xs.length → G.getD i 0 < xs.getD i 0 * 1680 → G.getD i 0 = lg)) (HlL : Hid (∀ i, i < xs.length → 0 < L.getD i 0 → xs.getD i 0 * 1680 - L.getD i 0 = ll)) (HX : Hid (∀ x ∈ xs, 0 ≤ x ∧ x ≤ 39)) (hl : 1 ≤ xs.length ∧ xs.length ≤ 6) (HEv : Hid (bs'.length = xs.length ∧ ∀ k, k < xs.length → Even S ((e : Int) * xs.getD k 0).toNat (bs'.getD k 0))) (hS : 1 ≤ S) (he : e ≤ 234) (HSum : Hid ((e : Int) * xs.sum = ((e * S : Nat) : Int))) (K : Act → World → Prop) (hK : ∀ (a : Act) (v : World), Code.wp Try.prog (((Try.f4).body.bind (restAt 30)).getD .skip) (bodyPost Try.prog Try.f4 fun e w' => e = .returned (.bool true) ∧ Below w.heap.size w w') a v → K a v)
    {z0 z1 z2 z3 z4 z6 z7 z8 z10 z12 z14 z16 z18 z19 z20 z21 z22 z23 z24 z26 z28 z29 z30 z31 z34 z35 z36 z37 z38 z39 z40 z41 z42 z43 z44 z45 z46 z47 z48 z49 z50 z51 z52 z53 z54 z55 z56 z57 z58 z59 z60 z61 z62 z63 z64 z65 z66 z67 z68 z69 z70 z71 z72 z73 z74 z75 z76 z77 z78 z79 z80 z81 z82 z83 z84 z85 z86 z87 z88 z89 z90 z91 z92 z93 z94 z95 z96 z97 z98 z99 z100 z101 z102 z103 z104 z105 z106 z107 z108 z109 z110 z111 z112 z113 z114 z115 z116 z117 z118 z119 z120 z121 z122 z123 z124 z125 z126 z127 z128 z129 z130 z131 z132 z133 z134 z135 z136 z137 z138 z139 z140 z141 z142 z143 z144 z145 z146 z147 z148 z149 z150 z151 z152 z153 z154 z155 z156 z157 z158 z159 z160 z161 z162 z163 z164 z165 z166 z167 z168 z169 z170 z171 z172 z173 z174 z175 z176 z177 z178 z179 z180 z181 z182 z183 z184 z185 z186 z187 z188 z189 z190 z191 z192 z193 z194 z195 z196 z197 z198 z199 z200 z201 z202 z203 z204 z205 z206 z207 z208 z209 z210 z211 z212 z213 z214 z215 z216 z217 z218 z219 z220 z221 z222 z223 z224 z225 z226 z227 z228 z229 z230 z231 z232 z233 z234 z235 z236 z237 z238 z239 z240 z241 z242 z243 z244 z245 z246 z247 z248 z249 z250 z251 z252 z253 z254 z255 z256 z257 z258 z259 z260 z261 z262 z263 z264 z265 z266 z267 z268 z269 z270 z271 z272 z273 z274 z275 z276 z277 z278 z279 z280 z281 z282 z283 z284 z285 z286 z287 z288 z289 z290 z291 z292 z293 z294 z295 z296 z297 z298 z299 z300 z301 z302 z303 z304 z305 z306 z307 z308 z309 z310 z311 z312 z313 z314 z315 z316 z317 z318 z319 z320 z321 z322 z323 z324 z325 z326 z327 z328 z329 z330 z331 z332 z333 z334 z335 z336 z337 z338 z339 z340 z341 z342 z343 z344 z345 z346 z347 z348 z349 z350 z351 z352 z353 z354 z355 z356 z357 z358 z359 z360 z361 z362 z363 z364 z365 z366 z367 z368 z369 z370 z371 z372 z373 z374 z375 z376 z377 z378 z379 z380 z381 z382 z383 z384 z385 z386 z387 z388 z389 z390 z391 z392 z393 z394 z395 z396 z397 z398 z399 z400 z401 z402 z403 z404 z405 z406 z407 z408 z409 z410 z411 z412 z413 z414 z415 z416 z417 z418 z419 z420 z421 z422 z423 z424 z425 z426 z427 z428 z429 z430 z431 z432 z433 z434 z435 z436 : Value} :
    Code.wp Try.prog (((Try.f4).body.bind (regAt 30)).getD .skip) (Exit.then K (bodyPost Try.prog Try.f4 fun e w' => e = .returned (.bool true) ∧ Below w.heap.size w w')) ⟨#[z0, z1, z2, z3, z4, .slice aC xs.length cC, z6, z7, z8, .int .i64 e, z10, .slice aG xs.length cG, z12, .slice aL xs.length cL, z14, .slice aH xs.length cH, z16, .slice aO xs.length cO, z18, z19, z20, z21, z22, z23, z24, .slice aE xs.length cE, z26, .slice aZ xs.length cZ, z28, z29, z30, z31, .float .f64 0, .int .i64 (-1), z34, z35, z36, z37, z38, z39, z40, z41, z42, z43, z44, z45, z46, z47, z48, z49, z50, z51, z52, z53, z54, z55, z56, z57, z58, z59, z60, z61, z62, z63, z64, z65, z66, z67, z68, z69, z70, z71, z72, z73, z74, z75, z76, z77, z78, z79, z80, z81, z82, z83, z84, z85, z86, z87, z88, z89, z90, z91, z92, z93, z94, z95, z96, z97, z98, z99, z100, z101, z102, z103, z104, z105, z106, z107, z108, z109, z110, z111, z112, z113, z114, z115, z116, z117, z118, z119, z120, z121, z122, z123, z124, z125, z126, z127, z128, z129, z130, z131, z132, z133, z134, z135, z136, z137, z138, z139, z140, z141, z142, z143, z144, z145, z146, z147, z148, z149, z150, z151, z152, z153, z154, z155, z156, z157, z158, z159, z160, z161, z162, z163, z164, z165, z166, z167, z168, z169, z170, z171, z172, z173, z174, z175, z176, z177, z178, z179, z180, z181, z182, z183, z184, z185, z186, z187, z188, z189, z190, z191, z192, z193, z194, z195, z196, z197, z198, z199, z200, z201, z202, z203, z204, z205, z206, z207, z208, z209, z210, z211, z212, z213, z214, z215, z216, z217, z218, z219, z220, z221, z222, z223, z224, z225, z226, z227, z228, z229, z230, z231, z232, z233, z234, z235, z236, z237, z238, z239, z240, z241, z242, z243, z244, z245, z246, z247, z248, z249, z250, z251, z252, z253, z254, z255, z256, z257, z258, z259, z260, z261, z262, z263, z264, z265, z266, z267, z268, z269, z270, z271, z272, z273, z274, z275, z276, z277, z278, z279, z280, z281, z282, z283, z284, z285, z286, z287, z288, z289, z290, z291, z292, z293, z294, z295, z296, z297, z298, z299, z300, z301, z302, z303, z304, z305, z306, z307, z308, z309, z310, z311, z312, z313, z314, z315, z316, z317, z318, z319, z320, z321, z322, z323, z324, z325, z326, z327, z328, z329, z330, z331, z332, z333, z334, z335, z336, z337, z338, z339, z340, z341, z342, z343, z344, z345, z346, z347, z348, z349, z350, z351, z352, z353, z354, z355, z356, z357, z358, z359, z360, z361, z362, z363, z364, z365, z366, z367, z368, z369, z370, z371, z372, z373, z374, z375, z376, z377, z378, z379, z380, z381, z382, z383, z384, z385, z386, z387, z388, z389, z390, z391, z392, z393, z394, z395, z396, z397, z398, z399, z400, z401, z402, z403, z404, z405, z406, z407, z408, z409, z410, z411, z412, z413, z414, z415, z416, z417, z418, z419, z420, z421, z422, z423, z424, z425, z426, z427, z428, z429, z430, z431, z432, z433, z434, z435, z436], []⟩ v0 := by
  obtain ⟨cr, hcr⟩ : ∃ c, c = (((Try.f4).body.bind (restAt 30)).getD .skip) := ⟨_, rfl⟩
  rw [← hcr] at hK
  conv at hcr => rhs; whnf
  subst hcr
  conv => arg 2; whnf

  obtain ⟨hl1, hl6⟩ := hl
  obtain ⟨bC, oC, eC, tC, hC⟩ := RC0.out.at (k := 0) (by omega)
  subst eC
  have KC : Hid (∀ v, Below v0.heap.size v0 v → ∀ j, j < xs.length → v.cell? ⟨bC, oC + j, none⟩ = some (.int .i64 (xs.getD j 0))) := fun v hb j hj => (hb.cell (p := ⟨bC, oC + j, none⟩) tC).trans (hC j hj)
  clear hC tC
  obtain ⟨bG, oG, eG, tG, hG⟩ := RG0.out.at (k := 0) (by rw [HFG.out.len]; omega)
  subst eG
  have KG : Hid (∀ v, Below v0.heap.size v0 v → ∀ j, j < xs.length → v.cell? ⟨bG, oG + j, none⟩ = some (.int .i64 (G.getD j 0))) := fun v hb j hj => (hb.cell (p := ⟨bG, oG + j, none⟩) tG).trans (hG j (by rw [HFG.out.len]; exact hj))
  clear hG tG
  obtain ⟨bL, oL, eL, tL, hL⟩ := RL0.out.at (k := 0) (by rw [HFL.out.len]; omega)
  subst eL
  have KL : Hid (∀ v, Below v0.heap.size v0 v → ∀ j, j < xs.length → v.cell? ⟨bL, oL + j, none⟩ = some (.int .i64 (L.getD j 0))) := fun v hb j hj => (hb.cell (p := ⟨bL, oL + j, none⟩) tL).trans (hL j (by rw [HFL.out.len]; exact hj))
  clear hL tL
  obtain ⟨bH, oH, eH, tH, hH⟩ := RH0.out.at (k := 0) (by rw [HFH.out.len]; omega)
  subst eH
  have KH : Hid (∀ v, Below v0.heap.size v0 v → ∀ j, j < xs.length → v.cell? ⟨bH, oH + j, none⟩ = some (.int .i64 (H.getD j 0))) := fun v hb j hj => (hb.cell (p := ⟨bH, oH + j, none⟩) tH).trans (hH j (by rw [HFH.out.len]; exact hj))
  clear hH tH
  obtain ⟨bO, oO, eO, tO, hO⟩ := RO0.out.at (k := 0) (by rw [HFO.out.1]; omega)
  subst eO
  have KO : Hid (∀ v, Below v0.heap.size v0 v → ∀ j, j < xs.length → v.cell? ⟨bO, oO + j, none⟩ = some (.int .i64 (O.getD j 0))) := fun v hb j hj => (hb.cell (p := ⟨bO, oO + j, none⟩) tO).trans (hO j (by rw [HFO.out.1]; exact hj))
  clear hO tO
  obtain ⟨bZ, oZ, eZ, tZ, hZ⟩ := RZ0.out.at (k := 0) (by rw [HFZ.out.1]; omega)
  subst eZ
  have KZ : Hid (∀ v, Below v0.heap.size v0 v → ∀ j, j < xs.length → v.cell? ⟨bZ, oZ + j, none⟩ = some (.int .i64 (Z.getD j 0))) := fun v hb j hj => (hb.cell (p := ⟨bZ, oZ + j, none⟩) tZ).trans (hZ j (by rw [HFZ.out.1]; exact hj))
  clear hZ tZ
  obtain ⟨bE, oE, eE, tE, hE⟩ := RE0.out.atF (k := 0) (by rw [HEv.out.1]; omega)
  subst eE
  have KE : Hid (∀ v, Below v0.heap.size v0 v → ∀ j, j < xs.length → v.cell? ⟨bE, oE + j, none⟩ = some (.float .f32 (bs'.getD j 0))) := fun v hb j hj => (hb.cell (p := ⟨bE, oE + j, none⟩) tE).trans (hE j (by rw [HEv.out.1]; exact hj))
  clear hE tE
  have HXs : Hid (∀ k, (xs.take k).sum ≤ xs.sum ∧ 0 ≤ (xs.take k).sum) := fun k => by
    have h1 : xs.sum = (xs.take k).sum + (xs.drop k).sum := by rw [← List.sum_append, List.take_append_drop]
    have h2 := sum_nonneg (xs.drop k) (fun x hx => (HX.out x (List.mem_of_mem_drop hx)).1)
    have h3 := sum_nonneg (xs.take k) (fun x hx => (HX.out x (List.mem_of_mem_take hx)).1)
    omega
  have I0 : Hid (Is Ieee.double 0 0) := is_zero _ (by decide)
  clear RC0 RG0 RL0 RH0 RO0 RZ0 RE0
  go_wp2_with fail
  go_loopw [32, 33, 34, 273] (fun tv hv lv iv wr => ∃ (k t T M : Nat) (hi lo : Int), k ≤ xs.length ∧ Hid (Below v0.heap.size v0 wr) ∧ iv = .int .i64 k ∧ tv = .float .f64 t ∧ hv = .int .i64 hi ∧ lv = .int .i64 lo ∧ Hid (Is Ieee.double t T) ∧ Hid (TotOk S M T) ∧ Hid ((M : Int) = (e : Int) * (xs.take k).sum) ∧ Hid (hi = -1 ∨ hi = lg) ∧ Hid (lo = -1 ∨ lo = ll)) (fun _ _ _ iv _ => xs.length - (intOf iv).toNat)
  case atStart => exact ⟨0, 0, 0, 0, -1, -1, Nat.zero_le _, Below.refl _ _, rfl, rfl, rfl, rfl, I0, tot_zero S, by simp [Hid], .inl rfl, .inl rfl⟩
  case round =>
    obtain ⟨k, t, T, M, hi, lo, hk, hw, rfl, rfl, rfl, rfl, HI, HT, HM, Hhi, Hlo⟩ := hrel
    have k0 : (0 : Int) ≤ (k : Int) := Int.natCast_nonneg _
    by_cases hlt : k < xs.length
    case neg =>
      obtain rfl : k = xs.length := by omega
      have HTe : Hid (TotOk S (e * S) T) := by
        have h1 := HM.out
        rw [List.take_length, HSum.out] at h1
        have h2 : M = e * S := by omega
        rw [← h2]; exact HT.out
      clear HT HM Hhi Hlo HSum HEv HFG HFL HFH HFO HFZ HlG HlL KE HXs I0
      go_upto_region 47 with fail
      have HWe : Hid (Below w.heap.size w wr) := below_then HW0.out hw.out
      refine clE w wr e S T t HWe HTe HI hS he _ ?hk
      case hk => assumption
    have k1 : (k : Int) < (xs.length : Int) := by omega
    have QC : Hid (∀ v, Below v0.heap.size v0 v → v.cell? ⟨bC, oC + k, none⟩ = some (.int .i64 (xs.getD k 0))) := fun v hb => KC.out v hb k hlt
    have QG : Hid (∀ v, Below v0.heap.size v0 v → v.cell? ⟨bG, oG + k, none⟩ = some (.int .i64 (G.getD k 0))) := fun v hb => KG.out v hb k hlt
    have QL : Hid (∀ v, Below v0.heap.size v0 v → v.cell? ⟨bL, oL + k, none⟩ = some (.int .i64 (L.getD k 0))) := fun v hb => KL.out v hb k hlt
    have QH : Hid (∀ v, Below v0.heap.size v0 v → v.cell? ⟨bH, oH + k, none⟩ = some (.int .i64 (H.getD k 0))) := fun v hb => KH.out v hb k hlt
    have QO : Hid (∀ v, Below v0.heap.size v0 v → v.cell? ⟨bO, oO + k, none⟩ = some (.int .i64 (O.getD k 0))) := fun v hb => KO.out v hb k hlt
    have QZ : Hid (∀ v, Below v0.heap.size v0 v → v.cell? ⟨bZ, oZ + k, none⟩ = some (.int .i64 (Z.getD k 0))) := fun v hb => KZ.out v hb k hlt
    have QE : Hid (∀ v, Below v0.heap.size v0 v → v.cell? ⟨bE, oE + k, none⟩ = some (.float .f32 (bs'.getD k 0))) := fun v hb => KE.out v hb k hlt
    obtain ⟨g0, g1⟩ := HFG.out.bd k hlt
    obtain ⟨l0, l1⟩ := HFL.out.bd k hlt
    obtain ⟨h0, h1⟩ := HFH.out.bd k hlt
    have hho := HFO.out.2 k hlt
    obtain ⟨z0, z1, z2, z3⟩ := HFZ.out.2 k hlt
    have hlg := HlG.out k hlt
    have hll := HlL.out k hlt
    obtain ⟨x0, x1⟩ := HX.out (xs.getD k 0) (List.mem_of_getElem? (get_of_lt hlt))
    have hsum : (xs.take (k + 1)).sum = (xs.take k).sum + xs.getD k 0 := by
      rw [take_succ_getD xs k hlt, List.sum_append, List.sum_singleton]
    have HM2 : Hid (((M + ((e : Int) * xs.getD k 0).toNat : Nat) : Int) = (e : Int) * (xs.take (k + 1)).sum) := by
      have h3 : 0 ≤ (e : Int) * xs.getD k 0 := Int.mul_nonneg (Int.natCast_nonneg _) x0
      rw [Hid, hsum, Int.mul_add, ← HM.out]; omega
    have hM3 : M + ((e : Int) * xs.getD k 0).toNat ≤ 234 * S := by
      have h3 := HM2.out
      have h4 := (HXs.out (k + 1)).1
      have h5 : (e : Int) * (xs.take (k + 1)).sum ≤ (e : Int) * xs.sum := Int.mul_le_mul_of_nonneg_left h4 (Int.natCast_nonneg _)
      rw [HSum.out] at h5
      have h6 : e * S ≤ 234 * S := Nat.mul_le_mul_right _ he
      omega
    obtain ⟨r, t2, T2, r1, r2, r3, r4⟩ := tot_step hS hM3 HT.out (HEv.out.2 k hlt) HI.out
    have c1 : ∀ v : World, (convert 30 35 (.float .f32 (bs'.getD k 0))).run Try.prog v = .ok (.float .f64 r) v := fun v => run_convert_float_float v _ _ _ _ _ _ (by kernel_rfl) Try.underlying35 r1
    have c2 : ∀ v : World, (binOp BinOp.add 35 (.float .f64 t) (.float .f64 r)).run Try.prog v = .ok (.float .f64 t2) v := fun v => run_float_arith v _ _ _ _ _ _ r2
    have HI2 := Lib.hid r3
    have HT2 := Lib.hid r4
    have hhg := Hhi.out
    have hlw := Hlo.out
    generalize ((e : Int) * xs.getD k 0).toNat = N1 at *
    generalize xs.getD k 0 = x at *
    generalize G.getD k 0 = g at *
    generalize L.getD k 0 = l at *
    generalize H.getD k 0 = h at *
    generalize O.getD k 0 = o at *
    generalize Z.getD k 0 = z at *
    generalize bs'.getD k 0 = bb at *
    have f1 : decide (g < 0) = false := decide_eq_false (by omega)
    have f2 : decide (x * 1680 < g) = false := decide_eq_false (by omega)
    have f3 : decide (l < 0) = false := decide_eq_false (by omega)
    have f4 : decide (x * 1680 < l) = false := decide_eq_false (by omega)
    have f5 : decide (h < 0) = false := decide_eq_false (by omega)
    have f6 : decide (x * 1680 < h) = false := decide_eq_false (by omega)
    have f7 : (h + o != x * 1680) = false := by simpa using hho
    have f8 : decide (z < 0) = false := decide_eq_false (by omega)
    have f9 : decide (g < z) = false := decide_eq_false (by omega)
    have f10 : decide (l < z) = false := decide_eq_false (by omega)
    have f11 : decide (h < z) = false := decide_eq_false (by omega)
    have o0 : -100000 ≤ o := by omega
    have o1 : o ≤ 100000 := by omega
    clear KC KG KL KH KO KZ KE HEv HFG HFL HFH HFO HFZ HlG HlL HSum HXs I0 HT HM HI Hhi Hlo r1 r2 r3 r4 hM3 hsum HX hho
    have hg2 : (g < x * 1680 ∧ g = lg ∧ (hi = -1 ∨ hi = g)) ∨ ¬ g < x * 1680 := by
      by_cases hgc : g < x * 1680
      · have := hlg hgc
        exact .inl ⟨hgc, this, by rcases hhg with h | h; exact .inl h; exact .inr (by rw [h, this])⟩
      · exact .inr hgc
    have hl2 : (0 < l ∧ x * 1680 - l = ll ∧ (lo = -1 ∨ lo = x * 1680 - l)) ∨ ¬ 0 < l := by
      by_cases hlc : 0 < l
      · have := hll hlc
        exact .inl ⟨hlc, this, by rcases hlw with h | h; exact .inl h; exact .inr (by rw [h, this])⟩
      · exact .inr hlc
    clear hlg hll
    have Hg2 := Lib.hid hg2
    have Hl2 := Lib.hid hl2
    have Hh1 := Lib.hid hhg
    have Hl1 := Lib.hid hlw
    clear hhg hlw hg2 hl2
    have c1' := Lib.hid c1
    have c2' := Lib.hid c2
    clear c1 c2
    have qC := QC.out wr hw.out
    go_wp2_with fail
    go_cut [36, 376] (fun cv tv wx => cv = .int .i64 (x * 1680) ∧ tv = .bool false ∧ Hid (Below v0.heap.size v0 wx))
    case first =>
      have FG : ∀ z9 : Later wr, z9.w'.cell? ⟨bG, oG + k, none⟩ = some (.int .i64 g) := fun z9 => QG.out z9.w' (below_then hw.out z9.h)
      have FL : ∀ z9 : Later wr, z9.w'.cell? ⟨bL, oL + k, none⟩ = some (.int .i64 l) := fun z9 => QL.out z9.w' (below_then hw.out z9.h)
      have FH : ∀ z9 : Later wr, z9.w'.cell? ⟨bH, oH + k, none⟩ = some (.int .i64 h) := fun z9 => QH.out z9.w' (below_then hw.out z9.h)
      have FO : ∀ z9 : Later wr, z9.w'.cell? ⟨bO, oO + k, none⟩ = some (.int .i64 o) := fun z9 => QO.out z9.w' (below_then hw.out z9.h)
      have FZ : ∀ z9 : Later wr, z9.w'.cell? ⟨bZ, oZ + k, none⟩ = some (.int .i64 z) := fun z9 => QZ.out z9.w' (below_then hw.out z9.h)
      try simp only [List.append]
      refine wp_region_later (by kernel_rfl) (lexB_rows (by kernel_rfl) (by kernel_rfl)) ?_
      iterate 32 (go_big_quiet_step (fail))
      as_aux_lemma =>
        iterate 32 (go_big_quiet_step (fail))
        as_aux_lemma =>
          repeat (go_big_quiet_step (fail))
          refine wpQuiet_nil ?_
          rintro wq ⟨⟨_, hbq⟩, rfl⟩
          have HWq := Lib.hid (below_then hw.out hbq)
          clear FG FL FH FO FZ
          go_wp2_with fail
          go_meet
          case rel => exact ⟨rfl, rfl, HWq⟩
    case rest =>
      obtain ⟨rfl, rfl, HWc⟩ := hcut
      clear f1 f2 f3 f4 f5 f6 f7 f8 f9 f10 f11 qC
      have qG := QG.out wc HWc.out
      have qL := QL.out wc HWc.out
      have qE := QE.out wc HWc.out
      have c1 := c1'.out
      have c2 := c2'.out
      clear QC QG QL QH QO QZ QE hw
      obtain ⟨wd, hwd⟩ : ∃ V : World, V = wc := ⟨_, rfl⟩
      subst hwd
      as_aux_lemma =>
        go_upto_if 382 with fail
        go_cut [33] (fun hv wx => wx = wd ∧ ∃ hi2 : Int, hv = .int .i64 hi2 ∧ Hid (hi2 = -1 ∨ hi2 = lg))
        case first =>
          rcases Hg2.out with ⟨y1, y2, y3 | y3⟩ | y1
          · subst y3
            have HHn : Hid (g = -1 ∨ g = lg) := .inr y2
            have y4 : decide ((0 : Int) ≤ -1) = false := by decide
            clear y2
            go_wp2_with fail
            go_meet
            case rel => exact ⟨rfl, _, rfl, HHn⟩
          · have HHn : Hid (g = -1 ∨ g = lg) := .inr y2
            have i3 : (g != g) = false := by simp
            subst y3
            clear y2
            have i1 : (0 : Int) ≤ hi := by omega
            go_wp2_with fail
            go_meet
            case rel => exact ⟨rfl, _, rfl, HHn⟩
          · go_wp2_with fail
            go_meet
            case rel => exact ⟨rfl, _, rfl, Hh1⟩
        case rest =>
          obtain ⟨rfl, hi2, rfl, Hh2⟩ := hcut
          clear Hg2 Hh1
          as_aux_lemma =>
            go_upto_if 401 with fail
            go_cut [34] (fun lv wx => wx = wc ∧ ∃ lo2 : Int, lv = .int .i64 lo2 ∧ Hid (lo2 = -1 ∨ lo2 = ll))
            case first =>
              rcases Hl2.out with ⟨y1, y2, y3 | y3⟩ | y1
              · subst y3
                have HHn : Hid (x * 1680 - l = -1 ∨ x * 1680 - l = ll) := .inr y2
                clear y2
                go_wp2_with fail
                go_meet
                case rel => exact ⟨rfl, _, rfl, HHn⟩
              · have HHn : Hid (x * 1680 - l = -1 ∨ x * 1680 - l = ll) := .inr y2
                have i3 : (x * 1680 - l != x * 1680 - l) = false := by simp
                subst y3
                clear y2
                have i1 : (0 : Int) ≤ x * 1680 - l := by omega
                go_wp2_with fail
                go_meet
                case rel => exact ⟨rfl, _, rfl, HHn⟩
              · go_wp2_with fail
                go_meet
                case rel => exact ⟨rfl, _, rfl, Hl1⟩
            case rest =>
              obtain ⟨rfl, lo2, rfl, Hl3⟩ := hcut
              go_wp2_with fail
              go_roundw
              case rel => exact ⟨k + 1, t2, T2, M + N1, _, _, by omega, HWc, by go_num, rfl, rfl, rfl, HI2, HT2, HM2, Hh2, Hl3⟩
              case measure => simp [intOf]; omega
end Go.Proofs.Ytkapjlkeohjjbaa
