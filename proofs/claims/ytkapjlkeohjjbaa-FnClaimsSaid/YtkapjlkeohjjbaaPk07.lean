/-
  Part 7 of what the proof stands on: lemmas and contracts, each with its conditions ahead of the colon.
-/
import Derived.Deep.RegionHeld3
import Derived.Deep.DeepCutAuto
import Derived.Deep.CutBlock
import Derived.WalkLawsBesides
import Derived.Test.YtkapjlkeohjjbaaPk06
namespace Go.Proofs.Ytkapjlkeohjjbaa
set_option linter.unusedVariables false
set_option linter.unusedSimpArgs false
open Go.RowKit

set_option maxRecDepth 100000 in
set_option maxHeartbeats 32000000 in
theorem clB (w v0 : World) (e S : Nat) (lg ll : Int) (xs G L H O Z : List Int) (bs' : List Nat) (aC aG aL aH aO aZ aE : Option Addr) (cC cG cL cH cO cZ cE : Nat) (q : Int) (Kt T : List Int) (aK aT : Option Addr) (cK cT : Nat) (cM : Nat) (aM : Option Addr) (ms : List Int) (HW0 : Hid (Below w.heap.size w v0)) (RC0 : Hid (Rd v0 v0.heap.size aC (ints xs))) (RG0 : Hid (Rd v0 v0.heap.size aG (ints G))) (RL0 : Hid (Rd v0 v0.heap.size aL (ints L))) (RH0 : Hid (Rd v0 v0.heap.size aH (ints H))) (RO0 : Hid (Rd v0 v0.heap.size aO (ints O))) (RZ0 : Hid (Rd v0 v0.heap.size aZ (ints Z))) (RE0 : Hid (Rd v0 v0.heap.size aE (flts bs'))) (HFG : Hid (Fair xs e G)) (HFL : Hid (Fair xs e L)) (HFH : Hid (Fair xs e H)) (HFO : Hid (O.length = xs.length ∧ ∀ i, i < xs.length → H.getD i 0 + O.getD i 0 = xs.getD i 0 * 1680)) (HFZ : Hid (Z.length = xs.length ∧ ∀ i, i < xs.length → 0 ≤ Z.getD i 0 ∧ Z.getD i 0 ≤ G.getD i 0 ∧ Z.getD i 0 ≤ L.getD i 0 ∧ Z.getD i 0 ≤ H.getD i 0)) (HlG : Hid (∀ i, i < xs.length → G.getD i 0 < xs.getD i 0 * 1680 → G.getD i 0 = lg)) (HlL : Hid (∀ i, i < xs.length → 0 < L.getD i 0 → xs.getD i 0 * 1680 - L.getD i 0 = ll)) (HX : Hid (∀ x ∈ xs, 0 ≤ x ∧ x ≤ 39)) (hl : 1 ≤ xs.length ∧ xs.length ≤ 6) (HEv : Hid (bs'.length = xs.length ∧ ∀ k, k < xs.length → Even S ((e : Int) * xs.getD k 0).toNat (bs'.getD k 0))) (hS : 1 ≤ S) (he : e ≤ 234) (HSum : Hid ((e : Int) * xs.sum = ((e * S : Nat) : Int))) (RK0 : Hid (Rd v0 v0.heap.size aK (ints Kt))) (RT0 : Hid (Rd v0 v0.heap.size aT (ints T))) (HKT : Hid (Kt.length = xs.length ∧ T.length = xs.length)) (HsG : Hid (wsum G = (e : Int) * 1680)) (HsL : Hid (wsum L = (e : Int) * 1680)) (HsH : Hid (wsum H = (e : Int) * 1680)) (HsT : Hid (wsum T = (e : Int) * 1680)) (HsK : Hid (wsum Kt = q * (e : Int))) (hqe : 0 ≤ q * (e : Int) ∧ q * (e : Int) ≤ 1000000) (RM0 : Hid (Rd v0 v0.heap.size aM (byts ms))) (HM8 : Hid (∀ x ∈ ms, 0 ≤ x ∧ x ≤ 255)) (hml : ms.length ≤ 1048576) (HV : Hid (claimsB xs e = true)) (HEq : Hid (eqGF xs e = some G)) (hcC : xs.length ≤ cC) (K : Act → World → Prop) (hK : ∀ (a : Act) (v : World), Code.wp Try.prog (((Try.f4).body.bind (restAt 22)).getD .skip) (bodyPost Try.prog Try.f4 fun e w' => e = .returned (.bool true) ∧ Below w.heap.size w w') a v → K a v)
    {z0 z2 z3 z4 z6 z7 z8 z19 z29 z30 z31 z32 z33 z34 z35 z36 z37 z38 z39 z40 z41 z42 z43 z44 z45 z46 z47 z48 z49 z50 z51 z52 z53 z54 z55 z56 z57 z58 z59 z60 z61 z62 z63 z64 z65 z66 z67 z68 z69 z70 z71 z72 z73 z74 z75 z76 z77 z78 z79 z80 z81 z82 z83 z84 z85 z86 z87 z88 z89 z90 z91 z92 z93 z94 z95 z96 z97 z98 z99 z100 z101 z102 z103 z104 z105 z106 z107 z108 z109 z110 z111 z112 z113 z114 z115 z116 z117 z118 z119 z120 z121 z122 z123 z124 z125 z126 z127 z128 z129 z130 z131 z132 z133 z134 z135 z136 z137 z138 z139 z140 z141 z142 z143 z144 z145 z146 z147 z148 z149 z150 z151 z152 z153 z154 z155 z156 z157 z158 z159 z160 z161 z162 z163 z164 z165 z166 z167 z168 z169 z170 z171 z172 z173 z174 z175 z176 z177 z178 z179 z180 z181 z182 z183 z184 z185 z186 z187 z188 z189 z190 z191 z192 z193 z194 z195 z196 z197 z198 z199 z200 z201 z202 z203 z204 z205 z206 z207 z208 z209 z210 z211 z212 z213 z214 z215 z216 z217 z218 z219 z220 z221 z222 z223 z224 z225 z226 z227 z228 z229 z230 z231 z232 z233 z234 z235 z236 z237 z238 z239 z240 z241 z242 z243 z244 z245 z246 z247 z248 z249 z250 z251 z252 z253 z254 z255 z256 z257 z258 z259 z260 z261 z262 z263 z264 z265 z266 z267 z268 z269 z270 z271 z272 z273 z274 z275 z276 z277 z278 z279 z280 z281 z282 z283 z284 z285 z286 z287 z288 z289 z290 z291 z292 z293 z294 z295 z296 z297 z298 z299 z300 z301 z302 z303 z304 z305 z306 z307 z308 z309 z310 z311 z312 z313 z314 z315 z316 z317 z318 z319 z320 z321 z322 z323 z324 z325 z326 z327 z328 z329 z330 z331 z332 z333 z334 z335 z336 z337 z338 z339 z340 z341 z342 z343 z344 z345 z346 z347 z348 z349 z350 z351 z352 z353 z354 z355 z356 z357 z358 z359 z360 z361 z362 z363 z364 z365 z366 z367 z368 z369 z370 z371 z372 z373 z374 z375 z376 z377 z378 z379 z380 z381 z382 z383 z384 z385 z386 z387 z388 z389 z390 z391 z392 z393 z394 z395 z396 z397 z398 z399 z400 z401 z402 z403 z404 z405 z406 z407 z408 z409 z410 z411 z412 z413 z414 z415 z416 z417 z418 z419 z420 z421 z422 z423 z424 z425 z426 z427 z428 z429 z430 z431 z432 z433 z434 z435 z436 : Value} :
    Code.wp Try.prog (((Try.f4).body.bind (regAt 22)).getD .skip) (Exit.then K (bodyPost Try.prog Try.f4 fun e w' => e = .returned (.bool true) ∧ Below w.heap.size w w')) ⟨#[z0, .slice aM ms.length cM, z2, z3, z4, .slice aC xs.length cC, z6, z7, z8, .int .i64 e, .int .i64 xs.length, .slice aG xs.length cG, .bool true, .slice aL xs.length cL, .bool true, .slice aH xs.length cH, .bool true, .slice aO xs.length cO, .bool true, z19, .slice aT xs.length cT, .bool true, .slice aK xs.length cK, .int .i64 q, .bool true, .slice aE xs.length cE, .bool true, .slice aZ xs.length cZ, .bool true, z29, z30, z31, z32, z33, z34, z35, z36, z37, z38, z39, z40, z41, z42, z43, z44, z45, z46, z47, z48, z49, z50, z51, z52, z53, z54, z55, z56, z57, z58, z59, z60, z61, z62, z63, z64, z65, z66, z67, z68, z69, z70, z71, z72, z73, z74, z75, z76, z77, z78, z79, z80, z81, z82, z83, z84, z85, z86, z87, z88, z89, z90, z91, z92, z93, z94, z95, z96, z97, z98, z99, z100, z101, z102, z103, z104, z105, z106, z107, z108, z109, z110, z111, z112, z113, z114, z115, z116, z117, z118, z119, z120, z121, z122, z123, z124, z125, z126, z127, z128, z129, z130, z131, z132, z133, z134, z135, z136, z137, z138, z139, z140, z141, z142, z143, z144, z145, z146, z147, z148, z149, z150, z151, z152, z153, z154, z155, z156, z157, z158, z159, z160, z161, z162, z163, z164, z165, z166, z167, z168, z169, z170, z171, z172, z173, z174, z175, z176, z177, z178, z179, z180, z181, z182, z183, z184, z185, z186, z187, z188, z189, z190, z191, z192, z193, z194, z195, z196, z197, z198, z199, z200, z201, z202, z203, z204, z205, z206, z207, z208, z209, z210, z211, z212, z213, z214, z215, z216, z217, z218, z219, z220, z221, z222, z223, z224, z225, z226, z227, z228, z229, z230, z231, z232, z233, z234, z235, z236, z237, z238, z239, z240, z241, z242, z243, z244, z245, z246, z247, z248, z249, z250, z251, z252, z253, z254, z255, z256, z257, z258, z259, z260, z261, z262, z263, z264, z265, z266, z267, z268, z269, z270, z271, z272, z273, z274, z275, z276, z277, z278, z279, z280, z281, z282, z283, z284, z285, z286, z287, z288, z289, z290, z291, z292, z293, z294, z295, z296, z297, z298, z299, z300, z301, z302, z303, z304, z305, z306, z307, z308, z309, z310, z311, z312, z313, z314, z315, z316, z317, z318, z319, z320, z321, z322, z323, z324, z325, z326, z327, z328, z329, z330, z331, z332, z333, z334, z335, z336, z337, z338, z339, z340, z341, z342, z343, z344, z345, z346, z347, z348, z349, z350, z351, z352, z353, z354, z355, z356, z357, z358, z359, z360, z361, z362, z363, z364, z365, z366, z367, z368, z369, z370, z371, z372, z373, z374, z375, z376, z377, z378, z379, z380, z381, z382, z383, z384, z385, z386, z387, z388, z389, z390, z391, z392, z393, z394, z395, z396, z397, z398, z399, z400, z401, z402, z403, z404, z405, z406, z407, z408, z409, z410, z411, z412, z413, z414, z415, z416, z417, z418, z419, z420, z421, z422, z423, z424, z425, z426, z427, z428, z429, z430, z431, z432, z433, z434, z435, z436], []⟩ v0 := by
  obtain ⟨cr, hcr⟩ : ∃ c, c = (((Try.f4).body.bind (restAt 22)).getD .skip) := ⟨_, rfl⟩
  rw [← hcr] at hK
  conv at hcr => rhs; whnf
  subst hcr
  conv => arg 2; whnf

  obtain ⟨wk0, wk1⟩ := atF_bd (xs := ms) (i := 2) (n := 8) (by omega)
  have LAt := Lib.hid (fun v (hb : Below v0.heap.size v0 v) => b10At_any v aM cM ms 2 8 (RM0.out.to hb) hml HM8.out (by omega) (by omega))
  have B1 := bl1 v0 (.cells #[.slice aC xs.length cC, .slice aC xs.length cC] 24)
  have K1 := Blk.new v0 [.slice aC xs.length cC, .slice aC xs.length cC] 24
  have R2 : Hid (RdII (v0.alloc (.cells #[.slice aC xs.length cC, .slice aC xs.length cC] 24)) (v0.alloc (.cells #[.slice aC xs.length cC, .slice aC xs.length cC] 24)).heap.size (some ⟨v0.heap.size, 0, none⟩) [xs, xs]) :=
    ⟨_, rfl, K1.rd K1.lt, fun k ys hk => by
      match k, hk with
      | 0, hk => injection hk with hk; subst hk; exact ⟨aC, cC, rfl, hcC, RC0.out.to B1⟩
      | 1, hk => injection hk with hk; subst hk; exact ⟨aC, cC, rfl, hcC, RC0.out.to B1⟩⟩
  have LAt1 := LAt.out _ B1
  generalize atF ms 2 8 = wk at *
  have LSh := Lib.hid (shared_any (v0.alloc (.cells #[.slice aC xs.length cC, .slice aC xs.length cC] 24)) (some ⟨v0.heap.size, 0, none⟩) 2 [xs, xs] e (1 + wk) R2.out (by simp) (by intro b hb; have h6 := hl.2; simp at hb; subst hb; omega))
  rw [shared_two HEq.out (inB_iff.2 ⟨by omega, by omega⟩)] at LSh
  have HB1 := Lib.hid B1
  clear K1 R2 LAt
  go_wp2_with fail
  refine LAt1.mono ?_
  rintro en wx ⟨rfl, rfl⟩
  go_wp2_with fail
  refine LSh.out.mono ?_
  rintro en w2 ⟨hb2, aS, cS, rfl, hO⟩
  have HW2 := Lib.hid (below_then HB1.out hb2)
  have hGl : G.length = xs.length := HFG.out.len
  have RS := hO.rd
  obtain ⟨bS, oS, y1, a1, c1, eS, _, hc1, _, r1, hy1⟩ := RS.get (k := 0) (by simp)
  obtain ⟨bS2, oS2, y2, a2, c2, eS2, _, hc2, _, r2, hy2⟩ := RS.get (k := 1) (by simp)
  subst eS
  injection eS2 with eS2
  injection eS2 with f1 f2
  subst f1 f2
  obtain rfl : y1 = G := by have := hy1.out; simp at this; exact this.symm
  obtain rfl : y2 = y1 := by have := hy2.out; simp at this; exact this.symm
  rw [hGl] at hc1 hc2
  rw [Nat.add_zero] at hc1
  have L1 := Lib.hid (fun v (hb : Below w2.heap.size w2 v) => by
    have := b10Ints_any v a1 aG c1 cG y2 (r1.to hb) ((RG0.out.to HW2.out).to hb) (by rw [hGl]; have := hl.2; omega)
    rw [hGl] at this
    exact this)
  have L2 := Lib.hid (fun v (hb : Below w2.heap.size w2 v) => by
    have := b10Ints_any v a2 aG c2 cG y2 (r2.to hb) ((RG0.out.to HW2.out).to hb) (by rw [hGl]; have := hl.2; omega)
    rw [hGl] at this
    exact this)
  have LA := Lib.hid (fun v (hb : Below w2.heap.size w2 v) => by
    have := areClaims_any v aC cC xs e ((RC0.out.to HW2.out).to hb) (by have := hl.2; omega)
    rw [HV.out] at this
    exact this)
  have n1 : ((xs.length : Int) != (xs.length : Int)) = false := by simp
  clear hO RS r1 r2 hy1 hy2 LSh LAt1
  go_wp2_with fail
  refine (LA.out w2 (Below.refl _ _)).mono ?_
  rintro en wy ⟨rfl, rfl⟩
  have hcc1 := Lib.hid hc1
  have hcc2 := Lib.hid hc2
  go_wp2_with fail
  refine (L1.out w2 (Below.refl _ _)).mono ?_
  rintro en w3 ⟨rfl, m1, rfl⟩
  go_wp2_with fail
  refine (L2.out (w2.drewN m1) (drewN_below _ _)).mono ?_
  rintro en w4 ⟨rfl, m2, rfl⟩
  have HBe := Lib.hid (below_drewN (below_drewN HW2.out m1) m2)
  have HWe := Lib.hid (below_then HW0.out HBe.out)
  clear LA L1 L2 hc1 hc2 hcc1 hcc2
  generalize (w2.drewN m1).drewN m2 = wz at *
  go_upto_region 25 with fail
  refine clC w wz e S lg ll xs y2 L H O Z bs' aC aG aL aH aO aZ aE cC cG cL cH cO cZ cE q Kt T aK aT cK cT HWe (Lib.hid (RC0.out.to HBe.out)) (Lib.hid (RG0.out.to HBe.out)) (Lib.hid (RL0.out.to HBe.out)) (Lib.hid (RH0.out.to HBe.out)) (Lib.hid (RO0.out.to HBe.out)) (Lib.hid (RZ0.out.to HBe.out)) (Lib.hid (RE0.out.to HBe.out)) HFG HFL HFH HFO HFZ HlG HlL HX hl HEv hS he HSum (Lib.hid (RK0.out.to HBe.out)) (Lib.hid (RT0.out.to HBe.out)) HKT HsG HsL HsH HsT HsK hqe _ ?hk
  case hk => assumption
end Go.Proofs.Ytkapjlkeohjjbaa
