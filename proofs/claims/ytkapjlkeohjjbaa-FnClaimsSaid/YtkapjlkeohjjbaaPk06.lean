/-
  Part 6 of what the proof stands on: lemmas and contracts, each with its conditions ahead of the colon.
-/
import Derived.Deep.RegionHeld3
import Derived.Deep.DeepCutAuto
import Derived.Deep.CutBlock
import Derived.WalkLawsBesides
import Derived.Test.YtkapjlkeohjjbaaPk03
import Derived.Test.YtkapjlkeohjjbaaPk04
import Derived.Test.YtkapjlkeohjjbaaPk05
namespace Go.Proofs.Ytkapjlkeohjjbaa
set_option linter.unusedVariables false
set_option linter.unusedSimpArgs false
open Go.RowKit

set_option maxRecDepth 100000 in
set_option maxHeartbeats 32000000 in
theorem clC (w v0 : World) (e S : Nat) (lg ll : Int) (xs G L H O Z : List Int) (bs' : List Nat) (aC aG aL aH aO aZ aE : Option Addr) (cC cG cL cH cO cZ cE : Nat) (q : Int) (Kt T : List Int) (aK aT : Option Addr) (cK cT : Nat) (HW0 : Hid (Below w.heap.size w v0)) (RC0 : Hid (Rd v0 v0.heap.size aC (ints xs))) (RG0 : Hid (Rd v0 v0.heap.size aG (ints G))) (RL0 : Hid (Rd v0 v0.heap.size aL (ints L))) (RH0 : Hid (Rd v0 v0.heap.size aH (ints H))) (RO0 : Hid (Rd v0 v0.heap.size aO (ints O))) (RZ0 : Hid (Rd v0 v0.heap.size aZ (ints Z))) (RE0 : Hid (Rd v0 v0.heap.size aE (flts bs'))) (HFG : Hid (Fair xs e G)) (HFL : Hid (Fair xs e L)) (HFH : Hid (Fair xs e H)) (HFO : Hid (O.length = xs.length ∧ ∀ i, i < xs.length → H.getD i 0 + O.getD i 0 = xs.getD i 0 * 1680)) (HFZ : Hid (Z.length = xs.length ∧ ∀ i, i < xs.length → 0 ≤ Z.getD i 0 ∧ Z.getD i 0 ≤ G.getD i 0 ∧ Z.getD i 0 ≤ L.getD i 0 ∧ Z.getD i 0 ≤ H.getD i 0)) (HlG : Hid (∀ i, i < xs.length → G.getD i 0 < xs.getD i 0 * 1680 → G.getD i 0 = lg)) (HlL : Hid (∀ i, i < xs.length → 0 < L.getD i 0 → xs.getD i 0 * 1680 - L.getD i 0 = ll)) (HX : Hid (∀ x ∈ xs, 0 ≤ x ∧ x ≤ 39)) (hl : 1 ≤ xs.length ∧ xs.length ≤ 6) (HEv : Hid (bs'.length = xs.length ∧ ∀ k, k < xs.length → Even S ((e : Int) * xs.getD k 0).toNat (bs'.getD k 0))) (hS : 1 ≤ S) (he : e ≤ 234) (HSum : Hid ((e : Int) * xs.sum = ((e * S : Nat) : Int))) (RK0 : Hid (Rd v0 v0.heap.size aK (ints Kt))) (RT0 : Hid (Rd v0 v0.heap.size aT (ints T))) (HKT : Hid (Kt.length = xs.length ∧ T.length = xs.length)) (HsG : Hid (wsum G = (e : Int) * 1680)) (HsL : Hid (wsum L = (e : Int) * 1680)) (HsH : Hid (wsum H = (e : Int) * 1680)) (HsT : Hid (wsum T = (e : Int) * 1680)) (HsK : Hid (wsum Kt = q * (e : Int))) (hqe : 0 ≤ q * (e : Int) ∧ q * (e : Int) ≤ 1000000) (K : Act → World → Prop) (hK : ∀ (a : Act) (v : World), Code.wp Try.prog (((Try.f4).body.bind (restAt 25)).getD .skip) (bodyPost Try.prog Try.f4 fun e w' => e = .returned (.bool true) ∧ Below w.heap.size w w') a v → K a v)
    {z0 z1 z2 z3 z4 z6 z7 z8 z10 z12 z14 z16 z18 z19 z21 z24 z26 z28 z29 z30 z31 z32 z33 z34 z35 z36 z37 z38 z39 z40 z41 z42 z43 z44 z45 z46 z47 z48 z49 z50 z51 z52 z53 z54 z55 z56 z57 z58 z59 z60 z61 z62 z63 z64 z65 z66 z67 z68 z69 z70 z71 z72 z73 z74 z75 z76 z77 z78 z79 z80 z81 z82 z83 z84 z85 z86 z87 z88 z89 z90 z91 z92 z93 z94 z95 z96 z97 z98 z99 z100 z101 z102 z103 z104 z105 z106 z107 z108 z109 z110 z111 z112 z113 z114 z115 z116 z117 z118 z119 z120 z121 z122 z123 z124 z125 z126 z127 z128 z129 z130 z131 z132 z133 z134 z135 z136 z137 z138 z139 z140 z141 z142 z143 z144 z145 z146 z147 z148 z149 z150 z151 z152 z153 z154 z155 z156 z157 z158 z159 z160 z161 z162 z163 z164 z165 z166 z167 z168 z169 z170 z171 z172 z173 z174 z175 z176 z177 z178 z179 z180 z181 z182 z183 z184 z185 z186 z187 z188 z189 z190 z191 z192 z193 z194 z195 z196 z197 z198 z199 z200 z201 z202 z203 z204 z205 z206 z207 z208 z209 z210 z211 z212 z213 z214 z215 z216 z217 z218 z219 z220 z221 z222 z223 z224 z225 z226 z227 z228 z229 z230 z231 z232 z233 z234 z235 z236 z237 z238 z239 z240 z241 z242 z243 z244 z245 z246 z247 z248 z249 z250 z251 z252 z253 z254 z255 z256 z257 z258 z259 z260 z261 z262 z263 z264 z265 z266 z267 z268 z269 z270 z271 z272 z273 z274 z275 z276 z277 z278 z279 z280 z281 z282 z283 z284 z285 z286 z287 z288 z289 z290 z291 z292 z293 z294 z295 z296 z297 z298 z299 z300 z301 z302 z303 z304 z305 z306 z307 z308 z309 z310 z311 z312 z313 z314 z315 z316 z317 z318 z319 z320 z321 z322 z323 z324 z325 z326 z327 z328 z329 z330 z331 z332 z333 z334 z335 z336 z337 z338 z339 z340 z341 z342 z343 z344 z345 z346 z347 z348 z349 z350 z351 z352 z353 z354 z355 z356 z357 z358 z359 z360 z361 z362 z363 z364 z365 z366 z367 z368 z369 z370 z371 z372 z373 z374 z375 z376 z377 z378 z379 z380 z381 z382 z383 z384 z385 z386 z387 z388 z389 z390 z391 z392 z393 z394 z395 z396 z397 z398 z399 z400 z401 z402 z403 z404 z405 z406 z407 z408 z409 z410 z411 z412 z413 z414 z415 z416 z417 z418 z419 z420 z421 z422 z423 z424 z425 z426 z427 z428 z429 z430 z431 z432 z433 z434 z435 z436 : Value} :
    Code.wp Try.prog (((Try.f4).body.bind (regAt 25)).getD .skip) (Exit.then K (bodyPost Try.prog Try.f4 fun e w' => e = .returned (.bool true) ∧ Below w.heap.size w w')) ⟨#[z0, z1, z2, z3, z4, .slice aC xs.length cC, z6, z7, z8, .int .i64 e, z10, .slice aG xs.length cG, z12, .slice aL xs.length cL, z14, .slice aH xs.length cH, z16, .slice aO xs.length cO, z18, z19, .slice aT xs.length cT, z21, .slice aK xs.length cK, .int .i64 q, z24, .slice aE xs.length cE, z26, .slice aZ xs.length cZ, z28, z29, z30, z31, z32, z33, z34, z35, z36, z37, z38, z39, z40, z41, z42, z43, z44, z45, z46, z47, z48, z49, z50, z51, z52, z53, z54, z55, z56, z57, z58, z59, z60, z61, z62, z63, z64, z65, z66, z67, z68, z69, z70, z71, z72, z73, z74, z75, z76, z77, z78, z79, z80, z81, z82, z83, z84, z85, z86, z87, z88, z89, z90, z91, z92, z93, z94, z95, z96, z97, z98, z99, z100, z101, z102, z103, z104, z105, z106, z107, z108, z109, z110, z111, z112, z113, z114, z115, z116, z117, z118, z119, z120, z121, z122, z123, z124, z125, z126, z127, z128, z129, z130, z131, z132, z133, z134, z135, z136, z137, z138, z139, z140, z141, z142, z143, z144, z145, z146, z147, z148, z149, z150, z151, z152, z153, z154, z155, z156, z157, z158, z159, z160, z161, z162, z163, z164, z165, z166, z167, z168, z169, z170, z171, z172, z173, z174, z175, z176, z177, z178, z179, z180, z181, z182, z183, z184, z185, z186, z187, z188, z189, z190, z191, z192, z193, z194, z195, z196, z197, z198, z199, z200, z201, z202, z203, z204, z205, z206, z207, z208, z209, z210, z211, z212, z213, z214, z215, z216, z217, z218, z219, z220, z221, z222, z223, z224, z225, z226, z227, z228, z229, z230, z231, z232, z233, z234, z235, z236, z237, z238, z239, z240, z241, z242, z243, z244, z245, z246, z247, z248, z249, z250, z251, z252, z253, z254, z255, z256, z257, z258, z259, z260, z261, z262, z263, z264, z265, z266, z267, z268, z269, z270, z271, z272, z273, z274, z275, z276, z277, z278, z279, z280, z281, z282, z283, z284, z285, z286, z287, z288, z289, z290, z291, z292, z293, z294, z295, z296, z297, z298, z299, z300, z301, z302, z303, z304, z305, z306, z307, z308, z309, z310, z311, z312, z313, z314, z315, z316, z317, z318, z319, z320, z321, z322, z323, z324, z325, z326, z327, z328, z329, z330, z331, z332, z333, z334, z335, z336, z337, z338, z339, z340, z341, z342, z343, z344, z345, z346, z347, z348, z349, z350, z351, z352, z353, z354, z355, z356, z357, z358, z359, z360, z361, z362, z363, z364, z365, z366, z367, z368, z369, z370, z371, z372, z373, z374, z375, z376, z377, z378, z379, z380, z381, z382, z383, z384, z385, z386, z387, z388, z389, z390, z391, z392, z393, z394, z395, z396, z397, z398, z399, z400, z401, z402, z403, z404, z405, z406, z407, z408, z409, z410, z411, z412, z413, z414, z415, z416, z417, z418, z419, z420, z421, z422, z423, z424, z425, z426, z427, z428, z429, z430, z431, z432, z433, z434, z435, z436], []⟩ v0 := by
  obtain ⟨cr, hcr⟩ : ∃ c, c = (((Try.f4).body.bind (restAt 25)).getD .skip) := ⟨_, rfl⟩
  rw [← hcr] at hK
  conv at hcr => rhs; whnf
  subst hcr
  conv => arg 2; whnf

  obtain ⟨q0, q1⟩ := hqe
  have BG : Hid (∀ v, Below v0.heap.size v0 v → Calls Try.prog 26 #[.slice aG xs.length cG] v fun en w' => en = .returned (.int .i64 ((e : Int) * 1680)) ∧ v = w') := fun v hb => by
    have := b10Sum_any v aG cG G (RG0.out.to hb) (by rw [HFG.out.len]; have := hl.2; omega)
    rw [HFG.out.len, HsG.out] at this
    exact this
  have BL : Hid (∀ v, Below v0.heap.size v0 v → Calls Try.prog 26 #[.slice aL xs.length cL] v fun en w' => en = .returned (.int .i64 ((e : Int) * 1680)) ∧ v = w') := fun v hb => by
    have := b10Sum_any v aL cL L (RL0.out.to hb) (by rw [HFL.out.len]; have := hl.2; omega)
    rw [HFL.out.len, HsL.out] at this
    exact this
  have BH : Hid (∀ v, Below v0.heap.size v0 v → Calls Try.prog 26 #[.slice aH xs.length cH] v fun en w' => en = .returned (.int .i64 ((e : Int) * 1680)) ∧ v = w') := fun v hb => by
    have := b10Sum_any v aH cH H (RH0.out.to hb) (by rw [HFH.out.len]; have := hl.2; omega)
    rw [HFH.out.len, HsH.out] at this
    exact this
  have BT : Hid (∀ v, Below v0.heap.size v0 v → Calls Try.prog 26 #[.slice aT xs.length cT] v fun en w' => en = .returned (.int .i64 ((e : Int) * 1680)) ∧ v = w') := fun v hb => by
    have := b10Sum_any v aT cT T (RT0.out.to hb) (by rw [HKT.out.2]; have := hl.2; omega)
    rw [HKT.out.2, HsT.out] at this
    exact this
  have BK : Hid (∀ v, Below v0.heap.size v0 v → Calls Try.prog 26 #[.slice aK xs.length cK] v fun en w' => en = .returned (.int .i64 (q * (e : Int))) ∧ v = w') := fun v hb => by
    have := b10Sum_any v aK cK Kt (RK0.out.to hb) (by rw [HKT.out.1]; have := hl.2; omega)
    rw [HKT.out.1, HsK.out] at this
    exact this
  have e0 : (0 : Int) ≤ (e : Int) := Int.natCast_nonneg _
  have n1 : ((e : Int) * 1680 != (e : Int) * 1680) = false := by simp
  have n2 : (q * (e : Int) != q * (e : Int)) = false := by simp
  have BG0 := BG.out v0 (Below.refl _ _)
  have BL0 := BL.out v0 (Below.refl _ _)
  have BH0 := BH.out v0 (Below.refl _ _)
  have BT0 := BT.out v0 (Below.refl _ _)
  have BK0 := BK.out v0 (Below.refl _ _)
  clear BG BL BH BT BK
  go_upto_region 30 with (first | (go_at_call_of 26 aG; refine BG0.mono ?_; rintro en w1 ⟨rfl, rfl⟩) | (go_at_call_of 26 aL; refine BL0.mono ?_; rintro en w1 ⟨rfl, rfl⟩) | (go_at_call_of 26 aH; refine BH0.mono ?_; rintro en w1 ⟨rfl, rfl⟩) | (go_at_call_of 26 aT; refine BT0.mono ?_; rintro en w1 ⟨rfl, rfl⟩) | (go_at_call_of 26 aK; refine BK0.mono ?_; rintro en w1 ⟨rfl, rfl⟩))
  refine clD w v0 e S lg ll xs G L H O Z bs' aC aG aL aH aO aZ aE cC cG cL cH cO cZ cE HW0 RC0 RG0 RL0 RH0 RO0 RZ0 RE0 HFG HFL HFH HFO HFZ HlG HlL HX hl HEv hS he HSum _ ?hk
  case hk => assumption
end Go.Proofs.Ytkapjlkeohjjbaa
namespace Go.Proofs.Ytkapjlkeohjjbaa
set_option linter.unusedVariables false
set_option linter.unusedSimpArgs false
open Go.RowKit

theorem permsU_all (n : Nat) : ∀ (f : Nat) (p : List Int), p.Nodup → (∀ x ∈ p, 0 ≤ x ∧ x < n) → ∀ q ∈ permsU n f p, q.Nodup ∧ (∀ x ∈ q, 0 ≤ x ∧ x < n) ∧ q.length = p.length + f
  | 0, p, h1, h2, q, hq => by
    simp only [permsU, List.mem_singleton] at hq
    subst hq
    exact ⟨h1, h2, rfl⟩
  | f + 1, p, h1, h2, q, hq => by
    simp only [permsU, List.mem_flatMap, List.mem_range] at hq
    obtain ⟨i, hi, hq⟩ := hq
    split at hq
    · simp at hq
    · rename_i hni
      have hni2 : (i : Int) ∉ p := by simpa using hni
      obtain ⟨a1, a2, a3⟩ := permsU_all n f (p ++ [(i : Int)]) (List.nodup_append.2 ⟨h1, by simp, fun x hx y hy => by
        simp only [List.mem_singleton] at hy
        subst hy
        rintro rfl
        exact hni2 hx⟩) (fun x hx => by
        rcases List.mem_append.1 hx with h | h
        · exact h2 x h
        · simp only [List.mem_singleton] at h
          subst h
          omega) q hq
      refine ⟨a1, a2, ?_⟩
      rw [a3]; simp; omega
theorem permsU_order (n : Nat) : ∀ q ∈ permsU n n [], orderB q n = true := fun q hq => by
  obtain ⟨h1, h2, h3⟩ := permsU_all n n [] List.nodup_nil (by simp) q hq
  exact orderB_iff.2 ⟨h2, h1, by simpa using h3⟩
theorem addL_sum : ∀ (a b : List Int), a.length = b.length → (addL a b).sum = a.sum + b.sum
  | [], [], _ => rfl
  | x :: a, y :: b, h => by
    have := addL_sum a b (by simpa using h)
    simp only [addL, List.zipWith_cons_cons, List.sum_cons] at this ⊢
    omega
  | [], _ :: _, h => by simp at h
  | _ :: _, [], h => by simp at h
theorem turns_fold {xs : List Int} {e : Int} (h : claimsB xs e = true) : ∀ (os : List (List Int)) (s : List Int), s.length = xs.length → (∀ o ∈ os, orderB o xs.length = true) → (os.foldl (fun s o => addL s (takeF xs o e)) s).sum = s.sum + (os.length : Int) * e
  | [], s, _, _ => by simp
  | o :: os, s, hs, ho => by
    have hl : (addL s (takeF xs o e)).length = xs.length := by simp only [addL, List.length_zipWith, hs, takeF_len]; omega
    rw [List.foldl_cons, turns_fold h os _ hl (fun q hq => ho q (List.mem_cons_of_mem _ hq)), addL_sum _ _ (by rw [hs, takeF_len]), take_all h (ho o (by simp))]
    rw [List.length_cons, Int.natCast_add, Int.add_mul]; simp; omega
theorem turns_sum {xs : List Int} {e : Int} (h : claimsB xs e = true) (os : List (List Int)) (ho : ∀ o ∈ os, orderB o xs.length = true) : (sumT xs e os).sum = (os.length : Int) * e := by
  unfold sumT
  rw [turns_fold h os _ (by simp) ho]
  have : (List.replicate xs.length (0 : Int)).sum = 0 := by
    induction xs.length with
    | zero => rfl
    | succ n ih => rw [List.replicate_succ, List.sum_cons, ih]; rfl
  rw [this]; omega
theorem turns_law {xs : List Int} {e : Int} (h : claimsB xs e = true) (h6 : xs.length ≤ 6) : ∃ K q, turnsF xs e = some (K, q) ∧ K.length = xs.length ∧ K.sum = q * e := by
  refine ⟨sumT xs e (permsU xs.length xs.length []), ((permsU xs.length xs.length []).length : Int), ?_, sumT_len _ _ _, turns_sum h _ (permsU_order xs.length)⟩
  unfold turnsF
  rw [h, decide_eq_true h6]; rfl
end Go.Proofs.Ytkapjlkeohjjbaa
namespace Go.Proofs.Ytkapjlkeohjjbaa
set_option linter.unusedVariables false
set_option linter.unusedSimpArgs false
open Go.RowKit

theorem shared_two {xs G : List Int} {e wk : Int} (h : eqGF xs e = some G) (hw : inB wk 1 8 = true) : sharedF [xs, xs] e wk = some [G, G] := by
  unfold sharedF
  simp [hw, sharedG, h]
/-- A sum of parts, as the program adds it. -/
theorem fair_wsum {xs : List Int} {e : Int} {P : List Int} (hP : Fair xs e P) (h6 : xs.length ≤ 8) (hx : ∀ x ∈ xs, 0 ≤ x ∧ x ≤ 1000) : wsum P = e * 1680 := by
  rw [← hP.all]
  refine (wsum_eq P 1680000 (by omega) (fun p hp => ?_) (by have := hP.len; omega)).1
  obtain ⟨i, hi, e2⟩ := List.getElem_of_mem hp
  have hb := hP.bd i (by rw [← hP.len]; exact hi)
  have hg : P.getD i 0 = p := by simp [List.getD, List.getElem?_eq_getElem hi, e2]
  have hxi := getD_bd hx (by omega) (by omega) i
  rw [hg] at hb
  omega
end Go.Proofs.Ytkapjlkeohjjbaa
