/-
  Part 8 of what the proof stands on: lemmas and contracts, each with its conditions ahead of the colon.
-/
import Derived.Deep.RegionHeld3
import Derived.Deep.DeepCutAuto
import Derived.Deep.CutBlock
import Derived.WalkLawsBesides
import Derived.Test.YtkapjlkeohjjbaaPk03
import Derived.Test.YtkapjlkeohjjbaaPk04
import Derived.Test.YtkapjlkeohjjbaaPk06
import Derived.Test.YtkapjlkeohjjbaaPk07
namespace Go.Proofs.Ytkapjlkeohjjbaa
set_option linter.unusedVariables false
set_option linter.unusedSimpArgs false
open Go.RowKit

theorem take_wsum {xs os : List Int} {e : Int} (h : claimsB xs e = true) (hor : orderB os xs.length = true) : wsum ((takeF xs os e).map (· * 1680)) = e * 1680 := by
  obtain ⟨⟨l1, l8⟩, hx, e0, e1⟩ := claimsB_iff.1 h
  obtain ⟨s0, s1⟩ := claims_sum hx
  have hb := (takeS_bd (os := os) e0 (by omega) hx os.length).2
  rw [(wsum_eq _ 1680000 (by omega) (fun p hp => ?_) (by rw [List.length_map, takeF_len]; omega)).1, sum_scale, take_all h hor]
  obtain ⟨y, hy, rfl⟩ := List.mem_map.1 hp
  have := hb y hy
  omega
theorem addL_bd {m : Int} : ∀ (a b : List Int) (k : Int), (∀ x ∈ a, 0 ≤ x ∧ x ≤ k) → (∀ x ∈ b, 0 ≤ x ∧ x ≤ m) → ∀ x ∈ addL a b, 0 ≤ x ∧ x ≤ k + m
  | [], b, k, _, _, x, hx => by simp [addL] at hx
  | _ :: _, [], k, _, _, x, hx => by simp [addL] at hx
  | y :: a, z :: b, k, ha, hb, x, hx => by
    simp only [addL, List.zipWith_cons_cons, List.mem_cons] at hx
    rcases hx with rfl | hx
    · have h1 := ha y (by simp)
      have h2 := hb z (by simp)
      omega
    · exact addL_bd a b k (fun x h => ha x (List.mem_cons_of_mem _ h)) (fun x h => hb x (List.mem_cons_of_mem _ h)) x hx
theorem turns_bd {xs : List Int} {e : Int} (h : claimsB xs e = true) : ∀ (os : List (List Int)) (s : List Int) (k : Int), (∀ x ∈ s, 0 ≤ x ∧ x ≤ k) → ∀ x ∈ os.foldl (fun s o => addL s (takeF xs o e)) s, 0 ≤ x ∧ x ≤ k + 1000 * (os.length : Int)
  | [], s, k, hs, x, hx => by
    have := hs x hx
    simp only [List.length_nil]; omega
  | o :: os, s, k, hs, x, hx => by
    obtain ⟨⟨l1, l8⟩, hc, e0, e1⟩ := claimsB_iff.1 h
    obtain ⟨s0, s1⟩ := claims_sum hc
    have hb := (takeS_bd (os := o) e0 (by omega) hc o.length).2
    have := turns_bd h os _ (k + 1000) (addL_bd _ _ k hs hb) x hx
    simp only [List.length_cons, Int.natCast_add]
    omega
theorem turns_wsum {xs : List Int} {e : Int} (h : claimsB xs e = true) (h6 : xs.length ≤ 6) : ∃ K q, turnsF xs e = some (K, q) ∧ K.length = xs.length ∧ wsum K = q * e ∧ 0 ≤ q ∧ q ≤ 720 := by
  have hq : (permsU xs.length xs.length []).length ≤ 720 := by
    rw [← (insAll_perm xs.length h6).length_eq]
    exact insAll_length _ h6
  refine ⟨sumT xs e (permsU xs.length xs.length []), ((permsU xs.length xs.length []).length : Int), ?_, sumT_len _ _ _, ?_, by omega, by omega⟩
  · unfold turnsF
    rw [h, decide_eq_true h6]; rfl
  · rw [← turns_sum h _ (permsU_order xs.length)]
    refine (wsum_eq _ 720000 (by omega) (fun p hp => ?_) (by rw [sumT_len]; omega)).1
    have := turns_bd h (permsU xs.length xs.length []) (List.replicate xs.length 0) 0 (fun x hx => by rw [(List.mem_replicate.1 hx).2]; omega) p hp
    omega
theorem ret_some {f : Nat} {args : Array Value} {w : World} {T n : Nat} {r : Option (List Int)} {G : List Int} (h : Calls Try.prog f args w (RetI T w r)) (hr : r = some G) (hn : G.length = n) :
    Calls Try.prog f args w fun en w' => ∃ a c, en = .returned (.tuple #[.slice a n c, .bool true]) ∧ Rd w' w'.heap.size a (ints G) ∧ Below w.heap.size w w' := by
  subst hr hn
  refine h.mono ?_
  rintro en w' ⟨hb, a, c, rfl, ho⟩
  exact ⟨a, c, rfl, rd_of_own ho (Nat.le_refl _), hb⟩
theorem ret_turns {f : Nat} {args : Array Value} {w : World} {T n : Nat} {r : Option (List Int × Int)} {G : List Int} {q : Int} (h : Calls Try.prog f args w (RetT T w r)) (hr : r = some (G, q)) (hn : G.length = n) :
    Calls Try.prog f args w fun en w' => ∃ a c, en = .returned (.tuple #[.slice a n c, .int .i64 q, .bool true]) ∧ Rd w' w'.heap.size a (ints G) ∧ Below w.heap.size w w' := by
  subst hr hn
  refine h.mono ?_
  rintro en w' ⟨hb, a, c, rfl, ho⟩
  exact ⟨a, c, rfl, rd_of_own ho (Nat.le_refl _), hb⟩
/-- The sum, or one where it is nothing. -/
theorem even_all {xs : List Int} {e : Nat} {s : Int} {bs' : List Nat} (hs : xs.sum = s) (s0 : 0 ≤ s) (es : (e : Int) ≤ s) (hx : ∀ x ∈ xs, 0 ≤ x ∧ x ≤ 39) (h : ∀ k, k < xs.length → (0 < xs.sum → Even xs.sum.toNat ((e : Int) * xs.getD k 0).toNat (bs'.getD k 0)) ∧ (xs.sum = 0 → bs'.getD k 0 = 0)) :
    ∃ S : Nat, 1 ≤ S ∧ (e : Int) * xs.sum = ((e * S : Nat) : Int) ∧ ∀ k, k < xs.length → Even S ((e : Int) * xs.getD k 0).toNat (bs'.getD k 0) := by
  by_cases hz : s = 0
  · subst hz
    obtain rfl : e = 0 := by omega
    refine ⟨1, Nat.le_refl _, by simp, fun k hk => ?_⟩
    rw [(h k hk).2 hs]
    have h0 : (((0 : Nat) : Int) * xs.getD k 0).toNat = 0 := by simp
    rw [h0]
    exact ⟨0, is_zero _ (by decide), Nat.dvd_zero _, by rw [Nat.zero_mul, Nat.zero_mul]; exact Nat.zero_le _, by rw [Nat.zero_mul, Nat.zero_mul]; exact Nat.zero_le _⟩
  · refine ⟨xs.sum.toNat, by omega, ?_, fun k hk => (h k hk).1 (by omega)⟩
    rw [Int.natCast_mul, Int.toNat_of_nonneg (by omega)]
end Go.Proofs.Ytkapjlkeohjjbaa
namespace Go.Proofs.Ytkapjlkeohjjbaa
set_option linter.unusedVariables false
set_option linter.unusedSimpArgs false
open Go.RowKit

set_option maxRecDepth 100000 in
set_option maxHeartbeats 32000000 in
theorem clM (w v0 : World) (e : Nat) (sm : Int) (xs ms : List Int) (aC aM : Option Addr) (cC cM : Nat) (HW0 : Hid (Below w.heap.size w v0)) (RC0 : Hid (Rd v0 v0.heap.size aC (ints xs))) (RM0 : Hid (Rd v0 v0.heap.size aM (byts ms))) (HM8 : Hid (∀ x ∈ ms, 0 ≤ x ∧ x ≤ 255)) (hml : ms.length ≤ 1048576) (HX : Hid (∀ x ∈ xs, 0 ≤ x ∧ x ≤ 39)) (hl : 1 ≤ xs.length ∧ xs.length ≤ 6) (HSm : Hid (xs.sum = sm)) (hsm : 0 ≤ sm ∧ sm ≤ 234 ∧ (e : Int) ≤ sm) (hcC : xs.length ≤ cC) (K : Act → World → Prop) (hK : ∀ (a : Act) (v : World), Code.wp Try.prog (((Try.f4).body.bind (restAt 13)).getD .skip) (bodyPost Try.prog Try.f4 fun e w' => e = .returned (.bool true) ∧ Below w.heap.size w w') a v → K a v)
    {z0 z2 z3 z4 z7 z8 z11 z12 z13 z14 z15 z16 z17 z18 z19 z20 z21 z22 z23 z24 z25 z26 z27 z28 z29 z30 z31 z32 z33 z34 z35 z36 z37 z38 z39 z40 z41 z42 z43 z44 z45 z46 z47 z48 z49 z50 z51 z52 z53 z54 z55 z56 z57 z58 z59 z60 z61 z62 z63 z64 z65 z66 z67 z68 z69 z70 z71 z72 z73 z74 z75 z76 z77 z78 z79 z80 z81 z82 z83 z84 z85 z86 z87 z88 z89 z90 z91 z92 z93 z94 z95 z96 z97 z98 z99 z100 z101 z102 z103 z104 z105 z106 z107 z108 z109 z110 z111 z112 z113 z114 z115 z116 z117 z118 z119 z120 z121 z122 z123 z124 z125 z126 z127 z128 z129 z130 z131 z132 z133 z134 z135 z136 z137 z138 z139 z140 z141 z142 z143 z144 z145 z146 z147 z148 z149 z150 z151 z152 z153 z154 z155 z156 z157 z158 z159 z160 z161 z162 z163 z164 z165 z166 z167 z168 z169 z170 z171 z172 z173 z174 z175 z176 z177 z178 z179 z180 z181 z182 z183 z184 z185 z186 z187 z188 z189 z190 z191 z192 z193 z194 z195 z196 z197 z198 z199 z200 z201 z202 z203 z204 z205 z206 z207 z208 z209 z210 z211 z212 z213 z214 z215 z216 z217 z218 z219 z220 z221 z222 z223 z224 z225 z226 z227 z228 z229 z230 z231 z232 z233 z234 z235 z236 z237 z238 z239 z240 z241 z242 z243 z244 z245 z246 z247 z248 z249 z250 z251 z252 z253 z254 z255 z256 z257 z258 z259 z260 z261 z262 z263 z264 z265 z266 z267 z268 z269 z270 z271 z272 z273 z274 z275 z276 z277 z278 z279 z280 z281 z282 z283 z284 z285 z286 z287 z288 z289 z290 z291 z292 z293 z294 z295 z296 z297 z298 z299 z300 z301 z302 z303 z304 z305 z306 z307 z308 z309 z310 z311 z312 z313 z314 z315 z316 z317 z318 z319 z320 z321 z322 z323 z324 z325 z326 z327 z328 z329 z330 z331 z332 z333 z334 z335 z336 z337 z338 z339 z340 z341 z342 z343 z344 z345 z346 z347 z348 z349 z350 z351 z352 z353 z354 z355 z356 z357 z358 z359 z360 z361 z362 z363 z364 z365 z366 z367 z368 z369 z370 z371 z372 z373 z374 z375 z376 z377 z378 z379 z380 z381 z382 z383 z384 z385 z386 z387 z388 z389 z390 z391 z392 z393 z394 z395 z396 z397 z398 z399 z400 z401 z402 z403 z404 z405 z406 z407 z408 z409 z410 z411 z412 z413 z414 z415 z416 z417 z418 z419 z420 z421 z422 z423 z424 z425 z426 z427 z428 z429 z430 z431 z432 z433 z434 z435 z436 : Value} :
    Code.wp Try.prog (((Try.f4).body.bind (regAt 13)).getD .skip) (Exit.then K (bodyPost Try.prog Try.f4 fun e w' => e = .returned (.bool true) ∧ Below w.heap.size w w')) ⟨#[z0, .slice aM ms.length cM, z2, z3, z4, .slice aC xs.length cC, .int .i64 sm, z7, z8, .int .i64 e, .int .i64 xs.length, z11, z12, z13, z14, z15, z16, z17, z18, z19, z20, z21, z22, z23, z24, z25, z26, z27, z28, z29, z30, z31, z32, z33, z34, z35, z36, z37, z38, z39, z40, z41, z42, z43, z44, z45, z46, z47, z48, z49, z50, z51, z52, z53, z54, z55, z56, z57, z58, z59, z60, z61, z62, z63, z64, z65, z66, z67, z68, z69, z70, z71, z72, z73, z74, z75, z76, z77, z78, z79, z80, z81, z82, z83, z84, z85, z86, z87, z88, z89, z90, z91, z92, z93, z94, z95, z96, z97, z98, z99, z100, z101, z102, z103, z104, z105, z106, z107, z108, z109, z110, z111, z112, z113, z114, z115, z116, z117, z118, z119, z120, z121, z122, z123, z124, z125, z126, z127, z128, z129, z130, z131, z132, z133, z134, z135, z136, z137, z138, z139, z140, z141, z142, z143, z144, z145, z146, z147, z148, z149, z150, z151, z152, z153, z154, z155, z156, z157, z158, z159, z160, z161, z162, z163, z164, z165, z166, z167, z168, z169, z170, z171, z172, z173, z174, z175, z176, z177, z178, z179, z180, z181, z182, z183, z184, z185, z186, z187, z188, z189, z190, z191, z192, z193, z194, z195, z196, z197, z198, z199, z200, z201, z202, z203, z204, z205, z206, z207, z208, z209, z210, z211, z212, z213, z214, z215, z216, z217, z218, z219, z220, z221, z222, z223, z224, z225, z226, z227, z228, z229, z230, z231, z232, z233, z234, z235, z236, z237, z238, z239, z240, z241, z242, z243, z244, z245, z246, z247, z248, z249, z250, z251, z252, z253, z254, z255, z256, z257, z258, z259, z260, z261, z262, z263, z264, z265, z266, z267, z268, z269, z270, z271, z272, z273, z274, z275, z276, z277, z278, z279, z280, z281, z282, z283, z284, z285, z286, z287, z288, z289, z290, z291, z292, z293, z294, z295, z296, z297, z298, z299, z300, z301, z302, z303, z304, z305, z306, z307, z308, z309, z310, z311, z312, z313, z314, z315, z316, z317, z318, z319, z320, z321, z322, z323, z324, z325, z326, z327, z328, z329, z330, z331, z332, z333, z334, z335, z336, z337, z338, z339, z340, z341, z342, z343, z344, z345, z346, z347, z348, z349, z350, z351, z352, z353, z354, z355, z356, z357, z358, z359, z360, z361, z362, z363, z364, z365, z366, z367, z368, z369, z370, z371, z372, z373, z374, z375, z376, z377, z378, z379, z380, z381, z382, z383, z384, z385, z386, z387, z388, z389, z390, z391, z392, z393, z394, z395, z396, z397, z398, z399, z400, z401, z402, z403, z404, z405, z406, z407, z408, z409, z410, z411, z412, z413, z414, z415, z416, z417, z418, z419, z420, z421, z422, z423, z424, z425, z426, z427, z428, z429, z430, z431, z432, z433, z434, z435, z436], []⟩ v0 := by
  obtain ⟨cr, hcr⟩ : ∃ c, c = (((Try.f4).body.bind (restAt 13)).getD .skip) := ⟨_, rfl⟩
  rw [← hcr] at hK
  conv at hcr => rhs; whnf
  subst hcr
  conv => arg 2; whnf

  obtain ⟨l1, l6⟩ := hl
  obtain ⟨sm0, sm1, esm⟩ := hsm
  have e0 : (0 : Int) ≤ (e : Int) := Int.natCast_nonneg _
  have hx1000 : ∀ x ∈ xs, 0 ≤ x ∧ x ≤ 1000 := fun x hx => by have := HX.out x hx; omega
  have hv : claimsB xs e = true := claimsB_iff.2 ⟨⟨l1, by omega⟩, hx1000, e0, by rw [HSm.out]; exact esm⟩
  obtain ⟨G, hG, fG, lg, hlg⟩ := gains_law hv
  obtain ⟨L, hL, fL, ll, hll⟩ := losses_law hv
  obtain ⟨H, O, hH, hO, fH, lO, hHO⟩ := halves_law hv
  obtain ⟨Kt, q, hK, lK, sK, q0, q1⟩ := turns_wsum hv l6
  rw [HSm.out] at hO
  have LG := Lib.hid (fun v hr => ret_some (eqG_any v aC cC xs e hr (by omega)) hG fG.len)
  have LL := Lib.hid (fun v hr => ret_some (eqL_any v aC cC xs e (by omega) hr (by omega)) hL fL.len)
  have LH := Lib.hid (fun v hr => ret_some (half_any v aC cC xs e (by omega) hr (by omega)) hH fH.len)
  have LO := Lib.hid (fun v hr => ret_some (half_any v aC cC xs (sm - e) (by omega) hr (by omega)) hO lO)
  have LD := Lib.hid (fun v hr => b10Order_any v aM ms cM xs.length hr HM8.out hml (by omega))
  have LT := Lib.hid (fun v hr => ret_turns (turns_any v aC cC xs e hr (by omega)) hK lK)
  have LE := Lib.hid (fun v hr => even_any v aC cC xs e hr hv l6 (fun x hx => (HX.out x hx).2))
  have LS := Lib.hid (fun v hr => sure_any v aC cC xs e hr hv)
  have HFG := Lib.hid fG
  have HFL := Lib.hid fL
  have HFH := Lib.hid fH
  have HFO := Lib.hid (And.intro lO hHO)
  have HsG := Lib.hid (fair_wsum fG (by omega) hx1000)
  have HsL := Lib.hid (fair_wsum fL (by omega) hx1000)
  have HsH := Lib.hid (fair_wsum fH (by omega) hx1000)
  have HsK := Lib.hid sK
  have HlG := Lib.hid hlg
  have HlL := Lib.hid hll
  have HV := Lib.hid hv
  have HEq := Lib.hid hG
  have HlK := Lib.hid lK
  clear hx1000 hv hG fG hlg hL fL hll hH hO fH lO hHO hK lK sK
  have HB : Hid (Below v0.heap.size v0 v0) := Below.refl _ _
  go_wp2_with fail
  refine (LG.out v0 RC0.out).mono ?_
  rintro en w1 ⟨aG, cG, rfl, rG, bG⟩
  clear LG
  replace RC0 := Lib.hid (RC0.out.to bG)
  replace RM0 := Lib.hid (RM0.out.to bG)
  replace HB := Lib.hid (below_then HB.out bG)
  have RG0 := Lib.hid rG
  clear rG bG
  go_wp2_with fail
  refine (LL.out w1 RC0.out).mono ?_
  rintro en w2 ⟨aL, cL, rfl, rL, bL⟩
  clear LL
  replace RC0 := Lib.hid (RC0.out.to bL)
  replace RM0 := Lib.hid (RM0.out.to bL)
  replace RG0 := Lib.hid (RG0.out.to bL)
  replace HB := Lib.hid (below_then HB.out bL)
  have RL0 := Lib.hid rL
  clear rL bL
  go_wp2_with fail
  refine (LH.out w2 RC0.out).mono ?_
  rintro en w3 ⟨aH, cH, rfl, rH, bH⟩
  clear LH
  replace RC0 := Lib.hid (RC0.out.to bH)
  replace RM0 := Lib.hid (RM0.out.to bH)
  replace RG0 := Lib.hid (RG0.out.to bH)
  replace RL0 := Lib.hid (RL0.out.to bH)
  replace HB := Lib.hid (below_then HB.out bH)
  have RH0 := Lib.hid rH
  clear rH bH
  go_wp2_with fail
  refine (LO.out w3 RC0.out).mono ?_
  rintro en w4 ⟨aO, cO, rfl, rO, bO⟩
  clear LO
  replace RC0 := Lib.hid (RC0.out.to bO)
  replace RM0 := Lib.hid (RM0.out.to bO)
  replace RG0 := Lib.hid (RG0.out.to bO)
  replace RL0 := Lib.hid (RL0.out.to bO)
  replace RH0 := Lib.hid (RH0.out.to bO)
  replace HB := Lib.hid (below_then HB.out bO)
  have RO0 := Lib.hid rO
  clear rO bO
  go_wp2_with fail
  refine (LD.out w4 RM0.out).mono ?_
  rintro en w5 ⟨gD, cD, os, rfl, hor, rD, bD⟩
  clear LD
  replace RC0 := Lib.hid (RC0.out.to bD)
  replace RM0 := Lib.hid (RM0.out.to bD)
  replace RG0 := Lib.hid (RG0.out.to bD)
  replace RL0 := Lib.hid (RL0.out.to bD)
  replace RH0 := Lib.hid (RH0.out.to bD)
  replace RO0 := Lib.hid (RO0.out.to bD)
  replace HB := Lib.hid (below_then HB.out bD)
  have hoB := hor.order
  have hol := hor.len
  have LTk := Lib.hid (by
    have h1 := takeO_any w5 aC cC xs e (some ⟨gD, 0, none⟩) cD os RC0.out (by omega) rD.rd (by rw [hol]; omega) rD.cap
    rw [hol] at h1
    exact ret_some (G := (takeF xs os e).map (· * 1680)) (n := xs.length) h1 (by unfold takeOF; rw [HV.out, hoB]; rfl) (by rw [List.length_map, takeF_len]))
  have HsT := Lib.hid (take_wsum HV.out hoB)
  have HlT : Hid (((takeF xs os e).map (· * 1680)).length = xs.length) := by rw [Hid, List.length_map, takeF_len]
  generalize (takeF xs os e).map (· * 1680) = T at *
  clear hor rD bD hoB hol
  go_wp2_with fail
  refine LTk.out.mono ?_
  rintro en w6 ⟨aT, cT, rfl, rT, bT⟩
  clear LTk
  replace RC0 := Lib.hid (RC0.out.to bT)
  replace RM0 := Lib.hid (RM0.out.to bT)
  replace RG0 := Lib.hid (RG0.out.to bT)
  replace RL0 := Lib.hid (RL0.out.to bT)
  replace RH0 := Lib.hid (RH0.out.to bT)
  replace RO0 := Lib.hid (RO0.out.to bT)
  replace HB := Lib.hid (below_then HB.out bT)
  have RT0 := Lib.hid rT
  clear rT bT
  go_wp2_with fail
  refine (LT.out w6 RC0.out).mono ?_
  rintro en w7 ⟨aK, cK, rfl, rK, bK⟩
  clear LT
  replace RC0 := Lib.hid (RC0.out.to bK)
  replace RM0 := Lib.hid (RM0.out.to bK)
  replace RG0 := Lib.hid (RG0.out.to bK)
  replace RL0 := Lib.hid (RL0.out.to bK)
  replace RH0 := Lib.hid (RH0.out.to bK)
  replace RO0 := Lib.hid (RO0.out.to bK)
  replace RT0 := Lib.hid (RT0.out.to bK)
  replace HB := Lib.hid (below_then HB.out bK)
  have RK0 := Lib.hid rK
  clear rK bK
  go_wp2_with fail
  refine (LE.out w7 RC0.out).mono ?_
  rintro en w8 ⟨bs', rfl, rE, lE, hE, bE⟩
  clear LE
  have rE2 := rE.rd rE.lt
  replace RC0 := Lib.hid (RC0.out.to bE)
  replace RM0 := Lib.hid (RM0.out.to bE)
  replace RG0 := Lib.hid (RG0.out.to bE)
  replace RL0 := Lib.hid (RL0.out.to bE)
  replace RH0 := Lib.hid (RH0.out.to bE)
  replace RO0 := Lib.hid (RO0.out.to bE)
  replace RT0 := Lib.hid (RT0.out.to bE)
  replace RK0 := Lib.hid (RK0.out.to bE)
  replace HB := Lib.hid (below_then HB.out bE)
  have RE0 := Lib.hid rE2
  obtain ⟨S, hS, hSum, hEv⟩ := even_all HSm.out sm0 esm HX.out hE
  have HSum := Lib.hid hSum
  have HEv := Lib.hid (And.intro lE hEv)
  clear rE rE2 bE lE hE hSum hEv
  go_wp2_with fail
  refine (LS.out w8 RC0.out).mono ?_
  rintro en w9 ⟨aZ, cZ, rfl, rZ, bZ⟩
  clear LS
  replace RC0 := Lib.hid (RC0.out.to bZ)
  replace RM0 := Lib.hid (RM0.out.to bZ)
  replace RG0 := Lib.hid (RG0.out.to bZ)
  replace RL0 := Lib.hid (RL0.out.to bZ)
  replace RH0 := Lib.hid (RH0.out.to bZ)
  replace RO0 := Lib.hid (RO0.out.to bZ)
  replace RT0 := Lib.hid (RT0.out.to bZ)
  replace RK0 := Lib.hid (RK0.out.to bZ)
  replace RE0 := Lib.hid (RE0.out.to bZ)
  replace HB := Lib.hid (below_then HB.out bZ)
  have RZ0 := Lib.hid rZ.rd
  clear rZ bZ
  have HFZ : Hid ((sureF xs e).length = xs.length ∧ ∀ i, i < xs.length → 0 ≤ (sureF xs e).getD i 0 ∧ (sureF xs e).getD i 0 ≤ G.getD i 0 ∧ (sureF xs e).getD i 0 ≤ L.getD i 0 ∧ (sureF xs e).getD i 0 ≤ H.getD i 0) :=
    ⟨by simp [sureF], fun i hi => ⟨(sure_law HV.out HFG.out hi).1, (sure_law HV.out HFG.out hi).2, (sure_law HV.out HFL.out hi).2, (sure_law HV.out HFH.out hi).2⟩⟩
  generalize sureF xs e = Z at *
  have he : e ≤ 234 := by omega
  have hqe : 0 ≤ q * (e : Int) ∧ q * (e : Int) ≤ 1000000 := by
    have h1 : 0 ≤ q * (e : Int) := Int.mul_nonneg q0 e0
    have h2 : q * (e : Int) ≤ 720 * (e : Int) := Int.mul_le_mul_of_nonneg_right q1 e0
    omega
  have HKT : Hid (Kt.length = xs.length ∧ T.length = xs.length) := ⟨HlK.out, HlT.out⟩
  have hl : 1 ≤ xs.length ∧ xs.length ≤ 6 := ⟨l1, l6⟩
  have HWe := Lib.hid (below_then HW0.out HB.out)
  go_upto_region 22 with fail
  refine clB w w9 e S lg ll xs G L H O Z bs' aC aG aL aH aO aZ (some ⟨w7.heap.size, 0, none⟩) cC cG cL cH cO cZ xs.length q Kt T aK aT cK cT cM aM ms HWe RC0 RG0 RL0 RH0 RO0 RZ0 RE0 HFG HFL HFH HFO HFZ HlG HlL HX hl HEv hS he HSum RK0 RT0 HKT HsG HsL HsH HsT HsK hqe RM0 HM8 hml HV HEq hcC _ ?hk
  case hk => assumption
end Go.Proofs.Ytkapjlkeohjjbaa
namespace Go.Proofs.Ytkapjlkeohjjbaa
set_option linter.unusedVariables false
set_option linter.unusedSimpArgs false
open Go.RowKit

set_option maxRecDepth 10000 in
set_option maxHeartbeats 16000000 in
theorem law_Claims (w : World) (ac am : Option Addr) (cc cm : Nat) (cs ms : List Int) (hc : Rd w w.heap.size ac (byts cs)) (hm : Rd w w.heap.size am (byts ms)) (lc : cs.length ≤ 9223372036854775807) (lm : ms.length ≤ 9223372036854775807) (bc : ∀ x ∈ cs, 0 ≤ x ∧ x ≤ 255) (bm : ∀ x ∈ ms, 0 ≤ x ∧ x ≤ 255) :
    Calls Try.prog 4 #[.slice ac cs.length cc, .slice am ms.length cm] w fun e w' => e = .returned (.bool true) ∧ Below w.heap.size w w' := by
  have LL := Lib.hid (b10Long_any w ac am cc cm cs ms lc lm)
  cases hlong : longB cs ms with
  | true =>
    rw [hlong] at LL
    clear hlong hc hm bc bm
    go_enter Try.func4, Try.ntmps4
    go_wp2_with fail
    refine LL.out.mono ?_
    rintro e w' ⟨rfl, rfl⟩
    go_wp2_with fail
    go_ret
    exact ⟨rfl, Below.refl _ _⟩
  | false =>
  rw [hlong] at LL
  have hlc : cs.length ≤ 1048576 ∧ ms.length ≤ 1048576 := by
    simp only [longB, Bool.or_eq_false_iff, decide_eq_false_iff_not] at hlong
    omega
  obtain ⟨hlc, hlm⟩ := hlc
  have RM := Lib.hid hm
  have HM8 := Lib.hid bm
  have LC := Lib.hid (fun (v : World) (hb : Below w.heap.size w v) (i : Int) (hi : 0 ≤ i) (hi2 : i ≤ 1000000) => b10At_any v ac cc cs i 40 (hc.to hb) hlc bc hi hi2)
  have LM := Lib.hid (fun (v : World) (hb : Below w.heap.size w v) (i n : Int) (hi : 0 ≤ i) (hi2 : i ≤ 1000000) => b10At_any v am cm ms i n (hm.to hb) hlm bm hi hi2)
  have L0 := Lib.hid (fun v hb => LM.out v hb 0 6 (by omega) (by omega))
  have e0 := atF_bd (xs := ms) (i := 0) (n := 6) (by omega)
  obtain ⟨n, hn⟩ : ∃ n : Nat, 1 + atF ms 0 6 = (n : Int) := ⟨(1 + atF ms 0 6).toNat, by omega⟩
  have hA0 : atF ms 0 6 = (n : Int) - 1 := by omega
  rw [hA0] at L0
  have n1 : 1 ≤ n := by omega
  have n6 : n ≤ 6 := by omega
  clear hlong hc hm bc bm e0 hn hA0 lc lm
  have en : (1 : Int) + ((n : Int) - 1) = n := by omega
  go_enter Try.func4, Try.ntmps4
  go_wp2_with fail
  refine LL.out.mono ?_
  rintro e w' ⟨rfl, rfl⟩
  go_wp2_with fail
  go_loopw [7, 6, 5] (fun iv sv xv wr => ∃ (k : Nat) (s : Int) (v : Value) (xs : List Int), k ≤ n ∧ iv = .int .i64 k ∧ sv = .int .i64 s ∧ xv = v ∧ Hid (xs.length = k) ∧ Hid (xs.sum = s) ∧ 0 ≤ s ∧ s ≤ 39 * (k : Int) ∧ Hid (∀ x ∈ xs, 0 ≤ x ∧ x ≤ 39) ∧ Hid (wr.ownsRow w.heap.size 2 1 v k (ints xs)) ∧ Hid (Below w.heap.size w wr)) (fun iv _ _ _ => n - (intOf iv).toNat)
  case atStart => exact ⟨0, 0, _, [], Nat.zero_le _, rfl, rfl, rfl, rfl, rfl, Int.le_refl _, by omega, fun x hx => by simp at hx, own_empty w _, bl1 w _⟩
  case round =>
    obtain ⟨k, s, v, xs, hk, rfl, rfl, rfl, hxl, hxs, s0, s1, hx39, ho, hw⟩ := hrel
    have k0 : (0 : Int) ≤ (k : Int) := Int.natCast_nonneg _
    have L0k := Lib.hid (L0.out wr hw.out)
    have hsw := hw.out.size
    by_cases hlt : k < n
    case neg =>
      obtain rfl : k = n := by omega
      obtain rfl : xs.length = k := hxl.out
      clear hlt
      have L1 := Lib.hid (LM.out wr hw.out 1 (s + 1) (by omega) (by omega))
      have e1 := atF_bd (xs := ms) (i := 1) (n := s + 1) (by omega)
      obtain ⟨e, he⟩ : ∃ e : Nat, atF ms 1 (s + 1) = (e : Int) := ⟨(atF ms 1 (s + 1)).toNat, by omega⟩
      rw [he] at L1 e1
      obtain ⟨aC, cC, eC, hcap, _⟩ := own_shape ho.out
      subst eC
      have RC := Lib.hid (rd_of_own ho.out (Nat.le_refl _))
      have RM1 := Lib.hid (RM.out.to hw.out)
      obtain ⟨e10, e11⟩ := e1
      clear LC LM L0 he ho RM LL
      go_wp2_with fail
      refine L0k.out.mono ?_
      rintro en w' ⟨rfl, rfl⟩
      try rw [en]
      go_wp2_with fail
      refine L1.out.mono ?_
      rintro en w' ⟨rfl, rfl⟩
      go_upto_region 13 with fail
      refine clM w wr e s xs ms aC am cC cm hw RC RM1 HM8 hlm hx39 ⟨n1, n6⟩ hxs ⟨s0, by omega, by omega⟩ hcap _ ?hk
      case hk => assumption
    have LCk := Lib.hid (LC.out wr hw.out k (by omega) (by omega))
    have ex := atF_bd (xs := cs) (i := k) (n := 40) (by omega)
    generalize atF cs k 40 = x at *
    obtain ⟨x0, x1⟩ := ex
    have HO := Lib.hid ho.out
    have hx2 : Hid (∀ y ∈ xs ++ [x], 0 ≤ y ∧ y ≤ 39) := fun y hy => by
      rcases List.mem_append.1 hy with h | h
      · exact hx39.out y h
      · simp only [List.mem_singleton] at h; subst h; omega
    have hl2 : Hid ((xs ++ [x]).length = k + 1) := by rw [Hid, List.length_append, hxl.out]; rfl
    have hs2 : Hid ((xs ++ [x]).sum = s + x) := by rw [Hid, List.sum_append, hxs.out]; simp
    clear ho LC LM L0 RM LL
    have hki : (k : Int) < (n : Int) := by omega
    go_wp2_with fail
    refine L0k.out.mono ?_
    rintro en w' ⟨rfl, rfl⟩
    try rw [en]
    go_wp2_with fail
    refine LCk.out.mono ?_
    rintro en w' ⟨rfl, rfl⟩
    go_wp2_with (at_builtin; refine wpList_append_one _ rfl _ _ 24 rfl w.heap.size 2 (.int .i64 0) 8 Try.underlying24 info_i64p rfl _ k _ rfl HO.out (.int .i64 x) rfl rfl (by omega) (by omega) hsw ?_)
    intro v8 w8 o8 g8
    have B8 := Lib.hid (below_append hw.out HO.out g8 (Nat.le_refl _) hsw)
    have H8 : Hid (w8.ownsRow w.heap.size 2 1 v8 (k + 1) (ints (xs ++ [x]))) := by rw [ints_append]; exact o8
    clear o8 g8 HO
    go_wp2_with fail
    go_roundw
    case rel => exact ⟨k + 1, s + x, v8, xs ++ [x], by omega, by go_num, by go_num, rfl, hl2, hs2, by omega, by omega, hx2, H8, B8⟩
    case measure => simp [intOf]; omega
end Go.Proofs.Ytkapjlkeohjjbaa
