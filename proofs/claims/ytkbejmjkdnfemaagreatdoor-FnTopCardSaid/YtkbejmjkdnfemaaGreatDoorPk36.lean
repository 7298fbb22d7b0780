/-
  Part 36 of what the proof stands on: lemmas and contracts, each with its conditions ahead of the colon.
-/
import Derived.Deep.RegionHeld3
import Derived.Deep.DeepCutAuto
import Derived.Deep.CutBlock
import Derived.Test.YtkbejmjkdnfemaaGreatDoorPk35
namespace Go.Proofs.YtkbejmjkdnfemaaGreatDoor
set_option linter.unusedVariables false
set_option linter.unusedSimpArgs false
open Go.RowKit

theorem stop_bd {o : DD} {ow ch : List Int} (h : TopH o ow ch) : ((stopO o ch).2 : Int) ≤ 9223372036854775807 := by
  have hc := can_of h.ch
  obtain ⟨-, -, c3⟩ := restF_rest hc
  have hm := measF_bd hc
  show ((restF ⟨o.U, o.N, o.W, o.K⟩ ch).2 : Int) ≤ _
  omega
theorem top_size {o : DD} {ow ch : List Int} (h : TopH o ow ch) : (tellsL (topW o ow ch)).length ≤ 16000 ∧ True := by
  refine ⟨?_, trivial⟩
  have hb := top_bad h
  unfold countF at hb
  split at hb
  · rename_i hh
    rw [Bool.and_eq_true, decide_eq_true_eq] at hh
    exact hh.1
  · cases hb
theorem bs_le {s : ByteArray} {l : List UInt8} {n : Nat} (h : s = bs l) (hl : l.length ≤ n) : s.size ≤ n := by rw [h, bs_size]; exact hl
theorem top_sizes {o : DD} {ow ch : List Int} {sG sV sC sF sP sS sR sE sQ sL sM sN sT : ByteArray} (h : TopH o ow ch) (q1 : sG = bs (gT o)) (q2 : sV = bs (vT o)) (q3 : sC = bs (cT o)) (q4 : sF = bs (ntextL o.F)) (p1 : sP = bs (textL (pureO o))) (p2 : sS = bs (textL [(safeO o).1, (safeO o).2])) (p3 : sR = bs (textL (roundO o))) (p4 : sE = bs (textL (tabO o ow))) (p5 : sQ = bs (textL (stopO o ch).1)) (p6 : sL = bs (textL (leftO o).1)) (p7 : sM = bs (textL (leftO o).2)) (hN : sN = bs (Lib.itoa (stopO o ch).2)) (hT : sT = bs (Lib.itoa (sumO o ch))) :
    sG.size ≤ 16000 ∧ sV.size ≤ 16000 ∧ sC.size ≤ 16000 ∧ sF.size ≤ 16000 ∧ sP.size ≤ 16000 ∧ sS.size ≤ 16000 ∧ sR.size ≤ 16000 ∧ sE.size ≤ 16000 ∧ sQ.size ≤ 16000 ∧ sL.size ≤ 16000 ∧ sM.size ≤ 16000 ∧ sN.size ≤ 16000 ∧ sT.size ≤ 16000 := by
  have g4 := ntextL_len o.F
  have g5 := (DD.ok_len h.ok).2.2.2.2.2.2
  have hv := valid_of (DD.ok_parts h.ok).2.2.1
  have hc := can_of h.ch
  obtain ⟨c1, -, c3⟩ := restF_rest hc
  have v5 : valOk (stopO o ch).1 = true := can_valOk c1 hv
  have hb := total_bd hv ch
  have tl : ∀ {xs : List Int}, valOk xs = true → (textL xs).length ≤ 16000 := fun hx => by have := text_le hx; have := valOk_len hx; omega
  have i1 := itoa_len (n := ((stopO o ch).2 : Int)) (by omega) (stop_bd h)
  have i2 := itoa_len (n := sumO o ch) (by show _ ≤ totalF _ _; omega) (by show totalF _ _ ≤ _; omega)
  exact ⟨bs_le q1 (by have := gT_len h.ok; omega), bs_le q2 (by have := vT_len h.ok; omega), bs_le q3 (by have := cT_len h.ok; omega), bs_le q4 (by omega), bs_le p1 (tl (pure_ok h.ok)), bs_le p2 (tl (safe_ok h.ok)), bs_le p3 (tl h.en), bs_le p4 (tl (tab_ok h.ok ow)), bs_le p5 (tl v5), bs_le p6 (tl (left_ok h.ok).1), bs_le p7 (tl (left_ok h.ok).2), bs_le hN (by omega), bs_le hT (by omega)⟩
theorem top_join (o : DD) (ow ch : List Int) : bs [111, 107, 10, 111, 107, 10, 111, 107, 10, 111, 107, 10] ++ bs (gT o) ++ bs [10] ++ bs (vT o) ++ bs [10] ++ bs (cT o) ++ bs [10] ++ bs (ntextL o.F) ++ bs [10] ++ bs (textL (pureO o)) ++ bs [10] ++ bs (textL [(safeO o).1, (safeO o).2]) ++ bs [10, 119, 104, 97, 116, 10] ++ bs (textL (roundO o)) ++ bs [10] ++ bs (textL (tabO o ow)) ++ bs [10] ++ bs (textL (stopO o ch).1) ++ bs [59] ++ bs (Lib.itoa (stopO o ch).2) ++ bs [10] ++ bs (Lib.itoa (sumO o ch)) ++ bs [10] ++ bs (textL (leftO o).1) ++ bs [59] ++ bs (textL (leftO o).2) ++ bs [10, 111, 107, 10] = bs (tellsL (topW o ow ch)) := by
  simp only [show ∀ l : List UInt8, (⟨l.toArray⟩ : ByteArray) = bs l from fun _ => rfl, bsJ]
  refine congrArg bs ?_
  unfold topW tellsL okL whatL
  simp only [List.map_cons, List.map_nil, List.flatten_cons, List.flatten_nil, List.append_assoc, List.cons_append, List.nil_append, List.append_nil]
set_option maxRecDepth 100000 in
set_option maxHeartbeats 32000000 in
theorem topF (w v0 : World) (g : Nat) (o : DD) (x : DA) (gD gE : Nat) (xD : DA) (aA aB : Option Addr) (cA cB : Nat) (ow ch : List Int) (sO sG sV sC sF sP sS sR sE sQ sL sM : ByteArray) (HW : Hid (Below w.heap.size w v0)) (HO : o.ok = true) (K0 : Hid (Blk v0 g (o.cells x) 33)) (D0 : Hid (DRd v0 v0.heap.size o x)) (KD : Hid (Blk v0 gD ((turnD o).cells xD) 33)) (DD0 : Hid (DRd v0 v0.heap.size (turnD o) xD)) (KE : Hid (Blk v0 gE [.int .i64 (turnD o).R, .int .i64 (turnD o).C, .slice aA (turnD o).A.length cA, .slice aB (turnD o).B.length cB] 26)) (RA : Hid (Rd v0 v0.heap.size aA (ints (turnD o).A))) (RB : Hid (Rd v0 v0.heap.size aB (ints (turnD o).B))) (H0 : Hid (TopH o ow ch)) (HE : Hid (Env v0)) (HO2 : Hid (sO = bs (tellsL (topW o ow ch)))) (HXG : Hid (sG = bs (gT o) ∧ sV = bs (vT o) ∧ sC = bs (cT o) ∧ sF = bs (ntextL o.F))) (HYP : Hid (sP = bs (textL (pureO o)) ∧ sS = bs (textL [(safeO o).1, (safeO o).2]) ∧ sR = bs (textL (roundO o)) ∧ sE = bs (textL (tabO o ow)) ∧ sQ = bs (textL (stopO o ch).1) ∧ sL = bs (textL (leftO o).1) ∧ sM = bs (textL (leftO o).2))) (K : Act → World → Prop) (hK : ∀ (a : Act) (v : World), Code.wp Tryz.prog (((Tryz.f3).body.bind (restAt 33)).getD .skip) (bodyPost Tryz.prog Tryz.f3 fun e w' => e = .returned (.bool true) ∧ Below w.heap.size w w') a v → K a v)
    {z0 z1 z2 z3 z4 z6 z7 z9 z11 z13 z15 z16 z17 z18 z19 z20 z23 z24 z25 z27 z28 z29 z30 z32 z33 z34 z36 z37 z38 z40 z41 z43 z45 z47 z48 z49 z50 z52 z54 z56 z57 z58 z59 z60 z61 z62 z63 z64 z65 z66 z67 z68 z69 z70 z71 z72 z73 z74 z75 z76 z77 z78 z79 z80 z81 z82 z83 z84 z85 z86 z87 z88 z89 z90 z91 z92 z93 z94 z95 z96 z97 z98 z99 z100 z101 z102 z103 z104 z105 z106 z107 z108 z109 z110 z111 z112 z113 z114 z115 z116 z117 z118 z119 z120 z121 z122 z123 z124 z125 z126 z127 z128 z129 z130 z131 z132 z133 z134 z135 z136 z137 z138 z139 z140 z141 z142 z143 z144 z145 z146 z147 z148 z149 z150 z151 z152 z153 z154 z155 z156 z157 z158 z159 z160 z161 z162 z163 z164 z165 z166 z167 z168 z169 z170 z171 z172 z173 z174 z175 z176 z177 z178 z179 z180 z181 z182 z183 z184 z185 z186 z187 z188 z189 z190 z191 z192 z193 z194 z195 z196 z197 z198 z199 z200 z201 z202 z203 z204 z205 z206 z207 z208 z209 z210 z211 z212 z213 z214 z215 z216 z217 z218 z219 z220 z221 z222 z223 z224 z225 z226 z227 z228 z229 z230 z231 z232 z233 z234 z235 z236 z237 z238 z239 z240 z241 z242 z243 z244 z245 z246 z247 z248 z249 z250 z251 z252 z253 z254 z255 z256 z257 z258 z259 z260 z261 z262 z263 z264 z265 z266 z267 z268 z269 z270 z271 z272 z273 z274 z275 z276 z277 z278 z279 z280 z281 z282 z283 z284 z285 z286 z287 z288 z289 z290 z291 z292 z293 z294 z295 z296 z297 z298 z299 z300 z301 z302 z303 z304 z305 z306 z307 z308 z309 z310 z311 z312 z313 z314 z315 z316 z317 z318 z319 z320 z321 z322 z323 z324 z325 z326 z327 z328 z329 z330 z331 z332 z333 z334 z335 z336 z337 z338 z339 z340 z341 z342 z343 z344 z345 z346 z347 z348 z349 z350 z351 z352 z353 z354 z355 z356 z357 z358 z359 z360 z361 z362 z363 z364 z365 z366 z367 z368 z369 z370 z371 z372 z373 z374 z375 z376 z377 z378 z379 z380 z381 z382 z383 z384 z385 z386 z387 z388 z389 z390 z391 z392 z393 z394 z395 z396 z397 : Value} :
    Code.wp Tryz.prog (((Tryz.f3).body.bind (regAt 33)).getD .skip) (Exit.then K (bodyPost Tryz.prog Tryz.f3 fun e w' => e = .returned (.bool true) ∧ Below w.heap.size w w')) ⟨#[z0, z1, z2, z3, z4, .pointer (some ⟨g, 0, none⟩), z6, z7, .string sG, z9, .string sV, z11, .string sC, z13, .string sF, z15, z16, z17, z18, z19, z20, .pointer (some ⟨gD, 0, none⟩), .string sO, z23, z24, z25, .string sP, z27, z28, z29, z30, .string sS, z32, z33, z34, .string sR, z36, z37, z38, .string sE, z40, z41, .int .i64 (stopO o ch).2, z43, .string sQ, z45, .int .i64 (sumO o ch), z47, z48, z49, z50, .string sL, z52, .string sM, z54, .pointer (some ⟨gE, 0, none⟩), z56, z57, z58, z59, z60, z61, z62, z63, z64, z65, z66, z67, z68, z69, z70, z71, z72, z73, z74, z75, z76, z77, z78, z79, z80, z81, z82, z83, z84, z85, z86, z87, z88, z89, z90, z91, z92, z93, z94, z95, z96, z97, z98, z99, z100, z101, z102, z103, z104, z105, z106, z107, z108, z109, z110, z111, z112, z113, z114, z115, z116, z117, z118, z119, z120, z121, z122, z123, z124, z125, z126, z127, z128, z129, z130, z131, z132, z133, z134, z135, z136, z137, z138, z139, z140, z141, z142, z143, z144, z145, z146, z147, z148, z149, z150, z151, z152, z153, z154, z155, z156, z157, z158, z159, z160, z161, z162, z163, z164, z165, z166, z167, z168, z169, z170, z171, z172, z173, z174, z175, z176, z177, z178, z179, z180, z181, z182, z183, z184, z185, z186, z187, z188, z189, z190, z191, z192, z193, z194, z195, z196, z197, z198, z199, z200, z201, z202, z203, z204, z205, z206, z207, z208, z209, z210, z211, z212, z213, z214, z215, z216, z217, z218, z219, z220, z221, z222, z223, z224, z225, z226, z227, z228, z229, z230, z231, z232, z233, z234, z235, z236, z237, z238, z239, z240, z241, z242, z243, z244, z245, z246, z247, z248, z249, z250, z251, z252, z253, z254, z255, z256, z257, z258, z259, z260, z261, z262, z263, z264, z265, z266, z267, z268, z269, z270, z271, z272, z273, z274, z275, z276, z277, z278, z279, z280, z281, z282, z283, z284, z285, z286, z287, z288, z289, z290, z291, z292, z293, z294, z295, z296, z297, z298, z299, z300, z301, z302, z303, z304, z305, z306, z307, z308, z309, z310, z311, z312, z313, z314, z315, z316, z317, z318, z319, z320, z321, z322, z323, z324, z325, z326, z327, z328, z329, z330, z331, z332, z333, z334, z335, z336, z337, z338, z339, z340, z341, z342, z343, z344, z345, z346, z347, z348, z349, z350, z351, z352, z353, z354, z355, z356, z357, z358, z359, z360, z361, z362, z363, z364, z365, z366, z367, z368, z369, z370, z371, z372, z373, z374, z375, z376, z377, z378, z379, z380, z381, z382, z383, z384, z385, z386, z387, z388, z389, z390, z391, z392, z393, z394, z395, z396, z397], []⟩ v0 := by
  obtain ⟨cr, hcr⟩ : ∃ c, c = (((Tryz.f3).body.bind (restAt 33)).getD .skip) := ⟨_, rfl⟩
  rw [← hcr] at hK
  conv at hcr => rhs; whnf
  subst hcr
  conv => arg 2; whnf

  obtain ⟨q1, q2, q3, q4⟩ := HXG.out
  obtain ⟨p1, p2, p3, p4, p5, p6, p7⟩ := HYP.out
  obtain ⟨zb1, zb2⟩ := top_size H0.out
  have hst := stop_bd H0.out
  have hsm := total_bd (valid_of (DD.ok_parts HO).2.2.1) ch
  have LN := Lib.hid (fun v hb => decimal_any v (HE.out.tab.to hb) (stopO o ch).2 (by omega) hst)
  have LT := Lib.hid (fun v hb => decimal_any v (HE.out.tab.to hb) (sumO o ch) (by show _ ≤ totalF _ _; omega) (by show totalF _ _ ≤ _; omega))
  obtain ⟨sN, hN⟩ : ∃ s, s = bs (Lib.itoa (stopO o ch).2) := ⟨_, rfl⟩
  obtain ⟨sT, hT⟩ : ∃ s, s = bs (Lib.itoa (sumO o ch)) := ⟨_, rfl⟩
  rw [← hN] at LN
  rw [← hT] at LT
  obtain ⟨zG, zV, zC, zF, zP, zS, zR, zE, zQ, zL, zM, zN, zT⟩ := top_sizes H0.out q1 q2 q3 q4 p1 p2 p3 p4 p5 p6 p7 hN hT
  have HJ : Hid ((⟨#[111, 107, 10, 111, 107, 10, 111, 107, 10, 111, 107, 10]⟩ : ByteArray) ++ sG ++ (⟨#[10]⟩ : ByteArray) ++ sV ++ (⟨#[10]⟩ : ByteArray) ++ sC ++ (⟨#[10]⟩ : ByteArray) ++ sF ++ (⟨#[10]⟩ : ByteArray) ++ sP ++ (⟨#[10]⟩ : ByteArray) ++ sS ++ (⟨#[10, 119, 104, 97, 116, 10]⟩ : ByteArray) ++ sR ++ (⟨#[10]⟩ : ByteArray) ++ sE ++ (⟨#[10]⟩ : ByteArray) ++ sQ ++ (⟨#[59]⟩ : ByteArray) ++ sN ++ (⟨#[10]⟩ : ByteArray) ++ sT ++ (⟨#[10]⟩ : ByteArray) ++ sL ++ (⟨#[59]⟩ : ByteArray) ++ sM ++ (⟨#[10, 111, 107, 10]⟩ : ByteArray) = sO) := by
    rw [Hid, HO2.out, q1, q2, q3, q4, p1, p2, p3, p4, p5, p6, p7, hN, hT]
    exact top_join o ow ch
  have hb0 := top_bad H0.out
  have LC := Lib.hid (fun v hb => countOut_any v (HE.out.shp.to hb) sO (by rw [HO2.out, bs_size]; omega))
  rw [show sO.data.toList = tellsL (topW o ow ch) from by rw [HO2.out]; exact bs_list _, hb0] at LC
  dsimp only [Option.map_some, Option.getD_some, Option.isSome_some] at LC
  clear q1 q2 q3 q4 p1 p2 p3 p4 p5 p6 p7 hN hT hst hsm hb0 zb1 zb2 HO2 HXG HYP H0
  have b0 : 12 + sG.size ≤ 16012 := Nat.add_le_add (Nat.le_refl 12) zG
  have b1 : 12 + sG.size + 1 ≤ 16013 := Nat.add_le_add b0 (Nat.le_refl 1)
  have b2 : 12 + sG.size + 1 + sV.size ≤ 32013 := Nat.add_le_add b1 zV
  have b3 : 12 + sG.size + 1 + sV.size + 1 ≤ 32014 := Nat.add_le_add b2 (Nat.le_refl 1)
  have b4 : 12 + sG.size + 1 + sV.size + 1 + sC.size ≤ 48014 := Nat.add_le_add b3 zC
  have b5 : 12 + sG.size + 1 + sV.size + 1 + sC.size + 1 ≤ 48015 := Nat.add_le_add b4 (Nat.le_refl 1)
  have b6 : 12 + sG.size + 1 + sV.size + 1 + sC.size + 1 + sF.size ≤ 64015 := Nat.add_le_add b5 zF
  have b7 : 12 + sG.size + 1 + sV.size + 1 + sC.size + 1 + sF.size + 1 ≤ 64016 := Nat.add_le_add b6 (Nat.le_refl 1)
  have b8 : 12 + sG.size + 1 + sV.size + 1 + sC.size + 1 + sF.size + 1 + sP.size ≤ 80016 := Nat.add_le_add b7 zP
  have b9 : 12 + sG.size + 1 + sV.size + 1 + sC.size + 1 + sF.size + 1 + sP.size + 1 ≤ 80017 := Nat.add_le_add b8 (Nat.le_refl 1)
  have b10 : 12 + sG.size + 1 + sV.size + 1 + sC.size + 1 + sF.size + 1 + sP.size + 1 + sS.size ≤ 96017 := Nat.add_le_add b9 zS
  have b11 : 12 + sG.size + 1 + sV.size + 1 + sC.size + 1 + sF.size + 1 + sP.size + 1 + sS.size + 6 ≤ 96023 := Nat.add_le_add b10 (Nat.le_refl 6)
  have b12 : 12 + sG.size + 1 + sV.size + 1 + sC.size + 1 + sF.size + 1 + sP.size + 1 + sS.size + 6 + sR.size ≤ 112023 := Nat.add_le_add b11 zR
  have b13 : 12 + sG.size + 1 + sV.size + 1 + sC.size + 1 + sF.size + 1 + sP.size + 1 + sS.size + 6 + sR.size + 1 ≤ 112024 := Nat.add_le_add b12 (Nat.le_refl 1)
  have b14 : 12 + sG.size + 1 + sV.size + 1 + sC.size + 1 + sF.size + 1 + sP.size + 1 + sS.size + 6 + sR.size + 1 + sE.size ≤ 128024 := Nat.add_le_add b13 zE
  have b15 : 12 + sG.size + 1 + sV.size + 1 + sC.size + 1 + sF.size + 1 + sP.size + 1 + sS.size + 6 + sR.size + 1 + sE.size + 1 ≤ 128025 := Nat.add_le_add b14 (Nat.le_refl 1)
  have b16 : 12 + sG.size + 1 + sV.size + 1 + sC.size + 1 + sF.size + 1 + sP.size + 1 + sS.size + 6 + sR.size + 1 + sE.size + 1 + sQ.size ≤ 144025 := Nat.add_le_add b15 zQ
  have b17 : 12 + sG.size + 1 + sV.size + 1 + sC.size + 1 + sF.size + 1 + sP.size + 1 + sS.size + 6 + sR.size + 1 + sE.size + 1 + sQ.size + 1 ≤ 144026 := Nat.add_le_add b16 (Nat.le_refl 1)
  have b18 : 12 + sG.size + 1 + sV.size + 1 + sC.size + 1 + sF.size + 1 + sP.size + 1 + sS.size + 6 + sR.size + 1 + sE.size + 1 + sQ.size + 1 + sN.size ≤ 160026 := Nat.add_le_add b17 zN
  have b19 : 12 + sG.size + 1 + sV.size + 1 + sC.size + 1 + sF.size + 1 + sP.size + 1 + sS.size + 6 + sR.size + 1 + sE.size + 1 + sQ.size + 1 + sN.size + 1 ≤ 160027 := Nat.add_le_add b18 (Nat.le_refl 1)
  have b20 : 12 + sG.size + 1 + sV.size + 1 + sC.size + 1 + sF.size + 1 + sP.size + 1 + sS.size + 6 + sR.size + 1 + sE.size + 1 + sQ.size + 1 + sN.size + 1 + sT.size ≤ 176027 := Nat.add_le_add b19 zT
  have b21 : 12 + sG.size + 1 + sV.size + 1 + sC.size + 1 + sF.size + 1 + sP.size + 1 + sS.size + 6 + sR.size + 1 + sE.size + 1 + sQ.size + 1 + sN.size + 1 + sT.size + 1 ≤ 176028 := Nat.add_le_add b20 (Nat.le_refl 1)
  have b22 : 12 + sG.size + 1 + sV.size + 1 + sC.size + 1 + sF.size + 1 + sP.size + 1 + sS.size + 6 + sR.size + 1 + sE.size + 1 + sQ.size + 1 + sN.size + 1 + sT.size + 1 + sL.size ≤ 192028 := Nat.add_le_add b21 zL
  have b23 : 12 + sG.size + 1 + sV.size + 1 + sC.size + 1 + sF.size + 1 + sP.size + 1 + sS.size + 6 + sR.size + 1 + sE.size + 1 + sQ.size + 1 + sN.size + 1 + sT.size + 1 + sL.size + 1 ≤ 192029 := Nat.add_le_add b22 (Nat.le_refl 1)
  have b24 : 12 + sG.size + 1 + sV.size + 1 + sC.size + 1 + sF.size + 1 + sP.size + 1 + sS.size + 6 + sR.size + 1 + sE.size + 1 + sQ.size + 1 + sN.size + 1 + sT.size + 1 + sL.size + 1 + sM.size ≤ 208029 := Nat.add_le_add b23 zM
  have b25 : 12 + sG.size + 1 + sV.size + 1 + sC.size + 1 + sF.size + 1 + sP.size + 1 + sS.size + 6 + sR.size + 1 + sE.size + 1 + sQ.size + 1 + sN.size + 1 + sT.size + 1 + sL.size + 1 + sM.size + 4 ≤ 208033 := Nat.add_le_add b24 (Nat.le_refl 4)
  have s0 : ¬ 9223372036854775807 < 12 + sG.size := Nat.not_lt_of_le (Nat.le_trans b0 (by decide))
  have s1 : ¬ 9223372036854775807 < 12 + sG.size + 1 := Nat.not_lt_of_le (Nat.le_trans b1 (by decide))
  have s2 : ¬ 9223372036854775807 < 12 + sG.size + 1 + sV.size := Nat.not_lt_of_le (Nat.le_trans b2 (by decide))
  have s3 : ¬ 9223372036854775807 < 12 + sG.size + 1 + sV.size + 1 := Nat.not_lt_of_le (Nat.le_trans b3 (by decide))
  have s4 : ¬ 9223372036854775807 < 12 + sG.size + 1 + sV.size + 1 + sC.size := Nat.not_lt_of_le (Nat.le_trans b4 (by decide))
  have s5 : ¬ 9223372036854775807 < 12 + sG.size + 1 + sV.size + 1 + sC.size + 1 := Nat.not_lt_of_le (Nat.le_trans b5 (by decide))
  have s6 : ¬ 9223372036854775807 < 12 + sG.size + 1 + sV.size + 1 + sC.size + 1 + sF.size := Nat.not_lt_of_le (Nat.le_trans b6 (by decide))
  have s7 : ¬ 9223372036854775807 < 12 + sG.size + 1 + sV.size + 1 + sC.size + 1 + sF.size + 1 := Nat.not_lt_of_le (Nat.le_trans b7 (by decide))
  have s8 : ¬ 9223372036854775807 < 12 + sG.size + 1 + sV.size + 1 + sC.size + 1 + sF.size + 1 + sP.size := Nat.not_lt_of_le (Nat.le_trans b8 (by decide))
  have s9 : ¬ 9223372036854775807 < 12 + sG.size + 1 + sV.size + 1 + sC.size + 1 + sF.size + 1 + sP.size + 1 := Nat.not_lt_of_le (Nat.le_trans b9 (by decide))
  have s10 : ¬ 9223372036854775807 < 12 + sG.size + 1 + sV.size + 1 + sC.size + 1 + sF.size + 1 + sP.size + 1 + sS.size := Nat.not_lt_of_le (Nat.le_trans b10 (by decide))
  have s11 : ¬ 9223372036854775807 < 12 + sG.size + 1 + sV.size + 1 + sC.size + 1 + sF.size + 1 + sP.size + 1 + sS.size + 6 := Nat.not_lt_of_le (Nat.le_trans b11 (by decide))
  have s12 : ¬ 9223372036854775807 < 12 + sG.size + 1 + sV.size + 1 + sC.size + 1 + sF.size + 1 + sP.size + 1 + sS.size + 6 + sR.size := Nat.not_lt_of_le (Nat.le_trans b12 (by decide))
  have s13 : ¬ 9223372036854775807 < 12 + sG.size + 1 + sV.size + 1 + sC.size + 1 + sF.size + 1 + sP.size + 1 + sS.size + 6 + sR.size + 1 := Nat.not_lt_of_le (Nat.le_trans b13 (by decide))
  have s14 : ¬ 9223372036854775807 < 12 + sG.size + 1 + sV.size + 1 + sC.size + 1 + sF.size + 1 + sP.size + 1 + sS.size + 6 + sR.size + 1 + sE.size := Nat.not_lt_of_le (Nat.le_trans b14 (by decide))
  have s15 : ¬ 9223372036854775807 < 12 + sG.size + 1 + sV.size + 1 + sC.size + 1 + sF.size + 1 + sP.size + 1 + sS.size + 6 + sR.size + 1 + sE.size + 1 := Nat.not_lt_of_le (Nat.le_trans b15 (by decide))
  have s16 : ¬ 9223372036854775807 < 12 + sG.size + 1 + sV.size + 1 + sC.size + 1 + sF.size + 1 + sP.size + 1 + sS.size + 6 + sR.size + 1 + sE.size + 1 + sQ.size := Nat.not_lt_of_le (Nat.le_trans b16 (by decide))
  have s17 : ¬ 9223372036854775807 < 12 + sG.size + 1 + sV.size + 1 + sC.size + 1 + sF.size + 1 + sP.size + 1 + sS.size + 6 + sR.size + 1 + sE.size + 1 + sQ.size + 1 := Nat.not_lt_of_le (Nat.le_trans b17 (by decide))
  have s18 : ¬ 9223372036854775807 < 12 + sG.size + 1 + sV.size + 1 + sC.size + 1 + sF.size + 1 + sP.size + 1 + sS.size + 6 + sR.size + 1 + sE.size + 1 + sQ.size + 1 + sN.size := Nat.not_lt_of_le (Nat.le_trans b18 (by decide))
  have s19 : ¬ 9223372036854775807 < 12 + sG.size + 1 + sV.size + 1 + sC.size + 1 + sF.size + 1 + sP.size + 1 + sS.size + 6 + sR.size + 1 + sE.size + 1 + sQ.size + 1 + sN.size + 1 := Nat.not_lt_of_le (Nat.le_trans b19 (by decide))
  have s20 : ¬ 9223372036854775807 < 12 + sG.size + 1 + sV.size + 1 + sC.size + 1 + sF.size + 1 + sP.size + 1 + sS.size + 6 + sR.size + 1 + sE.size + 1 + sQ.size + 1 + sN.size + 1 + sT.size := Nat.not_lt_of_le (Nat.le_trans b20 (by decide))
  have s21 : ¬ 9223372036854775807 < 12 + sG.size + 1 + sV.size + 1 + sC.size + 1 + sF.size + 1 + sP.size + 1 + sS.size + 6 + sR.size + 1 + sE.size + 1 + sQ.size + 1 + sN.size + 1 + sT.size + 1 := Nat.not_lt_of_le (Nat.le_trans b21 (by decide))
  have s22 : ¬ 9223372036854775807 < 12 + sG.size + 1 + sV.size + 1 + sC.size + 1 + sF.size + 1 + sP.size + 1 + sS.size + 6 + sR.size + 1 + sE.size + 1 + sQ.size + 1 + sN.size + 1 + sT.size + 1 + sL.size := Nat.not_lt_of_le (Nat.le_trans b22 (by decide))
  have s23 : ¬ 9223372036854775807 < 12 + sG.size + 1 + sV.size + 1 + sC.size + 1 + sF.size + 1 + sP.size + 1 + sS.size + 6 + sR.size + 1 + sE.size + 1 + sQ.size + 1 + sN.size + 1 + sT.size + 1 + sL.size + 1 := Nat.not_lt_of_le (Nat.le_trans b23 (by decide))
  have s24 : ¬ 9223372036854775807 < 12 + sG.size + 1 + sV.size + 1 + sC.size + 1 + sF.size + 1 + sP.size + 1 + sS.size + 6 + sR.size + 1 + sE.size + 1 + sQ.size + 1 + sN.size + 1 + sT.size + 1 + sL.size + 1 + sM.size := Nat.not_lt_of_le (Nat.le_trans b24 (by decide))
  have s25 : ¬ 9223372036854775807 < 12 + sG.size + 1 + sV.size + 1 + sC.size + 1 + sF.size + 1 + sP.size + 1 + sS.size + 6 + sR.size + 1 + sE.size + 1 + sQ.size + 1 + sN.size + 1 + sT.size + 1 + sL.size + 1 + sM.size + 4 := Nat.not_lt_of_le (Nat.le_trans b25 (by decide))
  clear b0 b1 b2 b3 b4 b5 b6 b7 b8 b9 b10 b11 b12 b13 b14 b15 b16 b17 b18 b19 b20 b21 b22 b23 b24 b25
  clear zG zV zC zF zP zS zR zE zQ zL zM zN zT
  go_wp2_with fail
  refine (LN.out v0 (Below.refl _ _)).mono ?_
  rintro e v1 ⟨rfl, hb1⟩
  have B1 := Lib.hid hb1
  clear LN hb1
  go_wp2_with fail
  refine (LT.out v1 B1.out).mono ?_
  rintro e v2 ⟨rfl, hb2⟩
  have B2 := Lib.hid (below_then B1.out hb2)
  clear LT hb2 B1
  go_upto_region 34 with fail
  rw [HJ.out]
  go_wp2_with fail
  refine (LC.out v2 B2.out).mono ?_
  rintro e v3 ⟨rfl, hb3⟩
  have B3 := Lib.hid (below_then B2.out hb3)
  clear LC hb3 B2
  go_upto_region 35 with fail
  refine topG w v3 g o x gD gE xD aA aB cA cB sO (below_then HW.out B3.out) HO (K0.out.same B3.out) (D0.out.to B3.out) (KD.out.same B3.out) (DD0.out.to B3.out) (KE.out.same B3.out) (RA.out.to B3.out) (RB.out.to B3.out) _ ?hk
  case hk => assumption
end Go.Proofs.YtkbejmjkdnfemaaGreatDoor
namespace Go.Proofs.YtkbejmjkdnfemaaGreatDoor
set_option linter.unusedVariables false
set_option linter.unusedSimpArgs false
open Go.RowKit

set_option maxRecDepth 100000 in
set_option maxHeartbeats 32000000 in
theorem topE2 (w v0 : World) (g : Nat) (o : DD) (x : DA) (gD : Nat) (xD : DA) (ow ch : List Int) (aO aC : Option Addr) (sO sG sV sC sF : ByteArray) (sP sS sR sE sQ sL sM : ByteArray) (S0 : Hid (TpS w v0 g o x ow ch aO aC)) (H0 : Hid (TopH o ow ch)) (KD : Hid (Blk v0 gD ((turnD o).cells xD) 33)) (DD0 : Hid (DRd v0 v0.heap.size (turnD o) xD)) (HO2 : Hid (sO = bs (tellsL (topW o ow ch)))) (HXG : Hid (sG = bs (gT o) ∧ sV = bs (vT o) ∧ sC = bs (cT o) ∧ sF = bs (ntextL o.F))) (HYP : Hid (sP = bs (textL (pureO o)) ∧ sS = bs (textL [(safeO o).1, (safeO o).2]) ∧ sR = bs (textL (roundO o)) ∧ sE = bs (textL (tabO o ow)) ∧ sQ = bs (textL (stopO o ch).1) ∧ sL = bs (textL (leftO o).1) ∧ sM = bs (textL (leftO o).2))) (K : Act → World → Prop) (hK : ∀ (a : Act) (v : World), Code.wp Tryz.prog (((Tryz.f3).body.bind (restAt 30)).getD .skip) (bodyPost Tryz.prog Tryz.f3 fun e w' => e = .returned (.bool true) ∧ Below w.heap.size w w') a v → K a v)
    {z0 z1 z2 z3 z4 z6 z7 z9 z11 z13 z15 z16 z17 z18 z19 z20 z23 z24 z28 z29 z33 z37 z41 z48 z49 z55 z56 z57 z58 z59 z60 z61 z62 z63 z64 z65 z66 z67 z68 z69 z70 z71 z72 z73 z74 z75 z76 z77 z78 z79 z80 z81 z82 z83 z84 z85 z86 z87 z88 z89 z90 z91 z92 z93 z94 z95 z96 z97 z98 z99 z100 z101 z102 z103 z104 z105 z106 z107 z108 z109 z110 z111 z112 z113 z114 z115 z116 z117 z118 z119 z120 z121 z122 z123 z124 z125 z126 z127 z128 z129 z130 z131 z132 z133 z134 z135 z136 z137 z138 z139 z140 z141 z142 z143 z144 z145 z146 z147 z148 z149 z150 z151 z152 z153 z154 z155 z156 z157 z158 z159 z160 z161 z162 z163 z164 z165 z166 z167 z168 z169 z170 z171 z172 z173 z174 z175 z176 z177 z178 z179 z180 z181 z182 z183 z184 z185 z186 z187 z188 z189 z190 z191 z192 z193 z194 z195 z196 z197 z198 z199 z200 z201 z202 z203 z204 z205 z206 z207 z208 z209 z210 z211 z212 z213 z214 z215 z216 z217 z218 z219 z220 z221 z222 z223 z224 z225 z226 z227 z228 z229 z230 z231 z232 z233 z234 z235 z236 z237 z238 z239 z240 z241 z242 z243 z244 z245 z246 z247 z248 z249 z250 z251 z252 z253 z254 z255 z256 z257 z258 z259 z260 z261 z262 z263 z264 z265 z266 z267 z268 z269 z270 z271 z272 z273 z274 z275 z276 z277 z278 z279 z280 z281 z282 z283 z284 z285 z286 z287 z288 z289 z290 z291 z292 z293 z294 z295 z296 z297 z298 z299 z300 z301 z302 z303 z304 z305 z306 z307 z308 z309 z310 z311 z312 z313 z314 z315 z316 z317 z318 z319 z320 z321 z322 z323 z324 z325 z326 z327 z328 z329 z330 z331 z332 z333 z334 z335 z336 z337 z338 z339 z340 z341 z342 z343 z344 z345 z346 z347 z348 z349 z350 z351 z352 z353 z354 z355 z356 z357 z358 z359 z360 z361 z362 z363 z364 z365 z366 z367 z368 z369 z370 z371 z372 z373 z374 z375 z376 z377 z378 z379 z380 z381 z382 z383 z384 z385 z386 z387 z388 z389 z390 z391 z392 z393 z394 z395 z396 z397 : Value} :
    Code.wp Tryz.prog (((Tryz.f3).body.bind (regAt 30)).getD .skip) (Exit.then K (bodyPost Tryz.prog Tryz.f3 fun e w' => e = .returned (.bool true) ∧ Below w.heap.size w w')) ⟨#[z0, z1, z2, z3, z4, .pointer (some ⟨g, 0, none⟩), z6, z7, .string sG, z9, .string sV, z11, .string sC, z13, .string sF, z15, z16, z17, z18, z19, z20, .pointer (some ⟨gD, 0, none⟩), .string sO, z23, z24, .bool true, .string sP, .bool true, z28, z29, .bool true, .string sS, .bool true, z33, .bool true, .string sR, .bool true, z37, .bool true, .string sE, .bool true, z41, .int .i64 (stopO o ch).2, .bool true, .string sQ, .bool true, .int .i64 (sumO o ch), .bool true, z48, z49, .bool true, .string sL, .bool true, .string sM, .bool true, z55, z56, z57, z58, z59, z60, z61, z62, z63, z64, z65, z66, z67, z68, z69, z70, z71, z72, z73, z74, z75, z76, z77, z78, z79, z80, z81, z82, z83, z84, z85, z86, z87, z88, z89, z90, z91, z92, z93, z94, z95, z96, z97, z98, z99, z100, z101, z102, z103, z104, z105, z106, z107, z108, z109, z110, z111, z112, z113, z114, z115, z116, z117, z118, z119, z120, z121, z122, z123, z124, z125, z126, z127, z128, z129, z130, z131, z132, z133, z134, z135, z136, z137, z138, z139, z140, z141, z142, z143, z144, z145, z146, z147, z148, z149, z150, z151, z152, z153, z154, z155, z156, z157, z158, z159, z160, z161, z162, z163, z164, z165, z166, z167, z168, z169, z170, z171, z172, z173, z174, z175, z176, z177, z178, z179, z180, z181, z182, z183, z184, z185, z186, z187, z188, z189, z190, z191, z192, z193, z194, z195, z196, z197, z198, z199, z200, z201, z202, z203, z204, z205, z206, z207, z208, z209, z210, z211, z212, z213, z214, z215, z216, z217, z218, z219, z220, z221, z222, z223, z224, z225, z226, z227, z228, z229, z230, z231, z232, z233, z234, z235, z236, z237, z238, z239, z240, z241, z242, z243, z244, z245, z246, z247, z248, z249, z250, z251, z252, z253, z254, z255, z256, z257, z258, z259, z260, z261, z262, z263, z264, z265, z266, z267, z268, z269, z270, z271, z272, z273, z274, z275, z276, z277, z278, z279, z280, z281, z282, z283, z284, z285, z286, z287, z288, z289, z290, z291, z292, z293, z294, z295, z296, z297, z298, z299, z300, z301, z302, z303, z304, z305, z306, z307, z308, z309, z310, z311, z312, z313, z314, z315, z316, z317, z318, z319, z320, z321, z322, z323, z324, z325, z326, z327, z328, z329, z330, z331, z332, z333, z334, z335, z336, z337, z338, z339, z340, z341, z342, z343, z344, z345, z346, z347, z348, z349, z350, z351, z352, z353, z354, z355, z356, z357, z358, z359, z360, z361, z362, z363, z364, z365, z366, z367, z368, z369, z370, z371, z372, z373, z374, z375, z376, z377, z378, z379, z380, z381, z382, z383, z384, z385, z386, z387, z388, z389, z390, z391, z392, z393, z394, z395, z396, z397], []⟩ v0 := by
  obtain ⟨cr, hcr⟩ : ∃ c, c = (((Tryz.f3).body.bind (restAt 30)).getD .skip) := ⟨_, rfl⟩
  rw [← hcr] at hK
  conv at hcr => rhs; whnf
  subst hcr
  conv => arg 2; whnf

  have LT := Lib.hid (turnDD_any v0 o x S0.out.D H0.out.ok)
  obtain ⟨e0, e1, e2, e3, -, -, -, -, -, -, -, -⟩ := cells12 S0.out.K
  go_wp2_with fail
  refine LT.out.mono ?_
  rintro e v1 ⟨a2, c2, a3, c3, rfl, r2, r3, hb⟩
  obtain ⟨v2, hv2⟩ : ∃ X, X = v1.alloc (.cells #[.int .i64 (turnD o).R, .int .i64 (turnD o).C, .slice a2 (turnD o).A.length c2, .slice a3 (turnD o).B.length c3] 26) := ⟨_, rfl⟩
  have hb2 : Below v1.heap.size v1 v2 := by rw [hv2]; exact bl1 _ _
  have KE : Hid (Blk v2 v1.heap.size [.int .i64 (turnD o).R, .int .i64 (turnD o).C, .slice a2 (turnD o).A.length c2, .slice a3 (turnD o).B.length c3] 26) := by rw [hv2]; exact Blk.new v1 _ _
  have B2 := below_then hb hb2
  have S2 := Lib.hid (S0.out.to B2)
  have KD2 := Lib.hid (KD.out.same B2)
  have DD2 := Lib.hid (DD0.out.to B2)
  have R2 := Lib.hid (r2.to hb2)
  have R3 := Lib.hid (r3.to hb2)
  clear LT e0 e1 e2 e3 hb hb2 B2 r2 r3 S0 KD DD0
  go_upto_region 33 with fail
  rw [← hv2]
  clear hv2
  refine topF w v2 g o x gD _ xD a2 a3 c2 c3 ow ch sO sG sV sC sF sP sS sR sE sQ sL sM S2.out.W H0.out.ok S2.out.K S2.out.D KD2 DD2 KE R2 R3 H0 S2.out.E HO2 HXG HYP _ ?hk
  case hk => assumption
end Go.Proofs.YtkbejmjkdnfemaaGreatDoor
namespace Go.Proofs.YtkbejmjkdnfemaaGreatDoor
set_option linter.unusedVariables false
set_option linter.unusedSimpArgs false
open Go.RowKit

set_option maxRecDepth 100000 in
set_option maxHeartbeats 32000000 in
theorem topE (w v0 : World) (g : Nat) (o : DD) (x : DA) (gD : Nat) (xD : DA) (ow ch : List Int) (aO aC : Option Addr) (sO sG sV sC sF : ByteArray) (cO cC : Nat) (S0 : Hid (TpS w v0 g o x ow ch aO aC)) (H0 : Hid (TopH o ow ch)) (KD : Hid (Blk v0 gD ((turnD o).cells xD) 33)) (DD0 : Hid (DRd v0 v0.heap.size (turnD o) xD)) (HO2 : Hid (sO = bs (tellsL (topW o ow ch)))) (HXG : Hid (sG = bs (gT o) ∧ sV = bs (vT o) ∧ sC = bs (cT o) ∧ sF = bs (ntextL o.F))) (K : Act → World → Prop) (hK : ∀ (a : Act) (v : World), Code.wp Tryz.prog (((Tryz.f3).body.bind (restAt 16)).getD .skip) (bodyPost Tryz.prog Tryz.f3 fun e w' => e = .returned (.bool true) ∧ Below w.heap.size w w') a v → K a v)
    {z0 z1 z2 z3 z4 z9 z11 z13 z15 z16 z17 z18 z19 z20 z23 z24 z25 z26 z27 z28 z29 z30 z31 z32 z33 z34 z35 z36 z37 z38 z39 z40 z41 z42 z43 z44 z45 z46 z47 z48 z49 z50 z51 z52 z53 z54 z55 z56 z57 z58 z59 z60 z61 z62 z63 z64 z65 z66 z67 z68 z69 z70 z71 z72 z73 z74 z75 z76 z77 z78 z79 z80 z81 z82 z83 z84 z85 z86 z87 z88 z89 z90 z91 z92 z93 z94 z95 z96 z97 z98 z99 z100 z101 z102 z103 z104 z105 z106 z107 z108 z109 z110 z111 z112 z113 z114 z115 z116 z117 z118 z119 z120 z121 z122 z123 z124 z125 z126 z127 z128 z129 z130 z131 z132 z133 z134 z135 z136 z137 z138 z139 z140 z141 z142 z143 z144 z145 z146 z147 z148 z149 z150 z151 z152 z153 z154 z155 z156 z157 z158 z159 z160 z161 z162 z163 z164 z165 z166 z167 z168 z169 z170 z171 z172 z173 z174 z175 z176 z177 z178 z179 z180 z181 z182 z183 z184 z185 z186 z187 z188 z189 z190 z191 z192 z193 z194 z195 z196 z197 z198 z199 z200 z201 z202 z203 z204 z205 z206 z207 z208 z209 z210 z211 z212 z213 z214 z215 z216 z217 z218 z219 z220 z221 z222 z223 z224 z225 z226 z227 z228 z229 z230 z231 z232 z233 z234 z235 z236 z237 z238 z239 z240 z241 z242 z243 z244 z245 z246 z247 z248 z249 z250 z251 z252 z253 z254 z255 z256 z257 z258 z259 z260 z261 z262 z263 z264 z265 z266 z267 z268 z269 z270 z271 z272 z273 z274 z275 z276 z277 z278 z279 z280 z281 z282 z283 z284 z285 z286 z287 z288 z289 z290 z291 z292 z293 z294 z295 z296 z297 z298 z299 z300 z301 z302 z303 z304 z305 z306 z307 z308 z309 z310 z311 z312 z313 z314 z315 z316 z317 z318 z319 z320 z321 z322 z323 z324 z325 z326 z327 z328 z329 z330 z331 z332 z333 z334 z335 z336 z337 z338 z339 z340 z341 z342 z343 z344 z345 z346 z347 z348 z349 z350 z351 z352 z353 z354 z355 z356 z357 z358 z359 z360 z361 z362 z363 z364 z365 z366 z367 z368 z369 z370 z371 z372 z373 z374 z375 z376 z377 z378 z379 z380 z381 z382 z383 z384 z385 z386 z387 z388 z389 z390 z391 z392 z393 z394 z395 z396 z397 : Value} :
    Code.wp Tryz.prog (((Tryz.f3).body.bind (regAt 16)).getD .skip) (Exit.then K (bodyPost Tryz.prog Tryz.f3 fun e w' => e = .returned (.bool true) ∧ Below w.heap.size w w')) ⟨#[z0, z1, z2, z3, z4, .pointer (some ⟨g, 0, none⟩), .slice aO ow.length cO, .slice aC ch.length cC, .string sG, z9, .string sV, z11, .string sC, z13, .string sF, z15, z16, z17, z18, z19, z20, .pointer (some ⟨gD, 0, none⟩), .string sO, z23, z24, z25, z26, z27, z28, z29, z30, z31, z32, z33, z34, z35, z36, z37, z38, z39, z40, z41, z42, z43, z44, z45, z46, z47, z48, z49, z50, z51, z52, z53, z54, z55, z56, z57, z58, z59, z60, z61, z62, z63, z64, z65, z66, z67, z68, z69, z70, z71, z72, z73, z74, z75, z76, z77, z78, z79, z80, z81, z82, z83, z84, z85, z86, z87, z88, z89, z90, z91, z92, z93, z94, z95, z96, z97, z98, z99, z100, z101, z102, z103, z104, z105, z106, z107, z108, z109, z110, z111, z112, z113, z114, z115, z116, z117, z118, z119, z120, z121, z122, z123, z124, z125, z126, z127, z128, z129, z130, z131, z132, z133, z134, z135, z136, z137, z138, z139, z140, z141, z142, z143, z144, z145, z146, z147, z148, z149, z150, z151, z152, z153, z154, z155, z156, z157, z158, z159, z160, z161, z162, z163, z164, z165, z166, z167, z168, z169, z170, z171, z172, z173, z174, z175, z176, z177, z178, z179, z180, z181, z182, z183, z184, z185, z186, z187, z188, z189, z190, z191, z192, z193, z194, z195, z196, z197, z198, z199, z200, z201, z202, z203, z204, z205, z206, z207, z208, z209, z210, z211, z212, z213, z214, z215, z216, z217, z218, z219, z220, z221, z222, z223, z224, z225, z226, z227, z228, z229, z230, z231, z232, z233, z234, z235, z236, z237, z238, z239, z240, z241, z242, z243, z244, z245, z246, z247, z248, z249, z250, z251, z252, z253, z254, z255, z256, z257, z258, z259, z260, z261, z262, z263, z264, z265, z266, z267, z268, z269, z270, z271, z272, z273, z274, z275, z276, z277, z278, z279, z280, z281, z282, z283, z284, z285, z286, z287, z288, z289, z290, z291, z292, z293, z294, z295, z296, z297, z298, z299, z300, z301, z302, z303, z304, z305, z306, z307, z308, z309, z310, z311, z312, z313, z314, z315, z316, z317, z318, z319, z320, z321, z322, z323, z324, z325, z326, z327, z328, z329, z330, z331, z332, z333, z334, z335, z336, z337, z338, z339, z340, z341, z342, z343, z344, z345, z346, z347, z348, z349, z350, z351, z352, z353, z354, z355, z356, z357, z358, z359, z360, z361, z362, z363, z364, z365, z366, z367, z368, z369, z370, z371, z372, z373, z374, z375, z376, z377, z378, z379, z380, z381, z382, z383, z384, z385, z386, z387, z388, z389, z390, z391, z392, z393, z394, z395, z396, z397], []⟩ v0 := by
  obtain ⟨cr, hcr⟩ : ∃ c, c = (((Tryz.f3).body.bind (restAt 16)).getD .skip) := ⟨_, rfl⟩
  rw [← hcr] at hK
  conv at hcr => rhs; whnf
  subst hcr
  conv => arg 2; whnf

  have hk := H0.out.ok
  have HU := Lib.hid (ow_ok H0.out)
  have hul : ow.length ≤ 1048576 := by have := HU.out.2; omega
  have B0 := Lib.hid (Below.refl v0.heap.size v0)
  obtain ⟨e0, e1, e2, e3, -, -, -, -, -, -, -, -⟩ := cells12 S0.out.K
  have L := Lib.hid (pureDD_any v0 o x S0.out.D hk)
  go_wp2_with fail
  refine L.out.mono ?_
  rintro e v1 ⟨aP, cP, rfl, hr, hb⟩
  have S1 := Lib.hid (S0.out.to hb)
  replace B0 := Lib.hid (below_then B0.out hb)
  have RP := Lib.hid hr
  clear hr
  clear L hb S0 e0 e1 e2 e3
  have L := Lib.hid (ListText_any v1 S1.out.E.tab aP cP (pureO o) RP.out (pure_ok hk))
  go_wp2_with fail
  refine L.out.mono ?_
  rintro e v2 ⟨rfl, hb⟩
  have S2 := Lib.hid (S1.out.to hb)
  replace B0 := Lib.hid (below_then B0.out hb)
  clear RP
  clear L hb S1
  obtain ⟨sP, hP⟩ : ∃ s, s = bs (textL (pureO o)) := ⟨_, rfl⟩
  rw [← hP]
  have HP := Lib.hid hP
  clear hP
  obtain ⟨e0, e1, e2, e3, -, -, -, -, -, -, -, -⟩ := cells12 S2.out.K
  have L := Lib.hid (safeDD_any v2 o x S2.out.D hk S2.out.ca)
  go_wp2_with fail
  refine L.out.mono ?_
  rintro e v3 ⟨rfl, hb⟩
  have S3 := Lib.hid (S2.out.to hb)
  replace B0 := Lib.hid (below_then B0.out hb)
  clear L hb S2 e0 e1 e2 e3
  have hbx := bl1 v3 (.cells #[.int .i64 (safeO o).1, .int .i64 (safeO o).2] 2)
  have KX := Blk.new v3 [.int .i64 (safeO o).1, .int .i64 (safeO o).2] 2
  have SX := Lib.hid (S3.out.to hbx)
  replace B0 := Lib.hid (below_then B0.out hbx)
  have L := Lib.hid (ListText_any _ SX.out.E.tab (some ⟨v3.heap.size, 0, none⟩) 2 [(safeO o).1, (safeO o).2] (rd_blk KX (by simp)) (safe_ok hk))
  clear hbx KX
  go_wp2_with fail
  refine L.out.mono ?_
  rintro e v4 ⟨rfl, hb⟩
  have S4 := Lib.hid (SX.out.to hb)
  replace B0 := Lib.hid (below_then B0.out hb)
  obtain ⟨sS, hS⟩ : ∃ s, s = bs (textL [(safeO o).1, (safeO o).2]) := ⟨_, rfl⟩
  rw [← hS]
  have HS := Lib.hid hS
  clear L hb S3 SX hS
  obtain ⟨-, -, -, -, e4, e5, e6, -, -, -, -, -⟩ := cells12 S4.out.K
  have L := Lib.hid (roundDD_any v4 o x S4.out.D hk)
  go_wp2_with fail
  refine L.out.mono ?_
  rintro e v5 ⟨aR, cR, rfl, hr, hb⟩
  have S5 := Lib.hid (S4.out.to hb)
  replace B0 := Lib.hid (below_then B0.out hb)
  have RR := Lib.hid hr
  clear hr
  clear L hb S4 e4 e5 e6
  have L := Lib.hid (ListText_any v5 S5.out.E.tab aR cR (roundO o) RR.out H0.out.en)
  go_wp2_with fail
  refine L.out.mono ?_
  rintro e v6 ⟨rfl, hb⟩
  have S6 := Lib.hid (S5.out.to hb)
  replace B0 := Lib.hid (below_then B0.out hb)
  clear RR
  clear L hb S5
  obtain ⟨sR, hR⟩ : ∃ s, s = bs (textL (roundO o)) := ⟨_, rfl⟩
  rw [← hR]
  have HR := Lib.hid hR
  clear hR
  obtain ⟨-, -, -, -, e4, e5, e6, -, -, -, -, -⟩ := cells12 S6.out.K
  have L := Lib.hid (tabDD_any v6 o x S6.out.D hk ow aO cO S6.out.O hul H0.out.ow)
  go_wp2_with fail
  refine L.out.mono ?_
  rintro e v7 ⟨aT, cT, rfl, hr, hb⟩
  have S7 := Lib.hid (S6.out.to hb)
  replace B0 := Lib.hid (below_then B0.out hb)
  have RT := Lib.hid hr
  clear hr
  clear L hb S6 e4 e5 e6
  have L := Lib.hid (ListText_any v7 S7.out.E.tab aT cT (tabO o ow) RT.out (tab_ok hk ow))
  go_wp2_with fail
  refine L.out.mono ?_
  rintro e v8 ⟨rfl, hb⟩
  have S8 := Lib.hid (S7.out.to hb)
  replace B0 := Lib.hid (below_then B0.out hb)
  clear RT
  clear L hb S7
  obtain ⟨sE, hE⟩ : ∃ s, s = bs (textL (tabO o ow)) := ⟨_, rfl⟩
  rw [← hE]
  have HE := Lib.hid hE
  clear hE
  have hcl : ch.length ≤ 1048576 := by have := (ch_ok H0.out).2; omega
  have hso : valOk (stopO o ch).1 = true := can_valOk (restF_rest (can_of H0.out.ch)).1 (valid_of (DD.ok_parts hk).2.2.1)
  obtain ⟨-, -, -, -, -, -, -, e7, e8, e9, e10, -⟩ := cells12 S8.out.K
  have L := Lib.hid (stopDD_any v8 o x S8.out.D hk ch aC cC S8.out.C hcl H0.out.ch)
  go_wp2_with fail
  refine L.out.mono ?_
  rintro e v9 ⟨aQ, cQ, rfl, hr, hb⟩
  have S9 := Lib.hid (S8.out.to hb)
  replace B0 := Lib.hid (below_then B0.out hb)
  have RQ := Lib.hid hr
  clear hr
  clear L hb S8 e7 e8 e9 e10
  have L := Lib.hid (ListText_any v9 S9.out.E.tab aQ cQ (stopO o ch).1 RQ.out hso)
  go_wp2_with fail
  refine L.out.mono ?_
  rintro e v10 ⟨rfl, hb⟩
  have S10 := Lib.hid (S9.out.to hb)
  replace B0 := Lib.hid (below_then B0.out hb)
  clear RQ
  clear L hb S9
  obtain ⟨sQ, hQ⟩ : ∃ s, s = bs (textL (stopO o ch).1) := ⟨_, rfl⟩
  rw [← hQ]
  have HQ := Lib.hid hQ
  clear hQ
  obtain ⟨-, -, -, -, -, -, -, e7, e8, e9, e10, -⟩ := cells12 S10.out.K
  have L := Lib.hid (sumDD_any v10 o x S10.out.D hk ch aC cC S10.out.C H0.out.ch)
  go_wp2_with fail
  refine L.out.mono ?_
  rintro e v11 ⟨rfl, hb⟩
  have S11 := Lib.hid (S10.out.to hb)
  replace B0 := Lib.hid (below_then B0.out hb)
  clear L hb S10 e7 e8 e9 e10
  obtain ⟨e0, e1, e2, e3, -, -, -, -, -, -, -, -⟩ := cells12 S11.out.K
  have L := Lib.hid (leftDD_any v11 o x S11.out.D hk)
  go_wp2_with fail
  refine L.out.mono ?_
  rintro e v12 ⟨aL, cL, aM, cM, rfl, hr, hr2, hb⟩
  have S12 := Lib.hid (S11.out.to hb)
  replace B0 := Lib.hid (below_then B0.out hb)
  have RL := Lib.hid hr
  have RM := Lib.hid hr2
  clear hr hr2
  clear L hb S11 e0 e1 e2 e3
  have L := Lib.hid (ListText_any v12 S12.out.E.tab aL cL (leftO o).1 RL.out (left_ok hk).1)
  go_wp2_with fail
  refine L.out.mono ?_
  rintro e v13 ⟨rfl, hb⟩
  have S13 := Lib.hid (S12.out.to hb)
  replace B0 := Lib.hid (below_then B0.out hb)
  replace RM := Lib.hid (RM.out.to hb)
  clear RL
  clear L hb S12
  obtain ⟨sL, hL⟩ : ∃ s, s = bs (textL (leftO o).1) := ⟨_, rfl⟩
  rw [← hL]
  have HL := Lib.hid hL
  clear hL
  have L := Lib.hid (ListText_any v13 S13.out.E.tab aM cM (leftO o).2 RM.out (left_ok hk).2)
  go_wp2_with fail
  refine L.out.mono ?_
  rintro e v14 ⟨rfl, hb⟩
  have S14 := Lib.hid (S13.out.to hb)
  replace B0 := Lib.hid (below_then B0.out hb)
  clear RM
  clear L hb S13
  obtain ⟨sM, hM⟩ : ∃ s, s = bs (textL (leftO o).2) := ⟨_, rfl⟩
  rw [← hM]
  have HM := Lib.hid hM
  clear hM
  go_upto_region 30 with fail
  refine topE2 w v14 g o x gD xD ow ch aO aC sO sG sV sC sF sP sS sR sE sQ sL sM S14 H0 (KD.out.same B0.out) (DD0.out.to B0.out) HO2 HXG ⟨HP.out, HS.out, HR.out, HE.out, HQ.out, HL.out, HM.out⟩ _ ?hk
  case hk => assumption
end Go.Proofs.YtkbejmjkdnfemaaGreatDoor
namespace Go.Proofs.YtkbejmjkdnfemaaGreatDoor
set_option linter.unusedVariables false
set_option linter.unusedSimpArgs false
open Go.RowKit

set_option maxRecDepth 100000 in
set_option maxHeartbeats 32000000 in
theorem topD (w v0 : World) (g : Nat) (o : DD) (x : DA) (ow ch : List Int) (aO aC : Option Addr) (sZ sG sV sC sF : ByteArray) (cO cC : Nat) (S0 : Hid (TpS w v0 g o x ow ch aO aC)) (H0 : Hid (TopH o ow ch)) (HZ : Hid (sZ = bs (scriptO o ow ch))) (HXG : Hid (sG = bs (gT o) ∧ sV = bs (vT o) ∧ sC = bs (cT o) ∧ sF = bs (ntextL o.F))) (K : Act → World → Prop) (hK : ∀ (a : Act) (v : World), Code.wp Tryz.prog (((Tryz.f3).body.bind (restAt 13)).getD .skip) (bodyPost Tryz.prog Tryz.f3 fun e w' => e = .returned (.bool true) ∧ Below w.heap.size w w') a v → K a v)
    {z0 z1 z2 z3 z4 z16 z18 z21 z22 z23 z24 z25 z26 z27 z28 z29 z30 z31 z32 z33 z34 z35 z36 z37 z38 z39 z40 z41 z42 z43 z44 z45 z46 z47 z48 z49 z50 z51 z52 z53 z54 z55 z56 z57 z58 z59 z60 z61 z62 z63 z64 z65 z66 z67 z68 z69 z70 z71 z72 z73 z74 z75 z76 z77 z78 z79 z80 z81 z82 z83 z84 z85 z86 z87 z88 z89 z90 z91 z92 z93 z94 z95 z96 z97 z98 z99 z100 z101 z102 z103 z104 z105 z106 z107 z108 z109 z110 z111 z112 z113 z114 z115 z116 z117 z118 z119 z120 z121 z122 z123 z124 z125 z126 z127 z128 z129 z130 z131 z132 z133 z134 z135 z136 z137 z138 z139 z140 z141 z142 z143 z144 z145 z146 z147 z148 z149 z150 z151 z152 z153 z154 z155 z156 z157 z158 z159 z160 z161 z162 z163 z164 z165 z166 z167 z168 z169 z170 z171 z172 z173 z174 z175 z176 z177 z178 z179 z180 z181 z182 z183 z184 z185 z186 z187 z188 z189 z190 z191 z192 z193 z194 z195 z196 z197 z198 z199 z200 z201 z202 z203 z204 z205 z206 z207 z208 z209 z210 z211 z212 z213 z214 z215 z216 z217 z218 z219 z220 z221 z222 z223 z224 z225 z226 z227 z228 z229 z230 z231 z232 z233 z234 z235 z236 z237 z238 z239 z240 z241 z242 z243 z244 z245 z246 z247 z248 z249 z250 z251 z252 z253 z254 z255 z256 z257 z258 z259 z260 z261 z262 z263 z264 z265 z266 z267 z268 z269 z270 z271 z272 z273 z274 z275 z276 z277 z278 z279 z280 z281 z282 z283 z284 z285 z286 z287 z288 z289 z290 z291 z292 z293 z294 z295 z296 z297 z298 z299 z300 z301 z302 z303 z304 z305 z306 z307 z308 z309 z310 z311 z312 z313 z314 z315 z316 z317 z318 z319 z320 z321 z322 z323 z324 z325 z326 z327 z328 z329 z330 z331 z332 z333 z334 z335 z336 z337 z338 z339 z340 z341 z342 z343 z344 z345 z346 z347 z348 z349 z350 z351 z352 z353 z354 z355 z356 z357 z358 z359 z360 z361 z362 z363 z364 z365 z366 z367 z368 z369 z370 z371 z372 z373 z374 z375 z376 z377 z378 z379 z380 z381 z382 z383 z384 z385 z386 z387 z388 z389 z390 z391 z392 z393 z394 z395 z396 z397 : Value} :
    Code.wp Tryz.prog (((Tryz.f3).body.bind (regAt 13)).getD .skip) (Exit.then K (bodyPost Tryz.prog Tryz.f3 fun e w' => e = .returned (.bool true) ∧ Below w.heap.size w w')) ⟨#[z0, z1, z2, z3, z4, .pointer (some ⟨g, 0, none⟩), .slice aO ow.length cO, .slice aC ch.length cC, .string sG, .bool true, .string sV, .bool true, .string sC, .bool true, .string sF, .bool true, z16, .bool true, z18, .bool true, .string sZ, z21, z22, z23, z24, z25, z26, z27, z28, z29, z30, z31, z32, z33, z34, z35, z36, z37, z38, z39, z40, z41, z42, z43, z44, z45, z46, z47, z48, z49, z50, z51, z52, z53, z54, z55, z56, z57, z58, z59, z60, z61, z62, z63, z64, z65, z66, z67, z68, z69, z70, z71, z72, z73, z74, z75, z76, z77, z78, z79, z80, z81, z82, z83, z84, z85, z86, z87, z88, z89, z90, z91, z92, z93, z94, z95, z96, z97, z98, z99, z100, z101, z102, z103, z104, z105, z106, z107, z108, z109, z110, z111, z112, z113, z114, z115, z116, z117, z118, z119, z120, z121, z122, z123, z124, z125, z126, z127, z128, z129, z130, z131, z132, z133, z134, z135, z136, z137, z138, z139, z140, z141, z142, z143, z144, z145, z146, z147, z148, z149, z150, z151, z152, z153, z154, z155, z156, z157, z158, z159, z160, z161, z162, z163, z164, z165, z166, z167, z168, z169, z170, z171, z172, z173, z174, z175, z176, z177, z178, z179, z180, z181, z182, z183, z184, z185, z186, z187, z188, z189, z190, z191, z192, z193, z194, z195, z196, z197, z198, z199, z200, z201, z202, z203, z204, z205, z206, z207, z208, z209, z210, z211, z212, z213, z214, z215, z216, z217, z218, z219, z220, z221, z222, z223, z224, z225, z226, z227, z228, z229, z230, z231, z232, z233, z234, z235, z236, z237, z238, z239, z240, z241, z242, z243, z244, z245, z246, z247, z248, z249, z250, z251, z252, z253, z254, z255, z256, z257, z258, z259, z260, z261, z262, z263, z264, z265, z266, z267, z268, z269, z270, z271, z272, z273, z274, z275, z276, z277, z278, z279, z280, z281, z282, z283, z284, z285, z286, z287, z288, z289, z290, z291, z292, z293, z294, z295, z296, z297, z298, z299, z300, z301, z302, z303, z304, z305, z306, z307, z308, z309, z310, z311, z312, z313, z314, z315, z316, z317, z318, z319, z320, z321, z322, z323, z324, z325, z326, z327, z328, z329, z330, z331, z332, z333, z334, z335, z336, z337, z338, z339, z340, z341, z342, z343, z344, z345, z346, z347, z348, z349, z350, z351, z352, z353, z354, z355, z356, z357, z358, z359, z360, z361, z362, z363, z364, z365, z366, z367, z368, z369, z370, z371, z372, z373, z374, z375, z376, z377, z378, z379, z380, z381, z382, z383, z384, z385, z386, z387, z388, z389, z390, z391, z392, z393, z394, z395, z396, z397], []⟩ v0 := by
  obtain ⟨cr, hcr⟩ : ∃ c, c = (((Tryz.f3).body.bind (restAt 13)).getD .skip) := ⟨_, rfl⟩
  rw [← hcr] at hK
  conv at hcr => rhs; whnf
  subst hcr
  conv => arg 2; whnf

  have LN := Lib.hid (newDD_any v0)
  obtain ⟨hc1, hc2, hc3⟩ := script_ok H0.out
  have hzl : sZ.data.toList = scriptO o ow ch := by rw [HZ.out]; exact bs_list _
  have LR := Lib.hid (fun (v : World) (xn : DA) (hE : Env v) (hd : DRd v v.heap.size newD xn) => runDesk_any v newD xn sZ (topPs o ow ch) hE newD_ok hd (by rw [HZ.out, bs_size]; exact hc3) (by rw [hzl]; exact hc2) (by rw [hzl]; exact hc1) (fun p hp => (top_ok H0.out p hp).1) (fun p hp => (top_ok H0.out p hp).2))
  rw [top_run H0.out newD_ok] at LR
  dsimp only at LR
  clear hc1 hc2 hc3 hzl HZ
  obtain ⟨sO, hO⟩ : ∃ s, s = bs (tellsL (topW o ow ch)) := ⟨_, rfl⟩
  rw [← hO] at LR
  have HO2 := Lib.hid hO
  clear hO
  obtain ⟨tD, htD⟩ : ∃ t, t = turnD o := ⟨_, rfl⟩
  have HK : Hid (tD.ok = true) := by rw [htD]; exact turnD_ok H0.out.ok
  have HF : Hid (∀ y ∈ tD.F, y < 4294967296) := by rw [htD]; exact H0.out.lt
  rw [← htD] at LR
  have HTD := Lib.hid htD
  clear htD
  go_wp2_with fail
  refine LN.out.mono ?_
  rintro e v1 ⟨xn, rfl, hd, hb⟩
  have LR1 := Lib.hid (LR.out v1 xn (S0.out.E.to hb) hd)
  have B1 := Lib.hid hb
  unfold DD.val at LR1 ⊢
  clear LN LR hd hb
  go_wp2_with fail
  refine LR1.out.mono ?_
  rintro e v2 ⟨y, rfl, hO, hb⟩
  have hrd := hO.rd HF.out
  obtain ⟨v3, hv3⟩ : ∃ X, X = v2.alloc (.cells #[.int .i64 tD.R, .int .i64 tD.C, .slice y.a tD.A.length y.ca, .slice y.b tD.B.length y.cb, .int .i64 tD.P, .int .i64 tD.T, .slice y.v tD.V.length y.cv, .int .i64 tD.U, .int .i64 tD.N, .slice y.w tD.W.length y.cw, .slice y.k tD.K.length y.ck, .slice y.f tD.F.length y.cf] 33) := ⟨_, rfl⟩
  have hb3 : Below v2.heap.size v2 v3 := by rw [hv3]; exact bl1 _ _
  have KD : Blk v3 v2.heap.size (tD.cells y) 33 := by rw [hv3]; exact Blk.new v2 _ _
  have B3 := Lib.hid (below_then (below_then B1.out hb) hb3)
  have D3 := Lib.hid (hrd.to hb3)
  have LV := Lib.hid (validDD_any v3 tD y D3.out (small_of HK.out))
  rw [HK.out] at LV
  unfold DD.val at LV
  clear hO hrd hb hb3 B1 LR1
  go_upto_region 14 with fail
  rw [← hv3]
  clear hv3
  obtain ⟨gD, hgD⟩ : ∃ k, k = v2.heap.size := ⟨_, rfl⟩
  rw [← hgD] at KD ⊢
  clear hgD
  obtain ⟨d0, d1, d2, d3, d4, d5, d6, d7, d8, d9, d10, d11⟩ := cells12 KD
  have KD := Lib.hid KD
  go_wp2_with fail
  refine LV.out.mono ?_
  rintro e v4 ⟨rfl, hb⟩
  have B4 := Lib.hid (below_then B3.out hb)
  have KD4 := Lib.hid (KD.out.same hb)
  have D4 := Lib.hid (D3.out.to hb)
  rw [HTD.out] at KD4 D4
  clear LV hb KD D3 B3 d0 d1 d2 d3 d4 d5 d6 d7 d8 d9 d10 d11 HTD
  go_upto_region 16 with fail
  refine topE w v4 g o x gD y ow ch aO aC sO sG sV sC sF cO cC (S0.out.to B4.out) H0 KD4 D4 HO2 HXG _ ?hk
  case hk => assumption
end Go.Proofs.YtkbejmjkdnfemaaGreatDoor
