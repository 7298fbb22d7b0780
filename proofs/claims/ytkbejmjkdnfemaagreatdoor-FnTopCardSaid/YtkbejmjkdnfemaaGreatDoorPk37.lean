/-
  Part 37 of what the proof stands on: lemmas and contracts, each with its conditions ahead of the colon.
-/
import Derived.Deep.RegionHeld3
import Derived.Deep.DeepCutAuto
import Derived.Deep.CutBlock
import Derived.Test.YtkbejmjkdnfemaaGreatDoorPk07
import Derived.Test.YtkbejmjkdnfemaaGreatDoorPk36
namespace Go.Proofs.YtkbejmjkdnfemaaGreatDoor
set_option linter.unusedVariables false
set_option linter.unusedSimpArgs false
open Go.RowKit

theorem script_join (o : DD) (ow ch : List Int) : bs [103, 97, 109, 101, 32] ++ bs (gT o) ++ bs [10, 118, 97, 108, 117, 101, 115, 32] ++ bs (vT o) ++ bs [10, 99, 114, 111, 119, 100, 32] ++ bs (cT o) ++ bs [10, 116, 117, 114, 110, 115, 32] ++ bs (ntextL o.F) ++ bs [10, 103, 97, 109, 101, 10, 118, 97, 108, 117, 101, 115, 10, 99, 114, 111, 119, 100, 10, 116, 117, 114, 110, 115, 10, 112, 117, 114, 101, 10, 115, 97, 102, 101, 10, 115, 97, 118, 101, 10, 114, 111, 117, 110, 100, 115, 10, 101, 110, 118, 121, 32] ++ bs (textL ow) ++ bs [10, 114, 101, 115, 116, 32] ++ bs (textL ch) ++ bs [10, 116, 111, 116, 97, 108, 32] ++ bs (textL ch) ++ bs [10, 108, 101, 102, 116, 10, 116, 117, 114, 110, 10] = bs (scriptO o ow ch) := by
  simp only [bsJ]
  refine congrArg bs ?_
  unfold scriptO topPs tellsL wGame wValues wCrowd wTurns wPure wSafe wSave wRounds wEnvy wRest wTotal wLeft wTurn
  simp only [List.map_cons, List.map_nil, List.flatten_cons, List.flatten_nil, List.append_assoc, List.cons_append, List.nil_append, List.append_nil]
set_option maxRecDepth 100000 in
set_option maxHeartbeats 32000000 in
theorem topB (w v0 : World) (g : Nat) (o : DD) (x : DA) (ow ch : List Int) (aO aC : Option Addr) (cO cC : Nat) (S0 : Hid (TpS w v0 g o x ow ch aO aC)) (H0 : Hid (TopH o ow ch)) (K : Act → World → Prop) (hK : ∀ (a : Act) (v : World), Code.wp Tryz.prog (((Tryz.f3).body.bind (restAt 6)).getD .skip) (bodyPost Tryz.prog Tryz.f3 fun e w' => e = .returned (.bool true) ∧ Below w.heap.size w w') a v → K a v)
    {z0 z1 z2 z3 z4 z8 z9 z10 z11 z12 z13 z14 z15 z16 z17 z18 z19 z20 z21 z22 z23 z24 z25 z26 z27 z28 z29 z30 z31 z32 z33 z34 z35 z36 z37 z38 z39 z40 z41 z42 z43 z44 z45 z46 z47 z48 z49 z50 z51 z52 z53 z54 z55 z56 z57 z58 z59 z60 z61 z62 z63 z64 z65 z66 z67 z68 z69 z70 z71 z72 z73 z74 z75 z76 z77 z78 z79 z80 z81 z82 z83 z84 z85 z86 z87 z88 z89 z90 z91 z92 z93 z94 z95 z96 z97 z98 z99 z100 z101 z102 z103 z104 z105 z106 z107 z108 z109 z110 z111 z112 z113 z114 z115 z116 z117 z118 z119 z120 z121 z122 z123 z124 z125 z126 z127 z128 z129 z130 z131 z132 z133 z134 z135 z136 z137 z138 z139 z140 z141 z142 z143 z144 z145 z146 z147 z148 z149 z150 z151 z152 z153 z154 z155 z156 z157 z158 z159 z160 z161 z162 z163 z164 z165 z166 z167 z168 z169 z170 z171 z172 z173 z174 z175 z176 z177 z178 z179 z180 z181 z182 z183 z184 z185 z186 z187 z188 z189 z190 z191 z192 z193 z194 z195 z196 z197 z198 z199 z200 z201 z202 z203 z204 z205 z206 z207 z208 z209 z210 z211 z212 z213 z214 z215 z216 z217 z218 z219 z220 z221 z222 z223 z224 z225 z226 z227 z228 z229 z230 z231 z232 z233 z234 z235 z236 z237 z238 z239 z240 z241 z242 z243 z244 z245 z246 z247 z248 z249 z250 z251 z252 z253 z254 z255 z256 z257 z258 z259 z260 z261 z262 z263 z264 z265 z266 z267 z268 z269 z270 z271 z272 z273 z274 z275 z276 z277 z278 z279 z280 z281 z282 z283 z284 z285 z286 z287 z288 z289 z290 z291 z292 z293 z294 z295 z296 z297 z298 z299 z300 z301 z302 z303 z304 z305 z306 z307 z308 z309 z310 z311 z312 z313 z314 z315 z316 z317 z318 z319 z320 z321 z322 z323 z324 z325 z326 z327 z328 z329 z330 z331 z332 z333 z334 z335 z336 z337 z338 z339 z340 z341 z342 z343 z344 z345 z346 z347 z348 z349 z350 z351 z352 z353 z354 z355 z356 z357 z358 z359 z360 z361 z362 z363 z364 z365 z366 z367 z368 z369 z370 z371 z372 z373 z374 z375 z376 z377 z378 z379 z380 z381 z382 z383 z384 z385 z386 z387 z388 z389 z390 z391 z392 z393 z394 z395 z396 z397 : Value} :
    Code.wp Tryz.prog (((Tryz.f3).body.bind (regAt 6)).getD .skip) (Exit.then K (bodyPost Tryz.prog Tryz.f3 fun e w' => e = .returned (.bool true) ∧ Below w.heap.size w w')) ⟨#[z0, z1, z2, z3, z4, .pointer (some ⟨g, 0, none⟩), .slice aO ow.length cO, .slice aC ch.length cC, z8, z9, z10, z11, z12, z13, z14, z15, z16, z17, z18, z19, z20, z21, z22, z23, z24, z25, z26, z27, z28, z29, z30, z31, z32, z33, z34, z35, z36, z37, z38, z39, z40, z41, z42, z43, z44, z45, z46, z47, z48, z49, z50, z51, z52, z53, z54, z55, z56, z57, z58, z59, z60, z61, z62, z63, z64, z65, z66, z67, z68, z69, z70, z71, z72, z73, z74, z75, z76, z77, z78, z79, z80, z81, z82, z83, z84, z85, z86, z87, z88, z89, z90, z91, z92, z93, z94, z95, z96, z97, z98, z99, z100, z101, z102, z103, z104, z105, z106, z107, z108, z109, z110, z111, z112, z113, z114, z115, z116, z117, z118, z119, z120, z121, z122, z123, z124, z125, z126, z127, z128, z129, z130, z131, z132, z133, z134, z135, z136, z137, z138, z139, z140, z141, z142, z143, z144, z145, z146, z147, z148, z149, z150, z151, z152, z153, z154, z155, z156, z157, z158, z159, z160, z161, z162, z163, z164, z165, z166, z167, z168, z169, z170, z171, z172, z173, z174, z175, z176, z177, z178, z179, z180, z181, z182, z183, z184, z185, z186, z187, z188, z189, z190, z191, z192, z193, z194, z195, z196, z197, z198, z199, z200, z201, z202, z203, z204, z205, z206, z207, z208, z209, z210, z211, z212, z213, z214, z215, z216, z217, z218, z219, z220, z221, z222, z223, z224, z225, z226, z227, z228, z229, z230, z231, z232, z233, z234, z235, z236, z237, z238, z239, z240, z241, z242, z243, z244, z245, z246, z247, z248, z249, z250, z251, z252, z253, z254, z255, z256, z257, z258, z259, z260, z261, z262, z263, z264, z265, z266, z267, z268, z269, z270, z271, z272, z273, z274, z275, z276, z277, z278, z279, z280, z281, z282, z283, z284, z285, z286, z287, z288, z289, z290, z291, z292, z293, z294, z295, z296, z297, z298, z299, z300, z301, z302, z303, z304, z305, z306, z307, z308, z309, z310, z311, z312, z313, z314, z315, z316, z317, z318, z319, z320, z321, z322, z323, z324, z325, z326, z327, z328, z329, z330, z331, z332, z333, z334, z335, z336, z337, z338, z339, z340, z341, z342, z343, z344, z345, z346, z347, z348, z349, z350, z351, z352, z353, z354, z355, z356, z357, z358, z359, z360, z361, z362, z363, z364, z365, z366, z367, z368, z369, z370, z371, z372, z373, z374, z375, z376, z377, z378, z379, z380, z381, z382, z383, z384, z385, z386, z387, z388, z389, z390, z391, z392, z393, z394, z395, z396, z397], []⟩ v0 := by
  obtain ⟨cr, hcr⟩ : ∃ c, c = (((Tryz.f3).body.bind (restAt 6)).getD .skip) := ⟨_, rfl⟩
  rw [← hcr] at hK
  conv at hcr => rhs; whnf
  subst hcr
  conv => arg 2; whnf

  have hk := H0.out.ok
  obtain ⟨x1, x2⟩ := ow_ok H0.out
  obtain ⟨y1, y2⟩ := ch_ok H0.out
  have B0 := Lib.hid (Below.refl v0.heap.size v0)
  obtain ⟨e0, e1, e2, e3, -, -, -, -, -, -, -, -⟩ := cells12 S0.out.K
  have L := Lib.hid (gameDD_any v0 o x S0.out.D hk S0.out.E)
  go_wp2_with fail
  refine L.out.mono ?_
  rintro e v1 ⟨rfl, hb⟩
  have S1 := Lib.hid (S0.out.to hb)
  replace B0 := Lib.hid (below_then B0.out hb)
  clear L hb S0 e0 e1 e2 e3
  obtain ⟨sG, hG⟩ : ∃ s, s = bs (gT o) := ⟨_, rfl⟩
  rw [← hG]
  have HSG := Lib.hid hG
  clear hG
  obtain ⟨-, -, -, -, e4, e5, e6, -, -, -, -, -⟩ := cells12 S1.out.K
  have L := Lib.hid (valuesDD_any v1 o x S1.out.D hk S1.out.E)
  go_wp2_with fail
  refine L.out.mono ?_
  rintro e v2 ⟨rfl, hb⟩
  have S2 := Lib.hid (S1.out.to hb)
  replace B0 := Lib.hid (below_then B0.out hb)
  clear L hb S1 e4 e5 e6
  obtain ⟨sV, hV⟩ : ∃ s, s = bs (vT o) := ⟨_, rfl⟩
  rw [← hV]
  have HSV := Lib.hid hV
  clear hV
  obtain ⟨-, -, -, -, -, -, -, e7, e8, e9, e10, -⟩ := cells12 S2.out.K
  have L := Lib.hid (crowdDD_any v2 o x S2.out.D hk S2.out.E)
  go_wp2_with fail
  refine L.out.mono ?_
  rintro e v3 ⟨rfl, hb⟩
  have S3 := Lib.hid (S2.out.to hb)
  replace B0 := Lib.hid (below_then B0.out hb)
  clear L hb S2 e7 e8 e9 e10
  obtain ⟨sC, hC⟩ : ∃ s, s = bs (cT o) := ⟨_, rfl⟩
  rw [← hC]
  have HSC := Lib.hid hC
  clear hC
  obtain ⟨-, -, -, -, -, -, -, -, -, -, -, e11⟩ := cells12 S3.out.K
  have L := Lib.hid (turnsDD_any v3 o x S3.out.D hk S3.out.E)
  go_wp2_with fail
  refine L.out.mono ?_
  rintro e v4 ⟨rfl, hb⟩
  have S4 := Lib.hid (S3.out.to hb)
  replace B0 := Lib.hid (below_then B0.out hb)
  clear L hb S3 e11
  obtain ⟨sF, hF⟩ : ∃ s, s = bs (ntextL o.F) := ⟨_, rfl⟩
  rw [← hF]
  have HSF := Lib.hid hF
  clear hF
  have L := Lib.hid (ListText_any v4 S4.out.E.tab aO cO ow S4.out.O x1)
  go_wp2_with fail
  refine L.out.mono ?_
  rintro e v5 ⟨rfl, hb⟩
  have S5 := Lib.hid (S4.out.to hb)
  replace B0 := Lib.hid (below_then B0.out hb)
  clear L hb S4
  obtain ⟨sX, hX⟩ : ∃ s, s = bs (textL ow) := ⟨_, rfl⟩
  rw [← hX]
  have HSX := Lib.hid hX
  clear hX
  have L := Lib.hid (ListText_any v5 S5.out.E.tab aC cC ch S5.out.C y1)
  go_wp2_with fail
  refine L.out.mono ?_
  rintro e v6 ⟨rfl, hb⟩
  have S6 := Lib.hid (S5.out.to hb)
  replace B0 := Lib.hid (below_then B0.out hb)
  clear L hb S5
  obtain ⟨sY, hY⟩ : ∃ s, s = bs (textL ch) := ⟨_, rfl⟩
  rw [← hY]
  have HSY := Lib.hid hY
  clear hY
  have g5 := (DD.ok_len hk).2.2.2.2.2.2
  have g4 := ntextL_len o.F
  have x3 := text_le x1
  have y3 := text_le y1
  have zG := bs_le HSG.out (show _ ≤ 16000 by have := gT_len hk; omega)
  have zV := bs_le HSV.out (show _ ≤ 16000 by have := vT_len hk; omega)
  have zC := bs_le HSC.out (show _ ≤ 16000 by have := cT_len hk; omega)
  have zF := bs_le HSF.out (show _ ≤ 16000 by omega)
  have zX := bs_le HSX.out (show _ ≤ 16000 by omega)
  have zY := bs_le HSY.out (show _ ≤ 16000 by omega)
  clear g5 g4 x3 y3 x1 x2 y1 y2
  obtain ⟨sZ, hZ⟩ : ∃ s, s = bs (scriptO o ow ch) := ⟨_, rfl⟩
  have HJ : Hid ((⟨#[103, 97, 109, 101, 32]⟩ : ByteArray) ++ sG ++ (⟨#[10, 118, 97, 108, 117, 101, 115, 32]⟩ : ByteArray) ++ sV ++ (⟨#[10, 99, 114, 111, 119, 100, 32]⟩ : ByteArray) ++ sC ++ (⟨#[10, 116, 117, 114, 110, 115, 32]⟩ : ByteArray) ++ sF ++ (⟨#[10, 103, 97, 109, 101, 10, 118, 97, 108, 117, 101, 115, 10, 99, 114, 111, 119, 100, 10, 116, 117, 114, 110, 115, 10, 112, 117, 114, 101, 10, 115, 97, 102, 101, 10, 115, 97, 118, 101, 10, 114, 111, 117, 110, 100, 115, 10, 101, 110, 118, 121, 32]⟩ : ByteArray) ++ sX ++ (⟨#[10, 114, 101, 115, 116, 32]⟩ : ByteArray) ++ sY ++ (⟨#[10, 116, 111, 116, 97, 108, 32]⟩ : ByteArray) ++ sY ++ (⟨#[10, 108, 101, 102, 116, 10, 116, 117, 114, 110, 10]⟩ : ByteArray) = sZ) := by
    rw [Hid, hZ, HSG.out, HSV.out, HSC.out, HSF.out, HSX.out, HSY.out]
    exact script_join o ow ch
  have HZ := Lib.hid hZ
  clear hZ
  have b0 : 5 + sG.size ≤ 16005 := Nat.add_le_add (Nat.le_refl 5) zG
  have b1 : 5 + sG.size + 8 ≤ 16013 := Nat.add_le_add b0 (Nat.le_refl 8)
  have b2 : 5 + sG.size + 8 + sV.size ≤ 32013 := Nat.add_le_add b1 zV
  have b3 : 5 + sG.size + 8 + sV.size + 7 ≤ 32020 := Nat.add_le_add b2 (Nat.le_refl 7)
  have b4 : 5 + sG.size + 8 + sV.size + 7 + sC.size ≤ 48020 := Nat.add_le_add b3 zC
  have b5 : 5 + sG.size + 8 + sV.size + 7 + sC.size + 7 ≤ 48027 := Nat.add_le_add b4 (Nat.le_refl 7)
  have b6 : 5 + sG.size + 8 + sV.size + 7 + sC.size + 7 + sF.size ≤ 64027 := Nat.add_le_add b5 zF
  have b7 : 5 + sG.size + 8 + sV.size + 7 + sC.size + 7 + sF.size + 52 ≤ 64079 := Nat.add_le_add b6 (Nat.le_refl 52)
  have b8 : 5 + sG.size + 8 + sV.size + 7 + sC.size + 7 + sF.size + 52 + sX.size ≤ 80079 := Nat.add_le_add b7 zX
  have b9 : 5 + sG.size + 8 + sV.size + 7 + sC.size + 7 + sF.size + 52 + sX.size + 6 ≤ 80085 := Nat.add_le_add b8 (Nat.le_refl 6)
  have b10 : 5 + sG.size + 8 + sV.size + 7 + sC.size + 7 + sF.size + 52 + sX.size + 6 + sY.size ≤ 96085 := Nat.add_le_add b9 zY
  have b11 : 5 + sG.size + 8 + sV.size + 7 + sC.size + 7 + sF.size + 52 + sX.size + 6 + sY.size + 7 ≤ 96092 := Nat.add_le_add b10 (Nat.le_refl 7)
  have b12 : 5 + sG.size + 8 + sV.size + 7 + sC.size + 7 + sF.size + 52 + sX.size + 6 + sY.size + 7 + sY.size ≤ 112092 := Nat.add_le_add b11 zY
  have b13 : 5 + sG.size + 8 + sV.size + 7 + sC.size + 7 + sF.size + 52 + sX.size + 6 + sY.size + 7 + sY.size + 11 ≤ 112103 := Nat.add_le_add b12 (Nat.le_refl 11)
  have s0 : ¬ 9223372036854775807 < 5 + sG.size := Nat.not_lt_of_le (Nat.le_trans b0 (by decide))
  have s1 : ¬ 9223372036854775807 < 5 + sG.size + 8 := Nat.not_lt_of_le (Nat.le_trans b1 (by decide))
  have s2 : ¬ 9223372036854775807 < 5 + sG.size + 8 + sV.size := Nat.not_lt_of_le (Nat.le_trans b2 (by decide))
  have s3 : ¬ 9223372036854775807 < 5 + sG.size + 8 + sV.size + 7 := Nat.not_lt_of_le (Nat.le_trans b3 (by decide))
  have s4 : ¬ 9223372036854775807 < 5 + sG.size + 8 + sV.size + 7 + sC.size := Nat.not_lt_of_le (Nat.le_trans b4 (by decide))
  have s5 : ¬ 9223372036854775807 < 5 + sG.size + 8 + sV.size + 7 + sC.size + 7 := Nat.not_lt_of_le (Nat.le_trans b5 (by decide))
  have s6 : ¬ 9223372036854775807 < 5 + sG.size + 8 + sV.size + 7 + sC.size + 7 + sF.size := Nat.not_lt_of_le (Nat.le_trans b6 (by decide))
  have s7 : ¬ 9223372036854775807 < 5 + sG.size + 8 + sV.size + 7 + sC.size + 7 + sF.size + 52 := Nat.not_lt_of_le (Nat.le_trans b7 (by decide))
  have s8 : ¬ 9223372036854775807 < 5 + sG.size + 8 + sV.size + 7 + sC.size + 7 + sF.size + 52 + sX.size := Nat.not_lt_of_le (Nat.le_trans b8 (by decide))
  have s9 : ¬ 9223372036854775807 < 5 + sG.size + 8 + sV.size + 7 + sC.size + 7 + sF.size + 52 + sX.size + 6 := Nat.not_lt_of_le (Nat.le_trans b9 (by decide))
  have s10 : ¬ 9223372036854775807 < 5 + sG.size + 8 + sV.size + 7 + sC.size + 7 + sF.size + 52 + sX.size + 6 + sY.size := Nat.not_lt_of_le (Nat.le_trans b10 (by decide))
  have s11 : ¬ 9223372036854775807 < 5 + sG.size + 8 + sV.size + 7 + sC.size + 7 + sF.size + 52 + sX.size + 6 + sY.size + 7 := Nat.not_lt_of_le (Nat.le_trans b11 (by decide))
  have s12 : ¬ 9223372036854775807 < 5 + sG.size + 8 + sV.size + 7 + sC.size + 7 + sF.size + 52 + sX.size + 6 + sY.size + 7 + sY.size := Nat.not_lt_of_le (Nat.le_trans b12 (by decide))
  have s13 : ¬ 9223372036854775807 < 5 + sG.size + 8 + sV.size + 7 + sC.size + 7 + sF.size + 52 + sX.size + 6 + sY.size + 7 + sY.size + 11 := Nat.not_lt_of_le (Nat.le_trans b13 (by decide))
  clear b0 b1 b2 b3 b4 b5 b6 b7 b8 b9 b10 b11 b12 b13
  clear zG zV zC zF zX zY
  go_upto_region 13 with fail
  rw [HJ.out]
  refine topD w v6 g o x ow ch aO aC sZ sG sV sC sF cO cC S6 H0 HZ ⟨HSG.out, HSV.out, HSC.out, HSF.out⟩ _ ?hk
  case hk => assumption
end Go.Proofs.YtkbejmjkdnfemaaGreatDoor
namespace Go.Proofs.YtkbejmjkdnfemaaGreatDoor
set_option linter.unusedVariables false
set_option linter.unusedSimpArgs false
open Go.RowKit

set_option maxRecDepth 100000 in
set_option maxHeartbeats 32000000 in
theorem law_Top (w : World) (hE : Env w) (ac am : Option Addr) (cc cm : Nat) (cs ms : List Int) (hc : Rd w w.heap.size ac (byts cs)) (hm : Rd w w.heap.size am (byts ms)) (lc : cs.length ≤ 9223372036854775807) (lm : ms.length ≤ 9223372036854775807) (bc : ∀ x ∈ cs, 0 ≤ x ∧ x ≤ 255) (bm : ∀ x ∈ ms, 0 ≤ x ∧ x ≤ 255) :
    Calls Tryz.prog 3 #[.slice ac cs.length cc, .slice am ms.length cm] w fun e w' => e = .returned (.bool true) ∧ Below w.heap.size w w' := by
  have LL := Lib.hid (r8Long_any w ac am cc cm cs ms lc lm)
  cases hlong : longR cs ms with
  | true =>
    rw [hlong] at LL
    clear hlong hc hm bc bm hE
    go_enter Tryz.func3, Tryz.ntmps3
    go_wp2_with fail
    refine LL.out.mono ?_
    rintro e w' ⟨rfl, rfl⟩
    go_wp2_with fail
    go_ret
    exact ⟨rfl, Below.refl _ _⟩
  | false =>
  rw [hlong] at LL
  have hlc : cs.length ≤ 1048576 ∧ ms.length ≤ 1048576 := by
    simp only [longR, Bool.or_eq_false_iff, decide_eq_false_iff_not] at hlong
    omega
  obtain ⟨hlc, hlm⟩ := hlc
  have LD := Lib.hid (r8Desk_any w ac cc cs hc bc hlc)
  have HM := Lib.hid hm
  have HB := Lib.hid bm
  have HE := Lib.hid hE
  clear hlong hc hm bc bm lc lm hE
  go_enter Tryz.func3, Tryz.ntmps3
  go_wp2_with fail
  refine LL.out.mono ?_
  rintro e w' ⟨rfl, rfl⟩
  go_wp2_with fail
  refine LD.out.mono ?_
  rintro e w1 ⟨o, x, rfl, ⟨hO, hca⟩, hD, hb⟩
  obtain ⟨w2, hw2⟩ : ∃ X, X = w1.alloc (.cells #[.int .i64 o.R, .int .i64 o.C, .slice x.a o.A.length x.ca, .slice x.b o.B.length x.cb, .int .i64 o.P, .int .i64 o.T, .slice x.v o.V.length x.cv, .int .i64 o.U, .int .i64 o.N, .slice x.w o.W.length x.cw, .slice x.k o.K.length x.ck, .slice x.f o.F.length x.cf] 33) := ⟨_, rfl⟩
  have hb2 : Below w1.heap.size w1 w2 := by rw [hw2]; exact bl1 _ _
  have KD : Hid (Blk w2 w1.heap.size (o.cells x) 33) := by rw [hw2]; exact Blk.new w1 _ _
  have B2 := Lib.hid (below_then hb hb2)
  have D2 := Lib.hid (hD.to hb2)
  have M2 := Lib.hid (HM.out.to B2.out)
  have HO := Lib.hid hO
  unfold DD.val
  clear LL LD hD hb hb2 HM hO
  go_upto_region 4 with fail
  rw [← hw2]
  clear hw2
  obtain ⟨g, hg⟩ : ∃ k, k = w1.heap.size := ⟨_, rfl⟩
  rw [← hg] at KD ⊢
  clear hg
  obtain ⟨P, T, eP, eT, p1, p6, t1, t8, -⟩ := values_nat (DD.ok_parts HO.out.ok).2.1
  have L1 := r8Below_any w2 am cm ms T (P : Int) M2.out HB.out hlm (by omega) (by omega)
  rw [← eP, ← eT] at L1
  have L1 := Lib.hid L1
  obtain ⟨-, -, -, -, e4, e5, -, -, -, -, -, -⟩ := cells12 KD.out
  have HP := Lib.hid eP
  have HT := Lib.hid eT
  clear eP eT
  go_wp2_with fail
  refine L1.out.mono ?_
  rintro e w3 ⟨aO, cO, ow, rfl, hl, hx, hOI, hb⟩
  subst hl
  have B3 := Lib.hid (below_then B2.out hb)
  have K3 := Lib.hid (KD.out.same hb)
  have D3 := Lib.hid (D2.out.to hb)
  have M3 := Lib.hid (M2.out.to hb)
  have O3 := Lib.hid hOI.rd
  have HX := Lib.hid hx
  clear L1 hx hOI hb KD D2 M2 B2 e4 e5
  have hv := valid_of (DD.ok_parts HO.out.ok).2.2.1
  have u1 : 1 ≤ o.U := hv.u1
  have u8 : o.U ≤ 8 := hv.u8
  have w8 : o.W.length ≤ 8 := hv.w8
  obtain ⟨U, eU⟩ : ∃ U : Nat, o.U = (U : Int) := ⟨o.U.toNat, by omega⟩
  have L2 := r8Below_any w3 am cm ms U (o.W.length : Int) M3.out HB.out hlm (by omega) (by omega)
  rw [← eU] at L2
  have L2 := Lib.hid L2
  have HU := Lib.hid eU
  obtain ⟨-, -, -, -, -, -, -, e7, -, e9, -, -⟩ := cells12 K3.out
  clear eU u1 u8 hv
  go_wp2_with fail
  refine L2.out.mono ?_
  rintro e w4 ⟨aC, cC, ch, rfl, hl, hx, hOI, hb⟩
  subst hl
  have S4 : Hid (TpS w w4 g o x ow ch aO aC) := ⟨below_then B3.out hb, K3.out.same hb, D3.out.to hb, O3.out.to hb, hOI.rd, HE.out.to (below_then B3.out hb), hca⟩
  have H4 : Hid (TopH o ow ch) := by
    have hv := valid_of (DD.ok_parts HO.out.ok).2.2.1
    have w1 : 1 ≤ o.W.length := hv.w1
    refine ⟨HO.out.ok, HO.out.F, HO.out.lt, ?_, ?_, round_ok w4 o x S4.out.D HO.out.ok⟩
    · rw [HP.out, HT.out, Int.toNat_natCast, Int.toNat_natCast, manyB_iff]
      exact ⟨⟨Int.le_refl _, Int.le_refl _⟩, fun y hy => by have := HX.out y hy; have := HP.out; omega⟩
    · unfold canB
      rw [Bool.and_eq_true, manyB_iff]
      refine ⟨(DD.ok_parts HO.out.ok).2.2.1, ⟨?_, ?_⟩, fun y hy => ?_⟩
      · show o.U ≤ _; rw [HU.out]; exact Int.le_refl _
      · show _ ≤ o.U; rw [HU.out]; exact Int.le_refl _
      · have := hx y hy
        show 0 ≤ y ∧ y ≤ (o.W.length : Int) - 1
        omega
  clear L2 hx hOI hb K3 D3 M3 O3 B3 e7 e9 HP HT HU HX HO HB HE
  go_upto_region 6 with fail
  refine topB w w4 g o x ow ch aO aC cO cC S4 H4 _ ?hk
  case hk => assumption
end Go.Proofs.YtkbejmjkdnfemaaGreatDoor
