/-
  Part 10 of what the proof stands on: lemmas and contracts, each with its conditions ahead of the colon.
-/
import Derived.Deep.RegionHeld3
import Derived.Deep.DeepCutAuto
import Derived.Deep.CutBlock
import Derived.Test.YtchfibmndcfpiaaPk03
import Derived.Test.YtchfibmndcfpiaaPk06
import Derived.Test.YtchfibmndcfpiaaPk07
import Derived.Test.YtchfibmndcfpiaaPk09
namespace Go.Proofs.Ytchfibmndcfpiaa
set_option linter.unusedVariables false
set_option linter.unusedSimpArgs false
open Go.RowKit

set_option maxRecDepth 100000 in
set_option maxHeartbeats 32000000 in
theorem matL6b (w v0 : World) (n gw gL cL gR cR : Nat) (xL xR : List (List Int)) (am : Option Addr) (cm : Nat) (ms : List Int) (gm cg : Nat) (m : List Int) (aA aB : Option Addr) (cA cB : Nat) (al : List (List Int)) (af ao aS : Option Addr) (cf co cS : Nat) (f : List Int) (su ak : Int) (HBX0 : Hid (WBl v0 gw n gL cL xL gR cR xR)) (HW0 : Hid (Below w.heap.size w v0)) (hn : 1 ≤ n ∧ n ≤ 4) (HL : Hid (xL.length = n)) (HR : Hid (xR.length = n)) (HV : Hid (wishB ⟨xL, xR⟩ = true)) (HGL : Hid (∀ y ∈ xL, y.length ≤ 1048576)) (HGR : Hid (∀ y ∈ xR, y.length ≤ 1048576)) (LM : Hid (∀ (v : World), Below w.heap.size w v → ∀ (i n : Int), 0 ≤ i → i ≤ 1000000 → Calls Try.prog 7 #[.slice am ms.length cm, .int .i64 i, .int .i64 n] v fun e w' => e = .returned (.int .i64 (atF ms i n)) ∧ v = w')) (hml : Hid (m.length = n)) (Rm0 : Hid (Rd v0 v0.heap.size (some ⟨gm, 0, none⟩) (ints m))) (RA0 : Hid (RdII v0 v0.heap.size aA al)) (RB0 : Hid (RdII v0 v0.heap.size aB al)) (HAl : Hid (al.length ≤ 1048576 ∧ ∀ y ∈ al, y.length = n)) (HMem : Hid (m ∈ al)) (HDe : Hid (∀ y ∈ al, ∀ a : Nat, a < n → m.getD a 0 ≠ y.getD a 0 → ∃ k : Nat, k < (row xL a).length ∧ (row xL a).getD k 0 = m.getD a 0 ∧ ∀ j, j < k → (row xL a).getD j 0 ≠ m.getD a 0 ∧ (row xL a).getD j 0 ≠ y.getD a 0)) (Rf0 : Hid (Rd v0 v0.heap.size af (ints f))) (Ro0 : Hid (Rd v0 v0.heap.size ao (ints f))) (hfl : Hid (f.length ≤ 1073741824)) (RS0 : Hid (RdII v0 v0.heap.size aS [m, m])) (hak : 0 ≤ ak ∧ ak ≤ (n : Int) * (n : Int)) (HMa : Hid (matchB ⟨xL, xR⟩ m = true))
    {z0 z2 z3 z4 z24 z25 z26 z27 z28 z29 z30 z31 z32 z33 z34 z35 z36 z37 z38 z39 z40 z41 z42 z43 z44 z45 z46 z47 z48 z49 z50 z51 z52 z53 z54 z55 z56 z57 z58 z59 z60 z61 z62 z63 z64 z65 z66 z67 z68 z69 z70 z71 z72 z73 z74 z75 z76 z77 z78 z79 z80 z81 z82 z83 z84 z85 z86 z87 z88 z89 z90 z91 z92 z93 z94 z95 z96 z97 z98 z99 z100 z101 z102 z103 z104 z105 z106 z107 z108 z109 z110 z111 z112 z113 z114 z115 z116 z117 z118 z119 z120 z121 z122 z123 z124 z125 z126 z127 z128 z129 z130 z131 z132 z133 z134 z135 z136 z137 z138 z139 z140 z141 z142 z143 z144 z145 z146 z147 z148 z149 z150 z151 z152 z153 z154 z155 z156 z157 z158 z159 z160 z161 z162 z163 z164 z165 z166 z167 z168 z169 z170 z171 z172 z173 z174 z175 z176 z177 z178 z179 z180 z181 z182 z183 z184 z185 z186 z187 z188 z189 z190 z191 z192 z193 z194 z195 z196 z197 z198 z199 z200 z201 z202 z203 z204 z205 z206 z207 z208 z209 z210 z211 z212 z213 z214 z215 z216 z217 z218 z219 z220 z221 z222 z223 z224 z225 z226 z227 z228 z229 z230 z231 z232 z233 z234 z235 z236 z237 z238 z239 z240 z241 z242 z243 z244 z245 z246 z247 z248 z249 z250 z251 z252 z253 z254 z255 z256 z257 z258 z259 z260 z261 z262 z263 z264 z265 z266 z267 z268 z269 z270 z271 z272 z273 z274 z275 z276 z277 z278 z279 z280 z281 z282 z283 z284 z285 z286 z287 z288 z289 z290 z291 z292 z293 z294 z295 z296 z297 z298 z299 z300 z301 z302 z303 z304 z305 z306 z307 z308 z309 z310 z311 z312 z313 z314 z315 z316 z317 z318 z319 z320 z321 z322 z323 z324 z325 z326 z327 z328 z329 z330 z331 z332 z333 z334 z335 z336 z337 z338 z339 z340 z341 z342 z343 : Value} :
    Code.wp Try.prog (((Try.f5).body.bind (fromReg 12)).getD .skip) (bodyPost Try.prog Try.f5 fun e w' => e = .returned (.bool true) ∧ Below w.heap.size w w') ⟨#[z0, .slice am ms.length cm, z2, z3, z4, .int .i64 n, .pointer (some ⟨gw, 0, none⟩), .slice (some ⟨gm, 0, none⟩) n cg, .int .i64 ak, .bool true, .bool true, .bool true, .slice aA al.length cA, .bool true, .slice aB al.length cB, .bool true, .slice af f.length cf, .int .i64 su, .bool true, .slice ao f.length co, .int .i64 su, .bool true, .slice aS 2 cS, .bool true, z24, z25, z26, z27, z28, z29, z30, z31, z32, z33, z34, z35, z36, z37, z38, z39, z40, z41, z42, z43, z44, z45, z46, z47, z48, z49, z50, z51, z52, z53, z54, z55, z56, z57, z58, z59, z60, z61, z62, z63, z64, z65, z66, z67, z68, z69, z70, z71, z72, z73, z74, z75, z76, z77, z78, z79, z80, z81, z82, z83, z84, z85, z86, z87, z88, z89, z90, z91, z92, z93, z94, z95, z96, z97, z98, z99, z100, z101, z102, z103, z104, z105, z106, z107, z108, z109, z110, z111, z112, z113, z114, z115, z116, z117, z118, z119, z120, z121, z122, z123, z124, z125, z126, z127, z128, z129, z130, z131, z132, z133, z134, z135, z136, z137, z138, z139, z140, z141, z142, z143, z144, z145, z146, z147, z148, z149, z150, z151, z152, z153, z154, z155, z156, z157, z158, z159, z160, z161, z162, z163, z164, z165, z166, z167, z168, z169, z170, z171, z172, z173, z174, z175, z176, z177, z178, z179, z180, z181, z182, z183, z184, z185, z186, z187, z188, z189, z190, z191, z192, z193, z194, z195, z196, z197, z198, z199, z200, z201, z202, z203, z204, z205, z206, z207, z208, z209, z210, z211, z212, z213, z214, z215, z216, z217, z218, z219, z220, z221, z222, z223, z224, z225, z226, z227, z228, z229, z230, z231, z232, z233, z234, z235, z236, z237, z238, z239, z240, z241, z242, z243, z244, z245, z246, z247, z248, z249, z250, z251, z252, z253, z254, z255, z256, z257, z258, z259, z260, z261, z262, z263, z264, z265, z266, z267, z268, z269, z270, z271, z272, z273, z274, z275, z276, z277, z278, z279, z280, z281, z282, z283, z284, z285, z286, z287, z288, z289, z290, z291, z292, z293, z294, z295, z296, z297, z298, z299, z300, z301, z302, z303, z304, z305, z306, z307, z308, z309, z310, z311, z312, z313, z314, z315, z316, z317, z318, z319, z320, z321, z322, z323, z324, z325, z326, z327, z328, z329, z330, z331, z332, z333, z334, z335, z336, z337, z338, z339, z340, z341, z342, z343], []⟩ v0 := by
  conv => arg 2; whnf

  obtain ⟨n1, n4⟩ := hn
  have n1i : (1 : Int) ≤ (n : Int) := by omega
  have n4i : (n : Int) ≤ 4 := by omega
  have HWi := Lib.hid (wish_of HV.out)
  have L1 := turnWishes_any v0 gL 0 cL xL gR 0 cR xR HBX0.out.R.1 HBX0.out.R.2 HGL.out HGR.out HV.out
  rw [HL.out, HR.out] at L1
  have L1 := Lib.hid L1
  obtain ⟨q0, q1⟩ := HBX0.out.cells
  go_wp2_with fail
  refine L1.out.mono ?_
  rintro e w1 ⟨g0, k0, g1, k1, rfl, r0, r1, hb1⟩
  rw [HL.out, HR.out]
  go_upto_region 13 with fail
  obtain ⟨gt, hgt⟩ : ∃ g, g = w1.heap.size := ⟨_, rfl⟩
  obtain ⟨w2, hw2⟩ : ∃ W, W = w1.alloc (.cells #[.slice (some ⟨g0, 0, none⟩) n k0, .slice (some ⟨g1, 0, none⟩) n k1] 27) := ⟨_, rfl⟩
  have hb2 : Below v0.heap.size v0 w2 := by rw [hw2]; exact below_then hb1 (bl1 _ _)
  have HBT2 : Hid (WBl w2 gt n g0 k0 xR g1 k1 xL) := by rw [hw2, hgt]; exact ⟨Blk.new w1 _ _, r0.to (bl1 _ _), r1.to (bl1 _ _)⟩
  rw [← hw2, ← hgt]
  clear hw2 hgt r0 r1 hb1 L1 q0 q1
  have HBX2 := Lib.hid (HBX0.out.to hb2)
  have Rf2 := Lib.hid (Rf0.out.to hb2)
  have Ro2 := Lib.hid (Ro0.out.to hb2)
  have Rm2 := Lib.hid (Rm0.out.to hb2)
  have RS2 := Lib.hid (RdII.to RS0.out hb2)
  have RA2 := Lib.hid (RdII.to RA0.out hb2)
  have RB2 := Lib.hid (RdII.to RB0.out hb2)
  have HW2 := Lib.hid (below_then HW0.out hb2)
  clear HBX0 HW0 Rf0 Ro0 Rm0 RS0 RA0 RB0
  exact matL7 w w2 n gw gL cL gR cR xL xR am cm ms gm cg m aA aB cA cB al gt g0 k0 g1 k1 af ao aS cf co cS f su ak HBX2 HW2 ⟨n1, n4⟩ HL HR HV HGL HGR LM hml Rm2 RA2 RB2 HAl HMem HDe HBT2 Rf2 Ro2 hfl RS2 hak HMa _ (by assumption)
end Go.Proofs.Ytchfibmndcfpiaa
namespace Go.Proofs.Ytchfibmndcfpiaa
set_option linter.unusedVariables false
set_option linter.unusedSimpArgs false
open Go.RowKit

set_option maxRecDepth 100000 in
set_option maxHeartbeats 32000000 in
theorem matL6 (w v0 : World) (n gw gL cL gR cR : Nat) (xL xR : List (List Int)) (am : Option Addr) (cm : Nat) (ms : List Int) (gm cg : Nat) (m : List Int) (aA aB : Option Addr) (cA cB : Nat) (al : List (List Int)) (af ao : Option Addr) (cf co : Nat) (f : List Int) (su ak : Int) (HBX0 : Hid (WBl v0 gw n gL cL xL gR cR xR)) (HW0 : Hid (Below w.heap.size w v0)) (hn : 1 ≤ n ∧ n ≤ 4) (HL : Hid (xL.length = n)) (HR : Hid (xR.length = n)) (HV : Hid (wishB ⟨xL, xR⟩ = true)) (HGL : Hid (∀ y ∈ xL, y.length ≤ 1048576)) (HGR : Hid (∀ y ∈ xR, y.length ≤ 1048576)) (LM : Hid (∀ (v : World), Below w.heap.size w v → ∀ (i n : Int), 0 ≤ i → i ≤ 1000000 → Calls Try.prog 7 #[.slice am ms.length cm, .int .i64 i, .int .i64 n] v fun e w' => e = .returned (.int .i64 (atF ms i n)) ∧ v = w')) (hm : m = askedF ⟨xL, xR⟩) (hml : Hid (m.length = n)) (Rm0 : Hid (Rd v0 v0.heap.size (some ⟨gm, 0, none⟩) (ints m))) (RA0 : Hid (RdII v0 v0.heap.size aA al)) (RB0 : Hid (RdII v0 v0.heap.size aB al)) (HAl : Hid (al.length ≤ 1048576 ∧ ∀ y ∈ al, y.length = n)) (HMem : Hid (m ∈ al)) (HDe : Hid (∀ y ∈ al, ∀ a : Nat, a < n → m.getD a 0 ≠ y.getD a 0 → ∃ k : Nat, k < (row xL a).length ∧ (row xL a).getD k 0 = m.getD a 0 ∧ ∀ j, j < k → (row xL a).getD j 0 ≠ m.getD a 0 ∧ (row xL a).getD j 0 ≠ y.getD a 0)) (Rf0 : Hid (Rd v0 v0.heap.size af (ints f))) (Ro0 : Hid (Rd v0 v0.heap.size ao (ints f))) (hfl : Hid (f.length ≤ 1073741824)) (hak : 0 ≤ ak ∧ ak ≤ (n : Int) * (n : Int)) (HMa : Hid (matchB ⟨xL, xR⟩ m = true)) (K : Act → World → Prop) (hK : ∀ (a : Act) (v : World), Code.wp Try.prog (((Try.f5).body.bind (restAt 11)).getD .skip) (bodyPost Try.prog Try.f5 fun e w' => e = .returned (.bool true) ∧ Below w.heap.size w w') a v → K a v)
    {z0 z2 z3 z4 z22 z23 z24 z25 z26 z27 z28 z29 z30 z31 z32 z33 z34 z35 z36 z37 z38 z39 z40 z41 z42 z43 z44 z45 z46 z47 z48 z49 z50 z51 z52 z53 z54 z55 z56 z57 z58 z59 z60 z61 z62 z63 z64 z65 z66 z67 z68 z69 z70 z71 z72 z73 z74 z75 z76 z77 z78 z79 z80 z81 z82 z83 z84 z85 z86 z87 z88 z89 z90 z91 z92 z93 z94 z95 z96 z97 z98 z99 z100 z101 z102 z103 z104 z105 z106 z107 z108 z109 z110 z111 z112 z113 z114 z115 z116 z117 z118 z119 z120 z121 z122 z123 z124 z125 z126 z127 z128 z129 z130 z131 z132 z133 z134 z135 z136 z137 z138 z139 z140 z141 z142 z143 z144 z145 z146 z147 z148 z149 z150 z151 z152 z153 z154 z155 z156 z157 z158 z159 z160 z161 z162 z163 z164 z165 z166 z167 z168 z169 z170 z171 z172 z173 z174 z175 z176 z177 z178 z179 z180 z181 z182 z183 z184 z185 z186 z187 z188 z189 z190 z191 z192 z193 z194 z195 z196 z197 z198 z199 z200 z201 z202 z203 z204 z205 z206 z207 z208 z209 z210 z211 z212 z213 z214 z215 z216 z217 z218 z219 z220 z221 z222 z223 z224 z225 z226 z227 z228 z229 z230 z231 z232 z233 z234 z235 z236 z237 z238 z239 z240 z241 z242 z243 z244 z245 z246 z247 z248 z249 z250 z251 z252 z253 z254 z255 z256 z257 z258 z259 z260 z261 z262 z263 z264 z265 z266 z267 z268 z269 z270 z271 z272 z273 z274 z275 z276 z277 z278 z279 z280 z281 z282 z283 z284 z285 z286 z287 z288 z289 z290 z291 z292 z293 z294 z295 z296 z297 z298 z299 z300 z301 z302 z303 z304 z305 z306 z307 z308 z309 z310 z311 z312 z313 z314 z315 z316 z317 z318 z319 z320 z321 z322 z323 z324 z325 z326 z327 z328 z329 z330 z331 z332 z333 z334 z335 z336 z337 z338 z339 z340 z341 z342 z343 : Value} :
    Code.wp Try.prog (((Try.f5).body.bind (regAt 11)).getD .skip) (Exit.then K (bodyPost Try.prog Try.f5 fun e w' => e = .returned (.bool true) ∧ Below w.heap.size w w')) ⟨#[z0, .slice am ms.length cm, z2, z3, z4, .int .i64 n, .pointer (some ⟨gw, 0, none⟩), .slice (some ⟨gm, 0, none⟩) n cg, .int .i64 ak, .bool true, .bool true, .bool true, .slice aA al.length cA, .bool true, .slice aB al.length cB, .bool true, .slice af f.length cf, .int .i64 su, .bool true, .slice ao f.length co, .int .i64 su, .bool true, z22, z23, z24, z25, z26, z27, z28, z29, z30, z31, z32, z33, z34, z35, z36, z37, z38, z39, z40, z41, z42, z43, z44, z45, z46, z47, z48, z49, z50, z51, z52, z53, z54, z55, z56, z57, z58, z59, z60, z61, z62, z63, z64, z65, z66, z67, z68, z69, z70, z71, z72, z73, z74, z75, z76, z77, z78, z79, z80, z81, z82, z83, z84, z85, z86, z87, z88, z89, z90, z91, z92, z93, z94, z95, z96, z97, z98, z99, z100, z101, z102, z103, z104, z105, z106, z107, z108, z109, z110, z111, z112, z113, z114, z115, z116, z117, z118, z119, z120, z121, z122, z123, z124, z125, z126, z127, z128, z129, z130, z131, z132, z133, z134, z135, z136, z137, z138, z139, z140, z141, z142, z143, z144, z145, z146, z147, z148, z149, z150, z151, z152, z153, z154, z155, z156, z157, z158, z159, z160, z161, z162, z163, z164, z165, z166, z167, z168, z169, z170, z171, z172, z173, z174, z175, z176, z177, z178, z179, z180, z181, z182, z183, z184, z185, z186, z187, z188, z189, z190, z191, z192, z193, z194, z195, z196, z197, z198, z199, z200, z201, z202, z203, z204, z205, z206, z207, z208, z209, z210, z211, z212, z213, z214, z215, z216, z217, z218, z219, z220, z221, z222, z223, z224, z225, z226, z227, z228, z229, z230, z231, z232, z233, z234, z235, z236, z237, z238, z239, z240, z241, z242, z243, z244, z245, z246, z247, z248, z249, z250, z251, z252, z253, z254, z255, z256, z257, z258, z259, z260, z261, z262, z263, z264, z265, z266, z267, z268, z269, z270, z271, z272, z273, z274, z275, z276, z277, z278, z279, z280, z281, z282, z283, z284, z285, z286, z287, z288, z289, z290, z291, z292, z293, z294, z295, z296, z297, z298, z299, z300, z301, z302, z303, z304, z305, z306, z307, z308, z309, z310, z311, z312, z313, z314, z315, z316, z317, z318, z319, z320, z321, z322, z323, z324, z325, z326, z327, z328, z329, z330, z331, z332, z333, z334, z335, z336, z337, z338, z339, z340, z341, z342, z343], []⟩ v0 := by
  obtain ⟨cr, hcr⟩ : ∃ c, c = (((Try.f5).body.bind (restAt 11)).getD .skip) := ⟨_, rfl⟩
  rw [← hcr] at hK
  conv at hcr => rhs; whnf
  subst hcr
  conv => arg 2; whnf

  obtain ⟨n1, n4⟩ := hn
  have n1i : (1 : Int) ≤ (n : Int) := by omega
  have n4i : (n : Int) ≤ 4 := by omega
  have HWi := Lib.hid (wish_of HV.out)
  obtain ⟨q0, q1⟩ := HBX0.out.cells
  obtain ⟨x, hx, x0, x7⟩ : ∃ x, atF ms 1 8 = x ∧ 0 ≤ x ∧ x ≤ 7 := by
    have := atF_bd (xs := ms) (i := 1) (n := 8) (by omega)
    exact ⟨_, rfl, by omega, by omega⟩
  have LA := fun v hb => LM.out v hb 1 8 (by omega) (by omega)
  rw [hx] at LA
  have LA := Lib.hid LA
  have LS : Hid (∀ (v : World) (g : Nat), Below v0.heap.size v0 v → Blk v g [.slice (some ⟨gL, 0, none⟩) n cL, .slice (some ⟨gR, 0, none⟩) n cR, .slice (some ⟨gL, 0, none⟩) n cL, .slice (some ⟨gR, 0, none⟩) n cR] 27 → Calls Try.prog 29 #[.slice (some ⟨g, 0, none⟩) 2 2, .int .i64 (1 + x)] v fun e w' => ∃ a c, e = .returned (.tuple #[.slice a 2 c, .bool true]) ∧ RdII w' w'.heap.size a [m, m] ∧ Below v.heap.size v w') := fun v g hb hk => by
    have L := wishesTwice_any v g (some ⟨gL, 0, none⟩) cL xL (some ⟨gR, 0, none⟩) cR xR (1 + x) (by rw [HL.out, HR.out]; exact hk) (HBX0.out.to hb).W (by rw [HL.out]; omega) HGL.out (by rw [HR.out]; omega) HGR.out HV.out (inB_iff.2 ⟨by omega, by omega⟩)
    rw [hm]
    exact L
  clear hx hm
  have hlt0 : gw < v0.heap.size := HBX0.out.K.lt
  have EE : Hid (v0.cell? ⟨gw, 0, none⟩ = some (.slice (some ⟨gL, 0, none⟩) n cL) ∧ v0.cell? ⟨gw, 1, none⟩ = some (.slice (some ⟨gR, 0, none⟩) n cR)) := ⟨q0, q1⟩
  have EB : Hid (∀ o : Obj, Below v0.heap.size v0 (v0.drew.alloc o)) := fun o => (below_drew' (Below.refl v0.heap.size v0)).alloc (Nat.le_refl _) _
  have EW : Hid (∀ o : Obj, Below w.heap.size w (v0.drew.alloc o)) := fun o => below_then HW0.out (EB.out o)
  have EW0 : Hid (Below w.heap.size w v0.drew) := below_drew' HW0.out
  have EX : Hid (∀ o : Obj, (v0.drew.alloc o).cell? ⟨gw, 0, none⟩ = some (.slice (some ⟨gL, 0, none⟩) n cL) ∧ (v0.drew.alloc o).cell? ⟨gw, 1, none⟩ = some (.slice (some ⟨gR, 0, none⟩) n cR)) := fun o => ⟨((bl1 v0.drew o).cell (p := ⟨gw, 0, none⟩) hlt0).trans EE.out.1, ((bl1 v0.drew o).cell (p := ⟨gw, 1, none⟩) hlt0).trans EE.out.2⟩
  have ew : IntKind.i64.wrap (1 + x) = 1 + x := IntWalk.i64_in _ (by omega)
  go_region_held3 (fun w' => w'.cell? ⟨gw, 0, none⟩ = some (.slice (some ⟨gL, 0, none⟩) n cL) ∧ w'.cell? ⟨gw, 1, none⟩ = some (.slice (some ⟨gR, 0, none⟩) n cR))
    (first | exact EE.out | exact EX.out _ | exact HQ.out)
    (first | (go_at_call 7; refine (LA.out _ (by first | exact EW0.out | exact EW.out _)).mono ?_; rintro e wq ⟨rfl, rfl⟩) | (go_at_call 29; refine (LS.out _ _ (EB.out _) (Blk.new v0.drew _ _)).mono ?_; rintro e wq ⟨aS, cS, rfl, rS, hbq⟩; have HQ : Hid (wq.cell? ⟨gw, 0, none⟩ = some (.slice (some ⟨gL, 0, none⟩) n cL) ∧ wq.cell? ⟨gw, 1, none⟩ = some (.slice (some ⟨gR, 0, none⟩) n cR)) := (HBX0.out.to (below_then (EB.out _) hbq)).cells))
  all_goals (show K _ _; refine hK _ _ ?_; exact matL6b w _ n gw gL cL gR cR xL xR am cm ms gm cg m aA aB cA cB al af ao _ cf co _ f su ak (Lib.hid (HBX0.out.to (below_then (EB.out _) hbq))) (Lib.hid (below_then (EW.out _) hbq)) ⟨n1, n4⟩ HL HR HV HGL HGR LM hml (Lib.hid (Rm0.out.to (below_then (EB.out _) hbq))) (Lib.hid (RdII.to RA0.out (below_then (EB.out _) hbq))) (Lib.hid (RdII.to RB0.out (below_then (EB.out _) hbq))) HAl HMem HDe (Lib.hid (Rf0.out.to (below_then (EB.out _) hbq))) (Lib.hid (Ro0.out.to (below_then (EB.out _) hbq))) hfl (Lib.hid rS) hak HMa)
end Go.Proofs.Ytchfibmndcfpiaa
namespace Go.Proofs.Ytchfibmndcfpiaa
set_option linter.unusedVariables false
set_option linter.unusedSimpArgs false
open Go.RowKit

def RetT (T : Nat) (w : World) (r : Option (List Int × Int)) (e : Ending) (w' : World) : Prop :=
  Below w.heap.size w w' ∧ match r with
    | none => e = .returned (.tuple #[.slice none 0 0, .int .i64 0, .bool false])
    | some (ys, m) => ∃ a c, e = .returned (.tuple #[.slice a ys.length c, .int .i64 m, .bool true]) ∧ w'.ownsRow w.heap.size T 1 (.slice a ys.length c) ys.length (ints ys)
theorem RetT.no {T : Nat} {w w' : World} (h : Below w.heap.size w w') : RetT T w none (.returned (.tuple #[.slice none 0 0, .int .i64 0, .bool false])) w' := ⟨h, rfl⟩
theorem flat_ofT {f : Nat} {args : Array Value} {w : World} {T : Nat} {r : Option (List Int × Int)} (h : Calls Try.prog f args w (RetT T w r)) :
    Calls Try.prog f args w fun e w' => ∃ a c, e = .returned (.tuple #[.slice a ((r.map Prod.fst).getD []).length c, .int .i64 ((r.map Prod.snd).getD 0), .bool r.isSome]) ∧ OwnI T w' w.heap.size w'.heap.size a c ((r.map Prod.fst).getD []) ∧ Below w.heap.size w w' := by
  refine h.mono fun e w' hR => ?_
  obtain ⟨hb, h2⟩ := hR
  cases r with
  | none => exact ⟨none, 0, h2, OwnI.of_own (World.ownsRow_nil _ _ _ _), hb⟩
  | some p =>
    obtain ⟨ys, m⟩ := p
    obtain ⟨a, c, he, ho⟩ := h2
    exact ⟨a, c, he, OwnI.of_own ho, hb⟩
end Go.Proofs.Ytchfibmndcfpiaa
namespace Go.Proofs.Ytchfibmndcfpiaa
set_option linter.unusedVariables false
set_option linter.unusedSimpArgs false
open Go.RowKit

theorem placeI_bdF (xs : List Int) (x : Int) : 0 ≤ placeI xs x ∧ placeI xs x ≤ xs.length := by
  unfold placeI
  rcases indexI_bd xs x with h | ⟨k, h, hk, _⟩
  · rw [h, if_pos (by omega)]; omega
  · rw [h, if_neg (by omega)]; omega
theorem row_len {xss : List (List Int)} (h : ∀ y ∈ xss, y.length ≤ 1048576) (k : Nat) : (row xss k).length ≤ 1048576 := by
  unfold row
  by_cases hk : k < xss.length
  · simp [List.getD, List.getElem?_eq_getElem hk]; exact h _ (List.getElem_mem hk)
  · simp [List.getD, List.getElem?_eq_none (by omega : xss.length ≤ k)]
theorem sumPl_bd {w : Wi} (h0 : ∀ y ∈ w.L, y.length ≤ 1048576) (h1 : ∀ y ∈ w.R, y.length ≤ 1048576) (m : List Int) : ∀ k : Nat, 0 ≤ sumPl w m k ∧ sumPl w m k ≤ k * 2097152
  | 0 => by simp [sumPl]
  | k + 1 => by
    have := sumPl_bd h0 h1 m k
    rw [sumPl]
    split
    · omega
    · have p1 := placeI_bdF (row w.L k) (m.getD k 0)
      have p2 := placeI_bdF (row w.R (m.getD k 0).toNat) k
      have l1 := row_len h0 k
      have l2 := row_len h1 (m.getD k 0).toNat
      omega
theorem fold_snoc {α β : Type} (f : β → α → β) (b : β) {xs : List α} {k : Nat} {x : α} (h : xs[k]? = some x) : (xs.take (k + 1)).foldl f b = f ((xs.take k).foldl f b) x := by
  rw [List.take_add_one, h]; simp
theorem fold_some (w : Wi) {al : List (List Int)} (h : 1 ≤ al.length) : ∃ p, al.foldl (fairStep w) none = some p := by
  obtain ⟨k, hk⟩ : ∃ k, al.length = k + 1 := ⟨al.length - 1, by omega⟩
  have hlt : k < al.length := by omega
  have := fold_snoc (fairStep w) none (List.getElem?_eq_getElem hlt)
  rw [← hk, List.take_length] at this
  rw [this]
  exact fairStep_some w _ _
theorem fair_no1 {w : Wi} (h : allF w = none) : fairF w = none := by
  unfold allF at h
  unfold fairF
  split at h
  · cases h
  · rename_i h2; rw [if_neg h2]
theorem fair_yes {w : Wi} {al : List (List Int)} (h : allF w = some al) : fairF w = al.foldl (fairStep w) none ∧ al = allStabF w ∧ wishB w = true ∧ w.L.length ≤ 5 := by
  unfold allF at h
  split at h
  · rename_i h2
    injection h with h
    unfold fairF
    rw [if_pos h2, h]
    rw [Bool.and_eq_true, decide_eq_true_eq] at h2
    exact ⟨rfl, rfl, h2.1, h2.2⟩
  · cases h
/-- The best row so far: nobody's, or a row of the table. -/
def BestV (al : List (List Int)) (vs : List Value) (b : BestM) (u l : Value) : Prop := match b with
  | none => u = .slice none 0 0 ∧ l = .int .i64 0
  | some (m, s) => ∃ (q g c : Nat), al[q]? = some m ∧ vs[q]? = some (Value.slice (some ⟨g, 0, none⟩) m.length c) ∧ u = .slice (some ⟨g, 0, none⟩) m.length c ∧ l = .int .i64 s
def BestI (al : List (List Int)) (b : BestM) (u l : Value) : Prop := match b with
  | none => u = .int .i64 (-1) ∧ l = .int .i64 0
  | some (m, s) => ∃ q : Nat, al[q]? = some m ∧ u = .int .i64 q ∧ l = .int .i64 s
set_option maxRecDepth 10000 in
set_option maxHeartbeats 8000000 in
theorem fair_any (w : World) (a0 : Option Addr) (c0 : Nat) (x0 : List (List Int)) (a1 : Option Addr) (c1 : Nat) (x1 : List (List Int)) (h : RdWishes w w.heap.size a0 x0 a1 x1) (hl0 : x0.length ≤ 1048576) (hin0 : ∀ y ∈ x0, y.length ≤ 1048576) (hl1 : x1.length ≤ 1048576) (hin1 : ∀ y ∈ x1, y.length ≤ 1048576) :
    Calls Try.prog 27 #[.agg #[.slice a0 x0.length c0, .slice a1 x1.length c1]] w (RetT 2 w (fairF ⟨x0, x1⟩)) := by
  have X0 : Bx w (w.alloc (.cells #[.slice a0 x0.length c0, .slice a1 x1.length c1] 27)) [.slice a0 x0.length c0, .slice a1 x1.length c1] 27 := Bx.start w _ _
  have LA := Lib.hid (allStable_any _ a0 c0 x0 a1 c1 x1 (h.to X0.1) hl0 hin0 hl1 hin1)
  cases hall : allF ⟨x0, x1⟩ with
  | none =>
    rw [fair_no1 hall]
    rw [hall] at LA
    obtain ⟨q0, q1⟩ := X0.two
    clear h hin0 hin1
    go_enter Try.func27, Try.ntmps27
    go_wp2_with fail
    refine LA.out.mono ?_
    rintro e w1 ⟨hb1, rfl⟩
    have X1 := X0.next hb1
    clear hb1 q0 q1
    go_wp2_with fail
    go_ret3
    exact RetT.no X1.1
  | some al =>
  obtain ⟨hfair, hal, hw1, hw5⟩ := fair_yes hall
  rw [hall] at LA
  rw [hfair]
  have hv := wish_of hw1
  have LPL := Lib.hid (fun w' a c xs x => place_any w' a c xs x)
  have h8 := hv.n8
  simp only at h8
  have hln := Lib.hid hv.len
  simp only at hln
  have HMEM : Hid (∀ m, m ∈ al → m.length = x0.length ∧ ∀ (k : Nat) (x : Int), k < m.length → m[k]? = some x → m.getD k 0 = x ∧ (x < 0 ∨ ∃ y : Nat, x = y ∧ y < x0.length)) := fun m hm => by
    rw [hal] at hm
    have hst := stab_of (List.mem_filter.1 hm).2
    refine ⟨hst.len, fun k x hk hx => ⟨getD_of_get hx, ?_⟩⟩
    rw [← getD_of_get hx]
    rcases hst.val k hk with h | ⟨y, h, hy, _⟩
    · exact .inl (by omega)
    · exact .inr ⟨y, h, hy⟩
  have HFEW : Hid (al.length ≤ 7776) := by rw [hal]; exact allStab_few hw5
  have hfew := HFEW.out
  have HONE : Hid (1 ≤ al.length) := by rw [hal]; exact allStab_some hv
  have HSOME : Hid (∃ p, al.foldl (fairStep ⟨x0, x1⟩) none = some p) := fold_some ⟨x0, x1⟩ HONE.out
  have HBD : Hid (∀ (m : List Int) (k : Nat), 0 ≤ sumPl ⟨x0, x1⟩ m k ∧ sumPl ⟨x0, x1⟩ m k ≤ k * 2097152) := fun m k => sumPl_bd hin0 hin1 m k
  have HPB : Hid (∀ (xs : List Int) (x : Int), 0 ≤ placeI xs x ∧ placeI xs x ≤ xs.length) := placeI_bdF
  have HSP : Hid (∀ (m : List Int) (k : Nat) (x : Int), m.getD k 0 = x → x < 0 → sumPl ⟨x0, x1⟩ m (k + 1) = sumPl ⟨x0, x1⟩ m k) := fun m k x h1 h2 => by rw [sumPl, if_pos (by omega)]
  have HSQ : Hid (∀ (m : List Int) (k y : Nat) (ys zs : List Int), m.getD k 0 = (y : Int) → x0[k]? = some ys → x1[y]? = some zs → sumPl ⟨x0, x1⟩ m (k + 1) = sumPl ⟨x0, x1⟩ m k + (placeI ys y + placeI zs k)) := fun m k y ys zs h1 h2 h3 => by
    rw [sumPl, if_neg (by omega), h1, Int.toNat_natCast]
    simp only [row_get h2, row_get h3]
  have HSTEP : Hid (∀ (b : BestM) (m : List Int), fairStep ⟨x0, x1⟩ b m = match b with
    | none => some (m, sumPl ⟨x0, x1⟩ m m.length)
    | some (c, l) => if sumPl ⟨x0, x1⟩ m m.length < l then some (m, sumPl ⟨x0, x1⟩ m m.length) else some (c, l)) := fun _ _ => rfl
  have HSZ : Hid (∀ m : List Int, sumPl ⟨x0, x1⟩ m 0 = 0) := fun _ => rfl
  have Hh := Lib.hid h
  have Hin0 := Lib.hid hin0
  have Hin1 := Lib.hid hin1
  generalize hfo : fairStep ⟨x0, x1⟩ = fo at *
  generalize hsp : sumPl ⟨x0, x1⟩ = sp at *
  clear h hin0 hin1 hv hal hw5 hw1 hfo hsp
  have hen := fun (w : World) (a : Option Addr) (n c : Nat) => Lib.run_eql_slice_nil (P := Try.prog) w 31 2 a n c 0 0 Try.underlying31
  clear hall hfair
  obtain ⟨q0, q1⟩ := X0.two
  go_enter Try.func27, Try.ntmps27
  go_wp2_with fail
  refine LA.out.mono ?_
  rintro e w1 ⟨hb1, a, c, rfl, ho⟩
  have X1 := X0.next hb1
  have XW : Hid (∀ w', Below w1.heap.size w1 w' → Bx w w' [.slice a0 x0.length c0, .slice a1 x1.length c1] 27) := fun w' hb => X1.next hb
  obtain ⟨vs, hR⟩ := ho
  have HR := Lib.hid hR
  have HRD : Hid (Rd w1 w1.heap.size a vs) := rd_of_own hR.out (Nat.le_refl _)
  have HVL := Lib.hid hR.len
  clear hb1 q0 q1 X0 X1 LA hR
  go_wp2_with fail
  go_loopw [7, 8, 23] (fun u7 u8 jv wr => ∃ (j : Nat) (b : BestM), j ≤ al.length ∧ jv = .int .i64 j ∧ Hid ((al.take j).foldl fo none = b) ∧ Hid (BestV al vs b u7 u8) ∧ Below w1.heap.size w1 wr) (fun _ _ jv _ => al.length - (intOf jv).toNat)
  case atStart => exact ⟨0, none, Nat.zero_le _, rfl, rfl, ⟨rfl, rfl⟩, Below.refl _ _⟩
  case round =>
    obtain ⟨j, b, hj, rfl, hfold, hbest, hwr⟩ := hrel
    by_cases hlt : j < al.length
    · obtain ⟨b9, o9, v9, e9, hb9, hc9, hv9⟩ := HRD.out.getV (k := j) (by rw [HVL.out]; exact hlt)
      have hm := List.getElem?_eq_getElem hlt
      obtain ⟨m, hmm⟩ : ∃ m, m = al[j] := ⟨_, rfl⟩
      rw [← hmm] at hm
      clear hmm
      obtain ⟨g, c9, hrow, hI⟩ := HR.out.row j m hm
      have ev : v9 = .slice (some ⟨g, 0, none⟩) m.length c9 := by
        have := hv9.out
        rw [hrow] at this
        injection this with this
        exact this.symm
      subst ev
      obtain ⟨hml, hmv⟩ := HMEM.out m (List.mem_of_getElem? hm)
      have HMV := Lib.hid hmv
      have HMR := Lib.hid hI.rd
      have d9 := (hwr.cell (p := ⟨b9, o9 + j, none⟩) hb9).trans hc9
      have HF := Lib.hid (fold_snoc fo none hm)
      rw [hfold.out, HSTEP.out] at HF
      have HM := Lib.hid hm
      have HRW := Lib.hid hrow
      have Hml := Lib.hid hml
      have hm8 : m.length ≤ 8 := by omega
      subst e9
      obtain ⟨wo, hwo⟩ : ∃ W : World, W = wr := ⟨_, rfl⟩
      subst hwo
      clear hm hrow hI hmv hv9 hc9 hml
      go_wp2_with fail
      go_loopw [11, 29] (fun sv kv wr => ∃ k : Nat, k ≤ m.length ∧ kv = .int .i64 k ∧ sv = .int .i64 (sp m k) ∧ Below w1.heap.size w1 wr) (fun _ kv _ => m.length - (intOf kv).toNat)
      case atStart => exact ⟨0, Nat.zero_le _, rfl, by rw [HSZ.out m], hwr⟩
      case round =>
        clear hwr d9
        obtain ⟨k, hk, rfl, rfl, hwr⟩ := hrel
        by_cases hlk : k < m.length
        · have hkx : k < x0.length := by rw [← Hml.out]; exact hlk
          obtain ⟨b4, o4, x, e4, hb4, hc4, hx4⟩ := HMR.out.get hlk
          injection e4 with e4
          injection e4 with e4 e5
          subst e4 e5
          have d4 : wr.cell? ⟨g, k, none⟩ = some (.int .i64 x) := by
            have := (hwr.cell (p := ⟨g, 0 + k, none⟩) hb4).trans hc4
            rwa [Nat.zero_add] at this
          obtain ⟨hgd, hxv⟩ := HMV.out k x hlk hx4.out
          clear hc4
          rcases hxv with hx0 | ⟨y, rfl, hy⟩
          · have HS2 := Lib.hid (HSP.out m k x hgd hx0)
            clear hgd
            go_wp2_with fail
            go_roundw
            case rel => exact ⟨k + 1, by omega, by go_num, by rw [HS2.out], hwr⟩
            case measure => simp [intOf]; omega
          · obtain ⟨b2, o2, ys, a2, c2, e2, hb2, hc2, _, hr2, hy2⟩ := (Hh.out.1).get (k := k) (by omega)
            obtain ⟨b3, o3, zs, a3, c3, e3, hb3, hc3, _, hr3, hy3⟩ := (Hh.out.2).get (k := y) (by rw [hln.out]; exact hy)
            have hWB : Hid (∀ w', Below wr.heap.size wr w' → Below w.heap.size w w') := fun w' hb => below_then (XW.out wr hwr).1 hb
            have hX : Hid (∀ w', Below wr.heap.size wr w' → Bx w w' [.slice a0 x0.length c0, .slice a1 x1.length c1] 27) := fun w' hb => (XW.out wr hwr).next hb
            have F0 : ∀ z : Later wr, z.w'.cell? ⟨w.heap.size, 0, none⟩ = some (.slice a0 x0.length c0) := fun z => (hX.out _ z.h).two.1
            have F1 : ∀ z : Later wr, z.w'.cell? ⟨w.heap.size, 1, none⟩ = some (.slice a1 x1.length c1) := fun z => (hX.out _ z.h).two.2
            have F2 : ∀ z : Later wr, z.w'.cell? ⟨b2, o2 + k, none⟩ = some (.slice a2 ys.length c2) := fun z => ((hWB.out _ z.h).cell (p := ⟨b2, o2 + k, none⟩) hb2).trans hc2
            have F3 : ∀ z : Later wr, z.w'.cell? ⟨b3, o3 + y, none⟩ = some (.slice a3 zs.length c3) := fun z => ((hWB.out _ z.h).cell (p := ⟨b3, o3 + y, none⟩) hb3).trans hc3
            have LP2 : Hid (∀ w', Below wr.heap.size wr w' → _) := fun w' hb => LPL.out w' a2 c2 ys y (hr2.to (hWB.out w' hb)) (Hin0.out ys (List.mem_of_getElem? hy2.out))
            have LP3 : Hid (∀ w', Below wr.heap.size wr w' → _) := fun w' hb => LPL.out w' a3 c3 zs k (hr3.to (hWB.out w' hb)) (Hin1.out zs (List.mem_of_getElem? hy3.out))
            have HS2 := Lib.hid (HSQ.out m k y ys zs hgd hy2.out hy3.out)
            have p1 := HPB.out ys y
            have p2 := HPB.out zs k
            have l1 := Hin0.out ys (List.mem_of_getElem? hy2.out)
            have l2 := Hin1.out zs (List.mem_of_getElem? hy3.out)
            have hb0 := HBD.out m k
            subst e2 e3
            generalize placeI ys y = p at *
            generalize placeI zs k = q at *
            generalize hs0 : sp m k = s0 at *
            have hw1' : IntKind.i64.wrap (p + q) = p + q := IntWalk.i64_in _ (by omega)
            have hw2' : IntKind.i64.wrap (s0 + (p + q)) = s0 + (p + q) := IntWalk.i64_in _ (by omega)
            have k0 : (0 : Int) ≤ (k : Int) := Int.natCast_nonneg _
            have k1 : (k : Int) < (x0.length : Int) := by omega
            have y0 : (0 : Int) ≤ (y : Int) := Int.natCast_nonneg _
            have y1 : (y : Int) < (x1.length : Int) := by rw [hln.out]; omega
            clear hc2 hc3 hr2 hr3 hy2 hy3 hgd hs0 p1 p2 hb0 hX hWB
            go_wp2_with fail
            refine wp_region_later (by kernel_rfl) (by kernel_rfl) ?_
            repeat (go_big_quiet_step (first | (go_at_call_of 70 a2; exact later_same (LP2.out _ (Later.h _))) | (go_at_call_of 70 a3; exact later_same (LP3.out _ (Later.h _)))))
            refine wpQuiet_nil ?_
            rintro wq ⟨⟨_, hbq⟩, rfl⟩
            have hwq := below_then hwr hbq
            clear F0 F1 F2 F3 hw1' hw2'
            go_wp2_with fail
            go_roundw
            case rel => exact ⟨k + 1, by omega, by go_num, by rw [HS2.out], hwq⟩
            case measure => simp [intOf]; omega
        · have hkk : k = m.length := by omega
          subst hkk
          generalize sp m m.length = s at *
          cases b with
          | none =>
            obtain ⟨rfl, rfl⟩ := hbest.out
            go_wp2_with fail
            go_roundw
            case rel => exact ⟨j + 1, some (m, s), by omega, by go_num, HF.out, ⟨j, g, c9, HM.out, HRW.out, rfl, rfl⟩, hwr⟩
            case measure => simp [intOf]; omega
          | some p =>
            obtain ⟨m0, l0⟩ := p
            obtain ⟨q0, g0, c0', i1, i2, rfl, rfl⟩ := hbest.out
            have I1 := Lib.hid i1
            have I2 := Lib.hid i2
            clear i1 i2
            by_cases hsl : s < l0
            · have HF2 : Hid ((al.take (j + 1)).foldl fo none = some (m, s)) := by rw [Hid, HF.out]; simp only; rw [if_pos hsl]
              clear HF
              go_wp2_with fail
              go_roundw
              case rel => exact ⟨j + 1, some (m, s), by omega, by go_num, HF2.out, ⟨j, g, c9, HM.out, HRW.out, rfl, rfl⟩, hwr⟩
              case measure => simp [intOf]; omega
            · have HF2 : Hid ((al.take (j + 1)).foldl fo none = some (m0, l0)) := by rw [Hid, HF.out]; simp only; rw [if_neg hsl]
              clear HF
              go_wp2_with fail
              go_roundw
              case rel => exact ⟨j + 1, some (m0, l0), by omega, by go_num, HF2.out, ⟨q0, g0, c0', I1.out, I2.out, rfl, rfl⟩, hwr⟩
              case measure => simp [intOf]; omega
    · have hjj : j = al.length := by omega
      subst hjj
      rw [List.take_length] at hfold
      cases b with
      | none =>
        obtain ⟨p, hp⟩ := HSOME.out
        have := hfold.out
        rw [hp] at this
        cases this
      | some p =>
        obtain ⟨m0, l0⟩ := p
        obtain ⟨q0, g0, c0', i1, i2, rfl, rfl⟩ := hbest.out
        have HFIN : Hid (RetT 2 w (al.foldl fo none) (.returned (.tuple #[.slice (some ⟨g0, 0, none⟩) m0.length c0', .int .i64 l0, .bool true])) wr) := by
          rw [hfold.out]
          obtain ⟨g2, c2', k1, k2⟩ := HR.out.row q0 m0 i1
          rw [i2] at k1
          injection k1 with k1
          injection k1 with k1 _ k3
          injection k1 with k1
          injection k1 with k1 _
          subst k1 k3
          refine ⟨(XW.out wr hwr).1, _, _, rfl, ?_⟩
          exact own_base (own_below k2.1 hwr) (by simp)
        clear hfold hbest i1 i2
        go_wp2_with fail
        go_ret3
        exact HFIN.out
set_option maxRecDepth 10000 in
set_option maxHeartbeats 8000000 in
theorem fairR_any (w : World) (a0 : Option Addr) (c0 : Nat) (x0 : List (List Int)) (a1 : Option Addr) (c1 : Nat) (x1 : List (List Int)) (h : RdWishes w w.heap.size a0 x0 a1 x1) (hl0 : x0.length ≤ 1048576) (hin0 : ∀ y ∈ x0, y.length ≤ 1048576) (hl1 : x1.length ≤ 1048576) (hin1 : ∀ y ∈ x1, y.length ≤ 1048576) :
    Calls Try.prog 28 #[.agg #[.slice a0 x0.length c0, .slice a1 x1.length c1]] w (RetT 2 w (fairF ⟨x0, x1⟩)) := by
  have X0 : Bx w (w.alloc (.cells #[.slice a0 x0.length c0, .slice a1 x1.length c1] 27)) [.slice a0 x0.length c0, .slice a1 x1.length c1] 27 := Bx.start w _ _
  have LV := Lib.hid (l05Is_any _ w.heap.size 0 a0 c0 x0 a1 c1 x1 X0.two.1 X0.two.2 (h.to X0.1) hl0 hin0 hl1 hin1)
  cases t1 : wishB ⟨x0, x1⟩ with
  | false =>
    rw [fair_no1 (all_no1 t1)]
    rw [t1] at LV
    clear h hin0 hin1 t1
    go_enter Try.func28, Try.ntmps28
    go_wp2_with fail
    refine LV.out.mono ?_
    rintro e w1 ⟨rfl, q, rfl⟩
    have X1 := X0.drewN q
    go_wp2_with fail
    go_ret3
    exact RetT.no X1.1
  | true =>
  rw [t1] at LV
  by_cases h5 : x0.length ≤ 5
  case neg =>
    rw [fair_no1 (all_no2 h5)]
    have hgt : (5 : Int) < (x0.length : Int) := by omega
    clear h hin0 hin1 t1
    go_enter Try.func28, Try.ntmps28
    go_wp2_with fail
    refine LV.out.mono ?_
    rintro e w1 ⟨rfl, q, rfl⟩
    have X1 := X0.drewN q
    obtain ⟨q0, q1⟩ := X1.two
    go_wp2_with fail
    go_ret3
    exact RetT.no X1.1
  obtain ⟨hfair, hal', hw1, hw5⟩ := fair_yes (all_yes t1 h5)
  rw [hfair]
  have hgt : ¬ (5 : Int) < (x0.length : Int) := by omega
  have LA : Hid (∀ w', Bx w w' [.slice a0 x0.length c0, .slice a1 x1.length c1] 27 → _) := fun w' X => l05All_any w' w.heap.size 0 a0 c0 x0 a1 c1 x1 X.two.1 X.two.2 X.2.lt (h.to X.1) hl0 hin0 hl1 hin1 t1 h5
  obtain ⟨al, hal⟩ : ∃ al, al = allStabF ⟨x0, x1⟩ := ⟨_, rfl⟩
  rw [← hal] at LA ⊢
  have hv := wish_of hw1
  have LPL := Lib.hid (fun w' a c xs x => l05Place_any w' a c xs x)
  have h8 := hv.n8
  simp only at h8
  have hln := Lib.hid hv.len
  simp only at hln
  have HMEM : Hid (∀ m, m ∈ al → m.length = x0.length ∧ ∀ (k : Nat) (x : Int), k < m.length → m[k]? = some x → m.getD k 0 = x ∧ (x < 0 ∨ ∃ y : Nat, x = y ∧ y < x0.length)) := fun m hm => by
    rw [hal] at hm
    have hst := stab_of (List.mem_filter.1 hm).2
    refine ⟨hst.len, fun k x hk hx => ⟨getD_of_get hx, ?_⟩⟩
    rw [← getD_of_get hx]
    rcases hst.val k hk with h | ⟨y, h, hy, _⟩
    · exact .inl (by omega)
    · exact .inr ⟨y, h, hy⟩
  have HFEW : Hid (al.length ≤ 7776) := by rw [hal]; exact allStab_few hw5
  have hfew := HFEW.out
  have HONE : Hid (1 ≤ al.length) := by rw [hal]; exact allStab_some hv
  have HSOME : Hid (∃ p, al.foldl (fairStep ⟨x0, x1⟩) none = some p) := fold_some ⟨x0, x1⟩ HONE.out
  have HBD : Hid (∀ (m : List Int) (k : Nat), 0 ≤ sumPl ⟨x0, x1⟩ m k ∧ sumPl ⟨x0, x1⟩ m k ≤ k * 2097152) := fun m k => sumPl_bd hin0 hin1 m k
  have HPB : Hid (∀ (xs : List Int) (x : Int), 0 ≤ placeI xs x ∧ placeI xs x ≤ xs.length) := placeI_bdF
  have HSP : Hid (∀ (m : List Int) (k : Nat) (x : Int), m.getD k 0 = x → x < 0 → sumPl ⟨x0, x1⟩ m (k + 1) = sumPl ⟨x0, x1⟩ m k) := fun m k x h1 h2 => by rw [sumPl, if_pos (by omega)]
  have HSQ : Hid (∀ (m : List Int) (k y : Nat) (ys zs : List Int), m.getD k 0 = (y : Int) → x0[k]? = some ys → x1[y]? = some zs → sumPl ⟨x0, x1⟩ m (k + 1) = sumPl ⟨x0, x1⟩ m k + (placeI ys y + placeI zs k)) := fun m k y ys zs h1 h2 h3 => by
    rw [sumPl, if_neg (by omega), h1, Int.toNat_natCast]
    simp only [row_get h2, row_get h3]
  have HSTEP : Hid (∀ (b : BestM) (m : List Int), fairStep ⟨x0, x1⟩ b m = match b with
    | none => some (m, sumPl ⟨x0, x1⟩ m m.length)
    | some (c, l) => if sumPl ⟨x0, x1⟩ m m.length < l then some (m, sumPl ⟨x0, x1⟩ m m.length) else some (c, l)) := fun _ _ => rfl
  have HSZ : Hid (∀ m : List Int, sumPl ⟨x0, x1⟩ m 0 = 0) := fun _ => rfl
  have Hh := Lib.hid h
  have Hin0 := Lib.hid hin0
  have Hin1 := Lib.hid hin1
  generalize hfo : fairStep ⟨x0, x1⟩ = fo at *
  generalize hsp : sumPl ⟨x0, x1⟩ = sp at *
  clear h hin0 hin1 hv hal hw5 hw1 hfo hsp
  clear hfair hal' t1 h5
  go_enter Try.func28, Try.ntmps28
  go_wp2_with fail
  refine LV.out.mono ?_
  rintro e w9 ⟨rfl, q, hq⟩
  have X9 : Bx w w9 [.slice a0 x0.length c0, .slice a1 x1.length c1] 27 := by rw [hq]; exact X0.drewN q
  have LA1 := Lib.hid (LA.out w9 X9)
  obtain ⟨q0, q1⟩ := X9.two
  have hs9 := X9.lt
  clear hq X0 LA LV
  go_wp2_with fail
  refine LA1.out.mono ?_
  rintro e w1 ⟨a, c, rfl, ho, hb1⟩
  have X1 := X9.next hb1
  have XW : Hid (∀ w', Below w1.heap.size w1 w' → Bx w w' [.slice a0 x0.length c0, .slice a1 x1.length c1] 27) := fun w' hb => X1.next hb
  obtain ⟨vs, hR⟩ := ho
  have HR := Lib.hid hR
  have HRD : Hid (Rd w1 w1.heap.size a vs) := rd_of_own hR.out (Nat.le_refl _)
  have HVL := Lib.hid hR.len
  clear hb1 q0 q1 X9 X1 LA1 hR
  go_wp2_with fail
  go_loopw [6, 7, 23] (fun u7 u8 jv wr => ∃ (j : Nat) (b : BestM), j ≤ al.length ∧ jv = .int .i64 j ∧ Hid ((al.take j).foldl fo none = b) ∧ Hid (BestI al b u7 u8) ∧ Below w1.heap.size w1 wr) (fun _ _ jv _ => al.length - (intOf jv).toNat)
  case atStart => exact ⟨0, none, Nat.zero_le _, rfl, rfl, ⟨rfl, rfl⟩, Below.refl _ _⟩
  case round =>
    obtain ⟨j, b, hj, rfl, hfold, hbest, hwr⟩ := hrel
    by_cases hlt : j < al.length
    · obtain ⟨b9, o9, v9, e9, hb9, hc9, hv9⟩ := HRD.out.getV (k := j) (by rw [HVL.out]; exact hlt)
      have hm := List.getElem?_eq_getElem hlt
      obtain ⟨m, hmm⟩ : ∃ m, m = al[j] := ⟨_, rfl⟩
      rw [← hmm] at hm
      clear hmm
      obtain ⟨g, c9, hrow, hI⟩ := HR.out.row j m hm
      have ev : v9 = .slice (some ⟨g, 0, none⟩) m.length c9 := by
        have := hv9.out
        rw [hrow] at this
        injection this with this
        exact this.symm
      subst ev
      obtain ⟨hml, hmv⟩ := HMEM.out m (List.mem_of_getElem? hm)
      have HMV := Lib.hid hmv
      have HMR := Lib.hid hI.rd
      have d9 := (hwr.cell (p := ⟨b9, o9 + j, none⟩) hb9).trans hc9
      have HF := Lib.hid (fold_snoc fo none hm)
      rw [hfold.out, HSTEP.out] at HF
      have HM := Lib.hid hm
      have HRW := Lib.hid hrow
      have Hml := Lib.hid hml
      have hm8 : m.length ≤ 8 := by omega
      subst e9
      obtain ⟨wo, hwo⟩ : ∃ W : World, W = wr := ⟨_, rfl⟩
      subst hwo
      have HC9 := Lib.hid hc9
      clear hm hrow hI hmv hv9 hc9 hml
      go_wp2_with fail
      go_loopw [9, 31] (fun sv kv wr => ∃ k : Nat, k ≤ m.length ∧ kv = .int .i64 k ∧ sv = .int .i64 (sp m k) ∧ Below w1.heap.size w1 wr) (fun _ kv _ => m.length - (intOf kv).toNat)
      case atStart => exact ⟨0, Nat.zero_le _, rfl, by rw [HSZ.out m], hwr⟩
      case round =>
        clear hwr d9
        obtain ⟨k, hk, rfl, rfl, hwr⟩ := hrel
        have d9 := (hwr.cell (p := ⟨b9, o9 + j, none⟩) hb9).trans HC9.out
        by_cases hlk : k < m.length
        · have hkx : k < x0.length := by rw [← Hml.out]; exact hlk
          obtain ⟨b4, o4, x, e4, hb4, hc4, hx4⟩ := HMR.out.get hlk
          injection e4 with e4
          injection e4 with e4 e5
          subst e4 e5
          have d4 : wr.cell? ⟨g, k, none⟩ = some (.int .i64 x) := by
            have := (hwr.cell (p := ⟨g, 0 + k, none⟩) hb4).trans hc4
            rwa [Nat.zero_add] at this
          obtain ⟨hgd, hxv⟩ := HMV.out k x hlk hx4.out
          clear hc4
          rcases hxv with hx0 | ⟨y, rfl, hy⟩
          · have HS2 := Lib.hid (HSP.out m k x hgd hx0)
            clear hgd
            go_wp2_with fail
            go_roundw
            case rel => exact ⟨k + 1, by omega, by go_num, by rw [HS2.out], hwr⟩
            case measure => simp [intOf]; omega
          · obtain ⟨b2, o2, ys, a2, c2, e2, hb2, hc2, _, hr2, hy2⟩ := (Hh.out.1).get (k := k) (by omega)
            obtain ⟨b3, o3, zs, a3, c3, e3, hb3, hc3, _, hr3, hy3⟩ := (Hh.out.2).get (k := y) (by rw [hln.out]; exact hy)
            have hWB : Hid (∀ w', Below wr.heap.size wr w' → Below w.heap.size w w') := fun w' hb => below_then (XW.out wr hwr).1 hb
            have hX : Hid (∀ w', Below wr.heap.size wr w' → Bx w w' [.slice a0 x0.length c0, .slice a1 x1.length c1] 27) := fun w' hb => (XW.out wr hwr).next hb
            have F0 : ∀ z : Later wr, z.w'.cell? ⟨w.heap.size, 0, none⟩ = some (.slice a0 x0.length c0) := fun z => (hX.out _ z.h).two.1
            have F1 : ∀ z : Later wr, z.w'.cell? ⟨w.heap.size, 1, none⟩ = some (.slice a1 x1.length c1) := fun z => (hX.out _ z.h).two.2
            have F2 : ∀ z : Later wr, z.w'.cell? ⟨b2, o2 + k, none⟩ = some (.slice a2 ys.length c2) := fun z => ((hWB.out _ z.h).cell (p := ⟨b2, o2 + k, none⟩) hb2).trans hc2
            have F3 : ∀ z : Later wr, z.w'.cell? ⟨b3, o3 + y, none⟩ = some (.slice a3 zs.length c3) := fun z => ((hWB.out _ z.h).cell (p := ⟨b3, o3 + y, none⟩) hb3).trans hc3
            have LP2 : Hid (∀ w', Below wr.heap.size wr w' → _) := fun w' hb => LPL.out w' a2 c2 ys y (hr2.to (hWB.out w' hb)) (Hin0.out ys (List.mem_of_getElem? hy2.out))
            have LP3 : Hid (∀ w', Below wr.heap.size wr w' → _) := fun w' hb => LPL.out w' a3 c3 zs k (hr3.to (hWB.out w' hb)) (Hin1.out zs (List.mem_of_getElem? hy3.out))
            have HS2 := Lib.hid (HSQ.out m k y ys zs hgd hy2.out hy3.out)
            have p1 := HPB.out ys y
            have p2 := HPB.out zs k
            have l1 := Hin0.out ys (List.mem_of_getElem? hy2.out)
            have l2 := Hin1.out zs (List.mem_of_getElem? hy3.out)
            have hb0 := HBD.out m k
            subst e2 e3
            generalize placeI ys y = p at *
            generalize placeI zs k = q at *
            generalize hs0 : sp m k = s0 at *
            have hw1' : IntKind.i64.wrap (p + q) = p + q := IntWalk.i64_in _ (by omega)
            have hw2' : IntKind.i64.wrap (s0 + (p + q)) = s0 + (p + q) := IntWalk.i64_in _ (by omega)
            have k0 : (0 : Int) ≤ (k : Int) := Int.natCast_nonneg _
            have k1 : (k : Int) < (x0.length : Int) := by omega
            have y0 : (0 : Int) ≤ (y : Int) := Int.natCast_nonneg _
            have y1 : (y : Int) < (x1.length : Int) := by rw [hln.out]; omega
            clear hc2 hc3 hr2 hr3 hy2 hy3 hgd hs0 p1 p2 hb0 hX hWB
            go_wp2_with fail
            refine wp_region_later (by kernel_rfl) (by kernel_rfl) ?_
            repeat (go_big_quiet_step (first | (go_at_call_of 71 a2; exact later_same (LP2.out _ (Later.h _))) | (go_at_call_of 71 a3; exact later_same (LP3.out _ (Later.h _)))))
            refine wpQuiet_nil ?_
            rintro wq ⟨⟨_, hbq⟩, rfl⟩
            have hwq := below_then hwr hbq
            clear F0 F1 F2 F3 hw1' hw2'
            go_wp2_with fail
            go_roundw
            case rel => exact ⟨k + 1, by omega, by go_num, by rw [HS2.out], hwq⟩
            case measure => simp [intOf]; omega
        · have hkk : k = m.length := by omega
          subst hkk
          generalize sp m m.length = s at *
          cases b with
          | none =>
            obtain ⟨rfl, rfl⟩ := hbest.out
            go_wp2_with fail
            go_roundw
            case rel => exact ⟨j + 1, some (m, s), by omega, by go_num, HF.out, ⟨j, HM.out, rfl, rfl⟩, hwr⟩
            case measure => simp [intOf]; omega
          | some p =>
            obtain ⟨m0, l0⟩ := p
            obtain ⟨q0, i1, rfl, rfl⟩ := hbest.out
            have I1 := Lib.hid i1
            clear i1
            have q00 : (0 : Int) ≤ (q0 : Int) := Int.natCast_nonneg _
            by_cases hsl : s < l0
            · have HF2 : Hid ((al.take (j + 1)).foldl fo none = some (m, s)) := by rw [Hid, HF.out]; simp only; rw [if_pos hsl]
              clear HF
              go_wp2_with fail
              go_roundw
              case rel => exact ⟨j + 1, some (m, s), by omega, by go_num, HF2.out, ⟨j, HM.out, rfl, rfl⟩, hwr⟩
              case measure => simp [intOf]; omega
            · have HF2 : Hid ((al.take (j + 1)).foldl fo none = some (m0, l0)) := by rw [Hid, HF.out]; simp only; rw [if_neg hsl]
              clear HF
              go_wp2_with fail
              go_roundw
              case rel => exact ⟨j + 1, some (m0, l0), by omega, by go_num, HF2.out, ⟨q0, I1.out, rfl, rfl⟩, hwr⟩
              case measure => simp [intOf]; omega
    · have hjj : j = al.length := by omega
      subst hjj
      rw [List.take_length] at hfold
      cases b with
      | none =>
        obtain ⟨p, hp⟩ := HSOME.out
        have := hfold.out
        rw [hp] at this
        cases this
      | some p =>
        obtain ⟨m0, l0⟩ := p
        obtain ⟨q0, i1, rfl, rfl⟩ := hbest.out
        have hq0 : q0 < al.length := (List.getElem?_eq_some_iff.1 i1).1
        obtain ⟨b9, o9, v9, e9, hb9, hc9, hv9⟩ := HRD.out.getV (k := q0) (by rw [HVL.out]; exact hq0)
        obtain ⟨g2, c2', k1, k2⟩ := HR.out.row q0 m0 i1
        have ev : v9 = .slice (some ⟨g2, 0, none⟩) m0.length c2' := by
          have := hv9.out
          rw [k1] at this
          injection this with this
          exact this.symm
        subst ev
        have d9 := (hwr.cell (p := ⟨b9, o9 + q0, none⟩) hb9).trans hc9
        subst e9
        have q00 : (0 : Int) ≤ (q0 : Int) := Int.natCast_nonneg _
        have q01 : (q0 : Int) < (al.length : Int) := by omega
        have HFIN : Hid (RetT 2 w (al.foldl fo none) (.returned (.tuple #[.slice (some ⟨g2, 0, none⟩) m0.length c2', .int .i64 l0, .bool true])) wr) := by
          rw [hfold.out]
          refine ⟨(XW.out wr hwr).1, _, _, rfl, ?_⟩
          exact own_base (own_below k2.1 hwr) (by omega)
        clear hfold hbest i1 k1 k2 hv9 hc9
        go_wp2_with fail
        go_ret3
        exact HFIN.out
end Go.Proofs.Ytchfibmndcfpiaa
namespace Go.Proofs.Ytchfibmndcfpiaa
set_option linter.unusedVariables false
set_option linter.unusedSimpArgs false
open Go.RowKit

theorem foldl_memM (w : Wi) : ∀ (al : List (List Int)) (b : BestM), (∀ m ∈ al, m.length ≤ 1073741824) → (∀ m s, b = some (m, s) → m.length ≤ 1073741824) → ∀ m s, al.foldl (fairStep w) b = some (m, s) → m.length ≤ 1073741824
  | [], b, _, h2 => fun m s h => h2 m s h
  | x :: al, b, h1, h2 => fun m s h => by
    refine foldl_memM w al (fairStep w b x) (fun m hm => h1 m (by simp [hm])) (fun m' s' h' => ?_) m s h
    cases b with
    | none => simp only [fairStep] at h'; injection h' with h'; injection h' with h' _; rw [← h']; exact h1 x (by simp)
    | some p =>
      obtain ⟨c, l⟩ := p
      simp only [fairStep] at h'
      split at h'
      · injection h' with h'; injection h' with h' _; rw [← h']; exact h1 x (by simp)
      · injection h' with h'; injection h' with h' _; rw [← h']; exact h2 c l rfl
theorem fairF_lenM (w : Wi) : (((fairF w).map Prod.fst).getD []).length ≤ 1073741824 := by
  cases hf : fairF w with
  | none => simp
  | some p =>
    obtain ⟨m, s⟩ := p
    unfold fairF at hf
    split at hf
    · rename_i h
      rw [Bool.and_eq_true, decide_eq_true_eq] at h
      have := foldl_memM w _ none (fun m hm => by
        have h2 := (List.mem_filter.1 hm).2
        simp only [stableB, matchB, Bool.and_eq_true, decide_eq_true_eq] at h2
        have := h2.1.1
        omega) (fun _ _ h => by cases h) m s hf
      simpa using this
    · cases hf
theorem fold_isSome (w : Wi) : ∀ (al : List (List Int)) (b : BestM), (b.isSome = true ∨ al ≠ []) → (al.foldl (fairStep w) b).isSome = true
  | [], b, h => h.elim id (fun h => absurd rfl h)
  | x :: al, b, _ => fold_isSome w al (fairStep w b x) (.inl (by obtain ⟨p, hp⟩ := fairStep_some w b x; rw [hp]; rfl))
theorem fairF_isSome {w : Wi} (hw : Wish w) (hv : wishB w = true) (h5 : w.L.length ≤ 5) : (fairF w).isSome = true := by
  obtain ⟨h1, h2, _, _⟩ := fair_yes (all_yes hv h5)
  rw [h1]
  refine fold_isSome w _ none (.inr fun e => ?_)
  have := allStab_some hw
  rw [e] at this
  simp at this
end Go.Proofs.Ytchfibmndcfpiaa
namespace Go.Proofs.Ytchfibmndcfpiaa
set_option linter.unusedVariables false
set_option linter.unusedSimpArgs false
open Go.RowKit

set_option maxRecDepth 100000 in
set_option maxHeartbeats 32000000 in
theorem matL5 (w v0 : World) (n gw gL cL gR cR : Nat) (xL xR : List (List Int)) (am : Option Addr) (cm : Nat) (ms : List Int) (HBX0 : Hid (WBl v0 gw n gL cL xL gR cR xR)) (HW0 : Hid (Below w.heap.size w v0)) (hn : 1 ≤ n ∧ n ≤ 4) (HL : Hid (xL.length = n)) (HR : Hid (xR.length = n)) (HV : Hid (wishB ⟨xL, xR⟩ = true)) (HGL : Hid (∀ y ∈ xL, y.length ≤ 1048576)) (HGR : Hid (∀ y ∈ xR, y.length ≤ 1048576)) (LM : Hid (∀ (v : World), Below w.heap.size w v → ∀ (i n : Int), 0 ≤ i → i ≤ 1000000 → Calls Try.prog 7 #[.slice am ms.length cm, .int .i64 i, .int .i64 n] v fun e w' => e = .returned (.int .i64 (atF ms i n)) ∧ v = w')) (K : Act → World → Prop) (hK : ∀ (a : Act) (v : World), Code.wp Try.prog (((Try.f5).body.bind (restAt 5)).getD .skip) (bodyPost Try.prog Try.f5 fun e w' => e = .returned (.bool true) ∧ Below w.heap.size w w') a v → K a v)
    {z0 z2 z3 z4 z7 z8 z9 z10 z11 z12 z13 z14 z15 z16 z17 z18 z19 z20 z21 z22 z23 z24 z25 z26 z27 z28 z29 z30 z31 z32 z33 z34 z35 z36 z37 z38 z39 z40 z41 z42 z43 z44 z45 z46 z47 z48 z49 z50 z51 z52 z53 z54 z55 z56 z57 z58 z59 z60 z61 z62 z63 z64 z65 z66 z67 z68 z69 z70 z71 z72 z73 z74 z75 z76 z77 z78 z79 z80 z81 z82 z83 z84 z85 z86 z87 z88 z89 z90 z91 z92 z93 z94 z95 z96 z97 z98 z99 z100 z101 z102 z103 z104 z105 z106 z107 z108 z109 z110 z111 z112 z113 z114 z115 z116 z117 z118 z119 z120 z121 z122 z123 z124 z125 z126 z127 z128 z129 z130 z131 z132 z133 z134 z135 z136 z137 z138 z139 z140 z141 z142 z143 z144 z145 z146 z147 z148 z149 z150 z151 z152 z153 z154 z155 z156 z157 z158 z159 z160 z161 z162 z163 z164 z165 z166 z167 z168 z169 z170 z171 z172 z173 z174 z175 z176 z177 z178 z179 z180 z181 z182 z183 z184 z185 z186 z187 z188 z189 z190 z191 z192 z193 z194 z195 z196 z197 z198 z199 z200 z201 z202 z203 z204 z205 z206 z207 z208 z209 z210 z211 z212 z213 z214 z215 z216 z217 z218 z219 z220 z221 z222 z223 z224 z225 z226 z227 z228 z229 z230 z231 z232 z233 z234 z235 z236 z237 z238 z239 z240 z241 z242 z243 z244 z245 z246 z247 z248 z249 z250 z251 z252 z253 z254 z255 z256 z257 z258 z259 z260 z261 z262 z263 z264 z265 z266 z267 z268 z269 z270 z271 z272 z273 z274 z275 z276 z277 z278 z279 z280 z281 z282 z283 z284 z285 z286 z287 z288 z289 z290 z291 z292 z293 z294 z295 z296 z297 z298 z299 z300 z301 z302 z303 z304 z305 z306 z307 z308 z309 z310 z311 z312 z313 z314 z315 z316 z317 z318 z319 z320 z321 z322 z323 z324 z325 z326 z327 z328 z329 z330 z331 z332 z333 z334 z335 z336 z337 z338 z339 z340 z341 z342 z343 : Value} :
    Code.wp Try.prog (((Try.f5).body.bind (regAt 5)).getD .skip) (Exit.then K (bodyPost Try.prog Try.f5 fun e w' => e = .returned (.bool true) ∧ Below w.heap.size w w')) ⟨#[z0, .slice am ms.length cm, z2, z3, z4, .int .i64 n, .pointer (some ⟨gw, 0, none⟩), z7, z8, z9, z10, z11, z12, z13, z14, z15, z16, z17, z18, z19, z20, z21, z22, z23, z24, z25, z26, z27, z28, z29, z30, z31, z32, z33, z34, z35, z36, z37, z38, z39, z40, z41, z42, z43, z44, z45, z46, z47, z48, z49, z50, z51, z52, z53, z54, z55, z56, z57, z58, z59, z60, z61, z62, z63, z64, z65, z66, z67, z68, z69, z70, z71, z72, z73, z74, z75, z76, z77, z78, z79, z80, z81, z82, z83, z84, z85, z86, z87, z88, z89, z90, z91, z92, z93, z94, z95, z96, z97, z98, z99, z100, z101, z102, z103, z104, z105, z106, z107, z108, z109, z110, z111, z112, z113, z114, z115, z116, z117, z118, z119, z120, z121, z122, z123, z124, z125, z126, z127, z128, z129, z130, z131, z132, z133, z134, z135, z136, z137, z138, z139, z140, z141, z142, z143, z144, z145, z146, z147, z148, z149, z150, z151, z152, z153, z154, z155, z156, z157, z158, z159, z160, z161, z162, z163, z164, z165, z166, z167, z168, z169, z170, z171, z172, z173, z174, z175, z176, z177, z178, z179, z180, z181, z182, z183, z184, z185, z186, z187, z188, z189, z190, z191, z192, z193, z194, z195, z196, z197, z198, z199, z200, z201, z202, z203, z204, z205, z206, z207, z208, z209, z210, z211, z212, z213, z214, z215, z216, z217, z218, z219, z220, z221, z222, z223, z224, z225, z226, z227, z228, z229, z230, z231, z232, z233, z234, z235, z236, z237, z238, z239, z240, z241, z242, z243, z244, z245, z246, z247, z248, z249, z250, z251, z252, z253, z254, z255, z256, z257, z258, z259, z260, z261, z262, z263, z264, z265, z266, z267, z268, z269, z270, z271, z272, z273, z274, z275, z276, z277, z278, z279, z280, z281, z282, z283, z284, z285, z286, z287, z288, z289, z290, z291, z292, z293, z294, z295, z296, z297, z298, z299, z300, z301, z302, z303, z304, z305, z306, z307, z308, z309, z310, z311, z312, z313, z314, z315, z316, z317, z318, z319, z320, z321, z322, z323, z324, z325, z326, z327, z328, z329, z330, z331, z332, z333, z334, z335, z336, z337, z338, z339, z340, z341, z342, z343], []⟩ v0 := by
  obtain ⟨cr, hcr⟩ : ∃ c, c = (((Try.f5).body.bind (restAt 5)).getD .skip) := ⟨_, rfl⟩
  rw [← hcr] at hK
  conv at hcr => rhs; whnf
  subst hcr
  conv => arg 2; whnf

  obtain ⟨n1, n4⟩ := hn
  have n1i : (1 : Int) ≤ (n : Int) := by omega
  have n4i : (n : Int) ≤ 4 := by omega
  have HWi := Lib.hid (wish_of HV.out)
  obtain ⟨q0, q1⟩ := HBX0.out.cells
  have HSt : Hid (stableB ⟨xL, xR⟩ (askedF ⟨xL, xR⟩) = true) := asked_stable HWi.out
  obtain ⟨m, hm⟩ : ∃ m, m = askedF ⟨xL, xR⟩ := ⟨_, rfl⟩
  obtain ⟨al, hal⟩ : ∃ l, l = allStabF ⟨xL, xR⟩ := ⟨_, rfl⟩
  have hall : allF ⟨xL, xR⟩ = some al := by rw [hal]; exact all_yes HV.out (by rw [HL.out]; omega)
  have Hall := Lib.hid hall
  have HAl : Hid (al.length ≤ 1048576 ∧ ∀ y ∈ al, y.length = n) := ⟨by have := allF_lenL ⟨xL, xR⟩; rw [hall] at this; exact this, fun y hy => by
    rw [hal] at hy
    have hs := (List.mem_filter.1 hy).2
    have := (mat_stab HWi.out hs).len
    rw [← HL.out]; exact this⟩
  have HMem : Hid (m ∈ al) := by rw [hm, hal]; exact allStab_mem HSt.out
  have HDe : Hid (∀ y ∈ al, ∀ a : Nat, a < n → m.getD a 0 ≠ y.getD a 0 → ∃ k : Nat, k < (row xL a).length ∧ (row xL a).getD k 0 = m.getD a 0 ∧ ∀ j, j < k → (row xL a).getD j 0 ≠ m.getD a 0 ∧ (row xL a).getD j 0 ≠ y.getD a 0) := fun y hy a ha hne => by
    rw [hal] at hy
    rw [hm] at hne ⊢
    exact asked_first HWi.out (List.mem_filter.1 hy).2 (by show a < xL.length; rw [HL.out]; exact ha) hne
  have HMa : Hid (matchB ⟨xL, xR⟩ m = true) := by
    have := HSt.out
    unfold stableB at this
    rw [Bool.and_eq_true] at this
    rw [hm]; exact this.1
  have Hml : Hid (m.length = n) := HAl.out.2 m HMem.out
  have HSm : Hid (isStableF ⟨xL, xR⟩ m = (true, true)) := by rw [hm]; exact isStableF_yes HV.out HSt.out
  obtain ⟨ak, hake⟩ : ∃ k, k = (askF ⟨xL, xR⟩ (onesL n)).2.sum := ⟨_, rfl⟩
  have HAk : Hid (0 ≤ ak ∧ ak ≤ (n : Int) * (n : Int)) := by
    have h1 : (⟨xL, xR⟩ : Wi).L.length = n := HL.out
    have := asks_sum HWi.out (ask_end HWi.out (ones_pos ⟨xL, xR⟩)).1
    rw [h1] at this
    rw [hake]; exact this
  obtain ⟨f, hf⟩ : ∃ f, f = ((fairF ⟨xL, xR⟩).map Prod.fst).getD [] := ⟨_, rfl⟩
  obtain ⟨su, hsu⟩ : ∃ f, f = ((fairF ⟨xL, xR⟩).map Prod.snd).getD 0 := ⟨_, rfl⟩
  have Hfl : Hid (f.length ≤ 1073741824) := by rw [hf]; exact fairF_lenM ⟨xL, xR⟩
  have HFs : Hid ((fairF ⟨xL, xR⟩).isSome = true) := fairF_isSome HWi.out HV.out (by show xL.length ≤ 5; rw [HL.out]; omega)
  have Hm := Lib.hid hm
  have Hake := Lib.hid hake
  have Hf := Lib.hid hf
  have Hsu := Lib.hid hsu
  clear hm hal hall hake hf hsu HSt
  have L1 := askMatch_any v0 (some ⟨gL, 0, none⟩) cL xL (some ⟨gR, 0, none⟩) cR xR HBX0.out.W (by rw [HL.out]; omega) HGL.out (by rw [HR.out]; omega) HGR.out HV.out
  rw [HL.out, HR.out, ← Hm.out, ← Hake.out] at L1
  have L1 := Lib.hid L1
  go_wp2_with fail
  refine L1.out.mono ?_
  rintro e v1 ⟨gm, cg, rfl, oM, hb⟩
  have HBX1 := Lib.hid (HBX0.out.to hb)
  have HW1 := Lib.hid (below_then HW0.out hb)
  have Rm1 := Lib.hid oM.rd
  clear oM
  clear hb q0 q1 L1 HBX0 HW0
  obtain ⟨q0, q1⟩ := HBX1.out.cells
  have L1 := isStable_any v1 (some ⟨gL, 0, none⟩) cL xL (some ⟨gR, 0, none⟩) cR xR (some ⟨gm, 0, none⟩) cg m HBX1.out.W (by rw [HL.out]; omega) HGL.out (by rw [HR.out]; omega) HGR.out Rm1.out (by rw [Hml.out]; omega)
  rw [HSm.out, HL.out, HR.out, Hml.out] at L1
  have L1 := Lib.hid L1
  go_wp2_with fail
  refine L1.out.mono ?_
  rintro e v2 ⟨rfl, hb⟩
  have HBX2 := Lib.hid (HBX1.out.to hb)
  have HW2 := Lib.hid (below_then HW1.out hb)
  have Rm2 := Lib.hid (Rm1.out.to hb)
  clear hb q0 q1 L1 HBX1 HW1 Rm1
  obtain ⟨q0, q1⟩ := HBX2.out.cells
  have L1 := flat_ofM (allStable_any v2 (some ⟨gL, 0, none⟩) cL xL (some ⟨gR, 0, none⟩) cR xR HBX2.out.W (by rw [HL.out]; omega) HGL.out (by rw [HR.out]; omega) HGR.out)
  rw [Hall.out, HL.out, HR.out] at L1
  simp only [Option.getD_some, Option.isSome_some] at L1
  have L1 := Lib.hid L1
  go_wp2_with fail
  refine L1.out.mono ?_
  rintro e v3 ⟨aA, cA, rfl, oA, hb⟩
  have HBX3 := Lib.hid (HBX2.out.to hb)
  have HW3 := Lib.hid (below_then HW2.out hb)
  have Rm3 := Lib.hid (Rm2.out.to hb)
  have RA3 := Lib.hid oA.rd
  clear oA
  clear hb q0 q1 L1 HBX2 HW2 Rm2
  obtain ⟨q0, q1⟩ := HBX3.out.cells
  have L1 := flat_ofM (allStableR_any v3 (some ⟨gL, 0, none⟩) cL xL (some ⟨gR, 0, none⟩) cR xR HBX3.out.W (by rw [HL.out]; omega) HGL.out (by rw [HR.out]; omega) HGR.out)
  rw [Hall.out, HL.out, HR.out] at L1
  simp only [Option.getD_some, Option.isSome_some] at L1
  have L1 := Lib.hid L1
  go_wp2_with fail
  refine L1.out.mono ?_
  rintro e v4 ⟨aB, cB, rfl, oA, hb⟩
  have HBX4 := Lib.hid (HBX3.out.to hb)
  have HW4 := Lib.hid (below_then HW3.out hb)
  have Rm4 := Lib.hid (Rm3.out.to hb)
  have RA4 := Lib.hid (RdII.to RA3.out hb)
  have RB4 := Lib.hid oA.rd
  clear oA
  clear hb q0 q1 L1 HBX3 HW3 Rm3 RA3
  obtain ⟨q0, q1⟩ := HBX4.out.cells
  have L1 := flat_ofT (fair_any v4 (some ⟨gL, 0, none⟩) cL xL (some ⟨gR, 0, none⟩) cR xR HBX4.out.W (by rw [HL.out]; omega) HGL.out (by rw [HR.out]; omega) HGR.out)
  rw [HL.out, HR.out, HFs.out, ← Hf.out, ← Hsu.out] at L1
  have L1 := Lib.hid L1
  go_wp2_with fail
  refine L1.out.mono ?_
  rintro e v5 ⟨af, cf, rfl, oA, hb⟩
  have HBX5 := Lib.hid (HBX4.out.to hb)
  have HW5 := Lib.hid (below_then HW4.out hb)
  have Rm5 := Lib.hid (Rm4.out.to hb)
  have RA5 := Lib.hid (RdII.to RA4.out hb)
  have RB5 := Lib.hid (RdII.to RB4.out hb)
  have Rf5 := Lib.hid oA.rd
  clear oA
  clear hb q0 q1 L1 HBX4 HW4 Rm4 RA4 RB4
  obtain ⟨q0, q1⟩ := HBX5.out.cells
  have L1 := flat_ofT (fairR_any v5 (some ⟨gL, 0, none⟩) cL xL (some ⟨gR, 0, none⟩) cR xR HBX5.out.W (by rw [HL.out]; omega) HGL.out (by rw [HR.out]; omega) HGR.out)
  rw [HL.out, HR.out, HFs.out, ← Hf.out, ← Hsu.out] at L1
  have L1 := Lib.hid L1
  go_wp2_with fail
  refine L1.out.mono ?_
  rintro e v6 ⟨ao, co, rfl, oA, hb⟩
  have HBX6 := Lib.hid (HBX5.out.to hb)
  have HW6 := Lib.hid (below_then HW5.out hb)
  have Rm6 := Lib.hid (Rm5.out.to hb)
  have Rf6 := Lib.hid (Rf5.out.to hb)
  have RA6 := Lib.hid (RdII.to RA5.out hb)
  have RB6 := Lib.hid (RdII.to RB5.out hb)
  have Ro6 := Lib.hid oA.rd
  clear oA
  clear hb q0 q1 L1 HBX5 HW5 Rm5 Rf5 RA5 RB5
  obtain ⟨q0, q1⟩ := HBX6.out.cells
  go_upto_region 11 with fail
  exact matL6 w v6 n gw gL cL gR cR xL xR am cm ms gm cg m aA aB cA cB al af ao cf co f su ak HBX6 HW6 ⟨n1, n4⟩ HL HR HV HGL HGR LM Hm.out Hml Rm6 RA6 RB6 HAl HMem HDe Rf6 Ro6 Hfl HAk.out HMa _ (by assumption)
end Go.Proofs.Ytchfibmndcfpiaa
namespace Go.Proofs.Ytchfibmndcfpiaa
set_option linter.unusedVariables false
set_option linter.unusedSimpArgs false
open Go.RowKit

def WishB2 (w : World) (n : Nat) (e : Ending) (w' : World) : Prop :=
  ∃ (gL cL : Nat) (xL : List (List Int)) (gR cR : Nat) (xR : List (List Int)), e = .returned (.agg #[.slice (some ⟨gL, 0, none⟩) n cL, .slice (some ⟨gR, 0, none⟩) n cR]) ∧ (xL.length = n ∧ xR.length = n) ∧ (GoodX xL n ∧ GoodX xR n) ∧ (RdL w' w'.heap.size gL 0 xL ∧ RdL w' w'.heap.size gR 0 xR) ∧ Below w.heap.size w w'
set_option maxRecDepth 10000 in
set_option maxHeartbeats 4000000 in
theorem b10WishesL_any (w : World) (a : Option Addr) (c : Nat) (xs : List Int) (n : Nat) (h : Rd w w.heap.size a (byts xs)) (hx : ∀ x ∈ xs, 0 ≤ x ∧ x ≤ 255) (hl : xs.length ≤ 1048576) (n1 : 1 ≤ n) (n8 : n ≤ 8) :
    Calls Try.prog 8 #[.slice a xs.length c, .int .i64 n] w (WishB2 w n) := by
  have B0' := bl1 w (.cells #[.slice none 0 0, .slice none 0 0] 27)
  have KR0 := Lib.hid (Blk.new w [.slice none 0 0, .slice none 0 0] 27)
  have L0 := Lib.hid (l00From_any (w.alloc (.cells #[.slice none 0 0, .slice none 0 0] 27)) a xs.length c)
  have H0 := Lib.hid ((h.below B0' (Nat.le_refl _)).mono B0'.size)
  have HX := Lib.hid hx
  have HB0 := Lib.hid B0'
  clear h hx B0'
  go_enter Try.func8, Try.ntmps8
  go_wp2_with fail
  refine L0.out.mono ?_
  rintro e w1 ⟨rfl, S1, B1, s1⟩
  have s0 : (w.alloc (.cells #[.slice none 0 0, .slice none 0 0] 27)).heap.size = w.heap.size + 1 := World.size_alloc _ _
  have D1 : Hid (DS w1 (w.heap.size + 1) (w.heap.size + 1) a xs c 0) := ⟨by rw [← s0]; exact S1, by rw [← s0]; exact H0.out.below B1 (Nat.le_refl _), Nat.le_refl _, HX.out, hl⟩
  have KR1 := Lib.hid (KR0.out.same B1)
  have HB1 := Lib.hid (below_then HB0.out B1)
  have L1 := Lib.hid (wishes_ds w1 (w.heap.size + 1) (w.heap.size + 1) a xs c 0 n D1.out (by omega) n1 n8)
  have hs1 : w.heap.size + 2 ≤ w1.heap.size := by omega
  clear L0 S1 B1 s1 s0 D1 H0 HX KR0 HB0
  go_wp2_with fail
  refine L1.out.mono ?_
  rintro e w2 ⟨aL, cL, xL, aR, cR, xR, p4, rfl, hl1, hg1, ⟨mm, hmm, oL, oR⟩, hp4, D4, T4⟩
  have KR2 := Lib.hid (KR1.out.touch T4 (.inl (by omega)))
  have B2 := Lib.hid (below_touch HB1.out T4 (by omega) HB1.out.size)
  have s4 := T4.size
  have H1 := Lib.hid hl1
  have H2 := Lib.hid hg1
  have HL := Lib.hid oL
  have HR := Lib.hid oR
  have HM := Lib.hid hmm
  clear L1 KR1 T4 hl1 hg1 oL oR hmm D4
  have y0' : w2.cell? ⟨w.heap.size, 0, none⟩ = some (.slice none 0 0) := KR2.out.cell 0
  have y1' : w2.cell? ⟨w.heap.size, 1, none⟩ = some (.slice none 0 0) := KR2.out.cell 1
  have f0 := KR2.out.free 0
  have f1 := KR2.out.free 1
  go_wp2_with fail
  obtain ⟨wz, hwz⟩ : ∃ Y, Y = (w2.setCell ⟨w.heap.size, 0, none⟩ (.slice aL n cL)).setCell ⟨w.heap.size, 1, none⟩ (.slice aR n cR) := ⟨_, rfl⟩
  have KZ : Blk wz w.heap.size [.slice aL n cL, .slice aR n cR] 27 := by rw [hwz]; exact (KR2.out.set 0 (.slice aL n cL)).set 1 (.slice aR n cR)
  have TZ : Touch w2 wz w.heap.size (w.heap.size + 1) := by rw [hwz]; exact (touch_setX w2 w.heap.size 0 (.slice aL n cL)).trans (touch_setX _ w.heap.size 1 (.slice aR n cR))
  obtain ⟨hm1, hm2⟩ := HM.out
  have OLZ := HL.out.touch TZ (.inr (by omega))
  have ORZ := HR.out.touch TZ (.inr (by omega))
  have BZ := below_touch B2.out TZ (Nat.le_refl _) (by omega)
  have sZ := TZ.size
  rw [← hwz]
  clear hwz y0' y1'
  have y0' : wz.cell? ⟨w.heap.size, 0, none⟩ = some (.slice aL n cL) := KZ.cell 0
  have y1' : wz.cell? ⟨w.heap.size, 1, none⟩ = some (.slice aR n cR) := KZ.cell 1
  refine bodyPost_ret (v := .agg #[.slice aL n cL, .slice aR n cR]) (by simp [results, Try.results8, go_sem, y0', y1']) rfl ?_
  obtain ⟨vL, oL⟩ := OLZ
  obtain ⟨vR, oR⟩ := ORZ
  have eL : ∃ gL, aL = some ⟨gL, 0, none⟩ := by obtain ⟨g, tl, e, -⟩ := own_open oL.out (by rw [H1.out.1]; exact n1); exact ⟨g, e⟩
  have eR : ∃ gR, aR = some ⟨gR, 0, none⟩ := by obtain ⟨g, tl, e, -⟩ := own_open oR.out (by rw [H1.out.2]; exact n1); exact ⟨g, e⟩
  obtain ⟨gL, rfl⟩ := eL
  obtain ⟨gR, rfl⟩ := eR
  exact ⟨gL, cL, xL, gR, cR, xR, rfl, H1.out, H2.out, ⟨(oL.rdl (by rw [H1.out.1]; exact n1) rfl).mono (by omega), (oR.rdl (by rw [H1.out.2]; exact n1) rfl).mono (by omega)⟩, BZ⟩
end Go.Proofs.Ytchfibmndcfpiaa
namespace Go.Proofs.Ytchfibmndcfpiaa
set_option linter.unusedVariables false
set_option linter.unusedSimpArgs false
open Go.RowKit

set_option maxRecDepth 100000 in
set_option maxHeartbeats 32000000 in
theorem law_Matches (w : World) (ac am : Option Addr) (cc cm : Nat) (cs ms : List Int) (hc : Rd w w.heap.size ac (byts cs)) (hm : Rd w w.heap.size am (byts ms)) (lc : cs.length ≤ 9223372036854775807) (lm : ms.length ≤ 9223372036854775807) (bc : ∀ x ∈ cs, 0 ≤ x ∧ x ≤ 255) (bm : ∀ x ∈ ms, 0 ≤ x ∧ x ≤ 255) :
    Calls Try.prog 5 #[.slice ac cs.length cc, .slice am ms.length cm] w fun e w' => e = .returned (.bool true) ∧ Below w.heap.size w w' := by
  have LL := Lib.hid (b10Long_any w ac am cc cm cs ms lc lm)
  cases hlong : longB cs ms with
  | true =>
    rw [hlong] at LL
    clear hlong hc hm bc bm
    go_enter Try.func5, Try.ntmps5
    go_wp2_with fail
    refine LL.out.mono ?_
    rintro e w' ⟨rfl, rfl⟩
    go_wp2_with fail
    go_ret
    exact ⟨rfl, Below.refl _ _⟩
  | false =>
  rw [hlong] at LL
  have hlc : cs.length ≤ 1048576 ∧ ms.length ≤ 1048576 := by
    simp only [longB, Bool.or_eq_false_iff, decide_eq_false_iff_not] at hlong
    omega
  obtain ⟨hlc, hlm⟩ := hlc
  have LM := Lib.hid (fun (v : World) (hb : Below w.heap.size w v) (i n : Int) (hi : 0 ≤ i) (hi2 : i ≤ 1000000) => b10At_any v am cm ms i n ((hm.below hb (Nat.le_refl _)).mono hb.size) hlm bm hi hi2)
  have L0 := LM.out w (Below.refl _ _) 0 4 (by omega) (by omega)
  have e0 := atF_bd (xs := ms) (i := 0) (n := 4) (by omega)
  obtain ⟨n, hn⟩ : ∃ n : Nat, 1 + atF ms 0 4 = (n : Int) := ⟨(1 + atF ms 0 4).toNat, by omega⟩
  have hA0 : atF ms 0 4 = (n : Int) - 1 := by omega
  rw [hA0] at L0
  have L0 := Lib.hid L0
  have n1 : 1 ≤ n := by omega
  have n4 : n ≤ 4 := by omega
  have LW := Lib.hid (b10WishesL_any w ac cc cs n hc bc hlc (by omega) (by omega))
  have en : (1 : Int) + ((n : Int) - 1) = n := by omega
  clear hlong hc hm bc bm e0 hn hA0 lc lm
  go_enter Try.func5, Try.ntmps5
  go_wp2_with fail
  refine LL.out.mono ?_
  rintro e w' ⟨rfl, rfl⟩
  go_wp2_with fail
  refine L0.out.mono ?_
  rintro e w' ⟨rfl, rfl⟩
  go_wp2_with fail
  refine LW.out.mono ?_
  rintro e w1 ⟨gL, cL, xL, gR, cR, xR, rfl, ⟨hl0, hl1⟩, ⟨hg0, hg1⟩, ⟨r0, r1⟩, hb1⟩
  have HV := Lib.hid (good_wish (by omega) (by omega) hl0 hl1 hg0 hg1)
  have HL := Lib.hid hl0
  have HR := Lib.hid hl1
  have HGL : Hid (∀ y ∈ xL, y.length ≤ 1048576) := fun y hy => by have := (hg0 y hy).1; omega
  have HGR : Hid (∀ y ∈ xR, y.length ≤ 1048576) := fun y hy => by have := (hg1 y hy).1; omega
  clear LW LL L0
  go_upto_region 5 with fail
  obtain ⟨gw, hgw⟩ : ∃ g, g = w1.heap.size := ⟨_, rfl⟩
  obtain ⟨w2, hw2⟩ : ∃ W, W = w1.alloc (.cells #[.slice (some ⟨gL, 0, none⟩) n cL, .slice (some ⟨gR, 0, none⟩) n cR] 27) := ⟨_, rfl⟩
  have HBX : Hid (WBl w2 gw n gL cL xL gR cR xR) := by rw [hw2, hgw]; exact ⟨Blk.new w1 _ _, r0.to (bl1 _ _), r1.to (bl1 _ _)⟩
  have HW : Hid (Below w.heap.size w w2) := by rw [hw2]; exact below_then hb1 (bl1 _ _)
  rw [← hw2, ← hgw]
  clear hw2 hgw r0 r1 hb1 hl0 hl1 hg0 hg1
  exact matL5 w w2 n gw gL cL gR cR xL xR am cm ms HBX HW ⟨n1, n4⟩ HL HR HV HGL HGR LM _ (by assumption)
end Go.Proofs.Ytchfibmndcfpiaa
