/-
  Part 9 of what the proof stands on: lemmas and contracts, each with its conditions ahead of the colon.
-/
import Derived.Deep.RegionHeld3
import Derived.Deep.DeepCutAuto
import Derived.Deep.CutBlock
import Derived.WalkLawsBesides
import Derived.Test.YtkapjlkeohjjbaaPk07
import Derived.Test.YtkapjlkeohjjbaaPk08
namespace Go.Proofs.Ytkapjlkeohjjbaa
set_option linter.unusedVariables false
set_option linter.unusedSimpArgs false
open Go.RowKit

set_option maxRecDepth 100000 in
set_option maxHeartbeats 32000000 in
theorem baB (w v0 : World) (n : Nat) (xs ms : List Int) (aC aM : Option Addr) (cC cM : Nat) (HW0 : Hid (Below w.heap.size w v0)) (RC0 : Hid (Rd v0 v0.heap.size aC (ints xs))) (HPt : Hid (Pts xs n)) (RM0 : Hid (Rd v0 v0.heap.size aM (byts ms))) (HM8 : Hid (∀ x ∈ ms, 0 ≤ x ∧ x ≤ 255)) (hml : ms.length ≤ 1048576) (K : Act → World → Prop) (hK : ∀ (a : Act) (v : World), Code.wp Try.prog (((Try.f3).body.bind (restAt 8)).getD .skip) (bodyPost Try.prog Try.f3 fun e w' => e = .returned (.bool true) ∧ Below w.heap.size w w') a v → K a v)
    {z0 z2 z3 z4 z6 z7 z8 z9 z10 z11 z12 z13 z14 z15 z16 z17 z18 z19 z20 z21 z22 z23 z24 z25 z26 z27 z28 z29 z30 z31 z32 z33 z34 z35 z36 z37 z38 z39 z40 z41 z42 z43 z44 z45 z46 z47 z48 z49 z50 z51 z52 z53 z54 z55 z56 z57 z58 z59 z60 z61 z62 z63 z64 z65 z66 z67 z68 z69 z70 z71 z72 z73 z74 z75 z76 z77 z78 z79 z80 z81 z82 z83 z84 z85 z86 z87 z88 z89 z90 z91 z92 z93 z94 z95 z96 z97 z98 z99 z100 z101 z102 z103 z104 z105 z106 z107 z108 z109 z110 z111 z112 z113 z114 z115 z116 z117 z118 z119 z120 z121 z122 z123 z124 z125 z126 z127 z128 z129 z130 z131 z132 z133 z134 z135 z136 z137 z138 z139 z140 z141 z142 z143 z144 z145 z146 z147 z148 z149 z150 z151 z152 z153 z154 z155 z156 z157 z158 z159 z160 z161 z162 z163 z164 z165 z166 z167 z168 z169 z170 z171 z172 z173 z174 z175 z176 z177 z178 z179 z180 z181 z182 z183 z184 z185 z186 z187 z188 z189 z190 z191 z192 z193 z194 z195 z196 z197 z198 z199 z200 z201 z202 z203 z204 z205 z206 z207 z208 z209 z210 z211 z212 z213 z214 z215 z216 z217 z218 z219 z220 z221 z222 z223 z224 z225 z226 z227 z228 z229 z230 z231 z232 z233 z234 z235 z236 z237 z238 : Value} :
    Code.wp Try.prog (((Try.f3).body.bind (regAt 8)).getD .skip) (Exit.then K (bodyPost Try.prog Try.f3 fun e w' => e = .returned (.bool true) ∧ Below w.heap.size w w')) ⟨#[z0, .slice aM ms.length cM, z2, z3, z4, .slice aC xs.length cC, z6, z7, z8, z9, z10, z11, z12, z13, z14, z15, z16, z17, z18, z19, z20, z21, z22, z23, z24, z25, z26, z27, z28, z29, z30, z31, z32, z33, z34, z35, z36, z37, z38, z39, z40, z41, z42, z43, z44, z45, z46, z47, z48, z49, z50, z51, z52, z53, z54, z55, z56, z57, z58, z59, z60, z61, z62, z63, z64, z65, z66, z67, z68, z69, z70, z71, z72, z73, z74, z75, z76, z77, z78, z79, z80, z81, z82, z83, z84, z85, z86, z87, z88, z89, z90, z91, z92, z93, z94, z95, z96, z97, z98, z99, z100, z101, z102, z103, z104, z105, z106, z107, z108, z109, z110, z111, z112, z113, z114, z115, z116, z117, z118, z119, z120, z121, z122, z123, z124, z125, z126, z127, z128, z129, z130, z131, z132, z133, z134, z135, z136, z137, z138, z139, z140, z141, z142, z143, z144, z145, z146, z147, z148, z149, z150, z151, z152, z153, z154, z155, z156, z157, z158, z159, z160, z161, z162, z163, z164, z165, z166, z167, z168, z169, z170, z171, z172, z173, z174, z175, z176, z177, z178, z179, z180, z181, z182, z183, z184, z185, z186, z187, z188, z189, z190, z191, z192, z193, z194, z195, z196, z197, z198, z199, z200, z201, z202, z203, z204, z205, z206, z207, z208, z209, z210, z211, z212, z213, z214, z215, z216, z217, z218, z219, z220, z221, z222, z223, z224, z225, z226, z227, z228, z229, z230, z231, z232, z233, z234, z235, z236, z237, z238], []⟩ v0 := by
  obtain ⟨cr, hcr⟩ : ∃ c, c = (((Try.f3).body.bind (restAt 8)).getD .skip) := ⟨_, rfl⟩
  rw [← hcr] at hK
  conv at hcr => rhs; whnf
  subst hcr
  conv => arg 2; whnf

  have hn8 := HPt.out.few
  have e1 := atF_bd (xs := ms) (i := 1) (n := 8) (by omega)
  have e2 := atF_bd (xs := ms) (i := 2) (n := 8) (by omega)
  have L1 := Lib.hid (b10At_any v0 aM cM ms 1 8 RM0.out hml HM8.out (by omega) (by omega))
  have L2 := Lib.hid (b10At_any v0 aM cM ms 2 8 RM0.out hml HM8.out (by omega) (by omega))
  obtain ⟨x, hx⟩ : ∃ x : Nat, atF ms 1 8 = (x : Int) := ⟨(atF ms 1 8).toNat, by omega⟩
  obtain ⟨y, hy⟩ : ∃ y : Nat, atF ms 2 8 = (y : Int) := ⟨(atF ms 2 8).toNat, by omega⟩
  rw [hx] at L1 e1
  rw [hy] at L2 e2
  obtain ⟨x0, x1⟩ := e1
  obtain ⟨y0, y1⟩ := e2
  have hx7 : x ≤ 7 := by omega
  have hy7 : y ≤ 7 := by omega
  clear hx hy
  have LP := Lib.hid (fun v hr => productPoint_any v aC cC xs n x y hr HPt.out x0 (by omega) y0 (by omega))
  have LL := Lib.hid (fun v hr => leastPoint_any v aC cC xs n x y hr HPt.out x0 (by omega) y0 (by omega))
  have LR := Lib.hid (fun v hr => rimOf_any v aC cC xs n hr HPt.out)
  have LM := Lib.hid (fun v hr => mixedPoint_any v aC cC xs n x y hr HPt.out x0 (by omega) y0 (by omega))
  have SP := Lib.hid (fun v hr => productR_any v aC cC xs n x y hr HPt.out x0 (by omega) y0 (by omega))
  have SL := Lib.hid (fun v hr => leastR_any v aC cC xs n x y hr HPt.out x0 (by omega) y0 (by omega))
  have gB1 : gainB false = fun p q => p * q := by funext p q; rfl
  have gB2 : gainB true = min := by funext p q; rfl
  rw [gB1] at SP
  rw [gB2] at SL
  clear gB1 gB2
  generalize greatR xs x y n (fun p q => p * q) = j1 at *
  generalize greatR xs x y n min = j2 at *
  generalize someB xs x y n = bb at *
  have HB : Hid (Below v0.heap.size v0 v0) := Below.refl _ _
  go_wp2_with fail
  refine L1.out.mono ?_
  rintro e w1 ⟨rfl, rfl⟩
  go_wp2_with fail
  refine L2.out.mono ?_
  rintro e w1 ⟨rfl, rfl⟩
  clear L1 L2 RM0 HM8
  go_wp2_with fail
  refine (LP.out v0 RC0.out).mono ?_
  rintro e w1 ⟨rfl, b1⟩
  replace RC0 := Lib.hid (RC0.out.to b1)
  replace HB := Lib.hid (below_then HB.out b1)
  clear b1 LP
  go_wp2_with fail
  refine (LL.out w1 RC0.out).mono ?_
  rintro e w2 ⟨rfl, b2⟩
  replace RC0 := Lib.hid (RC0.out.to b2)
  replace HB := Lib.hid (below_then HB.out b2)
  clear b2 LL
  go_wp2_with fail
  refine (LR.out w2 RC0.out).mono ?_
  rintro e w3 ⟨aG, cG, rfl, rG, b3⟩
  have RG0 := Lib.hid rG
  replace RC0 := Lib.hid (RC0.out.to b3)
  replace HB := Lib.hid (below_then HB.out b3)
  clear b3 LR rG
  go_wp2_with fail
  refine (LM.out w3 RC0.out).mono ?_
  rintro e w4 ⟨uw, vw, rfl, hT, b4⟩
  have HTb := Lib.hid hT
  replace RC0 := Lib.hid (RC0.out.to b4)
  replace RG0 := Lib.hid (RG0.out.to b4)
  replace HB := Lib.hid (below_then HB.out b4)
  clear b4 LM hT
  go_wp2_with fail
  refine (SP.out w4 RC0.out).mono ?_
  rintro e w5 ⟨rfl, rfl⟩
  go_wp2_with fail
  refine (SL.out w4 RC0.out).mono ?_
  rintro e w5 ⟨rfl, rfl⟩
  have HWe := Lib.hid (below_then HW0.out HB.out)
  clear SP SL
  go_upto_region 16 with fail
  refine baC w w4 x y n uw vw xs aC cC bb j1 j2 aG cG HWe RC0 HPt hx7 hy7 HTb RG0 _ ?hk
  case hk => assumption
end Go.Proofs.Ytkapjlkeohjjbaa
namespace Go.Proofs.Ytkapjlkeohjjbaa
set_option linter.unusedVariables false
set_option linter.unusedSimpArgs false
open Go.RowKit

theorem append_two {P : Program} (wr : World) {ops : Array Oper} {rest : List Oper} {o : Oper} {a : Act} {Q : Exit → Act → World → Prop}
    (hg : o.guard = none) (s x : Operand) (t : TypeId) (hop : o.op = Op.call { callee := Callee.builtin Builtin.append, args := #[s, x], argTypes := #[t, t] })
    (base : Nat) (e : TypeId) (z : Value) (bytes : Nat) (h1 : P.underlying t = some (.slice e)) (hinfo : (P.info? e).map (fun i => (i.zero, i.size, i.bytes)) = some (some z, 1, bytes)) (hz : z.cells.size = 1)
    (v : Value) (n : Nat) (xs : List Value) (hs : a.eval s = v) (hown : wr.ownsRow base e 1 v n xs) (y y2 : Value) (hy : y.oneCell' = true) (hy2 : y2.oneCell' = true)
    (hx : a.eval x = .slice (some ⟨wr.heap.size, 0, none⟩) 2 2) (hb : bytes ≤ 64) (hn : n ≤ 1048576) (hbase : base ≤ wr.heap.size)
    (hK : ∀ v' w', w'.ownsRow base e 1 v' (n + 2) (xs ++ [y, y2]) → wr.grownBy w' v.ownBlock → wpList P ops Q rest (a.put o.dst v') w') :
    wpList P ops Q (o :: rest) a (wr.alloc (.cells #[y, y2] e)) := by
  obtain ⟨i, h2, h3, h4, h5⟩ := info_parts hinfo
  have hbb : (n + 2) * bytes ≤ 140737488355328 := Nat.le_trans (Nat.mul_le_mul_left (n + 2) hb) (by omega)
  refine wpList_append_own (wr.alloc (.cells #[y, y2] e)) hg s x t hop base e i z 1 bytes h1 h2 h3 h4 h5 hz (by omega) v n xs hs (hown.alloc _) ⟨wr.heap.size, 0, none⟩ 2 2 [y, y2] hx rfl ?_ ?_ (by unfold maxLen; omega) hbb (by simp; omega) ?_
  · intro j u hj
    match j, hj with
    | 0, hj =>
      simp at hj
      subst hj
      simp [Addr.add]
    | 1, hj =>
      simp at hj
      subst hj
      simp [Addr.add]
    | j + 2, hj => simp at hj
  · intro u hu
    simp at hu
    rcases hu with rfl | rfl
    · exact hy
    · exact hy2
  · intro v' w' ho hgr _
    refine hK v' w' ho ⟨hgr.os, hgr.tape, hgr.output, ?_, fun k hk hne => ?_⟩
    · have := hgr.size; simp at this; omega
    · rw [hgr.block k (by simp; omega) hne]
      exact Below.heap_alloc _ _ _ hk
set_option maxRecDepth 10000 in
set_option maxHeartbeats 16000000 in
theorem law_Bargains (w : World) (ac am : Option Addr) (cc cm : Nat) (cs ms : List Int) (hc : Rd w w.heap.size ac (byts cs)) (hm : Rd w w.heap.size am (byts ms)) (lc : cs.length ≤ 9223372036854775807) (lm : ms.length ≤ 9223372036854775807) (bc : ∀ x ∈ cs, 0 ≤ x ∧ x ≤ 255) (bm : ∀ x ∈ ms, 0 ≤ x ∧ x ≤ 255) :
    Calls Try.prog 3 #[.slice ac cs.length cc, .slice am ms.length cm] w fun e w' => e = .returned (.bool true) ∧ Below w.heap.size w w' := by
  have LL := Lib.hid (b10Long_any w ac am cc cm cs ms lc lm)
  cases hlong : longB cs ms with
  | true =>
    rw [hlong] at LL
    clear hlong hc hm bc bm
    go_enter Try.func3, Try.ntmps3
    go_wp2_with fail
    refine LL.out.mono ?_
    rintro e w' ⟨rfl, rfl⟩
    go_wp2_with fail
    go_ret
    exact ⟨rfl, Below.refl _ _⟩
  | false =>
  rw [hlong] at LL
  have hlc : cs.length ≤ 1048576 ∧ ms.length ≤ 1048576 := by
    simp only [longB, Bool.or_eq_false_iff, decide_eq_false_iff_not] at hlong
    omega
  obtain ⟨hlc, hlm⟩ := hlc
  have RM := Lib.hid hm
  have HM8 := Lib.hid bm
  have LC := Lib.hid (fun (v : World) (hb : Below w.heap.size w v) (i : Int) (hi : 0 ≤ i) (hi2 : i ≤ 1000000) => b10At_any v ac cc cs i 20 (hc.to hb) hlc bc hi hi2)
  have L0 := Lib.hid (fun v hb => b10At_any v am cm ms 0 8 (hm.to hb) hlm bm (by omega) (by omega))
  have e0 := atF_bd (xs := ms) (i := 0) (n := 8) (by omega)
  obtain ⟨n, hn⟩ : ∃ n : Nat, 1 + atF ms 0 8 = (n : Int) := ⟨(1 + atF ms 0 8).toNat, by omega⟩
  have hA0 : atF ms 0 8 = (n : Int) - 1 := by omega
  rw [hA0] at L0
  have n1 : 1 ≤ n := by omega
  have n8 : n ≤ 8 := by omega
  clear hlong hc hm bc bm e0 hn hA0 lc lm
  have en : (1 : Int) + ((n : Int) - 1) = n := by omega
  go_enter Try.func3, Try.ntmps3
  go_wp2_with fail
  refine LL.out.mono ?_
  rintro e w' ⟨rfl, rfl⟩
  go_wp2_with fail
  go_loopw [6, 5] (fun iv xv wr => ∃ (k : Nat) (v : Value) (xs : List Int), k ≤ n ∧ iv = .int .i64 k ∧ xv = v ∧ Hid (xs.length = 2 * k) ∧ Hid (∀ x ∈ xs, 0 ≤ x ∧ x ≤ 19) ∧ Hid (wr.ownsRow w.heap.size 2 1 v (2 * k) (ints xs)) ∧ Hid (Below w.heap.size w wr)) (fun iv _ _ => n - (intOf iv).toNat)
  case atStart => exact ⟨0, _, [], Nat.zero_le _, rfl, rfl, rfl, fun x hx => by simp at hx, own_empty w _, bl1 w _⟩
  case round =>
    obtain ⟨k, v, xs, hk, rfl, rfl, hxl, hx19, ho, hw⟩ := hrel
    have k0 : (0 : Int) ≤ (k : Int) := Int.natCast_nonneg _
    have L0k := Lib.hid (L0.out wr hw.out)
    have hsw := hw.out.size
    by_cases hlt : k < n
    case neg =>
      obtain rfl : k = n := by omega
      clear hlt
      have HPt : Hid (Pts xs k) := ⟨hxl.out, n1, n8, hx19.out⟩
      obtain ⟨aC, cC, eC, hcap, _⟩ := own_shape ho.out
      subst eC
      have RC := Lib.hid (rd_of_own ho.out (Nat.le_refl _))
      have RM1 := Lib.hid (RM.out.to hw.out)
      have hxl2 := hxl.out
      clear LC L0 ho RM LL hx19 hxl hcap
      go_wp2_with fail
      refine L0k.out.mono ?_
      rintro en w' ⟨rfl, rfl⟩
      try rw [en]
      go_upto_region 8 with fail
      rw [← hxl2]
      refine baB w wr k xs ms aC am cC cm hw RC HPt RM1 HM8 hlm _ ?hk
      case hk => assumption
    have LC1 := Lib.hid (LC.out wr hw.out (2 * (k : Int)) (by omega) (by omega))
    have LC2 := Lib.hid (LC.out wr hw.out (2 * (k : Int) + 1) (by omega) (by omega))
    have ex := atF_bd (xs := cs) (i := 2 * (k : Int)) (n := 20) (by omega)
    have ey := atF_bd (xs := cs) (i := 2 * (k : Int) + 1) (n := 20) (by omega)
    generalize atF cs (2 * (k : Int)) 20 = x at *
    generalize atF cs (2 * (k : Int) + 1) 20 = y at *
    have HO := Lib.hid ho.out
    have hx2 : Hid (∀ z ∈ xs ++ [x, y], 0 ≤ z ∧ z ≤ 19) := fun z hz => by
      rcases List.mem_append.1 hz with h | h
      · exact hx19.out z h
      · rcases List.mem_cons.1 h with rfl | h
        · omega
        · rw [List.mem_singleton] at h; omega
    have hl2 : Hid ((xs ++ [x, y]).length = 2 * (k + 1)) := by rw [Hid, List.length_append, hxl.out]; rfl
    clear ho LC L0 RM LL ex ey hx19 hxl
    have hki : (k : Int) < (n : Int) := by omega
    go_wp2_with fail
    refine L0k.out.mono ?_
    rintro en w' ⟨rfl, rfl⟩
    try rw [en]
    go_wp2_with fail
    refine LC1.out.mono ?_
    rintro en w' ⟨rfl, rfl⟩
    go_wp2_with fail
    refine LC2.out.mono ?_
    rintro en w' ⟨rfl, rfl⟩
    go_wp2_with (at_builtin; refine append_two _ rfl _ _ 24 rfl w.heap.size 2 (.int .i64 0) 8 Try.underlying24 info_i64p rfl _ (2 * k) _ rfl HO.out (.int .i64 x) (.int .i64 y) rfl rfl rfl (by omega) (by omega) hsw ?_)
    intro v8 w8 o8 g8
    have B8 := Lib.hid (below_append hw.out HO.out g8 (Nat.le_refl _) hsw)
    have H8 : Hid (w8.ownsRow w.heap.size 2 1 v8 (2 * (k + 1)) (ints (xs ++ [x, y]))) := by rw [ints_append]; exact o8
    clear o8 g8 HO
    go_wp2_with fail
    go_roundw
    case rel => exact ⟨k + 1, v8, xs ++ [x, y], by omega, by go_num, rfl, hl2, hx2, H8, B8⟩
    case measure => simp [intOf]; omega
end Go.Proofs.Ytkapjlkeohjjbaa
