/-
  Part 7 of what the proof stands on: lemmas and contracts, each with its conditions ahead of the colon.
-/
import Derived.Deep.RegionHeld3
import Derived.Deep.DeepCutAuto
import Derived.Deep.CutBlock
import Derived.WalkLawsBesides
import Derived.Lib.SliceRun
import Derived.Test.YtkapjlkeohjjbaaPk01
import Derived.Test.YtkapjlkeohjjbaaPk06
namespace Go.Proofs.Ytkapjlkeohjjbaa
set_option linter.unusedVariables false
set_option linter.unusedSimpArgs false
open Go.RowKit

set_option maxRecDepth 100000 in
set_option maxHeartbeats 32000000 in
theorem baC (w v0 : World) (x y n uw vw : Nat) (xs : List Int) (aC : Option Addr) (cC : Nat) (bb : Bool) (j1 j2 : Int) (aG : Option Addr) (cG : Nat) (HW0 : Hid (Below w.heap.size w v0)) (RC0 : Hid (Rd v0 v0.heap.size aC (ints xs))) (HPt : Hid (Pts xs n)) (hx7 : x ≤ 7) (hy7 : y ≤ 7) (HTb : Hid (bb = true → Told x y uw vw (mixR xs x y n))) (RG0 : Hid (Rd v0 v0.heap.size aG (ints (rimF xs n)))) (K : Act → World → Prop) (hK : ∀ (a : Act) (v : World), Code.wp Try.prog (((Try.f3).body.bind (restAt 16)).getD .skip) (bodyPost Try.prog Try.f3 fun e w' => e = .returned (.bool true) ∧ Below w.heap.size w w') a v → K a v)
    {z0 z1 z2 z3 z4 z6 z22 z23 z24 z25 z26 z27 z28 z29 z30 z31 z32 z33 z34 z35 z36 z37 z38 z39 z40 z41 z42 z43 z44 z45 z46 z47 z48 z49 z50 z51 z52 z53 z54 z55 z56 z57 z58 z59 z60 z61 z62 z63 z64 z65 z66 z67 z68 z69 z70 z71 z72 z73 z74 z75 z76 z77 z78 z79 z80 z81 z82 z83 z84 z85 z86 z87 z88 z89 z90 z91 z92 z93 z94 z95 z96 z97 z98 z99 z100 z101 z102 z103 z104 z105 z106 z107 z108 z109 z110 z111 z112 z113 z114 z115 z116 z117 z118 z119 z120 z121 z122 z123 z124 z125 z126 z127 z128 z129 z130 z131 z132 z133 z134 z135 z136 z137 z138 z139 z140 z141 z142 z143 z144 z145 z146 z147 z148 z149 z150 z151 z152 z153 z154 z155 z156 z157 z158 z159 z160 z161 z162 z163 z164 z165 z166 z167 z168 z169 z170 z171 z172 z173 z174 z175 z176 z177 z178 z179 z180 z181 z182 z183 z184 z185 z186 z187 z188 z189 z190 z191 z192 z193 z194 z195 z196 z197 z198 z199 z200 z201 z202 z203 z204 z205 z206 z207 z208 z209 z210 z211 z212 z213 z214 z215 z216 z217 z218 z219 z220 z221 z222 z223 z224 z225 z226 z227 z228 z229 z230 z231 z232 z233 z234 z235 z236 z237 z238 : Value} :
    Code.wp Try.prog (((Try.f3).body.bind (regAt 16)).getD .skip) (Exit.then K (bodyPost Try.prog Try.f3 fun e w' => e = .returned (.bool true) ∧ Below w.heap.size w w')) ⟨#[z0, z1, z2, z3, z4, .slice aC xs.length cC, z6, .int .i64 x, .int .i64 y, .int .i64 j1, .bool bb, .int .i64 j2, .bool bb, .slice aG (rimF xs n).length cG, .bool true, .float .f32 uw, .float .f32 vw, .bool bb, .int .i64 j1, .bool bb, .int .i64 j2, .bool bb, z22, z23, z24, z25, z26, z27, z28, z29, z30, z31, z32, z33, z34, z35, z36, z37, z38, z39, z40, z41, z42, z43, z44, z45, z46, z47, z48, z49, z50, z51, z52, z53, z54, z55, z56, z57, z58, z59, z60, z61, z62, z63, z64, z65, z66, z67, z68, z69, z70, z71, z72, z73, z74, z75, z76, z77, z78, z79, z80, z81, z82, z83, z84, z85, z86, z87, z88, z89, z90, z91, z92, z93, z94, z95, z96, z97, z98, z99, z100, z101, z102, z103, z104, z105, z106, z107, z108, z109, z110, z111, z112, z113, z114, z115, z116, z117, z118, z119, z120, z121, z122, z123, z124, z125, z126, z127, z128, z129, z130, z131, z132, z133, z134, z135, z136, z137, z138, z139, z140, z141, z142, z143, z144, z145, z146, z147, z148, z149, z150, z151, z152, z153, z154, z155, z156, z157, z158, z159, z160, z161, z162, z163, z164, z165, z166, z167, z168, z169, z170, z171, z172, z173, z174, z175, z176, z177, z178, z179, z180, z181, z182, z183, z184, z185, z186, z187, z188, z189, z190, z191, z192, z193, z194, z195, z196, z197, z198, z199, z200, z201, z202, z203, z204, z205, z206, z207, z208, z209, z210, z211, z212, z213, z214, z215, z216, z217, z218, z219, z220, z221, z222, z223, z224, z225, z226, z227, z228, z229, z230, z231, z232, z233, z234, z235, z236, z237, z238], []⟩ v0 := by
  obtain ⟨cr, hcr⟩ : ∃ c, c = (((Try.f3).body.bind (restAt 16)).getD .skip) := ⟨_, rfl⟩
  rw [← hcr] at hK
  conv at hcr => rhs; whnf
  subst hcr
  conv => arg 2; whnf

  have hn8 := HPt.out.few
  have hrl := rimF_len xs n
  have SR := Lib.hid (rimR_any v0 aC cC xs n RC0.out HPt.out)
  generalize rimF xs n = rim at *
  go_wp2_with fail
  refine SR.out.mono ?_
  rintro e w1 ⟨aH, cH, rfl, rH, b5⟩
  have RH0 := Lib.hid rH
  replace RC0 := Lib.hid (RC0.out.to b5)
  replace RG0 := Lib.hid (RG0.out.to b5)
  replace HW0 := Lib.hid (below_then HW0.out b5)
  clear b5 SR rH
  have LI := Lib.hid (isBargain_any w1 aC cC xs n RC0.out HPt.out)
  have LB := Lib.hid (b10Ints_any w1 aG aH cG cH rim RG0.out RH0.out (by omega))
  have nb : (bb != bb) = false := by simp
  have n1 : (j1 != j1) = false := by simp
  have n2 : (j2 != j2) = false := by simp
  cases hb : bb with
  | false =>
    subst hb
    clear HTb RG0 RH0 RC0 HPt
    go_wp2_with fail
    refine LI.out.mono ?_
    rintro e w2 ⟨rfl, rfl⟩
    go_wp2_with fail
    refine LB.out.mono ?_
    rintro e w2 ⟨rfl, m1, rfl⟩
    have HBe := Lib.hid (below_then HW0.out (drewN_below w1 m1))
    go_wp2_with fail
    go_ret
    exact ⟨rfl, HBe.out⟩
  | true =>
    subst hb
    have HT := Lib.hid (HTb.out rfl)
    clear HTb
    go_wp2_with fail
    refine LI.out.mono ?_
    rintro e w2 ⟨rfl, rfl⟩
    go_wp2_with fail
    refine LB.out.mono ?_
    rintro e w2 ⟨rfl, m1, rfl⟩
    have HWe := Lib.hid (below_then HW0.out (drewN_below w1 m1))
    have RCe := Lib.hid (RC0.out.to (drewN_below w1 m1))
    clear RG0 RH0 LI LB
    go_upto_region 23 with fail
    refine baD w (w1.drewN m1) x y n uw vw xs aC cC HWe RCe HPt hx7 hy7 HT _ ?hk
    case hk => assumption
end Go.Proofs.Ytkapjlkeohjjbaa
namespace Go.Proofs.Ytkapjlkeohjjbaa
set_option linter.unusedVariables false
set_option linter.unusedSimpArgs false
open Go.RowKit

theorem blk_setCells {b : Nat} {t : TypeId} : ∀ (vs : List Value) (o : Nat) (w : World) (cs : List Value), Blk w b cs t → ∃ cs', Blk (w.setCells b o vs) b cs' t ∧ cs'.length = cs.length ∧ ∀ j, j < o → cs'[j]? = cs[j]?
  | [], o, w, cs, h => ⟨cs, h, rfl, fun _ _ => rfl⟩
  | v :: vs, o, w, cs, h => by
    obtain ⟨cs', h1, h2, h3⟩ := blk_setCells vs (o + 1) (w.setCell ⟨b, o, none⟩ v) _ (h.set o v)
    refine ⟨cs', h1, by rw [h2, List.length_set], fun j hj => ?_⟩
    rw [h3 j (by omega), List.getElem?_set_ne (by omega)]
theorem grown_setCells {b : Nat} : ∀ (vs : List Value) (o : Nat) (w : World), w.grownBy (w.setCells b o vs) (some b)
  | [], o, w => ⟨rfl, rfl, rfl, Nat.le_refl _, fun _ _ _ => rfl⟩
  | v :: vs, o, w => grown_of_grown (⟨rfl, rfl, rfl, by simp, fun i _ hi => Below.heap_setCell _ _ _ _ (fun e => hi (by simp [e]))⟩ : w.grownBy (w.setCell ⟨b, o, none⟩ v) (some b)) (grown_setCells vs (o + 1) (w.setCell ⟨b, o, none⟩ v))
/-- What a test leaves. -/
def keepF (P : Int → Bool) (m : List Int) : List Int := m.filter fun x => !P x
theorem keepF_snoc {P : Int → Bool} {m : List Int} {k : Nat} {x : Int} (hx : m[k]? = some x) : keepF P (m.take (k + 1)) = if P x = true then keepF P (m.take k) else keepF P (m.take k) ++ [x] := by
  unfold keepF
  rw [List.take_add_one, hx, List.filter_append]
  by_cases h : P x = true
  · rw [if_pos h]; simp [h]
  · rw [if_neg h]; simp [h]
theorem keepF_all {P : Int → Bool} {m : List Int} (h : ∀ j, j < m.length → P (m.getD j 0) = false) : keepF P m = m := by
  unfold keepF
  rw [List.filter_eq_self]
  intro x hx
  obtain ⟨j, hj, rfl⟩ := List.getElem_of_mem hx
  have := h j hj
  rw [List.getD, List.getElem?_eq_getElem hj] at this
  simp only [Option.getD_some] at this
  simp [this]
theorem keepF_pre {P : Int → Bool} {m : List Int} {k : Nat} (hk : k ≤ m.length) (h : ∀ j, j < k → P (m.getD j 0) = false) : keepF P (m.take k) = m.take k :=
  keepF_all fun j hj => by
    simp only [List.length_take] at hj
    have h2 := h j (by omega)
    have e : (m.take k).getD j 0 = m.getD j 0 := by simp [List.getD, List.getElem?_take, show j < k by omega]
    rw [e]; exact h2
set_option maxRecDepth 10000 in
set_option maxHeartbeats 4000000 in
theorem deleteFunc_I (K : Nat) (caps : Array Value) (hen : ∀ (args : Array Value) (w : World), (callFunc K args).run Try.prog w = .ok (.enter K args) w) (P : Int → Bool) (w : World) (g c : Nat) (m : List Int) (tl : List Value) (h : Blk w g (ints m ++ tl) 2) (hc : m.length ≤ c) (hl : m.length ≤ 1048576)
    (hcall : ∀ w' x, Below g w w' → x ∈ m → Calls Try.prog K (#[.int .i64 x] ++ caps) w' fun e w'' => e = .returned (.bool (P x)) ∧ Below w'.heap.size w' w'') :
    Calls Try.prog 32 #[.slice (some ⟨g, 0, none⟩) m.length c, .func (.func K) #[] caps] w fun e w' => e = .returned (.slice (some ⟨g, 0, none⟩) (keepF P m).length c) ∧ Rd w' w'.heap.size (some ⟨g, 0, none⟩) (ints (keepF P m)) ∧ Below g w w' := by
  have hrd : Rd w w.heap.size (some ⟨g, 0, none⟩) (ints m) := .inr ⟨g, 0, rfl, h.lt, fun j hj => by rw [Nat.zero_add, h.cell, List.getElem?_append_left hj]⟩
  have hltg := h.lt
  have LI := Lib.hid (indexFunc_I K caps hen w (some ⟨g, 0, none⟩) c (ints m) (fun j => P (m.getD j 0)) hrd (by simp; omega) (fun w' j v hb hj => by
    have hj' : j < m.length := by have := (List.getElem?_eq_some_iff.1 hj).1; simpa using this
    have hm := List.mem_of_getElem? (get_of_lt hj')
    rw [ints_get _ _ hj'] at hj
    injection hj with hj
    subst hj
    exact hcall w' (m.getD j 0) (hb.mono (by omega)) hm))
  have HC := Lib.hid hcall
  clear hcall hltg
  simp only [ints_length] at LI
  have HK := Lib.hid h
  have hlt := h.lt
  clear h hrd
  rcases findI_spec (fun j => P (m.getD j 0)) m.length with ⟨k0, hk0, hp, hbef, e1⟩ | ⟨hall, e1⟩
  case inr =>
    have hw := keepF_all hall
    rw [e1] at LI
    rw [hw]
    clear hall e1 hw
    go_enter Try.func32, Try.ntmps32
    go_wp2_with fail
    refine LI.out.mono ?_
    rintro e w1 ⟨rfl, hb1⟩
    have k1 := HK.out.same hb1
    go_wp2_with fail
    go_ret
    exact ⟨rfl, rd_app k1 k1.lt, hb1.mono (by omega)⟩
  case inl =>
    rw [e1] at LI
    have hpre := keepF_pre (m := m) (k := k0) (by omega) hbef
    have hx0 : m[k0]? = some (m.getD k0 0) := get_of_lt hk0
    have hw1 := keepF_snoc (P := P) hx0
    rw [if_pos hp, hpre] at hw1
    have HW1 : Hid (keepF P (m.take (k0 + 1)) = m.take k0) := hw1
    have hpl : (m.take k0).length = k0 := by simp; omega
    have HPL := Lib.hid hpl
    have hz : ∀ w : World, (zeroValue 2).run Try.prog w = .ok (.int .i64 0) w := fun _ => by kernel_rfl
    have hne1 : ((k0 : Int) == -1) = false := beq_eq_false_iff_ne.2 (by omega)
    clear hpre hx0 hw1 hp hbef e1 hpl
    go_enter Try.func32, Try.ntmps32
    go_wp2_with fail
    refine LI.out.mono ?_
    rintro e w1 ⟨rfl, hb1⟩
    have k1 := Lib.hid (HK.out.same hb1)
    have B1 := hb1.mono (show g ≤ w.heap.size by omega)
    have hg1 : g < w1.heap.size := k1.out.lt
    clear hb1 HK LI
    go_wp2_with fail
    go_loopw [5, 6, 7] (fun iv jv _ wr => ∃ (i j : Nat) (ds : List Int), iv = .int .i64 i ∧ jv = .int .i64 j ∧ i < j ∧ j ≤ m.length ∧ ds.length = m.length ∧ Hid (ds.take i = keepF P (m.take j)) ∧ Hid (∀ t, j ≤ t → ds[t]? = m[t]?) ∧ Hid (Blk wr g (ints ds ++ tl) 2) ∧ Below g w wr) (fun _ jv _ _ => m.length - (intOf jv).toNat)
    case atStart => exact ⟨k0, k0 + 1, m, rfl, by go_num, by omega, by omega, rfl, HW1.out.symm, fun _ _ => rfl, k1.out, B1⟩
    case round =>
      clear k1 B1 hg1
      obtain ⟨i, j, ds, rfl, rfl, hij, hj, hdl, htk, hrest, hK, hB⟩ := hrel
      by_cases hlt' : j < m.length
      · have hx : m[j]? = some (m.getD j 0) := get_of_lt hlt'
        have hd : ds[j]? = some (m.getD j 0) := by rw [hrest.out j (Nat.le_refl _), hx]
        have cj : wr.cell? ⟨g, j, none⟩ = some (.int .i64 (m.getD j 0)) := by
          rw [cell_app hK.out (by omega), getD_of_get hd]
        have ci : wr.cell? ⟨g, i, none⟩ = some (.int .i64 (ds.getD i 0)) := cell_app hK.out (by omega)
        have fi := hK.out.free i
        have hsn := keepF_snoc (P := P) hx
        have LN := Lib.hid (HC.out wr _ hB (List.mem_of_getElem? hx))
        generalize m.getD j 0 = x at *
        have j0 : (0 : Int) ≤ (j : Int) := Int.natCast_nonneg _
        have i0 : (0 : Int) ≤ (i : Int) := Int.natCast_nonneg _
        have j1 : (j : Int) < (m.length : Int) := by omega
        have i1 : (i : Int) < (m.length : Int) := by omega
        by_cases hx0 : P x = true
        · rw [if_pos hx0] at hsn
          have HT : Hid (ds.take i = keepF P (m.take (j + 1))) := by rw [Hid, htk.out, hsn]
          rw [hx0] at LN
          clear hx hd hsn
          go_wp2_with fail
          refine LN.out.mono ?_
          rintro e w2 ⟨rfl, hb2⟩
          have hB := hB.trans (hb2.mono (Nat.le_of_lt hK.out.lt))
          have hK := Lib.hid (hK.out.same hb2)
          clear cj ci fi hb2 LN
          go_wp2_with fail
          go_roundw
          case rel => exact ⟨i, j + 1, ds, rfl, by go_num, by omega, by omega, hdl, HT, fun t ht => hrest.out t (by omega), hK, hB⟩
          case measure => simp [intOf]; omega
        · rw [if_neg hx0] at hsn
          have HT : Hid ((ds.set i x).take (i + 1) = keepF P (m.take (j + 1))) := by
            rw [Hid, hsn, ← htk.out, List.take_add_one, List.take_set_of_le (Nat.le_refl _)]
            simp [show i < ds.length by omega]
          have HR : Hid (∀ t, j + 1 ≤ t → (ds.set i x)[t]? = m[t]?) := fun t ht => by
            rw [List.getElem?_set_ne (by omega)]; exact hrest.out t (by omega)
          rw [Bool.eq_false_iff.2 hx0] at LN
          have hdl2 : (ds.set i x).length = m.length := by simp [hdl]
          clear hx hd hsn ci fi
          go_wp2_with fail
          refine LN.out.mono ?_
          rintro e w2 ⟨rfl, hb2⟩
          have hB3 := hB.trans (hb2.mono (Nat.le_of_lt hK.out.lt))
          have hK3 := Lib.hid (hK.out.same hb2)
          have HK2 := Lib.hid (set_app hK3.out (j := i) (by omega) x)
          have HB2 := below_sto hB3 (g := g) (Nat.le_refl _) i (.int .i64 x)
          have ci : w2.cell? ⟨g, i, none⟩ = some (.int .i64 (ds.getD i 0)) := cell_app hK3.out (by omega)
          have fi := hK3.out.free i
          clear hb2 LN hB hK hK3 hB3 cj
          go_wp2_with fail
          go_roundw
          case rel => exact ⟨i + 1, j + 1, ds.set i x, by go_num, by go_num, by omega, by omega, hdl2, HT, HR, HK2, HB2⟩
          case measure => simp [intOf]; omega
      · have : j = m.length := by omega
        subst this
        have hcl : ∀ ty, (Builtin.clear_ #[24] ty #[.slice (some ⟨g, i, none⟩) (m.length - i) (c - i)]).run Try.prog wr = .ok (.tuple #[]) (wr.setCells g i (List.replicate (m.length - i) (.int .i64 0))) :=
          fun ty => Lib.run_clear_slice wr _ _ ty _ Try.underlying24 hz rfl rfl g i _ _ (by omega) (fun t ht => by rw [cell_app hK.out (j := i + t) (by omega)]; rfl) (fun t ht => hK.out.free _)
        have HRD : Hid ((keepF P m).length = i ∧ Rd (wr.setCells g i (List.replicate (m.length - i) (.int .i64 0))) (wr.setCells g i (List.replicate (m.length - i) (.int .i64 0))).heap.size (some ⟨g, 0, none⟩) (ints (keepF P m))) := by
          have ht := htk.out
          rw [List.take_length] at ht
          have hle : (keepF P m).length = i := by rw [← ht]; simp; omega
          refine ⟨hle, ?_⟩
          obtain ⟨cs', h1, h2, h3⟩ := blk_setCells (List.replicate (m.length - i) (.int .i64 0)) i wr _ hK.out
          refine .inr ⟨g, 0, rfl, h1.lt, fun q hq => ?_⟩
          rw [ints_length, hle] at hq
          rw [Nat.zero_add, h1.cell, h3 q hq, List.getElem?_append_left (by simp; omega), ← ht, ints_get _ _ (by omega), ints_get _ _ (by simp; omega)]
          simp [List.getD, List.getElem?_take, hq]
        have HB2 : Hid (Below g w (wr.setCells g i (List.replicate (m.length - i) (.int .i64 0)))) := hB.grown (grown_setCells _ _ _) (Nat.le_of_lt hK.out.lt) (fun k hk => by injection hk with hk; omega)
        clear hrest htk hK
        go_wp2_with fail
        go_ret
        exact ⟨by rw [HRD.out.1]; rfl, HRD.out.2, HB2.out⟩
end Go.Proofs.Ytkapjlkeohjjbaa
namespace Go.Proofs.Ytkapjlkeohjjbaa
set_option linter.unusedVariables false
set_option linter.unusedSimpArgs false
open Go.RowKit

theorem append_manyC {P : Program} (wr : World) {ops : Array Oper} {rest : List Oper} {o : Oper} {a : Act} {Q : Exit → Act → World → Prop}
    (hg : o.guard = none) (s x : Operand) (t : TypeId) (hop : o.op = Op.call { callee := Callee.builtin Builtin.append, args := #[s, x], argTypes := #[t, t] })
    (base : Nat) (e : TypeId) (z : Value) (bytes : Nat) (h1 : P.underlying t = some (.slice e)) (hinfo : (P.info? e).map (fun i => (i.zero, i.size, i.bytes)) = some (some z, 1, bytes)) (hz : z.cells.size = 1)
    (v : Value) (n : Nat) (xs : List Int) (hs : a.eval s = v) (hown : wr.ownsRow base e 1 v n (ints xs)) (b off m c : Nat) (ys : List Int) (hx : a.eval x = .slice (some ⟨b, off, none⟩) m c) (hm : ys.length = m)
    (hcell : ∀ j, j < m → wr.cell? ⟨b, off + j, none⟩ = some (.int .i64 (ys.getD j 0))) (hb : bytes ≤ 64) (hn : n + m ≤ 1099511627776) (hbase : base ≤ wr.heap.size)
    (hK : ∀ v' w', w'.ownsRow base e 1 v' (n + m) (ints (xs ++ ys)) → wr.grownBy w' v.ownBlock → wpList P ops Q rest (a.put o.dst v') w') :
    wpList P ops Q (o :: rest) a wr := by
  obtain ⟨i, h2, h3, h4, h5⟩ := info_parts hinfo
  have hbb : (n + m) * bytes ≤ 140737488355328 := Nat.le_trans (Nat.mul_le_mul_left (n + m) hb) (by omega)
  refine wpList_append_own wr hg s x t hop base e i z 1 bytes h1 h2 h3 h4 h5 hz (by omega) v n (ints xs) hs hown ⟨b, off, none⟩ m c (ints ys) hx (by simp; omega) ?_ ?_ (by unfold maxLen; omega) hbb hbase (fun v' w' ho hgr _ => hK v' w' (by rw [ints_append]; exact ho) hgr)
  · intro j u hj
    have hj' : j < m := by have := (List.getElem?_eq_some_iff.1 hj).1; simp at this; omega
    have ea : (⟨b, off, none⟩ : Addr).add j = ⟨b, off + j, none⟩ := by unfold Addr.add; split <;> simp_all
    rw [ea, hcell j hj', ← hj, ints_get _ _ (by omega)]
  · intro u hu
    obtain ⟨x, _, rfl⟩ := List.mem_map.1 hu
    rfl
theorem own_emptyC (w : World) (e : Nat) : (w.alloc (.cells #[] e)).ownsRow w.heap.size e 1 (.slice (some ⟨w.heap.size, 0, none⟩) 0 0) 0 (ints []) := own_empty w e
set_option maxRecDepth 10000 in
set_option maxHeartbeats 2000000 in
theorem clone_any (w : World) (a : Option Addr) (c : Nat) (xs : List Int) (h : Rd w w.heap.size a (ints xs)) (hl1 : 1 ≤ xs.length) (hl : xs.length ≤ 1048576) :
    Calls Try.prog 33 #[.slice a xs.length c] w fun e w' => ∃ a' c', e = .returned (.slice a' xs.length c') ∧ OwnI 2 w' w.heap.size w'.heap.size a' c' xs ∧ Below w.heap.size w w' := by
  obtain ⟨b, o, rfl, hb, hcell⟩ := h.at (k := 0) (by omega)
  clear h
  have hen := fun (w : World) (a : Option Addr) (n c : Nat) => Lib.run_eql_slice_nil (P := Try.prog) w 24 2 a n c 0 0 Try.underlying24
  go_enter Try.func33, Try.ntmps33
  go_wp2_with (at_builtin; refine append_manyC _ rfl _ _ 24 rfl w.heap.size 2 (.int .i64 0) 8 Try.underlying24 info_i64p rfl _ 0 [] rfl (own_emptyC w 2) b o xs.length c xs rfl rfl ?_ (by omega) (by omega) (by simp) ?_)
  · intro j hj
    rw [(bl1 w _).cell (p := ⟨b, o + j, none⟩) hb, hcell j hj]
  intro v1 w1 o1 g1
  have B1 := below_append (bl1 w (.cells #[] 2)) (own_emptyC w 2) g1 (Nat.le_refl _) (by simp)
  obtain ⟨a1, c1, rfl, _, _⟩ := own_shape o1
  have HR : Hid (OwnI 2 w1 w.heap.size w1.heap.size a1 c1 xs) := OwnI.of_own (by simpa using o1)
  clear o1 g1 hcell
  go_wp2_with fail
  go_ret
  exact ⟨_, _, by simp, HR.out, B1⟩
end Go.Proofs.Ytkapjlkeohjjbaa
