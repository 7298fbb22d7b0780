/-
  Part 15 of what the proof stands on: lemmas and contracts, each with its conditions ahead of the colon.
-/
import Derived.Deep.RegionHeld3
import Derived.Test.YtkbejmjkdnfemaaGreatDoorPk02
import Derived.Test.YtkbejmjkdnfemaaGreatDoorPk05
import Derived.Test.YtkbejmjkdnfemaaGreatDoorPk06
import Derived.Test.YtkbejmjkdnfemaaGreatDoorPk07
import Derived.Test.YtkbejmjkdnfemaaGreatDoorPk13
import Derived.Test.YtkbejmjkdnfemaaGreatDoorPk14
namespace Go.Proofs.YtkbejmjkdnfemaaGreatDoor
set_option linter.unusedVariables false
set_option linter.unusedSimpArgs false
open Go.RowKit

def crowdText (U R : Int) (x2 x3 : List Int) : Option (List UInt8) := if validB ⟨U, R, x2, x3⟩ then some (partsL [[U, R], x2, x3]) else none
theorem crowd_ok {U R : Int} {x2 x3 : List Int} (h : validB ⟨U, R, x2, x3⟩ = true) : ∀ x ∈ [[U, R], x2, x3], valOk x = true := by
  have v := valid_of h
  have v1 := v.u1; have v2 := v.u8; have v3 := v.r1; have v4 := v.r8; have v5 := v.w8; have v6 := v.way; have v7 := v.clen; have v8 := v.cost
  have hp := prod_bd v1 v2 v3 v4
  simp only at v1 v2 v3 v4 v5 v6 v7 v8 hp
  intro x hx
  simp only [List.mem_cons, List.not_mem_nil, or_false] at hx
  rcases hx with rfl | rfl | rfl
  · refine valOk_of (fun y hy => ?_) (by simp)
    simp only [List.mem_cons, List.not_mem_nil, or_false] at hy
    omega
  · exact valOk_of (fun y hy => by have := v6 y hy; omega) (by omega)
  · exact valOk_of (fun y hy => by have := v8 y hy; omega) (by omega)
set_option maxRecDepth 10000 in
set_option maxHeartbeats 4000000 in
theorem crowdText_any (w : World) (ht : Tab w) (U R : Int) (a2 : Option Addr) (c2 : Nat) (x2 : List Int) (a3 : Option Addr) (c3 : Nat) (x3 : List Int) (h : RdCrowd w w.heap.size a2 x2 a3 x3) (hl2 : x2.length ≤ 1048576) (hl3 : x3.length ≤ 1048576) :
    Calls Tryz.prog 14 #[.agg #[.int .i64 U, .int .i64 R, .slice a2 x2.length c2, .slice a3 x3.length c3]] w fun e w' => e = .returned (.tuple #[.string (bs ((crowdText U R x2 x3).getD [])), .bool (crowdText U R x2 x3).isSome]) ∧ Below w.heap.size w w' := by
  have LV := Lib.hid (fun v hb => validCrowd_any v U R a2 c2 x2 a3 c3 x3 (h.to hb) hl2 hl3)
  have B0 := bl1 w (.cells #[.int .i64 U, .int .i64 R, .slice a2 x2.length c2, .slice a3 x3.length c3] 30)
  have K0 := Blk.new w [.int .i64 U, .int .i64 R, .slice a2 x2.length c2, .slice a3 x3.length c3] 30
  cases t1 : validB ⟨U, R, x2, x3⟩ with
  | false =>
    have HF : Hid (crowdText U R x2 x3 = none) := by simp [Hid, crowdText, t1]
    rw [t1] at LV
    clear h t1
    go_enter Tryz.func14, Tryz.ntmps14
    go_wp2_with fail
    refine (LV.out _ B0).mono ?_
    rintro e w1 ⟨rfl, hb1⟩
    go_wp2_with fail
    go_ret2
    rw [HF.out]
    exact ⟨rfl, below_then B0 hb1⟩
  | true =>
    have HF : Hid (crowdText U R x2 x3 = some (partsL [[U, R], x2, x3])) := by simp [Hid, crowdText, t1]
    have HOK := Lib.hid (crowd_ok t1)
    rw [t1] at LV
    have HT := Lib.hid ht
    have HA := Lib.hid h
    clear h t1 ht
    go_enter Tryz.func14, Tryz.ntmps14
    go_wp2_with fail
    refine (LV.out _ B0).mono ?_
    rintro e w1 ⟨rfl, hb1⟩
    have B1 := below_then B0 hb1
    have K1 := K0.same hb1
    have k0 := K1.cell 0
    have k1 := K1.cell 1
    have k2 := K1.cell 2
    have k3 := K1.cell 3
    simp only [List.getElem?_cons_zero, List.getElem?_cons_succ] at k0 k1 k2 k3
    have HA1 := HA.out.to B1
    have HT1 := Lib.hid (HT.out.to B1)
    have q2 := (bl1 w1 (.cells #[.int .i64 U, .int .i64 R] 2)).cell (p := ⟨w.heap.size, 2, none⟩) K1.lt
    have q3 := (bl1 w1 (.cells #[.int .i64 U, .int .i64 R] 2)).cell (p := ⟨w.heap.size, 3, none⟩) K1.lt
    rw [k2] at q2
    rw [k3] at q3
    have HB := Lib.hid B1
    have hHA := Lib.hid HA1
    clear B1 K1 B0 K0 hb1 HA1 HT HA
    go_wp2_with fail
    have b2 := bl2 w1 (.cells #[.int .i64 U, .int .i64 R] 2) (.cells #[.slice (some ⟨w1.heap.size, 0, none⟩) 2 2, .slice a2 x2.length c2, .slice a3 x3.length c3] 24)
    obtain ⟨e1, e2⟩ := alloc2 w1 [.int .i64 U, .int .i64 R] [.slice (some ⟨w1.heap.size, 0, none⟩) 2 2, .slice a2 x2.length c2, .slice a3 x3.length c3] 2 24
    have hA2 := hHA.out.to b2
    refine (partsText_any _ (HT1.out.to b2) _ _ [[U, R], x2, x3] (rdP3 e2 e1 hA2.1 hA2.2) (by simp) HOK.out).mono ?_
    rintro e w2 ⟨rfl, hb2⟩
    have hB := below_then HB.out (below_then b2 hb2)
    clear b2 e1 e2 hA2 hb2
    go_wp2_with fail
    go_ret2
    rw [HF.out]
    exact ⟨rfl, hB⟩
end Go.Proofs.YtkbejmjkdnfemaaGreatDoor
namespace Go.Proofs.YtkbejmjkdnfemaaGreatDoor
set_option linter.unusedVariables false
set_option linter.unusedSimpArgs false
open Go.RowKit

theorem hexs_take {xs : List Nat} {k : Nat} {x : Nat} (hx : xs[k]? = some x) : (xs.take (k + 1)).map hexT = (xs.take k).map hexT ++ [hexT x] := by
  rw [List.take_add_one, hx]; simp
theorem Rd.getF {w : World} {B : Nat} {a : Option Addr} {xs : List Nat} (h : Rd w B a (flts xs)) {k : Nat} (hk : k < xs.length) :
    ∃ b o x, a = some ⟨b, o, none⟩ ∧ b < B ∧ w.cell? ⟨b, o + k, none⟩ = some (.float .f32 x) ∧ Hid (xs[k]? = some x) := by
  obtain ⟨b, o, ha, hb, hc⟩ := h.atF hk
  exact ⟨b, o, xs.getD k 0, ha, hb, hc k hk, by simp [Hid, List.getD, List.getElem?_eq_getElem hk]⟩
set_option maxRecDepth 10000 in
set_option maxHeartbeats 4000000 in
theorem numbersText_any (w : World) (hT : TabB w) (a : Option Addr) (c : Nat) (xs : List Nat) (h : Rd w w.heap.size a (flts xs)) (hx : ∀ x ∈ xs, x < 4294967296) (hl : xs.length ≤ 1048576) :
    Calls Tryz.prog 15 #[.slice a xs.length c] w (RetTx (if xs.length ≤ 256 then some (ntextL xs) else none) w) := by
  have HT := Lib.hid hT
  have HX := Lib.hid hx
  have HA := Lib.hid h
  clear h hx hT
  by_cases h256 : xs.length ≤ 256
  · rw [if_pos h256]
    have h256i : ¬ (256 : Int) < (xs.length : Int) := by omega
    go_enter Tryz.func15, Tryz.ntmps15
    go_wp2_with fail
    go_loopw [4, 13] (fun v iv wr => ∃ k : Nat, k ≤ xs.length ∧ iv = .int .i64 k ∧ Hid (wr.ownsRow w.heap.size 9 1 v k (strs ((xs.take k).map hexT))) ∧ Below w.heap.size w wr) (fun _ iv _ => xs.length - (intOf iv).toNat)
    case atStart => exact ⟨0, Nat.zero_le _, rfl, own_empty w _, bl1 _ _⟩
    case round =>
      obtain ⟨k, hk, rfl, hO, hw⟩ := hrel
      have hws := hw.size
      by_cases hlt : k < xs.length
      · obtain ⟨b, o, x, rfl, hbb, hck, hxk⟩ := (HA.out.to hw).getF hlt
        have LD := Lib.hid (hexOf_any wr (HT.out.to hw) x (HX.out x (List.mem_of_getElem? hxk.out)))
        have HN := Lib.hid (hexs_take hxk.out)
        go_wp2_with fail
        refine LD.out.mono ?_
        rintro e w1 ⟨rfl, hb1⟩
        have hO1 := own_below hO.out hb1
        have hw1 := hw.trans (hb1.mono hws)
        have hs1 := hw1.size
        have hk2 : k ≤ 1099511627776 := by omega
        clear hO hb1 hck hw
        go_wp2_with (at_builtin; refine wpList_append_one _ rfl _ _ 63 rfl w.heap.size 9 (.string ByteArray.empty) 16 Tryz.underlying63 info_str rfl _ k _ rfl hO1 (.string (bs (hexT x))) rfl rfl (by omega) hk2 hs1 ?_)
        intro v' w' ho hgr
        have hw2 := below_append hw1 hO1 hgr (Nat.le_refl _) hs1
        have HO2 : Hid (w'.ownsRow w.heap.size 9 1 v' (k + 1) (strs ((xs.take (k + 1)).map hexT))) := by
          rw [HN.out, strs_append, List.map_take]; exact ho
        clear ho hgr hO1 hw1
        go_wp2_with fail
        go_roundw
        case rel => exact ⟨k + 1, by omega, by go_num, HO2, hw2⟩
        case measure => first | (simp [intOf]; done) | (simp [intOf]; omega)
      · have : k = xs.length := by omega
        subst this
        rw [List.take_length] at hO
        obtain ⟨a', c', rfl, hc', _⟩ := own_shape hO.out
        have hrd := rd_of_own hO.out (Nat.le_refl _)
        have LJ := joined_any wr a' c' (xs.map hexT) hrd (by rw [List.length_map]; exact hc') (by rw [List.length_map]; exact hl) (by
          have := join_len (m := 8) (xs := xs.map hexT) (sep := [44]) (fun x hx => by
            obtain ⟨y, hy, rfl⟩ := List.mem_map.1 hx
            rw [hexT_len]; exact Nat.le_refl _)
          rw [List.length_map] at this
          simp at this; omega)
        rw [List.length_map] at LJ
        have HE : Hid ((if xs.map hexT = [] then [110, 111, 110, 101] else Lib.join (xs.map hexT) [44]) = ntextL xs) := by
          show _ = _
          unfold ntextL noneL
          cases xs <;> simp
        rw [HE.out] at LJ
        have LJ := Lib.hid LJ
        clear hO hrd
        go_wp2_with fail
        refine LJ.out.mono ?_
        rintro e w1 ⟨rfl, hb1⟩
        have hw2 := hw.trans (hb1.mono hws)
        clear hb1 hw
        go_wp2_with fail
        go_ret2
        exact ⟨hw2, rfl⟩
  · rw [if_neg h256]
    have h256i : (256 : Int) < (xs.length : Int) := by omega
    go_enter Tryz.func15, Tryz.ntmps15
    go_wp2_with fail
    go_ret2
    exact ⟨Below.refl _ _, rfl⟩
end Go.Proofs.YtkbejmjkdnfemaaGreatDoor
namespace Go.Proofs.YtkbejmjkdnfemaaGreatDoor
set_option linter.unusedVariables false
set_option linter.unusedSimpArgs false
open Go.RowKit

/-- What one row of some columns tells. -/
def rowL (C : Nat) (xs : List Int) (r : Nat) (cols : List Int) (j : Nat) : List Int := (cols.take j).map fun k => cellT C xs r k.toNat
theorem rowL_succ (C : Nat) (xs : List Int) (r : Nat) {cols : List Int} {j k : Nat} (h : cols[j]? = some (k : Int)) : rowL C xs r cols (j + 1) = rowL C xs r cols j ++ [cellT C xs r k] := by
  unfold rowL
  rw [List.take_add_one, h, Option.toList_some, List.map_append, List.map_singleton, Int.toNat_natCast]
theorem rowL_len (C : Nat) (xs : List Int) (r : Nat) (cols : List Int) (j : Nat) : (rowL C xs r cols j).length ≤ j := by
  unfold rowL
  rw [List.length_map, List.length_take]; omega
theorem ofL_take_len (C : Nat) (xs rows cols : List Int) (i : Nat) : (ofL C xs (rows.take i) cols).length ≤ i * cols.length := by
  rw [ofL_len, List.length_take]
  exact Nat.mul_le_mul (by omega) (Nat.le_refl _)
set_option maxRecDepth 10000 in
set_option maxHeartbeats 8000000 in
theorem gof_any (w : World) (R C : Nat) (aA : Option Addr) (cA : Nat) (xA : List Int) (aB : Option Addr) (cB : Nat) (xB : List Int) (aR : Option Addr) (cR : Nat) (rows : List Int) (aK : Option Addr) (cK : Nat) (cols : List Int) (hRw : Rd w w.heap.size aR (ints rows)) (hCl : Rd w w.heap.size aK (ints cols)) (hrw : ∀ z ∈ rows, ∃ j : Nat, z = (j : Int) ∧ j < R) (hcl : ∀ z ∈ cols, ∃ j : Nat, z = (j : Int) ∧ j < C) (nR : rows.length ≤ 6) (nC : cols.length ≤ 6) (hA : Rd w w.heap.size aA (ints xA)) (hB : Rd w w.heap.size aB (ints xB)) (lA : xA.length = R * C) (lB : xB.length = R * C) (hR : R ≤ 6) (hC : C ≤ 6) :
    Calls Tryz.prog 80 #[.agg #[.int .i64 R, .int .i64 C, .slice aA xA.length cA, .slice aB xB.length cB], .slice aR rows.length cR, .slice aK cols.length cK] w (RetG rows.length cols.length (ofL C xA rows cols) (ofL C xB rows cols) w) := by
  have LA := Lib.hid (fun v (hb : Below w.heap.size w v) (i k : Nat) (hi : i < R) (hk : k < C) => ga_any v R C i k aA cA xA (.slice aB xB.length cB) (hA.to hb) (by rw [lA]; exact cell_in hi hk) (by rw [lA]; exact Nat.le_trans (Nat.mul_le_mul hR hC) (by decide)))
  have LB := Lib.hid (fun v (hb : Below w.heap.size w v) (i k : Nat) (hi : i < R) (hk : k < C) => gb_any v R C i k (.slice aA xA.length cA) aB cB xB (hB.to hb) (by rw [lB]; exact cell_in hi hk) (by rw [lB]; exact Nat.le_trans (Nat.mul_le_mul hR hC) (by decide)))
  obtain ⟨row0, hrow⟩ : ∃ r, r = [Value.int .i64 R, .int .i64 C, .slice aA xA.length cA, .slice aB xB.length cB] := ⟨_, rfl⟩
  have KB := Blk.new w [.int .i64 R, .int .i64 C, .slice aA xA.length cA, .slice aB xB.length cB] 26
  have HRow := Lib.hid hrow
  have HRR := Lib.hid (fun v (hb : Below w.heap.size w v) => hRw.to hb)
  have HCC := Lib.hid (fun v (hb : Below w.heap.size w v) => hCl.to hb)
  have HRJ : Hid (∀ (i : Nat), i < rows.length → ∃ r : Nat, r < R ∧ rows[i]? = some (r : Int)) := fun i hi => by
    obtain ⟨j, e, hj⟩ := hrw _ (List.getElem_mem hi)
    exact ⟨j, hj, by rw [List.getElem?_eq_getElem hi, e]⟩
  have HCJ : Hid (∀ (i : Nat), i < cols.length → ∃ r : Nat, r < C ∧ cols[i]? = some (r : Int)) := fun i hi => by
    obtain ⟨j, e, hj⟩ := hcl _ (List.getElem_mem hi)
    exact ⟨j, hj, by rw [List.getElem?_eq_getElem hi, e]⟩
  have FL : Hid (∀ xs i, (ofL C xs (rows.take i) cols).length ≤ i * cols.length) := fun xs i => ofL_take_len C xs rows cols i
  have FR : Hid (∀ xs r j, (rowL C xs r cols j).length ≤ j) := fun xs r j => rowL_len C xs r cols j
  have FS : Hid (∀ xs r j (k : Nat), cols[j]? = some (k : Int) → rowL C xs r cols (j + 1) = rowL C xs r cols j ++ [cellT C xs r k]) := fun xs r j k h => rowL_succ C xs r h
  have FO : Hid (∀ xs i (r : Nat), rows[i]? = some (r : Int) → ofL C xs (rows.take (i + 1)) cols = ofL C xs (rows.take i) cols ++ rowL C xs r cols cols.length) := fun xs i r h => by
    rw [ofL_row C xs cols h]; unfold rowL; rw [List.take_length, Int.toNat_natCast]
  have F0 : Hid (∀ xs, ofL C xs (rows.take 0) cols = []) := fun xs => rfl
  have G0 : Hid (∀ xs r, rowL C xs r cols 0 = []) := fun xs r => rfl
  clear hA hB lA lB hRw hCl hrw hcl
  go_enter Tryz.func80, Tryz.ntmps80
  have HT0 : Hid (TG w (((w.alloc (.cells #[.int .i64 R, .int .i64 C, .slice aA xA.length cA, .slice aB xB.length cB] 26)).alloc (.cells #[.int .i64 0, .int .i64 0, .slice none 0 0, .slice none 0 0] 26)).alloc (.cells #[.int .i64 rows.length, .int .i64 cols.length, .slice none 0 0, .slice none 0 0] 26)) row0 (w.heap.size + 2) (w.heap.size + 3) rows.length cols.length none 0 [] none 0 []) := by
    have b1 := bl1 w (.cells #[.int .i64 R, .int .i64 C, .slice aA xA.length cA, .slice aB xB.length cB] 26)
    have e1 := Blk.new (w.alloc (.cells #[.int .i64 R, .int .i64 C, .slice aA xA.length cA, .slice aB xB.length cB] 26)) [.int .i64 0, .int .i64 0, .slice none 0 0, .slice none 0 0] 26
    have e2 := Blk.new ((w.alloc (.cells #[.int .i64 R, .int .i64 C, .slice aA xA.length cA, .slice aB xB.length cB] 26)).alloc (.cells #[.int .i64 0, .int .i64 0, .slice none 0 0, .slice none 0 0] 26)) [.int .i64 rows.length, .int .i64 cols.length, .slice none 0 0, .slice none 0 0] 26
    rw [World.size_alloc] at e1
    rw [World.size_alloc, World.size_alloc] at e2
    refine ⟨((b1.alloc (by simp) _).alloc (by simp; omega) _), ?_, e1.alloc _, e2, World.ownsRow_nil _ _ _ _, World.ownsRow_nil _ _ _ _, fun g h => by simp [Value.ownBlock] at h, by simp⟩
    rw [hrow]
    exact (KB.alloc _).alloc _
  clear hrow KB
  go_wp2_with fail
  go_loopw [19] (fun kv wr => ∃ (k : Nat) (a2 : Option Addr) (c2 : Nat) (a3 : Option Addr) (c3 : Nat) (l2 l3 : List Int), k ≤ rows.length ∧ kv = .int .i64 k ∧ Hid (l2 = ofL C xA (rows.take k) cols) ∧ Hid (l3 = ofL C xB (rows.take k) cols) ∧ Hid (TG w wr row0 (w.heap.size + 2) (w.heap.size + 3) rows.length cols.length a2 c2 l2 a3 c3 l3)) (fun kv _ => rows.length - (intOf kv).toNat)
  case atStart => exact ⟨0, none, 0, none, 0, [], [], Nat.zero_le _, rfl, (F0.out _).symm, (F0.out _).symm, HT0.out⟩
  case round =>
    clear HT0 F0
    obtain ⟨k, a2, c2, a3, c3, l2, l3, hk, rfl, h2, h3, hT⟩ := hrel
    have k0 : (0 : Int) ≤ (k : Int) := Int.natCast_nonneg _
    obtain ⟨wo, hwo⟩ : ∃ W : World, W = wr := ⟨_, rfl⟩
    subst hwo
    by_cases hlt : k < rows.length
    · have hki : (k : Int) < (rows.length : Int) := by omega
      obtain ⟨r, hrR, hrk⟩ := HRJ.out k hlt
      obtain ⟨b, o, x, rfl, hbb, hck, hx⟩ := (HRR.out wo hT.out.B).get hlt
      have hxr : x = (r : Int) := by
        have := hx.out
        rw [hrk] at this
        injection this with this
        exact this.symm
      rw [hxr] at hck
      have HO1 : Hid (∀ xs, ofL C xs (rows.take (k + 1)) cols = ofL C xs (rows.take k) cols ++ rowL C xs r cols cols.length) := fun xs => FO.out xs k r hrk
      have hz2 : l2 = l2 ++ rowL C xA r cols 0 := by rw [G0.out, List.append_nil]
      have hz3 : l3 = l3 ++ rowL C xB r cols 0 := by rw [G0.out, List.append_nil]
      have HZ2 := Lib.hid hz2
      have HZ3 := Lib.hid hz3
      have hn2 : l2.length ≤ 36 := by rw [h2.out]; have := FL.out xA k; have : k * cols.length ≤ 6 * 6 := Nat.mul_le_mul (by omega) nC; omega
      have hn3 : l3.length ≤ 36 := by rw [h3.out]; have := FL.out xB k; have : k * cols.length ≤ 6 * 6 := Nat.mul_le_mul (by omega) nC; omega
      clear hx hxr hrk hz2 hz3
      go_wp2_with fail
      clear hck
      go_loopw [25] (fun iv wr => ∃ (i : Nat) (a2 : Option Addr) (c2 : Nat) (a3 : Option Addr) (c3 : Nat) (m2 m3 : List Int), i ≤ cols.length ∧ iv = .int .i64 i ∧ Hid (m2 = l2 ++ rowL C xA r cols i) ∧ Hid (m3 = l3 ++ rowL C xB r cols i) ∧ Hid (TG w wr row0 (w.heap.size + 2) (w.heap.size + 3) rows.length cols.length a2 c2 m2 a3 c3 m3)) (fun iv _ => cols.length - (intOf iv).toNat)
      case atStart => exact ⟨0, a2, c2, a3, c3, l2, l3, Nat.zero_le _, rfl, HZ2.out, HZ3.out, hT.out⟩
      case round =>
        clear HZ2 HZ3 hT
        obtain ⟨i, a2, c2, a3, c3, m2, m3, hi, rfl, g2, g3, hT⟩ := hrel
        by_cases hil : i < cols.length
        · have hii : (i : Int) < (cols.length : Int) := by omega
          have i0 : (0 : Int) ≤ (i : Int) := Int.natCast_nonneg _
          obtain ⟨q, hqC, hqk⟩ := HCJ.out i hil
          obtain ⟨b, o, x, rfl, hbb, hck, hx⟩ := (HCC.out wr hT.out.B).get hil
          have hxq : x = (q : Int) := by
            have := hx.out
            rw [hqk] at this
            injection this with this
            exact this.symm
          rw [hxq] at hck
          have fs1 := FS.out xA r i q hqk
          have fs2 := FS.out xB r i q hqk
          have hn2 : m2.length ≤ 64 := by rw [g2.out, List.length_append]; have := FR.out xA r i; omega
          have hn3 : m3.length ≤ 64 := by rw [g3.out, List.length_append]; have := FR.out xB r i; omega
          clear hx hxq hqk
          obtain ⟨x, hx⟩ : ∃ x, x = cellT C xA r q := ⟨_, rfl⟩
          obtain ⟨y, hy⟩ : ∃ y, y = cellT C xB r q := ⟨_, rfl⟩
          have LA0 := LA.out wr.drew (below_drew' hT.out.B) r q hrR hqC
          rw [← hx] at LA0 fs1
          rw [← hy] at fs2
          have LA1 := Lib.hid LA0
          have H2n : Hid (m2 ++ [x] = l2 ++ rowL C xA r cols (i + 1)) := by rw [Hid, fs1, g2.out, List.append_assoc]
          have H3n : Hid (m3 ++ [y] = l3 ++ rowL C xB r cols (i + 1)) := by rw [Hid, fs2, g3.out, List.append_assoc]
          have HY := Lib.hid hy
          have hTs := hT.out.sz
          have HC : Hid (∀ w', Below (w.heap.size + 3) wr w' → (w'.cell? ⟨w.heap.size, 0, none⟩ = some (.int .i64 R) ∧ w'.cell? ⟨w.heap.size, 1, none⟩ = some (.int .i64 C) ∧ w'.cell? ⟨w.heap.size, 2, none⟩ = some (.slice aA xA.length cA) ∧ w'.cell? ⟨w.heap.size, 3, none⟩ = some (.slice aB xB.length cB)) ∧ w'.cell? ⟨w.heap.size + 2, 2, none⟩ = some (.slice a2 m2.length c2) ∧ w'.frozen? ⟨w.heap.size + 2, 2, none⟩ = false) := fun w' hb => by
            have kb := hT.out.KB.below hb (by omega)
            have ko := hT.out.KO.below hb (by omega)
            rw [HRow.out] at kb
            exact ⟨⟨kb.cell 0, kb.cell 1, kb.cell 2, kb.cell 3⟩, ko.cell 2, ko.free 2⟩
          have hOA := Lib.hid hT.out.A
          obtain ⟨⟨r0, r1, r2, r3⟩, d1, d2⟩ := HC.out wr (Below.refl _ _)
          obtain ⟨⟨r0', r1', r2', r3'⟩, d1', d2'⟩ := HC.out wr.drew (below_drew' (Below.refl _ _))
          clear fs1 fs2 hx hy g2 g3 LA0
          go_wp2_with fail
          go_region_law
            ((first
              | (go_simp; refine LA1.out.mono ?_; rintro e w6 ⟨rfl, hb6⟩; dsimp only; have hb7 : Below wr.heap.size wr w6 := below_then (below_drew' (Below.refl wr.heap.size wr)) hb6; have hOA6 := own_below hOA.out hb7; obtain ⟨_, f1, f2⟩ := HC.out w6 (hb7.mono hTs); obtain ⟨_, f3, f4⟩ := HC.out (w6.alloc (.cells #[.int .i64 x] 2)) ((hb7.mono hTs).alloc (Nat.le_trans hTs hb7.size) _))
              | (refine step_append_blk (wr := w6) (by rfl) _ _ 24 (by rfl) (w.heap.size + 3) 2 (.int .i64 0) 8 Tryz.underlying24 info_i64p (by rfl) _ m2.length (ints m2) (by rfl) hOA6 (.int .i64 x) rfl (by rfl) (by decide) (by omega) (Nat.le_trans hTs hb7.size) ?_; intro g8 c8 w8 ho8 hg8 hn8; have hb8 : Below (w.heap.size + 3) wr w8 := (hb7.mono hTs).trans (below_append (Below.refl (w.heap.size + 3) w6) hOA6 hg8 (Nat.le_refl _) (Nat.le_trans hTs hb7.size)); obtain ⟨_, f5, f6⟩ := HC.out w8 hb8)))
          all_goals
            have hT2 := Lib.hid ((hT.out.call (by omega) (by omega) hb7).snocA (x := x) (by omega) (by omega) ho8 hg8 hn8)
            clear hb6 hb7 hOA6 f1 f2 f3 f4 ho8 hg8 hn8 hb8 f5 f6 d1 d2 r0 r1 r2 r3 r0' r1' r2' r3' d1' d2' HC hOA LA1 hT
            obtain ⟨wz, hwz⟩ : ∃ W : World, W = w8.setCell ⟨w.heap.size + 2, 2, none⟩ (.slice (some ⟨g8, 0, none⟩) (m2.length + 1) c8) := ⟨_, rfl⟩
            rw [← hwz] at hT2
            have LB0 := LB.out wz.drew (below_drew' hT2.out.B) r q hrR hqC
            rw [← HY.out] at LB0
            have LB1 := Lib.hid LB0
            have hTs := hT2.out.sz
            have HC : Hid (∀ w', Below (w.heap.size + 3) wz w' → (w'.cell? ⟨w.heap.size, 0, none⟩ = some (.int .i64 R) ∧ w'.cell? ⟨w.heap.size, 1, none⟩ = some (.int .i64 C) ∧ w'.cell? ⟨w.heap.size, 2, none⟩ = some (.slice aA xA.length cA) ∧ w'.cell? ⟨w.heap.size, 3, none⟩ = some (.slice aB xB.length cB)) ∧ w'.cell? ⟨w.heap.size + 2, 3, none⟩ = some (.slice a3 m3.length c3) ∧ w'.frozen? ⟨w.heap.size + 2, 3, none⟩ = false) := fun w' hb => by
              have kb := hT2.out.KB.below hb (by omega)
              have ko := hT2.out.KO.below hb (by omega)
              rw [HRow.out] at kb
              exact ⟨⟨kb.cell 0, kb.cell 1, kb.cell 2, kb.cell 3⟩, ko.cell 3, ko.free 3⟩
            have hOA := Lib.hid hT2.out.C
            rw [← hwz]
            obtain ⟨⟨r0, r1, r2, r3⟩, d1, d2⟩ := HC.out wz (Below.refl _ _)
            obtain ⟨⟨r0', r1', r2', r3'⟩, d1', d2'⟩ := HC.out wz.drew (below_drew' (Below.refl _ _))
            clear hwz hck LB0
            go_wp2_with fail
            go_region_law
              ((first
                | (go_simp; refine LB1.out.mono ?_; rintro e w6 ⟨rfl, hb6⟩; dsimp only; have hb7 : Below wz.heap.size wz w6 := below_then (below_drew' (Below.refl wz.heap.size wz)) hb6; have hOA6 := own_below hOA.out hb7; obtain ⟨_, f1, f2⟩ := HC.out w6 (hb7.mono hTs); obtain ⟨_, f3, f4⟩ := HC.out (w6.alloc (.cells #[.int .i64 y] 2)) ((hb7.mono hTs).alloc (Nat.le_trans hTs hb7.size) _))
                | (refine step_append_blk (wr := w6) (by rfl) _ _ 24 (by rfl) (w.heap.size + 3) 2 (.int .i64 0) 8 Tryz.underlying24 info_i64p (by rfl) _ m3.length (ints m3) (by rfl) hOA6 (.int .i64 y) rfl (by rfl) (by decide) (by omega) (Nat.le_trans hTs hb7.size) ?_; intro g9 c9 w9 ho9 hg9 hn9; have hb8 : Below (w.heap.size + 3) wz w9 := (hb7.mono hTs).trans (below_append (Below.refl (w.heap.size + 3) w6) hOA6 hg9 (Nat.le_refl _) (Nat.le_trans hTs hb7.size)); obtain ⟨_, f5, f6⟩ := HC.out w9 hb8)))
            all_goals
              have hT3 := Lib.hid ((hT2.out.call (by omega) (by omega) hb7).snocB (x := y) (by omega) (by omega) ho9 hg9 hn9)
              clear hb6 hb7 hOA6 f1 f2 f3 f4 ho9 hg9 hn9 hb8 f5 f6 d1 d2 r0 r1 r2 r3 r0' r1' r2' r3' d1' d2' HC hOA LB1 hT2
              go_wp2_with fail
              go_roundw
              case rel => exact ⟨i + 1, _, _, _, _, m2 ++ [x], m3 ++ [y], by omega, by go_num, H2n.out, H3n.out, hT3⟩
              case measure => first | (simp [intOf]; done) | (simp [intOf]; omega)
        · obtain rfl : i = cols.length := by omega
          have E2 : Hid (m2 = ofL C xA (rows.take (k + 1)) cols) := by rw [Hid, HO1.out, ← h2.out]; exact g2.out
          have E3 : Hid (m3 = ofL C xB (rows.take (k + 1)) cols) := by rw [Hid, HO1.out, ← h3.out]; exact g3.out
          clear g2 g3 h2 h3
          go_wp2_with fail
          go_roundw
          case rel => exact ⟨k + 1, _, _, _, _, m2, m3, by omega, by go_num, E2, E3, hT⟩
          case measure => first | (simp [intOf]; done) | (simp [intOf]; omega)
    · obtain rfl : k = rows.length := by omega
      have R2 := Lib.hid (rd_of_own hT.out.A (Nat.le_refl _))
      have R3 := Lib.hid (rd_of_own hT.out.C (Nat.le_refl _))
      rw [List.take_length] at h2 h3
      rw [h2.out] at R2
      rw [h3.out] at R3
      have e2 : l2.length = (ofL C xA rows cols).length := by rw [h2.out]
      have e3 : l3.length = (ofL C xB rows cols).length := by rw [h3.out]
      have H23 := Lib.hid (And.intro e2 e3)
      have HL2 := Lib.hid h2.out
      have HL3 := Lib.hid h3.out
      have KO := hT.out.KO
      have KR := hT.out.KR
      have k0' : wo.cell? ⟨w.heap.size + 2, 0, none⟩ = some (.int .i64 rows.length) := KO.cell 0
      have k1' : wo.cell? ⟨w.heap.size + 2, 1, none⟩ = some (.int .i64 cols.length) := KO.cell 1
      have k2' : wo.cell? ⟨w.heap.size + 2, 2, none⟩ = some (.slice a2 l2.length c2) := KO.cell 2
      have k3' : wo.cell? ⟨w.heap.size + 2, 3, none⟩ = some (.slice a3 l3.length c3) := KO.cell 3
      have y0 : wo.cell? ⟨w.heap.size + 1, 0, none⟩ = some (.int .i64 0) := KR.cell 0
      have y1 : wo.cell? ⟨w.heap.size + 1, 1, none⟩ = some (.int .i64 0) := KR.cell 1
      have y2 : wo.cell? ⟨w.heap.size + 1, 2, none⟩ = some (.slice none 0 0) := KR.cell 2
      have y3 : wo.cell? ⟨w.heap.size + 1, 3, none⟩ = some (.slice none 0 0) := KR.cell 3
      have f0 := KR.free 0
      have f1 := KR.free 1
      have f2 := KR.free 2
      have f3 := KR.free 3
      have HKR := Lib.hid KR
      have HT := hT
      clear KO KR h2 h3 e2 e3 hT
      go_wp2_with fail
      obtain ⟨wz, hwz⟩ : ∃ Y, Y = (((wo.setCell ⟨w.heap.size + 1, 0, none⟩ (.int .i64 rows.length)).setCell ⟨w.heap.size + 1, 1, none⟩ (.int .i64 cols.length)).setCell ⟨w.heap.size + 1, 2, none⟩ (.slice a2 l2.length c2)).setCell ⟨w.heap.size + 1, 3, none⟩ (.slice a3 l3.length c3) := ⟨_, rfl⟩
      have KZ : Blk wz (w.heap.size + 1) [.int .i64 rows.length, .int .i64 cols.length, .slice a2 l2.length c2, .slice a3 l3.length c3] 26 := by rw [hwz]; exact (((HKR.out.set 0 (.int .i64 rows.length)).set 1 (.int .i64 cols.length)).set 2 (.slice a2 l2.length c2)).set 3 (.slice a3 l3.length c3)
      have OA : wz.ownsRow (w.heap.size + 3) 2 1 (.slice a2 l2.length c2) l2.length (ints l2) := by
        rw [hwz]
        exact own_grown (own_grown (own_grown (own_grown HT.out.A (grown_set _ _ _ _) (by omega)) (grown_set _ _ _ _) (by omega)) (grown_set _ _ _ _) (by omega)) (grown_set _ _ _ _) (by omega)
      have OB : wz.ownsRow (w.heap.size + 3) 2 1 (.slice a3 l3.length c3) l3.length (ints l3) := by
        rw [hwz]
        exact own_grown (own_grown (own_grown (own_grown HT.out.C (grown_set _ _ _ _) (by omega)) (grown_set _ _ _ _) (by omega)) (grown_set _ _ _ _) (by omega)) (grown_set _ _ _ _) (by omega)
      have BZ : Below w.heap.size w wz := by rw [hwz]; exact below_sto (below_sto (below_sto (below_sto HT.out.B (by omega) _ _) (by omega) _ _) (by omega) _ _) (by omega) _ _
      have RA := rd_of_own OA (Nat.le_refl _)
      have RB := rd_of_own OB (Nat.le_refl _)
      obtain ⟨e2, e3⟩ := H23.out
      rw [← hwz]
      clear hwz k0' k1' k2' k3' y0 y1 y2 y3 f0 f1 f2 f3 R2 R3
      have y0 : wz.cell? ⟨w.heap.size + 1, 0, none⟩ = some (.int .i64 rows.length) := KZ.cell 0
      have y1 : wz.cell? ⟨w.heap.size + 1, 1, none⟩ = some (.int .i64 cols.length) := KZ.cell 1
      have y2 : wz.cell? ⟨w.heap.size + 1, 2, none⟩ = some (.slice a2 l2.length c2) := KZ.cell 2
      have y3 : wz.cell? ⟨w.heap.size + 1, 3, none⟩ = some (.slice a3 l3.length c3) := KZ.cell 3
      refine bodyPost_ret (v := .agg #[.int .i64 rows.length, .int .i64 cols.length, .slice a2 l2.length c2, .slice a3 l3.length c3]) (by simp [results, Tryz.results80, go_sem, y0, y1, y2, y3]) rfl ?_
      have hl2 := HL2.out
      have hl3 := HL3.out
      subst hl2 hl3
      exact ⟨a2, c2, a3, c3, rfl, RA, RB, BZ, fun b hb => by have := (OA.lt b.block (by simp [Value.ownBlock, hb])).1; omega, fun b hb => by have := (OB.lt b.block (by simp [Value.ownBlock, hb])).1; omega⟩
end Go.Proofs.YtkbejmjkdnfemaaGreatDoor
namespace Go.Proofs.YtkbejmjkdnfemaaGreatDoor
set_option linter.unusedVariables false
set_option linter.unusedSimpArgs false
open Go.RowKit

def inL (l : List Int) (n : Nat) : Prop := ∀ z ∈ l, ∃ j : Nat, z = (j : Int) ∧ j < n
theorem leaveL_lt {list places : List Int} : ∀ {n : Nat}, (∃ j : Nat, (j : Int) ∈ places ∧ j < n) → (leaveL list places n).length < n
  | 0, ⟨_, _, h⟩ => by omega
  | n + 1, ⟨j, hm, hj⟩ => by
    rw [leaveL_succ]
    by_cases e : containsI places (n : Int) = true
    · rw [if_pos e]
      have := leaveL_len list places n
      omega
    · rw [if_neg e]
      have hne : j ≠ n := by
        rintro rfl
        exact e (containsI_iff.2 hm)
      have := leaveL_lt (list := list) (places := places) (n := n) ⟨j, hm, by omega⟩
      rw [List.length_append]
      simp; omega
/-- The first ones left out, the rows that are left, the second ones, the columns. -/
def surv1 (C : Nat) (xA rows cols : List Int) : List Int := worseL rows.length cols.length (ofL C xA rows cols) rows.length
def surv2 (C : Nat) (xB rows cols : List Int) : List Int := worseL cols.length rows.length (flipL rows.length cols.length (ofL C xB rows cols) (cols.length * rows.length)) cols.length
def survR (C : Nat) (xA rows cols : List Int) : List Int := leaveL rows (surv1 C xA rows cols) rows.length
def survC (C : Nat) (xA xB rows cols : List Int) : List Int := leaveL cols (surv2 C xB (survR C xA rows cols) cols) cols.length
def survQ (C : Nat) (xA xB rows cols : List Int) : Bool := decide ((surv1 C xA rows cols).length + (surv2 C xB (survR C xA rows cols) cols).length = 0)
def survF (C : Nat) (xA xB : List Int) : Nat → List Int → List Int → List Int × List Int
  | 0, r, c => (r, c)
  | f + 1, r, c => if survQ C xA xB r c = true then (survR C xA r c, survC C xA xB r c) else survF C xA xB f (survR C xA r c) (survC C xA xB r c)
theorem survR_in {C n : Nat} {xA rows cols : List Int} (h : inL rows n) : inL (survR C xA rows cols) n := fun z hz => h z (leaveL_mem (Nat.le_refl _) hz)
theorem survC_in {C n : Nat} {xA xB rows cols : List Int} (h : inL cols n) : inL (survC C xA xB rows cols) n := fun z hz => h z (leaveL_mem (Nat.le_refl _) hz)
theorem survR_le (C : Nat) (xA rows cols : List Int) : (survR C xA rows cols).length ≤ rows.length := leaveL_len _ _ _
theorem survC_le (C : Nat) (xA xB rows cols : List Int) : (survC C xA xB rows cols).length ≤ cols.length := leaveL_len _ _ _
theorem surv_shrink {C : Nat} {xA xB rows cols : List Int} (h : survQ C xA xB rows cols = false) : (survR C xA rows cols).length + (survC C xA xB rows cols).length < rows.length + cols.length := by
  unfold survQ at h
  rw [decide_eq_false_iff_not] at h
  have hR := survR_le C xA rows cols
  have hC := survC_le C xA xB rows cols
  by_cases h1 : (surv1 C xA rows cols).length = 0
  · have h2 : (surv2 C xB (survR C xA rows cols) cols) ≠ [] := by
      intro e; rw [e, h1] at h; exact h rfl
    obtain ⟨z, hz⟩ := List.exists_mem_of_ne_nil _ h2
    obtain ⟨j, rfl, hj⟩ := worseL_mem hz
    have := leaveL_lt (list := cols) (places := surv2 C xB (survR C xA rows cols) cols) (n := cols.length) ⟨j, hz, hj⟩
    have e : (survC C xA xB rows cols).length < cols.length := this
    omega
  · have h2 : surv1 C xA rows cols ≠ [] := by intro e; rw [e] at h1; simp at h1
    obtain ⟨z, hz⟩ := List.exists_mem_of_ne_nil _ h2
    obtain ⟨j, rfl, hj⟩ := worseL_mem hz
    have := leaveL_lt (list := rows) (places := surv1 C xA rows cols) (n := rows.length) ⟨j, hz, hj⟩
    have e : (survR C xA rows cols).length < rows.length := this
    omega
theorem survF_stop {C : Nat} {xA xB rows cols : List Int} {f : Nat} (h : survQ C xA xB rows cols = true) : survF C xA xB (f + 1) rows cols = (survR C xA rows cols, survC C xA xB rows cols) := by
  rw [survF, if_pos h]
theorem survF_more {C : Nat} {xA xB rows cols : List Int} {f : Nat} (h : survQ C xA xB rows cols = false) : survF C xA xB (f + 1) rows cols = survF C xA xB f (survR C xA rows cols) (survC C xA xB rows cols) := by
  rw [survF, if_neg (by rw [h]; decide)]
/-- What is left at last. -/
def leftL (R C : Nat) (xA xB : List Int) : List Int × List Int := survF C xA xB 13 (upto R) (upto C)
end Go.Proofs.YtkbejmjkdnfemaaGreatDoor
