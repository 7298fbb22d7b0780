/-
  A result that is a list of lists: owned row by row; marked and looked at by the law's helpers.
-/
import Derived.Test.YtdipckpcmnhpjaaLawRows
import Derived.Test.YtdipckpcmnhpjaaOwnLL
namespace Go.Proofs.Ytdipckpcmnhpjaa
set_option linter.unusedVariables false
set_option linter.unusedSimpArgs false
open Go.RowKit

/-- What marked rows hold. -/
def marksR : Int → List (List Int) → List (List Int)
  | _, [] => []
  | k, y :: ys => marks y.length k :: marksR (k + y.length) ys
def sumLen (yss : List (List Int)) : Int := (yss.map fun (y : List Int) => (y.length : Int)).sum
theorem marksR_length : ∀ (yss : List (List Int)) (k : Int), (marksR k yss).length = yss.length
  | [], _ => rfl
  | y :: ys, k => by simp [marksR, marksR_length ys]
theorem marksR_get : ∀ (yss : List (List Int)) (k : Int) (j : Nat), (marksR k yss)[j]? = (yss[j]?).map fun (y : List Int) => marks y.length (k + sumLen (yss.take j))
  | [], k, j => by simp [marksR]
  | y :: ys, k, 0 => by simp [marksR, sumLen]
  | y :: ys, k, j + 1 => by
    rw [marksR, List.getElem?_cons_succ, marksR_get ys (k + y.length) j, List.getElem?_cons_succ, List.take_succ_cons]
    simp only [sumLen, List.map_cons, List.sum_cons, Int.add_assoc]
theorem sumLen_nonneg (yss : List (List Int)) : 0 ≤ sumLen yss := by
  induction yss with
  | nil => simp [sumLen]
  | cons y ys ih => simp only [sumLen, List.map_cons, List.sum_cons] at ih ⊢; omega
theorem sumLen_succ {yss : List (List Int)} {j : Nat} {ys : List Int} (h : yss[j]? = some ys) : sumLen (yss.take (j + 1)) = sumLen (yss.take j) + ys.length := by
  rw [List.take_add_one, h]; simp [sumLen]
theorem sumLen_le {m : Int} : ∀ (yss : List (List Int)), (∀ y ∈ yss, (y.length : Int) ≤ m) → sumLen yss ≤ m * yss.length
  | [], _ => by simp [sumLen]
  | y :: ys, h => by
    have h1 := h y (by simp)
    have h2 := sumLen_le ys (fun z hz => h z (by simp [hz]))
    simp only [sumLen, List.map_cons, List.sum_cons, List.length_cons] at h2 ⊢
    rw [Int.natCast_add, Int.mul_add]
    omega
theorem lawMark_I2 (w : World) (lo hi : Nat) (a : Option Addr) (c : Nat) (xs : List Int) (k : Int) (h : OwnI 2 w lo hi a c xs) (hl : xs.length ≤ 1073741824) (hk0 : -1073741824 ≤ k) (hk : k ≤ 1152921504606846976) :
    Calls Try.prog 31 #[.slice a xs.length c, .int .i64 k] w fun e w' => e = .returned (.int .i64 (k + xs.length)) ∧ OwnI 2 w' lo hi a c (marks xs.length k) ∧ w.grownBy w' (Value.slice a xs.length c).ownBlock := by
  rcases h.1.2 with ⟨h2, h3⟩ | ⟨g, cap, cur, hv, hg, hh, hn, hm, hs, ht⟩
  · injection h2 with ha hx hc
    have : xs = [] := List.eq_nil_of_length_eq_zero h3
    subst this ha hc
    refine (markInt64S_nil w k).mono ?_
    rintro e w' ⟨rfl, rfl⟩
    exact ⟨ret_int (by simp), by simpa [marks] using h, World.grownBy.refl _ _⟩
  · injection hv with ha hx hc
    subst ha hc
    rw [Nat.mul_one] at ht hs
    have hgh : g < hi := h.2 _ rfl
    have hb : Blk w g (ints xs ++ cur.toList.drop xs.length) 2 := by
      rw [← ht, List.take_append_drop]
      exact hh
    refine (markInt64S_blk w g c 2 xs _ k hb hl hk0 hk).mono ?_
    rintro e w' ⟨rfl, hb', hgr⟩
    refine ⟨rfl, ⟨?_, h.2⟩, hgr⟩
    rw [marks_length]
    refine ⟨by simp, .inr ⟨g, c, _, rfl, hg, hb', hn, hm, ?_, ?_⟩⟩
    · have : cur.toList.length = c := by simpa using hs
      simp only [List.size_toArray, List.length_append, ints_length, marks_length, List.length_drop, this]
      omega
    · rw [Nat.mul_one]
      exact List.take_left' (by simp)
theorem markedR_get (yss : List (List Int)) (k : Int) (j i : Nat) (hj : j ≤ yss.length) : ((marksR k yss).take j ++ yss.drop j)[i]? = if i < j then (marksR k yss)[i]? else yss[i]? := by
  have hl : ((marksR k yss).take j).length = j := by rw [List.length_take, marksR_length]; omega
  by_cases h : i < j
  · rw [if_pos h, List.getElem?_append_left (by omega), List.getElem?_take, if_pos h]
  · rw [if_neg h, List.getElem?_append_right (by omega), hl, List.getElem?_drop]
    congr 1; omega
set_option maxHeartbeats 2000000 in
theorem lawMark_LL (w : World) (lo hi : Nat) (a : Option Addr) (c : Nat) (yss : List (List Int)) (k0 : Int) (h : OwnLL 2 25 w lo hi a c yss) (hl : yss.length ≤ 1048576) (hin : ∀ y ∈ yss, y.length ≤ 1048576) (h0 : 1 ≤ k0) (h1 : k0 ≤ 1125899906842624) :
    Calls Try.prog 38 #[.slice a yss.length c, .int .i64 k0] w fun e w' => e = .returned (.int .i64 (k0 + sumLen yss)) ∧ OwnLL 2 25 w' lo hi a c (marksR k0 yss) ∧ Touch w w' lo hi := by
  obtain ⟨vs, h⟩ := h
  have Hlen := Lib.hid h.len
  have Hin := Lib.hid hin
  have HR := Lib.hid h
  have Hb := Lib.hid (fun j => sumLen_le (m := 1048576) (yss.take j) (fun y hy => by have := hin y (List.mem_of_mem_take hy); omega))
  have Hnn := Lib.hid (fun j => sumLen_nonneg (yss.take j))
  clear hin h
  go_enter Try.func38, Try.ntmps38
  go_wp2
  go_loopw [1, 5] (fun kk i wr => ∃ (j : Nat) (k : Int), j ≤ yss.length ∧ i = .int .i64 j ∧ kk = .int .i64 k ∧ Hid (k = k0 + sumLen (yss.take j)) ∧ Hid (OwnRows 2 25 wr lo hi (.slice a yss.length c) vs ((marksR k0 yss).take j ++ yss.drop j)) ∧ Hid (Touch w wr lo hi)) (fun _ i _ => yss.length - (intOf i).toNat)
  case atStart => exact ⟨0, k0, Nat.zero_le _, rfl, rfl, by simp [Hid, sumLen], by rw [List.take_zero, List.drop_zero, List.nil_append]; exact HR, Touch.refl _ _ _⟩
  case round =>
    obtain ⟨j, k, hj, rfl, rfl, hk, hO, ht⟩ := hrel
    by_cases hlt : j < yss.length
    · obtain ⟨ys, hys⟩ : ∃ ys, yss[j]? = some ys := ⟨yss[j], List.getElem?_eq_getElem hlt⟩
      have hyl := Hin.out _ (List.mem_of_getElem? hys)
      have e0 : ((marksR k0 yss).take j ++ yss.drop j)[j]? = some ys := by rw [markedR_get _ _ _ _ hj, if_neg (by omega), hys]
      obtain ⟨gj, cj, hvj, hoj⟩ := hO.out.row j ys e0
      obtain ⟨aj, haj0⟩ : ∃ aj, aj = some (⟨gj, 0, none⟩ : Addr) := ⟨_, rfl⟩
      have Haj := Lib.hid haj0
      rw [← haj0] at hvj hoj
      clear haj0
      obtain ⟨b, o, hax, hbb, hcell⟩ : ∃ b o, a = some ⟨b, o, none⟩ ∧ b < hi ∧ wr.cell? ⟨b, o + j, none⟩ = some (.slice aj ys.length cj) := by
        rcases rd_of_own hO.out.out (Nat.le_refl _) with h' | ⟨b, o, ha, hb, hc⟩
        · rw [h'] at hvj; simp at hvj
        · exact ⟨b, o, ha, hO.out.lt b (by rw [ha]; rfl), by rw [hc j (by rw [Hlen.out]; exact hlt), hvj]⟩
      subst hax
      have hk1 := hk.out
      have hb1 := Hb.out j
      have hn1 := Hnn.out j
      have htl : (yss.take j).length = j := by simp; omega
      rw [htl] at hb1
      have L := Lib.hid (lawMark_I2 wr lo hi aj cj ys k hoj (by omega) (by omega) (by omega))
      have Hys := Lib.hid hys
      have Hvj := Lib.hid hvj
      have Htl := Lib.hid htl
      have kb1 : 1 ≤ k := by omega
      have kb2 : k ≤ 1125899906842624 + 1048576 * 1048576 := by omega
      clear hys hvj e0 hoj hk1 hb1 hn1 htl
      go_wp2_with (go_at_call 31; refine (L.out).mono ?_; rintro e w2 ⟨rfl, hoj2, hgr⟩)
      have hK : Hid (k + (ys.length : Int) = k0 + sumLen (yss.take (j + 1))) := by
        show _ = _
        rw [sumLen_succ Hys.out, hk.out]; omega
      have HO2 : Hid (OwnRows 2 25 w2 lo hi (.slice (some ⟨b, o, none⟩) yss.length c) vs ((marksR k0 yss).take (j + 1) ++ yss.drop (j + 1))) := by
        have hOo := hO.out
        have ln1 : ((marksR k0 yss).take j ++ yss.drop j).length = yss.length := by rw [List.length_append, List.length_take, List.length_drop, marksR_length]; omega
        have ln2 : ((marksR k0 yss).take (j + 1) ++ yss.drop (j + 1)).length = yss.length := by rw [List.length_append, List.length_take, List.length_drop, marksR_length]; omega
        have hout := hOo.out
        rw [ln1] at hout
        refine ⟨?_, hOo.lt, fun i zs hi => ?_, hOo.top, hOo.dis⟩
        · rw [ln2]
          exact own_apart hout hgr (hOo.top j _ Hvj.out).symm
        · rw [markedR_get _ _ _ _ (by omega)] at hi
          by_cases hij : i = j
          · subst hij
            rw [if_pos (by omega), marksR_get, Hys.out] at hi
            simp only [Option.map_some, Option.some.injEq] at hi
            subst hi
            refine ⟨gj, cj, by rw [marks_length, ← Haj.out]; exact Hvj.out, ?_⟩
            rw [← hk.out, ← Haj.out]; exact hoj2
          · have hi2 : ((marksR k0 yss).take j ++ yss.drop j)[i]? = some zs := by
              rw [markedR_get _ _ _ _ hj, ← hi]
              by_cases h3 : i < j
              · rw [if_pos h3, if_pos (by omega)]
              · rw [if_neg h3, if_neg (by omega)]
            obtain ⟨ai, ci, q1, q2⟩ := hOo.row i zs hi2
            exact ⟨ai, ci, q1, q2.apart hgr (hOo.dis j i _ _ (by omega) Hvj.out q1)⟩
      have HT2 : Hid (Touch w w2 lo hi) := by
        refine ht.out.trans ?_
        cases hob : (Value.slice aj ys.length cj).ownBlock with
        | none =>
          rw [hob] at hgr
          exact ⟨hgr.os, hgr.tape, hgr.output, hgr.size, fun k hk _ => hgr.block k hk (by simp)⟩
        | some g =>
          rw [hob] at hgr
          have hgb := hoj2.1.lt g (by rw [marks_length]; exact hob)
          refine Touch.of_grown hgr hgb.1 ?_
          cases haj : aj with
          | none => rw [haj] at hob; simp [Value.ownBlock] at hob
          | some x =>
            have := hoj2.2 x haj
            rw [haj] at hob
            simp only [Value.ownBlock, Option.some.injEq] at hob
            omega
      clear hgr hoj2 hO ht
      go_roundw
      case rel => exact ⟨j + 1, k + ys.length, by omega, by go_num, rfl, hK, HO2, HT2⟩
      case measure => simp [intOf]; omega
    · have : j = yss.length := by omega
      subst this
      go_wp2
      go_ret
      refine ⟨ret_int (by rw [hk.out, List.take_length]), ⟨vs, ?_⟩, ht.out⟩
      have := hO.out
      rw [List.drop_length, List.append_nil, List.take_of_length_le (by rw [marksR_length]; exact Nat.le_refl _)] at this
      rw [marksR_length]
      exact this
set_option maxHeartbeats 2000000 in
theorem lawHeld_LL (w : World) (B : Nat) (a : Option Addr) (c : Nat) (yss : List (List Int)) (k0 : Int) (h' : RdII w B a (marksR k0 yss)) (hB : B ≤ w.heap.size) (hl : yss.length ≤ 1048576) (hin : ∀ y ∈ yss, y.length ≤ 1048576) (h0 : 1 ≤ k0) (h1 : k0 ≤ 1125899906842624) :
    Calls Try.prog 39 #[.slice a yss.length c, .int .i64 k0] w fun e w' => e = .returned (.int .i64 (k0 + sumLen yss)) ∧ Below w.heap.size w w' := by
  have h := h'.mono hB
  have Hin := Lib.hid hin
  have Hb := Lib.hid (fun j => sumLen_le (m := 1048576) (yss.take j) (fun y hy => by have := hin y (List.mem_of_mem_take hy); omega))
  have Hnn := Lib.hid (fun j => sumLen_nonneg (yss.take j))
  have Hml := Lib.hid (marksR_length yss k0)
  clear hin h' hB
  go_enter Try.func39, Try.ntmps39
  go_wp2
  go_loop [1, 5] (fun kk i => ∃ (j : Nat) (k : Int), j ≤ yss.length ∧ i = .int .i64 j ∧ kk = .int .i64 k ∧ Hid (k = k0 + sumLen (yss.take j))) (fun _ i => yss.length - (intOf i).toNat)
  case atStart => exact ⟨0, k0, Nat.zero_le _, rfl, rfl, by simp [Hid, sumLen]⟩
  case round =>
    obtain ⟨j, k, hj, rfl, rfl, hk⟩ := hrel
    by_cases hlt : j < yss.length
    · obtain ⟨b, o, ys2, a', c', rfl, hbb, hcell, hc1, hr1, hy1⟩ := h.get (k := j) (by rw [Hml.out]; exact hlt)
      obtain ⟨ys, hys⟩ : ∃ ys, yss[j]? = some ys := ⟨yss[j], List.getElem?_eq_getElem hlt⟩
      have hyl := Hin.out _ (List.mem_of_getElem? hys)
      have e2 : ys2 = marks ys.length k := by
        have := hy1.out
        rw [marksR_get, hys] at this
        simp only [Option.map_some, Option.some.injEq] at this
        rw [← this, hk.out]
      subst e2
      rw [marks_length] at hcell hc1
      have hk1 := hk.out
      have hb1 := Hb.out j
      have hn1 := Hnn.out j
      have htl : (yss.take j).length = j := by simp; omega
      rw [htl] at hb1
      have kb1 : 1 ≤ k := by omega
      have kb2 : k ≤ 1125899906842624 + 1048576 * 1048576 := by omega
      have L := Lib.hid (heldInt64S_marks w a' c' ys.length k hr1 (by omega) (by omega) (by omega))
      have hK : Hid (k + (ys.length : Int) = k0 + sumLen (yss.take (j + 1))) := by
        show _ = _
        rw [sumLen_succ hys, hk.out]; omega
      clear hys hr1 hy1 hk1 hb1 hn1 htl h
      go_wp2_with (go_at_call 32; refine (L.out).mono ?_; rintro e w2 ⟨rfl, rfl⟩)
      go_round
      case rel => exact ⟨j + 1, k + ys.length, by omega, by go_num, rfl, hK⟩
      case measure => simp [intOf]; omega
    · have : j = yss.length := by omega
      subst this
      go_wp2
      go_ret
      exact ⟨ret_int (by rw [hk.out, List.take_length]), Below.refl _ _⟩
end Go.Proofs.Ytdipckpcmnhpjaa
