/-
  toCrowdS: a list of crowds, copied.
-/
import Derived.Test.YtbgclfbhdpgdaaaCrowdSO
namespace Go.Proofs.Ytbgclfbhdpgdaaa
set_option linter.unusedVariables false
set_option linter.unusedSimpArgs false
open Go.RowKit

theorem info_crowd : (Try.prog.info? 28).map (fun i => (i.zero, i.size, i.bytes)) = some (some (.agg #[.int .i64 0, .int .i64 0, .slice none 0 0, .slice none 0 0]), 4, 64) := by kernel_rfl
theorem flatC_take {cs : List Cr} {hs : List Hd} {k : Nat} {c : Cr} (hc : cs[k]? = some c) (hl : (cs.take k).length = hs.length) (h : Hd) : flatC (cs.take (k + 1)) (hs ++ [h]) = flatC (cs.take k) hs ++ cells1 c h := by
  rw [List.take_add_one, hc]
  exact flatC_snoc _ _ _ _ hl
theorem setc_grownS (w : World) (g j : Nat) (u : Value) : w.grownBy (w.setCell ⟨g, j, none⟩ u) (some g) := ⟨rfl, rfl, rfl, by simp, fun i _ hi => Below.heap_setCell _ _ _ _ (fun e => hi (by simp [e]))⟩
theorem touch_set (w : World) (g j : Nat) (u : Value) : Touch w (w.setCell ⟨g, j, none⟩ u) g (g + 1) := Touch.of_grown (setc_grownS w g j u) (Nat.le_refl _) (Nat.lt_succ_self _)
set_option maxRecDepth 10000 in
set_option maxHeartbeats 4000000 in
theorem lawTo_CrowdS (w : World) (B : Nat) (a : Option Addr) (cp : Nat) (cs : List Cr) (h : RdCs w B a cs) (hB : B ≤ w.heap.size) (hl : cs.length ≤ 1048576) (hin : ∀ c ∈ cs, c.ways.length ≤ 1048576 ∧ c.costs.length ≤ 1048576) :
    Calls Try.prog 30 #[.slice a cs.length cp] w fun e w' => ∃ a' c', e = .returned (.slice a' cs.length c') ∧ OwnCs w' w.heap.size w'.heap.size a' cs ∧ Below w.heap.size w w' := by
  have Hh := Lib.hid (h.mono hB)
  have Hin := Lib.hid hin
  obtain ⟨n, hn⟩ : ∃ n, n = cs.length := ⟨_, rfl⟩
  have HN := Lib.hid hn
  clear h hin
  rw [← hn] at hl ⊢
  clear hn
  go_enter Try.func30, Try.ntmps30
  go_wp2_with (at_make; refine wpList_make_cells _ rfl _ _ 47 rfl 28 (.agg #[.int .i64 0, .int .i64 0, .slice none 0 0, .slice none 0 0]) 4 64 Try.underlying47 info_crowd _ _ n rfl rfl (by omega) (by unfold maxLen; omega) ?_)
  intro w1 hb1 hw1 hs1
  rw [made_zeros] at hb1
  have K1 : Hid (Blk w1 w.heap.size (flatC (cs.take 0) [] ++ zerosC (n - 0)) 28) := by simpa [flatC, Hid] using hb1
  have C1 : Hid (Chain w1 (w.heap.size + 1) w1.heap.size (cs.take 0) []) := by simp [Hid, Chain, hs1]
  have s1 : w.heap.size < w1.heap.size := by omega
  clear hb1 hs1
  go_wp2_with fail
  go_loopw [4] (fun i wr => ∃ (k : Nat) (hs : List Hd), k ≤ n ∧ i = .int .i64 k ∧ Hid ((cs.take k).length = hs.length) ∧ Hid (Blk wr w.heap.size (flatC (cs.take k) hs ++ zerosC (n - k)) 28) ∧ Hid (Chain wr (w.heap.size + 1) wr.heap.size (cs.take k) hs) ∧ Below w.heap.size w wr ∧ w.heap.size < wr.heap.size) (fun i _ => n - (intOf i).toNat)
  case atStart => exact ⟨0, [], Nat.zero_le _, rfl, rfl, K1.out, C1.out, hw1, s1⟩
  case round =>
    clear K1 C1 hw1 s1
    obtain ⟨k, hs, hk, rfl, hlk, hK, hC, hw, hsz⟩ := hrel
    by_cases hlt : k < n
    · obtain ⟨c, hc⟩ : ∃ c, cs[k]? = some c := ⟨cs[k]'(by rw [← HN.out]; exact hlt), by simp⟩
      obtain ⟨b, o, a2, c2, a3, c3, rfl, hb, e0, e1, e2, e3, hr⟩ := (Hh.out.below hw (Nat.le_refl _)).get hc
      obtain ⟨m2, m3⟩ := Hin.out c (List.mem_of_getElem? hc)
      have LT := Lib.hid (lawTo_Crowd wr w.heap.size c.U c.R a2 c2 c.ways a3 c3 c.costs hr hw.size m2 m3)
      have Hc := Lib.hid hc
      have hzs : Hid (zerosC (n - k) = zero1 ++ zerosC (n - (k + 1))) := by
        show _ = _
        rw [show n - k = (n - (k + 1)) + 1 by omega, zerosC]
      have hfl : Hid ((flatC (cs.take k) hs).length = k * 4) := by
        show _ = _
        rw [flatC_len _ _ hlk.out, List.length_take, ← HN.out]
        congr 1
        omega
      have hk0 : (0 : Int) ≤ (k : Int) := Int.natCast_nonneg _
      have hk1 : (k : Int) < (n : Int) := by omega
      clear hr hc
      go_wp2_with fail
      refine LT.out.mono ?_
      rintro e w2 ⟨b2, d2, b3, d3, rfl, o2, hb2⟩
      have k2 := hK.out.same hb2
      have C2 := hC.out.keep hb2
      have B2 := hw.trans (hb2.mono hw.size)
      have s2 := hb2.size
      rw [hzs.out] at k2
      have g0 : w2.cell? ⟨w.heap.size, k * 4, none⟩ = some (.int .i64 0) := by
        rw [k2.cell, List.getElem?_append_right (by rw [hfl.out]; exact Nat.le_refl _), hfl.out, Nat.sub_self]; rfl
      have g1 : w2.cell? ⟨w.heap.size, k * 4 + 1, none⟩ = some (.int .i64 0) := by
        rw [k2.cell, List.getElem?_append_right (by rw [hfl.out]; omega), hfl.out, Nat.add_sub_cancel_left]; rfl
      have g2 : w2.cell? ⟨w.heap.size, k * 4 + 2, none⟩ = some (.slice none 0 0) := by
        rw [k2.cell, List.getElem?_append_right (by rw [hfl.out]; omega), hfl.out, Nat.add_sub_cancel_left]; rfl
      have g3 : w2.cell? ⟨w.heap.size, k * 4 + 3, none⟩ = some (.slice none 0 0) := by
        rw [k2.cell, List.getElem?_append_right (by rw [hfl.out]; omega), hfl.out, Nat.add_sub_cancel_left]; rfl
      have f0 := k2.free (k * 4)
      have f1 := k2.free (k * 4 + 1)
      have f2 := k2.free (k * 4 + 2)
      have f3 := k2.free (k * 4 + 3)
      have K2 := Lib.hid k2
      have CC := Lib.hid C2
      have OO := Lib.hid o2
      clear LT e0 e1 e2 e3 k2 C2 o2 hb2 hK hC hw
      go_wp2_with fail
      go_roundw
      case rel =>
        have q4 := (((K2.out.set (k * 4) (.int .i64 c.U)).set (k * 4 + 1) (.int .i64 c.R)).set (k * 4 + 2) (.slice b2 c.ways.length d2)).set (k * 4 + 3) (.slice b3 c.costs.length d3)
        rw [zero1, List.cons_append, List.cons_append, List.cons_append, List.cons_append, List.nil_append, set4 _ _ _ _ hfl.out] at q4
        have t4 := (((touch_set w2 w.heap.size (k * 4) (.int .i64 c.U)).trans (touch_set _ w.heap.size (k * 4 + 1) (.int .i64 c.R))).trans (touch_set _ w.heap.size (k * 4 + 2) (.slice b2 c.ways.length d2))).trans (touch_set _ w.heap.size (k * 4 + 3) (.slice b3 c.costs.length d3))
        have ch := (CC.out.touch t4 (.inr (Nat.le_refl _))).snoc (c := c) (h := (b2, d2, b3, d3)) hlk.out (OO.out.touch t4 (.inr (by omega)))
        have bb := below_sto (below_sto (below_sto (below_sto B2 (g := w.heap.size) (Nat.le_refl _) (k * 4) (.int .i64 c.U)) (Nat.le_refl _) (k * 4 + 1) (.int .i64 c.R)) (Nat.le_refl _) (k * 4 + 2) (.slice b2 c.ways.length d2)) (Nat.le_refl _) (k * 4 + 3) (.slice b3 c.costs.length d3)
        refine ⟨k + 1, hs ++ [(b2, d2, b3, d3)], by omega, by go_num, ?_, ?_, ?_, bb, by simp; omega⟩
        · show _ = _
          rw [List.take_add_one, Hc.out]
          simp [hlk.out]
        · show Blk _ _ _ _
          rw [flatC_take Hc.out hlk.out]
          simpa [cells1] using q4
        · show Chain _ _ _ _ _
          rw [List.take_add_one, Hc.out]
          simpa using ch
      case measure => simp [intOf]; omega
    · have : k = n := by omega
      subst this
      have HO : Hid (OwnCs wr w.heap.size wr.heap.size (some ⟨w.heap.size, 0, none⟩) cs) := by
        have e : cs.take k = cs := List.take_of_length_le (by rw [← HN.out]; exact Nat.le_refl _)
        have h1 := hlk.out
        have h2 := hK.out
        have h3 := hC.out
        rw [e] at h1 h2 h3
        rw [Nat.sub_self, zerosC, List.append_nil] at h2
        exact ⟨hs, h1, rfl, hsz, h2, h3, Nat.le_refl _⟩
      clear hK hC
      go_wp2_with fail
      go_ret
      exact ⟨_, _, rfl, HO.out, hw⟩
end Go.Proofs.Ytbgclfbhdpgdaaa
