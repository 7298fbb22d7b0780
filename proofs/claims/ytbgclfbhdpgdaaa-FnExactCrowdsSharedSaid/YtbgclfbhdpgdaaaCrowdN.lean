/-
  The next choices, and whether there are few: the reference's road.
-/
import Derived.Test.YtbgclfbhdpgdaaaCrowdTot
namespace Go.Proofs.Ytbgclfbhdpgdaaa
set_option linter.unusedVariables false
set_option linter.unusedSimpArgs false
open Go.RowKit

theorem nextAt_yes {n : Int} {ch : List Int} {k : Nat} (h : ch.getD k 0 + 1 < n) : nextAt n ch (k + 1) = (ch.set k (ch.getD k 0 + 1), true) := by rw [nextAt, if_pos h]
theorem nextAt_no {n : Int} {ch : List Int} {k : Nat} (h : ¬ ch.getD k 0 + 1 < n) : nextAt n ch (k + 1) = nextAt n (ch.set k 0) k := by rw [nextAt, if_neg h]
theorem digB_set {n : Nat} {ch : List Int} (h : digB n ch) (hn : 1 ≤ n) (k : Nat) : digB n (ch.set k 0) := fun x hx => by
  rcases List.mem_or_eq_of_mem_set hx with hx | hx
  · exact h x hx
  · subst hx; omega
theorem digB_get {n : Nat} {ch : List Int} (h : digB n ch) {k : Nat} (hk : k < ch.length) : 0 ≤ ch.getD k 0 ∧ ch.getD k 0 < n := h _ (by simp [List.getD, List.getElem?_eq_getElem hk])
set_option maxRecDepth 10000 in
set_option maxHeartbeats 4000000 in
theorem l04Next_any (w : World) (g : Nat) (tl : List Value) (c : Nat) (ch : List Int) (n : Nat) (hb : Blk w g (ints ch ++ tl) 2) (hd : digB n ch) (hn1 : 1 ≤ n) (hn : n ≤ 1048576) (hl : ch.length ≤ 1048576) :
    Calls Try.prog 59 #[.slice (some ⟨g, 0, none⟩) ch.length c, .int .i64 n] w fun e w' => e = .returned (.bool (nextAt n ch ch.length).2) ∧ Blk w' g (ints (nextAt n ch ch.length).1 ++ tl) 2 ∧ w.grownBy w' (some g) := by
  have HB := Lib.hid hb
  have HD := Lib.hid hd
  have Hr : Hid (nextAt n ch ch.length = nextAt n ch ch.length) := rfl
  clear hb hd
  go_enter Try.func59, Try.ntmps59
  go_wp2_with fail
  go_loopw [5] (fun i wr => ∃ (k : Nat) (j : Int) (cur : List Int), k ≤ ch.length ∧ i = .int .i64 j ∧ Hid (j + 1 = (k : Int)) ∧ Hid (cur.length = ch.length) ∧ Hid (digB n cur) ∧ Hid (nextAt n ch ch.length = nextAt n cur k) ∧ Hid (Blk wr g (ints cur ++ tl) 2) ∧ Hid (w.grownBy wr (some g))) (fun i _ => (intOf i + 1).toNat)
  case atStart => exact ⟨ch.length, _, ch, Nat.le_refl _, rfl, by show _ = _; omega, rfl, HD.out, rfl, HB.out, World.grownBy.refl _ _⟩
  case round =>
    clear HB HD Hr
    obtain ⟨k, j, cur, hk, rfl, hj, hcl, hd, hnx, hG, hgr⟩ := hrel
    cases k with
    | zero =>
      have : j = -1 := by have := hj.out; omega
      subst this
      have HF := Lib.hid hnx.out
      rw [nextAt] at HF
      clear hnx
      go_wp2_with fail
      go_ret
      exact ⟨by rw [HF.out]; rfl, by rw [HF.out]; exact hG.out, hgr.out⟩
    | succ k =>
      have : j = (k : Int) := by have := hj.out; omega
      subst this
      have hkc : k < cur.length := by have := hcl.out; omega
      have e1 := cell_app hG.out hkc
      have f1 := hG.out.free k
      obtain ⟨y0, y1⟩ := digB_get hd.out hkc
      have Hdz := Lib.hid (digB_set hd.out hn1 k)
      have hlt : k < ch.length := by omega
      by_cases hy : cur.getD k 0 + 1 < (n : Int)
      · have HF : Hid (nextAt n ch ch.length = (cur.set k (cur.getD k 0 + 1), true)) := hnx.out.trans (nextAt_yes hy)
        have HS := Lib.hid (set_app hG.out hkc (cur.getD k 0 + 1))
        have HG2 := Lib.hid (grown_of_grown hgr.out (setg_grown wr g k (.int .i64 (cur.getD k 0 + 1))))
        generalize cur.getD k 0 = y at *
        clear hnx hG hgr hd hkc
        go_wp2_with fail
        go_ret
        exact ⟨by rw [HF.out]; rfl, by rw [HF.out]; exact HS.out, HG2.out⟩
      · have HF : Hid (nextAt n ch ch.length = nextAt n (cur.set k 0) k) := hnx.out.trans (nextAt_no hy)
        have hS := set_app hG.out hkc (cur.getD k 0 + 1)
        have hS2 := set_app hS (j := k) (by rw [List.length_set]; exact hkc) 0
        rw [List.set_set] at hS2
        have hg2 := grown_of_grown hgr.out (setg_grown wr g k (.int .i64 (cur.getD k 0 + 1)))
        have HG3 := Lib.hid (grown_of_grown hg2 (setg_grown _ g k (.int .i64 0)))
        have HS2 := Lib.hid hS2
        have f2 := hS.free k
        have hcl2 : Hid ((cur.set k 0).length = ch.length) := by rw [Hid, List.length_set]; exact hcl.out
        generalize cur.getD k 0 = y at *
        clear hnx hG hgr hd hkc hS hS2 hg2
        go_wp2_with fail
        go_roundw
        case rel => exact ⟨k, (k : Int) - 1, cur.set k 0, by omega, by go_num, by show _ = _; omega, hcl2.out, Hdz.out, HF.out, HS2.out, HG3.out⟩
        case measure => simp [intOf]
theorem pow_step {L k : Nat} : L ^ (k + 1) = L ^ k * L := Nat.pow_succ L k
theorem few_no {c : Cr} (h : Valid c) {k : Nat} (hk : (k : Int) + 1 ≤ c.U) (hp : 4096 < c.ways.length ^ k * c.ways.length) : fewB c = false := by
  have h1 : c.ways.length ^ (k + 1) ≤ c.ways.length ^ c.U.toNat := Nat.pow_le_pow_right h.w1 (by omega)
  rw [pow_step] at h1
  simp only [fewB, decide_eq_false_iff_not]
  omega
set_option maxRecDepth 10000 in
set_option maxHeartbeats 4000000 in
theorem l06Few_any (w : World) (b o : Nat) (U R : Int) (a2 : Option Addr) (c2 : Nat) (x2 x3 : List Int)
    (d0 : w.cell? ⟨b, o, none⟩ = some (.int .i64 U)) (d2 : w.cell? ⟨b, o + 2, none⟩ = some (.slice a2 x2.length c2)) (hv : Valid ⟨U, R, x2, x3⟩) :
    Calls Try.prog 57 #[.pointer (some ⟨b, o, none⟩)] w fun e w' => e = .returned (.bool (fewB ⟨U, R, x2, x3⟩)) ∧ w' = w := by
  obtain ⟨N, rfl⟩ : ∃ N : Nat, U = N := ⟨U.toNat, by have := hv.u1; simp only at this; omega⟩
  have hN8 : N ≤ 8 := by have := hv.u8; simp only at this; omega
  have hL8 : x2.length ≤ 8 := hv.w8
  have hL1 : 1 ≤ x2.length := hv.w1
  have HNo : Hid (∀ k, k < N → 4096 < x2.length ^ k * x2.length → fewB ⟨N, R, x2, x3⟩ = false) := fun k hk hp => few_no hv (by simp only; omega) hp
  have HYes : Hid (x2.length ^ N ≤ 4096 → fewB ⟨N, R, x2, x3⟩ = true) := fun h => by simpa [fewB] using h
  generalize x2.length = L at *
  have h0 : Hid (L ^ 0 ≤ 4096) := by show _ ≤ _; simp
  clear hv
  go_enter Try.func57, Try.ntmps57
  go_wp2_with fail
  go_loopw [4, 3] (fun i m wr => ∃ (k P : Nat), k ≤ N ∧ i = .int .i64 k ∧ m = .int .i64 P ∧ Hid (P = L ^ k) ∧ P ≤ 4096 ∧ wr = w) (fun i _ _ => N - (intOf i).toNat)
  case atStart => exact ⟨0, 1, Nat.zero_le _, rfl, rfl, rfl, by omega, rfl⟩
  case round =>
    obtain ⟨k, P, hk, rfl, rfl, hP, hP4, rfl⟩ := hrel
    by_cases hlt : k < N
    · have hm0 : (0 : Int) ≤ (P : Int) * (L : Int) := Int.mul_nonneg (by omega) (by omega)
      have hmN : P * L ≤ 4096 * 8 := Nat.mul_le_mul hP4 hL8
      have hm1 : (P : Int) * (L : Int) ≤ 32768 := by have : ((P * L : Nat) : Int) = (P : Int) * (L : Int) := by simp
                                                     omega
      have hcast : Hid (((P * L : Nat) : Int) = (P : Int) * (L : Int)) := by simp [Hid]
      by_cases hgt : (4096 : Int) < (P : Int) * (L : Int)
      · have HF := Lib.hid (HNo.out k hlt (by rw [← hP.out]; have := hcast.out; omega))
        clear hmN hP
        go_wp2_with fail
        go_ret
        exact ⟨ret_bool HF.out.symm, rfl⟩
      · have HP2 : Hid (P * L = L ^ (k + 1)) := by show _ = _; rw [pow_step, hP.out]
        have hle : P * L ≤ 4096 := by have := hcast.out; omega
        have Hle := Lib.hid hle
        clear hmN hP hle
        go_wp2_with fail
        go_roundw
        case rel => exact ⟨k + 1, P * L, by omega, by go_num, by rw [hcast.out], HP2, Hle.out, by first | trivial | rfl⟩
        case measure => simp [intOf]; omega
    · have : k = N := by omega
      subst this
      have HF := Lib.hid (HYes.out (by rw [← hP.out]; exact hP4))
      clear hP
      go_wp2_with fail
      go_ret
      exact ⟨ret_bool HF.out.symm, rfl⟩
end Go.Proofs.Ytbgclfbhdpgdaaa
