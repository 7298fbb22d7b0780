/-
  choices of the program: it calls a function for all choices, in their order.
-/
import Derived.Test.YtbgclfbhdpgdaaaCrowdN
import Derived.Outline
import Derived.Laws.EntriesVeiled
namespace Go.Proofs.Ytbgclfbhdpgdaaa
set_option linter.unusedVariables false
set_option linter.unusedSimpArgs false
open Go.RowKit

theorem few_yes {c : Cr} {N : Nat} (hN : c.U = N) (hp : c.ways.length ^ N ≤ 4096) : fewB c = true := by
  have : c.U.toNat = N := by omega
  simp only [fewB, this, decide_eq_true_eq]
  exact hp
theorem few_not {c : Cr} {N : Nat} (hN : c.U = N) (hp : 4096 < c.ways.length ^ N) : fewB c = false := by
  have : c.U.toNat = N := by omega
  simp only [fewB, this, decide_eq_false_iff_not]
  omega
def fewN (few : Bool) (M : Nat) : Nat := if few then M else 0
theorem fewN_yes (M : Nat) : fewN true M = M := rfl
theorem fewN_no (M : Nat) : fewN false M = 0 := rfl
theorem pow_le8 {L k : Nat} (hL : L ≤ 8) (hk : k ≤ 8) : L ^ k ≤ 16777216 := by
  calc L ^ k ≤ 8 ^ k := Nat.pow_le_pow_left hL k
    _ ≤ 8 ^ 8 := Nat.pow_le_pow_right (by omega) hk
set_option maxRecDepth 10000 in
set_option maxHeartbeats 8000000 in
theorem choices_any (S : Nat → World → Prop) (K0 : Nat) (caps0 : Array Value) (hK : ∀ (args : Array Value) (w : World), (callFunc K0 args).run Try.prog w = .ok (.enter K0 args) w)
    (w : World) (N n : Nat) (a2 : Option Addr) (c2 : Nat) (x2 : List Int) (a3 : Option Addr) (c3 : Nat) (x3 : List Int) (hv : Valid ⟨N, n, x2, x3⟩)
    (hS : ∀ t w1 w2, S t w1 → w1.grownBy w2 (some (w.heap.size + 1)) → S t w2)
    (hdo : ∀ t w1 c, S t w1 → t < x2.length ^ N → w.heap.size + 2 ≤ w1.heap.size → Rd w1 w1.heap.size (some ⟨w.heap.size + 1, 0, none⟩) (ints (chAt x2.length N t)) → Calls Try.prog K0 (#[.slice (some ⟨w.heap.size + 1, 0, none⟩) N c] ++ caps0) w1 fun e w' => e = .returned (.tuple #[]) ∧ S (t + 1) w' ∧ Touch w1 w' 0 w.heap.size)
    (hs : S 0 w) :
    Calls Try.prog 60 #[.agg #[.int .i64 N, .int .i64 n, .slice a2 x2.length c2, .slice a3 x3.length c3], .func (.func K0) #[] caps0] w fun e w' => e = .returned (.bool (fewB ⟨N, n, x2, x3⟩)) ∧ S (fewN (fewB ⟨N, n, x2, x3⟩) (x2.length ^ N)) w' := by
  have hN8 : N ≤ 8 := by have := hv.u8; simp only at this; omega
  have hN1 : 1 ≤ N := by have := hv.u1; simp only at this; omega
  have hL8 : x2.length ≤ 8 := hv.w8
  have hL1 : 1 ≤ x2.length := hv.w1
  have HYes : Hid (x2.length ^ N ≤ 4096 → fewB ⟨N, n, x2, x3⟩ = true) := fun h => few_yes rfl h
  have HNo : Hid (4096 < x2.length ^ N → fewB ⟨N, n, x2, x3⟩ = false) := fun h => few_not rfl h
  have HS := Lib.hid hS
  have HD := Lib.hid hdo
  have HPw := Lib.hid (fun k (hk : k ≤ N) => pow_le8 (L := x2.length) (k := k) hL8 (by omega))
  have Hsp := Lib.hid (fun t ht => chAt_spec hL1 N t ht)
  have Hln := Lib.hid (fun t => chAt_len x2.length N t)
  have KA := Lib.hid (Blk.new w [.int .i64 N, .int .i64 n, .slice a2 x2.length c2, .slice a3 x3.length c3] 28)
  have S1 : Hid (S 0 (w.alloc (.cells #[.int .i64 N, .int .i64 n, .slice a2 x2.length c2, .slice a3 x3.length c3] 28))) := hS 0 w _ hs (below_grownBy (bl1 _ _) _)
  clear hS hdo hv hs
  generalize fewB ⟨(N : Int), (n : Int), x2, x3⟩ = few at *
  go_enter Try.func60, Try.ntmps60
  go_wp2_with fail
  go_loopw [10, 5] (fun i m wr => ∃ (k P : Nat), k ≤ N ∧ i = .int .i64 k ∧ m = .int .i64 P ∧ Hid (P = x2.length ^ k) ∧ wr = w.alloc (.cells #[.int .i64 N, .int .i64 n, .slice a2 x2.length c2, .slice a3 x3.length c3] 28)) (fun i _ _ => N - (intOf i).toNat)
  case atStart => exact ⟨0, 1, Nat.zero_le _, rfl, rfl, rfl, rfl⟩
  case round =>
    obtain ⟨k, P, hk, rfl, rfl, hP, rfl⟩ := hrel
    by_cases hlt : k < N
    · have hPb : P ≤ 16777216 := by rw [hP.out]; exact HPw.out k hk
      have hm0 : (0 : Int) ≤ (P : Int) * (x2.length : Int) := Int.mul_nonneg (by omega) (by omega)
      have hmN : P * x2.length ≤ 16777216 * 8 := Nat.mul_le_mul hPb hL8
      have hm1 : (P : Int) * (x2.length : Int) ≤ 134217728 := by
        have : ((P * x2.length : Nat) : Int) = (P : Int) * (x2.length : Int) := by simp
        omega
      have hcast : Hid (((P * x2.length : Nat) : Int) = (P : Int) * (x2.length : Int)) := by simp [Hid]
      have HP2 : Hid (P * x2.length = x2.length ^ (k + 1)) := by show _ = _; rw [pow_step, hP.out]
      clear hmN hP
      go_wp2_with fail
      go_roundw
      case rel => exact ⟨k + 1, P * x2.length, by omega, by go_num, by rw [hcast.out], HP2, by first | trivial | rfl⟩
      case measure => simp [intOf]; omega
    · have : k = N := by omega
      subst this
      have hPb : P ≤ 16777216 := by rw [hP.out]; exact HPw.out k hk
      by_cases hgt : (4096 : Int) < (P : Int)
      · have HF := Lib.hid (HNo.out (by rw [← hP.out]; omega))
        have HS0 : Hid (S (fewN few (x2.length ^ k)) (w.alloc (.cells #[.int .i64 k, .int .i64 n, .slice a2 x2.length c2, .slice a3 x3.length c3] 28))) := by rw [HF.out, fewN_no]; exact S1.out
        clear hP HYes HNo
        go_wp2_with fail
        go_ret
        exact ⟨ret_bool HF.out.symm, HS0.out⟩
      · have HF := Lib.hid (HYes.out (by rw [← hP.out]; omega))
        have HPN := Lib.hid hP.out
        clear hP HYes HNo HPw
        go_wp2_with (at_make; refine wpList_make_blk _ rfl _ _ 22 rfl 2 (.int .i64 0) 8 Try.underlying22 info_i64p rfl _ _ k rfl rfl (by omega) (by unfold maxLen; omega) ?_)
        intro w2 hb2 hw2 hs2
        try simp at hs2
        try simp at hb2
        have KB : Hid (Blk w2 (w.heap.size + 1) (ints (chAt x2.length k 0)) 2) := by rw [chAt, ← ints_replicate]; exact hb2
        have KA2 := Lib.hid (KA.out.below hw2 (by omega))
        have S2 := Lib.hid (HS.out 0 _ _ S1.out (below_grownBy (hw2.mono (by simp)) _))
        have hsz : w.heap.size + 2 ≤ w2.heap.size := by omega
        clear hb2 hw2 hs2 S1 KA
        go_wp2_with fail
        go_loopw [24] (fun i wr => ∃ t : Nat, t ≤ P ∧ i = .int .i64 t ∧ Hid (S t wr) ∧ Hid (Blk wr (w.heap.size + 1) (ints (chAt x2.length k t)) 2) ∧ Hid (Blk wr w.heap.size [.int .i64 k, .int .i64 n, .slice a2 x2.length c2, .slice a3 x3.length c3] 28) ∧ w.heap.size + 2 ≤ wr.heap.size) (fun i _ => P - (intOf i).toNat)
        case atStart => exact ⟨0, Nat.zero_le _, rfl, S2.out, KB.out, KA2.out, hsz⟩
        case round =>
          clear S2 KB KA2 hsz
          obtain ⟨t, ht, rfl, hSt, hG, hA, hsz⟩ := hrel
          by_cases htl : t < P
          · have htN : t < x2.length ^ k := by rw [← HPN.out]; exact htl
            have HD1 := Lib.hid (HD.out t wr k hSt.out htN hsz (hG.out.rd (by omega)))
            have Hdg := Lib.hid (Hsp.out t htN).1
            have Hcl := Lib.hid (Hln.out t)
            have Hnx : Hid (chAt x2.length k (t + 1) = (nextAt x2.length (chAt x2.length k t) k).1) := rfl
            have hk8 : k ≤ 8 := hN8
            clear hSt htN
            have hKK := Lib.hid hK
            go_wp2_with fail
            refine HD1.out.mono ?_
            rintro e w3 ⟨rfl, hs3, ht3⟩
            have hG3 := Lib.hid (hG.out.touch ht3 (by omega))
            have hA3 := Lib.hid (hA.out.touch ht3 (by omega))
            have hs3' := Lib.hid hs3
            have hsz3 : w.heap.size + 2 ≤ w3.heap.size := Nat.le_trans hsz ht3.size
            clear HD1 hs3 ht3 hG hA hsz
            generalize chAt x2.length k t = ct at *
            go_wp2_with fail
            go_loopw [7] (fun i wi => ∃ (m : Nat) (j : Int) (cur : List Int), m ≤ k ∧ i = .int .i64 j ∧ Hid (j + 1 = (m : Int)) ∧ Hid (cur.length = k) ∧ Hid (digB x2.length cur) ∧ Hid (nextAt x2.length ct k = nextAt x2.length cur m) ∧ Hid (Blk wi (w.heap.size + 1) (ints cur) 2) ∧ Hid (Blk wi w.heap.size [.int .i64 k, .int .i64 n, .slice a2 x2.length c2, .slice a3 x3.length c3] 28) ∧ Hid (S (t + 1) wi) ∧ w.heap.size + 2 ≤ wi.heap.size) (fun i _ => (intOf i + 1).toNat)
            case atStart => exact ⟨k, _, ct, Nat.le_refl _, rfl, by show _ = _; omega, Hcl.out, Hdg.out, rfl, hG3.out, hA3.out, hs3'.out, hsz3⟩
            case round =>
              clear hG3 hA3 hs3' hsz3 Hdg Hcl
              obtain ⟨m, j, cur, hm, rfl, hj, hcl, hd, hnx, hG, hA, hSi, hsz⟩ := hrel
              cases m with
              | zero =>
                have : j = -1 := by have := hj.out; omega
                subst this
                have HG4 : Hid (Blk wr (w.heap.size + 1) (ints (chAt x2.length k (t + 1))) 2) := by
                  show Blk _ _ _ _
                  rw [Hnx.out, hnx.out, nextAt]; exact hG.out
                clear hnx hG hd
                go_wp2_with fail
                go_roundw
                case rel => exact ⟨t + 1, by omega, by go_num, hSi.out, HG4.out, hA.out, hsz⟩
                case measure => simp [intOf]; omega
              | succ m =>
                have : j = (m : Int) := by have := hj.out; omega
                subst this
                have hkc : m < cur.length := by have := hcl.out; omega
                have e1 := hG.out.at hkc
                have f1 := hG.out.free m
                obtain ⟨y0, y1⟩ := digB_get hd.out hkc
                have Hdz := Lib.hid (digB_set hd.out hL1 m)
                have hlt : m < k := by omega
                have q2 := (hA.out.oth (g := w.heap.size + 1) (by omega) m (.int .i64 (cur.getD m 0 + 1))).cell 2
                simp only [List.getElem?_cons_zero, List.getElem?_cons_succ] at q2
                by_cases hy : cur.getD m 0 + 1 < (x2.length : Int)
                · have HF : Hid (nextAt x2.length ct k = (cur.set m (cur.getD m 0 + 1), true)) := hnx.out.trans (nextAt_yes hy)
                  have HG2 : Hid (Blk (wr.setCell ⟨w.heap.size + 1, m, none⟩ (.int .i64 (cur.getD m 0 + 1))) (w.heap.size + 1) (ints (chAt x2.length k (t + 1))) 2) := by
                    show Blk _ _ _ _
                    rw [Hnx.out, HF.out]
                    exact hG.out.setI m _
                  have HA2 := Lib.hid (hA.out.oth (g := w.heap.size + 1) (by omega) m (.int .i64 (cur.getD m 0 + 1)))
                  have HS2 := Lib.hid (HS.out _ _ _ hSi.out (setg_grown wr (w.heap.size + 1) m (.int .i64 (cur.getD m 0 + 1))))
                  have e2 := (hG.out.setI m (cur.getD m 0 + 1)).at (k := m) (by rw [List.length_set]; exact hkc)
                  have hge : (cur.set m (cur.getD m 0 + 1)).getD m 0 = cur.getD m 0 + 1 := getD_set_same hkc _
                  rw [hge] at e2
                  have hsz2 : w.heap.size + 2 ≤ (wr.setCell ⟨w.heap.size + 1, m, none⟩ (.int .i64 (cur.getD m 0 + 1))).heap.size := by simpa using hsz
                  have Hsz2 := Lib.hid hsz2
                  generalize cur.getD m 0 = y at *
                  clear hnx hG hd hkc hge hsz2 hSi hA
                  go_wp2_with fail
                  go_quiet (fail)
                  go_wp2_with fail
                  go_roundw
                  case rel => exact ⟨t + 1, by omega, by go_num, HS.out _ _ _ HS2.out (by first | exact World.grownBy.refl _ _ | exact below_grownBy (below_drewN (Below.refl _ _) _) _), HG2.out, HA2.out, Hsz2.out⟩
                  case measure => simp [intOf]; omega
                · have HF : Hid (nextAt x2.length ct k = nextAt x2.length (cur.set m 0) m) := hnx.out.trans (nextAt_no hy)
                  have hS0 := hG.out.setI m (cur.getD m 0 + 1)
                  have f2 := hS0.free m
                  have e2 := hS0.at (k := m) (by rw [List.length_set]; exact hkc)
                  have hge : (cur.set m (cur.getD m 0 + 1)).getD m 0 = cur.getD m 0 + 1 := getD_set_same hkc _
                  rw [hge] at e2
                  have HX : Hid (∀ d : Nat, Blk (((wr.setCell ⟨w.heap.size + 1, m, none⟩ (.int .i64 (cur.getD m 0 + 1))).drewN d).setCell ⟨w.heap.size + 1, m, none⟩ (.int .i64 0)) (w.heap.size + 1) (ints (cur.set m 0)) 2) := fun d => by
                    have := (hS0.drewN d).setI m 0
                    rwa [List.set_set] at this
                  have HA2 : Hid (∀ d : Nat, Blk (((wr.setCell ⟨w.heap.size + 1, m, none⟩ (.int .i64 (cur.getD m 0 + 1))).drewN d).setCell ⟨w.heap.size + 1, m, none⟩ (.int .i64 0)) w.heap.size [.int .i64 k, .int .i64 n, .slice a2 x2.length c2, .slice a3 x3.length c3] 28) := fun d => ((hA.out.oth (g := w.heap.size + 1) (by omega) m (.int .i64 (cur.getD m 0 + 1))).drewN d).oth (g := w.heap.size + 1) (by omega) m (.int .i64 0)
                  have HS2 : Hid (∀ d : Nat, S (t + 1) (((wr.setCell ⟨w.heap.size + 1, m, none⟩ (.int .i64 (cur.getD m 0 + 1))).drewN d).setCell ⟨w.heap.size + 1, m, none⟩ (.int .i64 0))) := fun d =>
                    HS.out _ _ _ (HS.out _ _ _ (HS.out _ _ _ hSi.out (setg_grown wr (w.heap.size + 1) m (.int .i64 (cur.getD m 0 + 1)))) (below_grownBy (below_drewN (Below.refl _ _) d) _)) (setg_grown _ (w.heap.size + 1) m (.int .i64 0))
                  have hcl2 : Hid ((cur.set m 0).length = k) := by rw [Hid, List.length_set]; exact hcl.out
                  generalize cur.getD m 0 = y at *
                  clear hnx hG hd hkc hge hSi hA hS0
                  go_wp2_with fail
                  go_quiet (fail)
                  go_wp2_with fail
                  go_roundw
                  case rel => exact ⟨m, (m : Int) - 1, cur.set m 0, by omega, by go_num, by show _ = _; omega, hcl2.out, Hdz.out, HF.out, HX.out _, HA2.out _, HS2.out _, by simpa using hsz⟩
                  case measure => simp [intOf]
          · have : t = P := by omega
            subst this
            have HST : Hid (S (fewN few (x2.length ^ k)) wr) := by rw [HF.out, fewN_yes, ← HPN.out]; exact hSt.out
            clear hSt hG hA
            go_wp2_with fail
            go_ret
            exact ⟨ret_bool HF.out.symm, HST.out⟩
end Go.Proofs.Ytbgclfbhdpgdaaa
