/-
  What is saved, read in front of a text: the reference's road (its lines are printed by takenGen.py).
-/
import Derived.Test.YteclpcmbicjjgaaTaken
import Derived.Test.YteclpcmbicjjgaaLater
namespace Go.Proofs.Yteclpcmbicjjgaa
set_option linter.unusedVariables false
set_option linter.unusedSimpArgs false
open Go.RowKit

theorem readF_snoc (r : ByteArray) (less : Int) (k : Nat) : readF r less (k + 1) = readF r less k ++ [bAt r (2 * k) + 256 * bAt r (2 * k + 1) - less] := by simp [readF, List.range_succ]
@[simp] theorem readF_length (r : ByteArray) (less : Int) (k : Nat) : (readF r less k).length = k := by simp [readF]
theorem bgW_many {s name : ByteArray} {R C : Int} {A B : List Int} {p kn : Nat} (hk : bAt s p = (kn : Int)) (h : 6 < kn) : bgW s name R C A B p = none := by
  unfold bgW; rw [hk, if_pos]
  simp only [Bool.or_eq_true, decide_eq_true_eq]; left; omega
theorem bgW_short {s name : ByteArray} {R C : Int} {A B : List Int} {p kn m : Nat} (hk : bAt s p = (kn : Int)) (hm : m = 2 * 2 ^ kn) (h : s.size < p + 1 + m + 2) : bgW s name R C A B p = none := by
  unfold bgW; rw [hk, Int.toNat_natCast, ← hm, if_pos]
  simp only [Bool.or_eq_true, decide_eq_true_eq]; right; omega
theorem bgW_end {s name : ByteArray} {R C : Int} {A B : List Int} {p kn j m : Nat} (hk : bAt s p = (kn : Int)) (hj : j = 2 ^ kn) (hm : m = 2 * j) (h6 : ¬ 6 < kn) (h : ¬ s.size < p + 1 + m + 2) :
    bgW s name R C A B p = bgEnd s ⟨name, R, C, A, B, kn, readF (s.extract (p + 1) s.size) 10000 j⟩ (p + 1 + m) := by
  unfold bgW; rw [hk, Int.toNat_natCast, ← hj, ← hm, if_neg]
  simp only [Bool.or_eq_true, decide_eq_true_eq, not_or]; omega
theorem info_i64L : (Try.prog.info? 2).map (fun i => (i.zero, i.size, i.bytes)) = some (some (.int .i64 0), 1, 8) := by kernel_rfl
theorem read_num (x y : UInt8) (less : Int) (h0 : 0 ≤ less) (h1 : less ≤ 65536) : IntKind.i64.wrap (IntKind.i64.wrap (IntKind.i64.wrap (x.toNat : Int) + IntKind.i64.wrap (256 * IntKind.i64.wrap (y.toNat : Int))) - less) = (x.toNat : Int) + 256 * (y.toNat : Int) - less := by
  have hx := x.toNat_lt
  have hy := y.toNat_lt
  rw [IntWalk.i64_in (x.toNat : Int) (by omega), IntWalk.i64_in (y.toNat : Int) (by omega), IntWalk.i64_in (256 * (y.toNat : Int)) (by omega), IntWalk.i64_in ((x.toNat : Int) + 256 * (y.toNat : Int)) (by omega), IntWalk.i64_in _ (by omega)]
set_option maxRecDepth 60000 in
set_option maxHeartbeats 4000000 in
theorem l07Read_any (w : World) (r : ByteArray) (count : Nat) (less : Int) (hc : 2 * count ≤ r.size) (hr : r.size ≤ 1048576) (hl0 : 0 ≤ less) (hl1 : less ≤ 65536) :
    Calls Try.prog 83 #[.string r, .int .i64 count, .int .i64 less] w fun e w' => ∃ a c, e = .returned (.slice a count c) ∧ OwnI 2 w' w.heap.size w'.heap.size a c (readF r less count) ∧ Below w.heap.size w w' := by
  have HN : Hid (∀ k, ints (readF r less (k + 1)) = ints (readF r less k) ++ [.int .i64 (bAt r (2 * k) + 256 * bAt r (2 * k + 1) - less)]) := fun k => by rw [readF_snoc, ints_append]; rfl
  go_enter Try.func83, Try.ntmps83
  go_wp2_with fail
  go_loopw [8, 7] (fun iv v wr => ∃ (k : Nat) (a : Option Addr) (c : Nat), k ≤ count ∧ iv = .int .i64 k ∧ v = .slice a k c ∧ Hid (wr.ownsRow w.heap.size 2 1 (.slice a k c) k (ints (readF r less k))) ∧ Below w.heap.size w wr) (fun iv _ _ => count - (intOf iv).toNat)
  case atStart => exact ⟨0, _, _, Nat.zero_le _, rfl, rfl, own_empty w _, bl1 w _⟩
  case round =>
    obtain ⟨k, a, c, hk, rfl, rfl, hO, hw⟩ := hrel
    by_cases hlt : k < count
    · have k0 : (0 : Int) ≤ (k : Int) := Int.natCast_nonneg _
      have k1 : (k : Int) < (count : Int) := by omega
      have HNk := Lib.hid (HN.out k)
      obtain ⟨u, hu⟩ : ∃ u : Nat, u = 2 * k := ⟨_, rfl⟩
      obtain ⟨v, hv⟩ : ∃ v : Nat, v = 2 * k + 1 := ⟨_, rfl⟩
      rw [← hv, ← hu] at HNk
      have q0 : u < r.size := by omega
      have q1 : v < r.size := by omega
      have e0 : IntKind.i64.wrap (2 * (k : Int)) = (u : Int) := by rw [IntWalk.i64_in _ (by omega)]; omega
      have e1 : IntKind.i64.wrap ((u : Int) + 1) = (v : Int) := by rw [IntWalk.i64_in _ (by omega)]; omega
      have u0 : (0 : Int) ≤ (u : Int) := Int.natCast_nonneg _
      have v0 : (0 : Int) ≤ (v : Int) := Int.natCast_nonneg _
      have q0' : (u : Int) < (r.size : Int) := by omega
      have q1' : (v : Int) < (r.size : Int) := by omega
      have b0 := bAt_bd r u
      have b1 := bAt_bd r v
      rw [bAt_get r q0] at HNk b0
      rw [bAt_get r q1] at HNk b1
      clear hu hv
      have hws := hw.size
      have W1 := Lib.hid hw
      go_wp2_with fail
      have hO1d : Hid (wr.drew.ownsRow w.heap.size 2 1 (.slice a k c) k (ints (readF r less k))) := hO.out
      have hs1 : w.heap.size ≤ wr.drew.heap.size := hws
      go_region_held_law (fun _ => True)
        (trivial)
        ((refine step_num 32 (by rfl) (by rfl) _ _ 22 (by rfl) w.heap.size 2 (.int .i64 0) 8 Try.underlying22 info_i64L (by rfl) _ k _ (by rfl) (hO1d.out.alloc _) _ _ (by rfl) (by rfl) (Blk.new wr.drew [_] _) (by decide) (by omega) (Nat.le_trans hs1 (by simp)) ?_; intro g5 c5 w5 ho5 hg5))
      all_goals
        rw [read_num _ _ _ hl0 hl1, ← HNk.out] at ho5
        have HO5 := Lib.hid ho5
        have hb5 : Below w.heap.size wr w5 := ((below_drew' (Below.refl w.heap.size wr)).alloc hs1 _).trans (below_append (Below.refl w.heap.size _) (hO1d.out.alloc _) hg5 (Nat.le_refl _) (Nat.le_trans hs1 (by simp)))
        have W5 := W1.out.trans hb5
        clear ho5 hg5 hb5
        go_wp2_with fail
        go_roundw
        case rel => exact ⟨k + 1, _, _, by omega, by go_num, rfl, HO5.out, W5⟩
        case measure => first | (simp [intOf]; done) | (simp [intOf]; omega)
    · have : k = count := by omega
      subst this
      have hOI : OwnI 2 wr w.heap.size wr.heap.size a c (readF r less k) := by
        refine OwnI.of_own ?_
        rw [readF_length]; exact hO.out
      have HOI := Lib.hid hOI
      clear hO hOI
      go_wp2_with fail
      go_ret
      exact ⟨a, c, rfl, HOI.out, hw⟩
/-- The result's cell and what is read so far. -/
structure BW (w wX : World) (cs : List Value) : Prop where
  B : Below w.heap.size w wX
  R : Blk wX w.heap.size [.string ⟨#[]⟩, .int .i64 0, .int .i64 0, .slice none 0 0, .slice none 0 0, .int .i64 0, .slice none 0 0] 34
  V : Blk wX (w.heap.size + 1) cs 34
  S : w.heap.size + 2 ≤ wX.heap.size
section
variable {w wX wY : World} {cs : List Value}
theorem BW.below (h : BW w wX cs) (hb : Below wX.heap.size wX wY) : BW w wY cs := ⟨below_then h.B hb, h.R.same hb, h.V.same hb, Nat.le_trans h.S hb.size⟩
theorem BW.set (h : BW w wX cs) (j : Nat) (u : Value) : BW w (wX.setCell ⟨w.heap.size + 1, j, none⟩ u) (cs.set j u) :=
  ⟨below_sto h.B (Nat.le_succ _) j u, h.R.oth (by omega) j u, h.V.set j u, by simpa using h.S⟩
theorem BW.drewN (h : BW w wX cs) (n : Nat) : BW w (wX.drewN n) cs := h.below (drewN_below wX n)
end
set_option maxRecDepth 10000 in
set_option maxHeartbeats 8000000 in
theorem l07Begin_any (w : World) (s : ByteArray) (hs : s.size ≤ 1048576) : Calls Try.prog 54 #[.string s] w (TakenR w (beginF s)) := by
  have KR0 := Lib.hid (Blk.new w zero7.toList 34)
  have B0 := Lib.hid (bl1 w (.cells zero7 34))
  have HF : Hid (beginF s = if s.size < 5 then none else bgN s (5 + (bAt s 4).toNat)) := rfl
  generalize beginF s = F at *
  have s0 : (0 : Int) ≤ (s.size : Int) := Int.natCast_nonneg _
  have s1 : (s.size : Int) ≤ 1048576 := by omega
  have HS := Lib.hid hs
  clear hs
  by_cases h5 : s.size < 5
  · have HFn : Hid (F = none) := by rw [Hid, HF.out, if_pos h5]
    have h5i : (s.size : Int) < 5 := by omega
    go_enter Try.func54, Try.ntmps54
    go_wp2_with fail
    obtain ⟨r0, r1, r2, r3, r4, r5, r6⟩ := cells7 KR0.out
    exact bodyPost_ret (v := .tuple #[.agg zero7, .int .i64 0]) (by simp [results, Try.results54, go_sem, zero7]) rfl (TakenR.no HFn.out B0.out)
  · have HF1 : Hid (F = bgN s (5 + (bAt s 4).toNat)) := by rw [Hid, HF.out, if_neg h5]
    clear HF
    have h5i : ¬ (s.size : Int) < 5 := by omega
    have l4 : 4 < s.size := by omega
    have l4i : (4 : Int) < (s.size : Int) := by omega
    have b4 := bAt_bd s 4
    rw [bAt_get s l4] at b4 HF1
    obtain ⟨nb, hnb⟩ : ∃ n : Nat, s[4].toNat = n := ⟨_, rfl⟩
    rw [hnb] at b4 HF1
    have e4 : wrap64 (s[4].toNat : Int) = (nb : Int) := by rw [hnb]; exact IntWalk.wrap64_in _ (by omega)
    obtain ⟨p1, hp1⟩ : ∃ p : Nat, p = 5 + nb := ⟨_, rfl⟩
    have e5 : 5 + (nb : Int) = (p1 : Int) := by omega
    obtain ⟨p2, hp2⟩ : ∃ p : Nat, p = p1 + 2 := ⟨_, rfl⟩
    have e6 : (p1 : Int) + 2 = (p2 : Int) := by omega
    have HF2 : Hid (F = if s.size < p2 then none else bgG s (s.extract 5 p1) (bAt s p1) (bAt s (p1 + 1)) p2) := by rw [Hid, HF1.out, hp2, hp1]; rfl
    have u1 : (0 : Int) ≤ (p1 : Int) := Int.natCast_nonneg _
    have u2 : (5 : Int) ≤ (p1 : Int) := by omega
    have u3 : (p1 : Int) ≤ 260 := by omega
    have HP1 := Lib.hid hp1
    have HP2 := Lib.hid hp2
    clear HF1 h5 hp1 hnb
    by_cases h2 : s.size < p2
    · have HFn : Hid (F = none) := by rw [Hid, HF2.out, if_pos h2]
      have h2i : (s.size : Int) < (p2 : Int) := by omega
      clear hp2
      go_enter Try.func54, Try.ntmps54
      go_wp2_with fail
      obtain ⟨r0, r1, r2, r3, r4, r5, r6⟩ := cells7 KR0.out
      exact bodyPost_ret (v := .tuple #[.agg zero7, .int .i64 0]) (by simp [results, Try.results54, go_sem, zero7]) rfl (TakenR.no HFn.out B0.out)
    · have HF3 : Hid (F = bgG s (s.extract 5 p1) (bAt s p1) (bAt s (p1 + 1)) p2) := by rw [Hid, HF2.out, if_neg h2]
      have h2i : ¬ (s.size : Int) < (p2 : Int) := by omega
      have h2j : (p2 : Int) ≤ (s.size : Int) := by omega
      have h1j : (p1 : Int) ≤ (s.size : Int) := by omega
      obtain ⟨v, hv⟩ : ∃ v : Nat, v = p1 + 1 := ⟨_, rfl⟩
      have q0 : p1 < s.size := by omega
      have q1 : v < s.size := by omega
      have q0' : (p1 : Int) < (s.size : Int) := by omega
      have q1' : (v : Int) < (s.size : Int) := by omega
      have v0 : (0 : Int) ≤ (v : Int) := Int.natCast_nonneg _
      have e7 : IntKind.i64.wrap ((p1 : Int) + 1) = (v : Int) := by rw [IntWalk.i64_in _ (by omega)]; omega
      rw [← hv] at HF3
      clear HF2 hp2 h2 hv
      have nmL : (s.extract 5 p1).size ≤ 1048576 := by rw [ByteArray.size_extract]; omega
      generalize hnm : s.extract 5 p1 = nm at *
      have KV0 := Lib.hid (blkat1S w (.cells zero7 34) [.string nm, .int .i64 0, .int .i64 0, .slice none 0 0, .slice none 0 0, .int .i64 0, .slice none 0 0] 34)
      go_enter Try.func54, Try.ntmps54
      go_wp2_with fail
      obtain ⟨wA, hwA⟩ : ∃ X, X = (w.alloc (.cells #[.string ⟨#[]⟩, .int .i64 0, .int .i64 0, .slice none 0 0, .slice none 0 0, .int .i64 0, .slice none 0 0] 34)).alloc (.cells #[.string nm, .int .i64 0, .int .i64 0, .slice none 0 0, .slice none 0 0, .int .i64 0, .slice none 0 0] 34) := ⟨_, rfl⟩
      have WA : Hid (BW w wA [.string nm, .int .i64 0, .int .i64 0, .slice none 0 0, .slice none 0 0, .int .i64 0, .slice none 0 0]) := by rw [hwA]; exact ⟨bl2 w _ _, KR0.out.alloc _, KV0.out, by simp⟩
      rw [← hwA]
      clear hwA KR0 KV0 B0
      have bR := bAt_bd s p1
      have bC := bAt_bd s v
      rw [bAt_get s q0] at bR HF3
      rw [bAt_get s q1] at bC HF3
      obtain ⟨Rn, hRn⟩ : ∃ n : Nat, s[p1].toNat = n := ⟨_, rfl⟩
      obtain ⟨Cn, hCn⟩ : ∃ n : Nat, s[v].toNat = n := ⟨_, rfl⟩
      rw [hRn] at bR HF3
      rw [hCn] at bC HF3
      have eR : IntKind.i64.wrap (s[p1].toNat : Int) = (Rn : Int) := by rw [hRn]; exact IntWalk.i64_in _ (by omega)
      have eC : IntKind.i64.wrap (s[v].toNat : Int) = (Cn : Int) := by rw [hCn]; exact IntWalk.i64_in _ (by omega)
      have bRC : Rn * Cn ≤ 255 * 255 := Nat.mul_le_mul (by omega) (by omega)
      obtain ⟨n, hn⟩ : ∃ n : Nat, n = Rn * Cn := ⟨_, rfl⟩
      rw [← hn] at bRC
      have eRC : IntKind.i64.wrap ((Rn : Int) * (Cn : Int)) = (n : Int) := by
        have : (Rn : Int) * (Cn : Int) = (n : Int) := by rw [hn]; exact (Int.natCast_mul Rn Cn).symm
        rw [this]; exact IntWalk.i64_in _ (by omega)
      have nRC : ((Rn : Int) * (Cn : Int)).toNat = n := by
        have : (Rn : Int) * (Cn : Int) = (n : Int) := by rw [hn]; exact (Int.natCast_mul Rn Cn).symm
        rw [this]; exact Int.toNat_natCast n
      have HF4 : Hid (F = if s.size < p2 + 4 * n + 1 then none else bgW s nm Rn Cn (readF (s.extract p2 s.size) 1000 n) (readF (s.extract (p2 + 2 * n) s.size) 1000 n) (p2 + 4 * n)) := by rw [Hid, HF3.out]; unfold bgG; rw [nRC]
      clear HF3 hRn hCn hn nRC bR bC
      have f1 := WA.out.V.free 1
      have f2 := WA.out.V.free 2
      have f3 := WA.out.V.free 3
      have f4 := WA.out.V.free 4
      obtain ⟨z0, z1, z2, z3, z4, z5, z6⟩ := cells7 WA.out.V
      go_region
      clear z0 z1 z2 z3 z4 z5 z6 f1 f2 f3 f4
      have WX := ((((WA.out.set 1 (.int .i64 Rn)).set 2 (.int .i64 Cn)).set 3 (.slice none 0 0)).set 4 (.slice none 0 0)).drewN 1
      simp only [List.set_cons_zero, List.set_cons_succ] at WX
      obtain ⟨wB, hwB⟩ : ∃ X, X = ((((wA.setCell ⟨w.heap.size + 1, 1, none⟩ (.int .i64 Rn)).setCell ⟨w.heap.size + 1, 2, none⟩ (.int .i64 Cn)).setCell ⟨w.heap.size + 1, 3, none⟩ (.slice none 0 0)).setCell ⟨w.heap.size + 1, 4, none⟩ (.slice none 0 0)).drew := ⟨_, rfl⟩
      have WB : Hid (BW w wB [.string nm, .int .i64 Rn, .int .i64 Cn, .slice none 0 0, .slice none 0 0, .int .i64 0, .slice none 0 0]) := by rw [hwB]; exact WX
      rw [← hwB]
      clear hwB WX WA
      go_wp2_with fail
      go_quiet (fail)
      obtain ⟨wC, hwC⟩ : ∃ X, X = wB.drewN nq := ⟨_, rfl⟩
      have WC : Hid (BW w wC [.string nm, .int .i64 Rn, .int .i64 Cn, .slice none 0 0, .slice none 0 0, .int .i64 0, .slice none 0 0]) := by rw [hwC]; exact WB.out.drewN nq
      rw [← hwC]
      clear hwC WB
      have HP1n := Lib.hid e5
      have HP2n := Lib.hid e6
      clear e5 eR eC eRC e7 e4
      obtain ⟨n4, hn4⟩ : ∃ n' : Nat, n' = 4 * n := ⟨_, rfl⟩
      obtain ⟨p3, hp3⟩ : ∃ p : Nat, p = p2 + n4 := ⟨_, rfl⟩
      obtain ⟨p4, hp4⟩ : ∃ p : Nat, p = p3 + 1 := ⟨_, rfl⟩
      have e8 : 4 * (n : Int) = (n4 : Int) := by omega
      have e9 : (p2 : Int) + (n4 : Int) = (p3 : Int) := by omega
      have e10 : (p3 : Int) + 1 = (p4 : Int) := by omega
      have nb4 : (n4 : Int) ≤ 300000 := by omega
      have n0 : (0 : Int) ≤ (n : Int) := Int.natCast_nonneg _
      have n1 : (n : Int) ≤ 65025 := by omega
      have p2b : (p2 : Int) ≤ 300 := by have := HP2.out; omega
      have p20 : (0 : Int) ≤ (p2 : Int) := Int.natCast_nonneg _
      have p30 : (0 : Int) ≤ (p3 : Int) := Int.natCast_nonneg _
      have p3b : (p3 : Int) ≤ 300300 := by omega
      have HF5 : Hid (F = if s.size < p4 then none else bgW s nm Rn Cn (readF (s.extract p2 s.size) 1000 n) (readF (s.extract (p2 + 2 * n) s.size) 1000 n) p3) := by rw [Hid, HF4.out, hp4, hp3, hn4]
      clear HF4
      by_cases h4 : s.size < p4
      · have HFn : Hid (F = none) := by rw [Hid, HF5.out, if_pos h4]
        have h4i : (s.size : Int) < (p4 : Int) := by omega
        clear hn4 hp3 hp4
        obtain ⟨wz, hwz⟩ : ∃ X, X = ((((((wC.setCell ⟨w.heap.size, 0, none⟩ (.string ⟨#[]⟩)).setCell ⟨w.heap.size, 1, none⟩ (.int .i64 0)).setCell ⟨w.heap.size, 2, none⟩ (.int .i64 0)).setCell ⟨w.heap.size, 3, none⟩ (.slice none 0 0)).setCell ⟨w.heap.size, 4, none⟩ (.slice none 0 0)).setCell ⟨w.heap.size, 5, none⟩ (.int .i64 0)).setCell ⟨w.heap.size, 6, none⟩ (.slice none 0 0) := ⟨_, rfl⟩
        obtain ⟨KZ, BZ⟩ : Blk wz w.heap.size [.string ⟨#[]⟩, .int .i64 0, .int .i64 0, .slice none 0 0, .slice none 0 0, .int .i64 0, .slice none 0 0] 34 ∧ Below w.heap.size w wz := by rw [hwz]; exact zeroed_of WC.out.B WC.out.R
        have HZ := Lib.hid hwz
        clear hwz
        obtain ⟨r0, r1, r2, r3, r4, r5, r6⟩ := cells7 WC.out.R
        have f0 := WC.out.R.free 0
        have f1 := WC.out.R.free 1
        have f2 := WC.out.R.free 2
        have f3 := WC.out.R.free 3
        have f4 := WC.out.R.free 4
        have f5 := WC.out.R.free 5
        have f6 := WC.out.R.free 6
        go_wp2_with fail
        rw [← HZ.out]
        clear r0 r1 r2 r3 r4 r5 r6
        obtain ⟨r0, r1, r2, r3, r4, r5, r6⟩ := cells7 KZ
        exact bodyPost_ret (v := .tuple #[.agg zero7, .int .i64 0]) (by simp [results, Try.results54, go_sem, zero7, r0, r1, r2, r3, r4, r5, r6]) rfl (TakenR.no HFn.out BZ)
      · have h4i : ¬ (s.size : Int) < (p4 : Int) := by omega
        have HF6 : Hid (F = bgW s nm Rn Cn (readF (s.extract p2 s.size) 1000 n) (readF (s.extract (p2 + 2 * n) s.size) 1000 n) p3) := by rw [Hid, HF5.out, if_neg h4]
        clear HF5
        have h2n : (p2 : Int) ≤ (s.size : Int) := by omega
        obtain ⟨n2, hn2⟩ : ∃ n' : Nat, n' = 2 * n := ⟨_, rfl⟩
        obtain ⟨p5, hp5⟩ : ∃ p : Nat, p = p2 + n2 := ⟨_, rfl⟩
        have E11 : Hid (2 * (n : Int) = (n2 : Int)) := by rw [Hid]; omega
        have E12 : Hid ((p2 : Int) + (n2 : Int) = (p5 : Int)) := by rw [Hid]; omega
        have p50 : (0 : Int) ≤ (p5 : Int) := Int.natCast_nonneg _
        have p5s : (p5 : Int) ≤ (s.size : Int) := by omega
        have Q3 : Hid (p3 < s.size) := by rw [Hid]; omega
        rw [show p2 + 2 * n = p5 by omega] at HF6
        have sA : (s.extract p2 s.size).size = s.size - p2 := by rw [ByteArray.size_extract]; omega
        have sB : (s.extract p5 s.size).size = s.size - p5 := by rw [ByteArray.size_extract]; omega
        have LA := Lib.hid (fun w' => l07Read_any w' (s.extract p2 s.size) n 1000 (by omega) (by have := HS.out; omega) (by omega) (by omega))
        have LB := Lib.hid (fun w' => l07Read_any w' (s.extract p5 s.size) n 1000 (by omega) (by have := HS.out; omega) (by omega) (by omega))
        have HA : Hid ((readF (s.extract p2 s.size) 1000 n).length = n) := readF_length (s.extract p2 s.size) 1000 n
        have HB : Hid ((readF (s.extract p5 s.size) 1000 n).length = n) := readF_length (s.extract p5 s.size) 1000 n
        generalize readF (s.extract p2 s.size) 1000 n = A at *
        generalize readF (s.extract p5 s.size) 1000 n = B at *
        have E8 := Lib.hid e8
        have E9 := Lib.hid e9
        have E10 := Lib.hid e10
        clear hn4 hp3 hp4 hn2 hp5 h4 sA sB
        obtain ⟨z0, z1, z2, z3, z4, z5, z6⟩ := cells7 WC.out.V
        have f3 := WC.out.V.free 3
        go_wp2_with fail
        refine (LA.out _).mono ?_
        rintro e wD ⟨aA, cA, rfl, OA, hb⟩
        have WD := Lib.hid (WC.out.below hb)
        have OAD := Lib.hid OA
        have sD := hb.size
        have sC := WC.out.S
        clear hb OA z0 z1 z2 z3 z4 z5 z6 f3 WC LA
        have f3 := WD.out.V.free 3
        obtain ⟨z0, z1, z2, z3, z4, z5, z6⟩ := cells7 WD.out.V
        have e11 := E11.out
        have e12 := E12.out
        clear e8 e9 e10 e6
        go_wp2_with fail
        clear z0 z1 z2 z3 z4 z5 z6 f3
        have WX := WD.out.set 3 (.slice aA n cA)
        have TX := touch_setK wD (w.heap.size + 1) 3 (.slice aA n cA)
        simp only [List.set_cons_zero, List.set_cons_succ] at WX
        obtain ⟨wE, hwE⟩ : ∃ X, X = wD.setCell ⟨w.heap.size + 1, 3, none⟩ (.slice aA n cA) := ⟨_, rfl⟩
        rw [← hwE] at WX TX ⊢
        clear hwE
        have WE := Lib.hid WX
        have OAE := Lib.hid (OAD.out.touch TX (.inr (by omega)))
        have sE := TX.size
        clear WX TX WD OAD
        refine (LB.out _).mono ?_
        rintro e wF ⟨aB, cB, rfl, OB, hb⟩
        have WF := Lib.hid (WE.out.below hb)
        have OAF := Lib.hid (OAE.out.keep hb)
        have OBF := Lib.hid OB
        have sF := hb.size
        clear hb OB WE OAE LB e11 e12
        have f4 := WF.out.V.free 4
        obtain ⟨z0, z1, z2, z3, z4, z5, z6⟩ := cells7 WF.out.V
        go_upto_region 14 with fail
        have e8 := E8.out
        have e9 := E9.out
        go_upto_region 15 with fail
        clear z0 z1 z2 z3 z4 z5 z6 f4 e8 e9
        have WX := WF.out.set 4 (.slice aB n cB)
        have TX := touch_setK wF (w.heap.size + 1) 4 (.slice aB n cB)
        simp only [List.set_cons_zero, List.set_cons_succ] at WX
        obtain ⟨wG, hwG⟩ : ∃ X, X = wF.setCell ⟨w.heap.size + 1, 4, none⟩ (.slice aB n cB) := ⟨_, rfl⟩
        rw [← hwG] at WX TX ⊢
        clear hwG
        have WG := Lib.hid WX
        have OAG := Lib.hid (OAF.out.touch TX (.inr (by omega)))
        have OBG := Lib.hid (OBF.out.touch TX (.inr (by omega)))
        have sG := TX.size
        clear WX TX WF OAF OBF
        have q3 := Q3.out
        have bK := bAt_bd s p3
        have q3i : (p3 : Int) < (s.size : Int) := by omega
        rw [bAt_get s q3] at bK
        obtain ⟨kn, hkn⟩ : ∃ n : Nat, s[p3].toNat = n := ⟨_, rfl⟩
        rw [hkn] at bK
        have HBK : Hid (bAt s p3 = (kn : Int)) := by rw [Hid, bAt_get s q3, hkn]
        have eK : wrap64 (s[p3].toNat : Int) = (kn : Int) := by rw [hkn]; exact IntWalk.wrap64_in _ (by omega)
        clear hkn h4i
        go_upto_region 16 with fail
        have e10 := E10.out
        simp only [eK]
        clear eK
        go_upto_region 17 with fail
        have p4b : (p4 : Int) ≤ 300301 := by omega
        have p40 : (0 : Int) ≤ (p4 : Int) := Int.natCast_nonneg _
        have HP4 := Lib.hid e10
        clear e10
        have kn0 : (0 : Int) ≤ (kn : Int) := Int.natCast_nonneg _
        by_cases hk6 : 6 < kn
        · have HFn : Hid (F = none) := HF6.out.trans (bgW_many HBK.out hk6)
          have hk6i : (6 : Int) < (kn : Int) := by omega
          clear hk6
          obtain ⟨wz, hwz⟩ : ∃ X, X = ((((((wG.setCell ⟨w.heap.size, 0, none⟩ (.string ⟨#[]⟩)).setCell ⟨w.heap.size, 1, none⟩ (.int .i64 0)).setCell ⟨w.heap.size, 2, none⟩ (.int .i64 0)).setCell ⟨w.heap.size, 3, none⟩ (.slice none 0 0)).setCell ⟨w.heap.size, 4, none⟩ (.slice none 0 0)).setCell ⟨w.heap.size, 5, none⟩ (.int .i64 0)).setCell ⟨w.heap.size, 6, none⟩ (.slice none 0 0) := ⟨_, rfl⟩
          obtain ⟨KZ, BZ⟩ : Blk wz w.heap.size [.string ⟨#[]⟩, .int .i64 0, .int .i64 0, .slice none 0 0, .slice none 0 0, .int .i64 0, .slice none 0 0] 34 ∧ Below w.heap.size w wz := by rw [hwz]; exact zeroed_of WG.out.B WG.out.R
          have HZ := Lib.hid hwz
          clear hwz
          obtain ⟨r0, r1, r2, r3, r4, r5, r6⟩ := cells7 WG.out.R
          have f0 := WG.out.R.free 0
          have f1 := WG.out.R.free 1
          have f2 := WG.out.R.free 2
          have f3 := WG.out.R.free 3
          have f4 := WG.out.R.free 4
          have f5 := WG.out.R.free 5
          have f6 := WG.out.R.free 6
          go_wp2_with fail
          rw [← HZ.out]
          clear r0 r1 r2 r3 r4 r5 r6
          obtain ⟨r0, r1, r2, r3, r4, r5, r6⟩ := cells7 KZ
          exact bodyPost_ret (v := .tuple #[.agg zero7, .int .i64 0]) (by simp [results, Try.results54, go_sem, zero7, r0, r1, r2, r3, r4, r5, r6]) rfl (TakenR.no HFn.out BZ)
        · have hk6i : ¬ (6 : Int) < (kn : Int) := by omega
          have hk7 : (kn : Int) ≤ 6 := by omega
          obtain ⟨j, hj⟩ : ∃ j : Nat, j = 2 ^ kn := ⟨_, rfl⟩
          obtain ⟨m, hm⟩ : ∃ m : Nat, m = 2 * j := ⟨_, rfl⟩
          have hj64 : j ≤ 64 := by rw [hj]; exact Nat.le_trans (Nat.pow_le_pow_right (by omega) (show kn ≤ 6 by omega)) (by decide)
          obtain ⟨p6, hp6⟩ : ∃ p : Nat, p = p4 + m := ⟨_, rfl⟩
          obtain ⟨p7, hp7⟩ : ∃ p : Nat, p = p6 + 2 := ⟨_, rfl⟩
          have ej : (2 : Int) ^ kn = (j : Int) := by rw [hj]; simp
          have em : 2 * (j : Int) = (m : Int) := by omega
          have e13 : (p4 : Int) + (m : Int) = (p6 : Int) := by omega
          have e14 : (p6 : Int) + 2 = (p7 : Int) := by omega
          have hj64i : (j : Int) ≤ 64 := by omega
          have j0 : (0 : Int) ≤ (j : Int) := Int.natCast_nonneg _
          have m0 : (0 : Int) ≤ (m : Int) := Int.natCast_nonneg _
          have m1 : (m : Int) ≤ 128 := by omega
          have p60 : (0 : Int) ≤ (p6 : Int) := Int.natCast_nonneg _
          have p6b : (p6 : Int) ≤ 300500 := by omega
          have HJ := Lib.hid hj
          have HM := Lib.hid hm
          have HP6 := Lib.hid hp6
          have hp34 : p3 + 1 = p4 := by have := HP4.out; omega
          by_cases h7 : s.size < p7
          · have HFn : Hid (F = none) := HF6.out.trans (bgW_short (m := m) HBK.out (by rw [hm, hj]) (by omega))
            have h7i : (s.size : Int) < (p7 : Int) := by omega
            clear hk6 hj hm hp6 hp7 h7 hp34
            obtain ⟨wz, hwz⟩ : ∃ X, X = ((((((wG.setCell ⟨w.heap.size, 0, none⟩ (.string ⟨#[]⟩)).setCell ⟨w.heap.size, 1, none⟩ (.int .i64 0)).setCell ⟨w.heap.size, 2, none⟩ (.int .i64 0)).setCell ⟨w.heap.size, 3, none⟩ (.slice none 0 0)).setCell ⟨w.heap.size, 4, none⟩ (.slice none 0 0)).setCell ⟨w.heap.size, 5, none⟩ (.int .i64 0)).setCell ⟨w.heap.size, 6, none⟩ (.slice none 0 0) := ⟨_, rfl⟩
            obtain ⟨KZ, BZ⟩ : Blk wz w.heap.size [.string ⟨#[]⟩, .int .i64 0, .int .i64 0, .slice none 0 0, .slice none 0 0, .int .i64 0, .slice none 0 0] 34 ∧ Below w.heap.size w wz := by rw [hwz]; exact zeroed_of WG.out.B WG.out.R
            have HZ := Lib.hid hwz
            clear hwz
            obtain ⟨r0, r1, r2, r3, r4, r5, r6⟩ := cells7 WG.out.R
            have f0 := WG.out.R.free 0
            have f1 := WG.out.R.free 1
            have f2 := WG.out.R.free 2
            have f3 := WG.out.R.free 3
            have f4 := WG.out.R.free 4
            have f5 := WG.out.R.free 5
            have f6 := WG.out.R.free 6
            go_wp2_with fail
            rw [← HZ.out]
            clear r0 r1 r2 r3 r4 r5 r6
            obtain ⟨r0, r1, r2, r3, r4, r5, r6⟩ := cells7 KZ
            exact bodyPost_ret (v := .tuple #[.agg zero7, .int .i64 0]) (by simp [results, Try.results54, go_sem, zero7, r0, r1, r2, r3, r4, r5, r6]) rfl (TakenR.no HFn.out BZ)
          · have HF8 : Hid (F = bgEnd s ⟨nm, Rn, Cn, A, B, kn, readF (s.extract p4 s.size) 10000 j⟩ p6) := by
              rw [Hid, HF6.out, bgW_end (m := m) HBK.out hj hm hk6 (by omega), hp34, hp6]
            have h7i : ¬ (s.size : Int) < (p7 : Int) := by omega
            have h7j : (p7 : Int) ≤ (s.size : Int) := by omega
            have HP7 := Lib.hid hp7
            have h4s : (p4 : Int) ≤ (s.size : Int) := by omega
            have sW : (s.extract p4 s.size).size = s.size - p4 := by rw [ByteArray.size_extract]; omega
            have LW := Lib.hid (fun w' => l07Read_any w' (s.extract p4 s.size) j 10000 (by omega) (by have := HS.out; omega) (by omega) (by omega))
            have HW : Hid ((readF (s.extract p4 s.size) 10000 j).length = j) := readF_length (s.extract p4 s.size) 10000 j
            generalize readF (s.extract p4 s.size) 10000 j = X at *
            clear hk6 hj hm hp6 hp7 h7 hp34 sW HF6
            go_wp2_with fail
            refine (LW.out _).mono ?_
            rintro e wH ⟨aW, cW, rfl, OW, hb⟩
            have WH := Lib.hid (WG.out.below hb)
            have OAH := Lib.hid (OAG.out.keep hb)
            have OBH := Lib.hid (OBG.out.keep hb)
            have OWH := Lib.hid OW
            have sH := hb.size
            clear hb OW WG OAG OBG LW ej em
            have f5 := WH.out.V.free 5
            have f6 := WH.out.V.free 6
            obtain ⟨z0, z1, z2, z3, z4, z5, z6⟩ := cells7 WH.out.V
            have ej : (2 : Int) ^ kn = (j : Int) := by rw [HJ.out]; simp
            have em : 2 * (j : Int) = (m : Int) := by have := HM.out; omega
            go_upto_region 21 with fail
            clear z0 z1 z2 z3 z4 z5 z6 f5 f6 ej em
            have WX := (WH.out.set 5 (.int .i64 kn)).set 6 (.slice aW j cW)
            have TX := (touch_setK wH (w.heap.size + 1) 5 (.int .i64 kn)).trans (touch_setK _ (w.heap.size + 1) 6 (.slice aW j cW))
            simp only [List.set_cons_zero, List.set_cons_succ] at WX
            obtain ⟨wI, hwI⟩ : ∃ Y, Y = (wH.setCell ⟨w.heap.size + 1, 5, none⟩ (.int .i64 kn)).setCell ⟨w.heap.size + 1, 6, none⟩ (.slice aW j cW) := ⟨_, rfl⟩
            rw [← hwI] at WX TX ⊢
            clear hwI
            have WI := Lib.hid WX
            have OAI := Lib.hid (OAH.out.touch TX (.inr (by omega)))
            have OBI := Lib.hid (OBH.out.touch TX (.inr (by omega)))
            have OWI := Lib.hid (OWH.out.touch TX (.inr (by omega)))
            have sI := TX.size
            clear WX TX WH OAH OBH OWH
            have RS : RdSaved wI wI.heap.size aA A aB B aW X := ⟨OAI.out.rd.mono (by omega), OBI.out.rd.mono (by omega), OWI.out.rd.mono (by omega)⟩
            have LS : Hid (∀ z : Later wI, Calls Try.prog 37 #[.pointer (some ⟨w.heap.size + 1, 0, none⟩)] z.w' fun e w' => e = .returned (.bool (savedB nm Rn Cn A B kn X)) ∧ ∃ n, w' = z.w'.drewN n) := fun z => by
              have V := WI.out.V.same z.h
              have hA := HA.out
              have hB := HB.out
              have hW := HW.out
              refine l07Saved_any z.w' (w.heap.size + 1) 0 nm Rn Cn kn aA cA A aB cB B aW cW X (V.cell 0) (V.cell 1) (V.cell 2) ?_ ?_ (V.cell 5) ?_ (RS.to z.h) nmL (by omega) (by omega) (by omega)
              · rw [hA]; exact V.cell 3
              · rw [hB]; exact V.cell 4
              · rw [hW]; exact V.cell 6
            cases hV : savedB nm Rn Cn A B kn X with
            | false =>
              have HFn : Hid (F = none) := by
                rw [Hid, HF8.out, bgEnd, if_neg]
                rw [show svB ⟨nm, Rn, Cn, A, B, kn, X⟩ = false from hV]; simp
              rw [hV] at LS
              clear hV RS
              refine wp_region_later (by kernel_rfl) (by kernel_rfl) ?_
              repeat (go_big_quiet_step (first | (go_at_call 37; exact later_drew (LS.out _))))
              refine wpQuiet_nil ?_
              rintro wq ⟨⟨_, hbq⟩, rfl⟩
              have WQ := Lib.hid (WI.out.below hbq)
              clear hbq LS
              obtain ⟨wz, hwz⟩ : ∃ X, X = ((((((wq.setCell ⟨w.heap.size, 0, none⟩ (.string ⟨#[]⟩)).setCell ⟨w.heap.size, 1, none⟩ (.int .i64 0)).setCell ⟨w.heap.size, 2, none⟩ (.int .i64 0)).setCell ⟨w.heap.size, 3, none⟩ (.slice none 0 0)).setCell ⟨w.heap.size, 4, none⟩ (.slice none 0 0)).setCell ⟨w.heap.size, 5, none⟩ (.int .i64 0)).setCell ⟨w.heap.size, 6, none⟩ (.slice none 0 0) := ⟨_, rfl⟩
              obtain ⟨KZ, BZ⟩ : Blk wz w.heap.size [.string ⟨#[]⟩, .int .i64 0, .int .i64 0, .slice none 0 0, .slice none 0 0, .int .i64 0, .slice none 0 0] 34 ∧ Below w.heap.size w wz := by rw [hwz]; exact zeroed_of WQ.out.B WQ.out.R
              have HZ := Lib.hid hwz
              clear hwz
              obtain ⟨r0, r1, r2, r3, r4, r5, r6⟩ := cells7 WQ.out.R
              have f0 := WQ.out.R.free 0
              have f1 := WQ.out.R.free 1
              have f2 := WQ.out.R.free 2
              have f3 := WQ.out.R.free 3
              have f4 := WQ.out.R.free 4
              have f5 := WQ.out.R.free 5
              have f6 := WQ.out.R.free 6
              go_wp2_with fail
              rw [← HZ.out]
              clear r0 r1 r2 r3 r4 r5 r6
              obtain ⟨r0, r1, r2, r3, r4, r5, r6⟩ := cells7 KZ
              exact bodyPost_ret (v := .tuple #[.agg zero7, .int .i64 0]) (by simp [results, Try.results54, go_sem, zero7, r0, r1, r2, r3, r4, r5, r6]) rfl (TakenR.no HFn.out BZ)
            | true =>
              have LT : Hid (∀ z : Later wI, Calls Try.prog 51 #[.pointer (some ⟨w.heap.size + 1, 0, none⟩)] z.w' fun e w' => e = .returned (.string (bs (svL ⟨nm, Rn, Cn, A, B, kn, X⟩))) ∧ Below z.w'.heap.size z.w' w') := fun z => by
                have V := WI.out.V.same z.h
                have hA := HA.out
                have hB := HB.out
                have hW := HW.out
                refine l07Store_any z.w' (w.heap.size + 1) 0 nm Rn Cn kn aA cA A aB cB B aW cW X (V.cell 0) (V.cell 1) (V.cell 2) ?_ ?_ (V.cell 5) ?_ (RS.to z.h) hV
                · rw [hA]; exact V.cell 3
                · rw [hB]; exact V.cell 4
                · rw [hW]; exact V.cell 6
              have hV2 : svB ⟨nm, Rn, Cn, A, B, kn, X⟩ = true := hV
              rw [hV] at LS
              clear hV RS
              have HF9 : Hid (F = if (svB ⟨nm, Rn, Cn, A, B, kn, X⟩ && ((bs (svL ⟨nm, Rn, Cn, A, B, kn, X⟩)).toList == (s.extract 0 p7).toList)) = true then some (⟨nm, Rn, Cn, A, B, kn, X⟩, p7) else none) := by rw [Hid, HF8.out, bgEnd, ← HP7.out]
              clear HF8
              have e15 : IntKind.i64.wrap ((p6 : Int) + 2) = (p7 : Int) := by rw [IntWalk.i64_in _ (by omega)]; exact e14
              have p70 : (0 : Int) ≤ (p7 : Int) := Int.natCast_nonneg _
              clear e14
              cases hE : ((bs (svL ⟨nm, Rn, Cn, A, B, kn, X⟩)).toList == (s.extract 0 p7).toList) with
              | false =>
                have HFn : Hid (F = none) := by rw [Hid, HF9.out, hE, hV2]; rfl
                refine wp_region_later (by kernel_rfl) (by kernel_rfl) ?_
                repeat (go_big_quiet_step (first | (go_at_call 37; exact later_drew (LS.out _)) | (go_at_call 51; exact later_of (LT.out _))))
                refine wpQuiet_nil ?_
                rintro wq ⟨⟨_, hbq⟩, rfl⟩
                have WQ := Lib.hid (WI.out.below hbq)
                clear hbq LS LT hV2 hE e15
                obtain ⟨wz, hwz⟩ : ∃ X, X = ((((((wq.setCell ⟨w.heap.size, 0, none⟩ (.string ⟨#[]⟩)).setCell ⟨w.heap.size, 1, none⟩ (.int .i64 0)).setCell ⟨w.heap.size, 2, none⟩ (.int .i64 0)).setCell ⟨w.heap.size, 3, none⟩ (.slice none 0 0)).setCell ⟨w.heap.size, 4, none⟩ (.slice none 0 0)).setCell ⟨w.heap.size, 5, none⟩ (.int .i64 0)).setCell ⟨w.heap.size, 6, none⟩ (.slice none 0 0) := ⟨_, rfl⟩
                obtain ⟨KZ, BZ⟩ : Blk wz w.heap.size [.string ⟨#[]⟩, .int .i64 0, .int .i64 0, .slice none 0 0, .slice none 0 0, .int .i64 0, .slice none 0 0] 34 ∧ Below w.heap.size w wz := by rw [hwz]; exact zeroed_of WQ.out.B WQ.out.R
                have HZ := Lib.hid hwz
                clear hwz
                obtain ⟨r0, r1, r2, r3, r4, r5, r6⟩ := cells7 WQ.out.R
                have f0 := WQ.out.R.free 0
                have f1 := WQ.out.R.free 1
                have f2 := WQ.out.R.free 2
                have f3 := WQ.out.R.free 3
                have f4 := WQ.out.R.free 4
                have f5 := WQ.out.R.free 5
                have f6 := WQ.out.R.free 6
                go_wp2_with fail
                rw [← HZ.out]
                clear r0 r1 r2 r3 r4 r5 r6
                obtain ⟨r0, r1, r2, r3, r4, r5, r6⟩ := cells7 KZ
                exact bodyPost_ret (v := .tuple #[.agg zero7, .int .i64 0]) (by simp [results, Try.results54, go_sem, zero7, r0, r1, r2, r3, r4, r5, r6]) rfl (TakenR.no HFn.out BZ)
              | true =>
                have HFs : Hid (F = some (⟨nm, Rn, Cn, A, B, kn, X⟩, p7)) := by rw [Hid, HF9.out, hE, hV2]; rfl
                refine wp_region_later (by kernel_rfl) (by kernel_rfl) ?_
                repeat (go_big_quiet_step (first | (go_at_call 37; exact later_drew (LS.out _)) | (go_at_call 51; exact later_of (LT.out _))))
                refine wpQuiet_nil ?_
                rintro wq ⟨⟨_, hbq⟩, rfl⟩
                have WQ := Lib.hid (WI.out.below hbq)
                have OAQ := Lib.hid (OAI.out.keep hbq)
                have OBQ := Lib.hid (OBI.out.keep hbq)
                have OWQ := Lib.hid (OWI.out.keep hbq)
                have sQ := hbq.size
                have e14 : (p6 : Int) + 2 = (p7 : Int) := by have := HP7.out; omega
                clear hbq LS LT hV2 hE e15 WI OAI OBI OWI
                obtain ⟨z0, z1, z2, z3, z4, z5, z6⟩ := cells7 WQ.out.V
                obtain ⟨r0, r1, r2, r3, r4, r5, r6⟩ := cells7 WQ.out.R
                have f0 := WQ.out.R.free 0
                have f1 := WQ.out.R.free 1
                have f2 := WQ.out.R.free 2
                have f3 := WQ.out.R.free 3
                have f4 := WQ.out.R.free 4
                have f5 := WQ.out.R.free 5
                have f6 := WQ.out.R.free 6
                go_wp2_with fail
                obtain ⟨wz, hwz⟩ : ∃ Y, Y = ((((((wq.setCell ⟨w.heap.size, 0, none⟩ (.string nm)).setCell ⟨w.heap.size, 1, none⟩ (.int .i64 Rn)).setCell ⟨w.heap.size, 2, none⟩ (.int .i64 Cn)).setCell ⟨w.heap.size, 3, none⟩ (.slice aA n cA)).setCell ⟨w.heap.size, 4, none⟩ (.slice aB n cB)).setCell ⟨w.heap.size, 5, none⟩ (.int .i64 kn)).setCell ⟨w.heap.size, 6, none⟩ (.slice aW j cW) := ⟨_, rfl⟩
                have KZ : Blk wz w.heap.size [.string nm, .int .i64 Rn, .int .i64 Cn, .slice aA n cA, .slice aB n cB, .int .i64 kn, .slice aW j cW] 34 := by rw [hwz]; exact ((((((WQ.out.R.set 0 (.string nm)).set 1 (.int .i64 Rn)).set 2 (.int .i64 Cn)).set 3 (.slice aA n cA)).set 4 (.slice aB n cB)).set 5 (.int .i64 kn)).set 6 (.slice aW j cW)
                have TZ : Touch wq wz w.heap.size (w.heap.size + 1) := by rw [hwz]; exact (((((((touch_setK wq w.heap.size 0 (.string nm)).trans (touch_setK _ w.heap.size 1 (.int .i64 Rn))).trans (touch_setK _ w.heap.size 2 (.int .i64 Cn))).trans (touch_setK _ w.heap.size 3 (.slice aA n cA))).trans (touch_setK _ w.heap.size 4 (.slice aB n cB))).trans (touch_setK _ w.heap.size 5 (.int .i64 kn))).trans (touch_setK _ w.heap.size 6 (.slice aW j cW)))
                have BZ : Below w.heap.size w wz := below_touch WQ.out.B TZ (Nat.le_refl _) (by have := WQ.out.S; omega)
                have OAZ := Lib.hid (OAQ.out.touch TZ (.inr (by omega)))
                have OBZ := Lib.hid (OBQ.out.touch TZ (.inr (by omega)))
                have OWZ := Lib.hid (OWQ.out.touch TZ (.inr (by omega)))
                have sZ := TZ.size
                rw [← hwz]
                clear hwz r0 r1 r2 r3 r4 r5 r6 f0 f1 f2 f3 f4 f5 f6 z0 z1 z2 z3 z4 z5 z6
                obtain ⟨r0, r1, r2, r3, r4, r5, r6⟩ := cells7 KZ
                refine bodyPost_ret (v := .tuple #[.agg #[.string nm, .int .i64 Rn, .int .i64 Cn, .slice aA n cA, .slice aB n cB, .int .i64 kn, .slice aW j cW], .int .i64 (p7 : Int)]) (by simp [results, Try.results54, go_sem, r0, r1, r2, r3, r4, r5, r6]) rfl ?_
                rw [HFs.out]
                refine ⟨BZ, aA, cA, aB, cB, aW, cW, ?_, wG.heap.size, ?_, ?_, Nat.le_refl _, ⟨wE.heap.size, ?_, ?_, ?_⟩, ?_, ?_⟩
                · dsimp only; rw [HA.out, HB.out, HW.out]
                · omega
                · omega
                · exact ⟨by omega, by omega⟩
                · exact OAZ.out.mono (by omega) (by omega)
                · exact OBZ.out.mono (by omega) (by omega)
                · omega
                · exact OWZ.out.mono (by omega) (by omega)
end Go.Proofs.Yteclpcmbicjjgaa
