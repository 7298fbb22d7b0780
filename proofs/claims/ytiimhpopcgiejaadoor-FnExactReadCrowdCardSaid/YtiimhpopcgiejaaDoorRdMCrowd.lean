/-
  Crowd: marks.
-/
import Derived.Test.YtiimhpopcgiejaaDoorCrowdT
namespace Go.Proofs.YtiimhpopcgiejaaDoor
set_option linter.unusedVariables false
set_option linter.unusedSimpArgs false
open Go.RowKit

set_option maxRecDepth 10000 in
set_option maxHeartbeats 4000000 in
theorem markCrowd_ownR (w : World) (lo hi : Nat) (n0 n1 : Int) (a2 : Option Addr) (c2 : Nat) (x2 : List Int) (a3 : Option Addr) (c3 : Nat) (x3 : List Int) (k : Int) (h : OwnCrowd w lo hi a2 c2 x2 a3 c3 x3) (hhi : hi ≤ w.heap.size) (hl2 : x2.length ≤ 1048576) (hl3 : x3.length ≤ 1048576) (hk0 : 1 ≤ k) (hk : k ≤ 1125899906842624) :
    Calls Tryd.prog 25 #[.agg #[.int .i64 n0, .int .i64 n1, .slice a2 x2.length c2, .slice a3 x3.length c3], .int .i64 k] w fun e w' => e = .returned (.int .i64 (k + x2.length + x3.length)) ∧ OwnCrowd w' lo hi a2 c2 (marks x2.length k) a3 c3 (marks x3.length (k + x2.length)) ∧ Touch w w' lo hi := by
  obtain ⟨m3, hm, o2, o3⟩ := h
  have q2 := o2.keep (bl1 w (.cells #[.int .i64 n0, .int .i64 n1, .slice a2 x2.length c2, .slice a3 x3.length c3] 40))
  have q3 := o3.keep (bl1 w (.cells #[.int .i64 n0, .int .i64 n1, .slice a2 x2.length c2, .slice a3 x3.length c3] 40))
  clear o2 o3
  go_enter Tryd.func25, Tryd.ntmps25
  go_wp2_with fail
  refine (lawMark_I _ _ _ _ _ x2 (k) q2 (by omega) (by omega) (by omega)).mono ?_
  rintro e w1 ⟨rfl, q2', ht1⟩
  have kA := (Blk.new w [.int .i64 n0, .int .i64 n1, .slice a2 x2.length c2, .slice a3 x3.length c3] 40).touch ht1 (.inr (by omega))
  have T1 := ((Below.touch (bl1 w (.cells #[.int .i64 n0, .int .i64 n1, .slice a2 x2.length c2, .slice a3 x3.length c3] 40)) lo hi).trans (ht1.mono (by omega) (by omega)))
  have q3 := q3.touch ht1 (by omega)
  have t0 := kA.cell 0
  have t1 := kA.cell 1
  have t2 := kA.cell 2
  have t3 := kA.cell 3
  simp only [List.getElem?_cons_zero, List.getElem?_cons_succ] at t0 t1 t2 t3
  clear ht1
  go_wp2_with fail
  refine (lawMark_I _ _ _ _ _ x3 (k + x2.length) q3 (by omega) (by omega) (by omega)).mono ?_
  rintro e w2 ⟨rfl, q3', ht2⟩
  have T2 := T1.trans (ht2.mono (lo' := lo) (hi' := hi) (by omega) (by omega))
  have q2' := Lib.hid (q2'.touch ht2 (.inl (Nat.le_refl _)))
  have q3' := Lib.hid q3'
  clear ht2
  go_wp2_with fail
  go_ret
  exact ⟨rfl, ⟨m3, hm, q2'.out, q3'.out⟩, T2⟩
set_option maxRecDepth 10000 in
set_option maxHeartbeats 4000000 in
theorem heldCrowd_anyR (w : World) (n0 n1 : Int) (a2 : Option Addr) (c2 m2 : Nat) (a3 : Option Addr) (c3 m3 : Nat) (k k2 : Int) (h2 : Rd w w.heap.size a2 (ints (marks m2 k))) (h3 : Rd w w.heap.size a3 (ints (marks m3 k2))) (e2 : Hid (k2 = k + m2)) (hl2 : m2 ≤ 1048576) (hl3 : m3 ≤ 1048576) (hk0 : 1 ≤ k) (hk : k ≤ 1125899906842624) :
    Calls Tryd.prog 26 #[.agg #[.int .i64 n0, .int .i64 n1, .slice a2 m2 c2, .slice a3 m3 c3], .int .i64 k] w fun e w' => e = .returned (.int .i64 (k2 + m3)) ∧ Below w.heap.size w w' := by
  have B0 := Lib.hid (bl1 w (.cells #[.int .i64 n0, .int .i64 n1, .slice a2 m2 c2, .slice a3 m3 c3] 40))
  have K0 := Lib.hid (Blk.new w [.int .i64 n0, .int .i64 n1, .slice a2 m2 c2, .slice a3 m3 c3] 40)
  have L1 := Lib.hid (lawHeld_I (w.alloc (.cells #[.int .i64 n0, .int .i64 n1, .slice a2 m2 c2, .slice a3 m3 c3] 40)) _ a2 c2 m2 k (h2.to B0.out) (Nat.le_refl _) (by omega) (by omega) (by omega))
  have L2 := Lib.hid (fun w' hb => lawHeld_I w' _ a3 c3 m3 k2 (h3.to hb) (Nat.le_refl _) (by omega) (by have := e2.out; omega) (by have := e2.out; omega))
  rw [← e2.out] at L1
  have g2 : (0 : Int) ≤ k2 := by have := e2.out; omega
  have g3 : k2 ≤ 1125899908000000 := by have := e2.out; omega
  have g4 : (0 : Int) ≤ (m3 : Int) := Int.natCast_nonneg _
  clear h2 h3
  have t0 := K0.out.cell 0
  have t1 := K0.out.cell 1
  have t2 := K0.out.cell 2
  have t3 := K0.out.cell 3
  simp only [List.getElem?_cons_zero, List.getElem?_cons_succ] at t0 t1 t2 t3
  go_enter Tryd.func26, Tryd.ntmps26
  go_wp2_with fail
  refine L1.out.mono ?_
  rintro e w1 ⟨rfl, hb⟩
  have B1 := Lib.hid (below_then B0.out hb)
  have K1 := K0.out.same hb
  have L3 := L2.out w1 B1.out
  clear t0 t1 t2 t3 hb L1 L2
  have t0 := K1.cell 0
  have t1 := K1.cell 1
  have t2 := K1.cell 2
  have t3 := K1.cell 3
  simp only [List.getElem?_cons_zero, List.getElem?_cons_succ] at t0 t1 t2 t3
  go_wp2_with fail
  refine L3.mono ?_
  rintro e w2 ⟨rfl, hb⟩
  have B2 := Lib.hid (below_then B1.out hb)
  clear hb L3
  go_wp2_with fail
  go_ret
  exact ⟨rfl, B2.out⟩
end Go.Proofs.YtiimhpopcgiejaaDoor
