/-
  Values: marks.
-/
import Derived.Test.YtiimhpopcgiejaaDoorValuesT
namespace Go.Proofs.YtiimhpopcgiejaaDoor
set_option linter.unusedVariables false
set_option linter.unusedSimpArgs false
open Go.RowKit

set_option maxRecDepth 10000 in
set_option maxHeartbeats 4000000 in
theorem markValues_ownR (w : World) (lo hi : Nat) (n0 n1 : Int) (a2 : Option Addr) (c2 : Nat) (x2 : List Int) (k : Int) (h : OwnValues w lo hi a2 c2 x2) (hhi : hi ≤ w.heap.size) (hl2 : x2.length ≤ 1048576) (hk0 : 1 ≤ k) (hk : k ≤ 1125899906842624) :
    Calls Tryd.prog 20 #[.agg #[.int .i64 n0, .int .i64 n1, .slice a2 x2.length c2], .int .i64 k] w fun e w' => e = .returned (.int .i64 (k + x2.length)) ∧ OwnValues w' lo hi a2 c2 (marks x2.length k) ∧ Touch w w' lo hi := by
  obtain ⟨hm, o2⟩ := h
  have q2 := o2.keep (bl1 w (.cells #[.int .i64 n0, .int .i64 n1, .slice a2 x2.length c2] 34))
  clear o2
  go_enter Tryd.func20, Tryd.ntmps20
  go_wp2_with fail
  refine (lawMark_I _ _ _ _ _ x2 (k) q2 (by omega) (by omega) (by omega)).mono ?_
  rintro e w1 ⟨rfl, q2', ht1⟩
  have T1 := ((Below.touch (bl1 w (.cells #[.int .i64 n0, .int .i64 n1, .slice a2 x2.length c2] 34)) lo hi).trans (ht1.mono (by omega) (by omega)))
  have q2' := Lib.hid q2'
  clear ht1
  go_wp2_with fail
  go_ret
  exact ⟨rfl, ⟨hm, q2'.out⟩, T1⟩
set_option maxRecDepth 10000 in
set_option maxHeartbeats 4000000 in
theorem heldValues_anyR (w : World) (n0 n1 : Int) (a2 : Option Addr) (c2 m2 : Nat) (k : Int) (h2 : Rd w w.heap.size a2 (ints (marks m2 k))) (hl2 : m2 ≤ 1048576) (hk0 : 1 ≤ k) (hk : k ≤ 1125899906842624) :
    Calls Tryd.prog 21 #[.agg #[.int .i64 n0, .int .i64 n1, .slice a2 m2 c2], .int .i64 k] w fun e w' => e = .returned (.int .i64 (k + m2)) ∧ Below w.heap.size w w' := by
  have B0 := Lib.hid (bl1 w (.cells #[.int .i64 n0, .int .i64 n1, .slice a2 m2 c2] 34))
  have K0 := Lib.hid (Blk.new w [.int .i64 n0, .int .i64 n1, .slice a2 m2 c2] 34)
  have L1 := Lib.hid (lawHeld_I (w.alloc (.cells #[.int .i64 n0, .int .i64 n1, .slice a2 m2 c2] 34)) _ a2 c2 m2 k (h2.to B0.out) (Nat.le_refl _) (by omega) (by omega) (by omega))
  have g4 : (0 : Int) ≤ (m2 : Int) := Int.natCast_nonneg _
  clear h2
  have t0 := K0.out.cell 0
  have t1 := K0.out.cell 1
  have t2 := K0.out.cell 2
  simp only [List.getElem?_cons_zero, List.getElem?_cons_succ] at t0 t1 t2
  go_enter Tryd.func21, Tryd.ntmps21
  go_wp2_with fail
  refine L1.out.mono ?_
  rintro e w1 ⟨rfl, hb⟩
  have B1 := Lib.hid (below_then B0.out hb)
  clear hb L1
  go_wp2_with fail
  go_ret
  exact ⟨rfl, B1.out⟩
end Go.Proofs.YtiimhpopcgiejaaDoor
