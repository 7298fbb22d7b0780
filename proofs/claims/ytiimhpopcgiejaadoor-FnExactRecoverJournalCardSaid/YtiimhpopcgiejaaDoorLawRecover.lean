/-
  FnExactRecoverJournal answers true: the law's walk.
-/
import Derived.Test.YtiimhpopcgiejaaDoorLawJournalOf
import Derived.Test.YtiimhpopcgiejaaDoorLawStrM
import Derived.Test.YtiimhpopcgiejaaDoorRecI
import Derived.Test.YtiimhpopcgiejaaDoorRecR
namespace Go.Proofs.YtiimhpopcgiejaaDoor
set_option linter.unusedVariables false
set_option linter.unusedSimpArgs false
open Go.RowKit

def recTop (l : List UInt8) : List (List UInt8) × Int × Bool := if l.length ≤ 16000 then ((recF l).1, ((recF l).2 : Int), true) else ([], 0, false)
/-- A list of strings of its own, a number and whether it was taken. -/
def RetRec (w : World) (r : List (List UInt8) × Int × Bool) (e : Ending) (w' : World) : Prop := ∃ a c, e = .returned (.tuple #[.slice a r.1.length c, .int .i64 r.2.1, .bool r.2.2]) ∧ w'.ownsRow w.heap.size 9 1 (.slice a r.1.length c) r.1.length (strs r.1) ∧ Below w.heap.size w w'
set_option maxRecDepth 200000 in
set_option maxHeartbeats 4000000 in
theorem recoverJ_any (w : World) (hT : Tab w) (hS : Shp w) (s : ByteArray) (hs : s.size ≤ 1048576) :
    Calls Tryd.prog 14 #[.string s] w (RetRec w (recTop s.data.toList)) := by
  have LR := Lib.hid (recovered_any w hT hS s hs)
  have hz := Lib.size_eq s
  unfold recTop
  by_cases h : s.data.toList.length ≤ 16000
  · have hi : ¬ (16000 : Int) < (s.size : Int) := by omega
    rw [if_pos h]
    generalize recF s.data.toList = RF at *
    clear h hz
    go_enter Tryd.func14, Tryd.ntmps14
    go_wp2_with fail
    refine LR.out.mono ?_
    rintro e w' ⟨v, rfl, ho, hb⟩
    obtain ⟨a, c, rfl, _, _⟩ := own_shape ho
    go_wp2_with fail
    go_ret3
    exact ⟨a, c, rfl, ho, hb⟩
  · have hi : (16000 : Int) < (s.size : Int) := by omega
    rw [if_neg h]
    clear h hz
    go_enter Tryd.func14, Tryd.ntmps14
    go_wp2_with fail
    go_ret3
    exact ⟨none, 0, rfl, World.ownsRow_nil _ _ _ _, Below.refl _ _⟩
set_option maxRecDepth 200000 in
set_option maxHeartbeats 4000000 in
theorem recoverJR_any (w : World) (s : ByteArray) (hs : s.size ≤ 1048576) :
    Calls Tryd.prog 13 #[.string s] w (RetRec w (recTop s.data.toList)) := by
  have LR := Lib.hid (l08Recover_any w s hs)
  have hz := Lib.size_eq s
  unfold recTop
  by_cases h : s.data.toList.length ≤ 16000
  · have hi : ¬ (16000 : Int) < (s.size : Int) := by omega
    rw [if_pos h]
    generalize recF s.data.toList = RF at *
    clear h hz
    go_enter Tryd.func13, Tryd.ntmps13
    go_wp2_with fail
    refine LR.out.mono ?_
    rintro e w' ⟨v, rfl, ho, hb⟩
    obtain ⟨a, c, rfl, _, _⟩ := own_shape ho
    go_wp2_with fail
    go_ret3
    exact ⟨a, c, rfl, ho, hb⟩
  · have hi : (16000 : Int) < (s.size : Int) := by omega
    rw [if_neg h]
    clear h hz
    go_enter Tryd.func13, Tryd.ntmps13
    go_wp2_with fail
    go_ret3
    exact ⟨none, 0, rfl, World.ownsRow_nil _ _ _ _, Below.refl _ _⟩
set_option maxRecDepth 200000 in
set_option maxHeartbeats 16000000 in
theorem law_ExactRecoverJournal (w : World) (hS : Shp w) (hT : Tab w) (s : ByteArray) :
    Calls Tryd.prog 4 #[.string s] w fun e w' => e = .returned (.bool true) ∧ Below w.heap.size w w' := by
  by_cases hs : s.size ≤ 1048576
  case neg =>
    have hgt : (1048576 : Int) < (s.size : Int) := by omega
    go_enter Tryd.func4, Tryd.ntmps4
    go_wp2_with fail
    go_ret
    exact ⟨rfl, Below.refl _ _⟩
  have hgt : ¬ (1048576 : Int) < (s.size : Int) := by omega
  have hz := Lib.size_eq s
  have hl : (recTop s.data.toList).1.length ≤ 1048576 := by
    unfold recTop
    split
    · have := recF_len s.data.toList; show (recF s.data.toList).1.length ≤ _; omega
    · exact Nat.zero_le _
  have LS := Lib.hid (recoverJR_any w s hs)
  have LI := Lib.hid (fun v (hb : Below w.heap.size w v) => recoverJ_any v (hT.to hb) (hS.to hb) s hs)
  generalize recTop s.data.toList = R at *
  obtain ⟨xs, N, ok⟩ := R
  unfold RetRec at LS LI
  simp only at LS LI hl
  have hne1 : (ok != ok) = false := by simp
  have hne2 : (N != N) = false := by simp
  clear hs hT hS hz
  go_enter Tryd.func4, Tryd.ntmps4
  go_wp2_with fail
  refine LS.out.mono ?_
  rintro e w1 ⟨a1, c1, rfl, o1, b1⟩
  have R1 := Lib.hid (rd_of_own o1 (Nat.le_refl _))
  have B1 := Lib.hid b1
  clear o1 b1 LS
  go_wp2_with fail
  refine (LI.out _ B1.out).mono ?_
  rintro e w2 ⟨a2, c2, rfl, o2, b2⟩
  have R2 := Lib.hid (R1.out.to b2)
  have B2 := Lib.hid b2
  have O2 := Lib.hid o2
  clear o2 b2
  go_wp2_with fail
  refine (eqStr_below _ _ _ _ _ xs (rd_of_own O2.out (Nat.le_refl _)) R2.out (by omega)).mono ?_
  rintro e w3 ⟨rfl, b3⟩
  have R3 := Lib.hid (R1.out.to (below_then B2.out b3))
  have B3 := Lib.hid (below_then B2.out b3)
  have O3 := Lib.hid (own_below O2.out b3)
  clear b3 R2 B2 O2
  go_wp2_with fail
  refine (lawMark_Str w3 w1.heap.size w1.heap.size _ xs 1 O3.out hl (by omega) (by omega) (Nat.le_refl _) B3.out.size).mono ?_
  rintro e w4 ⟨rfl, ⟨a4, c4, e4, r4⟩, b4, g4⟩
  injection e4 with e4a e4b e4c
  subst e4a e4c
  have R4 := Lib.hid r4
  have B4 := Lib.hid (B3.out.trans b4)
  clear r4 b4 g4 R3 B3 O3
  go_wp2_with fail
  refine (heldStringS_any _ _ _ _ 1 R4.out hl (by omega) (by omega)).mono ?_
  rintro e w5 ⟨rfl, b5⟩
  have B5 := Lib.hid (below_then B4.out b5)
  have R5 := Lib.hid (R4.out.to b5)
  clear R4 B4 b5
  have hne3 : ((1 : Int) + (xs.length : Int) != (1 : Int) + (xs.length : Int)) = false := by simp
  go_wp2_with fail
  refine (LI.out _ (below_then B1.out B5.out)).mono ?_
  rintro e w6 ⟨a6, c6, rfl, o6, b6⟩
  have B6 := Lib.hid (below_then B5.out b6)
  have R6 := Lib.hid (R5.out.to b6)
  have O6 := Lib.hid o6
  clear B5 R5 o6 b6
  go_wp2_with fail
  refine (eqStr_below _ _ _ _ _ xs (rd_of_own O6.out (Nat.le_refl _)) (R1.out.to B6.out) (by omega)).mono ?_
  rintro e w7 ⟨rfl, b7⟩
  have B7 := Lib.hid (below_then B6.out b7)
  have R7 := Lib.hid (R6.out.to b7)
  clear B6 R6 O6 b7
  go_wp2_with fail
  refine (heldStringS_any _ _ _ _ 1 R7.out hl (by omega) (by omega)).mono ?_
  rintro e w8 ⟨rfl, b8⟩
  have B8 := Lib.hid (below_then B1.out (below_then B7.out b8))
  go_wp2_with fail
  go_ret
  exact ⟨rfl, B8.out⟩
end Go.Proofs.YtiimhpopcgiejaaDoor
