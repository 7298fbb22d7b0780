/-
  Values: what the law's helpers on it compute.
-/
import Derived.Test.YtiimhpopcgiejaaDoorLawInts
import Derived.Test.YtiimhpopcgiejaaDoorStructOpen
namespace Go.Proofs.YtiimhpopcgiejaaDoor
set_option linter.unusedVariables false
set_option linter.unusedSimpArgs false
open Go.RowKit

def RdValues (w : World) (B : Nat) (a2 : Option Addr) (x2 : List Int) : Prop := Rd w B a2 (ints x2)
def OwnValues (w : World) (lo hi : Nat) (a2 : Option Addr) (c2 : Nat) (x2 : List Int) : Prop :=
  lo ≤ hi ∧ OwnI 2 w lo hi a2 c2 x2
section
variable {w w' : World} {B C lo hi : Nat} {a2 : Option Addr} {x2 : List Int} {c2 : Nat}
theorem RdValues.below (h : RdValues w B a2 x2) (hb : Below C w w') (hB : B ≤ C) : RdValues w' B a2 x2 := Rd.below (h) hb hB
theorem RdValues.mono (h : RdValues w B a2 x2) (hB : B ≤ C) : RdValues w C a2 x2 := Rd.mono (h) hB
theorem RdValues.to (h : RdValues w w.heap.size a2 x2) (hb : Below w.heap.size w w') : RdValues w' w'.heap.size a2 x2 := (h.below hb (Nat.le_refl _)).mono hb.size
theorem RdValues.touch (h : RdValues w B a2 x2) (ht : Touch w w' lo hi) (hB : B ≤ lo) (hs : B ≤ w.heap.size) : RdValues w' B a2 x2 := Rd.touch (h) ht hB hs
theorem OwnValues.rd (h : OwnValues w lo hi a2 c2 x2) : RdValues w hi a2 x2 := by
  obtain ⟨hm, o2⟩ := h
  exact o2.rd.mono (by omega)
theorem OwnValues.keep (h : OwnValues w lo hi a2 c2 x2) (hb : Below w.heap.size w w') : OwnValues w' lo hi a2 c2 x2 := by
  obtain ⟨hm, o2⟩ := h
  exact ⟨hm, o2.keep hb⟩
theorem OwnValues.touch {lo' hi' : Nat} (h : OwnValues w lo hi a2 c2 x2) (ht : Touch w w' lo' hi') (hd : hi ≤ lo' ∨ hi' ≤ lo) : OwnValues w' lo hi a2 c2 x2 := by
  obtain ⟨hm, o2⟩ := h
  exact ⟨hm, o2.touch ht (by omega)⟩
theorem OwnValues.le (h : OwnValues w lo hi a2 c2 x2) : lo ≤ hi := by
  obtain ⟨hm, o2⟩ := h
  omega
end
theorem blkat1_Values (w : World) (o : Obj) (cs : List Value) (t : TypeId) : Blk ((w.alloc o).alloc (.cells cs.toArray t)) (w.heap.size + 1) cs t := by
  have := Blk.new (w.alloc o) cs t
  simpa using this
theorem blkat2_Values (w : World) (o p : Obj) (cs : List Value) (t : TypeId) : Blk (((w.alloc o).alloc p).alloc (.cells cs.toArray t)) (w.heap.size + 1 + 1) cs t := by
  have := Blk.new ((w.alloc o).alloc p) cs t
  simpa using this
theorem setc_grownValues (w : World) (g j : Nat) (u : Value) : w.grownBy (w.setCell ⟨g, j, none⟩ u) (some g) := ⟨rfl, rfl, rfl, by simp, fun i _ hi => Below.heap_setCell _ _ _ _ (fun e => hi (by simp [e]))⟩
set_option maxRecDepth 10000 in
set_option maxHeartbeats 4000000 in
theorem lawEq_Values (w : World) (B C : Nat) (n0 n1 : Int) (a2 b2 : Option Addr) (c2 d2 : Nat) (x2 : List Int) (h : RdValues w B a2 x2) (g : RdValues w C b2 x2) (hB : B ≤ w.heap.size) (hC : C ≤ w.heap.size) (hl2 : x2.length ≤ 1048576) :
    Calls Tryd.prog 19 #[.agg #[.int .i64 n0, .int .i64 n1, .slice a2 x2.length c2], .agg #[.int .i64 n0, .int .i64 n1, .slice b2 x2.length d2]] w fun e w' => e = .returned (.bool true) ∧ Below w.heap.size w w' := by
  have h2 : Rd w w.heap.size a2 (ints x2) := Rd.mono (h) hB
  have g2 : Rd w w.heap.size b2 (ints x2) := Rd.mono (g) hC
  have e0 : (n0 != n0) = false := by simp
  have e1 : (n1 != n1) = false := by simp
  clear h g hB hC
  go_enter Tryd.func19, Tryd.ntmps19
  go_wp2_with fail
  refine (lawEq_I' _ _ _ _ _ _ _ x2 (h2.below (bl2 w _ _) (Nat.le_refl _)) (g2.below (bl2 w _ _) (Nat.le_refl _)) (by simp; omega) (by simp; omega) (by omega)).mono ?_
  rintro e w1 ⟨rfl, hb1⟩
  have kA := ((Blk.new w [.int .i64 n0, .int .i64 n1, .slice a2 x2.length c2] 34).alloc (.cells #[.int .i64 n0, .int .i64 n1, .slice b2 x2.length d2] 34)).same hb1
  have kB := (blkat1_Values w (.cells #[.int .i64 n0, .int .i64 n1, .slice a2 x2.length c2] 34) [.int .i64 n0, .int .i64 n1, .slice b2 x2.length d2] 34).same hb1
  have B1 := below_then (bl2 w (.cells #[.int .i64 n0, .int .i64 n1, .slice a2 x2.length c2] 34) (.cells #[.int .i64 n0, .int .i64 n1, .slice b2 x2.length d2] 34)) hb1
  clear hb1
  go_wp2_with fail
  go_ret
  exact ⟨rfl, B1⟩
set_option maxRecDepth 10000 in
set_option maxHeartbeats 4000000 in
theorem lawMark_Values (w : World) (lo hi : Nat) (n0 n1 : Int) (a2 : Option Addr) (c2 : Nat) (x2 : List Int) (k : Int) (h : OwnValues w lo hi a2 c2 x2) (hhi : hi ≤ w.heap.size) (hl2 : x2.length ≤ 1048576) (hk0 : 1 ≤ k) (hk : k ≤ 1125899906842624) :
    Calls Tryd.prog 20 #[.agg #[.int .i64 n0, .int .i64 n1, .slice a2 x2.length c2], .int .i64 k] w fun e w' => e = .returned (.int .i64 (k + x2.length)) ∧ Touch w w' lo hi := by
  obtain ⟨hm, o2⟩ := h
  have q2 := o2.keep (bl1 w (.cells #[.int .i64 n0, .int .i64 n1, .slice a2 x2.length c2] 34))
  clear o2
  go_enter Tryd.func20, Tryd.ntmps20
  go_wp2_with fail
  refine (lawMark_I _ _ _ _ _ x2 (k) q2 (by omega) (by omega) (by omega)).mono ?_
  rintro e w1 ⟨rfl, _, ht1⟩
  have kA := (Blk.new w [.int .i64 n0, .int .i64 n1, .slice a2 x2.length c2] 34).touch ht1 (.inr (by omega))
  have T1 := ((Below.touch (bl1 w (.cells #[.int .i64 n0, .int .i64 n1, .slice a2 x2.length c2] 34)) lo hi).trans (ht1.mono (by omega) (by omega)))
  clear ht1
  go_wp2_with fail
  go_ret
  exact ⟨rfl, T1⟩
end Go.Proofs.YtiimhpopcgiejaaDoor
