/-
  Crowd: what the law's helpers on it compute.
-/
import Derived.Test.YtiimhpopcgiejaaDoorLawInts
import Derived.Test.YtiimhpopcgiejaaDoorStructOpen
namespace Go.Proofs.YtiimhpopcgiejaaDoor
set_option linter.unusedVariables false
set_option linter.unusedSimpArgs false
open Go.RowKit

def RdCrowd (w : World) (B : Nat) (a2 : Option Addr) (x2 : List Int) (a3 : Option Addr) (x3 : List Int) : Prop := Rd w B a2 (ints x2) ∧ Rd w B a3 (ints x3)
def OwnCrowd (w : World) (lo hi : Nat) (a2 : Option Addr) (c2 : Nat) (x2 : List Int) (a3 : Option Addr) (c3 : Nat) (x3 : List Int) : Prop :=
  ∃ m3 : Nat, (lo ≤ m3 ∧ m3 ≤ hi) ∧ OwnI 2 w lo m3 a2 c2 x2 ∧ OwnI 2 w m3 hi a3 c3 x3
section
variable {w w' : World} {B C lo hi : Nat} {a2 : Option Addr} {x2 : List Int} {a3 : Option Addr} {x3 : List Int} {c2 : Nat} {c3 : Nat}
theorem RdCrowd.below (h : RdCrowd w B a2 x2 a3 x3) (hb : Below C w w') (hB : B ≤ C) : RdCrowd w' B a2 x2 a3 x3 := ⟨Rd.below (h.1) hb hB, Rd.below (h.2) hb hB⟩
theorem RdCrowd.mono (h : RdCrowd w B a2 x2 a3 x3) (hB : B ≤ C) : RdCrowd w C a2 x2 a3 x3 := ⟨Rd.mono (h.1) hB, Rd.mono (h.2) hB⟩
theorem RdCrowd.to (h : RdCrowd w w.heap.size a2 x2 a3 x3) (hb : Below w.heap.size w w') : RdCrowd w' w'.heap.size a2 x2 a3 x3 := (h.below hb (Nat.le_refl _)).mono hb.size
theorem RdCrowd.touch (h : RdCrowd w B a2 x2 a3 x3) (ht : Touch w w' lo hi) (hB : B ≤ lo) (hs : B ≤ w.heap.size) : RdCrowd w' B a2 x2 a3 x3 := ⟨Rd.touch (h.1) ht hB hs, Rd.touch (h.2) ht hB hs⟩
theorem OwnCrowd.rd (h : OwnCrowd w lo hi a2 c2 x2 a3 c3 x3) : RdCrowd w hi a2 x2 a3 x3 := by
  obtain ⟨m3, hm, o2, o3⟩ := h
  exact ⟨o2.rd.mono (by omega), o3.rd.mono (by omega)⟩
theorem OwnCrowd.keep (h : OwnCrowd w lo hi a2 c2 x2 a3 c3 x3) (hb : Below w.heap.size w w') : OwnCrowd w' lo hi a2 c2 x2 a3 c3 x3 := by
  obtain ⟨m3, hm, o2, o3⟩ := h
  exact ⟨m3, hm, o2.keep hb, o3.keep hb⟩
theorem OwnCrowd.touch {lo' hi' : Nat} (h : OwnCrowd w lo hi a2 c2 x2 a3 c3 x3) (ht : Touch w w' lo' hi') (hd : hi ≤ lo' ∨ hi' ≤ lo) : OwnCrowd w' lo hi a2 c2 x2 a3 c3 x3 := by
  obtain ⟨m3, hm, o2, o3⟩ := h
  exact ⟨m3, hm, o2.touch ht (by omega), o3.touch ht (by omega)⟩
theorem OwnCrowd.le (h : OwnCrowd w lo hi a2 c2 x2 a3 c3 x3) : lo ≤ hi := by
  obtain ⟨m3, hm, o2, o3⟩ := h
  omega
end
theorem blkat1_Crowd (w : World) (o : Obj) (cs : List Value) (t : TypeId) : Blk ((w.alloc o).alloc (.cells cs.toArray t)) (w.heap.size + 1) cs t := by
  have := Blk.new (w.alloc o) cs t
  simpa using this
theorem blkat2_Crowd (w : World) (o p : Obj) (cs : List Value) (t : TypeId) : Blk (((w.alloc o).alloc p).alloc (.cells cs.toArray t)) (w.heap.size + 1 + 1) cs t := by
  have := Blk.new ((w.alloc o).alloc p) cs t
  simpa using this
theorem setc_grownCrowd (w : World) (g j : Nat) (u : Value) : w.grownBy (w.setCell ⟨g, j, none⟩ u) (some g) := ⟨rfl, rfl, rfl, by simp, fun i _ hi => Below.heap_setCell _ _ _ _ (fun e => hi (by simp [e]))⟩
set_option maxRecDepth 10000 in
set_option maxHeartbeats 4000000 in
theorem lawEq_Crowd (w : World) (B C : Nat) (n0 n1 : Int) (a2 b2 : Option Addr) (c2 d2 : Nat) (x2 : List Int) (a3 b3 : Option Addr) (c3 d3 : Nat) (x3 : List Int) (h : RdCrowd w B a2 x2 a3 x3) (g : RdCrowd w C b2 x2 b3 x3) (hB : B ≤ w.heap.size) (hC : C ≤ w.heap.size) (hl2 : x2.length ≤ 1048576) (hl3 : x3.length ≤ 1048576) :
    Calls Tryd.prog 24 #[.agg #[.int .i64 n0, .int .i64 n1, .slice a2 x2.length c2, .slice a3 x3.length c3], .agg #[.int .i64 n0, .int .i64 n1, .slice b2 x2.length d2, .slice b3 x3.length d3]] w fun e w' => e = .returned (.bool true) ∧ Below w.heap.size w w' := by
  have h2 : Rd w w.heap.size a2 (ints x2) := Rd.mono (h.1) hB
  have g2 : Rd w w.heap.size b2 (ints x2) := Rd.mono (g.1) hC
  have h3 : Rd w w.heap.size a3 (ints x3) := Rd.mono (h.2) hB
  have g3 : Rd w w.heap.size b3 (ints x3) := Rd.mono (g.2) hC
  have e0 : (n0 != n0) = false := by simp
  have e1 : (n1 != n1) = false := by simp
  clear h g hB hC
  go_enter Tryd.func24, Tryd.ntmps24
  go_wp2_with fail
  refine (lawEq_I' _ _ _ _ _ _ _ x2 (h2.below (bl2 w _ _) (Nat.le_refl _)) (g2.below (bl2 w _ _) (Nat.le_refl _)) (by simp; omega) (by simp; omega) (by omega)).mono ?_
  rintro e w1 ⟨rfl, hb1⟩
  have kA := ((Blk.new w [.int .i64 n0, .int .i64 n1, .slice a2 x2.length c2, .slice a3 x3.length c3] 40).alloc (.cells #[.int .i64 n0, .int .i64 n1, .slice b2 x2.length d2, .slice b3 x3.length d3] 40)).same hb1
  have kB := (blkat1_Crowd w (.cells #[.int .i64 n0, .int .i64 n1, .slice a2 x2.length c2, .slice a3 x3.length c3] 40) [.int .i64 n0, .int .i64 n1, .slice b2 x2.length d2, .slice b3 x3.length d3] 40).same hb1
  have B1 := below_then (bl2 w (.cells #[.int .i64 n0, .int .i64 n1, .slice a2 x2.length c2, .slice a3 x3.length c3] 40) (.cells #[.int .i64 n0, .int .i64 n1, .slice b2 x2.length d2, .slice b3 x3.length d3] 40)) hb1
  clear hb1
  have t0 := kA.cell 0
  have u0 := kB.cell 0
  have t1 := kA.cell 1
  have u1 := kB.cell 1
  have t2 := kA.cell 2
  have u2 := kB.cell 2
  have t3 := kA.cell 3
  have u3 := kB.cell 3
  simp only [List.getElem?_cons_zero, List.getElem?_cons_succ] at t0 u0 t1 u1 t2 u2 t3 u3
  go_wp2_with fail
  refine (lawEq_I' _ _ _ _ _ _ _ x3 (h3.below B1 (Nat.le_refl _)) (g3.below B1 (Nat.le_refl _)) B1.size B1.size (by omega)).mono ?_
  rintro e w2 ⟨rfl, hb2⟩
  have kA := kA.same hb2
  have kB := kB.same hb2
  have B2 := below_then B1 hb2
  clear hb2
  go_wp2_with fail
  go_ret
  exact ⟨rfl, B2⟩
set_option maxRecDepth 10000 in
set_option maxHeartbeats 4000000 in
theorem lawMark_Crowd (w : World) (lo hi : Nat) (n0 n1 : Int) (a2 : Option Addr) (c2 : Nat) (x2 : List Int) (a3 : Option Addr) (c3 : Nat) (x3 : List Int) (k : Int) (h : OwnCrowd w lo hi a2 c2 x2 a3 c3 x3) (hhi : hi ≤ w.heap.size) (hl2 : x2.length ≤ 1048576) (hl3 : x3.length ≤ 1048576) (hk0 : 1 ≤ k) (hk : k ≤ 1125899906842624) :
    Calls Tryd.prog 25 #[.agg #[.int .i64 n0, .int .i64 n1, .slice a2 x2.length c2, .slice a3 x3.length c3], .int .i64 k] w fun e w' => e = .returned (.int .i64 (k + x2.length + x3.length)) ∧ Touch w w' lo hi := by
  obtain ⟨m3, hm, o2, o3⟩ := h
  have q2 := o2.keep (bl1 w (.cells #[.int .i64 n0, .int .i64 n1, .slice a2 x2.length c2, .slice a3 x3.length c3] 40))
  have q3 := o3.keep (bl1 w (.cells #[.int .i64 n0, .int .i64 n1, .slice a2 x2.length c2, .slice a3 x3.length c3] 40))
  clear o2 o3
  go_enter Tryd.func25, Tryd.ntmps25
  go_wp2_with fail
  refine (lawMark_I _ _ _ _ _ x2 (k) q2 (by omega) (by omega) (by omega)).mono ?_
  rintro e w1 ⟨rfl, _, ht1⟩
  have kA := (Blk.new w [.int .i64 n0, .int .i64 n1, .slice a2 x2.length c2, .slice a3 x3.length c3] 40).touch ht1 (.inr (by omega))
  have T1 := ((Below.touch (bl1 w (.cells #[.int .i64 n0, .int .i64 n1, .slice a2 x2.length c2, .slice a3 x3.length c3] 40)) lo hi).trans (ht1.mono (by omega) (by omega)))
  have q3 := q3.touch ht1 (by omega)
  have t0 := kA.cell 0
  have t1 := kA.cell 1
  have t2 := kA.cell 2
  have t3 := kA.cell 3
  simp only [List.getElem?_cons_zero, List.getElem?_cons_succ] at t0 t1 t2 t3
  clear ht1
  go_wp2_with fail
  refine (lawMark_I _ _ _ _ _ x3 (k + x2.length) q3 (by omega) (by omega) (by omega)).mono ?_
  rintro e w2 ⟨rfl, _, ht2⟩
  have kA := kA.touch ht2 (.inr (by omega))
  have T2 := T1.trans (ht2.mono (lo' := lo) (hi' := hi) (by omega) (by omega))
  clear ht2
  go_wp2_with fail
  go_ret
  exact ⟨rfl, T2⟩
end Go.Proofs.YtiimhpopcgiejaaDoor
