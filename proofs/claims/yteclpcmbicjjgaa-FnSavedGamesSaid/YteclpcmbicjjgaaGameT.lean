/-
  Game: what the law's helpers on it compute.
-/
import Derived.Test.YteclpcmbicjjgaaLawInts
import Derived.Test.YteclpcmbicjjgaaStructOpen
namespace Go.Proofs.Yteclpcmbicjjgaa
set_option linter.unusedVariables false
set_option linter.unusedSimpArgs false
open Go.RowKit

def RdGame (w : World) (B : Nat) (a2 : Option Addr) (x2 : List Int) (a3 : Option Addr) (x3 : List Int) : Prop := Rd w B a2 (ints x2) ∧ Rd w B a3 (ints x3)
def OwnGame (w : World) (lo hi : Nat) (a2 : Option Addr) (c2 : Nat) (x2 : List Int) (a3 : Option Addr) (c3 : Nat) (x3 : List Int) : Prop :=
  ∃ m3 : Nat, (lo ≤ m3 ∧ m3 ≤ hi) ∧ OwnI 2 w lo m3 a2 c2 x2 ∧ OwnI 2 w m3 hi a3 c3 x3
section
variable {w w' : World} {B C lo hi : Nat} {a2 : Option Addr} {x2 : List Int} {a3 : Option Addr} {x3 : List Int} {c2 : Nat} {c3 : Nat}
theorem RdGame.below (h : RdGame w B a2 x2 a3 x3) (hb : Below C w w') (hB : B ≤ C) : RdGame w' B a2 x2 a3 x3 := ⟨Rd.below (h.1) hb hB, Rd.below (h.2) hb hB⟩
theorem RdGame.mono (h : RdGame w B a2 x2 a3 x3) (hB : B ≤ C) : RdGame w C a2 x2 a3 x3 := ⟨Rd.mono (h.1) hB, Rd.mono (h.2) hB⟩
theorem RdGame.to (h : RdGame w w.heap.size a2 x2 a3 x3) (hb : Below w.heap.size w w') : RdGame w' w'.heap.size a2 x2 a3 x3 := (h.below hb (Nat.le_refl _)).mono hb.size
theorem RdGame.touch (h : RdGame w B a2 x2 a3 x3) (ht : Touch w w' lo hi) (hB : B ≤ lo) (hs : B ≤ w.heap.size) : RdGame w' B a2 x2 a3 x3 := ⟨Rd.touch (h.1) ht hB hs, Rd.touch (h.2) ht hB hs⟩
theorem OwnGame.rd (h : OwnGame w lo hi a2 c2 x2 a3 c3 x3) : RdGame w hi a2 x2 a3 x3 := by
  obtain ⟨m3, hm, o2, o3⟩ := h
  exact ⟨o2.rd.mono (by omega), o3.rd.mono (by omega)⟩
theorem OwnGame.keep (h : OwnGame w lo hi a2 c2 x2 a3 c3 x3) (hb : Below w.heap.size w w') : OwnGame w' lo hi a2 c2 x2 a3 c3 x3 := by
  obtain ⟨m3, hm, o2, o3⟩ := h
  exact ⟨m3, hm, o2.keep hb, o3.keep hb⟩
theorem OwnGame.touch {lo' hi' : Nat} (h : OwnGame w lo hi a2 c2 x2 a3 c3 x3) (ht : Touch w w' lo' hi') (hd : hi ≤ lo' ∨ hi' ≤ lo) : OwnGame w' lo hi a2 c2 x2 a3 c3 x3 := by
  obtain ⟨m3, hm, o2, o3⟩ := h
  exact ⟨m3, hm, o2.touch ht (by omega), o3.touch ht (by omega)⟩
theorem OwnGame.le (h : OwnGame w lo hi a2 c2 x2 a3 c3 x3) : lo ≤ hi := by
  obtain ⟨m3, hm, o2, o3⟩ := h
  omega
end
theorem blkat1_Game (w : World) (o : Obj) (cs : List Value) (t : TypeId) : Blk ((w.alloc o).alloc (.cells cs.toArray t)) (w.heap.size + 1) cs t := by
  have := Blk.new (w.alloc o) cs t
  simpa using this
theorem blkat2_Game (w : World) (o p : Obj) (cs : List Value) (t : TypeId) : Blk (((w.alloc o).alloc p).alloc (.cells cs.toArray t)) (w.heap.size + 1 + 1) cs t := by
  have := Blk.new ((w.alloc o).alloc p) cs t
  simpa using this
theorem setc_grownGame (w : World) (g j : Nat) (u : Value) : w.grownBy (w.setCell ⟨g, j, none⟩ u) (some g) := ⟨rfl, rfl, rfl, by simp, fun i _ hi => Below.heap_setCell _ _ _ _ (fun e => hi (by simp [e]))⟩
set_option maxRecDepth 10000 in
set_option maxHeartbeats 4000000 in
theorem lawTo_Game (w : World) (B : Nat) (n0 n1 : Int) (a2 : Option Addr) (c2 : Nat) (x2 : List Int) (a3 : Option Addr) (c3 : Nat) (x3 : List Int) (h : RdGame w B a2 x2 a3 x3) (hB : B ≤ w.heap.size) (hl2 : x2.length ≤ 1048576) (hl3 : x3.length ≤ 1048576) :
    Calls Try.prog 38 #[.agg #[.int .i64 n0, .int .i64 n1, .slice a2 x2.length c2, .slice a3 x3.length c3]] w fun e w' => ∃ a2' c2' a3' c3', e = .returned (.agg #[.int .i64 n0, .int .i64 n1, .slice a2' x2.length c2', .slice a3' x3.length c3']) ∧ OwnGame w' w.heap.size w'.heap.size a2' c2' x2 a3' c3' x3 ∧ Below w.heap.size w w' := by
  have h2 : Rd w w.heap.size a2 (ints x2) := Rd.mono (h.1) hB
  have h3 : Rd w w.heap.size a3 (ints x3) := Rd.mono (h.2) hB
  clear h hB
  go_enter Try.func38, Try.ntmps38
  go_wp2_with fail
  refine (lawTo_I _ _ _ _ x2 (h2.below (bl3 w _ _ _) (Nat.le_refl _)) (by simp; omega) hl2).mono ?_
  rintro e w1 ⟨a2', c2', rfl, o2, hb1⟩
  have kR := ((blkat1_Game w (.cells #[.int .i64 n0, .int .i64 n1, .slice a2 x2.length c2, .slice a3 x3.length c3] 24) [.int .i64 0, .int .i64 0, .slice none 0 0, .slice none 0 0] 31).alloc (.cells #[.int .i64 n0, .int .i64 n1, .slice none 0 0, .slice none 0 0] 31)).same hb1
  have kL := (blkat2_Game w (.cells #[.int .i64 n0, .int .i64 n1, .slice a2 x2.length c2, .slice a3 x3.length c3] 24) (.cells #[.int .i64 0, .int .i64 0, .slice none 0 0, .slice none 0 0] 31) [.int .i64 n0, .int .i64 n1, .slice none 0 0, .slice none 0 0] 31).same hb1
  have B1 := below_then (bl3 w (.cells #[.int .i64 n0, .int .i64 n1, .slice a2 x2.length c2, .slice a3 x3.length c3] 24) (.cells #[.int .i64 0, .int .i64 0, .slice none 0 0, .slice none 0 0] 31) (.cells #[.int .i64 n0, .int .i64 n1, .slice none 0 0, .slice none 0 0] 31)) hb1
  have s1 : w.heap.size + 3 ≤ w1.heap.size := by have := hb1.size; simp at this; omega
  have q2 : OwnI 2 w1 (w.heap.size + 3) w1.heap.size a2' c2' x2 := o2.mono (by simp) (Nat.le_refl _)
  have xx0 := (Blk.new w [.int .i64 n0, .int .i64 n1, .slice a2 x2.length c2, .slice a3 x3.length c3] 24)
  have kA := ((xx0.alloc (.cells #[.int .i64 0, .int .i64 0, .slice none 0 0, .slice none 0 0] 31)).alloc (.cells #[.int .i64 n0, .int .i64 n1, .slice none 0 0, .slice none 0 0] 31)).same hb1
  clear xx0 o2 hb1
  have f2 := kL.free 2
  have g2 := kL.cell 2
  simp only [List.getElem?_cons_zero, List.getElem?_cons_succ] at g2
  have t0 := kA.cell 0
  have t1 := kA.cell 1
  have t2 := kA.cell 2
  have t3 := kA.cell 3
  simp only [List.getElem?_cons_zero, List.getElem?_cons_succ] at t0 t1 t2 t3
  have D1 := below_sto B1 (g := w.heap.size + 1 + 1) (by omega) 2 (.slice a2' x2.length c2')
  have kL2 := kL.set 2 (.slice a2' x2.length c2')
  simp only [List.set_cons_zero, List.set_cons_succ] at kL2
  have kR2 := kR.oth (g := w.heap.size + 1 + 1) (by omega) 2 (.slice a2' x2.length c2')
  have kA2 := kA.oth (g := w.heap.size + 1 + 1) (by omega) 2 (.slice a2' x2.length c2')
  have q2' := q2.touch (Touch.of_grown (g := w.heap.size + 1 + 1) (show Go.World.grownBy w1 (w1.setCell ⟨w.heap.size + 1 + 1, 2, none⟩ (.slice a2' x2.length c2')) (some (w.heap.size + 1 + 1)) from ⟨rfl, rfl, rfl, by simp, fun i _ hi => Below.heap_setCell _ _ _ _ (fun e => hi (by simp [e]))⟩) (Nat.le_refl _) (Nat.lt_succ_self _)) (.inr (by omega))
  clear kL kR kA q2
  have kL := kL2
  have kR := kR2
  have kA := kA2
  have q2 := q2'
  clear kL2 kR2 kA2 q2'
  go_wp2_with fail
  refine (lawTo_I _ _ _ _ x3 (h3.below D1 (Nat.le_refl _)) (by have := D1.size; exact this) hl3).mono ?_
  rintro e w2 ⟨a3', c3', rfl, o3, hb2⟩
  have kR := kR.same hb2
  have kL := kL.same hb2
  have kA := kA.same hb2
  have B2 := below_then D1 hb2
  have s2 : w1.heap.size ≤ w2.heap.size := by have := hb2.size; simp at this; omega
  have q3 : OwnI 2 w2 w1.heap.size w2.heap.size a3' c3' x3 := o3.mono (by simp) (Nat.le_refl _)
  have q2 := q2.keep hb2
  clear o3 hb2
  have f3 := kL.free 3
  have g3 := kL.cell 3
  simp only [List.getElem?_cons_zero, List.getElem?_cons_succ] at g3
  have t0 := kA.cell 0
  have t1 := kA.cell 1
  have t2 := kA.cell 2
  have t3 := kA.cell 3
  simp only [List.getElem?_cons_zero, List.getElem?_cons_succ] at t0 t1 t2 t3
  have D2 := below_sto B2 (g := w.heap.size + 1 + 1) (by omega) 3 (.slice a3' x3.length c3')
  have kL2 := kL.set 3 (.slice a3' x3.length c3')
  simp only [List.set_cons_zero, List.set_cons_succ] at kL2
  have kR2 := kR.oth (g := w.heap.size + 1 + 1) (by omega) 3 (.slice a3' x3.length c3')
  have kA2 := kA.oth (g := w.heap.size + 1 + 1) (by omega) 3 (.slice a3' x3.length c3')
  have q2' := q2.touch (Touch.of_grown (g := w.heap.size + 1 + 1) (show Go.World.grownBy w2 (w2.setCell ⟨w.heap.size + 1 + 1, 3, none⟩ (.slice a3' x3.length c3')) (some (w.heap.size + 1 + 1)) from ⟨rfl, rfl, rfl, by simp, fun i _ hi => Below.heap_setCell _ _ _ _ (fun e => hi (by simp [e]))⟩) (Nat.le_refl _) (Nat.lt_succ_self _)) (.inr (by omega))
  have q3' := q3.touch (Touch.of_grown (g := w.heap.size + 1 + 1) (show Go.World.grownBy w2 (w2.setCell ⟨w.heap.size + 1 + 1, 3, none⟩ (.slice a3' x3.length c3')) (some (w.heap.size + 1 + 1)) from ⟨rfl, rfl, rfl, by simp, fun i _ hi => Below.heap_setCell _ _ _ _ (fun e => hi (by simp [e]))⟩) (Nat.le_refl _) (Nat.lt_succ_self _)) (.inr (by omega))
  have l0 := kL2.cell 0
  have r0 := kR2.cell 0
  have rf0 := kR2.free 0
  have l1 := kL2.cell 1
  have r1 := kR2.cell 1
  have rf1 := kR2.free 1
  have l2 := kL2.cell 2
  have r2 := kR2.cell 2
  have rf2 := kR2.free 2
  have l3 := kL2.cell 3
  have r3 := kR2.cell 3
  have rf3 := kR2.free 3
  simp only [List.getElem?_cons_zero, List.getElem?_cons_succ] at l0 r0 l1 r1 l2 r2 l3 r3
  have HD := Lib.hid D2
  have Q2 := Lib.hid q2'
  have Q3 := Lib.hid q3'
  clear kL kR kA kL2 kA2 q2 q2' q3 q3'
  have kF := (((kR2.set 0 (.int .i64 n0)).set 1 (.int .i64 n1)).set 2 (.slice a2' x2.length c2')).set 3 (.slice a3' x3.length c3')
  simp only [List.set_cons_zero, List.set_cons_succ] at kF
  have z0 := kF.cell 0
  have z1 := kF.cell 1
  have z2 := kF.cell 2
  have z3 := kF.cell 3
  simp only [List.getElem?_cons_zero, List.getElem?_cons_succ] at z0 z1 z2 z3
  have HB := HD.out
  have v2 := Q2.out
  have v3 := Q3.out
  clear HD Q2 Q3 kR2
  have HB := below_sto HB (g := w.heap.size + 1) (by omega) 0 (.int .i64 n0)
  have v2 := v2.touch (Touch.of_grown (g := w.heap.size + 1) (setc_grownGame _ (w.heap.size + 1) 0 (.int .i64 n0)) (Nat.le_refl _) (Nat.lt_succ_self _)) (.inr (by omega))
  have v3 := v3.touch (Touch.of_grown (g := w.heap.size + 1) (setc_grownGame _ (w.heap.size + 1) 0 (.int .i64 n0)) (Nat.le_refl _) (Nat.lt_succ_self _)) (.inr (by omega))
  have HB := below_sto HB (g := w.heap.size + 1) (by omega) 1 (.int .i64 n1)
  have v2 := v2.touch (Touch.of_grown (g := w.heap.size + 1) (setc_grownGame _ (w.heap.size + 1) 1 (.int .i64 n1)) (Nat.le_refl _) (Nat.lt_succ_self _)) (.inr (by omega))
  have v3 := v3.touch (Touch.of_grown (g := w.heap.size + 1) (setc_grownGame _ (w.heap.size + 1) 1 (.int .i64 n1)) (Nat.le_refl _) (Nat.lt_succ_self _)) (.inr (by omega))
  have HB := below_sto HB (g := w.heap.size + 1) (by omega) 2 (.slice a2' x2.length c2')
  have v2 := v2.touch (Touch.of_grown (g := w.heap.size + 1) (setc_grownGame _ (w.heap.size + 1) 2 (.slice a2' x2.length c2')) (Nat.le_refl _) (Nat.lt_succ_self _)) (.inr (by omega))
  have v3 := v3.touch (Touch.of_grown (g := w.heap.size + 1) (setc_grownGame _ (w.heap.size + 1) 2 (.slice a2' x2.length c2')) (Nat.le_refl _) (Nat.lt_succ_self _)) (.inr (by omega))
  have HB := below_sto HB (g := w.heap.size + 1) (by omega) 3 (.slice a3' x3.length c3')
  have v2 := v2.touch (Touch.of_grown (g := w.heap.size + 1) (setc_grownGame _ (w.heap.size + 1) 3 (.slice a3' x3.length c3')) (Nat.le_refl _) (Nat.lt_succ_self _)) (.inr (by omega))
  have v3 := v3.touch (Touch.of_grown (g := w.heap.size + 1) (setc_grownGame _ (w.heap.size + 1) 3 (.slice a3' x3.length c3')) (Nat.le_refl _) (Nat.lt_succ_self _)) (.inr (by omega))
  have HO : Hid (Below w.heap.size w _) := HB
  generalize hW : (((((w2.setCell ⟨w.heap.size + 1 + 1, 3, none⟩ (.slice a3' x3.length c3')).setCell ⟨w.heap.size + 1, 0, none⟩ (.int .i64 n0)).setCell ⟨w.heap.size + 1, 1, none⟩ (.int .i64 n1)).setCell ⟨w.heap.size + 1, 2, none⟩ (.slice a2' x2.length c2')).setCell ⟨w.heap.size + 1, 3, none⟩ (.slice a3' x3.length c3')) = W at *
  have HF : Hid (OwnGame W w.heap.size W.heap.size a2' c2' x2 a3' c3' x3) := by
    have hsz : W.heap.size = w2.heap.size := by rw [← hW]; simp
    exact ⟨w1.heap.size, by omega, v2.mono (by omega) (by omega), v3.mono (by omega) (by omega)⟩
  clear v2 v3 HB
  have HW := Lib.hid hW
  clear hW kF
  go_wp2_with fail
  rw [HW.out]
  exact bodyPost_ret (v := .agg #[.int .i64 n0, .int .i64 n1, .slice a2' x2.length c2', .slice a3' x3.length c3']) (by simp [results, Try.results38, go_sem, z0, z1, z2, z3]) rfl ⟨_, _, _, _, rfl, HF.out, HO.out⟩
def szGameF (left : Int) (x2 : List Int) (x3 : List Int) : Int := (if szF left x2.length < 0 then -1 else (if szF (szF left x2.length) x3.length < 0 then -1 else (szF (szF left x2.length) x3.length)))
theorem szGameF_spec {left : Int} {x2 : List Int} {x3 : List Int} (h : 0 ≤ left) : -1 ≤ szGameF left x2 x3 ∧ szGameF left x2 x3 ≤ left ∧ (0 ≤ szGameF left x2 x3 → (x2.length : Int) ≤ left ∧ (x3.length : Int) ≤ left) := by
  unfold szGameF szF
  repeat' split
  all_goals omega
set_option maxHeartbeats 2000000 in
theorem lawSz_Game (w : World) (n0 n1 : Int) (a2 : Option Addr) (c2 : Nat) (x2 : List Int) (a3 : Option Addr) (c3 : Nat) (x3 : List Int) (left : Int) (h0 : 0 ≤ left) (h1 : left ≤ 1048576) (hl2 : x2.length ≤ 9223372036854775807) (hl3 : x3.length ≤ 9223372036854775807) :
    Calls Try.prog 35 #[.agg #[.int .i64 n0, .int .i64 n1, .slice a2 x2.length c2, .slice a3 x3.length c3], .int .i64 left] w fun e w' => e = .returned (.int .i64 (szGameF left x2 x3)) ∧ Below w.heap.size w w' := by
  unfold szGameF
  have L2 := Lib.hid (fun w' => szInt64S_any' w' a2 x2.length c2 left (by omega) (by omega) hl2)
  have b2 : -1 ≤ szF left x2.length ∧ szF left x2.length ≤ left := by unfold szF; split <;> omega
  generalize szF left x2.length = e2 at *
  obtain ⟨b2a, b2b⟩ := b2
  by_cases z2 : e2 < 0
  case pos =>
    rw [if_pos z2]
    go_enter Try.func35, Try.ntmps35
    go_wp2_with fail
    refine (L2.out _).mono ?_
    rintro e w' ⟨rfl, rfl⟩
    go_wp2_with fail
    go_ret
    exact ⟨rfl, bl1 _ _⟩
  rw [if_neg z2]
  have L3 := Lib.hid (fun w' => szInt64S_any' w' a3 x3.length c3 e2 (by omega) (by omega) hl3)
  have b3 : -1 ≤ szF e2 x3.length ∧ szF e2 x3.length ≤ e2 := by unfold szF; split <;> omega
  generalize szF e2 x3.length = e3 at *
  obtain ⟨b3a, b3b⟩ := b3
  by_cases z3 : e3 < 0
  case pos =>
    rw [if_pos z3]
    go_enter Try.func35, Try.ntmps35
    go_wp2_with fail
    refine (L2.out _).mono ?_
    rintro e w' ⟨rfl, rfl⟩
    go_wp2_with fail
    refine (L3.out _).mono ?_
    rintro e w' ⟨rfl, rfl⟩
    go_wp2_with fail
    go_ret
    exact ⟨rfl, bl1 _ _⟩
  rw [if_neg z3]
  go_enter Try.func35, Try.ntmps35
  go_wp2_with fail
  refine (L2.out _).mono ?_
  rintro e w' ⟨rfl, rfl⟩
  go_wp2_with fail
  refine (L3.out _).mono ?_
  rintro e w' ⟨rfl, rfl⟩
  go_wp2_with fail
  go_ret
  exact ⟨rfl, bl1 _ _⟩
set_option maxRecDepth 10000 in
set_option maxHeartbeats 4000000 in
theorem lawEq_Game (w : World) (B C : Nat) (n0 n1 : Int) (a2 b2 : Option Addr) (c2 d2 : Nat) (x2 : List Int) (a3 b3 : Option Addr) (c3 d3 : Nat) (x3 : List Int) (h : RdGame w B a2 x2 a3 x3) (g : RdGame w C b2 x2 b3 x3) (hB : B ≤ w.heap.size) (hC : C ≤ w.heap.size) (hl2 : x2.length ≤ 1048576) (hl3 : x3.length ≤ 1048576) :
    Calls Try.prog 43 #[.agg #[.int .i64 n0, .int .i64 n1, .slice a2 x2.length c2, .slice a3 x3.length c3], .agg #[.int .i64 n0, .int .i64 n1, .slice b2 x2.length d2, .slice b3 x3.length d3]] w fun e w' => e = .returned (.bool true) ∧ Below w.heap.size w w' := by
  have h2 : Rd w w.heap.size a2 (ints x2) := Rd.mono (h.1) hB
  have g2 : Rd w w.heap.size b2 (ints x2) := Rd.mono (g.1) hC
  have h3 : Rd w w.heap.size a3 (ints x3) := Rd.mono (h.2) hB
  have g3 : Rd w w.heap.size b3 (ints x3) := Rd.mono (g.2) hC
  have e0 : (n0 != n0) = false := by simp
  have e1 : (n1 != n1) = false := by simp
  clear h g hB hC
  go_enter Try.func43, Try.ntmps43
  go_wp2_with fail
  refine (lawEq_I' _ _ _ _ _ _ _ x2 (h2.below (bl2 w _ _) (Nat.le_refl _)) (g2.below (bl2 w _ _) (Nat.le_refl _)) (by simp; omega) (by simp; omega) (by omega)).mono ?_
  rintro e w1 ⟨rfl, hb1⟩
  have kA := ((Blk.new w [.int .i64 n0, .int .i64 n1, .slice a2 x2.length c2, .slice a3 x3.length c3] 31).alloc (.cells #[.int .i64 n0, .int .i64 n1, .slice b2 x2.length d2, .slice b3 x3.length d3] 31)).same hb1
  have kB := (blkat1_Game w (.cells #[.int .i64 n0, .int .i64 n1, .slice a2 x2.length c2, .slice a3 x3.length c3] 31) [.int .i64 n0, .int .i64 n1, .slice b2 x2.length d2, .slice b3 x3.length d3] 31).same hb1
  have B1 := below_then (bl2 w (.cells #[.int .i64 n0, .int .i64 n1, .slice a2 x2.length c2, .slice a3 x3.length c3] 31) (.cells #[.int .i64 n0, .int .i64 n1, .slice b2 x2.length d2, .slice b3 x3.length d3] 31)) hb1
  clear hb1
  have t0 := kA.cell 0
  have u0 := kB.cell 0
  have t1 := kA.cell 1
  have u1 := kB.cell 1
  have t2 := kA.cell 2
  have u2 := kB.cell 2
  have t3 := kA.cell 3
  have u3 := kB.cell 3
  simp only [List.getElem?_cons_zero, List.getElem?_cons_succ] at t0 u0 t1 u1 t2 u2 t3 u3
  go_wp2_with fail
  refine (lawEq_I' _ _ _ _ _ _ _ x3 (h3.below B1 (Nat.le_refl _)) (g3.below B1 (Nat.le_refl _)) B1.size B1.size (by omega)).mono ?_
  rintro e w2 ⟨rfl, hb2⟩
  have kA := kA.same hb2
  have kB := kB.same hb2
  have B2 := below_then B1 hb2
  clear hb2
  go_wp2_with fail
  go_ret
  exact ⟨rfl, B2⟩
set_option maxRecDepth 10000 in
set_option maxHeartbeats 4000000 in
theorem lawMark_Game (w : World) (lo hi : Nat) (n0 n1 : Int) (a2 : Option Addr) (c2 : Nat) (x2 : List Int) (a3 : Option Addr) (c3 : Nat) (x3 : List Int) (k : Int) (h : OwnGame w lo hi a2 c2 x2 a3 c3 x3) (hhi : hi ≤ w.heap.size) (hl2 : x2.length ≤ 1048576) (hl3 : x3.length ≤ 1048576) (hk0 : 1 ≤ k) (hk : k ≤ 1125899906842624) :
    Calls Try.prog 56 #[.agg #[.int .i64 n0, .int .i64 n1, .slice a2 x2.length c2, .slice a3 x3.length c3], .int .i64 k] w fun e w' => e = .returned (.int .i64 (k + x2.length + x3.length)) ∧ Touch w w' lo hi := by
  obtain ⟨m3, hm, o2, o3⟩ := h
  have q2 := o2.keep (bl1 w (.cells #[.int .i64 n0, .int .i64 n1, .slice a2 x2.length c2, .slice a3 x3.length c3] 31))
  have q3 := o3.keep (bl1 w (.cells #[.int .i64 n0, .int .i64 n1, .slice a2 x2.length c2, .slice a3 x3.length c3] 31))
  clear o2 o3
  go_enter Try.func56, Try.ntmps56
  go_wp2_with fail
  refine (lawMark_I _ _ _ _ _ x2 (k) q2 (by omega) (by omega) (by omega)).mono ?_
  rintro e w1 ⟨rfl, _, ht1⟩
  have kA := (Blk.new w [.int .i64 n0, .int .i64 n1, .slice a2 x2.length c2, .slice a3 x3.length c3] 31).touch ht1 (.inr (by omega))
  have T1 := ((Below.touch (bl1 w (.cells #[.int .i64 n0, .int .i64 n1, .slice a2 x2.length c2, .slice a3 x3.length c3] 31)) lo hi).trans (ht1.mono (by omega) (by omega)))
  have q3 := q3.touch ht1 (by omega)
  have t0 := kA.cell 0
  have t1 := kA.cell 1
  have t2 := kA.cell 2
  have t3 := kA.cell 3
  simp only [List.getElem?_cons_zero, List.getElem?_cons_succ] at t0 t1 t2 t3
  clear ht1
  go_wp2_with fail
  refine (lawMark_I _ _ _ _ _ x3 (k + x2.length) q3 (by omega) (by omega) (by omega)).mono ?_
  rintro e w2 ⟨rfl, _, ht2⟩
  have kA := kA.touch ht2 (.inr (by omega))
  have T2 := T1.trans (ht2.mono (lo' := lo) (hi' := hi) (by omega) (by omega))
  clear ht2
  go_wp2_with fail
  go_ret
  exact ⟨rfl, T2⟩
set_option maxRecDepth 100000 in
open Go.ChangeShapes Go.WideShapes in
theorem open_Game {H : Type} {enc : TypeId × Value → H} {w : World} {r : Reach} {b0 : Nat} {held : Bool} {v : Value} {d : DataW H} {ps : List MemPlace} (hval : Value.okWide Try.prog w r b0 24 v) (h : DataW.Trod enc Try.prog w 0 (fun _ => true) held 24 v d ps) :
    ∃ (n0 : Int) (n1 : Int) (a2 : Option Addr) (c2 : Nat) (x2 : List Int) (a3 : Option Addr) (c3 : Nat) (x3 : List Int), v = .agg #[.int .i64 n0, .int .i64 n1, .slice a2 x2.length c2, .slice a3 x3.length c3] ∧ RdGame w w.heap.size a2 x2 a3 x3 ∧ x2.length ≤ 9223372036854775807 ∧ x3.length ≤ 9223372036854775807 ∧ (-9223372036854775808 ≤ n0 ∧ n0 ≤ 9223372036854775807) ∧ (-9223372036854775808 ≤ n1 ∧ n1 ≤ 9223372036854775807) := by
  obtain ⟨cs, rfl, hcs⟩ := okWide_struct Try.underlying24 hval
  obtain ⟨fuel, hf⟩ := h
  obtain ⟨hlen, n, Y, hY⟩ := open_agg_fields Try.underlying24 (Go.Deep.hone_of (by kernel_rfl)) (by kernel_rfl) hf
  have e0 := hY 0 _ rfl
  have e1 := hY 1 _ rfl
  have e2 := hY 2 _ rfl
  have e3 := hY 3 _ rfl
  clear hY hf hcs hval
  obtain ⟨l⟩ := cs
  match l, hlen, e0, e1, e2, e3 with
  | [v0, v1, v2, v3], _, e0, e1, e2, e3 => 
    obtain ⟨n0, rfl, b0⟩ := int_field Try.underlying2 (v := v0) e0
    obtain ⟨n1, rfl, b1⟩ := int_field Try.underlying2 (v := v1) e1
    obtain ⟨a2, c2, x2, rfl, r2, l2⟩ := ints_field Try.underlying22 Try.underlying2 (by kernel_rfl) (v := v2) e2
    obtain ⟨a3, c3, x3, rfl, r3, l3⟩ := ints_field Try.underlying22 Try.underlying2 (by kernel_rfl) (v := v3) e3
    exact ⟨n0, n1, a2, c2, x2, a3, c3, x3, rfl, ⟨r2, r3⟩, l2, l3, b0, b1⟩
end Go.Proofs.Yteclpcmbicjjgaa
