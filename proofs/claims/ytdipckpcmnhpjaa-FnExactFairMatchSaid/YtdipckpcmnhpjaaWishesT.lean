/-
  Wishes: what the law's helpers on it compute.
-/
import Derived.Test.YtdipckpcmnhpjaaLawInts
import Derived.Test.YtdipckpcmnhpjaaStructOpen
import Derived.Test.YtdipckpcmnhpjaaLawRowsS
namespace Go.Proofs.Ytdipckpcmnhpjaa
set_option linter.unusedVariables false
set_option linter.unusedSimpArgs false
open Go.RowKit

def RdWishes (w : World) (B : Nat) (a0 : Option Addr) (x0 : List (List Int)) (a1 : Option Addr) (x1 : List (List Int)) : Prop := RdII w B a0 x0 ∧ RdII w B a1 x1
def OwnWishes (w : World) (lo hi : Nat) (a0 : Option Addr) (c0 : Nat) (x0 : List (List Int)) (a1 : Option Addr) (c1 : Nat) (x1 : List (List Int)) : Prop :=
  ∃ m1 : Nat, (lo ≤ m1 ∧ m1 ≤ hi) ∧ OwnII 2 25 w lo m1 a0 c0 x0 ∧ OwnII 2 25 w m1 hi a1 c1 x1
section
variable {w w' : World} {B C lo hi : Nat} {a0 : Option Addr} {x0 : List (List Int)} {a1 : Option Addr} {x1 : List (List Int)} {c0 : Nat} {c1 : Nat}
theorem RdWishes.below (h : RdWishes w B a0 x0 a1 x1) (hb : Below C w w') (hB : B ≤ C) : RdWishes w' B a0 x0 a1 x1 := ⟨RdII.below (h.1) hb hB, RdII.below (h.2) hb hB⟩
theorem RdWishes.mono (h : RdWishes w B a0 x0 a1 x1) (hB : B ≤ C) : RdWishes w C a0 x0 a1 x1 := ⟨RdII.mono (h.1) hB, RdII.mono (h.2) hB⟩
theorem RdWishes.to (h : RdWishes w w.heap.size a0 x0 a1 x1) (hb : Below w.heap.size w w') : RdWishes w' w'.heap.size a0 x0 a1 x1 := (h.below hb (Nat.le_refl _)).mono hb.size
theorem RdWishes.touch (h : RdWishes w B a0 x0 a1 x1) (ht : Touch w w' lo hi) (hB : B ≤ lo) (hs : B ≤ w.heap.size) : RdWishes w' B a0 x0 a1 x1 := ⟨RdII.touch (h.1) ht hB hs, RdII.touch (h.2) ht hB hs⟩
theorem OwnWishes.rd (h : OwnWishes w lo hi a0 c0 x0 a1 c1 x1) : RdWishes w hi a0 x0 a1 x1 := by
  obtain ⟨m1, hm, o0, o1⟩ := h
  exact ⟨o0.rd.mono (by omega), o1.rd.mono (by omega)⟩
theorem OwnWishes.keep (h : OwnWishes w lo hi a0 c0 x0 a1 c1 x1) (hb : Below w.heap.size w w') : OwnWishes w' lo hi a0 c0 x0 a1 c1 x1 := by
  obtain ⟨m1, hm, o0, o1⟩ := h
  exact ⟨m1, hm, o0.keep hb, o1.keep hb⟩
theorem OwnWishes.touch {lo' hi' : Nat} (h : OwnWishes w lo hi a0 c0 x0 a1 c1 x1) (ht : Touch w w' lo' hi') (hd : hi ≤ lo' ∨ hi' ≤ lo) : OwnWishes w' lo hi a0 c0 x0 a1 c1 x1 := by
  obtain ⟨m1, hm, o0, o1⟩ := h
  exact ⟨m1, hm, o0.touch ht (by omega), o1.touch ht (by omega)⟩
theorem OwnWishes.le (h : OwnWishes w lo hi a0 c0 x0 a1 c1 x1) : lo ≤ hi := by
  obtain ⟨m1, hm, o0, o1⟩ := h
  omega
end
theorem blkat1_Wishes (w : World) (o : Obj) (cs : List Value) (t : TypeId) : Blk ((w.alloc o).alloc (.cells cs.toArray t)) (w.heap.size + 1) cs t := by
  have := Blk.new (w.alloc o) cs t
  simpa using this
theorem blkat2_Wishes (w : World) (o p : Obj) (cs : List Value) (t : TypeId) : Blk (((w.alloc o).alloc p).alloc (.cells cs.toArray t)) (w.heap.size + 1 + 1) cs t := by
  have := Blk.new ((w.alloc o).alloc p) cs t
  simpa using this
theorem setc_grownWishes (w : World) (g j : Nat) (u : Value) : w.grownBy (w.setCell ⟨g, j, none⟩ u) (some g) := ⟨rfl, rfl, rfl, by simp, fun i _ hi => Below.heap_setCell _ _ _ _ (fun e => hi (by simp [e]))⟩
set_option maxRecDepth 10000 in
set_option maxHeartbeats 4000000 in
theorem lawTo_Wishes (w : World) (B : Nat) (a0 : Option Addr) (c0 : Nat) (x0 : List (List Int)) (a1 : Option Addr) (c1 : Nat) (x1 : List (List Int)) (h : RdWishes w B a0 x0 a1 x1) (hB : B ≤ w.heap.size) (hl0 : x0.length ≤ 1048576) (hin0 : ∀ y ∈ x0, y.length ≤ 1048576) (hl1 : x1.length ≤ 1048576) (hin1 : ∀ y ∈ x1, y.length ≤ 1048576) :
    Calls Try.prog 17 #[.agg #[.slice a0 x0.length c0, .slice a1 x1.length c1]] w fun e w' => ∃ a0' c0' a1' c1', e = .returned (.agg #[.slice a0' x0.length c0', .slice a1' x1.length c1']) ∧ OwnWishes w' w.heap.size w'.heap.size a0' c0' x0 a1' c1' x1 ∧ Below w.heap.size w w' := by
  have h0 : RdII w w.heap.size a0 x0 := RdII.mono (h.1) hB
  have h1 : RdII w w.heap.size a1 x1 := RdII.mono (h.2) hB
  clear h hB
  go_enter Try.func17, Try.ntmps17
  go_wp2_with fail
  refine (lawTo_II _ _ _ _ x0 (h0.below (bl3 w _ _ _) (Nat.le_refl _)) (by simp; omega) hl0 hin0).mono ?_
  rintro e w1 ⟨a0', c0', rfl, o0, hb1⟩
  have kR := ((blkat1_Wishes w (.cells #[.slice a0 x0.length c0, .slice a1 x1.length c1] 24) [.slice none 0 0, .slice none 0 0] 28).alloc (.cells #[.slice none 0 0, .slice none 0 0] 28)).same hb1
  have kL := (blkat2_Wishes w (.cells #[.slice a0 x0.length c0, .slice a1 x1.length c1] 24) (.cells #[.slice none 0 0, .slice none 0 0] 28) [.slice none 0 0, .slice none 0 0] 28).same hb1
  have B1 := below_then (bl3 w (.cells #[.slice a0 x0.length c0, .slice a1 x1.length c1] 24) (.cells #[.slice none 0 0, .slice none 0 0] 28) (.cells #[.slice none 0 0, .slice none 0 0] 28)) hb1
  have s1 : w.heap.size + 3 ≤ w1.heap.size := by have := hb1.size; simp at this; omega
  have q0 : OwnII 2 25 w1 (w.heap.size + 3) w1.heap.size a0' c0' x0 := o0.mono2 (by simp) (Nat.le_refl _) (Nat.le_refl _)
  have xx0 := (Blk.new w [.slice a0 x0.length c0, .slice a1 x1.length c1] 24)
  have kA := ((xx0.alloc (.cells #[.slice none 0 0, .slice none 0 0] 28)).alloc (.cells #[.slice none 0 0, .slice none 0 0] 28)).same hb1
  clear xx0 o0 hb1
  have f0 := kL.free 0
  have g0 := kL.cell 0
  simp only [List.getElem?_cons_zero, List.getElem?_cons_succ] at g0
  have t0 := kA.cell 0
  have t1 := kA.cell 1
  simp only [List.getElem?_cons_zero, List.getElem?_cons_succ] at t0 t1
  have D1 := below_sto B1 (g := w.heap.size + 1 + 1) (by omega) 0 (.slice a0' x0.length c0')
  have kL2 := kL.set 0 (.slice a0' x0.length c0')
  simp only [List.set_cons_zero, List.set_cons_succ] at kL2
  have kR2 := kR.oth (g := w.heap.size + 1 + 1) (by omega) 0 (.slice a0' x0.length c0')
  have kA2 := kA.oth (g := w.heap.size + 1 + 1) (by omega) 0 (.slice a0' x0.length c0')
  have q0' := q0.touch (Touch.of_grown (g := w.heap.size + 1 + 1) (show Go.World.grownBy w1 (w1.setCell ⟨w.heap.size + 1 + 1, 0, none⟩ (.slice a0' x0.length c0')) (some (w.heap.size + 1 + 1)) from ⟨rfl, rfl, rfl, by simp, fun i _ hi => Below.heap_setCell _ _ _ _ (fun e => hi (by simp [e]))⟩) (Nat.le_refl _) (Nat.lt_succ_self _)) (.inr (by omega))
  clear kL kR kA q0
  have kL := kL2
  have kR := kR2
  have kA := kA2
  have q0 := q0'
  clear kL2 kR2 kA2 q0'
  go_wp2_with fail
  refine (lawTo_II _ _ _ _ x1 (h1.below D1 (Nat.le_refl _)) (by have := D1.size; exact this) hl1 hin1).mono ?_
  rintro e w2 ⟨a1', c1', rfl, o1, hb2⟩
  have kR := kR.same hb2
  have kL := kL.same hb2
  have kA := kA.same hb2
  have B2 := below_then D1 hb2
  have s2 : w1.heap.size ≤ w2.heap.size := by have := hb2.size; simp at this; omega
  have q1 : OwnII 2 25 w2 w1.heap.size w2.heap.size a1' c1' x1 := o1.mono2 (by simp) (Nat.le_refl _) (Nat.le_refl _)
  have q0 := q0.keep hb2
  clear o1 hb2
  have f1 := kL.free 1
  have g1 := kL.cell 1
  simp only [List.getElem?_cons_zero, List.getElem?_cons_succ] at g1
  have t0 := kA.cell 0
  have t1 := kA.cell 1
  simp only [List.getElem?_cons_zero, List.getElem?_cons_succ] at t0 t1
  have D2 := below_sto B2 (g := w.heap.size + 1 + 1) (by omega) 1 (.slice a1' x1.length c1')
  have kL2 := kL.set 1 (.slice a1' x1.length c1')
  simp only [List.set_cons_zero, List.set_cons_succ] at kL2
  have kR2 := kR.oth (g := w.heap.size + 1 + 1) (by omega) 1 (.slice a1' x1.length c1')
  have kA2 := kA.oth (g := w.heap.size + 1 + 1) (by omega) 1 (.slice a1' x1.length c1')
  have q0' := q0.touch (Touch.of_grown (g := w.heap.size + 1 + 1) (show Go.World.grownBy w2 (w2.setCell ⟨w.heap.size + 1 + 1, 1, none⟩ (.slice a1' x1.length c1')) (some (w.heap.size + 1 + 1)) from ⟨rfl, rfl, rfl, by simp, fun i _ hi => Below.heap_setCell _ _ _ _ (fun e => hi (by simp [e]))⟩) (Nat.le_refl _) (Nat.lt_succ_self _)) (.inr (by omega))
  have q1' := q1.touch (Touch.of_grown (g := w.heap.size + 1 + 1) (show Go.World.grownBy w2 (w2.setCell ⟨w.heap.size + 1 + 1, 1, none⟩ (.slice a1' x1.length c1')) (some (w.heap.size + 1 + 1)) from ⟨rfl, rfl, rfl, by simp, fun i _ hi => Below.heap_setCell _ _ _ _ (fun e => hi (by simp [e]))⟩) (Nat.le_refl _) (Nat.lt_succ_self _)) (.inr (by omega))
  have l0 := kL2.cell 0
  have r0 := kR2.cell 0
  have rf0 := kR2.free 0
  have l1 := kL2.cell 1
  have r1 := kR2.cell 1
  have rf1 := kR2.free 1
  simp only [List.getElem?_cons_zero, List.getElem?_cons_succ] at l0 r0 l1 r1
  have HD := Lib.hid D2
  have Q0 := Lib.hid q0'
  have Q1 := Lib.hid q1'
  clear kL kR kA kL2 kA2 q0 q0' q1 q1'
  have kF := (kR2.set 0 (.slice a0' x0.length c0')).set 1 (.slice a1' x1.length c1')
  simp only [List.set_cons_zero, List.set_cons_succ] at kF
  have z0 := kF.cell 0
  have z1 := kF.cell 1
  simp only [List.getElem?_cons_zero, List.getElem?_cons_succ] at z0 z1
  have HB := HD.out
  have v0 := Q0.out
  have v1 := Q1.out
  clear HD Q0 Q1 kR2
  have HB := below_sto HB (g := w.heap.size + 1) (by omega) 0 (.slice a0' x0.length c0')
  have v0 := v0.touch (Touch.of_grown (g := w.heap.size + 1) (setc_grownWishes _ (w.heap.size + 1) 0 (.slice a0' x0.length c0')) (Nat.le_refl _) (Nat.lt_succ_self _)) (.inr (by omega))
  have v1 := v1.touch (Touch.of_grown (g := w.heap.size + 1) (setc_grownWishes _ (w.heap.size + 1) 0 (.slice a0' x0.length c0')) (Nat.le_refl _) (Nat.lt_succ_self _)) (.inr (by omega))
  have HB := below_sto HB (g := w.heap.size + 1) (by omega) 1 (.slice a1' x1.length c1')
  have v0 := v0.touch (Touch.of_grown (g := w.heap.size + 1) (setc_grownWishes _ (w.heap.size + 1) 1 (.slice a1' x1.length c1')) (Nat.le_refl _) (Nat.lt_succ_self _)) (.inr (by omega))
  have v1 := v1.touch (Touch.of_grown (g := w.heap.size + 1) (setc_grownWishes _ (w.heap.size + 1) 1 (.slice a1' x1.length c1')) (Nat.le_refl _) (Nat.lt_succ_self _)) (.inr (by omega))
  have HO : Hid (Below w.heap.size w _) := HB
  generalize hW : (((w2.setCell ⟨w.heap.size + 1 + 1, 1, none⟩ (.slice a1' x1.length c1')).setCell ⟨w.heap.size + 1, 0, none⟩ (.slice a0' x0.length c0')).setCell ⟨w.heap.size + 1, 1, none⟩ (.slice a1' x1.length c1')) = W at *
  have HF : Hid (OwnWishes W w.heap.size W.heap.size a0' c0' x0 a1' c1' x1) := by
    have hsz : W.heap.size = w2.heap.size := by rw [← hW]; simp
    exact ⟨w1.heap.size, by omega, v0.mono2 (by omega) (by omega) (by omega), v1.mono2 (by omega) (by omega) (by omega)⟩
  clear v0 v1 HB
  have HW := Lib.hid hW
  clear hW kF
  go_wp2_with fail
  rw [HW.out]
  exact bodyPost_ret (v := .agg #[.slice a0' x0.length c0', .slice a1' x1.length c1']) (by simp [results, Try.results17, go_sem, z0, z1]) rfl ⟨_, _, _, _, rfl, HF.out, HO.out⟩
def szWishesF (left : Int) (x0 : List (List Int)) (x1 : List (List Int)) : Int := (if szFF left x0 < 0 then -1 else (if szFF (szFF left x0) x1 < 0 then -1 else (szFF (szFF left x0) x1)))
theorem szWishesF_spec {left : Int} {x0 : List (List Int)} {x1 : List (List Int)} (h : 0 ≤ left) : -1 ≤ szWishesF left x0 x1 ∧ szWishesF left x0 x1 ≤ left ∧ (0 ≤ szWishesF left x0 x1 → (x0.length : Int) ≤ left ∧ (∀ y ∈ x0, (y.length : Int) ≤ left) ∧ (x1.length : Int) ≤ left ∧ (∀ y ∈ x1, (y.length : Int) ≤ left)) := by
  unfold szWishesF
  obtain ⟨p0, q0, r0⟩ := szFF_specL (left := left) (yss := x0) (by omega)
  generalize szFF left x0 = e0 at *
  by_cases z0 : e0 < 0
  · rw [if_pos z0]; exact ⟨by omega, by omega, fun h => by omega⟩
  rw [if_neg z0]
  obtain ⟨r0a, r0b⟩ := r0 (by omega)
  obtain ⟨p1, q1, r1⟩ := szFF_specL (left := e0) (yss := x1) (by omega)
  generalize szFF e0 x1 = e1 at *
  by_cases z1 : e1 < 0
  · rw [if_pos z1]; exact ⟨by omega, by omega, fun h => by omega⟩
  rw [if_neg z1]
  obtain ⟨r1a, r1b⟩ := r1 (by omega)
  exact ⟨by omega, by omega, fun _ => ⟨by omega, fun y hy => by have := r0b y hy; omega, by omega, fun y hy => by have := r1b y hy; omega⟩⟩
set_option maxHeartbeats 2000000 in
theorem lawSz_Wishes (w : World) (a0 : Option Addr) (c0 : Nat) (x0 : List (List Int)) (a1 : Option Addr) (c1 : Nat) (x1 : List (List Int)) (left : Int) (h0 : 0 ≤ left) (h1 : left ≤ 1048576) (hl0 : x0.length ≤ 9223372036854775807) (hin0 : ∀ y ∈ x0, y.length ≤ 9223372036854775807) (hl1 : x1.length ≤ 9223372036854775807) (hin1 : ∀ y ∈ x1, y.length ≤ 9223372036854775807) (h : RdWishes w w.heap.size a0 x0 a1 x1) :
    Calls Try.prog 15 #[.agg #[.slice a0 x0.length c0, .slice a1 x1.length c1], .int .i64 left] w fun e w' => e = .returned (.int .i64 (szWishesF left x0 x1)) ∧ Below w.heap.size w w' := by
  unfold szWishesF
  have L0' := Lib.hid (fun w' hb => szInt64SS_anyL w' a0 c0 x0 (RdII.to (h.1) hb) hl0 hin0 left (by omega) (by omega))
  have L0 := Lib.hid (L0'.out _ (bl1 w (.cells #[.slice a0 x0.length c0, .slice a1 x1.length c1] 24)))
  have b0 : -1 ≤ szFF left x0 ∧ szFF left x0 ≤ left := by have := szFF_specL (left := left) (yss := x0) (by omega); exact ⟨this.1, this.2.1⟩
  clear L0'
  generalize szFF left x0 = e0 at *
  obtain ⟨b0a, b0b⟩ := b0
  by_cases z0 : e0 < 0
  case pos =>
    rw [if_pos z0]
    go_enter Try.func15, Try.ntmps15
    go_wp2_with fail
    refine (L0.out).mono ?_
    rintro e w' ⟨rfl, rfl⟩
    go_wp2_with fail
    go_ret
    exact ⟨rfl, bl1 _ _⟩
  rw [if_neg z0]
  have L1' := Lib.hid (fun w' hb => szInt64SS_anyL w' a1 c1 x1 (RdII.to (h.2) hb) hl1 hin1 e0 (by omega) (by omega))
  have L1 := Lib.hid (L1'.out _ (bl1 w (.cells #[.slice a0 x0.length c0, .slice a1 x1.length c1] 24)))
  have b1 : -1 ≤ szFF e0 x1 ∧ szFF e0 x1 ≤ e0 := by have := szFF_specL (left := e0) (yss := x1) (by omega); exact ⟨this.1, this.2.1⟩
  clear L1'
  generalize szFF e0 x1 = e1 at *
  obtain ⟨b1a, b1b⟩ := b1
  by_cases z1 : e1 < 0
  case pos =>
    rw [if_pos z1]
    go_enter Try.func15, Try.ntmps15
    go_wp2_with fail
    refine (L0.out).mono ?_
    rintro e w' ⟨rfl, rfl⟩
    go_wp2_with fail
    refine (L1.out).mono ?_
    rintro e w' ⟨rfl, rfl⟩
    go_wp2_with fail
    go_ret
    exact ⟨rfl, bl1 _ _⟩
  rw [if_neg z1]
  go_enter Try.func15, Try.ntmps15
  go_wp2_with fail
  refine (L0.out).mono ?_
  rintro e w' ⟨rfl, rfl⟩
  go_wp2_with fail
  refine (L1.out).mono ?_
  rintro e w' ⟨rfl, rfl⟩
  go_wp2_with fail
  go_ret
  exact ⟨rfl, bl1 _ _⟩
set_option maxRecDepth 10000 in
set_option maxHeartbeats 4000000 in
theorem lawEq_Wishes (w : World) (B C : Nat)  (a0 b0 : Option Addr) (c0 d0 : Nat) (x0 : List (List Int)) (a1 b1 : Option Addr) (c1 d1 : Nat) (x1 : List (List Int)) (h : RdWishes w B a0 x0 a1 x1) (g : RdWishes w C b0 x0 b1 x1) (hB : B ≤ w.heap.size) (hC : C ≤ w.heap.size) (hl0 : x0.length ≤ 1048576) (hin0 : ∀ y ∈ x0, y.length ≤ 1048576) (hl1 : x1.length ≤ 1048576) (hin1 : ∀ y ∈ x1, y.length ≤ 1048576) :
    Calls Try.prog 20 #[.agg #[.slice a0 x0.length c0, .slice a1 x1.length c1], .agg #[.slice b0 x0.length d0, .slice b1 x1.length d1]] w fun e w' => e = .returned (.bool true) ∧ Below w.heap.size w w' := by
  have h0 : RdII w w.heap.size a0 x0 := RdII.mono (h.1) hB
  have g0 : RdII w w.heap.size b0 x0 := RdII.mono (g.1) hC
  have h1 : RdII w w.heap.size a1 x1 := RdII.mono (h.2) hB
  have g1 : RdII w w.heap.size b1 x1 := RdII.mono (g.2) hC
  clear h g hB hC
  go_enter Try.func20, Try.ntmps20
  go_wp2_with fail
  refine (lawEq_II _ _ _ _ _ _ _ x0 (h0.below (bl2 w _ _) (Nat.le_refl _)) (g0.below (bl2 w _ _) (Nat.le_refl _)) (by simp; omega) (by simp; omega) hl0 hin0).mono ?_
  rintro e w1 ⟨rfl, hb1⟩
  have kA := ((Blk.new w [.slice a0 x0.length c0, .slice a1 x1.length c1] 28).alloc (.cells #[.slice b0 x0.length d0, .slice b1 x1.length d1] 28)).same hb1
  have kB := (blkat1_Wishes w (.cells #[.slice a0 x0.length c0, .slice a1 x1.length c1] 28) [.slice b0 x0.length d0, .slice b1 x1.length d1] 28).same hb1
  have B1 := below_then (bl2 w (.cells #[.slice a0 x0.length c0, .slice a1 x1.length c1] 28) (.cells #[.slice b0 x0.length d0, .slice b1 x1.length d1] 28)) hb1
  clear hb1
  have t0 := kA.cell 0
  have u0 := kB.cell 0
  have t1 := kA.cell 1
  have u1 := kB.cell 1
  simp only [List.getElem?_cons_zero, List.getElem?_cons_succ] at t0 u0 t1 u1
  go_wp2_with fail
  refine (lawEq_II _ _ _ _ _ _ _ x1 (h1.below B1 (Nat.le_refl _)) (g1.below B1 (Nat.le_refl _)) B1.size B1.size hl1 hin1).mono ?_
  rintro e w2 ⟨rfl, hb2⟩
  have kA := kA.same hb2
  have kB := kB.same hb2
  have B2 := below_then B1 hb2
  clear hb2
  go_wp2_with fail
  go_ret
  exact ⟨rfl, B2⟩
set_option maxRecDepth 10000 in
set_option maxHeartbeats 4000000 in
theorem lawMark_Wishes (w : World) (lo hi : Nat) (a0 : Option Addr) (c0 : Nat) (x0 : List (List Int)) (a1 : Option Addr) (c1 : Nat) (x1 : List (List Int)) (k : Int) (h : OwnWishes w lo hi a0 c0 x0 a1 c1 x1) (hhi : hi ≤ w.heap.size) (hl0 : x0.length ≤ 1048576) (hin0 : ∀ y ∈ x0, y.length ≤ 1048576) (hl1 : x1.length ≤ 1048576) (hin1 : ∀ y ∈ x1, y.length ≤ 1048576) (hk0 : 1 ≤ k) (hk : k ≤ 562949953421312) :
    Calls Try.prog 30 #[.agg #[.slice a0 x0.length c0, .slice a1 x1.length c1], .int .i64 k] w fun e w' => ∃ k', e = .returned (.int .i64 k') ∧ (1 ≤ k' ∧ k' ≤ k + 2199023255552) ∧ Touch w w' lo hi := by
  obtain ⟨m1, hm, o0, o1⟩ := h
  have q0 := o0.keep (bl1 w (.cells #[.slice a0 x0.length c0, .slice a1 x1.length c1] 28))
  have q1 := o1.keep (bl1 w (.cells #[.slice a0 x0.length c0, .slice a1 x1.length c1] 28))
  clear o0 o1
  go_enter Try.func30, Try.ntmps30
  go_wp2_with fail
  refine (lawMark_II _ _ _ _ _ x0 (k) q0 hl0 hin0 (by omega) (by omega)).mono ?_
  rintro e w1 ⟨k0, rfl, ⟨kb0, kc0⟩, ht1⟩
  have kA := (Blk.new w [.slice a0 x0.length c0, .slice a1 x1.length c1] 28).touch ht1 (.inr (by omega))
  have T1 := ((Below.touch (bl1 w (.cells #[.slice a0 x0.length c0, .slice a1 x1.length c1] 28)) lo hi).trans (ht1.mono (by omega) (by omega)))
  have q1 := q1.touch ht1 (by omega)
  have t0 := kA.cell 0
  have t1 := kA.cell 1
  simp only [List.getElem?_cons_zero, List.getElem?_cons_succ] at t0 t1
  clear ht1
  go_wp2_with fail
  refine (lawMark_II _ _ _ _ _ x1 (k0) q1 hl1 hin1 (by omega) (by omega)).mono ?_
  rintro e w2 ⟨k1, rfl, ⟨kb1, kc1⟩, ht2⟩
  have kA := kA.touch ht2 (.inr (by omega))
  have T2 := T1.trans (ht2.mono (lo' := lo) (hi' := hi) (by omega) (by omega))
  clear ht2
  go_wp2_with fail
  go_ret
  exact ⟨_, rfl, ⟨by omega, by omega⟩, T2⟩
set_option maxRecDepth 100000 in
open Go.ChangeShapes Go.WideShapes in
theorem open_Wishes {H : Type} {enc : TypeId × Value → H} {w : World} {r : Reach} {b0 : Nat} {held : Bool} {v : Value} {d : DataW H} {ps : List MemPlace} (hval : Value.okWide Try.prog w r b0 24 v) (h : DataW.Trod enc Try.prog w 0 (fun _ => true) held 24 v d ps) :
    ∃ (a0 : Option Addr) (c0 : Nat) (x0 : List (List Int)) (a1 : Option Addr) (c1 : Nat) (x1 : List (List Int)), v = .agg #[.slice a0 x0.length c0, .slice a1 x1.length c1] ∧ RdWishes w w.heap.size a0 x0 a1 x1 ∧ x0.length ≤ 9223372036854775807 ∧ (∀ y ∈ x0, y.length ≤ 9223372036854775807) ∧ x1.length ≤ 9223372036854775807 ∧ (∀ y ∈ x1, y.length ≤ 9223372036854775807) := by
  obtain ⟨cs, rfl, hcs⟩ := okWide_struct Try.underlying24 hval
  obtain ⟨fuel, hf⟩ := h
  obtain ⟨hlen, n, Y, hY⟩ := open_agg_fields Try.underlying24 (Go.Deep.hone_of (by kernel_rfl)) (by kernel_rfl) hf
  have e0 := hY 0 _ rfl
  have e1 := hY 1 _ rfl
  clear hY hf hcs hval
  obtain ⟨l⟩ := cs
  match l, hlen, e0, e1 with
  | [v0, v1], _, e0, e1 => 
    obtain ⟨a0, c0, x0, rfl, r0, l0, m0⟩ := rows_field Try.underlying22 Try.underlying25 Try.underlying2 (by kernel_rfl) (by kernel_rfl) (v := v0) e0
    obtain ⟨a1, c1, x1, rfl, r1, l1, m1⟩ := rows_field Try.underlying22 Try.underlying25 Try.underlying2 (by kernel_rfl) (by kernel_rfl) (v := v1) e1
    exact ⟨a0, c0, x0, a1, c1, x1, rfl, ⟨r0, r1⟩, l0, m0, l1, m1⟩
end Go.Proofs.Ytdipckpcmnhpjaa
