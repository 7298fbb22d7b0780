/-
  Values: what the law's helpers on it compute.
-/
import Derived.Test.YtdmeegfdmdbkiaaLawInts
import Derived.Test.YtdmeegfdmdbkiaaStructOpen
namespace Go.Proofs.Ytdmeegfdmdbkiaa
set_option linter.unusedVariables false
set_option linter.unusedSimpArgs false
open Go.RowKit

def RdValues (w : World) (B : Nat) (a2 : Option Addr) (x2 : List Int) : Prop := Rd w B a2 (ints x2)
def OwnValues (w : World) (lo hi : Nat) (a2 : Option Addr) (c2 : Nat) (x2 : List Int) : Prop :=
  lo ≤ hi ∧ OwnI 2 w lo hi a2 c2 x2
section
variable {w w' : World} {B C lo hi : Nat} {a2 : Option Addr} {x2 : List Int} {c2 : Nat}
theorem RdValues.below (h : RdValues w B a2 x2) (hb : Below C w w') (hB : B ≤ C) : RdValues w' B a2 x2 := Rd.below (h) hb hB
theorem RdValues.mono (h : RdValues w B a2 x2) (hB : B ≤ C) : RdValues w C a2 x2 := Rd.mono (h) hB
theorem RdValues.to (h : RdValues w w.heap.size a2 x2) (hb : Below w.heap.size w w') : RdValues w' w'.heap.size a2 x2 := (h.below hb (Nat.le_refl _)).mono hb.size
theorem RdValues.touch (h : RdValues w B a2 x2) (ht : Touch w w' lo hi) (hB : B ≤ lo) (hs : B ≤ w.heap.size) : RdValues w' B a2 x2 := Rd.touch (h) ht hB hs
theorem OwnValues.rd (h : OwnValues w lo hi a2 c2 x2) : RdValues w hi a2 x2 := by
  obtain ⟨hm, o2⟩ := h
  exact o2.rd.mono (by omega)
theorem OwnValues.keep (h : OwnValues w lo hi a2 c2 x2) (hb : Below w.heap.size w w') : OwnValues w' lo hi a2 c2 x2 := by
  obtain ⟨hm, o2⟩ := h
  exact ⟨hm, o2.keep hb⟩
theorem OwnValues.touch {lo' hi' : Nat} (h : OwnValues w lo hi a2 c2 x2) (ht : Touch w w' lo' hi') (hd : hi ≤ lo' ∨ hi' ≤ lo) : OwnValues w' lo hi a2 c2 x2 := by
  obtain ⟨hm, o2⟩ := h
  exact ⟨hm, o2.touch ht (by omega)⟩
theorem OwnValues.le (h : OwnValues w lo hi a2 c2 x2) : lo ≤ hi := by
  obtain ⟨hm, o2⟩ := h
  omega
end
theorem blkat1_Values (w : World) (o : Obj) (cs : List Value) (t : TypeId) : Blk ((w.alloc o).alloc (.cells cs.toArray t)) (w.heap.size + 1) cs t := by
  have := Blk.new (w.alloc o) cs t
  simpa using this
theorem blkat2_Values (w : World) (o p : Obj) (cs : List Value) (t : TypeId) : Blk (((w.alloc o).alloc p).alloc (.cells cs.toArray t)) (w.heap.size + 1 + 1) cs t := by
  have := Blk.new ((w.alloc o).alloc p) cs t
  simpa using this
theorem setc_grownValues (w : World) (g j : Nat) (u : Value) : w.grownBy (w.setCell ⟨g, j, none⟩ u) (some g) := ⟨rfl, rfl, rfl, by simp, fun i _ hi => Below.heap_setCell _ _ _ _ (fun e => hi (by simp [e]))⟩
set_option maxRecDepth 10000 in
set_option maxHeartbeats 4000000 in
theorem lawTo_Values (w : World) (B : Nat) (n0 n1 : Int) (a2 : Option Addr) (c2 : Nat) (x2 : List Int) (h : RdValues w B a2 x2) (hB : B ≤ w.heap.size) (hl2 : x2.length ≤ 1048576) :
    Calls Try.prog 38 #[.agg #[.int .i64 n0, .int .i64 n1, .slice a2 x2.length c2]] w fun e w' => ∃ a2' c2', e = .returned (.agg #[.int .i64 n0, .int .i64 n1, .slice a2' x2.length c2']) ∧ OwnValues w' w.heap.size w'.heap.size a2' c2' x2 ∧ Below w.heap.size w w' := by
  have h2 : Rd w w.heap.size a2 (ints x2) := Rd.mono (h) hB
  clear h hB
  go_enter Try.func38, Try.ntmps38
  go_wp2_with fail
  refine (lawTo_I _ _ _ _ x2 (h2.below (bl3 w _ _ _) (Nat.le_refl _)) (by simp; omega) hl2).mono ?_
  rintro e w1 ⟨a2', c2', rfl, o2, hb1⟩
  have kR := ((blkat1_Values w (.cells #[.int .i64 n0, .int .i64 n1, .slice a2 x2.length c2] 37) [.int .i64 0, .int .i64 0, .slice none 0 0] 26).alloc (.cells #[.int .i64 n0, .int .i64 n1, .slice none 0 0] 26)).same hb1
  have kL := (blkat2_Values w (.cells #[.int .i64 n0, .int .i64 n1, .slice a2 x2.length c2] 37) (.cells #[.int .i64 0, .int .i64 0, .slice none 0 0] 26) [.int .i64 n0, .int .i64 n1, .slice none 0 0] 26).same hb1
  have B1 := below_then (bl3 w (.cells #[.int .i64 n0, .int .i64 n1, .slice a2 x2.length c2] 37) (.cells #[.int .i64 0, .int .i64 0, .slice none 0 0] 26) (.cells #[.int .i64 n0, .int .i64 n1, .slice none 0 0] 26)) hb1
  have s1 : w.heap.size + 3 ≤ w1.heap.size := by have := hb1.size; simp at this; omega
  have q2 : OwnI 2 w1 (w.heap.size + 3) w1.heap.size a2' c2' x2 := o2.mono (by simp) (Nat.le_refl _)
  have xx0 := (Blk.new w [.int .i64 n0, .int .i64 n1, .slice a2 x2.length c2] 37)
  have kA := ((xx0.alloc (.cells #[.int .i64 0, .int .i64 0, .slice none 0 0] 26)).alloc (.cells #[.int .i64 n0, .int .i64 n1, .slice none 0 0] 26)).same hb1
  clear xx0 o2 hb1
  have f2 := kL.free 2
  have g2 := kL.cell 2
  simp only [List.getElem?_cons_zero, List.getElem?_cons_succ] at g2
  have t0 := kA.cell 0
  have t1 := kA.cell 1
  have t2 := kA.cell 2
  simp only [List.getElem?_cons_zero, List.getElem?_cons_succ] at t0 t1 t2
  have D1 := below_sto B1 (g := w.heap.size + 1 + 1) (by omega) 2 (.slice a2' x2.length c2')
  have kL2 := kL.set 2 (.slice a2' x2.length c2')
  simp only [List.set_cons_zero, List.set_cons_succ] at kL2
  have kR2 := kR.oth (g := w.heap.size + 1 + 1) (by omega) 2 (.slice a2' x2.length c2')
  have kA2 := kA.oth (g := w.heap.size + 1 + 1) (by omega) 2 (.slice a2' x2.length c2')
  have q2' := q2.touch (Touch.of_grown (g := w.heap.size + 1 + 1) (show Go.World.grownBy w1 (w1.setCell ⟨w.heap.size + 1 + 1, 2, none⟩ (.slice a2' x2.length c2')) (some (w.heap.size + 1 + 1)) from ⟨rfl, rfl, rfl, by simp, fun i _ hi => Below.heap_setCell _ _ _ _ (fun e => hi (by simp [e]))⟩) (Nat.le_refl _) (Nat.lt_succ_self _)) (.inr (by omega))
  have l0 := kL2.cell 0
  have r0 := kR2.cell 0
  have rf0 := kR2.free 0
  have l1 := kL2.cell 1
  have r1 := kR2.cell 1
  have rf1 := kR2.free 1
  have l2 := kL2.cell 2
  have r2 := kR2.cell 2
  have rf2 := kR2.free 2
  simp only [List.getElem?_cons_zero, List.getElem?_cons_succ] at l0 r0 l1 r1 l2 r2
  have HD := Lib.hid D1
  have Q2 := Lib.hid q2'
  clear kL kR kA kL2 kA2 q2 q2'
  have kF := ((kR2.set 0 (.int .i64 n0)).set 1 (.int .i64 n1)).set 2 (.slice a2' x2.length c2')
  simp only [List.set_cons_zero, List.set_cons_succ] at kF
  have z0 := kF.cell 0
  have z1 := kF.cell 1
  have z2 := kF.cell 2
  simp only [List.getElem?_cons_zero, List.getElem?_cons_succ] at z0 z1 z2
  have HB := HD.out
  have v2 := Q2.out
  clear HD Q2 kR2
  have HB := below_sto HB (g := w.heap.size + 1) (by omega) 0 (.int .i64 n0)
  have v2 := v2.touch (Touch.of_grown (g := w.heap.size + 1) (setc_grownValues _ (w.heap.size + 1) 0 (.int .i64 n0)) (Nat.le_refl _) (Nat.lt_succ_self _)) (.inr (by omega))
  have HB := below_sto HB (g := w.heap.size + 1) (by omega) 1 (.int .i64 n1)
  have v2 := v2.touch (Touch.of_grown (g := w.heap.size + 1) (setc_grownValues _ (w.heap.size + 1) 1 (.int .i64 n1)) (Nat.le_refl _) (Nat.lt_succ_self _)) (.inr (by omega))
  have HB := below_sto HB (g := w.heap.size + 1) (by omega) 2 (.slice a2' x2.length c2')
  have v2 := v2.touch (Touch.of_grown (g := w.heap.size + 1) (setc_grownValues _ (w.heap.size + 1) 2 (.slice a2' x2.length c2')) (Nat.le_refl _) (Nat.lt_succ_self _)) (.inr (by omega))
  have HO : Hid (Below w.heap.size w _) := HB
  generalize hW : ((((w1.setCell ⟨w.heap.size + 1 + 1, 2, none⟩ (.slice a2' x2.length c2')).setCell ⟨w.heap.size + 1, 0, none⟩ (.int .i64 n0)).setCell ⟨w.heap.size + 1, 1, none⟩ (.int .i64 n1)).setCell ⟨w.heap.size + 1, 2, none⟩ (.slice a2' x2.length c2')) = W at *
  have HF : Hid (OwnValues W w.heap.size W.heap.size a2' c2' x2) := by
    have hsz : W.heap.size = w1.heap.size := by rw [← hW]; simp
    exact ⟨by omega, v2.mono (by omega) (by omega)⟩
  clear v2 HB
  have HW := Lib.hid hW
  clear hW kF
  go_wp2_with fail
  rw [HW.out]
  exact bodyPost_ret (v := .agg #[.int .i64 n0, .int .i64 n1, .slice a2' x2.length c2']) (by simp [results, Try.results38, go_sem, z0, z1, z2]) rfl ⟨_, _, rfl, HF.out, HO.out⟩
def szValuesF (left : Int) (x2 : List Int) : Int := (if szF left x2.length < 0 then -1 else (szF left x2.length))
theorem szValuesF_spec {left : Int} {x2 : List Int} (h : 0 ≤ left) : -1 ≤ szValuesF left x2 ∧ szValuesF left x2 ≤ left ∧ (0 ≤ szValuesF left x2 → (x2.length : Int) ≤ left) := by
  unfold szValuesF szF
  repeat' split
  all_goals omega
set_option maxHeartbeats 2000000 in
theorem lawSz_Values (w : World) (n0 n1 : Int) (a2 : Option Addr) (c2 : Nat) (x2 : List Int) (left : Int) (h0 : 0 ≤ left) (h1 : left ≤ 1048576) (hl2 : x2.length ≤ 9223372036854775807) :
    Calls Try.prog 30 #[.agg #[.int .i64 n0, .int .i64 n1, .slice a2 x2.length c2], .int .i64 left] w fun e w' => e = .returned (.int .i64 (szValuesF left x2)) ∧ Below w.heap.size w w' := by
  unfold szValuesF
  have L2 := Lib.hid (fun w' => szInt64S_any' w' a2 x2.length c2 left (by omega) (by omega) hl2)
  have b2 : -1 ≤ szF left x2.length ∧ szF left x2.length ≤ left := by unfold szF; split <;> omega
  generalize szF left x2.length = e2 at *
  obtain ⟨b2a, b2b⟩ := b2
  by_cases z2 : e2 < 0
  case pos =>
    rw [if_pos z2]
    go_enter Try.func30, Try.ntmps30
    go_wp2_with fail
    refine (L2.out _).mono ?_
    rintro e w' ⟨rfl, rfl⟩
    go_wp2_with fail
    go_ret
    exact ⟨rfl, bl1 _ _⟩
  rw [if_neg z2]
  go_enter Try.func30, Try.ntmps30
  go_wp2_with fail
  refine (L2.out _).mono ?_
  rintro e w' ⟨rfl, rfl⟩
  go_wp2_with fail
  go_ret
  exact ⟨rfl, bl1 _ _⟩
set_option maxRecDepth 10000 in
set_option maxHeartbeats 4000000 in
theorem lawEq_Values (w : World) (B C : Nat) (n0 n1 : Int) (a2 b2 : Option Addr) (c2 d2 : Nat) (x2 : List Int) (h : RdValues w B a2 x2) (g : RdValues w C b2 x2) (hB : B ≤ w.heap.size) (hC : C ≤ w.heap.size) (hl2 : x2.length ≤ 1048576) :
    Calls Try.prog 18 #[.agg #[.int .i64 n0, .int .i64 n1, .slice a2 x2.length c2], .agg #[.int .i64 n0, .int .i64 n1, .slice b2 x2.length d2]] w fun e w' => e = .returned (.bool true) ∧ Below w.heap.size w w' := by
  have h2 : Rd w w.heap.size a2 (ints x2) := Rd.mono (h) hB
  have g2 : Rd w w.heap.size b2 (ints x2) := Rd.mono (g) hC
  have e0 : (n0 != n0) = false := by simp
  have e1 : (n1 != n1) = false := by simp
  clear h g hB hC
  go_enter Try.func18, Try.ntmps18
  go_wp2_with fail
  refine (lawEq_I' _ _ _ _ _ _ _ x2 (h2.below (bl2 w _ _) (Nat.le_refl _)) (g2.below (bl2 w _ _) (Nat.le_refl _)) (by simp; omega) (by simp; omega) (by omega)).mono ?_
  rintro e w1 ⟨rfl, hb1⟩
  have kA := ((Blk.new w [.int .i64 n0, .int .i64 n1, .slice a2 x2.length c2] 26).alloc (.cells #[.int .i64 n0, .int .i64 n1, .slice b2 x2.length d2] 26)).same hb1
  have kB := (blkat1_Values w (.cells #[.int .i64 n0, .int .i64 n1, .slice a2 x2.length c2] 26) [.int .i64 n0, .int .i64 n1, .slice b2 x2.length d2] 26).same hb1
  have B1 := below_then (bl2 w (.cells #[.int .i64 n0, .int .i64 n1, .slice a2 x2.length c2] 26) (.cells #[.int .i64 n0, .int .i64 n1, .slice b2 x2.length d2] 26)) hb1
  clear hb1
  go_wp2_with fail
  go_ret
  exact ⟨rfl, B1⟩
set_option maxRecDepth 10000 in
set_option maxHeartbeats 4000000 in
theorem lawMark_Values (w : World) (lo hi : Nat) (n0 n1 : Int) (a2 : Option Addr) (c2 : Nat) (x2 : List Int) (k : Int) (h : OwnValues w lo hi a2 c2 x2) (hhi : hi ≤ w.heap.size) (hl2 : x2.length ≤ 1048576) (hk0 : 1 ≤ k) (hk : k ≤ 1125899906842624) :
    Calls Try.prog 22 #[.agg #[.int .i64 n0, .int .i64 n1, .slice a2 x2.length c2], .int .i64 k] w fun e w' => e = .returned (.int .i64 (k + x2.length)) ∧ Touch w w' lo hi := by
  obtain ⟨hm, o2⟩ := h
  have q2 := o2.keep (bl1 w (.cells #[.int .i64 n0, .int .i64 n1, .slice a2 x2.length c2] 26))
  clear o2
  go_enter Try.func22, Try.ntmps22
  go_wp2_with fail
  refine (lawMark_I _ _ _ _ _ x2 (k) q2 (by omega) (by omega) (by omega)).mono ?_
  rintro e w1 ⟨rfl, _, ht1⟩
  have kA := (Blk.new w [.int .i64 n0, .int .i64 n1, .slice a2 x2.length c2] 26).touch ht1 (.inr (by omega))
  have T1 := ((Below.touch (bl1 w (.cells #[.int .i64 n0, .int .i64 n1, .slice a2 x2.length c2] 26)) lo hi).trans (ht1.mono (by omega) (by omega)))
  clear ht1
  go_wp2_with fail
  go_ret
  exact ⟨rfl, T1⟩
set_option maxRecDepth 100000 in
open Go.ChangeShapes Go.WideShapes in
theorem open_Values {H : Type} {enc : TypeId × Value → H} {w : World} {r : Reach} {b0 : Nat} {held : Bool} {v : Value} {d : DataW H} {ps : List MemPlace} (hval : Value.okWide Try.prog w r b0 37 v) (h : DataW.Trod enc Try.prog w 0 (fun _ => true) held 37 v d ps) :
    ∃ (n0 : Int) (n1 : Int) (a2 : Option Addr) (c2 : Nat) (x2 : List Int), v = .agg #[.int .i64 n0, .int .i64 n1, .slice a2 x2.length c2] ∧ RdValues w w.heap.size a2 x2 ∧ x2.length ≤ 9223372036854775807 ∧ (-9223372036854775808 ≤ n0 ∧ n0 ≤ 9223372036854775807) ∧ (-9223372036854775808 ≤ n1 ∧ n1 ≤ 9223372036854775807) := by
  obtain ⟨cs, rfl, hcs⟩ := okWide_struct Try.underlying37 hval
  obtain ⟨fuel, hf⟩ := h
  obtain ⟨hlen, n, Y, hY⟩ := open_agg_fields Try.underlying37 (Go.Deep.hone_of (by kernel_rfl)) (by kernel_rfl) hf
  have e0 := hY 0 _ rfl
  have e1 := hY 1 _ rfl
  have e2 := hY 2 _ rfl
  clear hY hf hcs hval
  obtain ⟨l⟩ := cs
  match l, hlen, e0, e1, e2 with
  | [v0, v1, v2], _, e0, e1, e2 => 
    obtain ⟨n0, rfl, b0⟩ := int_field Try.underlying2 (v := v0) e0
    obtain ⟨n1, rfl, b1⟩ := int_field Try.underlying2 (v := v1) e1
    obtain ⟨a2, c2, x2, rfl, r2, l2⟩ := ints_field Try.underlying22 Try.underlying2 (by kernel_rfl) (v := v2) e2
    exact ⟨n0, n1, a2, c2, x2, rfl, r2, l2, b0, b1⟩
end Go.Proofs.Ytdmeegfdmdbkiaa
