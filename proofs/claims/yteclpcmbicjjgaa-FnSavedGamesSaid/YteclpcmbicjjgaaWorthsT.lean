/-
  Worths: what the law's helpers on it compute.
-/
import Derived.Test.YteclpcmbicjjgaaLawInts
import Derived.Test.YteclpcmbicjjgaaStructOpen
namespace Go.Proofs.Yteclpcmbicjjgaa
set_option linter.unusedVariables false
set_option linter.unusedSimpArgs false
open Go.RowKit

def RdWorths (w : World) (B : Nat) (a1 : Option Addr) (x1 : List Int) : Prop := Rd w B a1 (ints x1)
def OwnWorths (w : World) (lo hi : Nat) (a1 : Option Addr) (c1 : Nat) (x1 : List Int) : Prop :=
  lo ≤ hi ∧ OwnI 2 w lo hi a1 c1 x1
section
variable {w w' : World} {B C lo hi : Nat} {a1 : Option Addr} {x1 : List Int} {c1 : Nat}
theorem RdWorths.below (h : RdWorths w B a1 x1) (hb : Below C w w') (hB : B ≤ C) : RdWorths w' B a1 x1 := Rd.below (h) hb hB
theorem RdWorths.mono (h : RdWorths w B a1 x1) (hB : B ≤ C) : RdWorths w C a1 x1 := Rd.mono (h) hB
theorem RdWorths.to (h : RdWorths w w.heap.size a1 x1) (hb : Below w.heap.size w w') : RdWorths w' w'.heap.size a1 x1 := (h.below hb (Nat.le_refl _)).mono hb.size
theorem RdWorths.touch (h : RdWorths w B a1 x1) (ht : Touch w w' lo hi) (hB : B ≤ lo) (hs : B ≤ w.heap.size) : RdWorths w' B a1 x1 := Rd.touch (h) ht hB hs
theorem OwnWorths.rd (h : OwnWorths w lo hi a1 c1 x1) : RdWorths w hi a1 x1 := by
  obtain ⟨hm, o1⟩ := h
  exact o1.rd.mono (by omega)
theorem OwnWorths.keep (h : OwnWorths w lo hi a1 c1 x1) (hb : Below w.heap.size w w') : OwnWorths w' lo hi a1 c1 x1 := by
  obtain ⟨hm, o1⟩ := h
  exact ⟨hm, o1.keep hb⟩
theorem OwnWorths.touch {lo' hi' : Nat} (h : OwnWorths w lo hi a1 c1 x1) (ht : Touch w w' lo' hi') (hd : hi ≤ lo' ∨ hi' ≤ lo) : OwnWorths w' lo hi a1 c1 x1 := by
  obtain ⟨hm, o1⟩ := h
  exact ⟨hm, o1.touch ht (by omega)⟩
theorem OwnWorths.le (h : OwnWorths w lo hi a1 c1 x1) : lo ≤ hi := by
  obtain ⟨hm, o1⟩ := h
  omega
end
theorem blkat1_Worths (w : World) (o : Obj) (cs : List Value) (t : TypeId) : Blk ((w.alloc o).alloc (.cells cs.toArray t)) (w.heap.size + 1) cs t := by
  have := Blk.new (w.alloc o) cs t
  simpa using this
theorem blkat2_Worths (w : World) (o p : Obj) (cs : List Value) (t : TypeId) : Blk (((w.alloc o).alloc p).alloc (.cells cs.toArray t)) (w.heap.size + 1 + 1) cs t := by
  have := Blk.new ((w.alloc o).alloc p) cs t
  simpa using this
theorem setc_grownWorths (w : World) (g j : Nat) (u : Value) : w.grownBy (w.setCell ⟨g, j, none⟩ u) (some g) := ⟨rfl, rfl, rfl, by simp, fun i _ hi => Below.heap_setCell _ _ _ _ (fun e => hi (by simp [e]))⟩
set_option maxRecDepth 10000 in
set_option maxHeartbeats 4000000 in
theorem lawTo_Worths (w : World) (B : Nat) (n0 : Int) (a1 : Option Addr) (c1 : Nat) (x1 : List Int) (h : RdWorths w B a1 x1) (hB : B ≤ w.heap.size) (hl1 : x1.length ≤ 1048576) :
    Calls Try.prog 39 #[.agg #[.int .i64 n0, .slice a1 x1.length c1]] w fun e w' => ∃ a1' c1', e = .returned (.agg #[.int .i64 n0, .slice a1' x1.length c1']) ∧ OwnWorths w' w.heap.size w'.heap.size a1' c1' x1 ∧ Below w.heap.size w w' := by
  have h1 : Rd w w.heap.size a1 (ints x1) := Rd.mono (h) hB
  clear h hB
  go_enter Try.func39, Try.ntmps39
  go_wp2_with fail
  refine (lawTo_I _ _ _ _ x1 (h1.below (bl3 w _ _ _) (Nat.le_refl _)) (by simp; omega) hl1).mono ?_
  rintro e w1 ⟨a1', c1', rfl, o1, hb1⟩
  have kR := ((blkat1_Worths w (.cells #[.int .i64 n0, .slice a1 x1.length c1] 26) [.int .i64 0, .slice none 0 0] 32).alloc (.cells #[.int .i64 n0, .slice none 0 0] 32)).same hb1
  have kL := (blkat2_Worths w (.cells #[.int .i64 n0, .slice a1 x1.length c1] 26) (.cells #[.int .i64 0, .slice none 0 0] 32) [.int .i64 n0, .slice none 0 0] 32).same hb1
  have B1 := below_then (bl3 w (.cells #[.int .i64 n0, .slice a1 x1.length c1] 26) (.cells #[.int .i64 0, .slice none 0 0] 32) (.cells #[.int .i64 n0, .slice none 0 0] 32)) hb1
  have s1 : w.heap.size + 3 ≤ w1.heap.size := by have := hb1.size; simp at this; omega
  have q1 : OwnI 2 w1 (w.heap.size + 3) w1.heap.size a1' c1' x1 := o1.mono (by simp) (Nat.le_refl _)
  have xx0 := (Blk.new w [.int .i64 n0, .slice a1 x1.length c1] 26)
  have kA := ((xx0.alloc (.cells #[.int .i64 0, .slice none 0 0] 32)).alloc (.cells #[.int .i64 n0, .slice none 0 0] 32)).same hb1
  clear xx0 o1 hb1
  have f1 := kL.free 1
  have g1 := kL.cell 1
  simp only [List.getElem?_cons_zero, List.getElem?_cons_succ] at g1
  have t0 := kA.cell 0
  have t1 := kA.cell 1
  simp only [List.getElem?_cons_zero, List.getElem?_cons_succ] at t0 t1
  have D1 := below_sto B1 (g := w.heap.size + 1 + 1) (by omega) 1 (.slice a1' x1.length c1')
  have kL2 := kL.set 1 (.slice a1' x1.length c1')
  simp only [List.set_cons_zero, List.set_cons_succ] at kL2
  have kR2 := kR.oth (g := w.heap.size + 1 + 1) (by omega) 1 (.slice a1' x1.length c1')
  have kA2 := kA.oth (g := w.heap.size + 1 + 1) (by omega) 1 (.slice a1' x1.length c1')
  have q1' := q1.touch (Touch.of_grown (g := w.heap.size + 1 + 1) (show Go.World.grownBy w1 (w1.setCell ⟨w.heap.size + 1 + 1, 1, none⟩ (.slice a1' x1.length c1')) (some (w.heap.size + 1 + 1)) from ⟨rfl, rfl, rfl, by simp, fun i _ hi => Below.heap_setCell _ _ _ _ (fun e => hi (by simp [e]))⟩) (Nat.le_refl _) (Nat.lt_succ_self _)) (.inr (by omega))
  have l0 := kL2.cell 0
  have r0 := kR2.cell 0
  have rf0 := kR2.free 0
  have l1 := kL2.cell 1
  have r1 := kR2.cell 1
  have rf1 := kR2.free 1
  simp only [List.getElem?_cons_zero, List.getElem?_cons_succ] at l0 r0 l1 r1
  have HD := Lib.hid D1
  have Q1 := Lib.hid q1'
  clear kL kR kA kL2 kA2 q1 q1'
  have kF := (kR2.set 0 (.int .i64 n0)).set 1 (.slice a1' x1.length c1')
  simp only [List.set_cons_zero, List.set_cons_succ] at kF
  have z0 := kF.cell 0
  have z1 := kF.cell 1
  simp only [List.getElem?_cons_zero, List.getElem?_cons_succ] at z0 z1
  have HB := HD.out
  have v1 := Q1.out
  clear HD Q1 kR2
  have HB := below_sto HB (g := w.heap.size + 1) (by omega) 0 (.int .i64 n0)
  have v1 := v1.touch (Touch.of_grown (g := w.heap.size + 1) (setc_grownWorths _ (w.heap.size + 1) 0 (.int .i64 n0)) (Nat.le_refl _) (Nat.lt_succ_self _)) (.inr (by omega))
  have HB := below_sto HB (g := w.heap.size + 1) (by omega) 1 (.slice a1' x1.length c1')
  have v1 := v1.touch (Touch.of_grown (g := w.heap.size + 1) (setc_grownWorths _ (w.heap.size + 1) 1 (.slice a1' x1.length c1')) (Nat.le_refl _) (Nat.lt_succ_self _)) (.inr (by omega))
  have HO : Hid (Below w.heap.size w _) := HB
  generalize hW : (((w1.setCell ⟨w.heap.size + 1 + 1, 1, none⟩ (.slice a1' x1.length c1')).setCell ⟨w.heap.size + 1, 0, none⟩ (.int .i64 n0)).setCell ⟨w.heap.size + 1, 1, none⟩ (.slice a1' x1.length c1')) = W at *
  have HF : Hid (OwnWorths W w.heap.size W.heap.size a1' c1' x1) := by
    have hsz : W.heap.size = w1.heap.size := by rw [← hW]; simp
    exact ⟨by omega, v1.mono (by omega) (by omega)⟩
  clear v1 HB
  have HW := Lib.hid hW
  clear hW kF
  go_wp2_with fail
  rw [HW.out]
  exact bodyPost_ret (v := .agg #[.int .i64 n0, .slice a1' x1.length c1']) (by simp [results, Try.results39, go_sem, z0, z1]) rfl ⟨_, _, rfl, HF.out, HO.out⟩
def szWorthsF (left : Int) (x1 : List Int) : Int := (if szF left x1.length < 0 then -1 else (szF left x1.length))
theorem szWorthsF_spec {left : Int} {x1 : List Int} (h : 0 ≤ left) : -1 ≤ szWorthsF left x1 ∧ szWorthsF left x1 ≤ left ∧ (0 ≤ szWorthsF left x1 → (x1.length : Int) ≤ left) := by
  unfold szWorthsF szF
  repeat' split
  all_goals omega
set_option maxHeartbeats 2000000 in
theorem lawSz_Worths (w : World) (n0 : Int) (a1 : Option Addr) (c1 : Nat) (x1 : List Int) (left : Int) (h0 : 0 ≤ left) (h1 : left ≤ 1048576) (hl1 : x1.length ≤ 9223372036854775807) :
    Calls Try.prog 36 #[.agg #[.int .i64 n0, .slice a1 x1.length c1], .int .i64 left] w fun e w' => e = .returned (.int .i64 (szWorthsF left x1)) ∧ Below w.heap.size w w' := by
  unfold szWorthsF
  have L1 := Lib.hid (fun w' => szInt64S_any' w' a1 x1.length c1 left (by omega) (by omega) hl1)
  have b1 : -1 ≤ szF left x1.length ∧ szF left x1.length ≤ left := by unfold szF; split <;> omega
  generalize szF left x1.length = e1 at *
  obtain ⟨b1a, b1b⟩ := b1
  by_cases z1 : e1 < 0
  case pos =>
    rw [if_pos z1]
    go_enter Try.func36, Try.ntmps36
    go_wp2_with fail
    refine (L1.out _).mono ?_
    rintro e w' ⟨rfl, rfl⟩
    go_wp2_with fail
    go_ret
    exact ⟨rfl, bl1 _ _⟩
  rw [if_neg z1]
  go_enter Try.func36, Try.ntmps36
  go_wp2_with fail
  refine (L1.out _).mono ?_
  rintro e w' ⟨rfl, rfl⟩
  go_wp2_with fail
  go_ret
  exact ⟨rfl, bl1 _ _⟩
set_option maxRecDepth 10000 in
set_option maxHeartbeats 4000000 in
theorem lawEq_Worths (w : World) (B C : Nat) (n0 : Int) (a1 b1 : Option Addr) (c1 d1 : Nat) (x1 : List Int) (h : RdWorths w B a1 x1) (g : RdWorths w C b1 x1) (hB : B ≤ w.heap.size) (hC : C ≤ w.heap.size) (hl1 : x1.length ≤ 1048576) :
    Calls Try.prog 44 #[.agg #[.int .i64 n0, .slice a1 x1.length c1], .agg #[.int .i64 n0, .slice b1 x1.length d1]] w fun e w' => e = .returned (.bool true) ∧ Below w.heap.size w w' := by
  have h1 : Rd w w.heap.size a1 (ints x1) := Rd.mono (h) hB
  have g1 : Rd w w.heap.size b1 (ints x1) := Rd.mono (g) hC
  have e0 : (n0 != n0) = false := by simp
  clear h g hB hC
  go_enter Try.func44, Try.ntmps44
  go_wp2_with fail
  refine (lawEq_I' _ _ _ _ _ _ _ x1 (h1.below (bl2 w _ _) (Nat.le_refl _)) (g1.below (bl2 w _ _) (Nat.le_refl _)) (by simp; omega) (by simp; omega) (by omega)).mono ?_
  rintro e w1 ⟨rfl, hb1⟩
  have kA := ((Blk.new w [.int .i64 n0, .slice a1 x1.length c1] 32).alloc (.cells #[.int .i64 n0, .slice b1 x1.length d1] 32)).same hb1
  have kB := (blkat1_Worths w (.cells #[.int .i64 n0, .slice a1 x1.length c1] 32) [.int .i64 n0, .slice b1 x1.length d1] 32).same hb1
  have B1 := below_then (bl2 w (.cells #[.int .i64 n0, .slice a1 x1.length c1] 32) (.cells #[.int .i64 n0, .slice b1 x1.length d1] 32)) hb1
  clear hb1
  go_wp2_with fail
  go_ret
  exact ⟨rfl, B1⟩
set_option maxRecDepth 10000 in
set_option maxHeartbeats 4000000 in
theorem lawMark_Worths (w : World) (lo hi : Nat) (n0 : Int) (a1 : Option Addr) (c1 : Nat) (x1 : List Int) (k : Int) (h : OwnWorths w lo hi a1 c1 x1) (hhi : hi ≤ w.heap.size) (hl1 : x1.length ≤ 1048576) (hk0 : 1 ≤ k) (hk : k ≤ 1125899906842624) :
    Calls Try.prog 57 #[.agg #[.int .i64 n0, .slice a1 x1.length c1], .int .i64 k] w fun e w' => e = .returned (.int .i64 (k + x1.length)) ∧ Touch w w' lo hi := by
  obtain ⟨hm, o1⟩ := h
  have q1 := o1.keep (bl1 w (.cells #[.int .i64 n0, .slice a1 x1.length c1] 32))
  clear o1
  go_enter Try.func57, Try.ntmps57
  go_wp2_with fail
  refine (lawMark_I _ _ _ _ _ x1 (k) q1 (by omega) (by omega) (by omega)).mono ?_
  rintro e w1 ⟨rfl, _, ht1⟩
  have kA := (Blk.new w [.int .i64 n0, .slice a1 x1.length c1] 32).touch ht1 (.inr (by omega))
  have T1 := ((Below.touch (bl1 w (.cells #[.int .i64 n0, .slice a1 x1.length c1] 32)) lo hi).trans (ht1.mono (by omega) (by omega)))
  clear ht1
  go_wp2_with fail
  go_ret
  exact ⟨rfl, T1⟩
set_option maxRecDepth 100000 in
open Go.ChangeShapes Go.WideShapes in
theorem open_Worths {H : Type} {enc : TypeId × Value → H} {w : World} {r : Reach} {b0 : Nat} {held : Bool} {v : Value} {d : DataW H} {ps : List MemPlace} (hval : Value.okWide Try.prog w r b0 26 v) (h : DataW.Trod enc Try.prog w 0 (fun _ => true) held 26 v d ps) :
    ∃ (n0 : Int) (a1 : Option Addr) (c1 : Nat) (x1 : List Int), v = .agg #[.int .i64 n0, .slice a1 x1.length c1] ∧ RdWorths w w.heap.size a1 x1 ∧ x1.length ≤ 9223372036854775807 ∧ (-9223372036854775808 ≤ n0 ∧ n0 ≤ 9223372036854775807) := by
  obtain ⟨cs, rfl, hcs⟩ := okWide_struct Try.underlying26 hval
  obtain ⟨fuel, hf⟩ := h
  obtain ⟨hlen, n, Y, hY⟩ := open_agg_fields Try.underlying26 (Go.Deep.hone_of (by kernel_rfl)) (by kernel_rfl) hf
  have e0 := hY 0 _ rfl
  have e1 := hY 1 _ rfl
  clear hY hf hcs hval
  obtain ⟨l⟩ := cs
  match l, hlen, e0, e1 with
  | [v0, v1], _, e0, e1 => 
    obtain ⟨n0, rfl, b0⟩ := int_field Try.underlying2 (v := v0) e0
    obtain ⟨a1, c1, x1, rfl, r1, l1⟩ := ints_field Try.underlying22 Try.underlying2 (by kernel_rfl) (v := v1) e1
    exact ⟨n0, a1, c1, x1, rfl, r1, l1, b0⟩
end Go.Proofs.Yteclpcmbicjjgaa
