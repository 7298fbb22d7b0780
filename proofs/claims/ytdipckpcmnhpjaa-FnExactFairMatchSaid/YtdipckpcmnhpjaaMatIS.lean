/-
  Stable matches: the program's road; BlockOf and IsStable.
-/
import Derived.Test.YtdipckpcmnhpjaaMatB
namespace Go.Proofs.Ytdipckpcmnhpjaa
set_option linter.unusedVariables false
set_option linter.unusedSimpArgs false
open Go.RowKit

set_option maxRecDepth 10000 in
set_option maxHeartbeats 4000000 in
theorem isStableW_any (w : World) (a0 : Option Addr) (c0 : Nat) (x0 : List (List Int)) (a1 : Option Addr) (c1 : Nat) (x1 : List (List Int)) (h : RdWishes w w.heap.size a0 x0 a1 x1) (hv : Wish ⟨x0, x1⟩) (hin0 : ∀ y ∈ x0, y.length ≤ 1048576) (hin1 : ∀ y ∈ x1, y.length ≤ 1048576)
    (a : Option Addr) (c : Nat) (m : List Int) (g : Rd w w.heap.size a (ints m)) (hm : Mat ⟨x0, x1⟩ m) :
    Calls Try.prog 63 #[.agg #[.slice a0 x0.length c0, .slice a1 x1.length c1], .slice a m.length c] w fun e w' => e = .returned (.bool (blockF ⟨x0, x1⟩ m).isNone) ∧ Below w.heap.size w w' := by
  have hB := bl1 w (.cells #[.slice a0 x0.length c0, .slice a1 x1.length c1] 28)
  have LB := Lib.hid (block_any _ a0 c0 x0 a1 c1 x1 (h.to hB) hv hin0 hin1 a c m (g.to hB) hm.len)
  have he := block_eqI hv hm
  simp only at he
  rw [he] at LB
  clear h g hv hm hin0 hin1 he
  cases hf : blockF ⟨x0, x1⟩ m with
  | none =>
    simp only [hf] at LB
    go_enter Try.func63, Try.ntmps63
    go_wp2_with fail
    refine LB.out.mono ?_
    rintro e w1 ⟨rfl, hb1⟩
    have B1 := below_then hB hb1
    clear hb1 LB
    go_wp2_with fail
    go_ret
    exact ⟨rfl, B1⟩
  | some p =>
    simp only [hf] at LB
    go_enter Try.func63, Try.ntmps63
    go_wp2_with fail
    refine LB.out.mono ?_
    rintro e w1 ⟨rfl, hb1⟩
    have B1 := below_then hB hb1
    clear hb1 LB
    go_wp2_with fail
    go_ret
    exact ⟨rfl, B1⟩
def blockOfF (w : Wi) (m : List Int) : Option (Nat × Nat) := if wishB w && matchB w m then blockF w m else none
def isStableF (w : Wi) (m : List Int) : Bool × Bool := if wishB w && matchB w m then ((blockF w m).isNone, true) else (false, false)
set_option maxRecDepth 10000 in
set_option maxHeartbeats 4000000 in
theorem blockOf_any (w : World) (a0 : Option Addr) (c0 : Nat) (x0 : List (List Int)) (a1 : Option Addr) (c1 : Nat) (x1 : List (List Int)) (a : Option Addr) (c : Nat) (m : List Int) (h : RdWishes w w.heap.size a0 x0 a1 x1) (hl0 : x0.length ≤ 1048576) (hin0 : ∀ y ∈ x0, y.length ≤ 1048576) (hl1 : x1.length ≤ 1048576) (hin1 : ∀ y ∈ x1, y.length ≤ 1048576)
    (g : Rd w w.heap.size a (ints m)) (hl : m.length ≤ 1048576) :
    Calls Try.prog 23 #[.agg #[.slice a0 x0.length c0, .slice a1 x1.length c1], .slice a m.length c] w fun e w' => e = .returned (.tuple #[.int .i64 (bA (blockOfF ⟨x0, x1⟩ m)), .int .i64 (bZ (blockOfF ⟨x0, x1⟩ m)), .bool (blockOfF ⟨x0, x1⟩ m).isSome]) ∧ Below w.heap.size w w' := by
  have hB := bl1 w (.cells #[.slice a0 x0.length c0, .slice a1 x1.length c1] 28)
  have LM := Lib.hid (isMatchI_any _ a0 c0 x0 a1 c1 x1 a c m (h.to hB) hl0 hin0 hl1 hin1 (g.to hB) hl)
  cases t1 : wishB ⟨x0, x1⟩ && matchB ⟨x0, x1⟩ m with
  | false =>
    have HF : blockOfF ⟨x0, x1⟩ m = none := by simp [blockOfF, t1]
    rw [t1] at LM
    rw [HF]
    clear h g hin0 hin1 HF t1
    go_enter Try.func23, Try.ntmps23
    go_wp2_with fail
    refine LM.out.mono ?_
    rintro e w1 ⟨rfl, hb1⟩
    have B1 := below_then hB hb1
    clear hb1
    go_wp2_with fail
    go_ret3
    exact ⟨rfl, B1⟩
  | true =>
    have HF : blockOfF ⟨x0, x1⟩ m = blockF ⟨x0, x1⟩ m := by simp [blockOfF, t1]
    rw [t1] at LM
    rw [HF]
    rw [Bool.and_eq_true] at t1
    have hv := wish_of t1.1
    have hm := mat_of t1.2
    have he := block_eqI hv hm
    have LB := Lib.hid (fun w' hb => block_any w' a0 c0 x0 a1 c1 x1 (h.to hb) hv hin0 hin1 a c m (g.to hb) hm.len)
    simp only at he
    rw [he] at LB
    generalize blockF ⟨x0, x1⟩ m = F at *
    clear h g hin0 hin1 HF t1 hv hm he
    go_enter Try.func23, Try.ntmps23
    go_wp2_with fail
    refine LM.out.mono ?_
    rintro e w1 ⟨rfl, hb1⟩
    have B1 := below_then hB hb1
    have k1 := (Blk.new w [.slice a0 x0.length c0, .slice a1 x1.length c1] 28).same hb1
    have q0 := k1.cell 0
    have q1 := k1.cell 1
    simp only [List.getElem?_cons_zero, List.getElem?_cons_succ] at q0 q1
    clear hb1 k1 LM
    go_wp2_with fail
    refine (LB.out _ B1).mono ?_
    rintro e w2 ⟨rfl, hb2⟩
    have B2 := below_then B1 hb2
    clear hb2 q0 q1
    go_wp2_with fail
    go_ret3
    exact ⟨rfl, B2⟩
set_option maxRecDepth 10000 in
set_option maxHeartbeats 4000000 in
theorem isStable_any (w : World) (a0 : Option Addr) (c0 : Nat) (x0 : List (List Int)) (a1 : Option Addr) (c1 : Nat) (x1 : List (List Int)) (a : Option Addr) (c : Nat) (m : List Int) (h : RdWishes w w.heap.size a0 x0 a1 x1) (hl0 : x0.length ≤ 1048576) (hin0 : ∀ y ∈ x0, y.length ≤ 1048576) (hl1 : x1.length ≤ 1048576) (hin1 : ∀ y ∈ x1, y.length ≤ 1048576)
    (g : Rd w w.heap.size a (ints m)) (hl : m.length ≤ 1048576) :
    Calls Try.prog 25 #[.agg #[.slice a0 x0.length c0, .slice a1 x1.length c1], .slice a m.length c] w fun e w' => e = .returned (.tuple #[.bool (isStableF ⟨x0, x1⟩ m).1, .bool (isStableF ⟨x0, x1⟩ m).2]) ∧ Below w.heap.size w w' := by
  have hB := bl1 w (.cells #[.slice a0 x0.length c0, .slice a1 x1.length c1] 28)
  have LM := Lib.hid (isMatchI_any _ a0 c0 x0 a1 c1 x1 a c m (h.to hB) hl0 hin0 hl1 hin1 (g.to hB) hl)
  cases t1 : wishB ⟨x0, x1⟩ && matchB ⟨x0, x1⟩ m with
  | false =>
    have HF : isStableF ⟨x0, x1⟩ m = (false, false) := by simp [isStableF, t1]
    rw [t1] at LM
    rw [HF]
    clear h g hin0 hin1 HF t1
    go_enter Try.func25, Try.ntmps25
    go_wp2_with fail
    refine LM.out.mono ?_
    rintro e w1 ⟨rfl, hb1⟩
    have B1 := below_then hB hb1
    clear hb1
    go_wp2_with fail
    go_ret2
    exact ⟨rfl, B1⟩
  | true =>
    have HF : isStableF ⟨x0, x1⟩ m = ((blockF ⟨x0, x1⟩ m).isNone, true) := by simp [isStableF, t1]
    rw [t1] at LM
    rw [HF]
    rw [Bool.and_eq_true] at t1
    have hv := wish_of t1.1
    have hm := mat_of t1.2
    have LB := Lib.hid (fun w' hb => isStableW_any w' a0 c0 x0 a1 c1 x1 (h.to hb) hv hin0 hin1 a c m (g.to hb) hm)
    generalize (blockF ⟨x0, x1⟩ m).isNone = F at *
    clear h g hin0 hin1 HF t1 hv hm
    go_enter Try.func25, Try.ntmps25
    go_wp2_with fail
    refine LM.out.mono ?_
    rintro e w1 ⟨rfl, hb1⟩
    have B1 := below_then hB hb1
    have k1 := (Blk.new w [.slice a0 x0.length c0, .slice a1 x1.length c1] 28).same hb1
    have q0 := k1.cell 0
    have q1 := k1.cell 1
    simp only [List.getElem?_cons_zero, List.getElem?_cons_succ] at q0 q1
    clear hb1 k1 LM
    go_wp2_with fail
    refine (LB.out _ B1).mono ?_
    rintro e w2 ⟨rfl, hb2⟩
    have B2 := below_then B1 hb2
    clear hb2 q0 q1
    go_wp2_with fail
    go_ret2
    exact ⟨rfl, B2⟩
end Go.Proofs.Ytdipckpcmnhpjaa
