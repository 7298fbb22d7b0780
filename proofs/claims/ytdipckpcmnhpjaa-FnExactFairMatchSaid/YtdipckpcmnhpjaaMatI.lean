/-
  Matches, the first pair that blocks, stable ones: the program's road.
-/
import Derived.Test.YtdipckpcmnhpjaaMatV2
import Derived.Deep.RegionHeld3
namespace Go.Proofs.Ytdipckpcmnhpjaa
set_option linter.unusedVariables false
set_option linter.unusedSimpArgs false
open Go.RowKit

def bA : Option (Nat × Nat) → Int
  | none => 0
  | some p => p.1
def bZ : Option (Nat × Nat) → Int
  | none => 0
  | some p => p.2
set_option maxRecDepth 10000 in
set_option maxHeartbeats 4000000 in
theorem isMatchW_any (w : World) (a0 : Option Addr) (c0 : Nat) (x0 : List (List Int)) (a1 : Option Addr) (c1 : Nat) (x1 : List (List Int)) (h : RdWishes w w.heap.size a0 x0 a1 x1) (hv : Wish ⟨x0, x1⟩) (hin0 : ∀ y ∈ x0, y.length ≤ 1048576) (hin1 : ∀ y ∈ x1, y.length ≤ 1048576)
    (a : Option Addr) (c : Nat) (m : List Int) (g : Rd w w.heap.size a (ints m)) (hl : m.length ≤ 1048576) :
    Calls Try.prog 59 #[.agg #[.slice a0 x0.length c0, .slice a1 x1.length c1], .slice a m.length c] w fun e w' => e = .returned (.bool (matchB ⟨x0, x1⟩ m)) ∧ Below w.heap.size w w' := by
  have hB := bl1 w (.cells #[.slice a0 x0.length c0, .slice a1 x1.length c1] 28)
  have LP := Lib.hid (partners_any _ a0 c0 x0 a1 c1 x1 (h.to hB) hv hin0 hin1 a c m (g.to hB) hl)
  have HE : Hid (matchB ⟨x0, x1⟩ m = (partnersB ⟨x0, x1⟩ m && decide (whoL m).Nodup)) := by rw [Hid, ← isMatch_eq]; rfl
  have G := Lib.hid g
  have h1 := hv.n1
  simp only at h1
  clear h hin0 hin1 g hv
  cases t1 : partnersB ⟨x0, x1⟩ m with
  | false =>
    rw [t1] at LP HE
    go_enter Try.func59, Try.ntmps59
    go_wp2_with fail
    refine LP.out.mono ?_
    rintro e w1 ⟨rfl, hb1⟩
    have B1 := below_then hB hb1
    clear hb1
    go_wp2_with fail
    go_ret
    exact ⟨ret_bool HE.out.symm, B1⟩
  | true =>
    have hn := (partners_iff.1 t1).1
    simp only at hn
    have hm1 : 1 ≤ m.length := by omega
    rw [t1, Bool.true_and] at HE
    rw [t1] at LP
    clear t1 hn h1
    have LC := Lib.hid (fun w' hb => clone_any w' a c m (G.out.to hb) hm1 hl)
    go_enter Try.func59, Try.ntmps59
    go_wp2_with fail
    refine LP.out.mono ?_
    rintro e w1 ⟨rfl, hb1⟩
    have B1 := below_then hB hb1
    clear hb1
    go_wp2_with fail
    refine (LC.out _ B1).mono ?_
    rintro e w2 ⟨a2, c2, rfl, o2, hb2⟩
    have B2 := below_then B1 hb2
    obtain ⟨g2, tl, rfl, hg2, k2, hc2, _, _⟩ := own_open o2.1 (by omega)
    have LD := Lib.hid (deleteNobody_any w2 g2 c2 m tl k2 hc2 hl)
    have hg2' : w.heap.size ≤ g2 := by have := B1.size; omega
    clear hb2 o2 k2
    go_wp2_with fail
    refine LD.out.mono ?_
    rintro e w3 ⟨rfl, r3, hb3⟩
    have B3 := B2.trans (hb3.mono hg2')
    have hwl : (whoL m).length ≤ m.length := List.length_filter_le _ _
    have LT := Lib.hid (hasTwice_any w3 (some ⟨g2, 0, none⟩) c2 (whoL m) r3 (by omega) (by omega))
    have HE2 : Hid (matchB ⟨x0, x1⟩ m = !twiceB (whoL m)) := by rw [Hid, HE.out]; simp [twiceB]
    clear hb3 r3 hwl
    go_wp2_with fail
    refine LT.out.mono ?_
    rintro e w4 ⟨rfl, rfl⟩
    go_wp2_with fail
    go_ret
    exact ⟨ret_bool HE2.out.symm, B3⟩
set_option maxRecDepth 10000 in
set_option maxHeartbeats 4000000 in
theorem isMatchI_any (w : World) (a0 : Option Addr) (c0 : Nat) (x0 : List (List Int)) (a1 : Option Addr) (c1 : Nat) (x1 : List (List Int)) (a : Option Addr) (c : Nat) (m : List Int) (h : RdWishes w w.heap.size a0 x0 a1 x1) (hl0 : x0.length ≤ 1048576) (hin0 : ∀ y ∈ x0, y.length ≤ 1048576) (hl1 : x1.length ≤ 1048576) (hin1 : ∀ y ∈ x1, y.length ≤ 1048576)
    (g : Rd w w.heap.size a (ints m)) (hl : m.length ≤ 1048576) :
    Calls Try.prog 19 #[.agg #[.slice a0 x0.length c0, .slice a1 x1.length c1], .slice a m.length c] w fun e w' => e = .returned (.bool (wishB ⟨x0, x1⟩ && matchB ⟨x0, x1⟩ m)) ∧ Below w.heap.size w w' := by
  have hB := bl1 w (.cells #[.slice a0 x0.length c0, .slice a1 x1.length c1] 28)
  have LV := Lib.hid (validWishes_any _ a0 c0 x0 a1 c1 x1 (h.to hB) hl0 hin0 hl1 hin1)
  cases t1 : wishB ⟨x0, x1⟩ with
  | false =>
    rw [t1] at LV
    clear h g hin0 hin1
    go_enter Try.func19, Try.ntmps19
    go_wp2_with fail
    refine LV.out.mono ?_
    rintro e w1 ⟨rfl, hb1⟩
    have B1 := below_then hB hb1
    clear hb1
    go_wp2_with fail
    go_ret
    exact ⟨rfl, B1⟩
  | true =>
    have LM := Lib.hid (fun w' hb => isMatchW_any w' a0 c0 x0 a1 c1 x1 (h.to hb) (wish_of t1) hin0 hin1 a c m (g.to hb) hl)
    rw [t1] at LV
    rw [Bool.true_and]
    generalize matchB ⟨x0, x1⟩ m = r at *
    clear h g hin0 hin1 t1
    go_enter Try.func19, Try.ntmps19
    go_wp2_with fail
    refine LV.out.mono ?_
    rintro e w1 ⟨rfl, hb1⟩
    have B1 := below_then hB hb1
    have k1 := (Blk.new w [.slice a0 x0.length c0, .slice a1 x1.length c1] 28).same hb1
    have q0 := k1.cell 0
    have q1 := k1.cell 1
    simp only [List.getElem?_cons_zero, List.getElem?_cons_succ] at q0 q1
    clear hb1 k1
    go_wp2_with fail
    refine (LM.out _ B1).mono ?_
    rintro e w2 ⟨rfl, hb2⟩
    have B2 := below_then B1 hb2
    clear hb2
    go_wp2_with fail
    go_ret
    exact ⟨rfl, B2⟩
end Go.Proofs.Ytdipckpcmnhpjaa
