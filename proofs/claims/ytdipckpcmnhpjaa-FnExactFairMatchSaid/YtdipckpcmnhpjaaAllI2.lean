/-
  AllStable: the program's road, the function itself.
-/
import Derived.Test.YtdipckpcmnhpjaaAllI
import Derived.Test.YtdipckpcmnhpjaaMatTR
namespace Go.Proofs.Ytdipckpcmnhpjaa
set_option linter.unusedVariables false
set_option linter.unusedSimpArgs false
open Go.RowKit

def allF (w : Wi) : Option (List (List Int)) := if wishB w && decide (w.L.length ≤ 5) then some (allStabF w) else none
theorem all_no1 {w : Wi} (h : wishB w = false) : allF w = none := by unfold allF; rw [h]; rfl
theorem all_no2 {w : Wi} (h : ¬ w.L.length ≤ 5) : allF w = none := by unfold allF; rw [decide_eq_false h, Bool.and_false]; rfl
theorem all_yes {w : Wi} (h : wishB w = true) (h2 : w.L.length ≤ 5) : allF w = some (allStabF w) := by unfold allF; rw [h, decide_eq_true h2]; rfl
theorem pow_few {n : Nat} (h : n ≤ 5) : (n + 1) ^ n ≤ 7776 := by
  have : n = 0 ∨ n = 1 ∨ n = 2 ∨ n = 3 ∨ n = 4 ∨ n = 5 := by omega
  rcases this with rfl | rfl | rfl | rfl | rfl | rfl <;> decide
theorem allStab_few {w : Wi} (h : w.L.length ≤ 5) : (allStabF w).length ≤ 7776 := by
  refine Nat.le_trans (List.length_filter_le _ _) ?_
  unfold allM
  rw [List.length_map, allD_eq (by omega), List.length_map, List.length_range]
  exact pow_few h
set_option maxRecDepth 10000 in
set_option maxHeartbeats 8000000 in
theorem allStable_any (w : World) (a0 : Option Addr) (c0 : Nat) (x0 : List (List Int)) (a1 : Option Addr) (c1 : Nat) (x1 : List (List Int)) (h : RdWishes w w.heap.size a0 x0 a1 x1) (hl0 : x0.length ≤ 1048576) (hin0 : ∀ y ∈ x0, y.length ≤ 1048576) (hl1 : x1.length ≤ 1048576) (hin1 : ∀ y ∈ x1, y.length ≤ 1048576) :
    Calls Try.prog 36 #[.agg #[.slice a0 x0.length c0, .slice a1 x1.length c1]] w (RetM 2 25 w (allF ⟨x0, x1⟩)) := by
  have X0 : Bx w (w.alloc (.cells #[.slice a0 x0.length c0, .slice a1 x1.length c1] 28)) [.slice a0 x0.length c0, .slice a1 x1.length c1] 28 := Bx.start w _ _
  have LV := Lib.hid (validWishes_any _ a0 c0 x0 a1 c1 x1 (h.to X0.1) hl0 hin0 hl1 hin1)
  have LC := Lib.hid (fun w' => count_any w' a0 c0 x0 a1 c1 x1)
  cases t1 : wishB ⟨x0, x1⟩ with
  | false =>
    rw [all_no1 t1]
    rw [t1] at LV
    clear h hin0 hin1 t1
    obtain ⟨q0, q1⟩ := X0.two
    go_enter Try.func36, Try.ntmps36
    go_wp2_with fail
    refine LV.out.mono ?_
    rintro e w1 ⟨rfl, hb1⟩
    have X1 := X0.next hb1
    clear hb1 q0 q1
    go_wp2_with fail
    go_ret2
    exact ⟨X1.1, rfl⟩
  | true =>
  rw [t1] at LV
  have hv := wish_of t1
  have h8 := hv.n8
  have h1 := hv.n1
  simp only at h8 h1
  by_cases h5 : x0.length ≤ 5
  case neg =>
    rw [all_no2 h5]
    have hgt : (5 : Int) < (x0.length : Int) := by omega
    clear h hin0 hin1 t1 hv
    obtain ⟨q0, q1⟩ := X0.two
    go_enter Try.func36, Try.ntmps36
    go_wp2_with fail
    refine LV.out.mono ?_
    rintro e w1 ⟨rfl, hb1⟩
    have X1 := X0.next hb1
    clear q0 q1
    obtain ⟨q0, q1⟩ := X1.two
    clear hb1
    go_wp2_with fail
    refine (LC.out _).mono ?_
    rintro e w2 ⟨rfl, hb2⟩
    have X2 := X1.next hb2
    clear hb2 q0 q1
    go_wp2_with fail
    go_ret2
    exact ⟨X2.1, rfl⟩
  rw [all_yes t1 h5]
  have LN := Lib.hid (fun w' => none_any w' x0.length h1 (by omega))
  have hfew := Lib.hid (allStab_few (w := ⟨x0, x1⟩) h5)
  have LP : Hid (∀ (t0 gO gd gM gP lo : Nat) (L : LayA w.heap.size t0 gO gd gM gP lo) (w' : World), PA w [.slice a0 x0.length c0, .slice a1 x1.length c1] x0.length t0 gO gd gM gP lo [] [] w' → _) := fun t0 gO gd gM gP lo L w' hP =>
    putA_any w a0 c0 x0 a1 c1 x1 h hv hin0 hin1 t0 gO gd gM gP lo L 7776 (by omega) x0.length [] [] w' hP (by simp) rfl (by rw [deep_all]; simpa using hfew.out)
  rw [deep_all] at LP
  have hgt : ¬ (5 : Int) < (x0.length : Int) := by omega
  clear h hin0 hin1 t1 hv
  obtain ⟨q0, q1⟩ := X0.two
  have hEP := enter_all
  go_enter Try.func36, Try.ntmps36
  go_wp2_with fail
  refine LV.out.mono ?_
  rintro e w1 ⟨rfl, hb1⟩
  have X1 := X0.next hb1
  clear q0 q1 X0
  obtain ⟨q0, q1⟩ := X1.two
  clear hb1
  go_wp2_with fail
  refine (LC.out _).mono ?_
  rintro e w2 ⟨rfl, hb2⟩
  have X2 := X1.next hb2
  clear hb2 q0 q1 X1 LV
  have XA := X2.next (bl2 w2 (.cells #[] 25) (.cells #[.slice (some ⟨w2.heap.size, 0, none⟩) 0 0] 22))
  have hx2 := X2.lt
  have BO := Lib.hid (Blk.new (w2.alloc (.cells #[] 25)) [.slice (some ⟨w2.heap.size, 0, none⟩) 0 0] 22)
  have OO := Lib.hid ((own_empty w2 25).alloc (.cells #[.slice (some ⟨w2.heap.size, 0, none⟩) 0 0] 22))
  obtain ⟨q0, q1⟩ := XA.two
  clear X2
  go_wp2_with fail
  refine (LC.out _).mono ?_
  rintro e w4 ⟨rfl, hb4⟩
  have X4 := XA.next hb4
  have BO4 := Lib.hid (BO.out.same hb4)
  have OO4 := Lib.hid (own_below OO.out hb4)
  have s4 := hb4.size
  rw [World.size_alloc, World.size_alloc] at s4
  clear hb4 q0 q1 XA BO OO
  go_wp2_with fail
  refine (LN.out _).mono ?_
  rintro e w5 ⟨rfl, hd5, hb5⟩
  have X5 := X4.next hb5
  have BO5 := Lib.hid (BO4.out.same hb5)
  have OO5 := Lib.hid (own_below OO4.out hb5)
  have MD5 := Lib.hid hd5
  have s5 := hd5.lt
  clear hb5 hd5 X4 BO4 OO4
  rw [World.size_alloc] at BO5
  have HL : LayA w.heap.size w2.heap.size (w2.heap.size + 1) (w4.heap.size + 1) w5.heap.size (w5.heap.size + 1) (w5.heap.size + 2) := ⟨by omega, by omega, by omega, by omega, by omega, by omega⟩
  have LP1 := Lib.hid (LP.out _ _ _ _ _ _ HL)
  clear LP LN LC
  go_wp2_with fail
  refine (LP1.out _ ?_).mono ?_
  · refine ⟨X5.next (bl2 _ _ _), by simp <;> omega, ?_, ?_, ?_, some ⟨w2.heap.size, 0, none⟩, 0, [], ?_, ?_⟩
    · exact ((MD5.out.alloc _).alloc _)
    · exact ((Blk.new w5 [.slice (some ⟨w4.heap.size + 1, 0, none⟩) x0.length x0.length] 25).alloc _)
    · have := Blk.new (w5.alloc (.cells #[.slice (some ⟨w4.heap.size + 1, 0, none⟩) x0.length x0.length] 25)) [putV w.heap.size (w2.heap.size + 1) w5.heap.size (w5.heap.size + 1)] 78
      simpa [putV] using this
    · exact ((BO5.out.alloc _).alloc _)
    · exact (OwnTop.start ((OO5.out.alloc _).alloc _) (fun g hg => by simp [Value.ownBlock] at hg; exact hg.symm))
  rintro e w6 ⟨rfl, hP⟩
  obtain ⟨a, c, vs, hO, hT⟩ := hP.ob
  have c6 := hO.cell 0
  simp only [List.getElem?_cons_zero, List.nil_append] at c6
  have hB6 := Lib.hid hP.bx.1
  have hR : OwnRows 2 25 w6 w2.heap.size w6.heap.size (.slice a (allStabF ⟨x0, x1⟩).length c) vs (allStabF ⟨x0, x1⟩) := hT.rows (by omega) (by have := hP.sz; omega)
  have HR := Lib.hid hR
  clear hP hO hT hR LP1 MD5 BO5 OO5 X5
  go_wp2_with fail
  go_ret2
  exact ⟨hB6.out, a, c, rfl, OwnLL.mono ⟨vs, HR.out⟩ (by omega) (Nat.le_refl _)⟩
end Go.Proofs.Ytdipckpcmnhpjaa
