/-
  FnExactJournalOf answers true: the law's walk.
-/
import Derived.Test.YtiimhpopcgiejaaDoorLawStrS
import Derived.Test.YtiimhpopcgiejaaDoorJourI
import Derived.Test.YtiimhpopcgiejaaDoorJourR
namespace Go.Proofs.YtiimhpopcgiejaaDoor
set_option linter.unusedVariables false
set_option linter.unusedSimpArgs false
open Go.RowKit
theorem eqStr_below (w : World) (a b : Option Addr) (c d : Nat) (xs : List (List UInt8)) (hx : Rd w w.heap.size a (strs xs)) (hy : Rd w w.heap.size b (strs xs)) (hlx : xs.length ≤ 1099511627776) :
    Calls Tryd.prog 12 #[.slice a xs.length c, .slice b xs.length d] w fun e w' => e = .returned (.bool true) ∧ Below w.heap.size w w' :=
  (eqStringS_same w a b c d xs hx hy hlx).mono fun e w' ⟨h1, n, h2⟩ => ⟨h1, by rw [h2]; exact drewN_below w n⟩
set_option maxRecDepth 10000 in
set_option maxHeartbeats 8000000 in
theorem law_ExactJournalOf (w : World) (ht : Tab w) (a : Option Addr) (c : Nat) (xs : List (List UInt8)) (h : Rd w w.heap.size a (strs xs)) (hl0 : xs.length ≤ 9223372036854775807) (hin0 : ∀ y ∈ xs, y.length ≤ 9223372036854775807) :
    Calls Tryd.prog 3 #[.slice a xs.length c] w fun e w' => e = .returned (.bool true) ∧ Below w.heap.size w w' := by
  have S0 := Lib.hid (szStringS_any w a c xs 1048576 h (by omega) (by omega) hl0 hin0)
  have hs : -1 ≤ szLF xs 1048576 ∧ (0 ≤ szLF xs 1048576 → xs.length ≤ 1048576 ∧ ∀ y ∈ xs, y.length ≤ 1048576) := by
    unfold szLF
    split
    · exact ⟨by omega, fun h => by omega⟩
    · obtain ⟨h1, h2, h3⟩ := szStrF_spec xs (1048576 - xs.length) (by omega)
      exact ⟨h1, fun h4 => ⟨by omega, fun y hy => by have := h3 h4 y hy; omega⟩⟩
  generalize szLF xs 1048576 = lv at *
  obtain ⟨hsa, hsc⟩ := hs
  by_cases hneg : lv < 0
  case pos =>
    clear hsc
    go_enter Tryd.func3, Tryd.ntmps3
    go_wp2_with fail
    refine S0.out.mono ?_
    rintro e w' ⟨rfl, rfl⟩
    go_wp2_with fail
    go_ret
    exact ⟨rfl, Below.refl _ _⟩
  obtain ⟨hl, hin'⟩ := hsc (by omega)
  have hin := Lib.hid hin'
  clear hsc hin' hin0
  have HS := Lib.hid (fun w' a c h => journalOfR_any w' a c xs h hl hin.out)
  have HI := Lib.hid (fun w' ht a c h => journalOf_any w' ht a c xs h hl hin.out)
  generalize bs ((jourF xs).getD []) = R at *
  generalize (jourF xs).isSome = ok at *
  have hne1 : (ok != ok) = false := by simp
  have HX := Lib.hid h
  have HT := Lib.hid ht
  clear h ht
  go_enter Tryd.func3, Tryd.ntmps3
  go_wp2_with fail
  refine S0.out.mono ?_
  rintro e w' ⟨rfl, rfl⟩
  clear S0
  go_wp2_with fail
  refine (toStringS_any _ _ _ _ HX.out hl).mono ?_
  rintro e w1 ⟨rfl, k1, b1, z1⟩
  have B1 := Lib.hid b1
  have K1 := Lib.hid k1
  have l1 := k1.lt
  clear b1 k1 z1
  go_wp2_with fail
  refine (HS.out _ _ _ (K1.out.rd l1)).mono ?_
  rintro e w2 ⟨rfl, b2⟩
  have B2 := Lib.hid (below_then B1.out b2)
  clear B1 b2 l1 K1
  go_wp2_with fail
  refine (toStringS_any _ _ _ _ ((HX.out.below B2.out (Nat.le_refl _)).mono B2.out.size) hl).mono ?_
  rintro e w3 ⟨rfl, k3, b3, z3⟩
  have B3 := Lib.hid (below_then B2.out b3)
  have K3 := Lib.hid k3
  have l3 := k3.lt
  clear B2 b3 k3 z3
  generalize w2.heap.size = g3 at *
  go_wp2_with fail
  refine (HI.out _ (HT.out.to B3.out) _ _ (K3.out.rd l3)).mono ?_
  rintro e w4 ⟨rfl, b4⟩
  have B4 := Lib.hid (below_then B3.out b4)
  have K4 := Lib.hid (K3.out.same b4)
  clear B3 b4 K3 l3
  go_wp2_with fail
  refine (toStringS_any _ _ _ _ ((HX.out.below B4.out (Nat.le_refl _)).mono B4.out.size) hl).mono ?_
  rintro e w5 ⟨rfl, k5, b5, z5⟩
  have B5 := Lib.hid (below_then B4.out b5)
  have K5 := Lib.hid k5
  have K6 := Lib.hid (K4.out.same b5)
  have l5 := k5.lt
  have l6 := K6.out.lt
  clear B4 b5 K4 k5 z5
  generalize w4.heap.size = g5 at *
  go_wp2_with fail
  refine (eqStr_below _ _ _ _ _ xs (K6.out.rd l6) (K5.out.rd l5) (by omega)).mono ?_
  rintro e w6 ⟨rfl, b6⟩
  go_wp2_with fail
  go_ret
  exact ⟨rfl, below_then B5.out b6⟩
end Go.Proofs.YtiimhpopcgiejaaDoor
