/-
  Games, values and crowds with a text: plain part, and rows taken out of a list of one's own.
-/
import Derived.Test.YtiimhpopcgiejaaDoorPartsI
namespace Go.Proofs.YtiimhpopcgiejaaDoor
set_option linter.unusedVariables false
set_option linter.unusedSimpArgs false
open Go.RowKit

/-- Two numbers and two lists, if they are valid. -/
def rd2F (V : Int → Int → List Int → List Int → Bool) (l : List UInt8) : Int × Int × List Int × List Int × Bool := match listsF 3 l with
  | none => (0, 0, [], [], false)
  | some yss => if V ((yss.getD 0 []).getD 0 0) ((yss.getD 0 []).getD 1 0) (yss.getD 1 []) (yss.getD 2 []) then ((yss.getD 0 []).getD 0 0, (yss.getD 0 []).getD 1 0, yss.getD 1 [], yss.getD 2 [], true) else (0, 0, [], [], false)
def rd1F (V : Int → Int → List Int → Bool) (l : List UInt8) : Int × Int × List Int × Bool := match listsF 2 l with
  | none => (0, 0, [], false)
  | some yss => if V ((yss.getD 0 []).getD 0 0) ((yss.getD 0 []).getD 1 0) (yss.getD 1 []) then ((yss.getD 0 []).getD 0 0, (yss.getD 0 []).getD 1 0, yss.getD 1 [], true) else (0, 0, [], false)
theorem rd2F_none {V : Int → Int → List Int → List Int → Bool} {l : List UInt8} (h : listsF 3 l = none) : rd2F V l = (0, 0, [], [], false) := by unfold rd2F; rw [h]
theorem rd1F_none {V : Int → Int → List Int → Bool} {l : List UInt8} (h : listsF 2 l = none) : rd1F V l = (0, 0, [], false) := by unfold rd1F; rw [h]
theorem rd2F_some {V : Int → Int → List Int → List Int → Bool} {l : List UInt8} {p q : Int} {x2 x3 : List Int} (h : listsF 3 l = some [[p, q], x2, x3]) : rd2F V l = if V p q x2 x3 then (p, q, x2, x3, true) else (0, 0, [], [], false) := by unfold rd2F; rw [h]; rfl
theorem rd1F_some {V : Int → Int → List Int → Bool} {l : List UInt8} {p q : Int} {x2 : List Int} (h : listsF 2 l = some [[p, q], x2]) : rd1F V l = if V p q x2 then (p, q, x2, true) else (0, 0, [], false) := by unfold rd1F; rw [h]; rfl
theorem two_of {y : List Int} (h : y.length = 2) : ∃ p q, y = [p, q] := by
  match y, h with
  | [p, q], _ => exact ⟨p, q, rfl⟩
theorem lists3 {yss : List (List Int)} (h : yss.length = 3) (h2 : (yss.getD 0 []).length = 2) (h3 : ∀ y ∈ yss, y.length ≤ 64) : ∃ p q x2 x3, yss = [[p, q], x2, x3] ∧ x2.length ≤ 64 ∧ x3.length ≤ 64 := by
  match yss, h with
  | [y0, y1, y2], _ =>
    obtain ⟨p, q, e⟩ := two_of (y := y0) h2
    exact ⟨p, q, y1, y2, by rw [e], h3 y1 (by simp), h3 y2 (by simp)⟩
theorem lists2 {yss : List (List Int)} (h : yss.length = 2) (h2 : (yss.getD 0 []).length = 2) (h3 : ∀ y ∈ yss, y.length ≤ 64) : ∃ p q x2, yss = [[p, q], x2] ∧ x2.length ≤ 64 := by
  match yss, h with
  | [y0, y1], _ =>
    obtain ⟨p, q, e⟩ := two_of (y := y0) h2
    exact ⟨p, q, y1, by rw [e], h3 y1 (by simp)⟩
theorem rd2F_len {V : Int → Int → List Int → List Int → Bool} {l : List UInt8} : (rd2F V l).2.2.1.length ≤ 64 ∧ (rd2F V l).2.2.2.1.length ≤ 64 := by
  cases h : listsF 3 l with
  | none => rw [rd2F_none h]; exact ⟨Nat.zero_le _, Nat.zero_le _⟩
  | some yss =>
    obtain ⟨h1, h2, h3⟩ := listsF_get h
    obtain ⟨p, q, x2, x3, rfl, l2, l3⟩ := lists3 h1 h2 h3
    rw [rd2F_some h]
    split
    · exact ⟨l2, l3⟩
    · exact ⟨Nat.zero_le _, Nat.zero_le _⟩
theorem rd1F_len {V : Int → Int → List Int → Bool} {l : List UInt8} : (rd1F V l).2.2.1.length ≤ 64 := by
  cases h : listsF 2 l with
  | none => rw [rd1F_none h]; exact Nat.zero_le _
  | some yss =>
    obtain ⟨h1, h2, h3⟩ := listsF_get h
    obtain ⟨p, q, x2, rfl, l2⟩ := lists2 h1 h2 h3
    rw [rd1F_some h]
    split
    · exact l2
    · exact Nat.zero_le _
section
variable {T T2 lo hi g c n : Nat} {w : World} {xs : List Int}
theorem OwnRows.cellAt {vs : List Value} {yss : List (List Int)} (h : OwnRows T T2 w lo hi (.slice (some ⟨g, 0, none⟩) n c) vs yss) (hn : n = yss.length) {j : Nat} {v : Value} (hj : vs[j]? = some v) : w.cell? ⟨g, j, none⟩ = some v := by
  subst hn
  rcases rd_of_own h.out (Nat.le_refl _) with h' | ⟨b, o, ha, hb, hc⟩
  · rw [h'] at hj; cases hj
  · injection ha with ha
    injection ha with ha1 ha2
    have := hc j (List.getElem?_eq_some_iff.1 hj).1
    rw [← ha1, ← ha2, Nat.zero_add, hj] at this
    exact this
theorem OwnI.cellAt (h : OwnI T w lo hi (some ⟨g, 0, none⟩) c xs) {j : Nat} {x : Int} (hj : xs[j]? = some x) : w.cell? ⟨g, j, none⟩ = some (.int .i64 x) := by
  have hj2 : (ints xs)[j]? = some (.int .i64 x) := by simp [ints, hj]
  rcases h.rd with h' | ⟨b, o, ha, hb, hc⟩
  · rw [h'] at hj2; cases hj2
  · injection ha with ha
    injection ha with ha1 ha2
    have := hc j (List.getElem?_eq_some_iff.1 hj2).1
    rw [← ha1, ← ha2, Nat.zero_add, hj2] at this
    exact this
theorem OwnI.narrow (h : OwnI T w lo hi (some ⟨g, 0, none⟩) c xs) : OwnI T w g (g + 1) (some ⟨g, 0, none⟩) c xs := by
  refine ⟨⟨h.1.1, ?_⟩, fun b hb => by injection hb with hb; subst hb; exact Nat.lt_succ_self _⟩
  rcases h.1.2 with ⟨h2, _⟩ | ⟨g', cap, cur, hv, hg, r⟩
  · cases h2
  · have e := hv
    injection e with e1 _ e3
    injection e1 with e1
    injection e1 with e1
    exact .inr ⟨g', cap, cur, hv, by omega, r⟩
theorem OwnI.place (h : OwnI T w lo hi (some ⟨g, 0, none⟩) c xs) : lo ≤ g ∧ g < hi := ⟨(h.1.lt g rfl).1, h.2 _ rfl⟩
end
end Go.Proofs.YtiimhpopcgiejaaDoor
