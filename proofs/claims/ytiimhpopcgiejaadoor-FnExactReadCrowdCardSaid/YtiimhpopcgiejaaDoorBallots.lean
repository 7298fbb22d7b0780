/-
  Ballots: the reference's and the program's tests are one plain test.
-/
import Derived.Test.YtiimhpopcgiejaaDoorOrder
import Derived.Test.YtiimhpopcgiejaaDoorSlices
import Derived.Test.YtiimhpopcgiejaaDoorOwn
namespace Go.Proofs.YtiimhpopcgiejaaDoor
set_option linter.unusedVariables false
set_option linter.unusedSimpArgs false
open Go.RowKit

/-- A slice of slices of integers reads as lists. -/
def RdII (w : World) (B : Nat) (a : Option Addr) (yss : List (List Int)) : Prop :=
  ∃ vs : List Value, vs.length = yss.length ∧ Rd w B a vs ∧ ∀ (k : Nat) (ys : List Int), yss[k]? = some ys → ∃ (a' : Option Addr) (c' : Nat), vs[k]? = some (Value.slice a' ys.length c') ∧ ys.length ≤ c' ∧ Rd w B a' (ints ys)
theorem RdII.below {w w' : World} {B C : Nat} {a : Option Addr} {yss : List (List Int)} (h : RdII w B a yss) (hb : Below C w w') (hB : B ≤ C) : RdII w' B a yss := by
  obtain ⟨vs, h1, h2, h3⟩ := h
  exact ⟨vs, h1, h2.below hb hB, fun k ys hk => let ⟨a', c', e1, e2, e3⟩ := h3 k ys hk; ⟨a', c', e1, e2, e3.below hb hB⟩⟩
theorem RdII.mono {w : World} {B C : Nat} {a : Option Addr} {yss : List (List Int)} (h : RdII w B a yss) (hB : B ≤ C) : RdII w C a yss := by
  obtain ⟨vs, h1, h2, h3⟩ := h
  exact ⟨vs, h1, h2.mono hB, fun k ys hk => let ⟨a', c', e1, e2, e3⟩ := h3 k ys hk; ⟨a', c', e1, e2, e3.mono hB⟩⟩
theorem RdII.to {w w' : World} {a : Option Addr} {yss : List (List Int)} (h : RdII w w.heap.size a yss) (hb : Below w.heap.size w w') : RdII w' w'.heap.size a yss := (h.below hb (Nat.le_refl _)).mono hb.size
theorem RdII.touch {w w' : World} {lo hi B : Nat} {a : Option Addr} {yss : List (List Int)} (h : RdII w B a yss) (ht : Touch w w' lo hi) (hB : B ≤ lo) (hs : B ≤ w.heap.size) : RdII w' B a yss := by
  obtain ⟨vs, h1, h2, h3⟩ := h
  exact ⟨vs, h1, h2.touch ht hB hs, fun k ys hk => let ⟨a', c', e1, e2, e3⟩ := h3 k ys hk; ⟨a', c', e1, e2, e3.touch ht hB hs⟩⟩
theorem RdII.get {w : World} {B : Nat} {a : Option Addr} {yss : List (List Int)} (h : RdII w B a yss) {k : Nat} (hk : k < yss.length) :
    ∃ b o ys a' c', a = some ⟨b, o, none⟩ ∧ b < B ∧ w.cell? ⟨b, o + k, none⟩ = some (.slice a' ys.length c') ∧ ys.length ≤ c' ∧ Rd w B a' (ints ys) ∧ Hid (yss[k]? = some ys) := by
  obtain ⟨vs, h1, h2, h3⟩ := h
  obtain ⟨b, o, v, ha, hb, hc, hv⟩ := h2.getV (k := k) (by omega)
  obtain ⟨a', c', e1, e2, e3⟩ := h3 k yss[k] (List.getElem?_eq_getElem hk)
  have hv' := hv.out
  rw [e1] at hv'
  injection hv' with hv'
  exact ⟨b, o, yss[k], a', c', ha, hb, by rw [hc, hv'], e2, e3, by simp [Hid, List.getElem?_eq_getElem hk]⟩

/-- How many are on each ballot. -/
def wide (yss : List (List Int)) : Nat := (yss.headD []).length
def ballotsB (yss : List (List Int)) : Bool := decide (1 ≤ yss.length) && decide (yss.length ≤ 32) && decide (1 ≤ wide yss) && decide (wide yss ≤ 12) && yss.all fun b => orderB b (wide yss)
theorem wide_of_get {yss : List (List Int)} {ys : List Int} (h : yss[0]? = some ys) : wide yss = ys.length := by
  cases yss with
  | nil => simp at h
  | cons x xs => simp at h; simp [wide, h]
theorem ballotsB_iff {yss : List (List Int)} : ballotsB yss = true ↔ (1 ≤ yss.length ∧ yss.length ≤ 32) ∧ (1 ≤ wide yss ∧ wide yss ≤ 12) ∧ ∀ b ∈ yss, orderB b (wide yss) = true := by
  simp only [ballotsB, Bool.and_eq_true, decide_eq_true_iff, List.all_eq_true, and_assoc]
theorem ballotsB_all {yss : List (List Int)} (h1 : 1 ≤ yss.length) (h2 : yss.length ≤ 32) (h3 : 1 ≤ wide yss) (h4 : wide yss ≤ 12) : ballotsB yss = yss.all fun b => orderB b (wide yss) := by
  simp [ballotsB, h1, h2, h3, h4]
theorem all_take_succ {α : Type} {xs : List α} {k : Nat} {x : α} {p : α → Bool} (hx : xs[k]? = some x) (h : (xs.take k).all p = true) (h2 : p x = true) : (xs.take (k + 1)).all p = true := by
  rw [List.take_add_one, hx]; simp [h2] at *; exact h
theorem all_false {α : Type} {xs : List α} {k : Nat} {x : α} {p : α → Bool} (hx : xs[k]? = some x) (h2 : p x = false) : xs.all p = false := by
  rw [← Bool.not_eq_true]; intro h
  have := List.all_eq_true.1 h x (List.mem_of_getElem? hx)
  rw [h2] at this; cases this

end Go.Proofs.YtiimhpopcgiejaaDoor
