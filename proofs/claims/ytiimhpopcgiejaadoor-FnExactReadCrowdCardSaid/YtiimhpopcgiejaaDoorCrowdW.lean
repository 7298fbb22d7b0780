/-
  Crowds: all choices in their order; the first least total; the first worst one at rest. No Go function is named here.
-/
import Derived.Test.YtiimhpopcgiejaaDoorCrowdP
import Derived.Test.YtiimhpopcgiejaaDoorOdo
namespace Go.Proofs.YtiimhpopcgiejaaDoor
set_option linter.unusedVariables false
set_option linter.unusedSimpArgs false
open Go.RowKit

def totalF (c : Cr) (ch : List Int) : Int := sumR (paysF c ch) c.U.toNat
abbrev Best := Option (List Int × Int)
def leastStep (c : Cr) (ch : List Int) : Best → Best
  | none => some (ch, totalF c ch)
  | some (b, l) => if totalF c ch < l then some (ch, totalF c ch) else some (b, l)
def worstStep (c : Cr) (ch : List Int) (s : Best) : Best :=
  if (betterF c ch).isSome then s else match s with
    | none => some (ch, totalF c ch)
    | some (b, m) => if m < totalF c ch then some (ch, totalF c ch) else some (b, m)
/-- What a step makes of the first t choices. -/
def foldC (n U : Nat) (f : List Int → Best → Best) : Nat → Best
  | 0 => none
  | t + 1 => f (chAt n U t) (foldC n U f t)
def fewB (c : Cr) : Bool := decide (c.ways.length ^ c.U.toNat ≤ 4096)
def leastF (c : Cr) : Best := if validB c && fewB c then foldC c.ways.length c.U.toNat (leastStep c) (c.ways.length ^ c.U.toNat) else none
def worstF (c : Cr) : Best := if validB c && fewB c then foldC c.ways.length c.U.toNat (worstStep c) (c.ways.length ^ c.U.toNat) else none
theorem can_chAt {c : Cr} (h : Valid c) {t : Nat} (ht : t < c.ways.length ^ c.U.toNat) : Can c (chAt c.ways.length c.U.toNat t) :=
  ⟨h, by have := chAt_len c.ways.length c.U.toNat t; have := h.u1; omega, fun x hx => (chAt_spec h.w1 _ t ht).1 x hx⟩
theorem zero_lt {c : Cr} (h : Valid c) : 0 < c.ways.length ^ c.U.toNat := Nat.pow_pos h.w1
theorem least_some {c : Cr} {t : Nat} : (foldC c.ways.length c.U.toNat (leastStep c) (t + 1)).isSome := by
  rw [foldC]
  cases foldC c.ways.length c.U.toNat (leastStep c) t with
  | none => rfl
  | some p =>
    obtain ⟨b, l⟩ := p
    simp only [leastStep]
    split <;> rfl
theorem worst_keep {c : Cr} {ch : List Int} {s : Best} (h : s.isSome) : (worstStep c ch s).isSome := by
  unfold worstStep
  split
  · exact h
  · cases s with
    | none => rfl
    | some p =>
      obtain ⟨b, m⟩ := p
      simp only
      split <;> rfl
theorem worst_new {c : Cr} {ch : List Int} {s : Best} (h : betterF c ch = none) : (worstStep c ch s).isSome := by
  unfold worstStep
  rw [h]
  simp only [Option.isSome_none, Bool.false_eq_true, if_false]
  cases s with
  | none => rfl
  | some p =>
    obtain ⟨b, m⟩ := p
    simp only
    split <;> rfl
theorem worst_some {c : Cr} (h : Valid c) : (foldC c.ways.length c.U.toNat (worstStep c) (c.ways.length ^ c.U.toNat)).isSome := by
  have hc := can_chAt h (zero_lt h)
  obtain ⟨h1, h2, _⟩ := restF_rest hc
  obtain ⟨h3, h4⟩ := chAt_of h.w1 (U := c.U.toNat) (by have := h1.len; omega) (fun x hx => h1.mem x hx)
  have key : ∀ t, valD c.ways.length (restF c (chAt c.ways.length c.U.toNat 0)).1 < t → (foldC c.ways.length c.U.toNat (worstStep c) t).isSome := by
    intro t
    induction t with
    | zero => intro h; omega
    | succ t ih =>
      intro hlt
      rw [foldC]
      by_cases e : t = valD c.ways.length (restF c (chAt c.ways.length c.U.toNat 0)).1
      · rw [e, ← h4]
        exact worst_new h2
      · exact worst_keep (ih (by omega))
  exact key _ h3
theorem total_bd {c : Cr} (h : Valid c) (ch : List Int) : -6400000 ≤ totalF c ch ∧ totalF c ch ≤ 6400000 := by
  have := sumR_bd (f := paysF c ch) (m := 800000) (n := c.U.toNat) (fun i _ => pays_bd h ch i)
  have := h.u8
  unfold totalF
  omega
end Go.Proofs.YtiimhpopcgiejaaDoor
