/-
  The library's Index, Contains, IndexFunc and ContainsFunc at the types that are met here.
-/
import Derived.Test.YtiimhpopcgiejaaDoorBase
namespace Go.Proofs.YtiimhpopcgiejaaDoor
set_option linter.unusedVariables false
set_option linter.unusedSimpArgs false
open Go.RowKit

/-- The first index below n for which p says yes; -1 if there is none. -/
def findI (p : Nat → Bool) (n : Nat) : Int := match (List.range n).find? p with
  | some j => j
  | none => -1
theorem findI_here {p : Nat → Bool} {n k : Nat} (hk : k < n) (hp : p k = true) (hb : ∀ j, j < k → p j = false) : findI p n = k := by
  have : (List.range n).find? p = some k := by
    rw [List.find?_range_eq_some]
    exact ⟨hp, by simpa using hk, fun j hj => by simp [hb j hj]⟩
  simp [findI, this]
theorem findI_none {p : Nat → Bool} {n : Nat} (hb : ∀ j, j < n → p j = false) : findI p n = -1 := by
  have : (List.range n).find? p = none := by
    rw [List.find?_eq_none]
    intro j hj
    simp [hb j (by simpa using hj)]
  simp [findI, this]
theorem findI_spec (p : Nat → Bool) (n : Nat) : (∃ k, k < n ∧ p k = true ∧ (∀ j, j < k → p j = false) ∧ findI p n = k) ∨ ((∀ j, j < n → p j = false) ∧ findI p n = -1) := by
  by_cases h : ∃ k, k < n ∧ p k = true
  · obtain ⟨k, hk, hm⟩ : ∃ k, (k < n ∧ p k = true) ∧ ∀ j, j < k → ¬ (j < n ∧ p j = true) := by
      obtain ⟨k, hk⟩ := h
      induction k using Nat.strongRecOn with
      | _ k ih =>
        by_cases hh : ∃ j, j < k ∧ j < n ∧ p j = true
        · obtain ⟨j, h1, h2⟩ := hh; exact ih j h1 h2
        · exact ⟨k, hk, fun j hj hh2 => hh ⟨j, hj, hh2⟩⟩
    have hb : ∀ j, j < k → p j = false := fun j hj => by
      have := hm j hj
      cases hp : p j with
      | false => rfl
      | true => exact absurd ⟨by omega, hp⟩ this
    exact .inl ⟨k, hk.1, hk.2, hb, findI_here hk.1 hk.2 hb⟩
  · have hb : ∀ j, j < n → p j = false := fun j hj => by
      cases hp : p j with
      | false => rfl
      | true => exact absurd ⟨j, hj, hp⟩ h
    exact .inr ⟨hb, findI_none hb⟩
theorem findI_bd (p : Nat → Bool) (n : Nat) : -1 ≤ findI p n ∧ findI p n < n := by
  rcases findI_spec p n with ⟨k, hk, _, _, e⟩ | ⟨_, e⟩ <;> rw [e] <;> omega
def anyI (p : Nat → Bool) (n : Nat) : Bool := decide (0 ≤ findI p n)
theorem anyI_iff {p : Nat → Bool} {n : Nat} : anyI p n = true ↔ ∃ k, k < n ∧ p k = true := by
  unfold anyI
  rw [decide_eq_true_iff]
  rcases findI_spec p n with ⟨k, hk, hp, _, e⟩ | ⟨hb, e⟩
  · rw [e]; exact ⟨fun _ => ⟨k, hk, hp⟩, fun _ => by omega⟩
  · rw [e]
    constructor
    · intro h; omega
    · rintro ⟨k, hk, hp⟩; rw [hb k hk] at hp; cases hp
theorem anyI_no {p : Nat → Bool} {n : Nat} : anyI p n = false ↔ ∀ k, k < n → p k = false := by
  rw [← Bool.not_eq_true, anyI_iff]
  constructor
  · intro h k hk
    cases hp : p k with
    | false => rfl
    | true => exact absurd ⟨k, hk, hp⟩ h
  · rintro h ⟨k, hk, hp⟩; rw [h k hk] at hp; cases hp
theorem range_any (p : Nat → Bool) (n : Nat) : (List.range n).any p = anyI p n := by
  cases h : anyI p n with
  | true =>
    obtain ⟨k, hk, hp⟩ := anyI_iff.1 h
    exact List.any_eq_true.2 ⟨k, by simpa using hk, hp⟩
  | false =>
    rw [List.any_eq_false]
    intro k hk
    rw [anyI_no.1 h k (by simpa using hk)]; simp
theorem findI_congr {p q : Nat → Bool} {n : Nat} (h : ∀ j, j < n → p j = q j) : findI p n = findI q n := by
  unfold findI
  have : ∀ l : List Nat, (∀ j ∈ l, p j = q j) → l.find? p = l.find? q := by
    intro l
    induction l with
    | nil => simp
    | cons x xs ih => intro hl; rw [List.find?_cons, List.find?_cons, hl x (by simp), ih (fun j hj => hl j (by simp [hj]))]
  rw [this _ (fun j hj => h j (by simpa using hj))]

/-- What a slice of one-cell elements holds at an index. -/
theorem Rd.getV {w : World} {B : Nat} {a : Option Addr} {vs : List Value} (h : Rd w B a vs) {k : Nat} (hk : k < vs.length) :
    ∃ b o v, a = some ⟨b, o, none⟩ ∧ b < B ∧ w.cell? ⟨b, o + k, none⟩ = some v ∧ Hid (vs[k]? = some v) := by
  rcases h with h | ⟨b, o, ha, hb, hc⟩
  · subst h; simp at hk
  · exact ⟨b, o, vs[k], ha, hb, by rw [hc k hk, List.getElem?_eq_getElem hk], by simp [Hid, List.getElem?_eq_getElem hk]⟩

/-- The index of a number in a list, -1 if it is not there. -/
def indexI (xs : List Int) (v : Int) : Int := findI (fun j => v == xs.getD j 0) xs.length
def containsI (xs : List Int) (v : Int) : Bool := decide (0 ≤ indexI xs v)
theorem containsI_iff {xs : List Int} {v : Int} : containsI xs v = true ↔ v ∈ xs := by
  show anyI _ _ = true ↔ _
  rw [anyI_iff]
  constructor
  · rintro ⟨k, hk, h⟩
    rw [beq_iff_eq] at h
    rw [h]; exact List.mem_of_getElem? (get_of_lt hk)
  · intro h
    obtain ⟨k, hk, e⟩ := List.getElem_of_mem h
    exact ⟨k, hk, by rw [beq_iff_eq, ← e]; simp [List.getD, hk]⟩

end Go.Proofs.YtiimhpopcgiejaaDoor
