/-
  Seats: whom those with seats have, and the first pair that would rather have one another; the fairest match. No Go function is named here.
-/
import Derived.Test.YtdipckpcmnhpjaaMatT
namespace Go.Proofs.Ytdipckpcmnhpjaa
set_option linter.unusedVariables false
set_option linter.unusedSimpArgs false
open Go.RowKit

def seatsB (w : Wi) (seats : List Int) : Bool := wishB w && manyB seats w.L.length w.L.length 0 8
/-- Those below t who have k. -/
def hasN (m : List Int) (k : Nat) : Nat → List Int
  | 0 => []
  | t + 1 => if m.getD t 0 = (k : Int) then hasN m k t ++ [(t : Int)] else hasN m k t
def hasL (m : List Int) (k : Nat) : List Int := hasN m k m.length
theorem hasN_mem {m : List Int} {k : Nat} {x : Int} : ∀ {t : Nat}, x ∈ hasN m k t ↔ ∃ i : Nat, x = i ∧ i < t ∧ m.getD i 0 = k
  | 0 => by simp [hasN]
  | t + 1 => by
    rw [hasN]
    split
    case isTrue h =>
      rw [List.mem_append, hasN_mem (t := t), List.mem_singleton]
      constructor
      · rintro (⟨i, h1, h2, h3⟩ | h1)
        · exact ⟨i, h1, by omega, h3⟩
        · exact ⟨t, h1, by omega, h⟩
      · rintro ⟨i, h1, h2, h3⟩
        by_cases e : i = t
        · subst e; exact .inr h1
        · exact .inl ⟨i, h1, by omega, h3⟩
    case isFalse h =>
      rw [hasN_mem (t := t)]
      constructor
      · rintro ⟨i, h1, h2, h3⟩; exact ⟨i, h1, by omega, h3⟩
      · rintro ⟨i, h1, h2, h3⟩
        by_cases e : i = t
        · subst e; exact absurd h3 h
        · exact ⟨i, h1, by omega, h3⟩
theorem hasN_len (m : List Int) (k : Nat) : ∀ t, (hasN m k t).length ≤ t
  | 0 => by simp [hasN]
  | t + 1 => by
    rw [hasN]
    have := hasN_len m k t
    split
    · simp; omega
    · omega
def fullB (w : Wi) (seats m : List Int) : Bool := (List.range w.L.length).all fun k => decide (((hasL m k).length : Int) ≤ seats.getD k 0)
def sblocksI (w : Wi) (seats m : List Int) (a b : Nat) : Bool := pairB w a b && dearI (row w.L a) b (m.getD a 0) && (decide (((hasL m b).length : Int) < seats.getD b 0) || (hasL m b).any fun j => dearI (row w.R b) a j)
def rivalB (w : Wi) (m : List Int) (a b : Nat) (i : Nat) : Bool := decide (m.getD i 0 = (b : Int)) && dearB (row w.R b) a i
def sblocksR (w : Wi) (seats m : List Int) (a b : Nat) : Bool := pairB w a b && (!decide (m.getD a 0 = (b : Int))) && dearB (row w.L a) b (m.getD a 0) && (decide (((hasL m b).length : Int) < seats.getD b 0) || (List.range m.length).any (rivalB w m a b))
theorem rivals_eq (w : Wi) (m : List Int) (a b : Nat) : ((hasL m b).any fun j => dearI (row w.R b) a j) = (List.range m.length).any (rivalB w m a b) := by
  rw [Bool.eq_iff_iff, List.any_eq_true, List.any_eq_true]
  have hd : ∀ i : Nat, dearB (row w.R b) a i = dearI (row w.R b) a i := fun i => by
    have h3 : decide ((i : Int) < 0) = false := decide_eq_false (by omega)
    simp [dearI, dearB, h3]
  constructor
  · rintro ⟨x, hx, h⟩
    obtain ⟨i, rfl, hi, he⟩ := hasN_mem.1 hx
    refine ⟨i, List.mem_range.2 hi, ?_⟩
    unfold rivalB
    rw [decide_eq_true he, hd, h]; rfl
  · rintro ⟨i, hi, h⟩
    unfold rivalB at h
    rw [Bool.and_eq_true, decide_eq_true_eq, hd] at h
    exact ⟨i, hasN_mem.2 ⟨i, rfl, List.mem_range.1 hi, h.1⟩, h.2⟩
theorem sblocks_eq {w : Wi} (hw : Wish w) {seats m : List Int} (hp : partnersB w m = true) {a b : Nat} (ha : a < w.L.length) : sblocksI w seats m a b = sblocksR w seats m a b := by
  obtain ⟨h1, h2⟩ := partners_iff.1 hp
  unfold sblocksI sblocksR
  rw [rivals_eq]
  cases hq : pairB w a b with
  | false => rfl
  | true =>
    have hq' := hq
    simp only [pairB, Bool.and_eq_true] at hq'
    rw [dear_left hw (fun i hi => (h2 i hi).imp id fun ⟨c, hc, _⟩ => ⟨c, hc⟩) h1 ha hq'.1]
    simp [Bool.and_assoc]
def schoolF (w : Wi) (seats m : List Int) : Option (Nat × Nat) := if seatsB w seats && partnersB w m && fullB w seats m then first2 w.L.length (sblocksI w seats m) else none
theorem school_eqR {w : Wi} (hw : Wish w) {seats m : List Int} (hp : partnersB w m = true) : first2 w.L.length (sblocksI w seats m) = first2 w.L.length (sblocksR w seats m) := first2_congr fun _ _ ha _ => sblocks_eq hw hp ha
/-- The reference's test of partners. -/
def partR (w : Wi) (m : List Int) (i : Nat) : Bool := decide (m.getD i 0 = -1) || (inB (m.getD i 0) 0 (m.length - 1) && pairB w i (m.getD i 0).toNat)
theorem partners_eqR {w : Wi} {m : List Int} (hl : m.length = w.L.length) : partnersB w m = (List.range m.length).all (partR w m) := by
  rw [Bool.eq_iff_iff, partners_iff, List.all_eq_true]
  constructor
  · rintro ⟨_, h2⟩ i hi
    unfold partR
    rcases h2 i (List.mem_range.1 hi) with h | ⟨b, h, hb, hp⟩
    · rw [decide_eq_true h, Bool.true_or]
    · rw [h, inB_iff.2 ⟨by omega, by omega⟩, Int.toNat_natCast, hp]; simp
  · intro h
    refine ⟨hl, fun i hi => ?_⟩
    have := h i (List.mem_range.2 hi)
    unfold partR at this
    simp only [Bool.or_eq_true, decide_eq_true_eq, Bool.and_eq_true, inB_iff] at this
    rcases this with h | ⟨⟨h1, h2⟩, h3⟩
    · exact .inl h
    · exact .inr ⟨(m.getD i 0).toNat, by omega, by omega, h3⟩
theorem partners_len {w : Wi} {m : List Int} (hl : m.length ≠ w.L.length) : partnersB w m = false := by simp [partnersB, hl]
/-- The sum of places. -/
def sumPl (w : Wi) (m : List Int) : Nat → Int
  | 0 => 0
  | k + 1 => if m.getD k 0 < 0 then sumPl w m k else sumPl w m k + (placeI (row w.L k) (m.getD k 0) + placeI (row w.R (m.getD k 0).toNat) k)
abbrev BestM := Option (List Int × Int)
def fairStep (w : Wi) (b : BestM) (m : List Int) : BestM := match b with
  | none => some (m, sumPl w m m.length)
  | some (c, l) => if sumPl w m m.length < l then some (m, sumPl w m m.length) else some (c, l)
def fairF (w : Wi) : BestM := if wishB w && decide (w.L.length ≤ 5) then (allStabF w).foldl (fairStep w) none else none
theorem fairStep_some (w : Wi) (b : BestM) (m : List Int) : ∃ p, fairStep w b m = some p := by
  unfold fairStep
  split
  · exact ⟨_, rfl⟩
  · split <;> exact ⟨_, rfl⟩
end Go.Proofs.Ytdipckpcmnhpjaa
