/-
  The journal that a text begins with: plain part.
-/
import Derived.Test.YtiimhpopcgiejaaDoorLines
import Derived.Test.YtiimhpopcgiejaaDoorNames
import Derived.Test.YtiimhpopcgiejaaDoorJourP
namespace Go.Proofs.YtiimhpopcgiejaaDoor
set_option linter.unusedVariables false
set_option linter.unusedSimpArgs false
open Go.RowKit

def wordOf (x : List UInt8) : List UInt8 := x.takeWhile (fun b => b != 32)
def lineOf (x : List UInt8) : List UInt8 := x.drop ((wordOf x).length + 1)
def hasSp (x : List UInt8) : Bool := decide ((wordOf x).length < x.length)
/-- Is it a line of a journal, behind lines of this sum? -/
def recOk (c : Int) (x : List UInt8) : Bool := hasSp x && decide (wordOf x = Lib.itoa (chkF c (lineOf x)))
def recG : Int → List (List UInt8) → List (List UInt8) × Nat
  | _, [] => ([], 0)
  | c, x :: xs => if recOk c x then (lineOf x :: (recG (chkF c (lineOf x)) xs).1, x.length + 1 + (recG (chkF c (lineOf x)) xs).2) else ([], 0)
def recF (l : List UInt8) : List (List UInt8) × Nat := recG 0 (linesL l)
theorem recG_yes {c : Int} {x : List UInt8} {xs : List (List UInt8)} (h : recOk c x = true) : recG c (x :: xs) = (lineOf x :: (recG (chkF c (lineOf x)) xs).1, x.length + 1 + (recG (chkF c (lineOf x)) xs).2) := by rw [recG, if_pos h]
theorem recG_no {c : Int} {x : List UInt8} {xs : List (List UInt8)} (h : recOk c x = false) : recG c (x :: xs) = ([], 0) := by rw [recG, if_neg (by simp [h])]
theorem wordOf_le (x : List UInt8) : (wordOf x).length ≤ x.length := by unfold wordOf; exact (List.takeWhile_sublist _).length_le
theorem wordOf_take (x : List UInt8) : x.take (wordOf x).length = wordOf x := by
  have h : x = wordOf x ++ x.dropWhile (fun b => b != 32) := (List.takeWhile_append_dropWhile).symm
  conv => lhs; rw [h]
  rw [List.take_left']
  rw [← h]
/-- A byte before the word's end is no space. -/
theorem wordOf_before {x : List UInt8} {k : Nat} {b : UInt8} (hk : k < (wordOf x).length) (hb : x[k]? = some b) : b ≠ 32 := by
  have h1 : (wordOf x)[k]? = some b := by
    rw [← wordOf_take x, List.getElem?_take, if_pos hk]; exact hb
  have h2 : b ∈ wordOf x := List.mem_of_getElem? h1
  have h3 : ∀ (l : List UInt8), b ∈ l.takeWhile (fun b => b != 32) → b ≠ 32 := by
    intro l
    induction l with
    | nil => simp
    | cons c l ih =>
      rw [List.takeWhile_cons]
      split
      · rename_i hc
        intro hm
        rcases List.mem_cons.1 hm with h | h
        · subst h; simpa using hc
        · exact ih h
      · simp
  exact h3 x h2
/-- At the word's end lies a space, if the line does not end there. -/
theorem wordOf_at : ∀ {x : List UInt8} {b : UInt8}, x[(wordOf x).length]? = some b → b = 32
  | [], b, h => by simp at h
  | c :: l, b, h => by
    by_cases hc : c = 32
    · subst hc
      simpa [wordOf] using h.symm
    · have e : wordOf (c :: l) = c :: wordOf l := by simp [wordOf, List.takeWhile_cons, hc]
      rw [e, List.length_cons, List.getElem?_cons_succ] at h
      exact wordOf_at h
theorem idx_word : ∀ x : List UInt8, Lib.indexByte x 32 = if (wordOf x).length < x.length then ((wordOf x).length : Int) else -1
  | [] => rfl
  | b :: l => by
    by_cases hb : b = 32
    · subst hb; simp [Lib.indexByte, wordOf]
    · have e : wordOf (b :: l) = b :: wordOf l := by simp [wordOf, List.takeWhile_cons, hb]
      rw [Lib.indexByte, if_neg (by simpa using hb), idx_word l, e]
      simp only [List.length_cons]
      by_cases h : (wordOf l).length < l.length
      · rw [if_pos h, if_neg (by first | (simp; done) | (simp; omega)), if_pos (by omega)]; omega
      · rw [if_neg h, if_pos (show ((-1 : Int) == -1) = true from rfl), if_neg (by omega)]
theorem cut_sp (x : List UInt8) : Lib.cut x [32] = (wordOf x, lineOf x, hasSp x) := by
  unfold Lib.cut hasSp
  rw [Lib.index_one, idx_word]
  by_cases h : (wordOf x).length < x.length
  · rw [if_pos h, if_pos (by omega)]
    simp only [Int.toNat_natCast, wordOf_take, lineOf, List.length_singleton, decide_eq_true h]
  · have hw := wordOf_le x
    have e : wordOf x = x := by rw [← wordOf_take x, List.take_of_length_le (by omega)]
    rw [if_neg h, if_neg (by omega), decide_eq_false h]
    simp only [lineOf, e]
    rw [List.drop_of_length_le (by omega)]
theorem linesL_hit {p q : List UInt8} (h : (10 : UInt8) ∉ p) : linesL (p ++ 10 :: q) = p :: linesL q := by
  have h1 := cut_lines (p ++ 10 :: q)
  rw [cutL_hit h, cut_lines q] at h1
  have h2 : (p :: linesL q) ++ [restL q] = linesL (p ++ 10 :: q) ++ [restL (p ++ 10 :: q)] := h1
  exact (List.append_inj' h2 rfl).1.symm
theorem linesL_none {l : List UInt8} (h : (10 : UInt8) ∉ l) : linesL l = [] := by
  have h1 := cut_lines l
  rw [cutL_none h] at h1
  have h2 : ([] : List (List UInt8)) ++ [l] = linesL l ++ [restL l] := h1
  exact (List.append_inj' h2 rfl).1.symm
theorem linesL_at {l : List UInt8} {n : Nat} (h : Lib.indexByte l 10 = n) : n < l.length ∧ linesL l = l.take n :: linesL (l.drop (n + 1)) := by
  have h0 : Lib.index l [10] = n := by rw [Lib.index_one]; exact h
  obtain ⟨h1, h2⟩ := index_take h0
  refine ⟨?_, ?_⟩
  · have := congrArg List.length h1
    simp at this
    omega
  · conv => lhs; rw [h1]
    exact linesL_hit h2
theorem linesL_no {l : List UInt8} (h : Lib.indexByte l 10 = -1) : linesL l = [] := linesL_none (index_no (by rw [Lib.index_one]; exact h))
/-- What is found in the lines lies in the text. -/
theorem recG_len : ∀ (xs : List (List UInt8)) (c : Int), (recG c xs).1.length ≤ xs.length ∧ (recG c xs).1.length ≤ (recG c xs).2
  | [], _ => ⟨Nat.le_refl _, Nat.le_refl _⟩
  | x :: xs, c => by
    rw [recG]
    split
    · obtain ⟨h1, h2⟩ := recG_len xs (chkF c (lineOf x))
      simp only [List.length_cons]
      omega
    · simp
theorem recF_len (l : List UInt8) : (recF l).1.length ≤ l.length := by
  have h1 := (recG_len (linesL l) 0).1
  have h2 := linesL_len l
  show (recG 0 (linesL l)).1.length ≤ l.length
  omega
theorem linesL_mem {l x : List UInt8} (h : x ∈ linesL l) : x.length ≤ l.length := by
  refine cutL_mem (c := 10) ?_
  rw [cut_lines]
  exact List.mem_append_left _ h
end Go.Proofs.YtiimhpopcgiejaaDoor
