/-
  The journal of lines: what it says (plain).
-/
import Derived.Test.YtiimhpopcgiejaaDoorNames
import Derived.Test.YtiimhpopcgiejaaDoorDec
namespace Go.Proofs.YtiimhpopcgiejaaDoor
set_option linter.unusedVariables false
set_option linter.unusedSimpArgs false
open Go.RowKit

/-- One line of the journal behind its check number. -/
def jstep (s : Int × List UInt8) (l : List UInt8) : Int × List UInt8 := (chkF s.1 l, s.2 ++ (Lib.itoa (chkF s.1 l) ++ 32 :: (l ++ [10])))
def jst (ls : List (List UInt8)) : Int × List UInt8 := ls.foldl jstep (0, [])
theorem jst_nil : jst [] = (0, []) := rfl
theorem jst_snoc (ls : List (List UInt8)) (l : List UInt8) : jst (ls ++ [l]) = jstep (jst ls) l := by simp [jst, List.foldl_append]
theorem jst_take {ls : List (List UInt8)} {k : Nat} {l : List UInt8} (h : ls[k]? = some l) : jst (ls.take (k + 1)) = jstep (jst (ls.take k)) l := by
  rw [List.take_add_one, h]; exact jst_snoc _ _
/-- Its least bytes: each line, a digit, a blank and the line's end. -/
def jmin (ls : List (List UInt8)) : Nat := (ls.map fun l => l.length + 3).sum
theorem jmin_snoc (ls : List (List UInt8)) (l : List UInt8) : jmin (ls ++ [l]) = jmin ls + (l.length + 3) := by simp [jmin]
theorem jmin_take {ls : List (List UInt8)} {k : Nat} {l : List UInt8} (h : ls[k]? = some l) : jmin (ls.take (k + 1)) = jmin (ls.take k) + (l.length + 3) := by
  rw [List.take_add_one, h]; exact jmin_snoc _ _
theorem foldl_j_len : ∀ (ls : List (List UInt8)) (s : Int × List UInt8), s.2.length ≤ (ls.foldl jstep s).2.length
  | [], _ => Nat.le_refl _
  | l :: ls, s => Nat.le_trans (by simp [jstep]) (foldl_j_len ls (jstep s l))
theorem jst_mono (ls : List (List UInt8)) (k : Nat) : (jst (ls.take k)).2.length ≤ (jst ls).2.length := by
  have e : jst ls = (ls.drop k).foldl jstep (jst (ls.take k)) := by rw [jst, jst, ← List.foldl_append, List.take_append_drop]
  rw [e]; exact foldl_j_len _ _
theorem jst_chk (ls : List (List UInt8)) : 0 ≤ (jst ls).1 ∧ (jst ls).1 ≤ 65002 := by
  have : ∀ (ls : List (List UInt8)) (s : Int × List UInt8), 0 ≤ s.1 ∧ s.1 ≤ 65002 → 0 ≤ (ls.foldl jstep s).1 ∧ (ls.foldl jstep s).1 ≤ 65002 := fun ls => by
    induction ls with
    | nil => exact fun s h => h
    | cons l ls ih => exact fun s h => ih _ (chkF_bd l s.1 h.1 h.2)
  exact this ls _ ⟨by decide, by decide⟩
theorem itoa_ne {n : Int} (h : 0 ≤ n) : 1 ≤ (Lib.itoa n).length := by
  rw [itoa_pos h]
  rw [Lib.decDigits]
  split
  · simp
  · simp
theorem itoa_le5 {n : Int} (h : 0 ≤ n) (h2 : n ≤ 65002) : (Lib.itoa n).length ≤ 5 := by
  rw [itoa_pos h]
  exact nDigits_le _ 5 (by omega) (by omega)
theorem jstep_len (s : Int × List UInt8) (l : List UInt8) : (jstep s l).2.length = s.2.length + ((Lib.itoa (chkF s.1 l)).length + (l.length + 2)) := by
  simp [jstep]
theorem foldl_j_min : ∀ (ls : List (List UInt8)) (s : Int × List UInt8), 0 ≤ s.1 → s.1 ≤ 65002 → s.2.length + jmin ls ≤ (ls.foldl jstep s).2.length ∧ (ls.foldl jstep s).2.length ≤ s.2.length + 3 * jmin ls
  | [], _, _, _ => by simp [jmin]
  | l :: ls, s, h0, h1 => by
    obtain ⟨c0, c1⟩ := chkF_bd l s.1 h0 h1
    obtain ⟨i1, i2⟩ := foldl_j_min ls (jstep s l) c0 c1
    have e := jstep_len s l
    have := itoa_ne c0
    have := itoa_le5 c0 c1
    have ej : jmin (l :: ls) = l.length + 3 + jmin ls := by simp [jmin]
    simp only [List.foldl_cons]
    omega
theorem jst_min (ls : List (List UInt8)) : jmin ls ≤ (jst ls).2.length ∧ (jst ls).2.length ≤ 3 * jmin ls := by
  have := foldl_j_min ls (0, []) (by decide) (by decide)
  simpa [jst] using this
theorem jmin_mono (ls : List (List UInt8)) (k : Nat) : jmin (ls.take k) ≤ jmin ls := by
  have e : jmin ls = jmin (ls.take k) + jmin (ls.drop k) := by
    unfold jmin
    rw [← List.sum_append, ← List.map_append, List.take_append_drop]
  omega
/-- The journal, or nothing. -/
def jourF (ls : List (List UInt8)) : Option (List UInt8) := if (∀ l ∈ ls, (10 : UInt8) ∉ l) ∧ (jst ls).2.length ≤ 16000 then some (jst ls).2 else none
theorem jourF_line {ls : List (List UInt8)} {l : List UInt8} (h : l ∈ ls) (h2 : (10 : UInt8) ∈ l) : jourF ls = none := by
  unfold jourF
  rw [if_neg (fun h3 => h3.1 l h h2)]
theorem jourF_long {ls : List (List UInt8)} {k : Nat} (h : 16000 < jmin (ls.take k)) : jourF ls = none := by
  unfold jourF
  rw [if_neg (fun h3 => by have := jmin_mono ls k; have := (jst_min ls).1; omega)]
theorem jourF_long2 {ls : List (List UInt8)} {k : Nat} (h : 16000 < (jst (ls.take k)).2.length) : jourF ls = none := by
  unfold jourF
  rw [if_neg (fun h3 => by have := jst_mono ls k; omega)]
theorem jourF_yes {ls : List (List UInt8)} (h : ∀ l ∈ ls, (10 : UInt8) ∉ l) (h2 : (jst ls).2.length ≤ 16000) : jourF ls = some (jst ls).2 := by
  unfold jourF
  rw [if_pos ⟨h, h2⟩]
end Go.Proofs.YtiimhpopcgiejaaDoor
