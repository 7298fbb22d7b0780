/-
  An argument that is a list of strings, opened.
-/
import Derived.Test.YtiimhpopcgiejaaDoorStr
import Derived.Deep.Strs
import Derived.WideShapes
namespace Go.Proofs.YtiimhpopcgiejaaDoor
set_option linter.unusedVariables false
set_option linter.unusedSimpArgs false
open Go.RowKit Go.ChangeShapes Go.WideShapes

theorem open_strS {H : Type} {enc : TypeId × Value → H} {P : Program} {w : World} {r : Reach} {base : Nat} {t e : TypeId} {v : Value} {d : DataW H} {ps : List MemPlace} (ht : P.underlying t = some (.slice e)) (he : P.underlying e = some .string) (hc : P.cellsOf e = 1)
    (hv : Value.okWide P w r base t v) (h : DataW.Trod enc P w 0 (fun _ => true) true t v d ps) :
    ∃ (a : Option Addr) (c : Nat) (xs : List (List UInt8)), v = .slice a xs.length c ∧ Rd w w.heap.size a (strs xs) ∧ xs.length ≤ 9223372036854775807 ∧ ∀ y ∈ xs, y.length ≤ 9223372036854775807 := by
  obtain ⟨a, len, cap, rfl⟩ := okWide_slice ht hv
  obtain ⟨fuel, hf⟩ := h
  rcases Go.Deep.open_strs ht he hc hf with ⟨hcs, _⟩ | ⟨x, l, c, m, Sx, hcs, _, hl, hm, hmm, _, hcell⟩
  · simp [Value.cells] at hcs
    obtain ⟨rfl, rfl, rfl⟩ := hcs
    exact ⟨none, 0, [], rfl, .inl rfl, by simp, by simp⟩
  · simp [Value.cells] at hcs
    obtain ⟨rfl, rfl, rfl⟩ := hcs
    simp only [if_true] at hmm
    subst hmm
    have hlen : ((List.range len).map fun i => (Sx i).data.toList).length = len := by simp
    refine ⟨some x, _, (List.range len).map fun i => (Sx i).data.toList, by rw [hlen], ?_, (by rw [hlen]; unfold maxLen at hm; omega), ?_⟩
    · by_cases h0 : len = 0
      · subst h0; exact .inl rfl
      · have hx := (hcell 0 (by omega)).1
        have hx0 : x.add 0 = x := rfl
        rw [hx0] at hx
        obtain ⟨b, o, s⟩ := x
        have hs : s = none := by
          cases s with
          | none => rfl
          | some s =>
            unfold World.cell? at hx
            split at hx <;> simp at hx
        subst hs
        refine .inr ⟨b, o, rfl, World.block_lt_of_cell? w _ hx, fun j hj => ?_⟩
        rw [strs_length, hlen] at hj
        have hj2 := (hcell j (by omega)).1
        have ea : (⟨b, o, none⟩ : Addr).add j = ⟨b, o + j, none⟩ := by unfold Addr.add; split <;> simp_all
        rw [ea] at hj2
        rw [hj2, strs_get (l := (Sx j).data.toList) (by simp [hj]), bs_of]
    · intro y hy
      obtain ⟨i, hi, rfl⟩ := List.mem_map.1 hy
      have h1 := (hcell i (by have := List.mem_range.1 hi; omega)).2
      rw [Lib.size_eq] at h1
      unfold maxLen at h1
      omega
end Go.Proofs.YtiimhpopcgiejaaDoor
