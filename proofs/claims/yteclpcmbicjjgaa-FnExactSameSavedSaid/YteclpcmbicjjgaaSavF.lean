/-
  A list of saved games that comes in, opened.
-/
import Derived.Test.YteclpcmbicjjgaaSavO
namespace Go.Proofs.Yteclpcmbicjjgaa
set_option linter.unusedVariables false
set_option linter.unusedSimpArgs false
open Go.RowKit Go.ChangeShapes Go.WideShapes

set_option maxRecDepth 100000 in
set_option maxHeartbeats 2000000 in
theorem open_SavedS {H : Type} {enc : TypeId × Value → H} {w : World} {held : Bool} {a0 : Option Addr} {len cap : Nat} {d : DataW H} {ps : List MemPlace} (h : DataW.Trod enc Try.prog w 0 (fun _ => true) held 38 (.slice a0 len cap) d ps) :
    ∃ vs : List Sv, vs.length = len ∧ RdSs w w.heap.size a0 vs ∧ vs.length ≤ 9223372036854775807 ∧ ∀ v ∈ vs, SvIn 9223372036854775807 v := by
  obtain ⟨fuel, hf⟩ := h
  rcases Go.Deep.open_slice Try.underlying38 hf with ⟨hcs, _⟩ | ⟨x, l, c, m, n, D, Pl, hcs, _, hl, hm, hmm, _, hx⟩
  · simp [Value.cells] at hcs
    obtain ⟨rfl, rfl, rfl⟩ := hcs
    exact ⟨[], rfl, .inl rfl, by simp, by simp⟩
  · simp [Value.cells] at hcs
    obtain ⟨rfl, rfl, rfl⟩ := hcs
    have ce : (Try.prog).cellsOf 28 = 7 := by kernel_rfl
    simp only [if_true] at hmm
    subst hmm
    have each : ∀ i, i < len → ∃ (q : Sv) (aA : Option Addr) (cA : Nat) (aB : Option Addr) (cB : Nat) (aW : Option Addr) (cW : Nat), w.cell? ((x.add (i * 7)).add 0) = some (.string q.s) ∧ w.cell? ((x.add (i * 7)).add 1) = some (.int .i64 q.R) ∧ w.cell? ((x.add (i * 7)).add 2) = some (.int .i64 q.C) ∧ w.cell? ((x.add (i * 7)).add 3) = some (.slice aA q.A.length cA) ∧ w.cell? ((x.add (i * 7)).add 4) = some (.slice aB q.B.length cB) ∧ w.cell? ((x.add (i * 7)).add 5) = some (.int .i64 q.P) ∧ w.cell? ((x.add (i * 7)).add 6) = some (.slice aW q.W.length cW) ∧ RdSaved w w.heap.size aA q.A aB q.B aW q.W ∧ SvIn 9223372036854775807 q := by
      intro i hi
      obtain ⟨cs', h1, h2⟩ := hx i (by omega)
      rw [ce] at h1
      obtain ⟨_, hlen, hcell⟩ := World.cells?_some h1
      obtain ⟨s, R, C, P, aA, cA, xA, aB, cB, xB, aW, cW, xW, hl', hr, hb⟩ := open_saved_cells h2
      subst hl'
      have g0 := hcell 0 (by omega)
      have g1 := hcell 1 (by omega)
      have g2 := hcell 2 (by omega)
      have g3 := hcell 3 (by omega)
      have g4 := hcell 4 (by omega)
      have g5 := hcell 5 (by omega)
      have g6 := hcell 6 (by omega)
      exact ⟨⟨s, R, C, xA, xB, P, xW⟩, aA, cA, aB, cB, aW, cW, by simpa using g0, by simpa using g1, by simpa using g2, by simpa using g3, by simpa using g4, by simpa using g5, by simpa using g6, hr, hb⟩
    by_cases h0 : len = 0
    · subst h0; exact ⟨[], rfl, .inl rfl, by simp, by simp⟩
    · obtain ⟨q0, aA, cA, aB, cB, aW, cW, g0, _⟩ := each 0 (by omega)
      obtain ⟨b, o, s⟩ := x
      have hs : s = none := by
        cases s with
        | none => rfl
        | some s =>
          unfold World.cell? at g0
          split at g0 <;> simp [Addr.add] at *
      subst hs
      have ea : ∀ p r : Nat, ((⟨b, o, none⟩ : Addr).add p).add r = ⟨b, o + p + r, none⟩ := fun p r => by unfold Addr.add; split <;> split <;> simp_all <;> omega
      have hb : b < w.heap.size := by rw [ea] at g0; exact World.block_lt_of_cell? w _ g0
      have each2 : ∀ i, ∃ q : Sv, i < len → ∃ (aA : Option Addr) (cA : Nat) (aB : Option Addr) (cB : Nat) (aW : Option Addr) (cW : Nat), SvAt w w.heap.size b o q i aA cA aB cB aW cW ∧ SvIn 9223372036854775807 q := by
        intro i
        by_cases hi : i < len
        · obtain ⟨q, aA, cA, aB, cB, aW, cW, g0, g1, g2, g3, g4, g5, g6, hr, hq⟩ := each i hi
          rw [ea] at g0 g1 g2 g3 g4 g5 g6
          exact ⟨q, fun _ => ⟨aA, cA, aB, cB, aW, cW, ⟨g0, g1, g2, g3, g4, g5, g6, hr⟩, hq⟩⟩
        · exact ⟨q0, fun h => absurd h hi⟩
      obtain ⟨f, hf2⟩ := Classical.axiomOfChoice each2
      refine ⟨(List.range len).map f, by simp, .inr ⟨b, o, rfl, hb, fun k c hk => ?_⟩, by unfold maxLen at hm; simp; omega, fun c hc => ?_⟩
      · have hkl : k < len := by have := (List.getElem?_eq_some_iff.1 hk).1; simpa using this
        simp [hkl] at hk
        subst hk
        obtain ⟨aA, cA, aB, cB, aW, cW, h1, _⟩ := hf2 k hkl
        exact ⟨aA, cA, aB, cB, aW, cW, h1⟩
      · obtain ⟨k, hk, rfl⟩ := List.mem_map.1 hc
        obtain ⟨aA, cA, aB, cB, aW, cW, _, h1⟩ := hf2 k (List.mem_range.1 hk)
        exact h1
end Go.Proofs.Yteclpcmbicjjgaa
