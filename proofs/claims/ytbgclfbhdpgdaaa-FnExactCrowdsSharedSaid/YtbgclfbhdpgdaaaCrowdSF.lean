/-
  A list of crowds that comes in, opened; what its size says.
-/
import Derived.Test.YtbgclfbhdpgdaaaCrowdSRR
namespace Go.Proofs.Ytbgclfbhdpgdaaa
set_option linter.unusedVariables false
set_option linter.unusedSimpArgs false
open Go.RowKit Go.ChangeShapes Go.WideShapes

theorem RdCs.touch {w w' : World} {B lo hi : Nat} {a : Option Addr} {cs : List Cr} (h : RdCs w B a cs) (ht : Touch w w' lo hi) (hB : B ≤ lo) (hs : B ≤ w.heap.size) : RdCs w' B a cs := by
  rcases h with h | ⟨b, o, ha, hbb, hk⟩
  · exact .inl h
  · refine .inr ⟨b, o, ha, hbb, fun k c hc => ?_⟩
    obtain ⟨a2, c2, a3, c3, h0, h1, h2, h3, h4⟩ := hk k c hc
    have hc' : ∀ r, w'.cell? ⟨b, r, none⟩ = w.cell? ⟨b, r, none⟩ := fun r => World.cell?_of_block (w := w) (ht.block b (by omega) (.inl (by omega)))
    exact ⟨a2, c2, a3, c3, by rw [hc']; exact h0, by rw [hc']; exact h1, by rw [hc']; exact h2, by rw [hc']; exact h3, h4.touch ht hB hs⟩
theorem szCsL_spec : ∀ {cs : List Cr} {l : Int}, 0 ≤ l → -1 ≤ szCsL l cs ∧ szCsL l cs ≤ l ∧ (0 ≤ szCsL l cs → ∀ c ∈ cs, (c.ways.length : Int) ≤ l ∧ (c.costs.length : Int) ≤ l)
  | [], l, h => by simp [szCsL]; omega
  | c :: cs, l, h => by
    obtain ⟨s0, s1, s2⟩ := szCrowdF_spec (left := l) (x2 := c.ways) (x3 := c.costs) h
    rw [szCsL]
    by_cases hn : szCrowdF l c.ways c.costs < 0
    · rw [if_pos hn]; exact ⟨by omega, by omega, fun h => by omega⟩
    · rw [if_neg hn]
      obtain ⟨t0, t1, t2⟩ := szCsL_spec (cs := cs) (l := szCrowdF l c.ways c.costs) (by omega)
      refine ⟨t0, by omega, fun h d hd => ?_⟩
      rcases List.mem_cons.1 hd with rfl | hd
      · have := s2 (by omega); omega
      · have := t2 h d hd; omega
theorem szCsF_spec {left : Int} {cs : List Cr} (h : 0 ≤ left) : -1 ≤ szCsF left cs ∧ szCsF left cs ≤ left ∧ (0 ≤ szCsF left cs → (cs.length : Int) ≤ left ∧ ∀ c ∈ cs, (c.ways.length : Int) ≤ left ∧ (c.costs.length : Int) ≤ left) := by
  unfold szCsF
  by_cases hn : left - cs.length < 0
  · rw [if_pos hn]; exact ⟨by omega, by omega, fun h => by omega⟩
  · rw [if_neg hn]
    obtain ⟨t0, t1, t2⟩ := szCsL_spec (cs := cs) (l := left - cs.length) (by omega)
    refine ⟨t0, by omega, fun h => ⟨by omega, fun c hc => ?_⟩⟩
    have := t2 h c hc
    omega
set_option maxRecDepth 100000 in
theorem open_CrowdS {H : Type} {enc : TypeId × Value → H} {w : World} {held : Bool} {a0 : Option Addr} {len cap : Nat} {d : DataW H} {ps : List MemPlace} (h : DataW.Trod enc Try.prog w 0 (fun _ => true) held 44 (.slice a0 len cap) d ps) :
    ∃ cs : List Cr, cs.length = len ∧ RdCs w w.heap.size a0 cs ∧ cs.length ≤ 9223372036854775807 ∧ ∀ c ∈ cs, c.ways.length ≤ 9223372036854775807 ∧ c.costs.length ≤ 9223372036854775807 := by
  obtain ⟨fuel, hf⟩ := h
  rcases Go.Deep.open_slice Try.underlying44 hf with ⟨hcs, _⟩ | ⟨x, l, c, m, n, D, Pl, hcs, _, hl, hm, hmm, _, hx⟩
  · simp [Value.cells] at hcs
    obtain ⟨rfl, rfl, rfl⟩ := hcs
    exact ⟨[], rfl, .inl rfl, by simp, by simp⟩
  · simp [Value.cells] at hcs
    obtain ⟨rfl, rfl, rfl⟩ := hcs
    have ce : (Try.prog).cellsOf 24 = 4 := by kernel_rfl
    simp only [if_true] at hmm
    subst hmm
    have each : ∀ i, i < len → ∃ (q : Cr) (a2 : Option Addr) (c2 : Nat) (a3 : Option Addr) (c3 : Nat), w.cell? ((x.add (i * 4)).add 0) = some (.int .i64 q.U) ∧ w.cell? ((x.add (i * 4)).add 1) = some (.int .i64 q.R) ∧ w.cell? ((x.add (i * 4)).add 2) = some (.slice a2 q.ways.length c2) ∧ w.cell? ((x.add (i * 4)).add 3) = some (.slice a3 q.costs.length c3) ∧ RdCrowd w w.heap.size a2 q.ways a3 q.costs ∧ q.ways.length ≤ 9223372036854775807 ∧ q.costs.length ≤ 9223372036854775807 := by
      intro i hi
      obtain ⟨cs', h1, h2⟩ := hx i (by omega)
      rw [ce] at h1
      obtain ⟨_, hlen, hcell⟩ := World.cells?_some h1
      obtain ⟨_, k, Y, hY⟩ := open_agg_fields Try.underlying24 (Go.Deep.hone_of (by kernel_rfl)) (by kernel_rfl) h2
      have e0 := hY 0 _ rfl
      have e1 := hY 1 _ rfl
      have e2 := hY 2 _ rfl
      have e3 := hY 3 _ rfl
      have g0 := hcell 0 (by omega)
      have g1 := hcell 1 (by omega)
      have g2 := hcell 2 (by omega)
      have g3 := hcell 3 (by omega)
      clear hY hcell h1 h2
      match cs', hlen, e0, e1, e2, e3, g0, g1, g2, g3 with
      | [v0, v1, v2, v3], _, e0, e1, e2, e3, g0, g1, g2, g3 =>
        obtain ⟨n0, rfl, b0⟩ := int_field Try.underlying2 (v := v0) e0
        obtain ⟨n1, rfl, b1⟩ := int_field Try.underlying2 (v := v1) e1
        obtain ⟨a2, c2, x2, rfl, r2, l2⟩ := ints_field Try.underlying22 Try.underlying2 (by kernel_rfl) (v := v2) e2
        obtain ⟨a3, c3, x3, rfl, r3, l3⟩ := ints_field Try.underlying22 Try.underlying2 (by kernel_rfl) (v := v3) e3
        exact ⟨⟨n0, n1, x2, x3⟩, a2, c2, a3, c3, by simpa using g0, by simpa using g1, by simpa using g2, by simpa using g3, ⟨r2, r3⟩, l2, l3⟩
    by_cases h0 : len = 0
    · subst h0; exact ⟨[], rfl, .inl rfl, by simp, by simp⟩
    · obtain ⟨q0, a2, c2, a3, c3, g0, _⟩ := each 0 (by omega)
      obtain ⟨b, o, s⟩ := x
      have hs : s = none := by
        cases s with
        | none => rfl
        | some s =>
          unfold World.cell? at g0
          split at g0 <;> simp [Addr.add] at *
      subst hs
      have ea : ∀ p r : Nat, ((⟨b, o, none⟩ : Addr).add p).add r = ⟨b, o + p + r, none⟩ := fun p r => by unfold Addr.add; split <;> split <;> simp_all <;> omega
      have hb : b < w.heap.size := by rw [ea] at g0; exact World.block_lt_of_cell? w _ g0
      have each2 : ∀ i, ∃ q : Cr, i < len → ∃ (a2 : Option Addr) (c2 : Nat) (a3 : Option Addr) (c3 : Nat), CrAt w w.heap.size b o q i a2 c2 a3 c3 ∧ q.ways.length ≤ 9223372036854775807 ∧ q.costs.length ≤ 9223372036854775807 := by
        intro i
        by_cases hi : i < len
        · obtain ⟨q, a2, c2, a3, c3, g0, g1, g2, g3, hr, l2, l3⟩ := each i hi
          rw [ea] at g0 g1 g2 g3
          exact ⟨q, fun _ => ⟨a2, c2, a3, c3, ⟨g0, g1, g2, g3, hr⟩, l2, l3⟩⟩
        · exact ⟨q0, fun h => absurd h hi⟩
      obtain ⟨f, hf2⟩ := Classical.axiomOfChoice each2
      refine ⟨(List.range len).map f, by simp, .inr ⟨b, o, rfl, hb, fun k c hk => ?_⟩, by unfold maxLen at hm; simp; omega, fun c hc => ?_⟩
      · have hkl : k < len := by have := (List.getElem?_eq_some_iff.1 hk).1; simpa using this
        simp [hkl] at hk
        subst hk
        obtain ⟨a2, c2, a3, c3, h1, _⟩ := hf2 k hkl
        exact ⟨a2, c2, a3, c3, h1⟩
      · obtain ⟨k, hk, rfl⟩ := List.mem_map.1 hc
        obtain ⟨a2, c2, a3, c3, _, h1⟩ := hf2 k (List.mem_range.1 hk)
        exact h1
end Go.Proofs.Ytbgclfbhdpgdaaa
