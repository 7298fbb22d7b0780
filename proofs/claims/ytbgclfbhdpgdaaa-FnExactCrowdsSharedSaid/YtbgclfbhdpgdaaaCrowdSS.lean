/-
  A list of crowds: what lies where.
-/
import Derived.Test.YtbgclfbhdpgdaaaCrowdT
import Derived.Test.YtbgclfbhdpgdaaaCrowdP
namespace Go.Proofs.Ytbgclfbhdpgdaaa
set_option linter.unusedVariables false
set_option linter.unusedSimpArgs false
open Go.RowKit

/-- What the k-th crowd of a list that begins at ⟨b, o⟩ shows. -/
def CrAt (w : World) (B b o : Nat) (c : Cr) (k : Nat) (a2 : Option Addr) (c2 : Nat) (a3 : Option Addr) (c3 : Nat) : Prop :=
  w.cell? ⟨b, o + k * 4, none⟩ = some (.int .i64 c.U) ∧ w.cell? ⟨b, o + k * 4 + 1, none⟩ = some (.int .i64 c.R) ∧ w.cell? ⟨b, o + k * 4 + 2, none⟩ = some (.slice a2 c.ways.length c2) ∧ w.cell? ⟨b, o + k * 4 + 3, none⟩ = some (.slice a3 c.costs.length c3) ∧ RdCrowd w B a2 c.ways a3 c.costs
def RdCs (w : World) (B : Nat) (a : Option Addr) (cs : List Cr) : Prop :=
  cs = [] ∨ ∃ b o, a = some ⟨b, o, none⟩ ∧ b < B ∧ ∀ k c, cs[k]? = some c → ∃ a2 c2 a3 c3, CrAt w B b o c k a2 c2 a3 c3
section
variable {w w' : World} {B C b o k a2n : Nat} {c : Cr} {a2 a3 a : Option Addr} {c2 c3 : Nat} {cs : List Cr}
theorem CrAt.below (h : CrAt w B b o c k a2 c2 a3 c3) (hb : Below C w w') (hB : B ≤ C) (hbb : b < B) : CrAt w' B b o c k a2 c2 a3 c3 :=
  ⟨(hb.cell (p := ⟨b, _, none⟩) (by simp only; omega)).trans h.1, (hb.cell (p := ⟨b, _, none⟩) (by simp only; omega)).trans h.2.1, (hb.cell (p := ⟨b, _, none⟩) (by simp only; omega)).trans h.2.2.1, (hb.cell (p := ⟨b, _, none⟩) (by simp only; omega)).trans h.2.2.2.1, h.2.2.2.2.below hb hB⟩
theorem CrAt.mono (h : CrAt w B b o c k a2 c2 a3 c3) (hB : B ≤ C) : CrAt w C b o c k a2 c2 a3 c3 := ⟨h.1, h.2.1, h.2.2.1, h.2.2.2.1, h.2.2.2.2.mono hB⟩
theorem RdCs.below (h : RdCs w B a cs) (hb : Below C w w') (hB : B ≤ C) : RdCs w' B a cs := by
  rcases h with h | ⟨b, o, ha, hbb, hk⟩
  · exact .inl h
  · refine .inr ⟨b, o, ha, hbb, fun k c hc => ?_⟩
    obtain ⟨a2, c2, a3, c3, h⟩ := hk k c hc
    exact ⟨a2, c2, a3, c3, h.below hb hB hbb⟩
theorem RdCs.mono (h : RdCs w B a cs) (hB : B ≤ C) : RdCs w C a cs := by
  rcases h with h | ⟨b, o, ha, hbb, hk⟩
  · exact .inl h
  · refine .inr ⟨b, o, ha, by omega, fun k c hc => ?_⟩
    obtain ⟨a2, c2, a3, c3, h⟩ := hk k c hc
    exact ⟨a2, c2, a3, c3, h.mono hB⟩
theorem RdCs.to (h : RdCs w w.heap.size a cs) (hb : Below w.heap.size w w') : RdCs w' w'.heap.size a cs := (h.below hb (Nat.le_refl _)).mono hb.size
theorem RdCs.get (h : RdCs w B a cs) {k : Nat} {c : Cr} (hk : cs[k]? = some c) : ∃ b o a2 c2 a3 c3, a = some ⟨b, o, none⟩ ∧ b < B ∧ CrAt w B b o c k a2 c2 a3 c3 := by
  rcases h with h | ⟨b, o, ha, hbb, hh⟩
  · subst h; simp at hk
  · obtain ⟨a2, c2, a3, c3, h⟩ := hh k c hk
    exact ⟨b, o, a2, c2, a3, c3, ha, hbb, h⟩
end
end Go.Proofs.Ytbgclfbhdpgdaaa
