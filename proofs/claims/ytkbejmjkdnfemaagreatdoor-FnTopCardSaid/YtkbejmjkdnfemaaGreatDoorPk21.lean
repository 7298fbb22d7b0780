/-
  Part 21 of what the proof stands on: lemmas and contracts, each with its conditions ahead of the colon.
-/
import Derived.Test.YtkbejmjkdnfemaaGreatDoorPk20
namespace Go.Proofs.YtkbejmjkdnfemaaGreatDoor
set_option linter.unusedVariables false
set_option linter.unusedSimpArgs false
open Go.RowKit

def mostOf : Best → Int
  | none => 0
  | some p => p.2
def BestV (w : World) (base : Nat) : Best → Value → Prop
  | none, v => v = .slice none 0 0
  | some (l, _), v => 0 < l.length ∧ ∃ a c, v = .slice a l.length c ∧ w.ownsRow (base + 2) 2 1 (.slice a l.length c) l.length (ints l)
/-- What holds while choices are looked at, one after another. -/
structure ES (W : World) (base : Nat) (cs : List Value) (s : Best) (w : World) : Prop where
  cr : Blk w W.heap.size cs 30
  be : ∃ v, Blk w (W.heap.size + 1) [v] 24 ∧ BestV w base s v
  mo : Blk w (W.heap.size + 2) [.int .i64 (mostOf s)] 2
  bel : Below W.heap.size W w
section
variable {W : World} {base : Nat} {cs : List Value} {s : Best} {w w' : World}
theorem BestV.keep {v : Value} (h : BestV w base s v) {r : Option Nat} (hg : w.grownBy w' r) (hr : ∀ k, r = some k → k < base + 2) : BestV w' base s v := by
  cases s with
  | none => exact h
  | some p =>
    obtain ⟨l, m⟩ := p
    obtain ⟨h0, a, c, rfl, ho⟩ := h
    refine ⟨h0, a, c, rfl, ho.kept hg ?_⟩
    cases hb : (Value.slice a l.length c).ownBlock with
    | none => exact .inl rfl
    | some g =>
      refine .inr fun e => ?_
      have h1 := (ho.lt g hb).1
      have h2 := hr g e.symm
      omega
theorem ES.keep (h : ES W base cs s w) (hb : Below w.heap.size w w') : ES W base cs s w' := by
  obtain ⟨v, hv, hbv⟩ := h.be
  exact ⟨h.cr.same hb, ⟨v, hv.same hb, hbv.keep (below_grownBy hb none) (fun k hk => by cases hk)⟩, h.mo.same hb, h.bel.trans (hb.mono h.bel.size)⟩
theorem ES.frame (h : ES W base cs s w) (hg : w.grownBy w' (some (base + 1))) (hb : W.heap.size + 3 ≤ base) : ES W base cs s w' := by
  obtain ⟨v, hv, hbv⟩ := h.be
  exact ⟨h.cr.grown hg (by intro e; injection e; omega), ⟨v, hv.grown hg (by intro e; injection e; omega), hbv.keep hg (fun k hk => by injection hk; omega)⟩, h.mo.grown hg (by intro e; injection e; omega), h.bel.grown hg h.bel.size (fun q hq => by injection hq with hq; omega)⟩
theorem ES.store (h : ES W base cs s w) (hb : W.heap.size + 3 ≤ base) {a : Option Addr} {c : Nat} {l : List Int} (h0 : 0 < l.length) (ho : w.ownsRow (base + 2) 2 1 (.slice a l.length c) l.length (ints l)) (t : Int) :
    ES W base cs (some (l, t)) ((w.setCell ⟨W.heap.size + 1, 0, none⟩ (.slice a l.length c)).setCell ⟨W.heap.size + 2, 0, none⟩ (.int .i64 t)) := by
  obtain ⟨v, hv, hbv⟩ := h.be
  refine ⟨(h.cr.oth (by omega) _ _).oth (by omega) _ _, ⟨.slice a l.length c, (hv.set 0 _).oth (by omega) _ _, h0, a, c, rfl, ?_⟩, (h.mo.oth (g := W.heap.size + 1) (by omega) _ _).set 0 _, below_sto (below_sto h.bel (by omega) _ _) (by omega) _ _⟩
  have hne : ∀ q, q < base + 2 → some q ≠ (Value.slice a l.length c).ownBlock := fun q hq e => by
    have := (ho.lt q e.symm).1
    omega
  have k1 := ho.kept (setg_grown w (W.heap.size + 1) 0 (.slice a l.length c)) (.inr (fun e => hne _ (by omega) e.symm))
  exact k1.kept (setg_grown _ (W.heap.size + 2) 0 (.int .i64 t)) (.inr (fun e => hne _ (by omega) e.symm))
end
end Go.Proofs.YtkbejmjkdnfemaaGreatDoor
namespace Go.Proofs.YtkbejmjkdnfemaaGreatDoor
set_option linter.unusedVariables false
set_option linter.unusedSimpArgs false
open Go.RowKit

end Go.Proofs.YtkbejmjkdnfemaaGreatDoor
namespace Go.Proofs.YtkbejmjkdnfemaaGreatDoor
set_option linter.unusedVariables false
set_option linter.unusedSimpArgs false
open Go.RowKit

theorem ES.start {w w1 : World} {cs : List Value} (hb : Below (((w.alloc (.cells cs.toArray 30)).alloc (.cells #[.slice none 0 0] 24)).alloc (.cells #[.int .i64 0] 2)).heap.size (((w.alloc (.cells cs.toArray 30)).alloc (.cells #[.slice none 0 0] 24)).alloc (.cells #[.int .i64 0] 2)) w1) :
    ES w w1.heap.size cs none w1 ∧ w.heap.size + 3 ≤ w1.heap.size := by
  have k0 := (((Blk.new w cs 30).alloc (.cells #[.slice none 0 0] 24)).alloc (.cells #[.int .i64 0] 2)).same hb
  have k1 := ((Blk.new (w.alloc (.cells cs.toArray 30)) [.slice none 0 0] 24).alloc (.cells #[.int .i64 0] 2)).same hb
  have k2 := (Blk.new ((w.alloc (.cells cs.toArray 30)).alloc (.cells #[.slice none 0 0] 24)) [.int .i64 0] 2).same hb
  simp at k1 k2
  refine ⟨⟨k0, ⟨_, k1, rfl⟩, k2, below_then (bl3 _ _ _ _) hb⟩, ?_⟩
  have := hb.size
  simp at this
  omega
end Go.Proofs.YtkbejmjkdnfemaaGreatDoor
namespace Go.Proofs.YtkbejmjkdnfemaaGreatDoor
set_option linter.unusedVariables false
set_option linter.unusedSimpArgs false
open Go.RowKit

end Go.Proofs.YtkbejmjkdnfemaaGreatDoor
