/-
  Values: what the law's helpers on it compute.
-/
import Derived.Test.YteclpcmbicjjgaaLawInts
import Derived.Test.YteclpcmbicjjgaaStructOpen
namespace Go.Proofs.Yteclpcmbicjjgaa
set_option linter.unusedVariables false
set_option linter.unusedSimpArgs false
open Go.RowKit

def RdValues (w : World) (B : Nat) (a2 : Option Addr) (x2 : List Int) : Prop := Rd w B a2 (ints x2)
def OwnValues (w : World) (lo hi : Nat) (a2 : Option Addr) (c2 : Nat) (x2 : List Int) : Prop :=
  lo ≤ hi ∧ OwnI 2 w lo hi a2 c2 x2
section
variable {w w' : World} {B C lo hi : Nat} {a2 : Option Addr} {x2 : List Int} {c2 : Nat}
theorem RdValues.below (h : RdValues w B a2 x2) (hb : Below C w w') (hB : B ≤ C) : RdValues w' B a2 x2 := Rd.below (h) hb hB
theorem RdValues.mono (h : RdValues w B a2 x2) (hB : B ≤ C) : RdValues w C a2 x2 := Rd.mono (h) hB
theorem RdValues.to (h : RdValues w w.heap.size a2 x2) (hb : Below w.heap.size w w') : RdValues w' w'.heap.size a2 x2 := (h.below hb (Nat.le_refl _)).mono hb.size
theorem RdValues.touch (h : RdValues w B a2 x2) (ht : Touch w w' lo hi) (hB : B ≤ lo) (hs : B ≤ w.heap.size) : RdValues w' B a2 x2 := Rd.touch (h) ht hB hs
theorem OwnValues.rd (h : OwnValues w lo hi a2 c2 x2) : RdValues w hi a2 x2 := by
  obtain ⟨hm, o2⟩ := h
  exact o2.rd.mono (by omega)
theorem OwnValues.keep (h : OwnValues w lo hi a2 c2 x2) (hb : Below w.heap.size w w') : OwnValues w' lo hi a2 c2 x2 := by
  obtain ⟨hm, o2⟩ := h
  exact ⟨hm, o2.keep hb⟩
theorem OwnValues.touch {lo' hi' : Nat} (h : OwnValues w lo hi a2 c2 x2) (ht : Touch w w' lo' hi') (hd : hi ≤ lo' ∨ hi' ≤ lo) : OwnValues w' lo hi a2 c2 x2 := by
  obtain ⟨hm, o2⟩ := h
  exact ⟨hm, o2.touch ht (by omega)⟩
theorem OwnValues.le (h : OwnValues w lo hi a2 c2 x2) : lo ≤ hi := by
  obtain ⟨hm, o2⟩ := h
  omega
end
end Go.Proofs.Yteclpcmbicjjgaa
