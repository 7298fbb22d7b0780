/-
  Crowd: what the law's helpers on it compute.
-/
import Derived.Test.YteclpcmbicjjgaaLawInts
import Derived.Test.YteclpcmbicjjgaaStructOpen
namespace Go.Proofs.Yteclpcmbicjjgaa
set_option linter.unusedVariables false
set_option linter.unusedSimpArgs false
open Go.RowKit

def RdCrowd (w : World) (B : Nat) (a2 : Option Addr) (x2 : List Int) (a3 : Option Addr) (x3 : List Int) : Prop := Rd w B a2 (ints x2) ∧ Rd w B a3 (ints x3)
def OwnCrowd (w : World) (lo hi : Nat) (a2 : Option Addr) (c2 : Nat) (x2 : List Int) (a3 : Option Addr) (c3 : Nat) (x3 : List Int) : Prop :=
  ∃ m3 : Nat, (lo ≤ m3 ∧ m3 ≤ hi) ∧ OwnI 2 w lo m3 a2 c2 x2 ∧ OwnI 2 w m3 hi a3 c3 x3
section
variable {w w' : World} {B C lo hi : Nat} {a2 : Option Addr} {x2 : List Int} {a3 : Option Addr} {x3 : List Int} {c2 : Nat} {c3 : Nat}
theorem RdCrowd.below (h : RdCrowd w B a2 x2 a3 x3) (hb : Below C w w') (hB : B ≤ C) : RdCrowd w' B a2 x2 a3 x3 := ⟨Rd.below (h.1) hb hB, Rd.below (h.2) hb hB⟩
theorem RdCrowd.mono (h : RdCrowd w B a2 x2 a3 x3) (hB : B ≤ C) : RdCrowd w C a2 x2 a3 x3 := ⟨Rd.mono (h.1) hB, Rd.mono (h.2) hB⟩
theorem RdCrowd.to (h : RdCrowd w w.heap.size a2 x2 a3 x3) (hb : Below w.heap.size w w') : RdCrowd w' w'.heap.size a2 x2 a3 x3 := (h.below hb (Nat.le_refl _)).mono hb.size
theorem RdCrowd.touch (h : RdCrowd w B a2 x2 a3 x3) (ht : Touch w w' lo hi) (hB : B ≤ lo) (hs : B ≤ w.heap.size) : RdCrowd w' B a2 x2 a3 x3 := ⟨Rd.touch (h.1) ht hB hs, Rd.touch (h.2) ht hB hs⟩
theorem OwnCrowd.rd (h : OwnCrowd w lo hi a2 c2 x2 a3 c3 x3) : RdCrowd w hi a2 x2 a3 x3 := by
  obtain ⟨m3, hm, o2, o3⟩ := h
  exact ⟨o2.rd.mono (by omega), o3.rd.mono (by omega)⟩
theorem OwnCrowd.keep (h : OwnCrowd w lo hi a2 c2 x2 a3 c3 x3) (hb : Below w.heap.size w w') : OwnCrowd w' lo hi a2 c2 x2 a3 c3 x3 := by
  obtain ⟨m3, hm, o2, o3⟩ := h
  exact ⟨m3, hm, o2.keep hb, o3.keep hb⟩
theorem OwnCrowd.touch {lo' hi' : Nat} (h : OwnCrowd w lo hi a2 c2 x2 a3 c3 x3) (ht : Touch w w' lo' hi') (hd : hi ≤ lo' ∨ hi' ≤ lo) : OwnCrowd w' lo hi a2 c2 x2 a3 c3 x3 := by
  obtain ⟨m3, hm, o2, o3⟩ := h
  exact ⟨m3, hm, o2.touch ht (by omega), o3.touch ht (by omega)⟩
theorem OwnCrowd.le (h : OwnCrowd w lo hi a2 c2 x2 a3 c3 x3) : lo ≤ hi := by
  obtain ⟨m3, hm, o2, o3⟩ := h
  omega
end
end Go.Proofs.Yteclpcmbicjjgaa
