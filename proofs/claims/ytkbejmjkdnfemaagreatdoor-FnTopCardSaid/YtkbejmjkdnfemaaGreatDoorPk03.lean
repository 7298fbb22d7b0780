/-
  Part 3 of what the proof stands on: lemmas and contracts, each with its conditions ahead of the colon.
-/
import Derived.BigQuiet
import Derived.Test.YtkbejmjkdnfemaaGreatDoorPk01
import Derived.Test.YtkbejmjkdnfemaaGreatDoorPk02
namespace Go.Proofs.YtkbejmjkdnfemaaGreatDoor
set_option linter.unusedVariables false
set_option linter.unusedSimpArgs false
open Go.RowKit

def RdGame (w : World) (B : Nat) (a2 : Option Addr) (x2 : List Int) (a3 : Option Addr) (x3 : List Int) : Prop := Rd w B a2 (ints x2) ∧ Rd w B a3 (ints x3)
def OwnGame (w : World) (lo hi : Nat) (a2 : Option Addr) (c2 : Nat) (x2 : List Int) (a3 : Option Addr) (c3 : Nat) (x3 : List Int) : Prop :=
  ∃ m3 : Nat, (lo ≤ m3 ∧ m3 ≤ hi) ∧ OwnI 2 w lo m3 a2 c2 x2 ∧ OwnI 2 w m3 hi a3 c3 x3
section
variable {w w' : World} {B C lo hi : Nat} {a2 : Option Addr} {x2 : List Int} {a3 : Option Addr} {x3 : List Int} {c2 : Nat} {c3 : Nat}
theorem RdGame.below (h : RdGame w B a2 x2 a3 x3) (hb : Below C w w') (hB : B ≤ C) : RdGame w' B a2 x2 a3 x3 := ⟨Rd.below (h.1) hb hB, Rd.below (h.2) hb hB⟩
theorem RdGame.mono (h : RdGame w B a2 x2 a3 x3) (hB : B ≤ C) : RdGame w C a2 x2 a3 x3 := ⟨Rd.mono (h.1) hB, Rd.mono (h.2) hB⟩
theorem RdGame.to (h : RdGame w w.heap.size a2 x2 a3 x3) (hb : Below w.heap.size w w') : RdGame w' w'.heap.size a2 x2 a3 x3 := (h.below hb (Nat.le_refl _)).mono hb.size
theorem RdGame.touch (h : RdGame w B a2 x2 a3 x3) (ht : Touch w w' lo hi) (hB : B ≤ lo) (hs : B ≤ w.heap.size) : RdGame w' B a2 x2 a3 x3 := ⟨Rd.touch (h.1) ht hB hs, Rd.touch (h.2) ht hB hs⟩
theorem OwnGame.rd (h : OwnGame w lo hi a2 c2 x2 a3 c3 x3) : RdGame w hi a2 x2 a3 x3 := by
  obtain ⟨m3, hm, o2, o3⟩ := h
  exact ⟨o2.rd.mono (by omega), o3.rd.mono (by omega)⟩
theorem OwnGame.keep (h : OwnGame w lo hi a2 c2 x2 a3 c3 x3) (hb : Below w.heap.size w w') : OwnGame w' lo hi a2 c2 x2 a3 c3 x3 := by
  obtain ⟨m3, hm, o2, o3⟩ := h
  exact ⟨m3, hm, o2.keep hb, o3.keep hb⟩
theorem OwnGame.touch {lo' hi' : Nat} (h : OwnGame w lo hi a2 c2 x2 a3 c3 x3) (ht : Touch w w' lo' hi') (hd : hi ≤ lo' ∨ hi' ≤ lo) : OwnGame w' lo hi a2 c2 x2 a3 c3 x3 := by
  obtain ⟨m3, hm, o2, o3⟩ := h
  exact ⟨m3, hm, o2.touch ht (by omega), o3.touch ht (by omega)⟩
end
end Go.Proofs.YtkbejmjkdnfemaaGreatDoor
namespace Go.Proofs.YtkbejmjkdnfemaaGreatDoor
set_option linter.unusedVariables false
set_option linter.unusedSimpArgs false
open Go.RowKit

def RdValues (w : World) (B : Nat) (a2 : Option Addr) (x2 : List Int) : Prop := Rd w B a2 (ints x2)
def OwnValues (w : World) (lo hi : Nat) (a2 : Option Addr) (c2 : Nat) (x2 : List Int) : Prop :=
  lo ≤ hi ∧ OwnI 2 w lo hi a2 c2 x2
section
variable {w w' : World} {B C lo hi : Nat} {a2 : Option Addr} {x2 : List Int} {c2 : Nat}
theorem RdValues.below (h : RdValues w B a2 x2) (hb : Below C w w') (hB : B ≤ C) : RdValues w' B a2 x2 := Rd.below (h) hb hB
theorem RdValues.mono (h : RdValues w B a2 x2) (hB : B ≤ C) : RdValues w C a2 x2 := Rd.mono (h) hB
theorem RdValues.to (h : RdValues w w.heap.size a2 x2) (hb : Below w.heap.size w w') : RdValues w' w'.heap.size a2 x2 := (h.below hb (Nat.le_refl _)).mono hb.size
theorem RdValues.touch (h : RdValues w B a2 x2) (ht : Touch w w' lo hi) (hB : B ≤ lo) (hs : B ≤ w.heap.size) : RdValues w' B a2 x2 := Rd.touch (h) ht hB hs
theorem OwnValues.rd (h : OwnValues w lo hi a2 c2 x2) : RdValues w hi a2 x2 := by
  obtain ⟨hm, o2⟩ := h
  exact o2.rd.mono (by omega)
theorem OwnValues.keep (h : OwnValues w lo hi a2 c2 x2) (hb : Below w.heap.size w w') : OwnValues w' lo hi a2 c2 x2 := by
  obtain ⟨hm, o2⟩ := h
  exact ⟨hm, o2.keep hb⟩
theorem OwnValues.touch {lo' hi' : Nat} (h : OwnValues w lo hi a2 c2 x2) (ht : Touch w w' lo' hi') (hd : hi ≤ lo' ∨ hi' ≤ lo) : OwnValues w' lo hi a2 c2 x2 := by
  obtain ⟨hm, o2⟩ := h
  exact ⟨hm, o2.touch ht (by omega)⟩
end
end Go.Proofs.YtkbejmjkdnfemaaGreatDoor
namespace Go.Proofs.YtkbejmjkdnfemaaGreatDoor
set_option linter.unusedVariables false
set_option linter.unusedSimpArgs false
open Go.RowKit

/-- A world in which all that was there in w is as it was. -/
structure Later (w : World) where
  w' : World
  h : Below w.heap.size w w'
instance (w : World) : Nonempty (Later w) := ⟨⟨w, Below.refl _ w⟩⟩
section
variable {P : Program} {w : World}
theorem Later.cell (n : Later w) {p : Addr} {v : Value} (hp : p.block < w.heap.size) (hc : w.cell? p = some v) : n.w'.cell? p = some v := (n.h.cell (p := p) hp).trans hc
theorem later_of {f : FuncId} {args : Array Value} {n : Later w} {v : Value} (h : Calls P f args n.w' fun e w' => e = .returned v ∧ Below n.w'.heap.size n.w' w') :
    Calls P f args n.w' fun e w'' => e = .returned v ∧ ∃ m : Later w, w'' = m.w' := h.mono fun _ w'' ⟨h1, h2⟩ => ⟨h1, ⟨w'', below_then n.h h2⟩, rfl⟩
theorem wp_region_later {id : Nat} {Q : Exit → Act → World → Prop} {a : Act} {l : List Oper} (hm : P.follows .mixedOrders = true) (hB : Region.lexB .any l.toArray = true)
    (h : wpQuiet P l.toArray (fun w' => ∃ n : Later w, w' = n.w') (fun a' => ∀ w', (∃ n : Later w, w' = n.w') → Q .normal a' w') l a) : (Code.region id l.toArray true).wp P Q a w :=
  wp_region_quiet (C := fun w' => ∃ n : Later w, w' = n.w') hm hB ⟨⟨w.drew, below_drew' (Below.refl _ w)⟩, rfl⟩ (by simpa using h)
end
end Go.Proofs.YtkbejmjkdnfemaaGreatDoor
