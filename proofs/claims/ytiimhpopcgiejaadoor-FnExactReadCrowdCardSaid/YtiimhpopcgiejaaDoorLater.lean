/-
  A region that draws its order, whose own operations only read, and whose callees read or make memory of their own: one walk, in the order of the text.
-/
import Derived.Test.YtiimhpopcgiejaaDoorLib
import Derived.BigQuiet
namespace Go.Proofs.YtiimhpopcgiejaaDoor
set_option linter.unusedVariables false
set_option linter.unusedSimpArgs false
open Go.RowKit

/-- A world in which all that was there in w is as it was. -/
structure Later (w : World) where
  w' : World
  h : Below w.heap.size w w'
instance (w : World) : Nonempty (Later w) := ⟨⟨w, Below.refl _ w⟩⟩
section
variable {P : Program} {w : World}
theorem Later.cell (n : Later w) {p : Addr} {v : Value} (hp : p.block < w.heap.size) (hc : w.cell? p = some v) : n.w'.cell? p = some v := (n.h.cell (p := p) hp).trans hc
theorem later_of {f : FuncId} {args : Array Value} {n : Later w} {v : Value} (h : Calls P f args n.w' fun e w' => e = .returned v ∧ Below n.w'.heap.size n.w' w') :
    Calls P f args n.w' fun e w'' => e = .returned v ∧ ∃ m : Later w, w'' = m.w' := h.mono fun _ w'' ⟨h1, h2⟩ => ⟨h1, ⟨w'', below_then n.h h2⟩, rfl⟩
theorem later_same {f : FuncId} {args : Array Value} {n : Later w} {v : Value} (h : Calls P f args n.w' fun e w' => e = .returned v ∧ n.w' = w') :
    Calls P f args n.w' fun e w'' => e = .returned v ∧ ∃ m : Later w, w'' = m.w' := h.mono fun _ w'' ⟨h1, h2⟩ => ⟨h1, n, h2.symm⟩
theorem later_drew {f : FuncId} {args : Array Value} {n : Later w} {v : Value} (h : Calls P f args n.w' fun e w' => e = .returned v ∧ ∃ k, w' = n.w'.drewN k) :
    Calls P f args n.w' fun e w'' => e = .returned v ∧ ∃ m : Later w, w'' = m.w' := h.mono fun _ w'' ⟨h1, k, h2⟩ => ⟨h1, ⟨w'', by rw [h2]; exact below_drewN n.h k⟩, rfl⟩
theorem wp_region_later {id : Nat} {Q : Exit → Act → World → Prop} {a : Act} {l : List Oper} (hm : P.follows .mixedOrders = true) (hB : Region.lexB .any l.toArray = true)
    (h : wpQuiet P l.toArray (fun w' => ∃ n : Later w, w' = n.w') (fun a' => ∀ w', (∃ n : Later w, w' = n.w') → Q .normal a' w') l a) : (Code.region id l.toArray true).wp P Q a w :=
  wp_region_quiet (C := fun w' => ∃ n : Later w, w' = n.w') hm hB ⟨⟨w.drew, below_drew' (Below.refl _ w)⟩, rfl⟩ (by simpa using h)
end
end Go.Proofs.YtiimhpopcgiejaaDoor
