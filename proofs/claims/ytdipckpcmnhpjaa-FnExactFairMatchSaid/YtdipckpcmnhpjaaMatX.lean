/-
  A struct that a call boxes first: what is known of the box, world by world.
-/
import Derived.Test.YtdipckpcmnhpjaaMatR2
namespace Go.Proofs.Ytdipckpcmnhpjaa
set_option linter.unusedVariables false
set_option linter.unusedSimpArgs false
open Go.RowKit

/-- The box made first still holds what it held, and all that was there before is as it was. -/
def Bx (w w' : World) (cs : List Value) (t : TypeId) : Prop := Below w.heap.size w w' ∧ Blk w' w.heap.size cs t
section
variable {w w1 w2 : World} {cs : List Value} {t : TypeId}
theorem Bx.start (w : World) (cs : List Value) (t : TypeId) : Bx w (w.alloc (.cells cs.toArray t)) cs t := ⟨bl1 _ _, Blk.new w cs t⟩
theorem Bx.lt (h : Bx w w1 cs t) : w.heap.size + 1 ≤ w1.heap.size := h.2.lt
theorem Bx.next (h : Bx w w1 cs t) (hb : Below w1.heap.size w1 w2) : Bx w w2 cs t := ⟨below_then h.1 hb, h.2.same hb⟩
theorem Bx.far {C : Nat} (h : Bx w w1 cs t) (hb : Below C w1 w2) (hC : w.heap.size + 1 ≤ C) : Bx w w2 cs t := ⟨h.1.trans (hb.mono (by omega)), h.2.below hb (by omega)⟩
theorem Bx.drewN (h : Bx w w1 cs t) (n : Nat) : Bx w (w1.drewN n) cs t := ⟨below_drewN h.1 n, h.2⟩
theorem Bx.drew (h : Bx w w1 cs t) : Bx w w1.drew cs t := ⟨below_drew' h.1, h.2⟩
theorem Bx.two {v0 v1 : Value} (h : Bx w w1 [v0, v1] t) : w1.cell? ⟨w.heap.size, 0, none⟩ = some v0 ∧ w1.cell? ⟨w.heap.size, 1, none⟩ = some v1 := ⟨h.2.cell 0, h.2.cell 1⟩
end
/-- What appending to a row of one's own leaves below the row. -/
theorem below_row {wr w' : World} {base e n : Nat} {v : Value} {xs : List Value} (ho : wr.ownsRow base e 1 v n xs) (hg : wr.grownBy w' v.ownBlock) (hB : base ≤ wr.heap.size) : Below base wr w' :=
  below_append (Below.refl base wr) ho hg (Nat.le_refl _) hB
theorem take_snoc {xs : List Int} {k : Nat} {x : Int} (h : xs[k]? = some x) : ints (xs.take (k + 1)) = ints (xs.take k) ++ [.int .i64 x] := by
  rw [List.take_add_one, h, Option.toList_some, ints_append]; rfl
/-- An answer of two: a list and whether it is one, or nothing. -/
def RetB (T : Nat) (w : World) (r : Option (List Int × Bool)) (e : Ending) (w' : World) : Prop :=
  Below w.heap.size w w' ∧ match r with
    | none => e = .returned (.tuple #[.slice none 0 0, .bool false])
    | some (ys, b) => ∃ a c, e = .returned (.tuple #[.slice a ys.length c, .bool b]) ∧ w'.ownsRow w.heap.size T 1 (.slice a ys.length c) ys.length (ints ys)
end Go.Proofs.Ytdipckpcmnhpjaa
