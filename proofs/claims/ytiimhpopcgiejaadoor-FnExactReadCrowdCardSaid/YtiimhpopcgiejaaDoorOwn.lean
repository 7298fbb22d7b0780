/-
  What a call has made lies in a stretch of blocks of its own; writes to one stretch leave the others alone.
-/
import Derived.Test.YtiimhpopcgiejaaDoorLib
namespace Go.Proofs.YtiimhpopcgiejaaDoor
set_option linter.unusedVariables false
set_option linter.unusedSimpArgs false
open Go.RowKit

/-- Only blocks from lo to hi (hi not among them) may have turned; new ones may have come. -/
structure Touch (w w' : World) (lo hi : Nat) : Prop where
  os : w'.os = w.os
  tape : w'.tape = w.tape
  output : w'.output = w.output
  size : w.heap.size ≤ w'.heap.size
  block : ∀ k, k < w.heap.size → (k < lo ∨ hi ≤ k) → w'.heap[k]? = w.heap[k]?

theorem Touch.refl (w : World) (lo hi : Nat) : Touch w w lo hi := ⟨rfl, rfl, rfl, Nat.le_refl _, fun _ _ _ => rfl⟩
theorem Touch.of_grown {w w' : World} {g lo hi : Nat} (h : w.grownBy w' (some g)) (h1 : lo ≤ g) (h2 : g < hi) : Touch w w' lo hi :=
  ⟨h.os, h.tape, h.output, h.size, fun k hk hd => h.block k hk (by intro e; injection e; omega)⟩
theorem Touch.trans {a b c : World} {lo hi : Nat} (h : Touch a b lo hi) (k : Touch b c lo hi) : Touch a c lo hi :=
  ⟨k.os.trans h.os, k.tape.trans h.tape, k.output.trans h.output, Nat.le_trans h.size k.size, fun i hi hd => (k.block i (Nat.lt_of_lt_of_le hi h.size) hd).trans (h.block i hi hd)⟩
theorem Touch.mono {w w' : World} {lo hi lo' hi' : Nat} (h : Touch w w' lo hi) (h1 : lo' ≤ lo) (h2 : hi ≤ hi') : Touch w w' lo' hi' :=
  ⟨h.os, h.tape, h.output, h.size, fun k hk hd => h.block k hk (by omega)⟩
theorem Below.touch {w w' : World} (h : Below w.heap.size w w') (lo hi : Nat) : Touch w w' lo hi := ⟨h.os, h.tape, h.output, h.size, fun k hk _ => h.block k hk⟩
theorem below_touch {B lo hi : Nat} {w w1 w2 : World} (h : Below B w w1) (ht : Touch w1 w2 lo hi) (hB : B ≤ lo) (hB2 : B ≤ w1.heap.size) : Below B w w2 :=
  h.trans ⟨ht.os, ht.tape, ht.output, ht.size, fun k hk => ht.block k (by omega) (.inl (by omega))⟩

theorem Rd.touch {w w' : World} {lo hi B : Nat} {a : Option Addr} {vs : List Value} (h : Rd w B a vs) (ht : Touch w w' lo hi) (hB : B ≤ lo) (hs : B ≤ w.heap.size) : Rd w' B a vs := by
  rcases h with h | ⟨b, o, ha, hb, hc⟩
  · exact .inl h
  · exact .inr ⟨b, o, ha, hb, fun j hj => by rw [World.cell?_of_block (w := w) (ht.block b (by omega) (.inl (by omega)))]; exact hc j hj⟩
theorem Blk.touch {w w' : World} {lo hi b : Nat} {cs : List Value} {t : TypeId} (h : Blk w b cs t) (ht : Touch w w' lo hi) (hd : b < lo ∨ hi ≤ b) : Blk w' b cs t := (ht.block b h.lt hd).trans h

/-- A slice of integers that lies in a stretch of its own. -/
def OwnI (T : Nat) (w : World) (lo hi : Nat) (a : Option Addr) (c : Nat) (xs : List Int) : Prop :=
  w.ownsRow lo T 1 (.slice a xs.length c) xs.length (ints xs) ∧ ∀ b, a = some b → b.block < hi

section
variable {T lo hi c : Nat} {w w' : World} {a : Option Addr} {xs : List Int}
theorem OwnI.of_own (h : w.ownsRow lo T 1 (.slice a xs.length c) xs.length (ints xs)) : OwnI T w lo w.heap.size a c xs :=
  ⟨h, fun b hb => (h.lt b.block (by simp [Value.ownBlock, hb])).2⟩
theorem OwnI.of_blk {b : Nat} (h : Blk w b (ints xs) T) (hl : xs.length ≤ 1152921504606846976) : OwnI T w b (b + 1) (some ⟨b, 0, none⟩) xs.length xs :=
  ⟨by have := h.owns (Nat.le_refl b) (by rw [ints_length]; unfold maxLen; omega); rwa [ints_length] at this, fun _ hb => by injection hb with hb; subst hb; show b < b + 1; omega⟩
theorem OwnI.rd (h : OwnI T w lo hi a c xs) : Rd w hi a (ints xs) := by
  rcases rd_of_own h.1 (Nat.le_refl _) with h' | ⟨b, o, ha, hb, hc⟩
  · exact .inl h'
  · exact .inr ⟨b, o, ha, h.2 _ ha, hc⟩
theorem OwnI.cap (h : OwnI T w lo hi a c xs) : xs.length ≤ c := by
  obtain ⟨a', c', e, h2, _⟩ := own_shape h.1
  injection e with _ _ e
  omega
theorem OwnI.keep (h : OwnI T w lo hi a c xs) (hb : Below w.heap.size w w') : OwnI T w' lo hi a c xs := ⟨own_below h.1 hb, h.2⟩
theorem OwnI.touch {lo' hi' : Nat} (h : OwnI T w lo hi a c xs) (ht : Touch w w' lo' hi') (hd : hi ≤ lo' ∨ hi' ≤ lo) : OwnI T w' lo hi a c xs := by
  refine ⟨⟨h.1.1, ?_⟩, h.2⟩
  rcases h.1.2 with h2 | ⟨g, cap, cur, hv, hg, hh, r⟩
  · exact .inl h2
  · have h3 : g < hi := by
      injection hv with ha _ _
      exact h.2 _ ha
    refine .inr ⟨g, cap, cur, hv, hg, ?_, r⟩
    rw [ht.block g (lt_of_block hh) (by omega)]
    exact hh
theorem OwnI.mono {lo' hi' : Nat} (h : OwnI T w lo hi a c xs) (h1 : lo' ≤ lo) (h2 : hi ≤ hi') : OwnI T w lo' hi' a c xs :=
  ⟨own_base h.1 h1, fun b hb => Nat.lt_of_lt_of_le (h.2 b hb) h2⟩
end
end Go.Proofs.YtiimhpopcgiejaaDoor
