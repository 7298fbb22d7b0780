/-
  The desk at the beginning: both roads.
-/
import Derived.Test.YtdmeegfdmdbkiaaGameT
import Derived.Test.YtdmeegfdmdbkiaaValuesT
import Derived.Test.YtdmeegfdmdbkiaaCrowdT
import Derived.Test.YtdmeegfdmdbkiaaFlt
namespace Go.Proofs.Ytdmeegfdmdbkiaa
set_option linter.unusedVariables false
set_option linter.unusedSimpArgs false
open Go.RowKit

theorem blk_new (w : World) (cs : List Value) (t : TypeId) (g : Nat) (h : g = w.heap.size) : Blk (w.alloc (.cells cs.toArray t)) g cs t := by subst h; exact Blk.new w cs t
def gA : List Int := [3, 0, 5, 1]
def gB : List Int := [3, 5, 0, 1]
def vW : List Int := [5, 3, 5, 4]
def cW : List Int := [1, 2]
def cC : List Int := [1, 2, 1, 2]
def tT : List Nat := [0, 1048576000]
/-- The cells of a desk. -/
def deskC (g1 g2 g3 g4 g5 g6 : Nat) : List Value := [.int .i64 2, .int .i64 2, .slice (some ⟨g1, 0, none⟩) 4 4, .slice (some ⟨g2, 0, none⟩) 4 4, .int .i64 2, .int .i64 2, .slice (some ⟨g3, 0, none⟩) 4 4, .int .i64 2, .int .i64 2, .slice (some ⟨g4, 0, none⟩) 2 2, .slice (some ⟨g5, 0, none⟩) 4 4, .slice (some ⟨g6, 0, none⟩) 2 2]
structure Dsk (w : World) (lo g1 g2 g3 g4 g5 g6 : Nat) (A B V W C : List Int) (T : List Nat) : Prop where
  l1 : lo ≤ g1
  l2 : g1 < g2
  l3 : g2 < g3
  l4 : g3 < g4
  l5 : g4 < g5
  l6 : g5 < g6
  l7 : g6 < w.heap.size
  b1 : Blk w g1 (ints A) 2
  b2 : Blk w g2 (ints B) 2
  b3 : Blk w g3 (ints V) 2
  b4 : Blk w g4 (ints W) 2
  b5 : Blk w g5 (ints C) 2
  b6 : Blk w g6 (flts T) 46
theorem Dsk.same {w w' : World} {lo g1 g2 g3 g4 g5 g6 : Nat} {A B V W C : List Int} {T : List Nat} (h : Dsk w lo g1 g2 g3 g4 g5 g6 A B V W C T) (hb : Below w.heap.size w w') : Dsk w' lo g1 g2 g3 g4 g5 g6 A B V W C T :=
  ⟨h.l1, h.l2, h.l3, h.l4, h.l5, h.l6, Nat.lt_of_lt_of_le h.l7 hb.size, h.b1.same hb, h.b2.same hb, h.b3.same hb, h.b4.same hb, h.b5.same hb, h.b6.same hb⟩
theorem Dsk.touch {w w' : World} {lo g1 g2 g3 g4 g5 g6 l h : Nat} {A B V W C : List Int} {T : List Nat} (d : Dsk w lo g1 g2 g3 g4 g5 g6 A B V W C T) (ht : Touch w w' l h) (hd : g6 < l ∨ h ≤ lo) : Dsk w' lo g1 g2 g3 g4 g5 g6 A B V W C T :=
  have := d.l1; have := d.l2; have := d.l3; have := d.l4; have := d.l5; have := d.l6
  ⟨d.l1, d.l2, d.l3, d.l4, d.l5, d.l6, Nat.lt_of_lt_of_le d.l7 ht.size, d.b1.touch ht (by omega), d.b2.touch ht (by omega), d.b3.touch ht (by omega), d.b4.touch ht (by omega), d.b5.touch ht (by omega), d.b6.touch ht (by omega)⟩
theorem cells12 {w : World} {g : Nat} {t : TypeId} {v0 v1 v2 v3 v4 v5 v6 v7 v8 v9 v10 v11 : Value} (h : Blk w g [v0, v1, v2, v3, v4, v5, v6, v7, v8, v9, v10, v11] t) :
    w.cell? ⟨g, 0, none⟩ = some v0 ∧ w.cell? ⟨g, 1, none⟩ = some v1 ∧ w.cell? ⟨g, 2, none⟩ = some v2 ∧ w.cell? ⟨g, 3, none⟩ = some v3 ∧ w.cell? ⟨g, 4, none⟩ = some v4 ∧ w.cell? ⟨g, 5, none⟩ = some v5 ∧ w.cell? ⟨g, 6, none⟩ = some v6 ∧ w.cell? ⟨g, 7, none⟩ = some v7 ∧ w.cell? ⟨g, 8, none⟩ = some v8 ∧ w.cell? ⟨g, 9, none⟩ = some v9 ∧ w.cell? ⟨g, 10, none⟩ = some v10 ∧ w.cell? ⟨g, 11, none⟩ = some v11 :=
  ⟨h.cell 0, h.cell 1, h.cell 2, h.cell 3, h.cell 4, h.cell 5, h.cell 6, h.cell 7, h.cell 8, h.cell 9, h.cell 10, h.cell 11⟩
set_option maxRecDepth 10000 in
theorem res_desk {w : World} {tmps : Array Value} {g g1 g2 g3 g4 g5 g6 : Nat} (h0 : tmps[0]?.getD undef = .pointer (some ⟨g, 0, none⟩)) (hb : Blk w g (deskC g1 g2 g3 g4 g5 g6) 31) : (results Try.f7 tmps).run Try.prog w = .ok (.agg (deskC g1 g2 g3 g4 g5 g6).toArray) w := by
  obtain ⟨z0, z1, z2, z3, z4, z5, z6, z7, z8, z9, z10, z11⟩ := cells12 hb
  simp [results, Try.results7, go_sem, h0, z0, z1, z2, z3, z4, z5, z6, z7, z8, z9, z10, z11, deskC]
set_option maxRecDepth 10000 in
set_option maxHeartbeats 4000000 in
theorem newDesk_any (w : World) :
    Calls Try.prog 7 #[] w fun e w' => ∃ g1 g2 g3 g4 g5 g6, e = .returned (.agg (deskC g1 g2 g3 g4 g5 g6).toArray) ∧ Dsk w' w.heap.size g1 g2 g3 g4 g5 g6 gA gB vW cW cC tT ∧ Below w.heap.size w w' := by
  go_enter Try.func7, Try.ntmps7
  go_wp2_with fail
  refine bodyPost_ret (res_desk (g := w.heap.size) (g1 := w.heap.size + 1) (g2 := w.heap.size + 1 + 1) (g3 := w.heap.size + 1 + 1 + 1) (g4 := w.heap.size + 1 + 1 + 1 + 1) (g5 := w.heap.size + 1 + 1 + 1 + 1 + 1) (g6 := w.heap.size + 1 + 1 + 1 + 1 + 1 + 1) (by simp) ?_) rfl ?_
  rotate_left
  refine ⟨w.heap.size + 1, w.heap.size + 1 + 1, w.heap.size + 1 + 1 + 1, w.heap.size + 1 + 1 + 1 + 1, w.heap.size + 1 + 1 + 1 + 1 + 1, w.heap.size + 1 + 1 + 1 + 1 + 1 + 1, rfl, ⟨by omega, by omega, by omega, by omega, by omega, by omega, by simp, ?_, ?_, ?_, ?_, ?_, ?_⟩, ?_⟩
  · exact (((((blk_new _ _ _ _ (by simp)).alloc _).alloc _).alloc _).alloc _).alloc _
  · exact ((((blk_new _ _ _ _ (by simp)).alloc _).alloc _).alloc _).alloc _
  · exact (((blk_new _ _ _ _ (by simp)).alloc _).alloc _).alloc _
  · exact ((blk_new _ _ _ _ (by simp)).alloc _).alloc _
  · exact (blk_new _ _ _ _ (by simp)).alloc _
  · exact blk_new _ _ _ _ (by simp)
  · exact ((((((bl1 w _).alloc (by simp) _).alloc (by simp; omega) _).alloc (by simp; omega) _).alloc (by simp; omega) _).alloc (by simp; omega) _).alloc (by simp; omega) _
  · exact ((((((blk_new _ _ _ _ rfl).alloc _).alloc _).alloc _).alloc _).alloc _).alloc _
set_option maxRecDepth 10000 in
theorem res_deskR {w : World} {tmps : Array Value} {g g1 g2 g3 g4 g5 g6 : Nat} (h0 : tmps[0]?.getD undef = .pointer (some ⟨g, 0, none⟩)) (hb : Blk w g (deskC g1 g2 g3 g4 g5 g6) 31) : (results Try.f6 tmps).run Try.prog w = .ok (.agg (deskC g1 g2 g3 g4 g5 g6).toArray) w := by
  obtain ⟨z0, z1, z2, z3, z4, z5, z6, z7, z8, z9, z10, z11⟩ := cells12 hb
  simp [results, Try.results6, go_sem, h0, z0, z1, z2, z3, z4, z5, z6, z7, z8, z9, z10, z11, deskC]
set_option maxRecDepth 10000 in
set_option maxHeartbeats 4000000 in
theorem newDeskR_any (w : World) :
    Calls Try.prog 6 #[] w fun e w' => ∃ g1 g2 g3 g4 g5 g6, e = .returned (.agg (deskC g1 g2 g3 g4 g5 g6).toArray) ∧ Dsk w' w.heap.size g1 g2 g3 g4 g5 g6 gA gB vW cW cC tT ∧ Below w.heap.size w w' := by
  go_enter Try.func6, Try.ntmps6
  go_wp2_with fail
  refine bodyPost_ret (res_deskR (g := w.heap.size) (g1 := w.heap.size + 1) (g2 := w.heap.size + 1 + 1) (g3 := w.heap.size + 1 + 1 + 1 + 1) (g4 := w.heap.size + 1 + 1 + 1 + 1 + 1) (g5 := w.heap.size + 1 + 1 + 1 + 1 + 1 + 1) (g6 := w.heap.size + 1 + 1 + 1 + 1 + 1 + 1 + 1) (by simp) ?_) rfl ?_
  rotate_left
  refine ⟨w.heap.size + 1, w.heap.size + 1 + 1, w.heap.size + 1 + 1 + 1 + 1, w.heap.size + 1 + 1 + 1 + 1 + 1, w.heap.size + 1 + 1 + 1 + 1 + 1 + 1, w.heap.size + 1 + 1 + 1 + 1 + 1 + 1 + 1, rfl, ⟨by omega, by omega, by omega, by omega, by omega, by omega, by simp, ?_, ?_, ?_, ?_, ?_, ?_⟩, ?_⟩
  · exact ((((((blk_new _ _ _ _ (by simp)).alloc _).alloc _).alloc _).alloc _).alloc _).alloc _
  · exact (((((blk_new _ _ _ _ (by simp)).alloc _).alloc _).alloc _).alloc _).alloc _
  · exact (((blk_new _ _ _ _ (by simp)).alloc _).alloc _).alloc _
  · exact ((blk_new _ _ _ _ (by simp)).alloc _).alloc _
  · exact (blk_new _ _ _ _ (by simp)).alloc _
  · exact blk_new _ _ _ _ (by simp)
  · exact (((((((bl1 w _).alloc (by simp) _).alloc (by simp; omega) _).alloc (by simp; omega) _).alloc (by simp; omega) _).alloc (by simp; omega) _).alloc (by simp; omega) _).alloc (by simp; omega) _
  · exact (((((((blk_new _ _ _ _ rfl).alloc _).alloc _).alloc _).alloc _).alloc _).alloc _).alloc _
end Go.Proofs.Ytdmeegfdmdbkiaa
