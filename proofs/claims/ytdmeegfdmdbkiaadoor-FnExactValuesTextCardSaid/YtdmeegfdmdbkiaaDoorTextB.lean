/-
  Lists in a slice, and their texts in one: what both roads of a text share.
-/
import Derived.Test.YtdmeegfdmdbkiaaDoorTextI
import Derived.Test.YtdmeegfdmdbkiaaDoorTextR
namespace Go.Proofs.YtdmeegfdmdbkiaaDoor
set_option linter.unusedVariables false
set_option linter.unusedSimpArgs false
open Go.RowKit

theorem blk_rd {w : World} {g : Nat} {vs : List Value} {t : TypeId} (h : Blk w g vs t) : Rd w w.heap.size (some ⟨g, 0, none⟩) vs := .inr ⟨g, 0, rfl, h.lt, fun j _ => by rw [Nat.zero_add]; exact h.cell j⟩
theorem rdP3 {w : World} {g g1 c2 c3 : Nat} {p q : Int} {a2 a3 : Option Addr} {x2 x3 : List Int} {t t1 : TypeId} (hB : Blk w g [.slice (some ⟨g1, 0, none⟩) 2 2, .slice a2 x2.length c2, .slice a3 x3.length c3] t) (h1 : Blk w g1 [.int .i64 p, .int .i64 q] t1) (h2 : Rd w w.heap.size a2 (ints x2)) (h3 : Rd w w.heap.size a3 (ints x3)) : RdP w w.heap.size (some ⟨g, 0, none⟩) [[p, q], x2, x3] := by
  refine ⟨_, rfl, blk_rd hB, fun k ys hk => ?_⟩
  match k, hk with
  | 0, hk => injection hk with hk; subst hk; exact ⟨_, _, rfl, blk_rd h1⟩
  | 1, hk => injection hk with hk; subst hk; exact ⟨_, _, rfl, h2⟩
  | 2, hk => injection hk with hk; subst hk; exact ⟨_, _, rfl, h3⟩
theorem rdP2 {w : World} {g g1 c2 : Nat} {p q : Int} {a2 : Option Addr} {x2 : List Int} {t t1 : TypeId} (hB : Blk w g [.slice (some ⟨g1, 0, none⟩) 2 2, .slice a2 x2.length c2] t) (h1 : Blk w g1 [.int .i64 p, .int .i64 q] t1) (h2 : Rd w w.heap.size a2 (ints x2)) : RdP w w.heap.size (some ⟨g, 0, none⟩) [[p, q], x2] := by
  refine ⟨_, rfl, blk_rd hB, fun k ys hk => ?_⟩
  match k, hk with
  | 0, hk => injection hk with hk; subst hk; exact ⟨_, _, rfl, blk_rd h1⟩
  | 1, hk => injection hk with hk; subst hk; exact ⟨_, _, rfl, h2⟩
theorem alloc2 (w : World) (u v : List Value) (t s : TypeId) : Blk ((w.alloc (.cells u.toArray t)).alloc (.cells v.toArray s)) w.heap.size u t ∧ Blk ((w.alloc (.cells u.toArray t)).alloc (.cells v.toArray s)) (w.heap.size + 1) v s := by
  refine ⟨(Blk.new w u t).alloc _, ?_⟩
  have := Blk.new (w.alloc (.cells u.toArray t)) v s
  simpa using this
theorem valOk_of {xs : List Int} (h : ∀ x ∈ xs, -1000000000000000 ≤ x ∧ x ≤ 1000000000000000) (hl : xs.length ≤ 64) : valOk xs = true := by
  simp only [valOk, Bool.and_eq_true, decide_eq_true_eq]
  exact ⟨allIn_iff.2 h, hl⟩
theorem bl1d {B : Nat} {w w1 : World} (h : Below B w w1) (hB : B ≤ w1.heap.size) (o : Obj) : Below B w (w1.alloc o) := h.trans ((bl1 w1 o).mono hB)
theorem parts3 (a b c : List Int) : partsL [a, b, c] = textL a ++ [59] ++ textL b ++ [59] ++ textL c := by
  unfold partsL
  simp only [List.map_cons, List.map_nil, Lib.join_cons, Lib.joinTail, List.flatten_cons, List.flatten_nil, List.append_nil, List.append_assoc]
theorem parts2 (a b : List Int) : partsL [a, b] = textL a ++ [59] ++ textL b := by
  unfold partsL
  simp only [List.map_cons, List.map_nil, Lib.join_cons, Lib.joinTail, List.flatten_cons, List.flatten_nil, List.append_nil, List.append_assoc]
theorem valOk_rng {xs : List Int} (h : valOk xs = true) : (∀ x ∈ xs, -9223372036854775808 ≤ x ∧ x ≤ 9223372036854775807) ∧ xs.length ≤ 64 := by
  simp only [valOk, Bool.and_eq_true, decide_eq_true_eq] at h
  exact ⟨fun x hx => by have := allIn_iff.1 h.1 x hx; omega, h.2⟩
theorem valOk_size {xs : List Int} (h : valOk xs = true) : (bs (textL xs)).size ≤ 2000 := by
  obtain ⟨h1, h2⟩ := valOk_rng h
  have := textL_len h1
  rw [bs_size]; omega
end Go.Proofs.YtdmeegfdmdbkiaaDoor
