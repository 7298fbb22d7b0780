/-
  Part 8 of what the proof stands on: lemmas and contracts, each with its conditions ahead of the colon.
-/
import Derived.Lib.SliceRun
import Derived.Deep.Matrix
import Derived.Laws.EntriesVeiled
import Derived.Outline
import Derived.Test.YtkbejmjkdnfemaaGreatDoorPk01
import Derived.Test.YtkbejmjkdnfemaaGreatDoorPk02
import Derived.Test.YtkbejmjkdnfemaaGreatDoorPk06
import Derived.Test.YtkbejmjkdnfemaaGreatDoorPk07
namespace Go.Proofs.YtkbejmjkdnfemaaGreatDoor
set_option linter.unusedVariables false
set_option linter.unusedSimpArgs false
open Go.RowKit

theorem append_manyC {P : Program} (wr : World) {ops : Array Oper} {rest : List Oper} {o : Oper} {a : Act} {Q : Exit → Act → World → Prop}
    (hg : o.guard = none) (s x : Operand) (t : TypeId) (hop : o.op = Op.call { callee := Callee.builtin Builtin.append, args := #[s, x], argTypes := #[t, t] })
    (base : Nat) (e : TypeId) (z : Value) (bytes : Nat) (h1 : P.underlying t = some (.slice e)) (hinfo : (P.info? e).map (fun i => (i.zero, i.size, i.bytes)) = some (some z, 1, bytes)) (hz : z.cells.size = 1)
    (v : Value) (n : Nat) (xs : List Int) (hs : a.eval s = v) (hown : wr.ownsRow base e 1 v n (ints xs)) (b off m c : Nat) (ys : List Int) (hx : a.eval x = .slice (some ⟨b, off, none⟩) m c) (hm : ys.length = m)
    (hcell : ∀ j, j < m → wr.cell? ⟨b, off + j, none⟩ = some (.int .i64 (ys.getD j 0))) (hb : bytes ≤ 64) (hn : n + m ≤ 1099511627776) (hbase : base ≤ wr.heap.size)
    (hK : ∀ v' w', w'.ownsRow base e 1 v' (n + m) (ints (xs ++ ys)) → wr.grownBy w' v.ownBlock → wpList P ops Q rest (a.put o.dst v') w') :
    wpList P ops Q (o :: rest) a wr := by
  obtain ⟨i, h2, h3, h4, h5⟩ := info_parts hinfo
  have hbb : (n + m) * bytes ≤ 140737488355328 := Nat.le_trans (Nat.mul_le_mul_left (n + m) hb) (by omega)
  refine wpList_append_own wr hg s x t hop base e i z 1 bytes h1 h2 h3 h4 h5 hz (by omega) v n (ints xs) hs hown ⟨b, off, none⟩ m c (ints ys) hx (by simp; omega) ?_ ?_ (by unfold maxLen; omega) hbb hbase (fun v' w' ho hgr _ => hK v' w' (by rw [ints_append]; exact ho) hgr)
  · intro j u hj
    have hj' : j < m := by have := (List.getElem?_eq_some_iff.1 hj).1; simp at this; omega
    have ea : (⟨b, off, none⟩ : Addr).add j = ⟨b, off + j, none⟩ := by unfold Addr.add; split <;> simp_all
    rw [ea, hcell j hj', ← hj, ints_get _ _ (by omega)]
  · intro u hu
    obtain ⟨x, _, rfl⟩ := List.mem_map.1 hu
    rfl
theorem own_emptyC (w : World) (e : Nat) : (w.alloc (.cells #[] e)).ownsRow w.heap.size e 1 (.slice (some ⟨w.heap.size, 0, none⟩) 0 0) 0 (ints []) := own_empty w e
set_option maxRecDepth 10000 in
set_option maxHeartbeats 2000000 in
theorem clone_any (w : World) (a : Option Addr) (c : Nat) (xs : List Int) (h : Rd w w.heap.size a (ints xs)) (hl1 : 1 ≤ xs.length) (hl : xs.length ≤ 1048576) :
    Calls Tryz.prog 77 #[.slice a xs.length c] w fun e w' => ∃ a' c', e = .returned (.slice a' xs.length c') ∧ OwnI 2 w' w.heap.size w'.heap.size a' c' xs ∧ Below w.heap.size w w' := by
  obtain ⟨b, o, rfl, hb, hcell⟩ := h.at (k := 0) (by omega)
  clear h
  have hen := fun (w : World) (a : Option Addr) (n c : Nat) => Lib.run_eql_slice_nil (P := Tryz.prog) w 24 2 a n c 0 0 Tryz.underlying24
  go_enter Tryz.func77, Tryz.ntmps77
  go_wp2_with (at_builtin; refine append_manyC _ rfl _ _ 24 rfl w.heap.size 2 (.int .i64 0) 8 Tryz.underlying24 info_i64p rfl _ 0 [] rfl (own_emptyC w 2) b o xs.length c xs rfl rfl ?_ (by omega) (by omega) (by simp) ?_)
  · intro j hj
    rw [(bl1 w _).cell (p := ⟨b, o + j, none⟩) hb, hcell j hj]
  intro v1 w1 o1 g1
  have B1 := below_append (bl1 w (.cells #[] 2)) (own_emptyC w 2) g1 (Nat.le_refl _) (by simp)
  obtain ⟨a1, c1, rfl, _, _⟩ := own_shape o1
  have HR : Hid (OwnI 2 w1 w.heap.size w1.heap.size a1 c1 xs) := OwnI.of_own (by simpa using o1)
  clear o1 g1 hcell
  go_wp2_with fail
  go_ret
  exact ⟨_, _, by simp, HR.out, B1⟩
end Go.Proofs.YtkbejmjkdnfemaaGreatDoor
namespace Go.Proofs.YtkbejmjkdnfemaaGreatDoor
set_option linter.unusedVariables false
set_option linter.unusedSimpArgs false
open Go.RowKit

end Go.Proofs.YtkbejmjkdnfemaaGreatDoor
namespace Go.Proofs.YtkbejmjkdnfemaaGreatDoor
set_option linter.unusedVariables false
set_option linter.unusedSimpArgs false
open Go.RowKit

/-- The outer cells of a copy whose rows lie in the blocks from lo on. -/
def rowCells (lo : Nat) (yss : List (List Int)) (k : Nat) : List Value :=
  (List.range yss.length).map fun j => if j < k then Value.slice (some ⟨lo + j, 0, none⟩) (yss.getD j []).length (yss.getD j []).length else Value.slice none 0 0
theorem rowCells_length (lo : Nat) (yss : List (List Int)) (k : Nat) : (rowCells lo yss k).length = yss.length := by simp [rowCells]
theorem rowCells_get (lo : Nat) (yss : List (List Int)) (k : Nat) (ys : List Int) (h : yss[k]? = some ys) :
    (rowCells lo yss yss.length)[k]? = some (.slice (some ⟨lo + k, 0, none⟩) ys.length ys.length) := by
  have hk := (List.getElem?_eq_some_iff.1 h).1
  have hy : yss.getD k [] = ys := by simp [List.getD, h]
  rw [List.getElem?_eq_getElem (by simpa [rowCells] using hk)]
  simp only [rowCells, List.getElem_map, List.getElem_range, if_pos hk, hy]
/-- A slice of slices of integers in blocks of its own, as the law's copy makes it. -/
def OwnII (T T2 : Nat) (w : World) (lo hi : Nat) (a : Option Addr) (c : Nat) (yss : List (List Int)) : Prop :=
  ∃ g, a = some ⟨g, 0, none⟩ ∧ c = yss.length ∧ lo ≤ g ∧ g + 1 + yss.length ≤ hi ∧ hi ≤ w.heap.size ∧ Blk w g (rowCells (g + 1) yss yss.length) T2 ∧ ∀ (j : Nat) (ys : List Int), yss[j]? = some ys → Blk w (g + 1 + j) (ints ys) T
section
variable {T T2 lo hi c : Nat} {w w' : World} {a : Option Addr} {yss : List (List Int)}
theorem OwnII.rd (h : OwnII T T2 w lo hi a c yss) : RdII w hi a yss := by
  obtain ⟨g, rfl, rfl, h1, h2, _, h3, h4⟩ := h
  refine ⟨_, rowCells_length _ _ _, h3.rd (by omega), fun k ys hk => ⟨_, _, rowCells_get _ _ _ _ hk, Nat.le_refl _, (h4 k ys hk).rd ?_⟩⟩
  have hk := (List.getElem?_eq_some_iff.1 hk).1
  omega
theorem OwnII.keep (h : OwnII T T2 w lo hi a c yss) (hb : Below w.heap.size w w') : OwnII T T2 w' lo hi a c yss := by
  obtain ⟨g, h1, h2, h3, h4, h0, h5, h6⟩ := h
  exact ⟨g, h1, h2, h3, h4, by have := hb.size; omega, h5.same hb, fun j ys hj => (h6 j ys hj).same hb⟩
theorem OwnII.touch {lo' hi' : Nat} (h : OwnII T T2 w lo hi a c yss) (ht : Touch w w' lo' hi') (hd : hi ≤ lo' ∨ hi' ≤ lo) : OwnII T T2 w' lo hi a c yss := by
  obtain ⟨g, h1, h2, h3, h4, h0, h5, h6⟩ := h
  exact ⟨g, h1, h2, h3, h4, by have := ht.size; omega, h5.touch ht (by omega), fun j ys hj => (h6 j ys hj).touch ht (by have := (List.getElem?_eq_some_iff.1 hj).1; omega)⟩
end
end Go.Proofs.YtkbejmjkdnfemaaGreatDoor
namespace Go.Proofs.YtkbejmjkdnfemaaGreatDoor
set_option linter.unusedVariables false
set_option linter.unusedSimpArgs false
open Go.RowKit
section
open Go.ChangeShapes Go.WideShapes
end
end Go.Proofs.YtkbejmjkdnfemaaGreatDoor
namespace Go.Proofs.YtkbejmjkdnfemaaGreatDoor
set_option linter.unusedVariables false
set_option linter.unusedSimpArgs false
open Go.RowKit

def RdWishes (w : World) (B : Nat) (a0 : Option Addr) (x0 : List (List Int)) (a1 : Option Addr) (x1 : List (List Int)) : Prop := RdII w B a0 x0 ∧ RdII w B a1 x1
def OwnWishes (w : World) (lo hi : Nat) (a0 : Option Addr) (c0 : Nat) (x0 : List (List Int)) (a1 : Option Addr) (c1 : Nat) (x1 : List (List Int)) : Prop :=
  ∃ m1 : Nat, (lo ≤ m1 ∧ m1 ≤ hi) ∧ OwnII 2 24 w lo m1 a0 c0 x0 ∧ OwnII 2 24 w m1 hi a1 c1 x1
section
variable {w w' : World} {B C lo hi : Nat} {a0 : Option Addr} {x0 : List (List Int)} {a1 : Option Addr} {x1 : List (List Int)} {c0 : Nat} {c1 : Nat}
theorem RdWishes.below (h : RdWishes w B a0 x0 a1 x1) (hb : Below C w w') (hB : B ≤ C) : RdWishes w' B a0 x0 a1 x1 := ⟨RdII.below (h.1) hb hB, RdII.below (h.2) hb hB⟩
theorem RdWishes.mono (h : RdWishes w B a0 x0 a1 x1) (hB : B ≤ C) : RdWishes w C a0 x0 a1 x1 := ⟨RdII.mono (h.1) hB, RdII.mono (h.2) hB⟩
theorem RdWishes.to (h : RdWishes w w.heap.size a0 x0 a1 x1) (hb : Below w.heap.size w w') : RdWishes w' w'.heap.size a0 x0 a1 x1 := (h.below hb (Nat.le_refl _)).mono hb.size
theorem RdWishes.touch (h : RdWishes w B a0 x0 a1 x1) (ht : Touch w w' lo hi) (hB : B ≤ lo) (hs : B ≤ w.heap.size) : RdWishes w' B a0 x0 a1 x1 := ⟨RdII.touch (h.1) ht hB hs, RdII.touch (h.2) ht hB hs⟩
theorem OwnWishes.rd (h : OwnWishes w lo hi a0 c0 x0 a1 c1 x1) : RdWishes w hi a0 x0 a1 x1 := by
  obtain ⟨m1, hm, o0, o1⟩ := h
  exact ⟨o0.rd.mono (by omega), o1.rd.mono (by omega)⟩
theorem OwnWishes.keep (h : OwnWishes w lo hi a0 c0 x0 a1 c1 x1) (hb : Below w.heap.size w w') : OwnWishes w' lo hi a0 c0 x0 a1 c1 x1 := by
  obtain ⟨m1, hm, o0, o1⟩ := h
  exact ⟨m1, hm, o0.keep hb, o1.keep hb⟩
theorem OwnWishes.touch {lo' hi' : Nat} (h : OwnWishes w lo hi a0 c0 x0 a1 c1 x1) (ht : Touch w w' lo' hi') (hd : hi ≤ lo' ∨ hi' ≤ lo) : OwnWishes w' lo hi a0 c0 x0 a1 c1 x1 := by
  obtain ⟨m1, hm, o0, o1⟩ := h
  exact ⟨m1, hm, o0.touch ht (by omega), o1.touch ht (by omega)⟩
end
end Go.Proofs.YtkbejmjkdnfemaaGreatDoor
namespace Go.Proofs.YtkbejmjkdnfemaaGreatDoor
set_option linter.unusedVariables false
set_option linter.unusedSimpArgs false
open Go.RowKit

def row (xss : List (List Int)) (k : Nat) : List Int := xss.getD k []
end Go.Proofs.YtkbejmjkdnfemaaGreatDoor
namespace Go.Proofs.YtkbejmjkdnfemaaGreatDoor
set_option linter.unusedVariables false
set_option linter.unusedSimpArgs false
open Go.RowKit

theorem touch_setX (w : World) (g j : Nat) (u : Value) : Touch w (w.setCell ⟨g, j, none⟩ u) g (g + 1) :=
  Touch.of_grown (show w.grownBy (w.setCell ⟨g, j, none⟩ u) (some g) from ⟨rfl, rfl, rfl, by simp, fun i _ hi => Below.heap_setCell _ _ _ _ (fun e => hi (by simp [e]))⟩) (Nat.le_refl _) (Nat.lt_succ_self _)
theorem touch_hiX {w w1 w2 : World} {b lo hi : Nat} (h : Touch w w1 b (b + 1)) (ht : Touch w1 w2 lo hi) (hlo : w.heap.size ≤ lo) : Touch w w2 b (b + 1) :=
  ⟨ht.os.trans h.os, ht.tape.trans h.tape, ht.output.trans h.output, Nat.le_trans h.size ht.size, fun k hk hd => (ht.block k (by have := h.size; omega) (by omega)).trans (h.block k hk hd)⟩
theorem OwnI.take {T lo hi c : Nat} {w : World} {a : Option Addr} {xs : List Int} (h : OwnI T w lo hi a c xs) (t : Nat) : OwnI T w lo hi a c (xs.take t) := by
  refine ⟨⟨by simp, ?_⟩, h.2⟩
  have hl : (xs.take t).length ≤ xs.length := by simp; omega
  rcases h.1.2 with ⟨h1, h2⟩ | ⟨g, cap, cur, hv, hg, hh, hn, hm, hs, ht⟩
  · left
    injection h1 with e1 e2 e3
    have hx : xs = [] := List.eq_nil_of_length_eq_zero h2
    subst hx e1 e3
    simp
  · right
    injection hv with e1 e2 e3
    refine ⟨g, cap, cur, by rw [e1, e3], hg, hh, by omega, hm, hs, ?_⟩
    rw [Nat.mul_one] at ht ⊢
    rw [show ints (xs.take t) = (ints xs).take t by simp [ints, List.map_take], ← ht, List.take_take, List.length_take]
/-- Lists of numbers below n, each once. -/
def GoodX (yss : List (List Int)) (n : Nat) : Prop := ∀ ys ∈ yss, ys.length ≤ n ∧ (∀ x ∈ ys, 0 ≤ x ∧ x < n) ∧ ys.Nodup
theorem GoodX.nil (n : Nat) : GoodX [] n := fun y h => by simp at h
theorem GoodX.snoc {yss : List (List Int)} {n : Nat} {ys : List Int} (h : GoodX yss n) (hy : ys.length ≤ n ∧ (∀ x ∈ ys, 0 ≤ x ∧ x < n) ∧ ys.Nodup) : GoodX (yss ++ [ys]) n := fun z hz => by
  rcases List.mem_append.1 hz with hz | hz
  · exact h z hz
  · rw [List.mem_singleton] at hz; subst hz; exact hy
end Go.Proofs.YtkbejmjkdnfemaaGreatDoor
