/-
  A table of rows that grow at an index, each row in a block of its own; whom those with seats have, as it grows. No Go function is named here.
-/
import Derived.Test.YtdipckpcmnhpjaaMatS
import Derived.Test.YtdipckpcmnhpjaaGrow
namespace Go.Proofs.Ytdipckpcmnhpjaa
set_option linter.unusedVariables false
set_option linter.unusedSimpArgs false
open Go.RowKit

structure OwnTab (T T2 : Nat) (w : World) (gh : Nat) (vs : List Value) (xss : List (List Int)) : Prop where
  len : vs.length = xss.length
  blk : Blk w gh vs T2
  row : ∀ (k : Nat) (v : Value) (xs : List Int), vs[k]? = some v → xss[k]? = some xs → w.ownsRow (gh + 1) T 1 v xs.length (ints xs)
  dis : ∀ (i j : Nat) (v v' : Value), i ≠ j → vs[i]? = some v → vs[j]? = some v' → Apart v v'
theorem OwnTab.start {T T2 : Nat} {w : World} {gh n : Nat} (h : Blk w gh (List.replicate n (.slice none 0 0)) T2) : OwnTab T T2 w gh (List.replicate n (.slice none 0 0)) (List.replicate n []) := by
  refine ⟨by simp, h, fun k v xs hv hx => ?_, fun i j v v' _ hv _ => ?_⟩
  · have hk : k < n := by have := (List.getElem?_eq_some_iff.1 hv).1; simpa using this
    simp [hk] at hv hx
    subst hv hx
    exact World.ownsRow_nil _ _ _ _
  · have hk : i < n := by have := (List.getElem?_eq_some_iff.1 hv).1; simpa using this
    simp [hk] at hv
    subst hv
    exact fun g hg => by cases hg
theorem OwnTab.keep {T T2 : Nat} {w w' : World} {gh : Nat} {vs : List Value} {xss : List (List Int)} (h : OwnTab T T2 w gh vs xss) (hb : Below w.heap.size w w') : OwnTab T T2 w' gh vs xss :=
  ⟨h.len, h.blk.same hb, fun k v xs hv hx => own_below (h.row k v xs hv hx) hb, h.dis⟩
theorem set_grown (w : World) (g j : Nat) (u : Value) : w.grownBy (w.setCell ⟨g, j, none⟩ u) (some g) := ⟨rfl, rfl, rfl, by simp, fun i _ hi => Below.heap_setCell _ _ _ _ (fun e => hi (by simp [e]))⟩
/-- A row of the table grows, its new value is stored. -/
theorem OwnTab.grow {T T2 : Nat} {w w' : World} {gh k : Nat} {vs : List Value} {xss : List (List Int)} {v v' : Value} {xs xs' : List Int} (h : OwnTab T T2 w gh vs xss) (hv : vs[k]? = some v) (hx : xss[k]? = some xs)
    (ho : w'.ownsRow (gh + 1) T 1 v' xs'.length (ints xs')) (hg : w.grownBy w' v.ownBlock) (hn : ∀ g, g < w.heap.size → some g ≠ v.ownBlock → some g ≠ v'.ownBlock) :
    OwnTab T T2 (w'.setCell ⟨gh, k, none⟩ v') gh (vs.set k v') (xss.set k xs') := by
  have hkv : k < vs.length := (List.getElem?_eq_some_iff.1 hv).1
  have hkx : k < xss.length := (List.getElem?_eq_some_iff.1 hx).1
  have hrow := h.row k v xs hv hx
  have hne : some gh ≠ v.ownBlock := own_block_ne hrow (Nat.lt_succ_self _)
  have other : ∀ (j : Nat) (u : Value), j ≠ k → vs[j]? = some u → Apart v u := fun j u hj hu => h.dis k j v u (Ne.symm hj) hv hu
  have get : ∀ (j : Nat) (u : Value), j ≠ k → (vs.set k v')[j]? = some u → vs[j]? = some u := fun j u hj hu => by rwa [List.getElem?_set_ne (Ne.symm hj)] at hu
  have getk : ∀ u : Value, (vs.set k v')[k]? = some u → u = v' := fun u hu => by rw [List.getElem?_set_self hkv] at hu; injection hu with hu; exact hu.symm
  have oth : ∀ (j : Nat) (u : Value), j ≠ k → vs[j]? = some u → ∃ ys, xss[j]? = some ys := fun j u _ hu => by
    have : j < xss.length := by rw [← h.len]; exact (List.getElem?_eq_some_iff.1 hu).1
    exact ⟨_, List.getElem?_eq_getElem this⟩
  refine ⟨by simp [h.len], (h.blk.grown hg hne).set k v', fun j u ys hu hy => ?_, fun i j u u' hij hu hu' => ?_⟩
  · by_cases e : j = k
    · subst e
      have := getk u hu
      subst this
      rw [List.getElem?_set_self hkx] at hy
      injection hy with hy
      subst hy
      exact own_grown ho (set_grown w' gh j u) (Nat.lt_succ_self _)
    · have hu0 := get j u e hu
      rw [List.getElem?_set_ne (Ne.symm e)] at hy
      exact own_grown (own_apart (h.row j u ys hu0 hy) hg (other j u e hu0)) (set_grown w' gh k v') (Nat.lt_succ_self _)
  · by_cases e1 : i = k <;> by_cases e2 : j = k
    · omega
    · subst e1
      have := getk u hu
      subst this
      have hu0 := get j u' e2 hu'
      obtain ⟨ys, hy⟩ := oth j u' e2 hu0
      exact apart_grow (h.row j u' ys hu0 hy) (other j u' e2 hu0) hn
    · subst e2
      have := getk u' hu'
      subst this
      have hu0 := get i u e1 hu
      obtain ⟨ys, hy⟩ := oth i u e1 hu0
      exact (apart_grow (h.row i u ys hu0 hy) (other i u e1 hu0) hn).symm
    · exact h.dis i j u u' hij (get i u e1 hu) (get j u' e2 hu')
/-- Whom each one with seats has, of those below t. -/
def hasT (m : List Int) (n t : Nat) : List (List Int) := (List.range n).map fun k => hasN m k t
theorem hasT_get {m : List Int} {n t k : Nat} (h : k < n) : (hasT m n t)[k]? = some (hasN m k t) := by simp [hasT, h]
theorem hasT_zero (m : List Int) (n : Nat) : hasT m n 0 = List.replicate n [] := by
  apply List.ext_getElem
  · simp [hasT]
  · intro i h1 h2; simp [hasT, hasN]
theorem hasT_skip {m : List Int} {n t : Nat} (h : m.getD t 0 < 0) : hasT m n (t + 1) = hasT m n t :=
  List.map_congr_left fun k _ => by rw [hasN, if_neg (by omega)]
theorem hasT_set {m : List Int} {n t k : Nat} (h : m.getD t 0 = (k : Int)) : hasT m n (t + 1) = (hasT m n t).set k (hasN m k t ++ [(t : Int)]) := by
  apply List.ext_getElem
  · simp [hasT]
  · intro j h1 h2
    have hj : j < n := by simpa [hasT] using h1
    rw [List.getElem_set]
    split
    case isTrue e =>
      subst e
      simp only [hasT, List.getElem_map, List.getElem_range]
      rw [hasN, if_pos h]
    case isFalse e =>
      simp only [hasT, List.getElem_map, List.getElem_range]
      rw [hasN, if_neg (by omega)]
end Go.Proofs.Ytdipckpcmnhpjaa
