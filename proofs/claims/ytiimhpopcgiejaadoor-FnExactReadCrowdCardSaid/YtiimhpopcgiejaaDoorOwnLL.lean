/-
  A slice of slices of integers in blocks of its own, each row in a block of its own; such a one grows row by row.
-/
import Derived.Test.YtiimhpopcgiejaaDoorGrow
import Derived.Test.YtiimhpopcgiejaaDoorBallots
namespace Go.Proofs.YtiimhpopcgiejaaDoor
set_option linter.unusedVariables false
set_option linter.unusedSimpArgs false
open Go.RowKit

theorem own_touch {T : Nat} {w w' : World} {lo hi lo' hi' n : Nat} {v : Value} {xs : List Value} (h : w.ownsRow lo T 1 v n xs) (hv : ∀ g, v.ownBlock = some g → g < hi) (ht : Touch w w' lo' hi') (hd : hi ≤ lo' ∨ hi' ≤ lo) : w'.ownsRow lo T 1 v n xs := by
  refine ⟨h.1, ?_⟩
  rcases h.2 with h2 | ⟨g, cap, cur, hv2, hg, hh, r⟩
  · exact .inl h2
  · have h3 : g < hi := hv g (by rw [hv2]; rfl)
    exact .inr ⟨g, cap, cur, hv2, hg, by rw [ht.block g (lt_of_block hh) (by omega)]; exact hh, r⟩
/-- A slice of slices of integers in blocks of its own, each row in a block of its own. -/
structure OwnRows (T T2 : Nat) (w : World) (lo hi : Nat) (u : Value) (vs : List Value) (yss : List (List Int)) : Prop where
  out : w.ownsRow lo T2 1 u yss.length vs
  lt : ∀ g, u.ownBlock = some g → g < hi
  row : ∀ (j : Nat) (ys : List Int), yss[j]? = some ys → ∃ g c, vs[j]? = some (.slice (some ⟨g, 0, none⟩) ys.length c) ∧ OwnI T w lo hi (some ⟨g, 0, none⟩) c ys
  top : ∀ (j : Nat) (v : Value), vs[j]? = some v → Apart u v
  dis : ∀ (i j : Nat) (v v' : Value), i ≠ j → vs[i]? = some v → vs[j]? = some v' → Apart v v'
def OwnLL (T T2 : Nat) (w : World) (lo hi : Nat) (a : Option Addr) (c : Nat) (yss : List (List Int)) : Prop := ∃ vs, OwnRows T T2 w lo hi (.slice a yss.length c) vs yss
section
variable {T T2 lo hi c : Nat} {w w' : World} {a : Option Addr} {yss : List (List Int)}
theorem OwnRows.len {u : Value} {vs : List Value} (h : OwnRows T T2 w lo hi u vs yss) : vs.length = yss.length := by
  have := h.out.1; omega
theorem OwnLL.rd (h : OwnLL T T2 w lo hi a c yss) : RdII w hi a yss := by
  obtain ⟨vs, h⟩ := h
  refine ⟨vs, h.len, ?_, fun k ys hk => ?_⟩
  · rcases rd_of_own h.out (Nat.le_refl _) with h' | ⟨b, o, ha, hb, hc⟩
    · exact .inl h'
    · exact .inr ⟨b, o, ha, h.lt b (by rw [ha]; rfl), hc⟩
  · obtain ⟨g', c', h1, h2⟩ := h.row k ys hk
    exact ⟨_, c', h1, h2.cap, h2.rd⟩
theorem OwnLL.keep (h : OwnLL T T2 w lo hi a c yss) (hb : Below w.heap.size w w') : OwnLL T T2 w' lo hi a c yss := by
  obtain ⟨vs, h⟩ := h
  exact ⟨vs, own_below h.out hb, h.lt, fun j ys hj => let ⟨a', c', h1, h2⟩ := h.row j ys hj; ⟨a', c', h1, h2.keep hb⟩, h.top, h.dis⟩
theorem OwnLL.touch {lo' hi' : Nat} (h : OwnLL T T2 w lo hi a c yss) (ht : Touch w w' lo' hi') (hd : hi ≤ lo' ∨ hi' ≤ lo) : OwnLL T T2 w' lo hi a c yss := by
  obtain ⟨vs, h⟩ := h
  exact ⟨vs, own_touch h.out h.lt ht hd, h.lt, fun j ys hj => let ⟨a', c', h1, h2⟩ := h.row j ys hj; ⟨a', c', h1, h2.touch ht hd⟩, h.top, h.dis⟩
theorem OwnLL.mono {lo' hi' : Nat} (h : OwnLL T T2 w lo hi a c yss) (h1 : lo' ≤ lo) (h2 : hi ≤ hi') : OwnLL T T2 w lo' hi' a c yss := by
  obtain ⟨vs, h⟩ := h
  exact ⟨vs, own_base h.out h1, fun g hg => Nat.lt_of_lt_of_le (h.lt g hg) h2, fun j ys hj => let ⟨a', c', h3, h4⟩ := h.row j ys hj; ⟨a', c', h3, h4.mono h1 h2⟩, h.top, h.dis⟩
theorem OwnLL.nil {w : World} : OwnLL T T2 w lo hi none 0 [] :=
  ⟨[], World.ownsRow_nil _ _ _ _, (fun g hg => by cases hg), (fun j ys hj => by simp at hj), (fun j v hj => by simp at hj), (fun i j v v' _ hi _ => by simp at hi)⟩
end
theorem OwnI.apart {T lo hi c : Nat} {w w' : World} {a : Option Addr} {xs : List Int} {u : Value} (h : OwnI T w lo hi a c xs) (hg : w.grownBy w' u.ownBlock) (ha : Apart u (.slice a xs.length c)) : OwnI T w' lo hi a c xs :=
  ⟨own_apart h.1 hg ha, h.2⟩
/-- Nothing, as '[][]int64{}' makes it. -/
theorem OwnRows.start {T T2 : Nat} {w : World} {lo : Nat} {u : Value} (h : w.ownsRow lo T2 1 u 0 []) : OwnRows T T2 w lo w.heap.size u [] [] :=
  ⟨h, (fun g hg => (h.lt g hg).2), (fun j ys hj => by simp at hj), (fun j v hj => by simp at hj), (fun i j v v' _ hi _ => by simp at hi)⟩
theorem OwnRows.keep {T T2 : Nat} {w w' : World} {lo hi : Nat} {u : Value} {vs : List Value} {yss : List (List Int)} (h : OwnRows T T2 w lo hi u vs yss) (hb : Below w.heap.size w w') : OwnRows T T2 w' lo hi u vs yss :=
  ⟨own_below h.out hb, h.lt, fun j ys hj => let ⟨a', c', h1, h2⟩ := h.row j ys hj; ⟨a', c', h1, h2.keep hb⟩, h.top, h.dis⟩
theorem OwnRows.grown {T T2 : Nat} {w w' : World} {lo hi q : Nat} {u : Value} {vs : List Value} {yss : List (List Int)} (h : OwnRows T T2 w lo hi u vs yss) (hg : w.grownBy w' (some q)) (hq : q < lo ∨ hi ≤ q) : OwnRows T T2 w' lo hi u vs yss := by
  have ht : Touch w w' q (q + 1) := Touch.of_grown hg (Nat.le_refl _) (by omega)
  exact ⟨own_touch h.out h.lt ht (by omega), h.lt, fun j ys hj => let ⟨a', c', h1, h2⟩ := h.row j ys hj; ⟨a', c', h1, h2.touch ht (by omega)⟩, h.top, h.dis⟩
/-- A row of its own, made since, is appended. -/
theorem OwnRows.snoc {T T2 : Nat} {w0 w w' : World} {lo hi r0 g c : Nat} {u u' : Value} {vs : List Value} {yss : List (List Int)} {ys : List Int}
    (h : OwnRows T T2 w0 lo hi u vs yss) (hb : Below w0.heap.size w0 w) (hlo : lo ≤ r0) (hhi : hi ≤ r0) (hr : OwnI T w r0 w.heap.size (some ⟨g, 0, none⟩) c ys) (hy0 : w0.heap.size ≤ r0)
    (ho : w'.ownsRow lo T2 1 u' (yss.length + 1) (vs ++ [.slice (some ⟨g, 0, none⟩) ys.length c])) (hg : w.grownBy w' u.ownBlock) (hn : ∀ g, g < w.heap.size → some g ≠ u.ownBlock → some g ≠ u'.ownBlock) :
    OwnRows T T2 w' lo w'.heap.size u' (vs ++ [.slice (some ⟨g, 0, none⟩) ys.length c]) (yss ++ [ys]) := by
  have hl := h.len
  have hk := h.keep hb
  have hrg : r0 ≤ g := (hr.1.lt g rfl).1
  have hgw : g < w.heap.size := (hr.1.lt g rfl).2
  have hap : Apart u (.slice (some ⟨g, 0, none⟩) ys.length c) := fun q hq e => by
    have := h.lt q hq
    simp [Value.ownBlock] at e
    omega
  have at' : ∀ (j : Nat) (v : Value), (vs ++ [.slice (some ⟨g, 0, none⟩) ys.length c])[j]? = some v → (j < yss.length ∧ vs[j]? = some v) ∨ (j = yss.length ∧ v = .slice (some ⟨g, 0, none⟩) ys.length c) := by
    intro j v hj
    by_cases hlt : j < vs.length
    · rw [List.getElem?_append_left hlt] at hj
      exact .inl ⟨by omega, hj⟩
    · rw [List.getElem?_append_right (by omega)] at hj
      have : j - vs.length = 0 := by
        have := (List.getElem?_eq_some_iff.1 hj).1
        simp at this
        omega
      rw [this] at hj
      simp at hj
      exact .inr ⟨by omega, hj.symm⟩
  have hrow : ∀ (j : Nat) (v : Value), vs[j]? = some v → ∃ g' c' ys', v = .slice (some ⟨g', 0, none⟩) ys'.length c' ∧ OwnI T w lo hi (some ⟨g', 0, none⟩) c' ys' := by
    intro j v hj
    have hlt : j < yss.length := by have := (List.getElem?_eq_some_iff.1 hj).1; omega
    obtain ⟨g', c', h1, h2⟩ := hk.row j yss[j] (List.getElem?_eq_getElem hlt)
    rw [hj] at h1
    injection h1 with h1
    exact ⟨g', c', _, h1, h2⟩
  refine ⟨by rw [List.length_append, List.length_singleton]; exact ho, fun q hq => (ho.lt q hq).2, fun j zs hj => ?_, fun j v hj => ?_, fun i j v v' hij hi hj => ?_⟩
  · by_cases hlt : j < yss.length
    · rw [List.getElem?_append_left hlt] at hj
      obtain ⟨g', c', h1, h2⟩ := hk.row j zs hj
      refine ⟨g', c', by rw [List.getElem?_append_left (by omega)]; exact h1, ?_⟩
      exact (h2.apart hg (h.top j _ h1)).mono (Nat.le_refl _) (by have := hb.size; have := hg.size; omega)
    · rw [List.getElem?_append_right (by omega)] at hj
      have : j - yss.length = 0 := by
        have := (List.getElem?_eq_some_iff.1 hj).1
        simp at this
        omega
      rw [this] at hj
      simp at hj
      subst hj
      refine ⟨g, c, by rw [List.getElem?_append_right (by omega), show j - vs.length = 0 by omega]; rfl, ?_⟩
      exact (hr.apart hg hap).mono hlo hg.size
  · rcases at' j v hj with ⟨_, h1⟩ | ⟨_, rfl⟩
    · obtain ⟨g', c', ys', e, h2⟩ := hrow j v h1
      have ha := h.top j v h1
      subst e
      exact apart_grow h2.1 ha hn
    · exact apart_grow hr.1 hap hn
  · rcases at' i v hi with ⟨i1, h1⟩ | ⟨i1, rfl⟩ <;> rcases at' j v' hj with ⟨j1, h2⟩ | ⟨j1, rfl⟩
    · exact h.dis i j v v' hij h1 h2
    · obtain ⟨g', c', ys', e, h3⟩ := hrow i v h1
      subst e
      intro q hq e
      have := h3.2 _ rfl
      simp [Value.ownBlock] at hq e
      simp at this
      omega
    · obtain ⟨g', c', ys', e, h3⟩ := hrow j v' h2
      subst e
      intro q hq e
      have := h3.2 _ rfl
      simp [Value.ownBlock] at hq e
      simp at this
      omega
    · omega
end Go.Proofs.YtiimhpopcgiejaaDoor
