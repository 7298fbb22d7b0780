/-
  Part 3 of what the proof stands on: lemmas and contracts, each with its conditions ahead of the colon.
-/
import Derived.Deep.AppendLies
import Derived.Test.YtiodkmddmgjikaaPk01
import Derived.Test.YtiodkmddmgjikaaPk02
namespace Go.Proofs.Ytiodkmddmgjikaa
set_option linter.unusedVariables false
set_option linter.unusedSimpArgs false
open Go.RowKit

/-- A slice of slices of integers reads as lists. -/
def RdII (w : World) (B : Nat) (a : Option Addr) (yss : List (List Int)) : Prop :=
  ∃ vs : List Value, vs.length = yss.length ∧ Rd w B a vs ∧ ∀ (k : Nat) (ys : List Int), yss[k]? = some ys → ∃ (a' : Option Addr) (c' : Nat), vs[k]? = some (Value.slice a' ys.length c') ∧ ys.length ≤ c' ∧ Rd w B a' (ints ys)
theorem RdII.below {w w' : World} {B C : Nat} {a : Option Addr} {yss : List (List Int)} (h : RdII w B a yss) (hb : Below C w w') (hB : B ≤ C) : RdII w' B a yss := by
  obtain ⟨vs, h1, h2, h3⟩ := h
  exact ⟨vs, h1, h2.below hb hB, fun k ys hk => let ⟨a', c', e1, e2, e3⟩ := h3 k ys hk; ⟨a', c', e1, e2, e3.below hb hB⟩⟩
theorem RdII.mono {w : World} {B C : Nat} {a : Option Addr} {yss : List (List Int)} (h : RdII w B a yss) (hB : B ≤ C) : RdII w C a yss := by
  obtain ⟨vs, h1, h2, h3⟩ := h
  exact ⟨vs, h1, h2.mono hB, fun k ys hk => let ⟨a', c', e1, e2, e3⟩ := h3 k ys hk; ⟨a', c', e1, e2, e3.mono hB⟩⟩
theorem RdII.to {w w' : World} {a : Option Addr} {yss : List (List Int)} (h : RdII w w.heap.size a yss) (hb : Below w.heap.size w w') : RdII w' w'.heap.size a yss := (h.below hb (Nat.le_refl _)).mono hb.size
theorem RdII.touch {w w' : World} {lo hi B : Nat} {a : Option Addr} {yss : List (List Int)} (h : RdII w B a yss) (ht : Touch w w' lo hi) (hB : B ≤ lo) (hs : B ≤ w.heap.size) : RdII w' B a yss := by
  obtain ⟨vs, h1, h2, h3⟩ := h
  exact ⟨vs, h1, h2.touch ht hB hs, fun k ys hk => let ⟨a', c', e1, e2, e3⟩ := h3 k ys hk; ⟨a', c', e1, e2, e3.touch ht hB hs⟩⟩
theorem RdII.get {w : World} {B : Nat} {a : Option Addr} {yss : List (List Int)} (h : RdII w B a yss) {k : Nat} (hk : k < yss.length) :
    ∃ b o ys a' c', a = some ⟨b, o, none⟩ ∧ b < B ∧ w.cell? ⟨b, o + k, none⟩ = some (.slice a' ys.length c') ∧ ys.length ≤ c' ∧ Rd w B a' (ints ys) ∧ Hid (yss[k]? = some ys) := by
  obtain ⟨vs, h1, h2, h3⟩ := h
  obtain ⟨b, o, v, ha, hb, hc, hv⟩ := h2.getV (k := k) (by omega)
  obtain ⟨a', c', e1, e2, e3⟩ := h3 k yss[k] (List.getElem?_eq_getElem hk)
  have hv' := hv.out
  rw [e1] at hv'
  injection hv' with hv'
  exact ⟨b, o, yss[k], a', c', ha, hb, by rw [hc, hv'], e2, e3, by simp [Hid, List.getElem?_eq_getElem hk]⟩

/-- How many are on each ballot. -/
def wide (yss : List (List Int)) : Nat := (yss.headD []).length
def ballotsB (yss : List (List Int)) : Bool := decide (1 ≤ yss.length) && decide (yss.length ≤ 32) && decide (1 ≤ wide yss) && decide (wide yss ≤ 12) && yss.all fun b => orderB b (wide yss)
theorem wide_of_get {yss : List (List Int)} {ys : List Int} (h : yss[0]? = some ys) : wide yss = ys.length := by
  cases yss with
  | nil => simp at h
  | cons x xs => simp at h; simp [wide, h]
theorem ballotsB_iff {yss : List (List Int)} : ballotsB yss = true ↔ (1 ≤ yss.length ∧ yss.length ≤ 32) ∧ (1 ≤ wide yss ∧ wide yss ≤ 12) ∧ ∀ b ∈ yss, orderB b (wide yss) = true := by
  simp only [ballotsB, Bool.and_eq_true, decide_eq_true_iff, List.all_eq_true, and_assoc]
theorem ballotsB_all {yss : List (List Int)} (h1 : 1 ≤ yss.length) (h2 : yss.length ≤ 32) (h3 : 1 ≤ wide yss) (h4 : wide yss ≤ 12) : ballotsB yss = yss.all fun b => orderB b (wide yss) := by
  simp [ballotsB, h1, h2, h3, h4]
theorem all_take_succ {α : Type} {xs : List α} {k : Nat} {x : α} {p : α → Bool} (hx : xs[k]? = some x) (h : (xs.take k).all p = true) (h2 : p x = true) : (xs.take (k + 1)).all p = true := by
  rw [List.take_add_one, hx]; simp [h2] at *; exact h
theorem all_false {α : Type} {xs : List α} {k : Nat} {x : α} {p : α → Bool} (hx : xs[k]? = some x) (h2 : p x = false) : xs.all p = false := by
  rw [← Bool.not_eq_true]; intro h
  have := List.all_eq_true.1 h x (List.mem_of_getElem? hx)
  rw [h2] at this; cases this

end Go.Proofs.Ytiodkmddmgjikaa
namespace Go.Proofs.Ytiodkmddmgjikaa
set_option linter.unusedVariables false
set_option linter.unusedSimpArgs false
open Go.RowKit

theorem own_touch {T : Nat} {w w' : World} {lo hi lo' hi' n : Nat} {v : Value} {xs : List Value} (h : w.ownsRow lo T 1 v n xs) (hv : ∀ g, v.ownBlock = some g → g < hi) (ht : Touch w w' lo' hi') (hd : hi ≤ lo' ∨ hi' ≤ lo) : w'.ownsRow lo T 1 v n xs := by
  refine ⟨h.1, ?_⟩
  rcases h.2 with h2 | ⟨g, cap, cur, hv2, hg, hh, r⟩
  · exact .inl h2
  · have h3 : g < hi := hv g (by rw [hv2]; rfl)
    exact .inr ⟨g, cap, cur, hv2, hg, by rw [ht.block g (lt_of_block hh) (by omega)]; exact hh, r⟩
/-- A slice of slices of integers in blocks of its own, each row in a block of its own. -/
structure OwnRows (T T2 : Nat) (w : World) (lo hi : Nat) (u : Value) (vs : List Value) (yss : List (List Int)) : Prop where
  out : w.ownsRow lo T2 1 u yss.length vs
  lt : ∀ g, u.ownBlock = some g → g < hi
  row : ∀ (j : Nat) (ys : List Int), yss[j]? = some ys → ∃ g c, vs[j]? = some (.slice (some ⟨g, 0, none⟩) ys.length c) ∧ OwnI T w lo hi (some ⟨g, 0, none⟩) c ys
  top : ∀ (j : Nat) (v : Value), vs[j]? = some v → Apart u v
  dis : ∀ (i j : Nat) (v v' : Value), i ≠ j → vs[i]? = some v → vs[j]? = some v' → Apart v v'
def OwnLL (T T2 : Nat) (w : World) (lo hi : Nat) (a : Option Addr) (c : Nat) (yss : List (List Int)) : Prop := ∃ vs, OwnRows T T2 w lo hi (.slice a yss.length c) vs yss
section
variable {T T2 lo hi c : Nat} {w w' : World} {a : Option Addr} {yss : List (List Int)}
theorem OwnRows.len {u : Value} {vs : List Value} (h : OwnRows T T2 w lo hi u vs yss) : vs.length = yss.length := by
  have := h.out.1; omega
theorem OwnLL.rd (h : OwnLL T T2 w lo hi a c yss) : RdII w hi a yss := by
  obtain ⟨vs, h⟩ := h
  refine ⟨vs, h.len, ?_, fun k ys hk => ?_⟩
  · rcases rd_of_own h.out (Nat.le_refl _) with h' | ⟨b, o, ha, hb, hc⟩
    · exact .inl h'
    · exact .inr ⟨b, o, ha, h.lt b (by rw [ha]; rfl), hc⟩
  · obtain ⟨g', c', h1, h2⟩ := h.row k ys hk
    exact ⟨_, c', h1, h2.cap, h2.rd⟩
theorem OwnLL.keep (h : OwnLL T T2 w lo hi a c yss) (hb : Below w.heap.size w w') : OwnLL T T2 w' lo hi a c yss := by
  obtain ⟨vs, h⟩ := h
  exact ⟨vs, own_below h.out hb, h.lt, fun j ys hj => let ⟨a', c', h1, h2⟩ := h.row j ys hj; ⟨a', c', h1, h2.keep hb⟩, h.top, h.dis⟩
theorem OwnLL.touch {lo' hi' : Nat} (h : OwnLL T T2 w lo hi a c yss) (ht : Touch w w' lo' hi') (hd : hi ≤ lo' ∨ hi' ≤ lo) : OwnLL T T2 w' lo hi a c yss := by
  obtain ⟨vs, h⟩ := h
  exact ⟨vs, own_touch h.out h.lt ht hd, h.lt, fun j ys hj => let ⟨a', c', h1, h2⟩ := h.row j ys hj; ⟨a', c', h1, h2.touch ht hd⟩, h.top, h.dis⟩
theorem OwnLL.mono {lo' hi' : Nat} (h : OwnLL T T2 w lo hi a c yss) (h1 : lo' ≤ lo) (h2 : hi ≤ hi') : OwnLL T T2 w lo' hi' a c yss := by
  obtain ⟨vs, h⟩ := h
  exact ⟨vs, own_base h.out h1, fun g hg => Nat.lt_of_lt_of_le (h.lt g hg) h2, fun j ys hj => let ⟨a', c', h3, h4⟩ := h.row j ys hj; ⟨a', c', h3, h4.mono h1 h2⟩, h.top, h.dis⟩
theorem OwnLL.nil {w : World} : OwnLL T T2 w lo hi none 0 [] :=
  ⟨[], World.ownsRow_nil _ _ _ _, (fun g hg => by cases hg), (fun j ys hj => by simp at hj), (fun j v hj => by simp at hj), (fun i j v v' _ hi _ => by simp at hi)⟩
end
theorem OwnI.apart {T lo hi c : Nat} {w w' : World} {a : Option Addr} {xs : List Int} {u : Value} (h : OwnI T w lo hi a c xs) (hg : w.grownBy w' u.ownBlock) (ha : Apart u (.slice a xs.length c)) : OwnI T w' lo hi a c xs :=
  ⟨own_apart h.1 hg ha, h.2⟩
/-- Nothing, as '[][]int64{}' makes it. -/
theorem OwnRows.start {T T2 : Nat} {w : World} {lo : Nat} {u : Value} (h : w.ownsRow lo T2 1 u 0 []) : OwnRows T T2 w lo w.heap.size u [] [] :=
  ⟨h, (fun g hg => (h.lt g hg).2), (fun j ys hj => by simp at hj), (fun j v hj => by simp at hj), (fun i j v v' _ hi _ => by simp at hi)⟩
theorem OwnRows.keep {T T2 : Nat} {w w' : World} {lo hi : Nat} {u : Value} {vs : List Value} {yss : List (List Int)} (h : OwnRows T T2 w lo hi u vs yss) (hb : Below w.heap.size w w') : OwnRows T T2 w' lo hi u vs yss :=
  ⟨own_below h.out hb, h.lt, fun j ys hj => let ⟨a', c', h1, h2⟩ := h.row j ys hj; ⟨a', c', h1, h2.keep hb⟩, h.top, h.dis⟩
theorem OwnRows.grown {T T2 : Nat} {w w' : World} {lo hi q : Nat} {u : Value} {vs : List Value} {yss : List (List Int)} (h : OwnRows T T2 w lo hi u vs yss) (hg : w.grownBy w' (some q)) (hq : q < lo ∨ hi ≤ q) : OwnRows T T2 w' lo hi u vs yss := by
  have ht : Touch w w' q (q + 1) := Touch.of_grown hg (Nat.le_refl _) (by omega)
  exact ⟨own_touch h.out h.lt ht (by omega), h.lt, fun j ys hj => let ⟨a', c', h1, h2⟩ := h.row j ys hj; ⟨a', c', h1, h2.touch ht (by omega)⟩, h.top, h.dis⟩
/-- A row of its own, made since, is appended. -/
theorem OwnRows.snoc {T T2 : Nat} {w0 w w' : World} {lo hi r0 g c : Nat} {u u' : Value} {vs : List Value} {yss : List (List Int)} {ys : List Int}
    (h : OwnRows T T2 w0 lo hi u vs yss) (hb : Below w0.heap.size w0 w) (hlo : lo ≤ r0) (hhi : hi ≤ r0) (hr : OwnI T w r0 w.heap.size (some ⟨g, 0, none⟩) c ys) (hy0 : w0.heap.size ≤ r0)
    (ho : w'.ownsRow lo T2 1 u' (yss.length + 1) (vs ++ [.slice (some ⟨g, 0, none⟩) ys.length c])) (hg : w.grownBy w' u.ownBlock) (hn : ∀ g, g < w.heap.size → some g ≠ u.ownBlock → some g ≠ u'.ownBlock) :
    OwnRows T T2 w' lo w'.heap.size u' (vs ++ [.slice (some ⟨g, 0, none⟩) ys.length c]) (yss ++ [ys]) := by
  have hl := h.len
  have hk := h.keep hb
  have hrg : r0 ≤ g := (hr.1.lt g rfl).1
  have hgw : g < w.heap.size := (hr.1.lt g rfl).2
  have hap : Apart u (.slice (some ⟨g, 0, none⟩) ys.length c) := fun q hq e => by
    have := h.lt q hq
    simp [Value.ownBlock] at e
    omega
  have at' : ∀ (j : Nat) (v : Value), (vs ++ [.slice (some ⟨g, 0, none⟩) ys.length c])[j]? = some v → (j < yss.length ∧ vs[j]? = some v) ∨ (j = yss.length ∧ v = .slice (some ⟨g, 0, none⟩) ys.length c) := by
    intro j v hj
    by_cases hlt : j < vs.length
    · rw [List.getElem?_append_left hlt] at hj
      exact .inl ⟨by omega, hj⟩
    · rw [List.getElem?_append_right (by omega)] at hj
      have : j - vs.length = 0 := by
        have := (List.getElem?_eq_some_iff.1 hj).1
        simp at this
        omega
      rw [this] at hj
      simp at hj
      exact .inr ⟨by omega, hj.symm⟩
  have hrow : ∀ (j : Nat) (v : Value), vs[j]? = some v → ∃ g' c' ys', v = .slice (some ⟨g', 0, none⟩) ys'.length c' ∧ OwnI T w lo hi (some ⟨g', 0, none⟩) c' ys' := by
    intro j v hj
    have hlt : j < yss.length := by have := (List.getElem?_eq_some_iff.1 hj).1; omega
    obtain ⟨g', c', h1, h2⟩ := hk.row j yss[j] (List.getElem?_eq_getElem hlt)
    rw [hj] at h1
    injection h1 with h1
    exact ⟨g', c', _, h1, h2⟩
  refine ⟨by rw [List.length_append, List.length_singleton]; exact ho, fun q hq => (ho.lt q hq).2, fun j zs hj => ?_, fun j v hj => ?_, fun i j v v' hij hi hj => ?_⟩
  · by_cases hlt : j < yss.length
    · rw [List.getElem?_append_left hlt] at hj
      obtain ⟨g', c', h1, h2⟩ := hk.row j zs hj
      refine ⟨g', c', by rw [List.getElem?_append_left (by omega)]; exact h1, ?_⟩
      exact (h2.apart hg (h.top j _ h1)).mono (Nat.le_refl _) (by have := hb.size; have := hg.size; omega)
    · rw [List.getElem?_append_right (by omega)] at hj
      have : j - yss.length = 0 := by
        have := (List.getElem?_eq_some_iff.1 hj).1
        simp at this
        omega
      rw [this] at hj
      simp at hj
      subst hj
      refine ⟨g, c, by rw [List.getElem?_append_right (by omega), show j - vs.length = 0 by omega]; rfl, ?_⟩
      exact (hr.apart hg hap).mono hlo hg.size
  · rcases at' j v hj with ⟨_, h1⟩ | ⟨_, rfl⟩
    · obtain ⟨g', c', ys', e, h2⟩ := hrow j v h1
      have ha := h.top j v h1
      subst e
      exact apart_grow h2.1 ha hn
    · exact apart_grow hr.1 hap hn
  · rcases at' i v hi with ⟨i1, h1⟩ | ⟨i1, rfl⟩ <;> rcases at' j v' hj with ⟨j1, h2⟩ | ⟨j1, rfl⟩
    · exact h.dis i j v v' hij h1 h2
    · obtain ⟨g', c', ys', e, h3⟩ := hrow i v h1
      subst e
      intro q hq e
      have := h3.2 _ rfl
      simp [Value.ownBlock] at hq e
      simp at this
      omega
    · obtain ⟨g', c', ys', e, h3⟩ := hrow j v' h2
      subst e
      intro q hq e
      have := h3.2 _ rfl
      simp [Value.ownBlock] at hq e
      simp at this
      omega
    · omega
end Go.Proofs.Ytiodkmddmgjikaa
namespace Go.Proofs.Ytiodkmddmgjikaa
set_option linter.unusedVariables false
set_option linter.unusedSimpArgs false
open Go.RowKit

structure OwnTop (T T2 : Nat) (w : World) (t0 lo hi : Nat) (u : Value) (vs : List Value) (yss : List (List Int)) : Prop where
  out : w.ownsRow t0 T2 1 u yss.length vs
  lt : ∀ g, u.ownBlock = some g → g = t0 ∨ (lo ≤ g ∧ g < hi)
  row : ∀ (j : Nat) (ys : List Int), yss[j]? = some ys → ∃ g c, vs[j]? = some (.slice (some ⟨g, 0, none⟩) ys.length c) ∧ OwnI T w lo hi (some ⟨g, 0, none⟩) c ys
  top : ∀ (j : Nat) (v : Value), vs[j]? = some v → Apart u v
  dis : ∀ (i j : Nat) (v v' : Value), i ≠ j → vs[i]? = some v → vs[j]? = some v' → Apart v v'
section
variable {T T2 t0 lo hi : Nat} {w w' : World} {u : Value} {vs : List Value} {yss : List (List Int)}
theorem OwnTop.len (h : OwnTop T T2 w t0 lo hi u vs yss) : vs.length = yss.length := by have := h.out.1; omega
theorem OwnTop.start (h : w.ownsRow t0 T2 1 u 0 []) (hu : ∀ g, u.ownBlock = some g → g = t0) : OwnTop T T2 w t0 lo hi u [] [] :=
  ⟨h, (fun g hg => .inl (hu g hg)), (fun j ys hj => by simp at hj), (fun j v hj => by simp at hj), (fun i j v v' _ hi _ => by simp at hi)⟩
theorem OwnTop.mono {hi' : Nat} (h : OwnTop T T2 w t0 lo hi u vs yss) (hh : hi ≤ hi') : OwnTop T T2 w t0 lo hi' u vs yss :=
  ⟨h.out, fun g hg => (h.lt g hg).imp id fun ⟨h1, h2⟩ => ⟨h1, by omega⟩, fun j ys hj => let ⟨g, c, h1, h2⟩ := h.row j ys hj; ⟨g, c, h1, h2.mono (Nat.le_refl _) hh⟩, h.top, h.dis⟩
theorem OwnTop.keep (h : OwnTop T T2 w t0 lo hi u vs yss) (hb : Below w.heap.size w w') : OwnTop T T2 w' t0 lo hi u vs yss :=
  ⟨own_below h.out hb, h.lt, fun j ys hj => let ⟨g, c, h1, h2⟩ := h.row j ys hj; ⟨g, c, h1, h2.keep hb⟩, h.top, h.dis⟩
theorem OwnTop.grown {q : Nat} (h : OwnTop T T2 w t0 lo hi u vs yss) (hg : w.grownBy w' (some q)) (hq0 : q ≠ t0) (hq : q < lo ∨ hi ≤ q) : OwnTop T T2 w' t0 lo hi u vs yss := by
  have ht : Touch w w' q (q + 1) := Touch.of_grown hg (Nat.le_refl _) (by omega)
  refine ⟨h.out.kept hg (.inr fun e => ?_), h.lt, fun j ys hj => let ⟨g, c, h1, h2⟩ := h.row j ys hj; ⟨g, c, h1, h2.touch ht (by omega)⟩, h.top, h.dis⟩
  rcases h.lt q e with h1 | ⟨h1, h2⟩ <;> omega
theorem OwnTop.rows (h : OwnTop T T2 w t0 lo hi u vs yss) (h1 : t0 ≤ lo) (h2 : t0 < hi) : OwnRows T T2 w t0 hi u vs yss :=
  ⟨h.out, fun g hg => by rcases h.lt g hg with h3 | ⟨_, h3⟩ <;> omega, fun j ys hj => let ⟨g, c, h3, h4⟩ := h.row j ys hj; ⟨g, c, h3, h4.mono h1 (Nat.le_refl _)⟩, h.top, h.dis⟩
end
/-- A row of its own, made since, is appended. -/
theorem OwnTop.snoc {T T2 : Nat} {w0 w w' : World} {t0 lo hi r0 g c : Nat} {u u' : Value} {vs : List Value} {yss : List (List Int)} {ys : List Int}
    (h : OwnTop T T2 w0 t0 lo hi u vs yss) (hb : Below w0.heap.size w0 w) (ht0 : t0 < lo) (hlo : lo ≤ r0) (hhi : hi ≤ r0) (hr : OwnI T w r0 w.heap.size (some ⟨g, 0, none⟩) c ys) (hy0 : w0.heap.size ≤ r0)
    (ho : w'.ownsRow t0 T2 1 u' (yss.length + 1) (vs ++ [.slice (some ⟨g, 0, none⟩) ys.length c])) (hg : w.grownBy w' u.ownBlock) (hn : ∀ g, g < w.heap.size → some g ≠ u.ownBlock → some g ≠ u'.ownBlock) :
    OwnTop T T2 w' t0 lo w'.heap.size u' (vs ++ [.slice (some ⟨g, 0, none⟩) ys.length c]) (yss ++ [ys]) := by
  have hl := h.len
  have hk := h.keep hb
  have hrg : r0 ≤ g := (hr.1.lt g rfl).1
  have hgw : g < w.heap.size := (hr.1.lt g rfl).2
  have hap : Apart u (.slice (some ⟨g, 0, none⟩) ys.length c) := fun q hq e => by
    have := h.lt q hq
    simp [Value.ownBlock] at e
    omega
  have at' : ∀ (j : Nat) (v : Value), (vs ++ [.slice (some ⟨g, 0, none⟩) ys.length c])[j]? = some v → (j < yss.length ∧ vs[j]? = some v) ∨ (j = yss.length ∧ v = .slice (some ⟨g, 0, none⟩) ys.length c) := by
    intro j v hj
    by_cases hlt : j < vs.length
    · rw [List.getElem?_append_left hlt] at hj
      exact .inl ⟨by omega, hj⟩
    · rw [List.getElem?_append_right (by omega)] at hj
      have : j - vs.length = 0 := by
        have := (List.getElem?_eq_some_iff.1 hj).1
        simp at this
        omega
      rw [this] at hj
      simp at hj
      exact .inr ⟨by omega, hj.symm⟩
  have hrow : ∀ (j : Nat) (v : Value), vs[j]? = some v → ∃ g' c' ys', v = .slice (some ⟨g', 0, none⟩) ys'.length c' ∧ OwnI T w lo hi (some ⟨g', 0, none⟩) c' ys' := by
    intro j v hj
    have hlt : j < yss.length := by have := (List.getElem?_eq_some_iff.1 hj).1; omega
    obtain ⟨g', c', h1, h2⟩ := hk.row j yss[j] (List.getElem?_eq_getElem hlt)
    rw [hj] at h1
    injection h1 with h1
    exact ⟨g', c', _, h1, h2⟩
  refine ⟨by rw [List.length_append, List.length_singleton]; exact ho, fun q hq => ?_, fun j zs hj => ?_, fun j v hj => ?_, fun i j v v' hij hi hj => ?_⟩
  · by_cases e : some q = u.ownBlock
    · rcases h.lt q e.symm with h1 | ⟨h1, h2⟩
      · exact .inl h1
      · exact .inr ⟨h1, (ho.lt q hq).2⟩
    · refine .inr ⟨?_, (ho.lt q hq).2⟩
      by_cases hqw : q < w.heap.size
      · exact absurd hq.symm (hn q hqw e)
      · omega
  · by_cases hlt : j < yss.length
    · rw [List.getElem?_append_left hlt] at hj
      obtain ⟨g', c', h1, h2⟩ := hk.row j zs hj
      refine ⟨g', c', by rw [List.getElem?_append_left (by omega)]; exact h1, ?_⟩
      exact (h2.apart hg (h.top j _ h1)).mono (Nat.le_refl _) (by have := hb.size; have := hg.size; omega)
    · rw [List.getElem?_append_right (by omega)] at hj
      have : j - yss.length = 0 := by
        have := (List.getElem?_eq_some_iff.1 hj).1
        simp at this
        omega
      rw [this] at hj
      simp at hj
      subst hj
      refine ⟨g, c, by rw [List.getElem?_append_right (by omega), show j - vs.length = 0 by omega]; rfl, ?_⟩
      exact (hr.apart hg hap).mono hlo hg.size
  · rcases at' j v hj with ⟨_, h1⟩ | ⟨_, rfl⟩
    · obtain ⟨g', c', ys', e, h2⟩ := hrow j v h1
      have ha := h.top j v h1
      subst e
      exact apart_grow h2.1 ha hn
    · exact apart_grow hr.1 hap hn
  · rcases at' i v hi with ⟨i1, h1⟩ | ⟨i1, rfl⟩ <;> rcases at' j v' hj with ⟨j1, h2⟩ | ⟨j1, rfl⟩
    · exact h.dis i j v v' hij h1 h2
    · obtain ⟨g', c', ys', e, h3⟩ := hrow i v h1
      subst e
      intro q hq e
      have := h3.2 _ rfl
      simp [Value.ownBlock] at hq e
      simp at this
      omega
    · obtain ⟨g', c', ys', e, h3⟩ := hrow j v' h2
      subst e
      intro q hq e
      have := h3.2 _ rfl
      simp [Value.ownBlock] at hq e
      simp at this
      omega
    · omega
/-- append as a step of a region that draws its order; the new value's block is known. -/
theorem step_append_blk {P : Program} {ops : Array Oper} {o : Oper} {a : Act} {wr : World} {K : Act → World → Prop} {Q : Exit → Act → World → Prop} {E : Prop}
    (hg : o.guard = none) (s x : Operand) (t : TypeId) (hop : o.op = Op.call { callee := Callee.builtin Builtin.append, args := #[s, x], argTypes := #[t, t] })
    (base : Nat) (e : TypeId) (z : Value) (bytes : Nat) (h1 : P.underlying t = some (.slice e)) (hinfo : (P.info? e).map (fun i => (i.zero, i.size, i.bytes)) = some (some z, 1, bytes)) (hz : z.cells.size = 1)
    (v : Value) (n : Nat) (xs : List Value) (hs : a.eval s = v) (hown : wr.ownsRow base e 1 v n xs) (y : Value) (hy : y.oneCell' = true)
    (hx : a.eval x = .slice (some ⟨wr.heap.size, 0, none⟩) 1 1) (hb : bytes ≤ 64) (hn : n ≤ 1099511627776) (hbase : base ≤ wr.heap.size)
    (hK : ∀ g c w', w'.ownsRow base e 1 (.slice (some ⟨g, 0, none⟩) (n + 1) c) (n + 1) (xs ++ [y]) → wr.grownBy w' v.ownBlock → (∀ q, q < wr.heap.size → some q ≠ v.ownBlock → some q ≠ (Value.slice (some ⟨g, 0, none⟩) (n + 1) c).ownBlock) → K (a.put o.dst (.slice (some ⟨g, 0, none⟩) (n + 1) c)) w') :
    if Region.wanted o (yielded ops a.tmps) = true then Oper.wp P o a (wr.alloc (.cells #[y] e)) K Q else E := by
  obtain ⟨i, h2, h3, h4, h5⟩ := info_parts hinfo
  have hbb : (n + 1) * bytes ≤ 140737488355328 := Nat.le_trans (Nat.mul_le_mul_left (n + 1) hb) (by omega)
  have hone : ∀ u ∈ [y], u.oneCell' = true := by
    intro u hu
    simp at hu
    subst hu
    exact hy
  refine step_append_lies _ hg s x t hop base e i z 1 bytes h1 h2 h3 h4 h5 hz (by omega) v n xs hs (hown.alloc _) ⟨wr.heap.size, 0, none⟩ 1 1 [y] hx rfl (World.news_of_block (cs := #[y]) (t := e) (fr := (0, 0)) (heap_alloc_new wr _)) hone (by omega) (by unfold maxLen; omega) hbb (by simp; omega) (wr.heap.size + 1) (by simp) ?_
  intro g c w' ho hgr hat _
  refine hK g c w' ho ⟨hgr.os, hgr.tape, hgr.output, ?_, fun k hk hne => ?_⟩ fun q hq hqv hqv' => ?_
  · have := hgr.size; simp at this; omega
  · rw [hgr.block k (by simp; omega) hne]
    exact Below.heap_alloc _ _ _ hk
  · simp [Value.ownBlock] at hqv'
    subst hqv'
    rcases hat with h | h
    · exact hqv h.symm
    · omega
end Go.Proofs.Ytiodkmddmgjikaa
