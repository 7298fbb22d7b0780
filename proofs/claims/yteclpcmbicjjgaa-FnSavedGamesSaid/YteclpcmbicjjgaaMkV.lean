/-
  A list of what is saved whose entries are marked one after another: what a round leaves.
-/
import Derived.Test.YteclpcmbicjjgaaMText
import Derived.Test.YteclpcmbicjjgaaMarkT
namespace Go.Proofs.Yteclpcmbicjjgaa
set_option linter.unusedVariables false
set_option linter.unusedSimpArgs false
open Go.RowKit

/-- An entry marked from κ on. -/
def mkSv (κ : Nat) (v : Sv) : Sv := ⟨mtF κ, (κ : Int) + 1, (κ : Int) + 1 + 1, marks v.A.length ((κ : Int) + 1 + 1 + 1), marks v.B.length ((κ : Int) + 1 + 1 + 1 + v.A.length), (κ : Int) + 1 + 1 + 1 + v.A.length + v.B.length, marks v.W.length ((κ : Int) + 1 + 1 + 1 + v.A.length + v.B.length + 1)⟩
def szSv (v : Sv) : Nat := 4 + v.A.length + v.B.length + v.W.length
def KS (f : Nat → Sv) : Nat → Nat
  | 0 => 1
  | k + 1 => KS f k + szSv (f k)
theorem KS_bd {f : Nat → Sv} {n : Nat} (hf : ∀ k, k < n → szSv (f k) ≤ 1000) : ∀ k, k ≤ n → 1 ≤ KS f k ∧ KS f k ≤ 1 + 1000 * k
  | 0, _ => ⟨Nat.le_refl _, by simp [KS]⟩
  | k + 1, h => by
    obtain ⟨h1, h2⟩ := KS_bd hf k (by omega)
    have := hf k (by omega)
    have hs : 4 ≤ szSv (f k) := by unfold szSv; omega
    rw [KS]; omega
def mkF (f : Nat → Sv) (k : Nat) : Nat → Sv := fun j => if j < k then mkSv (KS f j) (f j) else f j
theorem ownI_blk {T lo hi c : Nat} {w w' : World} {a : Option Addr} {xs : List Int} (h : OwnI T w lo hi a c xs) (hb : ∀ b, lo ≤ b → b < hi → w'.heap[b]? = w.heap[b]?) : OwnI T w' lo hi a c xs := by
  refine ⟨⟨h.1.1, ?_⟩, h.2⟩
  rcases h.1.2 with h2 | ⟨g, cap, cur, hv, hg, hh, r⟩
  · exact .inl h2
  · have h3 : g < hi := by
      injection hv with ha _ _
      exact h.2 _ ha
    exact .inr ⟨g, cap, cur, hv, hg, by rw [hb g hg h3]; exact hh, r⟩
theorem ownS_blk {w w' : World} {lo hi : Nat} {aA aB aW : Option Addr} {cA cB cW : Nat} {xA xB xW : List Int} (h : OwnSaved w lo hi aA cA xA aB cB xB aW cW xW) (hs : w.heap.size ≤ w'.heap.size) (hb : ∀ b, lo ≤ b → b < hi → w'.heap[b]? = w.heap[b]?) : OwnSaved w' lo hi aA cA xA aB cB xB aW cW xW := by
  obtain ⟨m, h1, h2, h3, ⟨p, hp, o1, o2⟩, hq, o3⟩ := h
  exact ⟨m, h1, h2, by omega, ⟨p, hp, ownI_blk o1 fun b h5 h6 => hb b (by omega) (by omega), ownI_blk o2 fun b h5 h6 => hb b (by omega) (by omega)⟩, hq, ownI_blk o3 fun b h5 h6 => hb b (by omega) (by omega)⟩
/-- What a round on the k-th entry leaves alone. -/
structure Oth (w0 w : World) (lo g k l m : Nat) : Prop where
  B : Below lo w0 w
  blk : ∀ b, b < w0.heap.size → b ≠ g → (b < l ∨ m ≤ b) → w.heap[b]? = w0.heap[b]?
  cel : ∀ j, (j < k * 7 ∨ k * 7 + 7 ≤ j) → w.cell? ⟨g, j, none⟩ = w0.cell? ⟨g, j, none⟩
  fz : ∀ j, w.frozen? ⟨g, j, none⟩ = w0.frozen? ⟨g, j, none⟩
theorem frozen_set (w : World) (g j i : Nat) (u : Value) : (w.setCell ⟨g, j, none⟩ u).frozen? ⟨g, i, none⟩ = w.frozen? ⟨g, i, none⟩ := by simp
theorem cell_set_other (w : World) {g j i : Nat} (u : Value) (h : i ≠ j) : (w.setCell ⟨g, j, none⟩ u).cell? ⟨g, i, none⟩ = w.cell? ⟨g, i, none⟩ := World.cell?_setCell_other w _ _ u (by intro e; injection e; omega)
section
variable {w0 w w' : World} {lo g k l m : Nat}
theorem Oth.refl (w : World) (lo g k l m : Nat) : Oth w w lo g k l m := ⟨Below.refl _ _, fun _ _ _ _ => rfl, fun _ _ => rfl, fun _ => rfl⟩
theorem cell_blk {w w' : World} {b : Nat} (h : w'.heap[b]? = w.heap[b]?) (j : Nat) : w'.cell? ⟨b, j, none⟩ = w.cell? ⟨b, j, none⟩ := by simp [World.cell?, h]
theorem froz_blk {w w' : World} {b : Nat} (h : w'.heap[b]? = w.heap[b]?) (j : Nat) : w'.frozen? ⟨b, j, none⟩ = w.frozen? ⟨b, j, none⟩ := by simp [World.frozen?, h]
theorem Oth.below (h : Oth w0 w lo g k l m) (hb : Below w.heap.size w w') (hg : g < w0.heap.size) (hlo : lo ≤ w.heap.size) : Oth w0 w' lo g k l m := by
  have hs := h.B.size
  have e := hb.block g (by omega)
  exact ⟨h.B.trans (hb.mono hlo), fun b h1 h2 h3 => (hb.block b (by omega)).trans (h.blk b h1 h2 h3), fun j hj => (cell_blk e j).trans (h.cel j hj), fun j => (froz_blk e j).trans (h.fz j)⟩
theorem Oth.touch {l' m' : Nat} (h : Oth w0 w lo g k l m) (ht : Touch w w' l' m') (h1 : l ≤ l') (h2 : m' ≤ m) (hg : g < w0.heap.size) (ha : g < l ∨ m ≤ g) (hlo : lo ≤ l) (hlw : lo ≤ w.heap.size) : Oth w0 w' lo g k l m := by
  have hs := h.B.size
  have e := ht.block g (by omega) (by omega)
  exact ⟨below_touch h.B ht (by omega) hlw, fun b h3 h4 h5 => (ht.block b (by omega) (by omega)).trans (h.blk b h3 h4 h5), fun j hj => (cell_blk e j).trans (h.cel j hj), fun j => (froz_blk e j).trans (h.fz j)⟩
theorem Oth.set (h : Oth w0 w lo g k l m) {j : Nat} (h1 : k * 7 ≤ j) (h2 : j < k * 7 + 7) (hg : lo ≤ g) (u : Value) : Oth w0 (w.setCell ⟨g, j, none⟩ u) lo g k l m :=
  ⟨below_sto h.B hg j u, fun b h3 h4 h5 => (Below.heap_setCell _ _ _ _ (by simpa using h4)).trans (h.blk b h3 h4 h5), fun i hi => (cell_set_other w u (by omega)).trans (h.cel i hi), fun i => (frozen_set w g j i u).trans (h.fz i)⟩
end
/-- The list as functions of the index. -/
structure MkV (w : World) (lo g n : Nat) (f : Nat → Sv) (hd : Nat → Hd) (L H : Nat → Nat) : Prop where
  lg : lo ≤ g
  gs : g < w.heap.size
  fz : ∀ j, w.frozen? ⟨g, j, none⟩ = false
  cl : ∀ k, k < n → ∀ j, j < 7 → w.cell? ⟨g, k * 7 + j, none⟩ = (cells1 (f k) (hd k))[j]?
  own : ∀ k, k < n → lo ≤ L k ∧ OwnSaved w (L k) (H k) (hd k).1 (hd k).2.1 (f k).A (hd k).2.2.1 (hd k).2.2.2.1 (f k).B (hd k).2.2.2.2.1 (hd k).2.2.2.2.2 (f k).W ∧ (g < L k ∨ H k ≤ g)
  dis : ∀ i j, i < j → j < n → H i ≤ L j
section
variable {w w' : World} {lo g n : Nat} {f : Nat → Sv} {hd : Nat → Hd} {L H : Nat → Nat}
theorem MkV.keep (h : MkV w lo g n f hd L H) (hb : Below w.heap.size w w') : MkV w' lo g n f hd L H := by
  have e := hb.block g h.gs
  exact ⟨h.lg, Nat.lt_of_lt_of_le h.gs hb.size, fun j => (froz_blk e j).trans (h.fz j), fun k hk j hj => (cell_blk e _).trans (h.cl k hk j hj), fun k hk => let ⟨a, b, c⟩ := h.own k hk; ⟨a, b.keep hb, c⟩, h.dis⟩
theorem MkV.step {k : Nat} {v : Sv} (h : MkV w lo g n f hd L H) (ho : Oth w w' lo g k (L k) (H k)) (hk : k < n) (hc : ∀ j, j < 7 → w'.cell? ⟨g, k * 7 + j, none⟩ = (cells1 v (hd k))[j]?)
    (hw : OwnSaved w' (L k) (H k) (hd k).1 (hd k).2.1 v.A (hd k).2.2.1 (hd k).2.2.2.1 v.B (hd k).2.2.2.2.1 (hd k).2.2.2.2.2 v.W) : MkV w' lo g n (fun j => if j = k then v else f j) hd L H := by
  refine ⟨h.lg, Nat.lt_of_lt_of_le h.gs ho.B.size, fun j => (ho.fz j).trans (h.fz j), fun i hi j hj => ?_, fun i hi => ?_, h.dis⟩
  · by_cases e : i = k
    · subst e; rw [if_pos rfl]; exact hc j hj
    · rw [if_neg e, ho.cel _ (by omega)]; exact h.cl i hi j hj
  · by_cases e : i = k
    · subst e; rw [if_pos rfl]; exact ⟨(h.own i hi).1, hw, (h.own i hi).2.2⟩
    · rw [if_neg e]
      obtain ⟨a, b, c⟩ := h.own i hi
      obtain ⟨a2, b2, c2⟩ := h.own k hk
      refine ⟨a, ownS_blk b ho.B.size fun q h1 h2 => ho.blk q ?_ ?_ ?_, c⟩
      · have := own_hi b; omega
      · omega
      · rcases Nat.lt_or_gt_of_ne e with h3 | h3
        · have := h.dis i k h3 hk; omega
        · have := h.dis k i h3 hi; omega
theorem MkV.congr {f' : Nat → Sv} (h : MkV w lo g n f hd L H) (he : ∀ j, j < n → f' j = f j) : MkV w lo g n f' hd L H :=
  ⟨h.lg, h.gs, h.fz, fun k hk j hj => by rw [he k hk]; exact h.cl k hk j hj, fun k hk => by rw [he k hk]; exact h.own k hk, h.dis⟩
theorem MkV.of {vs : List Sv} {hs : List Hd} {St : List (Nat × Nat)} {a : Option Addr} {c : Nat} (h : OwnV w lo (.slice a vs.length c) vs hs St) (hp : 0 < vs.length) :
    ∃ g, a = some ⟨g, 0, none⟩ ∧ MkV w lo g vs.length (fun k => vs.getD k zeroSv) (fun k => hs.getD k (none, 0, none, 0, none, 0)) (fun k => (St.getD k (0, 0)).1) (fun k => (St.getD k (0, 0)).2) := by
  obtain ⟨g, ha, hb, hg, hc, hf, _⟩ := own_cells h.row hp
  have fl := flatC_len vs hs h.lh
  have gv : ∀ k, k < vs.length → vs[k]? = some (vs.getD k zeroSv) := fun k hk => by simp [List.getD, List.getElem?_eq_getElem hk]
  have gh : ∀ k, k < vs.length → hs[k]? = some (hs.getD k (none, 0, none, 0, none, 0)) := fun k hk => by simp [List.getD, List.getElem?_eq_getElem (show k < hs.length by rw [← h.lh]; exact hk)]
  have gs : ∀ k, k < vs.length → St[k]? = some (St.getD k (0, 0)) := fun k hk => by simp [List.getD, List.getElem?_eq_getElem (show k < St.length by rw [← h.ls]; exact hk)]
  refine ⟨g, ha, hb, hg, hf, fun k hk j hj => ?_, fun k hk => ?_, fun i j hij hj => ?_⟩
  · rw [hc (k * 7 + j) (by omega)]; exact flatC_get (gv k hk) (gh k hk) j hj
  · obtain ⟨o1, o2, o3⟩ := h.own k _ _ _ (gv k hk) (gh k hk) (gs k hk)
    exact ⟨o1, o2, o3 g (by rw [ha]; rfl)⟩
  · exact h.dis i j _ _ hij (gs i (by omega)) (gs j hj)
end
end Go.Proofs.Yteclpcmbicjjgaa
