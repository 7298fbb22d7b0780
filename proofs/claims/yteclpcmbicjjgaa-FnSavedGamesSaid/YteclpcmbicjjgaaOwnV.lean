/-
  A list of what is saved that grows one by one: the list's block lies apart from the rows of each.
-/
import Derived.Test.YteclpcmbicjjgaaLoad
namespace Go.Proofs.Yteclpcmbicjjgaa
set_option linter.unusedVariables false
set_option linter.unusedSimpArgs false
open Go.RowKit

theorem ownS_grown {w w' : World} {row : Option Nat} {lo hi : Nat} {aA aB aW : Option Addr} {cA cB cW : Nat} {xA xB xW : List Int} (h : OwnSaved w lo hi aA cA xA aB cB xB aW cW xW) (hg : w.grownBy w' row) (hr : ∀ b, row = some b → b < lo ∨ hi ≤ b) : OwnSaved w' lo hi aA cA xA aB cB xB aW cW xW := by
  cases row with
  | none => exact h.keep (below_of_grown hg (Nat.le_refl _) (fun k hk => by cases hk))
  | some b =>
    have := hr b rfl
    exact ownS_touch h (Touch.of_grown hg (Nat.le_refl b) (Nat.lt_succ_self b)) (by omega)
theorem own_cells {w : World} {base e size : Nat} {a : Option Addr} {n c m : Nat} {xs : List Value} (h : w.ownsRow base e size (.slice a n c) m xs) (hm : 0 < m) : ∃ g, a = some ⟨g, 0, none⟩ ∧ base ≤ g ∧ g < w.heap.size ∧ (∀ j, j < xs.length → w.cell? ⟨g, j, none⟩ = xs[j]?) ∧ (∀ j, w.frozen? ⟨g, j, none⟩ = false) ∧ n = m := by
  obtain ⟨hl, h | ⟨g, cap, cur, hv, hb, hg, hn, hc, hs, ht⟩⟩ := h
  · omega
  · injection hv with ha hn' hc'
    refine ⟨g, ha, hb, ?_, fun j hj => ?_, fun j => ?_, hn'⟩
    · rcases Nat.lt_or_ge g w.heap.size with h | h
      · exact h
      · rw [Array.getElem?_eq_none h] at hg; cases hg
    · simp only [World.cell?, hg]
      rw [← ht, List.getElem?_take_of_lt (by rw [← hl]; exact hj)]
      simp
    · simp [World.frozen?, hg]
/-- The list and the rows of each. -/
structure OwnV (w : World) (lo : Nat) (u : Value) (vs : List Sv) (hs : List Hd) (St : List (Nat × Nat)) : Prop where
  lh : vs.length = hs.length
  ls : vs.length = St.length
  row : w.ownsRow lo 34 7 u vs.length (flatC vs hs)
  own : ∀ (k : Nat) (v : Sv) (h : Hd) (p : Nat × Nat), vs[k]? = some v → hs[k]? = some h → St[k]? = some p → lo ≤ p.1 ∧ OwnSaved w p.1 p.2 h.1 h.2.1 v.A h.2.2.1 h.2.2.2.1 v.B h.2.2.2.2.1 h.2.2.2.2.2 v.W ∧ ∀ b, u.ownBlock = some b → b < p.1 ∨ p.2 ≤ b
  dis : ∀ (i j : Nat) (p q : Nat × Nat), i < j → St[i]? = some p → St[j]? = some q → p.2 ≤ q.1
section
variable {w w' : World} {lo : Nat} {u : Value} {vs : List Sv} {hs : List Hd} {St : List (Nat × Nat)}
theorem OwnV.keep (h : OwnV w lo u vs hs St) (hb : Below w.heap.size w w') : OwnV w' lo u vs hs St :=
  ⟨h.lh, h.ls, own_below h.row hb, fun k v hd p h1 h2 h3 => let ⟨a, b, c⟩ := h.own k v hd p h1 h2 h3; ⟨a, b.keep hb, c⟩, h.dis⟩
theorem OwnV.start (hr : w.ownsRow lo 34 7 u 0 []) : OwnV w lo u [] [] [] :=
  ⟨rfl, rfl, hr, fun k v h p hk => by simp at hk, fun i j p q _ hi => by simp at hi⟩
theorem own_hi {lo hi : Nat} {aA aB aW : Option Addr} {cA cB cW : Nat} {xA xB xW : List Int} (h : OwnSaved w lo hi aA cA xA aB cB xB aW cW xW) : hi ≤ w.heap.size := h.choose_spec.2.2.1
theorem snoc_at {α : Type} {xs : List α} {x y : α} {k : Nat} (h : (xs ++ [x])[k]? = some y) : (k < xs.length ∧ xs[k]? = some y) ∨ (k = xs.length ∧ y = x) := by
  by_cases hk : k < xs.length
  · rw [List.getElem?_append_left hk] at h; exact .inl ⟨hk, h⟩
  · rw [List.getElem?_append_right (by omega)] at h
    have h0 : k - xs.length = 0 := by
      have := (List.getElem?_eq_some_iff.1 h).1
      simp at this; omega
    rw [h0] at h
    simp at h
    exact .inr ⟨by omega, h.symm⟩
theorem OwnV.snoc {w3 w4 : World} {u' : Value} {v : Sv} {hd : Hd} {m : Nat} (h : OwnV w lo u vs hs St) (hlo : lo ≤ w.heap.size) (hb : Below w.heap.size w w3) (hO : OwnSaved w3 w.heap.size m hd.1 hd.2.1 v.A hd.2.2.1 hd.2.2.2.1 v.B hd.2.2.2.2.1 hd.2.2.2.2.2 v.W)
    (ho4 : w4.ownsRow lo 34 7 u' (vs.length + 1) (flatC vs hs ++ cells1 v hd)) (hg : w3.grownBy w4 u.ownBlock) (hu : u'.ownBlock = u.ownBlock ∨ u'.ownBlock = some w3.heap.size) : OwnV w4 lo u' (vs ++ [v]) (hs ++ [hd]) (St ++ [(w.heap.size, m)]) := by
  have hub : ∀ b, u.ownBlock = some b → b < w.heap.size := fun b hb => (h.row.lt b hb).2
  have hm := own_hi hO
  refine ⟨by simp [h.lh], by simp [h.ls], ?_, fun k v' h' p h1 h2 h3 => ?_, fun i j p q hij hi hj => ?_⟩
  · rw [flatC_snoc _ _ _ _ h.lh, List.length_append]; exact ho4
  · rcases snoc_at h1 with ⟨k1, e1⟩ | ⟨k1, rfl⟩
    · rcases snoc_at h2 with ⟨k2, e2⟩ | ⟨k2, _⟩
      · rcases snoc_at h3 with ⟨k3, e3⟩ | ⟨k3, _⟩
        · obtain ⟨a1, a2, a3⟩ := h.own k v' h' p e1 e2 e3
          refine ⟨a1, ownS_grown (a2.keep hb) hg a3, fun b hb' => ?_⟩
          rcases hu with hu | hu
          · exact a3 b (by rw [← hu]; exact hb')
          · rw [hu] at hb'
            injection hb' with hb'
            have := own_hi a2
            have := hb.size
            omega
        · have := h.ls; omega
      · have := h.lh; omega
    · rcases snoc_at h2 with ⟨k2, _⟩ | ⟨_, rfl⟩
      · have := h.lh; omega
      · rcases snoc_at h3 with ⟨k3, _⟩ | ⟨_, rfl⟩
        · have := h.ls; omega
        · refine ⟨hlo, ownS_grown hO hg fun b hb' => .inl (hub b hb'), fun b hb' => ?_⟩
          rcases hu with hu | hu
          · exact .inl (hub b (by rw [← hu]; exact hb'))
          · rw [hu] at hb'
            injection hb' with hb'
            have := hb.size
            dsimp only
            omega
  · rcases snoc_at hi with ⟨k1, e1⟩ | ⟨k1, rfl⟩ <;> rcases snoc_at hj with ⟨k2, e2⟩ | ⟨k2, rfl⟩
    · exact h.dis i j p q hij e1 e2
    · have hk : i < vs.length := by rw [h.ls]; exact k1
      have hk2 : i < hs.length := by rw [← h.lh]; exact hk
      obtain ⟨_, a2, _⟩ := h.own i _ _ p (List.getElem?_eq_getElem hk) (List.getElem?_eq_getElem hk2) e1
      exact own_hi a2
    · omega
    · omega
theorem OwnV.rd {a : Option Addr} {n c : Nat} (h : OwnV w lo (.slice a n c) vs hs St) : RdSs w w.heap.size a vs := by
  by_cases hv : vs = []
  · exact .inl hv
  have hpos : 0 < vs.length := List.length_pos_iff.2 hv
  obtain ⟨g, ha, _, hg, hc, _, _⟩ := own_cells h.row hpos
  refine .inr ⟨g, 0, ha, hg, fun k v hk => ?_⟩
  have hkl : k < vs.length := (List.getElem?_eq_some_iff.1 hk).1
  obtain ⟨hd, hh'⟩ : ∃ x, hs[k]? = some x := ⟨_, List.getElem?_eq_getElem (by rw [← h.lh]; exact hkl)⟩
  obtain ⟨p, hp⟩ : ∃ x, St[k]? = some x := ⟨_, List.getElem?_eq_getElem (by rw [← h.ls]; exact hkl)⟩
  obtain ⟨_, o, _⟩ := h.own k v _ _ hk hh' hp
  have fl := flatC_len vs hs h.lh
  have hcell : ∀ j, j < 7 → w.cell? ⟨g, k * 7 + j, none⟩ = (cells1 v hd)[j]? := fun j hj => by
    rw [hc (k * 7 + j) (by omega), flatC_get hk hh' j hj]
  refine ⟨hd.1, hd.2.1, hd.2.2.1, hd.2.2.2.1, hd.2.2.2.2.1, hd.2.2.2.2.2, ?_, ?_, ?_, ?_, ?_, ?_, ?_, o.rd⟩
  all_goals rw [Nat.zero_add]
  · exact hcell 0 (by omega)
  · exact hcell 1 (by omega)
  · exact hcell 2 (by omega)
  · exact hcell 3 (by omega)
  · exact hcell 4 (by omega)
  · exact hcell 5 (by omega)
  · exact hcell 6 (by omega)
end
/-- append of one that lies in a block of its own just made. -/
theorem wpList_append_saved {P : Program} (wr : World) {ops : Array Oper} {rest : List Oper} {o : Oper} {a : Act} {Q : Exit → Act → World → Prop}
    (hg : o.guard = none) (s x : Operand) (t : TypeId) (hop : o.op = Op.call { callee := Callee.builtin Builtin.append, args := #[s, x], argTypes := #[t, t] })
    (base : Nat) (e : TypeId) (z : Value) (bytes : Nat) (h1 : P.underlying t = some (.slice e)) (hinfo : (P.info? e).map (fun i => (i.zero, i.size, i.bytes)) = some (some z, 7, bytes)) (hz : z.cells.size = 7)
    (v : Value) (n : Nat) (xs : List Value) (hs : a.eval s = v) (hown : wr.ownsRow base e 7 v n xs) (b : Nat) (ys : List Value) (hl : ys.length = 7) (hy : ∀ y ∈ ys, y.oneCell' = true)
    (hx : a.eval x = .slice (some ⟨b, 0, none⟩) 1 1) (hcell : Blk wr b ys e) (hb : bytes ≤ 1024) (hn : n ≤ 1048576) (hbase : base ≤ wr.heap.size)
    (hK : ∀ g c w', w'.ownsRow base e 7 (.slice (some ⟨g, 0, none⟩) (n + 1) c) (n + 1) (xs ++ ys) → wr.grownBy w' v.ownBlock → (v.ownBlock = some g ∨ g = wr.heap.size) → wpList P ops Q rest (a.put o.dst (.slice (some ⟨g, 0, none⟩) (n + 1) c)) w') :
    wpList P ops Q (o :: rest) a wr := by
  obtain ⟨i, h2, h3, h4, h5⟩ := info_parts hinfo
  have hbb : (n + 1) * bytes ≤ 140737488355328 := Nat.le_trans (Nat.mul_le_mul_left (n + 1) hb) (by omega)
  refine wpList_append_lies wr hg s x t hop base e i z 7 bytes h1 h2 h3 h4 h5 hz (by omega) v n xs hs hown ⟨b, 0, none⟩ 1 1 ys hx (by omega) (fun j u hj => ?_) hy (by omega) (by unfold maxLen; omega) hbb hbase wr.heap.size rfl (fun g c w' ho hgr hor _ => hK g c w' ho hgr hor)
  rw [add_none2, Nat.zero_add, hcell.cell]; exact hj
end Go.Proofs.Yteclpcmbicjjgaa
