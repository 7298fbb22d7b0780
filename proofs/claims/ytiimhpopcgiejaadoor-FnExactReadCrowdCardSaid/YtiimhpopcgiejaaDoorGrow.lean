/-
  Rows that grow side by side; a row that has grown, opened to be written to.
-/
import Derived.Test.YtiimhpopcgiejaaDoorOwn
namespace Go.Proofs.YtiimhpopcgiejaaDoor
set_option linter.unusedVariables false
set_option linter.unusedSimpArgs false
open Go.RowKit

/-- What append gives back lies where the row lay, or in a block that is new. -/
theorem append_block {P : Program} (w : World) (base : Nat) (t ty e : TypeId) (i : TypeInfo) (z : Value) (ht : P.underlying t = some (.slice e)) (hi : P.info? e = some i) (hz : i.zero = some z) (hsize : i.size = 1)
    (v : Value) (n : Nat) (xs : List Value) (hown : w.ownsRow base e 1 v n xs) (a : Addr) (m c : Nat) (news : List Value) (hl : news.length = m * 1) (hnews : ∀ j u, news[j]? = some u → w.cell? (a.add j) = some u) (h1 : ∀ u ∈ news, u.oneCell' = true)
    (hm : 0 < m) (h63 : n + m ≤ maxLen) (hbytes : (n + m) * i.bytes ≤ 140737488355328) {v' : Value} {w' : World} (hr : (Builtin.append_ #[t, t] ty #[v, .slice (some a) m c]).run P w = .ok v' w') :
    v'.ownBlock = v.ownBlock ∨ v'.ownBlock = some w.heap.size := by
  have hsmall : n + m ≤ 9223372036854775807 := by simp only [maxLen] at h63; omega
  rw [← hsize] at hl
  rcases hown.2 with ⟨rfl, rfl⟩ | ⟨g, cap, cur, rfl, hbg, hg, hnc, hcm, hcs, htake⟩
  · have hr2 := run_append_nil (P := P) w t ty e i z ht hi hz a m c news hl hnews (by omega) (by omega) (by have hb := hbytes; simp only [Nat.zero_add] at hb; omega)
    rw [hr2] at hr
    injection hr with hr _
    subst hr
    exact .inr rfl
  · by_cases hroom : n + m ≤ cap
    · have hfit : n * i.size + news.length ≤ cur.size := by rw [hl, hcs, hsize, ← Nat.add_mul]; exact Nat.mul_le_mul_right _ hroom
      have hr2 := run_append_room (P := P) w t ty e i ht hi g n cap cur hg a m c news hl hnews h1 hroom hfit
      rw [hr2] at hr
      injection hr with hr _
      subst hr
      exact .inl rfl
    · have holds : ∀ j u, xs[j]? = some u → w.cell? ((⟨g, 0, none⟩ : Addr).add j) = some u := hown.cells (g := g) rfl
      have hr2 := run_append_grow (P := P) w t ty e i z ht hi hz ⟨g, 0, none⟩ n cap xs (by rw [hsize]; exact hown.1) holds a m c news hl hnews (by omega) (by omega) (growslice_fits (by omega) hbytes)
      rw [hr2] at hr
      injection hr with hr _
      subst hr
      exact .inr rfl

theorem wpList_append_blk {P : Program} (wr : World) {ops : Array Oper} {rest : List Oper} {o : Oper} {a : Act} {Q : Exit → Act → World → Prop}
    (hg : o.guard = none) (s x : Operand) (t : TypeId) (hop : o.op = Op.call { callee := Callee.builtin Builtin.append, args := #[s, x], argTypes := #[t, t] })
    (base : Nat) (e : TypeId) (z : Value) (bytes : Nat) (h1 : P.underlying t = some (.slice e)) (hinfo : (P.info? e).map (fun i => (i.zero, i.size, i.bytes)) = some (some z, 1, bytes)) (hz : z.cells.size = 1)
    (v : Value) (n : Nat) (xs : List Value) (hs : a.eval s = v) (hown : wr.ownsRow base e 1 v n xs) (y : Value) (hy : y.oneCell' = true)
    (hx : a.eval x = .slice (some ⟨wr.heap.size, 0, none⟩) 1 1) (hb : bytes ≤ 64) (hn : n ≤ 1099511627776) (hbase : base ≤ wr.heap.size)
    (hK : ∀ v' w', w'.ownsRow base e 1 v' (n + 1) (xs ++ [y]) → wr.grownBy w' v.ownBlock → (∀ g, g < wr.heap.size → some g ≠ v.ownBlock → some g ≠ v'.ownBlock) → wpList P ops Q rest (a.put o.dst v') w') :
    wpList P ops Q (o :: rest) a (wr.alloc (.cells #[y] e)) := by
  obtain ⟨i, h2, h3, h4, h5⟩ := info_parts hinfo
  have hbb : (n + 1) * bytes ≤ 140737488355328 := Nat.le_trans (Nat.mul_le_mul_left (n + 1) hb) (by omega)
  have hnews : ∀ j u, [y][j]? = some u → (wr.alloc (.cells #[y] e)).cell? ((⟨wr.heap.size, 0, none⟩ : Addr).add j) = some u := by
    intro j u hj
    match j, hj with
    | 0, hj =>
      simp at hj
      subst hj
      simp [Addr.add]
    | j + 1, hj => simp at hj
  have hone : ∀ u ∈ [y], u.oneCell' = true := by
    intro u hu
    simp at hu
    subst hu
    exact hy
  refine wpList_plain hg fun _ hK' => ?_
  obtain ⟨v', w', hr, ho, hgr, _⟩ := run_append_own (P := P) (wr.alloc (.cells #[y] e)) base t o.type e i z 1 bytes h1 h2 h3 h4 h5 hz (by omega) v n xs (hown.alloc _) ⟨wr.heap.size, 0, none⟩ 1 1 [y] rfl hnews hone (by unfold maxLen; omega) hbb (by simp; omega)
  have hblk := append_block (wr.alloc (.cells #[y] e)) base t o.type e i z h1 h2 h3 h4 v n xs (hown.alloc _) ⟨wr.heap.size, 0, none⟩ 1 1 [y] rfl hnews hone (by omega) (by unfold maxLen; omega) (by rw [h5]; exact hbb) hr
  unfold Oper.wp execOp
  simp only [hop, resolve, invoke, builtin, Sem.run_bind, Sem.run_pure, Result.andThen_ok, List.map_toArray, List.map_cons, List.map_nil, hs, hx, hr]
  refine hK' _ _ (hK v' w' ho ⟨hgr.os, hgr.tape, hgr.output, ?_, fun k hk hne => ?_⟩ fun g hgl hgv hgv' => ?_)
  · have := hgr.size; simp at this; omega
  · rw [hgr.block k (by simp; omega) hne]
    exact Below.heap_alloc _ _ _ hk
  · rcases hblk with h | h
    · exact hgv (hgv'.trans h)
    · rw [h] at hgv'
      injection hgv' with hgv'
      simp at hgv'
      omega

/-- Two rows in blocks of their own. -/
def Apart (u v : Value) : Prop := ∀ g, u.ownBlock = some g → v.ownBlock ≠ some g
theorem Apart.symm {u v : Value} (h : Apart u v) : Apart v u := fun g h1 h2 => h g h2 h1
theorem own_apart {w w' : World} {base e n : Nat} {u v : Value} {xs : List Value} (h : w.ownsRow base e 1 v n xs) (hg : w.grownBy w' u.ownBlock) (ha : Apart u v) : w'.ownsRow base e 1 v n xs := by
  refine h.kept hg ?_
  cases hv : v.ownBlock with
  | none => exact .inl rfl
  | some g => exact .inr (fun e => ha g e.symm hv)
theorem apart_grow {w : World} {base e n : Nat} {u u' v : Value} {xs : List Value} (h : w.ownsRow base e 1 v n xs) (ha : Apart u v) (hn : ∀ g, g < w.heap.size → some g ≠ u.ownBlock → some g ≠ u'.ownBlock) : Apart u' v :=
  fun g hu hv => hn g (h.lt g hv).2 (fun e => ha g e.symm hv) hu.symm
/-- A row of at least one, opened. -/
theorem own_open {w : World} {base e n c : Nat} {a : Option Addr} {xs : List Value} (h : w.ownsRow base e 1 (.slice a n c) n xs) (hn : 0 < n) :
    ∃ g tl, a = some ⟨g, 0, none⟩ ∧ base ≤ g ∧ Blk w g (xs ++ tl) e ∧ n ≤ c ∧ c ≤ maxLen ∧ (xs ++ tl).length = c := by
  rcases h.2 with ⟨h2, h3⟩ | ⟨g, cap, cur, hv, hg, hh, hn2, hm, hs, ht⟩
  · omega
  · injection hv with ha _ hc
    subst ha hc
    rw [Nat.mul_one] at hs ht
    refine ⟨g, cur.toList.drop n, rfl, hg, ?_, hn2, hm, ?_⟩
    · rw [← ht, List.take_append_drop]; exact hh
    · rw [← ht, List.take_append_drop]; simpa using hs
theorem own_close {w : World} {base e n c g : Nat} {xs tl : List Value} (h : Blk w g (xs ++ tl) e) (hg : base ≤ g) (hn : xs.length = n) (hnc : n ≤ c) (hm : c ≤ maxLen) (hl : (xs ++ tl).length = c) : w.ownsRow base e 1 (.slice (some ⟨g, 0, none⟩) n c) n xs :=
  ⟨by omega, .inr ⟨g, c, _, rfl, hg, h, hnc, hm, by simpa using hl, by rw [Nat.mul_one, ← hn]; exact List.take_left⟩⟩
theorem cell_app {w : World} {g T : Nat} {xs : List Int} {tl : List Value} (h : Blk w g (ints xs ++ tl) T) {j : Nat} (hj : j < xs.length) : w.cell? ⟨g, j, none⟩ = some (.int .i64 (xs.getD j 0)) := by
  rw [h.cell, List.getElem?_append_left (by simpa using hj)]
  exact ints_get xs j hj
theorem set_app {w : World} {g T : Nat} {xs : List Int} {tl : List Value} (h : Blk w g (ints xs ++ tl) T) {j : Nat} (hj : j < xs.length) (y : Int) : Blk (w.setCell ⟨g, j, none⟩ (.int .i64 y)) g (ints (xs.set j y) ++ tl) T := by
  have := h.set j (.int .i64 y)
  rwa [List.set_append_left _ _ (by simpa using hj), ← ints_set] at this
theorem rd_app {w : World} {g T B : Nat} {xs tl : List Value} (h : Blk w g (xs ++ tl) T) (hB : g < B) : Rd w B (some ⟨g, 0, none⟩) xs :=
  .inr ⟨g, 0, rfl, hB, fun j hj => by rw [Nat.zero_add, h.cell, List.getElem?_append_left hj]⟩
end Go.Proofs.YtiimhpopcgiejaaDoor
