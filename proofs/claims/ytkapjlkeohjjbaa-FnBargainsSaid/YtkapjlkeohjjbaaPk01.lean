/-
  Part 1 of what the proof stands on: lemmas and contracts, each with its conditions ahead of the colon.
-/
import Derived.WalkKit
import Derived.WalkSpells
import Derived.WalkLawsBesides
import Derived.Deep.QuietTactic
import Derived.BigQuiet
import Derived.Deep.RegionWith
import Derived.Lib.Hide
import Derived.Test.YtkapjlkeohjjbaaRows
namespace Go.Proofs.Ytkapjlkeohjjbaa
set_option linter.unusedVariables false
set_option linter.unusedSimpArgs false
open Go.RowKit

/-- Integers of 64 bits as the cells of a slice. -/
def ints (xs : List Int) : List Value := xs.map (Value.int .i64)
@[simp] theorem ints_length (xs : List Int) : (ints xs).length = xs.length := by simp [ints]
@[simp] theorem ints_nil : ints [] = [] := rfl
theorem ints_get (xs : List Int) (k : Nat) (hk : k < xs.length) : (ints xs)[k]? = some (.int .i64 (xs.getD k 0)) := by
  simp [ints, List.getD, List.getElem?_eq_getElem hk]
theorem ints_append (xs ys : List Int) : ints (xs ++ ys) = ints xs ++ ints ys := by simp [ints]
theorem ints_set (xs : List Int) (k : Nat) (x : Int) : ints (xs.set k x) = (ints xs).set k (.int .i64 x) := by simp [ints, List.map_set]
theorem getD_of_get {xs : List Int} {k : Nat} {x : Int} (h : xs[k]? = some x) : xs.getD k 0 = x := by simp [List.getD, h]
theorem get_of_lt {xs : List Int} {k : Nat} (h : k < xs.length) : xs[k]? = some (xs.getD k 0) := by simp [List.getD, List.getElem?_eq_getElem h]
theorem ints_inj {xs ys : List Int} (h : ints xs = ints ys) : xs = ys := by
  induction xs generalizing ys with
  | nil => cases ys <;> simp_all [ints]
  | cons x xs ih => cases ys with
    | nil => simp [ints] at h
    | cons y ys => simp only [ints, List.map_cons, List.cons.injEq, Value.int.injEq, true_and] at h; rw [h.1, ih h.2]

/-- The slice 'a' reads as the cells 'vs' (one cell an element), in a block below B. -/
def Rd (w : World) (B : Nat) (a : Option Addr) (vs : List Value) : Prop :=
  vs = [] ∨ ∃ b o, a = some ⟨b, o, none⟩ ∧ b < B ∧ ∀ j, j < vs.length → w.cell? ⟨b, o + j, none⟩ = vs[j]?

theorem Rd.mono {w : World} {B B' : Nat} {a : Option Addr} {vs : List Value} (h : Rd w B a vs) (hB : B ≤ B') : Rd w B' a vs := by
  rcases h with h | ⟨b, o, ha, hb, hc⟩
  · exact .inl h
  · exact .inr ⟨b, o, ha, by omega, hc⟩

theorem Rd.below {w w' : World} {B C : Nat} {a : Option Addr} {vs : List Value} (h : Rd w B a vs) (hb : Below C w w') (hB : B ≤ C) : Rd w' B a vs := by
  rcases h with h | ⟨b, o, ha, hb', hc⟩
  · exact .inl h
  · exact .inr ⟨b, o, ha, hb', fun j hj => by rw [hb.cell (p := ⟨b, o + j, none⟩) (by show b < C; omega)]; exact hc j hj⟩

/-- What a slice of integers holds at an index. -/
theorem Rd.at {w : World} {B : Nat} {a : Option Addr} {xs : List Int} (h : Rd w B a (ints xs)) {k : Nat} (hk : k < xs.length) :
    ∃ b o, a = some ⟨b, o, none⟩ ∧ b < B ∧ ∀ j, j < xs.length → w.cell? ⟨b, o + j, none⟩ = some (.int .i64 (xs.getD j 0)) := by
  rcases h with h | ⟨b, o, ha, hb, hc⟩
  · have : (ints xs).length = 0 := by rw [h]; rfl
    simp at this; subst this; simp at hk
  · exact ⟨b, o, ha, hb, fun j hj => by rw [hc j (by simpa using hj)]; exact ints_get xs j hj⟩

/-- .. with the number behind a name, the equation hidden. -/
theorem Rd.get {w : World} {B : Nat} {a : Option Addr} {xs : List Int} (h : Rd w B a (ints xs)) {k : Nat} (hk : k < xs.length) :
    ∃ b o x, a = some ⟨b, o, none⟩ ∧ b < B ∧ w.cell? ⟨b, o + k, none⟩ = some (.int .i64 x) ∧ Hid (xs[k]? = some x) := by
  obtain ⟨b, o, ha, hb, hc⟩ := h.at hk
  exact ⟨b, o, xs.getD k 0, ha, hb, hc k hk, by simp [Hid, List.getD, List.getElem?_eq_getElem hk]⟩

theorem Rd.nil (w : World) (B : Nat) (a : Option Addr) : Rd w B a [] := .inl rfl

/-- An argument that is a slice of integers, as the row's own frame tells it. -/
theorem rd_of_row {w : World} {a : Option Addr} {len cap : Nat} {zs : List Int} (h : (a = none ∧ len = 0 ∧ cap = 0 ∧ zs = []) ∨
    ∃ x, a = some x ∧ len ≤ cap ∧ cap ≤ maxLen ∧ zs.length = cap ∧ (∀ i, i < zs.length → w.cell? (x.add i) = some (.int .i64 (zs.getD i 0))) ∧ ∀ n ∈ zs, (Lit.int .i64 n).wf = true) :
    Rd w w.heap.size a (ints (zs.take len)) ∧ (zs.take len).length = len := by
  rcases h with ⟨rfl, rfl, rfl, rfl⟩ | ⟨x, rfl, h1, h2, h3, h4, _⟩
  · exact ⟨.inl rfl, rfl⟩
  · have hl : (zs.take len).length = len := by simp; omega
    refine ⟨?_, hl⟩
    by_cases h0 : len = 0
    · subst h0; exact .inl rfl
    · have hx := h4 0 (by omega)
      have hx0 : x.add 0 = x := rfl
      rw [hx0] at hx
      obtain ⟨b, o, s⟩ := x
      have hs : s = none := by
        cases s with
        | none => rfl
        | some s =>
          unfold World.cell? at hx
          split at hx <;> simp at hx
      subst hs
      refine .inr ⟨b, o, rfl, World.block_lt_of_cell? w _ hx, fun j hj => ?_⟩
      rw [ints_length, hl] at hj
      have hj2 := h4 j (by omega)
      have ea : (⟨b, o, none⟩ : Addr).add j = ⟨b, o + j, none⟩ := by unfold Addr.add; split <;> simp_all
      rw [ea] at hj2
      rw [hj2, ints_get _ _ (by omega)]
      simp [List.getD, List.getElem?_take, hj]

/-- A block as a whole, nothing of it frozen. -/
def Blk (w : World) (b : Nat) (cs : List Value) (t : TypeId) : Prop := w.heap[b]? = some (.cells cs.toArray t (0, 0))
section
variable {w : World} {b : Nat} {cs : List Value} {t : TypeId}
theorem Blk.cell (h : Blk w b cs t) (j : Nat) : w.cell? ⟨b, j, none⟩ = cs[j]? := by simp [World.cell?, show w.heap[b]? = _ from h]
theorem Blk.has (h : Blk w b cs t) {j : Nat} (hj : j < cs.length) : ∃ v, w.cell? ⟨b, j, none⟩ = some v := ⟨cs[j], by rw [h.cell, List.getElem?_eq_getElem hj]⟩
theorem Blk.free (h : Blk w b cs t) (j : Nat) : w.frozen? ⟨b, j, none⟩ = false := by simp [World.frozen?, show w.heap[b]? = _ from h]
theorem Blk.lt (h : Blk w b cs t) : b < w.heap.size := lt_of_block h
theorem Blk.set (h : Blk w b cs t) (j : Nat) (u : Value) : Blk (w.setCell ⟨b, j, none⟩ u) b (cs.set j u) t := by
  have := heap_setCell_same w b j cs.toArray t u h
  rwa [List.setIfInBounds_toArray] at this
theorem Blk.other (h : Blk w b cs t) {p : Addr} (hp : b ≠ p.block) (u : Value) : Blk (w.setCell p u) b cs t := (Below.heap_setCell w p u b hp).trans h
theorem Blk.oth (h : Blk w b cs t) {g : Nat} (hne : b ≠ g) (j : Nat) (u : Value) : Blk (w.setCell ⟨g, j, none⟩ u) b cs t := h.other (p := ⟨g, j, none⟩) hne u
theorem Blk.alloc (h : Blk w b cs t) (o : Obj) : Blk (w.alloc o) b cs t := (Below.heap_alloc w o b h.lt).trans h
theorem Blk.below {w' : World} {B : Nat} (h : Blk w b cs t) (hb : Below B w w') (hB : b < B) : Blk w' b cs t := (hb.block b hB).trans h
theorem Blk.same {w' : World} (h : Blk w b cs t) (hb : Below w.heap.size w w') : Blk w' b cs t := h.below hb h.lt
theorem Blk.grown {w' : World} {row : Option Nat} (h : Blk w b cs t) (hg : w.grownBy w' row) (hr : some b ≠ row) : Blk w' b cs t := (hg.block b h.lt hr).trans h
theorem Blk.drewN (h : Blk w b cs t) (n : Nat) : Blk (w.drewN n) b cs t := h
theorem Blk.new (w : World) (cs : List Value) (t : TypeId) : Blk (w.alloc (.cells cs.toArray t)) w.heap.size cs t := heap_alloc_new w _
theorem Blk.unique {cs' : List Value} {t' : TypeId} (h : Blk w b cs t) (h' : Blk w b cs' t') : cs = cs' ∧ t = t' := by
  have := h.symm.trans h'
  simpa using this
theorem Blk.rd (h : Blk w b cs t) {B : Nat} (hB : b < B) : Rd w B (some ⟨b, 0, none⟩) cs :=
  .inr ⟨b, 0, rfl, hB, fun j _ => by rw [Nat.zero_add, h.cell]⟩
theorem Blk.at {xs : List Int} (h : Blk w b (ints xs) t) {k : Nat} (hk : k < xs.length) : w.cell? ⟨b, k, none⟩ = some (.int .i64 (xs.getD k 0)) := by
  rw [h.cell]; exact ints_get xs k hk
theorem Blk.setI {xs : List Int} (h : Blk w b (ints xs) t) (j : Nat) (x : Int) : Blk (w.setCell ⟨b, j, none⟩ (.int .i64 x)) b (ints (xs.set j x)) t := by
  rw [ints_set]; exact h.set j _
theorem Blk.owns (h : Blk w b cs t) {base : Nat} (hb : base ≤ b) (hm : cs.length ≤ maxLen) : w.ownsRow base t 1 (.slice (some ⟨b, 0, none⟩) cs.length cs.length) cs.length cs :=
  ⟨by simp, .inr ⟨b, cs.length, cs.toArray, rfl, hb, h, Nat.le_refl _, hm, by simp, List.take_of_length_le (by simp)⟩⟩
end

/-- An owned row reads as its cells. -/
theorem rd_of_own {w : World} {base e : Nat} {a : Option Addr} {n c m : Nat} {xs : List Value} (h : w.ownsRow base e 1 (.slice a n c) m xs) {B : Nat} (hB : w.heap.size ≤ B) : Rd w B a xs := by
  obtain ⟨h1, h2⟩ := h
  rcases h2 with ⟨h2, h3⟩ | ⟨g, cap, cur, hv, hg, hh, hn, hm, hs, ht⟩
  · exact .inl (List.eq_nil_of_length_eq_zero (by omega))
  · injection hv with ha _ _
    refine .inr ⟨g, 0, ha, Nat.lt_of_lt_of_le (lt_of_block hh) hB, fun j hj => ?_⟩
    have hb : Blk w g cur.toList e := hh
    rw [Nat.zero_add, hb.cell, ← ht, List.getElem?_take, if_pos (by rw [h1] at hj; exact hj)]

/-- The shape of an owned slice value. -/
theorem own_shape {w : World} {base e : Nat} {v : Value} {n : Nat} {xs : List Value} (h : w.ownsRow base e 1 v n xs) : ∃ a c, v = .slice a n c ∧ n ≤ c ∧ (a = none → n = 0) := by
  rcases h.2 with ⟨h2, h3⟩ | ⟨g, cap, cur, hv, hg, hh, hn, hm, hs, ht⟩
  · exact ⟨none, 0, by rw [h2, h3], by omega, fun _ => h3⟩
  · exact ⟨_, cap, hv, hn, fun h => by cases h⟩

/-- Writes to one block leave alone what another one owns. -/
theorem own_grown {w w' : World} {base e g : Nat} {v : Value} {n : Nat} {xs : List Value} (h : w.ownsRow base e 1 v n xs) (hg : w.grownBy w' (some g)) (hne : g < base) : w'.ownsRow base e 1 v n xs := by
  refine h.kept hg (.inr fun e => ?_)
  have := h.lt g e
  omega
theorem Rd.grown {w w' : World} {g B : Nat} {a : Option Addr} {vs : List Value} (h : Rd w B a vs) (hg : w.grownBy w' (some g)) (hB : B ≤ g) (hB2 : B ≤ w.heap.size) : Rd w' B a vs := by
  rcases h with h | ⟨b, o, ha, hb, hc⟩
  · exact .inl h
  · exact .inr ⟨b, o, ha, hb, fun j hj => by rw [World.cell?_of_block (w := w) (hg.block b (by omega) (by intro e; injection e; omega))]; exact hc j hj⟩
theorem below_of_grown {w w' : World} {row : Option Nat} {B : Nat} (hg : w.grownBy w' row) (hB : B ≤ w.heap.size) (hr : ∀ k, row = some k → B ≤ k) : Below B w w' := (Below.refl B w).grown hg hB hr

theorem own_below {w w' : World} {base e size : Nat} {v : Value} {n : Nat} {xs : List Value} (h : w.ownsRow base e size v n xs) (hb : Below w.heap.size w w') : w'.ownsRow base e size v n xs :=
  h.kept (row := none) ⟨hb.os, hb.tape, hb.output, hb.size, fun k hk _ => hb.block k hk⟩ (by cases v.ownBlock <;> simp)

theorem own_base {w : World} {base base' e size : Nat} {v : Value} {n : Nat} {xs : List Value} (h : w.ownsRow base e size v n xs) (hb : base' ≤ base) : w.ownsRow base' e size v n xs := by
  refine ⟨h.1, ?_⟩
  rcases h.2 with h | ⟨g, cap, cur, hv, hg, r⟩
  · exact .inl h
  · exact .inr ⟨g, cap, cur, hv, by omega, r⟩

/-- make([]T, n) for an element type of one cell: a block of n zero values. -/
theorem wpList_make_blk {P : Program} (w : World) {ops : Array Oper} {rest : List Oper} {o : Oper} {a : Act} {Q : Exit → Act → World → Prop}
    (hg : o.guard = none) (l c : Operand) (t : TypeId) (hop : o.op = Op.makeSlice t l c)
    (e : TypeId) (z : Value) (bytes : Nat) (h1 : P.underlying t = some (.slice e)) (hinfo : (P.info? e).map (fun i => (i.zero, i.size, i.bytes)) = some (some z, 1, bytes)) (hz : z.cells = #[z])
    (kl kc : IntKind) (n : Nat) (hl : a.eval l = .int kl (n : Int)) (hc : a.eval c = .int kc (n : Int)) (b2 : bytes * n ≤ 281474976710656) (b3 : n ≤ maxLen)
    (hK : ∀ w', Blk w' w.heap.size (List.replicate n z) e → Below w.heap.size w w' → w'.heap.size = w.heap.size + 1 → wpList P ops Q rest (a.put o.dst (.slice (some ⟨w.heap.size, 0, none⟩) n n)) w') :
    wpList P ops Q (o :: rest) a w := by
  obtain ⟨i, h2, h3, h4, h5⟩ := info_parts hinfo
  refine wpList_plain hg fun K hK' => ?_
  have b2' : (i.bytes : Int) * (n : Int) ≤ 281474976710656 := by rw [h5]; have : ((bytes * n : Nat) : Int) ≤ 281474976710656 := by omega
                                                                 rwa [Int.natCast_mul] at this
  have hr := run_make (P := P) w t e i z h1 h2 h3 kl kc n n (by omega) (Int.le_refl _) b2' (by unfold maxLen at b3; omega)
  simp only [Int.toNat_natCast, hz, h4, Nat.mul_one] at hr
  have e1 : madeCells #[z] n = (List.replicate n z).toArray := by rw [← toList_madeCells_one z n]
  rw [e1] at hr
  unfold Oper.wp
  simp [execOp, hop, hl, hc, hr, Result.andThen]
  exact hK' _ _ (by simpa using hK _ (Blk.new w _ e) ((Below.refl _ w).alloc (Nat.le_refl _) _) (by simp))

/-- append of one element (of one cell) to a slice that the call owns: the element lies in a block of its own that has just been made. -/
theorem wpList_append_one {P : Program} (wr : World) {ops : Array Oper} {rest : List Oper} {o : Oper} {a : Act} {Q : Exit → Act → World → Prop}
    (hg : o.guard = none) (s x : Operand) (t : TypeId) (hop : o.op = Op.call { callee := Callee.builtin Builtin.append, args := #[s, x], argTypes := #[t, t] })
    (base : Nat) (e : TypeId) (z : Value) (bytes : Nat) (h1 : P.underlying t = some (.slice e)) (hinfo : (P.info? e).map (fun i => (i.zero, i.size, i.bytes)) = some (some z, 1, bytes)) (hz : z.cells.size = 1)
    (v : Value) (n : Nat) (xs : List Value) (hs : a.eval s = v) (hown : wr.ownsRow base e 1 v n xs) (y : Value) (hy : y.oneCell' = true)
    (hx : a.eval x = .slice (some ⟨wr.heap.size, 0, none⟩) 1 1) (hb : bytes ≤ 64) (hn : n ≤ 1099511627776) (hbase : base ≤ wr.heap.size)
    (hK : ∀ v' w', w'.ownsRow base e 1 v' (n + 1) (xs ++ [y]) → wr.grownBy w' v.ownBlock → wpList P ops Q rest (a.put o.dst v') w') :
    wpList P ops Q (o :: rest) a (wr.alloc (.cells #[y] e)) := by
  obtain ⟨i, h2, h3, h4, h5⟩ := info_parts hinfo
  have hbb : (n + 1) * bytes ≤ 140737488355328 := Nat.le_trans (Nat.mul_le_mul_left (n + 1) hb) (by omega)
  refine wpList_append_own (wr.alloc (.cells #[y] e)) hg s x t hop base e i z 1 bytes h1 h2 h3 h4 h5 hz (by omega) v n xs hs (hown.alloc _) ⟨wr.heap.size, 0, none⟩ 1 1 [y] hx rfl ?_ ?_ (by unfold maxLen; omega) hbb (by simp; omega) ?_
  · intro j u hj
    match j, hj with
    | 0, hj =>
      simp at hj
      subst hj
      simp [Addr.add]
    | j + 1, hj => simp at hj
  · intro u hu
    simp at hu
    subst hu
    exact hy
  · intro v' w' ho hgr _
    refine hK v' w' ho ⟨hgr.os, hgr.tape, hgr.output, ?_, fun k hk hne => ?_⟩
    · have := hgr.size; simp at this; omega
    · rw [hgr.block k (by simp; omega) hne]
      exact Below.heap_alloc _ _ _ hk
/-- '[]T{}': nothing, in a block of its own. -/
theorem own_empty (w : World) (e : Nat) : (w.alloc (.cells #[] e)).ownsRow w.heap.size e 1 (.slice (some ⟨w.heap.size, 0, none⟩) 0 0) 0 [] :=
  World.ownsRow_made w #[] 0 (Nat.le_refl _) (Nat.zero_le _) rfl
theorem own_block_ne {w : World} {base e : Nat} {v : Value} {n g : Nat} {xs : List Value} (h : w.ownsRow base e 1 v n xs) (hg : g < base) : some g ≠ v.ownBlock := by
  intro e1
  have := h.lt g e1.symm
  omega
/-- What an append leaves below the owned stretch. -/
theorem below_append {w wr w' : World} {B base e : Nat} {v : Value} {n : Nat} {xs : List Value} (h : Below B w wr) (ho : wr.ownsRow base e 1 v n xs) (hg : wr.grownBy w' v.ownBlock) (hB : B ≤ base) (hB2 : B ≤ wr.heap.size) : Below B w w' :=
  h.grown hg hB2 fun k hk => Nat.le_trans hB (ho.lt k hk).1

theorem ints_replicate (n : Nat) (x : Int) : List.replicate n (Value.int .i64 x) = ints (List.replicate n x) := by simp [ints]

/-- The k first ones are written, the others are as they were. -/
theorem fill_step {α : Type} (xs : List α) (z : α) (k : Nat) (hk : k < xs.length) (x : α) (hx : xs[k]? = some x) :
    (xs.take k ++ List.replicate (xs.length - k) z).set k x = xs.take (k + 1) ++ List.replicate (xs.length - (k + 1)) z := by
  have e : xs.length - k = (xs.length - (k + 1)) + 1 := by omega
  have hl : (xs.take k).length = k := by simp; omega
  have hx' : xs[k] = x := by rw [List.getElem?_eq_getElem hk] at hx; injection hx
  rw [e, List.replicate_succ, List.set_append_right _ _ (by omega), hl, Nat.sub_self, List.set_cons_zero, List.take_succ_eq_append_getElem hk, hx', List.append_assoc]
  rfl

/-- A callee that leaves the world alone, met in a region that draws: with one count of draws, or with two. -/
theorem qs1 {P : Program} {f : FuncId} {args : Array Value} {w : World} {n : Nat} {v : Value} (h : Calls P f args (w.drewN n) fun e w' => e = .returned v ∧ w.drewN n = w') :
    Calls P f args (w.drewN n) fun e w'' => e = .returned v ∧ ∃ k, w'' = w.drewN k := h.mono fun _ _ h => ⟨h.1, n, h.2.symm⟩
theorem qs2 {P : Program} {f : FuncId} {args : Array Value} {w : World} {m n : Nat} {v : Value} (h : Calls P f args (w.drewN (m + n)) fun e w' => e = .returned v ∧ w.drewN (m + n) = w') :
    Calls P f args (w.drewN (m + n)) fun e w'' => e = .returned v ∧ ∃ k, w'' = w.drewN (m + k) := h.mono fun _ _ h => ⟨h.1, n, h.2.symm⟩
theorem qd1 {P : Program} {f : FuncId} {args : Array Value} {w : World} {n : Nat} {v : Value} (h : Calls P f args (w.drewN n) fun e w' => e = .returned v ∧ ∃ k, w' = (w.drewN n).drewN k) :
    Calls P f args (w.drewN n) fun e w'' => e = .returned v ∧ ∃ k, w'' = w.drewN k := h.mono fun _ _ ⟨h, k, hk⟩ => ⟨h, n + k, by rw [hk, World.drewN_drewN]⟩
theorem qd2 {P : Program} {f : FuncId} {args : Array Value} {w : World} {m n : Nat} {v : Value} (h : Calls P f args (w.drewN (m + n)) fun e w' => e = .returned v ∧ ∃ k, w' = (w.drewN (m + n)).drewN k) :
    Calls P f args (w.drewN (m + n)) fun e w'' => e = .returned v ∧ ∃ k, w'' = w.drewN (m + k) := h.mono fun _ _ ⟨h, k, hk⟩ => ⟨h, n + k, by rw [hk, World.drewN_drewN, Nat.add_assoc]⟩

theorem drewN_below (w : World) (n : Nat) : Below w.heap.size w (w.drewN n) := ⟨rfl, rfl, rfl, Nat.le_refl _, fun _ _ => rfl⟩
theorem grown_of_grown {w w1 w2 : World} {r : Option Nat} (h : w.grownBy w1 r) (h2 : w1.grownBy w2 r) : w.grownBy w2 r :=
  ⟨h2.os.trans h.os, h2.tape.trans h.tape, h2.output.trans h.output, Nat.le_trans h.size h2.size, fun i hi hne => (h2.block i (Nat.lt_of_lt_of_le hi h.size) hne).trans (h.block i hi hne)⟩

theorem ret_int {k : IntKind} {a b : Int} (h : a = b) : Ending.returned (.int k a) = .returned (.int k b) := by rw [h]
theorem ret_bool {a b : Bool} (h : a = b) : Ending.returned (.bool a) = .returned (.bool b) := by rw [h]

theorem take_succ_getD (xs : List Int) (k : Nat) (hk : k < xs.length) : xs.take (k + 1) = xs.take k ++ [xs.getD k 0] := by
  rw [List.take_succ_eq_append_getElem hk]; simp [List.getD, List.getElem?_eq_getElem hk]

/-- The first k of two lists of one length are alike. -/
theorem take_eq_succ {α : Type} {xs ys : List α} {k : Nat} {x y : α} (hx : xs[k]? = some x) (hy : ys[k]? = some y) (h : xs.take k = ys.take k) : xs.take (k + 1) = ys.take (k + 1) ↔ x = y := by
  rw [List.take_add_one, List.take_add_one, hx, hy, h]
  simp

theorem ne_of_get {α : Type} {xs ys : List α} {k : Nat} {x y : α} (hx : xs[k]? = some x) (hy : ys[k]? = some y) (h : x ≠ y) : xs ≠ ys := by
  intro e; subst e; rw [hx] at hy; exact h (by injection hy)

theorem Rd.up {w : World} {a : Option Addr} {vs : List Value} (h : Rd w w.heap.size a vs) (o : Obj) : Rd (w.alloc o) (w.alloc o).heap.size a vs :=
  (h.below ((Below.refl _ w).alloc (Nat.le_refl _) o) (Nat.le_refl _)).mono (by simp)
theorem Rd.to {w w' : World} {a : Option Addr} {vs : List Value} (h : Rd w w.heap.size a vs) (hb : Below w.heap.size w w') : Rd w' w'.heap.size a vs :=
  (h.below hb (Nat.le_refl _)).mono hb.size
theorem below_sto {B : Nat} {a w : World} (h : Below B a w) {g : Nat} (hB : B ≤ g) (j : Nat) (u : Value) : Below B a (w.setCell ⟨g, j, none⟩ u) := h.setCell (p := ⟨g, j, none⟩) hB u
theorem below_drew' {B : Nat} {w w' : World} (h : Below B w w') : Below B w w'.drew := h.drew
theorem bl1 (w : World) (o : Obj) : Below w.heap.size w (w.alloc o) := (Below.refl _ w).alloc (Nat.le_refl _) o
theorem bl2 (w : World) (o p : Obj) : Below w.heap.size w ((w.alloc o).alloc p) := (bl1 w o).alloc (by simp) p
theorem bl3 (w : World) (o p q : Obj) : Below w.heap.size w (((w.alloc o).alloc p).alloc q) := (bl2 w o p).alloc (by simp; omega) q
theorem below_then {w w1 w2 : World} (h : Below w.heap.size w w1) (h2 : Below w1.heap.size w1 w2) : Below w.heap.size w w2 := h.trans (h2.mono h.size)

/-- The answer of a function that gives integers or says no: 'none': nil and false; 'some xs': a new slice of xs and true. -/
def RetI (T : Nat) (w : World) (r : Option (List Int)) (e : Ending) (w' : World) : Prop :=
  Below w.heap.size w w' ∧ match r with
    | none => e = .returned (.tuple #[.slice none 0 0, .bool false])
    | some xs => ∃ a c, e = .returned (.tuple #[.slice a xs.length c, .bool true]) ∧ w'.ownsRow w.heap.size T 1 (.slice a xs.length c) xs.length (ints xs)
theorem RetI.flat {T : Nat} {w w' : World} {r : Option (List Int)} {e : Ending} (h : RetI T w r e w') :
    Below w.heap.size w w' ∧ ∃ a c, e = .returned (.tuple #[.slice a (r.getD []).length c, .bool r.isSome]) ∧ w'.ownsRow w.heap.size T 1 (.slice a (r.getD []).length c) (r.getD []).length (ints (r.getD [])) := by
  refine ⟨h.1, ?_⟩
  have h2 := h.2
  cases r with
  | none => exact ⟨none, 0, h2, World.ownsRow_nil _ _ _ _⟩
  | some xs => exact h2
theorem RetI.no {T : Nat} {w w' : World} (h : Below w.heap.size w w') : RetI T w none (.returned (.tuple #[.slice none 0 0, .bool false])) w' := ⟨h, rfl⟩
theorem RetI.blk {T : Nat} {w w' : World} {g : Nat} {xs : List Int} (hb : Blk w' g (ints xs) T) (hg : w.heap.size ≤ g) (hl : xs.length ≤ 1152921504606846976) (h : Below w.heap.size w w') :
    RetI T w (some xs) (.returned (.tuple #[.slice (some ⟨g, 0, none⟩) xs.length xs.length, .bool true])) w' :=
  ⟨h, _, _, rfl, by have := hb.owns hg (by rw [ints_length]; unfold maxLen; omega); rwa [ints_length] at this⟩

theorem below_drewN {B : Nat} {w w' : World} (h : Below B w w') (n : Nat) : Below B w (w'.drewN n) := ⟨h.os, h.tape, h.output, h.size, h.block⟩

end Go.Proofs.Ytkapjlkeohjjbaa
namespace Go.Proofs.Ytkapjlkeohjjbaa
set_option linter.unusedVariables false
set_option linter.unusedSimpArgs false
open Go.RowKit

/-- n is from lo to hi. -/
def inB (n lo hi : Int) : Bool := decide (lo ≤ n) && decide (n ≤ hi)
theorem inB_iff {n lo hi : Int} : inB n lo hi = true ↔ lo ≤ n ∧ n ≤ hi := by simp [inB]
theorem inB_no {n lo hi : Int} : inB n lo hi = false ↔ ¬ (lo ≤ n ∧ n ≤ hi) := by rw [← inB_iff]; simp
def allIn (xs : List Int) (lo hi : Int) : Bool := xs.all fun x => inB x lo hi
theorem allIn_iff {xs : List Int} {lo hi : Int} : allIn xs lo hi = true ↔ ∀ x ∈ xs, lo ≤ x ∧ x ≤ hi := by simp [allIn, inB_iff]
def manyB (xs : List Int) (few many lo hi : Int) : Bool := inB xs.length few many && allIn xs lo hi
theorem manyB_iff {xs : List Int} {few many lo hi : Int} : manyB xs few many lo hi = true ↔ (few ≤ xs.length ∧ (xs.length : Int) ≤ many) ∧ ∀ x ∈ xs, lo ≤ x ∧ x ≤ hi := by
  simp [manyB, inB_iff, allIn_iff]
/-- The sum as Go reckons it. -/
def wsum (xs : List Int) : Int := xs.foldl (fun s x => wrap64 (s + x)) 0
theorem wsum_snoc (xs : List Int) (x : Int) : wsum (xs ++ [x]) = wrap64 (wsum xs + x) := by simp [wsum]
theorem wsum_from (m : Int) (hm : 0 ≤ m) : ∀ (xs : List Int) (s : Int), (∀ x ∈ xs, -m ≤ x ∧ x ≤ m) → -9223372036854775807 ≤ s - m * xs.length → s + m * xs.length ≤ 9223372036854775807 →
    xs.foldl (fun s x => wrap64 (s + x)) s = s + xs.sum ∧ -(m * xs.length) ≤ xs.sum ∧ xs.sum ≤ m * xs.length
  | [], s, _, _, _ => by simp
  | x :: xs, s, h, h1, h2 => by
    have hx := h x (by simp)
    have e : m * ((x :: xs).length : Int) = m * xs.length + m := by simp [Int.mul_add]
    rw [e] at h1 h2 ⊢
    have hp : 0 ≤ m * (xs.length : Int) := Int.mul_nonneg hm (by omega)
    obtain ⟨i1, i2, i3⟩ := wsum_from m hm xs (s + x) (fun y hy => h y (by simp [hy])) (by omega) (by omega)
    rw [List.foldl_cons, IntWalk.wrap64_in (s + x) (by omega), i1, List.sum_cons]
    exact ⟨by omega, by omega, by omega⟩
theorem wsum_eq (xs : List Int) (m : Int) (hm : 0 ≤ m) (h : ∀ x ∈ xs, -m ≤ x ∧ x ≤ m) (hl : m * xs.length ≤ 9223372036854775807) : wsum xs = xs.sum ∧ -(m * xs.length) ≤ xs.sum ∧ xs.sum ≤ m * xs.length := by
  have := wsum_from m hm xs 0 h (by omega) (by omega)
  rw [Int.zero_add] at this
  exact this

theorem allIn_snoc {xs : List Int} {k : Nat} {x lo hi : Int} (hx : xs[k]? = some x) : allIn (xs.take (k + 1)) lo hi = (allIn (xs.take k) lo hi && inB x lo hi) := by
  rw [List.take_add_one, hx]; simp [allIn]
theorem allIn_false {xs : List Int} {k : Nat} {x lo hi : Int} (hx : xs[k]? = some x) (h : inB x lo hi = false) : allIn xs lo hi = false := by
  rw [← Bool.not_eq_true]
  intro ha
  have := List.all_eq_true.1 ha x (List.mem_of_getElem? hx)
  rw [h] at this; cases this
theorem wsum_take {xs : List Int} {k : Nat} {x : Int} (hx : xs[k]? = some x) : wsum (xs.take (k + 1)) = wrap64 (wsum (xs.take k) + x) := by
  rw [List.take_add_one, hx]; exact wsum_snoc _ _

theorem info_i64p : (Try.prog.info? 2).map (fun i => (i.zero, i.size, i.bytes)) = some (some (.int .i64 0), 1, 8) := by kernel_rfl
theorem within_any (n lo hi : Int) (w : World) :
    Calls Try.prog 54 #[.int .i64 n, .int .i64 lo, .int .i64 hi] w fun e w' => e = .returned (.bool (inB n lo hi)) ∧ w = w' := by
  by_cases h : lo ≤ n
  · have H : Hid (inB n lo hi = decide (n ≤ hi)) := by simp [Hid, inB, h]
    go_enter Try.func54, Try.ntmps54
    go_wp2
    go_ret
    exact ⟨ret_bool H.out.symm, rfl⟩
  · have H : Hid (inB n lo hi = false) := by simp [Hid, inB, h]
    go_enter Try.func54, Try.ntmps54
    go_wp2
    go_ret
    exact ⟨ret_bool H.out.symm, rfl⟩
theorem l00In_any (n lo hi : Int) (w : World) :
    Calls Try.prog 57 #[.int .i64 n, .int .i64 lo, .int .i64 hi] w fun e w' => e = .returned (.bool (inB n lo hi)) ∧ w = w' := by
  by_cases h : lo ≤ n
  · have H : Hid (inB n lo hi = decide (n ≤ hi)) := by simp [Hid, inB, h]
    go_enter Try.func57, Try.ntmps57
    go_wp2
    go_ret
    exact ⟨ret_bool H.out.symm, rfl⟩
  · have H : Hid (inB n lo hi = false) := by simp [Hid, inB, h]
    go_enter Try.func57, Try.ntmps57
    go_wp2
    go_ret
    exact ⟨ret_bool H.out.symm, rfl⟩
theorem areWithin_any (w : World) (a : Option Addr) (c : Nat) (xs : List Int) (lo hi : Int) (h : Rd w w.heap.size a (ints xs)) (hl : xs.length ≤ 1152921504606846976) :
    Calls Try.prog 56 #[.slice a xs.length c, .int .i64 lo, .int .i64 hi] w fun e w' => e = .returned (.bool (allIn xs lo hi)) ∧ w = w' := by
  go_enter Try.func56, Try.ntmps56
  go_wp2
  go_loop [11] (fun i => ∃ k : Nat, k ≤ xs.length ∧ i = .int .i64 k ∧ allIn (xs.take k) lo hi = true) (fun i => xs.length - (intOf i).toNat)
  case atStart => exact ⟨0, Nat.zero_le _, rfl, rfl⟩
  case round =>
    obtain ⟨k, hk, rfl, ha'⟩ := hrel
    have ha := Lib.hid ha'
    clear ha'
    by_cases hlt : k < xs.length
    · obtain ⟨b, o, x, rfl, hbb, hck, hx⟩ := h.get hlt
      clear h
      cases hin : inB x lo hi with
      | true =>
        go_wp2_with (go_at_call 54; refine (within_any _ _ _ _).mono ?_; rintro e w' ⟨rfl, rfl⟩)
        go_round
        case rel => exact ⟨k + 1, by omega, by go_num, by rw [allIn_snoc hx.out, ha.out, hin]; rfl⟩
        case measure => simp [intOf]; omega
      | false =>
        go_wp2_with (go_at_call 54; refine (within_any _ _ _ _).mono ?_; rintro e w' ⟨rfl, rfl⟩)
        go_ret
        exact ⟨ret_bool (allIn_false hx.out hin).symm, rfl⟩
    · have : k = xs.length := by omega
      subst this
      go_wp2
      go_ret
      exact ⟨ret_bool (by rw [← ha.out, List.take_length]), rfl⟩
theorem areMany_any (w : World) (a : Option Addr) (c : Nat) (xs : List Int) (few many lo hi : Int) (h : Rd w w.heap.size a (ints xs)) (hl : xs.length ≤ 1152921504606846976) :
    Calls Try.prog 42 #[.slice a xs.length c, .int .i64 few, .int .i64 many, .int .i64 lo, .int .i64 hi] w fun e w' => e = .returned (.bool (manyB xs few many lo hi)) ∧ w = w' := by
  cases hin : inB xs.length few many with
  | true =>
    have H : Hid (manyB xs few many lo hi = allIn xs lo hi) := by simp [Hid, manyB, hin]
    go_enter Try.func42, Try.ntmps42
    go_wp2_with (first | (go_at_call 54; refine (within_any _ _ _ _).mono ?_; rintro e w' ⟨rfl, rfl⟩) | (go_at_call 56; refine (areWithin_any _ _ _ xs _ _ h hl).mono ?_; rintro e w' ⟨rfl, rfl⟩))
    go_ret
    exact ⟨ret_bool H.out.symm, rfl⟩
  | false =>
    have H : Hid (manyB xs few many lo hi = false) := by simp [Hid, manyB, hin]
    go_enter Try.func42, Try.ntmps42
    go_wp2_with (go_at_call 54; refine (within_any _ _ _ _).mono ?_; rintro e w' ⟨rfl, rfl⟩)
    go_ret
    exact ⟨ret_bool H.out.symm, rfl⟩
theorem sumOf_any (w : World) (a : Option Addr) (c : Nat) (xs : List Int) (h : Rd w w.heap.size a (ints xs)) (hl : xs.length ≤ 1152921504606846976) :
    Calls Try.prog 45 #[.slice a xs.length c] w fun e w' => e = .returned (.int .i64 (wsum xs)) ∧ w = w' := by
  go_enter Try.func45, Try.ntmps45
  go_wp2
  go_loop [3, 8] (fun s i => ∃ k : Nat, k ≤ xs.length ∧ i = .int .i64 k ∧ s = .int .i64 (wsum (xs.take k))) (fun _ i => xs.length - (intOf i).toNat)
  case atStart => exact ⟨0, Nat.zero_le _, rfl, rfl⟩
  case round =>
    obtain ⟨k, hk, rfl, rfl⟩ := hrel
    by_cases hlt : k < xs.length
    · obtain ⟨b, o, x, rfl, hbb, hck, hx⟩ := h.get hlt
      clear h
      go_wp2
      go_round
      case rel => exact ⟨k + 1, by omega, by go_num, by rw [wsum_take hx.out]⟩
      case measure => simp [intOf]; omega
    · have : k = xs.length := by omega
      subst this
      go_wp2
      go_ret
      exact ⟨ret_int (by first | rfl | rw [List.take_length]), rfl⟩
/-- The numbers from 0 to n - 1. -/
def upto (n : Nat) : List Int := (List.range n).map fun (j : Nat) => (j : Int)
theorem upto_length (n : Nat) : (upto n).length = n := by simp [upto]
theorem upto_succ (n : Nat) : upto (n + 1) = upto n ++ [(n : Int)] := by simp [upto, List.range_succ]
theorem upto_get {n j : Nat} (h : j < n) : (upto n)[j]? = some (j : Int) := by simp [upto, h]
set_option maxHeartbeats 1000000 in
theorem counting_any (w : World) (n : Nat) (hn : n ≤ 1048576) :
    Calls Try.prog 31 #[.int .i64 n] w fun e w' => ∃ a c, e = .returned (.slice a n c) ∧ w'.ownsRow w.heap.size 2 1 (.slice a n c) n (ints (upto n)) ∧ Below w.heap.size w w' := by
  go_enter Try.func31, Try.ntmps31
  go_wp2
  go_loopw [3, 7] (fun v i wr => ∃ k : Nat, k ≤ n ∧ i = .int .i64 k ∧ wr.ownsRow w.heap.size 2 1 v k (ints (upto k)) ∧ Below w.heap.size w wr) (fun _ i _ => n - (intOf i).toNat)
  case atStart => exact ⟨0, Nat.zero_le _, rfl, own_empty w _, bl1 w _⟩
  case round =>
    obtain ⟨k, hk, rfl, hown, hw⟩ := hrel
    by_cases hlt : k < n
    · go_wp2_with (at_builtin; refine wpList_append_one _ rfl _ _ 24 rfl w.heap.size 2 (.int .i64 0) 8 Try.underlying24 info_i64p rfl _ k _ rfl hown (.int .i64 k) rfl rfl (by omega) (by omega) hw.size ?_)
      intro v' w1 ho hgr
      have hb := below_append hw hown hgr (Nat.le_refl _) hw.size
      rw [show ints (upto k) ++ [Value.int .i64 k] = ints (upto (k + 1)) from by rw [upto_succ, ints_append]; rfl] at ho
      clear hown hw
      go_wp2
      go_roundw
      case rel => exact ⟨k + 1, by omega, by go_num, ho, hb⟩
      case measure => simp [intOf]; omega
    · have : k = n := by omega
      subst this
      obtain ⟨a, c, rfl, _, _⟩ := own_shape hown
      go_wp2
      go_ret
      exact ⟨a, c, rfl, hown, hw⟩
end Go.Proofs.Ytkapjlkeohjjbaa
namespace Go.Proofs.Ytkapjlkeohjjbaa
set_option linter.unusedVariables false
set_option linter.unusedSimpArgs false
open Go.RowKit

/-- The first index below n for which p says yes; -1 if there is none. -/
def findI (p : Nat → Bool) (n : Nat) : Int := match (List.range n).find? p with
  | some j => j
  | none => -1
theorem findI_here {p : Nat → Bool} {n k : Nat} (hk : k < n) (hp : p k = true) (hb : ∀ j, j < k → p j = false) : findI p n = k := by
  have : (List.range n).find? p = some k := by
    rw [List.find?_range_eq_some]
    exact ⟨hp, by simpa using hk, fun j hj => by simp [hb j hj]⟩
  simp [findI, this]
theorem findI_none {p : Nat → Bool} {n : Nat} (hb : ∀ j, j < n → p j = false) : findI p n = -1 := by
  have : (List.range n).find? p = none := by
    rw [List.find?_eq_none]
    intro j hj
    simp [hb j (by simpa using hj)]
  simp [findI, this]
theorem findI_spec (p : Nat → Bool) (n : Nat) : (∃ k, k < n ∧ p k = true ∧ (∀ j, j < k → p j = false) ∧ findI p n = k) ∨ ((∀ j, j < n → p j = false) ∧ findI p n = -1) := by
  by_cases h : ∃ k, k < n ∧ p k = true
  · obtain ⟨k, hk, hm⟩ : ∃ k, (k < n ∧ p k = true) ∧ ∀ j, j < k → ¬ (j < n ∧ p j = true) := by
      obtain ⟨k, hk⟩ := h
      induction k using Nat.strongRecOn with
      | _ k ih =>
        by_cases hh : ∃ j, j < k ∧ j < n ∧ p j = true
        · obtain ⟨j, h1, h2⟩ := hh; exact ih j h1 h2
        · exact ⟨k, hk, fun j hj hh2 => hh ⟨j, hj, hh2⟩⟩
    have hb : ∀ j, j < k → p j = false := fun j hj => by
      have := hm j hj
      cases hp : p j with
      | false => rfl
      | true => exact absurd ⟨by omega, hp⟩ this
    exact .inl ⟨k, hk.1, hk.2, hb, findI_here hk.1 hk.2 hb⟩
  · have hb : ∀ j, j < n → p j = false := fun j hj => by
      cases hp : p j with
      | false => rfl
      | true => exact absurd ⟨j, hj, hp⟩ h
    exact .inr ⟨hb, findI_none hb⟩
theorem findI_bd (p : Nat → Bool) (n : Nat) : -1 ≤ findI p n ∧ findI p n < n := by
  rcases findI_spec p n with ⟨k, hk, _, _, e⟩ | ⟨_, e⟩ <;> rw [e] <;> omega
def anyI (p : Nat → Bool) (n : Nat) : Bool := decide (0 ≤ findI p n)
theorem anyI_iff {p : Nat → Bool} {n : Nat} : anyI p n = true ↔ ∃ k, k < n ∧ p k = true := by
  unfold anyI
  rw [decide_eq_true_iff]
  rcases findI_spec p n with ⟨k, hk, hp, _, e⟩ | ⟨hb, e⟩
  · rw [e]; exact ⟨fun _ => ⟨k, hk, hp⟩, fun _ => by omega⟩
  · rw [e]
    constructor
    · intro h; omega
    · rintro ⟨k, hk, hp⟩; rw [hb k hk] at hp; cases hp
theorem anyI_no {p : Nat → Bool} {n : Nat} : anyI p n = false ↔ ∀ k, k < n → p k = false := by
  rw [← Bool.not_eq_true, anyI_iff]
  constructor
  · intro h k hk
    cases hp : p k with
    | false => rfl
    | true => exact absurd ⟨k, hk, hp⟩ h
  · rintro h ⟨k, hk, hp⟩; rw [h k hk] at hp; cases hp
theorem range_any (p : Nat → Bool) (n : Nat) : (List.range n).any p = anyI p n := by
  cases h : anyI p n with
  | true =>
    obtain ⟨k, hk, hp⟩ := anyI_iff.1 h
    exact List.any_eq_true.2 ⟨k, by simpa using hk, hp⟩
  | false =>
    rw [List.any_eq_false]
    intro k hk
    rw [anyI_no.1 h k (by simpa using hk)]; simp
theorem findI_congr {p q : Nat → Bool} {n : Nat} (h : ∀ j, j < n → p j = q j) : findI p n = findI q n := by
  unfold findI
  have : ∀ l : List Nat, (∀ j ∈ l, p j = q j) → l.find? p = l.find? q := by
    intro l
    induction l with
    | nil => simp
    | cons x xs ih => intro hl; rw [List.find?_cons, List.find?_cons, hl x (by simp), ih (fun j hj => hl j (by simp [hj]))]
  rw [this _ (fun j hj => h j (by simpa using hj))]

/-- What a slice of one-cell elements holds at an index. -/
theorem Rd.getV {w : World} {B : Nat} {a : Option Addr} {vs : List Value} (h : Rd w B a vs) {k : Nat} (hk : k < vs.length) :
    ∃ b o v, a = some ⟨b, o, none⟩ ∧ b < B ∧ w.cell? ⟨b, o + k, none⟩ = some v ∧ Hid (vs[k]? = some v) := by
  rcases h with h | ⟨b, o, ha, hb, hc⟩
  · subst h; simp at hk
  · exact ⟨b, o, vs[k], ha, hb, by rw [hc k hk, List.getElem?_eq_getElem hk], by simp [Hid, List.getElem?_eq_getElem hk]⟩

/-- The index of a number in a list, -1 if it is not there. -/
def indexI (xs : List Int) (v : Int) : Int := findI (fun j => v == xs.getD j 0) xs.length
def containsI (xs : List Int) (v : Int) : Bool := decide (0 ≤ indexI xs v)
theorem containsI_iff {xs : List Int} {v : Int} : containsI xs v = true ↔ v ∈ xs := by
  show anyI _ _ = true ↔ _
  rw [anyI_iff]
  constructor
  · rintro ⟨k, hk, h⟩
    rw [beq_iff_eq] at h
    rw [h]; exact List.mem_of_getElem? (get_of_lt hk)
  · intro h
    obtain ⟨k, hk, e⟩ := List.getElem_of_mem h
    exact ⟨k, hk, by rw [beq_iff_eq, ← e]; simp [List.getD, hk]⟩

theorem index_any (w : World) (a : Option Addr) (c : Nat) (xs : List Int) (v : Int) (h : Rd w w.heap.size a (ints xs)) (hl : xs.length ≤ 1152921504606846976) :
    Calls Try.prog 67 #[.slice a xs.length c, .int .i64 v] w fun e w' => e = .returned (.int .i64 (indexI xs v)) ∧ w = w' := by
  go_enter Try.func67, Try.ntmps67
  go_wp2
  go_loop [8] (fun i => ∃ k : Nat, k ≤ xs.length ∧ i = .int .i64 k ∧ Hid (∀ j, j < k → (v == xs.getD j 0) = false)) (fun i => xs.length - (intOf i).toNat)
  case atStart => exact ⟨0, Nat.zero_le _, rfl, fun j hj => by omega⟩
  case round =>
    obtain ⟨k, hk, rfl, ha⟩ := hrel
    by_cases hlt : k < xs.length
    · obtain ⟨b, o, x, rfl, hbb, hck, hx⟩ := h.get hlt
      clear h
      cases hin : (v == x) with
      | false =>
        have hF : Hid (∀ j, j < k + 1 → (v == xs.getD j 0) = false) := fun j hj => by
          by_cases e : j = k
          · rw [e, getD_of_get hx.out, hin]
          · exact ha.out j (by omega)
        go_wp2
        go_round
        case rel => exact ⟨k + 1, by omega, by go_num, hF⟩
        case measure => simp [intOf]; omega
      | true =>
        have hF : Hid (indexI xs v = k) := findI_here hlt (by rw [getD_of_get hx.out, hin]) ha.out
        go_wp2
        go_ret
        exact ⟨ret_int hF.out.symm, rfl⟩
    · have : k = xs.length := by omega
      subst this
      have hF : Hid (indexI xs v = -1) := findI_none ha.out
      go_wp2
      go_ret
      exact ⟨ret_int hF.out.symm, rfl⟩
theorem contains_any (w : World) (a : Option Addr) (c : Nat) (xs : List Int) (v : Int) (h : Rd w w.heap.size a (ints xs)) (hl : xs.length ≤ 1152921504606846976) :
    Calls Try.prog 64 #[.slice a xs.length c, .int .i64 v] w fun e w' => e = .returned (.bool (containsI xs v)) ∧ w = w' := by
  go_enter Try.func64, Try.ntmps64
  go_wp2_with (go_at_call 67; refine (index_any _ _ _ xs v h hl).mono ?_; rintro e w' ⟨rfl, rfl⟩)
  go_ret
  exact ⟨rfl, rfl⟩
set_option maxHeartbeats 1000000 in
theorem indexFunc_I (K : Nat) (caps : Array Value) (hK : ∀ (args : Array Value) (w : World), (callFunc K args).run Try.prog w = .ok (.enter K args) w)
    (w : World) (a : Option Addr) (c : Nat) (vs : List Value) (p : Nat → Bool) (h : Rd w w.heap.size a vs) (hl : vs.length ≤ 1152921504606846976)
    (hcall : ∀ w' j v, Below w.heap.size w w' → vs[j]? = some v → Calls Try.prog K (#[v] ++ caps) w' fun e w'' => e = .returned (.bool (p j)) ∧ Below w'.heap.size w' w'') :
    Calls Try.prog 55 #[.slice a vs.length c, .func (.func K) #[] caps] w fun e w' => e = .returned (.int .i64 (findI p vs.length)) ∧ Below w.heap.size w w' := by
  have Hc := Lib.hid hcall
  clear hcall
  go_enter Try.func55, Try.ntmps55
  go_wp2
  go_loopw [8] (fun i wr => ∃ k : Nat, k ≤ vs.length ∧ i = .int .i64 k ∧ Hid (∀ j, j < k → p j = false) ∧ Below w.heap.size w wr) (fun i _ => vs.length - (intOf i).toNat)
  case atStart => exact ⟨0, Nat.zero_le _, rfl, fun j hj => by omega, Below.refl _ _⟩
  case round =>
    obtain ⟨k, hk, rfl, ha, hw⟩ := hrel
    by_cases hlt : k < vs.length
    · obtain ⟨b, o, v, rfl, hbb, hck, hx⟩ := (h.below hw (Nat.le_refl _)).getV hlt
      clear h
      have HC := Lib.hid (Hc.out wr k v hw hx.out)
      cases hin : p k with
      | false =>
        have hF : Hid (∀ j, j < k + 1 → p j = false) := fun j hj => by
          by_cases e : j = k
          · rw [e, hin]
          · exact ha.out j (by omega)
        rw [hin] at HC
        go_wp2_with fail
        refine HC.out.mono ?_
        rintro e w2 ⟨rfl, hb2⟩
        have hw2 := below_then hw hb2
        go_wp2_with fail
        go_roundw
        case rel => exact ⟨k + 1, by omega, by go_num, hF, hw2⟩
        case measure => simp [intOf]; omega
      | true =>
        have hF : Hid (findI p vs.length = k) := findI_here hlt hin ha.out
        rw [hin] at HC
        go_wp2_with fail
        refine HC.out.mono ?_
        rintro e w2 ⟨rfl, hb2⟩
        have hw2 := below_then hw hb2
        go_wp2_with fail
        go_ret
        exact ⟨ret_int hF.out.symm, hw2⟩
    · have : k = vs.length := by omega
      subst this
      have hF : Hid (findI p vs.length = -1) := findI_none ha.out
      go_wp2
      go_ret
      exact ⟨ret_int hF.out.symm, hw⟩
theorem containsFunc_I (K : Nat) (caps : Array Value) (hK : ∀ (args : Array Value) (w : World), (callFunc K args).run Try.prog w = .ok (.enter K args) w)
    (w : World) (a : Option Addr) (c : Nat) (vs : List Value) (p : Nat → Bool) (h : Rd w w.heap.size a vs) (hl : vs.length ≤ 1152921504606846976)
    (hcall : ∀ w' j v, Below w.heap.size w w' → vs[j]? = some v → Calls Try.prog K (#[v] ++ caps) w' fun e w'' => e = .returned (.bool (p j)) ∧ Below w'.heap.size w' w'') :
    Calls Try.prog 35 #[.slice a vs.length c, .func (.func K) #[] caps] w fun e w' => e = .returned (.bool (anyI p vs.length)) ∧ Below w.heap.size w w' := by
  have HI := Lib.hid (indexFunc_I K caps hK w a c vs p h hl hcall)
  clear hcall h hK
  go_enter Try.func35, Try.ntmps35
  go_wp2_with fail
  refine HI.out.mono ?_
  rintro e w1 ⟨rfl, hb⟩
  go_wp2_with fail
  go_ret
  exact ⟨rfl, hb⟩
end Go.Proofs.Ytkapjlkeohjjbaa
namespace Go.Proofs.Ytkapjlkeohjjbaa
set_option linter.unusedVariables false
set_option linter.unusedSimpArgs false
open Go.RowKit

/-- Points of two small numbers each. -/
structure Pts (xs : List Int) (n : Nat) : Prop where
  len : xs.length = 2 * n
  one : 1 ≤ n
  few : n ≤ 8
  sm : ∀ z ∈ xs, 0 ≤ z ∧ z ≤ 19
theorem Pts.at {xs : List Int} {n : Nat} (h : Pts xs n) (j : Nat) : 0 ≤ xs.getD j 0 ∧ xs.getD j 0 ≤ 19 := by
  by_cases hj : j < xs.length
  · rw [List.getD, List.getElem?_eq_getElem hj]; exact h.sm _ (List.getElem_mem hj)
  · rw [List.getD, List.getElem?_eq_none (by omega)]; exact ⟨by decide, by decide⟩
/-- Whether a point has at least what both have. -/
def notW (xs : List Int) (x y : Int) (i : Nat) : Bool := decide (x ≤ xs.getD (2 * i) 0) && decide (y ≤ xs.getD (2 * i + 1) 0)
def betterL (xs : List Int) (x y : Int) (n : Nat) : List Int := ((List.range n).filter (notW xs x y)).map fun (j : Nat) => (j : Int)
theorem betterL_succ (xs : List Int) (x y : Int) (k : Nat) : betterL xs x y (k + 1) = if notW xs x y k then betterL xs x y k ++ [(k : Int)] else betterL xs x y k := by
  unfold betterL
  rw [List.range_succ, List.filter_append]
  by_cases h : notW xs x y k = true
  · rw [if_pos h]; simp [h]
  · rw [if_neg h]; simp [h]
theorem betterL_len (xs : List Int) (x y : Int) (n : Nat) : (betterL xs x y n).length ≤ n := by
  unfold betterL
  rw [List.length_map]
  exact Nat.le_trans (List.length_filter_le _ _) (by simp)
theorem betterL_mem {xs : List Int} {x y : Int} {n : Nat} {z : Int} (h : z ∈ betterL xs x y n) : ∃ j : Nat, z = (j : Int) ∧ j < n ∧ x ≤ xs.getD (2 * j) 0 ∧ y ≤ xs.getD (2 * j + 1) 0 := by
  unfold betterL at h
  obtain ⟨j, hj, rfl⟩ := List.mem_map.1 h
  obtain ⟨h1, h2⟩ := List.mem_filter.1 hj
  unfold notW at h2
  rw [Bool.and_eq_true, decide_eq_true_eq, decide_eq_true_eq] at h2
  exact ⟨j, rfl, List.mem_range.1 h1, h2.1, h2.2⟩
theorem betterL_of {xs : List Int} {x y : Int} {n j : Nat} (h : j < n) (h1 : x ≤ xs.getD (2 * j) 0) (h2 : y ≤ xs.getD (2 * j + 1) 0) : (j : Int) ∈ betterL xs x y n := by
  unfold betterL
  refine List.mem_map.2 ⟨j, List.mem_filter.2 ⟨List.mem_range.2 h, ?_⟩, rfl⟩
  unfold notW
  rw [decide_eq_true h1, decide_eq_true h2]; rfl
/-- The first with the greatest gain so far. -/
def bestL (g : Nat → Int) (l : List Int) : Int × Int := l.foldl (fun s i => if s.1 < 0 ∨ s.2 < g i.toNat then (i, g i.toNat) else s) (-1, 0)
theorem bestL_snoc (g : Nat → Int) (l : List Int) (i : Int) : bestL g (l ++ [i]) = if (bestL g l).1 < 0 ∨ (bestL g l).2 < g i.toNat then (i, g i.toNat) else bestL g l := by
  unfold bestL
  rw [List.foldl_append]; rfl
def gainF (xs : List Int) (x y : Int) (f : Int → Int → Int) (i : Nat) : Int := f (xs.getD (2 * i) 0 - x) (xs.getD (2 * i + 1) 0 - y)
def greatF (xs : List Int) (x y : Int) (n : Nat) (f : Int → Int → Int) : Int := (bestL (gainF xs x y f) (betterL xs x y n)).1
def greatR (xs : List Int) (x y : Int) (n : Nat) (f : Int → Int → Int) : Int := if 0 < (betterL xs x y n).length then greatF xs x y n f else 0
def someB (xs : List Int) (x y : Int) (n : Nat) : Bool := decide (0 < (betterL xs x y n).length)
theorem bestL_bd (g : Nat → Int) (m : Int) (l : List Int) (h : ∀ i ∈ l, 0 ≤ i ∧ i ≤ 8 ∧ 0 ≤ g i.toNat ∧ g i.toNat ≤ m) (hm : 0 ≤ m) : (-1 ≤ (bestL g l).1 ∧ (bestL g l).1 ≤ 8) ∧ (0 ≤ (bestL g l).2 ∧ (bestL g l).2 ≤ m) ∧ (l ≠ [] → 0 ≤ (bestL g l).1) := by
  have key : ∀ (l : List Int) (s : Int × Int), (∀ i ∈ l, 0 ≤ i ∧ i ≤ 8 ∧ 0 ≤ g i.toNat ∧ g i.toNat ≤ m) → (-1 ≤ s.1 ∧ s.1 ≤ 8) → (0 ≤ s.2 ∧ s.2 ≤ m) → ∀ r, r = l.foldl (fun s i => if s.1 < 0 ∨ s.2 < g i.toNat then (i, g i.toNat) else s) s → (-1 ≤ r.1 ∧ r.1 ≤ 8) ∧ (0 ≤ r.2 ∧ r.2 ≤ m) ∧ (0 ≤ s.1 ∨ l ≠ [] → 0 ≤ r.1) := by
    intro l
    induction l with
    | nil =>
      intro s _ h1 h2 r hr
      subst hr
      exact ⟨h1, h2, fun h => by rcases h with h | h; exact h; exact absurd rfl h⟩
    | cons i l ih =>
      intro s h h1 h2 r hr
      obtain ⟨i1, i2, i3, i4⟩ := h i (by simp)
      rw [List.foldl_cons] at hr
      have hl := fun j hj => h j (List.mem_cons_of_mem _ hj)
      split at hr
      · obtain ⟨a1, a2, a3⟩ := ih _ hl (by simp only; omega) ⟨i3, i4⟩ r hr
        exact ⟨a1, a2, fun _ => a3 (.inl i1)⟩
      · rename_i hn
        obtain ⟨a1, a2, a3⟩ := ih _ hl h1 h2 r hr
        exact ⟨a1, a2, fun _ => a3 (.inl (by omega))⟩
  obtain ⟨a1, a2, a3⟩ := key l (-1, 0) h ⟨by decide, by decide⟩ ⟨by decide, hm⟩ _ rfl
  exact ⟨a1, a2, fun hl => a3 (.inr hl)⟩
/-- Whether one point is beaten by another. -/
def domB (xs : List Int) (i k : Nat) : Bool := decide (xs.getD (2 * i) 0 ≤ xs.getD (2 * k) 0) && decide (xs.getD (2 * i + 1) 0 ≤ xs.getD (2 * k + 1) 0) && (decide (xs.getD (2 * i) 0 < xs.getD (2 * k) 0) || decide (xs.getD (2 * i + 1) 0 < xs.getD (2 * k + 1) 0))
def rimF (xs : List Int) (n : Nat) : List Int := ((List.range n).filter fun i => !anyI (domB xs i) n).map fun (j : Nat) => (j : Int)
theorem rimF_len (xs : List Int) (n : Nat) : (rimF xs n).length ≤ n := by
  unfold rimF
  rw [List.length_map]
  exact Nat.le_trans (List.length_filter_le _ _) (by simp)
end Go.Proofs.Ytkapjlkeohjjbaa
namespace Go.Proofs.Ytkapjlkeohjjbaa
set_option linter.unusedVariables false
set_option linter.unusedSimpArgs false
open Go.RowKit

def hasB (xs : List Int) (n : Int) : Bool := xs.any fun x => x == n
theorem hasB_iff {xs : List Int} {n : Int} : hasB xs n = true ↔ n ∈ xs := by simp [hasB]
theorem hasB_no {xs : List Int} {n : Int} : hasB xs n = false ↔ n ∉ xs := by rw [← hasB_iff]; simp
theorem hasB_snoc {xs : List Int} {k : Nat} {x n : Int} (hx : xs[k]? = some x) : hasB (xs.take (k + 1)) n = (hasB (xs.take k) n || (x == n)) := by
  rw [List.take_add_one, hx]; simp [hasB]
theorem hasB_take {xs : List Int} {k : Nat} {x n : Int} (hx : xs[k]? = some x) (h : (x == n) = true) : hasB xs n = true := by
  rw [hasB_iff]; rw [beq_iff_eq] at h; rw [← h]; exact List.mem_of_getElem? hx
/-- All numbers are from 0 to n - 1, each at most once. -/
def onceB (xs : List Int) (n : Nat) : Bool := allIn xs 0 (n - 1) && decide xs.Nodup
def orderB (xs : List Int) (n : Nat) : Bool := onceB xs n && decide (xs.length = n)
theorem orderB_iff {xs : List Int} {n : Nat} : orderB xs n = true ↔ (∀ x ∈ xs, 0 ≤ x ∧ x < n) ∧ xs.Nodup ∧ xs.length = n := by
  simp only [orderB, onceB, Bool.and_eq_true, allIn_iff, decide_eq_true_iff, and_assoc]
  constructor
  · rintro ⟨h1, h2, h3⟩; exact ⟨fun x hx => by have := h1 x hx; omega, h2, h3⟩
  · rintro ⟨h1, h2, h3⟩; exact ⟨fun x hx => by have := h1 x hx; omega, h2, h3⟩
theorem nodup_take_succ {xs : List Int} {k : Nat} {x : Int} (hx : xs[k]? = some x) : (xs.take (k + 1)).Nodup ↔ (xs.take k).Nodup ∧ x ∉ xs.take k := by
  rw [List.take_add_one, hx]
  simp only [Option.toList_some, List.nodup_append, List.nodup_cons, List.not_mem_nil, not_false_eq_true, List.nodup_nil, and_self, true_and]
  constructor
  · rintro ⟨h1, h2⟩; exact ⟨h1, fun h => h2 x h x (by simp) rfl⟩
  · rintro ⟨h1, h2⟩; exact ⟨h1, fun a ha b hb e => by simp at hb; subst hb; subst e; exact h2 ha⟩
theorem not_nodup_of {xs : List Int} {k : Nat} {x : Int} (hx : xs[k]? = some x) (h : x ∈ xs.take k) : ¬ xs.Nodup := by
  intro hn
  have h2 : (xs.take (k + 1)).Nodup := hn.sublist (List.take_sublist _ _)
  exact ((nodup_take_succ hx).1 h2).2 h
theorem onceB_step {xs : List Int} {k n : Nat} {x : Int} (hx : xs[k]? = some x) (h : onceB (xs.take k) n = true) (h1 : inB x 0 (n - 1) = true) (h2 : hasB (xs.take k) x = false) : onceB (xs.take (k + 1)) n = true := by
  simp only [onceB, Bool.and_eq_true, decide_eq_true_iff] at h ⊢
  exact ⟨by rw [allIn_snoc hx, h.1, h1]; rfl, (nodup_take_succ hx).2 ⟨h.2, hasB_no.1 h2⟩⟩
theorem onceB_out {xs : List Int} {k n : Nat} {x : Int} (hx : xs[k]? = some x) (h1 : inB x 0 (n - 1) = false) : onceB xs n = false := by
  simp [onceB, allIn_false hx h1]
theorem onceB_dup {xs : List Int} {k n : Nat} {x : Int} (hx : xs[k]? = some x) (h2 : hasB (xs.take k) x = true) : onceB xs n = false := by
  simp [onceB, not_nodup_of hx (hasB_iff.1 h2)]

/-- The beginning of a slice. -/
theorem Rd.take {w : World} {B : Nat} {a : Option Addr} {xs : List Int} (h : Rd w B a (ints xs)) (k : Nat) : Rd w B a (ints (xs.take k)) := by
  rcases h with h | ⟨b, o, ha, hb, hc⟩
  · have : (ints xs).length = 0 := by rw [h]; rfl
    simp at this; subst this; exact .inl (by simp)
  · refine .inr ⟨b, o, ha, hb, fun j hj => ?_⟩
    have hj' : j < (ints xs).length := by simp at hj ⊢; omega
    rw [hc j hj']
    simp only [ints, List.map_take, List.getElem?_take]
    rw [if_pos (by simp at hj; omega)]

/-- Which numbers have been seen among the first k. -/
def seenL (n : Nat) (xs : List Int) (k : Nat) : List Value := (List.range n).map fun (j : Nat) => .bool (hasB (xs.take k) j)
theorem seenL_length (n : Nat) (xs : List Int) (k : Nat) : (seenL n xs k).length = n := by simp [seenL]
theorem seenL_zero (n : Nat) (xs : List Int) : seenL n xs 0 = List.replicate n (.bool false) := by
  apply List.ext_getElem?
  intro j
  simp only [seenL, List.getElem?_map, List.getElem?_range, List.getElem?_replicate]
  by_cases h : j < n <;> simp [h, hasB]
theorem seenL_get (n : Nat) (xs : List Int) (k j : Nat) (h : j < n) : (seenL n xs k)[j]? = some (.bool (hasB (xs.take k) j)) := by
  simp [seenL, h]
theorem seenL_set {n : Nat} {xs : List Int} {k q : Nat} (hx : xs[k]? = some (q : Int)) : (seenL n xs k).set q (.bool true) = seenL n xs (k + 1) := by
  apply List.ext_getElem?
  intro j
  rw [List.getElem?_set]
  by_cases h : q = j
  · subst h
    rw [if_pos rfl, seenL_length]
    by_cases hq : q < n
    · rw [if_pos hq, seenL_get _ _ _ _ hq, hasB_snoc hx]; simp
    · rw [if_neg hq, List.getElem?_eq_none (by rw [seenL_length]; omega)]
  · rw [if_neg h]
    by_cases hj : j < n
    · rw [seenL_get _ _ _ _ hj, seenL_get _ _ _ _ hj, hasB_snoc hx]
      have : ((q : Int) == (j : Int)) = false := by simp; omega
      rw [this, Bool.or_false]
    · rw [List.getElem?_eq_none (by rw [seenL_length]; omega), List.getElem?_eq_none (by rw [seenL_length]; omega)]
theorem info_bool : (Try.prog.info? 4).map (fun i => (i.zero, i.size, i.bytes)) = some (some (.bool false), 1, 1) := by kernel_rfl
set_option maxHeartbeats 2000000 in
theorem isAll_any (w : World) (a : Option Addr) (c : Nat) (xs : List Int) (h : Rd w w.heap.size a (ints xs)) (hl : xs.length ≤ 1048576) :
    Calls Try.prog 49 #[.slice a xs.length c] w fun e w' => e = .returned (.bool (onceB xs xs.length)) ∧ Below w.heap.size w w' := by
  go_enter Try.func49, Try.ntmps49
  go_wp2_with (at_make; refine wpList_make_blk _ rfl _ _ 79 rfl 4 (.bool false) 1 Try.underlying79 info_bool rfl _ _ xs.length rfl rfl (by omega) (by unfold maxLen; omega) ?_)
  intro w1 hb1 hw1 hs1
  rw [← seenL_zero xs.length xs] at hb1
  go_wp2
  go_loopw [11] (fun i wr => ∃ k : Nat, k ≤ xs.length ∧ i = .int .i64 k ∧ onceB (xs.take k) xs.length = true ∧ Blk wr w.heap.size (seenL xs.length xs k) 4 ∧ Below w.heap.size w wr) (fun i _ => xs.length - (intOf i).toNat)
  case atStart => exact ⟨0, Nat.zero_le _, rfl, by simp [onceB, allIn], hb1, hw1⟩
  case round =>
    clear hb1 hw1 hs1
    obtain ⟨k, hk, rfl, ha', hb, hw⟩ := hrel
    have ha := Lib.hid ha'
    clear ha'
    by_cases hlt : k < xs.length
    · obtain ⟨b, o, x, rfl, hbb, hck, hx⟩ := (h.below hw (Nat.le_refl _)).get hlt
      have L1 := Lib.hid (fun v => within_any x 0 (xs.length - 1) v)
      cases hin : inB x 0 (xs.length - 1) with
      | false =>
        rw [hin] at L1
        have hF := Lib.hid (onceB_out hx.out hin)
        clear h hb
        go_wp2_with (go_at_call 54; refine (L1.out _).mono ?_; rintro e w' ⟨rfl, rfl⟩)
        go_ret
        exact ⟨ret_bool hF.out.symm, hw⟩
      | true =>
        obtain ⟨h0, h1⟩ := inB_iff.1 hin
        obtain ⟨q, rfl⟩ := Int.eq_ofNat_of_zero_le h0
        rw [hin] at L1
        have hq : q < xs.length := by omega
        have hcell := hb.cell q
        rw [seenL_get _ _ _ _ hq] at hcell
        cases hh : hasB (xs.take k) q with
        | true =>
          rw [hh] at hcell
          have hF := Lib.hid (onceB_dup (n := xs.length) hx.out hh)
          clear h hb
          go_wp2_with (go_at_call 54; refine (L1.out _).mono ?_; rintro e w' ⟨rfl, rfl⟩)
          go_ret
          exact ⟨ret_bool hF.out.symm, hw⟩
        | false =>
          rw [hh] at hcell
          have hfr := hb.free q
          have hset := hb.set q (.bool true)
          rw [seenL_set hx.out] at hset
          have hbel := below_sto hw (Nat.le_refl _) q (.bool true)
          have hF := Lib.hid (onceB_step hx.out ha.out hin hh)
          clear h hb hw
          go_wp2_with (go_at_call 54; refine (L1.out _).mono ?_; rintro e w' ⟨rfl, rfl⟩)
          go_roundw
          case rel => exact ⟨k + 1, by omega, by go_num, hF.out, hset, hbel⟩
          case measure => simp [intOf]; omega
    · have : k = xs.length := by omega
      subst this
      rw [List.take_length] at ha
      go_wp2
      go_ret
      exact ⟨ret_bool ha.out.symm, hw⟩
end Go.Proofs.Ytkapjlkeohjjbaa
namespace Go.Proofs.Ytkapjlkeohjjbaa
set_option linter.unusedVariables false
set_option linter.unusedSimpArgs false
open Go.RowKit

/-- Only blocks from lo to hi (hi not among them) may have turned; new ones may have come. -/
structure Touch (w w' : World) (lo hi : Nat) : Prop where
  os : w'.os = w.os
  tape : w'.tape = w.tape
  output : w'.output = w.output
  size : w.heap.size ≤ w'.heap.size
  block : ∀ k, k < w.heap.size → (k < lo ∨ hi ≤ k) → w'.heap[k]? = w.heap[k]?

theorem Touch.refl (w : World) (lo hi : Nat) : Touch w w lo hi := ⟨rfl, rfl, rfl, Nat.le_refl _, fun _ _ _ => rfl⟩
theorem Touch.of_grown {w w' : World} {g lo hi : Nat} (h : w.grownBy w' (some g)) (h1 : lo ≤ g) (h2 : g < hi) : Touch w w' lo hi :=
  ⟨h.os, h.tape, h.output, h.size, fun k hk hd => h.block k hk (by intro e; injection e; omega)⟩
theorem Touch.trans {a b c : World} {lo hi : Nat} (h : Touch a b lo hi) (k : Touch b c lo hi) : Touch a c lo hi :=
  ⟨k.os.trans h.os, k.tape.trans h.tape, k.output.trans h.output, Nat.le_trans h.size k.size, fun i hi hd => (k.block i (Nat.lt_of_lt_of_le hi h.size) hd).trans (h.block i hi hd)⟩
theorem Touch.mono {w w' : World} {lo hi lo' hi' : Nat} (h : Touch w w' lo hi) (h1 : lo' ≤ lo) (h2 : hi ≤ hi') : Touch w w' lo' hi' :=
  ⟨h.os, h.tape, h.output, h.size, fun k hk hd => h.block k hk (by omega)⟩
theorem Below.touch {w w' : World} (h : Below w.heap.size w w') (lo hi : Nat) : Touch w w' lo hi := ⟨h.os, h.tape, h.output, h.size, fun k hk _ => h.block k hk⟩
theorem below_touch {B lo hi : Nat} {w w1 w2 : World} (h : Below B w w1) (ht : Touch w1 w2 lo hi) (hB : B ≤ lo) (hB2 : B ≤ w1.heap.size) : Below B w w2 :=
  h.trans ⟨ht.os, ht.tape, ht.output, ht.size, fun k hk => ht.block k (by omega) (.inl (by omega))⟩

theorem Rd.touch {w w' : World} {lo hi B : Nat} {a : Option Addr} {vs : List Value} (h : Rd w B a vs) (ht : Touch w w' lo hi) (hB : B ≤ lo) (hs : B ≤ w.heap.size) : Rd w' B a vs := by
  rcases h with h | ⟨b, o, ha, hb, hc⟩
  · exact .inl h
  · exact .inr ⟨b, o, ha, hb, fun j hj => by rw [World.cell?_of_block (w := w) (ht.block b (by omega) (.inl (by omega)))]; exact hc j hj⟩
theorem Blk.touch {w w' : World} {lo hi b : Nat} {cs : List Value} {t : TypeId} (h : Blk w b cs t) (ht : Touch w w' lo hi) (hd : b < lo ∨ hi ≤ b) : Blk w' b cs t := (ht.block b h.lt hd).trans h

/-- A slice of integers that lies in a stretch of its own. -/
def OwnI (T : Nat) (w : World) (lo hi : Nat) (a : Option Addr) (c : Nat) (xs : List Int) : Prop :=
  w.ownsRow lo T 1 (.slice a xs.length c) xs.length (ints xs) ∧ ∀ b, a = some b → b.block < hi

section
variable {T lo hi c : Nat} {w w' : World} {a : Option Addr} {xs : List Int}
theorem OwnI.of_own (h : w.ownsRow lo T 1 (.slice a xs.length c) xs.length (ints xs)) : OwnI T w lo w.heap.size a c xs :=
  ⟨h, fun b hb => (h.lt b.block (by simp [Value.ownBlock, hb])).2⟩
theorem OwnI.of_blk {b : Nat} (h : Blk w b (ints xs) T) (hl : xs.length ≤ 1152921504606846976) : OwnI T w b (b + 1) (some ⟨b, 0, none⟩) xs.length xs :=
  ⟨by have := h.owns (Nat.le_refl b) (by rw [ints_length]; unfold maxLen; omega); rwa [ints_length] at this, fun _ hb => by injection hb with hb; subst hb; show b < b + 1; omega⟩
theorem OwnI.rd (h : OwnI T w lo hi a c xs) : Rd w hi a (ints xs) := by
  rcases rd_of_own h.1 (Nat.le_refl _) with h' | ⟨b, o, ha, hb, hc⟩
  · exact .inl h'
  · exact .inr ⟨b, o, ha, h.2 _ ha, hc⟩
theorem OwnI.cap (h : OwnI T w lo hi a c xs) : xs.length ≤ c := by
  obtain ⟨a', c', e, h2, _⟩ := own_shape h.1
  injection e with _ _ e
  omega
theorem OwnI.keep (h : OwnI T w lo hi a c xs) (hb : Below w.heap.size w w') : OwnI T w' lo hi a c xs := ⟨own_below h.1 hb, h.2⟩
theorem OwnI.touch {lo' hi' : Nat} (h : OwnI T w lo hi a c xs) (ht : Touch w w' lo' hi') (hd : hi ≤ lo' ∨ hi' ≤ lo) : OwnI T w' lo hi a c xs := by
  refine ⟨⟨h.1.1, ?_⟩, h.2⟩
  rcases h.1.2 with h2 | ⟨g, cap, cur, hv, hg, hh, r⟩
  · exact .inl h2
  · have h3 : g < hi := by
      injection hv with ha _ _
      exact h.2 _ ha
    refine .inr ⟨g, cap, cur, hv, hg, ?_, r⟩
    rw [ht.block g (lt_of_block hh) (by omega)]
    exact hh
theorem OwnI.mono {lo' hi' : Nat} (h : OwnI T w lo hi a c xs) (h1 : lo' ≤ lo) (h2 : hi ≤ hi') : OwnI T w lo' hi' a c xs :=
  ⟨own_base h.1 h1, fun b hb => Nat.lt_of_lt_of_le (h.2 b hb) h2⟩
end
end Go.Proofs.Ytkapjlkeohjjbaa
namespace Go.Proofs.Ytkapjlkeohjjbaa
set_option linter.unusedVariables false
set_option linter.unusedSimpArgs false
open Go.RowKit

/-- A slice of slices of integers reads as lists. -/
def RdII (w : World) (B : Nat) (a : Option Addr) (yss : List (List Int)) : Prop :=
  ∃ vs : List Value, vs.length = yss.length ∧ Rd w B a vs ∧ ∀ (k : Nat) (ys : List Int), yss[k]? = some ys → ∃ (a' : Option Addr) (c' : Nat), vs[k]? = some (Value.slice a' ys.length c') ∧ ys.length ≤ c' ∧ Rd w B a' (ints ys)
theorem RdII.below {w w' : World} {B C : Nat} {a : Option Addr} {yss : List (List Int)} (h : RdII w B a yss) (hb : Below C w w') (hB : B ≤ C) : RdII w' B a yss := by
  obtain ⟨vs, h1, h2, h3⟩ := h
  exact ⟨vs, h1, h2.below hb hB, fun k ys hk => let ⟨a', c', e1, e2, e3⟩ := h3 k ys hk; ⟨a', c', e1, e2, e3.below hb hB⟩⟩
theorem RdII.mono {w : World} {B C : Nat} {a : Option Addr} {yss : List (List Int)} (h : RdII w B a yss) (hB : B ≤ C) : RdII w C a yss := by
  obtain ⟨vs, h1, h2, h3⟩ := h
  exact ⟨vs, h1, h2.mono hB, fun k ys hk => let ⟨a', c', e1, e2, e3⟩ := h3 k ys hk; ⟨a', c', e1, e2, e3.mono hB⟩⟩
theorem RdII.to {w w' : World} {a : Option Addr} {yss : List (List Int)} (h : RdII w w.heap.size a yss) (hb : Below w.heap.size w w') : RdII w' w'.heap.size a yss := (h.below hb (Nat.le_refl _)).mono hb.size
theorem RdII.touch {w w' : World} {lo hi B : Nat} {a : Option Addr} {yss : List (List Int)} (h : RdII w B a yss) (ht : Touch w w' lo hi) (hB : B ≤ lo) (hs : B ≤ w.heap.size) : RdII w' B a yss := by
  obtain ⟨vs, h1, h2, h3⟩ := h
  exact ⟨vs, h1, h2.touch ht hB hs, fun k ys hk => let ⟨a', c', e1, e2, e3⟩ := h3 k ys hk; ⟨a', c', e1, e2, e3.touch ht hB hs⟩⟩
theorem RdII.get {w : World} {B : Nat} {a : Option Addr} {yss : List (List Int)} (h : RdII w B a yss) {k : Nat} (hk : k < yss.length) :
    ∃ b o ys a' c', a = some ⟨b, o, none⟩ ∧ b < B ∧ w.cell? ⟨b, o + k, none⟩ = some (.slice a' ys.length c') ∧ ys.length ≤ c' ∧ Rd w B a' (ints ys) ∧ Hid (yss[k]? = some ys) := by
  obtain ⟨vs, h1, h2, h3⟩ := h
  obtain ⟨b, o, v, ha, hb, hc, hv⟩ := h2.getV (k := k) (by omega)
  obtain ⟨a', c', e1, e2, e3⟩ := h3 k yss[k] (List.getElem?_eq_getElem hk)
  have hv' := hv.out
  rw [e1] at hv'
  injection hv' with hv'
  exact ⟨b, o, yss[k], a', c', ha, hb, by rw [hc, hv'], e2, e3, by simp [Hid, List.getElem?_eq_getElem hk]⟩

/-- How many are on each ballot. -/
def wide (yss : List (List Int)) : Nat := (yss.headD []).length
def ballotsB (yss : List (List Int)) : Bool := decide (1 ≤ yss.length) && decide (yss.length ≤ 32) && decide (1 ≤ wide yss) && decide (wide yss ≤ 12) && yss.all fun b => orderB b (wide yss)
theorem wide_of_get {yss : List (List Int)} {ys : List Int} (h : yss[0]? = some ys) : wide yss = ys.length := by
  cases yss with
  | nil => simp at h
  | cons x xs => simp at h; simp [wide, h]
theorem ballotsB_iff {yss : List (List Int)} : ballotsB yss = true ↔ (1 ≤ yss.length ∧ yss.length ≤ 32) ∧ (1 ≤ wide yss ∧ wide yss ≤ 12) ∧ ∀ b ∈ yss, orderB b (wide yss) = true := by
  simp only [ballotsB, Bool.and_eq_true, decide_eq_true_iff, List.all_eq_true, and_assoc]
theorem ballotsB_all {yss : List (List Int)} (h1 : 1 ≤ yss.length) (h2 : yss.length ≤ 32) (h3 : 1 ≤ wide yss) (h4 : wide yss ≤ 12) : ballotsB yss = yss.all fun b => orderB b (wide yss) := by
  simp [ballotsB, h1, h2, h3, h4]
theorem all_take_succ {α : Type} {xs : List α} {k : Nat} {x : α} {p : α → Bool} (hx : xs[k]? = some x) (h : (xs.take k).all p = true) (h2 : p x = true) : (xs.take (k + 1)).all p = true := by
  rw [List.take_add_one, hx]; simp [h2] at *; exact h
theorem all_false {α : Type} {xs : List α} {k : Nat} {x : α} {p : α → Bool} (hx : xs[k]? = some x) (h2 : p x = false) : xs.all p = false := by
  rw [← Bool.not_eq_true]; intro h
  have := List.all_eq_true.1 h x (List.mem_of_getElem? hx)
  rw [h2] at this; cases this

end Go.Proofs.Ytkapjlkeohjjbaa
namespace Go.Proofs.Ytkapjlkeohjjbaa
set_option linter.unusedVariables false
set_option linter.unusedSimpArgs false
open Go.RowKit

def addAt (os : List Int) (i : Nat) (d : Int) : List Int := os.set i (os.getD i 0 + d)
theorem addAt_length (os : List Int) (i : Nat) (d : Int) : (addAt os i d).length = os.length := by simp [addAt]
theorem addAt_bd {os : List Int} {m d e : Int} (h : ∀ j, 0 ≤ os.getD j 0 ∧ os.getD j 0 ≤ m) (i : Nat) (h0 : 0 ≤ d) (h1 : d ≤ e) : ∀ j, 0 ≤ (addAt os i d).getD j 0 ∧ (addAt os i d).getD j 0 ≤ m + e := by
  intro j
  have hj := h j
  have hi := h i
  unfold addAt
  simp only [List.getD, List.getElem?_set] at *
  by_cases e1 : i = j
  · subst e1
    by_cases e2 : i < os.length
    · rw [if_pos rfl, if_pos e2]; simp only [Option.getD_some]; omega
    · rw [if_pos rfl, if_neg e2]; simp only [Option.getD_none]; omega
  · rw [if_neg e1]; omega
/-- The points behind j places of a ballot. -/
def ptsB (n : Nat) (ys : List Int) : Nat → List Int → List Int
  | 0, os => os
  | j + 1, os => addAt (ptsB n ys j os) (ys.getD j 0).toNat ((n : Int) - 1 - j)
/-- .. behind i ballots. -/
def ptsF (n : Nat) (yss : List (List Int)) : Nat → List Int
  | 0 => List.replicate n 0
  | i + 1 => ptsB n (yss.getD i []) n (ptsF n yss i)
theorem ptsB_length (n : Nat) (ys : List Int) (j : Nat) (os : List Int) : (ptsB n ys j os).length = os.length := by
  induction j with
  | zero => rfl
  | succ j ih => simp [ptsB, addAt_length, ih]
theorem ptsF_length (n : Nat) (yss : List (List Int)) (i : Nat) : (ptsF n yss i).length = n := by
  induction i with
  | zero => simp [ptsF]
  | succ i ih => simp [ptsF, ptsB_length, ih]
theorem ptsB_bd {n : Nat} {os : List Int} {m : Int} (h : ∀ j, 0 ≤ os.getD j 0 ∧ os.getD j 0 ≤ m) (ys : List Int) (j : Nat) (hj : j ≤ n) (hn : n ≤ 12) : ∀ q, 0 ≤ (ptsB n ys j os).getD q 0 ∧ (ptsB n ys j os).getD q 0 ≤ m + 12 * j := by
  induction j with
  | zero => simpa [ptsB] using h
  | succ j ih =>
    intro q
    have := addAt_bd (ih (by omega)) (ys.getD j 0).toNat (d := (n : Int) - 1 - j) (e := 12) (by omega) (by omega) q
    simp only [ptsB]
    omega
theorem ptsF_bd {n : Nat} (yss : List (List Int)) (i : Nat) (hn : n ≤ 12) : ∀ q, 0 ≤ (ptsF n yss i).getD q 0 ∧ (ptsF n yss i).getD q 0 ≤ 144 * i := by
  induction i with
  | zero => intro q; simp only [ptsF, List.getD, List.getElem?_replicate]; split <;> simp
  | succ i ih =>
    intro q
    have := ptsB_bd ih (yss.getD i []) n (Nat.le_refl _) hn q
    simp only [ptsF]
    omega
def pointsF (yss : List (List Int)) : Option (List Int) := if ballotsB yss then some (ptsF (wide yss) yss yss.length) else none

/-- What a valid ballot holds at a place. -/
theorem order_get {ys : List Int} {n k : Nat} (h : orderB ys n = true) (hk : k < n) : ∃ q : Nat, ys[k]? = some (q : Int) ∧ q < n := by
  obtain ⟨h1, _, h3⟩ := orderB_iff.1 h
  have hk' : k < ys.length := by omega
  have := h1 ys[k] (List.getElem_mem hk')
  exact ⟨ys[k].toNat, by rw [List.getElem?_eq_getElem hk']; congr 1; omega, by omega⟩

end Go.Proofs.Ytkapjlkeohjjbaa
namespace Go.Proofs.Ytkapjlkeohjjbaa
set_option linter.unusedVariables false
set_option linter.unusedSimpArgs false
open Go.RowKit

/-- What append gives back lies where the row lay, or in a block that is new. -/
theorem append_block {P : Program} (w : World) (base : Nat) (t ty e : TypeId) (i : TypeInfo) (z : Value) (ht : P.underlying t = some (.slice e)) (hi : P.info? e = some i) (hz : i.zero = some z) (hsize : i.size = 1)
    (v : Value) (n : Nat) (xs : List Value) (hown : w.ownsRow base e 1 v n xs) (a : Addr) (m c : Nat) (news : List Value) (hl : news.length = m * 1) (hnews : ∀ j u, news[j]? = some u → w.cell? (a.add j) = some u) (h1 : ∀ u ∈ news, u.oneCell' = true)
    (hm : 0 < m) (h63 : n + m ≤ maxLen) (hbytes : (n + m) * i.bytes ≤ 140737488355328) {v' : Value} {w' : World} (hr : (Builtin.append_ #[t, t] ty #[v, .slice (some a) m c]).run P w = .ok v' w') :
    v'.ownBlock = v.ownBlock ∨ v'.ownBlock = some w.heap.size := by
  have hsmall : n + m ≤ 9223372036854775807 := by simp only [maxLen] at h63; omega
  rw [← hsize] at hl
  rcases hown.2 with ⟨rfl, rfl⟩ | ⟨g, cap, cur, rfl, hbg, hg, hnc, hcm, hcs, htake⟩
  · have hr2 := run_append_nil (P := P) w t ty e i z ht hi hz a m c news hl hnews (by omega) (by omega) (by have hb := hbytes; simp only [Nat.zero_add] at hb; omega)
    rw [hr2] at hr
    injection hr with hr _
    subst hr
    exact .inr rfl
  · by_cases hroom : n + m ≤ cap
    · have hfit : n * i.size + news.length ≤ cur.size := by rw [hl, hcs, hsize, ← Nat.add_mul]; exact Nat.mul_le_mul_right _ hroom
      have hr2 := run_append_room (P := P) w t ty e i ht hi g n cap cur hg a m c news hl hnews h1 hroom hfit
      rw [hr2] at hr
      injection hr with hr _
      subst hr
      exact .inl rfl
    · have holds : ∀ j u, xs[j]? = some u → w.cell? ((⟨g, 0, none⟩ : Addr).add j) = some u := hown.cells (g := g) rfl
      have hr2 := run_append_grow (P := P) w t ty e i z ht hi hz ⟨g, 0, none⟩ n cap xs (by rw [hsize]; exact hown.1) holds a m c news hl hnews (by omega) (by omega) (growslice_fits (by omega) hbytes)
      rw [hr2] at hr
      injection hr with hr _
      subst hr
      exact .inr rfl

theorem wpList_append_blk {P : Program} (wr : World) {ops : Array Oper} {rest : List Oper} {o : Oper} {a : Act} {Q : Exit → Act → World → Prop}
    (hg : o.guard = none) (s x : Operand) (t : TypeId) (hop : o.op = Op.call { callee := Callee.builtin Builtin.append, args := #[s, x], argTypes := #[t, t] })
    (base : Nat) (e : TypeId) (z : Value) (bytes : Nat) (h1 : P.underlying t = some (.slice e)) (hinfo : (P.info? e).map (fun i => (i.zero, i.size, i.bytes)) = some (some z, 1, bytes)) (hz : z.cells.size = 1)
    (v : Value) (n : Nat) (xs : List Value) (hs : a.eval s = v) (hown : wr.ownsRow base e 1 v n xs) (y : Value) (hy : y.oneCell' = true)
    (hx : a.eval x = .slice (some ⟨wr.heap.size, 0, none⟩) 1 1) (hb : bytes ≤ 64) (hn : n ≤ 1099511627776) (hbase : base ≤ wr.heap.size)
    (hK : ∀ v' w', w'.ownsRow base e 1 v' (n + 1) (xs ++ [y]) → wr.grownBy w' v.ownBlock → (∀ g, g < wr.heap.size → some g ≠ v.ownBlock → some g ≠ v'.ownBlock) → wpList P ops Q rest (a.put o.dst v') w') :
    wpList P ops Q (o :: rest) a (wr.alloc (.cells #[y] e)) := by
  obtain ⟨i, h2, h3, h4, h5⟩ := info_parts hinfo
  have hbb : (n + 1) * bytes ≤ 140737488355328 := Nat.le_trans (Nat.mul_le_mul_left (n + 1) hb) (by omega)
  have hnews : ∀ j u, [y][j]? = some u → (wr.alloc (.cells #[y] e)).cell? ((⟨wr.heap.size, 0, none⟩ : Addr).add j) = some u := by
    intro j u hj
    match j, hj with
    | 0, hj =>
      simp at hj
      subst hj
      simp [Addr.add]
    | j + 1, hj => simp at hj
  have hone : ∀ u ∈ [y], u.oneCell' = true := by
    intro u hu
    simp at hu
    subst hu
    exact hy
  refine wpList_plain hg fun _ hK' => ?_
  obtain ⟨v', w', hr, ho, hgr, _⟩ := run_append_own (P := P) (wr.alloc (.cells #[y] e)) base t o.type e i z 1 bytes h1 h2 h3 h4 h5 hz (by omega) v n xs (hown.alloc _) ⟨wr.heap.size, 0, none⟩ 1 1 [y] rfl hnews hone (by unfold maxLen; omega) hbb (by simp; omega)
  have hblk := append_block (wr.alloc (.cells #[y] e)) base t o.type e i z h1 h2 h3 h4 v n xs (hown.alloc _) ⟨wr.heap.size, 0, none⟩ 1 1 [y] rfl hnews hone (by omega) (by unfold maxLen; omega) (by rw [h5]; exact hbb) hr
  unfold Oper.wp execOp
  simp only [hop, resolve, invoke, builtin, Sem.run_bind, Sem.run_pure, Result.andThen_ok, List.map_toArray, List.map_cons, List.map_nil, hs, hx, hr]
  refine hK' _ _ (hK v' w' ho ⟨hgr.os, hgr.tape, hgr.output, ?_, fun k hk hne => ?_⟩ fun g hgl hgv hgv' => ?_)
  · have := hgr.size; simp at this; omega
  · rw [hgr.block k (by simp; omega) hne]
    exact Below.heap_alloc _ _ _ hk
  · rcases hblk with h | h
    · exact hgv (hgv'.trans h)
    · rw [h] at hgv'
      injection hgv' with hgv'
      simp at hgv'
      omega

/-- Two rows in blocks of their own. -/
def Apart (u v : Value) : Prop := ∀ g, u.ownBlock = some g → v.ownBlock ≠ some g
theorem Apart.symm {u v : Value} (h : Apart u v) : Apart v u := fun g h1 h2 => h g h2 h1
theorem own_apart {w w' : World} {base e n : Nat} {u v : Value} {xs : List Value} (h : w.ownsRow base e 1 v n xs) (hg : w.grownBy w' u.ownBlock) (ha : Apart u v) : w'.ownsRow base e 1 v n xs := by
  refine h.kept hg ?_
  cases hv : v.ownBlock with
  | none => exact .inl rfl
  | some g => exact .inr (fun e => ha g e.symm hv)
theorem apart_grow {w : World} {base e n : Nat} {u u' v : Value} {xs : List Value} (h : w.ownsRow base e 1 v n xs) (ha : Apart u v) (hn : ∀ g, g < w.heap.size → some g ≠ u.ownBlock → some g ≠ u'.ownBlock) : Apart u' v :=
  fun g hu hv => hn g (h.lt g hv).2 (fun e => ha g e.symm hv) hu.symm
/-- A row of at least one, opened. -/
theorem own_open {w : World} {base e n c : Nat} {a : Option Addr} {xs : List Value} (h : w.ownsRow base e 1 (.slice a n c) n xs) (hn : 0 < n) :
    ∃ g tl, a = some ⟨g, 0, none⟩ ∧ base ≤ g ∧ Blk w g (xs ++ tl) e ∧ n ≤ c ∧ c ≤ maxLen ∧ (xs ++ tl).length = c := by
  rcases h.2 with ⟨h2, h3⟩ | ⟨g, cap, cur, hv, hg, hh, hn2, hm, hs, ht⟩
  · omega
  · injection hv with ha _ hc
    subst ha hc
    rw [Nat.mul_one] at hs ht
    refine ⟨g, cur.toList.drop n, rfl, hg, ?_, hn2, hm, ?_⟩
    · rw [← ht, List.take_append_drop]; exact hh
    · rw [← ht, List.take_append_drop]; simpa using hs
theorem own_close {w : World} {base e n c g : Nat} {xs tl : List Value} (h : Blk w g (xs ++ tl) e) (hg : base ≤ g) (hn : xs.length = n) (hnc : n ≤ c) (hm : c ≤ maxLen) (hl : (xs ++ tl).length = c) : w.ownsRow base e 1 (.slice (some ⟨g, 0, none⟩) n c) n xs :=
  ⟨by omega, .inr ⟨g, c, _, rfl, hg, h, hnc, hm, by simpa using hl, by rw [Nat.mul_one, ← hn]; exact List.take_left⟩⟩
theorem cell_app {w : World} {g T : Nat} {xs : List Int} {tl : List Value} (h : Blk w g (ints xs ++ tl) T) {j : Nat} (hj : j < xs.length) : w.cell? ⟨g, j, none⟩ = some (.int .i64 (xs.getD j 0)) := by
  rw [h.cell, List.getElem?_append_left (by simpa using hj)]
  exact ints_get xs j hj
theorem set_app {w : World} {g T : Nat} {xs : List Int} {tl : List Value} (h : Blk w g (ints xs ++ tl) T) {j : Nat} (hj : j < xs.length) (y : Int) : Blk (w.setCell ⟨g, j, none⟩ (.int .i64 y)) g (ints (xs.set j y) ++ tl) T := by
  have := h.set j (.int .i64 y)
  rwa [List.set_append_left _ _ (by simpa using hj), ← ints_set] at this
theorem rd_app {w : World} {g T B : Nat} {xs tl : List Value} (h : Blk w g (xs ++ tl) T) (hB : g < B) : Rd w B (some ⟨g, 0, none⟩) xs :=
  .inr ⟨g, 0, rfl, hB, fun j hj => by rw [Nat.zero_add, h.cell, List.getElem?_append_left hj]⟩
end Go.Proofs.Ytkapjlkeohjjbaa
namespace Go.Proofs.Ytkapjlkeohjjbaa
set_option linter.unusedVariables false
set_option linter.unusedSimpArgs false
open Go.RowKit

def claimsB (xs : List Int) (e : Int) : Bool := manyB xs 1 8 0 1000 && inB e 0 (wsum xs)
theorem claimsB_iff {xs : List Int} {e : Int} : claimsB xs e = true ↔ (1 ≤ xs.length ∧ xs.length ≤ 8) ∧ (∀ x ∈ xs, 0 ≤ x ∧ x ≤ 1000) ∧ 0 ≤ e ∧ e ≤ xs.sum := by
  unfold claimsB
  rw [Bool.and_eq_true, manyB_iff, inB_iff]
  constructor
  · rintro ⟨⟨⟨h1, h2⟩, h3⟩, h4, h5⟩
    have := wsum_eq xs 1000 (by omega) (fun x hx => by have := h3 x hx; omega) (by omega)
    exact ⟨⟨by omega, by omega⟩, h3, h4, by omega⟩
  · rintro ⟨⟨h1, h2⟩, h3, h4, h5⟩
    have := wsum_eq xs 1000 (by omega) (fun x hx => by have := h3 x hx; omega) (by omega)
    exact ⟨⟨⟨by omega, by omega⟩, h3⟩, h4, by omega⟩
theorem claims_sum {xs : List Int} (h : ∀ x ∈ xs, 0 ≤ x ∧ x ≤ 1000) : 0 ≤ xs.sum ∧ xs.sum ≤ 1000 * xs.length := by
  induction xs with
  | nil => simp
  | cons x xs ih =>
    have h1 := h x (by simp)
    have h2 := ih (fun y hy => h y (by simp [hy]))
    simp only [List.sum_cons, List.length_cons]
    omega
theorem areClaims_any (w : World) (a : Option Addr) (c : Nat) (xs : List Int) (e : Int) (h : Rd w w.heap.size a (ints xs)) (hl : xs.length ≤ 1152921504606846976) :
    Calls Try.prog 25 #[.slice a xs.length c, .int .i64 e] w fun e' w' => e' = .returned (.bool (claimsB xs e)) ∧ w = w' := by
  have L1 := Lib.hid (areMany_any w a c xs 1 8 0 1000 h hl)
  have L2 := Lib.hid (sumOf_any w a c xs h hl)
  have L3 := Lib.hid (within_any e 0 (wsum xs) w)
  clear h
  cases hin : manyB xs 1 8 0 1000 with
  | true =>
    have H : Hid (claimsB xs e = inB e 0 (wsum xs)) := by simp [Hid, claimsB, hin]
    rw [hin] at L1
    go_enter Try.func25, Try.ntmps25
    go_wp2_with (first | (go_at_call 42; refine L1.out.mono ?_; rintro e' w' ⟨rfl, rfl⟩) | (go_at_call 45; refine L2.out.mono ?_; rintro e' w' ⟨rfl, rfl⟩) | (go_at_call 54; refine L3.out.mono ?_; rintro e' w' ⟨rfl, rfl⟩))
    go_ret
    exact ⟨ret_bool H.out.symm, rfl⟩
  | false =>
    have H : Hid (claimsB xs e = false) := by simp [Hid, claimsB, hin]
    rw [hin] at L1
    go_enter Try.func25, Try.ntmps25
    go_wp2_with (go_at_call 42; refine L1.out.mono ?_; rintro e' w' ⟨rfl, rfl⟩)
    go_ret
    exact ⟨ret_bool H.out.symm, rfl⟩
/-- What is taken after k of the order, and what is left. -/
def takeS (cs os : List Int) (e : Int) : Nat → List Int × Int
  | 0 => (List.replicate cs.length 0, e)
  | k + 1 => ((takeS cs os e k).1.set (os.getD k 0).toNat (min (cs.getD (os.getD k 0).toNat 0) (takeS cs os e k).2), (takeS cs os e k).2 - min (cs.getD (os.getD k 0).toNat 0) (takeS cs os e k).2)
def takeF (cs os : List Int) (e : Int) : List Int := (takeS cs os e os.length).1
theorem takeS_len (cs os : List Int) (e : Int) : ∀ k, (takeS cs os e k).1.length = cs.length
  | 0 => by simp [takeS]
  | k + 1 => by simp [takeS, takeS_len cs os e k]
theorem getD_bd {cs : List Int} {lo hi : Int} (h : ∀ x ∈ cs, lo ≤ x ∧ x ≤ hi) (h0 : lo ≤ 0) (h1 : 0 ≤ hi) (j : Nat) : lo ≤ cs.getD j 0 ∧ cs.getD j 0 ≤ hi := by
  by_cases hj : j < cs.length
  · exact h _ (List.mem_of_getElem? (get_of_lt hj))
  · simp [List.getD, List.getElem?_eq_none (by omega : cs.length ≤ j), h0, h1]
theorem takeS_bd {cs os : List Int} {e : Int} (h0 : 0 ≤ e) (h1 : e ≤ 8000) (hc : ∀ x ∈ cs, 0 ≤ x ∧ x ≤ 1000) : ∀ k, (0 ≤ (takeS cs os e k).2 ∧ (takeS cs os e k).2 ≤ 8000) ∧ ∀ y ∈ (takeS cs os e k).1, 0 ≤ y ∧ y ≤ 1000
  | 0 => ⟨⟨h0, h1⟩, fun y hy => by simp [takeS] at hy; omega⟩
  | k + 1 => by
    obtain ⟨⟨i1, i2⟩, i3⟩ := takeS_bd (os := os) h0 h1 hc k
    have hx := getD_bd hc (by omega) (by omega) (os.getD k 0).toNat
    simp only [takeS]
    refine ⟨by omega, fun y hy => ?_⟩
    rcases List.mem_or_eq_of_mem_set hy with hy | rfl
    · exact i3 y hy
    · omega
theorem l00Min_any (a b : Int) (w : World) : Calls Try.prog 58 #[.int .i64 a, .int .i64 b] w fun e w' => e = .returned (.int .i64 (min a b)) ∧ w = w' := by
  by_cases h : a < b
  · have H : Hid (min a b = a) := by show _ = _; omega
    go_enter Try.func58, Try.ntmps58
    go_wp2
    go_ret
    exact ⟨ret_int H.out.symm, rfl⟩
  · have H : Hid (min a b = b) := by show _ = _; omega
    go_enter Try.func58, Try.ntmps58
    go_wp2
    go_ret
    exact ⟨ret_int H.out.symm, rfl⟩
set_option maxHeartbeats 1000000 in
theorem scaled_any (w : World) (B : Nat) (a : Option Addr) (c : Nat) (xs : List Int) (by' : Int) (h' : Rd w B a (ints xs)) (hB : B ≤ w.heap.size) (hl : xs.length ≤ 1048576) (hx0 : ∀ x ∈ xs, -1048576 ≤ x ∧ x ≤ 1048576) (b0 : 0 ≤ by') (b1 : by' ≤ 1048576) :
    Calls Try.prog 44 #[.slice a xs.length c, .int .i64 by'] w fun e w' => ∃ a' c', e = .returned (.slice a' xs.length c') ∧ OwnI 2 w' w.heap.size w'.heap.size a' c' (xs.map (· * by')) ∧ Below w.heap.size w w' := by
  have h := h'.mono hB
  have Hx := Lib.hid hx0
  clear hx0 h' hB
  have Hs : Hid (∀ (k : Nat) (x : Int), xs[k]? = some x → (xs.map (· * by')).take (k + 1) = (xs.map (· * by')).take k ++ [x * by']) := fun k x hx => by rw [List.take_add_one, List.getElem?_map, hx]; rfl
  have Hl : Hid ((xs.map (· * by')).length = xs.length) := by simp [Hid]
  generalize xs.map (· * by') = ys at *
  go_enter Try.func44, Try.ntmps44
  go_wp2_with fail
  go_loopw [11, 5] (fun i v wr => ∃ (k : Nat) (u : Value), k ≤ xs.length ∧ i = .int .i64 k ∧ v = u ∧ Hid (wr.ownsRow w.heap.size 2 1 u k (ints (ys.take k))) ∧ Below w.heap.size w wr) (fun i _ _ => xs.length - (intOf i).toNat)
  case atStart => exact ⟨0, _, Nat.zero_le _, rfl, rfl, own_empty w _, bl1 w _⟩
  case round =>
    obtain ⟨k, u, hk, rfl, rfl, ho, hw⟩ := hrel
    by_cases hlt : k < xs.length
    · obtain ⟨b, o, x, rfl, hbb, hck, hx⟩ := (h.below hw (Nat.le_refl _)).get hlt
      obtain ⟨x0, x1⟩ := Hx.out x (List.mem_of_getElem? hx.out)
      have hn := Lib.hid (Hs.out k x hx.out)
      have m1 : x * by' ≤ 1048576 * 1048576 := Int.le_trans (Int.mul_le_mul_of_nonneg_right x1 b0) (Int.mul_le_mul_of_nonneg_left b1 (by omega))
      have m2 : -1048576 * 1048576 ≤ x * by' := by
        have h1 : -1048576 * by' ≤ x * by' := Int.mul_le_mul_of_nonneg_right x0 b0
        omega
      have ho1 := ho.out
      clear h ho
      go_wp2_with (at_builtin; refine wpList_append_one _ rfl _ _ 24 rfl w.heap.size 2 (.int .i64 0) 8 Try.underlying24 info_i64p rfl _ k _ rfl ho1 (.int .i64 (x * by')) rfl rfl (by omega) (by omega) hw.size ?_)
      intro v' w1 o1 hgr
      have hb := below_append hw ho1 hgr (Nat.le_refl _) hw.size
      rw [show ints (ys.take k) ++ [Value.int .i64 (x * by')] = ints (ys.take (k + 1)) from by rw [hn.out, ints_append]; rfl] at o1
      have HO := Lib.hid o1
      clear ho1 hgr hw o1 hck
      go_wp2_with fail
      go_roundw
      case rel => exact ⟨k + 1, v', by omega, by go_num, rfl, HO, hb⟩
      case measure => simp [intOf]; omega
    · have : k = xs.length := by omega
      subst this
      rw [show ys.take xs.length = ys from List.take_of_length_le (by rw [Hl.out]; exact Nat.le_refl _)] at ho
      obtain ⟨a1, c1, rfl, _, _⟩ := own_shape ho.out
      have hR : OwnI 2 wr w.heap.size wr.heap.size a1 c1 ys := OwnI.of_own (by rw [Hl.out]; exact ho.out)
      have HR := Lib.hid hR
      clear hR ho
      go_wp2_with fail
      go_ret
      exact ⟨_, _, rfl, HR.out, hw⟩
set_option maxHeartbeats 2000000 in
theorem inOrder_any (w : World) (B C : Nat) (a ao : Option Addr) (c co : Nat) (xs os : List Int) (e : Int) (h' : Rd w B a (ints xs)) (g' : Rd w C ao (ints os)) (hB : B ≤ w.heap.size) (hC : C ≤ w.heap.size) (hv : claimsB xs e = true) (hor : orderB os xs.length = true) :
    Calls Try.prog 50 #[.slice a xs.length c, .int .i64 e, .slice ao os.length co] w fun e' w' => ∃ a' c', e' = .returned (.slice a' xs.length c') ∧ OwnI 2 w' w.heap.size w'.heap.size a' c' (takeF xs os e) ∧ Below w.heap.size w w' := by
  have h := h'.mono hB
  have g := g'.mono hC
  obtain ⟨⟨hl1, hl2⟩, hxb, he0, he1⟩ := claimsB_iff.1 hv
  have hsm := claims_sum hxb
  have e1 : e ≤ 8000 := by omega
  have Hxb := Lib.hid hxb
  have Hor := Lib.hid hor
  obtain ⟨_, _, hol⟩ := orderB_iff.1 hor
  have Hbd := Lib.hid (fun k => takeS_bd (os := os) he0 e1 (fun x hx => (hxb x hx)) k)
  have Hln := Lib.hid (takeS_len xs os e)
  have hF : Hid (takeF xs os e = (takeS xs os e os.length).1) := rfl
  rw [hol]
  rw [hol] at hF
  have Hol := Lib.hid hol
  clear h' g' hB hC hv hxb hor hsm he1 hol
  go_enter Try.func50, Try.ntmps50
  go_wp2_with (at_make; refine wpList_make_blk _ rfl _ _ 24 rfl 2 (.int .i64 0) 8 Try.underlying24 info_i64p rfl _ _ xs.length rfl rfl (by omega) (by unfold maxLen; omega) ?_)
  intro w1 hb1 hw1 _
  rw [ints_replicate] at hb1
  go_wp2_with fail
  go_loopw [15, 1] (fun i ev wr => ∃ k : Nat, k ≤ xs.length ∧ i = .int .i64 k ∧ ev = .int .i64 (takeS xs os e k).2 ∧ Blk wr w.heap.size (ints (takeS xs os e k).1) 2 ∧ Below w.heap.size w wr) (fun i _ _ => xs.length - (intOf i).toNat)
  case atStart => exact ⟨0, Nat.zero_le _, rfl, rfl, hb1, hw1⟩
  case round =>
    clear hb1 hw1
    obtain ⟨k, hk, rfl, rfl, hb, hw⟩ := hrel
    by_cases hlt : k < xs.length
    · obtain ⟨q, hq, hqn⟩ := order_get Hor.out hlt
      obtain ⟨b2, o2, y, rfl, _, hc2, hy⟩ := (g.below hw (Nat.le_refl _)).get (k := k) (by rw [Hol.out]; exact hlt)
      have hyq := hy.out
      rw [hq] at hyq
      injection hyq with hyq
      subst hyq
      obtain ⟨b1, o1, hax, hbb, hcell⟩ := (h.below hw (Nat.le_refl _)).at (k := q) hqn
      subst hax
      have hcq := hcell q hqn
      have hxq := Hxb.out _ (List.mem_of_getElem? (get_of_lt hqn))
      have hS1 : Hid ((takeS xs os e (k + 1)).1 = (takeS xs os e k).1.set q (min (xs.getD q 0) (takeS xs os e k).2)) := by
        show ((takeS xs os e k).1.set (os.getD k 0).toNat _) = _
        rw [getD_of_get hq, Int.toNat_natCast]
      have hS2 : Hid ((takeS xs os e (k + 1)).2 = (takeS xs os e k).2 - min (xs.getD q 0) (takeS xs os e k).2) := by
        show (takeS xs os e k).2 - min (xs.getD (os.getD k 0).toNat 0) _ = _
        rw [getD_of_get hq, Int.toNat_natCast]
      obtain ⟨⟨p0, p1⟩, _⟩ := Hbd.out k
      have hlk := Hln.out k
      generalize (takeS xs os e k).2 = ev at *
      generalize (takeS xs os e k).1 = ot at *
      generalize xs.getD q 0 = xq at *
      obtain ⟨x0, x1⟩ := hxq
      obtain ⟨mn, hmn⟩ : ∃ mn, mn = min xq ev := ⟨_, rfl⟩
      have hm1 : mn ≤ ev ∧ 0 ≤ mn ∧ mn ≤ xq := by omega
      rw [← hmn] at hS1 hS2
      have Hmn := Lib.hid hmn
      have hfr := hb.free q
      obtain ⟨old, hold⟩ := hb.has (j := q) (by rw [ints_length, hlk]; exact hqn)
      have hset := hb.setI q mn
      rw [← hS1.out] at hset
      have hbel := below_sto hw (Nat.le_refl _) q (.int .i64 mn)
      have hcell2 := hset.cell q
      rw [hS1.out] at hcell2
      have e3 : (ints (ot.set q mn))[q]? = some (.int .i64 mn) := by
        rw [ints_set, List.getElem?_set_self (by rw [ints_length, hlk]; exact hqn)]
      rw [e3] at hcell2
      obtain ⟨hm11, hm12, hm13⟩ := hm1
      clear hb hw h g hq hy hcell hlk e3 hmn
      by_cases hle : xq ≤ ev
      · have : mn = xq := by have := Hmn.out; omega
        subst this
        go_wp2_with fail
        go_roundw
        case rel => exact ⟨k + 1, by omega, by go_num, by rw [hS2.out] <;> simp, hset, hbel⟩
        case measure => simp [intOf]; omega
      · have : mn = ev := by have := Hmn.out; omega
        subst this
        go_wp2_with fail
        go_roundw
        case rel => exact ⟨k + 1, by omega, by go_num, by rw [hS2.out] <;> simp, hset, hbel⟩
        case measure => simp [intOf]; omega
    · have : k = xs.length := by omega
      subst this
      rw [← hF.out] at hb
      have hfl : (takeF xs os e).length = xs.length := by rw [hF.out]; exact Hln.out _
      have hR : OwnI 2 wr w.heap.size wr.heap.size (some ⟨w.heap.size, 0, none⟩) xs.length (takeF xs os e) := by
        have := (OwnI.of_blk hb (by rw [hfl]; omega)).mono (Nat.le_refl _) (hi' := wr.heap.size) (by have := hb.lt; omega)
        rwa [hfl] at this
      have HR := Lib.hid hR
      clear hR hb hfl
      go_wp2_with fail
      go_ret
      exact ⟨_, _, rfl, HR.out, hw⟩
end Go.Proofs.Ytkapjlkeohjjbaa
namespace Go.Proofs.Ytkapjlkeohjjbaa
set_option linter.unusedVariables false
set_option linter.unusedSimpArgs false
open Go.RowKit

/-- A world in which all that was there in w is as it was. -/
structure Later (w : World) where
  w' : World
  h : Below w.heap.size w w'
instance (w : World) : Nonempty (Later w) := ⟨⟨w, Below.refl _ w⟩⟩
section
variable {P : Program} {w : World}
theorem Later.cell (n : Later w) {p : Addr} {v : Value} (hp : p.block < w.heap.size) (hc : w.cell? p = some v) : n.w'.cell? p = some v := (n.h.cell (p := p) hp).trans hc
theorem later_of {f : FuncId} {args : Array Value} {n : Later w} {v : Value} (h : Calls P f args n.w' fun e w' => e = .returned v ∧ Below n.w'.heap.size n.w' w') :
    Calls P f args n.w' fun e w'' => e = .returned v ∧ ∃ m : Later w, w'' = m.w' := h.mono fun _ w'' ⟨h1, h2⟩ => ⟨h1, ⟨w'', below_then n.h h2⟩, rfl⟩
theorem later_same {f : FuncId} {args : Array Value} {n : Later w} {v : Value} (h : Calls P f args n.w' fun e w' => e = .returned v ∧ n.w' = w') :
    Calls P f args n.w' fun e w'' => e = .returned v ∧ ∃ m : Later w, w'' = m.w' := h.mono fun _ w'' ⟨h1, h2⟩ => ⟨h1, n, h2.symm⟩
theorem later_drew {f : FuncId} {args : Array Value} {n : Later w} {v : Value} (h : Calls P f args n.w' fun e w' => e = .returned v ∧ ∃ k, w' = n.w'.drewN k) :
    Calls P f args n.w' fun e w'' => e = .returned v ∧ ∃ m : Later w, w'' = m.w' := h.mono fun _ w'' ⟨h1, k, h2⟩ => ⟨h1, ⟨w'', by rw [h2]; exact below_drewN n.h k⟩, rfl⟩
theorem wp_region_later {id : Nat} {Q : Exit → Act → World → Prop} {a : Act} {l : List Oper} (hm : P.follows .mixedOrders = true) (hB : Region.lexB .any l.toArray = true)
    (h : wpQuiet P l.toArray (fun w' => ∃ n : Later w, w' = n.w') (fun a' => ∀ w', (∃ n : Later w, w' = n.w') → Q .normal a' w') l a) : (Code.region id l.toArray true).wp P Q a w :=
  wp_region_quiet (C := fun w' => ∃ n : Later w, w' = n.w') hm hB ⟨⟨w.drew, below_drew' (Below.refl _ w)⟩, rfl⟩ (by simpa using h)
end
end Go.Proofs.Ytkapjlkeohjjbaa
namespace Go.Proofs.Ytkapjlkeohjjbaa
set_option linter.unusedVariables false
set_option linter.unusedSimpArgs false
open Go.RowKit

set_option maxRecDepth 10000 in
theorem l07Points_any (w : World) (a : Option Addr) (c : Nat) (xs : List Int) (n : Nat) (h : Rd w w.heap.size a (ints xs)) (P : Pts xs n) :
    Calls Try.prog 41 #[.slice a xs.length c] w fun e w' => e = .returned (.bool true) ∧ w = w' := by
  have h1 := P.len
  have h2 := P.one
  have h3 := P.few
  have l1 : (2 : Int) ≤ (xs.length : Int) := by omega
  have l2 : (xs.length : Int) ≤ 32 := by omega
  have he : ((xs.length : Int) % 2 != 0) = false := by rw [bne_eq_false_iff_eq]; omega
  have HP := Lib.hid P.sm
  have HR := Lib.hid h
  clear h P h1 h2 h3
  go_enter Try.func41, Try.ntmps41
  go_wp2_with fail
  go_loopw [20] (fun iv wr => ∃ k : Nat, k ≤ xs.length ∧ iv = .int .i64 k ∧ Hid (w = wr)) (fun iv _ => xs.length - (intOf iv).toNat)
  case atStart => exact ⟨0, Nat.zero_le _, rfl, rfl⟩
  case round =>
    obtain ⟨k, hk, rfl, hw⟩ := hrel
    have hw' := hw.out
    subst hw'
    by_cases hlt : k < xs.length
    · obtain ⟨b, o, x, rfl, hbb, hck, hx⟩ := HR.out.get hlt
      have hxb := HP.out x (List.mem_of_getElem? hx.out)
      have L := Lib.hid (l00In_any x 0 1000 w)
      rw [inB_iff.2 ⟨by omega, by omega⟩] at L
      clear hx
      go_wp2_with fail
      refine L.out.mono ?_
      rintro e w' ⟨rfl, rfl⟩
      go_wp2_with fail
      go_roundw
      case rel => exact ⟨k + 1, by omega, by go_num, trivial⟩
      case measure => simp [intOf]; omega
    · go_wp2_with fail
      go_ret
      exact ⟨rfl, rfl⟩
set_option maxRecDepth 10000 in
theorem l07Bargain_any (w : World) (a : Option Addr) (c : Nat) (xs : List Int) (n : Nat) (x y : Int) (h : Rd w w.heap.size a (ints xs)) (P : Pts xs n) (x0 : 0 ≤ x) (x1 : x ≤ 7) (y0 : 0 ≤ y) (y1 : y ≤ 7) :
    Calls Try.prog 39 #[.slice a xs.length c, .int .i64 x, .int .i64 y] w fun e w' => e = .returned (.bool true) ∧ w = w' := by
  have L1 := Lib.hid (l07Points_any w a c xs n h P)
  have L2 := Lib.hid (l00In_any x 0 1000 w)
  have L3 := Lib.hid (l00In_any y 0 1000 w)
  rw [inB_iff.2 ⟨by omega, by omega⟩] at L2 L3
  clear h P
  go_enter Try.func39, Try.ntmps39
  go_wp2_with fail
  refine L1.out.mono ?_
  rintro e w' ⟨rfl, rfl⟩
  go_wp2_with fail
  refine L2.out.mono ?_
  rintro e w' ⟨rfl, rfl⟩
  go_wp2_with fail
  refine L3.out.mono ?_
  rintro e w' ⟨rfl, rfl⟩
  go_wp2_with fail
  go_ret
  exact ⟨rfl, rfl⟩
def gainB (least : Bool) (p q : Int) : Int := if least then min p q else p * q
theorem gainB_bd {least : Bool} {p q : Int} (p0 : 0 ≤ p) (p1 : p ≤ 19) (q0 : 0 ≤ q) (q1 : q ≤ 19) : 0 ≤ gainB least p q ∧ gainB least p q ≤ 361 := by
  cases least
  · have h0 : 0 ≤ p * q := Int.mul_nonneg p0 q0
    have h1 : p * q ≤ 19 * 19 := Int.mul_le_mul p1 q1 q0 (by omega)
    exact ⟨h0, by show p * q ≤ 361; omega⟩
  · show 0 ≤ min p q ∧ min p q ≤ 361
    omega
theorem best_succ (xs : List Int) (x y : Int) (f : Int → Int → Int) (k : Nat) : bestL (gainF xs x y f) (betterL xs x y (k + 1)) =
    if notW xs x y k = true then (if (bestL (gainF xs x y f) (betterL xs x y k)).1 < 0 ∨ (bestL (gainF xs x y f) (betterL xs x y k)).2 < gainF xs x y f k then ((k : Int), gainF xs x y f k) else bestL (gainF xs x y f) (betterL xs x y k)) else bestL (gainF xs x y f) (betterL xs x y k) := by
  rw [betterL_succ]
  by_cases h : notW xs x y k = true
  · rw [if_pos h, if_pos h, bestL_snoc, Int.toNat_natCast]
  · rw [if_neg h, if_neg h]
set_option maxRecDepth 10000 in
set_option maxHeartbeats 8000000 in
theorem l07Best_any (w : World) (a : Option Addr) (c : Nat) (xs : List Int) (n : Nat) (x y : Int) (least : Bool) (h : Rd w w.heap.size a (ints xs)) (P : Pts xs n) (x0 : 0 ≤ x) (x1 : x ≤ 7) (y0 : 0 ≤ y) (y1 : y ≤ 7) :
    Calls Try.prog 40 #[.slice a xs.length c, .int .i64 x, .int .i64 y, .bool least] w fun e w' => e = .returned (.int .i64 (greatF xs x y n (gainB least))) ∧ w = w' := by
  have h1 := P.len
  have h3 := P.few
  have hl1 : xs.length ≤ 2 * n ∧ 2 * n ≤ xs.length := by omega
  obtain ⟨hl1, hl2⟩ := hl1
  have HP := Lib.hid P.at
  have HR := Lib.hid h
  have HBD : Hid (∀ k, k ≤ n → (-1 ≤ (bestL (gainF xs x y (gainB least)) (betterL xs x y k)).1 ∧ (bestL (gainF xs x y (gainB least)) (betterL xs x y k)).1 ≤ 8) ∧ (0 ≤ (bestL (gainF xs x y (gainB least)) (betterL xs x y k)).2 ∧ (bestL (gainF xs x y (gainB least)) (betterL xs x y k)).2 ≤ 361)) := fun k hk => by
    have := bestL_bd (gainF xs x y (gainB least)) 361 (betterL xs x y k) (fun i hi => by
      obtain ⟨j, rfl, hj, j1, j2⟩ := betterL_mem hi
      have p1 := P.at (2 * j)
      have p2 := P.at (2 * j + 1)
      have := gainB_bd (least := least) (p := xs.getD (2 * j) 0 - x) (q := xs.getD (2 * j + 1) 0 - y) (by omega) (by omega) (by omega) (by omega)
      rw [Int.toNat_natCast]
      exact ⟨by omega, by omega, this⟩) (by omega)
    exact ⟨this.1, this.2.1⟩
  have HS := Lib.hid (fun k => best_succ xs x y (gainB least) k)
  have HE : Hid (greatF xs x y n (gainB least) = (bestL (gainF xs x y (gainB least)) (betterL xs x y n)).1) := rfl
  have H0 : Hid (bestL (gainF xs x y (gainB least)) (betterL xs x y 0) = (-1, 0)) := rfl
  clear h P h1
  go_enter Try.func40, Try.ntmps40
  go_wp2_with fail
  go_loopw [11, 9, 10] (fun iv bv mv wr => ∃ (k : Nat) (b m : Int), k ≤ n ∧ iv = .int .i64 (2 * (k : Int)) ∧ bv = .int .i64 b ∧ mv = .int .i64 m ∧ Hid (b = (bestL (gainF xs x y (gainB least)) (betterL xs x y k)).1) ∧ Hid (m = (bestL (gainF xs x y (gainB least)) (betterL xs x y k)).2) ∧ Hid (w = wr)) (fun iv _ _ _ => 2 * n - (intOf iv).toNat)
  case atStart => exact ⟨0, -1, 0, Nat.zero_le _, rfl, rfl, rfl, by rw [Hid, H0.out], by rw [Hid, H0.out], rfl⟩
  case round =>
    obtain ⟨k, b, m, hk, rfl, rfl, rfl, hbb, hmm, hw⟩ := hrel
    have hw' := hw.out
    subst hw'
    have k0 : (0 : Int) ≤ (k : Int) := Int.natCast_nonneg _
    by_cases hlt : k < n
    · obtain ⟨bx, ox, ax, hbx, hcx⟩ := HR.out.at (k := 0) (by omega)
      subst ax
      have c1 := hcx (2 * k) (by omega)
      have c2 := hcx (2 * k + 1) (by omega)
      have hst := HS.out k
      have hbd := HBD.out k hk
      rw [← hbb.out, ← hmm.out] at hbd hst
      obtain ⟨⟨b0, b1⟩, m0, m1⟩ := hbd
      have hg : gainF xs x y (gainB least) k = gainB least (xs.getD (2 * k) 0 - x) (xs.getD (2 * k + 1) 0 - y) := rfl
      have hN : notW xs x y k = (decide (x ≤ xs.getD (2 * k) 0) && decide (y ≤ xs.getD (2 * k + 1) 0)) := rfl
      rw [hg, hN] at hst
      have hp1 := HP.out (2 * k)
      have hp2 := HP.out (2 * k + 1)
      have HT := Lib.hid hst
      clear hcx hg hN hst
      generalize xs.getD (2 * k) 0 = p at *
      generalize xs.getD (2 * k + 1) 0 = q at *
      have i1 : 2 * (k : Int) < (xs.length : Int) := by omega
      have i2 : 2 * (k : Int) + 1 < (xs.length : Int) := by omega
      have hq2 : 2 * (k : Int) / 2 = (k : Int) := by omega
      clear HBD HS H0 HP
      cases t1 : decide (x ≤ p) with
      | false =>
        have t1' : decide (p - x < 0) = true := decide_eq_true (by have := of_decide_eq_false t1; omega)
        rw [t1, Bool.false_and, if_neg (by decide)] at HT
        have n1 : Hid (b = (bestL (gainF xs x y (gainB least)) (betterL xs x y (k + 1))).1) := by rw [Hid, HT.out]; exact hbb.out
        have n2 : Hid (m = (bestL (gainF xs x y (gainB least)) (betterL xs x y (k + 1))).2) := by rw [Hid, HT.out]; exact hmm.out
        clear HT hbb hmm t1
        go_wp2_with fail
        go_roundw
        case rel => exact ⟨k + 1, _, _, by omega, by go_num, rfl, rfl, n1, n2, trivial⟩
        case measure => simp [intOf]; omega
      | true =>
        have t1' : decide (p - x < 0) = false := decide_eq_false (by have := of_decide_eq_true t1; omega)
        have hpx := of_decide_eq_true t1
        cases t2 : decide (y ≤ q) with
        | false =>
          have t2' : decide (q - y < 0) = true := decide_eq_true (by have := of_decide_eq_false t2; omega)
          rw [t1, t2, Bool.and_false, if_neg (by decide)] at HT
          have n1 : Hid (b = (bestL (gainF xs x y (gainB least)) (betterL xs x y (k + 1))).1) := by rw [Hid, HT.out]; exact hbb.out
          have n2 : Hid (m = (bestL (gainF xs x y (gainB least)) (betterL xs x y (k + 1))).2) := by rw [Hid, HT.out]; exact hmm.out
          clear HT hbb hmm t1 t2
          go_wp2_with fail
          go_roundw
          case rel => exact ⟨k + 1, _, _, by omega, by go_num, rfl, rfl, n1, n2, trivial⟩
          case measure => simp [intOf]; omega
        | true =>
          have t2' : decide (q - y < 0) = false := decide_eq_false (by have := of_decide_eq_true t2; omega)
          have hqy := of_decide_eq_true t2
          rw [t1, t2, Bool.and_true, if_pos rfl] at HT
          have hgb := gainB_bd (least := least) (p := p - x) (q := q - y) (by omega) (by omega) (by omega) (by omega)
          have hpq0 : 0 ≤ (p - x) * (q - y) := Int.mul_nonneg (by omega) (by omega)
          have hpq1 : (p - x) * (q - y) ≤ 19 * 19 := Int.mul_le_mul (by omega) (by omega) (by omega) (by omega)
          have LM := Lib.hid (l00Min_any (p - x) (q - y) w)
          have hG1 : Hid (least = true → gainB least (p - x) (q - y) = min (p - x) (q - y)) := fun h => by rw [h]; rfl
          have hG2 : Hid (least = false → gainB least (p - x) (q - y) = (p - x) * (q - y)) := fun h => by rw [h]; rfl
          generalize hgg : gainB least (p - x) (q - y) = g at *
          clear hgg t1 t2 hpx hqy
          cases least with
          | true =>
            rw [← hG1.out rfl] at LM
            clear hG1 hG2
            cases t3 : decide (b < 0) with
            | true =>
              rw [if_pos (.inl (of_decide_eq_true t3))] at HT
              have n1 : Hid ((k : Int) = (bestL (gainF xs x y (gainB true)) (betterL xs x y (k + 1))).1) := by rw [Hid, HT.out]
              have n2 : Hid (g = (bestL (gainF xs x y (gainB true)) (betterL xs x y (k + 1))).2) := by rw [Hid, HT.out]
              clear HT hbb hmm
              go_wp2_with fail
              refine LM.out.mono ?_
              rintro e w' ⟨rfl, rfl⟩
              go_wp2_with fail
              go_roundw
              case rel => exact ⟨k + 1, _, _, by omega, by go_num, rfl, rfl, n1, n2, trivial⟩
              case measure => simp [intOf]; omega
            | false =>
              cases t4 : decide (m < g) with
              | true =>
                rw [if_pos (.inr (of_decide_eq_true t4))] at HT
                have n1 : Hid ((k : Int) = (bestL (gainF xs x y (gainB true)) (betterL xs x y (k + 1))).1) := by rw [Hid, HT.out]
                have n2 : Hid (g = (bestL (gainF xs x y (gainB true)) (betterL xs x y (k + 1))).2) := by rw [Hid, HT.out]
                clear HT hbb hmm
                go_wp2_with fail
                refine LM.out.mono ?_
                rintro e w' ⟨rfl, rfl⟩
                go_wp2_with fail
                go_roundw
                case rel => exact ⟨k + 1, _, _, by omega, by go_num, rfl, rfl, n1, n2, trivial⟩
                case measure => simp [intOf]; omega
              | false =>
                rw [if_neg (by have := of_decide_eq_false t3; have := of_decide_eq_false t4; omega)] at HT
                have n1 : Hid (b = (bestL (gainF xs x y (gainB true)) (betterL xs x y (k + 1))).1) := by rw [Hid, HT.out]; exact hbb.out
                have n2 : Hid (m = (bestL (gainF xs x y (gainB true)) (betterL xs x y (k + 1))).2) := by rw [Hid, HT.out]; exact hmm.out
                clear HT hbb hmm
                go_wp2_with fail
                refine LM.out.mono ?_
                rintro e w' ⟨rfl, rfl⟩
                go_wp2_with fail
                go_roundw
                case rel => exact ⟨k + 1, _, _, by omega, by go_num, rfl, rfl, n1, n2, trivial⟩
                case measure => simp [intOf]; omega
          | false =>
            have hgv := hG2.out rfl
            clear hG1 hG2 LM
            cases t3 : decide (b < 0) with
            | true =>
              rw [if_pos (.inl (of_decide_eq_true t3)), hgv] at HT
              have n1 : Hid ((k : Int) = (bestL (gainF xs x y (gainB false)) (betterL xs x y (k + 1))).1) := by rw [Hid, HT.out]
              have n2 : Hid ((p - x) * (q - y) = (bestL (gainF xs x y (gainB false)) (betterL xs x y (k + 1))).2) := by rw [Hid, HT.out]
              clear HT hbb hmm hgv hgb
              go_wp2_with fail
              go_roundw
              case rel => exact ⟨k + 1, _, _, by omega, by go_num, rfl, rfl, n1, n2, trivial⟩
              case measure => simp [intOf]; omega
            | false =>
              rw [hgv] at HT
              cases t4 : decide (m < (p - x) * (q - y)) with
              | true =>
                rw [if_pos (.inr (of_decide_eq_true t4))] at HT
                have n1 : Hid ((k : Int) = (bestL (gainF xs x y (gainB false)) (betterL xs x y (k + 1))).1) := by rw [Hid, HT.out]
                have n2 : Hid ((p - x) * (q - y) = (bestL (gainF xs x y (gainB false)) (betterL xs x y (k + 1))).2) := by rw [Hid, HT.out]
                clear HT hbb hmm hgv hgb
                go_wp2_with fail
                go_roundw
                case rel => exact ⟨k + 1, _, _, by omega, by go_num, rfl, rfl, n1, n2, trivial⟩
                case measure => simp [intOf]; omega
              | false =>
                rw [if_neg (by have := of_decide_eq_false t3; have := of_decide_eq_false t4; omega)] at HT
                have n1 : Hid (b = (bestL (gainF xs x y (gainB false)) (betterL xs x y (k + 1))).1) := by rw [Hid, HT.out]; exact hbb.out
                have n2 : Hid (m = (bestL (gainF xs x y (gainB false)) (betterL xs x y (k + 1))).2) := by rw [Hid, HT.out]; exact hmm.out
                clear HT hbb hmm hgv hgb
                go_wp2_with fail
                go_roundw
                case rel => exact ⟨k + 1, _, _, by omega, by go_num, rfl, rfl, n1, n2, trivial⟩
                case measure => simp [intOf]; omega
    · obtain rfl : k = n := by omega
      have hF : Hid (greatF xs x y k (gainB least) = b) := by rw [Hid, HE.out, ← hbb.out]
      clear hbb hmm HBD HS HE H0 HP
      go_wp2_with fail
      go_ret
      exact ⟨ret_int hF.out.symm, rfl⟩
theorem greatF_none {xs : List Int} {x y : Int} {n : Nat} {f : Int → Int → Int} (h : ¬ 0 < (betterL xs x y n).length) : greatF xs x y n f = -1 := by
  have : betterL xs x y n = [] := by
    cases hb : betterL xs x y n with
    | nil => rfl
    | cons z zs => rw [hb] at h; simp at h
  unfold greatF
  rw [this]; rfl
theorem greatF_some {xs : List Int} {x y : Int} {n : Nat} {least : Bool} (P : Pts xs n) (x0 : 0 ≤ x) (y0 : 0 ≤ y) (h : 0 < (betterL xs x y n).length) : 0 ≤ greatF xs x y n (gainB least) := by
  have h3 := P.few
  have := bestL_bd (gainF xs x y (gainB least)) 361 (betterL xs x y n) (fun i hi => by
    obtain ⟨j, rfl, hj, j1, j2⟩ := betterL_mem hi
    have p1 := P.at (2 * j)
    have p2 := P.at (2 * j + 1)
    have := gainB_bd (least := least) (p := xs.getD (2 * j) 0 - x) (q := xs.getD (2 * j + 1) 0 - y) (by omega) (by omega) (by omega) (by omega)
    rw [Int.toNat_natCast]
    exact ⟨by omega, by omega, this⟩) (by omega)
  exact this.2.2 (by intro hb; rw [hb] at h; simp at h)
theorem productR_any (w : World) (a : Option Addr) (c : Nat) (xs : List Int) (n : Nat) (x y : Int) (h : Rd w w.heap.size a (ints xs)) (P : Pts xs n) (x0 : 0 ≤ x) (x1 : x ≤ 7) (y0 : 0 ≤ y) (y1 : y ≤ 7) :
    Calls Try.prog 11 #[.slice a xs.length c, .int .i64 x, .int .i64 y] w fun e w' => e = .returned (.tuple #[.int .i64 (greatR xs x y n (gainB false)), .bool (someB xs x y n)]) ∧ w = w' := by
  have L1 := Lib.hid (l07Bargain_any w a c xs n x y h P x0 x1 y0 y1)
  have L2 := Lib.hid (l07Best_any w a c xs n x y false h P x0 x1 y0 y1)
  by_cases hz : 0 < (betterL xs x y n).length
  · have hg := greatF_some (least := false) P x0 y0 hz
    have HF : Hid (greatR xs x y n (gainB false) = greatF xs x y n (gainB false) ∧ someB xs x y n = true) := by
      unfold greatR someB
      rw [Hid, if_pos hz, decide_eq_true hz]; exact ⟨rfl, rfl⟩
    generalize greatF xs x y n (gainB false) = g at *
    clear h P hz
    go_enter Try.func11, Try.ntmps11
    go_wp2_with fail
    refine L1.out.mono ?_
    rintro e w' ⟨rfl, rfl⟩
    go_wp2_with fail
    refine L2.out.mono ?_
    rintro e w' ⟨rfl, rfl⟩
    go_wp2_with fail
    go_ret2
    exact ⟨by rw [HF.out.1, HF.out.2]; rfl, rfl⟩
  · have hg := greatF_none (f := gainB false) hz
    have HF : Hid (greatR xs x y n (gainB false) = 0 ∧ someB xs x y n = false) := by
      unfold greatR someB
      rw [Hid, if_neg hz, decide_eq_false hz]; exact ⟨rfl, rfl⟩
    rw [hg] at L2
    clear h P hz hg
    go_enter Try.func11, Try.ntmps11
    go_wp2_with fail
    refine L1.out.mono ?_
    rintro e w' ⟨rfl, rfl⟩
    go_wp2_with fail
    refine L2.out.mono ?_
    rintro e w' ⟨rfl, rfl⟩
    go_wp2_with fail
    go_ret2
    exact ⟨by rw [HF.out.1, HF.out.2]; rfl, rfl⟩
theorem leastR_any (w : World) (a : Option Addr) (c : Nat) (xs : List Int) (n : Nat) (x y : Int) (h : Rd w w.heap.size a (ints xs)) (P : Pts xs n) (x0 : 0 ≤ x) (x1 : x ≤ 7) (y0 : 0 ≤ y) (y1 : y ≤ 7) :
    Calls Try.prog 12 #[.slice a xs.length c, .int .i64 x, .int .i64 y] w fun e w' => e = .returned (.tuple #[.int .i64 (greatR xs x y n (gainB true)), .bool (someB xs x y n)]) ∧ w = w' := by
  have L1 := Lib.hid (l07Bargain_any w a c xs n x y h P x0 x1 y0 y1)
  have L2 := Lib.hid (l07Best_any w a c xs n x y true h P x0 x1 y0 y1)
  by_cases hz : 0 < (betterL xs x y n).length
  · have hg := greatF_some (least := true) P x0 y0 hz
    have HF : Hid (greatR xs x y n (gainB true) = greatF xs x y n (gainB true) ∧ someB xs x y n = true) := by
      unfold greatR someB
      rw [Hid, if_pos hz, decide_eq_true hz]; exact ⟨rfl, rfl⟩
    generalize greatF xs x y n (gainB true) = g at *
    clear h P hz
    go_enter Try.func12, Try.ntmps12
    go_wp2_with fail
    refine L1.out.mono ?_
    rintro e w' ⟨rfl, rfl⟩
    go_wp2_with fail
    refine L2.out.mono ?_
    rintro e w' ⟨rfl, rfl⟩
    go_wp2_with fail
    go_ret2
    exact ⟨by rw [HF.out.1, HF.out.2]; rfl, rfl⟩
  · have hg := greatF_none (f := gainB true) hz
    have HF : Hid (greatR xs x y n (gainB true) = 0 ∧ someB xs x y n = false) := by
      unfold greatR someB
      rw [Hid, if_neg hz, decide_eq_false hz]; exact ⟨rfl, rfl⟩
    rw [hg] at L2
    clear h P hz hg
    go_enter Try.func12, Try.ntmps12
    go_wp2_with fail
    refine L1.out.mono ?_
    rintro e w' ⟨rfl, rfl⟩
    go_wp2_with fail
    refine L2.out.mono ?_
    rintro e w' ⟨rfl, rfl⟩
    go_wp2_with fail
    go_ret2
    exact ⟨by rw [HF.out.1, HF.out.2]; rfl, rfl⟩
end Go.Proofs.Ytkapjlkeohjjbaa
