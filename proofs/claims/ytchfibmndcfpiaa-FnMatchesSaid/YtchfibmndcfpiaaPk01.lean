/-
  Part 1 of what the proof stands on: lemmas and contracts, each with its conditions ahead of the colon.
-/
import Derived.WalkKit
import Derived.WalkSpells
import Derived.WalkLawsBesides
import Derived.Deep.QuietTactic
import Derived.BigQuiet
import Derived.Deep.RegionWith
import Derived.Lib.Hide
import Derived.Test.YtchfibmndcfpiaaRows
namespace Go.Proofs.Ytchfibmndcfpiaa
set_option linter.unusedVariables false
set_option linter.unusedSimpArgs false
open Go.RowKit

/-- Integers of 64 bits as the cells of a slice. -/
def ints (xs : List Int) : List Value := xs.map (Value.int .i64)
@[simp] theorem ints_length (xs : List Int) : (ints xs).length = xs.length := by simp [ints]
@[simp] theorem ints_nil : ints [] = [] := rfl
theorem ints_get (xs : List Int) (k : Nat) (hk : k < xs.length) : (ints xs)[k]? = some (.int .i64 (xs.getD k 0)) := by
  simp [ints, List.getD, List.getElem?_eq_getElem hk]
theorem ints_append (xs ys : List Int) : ints (xs ++ ys) = ints xs ++ ints ys := by simp [ints]
theorem ints_set (xs : List Int) (k : Nat) (x : Int) : ints (xs.set k x) = (ints xs).set k (.int .i64 x) := by simp [ints, List.map_set]
theorem getD_of_get {xs : List Int} {k : Nat} {x : Int} (h : xs[k]? = some x) : xs.getD k 0 = x := by simp [List.getD, h]
theorem get_of_lt {xs : List Int} {k : Nat} (h : k < xs.length) : xs[k]? = some (xs.getD k 0) := by simp [List.getD, List.getElem?_eq_getElem h]
theorem ints_inj {xs ys : List Int} (h : ints xs = ints ys) : xs = ys := by
  induction xs generalizing ys with
  | nil => cases ys <;> simp_all [ints]
  | cons x xs ih => cases ys with
    | nil => simp [ints] at h
    | cons y ys => simp only [ints, List.map_cons, List.cons.injEq, Value.int.injEq, true_and] at h; rw [h.1, ih h.2]

/-- The slice 'a' reads as the cells 'vs' (one cell an element), in a block below B. -/
def Rd (w : World) (B : Nat) (a : Option Addr) (vs : List Value) : Prop :=
  vs = [] ∨ ∃ b o, a = some ⟨b, o, none⟩ ∧ b < B ∧ ∀ j, j < vs.length → w.cell? ⟨b, o + j, none⟩ = vs[j]?

theorem Rd.mono {w : World} {B B' : Nat} {a : Option Addr} {vs : List Value} (h : Rd w B a vs) (hB : B ≤ B') : Rd w B' a vs := by
  rcases h with h | ⟨b, o, ha, hb, hc⟩
  · exact .inl h
  · exact .inr ⟨b, o, ha, by omega, hc⟩

theorem Rd.below {w w' : World} {B C : Nat} {a : Option Addr} {vs : List Value} (h : Rd w B a vs) (hb : Below C w w') (hB : B ≤ C) : Rd w' B a vs := by
  rcases h with h | ⟨b, o, ha, hb', hc⟩
  · exact .inl h
  · exact .inr ⟨b, o, ha, hb', fun j hj => by rw [hb.cell (p := ⟨b, o + j, none⟩) (by show b < C; omega)]; exact hc j hj⟩

/-- What a slice of integers holds at an index. -/
theorem Rd.at {w : World} {B : Nat} {a : Option Addr} {xs : List Int} (h : Rd w B a (ints xs)) {k : Nat} (hk : k < xs.length) :
    ∃ b o, a = some ⟨b, o, none⟩ ∧ b < B ∧ ∀ j, j < xs.length → w.cell? ⟨b, o + j, none⟩ = some (.int .i64 (xs.getD j 0)) := by
  rcases h with h | ⟨b, o, ha, hb, hc⟩
  · have : (ints xs).length = 0 := by rw [h]; rfl
    simp at this; subst this; simp at hk
  · exact ⟨b, o, ha, hb, fun j hj => by rw [hc j (by simpa using hj)]; exact ints_get xs j hj⟩

/-- .. with the number behind a name, the equation hidden. -/
theorem Rd.get {w : World} {B : Nat} {a : Option Addr} {xs : List Int} (h : Rd w B a (ints xs)) {k : Nat} (hk : k < xs.length) :
    ∃ b o x, a = some ⟨b, o, none⟩ ∧ b < B ∧ w.cell? ⟨b, o + k, none⟩ = some (.int .i64 x) ∧ Hid (xs[k]? = some x) := by
  obtain ⟨b, o, ha, hb, hc⟩ := h.at hk
  exact ⟨b, o, xs.getD k 0, ha, hb, hc k hk, by simp [Hid, List.getD, List.getElem?_eq_getElem hk]⟩

theorem Rd.nil (w : World) (B : Nat) (a : Option Addr) : Rd w B a [] := .inl rfl

/-- An argument that is a slice of integers, as the row's own frame tells it. -/
theorem rd_of_row {w : World} {a : Option Addr} {len cap : Nat} {zs : List Int} (h : (a = none ∧ len = 0 ∧ cap = 0 ∧ zs = []) ∨
    ∃ x, a = some x ∧ len ≤ cap ∧ cap ≤ maxLen ∧ zs.length = cap ∧ (∀ i, i < zs.length → w.cell? (x.add i) = some (.int .i64 (zs.getD i 0))) ∧ ∀ n ∈ zs, (Lit.int .i64 n).wf = true) :
    Rd w w.heap.size a (ints (zs.take len)) ∧ (zs.take len).length = len := by
  rcases h with ⟨rfl, rfl, rfl, rfl⟩ | ⟨x, rfl, h1, h2, h3, h4, _⟩
  · exact ⟨.inl rfl, rfl⟩
  · have hl : (zs.take len).length = len := by simp; omega
    refine ⟨?_, hl⟩
    by_cases h0 : len = 0
    · subst h0; exact .inl rfl
    · have hx := h4 0 (by omega)
      have hx0 : x.add 0 = x := rfl
      rw [hx0] at hx
      obtain ⟨b, o, s⟩ := x
      have hs : s = none := by
        cases s with
        | none => rfl
        | some s =>
          unfold World.cell? at hx
          split at hx <;> simp at hx
      subst hs
      refine .inr ⟨b, o, rfl, World.block_lt_of_cell? w _ hx, fun j hj => ?_⟩
      rw [ints_length, hl] at hj
      have hj2 := h4 j (by omega)
      have ea : (⟨b, o, none⟩ : Addr).add j = ⟨b, o + j, none⟩ := by unfold Addr.add; split <;> simp_all
      rw [ea] at hj2
      rw [hj2, ints_get _ _ (by omega)]
      simp [List.getD, List.getElem?_take, hj]

/-- A block as a whole, nothing of it frozen. -/
def Blk (w : World) (b : Nat) (cs : List Value) (t : TypeId) : Prop := w.heap[b]? = some (.cells cs.toArray t (0, 0))
section
variable {w : World} {b : Nat} {cs : List Value} {t : TypeId}
theorem Blk.cell (h : Blk w b cs t) (j : Nat) : w.cell? ⟨b, j, none⟩ = cs[j]? := by simp [World.cell?, show w.heap[b]? = _ from h]
theorem Blk.has (h : Blk w b cs t) {j : Nat} (hj : j < cs.length) : ∃ v, w.cell? ⟨b, j, none⟩ = some v := ⟨cs[j], by rw [h.cell, List.getElem?_eq_getElem hj]⟩
theorem Blk.free (h : Blk w b cs t) (j : Nat) : w.frozen? ⟨b, j, none⟩ = false := by simp [World.frozen?, show w.heap[b]? = _ from h]
theorem Blk.lt (h : Blk w b cs t) : b < w.heap.size := lt_of_block h
theorem Blk.set (h : Blk w b cs t) (j : Nat) (u : Value) : Blk (w.setCell ⟨b, j, none⟩ u) b (cs.set j u) t := by
  have := heap_setCell_same w b j cs.toArray t u h
  rwa [List.setIfInBounds_toArray] at this
theorem Blk.other (h : Blk w b cs t) {p : Addr} (hp : b ≠ p.block) (u : Value) : Blk (w.setCell p u) b cs t := (Below.heap_setCell w p u b hp).trans h
theorem Blk.oth (h : Blk w b cs t) {g : Nat} (hne : b ≠ g) (j : Nat) (u : Value) : Blk (w.setCell ⟨g, j, none⟩ u) b cs t := h.other (p := ⟨g, j, none⟩) hne u
theorem Blk.alloc (h : Blk w b cs t) (o : Obj) : Blk (w.alloc o) b cs t := (Below.heap_alloc w o b h.lt).trans h
theorem Blk.below {w' : World} {B : Nat} (h : Blk w b cs t) (hb : Below B w w') (hB : b < B) : Blk w' b cs t := (hb.block b hB).trans h
theorem Blk.same {w' : World} (h : Blk w b cs t) (hb : Below w.heap.size w w') : Blk w' b cs t := h.below hb h.lt
theorem Blk.grown {w' : World} {row : Option Nat} (h : Blk w b cs t) (hg : w.grownBy w' row) (hr : some b ≠ row) : Blk w' b cs t := (hg.block b h.lt hr).trans h
theorem Blk.drewN (h : Blk w b cs t) (n : Nat) : Blk (w.drewN n) b cs t := h
theorem Blk.new (w : World) (cs : List Value) (t : TypeId) : Blk (w.alloc (.cells cs.toArray t)) w.heap.size cs t := heap_alloc_new w _
theorem Blk.unique {cs' : List Value} {t' : TypeId} (h : Blk w b cs t) (h' : Blk w b cs' t') : cs = cs' ∧ t = t' := by
  have := h.symm.trans h'
  simpa using this
theorem Blk.rd (h : Blk w b cs t) {B : Nat} (hB : b < B) : Rd w B (some ⟨b, 0, none⟩) cs :=
  .inr ⟨b, 0, rfl, hB, fun j _ => by rw [Nat.zero_add, h.cell]⟩
theorem Blk.at {xs : List Int} (h : Blk w b (ints xs) t) {k : Nat} (hk : k < xs.length) : w.cell? ⟨b, k, none⟩ = some (.int .i64 (xs.getD k 0)) := by
  rw [h.cell]; exact ints_get xs k hk
theorem Blk.setI {xs : List Int} (h : Blk w b (ints xs) t) (j : Nat) (x : Int) : Blk (w.setCell ⟨b, j, none⟩ (.int .i64 x)) b (ints (xs.set j x)) t := by
  rw [ints_set]; exact h.set j _
theorem Blk.owns (h : Blk w b cs t) {base : Nat} (hb : base ≤ b) (hm : cs.length ≤ maxLen) : w.ownsRow base t 1 (.slice (some ⟨b, 0, none⟩) cs.length cs.length) cs.length cs :=
  ⟨by simp, .inr ⟨b, cs.length, cs.toArray, rfl, hb, h, Nat.le_refl _, hm, by simp, List.take_of_length_le (by simp)⟩⟩
end

/-- An owned row reads as its cells. -/
theorem rd_of_own {w : World} {base e : Nat} {a : Option Addr} {n c m : Nat} {xs : List Value} (h : w.ownsRow base e 1 (.slice a n c) m xs) {B : Nat} (hB : w.heap.size ≤ B) : Rd w B a xs := by
  obtain ⟨h1, h2⟩ := h
  rcases h2 with ⟨h2, h3⟩ | ⟨g, cap, cur, hv, hg, hh, hn, hm, hs, ht⟩
  · exact .inl (List.eq_nil_of_length_eq_zero (by omega))
  · injection hv with ha _ _
    refine .inr ⟨g, 0, ha, Nat.lt_of_lt_of_le (lt_of_block hh) hB, fun j hj => ?_⟩
    have hb : Blk w g cur.toList e := hh
    rw [Nat.zero_add, hb.cell, ← ht, List.getElem?_take, if_pos (by rw [h1] at hj; exact hj)]

/-- The shape of an owned slice value. -/
theorem own_shape {w : World} {base e : Nat} {v : Value} {n : Nat} {xs : List Value} (h : w.ownsRow base e 1 v n xs) : ∃ a c, v = .slice a n c ∧ n ≤ c ∧ (a = none → n = 0) := by
  rcases h.2 with ⟨h2, h3⟩ | ⟨g, cap, cur, hv, hg, hh, hn, hm, hs, ht⟩
  · exact ⟨none, 0, by rw [h2, h3], by omega, fun _ => h3⟩
  · exact ⟨_, cap, hv, hn, fun h => by cases h⟩

/-- Writes to one block leave alone what another one owns. -/
theorem own_grown {w w' : World} {base e g : Nat} {v : Value} {n : Nat} {xs : List Value} (h : w.ownsRow base e 1 v n xs) (hg : w.grownBy w' (some g)) (hne : g < base) : w'.ownsRow base e 1 v n xs := by
  refine h.kept hg (.inr fun e => ?_)
  have := h.lt g e
  omega
theorem Rd.grown {w w' : World} {g B : Nat} {a : Option Addr} {vs : List Value} (h : Rd w B a vs) (hg : w.grownBy w' (some g)) (hB : B ≤ g) (hB2 : B ≤ w.heap.size) : Rd w' B a vs := by
  rcases h with h | ⟨b, o, ha, hb, hc⟩
  · exact .inl h
  · exact .inr ⟨b, o, ha, hb, fun j hj => by rw [World.cell?_of_block (w := w) (hg.block b (by omega) (by intro e; injection e; omega))]; exact hc j hj⟩
theorem below_of_grown {w w' : World} {row : Option Nat} {B : Nat} (hg : w.grownBy w' row) (hB : B ≤ w.heap.size) (hr : ∀ k, row = some k → B ≤ k) : Below B w w' := (Below.refl B w).grown hg hB hr

theorem own_below {w w' : World} {base e size : Nat} {v : Value} {n : Nat} {xs : List Value} (h : w.ownsRow base e size v n xs) (hb : Below w.heap.size w w') : w'.ownsRow base e size v n xs :=
  h.kept (row := none) ⟨hb.os, hb.tape, hb.output, hb.size, fun k hk _ => hb.block k hk⟩ (by cases v.ownBlock <;> simp)

theorem own_base {w : World} {base base' e size : Nat} {v : Value} {n : Nat} {xs : List Value} (h : w.ownsRow base e size v n xs) (hb : base' ≤ base) : w.ownsRow base' e size v n xs := by
  refine ⟨h.1, ?_⟩
  rcases h.2 with h | ⟨g, cap, cur, hv, hg, r⟩
  · exact .inl h
  · exact .inr ⟨g, cap, cur, hv, by omega, r⟩

/-- make([]T, n) for an element type of one cell: a block of n zero values. -/
theorem wpList_make_blk {P : Program} (w : World) {ops : Array Oper} {rest : List Oper} {o : Oper} {a : Act} {Q : Exit → Act → World → Prop}
    (hg : o.guard = none) (l c : Operand) (t : TypeId) (hop : o.op = Op.makeSlice t l c)
    (e : TypeId) (z : Value) (bytes : Nat) (h1 : P.underlying t = some (.slice e)) (hinfo : (P.info? e).map (fun i => (i.zero, i.size, i.bytes)) = some (some z, 1, bytes)) (hz : z.cells = #[z])
    (kl kc : IntKind) (n : Nat) (hl : a.eval l = .int kl (n : Int)) (hc : a.eval c = .int kc (n : Int)) (b2 : bytes * n ≤ 281474976710656) (b3 : n ≤ maxLen)
    (hK : ∀ w', Blk w' w.heap.size (List.replicate n z) e → Below w.heap.size w w' → w'.heap.size = w.heap.size + 1 → wpList P ops Q rest (a.put o.dst (.slice (some ⟨w.heap.size, 0, none⟩) n n)) w') :
    wpList P ops Q (o :: rest) a w := by
  obtain ⟨i, h2, h3, h4, h5⟩ := info_parts hinfo
  refine wpList_plain hg fun K hK' => ?_
  have b2' : (i.bytes : Int) * (n : Int) ≤ 281474976710656 := by rw [h5]; have : ((bytes * n : Nat) : Int) ≤ 281474976710656 := by omega
                                                                 rwa [Int.natCast_mul] at this
  have hr := run_make (P := P) w t e i z h1 h2 h3 kl kc n n (by omega) (Int.le_refl _) b2' (by unfold maxLen at b3; omega)
  simp only [Int.toNat_natCast, hz, h4, Nat.mul_one] at hr
  have e1 : madeCells #[z] n = (List.replicate n z).toArray := by rw [← toList_madeCells_one z n]
  rw [e1] at hr
  unfold Oper.wp
  simp [execOp, hop, hl, hc, hr, Result.andThen]
  exact hK' _ _ (by simpa using hK _ (Blk.new w _ e) ((Below.refl _ w).alloc (Nat.le_refl _) _) (by simp))

/-- append of one element (of one cell) to a slice that the call owns: the element lies in a block of its own that has just been made. -/
theorem wpList_append_one {P : Program} (wr : World) {ops : Array Oper} {rest : List Oper} {o : Oper} {a : Act} {Q : Exit → Act → World → Prop}
    (hg : o.guard = none) (s x : Operand) (t : TypeId) (hop : o.op = Op.call { callee := Callee.builtin Builtin.append, args := #[s, x], argTypes := #[t, t] })
    (base : Nat) (e : TypeId) (z : Value) (bytes : Nat) (h1 : P.underlying t = some (.slice e)) (hinfo : (P.info? e).map (fun i => (i.zero, i.size, i.bytes)) = some (some z, 1, bytes)) (hz : z.cells.size = 1)
    (v : Value) (n : Nat) (xs : List Value) (hs : a.eval s = v) (hown : wr.ownsRow base e 1 v n xs) (y : Value) (hy : y.oneCell' = true)
    (hx : a.eval x = .slice (some ⟨wr.heap.size, 0, none⟩) 1 1) (hb : bytes ≤ 64) (hn : n ≤ 1099511627776) (hbase : base ≤ wr.heap.size)
    (hK : ∀ v' w', w'.ownsRow base e 1 v' (n + 1) (xs ++ [y]) → wr.grownBy w' v.ownBlock → wpList P ops Q rest (a.put o.dst v') w') :
    wpList P ops Q (o :: rest) a (wr.alloc (.cells #[y] e)) := by
  obtain ⟨i, h2, h3, h4, h5⟩ := info_parts hinfo
  have hbb : (n + 1) * bytes ≤ 140737488355328 := Nat.le_trans (Nat.mul_le_mul_left (n + 1) hb) (by omega)
  refine wpList_append_own (wr.alloc (.cells #[y] e)) hg s x t hop base e i z 1 bytes h1 h2 h3 h4 h5 hz (by omega) v n xs hs (hown.alloc _) ⟨wr.heap.size, 0, none⟩ 1 1 [y] hx rfl ?_ ?_ (by unfold maxLen; omega) hbb (by simp; omega) ?_
  · intro j u hj
    match j, hj with
    | 0, hj =>
      simp at hj
      subst hj
      simp [Addr.add]
    | j + 1, hj => simp at hj
  · intro u hu
    simp at hu
    subst hu
    exact hy
  · intro v' w' ho hgr _
    refine hK v' w' ho ⟨hgr.os, hgr.tape, hgr.output, ?_, fun k hk hne => ?_⟩
    · have := hgr.size; simp at this; omega
    · rw [hgr.block k (by simp; omega) hne]
      exact Below.heap_alloc _ _ _ hk
/-- '[]T{}': nothing, in a block of its own. -/
theorem own_empty (w : World) (e : Nat) : (w.alloc (.cells #[] e)).ownsRow w.heap.size e 1 (.slice (some ⟨w.heap.size, 0, none⟩) 0 0) 0 [] :=
  World.ownsRow_made w #[] 0 (Nat.le_refl _) (Nat.zero_le _) rfl
theorem own_block_ne {w : World} {base e : Nat} {v : Value} {n g : Nat} {xs : List Value} (h : w.ownsRow base e 1 v n xs) (hg : g < base) : some g ≠ v.ownBlock := by
  intro e1
  have := h.lt g e1.symm
  omega
/-- What an append leaves below the owned stretch. -/
theorem below_append {w wr w' : World} {B base e : Nat} {v : Value} {n : Nat} {xs : List Value} (h : Below B w wr) (ho : wr.ownsRow base e 1 v n xs) (hg : wr.grownBy w' v.ownBlock) (hB : B ≤ base) (hB2 : B ≤ wr.heap.size) : Below B w w' :=
  h.grown hg hB2 fun k hk => Nat.le_trans hB (ho.lt k hk).1

theorem ints_replicate (n : Nat) (x : Int) : List.replicate n (Value.int .i64 x) = ints (List.replicate n x) := by simp [ints]

/-- The k first ones are written, the others are as they were. -/
theorem fill_step {α : Type} (xs : List α) (z : α) (k : Nat) (hk : k < xs.length) (x : α) (hx : xs[k]? = some x) :
    (xs.take k ++ List.replicate (xs.length - k) z).set k x = xs.take (k + 1) ++ List.replicate (xs.length - (k + 1)) z := by
  have e : xs.length - k = (xs.length - (k + 1)) + 1 := by omega
  have hl : (xs.take k).length = k := by simp; omega
  have hx' : xs[k] = x := by rw [List.getElem?_eq_getElem hk] at hx; injection hx
  rw [e, List.replicate_succ, List.set_append_right _ _ (by omega), hl, Nat.sub_self, List.set_cons_zero, List.take_succ_eq_append_getElem hk, hx', List.append_assoc]
  rfl

/-- A callee that leaves the world alone, met in a region that draws: with one count of draws, or with two. -/
theorem qs1 {P : Program} {f : FuncId} {args : Array Value} {w : World} {n : Nat} {v : Value} (h : Calls P f args (w.drewN n) fun e w' => e = .returned v ∧ w.drewN n = w') :
    Calls P f args (w.drewN n) fun e w'' => e = .returned v ∧ ∃ k, w'' = w.drewN k := h.mono fun _ _ h => ⟨h.1, n, h.2.symm⟩
theorem qs2 {P : Program} {f : FuncId} {args : Array Value} {w : World} {m n : Nat} {v : Value} (h : Calls P f args (w.drewN (m + n)) fun e w' => e = .returned v ∧ w.drewN (m + n) = w') :
    Calls P f args (w.drewN (m + n)) fun e w'' => e = .returned v ∧ ∃ k, w'' = w.drewN (m + k) := h.mono fun _ _ h => ⟨h.1, n, h.2.symm⟩
theorem qd1 {P : Program} {f : FuncId} {args : Array Value} {w : World} {n : Nat} {v : Value} (h : Calls P f args (w.drewN n) fun e w' => e = .returned v ∧ ∃ k, w' = (w.drewN n).drewN k) :
    Calls P f args (w.drewN n) fun e w'' => e = .returned v ∧ ∃ k, w'' = w.drewN k := h.mono fun _ _ ⟨h, k, hk⟩ => ⟨h, n + k, by rw [hk, World.drewN_drewN]⟩
theorem qd2 {P : Program} {f : FuncId} {args : Array Value} {w : World} {m n : Nat} {v : Value} (h : Calls P f args (w.drewN (m + n)) fun e w' => e = .returned v ∧ ∃ k, w' = (w.drewN (m + n)).drewN k) :
    Calls P f args (w.drewN (m + n)) fun e w'' => e = .returned v ∧ ∃ k, w'' = w.drewN (m + k) := h.mono fun _ _ ⟨h, k, hk⟩ => ⟨h, n + k, by rw [hk, World.drewN_drewN, Nat.add_assoc]⟩

theorem drewN_below (w : World) (n : Nat) : Below w.heap.size w (w.drewN n) := ⟨rfl, rfl, rfl, Nat.le_refl _, fun _ _ => rfl⟩
theorem grown_of_grown {w w1 w2 : World} {r : Option Nat} (h : w.grownBy w1 r) (h2 : w1.grownBy w2 r) : w.grownBy w2 r :=
  ⟨h2.os.trans h.os, h2.tape.trans h.tape, h2.output.trans h.output, Nat.le_trans h.size h2.size, fun i hi hne => (h2.block i (Nat.lt_of_lt_of_le hi h.size) hne).trans (h.block i hi hne)⟩

theorem ret_int {k : IntKind} {a b : Int} (h : a = b) : Ending.returned (.int k a) = .returned (.int k b) := by rw [h]
theorem ret_bool {a b : Bool} (h : a = b) : Ending.returned (.bool a) = .returned (.bool b) := by rw [h]

theorem take_succ_getD (xs : List Int) (k : Nat) (hk : k < xs.length) : xs.take (k + 1) = xs.take k ++ [xs.getD k 0] := by
  rw [List.take_succ_eq_append_getElem hk]; simp [List.getD, List.getElem?_eq_getElem hk]

/-- The first k of two lists of one length are alike. -/
theorem take_eq_succ {α : Type} {xs ys : List α} {k : Nat} {x y : α} (hx : xs[k]? = some x) (hy : ys[k]? = some y) (h : xs.take k = ys.take k) : xs.take (k + 1) = ys.take (k + 1) ↔ x = y := by
  rw [List.take_add_one, List.take_add_one, hx, hy, h]
  simp

theorem ne_of_get {α : Type} {xs ys : List α} {k : Nat} {x y : α} (hx : xs[k]? = some x) (hy : ys[k]? = some y) (h : x ≠ y) : xs ≠ ys := by
  intro e; subst e; rw [hx] at hy; exact h (by injection hy)

theorem Rd.up {w : World} {a : Option Addr} {vs : List Value} (h : Rd w w.heap.size a vs) (o : Obj) : Rd (w.alloc o) (w.alloc o).heap.size a vs :=
  (h.below ((Below.refl _ w).alloc (Nat.le_refl _) o) (Nat.le_refl _)).mono (by simp)
theorem Rd.to {w w' : World} {a : Option Addr} {vs : List Value} (h : Rd w w.heap.size a vs) (hb : Below w.heap.size w w') : Rd w' w'.heap.size a vs :=
  (h.below hb (Nat.le_refl _)).mono hb.size
theorem below_sto {B : Nat} {a w : World} (h : Below B a w) {g : Nat} (hB : B ≤ g) (j : Nat) (u : Value) : Below B a (w.setCell ⟨g, j, none⟩ u) := h.setCell (p := ⟨g, j, none⟩) hB u
theorem below_drew' {B : Nat} {w w' : World} (h : Below B w w') : Below B w w'.drew := h.drew
theorem bl1 (w : World) (o : Obj) : Below w.heap.size w (w.alloc o) := (Below.refl _ w).alloc (Nat.le_refl _) o
theorem bl2 (w : World) (o p : Obj) : Below w.heap.size w ((w.alloc o).alloc p) := (bl1 w o).alloc (by simp) p
theorem bl3 (w : World) (o p q : Obj) : Below w.heap.size w (((w.alloc o).alloc p).alloc q) := (bl2 w o p).alloc (by simp; omega) q
theorem below_then {w w1 w2 : World} (h : Below w.heap.size w w1) (h2 : Below w1.heap.size w1 w2) : Below w.heap.size w w2 := h.trans (h2.mono h.size)

/-- The answer of a function that gives integers or says no: 'none': nil and false; 'some xs': a new slice of xs and true. -/
def RetI (T : Nat) (w : World) (r : Option (List Int)) (e : Ending) (w' : World) : Prop :=
  Below w.heap.size w w' ∧ match r with
    | none => e = .returned (.tuple #[.slice none 0 0, .bool false])
    | some xs => ∃ a c, e = .returned (.tuple #[.slice a xs.length c, .bool true]) ∧ w'.ownsRow w.heap.size T 1 (.slice a xs.length c) xs.length (ints xs)
theorem RetI.flat {T : Nat} {w w' : World} {r : Option (List Int)} {e : Ending} (h : RetI T w r e w') :
    Below w.heap.size w w' ∧ ∃ a c, e = .returned (.tuple #[.slice a (r.getD []).length c, .bool r.isSome]) ∧ w'.ownsRow w.heap.size T 1 (.slice a (r.getD []).length c) (r.getD []).length (ints (r.getD [])) := by
  refine ⟨h.1, ?_⟩
  have h2 := h.2
  cases r with
  | none => exact ⟨none, 0, h2, World.ownsRow_nil _ _ _ _⟩
  | some xs => exact h2
theorem RetI.no {T : Nat} {w w' : World} (h : Below w.heap.size w w') : RetI T w none (.returned (.tuple #[.slice none 0 0, .bool false])) w' := ⟨h, rfl⟩
theorem RetI.blk {T : Nat} {w w' : World} {g : Nat} {xs : List Int} (hb : Blk w' g (ints xs) T) (hg : w.heap.size ≤ g) (hl : xs.length ≤ 1152921504606846976) (h : Below w.heap.size w w') :
    RetI T w (some xs) (.returned (.tuple #[.slice (some ⟨g, 0, none⟩) xs.length xs.length, .bool true])) w' :=
  ⟨h, _, _, rfl, by have := hb.owns hg (by rw [ints_length]; unfold maxLen; omega); rwa [ints_length] at this⟩

theorem below_drewN {B : Nat} {w w' : World} (h : Below B w w') (n : Nat) : Below B w (w'.drewN n) := ⟨h.os, h.tape, h.output, h.size, h.block⟩

end Go.Proofs.Ytchfibmndcfpiaa
namespace Go.Proofs.Ytchfibmndcfpiaa
set_option linter.unusedVariables false
set_option linter.unusedSimpArgs false

/-- Among n + 1 numbers below n two are the same. -/
theorem ph_two : ∀ (n : Nat) (f : Nat → Nat), (∀ i, i ≤ n → f i < n) → ∃ i j, i < j ∧ j ≤ n ∧ f i = f j
  | 0, f, h => by have := h 0 (Nat.le_refl _); omega
  | n + 1, f, h => by
    by_cases hx : ∃ i, i ≤ n ∧ f i = f (n + 1)
    · obtain ⟨i, h1, h2⟩ := hx
      exact ⟨i, n + 1, by omega, Nat.le_refl _, h2⟩
    · have hne : ∀ i, i ≤ n → f i ≠ f (n + 1) := fun i hi e => hx ⟨i, hi, e⟩
      obtain ⟨i, j, h1, h2, h3⟩ := ph_two n (fun i => if f (n + 1) < f i then f i - 1 else f i) (fun i hi => by
        have a1 := h i (by omega)
        have a2 := h (n + 1) (Nat.le_refl _)
        have a3 := hne i hi
        show (if f (n + 1) < f i then f i - 1 else f i) < n
        split <;> omega)
      refine ⟨i, j, h1, by omega, ?_⟩
      have a1 := hne i (by omega)
      have a2 := hne j h2
      by_cases b1 : f (n + 1) < f i <;> by_cases b2 : f (n + 1) < f j <;> simp only [b1, b2, if_true, if_false] at h3 <;> omega
def itN (f : Nat → Nat) (x : Nat) : Nat → Nat
  | 0 => x
  | k + 1 => f (itN f x k)
theorem itN_in {A : Nat → Prop} {f : Nat → Nat} (h : ∀ i, A i → A (f i)) {x : Nat} (hx : A x) : ∀ k, A (itN f x k)
  | 0 => hx
  | k + 1 => h _ (itN_in h hx k)
theorem itN_add (f : Nat → Nat) (x s : Nat) : ∀ k, itN f (itN f x s) k = itN f x (s + k)
  | 0 => rfl
  | k + 1 => by rw [itN, itN_add f x s k]; rfl
/-- What maps a finite set into itself and no two to one meets all of it. -/
theorem inj_onto {n : Nat} {A : Nat → Prop} (hA : ∀ i, A i → i < n) {f : Nat → Nat} (h : ∀ i, A i → A (f i)) (hi : ∀ i j, A i → A j → f i = f j → i = j) {x : Nat} (hx : A x) : ∃ y, A y ∧ f y = x := by
  obtain ⟨i, j, h1, h2, h3⟩ := ph_two n (itN f x) (fun i _ => hA _ (itN_in h hx i))
  have key : ∀ d i, itN f x i = itN f x (i + d + 1) → ∃ y, A y ∧ f y = x := by
    intro d i
    induction i with
    | zero => intro e; exact ⟨itN f x (0 + d), itN_in h hx _, e.symm⟩
    | succ i ih =>
      intro e
      refine ih (hi _ _ (itN_in h hx _) (itN_in h hx _) ?_)
      rw [show i + 1 + d + 1 = (i + d + 1) + 1 by omega] at e
      exact e
  refine key (j - i - 1) i ?_
  rw [show i + (j - i - 1) + 1 = j by omega]
  exact h3
/-- What goes on for ever in a finite set comes back: a least number to which it comes back, and all between are greater. -/
theorem comes_back {n : Nat} {A : Nat → Prop} (hA : ∀ i, A i → i < n) {f : Nat → Nat} (h : ∀ i, A i → A (f i)) {x : Nat} (hx : A x) : ∃ a p, A a ∧ 1 ≤ p ∧ p ≤ n ∧ itN f a p = a ∧ ∀ k, a ≤ itN f a k := by
  obtain ⟨i, j, h1, h2, h3⟩ := ph_two n (itN f x) (fun i _ => hA _ (itN_in h hx i))
  have hper : ∀ k, itN f (itN f x i) (k + (j - i)) = itN f (itN f x i) k := fun k => by
    rw [itN_add, itN_add, show i + (k + (j - i)) = j + k by omega, ← itN_add, ← itN_add, h3]
  generalize hy : itN f x i = y at *
  have hyA : A y := by rw [← hy]; exact itN_in h hx i
  generalize hp : j - i = p at *
  have hp1 : 1 ≤ p := by omega
  have hpn : p ≤ n := by omega
  -- the least one of the ring
  have hleast : ∀ m, ∃ q, q ≤ m ∧ ∀ k, k ≤ m → itN f y q ≤ itN f y k := by
    intro m
    induction m with
    | zero =>
      refine ⟨0, Nat.le_refl _, fun k hk => ?_⟩
      have : k = 0 := by omega
      subst this
      exact Nat.le_refl _
    | succ m ih =>
      obtain ⟨q, hq, hm⟩ := ih
      by_cases hlt : itN f y (m + 1) < itN f y q
      · exact ⟨m + 1, Nat.le_refl _, fun k hk => by
          by_cases e : k = m + 1
          · subst e; exact Nat.le_refl _
          · have := hm k (by omega); omega⟩
      · exact ⟨q, by omega, fun k hk => by
          by_cases e : k = m + 1
          · subst e; omega
          · exact hm k (by omega)⟩
  obtain ⟨q, hq, hm⟩ := hleast p
  have hall : ∀ k, itN f y q ≤ itN f y k := by
    intro k
    induction k using Nat.strongRecOn with
    | _ k ih =>
      by_cases hk : k ≤ p
      · exact hm k hk
      · have := hper (k - p)
        rw [show k - p + p = k by omega] at this
        rw [this]
        exact ih (k - p) (by omega)
  refine ⟨itN f y q, p, itN_in h hyA q, hp1, hpn, ?_, fun k => ?_⟩
  · rw [itN_add]; exact hper q
  · rw [itN_add]; exact hall _

/-- Two sides of n each: who may have whom, and places. -/
structure Sides where
  n : Nat
  P : Nat → Nat → Prop
  pl : Nat → Nat → Int
  pr : Nat → Nat → Int
  lt : ∀ a b, P a b → a < n ∧ b < n
  plI : ∀ a b b', P a b → P a b' → pl a b = pl a b' → b = b'
  prI : ∀ a a' b, P a b → P a' b → pr b a = pr b a' → a = a'
def Sides.turn (I : Sides) : Sides := ⟨I.n, fun a b => I.P b a, I.pr, I.pl, fun a b h => (I.lt b a h).symm, fun a b b' h h' e => I.prI b b' a h h' e, fun a a' b h h' e => I.plI b a a' h h' e⟩
structure SM (I : Sides) (M : Nat → Nat → Prop) : Prop where
  p : ∀ a b, M a b → I.P a b
  l : ∀ a b b', M a b → M a b' → b = b'
  r : ∀ a a' b, M a b → M a' b → a = a'
  s : ∀ a b, I.P a b → (∃ b', M a b' ∧ I.pl a b' ≤ I.pl a b) ∨ ∃ a', M a' b ∧ I.pr b a' ≤ I.pr b a
theorem SM.turn {I : Sides} {M : Nat → Nat → Prop} (h : SM I M) : SM I.turn (fun a b => M b a) :=
  ⟨fun a b hm => h.p b a hm, fun a b b' h1 h2 => h.r b b' a h1 h2, fun a a' b h1 h2 => h.l b a a' h1 h2, fun a b hp => (h.s b a hp).symm⟩
section
variable {I : Sides} {M M' Z : Nat → Nat → Prop}
/-- One on the left has a dearer one in M than in M'. -/
def Likes (I : Sides) (M M' : Nat → Nat → Prop) (a : Nat) : Prop := ∃ b, M a b ∧ ∀ b', M' a b' → I.pl a b < I.pl a b'
theorem likes_not {a : Nat} (h : Likes I M M' a) (h' : Likes I M' M a) : False := by
  obtain ⟨b, h1, h2⟩ := h
  obtain ⟨b', h3, h4⟩ := h'
  have := h2 b' h3
  have := h4 b h1
  omega
/-- Whom it has there has a dearer one in M', who likes M better. -/
theorem opposed (h : SM I M) (h' : SM I M') {a b : Nat} (hb : M a b) (hl : ∀ b', M' a b' → I.pl a b < I.pl a b') : ∃ a', M' a' b ∧ I.pr b a' < I.pr b a ∧ Likes I M M' a' := by
  rcases h'.s a b (h.p a b hb) with ⟨b', h1, h2⟩ | ⟨a', h1, h2⟩
  · have := hl b' h1; omega
  · have hne : a' ≠ a := by
      intro e; subst e
      have := hl b h1; omega
    have hlt : I.pr b a' < I.pr b a := by
      have : I.pr b a' ≠ I.pr b a := fun e => hne (I.prI a' a b (h'.p _ _ h1) (h.p _ _ hb) e)
      omega
    refine ⟨a', h1, hlt, ?_⟩
    rcases h.s a' b (h'.p _ _ h1) with ⟨c, g1, g2⟩ | ⟨a2, g1, g2⟩
    · refine ⟨c, g1, fun b' hb' => ?_⟩
      have := h'.l a' b' b hb' h1
      subst this
      have : I.pl a' c ≠ I.pl a' b' := fun e => by
        have := I.plI a' c b' (h.p _ _ g1) (h'.p _ _ h1) e
        subst this
        exact hne (h.r _ _ _ g1 hb)
      omega
    · have := h.r _ _ _ g1 hb
      subst this
      omega
/-- All who like M better have in M' those whom others of them have in M. -/
theorem shifted (h : SM I M) (h' : SM I M') {a' : Nat} (ha : Likes I M M' a') : ∃ a b, Likes I M M' a ∧ M a b ∧ M' a' b := by
  classical
  have step : ∀ a, Likes I M M' a → ∃ a', Likes I M M' a' ∧ ∃ b, M a b ∧ M' a' b := fun a ⟨b, h1, h2⟩ => by
    obtain ⟨a', g1, _, g3⟩ := opposed h h' h1 h2
    exact ⟨a', g3, b, h1, g1⟩
  let f : Nat → Nat := fun a => if hh : Likes I M M' a then (step a hh).choose else a
  have hf : ∀ a (hh : Likes I M M' a), Likes I M M' (f a) ∧ ∃ b, M a b ∧ M' (f a) b := fun a hh => by
    have e : f a = (step a hh).choose := by simp [f, hh]
    rw [e]
    exact (step a hh).choose_spec
  obtain ⟨y, hy, e⟩ := inj_onto (n := I.n) (A := Likes I M M') (fun i ⟨b, h1, _⟩ => (I.lt _ _ (h.p _ _ h1)).1) (f := f) (fun i hi => (hf i hi).1) (fun i j hi hj e => by
    obtain ⟨_, b, h1, h2⟩ := hf i hi
    obtain ⟨_, c, h3, h4⟩ := hf j hj
    rw [e] at h2
    have := h'.l _ _ _ h2 h4
    subst this
    exact h.r _ _ _ h1 h3) ha
  obtain ⟨_, b, h1, h2⟩ := hf y hy
  rw [e] at h2
  exact ⟨y, b, hy, h1, h2⟩
/-- Who is matched in one is matched in all. -/
theorem all_left (h : SM I M) (h' : SM I M') {a b : Nat} (hb : M a b) : ∃ b', M' a b' := by
  by_cases hl : Likes I M M' a
  · obtain ⟨_, c, _, _, h3⟩ := shifted h h' hl
    exact ⟨c, h3⟩
  · refine Classical.byContradiction fun hn => hl ⟨b, hb, fun b' hb' => absurd ⟨b', hb'⟩ hn⟩
theorem all_right (h : SM I M) (h' : SM I M') {a b : Nat} (hb : M a b) : ∃ a', M' a' b := all_left h.turn h'.turn (a := b) (b := a) hb
/-- The dearer ones. -/
def MeetR (I : Sides) (M M' : Nat → Nat → Prop) (a b : Nat) : Prop := (M a b ∧ ∀ b', M' a b' → I.pl a b ≤ I.pl a b') ∨ (M' a b ∧ ∀ b', M a b' → I.pl a b ≤ I.pl a b')
theorem meet_inj (h : SM I M) (h' : SM I M') {a c k : Nat} (h1 : M a k) (l1 : ∀ b', M' a b' → I.pl a k ≤ I.pl a b') (h2 : M' c k) (l2 : ∀ b', M c b' → I.pl c k ≤ I.pl c b') : a = c := by
  refine Classical.byContradiction fun hne => ?_
  have s1 : ∀ b', M' a b' → I.pl a k < I.pl a b' := fun b' hb' => by
    have := l1 b' hb'
    have : I.pl a k ≠ I.pl a b' := fun e => by
      have := I.plI a k b' (h.p _ _ h1) (h'.p _ _ hb') e
      subst this
      exact hne (h'.r _ _ _ hb' h2)
    omega
  have s2 : ∀ b', M c b' → I.pl c k < I.pl c b' := fun b' hb' => by
    have := l2 b' hb'
    have : I.pl c k ≠ I.pl c b' := fun e => by
      have := I.plI c k b' (h'.p _ _ h2) (h.p _ _ hb') e
      subst this
      exact hne (h.r _ _ _ h1 hb')
    omega
  obtain ⟨x, x1, x2, _⟩ := opposed h h' h1 s1
  have := h'.r _ _ _ x1 h2
  subst this
  obtain ⟨y, y1, y2, _⟩ := opposed h' h h2 s2
  have := h.r _ _ _ y1 h1
  subst this
  omega
theorem meet_sm (h : SM I M) (h' : SM I M') : SM I (MeetR I M M') := by
  refine ⟨fun a b hm => ?_, fun a b b' h1 h2 => ?_, fun a a' b h1 h2 => ?_, fun x y hp => ?_⟩
  · rcases hm with ⟨h1, _⟩ | ⟨h1, _⟩
    · exact h.p _ _ h1
    · exact h'.p _ _ h1
  · rcases h1 with ⟨h1, l1⟩ | ⟨h1, l1⟩ <;> rcases h2 with ⟨h2, l2⟩ | ⟨h2, l2⟩
    · exact h.l _ _ _ h1 h2
    · have := l1 _ h2; have := l2 _ h1
      exact I.plI a b b' (h.p _ _ h1) (h'.p _ _ h2) (by omega)
    · have := l1 _ h2; have := l2 _ h1
      exact I.plI a b b' (h'.p _ _ h1) (h.p _ _ h2) (by omega)
    · exact h'.l _ _ _ h1 h2
  · rcases h1 with ⟨h1, l1⟩ | ⟨h1, l1⟩ <;> rcases h2 with ⟨h2, l2⟩ | ⟨h2, l2⟩
    · exact h.r _ _ _ h1 h2
    · exact meet_inj h h' h1 l1 h2 l2
    · exact (meet_inj h h' h2 l2 h1 l1).symm
    · exact h'.r _ _ _ h1 h2
  · -- what x has is at least as dear as what it has in either one
    have best : ∀ b, (M x b ∨ M' x b) → I.pl x b ≤ I.pl x y → ∃ b', MeetR I M M' x b' ∧ I.pl x b' ≤ I.pl x y := by
      intro b hb hle
      have hboth : ∃ c d, M x c ∧ M' x d := by
        rcases hb with hb | hb
        · obtain ⟨d, hd⟩ := all_left h h' hb
          exact ⟨b, d, hb, hd⟩
        · obtain ⟨c, hc⟩ := all_left h' h hb
          exact ⟨c, b, hc, hb⟩
      obtain ⟨c, d, hc, hd⟩ := hboth
      have hbc : b = c ∨ b = d := by
        rcases hb with hb | hb
        · exact .inl (h.l _ _ _ hb hc)
        · exact .inr (h'.l _ _ _ hb hd)
      by_cases hcd : I.pl x c ≤ I.pl x d
      · refine ⟨c, .inl ⟨hc, fun b' hb' => by have := h'.l _ _ _ hb' hd; subst this; exact hcd⟩, ?_⟩
        rcases hbc with e | e <;> subst e <;> omega
      · refine ⟨d, .inr ⟨hd, fun b' hb' => by have := h.l _ _ _ hb' hc; subst this; omega⟩, ?_⟩
        rcases hbc with e | e <;> subst e <;> omega
    rcases h.s x y hp with ⟨b, h1, h2⟩ | ⟨a, h1, h2⟩
    · exact .inl (best b (.inl h1) h2)
    · rcases h'.s x y hp with ⟨b, g1, g2⟩ | ⟨c, g1, g2⟩
      · exact .inl (best b (.inr g1) g2)
      · refine .inr ?_
        by_cases m1 : MeetR I M M' a y
        · exact ⟨a, m1, h2⟩
        · by_cases m2 : MeetR I M M' c y
          · exact ⟨c, m2, g2⟩
          · exfalso
            have la : Likes I M' M a := by
              refine Classical.byContradiction fun hn => m1 (.inl ⟨h1, fun b' hb' => ?_⟩)
              refine Classical.byContradiction fun hlt => hn ⟨b', hb', fun b2 hb2 => ?_⟩
              have := h.l _ _ _ hb2 h1
              subst this; omega
            have lc : Likes I M M' c := by
              refine Classical.byContradiction fun hn => m2 (.inr ⟨g1, fun b' hb' => ?_⟩)
              refine Classical.byContradiction fun hlt => hn ⟨b', hb', fun b2 hb2 => ?_⟩
              have := h'.l _ _ _ hb2 g1
              subst this; omega
            obtain ⟨a0, b0, l0, e1, e2⟩ := shifted h h' lc
            have := h'.l _ _ _ e2 g1
            subst this
            have := h.r _ _ _ e1 h1
            subst this
            exact likes_not l0 la
/-- The less dear ones. -/
def JoinR (I : Sides) (M M' : Nat → Nat → Prop) (a b : Nat) : Prop := (M a b ∧ ∀ b', M' a b' → I.pl a b' ≤ I.pl a b) ∨ (M' a b ∧ ∀ b', M a b' → I.pl a b' ≤ I.pl a b)
theorem join_inj (h : SM I M) (h' : SM I M') {a c k : Nat} (h1 : M a k) (l1 : ∀ b', M' a b' → I.pl a b' ≤ I.pl a k) (h2 : M' c k) (l2 : ∀ b', M c b' → I.pl c b' ≤ I.pl c k) : a = c := by
  refine Classical.byContradiction fun hne => ?_
  have la : Likes I M' M a := by
    obtain ⟨b', hb'⟩ := all_left h h' h1
    refine ⟨b', hb', fun b2 hb2 => ?_⟩
    have := h.l _ _ _ hb2 h1
    subst this
    have := l1 b' hb'
    have : I.pl a b' ≠ I.pl a b2 := fun e => by
      have := I.plI a b' b2 (h'.p _ _ hb') (h.p _ _ h1) e
      subst this
      exact hne (h'.r _ _ _ hb' h2)
    omega
  have lc : Likes I M M' c := by
    obtain ⟨b', hb'⟩ := all_left h' h h2
    refine ⟨b', hb', fun b2 hb2 => ?_⟩
    have := h'.l _ _ _ hb2 h2
    subst this
    have := l2 b' hb'
    have : I.pl c b' ≠ I.pl c b2 := fun e => by
      have := I.plI c b' b2 (h.p _ _ hb') (h'.p _ _ h2) e
      subst this
      exact hne (h.r _ _ _ h1 hb')
    omega
  obtain ⟨a0, b0, l0, e1, e2⟩ := shifted h h' lc
  have := h'.l _ _ _ e2 h2
  subst this
  have := h.r _ _ _ e1 h1
  subst this
  exact likes_not l0 la
theorem join_of (h : SM I M) (h' : SM I M') {x y a : Nat} (h1 : M a y) (h2 : I.pr y a ≤ I.pr y x) : ∃ a', JoinR I M M' a' y ∧ I.pr y a' ≤ I.pr y x := by
  by_cases hj : JoinR I M M' a y
  · exact ⟨a, hj, h2⟩
  · have hl : ∀ b', M' a b' → I.pl a y < I.pl a b' := fun b' hb' => by
      refine Classical.byContradiction fun hn => hj (.inl ⟨h1, fun b2 hb2 => ?_⟩)
      have := h'.l _ _ _ hb2 hb'
      subst this; omega
    obtain ⟨a', g1, g2, c, g3, g4⟩ := opposed h h' h1 hl
    refine ⟨a', .inr ⟨g1, fun b' hb' => ?_⟩, by omega⟩
    have := h.l _ _ _ hb' g3
    subst this
    have := g4 y g1
    omega
theorem join_comm {a b : Nat} (h : JoinR I M M' a b) : JoinR I M' M a b := h.symm
theorem join_sm (h : SM I M) (h' : SM I M') : SM I (JoinR I M M') := by
  refine ⟨fun a b hm => ?_, fun a b b' h1 h2 => ?_, fun a a' b h1 h2 => ?_, fun x y hp => ?_⟩
  · rcases hm with ⟨h1, _⟩ | ⟨h1, _⟩
    · exact h.p _ _ h1
    · exact h'.p _ _ h1
  · rcases h1 with ⟨h1, l1⟩ | ⟨h1, l1⟩ <;> rcases h2 with ⟨h2, l2⟩ | ⟨h2, l2⟩
    · exact h.l _ _ _ h1 h2
    · have := l1 _ h2; have := l2 _ h1
      exact I.plI a b b' (h.p _ _ h1) (h'.p _ _ h2) (by omega)
    · have := l1 _ h2; have := l2 _ h1
      exact I.plI a b b' (h'.p _ _ h1) (h.p _ _ h2) (by omega)
    · exact h'.l _ _ _ h1 h2
  · rcases h1 with ⟨h1, l1⟩ | ⟨h1, l1⟩ <;> rcases h2 with ⟨h2, l2⟩ | ⟨h2, l2⟩
    · exact h.r _ _ _ h1 h2
    · exact join_inj h h' h1 l1 h2 l2
    · exact (join_inj h h' h2 l2 h1 l1).symm
    · exact h'.r _ _ _ h1 h2
  · rcases h.s x y hp with ⟨b, h1, h2⟩ | ⟨a, h1, h2⟩
    · rcases h'.s x y hp with ⟨d, g1, g2⟩ | ⟨c, g1, g2⟩
      · refine .inl ?_
        by_cases hbd : I.pl x d ≤ I.pl x b
        · exact ⟨b, .inl ⟨h1, fun b' hb' => by have := h'.l _ _ _ hb' g1; subst this; exact hbd⟩, h2⟩
        · exact ⟨d, .inr ⟨g1, fun b' hb' => by have := h.l _ _ _ hb' h1; subst this; omega⟩, g2⟩
      · obtain ⟨a', j1, j2⟩ := join_of h' h g1 g2
        exact .inr ⟨a', join_comm j1, j2⟩
    · exact .inr (join_of h h' h1 h2)
/-- The last one of all: those on the right have there whom they like best. -/
def LastR (I : Sides) (Z : Nat → Nat → Prop) : Prop := SM I Z ∧ ∀ M, SM I M → ∀ a b, M a b → ∃ a0, Z a0 b ∧ I.pr b a0 ≤ I.pr b a
/-- Where M is not the last one, each one who has another one there has a next one who has too. -/
theorem next_there (h : SM I M) (hz : LastR I Z) {a b : Nat} (hab : Z a b) (hn : ¬ M a b) : ∃ c, M a c ∧ I.pl a c < I.pl a b ∧ (∃ a', M a' b ∧ I.pr b a < I.pr b a') ∧
    ∀ b', I.P a b' → I.pl a c < I.pl a b' → I.pl a b' ≤ I.pl a b → (∀ a', M a' b' → I.pr b' a < I.pr b' a') → ∃ a', M a' b' ∧ ∃ b1, Z a' b1 ∧ ¬ M a' b1 := by
  obtain ⟨hs, hbest⟩ := hz
  obtain ⟨c, hc⟩ := all_left hs h hab
  obtain ⟨a', ha'⟩ := all_right hs h hab
  have hpr : I.pr b a < I.pr b a' := by
    obtain ⟨a0, z1, z2⟩ := hbest M h a' b ha'
    have := hs.r _ _ _ z1 hab
    subst this
    have : I.pr b a0 ≠ I.pr b a' := fun e => by
      have := I.prI a0 a' b (hs.p _ _ hab) (h.p _ _ ha') e
      subst this
      exact hn ha'
    omega
  have hcb : I.pl a c < I.pl a b := by
    rcases h.s a b (hs.p _ _ hab) with ⟨c', g1, g2⟩ | ⟨a2, g1, g2⟩
    · have := h.l _ _ _ g1 hc
      subst this
      have : I.pl a c' ≠ I.pl a b := fun e => by
        have := I.plI a c' b (h.p _ _ hc) (hs.p _ _ hab) e
        subst this
        exact hn hc
      omega
    · have := h.r _ _ _ g1 ha'
      subst this
      omega
  refine ⟨c, hc, hcb, ⟨a', ha', hpr⟩, fun b' hp h1 h2 h3 => ?_⟩
  -- b' has somebody
  have hb' : ∃ x, M x b' := by
    by_cases e : b' = b
    · subst e; exact ⟨a', ha'⟩
    · have hlt : I.pl a b' < I.pl a b := by
        have : I.pl a b' ≠ I.pl a b := fun e2 => e (I.plI a b' b hp (hs.p _ _ hab) e2)
        omega
      rcases hs.s a b' hp with ⟨d, g1, g2⟩ | ⟨x, g1, g2⟩
      · have := hs.l _ _ _ g1 hab
        subst this; omega
      · exact all_right hs h g1
  obtain ⟨x, hx⟩ := hb'
  refine ⟨x, hx, ?_⟩
  obtain ⟨b1, hb1⟩ := all_left h hs hx
  refine ⟨b1, hb1, fun hm => ?_⟩
  have := h.l _ _ _ hm hx
  subst this
  by_cases e : b1 = b
  · subst e
    have := hs.r _ _ _ hb1 hab
    subst this
    exact hn hx
  · have hlt : I.pl a b1 < I.pl a b := by
      have : I.pl a b1 ≠ I.pl a b := fun e2 => e (I.plI a b1 b hp (hs.p _ _ hab) e2)
      omega
    rcases hs.s a b1 hp with ⟨d, g1, g2⟩ | ⟨y, g1, g2⟩
    · have := hs.l _ _ _ g1 hab
      subst this; omega
    · have := hs.r _ _ _ g1 hb1
      subst this
      have := h3 y hx
      omega
/-- A turn: each one of a ring has whom its next had, the first one behind its own who likes it better. -/
structure Turn (I : Sides) (M : Nat → Nat → Prop) (t : Nat) (x b : Nat → Nat) : Prop where
  back : x (t + 1) = x 0
  inj : ∀ p q, p ≤ t → q ≤ t → x p = x q → p = q
  pair : ∀ s, s ≤ t → I.P (x s) (b s)
  own : ∀ s, s ≤ t → M (x (s + 1)) (b s)
  far : ∀ s, s ≤ t → ∀ c, M (x s) c → I.pl (x s) c < I.pl (x s) (b s)
  like : ∀ s, s ≤ t → I.pr (b s) (x s) < I.pr (b s) (x (s + 1))
  first : ∀ s, s ≤ t → ∀ c d, M (x s) c → I.P (x s) d → I.pl (x s) c < I.pl (x s) d → I.pl (x s) d < I.pl (x s) (b s) → ∃ a', M a' d ∧ I.pr d a' ≤ I.pr d (x s)
def TurnR (M : Nat → Nat → Prop) (t : Nat) (x b : Nat → Nat) (a k : Nat) : Prop := (∃ s, s ≤ t ∧ a = x s ∧ k = b s) ∨ ((∀ s, s ≤ t → a ≠ x s) ∧ M a k)
theorem Turn.pre {t : Nat} {x b : Nat → Nat} (h : Turn I M t x b) {s : Nat} (hs : s ≤ t) : ∃ r, r ≤ t ∧ x (r + 1) = x s := by
  cases s with
  | zero => exact ⟨t, Nat.le_refl _, h.back⟩
  | succ s => exact ⟨s, by omega, rfl⟩
theorem Turn.inj1 {t : Nat} {x b : Nat → Nat} (h : Turn I M t x b) {p q : Nat} (hp : p ≤ t) (hq : q ≤ t) (e : x (p + 1) = x (q + 1)) : p = q := by
  by_cases e1 : p = t <;> by_cases e2 : q = t
  · omega
  · subst e1
    rw [h.back] at e
    have := h.inj 0 (q + 1) (by omega) (by omega) e; omega
  · subst e2
    rw [h.back] at e
    have := h.inj (p + 1) 0 (by omega) (by omega) e; omega
  · have := h.inj (p + 1) (q + 1) (by omega) (by omega) e; omega
/-- Whoever had one at least as good has one then. -/
theorem Turn.keeps {t : Nat} {x b : Nat → Nat} (h : SM I M) (ht : Turn I M t x b) {a' d a : Nat} (h1 : M a' d) (h2 : I.pr d a' ≤ I.pr d a) : ∃ a2, TurnR M t x b a2 d ∧ I.pr d a2 ≤ I.pr d a := by
  by_cases hr : ∃ s, s ≤ t ∧ a' = x s
  · obtain ⟨s, hs, rfl⟩ := hr
    obtain ⟨r, hr, e⟩ := ht.pre hs
    have hd : d = b r := h.l _ _ _ h1 (by rw [← e]; exact ht.own r hr)
    subst hd
    refine ⟨x r, .inl ⟨r, hr, rfl, rfl⟩, ?_⟩
    have := ht.like r hr
    rw [e] at this
    omega
  · exact ⟨a', .inr ⟨fun s hs e => hr ⟨s, hs, e⟩, h1⟩, h2⟩
theorem turn_sm {t : Nat} {x b : Nat → Nat} (h : SM I M) (ht : Turn I M t x b) : SM I (TurnR M t x b) := by
  refine ⟨fun a k hm => ?_, fun a k k' h1 h2 => ?_, fun a a' k h1 h2 => ?_, fun a k hp => ?_⟩
  · rcases hm with ⟨s, hs, rfl, rfl⟩ | ⟨_, h1⟩
    · exact ht.pair s hs
    · exact h.p _ _ h1
  · rcases h1 with ⟨s, hs, e1, e2⟩ | ⟨n1, m1⟩ <;> rcases h2 with ⟨s', hs', e3, e4⟩ | ⟨n2, m2⟩
    · have := ht.inj s s' hs hs' (by rw [← e1, ← e3])
      subst this
      rw [e2, e4]
    · exact absurd e1 (n2 s hs)
    · exact absurd e3 (n1 s' hs')
    · exact h.l _ _ _ m1 m2
  · rcases h1 with ⟨s, hs, e1, e2⟩ | ⟨n1, m1⟩ <;> rcases h2 with ⟨s', hs', e3, e4⟩ | ⟨n2, m2⟩
    · have : x (s + 1) = x (s' + 1) := h.r _ _ _ (ht.own s hs) (by rw [← e2, e4]; exact ht.own s' hs')
      have := ht.inj1 hs hs' this
      subst this
      rw [e1, e3]
    · exfalso
      have := h.r _ _ _ m2 (by rw [e2]; exact ht.own s hs)
      by_cases e : s = t
      · subst e; rw [ht.back] at this; exact n2 0 (by omega) this
      · exact n2 (s + 1) (by omega) this
    · exfalso
      have := h.r _ _ _ m1 (by rw [e4]; exact ht.own s' hs')
      by_cases e : s' = t
      · subst e; rw [ht.back] at this; exact n1 0 (by omega) this
      · exact n1 (s' + 1) (by omega) this
    · exact h.r _ _ _ m1 m2
  · by_cases hr : ∃ s, s ≤ t ∧ a = x s
    · obtain ⟨s, hs, rfl⟩ := hr
      by_cases hle : I.pl (x s) (b s) ≤ I.pl (x s) k
      · exact .inl ⟨b s, .inl ⟨s, hs, rfl, rfl⟩, hle⟩
      · refine .inr ?_
        obtain ⟨r, hr, er⟩ := ht.pre hs
        have hc : M (x s) (b r) := by rw [← er]; exact ht.own r hr
        by_cases h1 : I.pl (x s) (b r) < I.pl (x s) k
        · obtain ⟨a', g1, g2⟩ := ht.first s hs (b r) k hc hp h1 (by omega)
          exact ht.keeps h g1 g2
        · by_cases e : k = b r
          · subst e
            refine ⟨x r, .inl ⟨r, hr, rfl, rfl⟩, ?_⟩
            have := ht.like r hr
            rw [er] at this
            omega
          · rcases h.s (x s) k hp with ⟨c', g1, g2⟩ | ⟨a', g1, g2⟩
            · have := h.l _ _ _ g1 hc
              subst this
              exact absurd (I.plI _ _ _ hp (h.p _ _ hc) (by omega)) e
            · exact ht.keeps h g1 g2
    · have hn : ∀ s, s ≤ t → a ≠ x s := fun s hs e => hr ⟨s, hs, e⟩
      rcases h.s a k hp with ⟨k', g1, g2⟩ | ⟨a', g1, g2⟩
      · exact .inl ⟨k', .inr ⟨hn, g1⟩, g2⟩
      · exact .inr (ht.keeps h g1 g2)
end
end Go.Proofs.Ytchfibmndcfpiaa
namespace Go.Proofs.Ytchfibmndcfpiaa
set_option linter.unusedVariables false
set_option linter.unusedSimpArgs false
open Go.RowKit

/-- n is from lo to hi. -/
def inB (n lo hi : Int) : Bool := decide (lo ≤ n) && decide (n ≤ hi)
theorem inB_iff {n lo hi : Int} : inB n lo hi = true ↔ lo ≤ n ∧ n ≤ hi := by simp [inB]
theorem inB_no {n lo hi : Int} : inB n lo hi = false ↔ ¬ (lo ≤ n ∧ n ≤ hi) := by rw [← inB_iff]; simp
def allIn (xs : List Int) (lo hi : Int) : Bool := xs.all fun x => inB x lo hi
theorem allIn_iff {xs : List Int} {lo hi : Int} : allIn xs lo hi = true ↔ ∀ x ∈ xs, lo ≤ x ∧ x ≤ hi := by simp [allIn, inB_iff]
def manyB (xs : List Int) (few many lo hi : Int) : Bool := inB xs.length few many && allIn xs lo hi
theorem manyB_iff {xs : List Int} {few many lo hi : Int} : manyB xs few many lo hi = true ↔ (few ≤ xs.length ∧ (xs.length : Int) ≤ many) ∧ ∀ x ∈ xs, lo ≤ x ∧ x ≤ hi := by
  simp [manyB, inB_iff, allIn_iff]
/-- The sum as Go reckons it. -/
def wsum (xs : List Int) : Int := xs.foldl (fun s x => wrap64 (s + x)) 0
theorem wsum_snoc (xs : List Int) (x : Int) : wsum (xs ++ [x]) = wrap64 (wsum xs + x) := by simp [wsum]
theorem wsum_from (m : Int) (hm : 0 ≤ m) : ∀ (xs : List Int) (s : Int), (∀ x ∈ xs, -m ≤ x ∧ x ≤ m) → -9223372036854775807 ≤ s - m * xs.length → s + m * xs.length ≤ 9223372036854775807 →
    xs.foldl (fun s x => wrap64 (s + x)) s = s + xs.sum ∧ -(m * xs.length) ≤ xs.sum ∧ xs.sum ≤ m * xs.length
  | [], s, _, _, _ => by simp
  | x :: xs, s, h, h1, h2 => by
    have hx := h x (by simp)
    have e : m * ((x :: xs).length : Int) = m * xs.length + m := by simp [Int.mul_add]
    rw [e] at h1 h2 ⊢
    have hp : 0 ≤ m * (xs.length : Int) := Int.mul_nonneg hm (by omega)
    obtain ⟨i1, i2, i3⟩ := wsum_from m hm xs (s + x) (fun y hy => h y (by simp [hy])) (by omega) (by omega)
    rw [List.foldl_cons, IntWalk.wrap64_in (s + x) (by omega), i1, List.sum_cons]
    exact ⟨by omega, by omega, by omega⟩
theorem wsum_eq (xs : List Int) (m : Int) (hm : 0 ≤ m) (h : ∀ x ∈ xs, -m ≤ x ∧ x ≤ m) (hl : m * xs.length ≤ 9223372036854775807) : wsum xs = xs.sum ∧ -(m * xs.length) ≤ xs.sum ∧ xs.sum ≤ m * xs.length := by
  have := wsum_from m hm xs 0 h (by omega) (by omega)
  rw [Int.zero_add] at this
  exact this

theorem allIn_snoc {xs : List Int} {k : Nat} {x lo hi : Int} (hx : xs[k]? = some x) : allIn (xs.take (k + 1)) lo hi = (allIn (xs.take k) lo hi && inB x lo hi) := by
  rw [List.take_add_one, hx]; simp [allIn]
theorem allIn_false {xs : List Int} {k : Nat} {x lo hi : Int} (hx : xs[k]? = some x) (h : inB x lo hi = false) : allIn xs lo hi = false := by
  rw [← Bool.not_eq_true]
  intro ha
  have := List.all_eq_true.1 ha x (List.mem_of_getElem? hx)
  rw [h] at this; cases this
theorem wsum_take {xs : List Int} {k : Nat} {x : Int} (hx : xs[k]? = some x) : wsum (xs.take (k + 1)) = wrap64 (wsum (xs.take k) + x) := by
  rw [List.take_add_one, hx]; exact wsum_snoc _ _

theorem info_i64p : (Try.prog.info? 2).map (fun i => (i.zero, i.size, i.bytes)) = some (some (.int .i64 0), 1, 8) := by kernel_rfl
theorem within_any (n lo hi : Int) (w : World) :
    Calls Try.prog 98 #[.int .i64 n, .int .i64 lo, .int .i64 hi] w fun e w' => e = .returned (.bool (inB n lo hi)) ∧ w = w' := by
  by_cases h : lo ≤ n
  · have H : Hid (inB n lo hi = decide (n ≤ hi)) := by simp [Hid, inB, h]
    go_enter Try.func98, Try.ntmps98
    go_wp2
    go_ret
    exact ⟨ret_bool H.out.symm, rfl⟩
  · have H : Hid (inB n lo hi = false) := by simp [Hid, inB, h]
    go_enter Try.func98, Try.ntmps98
    go_wp2
    go_ret
    exact ⟨ret_bool H.out.symm, rfl⟩
theorem l00In_any (n lo hi : Int) (w : World) :
    Calls Try.prog 64 #[.int .i64 n, .int .i64 lo, .int .i64 hi] w fun e w' => e = .returned (.bool (inB n lo hi)) ∧ w = w' := by
  by_cases h : lo ≤ n
  · have H : Hid (inB n lo hi = decide (n ≤ hi)) := by simp [Hid, inB, h]
    go_enter Try.func64, Try.ntmps64
    go_wp2
    go_ret
    exact ⟨ret_bool H.out.symm, rfl⟩
  · have H : Hid (inB n lo hi = false) := by simp [Hid, inB, h]
    go_enter Try.func64, Try.ntmps64
    go_wp2
    go_ret
    exact ⟨ret_bool H.out.symm, rfl⟩
theorem areWithin_any (w : World) (a : Option Addr) (c : Nat) (xs : List Int) (lo hi : Int) (h : Rd w w.heap.size a (ints xs)) (hl : xs.length ≤ 1152921504606846976) :
    Calls Try.prog 96 #[.slice a xs.length c, .int .i64 lo, .int .i64 hi] w fun e w' => e = .returned (.bool (allIn xs lo hi)) ∧ w = w' := by
  go_enter Try.func96, Try.ntmps96
  go_wp2
  go_loop [11] (fun i => ∃ k : Nat, k ≤ xs.length ∧ i = .int .i64 k ∧ allIn (xs.take k) lo hi = true) (fun i => xs.length - (intOf i).toNat)
  case atStart => exact ⟨0, Nat.zero_le _, rfl, rfl⟩
  case round =>
    obtain ⟨k, hk, rfl, ha'⟩ := hrel
    have ha := Lib.hid ha'
    clear ha'
    by_cases hlt : k < xs.length
    · obtain ⟨b, o, x, rfl, hbb, hck, hx⟩ := h.get hlt
      clear h
      cases hin : inB x lo hi with
      | true =>
        go_wp2_with (go_at_call 98; refine (within_any _ _ _ _).mono ?_; rintro e w' ⟨rfl, rfl⟩)
        go_round
        case rel => exact ⟨k + 1, by omega, by go_num, by rw [allIn_snoc hx.out, ha.out, hin]; rfl⟩
        case measure => simp [intOf]; omega
      | false =>
        go_wp2_with (go_at_call 98; refine (within_any _ _ _ _).mono ?_; rintro e w' ⟨rfl, rfl⟩)
        go_ret
        exact ⟨ret_bool (allIn_false hx.out hin).symm, rfl⟩
    · have : k = xs.length := by omega
      subst this
      go_wp2
      go_ret
      exact ⟨ret_bool (by rw [← ha.out, List.take_length]), rfl⟩
theorem areMany_any (w : World) (a : Option Addr) (c : Nat) (xs : List Int) (few many lo hi : Int) (h : Rd w w.heap.size a (ints xs)) (hl : xs.length ≤ 1152921504606846976) :
    Calls Try.prog 95 #[.slice a xs.length c, .int .i64 few, .int .i64 many, .int .i64 lo, .int .i64 hi] w fun e w' => e = .returned (.bool (manyB xs few many lo hi)) ∧ w = w' := by
  cases hin : inB xs.length few many with
  | true =>
    have H : Hid (manyB xs few many lo hi = allIn xs lo hi) := by simp [Hid, manyB, hin]
    go_enter Try.func95, Try.ntmps95
    go_wp2_with (first | (go_at_call 98; refine (within_any _ _ _ _).mono ?_; rintro e w' ⟨rfl, rfl⟩) | (go_at_call 96; refine (areWithin_any _ _ _ xs _ _ h hl).mono ?_; rintro e w' ⟨rfl, rfl⟩))
    go_ret
    exact ⟨ret_bool H.out.symm, rfl⟩
  | false =>
    have H : Hid (manyB xs few many lo hi = false) := by simp [Hid, manyB, hin]
    go_enter Try.func95, Try.ntmps95
    go_wp2_with (go_at_call 98; refine (within_any _ _ _ _).mono ?_; rintro e w' ⟨rfl, rfl⟩)
    go_ret
    exact ⟨ret_bool H.out.symm, rfl⟩
/-- The numbers from 0 to n - 1. -/
def upto (n : Nat) : List Int := (List.range n).map fun (j : Nat) => (j : Int)
theorem upto_length (n : Nat) : (upto n).length = n := by simp [upto]
theorem upto_succ (n : Nat) : upto (n + 1) = upto n ++ [(n : Int)] := by simp [upto, List.range_succ]
theorem upto_get {n j : Nat} (h : j < n) : (upto n)[j]? = some (j : Int) := by simp [upto, h]
set_option maxHeartbeats 1000000 in
theorem counting_any (w : World) (n : Nat) (hn : n ≤ 1048576) :
    Calls Try.prog 84 #[.int .i64 n] w fun e w' => ∃ a c, e = .returned (.slice a n c) ∧ w'.ownsRow w.heap.size 2 1 (.slice a n c) n (ints (upto n)) ∧ Below w.heap.size w w' := by
  go_enter Try.func84, Try.ntmps84
  go_wp2
  go_loopw [3, 7] (fun v i wr => ∃ k : Nat, k ≤ n ∧ i = .int .i64 k ∧ wr.ownsRow w.heap.size 2 1 v k (ints (upto k)) ∧ Below w.heap.size w wr) (fun _ i _ => n - (intOf i).toNat)
  case atStart => exact ⟨0, Nat.zero_le _, rfl, own_empty w _, bl1 w _⟩
  case round =>
    obtain ⟨k, hk, rfl, hown, hw⟩ := hrel
    by_cases hlt : k < n
    · go_wp2_with (at_builtin; refine wpList_append_one _ rfl _ _ 31 rfl w.heap.size 2 (.int .i64 0) 8 Try.underlying31 info_i64p rfl _ k _ rfl hown (.int .i64 k) rfl rfl (by omega) (by omega) hw.size ?_)
      intro v' w1 ho hgr
      have hb := below_append hw hown hgr (Nat.le_refl _) hw.size
      rw [show ints (upto k) ++ [Value.int .i64 k] = ints (upto (k + 1)) from by rw [upto_succ, ints_append]; rfl] at ho
      clear hown hw
      go_wp2
      go_roundw
      case rel => exact ⟨k + 1, by omega, by go_num, ho, hb⟩
      case measure => simp [intOf]; omega
    · have : k = n := by omega
      subst this
      obtain ⟨a, c, rfl, _, _⟩ := own_shape hown
      go_wp2
      go_ret
      exact ⟨a, c, rfl, hown, hw⟩
end Go.Proofs.Ytchfibmndcfpiaa
namespace Go.Proofs.Ytchfibmndcfpiaa
set_option linter.unusedVariables false
set_option linter.unusedSimpArgs false
open Go.RowKit

/-- The first index below n for which p says yes; -1 if there is none. -/
def findI (p : Nat → Bool) (n : Nat) : Int := match (List.range n).find? p with
  | some j => j
  | none => -1
theorem findI_here {p : Nat → Bool} {n k : Nat} (hk : k < n) (hp : p k = true) (hb : ∀ j, j < k → p j = false) : findI p n = k := by
  have : (List.range n).find? p = some k := by
    rw [List.find?_range_eq_some]
    exact ⟨hp, by simpa using hk, fun j hj => by simp [hb j hj]⟩
  simp [findI, this]
theorem findI_none {p : Nat → Bool} {n : Nat} (hb : ∀ j, j < n → p j = false) : findI p n = -1 := by
  have : (List.range n).find? p = none := by
    rw [List.find?_eq_none]
    intro j hj
    simp [hb j (by simpa using hj)]
  simp [findI, this]
theorem findI_spec (p : Nat → Bool) (n : Nat) : (∃ k, k < n ∧ p k = true ∧ (∀ j, j < k → p j = false) ∧ findI p n = k) ∨ ((∀ j, j < n → p j = false) ∧ findI p n = -1) := by
  by_cases h : ∃ k, k < n ∧ p k = true
  · obtain ⟨k, hk, hm⟩ : ∃ k, (k < n ∧ p k = true) ∧ ∀ j, j < k → ¬ (j < n ∧ p j = true) := by
      obtain ⟨k, hk⟩ := h
      induction k using Nat.strongRecOn with
      | _ k ih =>
        by_cases hh : ∃ j, j < k ∧ j < n ∧ p j = true
        · obtain ⟨j, h1, h2⟩ := hh; exact ih j h1 h2
        · exact ⟨k, hk, fun j hj hh2 => hh ⟨j, hj, hh2⟩⟩
    have hb : ∀ j, j < k → p j = false := fun j hj => by
      have := hm j hj
      cases hp : p j with
      | false => rfl
      | true => exact absurd ⟨by omega, hp⟩ this
    exact .inl ⟨k, hk.1, hk.2, hb, findI_here hk.1 hk.2 hb⟩
  · have hb : ∀ j, j < n → p j = false := fun j hj => by
      cases hp : p j with
      | false => rfl
      | true => exact absurd ⟨j, hj, hp⟩ h
    exact .inr ⟨hb, findI_none hb⟩
theorem findI_bd (p : Nat → Bool) (n : Nat) : -1 ≤ findI p n ∧ findI p n < n := by
  rcases findI_spec p n with ⟨k, hk, _, _, e⟩ | ⟨_, e⟩ <;> rw [e] <;> omega
def anyI (p : Nat → Bool) (n : Nat) : Bool := decide (0 ≤ findI p n)
theorem anyI_iff {p : Nat → Bool} {n : Nat} : anyI p n = true ↔ ∃ k, k < n ∧ p k = true := by
  unfold anyI
  rw [decide_eq_true_iff]
  rcases findI_spec p n with ⟨k, hk, hp, _, e⟩ | ⟨hb, e⟩
  · rw [e]; exact ⟨fun _ => ⟨k, hk, hp⟩, fun _ => by omega⟩
  · rw [e]
    constructor
    · intro h; omega
    · rintro ⟨k, hk, hp⟩; rw [hb k hk] at hp; cases hp
theorem anyI_no {p : Nat → Bool} {n : Nat} : anyI p n = false ↔ ∀ k, k < n → p k = false := by
  rw [← Bool.not_eq_true, anyI_iff]
  constructor
  · intro h k hk
    cases hp : p k with
    | false => rfl
    | true => exact absurd ⟨k, hk, hp⟩ h
  · rintro h ⟨k, hk, hp⟩; rw [h k hk] at hp; cases hp
theorem range_any (p : Nat → Bool) (n : Nat) : (List.range n).any p = anyI p n := by
  cases h : anyI p n with
  | true =>
    obtain ⟨k, hk, hp⟩ := anyI_iff.1 h
    exact List.any_eq_true.2 ⟨k, by simpa using hk, hp⟩
  | false =>
    rw [List.any_eq_false]
    intro k hk
    rw [anyI_no.1 h k (by simpa using hk)]; simp
theorem findI_congr {p q : Nat → Bool} {n : Nat} (h : ∀ j, j < n → p j = q j) : findI p n = findI q n := by
  unfold findI
  have : ∀ l : List Nat, (∀ j ∈ l, p j = q j) → l.find? p = l.find? q := by
    intro l
    induction l with
    | nil => simp
    | cons x xs ih => intro hl; rw [List.find?_cons, List.find?_cons, hl x (by simp), ih (fun j hj => hl j (by simp [hj]))]
  rw [this _ (fun j hj => h j (by simpa using hj))]

/-- What a slice of one-cell elements holds at an index. -/
theorem Rd.getV {w : World} {B : Nat} {a : Option Addr} {vs : List Value} (h : Rd w B a vs) {k : Nat} (hk : k < vs.length) :
    ∃ b o v, a = some ⟨b, o, none⟩ ∧ b < B ∧ w.cell? ⟨b, o + k, none⟩ = some v ∧ Hid (vs[k]? = some v) := by
  rcases h with h | ⟨b, o, ha, hb, hc⟩
  · subst h; simp at hk
  · exact ⟨b, o, vs[k], ha, hb, by rw [hc k hk, List.getElem?_eq_getElem hk], by simp [Hid, List.getElem?_eq_getElem hk]⟩

/-- The index of a number in a list, -1 if it is not there. -/
def indexI (xs : List Int) (v : Int) : Int := findI (fun j => v == xs.getD j 0) xs.length
def containsI (xs : List Int) (v : Int) : Bool := decide (0 ≤ indexI xs v)
theorem containsI_iff {xs : List Int} {v : Int} : containsI xs v = true ↔ v ∈ xs := by
  show anyI _ _ = true ↔ _
  rw [anyI_iff]
  constructor
  · rintro ⟨k, hk, h⟩
    rw [beq_iff_eq] at h
    rw [h]; exact List.mem_of_getElem? (get_of_lt hk)
  · intro h
    obtain ⟨k, hk, e⟩ := List.getElem_of_mem h
    exact ⟨k, hk, by rw [beq_iff_eq, ← e]; simp [List.getD, hk]⟩

theorem index_any (w : World) (a : Option Addr) (c : Nat) (xs : List Int) (v : Int) (h : Rd w w.heap.size a (ints xs)) (hl : xs.length ≤ 1152921504606846976) :
    Calls Try.prog 97 #[.slice a xs.length c, .int .i64 v] w fun e w' => e = .returned (.int .i64 (indexI xs v)) ∧ w = w' := by
  go_enter Try.func97, Try.ntmps97
  go_wp2
  go_loop [8] (fun i => ∃ k : Nat, k ≤ xs.length ∧ i = .int .i64 k ∧ Hid (∀ j, j < k → (v == xs.getD j 0) = false)) (fun i => xs.length - (intOf i).toNat)
  case atStart => exact ⟨0, Nat.zero_le _, rfl, fun j hj => by omega⟩
  case round =>
    obtain ⟨k, hk, rfl, ha⟩ := hrel
    by_cases hlt : k < xs.length
    · obtain ⟨b, o, x, rfl, hbb, hck, hx⟩ := h.get hlt
      clear h
      cases hin : (v == x) with
      | false =>
        have hF : Hid (∀ j, j < k + 1 → (v == xs.getD j 0) = false) := fun j hj => by
          by_cases e : j = k
          · rw [e, getD_of_get hx.out, hin]
          · exact ha.out j (by omega)
        go_wp2
        go_round
        case rel => exact ⟨k + 1, by omega, by go_num, hF⟩
        case measure => simp [intOf]; omega
      | true =>
        have hF : Hid (indexI xs v = k) := findI_here hlt (by rw [getD_of_get hx.out, hin]) ha.out
        go_wp2
        go_ret
        exact ⟨ret_int hF.out.symm, rfl⟩
    · have : k = xs.length := by omega
      subst this
      have hF : Hid (indexI xs v = -1) := findI_none ha.out
      go_wp2
      go_ret
      exact ⟨ret_int hF.out.symm, rfl⟩
theorem contains_any (w : World) (a : Option Addr) (c : Nat) (xs : List Int) (v : Int) (h : Rd w w.heap.size a (ints xs)) (hl : xs.length ≤ 1152921504606846976) :
    Calls Try.prog 69 #[.slice a xs.length c, .int .i64 v] w fun e w' => e = .returned (.bool (containsI xs v)) ∧ w = w' := by
  go_enter Try.func69, Try.ntmps69
  go_wp2_with (go_at_call 97; refine (index_any _ _ _ xs v h hl).mono ?_; rintro e w' ⟨rfl, rfl⟩)
  go_ret
  exact ⟨rfl, rfl⟩
set_option maxHeartbeats 1000000 in
theorem indexFunc_I (K : Nat) (caps : Array Value) (hK : ∀ (args : Array Value) (w : World), (callFunc K args).run Try.prog w = .ok (.enter K args) w)
    (w : World) (a : Option Addr) (c : Nat) (vs : List Value) (p : Nat → Bool) (h : Rd w w.heap.size a vs) (hl : vs.length ≤ 1152921504606846976)
    (hcall : ∀ w' j v, Below w.heap.size w w' → vs[j]? = some v → Calls Try.prog K (#[v] ++ caps) w' fun e w'' => e = .returned (.bool (p j)) ∧ Below w'.heap.size w' w'') :
    Calls Try.prog 83 #[.slice a vs.length c, .func (.func K) #[] caps] w fun e w' => e = .returned (.int .i64 (findI p vs.length)) ∧ Below w.heap.size w w' := by
  have Hc := Lib.hid hcall
  clear hcall
  go_enter Try.func83, Try.ntmps83
  go_wp2
  go_loopw [8] (fun i wr => ∃ k : Nat, k ≤ vs.length ∧ i = .int .i64 k ∧ Hid (∀ j, j < k → p j = false) ∧ Below w.heap.size w wr) (fun i _ => vs.length - (intOf i).toNat)
  case atStart => exact ⟨0, Nat.zero_le _, rfl, fun j hj => by omega, Below.refl _ _⟩
  case round =>
    obtain ⟨k, hk, rfl, ha, hw⟩ := hrel
    by_cases hlt : k < vs.length
    · obtain ⟨b, o, v, rfl, hbb, hck, hx⟩ := (h.below hw (Nat.le_refl _)).getV hlt
      clear h
      have HC := Lib.hid (Hc.out wr k v hw hx.out)
      cases hin : p k with
      | false =>
        have hF : Hid (∀ j, j < k + 1 → p j = false) := fun j hj => by
          by_cases e : j = k
          · rw [e, hin]
          · exact ha.out j (by omega)
        rw [hin] at HC
        go_wp2_with fail
        refine HC.out.mono ?_
        rintro e w2 ⟨rfl, hb2⟩
        have hw2 := below_then hw hb2
        go_wp2_with fail
        go_roundw
        case rel => exact ⟨k + 1, by omega, by go_num, hF, hw2⟩
        case measure => simp [intOf]; omega
      | true =>
        have hF : Hid (findI p vs.length = k) := findI_here hlt hin ha.out
        rw [hin] at HC
        go_wp2_with fail
        refine HC.out.mono ?_
        rintro e w2 ⟨rfl, hb2⟩
        have hw2 := below_then hw hb2
        go_wp2_with fail
        go_ret
        exact ⟨ret_int hF.out.symm, hw2⟩
    · have : k = vs.length := by omega
      subst this
      have hF : Hid (findI p vs.length = -1) := findI_none ha.out
      go_wp2
      go_ret
      exact ⟨ret_int hF.out.symm, hw⟩
theorem containsFunc_I (K : Nat) (caps : Array Value) (hK : ∀ (args : Array Value) (w : World), (callFunc K args).run Try.prog w = .ok (.enter K args) w)
    (w : World) (a : Option Addr) (c : Nat) (vs : List Value) (p : Nat → Bool) (h : Rd w w.heap.size a vs) (hl : vs.length ≤ 1152921504606846976)
    (hcall : ∀ w' j v, Below w.heap.size w w' → vs[j]? = some v → Calls Try.prog K (#[v] ++ caps) w' fun e w'' => e = .returned (.bool (p j)) ∧ Below w'.heap.size w' w'') :
    Calls Try.prog 62 #[.slice a vs.length c, .func (.func K) #[] caps] w fun e w' => e = .returned (.bool (anyI p vs.length)) ∧ Below w.heap.size w w' := by
  have HI := Lib.hid (indexFunc_I K caps hK w a c vs p h hl hcall)
  clear hcall h hK
  go_enter Try.func62, Try.ntmps62
  go_wp2_with fail
  refine HI.out.mono ?_
  rintro e w1 ⟨rfl, hb⟩
  go_wp2_with fail
  go_ret
  exact ⟨rfl, hb⟩
set_option maxHeartbeats 1000000 in
theorem indexFunc_L (K : Nat) (caps : Array Value) (hK : ∀ (args : Array Value) (w : World), (callFunc K args).run Try.prog w = .ok (.enter K args) w)
    (w : World) (a : Option Addr) (c : Nat) (vs : List Value) (p : Nat → Bool) (h : Rd w w.heap.size a vs) (hl : vs.length ≤ 1152921504606846976)
    (hcall : ∀ w' j v, Below w.heap.size w w' → vs[j]? = some v → Calls Try.prog K (#[v] ++ caps) w' fun e w'' => e = .returned (.bool (p j)) ∧ Below w'.heap.size w' w'') :
    Calls Try.prog 91 #[.slice a vs.length c, .func (.func K) #[] caps] w fun e w' => e = .returned (.int .i64 (findI p vs.length)) ∧ Below w.heap.size w w' := by
  have Hc := Lib.hid hcall
  clear hcall
  go_enter Try.func91, Try.ntmps91
  go_wp2
  go_loopw [8] (fun i wr => ∃ k : Nat, k ≤ vs.length ∧ i = .int .i64 k ∧ Hid (∀ j, j < k → p j = false) ∧ Below w.heap.size w wr) (fun i _ => vs.length - (intOf i).toNat)
  case atStart => exact ⟨0, Nat.zero_le _, rfl, fun j hj => by omega, Below.refl _ _⟩
  case round =>
    obtain ⟨k, hk, rfl, ha, hw⟩ := hrel
    by_cases hlt : k < vs.length
    · obtain ⟨b, o, v, rfl, hbb, hck, hx⟩ := (h.below hw (Nat.le_refl _)).getV hlt
      clear h
      have HC := Lib.hid (Hc.out wr k v hw hx.out)
      cases hin : p k with
      | false =>
        have hF : Hid (∀ j, j < k + 1 → p j = false) := fun j hj => by
          by_cases e : j = k
          · rw [e, hin]
          · exact ha.out j (by omega)
        rw [hin] at HC
        go_wp2_with fail
        refine HC.out.mono ?_
        rintro e w2 ⟨rfl, hb2⟩
        have hw2 := below_then hw hb2
        go_wp2_with fail
        go_roundw
        case rel => exact ⟨k + 1, by omega, by go_num, hF, hw2⟩
        case measure => simp [intOf]; omega
      | true =>
        have hF : Hid (findI p vs.length = k) := findI_here hlt hin ha.out
        rw [hin] at HC
        go_wp2_with fail
        refine HC.out.mono ?_
        rintro e w2 ⟨rfl, hb2⟩
        have hw2 := below_then hw hb2
        go_wp2_with fail
        go_ret
        exact ⟨ret_int hF.out.symm, hw2⟩
    · have : k = vs.length := by omega
      subst this
      have hF : Hid (findI p vs.length = -1) := findI_none ha.out
      go_wp2
      go_ret
      exact ⟨ret_int hF.out.symm, hw⟩
theorem containsFunc_L (K : Nat) (caps : Array Value) (hK : ∀ (args : Array Value) (w : World), (callFunc K args).run Try.prog w = .ok (.enter K args) w)
    (w : World) (a : Option Addr) (c : Nat) (vs : List Value) (p : Nat → Bool) (h : Rd w w.heap.size a vs) (hl : vs.length ≤ 1152921504606846976)
    (hcall : ∀ w' j v, Below w.heap.size w w' → vs[j]? = some v → Calls Try.prog K (#[v] ++ caps) w' fun e w'' => e = .returned (.bool (p j)) ∧ Below w'.heap.size w' w'') :
    Calls Try.prog 51 #[.slice a vs.length c, .func (.func K) #[] caps] w fun e w' => e = .returned (.bool (anyI p vs.length)) ∧ Below w.heap.size w w' := by
  have HI := Lib.hid (indexFunc_L K caps hK w a c vs p h hl hcall)
  clear hcall h hK
  go_enter Try.func51, Try.ntmps51
  go_wp2_with fail
  refine HI.out.mono ?_
  rintro e w1 ⟨rfl, hb⟩
  go_wp2_with fail
  go_ret
  exact ⟨rfl, hb⟩
end Go.Proofs.Ytchfibmndcfpiaa
namespace Go.Proofs.Ytchfibmndcfpiaa
set_option linter.unusedVariables false
set_option linter.unusedSimpArgs false
open Go.RowKit

def hasB (xs : List Int) (n : Int) : Bool := xs.any fun x => x == n
theorem hasB_iff {xs : List Int} {n : Int} : hasB xs n = true ↔ n ∈ xs := by simp [hasB]
theorem hasB_no {xs : List Int} {n : Int} : hasB xs n = false ↔ n ∉ xs := by rw [← hasB_iff]; simp
theorem hasB_snoc {xs : List Int} {k : Nat} {x n : Int} (hx : xs[k]? = some x) : hasB (xs.take (k + 1)) n = (hasB (xs.take k) n || (x == n)) := by
  rw [List.take_add_one, hx]; simp [hasB]
theorem hasB_take {xs : List Int} {k : Nat} {x n : Int} (hx : xs[k]? = some x) (h : (x == n) = true) : hasB xs n = true := by
  rw [hasB_iff]; rw [beq_iff_eq] at h; rw [← h]; exact List.mem_of_getElem? hx
/-- All numbers are from 0 to n - 1, each at most once. -/
def onceB (xs : List Int) (n : Nat) : Bool := allIn xs 0 (n - 1) && decide xs.Nodup
def orderB (xs : List Int) (n : Nat) : Bool := onceB xs n && decide (xs.length = n)
theorem orderB_iff {xs : List Int} {n : Nat} : orderB xs n = true ↔ (∀ x ∈ xs, 0 ≤ x ∧ x < n) ∧ xs.Nodup ∧ xs.length = n := by
  simp only [orderB, onceB, Bool.and_eq_true, allIn_iff, decide_eq_true_iff, and_assoc]
  constructor
  · rintro ⟨h1, h2, h3⟩; exact ⟨fun x hx => by have := h1 x hx; omega, h2, h3⟩
  · rintro ⟨h1, h2, h3⟩; exact ⟨fun x hx => by have := h1 x hx; omega, h2, h3⟩
theorem nodup_take_succ {xs : List Int} {k : Nat} {x : Int} (hx : xs[k]? = some x) : (xs.take (k + 1)).Nodup ↔ (xs.take k).Nodup ∧ x ∉ xs.take k := by
  rw [List.take_add_one, hx]
  simp only [Option.toList_some, List.nodup_append, List.nodup_cons, List.not_mem_nil, not_false_eq_true, List.nodup_nil, and_self, true_and]
  constructor
  · rintro ⟨h1, h2⟩; exact ⟨h1, fun h => h2 x h x (by simp) rfl⟩
  · rintro ⟨h1, h2⟩; exact ⟨h1, fun a ha b hb e => by simp at hb; subst hb; subst e; exact h2 ha⟩
theorem not_nodup_of {xs : List Int} {k : Nat} {x : Int} (hx : xs[k]? = some x) (h : x ∈ xs.take k) : ¬ xs.Nodup := by
  intro hn
  have h2 : (xs.take (k + 1)).Nodup := hn.sublist (List.take_sublist _ _)
  exact ((nodup_take_succ hx).1 h2).2 h
theorem onceB_step {xs : List Int} {k n : Nat} {x : Int} (hx : xs[k]? = some x) (h : onceB (xs.take k) n = true) (h1 : inB x 0 (n - 1) = true) (h2 : hasB (xs.take k) x = false) : onceB (xs.take (k + 1)) n = true := by
  simp only [onceB, Bool.and_eq_true, decide_eq_true_iff] at h ⊢
  exact ⟨by rw [allIn_snoc hx, h.1, h1]; rfl, (nodup_take_succ hx).2 ⟨h.2, hasB_no.1 h2⟩⟩
theorem onceB_out {xs : List Int} {k n : Nat} {x : Int} (hx : xs[k]? = some x) (h1 : inB x 0 (n - 1) = false) : onceB xs n = false := by
  simp [onceB, allIn_false hx h1]
theorem onceB_dup {xs : List Int} {k n : Nat} {x : Int} (hx : xs[k]? = some x) (h2 : hasB (xs.take k) x = true) : onceB xs n = false := by
  simp [onceB, not_nodup_of hx (hasB_iff.1 h2)]

/-- The beginning of a slice. -/
theorem Rd.take {w : World} {B : Nat} {a : Option Addr} {xs : List Int} (h : Rd w B a (ints xs)) (k : Nat) : Rd w B a (ints (xs.take k)) := by
  rcases h with h | ⟨b, o, ha, hb, hc⟩
  · have : (ints xs).length = 0 := by rw [h]; rfl
    simp at this; subst this; exact .inl (by simp)
  · refine .inr ⟨b, o, ha, hb, fun j hj => ?_⟩
    have hj' : j < (ints xs).length := by simp at hj ⊢; omega
    rw [hc j hj']
    simp only [ints, List.map_take, List.getElem?_take]
    rw [if_pos (by simp at hj; omega)]

theorem l00Has_any (w : World) (a : Option Addr) (c : Nat) (xs : List Int) (n : Int) (h : Rd w w.heap.size a (ints xs)) (hl : xs.length ≤ 1152921504606846976) :
    Calls Try.prog 100 #[.slice a xs.length c, .int .i64 n] w fun e w' => e = .returned (.bool (hasB xs n)) ∧ w = w' := by
  go_enter Try.func100, Try.ntmps100
  go_wp2
  go_loop [5] (fun i => ∃ k : Nat, k ≤ xs.length ∧ i = .int .i64 k ∧ hasB (xs.take k) n = false) (fun i => xs.length - (intOf i).toNat)
  case atStart => exact ⟨0, Nat.zero_le _, rfl, rfl⟩
  case round =>
    obtain ⟨k, hk, rfl, ha'⟩ := hrel
    have ha := Lib.hid ha'
    clear ha'
    by_cases hlt : k < xs.length
    · obtain ⟨b, o, x, rfl, hbb, hck, hx⟩ := h.get hlt
      clear h
      cases hin : (x == n) with
      | false =>
        go_wp2
        go_round
        case rel => exact ⟨k + 1, by omega, by go_num, by rw [hasB_snoc hx.out, ha.out, hin]; rfl⟩
        case measure => simp [intOf]; omega
      | true =>
        go_wp2
        go_ret
        exact ⟨ret_bool (hasB_take hx.out hin).symm, rfl⟩
    · have : k = xs.length := by omega
      subst this
      go_wp2
      go_ret
      exact ⟨ret_bool (by rw [← ha.out, List.take_length]), rfl⟩
end Go.Proofs.Ytchfibmndcfpiaa
namespace Go.Proofs.Ytchfibmndcfpiaa
set_option linter.unusedVariables false
set_option linter.unusedSimpArgs false
open Go.RowKit

structure Wi where
  L : List (List Int)
  R : List (List Int)
def placeI (xs : List Int) (x : Int) : Int := if indexI xs x < 0 then xs.length else indexI xs x
theorem indexI_cases (xs : List Int) (x : Int) : (∃ k : Nat, k < xs.length ∧ xs.getD k 0 = x ∧ indexI xs x = k) ∨ ((∀ j, j < xs.length → xs.getD j 0 ≠ x) ∧ indexI xs x = -1) := by
  rcases findI_spec (fun j => x == xs.getD j 0) xs.length with ⟨k, h1, h2, _, h4⟩ | ⟨h1, h2⟩
  · exact .inl ⟨k, h1, (eq_of_beq h2).symm, h4⟩
  · exact .inr ⟨fun j hj e => by have := h1 j hj; rw [e] at this; simp at this, h2⟩
theorem placeI_bd (xs : List Int) (x : Int) : 0 ≤ placeI xs x ∧ placeI xs x ≤ xs.length := by
  unfold placeI
  rcases indexI_cases xs x with ⟨k, h1, _, h2⟩ | ⟨_, h2⟩ <;> rw [h2] <;> split <;> omega
theorem placeI_in {xs : List Int} {x : Int} (h : containsI xs x = true) : placeI xs x < xs.length := by
  unfold containsI at h
  have := of_decide_eq_true h
  unfold placeI
  rcases indexI_cases xs x with ⟨k, h1, _, h2⟩ | ⟨_, h2⟩ <;> rw [h2] at this ⊢ <;> split <;> omega
theorem placeI_out {xs : List Int} {x : Int} (h : containsI xs x = false) : placeI xs x = xs.length := by
  unfold containsI at h
  have := of_decide_eq_false h
  unfold placeI
  rw [if_pos (by omega)]
def takesB (xs : List Int) (x : Int) : Bool := decide (placeI xs x < xs.length)
theorem takesB_eq (xs : List Int) (x : Int) : takesB xs x = containsI xs x := by
  unfold takesB
  cases h : containsI xs x with
  | true => exact decide_eq_true (placeI_in h)
  | false => rw [placeI_out h]; simp
/-- Lists have numbers below n, each at most once. -/
def listsB (xss : List (List Int)) (n : Nat) : Bool := (xss.all fun xs => onceB xs n) && decide (xss.length = n)
def wishB (w : Wi) : Bool := inB w.L.length 1 8 && listsB w.L w.L.length && listsB w.R w.L.length
structure Wish (w : Wi) : Prop where
  n1 : 1 ≤ w.L.length
  n8 : w.L.length ≤ 8
  len : w.R.length = w.L.length
  left : ∀ xs ∈ w.L, (∀ x ∈ xs, 0 ≤ x ∧ x < w.L.length) ∧ xs.Nodup
  right : ∀ xs ∈ w.R, (∀ x ∈ xs, 0 ≤ x ∧ x < w.L.length) ∧ xs.Nodup
theorem listsB_iff {xss : List (List Int)} {n : Nat} : listsB xss n = true ↔ (∀ xs ∈ xss, (∀ x ∈ xs, 0 ≤ x ∧ x < n) ∧ xs.Nodup) ∧ xss.length = n := by
  simp only [listsB, Bool.and_eq_true, List.all_eq_true, decide_eq_true_eq, onceB, allIn_iff]
  constructor
  · exact fun ⟨h1, h2⟩ => ⟨fun xs hx => ⟨fun x hy => by have := (h1 xs hx).1 x hy; omega, (h1 xs hx).2⟩, h2⟩
  · exact fun ⟨h1, h2⟩ => ⟨fun xs hx => ⟨fun x hy => by have := (h1 xs hx).1 x hy; omega, (h1 xs hx).2⟩, h2⟩
theorem wish_of {w : Wi} (h : wishB w = true) : Wish w := by
  simp only [wishB, Bool.and_eq_true, inB_iff, listsB_iff] at h
  obtain ⟨⟨⟨h1, h2⟩, h3, h4⟩, h5, h6⟩ := h
  exact ⟨by omega, by omega, h6, h3, h5⟩
def row (xss : List (List Int)) (k : Nat) : List Int := xss.getD k []
theorem row_mem {xss : List (List Int)} {k : Nat} (h : k < xss.length) : row xss k ∈ xss := by
  simp [row, List.getD, List.getElem?_eq_getElem h]
def pairB (w : Wi) (a b : Nat) : Bool := containsI (row w.L a) b && containsI (row w.R b) a
/-- Dearer than what one has, below 0 for nobody. -/
def dearB (xs : List Int) (x has : Int) : Bool := decide (has < 0) || decide (placeI xs x < placeI xs has)
def backF (m : List Int) (b : Nat) : Int := indexI m b
def blocksB (w : Wi) (m : List Int) (a b : Nat) : Bool := pairB w a b && (!decide (m.getD a 0 = (b : Int))) && dearB (row w.L a) b (m.getD a 0) && dearB (row w.R b) a (backF m b)
structure Mat (w : Wi) (m : List Int) : Prop where
  len : m.length = w.L.length
  val : ∀ i, i < m.length → m.getD i 0 = -1 ∨ ∃ b : Nat, m.getD i 0 = b ∧ b < w.L.length ∧ pairB w i b = true
  inj : ∀ i j, i < m.length → j < m.length → 0 ≤ m.getD i 0 → m.getD i 0 = m.getD j 0 → i = j
theorem back_here {w : Wi} {m : List Int} (h : Mat w m) {i b : Nat} (hi : i < m.length) (hb : m.getD i 0 = b) : backF m b = i := by
  unfold backF
  rcases indexI_cases m b with ⟨k, h1, h2, h3⟩ | ⟨h1, h2⟩
  · rw [h3, h.inj i k hi h1 (by omega) (by rw [hb, h2])]
  · exact absurd hb (h1 i hi)
theorem back_cases {w : Wi} {m : List Int} (h : Mat w m) (b : Nat) : (∃ i : Nat, i < m.length ∧ m.getD i 0 = b ∧ backF m b = i) ∨ ((∀ i, i < m.length → m.getD i 0 ≠ b) ∧ backF m b = -1) := indexI_cases m b
theorem placeI_neg {w : Wi} (hw : Wish w) {b : Nat} (hb : b < w.L.length) : placeI (row w.R b) (-1) = (row w.R b).length := by
  refine placeI_out ?_
  rw [← Bool.not_eq_true, containsI_iff]
  intro h
  have := (hw.right _ (row_mem (by rw [hw.len]; exact hb))).1 _ h
  omega
def sumS (f : Nat → Nat) : Nat → Nat
  | 0 => 0
  | k + 1 => sumS f k + f k
theorem sumS_congr {f g : Nat → Nat} : ∀ {n : Nat}, (∀ i, i < n → f i = g i) → sumS f n = sumS g n
  | 0, _ => rfl
  | n + 1, h => by rw [sumS, sumS, sumS_congr (n := n) (fun i hi => h i (by omega)), h n (by omega)]
theorem sumS_lt {f g : Nat → Nat} {q : Nat} : ∀ {n : Nat}, q < n → (∀ i, i < n → i ≠ q → f i = g i) → f q < g q → sumS f n < sumS g n
  | 0, h, _, _ => by omega
  | n + 1, h, h1, h2 => by
    rw [sumS, sumS]
    by_cases e : q = n
    · subst e
      rw [sumS_congr (f := f) (g := g) (fun i hi => h1 i (by omega) (by omega))]; omega
    · have := sumS_lt (n := n) (by omega) (fun i hi => h1 i (by omega)) h2
      have := h1 n (by omega) (by omega)
      omega
/-- Only those who have nobody block. -/
def Simple (w : Wi) (m : List Int) : Prop := Mat w m ∧ ∀ a b, a < w.L.length → b < w.L.length → blocksB w m a b = true → m.getD a 0 < 0
def Stab (w : Wi) (m : List Int) : Prop := Mat w m ∧ ∀ a b, a < w.L.length → b < w.L.length → blocksB w m a b = false
def ranks (w : Wi) (m : List Int) : Nat := sumS (fun b => (placeI (row w.R b) (backF m b)).toNat) w.L.length
theorem least_of {P : Nat → Prop} {f : Nat → Int} (hf : ∀ b, 0 ≤ f b) : ∀ (k : Nat) (b : Nat), (f b).toNat = k → P b → ∃ b', P b' ∧ ∀ c, P c → f b' ≤ f c := by
  intro k
  induction k using Nat.strongRecOn with
  | _ k ih =>
    intro b hb hP
    by_cases h : ∃ c, P c ∧ f c < f b
    · obtain ⟨c, hc, hlt⟩ := h
      have := hf b; have := hf c
      exact ih (f c).toNat (by omega) c rfl hc
    · exact ⟨b, hP, fun c hc => by
        refine Classical.byContradiction fun hn => h ⟨c, hc, by omega⟩⟩
def wed (m : List Int) (a b : Nat) : List Int := (List.range m.length).map fun i => if i = a then (b : Int) else if m.getD i 0 = (b : Int) then -1 else m.getD i 0
theorem wed_at {m : List Int} {a b i : Nat} (h : i < m.length) : (wed m a b).getD i 0 = if i = a then (b : Int) else if m.getD i 0 = (b : Int) then -1 else m.getD i 0 := by
  simp [wed, List.getD, h]
theorem wed_len (m : List Int) (a b : Nat) : (wed m a b).length = m.length := by simp [wed]
theorem sot_step {w : Wi} (hw : Wish w) {m : List Int} (hs : Simple w m) {a b0 : Nat} (ha : a < w.L.length) (hb0 : b0 < w.L.length) (hbl : blocksB w m a b0 = true) : ∃ m', Simple w m' ∧ ranks w m' < ranks w m := by
  obtain ⟨hm, hs⟩ := hs
  have hneg := hs a b0 ha hb0 hbl
  obtain ⟨b, ⟨hb, hbb⟩, hmin⟩ := least_of (P := fun b => b < w.L.length ∧ blocksB w m a b = true) (f := fun b => placeI (row w.L a) b) (fun b => (placeI_bd _ _).1) _ b0 rfl ⟨hb0, hbl⟩
  have hlen := hm.len
  have ham : a < m.length := by omega
  have hpair : pairB w a b = true := by simp only [blocksB, Bool.and_eq_true] at hbb; exact hbb.1.1.1
  have hdR : dearB (row w.R b) a (backF m b) = true := by simp only [blocksB, Bool.and_eq_true] at hbb; exact hbb.2
  have at' : ∀ i, i < m.length → (wed m a b).getD i 0 = if i = a then (b : Int) else if m.getD i 0 = (b : Int) then -1 else m.getD i 0 := fun i hi => wed_at hi
  have hm' : Mat w (wed m a b) := by
    refine ⟨by rw [wed_len, hlen], fun i hi => ?_, fun i j hi hj h0 he => ?_⟩
    · rw [wed_len] at hi
      rw [at' i hi]
      by_cases h1 : i = a
      · subst h1; rw [if_pos rfl]; exact .inr ⟨b, rfl, hb, hpair⟩
      · rw [if_neg h1]
        by_cases h2 : m.getD i 0 = (b : Int)
        · rw [if_pos h2]; exact .inl rfl
        · rw [if_neg h2]; exact hm.val i hi
    · rw [wed_len] at hi hj
      rw [at' i hi] at h0 he
      rw [at' j hj] at he
      by_cases h1 : i = a
      · rw [if_pos h1] at he
        by_cases h2 : j = a
        · omega
        · rw [if_neg h2] at he
          by_cases h3 : m.getD j 0 = (b : Int)
          · rw [if_pos h3] at he; omega
          · rw [if_neg h3] at he; exact absurd he.symm h3
      · rw [if_neg h1] at h0 he
        by_cases h2 : m.getD i 0 = (b : Int)
        · rw [if_pos h2] at h0; omega
        · rw [if_neg h2] at h0 he
          by_cases h3 : j = a
          · rw [if_pos h3] at he; exact absurd he h2
          · rw [if_neg h3] at he
            by_cases h4 : m.getD j 0 = (b : Int)
            · rw [if_pos h4] at he; omega
            · rw [if_neg h4] at he; exact hm.inj i j hi hj h0 he
  have hback : ∀ c : Nat, c < w.L.length → backF (wed m a b) c = if c = b then (a : Int) else backF m c := by
    intro c hc
    by_cases h1 : c = b
    · subst h1
      rw [if_pos rfl]
      exact back_here hm' (by rw [wed_len]; exact ham) (by rw [at' a ham, if_pos rfl])
    · rw [if_neg h1]
      rcases back_cases hm c with ⟨i, i1, i2, i3⟩ | ⟨i1, i2⟩
      · rw [i3]
        have hia : i ≠ a := by intro e; subst e; omega
        exact back_here hm' (by rw [wed_len]; exact i1) (by rw [at' i i1, if_neg hia, if_neg (by omega)]; exact i2)
      · rw [i2]
        rcases back_cases hm' c with ⟨i, j1, j2, j3⟩ | ⟨_, j2⟩
        · rw [wed_len] at j1
          rw [at' i j1] at j2
          by_cases h2 : i = a
          · rw [if_pos h2] at j2; omega
          · rw [if_neg h2] at j2
            by_cases h3 : m.getD i 0 = (b : Int)
            · rw [if_pos h3] at j2; omega
            · rw [if_neg h3] at j2; exact absurd j2 (i1 i j1)
        · exact j2
  refine ⟨wed m a b, ⟨hm', fun a2 b2 ha2 hb2 hbl2 => ?_⟩, ?_⟩
  · simp only [blocksB, Bool.and_eq_true, Bool.not_eq_true', decide_eq_false_iff_not] at hbl2
    obtain ⟨⟨⟨p1, p2⟩, p3⟩, p4⟩ := hbl2
    rw [hback b2 hb2] at p4
    rw [at' a2 (by omega)] at p2 p3 ⊢
    by_cases h1 : a2 = a
    · subst h1
      rw [if_pos rfl] at p2 p3
      have hne : b2 ≠ b := by omega
      rw [if_neg hne] at p4
      have : blocksB w m a2 b2 = true := by
        simp only [blocksB, Bool.and_eq_true, Bool.not_eq_true', decide_eq_false_iff_not]
        refine ⟨⟨⟨p1, by omega⟩, ?_⟩, p4⟩
        unfold dearB
        rw [decide_eq_true hneg]; rfl
      have := hmin b2 ⟨hb2, this⟩
      simp only [dearB, Bool.or_eq_true, decide_eq_true_eq] at p3
      omega
    · rw [if_neg h1] at p2 p3 ⊢
      by_cases h2 : m.getD a2 0 = (b : Int)
      · rw [if_pos h2]; omega
      · rw [if_neg h2] at p2 p3 ⊢
        refine hs a2 b2 ha2 hb2 ?_
        simp only [blocksB, Bool.and_eq_true, Bool.not_eq_true', decide_eq_false_iff_not]
        refine ⟨⟨⟨p1, p2⟩, p3⟩, ?_⟩
        by_cases h3 : b2 = b
        · subst h3
          rw [if_pos rfl] at p4
          simp only [dearB, Bool.or_eq_true, decide_eq_true_eq] at p4 hdR ⊢
          omega
        · rw [if_neg h3] at p4; exact p4
  · unfold ranks
    refine sumS_lt (q := b) hb (fun i hi hne => by rw [hback i hi, if_neg hne]) ?_
    rw [hback b hb, if_pos rfl]
    have hin : placeI (row w.R b) a < (row w.R b).length := by
      simp only [pairB, Bool.and_eq_true] at hpair
      exact placeI_in hpair.2
    have b1 := (placeI_bd (row w.R b) a).1
    simp only [dearB, Bool.or_eq_true, decide_eq_true_eq] at hdR
    rcases back_cases hm b with ⟨i, i1, i2, i3⟩ | ⟨i1, i2⟩
    · omega
    · rw [i2, placeI_neg hw hb]; omega
theorem stab_from {w : Wi} (hw : Wish w) : ∀ (k : Nat) (m : List Int), ranks w m = k → Simple w m → ∃ m', Stab w m' := by
  intro k
  induction k using Nat.strongRecOn with
  | _ k ih =>
    intro m hk hs
    by_cases h : ∃ a b, a < w.L.length ∧ b < w.L.length ∧ blocksB w m a b = true
    · obtain ⟨a, b, ha, hb, hbl⟩ := h
      obtain ⟨m', h1, h2⟩ := sot_step hw hs ha hb hbl
      exact ih _ (by omega) m' rfl h1
    · exact ⟨m, hs.1, fun a b ha hb => by
        rw [← Bool.not_eq_true]
        exact fun e => h ⟨a, b, ha, hb, e⟩⟩
/-- There is a stable match. -/
theorem stab_there {w : Wi} (hw : Wish w) : ∃ m, Stab w m := by
  have at0 : ∀ i, i < w.L.length → (List.replicate w.L.length (-1 : Int)).getD i 0 = -1 := fun i hi => by simp [List.getD, hi]
  refine stab_from hw _ (List.replicate w.L.length (-1)) rfl ⟨⟨by simp, fun i hi => .inl (at0 i (by simpa using hi)), fun i j hi hj h0 _ => ?_⟩, fun a b ha _ _ => ?_⟩
  · rw [at0 i (by simpa using hi)] at h0; omega
  · rw [at0 a ha]; omega
end Go.Proofs.Ytchfibmndcfpiaa
namespace Go.Proofs.Ytchfibmndcfpiaa
set_option linter.unusedVariables false
set_option linter.unusedSimpArgs false
open Go.RowKit

/-- The next choices: from the last one down, each counts up, or begins anew. -/
def nextAt (n : Int) (ch : List Int) : Nat → List Int × Bool
  | 0 => (ch, false)
  | k + 1 => if ch.getD k 0 + 1 < n then (ch.set k (ch.getD k 0 + 1), true) else nextAt n (ch.set k 0) k
def valD (n : Nat) (ch : List Int) : Nat := ch.foldl (fun v x => v * n + x.toNat) 0
theorem valD_from (n : Nat) : ∀ (ch : List Int) (v : Nat), ch.foldl (fun v x => v * n + x.toNat) v = v * n ^ ch.length + valD n ch
  | [], v => by simp [valD]
  | x :: ch, v => by
    have e1 := valD_from n ch (v * n + x.toNat)
    have e2 := valD_from n ch (0 * n + x.toNat)
    simp only [valD, List.foldl_cons, List.length_cons] at e1 e2 ⊢
    rw [e1, e2, Nat.pow_succ]
    simp only [Nat.zero_mul, Nat.zero_add, Nat.add_mul]
    rw [Nat.mul_assoc, Nat.mul_comm n, Nat.add_assoc]
theorem valD_append (n : Nat) (p q : List Int) : valD n (p ++ q) = valD n p * n ^ q.length + valD n q := by
  unfold valD; rw [List.foldl_append]; exact valD_from n q _
theorem valD_zeros (n m : Nat) : valD n (List.replicate m 0) = 0 := by
  induction m with
  | zero => rfl
  | succ m ih => rw [List.replicate_succ', valD_append, ih]; simp [valD]
theorem valD_one (n : Nat) (x : Int) : valD n [x] = x.toNat := by simp [valD]
def digB (n : Nat) (ch : List Int) : Prop := ∀ x ∈ ch, 0 ≤ x ∧ x < n
theorem valD_lt {n : Nat} (hn : 1 ≤ n) (ch : List Int) (h : digB n ch) : valD n ch < n ^ ch.length := by
  have : ∀ m, m ≤ ch.length → valD n (ch.take m) < n ^ m := by
    intro m
    induction m with
    | zero => intro _; simp [valD]
    | succ m ih =>
      intro hm
      have hx := h _ (List.getElem_mem (show m < ch.length by omega))
      rw [List.take_succ_eq_append_getElem (by omega), valD_append, valD_one]
      have h1 := ih (by omega)
      have h2 : (valD n (ch.take m) + 1) * n ≤ n ^ m * n := Nat.mul_le_mul_right n h1
      rw [Nat.pow_succ]
      rw [Nat.add_mul] at h2
      simp only [List.length_singleton, Nat.pow_one]
      omega
  have := this ch.length (Nat.le_refl _)
  rwa [List.take_length] at this
theorem valD_inj {n : Nat} (hn : 1 ≤ n) : ∀ (k : Nat) {p q : List Int}, p.length = k → q.length = k → digB n p → digB n q → valD n p = valD n q → p = q
  | 0, p, q, h1, h2, _, _, _ => by rw [List.eq_nil_of_length_eq_zero h1, List.eq_nil_of_length_eq_zero h2]
  | k + 1, p, q, h1, h2, hp, hq, h => by
    obtain ⟨p', x, rfl⟩ : ∃ p' x, p = p' ++ [x] := ⟨p.dropLast, p.getLast (by intro e; subst e; simp at h1), (List.dropLast_concat_getLast _).symm⟩
    obtain ⟨q', y, rfl⟩ : ∃ q' y, q = q' ++ [y] := ⟨q.dropLast, q.getLast (by intro e; subst e; simp at h2), (List.dropLast_concat_getLast _).symm⟩
    rw [valD_append, valD_append, valD_one, valD_one] at h
    simp only [List.length_singleton, Nat.pow_one] at h
    have hx := hp x (by simp)
    have hy := hq y (by simp)
    have h3 : valD n p' = valD n q' := by
      have e1 : (valD n p' * n + x.toNat) / n = valD n p' := by rw [Nat.mul_comm, Nat.mul_add_div (by omega), Nat.div_eq_of_lt (by omega)]; rfl
      have e2 : (valD n q' * n + y.toNat) / n = valD n q' := by rw [Nat.mul_comm, Nat.mul_add_div (by omega), Nat.div_eq_of_lt (by omega)]; rfl
      rw [← e1, ← e2, h]
    have h4 : x = y := by rw [h3] at h; omega
    rw [valD_inj hn k (by simpa using h1) (by simpa using h2) (fun z hz => hp z (by simp [hz])) (fun z hz => hq z (by simp [hz])) h3, h4]
theorem next_spec {n : Nat} (hn : 1 ≤ n) : ∀ (k m : Nat) (p : List Int), p.length = k → digB n p →
    ((nextAt n (p ++ List.replicate m 0) k).2 = true → (nextAt n (p ++ List.replicate m 0) k).1.length = k + m ∧ digB n (nextAt n (p ++ List.replicate m 0) k).1 ∧ valD n (nextAt n (p ++ List.replicate m 0) k).1 = valD n (p ++ List.replicate m 0) + n ^ m) ∧
    ((nextAt n (p ++ List.replicate m 0) k).2 = false → valD n (p ++ List.replicate m 0) + n ^ m = n ^ (k + m))
  | 0, m, p, hp, _ => by
    have : p = [] := List.eq_nil_of_length_eq_zero hp
    subst this
    refine ⟨fun h => by simp [nextAt] at h, fun _ => ?_⟩
    rw [List.nil_append, valD_zeros, Nat.zero_add, Nat.zero_add]
  | k + 1, m, p, hp, hd => by
    obtain ⟨p', x, rfl⟩ : ∃ p' x, p = p' ++ [x] := ⟨p.dropLast, p.getLast (by intro e; subst e; simp at hp), (List.dropLast_concat_getLast _).symm⟩
    have hk : p'.length = k := by simpa using hp
    have hx := hd x (by simp)
    have hd' : digB n p' := fun z hz => hd z (by simp [hz])
    have e1 : (p' ++ [x] ++ List.replicate m 0).getD k 0 = x := by simp [List.getD, List.getElem?_append_right, hk]
    have e2 : ∀ v : Int, (p' ++ [x] ++ List.replicate m 0).set k v = p' ++ [v] ++ List.replicate m 0 := by
      intro v
      rw [List.append_assoc, List.set_append_right _ _ (by omega), hk, Nat.sub_self]
      simp
    have e3 : p' ++ [0] ++ List.replicate m 0 = p' ++ List.replicate (m + 1) (0 : Int) := by rw [List.replicate_succ]; simp
    rw [nextAt, e1, e2, e2]
    have v1 : ∀ v : Int, valD n (p' ++ [v] ++ List.replicate m 0) = (valD n p' * n + v.toNat) * n ^ m := by
      intro v; rw [valD_append, valD_append, valD_zeros, valD_one]; simp
    by_cases hlt : x + 1 < n
    · rw [if_pos hlt]
      refine ⟨fun _ => ⟨by simp; omega, ?_, ?_⟩, fun h => by cases h⟩
      · intro z hz
        simp only [List.mem_append, List.mem_singleton] at hz
        rcases hz with (hz | rfl) | hz
        · exact hd' z hz
        · omega
        · rw [List.eq_of_mem_replicate hz]; omega
      · show valD n (p' ++ [x + 1] ++ List.replicate m 0) = _
        rw [v1, v1, show (x + 1).toNat = x.toNat + 1 by omega, ← Nat.add_assoc, Nat.add_mul _ 1, Nat.one_mul]
    · rw [if_neg hlt, e3]
      obtain ⟨i1, i2⟩ := next_spec hn k (m + 1) p' hk hd'
      have v2 : valD n (p' ++ List.replicate (m + 1) 0) + (n - 1) * n ^ m = valD n (p' ++ [x] ++ List.replicate m 0) := by
        rw [← e3, v1, v1, show x.toNat = n - 1 by omega]
        simp [Nat.add_mul]
      have v3 : n ^ (m + 1) = (n - 1) * n ^ m + n ^ m := by
        rw [Nat.pow_succ, Nat.mul_comm, Nat.sub_mul, Nat.one_mul]
        have : 1 * n ^ m ≤ n * n ^ m := Nat.mul_le_mul_right _ hn
        omega
      refine ⟨fun h => ?_, fun h => ?_⟩
      · obtain ⟨j1, j2, j3⟩ := i1 h
        exact ⟨by omega, j2, by omega⟩
      · have := i2 h
        rw [show k + 1 + m = k + (m + 1) by omega]
        omega
/-- The t-th choices. -/
def chAt (n U : Nat) : Nat → List Int
  | 0 => List.replicate U 0
  | t + 1 => (nextAt n (chAt n U t) U).1
theorem nextAt_len (n : Int) : ∀ (k : Nat) (ch : List Int), (nextAt n ch k).1.length = ch.length
  | 0, ch => rfl
  | k + 1, ch => by
    rw [nextAt]
    split
    · simp
    · rw [nextAt_len n k]; simp
theorem chAt_len (n U : Nat) : ∀ t, (chAt n U t).length = U
  | 0 => by simp [chAt]
  | t + 1 => by rw [chAt, nextAt_len, chAt_len n U t]
theorem chAt_spec {n : Nat} (hn : 1 ≤ n) (U : Nat) : ∀ t, t < n ^ U → digB n (chAt n U t) ∧ valD n (chAt n U t) = t ∧ ((nextAt n (chAt n U t) U).2 = decide (t + 1 < n ^ U))
  | 0, h => by
    have hd : digB n (List.replicate U 0) := fun x hx => by rw [List.eq_of_mem_replicate hx]; omega
    refine ⟨hd, valD_zeros n U, ?_⟩
    obtain ⟨i1, i2⟩ := next_spec hn U 0 (List.replicate U 0) (by simp) hd
    simp only [List.replicate_zero, List.append_nil, valD_zeros, Nat.pow_zero, Nat.zero_add, Nat.add_zero] at i1 i2
    rw [chAt]
    cases hb : (nextAt n (List.replicate U 0) U).2 with
    | true =>
      obtain ⟨j1, j2, j3⟩ := i1 hb
      have := valD_lt hn _ j2
      rw [j1, j3] at this
      simp [this]
    | false => have := i2 hb; simp; omega
  | t + 1, h => by
    obtain ⟨h1, h2, h3⟩ := chAt_spec hn U t (by omega)
    obtain ⟨i1, i2⟩ := next_spec hn U 0 (chAt n U t) (chAt_len n U t) h1
    simp only [List.replicate_zero, List.append_nil, Nat.pow_zero, Nat.add_zero] at i1 i2
    rw [h3, decide_eq_true h] at i1
    obtain ⟨j1, j2, j3⟩ := i1 rfl
    rw [h2] at j3
    refine ⟨j2, j3, ?_⟩
    obtain ⟨k1, k2⟩ := next_spec hn U 0 (chAt n U (t + 1)) (chAt_len n U _) j2
    simp only [List.replicate_zero, List.append_nil, Nat.pow_zero, Nat.add_zero] at k1 k2
    rw [show valD n (chAt n U (t + 1)) = t + 1 from j3] at k1 k2
    cases hb : (nextAt n (chAt n U (t + 1)) U).2 with
    | true =>
      obtain ⟨l1, l2, l3⟩ := k1 hb
      have := valD_lt hn _ l2
      rw [l1, l3] at this
      simp [this]
    | false => have := k2 hb; simp; omega
theorem chAt_of {n : Nat} (hn : 1 ≤ n) {U : Nat} {ch : List Int} (hl : ch.length = U) (hd : digB n ch) : valD n ch < n ^ U ∧ ch = chAt n U (valD n ch) := by
  have hv := valD_lt hn ch hd
  rw [hl] at hv
  obtain ⟨h1, h2, _⟩ := chAt_spec hn U _ hv
  exact ⟨hv, valD_inj hn U hl (chAt_len _ _ _) hd h1 h2.symm⟩

/-- All lists of m digits below b, in their order. -/
def allD (b : Nat) : Nat → List (List Int)
  | 0 => [[]]
  | m + 1 => (List.range b).flatMap fun (d : Nat) => (allD b m).map fun s => (d : Int) :: s
theorem range_mul (M : Nat) : ∀ b : Nat, (List.range b).flatMap (fun d => (List.range M).map fun t => d * M + t) = List.range (b * M)
  | 0 => by simp
  | b + 1 => by rw [List.range_succ, List.flatMap_append, range_mul M b, Nat.add_mul, Nat.one_mul, List.range_add]; simp
theorem allD_dig (b : Nat) : ∀ m, ∀ x ∈ allD b m, x.length = m ∧ digB b x
  | 0, x, h => by simp [allD] at h; subst h; exact ⟨rfl, fun y hy => by simp at hy⟩
  | m + 1, x, h => by
    simp only [allD, List.mem_flatMap, List.mem_range, List.mem_map] at h
    obtain ⟨d, hd, s, hs, rfl⟩ := h
    obtain ⟨h1, h2⟩ := allD_dig b m s hs
    refine ⟨by simp [h1], fun y hy => ?_⟩
    rcases List.mem_cons.1 hy with rfl | hy
    · omega
    · exact h2 y hy
theorem allD_val (b : Nat) : ∀ m, (allD b m).map (valD b) = List.range (b ^ m)
  | 0 => by simp [allD, valD]
  | m + 1 => by
    have ih := allD_val b m
    have e : ∀ d : Nat, ((allD b m).map fun s => (d : Int) :: s).map (valD b) = (List.range (b ^ m)).map fun t => d * b ^ m + t := by
      intro d
      rw [← ih, List.map_map, List.map_map]
      refine List.map_congr_left fun s hs => ?_
      have := valD_append b [(d : Int)] s
      rw [valD_one, (allD_dig b m s hs).1] at this
      simpa using this
    rw [allD, List.map_flatMap]
    simp only [e]
    rw [range_mul, Nat.pow_succ, Nat.mul_comm]
theorem allD_eq {b : Nat} (hb : 1 ≤ b) (m : Nat) : allD b m = (List.range (b ^ m)).map (chAt b m) := by
  have hl : (allD b m).length = b ^ m := by have := congrArg List.length (allD_val b m); simpa using this
  apply List.ext_getElem
  · simp [hl]
  · intro t h1 h2
    have ht : t < b ^ m := by omega
    have hv : valD b (allD b m)[t] = t := by
      have h3 : ((allD b m).map (valD b))[t]? = some t := by rw [allD_val]; simp [ht]
      rw [List.getElem?_map, List.getElem?_eq_getElem h1] at h3
      simpa using h3
    obtain ⟨d1, d2⟩ := allD_dig b m _ (List.getElem_mem h1)
    obtain ⟨c1, c2, _⟩ := chAt_spec hb m t ht
    simp only [List.getElem_map, List.getElem_range]
    exact valD_inj hb m d1 (chAt_len _ _ _) d2 c1 (hv.trans c2.symm)
end Go.Proofs.Ytchfibmndcfpiaa
namespace Go.Proofs.Ytchfibmndcfpiaa
set_option linter.unusedVariables false
set_option linter.unusedSimpArgs false
open Go.RowKit

theorem flatMap_congrM {α β : Type} {f g : α → List β} : ∀ {l : List α}, (∀ x ∈ l, f x = g x) → l.flatMap f = l.flatMap g
  | [], _ => rfl
  | x :: l, h => by rw [List.flatMap_cons, List.flatMap_cons, h x (by simp), flatMap_congrM fun y hy => h y (by simp [hy])]
/-- May x stand behind p in a match? -/
def okB (w : Wi) (p : List Int) (x : Int) : Bool := decide (x = -1) || (inB x 0 (w.L.length - 1) && !hasB p x && pairB w p.length x.toNat)
def partN (w : Wi) (m : List Int) : Nat → Bool
  | 0 => true
  | k + 1 => partN w m k && okB w (m.take k) (m.getD k 0)
def partB (w : Wi) (m : List Int) : Bool := partN w m m.length
def matchB (w : Wi) (m : List Int) : Bool := decide (m.length = w.L.length) && partB w m
theorem partN_le {w : Wi} {m : List Int} : ∀ {k j : Nat}, j ≤ k → partN w m k = true → partN w m j = true
  | 0, j, h, h2 => by have : j = 0 := by omega
                      subst this; rfl
  | k + 1, j, h, h2 => by
    by_cases e : j = k + 1
    · subst e; exact h2
    · rw [partN, Bool.and_eq_true] at h2
      exact partN_le (k := k) (by omega) h2.1
theorem partN_congr {w : Wi} {m m' : List Int} : ∀ {k : Nat}, (∀ j, j < k → m.getD j 0 = m'.getD j 0 ∧ m.take j = m'.take j) → partN w m k = partN w m' k
  | 0, _ => rfl
  | k + 1, h => by
    rw [partN, partN, partN_congr (k := k) (fun j hj => h j (by omega)), (h k (by omega)).1, (h k (by omega)).2]
theorem partN_pre (w : Wi) (p s : List Int) : ∀ k, k ≤ p.length → partN w (p ++ s) k = partN w p k := fun k hk =>
  partN_congr fun j hj => ⟨by simp [List.getD, List.getElem?_append_left (show j < p.length by omega)], by rw [List.take_append_of_le_length (by omega)]⟩
theorem partB_snoc (w : Wi) (p : List Int) (x : Int) : partB w (p ++ [x]) = (partB w p && okB w p x) := by
  unfold partB
  rw [List.length_append, List.length_singleton, partN, partN_pre w p [x] _ (Nat.le_refl _)]
  have e1 : (p ++ [x]).take p.length = p := by simp
  have e2 : (p ++ [x]).getD p.length 0 = x := by simp [List.getD]
  rw [e1, e2]
theorem partB_pre {w : Wi} {p s : List Int} (h : partB w (p ++ s) = true) : partB w p = true := by
  unfold partB at h ⊢
  rw [← partN_pre w p s _ (Nat.le_refl _)]
  exact partN_le (by simp) h
theorem partN_at {w : Wi} {m : List Int} : ∀ {k j : Nat}, partN w m k = true → j < k → okB w (m.take j) (m.getD j 0) = true
  | 0, j, _, h => by omega
  | k + 1, j, h2, h => by
    rw [partN, Bool.and_eq_true] at h2
    by_cases e : j = k
    · subst e; exact h2.2
    · exact partN_at h2.1 (by omega)
theorem okB_iff {w : Wi} {p : List Int} {x : Int} : okB w p x = true ↔ x = -1 ∨ (0 ≤ x ∧ x < w.L.length ∧ x ∉ p ∧ pairB w p.length x.toNat = true) := by
  unfold okB
  simp only [Bool.or_eq_true, decide_eq_true_eq, Bool.and_eq_true, inB_iff, Bool.not_eq_true', hasB_no]
  constructor
  · rintro (h | ⟨⟨⟨h1, h2⟩, h3⟩, h4⟩)
    · exact .inl h
    · exact .inr ⟨h1, by omega, h3, h4⟩
  · rintro (h | ⟨h1, h2, h3, h4⟩)
    · exact .inl h
    · exact .inr ⟨⟨⟨h1, by omega⟩, h3⟩, h4⟩
theorem mem_take_getD {m : List Int} {i j : Nat} (hij : i < j) (hi : i < m.length) : m.getD i 0 ∈ m.take j := by
  have : (m.take j)[i]? = some (m.getD i 0) := by rw [List.getElem?_take, if_pos hij]; exact get_of_lt hi
  exact List.mem_of_getElem? this
theorem mat_of {w : Wi} {m : List Int} (h : matchB w m = true) : Mat w m := by
  simp only [matchB, Bool.and_eq_true, decide_eq_true_eq, partB] at h
  obtain ⟨h1, h2⟩ := h
  have at' : ∀ i, i < m.length → m.getD i 0 = -1 ∨ (0 ≤ m.getD i 0 ∧ m.getD i 0 < w.L.length ∧ m.getD i 0 ∉ m.take i ∧ pairB w i (m.getD i 0).toNat = true) := fun i hi => by
    have := okB_iff.1 (partN_at h2 hi)
    rwa [List.length_take, Nat.min_eq_left (by omega)] at this
  refine ⟨h1, fun i hi => ?_, fun i j hi hj h0 he => ?_⟩
  · rcases at' i hi with h3 | ⟨h3, h4, _, h5⟩
    · exact .inl h3
    · exact .inr ⟨(m.getD i 0).toNat, by omega, by omega, h5⟩
  · refine Classical.byContradiction fun hne => ?_
    by_cases hlt : i < j
    · rcases at' j hj with h3 | ⟨_, _, h5, _⟩
      · omega
      · exact h5 (he ▸ mem_take_getD hlt hi)
    · rcases at' i hi with h3 | ⟨_, _, h5, _⟩
      · omega
      · exact h5 (he ▸ mem_take_getD (show j < i by omega) hj)
theorem of_mat {w : Wi} {m : List Int} (h : Mat w m) : matchB w m = true := by
  simp only [matchB, Bool.and_eq_true, decide_eq_true_eq, partB]
  refine ⟨h.len, ?_⟩
  have : ∀ k, k ≤ m.length → partN w m k = true := by
    intro k
    induction k with
    | zero => intro _; rfl
    | succ k ih =>
      intro hk
      rw [partN, ih (by omega), Bool.true_and, okB_iff, List.length_take, Nat.min_eq_left (by omega)]
      rcases h.val k (by omega) with h1 | ⟨b, h1, h2, h3⟩
      · exact .inl h1
      · refine .inr ⟨by omega, by omega, fun hm => ?_, by rw [h1]; exact h3⟩
        obtain ⟨i, hi, e⟩ := List.getElem_of_mem hm
        rw [List.length_take] at hi
        have e2 : m.getD i 0 = m.getD k 0 := by
          rw [← e]
          simp [List.getD, List.getElem?_eq_getElem (show i < m.length by omega)]
        have := h.inj i k (by omega) (by omega) (by omega) e2
        omega
  exact this _ (Nat.le_refl _)
/-- The first pair from (a, b) on that blocks. -/
def blockF (w : Wi) (m : List Int) : Option (Nat × Nat) := (List.range w.L.length).findSome? fun a => ((List.range w.L.length).find? fun b => blocksB w m a b).map fun b => (a, b)
theorem block_none {w : Wi} {m : List Int} : blockF w m = none ↔ ∀ a b, a < w.L.length → b < w.L.length → blocksB w m a b = false := by
  unfold blockF
  simp only [List.findSome?_eq_none_iff, List.mem_range, Option.map_eq_none_iff, List.find?_eq_none, Bool.not_eq_true]
  exact ⟨fun h a b ha hb => h a ha b hb, fun h a ha b hb => h a b ha hb⟩
def stableB (w : Wi) (m : List Int) : Bool := matchB w m && (blockF w m).isNone
theorem stableB_there {w : Wi} (hw : Wish w) : ∃ m, stableB w m = true := by
  obtain ⟨m, h1, h2⟩ := stab_there hw
  exact ⟨m, by simp [stableB, of_mat h1, block_none.2 h2]⟩
/-- By depth. -/
def deepF (w : Wi) : Nat → List Int → List (List Int)
  | 0, p => if (blockF w p).isNone then [p] else []
  | f + 1, p => deepF w f (p ++ [-1]) ++ (List.range w.L.length).flatMap fun (k : Nat) => if pairB w p.length k && !hasB p k then deepF w f (p ++ [(k : Int)]) else []
/-- All lists of m numbers from -1 to n - 1, in their order. -/
def allM (n m : Nat) : List (List Int) := (allD (n + 1) m).map fun s => s.map (· - 1)
theorem allM_succ (n m : Nat) : allM n (m + 1) = ((allM n m).map fun s => (-1 : Int) :: s) ++ (List.range n).flatMap fun (k : Nat) => (allM n m).map fun s => (k : Int) :: s := by
  unfold allM
  rw [allD, List.range_succ_eq_map, List.flatMap_cons, List.map_append, List.map_map, List.map_map]
  congr 1
  rw [List.flatMap_map, List.map_flatMap]
  refine flatMap_congrM fun k hk => ?_
  rw [List.map_map, List.map_map]
  refine List.map_congr_left fun s hs => ?_
  simp
theorem deep_eq {w : Wi} : ∀ (f : Nat) (p : List Int), partB w p = true → p.length + f = w.L.length → deepF w f p = ((allM w.L.length f).map (p ++ ·)).filter (stableB w)
  | 0, p, hp, hl => by
    have hm : matchB w p = true := by simp [matchB, hp]; omega
    rw [deepF]
    simp only [allM, allD, List.map_cons, List.map_nil, List.append_nil, List.filter_cons, List.filter_nil, stableB, hm, Bool.true_and]
  | f + 1, p, hp, hl => by
    have step : ∀ x : Int, ((allM w.L.length f).map fun s => p ++ x :: s) = (allM w.L.length f).map (p ++ [x] ++ ·) := fun x => List.map_congr_left fun s _ => by simp
    have none' : ∀ x : Int, okB w p x = false → ((allM w.L.length f).map (p ++ [x] ++ ·)).filter (stableB w) = [] := by
      intro x hx
      rw [List.filter_eq_nil_iff]
      intro s hs
      obtain ⟨t, _, rfl⟩ := List.mem_map.1 hs
      intro hst
      simp only [stableB, matchB, Bool.and_eq_true] at hst
      have := partB_pre (p := p ++ [x]) (s := t) hst.1.2
      rw [partB_snoc, hp, hx] at this
      cases this
    rw [deepF, allM_succ, List.map_append, List.filter_append, List.map_map]
    congr 1
    · rw [deep_eq f (p ++ [-1]) (by rw [partB_snoc, hp]; simp [okB]) (by simp; omega)]
      exact congrArg _ (step (-1)).symm
    · rw [List.map_flatMap, List.filter_flatMap]
      refine flatMap_congrM fun k hk => ?_
      have hk' := List.mem_range.1 hk
      rw [List.map_map]
      show _ = (((allM w.L.length f).map fun s => p ++ (k : Int) :: s).filter (stableB w))
      rw [step]
      have hok : okB w p (k : Int) = (pairB w p.length k && !hasB p k) := by
        have h1 : decide ((k : Int) = -1) = false := decide_eq_false (by omega)
        have h2 : inB (k : Int) 0 (w.L.length - 1) = true := inB_iff.2 ⟨by omega, by omega⟩
        unfold okB
        rw [h1, h2, Int.toNat_natCast, Bool.false_or, Bool.true_and, Bool.and_comm]
      rw [← hok]
      cases hx : okB w p (k : Int) with
      | true =>
        rw [if_pos rfl]
        exact deep_eq f (p ++ [(k : Int)]) (by rw [partB_snoc, hp, hx]; rfl) (by simp; omega)
      | false => rw [none' _ hx]; rfl
def allStabF (w : Wi) : List (List Int) := (allM w.L.length w.L.length).filter (stableB w)
theorem deep_all (w : Wi) : deepF w w.L.length [] = allStabF w := by
  rw [deep_eq _ [] rfl (by simp)]
  simp [allStabF]
theorem allStab_mem {w : Wi} {m : List Int} (h : stableB w m = true) : m ∈ allStabF w := by
  refine List.mem_filter.2 ⟨?_, h⟩
  simp only [stableB, Bool.and_eq_true] at h
  have hm := mat_of h.1
  unfold allM
  rw [allD_eq (by omega)]
  rw [List.map_map, List.mem_map]
  have hd : digB (w.L.length + 1) (m.map (· + 1)) := by
    intro x hx
    obtain ⟨y, hy, rfl⟩ := List.mem_map.1 hx
    obtain ⟨i, hi, e⟩ := List.getElem_of_mem hy
    have e2 : m.getD i 0 = y := by rw [← e]; simp [List.getD, List.getElem?_eq_getElem hi]
    rcases hm.val i hi with h1 | ⟨b, h1, h2, _⟩ <;> omega
  obtain ⟨c1, c2⟩ := chAt_of (n := w.L.length + 1) (by omega) (U := w.L.length) (by simp [hm.len]) hd
  refine ⟨_, List.mem_range.2 c1, ?_⟩
  show (chAt _ _ _).map (· - 1) = m
  rw [← c2, List.map_map]
  have : ((fun x : Int => x - 1) ∘ fun x => x + 1) = id := by funext x; simp
  rw [this, List.map_id]
theorem allStab_some {w : Wi} (hw : Wish w) : 1 ≤ (allStabF w).length := by
  obtain ⟨m, hm⟩ := stableB_there hw
  exact List.length_pos_of_mem (allStab_mem hm)
end Go.Proofs.Ytchfibmndcfpiaa
