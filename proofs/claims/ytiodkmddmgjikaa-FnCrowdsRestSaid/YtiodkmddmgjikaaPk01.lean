/-
  Part 1 of what the proof stands on: lemmas and contracts, each with its conditions ahead of the colon.
-/
import Derived.WalkKit
import Derived.WalkSpells
import Derived.WalkLawsBesides
import Derived.Deep.QuietTactic
import Derived.BigQuiet
import Derived.Deep.RegionWith
import Derived.Lib.Hide
import Derived.Test.YtiodkmddmgjikaaRows
import Derived.OpenShut
import Derived.ChangeAt
import Derived.Lib.SliceRun
import Derived.Deep.Fields
import Derived.Deep.Matrix
namespace Go.Proofs.Ytiodkmddmgjikaa
set_option linter.unusedVariables false
set_option linter.unusedSimpArgs false
open Go.RowKit

/-- Integers of 64 bits as the cells of a slice. -/
def ints (xs : List Int) : List Value := xs.map (Value.int .i64)
@[simp] theorem ints_length (xs : List Int) : (ints xs).length = xs.length := by simp [ints]
@[simp] theorem ints_nil : ints [] = [] := rfl
theorem ints_get (xs : List Int) (k : Nat) (hk : k < xs.length) : (ints xs)[k]? = some (.int .i64 (xs.getD k 0)) := by
  simp [ints, List.getD, List.getElem?_eq_getElem hk]
theorem ints_append (xs ys : List Int) : ints (xs ++ ys) = ints xs ++ ints ys := by simp [ints]
theorem ints_set (xs : List Int) (k : Nat) (x : Int) : ints (xs.set k x) = (ints xs).set k (.int .i64 x) := by simp [ints, List.map_set]
theorem getD_of_get {xs : List Int} {k : Nat} {x : Int} (h : xs[k]? = some x) : xs.getD k 0 = x := by simp [List.getD, h]
theorem get_of_lt {xs : List Int} {k : Nat} (h : k < xs.length) : xs[k]? = some (xs.getD k 0) := by simp [List.getD, List.getElem?_eq_getElem h]
theorem ints_inj {xs ys : List Int} (h : ints xs = ints ys) : xs = ys := by
  induction xs generalizing ys with
  | nil => cases ys <;> simp_all [ints]
  | cons x xs ih => cases ys with
    | nil => simp [ints] at h
    | cons y ys => simp only [ints, List.map_cons, List.cons.injEq, Value.int.injEq, true_and] at h; rw [h.1, ih h.2]

/-- The slice 'a' reads as the cells 'vs' (one cell an element), in a block below B. -/
def Rd (w : World) (B : Nat) (a : Option Addr) (vs : List Value) : Prop :=
  vs = [] ∨ ∃ b o, a = some ⟨b, o, none⟩ ∧ b < B ∧ ∀ j, j < vs.length → w.cell? ⟨b, o + j, none⟩ = vs[j]?

theorem Rd.mono {w : World} {B B' : Nat} {a : Option Addr} {vs : List Value} (h : Rd w B a vs) (hB : B ≤ B') : Rd w B' a vs := by
  rcases h with h | ⟨b, o, ha, hb, hc⟩
  · exact .inl h
  · exact .inr ⟨b, o, ha, by omega, hc⟩

theorem Rd.below {w w' : World} {B C : Nat} {a : Option Addr} {vs : List Value} (h : Rd w B a vs) (hb : Below C w w') (hB : B ≤ C) : Rd w' B a vs := by
  rcases h with h | ⟨b, o, ha, hb', hc⟩
  · exact .inl h
  · exact .inr ⟨b, o, ha, hb', fun j hj => by rw [hb.cell (p := ⟨b, o + j, none⟩) (by show b < C; omega)]; exact hc j hj⟩

/-- What a slice of integers holds at an index. -/
theorem Rd.at {w : World} {B : Nat} {a : Option Addr} {xs : List Int} (h : Rd w B a (ints xs)) {k : Nat} (hk : k < xs.length) :
    ∃ b o, a = some ⟨b, o, none⟩ ∧ b < B ∧ ∀ j, j < xs.length → w.cell? ⟨b, o + j, none⟩ = some (.int .i64 (xs.getD j 0)) := by
  rcases h with h | ⟨b, o, ha, hb, hc⟩
  · have : (ints xs).length = 0 := by rw [h]; rfl
    simp at this; subst this; simp at hk
  · exact ⟨b, o, ha, hb, fun j hj => by rw [hc j (by simpa using hj)]; exact ints_get xs j hj⟩

/-- .. with the number behind a name, the equation hidden. -/
theorem Rd.get {w : World} {B : Nat} {a : Option Addr} {xs : List Int} (h : Rd w B a (ints xs)) {k : Nat} (hk : k < xs.length) :
    ∃ b o x, a = some ⟨b, o, none⟩ ∧ b < B ∧ w.cell? ⟨b, o + k, none⟩ = some (.int .i64 x) ∧ Hid (xs[k]? = some x) := by
  obtain ⟨b, o, ha, hb, hc⟩ := h.at hk
  exact ⟨b, o, xs.getD k 0, ha, hb, hc k hk, by simp [Hid, List.getD, List.getElem?_eq_getElem hk]⟩

theorem Rd.nil (w : World) (B : Nat) (a : Option Addr) : Rd w B a [] := .inl rfl

/-- An argument that is a slice of integers, as the row's own frame tells it. -/
theorem rd_of_row {w : World} {a : Option Addr} {len cap : Nat} {zs : List Int} (h : (a = none ∧ len = 0 ∧ cap = 0 ∧ zs = []) ∨
    ∃ x, a = some x ∧ len ≤ cap ∧ cap ≤ maxLen ∧ zs.length = cap ∧ (∀ i, i < zs.length → w.cell? (x.add i) = some (.int .i64 (zs.getD i 0))) ∧ ∀ n ∈ zs, (Lit.int .i64 n).wf = true) :
    Rd w w.heap.size a (ints (zs.take len)) ∧ (zs.take len).length = len := by
  rcases h with ⟨rfl, rfl, rfl, rfl⟩ | ⟨x, rfl, h1, h2, h3, h4, _⟩
  · exact ⟨.inl rfl, rfl⟩
  · have hl : (zs.take len).length = len := by simp; omega
    refine ⟨?_, hl⟩
    by_cases h0 : len = 0
    · subst h0; exact .inl rfl
    · have hx := h4 0 (by omega)
      have hx0 : x.add 0 = x := rfl
      rw [hx0] at hx
      obtain ⟨b, o, s⟩ := x
      have hs : s = none := by
        cases s with
        | none => rfl
        | some s =>
          unfold World.cell? at hx
          split at hx <;> simp at hx
      subst hs
      refine .inr ⟨b, o, rfl, World.block_lt_of_cell? w _ hx, fun j hj => ?_⟩
      rw [ints_length, hl] at hj
      have hj2 := h4 j (by omega)
      have ea : (⟨b, o, none⟩ : Addr).add j = ⟨b, o + j, none⟩ := by unfold Addr.add; split <;> simp_all
      rw [ea] at hj2
      rw [hj2, ints_get _ _ (by omega)]
      simp [List.getD, List.getElem?_take, hj]

/-- A block as a whole, nothing of it frozen. -/
def Blk (w : World) (b : Nat) (cs : List Value) (t : TypeId) : Prop := w.heap[b]? = some (.cells cs.toArray t (0, 0))
section
variable {w : World} {b : Nat} {cs : List Value} {t : TypeId}
theorem Blk.cell (h : Blk w b cs t) (j : Nat) : w.cell? ⟨b, j, none⟩ = cs[j]? := by simp [World.cell?, show w.heap[b]? = _ from h]
theorem Blk.has (h : Blk w b cs t) {j : Nat} (hj : j < cs.length) : ∃ v, w.cell? ⟨b, j, none⟩ = some v := ⟨cs[j], by rw [h.cell, List.getElem?_eq_getElem hj]⟩
theorem Blk.free (h : Blk w b cs t) (j : Nat) : w.frozen? ⟨b, j, none⟩ = false := by simp [World.frozen?, show w.heap[b]? = _ from h]
theorem Blk.lt (h : Blk w b cs t) : b < w.heap.size := lt_of_block h
theorem Blk.set (h : Blk w b cs t) (j : Nat) (u : Value) : Blk (w.setCell ⟨b, j, none⟩ u) b (cs.set j u) t := by
  have := heap_setCell_same w b j cs.toArray t u h
  rwa [List.setIfInBounds_toArray] at this
theorem Blk.other (h : Blk w b cs t) {p : Addr} (hp : b ≠ p.block) (u : Value) : Blk (w.setCell p u) b cs t := (Below.heap_setCell w p u b hp).trans h
theorem Blk.oth (h : Blk w b cs t) {g : Nat} (hne : b ≠ g) (j : Nat) (u : Value) : Blk (w.setCell ⟨g, j, none⟩ u) b cs t := h.other (p := ⟨g, j, none⟩) hne u
theorem Blk.alloc (h : Blk w b cs t) (o : Obj) : Blk (w.alloc o) b cs t := (Below.heap_alloc w o b h.lt).trans h
theorem Blk.below {w' : World} {B : Nat} (h : Blk w b cs t) (hb : Below B w w') (hB : b < B) : Blk w' b cs t := (hb.block b hB).trans h
theorem Blk.same {w' : World} (h : Blk w b cs t) (hb : Below w.heap.size w w') : Blk w' b cs t := h.below hb h.lt
theorem Blk.grown {w' : World} {row : Option Nat} (h : Blk w b cs t) (hg : w.grownBy w' row) (hr : some b ≠ row) : Blk w' b cs t := (hg.block b h.lt hr).trans h
theorem Blk.drewN (h : Blk w b cs t) (n : Nat) : Blk (w.drewN n) b cs t := h
theorem Blk.new (w : World) (cs : List Value) (t : TypeId) : Blk (w.alloc (.cells cs.toArray t)) w.heap.size cs t := heap_alloc_new w _
theorem Blk.unique {cs' : List Value} {t' : TypeId} (h : Blk w b cs t) (h' : Blk w b cs' t') : cs = cs' ∧ t = t' := by
  have := h.symm.trans h'
  simpa using this
theorem Blk.rd (h : Blk w b cs t) {B : Nat} (hB : b < B) : Rd w B (some ⟨b, 0, none⟩) cs :=
  .inr ⟨b, 0, rfl, hB, fun j _ => by rw [Nat.zero_add, h.cell]⟩
theorem Blk.at {xs : List Int} (h : Blk w b (ints xs) t) {k : Nat} (hk : k < xs.length) : w.cell? ⟨b, k, none⟩ = some (.int .i64 (xs.getD k 0)) := by
  rw [h.cell]; exact ints_get xs k hk
theorem Blk.setI {xs : List Int} (h : Blk w b (ints xs) t) (j : Nat) (x : Int) : Blk (w.setCell ⟨b, j, none⟩ (.int .i64 x)) b (ints (xs.set j x)) t := by
  rw [ints_set]; exact h.set j _
theorem Blk.owns (h : Blk w b cs t) {base : Nat} (hb : base ≤ b) (hm : cs.length ≤ maxLen) : w.ownsRow base t 1 (.slice (some ⟨b, 0, none⟩) cs.length cs.length) cs.length cs :=
  ⟨by simp, .inr ⟨b, cs.length, cs.toArray, rfl, hb, h, Nat.le_refl _, hm, by simp, List.take_of_length_le (by simp)⟩⟩
end

/-- An owned row reads as its cells. -/
theorem rd_of_own {w : World} {base e : Nat} {a : Option Addr} {n c m : Nat} {xs : List Value} (h : w.ownsRow base e 1 (.slice a n c) m xs) {B : Nat} (hB : w.heap.size ≤ B) : Rd w B a xs := by
  obtain ⟨h1, h2⟩ := h
  rcases h2 with ⟨h2, h3⟩ | ⟨g, cap, cur, hv, hg, hh, hn, hm, hs, ht⟩
  · exact .inl (List.eq_nil_of_length_eq_zero (by omega))
  · injection hv with ha _ _
    refine .inr ⟨g, 0, ha, Nat.lt_of_lt_of_le (lt_of_block hh) hB, fun j hj => ?_⟩
    have hb : Blk w g cur.toList e := hh
    rw [Nat.zero_add, hb.cell, ← ht, List.getElem?_take, if_pos (by rw [h1] at hj; exact hj)]

/-- The shape of an owned slice value. -/
theorem own_shape {w : World} {base e : Nat} {v : Value} {n : Nat} {xs : List Value} (h : w.ownsRow base e 1 v n xs) : ∃ a c, v = .slice a n c ∧ n ≤ c ∧ (a = none → n = 0) := by
  rcases h.2 with ⟨h2, h3⟩ | ⟨g, cap, cur, hv, hg, hh, hn, hm, hs, ht⟩
  · exact ⟨none, 0, by rw [h2, h3], by omega, fun _ => h3⟩
  · exact ⟨_, cap, hv, hn, fun h => by cases h⟩

/-- Writes to one block leave alone what another one owns. -/
theorem own_grown {w w' : World} {base e g : Nat} {v : Value} {n : Nat} {xs : List Value} (h : w.ownsRow base e 1 v n xs) (hg : w.grownBy w' (some g)) (hne : g < base) : w'.ownsRow base e 1 v n xs := by
  refine h.kept hg (.inr fun e => ?_)
  have := h.lt g e
  omega
theorem Rd.grown {w w' : World} {g B : Nat} {a : Option Addr} {vs : List Value} (h : Rd w B a vs) (hg : w.grownBy w' (some g)) (hB : B ≤ g) (hB2 : B ≤ w.heap.size) : Rd w' B a vs := by
  rcases h with h | ⟨b, o, ha, hb, hc⟩
  · exact .inl h
  · exact .inr ⟨b, o, ha, hb, fun j hj => by rw [World.cell?_of_block (w := w) (hg.block b (by omega) (by intro e; injection e; omega))]; exact hc j hj⟩
theorem below_of_grown {w w' : World} {row : Option Nat} {B : Nat} (hg : w.grownBy w' row) (hB : B ≤ w.heap.size) (hr : ∀ k, row = some k → B ≤ k) : Below B w w' := (Below.refl B w).grown hg hB hr

theorem own_below {w w' : World} {base e size : Nat} {v : Value} {n : Nat} {xs : List Value} (h : w.ownsRow base e size v n xs) (hb : Below w.heap.size w w') : w'.ownsRow base e size v n xs :=
  h.kept (row := none) ⟨hb.os, hb.tape, hb.output, hb.size, fun k hk _ => hb.block k hk⟩ (by cases v.ownBlock <;> simp)

theorem own_base {w : World} {base base' e size : Nat} {v : Value} {n : Nat} {xs : List Value} (h : w.ownsRow base e size v n xs) (hb : base' ≤ base) : w.ownsRow base' e size v n xs := by
  refine ⟨h.1, ?_⟩
  rcases h.2 with h | ⟨g, cap, cur, hv, hg, r⟩
  · exact .inl h
  · exact .inr ⟨g, cap, cur, hv, by omega, r⟩

/-- make([]T, n) for an element type of one cell: a block of n zero values. -/
theorem wpList_make_blk {P : Program} (w : World) {ops : Array Oper} {rest : List Oper} {o : Oper} {a : Act} {Q : Exit → Act → World → Prop}
    (hg : o.guard = none) (l c : Operand) (t : TypeId) (hop : o.op = Op.makeSlice t l c)
    (e : TypeId) (z : Value) (bytes : Nat) (h1 : P.underlying t = some (.slice e)) (hinfo : (P.info? e).map (fun i => (i.zero, i.size, i.bytes)) = some (some z, 1, bytes)) (hz : z.cells = #[z])
    (kl kc : IntKind) (n : Nat) (hl : a.eval l = .int kl (n : Int)) (hc : a.eval c = .int kc (n : Int)) (b2 : bytes * n ≤ 281474976710656) (b3 : n ≤ maxLen)
    (hK : ∀ w', Blk w' w.heap.size (List.replicate n z) e → Below w.heap.size w w' → w'.heap.size = w.heap.size + 1 → wpList P ops Q rest (a.put o.dst (.slice (some ⟨w.heap.size, 0, none⟩) n n)) w') :
    wpList P ops Q (o :: rest) a w := by
  obtain ⟨i, h2, h3, h4, h5⟩ := info_parts hinfo
  refine wpList_plain hg fun K hK' => ?_
  have b2' : (i.bytes : Int) * (n : Int) ≤ 281474976710656 := by rw [h5]; have : ((bytes * n : Nat) : Int) ≤ 281474976710656 := by omega
                                                                 rwa [Int.natCast_mul] at this
  have hr := run_make (P := P) w t e i z h1 h2 h3 kl kc n n (by omega) (Int.le_refl _) b2' (by unfold maxLen at b3; omega)
  simp only [Int.toNat_natCast, hz, h4, Nat.mul_one] at hr
  have e1 : madeCells #[z] n = (List.replicate n z).toArray := by rw [← toList_madeCells_one z n]
  rw [e1] at hr
  unfold Oper.wp
  simp [execOp, hop, hl, hc, hr, Result.andThen]
  exact hK' _ _ (by simpa using hK _ (Blk.new w _ e) ((Below.refl _ w).alloc (Nat.le_refl _) _) (by simp))

/-- append of one element (of one cell) to a slice that the call owns: the element lies in a block of its own that has just been made. -/
theorem wpList_append_one {P : Program} (wr : World) {ops : Array Oper} {rest : List Oper} {o : Oper} {a : Act} {Q : Exit → Act → World → Prop}
    (hg : o.guard = none) (s x : Operand) (t : TypeId) (hop : o.op = Op.call { callee := Callee.builtin Builtin.append, args := #[s, x], argTypes := #[t, t] })
    (base : Nat) (e : TypeId) (z : Value) (bytes : Nat) (h1 : P.underlying t = some (.slice e)) (hinfo : (P.info? e).map (fun i => (i.zero, i.size, i.bytes)) = some (some z, 1, bytes)) (hz : z.cells.size = 1)
    (v : Value) (n : Nat) (xs : List Value) (hs : a.eval s = v) (hown : wr.ownsRow base e 1 v n xs) (y : Value) (hy : y.oneCell' = true)
    (hx : a.eval x = .slice (some ⟨wr.heap.size, 0, none⟩) 1 1) (hb : bytes ≤ 64) (hn : n ≤ 1099511627776) (hbase : base ≤ wr.heap.size)
    (hK : ∀ v' w', w'.ownsRow base e 1 v' (n + 1) (xs ++ [y]) → wr.grownBy w' v.ownBlock → wpList P ops Q rest (a.put o.dst v') w') :
    wpList P ops Q (o :: rest) a (wr.alloc (.cells #[y] e)) := by
  obtain ⟨i, h2, h3, h4, h5⟩ := info_parts hinfo
  have hbb : (n + 1) * bytes ≤ 140737488355328 := Nat.le_trans (Nat.mul_le_mul_left (n + 1) hb) (by omega)
  refine wpList_append_own (wr.alloc (.cells #[y] e)) hg s x t hop base e i z 1 bytes h1 h2 h3 h4 h5 hz (by omega) v n xs hs (hown.alloc _) ⟨wr.heap.size, 0, none⟩ 1 1 [y] hx rfl ?_ ?_ (by unfold maxLen; omega) hbb (by simp; omega) ?_
  · intro j u hj
    match j, hj with
    | 0, hj =>
      simp at hj
      subst hj
      simp [Addr.add]
    | j + 1, hj => simp at hj
  · intro u hu
    simp at hu
    subst hu
    exact hy
  · intro v' w' ho hgr _
    refine hK v' w' ho ⟨hgr.os, hgr.tape, hgr.output, ?_, fun k hk hne => ?_⟩
    · have := hgr.size; simp at this; omega
    · rw [hgr.block k (by simp; omega) hne]
      exact Below.heap_alloc _ _ _ hk
/-- '[]T{}': nothing, in a block of its own. -/
theorem own_empty (w : World) (e : Nat) : (w.alloc (.cells #[] e)).ownsRow w.heap.size e 1 (.slice (some ⟨w.heap.size, 0, none⟩) 0 0) 0 [] :=
  World.ownsRow_made w #[] 0 (Nat.le_refl _) (Nat.zero_le _) rfl
theorem own_block_ne {w : World} {base e : Nat} {v : Value} {n g : Nat} {xs : List Value} (h : w.ownsRow base e 1 v n xs) (hg : g < base) : some g ≠ v.ownBlock := by
  intro e1
  have := h.lt g e1.symm
  omega
/-- What an append leaves below the owned stretch. -/
theorem below_append {w wr w' : World} {B base e : Nat} {v : Value} {n : Nat} {xs : List Value} (h : Below B w wr) (ho : wr.ownsRow base e 1 v n xs) (hg : wr.grownBy w' v.ownBlock) (hB : B ≤ base) (hB2 : B ≤ wr.heap.size) : Below B w w' :=
  h.grown hg hB2 fun k hk => Nat.le_trans hB (ho.lt k hk).1

theorem ints_replicate (n : Nat) (x : Int) : List.replicate n (Value.int .i64 x) = ints (List.replicate n x) := by simp [ints]

/-- The k first ones are written, the others are as they were. -/
theorem fill_step {α : Type} (xs : List α) (z : α) (k : Nat) (hk : k < xs.length) (x : α) (hx : xs[k]? = some x) :
    (xs.take k ++ List.replicate (xs.length - k) z).set k x = xs.take (k + 1) ++ List.replicate (xs.length - (k + 1)) z := by
  have e : xs.length - k = (xs.length - (k + 1)) + 1 := by omega
  have hl : (xs.take k).length = k := by simp; omega
  have hx' : xs[k] = x := by rw [List.getElem?_eq_getElem hk] at hx; injection hx
  rw [e, List.replicate_succ, List.set_append_right _ _ (by omega), hl, Nat.sub_self, List.set_cons_zero, List.take_succ_eq_append_getElem hk, hx', List.append_assoc]
  rfl

/-- A callee that leaves the world alone, met in a region that draws: with one count of draws, or with two. -/
theorem qs1 {P : Program} {f : FuncId} {args : Array Value} {w : World} {n : Nat} {v : Value} (h : Calls P f args (w.drewN n) fun e w' => e = .returned v ∧ w.drewN n = w') :
    Calls P f args (w.drewN n) fun e w'' => e = .returned v ∧ ∃ k, w'' = w.drewN k := h.mono fun _ _ h => ⟨h.1, n, h.2.symm⟩
theorem qs2 {P : Program} {f : FuncId} {args : Array Value} {w : World} {m n : Nat} {v : Value} (h : Calls P f args (w.drewN (m + n)) fun e w' => e = .returned v ∧ w.drewN (m + n) = w') :
    Calls P f args (w.drewN (m + n)) fun e w'' => e = .returned v ∧ ∃ k, w'' = w.drewN (m + k) := h.mono fun _ _ h => ⟨h.1, n, h.2.symm⟩
theorem qd1 {P : Program} {f : FuncId} {args : Array Value} {w : World} {n : Nat} {v : Value} (h : Calls P f args (w.drewN n) fun e w' => e = .returned v ∧ ∃ k, w' = (w.drewN n).drewN k) :
    Calls P f args (w.drewN n) fun e w'' => e = .returned v ∧ ∃ k, w'' = w.drewN k := h.mono fun _ _ ⟨h, k, hk⟩ => ⟨h, n + k, by rw [hk, World.drewN_drewN]⟩
theorem qd2 {P : Program} {f : FuncId} {args : Array Value} {w : World} {m n : Nat} {v : Value} (h : Calls P f args (w.drewN (m + n)) fun e w' => e = .returned v ∧ ∃ k, w' = (w.drewN (m + n)).drewN k) :
    Calls P f args (w.drewN (m + n)) fun e w'' => e = .returned v ∧ ∃ k, w'' = w.drewN (m + k) := h.mono fun _ _ ⟨h, k, hk⟩ => ⟨h, n + k, by rw [hk, World.drewN_drewN, Nat.add_assoc]⟩

theorem drewN_below (w : World) (n : Nat) : Below w.heap.size w (w.drewN n) := ⟨rfl, rfl, rfl, Nat.le_refl _, fun _ _ => rfl⟩
theorem grown_of_grown {w w1 w2 : World} {r : Option Nat} (h : w.grownBy w1 r) (h2 : w1.grownBy w2 r) : w.grownBy w2 r :=
  ⟨h2.os.trans h.os, h2.tape.trans h.tape, h2.output.trans h.output, Nat.le_trans h.size h2.size, fun i hi hne => (h2.block i (Nat.lt_of_lt_of_le hi h.size) hne).trans (h.block i hi hne)⟩

theorem ret_int {k : IntKind} {a b : Int} (h : a = b) : Ending.returned (.int k a) = .returned (.int k b) := by rw [h]
theorem ret_bool {a b : Bool} (h : a = b) : Ending.returned (.bool a) = .returned (.bool b) := by rw [h]

theorem take_succ_getD (xs : List Int) (k : Nat) (hk : k < xs.length) : xs.take (k + 1) = xs.take k ++ [xs.getD k 0] := by
  rw [List.take_succ_eq_append_getElem hk]; simp [List.getD, List.getElem?_eq_getElem hk]

/-- The first k of two lists of one length are alike. -/
theorem take_eq_succ {α : Type} {xs ys : List α} {k : Nat} {x y : α} (hx : xs[k]? = some x) (hy : ys[k]? = some y) (h : xs.take k = ys.take k) : xs.take (k + 1) = ys.take (k + 1) ↔ x = y := by
  rw [List.take_add_one, List.take_add_one, hx, hy, h]
  simp

theorem ne_of_get {α : Type} {xs ys : List α} {k : Nat} {x y : α} (hx : xs[k]? = some x) (hy : ys[k]? = some y) (h : x ≠ y) : xs ≠ ys := by
  intro e; subst e; rw [hx] at hy; exact h (by injection hy)

theorem Rd.up {w : World} {a : Option Addr} {vs : List Value} (h : Rd w w.heap.size a vs) (o : Obj) : Rd (w.alloc o) (w.alloc o).heap.size a vs :=
  (h.below ((Below.refl _ w).alloc (Nat.le_refl _) o) (Nat.le_refl _)).mono (by simp)
theorem Rd.to {w w' : World} {a : Option Addr} {vs : List Value} (h : Rd w w.heap.size a vs) (hb : Below w.heap.size w w') : Rd w' w'.heap.size a vs :=
  (h.below hb (Nat.le_refl _)).mono hb.size
theorem below_sto {B : Nat} {a w : World} (h : Below B a w) {g : Nat} (hB : B ≤ g) (j : Nat) (u : Value) : Below B a (w.setCell ⟨g, j, none⟩ u) := h.setCell (p := ⟨g, j, none⟩) hB u
theorem below_drew' {B : Nat} {w w' : World} (h : Below B w w') : Below B w w'.drew := h.drew
theorem bl1 (w : World) (o : Obj) : Below w.heap.size w (w.alloc o) := (Below.refl _ w).alloc (Nat.le_refl _) o
theorem bl2 (w : World) (o p : Obj) : Below w.heap.size w ((w.alloc o).alloc p) := (bl1 w o).alloc (by simp) p
theorem bl3 (w : World) (o p q : Obj) : Below w.heap.size w (((w.alloc o).alloc p).alloc q) := (bl2 w o p).alloc (by simp; omega) q
theorem below_then {w w1 w2 : World} (h : Below w.heap.size w w1) (h2 : Below w1.heap.size w1 w2) : Below w.heap.size w w2 := h.trans (h2.mono h.size)

/-- The answer of a function that gives integers or says no: 'none': nil and false; 'some xs': a new slice of xs and true. -/
def RetI (T : Nat) (w : World) (r : Option (List Int)) (e : Ending) (w' : World) : Prop :=
  Below w.heap.size w w' ∧ match r with
    | none => e = .returned (.tuple #[.slice none 0 0, .bool false])
    | some xs => ∃ a c, e = .returned (.tuple #[.slice a xs.length c, .bool true]) ∧ w'.ownsRow w.heap.size T 1 (.slice a xs.length c) xs.length (ints xs)
theorem RetI.flat {T : Nat} {w w' : World} {r : Option (List Int)} {e : Ending} (h : RetI T w r e w') :
    Below w.heap.size w w' ∧ ∃ a c, e = .returned (.tuple #[.slice a (r.getD []).length c, .bool r.isSome]) ∧ w'.ownsRow w.heap.size T 1 (.slice a (r.getD []).length c) (r.getD []).length (ints (r.getD [])) := by
  refine ⟨h.1, ?_⟩
  have h2 := h.2
  cases r with
  | none => exact ⟨none, 0, h2, World.ownsRow_nil _ _ _ _⟩
  | some xs => exact h2
theorem RetI.no {T : Nat} {w w' : World} (h : Below w.heap.size w w') : RetI T w none (.returned (.tuple #[.slice none 0 0, .bool false])) w' := ⟨h, rfl⟩
theorem RetI.blk {T : Nat} {w w' : World} {g : Nat} {xs : List Int} (hb : Blk w' g (ints xs) T) (hg : w.heap.size ≤ g) (hl : xs.length ≤ 1152921504606846976) (h : Below w.heap.size w w') :
    RetI T w (some xs) (.returned (.tuple #[.slice (some ⟨g, 0, none⟩) xs.length xs.length, .bool true])) w' :=
  ⟨h, _, _, rfl, by have := hb.owns hg (by rw [ints_length]; unfold maxLen; omega); rwa [ints_length] at this⟩

theorem below_drewN {B : Nat} {w w' : World} (h : Below B w w') (n : Nat) : Below B w (w'.drewN n) := ⟨h.os, h.tape, h.output, h.size, h.block⟩

end Go.Proofs.Ytiodkmddmgjikaa
namespace Go.Proofs.Ytiodkmddmgjikaa
set_option linter.unusedVariables false
set_option linter.unusedSimpArgs false
open Go.RowKit

/-- Bytes as the cells of a slice. -/
def byts (xs : List Int) : List Value := xs.map (Value.int .u8)
@[simp] theorem byts_length (xs : List Int) : (byts xs).length = xs.length := by simp [byts]
theorem byts_get (xs : List Int) (k : Nat) (hk : k < xs.length) : (byts xs)[k]? = some (.int .u8 (xs.getD k 0)) := by
  simp [byts, List.getD, List.getElem?_eq_getElem hk]
theorem Rd.atB {w : World} {B : Nat} {a : Option Addr} {xs : List Int} (h : Rd w B a (byts xs)) {k : Nat} (hk : k < xs.length) :
    ∃ b o, a = some ⟨b, o, none⟩ ∧ b < B ∧ ∀ j, j < xs.length → w.cell? ⟨b, o + j, none⟩ = some (.int .u8 (xs.getD j 0)) := by
  rcases h with h | ⟨b, o, ha, hb, hc⟩
  · have : (byts xs).length = 0 := by rw [h]; rfl
    simp at this; subst this; simp at hk
  · exact ⟨b, o, ha, hb, fun j hj => by rw [hc j (by simpa using hj)]; exact byts_get xs j hj⟩
section
open Go.ChangeShapes Go.WideShapes Go.ChangeAt
theorem rd_of_byts {w : World} {a : Option Addr} {len cap : Nat} {zs : List Int} (h : (a = none ∧ len = 0 ∧ cap = 0 ∧ zs = []) ∨
    ∃ x, a = some x ∧ len ≤ cap ∧ cap ≤ maxLen ∧ zs.length = cap ∧ (∀ i, i < zs.length → w.cell? (x.add i) = some (.int .u8 (zs.getD i 0))) ∧ ∀ n ∈ zs, (Lit.int .u8 n).wf = true) :
    Rd w w.heap.size a (byts (zs.take len)) ∧ (zs.take len).length = len := by
  rcases h with ⟨rfl, rfl, rfl, rfl⟩ | ⟨x, rfl, h1, h2, h3, h4, _⟩
  · exact ⟨.inl rfl, rfl⟩
  · have hl : (zs.take len).length = len := by simp; omega
    refine ⟨?_, hl⟩
    by_cases h0 : len = 0
    · subst h0; exact .inl rfl
    · have hx := h4 0 (by omega)
      have hx0 : x.add 0 = x := rfl
      rw [hx0] at hx
      obtain ⟨b, o, s⟩ := x
      have hs : s = none := by
        cases s with
        | none => rfl
        | some s =>
          unfold World.cell? at hx
          split at hx <;> simp at hx
      subst hs
      refine .inr ⟨b, o, rfl, World.block_lt_of_cell? w _ hx, fun j hj => ?_⟩
      rw [byts_length, hl] at hj
      have hj2 := h4 j (by omega)
      have ea : (⟨b, o, none⟩ : Addr).add j = ⟨b, o + j, none⟩ := by unfold Addr.add; split <;> simp_all
      rw [ea] at hj2
      rw [hj2, byts_get _ _ (by omega)]
      simp [List.getD, List.getElem?_take, hj]
/-- Bytes that come in as an argument. -/
theorem open_byts {H : Type} {enc : TypeId × Value → H} {P : Program} {w : World} {t e : TypeId} {a : Option Addr} {len cap : Nat} {d : DataW H} {ps : List MemPlace} (ht : P.underlying t = some (.slice e)) (he : P.underlying e = some (.int .u8)) (hc : P.cellsOf e = 1)
    (h : DataW.Trod enc P w 0 (fun _ => true) true t (.slice a len cap) d ps) :
    ∃ xs : List Int, xs.length = len ∧ Rd w w.heap.size a (byts xs) ∧ xs.length ≤ 9223372036854775807 ∧ ∀ x ∈ xs, 0 ≤ x ∧ x ≤ 255 := by
  obtain ⟨fuel, hf⟩ := h
  rcases open_ints ht he hc hf with ⟨hcs, _⟩ | ⟨x, l, c, zs, hcs, _, hl, hm, hz, _, hcell, hwz⟩
  · simp [Value.cells] at hcs
    obtain ⟨rfl, rfl, rfl⟩ := hcs
    exact ⟨[], rfl, Rd.nil _ _ _, by simp, by simp⟩
  · simp [Value.cells] at hcs
    obtain ⟨rfl, rfl, rfl⟩ := hcs
    have := rd_of_byts (.inr ⟨_, rfl, hl, hm, by simpa using hz, hcell, hwz⟩)
    refine ⟨_, this.2, this.1, by rw [this.2]; unfold maxLen at hm; omega, fun y hy => ?_⟩
    have hw := hwz y (List.mem_of_mem_take hy)
    simp only [Lit.wf, Bool.and_eq_true, decide_eq_true_eq] at hw
    exact ⟨hw.1, hw.2⟩
end
end Go.Proofs.Ytiodkmddmgjikaa
namespace Go.Proofs.Ytiodkmddmgjikaa
set_option linter.unusedVariables false
set_option linter.unusedSimpArgs false
open Go.RowKit

/-- Only blocks from lo to hi (hi not among them) may have turned; new ones may have come. -/
structure Touch (w w' : World) (lo hi : Nat) : Prop where
  os : w'.os = w.os
  tape : w'.tape = w.tape
  output : w'.output = w.output
  size : w.heap.size ≤ w'.heap.size
  block : ∀ k, k < w.heap.size → (k < lo ∨ hi ≤ k) → w'.heap[k]? = w.heap[k]?

theorem Touch.refl (w : World) (lo hi : Nat) : Touch w w lo hi := ⟨rfl, rfl, rfl, Nat.le_refl _, fun _ _ _ => rfl⟩
theorem Touch.of_grown {w w' : World} {g lo hi : Nat} (h : w.grownBy w' (some g)) (h1 : lo ≤ g) (h2 : g < hi) : Touch w w' lo hi :=
  ⟨h.os, h.tape, h.output, h.size, fun k hk hd => h.block k hk (by intro e; injection e; omega)⟩
theorem Touch.trans {a b c : World} {lo hi : Nat} (h : Touch a b lo hi) (k : Touch b c lo hi) : Touch a c lo hi :=
  ⟨k.os.trans h.os, k.tape.trans h.tape, k.output.trans h.output, Nat.le_trans h.size k.size, fun i hi hd => (k.block i (Nat.lt_of_lt_of_le hi h.size) hd).trans (h.block i hi hd)⟩
theorem Touch.mono {w w' : World} {lo hi lo' hi' : Nat} (h : Touch w w' lo hi) (h1 : lo' ≤ lo) (h2 : hi ≤ hi') : Touch w w' lo' hi' :=
  ⟨h.os, h.tape, h.output, h.size, fun k hk hd => h.block k hk (by omega)⟩
theorem Below.touch {w w' : World} (h : Below w.heap.size w w') (lo hi : Nat) : Touch w w' lo hi := ⟨h.os, h.tape, h.output, h.size, fun k hk _ => h.block k hk⟩
theorem below_touch {B lo hi : Nat} {w w1 w2 : World} (h : Below B w w1) (ht : Touch w1 w2 lo hi) (hB : B ≤ lo) (hB2 : B ≤ w1.heap.size) : Below B w w2 :=
  h.trans ⟨ht.os, ht.tape, ht.output, ht.size, fun k hk => ht.block k (by omega) (.inl (by omega))⟩

theorem Rd.touch {w w' : World} {lo hi B : Nat} {a : Option Addr} {vs : List Value} (h : Rd w B a vs) (ht : Touch w w' lo hi) (hB : B ≤ lo) (hs : B ≤ w.heap.size) : Rd w' B a vs := by
  rcases h with h | ⟨b, o, ha, hb, hc⟩
  · exact .inl h
  · exact .inr ⟨b, o, ha, hb, fun j hj => by rw [World.cell?_of_block (w := w) (ht.block b (by omega) (.inl (by omega)))]; exact hc j hj⟩
theorem Blk.touch {w w' : World} {lo hi b : Nat} {cs : List Value} {t : TypeId} (h : Blk w b cs t) (ht : Touch w w' lo hi) (hd : b < lo ∨ hi ≤ b) : Blk w' b cs t := (ht.block b h.lt hd).trans h

/-- A slice of integers that lies in a stretch of its own. -/
def OwnI (T : Nat) (w : World) (lo hi : Nat) (a : Option Addr) (c : Nat) (xs : List Int) : Prop :=
  w.ownsRow lo T 1 (.slice a xs.length c) xs.length (ints xs) ∧ ∀ b, a = some b → b.block < hi

section
variable {T lo hi c : Nat} {w w' : World} {a : Option Addr} {xs : List Int}
theorem OwnI.of_own (h : w.ownsRow lo T 1 (.slice a xs.length c) xs.length (ints xs)) : OwnI T w lo w.heap.size a c xs :=
  ⟨h, fun b hb => (h.lt b.block (by simp [Value.ownBlock, hb])).2⟩
theorem OwnI.of_blk {b : Nat} (h : Blk w b (ints xs) T) (hl : xs.length ≤ 1152921504606846976) : OwnI T w b (b + 1) (some ⟨b, 0, none⟩) xs.length xs :=
  ⟨by have := h.owns (Nat.le_refl b) (by rw [ints_length]; unfold maxLen; omega); rwa [ints_length] at this, fun _ hb => by injection hb with hb; subst hb; show b < b + 1; omega⟩
theorem OwnI.rd (h : OwnI T w lo hi a c xs) : Rd w hi a (ints xs) := by
  rcases rd_of_own h.1 (Nat.le_refl _) with h' | ⟨b, o, ha, hb, hc⟩
  · exact .inl h'
  · exact .inr ⟨b, o, ha, h.2 _ ha, hc⟩
theorem OwnI.cap (h : OwnI T w lo hi a c xs) : xs.length ≤ c := by
  obtain ⟨a', c', e, h2, _⟩ := own_shape h.1
  injection e with _ _ e
  omega
theorem OwnI.keep (h : OwnI T w lo hi a c xs) (hb : Below w.heap.size w w') : OwnI T w' lo hi a c xs := ⟨own_below h.1 hb, h.2⟩
theorem OwnI.touch {lo' hi' : Nat} (h : OwnI T w lo hi a c xs) (ht : Touch w w' lo' hi') (hd : hi ≤ lo' ∨ hi' ≤ lo) : OwnI T w' lo hi a c xs := by
  refine ⟨⟨h.1.1, ?_⟩, h.2⟩
  rcases h.1.2 with h2 | ⟨g, cap, cur, hv, hg, hh, r⟩
  · exact .inl h2
  · have h3 : g < hi := by
      injection hv with ha _ _
      exact h.2 _ ha
    refine .inr ⟨g, cap, cur, hv, hg, ?_, r⟩
    rw [ht.block g (lt_of_block hh) (by omega)]
    exact hh
theorem OwnI.mono {lo' hi' : Nat} (h : OwnI T w lo hi a c xs) (h1 : lo' ≤ lo) (h2 : hi ≤ hi') : OwnI T w lo' hi' a c xs :=
  ⟨own_base h.1 h1, fun b hb => Nat.lt_of_lt_of_le (h.2 b hb) h2⟩
end
end Go.Proofs.Ytiodkmddmgjikaa
namespace Go.Proofs.Ytiodkmddmgjikaa
set_option linter.unusedVariables false
set_option linter.unusedSimpArgs false
open Go.RowKit

/-- A source over a slice of bytes, some of which are used. -/
def Src (w : World) (b : Nat) (a : Option Addr) (n c : Nat) (p : Nat) : Prop := ∃ seed : Int, (0 ≤ seed ∧ seed < 18446744073709551616) ∧ Blk w b [.slice a n c, .int .i64 p, .int .u64 seed] 68
theorem Src.same {w w' : World} {b n c p : Nat} {a : Option Addr} (h : Src w b a n c p) (hb : Below w.heap.size w w') : Src w' b a n c p := by
  obtain ⟨s, h1, h2⟩ := h
  exact ⟨s, h1, h2.same hb⟩
theorem l00From_any (w : World) (a : Option Addr) (n c : Nat) :
    Calls Try.prog 25 #[.slice a n c] w fun e w' => e = .returned (.pointer (some ⟨w.heap.size, 0, none⟩)) ∧ Src w' w.heap.size a n c 0 ∧ Below w.heap.size w w' ∧ w'.heap.size = w.heap.size + 1 := by
  have K := Blk.new w [.slice a n c, .int .i64 0, .int .u64 0] 68
  have B := bl1 w (.cells #[.slice a n c, .int .i64 0, .int .u64 0] 68)
  go_enter Try.func25, Try.ntmps25
  go_wp2_with fail
  go_ret
  exact ⟨rfl, ⟨0, by omega, K⟩, B, by simp⟩
theorem u64_eq (x : Int) : IntKind.u64.wrap x = x % 18446744073709551616 := by
  show (if (false && decide (x % 2 ^ 64 ≥ 2 ^ (64 - 1))) = true then x % 2 ^ 64 - 2 ^ 64 else x % 2 ^ 64) = _
  simp
theorem and255 (a : Nat) (ha : a < 18446744073709551616) : bits .and .u64 (a : Int) 255 = ((a % 256 : Nat) : Int) := by
  show IntKind.u64.wrap ((BitVec.ofInt 64 (a : Int) &&& BitVec.ofInt 64 (255 : Int)).toNat : Int) = _
  have h1 : (BitVec.ofInt 64 (255 : Int)).toNat = 255 := by decide
  have h2 : (BitVec.ofInt 64 (a : Int)).toNat = a := by rw [BitVec.ofInt_natCast, BitVec.toNat_ofNat]; exact Nat.mod_eq_of_lt (by omega)
  rw [BitVec.toNat_and, h1, h2, show a &&& 255 = a % 256 from Nat.and_two_pow_sub_one_eq_mod a 8, u64_eq]
  have := Nat.mod_lt a (show 0 < 256 by omega)
  omega
theorem u64_rng (x : Int) : 0 ≤ IntKind.u64.wrap x ∧ IntKind.u64.wrap x < 18446744073709551616 := by
  rw [u64_eq]; omega
theorem byte_end (S : Int) (h0 : 0 ≤ S) (h1 : S < 18446744073709551616) : 0 ≤ wrap64 (bits .and .u64 (S / 1099511627776) 255) ∧ wrap64 (bits .and .u64 (S / 1099511627776) 255) ≤ 255 := by
  obtain ⟨n, hn⟩ : ∃ n : Nat, S / 1099511627776 = n := ⟨(S / 1099511627776).toNat, by omega⟩
  rw [hn, and255 n (by omega)]
  have := Nat.mod_lt n (show 0 < 256 by omega)
  unfold wrap64
  omega
theorem src_end {w : World} {b n c p : Nat} {a : Option Addr} {sd : Int} (K : Blk w b [.slice a n c, .int .i64 p, .int .u64 sd] 68) (m k : Nat) (S : Int) (h0 : 0 ≤ S) (h1 : S < 18446744073709551616) :
    Src ((((w.drewN m).setCell ⟨b, 1, none⟩ (.int .i64 ((p : Int) + 1))).setCell ⟨b, 2, none⟩ (.int .u64 S)).drewN k) b a n c (p + 1) ∧ w.grownBy ((((w.drewN m).setCell ⟨b, 1, none⟩ (.int .i64 ((p : Int) + 1))).setCell ⟨b, 2, none⟩ (.int .u64 S)).drewN k) (some b) := by
  have K2 := (((K.drewN m).set 1 (.int .i64 ((p : Int) + 1))).set 2 (.int .u64 S)).drewN k
  simp only [List.set_cons_zero, List.set_cons_succ] at K2
  refine ⟨⟨S, ⟨h0, h1⟩, by simpa using K2⟩, ?_⟩
  have g1 : w.grownBy (w.drewN m) (some b) := ⟨rfl, rfl, rfl, Nat.le_refl _, fun _ _ _ => rfl⟩
  have st : ∀ (v : World) (j : Nat) (u : Value), v.grownBy (v.setCell ⟨b, j, none⟩ u) (some b) := fun v j u => ⟨rfl, rfl, rfl, by simp, fun i _ hi => Below.heap_setCell _ _ _ _ (fun e => hi (by simp [e]))⟩
  have g2 := grown_of_grown (grown_of_grown g1 (st _ 1 (.int .i64 ((p : Int) + 1)))) (st _ 2 (.int .u64 S))
  exact grown_of_grown g2 ⟨rfl, rfl, rfl, Nat.le_refl _, fun _ _ _ => rfl⟩
set_option maxRecDepth 10000 in
set_option maxHeartbeats 4000000 in
theorem next_any (w : World) (b : Nat) (a : Option Addr) (xs : List Int) (c p : Nat) (h : Src w b a xs.length c p) (hr : Rd w w.heap.size a (byts xs)) (hx : ∀ x ∈ xs, 0 ≤ x ∧ x ≤ 255) (hl : xs.length ≤ 1048576) (hp : p ≤ 1000000) :
    Calls Try.prog 47 #[.pointer (some ⟨b, 0, none⟩)] w fun e w' => ∃ x, e = .returned (.int .i64 x) ∧ (0 ≤ x ∧ x ≤ 255) ∧ Src w' b a xs.length c (p + 1) ∧ w.grownBy w' (some b) := by
  obtain ⟨sd, ⟨sd0, sd1⟩, K⟩ := h
  have c0 := K.cell 0
  have c1 := K.cell 1
  have c2 := K.cell 2
  have f0 := K.free 0
  have f1 := K.free 1
  have f2 := K.free 2
  simp only [List.getElem?_cons_zero, List.getElem?_cons_succ] at c0 c1 c2
  by_cases hlt : p < xs.length
  · obtain ⟨g, o, rfl, hg, hc⟩ := hr.atB hlt
    have ck := hc p hlt
    have hxk := hx (xs.getD p 0) (by simp only [List.getD, List.getElem?_eq_getElem hlt]; exact List.getElem_mem _)
    generalize xs.getD p 0 = y at *
    obtain ⟨y0, y1⟩ := hxk
    clear hr hc hx
    go_enter Try.func47, Try.ntmps47
    go_wp2_with fail
    go_quiet (fail)
    go_wp2_with fail
    go_quiet (fail)
    go_wp2_with fail
    go_quiet (fail)
    go_wp2_with fail
    go_ret
    exact ⟨_, rfl, ⟨y0, y1⟩, src_end K _ _ _ (u64_rng _).1 (u64_rng _).2⟩
  · clear hr hx
    go_enter Try.func47, Try.ntmps47
    go_wp2_with fail
    go_quiet (fail)
    go_wp2_with fail
    go_quiet (fail)
    go_wp2_with fail
    go_ret
    exact ⟨_, rfl, byte_end _ (u64_rng _).1 (u64_rng _).2, src_end K _ _ _ (u64_rng _).1 (u64_rng _).2⟩
set_option maxRecDepth 10000 in
set_option maxHeartbeats 4000000 in
theorem pick_any (w : World) (b : Nat) (a : Option Addr) (xs : List Int) (c p : Nat) (n : Int) (h : Src w b a xs.length c p) (hr : Rd w w.heap.size a (byts xs)) (hx : ∀ x ∈ xs, 0 ≤ x ∧ x ≤ 255) (hl : xs.length ≤ 1048576) (hp : p ≤ 900000) (hn : n ≤ 200) :
    Calls Try.prog 27 #[.pointer (some ⟨b, 0, none⟩), .int .i64 n] w fun e w' => ∃ (x : Int) (p' : Nat), e = .returned (.int .i64 x) ∧ (0 ≤ x ∧ (x < n ∨ x = 0)) ∧ p' ≤ p + 1 ∧ Src w' b a xs.length c p' ∧ w.grownBy w' (some b) := by
  by_cases h1 : n ≤ 1
  · clear hr hx
    go_enter Try.func27, Try.ntmps27
    go_wp2_with fail
    go_ret
    exact ⟨0, p, rfl, ⟨by omega, .inr rfl⟩, by omega, h, World.grownBy.refl _ _⟩
  · have L := Lib.hid (next_any w b a xs c p h hr hx hl (by omega))
    clear h hr hx
    go_enter Try.func27, Try.ntmps27
    go_wp2_with fail
    refine L.out.mono ?_
    rintro e w1 ⟨x, rfl, ⟨x0, x1⟩, hs, hg⟩
    have hm0 := Int.emod_nonneg x (show n ≠ 0 by omega)
    have hm1 := Int.emod_lt_of_pos x (show 0 < n by omega)
    go_wp2_with fail
    go_ret
    exact ⟨x % n, p + 1, rfl, ⟨hm0, .inl hm1⟩, by omega, hs, hg⟩
set_option maxHeartbeats 2000000 in
theorem r8At_any (w : World) (a : Option Addr) (c : Nat) (xs : List Int) (k n : Int) (h : Rd w w.heap.size a (byts xs)) (hl : xs.length ≤ 1048576) (hx : ∀ x ∈ xs, 0 ≤ x ∧ x ≤ 255) (hk : 0 ≤ k) :
    Calls Try.prog 21 #[.slice a xs.length c, .int .i64 k, .int .i64 n] w fun e w' => ∃ x : Int, e = .returned (.int .i64 x) ∧ (0 ≤ x ∧ (x < n ∨ x = 0)) ∧ w = w' := by
  by_cases h1 : n ≤ 1
  · clear h hx
    go_enter Try.func21, Try.ntmps21
    go_wp2_with fail
    go_ret
    exact ⟨0, rfl, ⟨by omega, .inr rfl⟩, rfl⟩
  · by_cases h2 : k < xs.length
    · obtain ⟨j, rfl⟩ : ∃ j : Nat, k = j := ⟨k.toNat, by omega⟩
      have hj : j < xs.length := by omega
      obtain ⟨b, o, rfl, hbb, hc⟩ := h.atB hj
      have hck := hc j hj
      have hxk := hx (xs.getD j 0) (by simp only [List.getD, List.getElem?_eq_getElem hj]; exact List.getElem_mem _)
      generalize xs.getD j 0 = x at *
      obtain ⟨x0, x1⟩ := hxk
      clear h hx hc
      have hm0 := Int.emod_nonneg x (show n ≠ 0 by omega)
      have hm1 := Int.emod_lt_of_pos x (show 0 < n by omega)
      go_enter Try.func21, Try.ntmps21
      go_wp2_with fail
      go_ret
      exact ⟨x % n, rfl, ⟨hm0, .inl hm1⟩, rfl⟩
    · clear h hx
      go_enter Try.func21, Try.ntmps21
      go_wp2_with fail
      go_ret
      exact ⟨0, rfl, ⟨by omega, .inr rfl⟩, rfl⟩
def longR (xs ys : List Int) : Bool := decide (48 < xs.length) || decide (48 < ys.length)
theorem r8Long_any (w : World) (a b : Option Addr) (c d : Nat) (xs ys : List Int) (hl : xs.length ≤ 9223372036854775807) (hm : ys.length ≤ 9223372036854775807) :
    Calls Try.prog 4 #[.slice a xs.length c, .slice b ys.length d] w fun e w' => e = .returned (.bool (longR xs ys)) ∧ w = w' := by
  cases h1 : decide ((48 : Int) < (xs.length : Int)) with
  | true =>
    have HF : Hid (longR xs ys = true) := by
      have := of_decide_eq_true h1
      have h : 48 < xs.length := by omega
      simp [Hid, longR, h]
    go_enter Try.func4, Try.ntmps4
    go_wp2_with fail
    go_ret
    exact ⟨ret_bool HF.out.symm, rfl⟩
  | false =>
    have HF : Hid (longR xs ys = decide ((48 : Int) < (ys.length : Int))) := by
      have := of_decide_eq_false h1
      have h : ¬ 48 < xs.length := by omega
      show _ = _
      unfold longR
      rw [decide_eq_false h, Bool.false_or]
      exact decide_eq_decide.2 (by omega)
    go_enter Try.func4, Try.ntmps4
    go_wp2_with fail
    go_ret
    exact ⟨ret_bool HF.out.symm, rfl⟩
set_option maxHeartbeats 400000 in
theorem r8Same_any (w : World) (a b : Option Addr) (c d : Nat) (xs ys : List Int) (hx : Rd w w.heap.size a (ints xs)) (hy : Rd w w.heap.size b (ints ys)) (hlx : xs.length ≤ 1099511627776) (hly : ys.length ≤ 1099511627776) :
    Calls Try.prog 15 #[.slice a xs.length c, .slice b ys.length d] w fun e w' => ∃ r, e = .returned (.bool r) ∧ (xs = ys → r = true) ∧ ∃ n, w' = w.drewN n := by
  by_cases hxy : xs = ys
  · subst hxy
    have hb1 : ((xs.length : Int) != (xs.length : Int)) = false := by simp
    go_enter Try.func15, Try.ntmps15
    go_wp2
    go_loopw [5] (fun i wr => ∃ k n : Nat, k ≤ xs.length ∧ i = .int .i64 k ∧ wr = w.drewN n) (fun i _ => xs.length - (intOf i).toNat)
    case atStart => exact ⟨0, 0, Nat.zero_le _, rfl, rfl⟩
    case round =>
      obtain ⟨k, n, hk, rfl, rfl⟩ := hrel
      by_cases hlt : k < xs.length
      · obtain ⟨b1, o1, x, rfl, _, hcx, hx'⟩ := hx.get hlt
        obtain ⟨b2, o2, y, rfl, _, hcy, hy'⟩ := hy.get (k := k) (by omega)
        have e : x = y := by
          have h1 := hx'.out
          rw [hy'.out] at h1
          injection h1 with h1
          exact h1.symm
        subst e
        have hne : (x != x) = false := by simp
        clear hx hy
        go_wp2
        go_quiet (fail)
        go_wp2
        go_roundw
        case rel => exact ⟨k + 1, n + nq, by omega, by go_num, by first | rfl | exact World.drewN_drewN _ _ _⟩
        case measure => simp [intOf]; omega
      · have : k = xs.length := by omega
        subst this
        go_wp2
        go_ret
        exact ⟨true, rfl, fun _ => rfl, _, rfl⟩
  · have HN := Lib.hid hxy
    by_cases hlen : xs.length = ys.length
    · have hb1 : ((xs.length : Int) != (ys.length : Int)) = false := by simp [hlen]
      have HL := Lib.hid hlen
      clear hlen hxy
      go_enter Try.func15, Try.ntmps15
      go_wp2
      go_loopw [5] (fun i wr => ∃ k n : Nat, k ≤ xs.length ∧ i = .int .i64 k ∧ wr = w.drewN n) (fun i _ => xs.length - (intOf i).toNat)
      case atStart => exact ⟨0, 0, Nat.zero_le _, rfl, rfl⟩
      case round =>
        obtain ⟨k, n, hk, rfl, rfl⟩ := hrel
        by_cases hlt : k < xs.length
        · have hlt2 : k < ys.length := by have := HL.out; omega
          obtain ⟨b1, o1, x, rfl, _, hcx, hx'⟩ := hx.get hlt
          obtain ⟨b2, o2, y, rfl, _, hcy, hy'⟩ := hy.get (k := k) hlt2
          clear hx hy hx' hy'
          cases t : (x != y) with
          | false =>
            go_wp2
            go_quiet (fail)
            go_wp2
            go_roundw
            case rel => exact ⟨k + 1, n + nq, by omega, by go_num, by first | rfl | exact World.drewN_drewN _ _ _⟩
            case measure => simp [intOf]; omega
          | true =>
            go_wp2
            go_quiet (fail)
            go_wp2
            go_ret
            exact ⟨false, rfl, fun h => absurd h HN.out, _, by first | rfl | exact World.drewN_drewN _ _ _⟩
        · have : k = xs.length := by omega
          subst this
          go_wp2
          go_ret
          exact ⟨true, rfl, fun _ => rfl, _, rfl⟩
    · have hb1 : ((xs.length : Int) != (ys.length : Int)) = true := by simp; omega
      clear hlen hxy
      go_enter Try.func15, Try.ntmps15
      go_wp2
      go_ret
      exact ⟨false, rfl, fun h => absurd h HN.out, 0, rfl⟩
theorem r8Sum_any (w : World) (a : Option Addr) (c : Nat) (xs : List Int) (h : Rd w w.heap.size a (ints xs)) (hl : xs.length ≤ 1048576) (hb : ∀ x ∈ xs, -100000000 ≤ x ∧ x ≤ 100000000) :
    Calls Try.prog 14 #[.slice a xs.length c] w fun e w' => e = .returned (.int .i64 xs.sum) ∧ w = w' := by
  have Hb : Hid (∀ k, k ≤ xs.length → -(100000000 * (k : Int)) ≤ (xs.take k).sum ∧ (xs.take k).sum ≤ 100000000 * (k : Int)) := by
    intro k
    induction k with
    | zero => intro _; simp
    | succ k ih =>
      intro hk
      have h1 := ih (by omega)
      have hg : k < xs.length := by omega
      have h2 := hb xs[k] (List.getElem_mem hg)
      rw [List.take_succ_eq_append_getElem hg, List.sum_append]
      simp only [List.sum_cons, List.sum_nil]
      omega
  have HS : Hid (∀ (k : Nat) (x : Int), xs[k]? = some x → (xs.take (k + 1)).sum = (xs.take k).sum + x) := fun k x hx => by
    rw [List.take_add_one, hx, List.sum_append]; simp
  have HF : Hid (xs.sum = (xs.take xs.length).sum) := by rw [Hid, List.take_length]
  have hz : (xs.take 0).sum = 0 := by simp
  clear hb
  go_enter Try.func14, Try.ntmps14
  go_wp2
  go_loop [3, 4] (fun s i => ∃ k : Nat, k ≤ xs.length ∧ i = .int .i64 k ∧ s = .int .i64 (xs.take k).sum) (fun _ i => xs.length - (intOf i).toNat)
  case atStart => exact ⟨0, Nat.zero_le _, rfl, by rw [hz]⟩
  case round =>
    clear hz
    obtain ⟨k, hk, rfl, rfl⟩ := hrel
    by_cases hlt : k < xs.length
    · obtain ⟨b, o, x, rfl, hbb, hck, hx⟩ := h.get hlt
      clear h
      obtain ⟨b0, b1⟩ := Hb.out k hk
      obtain ⟨d0, d1⟩ := Hb.out (k + 1) (by omega)
      have hs := HS.out k x hx.out
      rw [hs] at d0 d1
      have HSk := Lib.hid hs
      clear hs
      generalize (xs.take k).sum = s at *
      go_wp2
      go_round
      case rel => exact ⟨k + 1, by omega, by go_num, by rw [HSk.out]⟩
      case measure => simp [intOf]; omega
    · have : k = xs.length := by omega
      subst this
      go_wp2
      go_ret
      exact ⟨ret_int (by first | rfl | exact HF.out.symm), rfl⟩
end Go.Proofs.Ytiodkmddmgjikaa
namespace Go.Proofs.Ytiodkmddmgjikaa
set_option linter.unusedVariables false
set_option linter.unusedSimpArgs false
open Go.RowKit

theorem touch_grown {w w' : World} {g : Nat} (h : Touch w w' g (g + 1)) : w.grownBy w' (some g) :=
  ⟨h.os, h.tape, h.output, h.size, fun q hq hne => h.block q hq (by have : q ≠ g := fun e => hne (by rw [e]); omega)⟩
theorem touch_below {w w1 w2 : World} {lo hi : Nat} (h : Touch w w1 lo hi) (hb : Below w.heap.size w1 w2) : Touch w w2 lo hi :=
  ⟨hb.os.trans h.os, hb.tape.trans h.tape, hb.output.trans h.output, Nat.le_trans h.size hb.size, fun k hk hd => (hb.block k hk).trans (h.block k hk hd)⟩
end Go.Proofs.Ytiodkmddmgjikaa
namespace Go.Proofs.Ytiodkmddmgjikaa
set_option linter.unusedVariables false
set_option linter.unusedSimpArgs false
open Go.RowKit

/-- A source over bytes that lie below it. -/
structure DS (w : World) (B0 b : Nat) (a : Option Addr) (xs : List Int) (c p : Nat) : Prop where
  S : Src w b a xs.length c p
  R : Rd w B0 a (byts xs)
  lb : B0 ≤ b
  hx : ∀ x ∈ xs, 0 ≤ x ∧ x ≤ 255
  hl : xs.length ≤ 1048576
section
variable {w w' : World} {B0 b c p : Nat} {a : Option Addr} {xs : List Int}
theorem DS.lt (h : DS w B0 b a xs c p) : b < w.heap.size := by obtain ⟨s, _, k⟩ := h.S; exact k.lt
theorem DS.same (h : DS w B0 b a xs c p) (hb : Below w.heap.size w w') : DS w' B0 b a xs c p :=
  ⟨h.S.same hb, h.R.below hb (by have := h.lt; have := h.lb; omega), h.lb, h.hx, h.hl⟩
theorem DS.touch {lo hi : Nat} (h : DS w B0 b a xs c p) (ht : Touch w w' lo hi) (hlo : b < lo) : DS w' B0 b a xs c p := by
  have := h.lt
  have := h.lb
  obtain ⟨s, h1, h2⟩ := h.S
  exact ⟨⟨s, h1, h2.touch ht (.inl hlo)⟩, h.R.touch ht (by omega) (by omega), h.lb, h.hx, h.hl⟩
theorem touch_of_below' {B : Nat} (h : Below B w w') : Touch w w' B w.heap.size := ⟨h.os, h.tape, h.output, h.size, fun k hk hd => h.block k (by omega)⟩
theorem touch_of_grown' {g : Nat} (h : w.grownBy w' (some g)) : Touch w w' g (g + 1) := Touch.of_grown h (Nat.le_refl _) (Nat.lt_succ_self _)
end
theorem pick_ds (w : World) (B0 b : Nat) (a : Option Addr) (xs : List Int) (c p : Nat) (n : Int) (h : DS w B0 b a xs c p) (hp : p ≤ 900000) (hn : n ≤ 200) :
    Calls Try.prog 27 #[.pointer (some ⟨b, 0, none⟩), .int .i64 n] w fun e w' => ∃ (x : Int) (p' : Nat), e = .returned (.int .i64 x) ∧ (0 ≤ x ∧ (x < n ∨ x = 0)) ∧ p' ≤ p + 1 ∧ DS w' B0 b a xs c p' ∧ Touch w w' b (b + 1) := by
  have hlt := h.lt
  refine (pick_any w b a xs c p n h.S (h.R.mono (by have := h.lb; omega)) h.hx h.hl hp hn).mono ?_
  rintro e w' ⟨x, p', rfl, hx, hp', hs, hg⟩
  exact ⟨x, p', rfl, hx, hp', ⟨hs, h.R.grown hg h.lb (by have := h.lb; omega), h.lb, h.hx, h.hl⟩, touch_of_grown' hg⟩
end Go.Proofs.Ytiodkmddmgjikaa
namespace Go.Proofs.Ytiodkmddmgjikaa
set_option linter.unusedVariables false
set_option linter.unusedSimpArgs false
open Go.RowKit

/-- n is from lo to hi. -/
def inB (n lo hi : Int) : Bool := decide (lo ≤ n) && decide (n ≤ hi)
theorem inB_iff {n lo hi : Int} : inB n lo hi = true ↔ lo ≤ n ∧ n ≤ hi := by simp [inB]
theorem inB_no {n lo hi : Int} : inB n lo hi = false ↔ ¬ (lo ≤ n ∧ n ≤ hi) := by rw [← inB_iff]; simp
def allIn (xs : List Int) (lo hi : Int) : Bool := xs.all fun x => inB x lo hi
theorem allIn_iff {xs : List Int} {lo hi : Int} : allIn xs lo hi = true ↔ ∀ x ∈ xs, lo ≤ x ∧ x ≤ hi := by simp [allIn, inB_iff]
def manyB (xs : List Int) (few many lo hi : Int) : Bool := inB xs.length few many && allIn xs lo hi
theorem manyB_iff {xs : List Int} {few many lo hi : Int} : manyB xs few many lo hi = true ↔ (few ≤ xs.length ∧ (xs.length : Int) ≤ many) ∧ ∀ x ∈ xs, lo ≤ x ∧ x ≤ hi := by
  simp [manyB, inB_iff, allIn_iff]
/-- The sum as Go reckons it. -/
def wsum (xs : List Int) : Int := xs.foldl (fun s x => wrap64 (s + x)) 0
theorem wsum_snoc (xs : List Int) (x : Int) : wsum (xs ++ [x]) = wrap64 (wsum xs + x) := by simp [wsum]
theorem wsum_from (m : Int) (hm : 0 ≤ m) : ∀ (xs : List Int) (s : Int), (∀ x ∈ xs, -m ≤ x ∧ x ≤ m) → -9223372036854775807 ≤ s - m * xs.length → s + m * xs.length ≤ 9223372036854775807 →
    xs.foldl (fun s x => wrap64 (s + x)) s = s + xs.sum ∧ -(m * xs.length) ≤ xs.sum ∧ xs.sum ≤ m * xs.length
  | [], s, _, _, _ => by simp
  | x :: xs, s, h, h1, h2 => by
    have hx := h x (by simp)
    have e : m * ((x :: xs).length : Int) = m * xs.length + m := by simp [Int.mul_add]
    rw [e] at h1 h2 ⊢
    have hp : 0 ≤ m * (xs.length : Int) := Int.mul_nonneg hm (by omega)
    obtain ⟨i1, i2, i3⟩ := wsum_from m hm xs (s + x) (fun y hy => h y (by simp [hy])) (by omega) (by omega)
    rw [List.foldl_cons, IntWalk.wrap64_in (s + x) (by omega), i1, List.sum_cons]
    exact ⟨by omega, by omega, by omega⟩
theorem wsum_eq (xs : List Int) (m : Int) (hm : 0 ≤ m) (h : ∀ x ∈ xs, -m ≤ x ∧ x ≤ m) (hl : m * xs.length ≤ 9223372036854775807) : wsum xs = xs.sum ∧ -(m * xs.length) ≤ xs.sum ∧ xs.sum ≤ m * xs.length := by
  have := wsum_from m hm xs 0 h (by omega) (by omega)
  rw [Int.zero_add] at this
  exact this

theorem allIn_snoc {xs : List Int} {k : Nat} {x lo hi : Int} (hx : xs[k]? = some x) : allIn (xs.take (k + 1)) lo hi = (allIn (xs.take k) lo hi && inB x lo hi) := by
  rw [List.take_add_one, hx]; simp [allIn]
theorem allIn_false {xs : List Int} {k : Nat} {x lo hi : Int} (hx : xs[k]? = some x) (h : inB x lo hi = false) : allIn xs lo hi = false := by
  rw [← Bool.not_eq_true]
  intro ha
  have := List.all_eq_true.1 ha x (List.mem_of_getElem? hx)
  rw [h] at this; cases this
theorem wsum_take {xs : List Int} {k : Nat} {x : Int} (hx : xs[k]? = some x) : wsum (xs.take (k + 1)) = wrap64 (wsum (xs.take k) + x) := by
  rw [List.take_add_one, hx]; exact wsum_snoc _ _

theorem info_i64p : (Try.prog.info? 2).map (fun i => (i.zero, i.size, i.bytes)) = some (some (.int .i64 0), 1, 8) := by kernel_rfl
theorem within_any (n lo hi : Int) (w : World) :
    Calls Try.prog 35 #[.int .i64 n, .int .i64 lo, .int .i64 hi] w fun e w' => e = .returned (.bool (inB n lo hi)) ∧ w = w' := by
  by_cases h : lo ≤ n
  · have H : Hid (inB n lo hi = decide (n ≤ hi)) := by simp [Hid, inB, h]
    go_enter Try.func35, Try.ntmps35
    go_wp2
    go_ret
    exact ⟨ret_bool H.out.symm, rfl⟩
  · have H : Hid (inB n lo hi = false) := by simp [Hid, inB, h]
    go_enter Try.func35, Try.ntmps35
    go_wp2
    go_ret
    exact ⟨ret_bool H.out.symm, rfl⟩
theorem areWithin_any (w : World) (a : Option Addr) (c : Nat) (xs : List Int) (lo hi : Int) (h : Rd w w.heap.size a (ints xs)) (hl : xs.length ≤ 1152921504606846976) :
    Calls Try.prog 50 #[.slice a xs.length c, .int .i64 lo, .int .i64 hi] w fun e w' => e = .returned (.bool (allIn xs lo hi)) ∧ w = w' := by
  go_enter Try.func50, Try.ntmps50
  go_wp2
  go_loop [11] (fun i => ∃ k : Nat, k ≤ xs.length ∧ i = .int .i64 k ∧ allIn (xs.take k) lo hi = true) (fun i => xs.length - (intOf i).toNat)
  case atStart => exact ⟨0, Nat.zero_le _, rfl, rfl⟩
  case round =>
    obtain ⟨k, hk, rfl, ha'⟩ := hrel
    have ha := Lib.hid ha'
    clear ha'
    by_cases hlt : k < xs.length
    · obtain ⟨b, o, x, rfl, hbb, hck, hx⟩ := h.get hlt
      clear h
      cases hin : inB x lo hi with
      | true =>
        go_wp2_with (go_at_call 35; refine (within_any _ _ _ _).mono ?_; rintro e w' ⟨rfl, rfl⟩)
        go_round
        case rel => exact ⟨k + 1, by omega, by go_num, by rw [allIn_snoc hx.out, ha.out, hin]; rfl⟩
        case measure => simp [intOf]; omega
      | false =>
        go_wp2_with (go_at_call 35; refine (within_any _ _ _ _).mono ?_; rintro e w' ⟨rfl, rfl⟩)
        go_ret
        exact ⟨ret_bool (allIn_false hx.out hin).symm, rfl⟩
    · have : k = xs.length := by omega
      subst this
      go_wp2
      go_ret
      exact ⟨ret_bool (by rw [← ha.out, List.take_length]), rfl⟩
theorem areMany_any (w : World) (a : Option Addr) (c : Nat) (xs : List Int) (few many lo hi : Int) (h : Rd w w.heap.size a (ints xs)) (hl : xs.length ≤ 1152921504606846976) :
    Calls Try.prog 36 #[.slice a xs.length c, .int .i64 few, .int .i64 many, .int .i64 lo, .int .i64 hi] w fun e w' => e = .returned (.bool (manyB xs few many lo hi)) ∧ w = w' := by
  cases hin : inB xs.length few many with
  | true =>
    have H : Hid (manyB xs few many lo hi = allIn xs lo hi) := by simp [Hid, manyB, hin]
    go_enter Try.func36, Try.ntmps36
    go_wp2_with (first | (go_at_call 35; refine (within_any _ _ _ _).mono ?_; rintro e w' ⟨rfl, rfl⟩) | (go_at_call 50; refine (areWithin_any _ _ _ xs _ _ h hl).mono ?_; rintro e w' ⟨rfl, rfl⟩))
    go_ret
    exact ⟨ret_bool H.out.symm, rfl⟩
  | false =>
    have H : Hid (manyB xs few many lo hi = false) := by simp [Hid, manyB, hin]
    go_enter Try.func36, Try.ntmps36
    go_wp2_with (go_at_call 35; refine (within_any _ _ _ _).mono ?_; rintro e w' ⟨rfl, rfl⟩)
    go_ret
    exact ⟨ret_bool H.out.symm, rfl⟩
theorem sumOf_any (w : World) (a : Option Addr) (c : Nat) (xs : List Int) (h : Rd w w.heap.size a (ints xs)) (hl : xs.length ≤ 1152921504606846976) :
    Calls Try.prog 49 #[.slice a xs.length c] w fun e w' => e = .returned (.int .i64 (wsum xs)) ∧ w = w' := by
  go_enter Try.func49, Try.ntmps49
  go_wp2
  go_loop [3, 8] (fun s i => ∃ k : Nat, k ≤ xs.length ∧ i = .int .i64 k ∧ s = .int .i64 (wsum (xs.take k))) (fun _ i => xs.length - (intOf i).toNat)
  case atStart => exact ⟨0, Nat.zero_le _, rfl, rfl⟩
  case round =>
    obtain ⟨k, hk, rfl, rfl⟩ := hrel
    by_cases hlt : k < xs.length
    · obtain ⟨b, o, x, rfl, hbb, hck, hx⟩ := h.get hlt
      clear h
      go_wp2
      go_round
      case rel => exact ⟨k + 1, by omega, by go_num, by rw [wsum_take hx.out]⟩
      case measure => simp [intOf]; omega
    · have : k = xs.length := by omega
      subst this
      go_wp2
      go_ret
      exact ⟨ret_int (by first | rfl | rw [List.take_length]), rfl⟩
end Go.Proofs.Ytiodkmddmgjikaa
namespace Go.Proofs.Ytiodkmddmgjikaa
set_option linter.unusedVariables false
set_option linter.unusedSimpArgs false
open Go.RowKit

theorem append_manyC {P : Program} (wr : World) {ops : Array Oper} {rest : List Oper} {o : Oper} {a : Act} {Q : Exit → Act → World → Prop}
    (hg : o.guard = none) (s x : Operand) (t : TypeId) (hop : o.op = Op.call { callee := Callee.builtin Builtin.append, args := #[s, x], argTypes := #[t, t] })
    (base : Nat) (e : TypeId) (z : Value) (bytes : Nat) (h1 : P.underlying t = some (.slice e)) (hinfo : (P.info? e).map (fun i => (i.zero, i.size, i.bytes)) = some (some z, 1, bytes)) (hz : z.cells.size = 1)
    (v : Value) (n : Nat) (xs : List Int) (hs : a.eval s = v) (hown : wr.ownsRow base e 1 v n (ints xs)) (b off m c : Nat) (ys : List Int) (hx : a.eval x = .slice (some ⟨b, off, none⟩) m c) (hm : ys.length = m)
    (hcell : ∀ j, j < m → wr.cell? ⟨b, off + j, none⟩ = some (.int .i64 (ys.getD j 0))) (hb : bytes ≤ 64) (hn : n + m ≤ 1099511627776) (hbase : base ≤ wr.heap.size)
    (hK : ∀ v' w', w'.ownsRow base e 1 v' (n + m) (ints (xs ++ ys)) → wr.grownBy w' v.ownBlock → wpList P ops Q rest (a.put o.dst v') w') :
    wpList P ops Q (o :: rest) a wr := by
  obtain ⟨i, h2, h3, h4, h5⟩ := info_parts hinfo
  have hbb : (n + m) * bytes ≤ 140737488355328 := Nat.le_trans (Nat.mul_le_mul_left (n + m) hb) (by omega)
  refine wpList_append_own wr hg s x t hop base e i z 1 bytes h1 h2 h3 h4 h5 hz (by omega) v n (ints xs) hs hown ⟨b, off, none⟩ m c (ints ys) hx (by simp; omega) ?_ ?_ (by unfold maxLen; omega) hbb hbase (fun v' w' ho hgr _ => hK v' w' (by rw [ints_append]; exact ho) hgr)
  · intro j u hj
    have hj' : j < m := by have := (List.getElem?_eq_some_iff.1 hj).1; simp at this; omega
    have ea : (⟨b, off, none⟩ : Addr).add j = ⟨b, off + j, none⟩ := by unfold Addr.add; split <;> simp_all
    rw [ea, hcell j hj', ← hj, ints_get _ _ (by omega)]
  · intro u hu
    obtain ⟨x, _, rfl⟩ := List.mem_map.1 hu
    rfl
theorem own_emptyC (w : World) (e : Nat) : (w.alloc (.cells #[] e)).ownsRow w.heap.size e 1 (.slice (some ⟨w.heap.size, 0, none⟩) 0 0) 0 (ints []) := own_empty w e
set_option maxRecDepth 10000 in
set_option maxHeartbeats 2000000 in
theorem clone_any (w : World) (a : Option Addr) (c : Nat) (xs : List Int) (h : Rd w w.heap.size a (ints xs)) (hl1 : 1 ≤ xs.length) (hl : xs.length ≤ 1048576) :
    Calls Try.prog 33 #[.slice a xs.length c] w fun e w' => ∃ a' c', e = .returned (.slice a' xs.length c') ∧ OwnI 2 w' w.heap.size w'.heap.size a' c' xs ∧ Below w.heap.size w w' := by
  obtain ⟨b, o, rfl, hb, hcell⟩ := h.at (k := 0) (by omega)
  clear h
  have hen := fun (w : World) (a : Option Addr) (n c : Nat) => Lib.run_eql_slice_nil (P := Try.prog) w 24 2 a n c 0 0 Try.underlying24
  go_enter Try.func33, Try.ntmps33
  go_wp2_with (at_builtin; refine append_manyC _ rfl _ _ 24 rfl w.heap.size 2 (.int .i64 0) 8 Try.underlying24 info_i64p rfl _ 0 [] rfl (own_emptyC w 2) b o xs.length c xs rfl rfl ?_ (by omega) (by omega) (by simp) ?_)
  · intro j hj
    rw [(bl1 w _).cell (p := ⟨b, o + j, none⟩) hb, hcell j hj]
  intro v1 w1 o1 g1
  have B1 := below_append (bl1 w (.cells #[] 2)) (own_emptyC w 2) g1 (Nat.le_refl _) (by simp)
  obtain ⟨a1, c1, rfl, _, _⟩ := own_shape o1
  have HR : Hid (OwnI 2 w1 w.heap.size w1.heap.size a1 c1 xs) := OwnI.of_own (by simpa using o1)
  clear o1 g1 hcell
  go_wp2_with fail
  go_ret
  exact ⟨_, _, by simp, HR.out, B1⟩
end Go.Proofs.Ytiodkmddmgjikaa
namespace Go.Proofs.Ytiodkmddmgjikaa
set_option linter.unusedVariables false
set_option linter.unusedSimpArgs false
open Go.RowKit

theorem info_i64 : (Try.prog.info? 2).map (fun i => (i.zero, i.size, i.bytes)) = some (some (.int .i64 0), 1, 8) := by kernel_rfl

def szF (left : Int) (n : Nat) : Int := if left < n then -1 else left - n

/-- What the marks are: k, k + 1, and so on. -/
def marks (n : Nat) (k : Int) : List Int := (List.range n).map fun (i : Nat) => k + (i : Int)
@[simp] theorem marks_length (n : Nat) (k : Int) : (marks n k).length = n := by simp [marks]
theorem marks_get (n : Nat) (k : Int) (i : Nat) (h : i < n) : (marks n k)[i]? = some (k + i) := by simp [marks, h]

theorem mark_step (xs : List Int) (rest : List Value) (k : Int) (j : Nat) (h : j < xs.length) :
    (ints ((marks j k) ++ xs.drop j) ++ rest).set j (.int .i64 (k + j)) = ints (marks (j + 1) k ++ xs.drop (j + 1)) ++ rest := by
  rw [List.set_append_left _ _ (by simp; omega), ← ints_set, List.set_append_right _ _ (by simp), marks_length, Nat.sub_self, List.drop_eq_getElem_cons h, List.set_cons_zero]
  simp [marks, List.range_succ]

/-- A call that answers with a new list or with a no, in terms of stretches. -/
theorem flat_of {f : Nat} {args : Array Value} {w : World} {T : Nat} {r : Option (List Int)} (h : Calls Try.prog f args w (RetI T w r)) :
    Calls Try.prog f args w fun e w' => ∃ a c, e = .returned (.tuple #[.slice a (r.getD []).length c, .bool r.isSome]) ∧ OwnI T w' w.heap.size w'.heap.size a c (r.getD []) ∧ Below w.heap.size w w' :=
  h.mono fun e w' hR => let ⟨hb, a, c, he, ho⟩ := hR.flat; ⟨a, c, he, OwnI.of_own ho, hb⟩
end Go.Proofs.Ytiodkmddmgjikaa
namespace Go.Proofs.Ytiodkmddmgjikaa
set_option linter.unusedVariables false
set_option linter.unusedSimpArgs false
open Go.RowKit Go.ChangeShapes Go.WideShapes

section
variable {H : Type} {enc : TypeId × Value → H} {P : Program} {w : World} {base : Nat} {spare : Nat → Bool} {held : Bool}
theorem open_agg_fields {ts : TypeId} {fs : Array Field} {fuel : Nat} {cs : List Value} {x : DataW H × List MemPlace} (hs : P.underlying ts = some (.struct fs))
    (hone : ∀ (i : Nat) (f : Field), fs[i]? = some f → f.offset = i ∧ P.cellsOf f.type = 1) (hC : P.cellsOf ts = fs.size) (h : DataW.trod enc P w base spare held fuel ts cs = some x) :
    cs.length = fs.size ∧ ∃ (n : Nat) (Y : Nat → DataW H × List MemPlace), ∀ (i : Nat) (f : Field), fs[i]? = some f → DataW.trod enc P w base spare held n f.type [cs.getD i undef] = some (Y i) := by
  obtain ⟨xs, n, _, rfl, hl, hxl, hf⟩ := DataW.trod_struct hs h
  refine ⟨by omega, n, fun i => xs.getD i (.nil, []), fun i f hi => ?_⟩
  have hlt : i < fs.size := (Array.getElem?_eq_some_iff.1 hi).1
  obtain ⟨ho, hc1⟩ := hone i f hi
  have g := hf i f hi
  rw [ho, hc1] at g
  rw [Go.Deep.take1_drop cs i undef (by omega), List.getElem?_eq_getElem (by omega)] at g
  rw [g]
  simp [List.getD, List.getElem?_eq_getElem (show i < xs.length by omega)]
theorem ints_field {t e : TypeId} {fuel : Nat} {v : Value} {x : DataW H × List MemPlace} (ht : P.underlying t = some (.slice e)) (he : P.underlying e = some (.int .i64)) (hc : P.cellsOf e = 1) (h : DataW.trod enc P w 0 (fun _ => true) held fuel t [v] = some x) :
    ∃ (a : Option Addr) (c : Nat) (xs : List Int), v = .slice a xs.length c ∧ Rd w w.heap.size a (ints xs) ∧ xs.length ≤ 9223372036854775807 := by
  rcases open_ints ht he hc h with ⟨hcs, _⟩ | ⟨x, l, c, zs, hcs, _, hl, hm, hz, _, hcell, hwz⟩
  · simp at hcs
    subst hcs
    exact ⟨none, 0, [], rfl, Rd.nil _ _ _, by simp⟩
  · simp at hcs
    subst hcs
    have := rd_of_row (.inr ⟨_, rfl, hl, hm, by simpa using hz, hcell, hwz⟩)
    exact ⟨_, _, _, by rw [this.2], this.1, by rw [this.2]; unfold maxLen at hm; omega⟩
theorem int_field {t : TypeId} {fuel : Nat} {v : Value} {x : DataW H × List MemPlace} (ht : P.underlying t = some (.int .i64)) (h : DataW.trod enc P w base spare held fuel t [v] = some x) :
    ∃ n : Int, v = .int .i64 n ∧ -9223372036854775808 ≤ n ∧ n ≤ 9223372036854775807 := by
  obtain ⟨n, hn, _, hw⟩ := DataW.trod_int ht h
  simp at hn
  simp only [Lit.wf, Bool.and_eq_true, decide_eq_true_eq] at hw
  exact ⟨n, hn, hw.1, hw.2⟩
end
end Go.Proofs.Ytiodkmddmgjikaa
namespace Go.Proofs.Ytiodkmddmgjikaa
set_option linter.unusedVariables false
set_option linter.unusedSimpArgs false
open Go.RowKit

def RdCrowd (w : World) (B : Nat) (a2 : Option Addr) (x2 : List Int) (a3 : Option Addr) (x3 : List Int) : Prop := Rd w B a2 (ints x2) ∧ Rd w B a3 (ints x3)
def OwnCrowd (w : World) (lo hi : Nat) (a2 : Option Addr) (c2 : Nat) (x2 : List Int) (a3 : Option Addr) (c3 : Nat) (x3 : List Int) : Prop :=
  ∃ m3 : Nat, (lo ≤ m3 ∧ m3 ≤ hi) ∧ OwnI 2 w lo m3 a2 c2 x2 ∧ OwnI 2 w m3 hi a3 c3 x3
section
variable {w w' : World} {B C lo hi : Nat} {a2 : Option Addr} {x2 : List Int} {a3 : Option Addr} {x3 : List Int} {c2 : Nat} {c3 : Nat}
theorem RdCrowd.below (h : RdCrowd w B a2 x2 a3 x3) (hb : Below C w w') (hB : B ≤ C) : RdCrowd w' B a2 x2 a3 x3 := ⟨Rd.below (h.1) hb hB, Rd.below (h.2) hb hB⟩
theorem RdCrowd.mono (h : RdCrowd w B a2 x2 a3 x3) (hB : B ≤ C) : RdCrowd w C a2 x2 a3 x3 := ⟨Rd.mono (h.1) hB, Rd.mono (h.2) hB⟩
theorem RdCrowd.to (h : RdCrowd w w.heap.size a2 x2 a3 x3) (hb : Below w.heap.size w w') : RdCrowd w' w'.heap.size a2 x2 a3 x3 := (h.below hb (Nat.le_refl _)).mono hb.size
theorem RdCrowd.touch (h : RdCrowd w B a2 x2 a3 x3) (ht : Touch w w' lo hi) (hB : B ≤ lo) (hs : B ≤ w.heap.size) : RdCrowd w' B a2 x2 a3 x3 := ⟨Rd.touch (h.1) ht hB hs, Rd.touch (h.2) ht hB hs⟩
theorem OwnCrowd.rd (h : OwnCrowd w lo hi a2 c2 x2 a3 c3 x3) : RdCrowd w hi a2 x2 a3 x3 := by
  obtain ⟨m3, hm, o2, o3⟩ := h
  exact ⟨o2.rd.mono (by omega), o3.rd.mono (by omega)⟩
theorem OwnCrowd.keep (h : OwnCrowd w lo hi a2 c2 x2 a3 c3 x3) (hb : Below w.heap.size w w') : OwnCrowd w' lo hi a2 c2 x2 a3 c3 x3 := by
  obtain ⟨m3, hm, o2, o3⟩ := h
  exact ⟨m3, hm, o2.keep hb, o3.keep hb⟩
theorem OwnCrowd.touch {lo' hi' : Nat} (h : OwnCrowd w lo hi a2 c2 x2 a3 c3 x3) (ht : Touch w w' lo' hi') (hd : hi ≤ lo' ∨ hi' ≤ lo) : OwnCrowd w' lo hi a2 c2 x2 a3 c3 x3 := by
  obtain ⟨m3, hm, o2, o3⟩ := h
  exact ⟨m3, hm, o2.touch ht (by omega), o3.touch ht (by omega)⟩
theorem OwnCrowd.le (h : OwnCrowd w lo hi a2 c2 x2 a3 c3 x3) : lo ≤ hi := by
  obtain ⟨m3, hm, o2, o3⟩ := h
  omega
end
end Go.Proofs.Ytiodkmddmgjikaa
namespace Go.Proofs.Ytiodkmddmgjikaa
set_option linter.unusedVariables false
set_option linter.unusedSimpArgs false
open Go.RowKit

theorem touch_setC (w : World) (g j : Nat) (u : Value) : Touch w (w.setCell ⟨g, j, none⟩ u) g (g + 1) :=
  Touch.of_grown (show w.grownBy (w.setCell ⟨g, j, none⟩ u) (some g) from ⟨rfl, rfl, rfl, by simp, fun i _ hi => Below.heap_setCell _ _ _ _ (fun e => hi (by simp [e]))⟩) (Nat.le_refl _) (Nat.lt_succ_self _)
theorem touch_hiC {w w1 w2 : World} {b lo hi : Nat} (h : Touch w w1 b (b + 1)) (ht : Touch w1 w2 lo hi) (hlo : w.heap.size ≤ lo) : Touch w w2 b (b + 1) :=
  ⟨ht.os.trans h.os, ht.tape.trans h.tape, ht.output.trans h.output, Nat.le_trans h.size ht.size, fun k hk hd => (ht.block k (by have := h.size; omega) (by omega)).trans (h.block k hk hd)⟩
theorem own_none2 {w : World} {base e n c : Nat} {l : List Value} {a : Option Addr} (h : w.ownsRow base e 1 (.slice a n c) n l) (hn : 1 ≤ n) : ∃ g, a = some ⟨g, 0, none⟩ ∧ base ≤ g ∧ g < w.heap.size := by
  obtain ⟨hl, h | ⟨g', cap, cur, hv, hb, hh, _⟩⟩ := h
  · omega
  · injection hv with ha _ _
    exact ⟨g', ha, hb, lt_of_block hh⟩
/-- The result's cell, the crowd that is made, the source: while ways are drawn. -/
structure DC1 (w wX : World) (B0 b : Nat) (a : Option Addr) (xs : List Int) (c p g u n : Nat) (aW : Option Addr) (cW : Nat) (lW : List Int) : Prop where
  T : Touch w wX b (b + 1)
  D : DS wX B0 b a xs c p
  R : Blk wX w.heap.size [.int .i64 0, .int .i64 0, .slice none 0 0, .slice none 0 0] 26
  V : Blk wX g [.int .i64 u, .int .i64 n, .slice aW lW.length cW, .slice none 0 0] 26
  W : wX.ownsRow (g + 1) 2 1 (.slice aW lW.length cW) lW.length (ints lW)
/-- While costs are drawn. -/
structure DC2 (w wX : World) (B0 b : Nat) (a : Option Addr) (xs : List Int) (c p g tC u n : Nat) (aW : Option Addr) (cW : Nat) (lW : List Int) (aC : Option Addr) (cC : Nat) (lC : List Int) : Prop where
  T : Touch w wX b (b + 1)
  D : DS wX B0 b a xs c p
  R : Blk wX w.heap.size [.int .i64 0, .int .i64 0, .slice none 0 0, .slice none 0 0] 26
  V : Blk wX g [.int .i64 u, .int .i64 n, .slice aW lW.length cW, .slice aC lC.length cC] 26
  W : OwnI 2 wX (g + 1) tC aW cW lW
  C : wX.ownsRow tC 2 1 (.slice aC lC.length cC) lC.length (ints lC)
section
variable {w wX wY w5 : World} {B0 b c p p' g tC u n cW cC g5 c5 : Nat} {a aW aC : Option Addr} {xs lW lC : List Int}
theorem DC1.draw (h : DC1 w wX B0 b a xs c p g u n aW cW lW) (hb : b < w.heap.size) (hg : w.heap.size < g) (ht : Touch wX wY b (b + 1)) (hd : DS wY B0 b a xs c p') : DC1 w wY B0 b a xs c p' g u n aW cW lW :=
  ⟨h.T.trans ht, hd, h.R.touch ht (.inr (by omega)), h.V.touch ht (.inr (by omega)), own_grown h.W (touch_grown ht) (by omega)⟩
theorem DC2.draw (h : DC2 w wX B0 b a xs c p g tC u n aW cW lW aC cC lC) (hb : b < w.heap.size) (hg : w.heap.size < g) (hC : g < tC) (ht : Touch wX wY b (b + 1)) (hd : DS wY B0 b a xs c p') : DC2 w wY B0 b a xs c p' g tC u n aW cW lW aC cC lC :=
  ⟨h.T.trans ht, hd, h.R.touch ht (.inr (by omega)), h.V.touch ht (.inr (by omega)), h.W.touch ht (.inr (by omega)), own_grown h.C (touch_grown ht) (by omega)⟩
theorem DC1.snoc {x : Int} (h : DC1 w wX B0 b a xs c p g u n aW cW lW) (hb : b < w.heap.size) (hg : w.heap.size < g) (hgX : g < wX.heap.size) (hB : Below (g + 1) wX w5)
    (ho : w5.ownsRow (g + 1) 2 1 (.slice (some ⟨g5, 0, none⟩) (lW.length + 1) c5) (lW.length + 1) (ints lW ++ [.int .i64 x])) :
    DC1 w (w5.setCell ⟨g, 2, none⟩ (.slice (some ⟨g5, 0, none⟩) (lW.length + 1) c5)) B0 b a xs c p g u n (some ⟨g5, 0, none⟩) c5 (lW ++ [x]) := by
  have t5 := touch_of_below' hB
  have ts := touch_setC w5 g 2 (.slice (some ⟨g5, 0, none⟩) (lW.length + 1) c5)
  have V5 := h.V.touch t5 (.inl (by omega))
  refine ⟨touch_hiC (touch_hiC h.T t5 (by omega)) ts (by omega), (h.D.touch t5 (by omega)).touch ts (by omega), (h.R.touch t5 (.inl (by omega))).touch ts (.inl hg), ?_, ?_⟩
  · have := V5.set 2 (.slice (some ⟨g5, 0, none⟩) (lW.length + 1) c5)
    rw [List.length_append]; exact this
  · rw [List.length_append, ints_append]; exact own_grown ho (touch_grown ts) (by omega)
theorem DC2.snoc {x : Int} (h : DC2 w wX B0 b a xs c p g tC u n aW cW lW aC cC lC) (hb : b < w.heap.size) (hg : w.heap.size < g) (hC : g < tC) (hgX : tC ≤ wX.heap.size) (hB : Below tC wX w5)
    (ho : w5.ownsRow tC 2 1 (.slice (some ⟨g5, 0, none⟩) (lC.length + 1) c5) (lC.length + 1) (ints lC ++ [.int .i64 x])) :
    DC2 w (w5.setCell ⟨g, 3, none⟩ (.slice (some ⟨g5, 0, none⟩) (lC.length + 1) c5)) B0 b a xs c p g tC u n aW cW lW (some ⟨g5, 0, none⟩) c5 (lC ++ [x]) := by
  have t5 := touch_of_below' hB
  have ts := touch_setC w5 g 3 (.slice (some ⟨g5, 0, none⟩) (lC.length + 1) c5)
  have V5 := h.V.touch t5 (.inl (by omega))
  refine ⟨touch_hiC (touch_hiC h.T t5 (by omega)) ts (by omega), (h.D.touch t5 (by omega)).touch ts (by omega), (h.R.touch t5 (.inl (by omega))).touch ts (.inl hg), ?_, (h.W.touch t5 (.inl (Nat.le_refl _))).touch ts (.inr (by omega)), ?_⟩
  · have := V5.set 3 (.slice (some ⟨g5, 0, none⟩) (lC.length + 1) c5)
    rw [List.length_append]; exact this
  · rw [List.length_append, ints_append]; exact own_grown ho (touch_grown ts) (by omega)
end
def CrowdR (w : World) (B0 b : Nat) (a : Option Addr) (xs : List Int) (c q : Nat) (u n : Nat) (e : Ending) (w' : World) : Prop :=
  ∃ (aW : Option Addr) (cW : Nat) (lW : List Int) (aC : Option Addr) (cC : Nat) (lC : List Int) (p' : Nat), e = .returned (.agg #[.int .i64 u, .int .i64 n, .slice aW lW.length cW, .slice aC lC.length cC]) ∧ (1 ≤ lW.length ∧ lW.length ≤ 4) ∧ (∀ x ∈ lW, 1 ≤ x ∧ x ≤ 2 ^ n - 1) ∧ lC.length = n * u ∧ (∀ x ∈ lC, -20 ≤ x ∧ x ≤ 30) ∧
    (∃ m, (w.heap.size ≤ m ∧ m ≤ w'.heap.size) ∧ OwnI 2 w' w.heap.size m aW cW lW ∧ OwnI 2 w' m w'.heap.size aC cC lC) ∧ p' ≤ q ∧ DS w' B0 b a xs c p' ∧ Touch w w' b (b + 1)
set_option maxRecDepth 10000 in
set_option maxHeartbeats 8000000 in
theorem drawCrowd_ds (w : World) (B0 b : Nat) (a : Option Addr) (xs : List Int) (c p u n m : Nat) (h : DS w B0 b a xs c p) (hp : p ≤ 700000) (u0 : 1 ≤ u) (u4 : u ≤ 4) (n0 : 1 ≤ n) (n4 : n ≤ 4) (m0 : 1 ≤ m) (m4 : m ≤ 4) :
    Calls Try.prog 46 #[.pointer (some ⟨b, 0, none⟩), .int .i64 u, .int .i64 n, .int .i64 m] w (CrowdR w B0 b a xs c (p + 30) u n) := by
  have hbw := h.lt
  obtain ⟨N, hN⟩ : ∃ N, N = 2 ^ n := ⟨_, rfl⟩
  have N2 : 2 ≤ N ∧ N ≤ 16 := by
    have : n = 1 ∨ n = 2 ∨ n = 3 ∨ n = 4 := by omega
    rcases this with rfl | rfl | rfl | rfl <;> subst hN <;> decide
  obtain ⟨N2, N16⟩ := N2
  have eW : wrap64 (2 ^ n) = (N : Int) := by
    have : (2 : Int) ^ n = (N : Int) := by rw [hN]; exact (Int.natCast_pow 2 n).symm
    rw [this]; unfold wrap64; omega
  have HN : Hid ((2 : Int) ^ n = (N : Int)) := by rw [hN]; exact (Int.natCast_pow 2 n).symm
  clear hN
  have B0' := bl2 w (.cells #[.int .i64 0, .int .i64 0, .slice none 0 0, .slice none 0 0] 26) (.cells #[.int .i64 u, .int .i64 n, .slice none 0 0, .slice none 0 0] 26)
  have V0 : Hid (DC1 w ((w.alloc (.cells #[.int .i64 0, .int .i64 0, .slice none 0 0, .slice none 0 0] 26)).alloc (.cells #[.int .i64 u, .int .i64 n, .slice none 0 0, .slice none 0 0] 26)) B0 b a xs c p (w.heap.size + 1) u n none 0 []) := by
    refine ⟨Below.touch B0' b (b + 1), h.same B0', (Blk.new w [.int .i64 0, .int .i64 0, .slice none 0 0, .slice none 0 0] 26).same (bl1 _ _), ?_, World.ownsRow_nil _ _ _ _⟩
    have := Blk.new (w.alloc (.cells #[.int .i64 0, .int .i64 0, .slice none 0 0, .slice none 0 0] 26)) [.int .i64 u, .int .i64 n, .slice none 0 0, .slice none 0 0] 26
    rw [World.size_alloc] at this
    exact this
  have ui : (u : Int) ≤ 4 := by omega
  have ni : (n : Int) ≤ 4 := by omega
  have mi : (m : Int) ≤ 4 := by omega
  clear h B0'
  go_enter Try.func46, Try.ntmps46
  go_wp2_with fail
  obtain ⟨g, hg⟩ : ∃ g, g = w.heap.size + 1 := ⟨_, rfl⟩
  rw [← hg] at V0 ⊢
  have hgw : w.heap.size < g := by omega
  have hg1 : g < ((w.alloc (.cells #[.int .i64 0, .int .i64 0, .slice none 0 0, .slice none 0 0] 26)).alloc (.cells #[.int .i64 u, .int .i64 n, .slice none 0 0, .slice none 0 0] 26)).heap.size := by simp; omega
  clear hg
  go_loopw [3] (fun kv wr => ∃ (k p' : Nat) (aW : Option Addr) (cW : Nat) (l : List Int), kv = .int .i64 k ∧ Hid (l.length + k = m) ∧ (k : Int) ≤ 4 ∧ Hid (p' ≤ p + l.length) ∧ Hid (∀ x ∈ l, 1 ≤ x ∧ x ≤ (N : Int) - 1) ∧ Hid (DC1 w wr B0 b a xs c p' g u n aW cW l) ∧ g < wr.heap.size) (fun kv _ => (intOf kv).toNat)
  case atStart => exact ⟨m, p, none, 0, [], rfl, by rw [Hid]; simp, mi, by rw [Hid]; simp, fun x hx => by simp at hx, V0.out, hg1⟩
  case round =>
    clear V0 hg1
    obtain ⟨k, p', aW, cW, l, rfl, hl, hk4, hpp, hx, hD, hgr⟩ := hrel
    have k0 : (0 : Int) ≤ (k : Int) := Int.natCast_nonneg _
    have hl4 : l.length ≤ 4 := by have := hl.out; omega
    by_cases hz : 0 < k
    · have hzi : (0 : Int) < (k : Int) := by omega
      have L1 := Lib.hid (pick_ds wr B0 b a xs c p' ((N : Int) - 1) hD.out.D (by have := hpp.out; omega) (by omega))
      go_wp2_with fail
      refine L1.out.mono ?_
      rintro e w2 ⟨y, p2, rfl, ⟨y0, y1⟩, hp2, D2, T2⟩
      have D2 := Lib.hid (hD.out.draw hbw hgw T2 D2)
      have s2 := T2.size
      have y14 : y ≤ 16 := by omega
      have HY : Hid (1 ≤ 1 + y ∧ 1 + y ≤ (N : Int) - 1) := by rw [Hid]; omega
      have k1 : w2.cell? ⟨g, 2, none⟩ = some (.slice aW l.length cW) := D2.out.V.cell 2
      have z1 := D2.out.V.free 2
      have O9 := Lib.hid D2.out.W
      clear L1 T2 y1 hD
      go_wp2_with (at_builtin; refine wpList_append_one _ rfl _ _ 24 rfl (g + 1) 2 (.int .i64 0) 8 Try.underlying24 info_i64p rfl _ l.length _ rfl O9.out _ rfl rfl (by omega) (by omega) (by omega) ?_)
      intro v' w5 ho hgr5
      obtain ⟨a5, c5, rfl, _⟩ := own_shape ho
      obtain ⟨g5, rfl, _, _⟩ := own_none2 ho (by omega)
      have hb5 := below_append (Below.refl (g + 1) w2) O9.out hgr5 (Nat.le_refl _) (by omega)
      have D5 := Lib.hid (D2.out.snoc (x := 1 + y) hbw hgw (by omega) hb5 ho)
      have k5 := (D2.out.V.below hb5 (by omega)).cell 2
      have z5 := (D2.out.V.below hb5 (by omega)).free 2
      have s5 := hb5.size
      have HP5 : Hid (p2 ≤ p + (l ++ [1 + y]).length) := by have := hpp.out; rw [Hid]; simp; omega
      have HL5 : Hid ((l ++ [1 + y]).length + (k - 1) = m) := by have := hl.out; rw [Hid]; simp; omega
      have HX5 : Hid (∀ x ∈ l ++ [1 + y], 1 ≤ x ∧ x ≤ (N : Int) - 1) := fun x hx' => by
        rcases List.mem_append.1 hx' with h | h
        · exact hx.out x h
        · simp at h; subst h; exact HY.out
      have hg5 : g < (w5.setCell ⟨g, 2, none⟩ (.slice (some ⟨g5, 0, none⟩) (l.length + 1) c5)).heap.size := by simp; omega
      simp only [List.getElem?_cons_succ, List.getElem?_cons_zero] at k5
      clear ho hgr5 k1 z1 O9 D2 hb5
      go_wp2_with fail
      go_roundw
      case rel => exact ⟨k - 1, p2, some ⟨g5, 0, none⟩, c5, l ++ [1 + y], by go_num, HL5.out, by omega, HP5.out, HX5.out, D5.out, hg5⟩
      case measure => first | (simp [intOf]; done) | (simp [intOf]; omega)
    · have : k = 0 := by omega
      subst this
      have HLm : Hid (l.length = m) := by have := hl.out; rw [Hid]; omega
      obtain ⟨wW, hwW⟩ : ∃ W : World, W = wr := ⟨_, rfl⟩
      rw [← hwW] at hD hgr ⊢
      clear hwW hl
      obtain ⟨tC, htC⟩ : ∃ t, t = wW.heap.size := ⟨_, rfl⟩
      have tCle : tC ≤ wW.heap.size := by omega
      have hgC : g < tC := by omega
      have HD2 : Hid (DC2 w wW B0 b a xs c p' g tC u n aW cW l none 0 []) := by
        refine ⟨hD.out.T, hD.out.D, hD.out.R, hD.out.V, ?_, World.ownsRow_nil _ _ _ _⟩
        rw [htC]; exact OwnI.of_own hD.out.W
      clear htC hD
      obtain ⟨lW, hlW⟩ : ∃ x, x = l := ⟨_, rfl⟩
      rw [← hlW] at HD2 hx HLm hpp
      subst hlW
      have hpq : p' ≤ p + 4 := by have := hpp.out; omega
      go_wp2_with fail
      rw [show ((0 : Nat) : Int) = 0 from rfl]
      go_loopw [11] (fun rv wr => ∃ (r q : Nat) (aC : Option Addr) (cC : Nat) (lC : List Int), r ≤ n ∧ rv = .int .i64 r ∧ Hid (lC.length = r * u) ∧ Hid (q ≤ p + 4 + 6 * r) ∧ Hid (∀ x ∈ lC, -20 ≤ x ∧ x ≤ 30) ∧ Hid (DC2 w wr B0 b a xs c q g tC u n aW cW lW aC cC lC) ∧ tC ≤ wr.heap.size) (fun rv _ => n - (intOf rv).toNat)
      case atStart => exact ⟨0, p', none, 0, [], Nat.zero_le _, rfl, by rw [Hid]; simp, by rw [Hid]; omega, fun x hx => by simp at hx, HD2.out, tCle⟩
      case round =>
        clear HD2 tCle
        obtain ⟨r, q, aC, cC, lC, hr, rfl, hlC, hq, hxC, hD, hgr⟩ := hrel
        obtain ⟨wo, hwo⟩ : ∃ W : World, W = wr := ⟨_, rfl⟩
        subst hwo
        by_cases hrn : r < n
        · have hri : (r : Int) < (n : Int) := by omega
          have r0 : (0 : Int) ≤ (r : Int) := Int.natCast_nonneg _
          have L1 := Lib.hid (pick_ds wo B0 b a xs c q 6 hD.out.D (by have := hq.out; omega) (by omega))
          have hru : r * u ≤ 3 * 4 := Nat.mul_le_mul (by omega) u4
          have hl16 : lC.length ≤ 12 := by have := hlC.out; omega
          go_wp2_with fail
          refine L1.out.mono ?_
          rintro e w2 ⟨y, q2, rfl, ⟨y0, y1⟩, hq2, D2, T2⟩
          have D2 := Lib.hid (hD.out.draw hbw hgw hgC T2 D2)
          have s2 := T2.size
          have y5 : y ≤ 5 := by omega
          have HQ2 : Hid (q2 ≤ p + 4 + 6 * r + 1) := by have := hq.out; rw [Hid]; omega
          have hg2 : tC ≤ w2.heap.size := by omega
          have HL2 : Hid (lC.length = r * u + 0) := by have := hlC.out; rw [Hid]; omega
          clear L1 T2 y1 hD hq hq2 hlC
          go_wp2_with fail
          go_loopw [12, 13] (fun cv kv wr => ∃ (k q' : Nat) (y : Int) (aC : Option Addr) (cC : Nat) (lC : List Int), k ≤ u ∧ kv = .int .i64 k ∧ cv = .int .i64 y ∧ -(k : Int) ≤ y ∧ y ≤ 5 + 3 * (k : Int) ∧ Hid (lC.length = r * u + k) ∧ Hid (q' ≤ p + 4 + 6 * r + 1 + k) ∧ Hid (∀ x ∈ lC, -20 ≤ x ∧ x ≤ 30) ∧ Hid (DC2 w wr B0 b a xs c q' g tC u n aW cW lW aC cC lC) ∧ tC ≤ wr.heap.size) (fun _ kv _ => u - (intOf kv).toNat)
          case atStart => exact ⟨0, q2, y, aC, cC, lC, Nat.zero_le _, rfl, rfl, by omega, by omega, HL2.out, HQ2.out, hxC.out, D2.out, hg2⟩
          case round =>
            clear D2 HL2 HQ2 hxC hg2 hl16
            obtain ⟨k, q', y', aC, cC, lC, hk, rfl, rfl, yl, yh, hlC, hq, hxC, hD, hgr⟩ := hrel
            have k0 : (0 : Int) ≤ (k : Int) := Int.natCast_nonneg _
            by_cases hku : k < u
            · have hki : (k : Int) < (u : Int) := by omega
              have hl16 : lC.length ≤ 16 := by have := hlC.out; omega
              have k1 : wr.cell? ⟨g, 3, none⟩ = some (.slice aC lC.length cC) := hD.out.V.cell 3
              have z1 := hD.out.V.free 3
              have O9 := Lib.hid hD.out.C
              go_wp2_with (at_builtin; refine wpList_append_one _ rfl _ _ 24 rfl tC 2 (.int .i64 0) 8 Try.underlying24 info_i64p rfl _ lC.length _ rfl O9.out _ rfl rfl (by omega) (by omega) hgr ?_)
              intro v' w5 ho hgr5
              obtain ⟨a5, c5, rfl, _⟩ := own_shape ho
              obtain ⟨g5, rfl, _, _⟩ := own_none2 ho (by omega)
              have hb5 := below_append (Below.refl tC wr) O9.out hgr5 (Nat.le_refl _) hgr
              have D5 := Lib.hid (hD.out.snoc (x := y') hbw hgw hgC hgr hb5 ho)
              have k5 := (hD.out.V.below hb5 hgC).cell 3
              have z5 := (hD.out.V.below hb5 hgC).free 3
              have s5 := hb5.size
              have L2 := Lib.hid (pick_ds _ B0 b a xs c q' 5 D5.out.D (by have := hq.out; omega) (by omega))
              have HX5 : Hid (∀ x ∈ lC ++ [y'], -20 ≤ x ∧ x ≤ 30) := fun x hx' => by
                rcases List.mem_append.1 hx' with h | h
                · exact hxC.out x h
                · simp at h; subst h; omega
              have hg5 : tC ≤ (w5.setCell ⟨g, 3, none⟩ (.slice (some ⟨g5, 0, none⟩) (lC.length + 1) c5)).heap.size := by simp; omega
              have HL5 : Hid ((lC ++ [y']).length = r * u + (k + 1)) := by have := hlC.out; rw [Hid]; simp; omega
              simp only [List.getElem?_cons_succ, List.getElem?_cons_zero] at k5
              clear ho hgr5 k1 z1 O9 hD hb5
              go_wp2_with fail
              refine L2.out.mono ?_
              rintro e w6 ⟨z, q6, rfl, ⟨z0, z1⟩, hq6, D6, T6⟩
              have D6 := Lib.hid (D5.out.draw hbw hgw hgC T6 D6)
              have s6 := T6.size
              have z4 : z ≤ 4 := by omega
              have HQ6 : Hid (q6 ≤ p + 4 + 6 * r + 1 + (k + 1)) := by have := hq.out; rw [Hid]; omega
              have hg6 : tC ≤ w6.heap.size := by omega
              clear L2 D5 T6 z1 k5 z5
              go_wp2_with fail
              go_roundw
              case rel => exact ⟨k + 1, q6, y' + (z - 1), some ⟨g5, 0, none⟩, c5, lC ++ [y'], by omega, by go_num, by go_num, by omega, by omega, HL5.out, HQ6.out, HX5.out, D6.out, hg6⟩
              case measure => first | (simp [intOf]; done) | (simp [intOf]; omega)
            · obtain rfl : k = u := by omega
              have HL5 : Hid (lC.length = (r + 1) * k) := by have := hlC.out; rw [Hid, Nat.add_mul]; omega
              have HQ5 : Hid (q' ≤ p + 4 + 6 * (r + 1)) := by have := hq.out; rw [Hid]; omega
              clear hlC hq
              go_wp2_with fail
              go_roundw
              case rel => exact ⟨r + 1, q', aC, cC, lC, by omega, by go_num, HL5.out, HQ5.out, hxC.out, hD.out, hgr⟩
              case measure => first | (simp [intOf]; done) | (simp [intOf]; omega)
        · obtain rfl : r = n := by omega
          have k0 : wo.cell? ⟨g, 0, none⟩ = some (.int .i64 u) := hD.out.V.cell 0
          have k1 : wo.cell? ⟨g, 1, none⟩ = some (.int .i64 r) := hD.out.V.cell 1
          have k2 : wo.cell? ⟨g, 2, none⟩ = some (.slice aW lW.length cW) := hD.out.V.cell 2
          have k3 : wo.cell? ⟨g, 3, none⟩ = some (.slice aC lC.length cC) := hD.out.V.cell 3
          have y0 : wo.cell? ⟨w.heap.size, 0, none⟩ = some (.int .i64 0) := hD.out.R.cell 0
          have y1 : wo.cell? ⟨w.heap.size, 1, none⟩ = some (.int .i64 0) := hD.out.R.cell 1
          have y2 : wo.cell? ⟨w.heap.size, 2, none⟩ = some (.slice none 0 0) := hD.out.R.cell 2
          have y3 : wo.cell? ⟨w.heap.size, 3, none⟩ = some (.slice none 0 0) := hD.out.R.cell 3
          have f0 := hD.out.R.free 0
          have f1 := hD.out.R.free 1
          have f2 := hD.out.R.free 2
          have f3 := hD.out.R.free 3
          go_wp2_with fail
          obtain ⟨wz, hwz⟩ : ∃ Y, Y = (((wo.setCell ⟨w.heap.size, 0, none⟩ (.int .i64 u)).setCell ⟨w.heap.size, 1, none⟩ (.int .i64 r)).setCell ⟨w.heap.size, 2, none⟩ (.slice aW lW.length cW)).setCell ⟨w.heap.size, 3, none⟩ (.slice aC lC.length cC) := ⟨_, rfl⟩
          have KZ : Blk wz w.heap.size [.int .i64 u, .int .i64 r, .slice aW lW.length cW, .slice aC lC.length cC] 26 := by rw [hwz]; exact (((hD.out.R.set 0 (.int .i64 u)).set 1 (.int .i64 r)).set 2 (.slice aW lW.length cW)).set 3 (.slice aC lC.length cC)
          have TZ : Touch wo wz w.heap.size (w.heap.size + 1) := by rw [hwz]; exact (((touch_setC wo w.heap.size 0 (.int .i64 u)).trans (touch_setC _ w.heap.size 1 (.int .i64 r))).trans (touch_setC _ w.heap.size 2 (.slice aW lW.length cW))).trans (touch_setC _ w.heap.size 3 (.slice aC lC.length cC))
          have OWZ := hD.out.W.touch TZ (.inr (by omega))
          have OCZ : OwnI 2 wz tC wz.heap.size aC cC lC := OwnI.of_own (own_grown hD.out.C (touch_grown TZ) (by omega))
          have DZ := hD.out.D.touch TZ hbw
          have TT := touch_hiC hD.out.T TZ (Nat.le_refl _)
          have sZ := TZ.size
          rw [← hwz]
          clear hwz y0 y1 y2 y3
          have y0 : wz.cell? ⟨w.heap.size, 0, none⟩ = some (.int .i64 u) := KZ.cell 0
          have y1 : wz.cell? ⟨w.heap.size, 1, none⟩ = some (.int .i64 r) := KZ.cell 1
          have y2 : wz.cell? ⟨w.heap.size, 2, none⟩ = some (.slice aW lW.length cW) := KZ.cell 2
          have y3 : wz.cell? ⟨w.heap.size, 3, none⟩ = some (.slice aC lC.length cC) := KZ.cell 3
          refine bodyPost_ret (v := .agg #[.int .i64 u, .int .i64 r, .slice aW lW.length cW, .slice aC lC.length cC]) (by simp [results, Try.results46, go_sem, y0, y1, y2, y3]) rfl ?_
          exact ⟨aW, cW, lW, aC, cC, lC, q, rfl, by rw [HLm.out]; omega, fun x hx' => by rw [HN.out]; exact hx.out x hx', hlC.out, hxC.out, ⟨tC, ⟨by omega, by omega⟩, OWZ.mono (by omega) (Nat.le_refl _), OCZ⟩, by have := hq.out; omega, DZ, TT⟩
end Go.Proofs.Ytiodkmddmgjikaa
namespace Go.Proofs.Ytiodkmddmgjikaa
set_option linter.unusedVariables false
set_option linter.unusedSimpArgs false
open Go.RowKit

def OkC (w : World) (B0 b : Nat) (a : Option Addr) (xs : List Int) (c q : Nat) (e : Ending) (w' : World) : Prop :=
  ∃ u n : Nat, (1 ≤ u ∧ u ≤ 4) ∧ (1 ≤ n ∧ n ≤ 4) ∧ CrowdR w B0 b a xs c q u n e w'
set_option maxRecDepth 10000 in
set_option maxHeartbeats 4000000 in
theorem drawOkC_ds (w : World) (B0 b : Nat) (a : Option Addr) (xs : List Int) (c p : Nat) (h : DS w B0 b a xs c p) (hp : p ≤ 600000) :
    Calls Try.prog 26 #[.pointer (some ⟨b, 0, none⟩)] w (OkC w B0 b a xs c (p + 40)) := by
  have hbw := h.lt
  have B0' := bl1 w (.cells #[.int .i64 0, .int .i64 0, .slice none 0 0, .slice none 0 0] 26)
  have KR0 := Lib.hid (Blk.new w [.int .i64 0, .int .i64 0, .slice none 0 0, .slice none 0 0] 26)
  have T0 := Lib.hid (Below.touch B0' b (b + 1))
  have L1 := Lib.hid (pick_ds _ B0 b a xs c p 4 (h.same B0') (by omega) (by omega))
  clear h B0'
  go_enter Try.func26, Try.ntmps26
  go_wp2_with fail
  refine L1.out.mono ?_
  rintro e w1 ⟨x, p1, rfl, ⟨x0, x1⟩, hp1, D1, T1⟩
  obtain ⟨u, hu⟩ : ∃ u : Nat, 1 + x = (u : Int) := ⟨(1 + x).toNat, by omega⟩
  have KR1 := Lib.hid (KR0.out.touch T1 (.inr (by omega)))
  have s1 := T1.size
  rw [World.size_alloc] at s1
  have T1' := Lib.hid (T0.out.trans T1)
  have L2 := Lib.hid (pick_ds w1 B0 b a xs c p1 4 D1 (by omega) (by omega))
  have hu4 : 1 ≤ u ∧ u ≤ 4 := by omega
  have x3 : x ≤ 3 := by omega
  clear L1 KR0 T0 D1 T1 x1
  go_wp2_with fail
  refine L2.out.mono ?_
  rintro e w2 ⟨y, p2, rfl, ⟨y0, y1⟩, hp2, D2, T2⟩
  obtain ⟨n, hn⟩ : ∃ n : Nat, 1 + y = (n : Int) := ⟨(1 + y).toNat, by omega⟩
  have KR2 := Lib.hid (KR1.out.touch T2 (.inr (by omega)))
  have s2 := T2.size
  have T2' := Lib.hid (T1'.out.trans T2)
  have L3 := Lib.hid (pick_ds w2 B0 b a xs c p2 4 D2 (by omega) (by omega))
  have hn4 : 1 ≤ n ∧ n ≤ 4 := by omega
  have y3 : y ≤ 3 := by omega
  clear L2 KR1 D2 T2 T1' y1
  go_wp2_with fail
  refine L3.out.mono ?_
  rintro e w3 ⟨z, p3, rfl, ⟨z0, z1⟩, hp3, D3, T3⟩
  obtain ⟨m, hm⟩ : ∃ m : Nat, 1 + z = (m : Int) := ⟨(1 + z).toNat, by omega⟩
  have KR3 := Lib.hid (KR2.out.touch T3 (.inr (by omega)))
  have s3 := T3.size
  have T3' := Lib.hid (T2'.out.trans T3)
  have L4 := Lib.hid (drawCrowd_ds w3 B0 b a xs c p3 u n m D3 (by omega) hu4.1 hu4.2 hn4.1 hn4.2 (by omega) (by omega))
  have z3 : z ≤ 3 := by omega
  have HU := Lib.hid hu4
  have HN := Lib.hid hn4
  clear L3 KR2 D3 T3 T2' z1 hu4 hn4
  go_wp2_with fail
  refine L4.out.mono ?_
  rintro e w4 ⟨aW, cW, lW, aC, cC, lC, p4, rfl, hl1, hl2, hl3, hl4, ⟨mm, hmm, oW, oC⟩, hp4, D4, T4⟩
  have KR4 := Lib.hid (KR3.out.touch T4 (.inr (by omega)))
  have s4 := T4.size
  have T4' := Lib.hid (T3'.out.trans T4)
  have OW := Lib.hid oW
  have OC := Lib.hid oC
  have H1 := Lib.hid hl1
  have H2 := Lib.hid hl2
  have H3 := Lib.hid hl3
  have H4 := Lib.hid hl4
  have HM := Lib.hid hmm
  have D4 := Lib.hid D4
  clear L4 KR3 T4 T3' oW oC hl1 hl2 hl3 hl4 hmm hu hn hm
  have y0' : w4.cell? ⟨w.heap.size, 0, none⟩ = some (.int .i64 0) := KR4.out.cell 0
  have y1' : w4.cell? ⟨w.heap.size, 1, none⟩ = some (.int .i64 0) := KR4.out.cell 1
  have y2' : w4.cell? ⟨w.heap.size, 2, none⟩ = some (.slice none 0 0) := KR4.out.cell 2
  have y3' : w4.cell? ⟨w.heap.size, 3, none⟩ = some (.slice none 0 0) := KR4.out.cell 3
  have f0 := KR4.out.free 0
  have f1 := KR4.out.free 1
  have f2 := KR4.out.free 2
  have f3 := KR4.out.free 3
  go_wp2_with fail
  obtain ⟨wz, hwz⟩ : ∃ Y, Y = (((w4.setCell ⟨w.heap.size, 0, none⟩ (.int .i64 u)).setCell ⟨w.heap.size, 1, none⟩ (.int .i64 n)).setCell ⟨w.heap.size, 2, none⟩ (.slice aW lW.length cW)).setCell ⟨w.heap.size, 3, none⟩ (.slice aC lC.length cC) := ⟨_, rfl⟩
  have KZ : Blk wz w.heap.size [.int .i64 u, .int .i64 n, .slice aW lW.length cW, .slice aC lC.length cC] 26 := by rw [hwz]; exact (((KR4.out.set 0 (.int .i64 u)).set 1 (.int .i64 n)).set 2 (.slice aW lW.length cW)).set 3 (.slice aC lC.length cC)
  have TZ : Touch w4 wz w.heap.size (w.heap.size + 1) := by rw [hwz]; exact (((touch_setC w4 w.heap.size 0 (.int .i64 u)).trans (touch_setC _ w.heap.size 1 (.int .i64 n))).trans (touch_setC _ w.heap.size 2 (.slice aW lW.length cW))).trans (touch_setC _ w.heap.size 3 (.slice aC lC.length cC))
  obtain ⟨hm1, hm2⟩ := HM.out
  have OWZ := OW.out.touch TZ (.inr (by omega))
  have OCZ := OC.out.touch TZ (.inr (by omega))
  have DZ := D4.out.touch TZ hbw
  have TT := touch_hiC T4'.out TZ (Nat.le_refl _)
  have sZ := TZ.size
  rw [← hwz]
  clear hwz y0' y1' y2' y3'
  have y0' : wz.cell? ⟨w.heap.size, 0, none⟩ = some (.int .i64 u) := KZ.cell 0
  have y1' : wz.cell? ⟨w.heap.size, 1, none⟩ = some (.int .i64 n) := KZ.cell 1
  have y2' : wz.cell? ⟨w.heap.size, 2, none⟩ = some (.slice aW lW.length cW) := KZ.cell 2
  have y3' : wz.cell? ⟨w.heap.size, 3, none⟩ = some (.slice aC lC.length cC) := KZ.cell 3
  refine bodyPost_ret (v := .agg #[.int .i64 u, .int .i64 n, .slice aW lW.length cW, .slice aC lC.length cC]) (by simp [results, Try.results26, go_sem, y0', y1', y2', y3']) rfl ?_
  exact ⟨u, n, HU.out, HN.out, aW, cW, lW, aC, cC, lC, p4, rfl, H1.out, H2.out, H3.out, H4.out, ⟨mm, ⟨by omega, by omega⟩, OWZ.mono (by omega) (Nat.le_refl _), OCZ.mono (Nat.le_refl _) sZ⟩, by omega, DZ, TT⟩
/-- What is said of a drawn crowd. -/
def R8C (w : World) (e : Ending) (w' : World) : Prop :=
  ∃ (u n : Nat) (aW : Option Addr) (cW : Nat) (lW : List Int) (aC : Option Addr) (cC : Nat) (lC : List Int), e = .returned (.agg #[.int .i64 u, .int .i64 n, .slice aW lW.length cW, .slice aC lC.length cC]) ∧ (1 ≤ u ∧ u ≤ 4) ∧ (1 ≤ n ∧ n ≤ 4) ∧ (1 ≤ lW.length ∧ lW.length ≤ 4) ∧ (∀ x ∈ lW, 1 ≤ x ∧ x ≤ 2 ^ n - 1) ∧ lC.length = n * u ∧ (∀ x ∈ lC, -20 ≤ x ∧ x ≤ 30) ∧ RdCrowd w' w'.heap.size aW lW aC lC ∧ Below w.heap.size w w'
set_option maxRecDepth 10000 in
set_option maxHeartbeats 4000000 in
theorem r8Crowd_any (w : World) (a : Option Addr) (c : Nat) (xs : List Int) (h : Rd w w.heap.size a (byts xs)) (hx : ∀ x ∈ xs, 0 ≤ x ∧ x ≤ 255) (hl : xs.length ≤ 1048576) :
    Calls Try.prog 5 #[.slice a xs.length c] w (R8C w) := by
  have B0' := bl1 w (.cells #[.int .i64 0, .int .i64 0, .slice none 0 0, .slice none 0 0] 26)
  have KR0 := Lib.hid (Blk.new w [.int .i64 0, .int .i64 0, .slice none 0 0, .slice none 0 0] 26)
  have L0 := Lib.hid (l00From_any (w.alloc (.cells #[.int .i64 0, .int .i64 0, .slice none 0 0, .slice none 0 0] 26)) a xs.length c)
  have H0 := Lib.hid (h.to B0')
  have HX := Lib.hid hx
  have HB0 := Lib.hid B0'
  clear h hx B0'
  go_enter Try.func5, Try.ntmps5
  go_wp2_with fail
  refine L0.out.mono ?_
  rintro e w1 ⟨rfl, S1, B1, s1⟩
  have s0 : (w.alloc (.cells #[.int .i64 0, .int .i64 0, .slice none 0 0, .slice none 0 0] 26)).heap.size = w.heap.size + 1 := World.size_alloc _ _
  have D1 : Hid (DS w1 (w.heap.size + 1) (w.heap.size + 1) a xs c 0) := ⟨by rw [← s0]; exact S1, by rw [← s0]; exact H0.out.below B1 (Nat.le_refl _), Nat.le_refl _, HX.out, hl⟩
  have KR1 := Lib.hid (KR0.out.same B1)
  have HB1 := Lib.hid (below_then HB0.out B1)
  have L1 := Lib.hid (drawOkC_ds w1 (w.heap.size + 1) (w.heap.size + 1) a xs c 0 D1.out (by omega))
  have hs1 : w.heap.size + 2 ≤ w1.heap.size := by omega
  clear L0 S1 B1 s1 s0 D1 H0 HX KR0 HB0
  go_wp2_with fail
  refine L1.out.mono ?_
  rintro e w2 ⟨u, n, hu, hn, aW, cW, lW, aC, cC, lC, p4, rfl, hl1, hl2, hl3, hl4, ⟨mm, hmm, oW, oC⟩, hp4, D4, T4⟩
  have KR2 := Lib.hid (KR1.out.touch T4 (.inl (by omega)))
  have B2 := Lib.hid (below_touch HB1.out T4 (by omega) HB1.out.size)
  have s4 := T4.size
  have OW := Lib.hid oW
  have OC := Lib.hid oC
  have H1 := Lib.hid hl1
  have H2 := Lib.hid hl2
  have H3 := Lib.hid hl3
  have H4 := Lib.hid hl4
  have HM := Lib.hid hmm
  have HU := Lib.hid hu
  have HN := Lib.hid hn
  clear L1 KR1 T4 oW oC hl1 hl2 hl3 hl4 hmm hu hn D4
  have y0' : w2.cell? ⟨w.heap.size, 0, none⟩ = some (.int .i64 0) := KR2.out.cell 0
  have y1' : w2.cell? ⟨w.heap.size, 1, none⟩ = some (.int .i64 0) := KR2.out.cell 1
  have y2' : w2.cell? ⟨w.heap.size, 2, none⟩ = some (.slice none 0 0) := KR2.out.cell 2
  have y3' : w2.cell? ⟨w.heap.size, 3, none⟩ = some (.slice none 0 0) := KR2.out.cell 3
  have f0 := KR2.out.free 0
  have f1 := KR2.out.free 1
  have f2 := KR2.out.free 2
  have f3 := KR2.out.free 3
  go_wp2_with fail
  obtain ⟨wz, hwz⟩ : ∃ Y, Y = (((w2.setCell ⟨w.heap.size, 0, none⟩ (.int .i64 u)).setCell ⟨w.heap.size, 1, none⟩ (.int .i64 n)).setCell ⟨w.heap.size, 2, none⟩ (.slice aW lW.length cW)).setCell ⟨w.heap.size, 3, none⟩ (.slice aC lC.length cC) := ⟨_, rfl⟩
  have KZ : Blk wz w.heap.size [.int .i64 u, .int .i64 n, .slice aW lW.length cW, .slice aC lC.length cC] 26 := by rw [hwz]; exact (((KR2.out.set 0 (.int .i64 u)).set 1 (.int .i64 n)).set 2 (.slice aW lW.length cW)).set 3 (.slice aC lC.length cC)
  have TZ : Touch w2 wz w.heap.size (w.heap.size + 1) := by rw [hwz]; exact (((touch_setC w2 w.heap.size 0 (.int .i64 u)).trans (touch_setC _ w.heap.size 1 (.int .i64 n))).trans (touch_setC _ w.heap.size 2 (.slice aW lW.length cW))).trans (touch_setC _ w.heap.size 3 (.slice aC lC.length cC))
  obtain ⟨hm1, hm2⟩ := HM.out
  have OWZ := OW.out.touch TZ (.inr (by omega))
  have OCZ := OC.out.touch TZ (.inr (by omega))
  have BZ := below_touch B2.out TZ (Nat.le_refl _) (by omega)
  have sZ := TZ.size
  rw [← hwz]
  clear hwz y0' y1' y2' y3'
  have y0' : wz.cell? ⟨w.heap.size, 0, none⟩ = some (.int .i64 u) := KZ.cell 0
  have y1' : wz.cell? ⟨w.heap.size, 1, none⟩ = some (.int .i64 n) := KZ.cell 1
  have y2' : wz.cell? ⟨w.heap.size, 2, none⟩ = some (.slice aW lW.length cW) := KZ.cell 2
  have y3' : wz.cell? ⟨w.heap.size, 3, none⟩ = some (.slice aC lC.length cC) := KZ.cell 3
  refine bodyPost_ret (v := .agg #[.int .i64 u, .int .i64 n, .slice aW lW.length cW, .slice aC lC.length cC]) (by simp [results, Try.results5, go_sem, y0', y1', y2', y3']) rfl ?_
  exact ⟨u, n, aW, cW, lW, aC, cC, lC, rfl, HU.out, HN.out, H1.out, H2.out, H3.out, H4.out, ⟨OWZ.rd.mono (by omega), OCZ.rd.mono (by omega)⟩, BZ⟩
set_option maxRecDepth 10000 in
set_option maxHeartbeats 4000000 in
theorem r8Below_any (w : World) (a : Option Addr) (c : Nat) (xs : List Int) (n : Nat) (most : Int) (h : Rd w w.heap.size a (byts xs)) (hx : ∀ x ∈ xs, 0 ≤ x ∧ x ≤ 255) (hl : xs.length ≤ 1048576) (hn : n ≤ 1000) (hm : most ≤ 200) :
    Calls Try.prog 6 #[.slice a xs.length c, .int .i64 n, .int .i64 most] w fun e w' => ∃ (a' : Option Addr) (c' : Nat) (l : List Int), e = .returned (.slice a' n c') ∧ l.length = n ∧ (∀ x ∈ l, 0 ≤ x ∧ (x < most ∨ x = 0)) ∧ OwnI 2 w' w.heap.size w'.heap.size a' c' l ∧ Below w.heap.size w w' := by
  have L0 := Lib.hid (l00From_any w a xs.length c)
  have H0 := Lib.hid h
  have HX := Lib.hid hx
  have hni : (n : Int) ≤ 1000 := by omega
  clear h hx
  go_enter Try.func6, Try.ntmps6
  go_wp2_with fail
  refine L0.out.mono ?_
  rintro e w1 ⟨rfl, S1, B1, s1⟩
  have D1 : Hid (DS w1 w.heap.size w.heap.size a xs c 0) := ⟨S1, H0.out.below B1 (Nat.le_refl _), Nat.le_refl _, HX.out, hl⟩
  have B1 := Lib.hid B1
  have hs1 : w.heap.size + 1 ≤ w1.heap.size := by omega
  have D2 := Lib.hid (D1.out.same (bl1 w1 (.cells #[] 2)))
  have O2 := Lib.hid (own_base (own_emptyC w1 2) hs1)
  have B2 : Hid (Below w.heap.size w (w1.alloc (.cells #[] 2))) := below_then B1.out (bl1 _ _)
  clear L0 S1 s1 D1
  go_wp2_with fail
  go_loopw [1, 8] (fun nv sv wr => ∃ (k m : Nat) (a' : Option Addr) (c' : Nat) (l : List Int) (p : Nat), nv = .int .i64 k ∧ sv = .slice a' m c' ∧ (k : Int) ≤ 1000 ∧ (m : Int) + k ≤ 1000 ∧ Hid (m + k = n) ∧ Hid (l.length = m ∧ ∀ x ∈ l, 0 ≤ x ∧ (x < most ∨ x = 0)) ∧ Hid (p ≤ m) ∧ Hid (wr.ownsRow (w.heap.size + 1) 2 1 (.slice a' m c') m (ints l)) ∧ Hid (DS wr w.heap.size w.heap.size a xs c p) ∧ Hid (Below w.heap.size w wr) ∧ w.heap.size + 1 ≤ wr.heap.size) (fun nv _ _ => (intOf nv).toNat)
  case atStart => exact ⟨n, 0, _, _, [], 0, rfl, rfl, hni, by omega, by rw [Hid]; omega, ⟨rfl, by simp⟩, Nat.le_refl _, O2.out, D2.out, B2.out, by simp; omega⟩
  case round =>
    clear O2 D2 B2
    obtain ⟨k, m, a', c', l, p, rfl, rfl, hk, hmk, hmn, hL, hp, hO, hD, hB, hws⟩ := hrel
    have k0 : (0 : Int) ≤ (k : Int) := Int.natCast_nonneg _
    by_cases hz : 0 < k
    · have hzi : (0 : Int) < (k : Int) := by omega
      have L1 := Lib.hid (pick_ds wr w.heap.size w.heap.size a xs c p most hD.out (by have := hp.out; omega) hm)
      go_wp2_with fail
      refine L1.out.mono ?_
      rintro e w2 ⟨x, q, rfl, hx2, hq, D2, T2⟩
      have O2 := Lib.hid (own_grown hO.out (touch_grown T2) (by omega))
      have D2 := Lib.hid D2
      have B2 := Lib.hid (below_touch hB.out T2 (Nat.le_refl _) (by omega))
      have HX2 := Lib.hid hx2
      have s2 := T2.size
      have hws2 : w.heap.size + 1 ≤ w2.heap.size := by omega
      have HQ : Hid (q ≤ m + 1) := by have := hp.out; rw [Hid]; omega
      clear L1 T2 hx2 hD hB hO hp hq
      go_wp2_with (at_builtin; refine wpList_append_one _ rfl _ _ 24 rfl (w.heap.size + 1) 2 (.int .i64 0) 8 Try.underlying24 info_i64p rfl _ m _ rfl O2.out _ rfl rfl (by omega) (by omega) hws2 ?_)
      intro v' w5 ho hgr5
      obtain ⟨a5, c5, rfl, _⟩ := own_shape ho
      have hb5 := below_append (Below.refl (w.heap.size + 1) w2) O2.out hgr5 (Nat.le_refl _) hws2
      have O5 : Hid (w5.ownsRow (w.heap.size + 1) 2 1 (.slice a5 (m + 1) c5) (m + 1) (ints (l ++ [x]))) := by rw [ints_append]; exact ho
      have D5 := Lib.hid (D2.out.touch (touch_of_below' hb5) (by omega))
      have B5 := Lib.hid (B2.out.trans (hb5.mono (by omega)))
      have s5 := hb5.size
      have hws5 : w.heap.size + 1 ≤ w5.heap.size := by omega
      have HL5 : Hid ((l ++ [x]).length = m + 1 ∧ ∀ y ∈ l ++ [x], 0 ≤ y ∧ (y < most ∨ y = 0)) := by
        refine ⟨by simp [hL.out.1], fun y hy => ?_⟩
        rcases List.mem_append.1 hy with hy | hy
        · exact hL.out.2 y hy
        · simp at hy; subst hy; exact HX2.out
      have HM5 : Hid (m + 1 + (k - 1) = n) := by have := hmn.out; rw [Hid]; omega
      clear ho hgr5 hb5 O2 D2 B2 hL hmn
      go_wp2_with fail
      go_roundw
      case rel => exact ⟨k - 1, m + 1, a5, c5, l ++ [x], q, by go_num, rfl, by omega, by omega, HM5.out, HL5.out, HQ.out, O5.out, D5.out, B5.out, hws5⟩
      case measure => first | (simp [intOf]; done) | (simp [intOf]; omega)
    · have : k = 0 := by omega
      subst this
      obtain rfl : m = n := by have := hmn.out; omega
      have HOI : Hid (OwnI 2 wr w.heap.size wr.heap.size a' c' l) := by
        refine OwnI.of_own ?_
        rw [hL.out.1]; exact own_base hO.out (by omega)
      clear hO hmn
      go_wp2_with fail
      go_ret
      exact ⟨a', c', l, rfl, hL.out.1, hL.out.2, HOI.out, hB.out⟩
end Go.Proofs.Ytiodkmddmgjikaa
namespace Go.Proofs.Ytiodkmddmgjikaa
set_option linter.unusedVariables false
set_option linter.unusedSimpArgs false
open Go.RowKit

/-- The code from the region with this number on. -/
def fromReg (n : Nat) : Code → Option Code
  | .seq (.region i o d) b => if i == n then some (.seq (.region i o d) b) else fromReg n b
  | .seq a b => match fromReg n a with
    | some c => some c
    | none => fromReg n b
  | .region i o d => if i == n then some (.region i o d) else none
  | .scope c => fromReg n c
  | .block _ c => fromReg n c
  | .loop c => fromReg n c
  | .cond _ a b => match fromReg n a with
    | some c => some c
    | none => fromReg n b
  | _ => none
/-- The region with this number. -/
def regAt (n : Nat) (c : Code) : Option Code := match fromReg n c with
  | some (.seq a _) => some a
  | some c => some c
  | none => none
/-- The code behind the region with this number. -/
def restAt (n : Nat) (c : Code) : Option Code := match fromReg n c with
  | some (.seq _ b) => some b
  | _ => none
theorem into_k {P : Program} {r : Code} {K : Act → World → Prop} {Q : Exit → Act → World → Prop} {a : Act} {w : World} (h : ∀ a v, Code.wp P r Q a v → K a v) (hw : Code.wp P r Q a w) : K a w := h a w hw
end Go.Proofs.Ytiodkmddmgjikaa
namespace Go.Proofs.Ytiodkmddmgjikaa
set_option linter.unusedVariables false
set_option linter.unusedSimpArgs false
open Go.RowKit

structure Cr where
  U : Int
  R : Int
  ways : List Int
  costs : List Int
/-- Has a way a road? -/
def bitI (w : Int) (r : Nat) : Int := w / 2 ^ r % 2
theorem bitI_01 (w : Int) (r : Nat) : bitI w r = 0 ∨ bitI w r = 1 := by unfold bitI; omega
def sumR (f : Nat → Int) : Nat → Int
  | 0 => 0
  | k + 1 => sumR f k + f k
theorem sumR_congr {f g : Nat → Int} : ∀ {n : Nat}, (∀ i, i < n → f i = g i) → sumR f n = sumR g n
  | 0, _ => rfl
  | n + 1, h => by rw [sumR, sumR, sumR_congr (n := n) (fun i hi => h i (by omega)), h n (by omega)]
theorem sumR_sub (f g : Nat → Int) : ∀ n, sumR (fun i => f i - g i) n = sumR f n - sumR g n
  | 0 => rfl
  | n + 1 => by simp only [sumR]; rw [sumR_sub f g n]; omega
theorem sumR_bd {f : Nat → Int} {m : Int} : ∀ {n : Nat}, (∀ i, i < n → -m ≤ f i ∧ f i ≤ m) → -(m * n) ≤ sumR f n ∧ sumR f n ≤ m * n
  | 0, _ => by simp [sumR]
  | n + 1, h => by
    have i1 := sumR_bd (n := n) (fun i hi => h i (by omega))
    have h2 := h n (by omega)
    have e : m * ((n + 1 : Nat) : Int) = m * n + m := by rw [Int.natCast_add, Int.mul_add]; simp
    simp only [sumR]
    rw [e]
    omega
/-- How many have a road. -/
def loadF (c : Cr) (ch : List Int) (r : Nat) : Int := (ch.map fun k => bitI (c.ways.getD k.toNat 0) r).sum
theorem load_bd (c : Cr) (r : Nat) : ∀ ch : List Int, 0 ≤ loadF c ch r ∧ loadF c ch r ≤ ch.length
  | [] => by simp [loadF]
  | k :: ch => by
    have := load_bd c r ch
    have h2 := bitI_01 (c.ways.getD k.toNat 0) r
    simp only [loadF, List.map_cons, List.sum_cons, List.length_cons] at this ⊢
    omega
theorem load_snoc (c : Cr) (ch : List Int) (k : Int) (r : Nat) : loadF c (ch ++ [k]) r = loadF c ch r + bitI (c.ways.getD k.toNat 0) r := by simp [loadF]
theorem load_set (c : Cr) (r : Nat) (k : Int) : ∀ (ch : List Int) (u : Nat), u < ch.length → loadF c (ch.set u k) r = loadF c ch r - bitI (c.ways.getD (ch.getD u 0).toNat 0) r + bitI (c.ways.getD k.toNat 0) r
  | [], u, h => by simp at h
  | x :: ch, 0, _ => by simp [loadF]; omega
  | x :: ch, u + 1, h => by
    have := load_set c r k ch u (by simpa using h)
    simp only [loadF, List.set_cons_succ, List.map_cons, List.sum_cons, List.getD_cons_succ] at this ⊢
    omega
theorem load_ge (c : Cr) (r : Nat) : ∀ (ch : List Int) (u : Nat), u < ch.length → bitI (c.ways.getD (ch.getD u 0).toNat 0) r ≤ loadF c ch r
  | [], u, h => by simp at h
  | x :: ch, 0, _ => by
    have := load_bd c r ch
    simp only [loadF, List.map_cons, List.sum_cons, List.getD_cons_zero] at this ⊢
    omega
  | x :: ch, u + 1, h => by
    have := load_ge c r ch u (by simpa using h)
    have h2 := bitI_01 (c.ways.getD x.toNat 0) r
    simp only [loadF, List.map_cons, List.sum_cons, List.getD_cons_succ] at this ⊢
    omega
/-- What a road costs each of n. -/
def costF (c : Cr) (r : Nat) (n : Int) : Int := if n = 0 then 0 else c.costs.getD ((r : Int) * c.U + n - 1).toNat 0
/-- What a user pays. -/
def payR (c : Cr) (ch : List Int) (w : Int) (r : Nat) : Int := if bitI (c.ways.getD w.toNat 0) r = 1 then costF c r (loadF c ch r) else 0
def paysF (c : Cr) (ch : List Int) (u : Nat) : Int := sumR (payR c ch (ch.getD u 0)) c.R.toNat
def potR (c : Cr) (ch : List Int) (r : Nat) : Int := sumR (fun k => costF c r (k + 1)) (loadF c ch r).toNat
def potF (c : Cr) (ch : List Int) : Int := sumR (potR c ch) c.R.toNat
theorem getD_set_same {xs : List Int} {q : Nat} (h : q < xs.length) (v : Int) : (xs.set q v).getD q 0 = v := by simp [List.getD, h]
theorem pot_step (c : Cr) (ch : List Int) (u : Nat) (k : Int) (hu : u < ch.length) : potF c (ch.set u k) - potF c ch = paysF c (ch.set u k) u - paysF c ch u := by
  unfold potF paysF
  rw [← sumR_sub, ← sumR_sub, getD_set_same hu]
  refine sumR_congr fun r _ => ?_
  have e1 := load_set c r k ch u hu
  have e2 := load_ge c r ch u hu
  have e3 := load_bd c r ch
  unfold potR payR
  rw [e1]
  generalize loadF c ch r = L at *
  rcases bitI_01 (c.ways.getD (ch.getD u 0).toNat 0) r with hb | hb <;> rcases bitI_01 (c.ways.getD k.toNat 0) r with hb' | hb' <;> rw [hb] at e1 e2 ⊢ <;> rw [hb']
  · simp
  · obtain ⟨m, hm⟩ : ∃ m : Nat, L = m := ⟨L.toNat, by omega⟩
    subst hm
    have e4 : ((m : Int) - 0 + 1).toNat = m + 1 := by omega
    rw [e4, Int.toNat_natCast, sumR]
    simp
    omega
  · obtain ⟨m, hm⟩ : ∃ m : Nat, L = (m : Int) + 1 := ⟨(L - 1).toNat, by omega⟩
    subst hm
    have e4 : ((m : Int) + 1 - 1 + 0).toNat = m := by omega
    have e5 : ((m : Int) + 1).toNat = m + 1 := by omega
    rw [e4, e5, sumR]
    simp
    omega
  · have e4 : L - 1 + 1 = L := by omega
    rw [e4]
    simp

/-- Seeks the first least number below one. -/
def scanF (f : Nat → Int) (l : Int) : Nat → Option Nat × Int
  | 0 => (none, l)
  | k + 1 => if f k < (scanF f l k).2 then (some k, f k) else scanF f l k
theorem scan_spec (f : Nat → Int) (l : Int) : ∀ n, (match (scanF f l n).1 with | none => (scanF f l n).2 = l | some k => k < n ∧ (scanF f l n).2 = f k ∧ f k < l) ∧ (scanF f l n).2 ≤ l ∧ ∀ k, k < n → (scanF f l n).2 ≤ f k
  | 0 => ⟨rfl, Int.le_refl _, fun k hk => by omega⟩
  | n + 1 => by
    obtain ⟨h1, h2, h3⟩ := scan_spec f l n
    rw [scanF]
    by_cases h : f n < (scanF f l n).2
    · rw [if_pos h]
      refine ⟨⟨by omega, rfl, by omega⟩, by show f n ≤ l; omega, fun k hk => ?_⟩
      by_cases e : k = n
      · subst e; exact Int.le_refl _
      · have := h3 k (by omega); show f n ≤ f k; omega
    · rw [if_neg h]
      refine ⟨?_, h2, fun k hk => ?_⟩
      · cases hs : (scanF f l n).1 with
        | none => rw [hs] at h1; exact h1
        | some k => rw [hs] at h1; exact ⟨by omega, h1.2⟩
      · by_cases e : k = n
        · subst e; omega
        · exact h3 k (by omega)
/-- The better way of a user, if there is one. -/
def wayF (c : Cr) (ch : List Int) (u : Nat) : Option Nat := (scanF (fun k => paysF c (ch.set u (k : Int)) u) (paysF c ch u) c.ways.length).1
/-- The first user from k on who would rather take another way, and that way. -/
def betterFrom (c : Cr) (ch : List Int) : Nat → Nat → Option (Nat × Nat)
  | 0, _ => none
  | f + 1, u => match wayF c ch u with
    | some k => some (u, k)
    | none => betterFrom c ch f (u + 1)
def betterF (c : Cr) (ch : List Int) : Option (Nat × Nat) := betterFrom c ch ch.length 0
theorem wayF_some {c : Cr} {ch : List Int} {u k : Nat} (h : wayF c ch u = some k) : k < c.ways.length ∧ paysF c (ch.set u (k : Int)) u < paysF c ch u := by
  have := (scan_spec (fun k => paysF c (ch.set u (k : Int)) u) (paysF c ch u) c.ways.length).1
  unfold wayF at h
  rw [h] at this
  exact ⟨this.1, this.2.2⟩
theorem betterFrom_some {c : Cr} {ch : List Int} {p : Nat × Nat} : ∀ {f u : Nat}, betterFrom c ch f u = some p → p.1 < u + f ∧ wayF c ch p.1 = some p.2
  | 0, _, h => by simp [betterFrom] at h
  | f + 1, u, h => by
    rw [betterFrom] at h
    split at h
    case h_1 k hk => injection h with h; subst h; exact ⟨by omega, hk⟩
    case h_2 => have := betterFrom_some h; exact ⟨by omega, this.2⟩
theorem better_some {c : Cr} {ch : List Int} {u k : Nat} (h : betterF c ch = some (u, k)) : u < ch.length ∧ k < c.ways.length ∧ potF c (ch.set u (k : Int)) < potF c ch := by
  obtain ⟨h1, h2⟩ := betterFrom_some h
  obtain ⟨h3, h4⟩ := wayF_some h2
  have hu : u < ch.length := by simpa using h1
  have := pot_step c ch u k hu
  exact ⟨hu, h3, by simp only at h4; omega⟩
def validB (c : Cr) : Bool := inB c.U 1 8 && inB c.R 1 8 && manyB c.ways 1 8 1 (2 ^ c.R.toNat - 1) && manyB c.costs (c.U * c.R) (c.U * c.R) (-100000) 100000
structure Valid (c : Cr) : Prop where
  u1 : 1 ≤ c.U
  u8 : c.U ≤ 8
  r1 : 1 ≤ c.R
  r8 : c.R ≤ 8
  w1 : 1 ≤ c.ways.length
  w8 : c.ways.length ≤ 8
  way : ∀ x ∈ c.ways, 1 ≤ x ∧ x ≤ 255
  clen : (c.costs.length : Int) = c.U * c.R
  cost : ∀ x ∈ c.costs, -100000 ≤ x ∧ x ≤ 100000
theorem valid_of {c : Cr} (h : validB c = true) : Valid c := by
  simp only [validB, Bool.and_eq_true, inB_iff, manyB_iff] at h
  obtain ⟨⟨⟨⟨h1, h2⟩, h3, h4⟩, ⟨h5, h6⟩, h7⟩, ⟨h8, h9⟩, h10⟩ := h
  refine ⟨h1, h2, h3, h4, by omega, by omega, fun x hx => ?_, by omega, h10⟩
  have h11 := h7 x hx
  have : (2 : Int) ^ c.R.toNat ≤ 2 ^ 8 := by
    have : (2 : Nat) ^ c.R.toNat ≤ 2 ^ 8 := Nat.pow_le_pow_right (by omega) (by omega)
    exact_mod_cast this
  omega
/-- A valid crowd, and choices of its users. -/
def canB (c : Cr) (ch : List Int) : Bool := validB c && manyB ch c.U c.U 0 ((c.ways.length : Int) - 1)
structure Can (c : Cr) (ch : List Int) : Prop where
  v : Valid c
  len : (ch.length : Int) = c.U
  mem : ∀ x ∈ ch, 0 ≤ x ∧ x < c.ways.length
theorem can_of {c : Cr} {ch : List Int} (h : canB c ch = true) : Can c ch := by
  simp only [canB, Bool.and_eq_true, manyB_iff] at h
  obtain ⟨h1, ⟨h2, h3⟩, h4⟩ := h
  exact ⟨valid_of h1, by omega, fun x hx => by have := h4 x hx; omega⟩
theorem Can.set {c : Cr} {ch : List Int} (h : Can c ch) {u k : Nat} (hk : k < c.ways.length) : Can c (ch.set u (k : Int)) :=
  ⟨h.v, by rw [List.length_set]; exact h.len, fun x hx => by
    rcases List.mem_or_eq_of_mem_set hx with hx | rfl
    · exact h.mem x hx
    · omega⟩
theorem cost_bd {c : Cr} (h : Valid c) (r : Nat) (n : Int) : -100000 ≤ costF c r n ∧ costF c r n ≤ 100000 := by
  unfold costF
  split
  · omega
  · by_cases hj : ((r : Int) * c.U + n - 1).toNat < c.costs.length
    · exact h.cost _ (List.mem_of_getElem? (get_of_lt hj))
    · rw [List.getD_eq_getElem?_getD, List.getElem?_eq_none (by omega), Option.getD_none]; omega
theorem pays_bd {c : Cr} (h : Valid c) (ch : List Int) (u : Nat) : -800000 ≤ paysF c ch u ∧ paysF c ch u ≤ 800000 := by
  have := sumR_bd (f := payR c ch (ch.getD u 0)) (m := 100000) (n := c.R.toNat) (fun i _ => by
    unfold payR
    split
    · exact cost_bd h i _
    · omega)
  have h8 := h.r8
  unfold paysF
  omega
theorem pot_bd {c : Cr} {ch : List Int} (h : Can c ch) : -6400000 ≤ potF c ch ∧ potF c ch ≤ 6400000 := by
  have h1 := h.len
  have h2 := h.v.u8
  have := sumR_bd (f := potR c ch) (m := 800000) (n := c.R.toNat) (fun r _ => by
    unfold potR
    have hl := load_bd c r ch
    have := sumR_bd (f := fun k => costF c r (k + 1)) (m := 100000) (n := (loadF c ch r).toNat) (fun i _ => cost_bd h.v r _)
    omega)
  have h8 := h.v.r8
  unfold potF
  omega
/-- Better choices, one after another, n at most; and how many. -/
def restN (c : Cr) : Nat → List Int → List Int × Nat
  | 0, ch => (ch, 0)
  | n + 1, ch => match betterF c ch with
    | none => (ch, 0)
    | some (u, k) => ((restN c n (ch.set u (k : Int))).1, (restN c n (ch.set u (k : Int))).2 + 1)
def measF (c : Cr) (ch : List Int) : Nat := (potF c ch + 6400000).toNat
def restF (c : Cr) (ch : List Int) : List Int × Nat := restN c (measF c ch + 1) ch
theorem restN_enough {c : Cr} : ∀ {n m : Nat} {ch : List Int}, Can c ch → measF c ch < n → measF c ch < m → restN c n ch = restN c m ch
  | 0, _, _, _, h, _ => by omega
  | _ + 1, 0, _, _, _, h => by omega
  | n + 1, m + 1, ch, hc, h1, h2 => by
    rw [restN, restN]
    cases hb : betterF c ch with
    | none => rfl
    | some p =>
      obtain ⟨u, k⟩ := p
      obtain ⟨_, h4, h5⟩ := better_some hb
      have b1 := pot_bd hc
      have b2 := pot_bd (hc.set (u := u) h4)
      have : measF c (ch.set u (k : Int)) < measF c ch := by unfold measF; omega
      simp only
      rw [restN_enough (n := n) (m := m) (hc.set h4) (by omega) (by omega)]
theorem restF_none {c : Cr} {ch : List Int} (h : betterF c ch = none) : restF c ch = (ch, 0) := by rw [restF, restN, h]
theorem restF_some {c : Cr} {ch : List Int} {u k : Nat} (hc : Can c ch) (h : betterF c ch = some (u, k)) : restF c ch = ((restF c (ch.set u (k : Int))).1, (restF c (ch.set u (k : Int))).2 + 1) := by
  obtain ⟨_, h4, h5⟩ := better_some h
  have b1 := pot_bd hc
  have b2 := pot_bd (hc.set (u := u) h4)
  have hm : measF c (ch.set u (k : Int)) < measF c ch := by unfold measF; omega
  rw [restF, restN, h, restF]
  simp only
  rw [restN_enough (n := measF c ch) (m := measF c (ch.set u (k : Int)) + 1) (hc.set h4) (by omega) (by omega)]
theorem meas_step {c : Cr} {ch : List Int} {u k : Nat} (hc : Can c ch) (h : betterF c ch = some (u, k)) : measF c (ch.set u (k : Int)) < measF c ch := by
  obtain ⟨_, h4, h5⟩ := better_some h
  have b1 := pot_bd hc
  have b2 := pot_bd (hc.set (u := u) h4)
  unfold measF; omega
theorem restN_rest {c : Cr} : ∀ {n : Nat} {ch : List Int}, Can c ch → measF c ch < n → Can c (restN c n ch).1 ∧ betterF c (restN c n ch).1 = none ∧ (restN c n ch).2 + measF c (restN c n ch).1 ≤ measF c ch
  | 0, _, _, h => by omega
  | n + 1, ch, hc, h1 => by
    rw [restN]
    cases hb : betterF c ch with
    | none => exact ⟨hc, hb, by simp⟩
    | some p =>
      obtain ⟨u, k⟩ := p
      have h4 := (better_some hb).2.1
      have := meas_step hc hb
      obtain ⟨i1, i2, i3⟩ := restN_rest (n := n) (hc.set (u := u) h4) (by omega)
      exact ⟨i1, i2, by simp only; omega⟩
theorem restF_rest {c : Cr} {ch : List Int} (hc : Can c ch) : Can c (restF c ch).1 ∧ betterF c (restF c ch).1 = none ∧ (restF c ch).2 + measF c (restF c ch).1 ≤ measF c ch := restN_rest hc (by omega)
end Go.Proofs.Ytiodkmddmgjikaa
namespace Go.Proofs.Ytiodkmddmgjikaa
set_option linter.unusedVariables false
set_option linter.unusedSimpArgs false
open Go.RowKit

/-- The next choices: from the last one down, each counts up, or begins anew. -/
def nextAt (n : Int) (ch : List Int) : Nat → List Int × Bool
  | 0 => (ch, false)
  | k + 1 => if ch.getD k 0 + 1 < n then (ch.set k (ch.getD k 0 + 1), true) else nextAt n (ch.set k 0) k
def valD (n : Nat) (ch : List Int) : Nat := ch.foldl (fun v x => v * n + x.toNat) 0
theorem valD_from (n : Nat) : ∀ (ch : List Int) (v : Nat), ch.foldl (fun v x => v * n + x.toNat) v = v * n ^ ch.length + valD n ch
  | [], v => by simp [valD]
  | x :: ch, v => by
    have e1 := valD_from n ch (v * n + x.toNat)
    have e2 := valD_from n ch (0 * n + x.toNat)
    simp only [valD, List.foldl_cons, List.length_cons] at e1 e2 ⊢
    rw [e1, e2, Nat.pow_succ]
    simp only [Nat.zero_mul, Nat.zero_add, Nat.add_mul]
    rw [Nat.mul_assoc, Nat.mul_comm n, Nat.add_assoc]
theorem valD_append (n : Nat) (p q : List Int) : valD n (p ++ q) = valD n p * n ^ q.length + valD n q := by
  unfold valD; rw [List.foldl_append]; exact valD_from n q _
theorem valD_zeros (n m : Nat) : valD n (List.replicate m 0) = 0 := by
  induction m with
  | zero => rfl
  | succ m ih => rw [List.replicate_succ', valD_append, ih]; simp [valD]
theorem valD_one (n : Nat) (x : Int) : valD n [x] = x.toNat := by simp [valD]
def digB (n : Nat) (ch : List Int) : Prop := ∀ x ∈ ch, 0 ≤ x ∧ x < n
theorem valD_lt {n : Nat} (hn : 1 ≤ n) (ch : List Int) (h : digB n ch) : valD n ch < n ^ ch.length := by
  have : ∀ m, m ≤ ch.length → valD n (ch.take m) < n ^ m := by
    intro m
    induction m with
    | zero => intro _; simp [valD]
    | succ m ih =>
      intro hm
      have hx := h _ (List.getElem_mem (show m < ch.length by omega))
      rw [List.take_succ_eq_append_getElem (by omega), valD_append, valD_one]
      have h1 := ih (by omega)
      have h2 : (valD n (ch.take m) + 1) * n ≤ n ^ m * n := Nat.mul_le_mul_right n h1
      rw [Nat.pow_succ]
      rw [Nat.add_mul] at h2
      simp only [List.length_singleton, Nat.pow_one]
      omega
  have := this ch.length (Nat.le_refl _)
  rwa [List.take_length] at this
theorem valD_inj {n : Nat} (hn : 1 ≤ n) : ∀ (k : Nat) {p q : List Int}, p.length = k → q.length = k → digB n p → digB n q → valD n p = valD n q → p = q
  | 0, p, q, h1, h2, _, _, _ => by rw [List.eq_nil_of_length_eq_zero h1, List.eq_nil_of_length_eq_zero h2]
  | k + 1, p, q, h1, h2, hp, hq, h => by
    obtain ⟨p', x, rfl⟩ : ∃ p' x, p = p' ++ [x] := ⟨p.dropLast, p.getLast (by intro e; subst e; simp at h1), (List.dropLast_concat_getLast _).symm⟩
    obtain ⟨q', y, rfl⟩ : ∃ q' y, q = q' ++ [y] := ⟨q.dropLast, q.getLast (by intro e; subst e; simp at h2), (List.dropLast_concat_getLast _).symm⟩
    rw [valD_append, valD_append, valD_one, valD_one] at h
    simp only [List.length_singleton, Nat.pow_one] at h
    have hx := hp x (by simp)
    have hy := hq y (by simp)
    have h3 : valD n p' = valD n q' := by
      have e1 : (valD n p' * n + x.toNat) / n = valD n p' := by rw [Nat.mul_comm, Nat.mul_add_div (by omega), Nat.div_eq_of_lt (by omega)]; rfl
      have e2 : (valD n q' * n + y.toNat) / n = valD n q' := by rw [Nat.mul_comm, Nat.mul_add_div (by omega), Nat.div_eq_of_lt (by omega)]; rfl
      rw [← e1, ← e2, h]
    have h4 : x = y := by rw [h3] at h; omega
    rw [valD_inj hn k (by simpa using h1) (by simpa using h2) (fun z hz => hp z (by simp [hz])) (fun z hz => hq z (by simp [hz])) h3, h4]
theorem next_spec {n : Nat} (hn : 1 ≤ n) : ∀ (k m : Nat) (p : List Int), p.length = k → digB n p →
    ((nextAt n (p ++ List.replicate m 0) k).2 = true → (nextAt n (p ++ List.replicate m 0) k).1.length = k + m ∧ digB n (nextAt n (p ++ List.replicate m 0) k).1 ∧ valD n (nextAt n (p ++ List.replicate m 0) k).1 = valD n (p ++ List.replicate m 0) + n ^ m) ∧
    ((nextAt n (p ++ List.replicate m 0) k).2 = false → valD n (p ++ List.replicate m 0) + n ^ m = n ^ (k + m))
  | 0, m, p, hp, _ => by
    have : p = [] := List.eq_nil_of_length_eq_zero hp
    subst this
    refine ⟨fun h => by simp [nextAt] at h, fun _ => ?_⟩
    rw [List.nil_append, valD_zeros, Nat.zero_add, Nat.zero_add]
  | k + 1, m, p, hp, hd => by
    obtain ⟨p', x, rfl⟩ : ∃ p' x, p = p' ++ [x] := ⟨p.dropLast, p.getLast (by intro e; subst e; simp at hp), (List.dropLast_concat_getLast _).symm⟩
    have hk : p'.length = k := by simpa using hp
    have hx := hd x (by simp)
    have hd' : digB n p' := fun z hz => hd z (by simp [hz])
    have e1 : (p' ++ [x] ++ List.replicate m 0).getD k 0 = x := by simp [List.getD, List.getElem?_append_right, hk]
    have e2 : ∀ v : Int, (p' ++ [x] ++ List.replicate m 0).set k v = p' ++ [v] ++ List.replicate m 0 := by
      intro v
      rw [List.append_assoc, List.set_append_right _ _ (by omega), hk, Nat.sub_self]
      simp
    have e3 : p' ++ [0] ++ List.replicate m 0 = p' ++ List.replicate (m + 1) (0 : Int) := by rw [List.replicate_succ]; simp
    rw [nextAt, e1, e2, e2]
    have v1 : ∀ v : Int, valD n (p' ++ [v] ++ List.replicate m 0) = (valD n p' * n + v.toNat) * n ^ m := by
      intro v; rw [valD_append, valD_append, valD_zeros, valD_one]; simp
    by_cases hlt : x + 1 < n
    · rw [if_pos hlt]
      refine ⟨fun _ => ⟨by simp; omega, ?_, ?_⟩, fun h => by cases h⟩
      · intro z hz
        simp only [List.mem_append, List.mem_singleton] at hz
        rcases hz with (hz | rfl) | hz
        · exact hd' z hz
        · omega
        · rw [List.eq_of_mem_replicate hz]; omega
      · show valD n (p' ++ [x + 1] ++ List.replicate m 0) = _
        rw [v1, v1, show (x + 1).toNat = x.toNat + 1 by omega, ← Nat.add_assoc, Nat.add_mul _ 1, Nat.one_mul]
    · rw [if_neg hlt, e3]
      obtain ⟨i1, i2⟩ := next_spec hn k (m + 1) p' hk hd'
      have v2 : valD n (p' ++ List.replicate (m + 1) 0) + (n - 1) * n ^ m = valD n (p' ++ [x] ++ List.replicate m 0) := by
        rw [← e3, v1, v1, show x.toNat = n - 1 by omega]
        simp [Nat.add_mul]
      have v3 : n ^ (m + 1) = (n - 1) * n ^ m + n ^ m := by
        rw [Nat.pow_succ, Nat.mul_comm, Nat.sub_mul, Nat.one_mul]
        have : 1 * n ^ m ≤ n * n ^ m := Nat.mul_le_mul_right _ hn
        omega
      refine ⟨fun h => ?_, fun h => ?_⟩
      · obtain ⟨j1, j2, j3⟩ := i1 h
        exact ⟨by omega, j2, by omega⟩
      · have := i2 h
        rw [show k + 1 + m = k + (m + 1) by omega]
        omega
/-- The t-th choices. -/
def chAt (n U : Nat) : Nat → List Int
  | 0 => List.replicate U 0
  | t + 1 => (nextAt n (chAt n U t) U).1
theorem nextAt_len (n : Int) : ∀ (k : Nat) (ch : List Int), (nextAt n ch k).1.length = ch.length
  | 0, ch => rfl
  | k + 1, ch => by
    rw [nextAt]
    split
    · simp
    · rw [nextAt_len n k]; simp
theorem chAt_len (n U : Nat) : ∀ t, (chAt n U t).length = U
  | 0 => by simp [chAt]
  | t + 1 => by rw [chAt, nextAt_len, chAt_len n U t]
theorem chAt_spec {n : Nat} (hn : 1 ≤ n) (U : Nat) : ∀ t, t < n ^ U → digB n (chAt n U t) ∧ valD n (chAt n U t) = t ∧ ((nextAt n (chAt n U t) U).2 = decide (t + 1 < n ^ U))
  | 0, h => by
    have hd : digB n (List.replicate U 0) := fun x hx => by rw [List.eq_of_mem_replicate hx]; omega
    refine ⟨hd, valD_zeros n U, ?_⟩
    obtain ⟨i1, i2⟩ := next_spec hn U 0 (List.replicate U 0) (by simp) hd
    simp only [List.replicate_zero, List.append_nil, valD_zeros, Nat.pow_zero, Nat.zero_add, Nat.add_zero] at i1 i2
    rw [chAt]
    cases hb : (nextAt n (List.replicate U 0) U).2 with
    | true =>
      obtain ⟨j1, j2, j3⟩ := i1 hb
      have := valD_lt hn _ j2
      rw [j1, j3] at this
      simp [this]
    | false => have := i2 hb; simp; omega
  | t + 1, h => by
    obtain ⟨h1, h2, h3⟩ := chAt_spec hn U t (by omega)
    obtain ⟨i1, i2⟩ := next_spec hn U 0 (chAt n U t) (chAt_len n U t) h1
    simp only [List.replicate_zero, List.append_nil, Nat.pow_zero, Nat.add_zero] at i1 i2
    rw [h3, decide_eq_true h] at i1
    obtain ⟨j1, j2, j3⟩ := i1 rfl
    rw [h2] at j3
    refine ⟨j2, j3, ?_⟩
    obtain ⟨k1, k2⟩ := next_spec hn U 0 (chAt n U (t + 1)) (chAt_len n U _) j2
    simp only [List.replicate_zero, List.append_nil, Nat.pow_zero, Nat.add_zero] at k1 k2
    rw [show valD n (chAt n U (t + 1)) = t + 1 from j3] at k1 k2
    cases hb : (nextAt n (chAt n U (t + 1)) U).2 with
    | true =>
      obtain ⟨l1, l2, l3⟩ := k1 hb
      have := valD_lt hn _ l2
      rw [l1, l3] at this
      simp [this]
    | false => have := k2 hb; simp; omega
theorem chAt_of {n : Nat} (hn : 1 ≤ n) {U : Nat} {ch : List Int} (hl : ch.length = U) (hd : digB n ch) : valD n ch < n ^ U ∧ ch = chAt n U (valD n ch) := by
  have hv := valD_lt hn ch hd
  rw [hl] at hv
  obtain ⟨h1, h2, _⟩ := chAt_spec hn U _ hv
  exact ⟨hv, valD_inj hn U hl (chAt_len _ _ _) hd h1 h2.symm⟩

/-- All lists of m digits below b, in their order. -/
def allD (b : Nat) : Nat → List (List Int)
  | 0 => [[]]
  | m + 1 => (List.range b).flatMap fun (d : Nat) => (allD b m).map fun s => (d : Int) :: s
theorem range_mul (M : Nat) : ∀ b : Nat, (List.range b).flatMap (fun d => (List.range M).map fun t => d * M + t) = List.range (b * M)
  | 0 => by simp
  | b + 1 => by rw [List.range_succ, List.flatMap_append, range_mul M b, Nat.add_mul, Nat.one_mul, List.range_add]; simp
theorem allD_dig (b : Nat) : ∀ m, ∀ x ∈ allD b m, x.length = m ∧ digB b x
  | 0, x, h => by simp [allD] at h; subst h; exact ⟨rfl, fun y hy => by simp at hy⟩
  | m + 1, x, h => by
    simp only [allD, List.mem_flatMap, List.mem_range, List.mem_map] at h
    obtain ⟨d, hd, s, hs, rfl⟩ := h
    obtain ⟨h1, h2⟩ := allD_dig b m s hs
    refine ⟨by simp [h1], fun y hy => ?_⟩
    rcases List.mem_cons.1 hy with rfl | hy
    · omega
    · exact h2 y hy
theorem allD_val (b : Nat) : ∀ m, (allD b m).map (valD b) = List.range (b ^ m)
  | 0 => by simp [allD, valD]
  | m + 1 => by
    have ih := allD_val b m
    have e : ∀ d : Nat, ((allD b m).map fun s => (d : Int) :: s).map (valD b) = (List.range (b ^ m)).map fun t => d * b ^ m + t := by
      intro d
      rw [← ih, List.map_map, List.map_map]
      refine List.map_congr_left fun s hs => ?_
      have := valD_append b [(d : Int)] s
      rw [valD_one, (allD_dig b m s hs).1] at this
      simpa using this
    rw [allD, List.map_flatMap]
    simp only [e]
    rw [range_mul, Nat.pow_succ, Nat.mul_comm]
theorem allD_eq {b : Nat} (hb : 1 ≤ b) (m : Nat) : allD b m = (List.range (b ^ m)).map (chAt b m) := by
  have hl : (allD b m).length = b ^ m := by have := congrArg List.length (allD_val b m); simpa using this
  apply List.ext_getElem
  · simp [hl]
  · intro t h1 h2
    have ht : t < b ^ m := by omega
    have hv : valD b (allD b m)[t] = t := by
      have h3 : ((allD b m).map (valD b))[t]? = some t := by rw [allD_val]; simp [ht]
      rw [List.getElem?_map, List.getElem?_eq_getElem h1] at h3
      simpa using h3
    obtain ⟨d1, d2⟩ := allD_dig b m _ (List.getElem_mem h1)
    obtain ⟨c1, c2, _⟩ := chAt_spec hb m t ht
    simp only [List.getElem_map, List.getElem_range]
    exact valD_inj hb m d1 (chAt_len _ _ _) d2 c1 (hv.trans c2.symm)
end Go.Proofs.Ytiodkmddmgjikaa
namespace Go.Proofs.Ytiodkmddmgjikaa
set_option linter.unusedVariables false
set_option linter.unusedSimpArgs false
open Go.RowKit

def totalF (c : Cr) (ch : List Int) : Int := sumR (paysF c ch) c.U.toNat
abbrev Best := Option (List Int × Int)
def leastStep (c : Cr) (ch : List Int) : Best → Best
  | none => some (ch, totalF c ch)
  | some (b, l) => if totalF c ch < l then some (ch, totalF c ch) else some (b, l)
def worstStep (c : Cr) (ch : List Int) (s : Best) : Best :=
  if (betterF c ch).isSome then s else match s with
    | none => some (ch, totalF c ch)
    | some (b, m) => if m < totalF c ch then some (ch, totalF c ch) else some (b, m)
/-- What a step makes of the first t choices. -/
def foldC (n U : Nat) (f : List Int → Best → Best) : Nat → Best
  | 0 => none
  | t + 1 => f (chAt n U t) (foldC n U f t)
def fewB (c : Cr) : Bool := decide (c.ways.length ^ c.U.toNat ≤ 4096)
def leastF (c : Cr) : Best := if validB c && fewB c then foldC c.ways.length c.U.toNat (leastStep c) (c.ways.length ^ c.U.toNat) else none
def worstF (c : Cr) : Best := if validB c && fewB c then foldC c.ways.length c.U.toNat (worstStep c) (c.ways.length ^ c.U.toNat) else none
theorem can_chAt {c : Cr} (h : Valid c) {t : Nat} (ht : t < c.ways.length ^ c.U.toNat) : Can c (chAt c.ways.length c.U.toNat t) :=
  ⟨h, by have := chAt_len c.ways.length c.U.toNat t; have := h.u1; omega, fun x hx => (chAt_spec h.w1 _ t ht).1 x hx⟩
theorem zero_lt {c : Cr} (h : Valid c) : 0 < c.ways.length ^ c.U.toNat := Nat.pow_pos h.w1
theorem least_some {c : Cr} {t : Nat} : (foldC c.ways.length c.U.toNat (leastStep c) (t + 1)).isSome := by
  rw [foldC]
  cases foldC c.ways.length c.U.toNat (leastStep c) t with
  | none => rfl
  | some p =>
    obtain ⟨b, l⟩ := p
    simp only [leastStep]
    split <;> rfl
theorem worst_keep {c : Cr} {ch : List Int} {s : Best} (h : s.isSome) : (worstStep c ch s).isSome := by
  unfold worstStep
  split
  · exact h
  · cases s with
    | none => rfl
    | some p =>
      obtain ⟨b, m⟩ := p
      simp only
      split <;> rfl
theorem worst_new {c : Cr} {ch : List Int} {s : Best} (h : betterF c ch = none) : (worstStep c ch s).isSome := by
  unfold worstStep
  rw [h]
  simp only [Option.isSome_none, Bool.false_eq_true, if_false]
  cases s with
  | none => rfl
  | some p =>
    obtain ⟨b, m⟩ := p
    simp only
    split <;> rfl
theorem worst_some {c : Cr} (h : Valid c) : (foldC c.ways.length c.U.toNat (worstStep c) (c.ways.length ^ c.U.toNat)).isSome := by
  have hc := can_chAt h (zero_lt h)
  obtain ⟨h1, h2, _⟩ := restF_rest hc
  obtain ⟨h3, h4⟩ := chAt_of h.w1 (U := c.U.toNat) (by have := h1.len; omega) (fun x hx => h1.mem x hx)
  have key : ∀ t, valD c.ways.length (restF c (chAt c.ways.length c.U.toNat 0)).1 < t → (foldC c.ways.length c.U.toNat (worstStep c) t).isSome := by
    intro t
    induction t with
    | zero => intro h; omega
    | succ t ih =>
      intro hlt
      rw [foldC]
      by_cases e : t = valD c.ways.length (restF c (chAt c.ways.length c.U.toNat 0)).1
      · rw [e, ← h4]
        exact worst_new h2
      · exact worst_keep (ih (by omega))
  exact key _ h3
theorem total_bd {c : Cr} (h : Valid c) (ch : List Int) : -6400000 ≤ totalF c ch ∧ totalF c ch ≤ 6400000 := by
  have := sumR_bd (f := paysF c ch) (m := 800000) (n := c.U.toNat) (fun i _ => pays_bd h ch i)
  have := h.u8
  unfold totalF
  omega
end Go.Proofs.Ytiodkmddmgjikaa
namespace Go.Proofs.Ytiodkmddmgjikaa
set_option linter.unusedVariables false
set_option linter.unusedSimpArgs false
open Go.RowKit

/-- The first index below n for which p says yes; -1 if there is none. -/
def findI (p : Nat → Bool) (n : Nat) : Int := match (List.range n).find? p with
  | some j => j
  | none => -1
theorem findI_here {p : Nat → Bool} {n k : Nat} (hk : k < n) (hp : p k = true) (hb : ∀ j, j < k → p j = false) : findI p n = k := by
  have : (List.range n).find? p = some k := by
    rw [List.find?_range_eq_some]
    exact ⟨hp, by simpa using hk, fun j hj => by simp [hb j hj]⟩
  simp [findI, this]
theorem findI_none {p : Nat → Bool} {n : Nat} (hb : ∀ j, j < n → p j = false) : findI p n = -1 := by
  have : (List.range n).find? p = none := by
    rw [List.find?_eq_none]
    intro j hj
    simp [hb j (by simpa using hj)]
  simp [findI, this]
theorem findI_spec (p : Nat → Bool) (n : Nat) : (∃ k, k < n ∧ p k = true ∧ (∀ j, j < k → p j = false) ∧ findI p n = k) ∨ ((∀ j, j < n → p j = false) ∧ findI p n = -1) := by
  by_cases h : ∃ k, k < n ∧ p k = true
  · obtain ⟨k, hk, hm⟩ : ∃ k, (k < n ∧ p k = true) ∧ ∀ j, j < k → ¬ (j < n ∧ p j = true) := by
      obtain ⟨k, hk⟩ := h
      induction k using Nat.strongRecOn with
      | _ k ih =>
        by_cases hh : ∃ j, j < k ∧ j < n ∧ p j = true
        · obtain ⟨j, h1, h2⟩ := hh; exact ih j h1 h2
        · exact ⟨k, hk, fun j hj hh2 => hh ⟨j, hj, hh2⟩⟩
    have hb : ∀ j, j < k → p j = false := fun j hj => by
      have := hm j hj
      cases hp : p j with
      | false => rfl
      | true => exact absurd ⟨by omega, hp⟩ this
    exact .inl ⟨k, hk.1, hk.2, hb, findI_here hk.1 hk.2 hb⟩
  · have hb : ∀ j, j < n → p j = false := fun j hj => by
      cases hp : p j with
      | false => rfl
      | true => exact absurd ⟨j, hj, hp⟩ h
    exact .inr ⟨hb, findI_none hb⟩
theorem findI_bd (p : Nat → Bool) (n : Nat) : -1 ≤ findI p n ∧ findI p n < n := by
  rcases findI_spec p n with ⟨k, hk, _, _, e⟩ | ⟨_, e⟩ <;> rw [e] <;> omega
def anyI (p : Nat → Bool) (n : Nat) : Bool := decide (0 ≤ findI p n)
theorem anyI_iff {p : Nat → Bool} {n : Nat} : anyI p n = true ↔ ∃ k, k < n ∧ p k = true := by
  unfold anyI
  rw [decide_eq_true_iff]
  rcases findI_spec p n with ⟨k, hk, hp, _, e⟩ | ⟨hb, e⟩
  · rw [e]; exact ⟨fun _ => ⟨k, hk, hp⟩, fun _ => by omega⟩
  · rw [e]
    constructor
    · intro h; omega
    · rintro ⟨k, hk, hp⟩; rw [hb k hk] at hp; cases hp
theorem anyI_no {p : Nat → Bool} {n : Nat} : anyI p n = false ↔ ∀ k, k < n → p k = false := by
  rw [← Bool.not_eq_true, anyI_iff]
  constructor
  · intro h k hk
    cases hp : p k with
    | false => rfl
    | true => exact absurd ⟨k, hk, hp⟩ h
  · rintro h ⟨k, hk, hp⟩; rw [h k hk] at hp; cases hp
theorem range_any (p : Nat → Bool) (n : Nat) : (List.range n).any p = anyI p n := by
  cases h : anyI p n with
  | true =>
    obtain ⟨k, hk, hp⟩ := anyI_iff.1 h
    exact List.any_eq_true.2 ⟨k, by simpa using hk, hp⟩
  | false =>
    rw [List.any_eq_false]
    intro k hk
    rw [anyI_no.1 h k (by simpa using hk)]; simp
theorem findI_congr {p q : Nat → Bool} {n : Nat} (h : ∀ j, j < n → p j = q j) : findI p n = findI q n := by
  unfold findI
  have : ∀ l : List Nat, (∀ j ∈ l, p j = q j) → l.find? p = l.find? q := by
    intro l
    induction l with
    | nil => simp
    | cons x xs ih => intro hl; rw [List.find?_cons, List.find?_cons, hl x (by simp), ih (fun j hj => hl j (by simp [hj]))]
  rw [this _ (fun j hj => h j (by simpa using hj))]

/-- What a slice of one-cell elements holds at an index. -/
theorem Rd.getV {w : World} {B : Nat} {a : Option Addr} {vs : List Value} (h : Rd w B a vs) {k : Nat} (hk : k < vs.length) :
    ∃ b o v, a = some ⟨b, o, none⟩ ∧ b < B ∧ w.cell? ⟨b, o + k, none⟩ = some v ∧ Hid (vs[k]? = some v) := by
  rcases h with h | ⟨b, o, ha, hb, hc⟩
  · subst h; simp at hk
  · exact ⟨b, o, vs[k], ha, hb, by rw [hc k hk, List.getElem?_eq_getElem hk], by simp [Hid, List.getElem?_eq_getElem hk]⟩

/-- The index of a number in a list, -1 if it is not there. -/
def indexI (xs : List Int) (v : Int) : Int := findI (fun j => v == xs.getD j 0) xs.length
def containsI (xs : List Int) (v : Int) : Bool := decide (0 ≤ indexI xs v)
theorem containsI_iff {xs : List Int} {v : Int} : containsI xs v = true ↔ v ∈ xs := by
  show anyI _ _ = true ↔ _
  rw [anyI_iff]
  constructor
  · rintro ⟨k, hk, h⟩
    rw [beq_iff_eq] at h
    rw [h]; exact List.mem_of_getElem? (get_of_lt hk)
  · intro h
    obtain ⟨k, hk, e⟩ := List.getElem_of_mem h
    exact ⟨k, hk, by rw [beq_iff_eq, ← e]; simp [List.getD, hk]⟩

end Go.Proofs.Ytiodkmddmgjikaa
namespace Go.Proofs.Ytiodkmddmgjikaa
set_option linter.unusedVariables false
set_option linter.unusedSimpArgs false
open Go.RowKit

theorem prod_bd {U R : Int} (u1 : 1 ≤ U) (u8 : U ≤ 8) (r1 : 1 ≤ R) (r8 : R ≤ 8) : 1 ≤ U * R ∧ U * R ≤ 64 := by
  have h1 : 1 * 1 ≤ U * R := Int.mul_le_mul u1 r1 (by omega) (by omega)
  have h2 : U * R ≤ 8 * 8 := Int.mul_le_mul u8 r8 (by omega) (by omega)
  omega
theorem pow_bd {R : Int} (r1 : 1 ≤ R) (r8 : R ≤ 8) : 2 ≤ (2 : Int) ^ R.toNat ∧ (2 : Int) ^ R.toNat ≤ 256 := by
  have : R = 1 ∨ R = 2 ∨ R = 3 ∨ R = 4 ∨ R = 5 ∨ R = 6 ∨ R = 7 ∨ R = 8 := by omega
  rcases this with rfl | rfl | rfl | rfl | rfl | rfl | rfl | rfl <;> decide
theorem pow_wrap {R : Int} (r1 : 1 ≤ R) (r8 : R ≤ 8) : wrap64 (wrap64 (2 ^ R.toNat) - 1) = 2 ^ R.toNat - 1 := by
  have := pow_bd r1 r8
  rw [IntWalk.wrap64_in (2 ^ R.toNat) (by omega), IntWalk.wrap64_in _ (by omega)]
set_option maxRecDepth 10000 in
set_option maxHeartbeats 4000000 in
theorem validCrowd_any (w : World) (U R : Int) (a2 : Option Addr) (c2 : Nat) (x2 : List Int) (a3 : Option Addr) (c3 : Nat) (x3 : List Int) (h : RdCrowd w w.heap.size a2 x2 a3 x3) (hl2 : x2.length ≤ 1048576) (hl3 : x3.length ≤ 1048576) :
    Calls Try.prog 13 #[.agg #[.int .i64 U, .int .i64 R, .slice a2 x2.length c2, .slice a3 x3.length c3]] w fun e w' => e = .returned (.bool (validB ⟨U, R, x2, x3⟩)) ∧ Below w.heap.size w w' := by
  have LU := Lib.hid (fun v => within_any U 1 8 v)
  have LR := Lib.hid (fun v => within_any R 1 8 v)
  cases t1 : inB U 1 8 with
  | false =>
    have HF : Hid (validB ⟨U, R, x2, x3⟩ = false) := by simp [Hid, validB, t1]
    rw [t1] at LU
    clear h
    go_enter Try.func13, Try.ntmps13
    go_wp2_with fail
    go_quiet ((go_at_call 35; with_reducible exact qs1 (LU.out _)))
    go_wp2_with fail
    go_ret
    exact ⟨ret_bool HF.out.symm, below_drewN (bl1 _ _) _⟩
  | true =>
    rw [t1] at LU
    cases t2 : inB R 1 8 with
    | false =>
      have HF : Hid (validB ⟨U, R, x2, x3⟩ = false) := by simp [Hid, validB, t1, t2]
      rw [t2] at LR
      clear h
      go_enter Try.func13, Try.ntmps13
      go_wp2_with fail
      go_quiet (first | (go_at_call 35; with_reducible exact qs1 (LU.out _)) | (go_at_call 35; with_reducible exact qs1 (LR.out _)))
      go_wp2_with fail
      go_ret
      exact ⟨ret_bool HF.out.symm, below_drewN (bl1 _ _) _⟩
    | true =>
      rw [t2] at LR
      obtain ⟨u1, u8⟩ := inB_iff.1 t1
      obtain ⟨r1, r8⟩ := inB_iff.1 t2
      obtain ⟨p1, p2⟩ := prod_bd u1 u8 r1 r8
      have epw := pow_wrap r1 r8
      have LW0 := Lib.hid (fun v hb => areMany_any v a2 c2 x2 1 8 1 (wrap64 (wrap64 (2 ^ R.toNat) - 1)) (Rd.to h.1 hb) (by omega))
      have LC0 := Lib.hid (fun v hb => areMany_any v a3 c3 x3 (U * R) (U * R) (-100000) 100000 (Rd.to h.2 hb) (by omega))
      have LW := Lib.hid (fun n => LW0.out _ (below_drewN (bl1 w (.cells #[.int .i64 U, .int .i64 R, .slice a2 x2.length c2, .slice a3 x3.length c3] 26)) n))
      have LC := Lib.hid (fun n => LC0.out _ (below_drewN (bl1 w (.cells #[.int .i64 U, .int .i64 R, .slice a2 x2.length c2, .slice a3 x3.length c3] 26)) n))
      clear LW0 LC0
      have HF : Hid (validB ⟨U, R, x2, x3⟩ = (manyB x2 1 8 1 (wrap64 (wrap64 (2 ^ R.toNat) - 1)) && manyB x3 (U * R) (U * R) (-100000) 100000)) := by
        show _ = _
        rw [epw]
        simp only [validB, t1, t2, Bool.true_and]
      clear epw
      cases t3 : manyB x2 1 8 1 (wrap64 (wrap64 (2 ^ R.toNat) - 1)) with
      | false =>
        have HF2 : Hid (validB ⟨U, R, x2, x3⟩ = false) := by rw [Hid, HF.out, t3]; rfl
        rw [t3] at LW
        clear t3
        go_enter Try.func13, Try.ntmps13
        go_wp2_with fail
        go_quiet (first | (go_at_call 35; with_reducible exact qs1 (LU.out _)) | (go_at_call 35; with_reducible exact qs1 (LR.out _)) | (go_at_call 36; exact qs1 (LW.out _)))
        go_wp2_with fail
        go_ret
        exact ⟨ret_bool HF2.out.symm, below_drewN (bl1 _ _) _⟩
      | true =>
        have HF2 : Hid (validB ⟨U, R, x2, x3⟩ = manyB x3 (U * R) (U * R) (-100000) 100000) := by rw [Hid, HF.out, t3]; rfl
        rw [t3] at LW
        clear t3
        go_enter Try.func13, Try.ntmps13
        go_wp2_with fail
        go_quiet (first | (go_at_call 35; with_reducible exact qs1 (LU.out _)) | (go_at_call 35; with_reducible exact qs1 (LR.out _)) | (go_at_call 36; with_reducible exact qs1 (LC.out _)) | (go_at_call 36; exact qs1 (LW.out _)))
        go_wp2_with fail
        go_ret
        exact ⟨ret_bool HF2.out.symm, below_drewN (bl1 _ _) _⟩
end Go.Proofs.Ytiodkmddmgjikaa
namespace Go.Proofs.Ytiodkmddmgjikaa
set_option linter.unusedVariables false
set_option linter.unusedSimpArgs false
open Go.RowKit
end Go.Proofs.Ytiodkmddmgjikaa
namespace Go.Proofs.Ytiodkmddmgjikaa
set_option linter.unusedVariables false
set_option linter.unusedSimpArgs false
open Go.RowKit

set_option maxRecDepth 10000 in
set_option maxHeartbeats 4000000 in
theorem chosen_any (w : World) (U R : Int) (a2 : Option Addr) (c2 : Nat) (x2 : List Int) (a3 : Option Addr) (c3 : Nat) (x3 : List Int) (a : Option Addr) (c : Nat) (ch : List Int) (h : RdCrowd w w.heap.size a2 x2 a3 x3) (hl2 : x2.length ≤ 1048576) (hl3 : x3.length ≤ 1048576) (g : Rd w w.heap.size a (ints ch)) (hl : ch.length ≤ 1048576) :
    Calls Try.prog 28 #[.agg #[.int .i64 U, .int .i64 R, .slice a2 x2.length c2, .slice a3 x3.length c3], .slice a ch.length c] w fun e w' => e = .returned (.bool (canB ⟨U, R, x2, x3⟩ ch)) ∧ Below w.heap.size w w' := by
  have LV := Lib.hid (fun w' hb => validCrowd_any w' U R a2 c2 x2 a3 c3 x3 (h.to hb) hl2 hl3)
  have LM := Lib.hid (fun w' hb => areMany_any w' a c ch U U 0 ((x2.length : Int) - 1) (g.to hb) (by omega))
  cases t1 : validB ⟨U, R, x2, x3⟩ with
  | false =>
    have HF : Hid (canB ⟨U, R, x2, x3⟩ ch = false) := by simp [Hid, canB, t1]
    rw [t1] at LV
    clear h g
    go_enter Try.func28, Try.ntmps28
    go_wp2_with fail
    refine (LV.out _ (bl1 _ _)).mono ?_
    rintro e w1 ⟨rfl, hb1⟩
    have B1 := below_then (bl1 w _) hb1
    clear hb1
    go_wp2_with fail
    go_ret
    exact ⟨ret_bool HF.out.symm, B1⟩
  | true =>
    have HF : Hid (canB ⟨U, R, x2, x3⟩ ch = manyB ch U U 0 ((x2.length : Int) - 1)) := by simp [Hid, canB, t1]
    rw [t1] at LV
    clear h g
    go_enter Try.func28, Try.ntmps28
    go_wp2_with fail
    refine (LV.out _ (bl1 _ _)).mono ?_
    rintro e w1 ⟨rfl, hb1⟩
    have kA := (Blk.new w [.int .i64 U, .int .i64 R, .slice a2 x2.length c2, .slice a3 x3.length c3] 26).same hb1
    have B1 := below_then (bl1 w (.cells #[.int .i64 U, .int .i64 R, .slice a2 x2.length c2, .slice a3 x3.length c3] 26)) hb1
    have q0 := kA.cell 0
    have q2 := kA.cell 2
    simp only [List.getElem?_cons_zero, List.getElem?_cons_succ] at q0 q2
    have L2 := Lib.hid (LM.out _ B1)
    clear hb1 kA
    go_wp2_with (go_at_call 36; refine L2.out.mono ?_; rintro e w' ⟨rfl, rfl⟩)
    go_ret
    exact ⟨ret_bool HF.out.symm, B1⟩
end Go.Proofs.Ytiodkmddmgjikaa
