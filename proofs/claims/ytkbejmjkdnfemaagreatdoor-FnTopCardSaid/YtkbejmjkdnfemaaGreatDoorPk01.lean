/-
  Part 1 of what the proof stands on: lemmas and contracts, each with its conditions ahead of the colon.
-/
import Derived.WalkKit
import Derived.WalkSpells
import Derived.WalkLawsBesides
import Derived.Deep.QuietTactic
import Derived.BigQuiet
import Derived.Deep.RegionWith
import Derived.Lib.Hide
import Derived.Test.YtkbejmjkdnfemaaGreatDoorRows
import Derived.Laws.FloatArith
namespace Go.Proofs.YtkbejmjkdnfemaaGreatDoor
set_option linter.unusedVariables false
set_option linter.unusedSimpArgs false
open Go.RowKit

/-- Integers of 64 bits as the cells of a slice. -/
def ints (xs : List Int) : List Value := xs.map (Value.int .i64)
@[simp] theorem ints_length (xs : List Int) : (ints xs).length = xs.length := by simp [ints]
@[simp] theorem ints_nil : ints [] = [] := rfl
theorem ints_get (xs : List Int) (k : Nat) (hk : k < xs.length) : (ints xs)[k]? = some (.int .i64 (xs.getD k 0)) := by
  simp [ints, List.getD, List.getElem?_eq_getElem hk]
theorem ints_append (xs ys : List Int) : ints (xs ++ ys) = ints xs ++ ints ys := by simp [ints]
theorem ints_set (xs : List Int) (k : Nat) (x : Int) : ints (xs.set k x) = (ints xs).set k (.int .i64 x) := by simp [ints, List.map_set]
theorem getD_of_get {xs : List Int} {k : Nat} {x : Int} (h : xs[k]? = some x) : xs.getD k 0 = x := by simp [List.getD, h]
theorem get_of_lt {xs : List Int} {k : Nat} (h : k < xs.length) : xs[k]? = some (xs.getD k 0) := by simp [List.getD, List.getElem?_eq_getElem h]
/-- The slice 'a' reads as the cells 'vs' (one cell an element), in a block below B. -/
def Rd (w : World) (B : Nat) (a : Option Addr) (vs : List Value) : Prop :=
  vs = [] ∨ ∃ b o, a = some ⟨b, o, none⟩ ∧ b < B ∧ ∀ j, j < vs.length → w.cell? ⟨b, o + j, none⟩ = vs[j]?

theorem Rd.mono {w : World} {B B' : Nat} {a : Option Addr} {vs : List Value} (h : Rd w B a vs) (hB : B ≤ B') : Rd w B' a vs := by
  rcases h with h | ⟨b, o, ha, hb, hc⟩
  · exact .inl h
  · exact .inr ⟨b, o, ha, by omega, hc⟩

theorem Rd.below {w w' : World} {B C : Nat} {a : Option Addr} {vs : List Value} (h : Rd w B a vs) (hb : Below C w w') (hB : B ≤ C) : Rd w' B a vs := by
  rcases h with h | ⟨b, o, ha, hb', hc⟩
  · exact .inl h
  · exact .inr ⟨b, o, ha, hb', fun j hj => by rw [hb.cell (p := ⟨b, o + j, none⟩) (by show b < C; omega)]; exact hc j hj⟩

/-- What a slice of integers holds at an index. -/
theorem Rd.at {w : World} {B : Nat} {a : Option Addr} {xs : List Int} (h : Rd w B a (ints xs)) {k : Nat} (hk : k < xs.length) :
    ∃ b o, a = some ⟨b, o, none⟩ ∧ b < B ∧ ∀ j, j < xs.length → w.cell? ⟨b, o + j, none⟩ = some (.int .i64 (xs.getD j 0)) := by
  rcases h with h | ⟨b, o, ha, hb, hc⟩
  · have : (ints xs).length = 0 := by rw [h]; rfl
    simp at this; subst this; simp at hk
  · exact ⟨b, o, ha, hb, fun j hj => by rw [hc j (by simpa using hj)]; exact ints_get xs j hj⟩

/-- .. with the number behind a name, the equation hidden. -/
theorem Rd.get {w : World} {B : Nat} {a : Option Addr} {xs : List Int} (h : Rd w B a (ints xs)) {k : Nat} (hk : k < xs.length) :
    ∃ b o x, a = some ⟨b, o, none⟩ ∧ b < B ∧ w.cell? ⟨b, o + k, none⟩ = some (.int .i64 x) ∧ Hid (xs[k]? = some x) := by
  obtain ⟨b, o, ha, hb, hc⟩ := h.at hk
  exact ⟨b, o, xs.getD k 0, ha, hb, hc k hk, by simp [Hid, List.getD, List.getElem?_eq_getElem hk]⟩

theorem Rd.nil (w : World) (B : Nat) (a : Option Addr) : Rd w B a [] := .inl rfl

/-- A block as a whole, nothing of it frozen. -/
def Blk (w : World) (b : Nat) (cs : List Value) (t : TypeId) : Prop := w.heap[b]? = some (.cells cs.toArray t (0, 0))
section
variable {w : World} {b : Nat} {cs : List Value} {t : TypeId}
theorem Blk.cell (h : Blk w b cs t) (j : Nat) : w.cell? ⟨b, j, none⟩ = cs[j]? := by simp [World.cell?, show w.heap[b]? = _ from h]
theorem Blk.has (h : Blk w b cs t) {j : Nat} (hj : j < cs.length) : ∃ v, w.cell? ⟨b, j, none⟩ = some v := ⟨cs[j], by rw [h.cell, List.getElem?_eq_getElem hj]⟩
theorem Blk.free (h : Blk w b cs t) (j : Nat) : w.frozen? ⟨b, j, none⟩ = false := by simp [World.frozen?, show w.heap[b]? = _ from h]
theorem Blk.lt (h : Blk w b cs t) : b < w.heap.size := lt_of_block h
theorem Blk.set (h : Blk w b cs t) (j : Nat) (u : Value) : Blk (w.setCell ⟨b, j, none⟩ u) b (cs.set j u) t := by
  have := heap_setCell_same w b j cs.toArray t u h
  rwa [List.setIfInBounds_toArray] at this
theorem Blk.other (h : Blk w b cs t) {p : Addr} (hp : b ≠ p.block) (u : Value) : Blk (w.setCell p u) b cs t := (Below.heap_setCell w p u b hp).trans h
theorem Blk.oth (h : Blk w b cs t) {g : Nat} (hne : b ≠ g) (j : Nat) (u : Value) : Blk (w.setCell ⟨g, j, none⟩ u) b cs t := h.other (p := ⟨g, j, none⟩) hne u
theorem Blk.alloc (h : Blk w b cs t) (o : Obj) : Blk (w.alloc o) b cs t := (Below.heap_alloc w o b h.lt).trans h
theorem Blk.below {w' : World} {B : Nat} (h : Blk w b cs t) (hb : Below B w w') (hB : b < B) : Blk w' b cs t := (hb.block b hB).trans h
theorem Blk.same {w' : World} (h : Blk w b cs t) (hb : Below w.heap.size w w') : Blk w' b cs t := h.below hb h.lt
theorem Blk.grown {w' : World} {row : Option Nat} (h : Blk w b cs t) (hg : w.grownBy w' row) (hr : some b ≠ row) : Blk w' b cs t := (hg.block b h.lt hr).trans h
theorem Blk.drewN (h : Blk w b cs t) (n : Nat) : Blk (w.drewN n) b cs t := h
theorem Blk.new (w : World) (cs : List Value) (t : TypeId) : Blk (w.alloc (.cells cs.toArray t)) w.heap.size cs t := heap_alloc_new w _
theorem Blk.rd (h : Blk w b cs t) {B : Nat} (hB : b < B) : Rd w B (some ⟨b, 0, none⟩) cs :=
  .inr ⟨b, 0, rfl, hB, fun j _ => by rw [Nat.zero_add, h.cell]⟩
theorem Blk.at {xs : List Int} (h : Blk w b (ints xs) t) {k : Nat} (hk : k < xs.length) : w.cell? ⟨b, k, none⟩ = some (.int .i64 (xs.getD k 0)) := by
  rw [h.cell]; exact ints_get xs k hk
theorem Blk.setI {xs : List Int} (h : Blk w b (ints xs) t) (j : Nat) (x : Int) : Blk (w.setCell ⟨b, j, none⟩ (.int .i64 x)) b (ints (xs.set j x)) t := by
  rw [ints_set]; exact h.set j _
theorem Blk.owns (h : Blk w b cs t) {base : Nat} (hb : base ≤ b) (hm : cs.length ≤ maxLen) : w.ownsRow base t 1 (.slice (some ⟨b, 0, none⟩) cs.length cs.length) cs.length cs :=
  ⟨by simp, .inr ⟨b, cs.length, cs.toArray, rfl, hb, h, Nat.le_refl _, hm, by simp, List.take_of_length_le (by simp)⟩⟩
end

/-- An owned row reads as its cells. -/
theorem rd_of_own {w : World} {base e : Nat} {a : Option Addr} {n c m : Nat} {xs : List Value} (h : w.ownsRow base e 1 (.slice a n c) m xs) {B : Nat} (hB : w.heap.size ≤ B) : Rd w B a xs := by
  obtain ⟨h1, h2⟩ := h
  rcases h2 with ⟨h2, h3⟩ | ⟨g, cap, cur, hv, hg, hh, hn, hm, hs, ht⟩
  · exact .inl (List.eq_nil_of_length_eq_zero (by omega))
  · injection hv with ha _ _
    refine .inr ⟨g, 0, ha, Nat.lt_of_lt_of_le (lt_of_block hh) hB, fun j hj => ?_⟩
    have hb : Blk w g cur.toList e := hh
    rw [Nat.zero_add, hb.cell, ← ht, List.getElem?_take, if_pos (by rw [h1] at hj; exact hj)]

/-- The shape of an owned slice value. -/
theorem own_shape {w : World} {base e : Nat} {v : Value} {n : Nat} {xs : List Value} (h : w.ownsRow base e 1 v n xs) : ∃ a c, v = .slice a n c ∧ n ≤ c ∧ (a = none → n = 0) := by
  rcases h.2 with ⟨h2, h3⟩ | ⟨g, cap, cur, hv, hg, hh, hn, hm, hs, ht⟩
  · exact ⟨none, 0, by rw [h2, h3], by omega, fun _ => h3⟩
  · exact ⟨_, cap, hv, hn, fun h => by cases h⟩

/-- Writes to one block leave alone what another one owns. -/
theorem own_grown {w w' : World} {base e g : Nat} {v : Value} {n : Nat} {xs : List Value} (h : w.ownsRow base e 1 v n xs) (hg : w.grownBy w' (some g)) (hne : g < base) : w'.ownsRow base e 1 v n xs := by
  refine h.kept hg (.inr fun e => ?_)
  have := h.lt g e
  omega
theorem Rd.grown {w w' : World} {g B : Nat} {a : Option Addr} {vs : List Value} (h : Rd w B a vs) (hg : w.grownBy w' (some g)) (hB : B ≤ g) (hB2 : B ≤ w.heap.size) : Rd w' B a vs := by
  rcases h with h | ⟨b, o, ha, hb, hc⟩
  · exact .inl h
  · exact .inr ⟨b, o, ha, hb, fun j hj => by rw [World.cell?_of_block (w := w) (hg.block b (by omega) (by intro e; injection e; omega))]; exact hc j hj⟩
theorem own_below {w w' : World} {base e size : Nat} {v : Value} {n : Nat} {xs : List Value} (h : w.ownsRow base e size v n xs) (hb : Below w.heap.size w w') : w'.ownsRow base e size v n xs :=
  h.kept (row := none) ⟨hb.os, hb.tape, hb.output, hb.size, fun k hk _ => hb.block k hk⟩ (by cases v.ownBlock <;> simp)

theorem own_base {w : World} {base base' e size : Nat} {v : Value} {n : Nat} {xs : List Value} (h : w.ownsRow base e size v n xs) (hb : base' ≤ base) : w.ownsRow base' e size v n xs := by
  refine ⟨h.1, ?_⟩
  rcases h.2 with h | ⟨g, cap, cur, hv, hg, r⟩
  · exact .inl h
  · exact .inr ⟨g, cap, cur, hv, by omega, r⟩

/-- make([]T, n) for an element type of one cell: a block of n zero values. -/
theorem wpList_make_blk {P : Program} (w : World) {ops : Array Oper} {rest : List Oper} {o : Oper} {a : Act} {Q : Exit → Act → World → Prop}
    (hg : o.guard = none) (l c : Operand) (t : TypeId) (hop : o.op = Op.makeSlice t l c)
    (e : TypeId) (z : Value) (bytes : Nat) (h1 : P.underlying t = some (.slice e)) (hinfo : (P.info? e).map (fun i => (i.zero, i.size, i.bytes)) = some (some z, 1, bytes)) (hz : z.cells = #[z])
    (kl kc : IntKind) (n : Nat) (hl : a.eval l = .int kl (n : Int)) (hc : a.eval c = .int kc (n : Int)) (b2 : bytes * n ≤ 281474976710656) (b3 : n ≤ maxLen)
    (hK : ∀ w', Blk w' w.heap.size (List.replicate n z) e → Below w.heap.size w w' → w'.heap.size = w.heap.size + 1 → wpList P ops Q rest (a.put o.dst (.slice (some ⟨w.heap.size, 0, none⟩) n n)) w') :
    wpList P ops Q (o :: rest) a w := by
  obtain ⟨i, h2, h3, h4, h5⟩ := info_parts hinfo
  refine wpList_plain hg fun K hK' => ?_
  have b2' : (i.bytes : Int) * (n : Int) ≤ 281474976710656 := by rw [h5]; have : ((bytes * n : Nat) : Int) ≤ 281474976710656 := by omega
                                                                 rwa [Int.natCast_mul] at this
  have hr := run_make (P := P) w t e i z h1 h2 h3 kl kc n n (by omega) (Int.le_refl _) b2' (by unfold maxLen at b3; omega)
  simp only [Int.toNat_natCast, hz, h4, Nat.mul_one] at hr
  have e1 : madeCells #[z] n = (List.replicate n z).toArray := by rw [← toList_madeCells_one z n]
  rw [e1] at hr
  unfold Oper.wp
  simp [execOp, hop, hl, hc, hr, Result.andThen]
  exact hK' _ _ (by simpa using hK _ (Blk.new w _ e) ((Below.refl _ w).alloc (Nat.le_refl _) _) (by simp))

/-- append of one element (of one cell) to a slice that the call owns: the element lies in a block of its own that has just been made. -/
theorem wpList_append_one {P : Program} (wr : World) {ops : Array Oper} {rest : List Oper} {o : Oper} {a : Act} {Q : Exit → Act → World → Prop}
    (hg : o.guard = none) (s x : Operand) (t : TypeId) (hop : o.op = Op.call { callee := Callee.builtin Builtin.append, args := #[s, x], argTypes := #[t, t] })
    (base : Nat) (e : TypeId) (z : Value) (bytes : Nat) (h1 : P.underlying t = some (.slice e)) (hinfo : (P.info? e).map (fun i => (i.zero, i.size, i.bytes)) = some (some z, 1, bytes)) (hz : z.cells.size = 1)
    (v : Value) (n : Nat) (xs : List Value) (hs : a.eval s = v) (hown : wr.ownsRow base e 1 v n xs) (y : Value) (hy : y.oneCell' = true)
    (hx : a.eval x = .slice (some ⟨wr.heap.size, 0, none⟩) 1 1) (hb : bytes ≤ 64) (hn : n ≤ 1099511627776) (hbase : base ≤ wr.heap.size)
    (hK : ∀ v' w', w'.ownsRow base e 1 v' (n + 1) (xs ++ [y]) → wr.grownBy w' v.ownBlock → wpList P ops Q rest (a.put o.dst v') w') :
    wpList P ops Q (o :: rest) a (wr.alloc (.cells #[y] e)) := by
  obtain ⟨i, h2, h3, h4, h5⟩ := info_parts hinfo
  have hbb : (n + 1) * bytes ≤ 140737488355328 := Nat.le_trans (Nat.mul_le_mul_left (n + 1) hb) (by omega)
  refine wpList_append_own (wr.alloc (.cells #[y] e)) hg s x t hop base e i z 1 bytes h1 h2 h3 h4 h5 hz (by omega) v n xs hs (hown.alloc _) ⟨wr.heap.size, 0, none⟩ 1 1 [y] hx rfl ?_ ?_ (by unfold maxLen; omega) hbb (by simp; omega) ?_
  · intro j u hj
    match j, hj with
    | 0, hj =>
      simp at hj
      subst hj
      simp [Addr.add]
    | j + 1, hj => simp at hj
  · intro u hu
    simp at hu
    subst hu
    exact hy
  · intro v' w' ho hgr _
    refine hK v' w' ho ⟨hgr.os, hgr.tape, hgr.output, ?_, fun k hk hne => ?_⟩
    · have := hgr.size; simp at this; omega
    · rw [hgr.block k (by simp; omega) hne]
      exact Below.heap_alloc _ _ _ hk
/-- '[]T{}': nothing, in a block of its own. -/
theorem own_empty (w : World) (e : Nat) : (w.alloc (.cells #[] e)).ownsRow w.heap.size e 1 (.slice (some ⟨w.heap.size, 0, none⟩) 0 0) 0 [] :=
  World.ownsRow_made w #[] 0 (Nat.le_refl _) (Nat.zero_le _) rfl
/-- What an append leaves below the owned stretch. -/
theorem below_append {w wr w' : World} {B base e : Nat} {v : Value} {n : Nat} {xs : List Value} (h : Below B w wr) (ho : wr.ownsRow base e 1 v n xs) (hg : wr.grownBy w' v.ownBlock) (hB : B ≤ base) (hB2 : B ≤ wr.heap.size) : Below B w w' :=
  h.grown hg hB2 fun k hk => Nat.le_trans hB (ho.lt k hk).1

theorem ints_replicate (n : Nat) (x : Int) : List.replicate n (Value.int .i64 x) = ints (List.replicate n x) := by simp [ints]

/-- A callee that leaves the world alone, met in a region that draws: with one count of draws, or with two. -/
theorem qs1 {P : Program} {f : FuncId} {args : Array Value} {w : World} {n : Nat} {v : Value} (h : Calls P f args (w.drewN n) fun e w' => e = .returned v ∧ w.drewN n = w') :
    Calls P f args (w.drewN n) fun e w'' => e = .returned v ∧ ∃ k, w'' = w.drewN k := h.mono fun _ _ h => ⟨h.1, n, h.2.symm⟩
theorem drewN_below (w : World) (n : Nat) : Below w.heap.size w (w.drewN n) := ⟨rfl, rfl, rfl, Nat.le_refl _, fun _ _ => rfl⟩
theorem grown_of_grown {w w1 w2 : World} {r : Option Nat} (h : w.grownBy w1 r) (h2 : w1.grownBy w2 r) : w.grownBy w2 r :=
  ⟨h2.os.trans h.os, h2.tape.trans h.tape, h2.output.trans h.output, Nat.le_trans h.size h2.size, fun i hi hne => (h2.block i (Nat.lt_of_lt_of_le hi h.size) hne).trans (h.block i hi hne)⟩

theorem ret_int {k : IntKind} {a b : Int} (h : a = b) : Ending.returned (.int k a) = .returned (.int k b) := by rw [h]
theorem ret_bool {a b : Bool} (h : a = b) : Ending.returned (.bool a) = .returned (.bool b) := by rw [h]

/-- The first k of two lists of one length are alike. -/
theorem take_eq_succ {α : Type} {xs ys : List α} {k : Nat} {x y : α} (hx : xs[k]? = some x) (hy : ys[k]? = some y) (h : xs.take k = ys.take k) : xs.take (k + 1) = ys.take (k + 1) ↔ x = y := by
  rw [List.take_add_one, List.take_add_one, hx, hy, h]
  simp

theorem ne_of_get {α : Type} {xs ys : List α} {k : Nat} {x y : α} (hx : xs[k]? = some x) (hy : ys[k]? = some y) (h : x ≠ y) : xs ≠ ys := by
  intro e; subst e; rw [hx] at hy; exact h (by injection hy)

theorem Rd.to {w w' : World} {a : Option Addr} {vs : List Value} (h : Rd w w.heap.size a vs) (hb : Below w.heap.size w w') : Rd w' w'.heap.size a vs :=
  (h.below hb (Nat.le_refl _)).mono hb.size
theorem below_sto {B : Nat} {a w : World} (h : Below B a w) {g : Nat} (hB : B ≤ g) (j : Nat) (u : Value) : Below B a (w.setCell ⟨g, j, none⟩ u) := h.setCell (p := ⟨g, j, none⟩) hB u
theorem below_drew' {B : Nat} {w w' : World} (h : Below B w w') : Below B w w'.drew := h.drew
theorem bl1 (w : World) (o : Obj) : Below w.heap.size w (w.alloc o) := (Below.refl _ w).alloc (Nat.le_refl _) o
theorem bl2 (w : World) (o p : Obj) : Below w.heap.size w ((w.alloc o).alloc p) := (bl1 w o).alloc (by simp) p
theorem bl3 (w : World) (o p q : Obj) : Below w.heap.size w (((w.alloc o).alloc p).alloc q) := (bl2 w o p).alloc (by simp; omega) q
theorem below_then {w w1 w2 : World} (h : Below w.heap.size w w1) (h2 : Below w1.heap.size w1 w2) : Below w.heap.size w w2 := h.trans (h2.mono h.size)

/-- The answer of a function that gives integers or says no: 'none': nil and false; 'some xs': a new slice of xs and true. -/
def RetI (T : Nat) (w : World) (r : Option (List Int)) (e : Ending) (w' : World) : Prop :=
  Below w.heap.size w w' ∧ match r with
    | none => e = .returned (.tuple #[.slice none 0 0, .bool false])
    | some xs => ∃ a c, e = .returned (.tuple #[.slice a xs.length c, .bool true]) ∧ w'.ownsRow w.heap.size T 1 (.slice a xs.length c) xs.length (ints xs)
theorem RetI.no {T : Nat} {w w' : World} (h : Below w.heap.size w w') : RetI T w none (.returned (.tuple #[.slice none 0 0, .bool false])) w' := ⟨h, rfl⟩
theorem below_drewN {B : Nat} {w w' : World} (h : Below B w w') (n : Nat) : Below B w (w'.drewN n) := ⟨h.os, h.tape, h.output, h.size, h.block⟩

end Go.Proofs.YtkbejmjkdnfemaaGreatDoor
namespace Go.Proofs.YtkbejmjkdnfemaaGreatDoor
set_option linter.unusedVariables false
set_option linter.unusedSimpArgs false
open Go.RowKit

/-- Only blocks from lo to hi (hi not among them) may have turned; new ones may have come. -/
structure Touch (w w' : World) (lo hi : Nat) : Prop where
  os : w'.os = w.os
  tape : w'.tape = w.tape
  output : w'.output = w.output
  size : w.heap.size ≤ w'.heap.size
  block : ∀ k, k < w.heap.size → (k < lo ∨ hi ≤ k) → w'.heap[k]? = w.heap[k]?

theorem Touch.refl (w : World) (lo hi : Nat) : Touch w w lo hi := ⟨rfl, rfl, rfl, Nat.le_refl _, fun _ _ _ => rfl⟩
theorem Touch.of_grown {w w' : World} {g lo hi : Nat} (h : w.grownBy w' (some g)) (h1 : lo ≤ g) (h2 : g < hi) : Touch w w' lo hi :=
  ⟨h.os, h.tape, h.output, h.size, fun k hk hd => h.block k hk (by intro e; injection e; omega)⟩
theorem Touch.trans {a b c : World} {lo hi : Nat} (h : Touch a b lo hi) (k : Touch b c lo hi) : Touch a c lo hi :=
  ⟨k.os.trans h.os, k.tape.trans h.tape, k.output.trans h.output, Nat.le_trans h.size k.size, fun i hi hd => (k.block i (Nat.lt_of_lt_of_le hi h.size) hd).trans (h.block i hi hd)⟩
theorem Touch.mono {w w' : World} {lo hi lo' hi' : Nat} (h : Touch w w' lo hi) (h1 : lo' ≤ lo) (h2 : hi ≤ hi') : Touch w w' lo' hi' :=
  ⟨h.os, h.tape, h.output, h.size, fun k hk hd => h.block k hk (by omega)⟩
theorem Below.touch {w w' : World} (h : Below w.heap.size w w') (lo hi : Nat) : Touch w w' lo hi := ⟨h.os, h.tape, h.output, h.size, fun k hk _ => h.block k hk⟩
theorem below_touch {B lo hi : Nat} {w w1 w2 : World} (h : Below B w w1) (ht : Touch w1 w2 lo hi) (hB : B ≤ lo) (hB2 : B ≤ w1.heap.size) : Below B w w2 :=
  h.trans ⟨ht.os, ht.tape, ht.output, ht.size, fun k hk => ht.block k (by omega) (.inl (by omega))⟩

theorem Rd.touch {w w' : World} {lo hi B : Nat} {a : Option Addr} {vs : List Value} (h : Rd w B a vs) (ht : Touch w w' lo hi) (hB : B ≤ lo) (hs : B ≤ w.heap.size) : Rd w' B a vs := by
  rcases h with h | ⟨b, o, ha, hb, hc⟩
  · exact .inl h
  · exact .inr ⟨b, o, ha, hb, fun j hj => by rw [World.cell?_of_block (w := w) (ht.block b (by omega) (.inl (by omega)))]; exact hc j hj⟩
theorem Blk.touch {w w' : World} {lo hi b : Nat} {cs : List Value} {t : TypeId} (h : Blk w b cs t) (ht : Touch w w' lo hi) (hd : b < lo ∨ hi ≤ b) : Blk w' b cs t := (ht.block b h.lt hd).trans h

/-- A slice of integers that lies in a stretch of its own. -/
def OwnI (T : Nat) (w : World) (lo hi : Nat) (a : Option Addr) (c : Nat) (xs : List Int) : Prop :=
  w.ownsRow lo T 1 (.slice a xs.length c) xs.length (ints xs) ∧ ∀ b, a = some b → b.block < hi

section
variable {T lo hi c : Nat} {w w' : World} {a : Option Addr} {xs : List Int}
theorem OwnI.of_own (h : w.ownsRow lo T 1 (.slice a xs.length c) xs.length (ints xs)) : OwnI T w lo w.heap.size a c xs :=
  ⟨h, fun b hb => (h.lt b.block (by simp [Value.ownBlock, hb])).2⟩
theorem OwnI.of_blk {b : Nat} (h : Blk w b (ints xs) T) (hl : xs.length ≤ 1152921504606846976) : OwnI T w b (b + 1) (some ⟨b, 0, none⟩) xs.length xs :=
  ⟨by have := h.owns (Nat.le_refl b) (by rw [ints_length]; unfold maxLen; omega); rwa [ints_length] at this, fun _ hb => by injection hb with hb; subst hb; show b < b + 1; omega⟩
theorem OwnI.rd (h : OwnI T w lo hi a c xs) : Rd w hi a (ints xs) := by
  rcases rd_of_own h.1 (Nat.le_refl _) with h' | ⟨b, o, ha, hb, hc⟩
  · exact .inl h'
  · exact .inr ⟨b, o, ha, h.2 _ ha, hc⟩
theorem OwnI.cap (h : OwnI T w lo hi a c xs) : xs.length ≤ c := by
  obtain ⟨a', c', e, h2, _⟩ := own_shape h.1
  injection e with _ _ e
  omega
theorem OwnI.keep (h : OwnI T w lo hi a c xs) (hb : Below w.heap.size w w') : OwnI T w' lo hi a c xs := ⟨own_below h.1 hb, h.2⟩
theorem OwnI.touch {lo' hi' : Nat} (h : OwnI T w lo hi a c xs) (ht : Touch w w' lo' hi') (hd : hi ≤ lo' ∨ hi' ≤ lo) : OwnI T w' lo hi a c xs := by
  refine ⟨⟨h.1.1, ?_⟩, h.2⟩
  rcases h.1.2 with h2 | ⟨g, cap, cur, hv, hg, hh, r⟩
  · exact .inl h2
  · have h3 : g < hi := by
      injection hv with ha _ _
      exact h.2 _ ha
    refine .inr ⟨g, cap, cur, hv, hg, ?_, r⟩
    rw [ht.block g (lt_of_block hh) (by omega)]
    exact hh
theorem OwnI.mono {lo' hi' : Nat} (h : OwnI T w lo hi a c xs) (h1 : lo' ≤ lo) (h2 : hi ≤ hi') : OwnI T w lo' hi' a c xs :=
  ⟨own_base h.1 h1, fun b hb => Nat.lt_of_lt_of_le (h.2 b hb) h2⟩
end
end Go.Proofs.YtkbejmjkdnfemaaGreatDoor
namespace Go.Proofs.YtkbejmjkdnfemaaGreatDoor
set_option linter.unusedVariables false
set_option linter.unusedSimpArgs false
open Go.RowKit

/-- What the marks are: k, k + 1, and so on. -/
def marks (n : Nat) (k : Int) : List Int := (List.range n).map fun (i : Nat) => k + (i : Int)
@[simp] theorem marks_length (n : Nat) (k : Int) : (marks n k).length = n := by simp [marks]
/-! In terms of stretches. -/
end Go.Proofs.YtkbejmjkdnfemaaGreatDoor
namespace Go.Proofs.YtkbejmjkdnfemaaGreatDoor
set_option linter.unusedVariables false
set_option linter.unusedSimpArgs false
open Go.RowKit

def flts (xs : List Nat) : List Value := xs.map fun x => Value.float .f32 x
theorem run_store_float (P : Program) (w : World) (a : Addr) (m : Mode) (k : FloatKind) (b : Nat) : (store a (.float k b) m).run P w = stored P w a (.float k b) m := run_store P w a _ m rfl
attribute [local go_sem] run_store_float
end Go.Proofs.YtkbejmjkdnfemaaGreatDoor
namespace Go.Proofs.YtkbejmjkdnfemaaGreatDoor
set_option linter.unusedVariables false
set_option linter.unusedSimpArgs false
open Ieee

theorem cut_none (neg : Bool) (n : Nat) : Toward.even.cut neg n 0 = n := by
  simp [Toward.cut, Nat.mod_one]
theorem read_word (neg : Bool) (a r : Nat) (hr : r < 4503599627370496) (ha : a < 2046) :
    double.read (double.word neg (a * 4503599627370496 + (4503599627370496 + r))) = .number neg (4503599627370496 + r) (-1074 + (a : Int)) := by
  have hsw : double.signWeight = 9223372036854775808 := by decide
  have hbi : double.binade = 4503599627370496 := by decide
  have hin : double.infRung = 9218868437227405312 := by decide
  have hlp : double.leastPlace = -1074 := by decide
  have h1 : double.word neg (a * 4503599627370496 + (4503599627370496 + r)) % 9223372036854775808 = a * 4503599627370496 + (4503599627370496 + r) := by
    unfold Format.word
    rw [hsw]
    split <;> omega
  have h2 : (double.word neg (a * 4503599627370496 + (4503599627370496 + r)) / 9223372036854775808 % 2 == 1) = neg := by
    unfold Format.word
    rw [hsw]
    cases neg
    · simp; omega
    · simp; omega
  unfold Format.read
  simp only [hsw, hbi, hin, hlp, h1, h2]
  rw [if_neg (by omega), if_pos (by omega)]
  congr 1
  · omega
  · omega
theorem wide_read (neg : Bool) (mag : Nat) (place : Int) (hm : 0 < mag) (h24 : mag < 16777216) (p0 : -149 ≤ place) (p1 : place ≤ 104) :
    ∃ m p, double.read (double.nearest neg mag place) = .number neg m p ∧ 0 < m := by
  have hlp : double.leastPlace = -1074 := by decide
  have hbi : double.binade = 4503599627370496 := by decide
  have hin : double.infRung = 9218868437227405312 := by decide
  have hfb : (double.fractionBits : Int) = 52 := by decide
  obtain ⟨L, hL⟩ : ∃ L, L = mag.log2 := ⟨_, rfl⟩
  have l1 : 2 ^ L ≤ mag := by rw [hL]; exact Nat.log2_self_le (by omega)
  have l2 : mag < 2 ^ (L + 1) := by rw [hL]; exact Nat.lt_log2_self
  have l3 : L ≤ 23 := by
    rcases Nat.lt_or_ge 23 L with h | h
    · have : 2 ^ 24 ≤ 2 ^ L := Nat.pow_le_pow_right (by omega) (by omega)
      omega
    · exact h
  have e1 : max (place + (L : Int) - 52) (-1074) = place + (L : Int) - 52 := by omega
  have e2 : (place - (place + (L : Int) - 52)).toNat = 52 - L := by omega
  have e3 : (place + (L : Int) - 52 - place).toNat = 0 := by omega
  have k1 : 4503599627370496 ≤ mag * 2 ^ (52 - L) := by
    have := Nat.mul_le_mul_right (2 ^ (52 - L)) l1
    rw [← Nat.pow_add, show L + (52 - L) = 52 from by omega] at this
    omega
  have k2 : mag * 2 ^ (52 - L) < 9007199254740992 := by
    have := Nat.mul_lt_mul_of_pos_right l2 (Nat.two_pow_pos (52 - L))
    rw [← Nat.pow_add, show L + 1 + (52 - L) = 53 from by omega] at this
    omega
  obtain ⟨r, hr⟩ : ∃ r, mag * 2 ^ (52 - L) = 4503599627370496 + r := ⟨mag * 2 ^ (52 - L) - 4503599627370496, by omega⟩
  have hnear : double.nearest neg mag place = double.word neg (((place + (L : Int) - 52) - (-1074)).toNat * 4503599627370496 + (4503599627370496 + r)) := by
    unfold Format.nearest
    rw [if_neg (by omega)]
    simp only [hlp, hbi, hin, hfb, ← hL, e1, e2, e3, cut_none, Nat.shiftLeft_eq]
    rw [hr, Nat.min_eq_left (by omega)]
  rw [hnear, read_word neg _ r (by omega) (by omega)]
  exact ⟨_, _, rfl, by omega⟩
theorem order_self (d : Datum) : (∃ n f, d = .nan n f) ∨ d.order d = some .eq := by
  cases d with
  | nan n f => exact .inl ⟨_, _, rfl⟩
  | infinity n => right; cases n <;> rfl
  | number n m p => right; simp [Datum.order]
end Go.Proofs.YtkbejmjkdnfemaaGreatDoor
