/-
  Numbers in two bytes each, appended to a row of bytes of one's own: both roads.
-/
import Derived.Test.YtiimhpopcgiejaaDoorStr
import Derived.Test.YtiimhpopcgiejaaDoorOwn
import Derived.Laws.IdiomStrings
import Derived.Deep.AppendLies
import Derived.Lib.AppendStr
namespace Go.Proofs.YtiimhpopcgiejaaDoor
set_option linter.unusedVariables false
set_option linter.unusedSimpArgs false
open Go.RowKit

/-- Bytes as the cells of a slice. -/
def byc (l : List UInt8) : List Value := l.map fun b => Value.int .u8 (b.toNat : Int)
@[simp] theorem byc_length (l : List UInt8) : (byc l).length = l.length := by simp [byc]
theorem byc_get {l : List UInt8} {j : Nat} (h : j < l.length) : (byc l)[j]? = some (.int .u8 (l[j].toNat : Int)) := by simp [byc, List.getElem?_eq_getElem h]
theorem byc_append (a b : List UInt8) : byc (a ++ b) = byc a ++ byc b := by simp [byc]
theorem byc_str (s : ByteArray) : Lib.strCells s = byc s.data.toList := rfl
theorem add_none2 (b o j : Nat) : (⟨b, o, none⟩ : Addr).add j = ⟨b, o + j, none⟩ := by unfold Addr.add; split <;> simp_all
/-- A number's lowest byte. -/
def byteOf (z : Int) : UInt8 := UInt8.ofNat (z % 256).toNat
theorem byteOf_toNat (z : Int) : ((byteOf z).toNat : Int) = z % 256 := by
  unfold byteOf
  rw [UInt8.toNat_ofNat']
  have h0 := Int.emod_nonneg z (show (256 : Int) ≠ 0 by omega)
  have h1 := Int.emod_lt_of_pos z (show (0 : Int) < 256 by omega)
  omega
theorem wrap_byte (z : Int) : IntKind.u8.wrap z = ((byteOf z).toNat : Int) := by rw [byteOf_toNat]; rfl
/-- Numbers in two bytes each. -/
def twoF (p : Int) (xs : List Int) : List UInt8 := xs.flatMap fun x => [byteOf (x + p), byteOf ((x + p) / 256)]
theorem twoF_snoc (p : Int) (xs : List Int) (k : Nat) (hk : k < xs.length) : twoF p (xs.take (k + 1)) = twoF p (xs.take k) ++ [byteOf (xs.getD k 0 + p), byteOf ((xs.getD k 0 + p) / 256)] := by
  rw [take_succ_getD xs k hk]; simp [twoF]
theorem twoF_length (p : Int) : ∀ xs : List Int, (twoF p xs).length = 2 * xs.length
  | [] => rfl
  | x :: xs => by
    have := twoF_length p xs
    simp [twoF] at this ⊢; omega
/-- Cells of a row of one's own. -/
theorem own_byc {w : World} {base e n c : Nat} {a : Option Addr} {l : List UInt8} (h : w.ownsRow base e 1 (.slice a n c) n (byc l)) (hn : 1 ≤ n) : ∃ g, a = some ⟨g, 0, none⟩ ∧ n = l.length ∧ g < w.heap.size ∧ base ≤ g ∧ ∀ j (hj : j < l.length), w.cell? ⟨g, 0 + j, none⟩ = some (.int .u8 (l[j].toNat : Int)) := by
  obtain ⟨h1, h2⟩ := h
  rcases h2 with ⟨h2, h3⟩ | ⟨g, cap, cur, hv, hg, hh, hm, hc, hs, ht⟩
  · omega
  · injection hv with ha _ _
    have hb : Blk w g cur.toList e := hh
    refine ⟨g, ha, by simpa using h1.symm, lt_of_block hh, hg, fun j hj => ?_⟩
    rw [Nat.zero_add, hb.cell, ← byc_get hj, ← ht, List.getElem?_take, if_pos (by rw [byc_length] at h1; omega)]
theorem append_bycC {P : Program} (wr : World) {ops : Array Oper} {rest : List Oper} {o : Oper} {a : Act} {Q : Exit → Act → World → Prop}
    (hg : o.guard = none) (s x : Operand) (t : TypeId) (hop : o.op = Op.call { callee := Callee.builtin Builtin.append, args := #[s, x], argTypes := #[t, t] })
    (base : Nat) (e : TypeId) (z : Value) (bytes : Nat) (h1 : P.underlying t = some (.slice e)) (hinfo : (P.info? e).map (fun i => (i.zero, i.size, i.bytes)) = some (some z, 1, bytes)) (hz : z.cells.size = 1)
    (v : Value) (n : Nat) (xs : List UInt8) (hs : a.eval s = v) (hown : wr.ownsRow base e 1 v n (byc xs)) (b m c : Nat) (ys : List UInt8) (hx : a.eval x = .slice (some ⟨b, 0, none⟩) m c) (hm : ys.length = m)
    (hcell : ∀ j (hj : j < ys.length), wr.cell? ⟨b, j, none⟩ = some (.int .u8 (ys[j].toNat : Int))) (hb : bytes ≤ 64) (hn : n + m ≤ 1099511627776) (hbase : base ≤ wr.heap.size)
    (hK : ∀ v' w', w'.ownsRow base e 1 v' (n + m) (byc (xs ++ ys)) → wr.grownBy w' v.ownBlock → wpList P ops Q rest (a.put o.dst v') w') :
    wpList P ops Q (o :: rest) a wr := by
  obtain ⟨i, h2, h3, h4, h5⟩ := info_parts hinfo
  have hbb : (n + m) * bytes ≤ 140737488355328 := Nat.le_trans (Nat.mul_le_mul_left (n + m) hb) (by omega)
  refine wpList_append_own wr hg s x t hop base e i z 1 bytes h1 h2 h3 h4 h5 hz (by omega) v n (byc xs) hs hown ⟨b, 0, none⟩ m c (byc ys) hx (by simp; omega) ?_ ?_ (by unfold maxLen; omega) hbb hbase (fun v' w' ho hgr _ => hK v' w' (by rw [byc_append]; exact ho) hgr)
  · intro j u hj
    have hj' : j < ys.length := by have := (List.getElem?_eq_some_iff.1 hj).1; simpa using this
    rw [add_none2, Nat.zero_add, hcell j hj', ← hj, byc_get hj']
  · intro u hu
    obtain ⟨x, _, rfl⟩ := List.mem_map.1 hu
    rfl
theorem blk_byc {w : World} {b : Nat} {ys : List UInt8} {e : TypeId} (h : Blk w b (byc ys) e) : ∀ j (hj : j < ys.length), w.cell? ⟨b, j, none⟩ = some (.int .u8 (ys[j].toNat : Int)) := fun j hj => by rw [h.cell, byc_get hj]
theorem append_byc {P : Program} (wr : World) {ops : Array Oper} {rest : List Oper} {o : Oper} {a : Act} {Q : Exit → Act → World → Prop}
    (hg : o.guard = none) (s x : Operand) (t : TypeId) (hop : o.op = Op.call { callee := Callee.builtin Builtin.append, args := #[s, x], argTypes := #[t, t] })
    (base : Nat) (e : TypeId) (z : Value) (bytes : Nat) (h1 : P.underlying t = some (.slice e)) (hinfo : (P.info? e).map (fun i => (i.zero, i.size, i.bytes)) = some (some z, 1, bytes)) (hz : z.cells.size = 1)
    (v : Value) (n : Nat) (xs : List UInt8) (hs : a.eval s = v) (hown : wr.ownsRow base e 1 v n (byc xs)) (b m c : Nat) (ys : List UInt8) (hx : a.eval x = .slice (some ⟨b, 0, none⟩) m c) (hm : ys.length = m)
    (hcell : Blk wr b (byc ys) e) (hb : bytes ≤ 64) (hn : n + m ≤ 1099511627776) (hbase : base ≤ wr.heap.size)
    (hK : ∀ v' w', w'.ownsRow base e 1 v' (n + m) (byc (xs ++ ys)) → wr.grownBy w' v.ownBlock → wpList P ops Q rest (a.put o.dst v') w') :
    wpList P ops Q (o :: rest) a wr :=
  append_bycC wr hg s x t hop base e z bytes h1 hinfo hz v n xs hs hown b m c ys hx hm (blk_byc hcell) hb hn hbase hK
/-- append to a row that has no room and is not one's own. -/
theorem append_fresh {P : Program} (wr : World) {ops : Array Oper} {rest : List Oper} {o : Oper} {a : Act} {Q : Exit → Act → World → Prop}
    (hg : o.guard = none) (s x : Operand) (t : TypeId) (hop : o.op = Op.call { callee := Callee.builtin Builtin.append, args := #[s, x], argTypes := #[t, t] })
    (base : Nat) (e : TypeId) (h1 : P.underlying t = some (.slice e)) (hinfo : (P.info? e).map (fun i => (i.zero, i.size, i.bytes)) = some (some (.int .u8 0), 1, 1))
    (b0 n : Nat) (xs : List UInt8) (hs : a.eval s = .slice (some ⟨b0, 0, none⟩) n n) (hn : xs.length = n) (hxs : ∀ j (hj : j < xs.length), wr.cell? ⟨b0, j, none⟩ = some (.int .u8 (xs[j].toNat : Int)))
    (b m c : Nat) (ys : List UInt8) (hx : a.eval x = .slice (some ⟨b, 0, none⟩) m c) (hm : ys.length = m) (hm0 : 0 < m)
    (hcell : ∀ j (hj : j < ys.length), wr.cell? ⟨b, j, none⟩ = some (.int .u8 (ys[j].toNat : Int))) (hnm : n + m ≤ 1099511627776) (hbase : base ≤ wr.heap.size)
    (hK : ∀ a' c' w', w'.ownsRow base e 1 (.slice a' (n + m) c') (n + m) (byc (xs ++ ys)) → Below wr.heap.size wr w' → wpList P ops Q rest (a.put o.dst (.slice a' (n + m) c')) w') :
    wpList P ops Q (o :: rest) a wr := by
  obtain ⟨i, h2, h3, h4, h5⟩ := info_parts hinfo
  refine wpList_plain hg fun _ hK' => ?_
  have hr := run_append_grow (P := P) wr t o.type e i (.int .u8 0) h1 h2 h3 ⟨b0, 0, none⟩ n n (byc xs) (by rw [byc_length, h4]; omega) (fun j u hj => by
      have hj' : j < xs.length := by have := (List.getElem?_eq_some_iff.1 hj).1; simpa using this
      rw [add_none2, Nat.zero_add, hxs j hj', ← hj, byc_get hj']) ⟨b, 0, none⟩ m c (byc ys) (by rw [byc_length, h4]; omega) (fun j u hj => by
      have hj' : j < ys.length := by have := (List.getElem?_eq_some_iff.1 hj).1; simpa using this
      rw [add_none2, Nat.zero_add, hcell j hj', ← hj, byc_get hj']) (by omega) (by omega) (by rw [h5]; exact growslice_fits (by omega) (by omega))
  unfold Oper.wp execOp
  simp only [hop, resolve, invoke, builtin, Sem.run_bind, Sem.run_pure, Result.andThen_ok, List.map_toArray, List.map_cons, List.map_nil, hs, hx, hr]
  have hge := grownCap_ge wr (n + m) n e
  have hcm : grownCap wr (n + m) n e ≤ maxLen := grownCap_le_maxLen wr (n + m) n e (by unfold maxLen; omega)
  have hlen : (byc (xs ++ ys)).length = (n + m) * 1 := by simp; omega
  refine hK' _ _ (hK _ _ _ ⟨hlen, .inr ⟨wr.heap.size, _, _, rfl, hbase, heap_alloc_new wr.drew _, hge, hcm, ?_, ?_⟩⟩ ((below_drew' (Below.refl _ wr)).alloc (Nat.le_refl _) _))
  · have hz1 : (Value.int IntKind.u8 0).cells.size = 1 := rfl
    simp only [Array.size_append, List.size_toArray, size_zeroCells, hz1, byc_length]
    omega
  · rw [byc_append] at hlen ⊢
    simp only [Array.toList_append]
    rw [← hlen]
    exact List.take_left
/-- append of bytes as a step of a region that draws its order. -/
theorem step_byc {P : Program} {ops : Array Oper} {o : Oper} {a : Act} {wr : World} {K : Act → World → Prop} {Q : Exit → Act → World → Prop} {E : Prop}
    (d : Nat) (hd : o.dst = some d) (hg : o.guard = none) (s x : Operand) (t : TypeId) (hop : o.op = Op.call { callee := Callee.builtin Builtin.append, args := #[s, x], argTypes := #[t, t] })
    (base : Nat) (e : TypeId) (z : Value) (bytes : Nat) (h1 : P.underlying t = some (.slice e)) (hinfo : (P.info? e).map (fun i => (i.zero, i.size, i.bytes)) = some (some z, 1, bytes)) (hz : z.cells.size = 1)
    (v : Value) (n : Nat) (xs : List UInt8) (hs : a.eval s = v) (hown : wr.ownsRow base e 1 v n (byc xs)) (b m c : Nat) (ys : List UInt8) (hx : a.eval x = .slice (some ⟨b, 0, none⟩) m c) (hm : ys.length = m) (hmp : 0 < m)
    (hcell : Blk wr b (byc ys) e) (hb : bytes ≤ 64) (hn : n + m ≤ 1099511627776) (hbase : base ≤ wr.heap.size)
    (hK : ∀ g c w', w'.ownsRow base e 1 (.slice (some ⟨g, 0, none⟩) (n + m) c) (n + m) (byc (xs ++ ys)) → wr.grownBy w' v.ownBlock → K (a.put (some d) (.slice (some ⟨g, 0, none⟩) (n + m) c)) w') :
    if Region.wanted o (yielded ops a.tmps) = true then Oper.wp P o a wr K Q else E := by
  obtain ⟨i, h2, h3, h4, h5⟩ := info_parts hinfo
  have hbb : (n + m) * bytes ≤ 140737488355328 := Nat.le_trans (Nat.mul_le_mul_left (n + m) hb) (by omega)
  refine step_append_lies _ hg s x t hop base e i z 1 bytes h1 h2 h3 h4 h5 hz (by omega) v n (byc xs) hs hown ⟨b, 0, none⟩ m c (byc ys) hx (by simp; omega) ?_ ?_ hmp (by unfold maxLen; omega) hbb hbase wr.heap.size rfl (fun g c w' ho hgr _ _ => by rw [hd]; exact hK g c w' (by rw [byc_append]; exact ho) hgr)
  · intro j u hj
    rw [add_none2, Nat.zero_add, hcell.cell]; exact hj
  · intro u hu
    obtain ⟨x, _, rfl⟩ := List.mem_map.1 hu
    rfl
/-- append of a string's bytes as a step of a region that draws its order. -/
theorem step_str {P : Program} {ops : Array Oper} {o : Oper} {a : Act} {wr : World} {K : Act → World → Prop} {Q : Exit → Act → World → Prop} {E : Prop}
    (d : Nat) (hd : o.dst = some d) (hg : o.guard = none) (s x : Operand) (t u : TypeId) (hop : o.op = Op.call { callee := Callee.builtin Builtin.append, args := #[s, x], argTypes := #[t, u] })
    (base : Nat) (e : TypeId) (h1 : P.underlying t = some (.slice e)) (hu : P.underlying u = some .string) (hinfo : (P.info? e).map (fun i => (i.zero, i.size, i.bytes)) = some (some (.int .u8 0), 1, 1))
    (v : Value) (n : Nat) (xs : List UInt8) (hs : a.eval s = v) (hown : wr.ownsRow base e 1 v n (byc xs)) (str : ByteArray) (hx : a.eval x = .string str) (hn : n + str.size ≤ 1099511627776) (hbase : base ≤ wr.heap.size)
    (hK0 : ∀ a' c w', w'.ownsRow base e 1 (.slice a' (n + str.size) c) (n + str.size) (byc (xs ++ str.data.toList)) → wr.grownBy w' v.ownBlock → K (a.put (some d) (.slice a' (n + str.size) c)) w') :
    if Region.wanted o (yielded ops a.tmps) = true then Oper.wp P o a wr K Q else E := by
  have hK : ∀ a' c w', w'.ownsRow base e 1 (.slice a' (n + str.size) c) (n + str.size) (byc (xs ++ str.data.toList)) → wr.grownBy w' v.ownBlock → K (a.put o.dst (.slice a' (n + str.size) c)) w' := by rw [hd]; exact hK0
  obtain ⟨i, h2, h3, h4, h5⟩ := info_parts hinfo
  obtain ⟨v', w', hr, ho, hgr, _⟩ := Lib.run_append_own_string (P := P) wr base t u o.type e i h1 hu h2 h3 h4 h5 v n (byc xs) hown str (by unfold maxLen; omega) (by omega) hbase
  have hw : Region.wanted o (yielded ops a.tmps) = true := by simp [Region.wanted, hg]
  rw [if_pos hw]
  unfold Oper.wp execOp
  simp only [hop, resolve, invoke, builtin, Sem.run_bind, Sem.run_pure, Result.andThen_ok, List.map_toArray, List.map_cons, List.map_nil, hs, hx, hr]
  rw [byc_str, ← byc_append] at ho
  obtain ⟨a', c', rfl, _⟩ := own_shape ho
  exact hK a' c' w' ho hgr
/-- The block of two bytes just made; of one. -/
theorem blk_two (w : World) {u v : Int} {b1 b2 : UInt8} (T : TypeId) (h1 : u = (b1.toNat : Int)) (h2 : v = (b2.toNat : Int)) : Blk (w.alloc (.cells #[.int .u8 u, .int .u8 v] T)) w.heap.size (byc [b1, b2]) T := by
  subst h1 h2
  exact Blk.new w [Value.int .u8 (b1.toNat : Int), .int .u8 (b2.toNat : Int)] T
theorem blk_one (w : World) {u : Int} {b1 : UInt8} (T : TypeId) (h1 : u = (b1.toNat : Int)) : Blk (w.alloc (.cells #[.int .u8 u] T)) w.heap.size (byc [b1]) T := by
  subst h1
  exact Blk.new w [Value.int .u8 (b1.toNat : Int)] T
theorem blk_one' (w : World) {g : Nat} {u : Int} {b1 : UInt8} (T : TypeId) (hg : w.heap.size = g) (h1 : u = (b1.toNat : Int)) : Blk (w.alloc (.cells #[.int .u8 u] T)) g (byc [b1]) T := hg ▸ blk_one w T h1
theorem blk_two' (w : World) {g : Nat} {u v : Int} {b1 b2 : UInt8} (T : TypeId) (hg : w.heap.size = g) (h1 : u = (b1.toNat : Int)) (h2 : v = (b2.toNat : Int)) : Blk (w.alloc (.cells #[.int .u8 u, .int .u8 v] T)) g (byc [b1, b2]) T := hg ▸ blk_two w T h1 h2
end Go.Proofs.YtiimhpopcgiejaaDoor
