/-
  Part 6 of what the proof stands on: lemmas and contracts, each with its conditions ahead of the colon.
-/
import Derived.BigQuiet
import Derived.Deep.AppendLies
import Derived.Test.YtkbejmjkdnfemaaGreatDoorPk01
import Derived.Test.YtkbejmjkdnfemaaGreatDoorPk02
import Derived.Test.YtkbejmjkdnfemaaGreatDoorPk03
namespace Go.Proofs.YtkbejmjkdnfemaaGreatDoor
set_option linter.unusedVariables false
set_option linter.unusedSimpArgs false
open Go.RowKit

/-- A cell of a table. -/
def cellT (C : Nat) (xs : List Int) (i k : Nat) : Int := xs.getD (i * C + k) 0
theorem cell_in {R C i k : Nat} (hi : i < R) (hk : k < C) : i * C + k < R * C := by
  have h : i * C + C ≤ R * C := by
    have := Nat.mul_le_mul_right C (show i + 1 ≤ R from hi)
    rw [Nat.add_mul, Nat.one_mul] at this
    exact this
  omega
/-- The first m numbers of a table that is turned. -/
def flipL (R C : Nat) (xs : List Int) (m : Nat) : List Int := (List.range m).map fun j => cellT C xs (j % R) (j / R)
theorem flipL_len (R C : Nat) (xs : List Int) (m : Nat) : (flipL R C xs m).length = m := by simp [flipL]
theorem flipL_succ {R C : Nat} (xs : List Int) {k i : Nat} (hi : i < R) : flipL R C xs (k * R + i + 1) = flipL R C xs (k * R + i) ++ [cellT C xs i k] := by
  have e1 : (k * R + i) % R = i := by rw [Nat.add_comm, Nat.add_mul_mod_self_right, Nat.mod_eq_of_lt hi]
  have e2 : (k * R + i) / R = k := by rw [Nat.add_comm, Nat.add_mul_div_right _ _ (by omega), Nat.div_eq_of_lt hi]; omega
  unfold flipL
  rw [List.range_succ, List.map_append, List.map_singleton, e1, e2]
/-- A row that is worse than another one. -/
def worseB (C : Nat) (xs : List Int) (i j : Nat) : Bool := !anyI (fun k => decide (cellT C xs j k ≤ cellT C xs i k)) C
def worseL (R C : Nat) (xs : List Int) (n : Nat) : List Int := ((List.range n).filter fun i => anyI (worseB C xs i) R).map fun (j : Nat) => (j : Int)
theorem worseL_succ (R C : Nat) (xs : List Int) (n : Nat) : worseL R C xs (n + 1) = if anyI (worseB C xs n) R = true then worseL R C xs n ++ [(n : Int)] else worseL R C xs n := by
  unfold worseL
  rw [List.range_succ, List.filter_append]
  by_cases h : anyI (worseB C xs n) R = true
  · rw [if_pos h]; simp [h]
  · rw [if_neg h]; simp [h]
theorem worseL_len (R C : Nat) (xs : List Int) (n : Nat) : (worseL R C xs n).length ≤ n := by
  unfold worseL
  rw [List.length_map]
  exact Nat.le_trans (List.length_filter_le _ _) (by simp)
theorem worseL_mem {R C : Nat} {xs : List Int} {n : Nat} {z : Int} (h : z ∈ worseL R C xs n) : ∃ j : Nat, z = (j : Int) ∧ j < n := by
  unfold worseL at h
  obtain ⟨j, hj, rfl⟩ := List.mem_map.1 h
  exact ⟨j, rfl, List.mem_range.1 (List.mem_filter.1 hj).1⟩
/-- Some rows and columns of a table. -/
def ofL (C : Nat) (xs rows cols : List Int) : List Int := rows.flatMap fun i => cols.map fun k => cellT C xs i.toNat k.toNat
theorem ofL_len (C : Nat) (xs rows cols : List Int) : (ofL C xs rows cols).length = rows.length * cols.length := by
  unfold ofL
  induction rows with
  | nil => simp
  | cons i rows ih => rw [List.flatMap_cons, List.length_append, ih, List.length_map, List.length_cons, Nat.add_mul, Nat.one_mul, Nat.add_comm]
theorem ofL_row (C : Nat) (xs cols : List Int) {rows : List Int} {k : Nat} {i : Int} (h : rows[k]? = some i) : ofL C xs (rows.take (k + 1)) cols = ofL C xs (rows.take k) cols ++ cols.map fun k => cellT C xs i.toNat k.toNat := by
  unfold ofL
  rw [List.take_add_one, h, List.flatMap_append]
  simp
/-- Those of a list that are not left out, by their places. -/
def leaveL (list places : List Int) (n : Nat) : List Int := ((List.range n).filter fun (j : Nat) => !containsI places (j : Int)).map fun j => list.getD j 0
theorem leaveL_succ (list places : List Int) (n : Nat) : leaveL list places (n + 1) = if containsI places (n : Int) = true then leaveL list places n else leaveL list places n ++ [list.getD n 0] := by
  unfold leaveL
  rw [List.range_succ, List.filter_append]
  by_cases h : containsI places (n : Int) = true
  · rw [if_pos h]; simp [h]
  · rw [if_neg h]; simp [h]
theorem leaveL_len (list places : List Int) (n : Nat) : (leaveL list places n).length ≤ n := by
  unfold leaveL
  rw [List.length_map]
  exact Nat.le_trans (List.length_filter_le _ _) (by simp)
theorem leaveL_mem {list places : List Int} {n : Nat} (hn : n ≤ list.length) {z : Int} (h : z ∈ leaveL list places n) : z ∈ list := by
  unfold leaveL at h
  obtain ⟨j, hj, rfl⟩ := List.mem_map.1 h
  have := List.mem_range.1 (List.mem_filter.1 hj).1
  rw [List.getD, List.getElem?_eq_getElem (show j < list.length by omega)]
  exact List.getElem_mem _
/-- The best rows of a column so far, as they are found. -/
def bestC (f : Nat → Int) : Nat → List Int
  | 0 => []
  | i + 1 => match bestC f i with
    | [] => [(i : Int)]
    | o :: t => if f i < f o.toNat then o :: t else if f o.toNat < f i then [(i : Int)] else o :: t ++ [(i : Int)]
theorem bestC_len (f : Nat → Int) : ∀ i, (bestC f i).length ≤ i
  | 0 => by simp [bestC]
  | i + 1 => by
    have ih := bestC_len f i
    rw [bestC]
    split
    · simp
    · rename_i o t h
      rw [h] at ih
      split
      · omega
      · split
        · simp
        · simp only [List.length_append, List.length_cons, List.length_nil] at ih ⊢; omega
theorem bestC_mem (f : Nat → Int) : ∀ i, ∀ z ∈ bestC f i, ∃ j : Nat, z = (j : Int) ∧ j < i
  | 0, z, h => by simp [bestC] at h
  | i + 1, z, h => by
    have ih := bestC_mem f i
    rw [bestC] at h
    split at h
    · rw [List.mem_singleton] at h
      exact ⟨i, h, by omega⟩
    · rename_i o t hb
      have old : ∀ z ∈ o :: t, ∃ j : Nat, z = (j : Int) ∧ j < i + 1 := fun z hz => by
        obtain ⟨j, h1, h2⟩ := ih z (by rw [hb]; exact hz)
        exact ⟨j, h1, by omega⟩
      split at h
      · exact old z h
      · split at h
        · rw [List.mem_singleton] at h
          exact ⟨i, h, by omega⟩
        · rcases List.mem_append.1 h with h | h
          · exact old z h
          · rw [List.mem_singleton] at h
            exact ⟨i, h, by omega⟩
/-- The best rows of a column. -/
def bestR (R C : Nat) (xs : List Int) (k : Nat) : List Int := bestC (fun i => cellT C xs i k) R
/-- Whether nobody gains at a cell by another choice: ys is the second one's table, turned. -/
def pureB (R C : Nat) (xs ys : List Int) (m : Nat) : Bool := containsI (bestR R C xs (m % C)) ((m / C : Nat) : Int) && containsI (bestR C R ys (m / C)) ((m % C : Nat) : Int)
def pureL (R C : Nat) (xs ys : List Int) (m : Nat) : List Int := ((List.range m).filter (pureB R C xs ys)).map fun (j : Nat) => (j : Int)
theorem pureL_succ {R C : Nat} (xs ys : List Int) {i k : Nat} (hk : k < C) : pureL R C xs ys (i * C + k + 1) = if (containsI (bestR R C xs k) (i : Int) && containsI (bestR C R ys i) (k : Int)) = true then pureL R C xs ys (i * C + k) ++ [((i * C + k : Nat) : Int)] else pureL R C xs ys (i * C + k) := by
  have e1 : (i * C + k) % C = k := by rw [Nat.add_comm, Nat.add_mul_mod_self_right, Nat.mod_eq_of_lt hk]
  have e2 : (i * C + k) / C = i := by rw [Nat.add_comm, Nat.add_mul_div_right _ _ (by omega), Nat.div_eq_of_lt hk]; omega
  have hB : pureB R C xs ys (i * C + k) = (containsI (bestR R C xs k) (i : Int) && containsI (bestR C R ys i) (k : Int)) := by
    unfold pureB
    rw [e1, e2]
  rw [← hB]
  unfold pureL
  rw [List.range_succ, List.filter_append]
  by_cases h : pureB R C xs ys (i * C + k) = true
  · rw [if_pos h]; simp [h]
  · rw [if_neg h]; simp [h]
theorem pureL_len (R C : Nat) (xs ys : List Int) (m : Nat) : (pureL R C xs ys m).length ≤ m := by
  unfold pureL
  rw [List.length_map]
  exact Nat.le_trans (List.length_filter_le _ _) (by simp)
/-- The least of the first n numbers of a row. -/
def leastN (f : Nat → Int) : Nat → Int
  | 0 => f 0
  | n + 1 => min (leastN f n) (f (n + 1))
/-- The row whose least is greatest, and this. -/
def safeN (R C : Nat) (xs : List Int) : Nat → Int × Int
  | 0 => (0, 0)
  | i + 1 => if i = 0 ∨ (safeN R C xs i).2 < leastN (cellT C xs i) (C - 1) then ((i : Int), leastN (cellT C xs i) (C - 1)) else safeN R C xs i
end Go.Proofs.YtkbejmjkdnfemaaGreatDoor
namespace Go.Proofs.YtkbejmjkdnfemaaGreatDoor
set_option linter.unusedVariables false
set_option linter.unusedSimpArgs false
open Go.RowKit

theorem cell_idx {C i k n : Nat} (h : i * C + k < n) (hn : n ≤ 1048576) : ∃ J : Nat, (i : Int) * (C : Int) + (k : Int) = (J : Int) ∧ J < n ∧ J = i * C + k ∧ 0 ≤ (i : Int) * (C : Int) ∧ (i : Int) * (C : Int) ≤ 1048576 := by
  have e : (i : Int) * (C : Int) = ((i * C : Nat) : Int) := (Int.natCast_mul i C).symm
  refine ⟨i * C + k, by rw [e, Int.natCast_add], h, rfl, by rw [e]; omega, by rw [e]; omega⟩
set_option maxHeartbeats 2000000 in
theorem ga_any (w : World) (R : Int) (C i k : Nat) (aA : Option Addr) (cA : Nat) (xA : List Int) (vB : Value) (h : Rd w w.heap.size aA (ints xA)) (hi : i * C + k < xA.length) (hl : xA.length ≤ 1048576) :
    Calls Tryz.prog 153 #[.agg #[.int .i64 R, .int .i64 C, .slice aA xA.length cA, vB], .int .i64 i, .int .i64 k] w fun e w' => e = .returned (.int .i64 (cellT C xA i k)) ∧ Below w.heap.size w w' := by
  obtain ⟨J, hJ, hJl, hJe, m0, m1⟩ := cell_idx hi hl
  obtain ⟨b, o, y, rfl, hbb, hck, hy⟩ := h.get (k := J) hJl
  have HF : Hid (cellT C xA i k = y) := by
    unfold cellT
    rw [Hid, ← hJe]
    exact getD_of_get hy.out
  have hbb' : b ≠ w.heap.size := by omega
  clear h hy hi hJe
  go_enter Tryz.func153, Tryz.ntmps153
  go_wp2_with fail
  go_ret
  exact ⟨ret_int HF.out.symm, bl1 _ _⟩
set_option maxHeartbeats 2000000 in
theorem gb_any (w : World) (R : Int) (C i k : Nat) (vA : Value) (aB : Option Addr) (cB : Nat) (xB : List Int) (h : Rd w w.heap.size aB (ints xB)) (hi : i * C + k < xB.length) (hl : xB.length ≤ 1048576) :
    Calls Tryz.prog 154 #[.agg #[.int .i64 R, .int .i64 C, vA, .slice aB xB.length cB], .int .i64 i, .int .i64 k] w fun e w' => e = .returned (.int .i64 (cellT C xB i k)) ∧ Below w.heap.size w w' := by
  obtain ⟨J, hJ, hJl, hJe, m0, m1⟩ := cell_idx hi hl
  obtain ⟨b, o, y, rfl, hbb, hck, hy⟩ := h.get (k := J) hJl
  have HF : Hid (cellT C xB i k = y) := by
    unfold cellT
    rw [Hid, ← hJe]
    exact getD_of_get hy.out
  have hbb' : b ≠ w.heap.size := by omega
  clear h hy hi hJe
  go_enter Tryz.func154, Tryz.ntmps154
  go_wp2_with fail
  go_ret
  exact ⟨ret_int HF.out.symm, bl1 _ _⟩
end Go.Proofs.YtkbejmjkdnfemaaGreatDoor
namespace Go.Proofs.YtkbejmjkdnfemaaGreatDoor
set_option linter.unusedVariables false
set_option linter.unusedSimpArgs false
open Go.RowKit

/-- What append gives back lies where the row lay, or in a block that is new. -/
theorem append_block {P : Program} (w : World) (base : Nat) (t ty e : TypeId) (i : TypeInfo) (z : Value) (ht : P.underlying t = some (.slice e)) (hi : P.info? e = some i) (hz : i.zero = some z) (hsize : i.size = 1)
    (v : Value) (n : Nat) (xs : List Value) (hown : w.ownsRow base e 1 v n xs) (a : Addr) (m c : Nat) (news : List Value) (hl : news.length = m * 1) (hnews : ∀ j u, news[j]? = some u → w.cell? (a.add j) = some u) (h1 : ∀ u ∈ news, u.oneCell' = true)
    (hm : 0 < m) (h63 : n + m ≤ maxLen) (hbytes : (n + m) * i.bytes ≤ 140737488355328) {v' : Value} {w' : World} (hr : (Builtin.append_ #[t, t] ty #[v, .slice (some a) m c]).run P w = .ok v' w') :
    v'.ownBlock = v.ownBlock ∨ v'.ownBlock = some w.heap.size := by
  have hsmall : n + m ≤ 9223372036854775807 := by simp only [maxLen] at h63; omega
  rw [← hsize] at hl
  rcases hown.2 with ⟨rfl, rfl⟩ | ⟨g, cap, cur, rfl, hbg, hg, hnc, hcm, hcs, htake⟩
  · have hr2 := run_append_nil (P := P) w t ty e i z ht hi hz a m c news hl hnews (by omega) (by omega) (by have hb := hbytes; simp only [Nat.zero_add] at hb; omega)
    rw [hr2] at hr
    injection hr with hr _
    subst hr
    exact .inr rfl
  · by_cases hroom : n + m ≤ cap
    · have hfit : n * i.size + news.length ≤ cur.size := by rw [hl, hcs, hsize, ← Nat.add_mul]; exact Nat.mul_le_mul_right _ hroom
      have hr2 := run_append_room (P := P) w t ty e i ht hi g n cap cur hg a m c news hl hnews h1 hroom hfit
      rw [hr2] at hr
      injection hr with hr _
      subst hr
      exact .inl rfl
    · have holds : ∀ j u, xs[j]? = some u → w.cell? ((⟨g, 0, none⟩ : Addr).add j) = some u := hown.cells (g := g) rfl
      have hr2 := run_append_grow (P := P) w t ty e i z ht hi hz ⟨g, 0, none⟩ n cap xs (by rw [hsize]; exact hown.1) holds a m c news hl hnews (by omega) (by omega) (growslice_fits (by omega) hbytes)
      rw [hr2] at hr
      injection hr with hr _
      subst hr
      exact .inr rfl

theorem wpList_append_blk {P : Program} (wr : World) {ops : Array Oper} {rest : List Oper} {o : Oper} {a : Act} {Q : Exit → Act → World → Prop}
    (hg : o.guard = none) (s x : Operand) (t : TypeId) (hop : o.op = Op.call { callee := Callee.builtin Builtin.append, args := #[s, x], argTypes := #[t, t] })
    (base : Nat) (e : TypeId) (z : Value) (bytes : Nat) (h1 : P.underlying t = some (.slice e)) (hinfo : (P.info? e).map (fun i => (i.zero, i.size, i.bytes)) = some (some z, 1, bytes)) (hz : z.cells.size = 1)
    (v : Value) (n : Nat) (xs : List Value) (hs : a.eval s = v) (hown : wr.ownsRow base e 1 v n xs) (y : Value) (hy : y.oneCell' = true)
    (hx : a.eval x = .slice (some ⟨wr.heap.size, 0, none⟩) 1 1) (hb : bytes ≤ 64) (hn : n ≤ 1099511627776) (hbase : base ≤ wr.heap.size)
    (hK : ∀ v' w', w'.ownsRow base e 1 v' (n + 1) (xs ++ [y]) → wr.grownBy w' v.ownBlock → (∀ g, g < wr.heap.size → some g ≠ v.ownBlock → some g ≠ v'.ownBlock) → wpList P ops Q rest (a.put o.dst v') w') :
    wpList P ops Q (o :: rest) a (wr.alloc (.cells #[y] e)) := by
  obtain ⟨i, h2, h3, h4, h5⟩ := info_parts hinfo
  have hbb : (n + 1) * bytes ≤ 140737488355328 := Nat.le_trans (Nat.mul_le_mul_left (n + 1) hb) (by omega)
  have hnews : ∀ j u, [y][j]? = some u → (wr.alloc (.cells #[y] e)).cell? ((⟨wr.heap.size, 0, none⟩ : Addr).add j) = some u := by
    intro j u hj
    match j, hj with
    | 0, hj =>
      simp at hj
      subst hj
      simp [Addr.add]
    | j + 1, hj => simp at hj
  have hone : ∀ u ∈ [y], u.oneCell' = true := by
    intro u hu
    simp at hu
    subst hu
    exact hy
  refine wpList_plain hg fun _ hK' => ?_
  obtain ⟨v', w', hr, ho, hgr, _⟩ := run_append_own (P := P) (wr.alloc (.cells #[y] e)) base t o.type e i z 1 bytes h1 h2 h3 h4 h5 hz (by omega) v n xs (hown.alloc _) ⟨wr.heap.size, 0, none⟩ 1 1 [y] rfl hnews hone (by unfold maxLen; omega) hbb (by simp; omega)
  have hblk := append_block (wr.alloc (.cells #[y] e)) base t o.type e i z h1 h2 h3 h4 v n xs (hown.alloc _) ⟨wr.heap.size, 0, none⟩ 1 1 [y] rfl hnews hone (by omega) (by unfold maxLen; omega) (by rw [h5]; exact hbb) hr
  unfold Oper.wp execOp
  simp only [hop, resolve, invoke, builtin, Sem.run_bind, Sem.run_pure, Result.andThen_ok, List.map_toArray, List.map_cons, List.map_nil, hs, hx, hr]
  refine hK' _ _ (hK v' w' ho ⟨hgr.os, hgr.tape, hgr.output, ?_, fun k hk hne => ?_⟩ fun g hgl hgv hgv' => ?_)
  · have := hgr.size; simp at this; omega
  · rw [hgr.block k (by simp; omega) hne]
    exact Below.heap_alloc _ _ _ hk
  · rcases hblk with h | h
    · exact hgv (hgv'.trans h)
    · rw [h] at hgv'
      injection hgv' with hgv'
      simp at hgv'
      omega

/-- Two rows in blocks of their own. -/
def Apart (u v : Value) : Prop := ∀ g, u.ownBlock = some g → v.ownBlock ≠ some g
theorem Apart.symm {u v : Value} (h : Apart u v) : Apart v u := fun g h1 h2 => h g h2 h1
theorem own_apart {w w' : World} {base e n : Nat} {u v : Value} {xs : List Value} (h : w.ownsRow base e 1 v n xs) (hg : w.grownBy w' u.ownBlock) (ha : Apart u v) : w'.ownsRow base e 1 v n xs := by
  refine h.kept hg ?_
  cases hv : v.ownBlock with
  | none => exact .inl rfl
  | some g => exact .inr (fun e => ha g e.symm hv)
theorem apart_grow {w : World} {base e n : Nat} {u u' v : Value} {xs : List Value} (h : w.ownsRow base e 1 v n xs) (ha : Apart u v) (hn : ∀ g, g < w.heap.size → some g ≠ u.ownBlock → some g ≠ u'.ownBlock) : Apart u' v :=
  fun g hu hv => hn g (h.lt g hv).2 (fun e => ha g e.symm hv) hu.symm
/-- A row of at least one, opened. -/
theorem own_open {w : World} {base e n c : Nat} {a : Option Addr} {xs : List Value} (h : w.ownsRow base e 1 (.slice a n c) n xs) (hn : 0 < n) :
    ∃ g tl, a = some ⟨g, 0, none⟩ ∧ base ≤ g ∧ Blk w g (xs ++ tl) e ∧ n ≤ c ∧ c ≤ maxLen ∧ (xs ++ tl).length = c := by
  rcases h.2 with ⟨h2, h3⟩ | ⟨g, cap, cur, hv, hg, hh, hn2, hm, hs, ht⟩
  · omega
  · injection hv with ha _ hc
    subst ha hc
    rw [Nat.mul_one] at hs ht
    refine ⟨g, cur.toList.drop n, rfl, hg, ?_, hn2, hm, ?_⟩
    · rw [← ht, List.take_append_drop]; exact hh
    · rw [← ht, List.take_append_drop]; simpa using hs
theorem own_close {w : World} {base e n c g : Nat} {xs tl : List Value} (h : Blk w g (xs ++ tl) e) (hg : base ≤ g) (hn : xs.length = n) (hnc : n ≤ c) (hm : c ≤ maxLen) (hl : (xs ++ tl).length = c) : w.ownsRow base e 1 (.slice (some ⟨g, 0, none⟩) n c) n xs :=
  ⟨by omega, .inr ⟨g, c, _, rfl, hg, h, hnc, hm, by simpa using hl, by rw [Nat.mul_one, ← hn]; exact List.take_left⟩⟩
theorem cell_app {w : World} {g T : Nat} {xs : List Int} {tl : List Value} (h : Blk w g (ints xs ++ tl) T) {j : Nat} (hj : j < xs.length) : w.cell? ⟨g, j, none⟩ = some (.int .i64 (xs.getD j 0)) := by
  rw [h.cell, List.getElem?_append_left (by simpa using hj)]
  exact ints_get xs j hj
theorem set_app {w : World} {g T : Nat} {xs : List Int} {tl : List Value} (h : Blk w g (ints xs ++ tl) T) {j : Nat} (hj : j < xs.length) (y : Int) : Blk (w.setCell ⟨g, j, none⟩ (.int .i64 y)) g (ints (xs.set j y) ++ tl) T := by
  have := h.set j (.int .i64 y)
  rwa [List.set_append_left _ _ (by simpa using hj), ← ints_set] at this
theorem rd_app {w : World} {g T B : Nat} {xs tl : List Value} (h : Blk w g (xs ++ tl) T) (hB : g < B) : Rd w B (some ⟨g, 0, none⟩) xs :=
  .inr ⟨g, 0, rfl, hB, fun j hj => by rw [Nat.zero_add, h.cell, List.getElem?_append_left hj]⟩
end Go.Proofs.YtkbejmjkdnfemaaGreatDoor
namespace Go.Proofs.YtkbejmjkdnfemaaGreatDoor
set_option linter.unusedVariables false
set_option linter.unusedSimpArgs false
open Go.RowKit

/-- The beginning of a slice. -/
theorem Rd.take {w : World} {B : Nat} {a : Option Addr} {xs : List Int} (h : Rd w B a (ints xs)) (k : Nat) : Rd w B a (ints (xs.take k)) := by
  rcases h with h | ⟨b, o, ha, hb, hc⟩
  · have : (ints xs).length = 0 := by rw [h]; rfl
    simp at this; subst this; exact .inl (by simp)
  · refine .inr ⟨b, o, ha, hb, fun j hj => ?_⟩
    have hj' : j < (ints xs).length := by simp at hj ⊢; omega
    rw [hc j hj']
    simp only [ints, List.map_take, List.getElem?_take]
    rw [if_pos (by simp at hj; omega)]

end Go.Proofs.YtkbejmjkdnfemaaGreatDoor
namespace Go.Proofs.YtkbejmjkdnfemaaGreatDoor
set_option linter.unusedVariables false
set_option linter.unusedSimpArgs false
open Go.RowKit

/-- A slice of slices of integers reads as lists. -/
def RdII (w : World) (B : Nat) (a : Option Addr) (yss : List (List Int)) : Prop :=
  ∃ vs : List Value, vs.length = yss.length ∧ Rd w B a vs ∧ ∀ (k : Nat) (ys : List Int), yss[k]? = some ys → ∃ (a' : Option Addr) (c' : Nat), vs[k]? = some (Value.slice a' ys.length c') ∧ ys.length ≤ c' ∧ Rd w B a' (ints ys)
theorem RdII.below {w w' : World} {B C : Nat} {a : Option Addr} {yss : List (List Int)} (h : RdII w B a yss) (hb : Below C w w') (hB : B ≤ C) : RdII w' B a yss := by
  obtain ⟨vs, h1, h2, h3⟩ := h
  exact ⟨vs, h1, h2.below hb hB, fun k ys hk => let ⟨a', c', e1, e2, e3⟩ := h3 k ys hk; ⟨a', c', e1, e2, e3.below hb hB⟩⟩
theorem RdII.mono {w : World} {B C : Nat} {a : Option Addr} {yss : List (List Int)} (h : RdII w B a yss) (hB : B ≤ C) : RdII w C a yss := by
  obtain ⟨vs, h1, h2, h3⟩ := h
  exact ⟨vs, h1, h2.mono hB, fun k ys hk => let ⟨a', c', e1, e2, e3⟩ := h3 k ys hk; ⟨a', c', e1, e2, e3.mono hB⟩⟩
theorem RdII.to {w w' : World} {a : Option Addr} {yss : List (List Int)} (h : RdII w w.heap.size a yss) (hb : Below w.heap.size w w') : RdII w' w'.heap.size a yss := (h.below hb (Nat.le_refl _)).mono hb.size
theorem RdII.touch {w w' : World} {lo hi B : Nat} {a : Option Addr} {yss : List (List Int)} (h : RdII w B a yss) (ht : Touch w w' lo hi) (hB : B ≤ lo) (hs : B ≤ w.heap.size) : RdII w' B a yss := by
  obtain ⟨vs, h1, h2, h3⟩ := h
  exact ⟨vs, h1, h2.touch ht hB hs, fun k ys hk => let ⟨a', c', e1, e2, e3⟩ := h3 k ys hk; ⟨a', c', e1, e2, e3.touch ht hB hs⟩⟩
theorem RdII.get {w : World} {B : Nat} {a : Option Addr} {yss : List (List Int)} (h : RdII w B a yss) {k : Nat} (hk : k < yss.length) :
    ∃ b o ys a' c', a = some ⟨b, o, none⟩ ∧ b < B ∧ w.cell? ⟨b, o + k, none⟩ = some (.slice a' ys.length c') ∧ ys.length ≤ c' ∧ Rd w B a' (ints ys) ∧ Hid (yss[k]? = some ys) := by
  obtain ⟨vs, h1, h2, h3⟩ := h
  obtain ⟨b, o, v, ha, hb, hc, hv⟩ := h2.getV (k := k) (by omega)
  obtain ⟨a', c', e1, e2, e3⟩ := h3 k yss[k] (List.getElem?_eq_getElem hk)
  have hv' := hv.out
  rw [e1] at hv'
  injection hv' with hv'
  exact ⟨b, o, yss[k], a', c', ha, hb, by rw [hc, hv'], e2, e3, by simp [Hid, List.getElem?_eq_getElem hk]⟩

end Go.Proofs.YtkbejmjkdnfemaaGreatDoor
namespace Go.Proofs.YtkbejmjkdnfemaaGreatDoor
set_option linter.unusedVariables false
set_option linter.unusedSimpArgs false
open Go.RowKit

theorem own_touch {T : Nat} {w w' : World} {lo hi lo' hi' n : Nat} {v : Value} {xs : List Value} (h : w.ownsRow lo T 1 v n xs) (hv : ∀ g, v.ownBlock = some g → g < hi) (ht : Touch w w' lo' hi') (hd : hi ≤ lo' ∨ hi' ≤ lo) : w'.ownsRow lo T 1 v n xs := by
  refine ⟨h.1, ?_⟩
  rcases h.2 with h2 | ⟨g, cap, cur, hv2, hg, hh, r⟩
  · exact .inl h2
  · have h3 : g < hi := hv g (by rw [hv2]; rfl)
    exact .inr ⟨g, cap, cur, hv2, hg, by rw [ht.block g (lt_of_block hh) (by omega)]; exact hh, r⟩
/-- A slice of slices of integers in blocks of its own, each row in a block of its own. -/
structure OwnRows (T T2 : Nat) (w : World) (lo hi : Nat) (u : Value) (vs : List Value) (yss : List (List Int)) : Prop where
  out : w.ownsRow lo T2 1 u yss.length vs
  lt : ∀ g, u.ownBlock = some g → g < hi
  row : ∀ (j : Nat) (ys : List Int), yss[j]? = some ys → ∃ g c, vs[j]? = some (.slice (some ⟨g, 0, none⟩) ys.length c) ∧ OwnI T w lo hi (some ⟨g, 0, none⟩) c ys
  top : ∀ (j : Nat) (v : Value), vs[j]? = some v → Apart u v
  dis : ∀ (i j : Nat) (v v' : Value), i ≠ j → vs[i]? = some v → vs[j]? = some v' → Apart v v'
def OwnLL (T T2 : Nat) (w : World) (lo hi : Nat) (a : Option Addr) (c : Nat) (yss : List (List Int)) : Prop := ∃ vs, OwnRows T T2 w lo hi (.slice a yss.length c) vs yss
section
variable {T T2 lo hi c : Nat} {w w' : World} {a : Option Addr} {yss : List (List Int)}
theorem OwnRows.len {u : Value} {vs : List Value} (h : OwnRows T T2 w lo hi u vs yss) : vs.length = yss.length := by
  have := h.out.1; omega
theorem OwnLL.rd (h : OwnLL T T2 w lo hi a c yss) : RdII w hi a yss := by
  obtain ⟨vs, h⟩ := h
  refine ⟨vs, h.len, ?_, fun k ys hk => ?_⟩
  · rcases rd_of_own h.out (Nat.le_refl _) with h' | ⟨b, o, ha, hb, hc⟩
    · exact .inl h'
    · exact .inr ⟨b, o, ha, h.lt b (by rw [ha]; rfl), hc⟩
  · obtain ⟨g', c', h1, h2⟩ := h.row k ys hk
    exact ⟨_, c', h1, h2.cap, h2.rd⟩
theorem OwnLL.keep (h : OwnLL T T2 w lo hi a c yss) (hb : Below w.heap.size w w') : OwnLL T T2 w' lo hi a c yss := by
  obtain ⟨vs, h⟩ := h
  exact ⟨vs, own_below h.out hb, h.lt, fun j ys hj => let ⟨a', c', h1, h2⟩ := h.row j ys hj; ⟨a', c', h1, h2.keep hb⟩, h.top, h.dis⟩
theorem OwnLL.touch {lo' hi' : Nat} (h : OwnLL T T2 w lo hi a c yss) (ht : Touch w w' lo' hi') (hd : hi ≤ lo' ∨ hi' ≤ lo) : OwnLL T T2 w' lo hi a c yss := by
  obtain ⟨vs, h⟩ := h
  exact ⟨vs, own_touch h.out h.lt ht hd, h.lt, fun j ys hj => let ⟨a', c', h1, h2⟩ := h.row j ys hj; ⟨a', c', h1, h2.touch ht hd⟩, h.top, h.dis⟩
theorem OwnLL.mono {lo' hi' : Nat} (h : OwnLL T T2 w lo hi a c yss) (h1 : lo' ≤ lo) (h2 : hi ≤ hi') : OwnLL T T2 w lo' hi' a c yss := by
  obtain ⟨vs, h⟩ := h
  exact ⟨vs, own_base h.out h1, fun g hg => Nat.lt_of_lt_of_le (h.lt g hg) h2, fun j ys hj => let ⟨a', c', h3, h4⟩ := h.row j ys hj; ⟨a', c', h3, h4.mono h1 h2⟩, h.top, h.dis⟩
theorem OwnLL.nil {w : World} : OwnLL T T2 w lo hi none 0 [] :=
  ⟨[], World.ownsRow_nil _ _ _ _, (fun g hg => by cases hg), (fun j ys hj => by simp at hj), (fun j v hj => by simp at hj), (fun i j v v' _ hi _ => by simp at hi)⟩
end
theorem OwnI.apart {T lo hi c : Nat} {w w' : World} {a : Option Addr} {xs : List Int} {u : Value} (h : OwnI T w lo hi a c xs) (hg : w.grownBy w' u.ownBlock) (ha : Apart u (.slice a xs.length c)) : OwnI T w' lo hi a c xs :=
  ⟨own_apart h.1 hg ha, h.2⟩
/-- Nothing, as '[][]int64{}' makes it. -/
theorem OwnRows.start {T T2 : Nat} {w : World} {lo : Nat} {u : Value} (h : w.ownsRow lo T2 1 u 0 []) : OwnRows T T2 w lo w.heap.size u [] [] :=
  ⟨h, (fun g hg => (h.lt g hg).2), (fun j ys hj => by simp at hj), (fun j v hj => by simp at hj), (fun i j v v' _ hi _ => by simp at hi)⟩
theorem OwnRows.keep {T T2 : Nat} {w w' : World} {lo hi : Nat} {u : Value} {vs : List Value} {yss : List (List Int)} (h : OwnRows T T2 w lo hi u vs yss) (hb : Below w.heap.size w w') : OwnRows T T2 w' lo hi u vs yss :=
  ⟨own_below h.out hb, h.lt, fun j ys hj => let ⟨a', c', h1, h2⟩ := h.row j ys hj; ⟨a', c', h1, h2.keep hb⟩, h.top, h.dis⟩
theorem OwnRows.grown {T T2 : Nat} {w w' : World} {lo hi q : Nat} {u : Value} {vs : List Value} {yss : List (List Int)} (h : OwnRows T T2 w lo hi u vs yss) (hg : w.grownBy w' (some q)) (hq : q < lo ∨ hi ≤ q) : OwnRows T T2 w' lo hi u vs yss := by
  have ht : Touch w w' q (q + 1) := Touch.of_grown hg (Nat.le_refl _) (by omega)
  exact ⟨own_touch h.out h.lt ht (by omega), h.lt, fun j ys hj => let ⟨a', c', h1, h2⟩ := h.row j ys hj; ⟨a', c', h1, h2.touch ht (by omega)⟩, h.top, h.dis⟩
/-- A row of its own, made since, is appended. -/
theorem OwnRows.snoc {T T2 : Nat} {w0 w w' : World} {lo hi r0 g c : Nat} {u u' : Value} {vs : List Value} {yss : List (List Int)} {ys : List Int}
    (h : OwnRows T T2 w0 lo hi u vs yss) (hb : Below w0.heap.size w0 w) (hlo : lo ≤ r0) (hhi : hi ≤ r0) (hr : OwnI T w r0 w.heap.size (some ⟨g, 0, none⟩) c ys) (hy0 : w0.heap.size ≤ r0)
    (ho : w'.ownsRow lo T2 1 u' (yss.length + 1) (vs ++ [.slice (some ⟨g, 0, none⟩) ys.length c])) (hg : w.grownBy w' u.ownBlock) (hn : ∀ g, g < w.heap.size → some g ≠ u.ownBlock → some g ≠ u'.ownBlock) :
    OwnRows T T2 w' lo w'.heap.size u' (vs ++ [.slice (some ⟨g, 0, none⟩) ys.length c]) (yss ++ [ys]) := by
  have hl := h.len
  have hk := h.keep hb
  have hrg : r0 ≤ g := (hr.1.lt g rfl).1
  have hgw : g < w.heap.size := (hr.1.lt g rfl).2
  have hap : Apart u (.slice (some ⟨g, 0, none⟩) ys.length c) := fun q hq e => by
    have := h.lt q hq
    simp [Value.ownBlock] at e
    omega
  have at' : ∀ (j : Nat) (v : Value), (vs ++ [.slice (some ⟨g, 0, none⟩) ys.length c])[j]? = some v → (j < yss.length ∧ vs[j]? = some v) ∨ (j = yss.length ∧ v = .slice (some ⟨g, 0, none⟩) ys.length c) := by
    intro j v hj
    by_cases hlt : j < vs.length
    · rw [List.getElem?_append_left hlt] at hj
      exact .inl ⟨by omega, hj⟩
    · rw [List.getElem?_append_right (by omega)] at hj
      have : j - vs.length = 0 := by
        have := (List.getElem?_eq_some_iff.1 hj).1
        simp at this
        omega
      rw [this] at hj
      simp at hj
      exact .inr ⟨by omega, hj.symm⟩
  have hrow : ∀ (j : Nat) (v : Value), vs[j]? = some v → ∃ g' c' ys', v = .slice (some ⟨g', 0, none⟩) ys'.length c' ∧ OwnI T w lo hi (some ⟨g', 0, none⟩) c' ys' := by
    intro j v hj
    have hlt : j < yss.length := by have := (List.getElem?_eq_some_iff.1 hj).1; omega
    obtain ⟨g', c', h1, h2⟩ := hk.row j yss[j] (List.getElem?_eq_getElem hlt)
    rw [hj] at h1
    injection h1 with h1
    exact ⟨g', c', _, h1, h2⟩
  refine ⟨by rw [List.length_append, List.length_singleton]; exact ho, fun q hq => (ho.lt q hq).2, fun j zs hj => ?_, fun j v hj => ?_, fun i j v v' hij hi hj => ?_⟩
  · by_cases hlt : j < yss.length
    · rw [List.getElem?_append_left hlt] at hj
      obtain ⟨g', c', h1, h2⟩ := hk.row j zs hj
      refine ⟨g', c', by rw [List.getElem?_append_left (by omega)]; exact h1, ?_⟩
      exact (h2.apart hg (h.top j _ h1)).mono (Nat.le_refl _) (by have := hb.size; have := hg.size; omega)
    · rw [List.getElem?_append_right (by omega)] at hj
      have : j - yss.length = 0 := by
        have := (List.getElem?_eq_some_iff.1 hj).1
        simp at this
        omega
      rw [this] at hj
      simp at hj
      subst hj
      refine ⟨g, c, by rw [List.getElem?_append_right (by omega), show j - vs.length = 0 by omega]; rfl, ?_⟩
      exact (hr.apart hg hap).mono hlo hg.size
  · rcases at' j v hj with ⟨_, h1⟩ | ⟨_, rfl⟩
    · obtain ⟨g', c', ys', e, h2⟩ := hrow j v h1
      have ha := h.top j v h1
      subst e
      exact apart_grow h2.1 ha hn
    · exact apart_grow hr.1 hap hn
  · rcases at' i v hi with ⟨i1, h1⟩ | ⟨i1, rfl⟩ <;> rcases at' j v' hj with ⟨j1, h2⟩ | ⟨j1, rfl⟩
    · exact h.dis i j v v' hij h1 h2
    · obtain ⟨g', c', ys', e, h3⟩ := hrow i v h1
      subst e
      intro q hq e
      have := h3.2 _ rfl
      simp [Value.ownBlock] at hq e
      simp at this
      omega
    · obtain ⟨g', c', ys', e, h3⟩ := hrow j v' h2
      subst e
      intro q hq e
      have := h3.2 _ rfl
      simp [Value.ownBlock] at hq e
      simp at this
      omega
    · omega
end Go.Proofs.YtkbejmjkdnfemaaGreatDoor
namespace Go.Proofs.YtkbejmjkdnfemaaGreatDoor
set_option linter.unusedVariables false
set_option linter.unusedSimpArgs false
open Go.RowKit

structure OwnTop (T T2 : Nat) (w : World) (t0 lo hi : Nat) (u : Value) (vs : List Value) (yss : List (List Int)) : Prop where
  out : w.ownsRow t0 T2 1 u yss.length vs
  lt : ∀ g, u.ownBlock = some g → g = t0 ∨ (lo ≤ g ∧ g < hi)
  row : ∀ (j : Nat) (ys : List Int), yss[j]? = some ys → ∃ g c, vs[j]? = some (.slice (some ⟨g, 0, none⟩) ys.length c) ∧ OwnI T w lo hi (some ⟨g, 0, none⟩) c ys
  top : ∀ (j : Nat) (v : Value), vs[j]? = some v → Apart u v
  dis : ∀ (i j : Nat) (v v' : Value), i ≠ j → vs[i]? = some v → vs[j]? = some v' → Apart v v'
section
variable {T T2 t0 lo hi : Nat} {w w' : World} {u : Value} {vs : List Value} {yss : List (List Int)}
theorem OwnTop.len (h : OwnTop T T2 w t0 lo hi u vs yss) : vs.length = yss.length := by have := h.out.1; omega
theorem OwnTop.start (h : w.ownsRow t0 T2 1 u 0 []) (hu : ∀ g, u.ownBlock = some g → g = t0) : OwnTop T T2 w t0 lo hi u [] [] :=
  ⟨h, (fun g hg => .inl (hu g hg)), (fun j ys hj => by simp at hj), (fun j v hj => by simp at hj), (fun i j v v' _ hi _ => by simp at hi)⟩
theorem OwnTop.mono {hi' : Nat} (h : OwnTop T T2 w t0 lo hi u vs yss) (hh : hi ≤ hi') : OwnTop T T2 w t0 lo hi' u vs yss :=
  ⟨h.out, fun g hg => (h.lt g hg).imp id fun ⟨h1, h2⟩ => ⟨h1, by omega⟩, fun j ys hj => let ⟨g, c, h1, h2⟩ := h.row j ys hj; ⟨g, c, h1, h2.mono (Nat.le_refl _) hh⟩, h.top, h.dis⟩
theorem OwnTop.keep (h : OwnTop T T2 w t0 lo hi u vs yss) (hb : Below w.heap.size w w') : OwnTop T T2 w' t0 lo hi u vs yss :=
  ⟨own_below h.out hb, h.lt, fun j ys hj => let ⟨g, c, h1, h2⟩ := h.row j ys hj; ⟨g, c, h1, h2.keep hb⟩, h.top, h.dis⟩
theorem OwnTop.grown {q : Nat} (h : OwnTop T T2 w t0 lo hi u vs yss) (hg : w.grownBy w' (some q)) (hq0 : q ≠ t0) (hq : q < lo ∨ hi ≤ q) : OwnTop T T2 w' t0 lo hi u vs yss := by
  have ht : Touch w w' q (q + 1) := Touch.of_grown hg (Nat.le_refl _) (by omega)
  refine ⟨h.out.kept hg (.inr fun e => ?_), h.lt, fun j ys hj => let ⟨g, c, h1, h2⟩ := h.row j ys hj; ⟨g, c, h1, h2.touch ht (by omega)⟩, h.top, h.dis⟩
  rcases h.lt q e with h1 | ⟨h1, h2⟩ <;> omega
theorem OwnTop.rows (h : OwnTop T T2 w t0 lo hi u vs yss) (h1 : t0 ≤ lo) (h2 : t0 < hi) : OwnRows T T2 w t0 hi u vs yss :=
  ⟨h.out, fun g hg => by rcases h.lt g hg with h3 | ⟨_, h3⟩ <;> omega, fun j ys hj => let ⟨g, c, h3, h4⟩ := h.row j ys hj; ⟨g, c, h3, h4.mono h1 (Nat.le_refl _)⟩, h.top, h.dis⟩
end
/-- A row of its own, made since, is appended. -/
theorem OwnTop.snoc {T T2 : Nat} {w0 w w' : World} {t0 lo hi r0 g c : Nat} {u u' : Value} {vs : List Value} {yss : List (List Int)} {ys : List Int}
    (h : OwnTop T T2 w0 t0 lo hi u vs yss) (hb : Below w0.heap.size w0 w) (ht0 : t0 < lo) (hlo : lo ≤ r0) (hhi : hi ≤ r0) (hr : OwnI T w r0 w.heap.size (some ⟨g, 0, none⟩) c ys) (hy0 : w0.heap.size ≤ r0)
    (ho : w'.ownsRow t0 T2 1 u' (yss.length + 1) (vs ++ [.slice (some ⟨g, 0, none⟩) ys.length c])) (hg : w.grownBy w' u.ownBlock) (hn : ∀ g, g < w.heap.size → some g ≠ u.ownBlock → some g ≠ u'.ownBlock) :
    OwnTop T T2 w' t0 lo w'.heap.size u' (vs ++ [.slice (some ⟨g, 0, none⟩) ys.length c]) (yss ++ [ys]) := by
  have hl := h.len
  have hk := h.keep hb
  have hrg : r0 ≤ g := (hr.1.lt g rfl).1
  have hgw : g < w.heap.size := (hr.1.lt g rfl).2
  have hap : Apart u (.slice (some ⟨g, 0, none⟩) ys.length c) := fun q hq e => by
    have := h.lt q hq
    simp [Value.ownBlock] at e
    omega
  have at' : ∀ (j : Nat) (v : Value), (vs ++ [.slice (some ⟨g, 0, none⟩) ys.length c])[j]? = some v → (j < yss.length ∧ vs[j]? = some v) ∨ (j = yss.length ∧ v = .slice (some ⟨g, 0, none⟩) ys.length c) := by
    intro j v hj
    by_cases hlt : j < vs.length
    · rw [List.getElem?_append_left hlt] at hj
      exact .inl ⟨by omega, hj⟩
    · rw [List.getElem?_append_right (by omega)] at hj
      have : j - vs.length = 0 := by
        have := (List.getElem?_eq_some_iff.1 hj).1
        simp at this
        omega
      rw [this] at hj
      simp at hj
      exact .inr ⟨by omega, hj.symm⟩
  have hrow : ∀ (j : Nat) (v : Value), vs[j]? = some v → ∃ g' c' ys', v = .slice (some ⟨g', 0, none⟩) ys'.length c' ∧ OwnI T w lo hi (some ⟨g', 0, none⟩) c' ys' := by
    intro j v hj
    have hlt : j < yss.length := by have := (List.getElem?_eq_some_iff.1 hj).1; omega
    obtain ⟨g', c', h1, h2⟩ := hk.row j yss[j] (List.getElem?_eq_getElem hlt)
    rw [hj] at h1
    injection h1 with h1
    exact ⟨g', c', _, h1, h2⟩
  refine ⟨by rw [List.length_append, List.length_singleton]; exact ho, fun q hq => ?_, fun j zs hj => ?_, fun j v hj => ?_, fun i j v v' hij hi hj => ?_⟩
  · by_cases e : some q = u.ownBlock
    · rcases h.lt q e.symm with h1 | ⟨h1, h2⟩
      · exact .inl h1
      · exact .inr ⟨h1, (ho.lt q hq).2⟩
    · refine .inr ⟨?_, (ho.lt q hq).2⟩
      by_cases hqw : q < w.heap.size
      · exact absurd hq.symm (hn q hqw e)
      · omega
  · by_cases hlt : j < yss.length
    · rw [List.getElem?_append_left hlt] at hj
      obtain ⟨g', c', h1, h2⟩ := hk.row j zs hj
      refine ⟨g', c', by rw [List.getElem?_append_left (by omega)]; exact h1, ?_⟩
      exact (h2.apart hg (h.top j _ h1)).mono (Nat.le_refl _) (by have := hb.size; have := hg.size; omega)
    · rw [List.getElem?_append_right (by omega)] at hj
      have : j - yss.length = 0 := by
        have := (List.getElem?_eq_some_iff.1 hj).1
        simp at this
        omega
      rw [this] at hj
      simp at hj
      subst hj
      refine ⟨g, c, by rw [List.getElem?_append_right (by omega), show j - vs.length = 0 by omega]; rfl, ?_⟩
      exact (hr.apart hg hap).mono hlo hg.size
  · rcases at' j v hj with ⟨_, h1⟩ | ⟨_, rfl⟩
    · obtain ⟨g', c', ys', e, h2⟩ := hrow j v h1
      have ha := h.top j v h1
      subst e
      exact apart_grow h2.1 ha hn
    · exact apart_grow hr.1 hap hn
  · rcases at' i v hi with ⟨i1, h1⟩ | ⟨i1, rfl⟩ <;> rcases at' j v' hj with ⟨j1, h2⟩ | ⟨j1, rfl⟩
    · exact h.dis i j v v' hij h1 h2
    · obtain ⟨g', c', ys', e, h3⟩ := hrow i v h1
      subst e
      intro q hq e
      have := h3.2 _ rfl
      simp [Value.ownBlock] at hq e
      simp at this
      omega
    · obtain ⟨g', c', ys', e, h3⟩ := hrow j v' h2
      subst e
      intro q hq e
      have := h3.2 _ rfl
      simp [Value.ownBlock] at hq e
      simp at this
      omega
    · omega
/-- append as a step of a region that draws its order; the new value's block is known. -/
theorem step_append_blk {P : Program} {ops : Array Oper} {o : Oper} {a : Act} {wr : World} {K : Act → World → Prop} {Q : Exit → Act → World → Prop} {E : Prop}
    (hg : o.guard = none) (s x : Operand) (t : TypeId) (hop : o.op = Op.call { callee := Callee.builtin Builtin.append, args := #[s, x], argTypes := #[t, t] })
    (base : Nat) (e : TypeId) (z : Value) (bytes : Nat) (h1 : P.underlying t = some (.slice e)) (hinfo : (P.info? e).map (fun i => (i.zero, i.size, i.bytes)) = some (some z, 1, bytes)) (hz : z.cells.size = 1)
    (v : Value) (n : Nat) (xs : List Value) (hs : a.eval s = v) (hown : wr.ownsRow base e 1 v n xs) (y : Value) (hy : y.oneCell' = true)
    (hx : a.eval x = .slice (some ⟨wr.heap.size, 0, none⟩) 1 1) (hb : bytes ≤ 64) (hn : n ≤ 1099511627776) (hbase : base ≤ wr.heap.size)
    (hK : ∀ g c w', w'.ownsRow base e 1 (.slice (some ⟨g, 0, none⟩) (n + 1) c) (n + 1) (xs ++ [y]) → wr.grownBy w' v.ownBlock → (∀ q, q < wr.heap.size → some q ≠ v.ownBlock → some q ≠ (Value.slice (some ⟨g, 0, none⟩) (n + 1) c).ownBlock) → K (a.put o.dst (.slice (some ⟨g, 0, none⟩) (n + 1) c)) w') :
    if Region.wanted o (yielded ops a.tmps) = true then Oper.wp P o a (wr.alloc (.cells #[y] e)) K Q else E := by
  obtain ⟨i, h2, h3, h4, h5⟩ := info_parts hinfo
  have hbb : (n + 1) * bytes ≤ 140737488355328 := Nat.le_trans (Nat.mul_le_mul_left (n + 1) hb) (by omega)
  have hone : ∀ u ∈ [y], u.oneCell' = true := by
    intro u hu
    simp at hu
    subst hu
    exact hy
  refine step_append_lies _ hg s x t hop base e i z 1 bytes h1 h2 h3 h4 h5 hz (by omega) v n xs hs (hown.alloc _) ⟨wr.heap.size, 0, none⟩ 1 1 [y] hx rfl (World.news_of_block (cs := #[y]) (t := e) (fr := (0, 0)) (heap_alloc_new wr _)) hone (by omega) (by unfold maxLen; omega) hbb (by simp; omega) (wr.heap.size + 1) (by simp) ?_
  intro g c w' ho hgr hat _
  refine hK g c w' ho ⟨hgr.os, hgr.tape, hgr.output, ?_, fun k hk hne => ?_⟩ fun q hq hqv hqv' => ?_
  · have := hgr.size; simp at this; omega
  · rw [hgr.block k (by simp; omega) hne]
    exact Below.heap_alloc _ _ _ hk
  · simp [Value.ownBlock] at hqv'
    subst hqv'
    rcases hat with h | h
    · exact hqv h.symm
    · omega
end Go.Proofs.YtkbejmjkdnfemaaGreatDoor
