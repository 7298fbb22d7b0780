/-
  l07Gains of the reference: what its loop keeps, and that it ends at the level.
-/
import Derived.Test.YthbclfaeplmjgaaGainI
import Derived.Test.YthbclfaeplmjgaaGrow
namespace Go.Proofs.Ythbclfaeplmjgaa
set_option linter.unusedVariables false
set_option linter.unusedSimpArgs false
open Go.RowKit

def boolsL (n : Nat) (fs : Nat → Bool) : List Value := (List.range n).map fun (j : Nat) => Value.bool (fs j)
theorem boolsL_length (n : Nat) (fs : Nat → Bool) : (boolsL n fs).length = n := by simp [boolsL]
theorem boolsL_none (n : Nat) : List.replicate n (Value.bool false) = boolsL n (fun _ => false) := by
  apply List.ext_getElem <;> simp [boolsL]
theorem boolsL_get {n : Nat} {fs : Nat → Bool} {j : Nat} (h : j < n) : (boolsL n fs)[j]? = some (.bool (fs j)) := by simp [boolsL, h]
def updB (fs : Nat → Bool) (q : Nat) : Nat → Bool := fun j => if j = q then true else fs j
theorem boolsL_set (n : Nat) (fs : Nat → Bool) (q : Nat) : (boolsL n fs).set q (.bool true) = boolsL n (updB fs q) := by
  apply List.ext_getElem
  · simp [boolsL]
  · intro j h1 h2
    simp only [boolsL, List.getElem_set, List.getElem_map, List.getElem_range, updB]
    by_cases h : q = j
    · subst h; simp
    · rw [if_neg h, if_neg (fun e => h e.symm)]

structure GInv (cs : List Int) (est : Int) (fs : Nat → Bool) (left count : Int) : Prop where
  sum : left + sumN (fun i => if fs i then cs.getD i 0 else 0) cs.length = est
  cnt : count = sumN (fun i => if fs i then 0 else 1) cs.length
  pos : 0 ≤ left
  full : ∀ j, j < cs.length → fs j = true → count * cs.getD j 0 ≤ left
theorem cnt_bd (fs : Nat → Bool) : ∀ n : Nat, 0 ≤ sumN (fun i => if fs i then (0 : Int) else 1) n ∧ sumN (fun i => if fs i then (0 : Int) else 1) n ≤ n
  | 0 => by simp [sumN]
  | n + 1 => by
    have := cnt_bd fs n
    simp only [sumN]
    split <;> omega
theorem cnt_pos (fs : Nat → Bool) : ∀ {n i : Nat}, i < n → fs i = false → 1 ≤ sumN (fun i => if fs i then (0 : Int) else 1) n
  | 0, _, h, _ => by omega
  | n + 1, i, h, hf => by
    have := cnt_bd fs n
    simp only [sumN]
    by_cases e : i = n
    · subst e; rw [hf]; simp; omega
    · have := cnt_pos fs (show i < n by omega) hf
      split <;> omega
theorem cnt_zero (fs : Nat → Bool) {n : Nat} (h : sumN (fun i => if fs i then (0 : Int) else 1) n ≤ 0) : ∀ i, i < n → fs i = true := by
  intro i hi
  cases hf : fs i with
  | true => rfl
  | false => have := cnt_pos fs hi hf; omega
theorem ginv_start {cs : List Int} {est : Int} (h0 : 0 ≤ est) : GInv cs est (fun _ => false) est cs.length := by
  have z : ∀ (c : Int) (n : Nat), sumN (fun _ => c) n = c * n := fun c n => by
    induction n with
    | zero => simp [sumN]
    | succ n ih => rw [sumN, ih]; rw [Int.natCast_add, Int.mul_add]; simp
  refine ⟨?_, ?_, h0, fun j _ h => by cases h⟩
  · show est + sumN (fun _ => if false = true then _ else 0) _ = est
    rw [sumN_congr (g := fun _ => 0) (fun i hi => by simp), z]; simp
  · rw [sumN_congr (g := fun _ => 1) (fun i hi => by simp), z]; simp
theorem ginv_step {cs : List Int} {est : Int} {fs : Nat → Bool} {left count : Int} (h : GInv cs est fs left count) (hc : ∀ j, 0 ≤ cs.getD j 0) {i : Nat} (hi : i < cs.length) (hf : fs i = false) (hle : cs.getD i 0 * count ≤ left) :
    GInv cs est (updB fs i) (left - cs.getD i 0) (count - 1) ∧ 1 ≤ count := by
  obtain ⟨h1, h2, h3, h4⟩ := h
  have hcp := cnt_pos fs hi hf
  have hc1 : 1 ≤ count := by omega
  have hm : cs.getD i 0 ≤ cs.getD i 0 * count := by
    have := Int.mul_le_mul_of_nonneg_left hc1 (hc i)
    omega
  refine ⟨⟨?_, ?_, by omega, fun j hj hfj => ?_⟩, hc1⟩
  · have := sumN_upd (f := fun i => if fs i then cs.getD i 0 else 0) (g := fun j => if updB fs i j then cs.getD j 0 else 0) (d := cs.getD i 0) (q := i) (n := cs.length) hi (fun j _ hj => by simp [updB, hj]) (by simp [updB, hf])
    rw [this]; omega
  · have := sumN_upd (f := fun i => if fs i then (0 : Int) else 1) (g := fun j => if updB fs i j then (0 : Int) else 1) (d := -1) (q := i) (n := cs.length) hi (fun j _ hj => by simp [updB, hj]) (by simp [updB, hf])
    rw [this]; omega
  · have e : (count - 1) * cs.getD j 0 = count * cs.getD j 0 - cs.getD j 0 := by rw [Int.sub_mul]; simp
    have e2 : (count - 1) * cs.getD i 0 = cs.getD i 0 * count - cs.getD i 0 := by rw [Int.sub_mul, Int.mul_comm count]; simp
    by_cases hji : j = i
    · subst hji; omega
    · have hfj' : fs j = true := by simpa [updB, hji] using hfj
      have h5 := h4 j hj hfj'
      by_cases hcmp : cs.getD j 0 ≤ cs.getD i 0
      · have := Int.mul_le_mul_of_nonneg_left hcmp (show 0 ≤ count - 1 by omega)
        omega
      · omega
theorem ginv_bd {cs : List Int} {est : Int} {fs : Nat → Bool} {left count : Int} (h : GInv cs est fs left count) (hc : ∀ j, 0 ≤ cs.getD j 0) : 0 ≤ left ∧ left ≤ est ∧ 0 ≤ count ∧ count ≤ cs.length := by
  have hb := cnt_bd fs cs.length
  have h0 : sumN (fun _ => (0 : Int)) cs.length ≤ sumN (fun i => if fs i then cs.getD i 0 else 0) cs.length := sumN_le fun i _ => by
    split
    · exact hc i
    · exact Int.le_refl _
  have z : ∀ n, sumN (fun _ => (0 : Int)) n = 0 := fun n => by induction n with | zero => rfl | succ n ih => rw [sumN, ih]; rfl
  rw [z] at h0
  have h1 := h.sum
  have h2 := h.cnt
  exact ⟨h.pos, by omega, by omega, by omega⟩
/-- At the end. -/
theorem ginv_level {cs : List Int} {est : Int} {fs : Nat → Bool} {left count : Int} (h : GInv cs est fs left count) (hn : cs.length ≤ 8) (hc : ∀ x ∈ cs, 0 ≤ x ∧ x % 840 = 0) (hd : est % 840 = 0) (h1 : est ≤ cs.sum)
    (hend : count ≤ 0 ∨ ∀ i, i < cs.length → fs i = false → left < cs.getD i 0 * count) {out : List Int} (hl : out.length = cs.length) (ho : ∀ i, i < cs.length → out.getD i 0 = if fs i then cs.getD i 0 else left / count) : Level cs est out := by
  obtain ⟨g1, g2, g3, g4⟩ := h
  have hb := cnt_bd fs cs.length
  have hdv : sumN (fun i => if fs i then cs.getD i 0 else 0) cs.length % 840 = 0 := by
    have : ∀ n, sumN (fun i => if fs i then cs.getD i 0 else 0) n % 840 = 0 := by
      intro n
      induction n with
      | zero => rfl
      | succ n ih =>
        have hx : cs.getD n 0 % 840 = 0 := by
          by_cases hj : n < cs.length
          · exact (hc _ (List.mem_of_getElem? (get_of_lt hj))).2
          · simp [List.getD, List.getElem?_eq_none (by omega : cs.length ≤ n)]
        simp only [sumN]
        split <;> omega
    exact this _
  by_cases hc0 : count ≤ 0
  · have hall := cnt_zero fs (n := cs.length) (by omega)
    have hs : sumN (fun i => if fs i then cs.getD i 0 else 0) cs.length = cs.sum := by
      rw [← sumN_list]
      exact sumN_congr fun i hi => by simp [hall i hi]
    have hs2 : sumN (fun i => out.getD i 0) cs.length = cs.sum := by
      rw [← sumN_list]
      exact sumN_congr fun i hi => by rw [ho i hi, hall i hi]; rfl
    refine ⟨hl, by omega, cs.sum, fun i hi => ?_⟩
    rw [ho i hi, hall i hi]
    have := mem_le_sum cs (fun x hx => (hc x hx).1) _ (List.mem_of_getElem? (get_of_lt hi))
    simp only [if_true]
    omega
  · obtain ⟨m, hm⟩ : ∃ m : Nat, count = m := ⟨count.toNat, by omega⟩
    subst hm
    have hex := div_exact (E := left) (m := m) (by omega) (by omega) (by omega)
    generalize hL : left / (m : Int) = L at *
    refine ⟨hl, ?_, L, fun i hi => ?_⟩
    · rw [sumN_congr (g := fun i => (if fs i then cs.getD i 0 else 0) + L * (if fs i then 0 else 1)) (fun i hi => by rw [ho i hi]; split <;> simp), sumN_add, sumN_mul, ← g2, Int.mul_comm L]
      omega
    · rw [ho i hi]
      cases hf : fs i with
      | true =>
        have := g4 i hi hf
        have h5 : cs.getD i 0 ≤ L := Int.le_of_mul_le_mul_left (by omega : (m : Int) * cs.getD i 0 ≤ m * L) (by omega)
        simp only [if_true]
        omega
      | false =>
        rcases hend with h6 | h6
        · omega
        · have h7 := h6 i hi hf
          have h8 : L < cs.getD i 0 := by
            refine Classical.byContradiction fun hno => ?_
            have := Int.mul_le_mul_of_nonneg_right (show cs.getD i 0 ≤ L by omega) (show 0 ≤ (m : Int) by omega)
            rw [Int.mul_comm L] at this
            omega
          simp only [Bool.false_eq_true, if_false]
          omega
theorem mix_step {fo cs : List Int} {k : Nat} {v : Int} (hk : k < cs.length) (hl : fo.length = cs.length) (hv : fo[k]? = some v) : (fo.take k ++ cs.drop k).set k v = fo.take (k + 1) ++ cs.drop (k + 1) := by
  have h1 : (fo.take k).length = k := by simp; omega
  rw [List.set_append_right _ _ (by omega), h1, Nat.sub_self, List.drop_eq_getElem_cons hk, List.set_cons_zero, List.take_add_one, hv]
  simp
theorem mix_same {fo cs : List Int} {k : Nat} {v : Int} (hk : k < cs.length) (hv : fo[k]? = some v) (hc : cs[k]? = some v) : fo.take k ++ cs.drop k = fo.take (k + 1) ++ cs.drop (k + 1) := by
  rw [List.take_add_one, hv, List.drop_eq_getElem_cons hk]
  rw [List.getElem?_eq_getElem hk] at hc
  injection hc with hc
  rw [hc]
  simp
theorem wpList_append_many {P : Program} (wr : World) {ops : Array Oper} {rest : List Oper} {o : Oper} {a : Act} {Q : Exit → Act → World → Prop}
    (hg : o.guard = none) (s x : Operand) (t : TypeId) (hop : o.op = Op.call { callee := Callee.builtin Builtin.append, args := #[s, x], argTypes := #[t, t] })
    (base : Nat) (e : TypeId) (z : Value) (bytes : Nat) (h1 : P.underlying t = some (.slice e)) (hinfo : (P.info? e).map (fun i => (i.zero, i.size, i.bytes)) = some (some z, 1, bytes)) (hz : z.cells.size = 1)
    (v : Value) (n : Nat) (xs : List Value) (hs : a.eval s = v) (hown : wr.ownsRow base e 1 v n xs) (b off m c : Nat) (ys : List Value) (hx : a.eval x = .slice (some ⟨b, off, none⟩) m c) (hm : ys.length = m)
    (hcell : ∀ j, j < m → wr.cell? ⟨b, off + j, none⟩ = ys[j]?) (hone : ∀ u ∈ ys, u.oneCell' = true) (hb : bytes ≤ 64) (hn : n + m ≤ 1099511627776) (hbase : base ≤ wr.heap.size)
    (hK : ∀ v' w', w'.ownsRow base e 1 v' (n + m) (xs ++ ys) → wr.grownBy w' v.ownBlock → wpList P ops Q rest (a.put o.dst v') w') :
    wpList P ops Q (o :: rest) a wr := by
  obtain ⟨i, h2, h3, h4, h5⟩ := info_parts hinfo
  have hbb : (n + m) * bytes ≤ 140737488355328 := Nat.le_trans (Nat.mul_le_mul_left (n + m) hb) (by omega)
  refine wpList_append_own wr hg s x t hop base e i z 1 bytes h1 h2 h3 h4 h5 hz (by omega) v n xs hs hown ⟨b, off, none⟩ m c ys hx (by omega) ?_ hone (by unfold maxLen; omega) hbb hbase (fun v' w' ho hgr _ => hK v' w' ho hgr)
  intro j u hj
  have hj' : j < m := by have := (List.getElem?_eq_some_iff.1 hj).1; omega
  have ea : (⟨b, off, none⟩ : Addr).add j = ⟨b, off + j, none⟩ := by unfold Addr.add; split <;> simp_all
  rw [ea, hcell j hj', hj]
set_option maxRecDepth 10000 in
set_option maxHeartbeats 8000000 in
theorem l07Gains_any (w : World) (B : Nat) (a : Option Addr) (c : Nat) (cs : List Int) (est : Int) (h' : Rd w B a (ints cs)) (hB : B ≤ w.heap.size) (hl1 : 1 ≤ cs.length) (hl2 : cs.length ≤ 8)
    (hc0 : ∀ x ∈ cs, 0 ≤ x ∧ x % 840 = 0) (hc1 : ∀ x ∈ cs, x ≤ 1680000) (h0 : 0 ≤ est) (h1 : est ≤ 13440000) (h2 : est ≤ cs.sum) (hd : est % 840 = 0) :
    Calls Try.prog 80 #[.slice a cs.length c, .int .i64 est] w fun e w' => ∃ a' c', e = .returned (.slice a' cs.length c') ∧ OwnI 2 w' w.heap.size w'.heap.size a' c' (gainF cs est) ∧ Below w.heap.size w w' := by
  have h := h'.mono hB
  have Hlev := Lib.hid (gain_level hl2 hc0 h0 h2 hd)
  have Hend := Lib.hid (fun fs left count (hi : GInv cs est fs left count) => ginv_level hi hl2 hc0 hd h2)
  have Hst := Lib.hid (ginv_start (cs := cs) h0)
  have Hnn : Hid (∀ j, 0 ≤ cs.getD j 0 ∧ cs.getD j 0 ≤ 1680000) := fun j => by
    by_cases hj : j < cs.length
    · exact ⟨(hc0 _ (List.mem_of_getElem? (get_of_lt hj))).1, hc1 _ (List.mem_of_getElem? (get_of_lt hj))⟩
    · simp [List.getD, List.getElem?_eq_none (by omega : cs.length ≤ j)]
  clear h' hc0 hc1 hB hd h2
  obtain ⟨b, o, rfl, hbb, hcell⟩ := h.at (k := 0) (by omega)
  go_enter Try.func80, Try.ntmps80
  go_wp2_with (at_builtin; refine wpList_append_many _ rfl _ _ 22 rfl w.heap.size 2 (.int .i64 0) 8 Try.underlying22 info_i64p rfl _ 0 [] rfl (own_empty w 2) b o cs.length c (ints cs) rfl (by simp) ?_ ?_ (by omega) (by omega) (by simp) ?_)
  · intro j hj
    rw [(bl1 w _).cell (p := ⟨b, o + j, none⟩) hbb, hcell j hj, ints_get _ _ hj]
  · intro u hu
    obtain ⟨x, _, rfl⟩ := List.mem_map.1 hu
    rfl
  intro v1 w1 ho1 hg1
  have hw1 := below_append (bl1 w (.cells #[] 2)) (own_empty w 2) hg1 (Nat.le_refl _) (by simp)
  obtain ⟨a1, c1, rfl, _, _⟩ := own_shape ho1
  obtain ⟨g1, t1, rfl, hgg1, hb1, hc1', hm1, hl1'⟩ := own_open ho1 (by omega)
  clear ho1 hg1 hcell
  go_wp2_with (at_make; refine wpList_make_blk _ rfl _ _ 125 rfl 4 (.bool false) 1 Try.underlying125 info_bool rfl _ _ cs.length rfl rfl (by omega) (by unfold maxLen; omega) ?_)
  intro w2 hb2 hw2 hs2
  rw [boolsL_none] at hb2
  have e1 := hb1.same hw2
  have hw2' := hw1.trans (hw2.mono hw1.size)
  have hg1l := hb1.lt
  have hs1 := hw1.size
  clear hb1 hw1 hw2
  go_wp2_with fail
  go_loopw [9, 7, 8] (fun ch lv cv wr => ∃ (fs : Nat → Bool) (left count : Int) (cb : Bool), ch = .bool cb ∧ lv = .int .i64 left ∧ cv = .int .i64 count ∧ Hid (GInv cs est fs left count) ∧ Hid (cb = true ∨ ∀ i, i < cs.length → fs i = false → left < cs.getD i 0 * count) ∧ Blk wr w1.heap.size (boolsL cs.length fs) 4 ∧ Blk wr g1 (ints cs ++ t1) 2 ∧ Below w.heap.size w wr) (fun ch _ cv _ => 2 * (intOf cv).toNat + (match ch with | .bool true => 1 | _ => 0))
  case atStart => exact ⟨_, _, _, _, rfl, rfl, rfl, Hst.out, .inl rfl, hb2, e1, hw2'⟩
  case round =>
    clear hb2 e1 hw2' Hst
    obtain ⟨fs, left, count, cb, rfl, rfl, rfl, hi, hcb, hbf, hb1, hw⟩ := hrel
    obtain ⟨l0, l1, c0, c1'⟩ := ginv_bd hi.out (fun j => (Hnn.out j).1)
    by_cases hgo : cb = true ∧ 0 < count
    · obtain ⟨rfl, hcp⟩ := hgo
      clear hcb
      obtain ⟨wo, rfl⟩ : ∃ wo : World, wo = wr := ⟨_, rfl⟩
      go_wp2_with fail
      go_loopw [28, 7, 8, 9] (fun i lv cv ch wi => ∃ (k : Nat) (fs' : Nat → Bool) (left' count' : Int) (cb : Bool), k ≤ cs.length ∧ i = .int .i64 k ∧ lv = .int .i64 left' ∧ cv = .int .i64 count' ∧ ch = .bool cb ∧ Hid (GInv cs est fs' left' count') ∧
        Hid ((cb = true ∧ count' < count) ∨ (cb = false ∧ count' = count ∧ ∀ i, i < k → fs' i = false → left' < cs.getD i 0 * count')) ∧ Blk wi w1.heap.size (boolsL cs.length fs') 4 ∧ Blk wi g1 (ints cs ++ t1) 2 ∧ Below w.heap.size w wi) (fun i _ _ _ _ => cs.length - (intOf i).toNat)
      case atStart => exact ⟨0, fs, left, count, false, Nat.zero_le _, rfl, rfl, rfl, rfl, hi.out, .inr ⟨rfl, rfl, fun i hi => by omega⟩, hbf, hb1, hw⟩
      case round =>
        clear hbf hb1 hw hi
        obtain ⟨k, fs', left', count', cb, hk, rfl, rfl, rfl, rfl, hi, hcb, hbf, hb1, hw⟩ := hrel
        obtain ⟨l0', l1', c0', c1''⟩ := ginv_bd hi.out (fun j => (Hnn.out j).1)
        by_cases hkl : k < cs.length
        · have hgz := hbf.cell k
          rw [boolsL_get hkl] at hgz
          obtain ⟨b2, o2, hax, hbb2, hcell⟩ := (h.below hw (Nat.le_refl _)).at (k := k) hkl
          have hck := hcell k hkl
          injection hax with hax
          injection hax with hax1 hax2
          subst hax1 hax2
          obtain ⟨x0, x1⟩ := Hnn.out k
          have hm1 : cs.getD k 0 * count' ≤ 1680000 * 8 := Int.mul_le_mul x1 (by omega) c0' (by omega)
          have hm0 : 0 ≤ cs.getD k 0 * count' := Int.mul_nonneg x0 c0'
          cases hf : fs' k with
          | true =>
            rw [hf] at hgz
            have hcb' : Hid ((cb = true ∧ count' < count) ∨ (cb = false ∧ count' = count ∧ ∀ i, i < k + 1 → fs' i = false → left' < cs.getD i 0 * count')) := by
              rcases hcb.out with hh | ⟨h1, h2, h3⟩
              · exact .inl hh
              · refine .inr ⟨h1, h2, fun i hi hfi => ?_⟩
                by_cases e : i = k
                · subst e; rw [hf] at hfi; cases hfi
                · exact h3 i (by omega) hfi
            clear hcell hcb hf
            go_wp2_with fail
            go_roundw
            case rel => exact ⟨k + 1, fs', left', count', cb, by omega, by go_num, rfl, rfl, rfl, hi, hcb', hbf, hb1, hw⟩
            case measure => simp [intOf]; omega
          | false =>
            rw [hf] at hgz
            by_cases hle : cs.getD k 0 * count' ≤ left'
            · obtain ⟨hstep, hc1⟩ := ginv_step hi.out (fun j => (Hnn.out j).1) hkl hf hle
              have Hstep := Lib.hid hstep
              have hcb' : Hid ((true = true ∧ count' - 1 < count) ∨ (true = false ∧ count' - 1 = count ∧ ∀ i, i < k + 1 → updB fs' k i = false → left' - cs.getD k 0 < cs.getD i 0 * (count' - 1))) := by
                refine .inl ⟨rfl, ?_⟩
                rcases hcb.out with ⟨_, hh⟩ | ⟨_, h2, _⟩ <;> omega
              have hfr := hbf.free k
              have hset := hbf.set k (.bool true)
              rw [boolsL_set] at hset
              have hb1' := hb1.oth (g := w1.heap.size) (by omega) k (.bool true)
              have hbel := below_sto hw (g := w1.heap.size) hs1 k (.bool true)
              obtain ⟨q1, q2, q3, q4⟩ := ginv_bd hstep (fun j => (Hnn.out j).1)
              generalize cs.getD k 0 = xk at *
              clear hcell hcb hf hbf hb1 hw hstep hi
              go_wp2_with fail
              go_roundw
              case rel => exact ⟨k + 1, updB fs' k, left' - xk, count' - 1, true, by omega, by go_num, rfl, rfl, rfl, Hstep, hcb', hset, hb1', hbel⟩
              case measure => simp [intOf]; omega
            · have hcb' : Hid ((cb = true ∧ count' < count) ∨ (cb = false ∧ count' = count ∧ ∀ i, i < k + 1 → fs' i = false → left' < cs.getD i 0 * count')) := by
                rcases hcb.out with hh | ⟨h1, h2, h3⟩
                · exact .inl hh
                · refine .inr ⟨h1, h2, fun i hi hfi => ?_⟩
                  by_cases e : i = k
                  · subst e; omega
                  · exact h3 i (by omega) hfi
              generalize cs.getD k 0 = xk at *
              clear hcell hcb hf
              go_wp2_with fail
              go_roundw
              case rel => exact ⟨k + 1, fs', left', count', cb, by omega, by go_num, rfl, rfl, rfl, hi, hcb', hbf, hb1, hw⟩
              case measure => simp [intOf]; omega
        · have : k = cs.length := by omega
          subst this
          have hcb' : Hid (cb = true ∨ ∀ i, i < cs.length → fs' i = false → left' < cs.getD i 0 * count') := by
            rcases hcb.out with hh | ⟨h1, h2, h3⟩
            · exact .inl hh.1
            · exact .inr h3
          have hmeas : Hid (2 * count'.toNat + (match cb with | true => 1 | false => 0) < 2 * count.toNat + 1) := by
            show _ < _
            rcases hcb.out with ⟨rfl, hh⟩ | ⟨rfl, h2, _⟩
            · simp only; omega
            · simp only; omega
          go_wp2_with fail
          go_roundw
          case rel => exact ⟨fs', left', count', cb, rfl, rfl, rfl, hi, hcb', hbf, hb1, hw⟩
          case measure => have := hmeas.out; cases cb <;> simpa [intOf] using this
    · have hend : count ≤ 0 ∨ ∀ i, i < cs.length → fs i = false → left < cs.getD i 0 * count := by
        rcases hcb.out with rfl | hh
        · exact .inl (by have : ¬ 0 < count := fun hh => hgo ⟨rfl, hh⟩
                         omega)
        · exact .inr hh
      obtain ⟨fo, hfo⟩ : ∃ fo : List Int, fo = (List.range cs.length).map fun i => if fs i then cs.getD i 0 else left / count := ⟨_, rfl⟩
      have hfl : fo.length = cs.length := by rw [hfo]; simp
      have hfg : ∀ i, i < cs.length → fo[i]? = some (if fs i then cs.getD i 0 else left / count) := fun i hi => by rw [hfo]; simp [hi]
      have hlv := Hend.out fs left count hi.out hend hfl (fun i hi => getD_of_get (hfg i hi))
      have hE : Hid (gainF cs est = fo) := level_unique Hlev.out hlv
      have Hfl := Lib.hid hfl
      have Hfg := Lib.hid hfg
      have Hcnt := Lib.hid hi.out.cnt
      have hb1' : Blk wr g1 (ints (fo.take 0 ++ cs.drop 0) ++ t1) 2 := by simpa using hb1
      clear hlv hend hfl hfg hfo Hend hb1
      have hcases : cb = false ∨ (cb = true ∧ count ≤ 0) := by
        cases cb with
        | false => exact .inl rfl
        | true => exact .inr ⟨rfl, by have : ¬ 0 < count := fun hh => hgo ⟨rfl, hh⟩
                                      omega⟩
      clear hcb hgo hi
      rcases hcases with rfl | ⟨rfl, hc0⟩
      all_goals
        go_wp2_with fail
        go_loopw [60] (fun i wi => ∃ k : Nat, k ≤ cs.length ∧ i = .int .i64 k ∧ Blk wi w1.heap.size (boolsL cs.length fs) 4 ∧ Blk wi g1 (ints (fo.take k ++ cs.drop k) ++ t1) 2 ∧ Below w.heap.size w wi) (fun i _ => cs.length - (intOf i).toNat)
        case atStart => exact ⟨0, Nat.zero_le _, rfl, hbf, hb1', hw⟩
        case round =>
          clear hbf hb1' hw
          obtain ⟨k, hk, rfl, hbf, hb1, hw⟩ := hrel
          by_cases hkl : k < cs.length
          · have hgz := hbf.cell k
            rw [boolsL_get hkl] at hgz
            have hv := Hfg.out k hkl
            cases hf : fs k with
            | true =>
              rw [hf] at hgz hv
              simp only [if_true] at hv
              have hsame := mix_same hkl hv (get_of_lt hkl)
              rw [hsame] at hb1
              clear hv hf hsame
              go_wp2_with fail
              go_roundw
              case rel => exact ⟨k + 1, by omega, by go_num, hbf, hb1, hw⟩
              case measure => simp [intOf]; omega
            | false =>
              rw [hf] at hgz hv
              simp only [Bool.false_eq_true, if_false] at hv
              have hcp := cnt_pos fs hkl hf
              have hcp2 : 1 ≤ count := by rw [Hcnt.out]; exact hcp
              have hfr := hb1.free k
              obtain ⟨old, hold⟩ := hb1.has (j := k) (by simp; have := Hfl.out; omega)
              have hset := set_app hb1 (j := k) (by simp; have := Hfl.out; omega) (left / count)
              rw [mix_step hkl Hfl.out hv] at hset
              have hbf' := hbf.oth (g := g1) (by omega) k (.int .i64 (left / count))
              have hbel := below_sto hw (g := g1) hgg1 k (.int .i64 (left / count))
              clear hv hf hb1 hbf hw hcp
              first
                | (exfalso; omega)
                | (go_wp2_with fail
                   go_roundw
                   case rel => exact ⟨k + 1, by omega, by go_num, hbf', hset, hbel⟩
                   case measure => simp [intOf]; omega)
          · have : k = cs.length := by omega
            subst this
            rw [List.take_of_length_le (by rw [Hfl.out]; exact Nat.le_refl _), List.drop_length, List.append_nil] at hb1
            have hlt1 : (ints fo ++ t1).length = c1 := by have := hl1'; simp at this ⊢; rw [Hfl.out]; exact this
            have hcl := own_close (base := w.heap.size) hb1 hgg1 (n := cs.length) (by rw [ints_length, Hfl.out]) hc1' hm1 hlt1
            have hR : OwnI 2 wr w.heap.size wr.heap.size (some ⟨g1, 0, none⟩) c1 (gainF cs est) := by
              rw [hE.out]
              refine OwnI.of_own ?_
              rw [Hfl.out]; exact hcl
            have HRR := Lib.hid hR
            clear hR hcl hb1
            go_wp2_with fail
            go_ret
            exact ⟨_, _, rfl, HRR.out, hw⟩
end Go.Proofs.Ythbclfaeplmjgaa
