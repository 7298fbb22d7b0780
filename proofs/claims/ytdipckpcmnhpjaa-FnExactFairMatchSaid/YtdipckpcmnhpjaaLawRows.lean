/-
  What the law's helpers on lists of lists of integers compute: count, copy, compare, mark.
-/
import Derived.Test.YtdipckpcmnhpjaaLawInts
import Derived.Test.YtdipckpcmnhpjaaBallots
import Derived.Deep.Matrix
namespace Go.Proofs.Ytdipckpcmnhpjaa
set_option linter.unusedVariables false
set_option linter.unusedSimpArgs false
open Go.RowKit

/-- An argument that is a slice of slices of integers, as the row's own frame tells it. -/
theorem rdII_rows {w : World} {a : Addr} {len cap : Nat} {A : Nat → Option Addr} {L C : Nat → Nat} {Z : Nat → List Int} (hl : len ≤ cap)
    (h : ∀ r, r < cap → w.cell? (a.add r) = some (.slice (A r) (L r) (C r)) ∧ L r ≤ C r ∧ C r ≤ maxLen ∧ (Z r).length = C r ∧ (∀ n ∈ Z r, (Lit.int .i64 n).wf = true) ∧ (A r = none → C r = 0) ∧
      ∀ a', A r = some a' → 0 ≤ a'.block ∧ ∀ c, c < C r → w.cell? (a'.add c) = some (.int .i64 ((Z r).getD c 0))) :
    RdII w w.heap.size (some a) ((List.range len).map fun r => (Z r).take (L r)) := by
  refine ⟨(List.range len).map fun r => Value.slice (A r) (L r) (C r), by simp, ?_, ?_⟩
  · by_cases h0 : len = 0
    · subst h0; exact .inl rfl
    · have hx := (h 0 (by omega)).1
      have hx0 : a.add 0 = a := rfl
      rw [hx0] at hx
      obtain ⟨b, o, s⟩ := a
      have hs : s = none := by
        cases s with
        | none => rfl
        | some s =>
          unfold World.cell? at hx
          split at hx <;> simp at hx
      subst hs
      refine .inr ⟨b, o, rfl, World.block_lt_of_cell? w _ hx, fun j hj => ?_⟩
      have hj' : j < len := by simpa using hj
      have hj2 := (h j (by omega)).1
      have ea : (⟨b, o, none⟩ : Addr).add j = ⟨b, o + j, none⟩ := by unfold Addr.add; split <;> simp_all
      rw [ea] at hj2
      rw [hj2]
      simp [hj']
  · intro k ys hk
    have hk' : k < len := by
      have := (List.getElem?_eq_some_iff.1 hk).1
      simpa using this
    obtain ⟨_, h2, h3, h4, h5, h6, h7⟩ := h k (by omega)
    have hys : ys = (Z k).take (L k) := by simpa [hk'] using hk.symm
    subst hys
    have hlen : ((Z k).take (L k)).length = L k := by simp; omega
    refine ⟨A k, C k, by rw [hlen]; simp [hk'], by omega, ?_⟩
    cases hA : A k with
    | none =>
      have := h6 hA
      have e : (Z k).take (L k) = [] := List.eq_nil_of_length_eq_zero (by omega)
      rw [e]; exact .inl rfl
    | some x =>
      exact (rd_of_row (.inr ⟨x, rfl, h2, h3, h4, fun i hi => (h7 x hA).2 i (by omega), h5⟩)).1

theorem rdII_of_rows' {w : World} {a : Addr} {len cap : Nat} {A : Nat → Option Addr} {L C : Nat → Nat} {Z : Nat → List Int} (hl : len ≤ cap) (hm : cap ≤ maxLen)
    (h : ∀ r, r < cap → w.cell? (a.add r) = some (.slice (A r) (L r) (C r)) ∧ L r ≤ C r ∧ C r ≤ maxLen ∧ (Z r).length = C r ∧ (∀ n ∈ Z r, (Lit.int .i64 n).wf = true) ∧ (A r = none → C r = 0) ∧
      ∀ a', A r = some a' → 0 ≤ a'.block ∧ ∀ c, c < C r → w.cell? (a'.add c) = some (.int .i64 ((Z r).getD c 0))) :
    ∃ yss : List (List Int), yss.length = len ∧ RdII w w.heap.size (some a) yss ∧ yss.length ≤ 9223372036854775807 ∧ ∀ y ∈ yss, y.length ≤ 9223372036854775807 := by
  refine ⟨(List.range len).map fun r => (Z r).take (L r), by simp, ?_, by unfold maxLen at hm; simp; omega, ?_⟩
  · exact rdII_rows hl h
  · intro y hy
    obtain ⟨r, hr, rfl⟩ := List.mem_map.1 hy
    have hr' := List.mem_range.1 hr
    obtain ⟨_, h2, h3, h4, _⟩ := h r (by omega)
    unfold maxLen at h3
    simp; omega
theorem rdII_nil (w : World) (B : Nat) (a : Option Addr) : RdII w B a [] := ⟨[], rfl, .inl rfl, fun k ys hk => by simp at hk⟩

/-- How much is left of a count when lists of lists are counted; below 0 if it is not enough. -/
def szRows : List (List Int) → Int → Int
  | [], left => left
  | y :: ys, left => if szF left y.length < 0 then -1 else szRows ys (szF left y.length)
def szFF (left : Int) (yss : List (List Int)) : Int := if left < yss.length then -1 else szRows yss (left - yss.length)
theorem szF_bd (left : Int) (n : Nat) (h : 0 ≤ left) : -1 ≤ szF left n ∧ szF left n ≤ left := by unfold szF; split <;> omega
theorem szRows_spec : ∀ (yss : List (List Int)) (left : Int), 0 ≤ left → 0 ≤ szRows yss left → szRows yss left ≤ left ∧ ∀ y ∈ yss, (y.length : Int) ≤ left
  | [], left, _, _ => ⟨Int.le_refl _, by simp⟩
  | y :: ys, left, h, h2 => by
    unfold szRows at h2 ⊢
    by_cases hn : szF left y.length < 0
    · rw [if_pos hn] at h2; omega
    · rw [if_neg hn] at h2 ⊢
      have hb := szF_bd left y.length h
      obtain ⟨i1, i2⟩ := szRows_spec ys (szF left y.length) (by omega) h2
      have hy : (y.length : Int) ≤ left := by unfold szF at hn; split at hn <;> omega
      exact ⟨by omega, fun z hz => by
        rcases List.mem_cons.1 hz with rfl | hz
        · exact hy
        · have := i2 z hz; omega⟩
theorem szFF_spec {yss : List (List Int)} (h : ¬ szFF 1048576 yss < 0) : yss.length ≤ 1048576 ∧ ∀ y ∈ yss, y.length ≤ 1048576 := by
  unfold szFF at h
  by_cases h1 : (1048576 : Int) < yss.length
  · rw [if_pos h1] at h; omega
  · rw [if_neg h1] at h
    obtain ⟨_, i2⟩ := szRows_spec yss (1048576 - yss.length) (by omega) (by omega)
    exact ⟨by omega, fun y hy => by have := i2 y hy; omega⟩
set_option maxHeartbeats 1000000 in
theorem szInt64SS_any (w : World) (a : Option Addr) (c : Nat) (yss : List (List Int)) (h : RdII w w.heap.size a yss) (hl : yss.length ≤ 9223372036854775807) (hin : ∀ y ∈ yss, y.length ≤ 9223372036854775807) :
    Calls Try.prog 55 #[.slice a yss.length c, .int .i64 1048576] w fun e w' => e = .returned (.int .i64 (szFF 1048576 yss)) ∧ w = w' := by
  by_cases h1 : (1048576 : Int) < yss.length
  · have HF : Hid (szFF 1048576 yss = -1) := by simp [Hid, szFF, h1]
    clear h hin
    go_enter Try.func55, Try.ntmps55
    go_wp2
    go_ret
    exact ⟨ret_int HF.out.symm, rfl⟩
  · have HF : Hid (szFF 1048576 yss = szRows yss (1048576 - yss.length)) := by simp only [Hid, szFF, if_neg h1]
    have Hin := Lib.hid hin
    clear hin
    go_enter Try.func55, Try.ntmps55
    go_wp2_with fail
    go_loop [1, 5] (fun lf i => ∃ (k : Nat) (l : Int), k ≤ yss.length ∧ 0 ≤ l ∧ l ≤ 1048576 ∧ i = .int .i64 k ∧ lf = .int .i64 l ∧ Hid (szRows yss (1048576 - yss.length) = szRows (yss.drop k) l)) (fun _ i => yss.length - (intOf i).toNat)
    case atStart => exact ⟨0, _, Nat.zero_le _, by omega, by omega, rfl, rfl, rfl⟩
    case round =>
      obtain ⟨k, l, hk, hl0, hl1, rfl, rfl, ha⟩ := hrel
      by_cases hlt : k < yss.length
      · obtain ⟨b, o, ys, a', c', rfl, hbb, hcell, hc1, hr1, hy1⟩ := h.get hlt
        have hyl := Hin.out _ (List.mem_of_getElem? hy1.out)
        have hd : yss.drop k = ys :: yss.drop (k + 1) := by
          rw [List.drop_eq_getElem_cons hlt]
          have := hy1.out
          rw [List.getElem?_eq_getElem hlt] at this
          injection this with this
          rw [this]
        have hb := szF_bd l ys.length hl0
        have HS : Hid (szRows yss (1048576 - yss.length) = if szF l ys.length < 0 then -1 else szRows (yss.drop (k + 1)) (szF l ys.length)) := by
          show _ = _
          rw [ha.out, hd, szRows]
        have L := Lib.hid (fun v => szInt64S_any' v a' ys.length c' l hl0 hl1 hyl)
        clear h hd ha
        generalize szF l ys.length = l2 at *
        obtain ⟨hb1, hb2⟩ := hb
        by_cases hn : l2 < 0
        · have HS2 : Hid (szRows yss (1048576 - yss.length) = -1) := by rw [Hid, HS.out, if_pos hn]
          clear HS
          go_wp2_with (go_at_call 98; refine (L.out _).mono ?_; rintro e w' ⟨rfl, rfl⟩)
          go_ret
          exact ⟨ret_int (by rw [HF.out, HS2.out]), rfl⟩
        · have HS2 : Hid (szRows yss (1048576 - yss.length) = szRows (yss.drop (k + 1)) l2) := by rw [Hid, HS.out, if_neg hn]
          clear HS
          go_wp2_with (go_at_call 98; refine (L.out _).mono ?_; rintro e w' ⟨rfl, rfl⟩)
          go_round
          case rel => exact ⟨k + 1, l2, by omega, by omega, by omega, by go_num, rfl, HS2⟩
          case measure => simp [intOf]; omega
      · have : k = yss.length := by omega
        subst this
        have HS2 : Hid (szRows yss (1048576 - yss.length) = l) := by rw [Hid, ha.out, List.drop_length, szRows]
        clear ha h
        go_wp2
        go_ret
        exact ⟨ret_int (by rw [HF.out, HS2.out]), rfl⟩
/-- The outer cells of a copy whose rows lie in the blocks from lo on. -/
def rowCells (lo : Nat) (yss : List (List Int)) (k : Nat) : List Value :=
  (List.range yss.length).map fun j => if j < k then Value.slice (some ⟨lo + j, 0, none⟩) (yss.getD j []).length (yss.getD j []).length else Value.slice none 0 0
theorem rowCells_length (lo : Nat) (yss : List (List Int)) (k : Nat) : (rowCells lo yss k).length = yss.length := by simp [rowCells]
theorem rowCells_zero (lo : Nat) (yss : List (List Int)) : rowCells lo yss 0 = List.replicate yss.length (Value.slice none 0 0) := by
  apply List.ext_getElem <;> simp [rowCells]
theorem rowCells_succ (lo : Nat) (yss : List (List Int)) (k : Nat) (ys : List Int) (h : yss[k]? = some ys) :
    (rowCells lo yss k).set k (.slice (some ⟨lo + k, 0, none⟩) ys.length ys.length) = rowCells lo yss (k + 1) := by
  have hk := (List.getElem?_eq_some_iff.1 h).1
  have hy : yss.getD k [] = ys := by simp [List.getD, h]
  apply List.ext_getElem
  · simp [rowCells]
  · intro i h1 h2
    simp only [rowCells, List.getElem_set, List.getElem_map, List.getElem_range]
    by_cases hik : k = i
    · subst hik; simp; rw [← List.getD_eq_getElem?_getD, hy]
    · rw [if_neg hik]
      by_cases h3 : i < k
      · rw [if_pos h3, if_pos (by omega)]
      · rw [if_neg h3, if_neg (by omega)]
theorem rowCells_get (lo : Nat) (yss : List (List Int)) (k : Nat) (ys : List Int) (h : yss[k]? = some ys) :
    (rowCells lo yss yss.length)[k]? = some (.slice (some ⟨lo + k, 0, none⟩) ys.length ys.length) := by
  have hk := (List.getElem?_eq_some_iff.1 h).1
  have hy : yss.getD k [] = ys := by simp [List.getD, h]
  rw [List.getElem?_eq_getElem (by simpa [rowCells] using hk)]
  simp only [rowCells, List.getElem_map, List.getElem_range, if_pos hk, hy]
/-- A slice of slices of integers in blocks of its own, as the law's copy makes it. -/
def OwnII (T T2 : Nat) (w : World) (lo hi : Nat) (a : Option Addr) (c : Nat) (yss : List (List Int)) : Prop :=
  ∃ g, a = some ⟨g, 0, none⟩ ∧ c = yss.length ∧ lo ≤ g ∧ g + 1 + yss.length ≤ hi ∧ hi ≤ w.heap.size ∧ Blk w g (rowCells (g + 1) yss yss.length) T2 ∧ ∀ (j : Nat) (ys : List Int), yss[j]? = some ys → Blk w (g + 1 + j) (ints ys) T
section
variable {T T2 lo hi c : Nat} {w w' : World} {a : Option Addr} {yss : List (List Int)}
theorem OwnII.rd (h : OwnII T T2 w lo hi a c yss) : RdII w hi a yss := by
  obtain ⟨g, rfl, rfl, h1, h2, _, h3, h4⟩ := h
  refine ⟨_, rowCells_length _ _ _, h3.rd (by omega), fun k ys hk => ⟨_, _, rowCells_get _ _ _ _ hk, Nat.le_refl _, (h4 k ys hk).rd ?_⟩⟩
  have hk := (List.getElem?_eq_some_iff.1 hk).1
  omega
theorem OwnII.keep (h : OwnII T T2 w lo hi a c yss) (hb : Below w.heap.size w w') : OwnII T T2 w' lo hi a c yss := by
  obtain ⟨g, h1, h2, h3, h4, h0, h5, h6⟩ := h
  exact ⟨g, h1, h2, h3, h4, by have := hb.size; omega, h5.same hb, fun j ys hj => (h6 j ys hj).same hb⟩
theorem OwnII.touch {lo' hi' : Nat} (h : OwnII T T2 w lo hi a c yss) (ht : Touch w w' lo' hi') (hd : hi ≤ lo' ∨ hi' ≤ lo) : OwnII T T2 w' lo hi a c yss := by
  obtain ⟨g, h1, h2, h3, h4, h0, h5, h6⟩ := h
  exact ⟨g, h1, h2, h3, h4, by have := ht.size; omega, h5.touch ht (by omega), fun j ys hj => (h6 j ys hj).touch ht (by have := (List.getElem?_eq_some_iff.1 hj).1; omega)⟩
end
theorem info_ints : (Try.prog.info? 25).map (fun i => (i.zero, i.size, i.bytes)) = some (some (.slice none 0 0), 1, 24) := by kernel_rfl
set_option maxHeartbeats 1000000 in
theorem lawTo_II (w : World) (B : Nat) (a : Option Addr) (c : Nat) (yss : List (List Int)) (h' : RdII w B a yss) (hB : B ≤ w.heap.size) (hl : yss.length ≤ 1048576) (hin : ∀ y ∈ yss, y.length ≤ 1048576) :
    Calls Try.prog 57 #[.slice a yss.length c] w fun e w' => ∃ a' c', e = .returned (.slice a' yss.length c') ∧ OwnII 2 25 w' w.heap.size w'.heap.size a' c' yss ∧ Below w.heap.size w w' := by
  have h := h'.mono hB
  have Hin := Lib.hid hin
  clear h' hin hB
  go_enter Try.func57, Try.ntmps57
  go_wp2_with (at_make; refine wpList_make_blk _ rfl _ _ 22 rfl 25 (.slice none 0 0) 24 Try.underlying22 info_ints rfl _ _ yss.length rfl rfl (by omega) (by unfold maxLen; omega) ?_)
  intro w1 hb1 hw1 hs1
  go_wp2
  go_loopw [4] (fun i wr => ∃ k : Nat, k ≤ yss.length ∧ i = .int .i64 k ∧ Blk wr w.heap.size (rowCells (w.heap.size + 1) yss k) 25 ∧ Below w.heap.size w wr ∧ Hid (wr.heap.size = w.heap.size + 1 + k ∧ ∀ (j : Nat) (ys : List Int), j < k → yss[j]? = some ys → Blk wr (w.heap.size + 1 + j) (ints ys) 2)) (fun i _ => yss.length - (intOf i).toNat)
  case atStart => exact ⟨0, Nat.zero_le _, rfl, by rw [rowCells_zero]; exact hb1, hw1, by omega, fun j ys hj => by omega⟩
  case round =>
    obtain ⟨k, hk, rfl, hb, hw, Hr⟩ := hrel
    by_cases hlt : k < yss.length
    · obtain ⟨b, o, ys, a', c', rfl, hbb, hcell, hc1, hr1, hy1⟩ := (h.below hw (Nat.le_refl _)).get hlt
      have L := Lib.hid (toInt64S_any wr a' c' ys (hr1.mono hw.size) (Hin.out _ (List.mem_of_getElem? hy1.out)))
      clear h
      go_wp2_with fail
      refine (L.out).mono ?_
      rintro e w2 ⟨rfl, h2, h3, h4⟩
      have hb2 := hb.same h3
      have hfr := hb2.free k
      obtain ⟨old, hold⟩ := hb2.has (j := k) (by rw [rowCells_length]; exact hlt)
      have hset := hb2.set k (.slice (some ⟨wr.heap.size, 0, none⟩) ys.length ys.length)
      have es : wr.heap.size = w.heap.size + 1 + k := Hr.out.1
      rw [show (Value.slice (some ⟨wr.heap.size, 0, none⟩) ys.length ys.length) = .slice (some ⟨w.heap.size + 1 + k, 0, none⟩) ys.length ys.length by rw [es], rowCells_succ _ _ _ _ hy1.out] at hset
      have hbel := (hw.trans (h3.mono hw.size)).setCell (p := ⟨w.heap.size, k, none⟩) (Nat.le_refl _) (.slice (some ⟨wr.heap.size, 0, none⟩) ys.length ys.length)
      rw [es] at hbel
      have HR2 : Hid ((w2.setCell ⟨w.heap.size, k, none⟩ (.slice (some ⟨w.heap.size + 1 + k, 0, none⟩) ys.length ys.length)).heap.size = w.heap.size + 1 + (k + 1) ∧ ∀ (j : Nat) (zs : List Int), j < k + 1 → yss[j]? = some zs → Blk (w2.setCell ⟨w.heap.size, k, none⟩ (.slice (some ⟨w.heap.size + 1 + k, 0, none⟩) ys.length ys.length)) (w.heap.size + 1 + j) (ints zs) 2) := by
        refine ⟨by simp; omega, fun j zs hj hz => ?_⟩
        refine Blk.oth ?_ (by omega) _ _
        by_cases hjk : j = k
        · subst hjk
          have := hz.symm.trans hy1.out
          injection this with this
          subst this
          rw [← es]; exact h2
        · exact (Hr.out.2 j zs (by omega) hz).same h3
      clear hb hw Hr h2 h3 h4 hb2
      clear hr1 hcell
      generalize hq : wr.heap.size = q at *
      subst es
      go_wp2
      go_roundw
      case rel => exact ⟨k + 1, by omega, by go_num, hset, hbel, HR2⟩
      case measure => simp [intOf]; omega
    · have : k = yss.length := by omega
      subst this
      go_wp2
      go_ret
      exact ⟨_, _, rfl, ⟨_, rfl, rfl, Nat.le_refl _, by have := Hr.out.1; omega, Nat.le_refl _, hb, fun j ys hj => Hr.out.2 j ys ((List.getElem?_eq_some_iff.1 hj).1) hj⟩, hw⟩
set_option maxHeartbeats 1000000 in
theorem lawEq_II (w : World) (B C : Nat) (a b : Option Addr) (c d : Nat) (yss : List (List Int)) (hx' : RdII w B a yss) (hy' : RdII w C b yss) (hB : B ≤ w.heap.size) (hC : C ≤ w.heap.size) (hl : yss.length ≤ 1048576) (hin : ∀ y ∈ yss, y.length ≤ 1048576) :
    Calls Try.prog 37 #[.slice a yss.length c, .slice b yss.length d] w fun e w' => e = .returned (.bool true) ∧ Below w.heap.size w w' := by
  have hx := hx'.mono hB
  have hy := hy'.mono hC
  have Hin := Lib.hid hin
  have hb1 : ((yss.length : Int) != (yss.length : Int)) = false := by simp
  clear hx' hy' hB hC hin
  go_enter Try.func37, Try.ntmps37
  go_wp2
  go_loopw [5] (fun i wr => ∃ k n : Nat, k ≤ yss.length ∧ i = .int .i64 k ∧ wr = w.drewN n) (fun i _ => yss.length - (intOf i).toNat)
  case atStart => exact ⟨0, 0, Nat.zero_le _, rfl, rfl⟩
  case round =>
    obtain ⟨k, n, hk, rfl, rfl⟩ := hrel
    by_cases hlt : k < yss.length
    · obtain ⟨b1, o1, ys, a1, c1, rfl, _, hcx, hc1, hr1, hy1⟩ := hx.get hlt
      obtain ⟨b2, o2, ys2, a2, c2, rfl, _, hcy, hc2, hr2, hy2⟩ := hy.get hlt
      have : ys2 = ys := by have := hy1.out.symm.trans hy2.out; injection this with this; exact this.symm
      subst this
      have hyl := Hin.out _ (List.mem_of_getElem? hy1.out)
      have L := Lib.hid (fun v => eqInt64S_any (w.drewN v) a1 a2 c1 c2 ys2 ys2 hr1 hr2 (by omega) (by omega))
      rw [show decide (ys2 = ys2) = true by simp] at L
      clear hx hy
      go_wp2
      go_quiet ((go_at_call 21; exact qd2 (L.out _)))
      go_wp2
      exact ⟨⟨k + 1, n + nq, by omega, by go_num, rfl⟩, by simp [intOf]; omega⟩
    · have : k = yss.length := by omega
      subst this
      go_wp2
      go_ret
      exact ⟨rfl, drewN_below w n⟩
theorem markInt64S_blk' (w : World) (g T : Nat) (xs : List Int) (k : Int) (h : Blk w g (ints xs) 2) (hl : xs.length ≤ 1073741824) (hk0 : -1073741824 ≤ k) (hk : k ≤ 1152921504606846976) :
    Calls Try.prog 31 #[.slice (some ⟨g, 0, none⟩) xs.length xs.length, .int .i64 k] w fun e w' => e = .returned (.int .i64 (k + xs.length)) ∧ w.grownBy w' (some g) :=
  (markInt64S_blk w g xs.length 2 xs [] k (by simpa using h) hl hk0 hk).mono fun e w' ⟨h1, _, h3⟩ => ⟨h1, h3⟩
set_option maxHeartbeats 1000000 in
theorem lawMark_II (w : World) (lo hi : Nat) (a : Option Addr) (c : Nat) (yss : List (List Int)) (k0 : Int) (h : OwnII 2 25 w lo hi a c yss) (hl : yss.length ≤ 1048576) (hin : ∀ y ∈ yss, y.length ≤ 1048576) (h0 : 1 ≤ k0) (h1 : k0 ≤ 1125899906842624) :
    Calls Try.prog 38 #[.slice a yss.length c, .int .i64 k0] w fun e w' => ∃ k, e = .returned (.int .i64 k) ∧ (1 ≤ k ∧ k ≤ k0 + 1099511627776) ∧ Touch w w' lo hi := by
  obtain ⟨g, rfl, rfl, hg1, hg2, hg3, hb, hr⟩ := h
  have Hin := Lib.hid hin
  have HR := Lib.hid hr
  clear hin hr
  go_enter Try.func38, Try.ntmps38
  go_wp2
  go_loopw [1, 5] (fun kk i wr => ∃ (j : Nat) (k : Int), j ≤ yss.length ∧ i = .int .i64 j ∧ kk = .int .i64 k ∧ 1 ≤ k ∧ k ≤ k0 + 1048576 * (j : Int) ∧ Touch w wr (g + 1) (g + 1 + j)) (fun _ i _ => yss.length - (intOf i).toNat)
  case atStart => exact ⟨0, k0, Nat.zero_le _, rfl, rfl, h0, by simp, Touch.refl _ _ _⟩
  case round =>
    obtain ⟨j, k, hj, rfl, rfl, hk0, hk1, ht⟩ := hrel
    by_cases hlt : j < yss.length
    · obtain ⟨ys, hys⟩ : ∃ ys, yss[j]? = some ys := ⟨yss[j], List.getElem?_eq_getElem hlt⟩
      have hyl := Hin.out _ (List.mem_of_getElem? hys)
      have hcell := (hb.touch ht (.inl (by omega))).cell j
      rw [rowCells_get _ _ _ _ hys] at hcell
      have hrow := (HR.out j ys hys).touch ht (.inr (by omega))
      have L := Lib.hid (markInt64S_blk' wr (g + 1 + j) 2 ys k hrow (by omega) (by omega) (by omega))
      have Hys := Lib.hid hys
      have hlt2 := hrow.lt
      clear hys hb hrow
      go_wp2_with (go_at_call 31; refine (L.out).mono ?_; rintro e w2 ⟨rfl, hgr⟩)
      go_roundw
      case rel => exact ⟨j + 1, k + ys.length, by omega, by go_num, rfl, by omega, by omega, (ht.mono (Nat.le_refl _) (by omega)).trans (Touch.of_grown hgr (by omega) (by omega))⟩
      case measure => simp [intOf]; omega
    · have : j = yss.length := by omega
      subst this
      go_wp2
      go_ret
      exact ⟨_, rfl, ⟨hk0, by omega⟩, ht.mono (by omega) (by omega)⟩
end Go.Proofs.Ytdipckpcmnhpjaa
