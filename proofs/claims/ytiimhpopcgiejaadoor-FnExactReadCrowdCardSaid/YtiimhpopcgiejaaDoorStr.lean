/-
  Strings as lists of bytes; pieces between marks. No Go function is named here.
-/
import Derived.Test.YtiimhpopcgiejaaDoorSlices
import Derived.Lib.Split
import Derived.Lib.CountLaws
import Derived.Lib.SplitLaws
namespace Go.Proofs.YtiimhpopcgiejaaDoor
set_option linter.unusedVariables false
set_option linter.unusedSimpArgs false
open Go.RowKit

def bs (l : List UInt8) : ByteArray := ⟨l.toArray⟩
theorem bs_list (l : List UInt8) : (bs l).data.toList = l := rfl
theorem bs_of (s : ByteArray) : bs s.data.toList = s := by cases s; rfl
theorem bs_size (l : List UInt8) : (bs l).size = l.length := by rw [Lib.size_eq, bs_list]
theorem ext_bs {s t : ByteArray} (h : s.data.toList = t.data.toList) : s = t := by rw [← bs_of s, ← bs_of t, h]
theorem bs_inj {a b : List UInt8} (h : bs a = bs b) : a = b := by rw [← bs_list a, h, bs_list]
theorem extract_bs (s : ByteArray) (a b : Nat) : s.extract a b = bs ((s.data.toList.take b).drop a) := by
  apply ext_bs
  rw [Lib.extract_data, bs_list, List.drop_take]
theorem bs_toList (l : List UInt8) : (bs l).toList = l := by rw [Lib.toList_data, bs_list]
theorem bs_empty (l : List UInt8) : (bs l).toList.isEmpty = decide (l = []) := by rw [bs_toList]; cases l <;> simp
theorem bs_beq (x y : List UInt8) : ((bs x).toList == y) = decide (x = y) := by rw [bs_toList, Bool.eq_iff_iff, beq_iff_eq, decide_eq_true_eq]
/-- Strings as the cells of a slice. -/
def strs (xs : List (List UInt8)) : List Value := xs.map fun l => Value.string (bs l)
@[simp] theorem strs_length (xs : List (List UInt8)) : (strs xs).length = xs.length := by simp [strs]
theorem strs_append (xs ys : List (List UInt8)) : strs (xs ++ ys) = strs xs ++ strs ys := by simp [strs]
theorem strs_get {xs : List (List UInt8)} {k : Nat} {l : List UInt8} (h : xs[k]? = some l) : (strs xs)[k]? = some (.string (bs l)) := by simp [strs, h]
/-- Pieces between marks. -/
def cutL (c : UInt8) : List UInt8 → List (List UInt8)
  | [] => [[]]
  | b :: l => if b = c then [] :: cutL c l else match cutL c l with
    | [] => [[b]]
    | p :: ps => (b :: p) :: ps
theorem cutL_none {c : UInt8} : ∀ {l : List UInt8}, c ∉ l → cutL c l = [l]
  | [], _ => rfl
  | b :: l, h => by
    rw [cutL, if_neg (fun e => h (by simp [e])), cutL_none (fun hm => h (by simp [hm]))]
theorem cutL_hit {c : UInt8} : ∀ {p q : List UInt8}, c ∉ p → cutL c (p ++ c :: q) = p :: cutL c q
  | [], q, _ => by simp [cutL]
  | b :: p, q, h => by
    rw [List.cons_append, cutL, if_neg (fun e => h (by simp [e])), cutL_hit (p := p) (fun hm => h (by simp [hm]))]
theorem cutL_pos (c : UInt8) (l : List UInt8) : 1 ≤ (cutL c l).length := by
  cases l with
  | nil => simp [cutL]
  | cons b l =>
    rw [cutL]
    split
    · simp
    · split <;> simp
theorem cutL_len (c : UInt8) : ∀ l : List UInt8, (cutL c l).length ≤ l.length + 1
  | [] => by simp [cutL]
  | b :: l => by
    have := cutL_len c l
    rw [cutL]
    split
    · simp; omega
    · split
      · simp
      · rename_i h
        rw [h] at this
        simp at this ⊢; omega
theorem cutL_mem {c : UInt8} : ∀ {l p : List UInt8}, p ∈ cutL c l → p.length ≤ l.length
  | [], p, h => by simp [cutL] at h; simp [h]
  | b :: l, p, h => by
    rw [cutL] at h
    split at h
    · rcases List.mem_cons.1 h with h | h
      · simp [h]
      · have := cutL_mem h; simp; omega
    · split at h
      · simp at h; simp [h]
      · rename_i q qs e
        rcases List.mem_cons.1 h with h | h
        · have := cutL_mem (l := l) (p := q) (by rw [e]; simp)
          simp [h]; exact this
        · have := cutL_mem (l := l) (p := p) (by rw [e]; simp [h])
          simp; omega
theorem index_take {c : UInt8} {l : List UInt8} {i : Nat} (h : Lib.index l [c] = i) : l = l.take i ++ c :: l.drop (i + 1) ∧ c ∉ l.take i := by
  rw [Lib.index_one] at h
  obtain ⟨h1, h2⟩ := Lib.indexByte_some h
  have hi : i < l.length := (List.getElem?_eq_some_iff.1 h1).1
  have hg : l[i] = c := by rw [List.getElem?_eq_getElem hi] at h1; injection h1
  refine ⟨?_, fun hm => ?_⟩
  · rw [← hg, ← List.drop_eq_getElem_cons hi, List.take_append_drop]
  · obtain ⟨k, hk, e⟩ := List.getElem_of_mem hm
    rw [List.length_take] at hk
    refine h2 k (by omega) ?_
    rw [List.getElem_take] at e
    rw [← e, List.getElem?_eq_getElem (by omega)]
theorem index_no {c : UInt8} {l : List UInt8} (h : Lib.index l [c] = -1) : c ∉ l := by
  rw [Lib.index_one] at h
  intro hm
  obtain ⟨k, hk, e⟩ := List.getElem_of_mem hm
  exact Lib.indexByte_none h k (by rw [List.getElem?_eq_getElem hk, e])
theorem splitB_cut {c : UInt8} {sep : ByteArray} (hs : sep.data.toList = [c]) : ∀ (n : Nat) (s : ByteArray), s.size ≤ n → (Lib.splitB sep 0 (Lib.countB s sep) s).map (fun x => x.data.toList) = cutL c s.data.toList := by
  have h1 : sep.size = 1 := by rw [Lib.size_eq, hs]; rfl
  intro n
  induction n with
  | zero =>
    intro s hn
    have e : s.data.toList = [] := List.eq_nil_of_length_eq_zero (by rw [← Lib.size_eq]; omega)
    have hm : Lib.indexB s sep = -1 := by unfold Lib.indexB; rw [e, hs]; rfl
    rw [Lib.countB_miss _ _ hm, Lib.splitB_zero, e]; simp [e, cutL]
  | succ n ih =>
    intro s hn
    rcases Lib.indexB_cases s sep with hm | ⟨i, hi, hle⟩
    · rw [Lib.countB_miss _ _ hm, Lib.splitB_zero]
      unfold Lib.indexB at hm
      rw [hs] at hm
      rw [cutL_none (index_no hm)]; rfl
    · rw [Lib.countB_hit s sep i (by omega) hi, Nat.add_comm 1, Lib.splitB_hit _ _ _ _ i hi, List.map_cons]
      have hsz : (s.extract (i + sep.size) s.size).size ≤ n := by
        rw [Lib.size_eq, Lib.extract_to_end, List.length_drop, ← Lib.size_eq]; omega
      rw [ih _ hsz, Lib.extract_to_end, h1, Nat.add_zero, Lib.extract_from_zero]
      unfold Lib.indexB at hi
      rw [hs] at hi
      obtain ⟨e1, e2⟩ := index_take hi
      have := cutL_hit (p := s.data.toList.take i) (q := s.data.toList.drop (i + 1)) e2
      rw [← e1] at this
      exact this.symm
theorem splitB_strs {c : UInt8} {sep : ByteArray} (hs : sep.data.toList = [c]) (s : ByteArray) : (Lib.splitB sep 0 (Lib.countB s sep) s).map Value.string = strs (cutL c s.data.toList) := by
  rw [← splitB_cut hs _ s (Nat.le_refl _)]
  unfold strs
  rw [List.map_map]
  exact List.map_congr_left fun x _ => by show _ = Value.string (bs x.data.toList); rw [bs_of]
theorem countB_cut {c : UInt8} {sep : ByteArray} (hs : sep.data.toList = [c]) (s : ByteArray) : Lib.countB s sep + 1 = (cutL c s.data.toList).length := by
  have h1 : sep.size = 1 := by rw [Lib.size_eq, hs]; rfl
  rw [← splitB_cut hs _ s (Nat.le_refl _), List.length_map, Lib.splitB_all sep (by omega) 0 _ s rfl]
/-- The pieces that are done, and where the next one begins, behind the first i bytes. -/
def cutN (c : UInt8) (l : List UInt8) : Nat → List (List UInt8) × Nat
  | 0 => ([], 0)
  | i + 1 => if l[i]? = some c then ((cutN c l i).1 ++ [(l.take i).drop (cutN c l i).2], i + 1) else cutN c l i
theorem cutN_spec (c : UInt8) (l : List UInt8) : ∀ i, i ≤ l.length → (cutN c l i).2 ≤ i ∧ c ∉ (l.take i).drop (cutN c l i).2 ∧ cutL c l = (cutN c l i).1 ++ cutL c (l.drop (cutN c l i).2)
  | 0, _ => by simp [cutN]
  | i + 1, h => by
    obtain ⟨h1, h2, h3⟩ := cutN_spec c l i (by omega)
    have hi : i < l.length := by omega
    rw [cutN]
    split
    · rename_i he
      rw [List.getElem?_eq_getElem hi] at he
      injection he with he
      refine ⟨Nat.le_refl _, by simp, ?_⟩
      rw [h3, List.append_assoc]
      congr 1
      generalize (cutN c l i).2 = q at *
      have e1 : l.drop q = (l.take i).drop q ++ c :: l.drop (i + 1) := by
        have hh := List.take_append_drop i l
        have e2 : l.drop i = c :: l.drop (i + 1) := by rw [List.drop_eq_getElem_cons hi, he]
        rw [e2] at hh
        have : ((l.take i) ++ c :: l.drop (i + 1)).drop q = (l.take i).drop q ++ c :: l.drop (i + 1) := List.drop_append_of_le_length (by rw [List.length_take]; omega)
        rwa [hh] at this
      rw [e1, cutL_hit h2]; rfl
    · rename_i he
      refine ⟨by omega, fun hm => ?_, h3⟩
      rw [List.take_succ_eq_append_getElem hi, List.drop_append_of_le_length (by rw [List.length_take]; omega)] at hm
      rcases List.mem_append.1 hm with hm | hm
      · exact h2 hm
      · simp at hm; exact he (by rw [List.getElem?_eq_getElem hi, hm])
theorem cutN_all (c : UInt8) (l : List UInt8) : cutL c l = (cutN c l l.length).1 ++ [l.drop (cutN c l l.length).2] := by
  obtain ⟨_, h2, h3⟩ := cutN_spec c l l.length (Nat.le_refl _)
  rw [List.take_length] at h2
  conv => lhs; rw [h3]
  rw [cutL_none h2]
theorem cutN_len (c : UInt8) (l : List UInt8) : ∀ i, (cutN c l i).1.length ≤ i
  | 0 => by simp [cutN]
  | i + 1 => by
    have := cutN_len c l i
    rw [cutN]
    split
    · simp; omega
    · omega
end Go.Proofs.YtiimhpopcgiejaaDoor
