/-
  What is saved is loaded as it was stored; of what is cut or bent, a beginning is recovered. No Go function is named here.
-/
import Derived.Test.YteclpcmbicjjgaaRecov
namespace Go.Proofs.Yteclpcmbicjjgaa
set_option linter.unusedVariables false
set_option linter.unusedSimpArgs false
open Go.RowKit

theorem load_store {v : Sv} (h : svB v = true) : loadF (bs (svL v)) = (v, true) := by
  have ht := taken_parse (s := bs (svL v)) (rest := []) h (by rw [bs_list, List.append_nil])
  have hl := svL_len_eq v
  unfold loadF
  rw [ht]
  show (if ((svL v).length == 0 || (svL v).length != (bs (svL v)).size) = true then (zeroSv, false) else (v, true)) = (v, true)
  rw [if_neg]
  rw [bs_size]
  simp only [bne_self_eq_false, Bool.or_false, beq_iff_eq]; omega
theorem ext_list (s : ByteArray) (p : Nat) : (s.extract p s.size).data.toList = s.data.toList.drop p := by
  rw [extract_bs, bs_list, List.take_of_length_le (by rw [Lib.size_eq]; exact Nat.le_refl _)]
theorem rec_stop {s : ByteArray} {p : Nat} (h : takenF (s.extract p s.size) = none) : ∀ m, recF s m p = ([], p)
  | 0 => rfl
  | m + 1 => recF_none h
theorem rec_pre {s : ByteArray} {rest : List UInt8} : ∀ (vs : List Sv) (m p : Nat), (∀ v ∈ vs, svB v = true) → vs.length ≤ m → s.data.toList.drop p = allL vs ++ rest →
    recF s m p = (vs ++ (recF s (m - vs.length) (p + (allL vs).length)).1, (recF s (m - vs.length) (p + (allL vs).length)).2)
  | [], m, p, _, _, _ => by simp [allL]
  | v :: vs, 0, p, _, hm, _ => by simp at hm
  | v :: vs, m + 1, p, hv, hm, hd => by
    have e : allL (v :: vs) = svL v ++ allL vs := by simp [allL]
    rw [e, List.append_assoc] at hd
    have ht := taken_parse (hv v List.mem_cons_self) ((ext_list s p).trans hd)
    have hd2 : s.data.toList.drop (p + (svL v).length) = allL vs ++ rest := by rw [← List.drop_drop, hd]; simp
    have ih := rec_pre vs m (p + (svL v).length) (fun v' h => hv v' (List.mem_cons_of_mem _ h)) (by simpa using hm) hd2
    rw [recF_some ht, ih, e, List.length_append]
    simp [Nat.add_assoc]
theorem rec_all {vs : List Sv} (hv : ∀ v ∈ vs, svB v = true) (hl : vs.length ≤ 8) : recoverF (bs (allL vs)) = (vs, (allL vs).length) := by
  have h := rec_pre (s := bs (allL vs)) (rest := []) vs 8 0 hv hl (by simp [bs_list])
  have hn : takenF ((bs (allL vs)).extract (allL vs).length (bs (allL vs)).size) = none := by
    cases ht : takenF ((bs (allL vs)).extract (allL vs).length (bs (allL vs)).size) with
    | none => rfl
    | some r =>
      obtain ⟨v, n⟩ := r
      have := taken_le ht
      rw [ByteArray.size_extract, bs_size] at this
      omega
  unfold recoverF
  rw [h, Nat.zero_add, rec_stop hn]
  simp
/-- A part of what is stored, cut before its end, holds nothing. -/
theorem taken_cut {v : Sv} (h : svB v = true) {c : Nat} (hc : c < (svL v).length) {s : ByteArray} (hs : s.data.toList = (svL v).take c) : takenF s = none := by
  cases ht : takenF s with
  | none => rfl
  | some r =>
    obtain ⟨v', n⟩ := r
    obtain ⟨h1, h2, h3⟩ := taken_only ht
    exfalso
    rw [hs] at h3
    have e : (bs (svL v)).data.toList = svL v' ++ (((svL v).take c).drop (svL v').length ++ (svL v).drop c) := by
      rw [bs_list, ← List.append_assoc, ← h3, List.take_append_drop]
    have p1 := taken_parse h1 e
    have p2 := taken_parse (s := bs (svL v)) (rest := []) h (by rw [bs_list, List.append_nil])
    rw [p1] at p2
    injection p2 with p2
    injection p2 with _ p2
    have hl := congrArg List.length h3
    rw [List.length_append, List.length_take] at hl
    omega
def endK (vs : List Sv) (k : Nat) : Nat := (allL (vs.take k)).length
theorem endK_succ {vs : List Sv} {k : Nat} {v : Sv} (h : vs[k]? = some v) : endK vs (k + 1) = endK vs k + (svL v).length := by
  unfold endK
  rw [List.take_add_one, h]
  simp [allL]
theorem endK_zero (vs : List Sv) : endK vs 0 = 0 := by simp [endK, allL]
theorem endK_all (vs : List Sv) : endK vs vs.length = (allL vs).length := by simp [endK]
theorem allL_split {vs : List Sv} {k : Nat} {v : Sv} (h : vs[k]? = some v) : allL vs = allL (vs.take k) ++ (svL v ++ allL (vs.drop (k + 1))) := by
  have hk : k < vs.length := (List.getElem?_eq_some_iff.1 h).1
  have hv : vs[k] = v := by rw [List.getElem?_eq_getElem hk] at h; injection h
  conv => lhs; rw [← List.take_append_drop k vs, List.drop_eq_getElem_cons hk, hv]
  simp [allL]
theorem rec_cut {vs : List Sv} (hv : ∀ v ∈ vs, svB v = true) (hl : vs.length ≤ 8) {k cut : Nat} {v : Sv} (hk : vs[k]? = some v) (h1 : endK vs k ≤ cut) (h2 : cut < endK vs (k + 1)) {s : ByteArray} (hs : s.data.toList = (allL vs).take cut) :
    recoverF s = (vs.take k, endK vs k) := by
  have hkl : k < vs.length := (List.getElem?_eq_some_iff.1 hk).1
  have hvv : svB v = true := hv v (List.mem_of_getElem? hk)
  rw [endK_succ hk] at h2
  have e : s.data.toList = allL (vs.take k) ++ (svL v).take (cut - endK vs k) := by
    rw [hs, allL_split hk, List.take_append, List.take_of_length_le (by unfold endK at h1; exact h1), List.take_append_of_le_length (by unfold endK at h1 h2; omega)]
    rfl
  have h := rec_pre (s := s) (rest := (svL v).take (cut - endK vs k)) (vs.take k) 8 0 (fun v' h' => hv v' (List.mem_of_mem_take h')) (by rw [List.length_take]; omega) (by simpa using e)
  have hn : takenF (s.extract (endK vs k) s.size) = none := by
    refine taken_cut hvv (c := cut - endK vs k) (by omega) ?_
    rw [ext_list, e]
    simp [endK]
  unfold recoverF
  rw [h, Nat.zero_add, show (allL (vs.take k)).length = endK vs k from rfl, rec_stop hn]
  simp
theorem rec_bent {vs : List Sv} (hv : ∀ v ∈ vs, svB v = true) (hl : vs.length ≤ 8) {k cut : Nat} (hk : k ≤ vs.length) (h1 : endK vs k ≤ cut) {s : ByteArray} (hs : s.data.toList.take cut = (allL vs).take cut) : k ≤ (recoverF s).1.length := by
  have e : s.data.toList = allL (vs.take k) ++ s.data.toList.drop (endK vs k) := by
    conv => lhs; rw [← List.take_append_drop (endK vs k) s.data.toList]
    congr 1
    have : s.data.toList.take (endK vs k) = (allL vs).take (endK vs k) := by
      have := congrArg (List.take (endK vs k)) hs
      rwa [List.take_take, List.take_take, Nat.min_eq_left h1] at this
    have ha : allL vs = allL (vs.take k) ++ allL (vs.drop k) := by
      conv => lhs; rw [← List.take_append_drop k vs]
      simp only [allL, List.flatMap_append]
    rw [this, ha]
    exact List.take_left' rfl
  have h := rec_pre (s := s) (vs.take k) 8 0 (fun v' h' => hv v' (List.mem_of_mem_take h')) (by rw [List.length_take]; omega) (by simpa using e)
  unfold recoverF
  rw [h]
  simp only [List.length_append, List.length_take]
  omega
theorem rec_back {s : ByteArray} : ∀ (m p : Nat), p ≤ s.size → p ≤ (recF s m p).2 ∧ (s.data.toList.drop p).take ((recF s m p).2 - p) = allL (recF s m p).1
  | 0, p, h => by simp [recF, allL]
  | m + 1, p, h => by
    cases ht : takenF (s.extract p s.size) with
    | none => rw [recF_none ht]; simp [allL]
    | some r =>
      obtain ⟨v, n⟩ := r
      obtain ⟨h1, h2, h3⟩ := taken_only ht
      have hn := (taken_le ht).1
      rw [ByteArray.size_extract] at hn
      rw [recF_some ht]
      obtain ⟨i1, i2⟩ := rec_back (s := s) m (p + n) (by omega)
      rw [ext_list] at h3
      dsimp only
      refine ⟨by omega, ?_⟩
      rw [h3, show allL (v :: (recF s m (p + n)).1) = svL v ++ allL (recF s m (p + n)).1 by simp [allL], List.take_append, List.take_of_length_le (by omega), ← i2, List.drop_drop, h2]
      congr 2
      omega
theorem store_back (s : ByteArray) : storeAllF (recoverF s).1 = (bs (s.data.toList.take (recoverF s).2), true) := by
  obtain ⟨_, h2⟩ := rec_back (s := s) 8 0 (Nat.zero_le _)
  obtain ⟨_, l8, hv⟩ := recF_ok (s := s) 8 0 (Nat.zero_le _)
  unfold storeAllF recoverF
  rw [if_pos (by simp only [Bool.and_eq_true, decide_eq_true_eq, List.all_eq_true]; exact ⟨l8, hv⟩), ← h2]
  simp
end Go.Proofs.Yteclpcmbicjjgaa
