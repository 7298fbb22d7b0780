/-
  Lists of digits that count up from the last one, one after another: all of them, in their order. No Go function is named here.
-/
import Derived.Test.YtiimhpopcgiejaaDoorBase
namespace Go.Proofs.YtiimhpopcgiejaaDoor
set_option linter.unusedVariables false
set_option linter.unusedSimpArgs false
open Go.RowKit

/-- The next choices: from the last one down, each counts up, or begins anew. -/
def nextAt (n : Int) (ch : List Int) : Nat → List Int × Bool
  | 0 => (ch, false)
  | k + 1 => if ch.getD k 0 + 1 < n then (ch.set k (ch.getD k 0 + 1), true) else nextAt n (ch.set k 0) k
def valD (n : Nat) (ch : List Int) : Nat := ch.foldl (fun v x => v * n + x.toNat) 0
theorem valD_from (n : Nat) : ∀ (ch : List Int) (v : Nat), ch.foldl (fun v x => v * n + x.toNat) v = v * n ^ ch.length + valD n ch
  | [], v => by simp [valD]
  | x :: ch, v => by
    have e1 := valD_from n ch (v * n + x.toNat)
    have e2 := valD_from n ch (0 * n + x.toNat)
    simp only [valD, List.foldl_cons, List.length_cons] at e1 e2 ⊢
    rw [e1, e2, Nat.pow_succ]
    simp only [Nat.zero_mul, Nat.zero_add, Nat.add_mul]
    rw [Nat.mul_assoc, Nat.mul_comm n, Nat.add_assoc]
theorem valD_append (n : Nat) (p q : List Int) : valD n (p ++ q) = valD n p * n ^ q.length + valD n q := by
  unfold valD; rw [List.foldl_append]; exact valD_from n q _
theorem valD_zeros (n m : Nat) : valD n (List.replicate m 0) = 0 := by
  induction m with
  | zero => rfl
  | succ m ih => rw [List.replicate_succ', valD_append, ih]; simp [valD]
theorem valD_one (n : Nat) (x : Int) : valD n [x] = x.toNat := by simp [valD]
def digB (n : Nat) (ch : List Int) : Prop := ∀ x ∈ ch, 0 ≤ x ∧ x < n
theorem valD_lt {n : Nat} (hn : 1 ≤ n) (ch : List Int) (h : digB n ch) : valD n ch < n ^ ch.length := by
  have : ∀ m, m ≤ ch.length → valD n (ch.take m) < n ^ m := by
    intro m
    induction m with
    | zero => intro _; simp [valD]
    | succ m ih =>
      intro hm
      have hx := h _ (List.getElem_mem (show m < ch.length by omega))
      rw [List.take_succ_eq_append_getElem (by omega), valD_append, valD_one]
      have h1 := ih (by omega)
      have h2 : (valD n (ch.take m) + 1) * n ≤ n ^ m * n := Nat.mul_le_mul_right n h1
      rw [Nat.pow_succ]
      rw [Nat.add_mul] at h2
      simp only [List.length_singleton, Nat.pow_one]
      omega
  have := this ch.length (Nat.le_refl _)
  rwa [List.take_length] at this
theorem valD_inj {n : Nat} (hn : 1 ≤ n) : ∀ (k : Nat) {p q : List Int}, p.length = k → q.length = k → digB n p → digB n q → valD n p = valD n q → p = q
  | 0, p, q, h1, h2, _, _, _ => by rw [List.eq_nil_of_length_eq_zero h1, List.eq_nil_of_length_eq_zero h2]
  | k + 1, p, q, h1, h2, hp, hq, h => by
    obtain ⟨p', x, rfl⟩ : ∃ p' x, p = p' ++ [x] := ⟨p.dropLast, p.getLast (by intro e; subst e; simp at h1), (List.dropLast_concat_getLast _).symm⟩
    obtain ⟨q', y, rfl⟩ : ∃ q' y, q = q' ++ [y] := ⟨q.dropLast, q.getLast (by intro e; subst e; simp at h2), (List.dropLast_concat_getLast _).symm⟩
    rw [valD_append, valD_append, valD_one, valD_one] at h
    simp only [List.length_singleton, Nat.pow_one] at h
    have hx := hp x (by simp)
    have hy := hq y (by simp)
    have h3 : valD n p' = valD n q' := by
      have e1 : (valD n p' * n + x.toNat) / n = valD n p' := by rw [Nat.mul_comm, Nat.mul_add_div (by omega), Nat.div_eq_of_lt (by omega)]; rfl
      have e2 : (valD n q' * n + y.toNat) / n = valD n q' := by rw [Nat.mul_comm, Nat.mul_add_div (by omega), Nat.div_eq_of_lt (by omega)]; rfl
      rw [← e1, ← e2, h]
    have h4 : x = y := by rw [h3] at h; omega
    rw [valD_inj hn k (by simpa using h1) (by simpa using h2) (fun z hz => hp z (by simp [hz])) (fun z hz => hq z (by simp [hz])) h3, h4]
theorem next_spec {n : Nat} (hn : 1 ≤ n) : ∀ (k m : Nat) (p : List Int), p.length = k → digB n p →
    ((nextAt n (p ++ List.replicate m 0) k).2 = true → (nextAt n (p ++ List.replicate m 0) k).1.length = k + m ∧ digB n (nextAt n (p ++ List.replicate m 0) k).1 ∧ valD n (nextAt n (p ++ List.replicate m 0) k).1 = valD n (p ++ List.replicate m 0) + n ^ m) ∧
    ((nextAt n (p ++ List.replicate m 0) k).2 = false → valD n (p ++ List.replicate m 0) + n ^ m = n ^ (k + m))
  | 0, m, p, hp, _ => by
    have : p = [] := List.eq_nil_of_length_eq_zero hp
    subst this
    refine ⟨fun h => by simp [nextAt] at h, fun _ => ?_⟩
    rw [List.nil_append, valD_zeros, Nat.zero_add, Nat.zero_add]
  | k + 1, m, p, hp, hd => by
    obtain ⟨p', x, rfl⟩ : ∃ p' x, p = p' ++ [x] := ⟨p.dropLast, p.getLast (by intro e; subst e; simp at hp), (List.dropLast_concat_getLast _).symm⟩
    have hk : p'.length = k := by simpa using hp
    have hx := hd x (by simp)
    have hd' : digB n p' := fun z hz => hd z (by simp [hz])
    have e1 : (p' ++ [x] ++ List.replicate m 0).getD k 0 = x := by simp [List.getD, List.getElem?_append_right, hk]
    have e2 : ∀ v : Int, (p' ++ [x] ++ List.replicate m 0).set k v = p' ++ [v] ++ List.replicate m 0 := by
      intro v
      rw [List.append_assoc, List.set_append_right _ _ (by omega), hk, Nat.sub_self]
      simp
    have e3 : p' ++ [0] ++ List.replicate m 0 = p' ++ List.replicate (m + 1) (0 : Int) := by rw [List.replicate_succ]; simp
    rw [nextAt, e1, e2, e2]
    have v1 : ∀ v : Int, valD n (p' ++ [v] ++ List.replicate m 0) = (valD n p' * n + v.toNat) * n ^ m := by
      intro v; rw [valD_append, valD_append, valD_zeros, valD_one]; simp
    by_cases hlt : x + 1 < n
    · rw [if_pos hlt]
      refine ⟨fun _ => ⟨by simp; omega, ?_, ?_⟩, fun h => by cases h⟩
      · intro z hz
        simp only [List.mem_append, List.mem_singleton] at hz
        rcases hz with (hz | rfl) | hz
        · exact hd' z hz
        · omega
        · rw [List.eq_of_mem_replicate hz]; omega
      · show valD n (p' ++ [x + 1] ++ List.replicate m 0) = _
        rw [v1, v1, show (x + 1).toNat = x.toNat + 1 by omega, ← Nat.add_assoc, Nat.add_mul _ 1, Nat.one_mul]
    · rw [if_neg hlt, e3]
      obtain ⟨i1, i2⟩ := next_spec hn k (m + 1) p' hk hd'
      have v2 : valD n (p' ++ List.replicate (m + 1) 0) + (n - 1) * n ^ m = valD n (p' ++ [x] ++ List.replicate m 0) := by
        rw [← e3, v1, v1, show x.toNat = n - 1 by omega]
        simp [Nat.add_mul]
      have v3 : n ^ (m + 1) = (n - 1) * n ^ m + n ^ m := by
        rw [Nat.pow_succ, Nat.mul_comm, Nat.sub_mul, Nat.one_mul]
        have : 1 * n ^ m ≤ n * n ^ m := Nat.mul_le_mul_right _ hn
        omega
      refine ⟨fun h => ?_, fun h => ?_⟩
      · obtain ⟨j1, j2, j3⟩ := i1 h
        exact ⟨by omega, j2, by omega⟩
      · have := i2 h
        rw [show k + 1 + m = k + (m + 1) by omega]
        omega
/-- The t-th choices. -/
def chAt (n U : Nat) : Nat → List Int
  | 0 => List.replicate U 0
  | t + 1 => (nextAt n (chAt n U t) U).1
theorem nextAt_len (n : Int) : ∀ (k : Nat) (ch : List Int), (nextAt n ch k).1.length = ch.length
  | 0, ch => rfl
  | k + 1, ch => by
    rw [nextAt]
    split
    · simp
    · rw [nextAt_len n k]; simp
theorem chAt_len (n U : Nat) : ∀ t, (chAt n U t).length = U
  | 0 => by simp [chAt]
  | t + 1 => by rw [chAt, nextAt_len, chAt_len n U t]
theorem chAt_spec {n : Nat} (hn : 1 ≤ n) (U : Nat) : ∀ t, t < n ^ U → digB n (chAt n U t) ∧ valD n (chAt n U t) = t ∧ ((nextAt n (chAt n U t) U).2 = decide (t + 1 < n ^ U))
  | 0, h => by
    have hd : digB n (List.replicate U 0) := fun x hx => by rw [List.eq_of_mem_replicate hx]; omega
    refine ⟨hd, valD_zeros n U, ?_⟩
    obtain ⟨i1, i2⟩ := next_spec hn U 0 (List.replicate U 0) (by simp) hd
    simp only [List.replicate_zero, List.append_nil, valD_zeros, Nat.pow_zero, Nat.zero_add, Nat.add_zero] at i1 i2
    rw [chAt]
    cases hb : (nextAt n (List.replicate U 0) U).2 with
    | true =>
      obtain ⟨j1, j2, j3⟩ := i1 hb
      have := valD_lt hn _ j2
      rw [j1, j3] at this
      simp [this]
    | false => have := i2 hb; simp; omega
  | t + 1, h => by
    obtain ⟨h1, h2, h3⟩ := chAt_spec hn U t (by omega)
    obtain ⟨i1, i2⟩ := next_spec hn U 0 (chAt n U t) (chAt_len n U t) h1
    simp only [List.replicate_zero, List.append_nil, Nat.pow_zero, Nat.add_zero] at i1 i2
    rw [h3, decide_eq_true h] at i1
    obtain ⟨j1, j2, j3⟩ := i1 rfl
    rw [h2] at j3
    refine ⟨j2, j3, ?_⟩
    obtain ⟨k1, k2⟩ := next_spec hn U 0 (chAt n U (t + 1)) (chAt_len n U _) j2
    simp only [List.replicate_zero, List.append_nil, Nat.pow_zero, Nat.add_zero] at k1 k2
    rw [show valD n (chAt n U (t + 1)) = t + 1 from j3] at k1 k2
    cases hb : (nextAt n (chAt n U (t + 1)) U).2 with
    | true =>
      obtain ⟨l1, l2, l3⟩ := k1 hb
      have := valD_lt hn _ l2
      rw [l1, l3] at this
      simp [this]
    | false => have := k2 hb; simp; omega
theorem chAt_of {n : Nat} (hn : 1 ≤ n) {U : Nat} {ch : List Int} (hl : ch.length = U) (hd : digB n ch) : valD n ch < n ^ U ∧ ch = chAt n U (valD n ch) := by
  have hv := valD_lt hn ch hd
  rw [hl] at hv
  obtain ⟨h1, h2, _⟩ := chAt_spec hn U _ hv
  exact ⟨hv, valD_inj hn U hl (chAt_len _ _ _) hd h1 h2.symm⟩

/-- All lists of m digits below b, in their order. -/
def allD (b : Nat) : Nat → List (List Int)
  | 0 => [[]]
  | m + 1 => (List.range b).flatMap fun (d : Nat) => (allD b m).map fun s => (d : Int) :: s
theorem range_mul (M : Nat) : ∀ b : Nat, (List.range b).flatMap (fun d => (List.range M).map fun t => d * M + t) = List.range (b * M)
  | 0 => by simp
  | b + 1 => by rw [List.range_succ, List.flatMap_append, range_mul M b, Nat.add_mul, Nat.one_mul, List.range_add]; simp
theorem allD_dig (b : Nat) : ∀ m, ∀ x ∈ allD b m, x.length = m ∧ digB b x
  | 0, x, h => by simp [allD] at h; subst h; exact ⟨rfl, fun y hy => by simp at hy⟩
  | m + 1, x, h => by
    simp only [allD, List.mem_flatMap, List.mem_range, List.mem_map] at h
    obtain ⟨d, hd, s, hs, rfl⟩ := h
    obtain ⟨h1, h2⟩ := allD_dig b m s hs
    refine ⟨by simp [h1], fun y hy => ?_⟩
    rcases List.mem_cons.1 hy with rfl | hy
    · omega
    · exact h2 y hy
theorem allD_val (b : Nat) : ∀ m, (allD b m).map (valD b) = List.range (b ^ m)
  | 0 => by simp [allD, valD]
  | m + 1 => by
    have ih := allD_val b m
    have e : ∀ d : Nat, ((allD b m).map fun s => (d : Int) :: s).map (valD b) = (List.range (b ^ m)).map fun t => d * b ^ m + t := by
      intro d
      rw [← ih, List.map_map, List.map_map]
      refine List.map_congr_left fun s hs => ?_
      have := valD_append b [(d : Int)] s
      rw [valD_one, (allD_dig b m s hs).1] at this
      simpa using this
    rw [allD, List.map_flatMap]
    simp only [e]
    rw [range_mul, Nat.pow_succ, Nat.mul_comm]
theorem allD_eq {b : Nat} (hb : 1 ≤ b) (m : Nat) : allD b m = (List.range (b ^ m)).map (chAt b m) := by
  have hl : (allD b m).length = b ^ m := by have := congrArg List.length (allD_val b m); simpa using this
  apply List.ext_getElem
  · simp [hl]
  · intro t h1 h2
    have ht : t < b ^ m := by omega
    have hv : valD b (allD b m)[t] = t := by
      have h3 : ((allD b m).map (valD b))[t]? = some t := by rw [allD_val]; simp [ht]
      rw [List.getElem?_map, List.getElem?_eq_getElem h1] at h3
      simpa using h3
    obtain ⟨d1, d2⟩ := allD_dig b m _ (List.getElem_mem h1)
    obtain ⟨c1, c2, _⟩ := chAt_spec hb m t ht
    simp only [List.getElem_map, List.getElem_range]
    exact valD_inj hb m d1 (chAt_len _ _ _) d2 c1 (hv.trans c2.symm)
end Go.Proofs.YtiimhpopcgiejaaDoor
