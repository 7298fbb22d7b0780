/-
  Seats, plain: all are given, by remainders within the quota, by quotients so that no other one would have a greater one.
-/
import Derived.Test.YthofpfnccgfohaaRestS
import Derived.Test.YthofpfnccgfohaaQuot
namespace Go.Proofs.Ythofpfnccgfohaa
set_option linter.unusedVariables false
set_option linter.unusedSimpArgs false
open Go.RowKit

theorem addAt_get (os : List Int) (i : Nat) (d : Int) (j : Nat) (h : i < os.length) : (addAt os i d).getD j 0 = os.getD j 0 + if i = j then d else 0 := by
  unfold addAt
  simp only [List.getD, List.getElem?_set]
  by_cases e : i = j
  · subst e; rw [if_pos rfl, if_pos h, if_pos rfl]; rfl
  · rw [if_neg e, if_neg e]; omega
theorem sum_set : ∀ (os : List Int) (i : Nat) (y : Int), i < os.length → (os.set i y).sum = os.sum - os.getD i 0 + y
  | x :: xs, 0, y, _ => by simp; omega
  | x :: xs, i + 1, y, h => by
    have ih := sum_set xs i y (by simpa using h)
    simp only [List.set_cons_succ, List.sum_cons, ih, List.getD, List.getElem?_cons_succ]
    omega
theorem addAt_sum {os : List Int} {i : Nat} (h : i < os.length) (d : Int) : (addAt os i d).sum = os.sum + d := by
  unfold addAt; rw [sum_set _ _ _ h]; omega
theorem moreF_sum : ∀ (is os : List Int), (∀ i ∈ is, i.toNat < os.length) → (moreF os is).sum = os.sum + is.length
  | [], os, _ => by simp [moreF]
  | i :: is, os, h => by
    show (moreF (addAt os i.toNat 1) is).sum = _
    rw [moreF_sum is _ (fun j hj => by rw [addAt_length]; exact h j (by simp [hj])), addAt_sum (h i (by simp))]
    simp only [List.length_cons]; omega
theorem moreF_get : ∀ (is os : List Int) (j : Nat), (∀ i ∈ is, 0 ≤ i ∧ i.toNat < os.length) → is.Nodup → (moreF os is).getD j 0 = os.getD j 0 + if (j : Int) ∈ is then 1 else 0
  | [], os, j, _, _ => by simp [moreF]
  | i :: is, os, j, h, hn => by
    have hi := h i (by simp)
    have hn2 := List.nodup_cons.1 hn
    show (moreF (addAt os i.toNat 1) is).getD j 0 = _
    rw [moreF_get is _ j (fun q hq => by rw [addAt_length]; exact h q (by simp [hq])) hn2.2, addAt_get _ _ _ _ hi.2]
    by_cases e : i.toNat = j
    · have e2 : (j : Int) = i := by omega
      rw [if_pos e, if_neg (by rw [e2]; exact hn2.1), if_pos (by rw [e2]; simp)]; omega
    · have e2 : ¬ (j : Int) = i := by omega
      rw [if_neg e]
      simp only [List.mem_cons, e2, false_or]
      split <;> omega
theorem perm_sum {xs ys : List Int} (h : xs.Perm ys) : xs.sum = ys.sum := by
  induction h with
  | nil => rfl
  | cons x _ ih => simp [ih]
  | swap x y l => simp; omega
  | trans _ _ ih1 ih2 => rw [ih1, ih2]
theorem upto_map (ks : List Int) : (upto ks.length).map (fun i => ks.getD i.toNat 0) = ks := by
  apply List.ext_getElem
  · simp [upto_length]
  · intro j h1 h2
    rw [List.getElem_map]
    have : (upto ks.length)[j]'(by simpa using h1) = (j : Int) := by simp [upto]
    rw [this, Int.toNat_natCast, List.getD, List.getElem?_eq_getElem h2]; rfl
theorem sum_le_all {m : Int} : ∀ xs : List Int, (∀ x ∈ xs, x ≤ m) → xs.sum ≤ m * xs.length
  | [], _ => by simp
  | x :: xs, h => by
    have ih := sum_le_all xs (fun y hy => h y (by simp [hy]))
    have hx := h x (by simp)
    simp only [List.sum_cons, List.length_cons]
    rw [show m * ((xs.length + 1 : Nat) : Int) = m * xs.length + m by rw [Int.natCast_add, Int.mul_add]; simp]
    omega
/-- Those who are chosen first have a remainder. -/
theorem first_rem {ks : List Int} {S : Int} {L t q : Nat} (hS : 0 < S) (h0 : ∀ x ∈ ks, 0 ≤ x ∧ x < S) (hsum : ks.sum = S * L) (ht : t < L) (hL : L ≤ ks.length) (hq : (ordF ks)[t]? = some (q : Int)) : 0 < ks.getD q 0 := by
  refine Classical.byContradiction fun hno => ?_
  have hlt : t < (ordF ks).length := by rw [ordF_length]; omega
  have hqe : (ordF ks)[t] = (q : Int) := by rw [List.getElem?_eq_getElem hlt] at hq; injection hq
  have hp := List.pairwise_iff_getElem.1 (ordF_pairwise ks)
  have hs : ((ordF ks).map (fun i => ks.getD i.toNat 0)).sum = ks.sum := by
    rw [perm_sum ((ordF_perm ks).map _), upto_map]
  have hsplit : (ordF ks).map (fun i => ks.getD i.toNat 0) = ((ordF ks).take t).map (fun i => ks.getD i.toNat 0) ++ ((ordF ks).drop t).map (fun i => ks.getD i.toNat 0) := by
    rw [← List.map_append, List.take_append_drop]
  have hmax : ∀ i : Int, ks.getD i.toNat 0 ≤ S - 1 := fun i => by
    by_cases c : i.toNat < ks.length
    · have := h0 ks[i.toNat] (List.getElem_mem c)
      simp only [List.getD, List.getElem?_eq_getElem c, Option.getD_some]; omega
    · simp only [List.getD, List.getElem?_eq_none (show ks.length ≤ i.toNat by omega), Option.getD_none]; omega
  have h1 := sum_le_all (m := S - 1) (((ordF ks).take t).map (fun i => ks.getD i.toNat 0)) (fun x hx => by obtain ⟨i, _, rfl⟩ := List.mem_map.1 hx; exact hmax i)
  have h2 := sum_le_all (m := 0) (((ordF ks).drop t).map (fun i => ks.getD i.toNat 0)) (fun x hx => by
    obtain ⟨i, hi, rfl⟩ := List.mem_map.1 hx
    obtain ⟨u, hu, rfl⟩ := List.getElem_of_mem hi
    rw [List.getElem_drop]
    by_cases e : u = 0
    · subst e
      simp only [Nat.add_zero, hqe, Int.toNat_natCast]; omega
    · have hu' : t + u < (ordF ks).length := by simp at hu; omega
      have := hp t (t + u) hlt hu' (by omega)
      rw [hqe] at this
      simp only [Ahead, Int.toNat_natCast] at this
      omega)
  rw [hsplit, List.sum_append] at hs
  have e1 : (((ordF ks).take t).map (fun i => ks.getD i.toNat 0)).length = t := by simp; omega
  rw [e1] at h1
  have h3 : (S - 1) * (t : Int) ≤ (S - 1) * (L : Int) := Int.mul_le_mul_of_nonneg_left (by omega) (by omega)
  have e2 : (S - 1) * (L : Int) = S * L - L := by rw [Int.sub_mul]; omega
  by_cases hL0 : L = 0
  · omega
  · omega
theorem restF_parts {xs : List Int} {s : Int} (hv : votesB xs = true) (s0 : 0 ≤ s) :
    ∃ L : Nat, L ≤ xs.length ∧ (leftF xs s).toNat = L ∧ (xs.map (remF s xs.sum)).sum = xs.sum * L ∧ (xs.map (quoF s xs.sum)).sum + L = s := by
  obtain ⟨⟨h1, h2⟩, h3, h4⟩ := votesB_iff.1 hv
  have hp : ∀ x ∈ xs, 0 ≤ x := fun x hx => (h3 x hx).1
  obtain ⟨l0, l1⟩ := left_bd h1 hp s0 h4
  obtain ⟨q1, q2, q3, q4⟩ := sum_quo_rem s0 h4 xs hp
  have hl : leftF xs s = s - (xs.map (quoF s xs.sum)).sum := rfl
  refine ⟨(leftF xs s).toNat, by omega, rfl, ?_, by omega⟩
  have : ((leftF xs s).toNat : Int) = s - (xs.map (quoF s xs.sum)).sum := by omega
  rw [this, Int.mul_sub]
  omega
theorem ord_take_mem {ks : List Int} {m : Nat} : ∀ i ∈ (ordF ks).take m, 0 ≤ i ∧ i.toNat < ks.length := fun i hi => by
  have := ordF_mem.1 (List.mem_of_mem_take hi)
  omega
/-- All seats are given. -/
theorem restF_sum {xs : List Int} {s : Int} (hv : votesB xs = true) (s0 : 0 ≤ s) : (restF xs s).sum = s := by
  obtain ⟨L, h1, h2, h3, h4⟩ := restF_parts hv s0
  unfold restF
  rw [moreF_sum _ _ (fun i hi => by have := ord_take_mem i hi; simp only [List.length_map] at this ⊢; exact this.2), h2, List.length_take, ordF_length, List.length_map, Nat.min_eq_left h1]
  exact h4
theorem ceil_one {S q r : Int} (hS : 0 < S) (h0 : 0 < r) (h1 : r < S) : (S * q + r + S - 1) / S = q + 1 := by
  have : S * q + r + S - 1 = (r - 1) + S * (q + 1) := by rw [Int.mul_add]; omega
  rw [this, Int.add_mul_ediv_left _ _ (by omega), Int.ediv_eq_zero_of_lt (by omega) (by omega)]; omega
/-- One who has a quotient that is rounded down or up. -/
def keepB (S sm v x : Int) : Bool := (x == v * sm / S) || (x == (v * sm + S - 1) / S)
def keepsB (xs ss : List Int) : Bool := (List.range xs.length).all fun i => keepB xs.sum ss.sum (xs.getD i 0) (ss.getD i 0)
theorem restF_keeps {xs : List Int} {s : Int} (hv : votesB xs = true) (s0 : 0 ≤ s) : keepsB xs (restF xs s) = true := by
  obtain ⟨⟨h1, h2⟩, h3, h4⟩ := votesB_iff.1 hv
  obtain ⟨L, k1, k2, k3, k4⟩ := restF_parts hv s0
  unfold keepsB
  rw [List.all_eq_true]
  intro j hj
  have hj' := List.mem_range.1 hj
  rw [restF_sum hv s0]
  have hx := h3 (xs.getD j 0) (by simp only [List.getD, List.getElem?_eq_getElem hj']; exact List.getElem_mem _)
  have hq := quo_rem (S := xs.sum) hx.1 s0 h4
  have hks : ∀ x ∈ xs.map (remF s xs.sum), 0 ≤ x ∧ x < xs.sum := fun x hx => by
    obtain ⟨y, hy, rfl⟩ := List.mem_map.1 hx
    have := quo_rem (S := xs.sum) (h3 y hy).1 s0 h4
    exact ⟨this.2.2.1, this.2.2.2⟩
  have hg : (restF xs s).getD j 0 = quoF s xs.sum (xs.getD j 0) + if (j : Int) ∈ (ordF (xs.map (remF s xs.sum))).take L then 1 else 0 := by
    unfold restF
    rw [k2, moreF_get _ _ _ (fun i hi => by have := ord_take_mem i hi; simp only [List.length_map] at this ⊢; exact this) ((ordF_nodup _).sublist (List.take_sublist _ _)), map_getD _ hj']
  rw [hg]
  unfold keepB
  by_cases c : (j : Int) ∈ (ordF (xs.map (remF s xs.sum))).take L
  · rw [if_pos c]
    obtain ⟨t, ht, e⟩ := List.getElem_of_mem c
    have ht2 : t < L := by simp at ht; omega
    have hr := first_rem (q := j) h4 hks k3 ht2 (by simp; omega) (by rw [List.getElem_take] at e; rw [← e]; exact List.getElem?_eq_getElem _)
    rw [map_getD _ hj'] at hr
    have : (xs.getD j 0 * s + xs.sum - 1) / xs.sum = quoF s xs.sum (xs.getD j 0) + 1 := by
      rw [hq.1]; exact ceil_one h4 hr hq.2.2.2
    rw [this]; simp
  · rw [if_neg c]; simp [quoF]
/-- The one with the greatest quotient. -/
theorem ahead_pos {v a u b : Int} (ha : 0 < a) (hb : 0 < b) (hv : 0 ≤ v) (hu : 0 ≤ u) : aheadF v a u b = decide (u * a < v * b) := by
  unfold aheadF
  by_cases c : v = 0
  · subst c
    have : 0 ≤ u * a := Int.mul_nonneg hu (by omega)
    simp only [beq_self_eq_true, Bool.true_or, if_true, Int.zero_mul]
    rw [decide_eq_false (by omega), decide_eq_false (by omega)]
  · by_cases d : u = 0
    · subst d
      have : 0 < v * b := Int.mul_pos (by omega) hb
      simp only [beq_self_eq_true, Bool.or_true, if_true, Int.zero_mul]
      rw [decide_eq_true (by omega), decide_eq_true (by omega)]
    · have h1 : (v == 0) = false := by simp [c]
      have h2 : (u == 0) = false := by simp [d]
      have h3 : (a == 0) = false := by simp; omega
      have h4 : (b == 0) = false := by simp; omega
      simp [h1, h2, h3, h4]
theorem above_pos {kind has : Int} (hk : kind = 0 ∨ kind = 1) (h : 0 ≤ has) : 0 < above kind has := by
  rcases hk with rfl | rfl <;> simp [above] <;> omega
theorem above_le {kind a b : Int} (h : a ≤ b) : above kind a ≤ above kind b := by unfold above; (repeat' split) <;> omega
theorem qBest_max {vs os : List Int} {kind : Int} (hk : kind = 0 ∨ kind = 1) (hv : ∀ j, 0 ≤ vs.getD j 0) (ho : ∀ j, 0 ≤ os.getD j 0) : ∀ k i, i < k → vs.getD i 0 * above kind (os.getD (qBest vs os kind k) 0) ≤ vs.getD (qBest vs os kind k) 0 * above kind (os.getD i 0)
  | 0, i, h => by omega
  | k + 1, i, h => by
    have ih := qBest_max hk hv ho k
    rw [qBest_succ, qStep]
    generalize qBest vs os kind k = b at *
    have pb := above_pos hk (ho b)
    have pk := above_pos hk (ho k)
    have pi := above_pos hk (ho i)
    rw [ahead_pos pk pb (hv k) (hv b)]
    by_cases c : vs.getD b 0 * above kind (os.getD k 0) < vs.getD k 0 * above kind (os.getD b 0)
    · rw [decide_eq_true c, if_pos rfl]
      by_cases e : i = k
      · subst e; omega
      · have h1 := ih i (by omega)
        generalize above kind (os.getD b 0) = B at *
        generalize above kind (os.getD k 0) = A at *
        generalize above kind (os.getD i 0) = I at *
        generalize vs.getD i 0 = vi at *
        generalize vs.getD k 0 = vk at *
        generalize vs.getD b 0 = vb at *
        -- vi * B ≤ vb * I, vb * A < vk * B; so vi * A * B ≤ vb * I * A ≤ vk * B * I
        have e1 : (vi * A) * B ≤ (vk * I) * B := by
          have s1 : (vi * B) * A ≤ (vb * I) * A := Int.mul_le_mul_of_nonneg_right h1 (by omega)
          have s2 : (vb * A) * I ≤ (vk * B) * I := Int.mul_le_mul_of_nonneg_right (by omega) (by omega)
          have r1 : (vi * A) * B = (vi * B) * A := by rw [Int.mul_assoc, Int.mul_comm A B, ← Int.mul_assoc]
          have r2 : (vb * I) * A = (vb * A) * I := by rw [Int.mul_assoc, Int.mul_comm I A, ← Int.mul_assoc]
          have r3 : (vk * I) * B = (vk * B) * I := by rw [Int.mul_assoc, Int.mul_comm I B, ← Int.mul_assoc]
          omega
        exact Int.le_of_mul_le_mul_right e1 pb
    · rw [decide_eq_false c]
      simp only [Bool.false_eq_true, if_false]
      by_cases e : i = k
      · subst e; omega
      · exact ih i (by omega)
theorem bump_get {os : List Int} {b : Nat} (h : b < os.length) (j : Nat) : (bump os b).getD j 0 = os.getD j 0 + if b = j then 1 else 0 := addAt_get os b 1 j h
/-- No other one would have a greater quotient. -/
theorem qSeats_fair {vs : List Int} {kind : Int} (hk : kind = 0 ∨ kind = 1) (hn : 0 < vs.length) (hv : ∀ j, 0 ≤ vs.getD j 0) : ∀ s i k, i < vs.length → k < vs.length → 0 < (qSeats vs kind s).getD k 0 → vs.getD i 0 * above kind ((qSeats vs kind s).getD k 0 - 1) ≤ vs.getD k 0 * above kind ((qSeats vs kind s).getD i 0)
  | 0, i, k, _, hk', h => by
    exfalso
    simp only [qSeats, List.getD, List.getElem?_replicate] at h
    split at h <;> simp at h
  | s + 1, i, k, hi, hk', h => by
    have hb := qBest_lt vs (qSeats vs kind s) kind vs.length vs.length (Nat.le_refl _) hn
    have hmax := qBest_max (os := qSeats vs kind s) hk hv (fun j => (qSeats_bd vs kind s j).1) vs.length
    have e : qSeats vs kind (s + 1) = bump (qSeats vs kind s) (qBest vs (qSeats vs kind s) kind vs.length) := rfl
    rw [e] at h ⊢
    have hg := bump_get (os := qSeats vs kind s) (b := qBest vs (qSeats vs kind s) kind vs.length) (by rw [qSeats_length]; exact hb)
    rw [hg k] at h ⊢
    rw [hg i]
    have ih := qSeats_fair hk hn hv s i k hi hk'
    generalize qBest vs (qSeats vs kind s) kind vs.length = b at *
    generalize qSeats vs kind s = os at *
    have hup : above kind (os.getD i 0) ≤ above kind (os.getD i 0 + if b = i then 1 else 0) := above_le (by split <;> omega)
    have hup2 := Int.mul_le_mul_of_nonneg_left hup (hv k)
    by_cases c : b = k
    · subst c
      rw [if_pos rfl, show os.getD b 0 + 1 - 1 = os.getD b 0 by omega]
      exact Int.le_trans (hmax i hi) hup2
    · rw [if_neg c, Int.add_zero] at h ⊢
      exact Int.le_trans (ih h) hup2
theorem qSeats_sum {vs : List Int} {kind : Int} (hn : 0 < vs.length) : ∀ s : Nat, (qSeats vs kind s).sum = s
  | 0 => by
    have : ∀ m : Nat, (List.replicate m (0 : Int)).sum = 0 := fun m => by induction m with
      | zero => rfl
      | succ m ih => rw [List.replicate_succ, List.sum_cons, ih]; rfl
    simp [qSeats, this]
  | s + 1 => by
    have hb := qBest_lt vs (qSeats vs kind s) kind vs.length vs.length (Nat.le_refl _) hn
    show (bump (qSeats vs kind s) _).sum = _
    have := addAt_sum (os := qSeats vs kind s) (i := qBest vs (qSeats vs kind s) kind vs.length) (by rw [qSeats_length]; exact hb) 1
    rw [show bump (qSeats vs kind s) (qBest vs (qSeats vs kind s) kind vs.length) = addAt (qSeats vs kind s) (qBest vs (qSeats vs kind s) kind vs.length) 1 from rfl, this, qSeats_sum hn s]; simp
end Go.Proofs.Ythofpfnccgfohaa
