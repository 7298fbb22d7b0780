/-
  Ballots, plain: points are told by pairs, a winner of all pairs is before each other one.
-/
import Derived.Test.YthofpfnccgfohaaWin
import Derived.Test.YthofpfnccgfohaaRounds
namespace Go.Proofs.Ythofpfnccgfohaa
set_option linter.unusedVariables false
set_option linter.unusedSimpArgs false
open Go.RowKit

theorem nodup_at {xs : List Int} (h : xs.Nodup) {i j : Nat} {x : Int} (hi : xs[i]? = some x) (hj : xs[j]? = some x) : i = j := by
  obtain ⟨h1, e1⟩ := List.getElem?_eq_some_iff.1 hi
  obtain ⟨h2, e2⟩ := List.getElem?_eq_some_iff.1 hj
  have hp := List.pairwise_iff_getElem.1 (List.nodup_iff_pairwise_ne.1 h)
  refine Classical.byContradiction fun hne => ?_
  by_cases hlt : i < j
  · exact hp i j h1 h2 hlt (e1.trans e2.symm)
  · exact hp j i h2 h1 (by omega) (e2.trans e1.symm)
theorem order_place {ys : List Int} {n v : Nat} (h : orderB ys n = true) (hv : v < n) : ∃ p, p < n ∧ ys[p]? = some (v : Int) := by
  obtain ⟨h1, h2, h3⟩ := orderB_iff.1 h
  have : (v : Int) ∈ ys := by
    refine Classical.byContradiction fun hno => ?_
    have h4 : ((v : Int) :: ys).Nodup := List.nodup_cons.2 ⟨hno, h2⟩
    have := length_le_of_sub (ys := (List.range n).map fun (j : Nat) => (j : Int)) h4 (fun x hx => by
      rw [List.mem_map]
      rcases List.mem_cons.1 hx with rfl | hx
      · exact ⟨v, List.mem_range.2 hv, rfl⟩
      · have := h1 x hx
        exact ⟨x.toNat, List.mem_range.2 (by omega), by omega⟩)
    simp at this
    omega
  obtain ⟨p, hp, e⟩ := List.getElem_of_mem this
  exact ⟨p, by omega, by rw [List.getElem?_eq_getElem hp, e]⟩
theorem addAt_getD (os : List Int) (i : Nat) (d : Int) (j : Nat) (h : i < os.length) : (addAt os i d).getD j 0 = os.getD j 0 + if i = j then d else 0 := by
  unfold addAt
  simp only [List.getD, List.getElem?_set]
  by_cases e : i = j
  · subst e; rw [if_pos rfl, if_pos h, if_pos rfl]; rfl
  · rw [if_neg e, if_neg e]; omega
theorem idx_inj {u v x j n : Nat} (hv : v < n) (hj : j < n) : u * n + v = x * n + j ↔ u = x ∧ v = j := by
  constructor
  · intro h
    have e1 : (u * n + v) / n = u := by rw [Nat.add_comm, Nat.add_mul_div_right _ _ (by omega), Nat.div_eq_of_lt hv]; omega
    have e2 : (x * n + j) / n = x := by rw [Nat.add_comm, Nat.add_mul_div_right _ _ (by omega), Nat.div_eq_of_lt hj]; omega
    have e3 : u = x := by rw [← e1, ← e2, h]
    subst e3
    exact ⟨rfl, by omega⟩
  · rintro ⟨rfl, rfl⟩; rfl
theorem nat_of_get {ys : List Int} {p q : Nat} (h : ys[p]? = some (q : Int)) : (ys.getD p 0).toNat = q := by simp [List.getD, h]
theorem prI_cell {n : Nat} {ys os : List Int} (h : orderB ys n = true) (hl : os.length = n * n) {i k pi pk p : Nat} (hk : k < n) (hpi : ys[pi]? = some (i : Int)) (hpk : ys[pk]? = some (k : Int)) (hp : p < n) :
    ∀ t, p + 1 + t ≤ n → (prI n ys p t os).getD (i * n + k) 0 = os.getD (i * n + k) 0 + if p = pi ∧ p < pk ∧ pk < p + 1 + t then 1 else 0
  | 0, _ => by
    rw [if_neg (by omega)]; simp [prI]
  | t + 1, ht => by
    obtain ⟨u, hu, hun⟩ := order_get h hp
    obtain ⟨v, hv, hvn⟩ := order_get h (show p + 1 + t < n by omega)
    have ih := prI_cell h hl hk hpi hpk hp t (by omega)
    have hnd := (orderB_iff.1 h).2.1
    show (addAt (prI n ys p t os) _ 1).getD _ 0 = _
    rw [nat_of_get hu, nat_of_get hv, addAt_getD _ _ _ _ (by rw [prI_length, hl]; exact idx_lt hun hvn), ih]
    have e : (u * n + v = i * n + k) ↔ (p = pi ∧ p + 1 + t = pk) := by
      rw [idx_inj hvn hk]
      constructor
      · rintro ⟨rfl, rfl⟩; exact ⟨nodup_at hnd hu hpi, nodup_at hnd hv hpk⟩
      · rintro ⟨rfl, rfl⟩
        rw [hu] at hpi; rw [hv] at hpk
        injection hpi with hpi; injection hpk with hpk
        exact ⟨by omega, by omega⟩
    by_cases c : p = pi ∧ p + 1 + t = pk
    · rw [if_pos (e.2 c), if_neg (by omega), if_pos (by omega)]; omega
    · rw [if_neg (fun x => c (e.1 x))]
      by_cases c2 : p = pi ∧ p < pk ∧ pk < p + 1 + t
      · rw [if_pos c2, if_pos (by omega)]; omega
      · rw [if_neg c2, if_neg (by omega)]; omega
theorem prA_cell {n : Nat} {ys os : List Int} (h : orderB ys n = true) (hl : os.length = n * n) {i k pi pk : Nat} (hk : k < n) (hpi : ys[pi]? = some (i : Int)) (hpk : ys[pk]? = some (k : Int)) :
    ∀ p, p ≤ n → (prA n ys p os).getD (i * n + k) 0 = os.getD (i * n + k) 0 + if pi < p ∧ pi < pk then 1 else 0
  | 0, _ => by
    rw [if_neg (by omega)]; simp [prA]
  | p + 1, hp => by
    have ih := prA_cell h hl hk hpi hpk p (by omega)
    have hpkn : pk < n := by have := (List.getElem?_eq_some_iff.1 hpk).1; have := (orderB_iff.1 h).2.2; omega
    show (prI n ys p (n - (p + 1)) (prA n ys p os)).getD _ 0 = _
    rw [prI_cell h (by rw [prA_length, hl]) hk hpi hpk (by omega) _ (by omega), ih]
    by_cases c1 : pi < p ∧ pi < pk
    · rw [if_pos c1, if_neg (by omega), if_pos (by omega)]; omega
    · rw [if_neg c1]
      by_cases c2 : p = pi ∧ p < pk
      · rw [if_pos (by omega), if_pos (by omega)]; omega
      · rw [if_neg (by omega), if_neg (by omega)]; omega
/-- On how many of the first m ballots one is before another: both ways make m. -/
theorem prF_both {n : Nat} {yss : List (List Int)} (h : ∀ b ∈ yss, orderB b n = true) {i k : Nat} (hi : i < n) (hk : k < n) (hik : i ≠ k) :
    ∀ m, m ≤ yss.length → (prF n yss m).getD (i * n + k) 0 + (prF n yss m).getD (k * n + i) 0 = m
  | 0, _ => by
    have h1 := idx_lt hi hk
    have h2 := idx_lt hk hi
    simp only [prF, List.getD, List.getElem?_replicate]
    rw [if_pos h1, if_pos h2]; rfl
  | m + 1, hm => by
    have ih := prF_both h hi hk hik m (by omega)
    have hb : orderB (yss.getD m []) n = true := h _ (by simp only [List.getD, List.getElem?_eq_getElem (show m < yss.length by omega)]; exact List.getElem_mem _)
    obtain ⟨p, hp, e1⟩ := order_place hb hi
    obtain ⟨q, hq, e2⟩ := order_place hb hk
    have hne : p ≠ q := by
      rintro rfl
      rw [e1] at e2
      injection e2 with e2
      omega
    show (prA n (yss.getD m []) n (prF n yss m)).getD _ 0 + (prA n (yss.getD m []) n (prF n yss m)).getD _ 0 = _
    rw [prA_cell hb (prF_length _ _ _) hk e1 e2 n (Nat.le_refl _), prA_cell hb (prF_length _ _ _) hi e2 e1 n (Nat.le_refl _)]
    by_cases c : p < q
    · rw [if_pos (by omega), if_neg (by omega)]; omega
    · rw [if_neg (by omega), if_pos (by omega)]; omega
theorem prF_diag {n : Nat} {yss : List (List Int)} (h : ∀ b ∈ yss, orderB b n = true) {i : Nat} (hi : i < n) : ∀ m, m ≤ yss.length → (prF n yss m).getD (i * n + i) 0 = 0
  | 0, _ => by
    have h1 := idx_lt hi hi
    simp only [prF, List.getD, List.getElem?_replicate]
    rw [if_pos h1]; rfl
  | m + 1, hm => by
    have ih := prF_diag h hi m (by omega)
    have hb : orderB (yss.getD m []) n = true := h _ (by simp only [List.getD, List.getElem?_eq_getElem (show m < yss.length by omega)]; exact List.getElem_mem _)
    obtain ⟨p, hp, e1⟩ := order_place hb hi
    show (prA n (yss.getD m []) n (prF n yss m)).getD _ 0 = _
    rw [prA_cell hb (prF_length _ _ _) hi e1 e1 n (Nat.le_refl _), if_neg (by omega), ih]; rfl
/-- The sum of a row of the table, up to a place. -/
def rowS (tb : List Int) (n i : Nat) : Nat → Int
  | 0 => 0
  | k + 1 => rowS tb n i k + tb.getD (i * n + k) 0
theorem rowS_add {tb : List Int} {n i u v : Nat} {d : Int} (hl : tb.length = n * n) (hu : u < n) (hv : v < n) : ∀ k, k ≤ n → rowS (addAt tb (u * n + v) d) n i k = rowS tb n i k + if u = i ∧ v < k then d else 0
  | 0, _ => by simp [rowS]
  | k + 1, hk => by
    simp only [rowS]
    rw [rowS_add hl hu hv k (by omega), addAt_getD _ _ _ _ (by rw [hl]; exact idx_lt hu hv)]
    have e := @idx_inj u v i k n hv (by omega)
    by_cases c : u = i ∧ v = k
    · rw [if_pos (e.2 c), if_neg (by omega), if_pos (by omega)]; omega
    · rw [if_neg (fun x => c (e.1 x))]
      by_cases c2 : u = i ∧ v < k
      · rw [if_pos c2, if_pos (by omega)]; omega
      · rw [if_neg c2, if_neg (by omega)]; omega
theorem prI_row {n : Nat} {ys os : List Int} (h : orderB ys n = true) (hl : os.length = n * n) {i u p : Nat} (hp : p < n) (hu : ys[p]? = some (u : Int)) (hun : u < n) :
    ∀ t, p + 1 + t ≤ n → rowS (prI n ys p t os) n i n = rowS os n i n + if u = i then (t : Int) else 0
  | 0, _ => by simp [prI]
  | t + 1, ht => by
    obtain ⟨v, hv, hvn⟩ := order_get h (show p + 1 + t < n by omega)
    show rowS (addAt (prI n ys p t os) _ 1) n i n = _
    rw [nat_of_get hu, nat_of_get hv, rowS_add (by rw [prI_length, hl]) hun hvn n (Nat.le_refl _), prI_row h hl hp hu hun t (by omega)]
    by_cases c : u = i
    · rw [if_pos c, if_pos ⟨c, hvn⟩, if_pos c]; omega
    · rw [if_neg c, if_neg (fun x => c x.1), if_neg c]; omega
theorem prA_row {n : Nat} {ys os ps : List Int} (h : orderB ys n = true) (hl : os.length = n * n) (hl2 : ps.length = n) {i : Nat} (h0 : rowS os n i n = ps.getD i 0) :
    ∀ p, p ≤ n → rowS (prA n ys p os) n i n = (ptsB n ys p ps).getD i 0
  | 0, _ => by simpa [prA, ptsB] using h0
  | p + 1, hp => by
    obtain ⟨u, hu, hun⟩ := order_get h (show p < n by omega)
    show rowS (prI n ys p (n - (p + 1)) (prA n ys p os)) n i n = (addAt (ptsB n ys p ps) _ _).getD i 0
    rw [prI_row h (by rw [prA_length, hl]) (by omega) hu hun _ (by omega), prA_row h hl hl2 h0 p (by omega), nat_of_get hu, addAt_getD _ _ _ _ (by rw [ptsB_length, hl2]; exact hun)]
    by_cases c : u = i
    · rw [if_pos c, if_pos c]; omega
    · rw [if_neg c, if_neg c]
theorem rowS_zero (n i m : Nat) : ∀ k, rowS (List.replicate m 0) n i k = 0
  | 0 => rfl
  | k + 1 => by
    simp only [rowS, rowS_zero n i m k, List.getD, List.getElem?_replicate]
    split <;> simp
/-- The sums of the rows are the points. -/
theorem prF_row {n : Nat} {yss : List (List Int)} (h : ∀ b ∈ yss, orderB b n = true) (i : Nat) : ∀ m, m ≤ yss.length → rowS (prF n yss m) n i n = (ptsF n yss m).getD i 0
  | 0, _ => by
    simp only [prF, ptsF, rowS_zero, List.getD, List.getElem?_replicate]
    split <;> simp
  | m + 1, hm => by
    have ih := prF_row h i m (by omega)
    have hb : orderB (yss.getD m []) n = true := h _ (by simp only [List.getD, List.getElem?_eq_getElem (show m < yss.length by omega)]; exact List.getElem_mem _)
    exact prA_row hb (prF_length _ _ _) (ptsF_length _ _ _) ih n (Nat.le_refl _)
/-- Who wins all pairs so far, among the first k others. -/
def winB (tb : List Int) (n i : Nat) : Nat → Bool
  | 0 => true
  | k + 1 => if k = i then winB tb n i k else winB tb n i k && decide (tb.getD (k * n + i) 0 < tb.getD (i * n + k) 0)
theorem winB_iff (tb : List Int) (n i : Nat) : ∀ k, winB tb n i k = true ↔ ∀ j, j < k → j ≠ i → tb.getD (j * n + i) 0 < tb.getD (i * n + j) 0
  | 0 => by simp [winB]
  | k + 1 => by
    simp only [winB]
    by_cases c : k = i
    · rw [if_pos c, winB_iff tb n i k]
      constructor
      · intro h j hj hne; exact h j (by omega) hne
      · intro h j hj hne; exact h j (by omega) hne
    · rw [if_neg c, Bool.and_eq_true, winB_iff tb n i k, decide_eq_true_iff]
      constructor
      · rintro ⟨h, h2⟩ j hj hne
        by_cases e : j = k
        · subst e; exact h2
        · exact h j (by omega) hne
      · intro h; exact ⟨fun j hj hne => h j (by omega) hne, h k (by omega) c⟩
/-- The last one so far who wins. -/
def lastW (tb : List Int) (n : Nat) : Nat → Int
  | 0 => -1
  | i + 1 => if winB tb n i n then (i : Int) else lastW tb n i
theorem lastW_bd (tb : List Int) (n : Nat) : ∀ i, -1 ≤ lastW tb n i ∧ lastW tb n i < i
  | 0 => by simp [lastW]
  | i + 1 => by have := lastW_bd tb n i; simp only [lastW]; split <;> omega
theorem loses_winB {tb : List Int} {n m : Nat} (hb : ∀ i k, i < n → k < n → i ≠ k → tb.getD (i * n + k) 0 + tb.getD (k * n + i) 0 = m) {i : Nat} (hi : i < n) : (!anyI (losesB tb n m i) n) = winB tb n i n := by
  rw [Bool.eq_iff_iff, winB_iff, Bool.not_eq_true', anyI_no]
  constructor
  · intro h j hj hne
    have h1 := h j hj
    have h2 := hb i j hi hj (fun e => hne e.symm)
    simp only [losesB, Bool.and_eq_false_iff, decide_eq_false_iff_not] at h1
    rcases h1 with h1 | h1
    · simp at h1; omega
    · omega
  · intro h j hj
    simp only [losesB, Bool.and_eq_false_iff, decide_eq_false_iff_not]
    by_cases e : j = i
    · exact .inl (by simp [e])
    · have h2 := hb i j hi hj (fun e' => e e'.symm)
      have := h j hj e
      exact .inr (by omega)
theorem winI_last {tb : List Int} {n m : Nat} (hb : ∀ i k, i < n → k < n → i ≠ k → tb.getD (i * n + k) 0 + tb.getD (k * n + i) 0 = m) : winI tb n m = lastW tb n n := by
  have key : ∀ i, i ≤ n → (lastW tb n i = -1 ∧ ∀ j, j < i → winB tb n j n = false) ∨ ∃ k, k < i ∧ lastW tb n i = k ∧ winB tb n k n = true := by
    intro i
    induction i with
    | zero => intro _; exact .inl ⟨rfl, fun j hj => by omega⟩
    | succ i ih =>
      intro hi
      cases c : winB tb n i n with
      | true => exact .inr ⟨i, by omega, by simp [lastW, c], c⟩
      | false =>
        rcases ih (by omega) with ⟨h1, h2⟩ | ⟨k, h1, h2, h3⟩
        · refine .inl ⟨by simp [lastW, c, h1], fun j hj => ?_⟩
          by_cases e : j = i
          · subst e; exact c
          · exact h2 j (by omega)
        · exact .inr ⟨k, by omega, by simp [lastW, c, h2], h3⟩
  rcases key n (Nat.le_refl _) with ⟨h1, h2⟩ | ⟨k, h1, h2, h3⟩
  · rw [h1]
    exact findI_none fun j hj => by rw [loses_winB hb hj]; exact h2 j hj
  · rw [h2]
    refine findI_here h1 (by rw [loses_winB hb h1]; exact h3) fun j hj => ?_
    rw [loses_winB hb (by omega)]
    cases c : winB tb n j n with
    | false => rfl
    | true =>
      have e1 := (winB_iff tb n j n).1 c k h1 (by omega)
      have e2 := (winB_iff tb n k n).1 h3 j (by omega) (by omega)
      omega
/-- An order that grows by one, at any place. -/
def insAt (xs : List Int) (p : Nat) (x : Int) : List Int := xs.take p ++ [x] ++ xs.drop p
theorem insAt_perm (xs : List Int) (p : Nat) (x : Int) : (insAt xs p x).Perm (x :: xs) := by
  unfold insAt
  have h1 : (xs.take p ++ [x] ++ xs.drop p).Perm ([x] ++ (xs.take p ++ xs.drop p)) := by
    rw [← List.append_assoc]
    exact List.Perm.append_right _ List.perm_append_comm
  rw [List.take_append_drop] at h1
  exact h1
theorem insAt_length (xs : List Int) (p : Nat) (x : Int) : (insAt xs p x).length = xs.length + 1 := by rw [(insAt_perm xs p x).length_eq]; rfl
theorem insAt_order {xs : List Int} {i p : Nat} (h : orderB xs i = true) : orderB (insAt xs p (i : Int)) (i + 1) = true := by
  obtain ⟨h1, h2, h3⟩ := orderB_iff.1 h
  refine orderB_iff.2 ⟨fun x hx => ?_, ?_, by rw [insAt_length, h3]⟩
  · rcases List.mem_cons.1 ((insAt_perm xs p i).mem_iff.1 hx) with rfl | hx
    · omega
    · have := h1 x hx; omega
  · refine (insAt_perm xs p i).nodup_iff.2 (List.nodup_cons.2 ⟨fun hm => ?_, h2⟩)
    have := h1 _ hm; omega
end Go.Proofs.Ythofpfnccgfohaa
