/-
  Turns of a stable match: who follows whom, rings, and what a turn makes is a match. No Go function is named here.
-/
import Derived.Test.YtdipckpcmnhpjaaMatF
namespace Go.Proofs.Ytdipckpcmnhpjaa
set_option linter.unusedVariables false
set_option linter.unusedSimpArgs false
open Go.RowKit

theorem find_hit {α : Type} {p : α → Bool} {x : α} : ∀ {xs : List α} {k : Nat}, xs[k]? = some x → p x = true → (∀ j y, j < k → xs[j]? = some y → p y = false) → xs.find? p = some x
  | [], k, h, _, _ => by simp at h
  | y :: ys, 0, h, hp, _ => by
    simp only [List.getElem?_cons_zero, Option.some.injEq] at h
    subst h
    rw [List.find?_cons, hp]
  | y :: ys, k + 1, h, hp, hb => by
    rw [List.find?_cons, hb 0 y (by omega) rfl]
    exact find_hit (by simpa using h) hp fun j z hj hz => hb (j + 1) z (by omega) (by simpa using hz)
theorem find_miss {α : Type} {p : α → Bool} {xs : List α} (hb : ∀ j y, j < xs.length → xs[j]? = some y → p y = false) : xs.find? p = none := by
  rw [List.find?_eq_none]
  intro x hx
  obtain ⟨j, hj, e⟩ := List.getElem_of_mem hx
  rw [hb j x hj (by rw [List.getElem?_eq_getElem hj, e])]
  simp
/-- The test of who is next. -/
def nextB (w : Wi) (m : List Int) (i : Nat) (b : Int) : Bool := containsI (row w.R b.toNat) i && dearB (row w.R b.toNat) i (backF m b.toNat)
theorem next_hit {w : Wi} {m : List Int} {i k : Nat} {b : Int} (h0 : ¬ m.getD i 0 < 0) (hx : ((row w.L i).drop ((placeI (row w.L i) (m.getD i 0)).toNat + 1))[k]? = some b) (hp : nextB w m i b = true)
    (hb : ∀ j y, j < k → ((row w.L i).drop ((placeI (row w.L i) (m.getD i 0)).toNat + 1))[j]? = some y → nextB w m i y = false) : nextF w m i = backF m b.toNat := by
  unfold nextF
  rw [if_neg h0]
  have := find_hit (p := nextB w m i) hx hp hb
  unfold nextB at this
  rw [this]
theorem next_miss {w : Wi} {m : List Int} {i : Nat} (h0 : ¬ m.getD i 0 < 0)
    (hb : ∀ j y, j < ((row w.L i).drop ((placeI (row w.L i) (m.getD i 0)).toNat + 1)).length → ((row w.L i).drop ((placeI (row w.L i) (m.getD i 0)).toNat + 1))[j]? = some y → nextB w m i y = false) : nextF w m i = -1 := by
  unfold nextF
  rw [if_neg h0]
  have := find_miss (p := nextB w m i) hb
  unfold nextB at this
  rw [this]
theorem next_nobody {w : Wi} {m : List Int} {i : Nat} (h0 : m.getD i 0 < 0) : nextF w m i = -1 := by unfold nextF; rw [if_pos h0]
/-- The program's test of who is next. -/
theorem next_test {w : Wi} (hw : Wish w) {m : List Int} {i : Nat} {b : Nat} (hi : i < w.L.length) (hb : b < w.L.length) (hm : (b : Int) ∈ row w.L i) : (pairB w i b && dearI (row w.R b) i (indexI m b)) = nextB w m i b := by
  have h1 : containsI (row w.L i) b = true := containsI_iff.2 hm
  unfold nextB pairB
  rw [h1, Bool.true_and, Int.toNat_natCast]
  cases hc : containsI (row w.R b) i with
  | false => rfl
  | true => rw [Bool.true_and, Bool.true_and, dear_right hw hb hc]
theorem drop_place {xs : List Int} {b : Int} (hn : xs.Nodup) (h : b ∈ xs.drop ((placeI xs b).toNat + 1)) : False := by
  obtain ⟨k, hk, e⟩ := List.getElem_of_mem h
  rw [List.getElem_drop] at e
  rw [List.length_drop] at hk
  unfold List.Nodup at hn
  rw [List.pairwise_iff_getElem] at hn
  unfold placeI at e hk
  rcases indexI_cases xs b with ⟨j, h1, h2, h3⟩ | ⟨h1, h3⟩
  · have h4 : (if indexI xs b < 0 then (xs.length : Int) else indexI xs b).toNat = j := by rw [h3, if_neg (by omega)]; simp
    rw [getD_eq h1] at h2
    simp only [h4] at e hk
    exact hn j (j + 1 + k) h1 (by omega) (by omega) (by rw [h2, e])
  · have h4 : (if indexI xs b < 0 then (xs.length : Int) else indexI xs b).toNat = xs.length := by rw [h3, if_pos (by omega)]; simp
    rw [h4] at hk
    omega
theorem nextF_spec {w : Wi} (hw : Wish w) {m : List Int} (hm : Mat w m) {i : Nat} (hi : i < w.L.length) :
    nextF w m i = -1 ∨ ∃ j b : Nat, nextF w m i = j ∧ j < w.L.length ∧ j ≠ i ∧ b < w.L.length ∧ m.getD j 0 = b ∧ pairB w i b = true := by
  unfold nextF
  by_cases h0 : m.getD i 0 < 0
  · exact .inl (if_pos h0)
  · rw [if_neg h0]
    cases hf : ((row w.L i).drop ((placeI (row w.L i) (m.getD i 0)).toNat + 1)).find? (fun b => containsI (row w.R b.toNat) i && dearB (row w.R b.toNat) i (backF m b.toNat)) with
    | none => exact .inl rfl
    | some b =>
      have hmem := List.mem_of_find?_eq_some hf
      have hp := List.find?_some hf
      simp only [Bool.and_eq_true] at hp
      have hin : b ∈ row w.L i := List.mem_of_mem_drop hmem
      obtain ⟨hb1, hb2⟩ := (hw.left _ (row_mem hi)).1 _ hin
      obtain ⟨c, rfl⟩ : ∃ c : Nat, b = c := ⟨b.toNat, by omega⟩
      simp only [Int.toNat_natCast] at hp ⊢
      rcases back_cases hm c with ⟨j, h1, h2, h3⟩ | ⟨_, h3⟩
      · refine .inr ⟨j, c, h3, by have := hm.len; omega, fun e => ?_, by omega, h2, ?_⟩
        · subst e
          rw [h2] at hmem
          exact drop_place (hw.left _ (row_mem hi)).2 hmem
        · unfold pairB
          rw [containsI_iff.2 hin, hp.1]; rfl
      · exact .inl h3
theorem ringF_mem {g : Int → Int} {a : Int} {n : Nat} {ring : List Int} (h : ringF g a n = some ring) : ∃ t, t ≤ n ∧ ring = (List.range (t + 1)).map (itZ g a) ∧ itZ g a (t + 1) = a ∧ ∀ s, s < t → a < itZ g a (s + 1) := by
  unfold ringF at h
  split at h
  case h_1 t hf =>
    split at h
    case isTrue he =>
      injection h with h
      rw [List.find?_range_eq_some] at hf
      obtain ⟨_, h2, h3⟩ := hf
      exact ⟨t, by have := List.mem_range.1 h2; omega, h.symm, he, fun s hs => by have := h3 s hs; simpa using this⟩
    case isFalse => cases h
  case h_2 => cases h
theorem itZ_same {g : Int → Int} {a : Int} {p q : Nat} (h : itZ g a p = itZ g a q) : ∀ u, itZ g a (p + u) = itZ g a (q + u)
  | 0 => h
  | u + 1 => by show g (itZ g a (p + u)) = g (itZ g a (q + u)); rw [itZ_same h u]
theorem takenN_len (m ring : List Int) : ∀ k, (takenN m ring k).length = m.length
  | 0 => rfl
  | k + 1 => by rw [takenN, List.length_set, takenN_len m ring k]
/-- What a turn makes is a match. -/
theorem takenF_mat {w : Wi} (hw : Wish w) {m : List Int} (hm : Mat w m) {ring : List Int} (hr : ring ∈ turnsF w m) : matchB w (takenF m ring) = true := by
  unfold turnsF at hr
  obtain ⟨a, ha, hr⟩ := List.mem_filterMap.1 hr
  have ha' := List.mem_range.1 ha
  obtain ⟨t, _, rfl, hback, hgt⟩ := ringF_mem hr
  generalize hx : itZ (nextZ w m) (a : Int) = x at *
  have x0 : x 0 = a := by rw [← hx]; rfl
  have xs' : ∀ s, x (s + 1) = nextF w m (x s).toNat := fun s => by rw [← hx]; rfl
  -- all are numbers on the left
  have hnat : ∀ s, s ≤ t + 1 → ∃ y : Nat, x s = y ∧ y < w.L.length := by
    intro s
    induction s with
    | zero => exact fun _ => ⟨a, x0, ha'⟩
    | succ s ih =>
      intro hs
      obtain ⟨y, hy, hyn⟩ := ih (by omega)
      by_cases e : s = t
      · subst e; exact ⟨a, hback, ha'⟩
      · have hg := hgt s (by omega)
        have hs' := xs' s
        rw [hy, Int.toNat_natCast] at hs'
        rcases nextF_spec hw hm hyn with h | ⟨j, b, h1, h2, _⟩
        · rw [hs', h] at hg; omega
        · exact ⟨j, by rw [hs', h1], h2⟩
  have hstep : ∀ s, s < t + 1 → ∃ y z b : Nat, x s = y ∧ x (s + 1) = z ∧ y < w.L.length ∧ z < w.L.length ∧ b < w.L.length ∧ m.getD z 0 = b ∧ pairB w y b = true := by
    intro s hs
    obtain ⟨y, hy, hyn⟩ := hnat s (by omega)
    obtain ⟨z, hz, hzn⟩ := hnat (s + 1) (by omega)
    have hs' := xs' s
    rw [hy, Int.toNat_natCast] at hs'
    rcases nextF_spec hw hm hyn with h | ⟨j, b, h1, h2, _, h3, h4, h5⟩
    · rw [hz, h] at hs'; omega
    · have : j = z := by rw [hz, h1] at hs'; omega
      subst this
      exact ⟨y, j, b, hy, hz, hyn, hzn, h3, h4, h5⟩
  have hinj : ∀ p q, p < t + 1 → q < t + 1 → x p = x q → p = q := by
    have key : ∀ p q, p < q → q < t + 1 → x p = x q → False := by
      intro p q hpq hq he
      rw [← hx] at he
      have := itZ_same he (t + 1 - q)
      rw [hx, show q + (t + 1 - q) = t + 1 by omega, hback] at this
      have h2 := hgt (p + (t + 1 - q) - 1) (by omega)
      rw [show p + (t + 1 - q) - 1 + 1 = p + (t + 1 - q) by omega, this] at h2
      omega
    intro p q hp hq he
    rcases Nat.lt_trichotomy p q with h | h | h
    · exact (key p q h hq he).elim
    · exact h
    · exact (key q p h hp he.symm).elim
  have hinj1 : ∀ p q, p < t + 1 → q < t + 1 → x (p + 1) = x (q + 1) → p = q := by
    intro p q hp hq he
    by_cases e1 : p = t <;> by_cases e2 : q = t
    · omega
    · subst e1; rw [hback] at he; have := hgt q (by omega); omega
    · subst e2; rw [hback] at he; have := hgt p (by omega); omega
    · have := hinj (p + 1) (q + 1) (by omega) (by omega) he; omega
  have hrl : ((List.range (t + 1)).map x).length = t + 1 := by simp
  have hrg : ∀ s, s < t + 1 → ((List.range (t + 1)).map x).getD s 0 = x s := fun s hs => by simp [List.getD, hs]
  generalize hR : (List.range (t + 1)).map x = R at *
  have hat : ∀ s, s < t + 1 → turnAt m R s = m.getD (x (s + 1)).toNat 0 := by
    intro s hs
    unfold turnAt
    rw [hrl]
    by_cases e : s = t
    · subst e; rw [Nat.mod_self, hrg 0 (by omega), hback, x0]
    · rw [Nat.mod_eq_of_lt (by omega), hrg _ (by omega)]
  have hval : ∀ k, k ≤ t + 1 → ∀ y, y < m.length → (∃ s, s < k ∧ x s = (y : Int) ∧ (takenN m R k).getD y 0 = m.getD (x (s + 1)).toNat 0) ∨ ((∀ s, s < k → x s ≠ (y : Int)) ∧ (takenN m R k).getD y 0 = m.getD y 0) := by
    intro k
    induction k with
    | zero => exact fun _ y hy => .inr ⟨fun s hs => by omega, rfl⟩
    | succ k ih =>
      intro hk y hy
      obtain ⟨z, hz, hzn⟩ := hnat k (by omega)
      rw [takenN, hrg k (by omega), hz, Int.toNat_natCast, hat k (by omega)]
      have hl := takenN_len m R k
      by_cases e : z = y
      · subst e
        refine .inl ⟨k, by omega, hz, ?_⟩
        simp [List.getD, List.getElem?_set, hl, hy]
      · have hne : ((takenN m R k).set z (m.getD (x (k + 1)).toNat 0)).getD y 0 = (takenN m R k).getD y 0 := by simp [List.getD, List.getElem?_set, e]
        rw [hne]
        rcases ih (by omega) y hy with ⟨s, h1, h2, h3⟩ | ⟨h1, h2⟩
        · exact .inl ⟨s, by omega, h2, h3⟩
        · refine .inr ⟨fun s hs => ?_, h2⟩
          by_cases e2 : s = k
          · subst e2; rw [hz]; omega
          · exact h1 s (by omega)
  have hlen : (takenF m R).length = m.length := takenN_len _ _ _
  have hv := hval (t + 1) (Nat.le_refl _)
  have hT : takenF m R = takenN m R (t + 1) := by unfold takenF; rw [hrl]
  have hml := hm.len
  refine of_mat ⟨by rw [hlen, hm.len], fun y hy => ?_, fun y y' hy hy' h0 he => ?_⟩
  · rw [hT]
    rcases hv y (by omega) with ⟨s, h1, h2, h3⟩ | ⟨_, h2⟩
    · obtain ⟨y1, z, b, e1, e2, _, _, e3, e4, e5⟩ := hstep s h1
      have : y1 = y := by omega
      subst this
      rw [h3, e2, Int.toNat_natCast]
      exact .inr ⟨b, e4, e3, e5⟩
    · rw [h2]; exact hm.val y (by omega)
  · rw [hT] at h0 he
    rcases hv y (by omega) with ⟨s, h1, h2, h3⟩ | ⟨h1, h2⟩ <;> rcases hv y' (by omega) with ⟨s', g1, g2, g3⟩ | ⟨g1, g2⟩
    · obtain ⟨_, z, _, _, e2, _, ez, _⟩ := hstep s h1
      obtain ⟨_, z', _, _, e2', _, ez', _⟩ := hstep s' g1
      rw [h3, e2, Int.toNat_natCast] at h0 he
      rw [g3, e2', Int.toNat_natCast] at he
      have := hm.inj z z' (by omega) (by omega) h0 he
      have := hinj1 s s' h1 g1 (by rw [e2, e2']; omega)
      subst this
      omega
    · obtain ⟨_, z, _, _, e2, _, ez, _⟩ := hstep s h1
      rw [h3, e2, Int.toNat_natCast] at h0 he
      rw [g2] at he
      have hzy := hm.inj z y' (by omega) (by omega) h0 he
      by_cases e : s = t
      · subst e
        exact absurd (by rw [x0, ← hback, e2]; omega) (g1 0 (by omega))
      · exact absurd (by rw [e2]; omega) (g1 (s + 1) (by omega))
    · obtain ⟨_, z, _, _, e2, _, ez, _⟩ := hstep s' g1
      rw [h2] at h0 he
      rw [g3, e2, Int.toNat_natCast] at he
      have hzy := hm.inj y z (by omega) (by omega) h0 he
      by_cases e : s' = t
      · subst e
        exact absurd (by rw [x0, ← hback, e2]; omega) (h1 0 (by omega))
      · exact absurd (by rw [e2]; omega) (h1 (s' + 1) (by omega))
    · rw [h2] at h0 he
      rw [g2] at he
      exact hm.inj y y' (by omega) (by omega) h0 he
end Go.Proofs.Ytdipckpcmnhpjaa
