/-
  All stable matches: by depth, as the program seeks them, and out of all lists, as the reference does: the same ones. No Go function is named here.
-/
import Derived.Test.YtdipckpcmnhpjaaMatchP
import Derived.Test.YtdipckpcmnhpjaaOdo
namespace Go.Proofs.Ytdipckpcmnhpjaa
set_option linter.unusedVariables false
set_option linter.unusedSimpArgs false
open Go.RowKit

theorem flatMap_congrM {α β : Type} {f g : α → List β} : ∀ {l : List α}, (∀ x ∈ l, f x = g x) → l.flatMap f = l.flatMap g
  | [], _ => rfl
  | x :: l, h => by rw [List.flatMap_cons, List.flatMap_cons, h x (by simp), flatMap_congrM fun y hy => h y (by simp [hy])]
/-- May x stand behind p in a match? -/
def okB (w : Wi) (p : List Int) (x : Int) : Bool := decide (x = -1) || (inB x 0 (w.L.length - 1) && !hasB p x && pairB w p.length x.toNat)
def partN (w : Wi) (m : List Int) : Nat → Bool
  | 0 => true
  | k + 1 => partN w m k && okB w (m.take k) (m.getD k 0)
def partB (w : Wi) (m : List Int) : Bool := partN w m m.length
def matchB (w : Wi) (m : List Int) : Bool := decide (m.length = w.L.length) && partB w m
theorem partN_le {w : Wi} {m : List Int} : ∀ {k j : Nat}, j ≤ k → partN w m k = true → partN w m j = true
  | 0, j, h, h2 => by have : j = 0 := by omega
                      subst this; rfl
  | k + 1, j, h, h2 => by
    by_cases e : j = k + 1
    · subst e; exact h2
    · rw [partN, Bool.and_eq_true] at h2
      exact partN_le (k := k) (by omega) h2.1
theorem partN_congr {w : Wi} {m m' : List Int} : ∀ {k : Nat}, (∀ j, j < k → m.getD j 0 = m'.getD j 0 ∧ m.take j = m'.take j) → partN w m k = partN w m' k
  | 0, _ => rfl
  | k + 1, h => by
    rw [partN, partN, partN_congr (k := k) (fun j hj => h j (by omega)), (h k (by omega)).1, (h k (by omega)).2]
theorem partN_pre (w : Wi) (p s : List Int) : ∀ k, k ≤ p.length → partN w (p ++ s) k = partN w p k := fun k hk =>
  partN_congr fun j hj => ⟨by simp [List.getD, List.getElem?_append_left (show j < p.length by omega)], by rw [List.take_append_of_le_length (by omega)]⟩
theorem partB_snoc (w : Wi) (p : List Int) (x : Int) : partB w (p ++ [x]) = (partB w p && okB w p x) := by
  unfold partB
  rw [List.length_append, List.length_singleton, partN, partN_pre w p [x] _ (Nat.le_refl _)]
  have e1 : (p ++ [x]).take p.length = p := by simp
  have e2 : (p ++ [x]).getD p.length 0 = x := by simp [List.getD]
  rw [e1, e2]
theorem partB_pre {w : Wi} {p s : List Int} (h : partB w (p ++ s) = true) : partB w p = true := by
  unfold partB at h ⊢
  rw [← partN_pre w p s _ (Nat.le_refl _)]
  exact partN_le (by simp) h
theorem partN_at {w : Wi} {m : List Int} : ∀ {k j : Nat}, partN w m k = true → j < k → okB w (m.take j) (m.getD j 0) = true
  | 0, j, _, h => by omega
  | k + 1, j, h2, h => by
    rw [partN, Bool.and_eq_true] at h2
    by_cases e : j = k
    · subst e; exact h2.2
    · exact partN_at h2.1 (by omega)
theorem okB_iff {w : Wi} {p : List Int} {x : Int} : okB w p x = true ↔ x = -1 ∨ (0 ≤ x ∧ x < w.L.length ∧ x ∉ p ∧ pairB w p.length x.toNat = true) := by
  unfold okB
  simp only [Bool.or_eq_true, decide_eq_true_eq, Bool.and_eq_true, inB_iff, Bool.not_eq_true', hasB_no]
  constructor
  · rintro (h | ⟨⟨⟨h1, h2⟩, h3⟩, h4⟩)
    · exact .inl h
    · exact .inr ⟨h1, by omega, h3, h4⟩
  · rintro (h | ⟨h1, h2, h3, h4⟩)
    · exact .inl h
    · exact .inr ⟨⟨⟨h1, by omega⟩, h3⟩, h4⟩
theorem mem_take_getD {m : List Int} {i j : Nat} (hij : i < j) (hi : i < m.length) : m.getD i 0 ∈ m.take j := by
  have : (m.take j)[i]? = some (m.getD i 0) := by rw [List.getElem?_take, if_pos hij]; exact get_of_lt hi
  exact List.mem_of_getElem? this
theorem mat_of {w : Wi} {m : List Int} (h : matchB w m = true) : Mat w m := by
  simp only [matchB, Bool.and_eq_true, decide_eq_true_eq, partB] at h
  obtain ⟨h1, h2⟩ := h
  have at' : ∀ i, i < m.length → m.getD i 0 = -1 ∨ (0 ≤ m.getD i 0 ∧ m.getD i 0 < w.L.length ∧ m.getD i 0 ∉ m.take i ∧ pairB w i (m.getD i 0).toNat = true) := fun i hi => by
    have := okB_iff.1 (partN_at h2 hi)
    rwa [List.length_take, Nat.min_eq_left (by omega)] at this
  refine ⟨h1, fun i hi => ?_, fun i j hi hj h0 he => ?_⟩
  · rcases at' i hi with h3 | ⟨h3, h4, _, h5⟩
    · exact .inl h3
    · exact .inr ⟨(m.getD i 0).toNat, by omega, by omega, h5⟩
  · refine Classical.byContradiction fun hne => ?_
    by_cases hlt : i < j
    · rcases at' j hj with h3 | ⟨_, _, h5, _⟩
      · omega
      · exact h5 (he ▸ mem_take_getD hlt hi)
    · rcases at' i hi with h3 | ⟨_, _, h5, _⟩
      · omega
      · exact h5 (he ▸ mem_take_getD (show j < i by omega) hj)
theorem of_mat {w : Wi} {m : List Int} (h : Mat w m) : matchB w m = true := by
  simp only [matchB, Bool.and_eq_true, decide_eq_true_eq, partB]
  refine ⟨h.len, ?_⟩
  have : ∀ k, k ≤ m.length → partN w m k = true := by
    intro k
    induction k with
    | zero => intro _; rfl
    | succ k ih =>
      intro hk
      rw [partN, ih (by omega), Bool.true_and, okB_iff, List.length_take, Nat.min_eq_left (by omega)]
      rcases h.val k (by omega) with h1 | ⟨b, h1, h2, h3⟩
      · exact .inl h1
      · refine .inr ⟨by omega, by omega, fun hm => ?_, by rw [h1]; exact h3⟩
        obtain ⟨i, hi, e⟩ := List.getElem_of_mem hm
        rw [List.length_take] at hi
        have e2 : m.getD i 0 = m.getD k 0 := by
          rw [← e]
          simp [List.getD, List.getElem?_eq_getElem (show i < m.length by omega)]
        have := h.inj i k (by omega) (by omega) (by omega) e2
        omega
  exact this _ (Nat.le_refl _)
/-- The first pair from (a, b) on that blocks. -/
def blockF (w : Wi) (m : List Int) : Option (Nat × Nat) := (List.range w.L.length).findSome? fun a => ((List.range w.L.length).find? fun b => blocksB w m a b).map fun b => (a, b)
theorem block_none {w : Wi} {m : List Int} : blockF w m = none ↔ ∀ a b, a < w.L.length → b < w.L.length → blocksB w m a b = false := by
  unfold blockF
  simp only [List.findSome?_eq_none_iff, List.mem_range, Option.map_eq_none_iff, List.find?_eq_none, Bool.not_eq_true]
  exact ⟨fun h a b ha hb => h a ha b hb, fun h a ha b hb => h a b ha hb⟩
def stableB (w : Wi) (m : List Int) : Bool := matchB w m && (blockF w m).isNone
theorem stableB_there {w : Wi} (hw : Wish w) : ∃ m, stableB w m = true := by
  obtain ⟨m, h1, h2⟩ := stab_there hw
  exact ⟨m, by simp [stableB, of_mat h1, block_none.2 h2]⟩
/-- By depth. -/
def deepF (w : Wi) : Nat → List Int → List (List Int)
  | 0, p => if (blockF w p).isNone then [p] else []
  | f + 1, p => deepF w f (p ++ [-1]) ++ (List.range w.L.length).flatMap fun (k : Nat) => if pairB w p.length k && !hasB p k then deepF w f (p ++ [(k : Int)]) else []
/-- All lists of m numbers from -1 to n - 1, in their order. -/
def allM (n m : Nat) : List (List Int) := (allD (n + 1) m).map fun s => s.map (· - 1)
theorem allM_succ (n m : Nat) : allM n (m + 1) = ((allM n m).map fun s => (-1 : Int) :: s) ++ (List.range n).flatMap fun (k : Nat) => (allM n m).map fun s => (k : Int) :: s := by
  unfold allM
  rw [allD, List.range_succ_eq_map, List.flatMap_cons, List.map_append, List.map_map, List.map_map]
  congr 1
  rw [List.flatMap_map, List.map_flatMap]
  refine flatMap_congrM fun k hk => ?_
  rw [List.map_map, List.map_map]
  refine List.map_congr_left fun s hs => ?_
  simp
theorem deep_eq {w : Wi} : ∀ (f : Nat) (p : List Int), partB w p = true → p.length + f = w.L.length → deepF w f p = ((allM w.L.length f).map (p ++ ·)).filter (stableB w)
  | 0, p, hp, hl => by
    have hm : matchB w p = true := by simp [matchB, hp]; omega
    rw [deepF]
    simp only [allM, allD, List.map_cons, List.map_nil, List.append_nil, List.filter_cons, List.filter_nil, stableB, hm, Bool.true_and]
  | f + 1, p, hp, hl => by
    have step : ∀ x : Int, ((allM w.L.length f).map fun s => p ++ x :: s) = (allM w.L.length f).map (p ++ [x] ++ ·) := fun x => List.map_congr_left fun s _ => by simp
    have none' : ∀ x : Int, okB w p x = false → ((allM w.L.length f).map (p ++ [x] ++ ·)).filter (stableB w) = [] := by
      intro x hx
      rw [List.filter_eq_nil_iff]
      intro s hs
      obtain ⟨t, _, rfl⟩ := List.mem_map.1 hs
      intro hst
      simp only [stableB, matchB, Bool.and_eq_true] at hst
      have := partB_pre (p := p ++ [x]) (s := t) hst.1.2
      rw [partB_snoc, hp, hx] at this
      cases this
    rw [deepF, allM_succ, List.map_append, List.filter_append, List.map_map]
    congr 1
    · rw [deep_eq f (p ++ [-1]) (by rw [partB_snoc, hp]; simp [okB]) (by simp; omega)]
      exact congrArg _ (step (-1)).symm
    · rw [List.map_flatMap, List.filter_flatMap]
      refine flatMap_congrM fun k hk => ?_
      have hk' := List.mem_range.1 hk
      rw [List.map_map]
      show _ = (((allM w.L.length f).map fun s => p ++ (k : Int) :: s).filter (stableB w))
      rw [step]
      have hok : okB w p (k : Int) = (pairB w p.length k && !hasB p k) := by
        have h1 : decide ((k : Int) = -1) = false := decide_eq_false (by omega)
        have h2 : inB (k : Int) 0 (w.L.length - 1) = true := inB_iff.2 ⟨by omega, by omega⟩
        unfold okB
        rw [h1, h2, Int.toNat_natCast, Bool.false_or, Bool.true_and, Bool.and_comm]
      rw [← hok]
      cases hx : okB w p (k : Int) with
      | true =>
        rw [if_pos rfl]
        exact deep_eq f (p ++ [(k : Int)]) (by rw [partB_snoc, hp, hx]; rfl) (by simp; omega)
      | false => rw [none' _ hx]; rfl
def allStabF (w : Wi) : List (List Int) := (allM w.L.length w.L.length).filter (stableB w)
theorem deep_all (w : Wi) : deepF w w.L.length [] = allStabF w := by
  rw [deep_eq _ [] rfl (by simp)]
  simp [allStabF]
theorem allStab_mem {w : Wi} {m : List Int} (h : stableB w m = true) : m ∈ allStabF w := by
  refine List.mem_filter.2 ⟨?_, h⟩
  simp only [stableB, Bool.and_eq_true] at h
  have hm := mat_of h.1
  unfold allM
  rw [allD_eq (by omega)]
  rw [List.map_map, List.mem_map]
  have hd : digB (w.L.length + 1) (m.map (· + 1)) := by
    intro x hx
    obtain ⟨y, hy, rfl⟩ := List.mem_map.1 hx
    obtain ⟨i, hi, e⟩ := List.getElem_of_mem hy
    have e2 : m.getD i 0 = y := by rw [← e]; simp [List.getD, List.getElem?_eq_getElem hi]
    rcases hm.val i hi with h1 | ⟨b, h1, h2, _⟩ <;> omega
  obtain ⟨c1, c2⟩ := chAt_of (n := w.L.length + 1) (by omega) (U := w.L.length) (by simp [hm.len]) hd
  refine ⟨_, List.mem_range.2 c1, ?_⟩
  show (chAt _ _ _).map (· - 1) = m
  rw [← c2, List.map_map]
  have : ((fun x : Int => x - 1) ∘ fun x => x + 1) = id := by funext x; simp
  rw [this, List.map_id]
theorem allStab_some {w : Wi} (hw : Wish w) : 1 ≤ (allStabF w).length := by
  obtain ⟨m, hm⟩ := stableB_there hw
  exact List.length_pos_of_mem (allStab_mem hm)
end Go.Proofs.Ytdipckpcmnhpjaa
