/-
  Part 2 of what the proof stands on: lemmas and contracts, each with its conditions ahead of the colon.
-/
import Derived.Test.YtchfibmndcfpiaaPk01
namespace Go.Proofs.Ytchfibmndcfpiaa
set_option linter.unusedVariables false
set_option linter.unusedSimpArgs false
open Go.RowKit

theorem getD_eq {m : List Int} {i : Nat} (h : i < m.length) : m.getD i 0 = m[i] := by simp [List.getD, List.getElem?_eq_getElem h]
theorem getD_mem {m : List Int} {i : Nat} (h : i < m.length) : m.getD i 0 ∈ m := by rw [getD_eq h]; exact List.getElem_mem h
/-- The program's tests. -/
def partnersB (w : Wi) (m : List Int) : Bool := decide (m.length = w.L.length) && allIn m (-1) (w.L.length - 1) && (List.range m.length).all fun i => decide (m.getD i 0 < 0) || pairB w i (m.getD i 0).toNat
def whoL (m : List Int) : List Int := m.filter fun k => decide (0 ≤ k)
def isMatchB (w : Wi) (m : List Int) : Bool := partnersB w m && decide (whoL m).Nodup
theorem partners_iff {w : Wi} {m : List Int} : partnersB w m = true ↔ m.length = w.L.length ∧ ∀ i, i < m.length → m.getD i 0 = -1 ∨ ∃ b : Nat, m.getD i 0 = b ∧ b < w.L.length ∧ pairB w i b = true := by
  simp only [partnersB, Bool.and_eq_true, decide_eq_true_eq, allIn_iff, List.all_eq_true, List.mem_range, Bool.or_eq_true]
  constructor
  · rintro ⟨⟨h1, h2⟩, h3⟩
    refine ⟨h1, fun i hi => ?_⟩
    have := h2 _ (getD_mem hi)
    by_cases e : m.getD i 0 = -1
    · exact .inl e
    · refine .inr ⟨(m.getD i 0).toNat, by omega, by omega, ?_⟩
      rcases h3 i hi with h | h
      · omega
      · exact h
  · rintro ⟨h1, h2⟩
    refine ⟨⟨h1, fun x hx => ?_⟩, fun i hi => ?_⟩
    · obtain ⟨i, hi, rfl⟩ := List.getElem_of_mem hx
      rw [← getD_eq hi]
      rcases h2 i hi with h | ⟨b, h, hb, _⟩ <;> omega
    · rcases h2 i hi with h | ⟨b, h, hb, hp⟩
      · exact .inl (by omega)
      · exact .inr (by rw [h, Int.toNat_natCast]; exact hp)
theorem who_iff {m : List Int} : (whoL m).Nodup ↔ ∀ i j, i < m.length → j < m.length → 0 ≤ m.getD i 0 → m.getD i 0 = m.getD j 0 → i = j := by
  unfold whoL List.Nodup
  rw [List.pairwise_filter, List.pairwise_iff_getElem]
  simp only [decide_eq_true_eq]
  constructor
  · intro h i j hi hj h0 he
    rw [getD_eq hi, getD_eq hj] at he
    rw [getD_eq hi] at h0
    rcases Nat.lt_trichotomy i j with hlt | rfl | hlt
    · exact absurd he (h i j hi hj hlt h0 (by omega))
    · rfl
    · exact absurd he.symm (h j i hj hi hlt (by omega) h0)
  · intro h i j hi hj hlt h0 h1 he
    have := h i j hi hj (by rw [getD_eq hi]; exact h0) (by rw [getD_eq hi, getD_eq hj]; exact he)
    omega
theorem isMatch_eq (w : Wi) (m : List Int) : isMatchB w m = matchB w m := by
  rw [Bool.eq_iff_iff]
  constructor
  · intro h
    simp only [isMatchB, Bool.and_eq_true, decide_eq_true_eq, partners_iff, who_iff] at h
    exact of_mat ⟨h.1.1, h.1.2, h.2⟩
  · intro h
    have hm := mat_of h
    simp only [isMatchB, Bool.and_eq_true, decide_eq_true_eq, partners_iff, who_iff]
    exact ⟨⟨hm.len, hm.val⟩, hm.inj⟩
theorem partners_mat {w : Wi} {m : List Int} (h : Mat w m) : partnersB w m = true := partners_iff.2 ⟨h.len, h.val⟩
/-- The first pair that meets a test. -/
def first2 (n : Nat) (p : Nat → Nat → Bool) : Option (Nat × Nat) := (List.range n).findSome? fun a => ((List.range n).find? fun b => p a b).map fun b => (a, b)
theorem findSome_range {α : Type} {f : Nat → Option α} {a : Nat} {x : α} (h : f a = some x) (h1 : ∀ j, j < a → f j = none) : ∀ n, a < n → (List.range n).findSome? f = some x
  | 0, hn => by omega
  | n + 1, hn => by
    rw [List.range_succ, List.findSome?_append]
    by_cases e : a = n
    · subst e
      have : (List.range a).findSome? f = none := List.findSome?_eq_none_iff.2 fun j hj => h1 j (List.mem_range.1 hj)
      rw [this]; simp [h]
    · rw [findSome_range h h1 n (by omega)]; rfl
theorem first2_here {n a b : Nat} {p : Nat → Nat → Bool} (ha : a < n) (hb : b < n) (h : p a b = true) (h1 : ∀ i j, i < a → j < n → p i j = false) (h2 : ∀ j, j < b → p a j = false) : first2 n p = some (a, b) := by
  refine findSome_range ?_ (fun i hi => ?_) n ha
  · have hf : (List.range n).find? (fun b => p a b) = some b := by
      rw [List.find?_range_eq_some]
      exact ⟨h, by simpa using hb, fun j hj => by simp [h2 j hj]⟩
    rw [hf]; rfl
  · rw [Option.map_eq_none_iff, List.find?_eq_none]
    intro j hj
    simp [h1 i j hi (List.mem_range.1 hj)]
theorem first2_none {n : Nat} {p : Nat → Nat → Bool} : first2 n p = none ↔ ∀ a b, a < n → b < n → p a b = false := by
  unfold first2
  simp only [List.findSome?_eq_none_iff, List.mem_range, Option.map_eq_none_iff, List.find?_eq_none, Bool.not_eq_true]
  exact ⟨fun h a b ha hb => h a ha b hb, fun h a ha b hb => h a b ha hb⟩
theorem first2_some {n a b : Nat} {p : Nat → Nat → Bool} (h : first2 n p = some (a, b)) : a < n ∧ b < n ∧ p a b = true := by
  unfold first2 at h
  obtain ⟨i, hi, he⟩ := List.exists_of_findSome?_eq_some h
  rw [Option.map_eq_some_iff] at he
  obtain ⟨j, hj, e⟩ := he
  injection e with e1 e2
  subst e1 e2
  have := List.find?_some hj
  exact ⟨List.mem_range.1 hi, List.mem_range.1 (List.mem_of_find?_eq_some hj), this⟩
theorem first2_congr {n : Nat} {p q : Nat → Nat → Bool} (h : ∀ a b, a < n → b < n → p a b = q a b) : first2 n p = first2 n q := by
  cases hp : first2 n p with
  | none =>
    rw [first2_none] at hp
    exact (first2_none.2 fun a b ha hb => by rw [← h a b ha hb]; exact hp a b ha hb).symm
  | some x =>
    obtain ⟨a, b⟩ := x
    unfold first2 at hp ⊢
    rw [← hp]
    have : ∀ {l : List Nat} {f g : Nat → Option (Nat × Nat)}, (∀ x ∈ l, f x = g x) → l.findSome? g = l.findSome? f := by
      intro l f g
      induction l with
      | nil => intro _; rfl
      | cons x xs ih => intro hl; rw [List.findSome?_cons, List.findSome?_cons, hl x (by simp), ih (fun y hy => hl y (by simp [hy]))]
    refine (this fun i hi => ?_).symm
    have h2 : ∀ {l : List Nat} {f g : Nat → Bool}, (∀ x ∈ l, f x = g x) → l.find? f = l.find? g := by
      intro l f g
      induction l with
      | nil => intro _; rfl
      | cons x xs ih => intro hl; rw [List.find?_cons, List.find?_cons, hl x (by simp), ih (fun y hy => hl y (by simp [hy]))]
    rw [h2 fun j hj => (h i j (List.mem_range.1 hi) (List.mem_range.1 hj))]
theorem block_first (w : Wi) (m : List Int) : blockF w m = first2 w.L.length (blocksB w m) := rfl
def dearI (xs : List Int) (x has : Int) : Bool := decide (placeI xs x < placeI xs has)
def blocksI (w : Wi) (m : List Int) (a b : Nat) : Bool := pairB w a b && dearI (row w.L a) b (m.getD a 0) && dearI (row w.R b) a (indexI m b)
theorem placeI_negL {w : Wi} (hw : Wish w) {a : Nat} (ha : a < w.L.length) : placeI (row w.L a) (-1) = (row w.L a).length := by
  refine placeI_out ?_
  rw [← Bool.not_eq_true, containsI_iff]
  intro h
  have := (hw.left _ (row_mem ha)).1 _ h
  omega
theorem dear_left {w : Wi} (hw : Wish w) {m : List Int} (hv : ∀ i, i < m.length → m.getD i 0 = -1 ∨ ∃ b : Nat, m.getD i 0 = b) {a b : Nat} (hl : m.length = w.L.length) (ha : a < w.L.length) (hp : containsI (row w.L a) b = true) :
    dearI (row w.L a) b (m.getD a 0) = ((!decide (m.getD a 0 = (b : Int))) && dearB (row w.L a) b (m.getD a 0)) := by
  rcases hv a (by omega) with h | ⟨c, h⟩
  · rw [h]
    have h1 : dearI (row w.L a) b (-1) = true := decide_eq_true (by rw [placeI_negL hw ha]; exact placeI_in hp)
    have h2 : decide ((-1 : Int) = (b : Int)) = false := decide_eq_false (by omega)
    rw [h1, h2]; simp [dearB]
  · rw [h]
    have h3 : decide ((c : Int) < 0) = false := decide_eq_false (by omega)
    by_cases e : c = b
    · subst e; simp [dearI]
    · have h2 : decide ((c : Int) = (b : Int)) = false := decide_eq_false (by omega)
      rw [h2]; simp [dearI, dearB, h3]
theorem indexI_bd (xs : List Int) (x : Int) : indexI xs x = -1 ∨ ∃ k : Nat, indexI xs x = k ∧ k < xs.length ∧ xs.getD k 0 = x := by
  rcases indexI_cases xs x with ⟨k, h1, h2, h3⟩ | ⟨_, h2⟩
  · exact .inr ⟨k, h3, h1, h2⟩
  · exact .inl h2
theorem dear_right {w : Wi} (hw : Wish w) {m : List Int} {a b : Nat} (hb : b < w.L.length) (hp : containsI (row w.R b) a = true) : dearI (row w.R b) a (indexI m b) = dearB (row w.R b) a (backF m b) := by
  unfold backF
  rcases indexI_bd m b with h | ⟨k, h, _⟩
  · rw [h]
    have h1 : dearI (row w.R b) a (-1) = true := decide_eq_true (by rw [placeI_neg hw hb]; exact placeI_in hp)
    rw [h1]; simp [dearB]
  · rw [h]
    have h3 : decide ((k : Int) < 0) = false := decide_eq_false (by omega)
    simp [dearI, dearB, h3]
theorem vals_mat {w : Wi} {m : List Int} (h : Mat w m) : ∀ i, i < m.length → m.getD i 0 = -1 ∨ ∃ b : Nat, m.getD i 0 = b := fun i hi => (h.val i hi).imp id fun ⟨b, hb, _⟩ => ⟨b, hb⟩
theorem blocksI_eq {w : Wi} (hw : Wish w) {m : List Int} (hm : Mat w m) {a b : Nat} (ha : a < w.L.length) (hb : b < w.L.length) : blocksI w m a b = blocksB w m a b := by
  unfold blocksI blocksB
  cases hp : pairB w a b with
  | false => rfl
  | true =>
    have hp' := hp
    simp only [pairB, Bool.and_eq_true] at hp'
    rw [dear_left hw (vals_mat hm) hm.len ha hp'.1, dear_right hw hb hp'.2]
    simp [Bool.and_assoc]
theorem block_eqI {w : Wi} (hw : Wish w) {m : List Int} (hm : Mat w m) : first2 w.L.length (blocksI w m) = blockF w m := first2_congr fun _ _ ha hb => blocksI_eq hw hm ha hb
theorem stab_of {w : Wi} {m : List Int} (h : stableB w m = true) : Mat w m := by
  simp only [stableB, Bool.and_eq_true] at h
  exact mat_of h.1
/-- Of two stable matches: for each one on the left the one that is held dearer, or the other one. -/
def pickI (w : Wi) (a b : List Int) (dear : Bool) (i : Nat) : Int := if dearI (row w.L i) (b.getD i 0) (a.getD i 0) == dear then b.getD i 0 else a.getD i 0
def chooseL (w : Wi) (a b : List Int) (dear : Bool) : List Int := (List.range a.length).map (pickI w a b dear)
def swapB (w : Wi) (a b : List Int) (i : Nat) : Bool := decide (a.getD i 0 < 0) || (decide (0 ≤ b.getD i 0) && dearB (row w.L i) (b.getD i 0) (a.getD i 0))
def pickR (w : Wi) (a b : List Int) (less : Bool) (i : Nat) : Int := if less then (if swapB w a b i then a.getD i 0 else b.getD i 0) else (if swapB w a b i then b.getD i 0 else a.getD i 0)
theorem pick_eq {w : Wi} (hw : Wish w) {a b : List Int} (ha : Mat w a) (hb : Mat w b) {i : Nat} (hi : i < w.L.length) (dear : Bool) : pickI w a b dear i = pickR w a b (!dear) i := by
  have key : (dearI (row w.L i) (b.getD i 0) (a.getD i 0) = swapB w a b i) ∨ a.getD i 0 = b.getD i 0 := by
    unfold swapB
    rcases ha.val i (by rw [ha.len]; exact hi) with h | ⟨x, h, _, _⟩ <;> rcases hb.val i (by rw [hb.len]; exact hi) with g | ⟨y, g, _, hp⟩
    · exact .inr (by rw [h, g])
    · simp only [pairB, Bool.and_eq_true] at hp
      left
      rw [h, g]
      have h1 : dearI (row w.L i) y (-1) = true := decide_eq_true (by rw [placeI_negL hw hi]; exact placeI_in hp.1)
      rw [h1]; rfl
    · left
      rw [h, g]
      have h1 : dearI (row w.L i) (-1) x = false := decide_eq_false (by rw [placeI_negL hw hi]; have := (placeI_bd (row w.L i) x).2; omega)
      have h2 : decide ((x : Int) < 0) = false := decide_eq_false (by omega)
      rw [h1, h2]; rfl
    · left
      rw [h, g]
      have h2 : decide ((x : Int) < 0) = false := decide_eq_false (by omega)
      have h3 : decide ((0 : Int) ≤ (y : Int)) = true := decide_eq_true (by omega)
      rw [h2, h3]; simp [dearI, dearB, h2]
  unfold pickI pickR
  rcases key with h | h
  · rw [h]; cases swapB w a b i <;> cases dear <;> rfl
  · rw [h]; cases dear <;> simp
def chooseR (w : Wi) (a b : List Int) (less : Bool) : List Int := (List.range a.length).map (pickR w a b less)
theorem choose_eq {w : Wi} (hw : Wish w) {a b : List Int} (ha : Mat w a) (hb : Mat w b) (dear : Bool) : chooseL w a b dear = chooseR w a b (!dear) :=
  List.map_congr_left fun i hi => pick_eq hw ha hb (by have := List.mem_range.1 hi; have := ha.len; omega) dear
def chooseF (w : Wi) (a b : List Int) (dear : Bool) : Option (List Int) := if wishB w && stableB w a && stableB w b && matchB w (chooseL w a b dear) then some (chooseL w a b dear) else none
/-- Who follows one in a turn. -/
def nextF (w : Wi) (m : List Int) (i : Nat) : Int :=
  if m.getD i 0 < 0 then -1 else match ((row w.L i).drop ((placeI (row w.L i) (m.getD i 0)).toNat + 1)).find? (fun b => containsI (row w.R b.toNat) i && dearB (row w.R b.toNat) i (backF m b.toNat)) with
    | some b => backF m b.toNat
    | none => -1
def nextZ (w : Wi) (m : List Int) (x : Int) : Int := nextF w m x.toNat
def itZ (g : Int → Int) (a : Int) : Nat → Int
  | 0 => a
  | t + 1 => g (itZ g a t)
/-- The ring that begins with a, if it comes back to a, all others of it greater than a. -/
def ringF (g : Int → Int) (a : Int) (n : Nat) : Option (List Int) :=
  match (List.range (n + 1)).find? (fun t => decide (itZ g a (t + 1) ≤ a)) with
  | some t => if itZ g a (t + 1) = a then some ((List.range (t + 1)).map (itZ g a)) else none
  | none => none
theorem ringF_hit {g : Int → Int} {a : Int} {n t : Nat} (ht : t ≤ n) (h : itZ g a (t + 1) ≤ a) (hb : ∀ s, s < t → a < itZ g a (s + 1)) : ringF g a n = if itZ g a (t + 1) = a then some ((List.range (t + 1)).map (itZ g a)) else none := by
  have : (List.range (n + 1)).find? (fun t => decide (itZ g a (t + 1) ≤ a)) = some t := by
    rw [List.find?_range_eq_some]
    exact ⟨decide_eq_true h, by simp; omega, fun j hj => by have := hb j hj; simp; omega⟩
  unfold ringF
  rw [this]
theorem ringF_none {g : Int → Int} {a : Int} {n : Nat} (hb : ∀ s, s ≤ n → a < itZ g a (s + 1)) : ringF g a n = none := by
  have : (List.range (n + 1)).find? (fun t => decide (itZ g a (t + 1) ≤ a)) = none := by
    rw [List.find?_eq_none]
    intro j hj
    have := hb j (by have := List.mem_range.1 hj; omega)
    simp; omega
  unfold ringF
  rw [this]
/-- Once one comes again, all goes round. -/
theorem itZ_round {g : Int → Int} {a : Int} {s t : Nat} (hst : s ≤ t) (hs : 1 ≤ s) (h : itZ g a (t + 1) = itZ g a s) (hb : ∀ r, r ≤ t → a < itZ g a (r + 1)) : ∀ u, a < itZ g a (u + 1) := by
  have key : ∀ u, ∃ r, s ≤ r ∧ r ≤ t ∧ (itZ g a (s + u) = itZ g a r) := by
    intro u
    induction u with
    | zero => exact ⟨s, Nat.le_refl _, hst, rfl⟩
    | succ u ih =>
      obtain ⟨r, h1, h2, h3⟩ := ih
      have e : itZ g a (s + (u + 1)) = itZ g a (r + 1) := by show g (itZ g a (s + u)) = g (itZ g a r); rw [h3]
      by_cases hr : r = t
      · subst hr; exact ⟨s, Nat.le_refl _, hst, by rw [e, h]⟩
      · exact ⟨r + 1, by omega, by omega, e⟩
  intro u
  by_cases hu : u ≤ t
  · exact hb u hu
  · obtain ⟨r, h1, h2, h3⟩ := key (u + 1 - s)
    rw [show s + (u + 1 - s) = u + 1 by omega] at h3
    rw [h3]
    have := hb (r - 1) (by omega)
    rwa [show r - 1 + 1 = r by omega] at this
def turnsF (w : Wi) (m : List Int) : List (List Int) := (List.range w.L.length).filterMap fun (i : Nat) => ringF (nextZ w m) (i : Int) w.L.length
def turnsOfF (w : Wi) (m : List Int) : Option (List (List Int)) := if wishB w && stableB w m then some (turnsF w m) else none
/-- Each one of a turn has whom its next had. -/
def turnAt (m ring : List Int) (i : Nat) : Int := m.getD (ring.getD ((i + 1) % ring.length) 0).toNat 0
def takenN (m ring : List Int) : Nat → List Int
  | 0 => m
  | k + 1 => (takenN m ring k).set (ring.getD k 0).toNat (turnAt m ring k)
def takenF (m ring : List Int) : List Int := takenN m ring ring.length
def takeTurnF (w : Wi) (m ring : List Int) : Option (List Int) := if wishB w && stableB w m && (turnsF w m).contains ring then some (takenF m ring) else none
end Go.Proofs.Ytchfibmndcfpiaa
namespace Go.Proofs.Ytchfibmndcfpiaa
set_option linter.unusedVariables false
set_option linter.unusedSimpArgs false
open Go.RowKit

theorem find_hit {α : Type} {p : α → Bool} {x : α} : ∀ {xs : List α} {k : Nat}, xs[k]? = some x → p x = true → (∀ j y, j < k → xs[j]? = some y → p y = false) → xs.find? p = some x
  | [], k, h, _, _ => by simp at h
  | y :: ys, 0, h, hp, _ => by
    simp only [List.getElem?_cons_zero, Option.some.injEq] at h
    subst h
    rw [List.find?_cons, hp]
  | y :: ys, k + 1, h, hp, hb => by
    rw [List.find?_cons, hb 0 y (by omega) rfl]
    exact find_hit (by simpa using h) hp fun j z hj hz => hb (j + 1) z (by omega) (by simpa using hz)
theorem find_miss {α : Type} {p : α → Bool} {xs : List α} (hb : ∀ j y, j < xs.length → xs[j]? = some y → p y = false) : xs.find? p = none := by
  rw [List.find?_eq_none]
  intro x hx
  obtain ⟨j, hj, e⟩ := List.getElem_of_mem hx
  rw [hb j x hj (by rw [List.getElem?_eq_getElem hj, e])]
  simp
/-- The test of who is next. -/
def nextB (w : Wi) (m : List Int) (i : Nat) (b : Int) : Bool := containsI (row w.R b.toNat) i && dearB (row w.R b.toNat) i (backF m b.toNat)
theorem next_hit {w : Wi} {m : List Int} {i k : Nat} {b : Int} (h0 : ¬ m.getD i 0 < 0) (hx : ((row w.L i).drop ((placeI (row w.L i) (m.getD i 0)).toNat + 1))[k]? = some b) (hp : nextB w m i b = true)
    (hb : ∀ j y, j < k → ((row w.L i).drop ((placeI (row w.L i) (m.getD i 0)).toNat + 1))[j]? = some y → nextB w m i y = false) : nextF w m i = backF m b.toNat := by
  unfold nextF
  rw [if_neg h0]
  have := find_hit (p := nextB w m i) hx hp hb
  unfold nextB at this
  rw [this]
theorem next_miss {w : Wi} {m : List Int} {i : Nat} (h0 : ¬ m.getD i 0 < 0)
    (hb : ∀ j y, j < ((row w.L i).drop ((placeI (row w.L i) (m.getD i 0)).toNat + 1)).length → ((row w.L i).drop ((placeI (row w.L i) (m.getD i 0)).toNat + 1))[j]? = some y → nextB w m i y = false) : nextF w m i = -1 := by
  unfold nextF
  rw [if_neg h0]
  have := find_miss (p := nextB w m i) hb
  unfold nextB at this
  rw [this]
theorem next_nobody {w : Wi} {m : List Int} {i : Nat} (h0 : m.getD i 0 < 0) : nextF w m i = -1 := by unfold nextF; rw [if_pos h0]
/-- The program's test of who is next. -/
theorem next_test {w : Wi} (hw : Wish w) {m : List Int} {i : Nat} {b : Nat} (hi : i < w.L.length) (hb : b < w.L.length) (hm : (b : Int) ∈ row w.L i) : (pairB w i b && dearI (row w.R b) i (indexI m b)) = nextB w m i b := by
  have h1 : containsI (row w.L i) b = true := containsI_iff.2 hm
  unfold nextB pairB
  rw [h1, Bool.true_and, Int.toNat_natCast]
  cases hc : containsI (row w.R b) i with
  | false => rfl
  | true => rw [Bool.true_and, Bool.true_and, dear_right hw hb hc]
theorem drop_place {xs : List Int} {b : Int} (hn : xs.Nodup) (h : b ∈ xs.drop ((placeI xs b).toNat + 1)) : False := by
  obtain ⟨k, hk, e⟩ := List.getElem_of_mem h
  rw [List.getElem_drop] at e
  rw [List.length_drop] at hk
  unfold List.Nodup at hn
  rw [List.pairwise_iff_getElem] at hn
  unfold placeI at e hk
  rcases indexI_cases xs b with ⟨j, h1, h2, h3⟩ | ⟨h1, h3⟩
  · have h4 : (if indexI xs b < 0 then (xs.length : Int) else indexI xs b).toNat = j := by rw [h3, if_neg (by omega)]; simp
    rw [getD_eq h1] at h2
    simp only [h4] at e hk
    exact hn j (j + 1 + k) h1 (by omega) (by omega) (by rw [h2, e])
  · have h4 : (if indexI xs b < 0 then (xs.length : Int) else indexI xs b).toNat = xs.length := by rw [h3, if_pos (by omega)]; simp
    rw [h4] at hk
    omega
theorem nextF_spec {w : Wi} (hw : Wish w) {m : List Int} (hm : Mat w m) {i : Nat} (hi : i < w.L.length) :
    nextF w m i = -1 ∨ ∃ j b : Nat, nextF w m i = j ∧ j < w.L.length ∧ j ≠ i ∧ b < w.L.length ∧ m.getD j 0 = b ∧ pairB w i b = true := by
  unfold nextF
  by_cases h0 : m.getD i 0 < 0
  · exact .inl (if_pos h0)
  · rw [if_neg h0]
    cases hf : ((row w.L i).drop ((placeI (row w.L i) (m.getD i 0)).toNat + 1)).find? (fun b => containsI (row w.R b.toNat) i && dearB (row w.R b.toNat) i (backF m b.toNat)) with
    | none => exact .inl rfl
    | some b =>
      have hmem := List.mem_of_find?_eq_some hf
      have hp := List.find?_some hf
      simp only [Bool.and_eq_true] at hp
      have hin : b ∈ row w.L i := List.mem_of_mem_drop hmem
      obtain ⟨hb1, hb2⟩ := (hw.left _ (row_mem hi)).1 _ hin
      obtain ⟨c, rfl⟩ : ∃ c : Nat, b = c := ⟨b.toNat, by omega⟩
      simp only [Int.toNat_natCast] at hp ⊢
      rcases back_cases hm c with ⟨j, h1, h2, h3⟩ | ⟨_, h3⟩
      · refine .inr ⟨j, c, h3, by have := hm.len; omega, fun e => ?_, by omega, h2, ?_⟩
        · subst e
          rw [h2] at hmem
          exact drop_place (hw.left _ (row_mem hi)).2 hmem
        · unfold pairB
          rw [containsI_iff.2 hin, hp.1]; rfl
      · exact .inl h3
theorem ringF_mem {g : Int → Int} {a : Int} {n : Nat} {ring : List Int} (h : ringF g a n = some ring) : ∃ t, t ≤ n ∧ ring = (List.range (t + 1)).map (itZ g a) ∧ itZ g a (t + 1) = a ∧ ∀ s, s < t → a < itZ g a (s + 1) := by
  unfold ringF at h
  split at h
  case h_1 t hf =>
    split at h
    case isTrue he =>
      injection h with h
      rw [List.find?_range_eq_some] at hf
      obtain ⟨_, h2, h3⟩ := hf
      exact ⟨t, by have := List.mem_range.1 h2; omega, h.symm, he, fun s hs => by have := h3 s hs; simpa using this⟩
    case isFalse => cases h
  case h_2 => cases h
theorem itZ_same {g : Int → Int} {a : Int} {p q : Nat} (h : itZ g a p = itZ g a q) : ∀ u, itZ g a (p + u) = itZ g a (q + u)
  | 0 => h
  | u + 1 => by show g (itZ g a (p + u)) = g (itZ g a (q + u)); rw [itZ_same h u]
theorem takenN_len (m ring : List Int) : ∀ k, (takenN m ring k).length = m.length
  | 0 => rfl
  | k + 1 => by rw [takenN, List.length_set, takenN_len m ring k]
/-- What a turn makes is a match. -/
theorem takenF_mat {w : Wi} (hw : Wish w) {m : List Int} (hm : Mat w m) {ring : List Int} (hr : ring ∈ turnsF w m) : matchB w (takenF m ring) = true := by
  unfold turnsF at hr
  obtain ⟨a, ha, hr⟩ := List.mem_filterMap.1 hr
  have ha' := List.mem_range.1 ha
  obtain ⟨t, _, rfl, hback, hgt⟩ := ringF_mem hr
  generalize hx : itZ (nextZ w m) (a : Int) = x at *
  have x0 : x 0 = a := by rw [← hx]; rfl
  have xs' : ∀ s, x (s + 1) = nextF w m (x s).toNat := fun s => by rw [← hx]; rfl
  -- all are numbers on the left
  have hnat : ∀ s, s ≤ t + 1 → ∃ y : Nat, x s = y ∧ y < w.L.length := by
    intro s
    induction s with
    | zero => exact fun _ => ⟨a, x0, ha'⟩
    | succ s ih =>
      intro hs
      obtain ⟨y, hy, hyn⟩ := ih (by omega)
      by_cases e : s = t
      · subst e; exact ⟨a, hback, ha'⟩
      · have hg := hgt s (by omega)
        have hs' := xs' s
        rw [hy, Int.toNat_natCast] at hs'
        rcases nextF_spec hw hm hyn with h | ⟨j, b, h1, h2, _⟩
        · rw [hs', h] at hg; omega
        · exact ⟨j, by rw [hs', h1], h2⟩
  have hstep : ∀ s, s < t + 1 → ∃ y z b : Nat, x s = y ∧ x (s + 1) = z ∧ y < w.L.length ∧ z < w.L.length ∧ b < w.L.length ∧ m.getD z 0 = b ∧ pairB w y b = true := by
    intro s hs
    obtain ⟨y, hy, hyn⟩ := hnat s (by omega)
    obtain ⟨z, hz, hzn⟩ := hnat (s + 1) (by omega)
    have hs' := xs' s
    rw [hy, Int.toNat_natCast] at hs'
    rcases nextF_spec hw hm hyn with h | ⟨j, b, h1, h2, _, h3, h4, h5⟩
    · rw [hz, h] at hs'; omega
    · have : j = z := by rw [hz, h1] at hs'; omega
      subst this
      exact ⟨y, j, b, hy, hz, hyn, hzn, h3, h4, h5⟩
  have hinj : ∀ p q, p < t + 1 → q < t + 1 → x p = x q → p = q := by
    have key : ∀ p q, p < q → q < t + 1 → x p = x q → False := by
      intro p q hpq hq he
      rw [← hx] at he
      have := itZ_same he (t + 1 - q)
      rw [hx, show q + (t + 1 - q) = t + 1 by omega, hback] at this
      have h2 := hgt (p + (t + 1 - q) - 1) (by omega)
      rw [show p + (t + 1 - q) - 1 + 1 = p + (t + 1 - q) by omega, this] at h2
      omega
    intro p q hp hq he
    rcases Nat.lt_trichotomy p q with h | h | h
    · exact (key p q h hq he).elim
    · exact h
    · exact (key q p h hp he.symm).elim
  have hinj1 : ∀ p q, p < t + 1 → q < t + 1 → x (p + 1) = x (q + 1) → p = q := by
    intro p q hp hq he
    by_cases e1 : p = t <;> by_cases e2 : q = t
    · omega
    · subst e1; rw [hback] at he; have := hgt q (by omega); omega
    · subst e2; rw [hback] at he; have := hgt p (by omega); omega
    · have := hinj (p + 1) (q + 1) (by omega) (by omega) he; omega
  have hrl : ((List.range (t + 1)).map x).length = t + 1 := by simp
  have hrg : ∀ s, s < t + 1 → ((List.range (t + 1)).map x).getD s 0 = x s := fun s hs => by simp [List.getD, hs]
  generalize hR : (List.range (t + 1)).map x = R at *
  have hat : ∀ s, s < t + 1 → turnAt m R s = m.getD (x (s + 1)).toNat 0 := by
    intro s hs
    unfold turnAt
    rw [hrl]
    by_cases e : s = t
    · subst e; rw [Nat.mod_self, hrg 0 (by omega), hback, x0]
    · rw [Nat.mod_eq_of_lt (by omega), hrg _ (by omega)]
  have hval : ∀ k, k ≤ t + 1 → ∀ y, y < m.length → (∃ s, s < k ∧ x s = (y : Int) ∧ (takenN m R k).getD y 0 = m.getD (x (s + 1)).toNat 0) ∨ ((∀ s, s < k → x s ≠ (y : Int)) ∧ (takenN m R k).getD y 0 = m.getD y 0) := by
    intro k
    induction k with
    | zero => exact fun _ y hy => .inr ⟨fun s hs => by omega, rfl⟩
    | succ k ih =>
      intro hk y hy
      obtain ⟨z, hz, hzn⟩ := hnat k (by omega)
      rw [takenN, hrg k (by omega), hz, Int.toNat_natCast, hat k (by omega)]
      have hl := takenN_len m R k
      by_cases e : z = y
      · subst e
        refine .inl ⟨k, by omega, hz, ?_⟩
        simp [List.getD, List.getElem?_set, hl, hy]
      · have hne : ((takenN m R k).set z (m.getD (x (k + 1)).toNat 0)).getD y 0 = (takenN m R k).getD y 0 := by simp [List.getD, List.getElem?_set, e]
        rw [hne]
        rcases ih (by omega) y hy with ⟨s, h1, h2, h3⟩ | ⟨h1, h2⟩
        · exact .inl ⟨s, by omega, h2, h3⟩
        · refine .inr ⟨fun s hs => ?_, h2⟩
          by_cases e2 : s = k
          · subst e2; rw [hz]; omega
          · exact h1 s (by omega)
  have hlen : (takenF m R).length = m.length := takenN_len _ _ _
  have hv := hval (t + 1) (Nat.le_refl _)
  have hT : takenF m R = takenN m R (t + 1) := by unfold takenF; rw [hrl]
  have hml := hm.len
  refine of_mat ⟨by rw [hlen, hm.len], fun y hy => ?_, fun y y' hy hy' h0 he => ?_⟩
  · rw [hT]
    rcases hv y (by omega) with ⟨s, h1, h2, h3⟩ | ⟨_, h2⟩
    · obtain ⟨y1, z, b, e1, e2, _, _, e3, e4, e5⟩ := hstep s h1
      have : y1 = y := by omega
      subst this
      rw [h3, e2, Int.toNat_natCast]
      exact .inr ⟨b, e4, e3, e5⟩
    · rw [h2]; exact hm.val y (by omega)
  · rw [hT] at h0 he
    rcases hv y (by omega) with ⟨s, h1, h2, h3⟩ | ⟨h1, h2⟩ <;> rcases hv y' (by omega) with ⟨s', g1, g2, g3⟩ | ⟨g1, g2⟩
    · obtain ⟨_, z, _, _, e2, _, ez, _⟩ := hstep s h1
      obtain ⟨_, z', _, _, e2', _, ez', _⟩ := hstep s' g1
      rw [h3, e2, Int.toNat_natCast] at h0 he
      rw [g3, e2', Int.toNat_natCast] at he
      have := hm.inj z z' (by omega) (by omega) h0 he
      have := hinj1 s s' h1 g1 (by rw [e2, e2']; omega)
      subst this
      omega
    · obtain ⟨_, z, _, _, e2, _, ez, _⟩ := hstep s h1
      rw [h3, e2, Int.toNat_natCast] at h0 he
      rw [g2] at he
      have hzy := hm.inj z y' (by omega) (by omega) h0 he
      by_cases e : s = t
      · subst e
        exact absurd (by rw [x0, ← hback, e2]; omega) (g1 0 (by omega))
      · exact absurd (by rw [e2]; omega) (g1 (s + 1) (by omega))
    · obtain ⟨_, z, _, _, e2, _, ez, _⟩ := hstep s' g1
      rw [h2] at h0 he
      rw [g3, e2, Int.toNat_natCast] at he
      have hzy := hm.inj y z (by omega) (by omega) h0 he
      by_cases e : s' = t
      · subst e
        exact absurd (by rw [x0, ← hback, e2]; omega) (h1 0 (by omega))
      · exact absurd (by rw [e2]; omega) (h1 (s' + 1) (by omega))
    · rw [h2] at h0 he
      rw [g2] at he
      exact hm.inj y y' (by omega) (by omega) h0 he
end Go.Proofs.Ytchfibmndcfpiaa
namespace Go.Proofs.Ytchfibmndcfpiaa
set_option linter.unusedVariables false
set_option linter.unusedSimpArgs false
open Go.RowKit

theorem place_idx {xs : List Int} {x : Int} (h : containsI xs x = true) : ∃ k : Nat, k < xs.length ∧ xs.getD k 0 = x ∧ placeI xs x = k := by
  rcases indexI_cases xs x with ⟨k, h1, h2, h3⟩ | ⟨_, h3⟩
  · exact ⟨k, h1, h2, by unfold placeI; rw [h3, if_neg (by omega)]⟩
  · unfold containsI at h
    have := of_decide_eq_true h
    omega
theorem place_inj {xs : List Int} {x y : Int} (hx : containsI xs x = true) (hy : containsI xs y = true) (h : placeI xs x = placeI xs y) : x = y := by
  obtain ⟨k, _, h2, h3⟩ := place_idx hx
  obtain ⟨j, _, g2, g3⟩ := place_idx hy
  have : k = j := by omega
  subst this
  rw [← h2, g2]
theorem nodup_inj {xs : List Int} (h : xs.Nodup) {i j : Nat} (hi : i < xs.length) (hj : j < xs.length) (e : xs[i] = xs[j]) : i = j := by
  unfold List.Nodup at h
  rw [List.pairwise_iff_getElem] at h
  rcases Nat.lt_trichotomy i j with g | g | g
  · exact absurd e (h i j hi hj g)
  · exact g
  · exact absurd e.symm (h j i hj hi g)
theorem place_at {xs : List Int} (hn : xs.Nodup) {k : Nat} {x : Int} (h : xs[k]? = some x) : placeI xs x = k := by
  have hk := (List.getElem?_eq_some_iff.1 h).1
  have hc : containsI xs x = true := containsI_iff.2 (List.mem_of_getElem? h)
  obtain ⟨j, j1, j2, j3⟩ := place_idx hc
  have hj : xs[j]? = some x := by rw [get_of_lt j1, j2]
  have : j = k := by
    rw [List.getElem?_eq_getElem j1] at hj
    rw [List.getElem?_eq_getElem hk] at h
    injection hj with hj; injection h with h
    exact nodup_inj hn j1 hk (by rw [hj, h])
  rw [j3, this]
def sidesW (w : Wi) (_ : Wish w) : Sides where
  n := w.L.length
  P a b := a < w.L.length ∧ b < w.L.length ∧ pairB w a b = true
  pl a b := placeI (row w.L a) b
  pr b a := placeI (row w.R b) a
  lt _ _ h := ⟨h.1, h.2.1⟩
  plI a b b' h h' e := by
    have h1 := h.2.2
    have h2 := h'.2.2
    simp only [pairB, Bool.and_eq_true] at h1 h2
    have := place_inj h1.1 h2.1 e
    omega
  prI a a' b h h' e := by
    have h1 := h.2.2
    have h2 := h'.2.2
    simp only [pairB, Bool.and_eq_true] at h1 h2
    have := place_inj h1.2 h2.2 e
    omega
/-- Whom one has. -/
def Has (m : List Int) (a b : Nat) : Prop := a < m.length ∧ m.getD a 0 = (b : Int)
theorem sm_mat {w : Wi} (hw : Wish w) {m : List Int} (hm : Mat w m) (hs : ∀ a b, a < w.L.length → b < w.L.length → blocksB w m a b = false) : SM (sidesW w hw) (Has m) := by
  have hl := hm.len
  refine ⟨fun a b ⟨h1, h2⟩ => ?_, fun a b b' h1 h2 => by have := h1.2; have := h2.2; omega, fun a a' b h1 h2 => hm.inj a a' h1.1 h2.1 (by have := h1.2; omega) (by rw [h1.2, h2.2]), fun a b ⟨h1, h2, h3⟩ => ?_⟩
  · rcases hm.val a h1 with h | ⟨c, h, hc, hp⟩
    · omega
    · have : c = b := by omega
      subst this
      exact ⟨by show a < w.L.length; omega, hc, hp⟩
  · have hb := hs a b h1 h2
    unfold blocksB at hb
    rw [h3, Bool.true_and] at hb
    by_cases e : m.getD a 0 = (b : Int)
    · exact .inl ⟨b, ⟨by omega, e⟩, Int.le_refl _⟩
    · rw [decide_eq_false e, Bool.not_false, Bool.true_and] at hb
      rw [Bool.and_eq_false_iff] at hb
      rcases hb with hb | hb
      · simp only [dearB, Bool.or_eq_false_iff, decide_eq_false_iff_not] at hb
        obtain ⟨b', hb'⟩ : ∃ b' : Nat, m.getD a 0 = b' := ⟨(m.getD a 0).toNat, by omega⟩
        exact .inl ⟨b', ⟨by omega, hb'⟩, by rw [hb'] at hb; show placeI _ _ ≤ placeI _ _; omega⟩
      · simp only [dearB, Bool.or_eq_false_iff, decide_eq_false_iff_not] at hb
        rcases back_cases hm b with ⟨i, i1, i2, i3⟩ | ⟨_, i3⟩
        · rw [i3] at hb
          exact .inr ⟨i, ⟨i1, i2⟩, by show placeI _ _ ≤ placeI _ _; omega⟩
        · omega
theorem sm_of {w : Wi} (hw : Wish w) {m : List Int} (h : stableB w m = true) : SM (sidesW w hw) (Has m) := by
  have hm := stab_of h
  simp only [stableB, Bool.and_eq_true, Option.isNone_iff_eq_none] at h
  exact sm_mat hw hm (block_none.1 h.2)
theorem stable_of {w : Wi} (hw : Wish w) {m : List Int} (hl : m.length = w.L.length) (hv : ∀ i, i < m.length → m.getD i 0 = -1 ∨ ∃ b : Nat, m.getD i 0 = b) (h : SM (sidesW w hw) (Has m)) : stableB w m = true := by
  have hm : Mat w m := by
    refine ⟨hl, fun i hi => ?_, fun i j hi hj h0 he => ?_⟩
    · rcases hv i hi with g | ⟨b, hb⟩
      · exact .inl g
      · obtain ⟨_, h2, h3⟩ := h.p i b ⟨hi, hb⟩
        exact .inr ⟨b, hb, h2, h3⟩
    · exact h.r i j (m.getD i 0).toNat ⟨hi, by omega⟩ ⟨hj, by omega⟩
  simp only [stableB, Bool.and_eq_true, Option.isNone_iff_eq_none]
  refine ⟨of_mat hm, block_none.2 fun a b ha hb => ?_⟩
  unfold blocksB
  cases hp : pairB w a b with
  | false => simp
  | true =>
    rcases h.s a b ⟨ha, hb, hp⟩ with ⟨b', ⟨g1, g2⟩, g3⟩ | ⟨a', ⟨g1, g2⟩, g3⟩
    · have : dearB (row w.L a) b (m.getD a 0) = false := by
        rw [g2]
        simp only [dearB, Bool.or_eq_false_iff, decide_eq_false_iff_not]
        have : placeI (row w.L a) b' ≤ placeI (row w.L a) b := g3
        omega
      rw [this]; simp
    · have : dearB (row w.R b) a (backF m b) = false := by
        rw [back_here hm g1 g2]
        simp only [dearB, Bool.or_eq_false_iff, decide_eq_false_iff_not]
        have : placeI (row w.R b) a' ≤ placeI (row w.R b) a := g3
        omega
      rw [this]; simp
theorem choose_at {w : Wi} {a b : List Int} {dear : Bool} {i : Nat} (h : i < a.length) : (chooseL w a b dear).getD i 0 = pickI w a b dear i := by
  simp [chooseL, List.getD, h]
theorem choose_len (w : Wi) (a b : List Int) (dear : Bool) : (chooseL w a b dear).length = a.length := by simp [chooseL]
/-- Both have somebody, or neither. -/
theorem both_of {w : Wi} (hw : Wish w) {a b : List Int} (ha : stableB w a = true) (hb : stableB w b = true) {i : Nat} (hi : i < w.L.length) : (a.getD i 0 = -1 ∧ b.getD i 0 = -1) ∨ ∃ p q : Nat, a.getD i 0 = p ∧ b.getD i 0 = q ∧ containsI (row w.L i) p = true ∧ containsI (row w.L i) q = true := by
  have sa := sm_of hw ha
  have sb := sm_of hw hb
  have ma := stab_of ha
  have mb := stab_of hb
  have la := ma.len
  have lb := mb.len
  rcases ma.val i (by omega) with h | ⟨p, h, _, hp⟩ <;> rcases mb.val i (by omega) with g | ⟨q, g, _, gp⟩
  · exact .inl ⟨h, g⟩
  · obtain ⟨c, _, hc⟩ := all_left sb sa (a := i) (b := q) ⟨by omega, g⟩
    omega
  · obtain ⟨c, _, hc⟩ := all_left sa sb (a := i) (b := p) ⟨by omega, h⟩
    omega
  · simp only [pairB, Bool.and_eq_true] at hp gp
    exact .inr ⟨p, q, h, g, hp.1, gp.1⟩
theorem choose_stable {w : Wi} (hw : Wish w) {a b : List Int} (ha : stableB w a = true) (hb : stableB w b = true) (dear : Bool) : stableB w (chooseL w a b dear) = true := by
  have sa := sm_of hw ha
  have sb := sm_of hw hb
  have la := (stab_of ha).len
  have lb := (stab_of hb).len
  refine stable_of hw (by rw [choose_len, la]) (fun i hi => ?_) ?_
  · rw [choose_len] at hi
    rw [choose_at hi]
    unfold pickI
    rcases both_of hw ha hb (i := i) (by omega) with ⟨h1, h2⟩ | ⟨p, q, h1, h2, _⟩
    · rw [h1, h2]; simp
    · rw [h1, h2]
      split
      · exact .inr ⟨q, rfl⟩
      · exact .inr ⟨p, rfl⟩
  · have key : ∀ i k, Has (chooseL w a b dear) i k ↔ (if dear then MeetR (sidesW w hw) (Has a) (Has b) i k else JoinR (sidesW w hw) (Has a) (Has b) i k) := by
      intro i k
      by_cases hi : i < a.length
      · have e0 : Has (chooseL w a b dear) i k ↔ (i < a.length ∧ pickI w a b dear i = (k : Int)) := by
          unfold Has
          rw [choose_len, choose_at hi]
        rw [e0]
        unfold pickI
        rcases both_of hw ha hb (i := i) (by omega) with ⟨h1, h2⟩ | ⟨p, q, h1, h2, c1, c2⟩
        · rw [h1, h2]
          simp only [ite_self]
          constructor
          · rintro ⟨_, h⟩; omega
          · intro h
            split at h
            · rcases h with ⟨⟨_, h⟩, _⟩ | ⟨⟨_, h⟩, _⟩ <;> omega
            · rcases h with ⟨⟨_, h⟩, _⟩ | ⟨⟨_, h⟩, _⟩ <;> omega
        · have ux : ∀ b', Has b i b' ↔ b' = q := fun b' => ⟨fun h => by have := h.2; omega, fun h => ⟨by omega, by rw [h2, h]⟩⟩
          have uy : ∀ b', Has a i b' ↔ b' = p := fun b' => ⟨fun h => by have := h.2; omega, fun h => ⟨hi, by rw [h1, h]⟩⟩
          have pq : placeI (row w.L i) p = placeI (row w.L i) q → p = q := fun e => by have := place_inj c1 c2 e; omega
          rw [h1, h2]
          have hM : MeetR (sidesW w hw) (Has a) (Has b) i k ↔ (k = p ∧ placeI (row w.L i) k ≤ placeI (row w.L i) q) ∨ (k = q ∧ placeI (row w.L i) k ≤ placeI (row w.L i) p) := by
            unfold MeetR
            rw [ux, uy]
            constructor
            · rintro (⟨h, l⟩ | ⟨h, l⟩)
              · exact .inl ⟨h, l q ((ux q).2 rfl)⟩
              · exact .inr ⟨h, l p ((uy p).2 rfl)⟩
            · rintro (⟨h, l⟩ | ⟨h, l⟩)
              · exact .inl ⟨h, fun b' hb' => by rw [(ux b').1 hb']; exact l⟩
              · exact .inr ⟨h, fun b' hb' => by rw [(uy b').1 hb']; exact l⟩
          have hJ : JoinR (sidesW w hw) (Has a) (Has b) i k ↔ (k = p ∧ placeI (row w.L i) q ≤ placeI (row w.L i) k) ∨ (k = q ∧ placeI (row w.L i) p ≤ placeI (row w.L i) k) := by
            unfold JoinR
            rw [ux, uy]
            constructor
            · rintro (⟨h, l⟩ | ⟨h, l⟩)
              · exact .inl ⟨h, l q ((ux q).2 rfl)⟩
              · exact .inr ⟨h, l p ((uy p).2 rfl)⟩
            · rintro (⟨h, l⟩ | ⟨h, l⟩)
              · exact .inl ⟨h, fun b' hb' => by rw [(ux b').1 hb']; exact l⟩
              · exact .inr ⟨h, fun b' hb' => by rw [(uy b').1 hb']; exact l⟩
          rw [hM, hJ]
          cases dear with
          | true =>
            simp only [if_true]
            unfold dearI
            by_cases hlt : placeI (row w.L i) q < placeI (row w.L i) p
            · rw [decide_eq_true hlt]
              simp only [beq_self_eq_true, if_true]
              constructor
              · rintro ⟨_, h⟩; exact .inr ⟨by omega, by have : k = q := by omega
                                                        subst this; omega⟩
              · rintro (⟨h, l⟩ | ⟨h, l⟩)
                · subst h; omega
                · exact ⟨hi, by rw [h]⟩
            · rw [decide_eq_false hlt]
              simp only [Bool.false_eq_true, beq_iff_eq, if_false]
              constructor
              · rintro ⟨_, h⟩; exact .inl ⟨by omega, by have : k = p := by omega
                                                        subst this; omega⟩
              · rintro (⟨h, l⟩ | ⟨h, l⟩)
                · exact ⟨hi, by rw [h]⟩
                · subst h
                  have := pq (by omega)
                  exact ⟨hi, by rw [this]⟩
          | false =>
            simp only [Bool.false_eq_true, if_false]
            unfold dearI
            by_cases hlt : placeI (row w.L i) q < placeI (row w.L i) p
            · rw [decide_eq_true hlt]
              simp only [Bool.true_eq_false, beq_iff_eq, if_false]
              constructor
              · rintro ⟨_, h⟩; exact .inl ⟨by omega, by have : k = p := by omega
                                                        subst this; omega⟩
              · rintro (⟨h, l⟩ | ⟨h, l⟩)
                · exact ⟨hi, by rw [h]⟩
                · subst h; omega
            · rw [decide_eq_false hlt]
              simp only [beq_self_eq_true, if_true]
              constructor
              · rintro ⟨_, h⟩; exact .inr ⟨by omega, by have : k = q := by omega
                                                        subst this; omega⟩
              · rintro (⟨h, l⟩ | ⟨h, l⟩)
                · subst h
                  have := pq (by omega)
                  exact ⟨hi, by rw [this]⟩
                · exact ⟨hi, by rw [h]⟩
      · constructor
        · rintro ⟨h, _⟩; rw [choose_len] at h; omega
        · intro h
          split at h
          · rcases h with ⟨⟨h, _⟩, _⟩ | ⟨⟨h, _⟩, _⟩ <;> omega
          · rcases h with ⟨⟨h, _⟩, _⟩ | ⟨⟨h, _⟩, _⟩ <;> omega
    have e : Has (chooseL w a b dear) = fun i k => (if dear then MeetR (sidesW w hw) (Has a) (Has b) i k else JoinR (sidesW w hw) (Has a) (Has b) i k) := by
      funext i k; exact propext (key i k)
    rw [e]
    cases dear with
    | true => exact meet_sm sa sb
    | false => exact join_sm sa sb
theorem chooseF_yes {w : Wi} (hw : wishB w = true) {a b : List Int} (ha : stableB w a = true) (hb : stableB w b = true) (dear : Bool) : chooseF w a b dear = some (chooseL w a b dear) := by
  have h := choose_stable (wish_of hw) ha hb dear
  have h2 := h
  simp only [stableB, Bool.and_eq_true] at h2
  unfold chooseF
  rw [hw, ha, hb, h2.1]; rfl
/-- Who is next, and why. -/
theorem nextF_more {w : Wi} (hw : Wish w) {m : List Int} (hm : Mat w m) {i : Nat} (hi : i < w.L.length) {j : Nat} (hj : nextF w m i = j) :
    ∃ c b : Nat, m.getD i 0 = c ∧ b < w.L.length ∧ pairB w i b = true ∧ j < w.L.length ∧ m.getD j 0 = b ∧ placeI (row w.L i) c < placeI (row w.L i) b ∧ placeI (row w.R b) i < placeI (row w.R b) j ∧
      ∀ d : Nat, pairB w i d = true → d < w.L.length → placeI (row w.L i) c < placeI (row w.L i) d → placeI (row w.L i) d < placeI (row w.L i) b → ∃ a' : Nat, a' < w.L.length ∧ m.getD a' 0 = d ∧ placeI (row w.R d) a' ≤ placeI (row w.R d) i := by
  have hml := hm.len
  unfold nextF at hj
  by_cases h0 : m.getD i 0 < 0
  · rw [if_pos h0] at hj; omega
  · rw [if_neg h0] at hj
    obtain ⟨c, hc⟩ : ∃ c : Nat, m.getD i 0 = c := ⟨(m.getD i 0).toNat, by omega⟩
    have hcp : containsI (row w.L i) c = true := by
      rcases hm.val i (by omega) with h | ⟨c', h, _, hp⟩
      · omega
      · have : c' = c := by omega
        subst this
        simp only [pairB, Bool.and_eq_true] at hp
        exact hp.1
    have hnd := (hw.left _ (row_mem hi)).2
    have hrng := (hw.left _ (row_mem hi)).1
    obtain ⟨p, p1, p2, p3⟩ := place_idx hcp
    rw [hc, p3, Int.toNat_natCast] at hj
    cases hf : ((row w.L i).drop (p + 1)).find? (fun b => containsI (row w.R b.toNat) i && dearB (row w.R b.toNat) i (backF m b.toNat)) with
    | none => rw [hf] at hj; simp only at hj; omega
    | some b =>
      rw [hf] at hj
      simp only at hj
      obtain ⟨hpb, us, bs, hsp, has⟩ := List.find?_eq_some_iff_append.1 hf
      simp only [Bool.and_eq_true] at hpb
      have hbm : b ∈ row w.L i := List.mem_of_mem_drop (by rw [hsp]; simp)
      obtain ⟨hb1, hb2⟩ := hrng _ hbm
      obtain ⟨b, rfl⟩ : ∃ b' : Nat, b = b' := ⟨b.toNat, by omega⟩
      simp only [Int.toNat_natCast] at hpb hj
      have hbi : (row w.L i)[p + 1 + us.length]? = some (b : Int) := by
        rw [← List.getElem?_drop, hsp]; simp
      have hplb := place_at hnd hbi
      rcases back_cases hm b with ⟨j', j1, j2, j3⟩ | ⟨_, j3⟩
      · have : j' = j := by omega
        subst this
        have hpair : pairB w i b = true := by unfold pairB; rw [containsI_iff.2 hbm, hpb.1]; rfl
        refine ⟨c, b, hc, by omega, hpair, by omega, j2, by rw [p3, hplb]; omega, ?_, fun d hd hdn h1 h2 => ?_⟩
        · have := hpb.2
          rw [j3] at this
          simp only [dearB, Bool.or_eq_true, decide_eq_true_eq] at this
          omega
        · simp only [pairB, Bool.and_eq_true] at hd
          obtain ⟨q, q1, q2, q3⟩ := place_idx hd.1
          rw [p3, q3] at h1
          rw [q3, hplb] at h2
          have hda : (d : Int) ∈ us := by
            have e : (row w.L i)[q]? = some (d : Int) := by rw [get_of_lt q1, q2]
            have e2 : ((row w.L i).drop (p + 1))[q - (p + 1)]? = some (d : Int) := by rw [List.getElem?_drop, show p + 1 + (q - (p + 1)) = q by omega]; exact e
            rw [hsp, List.getElem?_append_left (by omega)] at e2
            exact List.mem_of_getElem? e2
          have hn := has _ hda
          simp only [Int.toNat_natCast, Bool.not_eq_true', Bool.and_eq_false_iff] at hn
          rcases hn with hn | hn
          · rw [hd.2] at hn; cases hn
          · simp only [dearB, Bool.or_eq_false_iff, decide_eq_false_iff_not] at hn
            rcases back_cases hm d with ⟨a', a1, a2, a3⟩ | ⟨_, a3⟩
            · rw [a3] at hn
              exact ⟨a', by omega, a2, by omega⟩
            · omega
      · omega
/-- What a turn leaves where it takes. -/
theorem taken_val {m : List Int} {t : Nat} {x : Nat → Nat} (hx : ∀ s, s ≤ t → x s < m.length) (hinj : ∀ p q, p ≤ t → q ≤ t → x p = x q → p = q) (hback : x (t + 1) = x 0) {R : List Int} (hR : R = (List.range (t + 1)).map fun s => (x s : Int)) {y : Nat} (hy : y < m.length) :
    (∃ s, s ≤ t ∧ y = x s ∧ (takenF m R).getD y 0 = m.getD (x (s + 1)) 0) ∨ ((∀ s, s ≤ t → y ≠ x s) ∧ (takenF m R).getD y 0 = m.getD y 0) := by
  have hrl : R.length = t + 1 := by rw [hR]; simp
  have hrg : ∀ s, s < t + 1 → R.getD s 0 = x s := fun s hs => by rw [hR]; simp [List.getD, hs]
  have hat : ∀ s, s < t + 1 → turnAt m R s = m.getD (x (s + 1)) 0 := by
    intro s hs
    unfold turnAt
    rw [hrl]
    by_cases e : s = t
    · subst e; rw [Nat.mod_self, hrg 0 (by omega), hback]; rfl
    · rw [Nat.mod_eq_of_lt (by omega), hrg _ (by omega)]; rfl
  have hval : ∀ k, k ≤ t + 1 → (∃ s, s < k ∧ y = x s ∧ (takenN m R k).getD y 0 = m.getD (x (s + 1)) 0) ∨ ((∀ s, s < k → y ≠ x s) ∧ (takenN m R k).getD y 0 = m.getD y 0) := by
    intro k
    induction k with
    | zero => exact fun _ => .inr ⟨fun s hs => by omega, rfl⟩
    | succ k ih =>
      intro hk
      have hl := takenN_len m R k
      rw [takenN, hrg k (by omega), Int.toNat_natCast, hat k (by omega)]
      by_cases e : x k = y
      · refine .inl ⟨k, by omega, e.symm, ?_⟩
        rw [e]
        simp [List.getD, List.getElem?_set, hl, hy]
      · have hne : ((takenN m R k).set (x k) (m.getD (x (k + 1)) 0)).getD y 0 = (takenN m R k).getD y 0 := by simp [List.getD, List.getElem?_set, e]
        rw [hne]
        rcases ih (by omega) with ⟨s, h1, h2, h3⟩ | ⟨h1, h2⟩
        · exact .inl ⟨s, by omega, h2, h3⟩
        · refine .inr ⟨fun s hs => ?_, h2⟩
          by_cases e2 : s = k
          · subst e2; exact fun h => e h.symm
          · exact h1 s (by omega)
  unfold takenF
  rw [hrl]
  rcases hval (t + 1) (Nat.le_refl _) with ⟨s, h1, h2, h3⟩ | ⟨h1, h2⟩
  · exact .inl ⟨s, by omega, h2, h3⟩
  · exact .inr ⟨fun s hs => h1 s (by omega), h2⟩
/-- A turn of the list is a turn. -/
theorem turn_of {w : Wi} (hw : Wish w) {m : List Int} (hs : stableB w m = true) {ring : List Int} (hr : ring ∈ turnsF w m) : ∃ (t : Nat) (x b : Nat → Nat), Turn (sidesW w hw) (Has m) t x b ∧ (∀ s, s ≤ t → x s < w.L.length) ∧ ring = (List.range (t + 1)).map (fun s => (x s : Int)) := by
  have hm := stab_of hs
  have hml := hm.len
  unfold turnsF at hr
  obtain ⟨a, ha, hr⟩ := List.mem_filterMap.1 hr
  have ha' := List.mem_range.1 ha
  obtain ⟨t, _, rfl, hback, hgt⟩ := ringF_mem hr
  generalize hz : itZ (nextZ w m) (a : Int) = z at *
  have z0 : z 0 = a := by rw [← hz]; rfl
  have zs : ∀ s, z (s + 1) = nextF w m (z s).toNat := fun s => by rw [← hz]; rfl
  have hnn : ∀ s, s ≤ t + 1 → 0 ≤ z s := by
    intro s hs
    cases s with
    | zero => rw [z0]; omega
    | succ s =>
      by_cases e : s = t
      · subst e; rw [hback]; omega
      · have := hgt s (by omega); omega
  have hnat : ∀ s, s ≤ t + 1 → ((z s).toNat : Int) = z s := fun s hs => by have := hnn s hs; omega
  have hlt : ∀ s, s ≤ t + 1 → (z s).toNat < w.L.length := by
    intro s
    induction s with
    | zero => intro _; rw [z0]; simpa using ha'
    | succ s ih =>
      intro h
      have hi := ih (by omega)
      obtain ⟨c, b, _, _, _, hj, _⟩ := nextF_more hw hm hi (j := (z (s + 1)).toNat) (by rw [hnat _ h, zs s])
      exact hj
  have hstep : ∀ s, s ≤ t → ∃ c b : Nat, m.getD (z s).toNat 0 = c ∧ b < w.L.length ∧ pairB w (z s).toNat b = true ∧ (z (s + 1)).toNat < w.L.length ∧ m.getD (z (s + 1)).toNat 0 = b ∧ placeI (row w.L (z s).toNat) c < placeI (row w.L (z s).toNat) b ∧ placeI (row w.R b) (z s).toNat < placeI (row w.R b) (z (s + 1)).toNat ∧
      ∀ d : Nat, pairB w (z s).toNat d = true → d < w.L.length → placeI (row w.L (z s).toNat) c < placeI (row w.L (z s).toNat) d → placeI (row w.L (z s).toNat) d < placeI (row w.L (z s).toNat) b → ∃ a' : Nat, a' < w.L.length ∧ m.getD a' 0 = d ∧ placeI (row w.R d) a' ≤ placeI (row w.R d) (z s).toNat := fun s hs =>
    nextF_more hw hm (hlt s (by omega)) (by rw [hnat _ (by omega), zs s])
  have hinj : ∀ p q, p ≤ t → q ≤ t → z p = z q → p = q := by
    have key : ∀ p q, p < q → q ≤ t → z p = z q → False := by
      intro p q hpq hq he
      rw [← hz] at he
      have := itZ_same he (t + 1 - q)
      rw [hz, show q + (t + 1 - q) = t + 1 by omega, hback] at this
      have h2 := hgt (p + (t + 1 - q) - 1) (by omega)
      rw [show p + (t + 1 - q) - 1 + 1 = p + (t + 1 - q) by omega, this] at h2
      omega
    intro p q hp hq he
    rcases Nat.lt_trichotomy p q with h | h | h
    · exact (key p q h hq he).elim
    · exact h
    · exact (key q p h hp he.symm).elim
  refine ⟨t, fun s => (z s).toNat, fun s => (m.getD (z (s + 1)).toNat 0).toNat, ⟨by show (z (t + 1)).toNat = (z 0).toNat; rw [hback, z0], fun p q hp hq e => hinj p q hp hq (by have := hnat p (by omega); have := hnat q (by omega); have e9 : (z p).toNat = (z q).toNat := e; omega), fun s hs => ?_, fun s hs => ?_, fun s hs c hc => ?_, fun s hs => ?_, fun s hs c d hc hd h1 h2 => ?_⟩, fun s hs => hlt s (by omega), ?_⟩
  · obtain ⟨c, b, h1, h2, h3, h4, h5, h6, h7, h8⟩ := hstep s hs
    rw [h5, Int.toNat_natCast]
    exact ⟨hlt s (by omega), h2, h3⟩
  · obtain ⟨c, b, h1, h2, h3, h4, h5, h6, h7, h8⟩ := hstep s hs
    rw [h5, Int.toNat_natCast]
    exact ⟨by show (z (s + 1)).toNat < m.length; omega, h5⟩
  · obtain ⟨c', b, h1, h2, h3, h4, h5, h6, h7, h8⟩ := hstep s hs
    rw [h5, Int.toNat_natCast]
    have : c' = c := by have h9 : m.getD (z s).toNat 0 = (c : Int) := hc.2; omega
    subst this
    exact h6
  · obtain ⟨c', b, h1, h2, h3, h4, h5, h6, h7, h8⟩ := hstep s hs
    rw [h5, Int.toNat_natCast]
    exact h7
  · obtain ⟨c', b, e1, e2, e3, e4, e5, e6, e7, e8⟩ := hstep s hs
    have : c' = c := by have h9 : m.getD (z s).toNat 0 = (c : Int) := hc.2; omega
    subst this
    rw [e5, Int.toNat_natCast] at h2
    obtain ⟨a', a1, a2, a3⟩ := e8 d hd.2.2 hd.2.1 h1 h2
    exact ⟨a', ⟨by omega, a2⟩, a3⟩
  · refine List.map_congr_left fun s hs => ?_
    have := List.mem_range.1 hs
    exact (hnat s (by omega)).symm
/-- Places of those whom all have, summed. -/
def lowN (w : Wi) (m : List Int) (i : Nat) : Nat := if m.getD i 0 < 0 then 0 else (placeI (row w.L i) (m.getD i 0)).toNat
def lowS (w : Wi) (m : List Int) : Nat := sumS (lowN w m) w.L.length
theorem sumS_mono {f g : Nat → Nat} : ∀ {n : Nat}, (∀ i, i < n → f i ≤ g i) → sumS f n ≤ sumS g n
  | 0, _ => Nat.le_refl _
  | n + 1, h => by
    rw [sumS, sumS]
    have := sumS_mono (n := n) (fun i hi => h i (by omega))
    have := h n (by omega)
    omega
theorem sumS_more {f g : Nat → Nat} {q : Nat} : ∀ {n : Nat}, q < n → (∀ i, i < n → f i ≤ g i) → f q < g q → sumS f n < sumS g n
  | 0, h, _, _ => by omega
  | n + 1, h, h1, h2 => by
    rw [sumS, sumS]
    have h3 := h1 n (by omega)
    by_cases e : q = n
    · subst e
      have := sumS_mono (n := q) (fun i hi => h1 i (by omega))
      omega
    · have := sumS_more (n := n) (by omega) (fun i hi => h1 i (by omega)) h2
      omega
theorem row_le {w : Wi} (hw : Wish w) {i : Nat} (hi : i < w.L.length) : (row w.L i).length ≤ w.L.length := by
  obtain ⟨h1, h2⟩ := hw.left _ (row_mem hi)
  refine Classical.byContradiction fun hn => ?_
  obtain ⟨p, q, h3, h4, h5⟩ := ph_two w.L.length (fun k => ((row w.L i).getD k 0).toNat) (fun k hk => by
    have := h1 ((row w.L i).getD k 0) (getD_mem (by omega))
    omega)
  have hp : p < (row w.L i).length := by omega
  have hq : q < (row w.L i).length := by omega
  have a1 := h1 _ (getD_mem hp)
  have a2 := h1 _ (getD_mem hq)
  have e : (row w.L i).getD p 0 = (row w.L i).getD q 0 := by have h9 : ((row w.L i).getD p 0).toNat = ((row w.L i).getD q 0).toNat := h5; omega
  rw [getD_eq hp, getD_eq hq] at e
  have := nodup_inj h2 hp hq e
  omega
theorem low_bd {w : Wi} (hw : Wish w) {m : List Int} (hm : Mat w m) : lowS w m + w.L.length ≤ w.L.length * w.L.length := by
  have key : ∀ n, (∀ i, i < n → lowN w m i + 1 ≤ w.L.length) → sumS (lowN w m) n + n ≤ n * w.L.length := by
    intro n
    induction n with
    | zero => intro _; simp [sumS]
    | succ n ih =>
      intro h
      have h1 := ih (fun i hi => h i (by omega))
      have h2 := h n (by omega)
      rw [sumS, Nat.add_mul]
      omega
  refine key _ fun i hi => ?_
  have hn := hw.n1
  have hml := hm.len
  unfold lowN
  rcases hm.val i (by omega) with h | ⟨b, h, _, hp⟩
  · rw [h]; simp; omega
  · rw [h, if_neg (by omega)]
    simp only [pairB, Bool.and_eq_true] at hp
    have := placeI_in hp.1
    have := (placeI_bd (row w.L i) b).1
    have := row_le hw hi
    omega
/-- A turn leads to a stable match, all of whose places are no less and some greater. -/
theorem taken_stable {w : Wi} (hw : Wish w) {m : List Int} (hs : stableB w m = true) {ring : List Int} (hr : ring ∈ turnsF w m) : stableB w (takenF m ring) = true ∧ lowS w m < lowS w (takenF m ring) := by
  have hm := stab_of hs
  have hml := hm.len
  obtain ⟨t, x, b, hT, hx, hR⟩ := turn_of hw hs hr
  have hv := fun (y : Nat) (hy : y < m.length) => taken_val (m := m) (t := t) (x := x) (fun s hs => by have := hx s hs; omega) hT.inj hT.back hR hy
  have hlen : (takenF m ring).length = m.length := takenN_len _ _ _
  have hh : Has (takenF m ring) = TurnR (Has m) t x b := by
    funext a k
    refine propext ⟨fun ⟨h1, h2⟩ => ?_, fun h => ?_⟩
    · rw [hlen] at h1
      rcases hv a h1 with ⟨s, s1, rfl, s3⟩ | ⟨s1, s2⟩
      · refine .inl ⟨s, s1, rfl, ?_⟩
        have := (hT.own s s1).2
        omega
      · exact .inr ⟨s1, h1, by rw [← s2]; exact h2⟩
    · rcases h with ⟨s, s1, rfl, rfl⟩ | ⟨n1, h1, h2⟩
      · have hxs := hx s s1
        refine ⟨by rw [hlen]; omega, ?_⟩
        rcases hv (x s) (by omega) with ⟨s', s2, s3, s4⟩ | ⟨s2, _⟩
        · have := hT.inj s s' s1 s2 s3
          subst this
          rw [s4]; exact (hT.own s s1).2
        · exact absurd rfl (s2 s s1)
      · refine ⟨by rw [hlen]; exact h1, ?_⟩
        rcases hv a h1 with ⟨s, s1, s2, _⟩ | ⟨_, s2⟩
        · exact absurd s2 (n1 s s1)
        · rw [s2]; exact h2
  have hstab : stableB w (takenF m ring) = true := by
    refine stable_of hw (by rw [hlen, hml]) (fun i hi => ?_) ?_
    · rw [hlen] at hi
      rcases hv i hi with ⟨s, s1, _, s3⟩ | ⟨_, s2⟩
      · rw [s3, (hT.own s s1).2]; exact .inr ⟨_, rfl⟩
      · rw [s2]; exact (hm.val i hi).imp id fun ⟨b, hb, _⟩ => ⟨b, hb⟩
    · rw [hh]; exact turn_sm (sm_of hw hs) hT
  refine ⟨hstab, ?_⟩
  have big : ∀ s, s ≤ t → lowN w m (x s) < lowN w (takenF m ring) (x s) := fun s s1 => by
    have hxs := hx s s1
    obtain ⟨r, hr1, hr2⟩ := hT.pre s1
    have hown : Has m (x s) (b r) := by rw [← hr2]; exact hT.own r hr1
    have hnew : Has (takenF m ring) (x s) (b s) := by rw [hh]; exact .inl ⟨s, s1, rfl, rfl⟩
    have hfar := hT.far s s1 _ hown
    unfold lowN
    rw [hown.2, hnew.2, if_neg (by omega), if_neg (by omega)]
    have h1 := (placeI_bd (row w.L (x s)) (b r)).1
    have : placeI (row w.L (x s)) (b r) < placeI (row w.L (x s)) (b s) := hfar
    omega
  refine sumS_more (q := x 0) (hx 0 (by omega)) (fun i hi => ?_) (big 0 (by omega))
  rcases hv i (by omega) with ⟨s, s1, rfl, _⟩ | ⟨_, s2⟩
  · have := big s s1; omega
  · unfold lowN; rw [s2]; exact Nat.le_refl _
theorem takeTurn_yes {w : Wi} (hw : wishB w = true) {m : List Int} (hs : stableB w m = true) {ring : List Int} (hr : ring ∈ turnsF w m) : takeTurnF w m ring = some (takenF m ring) := by
  unfold takeTurnF
  rw [hw, hs, List.contains_iff_mem.2 hr]; rfl
theorem itZ_nat {g : Int → Int} {f : Nat → Nat} {A : Nat → Prop} (hA : ∀ i, A i → A (f i)) (hg : ∀ i, A i → g (i : Int) = (f i : Int)) {a : Nat} (ha : A a) : ∀ k, itZ g (a : Int) k = (itN f a k : Int)
  | 0 => rfl
  | k + 1 => by rw [itZ, itZ_nat hA hg ha k, hg _ (itN_in hA ha k)]; rfl
/-- Where no turn is left, all on the right have whom they like best. -/
theorem no_turn {w : Wi} (hw : Wish w) {m : List Int} (hs : stableB w m = true) {Z : Nat → Nat → Prop} (hz : LastR (sidesW w hw) Z) (ht : turnsF w m = []) : ∀ a b, Z a b → Has m a b := by
  have hm := stab_of hs
  have hml := hm.len
  have sm := sm_of hw hs
  intro a b hab
  refine Classical.byContradiction fun hn => ?_
  let D : Nat → Prop := fun a => ∃ b, Z a b ∧ ¬ Has m a b
  let f : Nat → Nat := fun a => (nextF w m a).toNat
  have hDn : ∀ a, D a → a < w.L.length := fun a ⟨b, hb, _⟩ => (hz.1.p a b hb).1
  have step : ∀ a, D a → nextF w m a = ((nextF w m a).toNat : Int) ∧ D (nextF w m a).toNat := by
    rintro a ⟨b, hab, hn⟩
    have han := hDn a ⟨b, hab, hn⟩
    obtain ⟨c, hc, hcb, ⟨a', ha', hlike⟩, hnext⟩ := next_there sm hz hab hn
    obtain ⟨_, hbn, hpab⟩ := hz.1.p a b hab
    have hpab2 := hpab
    simp only [pairB, Bool.and_eq_true] at hpab2
    have hcP := (sm.p a c hc).2.2
    simp only [pairB, Bool.and_eq_true] at hcP
    obtain ⟨p, p1, p2, p3⟩ := place_idx hcP.1
    obtain ⟨q, q1, q2, q3⟩ := place_idx hpab2.1
    have hpq : p < q := by
      have : placeI (row w.L a) c < placeI (row w.L a) b := hcb
      omega
    have hnd := (hw.left _ (row_mem han)).2
    have hrng := (hw.left _ (row_mem han)).1
    have hbd : ((row w.L a).drop (p + 1))[q - (p + 1)]? = some (b : Int) := by rw [List.getElem?_drop, show p + 1 + (q - (p + 1)) = q by omega, get_of_lt q1, q2]
    have hnb : (containsI (row w.R ((b : Int)).toNat) a && dearB (row w.R ((b : Int)).toNat) a (backF m ((b : Int)).toNat)) = true := by
      rw [Int.toNat_natCast, hpab2.2, back_here hm ha'.1 ha'.2]
      have : placeI (row w.R b) a < placeI (row w.R b) a' := hlike
      simp only [dearB, Bool.true_and, Bool.or_eq_true, decide_eq_true_eq]
      exact .inr this
    cases hf : ((row w.L a).drop (p + 1)).find? (fun b => containsI (row w.R b.toNat) a && dearB (row w.R b.toNat) a (backF m b.toNat)) with
    | none =>
      have := List.find?_eq_none.1 hf _ (List.mem_of_getElem? hbd)
      exact absurd hnb this
    | some b' =>
      obtain ⟨hpb, us, bs, hsp, has⟩ := List.find?_eq_some_iff_append.1 hf
      simp only [Bool.and_eq_true] at hpb
      have hbm : b' ∈ row w.L a := List.mem_of_mem_drop (by rw [hsp]; simp)
      obtain ⟨hb1, hb2⟩ := hrng _ hbm
      obtain ⟨b', rfl⟩ : ∃ x : Nat, b' = x := ⟨b'.toNat, by omega⟩
      simp only [Int.toNat_natCast] at hpb
      have hbi : (row w.L a)[p + 1 + us.length]? = some (b' : Int) := by
        rw [← List.getElem?_drop, hsp]; simp
      have hplb := place_at hnd hbi
      have hle : p + 1 + us.length ≤ q := by
        refine Classical.byContradiction fun hgt => ?_
        rw [hsp, List.getElem?_append_left (by omega)] at hbd
        have := has _ (List.mem_of_getElem? hbd)
        rw [hnb] at this
        cases this
      have hpair : pairB w a b' = true := by unfold pairB; rw [containsI_iff.2 hbm, hpb.1]; rfl
      obtain ⟨x, hx, hDx⟩ := hnext b' ⟨han, by omega, hpair⟩ (by show placeI _ _ < placeI _ _; omega) (by show placeI _ _ ≤ placeI _ _; omega) (fun a2 ha2 => by
        have := hpb.2
        rw [back_here hm ha2.1 ha2.2] at this
        simp only [dearB, Bool.or_eq_true, decide_eq_true_eq] at this
        show placeI _ _ < placeI _ _
        omega)
      have hnx : nextF w m a = x := by
        unfold nextF
        rw [hc.2, if_neg (by omega), p3, Int.toNat_natCast, hf]
        simp only [Int.toNat_natCast]
        exact back_here hm hx.1 hx.2
      rw [hnx]
      exact ⟨by simp, by simpa using hDx⟩
  obtain ⟨y, p, hy, hp1, hpn, hpy, hmin⟩ := comes_back (n := w.L.length) (A := D) hDn (f := f) (fun i hi => (step i hi).2) (x := a) ⟨b, hab, hn⟩
  have hit := itZ_nat (g := nextZ w m) (f := f) (A := D) (fun i hi => (step i hi).2) (fun i hi => by
    show nextF w m ((i : Int)).toNat = _
    rw [Int.toNat_natCast]
    exact (step i hi).1) hy
  -- the first time that it is back
  obtain ⟨t0, h1, h2, h3⟩ : ∃ t0, t0 ≤ p - 1 ∧ itN f y (t0 + 1) = y ∧ ∀ s, s < t0 → itN f y (s + 1) ≠ y := by
    have : ∀ k, itN f y (k + 1) = y → ∃ t0, t0 ≤ k ∧ itN f y (t0 + 1) = y ∧ ∀ s, s < t0 → itN f y (s + 1) ≠ y := by
      intro k
      induction k using Nat.strongRecOn with
      | _ k ih =>
        intro hk
        by_cases hx : ∃ s, s < k ∧ itN f y (s + 1) = y
        · obtain ⟨s, s1, s2⟩ := hx
          obtain ⟨t0, g1, g2, g3⟩ := ih s s1 s2
          exact ⟨t0, by omega, g2, g3⟩
        · exact ⟨k, Nat.le_refl _, hk, fun s s1 s2 => hx ⟨s, s1, s2⟩⟩
    exact this (p - 1) (by rw [show p - 1 + 1 = p by omega]; exact hpy)
  have hring : ringF (nextZ w m) (y : Int) w.L.length = some ((List.range (t0 + 1)).map (itZ (nextZ w m) (y : Int))) := by
    rw [ringF_hit (t := t0) (by omega) (by rw [hit, h2]; exact Int.le_refl _) (fun s hs => by
      have g1 := hmin (s + 1)
      have g2 := h3 s hs
      rw [hit]; omega), if_pos (by rw [hit, h2])]
  have : ((List.range (t0 + 1)).map (itZ (nextZ w m) (y : Int))) ∈ turnsF w m := List.mem_filterMap.2 ⟨y, List.mem_range.2 (hDn y hy), hring⟩
  rw [ht] at this
  simp at this
end Go.Proofs.Ytchfibmndcfpiaa
namespace Go.Proofs.Ytchfibmndcfpiaa
set_option linter.unusedVariables false
set_option linter.unusedSimpArgs false
open Go.RowKit

def seatsB (w : Wi) (seats : List Int) : Bool := wishB w && manyB seats w.L.length w.L.length 0 8
/-- Those below t who have k. -/
def hasN (m : List Int) (k : Nat) : Nat → List Int
  | 0 => []
  | t + 1 => if m.getD t 0 = (k : Int) then hasN m k t ++ [(t : Int)] else hasN m k t
def hasL (m : List Int) (k : Nat) : List Int := hasN m k m.length
theorem hasN_mem {m : List Int} {k : Nat} {x : Int} : ∀ {t : Nat}, x ∈ hasN m k t ↔ ∃ i : Nat, x = i ∧ i < t ∧ m.getD i 0 = k
  | 0 => by simp [hasN]
  | t + 1 => by
    rw [hasN]
    split
    case isTrue h =>
      rw [List.mem_append, hasN_mem (t := t), List.mem_singleton]
      constructor
      · rintro (⟨i, h1, h2, h3⟩ | h1)
        · exact ⟨i, h1, by omega, h3⟩
        · exact ⟨t, h1, by omega, h⟩
      · rintro ⟨i, h1, h2, h3⟩
        by_cases e : i = t
        · subst e; exact .inr h1
        · exact .inl ⟨i, h1, by omega, h3⟩
    case isFalse h =>
      rw [hasN_mem (t := t)]
      constructor
      · rintro ⟨i, h1, h2, h3⟩; exact ⟨i, h1, by omega, h3⟩
      · rintro ⟨i, h1, h2, h3⟩
        by_cases e : i = t
        · subst e; exact absurd h3 h
        · exact ⟨i, h1, by omega, h3⟩
theorem hasN_len (m : List Int) (k : Nat) : ∀ t, (hasN m k t).length ≤ t
  | 0 => by simp [hasN]
  | t + 1 => by
    rw [hasN]
    have := hasN_len m k t
    split
    · simp; omega
    · omega
def fullB (w : Wi) (seats m : List Int) : Bool := (List.range w.L.length).all fun k => decide (((hasL m k).length : Int) ≤ seats.getD k 0)
def sblocksI (w : Wi) (seats m : List Int) (a b : Nat) : Bool := pairB w a b && dearI (row w.L a) b (m.getD a 0) && (decide (((hasL m b).length : Int) < seats.getD b 0) || (hasL m b).any fun j => dearI (row w.R b) a j)
def rivalB (w : Wi) (m : List Int) (a b : Nat) (i : Nat) : Bool := decide (m.getD i 0 = (b : Int)) && dearB (row w.R b) a i
def sblocksR (w : Wi) (seats m : List Int) (a b : Nat) : Bool := pairB w a b && (!decide (m.getD a 0 = (b : Int))) && dearB (row w.L a) b (m.getD a 0) && (decide (((hasL m b).length : Int) < seats.getD b 0) || (List.range m.length).any (rivalB w m a b))
theorem rivals_eq (w : Wi) (m : List Int) (a b : Nat) : ((hasL m b).any fun j => dearI (row w.R b) a j) = (List.range m.length).any (rivalB w m a b) := by
  rw [Bool.eq_iff_iff, List.any_eq_true, List.any_eq_true]
  have hd : ∀ i : Nat, dearB (row w.R b) a i = dearI (row w.R b) a i := fun i => by
    have h3 : decide ((i : Int) < 0) = false := decide_eq_false (by omega)
    simp [dearI, dearB, h3]
  constructor
  · rintro ⟨x, hx, h⟩
    obtain ⟨i, rfl, hi, he⟩ := hasN_mem.1 hx
    refine ⟨i, List.mem_range.2 hi, ?_⟩
    unfold rivalB
    rw [decide_eq_true he, hd, h]; rfl
  · rintro ⟨i, hi, h⟩
    unfold rivalB at h
    rw [Bool.and_eq_true, decide_eq_true_eq, hd] at h
    exact ⟨i, hasN_mem.2 ⟨i, rfl, List.mem_range.1 hi, h.1⟩, h.2⟩
theorem sblocks_eq {w : Wi} (hw : Wish w) {seats m : List Int} (hp : partnersB w m = true) {a b : Nat} (ha : a < w.L.length) : sblocksI w seats m a b = sblocksR w seats m a b := by
  obtain ⟨h1, h2⟩ := partners_iff.1 hp
  unfold sblocksI sblocksR
  rw [rivals_eq]
  cases hq : pairB w a b with
  | false => rfl
  | true =>
    have hq' := hq
    simp only [pairB, Bool.and_eq_true] at hq'
    rw [dear_left hw (fun i hi => (h2 i hi).imp id fun ⟨c, hc, _⟩ => ⟨c, hc⟩) h1 ha hq'.1]
    simp [Bool.and_assoc]
def schoolF (w : Wi) (seats m : List Int) : Option (Nat × Nat) := if seatsB w seats && partnersB w m && fullB w seats m then first2 w.L.length (sblocksI w seats m) else none
theorem school_eqR {w : Wi} (hw : Wish w) {seats m : List Int} (hp : partnersB w m = true) : first2 w.L.length (sblocksI w seats m) = first2 w.L.length (sblocksR w seats m) := first2_congr fun _ _ ha _ => sblocks_eq hw hp ha
/-- The reference's test of partners. -/
def partR (w : Wi) (m : List Int) (i : Nat) : Bool := decide (m.getD i 0 = -1) || (inB (m.getD i 0) 0 (m.length - 1) && pairB w i (m.getD i 0).toNat)
theorem partners_eqR {w : Wi} {m : List Int} (hl : m.length = w.L.length) : partnersB w m = (List.range m.length).all (partR w m) := by
  rw [Bool.eq_iff_iff, partners_iff, List.all_eq_true]
  constructor
  · rintro ⟨_, h2⟩ i hi
    unfold partR
    rcases h2 i (List.mem_range.1 hi) with h | ⟨b, h, hb, hp⟩
    · rw [decide_eq_true h, Bool.true_or]
    · rw [h, inB_iff.2 ⟨by omega, by omega⟩, Int.toNat_natCast, hp]; simp
  · intro h
    refine ⟨hl, fun i hi => ?_⟩
    have := h i (List.mem_range.2 hi)
    unfold partR at this
    simp only [Bool.or_eq_true, decide_eq_true_eq, Bool.and_eq_true, inB_iff] at this
    rcases this with h | ⟨⟨h1, h2⟩, h3⟩
    · exact .inl h
    · exact .inr ⟨(m.getD i 0).toNat, by omega, by omega, h3⟩
theorem partners_len {w : Wi} {m : List Int} (hl : m.length ≠ w.L.length) : partnersB w m = false := by simp [partnersB, hl]
/-- The sum of places. -/
def sumPl (w : Wi) (m : List Int) : Nat → Int
  | 0 => 0
  | k + 1 => if m.getD k 0 < 0 then sumPl w m k else sumPl w m k + (placeI (row w.L k) (m.getD k 0) + placeI (row w.R (m.getD k 0).toNat) k)
abbrev BestM := Option (List Int × Int)
def fairStep (w : Wi) (b : BestM) (m : List Int) : BestM := match b with
  | none => some (m, sumPl w m m.length)
  | some (c, l) => if sumPl w m m.length < l then some (m, sumPl w m m.length) else some (c, l)
def fairF (w : Wi) : BestM := if wishB w && decide (w.L.length ≤ 5) then (allStabF w).foldl (fairStep w) none else none
theorem fairStep_some (w : Wi) (b : BestM) (m : List Int) : ∃ p, fairStep w b m = some p := by
  unfold fairStep
  split
  · exact ⟨_, rfl⟩
  · split <;> exact ⟨_, rfl⟩
end Go.Proofs.Ytchfibmndcfpiaa
namespace Go.Proofs.Ytchfibmndcfpiaa
set_option linter.unusedVariables false
set_option linter.unusedSimpArgs false
open Go.RowKit

/-- Of those below t who have k, the one whom xs has last; -1 for nobody. -/
def worstN (xs m : List Int) (k : Nat) : Nat → Int
  | 0 => -1
  | t + 1 => if m.getD t 0 = (k : Int) ∧ (worstN xs m k t < 0 ∨ placeI xs (worstN xs m k t) < placeI xs t) then (t : Int) else worstN xs m k t
theorem worstN_spec {xs m : List Int} {k : Nat} : ∀ {t : Nat}, (worstN xs m k t = -1 ∧ ∀ j, j < t → m.getD j 0 ≠ k) ∨ ∃ j : Nat, worstN xs m k t = j ∧ j < t ∧ m.getD j 0 = k ∧ ∀ i : Nat, i < t → m.getD i 0 = k → placeI xs i ≤ placeI xs j
  | 0 => .inl ⟨rfl, fun j h => by omega⟩
  | t + 1 => by
    rw [worstN]
    by_cases hm : m.getD t 0 = (k : Int)
    · rcases worstN_spec (xs := xs) (m := m) (k := k) (t := t) with ⟨h1, h2⟩ | ⟨j, h1, h2, h3, h4⟩
      · rw [if_pos ⟨hm, .inl (by omega)⟩]
        refine .inr ⟨t, rfl, by omega, hm, fun i hi hk => ?_⟩
        by_cases e : i = t
        · subst e; exact Int.le_refl _
        · exact absurd hk (h2 i (by omega))
      · rw [h1]
        by_cases hlt : placeI xs j < placeI xs t
        · rw [if_pos ⟨hm, .inr hlt⟩]
          refine .inr ⟨t, rfl, by omega, hm, fun i hi hk => ?_⟩
          by_cases e : i = t
          · subst e; exact Int.le_refl _
          · have := h4 i (by omega) hk; omega
        · rw [if_neg (by rintro ⟨_, h | h⟩ <;> omega)]
          refine .inr ⟨j, rfl, by omega, h3, fun i hi hk => ?_⟩
          by_cases e : i = t
          · subst e; omega
          · exact h4 i (by omega) hk
    · rw [if_neg (fun h => hm h.1)]
      rcases worstN_spec (xs := xs) (m := m) (k := k) (t := t) with ⟨h1, h2⟩ | ⟨j, h1, h2, h3, h4⟩
      · refine .inl ⟨h1, fun j hj => ?_⟩
        by_cases e : j = t
        · subst e; exact hm
        · exact h2 j (by omega)
      · refine .inr ⟨j, h1, by omega, h3, fun i hi hk => ?_⟩
        by_cases e : i = t
        · subst e; exact absurd hk hm
        · exact h4 i (by omega) hk
/-- The reference's way to it. -/
def worstRN (xs m : List Int) (k at0 : Nat) : Nat → Int
  | 0 => at0
  | t + 1 => if m.getD t 0 = (k : Int) ∧ placeI xs (worstRN xs m k at0 t) < placeI xs t then (t : Int) else worstRN xs m k at0 t
theorem worstRN_spec {xs m : List Int} {k at0 : Nat} (h0 : m.getD at0 0 = k) : ∀ {t : Nat}, ∃ j : Nat, worstRN xs m k at0 t = j ∧ (j < t ∨ j = at0) ∧ m.getD j 0 = k ∧ placeI xs at0 ≤ placeI xs j ∧ ∀ i : Nat, i < t → m.getD i 0 = k → placeI xs i ≤ placeI xs j
  | 0 => ⟨at0, rfl, .inr rfl, h0, Int.le_refl _, fun i h => by omega⟩
  | t + 1 => by
    obtain ⟨j, h1, h2, h3, h4, h5⟩ := worstRN_spec (xs := xs) h0 (t := t)
    rw [worstRN, h1]
    by_cases hc : m.getD t 0 = (k : Int) ∧ placeI xs j < placeI xs t
    · rw [if_pos hc]
      refine ⟨t, rfl, .inl (by omega), hc.1, by omega, fun i hi hk => ?_⟩
      by_cases e : i = t
      · subst e; exact Int.le_refl _
      · have := h5 i (by omega) hk; omega
    · rw [if_neg hc]
      refine ⟨j, rfl, by omega, h3, h4, fun i hi hk => ?_⟩
      by_cases e : i = t
      · subst e
        refine Classical.byContradiction fun hn => hc ⟨hk, by omega⟩
      · exact h5 i (by omega) hk
theorem worst_same {xs m : List Int} {k at0 t : Nat} (h0 : m.getD at0 0 = k) (ha : at0 < t) (hin : ∀ i : Nat, i < t → m.getD i 0 = k → containsI xs i = true) : worstRN xs m k at0 t = worstN xs m k t := by
  obtain ⟨j, h1, h2, h3, h4, h5⟩ := worstRN_spec (xs := xs) h0 (t := t)
  rcases worstN_spec (xs := xs) (m := m) (k := k) (t := t) with ⟨_, g2⟩ | ⟨i, g1, g2, g3, g4⟩
  · exact absurd h0 (g2 at0 ha)
  · rw [h1, g1]
    have hj : j < t := by omega
    have e1 := g4 j hj h3
    have e2 := h5 i g2 g3
    exact place_inj (hin j hj h3) (hin i g2 g3) (by omega)
/-- Who asks next. -/
def askerI (w : Wi) (m q : List Int) : Int := findI (fun i => decide (m.getD i 0 < 0) && decide (q.getD i 0 < (row w.L i).length)) w.L.length
/-- What the asking of one leads to. -/
def askM (w : Wi) (seats m q : List Int) (i : Nat) : List Int :=
  let k := ((row w.L i).getD (q.getD i 0).toNat 0).toNat
  if containsI (row w.R k) i then
    if seats.getD k 0 < (hasL (m.set i (k : Int)) k).length then (m.set i (k : Int)).set (worstN (row w.R k) (m.set i (k : Int)) k w.L.length).toNat (-1) else m.set i (k : Int)
  else m
def askQ (q : List Int) (i : Nat) : List Int := q.set i (q.getD i 0 + 1)
def askN (w : Wi) (seats : List Int) : Nat → List Int → List Int → List Int × List Int
  | 0, m, q => (m, q)
  | f + 1, m, q => if askerI w m q < 0 then (m, q) else askN w seats f (askM w seats m q (askerI w m q).toNat) (askQ q (askerI w m q).toNat)
/-- How many may still be asked. -/
def leftA (w : Wi) (q : List Int) : Nat := sumS (fun i => ((row w.L i).length - q.getD i 0).toNat) w.L.length
def askE (w : Wi) (seats m q : List Int) : List Int × List Int := askN w seats (leftA w q + 1) m q
theorem leftA_step {w : Wi} {q : List Int} {i : Nat} (hq : q.length = w.L.length) (hi : i < w.L.length) (h0 : 0 ≤ q.getD i 0) (h1 : q.getD i 0 < (row w.L i).length) : leftA w (askQ q i) < leftA w q := by
  unfold leftA
  refine sumS_more (q := i) hi (fun j hj => ?_) ?_
  · by_cases e : j = i
    · subst e
      unfold askQ
      rw [show (q.set j (q.getD j 0 + 1)).getD j 0 = q.getD j 0 + 1 by simp [List.getD, List.getElem?_set, hq, hj]]
      omega
    · unfold askQ
      rw [show (q.set i (q.getD i 0 + 1)).getD j 0 = q.getD j 0 by simp [List.getD, List.getElem?_set, Ne.symm e]]
      exact Nat.le_refl _
  · unfold askQ
    rw [show (q.set i (q.getD i 0 + 1)).getD i 0 = q.getD i 0 + 1 by simp [List.getD, List.getElem?_set, hq, hi]]
    omega
theorem asker_spec (w : Wi) (m q : List Int) : (∃ i : Nat, askerI w m q = i ∧ i < w.L.length ∧ m.getD i 0 < 0 ∧ q.getD i 0 < (row w.L i).length) ∨ (askerI w m q = -1 ∧ ∀ i, i < w.L.length → m.getD i 0 < 0 → (row w.L i).length ≤ q.getD i 0) := by
  rcases findI_spec (fun i => decide (m.getD i 0 < 0) && decide (q.getD i 0 < (row w.L i).length)) w.L.length with ⟨k, h1, h2, h3, h4⟩ | ⟨h1, h2⟩
  · simp only [Bool.and_eq_true, decide_eq_true_eq] at h2
    exact .inl ⟨k, h4, h1, h2.1, h2.2⟩
  · refine .inr ⟨h2, fun i hi hm => ?_⟩
    have := h1 i hi
    simp only [Bool.and_eq_false_iff, decide_eq_false_iff_not] at this
    omega
/-- Lists of numbers below n, and how many were asked. -/
structure Asks (w : Wi) (m q : List Int) : Prop where
  lm : m.length = w.L.length
  lq : q.length = w.L.length
  q0 : ∀ i, i < w.L.length → 0 ≤ q.getD i 0 ∧ q.getD i 0 ≤ (row w.L i).length
  val : ∀ i, i < w.L.length → m.getD i 0 = -1 ∨ (1 ≤ q.getD i 0 ∧ m.getD i 0 = (row w.L i).getD (q.getD i 0 - 1).toNat 0 ∧ ∃ k : Nat, m.getD i 0 = k ∧ k < w.L.length ∧ pairB w i k = true)
theorem getD_set_eq {m : List Int} {i : Nat} (h : i < m.length) (x : Int) : (m.set i x).getD i 0 = x := by simp [List.getD, List.getElem?_set, h]
theorem getD_set_ne' {m : List Int} {i j : Nat} (h : i ≠ j) (x : Int) : (m.set i x).getD j 0 = m.getD j 0 := by simp [List.getD, List.getElem?_set, h]
/-- Whom one asks. -/
theorem asked_k {w : Wi} (hw : Wish w) {i : Nat} (hi : i < w.L.length) {p : Nat} (hp : p < (row w.L i).length) : ∃ k : Nat, (row w.L i).getD p 0 = k ∧ k < w.L.length ∧ containsI (row w.L i) k = true ∧ placeI (row w.L i) k = p := by
  obtain ⟨h1, h2⟩ := hw.left _ (row_mem hi)
  have hm := getD_mem hp
  have := h1 _ hm
  refine ⟨((row w.L i).getD p 0).toNat, by omega, by omega, ?_, ?_⟩
  · rw [containsI_iff, show (((row w.L i).getD p 0).toNat : Int) = (row w.L i).getD p 0 by omega]; exact hm
  · rw [show (((row w.L i).getD p 0).toNat : Int) = (row w.L i).getD p 0 by omega]
    exact place_at h2 (get_of_lt hp)
/-- The three ends of an asking. -/
inductive AskCase (w : Wi) (seats m q : List Int) (i k : Nat) : List Int → Prop
  | no (h : containsI (row w.R k) i = false) : AskCase w seats m q i k m
  | room (h : pairB w i k = true) (hf : ((hasL (m.set i (k : Int)) k).length : Int) ≤ seats.getD k 0) : AskCase w seats m q i k (m.set i (k : Int))
  | full (h : pairB w i k = true) (hf : seats.getD k 0 < ((hasL (m.set i (k : Int)) k).length : Int)) (l : Nat) (hl : l < w.L.length) (hlk : (m.set i (k : Int)).getD l 0 = k) (hmax : ∀ j : Nat, j < w.L.length → (m.set i (k : Int)).getD j 0 = k → placeI (row w.R k) j ≤ placeI (row w.R k) l) (he : worstN (row w.R k) (m.set i (k : Int)) k w.L.length = l) : AskCase w seats m q i k ((m.set i (k : Int)).set l (-1))
theorem ask_case {w : Wi} (hw : Wish w) {seats m q : List Int} (ha : Asks w m q) {i : Nat} (hi : i < w.L.length) (hq : q.getD i 0 < (row w.L i).length) : ∃ k : Nat, (row w.L i).getD (q.getD i 0).toNat 0 = k ∧ k < w.L.length ∧ containsI (row w.L i) k = true ∧ placeI (row w.L i) k = q.getD i 0 ∧ AskCase w seats m q i k (askM w seats m q i) := by
  have h0 := (ha.q0 i hi).1
  obtain ⟨k, h1, h2, h3, h4⟩ := asked_k hw hi (p := (q.getD i 0).toNat) (by omega)
  refine ⟨k, h1, h2, h3, by omega, ?_⟩
  unfold askM
  simp only [h1, Int.toNat_natCast]
  cases hc : containsI (row w.R k) i with
  | false => simp only [Bool.false_eq_true, if_false]; exact .no hc
  | true =>
    have hp : pairB w i k = true := by unfold pairB; rw [h3, hc]; rfl
    simp only [if_true]
    split
    case isTrue hf =>
      rcases worstN_spec (xs := row w.R k) (m := m.set i (k : Int)) (k := k) (t := w.L.length) with ⟨_, g2⟩ | ⟨l, g1, g2, g3, g4⟩
      · exact absurd (getD_set_eq (by rw [ha.lm]; exact hi) _) (g2 i hi)
      · rw [g1, Int.toNat_natCast]
        exact .full hp hf l g2 g3 g4 g1
    case isFalse hf => exact .room hp (by omega)
theorem askQ_at {q : List Int} {i : Nat} (h : i < q.length) : (askQ q i).getD i 0 = q.getD i 0 + 1 := getD_set_eq h _
theorem askQ_ne {q : List Int} {i j : Nat} (h : i ≠ j) : (askQ q i).getD j 0 = q.getD j 0 := getD_set_ne' h _
theorem asks_step {w : Wi} (hw : Wish w) {seats m q : List Int} (ha : Asks w m q) {i : Nat} (hi : i < w.L.length) (hmi : m.getD i 0 < 0) (hq : q.getD i 0 < (row w.L i).length) : Asks w (askM w seats m q i) (askQ q i) := by
  obtain ⟨k, h1, h2, h3, h4, hc⟩ := ask_case hw (seats := seats) ha hi hq
  have hlm := ha.lm
  have hlq := ha.lq
  have hql : (askQ q i).length = w.L.length := by unfold askQ; rw [List.length_set, hlq]
  have hq0 : ∀ j, j < w.L.length → 0 ≤ (askQ q i).getD j 0 ∧ (askQ q i).getD j 0 ≤ (row w.L j).length := fun j hj => by
    by_cases e : i = j
    · subst e; rw [askQ_at (by omega)]; have := ha.q0 i hi; omega
    · rw [askQ_ne e]; exact ha.q0 j hj
  have hold : ∀ j, j < w.L.length → j ≠ i → m.getD j 0 = -1 ∨ (1 ≤ (askQ q i).getD j 0 ∧ m.getD j 0 = (row w.L j).getD ((askQ q i).getD j 0 - 1).toNat 0 ∧ ∃ k : Nat, m.getD j 0 = k ∧ k < w.L.length ∧ pairB w j k = true) := fun j hj e => by
    rw [askQ_ne (Ne.symm e)]; exact ha.val j hj
  have hnew : pairB w i k = true → (1 ≤ (askQ q i).getD i 0 ∧ (k : Int) = (row w.L i).getD ((askQ q i).getD i 0 - 1).toNat 0 ∧ ∃ k' : Nat, (k : Int) = k' ∧ k' < w.L.length ∧ pairB w i k' = true) := fun hp => by
    rw [askQ_at (by omega), show q.getD i 0 + 1 - 1 = q.getD i 0 by omega, h1]
    have := (ha.q0 i hi).1
    exact ⟨by omega, rfl, k, rfl, h2, hp⟩
  generalize askM w seats m q i = m' at hc ⊢
  cases hc with
  | no hc =>
    refine ⟨hlm, hql, hq0, fun j hj => ?_⟩
    by_cases e : j = i
    · subst e
      rcases ha.val j hj with h | ⟨_, _, c, h, _⟩
      · exact .inl h
      · omega
    · exact hold j hj e
  | room hp hf =>
    refine ⟨by rw [List.length_set, hlm], hql, hq0, fun j hj => ?_⟩
    by_cases e : j = i
    · subst e; rw [getD_set_eq (by omega)]; exact .inr (hnew hp)
    · rw [getD_set_ne' (Ne.symm e)]; exact hold j hj e
  | full hp hf l hl hlk hmax he =>
    refine ⟨by rw [List.length_set, List.length_set, hlm], hql, hq0, fun j hj => ?_⟩
    by_cases e2 : j = l
    · subst e2; rw [getD_set_eq (by rw [List.length_set]; omega)]; exact .inl rfl
    · rw [getD_set_ne' (Ne.symm e2)]
      by_cases e : j = i
      · subst e; rw [getD_set_eq (by omega)]; exact .inr (hnew hp)
      · rw [getD_set_ne' (Ne.symm e)]; exact hold j hj e
theorem askN_enough {w : Wi} (hw : Wish w) {seats : List Int} : ∀ {f g : Nat} {m q : List Int}, Asks w m q → leftA w q < f → leftA w q < g → askN w seats f m q = askN w seats g m q
  | 0, _, _, _, _, h, _ => by omega
  | _ + 1, 0, _, _, _, _, h => by omega
  | f + 1, g + 1, m, q, ha, h1, h2 => by
    rw [askN, askN]
    rcases asker_spec w m q with ⟨i, e, hi, hm, hq⟩ | ⟨e, _⟩
    · rw [e, if_neg (by omega), if_neg (by omega), Int.toNat_natCast]
      have := leftA_step ha.lq hi (ha.q0 i hi).1 hq
      exact askN_enough hw (asks_step hw ha hi hm hq) (by omega) (by omega)
    · rw [e, if_pos (by omega), if_pos (by omega)]
theorem askE_step {w : Wi} (hw : Wish w) {seats m q : List Int} (ha : Asks w m q) {i : Nat} (he : askerI w m q = i) (hi : i < w.L.length) (hm : m.getD i 0 < 0) (hq : q.getD i 0 < (row w.L i).length) : askE w seats m q = askE w seats (askM w seats m q i) (askQ q i) := by
  have := leftA_step ha.lq hi (ha.q0 i hi).1 hq
  unfold askE
  rw [askN, he, if_neg (by omega), Int.toNat_natCast]
  exact askN_enough hw (asks_step hw ha hi hm hq) (by omega) (by omega)
theorem askE_end {w : Wi} {seats m q : List Int} (he : askerI w m q < 0) : askE w seats m q = (m, q) := by
  unfold askE
  rw [askN, if_pos he]
/-- The whole of asking, from the beginning. -/
def askF (w : Wi) (seats : List Int) : List Int × List Int := askE w seats (List.replicate w.L.length (-1)) (List.replicate w.L.length 0)
theorem asks_start (w : Wi) : Asks w (List.replicate w.L.length (-1)) (List.replicate w.L.length 0) := by
  refine ⟨by simp, by simp, fun i hi => ?_, fun i hi => .inl ?_⟩
  · rw [show (List.replicate w.L.length (0 : Int)).getD i 0 = 0 by simp [List.getD, hi]]; omega
  · simp [List.getD, hi]
/-- An invariant that each asking keeps holds at the end. -/
theorem askE_inv {w : Wi} (hw : Wish w) {seats : List Int} {Inv : List Int → List Int → Prop} (hstep : ∀ m q i, Asks w m q → Inv m q → i < w.L.length → m.getD i 0 < 0 → q.getD i 0 < (row w.L i).length → Inv (askM w seats m q i) (askQ q i)) : ∀ (d : Nat) (m q : List Int), leftA w q = d → Asks w m q → Inv m q →
    Asks w (askE w seats m q).1 (askE w seats m q).2 ∧ Inv (askE w seats m q).1 (askE w seats m q).2 ∧ ∀ i, i < w.L.length → (askE w seats m q).1.getD i 0 < 0 → (row w.L i).length ≤ (askE w seats m q).2.getD i 0 := by
  intro d
  induction d using Nat.strongRecOn with
  | _ d ih =>
    intro m q hd ha hI
    rcases asker_spec w m q with ⟨i, e, hi, hm, hq⟩ | ⟨e, h⟩
    · rw [askE_step hw ha e hi hm hq]
      have := leftA_step ha.lq hi (ha.q0 i hi).1 hq
      exact ih _ (by omega) _ _ rfl (asks_step hw ha hi hm hq) (hstep m q i ha hI hi hm hq)
    · rw [askE_end (by omega)]
      exact ⟨ha, hI, h⟩
/-- How often is asked. -/
theorem sum_set (q : List Int) (i : Nat) (h : i < q.length) (x : Int) : (q.set i x).sum = q.sum - q.getD i 0 + x := by
  induction q generalizing i with
  | nil => simp at h
  | cons y q ih =>
    cases i with
    | zero => simp; omega
    | succ i =>
      have := ih i (by simpa using h)
      simp only [List.set_cons_succ, List.sum_cons, List.getD_cons_succ]
      omega
theorem askQ_sum {q : List Int} {i : Nat} (h : i < q.length) : (askQ q i).sum = q.sum + 1 := by
  unfold askQ
  rw [sum_set q i h]
  omega
theorem sum_le (q : List Int) (n : Int) (h : ∀ x ∈ q, 0 ≤ x ∧ x ≤ n) : 0 ≤ q.sum ∧ q.sum ≤ n * q.length := by
  induction q with
  | nil => simp
  | cons y q ih =>
    have h1 := h y (by simp)
    have h2 := ih (fun x hx => h x (by simp [hx]))
    simp only [List.sum_cons, List.length_cons]
    rw [show n * ((q.length + 1 : Nat) : Int) = n * (q.length : Int) + n by rw [Int.natCast_add, Int.mul_add]; simp]
    omega
theorem asks_sum {w : Wi} (hw : Wish w) {m q : List Int} (ha : Asks w m q) : 0 ≤ q.sum ∧ q.sum ≤ (w.L.length : Int) * w.L.length := by
  have := sum_le q w.L.length (fun x hx => by
    obtain ⟨i, hi, rfl⟩ := List.getElem_of_mem hx
    have hi' : i < w.L.length := by rw [← ha.lq]; exact hi
    have h1 := ha.q0 i hi'
    rw [getD_eq hi] at h1
    have := row_le hw hi'
    omega)
  rwa [ha.lq] at this
/-- Who has k, besides one. -/
theorem hasN_set_len {m : List Int} {i : Nat} {x : Int} {k : Nat} (hi : i < m.length) : ∀ t, (hasN (m.set i x) k t).length = (hasN m k t).length - (if i < t ∧ m.getD i 0 = k then 1 else 0) + (if i < t ∧ x = k then 1 else 0)
  | 0 => by simp [hasN]
  | t + 1 => by
    have ih := hasN_set_len (x := x) (k := k) hi t
    have pos : i < t → m.getD i 0 = (k : Int) → 1 ≤ (hasN m k t).length := fun h1 h2 => by
      have : (i : Int) ∈ hasN m k t := hasN_mem.2 ⟨i, rfl, h1, h2⟩
      exact List.length_pos_of_mem this
    rw [hasN, hasN]
    by_cases e : i = t
    · subst e
      rw [getD_set_eq hi]
      have h1 : ¬ (i < i ∧ m.getD i 0 = (k : Int)) := by omega
      have h2 : ¬ (i < i ∧ x = (k : Int)) := by omega
      rw [if_neg h1, if_neg h2] at ih
      generalize hasN (m.set i x) k i = A at *
      generalize hasN m k i = B at *
      generalize m.getD i 0 = y at *
      clear h1 h2 pos
      by_cases hx : x = (k : Int) <;> by_cases hm : y = (k : Int) <;> simp [hx, hm] <;> omega
    · rw [getD_set_ne' e]
      have e1 : (i < t + 1 ∧ m.getD i 0 = (k : Int)) ↔ (i < t ∧ m.getD i 0 = (k : Int)) := by constructor <;> rintro ⟨h1, h2⟩ <;> exact ⟨by omega, h2⟩
      have e2 : (i < t + 1 ∧ x = (k : Int)) ↔ (i < t ∧ x = (k : Int)) := by constructor <;> rintro ⟨h1, h2⟩ <;> exact ⟨by omega, h2⟩
      simp only [e1, e2]
      by_cases hm : m.getD t 0 = (k : Int)
      · rw [if_pos hm, if_pos hm, List.length_append, List.length_append, ih]
        by_cases hc : i < t ∧ m.getD i 0 = (k : Int)
        · have := pos hc.1 hc.2
          rw [if_pos hc]
          simp only [List.length_singleton]
          omega
        · rw [if_neg hc]
          simp only [List.length_singleton]
          omega
      · rw [if_neg hm, if_neg hm, ih]
theorem hasL_set_len {m : List Int} {i : Nat} {x : Int} {k : Nat} (hi : i < m.length) : (hasL (m.set i x) k).length = (hasL m k).length - (if m.getD i 0 = k then 1 else 0) + (if x = k then 1 else 0) := by
  unfold hasL
  rw [List.length_set, hasN_set_len hi]
  simp only [hi, true_and]
/-- What asking keeps, of seats. -/
structure Full (w : Wi) (seats m q : List Int) : Prop where
  seat : ∀ k, k < w.L.length → ((hasL m k).length : Int) ≤ seats.getD k 0
  past : ∀ i, i < w.L.length → ∀ k : Nat, containsI (row w.L i) k = true → placeI (row w.L i) k < q.getD i 0 → m.getD i 0 = k ∨ containsI (row w.R k) i = false ∨ (((hasL m k).length : Int) = seats.getD k 0 ∧ ∀ j : Nat, j < w.L.length → m.getD j 0 = k → placeI (row w.R k) j < placeI (row w.R k) i)
theorem full_start (w : Wi) (seats : List Int) (hs : ∀ k, k < w.L.length → 0 ≤ seats.getD k 0) : Full w seats (List.replicate w.L.length (-1)) (List.replicate w.L.length 0) := by
  refine ⟨fun k hk => ?_, fun i hi k hc hp => ?_⟩
  · have : hasL (List.replicate w.L.length (-1)) k = [] := by
      refine List.eq_nil_iff_forall_not_mem.2 fun x hx => ?_
      obtain ⟨i, _, h2, h3⟩ := hasN_mem.1 hx
      rw [List.length_replicate] at h2
      rw [show (List.replicate w.L.length (-1 : Int)).getD i 0 = -1 by simp [List.getD, h2]] at h3
      omega
    rw [this]; exact hs k hk
  · rw [show (List.replicate w.L.length (0 : Int)).getD i 0 = 0 by simp [List.getD, hi]] at hp
    have := (placeI_bd (row w.L i) k).1
    omega
theorem right_of {w : Wi} {m q : List Int} (ha : Asks w m q) {j k : Nat} (hj : j < w.L.length) (h : m.getD j 0 = k) : containsI (row w.R k) j = true := by
  rcases ha.val j hj with h2 | ⟨_, _, c, h2, _, hp⟩
  · omega
  · have : c = k := by omega
    subst this
    simp only [pairB, Bool.and_eq_true] at hp
    exact hp.2
theorem full_step {w : Wi} (hw : Wish w) {seats m q : List Int} (ha : Asks w m q) (hF : Full w seats m q) {i : Nat} (hi : i < w.L.length) (hmi : m.getD i 0 < 0) (hq : q.getD i 0 < (row w.L i).length) : Full w seats (askM w seats m q i) (askQ q i) := by
  obtain ⟨k, h1, h2, h3, h4, hc⟩ := ask_case hw (seats := seats) ha hi hq
  have hlm := ha.lm
  have hlq := ha.lq
  have him : i < m.length := by omega
  have hne : ¬ m.getD i 0 = (k : Int) := by omega
  -- how far one has asked
  have reach : ∀ j, j < w.L.length → ∀ c : Nat, containsI (row w.L j) c = true → placeI (row w.L j) c < (askQ q i).getD j 0 → (placeI (row w.L j) c < q.getD j 0 ∨ (j = i ∧ c = k)) := fun j hj c hc hp => by
    by_cases e : i = j
    · subst e
      rw [askQ_at (by omega)] at hp
      by_cases hlt : placeI (row w.L i) c < q.getD i 0
      · exact .inl hlt
      · refine .inr ⟨rfl, ?_⟩
        have := place_inj hc h3 (by omega)
        omega
    · rw [askQ_ne e] at hp; exact .inl hp
  have hrow : ∀ j c : Nat, containsI (row w.R c) j = true → ∀ j' : Nat, containsI (row w.R c) j' = true → placeI (row w.R c) j = placeI (row w.R c) j' → j = j' := fun j c a j' b e => by have := place_inj a b e; omega
  generalize askM w seats m q i = m' at hc ⊢
  cases hc with
  | no hc =>
    refine ⟨hF.seat, fun j hj c hjc hp => ?_⟩
    rcases reach j hj c hjc hp with h | ⟨rfl, rfl⟩
    · exact hF.past j hj c hjc h
    · exact .inr (.inl hc)
  | room hp hf =>
    have hlen : ∀ c : Nat, c ≠ k → (hasL (m.set i (k : Int)) c).length = (hasL m c).length := fun c hck => by
      rw [hasL_set_len him]
      have e1 : ¬ m.getD i 0 = (c : Int) := by omega
      have e2 : ¬ (k : Int) = (c : Int) := by omega
      rw [if_neg e1, if_neg e2]; omega
    have hlenk : (hasL (m.set i (k : Int)) k).length = (hasL m k).length + 1 := by
      rw [hasL_set_len him, if_neg hne, if_pos rfl]; omega
    refine ⟨fun c hcn => ?_, fun j hj c hjc hp2 => ?_⟩
    · by_cases e : c = k
      · subst e; exact hf
      · rw [hlen c e]; exact hF.seat c hcn
    · by_cases e : j = i ∧ c = k
      · obtain ⟨rfl, rfl⟩ := e
        exact .inl (getD_set_eq him _)
      · rcases reach j hj c hjc hp2 with h | h
        · by_cases eck : c = k
          · subst eck
            -- c has room: it was not full
            rcases hF.past j hj c hjc h with g | g | ⟨g, _⟩
            · by_cases eji : j = i
              · subst eji; exact absurd ⟨rfl, rfl⟩ e
              · exact .inl (by rw [getD_set_ne' (Ne.symm eji)]; exact g)
            · exact .inr (.inl g)
            · omega
          · rcases hF.past j hj c hjc h with g | g | ⟨g, g2⟩
            · by_cases eji : j = i
              · subst eji; omega
              · exact .inl (by rw [getD_set_ne' (Ne.symm eji)]; exact g)
            · exact .inr (.inl g)
            · refine .inr (.inr ⟨by rw [hlen c eck]; exact g, fun j' hj' hj2 => ?_⟩)
              by_cases e3 : j' = i
              · subst e3
                rw [getD_set_eq him] at hj2
                omega
              · rw [getD_set_ne' (Ne.symm e3)] at hj2
                exact g2 j' hj' hj2
        · exact absurd h e
  | full hp hf l hl hlk hmax he =>
    have him2 : l < (m.set i (k : Int)).length := by rw [List.length_set]; omega
    have hpR : containsI (row w.R k) i = true := by simp only [pairB, Bool.and_eq_true] at hp; exact hp.2
    have hset : ∀ j : Nat, j < w.L.length → (m.set i (k : Int)).getD j 0 = k → containsI (row w.R k) j = true := fun j hj h => by
      by_cases e : j = i
      · subst e; exact hpR
      · rw [getD_set_ne' (Ne.symm e)] at h; exact right_of ha hj h
    have hlenk0 : (hasL (m.set i (k : Int)) k).length = (hasL m k).length + 1 := by
      rw [hasL_set_len him, if_neg hne, if_pos rfl]; omega
    have hseatk := hF.seat k h2
    have hlenk : (hasL ((m.set i (k : Int)).set l (-1)) k).length = (hasL m k).length := by
      rw [hasL_set_len him2, if_pos hlk, if_neg (by omega), hlenk0]; omega
    have hlen : ∀ c : Nat, c ≠ k → (hasL ((m.set i (k : Int)).set l (-1)) c).length = (hasL m c).length := fun c hck => by
      have e0 : ¬ (m.set i (k : Int)).getD l 0 = (c : Int) := by omega
      rw [hasL_set_len him2, if_neg e0, if_neg (by omega), hasL_set_len him]
      have e1 : ¬ m.getD i 0 = (c : Int) := by omega
      have e2 : ¬ (k : Int) = (c : Int) := by omega
      rw [if_neg e1, if_neg e2]; omega
    have hfullk : ((hasL m k).length : Int) = seats.getD k 0 := by omega
    -- who has k at the end
    have hend : ∀ j : Nat, j < w.L.length → ((m.set i (k : Int)).set l (-1)).getD j 0 = k → j ≠ l ∧ (m.set i (k : Int)).getD j 0 = k := fun j hj h => by
      by_cases e : j = l
      · subst e; rw [getD_set_eq him2] at h; omega
      · rw [getD_set_ne' (Ne.symm e)] at h; exact ⟨e, h⟩
    have hless : ∀ j : Nat, j < w.L.length → ((m.set i (k : Int)).set l (-1)).getD j 0 = k → placeI (row w.R k) j < placeI (row w.R k) l := fun j hj h => by
      obtain ⟨g1, g2⟩ := hend j hj h
      have := hmax j hj g2
      have : placeI (row w.R k) j ≠ placeI (row w.R k) l := fun e => g1 (hrow j k (hset j hj g2) l (hset l hl hlk) e)
      omega
    refine ⟨fun c hcn => ?_, fun j hj c hjc hp2 => ?_⟩
    · by_cases e : c = k
      · subst e; rw [hlenk]; exact hseatk
      · rw [hlen c e]; exact hF.seat c hcn
    · -- does j have c?
      by_cases ejl : j = l ∧ c = k
      · obtain ⟨rfl, rfl⟩ := ejl
        exact .inr (.inr ⟨by rw [hlenk]; exact hfullk, hless⟩)
      · by_cases eji : j = i ∧ c = k
        · obtain ⟨rfl, rfl⟩ := eji
          have : j ≠ l := fun e => ejl ⟨e, rfl⟩
          exact .inl (by rw [getD_set_ne' (Ne.symm this), getD_set_eq him])
        · rcases reach j hj c hjc hp2 with h | h
          · by_cases eck : c = k
            · subst eck
              rcases hF.past j hj c hjc h with g | g | ⟨g, g2⟩
              · have h1' : j ≠ i := fun e => eji ⟨e, rfl⟩
                have h2' : j ≠ l := fun e => ejl ⟨e, rfl⟩
                exact .inl (by rw [getD_set_ne' (Ne.symm h2'), getD_set_ne' (Ne.symm h1')]; exact g)
              · exact .inr (.inl g)
              · refine .inr (.inr ⟨by rw [hlenk]; exact hfullk, fun j' hj' hj2 => ?_⟩)
                obtain ⟨n1, n2⟩ := hend j' hj' hj2
                by_cases e3 : j' = i
                · subst e3
                  -- the one who asked stays, so the last one was there before
                  have hli : l ≠ j' := fun e => n1 e.symm
                  have hlm' : m.getD l 0 = (c : Int) := by rw [getD_set_ne' (Ne.symm hli)] at hlk; exact hlk
                  have := g2 l hl hlm'
                  have := hless j' hj' hj2
                  omega
                · rw [getD_set_ne' (Ne.symm e3)] at n2
                  exact g2 j' hj' n2
            · rcases hF.past j hj c hjc h with g | g | ⟨g, g2⟩
              · refine .inl ?_
                by_cases e3 : j = l
                · subst e3
                  exfalso
                  by_cases e4 : j = i
                  · subst e4; omega
                  · rw [getD_set_ne' (Ne.symm e4)] at hlk; omega
                · rw [getD_set_ne' (Ne.symm e3)]
                  by_cases e4 : j = i
                  · subst e4; omega
                  · rw [getD_set_ne' (Ne.symm e4)]; exact g
              · exact .inr (.inl g)
              · refine .inr (.inr ⟨by rw [hlen c eck]; exact g, fun j' hj' hj2 => ?_⟩)
                by_cases e3 : j' = l
                · subst e3; rw [getD_set_eq him2] at hj2; omega
                · rw [getD_set_ne' (Ne.symm e3)] at hj2
                  by_cases e4 : j' = i
                  · subst e4; rw [getD_set_eq him] at hj2; omega
                  · rw [getD_set_ne' (Ne.symm e4)] at hj2
                    exact g2 j' hj' hj2
          · exact absurd h eji
end Go.Proofs.Ytchfibmndcfpiaa
