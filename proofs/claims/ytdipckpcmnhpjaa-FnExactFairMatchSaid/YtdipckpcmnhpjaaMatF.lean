/-
  Matches: the program's tests and the reference's are alike; turns, and what a turn makes is a match. No Go function is named here.
-/
import Derived.Test.YtdipckpcmnhpjaaMatchA
namespace Go.Proofs.Ytdipckpcmnhpjaa
set_option linter.unusedVariables false
set_option linter.unusedSimpArgs false
open Go.RowKit

theorem getD_eq {m : List Int} {i : Nat} (h : i < m.length) : m.getD i 0 = m[i] := by simp [List.getD, List.getElem?_eq_getElem h]
theorem getD_mem {m : List Int} {i : Nat} (h : i < m.length) : m.getD i 0 ∈ m := by rw [getD_eq h]; exact List.getElem_mem h
/-- The program's tests. -/
def partnersB (w : Wi) (m : List Int) : Bool := decide (m.length = w.L.length) && allIn m (-1) (w.L.length - 1) && (List.range m.length).all fun i => decide (m.getD i 0 < 0) || pairB w i (m.getD i 0).toNat
def whoL (m : List Int) : List Int := m.filter fun k => decide (0 ≤ k)
def isMatchB (w : Wi) (m : List Int) : Bool := partnersB w m && decide (whoL m).Nodup
theorem partners_iff {w : Wi} {m : List Int} : partnersB w m = true ↔ m.length = w.L.length ∧ ∀ i, i < m.length → m.getD i 0 = -1 ∨ ∃ b : Nat, m.getD i 0 = b ∧ b < w.L.length ∧ pairB w i b = true := by
  simp only [partnersB, Bool.and_eq_true, decide_eq_true_eq, allIn_iff, List.all_eq_true, List.mem_range, Bool.or_eq_true]
  constructor
  · rintro ⟨⟨h1, h2⟩, h3⟩
    refine ⟨h1, fun i hi => ?_⟩
    have := h2 _ (getD_mem hi)
    by_cases e : m.getD i 0 = -1
    · exact .inl e
    · refine .inr ⟨(m.getD i 0).toNat, by omega, by omega, ?_⟩
      rcases h3 i hi with h | h
      · omega
      · exact h
  · rintro ⟨h1, h2⟩
    refine ⟨⟨h1, fun x hx => ?_⟩, fun i hi => ?_⟩
    · obtain ⟨i, hi, rfl⟩ := List.getElem_of_mem hx
      rw [← getD_eq hi]
      rcases h2 i hi with h | ⟨b, h, hb, _⟩ <;> omega
    · rcases h2 i hi with h | ⟨b, h, hb, hp⟩
      · exact .inl (by omega)
      · exact .inr (by rw [h, Int.toNat_natCast]; exact hp)
theorem who_iff {m : List Int} : (whoL m).Nodup ↔ ∀ i j, i < m.length → j < m.length → 0 ≤ m.getD i 0 → m.getD i 0 = m.getD j 0 → i = j := by
  unfold whoL List.Nodup
  rw [List.pairwise_filter, List.pairwise_iff_getElem]
  simp only [decide_eq_true_eq]
  constructor
  · intro h i j hi hj h0 he
    rw [getD_eq hi, getD_eq hj] at he
    rw [getD_eq hi] at h0
    rcases Nat.lt_trichotomy i j with hlt | rfl | hlt
    · exact absurd he (h i j hi hj hlt h0 (by omega))
    · rfl
    · exact absurd he.symm (h j i hj hi hlt (by omega) h0)
  · intro h i j hi hj hlt h0 h1 he
    have := h i j hi hj (by rw [getD_eq hi]; exact h0) (by rw [getD_eq hi, getD_eq hj]; exact he)
    omega
theorem isMatch_eq (w : Wi) (m : List Int) : isMatchB w m = matchB w m := by
  rw [Bool.eq_iff_iff]
  constructor
  · intro h
    simp only [isMatchB, Bool.and_eq_true, decide_eq_true_eq, partners_iff, who_iff] at h
    exact of_mat ⟨h.1.1, h.1.2, h.2⟩
  · intro h
    have hm := mat_of h
    simp only [isMatchB, Bool.and_eq_true, decide_eq_true_eq, partners_iff, who_iff]
    exact ⟨⟨hm.len, hm.val⟩, hm.inj⟩
theorem partners_mat {w : Wi} {m : List Int} (h : Mat w m) : partnersB w m = true := partners_iff.2 ⟨h.len, h.val⟩
/-- The first pair that meets a test. -/
def first2 (n : Nat) (p : Nat → Nat → Bool) : Option (Nat × Nat) := (List.range n).findSome? fun a => ((List.range n).find? fun b => p a b).map fun b => (a, b)
theorem findSome_range {α : Type} {f : Nat → Option α} {a : Nat} {x : α} (h : f a = some x) (h1 : ∀ j, j < a → f j = none) : ∀ n, a < n → (List.range n).findSome? f = some x
  | 0, hn => by omega
  | n + 1, hn => by
    rw [List.range_succ, List.findSome?_append]
    by_cases e : a = n
    · subst e
      have : (List.range a).findSome? f = none := List.findSome?_eq_none_iff.2 fun j hj => h1 j (List.mem_range.1 hj)
      rw [this]; simp [h]
    · rw [findSome_range h h1 n (by omega)]; rfl
theorem first2_here {n a b : Nat} {p : Nat → Nat → Bool} (ha : a < n) (hb : b < n) (h : p a b = true) (h1 : ∀ i j, i < a → j < n → p i j = false) (h2 : ∀ j, j < b → p a j = false) : first2 n p = some (a, b) := by
  refine findSome_range ?_ (fun i hi => ?_) n ha
  · have hf : (List.range n).find? (fun b => p a b) = some b := by
      rw [List.find?_range_eq_some]
      exact ⟨h, by simpa using hb, fun j hj => by simp [h2 j hj]⟩
    rw [hf]; rfl
  · rw [Option.map_eq_none_iff, List.find?_eq_none]
    intro j hj
    simp [h1 i j hi (List.mem_range.1 hj)]
theorem first2_none {n : Nat} {p : Nat → Nat → Bool} : first2 n p = none ↔ ∀ a b, a < n → b < n → p a b = false := by
  unfold first2
  simp only [List.findSome?_eq_none_iff, List.mem_range, Option.map_eq_none_iff, List.find?_eq_none, Bool.not_eq_true]
  exact ⟨fun h a b ha hb => h a ha b hb, fun h a ha b hb => h a b ha hb⟩
theorem first2_some {n a b : Nat} {p : Nat → Nat → Bool} (h : first2 n p = some (a, b)) : a < n ∧ b < n ∧ p a b = true := by
  unfold first2 at h
  obtain ⟨i, hi, he⟩ := List.exists_of_findSome?_eq_some h
  rw [Option.map_eq_some_iff] at he
  obtain ⟨j, hj, e⟩ := he
  injection e with e1 e2
  subst e1 e2
  have := List.find?_some hj
  exact ⟨List.mem_range.1 hi, List.mem_range.1 (List.mem_of_find?_eq_some hj), this⟩
theorem first2_congr {n : Nat} {p q : Nat → Nat → Bool} (h : ∀ a b, a < n → b < n → p a b = q a b) : first2 n p = first2 n q := by
  cases hp : first2 n p with
  | none =>
    rw [first2_none] at hp
    exact (first2_none.2 fun a b ha hb => by rw [← h a b ha hb]; exact hp a b ha hb).symm
  | some x =>
    obtain ⟨a, b⟩ := x
    unfold first2 at hp ⊢
    rw [← hp]
    have : ∀ {l : List Nat} {f g : Nat → Option (Nat × Nat)}, (∀ x ∈ l, f x = g x) → l.findSome? g = l.findSome? f := by
      intro l f g
      induction l with
      | nil => intro _; rfl
      | cons x xs ih => intro hl; rw [List.findSome?_cons, List.findSome?_cons, hl x (by simp), ih (fun y hy => hl y (by simp [hy]))]
    refine (this fun i hi => ?_).symm
    have h2 : ∀ {l : List Nat} {f g : Nat → Bool}, (∀ x ∈ l, f x = g x) → l.find? f = l.find? g := by
      intro l f g
      induction l with
      | nil => intro _; rfl
      | cons x xs ih => intro hl; rw [List.find?_cons, List.find?_cons, hl x (by simp), ih (fun y hy => hl y (by simp [hy]))]
    rw [h2 fun j hj => (h i j (List.mem_range.1 hi) (List.mem_range.1 hj))]
theorem block_first (w : Wi) (m : List Int) : blockF w m = first2 w.L.length (blocksB w m) := rfl
def dearI (xs : List Int) (x has : Int) : Bool := decide (placeI xs x < placeI xs has)
def blocksI (w : Wi) (m : List Int) (a b : Nat) : Bool := pairB w a b && dearI (row w.L a) b (m.getD a 0) && dearI (row w.R b) a (indexI m b)
theorem placeI_negL {w : Wi} (hw : Wish w) {a : Nat} (ha : a < w.L.length) : placeI (row w.L a) (-1) = (row w.L a).length := by
  refine placeI_out ?_
  rw [← Bool.not_eq_true, containsI_iff]
  intro h
  have := (hw.left _ (row_mem ha)).1 _ h
  omega
theorem dear_left {w : Wi} (hw : Wish w) {m : List Int} (hv : ∀ i, i < m.length → m.getD i 0 = -1 ∨ ∃ b : Nat, m.getD i 0 = b) {a b : Nat} (hl : m.length = w.L.length) (ha : a < w.L.length) (hp : containsI (row w.L a) b = true) :
    dearI (row w.L a) b (m.getD a 0) = ((!decide (m.getD a 0 = (b : Int))) && dearB (row w.L a) b (m.getD a 0)) := by
  rcases hv a (by omega) with h | ⟨c, h⟩
  · rw [h]
    have h1 : dearI (row w.L a) b (-1) = true := decide_eq_true (by rw [placeI_negL hw ha]; exact placeI_in hp)
    have h2 : decide ((-1 : Int) = (b : Int)) = false := decide_eq_false (by omega)
    rw [h1, h2]; simp [dearB]
  · rw [h]
    have h3 : decide ((c : Int) < 0) = false := decide_eq_false (by omega)
    by_cases e : c = b
    · subst e; simp [dearI]
    · have h2 : decide ((c : Int) = (b : Int)) = false := decide_eq_false (by omega)
      rw [h2]; simp [dearI, dearB, h3]
theorem indexI_bd (xs : List Int) (x : Int) : indexI xs x = -1 ∨ ∃ k : Nat, indexI xs x = k ∧ k < xs.length ∧ xs.getD k 0 = x := by
  rcases indexI_cases xs x with ⟨k, h1, h2, h3⟩ | ⟨_, h2⟩
  · exact .inr ⟨k, h3, h1, h2⟩
  · exact .inl h2
theorem dear_right {w : Wi} (hw : Wish w) {m : List Int} {a b : Nat} (hb : b < w.L.length) (hp : containsI (row w.R b) a = true) : dearI (row w.R b) a (indexI m b) = dearB (row w.R b) a (backF m b) := by
  unfold backF
  rcases indexI_bd m b with h | ⟨k, h, _⟩
  · rw [h]
    have h1 : dearI (row w.R b) a (-1) = true := decide_eq_true (by rw [placeI_neg hw hb]; exact placeI_in hp)
    rw [h1]; simp [dearB]
  · rw [h]
    have h3 : decide ((k : Int) < 0) = false := decide_eq_false (by omega)
    simp [dearI, dearB, h3]
theorem vals_mat {w : Wi} {m : List Int} (h : Mat w m) : ∀ i, i < m.length → m.getD i 0 = -1 ∨ ∃ b : Nat, m.getD i 0 = b := fun i hi => (h.val i hi).imp id fun ⟨b, hb, _⟩ => ⟨b, hb⟩
theorem blocksI_eq {w : Wi} (hw : Wish w) {m : List Int} (hm : Mat w m) {a b : Nat} (ha : a < w.L.length) (hb : b < w.L.length) : blocksI w m a b = blocksB w m a b := by
  unfold blocksI blocksB
  cases hp : pairB w a b with
  | false => rfl
  | true =>
    have hp' := hp
    simp only [pairB, Bool.and_eq_true] at hp'
    rw [dear_left hw (vals_mat hm) hm.len ha hp'.1, dear_right hw hb hp'.2]
    simp [Bool.and_assoc]
theorem block_eqI {w : Wi} (hw : Wish w) {m : List Int} (hm : Mat w m) : first2 w.L.length (blocksI w m) = blockF w m := first2_congr fun _ _ ha hb => blocksI_eq hw hm ha hb
theorem stab_of {w : Wi} {m : List Int} (h : stableB w m = true) : Mat w m := by
  simp only [stableB, Bool.and_eq_true] at h
  exact mat_of h.1
/-- Of two stable matches: for each one on the left the one that is held dearer, or the other one. -/
def pickI (w : Wi) (a b : List Int) (dear : Bool) (i : Nat) : Int := if dearI (row w.L i) (b.getD i 0) (a.getD i 0) == dear then b.getD i 0 else a.getD i 0
def chooseL (w : Wi) (a b : List Int) (dear : Bool) : List Int := (List.range a.length).map (pickI w a b dear)
def swapB (w : Wi) (a b : List Int) (i : Nat) : Bool := decide (a.getD i 0 < 0) || (decide (0 ≤ b.getD i 0) && dearB (row w.L i) (b.getD i 0) (a.getD i 0))
def pickR (w : Wi) (a b : List Int) (less : Bool) (i : Nat) : Int := if less then (if swapB w a b i then a.getD i 0 else b.getD i 0) else (if swapB w a b i then b.getD i 0 else a.getD i 0)
theorem pick_eq {w : Wi} (hw : Wish w) {a b : List Int} (ha : Mat w a) (hb : Mat w b) {i : Nat} (hi : i < w.L.length) (dear : Bool) : pickI w a b dear i = pickR w a b (!dear) i := by
  have key : (dearI (row w.L i) (b.getD i 0) (a.getD i 0) = swapB w a b i) ∨ a.getD i 0 = b.getD i 0 := by
    unfold swapB
    rcases ha.val i (by rw [ha.len]; exact hi) with h | ⟨x, h, _, _⟩ <;> rcases hb.val i (by rw [hb.len]; exact hi) with g | ⟨y, g, _, hp⟩
    · exact .inr (by rw [h, g])
    · simp only [pairB, Bool.and_eq_true] at hp
      left
      rw [h, g]
      have h1 : dearI (row w.L i) y (-1) = true := decide_eq_true (by rw [placeI_negL hw hi]; exact placeI_in hp.1)
      rw [h1]; rfl
    · left
      rw [h, g]
      have h1 : dearI (row w.L i) (-1) x = false := decide_eq_false (by rw [placeI_negL hw hi]; have := (placeI_bd (row w.L i) x).2; omega)
      have h2 : decide ((x : Int) < 0) = false := decide_eq_false (by omega)
      rw [h1, h2]; rfl
    · left
      rw [h, g]
      have h2 : decide ((x : Int) < 0) = false := decide_eq_false (by omega)
      have h3 : decide ((0 : Int) ≤ (y : Int)) = true := decide_eq_true (by omega)
      rw [h2, h3]; simp [dearI, dearB, h2]
  unfold pickI pickR
  rcases key with h | h
  · rw [h]; cases swapB w a b i <;> cases dear <;> rfl
  · rw [h]; cases dear <;> simp
def chooseR (w : Wi) (a b : List Int) (less : Bool) : List Int := (List.range a.length).map (pickR w a b less)
theorem choose_eq {w : Wi} (hw : Wish w) {a b : List Int} (ha : Mat w a) (hb : Mat w b) (dear : Bool) : chooseL w a b dear = chooseR w a b (!dear) :=
  List.map_congr_left fun i hi => pick_eq hw ha hb (by have := List.mem_range.1 hi; have := ha.len; omega) dear
def chooseF (w : Wi) (a b : List Int) (dear : Bool) : Option (List Int) := if wishB w && stableB w a && stableB w b && matchB w (chooseL w a b dear) then some (chooseL w a b dear) else none
/-- Who follows one in a turn. -/
def nextF (w : Wi) (m : List Int) (i : Nat) : Int :=
  if m.getD i 0 < 0 then -1 else match ((row w.L i).drop ((placeI (row w.L i) (m.getD i 0)).toNat + 1)).find? (fun b => containsI (row w.R b.toNat) i && dearB (row w.R b.toNat) i (backF m b.toNat)) with
    | some b => backF m b.toNat
    | none => -1
def nextZ (w : Wi) (m : List Int) (x : Int) : Int := nextF w m x.toNat
def itZ (g : Int → Int) (a : Int) : Nat → Int
  | 0 => a
  | t + 1 => g (itZ g a t)
/-- The ring that begins with a, if it comes back to a, all others of it greater than a. -/
def ringF (g : Int → Int) (a : Int) (n : Nat) : Option (List Int) :=
  match (List.range (n + 1)).find? (fun t => decide (itZ g a (t + 1) ≤ a)) with
  | some t => if itZ g a (t + 1) = a then some ((List.range (t + 1)).map (itZ g a)) else none
  | none => none
theorem ringF_hit {g : Int → Int} {a : Int} {n t : Nat} (ht : t ≤ n) (h : itZ g a (t + 1) ≤ a) (hb : ∀ s, s < t → a < itZ g a (s + 1)) : ringF g a n = if itZ g a (t + 1) = a then some ((List.range (t + 1)).map (itZ g a)) else none := by
  have : (List.range (n + 1)).find? (fun t => decide (itZ g a (t + 1) ≤ a)) = some t := by
    rw [List.find?_range_eq_some]
    exact ⟨decide_eq_true h, by simp; omega, fun j hj => by have := hb j hj; simp; omega⟩
  unfold ringF
  rw [this]
theorem ringF_none {g : Int → Int} {a : Int} {n : Nat} (hb : ∀ s, s ≤ n → a < itZ g a (s + 1)) : ringF g a n = none := by
  have : (List.range (n + 1)).find? (fun t => decide (itZ g a (t + 1) ≤ a)) = none := by
    rw [List.find?_eq_none]
    intro j hj
    have := hb j (by have := List.mem_range.1 hj; omega)
    simp; omega
  unfold ringF
  rw [this]
/-- Once one comes again, all goes round. -/
theorem itZ_round {g : Int → Int} {a : Int} {s t : Nat} (hst : s ≤ t) (hs : 1 ≤ s) (h : itZ g a (t + 1) = itZ g a s) (hb : ∀ r, r ≤ t → a < itZ g a (r + 1)) : ∀ u, a < itZ g a (u + 1) := by
  have key : ∀ u, ∃ r, s ≤ r ∧ r ≤ t ∧ (itZ g a (s + u) = itZ g a r) := by
    intro u
    induction u with
    | zero => exact ⟨s, Nat.le_refl _, hst, rfl⟩
    | succ u ih =>
      obtain ⟨r, h1, h2, h3⟩ := ih
      have e : itZ g a (s + (u + 1)) = itZ g a (r + 1) := by show g (itZ g a (s + u)) = g (itZ g a r); rw [h3]
      by_cases hr : r = t
      · subst hr; exact ⟨s, Nat.le_refl _, hst, by rw [e, h]⟩
      · exact ⟨r + 1, by omega, by omega, e⟩
  intro u
  by_cases hu : u ≤ t
  · exact hb u hu
  · obtain ⟨r, h1, h2, h3⟩ := key (u + 1 - s)
    rw [show s + (u + 1 - s) = u + 1 by omega] at h3
    rw [h3]
    have := hb (r - 1) (by omega)
    rwa [show r - 1 + 1 = r by omega] at this
def turnsF (w : Wi) (m : List Int) : List (List Int) := (List.range w.L.length).filterMap fun (i : Nat) => ringF (nextZ w m) (i : Int) w.L.length
def turnsOfF (w : Wi) (m : List Int) : Option (List (List Int)) := if wishB w && stableB w m then some (turnsF w m) else none
/-- Each one of a turn has whom its next had. -/
def turnAt (m ring : List Int) (i : Nat) : Int := m.getD (ring.getD ((i + 1) % ring.length) 0).toNat 0
def takenN (m ring : List Int) : Nat → List Int
  | 0 => m
  | k + 1 => (takenN m ring k).set (ring.getD k 0).toNat (turnAt m ring k)
def takenF (m ring : List Int) : List Int := takenN m ring ring.length
def takeTurnF (w : Wi) (m ring : List Int) : Option (List Int) := if wishB w && stableB w m && (turnsF w m).contains ring then some (takenF m ring) else none
end Go.Proofs.Ytdipckpcmnhpjaa
