/-
  Matches: what they are, what blocks them, and that a stable one is always there (Sotomayor's way). No Go function is named here.
-/
import Derived.Test.YtdipckpcmnhpjaaSlices
import Derived.Test.YtdipckpcmnhpjaaOrder
namespace Go.Proofs.Ytdipckpcmnhpjaa
set_option linter.unusedVariables false
set_option linter.unusedSimpArgs false
open Go.RowKit

structure Wi where
  L : List (List Int)
  R : List (List Int)
def placeI (xs : List Int) (x : Int) : Int := if indexI xs x < 0 then xs.length else indexI xs x
theorem indexI_cases (xs : List Int) (x : Int) : (∃ k : Nat, k < xs.length ∧ xs.getD k 0 = x ∧ indexI xs x = k) ∨ ((∀ j, j < xs.length → xs.getD j 0 ≠ x) ∧ indexI xs x = -1) := by
  rcases findI_spec (fun j => x == xs.getD j 0) xs.length with ⟨k, h1, h2, _, h4⟩ | ⟨h1, h2⟩
  · exact .inl ⟨k, h1, (eq_of_beq h2).symm, h4⟩
  · exact .inr ⟨fun j hj e => by have := h1 j hj; rw [e] at this; simp at this, h2⟩
theorem placeI_bd (xs : List Int) (x : Int) : 0 ≤ placeI xs x ∧ placeI xs x ≤ xs.length := by
  unfold placeI
  rcases indexI_cases xs x with ⟨k, h1, _, h2⟩ | ⟨_, h2⟩ <;> rw [h2] <;> split <;> omega
theorem placeI_in {xs : List Int} {x : Int} (h : containsI xs x = true) : placeI xs x < xs.length := by
  unfold containsI at h
  have := of_decide_eq_true h
  unfold placeI
  rcases indexI_cases xs x with ⟨k, h1, _, h2⟩ | ⟨_, h2⟩ <;> rw [h2] at this ⊢ <;> split <;> omega
theorem placeI_out {xs : List Int} {x : Int} (h : containsI xs x = false) : placeI xs x = xs.length := by
  unfold containsI at h
  have := of_decide_eq_false h
  unfold placeI
  rw [if_pos (by omega)]
def takesB (xs : List Int) (x : Int) : Bool := decide (placeI xs x < xs.length)
theorem takesB_eq (xs : List Int) (x : Int) : takesB xs x = containsI xs x := by
  unfold takesB
  cases h : containsI xs x with
  | true => exact decide_eq_true (placeI_in h)
  | false => rw [placeI_out h]; simp
/-- Lists have numbers below n, each at most once. -/
def listsB (xss : List (List Int)) (n : Nat) : Bool := (xss.all fun xs => onceB xs n) && decide (xss.length = n)
def wishB (w : Wi) : Bool := inB w.L.length 1 8 && listsB w.L w.L.length && listsB w.R w.L.length
structure Wish (w : Wi) : Prop where
  n1 : 1 ≤ w.L.length
  n8 : w.L.length ≤ 8
  len : w.R.length = w.L.length
  left : ∀ xs ∈ w.L, (∀ x ∈ xs, 0 ≤ x ∧ x < w.L.length) ∧ xs.Nodup
  right : ∀ xs ∈ w.R, (∀ x ∈ xs, 0 ≤ x ∧ x < w.L.length) ∧ xs.Nodup
theorem listsB_iff {xss : List (List Int)} {n : Nat} : listsB xss n = true ↔ (∀ xs ∈ xss, (∀ x ∈ xs, 0 ≤ x ∧ x < n) ∧ xs.Nodup) ∧ xss.length = n := by
  simp only [listsB, Bool.and_eq_true, List.all_eq_true, decide_eq_true_eq, onceB, allIn_iff]
  constructor
  · exact fun ⟨h1, h2⟩ => ⟨fun xs hx => ⟨fun x hy => by have := (h1 xs hx).1 x hy; omega, (h1 xs hx).2⟩, h2⟩
  · exact fun ⟨h1, h2⟩ => ⟨fun xs hx => ⟨fun x hy => by have := (h1 xs hx).1 x hy; omega, (h1 xs hx).2⟩, h2⟩
theorem wish_of {w : Wi} (h : wishB w = true) : Wish w := by
  simp only [wishB, Bool.and_eq_true, inB_iff, listsB_iff] at h
  obtain ⟨⟨⟨h1, h2⟩, h3, h4⟩, h5, h6⟩ := h
  exact ⟨by omega, by omega, h6, h3, h5⟩
def row (xss : List (List Int)) (k : Nat) : List Int := xss.getD k []
theorem row_mem {xss : List (List Int)} {k : Nat} (h : k < xss.length) : row xss k ∈ xss := by
  simp [row, List.getD, List.getElem?_eq_getElem h]
def pairB (w : Wi) (a b : Nat) : Bool := containsI (row w.L a) b && containsI (row w.R b) a
/-- Dearer than what one has, below 0 for nobody. -/
def dearB (xs : List Int) (x has : Int) : Bool := decide (has < 0) || decide (placeI xs x < placeI xs has)
def backF (m : List Int) (b : Nat) : Int := indexI m b
def blocksB (w : Wi) (m : List Int) (a b : Nat) : Bool := pairB w a b && (!decide (m.getD a 0 = (b : Int))) && dearB (row w.L a) b (m.getD a 0) && dearB (row w.R b) a (backF m b)
structure Mat (w : Wi) (m : List Int) : Prop where
  len : m.length = w.L.length
  val : ∀ i, i < m.length → m.getD i 0 = -1 ∨ ∃ b : Nat, m.getD i 0 = b ∧ b < w.L.length ∧ pairB w i b = true
  inj : ∀ i j, i < m.length → j < m.length → 0 ≤ m.getD i 0 → m.getD i 0 = m.getD j 0 → i = j
theorem back_here {w : Wi} {m : List Int} (h : Mat w m) {i b : Nat} (hi : i < m.length) (hb : m.getD i 0 = b) : backF m b = i := by
  unfold backF
  rcases indexI_cases m b with ⟨k, h1, h2, h3⟩ | ⟨h1, h2⟩
  · rw [h3, h.inj i k hi h1 (by omega) (by rw [hb, h2])]
  · exact absurd hb (h1 i hi)
theorem back_cases {w : Wi} {m : List Int} (h : Mat w m) (b : Nat) : (∃ i : Nat, i < m.length ∧ m.getD i 0 = b ∧ backF m b = i) ∨ ((∀ i, i < m.length → m.getD i 0 ≠ b) ∧ backF m b = -1) := indexI_cases m b
theorem placeI_neg {w : Wi} (hw : Wish w) {b : Nat} (hb : b < w.L.length) : placeI (row w.R b) (-1) = (row w.R b).length := by
  refine placeI_out ?_
  rw [← Bool.not_eq_true, containsI_iff]
  intro h
  have := (hw.right _ (row_mem (by rw [hw.len]; exact hb))).1 _ h
  omega
def sumS (f : Nat → Nat) : Nat → Nat
  | 0 => 0
  | k + 1 => sumS f k + f k
theorem sumS_congr {f g : Nat → Nat} : ∀ {n : Nat}, (∀ i, i < n → f i = g i) → sumS f n = sumS g n
  | 0, _ => rfl
  | n + 1, h => by rw [sumS, sumS, sumS_congr (n := n) (fun i hi => h i (by omega)), h n (by omega)]
theorem sumS_lt {f g : Nat → Nat} {q : Nat} : ∀ {n : Nat}, q < n → (∀ i, i < n → i ≠ q → f i = g i) → f q < g q → sumS f n < sumS g n
  | 0, h, _, _ => by omega
  | n + 1, h, h1, h2 => by
    rw [sumS, sumS]
    by_cases e : q = n
    · subst e
      rw [sumS_congr (f := f) (g := g) (fun i hi => h1 i (by omega) (by omega))]; omega
    · have := sumS_lt (n := n) (by omega) (fun i hi => h1 i (by omega)) h2
      have := h1 n (by omega) (by omega)
      omega
/-- Only those who have nobody block. -/
def Simple (w : Wi) (m : List Int) : Prop := Mat w m ∧ ∀ a b, a < w.L.length → b < w.L.length → blocksB w m a b = true → m.getD a 0 < 0
def Stab (w : Wi) (m : List Int) : Prop := Mat w m ∧ ∀ a b, a < w.L.length → b < w.L.length → blocksB w m a b = false
def ranks (w : Wi) (m : List Int) : Nat := sumS (fun b => (placeI (row w.R b) (backF m b)).toNat) w.L.length
theorem least_of {P : Nat → Prop} {f : Nat → Int} (hf : ∀ b, 0 ≤ f b) : ∀ (k : Nat) (b : Nat), (f b).toNat = k → P b → ∃ b', P b' ∧ ∀ c, P c → f b' ≤ f c := by
  intro k
  induction k using Nat.strongRecOn with
  | _ k ih =>
    intro b hb hP
    by_cases h : ∃ c, P c ∧ f c < f b
    · obtain ⟨c, hc, hlt⟩ := h
      have := hf b; have := hf c
      exact ih (f c).toNat (by omega) c rfl hc
    · exact ⟨b, hP, fun c hc => by
        refine Classical.byContradiction fun hn => h ⟨c, hc, by omega⟩⟩
def wed (m : List Int) (a b : Nat) : List Int := (List.range m.length).map fun i => if i = a then (b : Int) else if m.getD i 0 = (b : Int) then -1 else m.getD i 0
theorem wed_at {m : List Int} {a b i : Nat} (h : i < m.length) : (wed m a b).getD i 0 = if i = a then (b : Int) else if m.getD i 0 = (b : Int) then -1 else m.getD i 0 := by
  simp [wed, List.getD, h]
theorem wed_len (m : List Int) (a b : Nat) : (wed m a b).length = m.length := by simp [wed]
theorem sot_step {w : Wi} (hw : Wish w) {m : List Int} (hs : Simple w m) {a b0 : Nat} (ha : a < w.L.length) (hb0 : b0 < w.L.length) (hbl : blocksB w m a b0 = true) : ∃ m', Simple w m' ∧ ranks w m' < ranks w m := by
  obtain ⟨hm, hs⟩ := hs
  have hneg := hs a b0 ha hb0 hbl
  obtain ⟨b, ⟨hb, hbb⟩, hmin⟩ := least_of (P := fun b => b < w.L.length ∧ blocksB w m a b = true) (f := fun b => placeI (row w.L a) b) (fun b => (placeI_bd _ _).1) _ b0 rfl ⟨hb0, hbl⟩
  have hlen := hm.len
  have ham : a < m.length := by omega
  have hpair : pairB w a b = true := by simp only [blocksB, Bool.and_eq_true] at hbb; exact hbb.1.1.1
  have hdR : dearB (row w.R b) a (backF m b) = true := by simp only [blocksB, Bool.and_eq_true] at hbb; exact hbb.2
  have at' : ∀ i, i < m.length → (wed m a b).getD i 0 = if i = a then (b : Int) else if m.getD i 0 = (b : Int) then -1 else m.getD i 0 := fun i hi => wed_at hi
  have hm' : Mat w (wed m a b) := by
    refine ⟨by rw [wed_len, hlen], fun i hi => ?_, fun i j hi hj h0 he => ?_⟩
    · rw [wed_len] at hi
      rw [at' i hi]
      by_cases h1 : i = a
      · subst h1; rw [if_pos rfl]; exact .inr ⟨b, rfl, hb, hpair⟩
      · rw [if_neg h1]
        by_cases h2 : m.getD i 0 = (b : Int)
        · rw [if_pos h2]; exact .inl rfl
        · rw [if_neg h2]; exact hm.val i hi
    · rw [wed_len] at hi hj
      rw [at' i hi] at h0 he
      rw [at' j hj] at he
      by_cases h1 : i = a
      · rw [if_pos h1] at he
        by_cases h2 : j = a
        · omega
        · rw [if_neg h2] at he
          by_cases h3 : m.getD j 0 = (b : Int)
          · rw [if_pos h3] at he; omega
          · rw [if_neg h3] at he; exact absurd he.symm h3
      · rw [if_neg h1] at h0 he
        by_cases h2 : m.getD i 0 = (b : Int)
        · rw [if_pos h2] at h0; omega
        · rw [if_neg h2] at h0 he
          by_cases h3 : j = a
          · rw [if_pos h3] at he; exact absurd he h2
          · rw [if_neg h3] at he
            by_cases h4 : m.getD j 0 = (b : Int)
            · rw [if_pos h4] at he; omega
            · rw [if_neg h4] at he; exact hm.inj i j hi hj h0 he
  have hback : ∀ c : Nat, c < w.L.length → backF (wed m a b) c = if c = b then (a : Int) else backF m c := by
    intro c hc
    by_cases h1 : c = b
    · subst h1
      rw [if_pos rfl]
      exact back_here hm' (by rw [wed_len]; exact ham) (by rw [at' a ham, if_pos rfl])
    · rw [if_neg h1]
      rcases back_cases hm c with ⟨i, i1, i2, i3⟩ | ⟨i1, i2⟩
      · rw [i3]
        have hia : i ≠ a := by intro e; subst e; omega
        exact back_here hm' (by rw [wed_len]; exact i1) (by rw [at' i i1, if_neg hia, if_neg (by omega)]; exact i2)
      · rw [i2]
        rcases back_cases hm' c with ⟨i, j1, j2, j3⟩ | ⟨_, j2⟩
        · rw [wed_len] at j1
          rw [at' i j1] at j2
          by_cases h2 : i = a
          · rw [if_pos h2] at j2; omega
          · rw [if_neg h2] at j2
            by_cases h3 : m.getD i 0 = (b : Int)
            · rw [if_pos h3] at j2; omega
            · rw [if_neg h3] at j2; exact absurd j2 (i1 i j1)
        · exact j2
  refine ⟨wed m a b, ⟨hm', fun a2 b2 ha2 hb2 hbl2 => ?_⟩, ?_⟩
  · simp only [blocksB, Bool.and_eq_true, Bool.not_eq_true', decide_eq_false_iff_not] at hbl2
    obtain ⟨⟨⟨p1, p2⟩, p3⟩, p4⟩ := hbl2
    rw [hback b2 hb2] at p4
    rw [at' a2 (by omega)] at p2 p3 ⊢
    by_cases h1 : a2 = a
    · subst h1
      rw [if_pos rfl] at p2 p3
      have hne : b2 ≠ b := by omega
      rw [if_neg hne] at p4
      have : blocksB w m a2 b2 = true := by
        simp only [blocksB, Bool.and_eq_true, Bool.not_eq_true', decide_eq_false_iff_not]
        refine ⟨⟨⟨p1, by omega⟩, ?_⟩, p4⟩
        unfold dearB
        rw [decide_eq_true hneg]; rfl
      have := hmin b2 ⟨hb2, this⟩
      simp only [dearB, Bool.or_eq_true, decide_eq_true_eq] at p3
      omega
    · rw [if_neg h1] at p2 p3 ⊢
      by_cases h2 : m.getD a2 0 = (b : Int)
      · rw [if_pos h2]; omega
      · rw [if_neg h2] at p2 p3 ⊢
        refine hs a2 b2 ha2 hb2 ?_
        simp only [blocksB, Bool.and_eq_true, Bool.not_eq_true', decide_eq_false_iff_not]
        refine ⟨⟨⟨p1, p2⟩, p3⟩, ?_⟩
        by_cases h3 : b2 = b
        · subst h3
          rw [if_pos rfl] at p4
          simp only [dearB, Bool.or_eq_true, decide_eq_true_eq] at p4 hdR ⊢
          omega
        · rw [if_neg h3] at p4; exact p4
  · unfold ranks
    refine sumS_lt (q := b) hb (fun i hi hne => by rw [hback i hi, if_neg hne]) ?_
    rw [hback b hb, if_pos rfl]
    have hin : placeI (row w.R b) a < (row w.R b).length := by
      simp only [pairB, Bool.and_eq_true] at hpair
      exact placeI_in hpair.2
    have b1 := (placeI_bd (row w.R b) a).1
    simp only [dearB, Bool.or_eq_true, decide_eq_true_eq] at hdR
    rcases back_cases hm b with ⟨i, i1, i2, i3⟩ | ⟨i1, i2⟩
    · omega
    · rw [i2, placeI_neg hw hb]; omega
theorem stab_from {w : Wi} (hw : Wish w) : ∀ (k : Nat) (m : List Int), ranks w m = k → Simple w m → ∃ m', Stab w m' := by
  intro k
  induction k using Nat.strongRecOn with
  | _ k ih =>
    intro m hk hs
    by_cases h : ∃ a b, a < w.L.length ∧ b < w.L.length ∧ blocksB w m a b = true
    · obtain ⟨a, b, ha, hb, hbl⟩ := h
      obtain ⟨m', h1, h2⟩ := sot_step hw hs ha hb hbl
      exact ih _ (by omega) m' rfl h1
    · exact ⟨m, hs.1, fun a b ha hb => by
        rw [← Bool.not_eq_true]
        exact fun e => h ⟨a, b, ha, hb, e⟩⟩
/-- There is a stable match. -/
theorem stab_there {w : Wi} (hw : Wish w) : ∃ m, Stab w m := by
  have at0 : ∀ i, i < w.L.length → (List.replicate w.L.length (-1 : Int)).getD i 0 = -1 := fun i hi => by simp [List.getD, hi]
  refine stab_from hw _ (List.replicate w.L.length (-1)) rfl ⟨⟨by simp, fun i hi => .inl (at0 i (by simpa using hi)), fun i j hi hj h0 _ => ?_⟩, fun a b ha _ _ => ?_⟩
  · rw [at0 i (by simpa using hi)] at h0; omega
  · rw [at0 a ha]; omega
end Go.Proofs.Ytdipckpcmnhpjaa
