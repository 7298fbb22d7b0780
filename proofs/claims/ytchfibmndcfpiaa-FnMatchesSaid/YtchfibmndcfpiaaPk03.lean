/-
  Part 3 of what the proof stands on: lemmas and contracts, each with its conditions ahead of the colon.
-/
import Derived.Test.YtchfibmndcfpiaaRows
import Derived.Deep.Fields
import Derived.Deep.Matrix
import Derived.Lib.SliceRun
import Derived.Deep.RegionHeld3
import Derived.BigQuiet
import Derived.Test.YtchfibmndcfpiaaPk01
import Derived.Test.YtchfibmndcfpiaaPk02
namespace Go.Proofs.Ytchfibmndcfpiaa
set_option linter.unusedVariables false
set_option linter.unusedSimpArgs false
open Go.RowKit

theorem ask_end {w : Wi} (hw : Wish w) {seats : List Int} (hs : ∀ k, k < w.L.length → 0 ≤ seats.getD k 0) : Asks w (askF w seats).1 (askF w seats).2 ∧ Full w seats (askF w seats).1 (askF w seats).2 ∧ ∀ i, i < w.L.length → (askF w seats).1.getD i 0 < 0 → (row w.L i).length ≤ (askF w seats).2.getD i 0 :=
  askE_inv hw (seats := seats) (Inv := Full w seats) (fun _ _ _ ha hF hi hm hq => full_step hw ha hF hi hm hq) _ _ _ rfl (asks_start w) (full_start w seats hs)
/-- Whoever is dearer than whom one has was asked. -/
theorem was_asked {w : Wi} {m q : List Int} (hw : Wish w) (ha : Asks w m q) (he : ∀ i, i < w.L.length → m.getD i 0 < 0 → (row w.L i).length ≤ q.getD i 0) {a b : Nat} (hn : a < w.L.length) (hc : containsI (row w.L a) b = true) (hd : m.getD a 0 < 0 ∨ placeI (row w.L a) b < placeI (row w.L a) (m.getD a 0)) : placeI (row w.L a) b < q.getD a 0 := by
  have h1 := placeI_in hc
  rcases ha.val a hn with h | ⟨g1, g2, _⟩
  · have := he a hn (by omega); omega
  · have hq := (ha.q0 a hn).2
    obtain ⟨k, k1, k2, k3, k4⟩ := asked_k hw hn (p := (q.getD a 0 - 1).toNat) (by omega)
    rw [k1] at g2
    rw [g2, k4] at hd
    omega
theorem own_place {w : Wi} {m q : List Int} (hw : Wish w) (ha : Asks w m q) {a k : Nat} (hn : a < w.L.length) (h : m.getD a 0 = k) : placeI (row w.L a) k = q.getD a 0 - 1 ∧ 1 ≤ q.getD a 0 ∧ containsI (row w.L a) k = true := by
  rcases ha.val a hn with h2 | ⟨g1, g2, _⟩
  · omega
  · have hq := (ha.q0 a hn).2
    obtain ⟨c, k1, k2, k3, k4⟩ := asked_k hw hn (p := (q.getD a 0 - 1).toNat) (by omega)
    rw [k1] at g2
    have : c = k := by omega
    subst this
    exact ⟨by omega, g1, k3⟩
theorem ask_partners {w : Wi} {m q : List Int} (ha : Asks w m q) : partnersB w m = true := by
  refine partners_iff.2 ⟨ha.lm, fun i hi => ?_⟩
  rcases ha.val i (by rw [← ha.lm]; exact hi) with h | ⟨_, _, h⟩
  · exact .inl h
  · exact .inr h
theorem ask_full {w : Wi} {seats m q : List Int} (hF : Full w seats m q) : fullB w seats m = true := by
  unfold fullB
  rw [List.all_eq_true]
  exact fun k hk => decide_eq_true (hF.seat k (List.mem_range.1 hk))
theorem ask_quiet {w : Wi} (hw : Wish w) {seats m q : List Int} (ha : Asks w m q) (hF : Full w seats m q) (he : ∀ i, i < w.L.length → m.getD i 0 < 0 → (row w.L i).length ≤ q.getD i 0) {a b : Nat} (hn : a < w.L.length) : sblocksI w seats m a b = false := by
  unfold sblocksI
  cases hp : pairB w a b with
  | false => simp
  | true =>
    cases hd : dearI (row w.L a) b (m.getD a 0) with
    | false => simp
    | true =>
      have hp2 := hp
      simp only [pairB, Bool.and_eq_true] at hp2
      have hd2 := of_decide_eq_true hd
      have hk := was_asked hw ha he hn hp2.1 (.inr hd2)
      rcases hF.past a hn b hp2.1 hk with h | h | ⟨h1, h2⟩
      · rw [h] at hd2; omega
      · rw [hp2.2] at h; cases h
      · simp only [Bool.true_and, Bool.or_eq_false_iff, decide_eq_false_iff_not]
        refine ⟨by omega, ?_⟩
        rw [List.any_eq_false]
        intro j hj
        obtain ⟨i, rfl, i2, i3⟩ := hasN_mem.1 hj
        have := h2 i (by rw [← ha.lm]; exact i2) i3
        unfold dearI
        rw [decide_eq_false (by omega)]
        simp
theorem school_quiet {w : Wi} (hw : Wish w) {seats : List Int} (hs : ∀ k, k < w.L.length → 0 ≤ seats.getD k 0) : schoolF w seats (askF w seats).1 = none := by
  obtain ⟨ha, hF, he⟩ := ask_end hw hs
  unfold schoolF
  split
  · exact first2_none.2 fun a b hn _ => ask_quiet hw ha hF he hn
  · rfl
theorem hasN_two {m : List Int} {k i j : Nat} (hij : i < j) (hi : m.getD i 0 = k) (hj : m.getD j 0 = k) : ∀ {t : Nat}, j < t → 2 ≤ (hasN m k t).length
  | 0, h => by omega
  | t + 1, h => by
    rw [hasN]
    by_cases e : j = t
    · subst e
      rw [if_pos hj, List.length_append]
      have : (i : Int) ∈ hasN m k j := hasN_mem.2 ⟨i, rfl, hij, hi⟩
      have := List.length_pos_of_mem this
      simp; omega
    · have := hasN_two hij hi hj (t := t) (by omega)
      split
      · rw [List.length_append]; omega
      · exact this
def onesL (n : Nat) : List Int := List.replicate n 1
theorem onesL_get {n k : Nat} (h : k < n) : (onesL n).getD k 0 = 1 := by simp [onesL, List.getD, h]
theorem one_each {w : Wi} {m q : List Int} (ha : Asks w m q) (hF : Full w (onesL w.L.length) m q) {i j k : Nat} (hi : i < w.L.length) (hj : j < w.L.length) (hk : k < w.L.length) (h1 : m.getD i 0 = k) (h2 : m.getD j 0 = k) : i = j := by
  have hs := hF.seat k hk
  rw [onesL_get hk] at hs
  have hlm := ha.lm
  rcases Nat.lt_trichotomy i j with h | h | h
  · have := hasN_two h h1 h2 (t := m.length) (by omega)
    unfold hasL at hs; omega
  · exact h
  · have := hasN_two h h2 h1 (t := m.length) (by omega)
    unfold hasL at hs; omega
theorem ask_mat {w : Wi} {m q : List Int} (ha : Asks w m q) (hF : Full w (onesL w.L.length) m q) : Mat w m := by
  have hlm := ha.lm
  refine ⟨hlm, fun i hi => ?_, fun i j hi hj h0 he => ?_⟩
  · rcases ha.val i (by omega) with h | ⟨_, _, h⟩
    · exact .inl h
    · exact .inr h
  · rcases ha.val i (by omega) with h | ⟨_, _, k, h, hk, _⟩
    · omega
    · exact one_each ha hF (by omega) (by omega) hk h (by omega)
theorem ask_stable {w : Wi} (hw : Wish w) {m q : List Int} (ha : Asks w m q) (hF : Full w (onesL w.L.length) m q) (he : ∀ i, i < w.L.length → m.getD i 0 < 0 → (row w.L i).length ≤ q.getD i 0) : stableB w m = true := by
  have hm := ask_mat ha hF
  simp only [stableB, Bool.and_eq_true, Option.isNone_iff_eq_none]
  refine ⟨of_mat hm, block_none.2 fun a b hn hb => ?_⟩
  unfold blocksB
  cases hp : pairB w a b with
  | false => simp
  | true =>
    have hp2 := hp
    simp only [pairB, Bool.and_eq_true] at hp2
    cases hd : dearB (row w.L a) b (m.getD a 0) with
    | false => simp
    | true =>
      have hd2 := hd
      simp only [dearB, Bool.or_eq_true, decide_eq_true_eq] at hd2
      have hk := was_asked hw ha he hn hp2.1 hd2
      rcases hF.past a hn b hp2.1 hk with h | h | ⟨h1, h2⟩
      · rw [decide_eq_true h]; rfl
      · rw [hp2.2] at h; cases h
      · rw [onesL_get hb] at h1
        rcases back_cases hm b with ⟨i, i1, i2, i3⟩ | ⟨i1, _⟩
        · have := h2 i (by rw [← ha.lm]; exact i1) i2
          have : dearB (row w.R b) a (backF m b) = false := by
            rw [i3]
            simp only [dearB, Bool.or_eq_false_iff, decide_eq_false_iff_not]
            omega
          rw [this]; simp
        · have : hasL m b = [] := List.eq_nil_iff_forall_not_mem.2 fun x hx => by
            obtain ⟨i, _, g2, g3⟩ := hasN_mem.1 hx
            exact i1 i g2 g3
          rw [this] at h1; simp at h1
/-- Whoever was asked in vain is had in no stable match. -/
def Vain (w : Wi) (hw : Wish w) (m q : List Int) : Prop := ∀ i, i < w.L.length → ∀ k : Nat, containsI (row w.L i) k = true → placeI (row w.L i) k < q.getD i 0 → m.getD i 0 ≠ k → ∀ M, SM (sidesW w hw) M → ¬ M i k
theorem vain_step {w : Wi} (hw : Wish w) {m q : List Int} (ha : Asks w m q) (hF : Full w (onesL w.L.length) m q) (hV : Vain w hw m q) {i : Nat} (hi : i < w.L.length) (hmi : m.getD i 0 < 0) (hq : q.getD i 0 < (row w.L i).length) : Vain w hw (askM w (onesL w.L.length) m q i) (askQ q i) := by
  obtain ⟨k, h1, h2, h3, h4, hc⟩ := ask_case hw (seats := onesL w.L.length) ha hi hq
  have hlm := ha.lm
  have hlq := ha.lq
  have him : i < m.length := by omega
  have hone := onesL_get h2
  have reach : ∀ j, j < w.L.length → ∀ c : Nat, containsI (row w.L j) c = true → placeI (row w.L j) c < (askQ q i).getD j 0 → (placeI (row w.L j) c < q.getD j 0 ∨ (j = i ∧ c = k)) := fun j hj c hc hp => by
    by_cases e : i = j
    · subst e
      rw [askQ_at (by omega)] at hp
      by_cases hlt : placeI (row w.L i) c < q.getD i 0
      · exact .inl hlt
      · refine .inr ⟨rfl, ?_⟩
        have := place_inj hc h3 (by omega)
        omega
    · rw [askQ_ne e] at hp; exact .inl hp
  -- one who stays with k and is liked better keeps all others from it
  have keeps : ∀ j0 l : Nat, j0 < w.L.length → l ≠ j0 → pairB w j0 k = true → (∀ b' : Nat, containsI (row w.L j0) b' = true → placeI (row w.L j0) b' < placeI (row w.L j0) k → placeI (row w.L j0) b' < q.getD j0 0 ∧ m.getD j0 0 ≠ b') → placeI (row w.R k) j0 < placeI (row w.R k) l → ∀ M, SM (sidesW w hw) M → ¬ M l k := by
    intro j0 l hj0 hne hp hb hlt M hM hlk
    rcases hM.s j0 k ⟨hj0, h2, hp⟩ with ⟨b', g1, g2⟩ | ⟨a', g1, g2⟩
    · have hbk : b' ≠ k := fun e => by subst e; exact hne (hM.r _ _ _ hlk g1)
      have hpb := (hM.p _ _ g1).2.2
      simp only [pairB, Bool.and_eq_true] at hpb hp
      have hpl : placeI (row w.L j0) b' < placeI (row w.L j0) k := by
        have : placeI (row w.L j0) b' ≠ placeI (row w.L j0) k := fun e => hbk (by have := place_inj hpb.1 hp.1 e; omega)
        have : placeI (row w.L j0) b' ≤ placeI (row w.L j0) k := g2
        omega
      obtain ⟨e1, e2⟩ := hb b' hpb.1 hpl
      exact hV j0 hj0 b' hpb.1 e1 e2 M hM g1
    · have := hM.r _ _ _ g1 hlk
      subst this
      have : placeI (row w.R k) a' ≤ placeI (row w.R k) j0 := g2
      omega
  generalize askM w (onesL w.L.length) m q i = m' at hc ⊢
  cases hc with
  | no hc =>
    intro j hj c hjc hp hne M hM hjM
    rcases reach j hj c hjc hp with h | ⟨rfl, rfl⟩
    · exact hV j hj c hjc h hne M hM hjM
    · have := (hM.p _ _ hjM).2.2
      simp only [pairB, Bool.and_eq_true] at this
      rw [hc] at this
      exact absurd this.2 (by simp)
  | room hp hf =>
    intro j hj c hjc hpl hne M hM
    by_cases e : j = i
    · subst e
      rw [getD_set_eq him] at hne
      rcases reach j hj c hjc hpl with h | ⟨_, h⟩
      · exact hV j hj c hjc h (by omega) M hM
      · omega
    · rw [getD_set_ne' (Ne.symm e)] at hne
      rcases reach j hj c hjc hpl with h | ⟨h, _⟩
      · exact hV j hj c hjc h hne M hM
      · exact absurd h e
  | full hp hf l hl hlk hmax he =>
    have him2 : l < (m.set i (k : Int)).length := by rw [List.length_set]; omega
    have hp2 := hp
    simp only [pairB, Bool.and_eq_true] at hp2
    -- the one who is freed
    have hfree : ∀ M, SM (sidesW w hw) M → ¬ M l k := by
      by_cases e : l = i
      · subst e
        -- somebody had k
        have hlen : 1 ≤ (hasL m k).length := by
          rw [hasL_set_len him, if_neg (by omega), if_pos rfl, hone] at hf
          omega
        obtain ⟨x, hx⟩ := List.exists_mem_of_length_pos (by omega : 0 < (hasL m k).length)
        obtain ⟨j0, _, j1, j2⟩ := hasN_mem.1 hx
        have hj0 : j0 < w.L.length := by omega
        have hne : l ≠ j0 := fun e => by subst e; omega
        have hle := hmax j0 hj0 (by rw [getD_set_ne' hne]; exact j2)
        obtain ⟨o1, o2, o3⟩ := own_place hw ha hj0 j2
        have hR := right_of ha hj0 j2
        have hlt : placeI (row w.R k) j0 < placeI (row w.R k) l := by
          have : placeI (row w.R k) j0 ≠ placeI (row w.R k) l := fun e => by
            have := place_inj hR hp2.2 e
            omega
          omega
        refine keeps j0 l hj0 hne (by unfold pairB; rw [o3, hR]; rfl) (fun b' hb' hbl => ⟨by omega, fun e => ?_⟩) hlt
        rw [j2] at e
        have : k = b' := by omega
        subst this
        omega
      · have hlk' : m.getD l 0 = (k : Int) := by rw [getD_set_ne' (Ne.symm e)] at hlk; exact hlk
        have hle := hmax i hi (getD_set_eq him _)
        have hR := right_of ha hl hlk'
        have hlt : placeI (row w.R k) i < placeI (row w.R k) l := by
          have : placeI (row w.R k) i ≠ placeI (row w.R k) l := fun e2 => by
            have := place_inj hp2.2 hR e2
            omega
          omega
        exact keeps i l hi e hp (fun b' hb' hbl => ⟨by omega, by omega⟩) hlt
    intro j hj c hjc hpl hne M hM
    by_cases ejl : j = l ∧ c = k
    · obtain ⟨rfl, rfl⟩ := ejl
      exact hfree M hM
    · rcases reach j hj c hjc hpl with h | ⟨rfl, rfl⟩
      · refine hV j hj c hjc h (fun hm => ?_) M hM
        -- j had c before, so it has it still
        by_cases e1 : j = l
        · subst e1
          have hck : c ≠ k := fun e => ejl ⟨rfl, e⟩
          by_cases e2 : j = i
          · subst e2; omega
          · rw [getD_set_ne' (Ne.symm e2)] at hlk; omega
        · have e2 : j ≠ i := fun e => by subst e; omega
          rw [getD_set_ne' (Ne.symm e1), getD_set_ne' (Ne.symm e2)] at hne
          exact hne hm
      · have e1 : j ≠ l := fun e => ejl ⟨e, rfl⟩
        rw [getD_set_ne' (Ne.symm e1), getD_set_eq him] at hne
        exact absurd rfl hne
/-- The match of those who ask. -/
def askedF (w : Wi) : List Int := (askF w (onesL w.L.length)).1
theorem ones_pos (w : Wi) : ∀ k, k < w.L.length → 0 ≤ (onesL w.L.length).getD k 0 := fun k hk => by rw [onesL_get hk]; omega
theorem asked_stable {w : Wi} (hw : Wish w) : stableB w (askedF w) = true := by
  obtain ⟨ha, hF, he⟩ := ask_end hw (ones_pos w)
  exact ask_stable hw ha hF he
/-- It is the dearest one of all stable ones for those who ask. -/
theorem asked_best {w : Wi} (hw : Wish w) {M : Nat → Nat → Prop} (hM : SM (sidesW w hw) M) {a b : Nat} (hab : M a b) : ∃ b', Has (askedF w) a b' ∧ placeI (row w.L a) b' ≤ placeI (row w.L a) b := by
  obtain ⟨ha, ⟨hF, hV⟩, he⟩ := askE_inv hw (seats := onesL w.L.length) (Inv := fun m q => Full w (onesL w.L.length) m q ∧ Vain w hw m q) (fun _ _ _ ha h hi hm hq => ⟨full_step hw ha h.1 hi hm hq, vain_step hw ha h.1 h.2 hi hm hq⟩) _ _ _ rfl (asks_start w) ⟨full_start w _ (ones_pos w), fun i hi k hc hp => by
    rw [show (List.replicate w.L.length (0 : Int)).getD i 0 = 0 by simp [List.getD, hi]] at hp
    have := (placeI_bd (row w.L i) k).1
    omega⟩
  obtain ⟨h1, h2, h3⟩ := hM.p a b hab
  have hn : a < w.L.length := h1
  simp only [pairB, Bool.and_eq_true] at h3
  have hlm := ha.lm
  by_cases hk : placeI (row w.L a) b < (askE w (onesL w.L.length) (List.replicate w.L.length (-1)) (List.replicate w.L.length 0)).2.getD a 0
  · by_cases hm : (askedF w).getD a 0 = (b : Int)
    · exact ⟨b, ⟨by show a < (askE w _ _ _).1.length; omega, hm⟩, Int.le_refl _⟩
    · exact absurd hab (hV a hn b h3.1 hk hm M hM)
  · rcases ha.val a hn with h | ⟨g1, g2, c, g3, _⟩
    · have := he a hn (by omega)
      have := placeI_in h3.1
      omega
    · obtain ⟨o1, o2, o3⟩ := own_place hw ha hn g3
      exact ⟨c, ⟨by show a < (askE w _ _ _).1.length; omega, g3⟩, by omega⟩
/-- Wishes with both sides exchanged. -/
def turnW (w : Wi) : Wi := ⟨w.R, w.L⟩
theorem turn_wish {w : Wi} (hw : Wish w) : Wish (turnW w) := by
  have hl := hw.len
  exact ⟨by show 1 ≤ w.R.length; rw [hl]; exact hw.n1, by show w.R.length ≤ 8; rw [hl]; exact hw.n8, hl.symm, fun xs h => by show (∀ x ∈ xs, 0 ≤ x ∧ x < (w.R.length : Int)) ∧ xs.Nodup; rw [hl]; exact hw.right xs h, fun xs h => by show (∀ x ∈ xs, 0 ≤ x ∧ x < (w.R.length : Int)) ∧ xs.Nodup; rw [hl]; exact hw.left xs h⟩
theorem turn_pair (w : Wi) (a b : Nat) : pairB (turnW w) b a = pairB w a b := Bool.and_comm _ _
theorem turn_P {w : Wi} (hw : Wish w) (a b : Nat) : (sidesW (turnW w) (turn_wish hw)).P b a ↔ (sidesW w hw).P a b := by
  have hl := hw.len
  show (b < w.R.length ∧ a < w.R.length ∧ pairB (turnW w) b a = true) ↔ (a < w.L.length ∧ b < w.L.length ∧ pairB w a b = true)
  rw [turn_pair, hl]
  constructor
  · rintro ⟨h1, h2, h3⟩; exact ⟨h2, h1, h3⟩
  · rintro ⟨h1, h2, h3⟩; exact ⟨h2, h1, h3⟩
theorem turn_to {w : Wi} (hw : Wish w) {M : Nat → Nat → Prop} (h : SM (sidesW w hw) M) : SM (sidesW (turnW w) (turn_wish hw)) (fun b a => M a b) :=
  ⟨fun b a hm => (turn_P hw a b).2 (h.p a b hm), fun b a a' h1 h2 => h.r a a' b h1 h2, fun b b' a h1 h2 => h.l a b b' h1 h2, fun b a hp => (h.s a b ((turn_P hw a b).1 hp)).symm⟩
theorem turn_from {w : Wi} (hw : Wish w) {M : Nat → Nat → Prop} (h : SM (sidesW (turnW w) (turn_wish hw)) M) : SM (sidesW w hw) (fun a b => M b a) :=
  ⟨fun a b hm => (turn_P hw a b).1 (h.p b a hm), fun a b b' h1 h2 => h.r b b' a h1 h2, fun a a' b h1 h2 => h.l b a a' h1 h2, fun a b hp => (h.s b a ((turn_P hw a b).2 hp)).symm⟩
/-- Asked from the other side, it is the last one. -/
theorem last_of {w : Wi} (hw : Wish w) : LastR (sidesW w hw) (fun a b => Has (askedF (turnW w)) b a) := by
  refine ⟨turn_from hw (sm_of (turn_wish hw) (asked_stable (turn_wish hw))), fun M hM a b hab => ?_⟩
  obtain ⟨a0, h1, h2⟩ := asked_best (turn_wish hw) (turn_to hw hM) (a := b) (b := a) hab
  exact ⟨a0, h1, h2⟩
/-- Where no turn is left: whom each one on the right has at last. -/
theorem last_all {w : Wi} (hw : Wish w) {m : List Int} (hs : stableB w m = true) (ht : turnsF w m = []) {b a : Nat} (hb : b < w.L.length) (h : (askedF (turnW w)).getD b 0 = (a : Int)) : a < w.L.length ∧ m.getD a 0 = (b : Int) := by
  have hst := asked_stable (turn_wish hw)
  have hl := (stab_of hst).len
  have hl2 := hw.len
  have hH : Has (askedF (turnW w)) b a := ⟨by rw [hl]; show b < w.R.length; omega, h⟩
  have := no_turn hw hs (last_of hw) ht a b hH
  have hml := (stab_of hs).len
  exact ⟨by have := this.1; omega, this.2⟩
/-- Of two that differ the asked one has the dearer one. -/
theorem asked_dear {w : Wi} (hw : Wish w) {m : List Int} (hs : stableB w m = true) {a : Nat} (ha : a < w.L.length) (hne : (askedF w).getD a 0 ≠ m.getD a 0) : ∃ p : Nat, (askedF w).getD a 0 = p ∧ containsI (row w.L a) p = true ∧ placeI (row w.L a) p < placeI (row w.L a) (m.getD a 0) := by
  have hm := stab_of hs
  have hst := asked_stable hw
  have hmat := stab_of hst
  have hl := hm.len
  have hl2 := hmat.len
  rcases hmat.val a (by omega) with h | ⟨p, h, _, hp⟩
  · rcases hm.val a (by omega) with g | ⟨b, g, _, _⟩
    · omega
    · obtain ⟨b', h1, _⟩ := asked_best hw (sm_of hw hs) (a := a) (b := b) ⟨by omega, g⟩
      have := h1.2; omega
  · simp only [pairB, Bool.and_eq_true] at hp
    refine ⟨p, h, hp.1, ?_⟩
    rcases hm.val a (by omega) with g | ⟨b, g, _, gp⟩
    · rw [g, placeI_negL hw ha]; exact placeI_in hp.1
    · simp only [pairB, Bool.and_eq_true] at gp
      obtain ⟨b', h1, h2⟩ := asked_best hw (sm_of hw hs) (a := a) (b := b) ⟨by omega, g⟩
      have : b' = p := by have := h1.2; omega
      subst this
      have : placeI (row w.L a) b' ≠ placeI (row w.L a) b := fun e => by
        have := place_inj hp.1 gp.1 e
        omega
      rw [g]; omega
end Go.Proofs.Ytchfibmndcfpiaa
namespace Go.Proofs.Ytchfibmndcfpiaa
set_option linter.unusedVariables false
set_option linter.unusedSimpArgs false
open Go.RowKit

/-- Only blocks from lo to hi (hi not among them) may have turned; new ones may have come. -/
structure Touch (w w' : World) (lo hi : Nat) : Prop where
  os : w'.os = w.os
  tape : w'.tape = w.tape
  output : w'.output = w.output
  size : w.heap.size ≤ w'.heap.size
  block : ∀ k, k < w.heap.size → (k < lo ∨ hi ≤ k) → w'.heap[k]? = w.heap[k]?

theorem Touch.refl (w : World) (lo hi : Nat) : Touch w w lo hi := ⟨rfl, rfl, rfl, Nat.le_refl _, fun _ _ _ => rfl⟩
theorem Touch.of_grown {w w' : World} {g lo hi : Nat} (h : w.grownBy w' (some g)) (h1 : lo ≤ g) (h2 : g < hi) : Touch w w' lo hi :=
  ⟨h.os, h.tape, h.output, h.size, fun k hk hd => h.block k hk (by intro e; injection e; omega)⟩
theorem Touch.trans {a b c : World} {lo hi : Nat} (h : Touch a b lo hi) (k : Touch b c lo hi) : Touch a c lo hi :=
  ⟨k.os.trans h.os, k.tape.trans h.tape, k.output.trans h.output, Nat.le_trans h.size k.size, fun i hi hd => (k.block i (Nat.lt_of_lt_of_le hi h.size) hd).trans (h.block i hi hd)⟩
theorem Touch.mono {w w' : World} {lo hi lo' hi' : Nat} (h : Touch w w' lo hi) (h1 : lo' ≤ lo) (h2 : hi ≤ hi') : Touch w w' lo' hi' :=
  ⟨h.os, h.tape, h.output, h.size, fun k hk hd => h.block k hk (by omega)⟩
theorem Below.touch {w w' : World} (h : Below w.heap.size w w') (lo hi : Nat) : Touch w w' lo hi := ⟨h.os, h.tape, h.output, h.size, fun k hk _ => h.block k hk⟩
theorem below_touch {B lo hi : Nat} {w w1 w2 : World} (h : Below B w w1) (ht : Touch w1 w2 lo hi) (hB : B ≤ lo) (hB2 : B ≤ w1.heap.size) : Below B w w2 :=
  h.trans ⟨ht.os, ht.tape, ht.output, ht.size, fun k hk => ht.block k (by omega) (.inl (by omega))⟩

theorem Rd.touch {w w' : World} {lo hi B : Nat} {a : Option Addr} {vs : List Value} (h : Rd w B a vs) (ht : Touch w w' lo hi) (hB : B ≤ lo) (hs : B ≤ w.heap.size) : Rd w' B a vs := by
  rcases h with h | ⟨b, o, ha, hb, hc⟩
  · exact .inl h
  · exact .inr ⟨b, o, ha, hb, fun j hj => by rw [World.cell?_of_block (w := w) (ht.block b (by omega) (.inl (by omega)))]; exact hc j hj⟩
theorem Blk.touch {w w' : World} {lo hi b : Nat} {cs : List Value} {t : TypeId} (h : Blk w b cs t) (ht : Touch w w' lo hi) (hd : b < lo ∨ hi ≤ b) : Blk w' b cs t := (ht.block b h.lt hd).trans h

/-- A slice of integers that lies in a stretch of its own. -/
def OwnI (T : Nat) (w : World) (lo hi : Nat) (a : Option Addr) (c : Nat) (xs : List Int) : Prop :=
  w.ownsRow lo T 1 (.slice a xs.length c) xs.length (ints xs) ∧ ∀ b, a = some b → b.block < hi

section
variable {T lo hi c : Nat} {w w' : World} {a : Option Addr} {xs : List Int}
theorem OwnI.of_own (h : w.ownsRow lo T 1 (.slice a xs.length c) xs.length (ints xs)) : OwnI T w lo w.heap.size a c xs :=
  ⟨h, fun b hb => (h.lt b.block (by simp [Value.ownBlock, hb])).2⟩
theorem OwnI.of_blk {b : Nat} (h : Blk w b (ints xs) T) (hl : xs.length ≤ 1152921504606846976) : OwnI T w b (b + 1) (some ⟨b, 0, none⟩) xs.length xs :=
  ⟨by have := h.owns (Nat.le_refl b) (by rw [ints_length]; unfold maxLen; omega); rwa [ints_length] at this, fun _ hb => by injection hb with hb; subst hb; show b < b + 1; omega⟩
theorem OwnI.rd (h : OwnI T w lo hi a c xs) : Rd w hi a (ints xs) := by
  rcases rd_of_own h.1 (Nat.le_refl _) with h' | ⟨b, o, ha, hb, hc⟩
  · exact .inl h'
  · exact .inr ⟨b, o, ha, h.2 _ ha, hc⟩
theorem OwnI.cap (h : OwnI T w lo hi a c xs) : xs.length ≤ c := by
  obtain ⟨a', c', e, h2, _⟩ := own_shape h.1
  injection e with _ _ e
  omega
theorem OwnI.keep (h : OwnI T w lo hi a c xs) (hb : Below w.heap.size w w') : OwnI T w' lo hi a c xs := ⟨own_below h.1 hb, h.2⟩
theorem OwnI.touch {lo' hi' : Nat} (h : OwnI T w lo hi a c xs) (ht : Touch w w' lo' hi') (hd : hi ≤ lo' ∨ hi' ≤ lo) : OwnI T w' lo hi a c xs := by
  refine ⟨⟨h.1.1, ?_⟩, h.2⟩
  rcases h.1.2 with h2 | ⟨g, cap, cur, hv, hg, hh, r⟩
  · exact .inl h2
  · have h3 : g < hi := by
      injection hv with ha _ _
      exact h.2 _ ha
    refine .inr ⟨g, cap, cur, hv, hg, ?_, r⟩
    rw [ht.block g (lt_of_block hh) (by omega)]
    exact hh
theorem OwnI.mono {lo' hi' : Nat} (h : OwnI T w lo hi a c xs) (h1 : lo' ≤ lo) (h2 : hi ≤ hi') : OwnI T w lo' hi' a c xs :=
  ⟨own_base h.1 h1, fun b hb => Nat.lt_of_lt_of_le (h.2 b hb) h2⟩
end
end Go.Proofs.Ytchfibmndcfpiaa
namespace Go.Proofs.Ytchfibmndcfpiaa
set_option linter.unusedVariables false
set_option linter.unusedSimpArgs false
open Go.RowKit

theorem info_i64 : (Try.prog.info? 2).map (fun i => (i.zero, i.size, i.bytes)) = some (some (.int .i64 0), 1, 8) := by kernel_rfl

def szF (left : Int) (n : Nat) : Int := if left < n then -1 else left - n

/-- What the marks are: k, k + 1, and so on. -/
def marks (n : Nat) (k : Int) : List Int := (List.range n).map fun (i : Nat) => k + (i : Int)
@[simp] theorem marks_length (n : Nat) (k : Int) : (marks n k).length = n := by simp [marks]
theorem marks_get (n : Nat) (k : Int) (i : Nat) (h : i < n) : (marks n k)[i]? = some (k + i) := by simp [marks, h]

theorem mark_step (xs : List Int) (rest : List Value) (k : Int) (j : Nat) (h : j < xs.length) :
    (ints ((marks j k) ++ xs.drop j) ++ rest).set j (.int .i64 (k + j)) = ints (marks (j + 1) k ++ xs.drop (j + 1)) ++ rest := by
  rw [List.set_append_left _ _ (by simp; omega), ← ints_set, List.set_append_right _ _ (by simp), marks_length, Nat.sub_self, List.drop_eq_getElem_cons h, List.set_cons_zero]
  simp [marks, List.range_succ]

/-- A call that answers with a new list or with a no, in terms of stretches. -/
theorem flat_of {f : Nat} {args : Array Value} {w : World} {T : Nat} {r : Option (List Int)} (h : Calls Try.prog f args w (RetI T w r)) :
    Calls Try.prog f args w fun e w' => ∃ a c, e = .returned (.tuple #[.slice a (r.getD []).length c, .bool r.isSome]) ∧ OwnI T w' w.heap.size w'.heap.size a c (r.getD []) ∧ Below w.heap.size w w' :=
  h.mono fun e w' hR => let ⟨hb, a, c, he, ho⟩ := hR.flat; ⟨a, c, he, OwnI.of_own ho, hb⟩
end Go.Proofs.Ytchfibmndcfpiaa
namespace Go.Proofs.Ytchfibmndcfpiaa
set_option linter.unusedVariables false
set_option linter.unusedSimpArgs false
open Go.RowKit Go.ChangeShapes Go.WideShapes

section
variable {H : Type} {enc : TypeId × Value → H} {P : Program} {w : World} {base : Nat} {spare : Nat → Bool} {held : Bool}
theorem open_agg_fields {ts : TypeId} {fs : Array Field} {fuel : Nat} {cs : List Value} {x : DataW H × List MemPlace} (hs : P.underlying ts = some (.struct fs))
    (hone : ∀ (i : Nat) (f : Field), fs[i]? = some f → f.offset = i ∧ P.cellsOf f.type = 1) (hC : P.cellsOf ts = fs.size) (h : DataW.trod enc P w base spare held fuel ts cs = some x) :
    cs.length = fs.size ∧ ∃ (n : Nat) (Y : Nat → DataW H × List MemPlace), ∀ (i : Nat) (f : Field), fs[i]? = some f → DataW.trod enc P w base spare held n f.type [cs.getD i undef] = some (Y i) := by
  obtain ⟨xs, n, _, rfl, hl, hxl, hf⟩ := DataW.trod_struct hs h
  refine ⟨by omega, n, fun i => xs.getD i (.nil, []), fun i f hi => ?_⟩
  have hlt : i < fs.size := (Array.getElem?_eq_some_iff.1 hi).1
  obtain ⟨ho, hc1⟩ := hone i f hi
  have g := hf i f hi
  rw [ho, hc1] at g
  rw [Go.Deep.take1_drop cs i undef (by omega), List.getElem?_eq_getElem (by omega)] at g
  rw [g]
  simp [List.getD, List.getElem?_eq_getElem (show i < xs.length by omega)]
theorem ints_field {t e : TypeId} {fuel : Nat} {v : Value} {x : DataW H × List MemPlace} (ht : P.underlying t = some (.slice e)) (he : P.underlying e = some (.int .i64)) (hc : P.cellsOf e = 1) (h : DataW.trod enc P w 0 (fun _ => true) held fuel t [v] = some x) :
    ∃ (a : Option Addr) (c : Nat) (xs : List Int), v = .slice a xs.length c ∧ Rd w w.heap.size a (ints xs) ∧ xs.length ≤ 9223372036854775807 := by
  rcases open_ints ht he hc h with ⟨hcs, _⟩ | ⟨x, l, c, zs, hcs, _, hl, hm, hz, _, hcell, hwz⟩
  · simp at hcs
    subst hcs
    exact ⟨none, 0, [], rfl, Rd.nil _ _ _, by simp⟩
  · simp at hcs
    subst hcs
    have := rd_of_row (.inr ⟨_, rfl, hl, hm, by simpa using hz, hcell, hwz⟩)
    exact ⟨_, _, _, by rw [this.2], this.1, by rw [this.2]; unfold maxLen at hm; omega⟩
theorem int_field {t : TypeId} {fuel : Nat} {v : Value} {x : DataW H × List MemPlace} (ht : P.underlying t = some (.int .i64)) (h : DataW.trod enc P w base spare held fuel t [v] = some x) :
    ∃ n : Int, v = .int .i64 n ∧ -9223372036854775808 ≤ n ∧ n ≤ 9223372036854775807 := by
  obtain ⟨n, hn, _, hw⟩ := DataW.trod_int ht h
  simp at hn
  simp only [Lit.wf, Bool.and_eq_true, decide_eq_true_eq] at hw
  exact ⟨n, hn, hw.1, hw.2⟩
end
end Go.Proofs.Ytchfibmndcfpiaa
namespace Go.Proofs.Ytchfibmndcfpiaa
set_option linter.unusedVariables false
set_option linter.unusedSimpArgs false
open Go.RowKit

/-- A slice of slices of integers reads as lists. -/
def RdII (w : World) (B : Nat) (a : Option Addr) (yss : List (List Int)) : Prop :=
  ∃ vs : List Value, vs.length = yss.length ∧ Rd w B a vs ∧ ∀ (k : Nat) (ys : List Int), yss[k]? = some ys → ∃ (a' : Option Addr) (c' : Nat), vs[k]? = some (Value.slice a' ys.length c') ∧ ys.length ≤ c' ∧ Rd w B a' (ints ys)
theorem RdII.below {w w' : World} {B C : Nat} {a : Option Addr} {yss : List (List Int)} (h : RdII w B a yss) (hb : Below C w w') (hB : B ≤ C) : RdII w' B a yss := by
  obtain ⟨vs, h1, h2, h3⟩ := h
  exact ⟨vs, h1, h2.below hb hB, fun k ys hk => let ⟨a', c', e1, e2, e3⟩ := h3 k ys hk; ⟨a', c', e1, e2, e3.below hb hB⟩⟩
theorem RdII.mono {w : World} {B C : Nat} {a : Option Addr} {yss : List (List Int)} (h : RdII w B a yss) (hB : B ≤ C) : RdII w C a yss := by
  obtain ⟨vs, h1, h2, h3⟩ := h
  exact ⟨vs, h1, h2.mono hB, fun k ys hk => let ⟨a', c', e1, e2, e3⟩ := h3 k ys hk; ⟨a', c', e1, e2, e3.mono hB⟩⟩
theorem RdII.to {w w' : World} {a : Option Addr} {yss : List (List Int)} (h : RdII w w.heap.size a yss) (hb : Below w.heap.size w w') : RdII w' w'.heap.size a yss := (h.below hb (Nat.le_refl _)).mono hb.size
theorem RdII.touch {w w' : World} {lo hi B : Nat} {a : Option Addr} {yss : List (List Int)} (h : RdII w B a yss) (ht : Touch w w' lo hi) (hB : B ≤ lo) (hs : B ≤ w.heap.size) : RdII w' B a yss := by
  obtain ⟨vs, h1, h2, h3⟩ := h
  exact ⟨vs, h1, h2.touch ht hB hs, fun k ys hk => let ⟨a', c', e1, e2, e3⟩ := h3 k ys hk; ⟨a', c', e1, e2, e3.touch ht hB hs⟩⟩
theorem RdII.get {w : World} {B : Nat} {a : Option Addr} {yss : List (List Int)} (h : RdII w B a yss) {k : Nat} (hk : k < yss.length) :
    ∃ b o ys a' c', a = some ⟨b, o, none⟩ ∧ b < B ∧ w.cell? ⟨b, o + k, none⟩ = some (.slice a' ys.length c') ∧ ys.length ≤ c' ∧ Rd w B a' (ints ys) ∧ Hid (yss[k]? = some ys) := by
  obtain ⟨vs, h1, h2, h3⟩ := h
  obtain ⟨b, o, v, ha, hb, hc, hv⟩ := h2.getV (k := k) (by omega)
  obtain ⟨a', c', e1, e2, e3⟩ := h3 k yss[k] (List.getElem?_eq_getElem hk)
  have hv' := hv.out
  rw [e1] at hv'
  injection hv' with hv'
  exact ⟨b, o, yss[k], a', c', ha, hb, by rw [hc, hv'], e2, e3, by simp [Hid, List.getElem?_eq_getElem hk]⟩

/-- How many are on each ballot. -/
def wide (yss : List (List Int)) : Nat := (yss.headD []).length
def ballotsB (yss : List (List Int)) : Bool := decide (1 ≤ yss.length) && decide (yss.length ≤ 32) && decide (1 ≤ wide yss) && decide (wide yss ≤ 12) && yss.all fun b => orderB b (wide yss)
theorem wide_of_get {yss : List (List Int)} {ys : List Int} (h : yss[0]? = some ys) : wide yss = ys.length := by
  cases yss with
  | nil => simp at h
  | cons x xs => simp at h; simp [wide, h]
theorem ballotsB_iff {yss : List (List Int)} : ballotsB yss = true ↔ (1 ≤ yss.length ∧ yss.length ≤ 32) ∧ (1 ≤ wide yss ∧ wide yss ≤ 12) ∧ ∀ b ∈ yss, orderB b (wide yss) = true := by
  simp only [ballotsB, Bool.and_eq_true, decide_eq_true_iff, List.all_eq_true, and_assoc]
theorem ballotsB_all {yss : List (List Int)} (h1 : 1 ≤ yss.length) (h2 : yss.length ≤ 32) (h3 : 1 ≤ wide yss) (h4 : wide yss ≤ 12) : ballotsB yss = yss.all fun b => orderB b (wide yss) := by
  simp [ballotsB, h1, h2, h3, h4]
theorem all_take_succ {α : Type} {xs : List α} {k : Nat} {x : α} {p : α → Bool} (hx : xs[k]? = some x) (h : (xs.take k).all p = true) (h2 : p x = true) : (xs.take (k + 1)).all p = true := by
  rw [List.take_add_one, hx]; simp [h2] at *; exact h
theorem all_false {α : Type} {xs : List α} {k : Nat} {x : α} {p : α → Bool} (hx : xs[k]? = some x) (h2 : p x = false) : xs.all p = false := by
  rw [← Bool.not_eq_true]; intro h
  have := List.all_eq_true.1 h x (List.mem_of_getElem? hx)
  rw [h2] at this; cases this

end Go.Proofs.Ytchfibmndcfpiaa
namespace Go.Proofs.Ytchfibmndcfpiaa
set_option linter.unusedVariables false
set_option linter.unusedSimpArgs false
open Go.RowKit

/-- An argument that is a slice of slices of integers, as the row's own frame tells it. -/
theorem rdII_rows {w : World} {a : Addr} {len cap : Nat} {A : Nat → Option Addr} {L C : Nat → Nat} {Z : Nat → List Int} (hl : len ≤ cap)
    (h : ∀ r, r < cap → w.cell? (a.add r) = some (.slice (A r) (L r) (C r)) ∧ L r ≤ C r ∧ C r ≤ maxLen ∧ (Z r).length = C r ∧ (∀ n ∈ Z r, (Lit.int .i64 n).wf = true) ∧ (A r = none → C r = 0) ∧
      ∀ a', A r = some a' → 0 ≤ a'.block ∧ ∀ c, c < C r → w.cell? (a'.add c) = some (.int .i64 ((Z r).getD c 0))) :
    RdII w w.heap.size (some a) ((List.range len).map fun r => (Z r).take (L r)) := by
  refine ⟨(List.range len).map fun r => Value.slice (A r) (L r) (C r), by simp, ?_, ?_⟩
  · by_cases h0 : len = 0
    · subst h0; exact .inl rfl
    · have hx := (h 0 (by omega)).1
      have hx0 : a.add 0 = a := rfl
      rw [hx0] at hx
      obtain ⟨b, o, s⟩ := a
      have hs : s = none := by
        cases s with
        | none => rfl
        | some s =>
          unfold World.cell? at hx
          split at hx <;> simp at hx
      subst hs
      refine .inr ⟨b, o, rfl, World.block_lt_of_cell? w _ hx, fun j hj => ?_⟩
      have hj' : j < len := by simpa using hj
      have hj2 := (h j (by omega)).1
      have ea : (⟨b, o, none⟩ : Addr).add j = ⟨b, o + j, none⟩ := by unfold Addr.add; split <;> simp_all
      rw [ea] at hj2
      rw [hj2]
      simp [hj']
  · intro k ys hk
    have hk' : k < len := by
      have := (List.getElem?_eq_some_iff.1 hk).1
      simpa using this
    obtain ⟨_, h2, h3, h4, h5, h6, h7⟩ := h k (by omega)
    have hys : ys = (Z k).take (L k) := by simpa [hk'] using hk.symm
    subst hys
    have hlen : ((Z k).take (L k)).length = L k := by simp; omega
    refine ⟨A k, C k, by rw [hlen]; simp [hk'], by omega, ?_⟩
    cases hA : A k with
    | none =>
      have := h6 hA
      have e : (Z k).take (L k) = [] := List.eq_nil_of_length_eq_zero (by omega)
      rw [e]; exact .inl rfl
    | some x =>
      exact (rd_of_row (.inr ⟨x, rfl, h2, h3, h4, fun i hi => (h7 x hA).2 i (by omega), h5⟩)).1

theorem rdII_of_rows' {w : World} {a : Addr} {len cap : Nat} {A : Nat → Option Addr} {L C : Nat → Nat} {Z : Nat → List Int} (hl : len ≤ cap) (hm : cap ≤ maxLen)
    (h : ∀ r, r < cap → w.cell? (a.add r) = some (.slice (A r) (L r) (C r)) ∧ L r ≤ C r ∧ C r ≤ maxLen ∧ (Z r).length = C r ∧ (∀ n ∈ Z r, (Lit.int .i64 n).wf = true) ∧ (A r = none → C r = 0) ∧
      ∀ a', A r = some a' → 0 ≤ a'.block ∧ ∀ c, c < C r → w.cell? (a'.add c) = some (.int .i64 ((Z r).getD c 0))) :
    ∃ yss : List (List Int), yss.length = len ∧ RdII w w.heap.size (some a) yss ∧ yss.length ≤ 9223372036854775807 ∧ ∀ y ∈ yss, y.length ≤ 9223372036854775807 := by
  refine ⟨(List.range len).map fun r => (Z r).take (L r), by simp, ?_, by unfold maxLen at hm; simp; omega, ?_⟩
  · exact rdII_rows hl h
  · intro y hy
    obtain ⟨r, hr, rfl⟩ := List.mem_map.1 hy
    have hr' := List.mem_range.1 hr
    obtain ⟨_, h2, h3, h4, _⟩ := h r (by omega)
    unfold maxLen at h3
    simp; omega
theorem rdII_nil (w : World) (B : Nat) (a : Option Addr) : RdII w B a [] := ⟨[], rfl, .inl rfl, fun k ys hk => by simp at hk⟩

/-- The outer cells of a copy whose rows lie in the blocks from lo on. -/
def rowCells (lo : Nat) (yss : List (List Int)) (k : Nat) : List Value :=
  (List.range yss.length).map fun j => if j < k then Value.slice (some ⟨lo + j, 0, none⟩) (yss.getD j []).length (yss.getD j []).length else Value.slice none 0 0
theorem rowCells_length (lo : Nat) (yss : List (List Int)) (k : Nat) : (rowCells lo yss k).length = yss.length := by simp [rowCells]
theorem rowCells_zero (lo : Nat) (yss : List (List Int)) : rowCells lo yss 0 = List.replicate yss.length (Value.slice none 0 0) := by
  apply List.ext_getElem <;> simp [rowCells]
theorem rowCells_succ (lo : Nat) (yss : List (List Int)) (k : Nat) (ys : List Int) (h : yss[k]? = some ys) :
    (rowCells lo yss k).set k (.slice (some ⟨lo + k, 0, none⟩) ys.length ys.length) = rowCells lo yss (k + 1) := by
  have hk := (List.getElem?_eq_some_iff.1 h).1
  have hy : yss.getD k [] = ys := by simp [List.getD, h]
  apply List.ext_getElem
  · simp [rowCells]
  · intro i h1 h2
    simp only [rowCells, List.getElem_set, List.getElem_map, List.getElem_range]
    by_cases hik : k = i
    · subst hik; simp; rw [← List.getD_eq_getElem?_getD, hy]
    · rw [if_neg hik]
      by_cases h3 : i < k
      · rw [if_pos h3, if_pos (by omega)]
      · rw [if_neg h3, if_neg (by omega)]
theorem rowCells_get (lo : Nat) (yss : List (List Int)) (k : Nat) (ys : List Int) (h : yss[k]? = some ys) :
    (rowCells lo yss yss.length)[k]? = some (.slice (some ⟨lo + k, 0, none⟩) ys.length ys.length) := by
  have hk := (List.getElem?_eq_some_iff.1 h).1
  have hy : yss.getD k [] = ys := by simp [List.getD, h]
  rw [List.getElem?_eq_getElem (by simpa [rowCells] using hk)]
  simp only [rowCells, List.getElem_map, List.getElem_range, if_pos hk, hy]
/-- A slice of slices of integers in blocks of its own, as the law's copy makes it. -/
def OwnII (T T2 : Nat) (w : World) (lo hi : Nat) (a : Option Addr) (c : Nat) (yss : List (List Int)) : Prop :=
  ∃ g, a = some ⟨g, 0, none⟩ ∧ c = yss.length ∧ lo ≤ g ∧ g + 1 + yss.length ≤ hi ∧ hi ≤ w.heap.size ∧ Blk w g (rowCells (g + 1) yss yss.length) T2 ∧ ∀ (j : Nat) (ys : List Int), yss[j]? = some ys → Blk w (g + 1 + j) (ints ys) T
section
variable {T T2 lo hi c : Nat} {w w' : World} {a : Option Addr} {yss : List (List Int)}
theorem OwnII.rd (h : OwnII T T2 w lo hi a c yss) : RdII w hi a yss := by
  obtain ⟨g, rfl, rfl, h1, h2, _, h3, h4⟩ := h
  refine ⟨_, rowCells_length _ _ _, h3.rd (by omega), fun k ys hk => ⟨_, _, rowCells_get _ _ _ _ hk, Nat.le_refl _, (h4 k ys hk).rd ?_⟩⟩
  have hk := (List.getElem?_eq_some_iff.1 hk).1
  omega
theorem OwnII.keep (h : OwnII T T2 w lo hi a c yss) (hb : Below w.heap.size w w') : OwnII T T2 w' lo hi a c yss := by
  obtain ⟨g, h1, h2, h3, h4, h0, h5, h6⟩ := h
  exact ⟨g, h1, h2, h3, h4, by have := hb.size; omega, h5.same hb, fun j ys hj => (h6 j ys hj).same hb⟩
theorem OwnII.touch {lo' hi' : Nat} (h : OwnII T T2 w lo hi a c yss) (ht : Touch w w' lo' hi') (hd : hi ≤ lo' ∨ hi' ≤ lo) : OwnII T T2 w' lo hi a c yss := by
  obtain ⟨g, h1, h2, h3, h4, h0, h5, h6⟩ := h
  exact ⟨g, h1, h2, h3, h4, by have := ht.size; omega, h5.touch ht (by omega), fun j ys hj => (h6 j ys hj).touch ht (by have := (List.getElem?_eq_some_iff.1 hj).1; omega)⟩
end
theorem info_ints : (Try.prog.info? 31).map (fun i => (i.zero, i.size, i.bytes)) = some (some (.slice none 0 0), 1, 24) := by kernel_rfl
end Go.Proofs.Ytchfibmndcfpiaa
namespace Go.Proofs.Ytchfibmndcfpiaa
set_option linter.unusedVariables false
set_option linter.unusedSimpArgs false
open Go.RowKit
theorem OwnII.mono2 {T T2 lo hi lo' hi' c : Nat} {w : World} {a : Option Addr} {yss : List (List Int)} (h : OwnII T T2 w lo hi a c yss) (h1 : lo' ≤ lo) (h2 : hi ≤ hi') (h3 : hi' ≤ w.heap.size) : OwnII T T2 w lo' hi' a c yss := by
  obtain ⟨g, e1, e2, h4, h5, _, h6, h7⟩ := h
  exact ⟨g, e1, e2, by omega, by omega, h3, h6, h7⟩
section
open Go.ChangeShapes Go.WideShapes
theorem rows_field {H : Type} {enc : TypeId × Value → H} {P : Program} {w : World} {held : Bool} {t e q : TypeId} {fuel : Nat} {v : Value} {x : DataW H × List MemPlace} (ht : P.underlying t = some (.slice e)) (he : P.underlying e = some (.slice q)) (hq : P.underlying q = some (.int .i64)) (ce : P.cellsOf e = 1) (cq : P.cellsOf q = 1) (h : DataW.trod enc P w 0 (fun _ => true) held fuel t [v] = some x) :
    ∃ (a : Option Addr) (c : Nat) (yss : List (List Int)), v = .slice a yss.length c ∧ RdII w w.heap.size a yss ∧ yss.length ≤ 9223372036854775807 ∧ ∀ y ∈ yss, y.length ≤ 9223372036854775807 := by
  rcases Go.Deep.open_int_rows ht he hq ce cq h with ⟨hcs, _⟩ | ⟨x, l, c, A, L, C, Z, hcs, _, hl, hm, _, hr⟩
  · simp at hcs
    subst hcs
    exact ⟨none, 0, [], rfl, rdII_nil _ _ _, by simp, by simp⟩
  · simp at hcs
    subst hcs
    obtain ⟨yss, h1, h2, h3, h4⟩ := rdII_of_rows' hl hm fun r hr' => let ⟨h1, h2, h3, h4, h5, h6, h7⟩ := hr r hr'; ⟨h1, h2, h3, h4, h5, h6, fun a' ha => ⟨Nat.zero_le _, (h7 a' ha).2⟩⟩
    exact ⟨_, _, yss, by rw [h1], h2, h3, h4⟩
end
end Go.Proofs.Ytchfibmndcfpiaa
namespace Go.Proofs.Ytchfibmndcfpiaa
set_option linter.unusedVariables false
set_option linter.unusedSimpArgs false
open Go.RowKit

def RdWishes (w : World) (B : Nat) (a0 : Option Addr) (x0 : List (List Int)) (a1 : Option Addr) (x1 : List (List Int)) : Prop := RdII w B a0 x0 ∧ RdII w B a1 x1
def OwnWishes (w : World) (lo hi : Nat) (a0 : Option Addr) (c0 : Nat) (x0 : List (List Int)) (a1 : Option Addr) (c1 : Nat) (x1 : List (List Int)) : Prop :=
  ∃ m1 : Nat, (lo ≤ m1 ∧ m1 ≤ hi) ∧ OwnII 2 31 w lo m1 a0 c0 x0 ∧ OwnII 2 31 w m1 hi a1 c1 x1
section
variable {w w' : World} {B C lo hi : Nat} {a0 : Option Addr} {x0 : List (List Int)} {a1 : Option Addr} {x1 : List (List Int)} {c0 : Nat} {c1 : Nat}
theorem RdWishes.below (h : RdWishes w B a0 x0 a1 x1) (hb : Below C w w') (hB : B ≤ C) : RdWishes w' B a0 x0 a1 x1 := ⟨RdII.below (h.1) hb hB, RdII.below (h.2) hb hB⟩
theorem RdWishes.mono (h : RdWishes w B a0 x0 a1 x1) (hB : B ≤ C) : RdWishes w C a0 x0 a1 x1 := ⟨RdII.mono (h.1) hB, RdII.mono (h.2) hB⟩
theorem RdWishes.to (h : RdWishes w w.heap.size a0 x0 a1 x1) (hb : Below w.heap.size w w') : RdWishes w' w'.heap.size a0 x0 a1 x1 := (h.below hb (Nat.le_refl _)).mono hb.size
theorem RdWishes.touch (h : RdWishes w B a0 x0 a1 x1) (ht : Touch w w' lo hi) (hB : B ≤ lo) (hs : B ≤ w.heap.size) : RdWishes w' B a0 x0 a1 x1 := ⟨RdII.touch (h.1) ht hB hs, RdII.touch (h.2) ht hB hs⟩
theorem OwnWishes.rd (h : OwnWishes w lo hi a0 c0 x0 a1 c1 x1) : RdWishes w hi a0 x0 a1 x1 := by
  obtain ⟨m1, hm, o0, o1⟩ := h
  exact ⟨o0.rd.mono (by omega), o1.rd.mono (by omega)⟩
theorem OwnWishes.keep (h : OwnWishes w lo hi a0 c0 x0 a1 c1 x1) (hb : Below w.heap.size w w') : OwnWishes w' lo hi a0 c0 x0 a1 c1 x1 := by
  obtain ⟨m1, hm, o0, o1⟩ := h
  exact ⟨m1, hm, o0.keep hb, o1.keep hb⟩
theorem OwnWishes.touch {lo' hi' : Nat} (h : OwnWishes w lo hi a0 c0 x0 a1 c1 x1) (ht : Touch w w' lo' hi') (hd : hi ≤ lo' ∨ hi' ≤ lo) : OwnWishes w' lo hi a0 c0 x0 a1 c1 x1 := by
  obtain ⟨m1, hm, o0, o1⟩ := h
  exact ⟨m1, hm, o0.touch ht (by omega), o1.touch ht (by omega)⟩
theorem OwnWishes.le (h : OwnWishes w lo hi a0 c0 x0 a1 c1 x1) : lo ≤ hi := by
  obtain ⟨m1, hm, o0, o1⟩ := h
  omega
end
end Go.Proofs.Ytchfibmndcfpiaa
namespace Go.Proofs.Ytchfibmndcfpiaa
set_option linter.unusedVariables false
set_option linter.unusedSimpArgs false
open Go.RowKit

theorem rangeAll_succ (p : Nat → Bool) (k : Nat) : (List.range (k + 1)).all p = ((List.range k).all p && p k) := by
  rw [List.range_succ, List.all_append]; simp
theorem rangeAll_false {p : Nat → Bool} {k n : Nat} (hk : k < n) (h : p k = false) : (List.range n).all p = false := by
  rw [← Bool.not_eq_true]
  intro ha
  have := List.all_eq_true.1 ha k (List.mem_range.2 hk)
  rw [h] at this; cases this
def twiceB (xs : List Int) : Bool := !decide xs.Nodup
theorem containsI_hasB (xs : List Int) (x : Int) : containsI xs x = hasB xs x := by rw [Bool.eq_iff_iff, containsI_iff, hasB_iff]
set_option maxHeartbeats 1000000 in
theorem hasTwice_any (w : World) (a : Option Addr) (c : Nat) (xs : List Int) (h : Rd w w.heap.size a (ints xs)) (hc : xs.length ≤ c) (hl : xs.length ≤ 1048576) :
    Calls Try.prog 92 #[.slice a xs.length c] w fun e w' => e = .returned (.bool (twiceB xs)) ∧ w = w' := by
  go_enter Try.func92, Try.ntmps92
  go_wp2
  go_loop [7] (fun i => ∃ k : Nat, k ≤ xs.length ∧ i = .int .i64 k ∧ Hid ((xs.take k).Nodup)) (fun i => xs.length - (intOf i).toNat)
  case atStart => exact ⟨0, Nat.zero_le _, rfl, by simp [Hid]⟩
  case round =>
    obtain ⟨k, hk, rfl, ha⟩ := hrel
    by_cases hlt : k < xs.length
    · obtain ⟨b, o, x, rfl, hbb, hck, hx⟩ := h.get hlt
      have hl1 : (xs.take k).length = k := by simp; omega
      have L2 := Lib.hid (contains_any w (some ⟨b, o, none⟩) c (xs.take k) x (h.take k) (by omega))
      rw [hl1] at L2
      clear hl1 h
      cases hin : containsI (xs.take k) x with
      | true =>
        have HF : Hid (twiceB xs = true) := by
          have := not_nodup_of hx.out (hasB_iff.1 (by rw [← containsI_hasB]; exact hin))
          simp [Hid, twiceB, this]
        rw [hin] at L2
        go_wp2_with (go_at_call 69; refine L2.out.mono ?_; rintro e w' ⟨rfl, rfl⟩)
        go_ret
        exact ⟨ret_bool HF.out.symm, rfl⟩
      | false =>
        have HN : Hid ((xs.take (k + 1)).Nodup) := (nodup_take_succ hx.out).2 ⟨ha.out, fun hm => by rw [containsI_iff.2 hm] at hin; cases hin⟩
        rw [hin] at L2
        go_wp2_with (go_at_call 69; refine L2.out.mono ?_; rintro e w' ⟨rfl, rfl⟩)
        go_round
        case rel => exact ⟨k + 1, by omega, by go_num, HN⟩
        case measure => simp [intOf]; omega
    · have : k = xs.length := by omega
      subst this
      rw [List.take_length] at ha
      have HF : Hid (twiceB xs = false) := by have := ha.out; simp [Hid, twiceB, this]
      go_wp2
      go_ret
      exact ⟨ret_bool HF.out.symm, rfl⟩
def aWishB (L : List (List Int)) : Bool := (L.all fun xs => onceB xs L.length) && inB L.length 1 8
theorem wish_two {L R : List (List Int)} (h : L.length = R.length) : wishB ⟨L, R⟩ = (aWishB L && aWishB R) := by
  have e2 : decide (R.length = R.length) = true := decide_eq_true rfl
  unfold wishB aWishB listsB
  simp only [h, e2, Bool.and_true]
  cases inB (R.length : Int) 1 8 <;> simp
theorem wish_len {L R : List (List Int)} (h : L.length ≠ R.length) : wishB ⟨L, R⟩ = false := by
  have : decide (R.length = L.length) = false := decide_eq_false (by omega)
  simp [wishB, listsB, this]
set_option maxHeartbeats 1000000 in
theorem areWishes_any (w : World) (a : Option Addr) (c : Nat) (L : List (List Int)) (h : RdII w w.heap.size a L) (hl : L.length ≤ 1048576) (hin : ∀ y ∈ L, y.length ≤ 1048576) :
    Calls Try.prog 74 #[.slice a L.length c] w fun e w' => e = .returned (.bool (aWishB L)) ∧ w = w' := by
  obtain ⟨n, hn⟩ : ∃ n, n = L.length := ⟨_, rfl⟩
  have HF : Hid (aWishB L = ((L.all fun xs => onceB xs n) && inB n 1 8)) := by rw [hn]; rfl
  have HN := Lib.hid hn
  have Hin := Lib.hid hin
  have LW := Lib.hid (fun v => within_any (n : Int) 1 8 v)
  have Hh := Lib.hid h
  clear h hin
  rw [← hn] at hl ⊢
  clear hn
  have hwr : IntKind.i64.wrap ((n : Int) - 1) = (n : Int) - 1 := IntWalk.i64_in _ (by omega)
  go_enter Try.func74, Try.ntmps74
  go_wp2
  go_loop [10] (fun i => ∃ k : Nat, k ≤ n ∧ i = .int .i64 k ∧ Hid (((L.take k).all fun xs => onceB xs n) = true)) (fun i => n - (intOf i).toNat)
  case atStart => exact ⟨0, Nat.zero_le _, rfl, by simp [Hid]⟩
  case round =>
    obtain ⟨k, hk, rfl, ha⟩ := hrel
    by_cases hlt : k < n
    · obtain ⟨b, o, ys, a', c', rfl, hbb, hck, hc', hr, hy⟩ := Hh.out.get (k := k) (by rw [← HN.out]; exact hlt)
      have hlen := Hin.out ys (List.mem_of_getElem? hy.out)
      have L1 := Lib.hid (fun lo hi => areWithin_any w a' c' ys lo hi hr (by omega))
      have L2 := Lib.hid (hasTwice_any w a' c' ys hr hc' hlen)
      have hob : onceB ys n = (allIn ys 0 ((n : Int) - 1) && !twiceB ys) := by simp [onceB, twiceB]
      clear hr
      cases h1 : allIn ys 0 ((n : Int) - 1) with
      | false =>
        rw [h1, Bool.false_and] at hob
        have HB : Hid (aWishB L = false) := by rw [Hid, HF.out, all_false (p := fun xs => onceB xs n) hy.out hob]; rfl
        have L1' := Lib.hid (L1.out 0 ((n : Int) - 1))
        rw [h1] at L1'
        clear hob L1
        go_wp2_with (first | (go_at_call 96; refine L1'.out.mono ?_; rintro e w' ⟨rfl, rfl⟩))
        go_ret
        exact ⟨ret_bool HB.out.symm, rfl⟩
      | true =>
        rw [h1, Bool.true_and] at hob
        have L1' := Lib.hid (L1.out 0 ((n : Int) - 1))
        rw [h1] at L1'
        clear L1
        cases h2 : twiceB ys with
        | true =>
          rw [h2] at hob L2
          have HB : Hid (aWishB L = false) := by rw [Hid, HF.out, all_false (p := fun xs => onceB xs n) hy.out hob]; rfl
          clear hob
          go_wp2_with (first | (go_at_call 96; refine L1'.out.mono ?_; rintro e w' ⟨rfl, rfl⟩) | (go_at_call 92; refine L2.out.mono ?_; rintro e w' ⟨rfl, rfl⟩))
          go_ret
          exact ⟨ret_bool HB.out.symm, rfl⟩
        | false =>
          rw [h2] at hob L2
          have HA : Hid (((L.take (k + 1)).all fun xs => onceB xs n) = true) := all_take_succ hy.out ha.out hob
          clear hob ha
          go_wp2_with (first | (go_at_call 96; refine L1'.out.mono ?_; rintro e w' ⟨rfl, rfl⟩) | (go_at_call 92; refine L2.out.mono ?_; rintro e w' ⟨rfl, rfl⟩))
          go_round
          case rel => exact ⟨k + 1, by omega, by go_num, HA⟩
          case measure => simp [intOf]; omega
    · have : k = n := by omega
      subst this
      have HB : Hid (aWishB L = inB k 1 8) := by rw [Hid, HF.out, ← List.take_length (l := L), ← HN.out, ha.out, Bool.true_and]
      clear ha
      go_wp2_with (go_at_call 98; refine (LW.out _).mono ?_; rintro e w' ⟨rfl, rfl⟩)
      go_ret
      exact ⟨ret_bool HB.out.symm, rfl⟩
set_option maxHeartbeats 1000000 in
theorem validWishes_any (w : World) (a0 : Option Addr) (c0 : Nat) (x0 : List (List Int)) (a1 : Option Addr) (c1 : Nat) (x1 : List (List Int)) (h : RdWishes w w.heap.size a0 x0 a1 x1) (hl0 : x0.length ≤ 1048576) (hin0 : ∀ y ∈ x0, y.length ≤ 1048576) (hl1 : x1.length ≤ 1048576) (hin1 : ∀ y ∈ x1, y.length ≤ 1048576) :
    Calls Try.prog 31 #[.agg #[.slice a0 x0.length c0, .slice a1 x1.length c1]] w fun e w' => e = .returned (.bool (wishB ⟨x0, x1⟩)) ∧ Below w.heap.size w w' := by
  have hB := bl1 w (.cells #[.slice a0 x0.length c0, .slice a1 x1.length c1] 27)
  have L0 := Lib.hid (areWishes_any _ a0 c0 x0 (RdII.to h.1 hB) hl0 hin0)
  have L1 := Lib.hid (areWishes_any _ a1 c1 x1 (RdII.to h.2 hB) hl1 hin1)
  clear h
  by_cases hn : x0.length = x1.length
  case neg =>
    have HF : Hid (wishB ⟨x0, x1⟩ = false) := wish_len hn
    have hne : ((x0.length : Int) == (x1.length : Int)) = false := by simp; omega
    clear hn
    go_enter Try.func31, Try.ntmps31
    go_wp2_with fail
    go_ret
    exact ⟨ret_bool HF.out.symm, hB⟩
  have HF : Hid (wishB ⟨x0, x1⟩ = (aWishB x0 && aWishB x1)) := wish_two hn
  have hne : ((x0.length : Int) == (x1.length : Int)) = true := by simp; omega
  clear hn
  cases t0 : aWishB x0 with
  | false =>
    rw [t0] at L0 HF
    go_enter Try.func31, Try.ntmps31
    go_wp2_with fail
    refine L0.out.mono ?_
    rintro e w1 ⟨rfl, rfl⟩
    go_wp2_with fail
    go_ret
    exact ⟨ret_bool HF.out.symm, hB⟩
  | true =>
    rw [t0, Bool.true_and] at HF
    rw [t0] at L0
    go_enter Try.func31, Try.ntmps31
    go_wp2_with fail
    refine L0.out.mono ?_
    rintro e w1 ⟨rfl, rfl⟩
    go_wp2_with fail
    refine L1.out.mono ?_
    rintro e w1 ⟨rfl, rfl⟩
    go_wp2_with fail
    go_ret
    exact ⟨ret_bool HF.out.symm, hB⟩
theorem count_any (w : World) (a0 : Option Addr) (c0 : Nat) (x0 : List (List Int)) (a1 : Option Addr) (c1 : Nat) (x1 : List (List Int)) :
    Calls Try.prog 59 #[.agg #[.slice a0 x0.length c0, .slice a1 x1.length c1]] w fun e w' => e = .returned (.int .i64 x0.length) ∧ Below w.heap.size w w' := by
  go_enter Try.func59, Try.ntmps59
  go_wp2
  go_ret
  exact ⟨rfl, bl1 _ _⟩
theorem row_get {xss : List (List Int)} {k : Nat} {ys : List Int} (h : xss[k]? = some ys) : row xss k = ys := by simp [row, List.getD, h]
set_option maxHeartbeats 2000000 in
theorem take_any (w : World) (a0 : Option Addr) (c0 : Nat) (x0 : List (List Int)) (a1 : Option Addr) (c1 : Nat) (x1 : List (List Int)) (h : RdWishes w w.heap.size a0 x0 a1 x1) (hin0 : ∀ y ∈ x0, y.length ≤ 1048576) (hin1 : ∀ y ∈ x1, y.length ≤ 1048576) (i k : Nat) (hi : i < x0.length) (hk : k < x1.length) :
    Calls Try.prog 60 #[.agg #[.slice a0 x0.length c0, .slice a1 x1.length c1], .int .i64 i, .int .i64 k] w fun e w' => e = .returned (.bool (pairB ⟨x0, x1⟩ i k)) ∧ Below w.heap.size w w' := by
  have hB := bl1 w (.cells #[.slice a0 x0.length c0, .slice a1 x1.length c1] 27)
  obtain ⟨b2, o2, ys, a2, c2, e2, hb2, hc2, _, hr2, hy2⟩ := h.1.get hi
  obtain ⟨b3, o3, zs, a3, c3, e3, hb3, hc3, _, hr3, hy3⟩ := h.2.get hk
  subst e2 e3
  have d2 := (hB.cell (p := ⟨b2, o2 + i, none⟩) hb2).trans hc2
  have d3 := (hB.cell (p := ⟨b3, o3 + k, none⟩) hb3).trans hc3
  have L2 := Lib.hid (contains_any _ a2 c2 ys k (hr2.to hB) (by have := hin0 ys (List.mem_of_getElem? hy2.out); omega))
  have L3 := Lib.hid (contains_any _ a3 c3 zs i (hr3.to hB) (by have := hin1 zs (List.mem_of_getElem? hy3.out); omega))
  have HF : Hid (pairB ⟨x0, x1⟩ i k = (containsI ys k && containsI zs i)) := by
    show _ = _
    unfold pairB
    simp only [row_get hy2.out, row_get hy3.out]
  have i0 : (0 : Int) ≤ (i : Int) := Int.natCast_nonneg _
  have k0 : (0 : Int) ≤ (k : Int) := Int.natCast_nonneg _
  have i1 : (i : Int) < (x0.length : Int) := by omega
  have k1 : (k : Int) < (x1.length : Int) := by omega
  clear h hr2 hr3 hy2 hy3 hin0 hin1 hc2 hc3 hi hk
  cases t2 : containsI ys k with
  | false =>
    rw [t2] at L2 HF
    go_enter Try.func60, Try.ntmps60
    go_wp2_with fail
    refine L2.out.mono ?_
    rintro e w1 ⟨rfl, rfl⟩
    go_wp2_with fail
    go_ret
    exact ⟨ret_bool HF.out.symm, hB⟩
  | true =>
    rw [t2, Bool.true_and] at HF
    rw [t2] at L2
    go_enter Try.func60, Try.ntmps60
    go_wp2_with fail
    refine L2.out.mono ?_
    rintro e w1 ⟨rfl, rfl⟩
    go_wp2_with fail
    refine L3.out.mono ?_
    rintro e w1 ⟨rfl, rfl⟩
    go_wp2_with fail
    go_ret
    exact ⟨ret_bool HF.out.symm, hB⟩
theorem place_any (w : World) (a : Option Addr) (c : Nat) (xs : List Int) (x : Int) (h : Rd w w.heap.size a (ints xs)) (hl : xs.length ≤ 1048576) :
    Calls Try.prog 70 #[.slice a xs.length c, .int .i64 x] w fun e w' => e = .returned (.int .i64 (placeI xs x)) ∧ w = w' := by
  have L := Lib.hid (index_any w a c xs x h (by omega))
  have HF : Hid (placeI xs x = if indexI xs x < 0 then (xs.length : Int) else indexI xs x) := rfl
  clear h
  generalize indexI xs x = q at *
  by_cases hq : q < 0
  · rw [if_pos hq] at HF
    go_enter Try.func70, Try.ntmps70
    go_wp2_with (go_at_call 97; refine L.out.mono ?_; rintro e w' ⟨rfl, rfl⟩)
    go_ret
    exact ⟨ret_int HF.out.symm, rfl⟩
  · rw [if_neg hq] at HF
    go_enter Try.func70, Try.ntmps70
    go_wp2_with (go_at_call 97; refine L.out.mono ?_; rintro e w' ⟨rfl, rfl⟩)
    go_ret
    exact ⟨ret_int HF.out.symm, rfl⟩
theorem dearer_any (w : World) (a : Option Addr) (c : Nat) (xs : List Int) (x y : Int) (h : Rd w w.heap.size a (ints xs)) (hl : xs.length ≤ 1048576) :
    Calls Try.prog 61 #[.slice a xs.length c, .int .i64 x, .int .i64 y] w fun e w' => e = .returned (.bool (dearI xs x y)) ∧ w = w' := by
  have L1 := Lib.hid (place_any w a c xs x h hl)
  have L2 := Lib.hid (place_any w a c xs y h hl)
  have HF : Hid (dearI xs x y = decide (placeI xs x < placeI xs y)) := rfl
  clear h
  generalize placeI xs x = p at *
  generalize placeI xs y = q at *
  go_enter Try.func61, Try.ntmps61
  go_wp2_with fail
  refine L1.out.mono ?_
  rintro e w1 ⟨rfl, rfl⟩
  go_wp2_with fail
  refine L2.out.mono ?_
  rintro e w1 ⟨rfl, rfl⟩
  go_wp2_with fail
  go_ret
  exact ⟨ret_bool HF.out.symm, rfl⟩
end Go.Proofs.Ytchfibmndcfpiaa
namespace Go.Proofs.Ytchfibmndcfpiaa
set_option linter.unusedVariables false
set_option linter.unusedSimpArgs false
open Go.RowKit

theorem append_manyC {P : Program} (wr : World) {ops : Array Oper} {rest : List Oper} {o : Oper} {a : Act} {Q : Exit → Act → World → Prop}
    (hg : o.guard = none) (s x : Operand) (t : TypeId) (hop : o.op = Op.call { callee := Callee.builtin Builtin.append, args := #[s, x], argTypes := #[t, t] })
    (base : Nat) (e : TypeId) (z : Value) (bytes : Nat) (h1 : P.underlying t = some (.slice e)) (hinfo : (P.info? e).map (fun i => (i.zero, i.size, i.bytes)) = some (some z, 1, bytes)) (hz : z.cells.size = 1)
    (v : Value) (n : Nat) (xs : List Int) (hs : a.eval s = v) (hown : wr.ownsRow base e 1 v n (ints xs)) (b off m c : Nat) (ys : List Int) (hx : a.eval x = .slice (some ⟨b, off, none⟩) m c) (hm : ys.length = m)
    (hcell : ∀ j, j < m → wr.cell? ⟨b, off + j, none⟩ = some (.int .i64 (ys.getD j 0))) (hb : bytes ≤ 64) (hn : n + m ≤ 1099511627776) (hbase : base ≤ wr.heap.size)
    (hK : ∀ v' w', w'.ownsRow base e 1 v' (n + m) (ints (xs ++ ys)) → wr.grownBy w' v.ownBlock → wpList P ops Q rest (a.put o.dst v') w') :
    wpList P ops Q (o :: rest) a wr := by
  obtain ⟨i, h2, h3, h4, h5⟩ := info_parts hinfo
  have hbb : (n + m) * bytes ≤ 140737488355328 := Nat.le_trans (Nat.mul_le_mul_left (n + m) hb) (by omega)
  refine wpList_append_own wr hg s x t hop base e i z 1 bytes h1 h2 h3 h4 h5 hz (by omega) v n (ints xs) hs hown ⟨b, off, none⟩ m c (ints ys) hx (by simp; omega) ?_ ?_ (by unfold maxLen; omega) hbb hbase (fun v' w' ho hgr _ => hK v' w' (by rw [ints_append]; exact ho) hgr)
  · intro j u hj
    have hj' : j < m := by have := (List.getElem?_eq_some_iff.1 hj).1; simp at this; omega
    have ea : (⟨b, off, none⟩ : Addr).add j = ⟨b, off + j, none⟩ := by unfold Addr.add; split <;> simp_all
    rw [ea, hcell j hj', ← hj, ints_get _ _ (by omega)]
  · intro u hu
    obtain ⟨x, _, rfl⟩ := List.mem_map.1 hu
    rfl
theorem own_emptyC (w : World) (e : Nat) : (w.alloc (.cells #[] e)).ownsRow w.heap.size e 1 (.slice (some ⟨w.heap.size, 0, none⟩) 0 0) 0 (ints []) := own_empty w e
set_option maxRecDepth 10000 in
set_option maxHeartbeats 2000000 in
theorem clone_any (w : World) (a : Option Addr) (c : Nat) (xs : List Int) (h : Rd w w.heap.size a (ints xs)) (hl1 : 1 ≤ xs.length) (hl : xs.length ≤ 1048576) :
    Calls Try.prog 54 #[.slice a xs.length c] w fun e w' => ∃ a' c', e = .returned (.slice a' xs.length c') ∧ OwnI 2 w' w.heap.size w'.heap.size a' c' xs ∧ Below w.heap.size w w' := by
  obtain ⟨b, o, rfl, hb, hcell⟩ := h.at (k := 0) (by omega)
  clear h
  have hen := fun (w : World) (a : Option Addr) (n c : Nat) => Lib.run_eql_slice_nil (P := Try.prog) w 31 2 a n c 0 0 Try.underlying31
  go_enter Try.func54, Try.ntmps54
  go_wp2_with (at_builtin; refine append_manyC _ rfl _ _ 31 rfl w.heap.size 2 (.int .i64 0) 8 Try.underlying31 info_i64p rfl _ 0 [] rfl (own_emptyC w 2) b o xs.length c xs rfl rfl ?_ (by omega) (by omega) (by simp) ?_)
  · intro j hj
    rw [(bl1 w _).cell (p := ⟨b, o + j, none⟩) hb, hcell j hj]
  intro v1 w1 o1 g1
  have B1 := below_append (bl1 w (.cells #[] 2)) (own_emptyC w 2) g1 (Nat.le_refl _) (by simp)
  obtain ⟨a1, c1, rfl, _, _⟩ := own_shape o1
  have HR : Hid (OwnI 2 w1 w.heap.size w1.heap.size a1 c1 xs) := OwnI.of_own (by simpa using o1)
  clear o1 g1 hcell
  go_wp2_with fail
  go_ret
  exact ⟨_, _, by simp, HR.out, B1⟩
end Go.Proofs.Ytchfibmndcfpiaa
namespace Go.Proofs.Ytchfibmndcfpiaa
set_option linter.unusedVariables false
set_option linter.unusedSimpArgs false
open Go.RowKit

/-- What append gives back lies where the row lay, or in a block that is new. -/
theorem append_block {P : Program} (w : World) (base : Nat) (t ty e : TypeId) (i : TypeInfo) (z : Value) (ht : P.underlying t = some (.slice e)) (hi : P.info? e = some i) (hz : i.zero = some z) (hsize : i.size = 1)
    (v : Value) (n : Nat) (xs : List Value) (hown : w.ownsRow base e 1 v n xs) (a : Addr) (m c : Nat) (news : List Value) (hl : news.length = m * 1) (hnews : ∀ j u, news[j]? = some u → w.cell? (a.add j) = some u) (h1 : ∀ u ∈ news, u.oneCell' = true)
    (hm : 0 < m) (h63 : n + m ≤ maxLen) (hbytes : (n + m) * i.bytes ≤ 140737488355328) {v' : Value} {w' : World} (hr : (Builtin.append_ #[t, t] ty #[v, .slice (some a) m c]).run P w = .ok v' w') :
    v'.ownBlock = v.ownBlock ∨ v'.ownBlock = some w.heap.size := by
  have hsmall : n + m ≤ 9223372036854775807 := by simp only [maxLen] at h63; omega
  rw [← hsize] at hl
  rcases hown.2 with ⟨rfl, rfl⟩ | ⟨g, cap, cur, rfl, hbg, hg, hnc, hcm, hcs, htake⟩
  · have hr2 := run_append_nil (P := P) w t ty e i z ht hi hz a m c news hl hnews (by omega) (by omega) (by have hb := hbytes; simp only [Nat.zero_add] at hb; omega)
    rw [hr2] at hr
    injection hr with hr _
    subst hr
    exact .inr rfl
  · by_cases hroom : n + m ≤ cap
    · have hfit : n * i.size + news.length ≤ cur.size := by rw [hl, hcs, hsize, ← Nat.add_mul]; exact Nat.mul_le_mul_right _ hroom
      have hr2 := run_append_room (P := P) w t ty e i ht hi g n cap cur hg a m c news hl hnews h1 hroom hfit
      rw [hr2] at hr
      injection hr with hr _
      subst hr
      exact .inl rfl
    · have holds : ∀ j u, xs[j]? = some u → w.cell? ((⟨g, 0, none⟩ : Addr).add j) = some u := hown.cells (g := g) rfl
      have hr2 := run_append_grow (P := P) w t ty e i z ht hi hz ⟨g, 0, none⟩ n cap xs (by rw [hsize]; exact hown.1) holds a m c news hl hnews (by omega) (by omega) (growslice_fits (by omega) hbytes)
      rw [hr2] at hr
      injection hr with hr _
      subst hr
      exact .inr rfl

theorem wpList_append_blk {P : Program} (wr : World) {ops : Array Oper} {rest : List Oper} {o : Oper} {a : Act} {Q : Exit → Act → World → Prop}
    (hg : o.guard = none) (s x : Operand) (t : TypeId) (hop : o.op = Op.call { callee := Callee.builtin Builtin.append, args := #[s, x], argTypes := #[t, t] })
    (base : Nat) (e : TypeId) (z : Value) (bytes : Nat) (h1 : P.underlying t = some (.slice e)) (hinfo : (P.info? e).map (fun i => (i.zero, i.size, i.bytes)) = some (some z, 1, bytes)) (hz : z.cells.size = 1)
    (v : Value) (n : Nat) (xs : List Value) (hs : a.eval s = v) (hown : wr.ownsRow base e 1 v n xs) (y : Value) (hy : y.oneCell' = true)
    (hx : a.eval x = .slice (some ⟨wr.heap.size, 0, none⟩) 1 1) (hb : bytes ≤ 64) (hn : n ≤ 1099511627776) (hbase : base ≤ wr.heap.size)
    (hK : ∀ v' w', w'.ownsRow base e 1 v' (n + 1) (xs ++ [y]) → wr.grownBy w' v.ownBlock → (∀ g, g < wr.heap.size → some g ≠ v.ownBlock → some g ≠ v'.ownBlock) → wpList P ops Q rest (a.put o.dst v') w') :
    wpList P ops Q (o :: rest) a (wr.alloc (.cells #[y] e)) := by
  obtain ⟨i, h2, h3, h4, h5⟩ := info_parts hinfo
  have hbb : (n + 1) * bytes ≤ 140737488355328 := Nat.le_trans (Nat.mul_le_mul_left (n + 1) hb) (by omega)
  have hnews : ∀ j u, [y][j]? = some u → (wr.alloc (.cells #[y] e)).cell? ((⟨wr.heap.size, 0, none⟩ : Addr).add j) = some u := by
    intro j u hj
    match j, hj with
    | 0, hj =>
      simp at hj
      subst hj
      simp [Addr.add]
    | j + 1, hj => simp at hj
  have hone : ∀ u ∈ [y], u.oneCell' = true := by
    intro u hu
    simp at hu
    subst hu
    exact hy
  refine wpList_plain hg fun _ hK' => ?_
  obtain ⟨v', w', hr, ho, hgr, _⟩ := run_append_own (P := P) (wr.alloc (.cells #[y] e)) base t o.type e i z 1 bytes h1 h2 h3 h4 h5 hz (by omega) v n xs (hown.alloc _) ⟨wr.heap.size, 0, none⟩ 1 1 [y] rfl hnews hone (by unfold maxLen; omega) hbb (by simp; omega)
  have hblk := append_block (wr.alloc (.cells #[y] e)) base t o.type e i z h1 h2 h3 h4 v n xs (hown.alloc _) ⟨wr.heap.size, 0, none⟩ 1 1 [y] rfl hnews hone (by omega) (by unfold maxLen; omega) (by rw [h5]; exact hbb) hr
  unfold Oper.wp execOp
  simp only [hop, resolve, invoke, builtin, Sem.run_bind, Sem.run_pure, Result.andThen_ok, List.map_toArray, List.map_cons, List.map_nil, hs, hx, hr]
  refine hK' _ _ (hK v' w' ho ⟨hgr.os, hgr.tape, hgr.output, ?_, fun k hk hne => ?_⟩ fun g hgl hgv hgv' => ?_)
  · have := hgr.size; simp at this; omega
  · rw [hgr.block k (by simp; omega) hne]
    exact Below.heap_alloc _ _ _ hk
  · rcases hblk with h | h
    · exact hgv (hgv'.trans h)
    · rw [h] at hgv'
      injection hgv' with hgv'
      simp at hgv'
      omega

/-- Two rows in blocks of their own. -/
def Apart (u v : Value) : Prop := ∀ g, u.ownBlock = some g → v.ownBlock ≠ some g
theorem Apart.symm {u v : Value} (h : Apart u v) : Apart v u := fun g h1 h2 => h g h2 h1
theorem own_apart {w w' : World} {base e n : Nat} {u v : Value} {xs : List Value} (h : w.ownsRow base e 1 v n xs) (hg : w.grownBy w' u.ownBlock) (ha : Apart u v) : w'.ownsRow base e 1 v n xs := by
  refine h.kept hg ?_
  cases hv : v.ownBlock with
  | none => exact .inl rfl
  | some g => exact .inr (fun e => ha g e.symm hv)
theorem apart_grow {w : World} {base e n : Nat} {u u' v : Value} {xs : List Value} (h : w.ownsRow base e 1 v n xs) (ha : Apart u v) (hn : ∀ g, g < w.heap.size → some g ≠ u.ownBlock → some g ≠ u'.ownBlock) : Apart u' v :=
  fun g hu hv => hn g (h.lt g hv).2 (fun e => ha g e.symm hv) hu.symm
/-- A row of at least one, opened. -/
theorem own_open {w : World} {base e n c : Nat} {a : Option Addr} {xs : List Value} (h : w.ownsRow base e 1 (.slice a n c) n xs) (hn : 0 < n) :
    ∃ g tl, a = some ⟨g, 0, none⟩ ∧ base ≤ g ∧ Blk w g (xs ++ tl) e ∧ n ≤ c ∧ c ≤ maxLen ∧ (xs ++ tl).length = c := by
  rcases h.2 with ⟨h2, h3⟩ | ⟨g, cap, cur, hv, hg, hh, hn2, hm, hs, ht⟩
  · omega
  · injection hv with ha _ hc
    subst ha hc
    rw [Nat.mul_one] at hs ht
    refine ⟨g, cur.toList.drop n, rfl, hg, ?_, hn2, hm, ?_⟩
    · rw [← ht, List.take_append_drop]; exact hh
    · rw [← ht, List.take_append_drop]; simpa using hs
theorem own_close {w : World} {base e n c g : Nat} {xs tl : List Value} (h : Blk w g (xs ++ tl) e) (hg : base ≤ g) (hn : xs.length = n) (hnc : n ≤ c) (hm : c ≤ maxLen) (hl : (xs ++ tl).length = c) : w.ownsRow base e 1 (.slice (some ⟨g, 0, none⟩) n c) n xs :=
  ⟨by omega, .inr ⟨g, c, _, rfl, hg, h, hnc, hm, by simpa using hl, by rw [Nat.mul_one, ← hn]; exact List.take_left⟩⟩
theorem cell_app {w : World} {g T : Nat} {xs : List Int} {tl : List Value} (h : Blk w g (ints xs ++ tl) T) {j : Nat} (hj : j < xs.length) : w.cell? ⟨g, j, none⟩ = some (.int .i64 (xs.getD j 0)) := by
  rw [h.cell, List.getElem?_append_left (by simpa using hj)]
  exact ints_get xs j hj
theorem set_app {w : World} {g T : Nat} {xs : List Int} {tl : List Value} (h : Blk w g (ints xs ++ tl) T) {j : Nat} (hj : j < xs.length) (y : Int) : Blk (w.setCell ⟨g, j, none⟩ (.int .i64 y)) g (ints (xs.set j y) ++ tl) T := by
  have := h.set j (.int .i64 y)
  rwa [List.set_append_left _ _ (by simpa using hj), ← ints_set] at this
theorem rd_app {w : World} {g T B : Nat} {xs tl : List Value} (h : Blk w g (xs ++ tl) T) (hB : g < B) : Rd w B (some ⟨g, 0, none⟩) xs :=
  .inr ⟨g, 0, rfl, hB, fun j hj => by rw [Nat.zero_add, h.cell, List.getElem?_append_left hj]⟩
end Go.Proofs.Ytchfibmndcfpiaa
namespace Go.Proofs.Ytchfibmndcfpiaa
set_option linter.unusedVariables false
set_option linter.unusedSimpArgs false
open Go.RowKit

def partI (w : Wi) (m : List Int) (i : Nat) : Bool := decide (m.getD i 0 < 0) || pairB w i (m.getD i 0).toNat
set_option maxRecDepth 10000 in
set_option maxHeartbeats 4000000 in
theorem partners_any (w : World) (a0 : Option Addr) (c0 : Nat) (x0 : List (List Int)) (a1 : Option Addr) (c1 : Nat) (x1 : List (List Int)) (h : RdWishes w w.heap.size a0 x0 a1 x1) (hv : Wish ⟨x0, x1⟩) (hin0 : ∀ y ∈ x0, y.length ≤ 1048576) (hin1 : ∀ y ∈ x1, y.length ≤ 1048576)
    (a : Option Addr) (c : Nat) (m : List Int) (g : Rd w w.heap.size a (ints m)) (hl : m.length ≤ 1048576) :
    Calls Try.prog 58 #[.agg #[.slice a0 x0.length c0, .slice a1 x1.length c1], .slice a m.length c] w fun e w' => e = .returned (.bool (partnersB ⟨x0, x1⟩ m)) ∧ Below w.heap.size w w' := by
  have LC := Lib.hid (fun w' => count_any w' a0 c0 x0 a1 c1 x1)
  have LM := Lib.hid (fun w' hb => areWithin_any w' a c m (-1) ((x0.length : Int) - 1) (g.to hb) (by omega))
  have hB := bl1 w (.cells #[.slice a0 x0.length c0, .slice a1 x1.length c1] 27)
  have KA : Hid (∀ w', Below (w.heap.size + 1) (w.alloc (.cells #[.slice a0 x0.length c0, .slice a1 x1.length c1] 27)) w' → Blk w' w.heap.size [.slice a0 x0.length c0, .slice a1 x1.length c1] 27) := fun w' hb => (Blk.new w [.slice a0 x0.length c0, .slice a1 x1.length c1] 27).below hb (by omega)
  have h8 := hv.n8
  have h1 := hv.n1
  have hln := Lib.hid hv.len
  simp only at h8 h1 hln
  have LT : Hid (∀ (w' : World) (i k : Nat), Below w.heap.size w w' → i < x0.length → k < x0.length → _) := fun w' i k hb hi hk => take_any w' a0 c0 x0 a1 c1 x1 (h.to hb) hin0 hin1 i k hi (by rw [hln.out]; exact hk)
  have G := Lib.hid g
  have hwr : IntKind.i64.wrap ((x0.length : Int) - 1) = (x0.length : Int) - 1 := IntWalk.i64_in _ (by omega)
  clear h hin0 hin1 g hv
  by_cases hn : m.length = x0.length
  case neg =>
    have HF : Hid (partnersB ⟨x0, x1⟩ m = false) := by simp [Hid, partnersB, hn]
    have hne : ((m.length : Int) != (x0.length : Int)) = true := by simp; omega
    clear hn
    go_enter Try.func58, Try.ntmps58
    go_wp2_with fail
    refine (LC.out _).mono ?_
    rintro e w1 ⟨rfl, hb1⟩
    have B1 := below_then hB hb1
    clear hb1
    go_wp2_with fail
    go_ret
    exact ⟨ret_bool HF.out.symm, B1⟩
  have hne : ((m.length : Int) != (x0.length : Int)) = false := by simp; omega
  cases t1 : allIn m (-1) ((x0.length : Int) - 1) with
  | false =>
    have HF : Hid (partnersB ⟨x0, x1⟩ m = false) := by simp [Hid, partnersB, t1]
    rw [t1] at LM
    clear hn
    go_enter Try.func58, Try.ntmps58
    go_wp2_with fail
    refine (LC.out _).mono ?_
    rintro e w1 ⟨rfl, hb1⟩
    have B1 := below_then hB hb1
    have k1 := KA.out _ (by simpa using hb1)
    have q0 := k1.cell 0
    have q1 := k1.cell 1
    simp only [List.getElem?_cons_zero, List.getElem?_cons_succ] at q0 q1
    clear k1
    go_wp2_with fail
    refine (LC.out _).mono ?_
    rintro e w2 ⟨rfl, hb2⟩
    have B2 := below_then B1 hb2
    clear hb1 hb2 q0 q1
    go_wp2_with fail
    refine (LM.out _ B2).mono ?_
    rintro e w3 ⟨rfl, rfl⟩
    go_wp2_with fail
    go_ret
    exact ⟨ret_bool HF.out.symm, B2⟩
  | true =>
    have HF : Hid (partnersB ⟨x0, x1⟩ m = (List.range m.length).all (partI ⟨x0, x1⟩ m)) := by
      show _ = _
      unfold partnersB
      simp only [hn, t1, decide_true, Bool.true_and]
      rfl
    have HA := Lib.hid (allIn_iff.1 t1)
    rw [t1] at LM
    have HN := Lib.hid hn
    clear hn t1
    go_enter Try.func58, Try.ntmps58
    go_wp2_with fail
    refine (LC.out _).mono ?_
    rintro e w1 ⟨rfl, hb1⟩
    have B1 := below_then hB hb1
    have hb1' : Below (w.heap.size + 1) (w.alloc (.cells #[.slice a0 x0.length c0, .slice a1 x1.length c1] 27)) w1 := by simpa using hb1
    have k1 := KA.out _ hb1'
    have q0 := k1.cell 0
    have q1 := k1.cell 1
    simp only [List.getElem?_cons_zero, List.getElem?_cons_succ] at q0 q1
    clear k1
    go_wp2_with fail
    refine (LC.out _).mono ?_
    rintro e w2 ⟨rfl, hb2⟩
    have B2 := below_then B1 hb2
    have A2 := hb1'.trans (hb2.mono (by have := hb1'.size; simpa using this))
    clear hb1 hb2 q0 q1 hb1' B1
    go_wp2_with fail
    refine (LM.out _ B2).mono ?_
    rintro e w3 ⟨rfl, rfl⟩
    go_wp2_with fail
    go_loopw [22] (fun i wr => ∃ k : Nat, k ≤ m.length ∧ i = .int .i64 k ∧ Hid ((List.range k).all (partI ⟨x0, x1⟩ m) = true) ∧ Below w.heap.size w wr ∧ Below (w.heap.size + 1) (w.alloc (.cells #[.slice a0 x0.length c0, .slice a1 x1.length c1] 27)) wr) (fun i _ => m.length - (intOf i).toNat)
    case atStart => exact ⟨0, Nat.zero_le _, rfl, rfl, B2, A2⟩
    case round =>
      clear B2 A2
      obtain ⟨k, hk, rfl, ha, hw, hA⟩ := hrel
      by_cases hlt : k < m.length
      · obtain ⟨b, o, x, rfl, hbb, hck, hx⟩ := (G.out.to hw).get hlt
        have hbd := HA.out x (List.mem_of_getElem? hx.out)
        have hgd := getD_of_get hx.out
        have k1 := KA.out _ hA
        have q0 := k1.cell 0
        have q1 := k1.cell 1
        simp only [List.getElem?_cons_zero, List.getElem?_cons_succ] at q0 q1
        by_cases hx0 : x < 0
        · have HS : Hid ((List.range (k + 1)).all (partI ⟨x0, x1⟩ m) = true) := by
            rw [Hid, rangeAll_succ, ha.out, Bool.true_and]
            unfold partI
            rw [hgd, decide_eq_true hx0, Bool.true_or]
          clear hgd ha k1 q0 q1
          go_wp2_with fail
          go_roundw
          case rel => exact ⟨k + 1, by omega, by go_num, HS, hw, hA⟩
          case measure => simp [intOf]; omega
        · obtain ⟨y, rfl⟩ : ∃ y : Nat, x = y := ⟨x.toNat, by omega⟩
          have hy : y < x0.length := by omega
          have LT1 := Lib.hid (LT.out wr k y hw (by have := HN.out; omega) hy)
          have HP : Hid (partI ⟨x0, x1⟩ m k = pairB ⟨x0, x1⟩ k y) := by
            show _ = _
            unfold partI
            rw [hgd, decide_eq_false hx0, Bool.false_or, Int.toNat_natCast]
          clear hgd
          cases hp : pairB ⟨x0, x1⟩ k y with
          | true =>
            rw [hp] at LT1 HP
            have HS : Hid ((List.range (k + 1)).all (partI ⟨x0, x1⟩ m) = true) := by
              rw [Hid, rangeAll_succ, ha.out, HP.out]; rfl
            clear ha k1
            go_wp2_with fail
            refine LT1.out.mono ?_
            rintro e w3 ⟨rfl, hb3⟩
            have hw3 := below_then hw hb3
            have hA3 := hA.trans (hb3.mono (by have := hA.size; simpa using this))
            clear hb3 q0 q1 hw hA LT1
            go_wp2_with fail
            go_roundw
            case rel => exact ⟨k + 1, by omega, by go_num, HS, hw3, hA3⟩
            case measure => simp [intOf]; omega
          | false =>
            rw [hp] at LT1 HP
            have HS : Hid (partnersB ⟨x0, x1⟩ m = false) := by
              rw [Hid, HF.out]
              exact rangeAll_false hlt HP.out
            clear ha k1
            go_wp2_with fail
            refine LT1.out.mono ?_
            rintro e w3 ⟨rfl, hb3⟩
            have hw3 := below_then hw hb3
            clear hb3 q0 q1 hw hA LT1
            go_wp2_with fail
            go_ret
            exact ⟨ret_bool HS.out.symm, hw3⟩
      · have : k = m.length := by omega
        subst this
        have HS : Hid (partnersB ⟨x0, x1⟩ m = true) := HF.out.trans ha.out
        clear ha
        go_wp2_with fail
        go_ret
        exact ⟨ret_bool HS.out.symm, hw⟩
theorem isNobody_any (w : World) (x : Int) :
    Calls Try.prog 94 #[.int .i64 x] w fun e w' => e = .returned (.bool (decide (x < 0))) ∧ w = w' := by
  go_enter Try.func94, Try.ntmps94
  go_wp2
  go_ret
  exact ⟨rfl, rfl⟩
theorem blk_setCells {b : Nat} {t : TypeId} : ∀ (vs : List Value) (o : Nat) (w : World) (cs : List Value), Blk w b cs t → ∃ cs', Blk (w.setCells b o vs) b cs' t ∧ cs'.length = cs.length ∧ ∀ j, j < o → cs'[j]? = cs[j]?
  | [], o, w, cs, h => ⟨cs, h, rfl, fun _ _ => rfl⟩
  | v :: vs, o, w, cs, h => by
    obtain ⟨cs', h1, h2, h3⟩ := blk_setCells vs (o + 1) (w.setCell ⟨b, o, none⟩ v) _ (h.set o v)
    refine ⟨cs', h1, by rw [h2, List.length_set], fun j hj => ?_⟩
    rw [h3 j (by omega), List.getElem?_set_ne (by omega)]
theorem grown_setCells {b : Nat} : ∀ (vs : List Value) (o : Nat) (w : World), w.grownBy (w.setCells b o vs) (some b)
  | [], o, w => ⟨rfl, rfl, rfl, Nat.le_refl _, fun _ _ _ => rfl⟩
  | v :: vs, o, w => grown_of_grown (⟨rfl, rfl, rfl, by simp, fun i _ hi => Below.heap_setCell _ _ _ _ (fun e => hi (by simp [e]))⟩ : w.grownBy (w.setCell ⟨b, o, none⟩ v) (some b)) (grown_setCells vs (o + 1) (w.setCell ⟨b, o, none⟩ v))
theorem whoL_snoc {m : List Int} {k : Nat} {x : Int} (hx : m[k]? = some x) : whoL (m.take (k + 1)) = if x < 0 then whoL (m.take k) else whoL (m.take k) ++ [x] := by
  unfold whoL
  rw [List.take_add_one, hx, List.filter_append]
  by_cases h : x < 0
  · rw [if_pos h]; have : ¬ (0 ≤ x) := by omega
    simp [this]
  · rw [if_neg h]; have : (0 ≤ x) := by omega
    simp [this]
theorem whoL_len (m : List Int) (k : Nat) : (whoL (m.take k)).length ≤ k := Nat.le_trans (List.length_filter_le _ _) (by simp; omega)
theorem whoL_all {m : List Int} (h : ∀ j, j < m.length → decide (m.getD j 0 < 0) = false) : whoL m = m := by
  unfold whoL
  rw [List.filter_eq_self]
  intro x hx
  obtain ⟨j, hj, rfl⟩ := List.getElem_of_mem hx
  have := of_decide_eq_false (h j hj)
  rw [getD_eq hj] at this
  simp; omega
theorem whoL_pre {m : List Int} {k : Nat} (hk : k ≤ m.length) (h : ∀ j, j < k → decide (m.getD j 0 < 0) = false) : whoL (m.take k) = m.take k :=
  whoL_all fun j hj => by
    simp only [List.length_take] at hj
    have h2 := h j (by omega)
    have e : (m.take k).getD j 0 = m.getD j 0 := by simp [List.getD, List.getElem?_take, show j < k by omega]
    rw [e]; exact h2
set_option maxRecDepth 10000 in
set_option maxHeartbeats 4000000 in
theorem deleteNobody_any (w : World) (g c : Nat) (m : List Int) (tl : List Value) (h : Blk w g (ints m ++ tl) 2) (hc : m.length ≤ c) (hl : m.length ≤ 1048576) :
    Calls Try.prog 93 #[.slice (some ⟨g, 0, none⟩) m.length c, .func (.func 94) #[] #[]] w fun e w' => e = .returned (.slice (some ⟨g, 0, none⟩) (whoL m).length c) ∧ Rd w' w'.heap.size (some ⟨g, 0, none⟩) (ints (whoL m)) ∧ Below g w w' := by
  have hen : ∀ (args : Array Value) (w : World), (callFunc 94 args).run Try.prog w = .ok (.enter 94 args) w := fun _ _ => by kernel_rfl
  have hrd : Rd w w.heap.size (some ⟨g, 0, none⟩) (ints m) := .inr ⟨g, 0, rfl, h.lt, fun j hj => by rw [Nat.zero_add, h.cell, List.getElem?_append_left hj]⟩
  have LI := Lib.hid (indexFunc_I 94 #[] hen w (some ⟨g, 0, none⟩) c (ints m) (fun j => decide (m.getD j 0 < 0)) hrd (by simp; omega) (fun w' j v _ hj => by
    have hj' : j < m.length := by have := (List.getElem?_eq_some_iff.1 hj).1; simpa using this
    rw [ints_get _ _ hj'] at hj
    injection hj with hj
    subst hj
    exact (isNobody_any w' (m.getD j 0)).mono fun e w'' ⟨h1, h2⟩ => ⟨h1, by subst h2; exact Below.refl _ _⟩))
  simp only [ints_length] at LI
  have HK := Lib.hid h
  have hlt := h.lt
  clear h hrd
  rcases findI_spec (fun j => decide (m.getD j 0 < 0)) m.length with ⟨k0, hk0, hp, hbef, e1⟩ | ⟨hall, e1⟩
  case inr =>
    have hw := whoL_all hall
    rw [e1] at LI
    rw [hw]
    clear hall e1 hw
    go_enter Try.func93, Try.ntmps93
    go_wp2_with fail
    refine LI.out.mono ?_
    rintro e w1 ⟨rfl, hb1⟩
    have k1 := HK.out.same hb1
    go_wp2_with fail
    go_ret
    exact ⟨rfl, rd_app k1 k1.lt, hb1.mono (by omega)⟩
  case inl =>
    rw [e1] at LI
    have hpre := whoL_pre (m := m) (k := k0) (by omega) hbef
    have hx0 : m[k0]? = some (m.getD k0 0) := get_of_lt hk0
    have hw1 := whoL_snoc hx0
    rw [if_pos (of_decide_eq_true hp), hpre] at hw1
    have HW1 : Hid (whoL (m.take (k0 + 1)) = m.take k0) := hw1
    have hpl : (m.take k0).length = k0 := by simp; omega
    have HPL := Lib.hid hpl
    have hz : ∀ w : World, (zeroValue 2).run Try.prog w = .ok (.int .i64 0) w := fun _ => by kernel_rfl
    have hne1 : ((k0 : Int) == -1) = false := beq_eq_false_iff_ne.2 (by omega)
    clear hpre hx0 hw1 hp hbef e1 hpl hen
    go_enter Try.func93, Try.ntmps93
    go_wp2_with fail
    refine LI.out.mono ?_
    rintro e w1 ⟨rfl, hb1⟩
    have k1 := Lib.hid (HK.out.same hb1)
    have B1 := hb1.mono (show g ≤ w.heap.size by omega)
    have hg1 : g < w1.heap.size := k1.out.lt
    clear hb1 HK LI
    go_wp2_with fail
    go_loopw [5, 6, 7] (fun iv jv _ wr => ∃ (i j : Nat) (ds : List Int), iv = .int .i64 i ∧ jv = .int .i64 j ∧ i < j ∧ j ≤ m.length ∧ ds.length = m.length ∧ Hid (ds.take i = whoL (m.take j)) ∧ Hid (∀ t, j ≤ t → ds[t]? = m[t]?) ∧ Hid (Blk wr g (ints ds ++ tl) 2) ∧ Below g w wr) (fun _ jv _ _ => m.length - (intOf jv).toNat)
    case atStart => exact ⟨k0, k0 + 1, m, rfl, by go_num, by omega, by omega, rfl, HW1.out.symm, fun _ _ => rfl, k1.out, B1⟩
    case round =>
      clear k1 B1 hg1
      obtain ⟨i, j, ds, rfl, rfl, hij, hj, hdl, htk, hrest, hK, hB⟩ := hrel
      by_cases hlt' : j < m.length
      · have hx : m[j]? = some (m.getD j 0) := get_of_lt hlt'
        have hd : ds[j]? = some (m.getD j 0) := by rw [hrest.out j (Nat.le_refl _), hx]
        have cj : wr.cell? ⟨g, j, none⟩ = some (.int .i64 (m.getD j 0)) := by
          rw [cell_app hK.out (by omega), getD_of_get hd]
        have ci : wr.cell? ⟨g, i, none⟩ = some (.int .i64 (ds.getD i 0)) := cell_app hK.out (by omega)
        have fi := hK.out.free i
        have hsn := whoL_snoc hx
        generalize m.getD j 0 = x at *
        have LN := Lib.hid (fun w => isNobody_any w x)
        have j0 : (0 : Int) ≤ (j : Int) := Int.natCast_nonneg _
        have i0 : (0 : Int) ≤ (i : Int) := Int.natCast_nonneg _
        have j1 : (j : Int) < (m.length : Int) := by omega
        have i1 : (i : Int) < (m.length : Int) := by omega
        by_cases hx0 : x < 0
        · rw [if_pos hx0] at hsn
          have HT : Hid (ds.take i = whoL (m.take (j + 1))) := by rw [Hid, htk.out, hsn]
          rw [decide_eq_true hx0] at LN
          clear hx hd hsn
          go_wp2_with fail
          refine (LN.out _).mono ?_
          rintro e w2 ⟨rfl, rfl⟩
          clear cj ci fi
          go_wp2_with fail
          go_roundw
          case rel => exact ⟨i, j + 1, ds, rfl, by go_num, by omega, by omega, hdl, HT, fun t ht => hrest.out t (by omega), hK, hB⟩
          case measure => simp [intOf]; omega
        · rw [if_neg hx0] at hsn
          have HT : Hid ((ds.set i x).take (i + 1) = whoL (m.take (j + 1))) := by
            rw [Hid, hsn, ← htk.out, List.take_add_one, List.take_set_of_le (Nat.le_refl _)]
            simp [show i < ds.length by omega]
          have HR : Hid (∀ t, j + 1 ≤ t → (ds.set i x)[t]? = m[t]?) := fun t ht => by
            rw [List.getElem?_set_ne (by omega)]; exact hrest.out t (by omega)
          rw [decide_eq_false hx0] at LN
          have HK2 := Lib.hid (set_app hK.out (j := i) (by omega) x)
          have HB2 := below_sto hB (g := g) (Nat.le_refl _) i (.int .i64 x)
          have hdl2 : (ds.set i x).length = m.length := by simp [hdl]
          clear hx hd hsn hK
          go_wp2_with fail
          refine (LN.out _).mono ?_
          rintro e w2 ⟨rfl, rfl⟩
          go_wp2_with fail
          go_roundw
          case rel => exact ⟨i + 1, j + 1, ds.set i x, by go_num, by go_num, by omega, by omega, hdl2, HT, HR, HK2, HB2⟩
          case measure => simp [intOf]; omega
      · have : j = m.length := by omega
        subst this
        have hcl : ∀ ty, (Builtin.clear_ #[31] ty #[.slice (some ⟨g, i, none⟩) (m.length - i) (c - i)]).run Try.prog wr = .ok (.tuple #[]) (wr.setCells g i (List.replicate (m.length - i) (.int .i64 0))) :=
          fun ty => Lib.run_clear_slice wr _ _ ty _ Try.underlying31 hz rfl rfl g i _ _ (by omega) (fun t ht => by rw [cell_app hK.out (j := i + t) (by omega)]; rfl) (fun t ht => hK.out.free _)
        have HRD : Hid ((whoL m).length = i ∧ Rd (wr.setCells g i (List.replicate (m.length - i) (.int .i64 0))) (wr.setCells g i (List.replicate (m.length - i) (.int .i64 0))).heap.size (some ⟨g, 0, none⟩) (ints (whoL m))) := by
          have ht := htk.out
          rw [List.take_length] at ht
          have hle : (whoL m).length = i := by rw [← ht]; simp; omega
          refine ⟨hle, ?_⟩
          obtain ⟨cs', h1, h2, h3⟩ := blk_setCells (List.replicate (m.length - i) (.int .i64 0)) i wr _ hK.out
          refine .inr ⟨g, 0, rfl, h1.lt, fun q hq => ?_⟩
          rw [ints_length, hle] at hq
          rw [Nat.zero_add, h1.cell, h3 q hq, List.getElem?_append_left (by simp; omega), ← ht, ints_get _ _ (by omega), ints_get _ _ (by simp; omega)]
          simp [List.getD, List.getElem?_take, hq]
        have HB2 : Hid (Below g w (wr.setCells g i (List.replicate (m.length - i) (.int .i64 0)))) := hB.grown (grown_setCells _ _ _) (Nat.le_of_lt hK.out.lt) (fun k hk => by injection hk with hk; omega)
        clear hrest htk hK
        go_wp2_with fail
        go_ret
        exact ⟨by rw [HRD.out.1]; rfl, HRD.out.2, HB2.out⟩
end Go.Proofs.Ytchfibmndcfpiaa
namespace Go.Proofs.Ytchfibmndcfpiaa
set_option linter.unusedVariables false
set_option linter.unusedSimpArgs false
open Go.RowKit

def bA : Option (Nat × Nat) → Int
  | none => 0
  | some p => p.1
def bZ : Option (Nat × Nat) → Int
  | none => 0
  | some p => p.2
set_option maxRecDepth 10000 in
set_option maxHeartbeats 4000000 in
theorem isMatchW_any (w : World) (a0 : Option Addr) (c0 : Nat) (x0 : List (List Int)) (a1 : Option Addr) (c1 : Nat) (x1 : List (List Int)) (h : RdWishes w w.heap.size a0 x0 a1 x1) (hv : Wish ⟨x0, x1⟩) (hin0 : ∀ y ∈ x0, y.length ≤ 1048576) (hin1 : ∀ y ∈ x1, y.length ≤ 1048576)
    (a : Option Addr) (c : Nat) (m : List Int) (g : Rd w w.heap.size a (ints m)) (hl : m.length ≤ 1048576) :
    Calls Try.prog 55 #[.agg #[.slice a0 x0.length c0, .slice a1 x1.length c1], .slice a m.length c] w fun e w' => e = .returned (.bool (matchB ⟨x0, x1⟩ m)) ∧ Below w.heap.size w w' := by
  have hB := bl1 w (.cells #[.slice a0 x0.length c0, .slice a1 x1.length c1] 27)
  have LP := Lib.hid (partners_any _ a0 c0 x0 a1 c1 x1 (h.to hB) hv hin0 hin1 a c m (g.to hB) hl)
  have HE : Hid (matchB ⟨x0, x1⟩ m = (partnersB ⟨x0, x1⟩ m && decide (whoL m).Nodup)) := by rw [Hid, ← isMatch_eq]; rfl
  have G := Lib.hid g
  have h1 := hv.n1
  simp only at h1
  clear h hin0 hin1 g hv
  cases t1 : partnersB ⟨x0, x1⟩ m with
  | false =>
    rw [t1] at LP HE
    go_enter Try.func55, Try.ntmps55
    go_wp2_with fail
    refine LP.out.mono ?_
    rintro e w1 ⟨rfl, hb1⟩
    have B1 := below_then hB hb1
    clear hb1
    go_wp2_with fail
    go_ret
    exact ⟨ret_bool HE.out.symm, B1⟩
  | true =>
    have hn := (partners_iff.1 t1).1
    simp only at hn
    have hm1 : 1 ≤ m.length := by omega
    rw [t1, Bool.true_and] at HE
    rw [t1] at LP
    clear t1 hn h1
    have LC := Lib.hid (fun w' hb => clone_any w' a c m (G.out.to hb) hm1 hl)
    go_enter Try.func55, Try.ntmps55
    go_wp2_with fail
    refine LP.out.mono ?_
    rintro e w1 ⟨rfl, hb1⟩
    have B1 := below_then hB hb1
    clear hb1
    go_wp2_with fail
    refine (LC.out _ B1).mono ?_
    rintro e w2 ⟨a2, c2, rfl, o2, hb2⟩
    have B2 := below_then B1 hb2
    obtain ⟨g2, tl, rfl, hg2, k2, hc2, _, _⟩ := own_open o2.1 (by omega)
    have LD := Lib.hid (deleteNobody_any w2 g2 c2 m tl k2 hc2 hl)
    have hg2' : w.heap.size ≤ g2 := by have := B1.size; omega
    clear hb2 o2 k2
    go_wp2_with fail
    refine LD.out.mono ?_
    rintro e w3 ⟨rfl, r3, hb3⟩
    have B3 := B2.trans (hb3.mono hg2')
    have hwl : (whoL m).length ≤ m.length := List.length_filter_le _ _
    have LT := Lib.hid (hasTwice_any w3 (some ⟨g2, 0, none⟩) c2 (whoL m) r3 (by omega) (by omega))
    have HE2 : Hid (matchB ⟨x0, x1⟩ m = !twiceB (whoL m)) := by rw [Hid, HE.out]; simp [twiceB]
    clear hb3 r3 hwl
    go_wp2_with fail
    refine LT.out.mono ?_
    rintro e w4 ⟨rfl, rfl⟩
    go_wp2_with fail
    go_ret
    exact ⟨ret_bool HE2.out.symm, B3⟩
set_option maxRecDepth 10000 in
set_option maxHeartbeats 4000000 in
theorem isMatchI_any (w : World) (a0 : Option Addr) (c0 : Nat) (x0 : List (List Int)) (a1 : Option Addr) (c1 : Nat) (x1 : List (List Int)) (a : Option Addr) (c : Nat) (m : List Int) (h : RdWishes w w.heap.size a0 x0 a1 x1) (hl0 : x0.length ≤ 1048576) (hin0 : ∀ y ∈ x0, y.length ≤ 1048576) (hl1 : x1.length ≤ 1048576) (hin1 : ∀ y ∈ x1, y.length ≤ 1048576)
    (g : Rd w w.heap.size a (ints m)) (hl : m.length ≤ 1048576) :
    Calls Try.prog 33 #[.agg #[.slice a0 x0.length c0, .slice a1 x1.length c1], .slice a m.length c] w fun e w' => e = .returned (.bool (wishB ⟨x0, x1⟩ && matchB ⟨x0, x1⟩ m)) ∧ Below w.heap.size w w' := by
  have hB := bl1 w (.cells #[.slice a0 x0.length c0, .slice a1 x1.length c1] 27)
  have LV := Lib.hid (validWishes_any _ a0 c0 x0 a1 c1 x1 (h.to hB) hl0 hin0 hl1 hin1)
  cases t1 : wishB ⟨x0, x1⟩ with
  | false =>
    rw [t1] at LV
    clear h g hin0 hin1
    go_enter Try.func33, Try.ntmps33
    go_wp2_with fail
    refine LV.out.mono ?_
    rintro e w1 ⟨rfl, hb1⟩
    have B1 := below_then hB hb1
    clear hb1
    go_wp2_with fail
    go_ret
    exact ⟨rfl, B1⟩
  | true =>
    have LM := Lib.hid (fun w' hb => isMatchW_any w' a0 c0 x0 a1 c1 x1 (h.to hb) (wish_of t1) hin0 hin1 a c m (g.to hb) hl)
    rw [t1] at LV
    rw [Bool.true_and]
    generalize matchB ⟨x0, x1⟩ m = r at *
    clear h g hin0 hin1 t1
    go_enter Try.func33, Try.ntmps33
    go_wp2_with fail
    refine LV.out.mono ?_
    rintro e w1 ⟨rfl, hb1⟩
    have B1 := below_then hB hb1
    have k1 := (Blk.new w [.slice a0 x0.length c0, .slice a1 x1.length c1] 27).same hb1
    have q0 := k1.cell 0
    have q1 := k1.cell 1
    simp only [List.getElem?_cons_zero, List.getElem?_cons_succ] at q0 q1
    clear hb1 k1
    go_wp2_with fail
    refine (LM.out _ B1).mono ?_
    rintro e w2 ⟨rfl, hb2⟩
    have B2 := below_then B1 hb2
    clear hb2
    go_wp2_with fail
    go_ret
    exact ⟨rfl, B2⟩
end Go.Proofs.Ytchfibmndcfpiaa
namespace Go.Proofs.Ytchfibmndcfpiaa
set_option linter.unusedVariables false
set_option linter.unusedSimpArgs false
open Go.RowKit

/-- A world in which all that was there in w is as it was. -/
structure Later (w : World) where
  w' : World
  h : Below w.heap.size w w'
instance (w : World) : Nonempty (Later w) := ⟨⟨w, Below.refl _ w⟩⟩
section
variable {P : Program} {w : World}
theorem Later.cell (n : Later w) {p : Addr} {v : Value} (hp : p.block < w.heap.size) (hc : w.cell? p = some v) : n.w'.cell? p = some v := (n.h.cell (p := p) hp).trans hc
theorem later_of {f : FuncId} {args : Array Value} {n : Later w} {v : Value} (h : Calls P f args n.w' fun e w' => e = .returned v ∧ Below n.w'.heap.size n.w' w') :
    Calls P f args n.w' fun e w'' => e = .returned v ∧ ∃ m : Later w, w'' = m.w' := h.mono fun _ w'' ⟨h1, h2⟩ => ⟨h1, ⟨w'', below_then n.h h2⟩, rfl⟩
theorem later_same {f : FuncId} {args : Array Value} {n : Later w} {v : Value} (h : Calls P f args n.w' fun e w' => e = .returned v ∧ n.w' = w') :
    Calls P f args n.w' fun e w'' => e = .returned v ∧ ∃ m : Later w, w'' = m.w' := h.mono fun _ w'' ⟨h1, h2⟩ => ⟨h1, n, h2.symm⟩
theorem later_drew {f : FuncId} {args : Array Value} {n : Later w} {v : Value} (h : Calls P f args n.w' fun e w' => e = .returned v ∧ ∃ k, w' = n.w'.drewN k) :
    Calls P f args n.w' fun e w'' => e = .returned v ∧ ∃ m : Later w, w'' = m.w' := h.mono fun _ w'' ⟨h1, k, h2⟩ => ⟨h1, ⟨w'', by rw [h2]; exact below_drewN n.h k⟩, rfl⟩
theorem wp_region_later {id : Nat} {Q : Exit → Act → World → Prop} {a : Act} {l : List Oper} (hm : P.follows .mixedOrders = true) (hB : Region.lexB .any l.toArray = true)
    (h : wpQuiet P l.toArray (fun w' => ∃ n : Later w, w' = n.w') (fun a' => ∀ w', (∃ n : Later w, w' = n.w') → Q .normal a' w') l a) : (Code.region id l.toArray true).wp P Q a w :=
  wp_region_quiet (C := fun w' => ∃ n : Later w, w' = n.w') hm hB ⟨⟨w.drew, below_drew' (Below.refl _ w)⟩, rfl⟩ (by simpa using h)
end
end Go.Proofs.Ytchfibmndcfpiaa
namespace Go.Proofs.Ytchfibmndcfpiaa
set_option linter.unusedVariables false
set_option linter.unusedSimpArgs false
open Go.RowKit

set_option maxRecDepth 10000 in
set_option maxHeartbeats 8000000 in
theorem block_any (w : World) (a0 : Option Addr) (c0 : Nat) (x0 : List (List Int)) (a1 : Option Addr) (c1 : Nat) (x1 : List (List Int)) (h : RdWishes w w.heap.size a0 x0 a1 x1) (hv : Wish ⟨x0, x1⟩) (hin0 : ∀ y ∈ x0, y.length ≤ 1048576) (hin1 : ∀ y ∈ x1, y.length ≤ 1048576)
    (a : Option Addr) (c : Nat) (m : List Int) (g : Rd w w.heap.size a (ints m)) (hl : m.length = x0.length) :
    Calls Try.prog 76 #[.agg #[.slice a0 x0.length c0, .slice a1 x1.length c1], .slice a m.length c] w fun e w' => e = .returned (.tuple #[.int .i64 (bA (first2 x0.length (blocksI ⟨x0, x1⟩ m))), .int .i64 (bZ (first2 x0.length (blocksI ⟨x0, x1⟩ m))), .bool (first2 x0.length (blocksI ⟨x0, x1⟩ m)).isSome]) ∧ Below w.heap.size w w' := by
  obtain ⟨n, hn⟩ : ∃ n, n = x0.length := ⟨_, rfl⟩
  have hB := bl1 w (.cells #[.slice a0 x0.length c0, .slice a1 x1.length c1] 27)
  have KA : Hid (∀ w', Below (w.heap.size + 1) (w.alloc (.cells #[.slice a0 x0.length c0, .slice a1 x1.length c1] 27)) w' → Blk w' w.heap.size [.slice a0 x0.length c0, .slice a1 x1.length c1] 27) := fun w' hb => (Blk.new w [.slice a0 x0.length c0, .slice a1 x1.length c1] 27).below hb (by omega)
  have h8 := hv.n8
  have h1 := hv.n1
  have hln := Lib.hid hv.len
  simp only at h8 h1 hln
  have LC := Lib.hid (fun w' => count_any w' a0 c0 x0 a1 c1 x1)
  have LT : Hid (∀ (w' : World) (i k : Nat), Below w.heap.size w w' → i < n → k < n → _) := fun w' i k hb hi hk => take_any w' a0 c0 x0 a1 c1 x1 (h.to hb) hin0 hin1 i k (by omega) (by rw [hln.out]; omega)
  have LI := Lib.hid (fun w' hb (k : Int) => index_any w' a c m k (g.to hb) (by omega))
  have LD := Lib.hid (fun w' a c ys x y => dearer_any w' a c ys x y)
  have Hh := Lib.hid h
  have G := Lib.hid g
  have Hin0 := Lib.hid hin0
  have Hin1 := Lib.hid hin1
  have Hl : Hid (m.length = n) := by rw [hn]; exact hl
  have Hbl : Hid (∀ i k ys zs x, i < n → k < n → x0[i]? = some ys → x1[k]? = some zs → m[i]? = some x → blocksI ⟨x0, x1⟩ m i k = (pairB ⟨x0, x1⟩ i k && dearI ys k x && dearI zs i (indexI m k))) := by
    intro i k ys zs x _ _ e1 e2 e3
    unfold blocksI
    simp only [row_get e1, row_get e2, getD_of_get e3]
  have HH : Hid (∀ i k, i < n → k < n → blocksI ⟨x0, x1⟩ m i k = true → (∀ i' k', i' < i → k' < n → blocksI ⟨x0, x1⟩ m i' k' = false) → (∀ k', k' < k → blocksI ⟨x0, x1⟩ m i k' = false) → first2 n (blocksI ⟨x0, x1⟩ m) = some (i, k)) := fun i k h1 h2 h3 h4 h5 => first2_here h1 h2 h3 h4 h5
  have HZ : Hid ((∀ i k, i < n → k < n → blocksI ⟨x0, x1⟩ m i k = false) → first2 n (blocksI ⟨x0, x1⟩ m) = none) := fun hh => first2_none.2 hh
  rw [← hn]
  have Hn := Lib.hid hn
  rw [← hn] at h8 h1
  generalize hbf : blocksI ⟨x0, x1⟩ m = bf at *
  generalize hFF : first2 n bf = FF at *
  clear h g hv hin0 hin1 hbf hFF hl hn
  rw [← Hn.out] at KA LC hB LT
  go_enter Try.func76, Try.ntmps76
  go_wp2_with fail
  refine (LC.out _).mono ?_
  rintro e w1 ⟨rfl, hb1⟩
  have B1 := below_then hB hb1
  have A1 : Below (w.heap.size + 1) (w.alloc (.cells #[.slice a0 n c0, .slice a1 x1.length c1] 27)) w1 := by simpa using hb1
  clear hb1 hB
  go_wp2_with fail
  go_loopw [11] (fun iv wr => ∃ i : Nat, i ≤ n ∧ iv = .int .i64 i ∧ Hid (∀ i' k', i' < i → k' < n → bf i' k' = false) ∧ Below w.heap.size w wr ∧ Below (w.heap.size + 1) (w.alloc (.cells #[.slice a0 n c0, .slice a1 x1.length c1] 27)) wr) (fun iv _ => n - (intOf iv).toNat)
  case atStart => exact ⟨0, Nat.zero_le _, rfl, fun _ _ h => by omega, B1, A1⟩
  case round =>
    clear B1 A1
    obtain ⟨i, hi, rfl, hrows, hw, hA⟩ := hrel
    by_cases hlt : i < n
    · have k1 := KA.out _ hA
      have q0 := k1.cell 0
      have q1 := k1.cell 1
      simp only [List.getElem?_cons_zero, List.getElem?_cons_succ] at q0 q1
      clear k1
      go_wp2_with fail
      refine (LC.out _).mono ?_
      rintro e w2 ⟨rfl, hb2⟩
      have hw2 := below_then hw hb2
      have hA2 := hA.trans (hb2.mono (by have := hA.size; simpa using this))
      clear hb2 hw hA q0 q1
      go_wp2_with fail
      go_loopw [16] (fun kv wr => ∃ k : Nat, k ≤ n ∧ kv = .int .i64 k ∧ Hid (∀ k', k' < k → bf i k' = false) ∧ Below w.heap.size w wr ∧ Below (w.heap.size + 1) (w.alloc (.cells #[.slice a0 n c0, .slice a1 x1.length c1] 27)) wr) (fun kv _ => n - (intOf kv).toNat)
      case atStart => exact ⟨0, Nat.zero_le _, rfl, fun _ h => by omega, hw2, hA2⟩
      case round =>
        clear hw2 hA2
        obtain ⟨k, hk, rfl, hcols, hw, hA⟩ := hrel
        by_cases hlk : k < n
        · have k1 := KA.out _ hA
          have q0 := k1.cell 0
          have q1 := k1.cell 1
          simp only [List.getElem?_cons_zero, List.getElem?_cons_succ] at q0 q1
          obtain ⟨b2, o2, ys, a2, c2, e2, hb2, hc2, _, hr2, hy2⟩ := (Hh.out.1).get (k := i) (by rw [← Hn.out]; exact hlt)
          obtain ⟨b3, o3, zs, a3, c3, e3, hb3, hc3, _, hr3, hy3⟩ := (Hh.out.2).get (k := k) (by rw [hln.out, ← Hn.out]; exact hlk)
          obtain ⟨b4, o4, x, e4, hb4, hc4, hx4⟩ := G.out.get (k := i) (by rw [Hl.out]; exact hlt)
          subst e2 e3 e4
          have d2 := (hw.cell (p := ⟨b2, o2 + i, none⟩) hb2).trans hc2
          have d3 := (hw.cell (p := ⟨b3, o3 + k, none⟩) hb3).trans hc3
          have d4 := (hw.cell (p := ⟨b4, o4 + i, none⟩) hb4).trans hc4
          have LT1 : Hid (∀ w', Below wr.heap.size wr w' → _) := fun w' hb => LT.out w' i k (hw.trans (hb.mono hw.size)) hlt hlk
          have LD1 : Hid (∀ w', Below wr.heap.size wr w' → _) := fun w' hb => LD.out w' a2 c2 ys k x (hr2.to (hw.trans (hb.mono hw.size))) (Hin0.out ys (List.mem_of_getElem? hy2.out))
          have LD2 : Hid (∀ w', Below wr.heap.size wr w' → _) := fun w' hb => LD.out w' a3 c3 zs i (indexI m k) (hr3.to (hw.trans (hb.mono hw.size))) (Hin1.out zs (List.mem_of_getElem? hy3.out))
          have hbl := Hbl.out i k ys zs x hlt hlk hy2.out hy3.out hx4.out
          have LIk : Hid (∀ w', Below wr.heap.size wr w' → _) := fun w' hb => LI.out w' (hw.trans (hb.mono hw.size)) (k : Int)
          have hltA : w.heap.size < wr.heap.size := by have := hA.size; simp at this; omega
          have hlt2 : b2 < wr.heap.size := by have := hw.size; omega
          have hlt3 : b3 < wr.heap.size := by have := hw.size; omega
          have hlt4 : b4 < wr.heap.size := by have := hw.size; omega
          have F0 : ∀ z : Later wr, z.w'.cell? ⟨w.heap.size, 0, none⟩ = some (.slice (some ⟨b2, o2, none⟩) n c0) := fun z => z.cell hltA q0
          have F1 : ∀ z : Later wr, z.w'.cell? ⟨w.heap.size, 1, none⟩ = some (.slice (some ⟨b3, o3, none⟩) x1.length c1) := fun z => z.cell hltA q1
          have F2 : ∀ z : Later wr, z.w'.cell? ⟨b2, o2 + i, none⟩ = some (.slice a2 ys.length c2) := fun z => z.cell hlt2 d2
          have F3 : ∀ z : Later wr, z.w'.cell? ⟨b3, o3 + k, none⟩ = some (.slice a3 zs.length c3) := fun z => z.cell hlt3 d3
          have F4 : ∀ z : Later wr, z.w'.cell? ⟨b4, o4 + i, none⟩ = some (.int .i64 x) := fun z => z.cell hlt4 d4
          clear q0 q1 d2 d3 d4
          have i0 : (0 : Int) ≤ (i : Int) := Int.natCast_nonneg _
          have k0 : (0 : Int) ≤ (k : Int) := Int.natCast_nonneg _
          have i1 : (i : Int) < (n : Int) := by omega
          have kk1 : (k : Int) < (x1.length : Int) := by rw [hln.out, ← Hn.out]; omega
          have i2 : (i : Int) < (m.length : Int) := by rw [Hl.out]; omega
          have hAs : w.heap.size + 1 ≤ wr.heap.size := by omega
          generalize indexI m (k : Int) = ix at *
          clear k1 hr2 hr3 hc2 hc3 hc4 hy2 hy3 hx4
          have HN : Hid (∀ w' : World, bf i k = false → Below wr.heap.size wr w' → ∃ k' : Nat, k' ≤ n ∧ (Value.int .i64 ((k : Int) + 1)) = .int .i64 k' ∧ Hid (∀ q, q < k' → bf i q = false) ∧ Below w.heap.size w w' ∧ Below (w.heap.size + 1) (w.alloc (.cells #[.slice (some ⟨b2, o2, none⟩) n c0, .slice (some ⟨b3, o3, none⟩) x1.length c1] 27)) w') := fun w' hf hb =>
            ⟨k + 1, by omega, by go_num, fun q hq => by
              by_cases e : q = k
              · subst e; exact hf
              · exact hcols.out q (by omega), hw.trans (hb.mono hw.size), hA.trans (hb.mono hAs)⟩
          cases t1 : pairB ⟨x0, x1⟩ i k with
          | false =>
            rw [t1] at LT1
            rw [t1, Bool.false_and, Bool.false_and] at hbl
            go_wp2_with fail
            refine wp_region_later (by kernel_rfl) (by kernel_rfl) ?_
            repeat (go_big_quiet_step (first | (go_at_call 60; exact later_of (LT1.out _ (Later.h _))) | (go_at_call_of 61 a2; exact later_same (LD1.out _ (Later.h _))) | (go_at_call 97; exact later_same (LIk.out _ (Later.h _))) | (go_at_call_of 61 a3; exact later_same (LD2.out _ (Later.h _)))))
            refine wpQuiet_nil ?_
            rintro _ ⟨⟨wq, hbq⟩, rfl⟩
            clear F0 F1 F2 F3 F4
            go_wp2_with fail
            go_roundw
            case rel => exact HN.out _ hbl hbq
            case measure => simp [intOf]; omega
          | true =>
            rw [t1] at LT1
            rw [t1, Bool.true_and] at hbl
            cases t2 : dearI ys k x with
            | false =>
              rw [t2, Bool.false_and] at hbl
              rw [t2] at LD1
              go_wp2_with fail
              refine wp_region_later (by kernel_rfl) (by kernel_rfl) ?_
              repeat (go_big_quiet_step (first | (go_at_call 60; exact later_of (LT1.out _ (Later.h _))) | (go_at_call_of 61 a2; exact later_same (LD1.out _ (Later.h _))) | (go_at_call 97; exact later_same (LIk.out _ (Later.h _))) | (go_at_call_of 61 a3; exact later_same (LD2.out _ (Later.h _)))))
              refine wpQuiet_nil ?_
              rintro _ ⟨⟨wq, hbq⟩, rfl⟩
              clear F0 F1 F2 F3 F4
              go_wp2_with fail
              go_roundw
              case rel => exact HN.out _ hbl hbq
              case measure => simp [intOf]; omega
            | true =>
              rw [t2, Bool.true_and] at hbl
              rw [t2] at LD1
              cases t3 : dearI zs i ix with
              | false =>
                rw [t3] at hbl
                rw [t3] at LD2
                go_wp2_with fail
                refine wp_region_later (by kernel_rfl) (by kernel_rfl) ?_
                repeat (go_big_quiet_step (first | (go_at_call 60; exact later_of (LT1.out _ (Later.h _))) | (go_at_call_of 61 a2; exact later_same (LD1.out _ (Later.h _))) | (go_at_call 97; exact later_same (LIk.out _ (Later.h _))) | (go_at_call_of 61 a3; exact later_same (LD2.out _ (Later.h _)))))
                refine wpQuiet_nil ?_
                rintro _ ⟨⟨wq, hbq⟩, rfl⟩
                clear F0 F1 F2 F3 F4
                go_wp2_with fail
                go_roundw
                case rel => exact HN.out _ hbl hbq
                case measure => simp [intOf]; omega
              | true =>
                rw [t3] at hbl
                rw [t3] at LD2
                have HR : Hid (FF = some (i, k)) := HH.out i k hlt hlk hbl hrows.out hcols.out
                go_wp2_with fail
                refine wp_region_later (by kernel_rfl) (by kernel_rfl) ?_
                repeat (go_big_quiet_step (first | (go_at_call 60; exact later_of (LT1.out _ (Later.h _))) | (go_at_call_of 61 a2; exact later_same (LD1.out _ (Later.h _))) | (go_at_call 97; exact later_same (LIk.out _ (Later.h _))) | (go_at_call_of 61 a3; exact later_same (LD2.out _ (Later.h _)))))
                refine wpQuiet_nil ?_
                rintro _ ⟨⟨wq, hbq⟩, rfl⟩
                clear F0 F1 F2 F3 F4
                have HB := Lib.hid (hw.trans (hbq.mono hw.size))
                clear hbq
                go_wp2_with fail
                go_ret3
                exact ⟨by rw [HR.out]; rfl, HB.out⟩
        · have : k = n := by omega
          subst this
          have HROW : Hid (∀ i' k', i' < i + 1 → k' < k → bf i' k' = false) := fun i' k' h1 h2 => by
            by_cases e : i' = i
            · subst e; exact hcols.out k' h2
            · exact hrows.out i' k' (by omega) h2
          clear hcols hrows
          go_wp2_with fail
          go_roundw
          case rel => exact ⟨i + 1, by omega, by go_num, HROW, hw, hA⟩
          case measure => simp [intOf]; omega
    · have : i = n := by omega
      subst this
      have HR : Hid (FF = none) := HZ.out hrows.out
      clear hrows
      go_wp2_with fail
      go_ret3
      exact ⟨by rw [HR.out]; rfl, hw⟩
end Go.Proofs.Ytchfibmndcfpiaa
