/-
  Part 2 of what the proof stands on: lemmas and contracts, each with its conditions ahead of the colon.
-/
import Derived.Test.YtchfibmndcfpiaaRows
import Derived.Deep.Fields
import Derived.Deep.Matrix
import Derived.Lib.SliceRun
import Derived.Test.YtchfibmndcfpiaaPk01
namespace Go.Proofs.Ytchfibmndcfpiaa
set_option linter.unusedVariables false
set_option linter.unusedSimpArgs false
open Go.RowKit

theorem place_idx {xs : List Int} {x : Int} (h : containsI xs x = true) : ∃ k : Nat, k < xs.length ∧ xs.getD k 0 = x ∧ placeI xs x = k := by
  rcases indexI_cases xs x with ⟨k, h1, h2, h3⟩ | ⟨_, h3⟩
  · exact ⟨k, h1, h2, by unfold placeI; rw [h3, if_neg (by omega)]⟩
  · unfold containsI at h
    have := of_decide_eq_true h
    omega
theorem place_inj {xs : List Int} {x y : Int} (hx : containsI xs x = true) (hy : containsI xs y = true) (h : placeI xs x = placeI xs y) : x = y := by
  obtain ⟨k, _, h2, h3⟩ := place_idx hx
  obtain ⟨j, _, g2, g3⟩ := place_idx hy
  have : k = j := by omega
  subst this
  rw [← h2, g2]
theorem nodup_inj {xs : List Int} (h : xs.Nodup) {i j : Nat} (hi : i < xs.length) (hj : j < xs.length) (e : xs[i] = xs[j]) : i = j := by
  unfold List.Nodup at h
  rw [List.pairwise_iff_getElem] at h
  rcases Nat.lt_trichotomy i j with g | g | g
  · exact absurd e (h i j hi hj g)
  · exact g
  · exact absurd e.symm (h j i hj hi g)
theorem place_at {xs : List Int} (hn : xs.Nodup) {k : Nat} {x : Int} (h : xs[k]? = some x) : placeI xs x = k := by
  have hk := (List.getElem?_eq_some_iff.1 h).1
  have hc : containsI xs x = true := containsI_iff.2 (List.mem_of_getElem? h)
  obtain ⟨j, j1, j2, j3⟩ := place_idx hc
  have hj : xs[j]? = some x := by rw [get_of_lt j1, j2]
  have : j = k := by
    rw [List.getElem?_eq_getElem j1] at hj
    rw [List.getElem?_eq_getElem hk] at h
    injection hj with hj; injection h with h
    exact nodup_inj hn j1 hk (by rw [hj, h])
  rw [j3, this]
def sidesW (w : Wi) (_ : Wish w) : Sides where
  n := w.L.length
  P a b := a < w.L.length ∧ b < w.L.length ∧ pairB w a b = true
  pl a b := placeI (row w.L a) b
  pr b a := placeI (row w.R b) a
  lt _ _ h := ⟨h.1, h.2.1⟩
  plI a b b' h h' e := by
    have h1 := h.2.2
    have h2 := h'.2.2
    simp only [pairB, Bool.and_eq_true] at h1 h2
    have := place_inj h1.1 h2.1 e
    omega
  prI a a' b h h' e := by
    have h1 := h.2.2
    have h2 := h'.2.2
    simp only [pairB, Bool.and_eq_true] at h1 h2
    have := place_inj h1.2 h2.2 e
    omega
/-- Whom one has. -/
def Has (m : List Int) (a b : Nat) : Prop := a < m.length ∧ m.getD a 0 = (b : Int)
theorem sm_mat {w : Wi} (hw : Wish w) {m : List Int} (hm : Mat w m) (hs : ∀ a b, a < w.L.length → b < w.L.length → blocksB w m a b = false) : SM (sidesW w hw) (Has m) := by
  have hl := hm.len
  refine ⟨fun a b ⟨h1, h2⟩ => ?_, fun a b b' h1 h2 => by have := h1.2; have := h2.2; omega, fun a a' b h1 h2 => hm.inj a a' h1.1 h2.1 (by have := h1.2; omega) (by rw [h1.2, h2.2]), fun a b ⟨h1, h2, h3⟩ => ?_⟩
  · rcases hm.val a h1 with h | ⟨c, h, hc, hp⟩
    · omega
    · have : c = b := by omega
      subst this
      exact ⟨by show a < w.L.length; omega, hc, hp⟩
  · have hb := hs a b h1 h2
    unfold blocksB at hb
    rw [h3, Bool.true_and] at hb
    by_cases e : m.getD a 0 = (b : Int)
    · exact .inl ⟨b, ⟨by omega, e⟩, Int.le_refl _⟩
    · rw [decide_eq_false e, Bool.not_false, Bool.true_and] at hb
      rw [Bool.and_eq_false_iff] at hb
      rcases hb with hb | hb
      · simp only [dearB, Bool.or_eq_false_iff, decide_eq_false_iff_not] at hb
        obtain ⟨b', hb'⟩ : ∃ b' : Nat, m.getD a 0 = b' := ⟨(m.getD a 0).toNat, by omega⟩
        exact .inl ⟨b', ⟨by omega, hb'⟩, by rw [hb'] at hb; show placeI _ _ ≤ placeI _ _; omega⟩
      · simp only [dearB, Bool.or_eq_false_iff, decide_eq_false_iff_not] at hb
        rcases back_cases hm b with ⟨i, i1, i2, i3⟩ | ⟨_, i3⟩
        · rw [i3] at hb
          exact .inr ⟨i, ⟨i1, i2⟩, by show placeI _ _ ≤ placeI _ _; omega⟩
        · omega
theorem sm_of {w : Wi} (hw : Wish w) {m : List Int} (h : stableB w m = true) : SM (sidesW w hw) (Has m) := by
  have hm := stab_of h
  simp only [stableB, Bool.and_eq_true, Option.isNone_iff_eq_none] at h
  exact sm_mat hw hm (block_none.1 h.2)
theorem stable_of {w : Wi} (hw : Wish w) {m : List Int} (hl : m.length = w.L.length) (hv : ∀ i, i < m.length → m.getD i 0 = -1 ∨ ∃ b : Nat, m.getD i 0 = b) (h : SM (sidesW w hw) (Has m)) : stableB w m = true := by
  have hm : Mat w m := by
    refine ⟨hl, fun i hi => ?_, fun i j hi hj h0 he => ?_⟩
    · rcases hv i hi with g | ⟨b, hb⟩
      · exact .inl g
      · obtain ⟨_, h2, h3⟩ := h.p i b ⟨hi, hb⟩
        exact .inr ⟨b, hb, h2, h3⟩
    · exact h.r i j (m.getD i 0).toNat ⟨hi, by omega⟩ ⟨hj, by omega⟩
  simp only [stableB, Bool.and_eq_true, Option.isNone_iff_eq_none]
  refine ⟨of_mat hm, block_none.2 fun a b ha hb => ?_⟩
  unfold blocksB
  cases hp : pairB w a b with
  | false => simp
  | true =>
    rcases h.s a b ⟨ha, hb, hp⟩ with ⟨b', ⟨g1, g2⟩, g3⟩ | ⟨a', ⟨g1, g2⟩, g3⟩
    · have : dearB (row w.L a) b (m.getD a 0) = false := by
        rw [g2]
        simp only [dearB, Bool.or_eq_false_iff, decide_eq_false_iff_not]
        have : placeI (row w.L a) b' ≤ placeI (row w.L a) b := g3
        omega
      rw [this]; simp
    · have : dearB (row w.R b) a (backF m b) = false := by
        rw [back_here hm g1 g2]
        simp only [dearB, Bool.or_eq_false_iff, decide_eq_false_iff_not]
        have : placeI (row w.R b) a' ≤ placeI (row w.R b) a := g3
        omega
      rw [this]; simp
theorem choose_at {w : Wi} {a b : List Int} {dear : Bool} {i : Nat} (h : i < a.length) : (chooseL w a b dear).getD i 0 = pickI w a b dear i := by
  simp [chooseL, List.getD, h]
theorem choose_len (w : Wi) (a b : List Int) (dear : Bool) : (chooseL w a b dear).length = a.length := by simp [chooseL]
/-- Both have somebody, or neither. -/
theorem both_of {w : Wi} (hw : Wish w) {a b : List Int} (ha : stableB w a = true) (hb : stableB w b = true) {i : Nat} (hi : i < w.L.length) : (a.getD i 0 = -1 ∧ b.getD i 0 = -1) ∨ ∃ p q : Nat, a.getD i 0 = p ∧ b.getD i 0 = q ∧ containsI (row w.L i) p = true ∧ containsI (row w.L i) q = true := by
  have sa := sm_of hw ha
  have sb := sm_of hw hb
  have ma := stab_of ha
  have mb := stab_of hb
  have la := ma.len
  have lb := mb.len
  rcases ma.val i (by omega) with h | ⟨p, h, _, hp⟩ <;> rcases mb.val i (by omega) with g | ⟨q, g, _, gp⟩
  · exact .inl ⟨h, g⟩
  · obtain ⟨c, _, hc⟩ := all_left sb sa (a := i) (b := q) ⟨by omega, g⟩
    omega
  · obtain ⟨c, _, hc⟩ := all_left sa sb (a := i) (b := p) ⟨by omega, h⟩
    omega
  · simp only [pairB, Bool.and_eq_true] at hp gp
    exact .inr ⟨p, q, h, g, hp.1, gp.1⟩
theorem choose_stable {w : Wi} (hw : Wish w) {a b : List Int} (ha : stableB w a = true) (hb : stableB w b = true) (dear : Bool) : stableB w (chooseL w a b dear) = true := by
  have sa := sm_of hw ha
  have sb := sm_of hw hb
  have la := (stab_of ha).len
  have lb := (stab_of hb).len
  refine stable_of hw (by rw [choose_len, la]) (fun i hi => ?_) ?_
  · rw [choose_len] at hi
    rw [choose_at hi]
    unfold pickI
    rcases both_of hw ha hb (i := i) (by omega) with ⟨h1, h2⟩ | ⟨p, q, h1, h2, _⟩
    · rw [h1, h2]; simp
    · rw [h1, h2]
      split
      · exact .inr ⟨q, rfl⟩
      · exact .inr ⟨p, rfl⟩
  · have key : ∀ i k, Has (chooseL w a b dear) i k ↔ (if dear then MeetR (sidesW w hw) (Has a) (Has b) i k else JoinR (sidesW w hw) (Has a) (Has b) i k) := by
      intro i k
      by_cases hi : i < a.length
      · have e0 : Has (chooseL w a b dear) i k ↔ (i < a.length ∧ pickI w a b dear i = (k : Int)) := by
          unfold Has
          rw [choose_len, choose_at hi]
        rw [e0]
        unfold pickI
        rcases both_of hw ha hb (i := i) (by omega) with ⟨h1, h2⟩ | ⟨p, q, h1, h2, c1, c2⟩
        · rw [h1, h2]
          simp only [ite_self]
          constructor
          · rintro ⟨_, h⟩; omega
          · intro h
            split at h
            · rcases h with ⟨⟨_, h⟩, _⟩ | ⟨⟨_, h⟩, _⟩ <;> omega
            · rcases h with ⟨⟨_, h⟩, _⟩ | ⟨⟨_, h⟩, _⟩ <;> omega
        · have ux : ∀ b', Has b i b' ↔ b' = q := fun b' => ⟨fun h => by have := h.2; omega, fun h => ⟨by omega, by rw [h2, h]⟩⟩
          have uy : ∀ b', Has a i b' ↔ b' = p := fun b' => ⟨fun h => by have := h.2; omega, fun h => ⟨hi, by rw [h1, h]⟩⟩
          have pq : placeI (row w.L i) p = placeI (row w.L i) q → p = q := fun e => by have := place_inj c1 c2 e; omega
          rw [h1, h2]
          have hM : MeetR (sidesW w hw) (Has a) (Has b) i k ↔ (k = p ∧ placeI (row w.L i) k ≤ placeI (row w.L i) q) ∨ (k = q ∧ placeI (row w.L i) k ≤ placeI (row w.L i) p) := by
            unfold MeetR
            rw [ux, uy]
            constructor
            · rintro (⟨h, l⟩ | ⟨h, l⟩)
              · exact .inl ⟨h, l q ((ux q).2 rfl)⟩
              · exact .inr ⟨h, l p ((uy p).2 rfl)⟩
            · rintro (⟨h, l⟩ | ⟨h, l⟩)
              · exact .inl ⟨h, fun b' hb' => by rw [(ux b').1 hb']; exact l⟩
              · exact .inr ⟨h, fun b' hb' => by rw [(uy b').1 hb']; exact l⟩
          have hJ : JoinR (sidesW w hw) (Has a) (Has b) i k ↔ (k = p ∧ placeI (row w.L i) q ≤ placeI (row w.L i) k) ∨ (k = q ∧ placeI (row w.L i) p ≤ placeI (row w.L i) k) := by
            unfold JoinR
            rw [ux, uy]
            constructor
            · rintro (⟨h, l⟩ | ⟨h, l⟩)
              · exact .inl ⟨h, l q ((ux q).2 rfl)⟩
              · exact .inr ⟨h, l p ((uy p).2 rfl)⟩
            · rintro (⟨h, l⟩ | ⟨h, l⟩)
              · exact .inl ⟨h, fun b' hb' => by rw [(ux b').1 hb']; exact l⟩
              · exact .inr ⟨h, fun b' hb' => by rw [(uy b').1 hb']; exact l⟩
          rw [hM, hJ]
          cases dear with
          | true =>
            simp only [if_true]
            unfold dearI
            by_cases hlt : placeI (row w.L i) q < placeI (row w.L i) p
            · rw [decide_eq_true hlt]
              simp only [beq_self_eq_true, if_true]
              constructor
              · rintro ⟨_, h⟩; exact .inr ⟨by omega, by have : k = q := by omega
                                                        subst this; omega⟩
              · rintro (⟨h, l⟩ | ⟨h, l⟩)
                · subst h; omega
                · exact ⟨hi, by rw [h]⟩
            · rw [decide_eq_false hlt]
              simp only [Bool.false_eq_true, beq_iff_eq, if_false]
              constructor
              · rintro ⟨_, h⟩; exact .inl ⟨by omega, by have : k = p := by omega
                                                        subst this; omega⟩
              · rintro (⟨h, l⟩ | ⟨h, l⟩)
                · exact ⟨hi, by rw [h]⟩
                · subst h
                  have := pq (by omega)
                  exact ⟨hi, by rw [this]⟩
          | false =>
            simp only [Bool.false_eq_true, if_false]
            unfold dearI
            by_cases hlt : placeI (row w.L i) q < placeI (row w.L i) p
            · rw [decide_eq_true hlt]
              simp only [Bool.true_eq_false, beq_iff_eq, if_false]
              constructor
              · rintro ⟨_, h⟩; exact .inl ⟨by omega, by have : k = p := by omega
                                                        subst this; omega⟩
              · rintro (⟨h, l⟩ | ⟨h, l⟩)
                · exact ⟨hi, by rw [h]⟩
                · subst h; omega
            · rw [decide_eq_false hlt]
              simp only [beq_self_eq_true, if_true]
              constructor
              · rintro ⟨_, h⟩; exact .inr ⟨by omega, by have : k = q := by omega
                                                        subst this; omega⟩
              · rintro (⟨h, l⟩ | ⟨h, l⟩)
                · subst h
                  have := pq (by omega)
                  exact ⟨hi, by rw [this]⟩
                · exact ⟨hi, by rw [h]⟩
      · constructor
        · rintro ⟨h, _⟩; rw [choose_len] at h; omega
        · intro h
          split at h
          · rcases h with ⟨⟨h, _⟩, _⟩ | ⟨⟨h, _⟩, _⟩ <;> omega
          · rcases h with ⟨⟨h, _⟩, _⟩ | ⟨⟨h, _⟩, _⟩ <;> omega
    have e : Has (chooseL w a b dear) = fun i k => (if dear then MeetR (sidesW w hw) (Has a) (Has b) i k else JoinR (sidesW w hw) (Has a) (Has b) i k) := by
      funext i k; exact propext (key i k)
    rw [e]
    cases dear with
    | true => exact meet_sm sa sb
    | false => exact join_sm sa sb
theorem chooseF_yes {w : Wi} (hw : wishB w = true) {a b : List Int} (ha : stableB w a = true) (hb : stableB w b = true) (dear : Bool) : chooseF w a b dear = some (chooseL w a b dear) := by
  have h := choose_stable (wish_of hw) ha hb dear
  have h2 := h
  simp only [stableB, Bool.and_eq_true] at h2
  unfold chooseF
  rw [hw, ha, hb, h2.1]; rfl
/-- Who is next, and why. -/
theorem nextF_more {w : Wi} (hw : Wish w) {m : List Int} (hm : Mat w m) {i : Nat} (hi : i < w.L.length) {j : Nat} (hj : nextF w m i = j) :
    ∃ c b : Nat, m.getD i 0 = c ∧ b < w.L.length ∧ pairB w i b = true ∧ j < w.L.length ∧ m.getD j 0 = b ∧ placeI (row w.L i) c < placeI (row w.L i) b ∧ placeI (row w.R b) i < placeI (row w.R b) j ∧
      ∀ d : Nat, pairB w i d = true → d < w.L.length → placeI (row w.L i) c < placeI (row w.L i) d → placeI (row w.L i) d < placeI (row w.L i) b → ∃ a' : Nat, a' < w.L.length ∧ m.getD a' 0 = d ∧ placeI (row w.R d) a' ≤ placeI (row w.R d) i := by
  have hml := hm.len
  unfold nextF at hj
  by_cases h0 : m.getD i 0 < 0
  · rw [if_pos h0] at hj; omega
  · rw [if_neg h0] at hj
    obtain ⟨c, hc⟩ : ∃ c : Nat, m.getD i 0 = c := ⟨(m.getD i 0).toNat, by omega⟩
    have hcp : containsI (row w.L i) c = true := by
      rcases hm.val i (by omega) with h | ⟨c', h, _, hp⟩
      · omega
      · have : c' = c := by omega
        subst this
        simp only [pairB, Bool.and_eq_true] at hp
        exact hp.1
    have hnd := (hw.left _ (row_mem hi)).2
    have hrng := (hw.left _ (row_mem hi)).1
    obtain ⟨p, p1, p2, p3⟩ := place_idx hcp
    rw [hc, p3, Int.toNat_natCast] at hj
    cases hf : ((row w.L i).drop (p + 1)).find? (fun b => containsI (row w.R b.toNat) i && dearB (row w.R b.toNat) i (backF m b.toNat)) with
    | none => rw [hf] at hj; simp only at hj; omega
    | some b =>
      rw [hf] at hj
      simp only at hj
      obtain ⟨hpb, us, bs, hsp, has⟩ := List.find?_eq_some_iff_append.1 hf
      simp only [Bool.and_eq_true] at hpb
      have hbm : b ∈ row w.L i := List.mem_of_mem_drop (by rw [hsp]; simp)
      obtain ⟨hb1, hb2⟩ := hrng _ hbm
      obtain ⟨b, rfl⟩ : ∃ b' : Nat, b = b' := ⟨b.toNat, by omega⟩
      simp only [Int.toNat_natCast] at hpb hj
      have hbi : (row w.L i)[p + 1 + us.length]? = some (b : Int) := by
        rw [← List.getElem?_drop, hsp]; simp
      have hplb := place_at hnd hbi
      rcases back_cases hm b with ⟨j', j1, j2, j3⟩ | ⟨_, j3⟩
      · have : j' = j := by omega
        subst this
        have hpair : pairB w i b = true := by unfold pairB; rw [containsI_iff.2 hbm, hpb.1]; rfl
        refine ⟨c, b, hc, by omega, hpair, by omega, j2, by rw [p3, hplb]; omega, ?_, fun d hd hdn h1 h2 => ?_⟩
        · have := hpb.2
          rw [j3] at this
          simp only [dearB, Bool.or_eq_true, decide_eq_true_eq] at this
          omega
        · simp only [pairB, Bool.and_eq_true] at hd
          obtain ⟨q, q1, q2, q3⟩ := place_idx hd.1
          rw [p3, q3] at h1
          rw [q3, hplb] at h2
          have hda : (d : Int) ∈ us := by
            have e : (row w.L i)[q]? = some (d : Int) := by rw [get_of_lt q1, q2]
            have e2 : ((row w.L i).drop (p + 1))[q - (p + 1)]? = some (d : Int) := by rw [List.getElem?_drop, show p + 1 + (q - (p + 1)) = q by omega]; exact e
            rw [hsp, List.getElem?_append_left (by omega)] at e2
            exact List.mem_of_getElem? e2
          have hn := has _ hda
          simp only [Int.toNat_natCast, Bool.not_eq_true', Bool.and_eq_false_iff] at hn
          rcases hn with hn | hn
          · rw [hd.2] at hn; cases hn
          · simp only [dearB, Bool.or_eq_false_iff, decide_eq_false_iff_not] at hn
            rcases back_cases hm d with ⟨a', a1, a2, a3⟩ | ⟨_, a3⟩
            · rw [a3] at hn
              exact ⟨a', by omega, a2, by omega⟩
            · omega
      · omega
/-- What a turn leaves where it takes. -/
theorem taken_val {m : List Int} {t : Nat} {x : Nat → Nat} (hx : ∀ s, s ≤ t → x s < m.length) (hinj : ∀ p q, p ≤ t → q ≤ t → x p = x q → p = q) (hback : x (t + 1) = x 0) {R : List Int} (hR : R = (List.range (t + 1)).map fun s => (x s : Int)) {y : Nat} (hy : y < m.length) :
    (∃ s, s ≤ t ∧ y = x s ∧ (takenF m R).getD y 0 = m.getD (x (s + 1)) 0) ∨ ((∀ s, s ≤ t → y ≠ x s) ∧ (takenF m R).getD y 0 = m.getD y 0) := by
  have hrl : R.length = t + 1 := by rw [hR]; simp
  have hrg : ∀ s, s < t + 1 → R.getD s 0 = x s := fun s hs => by rw [hR]; simp [List.getD, hs]
  have hat : ∀ s, s < t + 1 → turnAt m R s = m.getD (x (s + 1)) 0 := by
    intro s hs
    unfold turnAt
    rw [hrl]
    by_cases e : s = t
    · subst e; rw [Nat.mod_self, hrg 0 (by omega), hback]; rfl
    · rw [Nat.mod_eq_of_lt (by omega), hrg _ (by omega)]; rfl
  have hval : ∀ k, k ≤ t + 1 → (∃ s, s < k ∧ y = x s ∧ (takenN m R k).getD y 0 = m.getD (x (s + 1)) 0) ∨ ((∀ s, s < k → y ≠ x s) ∧ (takenN m R k).getD y 0 = m.getD y 0) := by
    intro k
    induction k with
    | zero => exact fun _ => .inr ⟨fun s hs => by omega, rfl⟩
    | succ k ih =>
      intro hk
      have hl := takenN_len m R k
      rw [takenN, hrg k (by omega), Int.toNat_natCast, hat k (by omega)]
      by_cases e : x k = y
      · refine .inl ⟨k, by omega, e.symm, ?_⟩
        rw [e]
        simp [List.getD, List.getElem?_set, hl, hy]
      · have hne : ((takenN m R k).set (x k) (m.getD (x (k + 1)) 0)).getD y 0 = (takenN m R k).getD y 0 := by simp [List.getD, List.getElem?_set, e]
        rw [hne]
        rcases ih (by omega) with ⟨s, h1, h2, h3⟩ | ⟨h1, h2⟩
        · exact .inl ⟨s, by omega, h2, h3⟩
        · refine .inr ⟨fun s hs => ?_, h2⟩
          by_cases e2 : s = k
          · subst e2; exact fun h => e h.symm
          · exact h1 s (by omega)
  unfold takenF
  rw [hrl]
  rcases hval (t + 1) (Nat.le_refl _) with ⟨s, h1, h2, h3⟩ | ⟨h1, h2⟩
  · exact .inl ⟨s, by omega, h2, h3⟩
  · exact .inr ⟨fun s hs => h1 s (by omega), h2⟩
/-- A turn of the list is a turn. -/
theorem turn_of {w : Wi} (hw : Wish w) {m : List Int} (hs : stableB w m = true) {ring : List Int} (hr : ring ∈ turnsF w m) : ∃ (t : Nat) (x b : Nat → Nat), Turn (sidesW w hw) (Has m) t x b ∧ (∀ s, s ≤ t → x s < w.L.length) ∧ ring = (List.range (t + 1)).map (fun s => (x s : Int)) := by
  have hm := stab_of hs
  have hml := hm.len
  unfold turnsF at hr
  obtain ⟨a, ha, hr⟩ := List.mem_filterMap.1 hr
  have ha' := List.mem_range.1 ha
  obtain ⟨t, _, rfl, hback, hgt⟩ := ringF_mem hr
  generalize hz : itZ (nextZ w m) (a : Int) = z at *
  have z0 : z 0 = a := by rw [← hz]; rfl
  have zs : ∀ s, z (s + 1) = nextF w m (z s).toNat := fun s => by rw [← hz]; rfl
  have hnn : ∀ s, s ≤ t + 1 → 0 ≤ z s := by
    intro s hs
    cases s with
    | zero => rw [z0]; omega
    | succ s =>
      by_cases e : s = t
      · subst e; rw [hback]; omega
      · have := hgt s (by omega); omega
  have hnat : ∀ s, s ≤ t + 1 → ((z s).toNat : Int) = z s := fun s hs => by have := hnn s hs; omega
  have hlt : ∀ s, s ≤ t + 1 → (z s).toNat < w.L.length := by
    intro s
    induction s with
    | zero => intro _; rw [z0]; simpa using ha'
    | succ s ih =>
      intro h
      have hi := ih (by omega)
      obtain ⟨c, b, _, _, _, hj, _⟩ := nextF_more hw hm hi (j := (z (s + 1)).toNat) (by rw [hnat _ h, zs s])
      exact hj
  have hstep : ∀ s, s ≤ t → ∃ c b : Nat, m.getD (z s).toNat 0 = c ∧ b < w.L.length ∧ pairB w (z s).toNat b = true ∧ (z (s + 1)).toNat < w.L.length ∧ m.getD (z (s + 1)).toNat 0 = b ∧ placeI (row w.L (z s).toNat) c < placeI (row w.L (z s).toNat) b ∧ placeI (row w.R b) (z s).toNat < placeI (row w.R b) (z (s + 1)).toNat ∧
      ∀ d : Nat, pairB w (z s).toNat d = true → d < w.L.length → placeI (row w.L (z s).toNat) c < placeI (row w.L (z s).toNat) d → placeI (row w.L (z s).toNat) d < placeI (row w.L (z s).toNat) b → ∃ a' : Nat, a' < w.L.length ∧ m.getD a' 0 = d ∧ placeI (row w.R d) a' ≤ placeI (row w.R d) (z s).toNat := fun s hs =>
    nextF_more hw hm (hlt s (by omega)) (by rw [hnat _ (by omega), zs s])
  have hinj : ∀ p q, p ≤ t → q ≤ t → z p = z q → p = q := by
    have key : ∀ p q, p < q → q ≤ t → z p = z q → False := by
      intro p q hpq hq he
      rw [← hz] at he
      have := itZ_same he (t + 1 - q)
      rw [hz, show q + (t + 1 - q) = t + 1 by omega, hback] at this
      have h2 := hgt (p + (t + 1 - q) - 1) (by omega)
      rw [show p + (t + 1 - q) - 1 + 1 = p + (t + 1 - q) by omega, this] at h2
      omega
    intro p q hp hq he
    rcases Nat.lt_trichotomy p q with h | h | h
    · exact (key p q h hq he).elim
    · exact h
    · exact (key q p h hp he.symm).elim
  refine ⟨t, fun s => (z s).toNat, fun s => (m.getD (z (s + 1)).toNat 0).toNat, ⟨by show (z (t + 1)).toNat = (z 0).toNat; rw [hback, z0], fun p q hp hq e => hinj p q hp hq (by have := hnat p (by omega); have := hnat q (by omega); have e9 : (z p).toNat = (z q).toNat := e; omega), fun s hs => ?_, fun s hs => ?_, fun s hs c hc => ?_, fun s hs => ?_, fun s hs c d hc hd h1 h2 => ?_⟩, fun s hs => hlt s (by omega), ?_⟩
  · obtain ⟨c, b, h1, h2, h3, h4, h5, h6, h7, h8⟩ := hstep s hs
    rw [h5, Int.toNat_natCast]
    exact ⟨hlt s (by omega), h2, h3⟩
  · obtain ⟨c, b, h1, h2, h3, h4, h5, h6, h7, h8⟩ := hstep s hs
    rw [h5, Int.toNat_natCast]
    exact ⟨by show (z (s + 1)).toNat < m.length; omega, h5⟩
  · obtain ⟨c', b, h1, h2, h3, h4, h5, h6, h7, h8⟩ := hstep s hs
    rw [h5, Int.toNat_natCast]
    have : c' = c := by have h9 : m.getD (z s).toNat 0 = (c : Int) := hc.2; omega
    subst this
    exact h6
  · obtain ⟨c', b, h1, h2, h3, h4, h5, h6, h7, h8⟩ := hstep s hs
    rw [h5, Int.toNat_natCast]
    exact h7
  · obtain ⟨c', b, e1, e2, e3, e4, e5, e6, e7, e8⟩ := hstep s hs
    have : c' = c := by have h9 : m.getD (z s).toNat 0 = (c : Int) := hc.2; omega
    subst this
    rw [e5, Int.toNat_natCast] at h2
    obtain ⟨a', a1, a2, a3⟩ := e8 d hd.2.2 hd.2.1 h1 h2
    exact ⟨a', ⟨by omega, a2⟩, a3⟩
  · refine List.map_congr_left fun s hs => ?_
    have := List.mem_range.1 hs
    exact (hnat s (by omega)).symm
/-- Places of those whom all have, summed. -/
def lowN (w : Wi) (m : List Int) (i : Nat) : Nat := if m.getD i 0 < 0 then 0 else (placeI (row w.L i) (m.getD i 0)).toNat
def lowS (w : Wi) (m : List Int) : Nat := sumS (lowN w m) w.L.length
theorem sumS_mono {f g : Nat → Nat} : ∀ {n : Nat}, (∀ i, i < n → f i ≤ g i) → sumS f n ≤ sumS g n
  | 0, _ => Nat.le_refl _
  | n + 1, h => by
    rw [sumS, sumS]
    have := sumS_mono (n := n) (fun i hi => h i (by omega))
    have := h n (by omega)
    omega
theorem sumS_more {f g : Nat → Nat} {q : Nat} : ∀ {n : Nat}, q < n → (∀ i, i < n → f i ≤ g i) → f q < g q → sumS f n < sumS g n
  | 0, h, _, _ => by omega
  | n + 1, h, h1, h2 => by
    rw [sumS, sumS]
    have h3 := h1 n (by omega)
    by_cases e : q = n
    · subst e
      have := sumS_mono (n := q) (fun i hi => h1 i (by omega))
      omega
    · have := sumS_more (n := n) (by omega) (fun i hi => h1 i (by omega)) h2
      omega
theorem row_le {w : Wi} (hw : Wish w) {i : Nat} (hi : i < w.L.length) : (row w.L i).length ≤ w.L.length := by
  obtain ⟨h1, h2⟩ := hw.left _ (row_mem hi)
  refine Classical.byContradiction fun hn => ?_
  obtain ⟨p, q, h3, h4, h5⟩ := ph_two w.L.length (fun k => ((row w.L i).getD k 0).toNat) (fun k hk => by
    have := h1 ((row w.L i).getD k 0) (getD_mem (by omega))
    omega)
  have hp : p < (row w.L i).length := by omega
  have hq : q < (row w.L i).length := by omega
  have a1 := h1 _ (getD_mem hp)
  have a2 := h1 _ (getD_mem hq)
  have e : (row w.L i).getD p 0 = (row w.L i).getD q 0 := by have h9 : ((row w.L i).getD p 0).toNat = ((row w.L i).getD q 0).toNat := h5; omega
  rw [getD_eq hp, getD_eq hq] at e
  have := nodup_inj h2 hp hq e
  omega
theorem low_bd {w : Wi} (hw : Wish w) {m : List Int} (hm : Mat w m) : lowS w m + w.L.length ≤ w.L.length * w.L.length := by
  have key : ∀ n, (∀ i, i < n → lowN w m i + 1 ≤ w.L.length) → sumS (lowN w m) n + n ≤ n * w.L.length := by
    intro n
    induction n with
    | zero => intro _; simp [sumS]
    | succ n ih =>
      intro h
      have h1 := ih (fun i hi => h i (by omega))
      have h2 := h n (by omega)
      rw [sumS, Nat.add_mul]
      omega
  refine key _ fun i hi => ?_
  have hn := hw.n1
  have hml := hm.len
  unfold lowN
  rcases hm.val i (by omega) with h | ⟨b, h, _, hp⟩
  · rw [h]; simp; omega
  · rw [h, if_neg (by omega)]
    simp only [pairB, Bool.and_eq_true] at hp
    have := placeI_in hp.1
    have := (placeI_bd (row w.L i) b).1
    have := row_le hw hi
    omega
/-- A turn leads to a stable match, all of whose places are no less and some greater. -/
theorem taken_stable {w : Wi} (hw : Wish w) {m : List Int} (hs : stableB w m = true) {ring : List Int} (hr : ring ∈ turnsF w m) : stableB w (takenF m ring) = true ∧ lowS w m < lowS w (takenF m ring) := by
  have hm := stab_of hs
  have hml := hm.len
  obtain ⟨t, x, b, hT, hx, hR⟩ := turn_of hw hs hr
  have hv := fun (y : Nat) (hy : y < m.length) => taken_val (m := m) (t := t) (x := x) (fun s hs => by have := hx s hs; omega) hT.inj hT.back hR hy
  have hlen : (takenF m ring).length = m.length := takenN_len _ _ _
  have hh : Has (takenF m ring) = TurnR (Has m) t x b := by
    funext a k
    refine propext ⟨fun ⟨h1, h2⟩ => ?_, fun h => ?_⟩
    · rw [hlen] at h1
      rcases hv a h1 with ⟨s, s1, rfl, s3⟩ | ⟨s1, s2⟩
      · refine .inl ⟨s, s1, rfl, ?_⟩
        have := (hT.own s s1).2
        omega
      · exact .inr ⟨s1, h1, by rw [← s2]; exact h2⟩
    · rcases h with ⟨s, s1, rfl, rfl⟩ | ⟨n1, h1, h2⟩
      · have hxs := hx s s1
        refine ⟨by rw [hlen]; omega, ?_⟩
        rcases hv (x s) (by omega) with ⟨s', s2, s3, s4⟩ | ⟨s2, _⟩
        · have := hT.inj s s' s1 s2 s3
          subst this
          rw [s4]; exact (hT.own s s1).2
        · exact absurd rfl (s2 s s1)
      · refine ⟨by rw [hlen]; exact h1, ?_⟩
        rcases hv a h1 with ⟨s, s1, s2, _⟩ | ⟨_, s2⟩
        · exact absurd s2 (n1 s s1)
        · rw [s2]; exact h2
  have hstab : stableB w (takenF m ring) = true := by
    refine stable_of hw (by rw [hlen, hml]) (fun i hi => ?_) ?_
    · rw [hlen] at hi
      rcases hv i hi with ⟨s, s1, _, s3⟩ | ⟨_, s2⟩
      · rw [s3, (hT.own s s1).2]; exact .inr ⟨_, rfl⟩
      · rw [s2]; exact (hm.val i hi).imp id fun ⟨b, hb, _⟩ => ⟨b, hb⟩
    · rw [hh]; exact turn_sm (sm_of hw hs) hT
  refine ⟨hstab, ?_⟩
  have big : ∀ s, s ≤ t → lowN w m (x s) < lowN w (takenF m ring) (x s) := fun s s1 => by
    have hxs := hx s s1
    obtain ⟨r, hr1, hr2⟩ := hT.pre s1
    have hown : Has m (x s) (b r) := by rw [← hr2]; exact hT.own r hr1
    have hnew : Has (takenF m ring) (x s) (b s) := by rw [hh]; exact .inl ⟨s, s1, rfl, rfl⟩
    have hfar := hT.far s s1 _ hown
    unfold lowN
    rw [hown.2, hnew.2, if_neg (by omega), if_neg (by omega)]
    have h1 := (placeI_bd (row w.L (x s)) (b r)).1
    have : placeI (row w.L (x s)) (b r) < placeI (row w.L (x s)) (b s) := hfar
    omega
  refine sumS_more (q := x 0) (hx 0 (by omega)) (fun i hi => ?_) (big 0 (by omega))
  rcases hv i (by omega) with ⟨s, s1, rfl, _⟩ | ⟨_, s2⟩
  · have := big s s1; omega
  · unfold lowN; rw [s2]; exact Nat.le_refl _
theorem takeTurn_yes {w : Wi} (hw : wishB w = true) {m : List Int} (hs : stableB w m = true) {ring : List Int} (hr : ring ∈ turnsF w m) : takeTurnF w m ring = some (takenF m ring) := by
  unfold takeTurnF
  rw [hw, hs, List.contains_iff_mem.2 hr]; rfl
theorem itZ_nat {g : Int → Int} {f : Nat → Nat} {A : Nat → Prop} (hA : ∀ i, A i → A (f i)) (hg : ∀ i, A i → g (i : Int) = (f i : Int)) {a : Nat} (ha : A a) : ∀ k, itZ g (a : Int) k = (itN f a k : Int)
  | 0 => rfl
  | k + 1 => by rw [itZ, itZ_nat hA hg ha k, hg _ (itN_in hA ha k)]; rfl
/-- Where no turn is left, all on the right have whom they like best. -/
theorem no_turn {w : Wi} (hw : Wish w) {m : List Int} (hs : stableB w m = true) {Z : Nat → Nat → Prop} (hz : LastR (sidesW w hw) Z) (ht : turnsF w m = []) : ∀ a b, Z a b → Has m a b := by
  have hm := stab_of hs
  have hml := hm.len
  have sm := sm_of hw hs
  intro a b hab
  refine Classical.byContradiction fun hn => ?_
  let D : Nat → Prop := fun a => ∃ b, Z a b ∧ ¬ Has m a b
  let f : Nat → Nat := fun a => (nextF w m a).toNat
  have hDn : ∀ a, D a → a < w.L.length := fun a ⟨b, hb, _⟩ => (hz.1.p a b hb).1
  have step : ∀ a, D a → nextF w m a = ((nextF w m a).toNat : Int) ∧ D (nextF w m a).toNat := by
    rintro a ⟨b, hab, hn⟩
    have han := hDn a ⟨b, hab, hn⟩
    obtain ⟨c, hc, hcb, ⟨a', ha', hlike⟩, hnext⟩ := next_there sm hz hab hn
    obtain ⟨_, hbn, hpab⟩ := hz.1.p a b hab
    have hpab2 := hpab
    simp only [pairB, Bool.and_eq_true] at hpab2
    have hcP := (sm.p a c hc).2.2
    simp only [pairB, Bool.and_eq_true] at hcP
    obtain ⟨p, p1, p2, p3⟩ := place_idx hcP.1
    obtain ⟨q, q1, q2, q3⟩ := place_idx hpab2.1
    have hpq : p < q := by
      have : placeI (row w.L a) c < placeI (row w.L a) b := hcb
      omega
    have hnd := (hw.left _ (row_mem han)).2
    have hrng := (hw.left _ (row_mem han)).1
    have hbd : ((row w.L a).drop (p + 1))[q - (p + 1)]? = some (b : Int) := by rw [List.getElem?_drop, show p + 1 + (q - (p + 1)) = q by omega, get_of_lt q1, q2]
    have hnb : (containsI (row w.R ((b : Int)).toNat) a && dearB (row w.R ((b : Int)).toNat) a (backF m ((b : Int)).toNat)) = true := by
      rw [Int.toNat_natCast, hpab2.2, back_here hm ha'.1 ha'.2]
      have : placeI (row w.R b) a < placeI (row w.R b) a' := hlike
      simp only [dearB, Bool.true_and, Bool.or_eq_true, decide_eq_true_eq]
      exact .inr this
    cases hf : ((row w.L a).drop (p + 1)).find? (fun b => containsI (row w.R b.toNat) a && dearB (row w.R b.toNat) a (backF m b.toNat)) with
    | none =>
      have := List.find?_eq_none.1 hf _ (List.mem_of_getElem? hbd)
      exact absurd hnb this
    | some b' =>
      obtain ⟨hpb, us, bs, hsp, has⟩ := List.find?_eq_some_iff_append.1 hf
      simp only [Bool.and_eq_true] at hpb
      have hbm : b' ∈ row w.L a := List.mem_of_mem_drop (by rw [hsp]; simp)
      obtain ⟨hb1, hb2⟩ := hrng _ hbm
      obtain ⟨b', rfl⟩ : ∃ x : Nat, b' = x := ⟨b'.toNat, by omega⟩
      simp only [Int.toNat_natCast] at hpb
      have hbi : (row w.L a)[p + 1 + us.length]? = some (b' : Int) := by
        rw [← List.getElem?_drop, hsp]; simp
      have hplb := place_at hnd hbi
      have hle : p + 1 + us.length ≤ q := by
        refine Classical.byContradiction fun hgt => ?_
        rw [hsp, List.getElem?_append_left (by omega)] at hbd
        have := has _ (List.mem_of_getElem? hbd)
        rw [hnb] at this
        cases this
      have hpair : pairB w a b' = true := by unfold pairB; rw [containsI_iff.2 hbm, hpb.1]; rfl
      obtain ⟨x, hx, hDx⟩ := hnext b' ⟨han, by omega, hpair⟩ (by show placeI _ _ < placeI _ _; omega) (by show placeI _ _ ≤ placeI _ _; omega) (fun a2 ha2 => by
        have := hpb.2
        rw [back_here hm ha2.1 ha2.2] at this
        simp only [dearB, Bool.or_eq_true, decide_eq_true_eq] at this
        show placeI _ _ < placeI _ _
        omega)
      have hnx : nextF w m a = x := by
        unfold nextF
        rw [hc.2, if_neg (by omega), p3, Int.toNat_natCast, hf]
        simp only [Int.toNat_natCast]
        exact back_here hm hx.1 hx.2
      rw [hnx]
      exact ⟨by simp, by simpa using hDx⟩
  obtain ⟨y, p, hy, hp1, hpn, hpy, hmin⟩ := comes_back (n := w.L.length) (A := D) hDn (f := f) (fun i hi => (step i hi).2) (x := a) ⟨b, hab, hn⟩
  have hit := itZ_nat (g := nextZ w m) (f := f) (A := D) (fun i hi => (step i hi).2) (fun i hi => by
    show nextF w m ((i : Int)).toNat = _
    rw [Int.toNat_natCast]
    exact (step i hi).1) hy
  -- the first time that it is back
  obtain ⟨t0, h1, h2, h3⟩ : ∃ t0, t0 ≤ p - 1 ∧ itN f y (t0 + 1) = y ∧ ∀ s, s < t0 → itN f y (s + 1) ≠ y := by
    have : ∀ k, itN f y (k + 1) = y → ∃ t0, t0 ≤ k ∧ itN f y (t0 + 1) = y ∧ ∀ s, s < t0 → itN f y (s + 1) ≠ y := by
      intro k
      induction k using Nat.strongRecOn with
      | _ k ih =>
        intro hk
        by_cases hx : ∃ s, s < k ∧ itN f y (s + 1) = y
        · obtain ⟨s, s1, s2⟩ := hx
          obtain ⟨t0, g1, g2, g3⟩ := ih s s1 s2
          exact ⟨t0, by omega, g2, g3⟩
        · exact ⟨k, Nat.le_refl _, hk, fun s s1 s2 => hx ⟨s, s1, s2⟩⟩
    exact this (p - 1) (by rw [show p - 1 + 1 = p by omega]; exact hpy)
  have hring : ringF (nextZ w m) (y : Int) w.L.length = some ((List.range (t0 + 1)).map (itZ (nextZ w m) (y : Int))) := by
    rw [ringF_hit (t := t0) (by omega) (by rw [hit, h2]; exact Int.le_refl _) (fun s hs => by
      have g1 := hmin (s + 1)
      have g2 := h3 s hs
      rw [hit]; omega), if_pos (by rw [hit, h2])]
  have : ((List.range (t0 + 1)).map (itZ (nextZ w m) (y : Int))) ∈ turnsF w m := List.mem_filterMap.2 ⟨y, List.mem_range.2 (hDn y hy), hring⟩
  rw [ht] at this
  simp at this
end Go.Proofs.Ytchfibmndcfpiaa
namespace Go.Proofs.Ytchfibmndcfpiaa
set_option linter.unusedVariables false
set_option linter.unusedSimpArgs false
open Go.RowKit

def seatsB (w : Wi) (seats : List Int) : Bool := wishB w && manyB seats w.L.length w.L.length 0 8
/-- Those below t who have k. -/
def hasN (m : List Int) (k : Nat) : Nat → List Int
  | 0 => []
  | t + 1 => if m.getD t 0 = (k : Int) then hasN m k t ++ [(t : Int)] else hasN m k t
def hasL (m : List Int) (k : Nat) : List Int := hasN m k m.length
theorem hasN_mem {m : List Int} {k : Nat} {x : Int} : ∀ {t : Nat}, x ∈ hasN m k t ↔ ∃ i : Nat, x = i ∧ i < t ∧ m.getD i 0 = k
  | 0 => by simp [hasN]
  | t + 1 => by
    rw [hasN]
    split
    case isTrue h =>
      rw [List.mem_append, hasN_mem (t := t), List.mem_singleton]
      constructor
      · rintro (⟨i, h1, h2, h3⟩ | h1)
        · exact ⟨i, h1, by omega, h3⟩
        · exact ⟨t, h1, by omega, h⟩
      · rintro ⟨i, h1, h2, h3⟩
        by_cases e : i = t
        · subst e; exact .inr h1
        · exact .inl ⟨i, h1, by omega, h3⟩
    case isFalse h =>
      rw [hasN_mem (t := t)]
      constructor
      · rintro ⟨i, h1, h2, h3⟩; exact ⟨i, h1, by omega, h3⟩
      · rintro ⟨i, h1, h2, h3⟩
        by_cases e : i = t
        · subst e; exact absurd h3 h
        · exact ⟨i, h1, by omega, h3⟩
theorem hasN_len (m : List Int) (k : Nat) : ∀ t, (hasN m k t).length ≤ t
  | 0 => by simp [hasN]
  | t + 1 => by
    rw [hasN]
    have := hasN_len m k t
    split
    · simp; omega
    · omega
def fullB (w : Wi) (seats m : List Int) : Bool := (List.range w.L.length).all fun k => decide (((hasL m k).length : Int) ≤ seats.getD k 0)
def sblocksI (w : Wi) (seats m : List Int) (a b : Nat) : Bool := pairB w a b && dearI (row w.L a) b (m.getD a 0) && (decide (((hasL m b).length : Int) < seats.getD b 0) || (hasL m b).any fun j => dearI (row w.R b) a j)
def rivalB (w : Wi) (m : List Int) (a b : Nat) (i : Nat) : Bool := decide (m.getD i 0 = (b : Int)) && dearB (row w.R b) a i
def sblocksR (w : Wi) (seats m : List Int) (a b : Nat) : Bool := pairB w a b && (!decide (m.getD a 0 = (b : Int))) && dearB (row w.L a) b (m.getD a 0) && (decide (((hasL m b).length : Int) < seats.getD b 0) || (List.range m.length).any (rivalB w m a b))
theorem rivals_eq (w : Wi) (m : List Int) (a b : Nat) : ((hasL m b).any fun j => dearI (row w.R b) a j) = (List.range m.length).any (rivalB w m a b) := by
  rw [Bool.eq_iff_iff, List.any_eq_true, List.any_eq_true]
  have hd : ∀ i : Nat, dearB (row w.R b) a i = dearI (row w.R b) a i := fun i => by
    have h3 : decide ((i : Int) < 0) = false := decide_eq_false (by omega)
    simp [dearI, dearB, h3]
  constructor
  · rintro ⟨x, hx, h⟩
    obtain ⟨i, rfl, hi, he⟩ := hasN_mem.1 hx
    refine ⟨i, List.mem_range.2 hi, ?_⟩
    unfold rivalB
    rw [decide_eq_true he, hd, h]; rfl
  · rintro ⟨i, hi, h⟩
    unfold rivalB at h
    rw [Bool.and_eq_true, decide_eq_true_eq, hd] at h
    exact ⟨i, hasN_mem.2 ⟨i, rfl, List.mem_range.1 hi, h.1⟩, h.2⟩
theorem sblocks_eq {w : Wi} (hw : Wish w) {seats m : List Int} (hp : partnersB w m = true) {a b : Nat} (ha : a < w.L.length) : sblocksI w seats m a b = sblocksR w seats m a b := by
  obtain ⟨h1, h2⟩ := partners_iff.1 hp
  unfold sblocksI sblocksR
  rw [rivals_eq]
  cases hq : pairB w a b with
  | false => rfl
  | true =>
    have hq' := hq
    simp only [pairB, Bool.and_eq_true] at hq'
    rw [dear_left hw (fun i hi => (h2 i hi).imp id fun ⟨c, hc, _⟩ => ⟨c, hc⟩) h1 ha hq'.1]
    simp [Bool.and_assoc]
def schoolF (w : Wi) (seats m : List Int) : Option (Nat × Nat) := if seatsB w seats && partnersB w m && fullB w seats m then first2 w.L.length (sblocksI w seats m) else none
theorem school_eqR {w : Wi} (hw : Wish w) {seats m : List Int} (hp : partnersB w m = true) : first2 w.L.length (sblocksI w seats m) = first2 w.L.length (sblocksR w seats m) := first2_congr fun _ _ ha _ => sblocks_eq hw hp ha
/-- The reference's test of partners. -/
def partR (w : Wi) (m : List Int) (i : Nat) : Bool := decide (m.getD i 0 = -1) || (inB (m.getD i 0) 0 (m.length - 1) && pairB w i (m.getD i 0).toNat)
theorem partners_eqR {w : Wi} {m : List Int} (hl : m.length = w.L.length) : partnersB w m = (List.range m.length).all (partR w m) := by
  rw [Bool.eq_iff_iff, partners_iff, List.all_eq_true]
  constructor
  · rintro ⟨_, h2⟩ i hi
    unfold partR
    rcases h2 i (List.mem_range.1 hi) with h | ⟨b, h, hb, hp⟩
    · rw [decide_eq_true h, Bool.true_or]
    · rw [h, inB_iff.2 ⟨by omega, by omega⟩, Int.toNat_natCast, hp]; simp
  · intro h
    refine ⟨hl, fun i hi => ?_⟩
    have := h i (List.mem_range.2 hi)
    unfold partR at this
    simp only [Bool.or_eq_true, decide_eq_true_eq, Bool.and_eq_true, inB_iff] at this
    rcases this with h | ⟨⟨h1, h2⟩, h3⟩
    · exact .inl h
    · exact .inr ⟨(m.getD i 0).toNat, by omega, by omega, h3⟩
theorem partners_len {w : Wi} {m : List Int} (hl : m.length ≠ w.L.length) : partnersB w m = false := by simp [partnersB, hl]
/-- The sum of places. -/
def sumPl (w : Wi) (m : List Int) : Nat → Int
  | 0 => 0
  | k + 1 => if m.getD k 0 < 0 then sumPl w m k else sumPl w m k + (placeI (row w.L k) (m.getD k 0) + placeI (row w.R (m.getD k 0).toNat) k)
abbrev BestM := Option (List Int × Int)
def fairStep (w : Wi) (b : BestM) (m : List Int) : BestM := match b with
  | none => some (m, sumPl w m m.length)
  | some (c, l) => if sumPl w m m.length < l then some (m, sumPl w m m.length) else some (c, l)
def fairF (w : Wi) : BestM := if wishB w && decide (w.L.length ≤ 5) then (allStabF w).foldl (fairStep w) none else none
theorem fairStep_some (w : Wi) (b : BestM) (m : List Int) : ∃ p, fairStep w b m = some p := by
  unfold fairStep
  split
  · exact ⟨_, rfl⟩
  · split <;> exact ⟨_, rfl⟩
end Go.Proofs.Ytchfibmndcfpiaa
namespace Go.Proofs.Ytchfibmndcfpiaa
set_option linter.unusedVariables false
set_option linter.unusedSimpArgs false
open Go.RowKit

/-- Of those below t who have k, the one whom xs has last; -1 for nobody. -/
def worstN (xs m : List Int) (k : Nat) : Nat → Int
  | 0 => -1
  | t + 1 => if m.getD t 0 = (k : Int) ∧ (worstN xs m k t < 0 ∨ placeI xs (worstN xs m k t) < placeI xs t) then (t : Int) else worstN xs m k t
theorem worstN_spec {xs m : List Int} {k : Nat} : ∀ {t : Nat}, (worstN xs m k t = -1 ∧ ∀ j, j < t → m.getD j 0 ≠ k) ∨ ∃ j : Nat, worstN xs m k t = j ∧ j < t ∧ m.getD j 0 = k ∧ ∀ i : Nat, i < t → m.getD i 0 = k → placeI xs i ≤ placeI xs j
  | 0 => .inl ⟨rfl, fun j h => by omega⟩
  | t + 1 => by
    rw [worstN]
    by_cases hm : m.getD t 0 = (k : Int)
    · rcases worstN_spec (xs := xs) (m := m) (k := k) (t := t) with ⟨h1, h2⟩ | ⟨j, h1, h2, h3, h4⟩
      · rw [if_pos ⟨hm, .inl (by omega)⟩]
        refine .inr ⟨t, rfl, by omega, hm, fun i hi hk => ?_⟩
        by_cases e : i = t
        · subst e; exact Int.le_refl _
        · exact absurd hk (h2 i (by omega))
      · rw [h1]
        by_cases hlt : placeI xs j < placeI xs t
        · rw [if_pos ⟨hm, .inr hlt⟩]
          refine .inr ⟨t, rfl, by omega, hm, fun i hi hk => ?_⟩
          by_cases e : i = t
          · subst e; exact Int.le_refl _
          · have := h4 i (by omega) hk; omega
        · rw [if_neg (by rintro ⟨_, h | h⟩ <;> omega)]
          refine .inr ⟨j, rfl, by omega, h3, fun i hi hk => ?_⟩
          by_cases e : i = t
          · subst e; omega
          · exact h4 i (by omega) hk
    · rw [if_neg (fun h => hm h.1)]
      rcases worstN_spec (xs := xs) (m := m) (k := k) (t := t) with ⟨h1, h2⟩ | ⟨j, h1, h2, h3, h4⟩
      · refine .inl ⟨h1, fun j hj => ?_⟩
        by_cases e : j = t
        · subst e; exact hm
        · exact h2 j (by omega)
      · refine .inr ⟨j, h1, by omega, h3, fun i hi hk => ?_⟩
        by_cases e : i = t
        · subst e; exact absurd hk hm
        · exact h4 i (by omega) hk
/-- The reference's way to it. -/
def worstRN (xs m : List Int) (k at0 : Nat) : Nat → Int
  | 0 => at0
  | t + 1 => if m.getD t 0 = (k : Int) ∧ placeI xs (worstRN xs m k at0 t) < placeI xs t then (t : Int) else worstRN xs m k at0 t
theorem worstRN_spec {xs m : List Int} {k at0 : Nat} (h0 : m.getD at0 0 = k) : ∀ {t : Nat}, ∃ j : Nat, worstRN xs m k at0 t = j ∧ (j < t ∨ j = at0) ∧ m.getD j 0 = k ∧ placeI xs at0 ≤ placeI xs j ∧ ∀ i : Nat, i < t → m.getD i 0 = k → placeI xs i ≤ placeI xs j
  | 0 => ⟨at0, rfl, .inr rfl, h0, Int.le_refl _, fun i h => by omega⟩
  | t + 1 => by
    obtain ⟨j, h1, h2, h3, h4, h5⟩ := worstRN_spec (xs := xs) h0 (t := t)
    rw [worstRN, h1]
    by_cases hc : m.getD t 0 = (k : Int) ∧ placeI xs j < placeI xs t
    · rw [if_pos hc]
      refine ⟨t, rfl, .inl (by omega), hc.1, by omega, fun i hi hk => ?_⟩
      by_cases e : i = t
      · subst e; exact Int.le_refl _
      · have := h5 i (by omega) hk; omega
    · rw [if_neg hc]
      refine ⟨j, rfl, by omega, h3, h4, fun i hi hk => ?_⟩
      by_cases e : i = t
      · subst e
        refine Classical.byContradiction fun hn => hc ⟨hk, by omega⟩
      · exact h5 i (by omega) hk
theorem worst_same {xs m : List Int} {k at0 t : Nat} (h0 : m.getD at0 0 = k) (ha : at0 < t) (hin : ∀ i : Nat, i < t → m.getD i 0 = k → containsI xs i = true) : worstRN xs m k at0 t = worstN xs m k t := by
  obtain ⟨j, h1, h2, h3, h4, h5⟩ := worstRN_spec (xs := xs) h0 (t := t)
  rcases worstN_spec (xs := xs) (m := m) (k := k) (t := t) with ⟨_, g2⟩ | ⟨i, g1, g2, g3, g4⟩
  · exact absurd h0 (g2 at0 ha)
  · rw [h1, g1]
    have hj : j < t := by omega
    have e1 := g4 j hj h3
    have e2 := h5 i g2 g3
    exact place_inj (hin j hj h3) (hin i g2 g3) (by omega)
/-- Who asks next. -/
def askerI (w : Wi) (m q : List Int) : Int := findI (fun i => decide (m.getD i 0 < 0) && decide (q.getD i 0 < (row w.L i).length)) w.L.length
/-- What the asking of one leads to. -/
def askM (w : Wi) (seats m q : List Int) (i : Nat) : List Int :=
  let k := ((row w.L i).getD (q.getD i 0).toNat 0).toNat
  if containsI (row w.R k) i then
    if seats.getD k 0 < (hasL (m.set i (k : Int)) k).length then (m.set i (k : Int)).set (worstN (row w.R k) (m.set i (k : Int)) k w.L.length).toNat (-1) else m.set i (k : Int)
  else m
def askQ (q : List Int) (i : Nat) : List Int := q.set i (q.getD i 0 + 1)
def askN (w : Wi) (seats : List Int) : Nat → List Int → List Int → List Int × List Int
  | 0, m, q => (m, q)
  | f + 1, m, q => if askerI w m q < 0 then (m, q) else askN w seats f (askM w seats m q (askerI w m q).toNat) (askQ q (askerI w m q).toNat)
/-- How many may still be asked. -/
def leftA (w : Wi) (q : List Int) : Nat := sumS (fun i => ((row w.L i).length - q.getD i 0).toNat) w.L.length
def askE (w : Wi) (seats m q : List Int) : List Int × List Int := askN w seats (leftA w q + 1) m q
theorem leftA_step {w : Wi} {q : List Int} {i : Nat} (hq : q.length = w.L.length) (hi : i < w.L.length) (h0 : 0 ≤ q.getD i 0) (h1 : q.getD i 0 < (row w.L i).length) : leftA w (askQ q i) < leftA w q := by
  unfold leftA
  refine sumS_more (q := i) hi (fun j hj => ?_) ?_
  · by_cases e : j = i
    · subst e
      unfold askQ
      rw [show (q.set j (q.getD j 0 + 1)).getD j 0 = q.getD j 0 + 1 by simp [List.getD, List.getElem?_set, hq, hj]]
      omega
    · unfold askQ
      rw [show (q.set i (q.getD i 0 + 1)).getD j 0 = q.getD j 0 by simp [List.getD, List.getElem?_set, Ne.symm e]]
      exact Nat.le_refl _
  · unfold askQ
    rw [show (q.set i (q.getD i 0 + 1)).getD i 0 = q.getD i 0 + 1 by simp [List.getD, List.getElem?_set, hq, hi]]
    omega
theorem asker_spec (w : Wi) (m q : List Int) : (∃ i : Nat, askerI w m q = i ∧ i < w.L.length ∧ m.getD i 0 < 0 ∧ q.getD i 0 < (row w.L i).length) ∨ (askerI w m q = -1 ∧ ∀ i, i < w.L.length → m.getD i 0 < 0 → (row w.L i).length ≤ q.getD i 0) := by
  rcases findI_spec (fun i => decide (m.getD i 0 < 0) && decide (q.getD i 0 < (row w.L i).length)) w.L.length with ⟨k, h1, h2, h3, h4⟩ | ⟨h1, h2⟩
  · simp only [Bool.and_eq_true, decide_eq_true_eq] at h2
    exact .inl ⟨k, h4, h1, h2.1, h2.2⟩
  · refine .inr ⟨h2, fun i hi hm => ?_⟩
    have := h1 i hi
    simp only [Bool.and_eq_false_iff, decide_eq_false_iff_not] at this
    omega
/-- Lists of numbers below n, and how many were asked. -/
structure Asks (w : Wi) (m q : List Int) : Prop where
  lm : m.length = w.L.length
  lq : q.length = w.L.length
  q0 : ∀ i, i < w.L.length → 0 ≤ q.getD i 0 ∧ q.getD i 0 ≤ (row w.L i).length
  val : ∀ i, i < w.L.length → m.getD i 0 = -1 ∨ (1 ≤ q.getD i 0 ∧ m.getD i 0 = (row w.L i).getD (q.getD i 0 - 1).toNat 0 ∧ ∃ k : Nat, m.getD i 0 = k ∧ k < w.L.length ∧ pairB w i k = true)
theorem getD_set_eq {m : List Int} {i : Nat} (h : i < m.length) (x : Int) : (m.set i x).getD i 0 = x := by simp [List.getD, List.getElem?_set, h]
theorem getD_set_ne' {m : List Int} {i j : Nat} (h : i ≠ j) (x : Int) : (m.set i x).getD j 0 = m.getD j 0 := by simp [List.getD, List.getElem?_set, h]
/-- Whom one asks. -/
theorem asked_k {w : Wi} (hw : Wish w) {i : Nat} (hi : i < w.L.length) {p : Nat} (hp : p < (row w.L i).length) : ∃ k : Nat, (row w.L i).getD p 0 = k ∧ k < w.L.length ∧ containsI (row w.L i) k = true ∧ placeI (row w.L i) k = p := by
  obtain ⟨h1, h2⟩ := hw.left _ (row_mem hi)
  have hm := getD_mem hp
  have := h1 _ hm
  refine ⟨((row w.L i).getD p 0).toNat, by omega, by omega, ?_, ?_⟩
  · rw [containsI_iff, show (((row w.L i).getD p 0).toNat : Int) = (row w.L i).getD p 0 by omega]; exact hm
  · rw [show (((row w.L i).getD p 0).toNat : Int) = (row w.L i).getD p 0 by omega]
    exact place_at h2 (get_of_lt hp)
/-- The three ends of an asking. -/
inductive AskCase (w : Wi) (seats m q : List Int) (i k : Nat) : List Int → Prop
  | no (h : containsI (row w.R k) i = false) : AskCase w seats m q i k m
  | room (h : pairB w i k = true) (hf : ((hasL (m.set i (k : Int)) k).length : Int) ≤ seats.getD k 0) : AskCase w seats m q i k (m.set i (k : Int))
  | full (h : pairB w i k = true) (hf : seats.getD k 0 < ((hasL (m.set i (k : Int)) k).length : Int)) (l : Nat) (hl : l < w.L.length) (hlk : (m.set i (k : Int)).getD l 0 = k) (hmax : ∀ j : Nat, j < w.L.length → (m.set i (k : Int)).getD j 0 = k → placeI (row w.R k) j ≤ placeI (row w.R k) l) (he : worstN (row w.R k) (m.set i (k : Int)) k w.L.length = l) : AskCase w seats m q i k ((m.set i (k : Int)).set l (-1))
theorem ask_case {w : Wi} (hw : Wish w) {seats m q : List Int} (ha : Asks w m q) {i : Nat} (hi : i < w.L.length) (hq : q.getD i 0 < (row w.L i).length) : ∃ k : Nat, (row w.L i).getD (q.getD i 0).toNat 0 = k ∧ k < w.L.length ∧ containsI (row w.L i) k = true ∧ placeI (row w.L i) k = q.getD i 0 ∧ AskCase w seats m q i k (askM w seats m q i) := by
  have h0 := (ha.q0 i hi).1
  obtain ⟨k, h1, h2, h3, h4⟩ := asked_k hw hi (p := (q.getD i 0).toNat) (by omega)
  refine ⟨k, h1, h2, h3, by omega, ?_⟩
  unfold askM
  simp only [h1, Int.toNat_natCast]
  cases hc : containsI (row w.R k) i with
  | false => simp only [Bool.false_eq_true, if_false]; exact .no hc
  | true =>
    have hp : pairB w i k = true := by unfold pairB; rw [h3, hc]; rfl
    simp only [if_true]
    split
    case isTrue hf =>
      rcases worstN_spec (xs := row w.R k) (m := m.set i (k : Int)) (k := k) (t := w.L.length) with ⟨_, g2⟩ | ⟨l, g1, g2, g3, g4⟩
      · exact absurd (getD_set_eq (by rw [ha.lm]; exact hi) _) (g2 i hi)
      · rw [g1, Int.toNat_natCast]
        exact .full hp hf l g2 g3 g4 g1
    case isFalse hf => exact .room hp (by omega)
theorem askQ_at {q : List Int} {i : Nat} (h : i < q.length) : (askQ q i).getD i 0 = q.getD i 0 + 1 := getD_set_eq h _
theorem askQ_ne {q : List Int} {i j : Nat} (h : i ≠ j) : (askQ q i).getD j 0 = q.getD j 0 := getD_set_ne' h _
theorem asks_step {w : Wi} (hw : Wish w) {seats m q : List Int} (ha : Asks w m q) {i : Nat} (hi : i < w.L.length) (hmi : m.getD i 0 < 0) (hq : q.getD i 0 < (row w.L i).length) : Asks w (askM w seats m q i) (askQ q i) := by
  obtain ⟨k, h1, h2, h3, h4, hc⟩ := ask_case hw (seats := seats) ha hi hq
  have hlm := ha.lm
  have hlq := ha.lq
  have hql : (askQ q i).length = w.L.length := by unfold askQ; rw [List.length_set, hlq]
  have hq0 : ∀ j, j < w.L.length → 0 ≤ (askQ q i).getD j 0 ∧ (askQ q i).getD j 0 ≤ (row w.L j).length := fun j hj => by
    by_cases e : i = j
    · subst e; rw [askQ_at (by omega)]; have := ha.q0 i hi; omega
    · rw [askQ_ne e]; exact ha.q0 j hj
  have hold : ∀ j, j < w.L.length → j ≠ i → m.getD j 0 = -1 ∨ (1 ≤ (askQ q i).getD j 0 ∧ m.getD j 0 = (row w.L j).getD ((askQ q i).getD j 0 - 1).toNat 0 ∧ ∃ k : Nat, m.getD j 0 = k ∧ k < w.L.length ∧ pairB w j k = true) := fun j hj e => by
    rw [askQ_ne (Ne.symm e)]; exact ha.val j hj
  have hnew : pairB w i k = true → (1 ≤ (askQ q i).getD i 0 ∧ (k : Int) = (row w.L i).getD ((askQ q i).getD i 0 - 1).toNat 0 ∧ ∃ k' : Nat, (k : Int) = k' ∧ k' < w.L.length ∧ pairB w i k' = true) := fun hp => by
    rw [askQ_at (by omega), show q.getD i 0 + 1 - 1 = q.getD i 0 by omega, h1]
    have := (ha.q0 i hi).1
    exact ⟨by omega, rfl, k, rfl, h2, hp⟩
  generalize askM w seats m q i = m' at hc ⊢
  cases hc with
  | no hc =>
    refine ⟨hlm, hql, hq0, fun j hj => ?_⟩
    by_cases e : j = i
    · subst e
      rcases ha.val j hj with h | ⟨_, _, c, h, _⟩
      · exact .inl h
      · omega
    · exact hold j hj e
  | room hp hf =>
    refine ⟨by rw [List.length_set, hlm], hql, hq0, fun j hj => ?_⟩
    by_cases e : j = i
    · subst e; rw [getD_set_eq (by omega)]; exact .inr (hnew hp)
    · rw [getD_set_ne' (Ne.symm e)]; exact hold j hj e
  | full hp hf l hl hlk hmax he =>
    refine ⟨by rw [List.length_set, List.length_set, hlm], hql, hq0, fun j hj => ?_⟩
    by_cases e2 : j = l
    · subst e2; rw [getD_set_eq (by rw [List.length_set]; omega)]; exact .inl rfl
    · rw [getD_set_ne' (Ne.symm e2)]
      by_cases e : j = i
      · subst e; rw [getD_set_eq (by omega)]; exact .inr (hnew hp)
      · rw [getD_set_ne' (Ne.symm e)]; exact hold j hj e
theorem askN_enough {w : Wi} (hw : Wish w) {seats : List Int} : ∀ {f g : Nat} {m q : List Int}, Asks w m q → leftA w q < f → leftA w q < g → askN w seats f m q = askN w seats g m q
  | 0, _, _, _, _, h, _ => by omega
  | _ + 1, 0, _, _, _, _, h => by omega
  | f + 1, g + 1, m, q, ha, h1, h2 => by
    rw [askN, askN]
    rcases asker_spec w m q with ⟨i, e, hi, hm, hq⟩ | ⟨e, _⟩
    · rw [e, if_neg (by omega), if_neg (by omega), Int.toNat_natCast]
      have := leftA_step ha.lq hi (ha.q0 i hi).1 hq
      exact askN_enough hw (asks_step hw ha hi hm hq) (by omega) (by omega)
    · rw [e, if_pos (by omega), if_pos (by omega)]
theorem askE_step {w : Wi} (hw : Wish w) {seats m q : List Int} (ha : Asks w m q) {i : Nat} (he : askerI w m q = i) (hi : i < w.L.length) (hm : m.getD i 0 < 0) (hq : q.getD i 0 < (row w.L i).length) : askE w seats m q = askE w seats (askM w seats m q i) (askQ q i) := by
  have := leftA_step ha.lq hi (ha.q0 i hi).1 hq
  unfold askE
  rw [askN, he, if_neg (by omega), Int.toNat_natCast]
  exact askN_enough hw (asks_step hw ha hi hm hq) (by omega) (by omega)
theorem askE_end {w : Wi} {seats m q : List Int} (he : askerI w m q < 0) : askE w seats m q = (m, q) := by
  unfold askE
  rw [askN, if_pos he]
/-- The whole of asking, from the beginning. -/
def askF (w : Wi) (seats : List Int) : List Int × List Int := askE w seats (List.replicate w.L.length (-1)) (List.replicate w.L.length 0)
theorem asks_start (w : Wi) : Asks w (List.replicate w.L.length (-1)) (List.replicate w.L.length 0) := by
  refine ⟨by simp, by simp, fun i hi => ?_, fun i hi => .inl ?_⟩
  · rw [show (List.replicate w.L.length (0 : Int)).getD i 0 = 0 by simp [List.getD, hi]]; omega
  · simp [List.getD, hi]
/-- An invariant that each asking keeps holds at the end. -/
theorem askE_inv {w : Wi} (hw : Wish w) {seats : List Int} {Inv : List Int → List Int → Prop} (hstep : ∀ m q i, Asks w m q → Inv m q → i < w.L.length → m.getD i 0 < 0 → q.getD i 0 < (row w.L i).length → Inv (askM w seats m q i) (askQ q i)) : ∀ (d : Nat) (m q : List Int), leftA w q = d → Asks w m q → Inv m q →
    Asks w (askE w seats m q).1 (askE w seats m q).2 ∧ Inv (askE w seats m q).1 (askE w seats m q).2 ∧ ∀ i, i < w.L.length → (askE w seats m q).1.getD i 0 < 0 → (row w.L i).length ≤ (askE w seats m q).2.getD i 0 := by
  intro d
  induction d using Nat.strongRecOn with
  | _ d ih =>
    intro m q hd ha hI
    rcases asker_spec w m q with ⟨i, e, hi, hm, hq⟩ | ⟨e, h⟩
    · rw [askE_step hw ha e hi hm hq]
      have := leftA_step ha.lq hi (ha.q0 i hi).1 hq
      exact ih _ (by omega) _ _ rfl (asks_step hw ha hi hm hq) (hstep m q i ha hI hi hm hq)
    · rw [askE_end (by omega)]
      exact ⟨ha, hI, h⟩
/-- How often is asked. -/
theorem sum_set (q : List Int) (i : Nat) (h : i < q.length) (x : Int) : (q.set i x).sum = q.sum - q.getD i 0 + x := by
  induction q generalizing i with
  | nil => simp at h
  | cons y q ih =>
    cases i with
    | zero => simp; omega
    | succ i =>
      have := ih i (by simpa using h)
      simp only [List.set_cons_succ, List.sum_cons, List.getD_cons_succ]
      omega
theorem askQ_sum {q : List Int} {i : Nat} (h : i < q.length) : (askQ q i).sum = q.sum + 1 := by
  unfold askQ
  rw [sum_set q i h]
  omega
theorem sum_le (q : List Int) (n : Int) (h : ∀ x ∈ q, 0 ≤ x ∧ x ≤ n) : 0 ≤ q.sum ∧ q.sum ≤ n * q.length := by
  induction q with
  | nil => simp
  | cons y q ih =>
    have h1 := h y (by simp)
    have h2 := ih (fun x hx => h x (by simp [hx]))
    simp only [List.sum_cons, List.length_cons]
    rw [show n * ((q.length + 1 : Nat) : Int) = n * (q.length : Int) + n by rw [Int.natCast_add, Int.mul_add]; simp]
    omega
theorem asks_sum {w : Wi} (hw : Wish w) {m q : List Int} (ha : Asks w m q) : 0 ≤ q.sum ∧ q.sum ≤ (w.L.length : Int) * w.L.length := by
  have := sum_le q w.L.length (fun x hx => by
    obtain ⟨i, hi, rfl⟩ := List.getElem_of_mem hx
    have hi' : i < w.L.length := by rw [← ha.lq]; exact hi
    have h1 := ha.q0 i hi'
    rw [getD_eq hi] at h1
    have := row_le hw hi'
    omega)
  rwa [ha.lq] at this
/-- Who has k, besides one. -/
theorem hasN_set_len {m : List Int} {i : Nat} {x : Int} {k : Nat} (hi : i < m.length) : ∀ t, (hasN (m.set i x) k t).length = (hasN m k t).length - (if i < t ∧ m.getD i 0 = k then 1 else 0) + (if i < t ∧ x = k then 1 else 0)
  | 0 => by simp [hasN]
  | t + 1 => by
    have ih := hasN_set_len (x := x) (k := k) hi t
    have pos : i < t → m.getD i 0 = (k : Int) → 1 ≤ (hasN m k t).length := fun h1 h2 => by
      have : (i : Int) ∈ hasN m k t := hasN_mem.2 ⟨i, rfl, h1, h2⟩
      exact List.length_pos_of_mem this
    rw [hasN, hasN]
    by_cases e : i = t
    · subst e
      rw [getD_set_eq hi]
      have h1 : ¬ (i < i ∧ m.getD i 0 = (k : Int)) := by omega
      have h2 : ¬ (i < i ∧ x = (k : Int)) := by omega
      rw [if_neg h1, if_neg h2] at ih
      generalize hasN (m.set i x) k i = A at *
      generalize hasN m k i = B at *
      generalize m.getD i 0 = y at *
      clear h1 h2 pos
      by_cases hx : x = (k : Int) <;> by_cases hm : y = (k : Int) <;> simp [hx, hm] <;> omega
    · rw [getD_set_ne' e]
      have e1 : (i < t + 1 ∧ m.getD i 0 = (k : Int)) ↔ (i < t ∧ m.getD i 0 = (k : Int)) := by constructor <;> rintro ⟨h1, h2⟩ <;> exact ⟨by omega, h2⟩
      have e2 : (i < t + 1 ∧ x = (k : Int)) ↔ (i < t ∧ x = (k : Int)) := by constructor <;> rintro ⟨h1, h2⟩ <;> exact ⟨by omega, h2⟩
      simp only [e1, e2]
      by_cases hm : m.getD t 0 = (k : Int)
      · rw [if_pos hm, if_pos hm, List.length_append, List.length_append, ih]
        by_cases hc : i < t ∧ m.getD i 0 = (k : Int)
        · have := pos hc.1 hc.2
          rw [if_pos hc]
          simp only [List.length_singleton]
          omega
        · rw [if_neg hc]
          simp only [List.length_singleton]
          omega
      · rw [if_neg hm, if_neg hm, ih]
theorem hasL_set_len {m : List Int} {i : Nat} {x : Int} {k : Nat} (hi : i < m.length) : (hasL (m.set i x) k).length = (hasL m k).length - (if m.getD i 0 = k then 1 else 0) + (if x = k then 1 else 0) := by
  unfold hasL
  rw [List.length_set, hasN_set_len hi]
  simp only [hi, true_and]
/-- What asking keeps, of seats. -/
structure Full (w : Wi) (seats m q : List Int) : Prop where
  seat : ∀ k, k < w.L.length → ((hasL m k).length : Int) ≤ seats.getD k 0
  past : ∀ i, i < w.L.length → ∀ k : Nat, containsI (row w.L i) k = true → placeI (row w.L i) k < q.getD i 0 → m.getD i 0 = k ∨ containsI (row w.R k) i = false ∨ (((hasL m k).length : Int) = seats.getD k 0 ∧ ∀ j : Nat, j < w.L.length → m.getD j 0 = k → placeI (row w.R k) j < placeI (row w.R k) i)
theorem full_start (w : Wi) (seats : List Int) (hs : ∀ k, k < w.L.length → 0 ≤ seats.getD k 0) : Full w seats (List.replicate w.L.length (-1)) (List.replicate w.L.length 0) := by
  refine ⟨fun k hk => ?_, fun i hi k hc hp => ?_⟩
  · have : hasL (List.replicate w.L.length (-1)) k = [] := by
      refine List.eq_nil_iff_forall_not_mem.2 fun x hx => ?_
      obtain ⟨i, _, h2, h3⟩ := hasN_mem.1 hx
      rw [List.length_replicate] at h2
      rw [show (List.replicate w.L.length (-1 : Int)).getD i 0 = -1 by simp [List.getD, h2]] at h3
      omega
    rw [this]; exact hs k hk
  · rw [show (List.replicate w.L.length (0 : Int)).getD i 0 = 0 by simp [List.getD, hi]] at hp
    have := (placeI_bd (row w.L i) k).1
    omega
theorem right_of {w : Wi} {m q : List Int} (ha : Asks w m q) {j k : Nat} (hj : j < w.L.length) (h : m.getD j 0 = k) : containsI (row w.R k) j = true := by
  rcases ha.val j hj with h2 | ⟨_, _, c, h2, _, hp⟩
  · omega
  · have : c = k := by omega
    subst this
    simp only [pairB, Bool.and_eq_true] at hp
    exact hp.2
theorem full_step {w : Wi} (hw : Wish w) {seats m q : List Int} (ha : Asks w m q) (hF : Full w seats m q) {i : Nat} (hi : i < w.L.length) (hmi : m.getD i 0 < 0) (hq : q.getD i 0 < (row w.L i).length) : Full w seats (askM w seats m q i) (askQ q i) := by
  obtain ⟨k, h1, h2, h3, h4, hc⟩ := ask_case hw (seats := seats) ha hi hq
  have hlm := ha.lm
  have hlq := ha.lq
  have him : i < m.length := by omega
  have hne : ¬ m.getD i 0 = (k : Int) := by omega
  -- how far one has asked
  have reach : ∀ j, j < w.L.length → ∀ c : Nat, containsI (row w.L j) c = true → placeI (row w.L j) c < (askQ q i).getD j 0 → (placeI (row w.L j) c < q.getD j 0 ∨ (j = i ∧ c = k)) := fun j hj c hc hp => by
    by_cases e : i = j
    · subst e
      rw [askQ_at (by omega)] at hp
      by_cases hlt : placeI (row w.L i) c < q.getD i 0
      · exact .inl hlt
      · refine .inr ⟨rfl, ?_⟩
        have := place_inj hc h3 (by omega)
        omega
    · rw [askQ_ne e] at hp; exact .inl hp
  have hrow : ∀ j c : Nat, containsI (row w.R c) j = true → ∀ j' : Nat, containsI (row w.R c) j' = true → placeI (row w.R c) j = placeI (row w.R c) j' → j = j' := fun j c a j' b e => by have := place_inj a b e; omega
  generalize askM w seats m q i = m' at hc ⊢
  cases hc with
  | no hc =>
    refine ⟨hF.seat, fun j hj c hjc hp => ?_⟩
    rcases reach j hj c hjc hp with h | ⟨rfl, rfl⟩
    · exact hF.past j hj c hjc h
    · exact .inr (.inl hc)
  | room hp hf =>
    have hlen : ∀ c : Nat, c ≠ k → (hasL (m.set i (k : Int)) c).length = (hasL m c).length := fun c hck => by
      rw [hasL_set_len him]
      have e1 : ¬ m.getD i 0 = (c : Int) := by omega
      have e2 : ¬ (k : Int) = (c : Int) := by omega
      rw [if_neg e1, if_neg e2]; omega
    have hlenk : (hasL (m.set i (k : Int)) k).length = (hasL m k).length + 1 := by
      rw [hasL_set_len him, if_neg hne, if_pos rfl]; omega
    refine ⟨fun c hcn => ?_, fun j hj c hjc hp2 => ?_⟩
    · by_cases e : c = k
      · subst e; exact hf
      · rw [hlen c e]; exact hF.seat c hcn
    · by_cases e : j = i ∧ c = k
      · obtain ⟨rfl, rfl⟩ := e
        exact .inl (getD_set_eq him _)
      · rcases reach j hj c hjc hp2 with h | h
        · by_cases eck : c = k
          · subst eck
            -- c has room: it was not full
            rcases hF.past j hj c hjc h with g | g | ⟨g, _⟩
            · by_cases eji : j = i
              · subst eji; exact absurd ⟨rfl, rfl⟩ e
              · exact .inl (by rw [getD_set_ne' (Ne.symm eji)]; exact g)
            · exact .inr (.inl g)
            · omega
          · rcases hF.past j hj c hjc h with g | g | ⟨g, g2⟩
            · by_cases eji : j = i
              · subst eji; omega
              · exact .inl (by rw [getD_set_ne' (Ne.symm eji)]; exact g)
            · exact .inr (.inl g)
            · refine .inr (.inr ⟨by rw [hlen c eck]; exact g, fun j' hj' hj2 => ?_⟩)
              by_cases e3 : j' = i
              · subst e3
                rw [getD_set_eq him] at hj2
                omega
              · rw [getD_set_ne' (Ne.symm e3)] at hj2
                exact g2 j' hj' hj2
        · exact absurd h e
  | full hp hf l hl hlk hmax he =>
    have him2 : l < (m.set i (k : Int)).length := by rw [List.length_set]; omega
    have hpR : containsI (row w.R k) i = true := by simp only [pairB, Bool.and_eq_true] at hp; exact hp.2
    have hset : ∀ j : Nat, j < w.L.length → (m.set i (k : Int)).getD j 0 = k → containsI (row w.R k) j = true := fun j hj h => by
      by_cases e : j = i
      · subst e; exact hpR
      · rw [getD_set_ne' (Ne.symm e)] at h; exact right_of ha hj h
    have hlenk0 : (hasL (m.set i (k : Int)) k).length = (hasL m k).length + 1 := by
      rw [hasL_set_len him, if_neg hne, if_pos rfl]; omega
    have hseatk := hF.seat k h2
    have hlenk : (hasL ((m.set i (k : Int)).set l (-1)) k).length = (hasL m k).length := by
      rw [hasL_set_len him2, if_pos hlk, if_neg (by omega), hlenk0]; omega
    have hlen : ∀ c : Nat, c ≠ k → (hasL ((m.set i (k : Int)).set l (-1)) c).length = (hasL m c).length := fun c hck => by
      have e0 : ¬ (m.set i (k : Int)).getD l 0 = (c : Int) := by omega
      rw [hasL_set_len him2, if_neg e0, if_neg (by omega), hasL_set_len him]
      have e1 : ¬ m.getD i 0 = (c : Int) := by omega
      have e2 : ¬ (k : Int) = (c : Int) := by omega
      rw [if_neg e1, if_neg e2]; omega
    have hfullk : ((hasL m k).length : Int) = seats.getD k 0 := by omega
    -- who has k at the end
    have hend : ∀ j : Nat, j < w.L.length → ((m.set i (k : Int)).set l (-1)).getD j 0 = k → j ≠ l ∧ (m.set i (k : Int)).getD j 0 = k := fun j hj h => by
      by_cases e : j = l
      · subst e; rw [getD_set_eq him2] at h; omega
      · rw [getD_set_ne' (Ne.symm e)] at h; exact ⟨e, h⟩
    have hless : ∀ j : Nat, j < w.L.length → ((m.set i (k : Int)).set l (-1)).getD j 0 = k → placeI (row w.R k) j < placeI (row w.R k) l := fun j hj h => by
      obtain ⟨g1, g2⟩ := hend j hj h
      have := hmax j hj g2
      have : placeI (row w.R k) j ≠ placeI (row w.R k) l := fun e => g1 (hrow j k (hset j hj g2) l (hset l hl hlk) e)
      omega
    refine ⟨fun c hcn => ?_, fun j hj c hjc hp2 => ?_⟩
    · by_cases e : c = k
      · subst e; rw [hlenk]; exact hseatk
      · rw [hlen c e]; exact hF.seat c hcn
    · -- does j have c?
      by_cases ejl : j = l ∧ c = k
      · obtain ⟨rfl, rfl⟩ := ejl
        exact .inr (.inr ⟨by rw [hlenk]; exact hfullk, hless⟩)
      · by_cases eji : j = i ∧ c = k
        · obtain ⟨rfl, rfl⟩ := eji
          have : j ≠ l := fun e => ejl ⟨e, rfl⟩
          exact .inl (by rw [getD_set_ne' (Ne.symm this), getD_set_eq him])
        · rcases reach j hj c hjc hp2 with h | h
          · by_cases eck : c = k
            · subst eck
              rcases hF.past j hj c hjc h with g | g | ⟨g, g2⟩
              · have h1' : j ≠ i := fun e => eji ⟨e, rfl⟩
                have h2' : j ≠ l := fun e => ejl ⟨e, rfl⟩
                exact .inl (by rw [getD_set_ne' (Ne.symm h2'), getD_set_ne' (Ne.symm h1')]; exact g)
              · exact .inr (.inl g)
              · refine .inr (.inr ⟨by rw [hlenk]; exact hfullk, fun j' hj' hj2 => ?_⟩)
                obtain ⟨n1, n2⟩ := hend j' hj' hj2
                by_cases e3 : j' = i
                · subst e3
                  -- the one who asked stays, so the last one was there before
                  have hli : l ≠ j' := fun e => n1 e.symm
                  have hlm' : m.getD l 0 = (c : Int) := by rw [getD_set_ne' (Ne.symm hli)] at hlk; exact hlk
                  have := g2 l hl hlm'
                  have := hless j' hj' hj2
                  omega
                · rw [getD_set_ne' (Ne.symm e3)] at n2
                  exact g2 j' hj' n2
            · rcases hF.past j hj c hjc h with g | g | ⟨g, g2⟩
              · refine .inl ?_
                by_cases e3 : j = l
                · subst e3
                  exfalso
                  by_cases e4 : j = i
                  · subst e4; omega
                  · rw [getD_set_ne' (Ne.symm e4)] at hlk; omega
                · rw [getD_set_ne' (Ne.symm e3)]
                  by_cases e4 : j = i
                  · subst e4; omega
                  · rw [getD_set_ne' (Ne.symm e4)]; exact g
              · exact .inr (.inl g)
              · refine .inr (.inr ⟨by rw [hlen c eck]; exact g, fun j' hj' hj2 => ?_⟩)
                by_cases e3 : j' = l
                · subst e3; rw [getD_set_eq him2] at hj2; omega
                · rw [getD_set_ne' (Ne.symm e3)] at hj2
                  by_cases e4 : j' = i
                  · subst e4; rw [getD_set_eq him] at hj2; omega
                  · rw [getD_set_ne' (Ne.symm e4)] at hj2
                    exact g2 j' hj' hj2
          · exact absurd h eji
end Go.Proofs.Ytchfibmndcfpiaa
namespace Go.Proofs.Ytchfibmndcfpiaa
set_option linter.unusedVariables false
set_option linter.unusedSimpArgs false
open Go.RowKit

theorem ask_end {w : Wi} (hw : Wish w) {seats : List Int} (hs : ∀ k, k < w.L.length → 0 ≤ seats.getD k 0) : Asks w (askF w seats).1 (askF w seats).2 ∧ Full w seats (askF w seats).1 (askF w seats).2 ∧ ∀ i, i < w.L.length → (askF w seats).1.getD i 0 < 0 → (row w.L i).length ≤ (askF w seats).2.getD i 0 :=
  askE_inv hw (seats := seats) (Inv := Full w seats) (fun _ _ _ ha hF hi hm hq => full_step hw ha hF hi hm hq) _ _ _ rfl (asks_start w) (full_start w seats hs)
/-- Whoever is dearer than whom one has was asked. -/
theorem was_asked {w : Wi} {m q : List Int} (hw : Wish w) (ha : Asks w m q) (he : ∀ i, i < w.L.length → m.getD i 0 < 0 → (row w.L i).length ≤ q.getD i 0) {a b : Nat} (hn : a < w.L.length) (hc : containsI (row w.L a) b = true) (hd : m.getD a 0 < 0 ∨ placeI (row w.L a) b < placeI (row w.L a) (m.getD a 0)) : placeI (row w.L a) b < q.getD a 0 := by
  have h1 := placeI_in hc
  rcases ha.val a hn with h | ⟨g1, g2, _⟩
  · have := he a hn (by omega); omega
  · have hq := (ha.q0 a hn).2
    obtain ⟨k, k1, k2, k3, k4⟩ := asked_k hw hn (p := (q.getD a 0 - 1).toNat) (by omega)
    rw [k1] at g2
    rw [g2, k4] at hd
    omega
theorem own_place {w : Wi} {m q : List Int} (hw : Wish w) (ha : Asks w m q) {a k : Nat} (hn : a < w.L.length) (h : m.getD a 0 = k) : placeI (row w.L a) k = q.getD a 0 - 1 ∧ 1 ≤ q.getD a 0 ∧ containsI (row w.L a) k = true := by
  rcases ha.val a hn with h2 | ⟨g1, g2, _⟩
  · omega
  · have hq := (ha.q0 a hn).2
    obtain ⟨c, k1, k2, k3, k4⟩ := asked_k hw hn (p := (q.getD a 0 - 1).toNat) (by omega)
    rw [k1] at g2
    have : c = k := by omega
    subst this
    exact ⟨by omega, g1, k3⟩
theorem ask_partners {w : Wi} {m q : List Int} (ha : Asks w m q) : partnersB w m = true := by
  refine partners_iff.2 ⟨ha.lm, fun i hi => ?_⟩
  rcases ha.val i (by rw [← ha.lm]; exact hi) with h | ⟨_, _, h⟩
  · exact .inl h
  · exact .inr h
theorem ask_full {w : Wi} {seats m q : List Int} (hF : Full w seats m q) : fullB w seats m = true := by
  unfold fullB
  rw [List.all_eq_true]
  exact fun k hk => decide_eq_true (hF.seat k (List.mem_range.1 hk))
theorem ask_quiet {w : Wi} (hw : Wish w) {seats m q : List Int} (ha : Asks w m q) (hF : Full w seats m q) (he : ∀ i, i < w.L.length → m.getD i 0 < 0 → (row w.L i).length ≤ q.getD i 0) {a b : Nat} (hn : a < w.L.length) : sblocksI w seats m a b = false := by
  unfold sblocksI
  cases hp : pairB w a b with
  | false => simp
  | true =>
    cases hd : dearI (row w.L a) b (m.getD a 0) with
    | false => simp
    | true =>
      have hp2 := hp
      simp only [pairB, Bool.and_eq_true] at hp2
      have hd2 := of_decide_eq_true hd
      have hk := was_asked hw ha he hn hp2.1 (.inr hd2)
      rcases hF.past a hn b hp2.1 hk with h | h | ⟨h1, h2⟩
      · rw [h] at hd2; omega
      · rw [hp2.2] at h; cases h
      · simp only [Bool.true_and, Bool.or_eq_false_iff, decide_eq_false_iff_not]
        refine ⟨by omega, ?_⟩
        rw [List.any_eq_false]
        intro j hj
        obtain ⟨i, rfl, i2, i3⟩ := hasN_mem.1 hj
        have := h2 i (by rw [← ha.lm]; exact i2) i3
        unfold dearI
        rw [decide_eq_false (by omega)]
        simp
theorem school_quiet {w : Wi} (hw : Wish w) {seats : List Int} (hs : ∀ k, k < w.L.length → 0 ≤ seats.getD k 0) : schoolF w seats (askF w seats).1 = none := by
  obtain ⟨ha, hF, he⟩ := ask_end hw hs
  unfold schoolF
  split
  · exact first2_none.2 fun a b hn _ => ask_quiet hw ha hF he hn
  · rfl
theorem hasN_two {m : List Int} {k i j : Nat} (hij : i < j) (hi : m.getD i 0 = k) (hj : m.getD j 0 = k) : ∀ {t : Nat}, j < t → 2 ≤ (hasN m k t).length
  | 0, h => by omega
  | t + 1, h => by
    rw [hasN]
    by_cases e : j = t
    · subst e
      rw [if_pos hj, List.length_append]
      have : (i : Int) ∈ hasN m k j := hasN_mem.2 ⟨i, rfl, hij, hi⟩
      have := List.length_pos_of_mem this
      simp; omega
    · have := hasN_two hij hi hj (t := t) (by omega)
      split
      · rw [List.length_append]; omega
      · exact this
def onesL (n : Nat) : List Int := List.replicate n 1
theorem onesL_get {n k : Nat} (h : k < n) : (onesL n).getD k 0 = 1 := by simp [onesL, List.getD, h]
theorem one_each {w : Wi} {m q : List Int} (ha : Asks w m q) (hF : Full w (onesL w.L.length) m q) {i j k : Nat} (hi : i < w.L.length) (hj : j < w.L.length) (hk : k < w.L.length) (h1 : m.getD i 0 = k) (h2 : m.getD j 0 = k) : i = j := by
  have hs := hF.seat k hk
  rw [onesL_get hk] at hs
  have hlm := ha.lm
  rcases Nat.lt_trichotomy i j with h | h | h
  · have := hasN_two h h1 h2 (t := m.length) (by omega)
    unfold hasL at hs; omega
  · exact h
  · have := hasN_two h h2 h1 (t := m.length) (by omega)
    unfold hasL at hs; omega
theorem ask_mat {w : Wi} {m q : List Int} (ha : Asks w m q) (hF : Full w (onesL w.L.length) m q) : Mat w m := by
  have hlm := ha.lm
  refine ⟨hlm, fun i hi => ?_, fun i j hi hj h0 he => ?_⟩
  · rcases ha.val i (by omega) with h | ⟨_, _, h⟩
    · exact .inl h
    · exact .inr h
  · rcases ha.val i (by omega) with h | ⟨_, _, k, h, hk, _⟩
    · omega
    · exact one_each ha hF (by omega) (by omega) hk h (by omega)
theorem ask_stable {w : Wi} (hw : Wish w) {m q : List Int} (ha : Asks w m q) (hF : Full w (onesL w.L.length) m q) (he : ∀ i, i < w.L.length → m.getD i 0 < 0 → (row w.L i).length ≤ q.getD i 0) : stableB w m = true := by
  have hm := ask_mat ha hF
  simp only [stableB, Bool.and_eq_true, Option.isNone_iff_eq_none]
  refine ⟨of_mat hm, block_none.2 fun a b hn hb => ?_⟩
  unfold blocksB
  cases hp : pairB w a b with
  | false => simp
  | true =>
    have hp2 := hp
    simp only [pairB, Bool.and_eq_true] at hp2
    cases hd : dearB (row w.L a) b (m.getD a 0) with
    | false => simp
    | true =>
      have hd2 := hd
      simp only [dearB, Bool.or_eq_true, decide_eq_true_eq] at hd2
      have hk := was_asked hw ha he hn hp2.1 hd2
      rcases hF.past a hn b hp2.1 hk with h | h | ⟨h1, h2⟩
      · rw [decide_eq_true h]; rfl
      · rw [hp2.2] at h; cases h
      · rw [onesL_get hb] at h1
        rcases back_cases hm b with ⟨i, i1, i2, i3⟩ | ⟨i1, _⟩
        · have := h2 i (by rw [← ha.lm]; exact i1) i2
          have : dearB (row w.R b) a (backF m b) = false := by
            rw [i3]
            simp only [dearB, Bool.or_eq_false_iff, decide_eq_false_iff_not]
            omega
          rw [this]; simp
        · have : hasL m b = [] := List.eq_nil_iff_forall_not_mem.2 fun x hx => by
            obtain ⟨i, _, g2, g3⟩ := hasN_mem.1 hx
            exact i1 i g2 g3
          rw [this] at h1; simp at h1
/-- Whoever was asked in vain is had in no stable match. -/
def Vain (w : Wi) (hw : Wish w) (m q : List Int) : Prop := ∀ i, i < w.L.length → ∀ k : Nat, containsI (row w.L i) k = true → placeI (row w.L i) k < q.getD i 0 → m.getD i 0 ≠ k → ∀ M, SM (sidesW w hw) M → ¬ M i k
theorem vain_step {w : Wi} (hw : Wish w) {m q : List Int} (ha : Asks w m q) (hF : Full w (onesL w.L.length) m q) (hV : Vain w hw m q) {i : Nat} (hi : i < w.L.length) (hmi : m.getD i 0 < 0) (hq : q.getD i 0 < (row w.L i).length) : Vain w hw (askM w (onesL w.L.length) m q i) (askQ q i) := by
  obtain ⟨k, h1, h2, h3, h4, hc⟩ := ask_case hw (seats := onesL w.L.length) ha hi hq
  have hlm := ha.lm
  have hlq := ha.lq
  have him : i < m.length := by omega
  have hone := onesL_get h2
  have reach : ∀ j, j < w.L.length → ∀ c : Nat, containsI (row w.L j) c = true → placeI (row w.L j) c < (askQ q i).getD j 0 → (placeI (row w.L j) c < q.getD j 0 ∨ (j = i ∧ c = k)) := fun j hj c hc hp => by
    by_cases e : i = j
    · subst e
      rw [askQ_at (by omega)] at hp
      by_cases hlt : placeI (row w.L i) c < q.getD i 0
      · exact .inl hlt
      · refine .inr ⟨rfl, ?_⟩
        have := place_inj hc h3 (by omega)
        omega
    · rw [askQ_ne e] at hp; exact .inl hp
  -- one who stays with k and is liked better keeps all others from it
  have keeps : ∀ j0 l : Nat, j0 < w.L.length → l ≠ j0 → pairB w j0 k = true → (∀ b' : Nat, containsI (row w.L j0) b' = true → placeI (row w.L j0) b' < placeI (row w.L j0) k → placeI (row w.L j0) b' < q.getD j0 0 ∧ m.getD j0 0 ≠ b') → placeI (row w.R k) j0 < placeI (row w.R k) l → ∀ M, SM (sidesW w hw) M → ¬ M l k := by
    intro j0 l hj0 hne hp hb hlt M hM hlk
    rcases hM.s j0 k ⟨hj0, h2, hp⟩ with ⟨b', g1, g2⟩ | ⟨a', g1, g2⟩
    · have hbk : b' ≠ k := fun e => by subst e; exact hne (hM.r _ _ _ hlk g1)
      have hpb := (hM.p _ _ g1).2.2
      simp only [pairB, Bool.and_eq_true] at hpb hp
      have hpl : placeI (row w.L j0) b' < placeI (row w.L j0) k := by
        have : placeI (row w.L j0) b' ≠ placeI (row w.L j0) k := fun e => hbk (by have := place_inj hpb.1 hp.1 e; omega)
        have : placeI (row w.L j0) b' ≤ placeI (row w.L j0) k := g2
        omega
      obtain ⟨e1, e2⟩ := hb b' hpb.1 hpl
      exact hV j0 hj0 b' hpb.1 e1 e2 M hM g1
    · have := hM.r _ _ _ g1 hlk
      subst this
      have : placeI (row w.R k) a' ≤ placeI (row w.R k) j0 := g2
      omega
  generalize askM w (onesL w.L.length) m q i = m' at hc ⊢
  cases hc with
  | no hc =>
    intro j hj c hjc hp hne M hM hjM
    rcases reach j hj c hjc hp with h | ⟨rfl, rfl⟩
    · exact hV j hj c hjc h hne M hM hjM
    · have := (hM.p _ _ hjM).2.2
      simp only [pairB, Bool.and_eq_true] at this
      rw [hc] at this
      exact absurd this.2 (by simp)
  | room hp hf =>
    intro j hj c hjc hpl hne M hM
    by_cases e : j = i
    · subst e
      rw [getD_set_eq him] at hne
      rcases reach j hj c hjc hpl with h | ⟨_, h⟩
      · exact hV j hj c hjc h (by omega) M hM
      · omega
    · rw [getD_set_ne' (Ne.symm e)] at hne
      rcases reach j hj c hjc hpl with h | ⟨h, _⟩
      · exact hV j hj c hjc h hne M hM
      · exact absurd h e
  | full hp hf l hl hlk hmax he =>
    have him2 : l < (m.set i (k : Int)).length := by rw [List.length_set]; omega
    have hp2 := hp
    simp only [pairB, Bool.and_eq_true] at hp2
    -- the one who is freed
    have hfree : ∀ M, SM (sidesW w hw) M → ¬ M l k := by
      by_cases e : l = i
      · subst e
        -- somebody had k
        have hlen : 1 ≤ (hasL m k).length := by
          rw [hasL_set_len him, if_neg (by omega), if_pos rfl, hone] at hf
          omega
        obtain ⟨x, hx⟩ := List.exists_mem_of_length_pos (by omega : 0 < (hasL m k).length)
        obtain ⟨j0, _, j1, j2⟩ := hasN_mem.1 hx
        have hj0 : j0 < w.L.length := by omega
        have hne : l ≠ j0 := fun e => by subst e; omega
        have hle := hmax j0 hj0 (by rw [getD_set_ne' hne]; exact j2)
        obtain ⟨o1, o2, o3⟩ := own_place hw ha hj0 j2
        have hR := right_of ha hj0 j2
        have hlt : placeI (row w.R k) j0 < placeI (row w.R k) l := by
          have : placeI (row w.R k) j0 ≠ placeI (row w.R k) l := fun e => by
            have := place_inj hR hp2.2 e
            omega
          omega
        refine keeps j0 l hj0 hne (by unfold pairB; rw [o3, hR]; rfl) (fun b' hb' hbl => ⟨by omega, fun e => ?_⟩) hlt
        rw [j2] at e
        have : k = b' := by omega
        subst this
        omega
      · have hlk' : m.getD l 0 = (k : Int) := by rw [getD_set_ne' (Ne.symm e)] at hlk; exact hlk
        have hle := hmax i hi (getD_set_eq him _)
        have hR := right_of ha hl hlk'
        have hlt : placeI (row w.R k) i < placeI (row w.R k) l := by
          have : placeI (row w.R k) i ≠ placeI (row w.R k) l := fun e2 => by
            have := place_inj hp2.2 hR e2
            omega
          omega
        exact keeps i l hi e hp (fun b' hb' hbl => ⟨by omega, by omega⟩) hlt
    intro j hj c hjc hpl hne M hM
    by_cases ejl : j = l ∧ c = k
    · obtain ⟨rfl, rfl⟩ := ejl
      exact hfree M hM
    · rcases reach j hj c hjc hpl with h | ⟨rfl, rfl⟩
      · refine hV j hj c hjc h (fun hm => ?_) M hM
        -- j had c before, so it has it still
        by_cases e1 : j = l
        · subst e1
          have hck : c ≠ k := fun e => ejl ⟨rfl, e⟩
          by_cases e2 : j = i
          · subst e2; omega
          · rw [getD_set_ne' (Ne.symm e2)] at hlk; omega
        · have e2 : j ≠ i := fun e => by subst e; omega
          rw [getD_set_ne' (Ne.symm e1), getD_set_ne' (Ne.symm e2)] at hne
          exact hne hm
      · have e1 : j ≠ l := fun e => ejl ⟨e, rfl⟩
        rw [getD_set_ne' (Ne.symm e1), getD_set_eq him] at hne
        exact absurd rfl hne
/-- The match of those who ask. -/
def askedF (w : Wi) : List Int := (askF w (onesL w.L.length)).1
theorem ones_pos (w : Wi) : ∀ k, k < w.L.length → 0 ≤ (onesL w.L.length).getD k 0 := fun k hk => by rw [onesL_get hk]; omega
theorem asked_stable {w : Wi} (hw : Wish w) : stableB w (askedF w) = true := by
  obtain ⟨ha, hF, he⟩ := ask_end hw (ones_pos w)
  exact ask_stable hw ha hF he
/-- It is the dearest one of all stable ones for those who ask. -/
theorem asked_best {w : Wi} (hw : Wish w) {M : Nat → Nat → Prop} (hM : SM (sidesW w hw) M) {a b : Nat} (hab : M a b) : ∃ b', Has (askedF w) a b' ∧ placeI (row w.L a) b' ≤ placeI (row w.L a) b := by
  obtain ⟨ha, ⟨hF, hV⟩, he⟩ := askE_inv hw (seats := onesL w.L.length) (Inv := fun m q => Full w (onesL w.L.length) m q ∧ Vain w hw m q) (fun _ _ _ ha h hi hm hq => ⟨full_step hw ha h.1 hi hm hq, vain_step hw ha h.1 h.2 hi hm hq⟩) _ _ _ rfl (asks_start w) ⟨full_start w _ (ones_pos w), fun i hi k hc hp => by
    rw [show (List.replicate w.L.length (0 : Int)).getD i 0 = 0 by simp [List.getD, hi]] at hp
    have := (placeI_bd (row w.L i) k).1
    omega⟩
  obtain ⟨h1, h2, h3⟩ := hM.p a b hab
  have hn : a < w.L.length := h1
  simp only [pairB, Bool.and_eq_true] at h3
  have hlm := ha.lm
  by_cases hk : placeI (row w.L a) b < (askE w (onesL w.L.length) (List.replicate w.L.length (-1)) (List.replicate w.L.length 0)).2.getD a 0
  · by_cases hm : (askedF w).getD a 0 = (b : Int)
    · exact ⟨b, ⟨by show a < (askE w _ _ _).1.length; omega, hm⟩, Int.le_refl _⟩
    · exact absurd hab (hV a hn b h3.1 hk hm M hM)
  · rcases ha.val a hn with h | ⟨g1, g2, c, g3, _⟩
    · have := he a hn (by omega)
      have := placeI_in h3.1
      omega
    · obtain ⟨o1, o2, o3⟩ := own_place hw ha hn g3
      exact ⟨c, ⟨by show a < (askE w _ _ _).1.length; omega, g3⟩, by omega⟩
/-- Wishes with both sides exchanged. -/
def turnW (w : Wi) : Wi := ⟨w.R, w.L⟩
theorem turn_wish {w : Wi} (hw : Wish w) : Wish (turnW w) := by
  have hl := hw.len
  exact ⟨by show 1 ≤ w.R.length; rw [hl]; exact hw.n1, by show w.R.length ≤ 8; rw [hl]; exact hw.n8, hl.symm, fun xs h => by show (∀ x ∈ xs, 0 ≤ x ∧ x < (w.R.length : Int)) ∧ xs.Nodup; rw [hl]; exact hw.right xs h, fun xs h => by show (∀ x ∈ xs, 0 ≤ x ∧ x < (w.R.length : Int)) ∧ xs.Nodup; rw [hl]; exact hw.left xs h⟩
theorem turn_pair (w : Wi) (a b : Nat) : pairB (turnW w) b a = pairB w a b := Bool.and_comm _ _
theorem turn_P {w : Wi} (hw : Wish w) (a b : Nat) : (sidesW (turnW w) (turn_wish hw)).P b a ↔ (sidesW w hw).P a b := by
  have hl := hw.len
  show (b < w.R.length ∧ a < w.R.length ∧ pairB (turnW w) b a = true) ↔ (a < w.L.length ∧ b < w.L.length ∧ pairB w a b = true)
  rw [turn_pair, hl]
  constructor
  · rintro ⟨h1, h2, h3⟩; exact ⟨h2, h1, h3⟩
  · rintro ⟨h1, h2, h3⟩; exact ⟨h2, h1, h3⟩
theorem turn_to {w : Wi} (hw : Wish w) {M : Nat → Nat → Prop} (h : SM (sidesW w hw) M) : SM (sidesW (turnW w) (turn_wish hw)) (fun b a => M a b) :=
  ⟨fun b a hm => (turn_P hw a b).2 (h.p a b hm), fun b a a' h1 h2 => h.r a a' b h1 h2, fun b b' a h1 h2 => h.l a b b' h1 h2, fun b a hp => (h.s a b ((turn_P hw a b).1 hp)).symm⟩
theorem turn_from {w : Wi} (hw : Wish w) {M : Nat → Nat → Prop} (h : SM (sidesW (turnW w) (turn_wish hw)) M) : SM (sidesW w hw) (fun a b => M b a) :=
  ⟨fun a b hm => (turn_P hw a b).1 (h.p b a hm), fun a b b' h1 h2 => h.r b b' a h1 h2, fun a a' b h1 h2 => h.l b a a' h1 h2, fun a b hp => (h.s b a ((turn_P hw a b).2 hp)).symm⟩
/-- Asked from the other side, it is the last one. -/
theorem last_of {w : Wi} (hw : Wish w) : LastR (sidesW w hw) (fun a b => Has (askedF (turnW w)) b a) := by
  refine ⟨turn_from hw (sm_of (turn_wish hw) (asked_stable (turn_wish hw))), fun M hM a b hab => ?_⟩
  obtain ⟨a0, h1, h2⟩ := asked_best (turn_wish hw) (turn_to hw hM) (a := b) (b := a) hab
  exact ⟨a0, h1, h2⟩
/-- Where no turn is left: whom each one on the right has at last. -/
theorem last_all {w : Wi} (hw : Wish w) {m : List Int} (hs : stableB w m = true) (ht : turnsF w m = []) {b a : Nat} (hb : b < w.L.length) (h : (askedF (turnW w)).getD b 0 = (a : Int)) : a < w.L.length ∧ m.getD a 0 = (b : Int) := by
  have hst := asked_stable (turn_wish hw)
  have hl := (stab_of hst).len
  have hl2 := hw.len
  have hH : Has (askedF (turnW w)) b a := ⟨by rw [hl]; show b < w.R.length; omega, h⟩
  have := no_turn hw hs (last_of hw) ht a b hH
  have hml := (stab_of hs).len
  exact ⟨by have := this.1; omega, this.2⟩
/-- Of two that differ the asked one has the dearer one. -/
theorem asked_dear {w : Wi} (hw : Wish w) {m : List Int} (hs : stableB w m = true) {a : Nat} (ha : a < w.L.length) (hne : (askedF w).getD a 0 ≠ m.getD a 0) : ∃ p : Nat, (askedF w).getD a 0 = p ∧ containsI (row w.L a) p = true ∧ placeI (row w.L a) p < placeI (row w.L a) (m.getD a 0) := by
  have hm := stab_of hs
  have hst := asked_stable hw
  have hmat := stab_of hst
  have hl := hm.len
  have hl2 := hmat.len
  rcases hmat.val a (by omega) with h | ⟨p, h, _, hp⟩
  · rcases hm.val a (by omega) with g | ⟨b, g, _, _⟩
    · omega
    · obtain ⟨b', h1, _⟩ := asked_best hw (sm_of hw hs) (a := a) (b := b) ⟨by omega, g⟩
      have := h1.2; omega
  · simp only [pairB, Bool.and_eq_true] at hp
    refine ⟨p, h, hp.1, ?_⟩
    rcases hm.val a (by omega) with g | ⟨b, g, _, gp⟩
    · rw [g, placeI_negL hw ha]; exact placeI_in hp.1
    · simp only [pairB, Bool.and_eq_true] at gp
      obtain ⟨b', h1, h2⟩ := asked_best hw (sm_of hw hs) (a := a) (b := b) ⟨by omega, g⟩
      have : b' = p := by have := h1.2; omega
      subst this
      have : placeI (row w.L a) b' ≠ placeI (row w.L a) b := fun e => by
        have := place_inj hp.1 gp.1 e
        omega
      rw [g]; omega
end Go.Proofs.Ytchfibmndcfpiaa
namespace Go.Proofs.Ytchfibmndcfpiaa
set_option linter.unusedVariables false
set_option linter.unusedSimpArgs false
open Go.RowKit

/-- Only blocks from lo to hi (hi not among them) may have turned; new ones may have come. -/
structure Touch (w w' : World) (lo hi : Nat) : Prop where
  os : w'.os = w.os
  tape : w'.tape = w.tape
  output : w'.output = w.output
  size : w.heap.size ≤ w'.heap.size
  block : ∀ k, k < w.heap.size → (k < lo ∨ hi ≤ k) → w'.heap[k]? = w.heap[k]?

theorem Touch.refl (w : World) (lo hi : Nat) : Touch w w lo hi := ⟨rfl, rfl, rfl, Nat.le_refl _, fun _ _ _ => rfl⟩
theorem Touch.of_grown {w w' : World} {g lo hi : Nat} (h : w.grownBy w' (some g)) (h1 : lo ≤ g) (h2 : g < hi) : Touch w w' lo hi :=
  ⟨h.os, h.tape, h.output, h.size, fun k hk hd => h.block k hk (by intro e; injection e; omega)⟩
theorem Touch.trans {a b c : World} {lo hi : Nat} (h : Touch a b lo hi) (k : Touch b c lo hi) : Touch a c lo hi :=
  ⟨k.os.trans h.os, k.tape.trans h.tape, k.output.trans h.output, Nat.le_trans h.size k.size, fun i hi hd => (k.block i (Nat.lt_of_lt_of_le hi h.size) hd).trans (h.block i hi hd)⟩
theorem Touch.mono {w w' : World} {lo hi lo' hi' : Nat} (h : Touch w w' lo hi) (h1 : lo' ≤ lo) (h2 : hi ≤ hi') : Touch w w' lo' hi' :=
  ⟨h.os, h.tape, h.output, h.size, fun k hk hd => h.block k hk (by omega)⟩
theorem Below.touch {w w' : World} (h : Below w.heap.size w w') (lo hi : Nat) : Touch w w' lo hi := ⟨h.os, h.tape, h.output, h.size, fun k hk _ => h.block k hk⟩
theorem below_touch {B lo hi : Nat} {w w1 w2 : World} (h : Below B w w1) (ht : Touch w1 w2 lo hi) (hB : B ≤ lo) (hB2 : B ≤ w1.heap.size) : Below B w w2 :=
  h.trans ⟨ht.os, ht.tape, ht.output, ht.size, fun k hk => ht.block k (by omega) (.inl (by omega))⟩

theorem Rd.touch {w w' : World} {lo hi B : Nat} {a : Option Addr} {vs : List Value} (h : Rd w B a vs) (ht : Touch w w' lo hi) (hB : B ≤ lo) (hs : B ≤ w.heap.size) : Rd w' B a vs := by
  rcases h with h | ⟨b, o, ha, hb, hc⟩
  · exact .inl h
  · exact .inr ⟨b, o, ha, hb, fun j hj => by rw [World.cell?_of_block (w := w) (ht.block b (by omega) (.inl (by omega)))]; exact hc j hj⟩
theorem Blk.touch {w w' : World} {lo hi b : Nat} {cs : List Value} {t : TypeId} (h : Blk w b cs t) (ht : Touch w w' lo hi) (hd : b < lo ∨ hi ≤ b) : Blk w' b cs t := (ht.block b h.lt hd).trans h

/-- A slice of integers that lies in a stretch of its own. -/
def OwnI (T : Nat) (w : World) (lo hi : Nat) (a : Option Addr) (c : Nat) (xs : List Int) : Prop :=
  w.ownsRow lo T 1 (.slice a xs.length c) xs.length (ints xs) ∧ ∀ b, a = some b → b.block < hi

section
variable {T lo hi c : Nat} {w w' : World} {a : Option Addr} {xs : List Int}
theorem OwnI.of_own (h : w.ownsRow lo T 1 (.slice a xs.length c) xs.length (ints xs)) : OwnI T w lo w.heap.size a c xs :=
  ⟨h, fun b hb => (h.lt b.block (by simp [Value.ownBlock, hb])).2⟩
theorem OwnI.of_blk {b : Nat} (h : Blk w b (ints xs) T) (hl : xs.length ≤ 1152921504606846976) : OwnI T w b (b + 1) (some ⟨b, 0, none⟩) xs.length xs :=
  ⟨by have := h.owns (Nat.le_refl b) (by rw [ints_length]; unfold maxLen; omega); rwa [ints_length] at this, fun _ hb => by injection hb with hb; subst hb; show b < b + 1; omega⟩
theorem OwnI.rd (h : OwnI T w lo hi a c xs) : Rd w hi a (ints xs) := by
  rcases rd_of_own h.1 (Nat.le_refl _) with h' | ⟨b, o, ha, hb, hc⟩
  · exact .inl h'
  · exact .inr ⟨b, o, ha, h.2 _ ha, hc⟩
theorem OwnI.cap (h : OwnI T w lo hi a c xs) : xs.length ≤ c := by
  obtain ⟨a', c', e, h2, _⟩ := own_shape h.1
  injection e with _ _ e
  omega
theorem OwnI.keep (h : OwnI T w lo hi a c xs) (hb : Below w.heap.size w w') : OwnI T w' lo hi a c xs := ⟨own_below h.1 hb, h.2⟩
theorem OwnI.touch {lo' hi' : Nat} (h : OwnI T w lo hi a c xs) (ht : Touch w w' lo' hi') (hd : hi ≤ lo' ∨ hi' ≤ lo) : OwnI T w' lo hi a c xs := by
  refine ⟨⟨h.1.1, ?_⟩, h.2⟩
  rcases h.1.2 with h2 | ⟨g, cap, cur, hv, hg, hh, r⟩
  · exact .inl h2
  · have h3 : g < hi := by
      injection hv with ha _ _
      exact h.2 _ ha
    refine .inr ⟨g, cap, cur, hv, hg, ?_, r⟩
    rw [ht.block g (lt_of_block hh) (by omega)]
    exact hh
theorem OwnI.mono {lo' hi' : Nat} (h : OwnI T w lo hi a c xs) (h1 : lo' ≤ lo) (h2 : hi ≤ hi') : OwnI T w lo' hi' a c xs :=
  ⟨own_base h.1 h1, fun b hb => Nat.lt_of_lt_of_le (h.2 b hb) h2⟩
end
end Go.Proofs.Ytchfibmndcfpiaa
namespace Go.Proofs.Ytchfibmndcfpiaa
set_option linter.unusedVariables false
set_option linter.unusedSimpArgs false
open Go.RowKit

theorem info_i64 : (Try.prog.info? 2).map (fun i => (i.zero, i.size, i.bytes)) = some (some (.int .i64 0), 1, 8) := by kernel_rfl

def szF (left : Int) (n : Nat) : Int := if left < n then -1 else left - n

/-- What the marks are: k, k + 1, and so on. -/
def marks (n : Nat) (k : Int) : List Int := (List.range n).map fun (i : Nat) => k + (i : Int)
@[simp] theorem marks_length (n : Nat) (k : Int) : (marks n k).length = n := by simp [marks]
theorem marks_get (n : Nat) (k : Int) (i : Nat) (h : i < n) : (marks n k)[i]? = some (k + i) := by simp [marks, h]

theorem mark_step (xs : List Int) (rest : List Value) (k : Int) (j : Nat) (h : j < xs.length) :
    (ints ((marks j k) ++ xs.drop j) ++ rest).set j (.int .i64 (k + j)) = ints (marks (j + 1) k ++ xs.drop (j + 1)) ++ rest := by
  rw [List.set_append_left _ _ (by simp; omega), ← ints_set, List.set_append_right _ _ (by simp), marks_length, Nat.sub_self, List.drop_eq_getElem_cons h, List.set_cons_zero]
  simp [marks, List.range_succ]

/-- A call that answers with a new list or with a no, in terms of stretches. -/
theorem flat_of {f : Nat} {args : Array Value} {w : World} {T : Nat} {r : Option (List Int)} (h : Calls Try.prog f args w (RetI T w r)) :
    Calls Try.prog f args w fun e w' => ∃ a c, e = .returned (.tuple #[.slice a (r.getD []).length c, .bool r.isSome]) ∧ OwnI T w' w.heap.size w'.heap.size a c (r.getD []) ∧ Below w.heap.size w w' :=
  h.mono fun e w' hR => let ⟨hb, a, c, he, ho⟩ := hR.flat; ⟨a, c, he, OwnI.of_own ho, hb⟩
end Go.Proofs.Ytchfibmndcfpiaa
namespace Go.Proofs.Ytchfibmndcfpiaa
set_option linter.unusedVariables false
set_option linter.unusedSimpArgs false
open Go.RowKit Go.ChangeShapes Go.WideShapes

section
variable {H : Type} {enc : TypeId × Value → H} {P : Program} {w : World} {base : Nat} {spare : Nat → Bool} {held : Bool}
theorem open_agg_fields {ts : TypeId} {fs : Array Field} {fuel : Nat} {cs : List Value} {x : DataW H × List MemPlace} (hs : P.underlying ts = some (.struct fs))
    (hone : ∀ (i : Nat) (f : Field), fs[i]? = some f → f.offset = i ∧ P.cellsOf f.type = 1) (hC : P.cellsOf ts = fs.size) (h : DataW.trod enc P w base spare held fuel ts cs = some x) :
    cs.length = fs.size ∧ ∃ (n : Nat) (Y : Nat → DataW H × List MemPlace), ∀ (i : Nat) (f : Field), fs[i]? = some f → DataW.trod enc P w base spare held n f.type [cs.getD i undef] = some (Y i) := by
  obtain ⟨xs, n, _, rfl, hl, hxl, hf⟩ := DataW.trod_struct hs h
  refine ⟨by omega, n, fun i => xs.getD i (.nil, []), fun i f hi => ?_⟩
  have hlt : i < fs.size := (Array.getElem?_eq_some_iff.1 hi).1
  obtain ⟨ho, hc1⟩ := hone i f hi
  have g := hf i f hi
  rw [ho, hc1] at g
  rw [Go.Deep.take1_drop cs i undef (by omega), List.getElem?_eq_getElem (by omega)] at g
  rw [g]
  simp [List.getD, List.getElem?_eq_getElem (show i < xs.length by omega)]
theorem ints_field {t e : TypeId} {fuel : Nat} {v : Value} {x : DataW H × List MemPlace} (ht : P.underlying t = some (.slice e)) (he : P.underlying e = some (.int .i64)) (hc : P.cellsOf e = 1) (h : DataW.trod enc P w 0 (fun _ => true) held fuel t [v] = some x) :
    ∃ (a : Option Addr) (c : Nat) (xs : List Int), v = .slice a xs.length c ∧ Rd w w.heap.size a (ints xs) ∧ xs.length ≤ 9223372036854775807 := by
  rcases open_ints ht he hc h with ⟨hcs, _⟩ | ⟨x, l, c, zs, hcs, _, hl, hm, hz, _, hcell, hwz⟩
  · simp at hcs
    subst hcs
    exact ⟨none, 0, [], rfl, Rd.nil _ _ _, by simp⟩
  · simp at hcs
    subst hcs
    have := rd_of_row (.inr ⟨_, rfl, hl, hm, by simpa using hz, hcell, hwz⟩)
    exact ⟨_, _, _, by rw [this.2], this.1, by rw [this.2]; unfold maxLen at hm; omega⟩
theorem int_field {t : TypeId} {fuel : Nat} {v : Value} {x : DataW H × List MemPlace} (ht : P.underlying t = some (.int .i64)) (h : DataW.trod enc P w base spare held fuel t [v] = some x) :
    ∃ n : Int, v = .int .i64 n ∧ -9223372036854775808 ≤ n ∧ n ≤ 9223372036854775807 := by
  obtain ⟨n, hn, _, hw⟩ := DataW.trod_int ht h
  simp at hn
  simp only [Lit.wf, Bool.and_eq_true, decide_eq_true_eq] at hw
  exact ⟨n, hn, hw.1, hw.2⟩
end
end Go.Proofs.Ytchfibmndcfpiaa
namespace Go.Proofs.Ytchfibmndcfpiaa
set_option linter.unusedVariables false
set_option linter.unusedSimpArgs false
open Go.RowKit

/-- A slice of slices of integers reads as lists. -/
def RdII (w : World) (B : Nat) (a : Option Addr) (yss : List (List Int)) : Prop :=
  ∃ vs : List Value, vs.length = yss.length ∧ Rd w B a vs ∧ ∀ (k : Nat) (ys : List Int), yss[k]? = some ys → ∃ (a' : Option Addr) (c' : Nat), vs[k]? = some (Value.slice a' ys.length c') ∧ ys.length ≤ c' ∧ Rd w B a' (ints ys)
theorem RdII.below {w w' : World} {B C : Nat} {a : Option Addr} {yss : List (List Int)} (h : RdII w B a yss) (hb : Below C w w') (hB : B ≤ C) : RdII w' B a yss := by
  obtain ⟨vs, h1, h2, h3⟩ := h
  exact ⟨vs, h1, h2.below hb hB, fun k ys hk => let ⟨a', c', e1, e2, e3⟩ := h3 k ys hk; ⟨a', c', e1, e2, e3.below hb hB⟩⟩
theorem RdII.mono {w : World} {B C : Nat} {a : Option Addr} {yss : List (List Int)} (h : RdII w B a yss) (hB : B ≤ C) : RdII w C a yss := by
  obtain ⟨vs, h1, h2, h3⟩ := h
  exact ⟨vs, h1, h2.mono hB, fun k ys hk => let ⟨a', c', e1, e2, e3⟩ := h3 k ys hk; ⟨a', c', e1, e2, e3.mono hB⟩⟩
theorem RdII.to {w w' : World} {a : Option Addr} {yss : List (List Int)} (h : RdII w w.heap.size a yss) (hb : Below w.heap.size w w') : RdII w' w'.heap.size a yss := (h.below hb (Nat.le_refl _)).mono hb.size
theorem RdII.touch {w w' : World} {lo hi B : Nat} {a : Option Addr} {yss : List (List Int)} (h : RdII w B a yss) (ht : Touch w w' lo hi) (hB : B ≤ lo) (hs : B ≤ w.heap.size) : RdII w' B a yss := by
  obtain ⟨vs, h1, h2, h3⟩ := h
  exact ⟨vs, h1, h2.touch ht hB hs, fun k ys hk => let ⟨a', c', e1, e2, e3⟩ := h3 k ys hk; ⟨a', c', e1, e2, e3.touch ht hB hs⟩⟩
theorem RdII.get {w : World} {B : Nat} {a : Option Addr} {yss : List (List Int)} (h : RdII w B a yss) {k : Nat} (hk : k < yss.length) :
    ∃ b o ys a' c', a = some ⟨b, o, none⟩ ∧ b < B ∧ w.cell? ⟨b, o + k, none⟩ = some (.slice a' ys.length c') ∧ ys.length ≤ c' ∧ Rd w B a' (ints ys) ∧ Hid (yss[k]? = some ys) := by
  obtain ⟨vs, h1, h2, h3⟩ := h
  obtain ⟨b, o, v, ha, hb, hc, hv⟩ := h2.getV (k := k) (by omega)
  obtain ⟨a', c', e1, e2, e3⟩ := h3 k yss[k] (List.getElem?_eq_getElem hk)
  have hv' := hv.out
  rw [e1] at hv'
  injection hv' with hv'
  exact ⟨b, o, yss[k], a', c', ha, hb, by rw [hc, hv'], e2, e3, by simp [Hid, List.getElem?_eq_getElem hk]⟩

/-- How many are on each ballot. -/
def wide (yss : List (List Int)) : Nat := (yss.headD []).length
def ballotsB (yss : List (List Int)) : Bool := decide (1 ≤ yss.length) && decide (yss.length ≤ 32) && decide (1 ≤ wide yss) && decide (wide yss ≤ 12) && yss.all fun b => orderB b (wide yss)
theorem wide_of_get {yss : List (List Int)} {ys : List Int} (h : yss[0]? = some ys) : wide yss = ys.length := by
  cases yss with
  | nil => simp at h
  | cons x xs => simp at h; simp [wide, h]
theorem ballotsB_iff {yss : List (List Int)} : ballotsB yss = true ↔ (1 ≤ yss.length ∧ yss.length ≤ 32) ∧ (1 ≤ wide yss ∧ wide yss ≤ 12) ∧ ∀ b ∈ yss, orderB b (wide yss) = true := by
  simp only [ballotsB, Bool.and_eq_true, decide_eq_true_iff, List.all_eq_true, and_assoc]
theorem ballotsB_all {yss : List (List Int)} (h1 : 1 ≤ yss.length) (h2 : yss.length ≤ 32) (h3 : 1 ≤ wide yss) (h4 : wide yss ≤ 12) : ballotsB yss = yss.all fun b => orderB b (wide yss) := by
  simp [ballotsB, h1, h2, h3, h4]
theorem all_take_succ {α : Type} {xs : List α} {k : Nat} {x : α} {p : α → Bool} (hx : xs[k]? = some x) (h : (xs.take k).all p = true) (h2 : p x = true) : (xs.take (k + 1)).all p = true := by
  rw [List.take_add_one, hx]; simp [h2] at *; exact h
theorem all_false {α : Type} {xs : List α} {k : Nat} {x : α} {p : α → Bool} (hx : xs[k]? = some x) (h2 : p x = false) : xs.all p = false := by
  rw [← Bool.not_eq_true]; intro h
  have := List.all_eq_true.1 h x (List.mem_of_getElem? hx)
  rw [h2] at this; cases this

end Go.Proofs.Ytchfibmndcfpiaa
namespace Go.Proofs.Ytchfibmndcfpiaa
set_option linter.unusedVariables false
set_option linter.unusedSimpArgs false
open Go.RowKit

/-- An argument that is a slice of slices of integers, as the row's own frame tells it. -/
theorem rdII_rows {w : World} {a : Addr} {len cap : Nat} {A : Nat → Option Addr} {L C : Nat → Nat} {Z : Nat → List Int} (hl : len ≤ cap)
    (h : ∀ r, r < cap → w.cell? (a.add r) = some (.slice (A r) (L r) (C r)) ∧ L r ≤ C r ∧ C r ≤ maxLen ∧ (Z r).length = C r ∧ (∀ n ∈ Z r, (Lit.int .i64 n).wf = true) ∧ (A r = none → C r = 0) ∧
      ∀ a', A r = some a' → 0 ≤ a'.block ∧ ∀ c, c < C r → w.cell? (a'.add c) = some (.int .i64 ((Z r).getD c 0))) :
    RdII w w.heap.size (some a) ((List.range len).map fun r => (Z r).take (L r)) := by
  refine ⟨(List.range len).map fun r => Value.slice (A r) (L r) (C r), by simp, ?_, ?_⟩
  · by_cases h0 : len = 0
    · subst h0; exact .inl rfl
    · have hx := (h 0 (by omega)).1
      have hx0 : a.add 0 = a := rfl
      rw [hx0] at hx
      obtain ⟨b, o, s⟩ := a
      have hs : s = none := by
        cases s with
        | none => rfl
        | some s =>
          unfold World.cell? at hx
          split at hx <;> simp at hx
      subst hs
      refine .inr ⟨b, o, rfl, World.block_lt_of_cell? w _ hx, fun j hj => ?_⟩
      have hj' : j < len := by simpa using hj
      have hj2 := (h j (by omega)).1
      have ea : (⟨b, o, none⟩ : Addr).add j = ⟨b, o + j, none⟩ := by unfold Addr.add; split <;> simp_all
      rw [ea] at hj2
      rw [hj2]
      simp [hj']
  · intro k ys hk
    have hk' : k < len := by
      have := (List.getElem?_eq_some_iff.1 hk).1
      simpa using this
    obtain ⟨_, h2, h3, h4, h5, h6, h7⟩ := h k (by omega)
    have hys : ys = (Z k).take (L k) := by simpa [hk'] using hk.symm
    subst hys
    have hlen : ((Z k).take (L k)).length = L k := by simp; omega
    refine ⟨A k, C k, by rw [hlen]; simp [hk'], by omega, ?_⟩
    cases hA : A k with
    | none =>
      have := h6 hA
      have e : (Z k).take (L k) = [] := List.eq_nil_of_length_eq_zero (by omega)
      rw [e]; exact .inl rfl
    | some x =>
      exact (rd_of_row (.inr ⟨x, rfl, h2, h3, h4, fun i hi => (h7 x hA).2 i (by omega), h5⟩)).1

theorem rdII_of_rows' {w : World} {a : Addr} {len cap : Nat} {A : Nat → Option Addr} {L C : Nat → Nat} {Z : Nat → List Int} (hl : len ≤ cap) (hm : cap ≤ maxLen)
    (h : ∀ r, r < cap → w.cell? (a.add r) = some (.slice (A r) (L r) (C r)) ∧ L r ≤ C r ∧ C r ≤ maxLen ∧ (Z r).length = C r ∧ (∀ n ∈ Z r, (Lit.int .i64 n).wf = true) ∧ (A r = none → C r = 0) ∧
      ∀ a', A r = some a' → 0 ≤ a'.block ∧ ∀ c, c < C r → w.cell? (a'.add c) = some (.int .i64 ((Z r).getD c 0))) :
    ∃ yss : List (List Int), yss.length = len ∧ RdII w w.heap.size (some a) yss ∧ yss.length ≤ 9223372036854775807 ∧ ∀ y ∈ yss, y.length ≤ 9223372036854775807 := by
  refine ⟨(List.range len).map fun r => (Z r).take (L r), by simp, ?_, by unfold maxLen at hm; simp; omega, ?_⟩
  · exact rdII_rows hl h
  · intro y hy
    obtain ⟨r, hr, rfl⟩ := List.mem_map.1 hy
    have hr' := List.mem_range.1 hr
    obtain ⟨_, h2, h3, h4, _⟩ := h r (by omega)
    unfold maxLen at h3
    simp; omega
theorem rdII_nil (w : World) (B : Nat) (a : Option Addr) : RdII w B a [] := ⟨[], rfl, .inl rfl, fun k ys hk => by simp at hk⟩

/-- The outer cells of a copy whose rows lie in the blocks from lo on. -/
def rowCells (lo : Nat) (yss : List (List Int)) (k : Nat) : List Value :=
  (List.range yss.length).map fun j => if j < k then Value.slice (some ⟨lo + j, 0, none⟩) (yss.getD j []).length (yss.getD j []).length else Value.slice none 0 0
theorem rowCells_length (lo : Nat) (yss : List (List Int)) (k : Nat) : (rowCells lo yss k).length = yss.length := by simp [rowCells]
theorem rowCells_zero (lo : Nat) (yss : List (List Int)) : rowCells lo yss 0 = List.replicate yss.length (Value.slice none 0 0) := by
  apply List.ext_getElem <;> simp [rowCells]
theorem rowCells_succ (lo : Nat) (yss : List (List Int)) (k : Nat) (ys : List Int) (h : yss[k]? = some ys) :
    (rowCells lo yss k).set k (.slice (some ⟨lo + k, 0, none⟩) ys.length ys.length) = rowCells lo yss (k + 1) := by
  have hk := (List.getElem?_eq_some_iff.1 h).1
  have hy : yss.getD k [] = ys := by simp [List.getD, h]
  apply List.ext_getElem
  · simp [rowCells]
  · intro i h1 h2
    simp only [rowCells, List.getElem_set, List.getElem_map, List.getElem_range]
    by_cases hik : k = i
    · subst hik; simp; rw [← List.getD_eq_getElem?_getD, hy]
    · rw [if_neg hik]
      by_cases h3 : i < k
      · rw [if_pos h3, if_pos (by omega)]
      · rw [if_neg h3, if_neg (by omega)]
theorem rowCells_get (lo : Nat) (yss : List (List Int)) (k : Nat) (ys : List Int) (h : yss[k]? = some ys) :
    (rowCells lo yss yss.length)[k]? = some (.slice (some ⟨lo + k, 0, none⟩) ys.length ys.length) := by
  have hk := (List.getElem?_eq_some_iff.1 h).1
  have hy : yss.getD k [] = ys := by simp [List.getD, h]
  rw [List.getElem?_eq_getElem (by simpa [rowCells] using hk)]
  simp only [rowCells, List.getElem_map, List.getElem_range, if_pos hk, hy]
/-- A slice of slices of integers in blocks of its own, as the law's copy makes it. -/
def OwnII (T T2 : Nat) (w : World) (lo hi : Nat) (a : Option Addr) (c : Nat) (yss : List (List Int)) : Prop :=
  ∃ g, a = some ⟨g, 0, none⟩ ∧ c = yss.length ∧ lo ≤ g ∧ g + 1 + yss.length ≤ hi ∧ hi ≤ w.heap.size ∧ Blk w g (rowCells (g + 1) yss yss.length) T2 ∧ ∀ (j : Nat) (ys : List Int), yss[j]? = some ys → Blk w (g + 1 + j) (ints ys) T
section
variable {T T2 lo hi c : Nat} {w w' : World} {a : Option Addr} {yss : List (List Int)}
theorem OwnII.rd (h : OwnII T T2 w lo hi a c yss) : RdII w hi a yss := by
  obtain ⟨g, rfl, rfl, h1, h2, _, h3, h4⟩ := h
  refine ⟨_, rowCells_length _ _ _, h3.rd (by omega), fun k ys hk => ⟨_, _, rowCells_get _ _ _ _ hk, Nat.le_refl _, (h4 k ys hk).rd ?_⟩⟩
  have hk := (List.getElem?_eq_some_iff.1 hk).1
  omega
theorem OwnII.keep (h : OwnII T T2 w lo hi a c yss) (hb : Below w.heap.size w w') : OwnII T T2 w' lo hi a c yss := by
  obtain ⟨g, h1, h2, h3, h4, h0, h5, h6⟩ := h
  exact ⟨g, h1, h2, h3, h4, by have := hb.size; omega, h5.same hb, fun j ys hj => (h6 j ys hj).same hb⟩
theorem OwnII.touch {lo' hi' : Nat} (h : OwnII T T2 w lo hi a c yss) (ht : Touch w w' lo' hi') (hd : hi ≤ lo' ∨ hi' ≤ lo) : OwnII T T2 w' lo hi a c yss := by
  obtain ⟨g, h1, h2, h3, h4, h0, h5, h6⟩ := h
  exact ⟨g, h1, h2, h3, h4, by have := ht.size; omega, h5.touch ht (by omega), fun j ys hj => (h6 j ys hj).touch ht (by have := (List.getElem?_eq_some_iff.1 hj).1; omega)⟩
end
theorem info_ints : (Try.prog.info? 31).map (fun i => (i.zero, i.size, i.bytes)) = some (some (.slice none 0 0), 1, 24) := by kernel_rfl
end Go.Proofs.Ytchfibmndcfpiaa
namespace Go.Proofs.Ytchfibmndcfpiaa
set_option linter.unusedVariables false
set_option linter.unusedSimpArgs false
open Go.RowKit
theorem OwnII.mono2 {T T2 lo hi lo' hi' c : Nat} {w : World} {a : Option Addr} {yss : List (List Int)} (h : OwnII T T2 w lo hi a c yss) (h1 : lo' ≤ lo) (h2 : hi ≤ hi') (h3 : hi' ≤ w.heap.size) : OwnII T T2 w lo' hi' a c yss := by
  obtain ⟨g, e1, e2, h4, h5, _, h6, h7⟩ := h
  exact ⟨g, e1, e2, by omega, by omega, h3, h6, h7⟩
section
open Go.ChangeShapes Go.WideShapes
theorem rows_field {H : Type} {enc : TypeId × Value → H} {P : Program} {w : World} {held : Bool} {t e q : TypeId} {fuel : Nat} {v : Value} {x : DataW H × List MemPlace} (ht : P.underlying t = some (.slice e)) (he : P.underlying e = some (.slice q)) (hq : P.underlying q = some (.int .i64)) (ce : P.cellsOf e = 1) (cq : P.cellsOf q = 1) (h : DataW.trod enc P w 0 (fun _ => true) held fuel t [v] = some x) :
    ∃ (a : Option Addr) (c : Nat) (yss : List (List Int)), v = .slice a yss.length c ∧ RdII w w.heap.size a yss ∧ yss.length ≤ 9223372036854775807 ∧ ∀ y ∈ yss, y.length ≤ 9223372036854775807 := by
  rcases Go.Deep.open_int_rows ht he hq ce cq h with ⟨hcs, _⟩ | ⟨x, l, c, A, L, C, Z, hcs, _, hl, hm, _, hr⟩
  · simp at hcs
    subst hcs
    exact ⟨none, 0, [], rfl, rdII_nil _ _ _, by simp, by simp⟩
  · simp at hcs
    subst hcs
    obtain ⟨yss, h1, h2, h3, h4⟩ := rdII_of_rows' hl hm fun r hr' => let ⟨h1, h2, h3, h4, h5, h6, h7⟩ := hr r hr'; ⟨h1, h2, h3, h4, h5, h6, fun a' ha => ⟨Nat.zero_le _, (h7 a' ha).2⟩⟩
    exact ⟨_, _, yss, by rw [h1], h2, h3, h4⟩
end
end Go.Proofs.Ytchfibmndcfpiaa
namespace Go.Proofs.Ytchfibmndcfpiaa
set_option linter.unusedVariables false
set_option linter.unusedSimpArgs false
open Go.RowKit

def RdWishes (w : World) (B : Nat) (a0 : Option Addr) (x0 : List (List Int)) (a1 : Option Addr) (x1 : List (List Int)) : Prop := RdII w B a0 x0 ∧ RdII w B a1 x1
def OwnWishes (w : World) (lo hi : Nat) (a0 : Option Addr) (c0 : Nat) (x0 : List (List Int)) (a1 : Option Addr) (c1 : Nat) (x1 : List (List Int)) : Prop :=
  ∃ m1 : Nat, (lo ≤ m1 ∧ m1 ≤ hi) ∧ OwnII 2 31 w lo m1 a0 c0 x0 ∧ OwnII 2 31 w m1 hi a1 c1 x1
section
variable {w w' : World} {B C lo hi : Nat} {a0 : Option Addr} {x0 : List (List Int)} {a1 : Option Addr} {x1 : List (List Int)} {c0 : Nat} {c1 : Nat}
theorem RdWishes.below (h : RdWishes w B a0 x0 a1 x1) (hb : Below C w w') (hB : B ≤ C) : RdWishes w' B a0 x0 a1 x1 := ⟨RdII.below (h.1) hb hB, RdII.below (h.2) hb hB⟩
theorem RdWishes.mono (h : RdWishes w B a0 x0 a1 x1) (hB : B ≤ C) : RdWishes w C a0 x0 a1 x1 := ⟨RdII.mono (h.1) hB, RdII.mono (h.2) hB⟩
theorem RdWishes.to (h : RdWishes w w.heap.size a0 x0 a1 x1) (hb : Below w.heap.size w w') : RdWishes w' w'.heap.size a0 x0 a1 x1 := (h.below hb (Nat.le_refl _)).mono hb.size
theorem RdWishes.touch (h : RdWishes w B a0 x0 a1 x1) (ht : Touch w w' lo hi) (hB : B ≤ lo) (hs : B ≤ w.heap.size) : RdWishes w' B a0 x0 a1 x1 := ⟨RdII.touch (h.1) ht hB hs, RdII.touch (h.2) ht hB hs⟩
theorem OwnWishes.rd (h : OwnWishes w lo hi a0 c0 x0 a1 c1 x1) : RdWishes w hi a0 x0 a1 x1 := by
  obtain ⟨m1, hm, o0, o1⟩ := h
  exact ⟨o0.rd.mono (by omega), o1.rd.mono (by omega)⟩
theorem OwnWishes.keep (h : OwnWishes w lo hi a0 c0 x0 a1 c1 x1) (hb : Below w.heap.size w w') : OwnWishes w' lo hi a0 c0 x0 a1 c1 x1 := by
  obtain ⟨m1, hm, o0, o1⟩ := h
  exact ⟨m1, hm, o0.keep hb, o1.keep hb⟩
theorem OwnWishes.touch {lo' hi' : Nat} (h : OwnWishes w lo hi a0 c0 x0 a1 c1 x1) (ht : Touch w w' lo' hi') (hd : hi ≤ lo' ∨ hi' ≤ lo) : OwnWishes w' lo hi a0 c0 x0 a1 c1 x1 := by
  obtain ⟨m1, hm, o0, o1⟩ := h
  exact ⟨m1, hm, o0.touch ht (by omega), o1.touch ht (by omega)⟩
theorem OwnWishes.le (h : OwnWishes w lo hi a0 c0 x0 a1 c1 x1) : lo ≤ hi := by
  obtain ⟨m1, hm, o0, o1⟩ := h
  omega
end
end Go.Proofs.Ytchfibmndcfpiaa
namespace Go.Proofs.Ytchfibmndcfpiaa
set_option linter.unusedVariables false
set_option linter.unusedSimpArgs false
open Go.RowKit

theorem rangeAll_succ (p : Nat → Bool) (k : Nat) : (List.range (k + 1)).all p = ((List.range k).all p && p k) := by
  rw [List.range_succ, List.all_append]; simp
theorem rangeAll_false {p : Nat → Bool} {k n : Nat} (hk : k < n) (h : p k = false) : (List.range n).all p = false := by
  rw [← Bool.not_eq_true]
  intro ha
  have := List.all_eq_true.1 ha k (List.mem_range.2 hk)
  rw [h] at this; cases this
def twiceB (xs : List Int) : Bool := !decide xs.Nodup
theorem containsI_hasB (xs : List Int) (x : Int) : containsI xs x = hasB xs x := by rw [Bool.eq_iff_iff, containsI_iff, hasB_iff]
set_option maxHeartbeats 1000000 in
theorem hasTwice_any (w : World) (a : Option Addr) (c : Nat) (xs : List Int) (h : Rd w w.heap.size a (ints xs)) (hc : xs.length ≤ c) (hl : xs.length ≤ 1048576) :
    Calls Try.prog 92 #[.slice a xs.length c] w fun e w' => e = .returned (.bool (twiceB xs)) ∧ w = w' := by
  go_enter Try.func92, Try.ntmps92
  go_wp2
  go_loop [7] (fun i => ∃ k : Nat, k ≤ xs.length ∧ i = .int .i64 k ∧ Hid ((xs.take k).Nodup)) (fun i => xs.length - (intOf i).toNat)
  case atStart => exact ⟨0, Nat.zero_le _, rfl, by simp [Hid]⟩
  case round =>
    obtain ⟨k, hk, rfl, ha⟩ := hrel
    by_cases hlt : k < xs.length
    · obtain ⟨b, o, x, rfl, hbb, hck, hx⟩ := h.get hlt
      have hl1 : (xs.take k).length = k := by simp; omega
      have L2 := Lib.hid (contains_any w (some ⟨b, o, none⟩) c (xs.take k) x (h.take k) (by omega))
      rw [hl1] at L2
      clear hl1 h
      cases hin : containsI (xs.take k) x with
      | true =>
        have HF : Hid (twiceB xs = true) := by
          have := not_nodup_of hx.out (hasB_iff.1 (by rw [← containsI_hasB]; exact hin))
          simp [Hid, twiceB, this]
        rw [hin] at L2
        go_wp2_with (go_at_call 69; refine L2.out.mono ?_; rintro e w' ⟨rfl, rfl⟩)
        go_ret
        exact ⟨ret_bool HF.out.symm, rfl⟩
      | false =>
        have HN : Hid ((xs.take (k + 1)).Nodup) := (nodup_take_succ hx.out).2 ⟨ha.out, fun hm => by rw [containsI_iff.2 hm] at hin; cases hin⟩
        rw [hin] at L2
        go_wp2_with (go_at_call 69; refine L2.out.mono ?_; rintro e w' ⟨rfl, rfl⟩)
        go_round
        case rel => exact ⟨k + 1, by omega, by go_num, HN⟩
        case measure => simp [intOf]; omega
    · have : k = xs.length := by omega
      subst this
      rw [List.take_length] at ha
      have HF : Hid (twiceB xs = false) := by have := ha.out; simp [Hid, twiceB, this]
      go_wp2
      go_ret
      exact ⟨ret_bool HF.out.symm, rfl⟩
def aWishB (L : List (List Int)) : Bool := (L.all fun xs => onceB xs L.length) && inB L.length 1 8
theorem wish_two {L R : List (List Int)} (h : L.length = R.length) : wishB ⟨L, R⟩ = (aWishB L && aWishB R) := by
  have e2 : decide (R.length = R.length) = true := decide_eq_true rfl
  unfold wishB aWishB listsB
  simp only [h, e2, Bool.and_true]
  cases inB (R.length : Int) 1 8 <;> simp
theorem wish_len {L R : List (List Int)} (h : L.length ≠ R.length) : wishB ⟨L, R⟩ = false := by
  have : decide (R.length = L.length) = false := decide_eq_false (by omega)
  simp [wishB, listsB, this]
set_option maxHeartbeats 1000000 in
theorem areWishes_any (w : World) (a : Option Addr) (c : Nat) (L : List (List Int)) (h : RdII w w.heap.size a L) (hl : L.length ≤ 1048576) (hin : ∀ y ∈ L, y.length ≤ 1048576) :
    Calls Try.prog 74 #[.slice a L.length c] w fun e w' => e = .returned (.bool (aWishB L)) ∧ w = w' := by
  obtain ⟨n, hn⟩ : ∃ n, n = L.length := ⟨_, rfl⟩
  have HF : Hid (aWishB L = ((L.all fun xs => onceB xs n) && inB n 1 8)) := by rw [hn]; rfl
  have HN := Lib.hid hn
  have Hin := Lib.hid hin
  have LW := Lib.hid (fun v => within_any (n : Int) 1 8 v)
  have Hh := Lib.hid h
  clear h hin
  rw [← hn] at hl ⊢
  clear hn
  have hwr : IntKind.i64.wrap ((n : Int) - 1) = (n : Int) - 1 := IntWalk.i64_in _ (by omega)
  go_enter Try.func74, Try.ntmps74
  go_wp2
  go_loop [10] (fun i => ∃ k : Nat, k ≤ n ∧ i = .int .i64 k ∧ Hid (((L.take k).all fun xs => onceB xs n) = true)) (fun i => n - (intOf i).toNat)
  case atStart => exact ⟨0, Nat.zero_le _, rfl, by simp [Hid]⟩
  case round =>
    obtain ⟨k, hk, rfl, ha⟩ := hrel
    by_cases hlt : k < n
    · obtain ⟨b, o, ys, a', c', rfl, hbb, hck, hc', hr, hy⟩ := Hh.out.get (k := k) (by rw [← HN.out]; exact hlt)
      have hlen := Hin.out ys (List.mem_of_getElem? hy.out)
      have L1 := Lib.hid (fun lo hi => areWithin_any w a' c' ys lo hi hr (by omega))
      have L2 := Lib.hid (hasTwice_any w a' c' ys hr hc' hlen)
      have hob : onceB ys n = (allIn ys 0 ((n : Int) - 1) && !twiceB ys) := by simp [onceB, twiceB]
      clear hr
      cases h1 : allIn ys 0 ((n : Int) - 1) with
      | false =>
        rw [h1, Bool.false_and] at hob
        have HB : Hid (aWishB L = false) := by rw [Hid, HF.out, all_false (p := fun xs => onceB xs n) hy.out hob]; rfl
        have L1' := Lib.hid (L1.out 0 ((n : Int) - 1))
        rw [h1] at L1'
        clear hob L1
        go_wp2_with (first | (go_at_call 96; refine L1'.out.mono ?_; rintro e w' ⟨rfl, rfl⟩))
        go_ret
        exact ⟨ret_bool HB.out.symm, rfl⟩
      | true =>
        rw [h1, Bool.true_and] at hob
        have L1' := Lib.hid (L1.out 0 ((n : Int) - 1))
        rw [h1] at L1'
        clear L1
        cases h2 : twiceB ys with
        | true =>
          rw [h2] at hob L2
          have HB : Hid (aWishB L = false) := by rw [Hid, HF.out, all_false (p := fun xs => onceB xs n) hy.out hob]; rfl
          clear hob
          go_wp2_with (first | (go_at_call 96; refine L1'.out.mono ?_; rintro e w' ⟨rfl, rfl⟩) | (go_at_call 92; refine L2.out.mono ?_; rintro e w' ⟨rfl, rfl⟩))
          go_ret
          exact ⟨ret_bool HB.out.symm, rfl⟩
        | false =>
          rw [h2] at hob L2
          have HA : Hid (((L.take (k + 1)).all fun xs => onceB xs n) = true) := all_take_succ hy.out ha.out hob
          clear hob ha
          go_wp2_with (first | (go_at_call 96; refine L1'.out.mono ?_; rintro e w' ⟨rfl, rfl⟩) | (go_at_call 92; refine L2.out.mono ?_; rintro e w' ⟨rfl, rfl⟩))
          go_round
          case rel => exact ⟨k + 1, by omega, by go_num, HA⟩
          case measure => simp [intOf]; omega
    · have : k = n := by omega
      subst this
      have HB : Hid (aWishB L = inB k 1 8) := by rw [Hid, HF.out, ← List.take_length (l := L), ← HN.out, ha.out, Bool.true_and]
      clear ha
      go_wp2_with (go_at_call 98; refine (LW.out _).mono ?_; rintro e w' ⟨rfl, rfl⟩)
      go_ret
      exact ⟨ret_bool HB.out.symm, rfl⟩
set_option maxHeartbeats 1000000 in
theorem validWishes_any (w : World) (a0 : Option Addr) (c0 : Nat) (x0 : List (List Int)) (a1 : Option Addr) (c1 : Nat) (x1 : List (List Int)) (h : RdWishes w w.heap.size a0 x0 a1 x1) (hl0 : x0.length ≤ 1048576) (hin0 : ∀ y ∈ x0, y.length ≤ 1048576) (hl1 : x1.length ≤ 1048576) (hin1 : ∀ y ∈ x1, y.length ≤ 1048576) :
    Calls Try.prog 31 #[.agg #[.slice a0 x0.length c0, .slice a1 x1.length c1]] w fun e w' => e = .returned (.bool (wishB ⟨x0, x1⟩)) ∧ Below w.heap.size w w' := by
  have hB := bl1 w (.cells #[.slice a0 x0.length c0, .slice a1 x1.length c1] 27)
  have L0 := Lib.hid (areWishes_any _ a0 c0 x0 (RdII.to h.1 hB) hl0 hin0)
  have L1 := Lib.hid (areWishes_any _ a1 c1 x1 (RdII.to h.2 hB) hl1 hin1)
  clear h
  by_cases hn : x0.length = x1.length
  case neg =>
    have HF : Hid (wishB ⟨x0, x1⟩ = false) := wish_len hn
    have hne : ((x0.length : Int) == (x1.length : Int)) = false := by simp; omega
    clear hn
    go_enter Try.func31, Try.ntmps31
    go_wp2_with fail
    go_ret
    exact ⟨ret_bool HF.out.symm, hB⟩
  have HF : Hid (wishB ⟨x0, x1⟩ = (aWishB x0 && aWishB x1)) := wish_two hn
  have hne : ((x0.length : Int) == (x1.length : Int)) = true := by simp; omega
  clear hn
  cases t0 : aWishB x0 with
  | false =>
    rw [t0] at L0 HF
    go_enter Try.func31, Try.ntmps31
    go_wp2_with fail
    refine L0.out.mono ?_
    rintro e w1 ⟨rfl, rfl⟩
    go_wp2_with fail
    go_ret
    exact ⟨ret_bool HF.out.symm, hB⟩
  | true =>
    rw [t0, Bool.true_and] at HF
    rw [t0] at L0
    go_enter Try.func31, Try.ntmps31
    go_wp2_with fail
    refine L0.out.mono ?_
    rintro e w1 ⟨rfl, rfl⟩
    go_wp2_with fail
    refine L1.out.mono ?_
    rintro e w1 ⟨rfl, rfl⟩
    go_wp2_with fail
    go_ret
    exact ⟨ret_bool HF.out.symm, hB⟩
theorem count_any (w : World) (a0 : Option Addr) (c0 : Nat) (x0 : List (List Int)) (a1 : Option Addr) (c1 : Nat) (x1 : List (List Int)) :
    Calls Try.prog 59 #[.agg #[.slice a0 x0.length c0, .slice a1 x1.length c1]] w fun e w' => e = .returned (.int .i64 x0.length) ∧ Below w.heap.size w w' := by
  go_enter Try.func59, Try.ntmps59
  go_wp2
  go_ret
  exact ⟨rfl, bl1 _ _⟩
theorem row_get {xss : List (List Int)} {k : Nat} {ys : List Int} (h : xss[k]? = some ys) : row xss k = ys := by simp [row, List.getD, h]
set_option maxHeartbeats 2000000 in
theorem take_any (w : World) (a0 : Option Addr) (c0 : Nat) (x0 : List (List Int)) (a1 : Option Addr) (c1 : Nat) (x1 : List (List Int)) (h : RdWishes w w.heap.size a0 x0 a1 x1) (hin0 : ∀ y ∈ x0, y.length ≤ 1048576) (hin1 : ∀ y ∈ x1, y.length ≤ 1048576) (i k : Nat) (hi : i < x0.length) (hk : k < x1.length) :
    Calls Try.prog 60 #[.agg #[.slice a0 x0.length c0, .slice a1 x1.length c1], .int .i64 i, .int .i64 k] w fun e w' => e = .returned (.bool (pairB ⟨x0, x1⟩ i k)) ∧ Below w.heap.size w w' := by
  have hB := bl1 w (.cells #[.slice a0 x0.length c0, .slice a1 x1.length c1] 27)
  obtain ⟨b2, o2, ys, a2, c2, e2, hb2, hc2, _, hr2, hy2⟩ := h.1.get hi
  obtain ⟨b3, o3, zs, a3, c3, e3, hb3, hc3, _, hr3, hy3⟩ := h.2.get hk
  subst e2 e3
  have d2 := (hB.cell (p := ⟨b2, o2 + i, none⟩) hb2).trans hc2
  have d3 := (hB.cell (p := ⟨b3, o3 + k, none⟩) hb3).trans hc3
  have L2 := Lib.hid (contains_any _ a2 c2 ys k (hr2.to hB) (by have := hin0 ys (List.mem_of_getElem? hy2.out); omega))
  have L3 := Lib.hid (contains_any _ a3 c3 zs i (hr3.to hB) (by have := hin1 zs (List.mem_of_getElem? hy3.out); omega))
  have HF : Hid (pairB ⟨x0, x1⟩ i k = (containsI ys k && containsI zs i)) := by
    show _ = _
    unfold pairB
    simp only [row_get hy2.out, row_get hy3.out]
  have i0 : (0 : Int) ≤ (i : Int) := Int.natCast_nonneg _
  have k0 : (0 : Int) ≤ (k : Int) := Int.natCast_nonneg _
  have i1 : (i : Int) < (x0.length : Int) := by omega
  have k1 : (k : Int) < (x1.length : Int) := by omega
  clear h hr2 hr3 hy2 hy3 hin0 hin1 hc2 hc3 hi hk
  cases t2 : containsI ys k with
  | false =>
    rw [t2] at L2 HF
    go_enter Try.func60, Try.ntmps60
    go_wp2_with fail
    refine L2.out.mono ?_
    rintro e w1 ⟨rfl, rfl⟩
    go_wp2_with fail
    go_ret
    exact ⟨ret_bool HF.out.symm, hB⟩
  | true =>
    rw [t2, Bool.true_and] at HF
    rw [t2] at L2
    go_enter Try.func60, Try.ntmps60
    go_wp2_with fail
    refine L2.out.mono ?_
    rintro e w1 ⟨rfl, rfl⟩
    go_wp2_with fail
    refine L3.out.mono ?_
    rintro e w1 ⟨rfl, rfl⟩
    go_wp2_with fail
    go_ret
    exact ⟨ret_bool HF.out.symm, hB⟩
theorem place_any (w : World) (a : Option Addr) (c : Nat) (xs : List Int) (x : Int) (h : Rd w w.heap.size a (ints xs)) (hl : xs.length ≤ 1048576) :
    Calls Try.prog 70 #[.slice a xs.length c, .int .i64 x] w fun e w' => e = .returned (.int .i64 (placeI xs x)) ∧ w = w' := by
  have L := Lib.hid (index_any w a c xs x h (by omega))
  have HF : Hid (placeI xs x = if indexI xs x < 0 then (xs.length : Int) else indexI xs x) := rfl
  clear h
  generalize indexI xs x = q at *
  by_cases hq : q < 0
  · rw [if_pos hq] at HF
    go_enter Try.func70, Try.ntmps70
    go_wp2_with (go_at_call 97; refine L.out.mono ?_; rintro e w' ⟨rfl, rfl⟩)
    go_ret
    exact ⟨ret_int HF.out.symm, rfl⟩
  · rw [if_neg hq] at HF
    go_enter Try.func70, Try.ntmps70
    go_wp2_with (go_at_call 97; refine L.out.mono ?_; rintro e w' ⟨rfl, rfl⟩)
    go_ret
    exact ⟨ret_int HF.out.symm, rfl⟩
theorem dearer_any (w : World) (a : Option Addr) (c : Nat) (xs : List Int) (x y : Int) (h : Rd w w.heap.size a (ints xs)) (hl : xs.length ≤ 1048576) :
    Calls Try.prog 61 #[.slice a xs.length c, .int .i64 x, .int .i64 y] w fun e w' => e = .returned (.bool (dearI xs x y)) ∧ w = w' := by
  have L1 := Lib.hid (place_any w a c xs x h hl)
  have L2 := Lib.hid (place_any w a c xs y h hl)
  have HF : Hid (dearI xs x y = decide (placeI xs x < placeI xs y)) := rfl
  clear h
  generalize placeI xs x = p at *
  generalize placeI xs y = q at *
  go_enter Try.func61, Try.ntmps61
  go_wp2_with fail
  refine L1.out.mono ?_
  rintro e w1 ⟨rfl, rfl⟩
  go_wp2_with fail
  refine L2.out.mono ?_
  rintro e w1 ⟨rfl, rfl⟩
  go_wp2_with fail
  go_ret
  exact ⟨ret_bool HF.out.symm, rfl⟩
end Go.Proofs.Ytchfibmndcfpiaa
namespace Go.Proofs.Ytchfibmndcfpiaa
set_option linter.unusedVariables false
set_option linter.unusedSimpArgs false
open Go.RowKit

theorem append_manyC {P : Program} (wr : World) {ops : Array Oper} {rest : List Oper} {o : Oper} {a : Act} {Q : Exit → Act → World → Prop}
    (hg : o.guard = none) (s x : Operand) (t : TypeId) (hop : o.op = Op.call { callee := Callee.builtin Builtin.append, args := #[s, x], argTypes := #[t, t] })
    (base : Nat) (e : TypeId) (z : Value) (bytes : Nat) (h1 : P.underlying t = some (.slice e)) (hinfo : (P.info? e).map (fun i => (i.zero, i.size, i.bytes)) = some (some z, 1, bytes)) (hz : z.cells.size = 1)
    (v : Value) (n : Nat) (xs : List Int) (hs : a.eval s = v) (hown : wr.ownsRow base e 1 v n (ints xs)) (b off m c : Nat) (ys : List Int) (hx : a.eval x = .slice (some ⟨b, off, none⟩) m c) (hm : ys.length = m)
    (hcell : ∀ j, j < m → wr.cell? ⟨b, off + j, none⟩ = some (.int .i64 (ys.getD j 0))) (hb : bytes ≤ 64) (hn : n + m ≤ 1099511627776) (hbase : base ≤ wr.heap.size)
    (hK : ∀ v' w', w'.ownsRow base e 1 v' (n + m) (ints (xs ++ ys)) → wr.grownBy w' v.ownBlock → wpList P ops Q rest (a.put o.dst v') w') :
    wpList P ops Q (o :: rest) a wr := by
  obtain ⟨i, h2, h3, h4, h5⟩ := info_parts hinfo
  have hbb : (n + m) * bytes ≤ 140737488355328 := Nat.le_trans (Nat.mul_le_mul_left (n + m) hb) (by omega)
  refine wpList_append_own wr hg s x t hop base e i z 1 bytes h1 h2 h3 h4 h5 hz (by omega) v n (ints xs) hs hown ⟨b, off, none⟩ m c (ints ys) hx (by simp; omega) ?_ ?_ (by unfold maxLen; omega) hbb hbase (fun v' w' ho hgr _ => hK v' w' (by rw [ints_append]; exact ho) hgr)
  · intro j u hj
    have hj' : j < m := by have := (List.getElem?_eq_some_iff.1 hj).1; simp at this; omega
    have ea : (⟨b, off, none⟩ : Addr).add j = ⟨b, off + j, none⟩ := by unfold Addr.add; split <;> simp_all
    rw [ea, hcell j hj', ← hj, ints_get _ _ (by omega)]
  · intro u hu
    obtain ⟨x, _, rfl⟩ := List.mem_map.1 hu
    rfl
theorem own_emptyC (w : World) (e : Nat) : (w.alloc (.cells #[] e)).ownsRow w.heap.size e 1 (.slice (some ⟨w.heap.size, 0, none⟩) 0 0) 0 (ints []) := own_empty w e
set_option maxRecDepth 10000 in
set_option maxHeartbeats 2000000 in
theorem clone_any (w : World) (a : Option Addr) (c : Nat) (xs : List Int) (h : Rd w w.heap.size a (ints xs)) (hl1 : 1 ≤ xs.length) (hl : xs.length ≤ 1048576) :
    Calls Try.prog 54 #[.slice a xs.length c] w fun e w' => ∃ a' c', e = .returned (.slice a' xs.length c') ∧ OwnI 2 w' w.heap.size w'.heap.size a' c' xs ∧ Below w.heap.size w w' := by
  obtain ⟨b, o, rfl, hb, hcell⟩ := h.at (k := 0) (by omega)
  clear h
  have hen := fun (w : World) (a : Option Addr) (n c : Nat) => Lib.run_eql_slice_nil (P := Try.prog) w 31 2 a n c 0 0 Try.underlying31
  go_enter Try.func54, Try.ntmps54
  go_wp2_with (at_builtin; refine append_manyC _ rfl _ _ 31 rfl w.heap.size 2 (.int .i64 0) 8 Try.underlying31 info_i64p rfl _ 0 [] rfl (own_emptyC w 2) b o xs.length c xs rfl rfl ?_ (by omega) (by omega) (by simp) ?_)
  · intro j hj
    rw [(bl1 w _).cell (p := ⟨b, o + j, none⟩) hb, hcell j hj]
  intro v1 w1 o1 g1
  have B1 := below_append (bl1 w (.cells #[] 2)) (own_emptyC w 2) g1 (Nat.le_refl _) (by simp)
  obtain ⟨a1, c1, rfl, _, _⟩ := own_shape o1
  have HR : Hid (OwnI 2 w1 w.heap.size w1.heap.size a1 c1 xs) := OwnI.of_own (by simpa using o1)
  clear o1 g1 hcell
  go_wp2_with fail
  go_ret
  exact ⟨_, _, by simp, HR.out, B1⟩
end Go.Proofs.Ytchfibmndcfpiaa
namespace Go.Proofs.Ytchfibmndcfpiaa
set_option linter.unusedVariables false
set_option linter.unusedSimpArgs false
open Go.RowKit

/-- What append gives back lies where the row lay, or in a block that is new. -/
theorem append_block {P : Program} (w : World) (base : Nat) (t ty e : TypeId) (i : TypeInfo) (z : Value) (ht : P.underlying t = some (.slice e)) (hi : P.info? e = some i) (hz : i.zero = some z) (hsize : i.size = 1)
    (v : Value) (n : Nat) (xs : List Value) (hown : w.ownsRow base e 1 v n xs) (a : Addr) (m c : Nat) (news : List Value) (hl : news.length = m * 1) (hnews : ∀ j u, news[j]? = some u → w.cell? (a.add j) = some u) (h1 : ∀ u ∈ news, u.oneCell' = true)
    (hm : 0 < m) (h63 : n + m ≤ maxLen) (hbytes : (n + m) * i.bytes ≤ 140737488355328) {v' : Value} {w' : World} (hr : (Builtin.append_ #[t, t] ty #[v, .slice (some a) m c]).run P w = .ok v' w') :
    v'.ownBlock = v.ownBlock ∨ v'.ownBlock = some w.heap.size := by
  have hsmall : n + m ≤ 9223372036854775807 := by simp only [maxLen] at h63; omega
  rw [← hsize] at hl
  rcases hown.2 with ⟨rfl, rfl⟩ | ⟨g, cap, cur, rfl, hbg, hg, hnc, hcm, hcs, htake⟩
  · have hr2 := run_append_nil (P := P) w t ty e i z ht hi hz a m c news hl hnews (by omega) (by omega) (by have hb := hbytes; simp only [Nat.zero_add] at hb; omega)
    rw [hr2] at hr
    injection hr with hr _
    subst hr
    exact .inr rfl
  · by_cases hroom : n + m ≤ cap
    · have hfit : n * i.size + news.length ≤ cur.size := by rw [hl, hcs, hsize, ← Nat.add_mul]; exact Nat.mul_le_mul_right _ hroom
      have hr2 := run_append_room (P := P) w t ty e i ht hi g n cap cur hg a m c news hl hnews h1 hroom hfit
      rw [hr2] at hr
      injection hr with hr _
      subst hr
      exact .inl rfl
    · have holds : ∀ j u, xs[j]? = some u → w.cell? ((⟨g, 0, none⟩ : Addr).add j) = some u := hown.cells (g := g) rfl
      have hr2 := run_append_grow (P := P) w t ty e i z ht hi hz ⟨g, 0, none⟩ n cap xs (by rw [hsize]; exact hown.1) holds a m c news hl hnews (by omega) (by omega) (growslice_fits (by omega) hbytes)
      rw [hr2] at hr
      injection hr with hr _
      subst hr
      exact .inr rfl

theorem wpList_append_blk {P : Program} (wr : World) {ops : Array Oper} {rest : List Oper} {o : Oper} {a : Act} {Q : Exit → Act → World → Prop}
    (hg : o.guard = none) (s x : Operand) (t : TypeId) (hop : o.op = Op.call { callee := Callee.builtin Builtin.append, args := #[s, x], argTypes := #[t, t] })
    (base : Nat) (e : TypeId) (z : Value) (bytes : Nat) (h1 : P.underlying t = some (.slice e)) (hinfo : (P.info? e).map (fun i => (i.zero, i.size, i.bytes)) = some (some z, 1, bytes)) (hz : z.cells.size = 1)
    (v : Value) (n : Nat) (xs : List Value) (hs : a.eval s = v) (hown : wr.ownsRow base e 1 v n xs) (y : Value) (hy : y.oneCell' = true)
    (hx : a.eval x = .slice (some ⟨wr.heap.size, 0, none⟩) 1 1) (hb : bytes ≤ 64) (hn : n ≤ 1099511627776) (hbase : base ≤ wr.heap.size)
    (hK : ∀ v' w', w'.ownsRow base e 1 v' (n + 1) (xs ++ [y]) → wr.grownBy w' v.ownBlock → (∀ g, g < wr.heap.size → some g ≠ v.ownBlock → some g ≠ v'.ownBlock) → wpList P ops Q rest (a.put o.dst v') w') :
    wpList P ops Q (o :: rest) a (wr.alloc (.cells #[y] e)) := by
  obtain ⟨i, h2, h3, h4, h5⟩ := info_parts hinfo
  have hbb : (n + 1) * bytes ≤ 140737488355328 := Nat.le_trans (Nat.mul_le_mul_left (n + 1) hb) (by omega)
  have hnews : ∀ j u, [y][j]? = some u → (wr.alloc (.cells #[y] e)).cell? ((⟨wr.heap.size, 0, none⟩ : Addr).add j) = some u := by
    intro j u hj
    match j, hj with
    | 0, hj =>
      simp at hj
      subst hj
      simp [Addr.add]
    | j + 1, hj => simp at hj
  have hone : ∀ u ∈ [y], u.oneCell' = true := by
    intro u hu
    simp at hu
    subst hu
    exact hy
  refine wpList_plain hg fun _ hK' => ?_
  obtain ⟨v', w', hr, ho, hgr, _⟩ := run_append_own (P := P) (wr.alloc (.cells #[y] e)) base t o.type e i z 1 bytes h1 h2 h3 h4 h5 hz (by omega) v n xs (hown.alloc _) ⟨wr.heap.size, 0, none⟩ 1 1 [y] rfl hnews hone (by unfold maxLen; omega) hbb (by simp; omega)
  have hblk := append_block (wr.alloc (.cells #[y] e)) base t o.type e i z h1 h2 h3 h4 v n xs (hown.alloc _) ⟨wr.heap.size, 0, none⟩ 1 1 [y] rfl hnews hone (by omega) (by unfold maxLen; omega) (by rw [h5]; exact hbb) hr
  unfold Oper.wp execOp
  simp only [hop, resolve, invoke, builtin, Sem.run_bind, Sem.run_pure, Result.andThen_ok, List.map_toArray, List.map_cons, List.map_nil, hs, hx, hr]
  refine hK' _ _ (hK v' w' ho ⟨hgr.os, hgr.tape, hgr.output, ?_, fun k hk hne => ?_⟩ fun g hgl hgv hgv' => ?_)
  · have := hgr.size; simp at this; omega
  · rw [hgr.block k (by simp; omega) hne]
    exact Below.heap_alloc _ _ _ hk
  · rcases hblk with h | h
    · exact hgv (hgv'.trans h)
    · rw [h] at hgv'
      injection hgv' with hgv'
      simp at hgv'
      omega

/-- Two rows in blocks of their own. -/
def Apart (u v : Value) : Prop := ∀ g, u.ownBlock = some g → v.ownBlock ≠ some g
theorem Apart.symm {u v : Value} (h : Apart u v) : Apart v u := fun g h1 h2 => h g h2 h1
theorem own_apart {w w' : World} {base e n : Nat} {u v : Value} {xs : List Value} (h : w.ownsRow base e 1 v n xs) (hg : w.grownBy w' u.ownBlock) (ha : Apart u v) : w'.ownsRow base e 1 v n xs := by
  refine h.kept hg ?_
  cases hv : v.ownBlock with
  | none => exact .inl rfl
  | some g => exact .inr (fun e => ha g e.symm hv)
theorem apart_grow {w : World} {base e n : Nat} {u u' v : Value} {xs : List Value} (h : w.ownsRow base e 1 v n xs) (ha : Apart u v) (hn : ∀ g, g < w.heap.size → some g ≠ u.ownBlock → some g ≠ u'.ownBlock) : Apart u' v :=
  fun g hu hv => hn g (h.lt g hv).2 (fun e => ha g e.symm hv) hu.symm
/-- A row of at least one, opened. -/
theorem own_open {w : World} {base e n c : Nat} {a : Option Addr} {xs : List Value} (h : w.ownsRow base e 1 (.slice a n c) n xs) (hn : 0 < n) :
    ∃ g tl, a = some ⟨g, 0, none⟩ ∧ base ≤ g ∧ Blk w g (xs ++ tl) e ∧ n ≤ c ∧ c ≤ maxLen ∧ (xs ++ tl).length = c := by
  rcases h.2 with ⟨h2, h3⟩ | ⟨g, cap, cur, hv, hg, hh, hn2, hm, hs, ht⟩
  · omega
  · injection hv with ha _ hc
    subst ha hc
    rw [Nat.mul_one] at hs ht
    refine ⟨g, cur.toList.drop n, rfl, hg, ?_, hn2, hm, ?_⟩
    · rw [← ht, List.take_append_drop]; exact hh
    · rw [← ht, List.take_append_drop]; simpa using hs
theorem own_close {w : World} {base e n c g : Nat} {xs tl : List Value} (h : Blk w g (xs ++ tl) e) (hg : base ≤ g) (hn : xs.length = n) (hnc : n ≤ c) (hm : c ≤ maxLen) (hl : (xs ++ tl).length = c) : w.ownsRow base e 1 (.slice (some ⟨g, 0, none⟩) n c) n xs :=
  ⟨by omega, .inr ⟨g, c, _, rfl, hg, h, hnc, hm, by simpa using hl, by rw [Nat.mul_one, ← hn]; exact List.take_left⟩⟩
theorem cell_app {w : World} {g T : Nat} {xs : List Int} {tl : List Value} (h : Blk w g (ints xs ++ tl) T) {j : Nat} (hj : j < xs.length) : w.cell? ⟨g, j, none⟩ = some (.int .i64 (xs.getD j 0)) := by
  rw [h.cell, List.getElem?_append_left (by simpa using hj)]
  exact ints_get xs j hj
theorem set_app {w : World} {g T : Nat} {xs : List Int} {tl : List Value} (h : Blk w g (ints xs ++ tl) T) {j : Nat} (hj : j < xs.length) (y : Int) : Blk (w.setCell ⟨g, j, none⟩ (.int .i64 y)) g (ints (xs.set j y) ++ tl) T := by
  have := h.set j (.int .i64 y)
  rwa [List.set_append_left _ _ (by simpa using hj), ← ints_set] at this
theorem rd_app {w : World} {g T B : Nat} {xs tl : List Value} (h : Blk w g (xs ++ tl) T) (hB : g < B) : Rd w B (some ⟨g, 0, none⟩) xs :=
  .inr ⟨g, 0, rfl, hB, fun j hj => by rw [Nat.zero_add, h.cell, List.getElem?_append_left hj]⟩
end Go.Proofs.Ytchfibmndcfpiaa
