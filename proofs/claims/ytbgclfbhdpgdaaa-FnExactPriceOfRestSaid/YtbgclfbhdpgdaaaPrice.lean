/-
  The quotient of the worst rest and the least total: what it is, and fractions without a common factor on both roads.
-/
import Derived.Test.YtbgclfbhdpgdaaaWorstS
import Derived.Test.YtbgclfbhdpgdaaaGcd
namespace Go.Proofs.Ytbgclfbhdpgdaaa
set_option linter.unusedVariables false
set_option linter.unusedSimpArgs false
open Go.RowKit

theorem least_inv {c : Cr} : ∀ {t : Nat} {b : List Int} {m : Int}, foldC c.ways.length c.U.toNat (leastStep c) t = some (b, m) → m = totalF c b ∧ ∀ t', t' < t → m ≤ totalF c (chAt c.ways.length c.U.toNat t')
  | 0, b, m, h => by cases h
  | t + 1, b, m, h => by
    rw [foldC] at h
    cases hs : foldC c.ways.length c.U.toNat (leastStep c) t with
    | none =>
      rw [hs] at h
      simp only [leastStep] at h
      injection h with h; injection h with h1 h2
      subst h1 h2
      refine ⟨rfl, fun t' ht' => ?_⟩
      cases t with
      | zero => have : t' = 0 := by omega
                subst this; exact Int.le_refl _
      | succ t => have := least_some (c := c) (t := t); rw [hs] at this; cases this
    | some q =>
      obtain ⟨b0, m0⟩ := q
      obtain ⟨i1, i2⟩ := least_inv hs
      rw [hs] at h
      simp only [leastStep] at h
      split at h
      · rename_i hlt
        injection h with h; injection h with h1 h2
        subst h1 h2
        refine ⟨rfl, fun t' ht' => ?_⟩
        by_cases e : t' = t
        · subst e; exact Int.le_refl _
        · have := i2 t' (by omega); omega
      · rename_i hge
        injection h with h; injection h with h1 h2
        subst h1 h2
        refine ⟨i1, fun t' ht' => ?_⟩
        by_cases e : t' = t
        · subst e; omega
        · exact i2 t' (by omega)
theorem worst_inv {c : Cr} : ∀ {t : Nat} {b : List Int} {m : Int}, foldC c.ways.length c.U.toNat (worstStep c) t = some (b, m) → m = totalF c b ∧ ∃ t', t' < t ∧ b = chAt c.ways.length c.U.toNat t'
  | 0, b, m, h => by cases h
  | t + 1, b, m, h => by
    rw [foldC] at h
    generalize hs : foldC c.ways.length c.U.toNat (worstStep c) t = s at h
    unfold worstStep at h
    split at h
    · obtain ⟨i1, t', i2, i3⟩ := worst_inv (hs.trans h)
      exact ⟨i1, t', by omega, i3⟩
    · cases s with
      | none =>
        simp only at h
        injection h with h; injection h with h1 h2
        exact ⟨by rw [← h2, ← h1], t, by omega, h1.symm⟩
      | some q =>
        obtain ⟨b0, m0⟩ := q
        simp only at h
        split at h
        · injection h with h; injection h with h1 h2
          exact ⟨by rw [← h2, ← h1], t, by omega, h1.symm⟩
        · obtain ⟨i1, t', i2, i3⟩ := worst_inv (hs.trans h)
          exact ⟨i1, t', by omega, i3⟩
/-- The quotient without a common factor. -/
def priceF (c : Cr) : Int × Int × Bool :=
  match worstF c, leastF c with
  | some (_, m), some (_, l) => if l < 1 then (0, 0, false) else (((m.toNat / Nat.gcd m.toNat l.toNat : Nat) : Int), ((l.toNat / Nat.gcd m.toNat l.toNat : Nat) : Int), true)
  | _, _ => (0, 0, false)
inductive PriceCase (c : Cr) : Prop
  | no (h1 : worstF c = none) (h2 : leastF c = none) (h3 : priceF c = (0, 0, false))
  | low (bw bl : List Int) (m l : Int) (h1 : worstF c = some (bw, m)) (h2 : leastF c = some (bl, l)) (h3 : priceF c = (0, 0, false)) (h4 : l < 1)
  | yes (bw bl : List Int) (m l : Nat) (h1 : worstF c = some (bw, (m : Int))) (h2 : leastF c = some (bl, (l : Int))) (h3 : priceF c = (((m / Nat.gcd m l : Nat) : Int), ((l / Nat.gcd m l : Nat) : Int), true)) (h4 : 1 ≤ l) (h5 : l ≤ m) (h6 : m ≤ 6400000)
theorem priceCase (c : Cr) : PriceCase c := by
  by_cases hv : validB c = true
  case neg =>
    have hv' : validB c = false := by simpa using hv
    have h1 := worstF_no hv'
    have h2 := leastF_no hv'
    exact .no h1 h2 (by unfold priceF; rw [h1])
  by_cases hf : fewB c = true
  case neg =>
    have hf' : fewB c = false := by simpa using hf
    have h1 := worstF_few hf'
    have h2 := leastF_few hf'
    exact .no h1 h2 (by unfold priceF; rw [h1])
  have hV := valid_of hv
  have s1 := worst_some hV
  have s2 := least_some' hV
  have h1 := worstF_yes hv hf
  have h2 := leastF_yes hv hf
  cases e1 : foldC c.ways.length c.U.toNat (worstStep c) (c.ways.length ^ c.U.toNat) with
  | none => rw [e1] at s1; cases s1
  | some p =>
  obtain ⟨bw, m⟩ := p
  cases e2 : foldC c.ways.length c.U.toNat (leastStep c) (c.ways.length ^ c.U.toNat) with
  | none => rw [e2] at s2; cases s2
  | some q =>
  obtain ⟨bl, l⟩ := q
  rw [e1] at h1
  rw [e2] at h2
  obtain ⟨i1, t', i2, i3⟩ := worst_inv e1
  obtain ⟨j1, j2⟩ := least_inv e2
  have k1 := j2 t' i2
  rw [← i3, ← i1] at k1
  have hb := total_bd hV bw
  rw [← i1] at hb
  by_cases hl : l < 1
  · exact .low bw bl m l h1 h2 (by unfold priceF; rw [h1, h2]; simp [hl]) hl
  · obtain ⟨mn, rfl⟩ : ∃ k : Nat, m = k := ⟨m.toNat, by omega⟩
    obtain ⟨ln, rfl⟩ : ∃ k : Nat, l = k := ⟨l.toNat, by omega⟩
    exact .yes bw bl mn ln h1 h2 (by unfold priceF; rw [h1, h2]; simp only [hl, if_false, Int.toNat_natCast]) (by omega) (by omega) (by omega)
theorem absolute_any (w : World) (a : Nat) (ha : a ≤ 1099511627776) :
    Calls Try.prog 87 #[.int .i64 a] w fun e w' => e = .returned (.int .i64 a) ∧ w' = w := by
  have hm : Hid (max (a : Int) (-(a : Int)) = a) := by show _ = _; omega
  have hm2 : ¬ ((a : Int) < -(a : Int)) := by omega
  go_enter Try.func87, Try.ntmps87
  go_wp2_with fail
  go_ret
  exact ⟨ret_int (by first | exact hm.out | rfl | omega), rfl⟩
end Go.Proofs.Ytbgclfbhdpgdaaa
