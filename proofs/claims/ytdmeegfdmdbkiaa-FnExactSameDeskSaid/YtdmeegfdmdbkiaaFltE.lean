/-
  Plain floats: two single words of one value and one sign are one word; a double that a single becomes has its sign. No Go function is named here.
-/
import Derived.Test.YtdmeegfdmdbkiaaFltP
namespace Go.Proofs.Ytdmeegfdmdbkiaa
set_option linter.unusedVariables false
set_option linter.unusedSimpArgs false
open Ieee

theorem sw32 : single.signWeight = 2147483648 := by decide
theorem bi32 : single.binade = 8388608 := by decide
theorem in32 : single.infRung = 2139095040 := by decide
theorem lp32 : single.leastPlace = -149 := by decide
/-- A word without its sign: its number's digits and place. -/
theorem rung_parts (r : Nat) (h : r < 2139095040) : ∃ e m : Nat, r = e * 8388608 + m ∧ (m < 16777216 ∧ e ≤ 253) ∧ (1 ≤ e → 8388608 ≤ m) ∧
    (∀ neg : Bool, (if r < 8388608 then Datum.number neg r (-149) else Datum.number neg (8388608 + r % 8388608) (-149 + (r / 8388608 - 1 : Nat))) = Datum.number neg m (-149 + (e : Int))) := by
  by_cases c : r < 8388608
  · exact ⟨0, r, by omega, by omega, by omega, fun neg => by rw [if_pos c]; simp⟩
  · exact ⟨r / 8388608 - 1, 8388608 + r % 8388608, by omega, by omega, by omega, fun neg => by rw [if_neg c]⟩
theorem single_cases (x : Nat) : (∃ e m : Nat, x % 2147483648 = e * 8388608 + m ∧ (m < 16777216 ∧ e ≤ 253) ∧ (1 ≤ e → 8388608 ≤ m) ∧ single.read x = .number (x / 2147483648 % 2 == 1) m (-149 + (e : Int))) ∨
    (x % 2147483648 = 2139095040 ∧ single.read x = .infinity (x / 2147483648 % 2 == 1)) ∨ ∃ n f, single.read x = .nan n f := by
  unfold Format.read
  simp only [sw32, bi32, in32, lp32]
  by_cases h1 : x % 2147483648 < 2139095040
  · obtain ⟨e, m, k1, k2, k3, k4⟩ := rung_parts _ h1
    refine .inl ⟨e, m, k1, k2, k3, ?_⟩
    by_cases h0 : x % 2147483648 < 8388608
    · have := k4 (x / 2147483648 % 2 == 1); rw [if_pos h0] at this ⊢; exact this
    · have := k4 (x / 2147483648 % 2 == 1); rw [if_neg h0] at this ⊢; rw [if_pos h1]; exact this
  · rw [if_neg (by omega), if_neg h1]
    by_cases h2 : x % 2147483648 = 2139095040
    · rw [if_pos h2]; exact .inr (.inl ⟨h2, rfl⟩)
    · rw [if_neg h2]; exact .inr (.inr ⟨_, _, rfl⟩)
theorem compare_eq {a b : Int} (h : compare a b = .eq) : a = b := by
  rw [show compare a b = compareOfLessAndEq a b from rfl] at h
  unfold compareOfLessAndEq at h
  split at h
  · cases h
  · split at h
    · assumption
    · cases h
theorem shift_eq {m n e f : Nat} (hm : m < 16777216) (hn : n < 16777216) (he : 1 ≤ e → 8388608 ≤ m) (hf : 1 ≤ f → 8388608 ≤ n) (h : m * 2 ^ (e - min e f) = n * 2 ^ (f - min e f)) : e = f ∧ m = n := by
  by_cases c : e = f
  · subst c
    simp at h
    exact ⟨rfl, h⟩
  · exfalso
    by_cases d : e < f
    · rw [Nat.min_eq_left (by omega), Nat.sub_self, Nat.pow_zero, Nat.mul_one] at h
      obtain ⟨k, hk⟩ : ∃ k, f - e = k + 1 := ⟨f - e - 1, by omega⟩
      rw [hk, Nat.pow_succ] at h
      have h8 := hf (by omega)
      have : n * 1 ≤ n * 2 ^ k := Nat.mul_le_mul_left _ (Nat.one_le_two_pow)
      have e2 : n * (2 ^ k * 2) = 2 * (n * 2 ^ k) := by rw [← Nat.mul_assoc, Nat.mul_comm]
      omega
    · rw [Nat.min_eq_right (by omega), Nat.sub_self, Nat.pow_zero, Nat.mul_one] at h
      obtain ⟨k, hk⟩ : ∃ k, e - f = k + 1 := ⟨e - f - 1, by omega⟩
      rw [hk, Nat.pow_succ] at h
      have h8 := he (by omega)
      have : m * 1 ≤ m * 2 ^ k := Nat.mul_le_mul_left _ (Nat.one_le_two_pow)
      have e2 : m * (2 ^ k * 2) = 2 * (m * 2 ^ k) := by rw [← Nat.mul_assoc, Nat.mul_comm]
      omega
theorem signed_eq {s : Bool} {m n k l : Nat} (h : signed s m k = signed s n l) : m * 2 ^ k = n * 2 ^ l := by
  unfold signed at h
  simp only [Nat.shiftLeft_eq] at h
  cases s
  · simp at h; exact_mod_cast h
  · simp at h; exact_mod_cast h
theorem single_eq {x y : Nat} (hx : x < 4294967296) (hy : y < 4294967296) (h : single.order x y = some .eq) (hs : x / 2147483648 = y / 2147483648) : x = y := by
  unfold Format.order at h
  rcases single_cases x with ⟨e, m, k1, k2, k3, k4⟩ | ⟨k1, k4⟩ | ⟨n, f, k4⟩ <;> rcases single_cases y with ⟨e', m', l1, l2, l3, l4⟩ | ⟨l1, l4⟩ | ⟨n', f', l4⟩
  all_goals rw [k4, l4] at h
  · simp only [Datum.order, Option.some.injEq] at h
    rw [hs] at h
    have h2 := signed_eq (compare_eq h)
    have e1 : ((-149 + (e : Int)) - min (-149 + (e : Int)) (-149 + (e' : Int))).toNat = e - min e e' := by omega
    have e2 : ((-149 + (e' : Int)) - min (-149 + (e : Int)) (-149 + (e' : Int))).toNat = e' - min e e' := by omega
    rw [e1, e2] at h2
    obtain ⟨q1, q2⟩ := shift_eq k2.1 l2.1 k3 l3 h2
    subst q1 q2
    omega
  · simp [Datum.order] at h; split at h <;> cases h
  · simp [Datum.order] at h
  · simp [Datum.order] at h; split at h <;> cases h
  · omega
  · simp [Datum.order] at h
  · simp [Datum.order] at h
  · simp [Datum.order] at h
  · simp [Datum.order] at h
theorem nearest_word (neg : Bool) (mag : Nat) (place : Int) : ∃ g, g ≤ 9218868437227405312 ∧ double.nearest neg mag place = double.word neg g := by
  have hin : double.infRung = 9218868437227405312 := by decide
  unfold Format.nearest
  split
  · exact ⟨0, by omega, rfl⟩
  · rw [hin]; exact ⟨_, Nat.min_le_right _ _, rfl⟩
theorem word_sign (neg : Bool) (g : Nat) (h : g ≤ 9218868437227405312) : double.word neg g < 18446744073709551616 ∧ (9223372036854775808 ≤ double.word neg g ↔ neg = true) := by
  have hsw : double.signWeight = 9223372036854775808 := by decide
  unfold Format.word
  rw [hsw]
  cases neg
  · simp; omega
  · simp; omega
/-- What a single becomes as a double: its sign stays. -/
theorem wide_sign {x : Nat} (hx : x < 4294967296) (hn : ¬ ∃ n f, single.read x = .nan n f) : ∃ r, floatToFloatBits .f32 x .f64 = some r ∧ r < 18446744073709551616 ∧ (9223372036854775808 ≤ r ↔ 2147483648 ≤ x) := by
  have hneg : ((x / 2147483648 % 2 == 1) = true) ↔ 2147483648 ≤ x := by rw [beq_iff_eq]; omega
  rcases single_cases x with ⟨e, m, k1, k2, k3, k4⟩ | ⟨k1, k4⟩ | h
  · obtain ⟨g, g1, g2⟩ := nearest_word (x / 2147483648 % 2 == 1) m (-149 + (e : Int))
    obtain ⟨w1, w2⟩ := word_sign (x / 2147483648 % 2 == 1) g g1
    refine ⟨double.word (x / 2147483648 % 2 == 1) g, ?_, w1, by rw [w2, hneg]⟩
    have hr : ∃ n' m' p', double.read (double.word (x / 2147483648 % 2 == 1) g) = .number n' m' p' := by
      rw [← g2]
      rcases Nat.eq_zero_or_pos m with h0 | h0
      · subst h0
        have : double.nearest (x / 2147483648 % 2 == 1) 0 (-149 + (e : Int)) = double.word (x / 2147483648 % 2 == 1) 0 := by
          unfold Format.nearest; rw [if_pos rfl]
        rw [this]
        cases (x / 2147483648 % 2 == 1)
        · exact ⟨false, 0, -1074, by decide +kernel⟩
        · exact ⟨true, 0, -1074, by decide +kernel⟩
      · obtain ⟨m', p', e', _⟩ := wide_read (x / 2147483648 % 2 == 1) m (-149 + (e : Int)) h0 k2.1 (by omega) (by omega)
        exact ⟨_, m', p', e'⟩
    obtain ⟨n', m', p', e'⟩ := hr
    have hw : double.write (.number (x / 2147483648 % 2 == 1) m (-149 + (e : Int))) = double.word (x / 2147483648 % 2 == 1) g := g2
    simp [floatToFloatBits, FloatKind.decode, FloatKind.format, FloatKind.encode, k4, hw, e', Datum.isInfinity]
  · obtain ⟨w1, w2⟩ := word_sign (x / 2147483648 % 2 == 1) 9218868437227405312 (by omega)
    refine ⟨double.word (x / 2147483648 % 2 == 1) 9218868437227405312, ?_, w1, by rw [w2, hneg]⟩
    simp [floatToFloatBits, FloatKind.decode, FloatKind.format, FloatKind.encode, k4]
    rfl
  · exact absurd h hn
theorem nan_order {x : Nat} : (∃ n f, single.read x = .nan n f) ↔ single.order x x = none := by
  constructor
  · rintro ⟨n, f, h⟩
    unfold Format.order
    rw [h]; rfl
  · intro h
    rcases order_self (single.read x) with h' | h'
    · exact h'
    · unfold Format.order at h; rw [h] at h'; cases h'
theorem self_order {x : Nat} (h : ¬ ∃ n f, single.read x = .nan n f) : single.order x x = some .eq := by
  rcases order_self (single.read x) with h' | h'
  · exact absurd h' h
  · exact h'
theorem not_eq_order {x y : Nat} (h : ¬ ∃ n f, single.read x = .nan n f) (ho : ¬ single.order x y = some .eq) : x ≠ y := by
  rintro rfl; exact ho (self_order h)
end Go.Proofs.Ytdmeegfdmdbkiaa
