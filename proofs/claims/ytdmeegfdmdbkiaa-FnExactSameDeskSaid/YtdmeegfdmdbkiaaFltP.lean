/-
  Plain floats: a single's number is a double's; a double against itself. No Go function is named here.
-/
import Derived.Laws.FloatArith
namespace Go.Proofs.Ytdmeegfdmdbkiaa
set_option linter.unusedVariables false
set_option linter.unusedSimpArgs false
open Ieee

theorem cut_none (neg : Bool) (n : Nat) : Toward.even.cut neg n 0 = n := by
  simp [Toward.cut, Nat.mod_one]
theorem read_word (neg : Bool) (a r : Nat) (hr : r < 4503599627370496) (ha : a < 2046) :
    double.read (double.word neg (a * 4503599627370496 + (4503599627370496 + r))) = .number neg (4503599627370496 + r) (-1074 + (a : Int)) := by
  have hsw : double.signWeight = 9223372036854775808 := by decide
  have hbi : double.binade = 4503599627370496 := by decide
  have hin : double.infRung = 9218868437227405312 := by decide
  have hlp : double.leastPlace = -1074 := by decide
  have h1 : double.word neg (a * 4503599627370496 + (4503599627370496 + r)) % 9223372036854775808 = a * 4503599627370496 + (4503599627370496 + r) := by
    unfold Format.word
    rw [hsw]
    split <;> omega
  have h2 : (double.word neg (a * 4503599627370496 + (4503599627370496 + r)) / 9223372036854775808 % 2 == 1) = neg := by
    unfold Format.word
    rw [hsw]
    cases neg
    · simp; omega
    · simp; omega
  unfold Format.read
  simp only [hsw, hbi, hin, hlp, h1, h2]
  rw [if_neg (by omega), if_pos (by omega)]
  congr 1
  · omega
  · omega
theorem wide_read (neg : Bool) (mag : Nat) (place : Int) (hm : 0 < mag) (h24 : mag < 16777216) (p0 : -149 ≤ place) (p1 : place ≤ 104) :
    ∃ m p, double.read (double.nearest neg mag place) = .number neg m p ∧ 0 < m := by
  have hlp : double.leastPlace = -1074 := by decide
  have hbi : double.binade = 4503599627370496 := by decide
  have hin : double.infRung = 9218868437227405312 := by decide
  have hfb : (double.fractionBits : Int) = 52 := by decide
  obtain ⟨L, hL⟩ : ∃ L, L = mag.log2 := ⟨_, rfl⟩
  have l1 : 2 ^ L ≤ mag := by rw [hL]; exact Nat.log2_self_le (by omega)
  have l2 : mag < 2 ^ (L + 1) := by rw [hL]; exact Nat.lt_log2_self
  have l3 : L ≤ 23 := by
    rcases Nat.lt_or_ge 23 L with h | h
    · have : 2 ^ 24 ≤ 2 ^ L := Nat.pow_le_pow_right (by omega) (by omega)
      omega
    · exact h
  have e1 : max (place + (L : Int) - 52) (-1074) = place + (L : Int) - 52 := by omega
  have e2 : (place - (place + (L : Int) - 52)).toNat = 52 - L := by omega
  have e3 : (place + (L : Int) - 52 - place).toNat = 0 := by omega
  have k1 : 4503599627370496 ≤ mag * 2 ^ (52 - L) := by
    have := Nat.mul_le_mul_right (2 ^ (52 - L)) l1
    rw [← Nat.pow_add, show L + (52 - L) = 52 from by omega] at this
    omega
  have k2 : mag * 2 ^ (52 - L) < 9007199254740992 := by
    have := Nat.mul_lt_mul_of_pos_right l2 (Nat.two_pow_pos (52 - L))
    rw [← Nat.pow_add, show L + 1 + (52 - L) = 53 from by omega] at this
    omega
  obtain ⟨r, hr⟩ : ∃ r, mag * 2 ^ (52 - L) = 4503599627370496 + r := ⟨mag * 2 ^ (52 - L) - 4503599627370496, by omega⟩
  have hnear : double.nearest neg mag place = double.word neg (((place + (L : Int) - 52) - (-1074)).toNat * 4503599627370496 + (4503599627370496 + r)) := by
    unfold Format.nearest
    rw [if_neg (by omega)]
    simp only [hlp, hbi, hin, hfb, ← hL, e1, e2, e3, cut_none, Nat.shiftLeft_eq]
    rw [hr, Nat.min_eq_left (by omega)]
  rw [hnear, read_word neg _ r (by omega) (by omega)]
  exact ⟨_, _, rfl, by omega⟩
theorem single_read (x : Nat) : (∃ n f, single.read x = .nan n f) ∨ (∃ n, single.read x = .infinity n) ∨ ∃ n m p, single.read x = .number n m p ∧ m < 16777216 ∧ -149 ≤ p ∧ p ≤ 104 := by
  have hsw : single.signWeight = 2147483648 := by decide
  have hbi : single.binade = 8388608 := by decide
  have hin : single.infRung = 2139095040 := by decide
  have hlp : single.leastPlace = -149 := by decide
  unfold Format.read
  simp only [hsw, hbi, hin, hlp]
  split
  · exact .inr (.inr ⟨_, _, _, rfl, by omega, by omega, by omega⟩)
  · split
    · exact .inr (.inr ⟨_, _, _, rfl, by omega, by omega, by omega⟩)
    · split
      · exact .inr (.inl ⟨_, rfl⟩)
      · exact .inl ⟨_, _, rfl⟩
theorem order_self (d : Datum) : (∃ n f, d = .nan n f) ∨ d.order d = some .eq := by
  cases d with
  | nan n f => exact .inl ⟨_, _, rfl⟩
  | infinity n => right; cases n <;> rfl
  | number n m p => right; simp [Datum.order]
end Go.Proofs.Ytdmeegfdmdbkiaa
