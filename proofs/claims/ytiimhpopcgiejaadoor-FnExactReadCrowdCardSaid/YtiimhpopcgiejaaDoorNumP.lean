/-
  The number that a decimal text tells: plain part.
-/
import Derived.Test.YtiimhpopcgiejaaDoorDec
import Derived.Lib.ParseIntB
import Derived.Lib.ParseIntBCases
namespace Go.Proofs.YtiimhpopcgiejaaDoor
set_option linter.unusedVariables false
set_option linter.unusedSimpArgs false
open Go.RowKit

/-- Digits read on; other bytes are passed over. -/
def digS (n : Int) (b : UInt8) : Int := if 48 ≤ b.toNat ∧ b.toNat ≤ 57 then 10 * n + ((b.toNat : Int) - 48) else n
def digN (l : List UInt8) : Int := l.foldl digS 0
def nOf (l : List UInt8) : Int := if l[0]? = some 45 then - digN l else digN l
def bigM : Int := 1000000000000000
/-- The number with a text. -/
def valF (l : List UInt8) : Option Int := if -bigM ≤ nOf l ∧ nOf l ≤ bigM ∧ Lib.itoa (nOf l) = l then some (nOf l) else none
theorem digN_take {l : List UInt8} {k : Nat} {b : UInt8} (h : l[k]? = some b) : digN (l.take (k + 1)) = digS (digN (l.take k)) b := by
  rw [List.take_add_one, h]; simp [digN, List.foldl_append]
theorem digN_bd : ∀ (l : List UInt8) (k : Nat), 0 ≤ digN (l.take k) ∧ digN (l.take k) + 1 ≤ 10 ^ k
  | l, 0 => by simp [digN]
  | l, k + 1 => by
    have ih := digN_bd l k
    cases h : l[k]? with
    | none =>
      rw [List.take_add_one, h]
      simp only [Option.toList_none, List.append_nil]
      have : (10 : Int) ^ k ≤ 10 ^ (k + 1) := by rw [Int.pow_succ]; have : (0 : Int) < 10 ^ k := by omega
                                                 omega
      omega
    | some b =>
      rw [digN_take h, digS, Int.pow_succ]
      split
      · omega
      · omega
theorem digN_small {l : List UInt8} (h : l.length ≤ 17) (k : Nat) : 0 ≤ digN (l.take k) ∧ digN (l.take k) ≤ 100000000000000000 := by
  have key : ∀ j, j ≤ 17 → 0 ≤ digN (l.take j) ∧ digN (l.take j) ≤ 100000000000000000 := by
    intro j hj
    have h1 := digN_bd l j
    have h2 : (10 : Int) ^ j ≤ 10 ^ 17 := by
      have : (10 ^ j : Nat) ≤ 10 ^ 17 := Nat.pow_le_pow_right (by omega) hj
      have := Int.ofNat_le.2 this
      simpa using this
    omega
  rcases Nat.lt_or_ge 17 k with hk | hk
  · have : l.take k = l.take 17 := by rw [List.take_of_length_le (by omega), List.take_of_length_le h]
    rw [this]; exact key 17 (Nat.le_refl _)
  · exact key k hk
theorem digit_toNat (q : Nat) (h : q < 10) : (UInt8.ofNat (48 + q)).toNat = 48 + q := digit_byte q h
theorem dec_fold (u : Nat) : (Lib.decDigits u).foldl digS 0 = (u : Int) := by
  induction u using Nat.strongRecOn with
  | ind u ih =>
    rw [Lib.decDigits]
    split
    · rename_i h
      simp only [List.foldl_cons, List.foldl_nil, digS]
      rw [digit_toNat u h, if_pos (by omega)]
      omega
    · rename_i h
      rw [List.foldl_append, ih (u / 10) (by omega)]
      simp only [List.foldl_cons, List.foldl_nil, digS]
      rw [digit_toNat (u % 10) (by omega), if_pos (by omega)]
      omega
theorem dec_pos (u : Nat) : 1 ≤ (Lib.decDigits u).length := by
  rw [Lib.decDigits]; split <;> simp
theorem dec_head : ∀ (u : Nat) (c : UInt8), (Lib.decDigits u)[0]? = some c → 48 ≤ c.toNat ∧ c.toNat ≤ 57 := by
  intro u
  induction u using Nat.strongRecOn with
  | ind u ih =>
    intro c hc
    rw [Lib.decDigits] at hc
    split at hc
    · rename_i h
      injection hc with hc
      rw [← hc, digit_toNat u h]; omega
    · rename_i h
      rw [List.getElem?_append_left (by have := dec_pos (u / 10); omega)] at hc
      exact ih (u / 10) (by omega) c hc
theorem itoa_nat {n : Int} (h : 0 ≤ n) : Lib.itoa n = Lib.decDigits n.toNat := by unfold Lib.itoa; rw [if_neg (by omega)]
theorem itoa_lt {n : Int} (h : n < 0) : Lib.itoa n = 45 :: Lib.decDigits n.natAbs := by unfold Lib.itoa; rw [if_pos h]
theorem nOf_itoa (n : Int) : nOf (Lib.itoa n) = n := by
  rcases Int.lt_or_le n 0 with h | h
  · rw [itoa_lt h]
    unfold nOf
    rw [if_pos (by simp)]
    have : digN (45 :: Lib.decDigits n.natAbs) = digN (Lib.decDigits n.natAbs) := by
      unfold digN; rw [List.foldl_cons]; rfl
    rw [this]
    unfold digN
    rw [dec_fold]; omega
  · rw [itoa_nat h]
    unfold nOf
    rw [if_neg (fun e => by have := dec_head _ _ e; simp at this)]
    unfold digN
    rw [dec_fold]; omega
theorem valF_itoa {n : Int} (h0 : -bigM ≤ n) (h1 : n ≤ bigM) : valF (Lib.itoa n) = some n := by
  unfold valF
  rw [nOf_itoa, if_pos ⟨h0, h1, rfl⟩]
theorem valF_some {l : List UInt8} {n : Int} (h : valF l = some n) : Lib.itoa n = l ∧ -bigM ≤ n ∧ n ≤ bigM := by
  unfold valF at h
  split at h
  · rename_i h2
    injection h with h
    subst h
    exact ⟨h2.2.2, h2.1, h2.2.1⟩
  · cases h
theorem itoa_len17 {n : Int} (h0 : -bigM ≤ n) (h1 : n ≤ bigM) : 1 ≤ (Lib.itoa n).length ∧ (Lib.itoa n).length ≤ 17 := by
  unfold bigM at *
  rcases Int.lt_or_le n 0 with h | h
  · rw [itoa_lt h]
    have := nDigits_le n.natAbs 16 (by omega) (by omega)
    simp only [List.length_cons]; omega
  · rw [itoa_nat h]
    have := nDigits_le n.toNat 16 (by omega) (by omega)
    have := dec_pos n.toNat
    omega
theorem valF_len {l : List UInt8} (h : l.length < 1 ∨ 17 < l.length) : valF l = none := by
  cases hv : valF l with
  | none => rfl
  | some n =>
    obtain ⟨h1, h2, h3⟩ := valF_some hv
    have := itoa_len17 h2 h3
    rw [h1] at this
    omega
theorem valF_yes {l : List UInt8} {n : Int} (h : Lib.itoa n = l) (h0 : -bigM ≤ n) (h1 : n ≤ bigM) : valF l = some n := h ▸ valF_itoa h0 h1
theorem valF_no {l : List UInt8} (h : ∀ n, -bigM ≤ n → n ≤ bigM → Lib.itoa n ≠ l) : valF l = none := by
  cases hv : valF l with
  | none => rfl
  | some n =>
    obtain ⟨h1, h2, h3⟩ := valF_some hv
    exact absurd h1 (h n h2 h3)
/-- The library's reader of numbers reads what Decimal writes. -/
theorem parse_dec : ∀ (u : Nat), u ≤ 1000000000000000000 → ∀ r : List UInt8, Lib.parseUint10 0 (Lib.decDigits u ++ r) = Lib.parseUint10 u r := by
  intro u
  induction u using Nat.strongRecOn with
  | ind u ih =>
    intro hu r
    rw [Lib.decDigits]
    split
    · rename_i h
      show Lib.parseUint10 0 (UInt8.ofNat (48 + u) :: r) = _
      rw [Lib.parseUint10, digit_toNat u h, if_pos (by omega), if_neg (by omega), if_neg (by omega)]
      congr 1; omega
    · rename_i h
      rw [List.append_assoc, ih (u / 10) (by omega) (by omega)]
      show Lib.parseUint10 (u / 10) (UInt8.ofNat (48 + u % 10) :: r) = _
      rw [Lib.parseUint10, digit_toNat (u % 10) (by omega), if_pos (by omega), if_neg (by omega), if_neg (by omega)]
      congr 1; omega
theorem parseB_dec {u : Nat} (hu : u ≤ 1000000000000000000) : Lib.parseUintB 64 (Lib.decDigits u) = .ok u := by
  rw [Lib.parseUintB_64]
  unfold Lib.parseMag
  rw [if_neg (by intro e; have := dec_pos u; rw [e] at this; simp at this)]
  have := parse_dec u hu []
  rw [List.append_nil] at this
  rw [this]; rfl
theorem parse_itoa {n : Int} (h0 : -bigM ≤ n) (h1 : n ≤ bigM) : Lib.parseIntB 64 (Lib.itoa n) = .ok n := by
  unfold bigM at *
  rcases Int.lt_or_le n 0 with h | h
  · rw [itoa_lt h, Lib.parseIntB_minus, parseB_dec (by omega)]
    simp only [Lib.signedC]
    rw [if_neg (by omega)]
    congr 1; omega
  · rw [itoa_nat h]
    cases hd : Lib.decDigits n.toNat with
    | nil => have := dec_pos n.toNat; rw [hd] at this; simp at this
    | cons c r =>
      have hc := dec_head n.toNat c (by rw [hd]; rfl)
      rw [Lib.parseIntB_plain 64 c r (by omega) (by omega), ← hd, parseB_dec (by omega)]
      simp only [Lib.signlessC]
      rw [if_neg (by omega)]
      congr 1; omega
end Go.Proofs.YtiimhpopcgiejaaDoor
