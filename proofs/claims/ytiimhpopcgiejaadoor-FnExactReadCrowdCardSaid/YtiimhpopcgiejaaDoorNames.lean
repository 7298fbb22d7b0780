/-
  Names and check numbers of texts: both roads.
-/
import Derived.Test.YtiimhpopcgiejaaDoorStr
import Derived.Test.YtiimhpopcgiejaaDoorBase
namespace Go.Proofs.YtiimhpopcgiejaaDoor
set_option linter.unusedVariables false
set_option linter.unusedSimpArgs false
open Go.RowKit

def lowB (b : UInt8) : Bool := !(decide ((b.toNat : Int) < 97)) && !(decide (122 < (b.toNat : Int)))
/-- One to eight small letters. -/
def nameB (s : ByteArray) : Bool := s.data.toList.all lowB && (decide ((1 : Int) ≤ (s.size : Int)) && decide ((s.size : Int) ≤ 8))
theorem get_byte (s : ByteArray) (k : Nat) (hk : k < s.size) : s.data.toList[k]? = some s[k] := by
  have hk2 : k < s.data.toList.length := by rw [← Lib.size_eq]; exact hk
  rw [List.getElem?_eq_getElem hk2]; rfl
theorem all_take_byte {s : ByteArray} {k : Nat} (hk : k < s.size) (h : (s.data.toList.take k).all lowB = true) (h2 : lowB s[k] = true) : (s.data.toList.take (k + 1)).all lowB = true := by
  rw [List.take_add_one, get_byte s k hk]; simp [h2] at *; exact h
theorem all_no_byte {s : ByteArray} {k : Nat} (hk : k < s.size) (h2 : lowB s[k] = false) : nameB s = false := by
  have : s.data.toList.all lowB = false := by
    rw [List.all_eq_false]
    exact ⟨s[k], List.mem_of_getElem? (get_byte s k hk), by rw [h2]; simp⟩
  simp [nameB, this]
theorem name_end {s : ByteArray} (h : (s.data.toList.take s.size).all lowB = true) : nameB s = (decide ((1 : Int) ≤ (s.size : Int)) && decide ((s.size : Int) ≤ 8)) := by
  rw [Lib.size_eq, List.take_length] at h
  simp [nameB, h]
/-- The check number of bytes behind a number. -/
def chkF (n : Int) : List UInt8 → Int
  | [] => n
  | b :: l => chkF ((937 * n + (b.toNat : Int) + 197) % 65003) l
theorem chkF_snoc (b : UInt8) : ∀ (l : List UInt8) (n : Int), chkF n (l ++ [b]) = (937 * chkF n l + (b.toNat : Int) + 197) % 65003
  | [], _ => rfl
  | c :: l, n => by simp only [List.cons_append, chkF]; exact chkF_snoc b l _
theorem chkF_append : ∀ (l m : List UInt8) (n : Int), chkF n (l ++ m) = chkF (chkF n l) m
  | [], _, _ => rfl
  | c :: l, m, n => by simp only [List.cons_append, chkF]; exact chkF_append l m _
theorem chkF_bd : ∀ (l : List UInt8) (n : Int), 0 ≤ n → n ≤ 65002 → 0 ≤ chkF n l ∧ chkF n l ≤ 65002
  | [], _, h0, h1 => ⟨h0, h1⟩
  | b :: l, n, h0, h1 => by
    have := b.toNat_lt
    exact chkF_bd l _ (Int.emod_nonneg _ (by omega)) (by have := Int.emod_lt_of_pos (937 * n + (b.toNat : Int) + 197) (show (0 : Int) < 65003 by omega); omega)
theorem chkF_take {s : ByteArray} {k : Nat} (hk : k < s.size) (n : Int) : chkF n (s.data.toList.take (k + 1)) = (937 * chkF n (s.data.toList.take k) + (s[k].toNat : Int) + 197) % 65003 := by
  rw [List.take_add_one, get_byte s k hk]; exact chkF_snoc _ _ _
set_option maxHeartbeats 2000000 in
theorem checkOf_any (n : Int) (n0 : 0 ≤ n) (n1 : n ≤ 65002) (s : ByteArray) (hs : s.size ≤ 1099511627776) (w : World) :
    Calls Tryd.prog 34 #[.int .i64 n, .string s] w fun e w' => e = .returned (.tuple #[.int .i64 (chkF n s.data.toList), .bool true]) ∧ w = w' := by
  have L := Lib.hid (within_any n 0 65002 w)
  rw [inB_iff.2 ⟨n0, n1⟩] at L
  have HT : Hid (∀ k (hk : k < s.size), chkF n (s.data.toList.take (k + 1)) = (937 * chkF n (s.data.toList.take k) + (s[k].toNat : Int) + 197) % 65003) := fun k hk => chkF_take hk n
  have HB : Hid (∀ k, 0 ≤ chkF n (s.data.toList.take k) ∧ chkF n (s.data.toList.take k) ≤ 65002) := fun k => chkF_bd _ _ n0 n1
  have HE : Hid (chkF n s.data.toList = chkF n (s.data.toList.take s.size)) := by rw [Hid, Lib.size_eq, List.take_length]
  have hz : chkF n (s.data.toList.take 0) = n := rfl
  go_enter Tryd.func34, Tryd.ntmps34
  go_wp2_with fail
  refine L.out.mono ?_
  rintro e w' ⟨rfl, rfl⟩
  go_wp2_with fail
  go_loop [0, 12] (fun cv iv => ∃ k : Nat, k ≤ s.size ∧ iv = .int .i64 k ∧ cv = .int .i64 (chkF n (s.data.toList.take k))) (fun _ iv => s.size - (intOf iv).toNat)
  case atStart => exact ⟨0, Nat.zero_le _, rfl, by rw [hz]⟩
  case round =>
    clear hz
    obtain ⟨k, hk, rfl, rfl⟩ := hrel
    by_cases hlt : k < s.size
    · have hks : (k : Int) < (s.size : Int) := by omega
      have k0 : (0 : Int) ≤ (k : Int) := Int.natCast_nonneg _
      have hb := s[k].toNat_lt
      obtain ⟨c0, c1⟩ := HB.out k
      have HTk := Lib.hid (HT.out k hlt)
      generalize chkF n (s.data.toList.take k) = x at *
      go_wp2_with fail
      go_round
      case rel => exact ⟨k + 1, by omega, by go_num, by rw [HTk.out]⟩
      case measure => first | (simp [intOf]; done) | (simp [intOf]; omega)
    · have : k = s.size := by omega
      subst this
      go_wp2_with fail
      go_ret2
      exact ⟨by rw [HE.out]; rfl, rfl⟩
set_option maxHeartbeats 2000000 in
theorem l01Check_any (n : Int) (n0 : 0 ≤ n) (n1 : n ≤ 65002) (s : ByteArray) (hs : s.size ≤ 1099511627776) (w : World) :
    Calls Tryd.prog 52 #[.int .i64 n, .string s] w fun e w' => e = .returned (.int .i64 (chkF n s.data.toList)) ∧ w = w' := by
  have HT : Hid (∀ k (hk : k < s.size), chkF n (s.data.toList.take (k + 1)) = (937 * chkF n (s.data.toList.take k) + (s[k].toNat : Int) + 197) % 65003) := fun k hk => chkF_take hk n
  have HB : Hid (∀ k, 0 ≤ chkF n (s.data.toList.take k) ∧ chkF n (s.data.toList.take k) ≤ 65002) := fun k => chkF_bd _ _ n0 n1
  have HE : Hid (chkF n s.data.toList = chkF n (s.data.toList.take s.size)) := by rw [Hid, Lib.size_eq, List.take_length]
  have hz : chkF n (s.data.toList.take 0) = n := rfl
  go_enter Tryd.func52, Tryd.ntmps52
  go_wp2_with fail
  go_loop [0, 5] (fun cv iv => ∃ k : Nat, k ≤ s.size ∧ iv = .int .i64 k ∧ cv = .int .i64 (chkF n (s.data.toList.take k))) (fun _ iv => s.size - (intOf iv).toNat)
  case atStart => exact ⟨0, Nat.zero_le _, rfl, by rw [hz]⟩
  case round =>
    clear hz
    obtain ⟨k, hk, rfl, rfl⟩ := hrel
    by_cases hlt : k < s.size
    · have hks : (k : Int) < (s.size : Int) := by omega
      have k0 : (0 : Int) ≤ (k : Int) := Int.natCast_nonneg _
      have hb := s[k].toNat_lt
      obtain ⟨c0, c1⟩ := HB.out k
      have HTk := Lib.hid (HT.out k hlt)
      generalize chkF n (s.data.toList.take k) = x at *
      go_wp2_with fail
      go_round
      case rel => exact ⟨k + 1, by omega, by go_num, by rw [HTk.out]⟩
      case measure => first | (simp [intOf]; done) | (simp [intOf]; omega)
    · have : k = s.size := by omega
      subst this
      go_wp2_with fail
      go_ret
      exact ⟨ret_int HE.out.symm, rfl⟩
end Go.Proofs.YtiimhpopcgiejaaDoor
