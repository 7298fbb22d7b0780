/-
  The desk's turns: the reference's test.
-/
import Derived.Test.YtdmeegfdmdbkiaaFltS
namespace Go.Proofs.Ytdmeegfdmdbkiaa
set_option linter.unusedVariables false
set_option linter.unusedSimpArgs false
open Go.RowKit

def turnsB (xs : List Nat) : Bool := decide (1 ≤ xs.length) && decide (xs.length ≤ 16) && finAll xs
set_option maxRecDepth 10000 in
set_option maxHeartbeats 4000000 in
theorem l08Turns_any (w : World) (a : Option Addr) (c : Nat) (xs : List Nat) (h : Rd w w.heap.size a (flts xs)) (hl : xs.length ≤ 1048576) :
    Calls Try.prog 64 #[.slice a xs.length c] w fun e w' => e = .returned (.bool (turnsB xs)) ∧ Below w.heap.size w w' := by
  have L := Lib.hid (l02Finite_any w a c xs h hl)
  clear h
  by_cases h1 : 1 ≤ xs.length
  · have h1' : (1 : Int) ≤ (xs.length : Int) := by omega
    by_cases h2 : xs.length ≤ 16
    · have h2' : (xs.length : Int) ≤ 16 := by omega
      have HF : Hid (turnsB xs = finAll xs) := by simp [Hid, turnsB, h1, h2]
      clear h1 h2
      go_enter Try.func64, Try.ntmps64
      go_wp2_with fail
      refine L.out.mono ?_
      rintro e w1 ⟨rfl, hb⟩
      go_wp2_with fail
      go_ret
      exact ⟨ret_bool HF.out.symm, hb⟩
    · have h2' : ¬ (xs.length : Int) ≤ 16 := by omega
      have HF : Hid (turnsB xs = false) := by simp [Hid, turnsB, h1, h2]
      clear h1 h2
      go_enter Try.func64, Try.ntmps64
      go_wp2_with fail
      go_ret
      exact ⟨ret_bool HF.out.symm, Below.refl _ _⟩
  · have h1' : ¬ (1 : Int) ≤ (xs.length : Int) := by omega
    have HF : Hid (turnsB xs = false) := by simp [Hid, turnsB, h1]
    clear h1
    go_enter Try.func64, Try.ntmps64
    go_wp2_with fail
    go_ret
    exact ⟨ret_bool HF.out.symm, Below.refl _ _⟩
end Go.Proofs.Ytdmeegfdmdbkiaa
