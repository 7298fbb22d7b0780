/-
  The law's count of a list of floats.
-/
import Derived.Test.YtdmeegfdmdbkiaaFltT
namespace Go.Proofs.Ytdmeegfdmdbkiaa
set_option linter.unusedVariables false
set_option linter.unusedSimpArgs false
open Go.RowKit

theorem lawSz_F (w : World) (a : Option Addr) (n c : Nat) (left : Int) (h0 : 0 ≤ left) (h1 : left ≤ 1048576) (hn : n ≤ 9223372036854775807) :
    Calls Try.prog 32 #[.slice a n c, .int .i64 left] w fun e w' => e = .returned (.int .i64 (szF left n)) ∧ w = w' := by
  by_cases h : left < n
  · have hf : szF left n = -1 := if_pos h
    have hf' := Lib.hid hf
    clear hf
    go_enter Try.func32, Try.ntmps32
    go_wp2
    go_ret
    exact ⟨ret_int hf'.out.symm, rfl⟩
  · have hf : szF left n = left - n := if_neg h
    have hf' := Lib.hid hf
    clear hf
    go_enter Try.func32, Try.ntmps32
    go_wp2
    go_ret
    exact ⟨ret_int hf'.out.symm, rfl⟩
end Go.Proofs.Ytdmeegfdmdbkiaa
