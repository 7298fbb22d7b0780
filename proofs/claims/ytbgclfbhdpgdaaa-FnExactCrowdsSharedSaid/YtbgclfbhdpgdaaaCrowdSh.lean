/-
  The totals of crowds at rest, crowd by crowd: both roads.
-/
import Derived.Test.YtbgclfbhdpgdaaaCrowdSM
import Derived.Test.YtbgclfbhdpgdaaaRestOf
import Derived.Test.YtbgclfbhdpgdaaaCrowdTot
import Derived.Test.YtbgclfbhdpgdaaaCrowdW
import Derived.Test.YtbgclfbhdpgdaaaWorst
import Derived.Deep.RegionHeld3
namespace Go.Proofs.Ytbgclfbhdpgdaaa
set_option linter.unusedVariables false
set_option linter.unusedSimpArgs false
open Go.RowKit

def restAll (c : Cr) : List Int := (restF c (List.replicate c.U.toNat 0)).1
def shOne (c : Cr) : Int := totalF c (restAll c)
def sharedC (cs : List Cr) (wk : Int) : Option (List Int) := if decide (cs.length ≤ 8) && inB wk 1 8 && cs.all validB then some (cs.map shOne) else none
theorem canB_of {c : Cr} {ch : List Int} (h : Can c ch) (hv : validB c = true) : canB c ch = true := by
  unfold canB
  rw [hv, Bool.true_and, manyB_iff]
  refine ⟨by have := h.len; omega, fun x hx => ?_⟩
  obtain ⟨i, hi, rfl⟩ := List.getElem_of_mem hx
  have := h.mem _ (List.getElem_mem hi)
  omega
theorem zeros_can {c : Cr} (hv : Valid c) : Can c (List.replicate c.U.toNat 0) := can_chAt hv (t := 0) (zero_lt hv)
theorem run_make_ints (w : World) (N : Nat) (hN : N ≤ 1048576) : (Instr.makeSlice 22 (.int .i64 N) (.int .i64 N)).run Try.prog w = .ok (.slice (some ⟨w.heap.size, 0, none⟩) N N) (w.alloc (.cells (ints (List.replicate N 0)).toArray 2)) := by
  obtain ⟨i, h2, h3, h4, h5⟩ := info_parts info_i64p
  have hr := run_make (P := Try.prog) w 22 2 i (.int .i64 0) Try.underlying22 h2 h3 .i64 .i64 N N (by omega) (Int.le_refl _) (by rw [h5]; omega) (by omega)
  simp only [Int.toNat_natCast, h4, Nat.mul_one] at hr
  have e1 : madeCells #[Value.int .i64 0] N = (ints (List.replicate N 0)).toArray := by rw [← ints_replicate, ← toList_madeCells_one (.int .i64 0) N]
  rw [hr]
  show Result.ok _ (w.alloc (.cells (madeCells #[Value.int .i64 0] N) 2)) = _
  rw [e1]
end Go.Proofs.Ytbgclfbhdpgdaaa
