/-
  SchoolBlock: the closure that seeks a rival: the program's road.
-/
import Derived.Test.YtdipckpcmnhpjaaMatQ
import Derived.Test.YtdipckpcmnhpjaaMatO
namespace Go.Proofs.Ytdipckpcmnhpjaa
set_option linter.unusedVariables false
set_option linter.unusedSimpArgs false
open Go.RowKit

set_option maxRecDepth 10000 in
set_option maxHeartbeats 4000000 in
theorem rival_any (w : World) (bw bk bi : Nat) (a1 : Option Addr) (c1 : Nat) (x1 : List (List Int)) (i k : Nat) (j : Int)
    (d1 : w.cell? ⟨bw, 1, none⟩ = some (.slice a1 x1.length c1)) (dk : w.cell? ⟨bk, 0, none⟩ = some (.int .i64 k)) (di : w.cell? ⟨bi, 0, none⟩ = some (.int .i64 i)) (hbw : bw < w.heap.size) (hbk : bk < w.heap.size) (hbi : bi < w.heap.size)
    (h : RdII w w.heap.size a1 x1) (hin1 : ∀ y ∈ x1, y.length ≤ 1048576) (hk : k < x1.length) :
    Calls Try.prog 74 #[.int .i64 j, .pointer (some ⟨bw, 0, none⟩), .pointer (some ⟨bk, 0, none⟩), .pointer (some ⟨bi, 0, none⟩)] w fun e w' => e = .returned (.bool (dearI (row x1 k) i j)) ∧ Below w.heap.size w w' := by
  obtain ⟨b3, o3, zs, a3, c3, e3, hb3, d3, _, hr3, hy3⟩ := h.get hk
  subst e3
  rw [row_get hy3.out]
  have LD : Hid (∀ w', Below w.heap.size w w' → _) := fun w' hb => dearer_any w' a3 c3 zs i j (hr3.to hb) (hin1 zs (List.mem_of_getElem? hy3.out))
  have F1 : ∀ z : Later w, z.w'.cell? ⟨bw, 1, none⟩ = some (.slice (some ⟨b3, o3, none⟩) x1.length c1) := fun z => z.cell hbw d1
  have F2 : ∀ z : Later w, z.w'.cell? ⟨bk, 0, none⟩ = some (.int .i64 k) := fun z => z.cell hbk dk
  have F3 : ∀ z : Later w, z.w'.cell? ⟨bi, 0, none⟩ = some (.int .i64 i) := fun z => z.cell hbi di
  have F4 : ∀ z : Later w, z.w'.cell? ⟨b3, o3 + k, none⟩ = some (.slice a3 zs.length c3) := fun z => z.cell hb3 d3
  have k0 : (0 : Int) ≤ (k : Int) := Int.natCast_nonneg _
  have k1 : (k : Int) < (x1.length : Int) := by omega
  generalize dearI zs i j = r at *
  clear h hr3 hy3 hin1 d1 dk di d3
  go_enter Try.func74, Try.ntmps74
  go_wp2_with fail
  refine wp_region_later (by kernel_rfl) (by kernel_rfl) ?_
  repeat (go_big_quiet_step ((go_at_call 72; exact later_same (LD.out _ (Later.h _)))))
  refine wpQuiet_nil ?_
  rintro wq ⟨⟨_, hbq⟩, rfl⟩
  clear F1 F2 F3 F4
  go_wp2_with fail
  go_ret
  exact ⟨rfl, hbq⟩
end Go.Proofs.Ytdipckpcmnhpjaa
