/-
  Floats that are told: 0 and 0.25, and the law's marks on two of them.
-/
import Derived.Test.YtdmeegfdmdbkiaaLawInts
import Derived.Laws.FloatArith
import Derived.WalkLawsBesides
namespace Go.Proofs.Ytdmeegfdmdbkiaa
set_option linter.unusedVariables false
set_option linter.unusedSimpArgs false
open Go.RowKit

def flts (xs : List Nat) : List Value := xs.map fun x => Value.float .f32 x
theorem run_store_float (P : Program) (w : World) (a : Addr) (m : Mode) (k : FloatKind) (b : Nat) : (store a (.float k b) m).run P w = stored P w a (.float k b) m := run_store P w a _ m rfl
attribute [local go_sem] run_store_float
set_option maxRecDepth 10000 in
set_option maxHeartbeats 4000000 in
theorem sameFloat_zero (w : World) :
    Calls Try.prog 52 #[.float .f64 0, .float .f64 0] w fun e w' => e = .returned (.bool true) ∧ w = w' := by
  have hq : ∀ v : World, (binOp BinOp.quo 76 (.float .f64 4607182418800017408) (.float .f64 0)).run Try.prog v = .ok (.float .f64 9218868437227405312) v := fun v => run_float_arith _ _ _ _ _ _ _ (by kernel_rfl)
  go_enter Try.func52, Try.ntmps52
  go_wp2_with fail
  go_ret
  exact ⟨rfl, rfl⟩
set_option maxRecDepth 10000 in
set_option maxHeartbeats 4000000 in
theorem sameFloat_quarter (w : World) :
    Calls Try.prog 52 #[.float .f64 4598175219545276416, .float .f64 4598175219545276416] w fun e w' => e = .returned (.bool true) ∧ w = w' := by
  go_enter Try.func52, Try.ntmps52
  go_wp2_with fail
  go_ret
  exact ⟨rfl, rfl⟩
set_option maxRecDepth 10000 in
set_option maxHeartbeats 4000000 in
theorem lawEq_F2 (w : World) (g h : Nat) (t s : TypeId) (hg : Blk w g (flts [0, 1048576000]) t) (hh : Blk w h (flts [0, 1048576000]) s) :
    Calls Try.prog 20 #[.slice (some ⟨g, 0, none⟩) 2 2, .slice (some ⟨h, 0, none⟩) 2 2] w fun e w' => e = .returned (.bool true) ∧ Below w.heap.size w w' := by
  have c0 : ∀ v : World, (convert 46 76 (.float .f32 0)).run Try.prog v = .ok (.float .f64 0) v := fun v => run_convert_float_float _ _ _ _ _ _ _ (by kernel_rfl) Try.underlying76 (by kernel_rfl)
  have c1 : ∀ v : World, (convert 46 76 (.float .f32 1048576000)).run Try.prog v = .ok (.float .f64 4598175219545276416) v := fun v => run_convert_float_float _ _ _ _ _ _ _ (by kernel_rfl) Try.underlying76 (by kernel_rfl)
  have a0 := hg.cell 0
  have a1 := hg.cell 1
  have b0 := hh.cell 0
  have b1 := hh.cell 1
  simp only [flts, List.map_cons, List.map_nil, List.getElem?_cons_zero, List.getElem?_cons_succ] at a0 a1 b0 b1
  clear hg hh
  go_enter Try.func20, Try.ntmps20
  go_wp2_with fail
  refine wp_loop_rounds 3 ?_
  rw [rounds_succ]
  go_wp2_with fail
  go_quiet (first | (go_at_call 52; exact qs1 (sameFloat_zero _)) | (go_at_call 52; exact qs1 (sameFloat_quarter _)))
  go_wp2_with fail

  rw [rounds_succ]
  go_wp2_with fail
  go_quiet ((go_at_call 52; exact qs2 (sameFloat_quarter _)))
  go_wp2_with fail
  rw [rounds_succ]
  go_wp2_with fail
  go_ret
  exact ⟨rfl, by first | exact below_drewN (Below.refl _ _) _ | exact below_drewN (below_drewN (Below.refl _ _) _) _⟩
theorem touch_set (w : World) (g j : Nat) (u : Value) : Touch w (w.setCell ⟨g, j, none⟩ u) g (g + 1) :=
  Touch.of_grown (g := g) (show w.grownBy (w.setCell ⟨g, j, none⟩ u) (some g) from ⟨rfl, rfl, rfl, by simp, fun i _ hi => Below.heap_setCell _ _ _ _ (fun e => hi (by simp [e]))⟩) (Nat.le_refl _) (Nat.lt_succ_self _)
def mk2 (a b : Int) : List Nat := [floatOfInt .f32 a, floatOfInt .f32 b]
set_option maxRecDepth 10000 in
set_option maxHeartbeats 4000000 in
theorem lawMark_F2 (w : World) (g : Nat) (x y : Nat) (t : TypeId) (k : Int) (k0 : 0 ≤ k) (k1 : k ≤ 1000000) (hg : Blk w g (flts [x, y]) t) :
    Calls Try.prog 24 #[.slice (some ⟨g, 0, none⟩) 2 2, .int .i64 k] w fun e w' => e = .returned (.int .i64 (k + 2)) ∧ Blk w' g (flts (mk2 k (k + 1))) t ∧ Touch w w' g (g + 1) := by
  have a0 := hg.cell 0
  have a1 := hg.cell 1
  have f0 := hg.free 0
  have f1 := hg.free 1
  have e1 : IntKind.i64.wrap (k + 1) = k + 1 := IntWalk.i64_in _ (by omega)
  have e2 : IntKind.i64.wrap (k + 1 + 1) = k + 2 := by rw [IntWalk.i64_in _ (by omega)]; omega
  simp only [flts, List.map_cons, List.map_nil, List.getElem?_cons_zero, List.getElem?_cons_succ] at a0 a1
  have b1 := (hg.set 0 (.float .f32 (floatOfInt .f32 k)))
  have HB := Lib.hid (b1.set 1 (.float .f32 (floatOfInt .f32 (k + 1))))
  have c1 := b1.cell 1
  have c1f := b1.free 1
  simp only [flts, List.map_cons, List.map_nil, List.set_cons_zero, List.set_cons_succ, List.getElem?_cons_zero, List.getElem?_cons_succ] at c1
  clear hg b1
  go_enter Try.func24, Try.ntmps24
  go_wp2_with fail
  refine wp_loop_rounds 3 ?_
  rw [rounds_succ]
  go_wp2_with fail
  rw [rounds_succ]
  go_wp2_with fail
  rw [rounds_succ]
  go_wp2_with fail
  go_ret
  refine ⟨rfl, HB.out, ?_⟩
  exact (touch_set w g 0 _).trans (touch_set _ g 1 _)
set_option maxRecDepth 10000 in
set_option maxHeartbeats 4000000 in
theorem lawHeld_F2 (w : World) (g : Nat) (t : TypeId) (hg : Blk w g (flts (mk2 19 20)) t) :
    Calls Try.prog 28 #[.slice (some ⟨g, 0, none⟩) 2 2, .int .i64 19] w fun e w' => e = .returned (.int .i64 21) ∧ w = w' := by
  have a0 := hg.cell 0
  have a1 := hg.cell 1
  have o0 : FloatKind.f32.format.order (floatOfInt .f32 19) (floatOfInt .f32 19) = some .eq := by kernel_rfl
  have o1 : FloatKind.f32.format.order (floatOfInt .f32 20) (floatOfInt .f32 20) = some .eq := by kernel_rfl
  simp only [flts, mk2, List.map_cons, List.map_nil, List.getElem?_cons_zero, List.getElem?_cons_succ] at a0 a1
  clear hg
  go_enter Try.func28, Try.ntmps28
  go_wp2_with fail
  refine wp_loop_rounds 3 ?_
  rw [rounds_succ]
  go_wp2_with fail
  rw [rounds_succ]
  go_wp2_with fail
  rw [rounds_succ]
  go_wp2_with fail
  go_ret
  exact ⟨rfl, rfl⟩
end Go.Proofs.Ytdmeegfdmdbkiaa
