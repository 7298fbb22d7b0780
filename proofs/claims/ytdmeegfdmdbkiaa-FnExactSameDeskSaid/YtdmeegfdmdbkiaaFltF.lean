/-
  Is a float finite: both roads.
-/
import Derived.Test.YtdmeegfdmdbkiaaFltT
namespace Go.Proofs.Ytdmeegfdmdbkiaa
set_option linter.unusedVariables false
set_option linter.unusedSimpArgs false
open Go.RowKit Ieee

/-- x - x is a zero. -/
def finB (x : Nat) : Bool := match floatBits .sub .f32 x x with
  | some r => FloatKind.f32.format.order r 0 == some .eq
  | none => false
/-- The NaN that x - x is. -/
def nanSub (x : Nat) (w : World) : Nat := Question.cut (.nanBits .f32 x x) (w.tape w.drawn (.nanBits .f32 x x))
theorem nanSub_order (x b : Nat) (w : World) : FloatKind.f32.format.order (nanSub x w) b = none := by
  refine order_nan ?_
  have hsw : single.signWeight = 2147483648 := by decide
  have hbi : single.binade = 8388608 := by decide
  have hin : single.infRung = 2139095040 := by decide
  have hlp : single.leastPlace = -149 := by decide
  obtain ⟨t, ht⟩ : ∃ t, t = w.tape w.drawn (.nanBits .f32 x x) := ⟨_, rfl⟩
  have e : nanSub x w = (t % 2) * 2147483648 + 2139095040 + 1 + (t / 2) % 8388607 := by
    unfold nanSub; rw [← ht]; rfl
  show ∃ n f, single.read (nanSub x w) = .nan n f
  obtain ⟨q, hq⟩ : ∃ q, q = (t / 2) % 8388607 := ⟨_, rfl⟩
  have hq2 : q < 8388607 := by rw [hq]; exact Nat.mod_lt _ (by omega)
  rw [← hq] at e
  have e2 : nanSub x w % 2147483648 = 2139095040 + 1 + q := by
    rcases Nat.mod_two_eq_zero_or_one t with h | h
    · rw [e, h]; omega
    · rw [e, h]; omega
  unfold Format.read
  simp only [hsw, hbi, hin, hlp, e2]
  rw [if_neg (by omega), if_neg (by omega), if_neg (by omega)]
  exact ⟨_, _, rfl⟩
theorem run_sub_nan {x : Nat} (h : floatBits .sub .f32 x x = none) (t : TypeId) (w : World) : (binOp BinOp.sub t (.float .f32 x) (.float .f32 x)).run Try.prog w = .ok (.float .f32 (nanSub x w)) w.drew := by
  have h' : FloatKind.f32.format.sub x x = none := h
  simp [binOp, Op.floatArith, h', nanSub, Question.forced]
set_option maxRecDepth 10000 in
set_option maxHeartbeats 4000000 in
theorem isFinite_any (w : World) (x : Nat) :
    Calls Try.prog 72 #[.float .f32 x] w fun e w' => e = .returned (.bool (finB x)) ∧ ∃ n, w' = w.drewN n := by
  cases hs : floatBits .sub .f32 x x with
  | none =>
    have hc := fun v : World => run_sub_nan hs 46 v
    have ho := fun v : World => nanSub_order x 0 v
    have HF : Hid (finB x = false) := by simp [Hid, finB, hs]
    clear hs
    go_enter Try.func72, Try.ntmps72
    go_wp2_with fail
    go_ret
    exact ⟨ret_bool HF.out.symm, 1, rfl⟩
  | some r =>
    have hc : ∀ v : World, (binOp BinOp.sub 46 (.float .f32 x) (.float .f32 x)).run Try.prog v = .ok (.float .f32 r) v := fun v => run_float_arith v _ _ _ _ _ _ hs
    have HF : Hid (finB x = (FloatKind.f32.format.order r 0 == some .eq)) := by simp [Hid, finB, hs]
    clear hs
    go_enter Try.func72, Try.ntmps72
    go_wp2_with fail
    go_ret
    exact ⟨ret_bool HF.out.symm, 0, rfl⟩
set_option maxRecDepth 10000 in
set_option maxHeartbeats 4000000 in
theorem l01Finite_any (w : World) (x : Nat) :
    Calls Try.prog 82 #[.float .f32 x] w fun e w' => e = .returned (.bool (finB x)) ∧ ∃ n, w' = w.drewN n := by
  cases hs : floatBits .sub .f32 x x with
  | none =>
    have hc := fun v : World => run_sub_nan hs 46 v
    have ho := fun v : World => nanSub_order x 0 v
    have HF : Hid (finB x = false) := by simp [Hid, finB, hs]
    clear hs
    go_enter Try.func82, Try.ntmps82
    go_wp2_with fail
    go_ret
    exact ⟨ret_bool HF.out.symm, 1, rfl⟩
  | some r =>
    have hc : ∀ v : World, (binOp BinOp.sub 46 (.float .f32 x) (.float .f32 x)).run Try.prog v = .ok (.float .f32 r) v := fun v => run_float_arith v _ _ _ _ _ _ hs
    have HF : Hid (finB x = (FloatKind.f32.format.order r 0 == some .eq)) := by simp [Hid, finB, hs]
    clear hs
    go_enter Try.func82, Try.ntmps82
    go_wp2_with fail
    go_ret
    exact ⟨ret_bool HF.out.symm, 0, rfl⟩
end Go.Proofs.Ytdmeegfdmdbkiaa
