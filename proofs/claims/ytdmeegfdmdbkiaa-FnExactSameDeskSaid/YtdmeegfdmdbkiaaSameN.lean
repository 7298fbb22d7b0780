/-
  Are two numbers the same: both roads.
-/
import Derived.Test.YtdmeegfdmdbkiaaFltE
import Derived.Test.YtdmeegfdmdbkiaaFltS
import Derived.Laws.Externs
namespace Go.Proofs.Ytdmeegfdmdbkiaa
set_option linter.unusedVariables false
set_option linter.unusedSimpArgs false
open Go.RowKit Ieee

def nanF (x : Nat) : Bool := FloatKind.f32.format.order x x != some .eq
/-- The bits of a number; of any NaN, the same. -/
def bitsF (x : Nat) : Int := if nanF x then 2143289344 else x
def sameN (x y : Nat) : Bool := bitsF x == bitsF y
theorem nanF_iff {x : Nat} : nanF x = true ↔ ∃ n f, single.read x = .nan n f := by
  have e : FloatKind.f32.format.order x x = single.order x x := rfl
  unfold nanF
  rw [e]
  rcases order_self (single.read x) with h | h
  · exact ⟨fun _ => h, fun _ => by rw [nan_order.1 h]; rfl⟩
  · have h' : single.order x x = some .eq := h
    rw [h']
    constructor
    · intro h2; simp at h2
    · intro h2; rw [nan_order.1 h2] at h'; cases h'
theorem nanF_no {x : Nat} (h : nanF x = false) : ¬ ∃ n f, single.read x = .nan n f := fun h2 => by rw [nanF_iff.2 h2] at h; cases h
theorem bits_word : nanF 2143289344 = true := by decide +kernel
theorem bits32 (b : Nat) (w : World) : (callFunc 81 #[.float .f32 b]).run Try.prog w = .ok (.value (.int .u32 b)) w := by
  rw [run_callFunc_extern (P := Try.prog) (e := Extern.MathFloatBits.float32bits) Try.func81 (by kernel_rfl) (by kernel_rfl) (by kernel_rfl) (by kernel_rfl)]
  rfl
theorem bits64 (b : Nat) (w : World) : (callFunc 74 #[.float .f64 b]).run Try.prog w = .ok (.value (.int .u64 b)) w := by
  rw [run_callFunc_extern (P := Try.prog) (e := Extern.MathFloatBits.float64bits) Try.func74 (by kernel_rfl) (by kernel_rfl) (by kernel_rfl) (by kernel_rfl)]
  rfl
theorem signbit_any (r : Nat) (hr : r < 18446744073709551616) (w : World) : Calls Try.prog 60 #[.float .f64 r] w fun e w' => e = .returned (.bool (decide (9223372036854775808 ≤ r))) ∧ w = w' := by
  have hd := fun v => bits64 r v
  by_cases h : 9223372036854775808 ≤ r
  · have hw : IntKind.i64.wrap (r : Int) = (r : Int) - 18446744073709551616 := by
      have e : (r : Int) % 2 ^ 64 = r := by omega
      simp only [IntKind.wrap, IntKind.bits, IntKind.signed, e]
      rw [if_pos (by simp; omega)]; omega
    have HF : Hid (decide ((r : Int) - 18446744073709551616 < 0) = decide (9223372036854775808 ≤ r)) := by
      show _ = _
      rw [decide_eq_true h, decide_eq_true (by omega)]
    clear h
    go_enter Try.func60, Try.ntmps60
    go_wp2_with fail
    go_ret
    exact ⟨ret_bool HF.out, rfl⟩
  · have hw : IntKind.i64.wrap (r : Int) = (r : Int) := by
      have e : (r : Int) % 2 ^ 64 = r := by omega
      simp only [IntKind.wrap, IntKind.bits, IntKind.signed, e]
      rw [if_neg (by simp; omega)]
    have HF : Hid (decide ((r : Int) < 0) = decide (9223372036854775808 ≤ r)) := by
      show _ = _
      rw [decide_eq_false h, decide_eq_false (by omega)]
    have h' : r < 9223372036854775808 := by omega
    clear h
    go_enter Try.func60, Try.ntmps60
    go_wp2_with fail
    go_ret
    exact ⟨ret_bool HF.out, rfl⟩
theorem l01Bits_any (x : Nat) (hx : x < 4294967296) (w : World) : Calls Try.prog 73 #[.float .f32 x] w fun e w' => e = .returned (.int .i64 (bitsF x)) ∧ w = w' := by
  have hd := fun v => bits32 x v
  cases h : nanF x with
  | true =>
    have ht : (FloatKind.f32.format.order x x != some .eq) = true := h
    have HF : Hid (bitsF x = 2143289344) := by simp [Hid, bitsF, h]
    clear h
    go_enter Try.func73, Try.ntmps73
    go_wp2_with fail
    go_ret
    exact ⟨ret_int HF.out.symm, rfl⟩
  | false =>
    have ht : (FloatKind.f32.format.order x x != some .eq) = false := h
    have HF : Hid (bitsF x = x) := by simp [Hid, bitsF, h]
    clear h
    go_enter Try.func73, Try.ntmps73
    go_wp2_with fail
    go_ret
    exact ⟨ret_int HF.out.symm, rfl⟩
theorem l01Same_any (x y : Nat) (hx : x < 4294967296) (hy : y < 4294967296) (w : World) : Calls Try.prog 57 #[.float .f32 x, .float .f32 y] w fun e w' => e = .returned (.bool (sameN x y)) ∧ w = w' := by
  have L1 := Lib.hid (l01Bits_any x hx w)
  have L2 := Lib.hid (l01Bits_any y hy w)
  go_enter Try.func57, Try.ntmps57
  go_wp2_with fail
  refine L1.out.mono ?_
  rintro e w1 ⟨rfl, rfl⟩
  go_wp2_with fail
  refine L2.out.mono ?_
  rintro e w1 ⟨rfl, rfl⟩
  go_wp2_with fail
  go_ret
  exact ⟨rfl, rfl⟩
set_option maxHeartbeats 4000000 in
theorem sameNumber_any (x y : Nat) (hx : x < 4294967296) (hy : y < 4294967296) (w : World) : Calls Try.prog 45 #[.float .f32 x, .float .f32 y] w fun e w' => e = .returned (.bool (sameN x y)) ∧ w = w' := by
  cases h : nanF x with
  | true =>
    have ht : (FloatKind.f32.format.order x x != some .eq) = true := h
    cases g : nanF y with
    | true =>
      have gt : (FloatKind.f32.format.order y y != some .eq) = true := g
      have HF : Hid (sameN x y = true) := by simp [Hid, sameN, bitsF, h, g]
      clear h g
      go_enter Try.func45, Try.ntmps45
      go_wp2_with fail
      go_ret
      exact ⟨ret_bool HF.out.symm, rfl⟩
    | false =>
      have gt : (FloatKind.f32.format.order y y != some .eq) = false := g
      have HF : Hid (sameN x y = false) := by
        show _ = _
        have : bitsF x = 2143289344 := by simp [bitsF, h]
        have e2 : bitsF y = y := by simp [bitsF, g]
        unfold sameN
        rw [this, e2, beq_eq_false_iff_ne]
        intro e
        have : y = 2143289344 := by omega
        rw [this, bits_word] at g; cases g
      clear h g
      go_enter Try.func45, Try.ntmps45
      go_wp2_with fail
      go_ret
      exact ⟨ret_bool HF.out.symm, rfl⟩
  | false =>
    have ht : (FloatKind.f32.format.order x x != some .eq) = false := h
    cases g : nanF y with
    | true =>
      have gt : (FloatKind.f32.format.order y y != some .eq) = true := g
      have HF : Hid (sameN x y = false) := by
        show _ = _
        have : bitsF y = 2143289344 := by simp [bitsF, g]
        have e2 : bitsF x = x := by simp [bitsF, h]
        unfold sameN
        rw [this, e2, beq_eq_false_iff_ne]
        intro e
        have : x = 2143289344 := by omega
        rw [this, bits_word] at h; cases h
      clear h g
      go_enter Try.func45, Try.ntmps45
      go_wp2_with fail
      go_ret
      exact ⟨ret_bool HF.out.symm, rfl⟩
    | false =>
      have gt : (FloatKind.f32.format.order y y != some .eq) = false := g
      have HS : Hid (sameN x y = decide (x = y)) := by
        show _ = _
        have e1 : bitsF x = x := by simp [bitsF, h]
        have e2 : bitsF y = y := by simp [bitsF, g]
        unfold sameN
        rw [e1, e2, Bool.eq_iff_iff, beq_iff_eq, decide_eq_true_iff]
        omega
      cases o : (FloatKind.f32.format.order x y == some .eq) with
      | false =>
        have HF : Hid (sameN x y = false) := by
          show _ = _
          rw [HS.out]
          refine decide_eq_false (not_eq_order (nanF_no h) ?_)
          intro e
          have e' : FloatKind.f32.format.order x y = some .eq := e
          rw [e'] at o; cases o
        clear h g
        go_enter Try.func45, Try.ntmps45
        go_wp2_with fail
        go_ret
        exact ⟨ret_bool HF.out.symm, rfl⟩
      | true =>
        have ho : single.order x y = some .eq := by
          have o' : FloatKind.f32.format.order x y = some .eq := by simpa using o
          exact o'
        obtain ⟨r, r1, r2, r3⟩ := wide_sign hx (nanF_no h)
        obtain ⟨s, s1, s2, s3⟩ := wide_sign hy (nanF_no g)
        have c1 : ∀ v : World, (convert 46 76 (.float .f32 x)).run Try.prog v = .ok (.float .f64 r) v := fun v => run_convert_float_float _ _ _ _ _ _ _ (by kernel_rfl) Try.underlying76 r1
        have c2 : ∀ v : World, (convert 46 76 (.float .f32 y)).run Try.prog v = .ok (.float .f64 s) v := fun v => run_convert_float_float _ _ _ _ _ _ _ (by kernel_rfl) Try.underlying76 s1
        have L1 := Lib.hid (signbit_any r r2 w)
        have L2 := Lib.hid (signbit_any s s2 w)
        have HF : Hid (sameN x y = (decide (9223372036854775808 ≤ r) == decide (9223372036854775808 ≤ s))) := by
          show _ = _
          rw [HS.out, Bool.eq_iff_iff, decide_eq_true_iff, beq_iff_eq, decide_eq_decide, r3, s3]
          constructor
          · rintro rfl; exact Iff.rfl
          · intro e
            exact single_eq hx hy ho (by omega)
        clear h g r1 s1 ho r3 s3
        generalize decide (9223372036854775808 ≤ r) = br at *
        generalize decide (9223372036854775808 ≤ s) = bs' at *
        go_enter Try.func45, Try.ntmps45
        go_wp2_with fail
        refine L1.out.mono ?_
        rintro e w1 ⟨rfl, rfl⟩
        go_wp2_with fail
        refine L2.out.mono ?_
        rintro e w1 ⟨rfl, rfl⟩
        go_wp2_with fail
        go_ret
        exact ⟨ret_bool HF.out.symm, rfl⟩
end Go.Proofs.Ytdmeegfdmdbkiaa
