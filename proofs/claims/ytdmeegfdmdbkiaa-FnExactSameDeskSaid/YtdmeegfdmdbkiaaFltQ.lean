/-
  Floats of any bits: what the law's helpers tell of a list and its copy.
-/
import Derived.Test.YtdmeegfdmdbkiaaFlt
import Derived.Test.YtdmeegfdmdbkiaaFltP
import Derived.Deep.RegionHeld
namespace Go.Proofs.Ytdmeegfdmdbkiaa
set_option linter.unusedVariables false
set_option linter.unusedSimpArgs false
open Go.RowKit Ieee

theorem order_nan {d e : Datum} (h : ∃ n f, d = .nan n f) : d.order e = none := by obtain ⟨n, f, rfl⟩ := h; cases e <;> rfl
theorem order_nan' {d e : Datum} (h : ∃ n f, e = .nan n f) : d.order e = none := by obtain ⟨n, f, rfl⟩ := h; cases d <;> rfl
def one64 : Nat := 4607182418800017408
theorem one_read : double.read one64 = .number false 4503599627370496 (-52) := by decide +kernel
theorem quot_one {d : Datum} (h : ¬ ∃ n f, d = .nan n f) : ∃ e, Datum.quotient (double.fractionBits + 2) (.number false 4503599627370496 (-52)) d = some e := by
  cases d with
  | nan n f => exact absurd ⟨n, f, rfl⟩ h
  | infinity n => exact ⟨_, rfl⟩
  | number n m p =>
    unfold Datum.quotient
    by_cases h0 : m = 0
    · subst h0; exact ⟨_, by simp; rfl⟩
    · exact ⟨_, by simp only [if_neg h0]; rfl⟩
theorem div_one {r : Nat} (h : ¬ ∃ n f, double.read r = .nan n f) : ∃ v, floatBits .quo .f64 4607182418800017408 r = some v := by
  obtain ⟨e, he⟩ := quot_one h
  refine ⟨double.write e, ?_⟩
  show double.div one64 r = _
  unfold Format.div
  rw [one_read, he]; rfl
theorem wide_cases (x : Nat) : (∃ n f, single.read x = .nan n f) ∨ ∃ r, floatToFloatBits .f32 x .f64 = some r ∧ ¬ ∃ n f, double.read r = .nan n f := by
  rcases single_read x with h | ⟨n, h⟩ | ⟨n, m, p, h, h1, h2, h3⟩
  · exact .inl h
  · right
    refine ⟨double.write (.infinity n), ?_, ?_⟩
    · simp [floatToFloatBits, FloatKind.decode, FloatKind.format, FloatKind.encode, h]
    · have : double.read (double.write (.infinity n)) = .infinity n := by cases n <;> decide +kernel
      rw [this]; rintro ⟨_, _, e⟩; cases e
  · right
    have hr : ∃ m' p', double.read (double.write (.number n m p)) = .number n m' p' := by
      rcases Nat.eq_zero_or_pos m with h0 | h0
      · subst h0
        have : double.write (.number n 0 p) = double.word n 0 := by
          show double.nearest n 0 p = _
          unfold Format.nearest; rw [if_pos rfl]
        rw [this]
        cases n
        · exact ⟨0, -1074, by decide +kernel⟩
        · exact ⟨0, -1074, by decide +kernel⟩
      · obtain ⟨m', p', e, _⟩ := wide_read n m p h0 h1 h2 h3
        exact ⟨m', p', e⟩
    obtain ⟨m', p', e⟩ := hr
    refine ⟨double.write (.number n m p), ?_, ?_⟩
    · simp [floatToFloatBits, FloatKind.decode, FloatKind.format, FloatKind.encode, h, e, Datum.isInfinity]
    · rw [e]; rintro ⟨_, _, e'⟩; cases e'
set_option maxRecDepth 10000 in
set_option maxHeartbeats 4000000 in
theorem sameFloat_self (w : World) (r : Nat) (h : ¬ ∃ n f, double.read r = .nan n f) :
    Calls Try.prog 52 #[.float .f64 r, .float .f64 r] w fun e w' => e = .returned (.bool true) ∧ w = w' := by
  obtain ⟨v, hv⟩ := div_one h
  have hq : ∀ w : World, (binOp BinOp.quo 76 (.float .f64 4607182418800017408) (.float .f64 r)).run Try.prog w = .ok (.float .f64 v) w := fun w => run_float_arith w _ _ _ _ _ _ hv
  have o1 : FloatKind.f64.format.order r r = some .eq := by rcases order_self (double.read r) with h' | h'; exact absurd h' h; exact h'
  have oo : (FloatKind.f64.format.order r 0 == some .eq) = decide (FloatKind.f64.format.order r 0 = some .eq) := by
    rw [Bool.eq_iff_iff, beq_iff_eq, decide_eq_true_eq]
  clear h hv
  by_cases hz : FloatKind.f64.format.order r 0 = some .eq
  · rw [decide_eq_true hz] at oo
    clear hz
    go_enter Try.func52, Try.ntmps52
    go_wp2_with fail
    go_ret
    exact ⟨by simp, rfl⟩
  · rw [decide_eq_false hz] at oo
    clear hz
    go_enter Try.func52, Try.ntmps52
    go_wp2_with fail
    go_ret
    exact ⟨rfl, rfl⟩
set_option maxRecDepth 10000 in
set_option maxHeartbeats 4000000 in
theorem sameFloat_nan (w : World) (r s : Nat) (h : FloatKind.f64.format.order r r = none) (g : FloatKind.f64.format.order s s = none) :
    Calls Try.prog 52 #[.float .f64 r, .float .f64 s] w fun e w' => e = .returned (.bool true) ∧ w = w' := by
  go_enter Try.func52, Try.ntmps52
  go_wp2_with fail
  go_ret
  exact ⟨rfl, rfl⟩
/-- The word that a NaN becomes. -/
def nanOf (x : Nat) (w : World) : Nat := Question.cut (.nanConv .f64 x) (w.tape w.drawn (.nanConv .f64 x))
theorem nanOf_order (x : Nat) (w : World) : FloatKind.f64.format.order (nanOf x w) (nanOf x w) = none := by
  refine order_nan ?_
  have hsw : double.signWeight = 9223372036854775808 := by decide
  have hbi : double.binade = 4503599627370496 := by decide
  have hin : double.infRung = 9218868437227405312 := by decide
  have hlp : double.leastPlace = -1074 := by decide
  obtain ⟨t, ht⟩ : ∃ t, t = w.tape w.drawn (.nanConv .f64 x) := ⟨_, rfl⟩
  have e : nanOf x w = (t % 2) * 9223372036854775808 + 9218868437227405312 + 1 + (t / 2) % 4503599627370495 := by
    unfold nanOf; rw [← ht]; rfl
  show ∃ n f, double.read (nanOf x w) = .nan n f
  obtain ⟨q, hq⟩ : ∃ q, q = (t / 2) % 4503599627370495 := ⟨_, rfl⟩
  have hq2 : q < 4503599627370495 := by rw [hq]; exact Nat.mod_lt _ (by omega)
  rw [← hq] at e
  have e2 : nanOf x w % 9223372036854775808 = 9218868437227405312 + 1 + q := by
    rcases Nat.mod_two_eq_zero_or_one t with h | h
    · rw [e, h]; omega
    · rw [e, h]; omega
  unfold Format.read
  simp only [hsw, hbi, hin, hlp, e2]
  rw [if_neg (by omega), if_neg (by omega), if_neg (by omega)]
  exact ⟨_, _, rfl⟩
theorem conv_nan {x : Nat} (h : ∃ n f, single.read x = .nan n f) (w : World) : (convert 46 76 (.float .f32 x)).run Try.prog w = .ok (.float .f64 (nanOf x w)) w.drew := by
  obtain ⟨n, f, h⟩ := h
  have h' : FloatKind.f32.decode x = .nan n f := h
  simp [convert, run_underlying Try.underlying46, run_underlying Try.underlying76, Conv.floatToFloat, h', nanOf, Question.forced]
set_option maxRecDepth 10000 in
set_option maxHeartbeats 4000000 in
theorem lawEq_F (w : World) (g o h p c d n : Nat) (xs : List Nat) (hn : xs.length = n) (hl : n ≤ 1048576)
    (hg : ∀ j, j < n → w.cell? ⟨g, o + j, none⟩ = some (.float .f32 (xs.getD j 0))) (hh : ∀ j, j < n → w.cell? ⟨h, p + j, none⟩ = some (.float .f32 (xs.getD j 0))) :
    Calls Try.prog 20 #[.slice (some ⟨g, o, none⟩) n c, .slice (some ⟨h, p, none⟩) n d] w fun e w' => e = .returned (.bool true) ∧ Below w.heap.size w w' := by
  have HG := Lib.hid hg
  have HH := Lib.hid hh
  clear hg hh hn
  go_enter Try.func20, Try.ntmps20
  go_wp2_with fail
  go_loopw [5] (fun iv wr => ∃ k m : Nat, k ≤ n ∧ iv = .int .i64 k ∧ wr = w.drewN m) (fun iv _ => n - (intOf iv).toNat)
  case atStart => exact ⟨0, 0, Nat.zero_le _, rfl, rfl⟩
  case round =>
    obtain ⟨k, m, hk, rfl, rfl⟩ := hrel
    by_cases hlt : k < n
    · have k0 : (0 : Int) ≤ (k : Int) := Int.natCast_nonneg _
      have k1 : (k : Int) < (n : Int) := by omega
      have a0 : w.cell? ⟨g, o + k, none⟩ = some (.float .f32 (xs.getD k 0)) := HG.out k hlt
      have b0 : w.cell? ⟨h, p + k, none⟩ = some (.float .f32 (xs.getD k 0)) := HH.out k hlt
      generalize xs.getD k 0 = x at *
      rcases wide_cases x with hx | ⟨r, hr, hnr⟩
      · have hc := fun v : World => conv_nan hx v
        have HO := Lib.hid (fun v v' : World => fun u => sameFloat_nan u (nanOf x v) (nanOf x v') (nanOf_order x v) (nanOf_order x v'))
        clear hx
        go_wp2_with fail
        go_region_held (fun w' => w'.cell? ⟨g, o + k, none⟩ = some (.float .f32 x) ∧ w'.cell? ⟨h, p + k, none⟩ = some (.float .f32 x)) (first | exact ⟨a0, b0⟩) ((go_at_call 52; refine (HO.out _ _ _).mono ?_; rintro e w' ⟨rfl, rfl⟩))
        all_goals
          clear HO hc
          go_wp2_with fail
          go_roundw
          case rel => exact ⟨k + 1, _, by omega, by go_num, rfl⟩
          case measure => simp [intOf]; omega
      · have hc : ∀ v : World, (convert 46 76 (.float .f32 x)).run Try.prog v = .ok (.float .f64 r) v := fun v => run_convert_float_float _ _ _ _ _ _ _ (by kernel_rfl) Try.underlying76 hr
        have LS := Lib.hid (fun u => sameFloat_self u r hnr)
        clear hr hnr
        go_wp2_with fail
        go_quiet ((go_at_call 52; first | exact qs2 (LS.out _) | exact qs1 (LS.out _)))
        go_wp2_with fail
        go_roundw
        case rel => exact ⟨k + 1, m + nq, by omega, by go_num, by simp⟩
        case measure => simp [intOf]; omega
    · have : k = n := by omega
      subst this
      go_wp2_with fail
      go_ret
      exact ⟨rfl, drewN_below w m⟩
end Go.Proofs.Ytdmeegfdmdbkiaa
