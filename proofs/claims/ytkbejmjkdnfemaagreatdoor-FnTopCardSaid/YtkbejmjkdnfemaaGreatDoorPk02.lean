/-
  Part 2 of what the proof stands on: lemmas and contracts, each with its conditions ahead of the colon.
-/
import Derived.Deep.RegionHeld
import Derived.Test.YtkbejmjkdnfemaaGreatDoorRows
import Derived.Deep.Fields
import Derived.Deep.Matrix
import Derived.Test.YtkbejmjkdnfemaaGreatDoorPk01
namespace Go.Proofs.YtkbejmjkdnfemaaGreatDoor
set_option linter.unusedVariables false
set_option linter.unusedSimpArgs false
open Go.RowKit Ieee

theorem order_nan {d e : Datum} (h : ∃ n f, d = .nan n f) : d.order e = none := by obtain ⟨n, f, rfl⟩ := h; cases e <;> rfl
end Go.Proofs.YtkbejmjkdnfemaaGreatDoor
namespace Go.Proofs.YtkbejmjkdnfemaaGreatDoor
set_option linter.unusedVariables false
set_option linter.unusedSimpArgs false
open Go.RowKit

attribute [local go_sem] run_store_float
@[simp] theorem flts_length (xs : List Nat) : (flts xs).length = xs.length := by simp [flts]
theorem flts_get {xs : List Nat} {j : Nat} (h : j < xs.length) : (flts xs)[j]? = some (.float .f32 (xs.getD j 0)) := by simp [flts, List.getD, List.getElem?_eq_getElem h]
theorem Rd.atF {w : World} {B : Nat} {a : Option Addr} {xs : List Nat} (h : Rd w B a (flts xs)) {k : Nat} (hk : k < xs.length) :
    ∃ b o, a = some ⟨b, o, none⟩ ∧ b < B ∧ ∀ j, j < xs.length → w.cell? ⟨b, o + j, none⟩ = some (.float .f32 (xs.getD j 0)) := by
  rcases h with h | ⟨b, o, ha, hb, hc⟩
  · have : (flts xs).length = 0 := by rw [h]; rfl
    rw [flts_length] at this; omega
  · exact ⟨b, o, ha, hb, fun j hj => by rw [hc j (by rw [flts_length]; exact hj), flts_get hj]⟩
theorem Blk.setF {w : World} {b : Nat} {t : TypeId} {xs : List Nat} (h : Blk w b (flts xs) t) (j : Nat) (x : Nat) : Blk (w.setCell ⟨b, j, none⟩ (.float .f32 x)) b (flts (xs.set j x)) t := by
  have := h.set j (.float .f32 x)
  rw [show (flts xs).set j (.float .f32 x) = flts (xs.set j x) from by simp [flts, List.map_set]] at this
  exact this
theorem info_f32 : (Tryz.prog.info? 95).map (fun i => (i.zero, i.size, i.bytes)) = some (some (.float .f32 0), 1, 4) := by kernel_rfl
end Go.Proofs.YtkbejmjkdnfemaaGreatDoor
namespace Go.Proofs.YtkbejmjkdnfemaaGreatDoor
set_option linter.unusedVariables false
set_option linter.unusedSimpArgs false
open Go.RowKit Ieee

/-- x - x is a zero. -/
def finB (x : Nat) : Bool := match floatBits .sub .f32 x x with
  | some r => FloatKind.f32.format.order r 0 == some .eq
  | none => false
/-- The NaN that x - x is. -/
def nanSub (x : Nat) (w : World) : Nat := Question.cut (.nanBits .f32 x x) (w.tape w.drawn (.nanBits .f32 x x))
theorem nanSub_order (x b : Nat) (w : World) : FloatKind.f32.format.order (nanSub x w) b = none := by
  refine order_nan ?_
  have hsw : single.signWeight = 2147483648 := by decide
  have hbi : single.binade = 8388608 := by decide
  have hin : single.infRung = 2139095040 := by decide
  have hlp : single.leastPlace = -149 := by decide
  obtain ⟨t, ht⟩ : ∃ t, t = w.tape w.drawn (.nanBits .f32 x x) := ⟨_, rfl⟩
  have e : nanSub x w = (t % 2) * 2147483648 + 2139095040 + 1 + (t / 2) % 8388607 := by
    unfold nanSub; rw [← ht]; rfl
  show ∃ n f, single.read (nanSub x w) = .nan n f
  obtain ⟨q, hq⟩ : ∃ q, q = (t / 2) % 8388607 := ⟨_, rfl⟩
  have hq2 : q < 8388607 := by rw [hq]; exact Nat.mod_lt _ (by omega)
  rw [← hq] at e
  have e2 : nanSub x w % 2147483648 = 2139095040 + 1 + q := by
    rcases Nat.mod_two_eq_zero_or_one t with h | h
    · rw [e, h]; omega
    · rw [e, h]; omega
  unfold Format.read
  simp only [hsw, hbi, hin, hlp, e2]
  rw [if_neg (by omega), if_neg (by omega), if_neg (by omega)]
  exact ⟨_, _, rfl⟩
theorem run_sub_nan {x : Nat} (h : floatBits .sub .f32 x x = none) (t : TypeId) (w : World) : (binOp BinOp.sub t (.float .f32 x) (.float .f32 x)).run Tryz.prog w = .ok (.float .f32 (nanSub x w)) w.drew := by
  have h' : FloatKind.f32.format.sub x x = none := h
  simp [binOp, Op.floatArith, h', nanSub, Question.forced]
set_option maxRecDepth 10000 in
set_option maxHeartbeats 4000000 in
theorem isFinite_any (w : World) (x : Nat) :
    Calls Tryz.prog 143 #[.float .f32 x] w fun e w' => e = .returned (.bool (finB x)) ∧ ∃ n, w' = w.drewN n := by
  cases hs : floatBits .sub .f32 x x with
  | none =>
    have hc := fun v : World => run_sub_nan hs 95 v
    have ho := fun v : World => nanSub_order x 0 v
    have HF : Hid (finB x = false) := by simp [Hid, finB, hs]
    clear hs
    go_enter Tryz.func143, Tryz.ntmps143
    go_wp2_with fail
    go_ret
    exact ⟨ret_bool HF.out.symm, 1, rfl⟩
  | some r =>
    have hc : ∀ v : World, (binOp BinOp.sub 95 (.float .f32 x) (.float .f32 x)).run Tryz.prog v = .ok (.float .f32 r) v := fun v => run_float_arith v _ _ _ _ _ _ hs
    have HF : Hid (finB x = (FloatKind.f32.format.order r 0 == some .eq)) := by simp [Hid, finB, hs]
    clear hs
    go_enter Tryz.func143, Tryz.ntmps143
    go_wp2_with fail
    go_ret
    exact ⟨ret_bool HF.out.symm, 0, rfl⟩
end Go.Proofs.YtkbejmjkdnfemaaGreatDoor
namespace Go.Proofs.YtkbejmjkdnfemaaGreatDoor
set_option linter.unusedVariables false
set_option linter.unusedSimpArgs false
open Go.RowKit

/-- n is from lo to hi. -/
def inB (n lo hi : Int) : Bool := decide (lo ≤ n) && decide (n ≤ hi)
theorem inB_iff {n lo hi : Int} : inB n lo hi = true ↔ lo ≤ n ∧ n ≤ hi := by simp [inB]
def allIn (xs : List Int) (lo hi : Int) : Bool := xs.all fun x => inB x lo hi
theorem allIn_iff {xs : List Int} {lo hi : Int} : allIn xs lo hi = true ↔ ∀ x ∈ xs, lo ≤ x ∧ x ≤ hi := by simp [allIn, inB_iff]
def manyB (xs : List Int) (few many lo hi : Int) : Bool := inB xs.length few many && allIn xs lo hi
theorem manyB_iff {xs : List Int} {few many lo hi : Int} : manyB xs few many lo hi = true ↔ (few ≤ xs.length ∧ (xs.length : Int) ≤ many) ∧ ∀ x ∈ xs, lo ≤ x ∧ x ≤ hi := by
  simp [manyB, inB_iff, allIn_iff]
/-- The sum as Go reckons it. -/
def wsum (xs : List Int) : Int := xs.foldl (fun s x => wrap64 (s + x)) 0
theorem wsum_snoc (xs : List Int) (x : Int) : wsum (xs ++ [x]) = wrap64 (wsum xs + x) := by simp [wsum]
theorem wsum_from (m : Int) (hm : 0 ≤ m) : ∀ (xs : List Int) (s : Int), (∀ x ∈ xs, -m ≤ x ∧ x ≤ m) → -9223372036854775807 ≤ s - m * xs.length → s + m * xs.length ≤ 9223372036854775807 →
    xs.foldl (fun s x => wrap64 (s + x)) s = s + xs.sum ∧ -(m * xs.length) ≤ xs.sum ∧ xs.sum ≤ m * xs.length
  | [], s, _, _, _ => by simp
  | x :: xs, s, h, h1, h2 => by
    have hx := h x (by simp)
    have e : m * ((x :: xs).length : Int) = m * xs.length + m := by simp [Int.mul_add]
    rw [e] at h1 h2 ⊢
    have hp : 0 ≤ m * (xs.length : Int) := Int.mul_nonneg hm (by omega)
    obtain ⟨i1, i2, i3⟩ := wsum_from m hm xs (s + x) (fun y hy => h y (by simp [hy])) (by omega) (by omega)
    rw [List.foldl_cons, IntWalk.wrap64_in (s + x) (by omega), i1, List.sum_cons]
    exact ⟨by omega, by omega, by omega⟩
theorem wsum_eq (xs : List Int) (m : Int) (hm : 0 ≤ m) (h : ∀ x ∈ xs, -m ≤ x ∧ x ≤ m) (hl : m * xs.length ≤ 9223372036854775807) : wsum xs = xs.sum ∧ -(m * xs.length) ≤ xs.sum ∧ xs.sum ≤ m * xs.length := by
  have := wsum_from m hm xs 0 h (by omega) (by omega)
  rw [Int.zero_add] at this
  exact this

theorem allIn_snoc {xs : List Int} {k : Nat} {x lo hi : Int} (hx : xs[k]? = some x) : allIn (xs.take (k + 1)) lo hi = (allIn (xs.take k) lo hi && inB x lo hi) := by
  rw [List.take_add_one, hx]; simp [allIn]
theorem allIn_false {xs : List Int} {k : Nat} {x lo hi : Int} (hx : xs[k]? = some x) (h : inB x lo hi = false) : allIn xs lo hi = false := by
  rw [← Bool.not_eq_true]
  intro ha
  have := List.all_eq_true.1 ha x (List.mem_of_getElem? hx)
  rw [h] at this; cases this
theorem wsum_take {xs : List Int} {k : Nat} {x : Int} (hx : xs[k]? = some x) : wsum (xs.take (k + 1)) = wrap64 (wsum (xs.take k) + x) := by
  rw [List.take_add_one, hx]; exact wsum_snoc _ _

theorem info_i64p : (Tryz.prog.info? 2).map (fun i => (i.zero, i.size, i.bytes)) = some (some (.int .i64 0), 1, 8) := by kernel_rfl
theorem within_any (n lo hi : Int) (w : World) :
    Calls Tryz.prog 132 #[.int .i64 n, .int .i64 lo, .int .i64 hi] w fun e w' => e = .returned (.bool (inB n lo hi)) ∧ w = w' := by
  by_cases h : lo ≤ n
  · have H : Hid (inB n lo hi = decide (n ≤ hi)) := by simp [Hid, inB, h]
    go_enter Tryz.func132, Tryz.ntmps132
    go_wp2
    go_ret
    exact ⟨ret_bool H.out.symm, rfl⟩
  · have H : Hid (inB n lo hi = false) := by simp [Hid, inB, h]
    go_enter Tryz.func132, Tryz.ntmps132
    go_wp2
    go_ret
    exact ⟨ret_bool H.out.symm, rfl⟩
theorem areWithin_any (w : World) (a : Option Addr) (c : Nat) (xs : List Int) (lo hi : Int) (h : Rd w w.heap.size a (ints xs)) (hl : xs.length ≤ 1152921504606846976) :
    Calls Tryz.prog 197 #[.slice a xs.length c, .int .i64 lo, .int .i64 hi] w fun e w' => e = .returned (.bool (allIn xs lo hi)) ∧ w = w' := by
  go_enter Tryz.func197, Tryz.ntmps197
  go_wp2
  go_loop [11] (fun i => ∃ k : Nat, k ≤ xs.length ∧ i = .int .i64 k ∧ allIn (xs.take k) lo hi = true) (fun i => xs.length - (intOf i).toNat)
  case atStart => exact ⟨0, Nat.zero_le _, rfl, rfl⟩
  case round =>
    obtain ⟨k, hk, rfl, ha'⟩ := hrel
    have ha := Lib.hid ha'
    clear ha'
    by_cases hlt : k < xs.length
    · obtain ⟨b, o, x, rfl, hbb, hck, hx⟩ := h.get hlt
      clear h
      cases hin : inB x lo hi with
      | true =>
        go_wp2_with (go_at_call 132; refine (within_any _ _ _ _).mono ?_; rintro e w' ⟨rfl, rfl⟩)
        go_round
        case rel => exact ⟨k + 1, by omega, by go_num, by rw [allIn_snoc hx.out, ha.out, hin]; rfl⟩
        case measure => simp [intOf]; omega
      | false =>
        go_wp2_with (go_at_call 132; refine (within_any _ _ _ _).mono ?_; rintro e w' ⟨rfl, rfl⟩)
        go_ret
        exact ⟨ret_bool (allIn_false hx.out hin).symm, rfl⟩
    · have : k = xs.length := by omega
      subst this
      go_wp2
      go_ret
      exact ⟨ret_bool (by rw [← ha.out, List.take_length]), rfl⟩
theorem areMany_any (w : World) (a : Option Addr) (c : Nat) (xs : List Int) (few many lo hi : Int) (h : Rd w w.heap.size a (ints xs)) (hl : xs.length ≤ 1152921504606846976) :
    Calls Tryz.prog 133 #[.slice a xs.length c, .int .i64 few, .int .i64 many, .int .i64 lo, .int .i64 hi] w fun e w' => e = .returned (.bool (manyB xs few many lo hi)) ∧ w = w' := by
  cases hin : inB xs.length few many with
  | true =>
    have H : Hid (manyB xs few many lo hi = allIn xs lo hi) := by simp [Hid, manyB, hin]
    go_enter Tryz.func133, Tryz.ntmps133
    go_wp2_with (first | (go_at_call 132; refine (within_any _ _ _ _).mono ?_; rintro e w' ⟨rfl, rfl⟩) | (go_at_call 197; refine (areWithin_any _ _ _ xs _ _ h hl).mono ?_; rintro e w' ⟨rfl, rfl⟩))
    go_ret
    exact ⟨ret_bool H.out.symm, rfl⟩
  | false =>
    have H : Hid (manyB xs few many lo hi = false) := by simp [Hid, manyB, hin]
    go_enter Tryz.func133, Tryz.ntmps133
    go_wp2_with (go_at_call 132; refine (within_any _ _ _ _).mono ?_; rintro e w' ⟨rfl, rfl⟩)
    go_ret
    exact ⟨ret_bool H.out.symm, rfl⟩
theorem sumOf_any (w : World) (a : Option Addr) (c : Nat) (xs : List Int) (h : Rd w w.heap.size a (ints xs)) (hl : xs.length ≤ 1152921504606846976) :
    Calls Tryz.prog 151 #[.slice a xs.length c] w fun e w' => e = .returned (.int .i64 (wsum xs)) ∧ w = w' := by
  go_enter Tryz.func151, Tryz.ntmps151
  go_wp2
  go_loop [3, 8] (fun s i => ∃ k : Nat, k ≤ xs.length ∧ i = .int .i64 k ∧ s = .int .i64 (wsum (xs.take k))) (fun _ i => xs.length - (intOf i).toNat)
  case atStart => exact ⟨0, Nat.zero_le _, rfl, rfl⟩
  case round =>
    obtain ⟨k, hk, rfl, rfl⟩ := hrel
    by_cases hlt : k < xs.length
    · obtain ⟨b, o, x, rfl, hbb, hck, hx⟩ := h.get hlt
      clear h
      go_wp2
      go_round
      case rel => exact ⟨k + 1, by omega, by go_num, by rw [wsum_take hx.out]⟩
      case measure => simp [intOf]; omega
    · have : k = xs.length := by omega
      subst this
      go_wp2
      go_ret
      exact ⟨ret_int (by first | rfl | rw [List.take_length]), rfl⟩
/-- The numbers from 0 to n - 1. -/
def upto (n : Nat) : List Int := (List.range n).map fun (j : Nat) => (j : Int)
theorem upto_length (n : Nat) : (upto n).length = n := by simp [upto]
theorem upto_succ (n : Nat) : upto (n + 1) = upto n ++ [(n : Int)] := by simp [upto, List.range_succ]
theorem upto_get {n j : Nat} (h : j < n) : (upto n)[j]? = some (j : Int) := by simp [upto, h]
set_option maxHeartbeats 1000000 in
theorem counting_any (w : World) (n : Nat) (hn : n ≤ 1048576) :
    Calls Tryz.prog 70 #[.int .i64 n] w fun e w' => ∃ a c, e = .returned (.slice a n c) ∧ w'.ownsRow w.heap.size 2 1 (.slice a n c) n (ints (upto n)) ∧ Below w.heap.size w w' := by
  go_enter Tryz.func70, Tryz.ntmps70
  go_wp2
  go_loopw [3, 7] (fun v i wr => ∃ k : Nat, k ≤ n ∧ i = .int .i64 k ∧ wr.ownsRow w.heap.size 2 1 v k (ints (upto k)) ∧ Below w.heap.size w wr) (fun _ i _ => n - (intOf i).toNat)
  case atStart => exact ⟨0, Nat.zero_le _, rfl, own_empty w _, bl1 w _⟩
  case round =>
    obtain ⟨k, hk, rfl, hown, hw⟩ := hrel
    by_cases hlt : k < n
    · go_wp2_with (at_builtin; refine wpList_append_one _ rfl _ _ 24 rfl w.heap.size 2 (.int .i64 0) 8 Tryz.underlying24 info_i64p rfl _ k _ rfl hown (.int .i64 k) rfl rfl (by omega) (by omega) hw.size ?_)
      intro v' w1 ho hgr
      have hb := below_append hw hown hgr (Nat.le_refl _) hw.size
      rw [show ints (upto k) ++ [Value.int .i64 k] = ints (upto (k + 1)) from by rw [upto_succ, ints_append]; rfl] at ho
      clear hown hw
      go_wp2
      go_roundw
      case rel => exact ⟨k + 1, by omega, by go_num, ho, hb⟩
      case measure => simp [intOf]; omega
    · have : k = n := by omega
      subst this
      obtain ⟨a, c, rfl, _, _⟩ := own_shape hown
      go_wp2
      go_ret
      exact ⟨a, c, rfl, hown, hw⟩
end Go.Proofs.YtkbejmjkdnfemaaGreatDoor
namespace Go.Proofs.YtkbejmjkdnfemaaGreatDoor
set_option linter.unusedVariables false
set_option linter.unusedSimpArgs false
open Go.RowKit

/-- The first index below n for which p says yes; -1 if there is none. -/
def findI (p : Nat → Bool) (n : Nat) : Int := match (List.range n).find? p with
  | some j => j
  | none => -1
theorem findI_here {p : Nat → Bool} {n k : Nat} (hk : k < n) (hp : p k = true) (hb : ∀ j, j < k → p j = false) : findI p n = k := by
  have : (List.range n).find? p = some k := by
    rw [List.find?_range_eq_some]
    exact ⟨hp, by simpa using hk, fun j hj => by simp [hb j hj]⟩
  simp [findI, this]
theorem findI_none {p : Nat → Bool} {n : Nat} (hb : ∀ j, j < n → p j = false) : findI p n = -1 := by
  have : (List.range n).find? p = none := by
    rw [List.find?_eq_none]
    intro j hj
    simp [hb j (by simpa using hj)]
  simp [findI, this]
theorem findI_spec (p : Nat → Bool) (n : Nat) : (∃ k, k < n ∧ p k = true ∧ (∀ j, j < k → p j = false) ∧ findI p n = k) ∨ ((∀ j, j < n → p j = false) ∧ findI p n = -1) := by
  by_cases h : ∃ k, k < n ∧ p k = true
  · obtain ⟨k, hk, hm⟩ : ∃ k, (k < n ∧ p k = true) ∧ ∀ j, j < k → ¬ (j < n ∧ p j = true) := by
      obtain ⟨k, hk⟩ := h
      induction k using Nat.strongRecOn with
      | _ k ih =>
        by_cases hh : ∃ j, j < k ∧ j < n ∧ p j = true
        · obtain ⟨j, h1, h2⟩ := hh; exact ih j h1 h2
        · exact ⟨k, hk, fun j hj hh2 => hh ⟨j, hj, hh2⟩⟩
    have hb : ∀ j, j < k → p j = false := fun j hj => by
      have := hm j hj
      cases hp : p j with
      | false => rfl
      | true => exact absurd ⟨by omega, hp⟩ this
    exact .inl ⟨k, hk.1, hk.2, hb, findI_here hk.1 hk.2 hb⟩
  · have hb : ∀ j, j < n → p j = false := fun j hj => by
      cases hp : p j with
      | false => rfl
      | true => exact absurd ⟨j, hj, hp⟩ h
    exact .inr ⟨hb, findI_none hb⟩
def anyI (p : Nat → Bool) (n : Nat) : Bool := decide (0 ≤ findI p n)
theorem anyI_iff {p : Nat → Bool} {n : Nat} : anyI p n = true ↔ ∃ k, k < n ∧ p k = true := by
  unfold anyI
  rw [decide_eq_true_iff]
  rcases findI_spec p n with ⟨k, hk, hp, _, e⟩ | ⟨hb, e⟩
  · rw [e]; exact ⟨fun _ => ⟨k, hk, hp⟩, fun _ => by omega⟩
  · rw [e]
    constructor
    · intro h; omega
    · rintro ⟨k, hk, hp⟩; rw [hb k hk] at hp; cases hp
theorem anyI_no {p : Nat → Bool} {n : Nat} : anyI p n = false ↔ ∀ k, k < n → p k = false := by
  rw [← Bool.not_eq_true, anyI_iff]
  constructor
  · intro h k hk
    cases hp : p k with
    | false => rfl
    | true => exact absurd ⟨k, hk, hp⟩ h
  · rintro h ⟨k, hk, hp⟩; rw [h k hk] at hp; cases hp
/-- What a slice of one-cell elements holds at an index. -/
theorem Rd.getV {w : World} {B : Nat} {a : Option Addr} {vs : List Value} (h : Rd w B a vs) {k : Nat} (hk : k < vs.length) :
    ∃ b o v, a = some ⟨b, o, none⟩ ∧ b < B ∧ w.cell? ⟨b, o + k, none⟩ = some v ∧ Hid (vs[k]? = some v) := by
  rcases h with h | ⟨b, o, ha, hb, hc⟩
  · subst h; simp at hk
  · exact ⟨b, o, vs[k], ha, hb, by rw [hc k hk, List.getElem?_eq_getElem hk], by simp [Hid, List.getElem?_eq_getElem hk]⟩

/-- The index of a number in a list, -1 if it is not there. -/
def indexI (xs : List Int) (v : Int) : Int := findI (fun j => v == xs.getD j 0) xs.length
def containsI (xs : List Int) (v : Int) : Bool := decide (0 ≤ indexI xs v)
theorem containsI_iff {xs : List Int} {v : Int} : containsI xs v = true ↔ v ∈ xs := by
  show anyI _ _ = true ↔ _
  rw [anyI_iff]
  constructor
  · rintro ⟨k, hk, h⟩
    rw [beq_iff_eq] at h
    rw [h]; exact List.mem_of_getElem? (get_of_lt hk)
  · intro h
    obtain ⟨k, hk, e⟩ := List.getElem_of_mem h
    exact ⟨k, hk, by rw [beq_iff_eq, ← e]; simp [List.getD, hk]⟩

theorem index_any (w : World) (a : Option Addr) (c : Nat) (xs : List Int) (v : Int) (h : Rd w w.heap.size a (ints xs)) (hl : xs.length ≤ 1152921504606846976) :
    Calls Tryz.prog 148 #[.slice a xs.length c, .int .i64 v] w fun e w' => e = .returned (.int .i64 (indexI xs v)) ∧ w = w' := by
  go_enter Tryz.func148, Tryz.ntmps148
  go_wp2
  go_loop [8] (fun i => ∃ k : Nat, k ≤ xs.length ∧ i = .int .i64 k ∧ Hid (∀ j, j < k → (v == xs.getD j 0) = false)) (fun i => xs.length - (intOf i).toNat)
  case atStart => exact ⟨0, Nat.zero_le _, rfl, fun j hj => by omega⟩
  case round =>
    obtain ⟨k, hk, rfl, ha⟩ := hrel
    by_cases hlt : k < xs.length
    · obtain ⟨b, o, x, rfl, hbb, hck, hx⟩ := h.get hlt
      clear h
      cases hin : (v == x) with
      | false =>
        have hF : Hid (∀ j, j < k + 1 → (v == xs.getD j 0) = false) := fun j hj => by
          by_cases e : j = k
          · rw [e, getD_of_get hx.out, hin]
          · exact ha.out j (by omega)
        go_wp2
        go_round
        case rel => exact ⟨k + 1, by omega, by go_num, hF⟩
        case measure => simp [intOf]; omega
      | true =>
        have hF : Hid (indexI xs v = k) := findI_here hlt (by rw [getD_of_get hx.out, hin]) ha.out
        go_wp2
        go_ret
        exact ⟨ret_int hF.out.symm, rfl⟩
    · have : k = xs.length := by omega
      subst this
      have hF : Hid (indexI xs v = -1) := findI_none ha.out
      go_wp2
      go_ret
      exact ⟨ret_int hF.out.symm, rfl⟩
theorem contains_any (w : World) (a : Option Addr) (c : Nat) (xs : List Int) (v : Int) (h : Rd w w.heap.size a (ints xs)) (hl : xs.length ≤ 1152921504606846976) :
    Calls Tryz.prog 144 #[.slice a xs.length c, .int .i64 v] w fun e w' => e = .returned (.bool (containsI xs v)) ∧ w = w' := by
  go_enter Tryz.func144, Tryz.ntmps144
  go_wp2_with (go_at_call 148; refine (index_any _ _ _ xs v h hl).mono ?_; rintro e w' ⟨rfl, rfl⟩)
  go_ret
  exact ⟨rfl, rfl⟩
set_option maxHeartbeats 1000000 in
theorem indexFunc_I (K : Nat) (caps : Array Value) (hK : ∀ (args : Array Value) (w : World), (callFunc K args).run Tryz.prog w = .ok (.enter K args) w)
    (w : World) (a : Option Addr) (c : Nat) (vs : List Value) (p : Nat → Bool) (h : Rd w w.heap.size a vs) (hl : vs.length ≤ 1152921504606846976)
    (hcall : ∀ w' j v, Below w.heap.size w w' → vs[j]? = some v → Calls Tryz.prog K (#[v] ++ caps) w' fun e w'' => e = .returned (.bool (p j)) ∧ Below w'.heap.size w' w'') :
    Calls Tryz.prog 69 #[.slice a vs.length c, .func (.func K) #[] caps] w fun e w' => e = .returned (.int .i64 (findI p vs.length)) ∧ Below w.heap.size w w' := by
  have Hc := Lib.hid hcall
  clear hcall
  go_enter Tryz.func69, Tryz.ntmps69
  go_wp2
  go_loopw [8] (fun i wr => ∃ k : Nat, k ≤ vs.length ∧ i = .int .i64 k ∧ Hid (∀ j, j < k → p j = false) ∧ Below w.heap.size w wr) (fun i _ => vs.length - (intOf i).toNat)
  case atStart => exact ⟨0, Nat.zero_le _, rfl, fun j hj => by omega, Below.refl _ _⟩
  case round =>
    obtain ⟨k, hk, rfl, ha, hw⟩ := hrel
    by_cases hlt : k < vs.length
    · obtain ⟨b, o, v, rfl, hbb, hck, hx⟩ := (h.below hw (Nat.le_refl _)).getV hlt
      clear h
      have HC := Lib.hid (Hc.out wr k v hw hx.out)
      cases hin : p k with
      | false =>
        have hF : Hid (∀ j, j < k + 1 → p j = false) := fun j hj => by
          by_cases e : j = k
          · rw [e, hin]
          · exact ha.out j (by omega)
        rw [hin] at HC
        go_wp2_with fail
        refine HC.out.mono ?_
        rintro e w2 ⟨rfl, hb2⟩
        have hw2 := below_then hw hb2
        go_wp2_with fail
        go_roundw
        case rel => exact ⟨k + 1, by omega, by go_num, hF, hw2⟩
        case measure => simp [intOf]; omega
      | true =>
        have hF : Hid (findI p vs.length = k) := findI_here hlt hin ha.out
        rw [hin] at HC
        go_wp2_with fail
        refine HC.out.mono ?_
        rintro e w2 ⟨rfl, hb2⟩
        have hw2 := below_then hw hb2
        go_wp2_with fail
        go_ret
        exact ⟨ret_int hF.out.symm, hw2⟩
    · have : k = vs.length := by omega
      subst this
      have hF : Hid (findI p vs.length = -1) := findI_none ha.out
      go_wp2
      go_ret
      exact ⟨ret_int hF.out.symm, hw⟩
theorem containsFunc_I (K : Nat) (caps : Array Value) (hK : ∀ (args : Array Value) (w : World), (callFunc K args).run Tryz.prog w = .ok (.enter K args) w)
    (w : World) (a : Option Addr) (c : Nat) (vs : List Value) (p : Nat → Bool) (h : Rd w w.heap.size a vs) (hl : vs.length ≤ 1152921504606846976)
    (hcall : ∀ w' j v, Below w.heap.size w w' → vs[j]? = some v → Calls Tryz.prog K (#[v] ++ caps) w' fun e w'' => e = .returned (.bool (p j)) ∧ Below w'.heap.size w' w'') :
    Calls Tryz.prog 155 #[.slice a vs.length c, .func (.func K) #[] caps] w fun e w' => e = .returned (.bool (anyI p vs.length)) ∧ Below w.heap.size w w' := by
  have HI := Lib.hid (indexFunc_I K caps hK w a c vs p h hl hcall)
  clear hcall h hK
  go_enter Tryz.func155, Tryz.ntmps155
  go_wp2_with fail
  refine HI.out.mono ?_
  rintro e w1 ⟨rfl, hb⟩
  go_wp2_with fail
  go_ret
  exact ⟨rfl, hb⟩
end Go.Proofs.YtkbejmjkdnfemaaGreatDoor
namespace Go.Proofs.YtkbejmjkdnfemaaGreatDoor
set_option linter.unusedVariables false
set_option linter.unusedSimpArgs false
open Go.RowKit

def finAll (xs : List Nat) : Bool := xs.all finB
theorem finAll_any (xs : List Nat) : finAll xs = !(anyI (fun j => !finB (xs.getD j 0)) xs.length) := by
  rw [Bool.eq_iff_iff, Bool.not_eq_true', anyI_no, finAll, List.all_eq_true]
  constructor
  · intro h k hk
    have := h (xs.getD k 0) (by rw [List.getD, List.getElem?_eq_getElem hk]; exact List.getElem_mem hk)
    rw [this]; rfl
  · intro h x hx
    obtain ⟨k, hk, e⟩ := List.getElem_of_mem hx
    have := h k hk
    rw [List.getD, List.getElem?_eq_getElem hk] at this
    simp only [Option.getD_some, e] at this
    simpa using this
set_option maxHeartbeats 1000000 in
theorem indexFunc_F (K : Nat) (caps : Array Value) (hK : ∀ (args : Array Value) (w : World), (callFunc K args).run Tryz.prog w = .ok (.enter K args) w)
    (w : World) (a : Option Addr) (c : Nat) (vs : List Value) (p : Nat → Bool) (h : Rd w w.heap.size a vs) (hl : vs.length ≤ 1152921504606846976)
    (hcall : ∀ w' j v, Below w.heap.size w w' → vs[j]? = some v → Calls Tryz.prog K (#[v] ++ caps) w' fun e w'' => e = .returned (.bool (p j)) ∧ Below w'.heap.size w' w'') :
    Calls Tryz.prog 208 #[.slice a vs.length c, .func (.func K) #[] caps] w fun e w' => e = .returned (.int .i64 (findI p vs.length)) ∧ Below w.heap.size w w' := by
  have Hc := Lib.hid hcall
  clear hcall
  go_enter Tryz.func208, Tryz.ntmps208
  go_wp2
  go_loopw [8] (fun i wr => ∃ k : Nat, k ≤ vs.length ∧ i = .int .i64 k ∧ Hid (∀ j, j < k → p j = false) ∧ Below w.heap.size w wr) (fun i _ => vs.length - (intOf i).toNat)
  case atStart => exact ⟨0, Nat.zero_le _, rfl, fun j hj => by omega, Below.refl _ _⟩
  case round =>
    obtain ⟨k, hk, rfl, ha, hw⟩ := hrel
    by_cases hlt : k < vs.length
    · obtain ⟨b, o, v, rfl, hbb, hck, hx⟩ := (h.below hw (Nat.le_refl _)).getV hlt
      clear h
      have HC := Lib.hid (Hc.out wr k v hw hx.out)
      cases hin : p k with
      | false =>
        have hF : Hid (∀ j, j < k + 1 → p j = false) := fun j hj => by
          by_cases e : j = k
          · rw [e, hin]
          · exact ha.out j (by omega)
        rw [hin] at HC
        go_wp2_with fail
        refine HC.out.mono ?_
        rintro e w2 ⟨rfl, hb2⟩
        have hw2 := below_then hw hb2
        go_wp2_with fail
        go_roundw
        case rel => exact ⟨k + 1, by omega, by go_num, hF, hw2⟩
        case measure => simp [intOf]; omega
      | true =>
        have hF : Hid (findI p vs.length = k) := findI_here hlt hin ha.out
        rw [hin] at HC
        go_wp2_with fail
        refine HC.out.mono ?_
        rintro e w2 ⟨rfl, hb2⟩
        have hw2 := below_then hw hb2
        go_wp2_with fail
        go_ret
        exact ⟨ret_int hF.out.symm, hw2⟩
    · have : k = vs.length := by omega
      subst this
      have hF : Hid (findI p vs.length = -1) := findI_none ha.out
      go_wp2
      go_ret
      exact ⟨ret_int hF.out.symm, hw⟩
theorem containsFunc_F (K : Nat) (caps : Array Value) (hK : ∀ (args : Array Value) (w : World), (callFunc K args).run Tryz.prog w = .ok (.enter K args) w)
    (w : World) (a : Option Addr) (c : Nat) (vs : List Value) (p : Nat → Bool) (h : Rd w w.heap.size a vs) (hl : vs.length ≤ 1152921504606846976)
    (hcall : ∀ w' j v, Below w.heap.size w w' → vs[j]? = some v → Calls Tryz.prog K (#[v] ++ caps) w' fun e w'' => e = .returned (.bool (p j)) ∧ Below w'.heap.size w' w'') :
    Calls Tryz.prog 141 #[.slice a vs.length c, .func (.func K) #[] caps] w fun e w' => e = .returned (.bool (anyI p vs.length)) ∧ Below w.heap.size w w' := by
  have HI := Lib.hid (indexFunc_F K caps hK w a c vs p h hl hcall)
  clear hcall h hK
  go_enter Tryz.func141, Tryz.ntmps141
  go_wp2_with fail
  refine HI.out.mono ?_
  rintro e w1 ⟨rfl, hb⟩
  go_wp2_with fail
  go_ret
  exact ⟨rfl, hb⟩
set_option maxRecDepth 10000 in
theorem enter_fin (args : Array Value) (w : World) : (callFunc 142 args).run Tryz.prog w = .ok (.enter 142 args) w := by kernel_rfl
theorem areFinite1_any (w : World) (x : Nat) :
    Calls Tryz.prog 142 #[.float .f32 x] w fun e w' => e = .returned (.bool (!finB x)) ∧ Below w.heap.size w w' := by
  have L := Lib.hid (isFinite_any w x)
  go_enter Tryz.func142, Tryz.ntmps142
  go_wp2_with fail
  refine L.out.mono ?_
  rintro e w1 ⟨rfl, n, rfl⟩
  go_wp2_with fail
  go_ret
  exact ⟨rfl, drewN_below w n⟩
set_option maxRecDepth 10000 in
set_option maxHeartbeats 4000000 in
theorem areFinite_any (w : World) (a : Option Addr) (c : Nat) (xs : List Nat) (h : Rd w w.heap.size a (flts xs)) (hl : xs.length ≤ 1048576) :
    Calls Tryz.prog 65 #[.slice a xs.length c] w fun e w' => e = .returned (.bool (finAll xs)) ∧ Below w.heap.size w w' := by
  have L := containsFunc_F 142 #[] enter_fin w a c (flts xs) (fun j => !finB (xs.getD j 0)) h (by rw [flts_length]; omega) (fun w' j v _ hv => by
    have hj : j < xs.length := by have := (List.getElem?_eq_some_iff.1 hv).1; simpa using this
    rw [flts_get hj] at hv
    injection hv with hv
    subst hv
    exact areFinite1_any w' _)
  rw [flts_length] at L
  have L := Lib.hid L
  have HF := Lib.hid (finAll_any xs)
  clear h
  go_enter Tryz.func65, Tryz.ntmps65
  go_wp2_with fail
  refine L.out.mono ?_
  rintro e w1 ⟨rfl, hb⟩
  go_wp2_with fail
  go_ret
  exact ⟨ret_bool HF.out.symm, hb⟩
end Go.Proofs.YtkbejmjkdnfemaaGreatDoor
namespace Go.Proofs.YtkbejmjkdnfemaaGreatDoor
set_option linter.unusedVariables false
set_option linter.unusedSimpArgs false
open Go.RowKit

def turnsB (xs : List Nat) : Bool := decide (1 ≤ xs.length) && decide (xs.length ≤ 16) && finAll xs
end Go.Proofs.YtkbejmjkdnfemaaGreatDoor
namespace Go.Proofs.YtkbejmjkdnfemaaGreatDoor
set_option linter.unusedVariables false
set_option linter.unusedSimpArgs false
open Go.RowKit Go.ChangeShapes Go.WideShapes

section
variable {H : Type} {enc : TypeId × Value → H} {P : Program} {w : World} {base : Nat} {spare : Nat → Bool} {held : Bool}
end
end Go.Proofs.YtkbejmjkdnfemaaGreatDoor
