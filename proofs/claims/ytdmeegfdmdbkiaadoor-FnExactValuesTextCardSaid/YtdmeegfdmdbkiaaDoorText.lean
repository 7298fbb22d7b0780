/-
  Texts of lists of integers: both roads.
-/
import Derived.Test.YtdmeegfdmdbkiaaDoorDec
import Derived.Test.YtdmeegfdmdbkiaaDoorLines
import Derived.Test.YtdmeegfdmdbkiaaDoorBase
import Derived.Lib.Join
namespace Go.Proofs.YtdmeegfdmdbkiaaDoor
set_option linter.unusedVariables false
set_option linter.unusedSimpArgs false
open Go.RowKit

def textL (xs : List Int) : List UInt8 := if xs = [] then [110, 111, 110, 101] else Lib.join (xs.map Lib.itoa) [44]
def valOk (xs : List Int) : Bool := allIn xs (-1000000000000000) 1000000000000000 && decide (xs.length ≤ 64)
theorem itoa_len {n : Int} (h0 : -9223372036854775808 ≤ n) (h1 : n ≤ 9223372036854775807) : (Lib.itoa n).length ≤ 21 := by
  have h := nDigits_le n.natAbs 20 (by omega) (by omega)
  rcases Int.lt_or_le n 0 with hn | hn
  · rw [itoa_neg hn]; simp; omega
  · rw [itoa_pos hn]; omega
theorem lens_le {m : Nat} : ∀ {xs : List (List UInt8)}, (∀ x ∈ xs, x.length ≤ m) → Lib.lens xs ≤ m * xs.length
  | [], _ => by simp [Lib.lens]
  | x :: xs, h => by
    have h1 := h x (by simp)
    have h2 := lens_le (m := m) (xs := xs) (fun y hy => h y (by simp [hy]))
    simp only [Lib.lens, List.map_cons, List.sum_cons, List.length_cons, Nat.mul_succ] at *
    omega
theorem join_len {m : Nat} {xs : List (List UInt8)} {sep : List UInt8} (h : ∀ x ∈ xs, x.length ≤ m) : (Lib.join xs sep).length ≤ (m + sep.length) * xs.length := by
  cases xs with
  | nil => simp [Lib.join_nil]
  | cons x r =>
    have h1 := h x (by simp)
    have h2 := lens_le (m := m) (xs := r) (fun y hy => h y (by simp [hy]))
    rw [Lib.join_cons, List.length_append, Lib.joinTail_length, List.length_cons, Nat.mul_succ, Nat.add_mul]
    omega
theorem textL_len {xs : List Int} (h : ∀ x ∈ xs, -9223372036854775808 ≤ x ∧ x ≤ 9223372036854775807) : (textL xs).length ≤ 22 * xs.length + 4 := by
  unfold textL
  split
  · simp
  · have := join_len (m := 21) (xs := xs.map Lib.itoa) (sep := [44]) (fun x hx => by
      obtain ⟨y, hy, rfl⟩ := List.mem_map.1 hx
      have := h y hy
      exact itoa_len this.1 this.2)
    rw [List.length_map] at this
    simp at this; omega
theorem join_snoc {xs : List (List UInt8)} {k : Nat} {y sep : List UInt8} (hk : 1 ≤ k) (hy : xs[k]? = some y) : Lib.join (xs.take (k + 1)) sep = Lib.join (xs.take k) sep ++ (sep ++ y) := by
  cases xs with
  | nil => simp at hy
  | cons x r =>
    obtain ⟨k, rfl⟩ : ∃ j, k = j + 1 := ⟨k - 1, by omega⟩
    rw [List.take_succ_cons, List.take_succ_cons, Lib.join_cons, Lib.join_cons, Lib.joinTail_take_succ sep r k y (by simpa using hy)]
    simp [List.append_assoc]
theorem map_data (xs : List (List UInt8)) : (xs.map bs).map (·.data.toList) = xs := by
  rw [List.map_map]
  conv => rhs; rw [← List.map_id xs]
  exact List.map_congr_left fun x _ => bs_list x
theorem join_any (w : World) (a : Option Addr) (c : Nat) (xs : List (List UInt8)) (sep : List UInt8) (h : Rd w w.heap.size a (strs xs)) (hc : xs.length ≤ c) (hl : xs.length ≤ 1048576) (hj : (Lib.join xs sep).length ≤ 140737488355328) :
    Calls Tryd.prog 90 #[.slice a xs.length c, .string (bs sep)] w fun e w' => e = .returned (.string (bs (Lib.join xs sep))) ∧ Below w.heap.size w w' := by
  rcases h with h | ⟨b, o, ha, hb, hcell⟩
  · have e : xs = [] := by
      have := congrArg List.length h
      rw [strs_length] at this
      exact List.eq_nil_of_length_eq_zero this
    subst e
    refine (Tryd.strings_Join_none a c (bs sep) w).mono ?_
    rintro e w' ⟨rfl, rfl⟩
    exact ⟨rfl, Below.refl _ _⟩
  · subst ha
    have := Tryd.strings_Join b o c (xs.map bs) (bs sep) w (fun j x hx => by
      rw [List.getElem?_map] at hx
      cases hy : xs[j]? with
      | none => rw [hy] at hx; cases hx
      | some y =>
        rw [hy] at hx
        injection hx with hx
        have hjl : j < xs.length := (List.getElem?_eq_some_iff.1 hy).1
        rw [hcell j (by rw [strs_length]; exact hjl), strs_get hy, hx]) hb (by rw [List.length_map]; omega) (by rw [List.length_map]; exact hc) (by rw [map_data, bs_list]; exact hj)
    rw [List.length_map, map_data, bs_list] at this
    exact this
set_option maxRecDepth 10000 in
set_option maxHeartbeats 4000000 in
theorem joined_any (w : World) (a : Option Addr) (c : Nat) (xs : List (List UInt8)) (h : Rd w w.heap.size a (strs xs)) (hc : xs.length ≤ c) (hl : xs.length ≤ 1048576) (hj : (Lib.join xs [44]).length ≤ 140737488355328) :
    Calls Tryd.prog 120 #[.slice a xs.length c] w fun e w' => e = .returned (.string (bs (if xs = [] then [110, 111, 110, 101] else Lib.join xs [44]))) ∧ Below w.heap.size w w' := by
  have LJ := Lib.hid (join_any w a c xs [44] h hc hl hj)
  by_cases he : xs = []
  · subst he
    clear h
    go_enter Tryd.func120, Tryd.ntmps120
    go_wp2_with fail
    go_ret
    exact ⟨rfl, Below.refl _ _⟩
  · rw [if_neg he]
    have hne : ¬ xs.length = 0 := fun e => he (List.eq_nil_of_length_eq_zero e)
    clear h he
    go_enter Tryd.func120, Tryd.ntmps120
    go_wp2_with fail
    refine LJ.out.mono ?_
    rintro e w1 ⟨rfl, hb⟩
    go_wp2_with fail
    go_ret
    exact ⟨rfl, hb⟩
theorem isValue_any (n : Int) (w : World) :
    Calls Tryd.prog 119 #[.int .i64 n] w fun e w' => e = .returned (.bool (inB n (-1000000000000000) 1000000000000000)) ∧ w = w' := by
  go_enter Tryd.func119, Tryd.ntmps119
  go_wp2_with (go_at_call 87; refine (within_any _ _ _ _).mono ?_; rintro e w' ⟨rfl, rfl⟩)
  go_ret
  exact ⟨rfl, rfl⟩
set_option maxRecDepth 10000 in
set_option maxHeartbeats 4000000 in
theorem areValues_any (w : World) (a : Option Addr) (c : Nat) (xs : List Int) (h : Rd w w.heap.size a (ints xs)) (hl : xs.length ≤ 1048576) :
    Calls Tryd.prog 107 #[.slice a xs.length c] w fun e w' => e = .returned (.bool (valOk xs)) ∧ w = w' := by
  have HV : Hid (valOk xs = (allIn xs (-1000000000000000) 1000000000000000 && decide (xs.length ≤ 64))) := rfl
  go_enter Tryd.func107, Tryd.ntmps107
  go_wp2_with fail
  go_loop [7] (fun i => ∃ k : Nat, k ≤ xs.length ∧ i = .int .i64 k ∧ Hid (allIn (xs.take k) (-1000000000000000) 1000000000000000 = true)) (fun i => xs.length - (intOf i).toNat)
  case atStart => exact ⟨0, Nat.zero_le _, rfl, rfl⟩
  case round =>
    obtain ⟨k, hk, rfl, ha⟩ := hrel
    by_cases hlt : k < xs.length
    · obtain ⟨b, o, x, rfl, hbb, hck, hx⟩ := h.get hlt
      clear h
      cases hin : inB x (-1000000000000000) 1000000000000000 with
      | true =>
        have L := Lib.hid (isValue_any x)
        rw [hin] at L
        go_wp2_with (go_at_call 119; refine (L.out _).mono ?_; rintro e w' ⟨rfl, rfl⟩)
        go_round
        case rel => exact ⟨k + 1, by omega, by go_num, by rw [Hid, allIn_snoc hx.out, ha.out, hin]; rfl⟩
        case measure => simp [intOf]; omega
      | false =>
        have L := Lib.hid (isValue_any x)
        rw [hin] at L
        have HF : Hid (valOk xs = false) := by rw [Hid, HV.out, allIn_false hx.out hin]; rfl
        go_wp2_with (go_at_call 119; refine (L.out _).mono ?_; rintro e w' ⟨rfl, rfl⟩)
        go_ret
        exact ⟨ret_bool HF.out.symm, rfl⟩
    · have : k = xs.length := by omega
      subst this
      rw [List.take_length] at ha
      have HF : Hid (valOk xs = decide (xs.length ≤ 64)) := by rw [Hid, HV.out, ha.out]; rfl
      go_wp2_with fail
      go_ret
      exact ⟨ret_bool (by rw [HF.out]; simp <;> omega), rfl⟩
end Go.Proofs.YtdmeegfdmdbkiaaDoor
