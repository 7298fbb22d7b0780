/-
  Are all floats of a list finite: both roads.
-/
import Derived.Test.YtdmeegfdmdbkiaaFltF
import Derived.Test.YtdmeegfdmdbkiaaSlices
namespace Go.Proofs.Ytdmeegfdmdbkiaa
set_option linter.unusedVariables false
set_option linter.unusedSimpArgs false
open Go.RowKit

def finAll (xs : List Nat) : Bool := xs.all finB
theorem finAll_any (xs : List Nat) : finAll xs = !(anyI (fun j => !finB (xs.getD j 0)) xs.length) := by
  rw [Bool.eq_iff_iff, Bool.not_eq_true', anyI_no, finAll, List.all_eq_true]
  constructor
  · intro h k hk
    have := h (xs.getD k 0) (by rw [List.getD, List.getElem?_eq_getElem hk]; exact List.getElem_mem hk)
    rw [this]; rfl
  · intro h x hx
    obtain ⟨k, hk, e⟩ := List.getElem_of_mem hx
    have := h k hk
    rw [List.getD, List.getElem?_eq_getElem hk] at this
    simp only [Option.getD_some, e] at this
    simpa using this
set_option maxHeartbeats 1000000 in
theorem indexFunc_F (K : Nat) (caps : Array Value) (hK : ∀ (args : Array Value) (w : World), (callFunc K args).run Try.prog w = .ok (.enter K args) w)
    (w : World) (a : Option Addr) (c : Nat) (vs : List Value) (p : Nat → Bool) (h : Rd w w.heap.size a vs) (hl : vs.length ≤ 1152921504606846976)
    (hcall : ∀ w' j v, Below w.heap.size w w' → vs[j]? = some v → Calls Try.prog K (#[v] ++ caps) w' fun e w'' => e = .returned (.bool (p j)) ∧ Below w'.heap.size w' w'') :
    Calls Try.prog 80 #[.slice a vs.length c, .func (.func K) #[] caps] w fun e w' => e = .returned (.int .i64 (findI p vs.length)) ∧ Below w.heap.size w w' := by
  have Hc := Lib.hid hcall
  clear hcall
  go_enter Try.func80, Try.ntmps80
  go_wp2
  go_loopw [8] (fun i wr => ∃ k : Nat, k ≤ vs.length ∧ i = .int .i64 k ∧ Hid (∀ j, j < k → p j = false) ∧ Below w.heap.size w wr) (fun i _ => vs.length - (intOf i).toNat)
  case atStart => exact ⟨0, Nat.zero_le _, rfl, fun j hj => by omega, Below.refl _ _⟩
  case round =>
    obtain ⟨k, hk, rfl, ha, hw⟩ := hrel
    by_cases hlt : k < vs.length
    · obtain ⟨b, o, v, rfl, hbb, hck, hx⟩ := (h.below hw (Nat.le_refl _)).getV hlt
      clear h
      have HC := Lib.hid (Hc.out wr k v hw hx.out)
      cases hin : p k with
      | false =>
        have hF : Hid (∀ j, j < k + 1 → p j = false) := fun j hj => by
          by_cases e : j = k
          · rw [e, hin]
          · exact ha.out j (by omega)
        rw [hin] at HC
        go_wp2_with fail
        refine HC.out.mono ?_
        rintro e w2 ⟨rfl, hb2⟩
        have hw2 := below_then hw hb2
        go_wp2_with fail
        go_roundw
        case rel => exact ⟨k + 1, by omega, by go_num, hF, hw2⟩
        case measure => simp [intOf]; omega
      | true =>
        have hF : Hid (findI p vs.length = k) := findI_here hlt hin ha.out
        rw [hin] at HC
        go_wp2_with fail
        refine HC.out.mono ?_
        rintro e w2 ⟨rfl, hb2⟩
        have hw2 := below_then hw hb2
        go_wp2_with fail
        go_ret
        exact ⟨ret_int hF.out.symm, hw2⟩
    · have : k = vs.length := by omega
      subst this
      have hF : Hid (findI p vs.length = -1) := findI_none ha.out
      go_wp2
      go_ret
      exact ⟨ret_int hF.out.symm, hw⟩
theorem containsFunc_F (K : Nat) (caps : Array Value) (hK : ∀ (args : Array Value) (w : World), (callFunc K args).run Try.prog w = .ok (.enter K args) w)
    (w : World) (a : Option Addr) (c : Nat) (vs : List Value) (p : Nat → Bool) (h : Rd w w.heap.size a vs) (hl : vs.length ≤ 1152921504606846976)
    (hcall : ∀ w' j v, Below w.heap.size w w' → vs[j]? = some v → Calls Try.prog K (#[v] ++ caps) w' fun e w'' => e = .returned (.bool (p j)) ∧ Below w'.heap.size w' w'') :
    Calls Try.prog 70 #[.slice a vs.length c, .func (.func K) #[] caps] w fun e w' => e = .returned (.bool (anyI p vs.length)) ∧ Below w.heap.size w w' := by
  have HI := Lib.hid (indexFunc_F K caps hK w a c vs p h hl hcall)
  clear hcall h hK
  go_enter Try.func70, Try.ntmps70
  go_wp2_with fail
  refine HI.out.mono ?_
  rintro e w1 ⟨rfl, hb⟩
  go_wp2_with fail
  go_ret
  exact ⟨rfl, hb⟩
set_option maxRecDepth 10000 in
theorem enter_fin (args : Array Value) (w : World) : (callFunc 71 args).run Try.prog w = .ok (.enter 71 args) w := by kernel_rfl
theorem areFinite1_any (w : World) (x : Nat) :
    Calls Try.prog 71 #[.float .f32 x] w fun e w' => e = .returned (.bool (!finB x)) ∧ Below w.heap.size w w' := by
  have L := Lib.hid (isFinite_any w x)
  go_enter Try.func71, Try.ntmps71
  go_wp2_with fail
  refine L.out.mono ?_
  rintro e w1 ⟨rfl, n, rfl⟩
  go_wp2_with fail
  go_ret
  exact ⟨rfl, drewN_below w n⟩
set_option maxRecDepth 10000 in
set_option maxHeartbeats 4000000 in
theorem areFinite_any (w : World) (a : Option Addr) (c : Nat) (xs : List Nat) (h : Rd w w.heap.size a (flts xs)) (hl : xs.length ≤ 1048576) :
    Calls Try.prog 50 #[.slice a xs.length c] w fun e w' => e = .returned (.bool (finAll xs)) ∧ Below w.heap.size w w' := by
  have L := containsFunc_F 71 #[] enter_fin w a c (flts xs) (fun j => !finB (xs.getD j 0)) h (by rw [flts_length]; omega) (fun w' j v _ hv => by
    have hj : j < xs.length := by have := (List.getElem?_eq_some_iff.1 hv).1; simpa using this
    rw [flts_get hj] at hv
    injection hv with hv
    subst hv
    exact areFinite1_any w' _)
  rw [flts_length] at L
  have L := Lib.hid L
  have HF := Lib.hid (finAll_any xs)
  clear h
  go_enter Try.func50, Try.ntmps50
  go_wp2_with fail
  refine L.out.mono ?_
  rintro e w1 ⟨rfl, hb⟩
  go_wp2_with fail
  go_ret
  exact ⟨ret_bool HF.out.symm, hb⟩
theorem isF_any (w : World) (x : Nat) : Calls Try.prog 82 #[.float .f32 x] w fun e w' => e = .returned (.bool (finB x)) ∧ Below w.heap.size w w' :=
  (l01Finite_any w x).mono fun e w' ⟨h, n, hn⟩ => ⟨h, by rw [hn]; exact drewN_below w n⟩
set_option maxRecDepth 10000 in
set_option maxHeartbeats 4000000 in
theorem l02Finite_any (w : World) (a : Option Addr) (c : Nat) (xs : List Nat) (h : Rd w w.heap.size a (flts xs)) (hl : xs.length ≤ 1048576) :
    Calls Try.prog 78 #[.slice a xs.length c] w fun e w' => e = .returned (.bool (finAll xs)) ∧ Below w.heap.size w w' := by
  have HA := Lib.hid h
  clear h
  go_enter Try.func78, Try.ntmps78
  go_wp2_with fail
  go_loopw [3] (fun iv wr => ∃ k : Nat, k ≤ xs.length ∧ iv = .int .i64 k ∧ Hid (finAll (xs.take k) = true) ∧ Below w.heap.size w wr) (fun iv _ => xs.length - (intOf iv).toNat)
  case atStart => exact ⟨0, Nat.zero_le _, rfl, rfl, Below.refl _ _⟩
  case round =>
    obtain ⟨k, hk, rfl, ha, hw⟩ := hrel
    by_cases hlt : k < xs.length
    · obtain ⟨b, o, rfl, hbb, hcj⟩ := (HA.out.to hw).atF hlt
      have hck := hcj k hlt
      have hx : Hid (xs[k]? = some (xs.getD k 0)) := by simp [Hid, List.getD, List.getElem?_eq_getElem hlt]
      generalize xs.getD k 0 = x at hck hx
      clear hcj
      have L := Lib.hid (isF_any wr x)
      cases hin : finB x with
      | true =>
        rw [hin] at L
        have HN : Hid (finAll (xs.take (k + 1)) = true) := by
          show _ = _
          rw [List.take_add_one, hx.out, finAll, List.all_append, show (xs.take k).all finB = true from ha.out]; simp [hin]
        go_wp2_with fail
        refine L.out.mono ?_
        rintro e w1 ⟨rfl, hb⟩
        have hw2 := below_then hw hb
        clear hb hw hck
        go_wp2_with fail
        go_roundw
        case rel => exact ⟨k + 1, by omega, by go_num, HN, hw2⟩
        case measure => simp [intOf]; omega
      | false =>
        rw [hin] at L
        have HN : Hid (finAll xs = false) := by
          show _ = _
          unfold finAll
          rw [List.all_eq_false]
          exact ⟨x, List.mem_of_getElem? hx.out, by rw [hin]; simp⟩
        go_wp2_with fail
        refine L.out.mono ?_
        rintro e w1 ⟨rfl, hb⟩
        have hw2 := below_then hw hb
        clear hb hw hck
        go_wp2_with fail
        go_ret
        exact ⟨ret_bool HN.out.symm, hw2⟩
    · have : k = xs.length := by omega
      subst this
      rw [List.take_length] at ha
      go_wp2_with fail
      go_ret
      exact ⟨ret_bool ha.out.symm, hw⟩
end Go.Proofs.Ytdmeegfdmdbkiaa
