/-
  The library's Index, Contains, IndexFunc and ContainsFunc at the types that are met here.
-/
import Derived.Test.YthofpfnccgfohaaBase
namespace Go.Proofs.Ythofpfnccgfohaa
set_option linter.unusedVariables false
set_option linter.unusedSimpArgs false
open Go.RowKit

/-- The first index below n for which p says yes; -1 if there is none. -/
def findI (p : Nat → Bool) (n : Nat) : Int := match (List.range n).find? p with
  | some j => j
  | none => -1
theorem findI_here {p : Nat → Bool} {n k : Nat} (hk : k < n) (hp : p k = true) (hb : ∀ j, j < k → p j = false) : findI p n = k := by
  have : (List.range n).find? p = some k := by
    rw [List.find?_range_eq_some]
    exact ⟨hp, by simpa using hk, fun j hj => by simp [hb j hj]⟩
  simp [findI, this]
theorem findI_none {p : Nat → Bool} {n : Nat} (hb : ∀ j, j < n → p j = false) : findI p n = -1 := by
  have : (List.range n).find? p = none := by
    rw [List.find?_eq_none]
    intro j hj
    simp [hb j (by simpa using hj)]
  simp [findI, this]
theorem findI_spec (p : Nat → Bool) (n : Nat) : (∃ k, k < n ∧ p k = true ∧ (∀ j, j < k → p j = false) ∧ findI p n = k) ∨ ((∀ j, j < n → p j = false) ∧ findI p n = -1) := by
  by_cases h : ∃ k, k < n ∧ p k = true
  · obtain ⟨k, hk, hm⟩ : ∃ k, (k < n ∧ p k = true) ∧ ∀ j, j < k → ¬ (j < n ∧ p j = true) := by
      obtain ⟨k, hk⟩ := h
      induction k using Nat.strongRecOn with
      | _ k ih =>
        by_cases hh : ∃ j, j < k ∧ j < n ∧ p j = true
        · obtain ⟨j, h1, h2⟩ := hh; exact ih j h1 h2
        · exact ⟨k, hk, fun j hj hh2 => hh ⟨j, hj, hh2⟩⟩
    have hb : ∀ j, j < k → p j = false := fun j hj => by
      have := hm j hj
      cases hp : p j with
      | false => rfl
      | true => exact absurd ⟨by omega, hp⟩ this
    exact .inl ⟨k, hk.1, hk.2, hb, findI_here hk.1 hk.2 hb⟩
  · have hb : ∀ j, j < n → p j = false := fun j hj => by
      cases hp : p j with
      | false => rfl
      | true => exact absurd ⟨j, hj, hp⟩ h
    exact .inr ⟨hb, findI_none hb⟩
theorem findI_bd (p : Nat → Bool) (n : Nat) : -1 ≤ findI p n ∧ findI p n < n := by
  rcases findI_spec p n with ⟨k, hk, _, _, e⟩ | ⟨_, e⟩ <;> rw [e] <;> omega
def anyI (p : Nat → Bool) (n : Nat) : Bool := decide (0 ≤ findI p n)
theorem anyI_iff {p : Nat → Bool} {n : Nat} : anyI p n = true ↔ ∃ k, k < n ∧ p k = true := by
  unfold anyI
  rw [decide_eq_true_iff]
  rcases findI_spec p n with ⟨k, hk, hp, _, e⟩ | ⟨hb, e⟩
  · rw [e]; exact ⟨fun _ => ⟨k, hk, hp⟩, fun _ => by omega⟩
  · rw [e]
    constructor
    · intro h; omega
    · rintro ⟨k, hk, hp⟩; rw [hb k hk] at hp; cases hp
theorem anyI_no {p : Nat → Bool} {n : Nat} : anyI p n = false ↔ ∀ k, k < n → p k = false := by
  rw [← Bool.not_eq_true, anyI_iff]
  constructor
  · intro h k hk
    cases hp : p k with
    | false => rfl
    | true => exact absurd ⟨k, hk, hp⟩ h
  · rintro h ⟨k, hk, hp⟩; rw [h k hk] at hp; cases hp
theorem range_any (p : Nat → Bool) (n : Nat) : (List.range n).any p = anyI p n := by
  cases h : anyI p n with
  | true =>
    obtain ⟨k, hk, hp⟩ := anyI_iff.1 h
    exact List.any_eq_true.2 ⟨k, by simpa using hk, hp⟩
  | false =>
    rw [List.any_eq_false]
    intro k hk
    rw [anyI_no.1 h k (by simpa using hk)]; simp
theorem findI_congr {p q : Nat → Bool} {n : Nat} (h : ∀ j, j < n → p j = q j) : findI p n = findI q n := by
  unfold findI
  have : ∀ l : List Nat, (∀ j ∈ l, p j = q j) → l.find? p = l.find? q := by
    intro l
    induction l with
    | nil => simp
    | cons x xs ih => intro hl; rw [List.find?_cons, List.find?_cons, hl x (by simp), ih (fun j hj => hl j (by simp [hj]))]
  rw [this _ (fun j hj => h j (by simpa using hj))]

/-- What a slice of one-cell elements holds at an index. -/
theorem Rd.getV {w : World} {B : Nat} {a : Option Addr} {vs : List Value} (h : Rd w B a vs) {k : Nat} (hk : k < vs.length) :
    ∃ b o v, a = some ⟨b, o, none⟩ ∧ b < B ∧ w.cell? ⟨b, o + k, none⟩ = some v ∧ Hid (vs[k]? = some v) := by
  rcases h with h | ⟨b, o, ha, hb, hc⟩
  · subst h; simp at hk
  · exact ⟨b, o, vs[k], ha, hb, by rw [hc k hk, List.getElem?_eq_getElem hk], by simp [Hid, List.getElem?_eq_getElem hk]⟩

/-- The index of a number in a list, -1 if it is not there. -/
def indexI (xs : List Int) (v : Int) : Int := findI (fun j => v == xs.getD j 0) xs.length
def containsI (xs : List Int) (v : Int) : Bool := decide (0 ≤ indexI xs v)
theorem containsI_iff {xs : List Int} {v : Int} : containsI xs v = true ↔ v ∈ xs := by
  show anyI _ _ = true ↔ _
  rw [anyI_iff]
  constructor
  · rintro ⟨k, hk, h⟩
    rw [beq_iff_eq] at h
    rw [h]; exact List.mem_of_getElem? (get_of_lt hk)
  · intro h
    obtain ⟨k, hk, e⟩ := List.getElem_of_mem h
    exact ⟨k, hk, by rw [beq_iff_eq, ← e]; simp [List.getD, hk]⟩

theorem index_any (w : World) (a : Option Addr) (c : Nat) (xs : List Int) (v : Int) (h : Rd w w.heap.size a (ints xs)) (hl : xs.length ≤ 1152921504606846976) :
    Calls Try.prog 45 #[.slice a xs.length c, .int .i64 v] w fun e w' => e = .returned (.int .i64 (indexI xs v)) ∧ w = w' := by
  go_enter Try.func45, Try.ntmps45
  go_wp2
  go_loop [8] (fun i => ∃ k : Nat, k ≤ xs.length ∧ i = .int .i64 k ∧ Hid (∀ j, j < k → (v == xs.getD j 0) = false)) (fun i => xs.length - (intOf i).toNat)
  case atStart => exact ⟨0, Nat.zero_le _, rfl, fun j hj => by omega⟩
  case round =>
    obtain ⟨k, hk, rfl, ha⟩ := hrel
    by_cases hlt : k < xs.length
    · obtain ⟨b, o, x, rfl, hbb, hck, hx⟩ := h.get hlt
      clear h
      cases hin : (v == x) with
      | false =>
        have hF : Hid (∀ j, j < k + 1 → (v == xs.getD j 0) = false) := fun j hj => by
          by_cases e : j = k
          · rw [e, getD_of_get hx.out, hin]
          · exact ha.out j (by omega)
        go_wp2
        go_round
        case rel => exact ⟨k + 1, by omega, by go_num, hF⟩
        case measure => simp [intOf]; omega
      | true =>
        have hF : Hid (indexI xs v = k) := findI_here hlt (by rw [getD_of_get hx.out, hin]) ha.out
        go_wp2
        go_ret
        exact ⟨ret_int hF.out.symm, rfl⟩
    · have : k = xs.length := by omega
      subst this
      have hF : Hid (indexI xs v = -1) := findI_none ha.out
      go_wp2
      go_ret
      exact ⟨ret_int hF.out.symm, rfl⟩
theorem contains_any (w : World) (a : Option Addr) (c : Nat) (xs : List Int) (v : Int) (h : Rd w w.heap.size a (ints xs)) (hl : xs.length ≤ 1152921504606846976) :
    Calls Try.prog 27 #[.slice a xs.length c, .int .i64 v] w fun e w' => e = .returned (.bool (containsI xs v)) ∧ w = w' := by
  go_enter Try.func27, Try.ntmps27
  go_wp2_with (go_at_call 45; refine (index_any _ _ _ xs v h hl).mono ?_; rintro e w' ⟨rfl, rfl⟩)
  go_ret
  exact ⟨rfl, rfl⟩
set_option maxHeartbeats 1000000 in
theorem indexFunc_I (K : Nat) (caps : Array Value) (hK : ∀ (args : Array Value) (w : World), (callFunc K args).run Try.prog w = .ok (.enter K args) w)
    (w : World) (a : Option Addr) (c : Nat) (vs : List Value) (p : Nat → Bool) (h : Rd w w.heap.size a vs) (hl : vs.length ≤ 1152921504606846976)
    (hcall : ∀ w' j v, Below w.heap.size w w' → vs[j]? = some v → Calls Try.prog K (#[v] ++ caps) w' fun e w'' => e = .returned (.bool (p j)) ∧ Below w'.heap.size w' w'') :
    Calls Try.prog 25 #[.slice a vs.length c, .func (.func K) #[] caps] w fun e w' => e = .returned (.int .i64 (findI p vs.length)) ∧ Below w.heap.size w w' := by
  have Hc := Lib.hid hcall
  clear hcall
  go_enter Try.func25, Try.ntmps25
  go_wp2
  go_loopw [8] (fun i wr => ∃ k : Nat, k ≤ vs.length ∧ i = .int .i64 k ∧ Hid (∀ j, j < k → p j = false) ∧ Below w.heap.size w wr) (fun i _ => vs.length - (intOf i).toNat)
  case atStart => exact ⟨0, Nat.zero_le _, rfl, fun j hj => by omega, Below.refl _ _⟩
  case round =>
    obtain ⟨k, hk, rfl, ha, hw⟩ := hrel
    by_cases hlt : k < vs.length
    · obtain ⟨b, o, v, rfl, hbb, hck, hx⟩ := (h.below hw (Nat.le_refl _)).getV hlt
      clear h
      have HC := Lib.hid (Hc.out wr k v hw hx.out)
      cases hin : p k with
      | false =>
        have hF : Hid (∀ j, j < k + 1 → p j = false) := fun j hj => by
          by_cases e : j = k
          · rw [e, hin]
          · exact ha.out j (by omega)
        rw [hin] at HC
        go_wp2_with fail
        refine HC.out.mono ?_
        rintro e w2 ⟨rfl, hb2⟩
        have hw2 := below_then hw hb2
        go_wp2_with fail
        go_roundw
        case rel => exact ⟨k + 1, by omega, by go_num, hF, hw2⟩
        case measure => simp [intOf]; omega
      | true =>
        have hF : Hid (findI p vs.length = k) := findI_here hlt hin ha.out
        rw [hin] at HC
        go_wp2_with fail
        refine HC.out.mono ?_
        rintro e w2 ⟨rfl, hb2⟩
        have hw2 := below_then hw hb2
        go_wp2_with fail
        go_ret
        exact ⟨ret_int hF.out.symm, hw2⟩
    · have : k = vs.length := by omega
      subst this
      have hF : Hid (findI p vs.length = -1) := findI_none ha.out
      go_wp2
      go_ret
      exact ⟨ret_int hF.out.symm, hw⟩
theorem containsFunc_I (K : Nat) (caps : Array Value) (hK : ∀ (args : Array Value) (w : World), (callFunc K args).run Try.prog w = .ok (.enter K args) w)
    (w : World) (a : Option Addr) (c : Nat) (vs : List Value) (p : Nat → Bool) (h : Rd w w.heap.size a vs) (hl : vs.length ≤ 1152921504606846976)
    (hcall : ∀ w' j v, Below w.heap.size w w' → vs[j]? = some v → Calls Try.prog K (#[v] ++ caps) w' fun e w'' => e = .returned (.bool (p j)) ∧ Below w'.heap.size w' w'') :
    Calls Try.prog 22 #[.slice a vs.length c, .func (.func K) #[] caps] w fun e w' => e = .returned (.bool (anyI p vs.length)) ∧ Below w.heap.size w w' := by
  have HI := Lib.hid (indexFunc_I K caps hK w a c vs p h hl hcall)
  clear hcall h hK
  go_enter Try.func22, Try.ntmps22
  go_wp2_with fail
  refine HI.out.mono ?_
  rintro e w1 ⟨rfl, hb⟩
  go_wp2_with fail
  go_ret
  exact ⟨rfl, hb⟩
set_option maxHeartbeats 1000000 in
theorem indexFunc_L (K : Nat) (caps : Array Value) (hK : ∀ (args : Array Value) (w : World), (callFunc K args).run Try.prog w = .ok (.enter K args) w)
    (w : World) (a : Option Addr) (c : Nat) (vs : List Value) (p : Nat → Bool) (h : Rd w w.heap.size a vs) (hl : vs.length ≤ 1152921504606846976)
    (hcall : ∀ w' j v, Below w.heap.size w w' → vs[j]? = some v → Calls Try.prog K (#[v] ++ caps) w' fun e w'' => e = .returned (.bool (p j)) ∧ Below w'.heap.size w' w'') :
    Calls Try.prog 47 #[.slice a vs.length c, .func (.func K) #[] caps] w fun e w' => e = .returned (.int .i64 (findI p vs.length)) ∧ Below w.heap.size w w' := by
  have Hc := Lib.hid hcall
  clear hcall
  go_enter Try.func47, Try.ntmps47
  go_wp2
  go_loopw [8] (fun i wr => ∃ k : Nat, k ≤ vs.length ∧ i = .int .i64 k ∧ Hid (∀ j, j < k → p j = false) ∧ Below w.heap.size w wr) (fun i _ => vs.length - (intOf i).toNat)
  case atStart => exact ⟨0, Nat.zero_le _, rfl, fun j hj => by omega, Below.refl _ _⟩
  case round =>
    obtain ⟨k, hk, rfl, ha, hw⟩ := hrel
    by_cases hlt : k < vs.length
    · obtain ⟨b, o, v, rfl, hbb, hck, hx⟩ := (h.below hw (Nat.le_refl _)).getV hlt
      clear h
      have HC := Lib.hid (Hc.out wr k v hw hx.out)
      cases hin : p k with
      | false =>
        have hF : Hid (∀ j, j < k + 1 → p j = false) := fun j hj => by
          by_cases e : j = k
          · rw [e, hin]
          · exact ha.out j (by omega)
        rw [hin] at HC
        go_wp2_with fail
        refine HC.out.mono ?_
        rintro e w2 ⟨rfl, hb2⟩
        have hw2 := below_then hw hb2
        go_wp2_with fail
        go_roundw
        case rel => exact ⟨k + 1, by omega, by go_num, hF, hw2⟩
        case measure => simp [intOf]; omega
      | true =>
        have hF : Hid (findI p vs.length = k) := findI_here hlt hin ha.out
        rw [hin] at HC
        go_wp2_with fail
        refine HC.out.mono ?_
        rintro e w2 ⟨rfl, hb2⟩
        have hw2 := below_then hw hb2
        go_wp2_with fail
        go_ret
        exact ⟨ret_int hF.out.symm, hw2⟩
    · have : k = vs.length := by omega
      subst this
      have hF : Hid (findI p vs.length = -1) := findI_none ha.out
      go_wp2
      go_ret
      exact ⟨ret_int hF.out.symm, hw⟩
theorem containsFunc_L (K : Nat) (caps : Array Value) (hK : ∀ (args : Array Value) (w : World), (callFunc K args).run Try.prog w = .ok (.enter K args) w)
    (w : World) (a : Option Addr) (c : Nat) (vs : List Value) (p : Nat → Bool) (h : Rd w w.heap.size a vs) (hl : vs.length ≤ 1152921504606846976)
    (hcall : ∀ w' j v, Below w.heap.size w w' → vs[j]? = some v → Calls Try.prog K (#[v] ++ caps) w' fun e w'' => e = .returned (.bool (p j)) ∧ Below w'.heap.size w' w'') :
    Calls Try.prog 29 #[.slice a vs.length c, .func (.func K) #[] caps] w fun e w' => e = .returned (.bool (anyI p vs.length)) ∧ Below w.heap.size w w' := by
  have HI := Lib.hid (indexFunc_L K caps hK w a c vs p h hl hcall)
  clear hcall h hK
  go_enter Try.func29, Try.ntmps29
  go_wp2_with fail
  refine HI.out.mono ?_
  rintro e w1 ⟨rfl, hb⟩
  go_wp2_with fail
  go_ret
  exact ⟨rfl, hb⟩
end Go.Proofs.Ythofpfnccgfohaa
