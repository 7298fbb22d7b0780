/-
  Part 4 of what the proof stands on: lemmas and contracts, each with its conditions ahead of the colon.
-/
import Derived.BigQuiet
import Derived.Test.YtkbejmjkdnfemaaGreatDoorPk02
import Derived.Test.YtkbejmjkdnfemaaGreatDoorPk03
namespace Go.Proofs.YtkbejmjkdnfemaaGreatDoor
set_option linter.unusedVariables false
set_option linter.unusedSimpArgs false
open Go.RowKit

def gameB (R C : Int) (x2 x3 : List Int) : Bool := inB R 1 6 && inB C 1 6 && (manyB x2 (R * C) (R * C) (-1000) 1000 && manyB x3 (R * C) (R * C) (-1000) 1000)
def valuesB (P T : Int) (x2 : List Int) : Bool := inB P 1 6 && inB T 1 8 && manyB x2 (P * T) (P * T) 0 1000
theorem prod_in {a b m n : Int} (a1 : 1 ≤ a) (am : a ≤ m) (b1 : 1 ≤ b) (bn : b ≤ n) : 1 ≤ a * b ∧ a * b ≤ m * n := by
  have h1 : 1 * 1 ≤ a * b := Int.mul_le_mul a1 b1 (by omega) (by omega)
  have h2 : a * b ≤ m * n := Int.mul_le_mul am bn (by omega) (by omega)
  omega
theorem many_eq {xs : List Int} {n lo hi : Int} : manyB xs n n lo hi = (allIn xs lo hi && decide ((xs.length : Int) = n)) := by
  unfold manyB
  rw [Bool.and_comm]
  congr 1
  rw [Bool.eq_iff_iff, inB_iff, decide_eq_true_eq]
  omega
theorem isSide_any (n : Int) (w : World) :
    Calls Tryz.prog 128 #[.int .i64 n] w fun e w' => e = .returned (.bool (inB n 1 6)) ∧ w = w' := by
  go_enter Tryz.func128, Tryz.ntmps128
  go_wp2_with (go_at_call 132; refine (within_any _ _ _ _).mono ?_; rintro e w' ⟨rfl, rfl⟩)
  go_ret
  exact ⟨rfl, rfl⟩
set_option maxRecDepth 10000 in
theorem isGains_any (w : World) (a : Option Addr) (c : Nat) (xs : List Int) (R C : Int) (p1 : 1 ≤ R * C) (p2 : R * C ≤ 1000) (h : Rd w w.heap.size a (ints xs)) (hl : xs.length ≤ 1048576) :
    Calls Tryz.prog 129 #[.slice a xs.length c, .int .i64 R, .int .i64 C] w fun e w' => e = .returned (.bool (manyB xs (R * C) (R * C) (-1000) 1000)) ∧ w = w' := by
  have e1 : IntKind.i64.wrap (R * C) = R * C := IntWalk.i64_in _ (by omega)
  have L := Lib.hid (areMany_any w a c xs (R * C) (R * C) (-1000) 1000 h (by omega))
  clear h
  go_enter Tryz.func129, Tryz.ntmps129
  go_wp2_with (go_at_call 133; refine (L.out).mono ?_; rintro e w' ⟨rfl, rfl⟩)
  go_ret
  exact ⟨rfl, rfl⟩
set_option maxRecDepth 10000 in
set_option maxHeartbeats 4000000 in
theorem validGame_any (w : World) (U R : Int) (a2 : Option Addr) (c2 : Nat) (x2 : List Int) (a3 : Option Addr) (c3 : Nat) (x3 : List Int) (h : RdGame w w.heap.size a2 x2 a3 x3) (hl2 : x2.length ≤ 1048576) (hl3 : x3.length ≤ 1048576) :
    Calls Tryz.prog 52 #[.agg #[.int .i64 U, .int .i64 R, .slice a2 x2.length c2, .slice a3 x3.length c3]] w fun e w' => e = .returned (.bool (gameB U R x2 x3)) ∧ Below w.heap.size w w' := by
  have LU := Lib.hid (fun v => isSide_any U v)
  have LR := Lib.hid (fun v => isSide_any R v)
  cases t1 : inB U 1 6 with
  | false =>
    have HF : Hid (gameB U R x2 x3 = false) := by simp [Hid, gameB, t1]
    rw [t1] at LU
    clear h
    go_enter Tryz.func52, Tryz.ntmps52
    go_wp2_with (go_at_call 128; with_reducible refine (LU.out _).mono ?_; rintro e w' ⟨rfl, rfl⟩)
    go_ret
    exact ⟨ret_bool HF.out.symm, bl1 _ _⟩
  | true =>
    rw [t1] at LU
    cases t2 : inB R 1 6 with
    | false =>
      have HF : Hid (gameB U R x2 x3 = false) := by simp [Hid, gameB, t1, t2]
      rw [t2] at LR
      clear h
      go_enter Tryz.func52, Tryz.ntmps52
      go_wp2_with (first | (go_at_call 128; with_reducible refine (LU.out _).mono ?_; rintro e w' ⟨rfl, rfl⟩) | (go_at_call 128; with_reducible refine (LR.out _).mono ?_; rintro e w' ⟨rfl, rfl⟩))
      go_ret
      exact ⟨ret_bool HF.out.symm, bl1 _ _⟩
    | true =>
      rw [t2] at LR
      obtain ⟨u1, u8⟩ := inB_iff.1 t1
      obtain ⟨r1, r8⟩ := inB_iff.1 t2
      obtain ⟨p1, p2⟩ := prod_in u1 u8 r1 r8
      have hB := bl1 w (.cells #[.int .i64 U, .int .i64 R, .slice a2 x2.length c2, .slice a3 x3.length c3] 26)
      have L2 := Lib.hid (isGains_any _ a2 c2 x2 U R p1 (by omega) (Rd.to h.1 hB) hl2)
      have L3 := Lib.hid (isGains_any _ a3 c3 x3 U R p1 (by omega) (Rd.to h.2 hB) hl3)
      have HF : Hid (gameB U R x2 x3 = (manyB x2 (U * R) (U * R) (-1000) 1000 && manyB x3 (U * R) (U * R) (-1000) 1000)) := by
        show _ = _
        simp only [gameB, t1, t2, Bool.true_and]
      clear h hB
      cases t3 : manyB x2 (U * R) (U * R) (-1000) 1000 with
      | false =>
        rw [t3] at L2
        have HF2 : Hid (gameB U R x2 x3 = false) := by rw [Hid, HF.out, t3]; rfl
        clear t3
        go_enter Tryz.func52, Tryz.ntmps52
        go_wp2_with (first | (go_at_call 128; with_reducible refine (LU.out _).mono ?_; rintro e w' ⟨rfl, rfl⟩) | (go_at_call 128; with_reducible refine (LR.out _).mono ?_; rintro e w' ⟨rfl, rfl⟩) | (go_at_call 129; with_reducible refine (L2.out).mono ?_; rintro e w' ⟨rfl, rfl⟩))
        go_ret
        exact ⟨ret_bool HF2.out.symm, bl1 _ _⟩
      | true =>
        rw [t3] at L2
        have HF2 : Hid (gameB U R x2 x3 = manyB x3 (U * R) (U * R) (-1000) 1000) := by rw [Hid, HF.out, t3]; rfl
        clear t3
        go_enter Tryz.func52, Tryz.ntmps52
        go_wp2_with (first | (go_at_call 128; with_reducible refine (LU.out _).mono ?_; rintro e w' ⟨rfl, rfl⟩) | (go_at_call 128; with_reducible refine (LR.out _).mono ?_; rintro e w' ⟨rfl, rfl⟩) | (go_at_call 129; with_reducible refine (L2.out).mono ?_; rintro e w' ⟨rfl, rfl⟩) | (go_at_call 129; with_reducible refine (L3.out).mono ?_; rintro e w' ⟨rfl, rfl⟩))
        go_ret
        exact ⟨ret_bool HF2.out.symm, bl1 _ _⟩
theorem areHeirs_any (n : Int) (w : World) :
    Calls Tryz.prog 131 #[.int .i64 n] w fun e w' => e = .returned (.bool (inB n 1 6)) ∧ w = w' := by
  go_enter Tryz.func131, Tryz.ntmps131
  go_wp2_with (go_at_call 132; refine (within_any _ _ _ _).mono ?_; rintro e w' ⟨rfl, rfl⟩)
  go_ret
  exact ⟨rfl, rfl⟩
set_option maxRecDepth 10000 in
set_option maxHeartbeats 4000000 in
theorem validValues_any (w : World) (U R : Int) (a2 : Option Addr) (c2 : Nat) (x2 : List Int) (h : RdValues w w.heap.size a2 x2) (hl2 : x2.length ≤ 1048576) :
    Calls Tryz.prog 54 #[.agg #[.int .i64 U, .int .i64 R, .slice a2 x2.length c2]] w fun e w' => e = .returned (.bool (valuesB U R x2)) ∧ Below w.heap.size w w' := by
  have LU := Lib.hid (fun v => areHeirs_any U v)
  have LR := Lib.hid (fun v => within_any R 1 8 v)
  have B0 := bl1 w (.cells #[.int .i64 U, .int .i64 R, .slice a2 x2.length c2] 28)
  cases t1 : inB U 1 6 with
  | false =>
    have HF : Hid (valuesB U R x2 = false) := by simp [Hid, valuesB, t1]
    rw [t1] at LU
    clear h
    go_enter Tryz.func54, Tryz.ntmps54
    go_wp2_with (go_at_call 131; with_reducible refine (LU.out _).mono ?_; rintro e w' ⟨rfl, rfl⟩)
    go_ret
    exact ⟨ret_bool HF.out.symm, bl1 _ _⟩
  | true =>
    rw [t1] at LU
    cases t2 : inB R 1 8 with
    | false =>
      have HF : Hid (valuesB U R x2 = false) := by simp [Hid, valuesB, t1, t2]
      rw [t2] at LR
      clear h
      go_enter Tryz.func54, Tryz.ntmps54
      go_wp2_with (first | (go_at_call 131; with_reducible refine (LU.out _).mono ?_; rintro e w' ⟨rfl, rfl⟩) | (go_at_call 132; with_reducible refine (LR.out _).mono ?_; rintro e w' ⟨rfl, rfl⟩))
      go_ret
      exact ⟨ret_bool HF.out.symm, bl1 _ _⟩
    | true =>
      rw [t2] at LR
      obtain ⟨u1, u8⟩ := inB_iff.1 t1
      obtain ⟨r1, r8⟩ := inB_iff.1 t2
      obtain ⟨p1, p2⟩ := prod_in u1 u8 r1 r8
      have HF : Hid (valuesB U R x2 = manyB x2 (U * R) (U * R) 0 1000) := by
        show _ = _
        simp only [valuesB, t1, t2, Bool.true_and]
      have e1 : IntKind.i64.wrap (U * R) = U * R := IntWalk.i64_in _ (by omega)
      have L2 : Hid (Calls Tryz.prog 133 #[.slice a2 x2.length c2, .int .i64 (U * R), .int .i64 (U * R), .int .i64 0, .int .i64 1000] (w.alloc (.cells #[.int .i64 U, .int .i64 R, .slice a2 x2.length c2] 28)) _) := areMany_any _ a2 c2 x2 (U * R) (U * R) 0 1000 (Rd.to h B0) (by omega)
      clear h
      go_enter Tryz.func54, Tryz.ntmps54
      go_wp2_with (first | (go_at_call 131; with_reducible refine (LU.out _).mono ?_; rintro e w' ⟨rfl, rfl⟩) | (go_at_call 132; with_reducible refine (LR.out _).mono ?_; rintro e w' ⟨rfl, rfl⟩) | (go_at_call 133; refine (L2.out).mono ?_; rintro e w' ⟨rfl, rfl⟩))
      go_ret
      exact ⟨ret_bool HF.out.symm, bl1 _ _⟩
end Go.Proofs.YtkbejmjkdnfemaaGreatDoor
namespace Go.Proofs.YtkbejmjkdnfemaaGreatDoor
set_option linter.unusedVariables false
set_option linter.unusedSimpArgs false
open Go.RowKit

structure Cr where
  U : Int
  R : Int
  ways : List Int
  costs : List Int
/-- Has a way a road? -/
def bitI (w : Int) (r : Nat) : Int := w / 2 ^ r % 2
theorem bitI_01 (w : Int) (r : Nat) : bitI w r = 0 ∨ bitI w r = 1 := by unfold bitI; omega
def sumR (f : Nat → Int) : Nat → Int
  | 0 => 0
  | k + 1 => sumR f k + f k
theorem sumR_congr {f g : Nat → Int} : ∀ {n : Nat}, (∀ i, i < n → f i = g i) → sumR f n = sumR g n
  | 0, _ => rfl
  | n + 1, h => by rw [sumR, sumR, sumR_congr (n := n) (fun i hi => h i (by omega)), h n (by omega)]
theorem sumR_sub (f g : Nat → Int) : ∀ n, sumR (fun i => f i - g i) n = sumR f n - sumR g n
  | 0 => rfl
  | n + 1 => by simp only [sumR]; rw [sumR_sub f g n]; omega
theorem sumR_bd {f : Nat → Int} {m : Int} : ∀ {n : Nat}, (∀ i, i < n → -m ≤ f i ∧ f i ≤ m) → -(m * n) ≤ sumR f n ∧ sumR f n ≤ m * n
  | 0, _ => by simp [sumR]
  | n + 1, h => by
    have i1 := sumR_bd (n := n) (fun i hi => h i (by omega))
    have h2 := h n (by omega)
    have e : m * ((n + 1 : Nat) : Int) = m * n + m := by rw [Int.natCast_add, Int.mul_add]; simp
    simp only [sumR]
    rw [e]
    omega
/-- How many have a road. -/
def loadF (c : Cr) (ch : List Int) (r : Nat) : Int := (ch.map fun k => bitI (c.ways.getD k.toNat 0) r).sum
theorem load_bd (c : Cr) (r : Nat) : ∀ ch : List Int, 0 ≤ loadF c ch r ∧ loadF c ch r ≤ ch.length
  | [] => by simp [loadF]
  | k :: ch => by
    have := load_bd c r ch
    have h2 := bitI_01 (c.ways.getD k.toNat 0) r
    simp only [loadF, List.map_cons, List.sum_cons, List.length_cons] at this ⊢
    omega
theorem load_snoc (c : Cr) (ch : List Int) (k : Int) (r : Nat) : loadF c (ch ++ [k]) r = loadF c ch r + bitI (c.ways.getD k.toNat 0) r := by simp [loadF]
theorem load_set (c : Cr) (r : Nat) (k : Int) : ∀ (ch : List Int) (u : Nat), u < ch.length → loadF c (ch.set u k) r = loadF c ch r - bitI (c.ways.getD (ch.getD u 0).toNat 0) r + bitI (c.ways.getD k.toNat 0) r
  | [], u, h => by simp at h
  | x :: ch, 0, _ => by simp [loadF]; omega
  | x :: ch, u + 1, h => by
    have := load_set c r k ch u (by simpa using h)
    simp only [loadF, List.set_cons_succ, List.map_cons, List.sum_cons, List.getD_cons_succ] at this ⊢
    omega
theorem load_ge (c : Cr) (r : Nat) : ∀ (ch : List Int) (u : Nat), u < ch.length → bitI (c.ways.getD (ch.getD u 0).toNat 0) r ≤ loadF c ch r
  | [], u, h => by simp at h
  | x :: ch, 0, _ => by
    have := load_bd c r ch
    simp only [loadF, List.map_cons, List.sum_cons, List.getD_cons_zero] at this ⊢
    omega
  | x :: ch, u + 1, h => by
    have := load_ge c r ch u (by simpa using h)
    have h2 := bitI_01 (c.ways.getD x.toNat 0) r
    simp only [loadF, List.map_cons, List.sum_cons, List.getD_cons_succ] at this ⊢
    omega
/-- What a road costs each of n. -/
def costF (c : Cr) (r : Nat) (n : Int) : Int := if n = 0 then 0 else c.costs.getD ((r : Int) * c.U + n - 1).toNat 0
/-- What a user pays. -/
def payR (c : Cr) (ch : List Int) (w : Int) (r : Nat) : Int := if bitI (c.ways.getD w.toNat 0) r = 1 then costF c r (loadF c ch r) else 0
def paysF (c : Cr) (ch : List Int) (u : Nat) : Int := sumR (payR c ch (ch.getD u 0)) c.R.toNat
def potR (c : Cr) (ch : List Int) (r : Nat) : Int := sumR (fun k => costF c r (k + 1)) (loadF c ch r).toNat
def potF (c : Cr) (ch : List Int) : Int := sumR (potR c ch) c.R.toNat
theorem getD_set_same {xs : List Int} {q : Nat} (h : q < xs.length) (v : Int) : (xs.set q v).getD q 0 = v := by simp [List.getD, h]
theorem pot_step (c : Cr) (ch : List Int) (u : Nat) (k : Int) (hu : u < ch.length) : potF c (ch.set u k) - potF c ch = paysF c (ch.set u k) u - paysF c ch u := by
  unfold potF paysF
  rw [← sumR_sub, ← sumR_sub, getD_set_same hu]
  refine sumR_congr fun r _ => ?_
  have e1 := load_set c r k ch u hu
  have e2 := load_ge c r ch u hu
  have e3 := load_bd c r ch
  unfold potR payR
  rw [e1]
  generalize loadF c ch r = L at *
  rcases bitI_01 (c.ways.getD (ch.getD u 0).toNat 0) r with hb | hb <;> rcases bitI_01 (c.ways.getD k.toNat 0) r with hb' | hb' <;> rw [hb] at e1 e2 ⊢ <;> rw [hb']
  · simp
  · obtain ⟨m, hm⟩ : ∃ m : Nat, L = m := ⟨L.toNat, by omega⟩
    subst hm
    have e4 : ((m : Int) - 0 + 1).toNat = m + 1 := by omega
    rw [e4, Int.toNat_natCast, sumR]
    simp
    omega
  · obtain ⟨m, hm⟩ : ∃ m : Nat, L = (m : Int) + 1 := ⟨(L - 1).toNat, by omega⟩
    subst hm
    have e4 : ((m : Int) + 1 - 1 + 0).toNat = m := by omega
    have e5 : ((m : Int) + 1).toNat = m + 1 := by omega
    rw [e4, e5, sumR]
    simp
    omega
  · have e4 : L - 1 + 1 = L := by omega
    rw [e4]
    simp

/-- Seeks the first least number below one. -/
def scanF (f : Nat → Int) (l : Int) : Nat → Option Nat × Int
  | 0 => (none, l)
  | k + 1 => if f k < (scanF f l k).2 then (some k, f k) else scanF f l k
theorem scan_spec (f : Nat → Int) (l : Int) : ∀ n, (match (scanF f l n).1 with | none => (scanF f l n).2 = l | some k => k < n ∧ (scanF f l n).2 = f k ∧ f k < l) ∧ (scanF f l n).2 ≤ l ∧ ∀ k, k < n → (scanF f l n).2 ≤ f k
  | 0 => ⟨rfl, Int.le_refl _, fun k hk => by omega⟩
  | n + 1 => by
    obtain ⟨h1, h2, h3⟩ := scan_spec f l n
    rw [scanF]
    by_cases h : f n < (scanF f l n).2
    · rw [if_pos h]
      refine ⟨⟨by omega, rfl, by omega⟩, by show f n ≤ l; omega, fun k hk => ?_⟩
      by_cases e : k = n
      · subst e; exact Int.le_refl _
      · have := h3 k (by omega); show f n ≤ f k; omega
    · rw [if_neg h]
      refine ⟨?_, h2, fun k hk => ?_⟩
      · cases hs : (scanF f l n).1 with
        | none => rw [hs] at h1; exact h1
        | some k => rw [hs] at h1; exact ⟨by omega, h1.2⟩
      · by_cases e : k = n
        · subst e; omega
        · exact h3 k (by omega)
/-- The better way of a user, if there is one. -/
def wayF (c : Cr) (ch : List Int) (u : Nat) : Option Nat := (scanF (fun k => paysF c (ch.set u (k : Int)) u) (paysF c ch u) c.ways.length).1
/-- The first user from k on who would rather take another way, and that way. -/
def betterFrom (c : Cr) (ch : List Int) : Nat → Nat → Option (Nat × Nat)
  | 0, _ => none
  | f + 1, u => match wayF c ch u with
    | some k => some (u, k)
    | none => betterFrom c ch f (u + 1)
def betterF (c : Cr) (ch : List Int) : Option (Nat × Nat) := betterFrom c ch ch.length 0
theorem wayF_some {c : Cr} {ch : List Int} {u k : Nat} (h : wayF c ch u = some k) : k < c.ways.length ∧ paysF c (ch.set u (k : Int)) u < paysF c ch u := by
  have := (scan_spec (fun k => paysF c (ch.set u (k : Int)) u) (paysF c ch u) c.ways.length).1
  unfold wayF at h
  rw [h] at this
  exact ⟨this.1, this.2.2⟩
theorem betterFrom_some {c : Cr} {ch : List Int} {p : Nat × Nat} : ∀ {f u : Nat}, betterFrom c ch f u = some p → p.1 < u + f ∧ wayF c ch p.1 = some p.2
  | 0, _, h => by simp [betterFrom] at h
  | f + 1, u, h => by
    rw [betterFrom] at h
    split at h
    case h_1 k hk => injection h with h; subst h; exact ⟨by omega, hk⟩
    case h_2 => have := betterFrom_some h; exact ⟨by omega, this.2⟩
theorem better_some {c : Cr} {ch : List Int} {u k : Nat} (h : betterF c ch = some (u, k)) : u < ch.length ∧ k < c.ways.length ∧ potF c (ch.set u (k : Int)) < potF c ch := by
  obtain ⟨h1, h2⟩ := betterFrom_some h
  obtain ⟨h3, h4⟩ := wayF_some h2
  have hu : u < ch.length := by simpa using h1
  have := pot_step c ch u k hu
  exact ⟨hu, h3, by simp only at h4; omega⟩
def validB (c : Cr) : Bool := inB c.U 1 8 && inB c.R 1 8 && manyB c.ways 1 8 1 (2 ^ c.R.toNat - 1) && manyB c.costs (c.U * c.R) (c.U * c.R) (-100000) 100000
structure Valid (c : Cr) : Prop where
  u1 : 1 ≤ c.U
  u8 : c.U ≤ 8
  r1 : 1 ≤ c.R
  r8 : c.R ≤ 8
  w1 : 1 ≤ c.ways.length
  w8 : c.ways.length ≤ 8
  way : ∀ x ∈ c.ways, 1 ≤ x ∧ x ≤ 255
  clen : (c.costs.length : Int) = c.U * c.R
  cost : ∀ x ∈ c.costs, -100000 ≤ x ∧ x ≤ 100000
theorem valid_of {c : Cr} (h : validB c = true) : Valid c := by
  simp only [validB, Bool.and_eq_true, inB_iff, manyB_iff] at h
  obtain ⟨⟨⟨⟨h1, h2⟩, h3, h4⟩, ⟨h5, h6⟩, h7⟩, ⟨h8, h9⟩, h10⟩ := h
  refine ⟨h1, h2, h3, h4, by omega, by omega, fun x hx => ?_, by omega, h10⟩
  have h11 := h7 x hx
  have : (2 : Int) ^ c.R.toNat ≤ 2 ^ 8 := by
    have : (2 : Nat) ^ c.R.toNat ≤ 2 ^ 8 := Nat.pow_le_pow_right (by omega) (by omega)
    exact_mod_cast this
  omega
/-- A valid crowd, and choices of its users. -/
def canB (c : Cr) (ch : List Int) : Bool := validB c && manyB ch c.U c.U 0 ((c.ways.length : Int) - 1)
structure Can (c : Cr) (ch : List Int) : Prop where
  v : Valid c
  len : (ch.length : Int) = c.U
  mem : ∀ x ∈ ch, 0 ≤ x ∧ x < c.ways.length
theorem can_of {c : Cr} {ch : List Int} (h : canB c ch = true) : Can c ch := by
  simp only [canB, Bool.and_eq_true, manyB_iff] at h
  obtain ⟨h1, ⟨h2, h3⟩, h4⟩ := h
  exact ⟨valid_of h1, by omega, fun x hx => by have := h4 x hx; omega⟩
theorem Can.set {c : Cr} {ch : List Int} (h : Can c ch) {u k : Nat} (hk : k < c.ways.length) : Can c (ch.set u (k : Int)) :=
  ⟨h.v, by rw [List.length_set]; exact h.len, fun x hx => by
    rcases List.mem_or_eq_of_mem_set hx with hx | rfl
    · exact h.mem x hx
    · omega⟩
theorem cost_bd {c : Cr} (h : Valid c) (r : Nat) (n : Int) : -100000 ≤ costF c r n ∧ costF c r n ≤ 100000 := by
  unfold costF
  split
  · omega
  · by_cases hj : ((r : Int) * c.U + n - 1).toNat < c.costs.length
    · exact h.cost _ (List.mem_of_getElem? (get_of_lt hj))
    · rw [List.getD_eq_getElem?_getD, List.getElem?_eq_none (by omega), Option.getD_none]; omega
theorem pays_bd {c : Cr} (h : Valid c) (ch : List Int) (u : Nat) : -800000 ≤ paysF c ch u ∧ paysF c ch u ≤ 800000 := by
  have := sumR_bd (f := payR c ch (ch.getD u 0)) (m := 100000) (n := c.R.toNat) (fun i _ => by
    unfold payR
    split
    · exact cost_bd h i _
    · omega)
  have h8 := h.r8
  unfold paysF
  omega
theorem pot_bd {c : Cr} {ch : List Int} (h : Can c ch) : -6400000 ≤ potF c ch ∧ potF c ch ≤ 6400000 := by
  have h1 := h.len
  have h2 := h.v.u8
  have := sumR_bd (f := potR c ch) (m := 800000) (n := c.R.toNat) (fun r _ => by
    unfold potR
    have hl := load_bd c r ch
    have := sumR_bd (f := fun k => costF c r (k + 1)) (m := 100000) (n := (loadF c ch r).toNat) (fun i _ => cost_bd h.v r _)
    omega)
  have h8 := h.v.r8
  unfold potF
  omega
/-- Better choices, one after another, n at most; and how many. -/
def restN (c : Cr) : Nat → List Int → List Int × Nat
  | 0, ch => (ch, 0)
  | n + 1, ch => match betterF c ch with
    | none => (ch, 0)
    | some (u, k) => ((restN c n (ch.set u (k : Int))).1, (restN c n (ch.set u (k : Int))).2 + 1)
def measF (c : Cr) (ch : List Int) : Nat := (potF c ch + 6400000).toNat
def restF (c : Cr) (ch : List Int) : List Int × Nat := restN c (measF c ch + 1) ch
theorem restN_enough {c : Cr} : ∀ {n m : Nat} {ch : List Int}, Can c ch → measF c ch < n → measF c ch < m → restN c n ch = restN c m ch
  | 0, _, _, _, h, _ => by omega
  | _ + 1, 0, _, _, _, h => by omega
  | n + 1, m + 1, ch, hc, h1, h2 => by
    rw [restN, restN]
    cases hb : betterF c ch with
    | none => rfl
    | some p =>
      obtain ⟨u, k⟩ := p
      obtain ⟨_, h4, h5⟩ := better_some hb
      have b1 := pot_bd hc
      have b2 := pot_bd (hc.set (u := u) h4)
      have : measF c (ch.set u (k : Int)) < measF c ch := by unfold measF; omega
      simp only
      rw [restN_enough (n := n) (m := m) (hc.set h4) (by omega) (by omega)]
theorem restF_none {c : Cr} {ch : List Int} (h : betterF c ch = none) : restF c ch = (ch, 0) := by rw [restF, restN, h]
theorem restF_some {c : Cr} {ch : List Int} {u k : Nat} (hc : Can c ch) (h : betterF c ch = some (u, k)) : restF c ch = ((restF c (ch.set u (k : Int))).1, (restF c (ch.set u (k : Int))).2 + 1) := by
  obtain ⟨_, h4, h5⟩ := better_some h
  have b1 := pot_bd hc
  have b2 := pot_bd (hc.set (u := u) h4)
  have hm : measF c (ch.set u (k : Int)) < measF c ch := by unfold measF; omega
  rw [restF, restN, h, restF]
  simp only
  rw [restN_enough (n := measF c ch) (m := measF c (ch.set u (k : Int)) + 1) (hc.set h4) (by omega) (by omega)]
theorem meas_step {c : Cr} {ch : List Int} {u k : Nat} (hc : Can c ch) (h : betterF c ch = some (u, k)) : measF c (ch.set u (k : Int)) < measF c ch := by
  obtain ⟨_, h4, h5⟩ := better_some h
  have b1 := pot_bd hc
  have b2 := pot_bd (hc.set (u := u) h4)
  unfold measF; omega
theorem restN_rest {c : Cr} : ∀ {n : Nat} {ch : List Int}, Can c ch → measF c ch < n → Can c (restN c n ch).1 ∧ betterF c (restN c n ch).1 = none ∧ (restN c n ch).2 + measF c (restN c n ch).1 ≤ measF c ch
  | 0, _, _, h => by omega
  | n + 1, ch, hc, h1 => by
    rw [restN]
    cases hb : betterF c ch with
    | none => exact ⟨hc, hb, by simp⟩
    | some p =>
      obtain ⟨u, k⟩ := p
      have h4 := (better_some hb).2.1
      have := meas_step hc hb
      obtain ⟨i1, i2, i3⟩ := restN_rest (n := n) (hc.set (u := u) h4) (by omega)
      exact ⟨i1, i2, by simp only; omega⟩
theorem restF_rest {c : Cr} {ch : List Int} (hc : Can c ch) : Can c (restF c ch).1 ∧ betterF c (restF c ch).1 = none ∧ (restF c ch).2 + measF c (restF c ch).1 ≤ measF c ch := restN_rest hc (by omega)
end Go.Proofs.YtkbejmjkdnfemaaGreatDoor
namespace Go.Proofs.YtkbejmjkdnfemaaGreatDoor
set_option linter.unusedVariables false
set_option linter.unusedSimpArgs false
open Go.RowKit

end Go.Proofs.YtkbejmjkdnfemaaGreatDoor
namespace Go.Proofs.YtkbejmjkdnfemaaGreatDoor
set_option linter.unusedVariables false
set_option linter.unusedSimpArgs false
open Go.RowKit

def totalF (c : Cr) (ch : List Int) : Int := sumR (paysF c ch) c.U.toNat
abbrev Best := Option (List Int × Int)
theorem total_bd {c : Cr} (h : Valid c) (ch : List Int) : -6400000 ≤ totalF c ch ∧ totalF c ch ≤ 6400000 := by
  have := sumR_bd (f := paysF c ch) (m := 800000) (n := c.U.toNat) (fun i _ => pays_bd h ch i)
  have := h.u8
  unfold totalF
  omega
end Go.Proofs.YtkbejmjkdnfemaaGreatDoor
