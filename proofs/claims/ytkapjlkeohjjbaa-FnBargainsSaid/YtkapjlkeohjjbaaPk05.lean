/-
  Part 5 of what the proof stands on: lemmas and contracts, each with its conditions ahead of the colon.
-/
import Derived.StillTailTactics
import Derived.Test.YtkapjlkeohjjbaaRows
import Derived.OpenShut
import Derived.ChangeAt
import Derived.WalkKit
import Derived.Test.YtkapjlkeohjjbaaPk01
import Derived.Test.YtkapjlkeohjjbaaPk04
namespace Go.Proofs.Ytkapjlkeohjjbaa
set_option linter.unusedVariables false
set_option linter.unusedSimpArgs false
open Ieee

theorem lin_is {p r s : Nat} (hp : p < 20) (hr : r < 20) (hs : s < 5) : ∃ d e b, double.sub (floatOfInt .f64 (r : Int)) (floatOfInt .f64 (p : Int)) = some d ∧ double.mul (tW s) d = some e ∧ double.add (floatOfInt .f64 (p : Int)) e = some b ∧ Is double b ((4 * (p : Int) + (s : Int) * ((r : Int) - (p : Int))).toNat * 2 ^ qU) := by
  have h := lin_table
  rw [List.all_eq_true] at h
  have h1 := h p (List.mem_range.2 hp)
  rw [List.all_eq_true] at h1
  have h2 := h1 r (List.mem_range.2 hr)
  rw [List.all_eq_true] at h2
  have h3 := h2 s (List.mem_range.2 hs)
  clear h h1 h2
  unfold linOk linW at h3
  cases hd : double.sub (floatOfInt .f64 (r : Int)) (floatOfInt .f64 (p : Int)) with
  | none => rw [hd] at h3; cases h3
  | some d =>
    rw [hd] at h3
    simp only at h3
    cases he : double.mul (tW s) d with
    | none => rw [he] at h3; cases h3
    | some e =>
      rw [he] at h3
      simp only at h3
      cases hb : double.add (floatOfInt .f64 (p : Int)) e with
      | none => rw [hb] at h3; cases h3
      | some b =>
        rw [hb] at h3
        simp only at h3
        refine ⟨d, e, b, rfl, he, hb, ?_⟩
        cases hm : double.read b with
        | infinity n => rw [hm] at h3; cases h3
        | nan n f => rw [hm] at h3; cases h3
        | number n m pl =>
          rw [hm] at h3
          cases n with
          | true => cases h3
          | false =>
            simp only [Bool.and_eq_true, decide_eq_true_eq] at h3
            obtain ⟨h4, h5⟩ := h3
            refine ⟨m, pl, hm, by rw [dbl_lp]; exact h4, h4, ?_⟩
            have hp2 : (0 : Int) < ((2 ^ qU : Nat) : Int) := by have := Nat.two_pow_pos qU; omega
            have h0 : 0 ≤ 4 * (p : Int) + (s : Int) * ((r : Int) - (p : Int)) := by
              rcases Int.lt_or_le (4 * (p : Int) + (s : Int) * ((r : Int) - (p : Int))) 0 with h6 | h6
              · have := Int.mul_neg_of_neg_of_pos h6 hp2
                rw [← h5] at this
                omega
              · exact h6
            have h7 : (((4 * (p : Int) + (s : Int) * ((r : Int) - (p : Int))).toNat * 2 ^ qU : Nat) : Int) = (4 * (p : Int) + (s : Int) * ((r : Int) - (p : Int))) * ((2 ^ qU : Nat) : Int) := by
              rw [Int.natCast_mul, Int.toNat_of_nonneg h0]
            rw [← h5] at h7
            exact (Int.ofNat_inj.1 h7).symm
theorem tw_step : ∀ s, s < 5 → double.add (tW s) 4598175219545276416 = some (tW (s + 1))
  | 0, _ => by decide +kernel
  | 1, _ => by decide +kernel
  | 2, _ => by decide +kernel
  | 3, _ => by decide +kernel
  | 4, _ => by decide +kernel
  | n + 5, h => by omega
theorem tw_zero : tW 0 = 0 := by decide +kernel
theorem tw_order : ∀ s, s ≤ 5 → FloatKind.f64.format.order (tW s) 4607182418800017408 = some (if s < 4 then .lt else if s = 4 then .eq else .gt)
  | 0, _ => by decide +kernel
  | 1, _ => by decide +kernel
  | 2, _ => by decide +kernel
  | 3, _ => by decide +kernel
  | 4, _ => by decide +kernel
  | 5, _ => by decide +kernel
  | n + 6, h => by omega
theorem neg_table : ((List.range 27).all fun k => (FloatKind.f64.format.order (floatOfInt .f64 ((k : Int) - 7)) 0 == some .lt) == decide ((k : Int) - 7 < 0)) = true := by decide +kernel
theorem neg_test {z : Int} (h0 : -7 ≤ z) (h1 : z ≤ 19) : (FloatKind.f64.format.order (floatOfInt .f64 z) 0 == some .lt) = decide (z < 0) := by
  have h := neg_table
  rw [List.all_eq_true] at h
  have h2 := h (z + 7).toNat (List.mem_range.2 (by omega))
  rw [beq_iff_eq] at h2
  rw [show (((z + 7).toNat : Nat) : Int) - 7 = z from by omega] at h2
  exact h2
/-- One test, word by word: it fails. -/
theorem quarter_test {A B P R1 p q u v s : Nat} (hP : Is double P (R1 * 2 ^ eV)) (hR : NearD R1 (A * B)) (hA : A ≤ 20 * wB) (hB : B ≤ 20 * wB) (hp : p < 20) (hq : q < 20) (hu : u < 20) (hv : v < 20) (hs : s < 5)
    (hK : FS p q u v s * ((wB : Int) * (wB : Int)) * 64 ≤ 1024 * ((A : Int) * (B : Int)) + 4 * ((wB : Int) * (wB : Int))) :
    ∃ d1 e1 b1 d2 e2 b2 h s1 r1 z1, (floatBits .sub .f64 (floatOfInt .f64 (u : Int)) (floatOfInt .f64 (p : Int)) = some d1 ∧ floatBits .mul .f64 (tW s) d1 = some e1 ∧ floatBits .add .f64 (floatOfInt .f64 (p : Int)) e1 = some b1) ∧
      (floatBits .sub .f64 (floatOfInt .f64 (v : Int)) (floatOfInt .f64 (q : Int)) = some d2 ∧ floatBits .mul .f64 (tW s) d2 = some e2 ∧ floatBits .add .f64 (floatOfInt .f64 (q : Int)) e2 = some b2) ∧ floatBits .mul .f64 b1 b2 = some h ∧
      floatBits .add .f64 4607182418800017408 P = some s1 ∧ floatBits .mul .f64 4576918229304087675 s1 = some r1 ∧ floatBits .add .f64 P r1 = some z1 ∧ (FloatKind.f64.format.order h z1 == some .gt) = false := by
  obtain ⟨d1, e1, b1, f1, f2, f3, f4⟩ := lin_is hp hu hs
  obtain ⟨d2, e2, b2, g1, g2, g3, g4⟩ := lin_is hq hv hs
  have hx0 : 0 ≤ 4 * (p : Int) + (s : Int) * ((u : Int) - (p : Int)) := by
    have e : 4 * (p : Int) + (s : Int) * ((u : Int) - (p : Int)) = (p : Int) * (4 - (s : Int)) + (s : Int) * (u : Int) := by grind
    rw [e]
    have h1 : 0 ≤ (p : Int) * (4 - (s : Int)) := Int.mul_nonneg (Int.natCast_nonneg _) (by omega)
    have h2 : 0 ≤ (s : Int) * (u : Int) := Int.mul_nonneg (Int.natCast_nonneg _) (Int.natCast_nonneg _)
    omega
  have hy0 : 0 ≤ 4 * (q : Int) + (s : Int) * ((v : Int) - (q : Int)) := by
    have e : 4 * (q : Int) + (s : Int) * ((v : Int) - (q : Int)) = (q : Int) * (4 - (s : Int)) + (s : Int) * (v : Int) := by grind
    rw [e]
    have h1 : 0 ≤ (q : Int) * (4 - (s : Int)) := Int.mul_nonneg (Int.natCast_nonneg _) (by omega)
    have h2 : 0 ≤ (s : Int) * (v : Int) := Int.mul_nonneg (Int.natCast_nonneg _) (Int.natCast_nonneg _)
    omega
  have hx1 : 4 * (p : Int) + (s : Int) * ((u : Int) - (p : Int)) ≤ 200 := by
    have h1 : (s : Int) * ((u : Int) - (p : Int)) ≤ 4 * 20 := by
      rcases Int.le_total 0 ((u : Int) - (p : Int)) with h | h
      · exact Int.mul_le_mul (by omega) (by omega) h (by omega)
      · have := Int.mul_nonpos_of_nonneg_of_nonpos (Int.natCast_nonneg s) h
        omega
    omega
  have hy1 : 4 * (q : Int) + (s : Int) * ((v : Int) - (q : Int)) ≤ 200 := by
    have h1 : (s : Int) * ((v : Int) - (q : Int)) ≤ 4 * 20 := by
      rcases Int.le_total 0 ((v : Int) - (q : Int)) with h | h
      · exact Int.mul_le_mul (by omega) (by omega) h (by omega)
      · have := Int.mul_nonpos_of_nonneg_of_nonpos (Int.natCast_nonneg s) h
        omega
    omega
  have hFS : FS p q u v s = (4 * (p : Int) + (s : Int) * ((u : Int) - (p : Int))) * (4 * (q : Int) + (s : Int) * ((v : Int) - (q : Int))) := rfl
  rw [hFS] at hK
  obtain ⟨X, hX⟩ : ∃ X : Nat, 4 * (p : Int) + (s : Int) * ((u : Int) - (p : Int)) = X := ⟨_, (Int.toNat_of_nonneg hx0).symm⟩
  obtain ⟨Y, hY⟩ : ∃ Y : Nat, 4 * (q : Int) + (s : Int) * ((v : Int) - (q : Int)) = Y := ⟨_, (Int.toNat_of_nonneg hy0).symm⟩
  rw [hX] at f4 hK hx1
  rw [hY] at g4 hK hy1
  rw [Int.toNat_natCast] at f4 g4
  have hXY : X * Y ≤ 200 * 200 := Nat.mul_le_mul (by omega) (by omega)
  obtain ⟨h, R, m1, m2, m3⟩ := dbl_mul (E := eC + 135) f4 g4 (show qU + qU = eC + 135 + 1074 from rfl) (by rw [qU_is]; omega) (by rw [qU_is]; omega) (by rw [eC_is]; omega) (by rw [eC_is]; omega) (Nat.lt_of_le_of_lt hXY (by decide))
  have hRe : R = X * Y := m3.2.2 (by rw [kD_is]; omega)
  subst hRe
  rw [← Int.natCast_mul] at hK
  obtain ⟨s1, r1, z1, t1, t2, t3, t4⟩ := last_test hP hR hA hB m2.unit hK
  exact ⟨d1, e1, b1, d2, e2, b2, h, s1, r1, z1, ⟨f1, f2, f3⟩, ⟨g1, g2, g3⟩, m1, t1, t2, t3, t4⟩
/-- The product, word by word. -/
theorem product_word {x y uw vw : Nat} {A B : Nat} (hx : x ≤ 7) (hy : y ≤ 7) (h1 : Is single uw ((x * wB + A) * U)) (h2 : Is single vw ((y * wB + B) * U)) (hA : A ≤ 20 * wB) (hB : B ≤ 20 * wB) :
    ∃ c1 d1 c2 d2 P R1, floatToFloatBits .f32 uw .f64 = some c1 ∧ floatBits .sub .f64 c1 (floatOfInt .f64 (x : Int)) = some d1 ∧ floatToFloatBits .f32 vw .f64 = some c2 ∧ floatBits .sub .f64 c2 (floatOfInt .f64 (y : Int)) = some d2 ∧ floatBits .mul .f64 d1 d2 = some P ∧ Is double P (R1 * 2 ^ eV) ∧ NearD R1 (A * B) := by
  have one : ∀ {x uw A : Nat}, x ≤ 7 → Is single uw ((x * wB + A) * U) → A ≤ 20 * wB → ∃ c1 d1, floatToFloatBits .f32 uw .f64 = some c1 ∧ floatBits .sub .f64 c1 (floatOfInt .f64 (x : Int)) = some d1 ∧ Is double d1 (A * 2 ^ eU) := by
    intro x uw A hx h1 hA
    have hlt : (x * wB + A) * U < 2 ^ 53 * U := by
      refine Nat.mul_lt_mul_of_pos_right ?_ U_pos
      have h3 : x * wB ≤ 7 * wB := Nat.mul_le_mul_right _ hx
      have h4 : 27 * wB < 2 ^ 53 := by decide
      omega
    have hd : U ∣ (x * wB + A) * U := ⟨x * wB + A, Nat.mul_comm _ _⟩
    obtain ⟨c1, e1, e2⟩ := widen_bits h1 hd hlt
    have hxi := double_int x (by omega)
    have hW : x * W = x * wB * U := by
      have : W = wB * U := by
        unfold W wB U
        rw [← Nat.pow_add]
        exact congrArg (fun k => 2 ^ k) (show eW = 40 + eU from rfl)
      rw [this, Nat.mul_assoc]
    rw [hW] at hxi
    obtain ⟨d1, e3, e4⟩ := sub_is e2 hxi hd ⟨x * wB, Nat.mul_comm _ _⟩ (Nat.mul_le_mul_right _ (Nat.le_add_right _ _)) hlt
    rw [← Nat.sub_mul, Nat.add_sub_cancel_left] at e4
    exact ⟨c1, d1, e1, e3, e4⟩
  obtain ⟨c1, d1, a1, a2, a3⟩ := one hx h1 hA
  obtain ⟨c2, d2, b1, b2, b3⟩ := one hy h2 hB
  have hQ : A * B < 2 ^ 250 := by
    have h3 := Nat.mul_le_mul hA hB
    have h4 : 20 * wB * (20 * wB) < 2 ^ 250 := by decide
    omega
  obtain ⟨P, R1, p1, p2, p3⟩ := dbl_mul (E := eV) a3 b3 (show eU + eU = eV + 1074 from rfl) (by rw [eU_is]; omega) (by rw [eU_is]; omega) (by rw [eV_is]; omega) (by rw [eV_is]; omega) hQ
  exact ⟨c1, d1, c2, d2, P, R1, a1, a2, b1, b2, p1, p2, p3⟩
end Go.Proofs.Ytkapjlkeohjjbaa
namespace Go.Proofs.Ytkapjlkeohjjbaa
set_option linter.unusedVariables false
set_option linter.unusedSimpArgs false
open Go.RowKit

/-- x is put in from behind: past those that it is before. -/
def insRv (lt : Int → Int → Bool) (x : Int) : List Int → List Int
  | [] => [x]
  | y :: ys => if lt x y then y :: insRv lt x ys else x :: y :: ys
def sortRv (lt : Int → Int → Bool) (xs : List Int) : List Int := xs.foldl (fun p x => insRv lt x p) []
/-- The list in order, what is even as it stood. -/
def stab (lt : Int → Int → Bool) (xs : List Int) : List Int := (sortRv lt xs).reverse
theorem insRv_perm (lt : Int → Int → Bool) (x : Int) : ∀ p, (insRv lt x p).Perm (x :: p)
  | [] => List.Perm.refl _
  | y :: ys => by
    unfold insRv
    split
    · exact ((insRv_perm lt x ys).cons y).trans (List.Perm.swap _ _ _)
    · exact List.Perm.refl _
theorem foldl_perm (lt : Int → Int → Bool) : ∀ (xs p : List Int), (xs.foldl (fun p x => insRv lt x p) p).Perm (xs ++ p)
  | [], p => List.Perm.refl _
  | x :: xs, p => by
    show (xs.foldl _ (insRv lt x p)).Perm _
    refine (foldl_perm lt xs _).trans ?_
    refine ((insRv_perm lt x p).append_left xs).trans ?_
    exact List.perm_middle
theorem sortRv_perm (lt : Int → Int → Bool) (xs : List Int) : (sortRv lt xs).Perm xs := by
  have := foldl_perm lt xs []
  rwa [List.append_nil] at this
theorem stab_perm (lt : Int → Int → Bool) (xs : List Int) : (stab lt xs).Perm xs := (List.reverse_perm _).trans (sortRv_perm lt xs)
theorem stab_length (lt : Int → Int → Bool) (xs : List Int) : (stab lt xs).length = xs.length := (stab_perm lt xs).length_eq
theorem sortRv_succ (lt : Int → Int → Bool) {xs : List Int} {k : Nat} {x : Int} (h : xs[k]? = some x) : sortRv lt (xs.take (k + 1)) = insRv lt x (sortRv lt (xs.take k)) := by
  rw [List.take_add_one, h]
  simp [sortRv, List.foldl_append]
theorem insRv_pairwise (lt : Int → Int → Bool) (R : Int → Int → Prop) (tr : ∀ a b c, R a b → R b c → R a c) (x : Int) : ∀ p : List Int, p.Pairwise (fun a b => R b a) → (∀ y ∈ p, (lt x y = true → R x y) ∧ (lt x y = false → R y x)) → (insRv lt x p).Pairwise (fun a b => R b a)
  | [], _, _ => by simp [insRv]
  | y :: ys, h, hl => by
    obtain ⟨h1, h2⟩ := List.pairwise_cons.1 h
    obtain ⟨l1, l2⟩ := hl y (List.mem_cons_self)
    unfold insRv
    cases hx : lt x y with
    | true =>
      simp only [if_true]
      refine List.pairwise_cons.2 ⟨fun z hz => ?_, insRv_pairwise lt R tr x ys h2 (fun z hz => hl z (List.mem_cons_of_mem _ hz))⟩
      rcases List.mem_cons.1 ((insRv_perm lt x ys).mem_iff.1 hz) with rfl | hz
      · exact l1 hx
      · exact h1 z hz
    | false =>
      simp only [Bool.false_eq_true, if_false]
      refine List.pairwise_cons.2 ⟨fun z hz => ?_, h⟩
      rcases List.mem_cons.1 hz with rfl | hz
      · exact l2 hx
      · exact tr _ _ _ (h1 z hz) (l2 hx)

theorem swap_cells (A B : List Value) (u v : Value) : ((A ++ u :: v :: B).set (A.length + 1) u).set A.length v = A ++ v :: u :: B := by
  rw [List.set_append_right _ _ (by omega), Nat.add_sub_cancel_left]
  simp
theorem swap_cells' (A B : List Value) (u v : Value) : ((A ++ u :: v :: B).set A.length v).set (A.length + 1) u = A ++ v :: u :: B := by
  rw [List.set_append_right _ _ (Nat.le_refl _), Nat.sub_self, List.set_cons_zero, List.set_append_right _ _ (by omega), Nat.add_sub_cancel_left]
  simp
theorem set_grown (w : World) (g j : Nat) (u : Value) : w.grownBy (w.setCell ⟨g, j, none⟩ u) (some g) := ⟨rfl, rfl, rfl, by simp, fun i _ hi => Below.heap_setCell _ _ _ _ (fun e => hi (by simp [e]))⟩
theorem drewN_grown (w : World) (n : Nat) (r : Option Nat) : w.grownBy (w.drewN n) r := ⟨rfl, rfl, rfl, Nat.le_refl _, fun _ _ _ => rfl⟩

set_option maxHeartbeats 4000000 in
theorem insertion_any (K : Nat) (caps : Array Value) (cf : Int → Int → Int) (hK : ∀ (args : Array Value) (w : World), (callFunc K args).run Try.prog w = .ok (.enter K args) w)
    (w : World) (g c : Nat) (xs : List Int) (tl : List Value) (h : Blk w g (ints xs ++ tl) 2) (hl : xs.length ≤ 1048576) (hcf : ∀ x y, -1 ≤ cf x y ∧ cf x y ≤ 1)
    (hcall : ∀ w' x y, w.grownBy w' (some g) → x ∈ xs → y ∈ xs → Calls Try.prog K (#[.int .i64 x, .int .i64 y] ++ caps) w' fun e w'' => e = .returned (.int .i64 (cf x y)) ∧ ∃ k, w'' = w'.drewN k) :
    Calls Try.prog 68 #[.slice (some ⟨g, 0, none⟩) xs.length c, .int .i64 0, .int .i64 xs.length, .func (.func K) #[] caps] w fun e w' => e = .returned (.tuple #[]) ∧ Blk w' g (ints (stab (fun x y => decide (cf x y < 0)) xs) ++ tl) 2 ∧ w.grownBy w' (some g) := by
  have Hc := Lib.hid hcall
  have Hcf := Lib.hid hcf
  obtain ⟨lt, hlt⟩ : ∃ lt : Int → Int → Bool, lt = fun x y => decide (cf x y < 0) := ⟨_, rfl⟩
  rw [← hlt]
  have Hlt : Hid (∀ x y, lt x y = decide (cf x y < 0)) := fun x y => by rw [hlt]
  have h1 : Blk w g (ints ((sortRv lt (xs.take 1)).reverse ++ xs.drop 1) ++ tl) 2 := by
    have : (sortRv lt (xs.take 1)).reverse ++ xs.drop 1 = xs := by cases xs <;> simp [sortRv, insRv]
    rw [this]; exact h
  clear hcall hcf h hlt
  go_enter Try.func68, Try.ntmps68
  go_wp2
  go_loopw [8] (fun i wr => ∃ k : Nat, 1 ≤ k ∧ (k ≤ xs.length ∨ k = 1) ∧ i = .int .i64 k ∧ Blk wr g (ints ((sortRv lt (xs.take k)).reverse ++ xs.drop k) ++ tl) 2 ∧ w.grownBy wr (some g)) (fun i _ => xs.length + 1 - (intOf i).toNat)
  case atStart => exact ⟨1, Nat.le_refl _, .inr rfl, by go_num, h1, World.grownBy.refl _ _⟩
  case round =>
    clear h1
    obtain ⟨k, hk1, hk, rfl, hb, hw⟩ := hrel
    by_cases hlk : k < xs.length
    · obtain ⟨x, hx⟩ : ∃ x, xs[k]? = some x := ⟨xs[k], List.getElem?_eq_getElem hlk⟩
      have hd : xs.drop k = x :: xs.drop (k + 1) := by
        rw [List.drop_eq_getElem_cons hlk]
        rw [List.getElem?_eq_getElem hlk] at hx
        injection hx with hx
        rw [hx]
      have HS := Lib.hid (sortRv_succ lt hx)
      have hp := sortRv_perm lt (xs.take k)
      have hpl : (sortRv lt (xs.take k)).length = k := by rw [hp.length_eq]; simp; omega
      have hpm : ∀ y ∈ sortRv lt (xs.take k), y ∈ xs := fun y hy => List.mem_of_mem_take (hp.mem_iff.1 hy)
      have hxm : x ∈ xs := List.mem_of_getElem? hx
      rw [hd] at hb
      generalize sortRv lt (xs.take k) = p at *
      generalize hdr : xs.drop (k + 1) = dr at *
      have Hdr := Lib.hid hdr
      clear hdr
      clear hd hx hp
      have Hpl := Lib.hid hpl
      have Hpm := Lib.hid hpm
      clear hpl hpm
      obtain ⟨wo, rfl⟩ : ∃ wo : World, wo = wr := ⟨_, rfl⟩
      go_wp2_with fail
      go_loopw [9] (fun j wi => ∃ rp mv : List Int, Hid (insRv lt x p = mv.reverse ++ insRv lt x rp ∧ ∀ y ∈ rp, y ∈ xs) ∧ rp.length ≤ k ∧ j = .int .i64 rp.length ∧ Blk wi g (ints (rp.reverse ++ x :: mv ++ dr) ++ tl) 2 ∧ w.grownBy wi (some g)) (fun j _ => (intOf j).toNat)
      case atStart => exact ⟨p, [], ⟨by simp, Hpm.out⟩, by rw [Hpl.out]; exact Nat.le_refl _, by rw [Hpl.out], by simpa using hb, hw⟩
      case round =>
        clear hb hw
        obtain ⟨rp, mv, hm, hrk, rfl, hb, hw⟩ := hrel
        cases rp with
        | nil =>
          have hF : Blk wr g (ints ((sortRv lt (xs.take (k + 1))).reverse ++ dr) ++ tl) 2 := by
            rw [HS.out, hm.out.1]
            simpa [insRv] using hb
          clear hb
          go_wp2_with fail
          go_quiet (fail)
          go_wp2_with fail
          go_roundw
          case rel => exact ⟨k + 1, by omega, .inl (by omega), by go_num, by rw [Hdr.out]; first | exact hF | exact hF.drewN _, by first | exact hw | exact grown_of_grown hw (drewN_grown _ _ _)⟩
          case measure => simp [intOf]; omega
        | cons y rp =>
          have hL : ints ((y :: rp).reverse ++ x :: mv ++ dr) ++ tl = ints rp.reverse ++ .int .i64 y :: .int .i64 x :: (ints (mv ++ dr) ++ tl) := by simp [ints]
          rw [hL] at hb
          have c1 := hb.cell (rp.length + 1)
          have c2 := hb.cell rp.length
          have e1 : (ints rp.reverse ++ .int .i64 y :: .int .i64 x :: (ints (mv ++ dr) ++ tl))[rp.length + 1]? = some (.int .i64 x) := by
            rw [List.getElem?_append_right (by simp)]; simp
          have e2 : (ints rp.reverse ++ .int .i64 y :: .int .i64 x :: (ints (mv ++ dr) ++ tl))[rp.length]? = some (.int .i64 y) := by
            rw [List.getElem?_append_right (by simp)]; simp
          rw [e1] at c1
          rw [e2] at c2
          have s1 := swap_cells (ints rp.reverse) (ints (mv ++ dr) ++ tl) (.int .i64 y) (.int .i64 x)
          rw [ints_length, List.length_reverse] at s1
          have f1 := hb.free (rp.length + 1)
          have f2 := hb.free rp.length
          have hst := (hb.set (rp.length + 1) (.int .i64 y)).set rp.length (.int .i64 x)
          rw [s1] at hst
          have HC := Lib.hid (fun v => Hc.out (wr.drewN v) x y (grown_of_grown hw (drewN_grown _ _ _)) hxm (hm.out.2 y List.mem_cons_self))
          have hlxy := Hlt.out x y
          obtain ⟨b0, b1⟩ := Hcf.out x y
          simp only [List.length_cons] at hrk
          generalize cf x y = r at *
          clear e1 e2 hL
          have hI : Hid (insRv lt x p = mv.reverse ++ if lt x y then y :: insRv lt x rp else x :: y :: rp) := hm.out.1
          by_cases hr : r < 0
          · rw [hlxy, decide_eq_true hr] at hI
            have hM : Hid (insRv lt x p = (y :: mv).reverse ++ insRv lt x rp ∧ ∀ z ∈ rp, z ∈ xs) := ⟨by rw [hI.out]; simp, fun z hz => hm.out.2 z (List.mem_cons_of_mem _ hz)⟩
            have hN : Hid (ints (rp.reverse ++ x :: (y :: mv) ++ dr) ++ tl = ints rp.reverse ++ .int .i64 x :: .int .i64 y :: (ints (mv ++ dr) ++ tl)) := by simp [Hid, ints]
            clear hm hI hlxy
            go_wp2_with fail
            go_quiet (exact qd1 (HC.out _))
            go_wp2_with fail
            go_region
            go_wp2_with fail
            have hB2 : Blk (((wr.drewN (nq + 1)).setCell ⟨g, rp.length + 1, none⟩ (.int .i64 y)).setCell ⟨g, rp.length, none⟩ (.int .i64 x)) g (ints (rp.reverse ++ x :: (y :: mv) ++ dr) ++ tl) 2 := by
              rw [hN.out, ← s1]
              exact ((hb.drewN (nq + 1)).set (rp.length + 1) (.int .i64 y)).set rp.length (.int .i64 x)
            have hG2 : w.grownBy (((wr.drewN (nq + 1)).setCell ⟨g, rp.length + 1, none⟩ (.int .i64 y)).setCell ⟨g, rp.length, none⟩ (.int .i64 x)) (some g) :=
              grown_of_grown (grown_of_grown (grown_of_grown hw (drewN_grown _ _ _)) (set_grown _ _ _ _)) (set_grown _ _ _ _)
            go_roundw
            case rel => exact ⟨rp, y :: mv, hM, by omega, by go_num, hB2, hG2⟩
            case measure => simp [intOf]
          · rw [hlxy, decide_eq_false hr] at hI
            have hF : Hid (Blk wr g (ints ((sortRv lt (xs.take (k + 1))).reverse ++ dr) ++ tl) 2) := by
              show Blk _ _ _ _
              have : (sortRv lt (xs.take (k + 1))).reverse ++ dr = rp.reverse ++ y :: x :: (mv ++ dr) := by rw [HS.out, hI.out]; simp
              rw [this]
              simpa [ints] using hb
            clear hm hI hlxy hst hb
            go_wp2_with fail
            go_quiet (exact qd1 (HC.out _))
            go_wp2_with fail
            go_roundw
            case rel => exact ⟨k + 1, by omega, .inl (by omega), by go_num, by rw [Hdr.out]; first | exact hF.out | exact hF.out.drewN _, by first | exact hw | exact grown_of_grown hw (drewN_grown _ _ _)⟩
            case measure => simp [intOf]; omega
    · have hF : Blk wr g (ints (stab lt xs) ++ tl) 2 := by
        rw [List.take_of_length_le (by omega), List.drop_eq_nil_of_le (by omega), List.append_nil] at hb
        exact hb
      go_wp2
      go_end0
      exact ⟨rfl, hF, hw⟩
set_option maxHeartbeats 2000000 in
theorem stableCmp_any (K : Nat) (caps : Array Value) (cf : Int → Int → Int) (hK : ∀ (args : Array Value) (w : World), (callFunc K args).run Try.prog w = .ok (.enter K args) w)
    (w : World) (g c : Nat) (xs : List Int) (tl : List Value) (h : Blk w g (ints xs ++ tl) 2) (hl : xs.length ≤ 19) (hcf : ∀ x y, -1 ≤ cf x y ∧ cf x y ≤ 1)
    (hcall : ∀ w' x y, w.grownBy w' (some g) → x ∈ xs → y ∈ xs → Calls Try.prog K (#[.int .i64 x, .int .i64 y] ++ caps) w' fun e w'' => e = .returned (.int .i64 (cf x y)) ∧ ∃ k, w'' = w'.drewN k) :
    Calls Try.prog 65 #[.slice (some ⟨g, 0, none⟩) xs.length c, .int .i64 xs.length, .func (.func K) #[] caps] w fun e w' => e = .returned (.tuple #[]) ∧ Blk w' g (ints (stab (fun x y => decide (cf x y < 0)) xs) ++ tl) 2 ∧ w.grownBy w' (some g) := by
  have L := Lib.hid (insertion_any K caps cf hK w g c xs tl h (by omega) hcf hcall)
  clear h hcf hcall hK
  go_enter Try.func65, Try.ntmps65
  go_wp2_with fail
  refine wp_loop_rounds 1 ?_
  rw [rounds_succ]
  go_wp2_with fail
  refine L.out.mono ?_
  rintro e w1 ⟨rfl, hb, hg⟩
  go_wp2_with fail
  refine wp_loop_rounds 1 ?_
  rw [rounds_succ]
  go_wp2_with fail
  go_end0
  exact ⟨rfl, hb, hg⟩
theorem sortStable_any (K : Nat) (caps : Array Value) (cf : Int → Int → Int) (hK : ∀ (args : Array Value) (w : World), (callFunc K args).run Try.prog w = .ok (.enter K args) w)
    (w : World) (g c : Nat) (xs : List Int) (tl : List Value) (h : Blk w g (ints xs ++ tl) 2) (hl : xs.length ≤ 19) (hcf : ∀ x y, -1 ≤ cf x y ∧ cf x y ≤ 1)
    (hcall : ∀ w' x y, w.grownBy w' (some g) → x ∈ xs → y ∈ xs → Calls Try.prog K (#[.int .i64 x, .int .i64 y] ++ caps) w' fun e w'' => e = .returned (.int .i64 (cf x y)) ∧ ∃ k, w'' = w'.drewN k) :
    Calls Try.prog 59 #[.slice (some ⟨g, 0, none⟩) xs.length c, .func (.func K) #[] caps] w fun e w' => e = .returned (.tuple #[]) ∧ Blk w' g (ints (stab (fun x y => decide (cf x y < 0)) xs) ++ tl) 2 ∧ w.grownBy w' (some g) := by
  have L := Lib.hid (stableCmp_any K caps cf hK w g c xs tl h hl hcf hcall)
  clear h hcf hcall hK
  go_enter Try.func59, Try.ntmps59
  go_wp2_with fail
  refine L.out.mono ?_
  rintro e w1 ⟨rfl, hb, hg⟩
  go_wp2_with fail
  go_end0
  exact ⟨rfl, hb, hg⟩
end Go.Proofs.Ytkapjlkeohjjbaa
namespace Go.Proofs.Ytkapjlkeohjjbaa
set_option linter.unusedVariables false
set_option linter.unusedSimpArgs false
open Go.RowKit

def votesB (xs : List Int) : Bool := manyB xs 1 12 0 1000000 && decide (0 < wsum xs)
theorem votesB_iff {xs : List Int} : votesB xs = true ↔ (1 ≤ xs.length ∧ xs.length ≤ 12) ∧ (∀ x ∈ xs, 0 ≤ x ∧ x ≤ 1000000) ∧ 0 < xs.sum := by
  unfold votesB
  rw [Bool.and_eq_true, manyB_iff, decide_eq_true_iff]
  constructor
  · rintro ⟨⟨⟨h1, h2⟩, h3⟩, h4⟩
    have := wsum_eq xs 1000000 (by omega) (fun x hx => by have := h3 x hx; omega) (by omega)
    exact ⟨⟨by omega, by omega⟩, h3, by omega⟩
  · rintro ⟨⟨h1, h2⟩, h3, h4⟩
    have := wsum_eq xs 1000000 (by omega) (fun x hx => by have := h3 x hx; omega) (by omega)
    exact ⟨⟨⟨by omega, by omega⟩, h3⟩, by omega⟩

def above (kind has : Int) : Int := if kind = 0 then has + 1 else if kind = 1 then 2 * has + 1 else has
theorem above_bd (kind has : Int) (h0 : 0 ≤ has) (h1 : has ≤ 1000) : 0 ≤ above kind has ∧ above kind has ≤ 2001 := by unfold above; (repeat' split) <;> omega
def beforeF (v a u b : Int) : Bool :=
  if (a == 0) && decide (0 < v) && (b == 0) && decide (0 < u) then decide (u < v) else if (a == 0) || (b == 0) then (a == 0) && decide (0 < v) && !((b == 0) && decide (0 < u)) else decide (u * a < v * b)
def aheadF (v a u b : Int) : Bool :=
  if (v == 0) || (u == 0) then decide (u < v) else if (a == 0) || (b == 0) then (a == 0) && (decide (0 < b) || decide (u < v)) else decide (u * a < v * b)

end Go.Proofs.Ytkapjlkeohjjbaa
namespace Go.Proofs.Ytkapjlkeohjjbaa
set_option linter.unusedVariables false
set_option linter.unusedSimpArgs false
open Go.RowKit

theorem map_getD (f : Int → Int) {xs : List Int} {j : Nat} (h : j < xs.length) : (xs.map f).getD j 0 = f (xs.getD j 0) := by
  simp [List.getD, List.getElem?_eq_getElem h]
def remF (s S x : Int) : Int := x * s % S
def quoF (s S x : Int) : Int := x * s / S
theorem quo_rem {s S x : Int} (hx : 0 ≤ x) (hs : 0 ≤ s) (hS : 0 < S) : x * s = S * quoF s S x + remF s S x ∧ 0 ≤ quoF s S x ∧ 0 ≤ remF s S x ∧ remF s S x < S := by
  have h0 : 0 ≤ x * s := Int.mul_nonneg hx hs
  refine ⟨(Int.mul_ediv_add_emod _ _).symm, Int.ediv_nonneg h0 (by omega), Int.emod_nonneg _ (by omega), Int.emod_lt_of_pos _ hS⟩
theorem sum_quo_rem {s S : Int} (hs : 0 ≤ s) (hS : 0 < S) : ∀ xs : List Int, (∀ x ∈ xs, 0 ≤ x) → xs.sum * s = S * (xs.map (quoF s S)).sum + (xs.map (remF s S)).sum ∧ 0 ≤ (xs.map (remF s S)).sum ∧ (xs.map (remF s S)).sum ≤ (S - 1) * xs.length ∧ 0 ≤ (xs.map (quoF s S)).sum
  | [], _ => by simp
  | x :: xs, h => by
    obtain ⟨h1, h2, h3, h4⟩ := quo_rem (s := s) (S := S) (h x (by simp)) hs hS
    obtain ⟨i1, i2, i3, i4⟩ := sum_quo_rem hs hS xs (fun y hy => h y (by simp [hy]))
    simp only [List.map_cons, List.sum_cons, List.length_cons]
    rw [Int.add_mul, Int.mul_add, i1, h1]
    have e : (S - 1) * ((xs.length + 1 : Nat) : Int) = (S - 1) * xs.length + (S - 1) := by rw [Int.natCast_add, Int.mul_add]; simp
    rw [e]
    refine ⟨by omega, by omega, by omega, by omega⟩
theorem left_bd {xs : List Int} {s : Int} (hl : 1 ≤ xs.length) (hp : ∀ x ∈ xs, 0 ≤ x) (hs : 0 ≤ s) (hS : 0 < xs.sum) : 0 ≤ s - (xs.map (quoF s xs.sum)).sum ∧ s - (xs.map (quoF s xs.sum)).sum < xs.length := by
  obtain ⟨h1, h2, h3, h4⟩ := sum_quo_rem hs hS xs hp
  generalize (xs.map (quoF s xs.sum)).sum = q at *
  generalize (xs.map (remF s xs.sum)).sum = r at *
  generalize xs.sum = S at *
  have e : S * (s - q) = r := by rw [Int.mul_sub]; omega
  constructor
  · refine Classical.byContradiction fun hn => ?_
    have : S * (s - q) ≤ S * (-1) := Int.mul_le_mul_of_nonneg_left (by omega) (by omega)
    omega
  · refine Classical.byContradiction fun hn => ?_
    have h5 : S * (xs.length : Int) ≤ S * (s - q) := Int.mul_le_mul_of_nonneg_left (by omega) (by omega)
    have e2 : (S - 1) * (xs.length : Int) = S * xs.length - xs.length := by rw [Int.sub_mul]; simp
    omega

/-- The first of the greatest, among the first ones. -/
def bestF (ks : List Int) : Nat → Nat
  | 0 => 0
  | i + 1 => if ks.getD (bestF ks i) 0 < ks.getD i 0 then i else bestF ks i
theorem bestF_lt (ks : List Int) : ∀ n, 0 < n → bestF ks n < n
  | 1, _ => by unfold bestF; split <;> simp [bestF]
  | n + 2, _ => by
    have := bestF_lt ks (n + 1) (by omega)
    unfold bestF; split <;> omega
theorem bestF_le (ks : List Int) : ∀ n, bestF ks n ≤ n - 1
  | 0 => by simp [bestF]
  | n + 1 => by have := bestF_lt ks (n + 1) (by omega); omega
theorem bestF_spec (ks : List Int) : ∀ n, (∀ j, j < n → ks.getD j 0 ≤ ks.getD (bestF ks n) 0) ∧ ∀ j, j < bestF ks n → ks.getD j 0 < ks.getD (bestF ks n) 0
  | 0 => ⟨fun j hj => by omega, fun j hj => by simp [bestF] at hj⟩
  | n + 1 => by
    obtain ⟨h1, h2⟩ := bestF_spec ks n
    have hb := bestF_le ks n
    unfold bestF
    split
    · rename_i hc
      refine ⟨fun j hj => ?_, fun j hj => ?_⟩
      · by_cases e : j = n
        · subst e; exact Int.le_refl _
        · have := h1 j (by omega); omega
      · have := h1 j hj; omega
    · rename_i hc
      refine ⟨fun j hj => ?_, h2⟩
      by_cases e : j = n
      · subst e; omega
      · exact h1 j (by omega)

/-- i before k: a greater remainder, or an even one and a smaller number. -/
def Ahead (ks : List Int) (i k : Int) : Prop := ks.getD k.toNat 0 < ks.getD i.toNat 0 ∨ (ks.getD i.toNat 0 = ks.getD k.toNat 0 ∧ i < k)
def keyLt (ks : List Int) (i k : Int) : Bool := decide (ks.getD k.toNat 0 < ks.getD i.toNat 0)
theorem foldl_pairwise (ks : List Int) : ∀ (xs p : List Int), p.Pairwise (fun a b => Ahead ks b a) → xs.Pairwise (fun a b => a < b) → (∀ y ∈ p, ∀ x ∈ xs, y < x) → (xs.foldl (fun p x => insRv (keyLt ks) x p) p).Pairwise (fun a b => Ahead ks b a)
  | [], p, hp, _, _ => hp
  | x :: xs, p, hp, hx, hl => by
    obtain ⟨x1, x2⟩ := List.pairwise_cons.1 hx
    refine foldl_pairwise ks xs _ (insRv_pairwise (keyLt ks) (Ahead ks) ?_ x p hp ?_) x2 ?_
    · intro a b c h1 h2
      unfold Ahead at *
      omega
    · intro y hy
      have := hl y hy x List.mem_cons_self
      unfold keyLt Ahead
      constructor
      · intro h; exact .inl (of_decide_eq_true h)
      · intro h
        have := of_decide_eq_false h
        omega
    · intro y hy z hz
      rcases List.mem_cons.1 ((insRv_perm (keyLt ks) x p).mem_iff.1 hy) with rfl | hy
      · exact x1 z hz
      · exact hl y hy z (List.mem_cons_of_mem _ hz)
theorem upto_sorted (n : Nat) : (upto n).Pairwise (fun a b => a < b) := by
  unfold upto
  rw [List.pairwise_map]
  exact List.pairwise_lt_range.imp fun h => by omega
/-- The order of remainders. -/
def ordF (ks : List Int) : List Int := stab (keyLt ks) (upto ks.length)
theorem ordF_pairwise (ks : List Int) : (ordF ks).Pairwise (Ahead ks) := by
  unfold ordF stab
  rw [List.pairwise_reverse]
  exact foldl_pairwise ks _ [] (by simp) (upto_sorted _) (by simp)
theorem ordF_perm (ks : List Int) : (ordF ks).Perm (upto ks.length) := stab_perm _ _
theorem ordF_length (ks : List Int) : (ordF ks).length = ks.length := by rw [ordF, stab_length, upto_length]
theorem mem_upto {n : Nat} {x : Int} : x ∈ upto n ↔ 0 ≤ x ∧ x < n := by
  unfold upto
  rw [List.mem_map]
  constructor
  · rintro ⟨j, hj, rfl⟩; have := List.mem_range.1 hj; omega
  · rintro ⟨h1, h2⟩; exact ⟨x.toNat, List.mem_range.2 (by omega), by omega⟩
theorem ordF_mem {ks : List Int} {x : Int} : x ∈ ordF ks ↔ 0 ≤ x ∧ x < ks.length := by rw [(ordF_perm ks).mem_iff, mem_upto]
theorem ordF_nodup (ks : List Int) : (ordF ks).Nodup := by
  rw [List.nodup_iff_pairwise_ne]
  exact (ordF_pairwise ks).imp fun h e => by subst e; unfold Ahead at h; omega
theorem ordF_get {ks : List Int} {t : Nat} (h : t < ks.length) : ∃ q : Nat, (ordF ks)[t]? = some (q : Int) ∧ q < ks.length := by
  have hl : t < (ordF ks).length := by rw [ordF_length]; exact h
  have := ordF_mem.1 (List.getElem_mem hl)
  exact ⟨(ordF ks)[t].toNat, by rw [List.getElem?_eq_getElem hl]; congr 1; omega, by omega⟩

/-- What is left of the remainders when some have been chosen. -/
def restT (ks : List Int) : List Int → List Int
  | [] => ks
  | i :: is => restT (ks.set i.toNat (-1)) is
theorem restT_snoc : ∀ (ks is : List Int) (i : Int), restT ks (is ++ [i]) = (restT ks is).set i.toNat (-1)
  | _, [], _ => rfl
  | ks, j :: is, i => by show restT (ks.set j.toNat (-1)) (is ++ [i]) = _; rw [restT_snoc]; rfl
theorem restT_length : ∀ (ks is : List Int), (restT ks is).length = ks.length
  | _, [] => rfl
  | ks, i :: is => by show (restT (ks.set i.toNat (-1)) is).length = _; rw [restT_length]; simp
theorem restT_out : ∀ (ks is : List Int) (j : Nat), (∀ i ∈ is, i.toNat ≠ j) → (restT ks is).getD j 0 = ks.getD j 0
  | _, [], _, _ => rfl
  | ks, i :: is, j, h => by
    show (restT (ks.set i.toNat (-1)) is).getD j 0 = _
    rw [restT_out _ is j (fun x hx => h x (List.mem_cons_of_mem _ hx))]
    have := h i List.mem_cons_self
    simp [List.getD, List.getElem?_set, this]
theorem restT_in (j : Nat) : ∀ (is ks : List Int), j < ks.length → (∃ i ∈ is, i.toNat = j) → (restT ks is).getD j 0 = -1
  | [], _, _, h => by obtain ⟨i, hi, _⟩ := h; simp at hi
  | i :: is, ks, hj, h => by
    show (restT (ks.set i.toNat (-1)) is).getD j 0 = -1
    by_cases hm : ∃ k ∈ is, k.toNat = j
    · exact restT_in j is _ (by simpa using hj) hm
    · rw [restT_out _ is j (fun k hk e => hm ⟨k, hk, e⟩)]
      obtain ⟨k, hk, hkj⟩ := h
      rcases List.mem_cons.1 hk with rfl | hk
      · subst hkj
        simp [List.getD, hj]
      · exact absurd ⟨k, hk, hkj⟩ hm
/-- The next that is chosen is the next of the order. -/
theorem best_next {ks : List Int} (h0 : ∀ j, 0 ≤ ks.getD j 0) {t q : Nat} (ht : t < ks.length) (hq : (ordF ks)[t]? = some (q : Int)) : bestF (restT ks ((ordF ks).take t)) ks.length = q := by
  have hl : t < (ordF ks).length := by rw [ordF_length]; exact ht
  have hqn : q < ks.length := by
    have := ordF_mem.1 (List.mem_of_getElem? hq)
    omega
  have hsp := List.take_append_drop t (ordF ks)
  have hd : (ordF ks).drop t = (q : Int) :: (ordF ks).drop (t + 1) := by
    rw [List.drop_eq_getElem_cons hl]
    rw [List.getElem?_eq_getElem hl] at hq
    injection hq with hq
    rw [hq]
  have hnd := ordF_nodup ks
  have hpw := ordF_pairwise ks
  rw [← hsp, hd] at hnd hpw
  have hqt : ∀ i ∈ (ordF ks).take t, i.toNat ≠ q := by
    intro i hi e
    have hm := ordF_mem.1 (List.mem_of_mem_take hi)
    have : i = (q : Int) := by omega
    subst this
    exact (List.nodup_append.1 hnd).2.2 _ hi _ List.mem_cons_self rfl
  obtain ⟨b1, b2⟩ := bestF_spec (restT ks ((ordF ks).take t)) ks.length
  have hbl := bestF_lt (restT ks ((ordF ks).take t)) ks.length (by omega)
  generalize hb : bestF (restT ks ((ordF ks).take t)) ks.length = b at *
  have e1 := restT_out ks _ q hqt
  have c1 := b1 q hqn
  have hq0 := h0 q
  have hbt : ∀ i ∈ (ordF ks).take t, i.toNat ≠ b := by
    intro i hi e
    have := restT_in b _ ks hbl ⟨i, hi, e⟩
    omega
  have e2 := restT_out ks _ b hbt
  refine Classical.byContradiction fun hne => ?_
  have hbm : (b : Int) ∈ (ordF ks).drop (t + 1) := by
    have hm : (b : Int) ∈ ordF ks := ordF_mem.2 ⟨by omega, by omega⟩
    rw [← hsp, hd] at hm
    rcases List.mem_append.1 hm with hm | hm
    · exact absurd (Int.toNat_natCast b) (hbt _ hm)
    · rcases List.mem_cons.1 hm with hm | hm
      · omega
      · exact hm
  have hA := (List.pairwise_cons.1 (List.pairwise_append.1 hpw).2.1).1 _ hbm
  unfold Ahead at hA
  rw [Int.toNat_natCast, Int.toNat_natCast] at hA
  by_cases hlt : q < b
  · have := b2 q hlt
    omega
  · omega
/-- One more for each that is chosen. -/
def moreF (os : List Int) : List Int → List Int
  | [] => os
  | i :: is => moreF (addAt os i.toNat 1) is
theorem moreF_snoc : ∀ (os is : List Int) (i : Int), moreF os (is ++ [i]) = addAt (moreF os is) i.toNat 1
  | _, [], _ => rfl
  | os, j :: is, i => by show moreF (addAt os j.toNat 1) (is ++ [i]) = _; rw [moreF_snoc]; rfl
theorem moreF_length : ∀ (os is : List Int), (moreF os is).length = os.length
  | _, [] => rfl
  | os, i :: is => by show (moreF (addAt os i.toNat 1) is).length = _; rw [moreF_length, addAt_length]
theorem moreF_bd : ∀ (is os : List Int) (m : Int), (∀ j, 0 ≤ os.getD j 0 ∧ os.getD j 0 ≤ m) → ∀ j, 0 ≤ (moreF os is).getD j 0 ∧ (moreF os is).getD j 0 ≤ m + is.length
  | [], os, m, h, j => by have := h j; simpa [moreF] using this
  | i :: is, os, m, h, j => by
    have := moreF_bd is (addAt os i.toNat 1) (m + 1) (addAt_bd h i.toNat (by omega) (by omega)) j
    show 0 ≤ (moreF (addAt os i.toNat 1) is).getD j 0 ∧ _
    simp only [List.length_cons]
    exact ⟨this.1, by have := this.2; simp only [moreF]; omega⟩
def leftF (xs : List Int) (s : Int) : Int := s - (xs.map (quoF s xs.sum)).sum
/-- Seats by remainders. -/
def restF (xs : List Int) (s : Int) : List Int := moreF (xs.map (quoF s xs.sum)) ((ordF (xs.map (remF s xs.sum))).take (leftF xs s).toNat)
theorem restF_length (xs : List Int) (s : Int) : (restF xs s).length = xs.length := by rw [restF, moreF_length, List.length_map]
def restSF (xs : List Int) (s : Int) : Option (List Int) := if votesB xs && inB s 0 100 then some (restF xs s) else none
end Go.Proofs.Ytkapjlkeohjjbaa
namespace Go.Proofs.Ytkapjlkeohjjbaa
set_option linter.unusedVariables false
set_option linter.unusedSimpArgs false
open Go.RowKit

theorem take_map_succ (f : Int → Int) {xs : List Int} {k : Nat} {x : Int} (h : xs[k]? = some x) : (xs.take (k + 1)).map f = (xs.take k).map f ++ [f x] := by
  rw [List.take_add_one, h]; simp
theorem quo_bd {s S x : Int} (h0 : 0 ≤ x) (h1 : x ≤ 1000000) (s0 : 0 ≤ s) (s1 : s ≤ 101) (hS : 0 < S) : 0 ≤ x * s ∧ x * s ≤ 101000000 ∧ 0 ≤ quoF s S x ∧ quoF s S x ≤ 101000000 := by
  obtain ⟨q1, q2, q3, q4⟩ := quo_rem h0 s0 hS
  have hxs : x * s ≤ 1000000 * 101 := Int.mul_le_mul h1 s1 s0 (by omega)
  have : 1 * quoF s S x ≤ S * quoF s S x := Int.mul_le_mul_of_nonneg_right (by omega) q2
  have := Int.mul_nonneg h0 s0
  omega
theorem quo_sum_bd {s S : Int} (s0 : 0 ≤ s) (s1 : s ≤ 101) (hS : 0 < S) : ∀ xs : List Int, (∀ x ∈ xs, 0 ≤ x ∧ x ≤ 1000000) → 0 ≤ (xs.map (quoF s S)).sum ∧ (xs.map (quoF s S)).sum ≤ 101000000 * xs.length
  | [], _ => by simp
  | x :: xs, h => by
    have hx := h x (by simp)
    have := quo_bd hx.1 hx.2 s0 s1 hS
    have := quo_sum_bd s0 s1 hS xs (fun y hy => h y (by simp [hy]))
    simp only [List.map_cons, List.sum_cons, List.length_cons]
    omega

def cmpF (a b : Int) : Int := if a < b then -1 else if b < a then 1 else 0
theorem cmpF_bd (a b : Int) : -1 ≤ cmpF a b ∧ cmpF a b ≤ 1 := by unfold cmpF; split <;> (try split) <;> omega
theorem cmpF_neg (a b : Int) : decide (cmpF a b < 0) = decide (a < b) := by
  unfold cmpF
  by_cases h : a < b
  · simp [h]
  · by_cases h2 : b < a <;> simp [h, h2]
theorem compare_any (a b : Int) (w : World) : Calls Try.prog 61 #[.int .i64 a, .int .i64 b] w fun e w' => e = .returned (.int .i64 (cmpF a b)) ∧ w = w' := by
  by_cases h : a < b
  · have H : Hid (cmpF a b = -1) := by simp [Hid, cmpF, h]
    go_enter Try.func61, Try.ntmps61
    go_wp2
    go_ret
    exact ⟨ret_int H.out.symm, rfl⟩
  · by_cases h2 : b < a
    · have H : Hid (cmpF a b = 1) := by simp [Hid, cmpF, h, h2]
      go_enter Try.func61, Try.ntmps61
      go_wp2
      go_ret
      exact ⟨ret_int H.out.symm, rfl⟩
    · have H : Hid (cmpF a b = 0) := by simp [Hid, cmpF, h, h2]
      go_enter Try.func61, Try.ntmps61
      go_wp2
      go_ret
      exact ⟨ret_int H.out.symm, rfl⟩
end Go.Proofs.Ytkapjlkeohjjbaa
namespace Go.Proofs.Ytkapjlkeohjjbaa
set_option linter.unusedVariables false
set_option linter.unusedSimpArgs false
open Go.RowKit

theorem info_i64' : (Try.prog.info? 2).map (fun i => (i.zero, i.size, i.bytes)) = some (some (.int .i64 0), 1, 8) := by kernel_rfl

/-- The one that gets the next seat, after k of them have been looked at. -/
def qStep (vs os : List Int) (kind : Int) (best i : Nat) : Nat := if aheadF (vs.getD i 0) (above kind (os.getD i 0)) (vs.getD best 0) (above kind (os.getD best 0)) then i else best
def qBest (vs os : List Int) (kind : Int) (k : Nat) : Nat := (List.range k).foldl (qStep vs os kind) 0
def bump (os : List Int) (i : Nat) : List Int := os.set i (os.getD i 0 + 1)
def qSeats (vs : List Int) (kind : Int) : Nat → List Int
  | 0 => List.replicate vs.length 0
  | s + 1 => bump (qSeats vs kind s) (qBest vs (qSeats vs kind s) kind vs.length)
theorem qBest_succ (vs os : List Int) (kind : Int) (k : Nat) : qBest vs os kind (k + 1) = qStep vs os kind (qBest vs os kind k) k := by simp [qBest, List.range_succ]
theorem qBest_lt (vs os : List Int) (kind : Int) (k n : Nat) (hk : k ≤ n) (hn : 0 < n) : qBest vs os kind k < n := by
  induction k with
  | zero => simpa [qBest] using hn
  | succ k ih => rw [qBest_succ]; unfold qStep; have := ih (by omega); split <;> omega
theorem bump_length (os : List Int) (i : Nat) : (bump os i).length = os.length := by simp [bump]
theorem qSeats_length (vs : List Int) (kind : Int) (s : Nat) : (qSeats vs kind s).length = vs.length := by
  induction s with
  | zero => simp [qSeats]
  | succ s ih => simp [qSeats, bump_length, ih]
theorem bump_bd {os : List Int} {m : Int} (h : ∀ j, 0 ≤ os.getD j 0 ∧ os.getD j 0 ≤ m) (i : Nat) : ∀ j, 0 ≤ (bump os i).getD j 0 ∧ (bump os i).getD j 0 ≤ m + 1 := by
  intro j
  have hj := h j
  have hi := h i
  unfold bump
  simp only [List.getD, List.getElem?_set] at *
  by_cases e : i = j
  · subst e
    by_cases e2 : i < os.length
    · rw [if_pos rfl, if_pos e2]; simp only [Option.getD_some]; omega
    · rw [if_pos rfl, if_neg e2]; simp only [Option.getD_none]; omega
  · rw [if_neg e]; omega
theorem qSeats_bd (vs : List Int) (kind : Int) (s : Nat) : ∀ j, 0 ≤ (qSeats vs kind s).getD j 0 ∧ (qSeats vs kind s).getD j 0 ≤ s := by
  induction s with
  | zero =>
    intro j
    simp only [qSeats, List.getD, List.getElem?_replicate]
    split <;> simp
  | succ s ih => intro j; have := bump_bd ih (qBest vs (qSeats vs kind s) kind vs.length) j; simp only [qSeats]; omega

def quotF (vs : List Int) (seats kind : Int) : Option (List Int) := if votesB vs && inB seats 0 100 && inB kind 0 2 then some (qSeats vs kind seats.toNat) else none

end Go.Proofs.Ytkapjlkeohjjbaa
namespace Go.Proofs.Ytkapjlkeohjjbaa
set_option linter.unusedVariables false
set_option linter.unusedSimpArgs false
open Go.RowKit

/-- One place of a ballot before t others behind it. -/
def prI (n : Nat) (ys : List Int) (p : Nat) : Nat → List Int → List Int
  | 0, os => os
  | t + 1, os => addAt (prI n ys p t os) ((ys.getD p 0).toNat * n + (ys.getD (p + 1 + t) 0).toNat) 1
/-- All pairs of the first p places of a ballot, and those behind them. -/
def prA (n : Nat) (ys : List Int) : Nat → List Int → List Int
  | 0, os => os
  | p + 1, os => prI n ys p (n - (p + 1)) (prA n ys p os)
def prF (n : Nat) (yss : List (List Int)) : Nat → List Int
  | 0 => List.replicate (n * n) 0
  | i + 1 => prA n (yss.getD i []) n (prF n yss i)
theorem prI_length (n : Nat) (ys : List Int) (p t : Nat) (os : List Int) : (prI n ys p t os).length = os.length := by
  induction t with
  | zero => rfl
  | succ t ih => simp [prI, addAt_length, ih]
theorem prA_length (n : Nat) (ys : List Int) (p : Nat) (os : List Int) : (prA n ys p os).length = os.length := by
  induction p with
  | zero => rfl
  | succ p ih => simp [prA, prI_length, ih]
theorem prF_length (n : Nat) (yss : List (List Int)) (i : Nat) : (prF n yss i).length = n * n := by
  induction i with
  | zero => simp [prF]
  | succ i ih => simp [prF, prA_length, ih]
theorem prI_bd {n : Nat} {os : List Int} {m : Int} (h : ∀ j, 0 ≤ os.getD j 0 ∧ os.getD j 0 ≤ m) (ys : List Int) (p t : Nat) : ∀ q, 0 ≤ (prI n ys p t os).getD q 0 ∧ (prI n ys p t os).getD q 0 ≤ m + t := by
  induction t with
  | zero => simpa [prI] using h
  | succ t ih =>
    intro q
    have := addAt_bd ih ((ys.getD p 0).toNat * n + (ys.getD (p + 1 + t) 0).toNat) (d := 1) (e := 1) (by omega) (by omega) q
    simp only [prI]
    omega
theorem prA_bd {n : Nat} {os : List Int} {m : Int} (h : ∀ j, 0 ≤ os.getD j 0 ∧ os.getD j 0 ≤ m) (ys : List Int) (p : Nat) (hn : n ≤ 12) : ∀ q, 0 ≤ (prA n ys p os).getD q 0 ∧ (prA n ys p os).getD q 0 ≤ m + 12 * p := by
  induction p with
  | zero => simpa [prA] using h
  | succ p ih =>
    intro q
    have := prI_bd (n := n) ih ys p (n - (p + 1)) q
    simp only [prA]
    omega
theorem prF_bd {n : Nat} (yss : List (List Int)) (i : Nat) (hn : n ≤ 12) : ∀ q, 0 ≤ (prF n yss i).getD q 0 ∧ (prF n yss i).getD q 0 ≤ 144 * i := by
  induction i with
  | zero => intro q; simp only [prF, List.getD, List.getElem?_replicate]; split <;> simp
  | succ i ih =>
    intro q
    have := prA_bd ih (yss.getD i []) n hn q
    simp only [prF]
    omega
def pairsF (yss : List (List Int)) : Option (List Int) := if ballotsB yss then some (prF (wide yss) yss yss.length) else none
theorem idx_lt {x y n : Nat} (hx : x < n) (hy : y < n) : x * n + y < n * n := by
  have : x * n + n ≤ n * n := by
    have := Nat.mul_le_mul_right n (show x + 1 ≤ n from hx)
    rw [Nat.add_mul, Nat.one_mul] at this
    exact this
  omega

end Go.Proofs.Ytkapjlkeohjjbaa
namespace Go.Proofs.Ytkapjlkeohjjbaa
set_option linter.unusedVariables false
set_option linter.unusedSimpArgs false
open Go.RowKit

/-- The answer of a function that gives one integer or says no. -/
def RetN (w : World) (r : Option Int) (e : Ending) (w' : World) : Prop := Below w.heap.size w w' ∧ e = .returned (.tuple #[.int .i64 (r.getD 0), .bool r.isSome])

/-- i loses to k, or does not win, in the table of pairs. -/
def losesB (tb : List Int) (n m : Nat) (i k : Nat) : Bool := ((k : Int) != (i : Int)) && decide (2 * tb.getD (i * n + k) 0 ≤ m)
def winI (tb : List Int) (n m : Nat) : Int := findI (fun i => !anyI (losesB tb n m i) n) n
def winnerF (yss : List (List Int)) : Option Int :=
  if ballotsB yss then (if 0 ≤ winI (prF (wide yss) yss yss.length) (wide yss) yss.length then some (winI (prF (wide yss) yss yss.length) (wide yss) yss.length) else none) else none
end Go.Proofs.Ytkapjlkeohjjbaa
namespace Go.Proofs.Ytkapjlkeohjjbaa
set_option linter.unusedVariables false
set_option linter.unusedSimpArgs false
open Go.RowKit

def lostI (xs : List Int) (s : Int) : Int := findI (fun j => decide ((restF xs (s + 1)).getD j 0 < (restF xs s).getD j 0)) (restF xs s).length
def lostF (xs : List Int) (s : Int) : Option Int := if votesB xs && inB s 0 99 then (if 0 ≤ lostI xs s then some (lostI xs s) else none) else none
end Go.Proofs.Ytkapjlkeohjjbaa
namespace Go.Proofs.Ytkapjlkeohjjbaa
set_option linter.unusedVariables false
set_option linter.unusedSimpArgs false
open Go.RowKit

theorem addAt_get (os : List Int) (i : Nat) (d : Int) (j : Nat) (h : i < os.length) : (addAt os i d).getD j 0 = os.getD j 0 + if i = j then d else 0 := by
  unfold addAt
  simp only [List.getD, List.getElem?_set]
  by_cases e : i = j
  · subst e; rw [if_pos rfl, if_pos h, if_pos rfl]; rfl
  · rw [if_neg e, if_neg e]; omega
theorem sum_set : ∀ (os : List Int) (i : Nat) (y : Int), i < os.length → (os.set i y).sum = os.sum - os.getD i 0 + y
  | x :: xs, 0, y, _ => by simp; omega
  | x :: xs, i + 1, y, h => by
    have ih := sum_set xs i y (by simpa using h)
    simp only [List.set_cons_succ, List.sum_cons, ih, List.getD, List.getElem?_cons_succ]
    omega
theorem addAt_sum {os : List Int} {i : Nat} (h : i < os.length) (d : Int) : (addAt os i d).sum = os.sum + d := by
  unfold addAt; rw [sum_set _ _ _ h]; omega
theorem moreF_sum : ∀ (is os : List Int), (∀ i ∈ is, i.toNat < os.length) → (moreF os is).sum = os.sum + is.length
  | [], os, _ => by simp [moreF]
  | i :: is, os, h => by
    show (moreF (addAt os i.toNat 1) is).sum = _
    rw [moreF_sum is _ (fun j hj => by rw [addAt_length]; exact h j (by simp [hj])), addAt_sum (h i (by simp))]
    simp only [List.length_cons]; omega
theorem moreF_get : ∀ (is os : List Int) (j : Nat), (∀ i ∈ is, 0 ≤ i ∧ i.toNat < os.length) → is.Nodup → (moreF os is).getD j 0 = os.getD j 0 + if (j : Int) ∈ is then 1 else 0
  | [], os, j, _, _ => by simp [moreF]
  | i :: is, os, j, h, hn => by
    have hi := h i (by simp)
    have hn2 := List.nodup_cons.1 hn
    show (moreF (addAt os i.toNat 1) is).getD j 0 = _
    rw [moreF_get is _ j (fun q hq => by rw [addAt_length]; exact h q (by simp [hq])) hn2.2, addAt_get _ _ _ _ hi.2]
    by_cases e : i.toNat = j
    · have e2 : (j : Int) = i := by omega
      rw [if_pos e, if_neg (by rw [e2]; exact hn2.1), if_pos (by rw [e2]; simp)]; omega
    · have e2 : ¬ (j : Int) = i := by omega
      rw [if_neg e]
      simp only [List.mem_cons, e2, false_or]
      split <;> omega
theorem perm_sum {xs ys : List Int} (h : xs.Perm ys) : xs.sum = ys.sum := by
  induction h with
  | nil => rfl
  | cons x _ ih => simp [ih]
  | swap x y l => simp; omega
  | trans _ _ ih1 ih2 => rw [ih1, ih2]
theorem upto_map (ks : List Int) : (upto ks.length).map (fun i => ks.getD i.toNat 0) = ks := by
  apply List.ext_getElem
  · simp [upto_length]
  · intro j h1 h2
    rw [List.getElem_map]
    have : (upto ks.length)[j]'(by simpa using h1) = (j : Int) := by simp [upto]
    rw [this, Int.toNat_natCast, List.getD, List.getElem?_eq_getElem h2]; rfl
theorem sum_le_all {m : Int} : ∀ xs : List Int, (∀ x ∈ xs, x ≤ m) → xs.sum ≤ m * xs.length
  | [], _ => by simp
  | x :: xs, h => by
    have ih := sum_le_all xs (fun y hy => h y (by simp [hy]))
    have hx := h x (by simp)
    simp only [List.sum_cons, List.length_cons]
    rw [show m * ((xs.length + 1 : Nat) : Int) = m * xs.length + m by rw [Int.natCast_add, Int.mul_add]; simp]
    omega
/-- Those who are chosen first have a remainder. -/
theorem first_rem {ks : List Int} {S : Int} {L t q : Nat} (hS : 0 < S) (h0 : ∀ x ∈ ks, 0 ≤ x ∧ x < S) (hsum : ks.sum = S * L) (ht : t < L) (hL : L ≤ ks.length) (hq : (ordF ks)[t]? = some (q : Int)) : 0 < ks.getD q 0 := by
  refine Classical.byContradiction fun hno => ?_
  have hlt : t < (ordF ks).length := by rw [ordF_length]; omega
  have hqe : (ordF ks)[t] = (q : Int) := by rw [List.getElem?_eq_getElem hlt] at hq; injection hq
  have hp := List.pairwise_iff_getElem.1 (ordF_pairwise ks)
  have hs : ((ordF ks).map (fun i => ks.getD i.toNat 0)).sum = ks.sum := by
    rw [perm_sum ((ordF_perm ks).map _), upto_map]
  have hsplit : (ordF ks).map (fun i => ks.getD i.toNat 0) = ((ordF ks).take t).map (fun i => ks.getD i.toNat 0) ++ ((ordF ks).drop t).map (fun i => ks.getD i.toNat 0) := by
    rw [← List.map_append, List.take_append_drop]
  have hmax : ∀ i : Int, ks.getD i.toNat 0 ≤ S - 1 := fun i => by
    by_cases c : i.toNat < ks.length
    · have := h0 ks[i.toNat] (List.getElem_mem c)
      simp only [List.getD, List.getElem?_eq_getElem c, Option.getD_some]; omega
    · simp only [List.getD, List.getElem?_eq_none (show ks.length ≤ i.toNat by omega), Option.getD_none]; omega
  have h1 := sum_le_all (m := S - 1) (((ordF ks).take t).map (fun i => ks.getD i.toNat 0)) (fun x hx => by obtain ⟨i, _, rfl⟩ := List.mem_map.1 hx; exact hmax i)
  have h2 := sum_le_all (m := 0) (((ordF ks).drop t).map (fun i => ks.getD i.toNat 0)) (fun x hx => by
    obtain ⟨i, hi, rfl⟩ := List.mem_map.1 hx
    obtain ⟨u, hu, rfl⟩ := List.getElem_of_mem hi
    rw [List.getElem_drop]
    by_cases e : u = 0
    · subst e
      simp only [Nat.add_zero, hqe, Int.toNat_natCast]; omega
    · have hu' : t + u < (ordF ks).length := by simp at hu; omega
      have := hp t (t + u) hlt hu' (by omega)
      rw [hqe] at this
      simp only [Ahead, Int.toNat_natCast] at this
      omega)
  rw [hsplit, List.sum_append] at hs
  have e1 : (((ordF ks).take t).map (fun i => ks.getD i.toNat 0)).length = t := by simp; omega
  rw [e1] at h1
  have h3 : (S - 1) * (t : Int) ≤ (S - 1) * (L : Int) := Int.mul_le_mul_of_nonneg_left (by omega) (by omega)
  have e2 : (S - 1) * (L : Int) = S * L - L := by rw [Int.sub_mul]; omega
  by_cases hL0 : L = 0
  · omega
  · omega
theorem restF_parts {xs : List Int} {s : Int} (hv : votesB xs = true) (s0 : 0 ≤ s) :
    ∃ L : Nat, L ≤ xs.length ∧ (leftF xs s).toNat = L ∧ (xs.map (remF s xs.sum)).sum = xs.sum * L ∧ (xs.map (quoF s xs.sum)).sum + L = s := by
  obtain ⟨⟨h1, h2⟩, h3, h4⟩ := votesB_iff.1 hv
  have hp : ∀ x ∈ xs, 0 ≤ x := fun x hx => (h3 x hx).1
  obtain ⟨l0, l1⟩ := left_bd h1 hp s0 h4
  obtain ⟨q1, q2, q3, q4⟩ := sum_quo_rem s0 h4 xs hp
  have hl : leftF xs s = s - (xs.map (quoF s xs.sum)).sum := rfl
  refine ⟨(leftF xs s).toNat, by omega, rfl, ?_, by omega⟩
  have : ((leftF xs s).toNat : Int) = s - (xs.map (quoF s xs.sum)).sum := by omega
  rw [this, Int.mul_sub]
  omega
theorem ord_take_mem {ks : List Int} {m : Nat} : ∀ i ∈ (ordF ks).take m, 0 ≤ i ∧ i.toNat < ks.length := fun i hi => by
  have := ordF_mem.1 (List.mem_of_mem_take hi)
  omega
/-- All seats are given. -/
theorem restF_sum {xs : List Int} {s : Int} (hv : votesB xs = true) (s0 : 0 ≤ s) : (restF xs s).sum = s := by
  obtain ⟨L, h1, h2, h3, h4⟩ := restF_parts hv s0
  unfold restF
  rw [moreF_sum _ _ (fun i hi => by have := ord_take_mem i hi; simp only [List.length_map] at this ⊢; exact this.2), h2, List.length_take, ordF_length, List.length_map, Nat.min_eq_left h1]
  exact h4
theorem ceil_one {S q r : Int} (hS : 0 < S) (h0 : 0 < r) (h1 : r < S) : (S * q + r + S - 1) / S = q + 1 := by
  have : S * q + r + S - 1 = (r - 1) + S * (q + 1) := by rw [Int.mul_add]; omega
  rw [this, Int.add_mul_ediv_left _ _ (by omega), Int.ediv_eq_zero_of_lt (by omega) (by omega)]; omega
/-- One who has a quotient that is rounded down or up. -/
def keepB (S sm v x : Int) : Bool := (x == v * sm / S) || (x == (v * sm + S - 1) / S)
def keepsB (xs ss : List Int) : Bool := (List.range xs.length).all fun i => keepB xs.sum ss.sum (xs.getD i 0) (ss.getD i 0)
theorem restF_keeps {xs : List Int} {s : Int} (hv : votesB xs = true) (s0 : 0 ≤ s) : keepsB xs (restF xs s) = true := by
  obtain ⟨⟨h1, h2⟩, h3, h4⟩ := votesB_iff.1 hv
  obtain ⟨L, k1, k2, k3, k4⟩ := restF_parts hv s0
  unfold keepsB
  rw [List.all_eq_true]
  intro j hj
  have hj' := List.mem_range.1 hj
  rw [restF_sum hv s0]
  have hx := h3 (xs.getD j 0) (by simp only [List.getD, List.getElem?_eq_getElem hj']; exact List.getElem_mem _)
  have hq := quo_rem (S := xs.sum) hx.1 s0 h4
  have hks : ∀ x ∈ xs.map (remF s xs.sum), 0 ≤ x ∧ x < xs.sum := fun x hx => by
    obtain ⟨y, hy, rfl⟩ := List.mem_map.1 hx
    have := quo_rem (S := xs.sum) (h3 y hy).1 s0 h4
    exact ⟨this.2.2.1, this.2.2.2⟩
  have hg : (restF xs s).getD j 0 = quoF s xs.sum (xs.getD j 0) + if (j : Int) ∈ (ordF (xs.map (remF s xs.sum))).take L then 1 else 0 := by
    unfold restF
    rw [k2, moreF_get _ _ _ (fun i hi => by have := ord_take_mem i hi; simp only [List.length_map] at this ⊢; exact this) ((ordF_nodup _).sublist (List.take_sublist _ _)), map_getD _ hj']
  rw [hg]
  unfold keepB
  by_cases c : (j : Int) ∈ (ordF (xs.map (remF s xs.sum))).take L
  · rw [if_pos c]
    obtain ⟨t, ht, e⟩ := List.getElem_of_mem c
    have ht2 : t < L := by simp at ht; omega
    have hr := first_rem (q := j) h4 hks k3 ht2 (by simp; omega) (by rw [List.getElem_take] at e; rw [← e]; exact List.getElem?_eq_getElem _)
    rw [map_getD _ hj'] at hr
    have : (xs.getD j 0 * s + xs.sum - 1) / xs.sum = quoF s xs.sum (xs.getD j 0) + 1 := by
      rw [hq.1]; exact ceil_one h4 hr hq.2.2.2
    rw [this]; simp
  · rw [if_neg c]; simp [quoF]
/-- The one with the greatest quotient. -/
theorem ahead_pos {v a u b : Int} (ha : 0 < a) (hb : 0 < b) (hv : 0 ≤ v) (hu : 0 ≤ u) : aheadF v a u b = decide (u * a < v * b) := by
  unfold aheadF
  by_cases c : v = 0
  · subst c
    have : 0 ≤ u * a := Int.mul_nonneg hu (by omega)
    simp only [beq_self_eq_true, Bool.true_or, if_true, Int.zero_mul]
    rw [decide_eq_false (by omega), decide_eq_false (by omega)]
  · by_cases d : u = 0
    · subst d
      have : 0 < v * b := Int.mul_pos (by omega) hb
      simp only [beq_self_eq_true, Bool.or_true, if_true, Int.zero_mul]
      rw [decide_eq_true (by omega), decide_eq_true (by omega)]
    · have h1 : (v == 0) = false := by simp [c]
      have h2 : (u == 0) = false := by simp [d]
      have h3 : (a == 0) = false := by simp; omega
      have h4 : (b == 0) = false := by simp; omega
      simp [h1, h2, h3, h4]
theorem above_pos {kind has : Int} (hk : kind = 0 ∨ kind = 1) (h : 0 ≤ has) : 0 < above kind has := by
  rcases hk with rfl | rfl <;> simp [above] <;> omega
theorem above_le {kind a b : Int} (h : a ≤ b) : above kind a ≤ above kind b := by unfold above; (repeat' split) <;> omega
theorem qBest_max {vs os : List Int} {kind : Int} (hk : kind = 0 ∨ kind = 1) (hv : ∀ j, 0 ≤ vs.getD j 0) (ho : ∀ j, 0 ≤ os.getD j 0) : ∀ k i, i < k → vs.getD i 0 * above kind (os.getD (qBest vs os kind k) 0) ≤ vs.getD (qBest vs os kind k) 0 * above kind (os.getD i 0)
  | 0, i, h => by omega
  | k + 1, i, h => by
    have ih := qBest_max hk hv ho k
    rw [qBest_succ, qStep]
    generalize qBest vs os kind k = b at *
    have pb := above_pos hk (ho b)
    have pk := above_pos hk (ho k)
    have pi := above_pos hk (ho i)
    rw [ahead_pos pk pb (hv k) (hv b)]
    by_cases c : vs.getD b 0 * above kind (os.getD k 0) < vs.getD k 0 * above kind (os.getD b 0)
    · rw [decide_eq_true c, if_pos rfl]
      by_cases e : i = k
      · subst e; omega
      · have h1 := ih i (by omega)
        generalize above kind (os.getD b 0) = B at *
        generalize above kind (os.getD k 0) = A at *
        generalize above kind (os.getD i 0) = I at *
        generalize vs.getD i 0 = vi at *
        generalize vs.getD k 0 = vk at *
        generalize vs.getD b 0 = vb at *
        -- vi * B ≤ vb * I, vb * A < vk * B; so vi * A * B ≤ vb * I * A ≤ vk * B * I
        have e1 : (vi * A) * B ≤ (vk * I) * B := by
          have s1 : (vi * B) * A ≤ (vb * I) * A := Int.mul_le_mul_of_nonneg_right h1 (by omega)
          have s2 : (vb * A) * I ≤ (vk * B) * I := Int.mul_le_mul_of_nonneg_right (by omega) (by omega)
          have r1 : (vi * A) * B = (vi * B) * A := by rw [Int.mul_assoc, Int.mul_comm A B, ← Int.mul_assoc]
          have r2 : (vb * I) * A = (vb * A) * I := by rw [Int.mul_assoc, Int.mul_comm I A, ← Int.mul_assoc]
          have r3 : (vk * I) * B = (vk * B) * I := by rw [Int.mul_assoc, Int.mul_comm I B, ← Int.mul_assoc]
          omega
        exact Int.le_of_mul_le_mul_right e1 pb
    · rw [decide_eq_false c]
      simp only [Bool.false_eq_true, if_false]
      by_cases e : i = k
      · subst e; omega
      · exact ih i (by omega)
theorem bump_get {os : List Int} {b : Nat} (h : b < os.length) (j : Nat) : (bump os b).getD j 0 = os.getD j 0 + if b = j then 1 else 0 := addAt_get os b 1 j h
/-- No other one would have a greater quotient. -/
theorem qSeats_fair {vs : List Int} {kind : Int} (hk : kind = 0 ∨ kind = 1) (hn : 0 < vs.length) (hv : ∀ j, 0 ≤ vs.getD j 0) : ∀ s i k, i < vs.length → k < vs.length → 0 < (qSeats vs kind s).getD k 0 → vs.getD i 0 * above kind ((qSeats vs kind s).getD k 0 - 1) ≤ vs.getD k 0 * above kind ((qSeats vs kind s).getD i 0)
  | 0, i, k, _, hk', h => by
    exfalso
    simp only [qSeats, List.getD, List.getElem?_replicate] at h
    split at h <;> simp at h
  | s + 1, i, k, hi, hk', h => by
    have hb := qBest_lt vs (qSeats vs kind s) kind vs.length vs.length (Nat.le_refl _) hn
    have hmax := qBest_max (os := qSeats vs kind s) hk hv (fun j => (qSeats_bd vs kind s j).1) vs.length
    have e : qSeats vs kind (s + 1) = bump (qSeats vs kind s) (qBest vs (qSeats vs kind s) kind vs.length) := rfl
    rw [e] at h ⊢
    have hg := bump_get (os := qSeats vs kind s) (b := qBest vs (qSeats vs kind s) kind vs.length) (by rw [qSeats_length]; exact hb)
    rw [hg k] at h ⊢
    rw [hg i]
    have ih := qSeats_fair hk hn hv s i k hi hk'
    generalize qBest vs (qSeats vs kind s) kind vs.length = b at *
    generalize qSeats vs kind s = os at *
    have hup : above kind (os.getD i 0) ≤ above kind (os.getD i 0 + if b = i then 1 else 0) := above_le (by split <;> omega)
    have hup2 := Int.mul_le_mul_of_nonneg_left hup (hv k)
    by_cases c : b = k
    · subst c
      rw [if_pos rfl, show os.getD b 0 + 1 - 1 = os.getD b 0 by omega]
      exact Int.le_trans (hmax i hi) hup2
    · rw [if_neg c, Int.add_zero] at h ⊢
      exact Int.le_trans (ih h) hup2
theorem qSeats_sum {vs : List Int} {kind : Int} (hn : 0 < vs.length) : ∀ s : Nat, (qSeats vs kind s).sum = s
  | 0 => by
    have : ∀ m : Nat, (List.replicate m (0 : Int)).sum = 0 := fun m => by induction m with
      | zero => rfl
      | succ m ih => rw [List.replicate_succ, List.sum_cons, ih]; rfl
    simp [qSeats, this]
  | s + 1 => by
    have hb := qBest_lt vs (qSeats vs kind s) kind vs.length vs.length (Nat.le_refl _) hn
    show (bump (qSeats vs kind s) _).sum = _
    have := addAt_sum (os := qSeats vs kind s) (i := qBest vs (qSeats vs kind s) kind vs.length) (by rw [qSeats_length]; exact hb) 1
    rw [show bump (qSeats vs kind s) (qBest vs (qSeats vs kind s) kind vs.length) = addAt (qSeats vs kind s) (qBest vs (qSeats vs kind s) kind vs.length) 1 from rfl, this, qSeats_sum hn s]; simp
end Go.Proofs.Ytkapjlkeohjjbaa
namespace Go.Proofs.Ytkapjlkeohjjbaa
set_option linter.unusedVariables false
set_option linter.unusedSimpArgs false
open Go.RowKit

/-- Bytes as the cells of a slice. -/
def byts (xs : List Int) : List Value := xs.map (Value.int .u8)
@[simp] theorem byts_length (xs : List Int) : (byts xs).length = xs.length := by simp [byts]
theorem byts_get (xs : List Int) (k : Nat) (hk : k < xs.length) : (byts xs)[k]? = some (.int .u8 (xs.getD k 0)) := by
  simp [byts, List.getD, List.getElem?_eq_getElem hk]
theorem Rd.atB {w : World} {B : Nat} {a : Option Addr} {xs : List Int} (h : Rd w B a (byts xs)) {k : Nat} (hk : k < xs.length) :
    ∃ b o, a = some ⟨b, o, none⟩ ∧ b < B ∧ ∀ j, j < xs.length → w.cell? ⟨b, o + j, none⟩ = some (.int .u8 (xs.getD j 0)) := by
  rcases h with h | ⟨b, o, ha, hb, hc⟩
  · have : (byts xs).length = 0 := by rw [h]; rfl
    simp at this; subst this; simp at hk
  · exact ⟨b, o, ha, hb, fun j hj => by rw [hc j (by simpa using hj)]; exact byts_get xs j hj⟩
section
open Go.ChangeShapes Go.WideShapes Go.ChangeAt
theorem rd_of_byts {w : World} {a : Option Addr} {len cap : Nat} {zs : List Int} (h : (a = none ∧ len = 0 ∧ cap = 0 ∧ zs = []) ∨
    ∃ x, a = some x ∧ len ≤ cap ∧ cap ≤ maxLen ∧ zs.length = cap ∧ (∀ i, i < zs.length → w.cell? (x.add i) = some (.int .u8 (zs.getD i 0))) ∧ ∀ n ∈ zs, (Lit.int .u8 n).wf = true) :
    Rd w w.heap.size a (byts (zs.take len)) ∧ (zs.take len).length = len := by
  rcases h with ⟨rfl, rfl, rfl, rfl⟩ | ⟨x, rfl, h1, h2, h3, h4, _⟩
  · exact ⟨.inl rfl, rfl⟩
  · have hl : (zs.take len).length = len := by simp; omega
    refine ⟨?_, hl⟩
    by_cases h0 : len = 0
    · subst h0; exact .inl rfl
    · have hx := h4 0 (by omega)
      have hx0 : x.add 0 = x := rfl
      rw [hx0] at hx
      obtain ⟨b, o, s⟩ := x
      have hs : s = none := by
        cases s with
        | none => rfl
        | some s =>
          unfold World.cell? at hx
          split at hx <;> simp at hx
      subst hs
      refine .inr ⟨b, o, rfl, World.block_lt_of_cell? w _ hx, fun j hj => ?_⟩
      rw [byts_length, hl] at hj
      have hj2 := h4 j (by omega)
      have ea : (⟨b, o, none⟩ : Addr).add j = ⟨b, o + j, none⟩ := by unfold Addr.add; split <;> simp_all
      rw [ea] at hj2
      rw [hj2, byts_get _ _ (by omega)]
      simp [List.getD, List.getElem?_take, hj]
/-- Bytes that come in as an argument. -/
theorem open_byts {H : Type} {enc : TypeId × Value → H} {P : Program} {w : World} {t e : TypeId} {a : Option Addr} {len cap : Nat} {d : DataW H} {ps : List MemPlace} (ht : P.underlying t = some (.slice e)) (he : P.underlying e = some (.int .u8)) (hc : P.cellsOf e = 1)
    (h : DataW.Trod enc P w 0 (fun _ => true) true t (.slice a len cap) d ps) :
    ∃ xs : List Int, xs.length = len ∧ Rd w w.heap.size a (byts xs) ∧ xs.length ≤ 9223372036854775807 ∧ ∀ x ∈ xs, 0 ≤ x ∧ x ≤ 255 := by
  obtain ⟨fuel, hf⟩ := h
  rcases open_ints ht he hc hf with ⟨hcs, _⟩ | ⟨x, l, c, zs, hcs, _, hl, hm, hz, _, hcell, hwz⟩
  · simp [Value.cells] at hcs
    obtain ⟨rfl, rfl, rfl⟩ := hcs
    exact ⟨[], rfl, Rd.nil _ _ _, by simp, by simp⟩
  · simp [Value.cells] at hcs
    obtain ⟨rfl, rfl, rfl⟩ := hcs
    have := rd_of_byts (.inr ⟨_, rfl, hl, hm, by simpa using hz, hcell, hwz⟩)
    refine ⟨_, this.2, this.1, by rw [this.2]; unfold maxLen at hm; omega, fun y hy => ?_⟩
    have hw := hwz y (List.mem_of_mem_take hy)
    simp only [Lit.wf, Bool.and_eq_true, decide_eq_true_eq] at hw
    exact ⟨hw.1, hw.2⟩
end
/-- The number below n that bytes choose. -/
def atF (xs : List Int) (i n : Int) : Int := if n ≤ 1 then 0 else if i < xs.length then xs.getD i.toNat 0 % n else (i * 37 + 11) % n
theorem atF_bd {xs : List Int} {i n : Int} (hn : 1 ≤ n) : 0 ≤ atF xs i n ∧ atF xs i n < n := by
  unfold atF
  split
  · omega
  · split
    · exact ⟨Int.emod_nonneg _ (by omega), Int.emod_lt_of_pos _ (by omega)⟩
    · exact ⟨Int.emod_nonneg _ (by omega), Int.emod_lt_of_pos _ (by omega)⟩
set_option maxHeartbeats 2000000 in
theorem b10At_any (w : World) (a : Option Addr) (c : Nat) (xs : List Int) (i n : Int) (h : Rd w w.heap.size a (byts xs)) (hl : xs.length ≤ 1048576) (hx : ∀ x ∈ xs, 0 ≤ x ∧ x ≤ 255) (hi : 0 ≤ i) (hi2 : i ≤ 1000000) :
    Calls Try.prog 6 #[.slice a xs.length c, .int .i64 i, .int .i64 n] w fun e w' => e = .returned (.int .i64 (atF xs i n)) ∧ w = w' := by
  by_cases h1 : n ≤ 1
  · have HF : Hid (atF xs i n = 0) := by simp [Hid, atF, h1]
    clear h hx
    go_enter Try.func6, Try.ntmps6
    go_wp2_with fail
    go_ret
    exact ⟨ret_int HF.out.symm, rfl⟩
  · by_cases h2 : i < xs.length
    · obtain ⟨k, rfl⟩ : ∃ k : Nat, i = k := ⟨i.toNat, by omega⟩
      have hk : k < xs.length := by omega
      have HF : Hid (atF xs k n = xs.getD k 0 % n) := by simp [Hid, atF, h1, hk]
      obtain ⟨b, o, rfl, hbb, hc⟩ := h.atB hk
      have hck := hc k hk
      have hxk := hx (xs.getD k 0) (by simp only [List.getD, List.getElem?_eq_getElem hk]; exact List.getElem_mem _)
      generalize xs.getD k 0 = x at *
      obtain ⟨x0, x1⟩ := hxk
      clear h hx hc
      go_enter Try.func6, Try.ntmps6
      go_wp2_with fail
      go_ret
      exact ⟨ret_int HF.out.symm, rfl⟩
    · have HF : Hid (atF xs i n = (i * 37 + 11) % n) := by simp [Hid, atF, h1, h2]
      clear h hx
      go_enter Try.func6, Try.ntmps6
      go_wp2_with fail
      go_ret
      exact ⟨ret_int HF.out.symm, rfl⟩
def longB (xs ys : List Int) : Bool := decide (1048576 < xs.length) || decide (1048576 < ys.length)
theorem b10Long_any (w : World) (a b : Option Addr) (c d : Nat) (xs ys : List Int) (hl : xs.length ≤ 9223372036854775807) (hm : ys.length ≤ 9223372036854775807) :
    Calls Try.prog 5 #[.slice a xs.length c, .slice b ys.length d] w fun e w' => e = .returned (.bool (longB xs ys)) ∧ w = w' := by
  cases h1 : decide ((1048576 : Int) < (xs.length : Int)) with
  | true =>
    have HF : Hid (longB xs ys = true) := by
      have := of_decide_eq_true h1
      have h : 1048576 < xs.length := by omega
      simp [Hid, longB, h]
    go_enter Try.func5, Try.ntmps5
    go_wp2_with fail
    go_ret
    exact ⟨ret_bool HF.out.symm, rfl⟩
  | false =>
    have HF : Hid (longB xs ys = decide ((1048576 : Int) < (ys.length : Int))) := by
      have := of_decide_eq_false h1
      have h : ¬ 1048576 < xs.length := by omega
      show _ = _
      unfold longB
      rw [decide_eq_false h, Bool.false_or]
      exact decide_eq_decide.2 (by omega)
    go_enter Try.func5, Try.ntmps5
    go_wp2_with fail
    go_ret
    exact ⟨ret_bool HF.out.symm, rfl⟩
set_option maxHeartbeats 400000 in
theorem b10Ints_any (w : World) (a b : Option Addr) (c d : Nat) (xs : List Int) (hx : Rd w w.heap.size a (ints xs)) (hy : Rd w w.heap.size b (ints xs)) (hlx : xs.length ≤ 1099511627776) :
    Calls Try.prog 15 #[.slice a xs.length c, .slice b xs.length d] w fun e w' => e = .returned (.bool true) ∧ ∃ n, w' = w.drewN n := by
  have hb1 : ((xs.length : Int) != (xs.length : Int)) = false := by simp
  go_enter Try.func15, Try.ntmps15
  go_wp2
  go_loopw [13] (fun i wr => ∃ k n : Nat, k ≤ xs.length ∧ i = .int .i64 k ∧ wr = w.drewN n) (fun i _ => xs.length - (intOf i).toNat)
  case atStart => exact ⟨0, 0, Nat.zero_le _, rfl, rfl⟩
  case round =>
    obtain ⟨k, n, hk, rfl, rfl⟩ := hrel
    by_cases hlt : k < xs.length
    · obtain ⟨b1, o1, x, rfl, _, hcx, hx'⟩ := hx.get hlt
      obtain ⟨b2, o2, y, rfl, _, hcy, hy'⟩ := hy.get (k := k) (by omega)
      have hxy : x = y := by
        have h1 := hx'.out
        rw [hy'.out] at h1
        injection h1 with h1
        exact h1.symm
      subst hxy
      have hne : (x != x) = false := by simp
      clear hx hy
      go_wp2
      go_quiet (fail)
      go_wp2
      go_roundw
      case rel => exact ⟨k + 1, n + nq, by omega, by go_num, by first | rfl | exact World.drewN_drewN _ _ _⟩
      case measure => simp [intOf]; omega
    · have : k = xs.length := by omega
      subst this
      go_wp2
      go_ret
      exact ⟨rfl, _, rfl⟩
end Go.Proofs.Ytkapjlkeohjjbaa
namespace Go.Proofs.Ytkapjlkeohjjbaa
set_option linter.unusedVariables false
set_option linter.unusedSimpArgs false
open Go.RowKit

theorem up_down {z S : Int} (hS : 0 < S) (hz : 0 ≤ z) : z / S ≤ (z + S - 1) / S ∧ (z + S - 1) / S ≤ z / S + 1 := by
  constructor
  · exact Int.ediv_le_ediv hS (by omega)
  · have h1 : (z + S - 1) / S ≤ (z + S) / S := Int.ediv_le_ediv hS (by omega)
    rw [show z + S = z + S * 1 by omega, Int.add_mul_ediv_left _ _ (by omega)] at h1
    rw [show z + S * 1 = z + S by omega] at h1
    exact h1
theorem keepB_two {S sm v x : Int} (hS : 0 < S) (hz : 0 ≤ v * sm) : keepB S sm v x = (!(decide (x < v * sm / S)) && !(decide ((v * sm + S - 1) / S < x))) := by
  have h := up_down hS hz
  unfold keepB
  generalize v * sm / S = d at *
  generalize (v * sm + S - 1) / S = u at *
  rw [Bool.eq_iff_iff]
  simp
  omega
structure KeepOk (xs ss : List Int) : Prop where
  v : votesB xs = true
  l : ss.length = xs.length
  b : ∀ x ∈ ss, 0 ≤ x ∧ x ≤ 100
theorem KeepOk.bounds {xs ss : List Int} (h : KeepOk xs ss) : (1 ≤ xs.length ∧ xs.length ≤ 12) ∧ (0 < xs.sum ∧ xs.sum ≤ 12000000) ∧ (0 ≤ ss.sum ∧ ss.sum ≤ 1200) ∧ wsum xs = xs.sum ∧ wsum ss = ss.sum ∧ manyB ss xs.length xs.length 0 100 = true := by
  obtain ⟨⟨h1, h2⟩, h3, h4⟩ := votesB_iff.1 h.v
  have w1 := wsum_eq xs 1000000 (by omega) (fun x hx => by have := h3 x hx; omega) (by omega)
  have hl := h.l
  have w2 := wsum_eq ss 100 (by omega) (fun x hx => by have := h.b x hx; omega) (by omega)
  have s0 : ∀ l : List Int, (∀ x ∈ l, 0 ≤ x) → 0 ≤ l.sum := fun l => by
    induction l with
    | nil => simp
    | cons x l ih => intro hh; have := ih (fun y hy => hh y (by simp [hy])); have := hh x (by simp); simp only [List.sum_cons]; omega
  exact ⟨⟨h1, h2⟩, ⟨h4, by omega⟩, ⟨s0 ss (fun x hx => (h.b x hx).1), by omega⟩, w1.1, w2.1, manyB_iff.2 ⟨⟨by omega, by omega⟩, h.b⟩⟩
def keepK (xs ss : List Int) (k : Nat) : Bool := (List.range k).all fun i => keepB xs.sum ss.sum (xs.getD i 0) (ss.getD i 0)
theorem keepK_succ (xs ss : List Int) (k : Nat) : keepK xs ss (k + 1) = (keepK xs ss k && keepB xs.sum ss.sum (xs.getD k 0) (ss.getD k 0)) := by simp [keepK, List.range_succ]
theorem keepK_no {xs ss : List Int} {k : Nat} (hk : k < xs.length) (h : keepB xs.sum ss.sum (xs.getD k 0) (ss.getD k 0) = false) : keepsB xs ss = false := by
  unfold keepsB
  rw [List.all_eq_false]
  exact ⟨k, List.mem_range.2 hk, by rw [h]; simp⟩
theorem b10Sum_any (w : World) (a : Option Addr) (c : Nat) (xs : List Int) (h : Rd w w.heap.size a (ints xs)) (hl : xs.length ≤ 1152921504606846976) :
    Calls Try.prog 26 #[.slice a xs.length c] w fun e w' => e = .returned (.int .i64 (wsum xs)) ∧ w = w' := by
  go_enter Try.func26, Try.ntmps26
  go_wp2
  go_loop [3, 7] (fun s i => ∃ k : Nat, k ≤ xs.length ∧ i = .int .i64 k ∧ s = .int .i64 (wsum (xs.take k))) (fun _ i => xs.length - (intOf i).toNat)
  case atStart => exact ⟨0, Nat.zero_le _, rfl, rfl⟩
  case round =>
    obtain ⟨k, hk, rfl, rfl⟩ := hrel
    by_cases hlt : k < xs.length
    · obtain ⟨b, o, x, rfl, hbb, hck, hx⟩ := h.get hlt
      clear h
      go_wp2
      go_round
      case rel => exact ⟨k + 1, by omega, by go_num, by rw [wsum_take hx.out]⟩
      case measure => simp [intOf]; omega
    · have : k = xs.length := by omega
      subst this
      go_wp2
      go_ret
      exact ⟨ret_int (by first | rfl | rw [List.take_length]), rfl⟩
end Go.Proofs.Ytkapjlkeohjjbaa
namespace Go.Proofs.Ytkapjlkeohjjbaa
set_option linter.unusedVariables false
set_option linter.unusedSimpArgs false
open Go.RowKit

/-- The code from the region with this number on. -/
def fromReg (n : Nat) : Code → Option Code
  | .seq (.region i o d) b => if i == n then some (.seq (.region i o d) b) else fromReg n b
  | .seq a b => match fromReg n a with
    | some c => some c
    | none => fromReg n b
  | .region i o d => if i == n then some (.region i o d) else none
  | .scope c => fromReg n c
  | .block _ c => fromReg n c
  | .loop c => fromReg n c
  | .cond _ a b => match fromReg n a with
    | some c => some c
    | none => fromReg n b
  | _ => none
/-- The region with this number. -/
def regAt (n : Nat) (c : Code) : Option Code := match fromReg n c with
  | some (.seq a _) => some a
  | some c => some c
  | none => none
/-- The code behind the region with this number. -/
def restAt (n : Nat) (c : Code) : Option Code := match fromReg n c with
  | some (.seq _ b) => some b
  | _ => none
theorem into_k {P : Program} {r : Code} {K : Act → World → Prop} {Q : Exit → Act → World → Prop} {a : Act} {w : World} (h : ∀ a v, Code.wp P r Q a v → K a v) (hw : Code.wp P r Q a w) : K a w := h a w hw
end Go.Proofs.Ytkapjlkeohjjbaa
