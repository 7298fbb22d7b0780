/-
  Part 3 of what the proof stands on: lemmas and contracts, each with its conditions ahead of the colon.
-/
import Derived.Deep.RegionHeld3
import Derived.BigQuiet
import Derived.Still
import Derived.WalkKit
import Derived.Test.YtkapjlkeohjjbaaPk01
import Derived.Test.YtkapjlkeohjjbaaPk02
namespace Go.Proofs.Ytkapjlkeohjjbaa
set_option linter.unusedVariables false
set_option linter.unusedSimpArgs false
open Ieee

/-- A sum that is not below nought, of a number without a sign and another. -/
theorem add_pos {E a b X : Nat} {y : Int} (ha : Svs false E a X) (hb : Sv E b y) (h0 : 0 ≤ (X : Int) + y) (hE : 980 ≤ E) (hE2 : E ≤ 1074) (hlt : ((X : Int) + y).natAbs < 2 ^ 100) :
    ∃ r R : Nat, single.add a b = some r ∧ Svs false E r R ∧ NearZ (R : Int) ((X : Int) + y) := by
  obtain ⟨m, i, h1, h2, h4⟩ := ha
  obtain ⟨t, n, j, Y, g1, g2, rfl, g4⟩ := hb
  have e1 := scale_int (s := false) (base := min i j) (by omega) (by omega) h4
  have e2 := scale_int (s := t) (base := min i j) (by omega) (by omega) g4
  obtain ⟨T, hT⟩ : ∃ T, T = signed false m (i - min i j).toNat + signed t n (j - min i j).toNat := ⟨_, rfl⟩
  obtain ⟨z, hz⟩ : ∃ z, z = (X : Int) + sg t Y := ⟨_, rfl⟩
  have e0 : sg false X = (X : Int) := rfl
  rw [e0] at e1
  have e3 : T * ((2 ^ (min i j + 1074).toNat : Nat) : Int) = z * ((2 ^ E : Nat) : Int) := by rw [hT, hz, Int.add_mul, Int.add_mul, e1, e2]
  have hsum : (Datum.number false m i).sum (.number t n j) = some (.number (if T = 0 then false && t else decide (T < 0)) T.natAbs (min i j)) := by rw [hT]; rfl
  rw [← hz] at hlt h0 ⊢
  have p1 : (0 : Int) < ((2 ^ (min i j + 1074).toNat : Nat) : Int) := by have := Nat.two_pow_pos (min i j + 1074).toNat; omega
  have p2 : (0 : Int) < ((2 ^ E : Nat) : Int) := by have := Nat.two_pow_pos E; omega
  have eabs : T.natAbs * 2 ^ (min i j + 1074).toNat = z.natAbs * 2 ^ E := by
    have := congrArg Int.natAbs e3
    rw [Int.natAbs_mul, Int.natAbs_mul, Int.natAbs_natCast, Int.natAbs_natCast] at this
    exact this
  have hTn : ¬ T < 0 := by
    intro h
    have a1 := Int.mul_neg_of_neg_of_pos h p1
    have a2 := Int.mul_nonneg h0 (Int.le_of_lt p2)
    omega
  have hs : (if T = 0 then false && t else decide (T < 0)) = false := by
    split
    · rfl
    · exact decide_eq_false hTn
  rw [hs] at hsum
  obtain ⟨R, hS, hN⟩ := svs_write false T.natAbs (min i j) E z.natAbs (by omega) eabs hE hE2 hlt
  refine ⟨_, R, ?_, hS, ?_⟩
  · unfold Format.add
    rw [h1, g1, hsum]; rfl
  · have := nearZ_of (s := false) hN
    rw [show sg false z.natAbs = z from by simp only [sg, Bool.false_eq_true, if_false]; omega] at this
    exact this
theorem ww_eq : (wB : Int) * (wB : Int) = 4194304 * ((cB : Int) * (wB : Int)) := by
  have := wB_c
  generalize (cB : Int) = c at *
  generalize (wB : Int) = w at *
  grind
theorem cw_eq : (cB : Int) * (wB : Int) = 4194304 * ((cB : Int) * (cB : Int)) := by
  have := wB_c
  generalize (cB : Int) = c at *
  generalize (wB : Int) = w at *
  grind
/-- The product of what a mixture tells. -/
theorem prod_word {m n : Nat} {M N : Int} (hm : Sv eU m M) (hn : Sv eU n N) (hM : 0 ≤ M ∧ M ≤ 19 * (wB : Int)) (hN : 0 ≤ N ∧ N ≤ 19 * (wB : Int)) :
    ∃ r V, single.mul m n = some r ∧ Sv eV r V ∧ 0 ≤ V ∧ V ≤ M * N + 361 * ((cB : Int) * (wB : Int)) ∧ M * N ≤ V + 361 * ((cB : Int) * (wB : Int)) := by
  have h0 : 0 ≤ M * N := Int.mul_nonneg hM.1 hN.1
  have h1 : M * N ≤ 19 * (wB : Int) * (19 * (wB : Int)) := Int.mul_le_mul hM.2 hN.2 hN.1 (by have : (0 : Int) ≤ (wB : Int) := Int.natCast_nonneg _; omega)
  have e1 : 19 * (wB : Int) * (19 * (wB : Int)) = 361 * ((wB : Int) * (wB : Int)) := by grind
  rw [e1] at h1
  have hlt : (M * N).natAbs < 2 ^ 100 := by
    have h2 : (M * N).natAbs ≤ 361 * (wB * wB) := by
      have h3 : ((M * N).natAbs : Int) ≤ ((361 * (wB * wB) : Nat) : Int) := by rw [Int.natCast_mul, Int.natCast_mul]; omega
      exact Int.ofNat_le.1 h3
    have h4 : 361 * (wB * wB) ≤ 512 * (wB * wB) := Nat.mul_le_mul_right _ (by omega)
    have h5 : 512 * (wB * wB) < 2 ^ 100 := by
      unfold wB
      rw [show (512 : Nat) = 2 ^ 9 from by decide, ← Nat.pow_add, ← Nat.pow_add]
      exact Nat.pow_lt_pow_right (by omega) (by omega)
    omega
  obtain ⟨r, V, g1, g2, ⟨g3, g4⟩, g5, g6, g7⟩ := sv_mul (E := eV) hm hn (by rw [eU_is, eV_is]) (by rw [eV_is]; omega) (by rw [eV_is]; omega) hlt
  have hab : ((M * N).natAbs : Int) = M * N := by omega
  rw [hab] at g3 g4
  rw [ww_eq] at h1
  refine ⟨r, V, g1, g2, g6.1 h0, ?_, ?_⟩
  · generalize (cB : Int) * (wB : Int) = y at *
    generalize M * N = z at *
    omega
  · generalize (cB : Int) * (wB : Int) = y at *
    generalize M * N = z at *
    omega
/-- No mixture of quarters is above, nearly. -/
def PairV (V p q u v : Int) : Prop := ∀ s, 0 ≤ s → s ≤ 4 → FS p q u v s * ((wB : Int) * (wB : Int)) * 64 ≤ 1024 * V + 2 * ((wB : Int) * (wB : Int))
theorem PairV.mono {V V' p q u v : Int} (h : PairV V p q u v) (hV : V ≤ V') : PairV V' p q u v := fun s h0 h4 => by
  have := h s h0 h4
  omega
theorem pair_v {p q u v M N V : Int} (h : MixOk p q u v M N) (hV : M * N ≤ V + 361 * ((cB : Int) * (wB : Int))) : PairV V p q u v := fun s h0 h4 => by
  have h1 := h.2.2 s h0 h4
  have h2 : 0 ≤ (cB : Int) * (wB : Int) := Int.mul_nonneg (Int.natCast_nonneg _) (Int.natCast_nonneg _)
  rw [ww_eq] at h1 ⊢
  generalize (cB : Int) * (wB : Int) = y at *
  generalize M * N = z at *
  generalize FS p q u v s * (4194304 * y) = f at *
  omega
/-- The best of the pairs so far. -/
structure Best (Q : Int → Prop) (f s mo : Nat) (M N V : Int) : Prop where
  sf : Sv eU f M
  ss : Sv eU s N
  sm : Sv eV mo V
  bM : 0 ≤ M ∧ M ≤ 19 * (wB : Int)
  bN : 0 ≤ N ∧ N ≤ 19 * (wB : Int)
  v0 : 0 ≤ V
  vn : V ≤ M * N + 361 * ((cB : Int) * (wB : Int))
  all : Q V
/-- What is told of a point: the gains are A and B, in units. -/
def Told (x y : Int) (uw vw : Nat) (R : Int → Int → Int → Int → Prop) : Prop := ∃ A B : Nat, Is single uw ((x.toNat * wB + A) * U) ∧ Is single vw ((y.toNat * wB + B) * U) ∧ A ≤ 20 * wB ∧ B ≤ 20 * wB ∧
  ∀ p q u v, R p q u v → ∀ s, 0 ≤ s → s ≤ 4 → FS p q u v s * ((wB : Int) * (wB : Int)) * 64 ≤ 1024 * ((A : Int) * (B : Int)) + 4 * ((wB : Int) * (wB : Int))
theorem int_pos {x : Int} (h0 : 0 ≤ x) (h1 : x ≤ 7) : Svs false eU (floatOfInt .f32 x) (x.toNat * wB) := by
  obtain ⟨R, hS, hN⟩ := svs_write false x.natAbs 0 eW x.natAbs (by omega) (by rw [show ((0 : Int) + 1074).toNat = eW from rfl]) (by rw [eW_is]; omega) (by rw [eW_is]; omega) (Nat.lt_of_lt_of_le (show x.natAbs < 8 by omega) (by decide))
  have hR := hN.eq (by omega)
  subst hR
  have hw : floatOfInt .f32 x = single.write (.number false x.natAbs 0) := by
    have : floatOfInt .f32 x = single.write (.number (decide (x < 0)) x.natAbs 0) := rfl
    rw [this, decide_eq_false (by omega)]
  rw [hw]
  obtain ⟨m, p, h1, h2, h3⟩ := hS
  refine ⟨m, p, h1, h2, ?_⟩
  rw [h3, show x.toNat = x.natAbs from by omega]
  unfold wB
  rw [Nat.mul_assoc, ← Nat.pow_add]
  exact congrArg (fun k => x.natAbs * 2 ^ k) (show eW = 40 + eU from rfl)
/-- One number of the point that is told. -/
theorem told_one {x M : Int} {f : Nat} (x0 : 0 ≤ x) (x1 : x ≤ 7) (hf : Sv eU f M) (hM : 0 ≤ M ∧ M ≤ 19 * (wB : Int)) :
    ∃ r A : Nat, single.add (floatOfInt .f32 x) f = some r ∧ Is single r ((x.toNat * wB + A) * U) ∧ A ≤ 20 * wB ∧ M ≤ (A : Int) + 26 * (cB : Int) := by
  have hw : (0 : Int) ≤ (wB : Int) := Int.natCast_nonneg _
  have hc := cB_pos
  have hxw : ((x.toNat * wB : Nat) : Int) = x * (wB : Int) := by rw [Int.natCast_mul]; congr 1; omega
  have hx7 : x * (wB : Int) ≤ 7 * (wB : Int) := Int.mul_le_mul_of_nonneg_right x1 hw
  have hx0 : 0 ≤ x * (wB : Int) := Int.mul_nonneg x0 hw
  have hz : (((x.toNat * wB : Nat) : Int) + M).natAbs ≤ 26 * wB := by
    refine abs_le (by rw [hxw]; omega) ?_
    rw [hxw]
    show _ ≤ (26 : Int) * (wB : Int)
    omega
  obtain ⟨r, R, h1, h2, h3⟩ := add_pos (int_pos x0 x1) hf (by rw [hxw]; omega) (by rw [eU_is]; omega) (by rw [eU_is]; omega) (lt100 (by omega) hz)
  have hn := near_in h3 hz
  have hlow := h3.2.2.2.2 x.toNat 40 (by omega) (by
    have : x.toNat * 2 ^ 40 = x.toNat * wB := rfl
    rw [this]; omega)
  have hlow2 : x.toNat * wB ≤ R := by
    have e : x.toNat * 2 ^ 40 = x.toNat * wB := rfl
    rw [e] at hlow
    simpa using hlow
  have hn1 : (R : Int) - (((x.toNat * wB : Nat) : Int) + M) ≤ 26 * (cB : Int) := hn.2
  have hn2 : -(26 * (cB : Int)) ≤ (R : Int) - (((x.toNat * wB : Nat) : Int) + M) := hn.1
  have hwc := wB_c
  refine ⟨r, R - x.toNat * wB, h1, ?_, ?_, ?_⟩
  · rw [show x.toNat * wB + (R - x.toNat * wB) = R from by omega]
    exact h2.is
  · generalize x.toNat * wB = xw at *
    omega
  · generalize x.toNat * wB = xw at *
    omega
theorem told_mul {M N V w c : Int} {A B : Int} (hA0 : 0 ≤ A) (hB0 : 0 ≤ B) (hM : M ≤ A + 26 * c) (hN : N ≤ B + 26 * c) (hN0 : 0 ≤ N) (hA : A ≤ 20 * w) (hB : B ≤ 20 * w) (hc : 0 ≤ c) (hcc : 676 * (c * c) ≤ c * w) (hV : V ≤ M * N + 361 * (c * w)) : V ≤ A * B + 1402 * (c * w) := by
  have h1 : M * N ≤ (A + 26 * c) * (B + 26 * c) := Int.mul_le_mul hM hN hN0 (by omega)
  have e1 : (A + 26 * c) * (B + 26 * c) = A * B + 26 * (c * A) + 26 * (c * B) + 676 * (c * c) := by grind
  have h2 : c * A ≤ c * (20 * w) := Int.mul_le_mul_of_nonneg_left hA hc
  have h3 : c * B ≤ c * (20 * w) := Int.mul_le_mul_of_nonneg_left hB hc
  have e2 : c * (20 * w) = 20 * (c * w) := by grind
  rw [e2] at h2 h3
  omega
/-- The point that is told, of the best mixture. -/
theorem told_of {x y M N V : Int} {f s mo : Nat} {R : Int → Int → Int → Int → Prop} (x0 : 0 ≤ x) (x1 : x ≤ 7) (y0 : 0 ≤ y) (y1 : y ≤ 7) (h : Best (fun V => ∀ p q u v, R p q u v → PairV V p q u v) f s mo M N V) :
    ∃ uw vw, single.add (floatOfInt .f32 x) f = some uw ∧ single.add (floatOfInt .f32 y) s = some vw ∧ Told x y uw vw R := by
  obtain ⟨uw, A, a1, a2, a3, a4⟩ := told_one x0 x1 h.sf h.bM
  obtain ⟨vw, B, b1, b2, b3, b4⟩ := told_one y0 y1 h.ss h.bN
  refine ⟨uw, vw, a1, b1, A, B, a2, b2, a3, b3, fun p q u v hR t t0 t4 => ?_⟩
  have h1 := h.all p q u v hR t t0 t4
  have hc := cB_pos
  have hcc : 676 * ((cB : Int) * (cB : Int)) ≤ (cB : Int) * (wB : Int) := by
    have := cw_eq
    have := sq_nonneg (cB : Int)
    omega
  have a3' : (A : Int) ≤ 20 * (wB : Int) := by omega
  have b3' : (B : Int) ≤ 20 * (wB : Int) := by omega
  have h2 := told_mul (Int.natCast_nonneg A) (Int.natCast_nonneg B) a4 b4 h.bN.1 a3' b3' (by omega) hcc h.vn
  have h3 : 0 ≤ (cB : Int) * (wB : Int) := Int.mul_nonneg (Int.natCast_nonneg _) (Int.natCast_nonneg _)
  rw [ww_eq] at h1 ⊢
  generalize (cB : Int) * (wB : Int) = k at *
  generalize (A : Int) * (B : Int) = ab at *
  generalize FS p q u v t * (4194304 * k) = z at *
  omega
end Go.Proofs.Ytkapjlkeohjjbaa
namespace Go.Proofs.Ytkapjlkeohjjbaa
set_option linter.unusedVariables false
set_option linter.unusedSimpArgs false
open Go.RowKit

theorem isBargain_any (w : World) (a : Option Addr) (c : Nat) (xs : List Int) (n : Nat) (h : Rd w w.heap.size a (ints xs)) (P : Pts xs n) :
    Calls Try.prog 14 #[.slice a xs.length c] w fun e w' => e = .returned (.bool true) ∧ w = w' := by
  have h1 := P.len
  have h2 := P.one
  have h3 := P.few
  have hm : manyB xs 2 32 0 1000 = true := manyB_iff.2 ⟨⟨by omega, by omega⟩, fun z hz => by have := P.sm z hz; omega⟩
  have L := Lib.hid (areMany_any w a c xs 2 32 0 1000 h (by omega))
  rw [hm] at L
  have he : ((xs.length : Int) % 2 == 0) = true := by rw [beq_iff_eq]; omega
  clear h hm P h1 h2 h3
  go_enter Try.func14, Try.ntmps14
  go_wp2_with fail
  refine L.out.mono ?_
  rintro e w1 ⟨rfl, rfl⟩
  go_wp2_with fail
  go_ret
  exact ⟨rfl, rfl⟩
set_option maxRecDepth 10000 in
set_option maxHeartbeats 4000000 in
theorem better_any (w : World) (a : Option Addr) (c : Nat) (xs : List Int) (n : Nat) (x y : Int) (h : Rd w w.heap.size a (ints xs)) (P : Pts xs n) (x0 : 0 ≤ x) (x1 : x ≤ 7) (y0 : 0 ≤ y) (y1 : y ≤ 7) :
    Calls Try.prog 37 #[.slice a xs.length c, .int .i64 x, .int .i64 y] w fun e w' => ∃ a' c', e = .returned (.tuple #[.slice a' (betterL xs x y n).length c', .bool (decide (0 < (betterL xs x y n).length))]) ∧ (betterL xs x y n).length ≤ c' ∧ Rd w' w'.heap.size a' (ints (betterL xs x y n)) ∧ Below w.heap.size w w' := by
  have LB := Lib.hid (isBargain_any w a c xs n h P)
  have HR := Lib.hid h
  have B1 := bl1 w (.cells #[.int .i64 x, .int .i64 y] 2)
  have K1 := Blk.new w [.int .i64 x, .int .i64 y] 2
  have hin : allIn [x, y] 0 1000 = true := allIn_iff.2 fun z hz => by
    rcases List.mem_cons.1 hz with rfl | hz
    · omega
    · rw [List.mem_singleton] at hz; omega
  have LW := Lib.hid (areWithin_any (w.alloc (.cells #[.int .i64 x, .int .i64 y] 2)) (some ⟨w.heap.size, 0, none⟩) 2 [x, y] 0 1000 (K1.rd K1.lt) (by simp))
  rw [hin] at LW
  have HB1 := Lib.hid B1
  have h1 := P.len
  have h2 := P.one
  have h3 := P.few
  have hq : (xs.length : Int) / 2 = (n : Int) := by omega
  have HP := Lib.hid P.at
  have hl1 : xs.length ≤ 2 * n ∧ 2 * n ≤ xs.length := by omega
  obtain ⟨hl1, hl2⟩ := hl1
  clear h hin K1 B1 P h1
  go_enter Try.func37, Try.ntmps37
  go_wp2_with fail
  refine LB.out.mono ?_
  rintro e wq ⟨rfl, rfl⟩
  go_wp2_with fail
  refine LW.out.mono ?_
  rintro e wq ⟨rfl, rfl⟩
  have HB2 := Lib.hid (below_then HB1.out (bl1 _ (.cells #[] 2)))
  have HO := Lib.hid (own_empty (w.alloc (.cells #[.int .i64 x, .int .i64 y] 2)) 2)
  have HO2 : Hid (World.ownsRow _ w.heap.size _ _ _ _ _) := own_base HO.out (by simp)
  clear HO
  go_wp2_with fail
  go_loopw [24, 8] (fun iv ov wr => ∃ (k : Nat) (v : Value), k ≤ n ∧ iv = .int .i64 k ∧ ov = v ∧ Hid (wr.ownsRow w.heap.size 2 1 v (betterL xs x y k).length (ints (betterL xs x y k))) ∧ Hid (Below w.heap.size w wr)) (fun iv _ _ => n - (intOf iv).toNat)
  case atStart => exact ⟨0, _, Nat.zero_le _, rfl, rfl, (by have h := HO2.out; simp at h; exact h), HB2.out⟩
  case round =>
    clear HB2 HO2 LB LW HB1
    obtain ⟨k, v, hk, rfl, rfl, ho, hw⟩ := hrel
    have k0 : (0 : Int) ≤ (k : Int) := Int.natCast_nonneg _
    by_cases hlt : k < n
    · obtain ⟨b, o, ha, hbb, hc⟩ := (HR.out.to hw.out).at (k := 0) (by omega)
      subst ha
      have c1 := hc (2 * k) (by omega)
      have c2 := hc (2 * k + 1) (by omega)
      have hsucc := Lib.hid (betterL_succ xs x y k)
      have hll := betterL_len xs x y k
      have hp1 := HP.out (2 * k)
      have hp2 := HP.out (2 * k + 1)
      have hN : notW xs x y k = (decide (x ≤ xs.getD (2 * k) 0) && decide (y ≤ xs.getD (2 * k + 1) 0)) := rfl
      have hww := hw.out.size
      rw [hN] at hsucc
      generalize xs.getD (2 * k) 0 = p at *
      generalize xs.getD (2 * k + 1) 0 = q at *
      have i1 : 2 * (k : Int) < (xs.length : Int) := by omega
      have i2 : 2 * (k : Int) + 1 < (xs.length : Int) := by omega
      have hki : (k : Int) < (n : Int) := by omega
      clear hc hN
      cases t1 : decide (x ≤ p) with
      | false =>
        rw [t1, Bool.false_and] at hsucc
        have hs2 : Hid (betterL xs x y (k + 1) = betterL xs x y k) := hsucc.out
        have t1' : decide (p < x) = true := by have := of_decide_eq_false t1; exact decide_eq_true (by omega)
        clear hsucc
        go_wp2_with fail
        go_roundw
        case rel => exact ⟨k + 1, _, by omega, by go_num, rfl, by rw [hs2.out]; exact ho.out, hw.out⟩
        case measure => simp [intOf]; omega
      | true =>
        cases t2 : decide (y ≤ q) with
        | false =>
          rw [t1, t2, Bool.and_false] at hsucc
          have hs2 : Hid (betterL xs x y (k + 1) = betterL xs x y k) := hsucc.out
          clear hsucc
          go_wp2_with fail
          go_roundw
          case rel => exact ⟨k + 1, _, by omega, by go_num, rfl, by rw [hs2.out]; exact ho.out, hw.out⟩
          case measure => simp [intOf]; omega
        | true =>
          rw [t1, t2, Bool.and_true, if_pos rfl] at hsucc
          have HO := ho
          clear ho
          go_wp2_with (at_builtin; refine wpList_append_one _ rfl _ _ 24 rfl w.heap.size 2 (.int .i64 0) 8 Try.underlying24 info_i64p rfl _ _ _ rfl HO.out (.int .i64 k) rfl rfl (by omega) (by omega) hww ?_)
          intro v8 w8 o8 g8
          have B8 := Lib.hid (below_append hw.out HO.out g8 (Nat.le_refl _) hww)
          have H8 : Hid (w8.ownsRow w.heap.size 2 1 v8 (betterL xs x y (k + 1)).length (ints (betterL xs x y (k + 1)))) := by rw [hsucc.out, ints_append, List.length_append]; exact o8
          clear o8 g8 HO hsucc
          go_wp2_with fail
          go_roundw
          case rel => exact ⟨k + 1, v8, by omega, by go_num, rfl, H8, B8⟩
          case measure => simp [intOf]; omega
    · obtain rfl : k = n := by omega
      obtain ⟨a', c', e', hcap, _⟩ := own_shape ho.out
      subst e'
      have HRd := Lib.hid (rd_of_own ho.out (Nat.le_refl _))
      have HC := Lib.hid hcap
      have HW := hw
      clear hcap ho hw
      obtain ⟨ys, hys⟩ : ∃ ys, Hid (ys = betterL xs x y k) := ⟨_, rfl⟩
      rw [← hys.out] at HC HRd ⊢
      cases hz : decide (0 < ys.length) with
      | true =>
        go_wp2_with fail
        go_ret2
        exact ⟨a', c', by rw [← hys.out, hz]; rfl, by rw [← hys.out]; exact HC.out, by rw [← hys.out]; exact HRd.out, HW.out⟩
      | false =>
        go_wp2_with fail
        go_ret2
        exact ⟨a', c', by rw [← hys.out, hz]; rfl, by rw [← hys.out]; exact HC.out, by rw [← hys.out]; exact HRd.out, HW.out⟩
set_option maxRecDepth 10000 in
set_option maxHeartbeats 8000000 in
theorem greatPoint_any (K : Nat) (hK : ∀ (args : Array Value) (w : World), (callFunc K args).run Try.prog w = .ok (.enter K args) w) (f : Int → Int → Int)
    (hf : ∀ (w : World) (p q : Int), 0 ≤ p → p ≤ 19 → 0 ≤ q → q ≤ 19 → Calls Try.prog K #[.int .i64 p, .int .i64 q] w fun e w' => e = .returned (.int .i64 (f p q)) ∧ w = w') (hfb : ∀ p q, 0 ≤ p → p ≤ 19 → 0 ≤ q → q ≤ 19 → 0 ≤ f p q ∧ f p q ≤ 361)
    (w : World) (a : Option Addr) (c : Nat) (xs : List Int) (n : Nat) (x y : Int) (h : Rd w w.heap.size a (ints xs)) (P : Pts xs n) (x0 : 0 ≤ x) (x1 : x ≤ 7) (y0 : 0 ≤ y) (y1 : y ≤ 7) :
    Calls Try.prog 28 #[.slice a xs.length c, .int .i64 x, .int .i64 y, .func (.func K) #[] #[]] w fun e w' => e = .returned (.tuple #[.int .i64 (greatR xs x y n f), .bool (someB xs x y n)]) ∧ Below w.heap.size w w' := by
  have LB := Lib.hid (better_any w a c xs n x y h P x0 x1 y0 y1)
  have HR := Lib.hid h
  have hmem := Lib.hid (fun z (hz : z ∈ betterL xs x y n) => betterL_mem hz)
  have hlen := betterL_len xs x y n
  have h1 := P.len
  have h3 := P.few
  have hl1 : xs.length ≤ 2 * n ∧ 2 * n ≤ xs.length := by omega
  obtain ⟨hl1, hl2⟩ := hl1
  have HP := Lib.hid P.at
  have HG : Hid (∀ k, bestL (gainF xs x y f) ((betterL xs x y n).take k) = bestL (gainF xs x y f) ((betterL xs x y n).take k)) := fun _ => rfl
  have HBD : Hid (∀ k, (-1 ≤ (bestL (gainF xs x y f) ((betterL xs x y n).take k)).1 ∧ (bestL (gainF xs x y f) ((betterL xs x y n).take k)).1 ≤ 8) ∧ (0 ≤ (bestL (gainF xs x y f) ((betterL xs x y n).take k)).2 ∧ (bestL (gainF xs x y f) ((betterL xs x y n).take k)).2 ≤ 361)) := fun k => by
    have := bestL_bd (gainF xs x y f) 361 ((betterL xs x y n).take k) (fun i hi => by
      obtain ⟨j, rfl, hj, j1, j2⟩ := betterL_mem (List.mem_of_mem_take hi)
      have p1 := P.at (2 * j)
      have p2 := P.at (2 * j + 1)
      have := hfb (xs.getD (2 * j) 0 - x) (xs.getD (2 * j + 1) 0 - y) (by omega) (by omega) (by omega) (by omega)
      rw [Int.toNat_natCast]
      exact ⟨by omega, by omega, this⟩) (by omega)
    exact ⟨this.1, this.2.1⟩
  have HS : Hid (∀ (k : Nat) (z : Int), (betterL xs x y n)[k]? = some z → bestL (gainF xs x y f) ((betterL xs x y n).take (k + 1)) = if (bestL (gainF xs x y f) ((betterL xs x y n).take k)).1 < 0 ∨ (bestL (gainF xs x y f) ((betterL xs x y n).take k)).2 < gainF xs x y f z.toNat then (z, gainF xs x y f z.toNat) else bestL (gainF xs x y f) ((betterL xs x y n).take k)) := fun k z hz => by
    rw [List.take_add_one, hz]
    exact bestL_snoc _ _ _
  have HF := Lib.hid hf
  have HE : Hid (greatF xs x y n f = (bestL (gainF xs x y f) ((betterL xs x y n).take (betterL xs x y n).length)).1) := by rw [List.take_length]; rfl
  clear h P hf hfb h1 HG
  obtain ⟨ys, hys⟩ : ∃ ys, Hid (ys = betterL xs x y n) := ⟨_, rfl⟩
  rw [← hys.out] at LB hmem hlen HBD HS HE
  by_cases hz : 0 < ys.length
  case neg =>
    have hd : decide (0 < ys.length) = false := decide_eq_false hz
    have hpost : Hid (greatR xs x y n f = 0 ∧ someB xs x y n = false) := by
      unfold greatR someB
      rw [Hid, ← hys.out, if_neg hz]; exact ⟨rfl, hd⟩
    rw [hd] at LB
    clear hz hd HBD HS HE
    go_enter Try.func28, Try.ntmps28
    go_wp2_with fail
    refine LB.out.mono ?_
    rintro e w1 ⟨a', c', rfl, hcap, hrd, hb⟩
    have HB := Lib.hid hb
    clear hcap hrd hb
    go_wp2_with fail
    go_ret2
    exact ⟨by rw [hpost.out.1, hpost.out.2]; rfl, HB.out⟩
  case pos =>
    have hd : decide (0 < ys.length) = true := decide_eq_true hz
    have hpost : Hid (greatR xs x y n f = (bestL (gainF xs x y f) (ys.take ys.length)).1 ∧ someB xs x y n = true) := by
      unfold greatR someB
      rw [Hid, ← hys.out, if_pos hz]; exact ⟨HE.out, hd⟩
    rw [hd] at LB
    clear hd
    go_enter Try.func28, Try.ntmps28
    go_wp2_with fail
    refine LB.out.mono ?_
    rintro e w1 ⟨a', c', rfl, hcap, hrd, hb⟩
    have HB := Lib.hid hb
    have HR1 := Lib.hid (HR.out.to hb)
    have HY := Lib.hid hrd
    clear hcap hrd hb HR
    obtain ⟨by', oy, ey, _, hcy⟩ := HY.out.at (k := 0) hz
    subst ey
    have HCY := Lib.hid hcy
    have HYB : Hid (by' < w1.heap.size) := by
      rcases HY.out with h | ⟨b2, o2, e2, h2, _⟩
      · have : (ints ys).length = 0 := by rw [h]; rfl
        rw [ints_length] at this; omega
      · cases e2; exact h2
    clear hcy HY
    go_wp2_with fail
    go_loopw [28, 12, 13] (fun iv bv mv wr => ∃ (k : Nat) (b m : Int), k ≤ ys.length ∧ iv = .int .i64 k ∧ bv = .int .i64 b ∧ mv = .int .i64 m ∧ Hid (b = (bestL (gainF xs x y f) (ys.take k)).1) ∧ Hid (m = (bestL (gainF xs x y f) (ys.take k)).2) ∧ Hid (Below w1.heap.size w1 wr)) (fun iv _ _ _ => ys.length - (intOf iv).toNat)
    case atStart => exact ⟨0, -1, 0, Nat.zero_le _, rfl, rfl, rfl, rfl, rfl, Below.refl _ _⟩
    case round =>
      obtain ⟨k, b, m, hk, rfl, rfl, rfl, hbb, hmm, hw⟩ := hrel
      have k0 : (0 : Int) ≤ (k : Int) := Int.natCast_nonneg _
      by_cases hlt : k < ys.length
      · have cy : wr.cell? ⟨by', oy + k, none⟩ = some (.int .i64 (ys.getD k 0)) := (hw.out.cell (p := ⟨by', oy + k, none⟩) HYB.out).trans (HCY.out k hlt)
        have hyk : ys[k]? = some (ys.getD k 0) := get_of_lt hlt
        obtain ⟨j, hj, hjn, j1, j2⟩ := hmem.out _ (List.mem_of_getElem? hyk)
        have hst := HS.out k _ hyk
        have hbd := HBD.out k
        rw [← hbb.out, ← hmm.out] at hbd hst
        obtain ⟨⟨b0, b1⟩, m0, m1⟩ := hbd
        rw [hj] at cy hst
        rw [Int.toNat_natCast] at hst
        have hg : gainF xs x y f j = f (xs.getD (2 * j) 0 - x) (xs.getD (2 * j + 1) 0 - y) := rfl
        rw [hg] at hst
        have hp1 := HP.out (2 * j)
        have hp2 := HP.out (2 * j + 1)
        obtain ⟨bx, ox, ax, hbx, hcx⟩ := HR1.out.at (k := 0) (by omega)
        have D1 : ∀ z9 : Later wr, z9.w'.cell? ⟨bx, ox + 2 * j, none⟩ = some (.int .i64 (xs.getD (2 * j) 0)) := fun z9 => ((below_then hw.out z9.h).cell (p := ⟨bx, ox + 2 * j, none⟩) hbx).trans (hcx (2 * j) (by omega))
        have D2 : ∀ z9 : Later wr, z9.w'.cell? ⟨bx, ox + (2 * j + 1), none⟩ = some (.int .i64 (xs.getD (2 * j + 1) 0)) := fun z9 => ((below_then hw.out z9.h).cell (p := ⟨bx, ox + (2 * j + 1), none⟩) hbx).trans (hcx (2 * j + 1) (by omega))
        subst ax
        clear hcx hg hyk hj
        have HB1 := Lib.hid hst
        clear hst
        generalize xs.getD (2 * j) 0 = p at *
        generalize xs.getD (2 * j + 1) 0 = q at *
        have HC := Lib.hid (fun v => HF.out v (p - x) (q - y) (by omega) (by omega) (by omega) (by omega))
        generalize f (p - x) (q - y) = g at *
        have i0 : (0 : Int) ≤ (j : Int) := Int.natCast_nonneg _
        have i1 : 2 * (j : Int) < (xs.length : Int) := by omega
        have i2 : 2 * (j : Int) + 1 < (xs.length : Int) := by omega
        have hki : (k : Int) < (ys.length : Int) := by omega
        clear HBD HS HE HF hmem HP
        go_wp2_with fail
        refine wp_region_later (by kernel_rfl) (by kernel_rfl) ?_
        repeat (go_big_quiet_step (exact later_same (HC.out _)))
        refine wpQuiet_nil ?_
        rintro wq ⟨⟨_, hbq⟩, rfl⟩
        have HW2 := Lib.hid (below_then hw.out hbq)
        clear D1 D2 hbq hw HC cy
        cases t1 : decide (b < 0) with
        | true =>
          rw [if_pos (.inl (of_decide_eq_true t1))] at HB1
          have n1 : Hid ((j : Int) = (bestL (gainF xs x y f) (ys.take (k + 1))).1) := by rw [Hid, HB1.out]
          have n2 : Hid (g = (bestL (gainF xs x y f) (ys.take (k + 1))).2) := by rw [Hid, HB1.out]
          clear HB1 hbb hmm
          go_wp2_with fail
          go_roundw
          case rel => exact ⟨k + 1, _, _, by omega, by go_num, rfl, rfl, n1, n2, HW2⟩
          case measure => simp [intOf]; omega
        | false =>
          cases t2 : decide (m < g) with
          | true =>
            rw [if_pos (.inr (of_decide_eq_true t2))] at HB1
            have n1 : Hid ((j : Int) = (bestL (gainF xs x y f) (ys.take (k + 1))).1) := by rw [Hid, HB1.out]
            have n2 : Hid (g = (bestL (gainF xs x y f) (ys.take (k + 1))).2) := by rw [Hid, HB1.out]
            clear HB1 hbb hmm
            go_wp2_with fail
            go_roundw
            case rel => exact ⟨k + 1, _, _, by omega, by go_num, rfl, rfl, n1, n2, HW2⟩
            case measure => simp [intOf]; omega
          | false =>
            rw [if_neg (by have := of_decide_eq_false t1; have := of_decide_eq_false t2; omega)] at HB1
            have n1 : Hid (b = (bestL (gainF xs x y f) (ys.take (k + 1))).1) := by rw [Hid, HB1.out]; exact hbb.out
            have n2 : Hid (m = (bestL (gainF xs x y f) (ys.take (k + 1))).2) := by rw [Hid, HB1.out]; exact hmm.out
            clear HB1 hbb hmm
            go_wp2_with fail
            go_roundw
            case rel => exact ⟨k + 1, _, _, by omega, by go_num, rfl, rfl, n1, n2, HW2⟩
            case measure => simp [intOf]; omega
      · obtain rfl : k = ys.length := by omega
        have HF2 : Hid (greatR xs x y n f = b) := by rw [Hid, hpost.out.1, ← hbb.out]
        have HS2 := Lib.hid hpost.out.2
        have HW2 := Lib.hid (below_then HB.out hw.out)
        clear hbb hmm HBD HS HE hpost HF hmem HP HCY
        go_wp2_with fail
        go_ret2
        exact ⟨by rw [HF2.out, HS2.out]; rfl, HW2.out⟩
theorem gainProd_any (w : World) (p q : Int) (p0 : 0 ≤ p) (p1 : p ≤ 19) (q0 : 0 ≤ q) (q1 : q ≤ 19) :
    Calls Try.prog 29 #[.int .i64 p, .int .i64 q] w fun e w' => e = .returned (.int .i64 (p * q)) ∧ w = w' := by
  have h0 : 0 ≤ p * q := Int.mul_nonneg p0 q0
  have h1 : p * q ≤ 19 * 19 := Int.mul_le_mul p1 q1 q0 (by omega)
  go_enter Try.func29, Try.ntmps29
  go_wp2
  go_ret
  exact ⟨rfl, rfl⟩
theorem productPoint_any (w : World) (a : Option Addr) (c : Nat) (xs : List Int) (n : Nat) (x y : Int) (h : Rd w w.heap.size a (ints xs)) (P : Pts xs n) (x0 : 0 ≤ x) (x1 : x ≤ 7) (y0 : 0 ≤ y) (y1 : y ≤ 7) :
    Calls Try.prog 7 #[.slice a xs.length c, .int .i64 x, .int .i64 y] w fun e w' => e = .returned (.tuple #[.int .i64 (greatR xs x y n fun p q => p * q), .bool (someB xs x y n)]) ∧ Below w.heap.size w w' := by
  have L := Lib.hid (greatPoint_any 29 (fun _ _ => by kernel_rfl) (fun p q => p * q) gainProd_any (fun p q p0 p1 q0 q1 => ⟨Int.mul_nonneg p0 q0, by have : p * q ≤ 19 * 19 := Int.mul_le_mul p1 q1 q0 (by omega); omega⟩) w a c xs n x y h P x0 x1 y0 y1)
  clear h P
  go_enter Try.func7, Try.ntmps7
  go_wp2_with fail
  refine L.out.mono ?_
  rintro e w1 ⟨rfl, hb⟩
  have HB := Lib.hid hb
  clear hb
  go_wp2_with fail
  go_ret2
  exact ⟨rfl, HB.out⟩
theorem gainLeast_any (w : World) (p q : Int) (p0 : 0 ≤ p) (p1 : p ≤ 19) (q0 : 0 ≤ q) (q1 : q ≤ 19) :
    Calls Try.prog 30 #[.int .i64 p, .int .i64 q] w fun e w' => e = .returned (.int .i64 (min p q)) ∧ w = w' := by
  by_cases h : p ≤ q
  · have H : Hid (min p q = p) := by rw [Hid]; omega
    go_enter Try.func30, Try.ntmps30
    go_wp2
    go_ret
    exact ⟨ret_int H.out.symm, rfl⟩
  · have H : Hid (min p q = q) := by rw [Hid]; omega
    go_enter Try.func30, Try.ntmps30
    go_wp2
    go_ret
    exact ⟨ret_int H.out.symm, rfl⟩
theorem leastPoint_any (w : World) (a : Option Addr) (c : Nat) (xs : List Int) (n : Nat) (x y : Int) (h : Rd w w.heap.size a (ints xs)) (P : Pts xs n) (x0 : 0 ≤ x) (x1 : x ≤ 7) (y0 : 0 ≤ y) (y1 : y ≤ 7) :
    Calls Try.prog 8 #[.slice a xs.length c, .int .i64 x, .int .i64 y] w fun e w' => e = .returned (.tuple #[.int .i64 (greatR xs x y n min), .bool (someB xs x y n)]) ∧ Below w.heap.size w w' := by
  have L := Lib.hid (greatPoint_any 30 (fun _ _ => by kernel_rfl) min gainLeast_any (fun p q p0 p1 q0 q1 => ⟨by omega, by omega⟩) w a c xs n x y h P x0 x1 y0 y1)
  clear h P
  go_enter Try.func8, Try.ntmps8
  go_wp2_with fail
  refine L.out.mono ?_
  rintro e w1 ⟨rfl, hb⟩
  have HB := Lib.hid hb
  clear hb
  go_wp2_with fail
  go_ret2
  exact ⟨rfl, HB.out⟩
end Go.Proofs.Ytkapjlkeohjjbaa
namespace Go.Proofs.Ytkapjlkeohjjbaa
set_option linter.unusedVariables false
set_option linter.unusedSimpArgs false
open Go

def lexRow (md : Region.Mode) (ops : Array Oper) (k : Nat) : Bool :=
  match ops[k]? with
  | none => false
  | some ok => (ok.after.all fun e => !Region.binds md e || decide (e.on < k)) && (List.range ops.size).all fun j => decide (j ≤ k) || match ops[j]? with
      | some oj => oj.after.any (fun e => Region.binds md e && e.on == k) || ok.apart ops oj
      | none => true
/-- The first k are listed. -/
def listedK (N k : Nat) : Array Bool := ((List.range N).map fun j => decide (j < k)).toArray
theorem listedK_size (N k : Nat) : (listedK N k).size = N := by simp [listedK]
theorem listedK_get {N k j : Nat} (d : Bool) (hj : j < N) : (listedK N k).getD j d = decide (j < k) := by
  unfold listedK
  simp [Array.getD, hj]
theorem listedK_out {N k j : Nat} (d : Bool) (hj : N ≤ j) : (listedK N k).getD j d = d := by
  unfold listedK
  simp [Array.getD, Nat.not_lt.2 hj]
theorem listedK_set {N k : Nat} : (listedK N k).setIfInBounds k true = listedK N (k + 1) := by
  unfold listedK
  apply Array.ext
  · simp
  · intro j h1 h2
    rw [Array.getElem_setIfInBounds (by simpa using h1)]
    by_cases hjk : k = j
    · subst hjk; simp
    · rw [if_neg hjk]
      have : (j < k) ↔ (j < k + 1) := by omega
      simp [this]
theorem listedK_zero (N : Nat) : Array.replicate N false = listedK N 0 := by
  apply Array.ext
  · simp [listedK]
  · intro j h1 h2
    simp [listedK]
theorem lexFrom_rows {md : Region.Mode} {ops : Array Oper} (h : ∀ k, k < ops.size → lexRow md ops k = true) : ∀ n k, n + k = ops.size → Region.lexFrom md ops n k (listedK ops.size k) = true
  | 0, k, hk => by
    have hk2 : k = ops.size := by omega
    subst hk2
    unfold Region.lexFrom
    rw [List.isEmpty_iff]
    unfold Region.ready
    rw [List.filter_eq_nil_iff]
    intro i hi
    have hi2 := List.mem_range.1 hi
    rw [listedK_get true hi2, decide_eq_true hi2]
    simp
  | n + 1, k, hk => by
    have hlt : k < ops.size := by omega
    have hr := h k hlt
    unfold lexRow at hr
    cases ho : ops[k]? with
    | none => rw [ho] at hr; cases hr
    | some ok =>
      rw [ho] at hr
      simp only [Bool.and_eq_true] at hr
      obtain ⟨h1, h2⟩ := hr
      unfold Region.lexFrom
      rw [listedK_set, lexFrom_rows h n (k + 1) (by omega), Bool.and_true, Bool.and_eq_true]
      constructor
      · rw [List.contains_iff_mem]
        unfold Region.ready
        rw [List.mem_filter]
        refine ⟨List.mem_range.2 hlt, ?_⟩
        rw [listedK_get true hlt, ho]
        simp only [Nat.lt_irrefl, decide_false, Bool.not_false, Bool.true_and, Option.map_some, Option.getD_some]
        rw [Array.all_eq_true'] at h1 ⊢
        intro e he
        have h3 := h1 e he
        rw [Bool.or_eq_true] at h3 ⊢
        rcases h3 with h3 | h3
        · exact .inl h3
        · have h4 := of_decide_eq_true h3
          exact .inr (by rw [listedK_get false (by omega)]; exact decide_eq_true h4)
      · unfold Region.free
        rw [ho]
        simp only
        rw [List.all_eq_true] at h2 ⊢
        intro j hj
        have hj2 := List.mem_range.1 hj
        have h3 := h2 j hj
        by_cases hjk : j = k
        · subst hjk; simp
        · rw [listedK_get true hj2]
          by_cases hlt2 : j < k
          · rw [decide_eq_true hlt2]; simp
          · have : decide (j ≤ k) = false := decide_eq_false (by omega)
            rw [this, Bool.false_or] at h3
            rw [Bool.or_eq_true]
            exact .inr h3
theorem lexB_rows {md : Region.Mode} {ops : Array Oper} (hns : Region.noSelect ops = true) (h : (List.range ops.size).all (lexRow md ops) = true) : Region.lexB md ops = true := by
  unfold Region.lexB
  rw [hns, listedK_zero, lexFrom_rows (fun k hk => List.all_eq_true.1 h k (List.mem_range.2 hk)) ops.size 0 (by omega)]; rfl
end Go.Proofs.Ytkapjlkeohjjbaa
namespace Go.Proofs.Ytkapjlkeohjjbaa
set_option linter.unusedVariables false
set_option linter.unusedSimpArgs false
open Go.RowKit

/-- The pairs that have been looked at: all from a first below a, and of a those before k. -/
def pairP (xs : List Int) (x y : Int) (ys : List Int) (a k : Nat) (p q u v : Int) : Prop :=
  ∃ i j : Nat, i ≤ j ∧ j < ys.length ∧ (i < a ∨ (i = a ∧ j < k)) ∧ p = xs.getD (2 * (ys.getD i 0).toNat) 0 - x ∧ q = xs.getD (2 * (ys.getD i 0).toNat + 1) 0 - y ∧ u = xs.getD (2 * (ys.getD j 0).toNat) 0 - x ∧ v = xs.getD (2 * (ys.getD j 0).toNat + 1) 0 - y
def MixSt (xs : List Int) (x y : Int) (ys : List Int) (a k f s mo : Nat) : Prop :=
  (mo = 3212836864 ∧ a = 0 ∧ k = 0) ∨ ∃ M N V, Best (fun V => ∀ p q u v, pairP xs x y ys a k p q u v → PairV V p q u v) f s mo M N V
theorem mixSt_next {xs : List Int} {x y : Int} {ys : List Int} {a f s mo : Nat} (h : MixSt xs x y ys a ys.length f s mo) (ha : a < ys.length) : MixSt xs x y ys (a + 1) (a + 1) f s mo := by
  rcases h with ⟨_, rfl, h2⟩ | ⟨M, N, V, h⟩
  · omega
  · refine .inr ⟨M, N, V, h.sf, h.ss, h.sm, h.bM, h.bN, h.v0, h.vn, fun p q u v hp => h.all p q u v ?_⟩
    obtain ⟨i, j, h1, h2, h3, h4⟩ := hp
    exact ⟨i, j, h1, h2, by omega, h4⟩
/-- A pair more. -/
theorem mixSt_new {xs : List Int} {x y : Int} {ys : List Int} {a k f s mo m n pr : Nat} {M N V : Int} (h : MixSt xs x y ys a k f s mo) (hak : a ≤ k)
    (hm : Sv eU m M) (hn : Sv eU n N) (hV : Sv eV pr V) (hV0 : 0 ≤ V) (hV1 : V ≤ M * N + 361 * ((cB : Int) * (wB : Int))) (hV2 : M * N ≤ V + 361 * ((cB : Int) * (wB : Int)))
    (hok : MixOk (xs.getD (2 * (ys.getD a 0).toNat) 0 - x) (xs.getD (2 * (ys.getD a 0).toNat + 1) 0 - y) (xs.getD (2 * (ys.getD k 0).toNat) 0 - x) (xs.getD (2 * (ys.getD k 0).toNat + 1) 0 - y) M N) :
    ((FloatKind.f32.format.order mo 0 == some .lt) = true ∧ MixSt xs x y ys a (k + 1) m n pr) ∨
    ((FloatKind.f32.format.order mo 0 == some .lt) = false ∧ (((FloatKind.f32.format.order pr mo == some .gt) = true ∧ MixSt xs x y ys a (k + 1) m n pr) ∨ ((FloatKind.f32.format.order pr mo == some .gt) = false ∧ MixSt xs x y ys a (k + 1) f s mo))) := by
  have hpv := pair_v hok hV2
  rcases h with ⟨rfl, rfl, rfl⟩ | ⟨M', N', V', hb⟩
  · refine .inl ⟨?_, .inr ⟨M, N, V, hm, hn, hV, hok.1, hok.2.1, hV0, hV1, fun p q u v hp => ?_⟩⟩
    · rw [lt_test sv_mone (sv_zero eV)]
      exact decide_eq_true (by have := Nat.two_pow_pos 80; omega)
    · obtain ⟨i, j, h1, h2, h3, rfl, rfl, rfl, rfl⟩ := hp
      obtain rfl : i = 0 := by omega
      obtain rfl : j = 0 := by omega
      exact hpv
  · refine .inr ⟨?_, ?_⟩
    · rw [lt_test hb.sm (sv_zero eV)]
      exact decide_eq_false (by have := hb.v0; omega)
    · rw [gt_test hV hb.sm]
      by_cases hlt : V' < V
      · refine .inl ⟨decide_eq_true hlt, .inr ⟨M, N, V, hm, hn, hV, hok.1, hok.2.1, hV0, hV1, fun p q u v hp => ?_⟩⟩
        obtain ⟨i, j, h1, h2, h3, h4⟩ := hp
        by_cases he : i = a ∧ j = k
        · obtain ⟨rfl, rfl⟩ := he
          obtain ⟨rfl, rfl, rfl, rfl⟩ := h4
          exact hpv
        · exact (hb.all p q u v ⟨i, j, h1, h2, by omega, h4⟩).mono (by omega)
      · refine .inr ⟨decide_eq_false hlt, .inr ⟨M', N', V', hb.sf, hb.ss, hb.sm, hb.bM, hb.bN, hb.v0, hb.vn, fun p q u v hp => ?_⟩⟩
        obtain ⟨i, j, h1, h2, h3, h4⟩ := hp
        by_cases he : i = a ∧ j = k
        · obtain ⟨rfl, rfl⟩ := he
          obtain ⟨rfl, rfl, rfl, rfl⟩ := h4
          exact hpv.mono (by omega)
        · exact hb.all p q u v ⟨i, j, h1, h2, by omega, h4⟩
/-- What MixedPoint tells of points that are not worse. -/
def mixR (xs : List Int) (x y : Int) (n : Nat) (p q u v : Int) : Prop :=
  ∃ i j : Nat, i ≤ j ∧ j < n ∧ notW xs x y i = true ∧ notW xs x y j = true ∧ p = xs.getD (2 * i) 0 - x ∧ q = xs.getD (2 * i + 1) 0 - y ∧ u = xs.getD (2 * j) 0 - x ∧ v = xs.getD (2 * j + 1) 0 - y
theorem betterL_pre (xs : List Int) (x y : Int) (i : Nat) : ∀ n, i ≤ n → ∃ t, betterL xs x y n = betterL xs x y i ++ t
  | 0, h => ⟨[], by rw [show i = 0 from by omega, List.append_nil]⟩
  | n + 1, h => by
    by_cases he : i = n + 1
    · subst he; exact ⟨[], by rw [List.append_nil]⟩
    · obtain ⟨t, ht⟩ := betterL_pre xs x y i n (by omega)
      rw [betterL_succ]
      by_cases hN : notW xs x y n = true
      · rw [if_pos hN]; exact ⟨t ++ [(n : Int)], by rw [ht, List.append_assoc]⟩
      · rw [if_neg hN]; exact ⟨t, ht⟩
theorem betterL_pos {xs : List Int} {x y : Int} {n i : Nat} (hi : i < n) (hN : notW xs x y i = true) : (betterL xs x y i).length < (betterL xs x y n).length ∧ (betterL xs x y n).getD (betterL xs x y i).length 0 = (i : Int) := by
  obtain ⟨t, ht⟩ := betterL_pre xs x y (i + 1) n (by omega)
  rw [betterL_succ, if_pos hN] at ht
  rw [ht]
  constructor
  · simp
  · simp [List.getD]
theorem betterL_mono {xs : List Int} {x y : Int} {i j : Nat} (h : i ≤ j) : (betterL xs x y i).length ≤ (betterL xs x y j).length := by
  obtain ⟨t, ht⟩ := betterL_pre xs x y i j h
  rw [ht, List.length_append]; omega
theorem mixR_pair {xs : List Int} {x y : Int} {n : Nat} {p q u v : Int} (h : mixR xs x y n p q u v) (k : Nat) : pairP xs x y (betterL xs x y n) (betterL xs x y n).length k p q u v := by
  obtain ⟨i, j, hij, hj, hi1, hj1, h4⟩ := h
  obtain ⟨a1, a2⟩ := betterL_pos (show i < n by omega) hi1
  obtain ⟨b1, b2⟩ := betterL_pos hj hj1
  refine ⟨(betterL xs x y i).length, (betterL xs x y j).length, betterL_mono hij, b1, .inl a1, ?_⟩
  rw [a2, b2, Int.toNat_natCast, Int.toNat_natCast]
  exact h4
set_option maxRecDepth 10000 in
set_option maxHeartbeats 16000000 in
theorem mixedPoint_any (w : World) (a : Option Addr) (c : Nat) (xs : List Int) (n : Nat) (x y : Int) (h : Rd w w.heap.size a (ints xs)) (P : Pts xs n) (x0 : 0 ≤ x) (x1 : x ≤ 7) (y0 : 0 ≤ y) (y1 : y ≤ 7) :
    Calls Try.prog 10 #[.slice a xs.length c, .int .i64 x, .int .i64 y] w fun e w' => ∃ uw vw : Nat, e = .returned (.tuple #[.float .f32 uw, .float .f32 vw, .bool (someB xs x y n)]) ∧ (someB xs x y n = true → Told x y uw vw (mixR xs x y n)) ∧ Below w.heap.size w w' := by
  have LB := Lib.hid (better_any w a c xs n x y h P x0 x1 y0 y1)
  have HR := Lib.hid h
  have hmem := Lib.hid (fun z (hz : z ∈ betterL xs x y n) => betterL_mem hz)
  have hlen := betterL_len xs x y n
  have hRP := Lib.hid (fun p q u v k (h : mixR xs x y n p q u v) => mixR_pair h k)
  have h1 := P.len
  have h3 := P.few
  have hl1 : xs.length ≤ 2 * n ∧ 2 * n ≤ xs.length := by omega
  obtain ⟨hl1, hl2⟩ := hl1
  have HP := Lib.hid P.at
  have hsb : Hid (someB xs x y n = decide (0 < (betterL xs x y n).length)) := rfl
  clear h P h1
  generalize mixR xs x y n = RR at *
  generalize betterL xs x y n = ys at *
  generalize someB xs x y n = bb at *
  by_cases hz : 0 < ys.length
  case neg =>
    have hd : decide (0 < ys.length) = false := decide_eq_false hz
    rw [hd] at LB
    have HF : Hid (bb = false) := by rw [Hid, hsb.out, hd]
    clear hz hd hmem
    go_enter Try.func10, Try.ntmps10
    go_wp2_with fail
    refine LB.out.mono ?_
    rintro e w1 ⟨a', c', rfl, hcap, hrd, hb⟩
    have HB := Lib.hid hb
    clear hcap hrd hb
    go_wp2_with fail
    go_ret3
    refine ⟨0, 0, ?_, ?_, HB.out⟩
    · rw [HF.out]; rfl
    · intro h; rw [HF.out] at h; cases h
  case pos =>
    have hd : decide (0 < ys.length) = true := decide_eq_true hz
    rw [hd] at LB
    have HF : Hid (bb = true) := by rw [Hid, hsb.out, hd]
    clear hd hsb
    go_enter Try.func10, Try.ntmps10
    go_wp2_with fail
    refine LB.out.mono ?_
    rintro e w1 ⟨a', c', rfl, hcap, hrd, hb⟩
    have HB := Lib.hid hb
    have HR1 := Lib.hid (HR.out.to hb)
    have HY := Lib.hid hrd
    clear hrd hb HR
    obtain ⟨by', oy, ey, hyb, hcy⟩ := HY.out.at (k := 0) hz
    subst ey
    have HCY := Lib.hid hcy
    obtain ⟨bx, ox, ax, hbx, hcx⟩ := HR1.out.at (k := 0) (by omega)
    subst ax
    have HCX := Lib.hid hcx
    clear hcy HY hcx HR1
    go_wp2_with fail
    go_loopw [32, 11, 12, 13] (fun iv fv sv mv wr => ∃ (k f s mo : Nat), k ≤ ys.length ∧ iv = .int .i64 k ∧ fv = .float .f32 f ∧ sv = .float .f32 s ∧ mv = .float .f32 mo ∧ Hid (MixSt xs x y ys k k f s mo) ∧ Hid (Below w1.heap.size w1 wr)) (fun iv _ _ _ _ => ys.length - (intOf iv).toNat)
    case atStart => exact ⟨0, 0, 0, _, Nat.zero_le _, rfl, rfl, rfl, rfl, .inl ⟨rfl, rfl, rfl⟩, Below.refl _ _⟩
    case round =>
      obtain ⟨k, f, s, mo, hk, rfl, rfl, rfl, rfl, hst, hw⟩ := hrel
      have k0 : (0 : Int) ≤ (k : Int) := Int.natCast_nonneg _
      by_cases hlt : k < ys.length
      · obtain ⟨wo, hwo⟩ : ∃ W : World, W = wr := ⟨_, rfl⟩
        subst hwo
        have hki : (k : Int) < (ys.length : Int) := by omega
        have cy : wo.cell? ⟨by', oy + k, none⟩ = some (.int .i64 (ys.getD k 0)) := (hw.out.cell (p := ⟨by', oy + k, none⟩) hyb).trans (HCY.out k hlt)
        obtain ⟨i, hi, hin, i1, i2⟩ := hmem.out _ (List.mem_of_getElem? (get_of_lt hlt))
        have hib := Lib.hid hi
        rw [hi] at cy
        have hkc : (k : Int) ≤ (c' : Int) := by omega
        have hne : ¬ c' = k := by omega
        clear hi
        go_wp2_with fail
        go_loopw [41, 11, 12, 13] (fun jv fv sv mv wi => ∃ (j f s mo : Nat), j ≤ ys.length - k ∧ jv = .int .i64 j ∧ fv = .float .f32 f ∧ sv = .float .f32 s ∧ mv = .float .f32 mo ∧ Hid (MixSt xs x y ys k (k + j) f s mo) ∧ Hid (Below wo.heap.size wo wi)) (fun jv _ _ _ _ => ys.length - k - (intOf jv).toNat)
        case atStart => exact ⟨0, f, s, mo, Nat.zero_le _, rfl, rfl, rfl, rfl, hst.out, Below.refl _ _⟩
        case round =>
          clear hst
          obtain ⟨j, f2, s2, mo2, hj, rfl, rfl, rfl, rfl, hst, hwi⟩ := hrel
          have j0 : (0 : Int) ≤ (j : Int) := Int.natCast_nonneg _
          by_cases hlj : j < ys.length - k
          · have hji : (j : Int) < (ys.length : Int) - (k : Int) := by omega
            have hji2 : (j : Int) < ((ys.length - k : Nat) : Int) := by omega
            have hW := Lib.hid (below_then hw.out hwi.out)
            have cyj : wr.cell? ⟨by', oy + k + j, none⟩ = some (.int .i64 (ys.getD (k + j) 0)) := by
              have := (hW.out.cell (p := ⟨by', oy + (k + j), none⟩) hyb).trans (HCY.out (k + j) (by omega))
              rw [Nat.add_assoc]; exact this
            obtain ⟨i', hi', hin', i1', i2'⟩ := hmem.out _ (List.mem_of_getElem? (get_of_lt (show k + j < ys.length by omega)))
            rw [hi'] at cyj
            have Q1 : ∀ z9 : Later wr, z9.w'.cell? ⟨bx, ox + 2 * i, none⟩ = some (.int .i64 (xs.getD (2 * i) 0)) := fun z9 => ((below_then hW.out z9.h).cell (p := ⟨bx, ox + 2 * i, none⟩) hbx).trans (HCX.out (2 * i) (by omega))
            have Q2 : ∀ z9 : Later wr, z9.w'.cell? ⟨bx, ox + (2 * i + 1), none⟩ = some (.int .i64 (xs.getD (2 * i + 1) 0)) := fun z9 => ((below_then hW.out z9.h).cell (p := ⟨bx, ox + (2 * i + 1), none⟩) hbx).trans (HCX.out (2 * i + 1) (by omega))
            have Q3 : ∀ z9 : Later wr, z9.w'.cell? ⟨bx, ox + 2 * i', none⟩ = some (.int .i64 (xs.getD (2 * i') 0)) := fun z9 => ((below_then hW.out z9.h).cell (p := ⟨bx, ox + 2 * i', none⟩) hbx).trans (HCX.out (2 * i') (by omega))
            have Q4 : ∀ z9 : Later wr, z9.w'.cell? ⟨bx, ox + (2 * i' + 1), none⟩ = some (.int .i64 (xs.getD (2 * i' + 1) 0)) := fun z9 => ((below_then hW.out z9.h).cell (p := ⟨bx, ox + (2 * i' + 1), none⟩) hbx).trans (HCX.out (2 * i' + 1) (by omega))
            have b1 := HP.out (2 * i)
            have b2 := HP.out (2 * i + 1)
            have b3 := HP.out (2 * i')
            have b4 := HP.out (2 * i' + 1)
            have hnew := fun m n pr M N V h1 h2 h3 h4 h5 h6 h7 => mixSt_new (m := m) (n := n) (pr := pr) (M := M) (N := N) (V := V) hst.out (Nat.le_add_right k j) h1 h2 h3 h4 h5 h6 h7
            rw [hib.out, hi', Int.toNat_natCast, Int.toNat_natCast] at hnew
            generalize xs.getD (2 * i) 0 = p at *
            generalize xs.getD (2 * i + 1) 0 = q at *
            generalize xs.getD (2 * i') 0 = u at *
            generalize xs.getD (2 * i' + 1) 0 = v at *
            obtain ⟨m, nn, M, N, LM, sM, sN, hok⟩ := mixture_any (floatOfInt .f32 (p - x)) (floatOfInt .f32 (q - y)) (floatOfInt .f32 (u - x)) (floatOfInt .f32 (v - y)) (p - x) (q - y) (u - x) (v - y) (sv_int _ (by omega)) (sv_int _ (by omega)) (sv_int _ (by omega)) (sv_int _ (by omega)) (by omega) (by omega) (by omega) (by omega) (by omega) (by omega) (by omega) (by omega)
            obtain ⟨pr, V, hpr, sV, v0, v1, v2⟩ := prod_word sM sN hok.1 hok.2.1
            have hcase := Lib.hid (hnew m nn pr M N V sM sN sV v0 v1 v2 hok)
            have rp : ∀ z : World, (binOp BinOp.mul 30 (.float .f32 m) (.float .f32 nn)).run Try.prog z = .ok (.float .f32 pr) z := fun z => run_float_arith z _ _ _ _ _ _ hpr
            have HM := Lib.hid LM
            have RP := Lib.hid rp
            have m1 : 2 * (i : Int) < (xs.length : Int) := by omega
            have m2 : 2 * (i : Int) + 1 < (xs.length : Int) := by omega
            have m3 : 2 * (i' : Int) < (xs.length : Int) := by omega
            have m4 : 2 * (i' : Int) + 1 < (xs.length : Int) := by omega
            have i0 : (0 : Int) ≤ (i : Int) := Int.natCast_nonneg _
            have i0' : (0 : Int) ≤ (i' : Int) := Int.natCast_nonneg _
            clear hnew hi' sM sN hok hpr sV v0 v1 v2 rp LM hst hmem HP hRP hW
            go_wp2_with fail
            refine wp_region_later (by kernel_rfl) (lexB_rows (by kernel_rfl) (by kernel_rfl)) ?_
            repeat (go_big_quiet_step ((go_at_call 38; exact later_same (HM.out _))))
            refine wpQuiet_nil ?_
            rintro w5 ⟨⟨_, hb5⟩, rfl⟩
            have HW5 := Lib.hid (below_then hwi.out hb5)
            clear Q1 Q2 Q3 Q4 hb5 hwi cyj HM
            have rp := RP.out
            rcases hcase.out with ⟨t1, hs1⟩ | ⟨t1, ⟨t2, hs1⟩ | ⟨t2, hs1⟩⟩
            · have HS1 := Lib.hid hs1
              clear hs1 hcase
              go_wp2_with fail
              go_roundw
              case rel => exact ⟨j + 1, _, _, _, by omega, by go_num, rfl, rfl, rfl, HS1, HW5⟩
              case measure => simp [intOf]; omega
            · have HS1 := Lib.hid hs1
              clear hs1 hcase
              go_wp2_with fail
              go_roundw
              case rel => exact ⟨j + 1, _, _, _, by omega, by go_num, rfl, rfl, rfl, HS1, HW5⟩
              case measure => simp [intOf]; omega
            · have HS1 := Lib.hid hs1
              clear hs1 hcase
              go_wp2_with fail
              go_roundw
              case rel => exact ⟨j + 1, _, _, _, by omega, by go_num, rfl, rfl, rfl, HS1, HW5⟩
              case measure => simp [intOf]; omega
          · have hje : k + j = ys.length := by omega
            have HN := hst.out
            rw [hje] at HN
            have HS1 := Lib.hid (mixSt_next HN hlt)
            have HW5 := Lib.hid (below_then hw.out hwi.out)
            have hjn : (j : Int) = (ys.length : Int) - (k : Int) := by omega
            clear HN hst hje hw hwi
            go_wp2_with fail
            go_roundw
            case rel => exact ⟨k + 1, f2, s2, mo2, by omega, by go_num, rfl, rfl, rfl, HS1, HW5⟩
            case measure => simp [intOf]; omega
      · obtain rfl : k = ys.length := by omega
        have HW5 := Lib.hid (below_then HB.out hw.out)
        obtain ⟨M, N, V, hbest⟩ : ∃ M N V, Best (fun V => ∀ p q u v, pairP xs x y ys ys.length ys.length p q u v → PairV V p q u v) f s mo M N V := by
          rcases hst.out with ⟨_, h2, _⟩ | h
          · omega
          · exact h
        have hbest2 : Best (fun V => ∀ p q u v, RR p q u v → PairV V p q u v) f s mo M N V := ⟨hbest.sf, hbest.ss, hbest.sm, hbest.bM, hbest.bN, hbest.v0, hbest.vn, fun p q u v hr => hbest.all p q u v (hRP.out p q u v ys.length hr)⟩
        obtain ⟨uw, vw, a1, a2, a3⟩ := told_of x0 x1 y0 y1 hbest2
        have HT := Lib.hid a3
        have r1 : ∀ z : World, (binOp BinOp.add 30 (.float .f32 (floatOfInt .f32 x)) (.float .f32 f)).run Try.prog z = .ok (.float .f32 uw) z := fun z => run_float_arith z _ _ _ _ _ _ a1
        have r2 : ∀ z : World, (binOp BinOp.add 30 (.float .f32 (floatOfInt .f32 y)) (.float .f32 s)).run Try.prog z = .ok (.float .f32 vw) z := fun z => run_float_arith z _ _ _ _ _ _ a2
        clear hbest hbest2 a1 a2 a3 hst hw hRP hmem HP HCX HCY
        go_wp2_with fail
        go_ret3
        refine ⟨uw, vw, ?_, fun _ => HT.out, HW5.out⟩
        rw [HF.out]; rfl
end Go.Proofs.Ytkapjlkeohjjbaa
namespace Go.Proofs.Ytkapjlkeohjjbaa
set_option linter.unusedVariables false
set_option linter.unusedSimpArgs false
open Ieee

theorem lit67 (m : Nat) : m * 67108864 = 33554432 * (2 * m) := by omega
theorem log2_is {m k : Nat} (h1 : 2 ^ k ≤ m) (h2 : m < 2 ^ (k + 1)) : m.log2 = k := by
  have hm : m ≠ 0 := by have := Nat.two_pow_pos k; omega
  have l1 : 2 ^ m.log2 ≤ m := Nat.log2_self_le hm
  have l2 : m < 2 ^ (m.log2 + 1) := Nat.lt_log2_self
  have a1 : k < m.log2 + 1 := pow_lt_of (by omega)
  have a2 : m.log2 < k + 1 := pow_lt_of (by omega)
  omega
/-- What is left over of a quotient. -/
theorem quot_near (D n : Nat) (hn : 0 < n) : (2 * (D / n) + (D % n != 0).toNat) * n ≤ 2 * D + n ∧ 2 * D ≤ (2 * (D / n) + (D % n != 0).toNat) * n + n := by
  have h1 := Nat.div_add_mod D n
  have h2 := Nat.mod_lt D hn
  rw [Nat.add_mul, Nat.mul_assoc, Nat.mul_comm (D / n) n]
  generalize n * (D / n) = x at *
  generalize D % n = r at *
  by_cases h : r = 0
  · subst h
    simp only [bne_self_eq_false, Bool.toNat_false, Nat.zero_mul]
    omega
  · have : (r != 0) = true := by simp [h]
    rw [this, Bool.toNat_true, Nat.one_mul]
    omega
set_option maxHeartbeats 1000000 in
theorem div_is (N S : Nat) (hN : 1 ≤ N) (hN2 : N ≤ 10000) (hS : 1 ≤ S) (hS2 : S < 256) :
    ∃ r V, single.div (single.nearest false N 0) (single.nearest false S 0) = some r ∧ Is single r V ∧ U ∣ V ∧ (V * S) * 4194304 ≤ (N * W) * 4194304 + N * W ∧ (N * W) * 4194304 ≤ (V * S) * 4194304 + N * W := by
  obtain ⟨m, ⟨i, x1, x2, x3, x4⟩, m1, m2⟩ := single_int N hN (by omega)
  obtain ⟨n, ⟨j, y1, y2, y3, y4⟩, n1, n2⟩ := single_int S hS (by omega)
  have hW : W = 2 ^ eW := rfl
  obtain ⟨ei, hei⟩ : ∃ ei, ei = (i + 1074).toNat := ⟨_, rfl⟩
  obtain ⟨ej, hej⟩ : ∃ ej, ej = (j + 1074).toNat := ⟨_, rfl⟩
  rw [← hei] at x4
  rw [← hej] at y4
  have i1 : 23 + ei < 14 + eW := by
    refine pow_lt_of ?_
    rw [Nat.pow_add, Nat.pow_add, ← hW]
    have a1 : 2 ^ 23 * 2 ^ ei ≤ m * 2 ^ ei := Nat.mul_le_mul_right _ (by omega)
    have a2 : N * W < 2 ^ 14 * W := Nat.mul_lt_mul_of_pos_right (by omega) (Nat.two_pow_pos _)
    omega
  have i2 : eW < 24 + ei := by
    refine pow_lt_of ?_
    rw [Nat.pow_add, ← hW]
    have a1 : m * 2 ^ ei < 2 ^ 24 * 2 ^ ei := Nat.mul_lt_mul_of_pos_right (by omega) (Nat.two_pow_pos _)
    have a2 : 1 * W ≤ N * W := Nat.mul_le_mul_right _ hN
    omega
  have j1 : 23 + ej < 8 + eW := by
    refine pow_lt_of ?_
    rw [Nat.pow_add, Nat.pow_add, ← hW]
    have a1 : 2 ^ 23 * 2 ^ ej ≤ n * 2 ^ ej := Nat.mul_le_mul_right _ (by omega)
    have a2 : S * W < 2 ^ 8 * W := Nat.mul_lt_mul_of_pos_right (by omega) (Nat.two_pow_pos _)
    omega
  have j2 : eW < 24 + ej := by
    refine pow_lt_of ?_
    rw [Nat.pow_add, ← hW]
    have a1 : n * 2 ^ ej < 2 ^ 24 * 2 ^ ej := Nat.mul_lt_mul_of_pos_right (by omega) (Nat.two_pow_pos _)
    have a2 : 1 * W ≤ S * W := Nat.mul_le_mul_right _ hS
    omega
  have hlm : m.log2 = 23 := log2_is (by omega) (by omega)
  have hln : n.log2 = 23 := log2_is (by omega) (by omega)
  obtain ⟨mag, hmag⟩ : ∃ mag, mag = 2 * (m <<< 25 / n) + (m <<< 25 % n != 0).toNat := ⟨_, rfl⟩
  have hdiv : single.div (single.nearest false N 0) (single.nearest false S 0) = some (single.nearest false mag (i - j - 26)) := by
    unfold Format.div
    rw [x1, y1]
    simp only [Datum.quotient, Option.map_some]
    rw [if_neg (by omega)]
    show some (single.write (.number _ _ _)) = _
    rw [show single.fractionBits + 2 + n.log2 - m.log2 = 25 from by rw [hlm, hln]; rfl, ← hmag]
    show some (single.nearest (false ^^ false) mag (i - j - ((25 : Nat) : Int) - 1)) = _
    have : i - j - ((25 : Nat) : Int) - 1 = i - j - 26 := by omega
    rw [this]; rfl
  have hsh : m <<< 25 = m * 33554432 := by rw [Nat.shiftLeft_eq]
  have hq1 : 16777216 ≤ m * 33554432 / n := by rw [Nat.le_div_iff_mul_le (by omega)]; omega
  have hq2 : m * 33554432 / n < 67108864 := by rw [Nat.div_lt_iff_lt_mul (by omega)]; omega
  obtain ⟨q1, q2⟩ := quot_near (m * 33554432) n (by omega)
  rw [hsh] at hmag
  rw [← hmag] at q1 q2
  have hst : (m * 33554432 % n != 0).toNat ≤ 1 := Bool.toNat_le _
  have g1 : 33554432 ≤ mag := by omega
  have g2 : mag < 134217728 := by omega
  have gl1 : 25 ≤ mag.log2 := by
    have : 25 < mag.log2 + 1 := pow_lt_of (by have := Nat.lt_log2_self (n := mag); omega)
    omega
  have gl2 : mag.log2 ≤ 26 := by
    have : mag.log2 < 27 := pow_lt_of (by have := Nat.log2_self_le (n := mag) (by omega); omega)
    omega
  obtain ⟨V, mm, hI, _, _, v1, v2, _, v3⟩ := nearest_val single mag (i - j - 26) (by omega) (by have h9 := eW_is; omega) (by decide)
    (by rw [sgl_lp]; show (-149 : Int) ≤ i - j - 26 + mag.log2 - ((23 : Nat) : Int); have h9 := eW_is; omega)
    (by rw [sgl_lp]; show i - j - 26 + (mag.log2 : Int) - ((23 : Nat) : Int) - -149 + 2 < ((255 : Nat) : Int); have h9 := eW_is; omega)
  have hfb : mag.log2 - single.fractionBits = mag.log2 - 23 := rfl
  rw [hfb] at v1 v2 v3
  obtain ⟨eP, heP⟩ : ∃ eP, eP = (i - j - 26 + 1074).toNat := ⟨_, rfl⟩
  rw [← heP] at v1 v2 v3
  have hd8 : 2 ^ (mag.log2 - 23) ≤ 8 := by
    have : 2 ^ (mag.log2 - 23) ≤ 2 ^ 3 := Nat.pow_le_pow_right (by omega) (by omega)
    omega
  refine ⟨_, V, hdiv, ⟨mm, hI⟩, ?_, ?_⟩
  · refine Nat.dvd_trans ?_ v3
    unfold U
    rw [← Nat.pow_add]
    exact Nat.pow_dvd_pow 2 (by have h8 := eU_is; have h9 := eW_is; omega)
  · -- all in halves of what the last place counts
    have hE : 0 < 2 ^ eP := Nat.two_pow_pos _
    have hX : 0 < 2 ^ ej := Nat.two_pow_pos _
    have he1 : 2 ^ eP * 2 ^ ej * 67108864 = 2 ^ ei * W := by
      rw [hW, show (67108864 : Nat) = 2 ^ 26 from by decide, ← Nat.pow_add, ← Nat.pow_add, ← Nat.pow_add]
      rw [show eP + ej + 26 = ei + eW from by have := eW_is; omega]
    have hdE : 2 ^ (mag.log2 - 23) * 2 ^ eP ≤ 8 * 2 ^ eP := Nat.mul_le_mul_right _ hd8
    generalize 2 ^ (mag.log2 - 23) * 2 ^ eP = dE at *
    generalize 2 ^ eP = E at *
    generalize 2 ^ ej = X at *
    generalize 2 ^ ei = Y at *
    have hWp : 0 < W := Nat.two_pow_pos _
    -- V against mag
    have w1 : V ≤ mag * E + 4 * E := by omega
    have w2 : mag * E ≤ V + 4 * E := by omega
    -- times n
    have k1 : V * n ≤ m * 67108864 * E + 5 * (E * n) := by
      have a1 := Nat.mul_le_mul_right n w1
      have a2 := Nat.mul_le_mul_right E q1
      rw [Nat.add_mul] at a1 a2
      have b1 : mag * E * n = mag * n * E := by ac_rfl
      have b2 : 4 * E * n = 4 * (E * n) := by ac_rfl
      have b3 : n * E = E * n := Nat.mul_comm _ _
      have b4 : 2 * (m * 33554432) * E = m * 67108864 * E := by rw [show 2 * (m * 33554432) = m * 67108864 from by omega]
      omega
    have k2 : m * 67108864 * E ≤ V * n + 5 * (E * n) := by
      have a1 := Nat.mul_le_mul_right n w2
      have a2 := Nat.mul_le_mul_right E q2
      rw [Nat.add_mul] at a1 a2
      have b1 : mag * E * n = mag * n * E := by ac_rfl
      have b2 : 4 * E * n = 4 * (E * n) := by ac_rfl
      have b3 : n * E = E * n := Nat.mul_comm _ _
      have b4 : 2 * (m * 33554432) * E = m * 67108864 * E := by rw [show 2 * (m * 33554432) = m * 67108864 from by omega]
      omega
    -- times X
    have c1 : V * n * X = V * S * W := by rw [Nat.mul_assoc, y4, Nat.mul_assoc]
    have c2 : m * 67108864 * E * X = N * W * W := by
      have : m * 67108864 * E * X = m * (E * X * 67108864) := by ac_rfl
      rw [this, he1, ← Nat.mul_assoc, x4]
    have c3 : E * n * X = E * S * W := by rw [Nat.mul_assoc, y4, Nat.mul_assoc]
    have d1 : V * S ≤ N * W + 5 * (E * S) := by
      have a := Nat.mul_le_mul_right X k1
      rw [Nat.add_mul, c1, c2, Nat.mul_assoc 5, c3, ← Nat.mul_assoc 5, ← Nat.add_mul] at a
      exact Nat.le_of_mul_le_mul_right a hWp
    have d2 : N * W ≤ V * S + 5 * (E * S) := by
      have a := Nat.mul_le_mul_right X k2
      rw [Nat.add_mul, c1, c2, Nat.mul_assoc 5, c3, ← Nat.mul_assoc 5, ← Nat.add_mul] at a
      exact Nat.le_of_mul_le_mul_right a hWp
    have d3 : 33554432 * (E * S) ≤ N * W := by
      refine Nat.le_of_mul_le_mul_right (c := W) ?_ hWp
      rw [← c2, Nat.mul_assoc 33554432, ← c3]
      have : m * 67108864 * E * X = 33554432 * ((2 * m) * E * X) := by
        rw [lit67 m, Nat.mul_assoc 33554432, Nat.mul_assoc 33554432]
      rw [this]
      refine Nat.mul_le_mul_left _ (Nat.mul_le_mul_right _ ?_)
      rw [Nat.mul_comm E n]
      exact Nat.mul_le_mul_right _ (by omega)
    exact ⟨by omega, by omega⟩
end Go.Proofs.Ytkapjlkeohjjbaa
namespace Go.Proofs.Ytkapjlkeohjjbaa
set_option linter.unusedVariables false
set_option linter.unusedSimpArgs false
open Ieee

theorem W_U : W = 1099511627776 * U := by
  unfold W U
  rw [show (1099511627776 : Nat) = 2 ^ 40 from by decide, ← Nat.pow_add]
  exact congrArg (fun k => 2 ^ k) (show eW = 40 + eU from rfl)
theorem W_x : W = 2048 * 2 ^ (eW - 11) := by
  unfold W
  rw [show (2048 : Nat) = 2 ^ 11 from by decide, ← Nat.pow_add]
  exact congrArg (fun k => 2 ^ k) (show eW = 11 + (eW - 11) from rfl)
theorem U_pos : 0 < U := Nat.two_pow_pos _
theorem W_pos : 0 < W := Nat.two_pow_pos _
theorem U_W (k : Nat) : U ∣ k * W := ⟨k * 1099511627776, by rw [W_U, ← Nat.mul_assoc, Nat.mul_comm _ U]⟩
theorem lt_53 {k : Nat} (h : k ≤ 8000) : k * W < 2 ^ 53 * U := by
  rw [W_U, ← Nat.mul_assoc]
  exact Nat.mul_lt_mul_of_pos_right (by omega) U_pos
/-- A small whole number as a double. -/
theorem double_int (k : Nat) (hk : k ≤ 1000) : Is double (floatOfInt .f64 (k : Int)) (k * W) := by
  have e1 : floatOfInt .f64 (k : Int) = double.nearest false k 0 := by
    show double.write (.number (decide ((k : Int) < 0)) (k : Int).natAbs 0) = _
    rw [decide_eq_false (by omega), Int.natAbs_natCast]; rfl
  rw [e1]
  exact double_nearest k 0 (by omega) (k * W) (by rw [show ((0 : Int) + 1074).toNat = eW from rfl]; unfold W; rfl) (U_W k) (lt_53 (by omega))
/-- A sum of parts, against the true one. -/
def TotOk (S M T : Nat) : Prop := U ∣ T ∧ (T * S) * 4194304 ≤ (M * W) * 4194304 + M * W ∧ (M * W) * 4194304 ≤ (T * S) * 4194304 + M * W
/-- A part as it is told, against the true one. -/
def Even (S N b : Nat) : Prop := ∃ V, Is Ieee.single b V ∧ U ∣ V ∧ (V * S) * 4194304 ≤ (N * W) * 4194304 + N * W ∧ (N * W) * 4194304 ≤ (V * S) * 4194304 + N * W
theorem tot_zero (S : Nat) : TotOk S 0 0 := ⟨Nat.dvd_zero _, by rw [Nat.zero_mul, Nat.zero_mul]; exact Nat.zero_le _, by rw [Nat.zero_mul, Nat.zero_mul]; exact Nat.zero_le _⟩
theorem small_gen {S X M w : Nat} (hS : 1 ≤ S) (hM : M ≤ 234 * S) (h : (X * S) * 4194304 ≤ (M * w) * 4194304 + M * w) : X ≤ 468 * w := by
  have h2 : M * w ≤ 234 * (w * S) := by
    have := Nat.mul_le_mul_right w hM
    rwa [Nat.mul_assoc, Nat.mul_comm S w] at this
  refine Nat.le_of_mul_le_mul_right (c := S) ?_ hS
  rw [Nat.mul_assoc 468 w S]
  generalize X * S = x at *
  generalize M * w = y at *
  generalize w * S = z at *
  omega
theorem small_of {S X M : Nat} (hS : 1 ≤ S) (hM : M ≤ 234 * S) (h : (X * S) * 4194304 ≤ (M * W) * 4194304 + M * W) : X ≤ 468 * W := small_gen hS hM h
theorem lt53 {X : Nat} (h : X ≤ 468 * W) : X < 2 ^ 53 * U := Nat.lt_of_le_of_lt h (lt_53 (by omega))
theorem add_gen {S M N T V w : Nat} (t3 : (T * S) * 4194304 ≤ (M * w) * 4194304 + M * w) (t4 : (M * w) * 4194304 ≤ (T * S) * 4194304 + M * w) (v3 : (V * S) * 4194304 ≤ (N * w) * 4194304 + N * w) (v4 : (N * w) * 4194304 ≤ (V * S) * 4194304 + N * w) :
    ((T + V) * S) * 4194304 ≤ ((M + N) * w) * 4194304 + (M + N) * w ∧ ((M + N) * w) * 4194304 ≤ ((T + V) * S) * 4194304 + (M + N) * w := by
  rw [Nat.add_mul T V S, Nat.add_mul M N w]
  generalize T * S = x at *
  generalize V * S = y at *
  generalize M * w = z at *
  generalize N * w = u at *
  omega
theorem end_gen {S T m : Nat} (hS : 1 ≤ S) (t3 : (T * S) * 4194304 ≤ (m * S) * 4194304 + m * S) (t4 : (m * S) * 4194304 ≤ (T * S) * 4194304 + m * S) : T * 4194304 ≤ m * 4194304 + m ∧ m * 4194304 ≤ T * 4194304 + m := by
  constructor
  · refine Nat.le_of_mul_le_mul_right (c := S) ?_ hS
    rw [Nat.add_mul, Nat.mul_right_comm T, Nat.mul_right_comm m]; exact t3
  · refine Nat.le_of_mul_le_mul_right (c := S) ?_ hS
    rw [Nat.add_mul, Nat.mul_right_comm T, Nat.mul_right_comm m]; exact t4
theorem gap_gen {G e w x R : Nat} (hG : G * 4194304 ≤ e * w) (he : e ≤ 234) (hw : w = 2048 * x) (hx : 0 < x) (hR : x ≤ R) : G < R := by
  have h5 : e * w ≤ 234 * w := Nat.mul_le_mul_right _ he
  generalize e * w = y at *
  omega
theorem sub_gen {T y : Nat} (c1 : T * 4194304 ≤ y * 4194304 + y) (c2 : y * 4194304 ≤ T * 4194304 + y) : (y - T) * 4194304 ≤ y ∧ (T - y) * 4194304 ≤ y := by omega
theorem widen_bits {b V : Nat} (h : Is single b V) (hd : U ∣ V) (hlt : V < 2 ^ 53 * U) : ∃ r, floatToFloatBits .f32 b .f64 = some r ∧ Is double r V := by
  have hI := widen_is h hd hlt
  obtain ⟨m, p, h1, _⟩ := h
  obtain ⟨n, q, g1, _⟩ := id hI
  refine ⟨double.write (single.read b), ?_, hI⟩
  unfold floatToFloatBits
  rw [if_neg (by decide)]
  have e1 : FloatKind.f32.decode b = .number false m p := h1
  rw [e1]
  have e2 : FloatKind.f64.decode (FloatKind.f64.encode (.number false m p)) = .number false n q := by rw [← h1]; exact g1
  simp only [e2]
  rw [h1]; rfl
theorem tot_step {S M N T b t : Nat} (hS : 1 ≤ S) (hM : M + N ≤ 234 * S) (hT : TotOk S M T) (hb : Even S N b) (ht : Is double t T) :
    ∃ r t2 T2, floatToFloatBits .f32 b .f64 = some r ∧ floatBits .add .f64 t r = some t2 ∧ Is double t2 T2 ∧ TotOk S (M + N) T2 := by
  obtain ⟨V, v1, v2, v3, v4⟩ := hb
  obtain ⟨t1, t3, t4⟩ := hT
  obtain ⟨c1, c2⟩ := add_gen t3 t4 v3 v4
  have hs := lt53 (small_of hS hM c1)
  obtain ⟨r, r1, r2⟩ := widen_bits v1 v2 (by omega)
  obtain ⟨t2, a1, a2⟩ := add_is ht r2 t1 v2 hs
  exact ⟨r, t2, T + V, r1, a1, a2, Nat.dvd_add t1 v2, c1, c2⟩
theorem tot_end {S e T : Nat} (hS : 1 ≤ S) (hT : TotOk S (e * S) T) : T * 4194304 ≤ (e * W) * 4194304 + e * W ∧ (e * W) * 4194304 ≤ T * 4194304 + e * W := by
  obtain ⟨_, t3, t4⟩ := hT
  rw [Nat.mul_right_comm e S W] at t3 t4
  exact end_gen hS t3 t4
/-- What the sum may be off by. -/
def oneMore (e : Nat) : Option Nat := double.add 4607182418800017408 (floatOfInt .f64 (e : Int))
def thou (b : Nat) : Option Nat := double.mul 4562254508917369340 b
def thrOk (e : Nat) : Bool := match oneMore e with
  | none => false
  | some s => match thou s with
    | none => false
    | some r => match double.read r with
      | .number false m p => decide (double.leastPlace ≤ p) && decide (-1074 ≤ p) && decide (2 ^ (eW - 11) ≤ m * 2 ^ (p + 1074).toNat)
      | _ => false
theorem thr_table : (List.range 235).all thrOk = true := by decide +kernel
theorem thr_is {e : Nat} (h : e ≤ 234) : ∃ s r R, oneMore e = some s ∧ thou s = some r ∧ Is double r R ∧ 2 ^ (eW - 11) ≤ R := by
  have h1 := List.all_eq_true.1 thr_table e (List.mem_range.2 (by omega))
  unfold thrOk at h1
  cases hs : oneMore e with
  | none => rw [hs] at h1; cases h1
  | some s =>
    rw [hs] at h1
    simp only at h1
    cases hr : thou s with
    | none => rw [hr] at h1; cases h1
    | some r =>
      rw [hr] at h1
      simp only at h1
      cases hd : double.read r with
      | infinity n => rw [hd] at h1; cases h1
      | nan n f => rw [hd] at h1; cases h1
      | number n m p =>
        rw [hd] at h1
        cases n with
        | true => cases h1
        | false =>
          simp only [Bool.and_eq_true, decide_eq_true_eq] at h1
          exact ⟨s, r, _, rfl, hr, ⟨m, p, hd, h1.1.1, h1.1.2, rfl⟩, h1.2⟩
/-- The gap between the sum and the estate is small. -/
theorem gap_is {S e T t : Nat} (hS : 1 ≤ S) (he : e ≤ 234) (hT : TotOk S (e * S) T) (ht : Is double t T) :
    ∃ g s r, ((FloatKind.f64.format.order t (floatOfInt .f64 (e : Int)) == some .lt) = true ∧ floatBits .sub .f64 (floatOfInt .f64 (e : Int)) t = some g ∨ (FloatKind.f64.format.order t (floatOfInt .f64 (e : Int)) == some .lt) = false ∧ floatBits .sub .f64 t (floatOfInt .f64 (e : Int)) = some g) ∧
      floatBits .add .f64 4607182418800017408 (floatOfInt .f64 (e : Int)) = some s ∧ floatBits .mul .f64 4562254508917369340 s = some r ∧ (FloatKind.f64.format.order g r == some .lt) = true := by
  obtain ⟨s, r, R, h1, h2, h3, h4⟩ := thr_is he
  obtain ⟨c1, c2⟩ := tot_end hS hT
  have hE := double_int e (by omega)
  have hUT := hT.1
  have hEs : e * W < 2 ^ 53 * U := lt_53 (by omega)
  have hTs : T < 2 ^ 53 * U := by
    have h1 := lt_53 (k := 2 * e) (by omega)
    rw [Nat.mul_assoc] at h1
    generalize e * W = y at *
    omega
  have hsm : ∀ G, G * 4194304 ≤ e * W → G < R := fun G hG => gap_gen hG he W_x (Nat.two_pow_pos _) h4
  have hord := order_is ht hE
  have hord2 : FloatKind.f64.format.order t (floatOfInt .f64 (e : Int)) = _ := hord
  by_cases hlt : T < e * W
  · rw [if_pos hlt] at hord2
    obtain ⟨g, g1, g2⟩ := sub_is hE ht (U_W e) hUT (Nat.le_of_lt hlt) hEs
    have hg3 : FloatKind.f64.format.order g r = _ := order_is g2 h3
    rw [if_pos (hsm _ (sub_gen c1 c2).1)] at hg3
    exact ⟨g, s, r, .inl ⟨by rw [hord2]; rfl, g1⟩, h1, h2, by rw [hg3]; rfl⟩
  · rw [if_neg hlt] at hord2
    obtain ⟨g, g1, g2⟩ := sub_is ht hE hUT (U_W e) (Nat.le_of_not_lt hlt) hTs
    have hg3 : FloatKind.f64.format.order g r = _ := order_is g2 h3
    rw [if_pos (hsm _ (sub_gen c1 c2).2)] at hg3
    refine ⟨g, s, r, .inr ⟨?_, g1⟩, h1, h2, by rw [hg3]; rfl⟩
    rw [hord2]
    split <;> rfl
end Go.Proofs.Ytkapjlkeohjjbaa
namespace Go.Proofs.Ytkapjlkeohjjbaa
set_option linter.unusedVariables false
set_option linter.unusedSimpArgs false
open Ieee

theorem read_lt {f : Format} {b m : Nat} {s : Bool} {p : Int} (h : f.read b = .number s m p) : m < 2 * f.binade := by
  have hb : 0 < f.binade := Nat.two_pow_pos _
  unfold Format.read at h
  simp only at h
  split at h
  · rename_i hc
    injection h with _ h1 _
    omega
  · split at h
    · injection h with _ h1 _
      have := Nat.mod_lt (b % f.signWeight) hb
      omega
    · split at h <;> cases h
/-- What a significand of a double counts to. -/
def kD : Nat := 2 ^ 52
theorem kD_is : kD = 4503599627370496 := by decide
def NearD (R X : Nat) : Prop := R * kD ≤ X * kD + X ∧ X * kD ≤ R * kD + X ∧ (X < kD → R = X)
theorem nearD_self (X : Nat) : NearD X X := ⟨Nat.le_add_right _ _, Nat.le_add_right _ _, fun _ => rfl⟩
theorem nearD_le {a b D k : Nat} (h1 : 2 * a ≤ 2 * b + D) (hD : D * k ≤ b) : a * k ≤ b * k + b := by
  have e4 := Nat.mul_le_mul_right k h1
  rw [Nat.add_mul, Nat.mul_assoc, Nat.mul_assoc] at e4
  omega
theorem nearD_ge {a b D k : Nat} (h1 : 2 * b ≤ 2 * a + D) (hD : D * k ≤ b) : b * k ≤ a * k + b := by
  have e4 := Nat.mul_le_mul_right k h1
  rw [Nat.add_mul, Nat.mul_assoc, Nat.mul_assoc] at e4
  omega
theorem near53 (mag : Nat) (place : Int) (E X : Nat) (h0 : -1074 ≤ place) (hX : mag * 2 ^ (place + 1074).toNat = X * 2 ^ E) (hE : 900 ≤ E) (hE2 : E ≤ 1074) (hlt : X < 2 ^ 250) :
    ∃ R, Is double (double.nearest false mag place) (R * 2 ^ E) ∧ NearD R X := by
  have hA : 0 < 2 ^ E := Nat.two_pow_pos _
  rcases Nat.eq_zero_or_pos mag with hz | hm
  · subst hz
    have hX0 : X = 0 := by
      rw [Nat.zero_mul] at hX
      rcases Nat.eq_zero_or_pos X with h | h
      · exact h
      · have := Nat.mul_pos h hA
        omega
    subst hX0
    have : double.nearest false 0 place = 0 := by unfold Format.nearest; rw [if_pos rfl]; rfl
    rw [this]
    exact ⟨0, by rw [Nat.zero_mul]; exact is_zero double (by decide), nearD_self 0⟩
  have l1 : 2 ^ mag.log2 ≤ mag := Nat.log2_self_le (by omega)
  have l2 : mag < 2 ^ (mag.log2 + 1) := Nat.lt_log2_self
  obtain ⟨L, hL⟩ : ∃ L, L = mag.log2 := ⟨_, rfl⟩
  obtain ⟨P, hP⟩ : ∃ P, P = (place + 1074).toNat := ⟨_, rfl⟩
  have hpl : place = (P : Int) - 1074 := by omega
  have hPp : 0 < 2 ^ P := Nat.two_pow_pos _
  rw [← hP] at hX
  rw [← hL] at l1 l2
  have hXp : 0 < X := by
    rcases Nat.eq_zero_or_pos X with h | h
    · rw [h, Nat.zero_mul] at hX
      have := Nat.mul_pos hm hPp
      omega
    · exact h
  have b1 : L + P < 250 + E := by
    refine pow_lt_of ?_
    have a1 := Nat.mul_le_mul_right (2 ^ P) l1
    have a2 := Nat.mul_lt_mul_of_pos_right hlt hA
    rw [← Nat.pow_add] at a1 a2
    omega
  have b2 : E < L + 1 + P := by
    refine pow_lt_of ?_
    have a1 := Nat.mul_lt_mul_of_pos_right l2 hPp
    have a2 := Nat.mul_le_mul_right (2 ^ E) hXp
    rw [← Nat.pow_add] at a1
    rw [Nat.succ_mul, Nat.zero_mul] at a2
    omega
  obtain ⟨V, m, hI, _, _, v1, v2, v3, v4⟩ := nearest_val double mag place hm h0 (by decide)
    (by rw [dbl_lp, ← hL]; show (-1074 : Int) ≤ place + L - ((52 : Nat) : Int); omega)
    (by rw [dbl_lp, ← hL]; show place + (L : Int) - ((52 : Nat) : Int) - -1074 + 2 < ((2047 : Nat) : Int); omega)
  have hfb : mag.log2 - double.fractionBits = L - 52 := by rw [← hL]; rfl
  rw [hfb, ← hP] at v1 v2 v4
  rw [hfb, ← hP] at v3
  rw [hX] at v1 v2 v3
  have hDd : 2 ^ (L - 52) * 2 ^ P = 2 ^ (L - 52 + P) := (Nat.pow_add _ _ _).symm
  have hexact : L - 52 + P ≤ E → V = X * 2 ^ E := fun h => by
    refine v3 (Nat.mod_eq_zero_of_dvd ?_)
    refine Nat.dvd_of_mul_dvd_mul_right hPp ?_
    rw [hX, hDd]
    exact Nat.dvd_trans (Nat.pow_dvd_pow 2 h) ⟨X, Nat.mul_comm _ _⟩
  have hexact2 : L ≤ 52 → V = X * 2 ^ E := fun h => by
    refine v3 ?_
    rw [show L - 52 = 0 from by omega, Nat.pow_zero, Nat.mod_one]
  rw [hDd] at v1 v2 v4
  by_cases hc : L - 52 + P ≤ E ∨ L ≤ 52
  · have hV : V = X * 2 ^ E := by rcases hc with h | h; exact hexact h; exact hexact2 h
    exact ⟨X, ⟨m, by rw [← hV]; exact hI⟩, nearD_self X⟩
  · have hD : 2 ^ (L - 52 + P) * kD ≤ X * 2 ^ E := by
      rw [← hX]
      unfold kD
      rw [← Nat.pow_add]
      have a1 := Nat.mul_le_mul_right (2 ^ P) l1
      rw [← Nat.pow_add] at a1
      rw [show L - 52 + P + 52 = L + P from by omega]
      exact a1
    obtain ⟨R, hR⟩ : ∃ R, V = R * 2 ^ E := by
      obtain ⟨k, hk⟩ := Nat.dvd_trans (Nat.pow_dvd_pow 2 (show E ≤ L - 52 + P from by omega)) v4
      exact ⟨k, by rw [hk, Nat.mul_comm]⟩
    rw [hR] at v1 v2 hI
    refine ⟨R, ⟨m, hI⟩, ?_, ?_, fun h => ?_⟩
    · refine Nat.le_of_mul_le_mul_right (c := 2 ^ E) ?_ hA
      rw [Nat.add_mul, Nat.mul_right_comm R, Nat.mul_right_comm X]
      exact nearD_le v1 hD
    · refine Nat.le_of_mul_le_mul_right (c := 2 ^ E) ?_ hA
      rw [Nat.add_mul, Nat.mul_right_comm R, Nat.mul_right_comm X]
      exact nearD_ge v2 hD
    · exfalso
      have a1 := Nat.mul_lt_mul_of_pos_right h hA
      have a2 : 2 ^ (L - 52 + P) * kD < kD * 2 ^ E := Nat.lt_of_le_of_lt hD a1
      have a3 : kD * 2 ^ E ≤ 2 ^ (L - 52 + P) * kD := by
        rw [Nat.mul_comm kD]
        exact Nat.mul_le_mul_right _ (Nat.pow_le_pow_right (by omega) (by omega))
      omega
theorem dbl_add {a b X Y E : Nat} (ha : Is double a (X * 2 ^ E)) (hb : Is double b (Y * 2 ^ E)) (hE : 900 ≤ E) (hE2 : E ≤ 1074) (hlt : X + Y < 2 ^ 250) : ∃ r R, double.add a b = some r ∧ Is double r (R * 2 ^ E) ∧ NearD R (X + Y) := by
  obtain ⟨m, i, h1, h2, h3, h4⟩ := ha
  obtain ⟨n, j, g1, g2, g3, g4⟩ := hb
  obtain ⟨R, hR, hN⟩ := near53 (m <<< (i - min i j).toNat + n <<< (j - min i j).toNat) (min i j) E (X + Y) (by omega) (by rw [Nat.add_mul, scale_up (by omega) (by omega), scale_up (by omega) (by omega), h4, g4, Nat.add_mul]) hE hE2 hlt
  refine ⟨_, R, ?_, hR, hN⟩
  unfold Format.add
  rw [h1, g1]
  simp only [Datum.sum, signed, Option.map_some, Format.write]
  congr 1
  have e1 : ((m <<< (i - min i j).toNat : Nat) : Int) + ((n <<< (j - min i j).toNat : Nat) : Int) = ((m <<< (i - min i j).toNat + n <<< (j - min i j).toNat : Nat) : Int) := by omega
  simp only [Bool.false_eq_true, if_false, e1, Int.natAbs_natCast]
  congr 1
  generalize m <<< (i - min i j).toNat + n <<< (j - min i j).toNat = T
  by_cases hT : ((T : Nat) : Int) = 0
  · rw [if_pos hT]; rfl
  · rw [if_neg hT]; first | (simp; done) | (simp; omega)
theorem place_low {m X E : Nat} {i : Int} (h : m * 2 ^ (i + 1074).toNat = X * 2 ^ E) (hX : 0 < X) (hm : m < 2 * double.binade) (hE : 900 ≤ E) (hi : -1074 ≤ i) : -300 ≤ i := by
  have hA : 0 < 2 ^ E := Nat.two_pow_pos _
  have hb : 2 * double.binade = 2 ^ 53 := by decide
  have : E < 53 + (i + 1074).toNat := by
    refine pow_lt_of ?_
    rw [Nat.pow_add]
    rw [hb] at hm
    have a1 := Nat.mul_lt_mul_of_pos_right hm (Nat.two_pow_pos (i + 1074).toNat)
    rw [h] at a1
    have a2 := Nat.mul_le_mul_right (2 ^ E) hX
    rw [Nat.succ_mul, Nat.zero_mul, Nat.zero_add] at a2
    exact Nat.lt_of_le_of_lt a2 a1
  omega
theorem dbl_mul {a b X Y E1 E2 E : Nat} (ha : Is double a (X * 2 ^ E1)) (hb : Is double b (Y * 2 ^ E2)) (he : E1 + E2 = E + 1074) (h1E : 900 ≤ E1) (h2E : 900 ≤ E2) (hE : 900 ≤ E) (hE2 : E ≤ 1074) (hlt : X * Y < 2 ^ 250) : ∃ r R, double.mul a b = some r ∧ Is double r (R * 2 ^ E) ∧ NearD R (X * Y) := by
  obtain ⟨m, i, h1, h2, h3, h4⟩ := ha
  obtain ⟨n, j, g1, g2, g3, g4⟩ := hb
  have hmul : double.mul a b = some (double.nearest false (m * n) (i + j)) := by
    unfold Format.mul
    rw [h1, g1]; rfl
  rw [hmul]
  by_cases hz : X * Y = 0
  · have hmn : m * n = 0 := by
      rcases Nat.mul_eq_zero.1 hz with h | h
      · rw [h, Nat.zero_mul] at h4
        rcases Nat.mul_eq_zero.1 h4 with h5 | h5
        · rw [h5, Nat.zero_mul]
        · have := Nat.two_pow_pos (i + 1074).toNat
          omega
      · rw [h, Nat.zero_mul] at g4
        rcases Nat.mul_eq_zero.1 g4 with h5 | h5
        · rw [h5, Nat.mul_zero]
        · have := Nat.two_pow_pos (j + 1074).toNat
          omega
    have : double.nearest false (m * n) (i + j) = 0 := by unfold Format.nearest; rw [hmn, if_pos rfl]; rfl
    rw [this, hz]
    exact ⟨0, 0, rfl, by rw [Nat.zero_mul]; exact is_zero double (by decide), nearD_self 0⟩
  · have hX : 0 < X := by
      rcases Nat.eq_zero_or_pos X with h | h
      · rw [h, Nat.zero_mul] at hz; exact absurd rfl hz
      · exact h
    have hY : 0 < Y := by
      rcases Nat.eq_zero_or_pos Y with h | h
      · rw [h, Nat.mul_zero] at hz; exact absurd rfl hz
      · exact h
    have pi := place_low h4 hX (read_lt h1) h1E h3
    have pj := place_low g4 hY (read_lt g1) h2E g3
    have hp : m * n * 2 ^ (i + j + 1074).toNat = X * Y * 2 ^ E := by
      obtain ⟨K, hK⟩ : ∃ K, K = 1074 := ⟨_, rfl⟩
      refine Nat.eq_of_mul_eq_mul_right (Nat.two_pow_pos K) ?_
      have e1 : m * n * 2 ^ (i + j + 1074).toNat * 2 ^ K = (m * 2 ^ (i + 1074).toNat) * (n * 2 ^ (j + 1074).toNat) := by
        have : 2 ^ (i + j + 1074).toNat * 2 ^ K = 2 ^ (i + 1074).toNat * 2 ^ (j + 1074).toNat := by
          rw [← Nat.pow_add, ← Nat.pow_add]; congr 1; omega
        rw [Nat.mul_assoc (m * n), this]
        ac_rfl
      have e2 : X * Y * 2 ^ E * 2 ^ K = (X * 2 ^ E1) * (Y * 2 ^ E2) := by
        have : 2 ^ E * 2 ^ K = 2 ^ E1 * 2 ^ E2 := by
          rw [← Nat.pow_add, ← Nat.pow_add]; congr 1; omega
        rw [Nat.mul_assoc (X * Y), this]
        ac_rfl
      rw [e1, e2, h4, g4]
    obtain ⟨R, hR, hN⟩ := near53 (m * n) (i + j) E (X * Y) (by omega) hp hE hE2 hlt
    exact ⟨_, R, rfl, hR, hN⟩
theorem Is.unit {f : Format} {b X E k : Nat} (h : Is f b (X * 2 ^ (E + k))) : Is f b (X * 2 ^ k * 2 ^ E) := by
  have e : X * 2 ^ (E + k) = X * 2 ^ k * 2 ^ E := by rw [Nat.pow_add, Nat.mul_comm (2 ^ E), Nat.mul_assoc]
  rw [← e]; exact h
theorem last_int (Q R1 R2 R3 R4 K : Int) (n1 : Q * 4503599627370496 ≤ R1 * 4503599627370496 + Q) (hQ0 : 0 ≤ Q) (hQ : Q ≤ 400 * 1208925819614629174706176)
    (n2 : (1208925819614629174706176 + R1) * 4503599627370496 ≤ R2 * 4503599627370496 + (1208925819614629174706176 + R1))
    (n3 : (5764607523034235 * R2) * 4503599627370496 ≤ R3 * 4503599627370496 + 5764607523034235 * R2)
    (n4 : (R1 * 576460752303423488 + R3) * 4503599627370496 ≤ R4 * 4503599627370496 + (R1 * 576460752303423488 + R3))
    (hK : 16 * (K * 1208925819614629174706176) ≤ 256 * Q + 1208925819614629174706176) : K * 43556142965880123323311949751266331066368 ≤ R4 := by
  omega
/-- One, in units of 2 to the -80. -/
def yD : Nat := 2 ^ 80
/-- The unit of what a hundredth is of: 2 to the -139. -/
def eC : Nat := 935
theorem eC_is : eC = 935 := rfl
theorem yD_int : (yD : Int) = 1208925819614629174706176 := rfl
theorem nearD_int {R X : Nat} (h : NearD R X) : (R : Int) * 4503599627370496 ≤ (X : Int) * 4503599627370496 + (X : Int) ∧ (X : Int) * 4503599627370496 ≤ (R : Int) * 4503599627370496 + (X : Int) := by
  have e : (kD : Int) = 4503599627370496 := rfl
  have h1 := Int.ofNat_le.2 h.1
  have h2 := Int.ofNat_le.2 h.2.1
  rw [Int.natCast_add, Int.natCast_mul, Int.natCast_mul, e] at h1 h2
  exact ⟨h1, h2⟩
theorem one_is : Is double 4607182418800017408 (yD * 2 ^ eV) := by
  have h := double_int 1 (by omega)
  rw [show floatOfInt .f64 ((1 : Nat) : Int) = 4607182418800017408 from by decide, Nat.one_mul] at h
  have e : W = yD * 2 ^ eV := by
    unfold W yD
    rw [← Nat.pow_add]
    exact congrArg (fun k => 2 ^ k) (show eW = 80 + eV from rfl)
  rw [← e]; exact h
/-- A hundredth. -/
def cent : Nat := 5764607523034235
theorem cent_int : (cent : Int) = 5764607523034235 := rfl
def eH : Nat := 1015
theorem eH_is : eH = 1015 := rfl
theorem cent_is : Is double 4576918229304087675 (cent * 2 ^ eH) := by
  refine ⟨cent, -59, by decide, by decide, by omega, ?_⟩
  exact congrArg (fun k => cent * 2 ^ k) (show ((-59 : Int) + 1074).toNat = eH from by decide)
theorem small1 (Q R1 : Int) (h : R1 * 4503599627370496 ≤ Q * 4503599627370496 + Q) (hQ : Q ≤ 400 * 1208925819614629174706176) : R1 ≤ 800 * 1208925819614629174706176 := by omega
theorem small2 (R1 R2 : Int) (h : R2 * 4503599627370496 ≤ (1208925819614629174706176 + R1) * 4503599627370496 + (1208925819614629174706176 + R1)) (hR : R1 ≤ 800 * 1208925819614629174706176) : R2 ≤ 2000 * 1208925819614629174706176 := by omega
theorem small3 (R2 R3 : Int) (h : R3 * 4503599627370496 ≤ (5764607523034235 * R2) * 4503599627370496 + 5764607523034235 * R2) (h0 : 0 ≤ R2) (hR : R2 ≤ 2000 * 1208925819614629174706176) : R3 ≤ 20000000000000000000 * 1208925819614629174706176 := by omega
theorem lt250 {X k : Nat} (h : X ≤ k * yD) (hk : k ≤ 1000000000000000000000000000000) : X < 2 ^ 250 := by
  have h1 : k * yD ≤ 1000000000000000000000000000000 * yD := Nat.mul_le_mul_right _ hk
  have h2 : 1000000000000000000000000000000 * yD < 2 ^ 250 := by decide
  exact Nat.lt_of_le_of_lt (Nat.le_trans h h1) h2
theorem up_int {X k : Nat} (h : (X : Int) ≤ (k : Int) * 1208925819614629174706176) : X ≤ k * yD := by
  refine Int.ofNat_le.1 ?_
  rw [Int.natCast_mul, yD_int]; exact h
theorem last_k {K Q : Int} (h : K * 1208925819614629174706176 * 64 ≤ 1024 * Q + 4 * 1208925819614629174706176) : 16 * (K * 1208925819614629174706176) ≤ 256 * Q + 1208925819614629174706176 := by omega
/-- The last test fails for what is not above the product. -/
theorem last_test {A B K P R1 h : Nat} (hP : Is double P (R1 * 2 ^ eV)) (hR : NearD R1 (A * B)) (hA : A ≤ 20 * wB) (hB : B ≤ 20 * wB) (hh : Is double h (K * 2 ^ 135 * 2 ^ eC))
    (hK : (K : Int) * ((wB : Int) * (wB : Int)) * 64 ≤ 1024 * ((A : Int) * (B : Int)) + 4 * ((wB : Int) * (wB : Int))) :
    ∃ s r z, double.add 4607182418800017408 P = some s ∧ double.mul 4576918229304087675 s = some r ∧ double.add P r = some z ∧ (FloatKind.f64.format.order h z == some .gt) = false := by
  have hww : wB * wB = yD := by unfold wB yD; rw [← Nat.pow_add]
  have hQ : A * B ≤ 400 * yD := by
    have := Nat.mul_le_mul hA hB
    have e : 20 * wB * (20 * wB) = 400 * (wB * wB) := by rw [Nat.mul_mul_mul_comm]
    rw [e, hww] at this
    exact this
  obtain ⟨Q, hQd⟩ : ∃ Q, Q = A * B := ⟨_, rfl⟩
  have hQi : ((A : Int) * (B : Int)) = (Q : Int) := by rw [hQd, Int.natCast_mul]
  have hwwi : (wB : Int) * (wB : Int) = 1208925819614629174706176 := by rw [← Int.natCast_mul, hww, yD_int]
  rw [hQi, hwwi] at hK
  rw [← hQd] at hR hQ
  clear hQi hwwi hww hA hB hQd
  have hQ2 : (Q : Int) ≤ 400 * 1208925819614629174706176 := by
    have := Int.ofNat_le.2 hQ
    rw [Int.natCast_mul, yD_int] at this
    exact this
  obtain ⟨i1, i2⟩ := nearD_int hR
  have j1 := small1 Q R1 i1 hQ2
  have n1' : R1 ≤ 800 * yD := up_int j1
  obtain ⟨s, R2, s1, s2, s3⟩ := dbl_add one_is hP (by rw [eV_is]; omega) (by rw [eV_is]; omega) (lt250 (k := 801) (by rw [Nat.succ_mul 800]; omega) (by decide))
  obtain ⟨i3, i4⟩ := nearD_int s3
  rw [Int.natCast_add, yD_int] at i3 i4
  have j2 := small2 R1 R2 i3 j1
  have n2' : R2 ≤ 2000 * yD := up_int j2
  obtain ⟨r, R3, r1, r2, r3⟩ := dbl_mul (E := eC) cent_is s2 (show eH + eV = eC + 1074 from rfl) (by rw [eH_is]; omega) (by rw [eV_is]; omega) (by rw [eC_is]; omega) (by rw [eC_is]; omega) (lt250 (k := cent * 2000) (by rw [Nat.mul_assoc]; exact Nat.mul_le_mul_left _ n2') (by decide))
  obtain ⟨i5, i6⟩ := nearD_int r3
  rw [Int.natCast_mul, cent_int] at i5 i6
  have j3 := small3 R2 R3 i5 (Int.natCast_nonneg _) j2
  have n3' : R3 ≤ 20000000000000000000 * yD := up_int j3
  have hP1 : Is double P (R1 * 2 ^ (eC + 59)) := by rw [show eC + 59 = eV from rfl]; exact hP
  have hP2 : Is double P (R1 * 2 ^ 59 * 2 ^ eC) := hP1.unit
  obtain ⟨z, R4, z1, z2, z3⟩ := dbl_add hP2 r2 (by rw [eC_is]; omega) (by rw [eC_is]; omega) (lt250 (k := 800 * 2 ^ 59 + 20000000000000000000) (by
    rw [Nat.add_mul]
    refine Nat.add_le_add ?_ n3'
    rw [Nat.mul_right_comm 800]
    exact Nat.mul_le_mul_right _ n1') (by decide))
  obtain ⟨i7, i8⟩ := nearD_int z3
  have e59 : ((2 ^ 59 : Nat) : Int) = 576460752303423488 := rfl
  rw [Int.natCast_add, Int.natCast_mul, e59] at i7 i8
  refine ⟨s, r, z, s1, r1, z1, ?_⟩
  have hle : K * 2 ^ 135 ≤ R4 := by
    have g := last_int Q R1 R2 R3 R4 K i2 (Int.natCast_nonneg _) hQ2 i4 i6 i8 (last_k hK)
    refine Int.ofNat_le.1 ?_
    rw [Int.natCast_mul, show ((2 ^ 135 : Nat) : Int) = 43556142965880123323311949751266331066368 from rfl]
    exact g
  have ho := order_is hh z2
  have hle2 := Nat.mul_le_mul_right (2 ^ eC) hle
  have ho2 : FloatKind.f64.format.order h z = _ := ho
  rw [ho2]
  clear ho ho2 hP1 i1 i2 i3 i4 i5 i6 i7 i8 j1 j2 j3 n1' n2' n3' hh z2 hle z3 r3 s3 hR hQ hQ2 hK hP2 hP r2 s2
  generalize K * 2 ^ 135 * 2 ^ eC = a at *
  generalize R4 * 2 ^ eC = b at *
  by_cases hab : a < b
  · rw [if_pos hab]; rfl
  · rw [if_neg hab, if_pos (by omega)]; rfl
end Go.Proofs.Ytkapjlkeohjjbaa
