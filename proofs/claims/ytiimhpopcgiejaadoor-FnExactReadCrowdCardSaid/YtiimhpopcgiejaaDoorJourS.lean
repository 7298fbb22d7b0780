/-
  The reference's journal of lines.
-/
import Derived.Test.YtiimhpopcgiejaaDoorJourP
import Derived.Deep.RegionHeld3
import Derived.Deep.RegionHeldLaw
import Derived.RegionTactic
namespace Go.Proofs.YtiimhpopcgiejaaDoor
set_option linter.unusedVariables false
set_option linter.unusedSimpArgs false
open Go.RowKit

theorem bsJ (a b : List UInt8) : bs a ++ bs b = bs (a ++ b) := by
  apply ext_bs; rw [ByteArray.data_append, Array.toList_append]; rfl
theorem strs_line {w : World} {B : Nat} {a : Option Addr} {xs : List (List UInt8)} (h : Rd w B a (strs xs)) {k : Nat} (hk : k < xs.length) :
    ∃ b o l, a = some ⟨b, o, none⟩ ∧ b < B ∧ w.cell? ⟨b, o + k, none⟩ = some (.string (bs l)) ∧ Hid (xs[k]? = some l) := by
  obtain ⟨b, o, v, ha, hb, hc, hv⟩ := h.getV (k := k) (by simpa using hk)
  have e := strs_get (List.getElem?_eq_getElem hk)
  have e2 : v = .string (bs xs[k]) := by
    have := hv.out
    rw [e] at this
    injection this with this
    exact this.symm
  subst e2
  exact ⟨b, o, xs[k], ha, hb, hc, List.getElem?_eq_getElem hk⟩
theorem jmin_len (xs : List (List UInt8)) : 3 * xs.length ≤ jmin xs := by
  induction xs with
  | nil => simp [jmin]
  | cons l ls ih =>
    have ej : jmin (l :: ls) = l.length + 3 + jmin ls := by simp [jmin]
    simp only [List.length_cons]
    omega
theorem jmin_mem {xs : List (List UInt8)} {k : Nat} {l : List UInt8} (h : xs[k]? = some l) : l.length + 3 ≤ jmin xs := by
  have h1 := jmin_take h
  have h2 := jmin_mono xs (k + 1)
  omega
/-- What a step writes, as strings joined. -/
theorem jstep_bs (t l : List UInt8) (c : Int) : bs t ++ (bs (Lib.itoa c) ++ ⟨#[32]⟩ ++ bs l ++ ⟨#[10]⟩) = bs (t ++ (Lib.itoa c ++ 32 :: (l ++ [10]))) := by
  have e : Lib.itoa c ++ 32 :: (l ++ [10]) = Lib.itoa c ++ [32] ++ l ++ [10] := by simp
  rw [e, ← bsJ, ← bsJ, ← bsJ, ← bsJ]; rfl
set_option maxRecDepth 10000 in
set_option maxHeartbeats 8000000 in
theorem l08Journal_any (w : World) (a : Option Addr) (c : Nat) (xs : List (List UInt8)) (h : Rd w w.heap.size a (strs xs)) (hm : jmin xs ≤ 16000) :
    Calls Tryd.prog 32 #[.slice a xs.length c] w fun e w' => e = .returned (.string (bs (jst xs).2)) ∧ Below w.heap.size w w' := by
  have HX := Lib.hid h
  have hxl : xs.length ≤ 16000 := by have := jmin_len xs; omega
  have HM : Hid (∀ k, k ≤ xs.length → (jst (xs.take k)).2.length ≤ 48000 ∧ 0 ≤ (jst (xs.take k)).1 ∧ (jst (xs.take k)).1 ≤ 65002) := fun k _ => by
    have h1 := (jst_min (xs.take k)).2
    have h2 := jmin_mono xs k
    have h3 := jst_chk (xs.take k)
    exact ⟨by omega, h3.1, h3.2⟩
  have HS : Hid (∀ k l, xs[k]? = some l → jst (xs.take (k + 1)) = jstep (jst (xs.take k)) l ∧ l.length ≤ 16000) := fun k l hk => ⟨jst_take hk, by have := jmin_mem hk; omega⟩
  clear h hm
  go_enter Tryd.func32, Tryd.ntmps32
  go_wp2_with fail
  go_loopw [5, 4, 3] (fun iv nv ov wr => ∃ k : Nat, k ≤ xs.length ∧ iv = .int .i64 k ∧ nv = .int .i64 (jst (xs.take k)).1 ∧ ov = .string (bs (jst (xs.take k)).2) ∧ Hid (Below w.heap.size w wr)) (fun iv _ _ _ => xs.length - (intOf iv).toNat)
  case atStart => exact ⟨0, Nat.zero_le _, rfl, rfl, rfl, Below.refl _ _⟩
  case round =>
    obtain ⟨k, hk, rfl, rfl, rfl, hw⟩ := hrel
    have k0 : (0 : Int) ≤ (k : Int) := Int.natCast_nonneg _
    by_cases hlt : k < xs.length
    · have k1 : (k : Int) < (xs.length : Int) := by omega
      obtain ⟨b, o, l, ha, hb, hc, hl⟩ := strs_line (HX.out.to hw.out) hlt
      subst ha
      obtain ⟨ht, n0, n1⟩ := HM.out k hk
      obtain ⟨hst, hll⟩ := HS.out k l hl.out
      have LC := Lib.hid (l01Check_any (jst (xs.take k)).1 n0 n1 (bs l) (by rw [bs_size]; omega) wr)
      obtain ⟨c0, c1⟩ := chkF_bd l _ n0 n1
      have LD := Lib.hid (fun v => l01Dec_any v (chkF (jst (xs.take k)).1 l) (by omega) (by omega))
      have hd5 := itoa_le5 c0 c1
      have HQ : Hid (bs (jst (xs.take k)).2 ++ (bs (Lib.itoa (chkF (jst (xs.take k)).1 l)) ++ ⟨#[32]⟩ ++ bs l ++ ⟨#[10]⟩) = bs (jst (xs.take (k + 1))).2) := by
        rw [Hid, hst, jstep_bs]; rfl
      have HC : Hid ((jst (xs.take (k + 1))).1 = chkF (jst (xs.take k)).1 l) := by rw [Hid, hst]; rfl
      rw [show (bs l).data.toList = l from rfl] at LC
      have zO : (bs (jst (xs.take k)).2).size ≤ 48000 := by rw [bs_size]; omega
      have zL : (bs l).size ≤ 16000 := by rw [bs_size]; omega
      have zD : (bs (Lib.itoa (chkF (jst (xs.take k)).1 l))).size ≤ 5 := by rw [bs_size]; omega
      generalize bs (Lib.itoa (chkF (jst (xs.take k)).1 l)) = D at *
      generalize chkF (jst (xs.take k)).1 l = cn at *
      generalize bs (jst (xs.take k)).2 = O at *
      generalize (jst (xs.take k)).1 = n at *
      generalize bs l = T at *
      have s0 : ¬ 9223372036854775807 < D.size + 1 := by omega
      have s1 : ¬ 9223372036854775807 < D.size + 1 + T.size := by omega
      have s2 : ¬ 9223372036854775807 < D.size + 1 + T.size + 1 := by omega
      have s3 : ¬ 9223372036854775807 < O.size + (D.size + 1 + T.size + 1) := by omega
      have HW := Lib.hid hw.out
      clear hst hl hd5 ht hll hw
      have EE : Hid (wr.cell? ⟨b, o + k, none⟩ = some (.string T)) := hc
      have EX : Hid (wr.drew.cell? ⟨b, o + k, none⟩ = some (.string T)) := hc
      go_wp2_with fail
      refine LC.out.mono ?_
      rintro e w' ⟨rfl, rfl⟩
      go_wp2_with fail
      go_region_held3 (fun w' => w'.cell? ⟨b, o + k, none⟩ = some (.string T))
        (first | exact EE.out | exact EX.out | exact HQ2.out)
        ((go_at_call 53; refine (LD.out _).mono ?_; rintro e wq ⟨rfl, hbq⟩; have HBq := Lib.hid (below_then (below_drew' HW.out) hbq); have HQ2 : Hid (wq.cell? ⟨b, o + k, none⟩ = some (.string T)) := (hbq.cell (p := ⟨b, o + k, none⟩) hb).trans EX.out))
      all_goals
        clear LC LD hc
        go_wp2_with fail
        go_roundw
        case rel => exact ⟨k + 1, by omega, by go_num, by rw [HC.out], by rw [← HQ.out], HBq⟩
        case measure => simp [intOf]; omega
    · obtain rfl : k = xs.length := by omega
      have HE : Hid (xs.take xs.length = xs) := List.take_length
      go_wp2_with fail
      go_ret
      rw [HE.out]
      exact ⟨rfl, hw.out⟩
end Go.Proofs.YtiimhpopcgiejaaDoor
