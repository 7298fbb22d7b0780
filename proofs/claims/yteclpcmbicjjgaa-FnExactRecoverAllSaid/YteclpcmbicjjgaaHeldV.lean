/-
  Marks on a list of what is saved are found again: the walk.
-/
import Derived.Test.YteclpcmbicjjgaaMarkV
namespace Go.Proofs.Yteclpcmbicjjgaa
set_option linter.unusedVariables false
set_option linter.unusedSimpArgs false
open Go.RowKit

set_option maxRecDepth 10000 in
set_option maxHeartbeats 8000000 in
theorem heldSavedS_any (w : World) (lo g n c : Nat) (f : Nat → Sv) (hd : Nat → Hd) (L H : Nat → Nat) (h : MkV w lo g n (mkF f n) hd L H) (hn : n ≤ 8) (hf : ∀ k, k < n → (f k).A.length ≤ 100 ∧ (f k).B.length ≤ 100 ∧ (f k).W.length ≤ 100) :
    Calls Try.prog 31 #[.slice (some ⟨g, 0, none⟩) n c, .int .i64 1] w fun e w' => e = .returned (.int .i64 (KS f n)) ∧ Below w.heap.size w w' := by
  have HFl := Lib.hid hf
  have hKS : Hid (∀ k, k ≤ n → 1 ≤ KS f k ∧ KS f k ≤ 1 + 1000 * k) := fun k hk => KS_bd (fun j hj => by have := hf j hj; unfold szSv; omega) k hk
  have M0 := Lib.hid h
  clear h hf
  go_enter Try.func31, Try.ntmps31
  go_wp2_with fail
  go_loopw [5, 1] (fun iv kv wr => ∃ k : Nat, k ≤ n ∧ iv = .int .i64 k ∧ kv = .int .i64 (KS f k) ∧ Below w.heap.size w wr) (fun iv _ _ => n - (intOf iv).toNat)
  case atStart => exact ⟨0, Nat.zero_le _, rfl, rfl, Below.refl _ _⟩
  case round =>
    obtain ⟨k, hk, rfl, rfl, hw⟩ := hrel
    have hws := hw.size
    obtain ⟨K1, K2⟩ := hKS.out k hk
    have HW := Lib.hid hw
    by_cases hlt : k < n
    · have hM := M0.out.keep hw
      have HN1 : Hid (KS f (k + 1) = KS f k + szSv (f k)) := rfl
      obtain ⟨l1, l2, l3⟩ := HFl.out k hlt
      obtain ⟨o1, o2, o3⟩ := hM.own k hlt
      have hcl := hM.cl k hlt
      rw [mkF_done hlt] at o2 hcl
      have hfz := hM.fz
      have hgs := hM.gs
      rcases hE : hd k with ⟨aA, cA, aB, cB, aW, cW⟩
      rw [hE] at o2 hcl
      generalize L k = l at *
      generalize H k = m at *
      generalize f k = v at *
      obtain ⟨ns, R, C, A, B, P, X⟩ := v
      simp only [mkSv] at l1 l2 l3 o2 hcl
      obtain ⟨p, q, hpq, hm, pA, pB, pW⟩ := own_parts o2
      generalize KS f k = κ at *
      simp only [cells1, marks_length] at hcl
      have E0 : Hid (ElW wr g k l p q m [.string (mtF κ), .int .i64 ((κ : Int) + 1), .int .i64 ((κ : Int) + 1 + 1), .slice aA A.length cA, .slice aB B.length cB, .int .i64 ((κ : Int) + 1 + 1 + 1 + A.length + B.length), .slice aW X.length cW] aA cA _ aB cB _ aW cW _) := ⟨hcl, hfz, hgs, pA, pB, pW⟩
      have hks : (k : Int) < (n : Int) := by omega
      have k0 : (0 : Int) ≤ (k : Int) := Int.natCast_nonneg _
      have κ0 : (1 : Int) ≤ (κ : Int) := by omega
      have κ1 : (κ : Int) ≤ 10000 := by omega
      have a0 : (0 : Int) ≤ (A.length : Int) := Int.natCast_nonneg _
      have b0 : (0 : Int) ≤ (B.length : Int) := Int.natCast_nonneg _
      have x0 : (0 : Int) ≤ (X.length : Int) := Int.natCast_nonneg _
      have LT := Lib.hid (fun (z : Later wr) => markText_any κ (by omega) (by omega) z.w')
      have HCC : Hid (∀ w', Below wr.heap.size wr w' → ElW w' g k l p q m [.string (mtF κ), .int .i64 ((κ : Int) + 1), .int .i64 ((κ : Int) + 1 + 1), .slice aA A.length cA, .slice aB B.length cB, .int .i64 ((κ : Int) + 1 + 1 + 1 + A.length + B.length), .slice aW X.length cW] aA cA _ aB cB _ aW cW _) := fun w' hb => E0.out.below hb
      clear hM o2 hcl hfz pA pB pW hE hw
      go_wp2_with fail
      have LC : Hid (∀ z : Later wr, z.w'.cell? ⟨g, k * 7, none⟩ = some (.string (mtF κ))) := fun z => (HCC.out z.w' z.h).cells.1
      have hc0 := LC.out
      refine wp_region_later (by kernel_rfl) (by kernel_rfl) ?_
      repeat (go_big_quiet_step (first | (go_at_call 60; exact later_of (LT.out _))))
      refine wpQuiet_nil ?_
      rintro wq ⟨⟨_, hbq⟩, rfl⟩
      have E1 := HCC.out wq hbq
      have BQ := Lib.hid hbq
      clear hc0 LC LT hbq
      obtain ⟨c0, c1, c2, c2', c3, c3', c4, c4', c5, c6, c6'⟩ := E1.cells
      have s1 := BQ.out.size
      have LA := Lib.hid (lawHeld_I wq p aA cA A.length ((κ : Int) + 1 + 1 + 1) (E1.A.rd) (by omega) (by omega) (by omega) (by omega))
      go_wp2_with fail
      refine LA.out.mono ?_
      rintro e w2 ⟨rfl, hb⟩
      have B2 := Lib.hid (below_then BQ.out hb)
      have s2 := hb.size
      have E2 := HCC.out w2 B2.out
      clear c0 c1 c2 c2' c3 c3' c4 c4' c5 c6 c6' hb LA E1 BQ
      obtain ⟨c0, c1, c2, c2', c3, c3', c4, c4', c5, c6, c6'⟩ := E2.cells
      have LB := Lib.hid (lawHeld_I w2 q aB cB B.length ((κ : Int) + 1 + 1 + 1 + A.length) (E2.B.rd) (by omega) (by omega) (by omega) (by omega))
      go_wp2_with fail
      refine LB.out.mono ?_
      rintro e w3 ⟨rfl, hb⟩
      have B3 := Lib.hid (below_then B2.out hb)
      have s3 := hb.size
      have E3 := HCC.out w3 B3.out
      clear c0 c1 c2 c2' c3 c3' c4 c4' c5 c6 c6' hb LB E2 B2
      obtain ⟨c0, c1, c2, c2', c3, c3', c4, c4', c5, c6, c6'⟩ := E3.cells
      have LX := Lib.hid (lawHeld_I w3 m aW cW X.length ((κ : Int) + 1 + 1 + 1 + A.length + B.length + 1) (E3.W.rd) (by omega) (by omega) (by omega) (by omega))
      go_wp2_with fail
      refine LX.out.mono ?_
      rintro e w4 ⟨rfl, hb⟩
      have B4 := Lib.hid (below_then B3.out hb)
      have W4 := Lib.hid (below_then HW.out B4.out)
      have hk2 : Hid ((κ : Int) + 1 + 1 + 1 + A.length + B.length + 1 + X.length = ((KS f (k + 1) : Nat) : Int)) := by rw [Hid, HN1.out]; simp [szSv]; omega
      clear c0 c1 c2 c2' c3 c3' c4 c4' c5 c6 c6' hb LX E3 B3 HN1
      go_wp2_with fail
      go_roundw
      case rel => exact ⟨k + 1, by omega, by go_num, by rw [hk2.out], W4.out⟩
      case measure => first | (simp [intOf]; done) | (simp [intOf]; omega)
    · have : k = n := by omega
      subst this
      go_wp2_with fail
      go_ret
      exact ⟨rfl, HW.out⟩
end Go.Proofs.Yteclpcmbicjjgaa
