/-
  The text of a mark.
-/
import Derived.Test.YtiimhpopcgiejaaDoorTwo
import Derived.Test.YtiimhpopcgiejaaDoorLater
import Derived.Deep.RegionHeldLaw
import Derived.Deep.RegionHeld3
import Derived.Lib.SlBytesConst
import Derived.Lib.ConvBytes
namespace Go.Proofs.YtiimhpopcgiejaaDoor
set_option linter.unusedVariables false
set_option linter.unusedSimpArgs false
open Go.RowKit

def mtL : Nat → Nat → List UInt8 → List UInt8
  | 0, _, out => out
  | f + 1, k, out => if k = 0 then out else mtL f (k / 10) (byteOf (48 + (k : Int) % 10) :: out)
def mtF (k : Nat) : ByteArray := bs (109 :: mtL k k [])
theorem mtL_zero (f : Nat) (out : List UInt8) : mtL f 0 out = out := by cases f <;> simp [mtL]
theorem mtL_step {f k : Nat} (h : 0 < k) (hf : k ≤ f) (out : List UInt8) : ∃ g, k / 10 ≤ g ∧ mtL f k out = mtL g (k / 10) (byteOf (48 + (k : Int) % 10) :: out) := by
  obtain ⟨g, rfl⟩ : ∃ g, f = g + 1 := ⟨f - 1, by omega⟩
  exact ⟨g, by omega, by rw [mtL, if_neg (by omega)]⟩
theorem bs_plusM (a b : List UInt8) : bs a ++ bs b = bs (a ++ b) := by
  apply ext_bs; rw [ByteArray.data_append, Array.toList_append]; rfl
set_option maxRecDepth 10000 in
set_option maxHeartbeats 4000000 in
theorem markText_any (K : Nat) (h1 : 1 ≤ K) (h2 : K ≤ 1073741824) (w : World) : Calls Tryd.prog 41 #[.int .i64 K] w fun e w' => e = .returned (.string (mtF K)) ∧ Below w.heap.size w w' := by
  have hk0 : ¬ (K : Int) ≤ 0 := by omega
  have hk1 : (K : Int) ≤ 1073741824 := by omega
  go_enter Tryd.func41, Tryd.ntmps41
  go_wp2_with fail
  go_loopw [0, 3] (fun kv u wr => ∃ (k f : Nat) (out : List UInt8), kv = .int .i64 k ∧ u = .string (bs out) ∧ Hid (k ≤ f ∧ mtL f k out = mtL K K []) ∧ Hid (out.length + k ≤ K) ∧ (k : Int) ≤ 1073741824 ∧ Below w.heap.size w wr) (fun kv _ _ => (intOf kv).toNat)
  case atStart => exact ⟨K, K, [], rfl, rfl, ⟨Nat.le_refl _, rfl⟩, by simp [Hid], hk1, Below.refl _ _⟩
  case round =>
    obtain ⟨k, f, out, rfl, rfl, hF, hL, hk, hw⟩ := hrel
    have k0 : (0 : Int) ≤ (k : Int) := Int.natCast_nonneg _
    have hws := hw.size
    by_cases hz : k = 0
    · subst hz
      have hE : Hid (out = mtL K K []) := by have := hF.out.2; rw [mtL_zero] at this; exact this
      have hsz : ¬ 9223372036854775807 < (bs out).size + 1 := by rw [bs_size]; have := hL.out; omega
      have hsz2 : ¬ 9223372036854775807 < 1 + (bs out).size := by rw [bs_size]; have := hL.out; omega
      clear hF hL
      go_wp2_with fail
      go_ret
      refine ⟨?_, hw⟩
      show Ending.returned (.string (bs [109] ++ bs out)) = _
      rw [bs_plusM, hE.out]; rfl
    · have hkp : (0 : Int) < (k : Int) := by omega
      obtain ⟨g, g1, g2⟩ := mtL_step (k := k) (f := f) (by omega) hF.out.1 out
      have hsz : ¬ 9223372036854775807 < 1 + (bs out).size := by rw [bs_size]; have := hL.out; omega
      have hbv : 48 + (k : Int) % 10 = ((byteOf (48 + (k : Int) % 10)).toNat : Int) := by rw [byteOf_toNat]; omega
      have hcv := run_convert_bytes_back (P := Tryd.prog) (wr.alloc (.cells #[.int .u8 (48 + (k : Int) % 10)] 5)) 53 9 5 ⟨wr.heap.size, 0, none⟩ 1 [byteOf (48 + (k : Int) % 10)] Tryd.underlying53 Tryd.underlying5 Tryd.underlying9 (fun j hj => by
        rw [add_none2, Nat.zero_add]
        exact blk_byc (blk_one' wr 5 rfl hbv) j hj)
      have hcv : (convert 53 9 (.slice (some ⟨wr.heap.size, 0, none⟩) 1 1)).run Tryd.prog (wr.alloc (.cells #[.int .u8 (48 + (k : Int) % 10)] 5)) = .ok (.string (bs [byteOf (48 + (k : Int) % 10)])) (wr.alloc (.cells #[.int .u8 (48 + (k : Int) % 10)] 5)) := hcv
      have hsz3 : ¬ 9223372036854775807 < (bs [byteOf (48 + (k : Int) % 10)]).size + (bs out).size := by rw [bs_size, bs_size]; have := hL.out; simp; omega
      have HG : Hid (mtL g (k / 10) (byteOf (48 + (k : Int) % 10) :: out) = mtL K K []) := g2.symm.trans hF.out.2
      have HB := Lib.hid hw
      clear hbv g2 hF hw
      go_wp2_with fail
      go_roundw
      case rel => exact ⟨k / 10, g, byteOf (48 + (k : Int) % 10) :: out, by go_num, by rw [bs_plusM]; rfl, ⟨g1, HG.out⟩, by have := hL.out; simp [Hid]; omega, by omega, HB.out.alloc hws _⟩
      case measure => simp [intOf]; omega
end Go.Proofs.YtiimhpopcgiejaaDoor
