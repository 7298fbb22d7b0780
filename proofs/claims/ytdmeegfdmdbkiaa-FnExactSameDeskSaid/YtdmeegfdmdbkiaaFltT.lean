/-
  The law's helpers on lists of floats: copy, count.
-/
import Derived.Test.YtdmeegfdmdbkiaaFltQ
namespace Go.Proofs.Ytdmeegfdmdbkiaa
set_option linter.unusedVariables false
set_option linter.unusedSimpArgs false
open Go.RowKit

attribute [local go_sem] run_store_float
@[simp] theorem flts_length (xs : List Nat) : (flts xs).length = xs.length := by simp [flts]
theorem flts_get {xs : List Nat} {j : Nat} (h : j < xs.length) : (flts xs)[j]? = some (.float .f32 (xs.getD j 0)) := by simp [flts, List.getD, List.getElem?_eq_getElem h]
theorem Rd.atF {w : World} {B : Nat} {a : Option Addr} {xs : List Nat} (h : Rd w B a (flts xs)) {k : Nat} (hk : k < xs.length) :
    ∃ b o, a = some ⟨b, o, none⟩ ∧ b < B ∧ ∀ j, j < xs.length → w.cell? ⟨b, o + j, none⟩ = some (.float .f32 (xs.getD j 0)) := by
  rcases h with h | ⟨b, o, ha, hb, hc⟩
  · have : (flts xs).length = 0 := by rw [h]; rfl
    rw [flts_length] at this; omega
  · exact ⟨b, o, ha, hb, fun j hj => by rw [hc j (by rw [flts_length]; exact hj), flts_get hj]⟩
theorem Blk.setF {w : World} {b : Nat} {t : TypeId} {xs : List Nat} (h : Blk w b (flts xs) t) (j : Nat) (x : Nat) : Blk (w.setCell ⟨b, j, none⟩ (.float .f32 x)) b (flts (xs.set j x)) t := by
  have := h.set j (.float .f32 x)
  rw [show (flts xs).set j (.float .f32 x) = flts (xs.set j x) from by simp [flts, List.map_set]] at this
  exact this
theorem info_f32 : (Try.prog.info? 46).map (fun i => (i.zero, i.size, i.bytes)) = some (some (.float .f32 0), 1, 4) := by kernel_rfl
set_option maxRecDepth 10000 in
set_option maxHeartbeats 4000000 in
theorem lawTo_F (w : World) (a : Option Addr) (c : Nat) (xs : List Nat) (h : Rd w w.heap.size a (flts xs)) (hl : xs.length ≤ 1048576) :
    Calls Try.prog 40 #[.slice a xs.length c] w fun e w' => e = .returned (.slice (some ⟨w.heap.size, 0, none⟩) xs.length xs.length) ∧ Blk w' w.heap.size (flts xs) 46 ∧ Below w.heap.size w w' ∧ w'.heap.size = w.heap.size + 1 := by
  go_enter Try.func40, Try.ntmps40
  go_wp2_with (at_make; refine wpList_make_blk _ rfl _ _ 29 rfl 46 (.float .f32 0) 4 Try.underlying29 info_f32 rfl _ _ xs.length rfl rfl (by omega) (by unfold maxLen; omega) ?_)
  intro w1 hb1 hw1 hs1
  go_wp2
  go_loopw [4] (fun i wr => ∃ k : Nat, k ≤ xs.length ∧ i = .int .i64 k ∧ Blk wr w.heap.size (flts (xs.take k ++ List.replicate (xs.length - k) 0)) 46 ∧ Below w.heap.size w wr ∧ wr.heap.size = w.heap.size + 1) (fun i _ => xs.length - (intOf i).toNat)
  case atStart => exact ⟨0, Nat.zero_le _, rfl, by simpa [flts] using hb1, hw1, hs1⟩
  case round =>
    obtain ⟨k, hk, rfl, hb, hw, hsz⟩ := hrel
    have Hsz := Lib.hid hsz
    clear hsz
    by_cases hlt : k < xs.length
    · obtain ⟨b, o, rfl, hbb, hcj⟩ := (h.below hw (Nat.le_refl _)).atF hlt
      have hck := hcj k hlt
      have hx : Hid (xs[k]? = some (xs.getD k 0)) := by simp [Hid, List.getD, List.getElem?_eq_getElem hlt]
      generalize xs.getD k 0 = x at hck hx
      have hfr := hb.free k
      obtain ⟨old, hcell⟩ := hb.has (j := k) (by simp; omega)
      have hset := hb.setF k x
      rw [fill_step xs 0 k hlt x hx.out] at hset
      have hbel := hw.setCell (p := ⟨w.heap.size, k, none⟩) (Nat.le_refl _) (.float .f32 x)
      clear hb hw h hcj
      go_wp2
      go_roundw
      case rel => exact ⟨k + 1, by omega, by go_num, hset, hbel, by simpa using Hsz.out⟩
      case measure => simp [intOf]; omega
    · have : k = xs.length := by omega
      subst this
      rw [List.take_length, Nat.sub_self, List.replicate_zero, List.append_nil] at hb
      go_wp2
      go_ret
      exact ⟨rfl, hb, hw, Hsz.out⟩
end Go.Proofs.Ytdmeegfdmdbkiaa
