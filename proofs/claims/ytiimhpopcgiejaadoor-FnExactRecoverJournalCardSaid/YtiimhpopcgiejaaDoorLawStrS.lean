/-
  The laws' helpers on lists of strings: size, copy, equality.
-/
import Derived.Test.YtiimhpopcgiejaaDoorJourS
namespace Go.Proofs.YtiimhpopcgiejaaDoor
set_option linter.unusedVariables false
set_option linter.unusedSimpArgs false
open Go.RowKit

/-- What is left of a bound, or -1. -/
def szStrF : List (List UInt8) → Int → Int
  | [], left => left
  | l :: ls, left => if left - l.length < 0 then -1 else szStrF ls (left - l.length)
theorem szStrF_spec : ∀ (xs : List (List UInt8)) (left : Int), 0 ≤ left → -1 ≤ szStrF xs left ∧ szStrF xs left ≤ left ∧ (0 ≤ szStrF xs left → ∀ y ∈ xs, (y.length : Int) ≤ left)
  | [], left, h => ⟨by show -1 ≤ left; omega, Int.le_refl _, fun _ y hy => by simp at hy⟩
  | l :: ls, left, h => by
    unfold szStrF
    split
    · exact ⟨by omega, by omega, fun h2 => by omega⟩
    · rename_i h2
      obtain ⟨h3, h4, h5⟩ := szStrF_spec ls (left - l.length) (by omega)
      refine ⟨h3, by omega, fun h6 y hy => ?_⟩
      rcases List.mem_cons.1 hy with h7 | h7
      · subst h7; omega
      · have := h5 h6 y h7; omega
def szLF (xs : List (List UInt8)) (left : Int) : Int := if left - xs.length < 0 then -1 else szStrF xs (left - xs.length)
set_option maxRecDepth 200000 in
set_option maxHeartbeats 4000000 in
theorem szStringS_any (w : World) (a : Option Addr) (c : Nat) (xs : List (List UInt8)) (left : Int) (h : Rd w w.heap.size a (strs xs)) (l0 : 0 ≤ left) (l1 : left ≤ 1048576) (hl : xs.length ≤ 9223372036854775807) (hin : ∀ y ∈ xs, y.length ≤ 9223372036854775807) :
    Calls Tryd.prog 8 #[.slice a xs.length c, .int .i64 left] w fun e w' => e = .returned (.int .i64 (szLF xs left)) ∧ w' = w := by
  have HX := Lib.hid h
  have HI := Lib.hid hin
  clear h hin
  have x0 : (0 : Int) ≤ (xs.length : Int) := Int.natCast_nonneg _
  by_cases h0 : left - xs.length < 0
  · have HF : Hid (szLF xs left = -1) := by unfold szLF; rw [Hid, if_pos h0]
    go_enter Tryd.func8, Tryd.ntmps8
    go_wp2_with fail
    go_ret
    rw [HF.out]
    exact ⟨rfl, rfl⟩
  · have HF : Hid (szLF xs left = szStrF xs (left - xs.length)) := by unfold szLF; rw [Hid, if_neg h0]
    have hxl : (xs.length : Int) ≤ 1048576 := by omega
    go_enter Tryd.func8, Tryd.ntmps8
    go_wp2_with fail
    go_loop [5, 1] (fun iv lv => ∃ (k : Nat) (cur : Int), k ≤ xs.length ∧ iv = .int .i64 k ∧ lv = .int .i64 cur ∧ 0 ≤ cur ∧ cur ≤ 1048576 ∧ Hid (szStrF xs (left - xs.length) = szStrF (xs.drop k) cur)) (fun iv _ => xs.length - (intOf iv).toNat)
    case atStart => exact ⟨0, left - xs.length, Nat.zero_le _, rfl, rfl, by omega, by omega, rfl⟩
    case round =>
      obtain ⟨k, cur, hk, rfl, rfl, c0, c1, hE⟩ := hrel
      have k0 : (0 : Int) ≤ (k : Int) := Int.natCast_nonneg _
      by_cases hlt : k < xs.length
      · have k1 : (k : Int) < (xs.length : Int) := by omega
        obtain ⟨b, o, l, ha, hb, hc, hl2⟩ := strs_line HX.out hlt
        subst ha
        have zL : (bs l).size = l.length := bs_size l
        have hll := HI.out l (List.mem_of_getElem? hl2.out)
        have e : xs.drop k = l :: xs.drop (k + 1) := by
          rw [List.drop_eq_getElem_cons hlt]
          have := hl2.out
          rw [List.getElem?_eq_getElem hlt] at this
          injection this with this
          rw [this]
        have HD : Hid (szStrF (xs.drop k) cur = if cur - l.length < 0 then -1 else szStrF (xs.drop (k + 1)) (cur - l.length)) := by rw [Hid, e]; rfl
        clear e hl2
        have s0 : (0 : Int) ≤ ((bs l).size : Int) := Int.natCast_nonneg _
        have s9 : ((bs l).size : Int) ≤ 9223372036854775807 := by omega
        by_cases hb : cur - ((bs l).size : Int) < 0
        · have HN : Hid (szLF xs left = -1) := by rw [Hid, HF.out, hE.out, HD.out, if_pos (by omega)]
          clear hE HD zL
          go_wp2_with fail
          go_ret
          rw [HN.out]
          exact ⟨rfl, rfl⟩
        · have HN : Hid (szStrF xs (left - xs.length) = szStrF (xs.drop (k + 1)) (cur - ((bs l).size : Int))) := by rw [Hid, hE.out, HD.out, if_neg (by omega), zL]
          have hb3 : ¬ cur < ((bs l).size : Int) := by omega
          clear hE HD zL
          go_wp2_with fail
          go_round
          case rel => exact ⟨k + 1, cur - ((bs l).size : Int), by omega, by go_num, by first | rfl | rw [IntWalk.wrap64_in _ (by omega)], by omega, by omega, HN⟩
          case measure => simp [intOf]; omega
      · obtain rfl : k = xs.length := by omega
        have HN : Hid (szLF xs left = cur) := by rw [Hid, HF.out, hE.out, List.drop_length]; rfl
        clear hE
        go_wp2_with fail
        go_ret
        rw [HN.out]
        exact ⟨rfl, rfl⟩
theorem info_strL : (Tryd.prog.info? 9).map (fun i => (i.zero, i.size, i.bytes)) = some (some (.string (bs [])), 1, 16) := by kernel_rfl
theorem strs_replicate (n : Nat) : List.replicate n (Value.string (bs [])) = strs (List.replicate n []) := by simp [strs]
theorem strs_set (xs : List (List UInt8)) (k : Nat) (l : List UInt8) : (strs xs).set k (.string (bs l)) = strs (xs.set k l) := by simp [strs, List.map_set]
set_option maxRecDepth 10000 in
set_option maxHeartbeats 4000000 in
theorem toStringS_any (w : World) (a : Option Addr) (c : Nat) (xs : List (List UInt8)) (h : Rd w w.heap.size a (strs xs)) (hl : xs.length ≤ 1048576) :
    Calls Tryd.prog 10 #[.slice a xs.length c] w fun e w' => e = .returned (.slice (some ⟨w.heap.size, 0, none⟩) xs.length xs.length) ∧ Blk w' w.heap.size (strs xs) 9 ∧ Below w.heap.size w w' ∧ w'.heap.size = w.heap.size + 1 := by
  go_enter Tryd.func10, Tryd.ntmps10
  go_wp2_with (at_make; refine wpList_make_blk _ rfl _ _ 22 rfl 9 (.string (bs [])) 16 Tryd.underlying22 info_strL rfl _ _ xs.length rfl rfl (by omega) (by unfold maxLen; omega) ?_)
  intro w1 hb1 hw1 hs1
  go_wp2
  go_loopw [4] (fun i wr => ∃ k : Nat, k ≤ xs.length ∧ i = .int .i64 k ∧ Blk wr w.heap.size (strs (xs.take k ++ List.replicate (xs.length - k) [])) 9 ∧ Below w.heap.size w wr ∧ wr.heap.size = w.heap.size + 1) (fun i _ => xs.length - (intOf i).toNat)
  case atStart => exact ⟨0, Nat.zero_le _, rfl, by rw [strs_replicate] at hb1; simpa using hb1, hw1, hs1⟩
  case round =>
    obtain ⟨k, hk, rfl, hb, hw, hsz⟩ := hrel
    have Hsz := Lib.hid hsz
    clear hsz
    by_cases hlt : k < xs.length
    · obtain ⟨b, o, l, ha, hbb, hck, hx⟩ := strs_line (h.below hw (Nat.le_refl _)) hlt
      subst ha
      have hfr := hb.free k
      obtain ⟨old, hcell⟩ := hb.has (j := k) (by simp; omega)
      have hset := hb.set k (.string (bs l))
      rw [strs_set, fill_step xs [] k hlt l hx.out] at hset
      have hbel := hw.setCell (p := ⟨w.heap.size, k, none⟩) (Nat.le_refl _) (.string (bs l))
      clear hb hw h
      go_wp2
      go_roundw
      case rel => exact ⟨k + 1, by omega, by go_num, hset, hbel, by simpa using Hsz.out⟩
      case measure => simp [intOf]; omega
    · have : k = xs.length := by omega
      subst this
      rw [List.take_length, Nat.sub_self, List.replicate_zero, List.append_nil] at hb
      go_wp2
      go_ret
      exact ⟨rfl, hb, hw, Hsz.out⟩
set_option maxRecDepth 10000 in
set_option maxHeartbeats 4000000 in
theorem eqStringS_same (w : World) (a b : Option Addr) (c d : Nat) (xs : List (List UInt8)) (hx : Rd w w.heap.size a (strs xs)) (hy : Rd w w.heap.size b (strs xs)) (hlx : xs.length ≤ 1099511627776) :
    Calls Tryd.prog 12 #[.slice a xs.length c, .slice b xs.length d] w fun e w' => e = .returned (.bool true) ∧ ∃ n, w' = w.drewN n := by
  go_enter Tryd.func12, Tryd.ntmps12
  go_wp2_with fail
  go_loopw [5] (fun i wr => ∃ k n : Nat, k ≤ xs.length ∧ i = .int .i64 k ∧ wr = w.drewN n) (fun i _ => xs.length - (intOf i).toNat)
  case atStart => exact ⟨0, 0, Nat.zero_le _, rfl, rfl⟩
  case round =>
    obtain ⟨k, n, hk, rfl, rfl⟩ := hrel
    by_cases hlt : k < xs.length
    · obtain ⟨b1, o1, x, ha, _, hcx, hx'⟩ := strs_line hx hlt
      obtain ⟨b2, o2, y, hb, _, hcy, hy'⟩ := strs_line hy hlt
      subst ha
      subst hb
      obtain rfl : x = y := by have h1 := hx'.out; rw [hy'.out] at h1; injection h1 with h1; exact h1.symm
      have hr := Lib.hid hx
      have hs := Lib.hid hy
      clear hx hy hx' hy'
      go_wp2_with fail
      go_quiet (fail)
      go_wp2_with fail
      go_roundw
      case rel => exact ⟨k + 1, n + nq, by omega, by go_num, by first | rfl | exact World.drewN_drewN _ _ _⟩
      case measure => simp [intOf]; omega
    · obtain rfl : k = xs.length := by omega
      go_wp2_with fail
      go_ret
      exact ⟨rfl, _, rfl⟩
end Go.Proofs.YtiimhpopcgiejaaDoor
