/-
  The laws' marks on lists of strings.
-/
import Derived.Test.YtiimhpopcgiejaaDoorLawStrS
import Derived.Test.YtiimhpopcgiejaaDoorMkT
namespace Go.Proofs.YtiimhpopcgiejaaDoor
set_option linter.unusedVariables false
set_option linter.unusedSimpArgs false
open Go.RowKit

/-- The marks from k on. -/
def mkL (n k : Nat) : List (List UInt8) := (List.range n).map fun i => (mtF (k + i)).data.toList
@[simp] theorem mkL_length (n k : Nat) : (mkL n k).length = n := by simp [mkL]
theorem mkL_get (n k j : Nat) (h : j < n) : (mkL n k)[j]? = some (mtF (k + j)).data.toList := by simp [mkL, List.getElem?_map, h]
theorem mkL_succ (n k : Nat) : mkL (n + 1) k = mkL n k ++ [(mtF (k + n)).data.toList] := by simp [mkL, List.range_succ]
theorem mkL_step (xs : List (List UInt8)) (rest : List Value) (k j : Nat) (hj : j < xs.length) : (strs (mkL j k ++ xs.drop j) ++ rest).set j (.string (mtF (k + j))) = strs (mkL (j + 1) k ++ xs.drop (j + 1)) ++ rest := by
  have e : xs.drop j = xs[j] :: xs.drop (j + 1) := List.drop_eq_getElem_cons hj
  rw [List.set_append_left _ _ (by simp; omega), strs_append, List.set_append_right _ _ (by simp)]
  have e2 : (strs (xs.drop j)).set 0 (.string (mtF (k + j))) = .string (bs (mtF (k + j)).data.toList) :: strs (xs.drop (j + 1)) := by rw [e, bs_of]; rfl
  rw [strs_length, mkL_length, Nat.sub_self, e2, mkL_succ]
  simp [strs]
set_option maxRecDepth 10000 in
set_option maxHeartbeats 4000000 in
theorem markStringS_blk (w : World) (g c T : Nat) (xs : List (List UInt8)) (rest : List Value) (k : Nat) (h : Blk w g (strs xs ++ rest) T) (hl : xs.length ≤ 1048576) (hk0 : 1 ≤ k) (hk : k ≤ 1048576) :
    Calls Tryd.prog 15 #[.slice (some ⟨g, 0, none⟩) xs.length c, .int .i64 k] w fun e w' => e = .returned (.int .i64 ((k : Int) + xs.length)) ∧ Blk w' g (strs (mkL xs.length k) ++ rest) T ∧ w.grownBy w' (some g) := by
  go_enter Tryd.func15, Tryd.ntmps15
  go_wp2_with fail
  go_loopw [1, 5] (fun kk i wr => ∃ j : Nat, j ≤ xs.length ∧ i = .int .i64 j ∧ kk = .int .i64 ((k + j : Nat) : Int) ∧ Hid (Blk wr g (strs (mkL j k ++ xs.drop j) ++ rest) T) ∧ Hid (w.grownBy wr (some g))) (fun _ i _ => xs.length - (intOf i).toNat)
  case atStart => exact ⟨0, Nat.zero_le _, rfl, rfl, by show Blk _ _ _ _; simpa [mkL] using h, World.grownBy.refl _ _⟩
  case round =>
    obtain ⟨j, hj, rfl, rfl, hb, hw⟩ := hrel
    have j0 : (0 : Int) ≤ (j : Int) := Int.natCast_nonneg _
    by_cases hlt : j < xs.length
    · have hlt1 : (j : Int) < (xs.length : Int) := by omega
      have LM := Lib.hid (markText_any (k + j) (by omega) (by omega) wr)
      clear h
      go_wp2_with fail
      refine LM.out.mono ?_
      rintro e wm ⟨rfl, hbm⟩
      have hb2 := hb.out.same hbm
      have hgm : w.grownBy wm (some g) := grown_of_grown hw.out ⟨hbm.os, hbm.tape, hbm.output, hbm.size, fun i hi _ => hbm.block i hi⟩
      have hfr := hb2.free j
      obtain ⟨old, hcell⟩ := hb2.has (j := j) (by simp; omega)
      have hset := hb2.set j (.string (mtF (k + j)))
      rw [mkL_step xs rest k j hlt] at hset
      have hgr := (show wm.grownBy (wm.setCell ⟨g, j, none⟩ (.string (mtF (k + j)))) (some g) from ⟨rfl, rfl, rfl, by simp, fun i _ hi => Below.heap_setCell _ _ _ _ (fun e => hi (by simp [e]))⟩)
      have HG := Lib.hid (grown_of_grown hgm hgr)
      have HSt := Lib.hid hset
      clear hb hw hgr hset hgm hbm hb2 LM
      go_wp2_with fail
      go_roundw
      case rel => exact ⟨j + 1, by omega, by go_num, by go_num, HSt.out, HG.out⟩
      case measure => simp [intOf]; omega
    · obtain rfl : j = xs.length := by omega
      have hb2 := hb.out
      rw [List.drop_length, List.append_nil] at hb2
      go_wp2_with fail
      go_ret
      exact ⟨ret_int (by omega), hb2, hw.out⟩
theorem markStringS_nil (w : World) (k : Int) :
    Calls Tryd.prog 15 #[.slice none 0 0, .int .i64 k] w fun e w' => e = .returned (.int .i64 k) ∧ w = w' := by
  go_enter Tryd.func15, Tryd.ntmps15
  go_wp2
  refine wp_loop_rounds 1 ?_
  rw [rounds_succ]
  go_wp2
  go_ret
  exact ⟨rfl, rfl⟩
/-- A list of strings of one's own is marked; all else below it stays. -/
theorem lawMark_Str (w : World) (base B : Nat) (v : Value) (xs : List (List UInt8)) (k : Nat) (h : w.ownsRow base 9 1 v xs.length (strs xs)) (hl : xs.length ≤ 1048576) (hk0 : 1 ≤ k) (hk : k ≤ 1048576) (hB : B ≤ base) (hB2 : B ≤ w.heap.size) :
    Calls Tryd.prog 15 #[v, .int .i64 k] w fun e w' => e = .returned (.int .i64 ((k : Int) + xs.length)) ∧ (∃ a c, v = .slice a xs.length c ∧ Rd w' w'.heap.size a (strs (mkL xs.length k))) ∧ Below B w w' ∧ w.grownBy w' v.ownBlock := by
  rcases h.2 with ⟨h2, h3⟩ | ⟨g, cap, cur, hv, hg, hh, hn, hm, hs, ht⟩
  · have hz : xs = [] := List.eq_nil_of_length_eq_zero h3
    subst hz
    subst h2
    refine (markStringS_nil w k).mono ?_
    rintro e w' ⟨rfl, rfl⟩
    exact ⟨by simp, ⟨none, 0, rfl, .inl rfl⟩, Below.refl _ _, World.grownBy.refl _ _⟩
  · subst hv
    rw [Nat.mul_one] at ht hs
    have hb : Blk w g (strs xs ++ cur.toList.drop xs.length) 9 := by
      rw [← ht, List.take_append_drop]
      exact hh
    refine (markStringS_blk w g cap 9 xs _ k hb hl hk0 hk).mono ?_
    rintro e w' ⟨rfl, hb', hgr⟩
    refine ⟨rfl, ⟨_, _, rfl, .inr ⟨g, 0, rfl, hb'.lt, fun j hj => ?_⟩⟩, ⟨hgr.os, hgr.tape, hgr.output, hgr.size, fun i hi => hgr.block i (by omega) (fun e => by injection e with e; omega)⟩, hgr⟩
    rw [Nat.zero_add, hb'.cell, List.getElem?_append_left hj]
set_option maxRecDepth 10000 in
set_option maxHeartbeats 4000000 in
theorem heldStringS_any (w : World) (a : Option Addr) (c n k : Nat) (h : Rd w w.heap.size a (strs (mkL n k))) (hl : n ≤ 1048576) (hk0 : 1 ≤ k) (hk : k ≤ 1048576) :
    Calls Tryd.prog 16 #[.slice a n c, .int .i64 k] w fun e w' => e = .returned (.int .i64 ((k : Int) + n)) ∧ Below w.heap.size w w' := by
  have HX := Lib.hid h
  clear h
  go_enter Tryd.func16, Tryd.ntmps16
  go_wp2_with fail
  go_loopw [1, 5] (fun kk i wr => ∃ j : Nat, j ≤ n ∧ i = .int .i64 j ∧ kk = .int .i64 ((k + j : Nat) : Int) ∧ Hid (Below w.heap.size w wr)) (fun _ i _ => n - (intOf i).toNat)
  case atStart => exact ⟨0, Nat.zero_le _, rfl, rfl, Below.refl _ _⟩
  case round =>
    obtain ⟨j, hj, rfl, rfl, hw⟩ := hrel
    have j0 : (0 : Int) ≤ (j : Int) := Int.natCast_nonneg _
    by_cases hlt : j < n
    · have hlt1 : (j : Int) < (n : Int) := by omega
      obtain ⟨b, o, l, ha, hb, hc, hx⟩ := strs_line (HX.out.to hw.out) (k := j) (by simpa using hlt)
      subst ha
      have hx2 := hx.out
      rw [mkL_get n k j hlt] at hx2
      injection hx2 with hx2
      subst hx2
      rw [bs_of] at hc
      have LM := Lib.hid (fun v => markText_any (k + j) (by omega) (by omega) v)
      generalize mtF (k + j) = T at *
      have EE : Hid (wr.cell? ⟨b, o + j, none⟩ = some (.string T)) := hc
      have EX : Hid (wr.drew.cell? ⟨b, o + j, none⟩ = some (.string T)) := hc
      have HW := Lib.hid hw.out
      clear hw hx
      go_wp2_with fail
      go_region_held3 (fun w' => w'.cell? ⟨b, o + j, none⟩ = some (.string T))
        (first | exact EE.out | exact EX.out | exact HQ2.out)
        ((go_at_call 41; refine (LM.out _).mono ?_; rintro e wq ⟨rfl, hbq⟩; have HBq := Lib.hid (below_then (below_drew' HW.out) hbq); have HQ2 : Hid (wq.cell? ⟨b, o + j, none⟩ = some (.string T)) := (hbq.cell (p := ⟨b, o + j, none⟩) hb).trans EX.out))
      all_goals
        clear LM hc
        go_wp2_with fail
        go_roundw
        case rel => exact ⟨j + 1, by omega, by go_num, by go_num, HBq⟩
        case measure => simp [intOf]; omega
    · obtain rfl : j = n := by omega
      go_wp2_with fail
      go_ret
      exact ⟨ret_int (by omega), hw.out⟩
end Go.Proofs.YtiimhpopcgiejaaDoor
