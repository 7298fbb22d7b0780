/-
  Part 18 of what the proof stands on: lemmas and contracts, each with its conditions ahead of the colon.
-/
import Derived.RegionTactic
import Derived.BigRegion
import Derived.Test.YtkbejmjkdnfemaaGreatDoorPk05
import Derived.Test.YtkbejmjkdnfemaaGreatDoorPk07
import Derived.Test.YtkbejmjkdnfemaaGreatDoorPk10
import Derived.Test.YtkbejmjkdnfemaaGreatDoorPk17
namespace Go.Proofs.YtkbejmjkdnfemaaGreatDoor
set_option linter.unusedVariables false
set_option linter.unusedSimpArgs false
open Go.RowKit

end Go.Proofs.YtkbejmjkdnfemaaGreatDoor
namespace Go.Proofs.YtkbejmjkdnfemaaGreatDoor
set_option linter.unusedVariables false
set_option linter.unusedSimpArgs false
open Go.RowKit

end Go.Proofs.YtkbejmjkdnfemaaGreatDoor
namespace Go.Proofs.YtkbejmjkdnfemaaGreatDoor
set_option linter.unusedVariables false
set_option linter.unusedSimpArgs false
open Go.RowKit

set_option maxRecDepth 10000 in
set_option maxHeartbeats 4000000 in
theorem chosen_any (w : World) (U R : Int) (a2 : Option Addr) (c2 : Nat) (x2 : List Int) (a3 : Option Addr) (c3 : Nat) (x3 : List Int) (a : Option Addr) (c : Nat) (ch : List Int) (h : RdCrowd w w.heap.size a2 x2 a3 x3) (hl2 : x2.length ≤ 1048576) (hl3 : x3.length ≤ 1048576) (g : Rd w w.heap.size a (ints ch)) (hl : ch.length ≤ 1048576) :
    Calls Tryz.prog 76 #[.agg #[.int .i64 U, .int .i64 R, .slice a2 x2.length c2, .slice a3 x3.length c3], .slice a ch.length c] w fun e w' => e = .returned (.bool (canB ⟨U, R, x2, x3⟩ ch)) ∧ Below w.heap.size w w' := by
  have LV := Lib.hid (fun w' hb => validCrowd_any w' U R a2 c2 x2 a3 c3 x3 (h.to hb) hl2 hl3)
  have LM := Lib.hid (fun w' hb => areMany_any w' a c ch U U 0 ((x2.length : Int) - 1) (g.to hb) (by omega))
  cases t1 : validB ⟨U, R, x2, x3⟩ with
  | false =>
    have HF : Hid (canB ⟨U, R, x2, x3⟩ ch = false) := by simp [Hid, canB, t1]
    rw [t1] at LV
    clear h g
    go_enter Tryz.func76, Tryz.ntmps76
    go_wp2_with fail
    refine (LV.out _ (bl1 _ _)).mono ?_
    rintro e w1 ⟨rfl, hb1⟩
    have B1 := below_then (bl1 w _) hb1
    clear hb1
    go_wp2_with fail
    go_ret
    exact ⟨ret_bool HF.out.symm, B1⟩
  | true =>
    have HF : Hid (canB ⟨U, R, x2, x3⟩ ch = manyB ch U U 0 ((x2.length : Int) - 1)) := by simp [Hid, canB, t1]
    rw [t1] at LV
    clear h g
    go_enter Tryz.func76, Tryz.ntmps76
    go_wp2_with fail
    refine (LV.out _ (bl1 _ _)).mono ?_
    rintro e w1 ⟨rfl, hb1⟩
    have kA := (Blk.new w [.int .i64 U, .int .i64 R, .slice a2 x2.length c2, .slice a3 x3.length c3] 30).same hb1
    have B1 := below_then (bl1 w (.cells #[.int .i64 U, .int .i64 R, .slice a2 x2.length c2, .slice a3 x3.length c3] 30)) hb1
    have q0 := kA.cell 0
    have q2 := kA.cell 2
    simp only [List.getElem?_cons_zero, List.getElem?_cons_succ] at q0 q2
    have L2 := Lib.hid (LM.out _ B1)
    clear hb1 kA
    go_wp2_with (go_at_call 133; refine L2.out.mono ?_; rintro e w' ⟨rfl, rfl⟩)
    go_ret
    exact ⟨ret_bool HF.out.symm, B1⟩
end Go.Proofs.YtkbejmjkdnfemaaGreatDoor
namespace Go.Proofs.YtkbejmjkdnfemaaGreatDoor
set_option linter.unusedVariables false
set_option linter.unusedSimpArgs false
open Go.RowKit

def loadsL (c : Cr) (n : Nat) (ch : List Int) : List Int := (List.range n).map fun r => loadF c ch r
theorem loadsL_len (c : Cr) (n : Nat) (ch : List Int) : (loadsL c n ch).length = n := by simp [loadsL]
theorem loadsL_get {c : Cr} {n : Nat} {ch : List Int} {r : Nat} (h : r < n) : (loadsL c n ch)[r]? = some (loadF c ch r) := by simp [loadsL, h]
theorem loadsL_zero (c : Cr) (n : Nat) : loadsL c n [] = List.replicate n 0 := by
  apply List.ext_getElem <;> simp [loadsL, loadF]
theorem mix_cr {fo cs : List Int} {k : Nat} {v : Int} (hk : k < cs.length) (hl : fo.length = cs.length) (hv : fo[k]? = some v) : (fo.take k ++ cs.drop k).set k v = fo.take (k + 1) ++ cs.drop (k + 1) := by
  have h1 : (fo.take k).length = k := by simp; omega
  rw [List.set_append_right _ _ (by omega), h1, Nat.sub_self, List.drop_eq_getElem_cons hk, List.set_cons_zero, List.take_add_one, hv]
  simp
theorem and_one (a : Nat) (ha : a < 9223372036854775808) : bits .and .i64 (a : Int) 1 = ((a % 2 : Nat) : Int) := by
  show IntKind.i64.wrap ((BitVec.ofInt 64 (a : Int) &&& BitVec.ofInt 64 (1 : Int)).toNat : Int) = _
  have h1 : (BitVec.ofInt 64 (1 : Int)).toNat = 1 := by decide
  have h2 : (BitVec.ofInt 64 (a : Int)).toNat = a := by rw [BitVec.ofInt_natCast, BitVec.toNat_ofNat]; exact Nat.mod_eq_of_lt (by omega)
  rw [BitVec.toNat_and, h1, h2, show a &&& 1 = a % 2 from Nat.and_two_pow_sub_one_eq_mod a 1]
  exact IntWalk.i64_in _ (by omega)
theorem bit_of {y : Int} (h1 : 0 ≤ y) (h8 : y ≤ 255) (r : Nat) : bits .and .i64 (y / 2 ^ r) 1 = bitI y r := by
  obtain ⟨m, rfl⟩ : ∃ m : Nat, y = m := ⟨y.toNat, by omega⟩
  have e : (m : Int) / 2 ^ r = ((m / 2 ^ r : Nat) : Int) := by simp
  have hle : m / 2 ^ r ≤ m := Nat.div_le_self _ _
  unfold bitI
  rw [e, and_one _ (by omega)]
  omega
set_option maxRecDepth 10000 in
set_option maxHeartbeats 4000000 in
theorem loads_any (w : World) (U : Int) (n : Nat) (a2 : Option Addr) (c2 : Nat) (x2 : List Int) (a3 : Option Addr) (c3 : Nat) (x3 : List Int) (a : Option Addr) (c : Nat) (ch : List Int) (h : RdCrowd w w.heap.size a2 x2 a3 x3) (g : Rd w w.heap.size a (ints ch)) (hc : Can ⟨U, n, x2, x3⟩ ch) :
    Calls Tryz.prog 210 #[.agg #[.int .i64 U, .int .i64 n, .slice a2 x2.length c2, .slice a3 x3.length c3], .slice a ch.length c] w fun e w' => ∃ a' c', e = .returned (.slice a' n c') ∧ OwnI 2 w' w.heap.size w'.heap.size a' c' (loadsL ⟨U, n, x2, x3⟩ n ch) ∧ Below w.heap.size w w' := by
  have hn8 : n ≤ 8 := by have := hc.v.r8; simp only at this; omega
  have hU8 : ch.length ≤ 8 := by have := hc.v.u8; have := hc.len; simp only at *; omega
  have hw8 : x2.length ≤ 8 := hc.v.w8
  have HW := Lib.hid hc.v.way
  have HM := Lib.hid hc.mem
  have h2 := Lib.hid h.1
  have hg := Lib.hid g
  clear h g hc
  obtain ⟨C, hC⟩ : ∃ C : Cr, C = ⟨U, n, x2, x3⟩ := ⟨_, rfl⟩
  have HC := Lib.hid hC
  rw [← hC]
  clear hC
  have Hz : Hid (loadsL C n [] = List.replicate n 0) := loadsL_zero C n
  go_enter Tryz.func210, Tryz.ntmps210
  go_wp2_with (at_make; refine wpList_make_blk _ rfl _ _ 24 rfl 2 (.int .i64 0) 8 Tryz.underlying24 info_i64p rfl _ _ n rfl rfl (by omega) (by unfold maxLen; omega) ?_)
  intro w1 hb1 hw1 hs1
  rw [ints_replicate, ← Hz.out] at hb1
  try simp at hb1
  have kA := (Blk.new w [.int .i64 U, .int .i64 n, .slice a2 x2.length c2, .slice a3 x3.length c3] 30).below hw1 (by omega)
  have B1 := (bl1 w (.cells #[.int .i64 U, .int .i64 n, .slice a2 x2.length c2, .slice a3 x3.length c3] 30)).trans (hw1.mono (by omega))
  have KA := Lib.hid kA
  clear hw1 kA
  go_wp2_with fail
  go_loopw [14] (fun i wr => ∃ k : Nat, k ≤ ch.length ∧ i = .int .i64 k ∧ Hid (Blk wr (w.heap.size + 1) (ints (loadsL C n (ch.take k))) 2) ∧ Hid (Blk wr w.heap.size [.int .i64 U, .int .i64 n, .slice a2 x2.length c2, .slice a3 x3.length c3] 30) ∧ Below w.heap.size w wr ∧ w.heap.size + 2 ≤ wr.heap.size) (fun i _ => ch.length - (intOf i).toNat)
  case atStart => exact ⟨0, Nat.zero_le _, rfl, hb1, KA.out, B1, by omega⟩
  case round =>
    clear hb1 KA B1 hs1
    obtain ⟨k, hk, rfl, hb, hA, hw, hsz⟩ := hrel
    obtain ⟨wm, rfl⟩ : ∃ wm : World, wm = wr := ⟨_, rfl⟩
    have q1 := hA.out.cell 1
    simp only [List.getElem?_cons_zero, List.getElem?_cons_succ] at q1
    by_cases hlt : k < ch.length
    · obtain ⟨b1, o1, x, rfl, hbb1, hck, hx⟩ := (hg.out.below hw (Nat.le_refl _)).get hlt
      obtain ⟨x0, x8⟩ := HM.out x (List.mem_of_getElem? hx.out)
      obtain ⟨q, rfl⟩ : ∃ q : Nat, x = q := ⟨x.toNat, by omega⟩
      have hq8 : q < x2.length := by (try simp only at x8); omega
      have Htk : Hid (ch.take (k + 1) = ch.take k ++ [(q : Int)]) := by show _ = _; rw [List.take_add_one, hx.out]; rfl
      clear hx
      go_wp2_with fail
      go_loopw [20] (fun i wr => ∃ r : Nat, r ≤ n ∧ i = .int .i64 r ∧ Hid (Blk wr (w.heap.size + 1) (ints ((loadsL C n (ch.take (k + 1))).take r ++ (loadsL C n (ch.take k)).drop r)) 2) ∧ Hid (Blk wr w.heap.size [.int .i64 U, .int .i64 n, .slice a2 x2.length c2, .slice a3 x3.length c3] 30) ∧ Below w.heap.size w wr ∧ w.heap.size + 2 ≤ wr.heap.size) (fun i _ => n - (intOf i).toNat)
      case atStart => exact ⟨0, Nat.zero_le _, rfl, (by rw [List.take_zero, List.drop_zero, List.nil_append]; exact hb.out), hA.out, hw, hsz⟩
      case round =>
        clear hb hA q1 hck
        obtain ⟨r, hr, rfl, hb, hA, hw2, hsz2⟩ := hrel
        by_cases hlr : r < n
        · have q2 := hA.out.cell 2
          simp only [List.getElem?_cons_zero, List.getElem?_cons_succ] at q2
          obtain ⟨b3, o3, y, hax, hbb3, hcq, hy⟩ := (h2.out.below hw2 (Nat.le_refl _)).get (k := q) hq8
          subst hax
          obtain ⟨y1, y8⟩ := HW.out _ (List.mem_of_getElem? hy.out)
          have hbit := bit_of (show 0 ≤ y by omega) (show y ≤ 255 by omega) r
          have hb01 : 0 ≤ bitI y r ∧ bitI y r ≤ 1 := by have := bitI_01 y r; omega
          obtain ⟨hb0, hb1⟩ := hb01
          have hnv : Hid (loadF C (ch.take (k + 1)) r = loadF C (ch.take k) r + bitI y r) := by
            show _ = _
            rw [Htk.out, load_snoc, Int.toNat_natCast]
            have : C.ways.getD q 0 = y := by rw [HC.out]; exact getD_of_get hy.out
            rw [this]
          have hoc := hb.out.cell r
          have hof := hb.out.free r
          have e1 : (ints ((loadsL C n (ch.take (k + 1))).take r ++ (loadsL C n (ch.take k)).drop r))[r]? = some (.int .i64 (loadF C (ch.take k) r)) := by
            have hl1 : ((loadsL C n (ch.take (k + 1))).take r).length = r := by rw [List.length_take, loadsL_len]; omega
            have h2 : ((loadsL C n (ch.take (k + 1))).take r ++ (loadsL C n (ch.take k)).drop r)[r]? = some (loadF C (ch.take k) r) := by
              rw [List.getElem?_append_right (by omega), hl1, Nat.sub_self, List.getElem?_drop, Nat.add_zero]
              exact loadsL_get hlr
            simp only [ints, List.getElem?_map, h2, Option.map_some]
          rw [e1] at hoc
          have hld := load_bd C r (ch.take k)
          have hlk : (ch.take k).length ≤ 8 := by simp; omega
          have hset := hb.out.setI r (loadF C (ch.take k) r + bitI y r)
          rw [mix_cr (v := loadF C (ch.take k) r + bitI y r) (by rw [loadsL_len]; exact hlr) (by rw [loadsL_len, loadsL_len]) (by rw [loadsL_get hlr, hnv.out])] at hset
          obtain ⟨ld0, ld1⟩ := hld
          generalize loadF C (ch.take k) r = ld at *
          generalize bitI y r = bi at *
          have HS := Lib.hid hset
          have HA2 := Lib.hid (hA.out.oth (g := w.heap.size + 1) (by omega) r (.int .i64 (ld + bi)))
          have hw3 := below_sto hw2 (g := w.heap.size + 1) (by omega) r (.int .i64 (ld + bi))
          clear e1 hset hb hy
          go_wp2_with fail
          go_region
          all_goals
            go_wp2_with fail
            go_roundw
            case rel => exact ⟨r + 1, by omega, by go_num, HS.out, HA2.out, below_drew' hw3, by simpa using hsz2⟩
            case measure => simp [intOf]; omega
        · have : r = n := by omega
          subst this
          have hbo := hb.out
          rw [List.drop_of_length_le (by rw [loadsL_len]; exact Nat.le_refl _), List.append_nil, List.take_of_length_le (by rw [loadsL_len]; exact Nat.le_refl _)] at hbo
          have HB := Lib.hid hbo
          clear hbo hb
          go_wp2_with fail
          go_roundw
          case rel => exact ⟨k + 1, by omega, by go_num, HB.out, hA.out, hw2, hsz2⟩
          case measure => simp [intOf]; omega
    · have : k = ch.length := by omega
      subst this
      have hbo := hb.out
      rw [List.take_length] at hbo
      have HR : Hid (OwnI 2 wm w.heap.size wm.heap.size (some ⟨w.heap.size + 1, 0, none⟩) n (loadsL C n ch)) := by
        have := (OwnI.of_blk hbo (by rw [loadsL_len]; omega)).mono (lo' := w.heap.size) (by omega) (hi' := wm.heap.size) (by omega)
        rwa [loadsL_len] at this
      clear hb hbo hA
      go_wp2_with fail
      go_ret
      exact ⟨_, _, rfl, HR.out, hw⟩
end Go.Proofs.YtkbejmjkdnfemaaGreatDoor
namespace Go.Proofs.YtkbejmjkdnfemaaGreatDoor
set_option linter.unusedVariables false
set_option linter.unusedSimpArgs false
open Go.RowKit

theorem idx_cr {C : Cr} (hv : Valid C) {r : Nat} {n : Int} (hr : (r : Int) < C.R) (n1 : 1 ≤ n) (n8 : n ≤ C.U) :
    ∃ J : Nat, (r : Int) * C.U + n - 1 = J ∧ J < C.costs.length ∧ 0 ≤ (r : Int) * C.U ∧ (r : Int) * C.U ≤ 64 := by
  have hu1 := hv.u1
  have hu8 := hv.u8
  have hr8 := hv.r8
  have hcl := hv.clen
  have h1 : ((r : Int) + 1) * C.U ≤ C.R * C.U := Int.mul_le_mul_of_nonneg_right (by omega) (by omega)
  have h2 : 0 ≤ (r : Int) * C.U := Int.mul_nonneg (by omega) (by omega)
  have h3 : (r : Int) * C.U ≤ 8 * 8 := Int.mul_le_mul (by omega) hu8 (by omega) (by omega)
  rw [Int.add_mul, Int.one_mul, Int.mul_comm C.R] at h1
  exact ⟨((r : Int) * C.U + n - 1).toNat, by omega, by omega, h2, by omega⟩
set_option maxHeartbeats 2000000 in
theorem cost_any (w : World) (B : Nat) (U R : Int) (r : Nat) (n : Int) (a2 : Option Addr) (c2 : Nat) (x2 : List Int) (a3 : Option Addr) (c3 : Nat) (x3 : List Int) (h : RdCrowd w B a2 x2 a3 x3) (hB : B ≤ w.heap.size) (hv : Valid ⟨U, R, x2, x3⟩) (hr : (r : Int) < R) (n1 : 1 ≤ n) (n8 : n ≤ U) :
    Calls Tryz.prog 211 #[.agg #[.int .i64 U, .int .i64 R, .slice a2 x2.length c2, .slice a3 x3.length c3], .int .i64 r, .int .i64 n] w fun e w' => e = .returned (.int .i64 (costF ⟨U, R, x2, x3⟩ r n)) ∧ Below w.heap.size w w' := by
  obtain ⟨J, hJ, hJl, m0, m1⟩ := idx_cr hv (C := ⟨U, R, x2, x3⟩) hr n1 n8
  simp only at hJ hJl m0 m1
  have hu8 := hv.u8
  simp only at hu8
  obtain ⟨b3, o3, y, rfl, hbb, hck, hy⟩ := (h.2.mono hB).get (k := J) hJl
  have HF : Hid (costF ⟨U, R, x2, x3⟩ r n = y) := by
    show _ = _
    unfold costF
    rw [if_neg (by omega)]
    simp only
    rw [hJ, Int.toNat_natCast]
    exact getD_of_get hy.out
  have hbb' : b3 ≠ w.heap.size := by omega
  clear h hv hy
  go_enter Tryz.func211, Tryz.ntmps211
  go_wp2_with fail
  go_ret
  exact ⟨ret_int HF.out.symm, bl1 _ _⟩
end Go.Proofs.YtkbejmjkdnfemaaGreatDoor
