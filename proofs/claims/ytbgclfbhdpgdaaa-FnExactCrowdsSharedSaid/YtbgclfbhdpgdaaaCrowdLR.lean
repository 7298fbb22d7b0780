/-
  Loads and costs of the reference; costs of the program.
-/
import Derived.Test.YtbgclfbhdpgdaaaCrowdL
namespace Go.Proofs.Ytbgclfbhdpgdaaa
set_option linter.unusedVariables false
set_option linter.unusedSimpArgs false
open Go.RowKit

theorem idx_cr {C : Cr} (hv : Valid C) {r : Nat} {n : Int} (hr : (r : Int) < C.R) (n1 : 1 ≤ n) (n8 : n ≤ C.U) :
    ∃ J : Nat, (r : Int) * C.U + n - 1 = J ∧ J < C.costs.length ∧ 0 ≤ (r : Int) * C.U ∧ (r : Int) * C.U ≤ 64 := by
  have hu1 := hv.u1
  have hu8 := hv.u8
  have hr8 := hv.r8
  have hcl := hv.clen
  have h1 : ((r : Int) + 1) * C.U ≤ C.R * C.U := Int.mul_le_mul_of_nonneg_right (by omega) (by omega)
  have h2 : 0 ≤ (r : Int) * C.U := Int.mul_nonneg (by omega) (by omega)
  have h3 : (r : Int) * C.U ≤ 8 * 8 := Int.mul_le_mul (by omega) hu8 (by omega) (by omega)
  rw [Int.add_mul, Int.one_mul, Int.mul_comm C.R] at h1
  exact ⟨((r : Int) * C.U + n - 1).toNat, by omega, by omega, h2, by omega⟩
set_option maxHeartbeats 2000000 in
theorem cost_any (w : World) (B : Nat) (U R : Int) (r : Nat) (n : Int) (a2 : Option Addr) (c2 : Nat) (x2 : List Int) (a3 : Option Addr) (c3 : Nat) (x3 : List Int) (h : RdCrowd w B a2 x2 a3 x3) (hB : B ≤ w.heap.size) (hv : Valid ⟨U, R, x2, x3⟩) (hr : (r : Int) < R) (n1 : 1 ≤ n) (n8 : n ≤ U) :
    Calls Try.prog 73 #[.agg #[.int .i64 U, .int .i64 R, .slice a2 x2.length c2, .slice a3 x3.length c3], .int .i64 r, .int .i64 n] w fun e w' => e = .returned (.int .i64 (costF ⟨U, R, x2, x3⟩ r n)) ∧ Below w.heap.size w w' := by
  obtain ⟨J, hJ, hJl, m0, m1⟩ := idx_cr hv (C := ⟨U, R, x2, x3⟩) hr n1 n8
  simp only at hJ hJl m0 m1
  have hu8 := hv.u8
  simp only at hu8
  obtain ⟨b3, o3, y, rfl, hbb, hck, hy⟩ := (h.2.mono hB).get (k := J) hJl
  have HF : Hid (costF ⟨U, R, x2, x3⟩ r n = y) := by
    show _ = _
    unfold costF
    rw [if_neg (by omega)]
    simp only
    rw [hJ, Int.toNat_natCast]
    exact getD_of_get hy.out
  have hbb' : b3 ≠ w.heap.size := by omega
  clear h hv hy
  go_enter Try.func73, Try.ntmps73
  go_wp2_with fail
  go_ret
  exact ⟨ret_int HF.out.symm, bl1 _ _⟩
set_option maxHeartbeats 2000000 in
theorem l06Cost_any (w : World) (B b o : Nat) (U R : Int) (r : Nat) (n : Int) (a3 : Option Addr) (c3 : Nat) (x2 x3 : List Int)
    (d0 : w.cell? ⟨b, o, none⟩ = some (.int .i64 U)) (d3 : w.cell? ⟨b, o + 3, none⟩ = some (.slice a3 x3.length c3))
    (h : Rd w B a3 (ints x3)) (hv : Valid ⟨U, R, x2, x3⟩) (hr : (r : Int) < R) (n0 : 0 ≤ n) (n8 : n ≤ U) :
    Calls Try.prog 92 #[.pointer (some ⟨b, o, none⟩), .int .i64 r, .int .i64 n] w fun e w' => e = .returned (.int .i64 (costF ⟨U, R, x2, x3⟩ r n)) ∧ ∃ m, w' = w.drewN m := by
  by_cases hn : n = 0
  case pos =>
    subst hn
    have HF : Hid (costF ⟨U, R, x2, x3⟩ r 0 = 0) := by show _ = _; unfold costF; rw [if_pos rfl]
    clear h hv
    go_enter Try.func92, Try.ntmps92
    go_wp2_with fail
    go_ret
    exact ⟨ret_int HF.out.symm, 0, rfl⟩
  obtain ⟨J, hJ, hJl, m0, m1⟩ := idx_cr hv (C := ⟨U, R, x2, x3⟩) hr (n := n) (by omega) n8
  simp only at hJ hJl m0 m1
  have hu8 := hv.u8
  simp only at hu8
  obtain ⟨b3, o3, y, rfl, hbb, hck, hy⟩ := h.get (k := J) hJl
  have HF : Hid (costF ⟨U, R, x2, x3⟩ r n = y) := by
    show _ = _
    unfold costF
    rw [if_neg hn]
    simp only
    rw [hJ, Int.toNat_natCast]
    exact getD_of_get hy.out
  have hnd : (n == 0) = false := by simp [hn]
  have hw1 : IntKind.i64.wrap ((r : Int) * U) = (r : Int) * U := IntWalk.i64_in _ (by omega)
  have hw2 : IntKind.i64.wrap ((r : Int) * U + n) = (r : Int) * U + n := IntWalk.i64_in _ (by omega)
  have hw3 : IntKind.i64.wrap ((r : Int) * U + n - 1) = (J : Int) := by rw [hJ]; exact IntWalk.i64_in _ (by omega)
  have hJ0 : (0 : Int) ≤ (J : Int) := by omega
  have hJ1 : (J : Int) < (x3.length : Int) := by omega
  clear h hv hy hn
  go_enter Try.func92, Try.ntmps92
  go_wp2_with fail
  go_quiet (fail)
  go_wp2_with fail
  go_ret
  exact ⟨ret_int HF.out.symm, _, rfl⟩
set_option maxRecDepth 10000 in
set_option maxHeartbeats 4000000 in
theorem l06Loads_any (w : World) (b o : Nat) (U : Int) (n : Nat) (a2 : Option Addr) (c2 : Nat) (x2 x3 : List Int) (a : Option Addr) (c : Nat) (ch : List Int)
    (d1 : w.cell? ⟨b, o + 1, none⟩ = some (.int .i64 n)) (d2 : w.cell? ⟨b, o + 2, none⟩ = some (.slice a2 x2.length c2))
    (h : Rd w w.heap.size a2 (ints x2)) (g : Rd w w.heap.size a (ints ch)) (hc : Can ⟨U, n, x2, x3⟩ ch) :
    Calls Try.prog 91 #[.pointer (some ⟨b, o, none⟩), .slice a ch.length c] w fun e w' => ∃ a' c', e = .returned (.slice a' n c') ∧ OwnI 2 w' w.heap.size w'.heap.size a' c' (loadsL ⟨U, n, x2, x3⟩ n ch) ∧ Below w.heap.size w w' := by
  have hn8 : n ≤ 8 := by have := hc.v.r8; simp only at this; omega
  have hU8 : ch.length ≤ 8 := by have := hc.v.u8; have := hc.len; simp only at *; omega
  have hw8 : x2.length ≤ 8 := hc.v.w8
  have hbw := World.block_lt_of_cell? w _ d1
  simp only at hbw
  have HW := Lib.hid hc.v.way
  have HM := Lib.hid hc.mem
  have h2 := Lib.hid h
  have hg := Lib.hid g
  have D1 := Lib.hid d1
  have D2 := Lib.hid d2
  clear h g hc d2
  obtain ⟨C, hC⟩ : ∃ C : Cr, C = ⟨U, n, x2, x3⟩ := ⟨_, rfl⟩
  have HC := Lib.hid hC
  rw [← hC]
  clear hC
  have Hz : Hid (loadsL C n [] = List.replicate n 0) := loadsL_zero C n
  go_enter Try.func91, Try.ntmps91
  go_wp2_with (at_make; refine wpList_make_blk _ rfl _ _ 22 rfl 2 (.int .i64 0) 8 Try.underlying22 info_i64p rfl _ _ n rfl rfl (by omega) (by unfold maxLen; omega) ?_)
  intro w1 hb1 hw1 hs1
  rw [ints_replicate, ← Hz.out] at hb1
  clear d1
  go_wp2_with fail
  go_loopw [6] (fun i wr => ∃ k : Nat, k ≤ ch.length ∧ i = .int .i64 k ∧ Hid (Blk wr w.heap.size (ints (loadsL C n (ch.take k))) 2) ∧ Below w.heap.size w wr ∧ w.heap.size + 1 ≤ wr.heap.size) (fun i _ => ch.length - (intOf i).toNat)
  case atStart => exact ⟨0, Nat.zero_le _, rfl, hb1, hw1, by omega⟩
  case round =>
    clear hb1 hw1 hs1
    obtain ⟨k, hk, rfl, hb, hw, hsz⟩ := hrel
    obtain ⟨wm, rfl⟩ : ∃ wm : World, wm = wr := ⟨_, rfl⟩
    by_cases hlt : k < ch.length
    · obtain ⟨b1, o1, x, rfl, hbb1, hck0, hx⟩ := hg.out.get hlt
      have Hck := Lib.hid hck0
      clear hck0
      obtain ⟨x0, x8⟩ := HM.out x (List.mem_of_getElem? hx.out)
      obtain ⟨q, rfl⟩ : ∃ q : Nat, x = q := ⟨x.toNat, by omega⟩
      have hq8 : q < x2.length := by (try simp only at x8); omega
      have Htk : Hid (ch.take (k + 1) = ch.take k ++ [(q : Int)]) := by show _ = _; rw [List.take_add_one, hx.out]; rfl
      clear hx
      go_wp2_with fail
      go_loopw [7] (fun i wr => ∃ r : Nat, r ≤ n ∧ i = .int .i64 r ∧ Hid (Blk wr w.heap.size (ints ((loadsL C n (ch.take (k + 1))).take r ++ (loadsL C n (ch.take k)).drop r)) 2) ∧ Below w.heap.size w wr ∧ w.heap.size + 1 ≤ wr.heap.size) (fun i _ => n - (intOf i).toNat)
      case atStart => exact ⟨0, Nat.zero_le _, rfl, (by rw [List.take_zero, List.drop_zero, List.nil_append]; exact hb.out), hw, hsz⟩
      case round =>
        clear hb
        obtain ⟨r, hr, rfl, hb, hw2, hsz2⟩ := hrel
        have q1 := (hw2.cell (p := ⟨b, o + 1, none⟩) hbw).trans D1.out
        by_cases hlr : r < n
        · have q2 := (hw2.cell (p := ⟨b, o + 2, none⟩) hbw).trans D2.out
          have hck := (hw2.cell (p := ⟨b1, o1 + k, none⟩) hbb1).trans Hck.out
          obtain ⟨b3, o3, y, hax, hbb3, hcq, hy⟩ := (h2.out.below hw2 (Nat.le_refl _)).get (k := q) hq8
          subst hax
          obtain ⟨y1, y8⟩ := HW.out _ (List.mem_of_getElem? hy.out)
          have hoc := hb.out.cell r
          have hof := hb.out.free r
          have e1 : (ints ((loadsL C n (ch.take (k + 1))).take r ++ (loadsL C n (ch.take k)).drop r))[r]? = some (.int .i64 (loadF C (ch.take k) r)) := by
            have hl1 : ((loadsL C n (ch.take (k + 1))).take r).length = r := by rw [List.length_take, loadsL_len]; omega
            have h2 : ((loadsL C n (ch.take (k + 1))).take r ++ (loadsL C n (ch.take k)).drop r)[r]? = some (loadF C (ch.take k) r) := by
              rw [List.getElem?_append_right (by omega), hl1, Nat.sub_self, List.getElem?_drop, Nat.add_zero]
              exact loadsL_get hlr
            simp only [ints, List.getElem?_map, h2, Option.map_some]
          rw [e1] at hoc
          have hbit := bit_of (show 0 ≤ y by omega) (show y ≤ 255 by omega) r
          have hb01 : 0 ≤ bitI y r ∧ bitI y r ≤ 1 := by have := bitI_01 y r; omega
          obtain ⟨hb0, hb1⟩ := hb01
          have hnv : Hid (loadF C (ch.take (k + 1)) r = loadF C (ch.take k) r + bitI y r) := by
            show _ = _
            rw [Htk.out, load_snoc, Int.toNat_natCast]
            have : C.ways.getD q 0 = y := by rw [HC.out]; exact getD_of_get hy.out
            rw [this]
          have hld := load_bd C r (ch.take k)
          have hlk : (ch.take k).length ≤ 8 := by simp; omega
          have hset := hb.out.setI r (loadF C (ch.take k) r + bitI y r)
          rw [mix_cr (v := loadF C (ch.take k) r + bitI y r) (by rw [loadsL_len]; exact hlr) (by rw [loadsL_len, loadsL_len]) (by rw [loadsL_get hlr, hnv.out])] at hset
          obtain ⟨ld0, ld1⟩ := hld
          generalize loadF C (ch.take k) r = ld at *
          generalize bitI y r = bi at *
          have HS := Lib.hid hset
          have hw3 := below_sto hw2 (g := w.heap.size) (Nat.le_refl _) r (.int .i64 (ld + bi))
          clear e1 hset hb hy
          go_wp2_with fail
          go_region
          all_goals
            go_wp2_with fail
            go_roundw
            case rel => exact ⟨r + 1, by omega, by go_num, HS.out, below_drew' hw3, by simpa using hsz2⟩
            case measure => simp [intOf]; omega
        · have : r = n := by omega
          subst this
          have hbo := hb.out
          rw [List.drop_of_length_le (by rw [loadsL_len]; exact Nat.le_refl _), List.append_nil, List.take_of_length_le (by rw [loadsL_len]; exact Nat.le_refl _)] at hbo
          have HB := Lib.hid hbo
          clear hbo hb
          go_wp2_with fail
          go_roundw
          case rel => exact ⟨k + 1, by omega, by go_num, HB.out, hw2, hsz2⟩
          case measure => simp [intOf]; omega
    · have : k = ch.length := by omega
      subst this
      have hbo := hb.out
      rw [List.take_length] at hbo
      have HR : Hid (OwnI 2 wm w.heap.size wm.heap.size (some ⟨w.heap.size, 0, none⟩) n (loadsL C n ch)) := by
        have := (OwnI.of_blk hbo (by rw [loadsL_len]; omega)).mono (lo' := w.heap.size) (by omega) (hi' := wm.heap.size) (by omega)
        rwa [loadsL_len] at this
      clear hb hbo
      go_wp2_with fail
      go_ret
      exact ⟨_, _, rfl, HR.out, hw⟩
end Go.Proofs.Ytbgclfbhdpgdaaa
