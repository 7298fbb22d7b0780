/-
  The bytes of what is saved, as the reference reckons them.
-/
import Derived.Test.YteclpcmbicjjgaaStore
namespace Go.Proofs.Yteclpcmbicjjgaa
set_option linter.unusedVariables false
set_option linter.unusedSimpArgs false
open Go.RowKit

set_option maxRecDepth 10000 in
set_option maxHeartbeats 4000000 in
theorem l07Store_any (w : World) (b o : Nat) (s : ByteArray) (R C P : Int) (aA : Option Addr) (cA : Nat) (xA : List Int) (aB : Option Addr) (cB : Nat) (xB : List Int) (aW : Option Addr) (cW : Nat) (xW : List Int)
    (z0 : w.cell? ⟨b, o, none⟩ = some (.string s)) (z1 : w.cell? ⟨b, o + 1, none⟩ = some (.int .i64 R)) (z2 : w.cell? ⟨b, o + 2, none⟩ = some (.int .i64 C)) (z3 : w.cell? ⟨b, o + 3, none⟩ = some (.slice aA xA.length cA)) (z4 : w.cell? ⟨b, o + 4, none⟩ = some (.slice aB xB.length cB)) (z5 : w.cell? ⟨b, o + 5, none⟩ = some (.int .i64 P)) (z6 : w.cell? ⟨b, o + 6, none⟩ = some (.slice aW xW.length cW))
    (h : RdSaved w w.heap.size aA xA aB xB aW xW) (hV : savedB s R C xA xB P xW = true) :
    Calls Try.prog 51 #[.pointer (some ⟨b, o, none⟩)] w fun e w' => e = .returned (.string (bs (storeL s R C xA xB P xW))) ∧ Below w.heap.size w w' := by
  have hblt : b < w.heap.size := World.block_lt_of_cell? w ⟨b, o, none⟩ z0
  have HK : Hid (∀ w', Below w.heap.size w w' → w'.cell? ⟨b, o, none⟩ = some (.string s) ∧ w'.cell? ⟨b, o + 1, none⟩ = some (.int .i64 R) ∧ w'.cell? ⟨b, o + 2, none⟩ = some (.int .i64 C) ∧ w'.cell? ⟨b, o + 1 + 1, none⟩ = some (.int .i64 C) ∧ w'.cell? ⟨b, o + 3, none⟩ = some (.slice aA xA.length cA) ∧ w'.cell? ⟨b, o + 1 + 2, none⟩ = some (.slice aA xA.length cA) ∧ w'.cell? ⟨b, o + 4, none⟩ = some (.slice aB xB.length cB) ∧ w'.cell? ⟨b, o + 1 + 3, none⟩ = some (.slice aB xB.length cB) ∧ w'.cell? ⟨b, o + 5, none⟩ = some (.int .i64 P) ∧ w'.cell? ⟨b, o + 6, none⟩ = some (.slice aW xW.length cW) ∧ w'.cell? ⟨b, o + 5 + 1, none⟩ = some (.slice aW xW.length cW)) := fun w' hb => ⟨(hb.cell hblt).trans z0, (hb.cell hblt).trans z1, (hb.cell hblt).trans z2, (hb.cell hblt).trans z2, (hb.cell hblt).trans z3, (hb.cell hblt).trans z3, (hb.cell hblt).trans z4, (hb.cell hblt).trans z4, (hb.cell hblt).trans z5, (hb.cell hblt).trans z6, (hb.cell hblt).trans z6⟩
  have H := h
  clear z0 z1 z2 z3 z4 z5 z6 h
  obtain ⟨ls, ⟨R0, R1⟩, ⟨C0, C1⟩, ⟨P0, P1⟩, lA, lB, lW, vA, vB, vW⟩ := savedB_spec hV
  have VA := Lib.hid vA
  have VB := Lib.hid vB
  have VW := Lib.hid vW
  clear vA vB vW hV
  have B3 := Lib.hid (bl1 w (.cells #[.int .u8 71, .int .u8 65, .int .u8 77, .int .u8 49] 5 (4, 5)))
  have hcv := Lib.run_convert_bytes_const (P := Try.prog) w 55 5 #[.int .u8 71, .int .u8 65, .int .u8 77, .int .u8 49] 4 4 Try.underlying55 Try.underlying5
  have MC := Lib.hid (cells_mark w 5 (4, 5))
  obtain ⟨z0, z1, z2, z2b, z3, z3b, z4, z4b, z5, z6, z6b⟩ := HK.out _ B3.out
  have e1 := Lib.hid (byteOf_toNat s.size)
  have e2 := Lib.hid (byteOf_toNat R)
  have e3 := Lib.hid (byteOf_toNat C)
  have e4 := Lib.hid (byteOf_toNat P)
  have s0 : (0 : Int) ≤ (s.size : Int) := Int.natCast_nonneg _
  go_enter Try.func51, Try.ntmps51
  go_wp2_with (at_builtin; refine append_fresh _ rfl _ _ 55 rfl w.heap.size 5 Try.underlying55 info_u8T w.heap.size 4 [71, 65, 77, 49] rfl rfl (fun j hj => ((bl1 _ _).cell (by simp)).trans (MC.out j hj)) _ 1 1 [byteOf s.size] rfl rfl (by omega) (blk_byc (blk_one' _ _ (by simp) (by rw [e1.out]; omega))) (by omega) (by simp; omega) ?_)
  intro a4 c4 w4 ho hb
  have hb' : Below w.heap.size _ w4 := hb.mono (by first | omega | (simp; omega) | simp)
  have hb4 : Below w.heap.size w w4 := B3.out.trans (((bl1 _ _).mono (by simp)).trans hb')
  have O4 : Hid (w4.ownsRow w.heap.size 5 1 (.slice a4 5 c4) 5 (byc (headF s))) := ho
  have B4 := Lib.hid hb4
  clear ho hb hb' hb4 z0 z1 z2 z2b z3 z3b z4 z4b z5 z6 z6b B3 MC hcv
  obtain ⟨z0, z1, z2, z2b, z3, z3b, z4, z4b, z5, z6, z6b⟩ := HK.out _ B4.out
  have hs4 := B4.out.size
  have hcv := run_bytes_of_string (P := Try.prog) w4 9 55 5 s Try.underlying9 Try.underlying55 Try.underlying5
  have MC : Hid (∀ j (hj : j < s.data.toList.length), (w4.drew.alloc (.cells (bytesRow s (grownCap w4 s.size 0 5)) 5 ((bytesRow s (grownCap w4 s.size 0 5)).size, (bytesRow s (grownCap w4 s.size 0 5)).size + 1))).cell? ⟨w4.heap.size, j, none⟩ = some (.int .u8 (s.data.toList[j].toNat : Int))) := fun j hj => by
    have := World.cell?_alloc_mark w4.drew (bytesRow s (grownCap w4 s.size 0 5)) 5 ((bytesRow s (grownCap w4 s.size 0 5)).size, (bytesRow s (grownCap w4 s.size 0 5)).size + 1) j
    exact this.trans (bytesRow_at s _ j (by simpa using hj))
  go_wp2_with (at_builtin; refine append_bycC _ rfl _ _ 55 rfl w.heap.size 5 (.int .u8 0) 1 Try.underlying55 info_u8T rfl _ 5 (headF s) rfl ((show w4.drew.ownsRow _ _ _ _ _ _ from O4.out).alloc _) w4.heap.size s.size _ s.data.toList rfl (Lib.size_eq s).symm MC.out (by omega) (by omega) (Nat.le_trans hs4 (by simp)) ?_)
  intro v5 w5 ho hg
  obtain ⟨a5, c5, rfl, _⟩ := own_shape ho
  have hb5 := below_append (Below.refl w.heap.size _) ((show w4.drew.ownsRow _ _ _ _ _ _ from O4.out).alloc _) hg (Nat.le_refl _) (Nat.le_trans hs4 (by simp))
  have B5 := Lib.hid (((below_drew' B4.out).alloc hs4 _).trans hb5)
  have O5 : Hid (w5.ownsRow w.heap.size 5 1 (.slice a5 (5 + s.size) c5) (5 + s.size) (byc (headF s ++ s.data.toList))) := ho
  have hs5 := B5.out.size
  clear ho hg hb5 O4 B4 hs4 hcv MC z0 z1 z2 z2b z3 z3b z4 z4b z5 z6 z6b
  obtain ⟨z0, z1, z2, z2b, z3, z3b, z4, z4b, z5, z6, z6b⟩ := HK.out _ B5.out
  have O5d : Hid (w5.drew.ownsRow w.heap.size 5 1 (.slice a5 (5 + s.size) c5) (5 + s.size) (byc (headF s ++ s.data.toList))) := O5.out
  have B5d := Lib.hid (below_drew' B5.out)
  have hs5d : w.heap.size ≤ w5.drew.heap.size := B5d.out.size
  go_wp2_with fail
  go_region_held_law (fun w' => w'.cell? ⟨b, o, none⟩ = some (.string s) ∧ w'.cell? ⟨b, o + 1, none⟩ = some (.int .i64 R) ∧ w'.cell? ⟨b, o + 2, none⟩ = some (.int .i64 C) ∧ w'.cell? ⟨b, o + 1 + 1, none⟩ = some (.int .i64 C) ∧ w'.cell? ⟨b, o + 3, none⟩ = some (.slice aA xA.length cA) ∧ w'.cell? ⟨b, o + 1 + 2, none⟩ = some (.slice aA xA.length cA) ∧ w'.cell? ⟨b, o + 4, none⟩ = some (.slice aB xB.length cB) ∧ w'.cell? ⟨b, o + 1 + 3, none⟩ = some (.slice aB xB.length cB) ∧ w'.cell? ⟨b, o + 5, none⟩ = some (.int .i64 P) ∧ w'.cell? ⟨b, o + 6, none⟩ = some (.slice aW xW.length cW) ∧ w'.cell? ⟨b, o + 5 + 1, none⟩ = some (.slice aW xW.length cW))
    (first | exact HK.out _ B7.out | go_keep)
    (first
      | (refine step_byc 39 (by rfl) (by rfl) _ _ 55 (by rfl) w.heap.size 5 (.int .u8 0) 1 Try.underlying55 info_u8T (by rfl) _ (5 + s.size) (headF s ++ s.data.toList) (by rfl) (O5d.out.alloc _) _ 2 2 [byteOf R, byteOf C] (by rfl) (by rfl) (by decide) (blk_two' _ _ (by simp) (by first | exact wrap_byte _ | (rw [e2.out]; omega)) (by first | exact wrap_byte _ | (rw [e3.out]; omega))) (by decide) (by omega) (Nat.le_trans hs5d (by simp)) ?_; intro g7 c7 w7 ho7 hg7; have O7 := Lib.hid ho7; have B7 := Lib.hid ((B5d.out.alloc hs5d _).trans (own_below' (O5d.out.alloc _) hg7 (Nat.le_trans hs5d (by simp)))))
      | fail)
  clear z0 z1 z2 z2b z3 z3b z4 z4b z5 z6 z6b
  obtain ⟨z0, z1, z2, z2b, z3, z3b, z4, z4b, z5, z6, z6b⟩ := HK.out _ B7.out
  obtain ⟨L7, hL7⟩ : ∃ L, L = headF s ++ s.data.toList ++ [byteOf R, byteOf C] := ⟨_, rfl⟩
  rw [← hL7] at O7
  obtain ⟨n7, hn7⟩ : ∃ n, n = 5 + s.size + 2 := ⟨_, rfl⟩
  rw [← hn7] at O7
  rw [← hn7]
  have hn7b : n7 ≤ 15 := by omega
  have hn7p : 1 ≤ n7 := by omega
  have HL7 := Lib.hid hL7
  have OP := Lib.hid O7.out
  have BP := Lib.hid B7.out
  clear hL7 hn7 O5 O5d B5 B5d hs5 hs5d e1 e2 e3 ho7 hg7 O7 B7
  have HT1 : Hid (∀ k, k < xA.length → L7 ++ (twoF 1000 (xA.take k) ++ [byteOf (xA.getD k 0 + 1000), byteOf ((xA.getD k 0 + 1000) / 256)]) = L7 ++ twoF 1000 (xA.take (k + 1))) := fun k hk => by rw [twoF_snoc 1000 xA k hk]
  go_wp2_with fail
  go_loopw [46, 3] (fun iv v wr => ∃ (k : Nat) (a' : Option Addr) (c' m : Nat), k ≤ xA.length ∧ m = n7 + 2 * k ∧ iv = .int .i64 k ∧ v = .slice a' m c' ∧ Hid (wr.ownsRow w.heap.size 5 1 (.slice a' m c') m (byc (L7 ++ twoF 1000 (xA.take k)))) ∧ Below w.heap.size w wr) (fun iv _ _ => xA.length - (intOf iv).toNat)
  case atStart => exact ⟨0, _, _, n7, Nat.zero_le _, rfl, rfl, rfl, by simpa [Hid, twoF] using OP.out, BP.out⟩
  case round =>
  obtain ⟨k, a', c', m, hk, hm, rfl, rfl, hO, hw⟩ := hrel
  have hws := hw.size
  have HM := Lib.hid hm
  have HKW := Lib.hid (HK.out _ hw)
  obtain ⟨z0, z1, z2, z2b, z3, z3b, z4, z4b, z5, z6, z6b⟩ := HKW.out
  by_cases hlt : k < xA.length
  · have hks : (k : Int) < (xA.length : Int) := by omega
    have k0 : (0 : Int) ≤ (k : Int) := Int.natCast_nonneg _
    obtain ⟨v0, v1⟩ := VA.out k hlt
    have HTk := Lib.hid (HT1.out k hlt)
    obtain ⟨bX, oX, hbX, hlX, hcX⟩ := (H.A.below hw (Nat.le_refl _)).at hlt
    have hck := hcX k hlt
    cases hbX
    generalize xA.getD k 0 = x at *
    have hm2 : m ≤ 400 := by omega
    have L2 := Lib.hid (l07Two_any wr w.heap.size hws a' m c' _ hO.out (by omega) (x + 1000) v0 v1)
    clear hm hcX
    go_wp2_with fail
    refine L2.out.mono ?_
    rintro e w2 ⟨a2, c2, rfl, ho2, hb2⟩
    rw [List.append_assoc, HTk.out] at ho2
    have HO2 := Lib.hid ho2
    have hw2 := hw.trans hb2
    clear ho2 hb2 hO L2 z0 z1 z2 z2b z3 z3b z4 z4b z5 z6 z6b
    go_wp2_with fail
    go_roundw
    case rel => exact ⟨k + 1, a2, c2, m + 2, by omega, by have := HM.out; omega, by go_num, rfl, HO2.out, hw2⟩
    case measure => first | (simp [intOf]; done) | (simp [intOf]; omega)
  have : k = xA.length := by omega
  subst this
  have hOx := hO.out
  rw [List.take_length] at hOx
  obtain ⟨l1, hl1⟩ : ∃ L, L = L7 ++ twoF 1000 xA := ⟨_, rfl⟩
  rw [← hl1] at hOx
  have HL1 := Lib.hid hl1
  have OP := Lib.hid hOx
  have BP := Lib.hid hw
  have hmb : m ≤ n7 + 128 := by omega
  have hmp : 1 ≤ m := by omega
  clear hOx hO hl1 hm hw HM HKW HT1
  obtain ⟨w1, hw1⟩ : ∃ W : World, W = wr := ⟨_, rfl⟩
  subst hw1
  obtain ⟨p1, hp1⟩ : ∃ P, P = m := ⟨_, rfl⟩
  subst hp1
  obtain ⟨q1, hq1⟩ : ∃ P, P = a' := ⟨_, rfl⟩
  subst hq1
  have HT2 : Hid (∀ k, k < xB.length → l1 ++ (twoF 1000 (xB.take k) ++ [byteOf (xB.getD k 0 + 1000), byteOf ((xB.getD k 0 + 1000) / 256)]) = l1 ++ twoF 1000 (xB.take (k + 1))) := fun k hk => by rw [twoF_snoc 1000 xB k hk]
  go_wp2_with fail
  go_loopw [67, 3] (fun iv v wr => ∃ (k : Nat) (a' : Option Addr) (c' m : Nat), k ≤ xB.length ∧ m = p1 + 2 * k ∧ iv = .int .i64 k ∧ v = .slice a' m c' ∧ Hid (wr.ownsRow w.heap.size 5 1 (.slice a' m c') m (byc (l1 ++ twoF 1000 (xB.take k)))) ∧ Below w.heap.size w wr) (fun iv _ _ => xB.length - (intOf iv).toNat)
  case atStart => exact ⟨0, _, _, p1, Nat.zero_le _, rfl, rfl, rfl, by simpa [Hid, twoF] using OP.out, BP.out⟩
  case round =>
  obtain ⟨k, a', c', m, hk, hm, rfl, rfl, hO, hw⟩ := hrel
  have hws := hw.size
  have HM := Lib.hid hm
  have HKW := Lib.hid (HK.out _ hw)
  obtain ⟨z0, z1, z2, z2b, z3, z3b, z4, z4b, z5, z6, z6b⟩ := HKW.out
  by_cases hlt : k < xB.length
  · have hks : (k : Int) < (xB.length : Int) := by omega
    have k0 : (0 : Int) ≤ (k : Int) := Int.natCast_nonneg _
    obtain ⟨v0, v1⟩ := VB.out k hlt
    have HTk := Lib.hid (HT2.out k hlt)
    obtain ⟨bX, oX, hbX, hlX, hcX⟩ := (H.B.below hw (Nat.le_refl _)).at hlt
    have hck := hcX k hlt
    cases hbX
    generalize xB.getD k 0 = x at *
    have hm2 : m ≤ 400 := by omega
    have L2 := Lib.hid (l07Two_any wr w.heap.size hws a' m c' _ hO.out (by omega) (x + 1000) v0 v1)
    clear hm hcX
    go_wp2_with fail
    refine L2.out.mono ?_
    rintro e w2 ⟨a2, c2, rfl, ho2, hb2⟩
    rw [List.append_assoc, HTk.out] at ho2
    have HO2 := Lib.hid ho2
    have hw2 := hw.trans hb2
    clear ho2 hb2 hO L2 z0 z1 z2 z2b z3 z3b z4 z4b z5 z6 z6b
    go_wp2_with fail
    go_roundw
    case rel => exact ⟨k + 1, a2, c2, m + 2, by omega, by have := HM.out; omega, by go_num, rfl, HO2.out, hw2⟩
    case measure => first | (simp [intOf]; done) | (simp [intOf]; omega)
  have : k = xB.length := by omega
  subst this
  have hOx := hO.out
  rw [List.take_length] at hOx
  obtain ⟨l2, hl2⟩ : ∃ L, L = l1 ++ twoF 1000 xB := ⟨_, rfl⟩
  rw [← hl2] at hOx
  have HL2 := Lib.hid hl2
  have OP := Lib.hid hOx
  have BP := Lib.hid hw
  have hmb : m ≤ p1 + 128 := by omega
  have hmp : 1 ≤ m := by omega
  clear hOx hO hl2 hm hw HM HKW HT2
  obtain ⟨w2, hw2⟩ : ∃ W : World, W = wr := ⟨_, rfl⟩
  subst hw2
  obtain ⟨p2, hp2⟩ : ∃ P, P = m := ⟨_, rfl⟩
  subst hp2
  obtain ⟨q2, hq2⟩ : ∃ P, P = a' := ⟨_, rfl⟩
  subst hq2
  have hs2 := BP.out.size
  go_wp2_with (at_builtin; refine append_byc _ rfl _ _ 55 rfl w.heap.size 5 (.int .u8 0) 1 Try.underlying55 info_u8T rfl _ p2 l2 rfl (OP.out.alloc _) w2.heap.size 1 1 [byteOf P] rfl rfl (blk_one' _ _ rfl (by rw [e4.out]; omega)) (by omega) (by omega) (Nat.le_trans hs2 (by simp)) ?_)
  intro v9 w9 ho9 hg9
  obtain ⟨a9, c9, rfl, _⟩ := own_shape ho9
  have hb9 := below_append (Below.refl w.heap.size _) (OP.out.alloc _) hg9 (Nat.le_refl _) (Nat.le_trans hs2 (by simp))
  have BP9 := Lib.hid ((BP.out.alloc hs2 _).trans hb9)
  clear BP OP
  have BP := Lib.hid BP9.out
  have OP := Lib.hid ho9
  clear ho9 hg9 hb9 BP9 hs2 z0 z1 z2 z2b z3 z3b z4 z4b z5 z6 z6b
  obtain ⟨z0, z1, z2, z2b, z3, z3b, z4, z4b, z5, z6, z6b⟩ := HK.out _ BP.out
  obtain ⟨l9, hl9⟩ : ∃ L, L = l2 ++ [byteOf P] := ⟨_, rfl⟩
  rw [← hl9] at OP
  have HL9 := Lib.hid hl9
  obtain ⟨p9, hp9⟩ : ∃ n, n = p2 + 1 := ⟨_, rfl⟩
  rw [← hp9] at OP
  rw [← hp9]
  have hp9b : p9 ≤ 272 := by omega
  have hp9p : 1 ≤ p9 := by omega
  clear hl9 hp9
  have HT3 : Hid (∀ k, k < xW.length → l9 ++ (twoF 10000 (xW.take k) ++ [byteOf (xW.getD k 0 + 10000), byteOf ((xW.getD k 0 + 10000) / 256)]) = l9 ++ twoF 10000 (xW.take (k + 1))) := fun k hk => by rw [twoF_snoc 10000 xW k hk]
  go_wp2_with fail
  go_loopw [97, 3] (fun iv v wr => ∃ (k : Nat) (a' : Option Addr) (c' m : Nat), k ≤ xW.length ∧ m = p9 + 2 * k ∧ iv = .int .i64 k ∧ v = .slice a' m c' ∧ Hid (wr.ownsRow w.heap.size 5 1 (.slice a' m c') m (byc (l9 ++ twoF 10000 (xW.take k)))) ∧ Below w.heap.size w wr) (fun iv _ _ => xW.length - (intOf iv).toNat)
  case atStart => exact ⟨0, _, _, p9, Nat.zero_le _, rfl, rfl, rfl, by simpa [Hid, twoF] using OP.out, BP.out⟩
  case round =>
  obtain ⟨k, a', c', m, hk, hm, rfl, rfl, hO, hw⟩ := hrel
  have hws := hw.size
  have HM := Lib.hid hm
  have HKW := Lib.hid (HK.out _ hw)
  obtain ⟨z0, z1, z2, z2b, z3, z3b, z4, z4b, z5, z6, z6b⟩ := HKW.out
  by_cases hlt : k < xW.length
  · have hks : (k : Int) < (xW.length : Int) := by omega
    have k0 : (0 : Int) ≤ (k : Int) := Int.natCast_nonneg _
    obtain ⟨v0, v1⟩ := VW.out k hlt
    have HTk := Lib.hid (HT3.out k hlt)
    obtain ⟨bX, oX, hbX, hlX, hcX⟩ := (H.W.below hw (Nat.le_refl _)).at hlt
    have hck := hcX k hlt
    cases hbX
    generalize xW.getD k 0 = x at *
    have hm2 : m ≤ 400 := by omega
    have L2 := Lib.hid (l07Two_any wr w.heap.size hws a' m c' _ hO.out (by omega) (x + 10000) v0 v1)
    clear hm hcX
    go_wp2_with fail
    refine L2.out.mono ?_
    rintro e w2 ⟨a2, c2, rfl, ho2, hb2⟩
    rw [List.append_assoc, HTk.out] at ho2
    have HO2 := Lib.hid ho2
    have hw2 := hw.trans hb2
    clear ho2 hb2 hO L2 z0 z1 z2 z2b z3 z3b z4 z4b z5 z6 z6b
    go_wp2_with fail
    go_roundw
    case rel => exact ⟨k + 1, a2, c2, m + 2, by omega, by have := HM.out; omega, by go_num, rfl, HO2.out, hw2⟩
    case measure => first | (simp [intOf]; done) | (simp [intOf]; omega)
  have : k = xW.length := by omega
  subst this
  have hOx := hO.out
  rw [List.take_length] at hOx
  obtain ⟨l3, hl3⟩ : ∃ L, L = l9 ++ twoF 10000 xW := ⟨_, rfl⟩
  rw [← hl3] at hOx
  have HL3 := Lib.hid hl3
  have OP := Lib.hid hOx
  have BP := Lib.hid hw
  have hmb : m ≤ p9 + 128 := by omega
  have hmp : 1 ≤ m := by omega
  clear hOx hO hl3 hm hw HM HKW HT3
  obtain ⟨w3, hw3⟩ : ∃ W : World, W = wr := ⟨_, rfl⟩
  subst hw3
  obtain ⟨p3, hp3⟩ : ∃ P, P = m := ⟨_, rfl⟩
  subst hp3
  obtain ⟨q3, hq3⟩ : ∃ P, P = a' := ⟨_, rfl⟩
  subst hq3
  have HB : Hid (bodyF s R C xA xB P xW = l3) := by rw [Hid, HL3.out, HL9.out, HL2.out, HL1.out, HL7.out]; rfl
  have hlen : l3.length = p3 := by simpa using OP.out.1
  have hsz : (bs l3).size ≤ 1099511627776 := by rw [bs_size]; omega
  have hck := chkF_bd l3 0 (by omega) (by omega)
  have HS : Hid (storeL s R C xA xB P xW = l3 ++ [byteOf (chkF 0 l3), byteOf (chkF 0 l3 / 256)]) := by rw [Hid, storeL, HB.out]
  have hcv := str_of_own (P := Try.prog) OP.out hmp Try.underlying55 Try.underlying5 Try.underlying9
  have LC := Lib.hid (l01Check_any 0 (by omega) (by omega) (bs l3) hsz w3)
  rw [bs_list] at LC
  generalize chkF 0 l3 = ck at *
  have f1 := Lib.hid (byteOf_toNat ck)
  have f2 := Lib.hid (byteOf_toNat (ck / 256))
  have hs3 := BP.out.size
  go_wp2_with fail
  refine LC.out.mono ?_
  rintro e w12 ⟨rfl, rfl⟩
  clear hcv z0 z1 z2 z2b z3 z3b z4 z4b z5 z6 z6b
  go_wp2_with (at_builtin; refine append_byc _ rfl _ _ 55 rfl w.heap.size 5 (.int .u8 0) 1 Try.underlying55 info_u8T rfl _ p3 l3 rfl (OP.out.alloc _) _ 2 2 [byteOf ck, byteOf (ck / 256)] rfl rfl (blk_two' _ _ rfl (by rw [f1.out]) (by rw [f2.out]; omega)) (by omega) (by omega) (Nat.le_trans hs3 (by simp)) ?_)
  intro v13 w13 ho13 hg13
  obtain ⟨a13, c13, rfl, _⟩ := own_shape ho13
  have hb13 := below_append (Below.refl w.heap.size _) (OP.out.alloc _) hg13 (Nat.le_refl _) (Nat.le_trans hs3 (by simp))
  have BF := (BP.out.alloc hs3 _).trans hb13
  have hcv := str_of_own (P := Try.prog) ho13 (by omega) Try.underlying55 Try.underlying5 Try.underlying9
  rw [← HS.out] at hcv
  clear ho13 hg13 hb13 HS HB LC
  go_wp2_with fail
  go_ret
  exact ⟨rfl, BF⟩
set_option maxRecDepth 10000 in
set_option maxHeartbeats 4000000 in
theorem storeSavedR_any (w : World) (s : ByteArray) (R C P : Int) (aA : Option Addr) (cA : Nat) (xA : List Int) (aB : Option Addr) (cB : Nat) (xB : List Int) (aW : Option Addr) (cW : Nat) (xW : List Int) (h : RdSaved w w.heap.size aA xA aB xB aW xW) (ls : s.size ≤ 1048576) (lA : xA.length ≤ 1048576) (lB : xB.length ≤ 1048576) (lW : xW.length ≤ 1048576) :
    Calls Try.prog 20 #[.agg #[.string s, .int .i64 R, .int .i64 C, .slice aA xA.length cA, .slice aB xB.length cB, .int .i64 P, .slice aW xW.length cW]] w fun e w' => e = .returned (.tuple #[.string (storeOF s R C xA xB P xW).1, .bool (storeOF s R C xA xB P xW).2]) ∧ Below w.heap.size w w' := by
  have B0 := Lib.hid (bl1 w (.cells #[.string s, .int .i64 R, .int .i64 C, .slice aA xA.length cA, .slice aB xB.length cB, .int .i64 P, .slice aW xW.length cW] 34))
  have K0 := Lib.hid (Blk.new w [.string s, .int .i64 R, .int .i64 C, .slice aA xA.length cA, .slice aB xB.length cB, .int .i64 P, .slice aW xW.length cW] 34)
  have H0 := Lib.hid (h.to B0.out)
  have LV := Lib.hid (l07Saved_any _ w.heap.size 0 s R C P aA cA xA aB cB xB aW cW xW (K0.out.cell 0) (K0.out.cell 1) (K0.out.cell 2) (K0.out.cell 3) (K0.out.cell 4) (K0.out.cell 5) (K0.out.cell 6) H0.out ls lA lB lW)
  clear h ls lA lB lW
  cases hV : savedB s R C xA xB P xW with
  | false =>
    have HF : Hid (storeOF s R C xA xB P xW = (⟨#[]⟩, false)) := by simp [Hid, storeOF, hV]
    rw [hV] at LV
    clear hV
    go_enter Try.func20, Try.ntmps20
    go_wp2_with fail
    refine LV.out.mono ?_
    rintro e w1 ⟨rfl, n, rfl⟩
    have B1 := below_drewN B0.out n
    go_wp2_with fail
    go_ret2
    exact ⟨by rw [HF.out]; rfl, B1⟩
  | true =>
    have HF : Hid (storeOF s R C xA xB P xW = (bs (storeL s R C xA xB P xW), true)) := by simp [Hid, storeOF, hV]
    rw [hV] at LV
    have LS := Lib.hid (fun n => let W := (w.alloc (.cells #[.string s, .int .i64 R, .int .i64 C, .slice aA xA.length cA, .slice aB xB.length cB, .int .i64 P, .slice aW xW.length cW] 34)).drewN n
      l07Store_any W w.heap.size 0 s R C P aA cA xA aB cB xB aW cW xW (K0.out.cell 0) (K0.out.cell 1) (K0.out.cell 2) (K0.out.cell 3) (K0.out.cell 4) (K0.out.cell 5) (K0.out.cell 6) (H0.out.to (drewN_below _ n)) hV)
    clear hV
    go_enter Try.func20, Try.ntmps20
    go_wp2_with fail
    refine LV.out.mono ?_
    rintro e w1 ⟨rfl, n, rfl⟩
    have B1 := Lib.hid (below_drewN B0.out n)
    go_wp2_with fail
    refine (LS.out n).mono ?_
    rintro e w2 ⟨rfl, hb⟩
    have B2 := below_then B1.out hb
    clear hb
    go_wp2_with fail
    go_ret2
    exact ⟨by rw [HF.out]; rfl, B2⟩
end Go.Proofs.Yteclpcmbicjjgaa
