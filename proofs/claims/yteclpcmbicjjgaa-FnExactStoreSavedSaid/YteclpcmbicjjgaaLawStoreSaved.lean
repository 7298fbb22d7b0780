/-
  The law on StoreSaved: what its walk answers.
-/
import Derived.Test.YteclpcmbicjjgaaSavZ
import Derived.Test.YteclpcmbicjjgaaStoreR
import Derived.Deep.RegionHeld3
namespace Go.Proofs.Yteclpcmbicjjgaa
set_option linter.unusedVariables false
set_option linter.unusedSimpArgs false
open Go.RowKit

set_option maxRecDepth 10000 in
set_option maxHeartbeats 8000000 in
theorem law_ExactStoreSaved (w : World) (s : ByteArray) (R C P : Int) (aA : Option Addr) (cA : Nat) (xA : List Int) (aB : Option Addr) (cB : Nat) (xB : List Int) (aW : Option Addr) (cW : Nat) (xW : List Int) (h : RdSaved w w.heap.size aA xA aB xB aW xW) (hl : s.size ≤ 9223372036854775807 ∧ xA.length ≤ 9223372036854775807 ∧ xB.length ≤ 9223372036854775807 ∧ xW.length ≤ 9223372036854775807) :
    Calls Try.prog 5 #[.agg #[.string s, .int .i64 R, .int .i64 C, .slice aA xA.length cA, .slice aB xB.length cB, .int .i64 P, .slice aW xW.length cW]] w fun e w' => e = .returned (.bool true) ∧ Below w.heap.size w w' := by
  obtain ⟨hS, hA, hB, hW⟩ := hl
  have B0 := Lib.hid (bl1 w (.cells #[.string s, .int .i64 R, .int .i64 C, .slice aA xA.length cA, .slice aB xB.length cB, .int .i64 P, .slice aW xW.length cW] 28))
  have K0 := Lib.hid (Blk.new w [.string s, .int .i64 R, .int .i64 C, .slice aA xA.length cA, .slice aB xB.length cB, .int .i64 P, .slice aW xW.length cW] 28)
  have H0 := Lib.hid (h.to B0.out)
  have Z := Lib.hid (fun v => lawSz_Saved v s R C P aA cA xA aB cB xB aW cW xW 1048576 (by omega) (by omega) hS hA hB hW)
  have hsp := szSavedF_spec (left := 1048576) (n := s.size) (xA := xA) (xB := xB) (xW := xW) (by omega)
  generalize szSavedF 1048576 s.size xA xB xW = m at *
  obtain ⟨s1, s2, s3⟩ := hsp
  clear h hA hB hW
  obtain ⟨z0, z1, z2, z3, z4, z5, z6⟩ := cells7 K0.out
  obtain ⟨v0, hv0⟩ : ∃ W, W = w.alloc (.cells #[.string s, .int .i64 R, .int .i64 C, .slice aA xA.length cA, .slice aB xB.length cB, .int .i64 P, .slice aW xW.length cW] 28) := ⟨_, rfl⟩
  rw [← hv0] at B0 K0 H0
  have HV0 := Lib.hid hv0
  clear hv0
  by_cases hneg : m < 0
  case pos =>
    clear s3
    go_enter Try.func5, Try.ntmps5
    go_wp2_with fail
    rw [← HV0.out]
    refine (Z.out _).mono ?_
    rintro e w1 ⟨rfl, hb⟩
    have B1 := below_then B0.out hb
    clear hb
    go_wp2_with fail
    go_ret
    exact ⟨rfl, B1⟩
  obtain ⟨lS, lA, lB, lW⟩ := s3 (by omega)
  have kS : s.size ≤ 1048576 := by omega
  have kA : xA.length ≤ 1048576 := by omega
  have kB : xB.length ≤ 1048576 := by omega
  have kW : xW.length ≤ 1048576 := by omega
  have LT := Lib.hid (fun v hr => lawTo_Saved v s R C P aA cA xA aB cB xB aW cW xW hr kA kB kW)
  have LS := Lib.hid (fun (v : World) (aA : Option Addr) (cA : Nat) (aB : Option Addr) (cB : Nat) (aW : Option Addr) (cW : Nat) (hr : RdSaved v v.heap.size aA xA aB xB aW xW) => storeSavedR_any v s R C P aA cA xA aB cB xB aW cW xW hr kS kA kB kW)
  have LI := Lib.hid (fun (v : World) (aA : Option Addr) (cA : Nat) (aB : Option Addr) (cB : Nat) (aW : Option Addr) (cW : Nat) (hr : RdSaved v v.heap.size aA xA aB xB aW xW) => storeSaved_any v s R C P aA cA xA aB cB xB aW cW xW hr kS kA kB kW)
  clear s3 lS lA lB lW hS
  have HK := Lib.hid (And.intro kA (And.intro kB kW))
  clear kS kA kB kW
  generalize hr : storeOF s R C xA xB P xW = r at *
  clear hr
  obtain ⟨rs, rb⟩ := r
  have hne : (rb != rb) = false := by simp
  go_enter Try.func5, Try.ntmps5
  go_wp2_with fail
  rw [← HV0.out]
  refine (Z.out _).mono ?_
  rintro e w1 ⟨rfl, hb⟩
  have B1 := Lib.hid (below_then B0.out hb)
  have H1 := Lib.hid (H0.out.to hb)
  have K1 := Lib.hid (K0.out.same hb)
  clear hb z0 z1 z2 z3 z4 z5 z6 B0 H0 K0 
  obtain ⟨z0, z1, z2, z3, z4, z5, z6⟩ := cells7 K1.out
  go_wp2_with fail
  refine (LT.out _ H1.out).mono ?_
  rintro e w2 ⟨aA1, cA1, aB1, cB1, aW1, cW1, rfl, o2, hb⟩
  have B2 := Lib.hid (below_then B1.out hb)
  have H2 := Lib.hid (H1.out.to hb)
  have K2 := Lib.hid (K1.out.same hb)
  clear hb z0 z1 z2 z3 z4 z5 z6 B1 H1 K1 
  obtain ⟨z0, z1, z2, z3, z4, z5, z6⟩ := cells7 K2.out
  go_wp2_with fail
  refine (LS.out _ _ _ _ _ _ _ o2.rd).mono ?_
  clear o2
  rintro e w3 ⟨rfl, hb⟩
  have B3 := Lib.hid (below_then B2.out hb)
  have H3 := Lib.hid (H2.out.to hb)
  have K3 := Lib.hid (K2.out.same hb)
  clear hb z0 z1 z2 z3 z4 z5 z6 B2 H2 K2 
  obtain ⟨z0, z1, z2, z3, z4, z5, z6⟩ := cells7 K3.out
  go_wp2_with fail
  refine (LT.out _ H3.out).mono ?_
  rintro e w4 ⟨aA2, cA2, aB2, cB2, aW2, cW2, rfl, o4, hb⟩
  have X4 := Lib.hid o4.rd
  clear o4
  have B4 := Lib.hid (below_then B3.out hb)
  have H4 := Lib.hid (H3.out.to hb)
  have K4 := Lib.hid (K3.out.same hb)
  clear hb z0 z1 z2 z3 z4 z5 z6 B3 H3 K3 
  obtain ⟨z0, z1, z2, z3, z4, z5, z6⟩ := cells7 K4.out
  go_wp2_with fail
  have hb := bl1 w4 (.cells #[.string s, .int .i64 R, .int .i64 C, .slice aA2 xA.length cA2, .slice aB2 xB.length cB2, .int .i64 P, .slice aW2 xW.length cW2] 34)
  have bk := Blk.new w4 [.string s, .int .i64 R, .int .i64 C, .slice aA2 xA.length cA2, .slice aB2 xB.length cB2, .int .i64 P, .slice aW2 xW.length cW2] 34
  obtain ⟨w5, hw⟩ : ∃ W, W = w4.alloc (.cells #[.string s, .int .i64 R, .int .i64 C, .slice aA2 xA.length cA2, .slice aB2 xB.length cB2, .int .i64 P, .slice aW2 xW.length cW2] 34) := ⟨_, rfl⟩
  rw [← hw] at hb bk
  rw [← hw]
  clear hw
  have J5 := Lib.hid bk
  clear bk
  have B5 := Lib.hid (below_then B4.out hb)
  have H5 := Lib.hid (H4.out.to hb)
  have K5 := Lib.hid (K4.out.same hb)
  have X5 := Lib.hid (X4.out.to hb)
  clear hb z0 z1 z2 z3 z4 z5 z6 B4 H4 K4 X4
  obtain ⟨z0, z1, z2, z3, z4, z5, z6⟩ := cells7 K5.out
  obtain ⟨y0, y1, y2, y3, y4, y5, y6⟩ := cells7 J5.out
  refine (LI.out _ _ _ _ _ _ _ X5.out).mono ?_
  rintro e w6 ⟨rfl, hb⟩
  clear y0 y1 y2 y3 y4 y5 y6
  have B6 := Lib.hid (below_then B5.out hb)
  have H6 := Lib.hid (H5.out.to hb)
  have K6 := Lib.hid (K5.out.same hb)
  have X6 := Lib.hid (X5.out.to hb)
  have J6 := Lib.hid (J5.out.same hb)
  clear hb z0 z1 z2 z3 z4 z5 z6 B5 H5 K5 X5 J5
  obtain ⟨z0, z1, z2, z3, z4, z5, z6⟩ := cells7 K6.out
  obtain ⟨y0, y1, y2, y3, y4, y5, y6⟩ := cells7 J6.out
  go_wp2_with fail
  have hb := below_drew' (Below.refl w6.heap.size w6)
  clear y0 y1 y2 y3 y4 y5 y6
  have B7 := Lib.hid (below_then B6.out hb)
  have H7 := Lib.hid (H6.out.to hb)
  have K7 := Lib.hid (K6.out.same hb)
  have X7 := Lib.hid (X6.out.to hb)
  have J7 := Lib.hid (J6.out.same hb)
  clear hb z0 z1 z2 z3 z4 z5 z6 B6 H6 K6 X6 J6
  obtain ⟨z0, z1, z2, z3, z4, z5, z6⟩ := cells7 K7.out
  obtain ⟨y0, y1, y2, y3, y4, y5, y6⟩ := cells7 J7.out
  go_region_held3 (fun w' => w'.cell? ⟨w4.heap.size, 0, none⟩ = some (.string s) ∧ w'.cell? ⟨w4.heap.size, 1, none⟩ = some (.int .i64 R) ∧ w'.cell? ⟨w4.heap.size, 2, none⟩ = some (.int .i64 C) ∧ w'.cell? ⟨w4.heap.size, 3, none⟩ = some (.slice aA2 xA.length cA2) ∧ w'.cell? ⟨w4.heap.size, 4, none⟩ = some (.slice aB2 xB.length cB2) ∧ w'.cell? ⟨w4.heap.size, 5, none⟩ = some (.int .i64 P) ∧ w'.cell? ⟨w4.heap.size, 6, none⟩ = some (.slice aW2 xW.length cW2) ∧ w'.cell? ⟨w.heap.size, 0, none⟩ = some (.string s) ∧ w'.cell? ⟨w.heap.size, 1, none⟩ = some (.int .i64 R) ∧ w'.cell? ⟨w.heap.size, 2, none⟩ = some (.int .i64 C) ∧ w'.cell? ⟨w.heap.size, 3, none⟩ = some (.slice aA xA.length cA) ∧ w'.cell? ⟨w.heap.size, 4, none⟩ = some (.slice aB xB.length cB) ∧ w'.cell? ⟨w.heap.size, 5, none⟩ = some (.int .i64 P) ∧ w'.cell? ⟨w.heap.size, 6, none⟩ = some (.slice aW xW.length cW))
    (first | go_keep | exact two7 J7.out K7.out | exact two7 (J7.out.same hbq) (K7.out.same hbq) | exact two7 ((J7.out.same hbq).same hbr) ((K7.out.same hbq).same hbr))
    (first | (go_at_call 12; refine (LT.out _ H7.out).mono ?_; rintro e wq ⟨aA3, cA3, aB3, cB3, aW3, cW3, rfl, oq, hbq⟩) | (go_at_call 14; refine (lawEq_Saved _ s R C P _ _ _ _ xA _ _ _ _ xB _ _ _ _ xW (X7.out.to hbq) oq.rd HK.out.1 HK.out.2.1 HK.out.2.2).mono ?_; rintro e wr ⟨rfl, hbr⟩))
  have BF := below_then (below_then B7.out hbq) hbr
  clear hbq hbr oq z0 z1 z2 z3 z4 z5 z6 y0 y1 y2 y3 y4 y5 y6
  go_wp2_with fail
  go_ret
  exact ⟨rfl, BF⟩
end Go.Proofs.Yteclpcmbicjjgaa
