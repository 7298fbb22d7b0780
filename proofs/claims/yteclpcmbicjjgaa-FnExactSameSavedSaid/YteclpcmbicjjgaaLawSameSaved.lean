/-
  The law on SameSaved: what its walk answers.
-/
import Derived.Test.YteclpcmbicjjgaaSavSameR
import Derived.Test.YteclpcmbicjjgaaSavF
namespace Go.Proofs.Yteclpcmbicjjgaa
set_option linter.unusedVariables false
set_option linter.unusedSimpArgs false
open Go.RowKit

set_option maxRecDepth 10000 in
set_option maxHeartbeats 8000000 in
theorem law_ExactSameSaved (w : World) (a : Option Addr) (cp : Nat) (vs : List Sv) (b : Option Addr) (dp : Nat) (us : List Sv) (h : RdSs w w.heap.size a vs) (hl0 : vs.length ≤ 9223372036854775807) (hin0 : ∀ v ∈ vs, SvIn 9223372036854775807 v) (g : RdSs w w.heap.size b us) (hl1 : us.length ≤ 9223372036854775807) (hin1 : ∀ v ∈ us, SvIn 9223372036854775807 v) :
    Calls Try.prog 4 #[.slice a vs.length cp, .slice b us.length dp] w fun e w' => e = .returned (.bool true) ∧ Below w.heap.size w w' := by
  have LZ := Lib.hid (lawSz_SavedS w a cp vs 1048576 h (by omega) (by omega) hl0 hin0)
  have hsp := szSsF_spec (left := 1048576) (vs := vs) (by omega) (by omega)
  have Hh := Lib.hid h
  have Hg := Lib.hid g
  generalize szSsF 1048576 vs = m at *
  obtain ⟨s1, s2, s3⟩ := hsp
  clear h g hl0 hin0
  by_cases hneg : m < 0
  case pos =>
    clear s3 hin1
    go_enter Try.func4, Try.ntmps4
    go_wp2_with fail
    refine LZ.out.mono ?_
    rintro e w1 ⟨rfl, hb⟩
    go_wp2_with fail
    go_ret
    exact ⟨rfl, hb⟩
  obtain ⟨hl, hin⟩ := s3 (by omega)
  clear s3
  have Hin := Lib.hid hin
  clear hin
  have LZ2 := Lib.hid (fun v hb => lawSz_SavedS v b dp us m (Hg.out.to hb) (by omega) (by omega) hl1 hin1)
  have hsp := szSsF_spec (left := m) (vs := us) (by omega) (by omega)
  generalize szSsF m us = n at *
  obtain ⟨t1, t2, t3⟩ := hsp
  clear hl1 hin1
  by_cases hneg2 : n < 0
  case pos =>
    clear t3
    go_enter Try.func4, Try.ntmps4
    go_wp2_with fail
    refine LZ.out.mono ?_
    rintro e w1 ⟨rfl, hb⟩
    have L2 := Lib.hid (LZ2.out _ hb)
    have B1 := Lib.hid hb
    clear hb
    go_wp2_with fail
    refine L2.out.mono ?_
    rintro e w2 ⟨rfl, hb⟩
    have B2 := below_then B1.out hb
    clear hb
    go_wp2_with fail
    go_ret
    exact ⟨rfl, B2⟩
  obtain ⟨hl2, hin2⟩ := t3 (by omega)
  clear t3
  have Hin2 := Lib.hid hin2
  clear hin2
  have LA := Lib.hid (fun v (hr : RdSs v v.heap.size a vs) => lawTo_SavedS v v.heap.size a cp vs hr (Nat.le_refl _) hl Hin.out)
  have LB := Lib.hid (fun v (hr : RdSs v v.heap.size b us) => lawTo_SavedS v v.heap.size b dp us hr (Nat.le_refl _) hl2 Hin2.out)
  have LS := Lib.hid (fun v a' b' c' d' (hr : RdSs v v.heap.size a' vs) (hs : RdSs v v.heap.size b' us) => sameSavedR_any v a' b' c' d' vs us hr hs hl hl2 Hin.out Hin2.out)
  have LI := Lib.hid (fun v a' b' c' d' (hr : RdSs v v.heap.size a' vs) (hs : RdSs v v.heap.size b' us) => sameSaved_any v a' b' c' d' vs us hr hs hl hl2 Hin.out Hin2.out)
  generalize hr : sameSs vs us = r at *
  clear hr
  have hne : (r != r) = false := by simp
  go_enter Try.func4, Try.ntmps4
  go_wp2_with fail
  refine LZ.out.mono ?_
  rintro e w1 ⟨rfl, hb⟩
  have B1 := Lib.hid hb
  have L2 := Lib.hid (LZ2.out _ hb)
  have H1 := Lib.hid (Hh.out.to hb)
  have G1 := Lib.hid (Hg.out.to hb)
  clear hb LZ LZ2
  go_wp2_with fail
  refine L2.out.mono ?_
  rintro e w2 ⟨rfl, hb⟩
  have B2 := Lib.hid (below_then B1.out hb)
  have H2 := Lib.hid (H1.out.to hb)
  have G2 := Lib.hid (G1.out.to hb)
  clear hb H1 G1 B1 L2
  go_wp2_with fail
  refine (LA.out _ H2.out).mono ?_
  rintro e w3 ⟨a3, c3, rfl, o3, hb⟩
  have B3 := Lib.hid (below_then B2.out hb)
  have H3 := Lib.hid (H2.out.to hb)
  have G3 := Lib.hid (G2.out.to hb)
  have X3 := Lib.hid o3.rd
  clear hb H2 G2 B2 o3
  go_wp2_with fail
  refine (LB.out _ G3.out).mono ?_
  rintro e w4 ⟨a4, c4, rfl, o4, hb⟩
  have B4 := Lib.hid (below_then B3.out hb)
  have H4 := Lib.hid (H3.out.to hb)
  have G4 := Lib.hid (G3.out.to hb)
  have X4 := Lib.hid (X3.out.to hb)
  have Y4 := Lib.hid o4.rd
  clear hb H3 G3 B3 X3 o4
  go_wp2_with fail
  refine (LS.out _ _ _ _ _ X4.out Y4.out).mono ?_
  rintro e w5 ⟨rfl, hb⟩
  have B5 := Lib.hid (below_then B4.out hb)
  have H5 := Lib.hid (H4.out.to hb)
  have G5 := Lib.hid (G4.out.to hb)
  clear hb H4 G4 B4 X4 Y4
  go_wp2_with fail
  refine (LA.out _ H5.out).mono ?_
  rintro e w6 ⟨a6, c6, rfl, o6, hb⟩
  have B6 := Lib.hid (below_then B5.out hb)
  have H6 := Lib.hid (H5.out.to hb)
  have G6 := Lib.hid (G5.out.to hb)
  have X6 := Lib.hid o6.rd
  clear hb H5 G5 B5 o6
  go_wp2_with fail
  refine (LB.out _ G6.out).mono ?_
  rintro e w7 ⟨a7, c7, rfl, o7, hb⟩
  have B7 := Lib.hid (below_then B6.out hb)
  have H7 := Lib.hid (H6.out.to hb)
  have G7 := Lib.hid (G6.out.to hb)
  have X7 := Lib.hid (X6.out.to hb)
  have Y7 := Lib.hid o7.rd
  clear hb H6 G6 B6 X6 o7
  go_wp2_with fail
  refine (LI.out _ _ _ _ _ X7.out Y7.out).mono ?_
  rintro e w8 ⟨rfl, hb⟩
  have B8 := Lib.hid (below_then B7.out hb)
  have H8 := Lib.hid (H7.out.to hb)
  have G8 := Lib.hid (G7.out.to hb)
  have X8 := Lib.hid (X7.out.to hb)
  have Y8 := Lib.hid (Y7.out.to hb)
  clear hb H7 G7 B7 X7 Y7
  go_wp2_with fail
  refine (LA.out _ H8.out).mono ?_
  rintro e w9 ⟨a9, c9, rfl, o9, hb⟩
  have B9 := Lib.hid (below_then B8.out hb)
  have G9 := Lib.hid (G8.out.to hb)
  have X9 := Lib.hid (X8.out.to hb)
  have Y9 := Lib.hid (Y8.out.to hb)
  have Z9 := Lib.hid o9.rd
  clear hb H8 G8 B8 X8 Y8 o9
  go_wp2_with fail
  refine (lawEq_SavedS _ _ _ _ _ vs X9.out Z9.out hl Hin.out).mono ?_
  rintro e w10 ⟨rfl, hb⟩
  have B10 := Lib.hid (below_then B9.out hb)
  have G10 := Lib.hid (G9.out.to hb)
  have Y10 := Lib.hid (Y9.out.to hb)
  clear hb G9 B9 X9 Y9 Z9
  go_wp2_with fail
  refine (LB.out _ G10.out).mono ?_
  rintro e w11 ⟨a11, c11, rfl, o11, hb⟩
  have B11 := Lib.hid (below_then B10.out hb)
  have Y11 := Lib.hid (Y10.out.to hb)
  have Z11 := Lib.hid o11.rd
  clear hb G10 B10 Y10 o11
  go_wp2_with fail
  refine (lawEq_SavedS _ _ _ _ _ us Y11.out Z11.out hl2 Hin2.out).mono ?_
  rintro e w12 ⟨rfl, hb⟩
  have B12 := below_then B11.out hb
  clear hb
  go_wp2_with fail
  go_ret
  exact ⟨rfl, B12⟩
end Go.Proofs.Yteclpcmbicjjgaa
