/-
  The law on StoreAll: what its walk answers.
-/
import Derived.Test.YteclpcmbicjjgaaStoreA
import Derived.Test.YteclpcmbicjjgaaSavF
namespace Go.Proofs.Yteclpcmbicjjgaa
set_option linter.unusedVariables false
set_option linter.unusedSimpArgs false
open Go.RowKit

set_option maxRecDepth 10000 in
set_option maxHeartbeats 8000000 in
theorem law_ExactStoreAll (w : World) (a : Option Addr) (cp : Nat) (vs : List Sv) (h : RdSs w w.heap.size a vs) (hl0 : vs.length ≤ 9223372036854775807) (hin0 : ∀ v ∈ vs, SvIn 9223372036854775807 v) :
    Calls Try.prog 6 #[.slice a vs.length cp] w fun e w' => e = .returned (.bool true) ∧ Below w.heap.size w w' := by
  have LZ := Lib.hid (lawSz_SavedS w a cp vs 1048576 h (by omega) (by omega) hl0 hin0)
  have hsp := szSsF_spec (left := 1048576) (vs := vs) (by omega) (by omega)
  have Hh := Lib.hid h
  generalize szSsF 1048576 vs = m at *
  obtain ⟨s1, s2, s3⟩ := hsp
  clear h hl0 hin0
  by_cases hneg : m < 0
  case pos =>
    clear s3
    go_enter Try.func6, Try.ntmps6
    go_wp2_with fail
    refine LZ.out.mono ?_
    rintro e w1 ⟨rfl, hb⟩
    go_wp2_with fail
    go_ret
    exact ⟨rfl, hb⟩
  obtain ⟨hl, hin⟩ := s3 (by omega)
  clear s3
  have Hin := Lib.hid hin
  clear hin
  have LT := Lib.hid (fun v (hr : RdSs v v.heap.size a vs) => lawTo_SavedS v v.heap.size a cp vs hr (Nat.le_refl _) hl Hin.out)
  have LS := Lib.hid (fun v a' c' (hr : RdSs v v.heap.size a' vs) => storeAllR_any v a' c' vs hr hl Hin.out)
  have LI := Lib.hid (fun v a' c' (hr : RdSs v v.heap.size a' vs) => storeAll_any v a' c' vs hr hl Hin.out)
  generalize hr : storeAllF vs = r at *
  clear hr
  obtain ⟨rs, rb⟩ := r
  have hne : (rb != rb) = false := by simp
  go_enter Try.func6, Try.ntmps6
  go_wp2_with fail
  refine LZ.out.mono ?_
  rintro e w1 ⟨rfl, hb⟩
  have B1 := Lib.hid hb
  have H1 := Lib.hid (Hh.out.to hb)
  clear hb LZ
  go_wp2_with fail
  refine (LT.out _ H1.out).mono ?_
  rintro e w2 ⟨a2, c2, rfl, o2, hb⟩
  have B2 := Lib.hid (below_then B1.out hb)
  have H2 := Lib.hid (H1.out.to hb)
  clear hb H1 B1
  go_wp2_with fail
  refine (LS.out _ _ _ o2.rd).mono ?_
  clear o2
  rintro e w3 ⟨rfl, hb⟩
  have B3 := Lib.hid (below_then B2.out hb)
  have H3 := Lib.hid (H2.out.to hb)
  clear hb H2 B2
  go_wp2_with fail
  refine (LT.out _ H3.out).mono ?_
  rintro e w4 ⟨a4, c4, rfl, o4, hb⟩
  have B4 := Lib.hid (below_then B3.out hb)
  have H4 := Lib.hid (H3.out.to hb)
  have X4 := Lib.hid o4.rd
  clear hb H3 B3 o4
  go_wp2_with fail
  refine (LI.out _ _ _ X4.out).mono ?_
  rintro e w5 ⟨rfl, hb⟩
  have B5 := Lib.hid (below_then B4.out hb)
  have H5 := Lib.hid (H4.out.to hb)
  have X5 := Lib.hid (X4.out.to hb)
  clear hb H4 B4 X4
  go_wp2_with fail
  refine (LT.out _ H5.out).mono ?_
  rintro e w6 ⟨a6, c6, rfl, o6, hb⟩
  have B6 := Lib.hid (below_then B5.out hb)
  have X6 := Lib.hid (X5.out.to hb)
  have Y6 := Lib.hid o6.rd
  clear hb H5 B5 X5 o6
  go_wp2_with fail
  refine (lawEq_SavedS _ _ _ _ _ vs X6.out Y6.out hl Hin.out).mono ?_
  rintro e w7 ⟨rfl, hb⟩
  have B7 := below_then B6.out hb
  clear hb
  go_wp2_with fail
  go_ret
  exact ⟨rfl, B7⟩
end Go.Proofs.Yteclpcmbicjjgaa
