/-
  FnExactLoadSaved answers true: the law's walk.
-/
import Derived.Test.YteclpcmbicjjgaaMarkT
namespace Go.Proofs.Yteclpcmbicjjgaa
set_option linter.unusedVariables false
set_option linter.unusedSimpArgs false
open Go.RowKit

def cellsV (v : Sv) (aA : Option Addr) (cA : Nat) (aB : Option Addr) (cB : Nat) (aW : Option Addr) (cW : Nat) : List Value := [.string v.s, .int .i64 v.R, .int .i64 v.C, .slice aA v.A.length cA, .slice aB v.B.length cB, .int .i64 v.P, .slice aW v.W.length cW]
set_option maxRecDepth 10000 in
set_option maxHeartbeats 8000000 in
theorem law_ExactLoadSaved (w : World) (s : ByteArray) :
    Calls Try.prog 7 #[.string s] w fun e w' => e = .returned (.bool true) ∧ Below w.heap.size w w' := by
  have s0 : (0 : Int) ≤ (s.size : Int) := Int.natCast_nonneg _
  by_cases hs : s.size ≤ 1048576
  · have hsi : ¬ 1048576 < (s.size : Int) := by omega
    obtain ⟨r, hr⟩ : ∃ r, r = loadF s := ⟨_, rfl⟩
    obtain ⟨vs, vA, vB, vW⟩ := svB_small (loadF_ok (s := s))
    have LR := Lib.hid (fun w => loadSavedR_any w s hs)
    have LI := Lib.hid (fun w => loadSaved_any w s hs)
    rw [← hr] at LR LI vs vA vB vW
    clear hr hs
    obtain ⟨⟨ns, R, C, A, B, P, X⟩, b⟩ := r
    simp only at vA vB vW
    go_enter Try.func7, Try.ntmps7
    go_wp2_with fail
    refine (LR.out _).mono ?_
    rintro e w1 ⟨hb, aA, cA, aB, cB, aW, cW, rfl, hO⟩
    have hb' := bl1 w1 (.cells #[.string ns, .int .i64 R, .int .i64 C, .slice aA A.length cA, .slice aB B.length cB, .int .i64 P, .slice aW X.length cW] 34)
    have KW1 := Lib.hid (Blk.new w1 [.string ns, .int .i64 R, .int .i64 C, .slice aA A.length cA, .slice aB B.length cB, .int .i64 P, .slice aW X.length cW] 34)
    have OW1 := Lib.hid (hO.keep hb')
    have B1 := Lib.hid (below_then hb hb')
    have s1 := hb.size
    clear hb hb' hO
    simp only
    go_wp2_with fail
    refine (LI.out _).mono ?_
    rintro e w2 ⟨hb, bA, dA, bB, dB, bW, dW, rfl, hO⟩
    have KW2 := Lib.hid (KW1.out.same hb)
    have OW2 := Lib.hid (OW1.out.keep hb)
    have B2 := Lib.hid (below_then B1.out hb)
    have s2 := hb.size
    rw [World.size_alloc] at hO s2
    have hb' := bl1 w2 (.cells #[.string ns, .int .i64 R, .int .i64 C, .slice bA A.length dA, .slice bB B.length dB, .int .i64 P, .slice bW X.length dW] 34)
    have KW3 := Lib.hid (KW2.out.same hb')
    have OW3 := Lib.hid (OW2.out.keep hb')
    have B3 := Lib.hid (below_then B2.out hb')
    have KG3 := Lib.hid (Blk.new w2 [.string ns, .int .i64 R, .int .i64 C, .slice bA A.length dA, .slice bB B.length dB, .int .i64 P, .slice bW X.length dW] 34)
    have OG3 := Lib.hid (hO.keep hb')
    clear hb hb' hO KW1 OW1 B1 KW2 OW2 B2
    have L3 := Lib.hid (lawEq_Saved _ ns R C P bA aA dA cA A bB aB dB cB B bW aW dW cW X OG3.out.rd OW3.out.rd (by omega) (by omega) (by omega))
    obtain ⟨z0, z1, z2, z3, z4, z5, z6⟩ := cells7 KG3.out
    obtain ⟨y0, y1, y2, y3, y4, y5, y6⟩ := cells7 KW3.out
    simp only
    go_wp2_with fail
    refine L3.out.mono ?_
    rintro e w3 ⟨rfl, hb⟩
    have KW4 := Lib.hid (KW3.out.same hb)
    have OW4 := Lib.hid (OW3.out.keep hb)
    have B4 := Lib.hid (below_then B3.out hb)
    have KG4 := Lib.hid (KG3.out.same hb)
    have OG4 := Lib.hid (OG3.out.keep hb)
    have s3 := hb.size
    rw [World.size_alloc] at s3
    clear hb KW3 OW3 B3 KG3 OG3 L3 z0 z1 z2 z3 z4 z5 z6 y0 y1 y2 y3 y4 y5 y6
    have L4 := Lib.hid (markSaved_own w3 _ _ ns R C P bA dA A bB dB B bW dW X 1 OG4.out (by omega) (by omega) (by omega) (by omega) (by omega))
    obtain ⟨z0, z1, z2, z3, z4, z5, z6⟩ := cells7 KG4.out
    go_wp2_with fail
    refine L4.out.mono ?_
    rintro e w4 ⟨rfl, hO, ht⟩
    have OG5 := Lib.hid hO
    have KW5 := Lib.hid (KW4.out.touch ht (.inl (by omega)))
    have OW5 := Lib.hid (ownS_touch OW4.out ht (.inl (by omega)))
    have KG5 := Lib.hid (KG4.out.touch ht (.inr (by omega)))
    have B5 := Lib.hid (below_touch B4.out ht (by omega) B4.out.size)
    have s4 := ht.size
    clear hO ht L4 KW4 OW4 B4 KG4 OG4 z0 z1 z2 z3 z4 z5 z6
    have L5 := Lib.hid (fun w' hb => heldSaved_any w' ns R C P bA dA A.length bB dB B.length bW dW X.length 1 (1 + A.length) (1 + A.length + B.length) (OG5.out.rd.to hb) rfl rfl (by omega) (by omega) (by omega) (by omega) (by omega))
    obtain ⟨z0, z1, z2, z3, z4, z5, z6⟩ := cells7 KG5.out
    have L5a := Lib.hid (L5.out w4 (Below.refl _ _))
    go_wp2_with fail
    refine L5a.out.mono ?_
    rintro e w5 ⟨rfl, hb⟩
    have OG6 := Lib.hid (OG5.out.keep hb)
    have KW6 := Lib.hid (KW5.out.same hb)
    have OW6 := Lib.hid (OW5.out.keep hb)
    have KG6 := Lib.hid (KG5.out.same hb)
    have B6 := Lib.hid (below_then B5.out hb)
    have s5 := hb.size
    clear hb L5a KW5 OW5 B5 KG5 z0 z1 z2 z3 z4 z5 z6
    have q0 : ¬ (1 + (A.length : Int) + (B.length : Int) + (X.length : Int)) < 0 := by omega
    go_wp2_with fail
    refine (LI.out _).mono ?_
    rintro e w6 ⟨hb, eA, fA, eB, fB, eW, fW, rfl, hO⟩
    have hb' := bl1 w6 (.cells #[.string ns, .int .i64 R, .int .i64 C, .slice eA A.length fA, .slice eB B.length fB, .int .i64 P, .slice eW X.length fW] 34)
    have hbb := below_then hb hb'
    have KW7 := Lib.hid (KW6.out.same hbb)
    have OW7 := Lib.hid (OW6.out.keep hbb)
    have B7 := Lib.hid (below_then B6.out hbb)
    have OG7 := Lib.hid (OG6.out.keep hbb)
    have KG7 := Lib.hid (KG6.out.same hbb)
    have KH7 := Lib.hid (Blk.new w6 [.string ns, .int .i64 R, .int .i64 C, .slice eA A.length fA, .slice eB B.length fB, .int .i64 P, .slice eW X.length fW] 34)
    have OH7 := Lib.hid (hO.keep hb')
    clear hb hb' hbb hO KW6 OW6 B6 OG6 KG6 L5
    have L6 := Lib.hid (lawEq_Saved _ ns R C P eA aA fA cA A eB aB fB cB B eW aW fW cW X OH7.out.rd OW7.out.rd (by omega) (by omega) (by omega))
    obtain ⟨z0, z1, z2, z3, z4, z5, z6⟩ := cells7 KH7.out
    obtain ⟨y0, y1, y2, y3, y4, y5, y6⟩ := cells7 KW7.out
    simp only
    go_wp2_with fail
    refine L6.out.mono ?_
    rintro e w7 ⟨rfl, hb⟩
    have B8 := Lib.hid (below_then B7.out hb)
    have OG8 := Lib.hid (OG7.out.keep hb)
    have KG8 := Lib.hid (KG7.out.same hb)
    clear hb KW7 OW7 B7 OG7 KG7 KH7 OH7 L6 z0 z1 z2 z3 z4 z5 z6 y0 y1 y2 y3 y4 y5 y6
    have L7 := Lib.hid (heldSaved_any w7 ns R C P bA dA A.length bB dB B.length bW dW X.length 1 (1 + A.length) (1 + A.length + B.length) OG8.out.rd rfl rfl (by omega) (by omega) (by omega) (by omega) (by omega))
    obtain ⟨z0, z1, z2, z3, z4, z5, z6⟩ := cells7 KG8.out
    go_wp2_with fail
    refine L7.out.mono ?_
    rintro e w8 ⟨rfl, hb⟩
    have B9 := Lib.hid (below_then B8.out hb)
    clear hb L7 B8 OG8 KG8 z0 z1 z2 z3 z4 z5 z6
    go_wp2_with fail
    go_ret
    exact ⟨rfl, B9.out⟩
  · have hsi : 1048576 < (s.size : Int) := by omega
    clear hs
    go_enter Try.func7, Try.ntmps7
    go_wp2_with fail
    go_ret
    exact ⟨rfl, Below.refl _ _⟩
end Go.Proofs.Yteclpcmbicjjgaa
