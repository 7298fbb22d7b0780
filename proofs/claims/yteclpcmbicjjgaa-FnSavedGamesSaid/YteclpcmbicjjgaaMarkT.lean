/-
  Marks on what is saved.
-/
import Derived.Test.YteclpcmbicjjgaaMarkS
namespace Go.Proofs.Yteclpcmbicjjgaa
set_option linter.unusedVariables false
set_option linter.unusedSimpArgs false
open Go.RowKit

set_option maxRecDepth 10000 in
set_option maxHeartbeats 4000000 in
theorem markSaved_own (w : World) (lo hi : Nat) (s : ByteArray) (R C P : Int) (aA : Option Addr) (cA : Nat) (xA : List Int) (aB : Option Addr) (cB : Nat) (xB : List Int) (aW : Option Addr) (cW : Nat) (xW : List Int) (k : Int) (h : OwnSaved w lo hi aA cA xA aB cB xB aW cW xW) (lA : xA.length ≤ 1048576) (lB : xB.length ≤ 1048576) (lW : xW.length ≤ 1048576) (hk0 : 1 ≤ k) (hk : k ≤ 1073741824) :
    Calls Try.prog 26 #[.agg #[.string s, .int .i64 R, .int .i64 C, .slice aA xA.length cA, .slice aB xB.length cB, .int .i64 P, .slice aW xW.length cW], .int .i64 k] w fun e w' => e = .returned (.int .i64 (k + xA.length + xB.length + xW.length)) ∧ OwnSaved w' lo hi aA cA (marks xA.length k) aB cB (marks xB.length (k + xA.length)) aW cW (marks xW.length (k + xA.length + xB.length)) ∧ Touch w w' lo hi := by
  obtain ⟨m, h1, h2, h3, o1, o2⟩ := h
  have B0 := bl1 w (.cells #[.string s, .int .i64 R, .int .i64 C, .slice aA xA.length cA, .slice aB xB.length cB, .int .i64 P, .slice aW xW.length cW] 34)
  have q1 := o1.keep B0
  have q2 := o2.keep B0
  have K0 := Blk.new w [.string s, .int .i64 R, .int .i64 C, .slice aA xA.length cA, .slice aB xB.length cB, .int .i64 P, .slice aW xW.length cW] 34
  have L1 := Lib.hid (markGame_own (w.alloc (.cells #[.string s, .int .i64 R, .int .i64 C, .slice aA xA.length cA, .slice aB xB.length cB, .int .i64 P, .slice aW xW.length cW] 34)) lo m R C aA cA xA aB cB xB k q1 (by simp; omega) lA lB hk0 (by omega))
  have T0 := Lib.hid (Below.touch B0 lo hi)
  have K0 := Lib.hid K0
  clear o1 o2 q1 B0
  obtain ⟨z0, z1, z2, z3, z4, z5, z6⟩ := cells7 K0.out
  go_enter Try.func26, Try.ntmps26
  go_wp2_with fail
  refine L1.out.mono ?_
  rintro e w1 ⟨rfl, q1', ht1⟩
  have T1 := Lib.hid (T0.out.trans (ht1.mono (lo' := lo) (hi' := hi) (Nat.le_refl _) (by omega)))
  have K1 := K0.out.touch ht1 (.inr (by omega))
  have q2 := q2.touch ht1 (.inr (Nat.le_refl _))
  have s1 := ht1.size
  rw [World.size_alloc] at s1
  have L2 := Lib.hid (markWorths_own w1 m hi P aW cW xW (k + xA.length + xB.length) q2 (by omega) lW (by omega) (by omega))
  have q1' := Lib.hid q1'
  clear ht1 L1 T0 K0 z0 z1 z2 z3 z4 z5 z6 q2
  obtain ⟨z0, z1, z2, z3, z4, z5, z6⟩ := cells7 K1
  go_wp2_with fail
  refine L2.out.mono ?_
  rintro e w2 ⟨rfl, q2', ht2⟩
  have T2 := Lib.hid (T1.out.trans (ht2.mono (lo' := lo) (hi' := hi) h1 (Nat.le_refl _)))
  have q1' := Lib.hid (q1'.out.touch ht2 (.inl (Nat.le_refl _)))
  have q2' := Lib.hid q2'
  have s2 := ht2.size
  clear ht2 z0 z1 z2 z3 z4 z5 z6 K1 L2
  go_wp2_with fail
  go_ret
  exact ⟨rfl, ⟨m, h1, h2, by omega, q1'.out, q2'.out⟩, T2.out⟩
set_option maxRecDepth 10000 in
set_option maxHeartbeats 4000000 in
theorem heldSaved_any (w : World) (s : ByteArray) (R C P : Int) (aA : Option Addr) (cA nA : Nat) (aB : Option Addr) (cB nB : Nat) (aW : Option Addr) (cW nW : Nat) (k k2 k3 : Int) (h : RdSaved w w.heap.size aA (marks nA k) aB (marks nB k2) aW (marks nW k3)) (e2 : Hid (k2 = k + nA)) (e3 : Hid (k3 = k2 + nB)) (lA : nA ≤ 1048576) (lB : nB ≤ 1048576) (lW : nW ≤ 1048576) (hk0 : 1 ≤ k) (hk : k ≤ 1073741824) :
    Calls Try.prog 27 #[.agg #[.string s, .int .i64 R, .int .i64 C, .slice aA nA cA, .slice aB nB cB, .int .i64 P, .slice aW nW cW], .int .i64 k] w fun e w' => e = .returned (.int .i64 (k3 + nW)) ∧ Below w.heap.size w w' := by
  have B0 := Lib.hid (bl1 w (.cells #[.string s, .int .i64 R, .int .i64 C, .slice aA nA cA, .slice aB nB cB, .int .i64 P, .slice aW nW cW] 34))
  have K0 := Lib.hid (Blk.new w [.string s, .int .i64 R, .int .i64 C, .slice aA nA cA, .slice aB nB cB, .int .i64 P, .slice aW nW cW] 34)
  have L1 := Lib.hid (heldGame_any (w.alloc (.cells #[.string s, .int .i64 R, .int .i64 C, .slice aA nA cA, .slice aB nB cB, .int .i64 P, .slice aW nW cW] 34)) R C aA cA nA aB cB nB k k2 (h.to B0.out).A (h.to B0.out).B e2 lA lB hk0 (by omega))
  have L2 := Lib.hid (fun w' hb => heldWorths_any w' P aW cW nW k3 (h.to hb).W lW (by have := e2.out; have := e3.out; omega) (by have := e2.out; have := e3.out; omega))
  rw [← e3.out] at L1
  have g2 : (0 : Int) ≤ k3 := by have := e2.out; have := e3.out; omega
  have g3 : k3 ≤ 1085899908000000 := by have := e2.out; have := e3.out; omega
  have g4 : (0 : Int) ≤ (nW : Int) := Int.natCast_nonneg _
  clear h
  obtain ⟨z0, z1, z2, z3, z4, z5, z6⟩ := cells7 K0.out
  go_enter Try.func27, Try.ntmps27
  go_wp2_with fail
  refine L1.out.mono ?_
  rintro e w1 ⟨rfl, hb⟩
  have B1 := Lib.hid (below_then B0.out hb)
  have K1 := K0.out.same hb
  have L3 := L2.out w1 B1.out
  clear z0 z1 z2 z3 z4 z5 z6 hb L1 L2
  obtain ⟨z0, z1, z2, z3, z4, z5, z6⟩ := cells7 K1
  go_wp2_with fail
  refine L3.mono ?_
  rintro e w2 ⟨rfl, hb⟩
  have B2 := Lib.hid (below_then B1.out hb)
  clear hb L3
  go_wp2_with fail
  go_ret
  exact ⟨rfl, B2.out⟩
end Go.Proofs.Yteclpcmbicjjgaa
