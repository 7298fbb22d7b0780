/-
  Saved: counted, compared, tested (both roads), opened as an argument.
-/
import Derived.Test.YteclpcmbicjjgaaSavT
import Derived.Test.YteclpcmbicjjgaaNames
import Derived.Test.YteclpcmbicjjgaaGameV
import Derived.Test.YteclpcmbicjjgaaWorthsV
namespace Go.Proofs.Yteclpcmbicjjgaa
set_option linter.unusedVariables false
set_option linter.unusedSimpArgs false
open Go.RowKit

def szSavedF (left : Int) (n : Nat) (xA xB xW : List Int) : Int :=
  if left - n < 0 then -1 else if szGameF (left - n) xA xB < 0 then -1 else if szWorthsF (szGameF (left - n) xA xB) xW < 0 then -1 else szWorthsF (szGameF (left - n) xA xB) xW
theorem szSavedF_spec {left : Int} {n : Nat} {xA xB xW : List Int} (h : 0 ≤ left) : -1 ≤ szSavedF left n xA xB xW ∧ szSavedF left n xA xB xW ≤ left ∧ (0 ≤ szSavedF left n xA xB xW → (n : Int) ≤ left ∧ (xA.length : Int) ≤ left ∧ (xB.length : Int) ≤ left ∧ (xW.length : Int) ≤ left) := by
  unfold szSavedF
  by_cases g0 : left - n < 0
  · rw [if_pos g0]; omega
  · rw [if_neg g0]
    obtain ⟨a1, a2, a3⟩ := szGameF_spec (left := left - n) (x2 := xA) (x3 := xB) (by omega)
    generalize szGameF (left - n) xA xB = m1 at *
    by_cases g1 : m1 < 0
    · rw [if_pos g1]; omega
    · rw [if_neg g1]
      obtain ⟨b1, b2, b3⟩ := szWorthsF_spec (left := m1) (x1 := xW) (by omega)
      generalize szWorthsF m1 xW = m2 at *
      by_cases g2 : m2 < 0
      · rw [if_pos g2]; omega
      · rw [if_neg g2]; omega
set_option maxRecDepth 10000 in
set_option maxHeartbeats 4000000 in
theorem lawSz_Saved (w : World) (s : ByteArray) (R C P : Int) (aA : Option Addr) (cA : Nat) (xA : List Int) (aB : Option Addr) (cB : Nat) (xB : List Int) (aW : Option Addr) (cW : Nat) (xW : List Int) (left : Int) (h0 : 0 ≤ left) (h1 : left ≤ 1048576) (ls : s.size ≤ 9223372036854775807) (lA : xA.length ≤ 9223372036854775807) (lB : xB.length ≤ 9223372036854775807) (lW : xW.length ≤ 9223372036854775807) :
    Calls Try.prog 10 #[.agg #[.string s, .int .i64 R, .int .i64 C, .slice aA xA.length cA, .slice aB xB.length cB, .int .i64 P, .slice aW xW.length cW], .int .i64 left] w fun e w' => e = .returned (.int .i64 (szSavedF left s.size xA xB xW)) ∧ Below w.heap.size w w' := by
  have B0 := Lib.hid (bl1 w (.cells #[.string s, .int .i64 R, .int .i64 C, .slice aA xA.length cA, .slice aB xB.length cB, .int .i64 P, .slice aW xW.length cW] 28))
  have K0 := Lib.hid (Blk.new w [.string s, .int .i64 R, .int .i64 C, .slice aA xA.length cA, .slice aB xB.length cB, .int .i64 P, .slice aW xW.length cW] 28)
  have HF : Hid (szSavedF left s.size xA xB xW = if left - s.size < 0 then -1 else if szGameF (left - s.size) xA xB < 0 then -1 else if szWorthsF (szGameF (left - s.size) xA xB) xW < 0 then -1 else szWorthsF (szGameF (left - s.size) xA xB) xW) := rfl
  obtain ⟨z0, z1, z2, z3, z4, z5, z6⟩ := cells7 K0.out
  by_cases g0 : left - s.size < 0
  · have HN : Hid (szSavedF left s.size xA xB xW = -1) := by rw [Hid, HF.out, if_pos g0]
    go_enter Try.func10, Try.ntmps10
    go_wp2_with fail
    go_ret
    exact ⟨ret_int HN.out.symm, B0.out⟩
  · have p0 : 0 ≤ left - s.size := by omega
    have p1 : left - s.size ≤ 1048576 := by omega
    have L1 := Lib.hid (fun v => lawSz_Game v R C aA cA xA aB cB xB (left - s.size) p0 p1 lA lB)
    obtain ⟨s1a, s1b, _⟩ := szGameF_spec (left := left - s.size) (x2 := xA) (x3 := xB) p0
    by_cases g1 : szGameF (left - s.size) xA xB < 0
    · have HN : Hid (szSavedF left s.size xA xB xW = -1) := by rw [Hid, HF.out, if_neg g0, if_pos g1]
      clear HF
      generalize szGameF (left - s.size) xA xB = m1 at *
      go_enter Try.func10, Try.ntmps10
      go_wp2_with fail
      refine (L1.out _).mono ?_
      rintro e w1 ⟨rfl, hb⟩
      have B1 := below_then B0.out hb
      clear hb
      go_wp2_with fail
      go_ret
      exact ⟨ret_int HN.out.symm, B1⟩
    · have q1 : 0 ≤ szGameF (left - s.size) xA xB := by omega
      have L2 := Lib.hid (fun v => lawSz_Worths v P aW cW xW (szGameF (left - s.size) xA xB) q1 (by omega) lW)
      obtain ⟨s2a, s2b, _⟩ := szWorthsF_spec (left := szGameF (left - s.size) xA xB) (x1 := xW) q1
      have HN : Hid (szSavedF left s.size xA xB xW = if szWorthsF (szGameF (left - s.size) xA xB) xW < 0 then -1 else szWorthsF (szGameF (left - s.size) xA xB) xW) := by rw [Hid, HF.out, if_neg g0, if_neg g1]
      clear HF
      generalize szGameF (left - s.size) xA xB = m1 at *
      by_cases g2 : szWorthsF m1 xW < 0
      · have HN2 : Hid (szSavedF left s.size xA xB xW = -1) := by rw [Hid, HN.out, if_pos g2]
        clear HN
        generalize szWorthsF m1 xW = m2 at *
        go_enter Try.func10, Try.ntmps10
        go_wp2_with fail
        refine (L1.out _).mono ?_
        rintro e w1 ⟨rfl, hb⟩
        have B1 := Lib.hid (below_then B0.out hb)
        have K1 := Lib.hid (K0.out.same hb)
        clear z0 z1 z2 z3 z4 z5 z6 hb
        obtain ⟨z0, z1, z2, z3, z4, z5, z6⟩ := cells7 K1.out
        go_wp2_with fail
        refine (L2.out _).mono ?_
        rintro e w2 ⟨rfl, hb⟩
        have B2 := below_then B1.out hb
        clear hb
        go_wp2_with fail
        go_ret
        exact ⟨ret_int HN2.out.symm, B2⟩
      · have HN2 : Hid (szSavedF left s.size xA xB xW = szWorthsF m1 xW) := by rw [Hid, HN.out, if_neg g2]
        clear HN
        generalize szWorthsF m1 xW = m2 at *
        go_enter Try.func10, Try.ntmps10
        go_wp2_with fail
        refine (L1.out _).mono ?_
        rintro e w1 ⟨rfl, hb⟩
        have B1 := Lib.hid (below_then B0.out hb)
        have K1 := Lib.hid (K0.out.same hb)
        clear z0 z1 z2 z3 z4 z5 z6 hb
        obtain ⟨z0, z1, z2, z3, z4, z5, z6⟩ := cells7 K1.out
        go_wp2_with fail
        refine (L2.out _).mono ?_
        rintro e w2 ⟨rfl, hb⟩
        have B2 := below_then B1.out hb
        clear hb
        go_wp2_with fail
        go_ret
        exact ⟨ret_int HN2.out.symm, B2⟩
theorem blk2S (w : World) (cs ds : List Value) (t : TypeId) : Blk ((w.alloc (.cells cs.toArray t)).alloc (.cells ds.toArray t)) w.heap.size cs t ∧ Blk ((w.alloc (.cells cs.toArray t)).alloc (.cells ds.toArray t)) (w.heap.size + 1) ds t :=
  ⟨(Blk.new w cs t).alloc _, blkat1S w _ ds t⟩
set_option maxRecDepth 10000 in
set_option maxHeartbeats 4000000 in
theorem lawEq_Saved (w : World) (s : ByteArray) (R C P : Int) (aA bA : Option Addr) (cA dA : Nat) (xA : List Int) (aB bB : Option Addr) (cB dB : Nat) (xB : List Int) (aW bW : Option Addr) (cW dW : Nat) (xW : List Int) (h : RdSaved w w.heap.size aA xA aB xB aW xW) (g : RdSaved w w.heap.size bA xA bB xB bW xW) (lA : xA.length ≤ 1048576) (lB : xB.length ≤ 1048576) (lW : xW.length ≤ 1048576) :
    Calls Try.prog 14 #[.agg #[.string s, .int .i64 R, .int .i64 C, .slice aA xA.length cA, .slice aB xB.length cB, .int .i64 P, .slice aW xW.length cW], .agg #[.string s, .int .i64 R, .int .i64 C, .slice bA xA.length dA, .slice bB xB.length dB, .int .i64 P, .slice bW xW.length dW]] w fun e w' => e = .returned (.bool true) ∧ Below w.heap.size w w' := by
  have B0 := Lib.hid (bl2 w (.cells #[.string s, .int .i64 R, .int .i64 C, .slice aA xA.length cA, .slice aB xB.length cB, .int .i64 P, .slice aW xW.length cW] 34) (.cells #[.string s, .int .i64 R, .int .i64 C, .slice bA xA.length dA, .slice bB xB.length dB, .int .i64 P, .slice bW xW.length dW] 34))
  obtain ⟨K, J⟩ := blk2S w [.string s, .int .i64 R, .int .i64 C, .slice aA xA.length cA, .slice aB xB.length cB, .int .i64 P, .slice aW xW.length cW] [.string s, .int .i64 R, .int .i64 C, .slice bA xA.length dA, .slice bB xB.length dB, .int .i64 P, .slice bW xW.length dW] 34
  have K0 := Lib.hid K
  have J0 := Lib.hid J
  have H0 := Lib.hid (h.to B0.out)
  have G0 := Lib.hid (g.to B0.out)
  have L1 := Lib.hid (lawEq_Game _ _ _ R C aA bA cA dA xA aB bB cB dB xB ⟨H0.out.A, H0.out.B⟩ ⟨G0.out.A, G0.out.B⟩ (Nat.le_refl _) (Nat.le_refl _) lA lB)
  obtain ⟨z0, z1, z2, z3, z4, z5, z6⟩ := cells7 K
  obtain ⟨y0, y1, y2, y3, y4, y5, y6⟩ := cells7 J
  clear h g K J
  go_enter Try.func14, Try.ntmps14
  go_wp2_with fail
  refine L1.out.mono ?_
  rintro e w1 ⟨rfl, hb⟩
  have B1 := Lib.hid (below_then B0.out hb)
  have H1 := H0.out.to hb
  have G1 := G0.out.to hb
  have K1 := Lib.hid (K0.out.same hb)
  have J1 := Lib.hid (J0.out.same hb)
  have L2 := Lib.hid (lawEq_Worths _ _ _ P aW bW cW dW xW H1.W G1.W (Nat.le_refl _) (Nat.le_refl _) lW)
  clear hb H1 G1 z0 z1 z2 z3 z4 z5 z6 y0 y1 y2 y3 y4 y5 y6
  obtain ⟨z0, z1, z2, z3, z4, z5, z6⟩ := cells7 K1.out
  obtain ⟨y0, y1, y2, y3, y4, y5, y6⟩ := cells7 J1.out
  go_wp2_with fail
  refine L2.out.mono ?_
  rintro e w2 ⟨rfl, hb⟩
  have B2 := below_then B1.out hb
  clear hb
  go_wp2_with fail
  go_ret
  exact ⟨rfl, B2⟩
def savedB (s : ByteArray) (R C : Int) (xA xB : List Int) (P : Int) (xW : List Int) : Bool := nameB s && gameB R C xA xB && worthsB P xW
set_option maxRecDepth 10000 in
set_option maxHeartbeats 4000000 in
theorem validSaved_any (w : World) (s : ByteArray) (R C P : Int) (aA : Option Addr) (cA : Nat) (xA : List Int) (aB : Option Addr) (cB : Nat) (xB : List Int) (aW : Option Addr) (cW : Nat) (xW : List Int) (h : RdSaved w w.heap.size aA xA aB xB aW xW) (ls : s.size ≤ 1048576) (lA : xA.length ≤ 1048576) (lB : xB.length ≤ 1048576) (lW : xW.length ≤ 1048576) :
    Calls Try.prog 13 #[.agg #[.string s, .int .i64 R, .int .i64 C, .slice aA xA.length cA, .slice aB xB.length cB, .int .i64 P, .slice aW xW.length cW]] w fun e w' => e = .returned (.bool (savedB s R C xA xB P xW)) ∧ Below w.heap.size w w' := by
  have B0 := Lib.hid (bl1 w (.cells #[.string s, .int .i64 R, .int .i64 C, .slice aA xA.length cA, .slice aB xB.length cB, .int .i64 P, .slice aW xW.length cW] 34))
  have K0 := Lib.hid (Blk.new w [.string s, .int .i64 R, .int .i64 C, .slice aA xA.length cA, .slice aB xB.length cB, .int .i64 P, .slice aW xW.length cW] 34)
  have H0 := Lib.hid (h.to B0.out)
  have L1 := Lib.hid (isName_any s ls (w.alloc (.cells #[.string s, .int .i64 R, .int .i64 C, .slice aA xA.length cA, .slice aB xB.length cB, .int .i64 P, .slice aW xW.length cW] 34)))
  have L2 := Lib.hid (validGame_any _ R C aA cA xA aB cB xB ⟨H0.out.A, H0.out.B⟩ lA lB)
  obtain ⟨z0, z1, z2, z3, z4, z5, z6⟩ := cells7 K0.out
  clear h
  cases t1 : nameB s with
  | false =>
    have HF : Hid (savedB s R C xA xB P xW = false) := by simp [Hid, savedB, t1]
    rw [t1] at L1
    clear t1
    go_enter Try.func13, Try.ntmps13
    go_wp2_with fail
    refine L1.out.mono ?_
    rintro e w1 ⟨rfl, rfl⟩
    go_wp2_with fail
    go_ret
    exact ⟨ret_bool HF.out.symm, B0.out⟩
  | true =>
  rw [t1] at L1
  cases t2 : gameB R C xA xB with
  | false =>
    have HF : Hid (savedB s R C xA xB P xW = false) := by simp [Hid, savedB, t2]
    rw [t2] at L2
    clear t1 t2
    go_enter Try.func13, Try.ntmps13
    go_wp2_with fail
    refine L1.out.mono ?_
    rintro e w1 ⟨rfl, rfl⟩
    go_wp2_with fail
    refine L2.out.mono ?_
    rintro e w1 ⟨rfl, hb⟩
    have B1 := below_then B0.out hb
    clear hb
    go_wp2_with fail
    go_ret
    exact ⟨ret_bool HF.out.symm, B1⟩
  | true =>
    have HF : Hid (savedB s R C xA xB P xW = worthsB P xW) := by simp [Hid, savedB, t1, t2]
    rw [t2] at L2
    clear t1 t2
    go_enter Try.func13, Try.ntmps13
    go_wp2_with fail
    refine L1.out.mono ?_
    rintro e w1 ⟨rfl, rfl⟩
    go_wp2_with fail
    refine L2.out.mono ?_
    rintro e w1 ⟨rfl, hb⟩
    have B1 := Lib.hid (below_then B0.out hb)
    have H1 := H0.out.to hb
    have K1 := K0.out.same hb
    have L3 := Lib.hid (validWorths_any _ P aW cW xW H1.W lW)
    clear hb z0 z1 z2 z3 z4 z5 z6 H1
    obtain ⟨z0, z1, z2, z3, z4, z5, z6⟩ := cells7 K1
    go_wp2_with fail
    refine L3.out.mono ?_
    rintro e w2 ⟨rfl, hb⟩
    have B2 := below_then B1.out hb
    clear hb
    go_wp2_with fail
    go_ret
    exact ⟨ret_bool HF.out.symm, B2⟩
set_option maxRecDepth 10000 in
set_option maxHeartbeats 4000000 in
theorem l07Saved_any (w : World) (b o : Nat) (s : ByteArray) (R C P : Int) (aA : Option Addr) (cA : Nat) (xA : List Int) (aB : Option Addr) (cB : Nat) (xB : List Int) (aW : Option Addr) (cW : Nat) (xW : List Int)
    (z0 : w.cell? ⟨b, o, none⟩ = some (.string s)) (z1 : w.cell? ⟨b, o + 1, none⟩ = some (.int .i64 R)) (z2 : w.cell? ⟨b, o + 2, none⟩ = some (.int .i64 C)) (z3 : w.cell? ⟨b, o + 3, none⟩ = some (.slice aA xA.length cA)) (z4 : w.cell? ⟨b, o + 4, none⟩ = some (.slice aB xB.length cB)) (z5 : w.cell? ⟨b, o + 5, none⟩ = some (.int .i64 P)) (z6 : w.cell? ⟨b, o + 6, none⟩ = some (.slice aW xW.length cW))
    (h : RdSaved w w.heap.size aA xA aB xB aW xW) (ls : s.size ≤ 1048576) (lA : xA.length ≤ 1048576) (lB : xB.length ≤ 1048576) (lW : xW.length ≤ 1048576) :
    Calls Try.prog 37 #[.pointer (some ⟨b, o, none⟩)] w fun e w' => e = .returned (.bool (savedB s R C xA xB P xW)) ∧ ∃ n, w' = w.drewN n := by
  have L1 := Lib.hid (l07Name_any s ls w)
  have L2 := Lib.hid (l02Is_any w b (o + 1) R C aA cA xA aB cB xB z1 z2 z3 z4 ⟨h.A, h.B⟩ lA lB)
  have L3 := Lib.hid (fun n => l03Is_any (w.drewN n) b (o + 5) P aW cW xW z5 z6 h.W lW)
  clear h
  cases t1 : nameB s with
  | false =>
    have HF : Hid (savedB s R C xA xB P xW = false) := by simp [Hid, savedB, t1]
    rw [t1] at L1
    clear t1
    go_enter Try.func37, Try.ntmps37
    go_wp2_with fail
    refine L1.out.mono ?_
    rintro e w1 ⟨rfl, rfl⟩
    go_wp2_with fail
    go_ret
    exact ⟨ret_bool HF.out.symm, 0, rfl⟩
  | true =>
  rw [t1] at L1
  cases t2 : gameB R C xA xB with
  | false =>
    have HF : Hid (savedB s R C xA xB P xW = false) := by simp [Hid, savedB, t2]
    rw [t2] at L2
    clear t1 t2
    go_enter Try.func37, Try.ntmps37
    go_wp2_with fail
    refine L1.out.mono ?_
    rintro e w1 ⟨rfl, rfl⟩
    go_wp2_with fail
    refine L2.out.mono ?_
    rintro e w1 ⟨rfl, n, rfl⟩
    go_wp2_with fail
    go_ret
    exact ⟨ret_bool HF.out.symm, n, rfl⟩
  | true =>
    have HF : Hid (savedB s R C xA xB P xW = worthsB P xW) := by simp [Hid, savedB, t1, t2]
    rw [t2] at L2
    clear t1 t2
    go_enter Try.func37, Try.ntmps37
    go_wp2_with fail
    refine L1.out.mono ?_
    rintro e w1 ⟨rfl, rfl⟩
    go_wp2_with fail
    refine L2.out.mono ?_
    rintro e w1 ⟨rfl, n, rfl⟩
    go_wp2_with fail
    refine (L3.out n).mono ?_
    rintro e w1 ⟨rfl, m, rfl⟩
    go_wp2_with fail
    go_ret
    exact ⟨ret_bool HF.out.symm, _, by first | rfl | exact World.drewN_drewN _ _ _⟩
set_option maxRecDepth 10000 in
theorem validSavedR_any (w : World) (s : ByteArray) (R C P : Int) (aA : Option Addr) (cA : Nat) (xA : List Int) (aB : Option Addr) (cB : Nat) (xB : List Int) (aW : Option Addr) (cW : Nat) (xW : List Int) (h : RdSaved w w.heap.size aA xA aB xB aW xW) (ls : s.size ≤ 1048576) (lA : xA.length ≤ 1048576) (lB : xB.length ≤ 1048576) (lW : xW.length ≤ 1048576) :
    Calls Try.prog 11 #[.agg #[.string s, .int .i64 R, .int .i64 C, .slice aA xA.length cA, .slice aB xB.length cB, .int .i64 P, .slice aW xW.length cW]] w fun e w' => e = .returned (.bool (savedB s R C xA xB P xW)) ∧ Below w.heap.size w w' := by
  have B0 := bl1 w (.cells #[.string s, .int .i64 R, .int .i64 C, .slice aA xA.length cA, .slice aB xB.length cB, .int .i64 P, .slice aW xW.length cW] 34)
  have K0 := Blk.new w [.string s, .int .i64 R, .int .i64 C, .slice aA xA.length cA, .slice aB xB.length cB, .int .i64 P, .slice aW xW.length cW] 34
  have L := Lib.hid (l07Saved_any _ w.heap.size 0 s R C P aA cA xA aB cB xB aW cW xW (K0.cell 0) (K0.cell 1) (K0.cell 2) (K0.cell 3) (K0.cell 4) (K0.cell 5) (K0.cell 6) (h.to B0) ls lA lB lW)
  clear h K0
  go_enter Try.func11, Try.ntmps11
  go_wp2_with fail
  refine L.out.mono ?_
  rintro e w1 ⟨rfl, n, rfl⟩
  have B1 := below_drewN B0 n
  go_wp2_with fail
  go_ret
  exact ⟨rfl, B1⟩
section
open Go.ChangeShapes Go.WideShapes
theorem agg_partS {H : Type} {enc : TypeId × Value → H} {P : Program} {w : World} {base : Nat} {spare : Nat → Bool} {held : Bool} {ts : TypeId} {fs : Array Field} {fuel : Nat} {cs : List Value} {x : DataW H × List MemPlace} (hs : P.underlying ts = some (.struct fs)) (h : DataW.trod enc P w base spare held fuel ts cs = some x) :
    cs.length = P.cellsOf ts ∧ ∃ (n : Nat) (Y : Nat → DataW H × List MemPlace), ∀ (i : Nat) (f : Field), fs[i]? = some f → DataW.trod enc P w base spare held n f.type ((cs.drop f.offset).take (P.cellsOf f.type)) = some (Y i) := by
  obtain ⟨xs, n, _, rfl, hl, hxl, hf⟩ := DataW.trod_struct hs h
  refine ⟨hl, n, fun i => xs.getD i (.nil, []), fun i f hi => ?_⟩
  have hlt : i < fs.size := (Array.getElem?_eq_some_iff.1 hi).1
  have g := hf i f hi
  rw [List.getElem?_eq_getElem (by omega)] at g
  rw [g]
  simp [List.getD, List.getElem?_eq_getElem (show i < xs.length by omega)]
set_option maxRecDepth 100000 in
set_option maxHeartbeats 2000000 in
theorem open_saved_cells {H : Type} {enc : TypeId × Value → H} {w : World} {held : Bool} {fuel : Nat} {l : List Value} {x : DataW H × List MemPlace} (hf : DataW.trod enc Try.prog w 0 (fun _ => true) held fuel 28 l = some x) :
    ∃ (s : ByteArray) (R C P : Int) (aA : Option Addr) (cA : Nat) (xA : List Int) (aB : Option Addr) (cB : Nat) (xB : List Int) (aW : Option Addr) (cW : Nat) (xW : List Int),
      l = [.string s, .int .i64 R, .int .i64 C, .slice aA xA.length cA, .slice aB xB.length cB, .int .i64 P, .slice aW xW.length cW] ∧ RdSaved w w.heap.size aA xA aB xB aW xW ∧ (s.size ≤ 9223372036854775807 ∧ xA.length ≤ 9223372036854775807 ∧ xB.length ≤ 9223372036854775807 ∧ xW.length ≤ 9223372036854775807) := by
  obtain ⟨hlen, n, Y, hY⟩ := agg_partS Try.underlying28 hf
  have hc : Try.prog.cellsOf 28 = 7 := by kernel_rfl
  have hcG : Try.prog.cellsOf 24 = 4 := by kernel_rfl
  have hcW : Try.prog.cellsOf 26 = 2 := by kernel_rfl
  have hcS : Try.prog.cellsOf 9 = 1 := by kernel_rfl
  rw [hc] at hlen
  have e0 : DataW.trod enc Try.prog w 0 (fun _ => true) held n 9 ((l.drop 0).take (Try.prog.cellsOf 9)) = some (Y 0) := hY 0 _ rfl
  have e1 : DataW.trod enc Try.prog w 0 (fun _ => true) held n 24 ((l.drop 1).take (Try.prog.cellsOf 24)) = some (Y 1) := hY 1 _ rfl
  have e2 : DataW.trod enc Try.prog w 0 (fun _ => true) held n 26 ((l.drop 5).take (Try.prog.cellsOf 26)) = some (Y 2) := hY 2 _ rfl
  rw [hcS] at e0
  rw [hcG] at e1
  rw [hcW] at e2
  clear hY hf
  match l, hlen, e0, e1, e2 with
  | [v0, v1, v2, v3, v4, v5, v6], _, e0, e1, e2 =>
    simp only [List.drop_succ_cons, List.drop_zero, List.take_succ_cons, List.take_zero] at e0 e1 e2
    obtain ⟨s, hs, _, hsz⟩ := DataW.trod_string Try.underlying9 e0
    simp at hs
    subst hs
    obtain ⟨_, n0, Y0, hY0⟩ := open_agg_fields Try.underlying24 (Go.Deep.hone_of (by kernel_rfl)) (by kernel_rfl) e1
    obtain ⟨_, n1, Y1, hY1⟩ := open_agg_fields Try.underlying26 (Go.Deep.hone_of (by kernel_rfl)) (by kernel_rfl) e2
    obtain ⟨m1, rfl, b1⟩ := int_field Try.underlying2 (v := v1) (hY0 0 _ rfl)
    obtain ⟨m2, rfl, b2⟩ := int_field Try.underlying2 (v := v2) (hY0 1 _ rfl)
    obtain ⟨a3, c3, x3, rfl, r3, l3⟩ := ints_field Try.underlying22 Try.underlying2 (by kernel_rfl) (v := v3) (hY0 2 _ rfl)
    obtain ⟨a4, c4, x4, rfl, r4, l4⟩ := ints_field Try.underlying22 Try.underlying2 (by kernel_rfl) (v := v4) (hY0 3 _ rfl)
    obtain ⟨m5, rfl, b5⟩ := int_field Try.underlying2 (v := v5) (hY1 0 _ rfl)
    obtain ⟨a6, c6, x6, rfl, r6, l6⟩ := ints_field Try.underlying22 Try.underlying2 (by kernel_rfl) (v := v6) (hY1 1 _ rfl)
    exact ⟨s, m1, m2, m5, a3, c3, x3, a4, c4, x4, a6, c6, x6, rfl, ⟨r3, r4, r6⟩, by unfold maxLen at hsz; omega, l3, l4, l6⟩
set_option maxRecDepth 100000 in
theorem open_Saved {H : Type} {enc : TypeId × Value → H} {w : World} {r : Reach} {b0 : Nat} {held : Bool} {v : Value} {d : DataW H} {ps : List MemPlace} (hval : Value.okWide Try.prog w r b0 28 v) (h : DataW.Trod enc Try.prog w 0 (fun _ => true) held 28 v d ps) :
    ∃ (s : ByteArray) (R C P : Int) (aA : Option Addr) (cA : Nat) (xA : List Int) (aB : Option Addr) (cB : Nat) (xB : List Int) (aW : Option Addr) (cW : Nat) (xW : List Int),
      v = .agg #[.string s, .int .i64 R, .int .i64 C, .slice aA xA.length cA, .slice aB xB.length cB, .int .i64 P, .slice aW xW.length cW] ∧ RdSaved w w.heap.size aA xA aB xB aW xW ∧ (s.size ≤ 9223372036854775807 ∧ xA.length ≤ 9223372036854775807 ∧ xB.length ≤ 9223372036854775807 ∧ xW.length ≤ 9223372036854775807) := by
  obtain ⟨cs, rfl, hcs⟩ := okWide_struct Try.underlying28 hval
  obtain ⟨fuel, hf⟩ := h
  obtain ⟨s, R, C, P, aA, cA, xA, aB, cB, xB, aW, cW, xW, hl, hr, hb⟩ := open_saved_cells hf
  obtain ⟨l⟩ := cs
  have hl' : l = _ := hl
  subst hl'
  exact ⟨s, R, C, P, aA, cA, xA, aB, cB, xB, aW, cW, xW, rfl, hr, hb⟩
end
end Go.Proofs.Yteclpcmbicjjgaa
