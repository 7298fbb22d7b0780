/-
  What is saved, read in front of a text: the program's road (its lines are printed by takenGen.py).
-/
import Derived.Test.YteclpcmbicjjgaaTakeP
namespace Go.Proofs.Yteclpcmbicjjgaa
set_option linter.unusedVariables false
set_option linter.unusedSimpArgs false
open Go.RowKit

def zero7 : Array Value := #[.string ⟨#[]⟩, .int .i64 0, .int .i64 0, .slice none 0 0, .slice none 0 0, .int .i64 0, .slice none 0 0]
/-- What a call of taken leaves. -/
def TakenR (w : World) (r : Option (Sv × Nat)) (e : Ending) (w' : World) : Prop :=
  Below w.heap.size w w' ∧ match r with
  | none => e = .returned (.tuple #[.agg zero7, .int .i64 0])
  | some (v, n) => ∃ aA cA aB cB aW cW, e = .returned (.tuple #[.agg #[.string v.s, .int .i64 v.R, .int .i64 v.C, .slice aA v.A.length cA, .slice aB v.B.length cB, .int .i64 v.P, .slice aW v.W.length cW], .int .i64 (n : Int)]) ∧ OwnSaved w' w.heap.size w'.heap.size aA cA v.A aB cB v.B aW cW v.W
theorem TakenR.no {w w' : World} {r : Option (Sv × Nat)} (hr : r = none) (h : Below w.heap.size w w') : TakenR w r (.returned (.tuple #[.agg zero7, .int .i64 0])) w' := by subst hr; exact ⟨h, rfl⟩
theorem tkB_bd (s : ByteArray) (t : Nat × Bool) : 0 ≤ tkB s t ∧ tkB s t ≤ 255 := bAt_bd _ _
theorem below_sto7 {B : Nat} {a w : World} (h : Below B a w) {g : Nat} (hB : B ≤ g) (v0 v1 v2 v3 v4 v5 v6 : Value) : Below B a (((((((w.setCell ⟨g, 0, none⟩ v0).setCell ⟨g, 1, none⟩ v1).setCell ⟨g, 2, none⟩ v2).setCell ⟨g, 3, none⟩ v3).setCell ⟨g, 4, none⟩ v4).setCell ⟨g, 5, none⟩ v5).setCell ⟨g, 6, none⟩ v6) :=
  below_sto (below_sto (below_sto (below_sto (below_sto (below_sto (below_sto h hB 0 v0) hB 1 v1) hB 2 v2) hB 3 v3) hB 4 v4) hB 5 v5) hB 6 v6
theorem zeroed_of {w wX : World} (hB : Below w.heap.size w wX) (hR : Blk wX w.heap.size [.string ⟨#[]⟩, .int .i64 0, .int .i64 0, .slice none 0 0, .slice none 0 0, .int .i64 0, .slice none 0 0] 34) : Blk (((((((wX.setCell ⟨w.heap.size, 0, none⟩ (.string ⟨#[]⟩)).setCell ⟨w.heap.size, 1, none⟩ (.int .i64 0)).setCell ⟨w.heap.size, 2, none⟩ (.int .i64 0)).setCell ⟨w.heap.size, 3, none⟩ (.slice none 0 0)).setCell ⟨w.heap.size, 4, none⟩ (.slice none 0 0)).setCell ⟨w.heap.size, 5, none⟩ (.int .i64 0)).setCell ⟨w.heap.size, 6, none⟩ (.slice none 0 0)) w.heap.size [.string ⟨#[]⟩, .int .i64 0, .int .i64 0, .slice none 0 0, .slice none 0 0, .int .i64 0, .slice none 0 0] 34 ∧ Below w.heap.size w (((((((wX.setCell ⟨w.heap.size, 0, none⟩ (.string ⟨#[]⟩)).setCell ⟨w.heap.size, 1, none⟩ (.int .i64 0)).setCell ⟨w.heap.size, 2, none⟩ (.int .i64 0)).setCell ⟨w.heap.size, 3, none⟩ (.slice none 0 0)).setCell ⟨w.heap.size, 4, none⟩ (.slice none 0 0)).setCell ⟨w.heap.size, 5, none⟩ (.int .i64 0)).setCell ⟨w.heap.size, 6, none⟩ (.slice none 0 0)) :=
  ⟨(((((((hR).set 0 (.string ⟨#[]⟩)).set 1 (.int .i64 0)).set 2 (.int .i64 0)).set 3 (.slice none 0 0)).set 4 (.slice none 0 0)).set 5 (.int .i64 0)).set 6 (.slice none 0 0), below_sto7 hB (Nat.le_refl _) _ _ _ _ _ _ _⟩
/-- The result's cell and the taker, some of the text taken. -/
structure TW (w wX : World) (s : ByteArray) (t : Nat × Bool) : Prop where
  B : Below w.heap.size w wX
  R : Blk wX w.heap.size [.string ⟨#[]⟩, .int .i64 0, .int .i64 0, .slice none 0 0, .slice none 0 0, .int .i64 0, .slice none 0 0] 34
  T : Blk wX (w.heap.size + 1) (tkC s t) 104
  S : w.heap.size + 2 ≤ wX.heap.size
section
variable {w wX wY : World} {s : ByteArray} {t t' : Nat × Bool} {g : Nat} {cs : List Value} {T : TypeId}
theorem TW.step (h : TW w wX s t) (hT : Blk wY (w.heap.size + 1) (tkC s t') 104) (ht : Touch wX wY (w.heap.size + 1) (w.heap.size + 1 + 1)) : TW w wY s t' :=
  ⟨below_touch h.B ht (Nat.le_succ _) (by have := h.S; omega), h.R.touch ht (.inl (Nat.lt_succ_self _)), hT, Nat.le_trans h.S ht.size⟩
theorem TW.below (h : TW w wX s t) (hb : Below wX.heap.size wX wY) : TW w wY s t := ⟨below_then h.B hb, h.R.same hb, h.T.same hb, Nat.le_trans h.S hb.size⟩
theorem TW.touch {lo hi : Nat} (h : TW w wX s t) (ht : Touch wX wY lo hi) (hlo : w.heap.size + 2 ≤ lo) : TW w wY s t :=
  ⟨below_touch h.B ht (by omega) (by have := h.S; omega), h.R.touch ht (.inl (by omega)), h.T.touch ht (.inl (by omega)), Nat.le_trans h.S ht.size⟩
theorem TW.set (h : TW w wX s t) (hlo : w.heap.size + 2 ≤ g) (j : Nat) (u : Value) : TW w (wX.setCell ⟨g, j, none⟩ u) s t := h.touch (touch_setK wX g j u) hlo
theorem stepV (h : Blk wX g cs T) (hg : w.heap.size + 2 ≤ g) (ht : Touch wX wY (w.heap.size + 1) (w.heap.size + 1 + 1)) : Blk wY g cs T := h.touch ht (.inr (by omega))
end
set_option maxRecDepth 10000 in
set_option maxHeartbeats 8000000 in
theorem taken_any (w : World) (s : ByteArray) (hs : s.size ≤ 1099511627776) : Calls Try.prog 55 #[.string s] w (TakenR w (takenF s)) := by
  have KR0 := Lib.hid (Blk.new w zero7.toList 34)
  have KT0 := Lib.hid (blkat1S w (.cells zero7 34) (tkC s (0, false)) 104)
  have B0 := Lib.hid (bl2 w (.cells zero7 34) (.cells #[.string s, .int .i64 0, .bool false] 104))
  have L1 := Lib.hid (take_any _ (w.heap.size + 1) s (0, false) 4 KT0.out (Nat.zero_le _) hs (by omega))
  have hle1 := tkT_le (s := s) (n := 4) (t := (0, false)) (Nat.zero_le _)
  have HF : Hid (takenF s = if ((tkS s 4 (0, false)).toList == [71, 65, 77, 49]) = true then tkName s (tkT s 4 (0, false)) else none) := rfl
  generalize takenF s = F at *
  generalize tkS s 4 (0, false) = m at *
  generalize tkT s 4 (0, false) = t1 at *
  go_enter Try.func55, Try.ntmps55
  go_wp2_with fail
  refine L1.out.mono ?_
  rintro e w1 ⟨rfl, K1, T1⟩
  have W1 : Hid (TW w w1 s t1) := ⟨below_touch B0.out T1 (Nat.le_succ _) (by simp; omega), (KR0.out.alloc _).touch T1 (.inl (Nat.lt_succ_self _)), K1, Nat.le_trans (by simp) T1.size⟩
  clear L1 K1 T1 KR0 KT0 B0
  cases hm : (m.toList == [71, 65, 77, 49]) with
  | false =>
    have HFn : Hid (F = none) := by rw [Hid, HF.out, hm]; rfl
    obtain ⟨wz, hwz⟩ : ∃ X, X = ((((((w1.setCell ⟨w.heap.size, 0, none⟩ (.string ⟨#[]⟩)).setCell ⟨w.heap.size, 1, none⟩ (.int .i64 0)).setCell ⟨w.heap.size, 2, none⟩ (.int .i64 0)).setCell ⟨w.heap.size, 3, none⟩ (.slice none 0 0)).setCell ⟨w.heap.size, 4, none⟩ (.slice none 0 0)).setCell ⟨w.heap.size, 5, none⟩ (.int .i64 0)).setCell ⟨w.heap.size, 6, none⟩ (.slice none 0 0) := ⟨_, rfl⟩
    obtain ⟨KZ, BZ⟩ : Blk wz w.heap.size [.string ⟨#[]⟩, .int .i64 0, .int .i64 0, .slice none 0 0, .slice none 0 0, .int .i64 0, .slice none 0 0] 34 ∧ Below w.heap.size w wz := by rw [hwz]; exact zeroed_of W1.out.B W1.out.R
    have HZ := Lib.hid hwz
    clear hwz
    obtain ⟨r0, r1, r2, r3, r4, r5, r6⟩ := cells7 W1.out.R
    have f0 := W1.out.R.free 0
    have f1 := W1.out.R.free 1
    have f2 := W1.out.R.free 2
    have f3 := W1.out.R.free 3
    have f4 := W1.out.R.free 4
    have f5 := W1.out.R.free 5
    have f6 := W1.out.R.free 6
    go_wp2_with fail
    rw [← HZ.out]
    clear r0 r1 r2 r3 r4 r5 r6
    obtain ⟨r0, r1, r2, r3, r4, r5, r6⟩ := cells7 KZ
    exact bodyPost_ret (v := .tuple #[.agg zero7, .int .i64 0]) (by simp [results, Try.results55, go_sem, zero7, r0, r1, r2, r3, r4, r5, r6]) rfl (TakenR.no HFn.out BZ)
  | true =>
  have HF1 : Hid (F = tkName s t1) := by rw [Hid, HF.out, hm]; rfl
  clear HF
  have L2 := Lib.hid (byte_any w1 (w.heap.size + 1) s t1 W1.out.T hle1 hs)
  have hle2 := tkT_le (n := 1) hle1
  obtain ⟨n0, n1⟩ := tkB_bd s t1
  obtain ⟨nb, hnb⟩ : ∃ n : Nat, tkB s t1 = n := ⟨(tkB s t1).toNat, by omega⟩
  have HF2 : Hid (F = tkRC s (tkS s nb (tkT s 1 t1)) (tkT s nb (tkT s 1 t1))) := by rw [Hid, HF1.out]; unfold tkName; rw [hnb]; rfl
  clear HF1
  rw [hnb] at L2 n0 n1
  clear hnb
  generalize tkT s 1 t1 = t2 at *
  go_wp2_with fail
  refine L2.out.mono ?_
  rintro e w2 ⟨rfl, K2, T2⟩
  have W2 := Lib.hid (W1.out.step K2 T2)
  clear L2 K2 T2 W1 hm hle1
  have HN : Hid ((tkS s nb t2).size = nb) := tkS_size
  have n2 : nb ≤ 255 := by omega
  have L3 := Lib.hid (take_any w2 (w.heap.size + 1) s t2 nb W2.out.T hle2 hs (by omega))
  have hle3 := tkT_le (n := nb) hle2
  generalize tkS s nb t2 = nm at *
  generalize tkT s nb t2 = t3 at *
  clear n0 n1
  go_wp2_with fail
  refine L3.out.mono ?_
  rintro e w3 ⟨rfl, K3, T3⟩
  have W3 := Lib.hid (W2.out.step K3 T3)
  clear L3 K3 T3 W2 hle2
  obtain ⟨z0, z1, z2, z3, z4, z5, z6⟩ := cells7 (Blk.new w3 [.string ⟨#[]⟩, .int .i64 0, .int .i64 0, .slice none 0 0, .slice none 0 0, .int .i64 0, .slice none 0 0] 34)
  go_wp2_with fail
  clear z0 z1 z2 z3 z4 z5 z6
  obtain ⟨w4, hw4⟩ : ∃ X, X = w3.alloc (.cells #[.string nm, .int .i64 0, .int .i64 0, .slice none 0 0, .slice none 0 0, .int .i64 0, .slice none 0 0] 34) := ⟨_, rfl⟩
  have V4 : Hid (Blk w4 w3.heap.size [.string nm, .int .i64 0, .int .i64 0, .slice none 0 0, .slice none 0 0, .int .i64 0, .slice none 0 0] 34) := by rw [hw4]; exact Blk.new w3 _ _
  have W4 : Hid (TW w w4 s t3) := by rw [hw4]; exact W3.out.below (bl1 w3 _)
  have hg := W3.out.S
  rw [← hw4]
  clear hw4 W3
  generalize w3.heap.size = g at *
  have L4 := Lib.hid (byte_any w4 (w.heap.size + 1) s t3 W4.out.T hle3 hs)
  have hle4 := tkT_le (n := 1) hle3
  have HF3 : Hid (F = if (inB (tkB s t3) 1 6 && inB (tkB s (tkT s 1 t3)) 1 6) = true then tkG s nm (tkB s t3) (tkB s (tkT s 1 t3)) (tkT s 1 (tkT s 1 t3)) else none) := HF2.out
  clear HF2
  generalize tkB s t3 = R at *
  generalize tkT s 1 t3 = t4 at *
  refine L4.out.mono ?_
  rintro e w5 ⟨rfl, K5, T5⟩
  have W5 := Lib.hid (W4.out.step K5 T5)
  have V5 := Lib.hid (stepV V4.out hg T5)
  clear L4 K5 T5 W4 V4 hle3
  have L5 := Lib.hid (byte_any w5 (w.heap.size + 1) s t4 W5.out.T hle4 hs)
  have hle5 := tkT_le (n := 1) hle4
  generalize tkB s t4 = C at *
  generalize tkT s 1 t4 = t5 at *
  go_wp2_with fail
  refine L5.out.mono ?_
  rintro e w6 ⟨rfl, K6, T6⟩
  have W6 := Lib.hid (W5.out.step K6 T6)
  have V6 := Lib.hid (stepV V5.out hg T6)
  clear L5 K6 T6 W5 V5 hle4
  obtain ⟨z0, z1, z2, z3, z4, z5, z6⟩ := cells7 V6.out
  have f1 := V6.out.free 1
  have f2 := V6.out.free 2
  go_wp2_with fail
  clear z0 z1 z2 z3 z4 z5 z6 f1 f2
  obtain ⟨w7, hw7⟩ : ∃ X, X = (w6.setCell ⟨g, 1, none⟩ (.int .i64 R)).setCell ⟨g, 2, none⟩ (.int .i64 C) := ⟨_, rfl⟩
  have V7 : Hid (Blk w7 g [.string nm, .int .i64 R, .int .i64 C, .slice none 0 0, .slice none 0 0, .int .i64 0, .slice none 0 0] 34) := by rw [hw7]; exact (V6.out.set 1 (.int .i64 R)).set 2 (.int .i64 C)
  have W7 : Hid (TW w w7 s t5) := by rw [hw7]; exact (W6.out.set hg 1 _).set hg 2 _
  rw [← hw7]
  clear hw7 W6 V6
  have LR := Lib.hid (fun v => isSide_any R v)
  have LC := Lib.hid (fun v => isSide_any C v)
  obtain ⟨z0, z1, z2, z3, z4, z5, z6⟩ := cells7 V7.out
  refine (LR.out _).mono ?_
  rintro e w' ⟨rfl, rfl⟩
  cases hR : inB R 1 6 with
  | false =>
    have HFn : Hid (F = none) := by rw [Hid, HF3.out, hR]; rfl
    obtain ⟨wz, hwz⟩ : ∃ X, X = ((((((w7.setCell ⟨w.heap.size, 0, none⟩ (.string ⟨#[]⟩)).setCell ⟨w.heap.size, 1, none⟩ (.int .i64 0)).setCell ⟨w.heap.size, 2, none⟩ (.int .i64 0)).setCell ⟨w.heap.size, 3, none⟩ (.slice none 0 0)).setCell ⟨w.heap.size, 4, none⟩ (.slice none 0 0)).setCell ⟨w.heap.size, 5, none⟩ (.int .i64 0)).setCell ⟨w.heap.size, 6, none⟩ (.slice none 0 0) := ⟨_, rfl⟩
    obtain ⟨KZ, BZ⟩ : Blk wz w.heap.size [.string ⟨#[]⟩, .int .i64 0, .int .i64 0, .slice none 0 0, .slice none 0 0, .int .i64 0, .slice none 0 0] 34 ∧ Below w.heap.size w wz := by rw [hwz]; exact zeroed_of W7.out.B W7.out.R
    have HZ := Lib.hid hwz
    clear hwz
    obtain ⟨r0, r1, r2, r3, r4, r5, r6⟩ := cells7 W7.out.R
    have f0 := W7.out.R.free 0
    have f1 := W7.out.R.free 1
    have f2 := W7.out.R.free 2
    have f3 := W7.out.R.free 3
    have f4 := W7.out.R.free 4
    have f5 := W7.out.R.free 5
    have f6 := W7.out.R.free 6
    go_wp2_with fail
    rw [← HZ.out]
    clear r0 r1 r2 r3 r4 r5 r6
    obtain ⟨r0, r1, r2, r3, r4, r5, r6⟩ := cells7 KZ
    exact bodyPost_ret (v := .tuple #[.agg zero7, .int .i64 0]) (by simp [results, Try.results55, go_sem, zero7, r0, r1, r2, r3, r4, r5, r6]) rfl (TakenR.no HFn.out BZ)
  | true =>
  go_wp2_with fail
  refine (LC.out _).mono ?_
  rintro e w' ⟨rfl, rfl⟩
  cases hC : inB C 1 6 with
  | false =>
    have HFn : Hid (F = none) := by rw [Hid, HF3.out, hR, hC]; rfl
    obtain ⟨wz, hwz⟩ : ∃ X, X = ((((((w7.setCell ⟨w.heap.size, 0, none⟩ (.string ⟨#[]⟩)).setCell ⟨w.heap.size, 1, none⟩ (.int .i64 0)).setCell ⟨w.heap.size, 2, none⟩ (.int .i64 0)).setCell ⟨w.heap.size, 3, none⟩ (.slice none 0 0)).setCell ⟨w.heap.size, 4, none⟩ (.slice none 0 0)).setCell ⟨w.heap.size, 5, none⟩ (.int .i64 0)).setCell ⟨w.heap.size, 6, none⟩ (.slice none 0 0) := ⟨_, rfl⟩
    obtain ⟨KZ, BZ⟩ : Blk wz w.heap.size [.string ⟨#[]⟩, .int .i64 0, .int .i64 0, .slice none 0 0, .slice none 0 0, .int .i64 0, .slice none 0 0] 34 ∧ Below w.heap.size w wz := by rw [hwz]; exact zeroed_of W7.out.B W7.out.R
    have HZ := Lib.hid hwz
    clear hwz
    obtain ⟨r0, r1, r2, r3, r4, r5, r6⟩ := cells7 W7.out.R
    have f0 := W7.out.R.free 0
    have f1 := W7.out.R.free 1
    have f2 := W7.out.R.free 2
    have f3 := W7.out.R.free 3
    have f4 := W7.out.R.free 4
    have f5 := W7.out.R.free 5
    have f6 := W7.out.R.free 6
    go_wp2_with fail
    rw [← HZ.out]
    clear r0 r1 r2 r3 r4 r5 r6
    obtain ⟨r0, r1, r2, r3, r4, r5, r6⟩ := cells7 KZ
    exact bodyPost_ret (v := .tuple #[.agg zero7, .int .i64 0]) (by simp [results, Try.results55, go_sem, zero7, r0, r1, r2, r3, r4, r5, r6]) rfl (TakenR.no HFn.out BZ)
  | true =>
  have HF4 : Hid (F = tkG s nm R C t5) := by rw [Hid, HF3.out, hR, hC]; rfl
  obtain ⟨R0, R1⟩ := inB_iff.1 hR
  obtain ⟨C0, C1⟩ := inB_iff.1 hC
  have hRC := prod_in R0 R1 C0 C1
  clear HF3 hR hC LR LC
  obtain ⟨n, hn⟩ : ∃ n : Nat, R * C = n := ⟨(R * C).toNat, by omega⟩
  have hn36 : n ≤ 36 := by omega
  have HF5 : Hid (F = tkP s nm R C (numsL s 1000 t5 n) (numsL s 1000 (numsT s t5 n) n) (numsT s (numsT s t5 n) n)) := by rw [Hid, HF4.out]; unfold tkG; rw [hn]; rfl
  clear HF4
  go_wp2_with fail
  clear z0 z1 z2 z3 z4 z5 z6
  have hgl := V7.out.lt
  have hs7 := W7.out.S
  have L7 := Lib.hid (numbers_any w7 (w.heap.size + 1) s t5 n 1000 W7.out.T hle5 hs (by omega) (by omega) (by omega))
  have hle6 := numsT_le hle5 n
  have hAl := numsL_length s 1000 t5 n
  generalize numsL s 1000 t5 n = A at *
  generalize numsT s t5 n = t6 at *
  refine L7.out.mono ?_
  rintro e w8 ⟨aA, cA, rfl, OA8, K8, T8⟩
  have W8 := Lib.hid (W7.out.step K8 T8)
  have V8 := Lib.hid (stepV V7.out hg T8)
  have s8 := T8.size
  clear L7 K8 T8 W7 V7 hle5
  have OA8 := Lib.hid OA8
  have L8 := Lib.hid (numbers_any w8 (w.heap.size + 1) s t6 n 1000 W8.out.T hle6 hs (by omega) (by omega) (by omega))
  have hle7 := numsT_le hle6 n
  have hBl := numsL_length s 1000 t6 n
  generalize numsL s 1000 t6 n = B at *
  generalize numsT s t6 n = t7 at *
  go_wp2_with fail
  refine L8.out.mono ?_
  rintro e w9 ⟨aB, cB, rfl, OB9, K9, T9⟩
  have W9 := Lib.hid (W8.out.step K9 T9)
  have V9 := Lib.hid (stepV V8.out hg T9)
  have s9 := T9.size
  have OA9 := Lib.hid (OA8.out.touch T9 (.inr (by omega)))
  have OB9 := Lib.hid OB9
  clear L8 K9 T9 W8 V8 hle6 OA8
  obtain ⟨z0, z1, z2, z3, z4, z5, z6⟩ := cells7 V9.out
  have f3 := V9.out.free 3
  have f4 := V9.out.free 4
  have f5 := V9.out.free 5
  go_wp2_with fail
  clear z0 z1 z2 z3 z4 z5 z6 f3 f4 f5
  have VX := (V9.out.set 3 (.slice aA n cA)).set 4 (.slice aB n cB)
  simp only [List.set_cons_zero, List.set_cons_succ] at VX
  have TX := (touch_setK w9 g 3 (.slice aA n cA)).trans (touch_setK _ g 4 (.slice aB n cB))
  obtain ⟨w10, hw10⟩ : ∃ X, X = (w9.setCell ⟨g, 3, none⟩ (.slice aA n cA)).setCell ⟨g, 4, none⟩ (.slice aB n cB) := ⟨_, rfl⟩
  rw [← hw10] at VX TX ⊢
  clear hw10
  have V10 := Lib.hid VX
  have W10 := Lib.hid (W9.out.touch TX hg)
  have OA10 := Lib.hid (OA9.out.touch TX (.inr (by omega)))
  have OB10 := Lib.hid (OB9.out.touch TX (.inr (by omega)))
  have s10 := TX.size
  clear VX TX V9 W9 OA9 OB9
  have L10 := Lib.hid (byte_any w10 (w.heap.size + 1) s t7 W10.out.T hle7 hs)
  have hle8 := tkT_le (n := 1) hle7
  have HF6 : Hid (F = if inB (tkB s t7) 1 6 = true then tkW s nm R C A B (tkB s t7) (tkT s 1 t7) else none) := HF5.out
  clear HF5
  generalize tkB s t7 = P at *
  generalize tkT s 1 t7 = t8 at *
  refine L10.out.mono ?_
  rintro e w11 ⟨rfl, K11, T11⟩
  have V11 := Lib.hid (stepV V10.out hg T11)
  have W11 := Lib.hid (W10.out.step K11 T11)
  have OA11 := Lib.hid (OA10.out.touch T11 (.inr (by omega)))
  have OB11 := Lib.hid (OB10.out.touch T11 (.inr (by omega)))
  have s11 := T11.size
  clear L10 K11 T11 W10 V10 hle7 OA10 OB10
  obtain ⟨z0, z1, z2, z3, z4, z5, z6⟩ := cells7 V11.out
  have f5 := V11.out.free 5
  go_wp2_with fail
  clear z0 z1 z2 z3 z4 z5 z6 f5
  have VX := V11.out.set 5 (.int .i64 P)
  simp only [List.set_cons_zero, List.set_cons_succ] at VX
  have TX := touch_setK w11 g 5 (.int .i64 P)
  obtain ⟨w12, hw12⟩ : ∃ X, X = w11.setCell ⟨g, 5, none⟩ (.int .i64 P) := ⟨_, rfl⟩
  rw [← hw12] at VX TX ⊢
  clear hw12
  have V12 := Lib.hid VX
  have W12 := Lib.hid (W11.out.touch TX hg)
  have OA12 := Lib.hid (OA11.out.touch TX (.inr (by omega)))
  have OB12 := Lib.hid (OB11.out.touch TX (.inr (by omega)))
  have s12 := TX.size
  clear VX TX V11 W11 OA11 OB11
  have LP := Lib.hid (arePlayers_any P w12)
  obtain ⟨z0, z1, z2, z3, z4, z5, z6⟩ := cells7 V12.out
  refine LP.out.mono ?_
  rintro e w' ⟨rfl, rfl⟩
  cases hP : inB P 1 6 with
  | false =>
    have HFn : Hid (F = none) := by rw [Hid, HF6.out, hP]; rfl
    obtain ⟨wz, hwz⟩ : ∃ X, X = ((((((w12.setCell ⟨w.heap.size, 0, none⟩ (.string ⟨#[]⟩)).setCell ⟨w.heap.size, 1, none⟩ (.int .i64 0)).setCell ⟨w.heap.size, 2, none⟩ (.int .i64 0)).setCell ⟨w.heap.size, 3, none⟩ (.slice none 0 0)).setCell ⟨w.heap.size, 4, none⟩ (.slice none 0 0)).setCell ⟨w.heap.size, 5, none⟩ (.int .i64 0)).setCell ⟨w.heap.size, 6, none⟩ (.slice none 0 0) := ⟨_, rfl⟩
    obtain ⟨KZ, BZ⟩ : Blk wz w.heap.size [.string ⟨#[]⟩, .int .i64 0, .int .i64 0, .slice none 0 0, .slice none 0 0, .int .i64 0, .slice none 0 0] 34 ∧ Below w.heap.size w wz := by rw [hwz]; exact zeroed_of W12.out.B W12.out.R
    have HZ := Lib.hid hwz
    clear hwz
    obtain ⟨r0, r1, r2, r3, r4, r5, r6⟩ := cells7 W12.out.R
    have f0 := W12.out.R.free 0
    have f1 := W12.out.R.free 1
    have f2 := W12.out.R.free 2
    have f3 := W12.out.R.free 3
    have f4 := W12.out.R.free 4
    have f5 := W12.out.R.free 5
    have f6 := W12.out.R.free 6
    go_wp2_with fail
    rw [← HZ.out]
    clear r0 r1 r2 r3 r4 r5 r6
    obtain ⟨r0, r1, r2, r3, r4, r5, r6⟩ := cells7 KZ
    exact bodyPost_ret (v := .tuple #[.agg zero7, .int .i64 0]) (by simp [results, Try.results55, go_sem, zero7, r0, r1, r2, r3, r4, r5, r6]) rfl (TakenR.no HFn.out BZ)
  | true =>
  obtain ⟨P0, P1⟩ := inB_iff.1 hP
  obtain ⟨k, hk⟩ : ∃ k : Nat, k = 2 ^ P.toNat := ⟨_, rfl⟩
  have hk64 : k ≤ 64 := by rw [hk]; exact Nat.le_trans (Nat.pow_le_pow_right (by omega) (show P.toNat ≤ 6 by omega)) (by decide)
  have hkz : (2 : Int) ^ P.toNat = (k : Int) := by rw [hk]; simp
  have HF7 : Hid (F = tkEnd s ⟨nm, R, C, A, B, P, numsL s 10000 t8 k⟩ (tkT s 2 (numsT s t8 k))) := by rw [Hid, HF6.out, hP, hk]; rfl
  have HK := Lib.hid hk
  clear HF6 hP LP hk
  go_wp2_with fail
  clear z0 z1 z2 z3 z4 z5 z6
  have L12 := Lib.hid (numbers_any w12 (w.heap.size + 1) s t8 k 10000 W12.out.T hle8 hs (by omega) (by omega) (by omega))
  have hle9 := numsT_le hle8 k
  have hWl := numsL_length s 10000 t8 k
  generalize numsL s 10000 t8 k = X at *
  generalize numsT s t8 k = t9 at *
  refine L12.out.mono ?_
  rintro e w13 ⟨aW, cW, rfl, OW13, K13, T13⟩
  have W13 := Lib.hid (W12.out.step K13 T13)
  have V13 := Lib.hid (stepV V12.out hg T13)
  have OA13 := Lib.hid (OA12.out.touch T13 (.inr (by omega)))
  have OB13 := Lib.hid (OB12.out.touch T13 (.inr (by omega)))
  have s13 := T13.size
  have OW13 := Lib.hid OW13
  clear L12 K13 T13 W12 V12 hle8 OA12 OB12
  obtain ⟨z0, z1, z2, z3, z4, z5, z6⟩ := cells7 V13.out
  have f6 := V13.out.free 6
  go_wp2_with fail
  clear z0 z1 z2 z3 z4 z5 z6 f6
  have VX := V13.out.set 6 (.slice aW k cW)
  simp only [List.set_cons_zero, List.set_cons_succ] at VX
  have TX := touch_setK w13 g 6 (.slice aW k cW)
  obtain ⟨w14, hw14⟩ : ∃ X, X = w13.setCell ⟨g, 6, none⟩ (.slice aW k cW) := ⟨_, rfl⟩
  rw [← hw14] at VX TX ⊢
  clear hw14
  have V14 := Lib.hid VX
  have W14 := Lib.hid (W13.out.touch TX hg)
  have OA14 := Lib.hid (OA13.out.touch TX (.inr (by omega)))
  have OB14 := Lib.hid (OB13.out.touch TX (.inr (by omega)))
  have OW14 := Lib.hid (OW13.out.touch TX (.inr (by omega)))
  have s14 := TX.size
  clear VX TX V13 W13 OA13 OB13 OW13
  have L14 := Lib.hid (take_any w14 (w.heap.size + 1) s t9 2 W14.out.T hle9 hs (by omega))
  have hle10 := tkT_le (n := 2) hle9
  generalize tkS s 2 t9 = junk at *
  generalize tkT s 2 t9 = t10 at *
  refine L14.out.mono ?_
  rintro e w15 ⟨rfl, K15, T15⟩
  have W15 := Lib.hid (W14.out.step K15 T15)
  have V15 := Lib.hid (stepV V14.out hg T15)
  have OA15 := Lib.hid (OA14.out.touch T15 (.inr (by omega)))
  have OB15 := Lib.hid (OB14.out.touch T15 (.inr (by omega)))
  have OW15 := Lib.hid (OW14.out.touch T15 (.inr (by omega)))
  have s15 := T15.size
  clear L14 K15 T15 W14 V14 hle9 OA14 OB14 OW14
  obtain ⟨at', sh⟩ := t10
  simp only at hle10
  obtain ⟨z0, z1, z2, z3, z4, z5, z6⟩ := cells7 V15.out
  have y0 : w15.cell? ⟨w.heap.size + 1, 0, none⟩ = some (.string s) := W15.out.T.cell 0
  have y1 : w15.cell? ⟨w.heap.size + 1, 1, none⟩ = some (.int .i64 at') := W15.out.T.cell 1
  have y2 : w15.cell? ⟨w.heap.size + 1, 2, none⟩ = some (.bool sh) := W15.out.T.cell 2
  have q1 : (0 : Int) ≤ (at' : Int) := Int.natCast_nonneg _
  have q2 : (at' : Int) ≤ (s.size : Int) := by omega
  have HW := Lib.hid hWl
  have HA := Lib.hid hAl
  have HB := Lib.hid hBl
  clear hWl hAl hBl
  cases sh with
  | true =>
    have HFn : Hid (F = none) := by rw [Hid, HF7.out]; rfl
    obtain ⟨wz, hwz⟩ : ∃ X, X = ((((((w15.setCell ⟨w.heap.size, 0, none⟩ (.string ⟨#[]⟩)).setCell ⟨w.heap.size, 1, none⟩ (.int .i64 0)).setCell ⟨w.heap.size, 2, none⟩ (.int .i64 0)).setCell ⟨w.heap.size, 3, none⟩ (.slice none 0 0)).setCell ⟨w.heap.size, 4, none⟩ (.slice none 0 0)).setCell ⟨w.heap.size, 5, none⟩ (.int .i64 0)).setCell ⟨w.heap.size, 6, none⟩ (.slice none 0 0) := ⟨_, rfl⟩
    obtain ⟨KZ, BZ⟩ : Blk wz w.heap.size [.string ⟨#[]⟩, .int .i64 0, .int .i64 0, .slice none 0 0, .slice none 0 0, .int .i64 0, .slice none 0 0] 34 ∧ Below w.heap.size w wz := by rw [hwz]; exact zeroed_of W15.out.B W15.out.R
    have HZ := Lib.hid hwz
    clear hwz
    obtain ⟨r0, r1, r2, r3, r4, r5, r6⟩ := cells7 W15.out.R
    have f0 := W15.out.R.free 0
    have f1 := W15.out.R.free 1
    have f2 := W15.out.R.free 2
    have f3 := W15.out.R.free 3
    have f4 := W15.out.R.free 4
    have f5 := W15.out.R.free 5
    have f6 := W15.out.R.free 6
    go_wp2_with fail
    rw [← HZ.out]
    clear r0 r1 r2 r3 r4 r5 r6
    obtain ⟨r0, r1, r2, r3, r4, r5, r6⟩ := cells7 KZ
    exact bodyPost_ret (v := .tuple #[.agg zero7, .int .i64 0]) (by simp [results, Try.results55, go_sem, zero7, r0, r1, r2, r3, r4, r5, r6]) rfl (TakenR.no HFn.out BZ)
  | false =>
  have RS : RdSaved w15 w15.heap.size aA A aB B aW X := ⟨OA15.out.rd.mono (by omega), OB15.out.rd.mono (by omega), OW15.out.rd.mono (by omega)⟩
  have LS := storeSaved_any w15 nm R C P aA cA A aB cB B aW cW X RS (by have := HN.out; omega) (by have := HA.out; omega) (by have := HB.out; omega) (by have := HW.out; omega)
  rw [HA.out, HB.out, HW.out] at LS
  have HF8 : Hid (F = if (svB ⟨nm, R, C, A, B, P, X⟩ && ((bs (svL ⟨nm, R, C, A, B, P, X⟩)).toList == (s.extract 0 at').toList)) = true then some (⟨nm, R, C, A, B, P, X⟩, at') else none) := by rw [Hid, HF7.out]; unfold tkEnd; simp
  clear HF7 RS
  cases hV : svB ⟨nm, R, C, A, B, P, X⟩ with
  | false =>
    have HFn : Hid (F = none) := by rw [Hid, HF8.out, hV]; rfl
    rw [svo_no hV] at LS
    have LS := Lib.hid LS
    clear hV
    go_wp2_with fail
    refine LS.out.mono ?_
    rintro e w16 ⟨rfl, hb⟩
    have W16 := Lib.hid (W15.out.below hb)
    clear hb z0 z1 z2 z3 z4 z5 z6 y0 y1 y2
    obtain ⟨wz, hwz⟩ : ∃ X, X = ((((((w16.setCell ⟨w.heap.size, 0, none⟩ (.string ⟨#[]⟩)).setCell ⟨w.heap.size, 1, none⟩ (.int .i64 0)).setCell ⟨w.heap.size, 2, none⟩ (.int .i64 0)).setCell ⟨w.heap.size, 3, none⟩ (.slice none 0 0)).setCell ⟨w.heap.size, 4, none⟩ (.slice none 0 0)).setCell ⟨w.heap.size, 5, none⟩ (.int .i64 0)).setCell ⟨w.heap.size, 6, none⟩ (.slice none 0 0) := ⟨_, rfl⟩
    obtain ⟨KZ, BZ⟩ : Blk wz w.heap.size [.string ⟨#[]⟩, .int .i64 0, .int .i64 0, .slice none 0 0, .slice none 0 0, .int .i64 0, .slice none 0 0] 34 ∧ Below w.heap.size w wz := by rw [hwz]; exact zeroed_of W16.out.B W16.out.R
    have HZ := Lib.hid hwz
    clear hwz
    obtain ⟨r0, r1, r2, r3, r4, r5, r6⟩ := cells7 W16.out.R
    have f0 := W16.out.R.free 0
    have f1 := W16.out.R.free 1
    have f2 := W16.out.R.free 2
    have f3 := W16.out.R.free 3
    have f4 := W16.out.R.free 4
    have f5 := W16.out.R.free 5
    have f6 := W16.out.R.free 6
    go_wp2_with fail
    rw [← HZ.out]
    clear r0 r1 r2 r3 r4 r5 r6
    obtain ⟨r0, r1, r2, r3, r4, r5, r6⟩ := cells7 KZ
    exact bodyPost_ret (v := .tuple #[.agg zero7, .int .i64 0]) (by simp [results, Try.results55, go_sem, zero7, r0, r1, r2, r3, r4, r5, r6]) rfl (TakenR.no HFn.out BZ)
  | true =>
  rw [svo_yes hV] at LS
  have LS := Lib.hid LS
  go_wp2_with fail
  refine LS.out.mono ?_
  rintro e w16 ⟨rfl, hb⟩
  have W16 := Lib.hid (W15.out.below hb)
  have V16 := Lib.hid (V15.out.same hb)
  have OA16 := Lib.hid (OA15.out.keep hb)
  have OB16 := Lib.hid (OB15.out.keep hb)
  have OW16 := Lib.hid (OW15.out.keep hb)
  have s16 := hb.size
  clear hb z0 z1 z2 z3 z4 z5 z6 y0 y1 y2 W15 V15 OA15 OB15 OW15 LS
  obtain ⟨z0, z1, z2, z3, z4, z5, z6⟩ := cells7 V16.out
  have y0 : w16.cell? ⟨w.heap.size + 1, 0, none⟩ = some (.string s) := W16.out.T.cell 0
  have y1 : w16.cell? ⟨w.heap.size + 1, 1, none⟩ = some (.int .i64 at') := W16.out.T.cell 1
  have y2 : w16.cell? ⟨w.heap.size + 1, 2, none⟩ = some (.bool false) := W16.out.T.cell 2
  cases hE : ((bs (svL ⟨nm, R, C, A, B, P, X⟩)).toList == (s.extract 0 at').toList) with
  | false =>
    have HFn : Hid (F = none) := by rw [Hid, HF8.out, hV, hE]; rfl
    obtain ⟨wz, hwz⟩ : ∃ X, X = ((((((w16.setCell ⟨w.heap.size, 0, none⟩ (.string ⟨#[]⟩)).setCell ⟨w.heap.size, 1, none⟩ (.int .i64 0)).setCell ⟨w.heap.size, 2, none⟩ (.int .i64 0)).setCell ⟨w.heap.size, 3, none⟩ (.slice none 0 0)).setCell ⟨w.heap.size, 4, none⟩ (.slice none 0 0)).setCell ⟨w.heap.size, 5, none⟩ (.int .i64 0)).setCell ⟨w.heap.size, 6, none⟩ (.slice none 0 0) := ⟨_, rfl⟩
    obtain ⟨KZ, BZ⟩ : Blk wz w.heap.size [.string ⟨#[]⟩, .int .i64 0, .int .i64 0, .slice none 0 0, .slice none 0 0, .int .i64 0, .slice none 0 0] 34 ∧ Below w.heap.size w wz := by rw [hwz]; exact zeroed_of W16.out.B W16.out.R
    have HZ := Lib.hid hwz
    clear hwz
    obtain ⟨r0, r1, r2, r3, r4, r5, r6⟩ := cells7 W16.out.R
    have f0 := W16.out.R.free 0
    have f1 := W16.out.R.free 1
    have f2 := W16.out.R.free 2
    have f3 := W16.out.R.free 3
    have f4 := W16.out.R.free 4
    have f5 := W16.out.R.free 5
    have f6 := W16.out.R.free 6
    go_wp2_with fail
    rw [← HZ.out]
    clear r0 r1 r2 r3 r4 r5 r6
    obtain ⟨r0, r1, r2, r3, r4, r5, r6⟩ := cells7 KZ
    exact bodyPost_ret (v := .tuple #[.agg zero7, .int .i64 0]) (by simp [results, Try.results55, go_sem, zero7, r0, r1, r2, r3, r4, r5, r6]) rfl (TakenR.no HFn.out BZ)
  | true =>
  have HFs : Hid (F = some (⟨nm, R, C, A, B, P, X⟩, at')) := by rw [Hid, HF8.out, hV, hE]; rfl
  obtain ⟨r0, r1, r2, r3, r4, r5, r6⟩ := cells7 W16.out.R
  have f0 := W16.out.R.free 0
  have f1 := W16.out.R.free 1
  have f2 := W16.out.R.free 2
  have f3 := W16.out.R.free 3
  have f4 := W16.out.R.free 4
  have f5 := W16.out.R.free 5
  have f6 := W16.out.R.free 6
  go_wp2_with fail
  go_region
  obtain ⟨wz, hwz⟩ : ∃ Y, Y = ((((((w16.setCell ⟨w.heap.size, 0, none⟩ (.string nm)).setCell ⟨w.heap.size, 1, none⟩ (.int .i64 R)).setCell ⟨w.heap.size, 2, none⟩ (.int .i64 C)).setCell ⟨w.heap.size, 3, none⟩ (.slice aA n cA)).setCell ⟨w.heap.size, 4, none⟩ (.slice aB n cB)).setCell ⟨w.heap.size, 5, none⟩ (.int .i64 P)).setCell ⟨w.heap.size, 6, none⟩ (.slice aW k cW) := ⟨_, rfl⟩
  have KZ : Blk wz w.heap.size [.string nm, .int .i64 R, .int .i64 C, .slice aA n cA, .slice aB n cB, .int .i64 P, .slice aW k cW] 34 := by rw [hwz]; exact ((((((W16.out.R.set 0 (.string nm)).set 1 (.int .i64 R)).set 2 (.int .i64 C)).set 3 (.slice aA n cA)).set 4 (.slice aB n cB)).set 5 (.int .i64 P)).set 6 (.slice aW k cW)
  have TZ : Touch w16 wz w.heap.size (w.heap.size + 1) := by rw [hwz]; exact (((((((touch_setK w16 w.heap.size 0 (.string nm)).trans (touch_setK _ w.heap.size 1 (.int .i64 R))).trans (touch_setK _ w.heap.size 2 (.int .i64 C))).trans (touch_setK _ w.heap.size 3 (.slice aA n cA))).trans (touch_setK _ w.heap.size 4 (.slice aB n cB))).trans (touch_setK _ w.heap.size 5 (.int .i64 P))).trans (touch_setK _ w.heap.size 6 (.slice aW k cW)))
  have BZ : Below w.heap.size w wz := below_touch W16.out.B TZ (Nat.le_refl _) (by have := W16.out.S; omega)
  have OAZ := Lib.hid (OA16.out.touch TZ (.inr (by omega)))
  have OBZ := Lib.hid (OB16.out.touch TZ (.inr (by omega)))
  have OWZ := Lib.hid (OW16.out.touch TZ (.inr (by omega)))
  have sZ := TZ.size
  rw [← hwz]
  clear hwz r0 r1 r2 r3 r4 r5 r6 f0 f1 f2 f3 f4 f5 f6 z0 z1 z2 z3 z4 z5 z6 y0 y1 y2
  have KZ := Lib.hid KZ
  have BZ := Lib.hid (below_drew' BZ)
  go_wp2_with fail
  obtain ⟨r0, r1, r2, r3, r4, r5, r6⟩ := cells7 KZ.out
  refine bodyPost_ret (v := .tuple #[.agg #[.string nm, .int .i64 R, .int .i64 C, .slice aA n cA, .slice aB n cB, .int .i64 P, .slice aW k cW], .int .i64 (at' : Int)]) (by simp [results, Try.results55, go_sem, r0, r1, r2, r3, r4, r5, r6]) rfl ?_
  rw [HFs.out]
  refine ⟨BZ.out, aA, cA, aB, cB, aW, cW, ?_, w12.heap.size, ?_, ?_, Nat.le_refl _, ⟨w8.heap.size, ?_, ?_, ?_⟩, ?_, ?_⟩
  · dsimp only; rw [HA.out, HB.out, HW.out]
  · have := W16.out.B.size; omega
  · show w12.heap.size ≤ wz.heap.size; omega
  · exact ⟨by omega, by omega⟩
  · exact (OAZ.out.keep (drewN_below wz 1)).mono (by omega) (by omega)
  · exact (OBZ.out.keep (drewN_below wz 1)).mono (by omega) (by omega)
  · show w12.heap.size ≤ wz.heap.size; omega
  · exact (OWZ.out.keep (drewN_below wz 1)).mono (by omega) (show w13.heap.size ≤ wz.heap.size by omega)
end Go.Proofs.Yteclpcmbicjjgaa
