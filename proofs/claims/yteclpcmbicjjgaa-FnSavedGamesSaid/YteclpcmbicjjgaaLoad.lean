/-
  LoadSaved: both roads (its lines are printed by loadGen.py).
-/
import Derived.Test.YteclpcmbicjjgaaBegin
namespace Go.Proofs.Yteclpcmbicjjgaa
set_option linter.unusedVariables false
set_option linter.unusedSimpArgs false
open Go.RowKit

def zeroSv : Sv := ⟨⟨#[]⟩, 0, 0, [], [], 0, []⟩
def loadF (s : ByteArray) : Sv × Bool := match takenF s with
  | none => (zeroSv, false)
  | some (v, n) => if (n == 0 || n != s.size) = true then (zeroSv, false) else (v, true)
theorem loadF_ok {s : ByteArray} : (loadF s).1 = zeroSv ∨ svB (loadF s).1 = true := by
  unfold loadF
  cases h : takenF s with
  | none => exact .inl rfl
  | some r =>
    obtain ⟨v, n⟩ := r
    dsimp only
    split
    · exact .inl rfl
    · exact .inr (taken_only h).1
theorem svB_small {v : Sv} (h : v = zeroSv ∨ svB v = true) : v.s.size ≤ 8 ∧ v.A.length ≤ 36 ∧ v.B.length ≤ 36 ∧ v.W.length ≤ 64 := by
  rcases h with rfl | h
  · simp [zeroSv, ByteArray.size]
  · obtain ⟨h1, _, _, _, h2, h3, h4, _⟩ := savedB_spec h
    exact ⟨h1, h2, h3, h4⟩
theorem own_nilI (T : Nat) (w : World) (lo hi : Nat) : OwnI T w lo hi none 0 [] := ⟨⟨by simp, .inl ⟨rfl, rfl⟩⟩, by intro b h; cases h⟩
theorem own_zero (w : World) (lo : Nat) (h : lo ≤ w.heap.size) : OwnSaved w lo w.heap.size none 0 [] none 0 [] none 0 [] :=
  ⟨lo, Nat.le_refl _, h, Nat.le_refl _, ⟨lo, ⟨Nat.le_refl _, Nat.le_refl _⟩, own_nilI _ _ _ _, own_nilI _ _ _ _⟩, h, own_nilI _ _ _ _⟩
def LoadedR (w : World) (r : Sv × Bool) (e : Ending) (w' : World) : Prop :=
  Below w.heap.size w w' ∧ ∃ aA cA aB cB aW cW, e = .returned (.tuple #[.agg #[.string r.1.s, .int .i64 r.1.R, .int .i64 r.1.C, .slice aA r.1.A.length cA, .slice aB r.1.B.length cB, .int .i64 r.1.P, .slice aW r.1.W.length cW], .bool r.2]) ∧ OwnSaved w' w.heap.size w'.heap.size aA cA r.1.A aB cB r.1.B aW cW r.1.W
theorem LoadedR.no {w w' : World} {r : Sv × Bool} (hr : r = (zeroSv, false)) (h : Below w.heap.size w w') : LoadedR w r (.returned (.tuple #[.agg zero7, .bool false])) w' := by
  subst hr; exact ⟨h, none, 0, none, 0, none, 0, rfl, own_zero w' _ h.size⟩
theorem ownS_touch {w w' : World} {lo hi lo' hi' : Nat} {aA aB aW : Option Addr} {cA cB cW : Nat} {xA xB xW : List Int} (h : OwnSaved w lo hi aA cA xA aB cB xB aW cW xW) (ht : Touch w w' lo' hi') (hd : hi ≤ lo' ∨ hi' ≤ lo) : OwnSaved w' lo hi aA cA xA aB cB xB aW cW xW := by
  obtain ⟨m, h1, h2, h3, o1, o2⟩ := h
  exact ⟨m, h1, h2, Nat.le_trans h3 ht.size, o1.touch ht (by omega), o2.touch ht (by omega)⟩
theorem ownS_up {w : World} {lo lo' hi : Nat} {aA aB aW : Option Addr} {cA cB cW : Nat} {xA xB xW : List Int} (h : OwnSaved w lo hi aA cA xA aB cB xB aW cW xW) (h1 : lo' ≤ lo) (hu : hi ≤ w.heap.size) : OwnSaved w lo' w.heap.size aA cA xA aB cB xB aW cW xW := by
  obtain ⟨m, h2, h3, h4, o1, o2⟩ := h
  exact ⟨m, Nat.le_trans h1 h2, by omega, Nat.le_refl _, ownGame_mono o1 h1 (Nat.le_refl _), ownWorths_mono o2 (Nat.le_refl _) hu⟩
set_option maxRecDepth 10000 in
set_option maxHeartbeats 4000000 in
theorem loadSaved_any (w : World) (s : ByteArray) (hs : s.size ≤ 1048576) : Calls Try.prog 25 #[.string s] w (LoadedR w (loadF s)) := by
  have KR0 := Lib.hid (Blk.new w zero7.toList 34)
  have B0 := Lib.hid (bl1 w (.cells zero7 34))
  have HF : Hid (loadF s = match takenF s with
    | none => (zeroSv, false)
    | some (v, n) => if (n == 0 || n != s.size) = true then (zeroSv, false) else (v, true)) := rfl
  have L1 := Lib.hid (taken_any (w.alloc (.cells zero7 34)) s (by omega))
  have hT : Hid (∀ v n, takenF s = some (v, n) → n ≠ 0) := fun v n h => by
    have := (taken_only h).2.1
    have := svL_len_eq v
    omega
  generalize loadF s = F at *
  have s0 : (0 : Int) ≤ (s.size : Int) := Int.natCast_nonneg _
  have s1 : (s.size : Int) ≤ 1048576 := by omega
  clear hs
  go_enter Try.func25, Try.ntmps25
  go_wp2_with fail
  refine L1.out.mono ?_
  rintro e w1 ⟨hb, hr⟩
  have hb1 := below_then B0.out hb
  have hR1 := KR0.out.same hb
  have hbs : w.heap.size + 1 ≤ w1.heap.size := by have := hb.size; simpa using this
  generalize takenF s = T at *
  cases T with
  | none =>
    dsimp only at hr
    subst hr
    have HFn : Hid (F = (zeroSv, false)) := HF.out
    have R2 := Lib.hid (hR1.alloc (.cells zero7 34))
    have B2 := Lib.hid (hb1.alloc (by omega) (.cells zero7 34))
    simp only [zero7] at R2 B2
    clear hb hb1 hR1 KR0 B0 HF L1
    simp only [zero7]
    go_upto_region 2 with fail
    obtain ⟨w2, hw2⟩ : ∃ X, X = w1.alloc (.cells #[.string ⟨#[]⟩, .int .i64 0, .int .i64 0, .slice none 0 0, .slice none 0 0, .int .i64 0, .slice none 0 0] 34) := ⟨_, rfl⟩
    rw [← hw2] at R2 B2 ⊢
    clear hw2
    have f0 := R2.out.free 0
    have f1 := R2.out.free 1
    have f2 := R2.out.free 2
    have f3 := R2.out.free 3
    have f4 := R2.out.free 4
    have f5 := R2.out.free 5
    have f6 := R2.out.free 6
    obtain ⟨r0, r1, r2, r3, r4, r5, r6⟩ := cells7 R2.out
    go_wp2_with fail
    obtain ⟨wz, hwz⟩ : ∃ X, X = ((((((w2.setCell ⟨w.heap.size, 0, none⟩ (.string ⟨#[]⟩)).setCell ⟨w.heap.size, 1, none⟩ (.int .i64 0)).setCell ⟨w.heap.size, 2, none⟩ (.int .i64 0)).setCell ⟨w.heap.size, 3, none⟩ (.slice none 0 0)).setCell ⟨w.heap.size, 4, none⟩ (.slice none 0 0)).setCell ⟨w.heap.size, 5, none⟩ (.int .i64 0)).setCell ⟨w.heap.size, 6, none⟩ (.slice none 0 0) := ⟨_, rfl⟩
    have KZ : Blk wz w.heap.size [.string ⟨#[]⟩, .int .i64 0, .int .i64 0, .slice none 0 0, .slice none 0 0, .int .i64 0, .slice none 0 0] 34 := by rw [hwz]; exact ((((((R2.out.set 0 (.string ⟨#[]⟩)).set 1 (.int .i64 0)).set 2 (.int .i64 0)).set 3 (.slice none 0 0)).set 4 (.slice none 0 0)).set 5 (.int .i64 0)).set 6 (.slice none 0 0)
    have TZ : Touch w2 wz w.heap.size (w.heap.size + 1) := by rw [hwz]; exact ((((((touch_setK w2 w.heap.size 0 (.string ⟨#[]⟩)).trans (touch_setK _ w.heap.size 1 (.int .i64 0))).trans (touch_setK _ w.heap.size 2 (.int .i64 0))).trans (touch_setK _ w.heap.size 3 (.slice none 0 0))).trans (touch_setK _ w.heap.size 4 (.slice none 0 0))).trans (touch_setK _ w.heap.size 5 (.int .i64 0))).trans (touch_setK _ w.heap.size 6 (.slice none 0 0))
    have BZ : Below w.heap.size w wz := below_touch B2.out TZ (Nat.le_refl _) (Nat.le_of_lt R2.out.lt)
    rw [← hwz]
    clear hwz r0 r1 r2 r3 r4 r5 r6
    obtain ⟨r0, r1, r2, r3, r4, r5, r6⟩ := cells7 KZ
    exact bodyPost_ret (v := .tuple #[.agg zero7, .bool false]) (by simp [results, Try.results25, go_sem, zero7, r0, r1, r2, r3, r4, r5, r6]) rfl (LoadedR.no HFn.out BZ)
  | some r =>
    obtain ⟨v, n⟩ := r
    dsimp only at hr
    obtain ⟨aA, cA, aB, cB, aW, cW, rfl, hO⟩ := hr
    have hn0 := hT.out v n rfl
    have R2 := Lib.hid (hR1.alloc (.cells #[.string v.s, .int .i64 v.R, .int .i64 v.C, .slice aA v.A.length cA, .slice aB v.B.length cB, .int .i64 v.P, .slice aW v.W.length cW] 34))
    have B2 := Lib.hid (hb1.alloc (by omega) (.cells #[.string v.s, .int .i64 v.R, .int .i64 v.C, .slice aA v.A.length cA, .slice aB v.B.length cB, .int .i64 v.P, .slice aW v.W.length cW] 34))
    have O2 := Lib.hid (hO.keep (bl1 w1 (.cells #[.string v.s, .int .i64 v.R, .int .i64 v.C, .slice aA v.A.length cA, .slice aB v.B.length cB, .int .i64 v.P, .slice aW v.W.length cW] 34)))
    have K2 := Lib.hid (Blk.new w1 [.string v.s, .int .i64 v.R, .int .i64 v.C, .slice aA v.A.length cA, .slice aB v.B.length cB, .int .i64 v.P, .slice aW v.W.length cW] 34)
    rw [World.size_alloc] at O2
    clear hb hb1 hR1 KR0 B0 L1 hT hO
    have n1 : ¬ (n : Int) = 0 := by omega
    have n0 : (0 : Int) ≤ (n : Int) := Int.natCast_nonneg _
    by_cases hn : n = s.size
    · have HFs : Hid (F = (v, true)) := by rw [Hid, HF.out]; show (if (n == 0 || n != s.size) = true then (zeroSv, false) else (v, true)) = (v, true); rw [if_neg]; simp only [Bool.or_eq_true, beq_iff_eq, bne_iff_ne, ne_eq]; omega
      subst hn
      have hse : ¬ s = ByteArray.empty := by rintro rfl; exact hn0 rfl
      clear HF hn0 n0
      go_upto_region 2 with fail
      obtain ⟨w2, hw2⟩ : ∃ X, X = w1.alloc (.cells #[.string v.s, .int .i64 v.R, .int .i64 v.C, .slice aA v.A.length cA, .slice aB v.B.length cB, .int .i64 v.P, .slice aW v.W.length cW] 34) := ⟨_, rfl⟩
      have hs2 : w2.heap.size = w1.heap.size + 1 := by rw [hw2]; simp
      rw [← hw2] at R2 B2 O2 K2 ⊢
      clear hw2
      obtain ⟨z0, z1, z2, z3, z4, z5, z6⟩ := cells7 K2.out
      have f0 := R2.out.free 0
      have f1 := R2.out.free 1
      have f2 := R2.out.free 2
      have f3 := R2.out.free 3
      have f4 := R2.out.free 4
      have f5 := R2.out.free 5
      have f6 := R2.out.free 6
      obtain ⟨r0, r1, r2, r3, r4, r5, r6⟩ := cells7 R2.out
      go_wp2_with fail
      obtain ⟨wz, hwz⟩ : ∃ X, X = ((((((w2.setCell ⟨w.heap.size, 0, none⟩ (.string v.s)).setCell ⟨w.heap.size, 1, none⟩ (.int .i64 v.R)).setCell ⟨w.heap.size, 2, none⟩ (.int .i64 v.C)).setCell ⟨w.heap.size, 3, none⟩ (.slice aA v.A.length cA)).setCell ⟨w.heap.size, 4, none⟩ (.slice aB v.B.length cB)).setCell ⟨w.heap.size, 5, none⟩ (.int .i64 v.P)).setCell ⟨w.heap.size, 6, none⟩ (.slice aW v.W.length cW) := ⟨_, rfl⟩
      have KZ : Blk wz w.heap.size [.string v.s, .int .i64 v.R, .int .i64 v.C, .slice aA v.A.length cA, .slice aB v.B.length cB, .int .i64 v.P, .slice aW v.W.length cW] 34 := by rw [hwz]; exact ((((((R2.out.set 0 (.string v.s)).set 1 (.int .i64 v.R)).set 2 (.int .i64 v.C)).set 3 (.slice aA v.A.length cA)).set 4 (.slice aB v.B.length cB)).set 5 (.int .i64 v.P)).set 6 (.slice aW v.W.length cW)
      have TZ : Touch w2 wz w.heap.size (w.heap.size + 1) := by rw [hwz]; exact ((((((touch_setK w2 w.heap.size 0 (.string v.s)).trans (touch_setK _ w.heap.size 1 (.int .i64 v.R))).trans (touch_setK _ w.heap.size 2 (.int .i64 v.C))).trans (touch_setK _ w.heap.size 3 (.slice aA v.A.length cA))).trans (touch_setK _ w.heap.size 4 (.slice aB v.B.length cB))).trans (touch_setK _ w.heap.size 5 (.int .i64 v.P))).trans (touch_setK _ w.heap.size 6 (.slice aW v.W.length cW))
      have BZ : Below w.heap.size w wz := below_touch B2.out TZ (Nat.le_refl _) (Nat.le_of_lt R2.out.lt)
      rw [← hwz]
      clear hwz r0 r1 r2 r3 r4 r5 r6
      obtain ⟨r0, r1, r2, r3, r4, r5, r6⟩ := cells7 KZ
      have hAB : Below w.heap.size w wz := BZ
      refine bodyPost_ret (v := .tuple #[.agg #[.string v.s, .int .i64 v.R, .int .i64 v.C, .slice aA v.A.length cA, .slice aB v.B.length cB, .int .i64 v.P, .slice aW v.W.length cW], .bool true]) (by simp [results, Try.results25, go_sem, r0, r1, r2, r3, r4, r5, r6]) rfl ?_
      rw [HFs.out]
      exact ⟨BZ, aA, cA, aB, cB, aW, cW, rfl, ownS_up (ownS_touch O2.out TZ (.inr (Nat.le_refl _))) (Nat.le_succ _) (by have := TZ.size; simpa using Nat.le_trans (by simp [hs2]) this)⟩
    · have HFn : Hid (F = (zeroSv, false)) := by rw [Hid, HF.out]; simp [hn]
      have hnb : ((n : Int) == 0) = false := by rw [beq_eq_false_iff_ne]; exact n1
      have hnc : ((n : Int) != (s.size : Int)) = true := by rw [bne_iff_ne]; omega
      clear HF hn hn0
      go_upto_region 2 with fail
      obtain ⟨w2, hw2⟩ : ∃ X, X = w1.alloc (.cells #[.string v.s, .int .i64 v.R, .int .i64 v.C, .slice aA v.A.length cA, .slice aB v.B.length cB, .int .i64 v.P, .slice aW v.W.length cW] 34) := ⟨_, rfl⟩
      rw [← hw2] at R2 B2 O2 K2 ⊢
      clear hw2
      have f0 := R2.out.free 0
      have f1 := R2.out.free 1
      have f2 := R2.out.free 2
      have f3 := R2.out.free 3
      have f4 := R2.out.free 4
      have f5 := R2.out.free 5
      have f6 := R2.out.free 6
      obtain ⟨r0, r1, r2, r3, r4, r5, r6⟩ := cells7 R2.out
      go_wp2_with fail
      obtain ⟨wz, hwz⟩ : ∃ X, X = ((((((w2.setCell ⟨w.heap.size, 0, none⟩ (.string ⟨#[]⟩)).setCell ⟨w.heap.size, 1, none⟩ (.int .i64 0)).setCell ⟨w.heap.size, 2, none⟩ (.int .i64 0)).setCell ⟨w.heap.size, 3, none⟩ (.slice none 0 0)).setCell ⟨w.heap.size, 4, none⟩ (.slice none 0 0)).setCell ⟨w.heap.size, 5, none⟩ (.int .i64 0)).setCell ⟨w.heap.size, 6, none⟩ (.slice none 0 0) := ⟨_, rfl⟩
      have KZ : Blk wz w.heap.size [.string ⟨#[]⟩, .int .i64 0, .int .i64 0, .slice none 0 0, .slice none 0 0, .int .i64 0, .slice none 0 0] 34 := by rw [hwz]; exact ((((((R2.out.set 0 (.string ⟨#[]⟩)).set 1 (.int .i64 0)).set 2 (.int .i64 0)).set 3 (.slice none 0 0)).set 4 (.slice none 0 0)).set 5 (.int .i64 0)).set 6 (.slice none 0 0)
      have TZ : Touch w2 wz w.heap.size (w.heap.size + 1) := by rw [hwz]; exact ((((((touch_setK w2 w.heap.size 0 (.string ⟨#[]⟩)).trans (touch_setK _ w.heap.size 1 (.int .i64 0))).trans (touch_setK _ w.heap.size 2 (.int .i64 0))).trans (touch_setK _ w.heap.size 3 (.slice none 0 0))).trans (touch_setK _ w.heap.size 4 (.slice none 0 0))).trans (touch_setK _ w.heap.size 5 (.int .i64 0))).trans (touch_setK _ w.heap.size 6 (.slice none 0 0))
      have BZ : Below w.heap.size w wz := below_touch B2.out TZ (Nat.le_refl _) (Nat.le_of_lt R2.out.lt)
      rw [← hwz]
      clear hwz r0 r1 r2 r3 r4 r5 r6
      obtain ⟨r0, r1, r2, r3, r4, r5, r6⟩ := cells7 KZ
      exact bodyPost_ret (v := .tuple #[.agg zero7, .bool false]) (by simp [results, Try.results25, go_sem, zero7, r0, r1, r2, r3, r4, r5, r6]) rfl (LoadedR.no HFn.out BZ)
set_option maxRecDepth 10000 in
set_option maxHeartbeats 4000000 in
theorem loadSavedR_any (w : World) (s : ByteArray) (hs : s.size ≤ 1048576) : Calls Try.prog 24 #[.string s] w (LoadedR w (loadF s)) := by
  have KR0 := Lib.hid (Blk.new w zero7.toList 34)
  have B0 := Lib.hid (bl1 w (.cells zero7 34))
  have HF : Hid (loadF s = match takenF s with
    | none => (zeroSv, false)
    | some (v, n) => if (n == 0 || n != s.size) = true then (zeroSv, false) else (v, true)) := rfl
  have L1 := Lib.hid (l07Begin_any (w.alloc (.cells zero7 34)) s (by omega))
  rw [begin_taken] at L1
  have hT : Hid (∀ v n, takenF s = some (v, n) → n ≠ 0) := fun v n h => by
    have := (taken_only h).2.1
    have := svL_len_eq v
    omega
  generalize loadF s = F at *
  have s0 : (0 : Int) ≤ (s.size : Int) := Int.natCast_nonneg _
  have s1 : (s.size : Int) ≤ 1048576 := by omega
  clear hs
  go_enter Try.func24, Try.ntmps24
  go_wp2_with fail
  refine L1.out.mono ?_
  rintro e w1 ⟨hb, hr⟩
  have hb1 := below_then B0.out hb
  have hR1 := KR0.out.same hb
  have hbs : w.heap.size + 1 ≤ w1.heap.size := by have := hb.size; simpa using this
  generalize takenF s = T at *
  cases T with
  | none =>
    dsimp only at hr
    subst hr
    have HFn : Hid (F = (zeroSv, false)) := HF.out
    have R2 := Lib.hid (hR1.alloc (.cells zero7 34))
    have B2 := Lib.hid (hb1.alloc (by omega) (.cells zero7 34))
    simp only [zero7] at R2 B2
    clear hb hb1 hR1 KR0 B0 HF L1
    simp only [zero7]
    go_upto_region 2 with fail
    obtain ⟨w2, hw2⟩ : ∃ X, X = w1.alloc (.cells #[.string ⟨#[]⟩, .int .i64 0, .int .i64 0, .slice none 0 0, .slice none 0 0, .int .i64 0, .slice none 0 0] 34) := ⟨_, rfl⟩
    rw [← hw2] at R2 B2 ⊢
    clear hw2
    have f0 := R2.out.free 0
    have f1 := R2.out.free 1
    have f2 := R2.out.free 2
    have f3 := R2.out.free 3
    have f4 := R2.out.free 4
    have f5 := R2.out.free 5
    have f6 := R2.out.free 6
    obtain ⟨r0, r1, r2, r3, r4, r5, r6⟩ := cells7 R2.out
    go_wp2_with fail
    obtain ⟨wz, hwz⟩ : ∃ X, X = ((((((w2.setCell ⟨w.heap.size, 0, none⟩ (.string ⟨#[]⟩)).setCell ⟨w.heap.size, 1, none⟩ (.int .i64 0)).setCell ⟨w.heap.size, 2, none⟩ (.int .i64 0)).setCell ⟨w.heap.size, 3, none⟩ (.slice none 0 0)).setCell ⟨w.heap.size, 4, none⟩ (.slice none 0 0)).setCell ⟨w.heap.size, 5, none⟩ (.int .i64 0)).setCell ⟨w.heap.size, 6, none⟩ (.slice none 0 0) := ⟨_, rfl⟩
    have KZ : Blk wz w.heap.size [.string ⟨#[]⟩, .int .i64 0, .int .i64 0, .slice none 0 0, .slice none 0 0, .int .i64 0, .slice none 0 0] 34 := by rw [hwz]; exact ((((((R2.out.set 0 (.string ⟨#[]⟩)).set 1 (.int .i64 0)).set 2 (.int .i64 0)).set 3 (.slice none 0 0)).set 4 (.slice none 0 0)).set 5 (.int .i64 0)).set 6 (.slice none 0 0)
    have TZ : Touch w2 wz w.heap.size (w.heap.size + 1) := by rw [hwz]; exact ((((((touch_setK w2 w.heap.size 0 (.string ⟨#[]⟩)).trans (touch_setK _ w.heap.size 1 (.int .i64 0))).trans (touch_setK _ w.heap.size 2 (.int .i64 0))).trans (touch_setK _ w.heap.size 3 (.slice none 0 0))).trans (touch_setK _ w.heap.size 4 (.slice none 0 0))).trans (touch_setK _ w.heap.size 5 (.int .i64 0))).trans (touch_setK _ w.heap.size 6 (.slice none 0 0))
    have BZ : Below w.heap.size w wz := below_touch B2.out TZ (Nat.le_refl _) (Nat.le_of_lt R2.out.lt)
    rw [← hwz]
    clear hwz r0 r1 r2 r3 r4 r5 r6
    obtain ⟨r0, r1, r2, r3, r4, r5, r6⟩ := cells7 KZ
    exact bodyPost_ret (v := .tuple #[.agg zero7, .bool false]) (by simp [results, Try.results24, go_sem, zero7, r0, r1, r2, r3, r4, r5, r6]) rfl (LoadedR.no HFn.out BZ)
  | some r =>
    obtain ⟨v, n⟩ := r
    dsimp only at hr
    obtain ⟨aA, cA, aB, cB, aW, cW, rfl, hO⟩ := hr
    have hn0 := hT.out v n rfl
    have R2 := Lib.hid (hR1.alloc (.cells #[.string v.s, .int .i64 v.R, .int .i64 v.C, .slice aA v.A.length cA, .slice aB v.B.length cB, .int .i64 v.P, .slice aW v.W.length cW] 34))
    have B2 := Lib.hid (hb1.alloc (by omega) (.cells #[.string v.s, .int .i64 v.R, .int .i64 v.C, .slice aA v.A.length cA, .slice aB v.B.length cB, .int .i64 v.P, .slice aW v.W.length cW] 34))
    have O2 := Lib.hid (hO.keep (bl1 w1 (.cells #[.string v.s, .int .i64 v.R, .int .i64 v.C, .slice aA v.A.length cA, .slice aB v.B.length cB, .int .i64 v.P, .slice aW v.W.length cW] 34)))
    have K2 := Lib.hid (Blk.new w1 [.string v.s, .int .i64 v.R, .int .i64 v.C, .slice aA v.A.length cA, .slice aB v.B.length cB, .int .i64 v.P, .slice aW v.W.length cW] 34)
    rw [World.size_alloc] at O2
    clear hb hb1 hR1 KR0 B0 L1 hT hO
    have n1 : ¬ (n : Int) = 0 := by omega
    have n0 : (0 : Int) ≤ (n : Int) := Int.natCast_nonneg _
    by_cases hn : n = s.size
    · have HFs : Hid (F = (v, true)) := by rw [Hid, HF.out]; show (if (n == 0 || n != s.size) = true then (zeroSv, false) else (v, true)) = (v, true); rw [if_neg]; simp only [Bool.or_eq_true, beq_iff_eq, bne_iff_ne, ne_eq]; omega
      subst hn
      have hse : ¬ s = ByteArray.empty := by rintro rfl; exact hn0 rfl
      clear HF hn0 n0
      go_upto_region 2 with fail
      obtain ⟨w2, hw2⟩ : ∃ X, X = w1.alloc (.cells #[.string v.s, .int .i64 v.R, .int .i64 v.C, .slice aA v.A.length cA, .slice aB v.B.length cB, .int .i64 v.P, .slice aW v.W.length cW] 34) := ⟨_, rfl⟩
      have hs2 : w2.heap.size = w1.heap.size + 1 := by rw [hw2]; simp
      rw [← hw2] at R2 B2 O2 K2 ⊢
      clear hw2
      obtain ⟨z0, z1, z2, z3, z4, z5, z6⟩ := cells7 K2.out
      have f0 := R2.out.free 0
      have f1 := R2.out.free 1
      have f2 := R2.out.free 2
      have f3 := R2.out.free 3
      have f4 := R2.out.free 4
      have f5 := R2.out.free 5
      have f6 := R2.out.free 6
      obtain ⟨r0, r1, r2, r3, r4, r5, r6⟩ := cells7 R2.out
      go_wp2_with fail
      obtain ⟨wz, hwz⟩ : ∃ X, X = ((((((w2.setCell ⟨w.heap.size, 0, none⟩ (.string v.s)).setCell ⟨w.heap.size, 1, none⟩ (.int .i64 v.R)).setCell ⟨w.heap.size, 2, none⟩ (.int .i64 v.C)).setCell ⟨w.heap.size, 3, none⟩ (.slice aA v.A.length cA)).setCell ⟨w.heap.size, 4, none⟩ (.slice aB v.B.length cB)).setCell ⟨w.heap.size, 5, none⟩ (.int .i64 v.P)).setCell ⟨w.heap.size, 6, none⟩ (.slice aW v.W.length cW) := ⟨_, rfl⟩
      have KZ : Blk wz w.heap.size [.string v.s, .int .i64 v.R, .int .i64 v.C, .slice aA v.A.length cA, .slice aB v.B.length cB, .int .i64 v.P, .slice aW v.W.length cW] 34 := by rw [hwz]; exact ((((((R2.out.set 0 (.string v.s)).set 1 (.int .i64 v.R)).set 2 (.int .i64 v.C)).set 3 (.slice aA v.A.length cA)).set 4 (.slice aB v.B.length cB)).set 5 (.int .i64 v.P)).set 6 (.slice aW v.W.length cW)
      have TZ : Touch w2 wz w.heap.size (w.heap.size + 1) := by rw [hwz]; exact ((((((touch_setK w2 w.heap.size 0 (.string v.s)).trans (touch_setK _ w.heap.size 1 (.int .i64 v.R))).trans (touch_setK _ w.heap.size 2 (.int .i64 v.C))).trans (touch_setK _ w.heap.size 3 (.slice aA v.A.length cA))).trans (touch_setK _ w.heap.size 4 (.slice aB v.B.length cB))).trans (touch_setK _ w.heap.size 5 (.int .i64 v.P))).trans (touch_setK _ w.heap.size 6 (.slice aW v.W.length cW))
      have BZ : Below w.heap.size w wz := below_touch B2.out TZ (Nat.le_refl _) (Nat.le_of_lt R2.out.lt)
      rw [← hwz]
      clear hwz r0 r1 r2 r3 r4 r5 r6
      obtain ⟨r0, r1, r2, r3, r4, r5, r6⟩ := cells7 KZ
      have hAB : Below w.heap.size w wz := BZ
      refine bodyPost_ret (v := .tuple #[.agg #[.string v.s, .int .i64 v.R, .int .i64 v.C, .slice aA v.A.length cA, .slice aB v.B.length cB, .int .i64 v.P, .slice aW v.W.length cW], .bool true]) (by simp [results, Try.results24, go_sem, r0, r1, r2, r3, r4, r5, r6]) rfl ?_
      rw [HFs.out]
      exact ⟨BZ, aA, cA, aB, cB, aW, cW, rfl, ownS_up (ownS_touch O2.out TZ (.inr (Nat.le_refl _))) (Nat.le_succ _) (by have := TZ.size; simpa using Nat.le_trans (by simp [hs2]) this)⟩
    · have HFn : Hid (F = (zeroSv, false)) := by rw [Hid, HF.out]; simp [hn]
      have hnb : ((n : Int) == 0) = false := by rw [beq_eq_false_iff_ne]; exact n1
      have hnc : ((n : Int) != (s.size : Int)) = true := by rw [bne_iff_ne]; omega
      clear HF hn hn0
      go_upto_region 2 with fail
      obtain ⟨w2, hw2⟩ : ∃ X, X = w1.alloc (.cells #[.string v.s, .int .i64 v.R, .int .i64 v.C, .slice aA v.A.length cA, .slice aB v.B.length cB, .int .i64 v.P, .slice aW v.W.length cW] 34) := ⟨_, rfl⟩
      rw [← hw2] at R2 B2 O2 K2 ⊢
      clear hw2
      have f0 := R2.out.free 0
      have f1 := R2.out.free 1
      have f2 := R2.out.free 2
      have f3 := R2.out.free 3
      have f4 := R2.out.free 4
      have f5 := R2.out.free 5
      have f6 := R2.out.free 6
      obtain ⟨r0, r1, r2, r3, r4, r5, r6⟩ := cells7 R2.out
      go_wp2_with fail
      obtain ⟨wz, hwz⟩ : ∃ X, X = ((((((w2.setCell ⟨w.heap.size, 0, none⟩ (.string ⟨#[]⟩)).setCell ⟨w.heap.size, 1, none⟩ (.int .i64 0)).setCell ⟨w.heap.size, 2, none⟩ (.int .i64 0)).setCell ⟨w.heap.size, 3, none⟩ (.slice none 0 0)).setCell ⟨w.heap.size, 4, none⟩ (.slice none 0 0)).setCell ⟨w.heap.size, 5, none⟩ (.int .i64 0)).setCell ⟨w.heap.size, 6, none⟩ (.slice none 0 0) := ⟨_, rfl⟩
      have KZ : Blk wz w.heap.size [.string ⟨#[]⟩, .int .i64 0, .int .i64 0, .slice none 0 0, .slice none 0 0, .int .i64 0, .slice none 0 0] 34 := by rw [hwz]; exact ((((((R2.out.set 0 (.string ⟨#[]⟩)).set 1 (.int .i64 0)).set 2 (.int .i64 0)).set 3 (.slice none 0 0)).set 4 (.slice none 0 0)).set 5 (.int .i64 0)).set 6 (.slice none 0 0)
      have TZ : Touch w2 wz w.heap.size (w.heap.size + 1) := by rw [hwz]; exact ((((((touch_setK w2 w.heap.size 0 (.string ⟨#[]⟩)).trans (touch_setK _ w.heap.size 1 (.int .i64 0))).trans (touch_setK _ w.heap.size 2 (.int .i64 0))).trans (touch_setK _ w.heap.size 3 (.slice none 0 0))).trans (touch_setK _ w.heap.size 4 (.slice none 0 0))).trans (touch_setK _ w.heap.size 5 (.int .i64 0))).trans (touch_setK _ w.heap.size 6 (.slice none 0 0))
      have BZ : Below w.heap.size w wz := below_touch B2.out TZ (Nat.le_refl _) (Nat.le_of_lt R2.out.lt)
      rw [← hwz]
      clear hwz r0 r1 r2 r3 r4 r5 r6
      obtain ⟨r0, r1, r2, r3, r4, r5, r6⟩ := cells7 KZ
      exact bodyPost_ret (v := .tuple #[.agg zero7, .bool false]) (by simp [results, Try.results24, go_sem, zero7, r0, r1, r2, r3, r4, r5, r6]) rfl (LoadedR.no HFn.out BZ)
end Go.Proofs.Yteclpcmbicjjgaa
