/-
  Drawn worths.
-/
import Derived.Test.YteclpcmbicjjgaaDrawO
namespace Go.Proofs.Yteclpcmbicjjgaa
set_option linter.unusedVariables false
set_option linter.unusedSimpArgs false
open Go.RowKit
theorem own_ne {w : World} {base e g n c q t : Nat} {vs : List Value} {cs : List Value} (h : w.ownsRow base e 1 (.slice (some ⟨g, 0, none⟩) n c) n vs) (hn : 1 ≤ n) (K : Blk w q cs t) (ht : t ≠ e) : g ≠ q := by
  intro e1
  subst e1
  obtain ⟨hl, h | ⟨g', cap, cur, hv, hb, hg, _⟩⟩ := h
  · omega
  · injection hv with ha _ _
    injection ha with ha
    injection ha with ha
    subst ha
    unfold Blk at K
    rw [hg] at K
    injection K with K
    injection K with _ K _
    exact ht K.symm
/-- The result's cell, the worths that are made, the source. -/
structure DV (w wX : World) (B0 b : Nat) (a : Option Addr) (xs : List Int) (c p g P gW cW : Nat) (l : List Int) : Prop where
  T : Touch w wX b (b + 1)
  D : DS wX B0 b a xs c p
  R : Blk wX w.heap.size [.int .i64 0, .slice none 0 0] 32
  V : Blk wX g [.int .i64 P, .slice (some ⟨gW, 0, none⟩) l.length cW] 32
  O : wX.ownsRow (w.heap.size + 1) 2 1 (.slice (some ⟨gW, 0, none⟩) l.length cW) l.length (ints l)
  L1 : 1 ≤ l.length
  L0 : l.getD 0 0 = 0
  L : ∀ x ∈ l, -10000 ≤ x ∧ x ≤ 10000
section
variable {w wX wY w5 : World} {B0 b c p p' g P gW cW g5 c5 : Nat} {a : Option Addr} {xs l : List Int}
theorem DV.ne (h : DV w wX B0 b a xs c p g P gW cW l) : gW ≠ g := own_ne h.O h.L1 h.V (by decide)
theorem DV.ge (h : DV w wX B0 b a xs c p g P gW cW l) : w.heap.size + 1 ≤ gW := (h.O.lt gW rfl).1
theorem DV.lt (h : DV w wX B0 b a xs c p g P gW cW l) : gW < wX.heap.size := (h.O.lt gW rfl).2
theorem DV.draw (h : DV w wX B0 b a xs c p g P gW cW l) (hb : b < w.heap.size) (hg : w.heap.size < g) (ht : Touch wX wY b (b + 1)) (hd : DS wY B0 b a xs c p') : DV w wY B0 b a xs c p' g P gW cW l :=
  ⟨h.T.trans ht, hd, h.R.touch ht (.inr (by omega)), h.V.touch ht (.inr (by omega)), own_grown h.O (touch_grown ht) (by omega), h.L1, h.L0, h.L⟩
theorem DV.below (h : DV w wX B0 b a xs c p g P gW cW l) (hb : Below wX.heap.size wX wY) : DV w wY B0 b a xs c p g P gW cW l :=
  ⟨h.T.trans (Below.touch hb b (b + 1)), h.D.same hb, h.R.same hb, h.V.same hb, own_below h.O hb, h.L1, h.L0, h.L⟩
theorem touch_hi {w w1 w2 : World} {b lo hi : Nat} (h : Touch w w1 b (b + 1)) (ht : Touch w1 w2 lo hi) (hlo : w.heap.size ≤ lo) : Touch w w2 b (b + 1) :=
  ⟨ht.os.trans h.os, ht.tape.trans h.tape, ht.output.trans h.output, Nat.le_trans h.size ht.size, fun k hk hd => (ht.block k (by have := h.size; omega) (by omega)).trans (h.block k hk hd)⟩
theorem DV.snoc {x : Int} (h : DV w wX B0 b a xs c p g P gW cW l) (hb : b < w.heap.size) (hg : w.heap.size < g) (hB : Below wX.heap.size wX wY) (hG : wY.grownBy w5 (some gW))
    (ho : w5.ownsRow (w.heap.size + 1) 2 1 (.slice (some ⟨g5, 0, none⟩) (l.length + 1) c5) (l.length + 1) (ints l ++ [.int .i64 x])) (hx : -10000 ≤ x ∧ x ≤ 10000) :
    DV w (w5.setCell ⟨g, 1, none⟩ (.slice (some ⟨g5, 0, none⟩) (l.length + 1) c5)) B0 b a xs c p g P g5 c5 (l ++ [x]) := by
  have hY := h.below hB
  have t5 := touch_of_grown' hG
  have hge := hY.ge
  have V5 := hY.V.touch t5 (by have := hY.ne; omega)
  have ts := touch_setD w5 g 1 (.slice (some ⟨g5, 0, none⟩) (l.length + 1) c5)
  have hne : g5 ≠ g := own_ne ho (by omega) V5 (by decide)
  refine ⟨touch_hi (touch_hi hY.T t5 (by omega)) ts (by omega), (hY.D.touch t5 (by omega)).touch ts (by omega), (hY.R.touch t5 (.inl (by omega))).touch ts (.inl hg), ?_, ?_, by simp, ?_, fun y hy => ?_⟩
  · have := V5.set 1 (.slice (some ⟨g5, 0, none⟩) (l.length + 1) c5)
    rw [List.length_append]; exact this
  · rw [List.length_append, ints_append]
    exact ho.kept (touch_grown ts) (.inr fun e => hne (by simpa [Value.ownBlock] using e))
  · have := h.L1
    rw [List.getD_eq_getElem?_getD, List.getElem?_append_left (by omega), ← List.getD_eq_getElem?_getD]
    exact h.L0
  · rcases List.mem_append.1 hy with hy | hy
    · exact h.L y hy
    · simp at hy; omega
end
def cntI (k : Nat) : Int := ((k % 2 + k / 2 % 2 + k / 4 % 2 : Nat) : Int)
set_option maxRecDepth 10000 in
theorem count_eq (K : Nat) (hK : K ≤ 7) (w : World) : Calls Try.prog 90 #[.int .i64 K] w fun e w' => e = .returned (.int .i64 (cntI K)) ∧ w = w' := by
  go_enter Try.func90, Try.ntmps90
  go_wp2_with fail
  go_loopw [0, 3] (fun iv v wr => ∃ (k : Nat) (x : Int), iv = .int .i64 k ∧ v = .int .i64 x ∧ 0 ≤ x ∧ x ≤ 3 ∧ (k : Int) ≤ 7 ∧ Hid (x + cntI k = cntI K) ∧ wr = w) (fun iv _ _ => (intOf iv).toNat)
  case atStart => exact ⟨K, 0, rfl, rfl, by omega, by omega, by omega, by rw [Hid]; omega, rfl⟩
  case round =>
    obtain ⟨k, x, rfl, rfl, hx0, hx, hk7, hS, rfl⟩ := hrel
    have k0 : (0 : Int) ≤ (k : Int) := Int.natCast_nonneg _
    by_cases hz : 0 < k
    · have hzi : (0 : Int) < (k : Int) := by omega
      go_wp2_with fail
      go_roundw
      case rel =>
        have hS := hS.out
        have hb : x + (k : Int) % 2 + cntI (k / 2) = cntI K ∧ x + (k : Int) % 2 ≤ 3 := by
          have h3 : cntI K ≤ 3 := by unfold cntI; omega
          unfold cntI at *
          omega
        exact ⟨k / 2, x + (k : Int) % 2, by go_num, by go_num, by omega, hb.2, by omega, hb.1, trivial⟩
      case measure => simp [intOf]; omega
    · have : k = 0 := by omega
      subst this
      have HE : Hid (cntI K = x) := by have := hS.out; rw [Hid, ← this]; simp [cntI]
      go_wp2_with fail
      go_ret
      exact ⟨ret_int HE.out.symm, rfl⟩
def WorthsR (w : World) (B0 b : Nat) (a : Option Addr) (xs : List Int) (c p P : Nat) (e : Ending) (w' : World) : Prop :=
  ∃ (aW : Option Addr) (cW : Nat) (W : List Int) (p' : Nat), e = .returned (.agg #[.int .i64 P, .slice aW W.length cW]) ∧ W.length = 2 ^ P ∧ W.getD 0 0 = 0 ∧ (∀ x ∈ W, -10000 ≤ x ∧ x ≤ 10000) ∧ OwnI 2 w' w.heap.size w'.heap.size aW cW W ∧ p' ≤ p + 20 ∧ DS w' B0 b a xs c p' ∧ Touch w w' b (b + 1)
set_option maxRecDepth 10000 in
set_option maxHeartbeats 4000000 in
theorem worths_ds (w : World) (B0 b : Nat) (a : Option Addr) (xs : List Int) (c p P : Nat) (h : DS w B0 b a xs c p) (hp : p ≤ 500000) (hP1 : 1 ≤ P) (hP : P ≤ 3) :
    Calls Try.prog 67 #[.pointer (some ⟨b, 0, none⟩), .int .i64 P] w (WorthsR w B0 b a xs c p P) := by
  have hbw := h.lt
  have P1 : (1 : Int) ≤ (P : Int) := by omega
  have P3 : (P : Int) ≤ 3 := by omega
  obtain ⟨N, hN⟩ : ∃ N, N = 2 ^ P := ⟨_, rfl⟩
  have N2 : 2 ≤ N ∧ N ≤ 8 := by
    have : P = 1 ∨ P = 2 ∨ P = 3 := by omega
    rcases this with rfl | rfl | rfl <;> subst hN <;> decide
  obtain ⟨N2, N8⟩ := N2
  have eW : wrap64 (2 ^ P) = (N : Int) := by
    have : (2 : Int) ^ P = (N : Int) := by rw [hN]; exact (Int.natCast_pow 2 P).symm
    rw [this]; unfold wrap64; omega
  have HN := Lib.hid hN
  clear hN
  have hs0 : b < w.heap.size := hbw
  obtain ⟨wA, hwA⟩ : ∃ Y, Y = ((w.alloc (.cells #[.int .i64 0, .slice none 0 0] 32)).alloc (.cells #[.int .i64 0] 2)).alloc (.cells #[.int .i64 P, .slice (some ⟨w.heap.size + 1, 0, none⟩) 1 1] 32) := ⟨_, rfl⟩
  have B0' : Below w.heap.size w wA := by rw [hwA]; exact bl3 w _ _ _
  have sA : wA.heap.size = w.heap.size + 3 := by rw [hwA]; simp
  have V0 : Hid (DV w wA B0 b a xs c p (w.heap.size + 1 + 1) P (w.heap.size + 1) 1 [0]) := by
    have K1 : Blk wA (w.heap.size + 1) (ints [0]) 2 := by
      rw [hwA]
      have := (Blk.new (w.alloc (.cells #[.int .i64 0, .slice none 0 0] 32)) [.int .i64 0] 2).same (bl1 _ (.cells #[.int .i64 P, .slice (some ⟨w.heap.size + 1, 0, none⟩) 1 1] 32))
      simpa [ints] using this
    refine ⟨Below.touch B0' b (b + 1), h.same B0', ?_, ?_, ?_, by simp, rfl, fun x hx => by simp at hx; omega⟩
    · rw [hwA]; exact (Blk.new w [.int .i64 0, .slice none 0 0] 32).same (bl2 _ _ _)
    · rw [hwA]
      have := Blk.new ((w.alloc (.cells #[.int .i64 0, .slice none 0 0] 32)).alloc (.cells #[.int .i64 0] 2)) [.int .i64 P, .slice (some ⟨w.heap.size + 1, 0, none⟩) 1 1] 32
      simpa using this
    · exact K1.owns (Nat.le_refl _) (by unfold maxLen; simp)
  have L1 := Lib.hid (pick_ds wA B0 b a xs c p 3 V0.out.D (by omega) (by omega))
  clear h
  go_enter Try.func67, Try.ntmps67
  go_wp2_with fail
  rw [← hwA]
  clear hwA
  refine L1.out.mono ?_
  rintro e w1 ⟨x, p1, rfl, ⟨x0, x1⟩, hp1, D1, T1⟩
  have V1 := Lib.hid (V0.out.draw hbw (by omega) T1 D1)
  have s1 := T1.size
  obtain ⟨g, hg⟩ : ∃ g, g = w.heap.size + 1 + 1 := ⟨_, rfl⟩
  rw [← hg] at V1 ⊢
  have hgw : w.heap.size < g := by omega
  have hgs : g < w1.heap.size := by omega
  clear L1 V0 D1 T1 B0' sA hg
  go_wp2_with fail
  have hx2 : x ≤ 2 := by omega
  clear x1 s1
  go_loopw [7] (fun kv wr => ∃ (k p' gW cW : Nat) (l : List Int), kv = .int .i64 k ∧ 1 ≤ k ∧ k ≤ N ∧ Hid (l.length = k) ∧ Hid (p' ≤ p + 1 + 2 * k) ∧ Hid (DV w wr B0 b a xs c p' g P gW cW l) ∧ g < wr.heap.size) (fun kv _ => N - (intOf kv).toNat)
  case atStart => exact ⟨1, p1, w.heap.size + 1, 1, [0], rfl, by omega, by omega, rfl, by rw [Hid]; omega, V1.out, hgs⟩
  case round =>
    obtain ⟨k, p', gW, cW, l, rfl, hk1, hkN, hL, hpp, hD, hgr⟩ := hrel
    by_cases hlt : k < N
    · have hki : (k : Int) < (N : Int) := by omega
      have k0 : (0 : Int) ≤ (k : Int) := Int.natCast_nonneg _
      have k7 : (k : Int) ≤ 7 := by omega
      have hp9 : p' ≤ 600000 := by have := hpp.out; omega
      have L2 := Lib.hid (pick_ds wr B0 b a xs c p' 13 hD.out.D (by omega) (by omega))
      cases e1 : (x == 1) with
      | true =>
        have e2 : (x == 2) = false := by have := eq_of_beq e1; rw [this]; rfl
        go_wp2_with fail
        refine L2.out.mono ?_
        rintro e w2 ⟨y, p2, rfl, ⟨y0, y1⟩, hp2, D2, T2⟩
        have D2 := Lib.hid (hD.out.draw hbw hgw T2 D2)
        have s2 := T2.size
        have y12 : y ≤ 12 := by omega
        have LC := Lib.hid (fun v => count_eq k (by omega) v)
        have hc : 0 ≤ cntI k ∧ cntI k ≤ 3 := by unfold cntI; omega
        generalize cntI k = cn at *
        obtain ⟨hc0, hc3⟩ := hc
        have hcc : 0 ≤ cn * cn ∧ cn * cn ≤ 9 := ⟨Int.mul_nonneg hc0 hc0, Int.mul_le_mul hc3 hc3 hc0 (by omega)⟩
        obtain ⟨hcc0, hcc9⟩ := hcc
        clear L2 T2 y1
        go_upto_region 11 with (go_at_call 90; refine (LC.out _).mono ?_; rintro e w' ⟨rfl, rfl⟩)
        obtain ⟨z, hz⟩ : ∃ z, z = cn * cn := ⟨_, rfl⟩
        rw [← hz] at hcc0 hcc9 ⊢
        clear hz hc0 hc3
        have V9 := D2.out.V
        rw [hL.out] at V9
        have k1 : w2.cell? ⟨g, 1, none⟩ = some (.slice (some ⟨gW, 0, none⟩) k cW) := V9.cell 1
        have z1 := V9.free 1
        have O9 := D2.out.O
        rw [hL.out] at O9
        have O9 := Lib.hid O9
        have s9 : w.heap.size + 1 ≤ w2.heap.size := by omega
        have N9 := Lib.hid D2.out.ne
        clear V9
        go_wp2_with (at_builtin; refine wpList_append_one _ rfl _ _ 22 rfl (w.heap.size + 1) 2 (.int .i64 0) 8 Try.underlying22 info_i64p rfl _ k _ rfl O9.out _ rfl rfl (by omega) (by omega) s9 ?_)
        intro v' w5 ho hgr
        obtain ⟨a5, c5, rfl, _⟩ := own_shape ho
        obtain ⟨g5, rfl, _, _⟩ := own_none (l := l ++ [z]) (by rw [ints_append]; exact ho) (by omega)
        have DS5 := Lib.hid (D2.out.snoc (g5 := g5) (c5 := c5) (x := z) hbw hgw (Below.refl _ _) hgr (by rw [hL.out]; exact ho) (by omega))
        rw [hL.out] at DS5
        have k5 := (((D2.out.below (Below.refl _ _)).V.touch (touch_of_grown' (g := gW) hgr) (by have := N9.out; omega)).cell 1)
        have z5 := (((D2.out.below (Below.refl _ _)).V.touch (touch_of_grown' (g := gW) hgr) (by have := N9.out; omega)).free 1)
        have s5 := hgr.size
        have HL5 : Hid ((l ++ [z]).length = k + 1) := by rw [Hid, List.length_append, hL.out]; rfl
        have HP5 : Hid (p2 ≤ p + 1 + 2 * (k + 1)) := by have := hpp.out; rw [Hid]; omega
        have hg5 : g < (w5.setCell ⟨g, 1, none⟩ (.slice (some ⟨g5, 0, none⟩) (k + 1) c5)).heap.size := by simp; omega
        simp only [List.getElem?_cons_succ, List.getElem?_cons_zero] at k5
        rw [hL.out] at k5
        clear ho hgr k1 z1 O9 D2 hD
        go_wp2_with fail
        go_roundw
        case rel => exact ⟨k + 1, p2, g5, c5, l ++ [z], by go_num, by omega, by omega, HL5.out, HP5.out, DS5.out, hg5⟩
        case measure => first | (simp [intOf]; done) | (simp [intOf]; omega)
      | false =>
        cases e2 : (x == 2) with
        | true =>
          go_wp2_with fail
          refine L2.out.mono ?_
          rintro e w2 ⟨y, p2, rfl, ⟨y0, y1⟩, hp2, D2, T2⟩
          have D2 := Lib.hid (hD.out.draw hbw hgw T2 D2)
          have s2 := T2.size
          have y12 : y ≤ 12 := by omega
          clear L2 T2 y1
          have L3 := Lib.hid (pick_ds w2 B0 b a xs c p2 2 D2.out.D (by omega) (by omega))
          go_wp2_with fail
          refine L3.out.mono ?_
          rintro e w3 ⟨z, p3, rfl, ⟨z0, z1⟩, hp3, D3, T3⟩
          have D3 := Lib.hid (D2.out.draw hbw hgw T3 D3)
          have s3 := T3.size
          have z12 : z ≤ 1 := by omega
          clear L3 T3 z1 D2
          have V9 := D3.out.V
          rw [hL.out] at V9
          have k1 : w3.cell? ⟨g, 1, none⟩ = some (.slice (some ⟨gW, 0, none⟩) k cW) := V9.cell 1
          have z1 := V9.free 1
          have O9 := D3.out.O
          rw [hL.out] at O9
          have O9 := Lib.hid O9
          have s9 : w.heap.size + 1 ≤ w3.heap.size := by omega
          have N9 := Lib.hid D3.out.ne
          clear V9
          go_wp2_with (at_builtin; refine wpList_append_one _ rfl _ _ 22 rfl (w.heap.size + 1) 2 (.int .i64 0) 8 Try.underlying22 info_i64p rfl _ k _ rfl O9.out _ rfl rfl (by omega) (by omega) s9 ?_)
          intro v' w5 ho hgr
          obtain ⟨a5, c5, rfl, _⟩ := own_shape ho
          obtain ⟨g5, rfl, _, _⟩ := own_none (l := l ++ [z]) (by rw [ints_append]; exact ho) (by omega)
          have DS5 := Lib.hid (D3.out.snoc (g5 := g5) (c5 := c5) (x := z) hbw hgw (Below.refl _ _) hgr (by rw [hL.out]; exact ho) (by omega))
          rw [hL.out] at DS5
          have k5 := (((D3.out.below (Below.refl _ _)).V.touch (touch_of_grown' (g := gW) hgr) (by have := N9.out; omega)).cell 1)
          have z5 := (((D3.out.below (Below.refl _ _)).V.touch (touch_of_grown' (g := gW) hgr) (by have := N9.out; omega)).free 1)
          have s5 := hgr.size
          have HL5 : Hid ((l ++ [z]).length = k + 1) := by rw [Hid, List.length_append, hL.out]; rfl
          have HP5 : Hid (p3 ≤ p + 1 + 2 * (k + 1)) := by have := hpp.out; rw [Hid]; omega
          have hg5 : g < (w5.setCell ⟨g, 1, none⟩ (.slice (some ⟨g5, 0, none⟩) (k + 1) c5)).heap.size := by simp; omega
          simp only [List.getElem?_cons_succ, List.getElem?_cons_zero] at k5
          rw [hL.out] at k5
          clear ho hgr k1 z1 O9 D3 hD
          go_wp2_with fail
          go_roundw
          case rel => exact ⟨k + 1, p3, g5, c5, l ++ [z], by go_num, by omega, by omega, HL5.out, HP5.out, DS5.out, hg5⟩
          case measure => first | (simp [intOf]; done) | (simp [intOf]; omega)
        | false =>
          go_wp2_with fail
          refine L2.out.mono ?_
          rintro e w2 ⟨y, p2, rfl, ⟨y0, y1⟩, hp2, D2, T2⟩
          have D2 := Lib.hid (hD.out.draw hbw hgw T2 D2)
          have s2 := T2.size
          have y12 : y ≤ 12 := by omega
          clear L2 T2 y1
          have V9 := D2.out.V
          rw [hL.out] at V9
          have k1 : w2.cell? ⟨g, 1, none⟩ = some (.slice (some ⟨gW, 0, none⟩) k cW) := V9.cell 1
          have z1 := V9.free 1
          have O9 := D2.out.O
          rw [hL.out] at O9
          have O9 := Lib.hid O9
          have s9 : w.heap.size + 1 ≤ w2.heap.size := by omega
          have N9 := Lib.hid D2.out.ne
          clear V9
          go_wp2_with (at_builtin; refine wpList_append_one _ rfl _ _ 22 rfl (w.heap.size + 1) 2 (.int .i64 0) 8 Try.underlying22 info_i64p rfl _ k _ rfl O9.out _ rfl rfl (by omega) (by omega) s9 ?_)
          intro v' w5 ho hgr
          obtain ⟨a5, c5, rfl, _⟩ := own_shape ho
          obtain ⟨g5, rfl, _, _⟩ := own_none (l := l ++ [(y - 3)]) (by rw [ints_append]; exact ho) (by omega)
          have DS5 := Lib.hid (D2.out.snoc (g5 := g5) (c5 := c5) (x := (y - 3)) hbw hgw (Below.refl _ _) hgr (by rw [hL.out]; exact ho) (by omega))
          rw [hL.out] at DS5
          have k5 := (((D2.out.below (Below.refl _ _)).V.touch (touch_of_grown' (g := gW) hgr) (by have := N9.out; omega)).cell 1)
          have z5 := (((D2.out.below (Below.refl _ _)).V.touch (touch_of_grown' (g := gW) hgr) (by have := N9.out; omega)).free 1)
          have s5 := hgr.size
          have HL5 : Hid ((l ++ [(y - 3)]).length = k + 1) := by rw [Hid, List.length_append, hL.out]; rfl
          have HP5 : Hid (p2 ≤ p + 1 + 2 * (k + 1)) := by have := hpp.out; rw [Hid]; omega
          have hg5 : g < (w5.setCell ⟨g, 1, none⟩ (.slice (some ⟨g5, 0, none⟩) (k + 1) c5)).heap.size := by simp; omega
          simp only [List.getElem?_cons_succ, List.getElem?_cons_zero] at k5
          rw [hL.out] at k5
          clear ho hgr k1 z1 O9 D2 hD
          go_wp2_with fail
          go_roundw
          case rel => exact ⟨k + 1, p2, g5, c5, l ++ [(y - 3)], by go_num, by omega, by omega, HL5.out, HP5.out, DS5.out, hg5⟩
          case measure => first | (simp [intOf]; done) | (simp [intOf]; omega)
    · obtain rfl : N = k := by omega
      cases e2 : (x == 2) with
      | true =>
        have k1 : wr.cell? ⟨g, 1, none⟩ = some (.slice (some ⟨gW, 0, none⟩) N cW) := by rw [← hL.out]; exact hD.out.V.cell 1
        have N1 : (1 : Int) ≤ (N : Int) := by omega
        have eN : ((N : Int) - 1).toNat = N - 1 := by omega
        have N0 : (0 : Int) ≤ (N : Int) - 1 := by omega
        have NL : (N : Int) - 1 < (N : Int) := by omega
        have hO := hD.out.O
        rw [hL.out] at hO
        obtain ⟨hc1, hc2⟩ := own_cellD hO (show N - 1 < N by omega)
        obtain ⟨oS, gS⟩ := own_setI hO (show N - 1 < N by omega) 1
        have tS := touch_of_grown' (g := gW) gS
        have hne := hD.out.ne
        have hge := hD.out.ge
        have HL5 : Hid ((l.set (N - 1) 1).length = N) := by rw [Hid, List.length_set]; exact hL.out
        have D5 : Hid (DV w (wr.setCell ⟨gW, N - 1, none⟩ (.int .i64 1)) B0 b a xs c p' g P gW cW (l.set (N - 1) 1)) := by
          refine ⟨touch_hi hD.out.T tS (by omega), hD.out.D.touch tS (by omega), hD.out.R.touch tS (.inl (by omega)), ?_, ?_, by rw [HL5.out]; omega, ?_, fun y hy => ?_⟩
          · have := hD.out.V.touch tS (by omega)
            rw [List.length_set]; exact this
          · rw [HL5.out]; exact oS
          · have := hD.out.L0
            rw [List.getD_eq_getElem?_getD, List.getElem?_set_ne (by omega), ← List.getD_eq_getElem?_getD]; exact this
          · rcases List.mem_or_eq_of_mem_set hy with h | h
            · exact hD.out.L y h
            · omega
        clear hO oS gS tS hne hge
        go_upto_region 14 with fail
        obtain ⟨w5, hw5⟩ : ∃ W, W = wr.setCell ⟨gW, N - 1, none⟩ (.int .i64 1) := ⟨_, rfl⟩
        rw [← hw5] at D5 ⊢
        clear hw5 hD k1 hc1 hc2
        have V9 := D5.out.V
        have k0 : w5.cell? ⟨g, 0, none⟩ = some (.int .i64 P) := V9.cell 0
        have k1 : w5.cell? ⟨g, 1, none⟩ = some (.slice (some ⟨gW, 0, none⟩) N cW) := by rw [← HL5.out]; exact V9.cell 1
        have y0 : w5.cell? ⟨w.heap.size, 0, none⟩ = some (.int .i64 0) := D5.out.R.cell 0
        have y1 : w5.cell? ⟨w.heap.size, 1, none⟩ = some (.slice none 0 0) := D5.out.R.cell 1
        have f0 := D5.out.R.free 0
        have f1 := D5.out.R.free 1
        clear V9
        go_wp2_with fail
        obtain ⟨wz, hwz⟩ : ∃ Y, Y = (w5.setCell ⟨w.heap.size, 0, none⟩ (.int .i64 P)).setCell ⟨w.heap.size, 1, none⟩ (.slice (some ⟨gW, 0, none⟩) N cW) := ⟨_, rfl⟩
        have KZ : Blk wz w.heap.size [.int .i64 P, .slice (some ⟨gW, 0, none⟩) N cW] 32 := by rw [hwz]; exact (D5.out.R.set 0 (.int .i64 P)).set 1 (.slice (some ⟨gW, 0, none⟩) N cW)
        have TZ : Touch w5 wz w.heap.size (w.heap.size + 1) := by rw [hwz]; exact (touch_setD w5 w.heap.size 0 (.int .i64 P)).trans (touch_setD _ w.heap.size 1 (.slice (some ⟨gW, 0, none⟩) N cW))
        have OZ : OwnI 2 wz w.heap.size wz.heap.size (some ⟨gW, 0, none⟩) cW (l.set (N - 1) 1) := OwnI.of_own (own_base (own_grown D5.out.O (touch_grown TZ) (by omega)) (by omega))
        have DZ := D5.out.D.touch TZ hbw
        have TT := touch_hi D5.out.T TZ (Nat.le_refl _)
        rw [← hwz]
        clear hwz y0 y1
        have y0 : wz.cell? ⟨w.heap.size, 0, none⟩ = some (.int .i64 P) := KZ.cell 0
        have y1 : wz.cell? ⟨w.heap.size, 1, none⟩ = some (.slice (some ⟨gW, 0, none⟩) N cW) := KZ.cell 1
        refine bodyPost_ret (v := .agg #[.int .i64 P, .slice (some ⟨gW, 0, none⟩) N cW]) (by simp [results, Try.results67, go_sem, y0, y1]) rfl ?_
        exact ⟨_, cW, (l.set (N - 1) 1), p', by rw [HL5.out], by rw [HL5.out]; exact HN.out, D5.out.L0, D5.out.L, OZ, by have := hpp.out; omega, DZ, TT⟩
      | false =>
        have V9 := hD.out.V
        have k0 : wr.cell? ⟨g, 0, none⟩ = some (.int .i64 P) := V9.cell 0
        have k1 : wr.cell? ⟨g, 1, none⟩ = some (.slice (some ⟨gW, 0, none⟩) N cW) := by rw [← hL.out]; exact V9.cell 1
        have y0 : wr.cell? ⟨w.heap.size, 0, none⟩ = some (.int .i64 0) := hD.out.R.cell 0
        have y1 : wr.cell? ⟨w.heap.size, 1, none⟩ = some (.slice none 0 0) := hD.out.R.cell 1
        have f0 := hD.out.R.free 0
        have f1 := hD.out.R.free 1
        clear V9
        go_wp2_with fail
        obtain ⟨wz, hwz⟩ : ∃ Y, Y = (wr.setCell ⟨w.heap.size, 0, none⟩ (.int .i64 P)).setCell ⟨w.heap.size, 1, none⟩ (.slice (some ⟨gW, 0, none⟩) N cW) := ⟨_, rfl⟩
        have KZ : Blk wz w.heap.size [.int .i64 P, .slice (some ⟨gW, 0, none⟩) N cW] 32 := by rw [hwz]; exact (hD.out.R.set 0 (.int .i64 P)).set 1 (.slice (some ⟨gW, 0, none⟩) N cW)
        have TZ : Touch wr wz w.heap.size (w.heap.size + 1) := by rw [hwz]; exact (touch_setD wr w.heap.size 0 (.int .i64 P)).trans (touch_setD _ w.heap.size 1 (.slice (some ⟨gW, 0, none⟩) N cW))
        have OZ : OwnI 2 wz w.heap.size wz.heap.size (some ⟨gW, 0, none⟩) cW l := OwnI.of_own (own_base (own_grown hD.out.O (touch_grown TZ) (by omega)) (by omega))
        have DZ := hD.out.D.touch TZ hbw
        have TT := touch_hi hD.out.T TZ (Nat.le_refl _)
        rw [← hwz]
        clear hwz y0 y1
        have y0 : wz.cell? ⟨w.heap.size, 0, none⟩ = some (.int .i64 P) := KZ.cell 0
        have y1 : wz.cell? ⟨w.heap.size, 1, none⟩ = some (.slice (some ⟨gW, 0, none⟩) N cW) := KZ.cell 1
        refine bodyPost_ret (v := .agg #[.int .i64 P, .slice (some ⟨gW, 0, none⟩) N cW]) (by simp [results, Try.results67, go_sem, y0, y1]) rfl ?_
        exact ⟨_, cW, l, p', by rw [hL.out], by rw [hL.out]; exact HN.out, hD.out.L0, hD.out.L, OZ, by have := hpp.out; omega, DZ, TT⟩
end Go.Proofs.Yteclpcmbicjjgaa
