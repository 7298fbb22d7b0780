/-
  Marks on a list of what is saved: the walk.
-/
import Derived.Test.YteclpcmbicjjgaaMkV
import Derived.Test.YteclpcmbicjjgaaLater
namespace Go.Proofs.Yteclpcmbicjjgaa
set_option linter.unusedVariables false
set_option linter.unusedSimpArgs false
open Go.RowKit

/-- An entry in the middle of its round. -/
structure ElW (w : World) (g k l p q m : Nat) (cs : List Value) (aA : Option Addr) (cA : Nat) (xA : List Int) (aB : Option Addr) (cB : Nat) (xB : List Int) (aW : Option Addr) (cW : Nat) (xW : List Int) : Prop where
  cl : ∀ j, j < 7 → w.cell? ⟨g, k * 7 + j, none⟩ = cs[j]?
  fz : ∀ j, w.frozen? ⟨g, j, none⟩ = false
  gs : g < w.heap.size
  A : OwnI 2 w l p aA cA xA
  B : OwnI 2 w p q aB cB xB
  W : OwnI 2 w q m aW cW xW
section
variable {w w' : World} {g k l p q m : Nat} {cs : List Value} {aA aB aW : Option Addr} {cA cB cW : Nat} {xA xB xW : List Int}
theorem ElW.below (h : ElW w g k l p q m cs aA cA xA aB cB xB aW cW xW) (hb : Below w.heap.size w w') : ElW w' g k l p q m cs aA cA xA aB cB xB aW cW xW := by
  have e := hb.block g h.gs
  exact ⟨fun j hj => (cell_blk e _).trans (h.cl j hj), fun j => (froz_blk e j).trans (h.fz j), Nat.lt_of_lt_of_le h.gs hb.size, h.A.keep hb, h.B.keep hb, h.W.keep hb⟩
theorem ElW.set (h : ElW w g k l p q m cs aA cA xA aB cB xB aW cW xW) (h7 : cs.length = 7) (ho : l ≤ p ∧ p ≤ q ∧ q ≤ m) (ha : g < l ∨ m ≤ g) {j : Nat} (hj : j < 7) (u : Value) : ElW (w.setCell ⟨g, k * 7 + j, none⟩ u) g k l p q m (cs.set j u) aA cA xA aB cB xB aW cW xW := by
  have t := touch_setK w g (k * 7 + j) u
  refine ⟨fun i hi => ?_, fun i => (frozen_set w g _ i u).trans (h.fz i), by simpa using h.gs, h.A.touch t (by omega), h.B.touch t (by omega), h.W.touch t (by omega)⟩
  by_cases e : i = j
  · subst e
    rw [World.cell?_setCell_same w _ u (u := cs[i]'(by omega)) (by rw [h.cl i hi, List.getElem?_eq_getElem (by omega)])]
    simp [h7, hi]
  · rw [cell_set_other w u (by omega), h.cl i hi, List.getElem?_set_ne (by omega)]
theorem ElW.touchA {xA' : List Int} (h : ElW w g k l p q m cs aA cA xA aB cB xB aW cW xW) (ho : l ≤ p ∧ p ≤ q ∧ q ≤ m) (ha : g < l ∨ m ≤ g) (t : Touch w w' l p) (hA : OwnI 2 w' l p aA cA xA') : ElW w' g k l p q m cs aA cA xA' aB cB xB aW cW xW := by
  have e := t.block g h.gs (by omega)
  exact ⟨fun j hj => (cell_blk e _).trans (h.cl j hj), fun j => (froz_blk e j).trans (h.fz j), Nat.lt_of_lt_of_le h.gs t.size, hA, h.B.touch t (by omega), h.W.touch t (by omega)⟩
theorem ElW.touchB {xB' : List Int} (h : ElW w g k l p q m cs aA cA xA aB cB xB aW cW xW) (ho : l ≤ p ∧ p ≤ q ∧ q ≤ m) (ha : g < l ∨ m ≤ g) (t : Touch w w' p q) (hB : OwnI 2 w' p q aB cB xB') : ElW w' g k l p q m cs aA cA xA aB cB xB' aW cW xW := by
  have e := t.block g h.gs (by omega)
  exact ⟨fun j hj => (cell_blk e _).trans (h.cl j hj), fun j => (froz_blk e j).trans (h.fz j), Nat.lt_of_lt_of_le h.gs t.size, h.A.touch t (by omega), hB, h.W.touch t (by omega)⟩
theorem ElW.touchW {xW' : List Int} (h : ElW w g k l p q m cs aA cA xA aB cB xB aW cW xW) (ho : l ≤ p ∧ p ≤ q ∧ q ≤ m) (ha : g < l ∨ m ≤ g) (t : Touch w w' q m) (hW : OwnI 2 w' q m aW cW xW') : ElW w' g k l p q m cs aA cA xA aB cB xB aW cW xW' := by
  have e := t.block g h.gs (by omega)
  exact ⟨fun j hj => (cell_blk e _).trans (h.cl j hj), fun j => (froz_blk e j).trans (h.fz j), Nat.lt_of_lt_of_le h.gs t.size, h.A.touch t (by omega), h.B.touch t (by omega), hW⟩
theorem ElW.cells {v0 v1 v2 v3 v4 v5 v6 : Value} (h : ElW w g k l p q m [v0, v1, v2, v3, v4, v5, v6] aA cA xA aB cB xB aW cW xW) :
    w.cell? ⟨g, k * 7, none⟩ = some v0 ∧ w.cell? ⟨g, k * 7 + 1, none⟩ = some v1 ∧ w.cell? ⟨g, k * 7 + 2, none⟩ = some v2 ∧ w.cell? ⟨g, k * 7 + 1 + 1, none⟩ = some v2 ∧ w.cell? ⟨g, k * 7 + 3, none⟩ = some v3 ∧ w.cell? ⟨g, k * 7 + 1 + 2, none⟩ = some v3 ∧ w.cell? ⟨g, k * 7 + 4, none⟩ = some v4 ∧ w.cell? ⟨g, k * 7 + 1 + 3, none⟩ = some v4 ∧ w.cell? ⟨g, k * 7 + 5, none⟩ = some v5 ∧ w.cell? ⟨g, k * 7 + 6, none⟩ = some v6 ∧ w.cell? ⟨g, k * 7 + 5 + 1, none⟩ = some v6 :=
  ⟨h.cl 0 (by decide), h.cl 1 (by decide), h.cl 2 (by decide), h.cl 2 (by decide), h.cl 3 (by decide), h.cl 3 (by decide), h.cl 4 (by decide), h.cl 4 (by decide), h.cl 5 (by decide), h.cl 6 (by decide), h.cl 6 (by decide)⟩
theorem own_parts {lo hi : Nat} (h : OwnSaved w lo hi aA cA xA aB cB xB aW cW xW) : ∃ p q, (lo ≤ p ∧ p ≤ q ∧ q ≤ hi) ∧ hi ≤ w.heap.size ∧ OwnI 2 w lo p aA cA xA ∧ OwnI 2 w p q aB cB xB ∧ OwnI 2 w q hi aW cW xW := by
  obtain ⟨q, h1, h2, h3, ⟨p, hp, o1, o2⟩, hq, o3⟩ := h
  exact ⟨p, q, ⟨hp.1, hp.2, hq⟩, h3, o1, o2, o3⟩
theorem own_of_parts (ho : l ≤ p ∧ p ≤ q ∧ q ≤ m) (hm : m ≤ w.heap.size) (hA : OwnI 2 w l p aA cA xA) (hB : OwnI 2 w p q aB cB xB) (hW : OwnI 2 w q m aW cW xW) : OwnSaved w l m aA cA xA aB cB xB aW cW xW :=
  ⟨q, by omega, by omega, hm, ⟨p, ⟨ho.1, ho.2.1⟩, hA, hB⟩, ho.2.2, hW⟩
end
theorem mkF_self (f : Nat → Sv) (k : Nat) : mkF f k k = f k := by simp [mkF]
theorem mkF_next (f : Nat → Sv) (k j : Nat) : mkF f (k + 1) j = if j = k then mkSv (KS f k) (f k) else mkF f k j := by
  unfold mkF
  by_cases e : j = k
  · subst e; simp
  · simp [e]; by_cases h : j < k
    · simp [h, show j < k + 1 by omega]
    · simp [h, show ¬ j < k + 1 by omega]
theorem mkF_done {f : Nat → Sv} {n j : Nat} (h : j < n) : mkF f n j = mkSv (KS f j) (f j) := by simp [mkF, h]
set_option maxRecDepth 10000 in
set_option maxHeartbeats 8000000 in
theorem markSavedS_any (w : World) (lo g n c : Nat) (f : Nat → Sv) (hd : Nat → Hd) (L H : Nat → Nat) (h : MkV w lo g n f hd L H) (hn : n ≤ 8) (hf : ∀ k, k < n → (f k).A.length ≤ 100 ∧ (f k).B.length ≤ 100 ∧ (f k).W.length ≤ 100) :
    Calls Try.prog 30 #[.slice (some ⟨g, 0, none⟩) n c, .int .i64 1] w fun e w' => e = .returned (.int .i64 (KS f n)) ∧ MkV w' lo g n (mkF f n) hd L H ∧ Below lo w w' := by
  have HFl := Lib.hid hf
  have hKS : Hid (∀ k, k ≤ n → 1 ≤ KS f k ∧ KS f k ≤ 1 + 1000 * k) := fun k hk => KS_bd (fun j hj => by have := hf j hj; unfold szSv; omega) k hk
  have hlow : lo ≤ w.heap.size := Nat.le_trans h.lg (Nat.le_of_lt h.gs)
  have hlg := h.lg
  have M0 : Hid (MkV w lo g n (mkF f 0) hd L H) := h.congr fun j _ => by simp [mkF]
  clear h hf
  go_enter Try.func30, Try.ntmps30
  go_wp2_with fail
  go_loopw [5, 1] (fun iv kv wr => ∃ k : Nat, k ≤ n ∧ iv = .int .i64 k ∧ kv = .int .i64 (KS f k) ∧ Hid (MkV wr lo g n (mkF f k) hd L H) ∧ Below lo w wr) (fun iv _ _ => n - (intOf iv).toNat)
  case atStart => exact ⟨0, Nat.zero_le _, rfl, rfl, M0.out, Below.refl _ _⟩
  case round =>
    obtain ⟨k, hk, rfl, rfl, hM, hw⟩ := hrel
    have hws := hw.size
    obtain ⟨K1, K2⟩ := hKS.out k hk
    have HW := Lib.hid hw
    by_cases hlt : k < n
    · have hnext : KS f (k + 1) = KS f k + szSv (f k) := rfl
      obtain ⟨l1, l2, l3⟩ := HFl.out k hlt
      obtain ⟨o1, o2, o3⟩ := hM.out.own k hlt
      have hcl := hM.out.cl k hlt
      rw [mkF_self] at o2 hcl
      have hst : Hid (∀ (w' : World) (v : Sv), Oth wr w' lo g k (L k) (H k) → (∀ j, j < 7 → w'.cell? ⟨g, k * 7 + j, none⟩ = (cells1 v (hd k))[j]?) → OwnSaved w' (L k) (H k) (hd k).1 (hd k).2.1 v.A (hd k).2.2.1 (hd k).2.2.2.1 v.B (hd k).2.2.2.2.1 (hd k).2.2.2.2.2 v.W → MkV w' lo g n (fun j => if j = k then v else mkF f k j) hd L H) := fun w' v a b d => hM.out.step a hlt b d
      have hfz := hM.out.fz
      have hgs := hM.out.gs
      have HNX : Hid (∀ j, mkF f (k + 1) j = if j = k then mkSv (KS f k) (f k) else mkF f k j) := mkF_next f k
      rcases hE : hd k with ⟨aA, cA, aB, cB, aW, cW⟩
      rw [hE] at o2 hst hcl
      generalize L k = l at *
      generalize H k = m at *
      generalize f k = v at *
      obtain ⟨ns, R, C, A, B, P, X⟩ := v
      simp only at l1 l2 l3 o2 hcl hst
      obtain ⟨p, q, hpq, hm, pA, pB, pW⟩ := own_parts o2
      generalize hKK : KS f k = κ at *
      have E0 : Hid (ElW wr g k l p q m [.string ns, .int .i64 R, .int .i64 C, .slice aA A.length cA, .slice aB B.length cB, .int .i64 P, .slice aW X.length cW] aA cA A aB cB B aW cW X) := ⟨hcl, hfz, hgs, pA, pB, pW⟩
      have Y0 := Lib.hid (Oth.refl wr lo g k l m)
      have hks : (k : Int) < (n : Int) := by omega
      have k0 : (0 : Int) ≤ (k : Int) := Int.natCast_nonneg _
      have κ0 : (1 : Int) ≤ (κ : Int) := by omega
      have κ1 : (κ : Int) ≤ 10000 := by omega
      have LT := Lib.hid (markText_any κ (by omega) (by omega) wr)
      have HPQ := Lib.hid hpq
      have HN1 : Hid (KS f (k + 1) = κ + szSv ⟨ns, R, C, A, B, P, X⟩) := hnext
      clear hM o2 hcl hfz pA pB pW hE hKK hw hnext hpq
      obtain ⟨c0, c1, c2, c2', c3, c3', c4, c4', c5, c6, c6'⟩ := E0.out.cells
      go_wp2_with fail
      refine LT.out.mono ?_
      rintro e w1 ⟨rfl, hb⟩
      have E1 := Lib.hid (E0.out.below hb)
      have Y1 := Lib.hid (Y0.out.below hb hgs (by omega))
      have s1 := hb.size
      clear c0 c1 c2 c2' c3 c3' c4 c4' c5 c6 c6' hb LT E0 Y0
      obtain ⟨c0, c1, c2, c2', c3, c3', c4, c4', c5, c6, c6'⟩ := E1.out.cells
      have z0 := E1.out.fz (k * 7)
      have z1 := E1.out.fz (k * 7 + 1)
      have z2 := E1.out.fz (k * 7 + 2)
      have z2' := E1.out.fz (k * 7 + 1 + 1)
      go_upto_region 10 with fail
      clear c0 c1 c2 c2' c3 c3' c4 c4' c5 c6 c6' z0 z1 z2 z2'
      have E2 := ((E1.out.set rfl HPQ.out o3 (j := 0) (by decide) (.string (mtF κ))).set rfl HPQ.out o3 (j := 1) (by decide) (.int .i64 ((κ : Int) + 1))).set rfl HPQ.out o3 (j := 2) (by decide) (.int .i64 ((κ : Int) + 1 + 1))
      have Y2 := ((Y1.out.set (j := k * 7) (by omega) (by omega) hlg (.string (mtF κ))).set (j := k * 7 + 1) (by omega) (by omega) hlg (.int .i64 ((κ : Int) + 1))).set (j := k * 7 + 2) (by omega) (by omega) hlg (.int .i64 ((κ : Int) + 1 + 1))
      simp only [List.set_cons_zero, List.set_cons_succ] at E2
      obtain ⟨w2, hw2⟩ : ∃ W, W = ((w1.setCell ⟨g, k * 7, none⟩ (.string (mtF κ))).setCell ⟨g, k * 7 + 1, none⟩ (.int .i64 ((κ : Int) + 1))).setCell ⟨g, k * 7 + 1 + 1, none⟩ (.int .i64 ((κ : Int) + 1 + 1)) := ⟨_, rfl⟩
      have E2 : Hid (ElW w2 g k l p q m [.string (mtF κ), .int .i64 ((κ : Int) + 1), .int .i64 ((κ : Int) + 1 + 1), .slice aA A.length cA, .slice aB B.length cB, .int .i64 P, .slice aW X.length cW] aA cA A aB cB B aW cW X) := by rw [hw2]; exact E2
      have Y2 : Hid (Oth wr w2 lo g k l m) := by rw [hw2]; exact Y2
      have s2 : w2.heap.size = w1.heap.size := by rw [hw2]; simp
      rw [← hw2]
      clear hw2 E1 Y1
      have LA := Lib.hid (lawMark_I w2 l p aA cA A ((κ : Int) + 1 + 1 + 1) E2.out.A (by omega) (by omega) (by omega))
      obtain ⟨c0, c1, c2, c2', c3, c3', c4, c4', c5, c6, c6'⟩ := E2.out.cells
      go_wp2_with fail
      refine LA.out.mono ?_
      rintro e w3 ⟨rfl, qA, tA⟩
      have E3 := Lib.hid (E2.out.touchA HPQ.out o3 tA qA)
      have Y3 := Lib.hid (Y2.out.touch tA (Nat.le_refl _) (by have := HPQ.out; omega) hgs o3 o1 (by omega))
      have s3 := tA.size
      clear c0 c1 c2 c2' c3 c3' c4 c4' c5 c6 c6' qA tA LA E2 Y2
      have LB := Lib.hid (lawMark_I w3 p q aB cB B ((κ : Int) + 1 + 1 + 1 + A.length) E3.out.B (by omega) (by omega) (by omega))
      obtain ⟨c0, c1, c2, c2', c3, c3', c4, c4', c5, c6, c6'⟩ := E3.out.cells
      go_wp2_with fail
      refine LB.out.mono ?_
      rintro e w4 ⟨rfl, qB, tB⟩
      have E4 := Lib.hid (E3.out.touchB HPQ.out o3 tB qB)
      have Y4 := Lib.hid (Y3.out.touch tB (by have := HPQ.out; omega) (by have := HPQ.out; omega) hgs o3 o1 (by omega))
      have s4 := tB.size
      clear c0 c1 c2 c2' c3 c3' c4 c4' c5 c6 c6' qB tB LB E3 Y3
      obtain ⟨c0, c1, c2, c2', c3, c3', c4, c4', c5, c6, c6'⟩ := E4.out.cells
      have z5 := E4.out.fz (k * 7 + 5)
      go_upto_region 14 with fail
      clear c0 c1 c2 c2' c3 c3' c4 c4' c5 c6 c6' z5
      have E5 := E4.out.set rfl HPQ.out o3 (j := 5) (by decide) (.int .i64 ((κ : Int) + 1 + 1 + 1 + A.length + B.length))
      have Y5 := Y4.out.set (j := k * 7 + 5) (by omega) (by omega) hlg (.int .i64 ((κ : Int) + 1 + 1 + 1 + A.length + B.length))
      simp only [List.set_cons_zero, List.set_cons_succ] at E5
      obtain ⟨w5, hw5⟩ : ∃ W, W = w4.setCell ⟨g, k * 7 + 5, none⟩ (.int .i64 ((κ : Int) + 1 + 1 + 1 + A.length + B.length)) := ⟨_, rfl⟩
      have s5 : w5.heap.size = w4.heap.size := by rw [hw5]; simp
      rw [← hw5] at E5 Y5 ⊢
      have E5 := Lib.hid E5
      have Y5 := Lib.hid Y5
      clear hw5 E4 Y4
      have LX := Lib.hid (lawMark_I w5 q m aW cW X ((κ : Int) + 1 + 1 + 1 + A.length + B.length + 1) E5.out.W (by omega) (by omega) (by omega))
      obtain ⟨c0, c1, c2, c2', c3, c3', c4, c4', c5, c6, c6'⟩ := E5.out.cells
      go_wp2_with fail
      refine LX.out.mono ?_
      rintro e w6 ⟨rfl, qW, tW⟩
      have E6 := Lib.hid (E5.out.touchW HPQ.out o3 tW qW)
      have Y6 := Lib.hid (Y5.out.touch tW (by have := HPQ.out; omega) (Nat.le_refl _) hgs o3 o1 (by omega))
      have s6 := tW.size
      clear c0 c1 c2 c2' c3 c3' c4 c4' c5 c6 c6' qW tW LX E5 Y5
      have M6 : Hid (MkV w6 lo g n (mkF f (k + 1)) hd L H) := by
        refine (hst.out w6 (mkSv κ ⟨ns, R, C, A, B, P, X⟩) Y6.out (fun j hj => ?_) ?_).congr fun j _ => HNX.out j
        · have := E6.out.cl j hj
          simp only [mkSv, cells1, marks_length]
          exact this
        · exact own_of_parts HPQ.out (by omega) E6.out.A E6.out.B E6.out.W
      have W6 := Lib.hid (HW.out.trans Y6.out.B)
      have hk2 : Hid ((κ : Int) + 1 + 1 + 1 + A.length + B.length + 1 + X.length = ((KS f (k + 1) : Nat) : Int)) := by rw [Hid, HN1.out]; simp [szSv]; omega
      clear E6 Y6 hst HNX HN1
      go_wp2_with fail
      go_roundw
      case rel => exact ⟨k + 1, by omega, by go_num, by rw [hk2.out], M6.out, W6.out⟩
      case measure => first | (simp [intOf]; done) | (simp [intOf]; omega)
    · have : k = n := by omega
      subst this
      go_wp2_with fail
      go_ret
      exact ⟨rfl, hM.out, HW.out⟩
end Go.Proofs.Yteclpcmbicjjgaa
