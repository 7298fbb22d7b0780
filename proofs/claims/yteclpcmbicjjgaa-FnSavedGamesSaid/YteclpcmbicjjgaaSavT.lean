/-
  Saved: what the law's helpers on it compute.
-/
import Derived.Test.YteclpcmbicjjgaaGameT
import Derived.Test.YteclpcmbicjjgaaWorthsT
namespace Go.Proofs.Yteclpcmbicjjgaa
set_option linter.unusedVariables false
set_option linter.unusedSimpArgs false
open Go.RowKit

/-- The rows of what is saved read so. -/
structure RdSaved (w : World) (Z : Nat) (aA : Option Addr) (xA : List Int) (aB : Option Addr) (xB : List Int) (aW : Option Addr) (xW : List Int) : Prop where
  A : Rd w Z aA (ints xA)
  B : Rd w Z aB (ints xB)
  W : Rd w Z aW (ints xW)
section
variable {w w' : World} {Z Y lo hi : Nat} {aA aB aW : Option Addr} {cA cB cW : Nat} {xA xB xW : List Int}
theorem RdSaved.to (h : RdSaved w w.heap.size aA xA aB xB aW xW) (hb : Below w.heap.size w w') : RdSaved w' w'.heap.size aA xA aB xB aW xW := ⟨h.A.to hb, h.B.to hb, h.W.to hb⟩
theorem RdSaved.below (h : RdSaved w Z aA xA aB xB aW xW) (hb : Below Y w w') (hZ : Z ≤ Y) : RdSaved w' Z aA xA aB xB aW xW := ⟨h.A.below hb hZ, h.B.below hb hZ, h.W.below hb hZ⟩
theorem RdSaved.mono (h : RdSaved w Z aA xA aB xB aW xW) (hZ : Z ≤ Y) : RdSaved w Y aA xA aB xB aW xW := ⟨h.A.mono hZ, h.B.mono hZ, h.W.mono hZ⟩
end
theorem cells7 {w : World} {g : Nat} {t : TypeId} {v0 v1 v2 v3 v4 v5 v6 : Value} (h : Blk w g [v0, v1, v2, v3, v4, v5, v6] t) :
    w.cell? ⟨g, 0, none⟩ = some v0 ∧ w.cell? ⟨g, 1, none⟩ = some v1 ∧ w.cell? ⟨g, 2, none⟩ = some v2 ∧ w.cell? ⟨g, 3, none⟩ = some v3 ∧ w.cell? ⟨g, 4, none⟩ = some v4 ∧ w.cell? ⟨g, 5, none⟩ = some v5 ∧ w.cell? ⟨g, 6, none⟩ = some v6 :=
  ⟨h.cell 0, h.cell 1, h.cell 2, h.cell 3, h.cell 4, h.cell 5, h.cell 6⟩
theorem two7 {w : World} {g k : Nat} {t s : TypeId} {v0 v1 v2 v3 v4 v5 v6 u0 u1 u2 u3 u4 u5 u6 : Value} (h : Blk w g [v0, v1, v2, v3, v4, v5, v6] t) (h2 : Blk w k [u0, u1, u2, u3, u4, u5, u6] s) : w.cell? ⟨g, 0, none⟩ = some v0 ∧ w.cell? ⟨g, 1, none⟩ = some v1 ∧ w.cell? ⟨g, 2, none⟩ = some v2 ∧ w.cell? ⟨g, 3, none⟩ = some v3 ∧ w.cell? ⟨g, 4, none⟩ = some v4 ∧ w.cell? ⟨g, 5, none⟩ = some v5 ∧ w.cell? ⟨g, 6, none⟩ = some v6 ∧ w.cell? ⟨k, 0, none⟩ = some u0 ∧ w.cell? ⟨k, 1, none⟩ = some u1 ∧ w.cell? ⟨k, 2, none⟩ = some u2 ∧ w.cell? ⟨k, 3, none⟩ = some u3 ∧ w.cell? ⟨k, 4, none⟩ = some u4 ∧ w.cell? ⟨k, 5, none⟩ = some u5 ∧ w.cell? ⟨k, 6, none⟩ = some u6 := ⟨h.cell 0, h.cell 1, h.cell 2, h.cell 3, h.cell 4, h.cell 5, h.cell 6, h2.cell 0, h2.cell 1, h2.cell 2, h2.cell 3, h2.cell 4, h2.cell 5, h2.cell 6⟩
theorem blkat1S (w : World) (o : Obj) (cs : List Value) (t : TypeId) : Blk ((w.alloc o).alloc (.cells cs.toArray t)) (w.heap.size + 1) cs t := by
  have := Blk.new (w.alloc o) cs t
  simpa using this
theorem blkat2S (w : World) (o p : Obj) (cs : List Value) (t : TypeId) : Blk (((w.alloc o).alloc p).alloc (.cells cs.toArray t)) (w.heap.size + 1 + 1) cs t := by
  have := Blk.new ((w.alloc o).alloc p) cs t
  simpa using this
theorem touch_setS (w : World) (g j : Nat) (u : Value) : Touch w (w.setCell ⟨g, j, none⟩ u) g (g + 1) :=
  Touch.of_grown (g := g) (show w.grownBy (w.setCell ⟨g, j, none⟩ u) (some g) from ⟨rfl, rfl, rfl, by simp, fun i _ hi => Below.heap_setCell _ _ _ _ (fun e => hi (by simp [e]))⟩) (Nat.le_refl _) (Nat.lt_succ_self _)
structure St (w0 w : World) (box : List Value) (tb : TypeId) (fresh cur : List Value) (t : TypeId) : Prop where
  B : Below w0.heap.size w0 w
  K : Blk w w0.heap.size box tb
  J : Blk w (w0.heap.size + 1) fresh t
  M : Blk w (w0.heap.size + 1 + 1) cur t
  S : w0.heap.size + 3 ≤ w.heap.size
theorem St.call {w0 w w' : World} {box fresh cur : List Value} {tb t : TypeId} (s : St w0 w box tb fresh cur t) (hb : Below w.heap.size w w') : St w0 w' box tb fresh cur t :=
  ⟨below_then s.B hb, s.K.same hb, s.J.same hb, s.M.same hb, Nat.le_trans s.S hb.size⟩
def putG (w : World) (g : Nat) (v0 v1 v2 v3 : Value) : World := ((((w.setCell ⟨g, 1, none⟩ v0).setCell ⟨g, 2, none⟩ v1).setCell ⟨g, 3, none⟩ v2).setCell ⟨g, 4, none⟩ v3)
theorem putG_touch (w : World) (g : Nat) (v0 v1 v2 v3 : Value) : Touch w (putG w g v0 v1 v2 v3) g (g + 1) := (((touch_setS w g 1 v0).trans (touch_setS _ g 2 v1)).trans (touch_setS _ g 3 v2)).trans (touch_setS _ g 4 v3)
theorem St.do_putG {w0 w : World} {box fresh : List Value} {tb t : TypeId} {u0 u1 u2 u3 u4 u5 u6 : Value} (s : St w0 w box tb fresh [u0, u1, u2, u3, u4, u5, u6] t) (v0 v1 v2 v3 : Value) : St w0 (putG w (w0.heap.size + 1 + 1) v0 v1 v2 v3) box tb fresh [u0, v0, v1, v2, v3, u5, u6] t := by
  have m := ((((s.M).set 1 v0).set 2 v1).set 3 v2).set 4 v3
  simp only [List.set_cons_zero, List.set_cons_succ] at m
  exact ⟨(below_sto ((below_sto ((below_sto ((below_sto (s.B) (g := w0.heap.size + 1 + 1) (by omega) 1 v0)) (g := w0.heap.size + 1 + 1) (by omega) 2 v1)) (g := w0.heap.size + 1 + 1) (by omega) 3 v2)) (g := w0.heap.size + 1 + 1) (by omega) 4 v3), ((((s.K).oth (g := w0.heap.size + 1 + 1) (by omega) 1 v0).oth (g := w0.heap.size + 1 + 1) (by omega) 2 v1).oth (g := w0.heap.size + 1 + 1) (by omega) 3 v2).oth (g := w0.heap.size + 1 + 1) (by omega) 4 v3, ((((s.J).oth (g := w0.heap.size + 1 + 1) (by omega) 1 v0).oth (g := w0.heap.size + 1 + 1) (by omega) 2 v1).oth (g := w0.heap.size + 1 + 1) (by omega) 3 v2).oth (g := w0.heap.size + 1 + 1) (by omega) 4 v3, m, by have := s.S; simpa [putG] using this⟩
def putW (w : World) (g : Nat) (v0 v1 : Value) : World := ((w.setCell ⟨g, 5, none⟩ v0).setCell ⟨g, 6, none⟩ v1)
theorem putW_touch (w : World) (g : Nat) (v0 v1 : Value) : Touch w (putW w g v0 v1) g (g + 1) := (touch_setS w g 5 v0).trans (touch_setS _ g 6 v1)
theorem St.do_putW {w0 w : World} {box fresh : List Value} {tb t : TypeId} {u0 u1 u2 u3 u4 u5 u6 : Value} (s : St w0 w box tb fresh [u0, u1, u2, u3, u4, u5, u6] t) (v0 v1 : Value) : St w0 (putW w (w0.heap.size + 1 + 1) v0 v1) box tb fresh [u0, u1, u2, u3, u4, v0, v1] t := by
  have m := ((s.M).set 5 v0).set 6 v1
  simp only [List.set_cons_zero, List.set_cons_succ] at m
  exact ⟨(below_sto ((below_sto (s.B) (g := w0.heap.size + 1 + 1) (by omega) 5 v0)) (g := w0.heap.size + 1 + 1) (by omega) 6 v1), ((s.K).oth (g := w0.heap.size + 1 + 1) (by omega) 5 v0).oth (g := w0.heap.size + 1 + 1) (by omega) 6 v1, ((s.J).oth (g := w0.heap.size + 1 + 1) (by omega) 5 v0).oth (g := w0.heap.size + 1 + 1) (by omega) 6 v1, m, by have := s.S; simpa [putW] using this⟩
def putS (w : World) (g : Nat) (v0 v1 v2 v3 v4 v5 v6 : Value) : World := (((((((w.setCell ⟨g, 0, none⟩ v0).setCell ⟨g, 1, none⟩ v1).setCell ⟨g, 2, none⟩ v2).setCell ⟨g, 3, none⟩ v3).setCell ⟨g, 4, none⟩ v4).setCell ⟨g, 5, none⟩ v5).setCell ⟨g, 6, none⟩ v6)
theorem putS_touch (w : World) (g : Nat) (v0 v1 v2 v3 v4 v5 v6 : Value) : Touch w (putS w g v0 v1 v2 v3 v4 v5 v6) g (g + 1) := ((((((touch_setS w g 0 v0).trans (touch_setS _ g 1 v1)).trans (touch_setS _ g 2 v2)).trans (touch_setS _ g 3 v3)).trans (touch_setS _ g 4 v4)).trans (touch_setS _ g 5 v5)).trans (touch_setS _ g 6 v6)
theorem putS_below {w0 w : World} (h : Below w0.heap.size w0 w) (v0 v1 v2 v3 v4 v5 v6 : Value) : Below w0.heap.size w0 (putS w (w0.heap.size + 1) v0 v1 v2 v3 v4 v5 v6) := (below_sto ((below_sto ((below_sto ((below_sto ((below_sto ((below_sto ((below_sto (h) (g := w0.heap.size + 1) (by omega) 0 v0)) (g := w0.heap.size + 1) (by omega) 1 v1)) (g := w0.heap.size + 1) (by omega) 2 v2)) (g := w0.heap.size + 1) (by omega) 3 v3)) (g := w0.heap.size + 1) (by omega) 4 v4)) (g := w0.heap.size + 1) (by omega) 5 v5)) (g := w0.heap.size + 1) (by omega) 6 v6)
theorem putS_blk {w : World} {g : Nat} {t : TypeId} {u0 u1 u2 u3 u4 u5 u6 : Value} (k : Blk w g [u0, u1, u2, u3, u4, u5, u6] t) (v0 v1 v2 v3 v4 v5 v6 : Value) : Blk (putS w g v0 v1 v2 v3 v4 v5 v6) g [v0, v1, v2, v3, v4, v5, v6] t := by
  have m := (((((((k).set 0 v0).set 1 v1).set 2 v2).set 3 v3).set 4 v4).set 5 v5).set 6 v6
  simp only [List.set_cons_zero, List.set_cons_succ] at m
  exact m
theorem ownGame_mono {w : World} {lo hi lo' hi' : Nat} {a b : Option Addr} {c d : Nat} {x y : List Int} (h : OwnGame w lo hi a c x b d y) (h1 : lo' ≤ lo) (h2 : hi ≤ hi') : OwnGame w lo' hi' a c x b d y := by
  obtain ⟨m, hm, o1, o2⟩ := h
  exact ⟨m, by omega, o1.mono h1 (Nat.le_refl _), o2.mono (Nat.le_refl _) h2⟩
theorem ownWorths_mono {w : World} {lo hi lo' hi' : Nat} {a : Option Addr} {c : Nat} {x : List Int} (h : OwnWorths w lo hi a c x) (h1 : lo' ≤ lo) (h2 : hi ≤ hi') : OwnWorths w lo' hi' a c x := ⟨Nat.le_trans h1 (Nat.le_trans h.1 h2), h.2.mono h1 h2⟩
/-- The rows of what is saved, each in a stretch of its own. -/
def OwnSaved (w : World) (lo hi : Nat) (aA : Option Addr) (cA : Nat) (xA : List Int) (aB : Option Addr) (cB : Nat) (xB : List Int) (aW : Option Addr) (cW : Nat) (xW : List Int) : Prop :=
  ∃ m : Nat, lo ≤ m ∧ m ≤ hi ∧ hi ≤ w.heap.size ∧ OwnGame w lo m aA cA xA aB cB xB ∧ OwnWorths w m hi aW cW xW
section
variable {w w' : World} {lo hi : Nat} {aA aB aW : Option Addr} {cA cB cW : Nat} {xA xB xW : List Int}
theorem OwnSaved.rd (h : OwnSaved w lo hi aA cA xA aB cB xB aW cW xW) : RdSaved w w.heap.size aA xA aB xB aW xW := by
  obtain ⟨m, h1, h2, h3, o1, o2⟩ := h
  have r1 := o1.rd.mono (show m ≤ w.heap.size by omega)
  have r2 := o2.rd.mono (show hi ≤ w.heap.size by omega)
  exact ⟨r1.1, r1.2, r2⟩
theorem OwnSaved.keep (h : OwnSaved w lo hi aA cA xA aB cB xB aW cW xW) (hb : Below w.heap.size w w') : OwnSaved w' lo hi aA cA xA aB cB xB aW cW xW := by
  obtain ⟨m, h1, h2, h3, o1, o2⟩ := h
  exact ⟨m, h1, h2, Nat.le_trans h3 hb.size, o1.keep hb, o2.keep hb⟩
theorem OwnSaved.mono {lo' : Nat} (h : OwnSaved w lo hi aA cA xA aB cB xB aW cW xW) (h1 : lo' ≤ lo) : OwnSaved w lo' hi aA cA xA aB cB xB aW cW xW := by
  obtain ⟨m, h2, h3, h4, o1, o2⟩ := h
  exact ⟨m, Nat.le_trans h1 h2, h3, h4, ownGame_mono o1 h1 (Nat.le_refl _), o2⟩
end
set_option maxRecDepth 10000 in
set_option maxHeartbeats 8000000 in
theorem lawTo_Saved (w : World) (s : ByteArray) (R C P : Int) (aA : Option Addr) (cA : Nat) (xA : List Int) (aB : Option Addr) (cB : Nat) (xB : List Int) (aW : Option Addr) (cW : Nat) (xW : List Int)
    (h : RdSaved w w.heap.size aA xA aB xB aW xW) (lA : xA.length ≤ 1048576) (lB : xB.length ≤ 1048576) (lW : xW.length ≤ 1048576) :
    Calls Try.prog 12 #[.agg #[.string s, .int .i64 R, .int .i64 C, .slice aA xA.length cA, .slice aB xB.length cB, .int .i64 P, .slice aW xW.length cW]] w fun e w' => ∃ (aA' : Option Addr) (cA' : Nat) (aB' : Option Addr) (cB' : Nat) (aW' : Option Addr) (cW' : Nat), e = .returned (.agg #[.string s, .int .i64 R, .int .i64 C, .slice aA' xA.length cA', .slice aB' xB.length cB', .int .i64 P, .slice aW' xW.length cW']) ∧ OwnSaved w' w.heap.size w'.heap.size aA' cA' xA aB' cB' xB aW' cW' xW ∧ Below w.heap.size w w' := by
  have s0 : St w (((w.alloc (.cells #[.string s, .int .i64 R, .int .i64 C, .slice aA xA.length cA, .slice aB xB.length cB, .int .i64 P, .slice aW xW.length cW] 28)).alloc (.cells #[.string ⟨#[]⟩, .int .i64 0, .int .i64 0, .slice none 0 0, .slice none 0 0, .int .i64 0, .slice none 0 0] 34)).alloc (.cells #[.string s, .int .i64 0, .int .i64 0, .slice none 0 0, .slice none 0 0, .int .i64 0, .slice none 0 0] 34)) [.string s, .int .i64 R, .int .i64 C, .slice aA xA.length cA, .slice aB xB.length cB, .int .i64 P, .slice aW xW.length cW] 28 [.string ⟨#[]⟩, .int .i64 0, .int .i64 0, .slice none 0 0, .slice none 0 0, .int .i64 0, .slice none 0 0] [.string s, .int .i64 0, .int .i64 0, .slice none 0 0, .slice none 0 0, .int .i64 0, .slice none 0 0] 34 :=
    ⟨bl3 w _ _ _, ((Blk.new w [.string s, .int .i64 R, .int .i64 C, .slice aA xA.length cA, .slice aB xB.length cB, .int .i64 P, .slice aW xW.length cW] 28).alloc _).alloc _, (blkat1S w _ [.string ⟨#[]⟩, .int .i64 0, .int .i64 0, .slice none 0 0, .slice none 0 0, .int .i64 0, .slice none 0 0] 34).alloc _, blkat2S w _ _ [.string s, .int .i64 0, .int .i64 0, .slice none 0 0, .slice none 0 0, .int .i64 0, .slice none 0 0] 34, by simp⟩
  have L1 := Lib.hid (fun v hb => lawTo_Game v v.heap.size R C aA cA xA aB cB xB ⟨(h.to hb).A, (h.to hb).B⟩ (Nat.le_refl _) lA lB)
  have L2 := Lib.hid (fun v hb => lawTo_Worths v v.heap.size P aW cW xW (h.to hb).W (Nat.le_refl _) lW)
  clear h
  obtain ⟨w0, hW⟩ : ∃ W, W = (((w.alloc (.cells #[.string s, .int .i64 R, .int .i64 C, .slice aA xA.length cA, .slice aB xB.length cB, .int .i64 P, .slice aW xW.length cW] 28)).alloc (.cells #[.string ⟨#[]⟩, .int .i64 0, .int .i64 0, .slice none 0 0, .slice none 0 0, .int .i64 0, .slice none 0 0] 34)).alloc (.cells #[.string s, .int .i64 0, .int .i64 0, .slice none 0 0, .slice none 0 0, .int .i64 0, .slice none 0 0] 34)) := ⟨_, rfl⟩
  rw [← hW] at s0
  have H0 := Lib.hid s0
  have HW := Lib.hid hW
  clear hW s0
  go_enter Try.func12, Try.ntmps12
  go_wp2_with fail
  rw [← HW.out]
  clear HW
  refine (L1.out _ H0.out.B).mono ?_
  rintro e v1 ⟨aA', cA', aB', cB', rfl, o1, hb⟩
  have Ha := Lib.hid (H0.out.call hb)
  have Q1 := hb.size
  have Hb := Lib.hid (Ha.out.do_putG (.int .i64 R) (.int .i64 C) (.slice aA' xA.length cA') (.slice aB' xB.length cB'))
  have hs := H0.out.S
  have TT := Lib.hid (putG_touch v1 (w.heap.size + 1 + 1) (.int .i64 R) (.int .i64 C) (.slice aA' xA.length cA') (.slice aB' xB.length cB'))
  have O1 := Lib.hid (o1.touch TT.out (.inr (by omega)))
  obtain ⟨w1, hw⟩ : ∃ W, W = putG v1 (w.heap.size + 1 + 1) (.int .i64 R) (.int .i64 C) (.slice aA' xA.length cA') (.slice aB' xB.length cB') := ⟨_, rfl⟩
  rw [← hw] at O1 Hb TT
  have R1 : w1.heap.size = v1.heap.size := by rw [hw]; simp [putG]
  simp only [putG] at hw
  have HW := Lib.hid hw
  have H1 := Hb
  clear hw hb Hb TT H0
  obtain ⟨z0, z1, z2, z3, z4, z5, z6⟩ := cells7 Ha.out.K
  obtain ⟨y0, y1, y2, y3, y4, y5, y6⟩ := cells7 Ha.out.M
  have f0 := Ha.out.M.free 0
  have f1 := Ha.out.M.free 1
  have f2 := Ha.out.M.free 2
  have f3 := Ha.out.M.free 3
  have f4 := Ha.out.M.free 4
  have f5 := Ha.out.M.free 5
  have f6 := Ha.out.M.free 6
  go_wp2_with fail
  rw [← HW.out]
  clear Ha HW z0 z1 z2 z3 z4 z5 z6 y0 y1 y2 y3 y4 y5 y6 f0 f1 f2 f3 f4 f5 f6
  refine (L2.out _ H1.out.B).mono ?_
  rintro e v2 ⟨aW', cW', rfl, o2, hb⟩
  have Ha := Lib.hid (H1.out.call hb)
  have Q2 := hb.size
  have O1' := Lib.hid (O1.out.keep hb)
  clear O1
  have O1 := O1'
  clear O1'
  have Hb := Lib.hid (Ha.out.do_putW (.int .i64 P) (.slice aW' xW.length cW'))
  have hs := H1.out.S
  have TT := Lib.hid (putW_touch v2 (w.heap.size + 1 + 1) (.int .i64 P) (.slice aW' xW.length cW'))
  have O2 := Lib.hid (o2.touch TT.out (.inr (by omega)))
  have O1' := Lib.hid (O1.out.touch TT.out (.inr (by omega)))
  clear O1
  have O1 := O1'
  clear O1'
  obtain ⟨w2, hw⟩ : ∃ W, W = putW v2 (w.heap.size + 1 + 1) (.int .i64 P) (.slice aW' xW.length cW') := ⟨_, rfl⟩
  rw [← hw] at O1 O2 Hb TT
  have R2 : w2.heap.size = v2.heap.size := by rw [hw]; simp [putW]
  have G0 := Lib.hid (putS_below Hb.out.B (.string s) (.int .i64 R) (.int .i64 C) (.slice aA' xA.length cA') (.slice aB' xB.length cB') (.int .i64 P) (.slice aW' xW.length cW'))
  have G1 := Lib.hid (putS_blk Hb.out.J (.string s) (.int .i64 R) (.int .i64 C) (.slice aA' xA.length cA') (.slice aB' xB.length cB') (.int .i64 P) (.slice aW' xW.length cW'))
  have GT := Lib.hid (putS_touch w2 (w.heap.size + 1) (.string s) (.int .i64 R) (.int .i64 C) (.slice aA' xA.length cA') (.slice aB' xB.length cB') (.int .i64 P) (.slice aW' xW.length cW'))
  have O1' := Lib.hid (O1.out.touch GT.out (.inr (by omega)))
  clear O1
  have O1 := O1'
  clear O1'
  have O2' := Lib.hid (O2.out.touch GT.out (.inr (by omega)))
  clear O2
  have O2 := O2'
  clear O2'
  have J4 := Hb.out.J
  have M4 := Hb.out.M
  clear o2 hb TT GT H1 Hb
  rw [hw] at J4 M4
  simp only [putW] at hw J4 M4
  obtain ⟨w5, hw5⟩ : ∃ W, W = putS w2 (w.heap.size + 1) (.string s) (.int .i64 R) (.int .i64 C) (.slice aA' xA.length cA') (.slice aB' xB.length cB') (.int .i64 P) (.slice aW' xW.length cW') := ⟨_, rfl⟩
  rw [← hw5] at O1 O2 G0 G1
  have R5 : w5.heap.size = w2.heap.size := by rw [hw5]; simp [putS]
  rw [hw] at hw5
  simp only [putS] at hw5
  have HW5 := Lib.hid hw5
  clear hw hw5
  obtain ⟨z0, z1, z2, z3, z4, z5, z6⟩ := cells7 Ha.out.K
  obtain ⟨y0, y1, y2, y3, y4, y5, y6⟩ := cells7 Ha.out.M
  have f5 := Ha.out.M.free 5
  have f6 := Ha.out.M.free 6
  obtain ⟨p0, p1, p2, p3, p4, p5, p6⟩ := cells7 M4
  obtain ⟨j0, j1, j2, j3, j4, j5, j6⟩ := cells7 J4
  have jf0 := J4.free 0
  have jf1 := J4.free 1
  have jf2 := J4.free 2
  have jf3 := J4.free 3
  have jf4 := J4.free 4
  have jf5 := J4.free 5
  have jf6 := J4.free 6
  clear J4 M4
  have HF : Hid (OwnSaved w5 w.heap.size w5.heap.size aA' cA' xA aB' cB' xB aW' cW' xW) := by
    have c1 := R1; have c2 := R2; have c5 := R5
    exact ⟨v1.heap.size, by omega, by omega, Nat.le_refl _, ownGame_mono O1.out (by omega) (by omega), ownWorths_mono O2.out (by omega) (by omega)⟩
  clear O1 O2
  go_wp2_with fail
  rw [← HW5.out]
  obtain ⟨r0, r1, r2, r3, r4, r5, r6⟩ := cells7 G1.out
  exact bodyPost_ret (v := .agg #[.string s, .int .i64 R, .int .i64 C, .slice aA' xA.length cA', .slice aB' xB.length cB', .int .i64 P, .slice aW' xW.length cW']) (by simp [results, Try.results12, go_sem, r0, r1, r2, r3, r4, r5, r6]) rfl ⟨_, _, _, _, _, _, rfl, HF.out, G0.out⟩
end Go.Proofs.Yteclpcmbicjjgaa
