/-
  The law's copy of a desk.
-/
import Derived.Test.YtdmeegfdmdbkiaaDeskZ
namespace Go.Proofs.Ytdmeegfdmdbkiaa
set_option linter.unusedVariables false
set_option linter.unusedSimpArgs false
open Go.RowKit

structure St (w0 w : World) (box : List Value) (tb : TypeId) (fresh cur : List Value) (t : TypeId) : Prop where
  B : Below w0.heap.size w0 w
  K : Blk w w0.heap.size box tb
  J : Blk w (w0.heap.size + 1) fresh t
  M : Blk w (w0.heap.size + 1 + 1) cur t
  S : w0.heap.size + 3 ≤ w.heap.size
theorem St.call {w0 w w' : World} {box fresh cur : List Value} {tb t : TypeId} (s : St w0 w box tb fresh cur t) (hb : Below w.heap.size w w') : St w0 w' box tb fresh cur t :=
  ⟨below_then s.B hb, s.K.same hb, s.J.same hb, s.M.same hb, Nat.le_trans s.S hb.size⟩
def putG (w : World) (g : Nat) (v0 v1 v2 v3 : Value) : World := ((((w.setCell ⟨g, 0, none⟩ v0).setCell ⟨g, 1, none⟩ v1).setCell ⟨g, 2, none⟩ v2).setCell ⟨g, 3, none⟩ v3)
theorem putG_touch (w : World) (g : Nat) (v0 v1 v2 v3 : Value) : Touch w (putG w g v0 v1 v2 v3) g (g + 1) := (((touch_set w g 0 v0).trans (touch_set _ g 1 v1)).trans (touch_set _ g 2 v2)).trans (touch_set _ g 3 v3)
theorem St.do_putG {w0 w : World} {box fresh : List Value} {tb t : TypeId} {u0 u1 u2 u3 u4 u5 u6 u7 u8 u9 u10 u11 : Value} (s : St w0 w box tb fresh [u0, u1, u2, u3, u4, u5, u6, u7, u8, u9, u10, u11] t) (v0 v1 v2 v3 : Value) : St w0 (putG w (w0.heap.size + 1 + 1) v0 v1 v2 v3) box tb fresh [v0, v1, v2, v3, u4, u5, u6, u7, u8, u9, u10, u11] t := by
  have m := ((((s.M).set 0 v0).set 1 v1).set 2 v2).set 3 v3
  simp only [List.set_cons_zero, List.set_cons_succ] at m
  exact ⟨(below_sto ((below_sto ((below_sto ((below_sto (s.B) (g := w0.heap.size + 1 + 1) (by omega) 0 v0)) (g := w0.heap.size + 1 + 1) (by omega) 1 v1)) (g := w0.heap.size + 1 + 1) (by omega) 2 v2)) (g := w0.heap.size + 1 + 1) (by omega) 3 v3), ((((s.K).oth (g := w0.heap.size + 1 + 1) (by omega) 0 v0).oth (g := w0.heap.size + 1 + 1) (by omega) 1 v1).oth (g := w0.heap.size + 1 + 1) (by omega) 2 v2).oth (g := w0.heap.size + 1 + 1) (by omega) 3 v3, ((((s.J).oth (g := w0.heap.size + 1 + 1) (by omega) 0 v0).oth (g := w0.heap.size + 1 + 1) (by omega) 1 v1).oth (g := w0.heap.size + 1 + 1) (by omega) 2 v2).oth (g := w0.heap.size + 1 + 1) (by omega) 3 v3, m, by have := s.S; simpa [putG] using this⟩
def putV (w : World) (g : Nat) (v0 v1 v2 : Value) : World := (((w.setCell ⟨g, 4, none⟩ v0).setCell ⟨g, 5, none⟩ v1).setCell ⟨g, 6, none⟩ v2)
theorem putV_touch (w : World) (g : Nat) (v0 v1 v2 : Value) : Touch w (putV w g v0 v1 v2) g (g + 1) := ((touch_set w g 4 v0).trans (touch_set _ g 5 v1)).trans (touch_set _ g 6 v2)
theorem St.do_putV {w0 w : World} {box fresh : List Value} {tb t : TypeId} {u0 u1 u2 u3 u4 u5 u6 u7 u8 u9 u10 u11 : Value} (s : St w0 w box tb fresh [u0, u1, u2, u3, u4, u5, u6, u7, u8, u9, u10, u11] t) (v0 v1 v2 : Value) : St w0 (putV w (w0.heap.size + 1 + 1) v0 v1 v2) box tb fresh [u0, u1, u2, u3, v0, v1, v2, u7, u8, u9, u10, u11] t := by
  have m := (((s.M).set 4 v0).set 5 v1).set 6 v2
  simp only [List.set_cons_zero, List.set_cons_succ] at m
  exact ⟨(below_sto ((below_sto ((below_sto (s.B) (g := w0.heap.size + 1 + 1) (by omega) 4 v0)) (g := w0.heap.size + 1 + 1) (by omega) 5 v1)) (g := w0.heap.size + 1 + 1) (by omega) 6 v2), (((s.K).oth (g := w0.heap.size + 1 + 1) (by omega) 4 v0).oth (g := w0.heap.size + 1 + 1) (by omega) 5 v1).oth (g := w0.heap.size + 1 + 1) (by omega) 6 v2, (((s.J).oth (g := w0.heap.size + 1 + 1) (by omega) 4 v0).oth (g := w0.heap.size + 1 + 1) (by omega) 5 v1).oth (g := w0.heap.size + 1 + 1) (by omega) 6 v2, m, by have := s.S; simpa [putV] using this⟩
def putC (w : World) (g : Nat) (v0 v1 v2 v3 : Value) : World := ((((w.setCell ⟨g, 7, none⟩ v0).setCell ⟨g, 8, none⟩ v1).setCell ⟨g, 9, none⟩ v2).setCell ⟨g, 10, none⟩ v3)
theorem putC_touch (w : World) (g : Nat) (v0 v1 v2 v3 : Value) : Touch w (putC w g v0 v1 v2 v3) g (g + 1) := (((touch_set w g 7 v0).trans (touch_set _ g 8 v1)).trans (touch_set _ g 9 v2)).trans (touch_set _ g 10 v3)
theorem St.do_putC {w0 w : World} {box fresh : List Value} {tb t : TypeId} {u0 u1 u2 u3 u4 u5 u6 u7 u8 u9 u10 u11 : Value} (s : St w0 w box tb fresh [u0, u1, u2, u3, u4, u5, u6, u7, u8, u9, u10, u11] t) (v0 v1 v2 v3 : Value) : St w0 (putC w (w0.heap.size + 1 + 1) v0 v1 v2 v3) box tb fresh [u0, u1, u2, u3, u4, u5, u6, v0, v1, v2, v3, u11] t := by
  have m := ((((s.M).set 7 v0).set 8 v1).set 9 v2).set 10 v3
  simp only [List.set_cons_zero, List.set_cons_succ] at m
  exact ⟨(below_sto ((below_sto ((below_sto ((below_sto (s.B) (g := w0.heap.size + 1 + 1) (by omega) 7 v0)) (g := w0.heap.size + 1 + 1) (by omega) 8 v1)) (g := w0.heap.size + 1 + 1) (by omega) 9 v2)) (g := w0.heap.size + 1 + 1) (by omega) 10 v3), ((((s.K).oth (g := w0.heap.size + 1 + 1) (by omega) 7 v0).oth (g := w0.heap.size + 1 + 1) (by omega) 8 v1).oth (g := w0.heap.size + 1 + 1) (by omega) 9 v2).oth (g := w0.heap.size + 1 + 1) (by omega) 10 v3, ((((s.J).oth (g := w0.heap.size + 1 + 1) (by omega) 7 v0).oth (g := w0.heap.size + 1 + 1) (by omega) 8 v1).oth (g := w0.heap.size + 1 + 1) (by omega) 9 v2).oth (g := w0.heap.size + 1 + 1) (by omega) 10 v3, m, by have := s.S; simpa [putC] using this⟩
def putT (w : World) (g : Nat) (v0 : Value) : World := (w.setCell ⟨g, 11, none⟩ v0)
theorem putT_touch (w : World) (g : Nat) (v0 : Value) : Touch w (putT w g v0) g (g + 1) := touch_set w g 11 v0
theorem St.do_putT {w0 w : World} {box fresh : List Value} {tb t : TypeId} {u0 u1 u2 u3 u4 u5 u6 u7 u8 u9 u10 u11 : Value} (s : St w0 w box tb fresh [u0, u1, u2, u3, u4, u5, u6, u7, u8, u9, u10, u11] t) (v0 : Value) : St w0 (putT w (w0.heap.size + 1 + 1) v0) box tb fresh [u0, u1, u2, u3, u4, u5, u6, u7, u8, u9, u10, v0] t := by
  have m := (s.M).set 11 v0
  simp only [List.set_cons_zero, List.set_cons_succ] at m
  exact ⟨(below_sto (s.B) (g := w0.heap.size + 1 + 1) (by omega) 11 v0), (s.K).oth (g := w0.heap.size + 1 + 1) (by omega) 11 v0, (s.J).oth (g := w0.heap.size + 1 + 1) (by omega) 11 v0, m, by have := s.S; simpa [putT] using this⟩
def putD (w : World) (g : Nat) (v0 v1 v2 v3 v4 v5 v6 v7 v8 v9 v10 v11 : Value) : World := ((((((((((((w.setCell ⟨g, 0, none⟩ v0).setCell ⟨g, 1, none⟩ v1).setCell ⟨g, 2, none⟩ v2).setCell ⟨g, 3, none⟩ v3).setCell ⟨g, 4, none⟩ v4).setCell ⟨g, 5, none⟩ v5).setCell ⟨g, 6, none⟩ v6).setCell ⟨g, 7, none⟩ v7).setCell ⟨g, 8, none⟩ v8).setCell ⟨g, 9, none⟩ v9).setCell ⟨g, 10, none⟩ v10).setCell ⟨g, 11, none⟩ v11)
theorem putD_touch (w : World) (g : Nat) (v0 v1 v2 v3 v4 v5 v6 v7 v8 v9 v10 v11 : Value) : Touch w (putD w g v0 v1 v2 v3 v4 v5 v6 v7 v8 v9 v10 v11) g (g + 1) := (((((((((((touch_set w g 0 v0).trans (touch_set _ g 1 v1)).trans (touch_set _ g 2 v2)).trans (touch_set _ g 3 v3)).trans (touch_set _ g 4 v4)).trans (touch_set _ g 5 v5)).trans (touch_set _ g 6 v6)).trans (touch_set _ g 7 v7)).trans (touch_set _ g 8 v8)).trans (touch_set _ g 9 v9)).trans (touch_set _ g 10 v10)).trans (touch_set _ g 11 v11)
theorem putD_below {w0 w : World} (h : Below w0.heap.size w0 w) (v0 v1 v2 v3 v4 v5 v6 v7 v8 v9 v10 v11 : Value) : Below w0.heap.size w0 (putD w (w0.heap.size + 1) v0 v1 v2 v3 v4 v5 v6 v7 v8 v9 v10 v11) := (below_sto ((below_sto ((below_sto ((below_sto ((below_sto ((below_sto ((below_sto ((below_sto ((below_sto ((below_sto ((below_sto ((below_sto (h) (g := w0.heap.size + 1) (by omega) 0 v0)) (g := w0.heap.size + 1) (by omega) 1 v1)) (g := w0.heap.size + 1) (by omega) 2 v2)) (g := w0.heap.size + 1) (by omega) 3 v3)) (g := w0.heap.size + 1) (by omega) 4 v4)) (g := w0.heap.size + 1) (by omega) 5 v5)) (g := w0.heap.size + 1) (by omega) 6 v6)) (g := w0.heap.size + 1) (by omega) 7 v7)) (g := w0.heap.size + 1) (by omega) 8 v8)) (g := w0.heap.size + 1) (by omega) 9 v9)) (g := w0.heap.size + 1) (by omega) 10 v10)) (g := w0.heap.size + 1) (by omega) 11 v11)
theorem putD_blk {w : World} {g : Nat} {t : TypeId} {u0 u1 u2 u3 u4 u5 u6 u7 u8 u9 u10 u11 : Value} (k : Blk w g [u0, u1, u2, u3, u4, u5, u6, u7, u8, u9, u10, u11] t) (v0 v1 v2 v3 v4 v5 v6 v7 v8 v9 v10 v11 : Value) : Blk (putD w g v0 v1 v2 v3 v4 v5 v6 v7 v8 v9 v10 v11) g [v0, v1, v2, v3, v4, v5, v6, v7, v8, v9, v10, v11] t := by
  have m := ((((((((((((k).set 0 v0).set 1 v1).set 2 v2).set 3 v3).set 4 v4).set 5 v5).set 6 v6).set 7 v7).set 8 v8).set 9 v9).set 10 v10).set 11 v11
  simp only [List.set_cons_zero, List.set_cons_succ] at m
  exact m
theorem ownGame_mono {w : World} {lo hi lo' hi' : Nat} {a b : Option Addr} {c d : Nat} {x y : List Int} (h : OwnGame w lo hi a c x b d y) (h1 : lo' ≤ lo) (h2 : hi ≤ hi') : OwnGame w lo' hi' a c x b d y := by
  obtain ⟨m, hm, o1, o2⟩ := h
  exact ⟨m, by omega, o1.mono h1 (Nat.le_refl _), o2.mono (Nat.le_refl _) h2⟩
theorem ownCrowd_mono {w : World} {lo hi lo' hi' : Nat} {a b : Option Addr} {c d : Nat} {x y : List Int} (h : OwnCrowd w lo hi a c x b d y) (h1 : lo' ≤ lo) (h2 : hi ≤ hi') : OwnCrowd w lo' hi' a c x b d y := by
  obtain ⟨m, hm, o1, o2⟩ := h
  exact ⟨m, by omega, o1.mono h1 (Nat.le_refl _), o2.mono (Nat.le_refl _) h2⟩
theorem ownValues_mono {w : World} {lo hi lo' hi' : Nat} {a : Option Addr} {c : Nat} {x : List Int} (h : OwnValues w lo hi a c x) (h1 : lo' ≤ lo) (h2 : hi ≤ hi') : OwnValues w lo' hi' a c x := ⟨Nat.le_trans h1 (Nat.le_trans h.1 h2), h.2.mono h1 h2⟩
/-- A desk's rows, each in a stretch of its own. -/
def OwnDesk (w : World) (lo hi : Nat) (aA : Option Addr) (cA : Nat) (xA : List Int) (aB : Option Addr) (cB : Nat) (xB : List Int) (aV : Option Addr) (cV : Nat) (xV : List Int) (aW : Option Addr) (cW : Nat) (xW : List Int) (aC : Option Addr) (cC : Nat) (xC : List Int) (aT : Option Addr) (cT : Nat) (xT : List Nat) : Prop :=
  ∃ m1 m2 m3 g : Nat, lo ≤ m1 ∧ m1 ≤ m2 ∧ m2 ≤ m3 ∧ m3 ≤ g ∧ g < hi ∧ hi ≤ w.heap.size ∧ OwnGame w lo m1 aA cA xA aB cB xB ∧ OwnValues w m1 m2 aV cV xV ∧ OwnCrowd w m2 m3 aW cW xW aC cC xC ∧ aT = some ⟨g, 0, none⟩ ∧ cT = xT.length ∧ Blk w g (flts xT) 46
section
variable {w w' : World} {lo hi : Nat} {aA aB aV aW aC aT : Option Addr} {cA cB cV cW cC cT : Nat} {xA xB xV xW xC : List Int} {xT : List Nat}
theorem OwnDesk.rd (h : OwnDesk w lo hi aA cA xA aB cB xB aV cV xV aW cW xW aC cC xC aT cT xT) : RdDesk w w.heap.size aA xA aB xB aV xV aW xW aC xC aT xT := by
  obtain ⟨m1, m2, m3, g, h1, h2, h3, h4, h5, h6, o1, o2, o3, rfl, rfl, b⟩ := h
  have r1 := o1.rd.mono (show m1 ≤ w.heap.size by omega)
  have r2 := o2.rd.mono (show m2 ≤ w.heap.size by omega)
  have r3 := o3.rd.mono (show m3 ≤ w.heap.size by omega)
  exact ⟨r1.1, r1.2, r2, r3.1, r3.2, b.rd (by omega)⟩
theorem OwnDesk.keep (h : OwnDesk w lo hi aA cA xA aB cB xB aV cV xV aW cW xW aC cC xC aT cT xT) (hb : Below w.heap.size w w') : OwnDesk w' lo hi aA cA xA aB cB xB aV cV xV aW cW xW aC cC xC aT cT xT := by
  obtain ⟨m1, m2, m3, g, h1, h2, h3, h4, h5, h6, o1, o2, o3, e1, e2, b⟩ := h
  exact ⟨m1, m2, m3, g, h1, h2, h3, h4, h5, by have := hb.size; omega, o1.keep hb, o2.keep hb, o3.keep hb, e1, e2, b.same hb⟩
end
set_option maxRecDepth 10000 in
set_option maxHeartbeats 8000000 in
theorem lawTo_Desk (w : World) (R C P T U N : Int) (aA : Option Addr) (cA : Nat) (xA : List Int) (aB : Option Addr) (cB : Nat) (xB : List Int) (aV : Option Addr) (cV : Nat) (xV : List Int) (aW : Option Addr) (cW : Nat) (xW : List Int) (aC : Option Addr) (cC : Nat) (xC : List Int) (aT : Option Addr) (cT : Nat) (xT : List Nat)
    (h : RdDesk w w.heap.size aA xA aB xB aV xV aW xW aC xC aT xT) (lA : xA.length ≤ 1048576) (lB : xB.length ≤ 1048576) (lV : xV.length ≤ 1048576) (lW : xW.length ≤ 1048576) (lC : xC.length ≤ 1048576) (lT : xT.length ≤ 1048576) :
    Calls Try.prog 13 #[.agg #[.int .i64 R, .int .i64 C, .slice aA xA.length cA, .slice aB xB.length cB, .int .i64 P, .int .i64 T, .slice aV xV.length cV, .int .i64 U, .int .i64 N, .slice aW xW.length cW, .slice aC xC.length cC, .slice aT xT.length cT]] w fun e w' => ∃ (aA' : Option Addr) (cA' : Nat) (aB' : Option Addr) (cB' : Nat) (aV' : Option Addr) (cV' : Nat) (aW' : Option Addr) (cW' : Nat) (aC' : Option Addr) (cC' : Nat) (aT' : Option Addr) (cT' : Nat), e = .returned (.agg #[.int .i64 R, .int .i64 C, .slice aA' xA.length cA', .slice aB' xB.length cB', .int .i64 P, .int .i64 T, .slice aV' xV.length cV', .int .i64 U, .int .i64 N, .slice aW' xW.length cW', .slice aC' xC.length cC', .slice aT' xT.length cT']) ∧ OwnDesk w' w.heap.size w'.heap.size aA' cA' xA aB' cB' xB aV' cV' xV aW' cW' xW aC' cC' xC aT' cT' xT ∧ Below w.heap.size w w' := by
  have s0 : St w (((w.alloc (.cells #[.int .i64 R, .int .i64 C, .slice aA xA.length cA, .slice aB xB.length cB, .int .i64 P, .int .i64 T, .slice aV xV.length cV, .int .i64 U, .int .i64 N, .slice aW xW.length cW, .slice aC xC.length cC, .slice aT xT.length cT] 40)).alloc (.cells #[.int .i64 0, .int .i64 0, .slice none 0 0, .slice none 0 0, .int .i64 0, .int .i64 0, .slice none 0 0, .int .i64 0, .int .i64 0, .slice none 0 0, .slice none 0 0, .slice none 0 0] 31)).alloc (.cells #[.int .i64 0, .int .i64 0, .slice none 0 0, .slice none 0 0, .int .i64 0, .int .i64 0, .slice none 0 0, .int .i64 0, .int .i64 0, .slice none 0 0, .slice none 0 0, .slice none 0 0] 31)) [.int .i64 R, .int .i64 C, .slice aA xA.length cA, .slice aB xB.length cB, .int .i64 P, .int .i64 T, .slice aV xV.length cV, .int .i64 U, .int .i64 N, .slice aW xW.length cW, .slice aC xC.length cC, .slice aT xT.length cT] 40 [.int .i64 0, .int .i64 0, .slice none 0 0, .slice none 0 0, .int .i64 0, .int .i64 0, .slice none 0 0, .int .i64 0, .int .i64 0, .slice none 0 0, .slice none 0 0, .slice none 0 0] [.int .i64 0, .int .i64 0, .slice none 0 0, .slice none 0 0, .int .i64 0, .int .i64 0, .slice none 0 0, .int .i64 0, .int .i64 0, .slice none 0 0, .slice none 0 0, .slice none 0 0] 31 :=
    ⟨bl3 w _ _ _, ((Blk.new w [.int .i64 R, .int .i64 C, .slice aA xA.length cA, .slice aB xB.length cB, .int .i64 P, .int .i64 T, .slice aV xV.length cV, .int .i64 U, .int .i64 N, .slice aW xW.length cW, .slice aC xC.length cC, .slice aT xT.length cT] 40).alloc _).alloc _, (blkat1_Crowd w _ [.int .i64 0, .int .i64 0, .slice none 0 0, .slice none 0 0, .int .i64 0, .int .i64 0, .slice none 0 0, .int .i64 0, .int .i64 0, .slice none 0 0, .slice none 0 0, .slice none 0 0] 31).alloc _, blkat2_Crowd w _ _ [.int .i64 0, .int .i64 0, .slice none 0 0, .slice none 0 0, .int .i64 0, .int .i64 0, .slice none 0 0, .int .i64 0, .int .i64 0, .slice none 0 0, .slice none 0 0, .slice none 0 0] 31, by simp⟩
  have L1 := Lib.hid (fun v hb => lawTo_Game v v.heap.size R C aA cA xA aB cB xB ⟨(h.to hb).A, (h.to hb).B⟩ (Nat.le_refl _) lA lB)
  have L2 := Lib.hid (fun v hb => lawTo_Values v v.heap.size P T aV cV xV (h.to hb).V (Nat.le_refl _) lV)
  have L3 := Lib.hid (fun v hb => lawTo_Crowd v v.heap.size U N aW cW xW aC cC xC ⟨(h.to hb).W, (h.to hb).C⟩ (Nat.le_refl _) lW lC)
  have L4 := Lib.hid (fun v hb => lawTo_F v aT cT xT (h.to hb).T lT)
  clear h
  obtain ⟨w0, hW⟩ : ∃ W, W = (((w.alloc (.cells #[.int .i64 R, .int .i64 C, .slice aA xA.length cA, .slice aB xB.length cB, .int .i64 P, .int .i64 T, .slice aV xV.length cV, .int .i64 U, .int .i64 N, .slice aW xW.length cW, .slice aC xC.length cC, .slice aT xT.length cT] 40)).alloc (.cells #[.int .i64 0, .int .i64 0, .slice none 0 0, .slice none 0 0, .int .i64 0, .int .i64 0, .slice none 0 0, .int .i64 0, .int .i64 0, .slice none 0 0, .slice none 0 0, .slice none 0 0] 31)).alloc (.cells #[.int .i64 0, .int .i64 0, .slice none 0 0, .slice none 0 0, .int .i64 0, .int .i64 0, .slice none 0 0, .int .i64 0, .int .i64 0, .slice none 0 0, .slice none 0 0, .slice none 0 0] 31)) := ⟨_, rfl⟩
  rw [← hW] at s0
  have H0 := Lib.hid s0
  have HW := Lib.hid hW
  clear hW s0
  go_enter Try.func13, Try.ntmps13
  go_wp2_with fail
  rw [← HW.out]
  clear HW
  refine (L1.out _ H0.out.B).mono ?_
  rintro e v1 ⟨aA', cA', aB', cB', rfl, o1, hb⟩
  have Ha := Lib.hid (H0.out.call hb)
  have Q1 := hb.size
  have Hb := Lib.hid (Ha.out.do_putG (.int .i64 R) (.int .i64 C) (.slice aA' xA.length cA') (.slice aB' xB.length cB'))
  have hs := H0.out.S
  have TT := Lib.hid (putG_touch v1 (w.heap.size + 1 + 1) (.int .i64 R) (.int .i64 C) (.slice aA' xA.length cA') (.slice aB' xB.length cB'))
  have O1 := Lib.hid (o1.touch TT.out (.inr (by omega)))
  obtain ⟨w1, hw⟩ : ∃ W, W = putG v1 (w.heap.size + 1 + 1) (.int .i64 R) (.int .i64 C) (.slice aA' xA.length cA') (.slice aB' xB.length cB') := ⟨_, rfl⟩
  rw [← hw] at O1 Hb TT
  have R1 : w1.heap.size = v1.heap.size := by rw [hw]; simp [putG]
  simp only [putG] at hw
  have HW := Lib.hid hw
  have H1 := Hb
  clear hw hb Hb TT H0
  obtain ⟨z0, z1, z2, z3, z4, z5, z6, z7, z8, z9, z10, z11⟩ := cells12 Ha.out.K
  obtain ⟨y0, y1, y2, y3, y4, y5, y6, y7, y8, y9, y10, y11⟩ := cells12 Ha.out.M
  have f0 := Ha.out.M.free 0
  have f1 := Ha.out.M.free 1
  have f2 := Ha.out.M.free 2
  have f3 := Ha.out.M.free 3
  have f4 := Ha.out.M.free 4
  have f5 := Ha.out.M.free 5
  have f6 := Ha.out.M.free 6
  have f7 := Ha.out.M.free 7
  have f8 := Ha.out.M.free 8
  have f9 := Ha.out.M.free 9
  have f10 := Ha.out.M.free 10
  have f11 := Ha.out.M.free 11
  go_wp2_with fail
  rw [← HW.out]
  clear Ha HW z0 z1 z2 z3 z4 z5 z6 z7 z8 z9 z10 z11 y0 y1 y2 y3 y4 y5 y6 y7 y8 y9 y10 y11 f0 f1 f2 f3 f4 f5 f6 f7 f8 f9 f10 f11
  refine (L2.out _ H1.out.B).mono ?_
  rintro e v2 ⟨aV', cV', rfl, o2, hb⟩
  have Ha := Lib.hid (H1.out.call hb)
  have Q2 := hb.size
  have O1' := Lib.hid (O1.out.keep hb)
  clear O1
  have O1 := O1'
  clear O1'
  have Hb := Lib.hid (Ha.out.do_putV (.int .i64 P) (.int .i64 T) (.slice aV' xV.length cV'))
  have hs := H1.out.S
  have TT := Lib.hid (putV_touch v2 (w.heap.size + 1 + 1) (.int .i64 P) (.int .i64 T) (.slice aV' xV.length cV'))
  have O2 := Lib.hid (o2.touch TT.out (.inr (by omega)))
  have O1' := Lib.hid (O1.out.touch TT.out (.inr (by omega)))
  clear O1
  have O1 := O1'
  clear O1'
  obtain ⟨w2, hw⟩ : ∃ W, W = putV v2 (w.heap.size + 1 + 1) (.int .i64 P) (.int .i64 T) (.slice aV' xV.length cV') := ⟨_, rfl⟩
  rw [← hw] at O1 O2 Hb TT
  have R2 : w2.heap.size = v2.heap.size := by rw [hw]; simp [putV]
  simp only [putV] at hw
  have HW := Lib.hid hw
  have H2 := Hb
  clear hw hb Hb TT H1
  obtain ⟨z0, z1, z2, z3, z4, z5, z6, z7, z8, z9, z10, z11⟩ := cells12 Ha.out.K
  obtain ⟨y0, y1, y2, y3, y4, y5, y6, y7, y8, y9, y10, y11⟩ := cells12 Ha.out.M
  have f0 := Ha.out.M.free 0
  have f1 := Ha.out.M.free 1
  have f2 := Ha.out.M.free 2
  have f3 := Ha.out.M.free 3
  have f4 := Ha.out.M.free 4
  have f5 := Ha.out.M.free 5
  have f6 := Ha.out.M.free 6
  have f7 := Ha.out.M.free 7
  have f8 := Ha.out.M.free 8
  have f9 := Ha.out.M.free 9
  have f10 := Ha.out.M.free 10
  have f11 := Ha.out.M.free 11
  go_wp2_with fail
  rw [← HW.out]
  clear Ha HW z0 z1 z2 z3 z4 z5 z6 z7 z8 z9 z10 z11 y0 y1 y2 y3 y4 y5 y6 y7 y8 y9 y10 y11 f0 f1 f2 f3 f4 f5 f6 f7 f8 f9 f10 f11
  refine (L3.out _ H2.out.B).mono ?_
  rintro e v3 ⟨aW', cW', aC', cC', rfl, o3, hb⟩
  have Ha := Lib.hid (H2.out.call hb)
  have Q3 := hb.size
  have O1' := Lib.hid (O1.out.keep hb)
  clear O1
  have O1 := O1'
  clear O1'
  have O2' := Lib.hid (O2.out.keep hb)
  clear O2
  have O2 := O2'
  clear O2'
  have Hb := Lib.hid (Ha.out.do_putC (.int .i64 U) (.int .i64 N) (.slice aW' xW.length cW') (.slice aC' xC.length cC'))
  have hs := H2.out.S
  have TT := Lib.hid (putC_touch v3 (w.heap.size + 1 + 1) (.int .i64 U) (.int .i64 N) (.slice aW' xW.length cW') (.slice aC' xC.length cC'))
  have O3 := Lib.hid (o3.touch TT.out (.inr (by omega)))
  have O1' := Lib.hid (O1.out.touch TT.out (.inr (by omega)))
  clear O1
  have O1 := O1'
  clear O1'
  have O2' := Lib.hid (O2.out.touch TT.out (.inr (by omega)))
  clear O2
  have O2 := O2'
  clear O2'
  obtain ⟨w3, hw⟩ : ∃ W, W = putC v3 (w.heap.size + 1 + 1) (.int .i64 U) (.int .i64 N) (.slice aW' xW.length cW') (.slice aC' xC.length cC') := ⟨_, rfl⟩
  rw [← hw] at O1 O2 O3 Hb TT
  have R3 : w3.heap.size = v3.heap.size := by rw [hw]; simp [putC]
  simp only [putC] at hw
  have HW := Lib.hid hw
  have H3 := Hb
  clear hw hb Hb TT H2
  obtain ⟨z0, z1, z2, z3, z4, z5, z6, z7, z8, z9, z10, z11⟩ := cells12 Ha.out.K
  obtain ⟨y0, y1, y2, y3, y4, y5, y6, y7, y8, y9, y10, y11⟩ := cells12 Ha.out.M
  have f0 := Ha.out.M.free 0
  have f1 := Ha.out.M.free 1
  have f2 := Ha.out.M.free 2
  have f3 := Ha.out.M.free 3
  have f4 := Ha.out.M.free 4
  have f5 := Ha.out.M.free 5
  have f6 := Ha.out.M.free 6
  have f7 := Ha.out.M.free 7
  have f8 := Ha.out.M.free 8
  have f9 := Ha.out.M.free 9
  have f10 := Ha.out.M.free 10
  have f11 := Ha.out.M.free 11
  go_wp2_with fail
  rw [← HW.out]
  clear Ha HW z0 z1 z2 z3 z4 z5 z6 z7 z8 z9 z10 z11 y0 y1 y2 y3 y4 y5 y6 y7 y8 y9 y10 y11 f0 f1 f2 f3 f4 f5 f6 f7 f8 f9 f10 f11
  refine (L4.out _ H3.out.B).mono ?_
  rintro e v4 ⟨rfl, o4, hb, hz4⟩
  obtain ⟨aT', haT⟩ : ∃ a : Option Addr, a = some ⟨w3.heap.size, 0, none⟩ := ⟨_, rfl⟩
  obtain ⟨cT', hcT⟩ : ∃ c : Nat, c = xT.length := ⟨_, rfl⟩
  have HT1 := Lib.hid haT
  have HT2 := Lib.hid hcT
  rw [← haT]
  have hgen : ∀ c : Nat, c = xT.length → Value.slice aT' xT.length xT.length = Value.slice aT' xT.length c := fun c h => by rw [h]
  rw [hgen cT' hcT]
  clear haT hcT hgen
  have Ha := Lib.hid (H3.out.call hb)
  have hs := H3.out.S
  have O1' := Lib.hid (O1.out.keep hb)
  clear O1
  have O1 := O1'
  clear O1'
  have O2' := Lib.hid (O2.out.keep hb)
  clear O2
  have O2 := O2'
  clear O2'
  have O3' := Lib.hid (O3.out.keep hb)
  clear O3
  have O3 := O3'
  clear O3'
  have Q4 := hb.size
  have Hb := Lib.hid (Ha.out.do_putT (.slice aT' xT.length cT'))
  have TT := Lib.hid (putT_touch v4 (w.heap.size + 1 + 1) (.slice aT' xT.length cT'))
  have O4 := Lib.hid (o4.touch TT.out (.inr (by omega)))
  have O1' := Lib.hid (O1.out.touch TT.out (.inr (by omega)))
  clear O1
  have O1 := O1'
  clear O1'
  have O2' := Lib.hid (O2.out.touch TT.out (.inr (by omega)))
  clear O2
  have O2 := O2'
  clear O2'
  have O3' := Lib.hid (O3.out.touch TT.out (.inr (by omega)))
  clear O3
  have O3 := O3'
  clear O3'
  obtain ⟨w4, hw⟩ : ∃ W, W = putT v4 (w.heap.size + 1 + 1) (.slice aT' xT.length cT') := ⟨_, rfl⟩
  rw [← hw] at O1 O2 O3 O4 Hb TT
  have R4 : w4.heap.size = v4.heap.size := by rw [hw]; simp [putT]
  have HW4 := Lib.hid hw
  have G0 := Lib.hid (putD_below Hb.out.B (.int .i64 R) (.int .i64 C) (.slice aA' xA.length cA') (.slice aB' xB.length cB') (.int .i64 P) (.int .i64 T) (.slice aV' xV.length cV') (.int .i64 U) (.int .i64 N) (.slice aW' xW.length cW') (.slice aC' xC.length cC') (.slice aT' xT.length cT'))
  have G1 := Lib.hid (putD_blk Hb.out.J (.int .i64 R) (.int .i64 C) (.slice aA' xA.length cA') (.slice aB' xB.length cB') (.int .i64 P) (.int .i64 T) (.slice aV' xV.length cV') (.int .i64 U) (.int .i64 N) (.slice aW' xW.length cW') (.slice aC' xC.length cC') (.slice aT' xT.length cT'))
  have GT := Lib.hid (putD_touch w4 (w.heap.size + 1) (.int .i64 R) (.int .i64 C) (.slice aA' xA.length cA') (.slice aB' xB.length cB') (.int .i64 P) (.int .i64 T) (.slice aV' xV.length cV') (.int .i64 U) (.int .i64 N) (.slice aW' xW.length cW') (.slice aC' xC.length cC') (.slice aT' xT.length cT'))
  have O1' := Lib.hid (O1.out.touch GT.out (.inr (by omega)))
  clear O1
  have O1 := O1'
  clear O1'
  have O2' := Lib.hid (O2.out.touch GT.out (.inr (by omega)))
  clear O2
  have O2 := O2'
  clear O2'
  have O3' := Lib.hid (O3.out.touch GT.out (.inr (by omega)))
  clear O3
  have O3 := O3'
  clear O3'
  have O4' := Lib.hid (O4.out.touch GT.out (.inr (by omega)))
  clear O4
  have O4 := O4'
  clear O4'
  have J4 := Hb.out.J
  have M4 := Hb.out.M
  clear o4 hb TT GT H3 Hb
  rw [hw] at J4 M4
  simp only [putT] at hw J4 M4
  obtain ⟨w5, hw5⟩ : ∃ W, W = putD w4 (w.heap.size + 1) (.int .i64 R) (.int .i64 C) (.slice aA' xA.length cA') (.slice aB' xB.length cB') (.int .i64 P) (.int .i64 T) (.slice aV' xV.length cV') (.int .i64 U) (.int .i64 N) (.slice aW' xW.length cW') (.slice aC' xC.length cC') (.slice aT' xT.length cT') := ⟨_, rfl⟩
  rw [← hw5] at O1 O2 O3 O4 G0 G1
  have R5 : w5.heap.size = w4.heap.size := by rw [hw5]; simp [putD]
  rw [hw] at hw5
  simp only [putD] at hw5
  have HW5 := Lib.hid hw5
  clear hw hw5
  obtain ⟨z0, z1, z2, z3, z4, z5, z6, z7, z8, z9, z10, z11⟩ := cells12 Ha.out.K
  obtain ⟨y0, y1, y2, y3, y4, y5, y6, y7, y8, y9, y10, y11⟩ := cells12 Ha.out.M
  have f11 := Ha.out.M.free 11
  obtain ⟨p0, p1, p2, p3, p4, p5, p6, p7, p8, p9, p10, p11⟩ := cells12 M4
  obtain ⟨j0, j1, j2, j3, j4, j5, j6, j7, j8, j9, j10, j11⟩ := cells12 J4
  have jf0 := J4.free 0
  have jf1 := J4.free 1
  have jf2 := J4.free 2
  have jf3 := J4.free 3
  have jf4 := J4.free 4
  have jf5 := J4.free 5
  have jf6 := J4.free 6
  have jf7 := J4.free 7
  have jf8 := J4.free 8
  have jf9 := J4.free 9
  have jf10 := J4.free 10
  have jf11 := J4.free 11
  clear J4 M4
  have HF : Hid (OwnDesk w5 w.heap.size w5.heap.size aA' cA' xA aB' cB' xB aV' cV' xV aW' cW' xW aC' cC' xC aT' cT' xT) := by
    have c1 := R1; have c2 := R2; have c3 := R3; have c4 := R4; have c5 := R5
    exact ⟨v1.heap.size, v2.heap.size, v3.heap.size, w3.heap.size, by omega, by omega, by omega, by omega, by omega, Nat.le_refl _, ownGame_mono O1.out (by omega) (by omega), ownValues_mono O2.out (by omega) (by omega), ownCrowd_mono O3.out (by omega) (by omega), HT1.out, HT2.out, O4.out⟩
  clear O1 O2 O3 O4 HT1 HT2
  go_wp2_with fail
  rw [← HW5.out]
  obtain ⟨r0, r1, r2, r3, r4, r5, r6, r7, r8, r9, r10, r11⟩ := cells12 G1.out
  exact bodyPost_ret (v := .agg #[.int .i64 R, .int .i64 C, .slice aA' xA.length cA', .slice aB' xB.length cB', .int .i64 P, .int .i64 T, .slice aV' xV.length cV', .int .i64 U, .int .i64 N, .slice aW' xW.length cW', .slice aC' xC.length cC', .slice aT' xT.length cT']) (by simp [results, Try.results13, go_sem, r0, r1, r2, r3, r4, r5, r6, r7, r8, r9, r10, r11]) rfl ⟨_, _, _, _, _, _, _, _, _, _, _, _, rfl, HF.out, G0.out⟩
end Go.Proofs.Ytdmeegfdmdbkiaa
