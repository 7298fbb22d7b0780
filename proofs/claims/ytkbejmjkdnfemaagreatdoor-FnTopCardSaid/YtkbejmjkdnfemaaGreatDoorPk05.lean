/-
  Part 5 of what the proof stands on: lemmas and contracts, each with its conditions ahead of the colon.
-/
import Derived.Test.YtkbejmjkdnfemaaGreatDoorPk01
import Derived.Test.YtkbejmjkdnfemaaGreatDoorPk02
import Derived.Test.YtkbejmjkdnfemaaGreatDoorPk03
import Derived.Test.YtkbejmjkdnfemaaGreatDoorPk04
namespace Go.Proofs.YtkbejmjkdnfemaaGreatDoor
set_option linter.unusedVariables false
set_option linter.unusedSimpArgs false
open Go.RowKit

def RdCrowd (w : World) (B : Nat) (a2 : Option Addr) (x2 : List Int) (a3 : Option Addr) (x3 : List Int) : Prop := Rd w B a2 (ints x2) ∧ Rd w B a3 (ints x3)
def OwnCrowd (w : World) (lo hi : Nat) (a2 : Option Addr) (c2 : Nat) (x2 : List Int) (a3 : Option Addr) (c3 : Nat) (x3 : List Int) : Prop :=
  ∃ m3 : Nat, (lo ≤ m3 ∧ m3 ≤ hi) ∧ OwnI 2 w lo m3 a2 c2 x2 ∧ OwnI 2 w m3 hi a3 c3 x3
section
variable {w w' : World} {B C lo hi : Nat} {a2 : Option Addr} {x2 : List Int} {a3 : Option Addr} {x3 : List Int} {c2 : Nat} {c3 : Nat}
theorem RdCrowd.below (h : RdCrowd w B a2 x2 a3 x3) (hb : Below C w w') (hB : B ≤ C) : RdCrowd w' B a2 x2 a3 x3 := ⟨Rd.below (h.1) hb hB, Rd.below (h.2) hb hB⟩
theorem RdCrowd.mono (h : RdCrowd w B a2 x2 a3 x3) (hB : B ≤ C) : RdCrowd w C a2 x2 a3 x3 := ⟨Rd.mono (h.1) hB, Rd.mono (h.2) hB⟩
theorem RdCrowd.to (h : RdCrowd w w.heap.size a2 x2 a3 x3) (hb : Below w.heap.size w w') : RdCrowd w' w'.heap.size a2 x2 a3 x3 := (h.below hb (Nat.le_refl _)).mono hb.size
theorem RdCrowd.touch (h : RdCrowd w B a2 x2 a3 x3) (ht : Touch w w' lo hi) (hB : B ≤ lo) (hs : B ≤ w.heap.size) : RdCrowd w' B a2 x2 a3 x3 := ⟨Rd.touch (h.1) ht hB hs, Rd.touch (h.2) ht hB hs⟩
theorem OwnCrowd.rd (h : OwnCrowd w lo hi a2 c2 x2 a3 c3 x3) : RdCrowd w hi a2 x2 a3 x3 := by
  obtain ⟨m3, hm, o2, o3⟩ := h
  exact ⟨o2.rd.mono (by omega), o3.rd.mono (by omega)⟩
theorem OwnCrowd.keep (h : OwnCrowd w lo hi a2 c2 x2 a3 c3 x3) (hb : Below w.heap.size w w') : OwnCrowd w' lo hi a2 c2 x2 a3 c3 x3 := by
  obtain ⟨m3, hm, o2, o3⟩ := h
  exact ⟨m3, hm, o2.keep hb, o3.keep hb⟩
theorem OwnCrowd.touch {lo' hi' : Nat} (h : OwnCrowd w lo hi a2 c2 x2 a3 c3 x3) (ht : Touch w w' lo' hi') (hd : hi ≤ lo' ∨ hi' ≤ lo) : OwnCrowd w' lo hi a2 c2 x2 a3 c3 x3 := by
  obtain ⟨m3, hm, o2, o3⟩ := h
  exact ⟨m3, hm, o2.touch ht (by omega), o3.touch ht (by omega)⟩
end
end Go.Proofs.YtkbejmjkdnfemaaGreatDoor
namespace Go.Proofs.YtkbejmjkdnfemaaGreatDoor
set_option linter.unusedVariables false
set_option linter.unusedSimpArgs false
open Go.RowKit

theorem prod_bd {U R : Int} (u1 : 1 ≤ U) (u8 : U ≤ 8) (r1 : 1 ≤ R) (r8 : R ≤ 8) : 1 ≤ U * R ∧ U * R ≤ 64 := by
  have h1 : 1 * 1 ≤ U * R := Int.mul_le_mul u1 r1 (by omega) (by omega)
  have h2 : U * R ≤ 8 * 8 := Int.mul_le_mul u8 r8 (by omega) (by omega)
  omega
theorem pow_bd {R : Int} (r1 : 1 ≤ R) (r8 : R ≤ 8) : 2 ≤ (2 : Int) ^ R.toNat ∧ (2 : Int) ^ R.toNat ≤ 256 := by
  have : R = 1 ∨ R = 2 ∨ R = 3 ∨ R = 4 ∨ R = 5 ∨ R = 6 ∨ R = 7 ∨ R = 8 := by omega
  rcases this with rfl | rfl | rfl | rfl | rfl | rfl | rfl | rfl <;> decide
theorem pow_wrap {R : Int} (r1 : 1 ≤ R) (r8 : R ≤ 8) : wrap64 (wrap64 (2 ^ R.toNat) - 1) = 2 ^ R.toNat - 1 := by
  have := pow_bd r1 r8
  rw [IntWalk.wrap64_in (2 ^ R.toNat) (by omega), IntWalk.wrap64_in _ (by omega)]
set_option maxRecDepth 10000 in
set_option maxHeartbeats 4000000 in
theorem validCrowd_any (w : World) (U R : Int) (a2 : Option Addr) (c2 : Nat) (x2 : List Int) (a3 : Option Addr) (c3 : Nat) (x3 : List Int) (h : RdCrowd w w.heap.size a2 x2 a3 x3) (hl2 : x2.length ≤ 1048576) (hl3 : x3.length ≤ 1048576) :
    Calls Tryz.prog 55 #[.agg #[.int .i64 U, .int .i64 R, .slice a2 x2.length c2, .slice a3 x3.length c3]] w fun e w' => e = .returned (.bool (validB ⟨U, R, x2, x3⟩)) ∧ Below w.heap.size w w' := by
  have LU := Lib.hid (fun v => within_any U 1 8 v)
  have LR := Lib.hid (fun v => within_any R 1 8 v)
  cases t1 : inB U 1 8 with
  | false =>
    have HF : Hid (validB ⟨U, R, x2, x3⟩ = false) := by simp [Hid, validB, t1]
    rw [t1] at LU
    clear h
    go_enter Tryz.func55, Tryz.ntmps55
    go_wp2_with fail
    go_quiet ((go_at_call 132; with_reducible exact qs1 (LU.out _)))
    go_wp2_with fail
    go_ret
    exact ⟨ret_bool HF.out.symm, below_drewN (bl1 _ _) _⟩
  | true =>
    rw [t1] at LU
    cases t2 : inB R 1 8 with
    | false =>
      have HF : Hid (validB ⟨U, R, x2, x3⟩ = false) := by simp [Hid, validB, t1, t2]
      rw [t2] at LR
      clear h
      go_enter Tryz.func55, Tryz.ntmps55
      go_wp2_with fail
      go_quiet (first | (go_at_call 132; with_reducible exact qs1 (LU.out _)) | (go_at_call 132; with_reducible exact qs1 (LR.out _)))
      go_wp2_with fail
      go_ret
      exact ⟨ret_bool HF.out.symm, below_drewN (bl1 _ _) _⟩
    | true =>
      rw [t2] at LR
      obtain ⟨u1, u8⟩ := inB_iff.1 t1
      obtain ⟨r1, r8⟩ := inB_iff.1 t2
      obtain ⟨p1, p2⟩ := prod_bd u1 u8 r1 r8
      have epw := pow_wrap r1 r8
      have LW0 := Lib.hid (fun v hb => areMany_any v a2 c2 x2 1 8 1 (wrap64 (wrap64 (2 ^ R.toNat) - 1)) (Rd.to h.1 hb) (by omega))
      have LC0 := Lib.hid (fun v hb => areMany_any v a3 c3 x3 (U * R) (U * R) (-100000) 100000 (Rd.to h.2 hb) (by omega))
      have LW := Lib.hid (fun n => LW0.out _ (below_drewN (bl1 w (.cells #[.int .i64 U, .int .i64 R, .slice a2 x2.length c2, .slice a3 x3.length c3] 30)) n))
      have LC := Lib.hid (fun n => LC0.out _ (below_drewN (bl1 w (.cells #[.int .i64 U, .int .i64 R, .slice a2 x2.length c2, .slice a3 x3.length c3] 30)) n))
      clear LW0 LC0
      have HF : Hid (validB ⟨U, R, x2, x3⟩ = (manyB x2 1 8 1 (wrap64 (wrap64 (2 ^ R.toNat) - 1)) && manyB x3 (U * R) (U * R) (-100000) 100000)) := by
        show _ = _
        rw [epw]
        simp only [validB, t1, t2, Bool.true_and]
      clear epw
      cases t3 : manyB x2 1 8 1 (wrap64 (wrap64 (2 ^ R.toNat) - 1)) with
      | false =>
        have HF2 : Hid (validB ⟨U, R, x2, x3⟩ = false) := by rw [Hid, HF.out, t3]; rfl
        rw [t3] at LW
        clear t3
        go_enter Tryz.func55, Tryz.ntmps55
        go_wp2_with fail
        go_quiet (first | (go_at_call 132; with_reducible exact qs1 (LU.out _)) | (go_at_call 132; with_reducible exact qs1 (LR.out _)) | (go_at_call 133; exact qs1 (LW.out _)))
        go_wp2_with fail
        go_ret
        exact ⟨ret_bool HF2.out.symm, below_drewN (bl1 _ _) _⟩
      | true =>
        have HF2 : Hid (validB ⟨U, R, x2, x3⟩ = manyB x3 (U * R) (U * R) (-100000) 100000) := by rw [Hid, HF.out, t3]; rfl
        rw [t3] at LW
        clear t3
        go_enter Tryz.func55, Tryz.ntmps55
        go_wp2_with fail
        go_quiet (first | (go_at_call 132; with_reducible exact qs1 (LU.out _)) | (go_at_call 132; with_reducible exact qs1 (LR.out _)) | (go_at_call 133; with_reducible exact qs1 (LC.out _)) | (go_at_call 133; exact qs1 (LW.out _)))
        go_wp2_with fail
        go_ret
        exact ⟨ret_bool HF2.out.symm, below_drewN (bl1 _ _) _⟩
end Go.Proofs.YtkbejmjkdnfemaaGreatDoor
namespace Go.Proofs.YtkbejmjkdnfemaaGreatDoor
set_option linter.unusedVariables false
set_option linter.unusedSimpArgs false
open Go.RowKit
end Go.Proofs.YtkbejmjkdnfemaaGreatDoor
namespace Go.Proofs.YtkbejmjkdnfemaaGreatDoor
set_option linter.unusedVariables false
set_option linter.unusedSimpArgs false
open Go.RowKit

theorem blk_new (w : World) (cs : List Value) (t : TypeId) (g : Nat) (h : g = w.heap.size) : Blk (w.alloc (.cells cs.toArray t)) g cs t := by subst h; exact Blk.new w cs t
def gA : List Int := [3, 0, 5, 1]
def gB : List Int := [3, 5, 0, 1]
def vW : List Int := [5, 3, 5, 4]
def cW : List Int := [1, 2]
def cC : List Int := [1, 2, 1, 2]
def tT : List Nat := [0, 1048576000]
/-- The cells of a desk. -/
def deskC (g1 g2 g3 g4 g5 g6 : Nat) : List Value := [.int .i64 2, .int .i64 2, .slice (some ⟨g1, 0, none⟩) 4 4, .slice (some ⟨g2, 0, none⟩) 4 4, .int .i64 2, .int .i64 2, .slice (some ⟨g3, 0, none⟩) 4 4, .int .i64 2, .int .i64 2, .slice (some ⟨g4, 0, none⟩) 2 2, .slice (some ⟨g5, 0, none⟩) 4 4, .slice (some ⟨g6, 0, none⟩) 2 2]
structure Dsk (w : World) (lo g1 g2 g3 g4 g5 g6 : Nat) (A B V W C : List Int) (T : List Nat) : Prop where
  l1 : lo ≤ g1
  l2 : g1 < g2
  l3 : g2 < g3
  l4 : g3 < g4
  l5 : g4 < g5
  l6 : g5 < g6
  l7 : g6 < w.heap.size
  b1 : Blk w g1 (ints A) 2
  b2 : Blk w g2 (ints B) 2
  b3 : Blk w g3 (ints V) 2
  b4 : Blk w g4 (ints W) 2
  b5 : Blk w g5 (ints C) 2
  b6 : Blk w g6 (flts T) 95
theorem Dsk.same {w w' : World} {lo g1 g2 g3 g4 g5 g6 : Nat} {A B V W C : List Int} {T : List Nat} (h : Dsk w lo g1 g2 g3 g4 g5 g6 A B V W C T) (hb : Below w.heap.size w w') : Dsk w' lo g1 g2 g3 g4 g5 g6 A B V W C T :=
  ⟨h.l1, h.l2, h.l3, h.l4, h.l5, h.l6, Nat.lt_of_lt_of_le h.l7 hb.size, h.b1.same hb, h.b2.same hb, h.b3.same hb, h.b4.same hb, h.b5.same hb, h.b6.same hb⟩
theorem Dsk.touch {w w' : World} {lo g1 g2 g3 g4 g5 g6 l h : Nat} {A B V W C : List Int} {T : List Nat} (d : Dsk w lo g1 g2 g3 g4 g5 g6 A B V W C T) (ht : Touch w w' l h) (hd : g6 < l ∨ h ≤ lo) : Dsk w' lo g1 g2 g3 g4 g5 g6 A B V W C T :=
  have := d.l1; have := d.l2; have := d.l3; have := d.l4; have := d.l5; have := d.l6
  ⟨d.l1, d.l2, d.l3, d.l4, d.l5, d.l6, Nat.lt_of_lt_of_le d.l7 ht.size, d.b1.touch ht (by omega), d.b2.touch ht (by omega), d.b3.touch ht (by omega), d.b4.touch ht (by omega), d.b5.touch ht (by omega), d.b6.touch ht (by omega)⟩
theorem cells12 {w : World} {g : Nat} {t : TypeId} {v0 v1 v2 v3 v4 v5 v6 v7 v8 v9 v10 v11 : Value} (h : Blk w g [v0, v1, v2, v3, v4, v5, v6, v7, v8, v9, v10, v11] t) :
    w.cell? ⟨g, 0, none⟩ = some v0 ∧ w.cell? ⟨g, 1, none⟩ = some v1 ∧ w.cell? ⟨g, 2, none⟩ = some v2 ∧ w.cell? ⟨g, 3, none⟩ = some v3 ∧ w.cell? ⟨g, 4, none⟩ = some v4 ∧ w.cell? ⟨g, 5, none⟩ = some v5 ∧ w.cell? ⟨g, 6, none⟩ = some v6 ∧ w.cell? ⟨g, 7, none⟩ = some v7 ∧ w.cell? ⟨g, 8, none⟩ = some v8 ∧ w.cell? ⟨g, 9, none⟩ = some v9 ∧ w.cell? ⟨g, 10, none⟩ = some v10 ∧ w.cell? ⟨g, 11, none⟩ = some v11 :=
  ⟨h.cell 0, h.cell 1, h.cell 2, h.cell 3, h.cell 4, h.cell 5, h.cell 6, h.cell 7, h.cell 8, h.cell 9, h.cell 10, h.cell 11⟩
set_option maxRecDepth 10000 in
theorem res_desk {w : World} {tmps : Array Value} {g g1 g2 g3 g4 g5 g6 : Nat} (h0 : tmps[0]?.getD undef = .pointer (some ⟨g, 0, none⟩)) (hb : Blk w g (deskC g1 g2 g3 g4 g5 g6) 33) : (results Tryz.f18 tmps).run Tryz.prog w = .ok (.agg (deskC g1 g2 g3 g4 g5 g6).toArray) w := by
  obtain ⟨z0, z1, z2, z3, z4, z5, z6, z7, z8, z9, z10, z11⟩ := cells12 hb
  simp [results, Tryz.results18, go_sem, h0, z0, z1, z2, z3, z4, z5, z6, z7, z8, z9, z10, z11, deskC]
set_option maxRecDepth 10000 in
set_option maxHeartbeats 4000000 in
theorem newDesk_any (w : World) :
    Calls Tryz.prog 18 #[] w fun e w' => ∃ g1 g2 g3 g4 g5 g6, e = .returned (.agg (deskC g1 g2 g3 g4 g5 g6).toArray) ∧ Dsk w' w.heap.size g1 g2 g3 g4 g5 g6 gA gB vW cW cC tT ∧ Below w.heap.size w w' := by
  go_enter Tryz.func18, Tryz.ntmps18
  go_wp2_with fail
  refine bodyPost_ret (res_desk (g := w.heap.size) (g1 := w.heap.size + 1) (g2 := w.heap.size + 1 + 1) (g3 := w.heap.size + 1 + 1 + 1) (g4 := w.heap.size + 1 + 1 + 1 + 1) (g5 := w.heap.size + 1 + 1 + 1 + 1 + 1) (g6 := w.heap.size + 1 + 1 + 1 + 1 + 1 + 1) (by simp) ?_) rfl ?_
  rotate_left
  refine ⟨w.heap.size + 1, w.heap.size + 1 + 1, w.heap.size + 1 + 1 + 1, w.heap.size + 1 + 1 + 1 + 1, w.heap.size + 1 + 1 + 1 + 1 + 1, w.heap.size + 1 + 1 + 1 + 1 + 1 + 1, rfl, ⟨by omega, by omega, by omega, by omega, by omega, by omega, by simp, ?_, ?_, ?_, ?_, ?_, ?_⟩, ?_⟩
  · exact (((((blk_new _ _ _ _ (by simp)).alloc _).alloc _).alloc _).alloc _).alloc _
  · exact ((((blk_new _ _ _ _ (by simp)).alloc _).alloc _).alloc _).alloc _
  · exact (((blk_new _ _ _ _ (by simp)).alloc _).alloc _).alloc _
  · exact ((blk_new _ _ _ _ (by simp)).alloc _).alloc _
  · exact (blk_new _ _ _ _ (by simp)).alloc _
  · exact blk_new _ _ _ _ (by simp)
  · exact ((((((bl1 w _).alloc (by simp) _).alloc (by simp; omega) _).alloc (by simp; omega) _).alloc (by simp; omega) _).alloc (by simp; omega) _).alloc (by simp; omega) _
  · exact ((((((blk_new _ _ _ _ rfl).alloc _).alloc _).alloc _).alloc _).alloc _).alloc _
end Go.Proofs.YtkbejmjkdnfemaaGreatDoor
namespace Go.Proofs.YtkbejmjkdnfemaaGreatDoor
set_option linter.unusedVariables false
set_option linter.unusedSimpArgs false
open Go.RowKit

def deskB (R C : Int) (xA xB : List Int) (P T : Int) (xV : List Int) (U N : Int) (xW xC : List Int) (xT : List Nat) : Bool := gameB R C xA xB && valuesB P T xV && validB ⟨U, N, xW, xC⟩ && turnsB xT
structure RdDesk (w : World) (Z : Nat) (aA : Option Addr) (xA : List Int) (aB : Option Addr) (xB : List Int) (aV : Option Addr) (xV : List Int) (aW : Option Addr) (xW : List Int) (aC : Option Addr) (xC : List Int) (aT : Option Addr) (xT : List Nat) : Prop where
  A : Rd w Z aA (ints xA)
  B : Rd w Z aB (ints xB)
  V : Rd w Z aV (ints xV)
  W : Rd w Z aW (ints xW)
  C : Rd w Z aC (ints xC)
  T : Rd w Z aT (flts xT)
theorem RdDesk.to {w w' : World} {aA aB aV aW aC aT : Option Addr} {xA xB xV xW xC : List Int} {xT : List Nat} (h : RdDesk w w.heap.size aA xA aB xB aV xV aW xW aC xC aT xT) (hb : Below w.heap.size w w') : RdDesk w' w'.heap.size aA xA aB xB aV xV aW xW aC xC aT xT :=
  ⟨h.A.to hb, h.B.to hb, h.V.to hb, h.W.to hb, h.C.to hb, h.T.to hb⟩
end Go.Proofs.YtkbejmjkdnfemaaGreatDoor
