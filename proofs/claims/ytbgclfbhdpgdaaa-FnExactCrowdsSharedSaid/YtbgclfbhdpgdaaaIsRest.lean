/-
  Whether choices are at rest: both roads.
-/
import Derived.Test.YtbgclfbhdpgdaaaCrowdBR
import Derived.Test.YtbgclfbhdpgdaaaCrowdC
namespace Go.Proofs.Ytbgclfbhdpgdaaa
set_option linter.unusedVariables false
set_option linter.unusedSimpArgs false
open Go.RowKit

def isRestF (c : Cr) (ch : List Int) : Bool × Bool := if canB c ch then ((betterF c ch).isNone, true) else (false, false)
theorem isRestF_no {c : Cr} {ch : List Int} (h : canB c ch = false) : isRestF c ch = (false, false) := by simp [isRestF, h]
theorem isRestF_none {c : Cr} {ch : List Int} (h : canB c ch = true) (hb : betterF c ch = none) : isRestF c ch = (true, true) := by simp [isRestF, h, hb]
theorem isRestF_some {c : Cr} {ch : List Int} {p : Nat × Nat} (h : canB c ch = true) (hb : betterF c ch = some p) : isRestF c ch = (false, true) := by simp [isRestF, h, hb]
theorem roads_nat {U R : Int} {x2 x3 ch : List Int} (hc : Can ⟨U, R, x2, x3⟩ ch) : ∃ n : Nat, R = n := ⟨R.toNat, by have := hc.v.r1; simp only at this; omega⟩
theorem blkBox (w : World) (cs : List Value) (t : TypeId) {w1 : World} (hb : Below (w.alloc (.cells cs.toArray t)).heap.size (w.alloc (.cells cs.toArray t)) w1) : Blk w1 w.heap.size cs t := (Blk.new w cs t).same hb
set_option maxRecDepth 10000 in
set_option maxHeartbeats 4000000 in
theorem isRest_any (w : World) (U R : Int) (a2 : Option Addr) (c2 : Nat) (x2 : List Int) (a3 : Option Addr) (c3 : Nat) (x3 : List Int) (a : Option Addr) (c : Nat) (ch : List Int) (h : RdCrowd w w.heap.size a2 x2 a3 x3) (hl2 : x2.length ≤ 1048576) (hl3 : x3.length ≤ 1048576) (g : Rd w w.heap.size a (ints ch)) (hl : ch.length ≤ 1048576) :
    Calls Try.prog 14 #[.agg #[.int .i64 U, .int .i64 R, .slice a2 x2.length c2, .slice a3 x3.length c3], .slice a ch.length c] w fun e w' => e = .returned (.tuple #[.bool (isRestF ⟨U, R, x2, x3⟩ ch).1, .bool (isRestF ⟨U, R, x2, x3⟩ ch).2]) ∧ Below w.heap.size w w' := by
  have LC := Lib.hid (fun w' hb => chosen_any w' U R a2 c2 x2 a3 c3 x3 a c ch (h.to hb) hl2 hl3 (g.to hb) hl)
  cases t1 : canB ⟨U, R, x2, x3⟩ ch with
  | false =>
    rw [isRestF_no t1]
    rw [t1] at LC
    clear h g t1
    go_enter Try.func14, Try.ntmps14
    go_wp2_with fail
    refine (LC.out _ (bl1 _ _)).mono ?_
    rintro e w1 ⟨rfl, hb1⟩
    have B1 := below_then (bl1 w _) hb1
    clear hb1
    go_wp2_with fail
    go_ret2
    exact ⟨rfl, B1⟩
  | true =>
    rw [t1] at LC
    have hc := can_of t1
    obtain ⟨n, rfl⟩ := roads_nat hc
    have LB := Lib.hid (fun w' hb => better_any w' U n a2 c2 x2 a3 c3 x3 a c ch (h.to hb) (g.to hb) hc)
    cases hbf : betterF ⟨U, n, x2, x3⟩ ch with
    | none =>
      rw [isRestF_none t1 hbf]
      simp only [hbf, bU, bK] at LB
      clear h g t1 hc hbf
      go_enter Try.func14, Try.ntmps14
      go_wp2_with fail
      refine (LC.out _ (bl1 _ _)).mono ?_
      rintro e w1 ⟨rfl, hb1⟩
      have kA := (Blk.new w [.int .i64 U, .int .i64 n, .slice a2 x2.length c2, .slice a3 x3.length c3] 28).same hb1
      have B1 := below_then (bl1 w (.cells #[.int .i64 U, .int .i64 n, .slice a2 x2.length c2, .slice a3 x3.length c3] 28)) hb1
      have q0 := kA.cell 0
      have q1 := kA.cell 1
      have q2 := kA.cell 2
      have q3 := kA.cell 3
      simp only [List.getElem?_cons_zero, List.getElem?_cons_succ] at q0 q1 q2 q3
      clear hb1 kA LC
      go_wp2_with fail
      refine (LB.out _ B1).mono ?_
      rintro e w2 ⟨rfl, hb2⟩
      have B2 := below_then B1 hb2
      clear hb2 LB q0 q1 q2 q3
      go_wp2_with fail
      go_ret2
      exact ⟨rfl, B2⟩
    | some p =>
      rw [isRestF_some t1 hbf]
      simp only [hbf, bU, bK] at LB
      clear h g t1 hc hbf
      go_enter Try.func14, Try.ntmps14
      go_wp2_with fail
      refine (LC.out _ (bl1 _ _)).mono ?_
      rintro e w1 ⟨rfl, hb1⟩
      have kA := (Blk.new w [.int .i64 U, .int .i64 n, .slice a2 x2.length c2, .slice a3 x3.length c3] 28).same hb1
      have B1 := below_then (bl1 w (.cells #[.int .i64 U, .int .i64 n, .slice a2 x2.length c2, .slice a3 x3.length c3] 28)) hb1
      have q0 := kA.cell 0
      have q1 := kA.cell 1
      have q2 := kA.cell 2
      have q3 := kA.cell 3
      simp only [List.getElem?_cons_zero, List.getElem?_cons_succ] at q0 q1 q2 q3
      clear hb1 kA LC
      go_wp2_with fail
      refine (LB.out _ B1).mono ?_
      rintro e w2 ⟨rfl, hb2⟩
      have B2 := below_then B1 hb2
      have hneg : ¬ ((p.1 : Int) < 0) := by omega
      clear hb2 LB q0 q1 q2 q3
      go_wp2_with fail
      go_ret2
      exact ⟨by simp [hneg], B2⟩
set_option maxRecDepth 10000 in
set_option maxHeartbeats 4000000 in
theorem isRestR_any (w : World) (U R : Int) (a2 : Option Addr) (c2 : Nat) (x2 : List Int) (a3 : Option Addr) (c3 : Nat) (x3 : List Int) (a : Option Addr) (c : Nat) (ch : List Int) (h : RdCrowd w w.heap.size a2 x2 a3 x3) (hl2 : x2.length ≤ 1048576) (hl3 : x3.length ≤ 1048576) (g : Rd w w.heap.size a (ints ch)) (hl : ch.length ≤ 1048576) :
    Calls Try.prog 11 #[.agg #[.int .i64 U, .int .i64 R, .slice a2 x2.length c2, .slice a3 x3.length c3], .slice a ch.length c] w fun e w' => e = .returned (.tuple #[.bool (isRestF ⟨U, R, x2, x3⟩ ch).1, .bool (isRestF ⟨U, R, x2, x3⟩ ch).2]) ∧ Below w.heap.size w w' := by
  have kA := Blk.new w [.int .i64 U, .int .i64 R, .slice a2 x2.length c2, .slice a3 x3.length c3] 28
  have q0 := kA.cell 0
  have q1 := kA.cell 1
  have q2 := kA.cell 2
  have q3 := kA.cell 3
  simp only [List.getElem?_cons_zero, List.getElem?_cons_succ] at q0 q1 q2 q3
  have hB := bl1 w (.cells #[.int .i64 U, .int .i64 R, .slice a2 x2.length c2, .slice a3 x3.length c3] 28)
  have LC := Lib.hid (l06Can_any _ w.heap.size 0 U R a2 c2 x2 a3 c3 x3 q0 q1 q2 q3 a c ch (h.to hB) hl2 hl3 (g.to hB) hl)
  cases t1 : canB ⟨U, R, x2, x3⟩ ch with
  | false =>
    rw [isRestF_no t1]
    rw [t1] at LC
    clear h g t1 q0 q1 q2 q3 kA
    go_enter Try.func11, Try.ntmps11
    go_wp2_with fail
    refine LC.out.mono ?_
    rintro e w1 ⟨rfl, m, rfl⟩
    clear LC
    go_wp2_with fail
    go_ret2
    exact ⟨rfl, below_drewN hB m⟩
  | true =>
    rw [t1] at LC
    have hc := can_of t1
    obtain ⟨n, rfl⟩ := roads_nat hc
    have LB := Lib.hid (fun m => l06Better_any ((w.alloc (.cells #[.int .i64 U, .int .i64 n, .slice a2 x2.length c2, .slice a3 x3.length c3] 28)).drewN m) w.heap.size 0 U n a2 c2 x2 a3 c3 x3 a c ch (by simp) (by simp) (by simp) (by simp) (h.to (below_drewN hB m)) (g.to (below_drewN hB m)) hc)
    have HN : Hid (betL ⟨U, n, x2, x3⟩ ch = none → isRestF ⟨U, n, x2, x3⟩ ch = (true, true)) := fun hh => isRestF_none t1 (by unfold betL at hh; simpa using hh)
    have HS : Hid (∀ ys, betL ⟨U, n, x2, x3⟩ ch = some ys → isRestF ⟨U, n, x2, x3⟩ ch = (false, true)) := fun ys hh => by
      unfold betL at hh
      cases hbf : betterF ⟨U, n, x2, x3⟩ ch with
      | none => rw [hbf] at hh; cases hh
      | some p => exact isRestF_some t1 hbf
    cases hL : betL ⟨U, n, x2, x3⟩ ch with
    | none =>
      rw [HN.out hL]
      simp only [hL] at LB
      clear h g t1 q0 q1 q2 q3 kA hc HN HS hL
      go_enter Try.func11, Try.ntmps11
      go_wp2_with fail
      refine LC.out.mono ?_
      rintro e w1 ⟨rfl, m, rfl⟩
      clear LC
      go_wp2_with fail
      refine (LB.out m).mono ?_
      rintro e w2 ⟨hb2, rfl⟩
      have B2 := below_then (below_drewN hB m) hb2
      clear LB hb2 hB
      go_wp2_with fail
      go_ret2
      exact ⟨rfl, B2⟩
    | some ys =>
      rw [HS.out ys hL]
      simp only [hL] at LB
      clear h g t1 q0 q1 q2 q3 kA hc HN HS hL
      go_enter Try.func11, Try.ntmps11
      go_wp2_with fail
      refine LC.out.mono ?_
      rintro e w1 ⟨rfl, m, rfl⟩
      clear LC
      go_wp2_with fail
      refine (LB.out m).mono ?_
      rintro e w2 ⟨hb2, a', c', rfl, _⟩
      have B2 := below_then (below_drewN hB m) hb2
      clear LB hb2 hB
      go_wp2_with fail
      go_ret2
      exact ⟨rfl, B2⟩
end Go.Proofs.Ytbgclfbhdpgdaaa
