/-
  Part 35 of what the proof stands on: lemmas and contracts, each with its conditions ahead of the colon.
-/
import Derived.WalkKit
import Derived.Still
import Derived.Deep.RegionHeld3
import Derived.Deep.DeepCutAuto
import Derived.Deep.CutBlock
import Derived.Test.YtkbejmjkdnfemaaGreatDoorPk29
import Derived.Test.YtkbejmjkdnfemaaGreatDoorPk32
import Derived.Test.YtkbejmjkdnfemaaGreatDoorPk33
import Derived.Test.YtkbejmjkdnfemaaGreatDoorPk34
namespace Go.Proofs.YtkbejmjkdnfemaaGreatDoor
set_option linter.unusedVariables false
set_option linter.unusedSimpArgs false
open Go.RowKit

def OkR (w : World) (B0 b : Nat) (a : Option Addr) (xs : List Int) (c p : Nat) (e : Ending) (w' : World) : Prop :=
  ∃ (R C : Nat) (aA : Option Addr) (cA : Nat) (A : List Int) (aB : Option Addr) (cB : Nat) (B : List Int) (p' : Nat), e = .returned (.agg #[.int .i64 R, .int .i64 C, .slice aA A.length cA, .slice aB B.length cB]) ∧ ((1 ≤ R ∧ R ≤ 4) ∧ (1 ≤ C ∧ C ≤ 4)) ∧ (A.length = R * C ∧ B.length = R * C) ∧ ((∀ x ∈ A, -6 ≤ x ∧ x ≤ 6) ∧ ∀ x ∈ B, -6 ≤ x ∧ x ≤ 200) ∧ OwnGame w' w.heap.size w'.heap.size aA cA A aB cB B ∧ p' ≤ p + 42 ∧ DS w' B0 b a xs c p' ∧ Touch w w' b (b + 1)
theorem own_upG {w : World} {lo hi lo' hi' : Nat} {a b : Option Addr} {c d : Nat} {x y : List Int} (h : OwnGame w lo hi a c x b d y) (h1 : lo' ≤ lo) (h2 : hi ≤ hi') : OwnGame w lo' hi' a c x b d y := by
  obtain ⟨m, hm, o1, o2⟩ := h
  exact ⟨m, by omega, o1.mono h1 (Nat.le_refl _), o2.mono (Nat.le_refl _) h2⟩
set_option maxRecDepth 10000 in
set_option maxHeartbeats 4000000 in
theorem ok_ds (w : World) (B0 b : Nat) (a : Option Addr) (xs : List Int) (c p : Nat) (h : DS w B0 b a xs c p) (hp : p ≤ 600000) :
    Calls Tryz.prog 123 #[.pointer (some ⟨b, 0, none⟩)] w (OkR w B0 b a xs c p) := by
  have hbw := h.lt
  have D0 := h.same (bl1 w (.cells #[.int .i64 0, .int .i64 0, .slice none 0 0, .slice none 0 0] 26))
  have KR0 := Lib.hid (Blk.new w [.int .i64 0, .int .i64 0, .slice none 0 0, .slice none 0 0] 26)
  have T0 := Lib.hid (Below.touch (bl1 w (.cells #[.int .i64 0, .int .i64 0, .slice none 0 0, .slice none 0 0] 26)) b (b + 1))
  have L1 := Lib.hid (pick_ds _ B0 b a xs c p 4 D0 (by omega) (by omega))
  clear h D0
  go_enter Tryz.func123, Tryz.ntmps123
  go_wp2_with fail
  refine L1.out.mono ?_
  rintro e w1 ⟨x, p1, rfl, ⟨x0, x1⟩, hp1, D1, T1⟩
  obtain ⟨R, hR⟩ : ∃ R : Nat, 1 + x = (R : Int) := ⟨(1 + x).toNat, by omega⟩
  have KR1 := Lib.hid (KR0.out.touch T1 (.inr (by omega)))
  have s1 := T1.size
  rw [World.size_alloc] at s1
  have T1' := Lib.hid (T0.out.trans T1)
  have L2 := Lib.hid (pick_ds w1 B0 b a xs c p1 4 D1 (by omega) (by omega))
  have x3 : x ≤ 3 := by omega
  clear L1 KR0 T0 D1 T1 x1
  go_wp2_with fail
  refine L2.out.mono ?_
  rintro e w2 ⟨y, p2, rfl, ⟨y0, y1⟩, hp2, D2, T2⟩
  obtain ⟨C, hC⟩ : ∃ C : Nat, 1 + y = (C : Int) := ⟨(1 + y).toNat, by omega⟩
  have KR2 := Lib.hid (KR1.out.touch T2 (.inr (by omega)))
  have s2 := T2.size
  have T2' := Lib.hid (T1'.out.trans T2)
  have L3 := Lib.hid (sides_ds w2 B0 b a xs c p2 R C D2 (by omega) (by omega) (by omega) (by omega) (by omega))
  have hR1 : 1 ≤ R ∧ R ≤ 4 := by omega
  have hC1 : 1 ≤ C ∧ C ≤ 4 := by omega
  have y3 : y ≤ 3 := by omega
  have hp2' : p2 ≤ p + 2 := by omega
  clear L2 KR1 D2 T2 T1' y1 hp1 hp2
  go_wp2_with fail
  refine L3.out.mono ?_
  rintro e w3 ⟨aA, cA, A, aB, cB, B, p3, rfl, hl, hb, hO, hp3, D3, T3⟩
  have KR3 := Lib.hid (KR2.out.touch T3 (.inr (by omega)))
  have s3 := T3.size
  have T3' := Lib.hid (T2'.out.trans T3)
  have HO := Lib.hid hO
  have HL := Lib.hid hl
  have HB := Lib.hid hb
  have HD := Lib.hid D3
  clear L3 KR2 D3 T3 T2' hO hl hb hR hC
  have y0' : w3.cell? ⟨w.heap.size, 0, none⟩ = some (.int .i64 0) := KR3.out.cell 0
  have y1' : w3.cell? ⟨w.heap.size, 1, none⟩ = some (.int .i64 0) := KR3.out.cell 1
  have y2' : w3.cell? ⟨w.heap.size, 2, none⟩ = some (.slice none 0 0) := KR3.out.cell 2
  have y3' : w3.cell? ⟨w.heap.size, 3, none⟩ = some (.slice none 0 0) := KR3.out.cell 3
  have f0 := KR3.out.free 0
  have f1 := KR3.out.free 1
  have f2 := KR3.out.free 2
  have f3 := KR3.out.free 3
  go_wp2_with fail
  obtain ⟨wz, hwz⟩ : ∃ Y, Y = (((w3.setCell ⟨w.heap.size, 0, none⟩ (.int .i64 R)).setCell ⟨w.heap.size, 1, none⟩ (.int .i64 C)).setCell ⟨w.heap.size, 2, none⟩ (.slice aA (R * C) cA)).setCell ⟨w.heap.size, 3, none⟩ (.slice aB (R * C) cB) := ⟨_, rfl⟩
  have KZ : Blk wz w.heap.size [.int .i64 R, .int .i64 C, .slice aA (R * C) cA, .slice aB (R * C) cB] 26 := by rw [hwz]; exact (((KR3.out.set 0 (.int .i64 R)).set 1 (.int .i64 C)).set 2 (.slice aA (R * C) cA)).set 3 (.slice aB (R * C) cB)
  have TZ : Touch w3 wz w.heap.size (w.heap.size + 1) := by rw [hwz]; exact (((touch_setD w3 w.heap.size 0 (.int .i64 R)).trans (touch_setD _ w.heap.size 1 (.int .i64 C))).trans (touch_setD _ w.heap.size 2 (.slice aA (R * C) cA))).trans (touch_setD _ w.heap.size 3 (.slice aB (R * C) cB))
  have OZ := Lib.hid (HO.out.touch TZ (.inr (by omega)))
  have DZ := Lib.hid (HD.out.touch TZ hbw)
  have TT : Touch w wz b (b + 1) := ⟨TZ.os.trans T3'.out.os, TZ.tape.trans T3'.out.tape, TZ.output.trans T3'.out.output, Nat.le_trans T3'.out.size TZ.size, fun k hk hd => (TZ.block k (by have := T3'.out.size; omega) (by omega)).trans (T3'.out.block k hk hd)⟩
  have sZ := TZ.size
  rw [← hwz]
  clear hwz y0' y1' y2' y3'
  have y0' : wz.cell? ⟨w.heap.size, 0, none⟩ = some (.int .i64 R) := KZ.cell 0
  have y1' : wz.cell? ⟨w.heap.size, 1, none⟩ = some (.int .i64 C) := KZ.cell 1
  have y2' : wz.cell? ⟨w.heap.size, 2, none⟩ = some (.slice aA (R * C) cA) := KZ.cell 2
  have y3' : wz.cell? ⟨w.heap.size, 3, none⟩ = some (.slice aB (R * C) cB) := KZ.cell 3
  refine bodyPost_ret (v := .agg #[.int .i64 R, .int .i64 C, .slice aA (R * C) cA, .slice aB (R * C) cB]) (by simp [results, Tryz.results123, go_sem, y0', y1', y2', y3']) rfl ?_
  exact ⟨R, C, aA, cA, A, aB, cB, B, p3, by rw [HL.out.1, HL.out.2], ⟨hR1, hC1⟩, HL.out, HB.out, own_upG OZ.out (by omega) sZ, by omega, DZ.out, TT⟩
end Go.Proofs.YtkbejmjkdnfemaaGreatDoor
namespace Go.Proofs.YtkbejmjkdnfemaaGreatDoor
set_option linter.unusedVariables false
set_option linter.unusedSimpArgs false
open Go.RowKit

/-- What is said of drawn values. -/
def ValR (w : World) (B0 b : Nat) (a : Option Addr) (xs : List Int) (c p P T : Nat) (e : Ending) (w' : World) : Prop :=
  ∃ (aV : Option Addr) (cV : Nat) (V : List Int) (p' : Nat), e = .returned (.agg #[.int .i64 P, .int .i64 T, .slice aV V.length cV]) ∧ V.length = P * T ∧ (∀ x ∈ V, 0 ≤ x ∧ x ≤ 11) ∧ OwnI 2 w' w.heap.size w'.heap.size aV cV V ∧ p' ≤ p + P * T ∧ DS w' B0 b a xs c p' ∧ Touch w w' b (b + 1)
set_option maxRecDepth 10000 in
set_option maxHeartbeats 4000000 in
theorem sides4_ds (w : World) (B0 b : Nat) (a : Option Addr) (xs : List Int) (c p P T : Nat) (h : DS w B0 b a xs c p) (hp : p ≤ 700000) (hP : P ≤ 6) (hT : T ≤ 8) :
    Calls Tryz.prog 124 #[.pointer (some ⟨b, 0, none⟩), .int .i64 P, .int .i64 T] w (ValR w B0 b a xs c p P T) := by
  have hbw := h.lt
  have hPT : P * T ≤ 6 * 8 := Nat.mul_le_mul hP hT
  have hPi : (P : Int) ≤ 6 := by omega
  have hTi : (T : Int) ≤ 8 := by omega
  have B0' := bl1 w (.cells #[.int .i64 0, .int .i64 0, .slice none 0 0] 28)
  have KR0 := Lib.hid (Blk.new w [.int .i64 0, .int .i64 0, .slice none 0 0] 28)
  have T0 := Lib.hid (Below.touch B0' b (b + 1))
  have L1 := Lib.hid (worths4_ds _ B0 b a xs c p (P * T) (h.same B0') (by omega) (by omega))
  have hm : ((P : Int) * (T : Int)) = ((P * T : Nat) : Int) := (Int.natCast_mul P T).symm
  obtain ⟨M, hM⟩ : ∃ M, M = P * T := ⟨_, rfl⟩
  rw [← hM] at hm hPT L1
  have HM := Lib.hid hM
  have hMi : (M : Int) ≤ 48 := by omega
  clear h B0' hM
  go_enter Tryz.func124, Tryz.ntmps124
  go_wp2_with fail
  refine L1.out.mono ?_
  rintro e w1 ⟨aV, cV, V, p1, rfl, hV1, hV2, OV, hp1, D1, T1⟩
  have KR1 := Lib.hid (KR0.out.touch T1 (.inr (by omega)))
  have T1' := Lib.hid (T0.out.trans T1)
  have s1 := T1.size
  rw [World.size_alloc] at s1 OV
  have OV := Lib.hid OV
  have HV1 := Lib.hid hV1
  have HV2 := Lib.hid hV2
  have D1 := Lib.hid D1
  have HP1 := Lib.hid hp1
  clear L1 KR0 T0 T1 hV1 hV2 hp1
  have y0' : w1.cell? ⟨w.heap.size, 0, none⟩ = some (.int .i64 0) := KR1.out.cell 0
  have y1' : w1.cell? ⟨w.heap.size, 1, none⟩ = some (.int .i64 0) := KR1.out.cell 1
  have y2' : w1.cell? ⟨w.heap.size, 2, none⟩ = some (.slice none 0 0) := KR1.out.cell 2
  have f0 := KR1.out.free 0
  have f1 := KR1.out.free 1
  have f2 := KR1.out.free 2
  go_wp2_with fail
  obtain ⟨wz, hwz⟩ : ∃ Y, Y = ((w1.setCell ⟨w.heap.size, 0, none⟩ (.int .i64 P)).setCell ⟨w.heap.size, 1, none⟩ (.int .i64 T)).setCell ⟨w.heap.size, 2, none⟩ (.slice aV M cV) := ⟨_, rfl⟩
  have KZ : Blk wz w.heap.size [.int .i64 P, .int .i64 T, .slice aV M cV] 28 := by rw [hwz]; exact ((KR1.out.set 0 (.int .i64 P)).set 1 (.int .i64 T)).set 2 (.slice aV M cV)
  have TZ : Touch w1 wz w.heap.size (w.heap.size + 1) := by rw [hwz]; exact ((touch_setX w1 w.heap.size 0 (.int .i64 P)).trans (touch_setX _ w.heap.size 1 (.int .i64 T))).trans (touch_setX _ w.heap.size 2 (.slice aV M cV))
  have OVZ := OV.out.touch TZ (.inr (Nat.le_refl _))
  have DZ := D1.out.touch TZ hbw
  have TT := touch_hiX T1'.out TZ (Nat.le_refl _)
  have sZ := TZ.size
  rw [← hwz]
  clear hwz y0' y1' y2'
  have y0' : wz.cell? ⟨w.heap.size, 0, none⟩ = some (.int .i64 P) := KZ.cell 0
  have y1' : wz.cell? ⟨w.heap.size, 1, none⟩ = some (.int .i64 T) := KZ.cell 1
  have y2' : wz.cell? ⟨w.heap.size, 2, none⟩ = some (.slice aV M cV) := KZ.cell 2
  refine bodyPost_ret (v := .agg #[.int .i64 P, .int .i64 T, .slice aV M cV]) (by simp [results, Tryz.results124, go_sem, y0', y1', y2']) rfl ?_
  exact ⟨aV, cV, V, p1, by rw [HV1.out], by rw [HV1.out, HM.out], HV2.out, OVZ.mono (by omega) sZ, by rw [← HM.out]; exact HP1.out, DZ, TT⟩
/-- The result's cell, the desk that is made, the source. -/
structure DKW (w wX : World) (B0 b : Nat) (a : Option Addr) (xs : List Int) (c p g : Nat) (cs : List Value) : Prop where
  T : Touch w wX b (b + 1)
  D : DS wX B0 b a xs c p
  R : Blk wX w.heap.size [.int .i64 0, .int .i64 0, .slice none 0 0, .slice none 0 0, .int .i64 0, .int .i64 0, .slice none 0 0, .int .i64 0, .int .i64 0, .slice none 0 0, .slice none 0 0, .slice none 0 0] 33
  V : Blk wX g cs 33
section
variable {w wX wY : World} {B0 b c p p' g : Nat} {a : Option Addr} {xs : List Int} {cs : List Value}
theorem DKW.draw (h : DKW w wX B0 b a xs c p g cs) (hb : b < w.heap.size) (hg : w.heap.size < g) (ht : Touch wX wY b (b + 1)) (hd : DS wY B0 b a xs c p') : DKW w wY B0 b a xs c p' g cs :=
  ⟨h.T.trans ht, hd, h.R.touch ht (.inr (by omega)), h.V.touch ht (.inr (by omega))⟩
theorem DKW.set (h : DKW w wX B0 b a xs c p g cs) (hb : b < w.heap.size) (hg : w.heap.size < g) (j : Nat) (u : Value) : DKW w (wX.setCell ⟨g, j, none⟩ u) B0 b a xs c p g (cs.set j u) := by
  have ht := touch_setX wX g j u
  exact ⟨⟨ht.os.trans h.T.os, ht.tape.trans h.T.tape, ht.output.trans h.T.output, Nat.le_trans h.T.size ht.size, fun k hk hd => (ht.block k (by have := h.T.size; omega) (by omega)).trans (h.T.block k hk hd)⟩, h.D.touch ht (by omega), h.R.touch ht (.inl hg), h.V.set j u⟩
end
/-- What is said of a drawn desk. -/
structure Drawn (o : DD) : Prop where
  ok : o.ok = true
  F : o.F.map bitsN = o.F
  lt : ∀ y ∈ o.F, y < 4294967296
def DeskR (w : World) (B0 b : Nat) (a : Option Addr) (xs : List Int) (c q : Nat) (e : Ending) (w' : World) : Prop :=
  ∃ (o : DD) (x : DA) (p' : Nat), e = .returned (o.val x) ∧ (Drawn o ∧ o.A.length ≤ x.ca) ∧ DRd w' w'.heap.size o x ∧ DLo (w.heap.size + 1) x ∧ p' ≤ q ∧ DS w' B0 b a xs c p' ∧ Touch w w' b (b + 1)
theorem drawn_of {R C P T U N : Nat} {A B V W K : List Int} {F : List Nat} (hR : 1 ≤ R ∧ R ≤ 4) (hC : 1 ≤ C ∧ C ≤ 4) (lA : A.length = R * C) (lB : B.length = R * C) (hA : ∀ x ∈ A, -6 ≤ x ∧ x ≤ 6) (hB : ∀ x ∈ B, -6 ≤ x ∧ x ≤ 200)
    (hP : 1 ≤ P ∧ P ≤ 3) (hT : 1 ≤ T ∧ T ≤ 4) (lV : V.length = P * T) (hV : ∀ x ∈ V, 0 ≤ x ∧ x ≤ 11) (hU : 1 ≤ U ∧ U ≤ 4) (hN : 1 ≤ N ∧ N ≤ 4) (lW : 1 ≤ W.length ∧ W.length ≤ 4) (hW : ∀ x ∈ W, 1 ≤ x ∧ x ≤ 2 ^ N - 1) (lK : K.length = N * U) (hK : ∀ x ∈ K, -20 ≤ x ∧ x ≤ 30)
    (lF : 1 ≤ F.length ∧ F.length ≤ 5) (hF : ∀ y ∈ F, finB y = true ∧ bitsN y = y ∧ y < 4294967296) : Drawn ⟨R, C, A, B, P, T, V, U, N, W, K, F⟩ := by
  refine ⟨DD.ok_of ?_ ?_ ?_ ?_, ?_, fun y hy => (hF y hy).2.2⟩
  · show gameB R C A B = true
    unfold gameB
    rw [Bool.and_eq_true, Bool.and_eq_true, Bool.and_eq_true, inB_iff, inB_iff, manyB_iff, manyB_iff, lA, lB, Int.natCast_mul]
    exact ⟨⟨by omega, by omega⟩, ⟨⟨Int.le_refl _, Int.le_refl _⟩, fun x hx => by have := hA x hx; omega⟩, ⟨Int.le_refl _, Int.le_refl _⟩, fun x hx => by have := hB x hx; omega⟩
  · show valuesB P T V = true
    unfold valuesB
    rw [Bool.and_eq_true, Bool.and_eq_true, inB_iff, inB_iff, manyB_iff, lV, Int.natCast_mul]
    exact ⟨⟨by omega, by omega⟩, ⟨Int.le_refl _, Int.le_refl _⟩, fun x hx => by have := hV x hx; omega⟩
  · show validB ⟨U, N, W, K⟩ = true
    unfold validB
    rw [Bool.and_eq_true, Bool.and_eq_true, Bool.and_eq_true, inB_iff, inB_iff, manyB_iff, manyB_iff]
    have e : ((N : Int)).toNat = N := Int.toNat_natCast N
    refine ⟨⟨⟨by dsimp only; omega, by dsimp only; omega⟩, ⟨by dsimp only; omega, by dsimp only; omega⟩, fun x hx => by dsimp only at hx ⊢; rw [e]; exact hW x hx⟩, ⟨?_, ?_⟩, fun x hx => by have := hK x hx; omega⟩
    · dsimp only; rw [lK, Int.natCast_mul, Int.mul_comm]; exact Int.le_refl _
    · dsimp only; rw [lK, Int.natCast_mul, Int.mul_comm]; exact Int.le_refl _
  · show turnsB F = true
    unfold turnsB finAll
    rw [Bool.and_eq_true, Bool.and_eq_true, decide_eq_true_eq, decide_eq_true_eq, List.all_eq_true]
    exact ⟨⟨lF.1, by omega⟩, fun y hy => (hF y hy).1⟩
  · show F.map bitsN = F
    have : ∀ l : List Nat, (∀ y ∈ l, bitsN y = y) → l.map bitsN = l := fun l hl => by
      induction l with
      | nil => rfl
      | cons y l ih => rw [List.map_cons, hl y (by simp), ih (fun z hz => hl z (List.mem_cons_of_mem _ hz))]
    exact this F (fun y hy => (hF y hy).2.1)
set_option maxRecDepth 10000 in
set_option maxHeartbeats 16000000 in
theorem desk_ds (w : World) (B0 b : Nat) (a : Option Addr) (xs : List Int) (c p : Nat) (h : DS w B0 b a xs c p) (hp : p ≤ 500000) :
    Calls Tryz.prog 50 #[.pointer (some ⟨b, 0, none⟩)] w (DeskR w B0 b a xs c (p + 200)) := by
  have hbw := h.lt
  have B0' := bl1 w (.cells #[.int .i64 0, .int .i64 0, .slice none 0 0, .slice none 0 0, .int .i64 0, .int .i64 0, .slice none 0 0, .int .i64 0, .int .i64 0, .slice none 0 0, .slice none 0 0, .slice none 0 0] 33)
  have KR0 := Lib.hid (Blk.new w [.int .i64 0, .int .i64 0, .slice none 0 0, .slice none 0 0, .int .i64 0, .int .i64 0, .slice none 0 0, .int .i64 0, .int .i64 0, .slice none 0 0, .slice none 0 0, .slice none 0 0] 33)
  have T0 := Lib.hid (Below.touch B0' b (b + 1))
  have L1 := Lib.hid (ok_ds _ B0 b a xs c p (h.same B0') (by omega))
  clear h B0'
  go_enter Tryz.func50, Tryz.ntmps50
  go_wp2_with fail
  refine L1.out.mono ?_
  rintro e w1 ⟨R, C, aA, cA, A, aB, cB, B, p1, rfl, ⟨hR, hC⟩, ⟨lA, lB⟩, ⟨hA, hB⟩, OG, hp1, D1, T1⟩
  have s1 := T1.size
  rw [World.size_alloc] at s1 OG
  obtain ⟨w2, hw2⟩ : ∃ X, X = w1.alloc (.cells #[.int .i64 R, .int .i64 C, .slice aA A.length cA, .slice aB B.length cB, .int .i64 0, .int .i64 0, .slice none 0 0, .int .i64 0, .int .i64 0, .slice none 0 0, .slice none 0 0, .slice none 0 0] 33) := ⟨_, rfl⟩
  obtain ⟨g, hg⟩ : ∃ g, g = w1.heap.size := ⟨_, rfl⟩
  have hgw : w.heap.size < g := by omega
  have hb2 : Below w1.heap.size w1 w2 := by rw [hw2]; exact bl1 _ _
  have hg2 : w2.heap.size = g + 1 := by rw [hw2, hg]; simp
  have W2 : Hid (DKW w w2 B0 b a xs c p1 g [.int .i64 R, .int .i64 C, .slice aA A.length cA, .slice aB B.length cB, .int .i64 0, .int .i64 0, .slice none 0 0, .int .i64 0, .int .i64 0, .slice none 0 0, .slice none 0 0, .slice none 0 0]) := by
    refine ⟨(T0.out.trans T1).trans (Below.touch hb2 b (b + 1)), D1.same hb2, (KR0.out.touch T1 (.inr (by omega))).same hb2, ?_⟩
    rw [hw2, hg]; exact Blk.new w1 _ _
  have OG2 : Hid (OwnGame w2 (w.heap.size + 1) g aA cA A aB cB B) := by rw [hg]; exact OG.keep hb2
  have HRC := Lib.hid (⟨hR, hC⟩ : (1 ≤ R ∧ R ≤ 4) ∧ 1 ≤ C ∧ C ≤ 4)
  have HL := Lib.hid (⟨lA, lB⟩ : A.length = R * C ∧ B.length = R * C)
  have HAB := Lib.hid (⟨hA, hB⟩ : (∀ x ∈ A, -6 ≤ x ∧ x ≤ 6) ∧ ∀ x ∈ B, -6 ≤ x ∧ x ≤ 200)
  have HP1 := Lib.hid hp1
  have L2 := Lib.hid (pick_ds w2 B0 b a xs c p1 3 W2.out.D (by omega) (by omega))
  clear L1 OG D1 T1 KR0 T0 hR hC lA lB hA hB hp1 hb2
  go_upto_region 2 with fail
  rw [← hw2]
  rw [← hg] at s1 ⊢
  clear hw2 hg
  go_wp2_with fail
  refine L2.out.mono ?_
  rintro e w3 ⟨u, p2, rfl, ⟨u0, u1⟩, hp2, D3, T3⟩
  obtain ⟨P, hP⟩ : ∃ P : Nat, 1 + u = (P : Int) := ⟨(1 + u).toNat, by omega⟩
  have W3 := Lib.hid (W2.out.draw hbw hgw T3 D3)
  have OG3 := Lib.hid (OG2.out.touch T3 (.inr (by omega)))
  have z3 := T3.size
  have HP2 : Hid (p2 ≤ p + 43) := by have := HP1.out; rw [Hid]; omega
  have L3 := Lib.hid (pick_ds w3 B0 b a xs c p2 4 D3 (by have := HP2.out; omega) (by omega))
  have hP3 : 1 ≤ P ∧ P ≤ 3 := by omega
  have HPP := Lib.hid hP3
  have u2 : u ≤ 2 := by omega
  clear L2 W2 OG2 D3 T3 HP1 hp2 u1 hP3
  go_wp2_with fail
  refine L3.out.mono ?_
  rintro e w4 ⟨v, p3, rfl, ⟨v0, v1⟩, hp3, D4, T4⟩
  obtain ⟨T, hT⟩ : ∃ T : Nat, 1 + v = (T : Int) := ⟨(1 + v).toNat, by omega⟩
  have W4 := Lib.hid (W3.out.draw hbw hgw T4 D4)
  have OG4 := Lib.hid (OG3.out.touch T4 (.inr (by omega)))
  have z4 := T4.size
  have HP3 : Hid (p3 ≤ p + 44) := by have := HP2.out; rw [Hid]; omega
  have hT4 : 1 ≤ T ∧ T ≤ 4 := by omega
  have HTT := Lib.hid hT4
  have L4 := Lib.hid (sides4_ds w4 B0 b a xs c p3 P T D4 (by have := HP3.out; omega) (by have := HPP.out; omega) (by omega))
  have v2 : v ≤ 3 := by omega
  clear L3 W3 OG3 D4 T4 HP2 hp3 v1 hT4
  go_wp2_with fail
  clear hP hT
  refine L4.out.mono ?_
  rintro e w5 ⟨aV, cV, V, p4, rfl, lV, hV, OV, hp4, D5, T5⟩
  have hPT : P * T ≤ 3 * 4 := Nat.mul_le_mul HPP.out.2 HTT.out.2
  have W5 := Lib.hid (W4.out.draw hbw hgw T5 D5)
  have OG5 := Lib.hid (OG4.out.touch T5 (.inr (by omega)))
  have z5 := T5.size
  have OV5 := Lib.hid OV
  have HV := Lib.hid (⟨lV, hV⟩ : V.length = P * T ∧ ∀ x ∈ V, 0 ≤ x ∧ x ≤ 11)
  have HP4 : Hid (p4 ≤ p + 56) := by have := HP3.out; rw [Hid]; omega
  clear L4 W4 OG4 D5 T5 HP3 hp4 lV hV OV
  obtain ⟨w6, hw6⟩ : ∃ X, X = (((w5.setCell ⟨g, 4, none⟩ (.int .i64 P)).setCell ⟨g, 5, none⟩ (.int .i64 T)).setCell ⟨g, 6, none⟩ (.slice aV V.length cV)) := ⟨_, rfl⟩
  have W6 : Hid (DKW w w6 B0 b a xs c p4 g [.int .i64 R, .int .i64 C, .slice aA A.length cA, .slice aB B.length cB, .int .i64 P, .int .i64 T, .slice aV V.length cV, .int .i64 0, .int .i64 0, .slice none 0 0, .slice none 0 0, .slice none 0 0]) := by rw [hw6]; exact (((W5.out.set hbw hgw 4 (.int .i64 P)).set hbw hgw 5 (.int .i64 T)).set hbw hgw 6 (.slice aV V.length cV))
  have TX6 : Touch w5 w6 g (g + 1) := by rw [hw6]; exact (((touch_setX w5 g 4 (.int .i64 P)).trans (touch_setX _ g 5 (.int .i64 T))).trans (touch_setX _ g 6 (.slice aV V.length cV)))
  have OG6 := Lib.hid (OG5.out.touch TX6 (.inl (Nat.le_refl _)))
  have OV6 := Lib.hid (OV5.out.touch TX6 (.inr (by omega)))
  have z6 := TX6.size
  have z6' : w6.heap.size = w5.heap.size := by rw [hw6]; simp
  have k4 : w5.cell? ⟨g, 4, none⟩ = some (.int .i64 0) := W5.out.V.cell 4
  have k5 : w5.cell? ⟨g, 5, none⟩ = some (.int .i64 0) := W5.out.V.cell 5
  have k6 : w5.cell? ⟨g, 6, none⟩ = some (.slice none 0 0) := W5.out.V.cell 6
  have q4 := W5.out.V.free 4
  have q5 := W5.out.V.free 5
  have q6 := W5.out.V.free 6
  have L5 := Lib.hid (drawOkC_ds w6 B0 b a xs c p4 W6.out.D (by have := HP4.out; omega))
  clear OG5 OV5 TX6 W5
  go_upto_region 5 with fail
  rw [← hw6]
  clear hw6 k4 k5 k6 q4 q5 q6
  go_wp2_with fail
  refine L5.out.mono ?_
  rintro e w7 ⟨U, N, hU, hN, aW, cW, W, aC, cC, K, p5, rfl, lW, hW, lK, hK, ⟨mm, hmm, OW, OC⟩, hp5, D7, T7⟩
  have W7 := Lib.hid (W6.out.draw hbw hgw T7 D7)
  have OG7 := Lib.hid (OG6.out.touch T7 (.inr (by omega)))
  have OV7 := Lib.hid (OV6.out.touch T7 (.inr (by omega)))
  have z7 := T7.size
  have OW7 := Lib.hid OW
  have OC7 := Lib.hid OC
  have HM := Lib.hid hmm
  have HUN := Lib.hid (⟨hU, hN⟩ : (1 ≤ U ∧ U ≤ 4) ∧ 1 ≤ N ∧ N ≤ 4)
  have HWW := Lib.hid (⟨lW, hW⟩ : (1 ≤ W.length ∧ W.length ≤ 4) ∧ ∀ x ∈ W, 1 ≤ x ∧ x ≤ 2 ^ N - 1)
  have HKK := Lib.hid (⟨lK, hK⟩ : K.length = N * U ∧ ∀ x ∈ K, -20 ≤ x ∧ x ≤ 30)
  have HP5 : Hid (p5 ≤ p + 96) := by have := HP4.out; rw [Hid]; omega
  have hmg : g + 1 ≤ mm := by omega
  clear L5 W6 OG6 OV6 D7 T7 HP4 hp5 lW hW lK hK OW OC hmm hU hN
  obtain ⟨w8, hw8⟩ : ∃ X, X = ((((w7.setCell ⟨g, 7, none⟩ (.int .i64 U)).setCell ⟨g, 8, none⟩ (.int .i64 N)).setCell ⟨g, 9, none⟩ (.slice aW W.length cW)).setCell ⟨g, 10, none⟩ (.slice aC K.length cC)) := ⟨_, rfl⟩
  have W8 : Hid (DKW w w8 B0 b a xs c p5 g [.int .i64 R, .int .i64 C, .slice aA A.length cA, .slice aB B.length cB, .int .i64 P, .int .i64 T, .slice aV V.length cV, .int .i64 U, .int .i64 N, .slice aW W.length cW, .slice aC K.length cC, .slice none 0 0]) := by rw [hw8]; exact ((((W7.out.set hbw hgw 7 (.int .i64 U)).set hbw hgw 8 (.int .i64 N)).set hbw hgw 9 (.slice aW W.length cW)).set hbw hgw 10 (.slice aC K.length cC))
  have TX8 : Touch w7 w8 g (g + 1) := by rw [hw8]; exact ((((touch_setX w7 g 7 (.int .i64 U)).trans (touch_setX _ g 8 (.int .i64 N))).trans (touch_setX _ g 9 (.slice aW W.length cW))).trans (touch_setX _ g 10 (.slice aC K.length cC)))
  have OG8 := Lib.hid (OG7.out.touch TX8 (.inl (Nat.le_refl _)))
  have OV8 := Lib.hid (OV7.out.touch TX8 (.inr (by omega)))
  have OW8 := Lib.hid (OW7.out.touch TX8 (.inr (by omega)))
  have OC8 := Lib.hid (OC7.out.touch TX8 (.inr (by omega)))
  have z8' : w8.heap.size = w7.heap.size := by rw [hw8]; simp
  have k7 : w7.cell? ⟨g, 7, none⟩ = some (.int .i64 0) := W7.out.V.cell 7
  have k8 : w7.cell? ⟨g, 8, none⟩ = some (.int .i64 0) := W7.out.V.cell 8
  have k9 : w7.cell? ⟨g, 9, none⟩ = some (.slice none 0 0) := W7.out.V.cell 9
  have k10 : w7.cell? ⟨g, 10, none⟩ = some (.slice none 0 0) := W7.out.V.cell 10
  have q7 := W7.out.V.free 7
  have q8 := W7.out.V.free 8
  have q9 := W7.out.V.free 9
  have q10 := W7.out.V.free 10
  have L6 := Lib.hid (turns_ds w8 B0 b a xs c p5 W8.out.D (by have := HP5.out; omega))
  clear OG7 OV7 OW7 OC7 TX8 W7
  go_upto_region 6 with fail
  rw [← hw8]
  clear hw8 k7 k8 k9 k10 q7 q8 q9 q10
  go_wp2_with fail
  refine L6.out.mono ?_
  rintro e w9 ⟨aF, cF, F, p6, rfl, lF, hF, OF, hp6, D9, T9⟩
  have W9 := Lib.hid (W8.out.draw hbw hgw T9 D9)
  have OG9 := Lib.hid (OG8.out.touch T9 (.inr (by omega)))
  have OV9 := Lib.hid (OV8.out.touch T9 (.inr (by omega)))
  have OW9 := Lib.hid (OW8.out.touch T9 (.inr (by omega)))
  have OC9 := Lib.hid (OC8.out.touch T9 (.inr (by omega)))
  have z9 := T9.size
  have OF9 := Lib.hid OF
  have HFF := Lib.hid (⟨lF, hF⟩ : (1 ≤ F.length ∧ F.length ≤ 5) ∧ ∀ y ∈ F, finB y = true ∧ bitsN y = y ∧ y < 4294967296)
  have HP6 : Hid (p6 ≤ p + 200) := by have := HP5.out; rw [Hid]; omega
  clear L6 W8 OG8 OV8 OW8 OC8 D9 T9 HP5 hp6 lF hF OF
  obtain ⟨w10, hw10⟩ : ∃ X, X = (w9.setCell ⟨g, 11, none⟩ (.slice aF F.length cF)) := ⟨_, rfl⟩
  have V10 : Hid (DKW w w10 B0 b a xs c p6 g [.int .i64 R, .int .i64 C, .slice aA A.length cA, .slice aB B.length cB, .int .i64 P, .int .i64 T, .slice aV V.length cV, .int .i64 U, .int .i64 N, .slice aW W.length cW, .slice aC K.length cC, .slice aF F.length cF]) := by rw [hw10]; exact (W9.out.set hbw hgw 11 (.slice aF F.length cF))
  have TX10 : Touch w9 w10 g (g + 1) := by rw [hw10]; exact (touch_setX w9 g 11 (.slice aF F.length cF))
  have OG10 := Lib.hid (OG9.out.touch TX10 (.inl (Nat.le_refl _)))
  have OV10 := Lib.hid (OV9.out.touch TX10 (.inr (by omega)))
  have OW10 := Lib.hid (OW9.out.touch TX10 (.inr (by omega)))
  have OC10 := Lib.hid (OC9.out.touch TX10 (.inr (by omega)))
  have OF10 := Lib.hid (OF9.out.touch TX10 (.inr (by omega)))
  have z10' : w10.heap.size = w9.heap.size := by rw [hw10]; simp
  have k11 : w9.cell? ⟨g, 11, none⟩ = some (.slice none 0 0) := W9.out.V.cell 11
  have q11 := W9.out.V.free 11
  clear OG9 OV9 OW9 OC9 OF9 TX10 W9
  go_upto_region 7 with fail
  rw [← hw10]
  clear hw10 k11 q11
  obtain ⟨v0, v1, v2, v3, v4, v5, v6, v7, v8, v9, v10, v11⟩ := cells12 V10.out.V
  obtain ⟨j0, j1, j2, j3, j4, j5, j6, j7, j8, j9, j10, j11⟩ := cells12 V10.out.R
  have jf0 := V10.out.R.free 0
  have jf1 := V10.out.R.free 1
  have jf2 := V10.out.R.free 2
  have jf3 := V10.out.R.free 3
  have jf4 := V10.out.R.free 4
  have jf5 := V10.out.R.free 5
  have jf6 := V10.out.R.free 6
  have jf7 := V10.out.R.free 7
  have jf8 := V10.out.R.free 8
  have jf9 := V10.out.R.free 9
  have jf10 := V10.out.R.free 10
  have jf11 := V10.out.R.free 11
  go_wp2_with fail
  obtain ⟨wz, hwz⟩ : ∃ X, X = ((((((((((((w10.setCell ⟨w.heap.size, 0, none⟩ (.int .i64 R)).setCell ⟨w.heap.size, 1, none⟩ (.int .i64 C)).setCell ⟨w.heap.size, 2, none⟩ (.slice aA A.length cA)).setCell ⟨w.heap.size, 3, none⟩ (.slice aB B.length cB)).setCell ⟨w.heap.size, 4, none⟩ (.int .i64 P)).setCell ⟨w.heap.size, 5, none⟩ (.int .i64 T)).setCell ⟨w.heap.size, 6, none⟩ (.slice aV V.length cV)).setCell ⟨w.heap.size, 7, none⟩ (.int .i64 U)).setCell ⟨w.heap.size, 8, none⟩ (.int .i64 N)).setCell ⟨w.heap.size, 9, none⟩ (.slice aW W.length cW)).setCell ⟨w.heap.size, 10, none⟩ (.slice aC K.length cC)).setCell ⟨w.heap.size, 11, none⟩ (.slice aF F.length cF)) := ⟨_, rfl⟩
  have hp : put12 w10 w.heap.size (.int .i64 R) (.int .i64 C) (.slice aA A.length cA) (.slice aB B.length cB) (.int .i64 P) (.int .i64 T) (.slice aV V.length cV) (.int .i64 U) (.int .i64 N) (.slice aW W.length cW) (.slice aC K.length cC) (.slice aF F.length cF) = wz := by rw [hwz]; rfl
  rw [← hwz]
  clear hwz v0 v1 v2 v3 v4 v5 v6 v7 v8 v9 v10 v11 j0 j1 j2 j3 j4 j5 j6 j7 j8 j9 j10 j11 jf0 jf1 jf2 jf3 jf4 jf5 jf6 jf7 jf8 jf9 jf10 jf11
  have KZ : Blk wz w.heap.size [.int .i64 R, .int .i64 C, .slice aA A.length cA, .slice aB B.length cB, .int .i64 P, .int .i64 T, .slice aV V.length cV, .int .i64 U, .int .i64 N, .slice aW W.length cW, .slice aC K.length cC, .slice aF F.length cF] 33 := by rw [← hp]; exact put12_blk V10.out.R _ _ _ _ _ _ _ _ _ _ _ _
  have TZ : Touch w10 wz w.heap.size (w.heap.size + 1) := by rw [← hp]; exact put12_touch _ _ _ _ _ _ _ _ _ _ _ _ _ _
  have sz : wz.heap.size = w10.heap.size := by rw [← hp]; exact put12_size _ _ _ _ _ _ _ _ _ _ _ _ _ _
  clear hp
  have TT := touch_hiX V10.out.T TZ (Nat.le_refl _)
  have DZ := V10.out.D.touch TZ hbw
  have oG := OG10.out.touch TZ (.inr (Nat.le_refl _))
  have oV := OV10.out.touch TZ (.inr (by omega))
  have oW := OW10.out.touch TZ (.inr (by omega))
  have oC := OC10.out.touch TZ (.inr (by omega))
  have oF := OF10.out.touch TZ (.inr (by omega))
  obtain ⟨hm1, hm2⟩ := HM.out
  have hfl : ∀ y ∈ F, y < 4294967296 := fun y hy => (HFF.out.2 y hy).2.2
  have HD : DRd wz wz.heap.size ⟨R, C, A, B, P, T, V, U, N, W, K, F⟩ ⟨aA, cA, aB, cB, aV, cV, aW, cW, aC, cC, aF, cF⟩ :=
    ⟨⟨oG.rd.1.mono (by omega), oG.rd.2.mono (by omega), oV.rd.mono (by omega), oW.rd.mono (by omega), oC.rd.mono (by omega), oF.rd.mono (by omega)⟩, hfl⟩
  have HLo : DLo (w.heap.size + 1) ⟨aA, cA, aB, cB, aV, cV, aW, cW, aC, cC, aF, cF⟩ := by
    obtain ⟨m, hm, o1, o2⟩ := oG
    exact ⟨fun y e => own_ge o1 y e, fun y e => by have := own_ge o2 y e; omega, fun y e => by have := own_ge oV y e; omega, fun y e => by have := own_ge oW y e; omega, fun y e => by have := own_ge oC y e; omega, fun y e => by have := ownF_ge oF y e; omega⟩
  have hcap : A.length ≤ cA := by obtain ⟨m, hm, o1, o2⟩ := oG; exact o1.cap
  have HO : Drawn ⟨R, C, A, B, P, T, V, U, N, W, K, F⟩ := drawn_of HRC.out.1 HRC.out.2 HL.out.1 HL.out.2 HAB.out.1 HAB.out.2 HPP.out HTT.out HV.out.1 HV.out.2 HUN.out.1 HUN.out.2 HWW.out.1 HWW.out.2 HKK.out.1 HKK.out.2 HFF.out.1 HFF.out.2
  obtain ⟨t0, t1, t2, t3, t4, t5, t6, t7, t8, t9, t10, t11⟩ := cells12 KZ
  refine bodyPost_ret (v := .agg #[.int .i64 R, .int .i64 C, .slice aA A.length cA, .slice aB B.length cB, .int .i64 P, .int .i64 T, .slice aV V.length cV, .int .i64 U, .int .i64 N, .slice aW W.length cW, .slice aC K.length cC, .slice aF F.length cF]) (by simp [results, Tryz.results50, go_sem, t0, t1, t2, t3, t4, t5, t6, t7, t8, t9, t10, t11]; try rfl) rfl ?_
  exact ⟨_, _, p6, rfl, ⟨HO, hcap⟩, HD, HLo, HP6.out, DZ, TT⟩
set_option maxRecDepth 10000 in
set_option maxHeartbeats 16000000 in
theorem r8Desk_any (w : World) (a : Option Addr) (c : Nat) (xs : List Int) (h : Rd w w.heap.size a (byts xs)) (hx : ∀ x ∈ xs, 0 ≤ x ∧ x ≤ 255) (hl : xs.length ≤ 1048576) :
    Calls Tryz.prog 10 #[.slice a xs.length c] w fun e w' => ∃ (o : DD) (x : DA), e = .returned (o.val x) ∧ (Drawn o ∧ o.A.length ≤ x.ca) ∧ DRd w' w'.heap.size o x ∧ Below w.heap.size w w' := by
  have B0' := bl1 w (.cells #[.int .i64 0, .int .i64 0, .slice none 0 0, .slice none 0 0, .int .i64 0, .int .i64 0, .slice none 0 0, .int .i64 0, .int .i64 0, .slice none 0 0, .slice none 0 0, .slice none 0 0] 33)
  have KR0 := Lib.hid (Blk.new w [.int .i64 0, .int .i64 0, .slice none 0 0, .slice none 0 0, .int .i64 0, .int .i64 0, .slice none 0 0, .int .i64 0, .int .i64 0, .slice none 0 0, .slice none 0 0, .slice none 0 0] 33)
  have L0 := Lib.hid (l00From_any (w.alloc (.cells #[.int .i64 0, .int .i64 0, .slice none 0 0, .slice none 0 0, .int .i64 0, .int .i64 0, .slice none 0 0, .int .i64 0, .int .i64 0, .slice none 0 0, .slice none 0 0, .slice none 0 0] 33)) a xs.length c)
  have H0 := Lib.hid (h.to B0')
  have HX := Lib.hid hx
  have HB0 := Lib.hid B0'
  clear h hx B0'
  go_enter Tryz.func10, Tryz.ntmps10
  go_wp2_with fail
  refine L0.out.mono ?_
  rintro e w1 ⟨rfl, S1, B1, s1⟩
  have s0 : (w.alloc (.cells #[.int .i64 0, .int .i64 0, .slice none 0 0, .slice none 0 0, .int .i64 0, .int .i64 0, .slice none 0 0, .int .i64 0, .int .i64 0, .slice none 0 0, .slice none 0 0, .slice none 0 0] 33)).heap.size = w.heap.size + 1 := World.size_alloc _ _
  have D1 : Hid (DS w1 (w.heap.size + 1) (w.heap.size + 1) a xs c 0) := ⟨by rw [← s0]; exact S1, by rw [← s0]; exact H0.out.below B1 (Nat.le_refl _), Nat.le_refl _, HX.out, hl⟩
  have KR1 := Lib.hid (KR0.out.same B1)
  have HB1 := Lib.hid (below_then HB0.out B1)
  have L1 := Lib.hid (desk_ds w1 (w.heap.size + 1) (w.heap.size + 1) a xs c 0 D1.out (by omega))
  have hs1 : w.heap.size + 2 ≤ w1.heap.size := by omega
  clear L0 S1 B1 s1 D1 H0 HX KR0 HB0
  clear s0
  go_wp2_with fail
  refine L1.out.mono ?_
  rintro e w2 ⟨o, x, p4, rfl, hO, hD, hLo, hp4, D4, T4⟩
  have KR2 := Lib.hid (KR1.out.touch T4 (.inl (by omega)))
  have B2 := Lib.hid (below_touch HB1.out T4 (by omega) HB1.out.size)
  have s4 := T4.size
  have HO := Lib.hid hO
  have HD := Lib.hid hD
  have HLo := Lib.hid hLo
  clear L1 KR1 T4 hO hD hLo D4 hp4
  obtain ⟨j0, j1, j2, j3, j4, j5, j6, j7, j8, j9, j10, j11⟩ := cells12 KR2.out
  have jf0 := KR2.out.free 0
  have jf1 := KR2.out.free 1
  have jf2 := KR2.out.free 2
  have jf3 := KR2.out.free 3
  have jf4 := KR2.out.free 4
  have jf5 := KR2.out.free 5
  have jf6 := KR2.out.free 6
  have jf7 := KR2.out.free 7
  have jf8 := KR2.out.free 8
  have jf9 := KR2.out.free 9
  have jf10 := KR2.out.free 10
  have jf11 := KR2.out.free 11
  unfold DD.val
  go_wp2_with fail
  obtain ⟨wz, hwz⟩ : ∃ X, X = ((((((((((((w2.setCell ⟨w.heap.size, 0, none⟩ (.int .i64 o.R)).setCell ⟨w.heap.size, 1, none⟩ (.int .i64 o.C)).setCell ⟨w.heap.size, 2, none⟩ (.slice x.a o.A.length x.ca)).setCell ⟨w.heap.size, 3, none⟩ (.slice x.b o.B.length x.cb)).setCell ⟨w.heap.size, 4, none⟩ (.int .i64 o.P)).setCell ⟨w.heap.size, 5, none⟩ (.int .i64 o.T)).setCell ⟨w.heap.size, 6, none⟩ (.slice x.v o.V.length x.cv)).setCell ⟨w.heap.size, 7, none⟩ (.int .i64 o.U)).setCell ⟨w.heap.size, 8, none⟩ (.int .i64 o.N)).setCell ⟨w.heap.size, 9, none⟩ (.slice x.w o.W.length x.cw)).setCell ⟨w.heap.size, 10, none⟩ (.slice x.k o.K.length x.ck)).setCell ⟨w.heap.size, 11, none⟩ (.slice x.f o.F.length x.cf)) := ⟨_, rfl⟩
  have hp : put12 w2 w.heap.size (.int .i64 o.R) (.int .i64 o.C) (.slice x.a o.A.length x.ca) (.slice x.b o.B.length x.cb) (.int .i64 o.P) (.int .i64 o.T) (.slice x.v o.V.length x.cv) (.int .i64 o.U) (.int .i64 o.N) (.slice x.w o.W.length x.cw) (.slice x.k o.K.length x.ck) (.slice x.f o.F.length x.cf) = wz := by rw [hwz]; rfl
  rw [← hwz]
  clear hwz j0 j1 j2 j3 j4 j5 j6 j7 j8 j9 j10 j11 jf0 jf1 jf2 jf3 jf4 jf5 jf6 jf7 jf8 jf9 jf10 jf11
  have KZ : Blk wz w.heap.size (o.cells x) 33 := by rw [← hp]; exact put12_blk KR2.out _ _ _ _ _ _ _ _ _ _ _ _
  have TZ : Touch w2 wz w.heap.size (w.heap.size + 1) := by rw [← hp]; exact put12_touch _ _ _ _ _ _ _ _ _ _ _ _ _ _
  clear hp
  have BZ := below_touch B2.out TZ (Nat.le_refl _) (by omega)
  have DZ := HD.out.low (HLo.out.mono (lo' := w.heap.size + 1) (by omega)) TZ
  obtain ⟨t0, t1, t2, t3, t4, t5, t6, t7, t8, t9, t10, t11⟩ := cells12 KZ
  refine bodyPost_ret (v := o.val x) (by simp [results, Tryz.results10, go_sem, DD.val, t0, t1, t2, t3, t4, t5, t6, t7, t8, t9, t10, t11]; try rfl) rfl ?_
  exact ⟨o, x, rfl, HO.out, DZ, BZ⟩
end Go.Proofs.YtkbejmjkdnfemaaGreatDoor
namespace Go.Proofs.YtkbejmjkdnfemaaGreatDoor
set_option linter.unusedVariables false
set_option linter.unusedSimpArgs false
open Go.RowKit

/-- The code from the region with this number on. -/
def fromReg (n : Nat) : Code → Option Code
  | .seq (.region i o d) b => if i == n then some (.seq (.region i o d) b) else fromReg n b
  | .seq a b => match fromReg n a with
    | some c => some c
    | none => fromReg n b
  | .region i o d => if i == n then some (.region i o d) else none
  | .scope c => fromReg n c
  | .block _ c => fromReg n c
  | .loop c => fromReg n c
  | .cond _ a b => match fromReg n a with
    | some c => some c
    | none => fromReg n b
  | _ => none
/-- The region with this number. -/
def regAt (n : Nat) (c : Code) : Option Code := match fromReg n c with
  | some (.seq a _) => some a
  | some c => some c
  | none => none
/-- The code behind the region with this number. -/
def restAt (n : Nat) (c : Code) : Option Code := match fromReg n c with
  | some (.seq _ b) => some b
  | _ => none
end Go.Proofs.YtkbejmjkdnfemaaGreatDoor
namespace Go.Proofs.YtkbejmjkdnfemaaGreatDoor
set_option linter.unusedVariables false
set_option linter.unusedSimpArgs false
open Go

end Go.Proofs.YtkbejmjkdnfemaaGreatDoor
namespace Go.Proofs.YtkbejmjkdnfemaaGreatDoor
set_option linter.unusedVariables false
set_option linter.unusedSimpArgs false
open Go.RowKit

/-- What is kept: the desk in its box, the owners, the choices. -/
structure TpS (w v : World) (g : Nat) (o : DD) (x : DA) (ow ch : List Int) (aO aC : Option Addr) : Prop where
  W : Below w.heap.size w v
  K : Blk v g (o.cells x) 33
  D : DRd v v.heap.size o x
  O : Rd v v.heap.size aO (ints ow)
  C : Rd v v.heap.size aC (ints ch)
  E : Env v
  ca : o.A.length ≤ x.ca
theorem TpS.to {w v v1 : World} {g : Nat} {o : DD} {x : DA} {ow ch : List Int} {aO aC : Option Addr} (h : TpS w v g o x ow ch aO aC) (hb : Below v.heap.size v v1) : TpS w v1 g o x ow ch aO aC :=
  ⟨below_then h.W hb, h.K.same hb, h.D.to hb, h.O.to hb, h.C.to hb, h.E.to hb, h.ca⟩
set_option maxRecDepth 100000 in
set_option maxHeartbeats 32000000 in
theorem topG (w v0 : World) (g : Nat) (o : DD) (x : DA) (gD gE : Nat) (xD : DA) (aA aB : Option Addr) (cA cB : Nat) (sO : ByteArray) (HW : Hid (Below w.heap.size w v0)) (HO : o.ok = true) (K0 : Hid (Blk v0 g (o.cells x) 33)) (D0 : Hid (DRd v0 v0.heap.size o x)) (KD : Hid (Blk v0 gD ((turnD o).cells xD) 33)) (DD0 : Hid (DRd v0 v0.heap.size (turnD o) xD)) (KE : Hid (Blk v0 gE [.int .i64 (turnD o).R, .int .i64 (turnD o).C, .slice aA (turnD o).A.length cA, .slice aB (turnD o).B.length cB] 26)) (RA : Hid (Rd v0 v0.heap.size aA (ints (turnD o).A))) (RB : Hid (Rd v0 v0.heap.size aB (ints (turnD o).B))) (K : Act → World → Prop) (hK : ∀ (a : Act) (v : World), Code.wp Tryz.prog (((Tryz.f3).body.bind (restAt 35)).getD .skip) (bodyPost Tryz.prog Tryz.f3 fun e w' => e = .returned (.bool true) ∧ Below w.heap.size w w') a v → K a v)
    {z0 z1 z2 z3 z4 z6 z7 z8 z9 z10 z11 z12 z13 z14 z15 z16 z17 z18 z19 z20 z23 z24 z25 z26 z27 z28 z29 z30 z31 z32 z33 z34 z35 z36 z37 z38 z39 z40 z41 z42 z43 z44 z45 z46 z47 z48 z49 z50 z51 z52 z53 z54 z56 z61 z62 z63 z64 z65 z66 z67 z68 z69 z70 z71 z72 z73 z74 z75 z76 z77 z78 z79 z80 z81 z82 z83 z84 z85 z86 z87 z88 z89 z90 z91 z92 z93 z94 z95 z96 z97 z98 z99 z100 z101 z102 z103 z104 z105 z106 z107 z108 z109 z110 z111 z112 z113 z114 z115 z116 z117 z118 z119 z120 z121 z122 z123 z124 z125 z126 z127 z128 z129 z130 z131 z132 z133 z134 z135 z136 z137 z138 z139 z140 z141 z142 z143 z144 z145 z146 z147 z148 z149 z150 z151 z152 z153 z154 z155 z156 z157 z158 z159 z160 z161 z162 z163 z164 z165 z166 z167 z168 z169 z170 z171 z172 z173 z174 z175 z176 z177 z178 z179 z180 z181 z182 z183 z184 z185 z186 z187 z188 z189 z190 z191 z192 z193 z194 z195 z196 z197 z198 z199 z200 z201 z202 z203 z204 z205 z206 z207 z208 z209 z210 z211 z212 z213 z214 z215 z216 z217 z218 z219 z220 z221 z222 z223 z224 z225 z226 z227 z228 z229 z230 z231 z232 z233 z234 z235 z236 z237 z238 z239 z240 z241 z242 z243 z244 z245 z246 z247 z248 z249 z250 z251 z252 z253 z254 z255 z256 z257 z258 z259 z260 z261 z262 z263 z264 z265 z266 z267 z268 z269 z270 z271 z272 z273 z274 z275 z276 z277 z278 z279 z280 z281 z282 z283 z284 z285 z286 z287 z288 z289 z290 z291 z292 z293 z294 z295 z296 z297 z298 z299 z300 z301 z302 z303 z304 z305 z306 z307 z308 z309 z310 z311 z312 z313 z314 z315 z316 z317 z318 z319 z320 z321 z322 z323 z324 z325 z326 z327 z328 z329 z330 z331 z332 z333 z334 z335 z336 z337 z338 z339 z340 z341 z342 z343 z344 z345 z346 z347 z348 z349 z350 z351 z352 z353 z354 z355 z356 z357 z358 z359 z360 z361 z362 z363 z364 z365 z366 z367 z368 z369 z370 z371 z372 z373 z374 z375 z376 z377 z378 z379 z380 z381 z382 z383 z384 z385 z386 z387 z388 z389 z390 z391 z392 z393 z394 z395 z396 z397 : Value} :
    Code.wp Tryz.prog (((Tryz.f3).body.bind (regAt 35)).getD .skip) (Exit.then K (bodyPost Tryz.prog Tryz.f3 fun e w' => e = .returned (.bool true) ∧ Below w.heap.size w w')) ⟨#[z0, z1, z2, z3, z4, .pointer (some ⟨g, 0, none⟩), z6, z7, z8, z9, z10, z11, z12, z13, z14, z15, z16, z17, z18, z19, z20, .pointer (some ⟨gD, 0, none⟩), .string sO, z23, z24, z25, z26, z27, z28, z29, z30, z31, z32, z33, z34, z35, z36, z37, z38, z39, z40, z41, z42, z43, z44, z45, z46, z47, z48, z49, z50, z51, z52, z53, z54, .pointer (some ⟨gE, 0, none⟩), z56, .string sO, .int .i64 1, .int .i64 16, .bool true, z61, z62, z63, z64, z65, z66, z67, z68, z69, z70, z71, z72, z73, z74, z75, z76, z77, z78, z79, z80, z81, z82, z83, z84, z85, z86, z87, z88, z89, z90, z91, z92, z93, z94, z95, z96, z97, z98, z99, z100, z101, z102, z103, z104, z105, z106, z107, z108, z109, z110, z111, z112, z113, z114, z115, z116, z117, z118, z119, z120, z121, z122, z123, z124, z125, z126, z127, z128, z129, z130, z131, z132, z133, z134, z135, z136, z137, z138, z139, z140, z141, z142, z143, z144, z145, z146, z147, z148, z149, z150, z151, z152, z153, z154, z155, z156, z157, z158, z159, z160, z161, z162, z163, z164, z165, z166, z167, z168, z169, z170, z171, z172, z173, z174, z175, z176, z177, z178, z179, z180, z181, z182, z183, z184, z185, z186, z187, z188, z189, z190, z191, z192, z193, z194, z195, z196, z197, z198, z199, z200, z201, z202, z203, z204, z205, z206, z207, z208, z209, z210, z211, z212, z213, z214, z215, z216, z217, z218, z219, z220, z221, z222, z223, z224, z225, z226, z227, z228, z229, z230, z231, z232, z233, z234, z235, z236, z237, z238, z239, z240, z241, z242, z243, z244, z245, z246, z247, z248, z249, z250, z251, z252, z253, z254, z255, z256, z257, z258, z259, z260, z261, z262, z263, z264, z265, z266, z267, z268, z269, z270, z271, z272, z273, z274, z275, z276, z277, z278, z279, z280, z281, z282, z283, z284, z285, z286, z287, z288, z289, z290, z291, z292, z293, z294, z295, z296, z297, z298, z299, z300, z301, z302, z303, z304, z305, z306, z307, z308, z309, z310, z311, z312, z313, z314, z315, z316, z317, z318, z319, z320, z321, z322, z323, z324, z325, z326, z327, z328, z329, z330, z331, z332, z333, z334, z335, z336, z337, z338, z339, z340, z341, z342, z343, z344, z345, z346, z347, z348, z349, z350, z351, z352, z353, z354, z355, z356, z357, z358, z359, z360, z361, z362, z363, z364, z365, z366, z367, z368, z369, z370, z371, z372, z373, z374, z375, z376, z377, z378, z379, z380, z381, z382, z383, z384, z385, z386, z387, z388, z389, z390, z391, z392, z393, z394, z395, z396, z397], []⟩ v0 := by
  obtain ⟨cr, hcr⟩ : ∃ c, c = (((Tryz.f3).body.bind (restAt 35)).getD .skip) := ⟨_, rfl⟩
  rw [← hcr] at hK
  conv at hcr => rhs; whnf
  subst hcr
  conv => arg 2; whnf

  have hs : (sO.toList == sO.toList) = true := by simp
  obtain ⟨-, -, -, -, e4, e5, e6, e7, e8, e9, e10, e11⟩ := cells12 K0.out
  obtain ⟨d0, d1, d2, d3, d4, d5, d6, d7, d8, d9, d10, d11⟩ := cells12 KD.out
  have g0 : v0.cell? ⟨gE, 0, none⟩ = some (.int .i64 (turnD o).R) := KE.out.cell 0
  have g1 : v0.cell? ⟨gE, 1, none⟩ = some (.int .i64 (turnD o).C) := KE.out.cell 1
  have g2 : v0.cell? ⟨gE, 2, none⟩ = some (.slice aA (turnD o).A.length cA) := KE.out.cell 2
  have g3 : v0.cell? ⟨gE, 3, none⟩ = some (.slice aB (turnD o).B.length cB) := KE.out.cell 3
  have hsm := small_of (turnD_ok HO)
  have LS := Lib.hid (sameDD_any v0 (turnD o) (turnD o) xD { x with a := aA, ca := cA, b := aB, cb := cB } DD0.out ⟨⟨RA.out, RB.out, D0.out.r.V, D0.out.r.W, D0.out.r.C, D0.out.r.T⟩, D0.out.f⟩ hsm hsm)
  rw [sameDD_self] at LS
  unfold DD.val at LS
  dsimp only at LS
  have tP : (turnD o).P = o.P := rfl
  have tT : (turnD o).T = o.T := rfl
  have tV : (turnD o).V = o.V := rfl
  have tU : (turnD o).U = o.U := rfl
  have tN : (turnD o).N = o.N := rfl
  have tW : (turnD o).W = o.W := rfl
  have tK : (turnD o).K = o.K := rfl
  have tF : (turnD o).F = o.F := rfl
  simp only [tP, tT, tV, tU, tN, tW, tK, tF] at LS d4 d5 d6 d7 d8 d9 d10 d11
  clear tP tT tV tU tN tW tK tF
  clear K0 D0 KD DD0 KE RA RB hsm
  generalize turnD o = tD at *
  go_wp2_with fail
  refine LS.out.mono ?_
  rintro e v1 ⟨rfl, hb⟩
  have HB := Lib.hid (below_then HW.out hb)
  go_wp2_with fail
  go_ret
  exact ⟨rfl, HB.out⟩
end Go.Proofs.YtkbejmjkdnfemaaGreatDoor
