/-
  A drawn game, drawn worths, a drawn text.
-/
import Derived.Test.YteclpcmbicjjgaaDrawS
import Derived.Test.YteclpcmbicjjgaaWorthsT
namespace Go.Proofs.Yteclpcmbicjjgaa
set_option linter.unusedVariables false
set_option linter.unusedSimpArgs false
open Go.RowKit

def OkR (w : World) (B0 b : Nat) (a : Option Addr) (xs : List Int) (c p : Nat) (e : Ending) (w' : World) : Prop :=
  ∃ (R C : Nat) (aA : Option Addr) (cA : Nat) (A : List Int) (aB : Option Addr) (cB : Nat) (B : List Int) (p' : Nat), e = .returned (.agg #[.int .i64 R, .int .i64 C, .slice aA A.length cA, .slice aB B.length cB]) ∧ ((1 ≤ R ∧ R ≤ 4) ∧ (1 ≤ C ∧ C ≤ 4)) ∧ (A.length = R * C ∧ B.length = R * C) ∧ ((∀ x ∈ A, -6 ≤ x ∧ x ≤ 6) ∧ ∀ x ∈ B, -6 ≤ x ∧ x ≤ 200) ∧ OwnGame w' w.heap.size w'.heap.size aA cA A aB cB B ∧ p' ≤ p + 42 ∧ DS w' B0 b a xs c p' ∧ Touch w w' b (b + 1)
theorem own_upG {w : World} {lo hi lo' hi' : Nat} {a b : Option Addr} {c d : Nat} {x y : List Int} (h : OwnGame w lo hi a c x b d y) (h1 : lo' ≤ lo) (h2 : hi ≤ hi') : OwnGame w lo' hi' a c x b d y := by
  obtain ⟨m, hm, o1, o2⟩ := h
  exact ⟨m, by omega, o1.mono h1 (Nat.le_refl _), o2.mono (Nat.le_refl _) h2⟩
set_option maxRecDepth 10000 in
set_option maxHeartbeats 4000000 in
theorem ok_ds (w : World) (B0 b : Nat) (a : Option Addr) (xs : List Int) (c p : Nat) (h : DS w B0 b a xs c p) (hp : p ≤ 600000) :
    Calls Try.prog 66 #[.pointer (some ⟨b, 0, none⟩)] w (OkR w B0 b a xs c p) := by
  have hbw := h.lt
  have D0 := h.same (bl1 w (.cells #[.int .i64 0, .int .i64 0, .slice none 0 0, .slice none 0 0] 31))
  have KR0 := Lib.hid (Blk.new w [.int .i64 0, .int .i64 0, .slice none 0 0, .slice none 0 0] 31)
  have T0 := Lib.hid (Below.touch (bl1 w (.cells #[.int .i64 0, .int .i64 0, .slice none 0 0, .slice none 0 0] 31)) b (b + 1))
  have L1 := Lib.hid (pick_ds _ B0 b a xs c p 4 D0 (by omega) (by omega))
  clear h D0
  go_enter Try.func66, Try.ntmps66
  go_wp2_with fail
  refine L1.out.mono ?_
  rintro e w1 ⟨x, p1, rfl, ⟨x0, x1⟩, hp1, D1, T1⟩
  obtain ⟨R, hR⟩ : ∃ R : Nat, 1 + x = (R : Int) := ⟨(1 + x).toNat, by omega⟩
  have KR1 := Lib.hid (KR0.out.touch T1 (.inr (by omega)))
  have s1 := T1.size
  rw [World.size_alloc] at s1
  have T1' := Lib.hid (T0.out.trans T1)
  have L2 := Lib.hid (pick_ds w1 B0 b a xs c p1 4 D1 (by omega) (by omega))
  have x3 : x ≤ 3 := by omega
  clear L1 KR0 T0 D1 T1 x1
  go_wp2_with fail
  refine L2.out.mono ?_
  rintro e w2 ⟨y, p2, rfl, ⟨y0, y1⟩, hp2, D2, T2⟩
  obtain ⟨C, hC⟩ : ∃ C : Nat, 1 + y = (C : Int) := ⟨(1 + y).toNat, by omega⟩
  have KR2 := Lib.hid (KR1.out.touch T2 (.inr (by omega)))
  have s2 := T2.size
  have T2' := Lib.hid (T1'.out.trans T2)
  have L3 := Lib.hid (sides_ds w2 B0 b a xs c p2 R C D2 (by omega) (by omega) (by omega) (by omega) (by omega))
  have hR1 : 1 ≤ R ∧ R ≤ 4 := by omega
  have hC1 : 1 ≤ C ∧ C ≤ 4 := by omega
  have y3 : y ≤ 3 := by omega
  have hp2' : p2 ≤ p + 2 := by omega
  clear L2 KR1 D2 T2 T1' y1 hp1 hp2
  go_wp2_with fail
  refine L3.out.mono ?_
  rintro e w3 ⟨aA, cA, A, aB, cB, B, p3, rfl, hl, hb, hO, hp3, D3, T3⟩
  have KR3 := Lib.hid (KR2.out.touch T3 (.inr (by omega)))
  have s3 := T3.size
  have T3' := Lib.hid (T2'.out.trans T3)
  have HO := Lib.hid hO
  have HL := Lib.hid hl
  have HB := Lib.hid hb
  have HD := Lib.hid D3
  clear L3 KR2 D3 T3 T2' hO hl hb hR hC
  have y0' : w3.cell? ⟨w.heap.size, 0, none⟩ = some (.int .i64 0) := KR3.out.cell 0
  have y1' : w3.cell? ⟨w.heap.size, 1, none⟩ = some (.int .i64 0) := KR3.out.cell 1
  have y2' : w3.cell? ⟨w.heap.size, 2, none⟩ = some (.slice none 0 0) := KR3.out.cell 2
  have y3' : w3.cell? ⟨w.heap.size, 3, none⟩ = some (.slice none 0 0) := KR3.out.cell 3
  have f0 := KR3.out.free 0
  have f1 := KR3.out.free 1
  have f2 := KR3.out.free 2
  have f3 := KR3.out.free 3
  go_wp2_with fail
  obtain ⟨wz, hwz⟩ : ∃ Y, Y = (((w3.setCell ⟨w.heap.size, 0, none⟩ (.int .i64 R)).setCell ⟨w.heap.size, 1, none⟩ (.int .i64 C)).setCell ⟨w.heap.size, 2, none⟩ (.slice aA (R * C) cA)).setCell ⟨w.heap.size, 3, none⟩ (.slice aB (R * C) cB) := ⟨_, rfl⟩
  have KZ : Blk wz w.heap.size [.int .i64 R, .int .i64 C, .slice aA (R * C) cA, .slice aB (R * C) cB] 31 := by rw [hwz]; exact (((KR3.out.set 0 (.int .i64 R)).set 1 (.int .i64 C)).set 2 (.slice aA (R * C) cA)).set 3 (.slice aB (R * C) cB)
  have TZ : Touch w3 wz w.heap.size (w.heap.size + 1) := by rw [hwz]; exact (((touch_setD w3 w.heap.size 0 (.int .i64 R)).trans (touch_setD _ w.heap.size 1 (.int .i64 C))).trans (touch_setD _ w.heap.size 2 (.slice aA (R * C) cA))).trans (touch_setD _ w.heap.size 3 (.slice aB (R * C) cB))
  have OZ := Lib.hid (HO.out.touch TZ (.inr (by omega)))
  have DZ := Lib.hid (HD.out.touch TZ hbw)
  have TT : Touch w wz b (b + 1) := ⟨TZ.os.trans T3'.out.os, TZ.tape.trans T3'.out.tape, TZ.output.trans T3'.out.output, Nat.le_trans T3'.out.size TZ.size, fun k hk hd => (TZ.block k (by have := T3'.out.size; omega) (by omega)).trans (T3'.out.block k hk hd)⟩
  have sZ := TZ.size
  rw [← hwz]
  clear hwz y0' y1' y2' y3'
  have y0' : wz.cell? ⟨w.heap.size, 0, none⟩ = some (.int .i64 R) := KZ.cell 0
  have y1' : wz.cell? ⟨w.heap.size, 1, none⟩ = some (.int .i64 C) := KZ.cell 1
  have y2' : wz.cell? ⟨w.heap.size, 2, none⟩ = some (.slice aA (R * C) cA) := KZ.cell 2
  have y3' : wz.cell? ⟨w.heap.size, 3, none⟩ = some (.slice aB (R * C) cB) := KZ.cell 3
  refine bodyPost_ret (v := .agg #[.int .i64 R, .int .i64 C, .slice aA (R * C) cA, .slice aB (R * C) cB]) (by simp [results, Try.results66, go_sem, y0', y1', y2', y3']) rfl ?_
  exact ⟨R, C, aA, cA, A, aB, cB, B, p3, by rw [HL.out.1, HL.out.2], ⟨hR1, hC1⟩, HL.out, HB.out, own_upG OZ.out (by omega) sZ, by omega, DZ.out, TT⟩
set_option maxRecDepth 10000 in
set_option maxHeartbeats 4000000 in
theorem text_ds (w : World) (B0 b : Nat) (a : Option Addr) (xs : List Int) (c p : Nat) (h : DS w B0 b a xs c p) (hp : p ≤ 600000) (g : Nat) (t : TypeId) (s0 s1 s2 s3 : ByteArray) (hg : b < g) (K : Blk w g [.string s0, .string s1, .string s2, .string s3] t) :
    Calls Try.prog 65 #[.pointer (some ⟨b, 0, none⟩), .slice (some ⟨g, 0, none⟩) 4 4] w fun e w' => ∃ s p', e = .returned (.string s) ∧ (s = s0 ∨ s = s1 ∨ s = s2 ∨ s = s3) ∧ p' ≤ p + 1 ∧ DS w' B0 b a xs c p' ∧ Touch w w' b (b + 1) := by
  have L1 := Lib.hid (pick_ds w B0 b a xs c p 4 h (by omega) (by omega))
  have K0 := Lib.hid K
  clear h K
  go_enter Try.func65, Try.ntmps65
  go_wp2_with fail
  refine L1.out.mono ?_
  rintro e w1 ⟨x, p1, rfl, ⟨x0, x1⟩, hp1, D1, T1⟩
  have K1 := K0.out.touch T1 (.inr (by omega))
  have c0 : w1.cell? ⟨g, 0, none⟩ = some (.string s0) := K1.cell 0
  have c1 : w1.cell? ⟨g, 1, none⟩ = some (.string s1) := K1.cell 1
  have c2 : w1.cell? ⟨g, 2, none⟩ = some (.string s2) := K1.cell 2
  have c3 : w1.cell? ⟨g, 3, none⟩ = some (.string s3) := K1.cell 3
  have HD := Lib.hid D1
  have HT := Lib.hid T1
  clear L1 K0 D1 T1
  obtain rfl | rfl | rfl | rfl : x = 0 ∨ x = 1 ∨ x = 2 ∨ x = 3 := by omega
  · go_wp2_with fail
    go_ret
    exact ⟨s0, p1, rfl, .inl rfl, hp1, HD.out, HT.out⟩
  · go_wp2_with fail
    go_ret
    exact ⟨s1, p1, rfl, .inr (.inl rfl), hp1, HD.out, HT.out⟩
  · go_wp2_with fail
    go_ret
    exact ⟨s2, p1, rfl, .inr (.inr (.inl rfl)), hp1, HD.out, HT.out⟩
  · go_wp2_with fail
    go_ret
    exact ⟨s3, p1, rfl, .inr (.inr (.inr rfl)), hp1, HD.out, HT.out⟩
end Go.Proofs.Yteclpcmbicjjgaa
