/-
  Part 23 of what the proof stands on: lemmas and contracts, each with its conditions ahead of the colon.
-/
import Derived.Deep.RegionHeld3
import Derived.Deep.RegionLaw
import Derived.RegionTactic
import Derived.Laws.EntriesVeiled
import Derived.Test.YtkbejmjkdnfemaaGreatDoorPk05
import Derived.Test.YtkbejmjkdnfemaaGreatDoorPk06
import Derived.Test.YtkbejmjkdnfemaaGreatDoorPk08
import Derived.Test.YtkbejmjkdnfemaaGreatDoorPk18
import Derived.Test.YtkbejmjkdnfemaaGreatDoorPk20
import Derived.Test.YtkbejmjkdnfemaaGreatDoorPk22
namespace Go.Proofs.YtkbejmjkdnfemaaGreatDoor
set_option linter.unusedVariables false
set_option linter.unusedSimpArgs false
open Go.RowKit

end Go.Proofs.YtkbejmjkdnfemaaGreatDoor
namespace Go.Proofs.YtkbejmjkdnfemaaGreatDoor
set_option linter.unusedVariables false
set_option linter.unusedSimpArgs false
open Go.RowKit

theorem touch_of_belowT {B : Nat} {w w' : World} (h : Below B w w') : Touch w w' B w.heap.size := ⟨h.os, h.tape, h.output, h.size, fun k hk hd => h.block k (by omega)⟩
structure TW (w wr : World) (gO T0 : Nat) (u n : Nat) (a2 : Option Addr) (c2 : Nat) (x2 : List Int) (a3 : Option Addr) (c3 : Nat) (x3 : List Int) (aW : Option Addr) (cW : Nat) (lW : Nat) (aC : Option Addr) (cC : Nat) (l : List Int) : Prop where
  B : Below w.heap.size w wr
  KB : Blk wr w.heap.size [.int .i64 u, .int .i64 n, .slice a2 x2.length c2, .slice a3 x3.length c3] 30
  KR : Blk wr (w.heap.size + 1) [.int .i64 0, .int .i64 0, .slice none 0 0, .slice none 0 0] 30
  KO : Blk wr gO [.int .i64 u, .int .i64 n, .slice aW x2.length cW, .slice aC l.length cC] 30
  W : OwnI 2 wr lW T0 aW cW x2
  C : wr.ownsRow T0 2 1 (.slice aC l.length cC) l.length (ints l)
section
variable {w wr wx w5 : World} {gO T0 u n c2 c3 cW lW cC g5 c5 : Nat} {a2 a3 aW aC : Option Addr} {x2 x3 l : List Int}
theorem TW.snoc {x : Int} (h : TW w wr gO T0 u n a2 c2 x2 a3 c3 x3 aW cW lW aC cC l) (h0 : w.heap.size + 1 < gO) (hg : gO < T0) (hlW : w.heap.size + 1 < lW) (hgW : ∀ b, aW = some b → b.block ≠ gO) (hT : T0 ≤ wr.heap.size) (hb : Below T0 wr w5)
    (ho : w5.ownsRow T0 2 1 (.slice (some ⟨g5, 0, none⟩) (l.length + 1) c5) (l.length + 1) (ints l ++ [.int .i64 x])) :
    TW w (w5.setCell ⟨gO, 3, none⟩ (.slice (some ⟨g5, 0, none⟩) (l.length + 1) c5)) gO T0 u n a2 c2 x2 a3 c3 x3 aW cW lW (some ⟨g5, 0, none⟩) c5 (l ++ [x]) := by
  have hts : w5.grownBy (w5.setCell ⟨gO, 3, none⟩ (.slice (some ⟨g5, 0, none⟩) (l.length + 1) c5)) (some gO) := ⟨rfl, rfl, rfl, by simp, fun i _ hi => Below.heap_setCell _ _ _ _ (fun e => hi (by simp [e]))⟩
  have ht := touch_of_belowT hb
  have K5 := h.KO.below hb (by omega)
  refine ⟨?_, (h.KB.below hb (by omega)).oth (by omega) _ _, (h.KR.below hb (by omega)).oth (by omega) _ _, ?_, ?_, ?_⟩
  · exact (h.B.trans (hb.mono (by omega))).setCell (p := ⟨gO, 3, none⟩) (by show w.heap.size ≤ gO; omega) _
  · have := K5.set 3 (.slice (some ⟨g5, 0, none⟩) (l.length + 1) c5)
    rw [List.length_append]; exact this
  · have W5 : OwnI 2 w5 lW T0 aW cW x2 := h.W.touch ht (.inl (Nat.le_refl _))
    refine ⟨W5.1.kept hts (.inr fun e => ?_), W5.2⟩
    cases ha : aW with
    | none => rw [ha] at e; simp [Value.ownBlock] at e
    | some b => rw [ha] at e; simp [Value.ownBlock] at e; exact hgW b ha e
  · rw [List.length_append, ints_append]
    exact own_grown ho hts hg
end
end Go.Proofs.YtkbejmjkdnfemaaGreatDoor
namespace Go.Proofs.YtkbejmjkdnfemaaGreatDoor
set_option linter.unusedVariables false
set_option linter.unusedSimpArgs false
open Go.RowKit

set_option maxRecDepth 10000 in
set_option maxHeartbeats 4000000 in
theorem totalOf_any (w : World) (U : Int) (n : Nat) (a2 : Option Addr) (c2 : Nat) (x2 : List Int) (a3 : Option Addr) (c3 : Nat) (x3 : List Int) (a : Option Addr) (c : Nat) (ch : List Int) (h : RdCrowd w w.heap.size a2 x2 a3 x3) (hl2 : x2.length ≤ 1048576) (hl3 : x3.length ≤ 1048576) (g : Rd w w.heap.size a (ints ch)) (hcb : canB ⟨U, n, x2, x3⟩ ch = true) :
    Calls Tryz.prog 25 #[.agg #[.int .i64 U, .int .i64 n, .slice a2 x2.length c2, .slice a3 x3.length c3], .slice a ch.length c] w fun e w' => e = .returned (.tuple #[.int .i64 (totalF ⟨U, n, x2, x3⟩ ch), .bool true]) ∧ Below w.heap.size w w' := by
  have hc := can_of hcb
  have hU8 := hc.v.u8
  have hlen := hc.len
  simp only at hU8 hlen
  have LC := Lib.hid (fun w' hb => chosen_any w' U n a2 c2 x2 a3 c3 x3 a c ch (h.to hb) hl2 hl3 (g.to hb) (by omega))
  rw [hcb] at LC
  have LM := Lib.hid (fun (w' : World) (hb : Below w.heap.size w w') => total_any w' U n a2 c2 x2 a3 c3 x3 a c ch (h.to hb) (g.to hb) hc)
  have HC := Lib.hid hc
  have HH := Lib.hid h
  clear h g hc hcb hlen
  go_enter Tryz.func25, Tryz.ntmps25
  go_wp2_with fail
  refine (LC.out _ (bl1 _ _)).mono ?_
  rintro e w1 ⟨rfl, hb1⟩
  have KB := (Blk.new w [.int .i64 U, .int .i64 n, .slice a2 x2.length c2, .slice a3 x3.length c3] 30).same hb1
  have B1 := below_then (bl1 w (.cells #[.int .i64 U, .int .i64 n, .slice a2 x2.length c2, .slice a3 x3.length c3] 30)) hb1
  have q0 : w1.cell? ⟨w.heap.size, 0, none⟩ = some (.int .i64 U) := KB.cell 0
  have q1 : w1.cell? ⟨w.heap.size, 1, none⟩ = some (.int .i64 n) := KB.cell 1
  have q2 : w1.cell? ⟨w.heap.size, 2, none⟩ = some (.slice a2 x2.length c2) := KB.cell 2
  have q3 : w1.cell? ⟨w.heap.size, 3, none⟩ = some (.slice a3 x3.length c3) := KB.cell 3
  have KBH := Lib.hid KB
  have HB1 := Lib.hid B1
  clear hb1 LC KB B1
  obtain ⟨t, ht⟩ : ∃ t, t = totalF ⟨U, n, x2, x3⟩ ch := ⟨_, rfl⟩
  rw [← ht] at LM
  have HT := Lib.hid ht
  clear ht
  go_wp2_with fail
  refine (LM.out _ HB1.out).mono ?_
  rintro e w2 ⟨rfl, hb2⟩
  have B2 := Lib.hid (below_then HB1.out hb2)
  clear hb2 q0 q1 q2 q3
  go_wp2_with fail
  go_ret2
  exact ⟨by rw [← HT.out]; rfl, B2.out⟩
end Go.Proofs.YtkbejmjkdnfemaaGreatDoor
