/-
  Is a desk valid: both roads.
-/
import Derived.Test.YtdmeegfdmdbkiaaTurnsF
import Derived.Test.YtdmeegfdmdbkiaaGameV
import Derived.Test.YtdmeegfdmdbkiaaCrowdV2
import Derived.Test.YtdmeegfdmdbkiaaDeskN
namespace Go.Proofs.Ytdmeegfdmdbkiaa
set_option linter.unusedVariables false
set_option linter.unusedSimpArgs false
open Go.RowKit

def deskB (R C : Int) (xA xB : List Int) (P T : Int) (xV : List Int) (U N : Int) (xW xC : List Int) (xT : List Nat) : Bool := gameB R C xA xB && valuesB P T xV && validB ⟨U, N, xW, xC⟩ && turnsB xT
structure RdDesk (w : World) (Z : Nat) (aA : Option Addr) (xA : List Int) (aB : Option Addr) (xB : List Int) (aV : Option Addr) (xV : List Int) (aW : Option Addr) (xW : List Int) (aC : Option Addr) (xC : List Int) (aT : Option Addr) (xT : List Nat) : Prop where
  A : Rd w Z aA (ints xA)
  B : Rd w Z aB (ints xB)
  V : Rd w Z aV (ints xV)
  W : Rd w Z aW (ints xW)
  C : Rd w Z aC (ints xC)
  T : Rd w Z aT (flts xT)
theorem RdDesk.to {w w' : World} {aA aB aV aW aC aT : Option Addr} {xA xB xV xW xC : List Int} {xT : List Nat} (h : RdDesk w w.heap.size aA xA aB xB aV xV aW xW aC xC aT xT) (hb : Below w.heap.size w w') : RdDesk w' w'.heap.size aA xA aB xB aV xV aW xW aC xC aT xT :=
  ⟨h.A.to hb, h.B.to hb, h.V.to hb, h.W.to hb, h.C.to hb, h.T.to hb⟩
set_option maxRecDepth 10000 in
set_option maxHeartbeats 4000000 in
theorem l08Is_any (w : World) (b : Nat) (R C : Int) (aA : Option Addr) (cA : Nat) (xA : List Int) (aB : Option Addr) (cB : Nat) (xB : List Int) (P T : Int) (aV : Option Addr) (cV : Nat) (xV : List Int) (U N : Int) (aW : Option Addr) (cW : Nat) (xW : List Int) (aC : Option Addr) (cC : Nat) (xC : List Int) (aT : Option Addr) (cT : Nat) (xT : List Nat) (t : TypeId)
    (K : Blk w b [.int .i64 R, .int .i64 C, .slice aA xA.length cA, .slice aB xB.length cB, .int .i64 P, .int .i64 T, .slice aV xV.length cV, .int .i64 U, .int .i64 N, .slice aW xW.length cW, .slice aC xC.length cC, .slice aT xT.length cT] t)
    (h : RdDesk w w.heap.size aA xA aB xB aV xV aW xW aC xC aT xT) (lA : xA.length ≤ 1048576) (lB : xB.length ≤ 1048576) (lV : xV.length ≤ 1048576) (lW : xW.length ≤ 1048576) (lC : xC.length ≤ 1048576) (lT : xT.length ≤ 1048576) :
    Calls Try.prog 46 #[.pointer (some ⟨b, 0, none⟩)] w fun e w' => e = .returned (.bool (deskB R C xA xB P T xV U N xW xC xT)) ∧ Below w.heap.size w w' := by
  have hn := fun n => below_drewN (Below.refl w.heap.size w) n
  have L1 := Lib.hid (l02Is_any w b 0 R C aA cA xA aB cB xB (K.cell 0) (K.cell 1) (K.cell 2) (K.cell 3) ⟨h.A, h.B⟩ lA lB)
  have L2 := Lib.hid (fun n => l04Is_any (w.drewN n) b 4 P T aV cV xV (K.cell 4) (K.cell 5) (K.cell 6) (h.to (hn n)).V lV)
  have L3 := Lib.hid (fun n => l06Is_any (w.drewN n) b 7 U N aW cW xW aC cC xC (K.cell 7) (K.cell 8) (K.cell 9) (K.cell 10) ⟨(h.to (hn n)).W, (h.to (hn n)).C⟩ lW lC)
  have L4 := Lib.hid (fun n => l08Turns_any (w.drewN n) aT cT xT (h.to (hn n)).T lT)
  have k11 := K.cell 11
  simp only [List.getElem?_cons_zero, List.getElem?_cons_succ] at k11
  clear h K
  cases t1 : gameB R C xA xB with
  | false =>
    have HF : Hid (deskB R C xA xB P T xV U N xW xC xT = false) := by simp [Hid, deskB, t1]
    rw [t1] at L1
    clear t1
    go_enter Try.func46, Try.ntmps46
    go_wp2_with fail
    refine L1.out.mono ?_
    rintro e w1 ⟨rfl, n, rfl⟩
    have hb := hn n
    go_wp2_with fail
    go_ret
    exact ⟨ret_bool HF.out.symm, hb⟩
  | true =>
  cases t2 : valuesB P T xV with
  | false =>
    have HF : Hid (deskB R C xA xB P T xV U N xW xC xT = false) := by simp [Hid, deskB, t2]
    rw [t1] at L1
    rw [t2] at L2
    clear t1 t2
    go_enter Try.func46, Try.ntmps46
    go_wp2_with fail
    refine L1.out.mono ?_
    rintro e w1 ⟨rfl, n, rfl⟩
    go_wp2_with fail
    refine (L2.out n).mono ?_
    rintro e w1 ⟨rfl, m, rfl⟩
    have hb := below_drewN (hn n) m
    go_wp2_with fail
    go_ret
    exact ⟨ret_bool HF.out.symm, by simpa using hb⟩
  | true =>
  cases t3 : validB ⟨U, N, xW, xC⟩ with
  | false =>
    have HF : Hid (deskB R C xA xB P T xV U N xW xC xT = false) := by simp [Hid, deskB, t3]
    rw [t1] at L1
    rw [t2] at L2
    rw [t3] at L3
    clear t1 t2 t3
    go_enter Try.func46, Try.ntmps46
    go_wp2_with fail
    refine L1.out.mono ?_
    rintro e w1 ⟨rfl, n, rfl⟩
    go_wp2_with fail
    refine (L2.out n).mono ?_
    rintro e w1 ⟨rfl, m, rfl⟩
    rw [World.drewN_drewN]
    go_wp2_with fail
    refine (L3.out (n + m)).mono ?_
    rintro e w1 ⟨rfl, k, rfl⟩
    have hb := below_drewN (hn (n + m)) k
    go_wp2_with fail
    go_ret
    exact ⟨ret_bool HF.out.symm, by simpa using hb⟩
  | true =>
    have HF : Hid (deskB R C xA xB P T xV U N xW xC xT = turnsB xT) := by simp [Hid, deskB, t1, t2, t3]
    rw [t1] at L1
    rw [t2] at L2
    rw [t3] at L3
    clear t1 t2 t3
    go_enter Try.func46, Try.ntmps46
    go_wp2_with fail
    refine L1.out.mono ?_
    rintro e w1 ⟨rfl, n, rfl⟩
    go_wp2_with fail
    refine (L2.out n).mono ?_
    rintro e w1 ⟨rfl, m, rfl⟩
    rw [World.drewN_drewN]
    go_wp2_with fail
    refine (L3.out (n + m)).mono ?_
    rintro e w1 ⟨rfl, k, rfl⟩
    rw [World.drewN_drewN]
    go_wp2_with fail
    refine (L4.out (n + m + k)).mono ?_
    rintro e w1 ⟨rfl, hb⟩
    have hb2 := below_then (hn (n + m + k)) hb
    go_wp2_with fail
    go_ret
    exact ⟨ret_bool HF.out.symm, hb2⟩
set_option maxRecDepth 10000 in
set_option maxHeartbeats 4000000 in
theorem validDeskR_any (w : World) (R C : Int) (aA : Option Addr) (cA : Nat) (xA : List Int) (aB : Option Addr) (cB : Nat) (xB : List Int) (P T : Int) (aV : Option Addr) (cV : Nat) (xV : List Int) (U N : Int) (aW : Option Addr) (cW : Nat) (xW : List Int) (aC : Option Addr) (cC : Nat) (xC : List Int) (aT : Option Addr) (cT : Nat) (xT : List Nat)
    (h : RdDesk w w.heap.size aA xA aB xB aV xV aW xW aC xC aT xT) (lA : xA.length ≤ 1048576) (lB : xB.length ≤ 1048576) (lV : xV.length ≤ 1048576) (lW : xW.length ≤ 1048576) (lC : xC.length ≤ 1048576) (lT : xT.length ≤ 1048576) :
    Calls Try.prog 15 #[.agg #[.int .i64 R, .int .i64 C, .slice aA xA.length cA, .slice aB xB.length cB, .int .i64 P, .int .i64 T, .slice aV xV.length cV, .int .i64 U, .int .i64 N, .slice aW xW.length cW, .slice aC xC.length cC, .slice aT xT.length cT]] w fun e w' => e = .returned (.bool (deskB R C xA xB P T xV U N xW xC xT)) ∧ Below w.heap.size w w' := by
  have B0 := bl1 w (.cells #[.int .i64 R, .int .i64 C, .slice aA xA.length cA, .slice aB xB.length cB, .int .i64 P, .int .i64 T, .slice aV xV.length cV, .int .i64 U, .int .i64 N, .slice aW xW.length cW, .slice aC xC.length cC, .slice aT xT.length cT] 31)
  have L := Lib.hid (l08Is_any _ w.heap.size R C aA cA xA aB cB xB P T aV cV xV U N aW cW xW aC cC xC aT cT xT 31 (Blk.new w [.int .i64 R, .int .i64 C, .slice aA xA.length cA, .slice aB xB.length cB, .int .i64 P, .int .i64 T, .slice aV xV.length cV, .int .i64 U, .int .i64 N, .slice aW xW.length cW, .slice aC xC.length cC, .slice aT xT.length cT] 31) (h.to B0) lA lB lV lW lC lT)
  clear h
  go_enter Try.func15, Try.ntmps15
  go_wp2_with fail
  refine L.out.mono ?_
  rintro e w1 ⟨rfl, hb⟩
  have hb2 := below_then B0 hb
  go_wp2_with fail
  go_ret
  exact ⟨rfl, hb2⟩
end Go.Proofs.Ytdmeegfdmdbkiaa
