/-
  Part 5 of what the proof stands on: lemmas and contracts, each with its conditions ahead of the colon.
-/
import Derived.Deep.RegionHeld3
import Derived.WalkKit
import Derived.Test.YtchfibmndcfpiaaRows
import Derived.OpenShut
import Derived.ChangeAt
import Derived.Deep.DeepCutAuto
import Derived.Deep.CutBlock
import Derived.Laws.EntriesVeiled
import Derived.Outline
import Derived.Test.YtchfibmndcfpiaaPk01
import Derived.Test.YtchfibmndcfpiaaPk02
import Derived.Test.YtchfibmndcfpiaaPk04
namespace Go.Proofs.Ytchfibmndcfpiaa
set_option linter.unusedVariables false
set_option linter.unusedSimpArgs false
open Go.RowKit

/-- A list of one's own, how often was asked, and yes. -/
def AskRet (w : World) (n : Nat) (m : List Int) (k : Int) (e : Ending) (w' : World) : Prop :=
  ∃ g c, e = .returned (.tuple #[.slice (some ⟨g, 0, none⟩) n c, .int .i64 k, .bool true]) ∧ OwnI 2 w' w.heap.size w'.heap.size (some ⟨g, 0, none⟩) c m ∧ Below w.heap.size w w'
def SchoolRet (w : World) (n : Nat) (m : List Int) (e : Ending) (w' : World) : Prop :=
  ∃ g c, e = .returned (.tuple #[.slice (some ⟨g, 0, none⟩) n c, .bool true]) ∧ OwnI 2 w' w.heap.size w'.heap.size (some ⟨g, 0, none⟩) c m ∧ Below w.heap.size w w'
theorem ask_len {w : Wi} {s : List Int} (hw : Wish w) (hs : ∀ k, k < w.L.length → 0 ≤ s.getD k 0) : (askF w s).1.length = w.L.length := (ask_end hw hs).1.lm
set_option maxHeartbeats 1000000 in
theorem ones_any (w : World) (a0 : Option Addr) (c0 : Nat) (x0 : List (List Int)) (a1 : Option Addr) (c1 : Nat) (x1 : List (List Int)) (h1 : 1 ≤ x0.length) (h8 : x0.length ≤ 8) :
    Calls Try.prog 44 #[.agg #[.slice a0 x0.length c0, .slice a1 x1.length c1]] w fun e w' => ∃ g, e = .returned (.slice (some ⟨g, 0, none⟩) x0.length x0.length) ∧ Rd w' w'.heap.size (some ⟨g, 0, none⟩) (ints (onesL x0.length)) ∧ Below w.heap.size w w' := by
  have X0 : Bx w (w.alloc (.cells #[.slice a0 x0.length c0, .slice a1 x1.length c1] 27)) [.slice a0 x0.length c0, .slice a1 x1.length c1] 27 := Bx.start w _ _
  have X1 := X0.next (bl1 _ (.cells #[.int .i64 1] 2))
  obtain ⟨q0, q1⟩ := X1.two
  have LC := Lib.hid (fun w' => count_any w' a0 c0 x0 a1 c1 x1)
  have K1 := Blk.new (w.alloc (.cells #[.slice a0 x0.length c0, .slice a1 x1.length c1] 27)) [.int .i64 1] 2
  have e1 : (w.alloc (.cells #[.slice a0 x0.length c0, .slice a1 x1.length c1] 27)).heap.size = w.heap.size + 1 := by simp
  rw [e1] at K1
  clear X0 e1
  go_enter Try.func44, Try.ntmps44
  go_wp2_with fail
  refine (LC.out _).mono ?_
  rintro e w2 ⟨rfl, hb2⟩
  have K2 := K1.same hb2
  have LR := Lib.hid (repeat_any w2 (w.heap.size + 1) 1 x0.length (K2.cell 0) K2.lt h1 (by omega))
  have X2 := X1.next hb2
  clear q0 q1 hb2
  go_wp2_with fail
  refine LR.out.mono ?_
  rintro e w3 ⟨rfl, hk3, hb3⟩
  have X3 := X2.next hb3
  have R3 : Rd w3 w3.heap.size (some ⟨w2.heap.size, 0, none⟩) (ints (onesL x0.length)) := hk3.rd hk3.lt
  have HR3 := Lib.hid R3
  clear hb3 hk3 X1 X2 R3
  go_wp2_with fail
  go_ret
  exact ⟨_, rfl, HR3.out, X3.1⟩
set_option maxRecDepth 10000 in
set_option maxHeartbeats 4000000 in
theorem askMatch_any (w : World) (a0 : Option Addr) (c0 : Nat) (x0 : List (List Int)) (a1 : Option Addr) (c1 : Nat) (x1 : List (List Int)) (h : RdWishes w w.heap.size a0 x0 a1 x1) (hl0 : x0.length ≤ 1048576) (hin0 : ∀ y ∈ x0, y.length ≤ 1048576) (hl1 : x1.length ≤ 1048576) (hin1 : ∀ y ∈ x1, y.length ≤ 1048576) (hvb : wishB ⟨x0, x1⟩ = true) :
    Calls Try.prog 16 #[.agg #[.slice a0 x0.length c0, .slice a1 x1.length c1]] w (AskRet w x0.length (askedF ⟨x0, x1⟩) (askF ⟨x0, x1⟩ (onesL x0.length)).2.sum) := by
  have hv := wish_of hvb
  have hn1 : 1 ≤ x0.length := hv.n1
  have hn8 : x0.length ≤ 8 := hv.n8
  have X0 : Bx w (w.alloc (.cells #[.slice a0 x0.length c0, .slice a1 x1.length c1] 27)) [.slice a0 x0.length c0, .slice a1 x1.length c1] 27 := Bx.start w _ _
  have LV := Lib.hid (fun w' hb => validWishes_any w' a0 c0 x0 a1 c1 x1 (h.to hb) hl0 hin0 hl1 hin1)
  rw [hvb] at LV
  have LO := Lib.hid (fun w' => ones_any w' a0 c0 x0 a1 c1 x1 hn1 hn8)
  have LA := Lib.hid (fun (w' : World) (g : Nat) (hb : Below w.heap.size w w') hg => ask_any w' a0 c0 x0 a1 c1 x1 (some ⟨g, 0, none⟩) x0.length (onesL x0.length) (h.to hb) hv hin0 hin1 hg (by simp [onesL]))
  have HOl : Hid ((onesL x0.length).length = x0.length) := by simp [Hid, onesL]
  rw [HOl.out] at LA
  obtain ⟨m, hm⟩ : ∃ m, m = askedF ⟨x0, x1⟩ := ⟨_, rfl⟩
  have hm2 : (askF ⟨x0, x1⟩ (onesL x0.length)).1 = m := hm.symm
  rw [hm2] at LA
  rw [← hm]
  generalize (askF ⟨x0, x1⟩ (onesL x0.length)).2.sum = sm at *
  clear h hin0 hin1 hv hvb hm hm2
  go_enter Try.func16, Try.ntmps16
  go_wp2_with fail
  refine (LV.out _ X0.1).mono ?_
  rintro e w1 ⟨rfl, hb1⟩
  have X1 := X0.next hb1
  have EE := Lib.hid X1.two
  obtain ⟨q0, q1⟩ := EE.out
  clear hb1 X0
  go_wp2_with fail
  go_region_held3 (fun w' => w'.cell? ⟨w.heap.size, 0, none⟩ = some (.slice a0 x0.length c0) ∧ w'.cell? ⟨w.heap.size, 1, none⟩ = some (.slice a1 x1.length c1))
    (first | exact EE.out | exact HQ.out | exact HT.out)
    (first | (go_at_call 44; refine (LO.out _).mono ?_; rintro e wq ⟨gO, rfl, rO, hbq⟩; have XQ := Lib.hid ((X1.drewN 1).next hbq); have HQ := Lib.hid XQ.out.two) | (go_at_call 43; refine (LA.out _ _ XQ.out.1 rO).mono ?_; rintro e wt ⟨g, rfl, oT, hbt⟩; have XT := Lib.hid (XQ.out.next hbt); have HT := Lib.hid XT.out.two))
  all_goals
    have HO := Lib.hid (oT.mono (by have := XQ.out.1.size; omega) (Nat.le_refl _))
    clear oT rO hbt hbq
    go_wp2_with fail
    go_ret3
    exact ⟨g, _, rfl, HO.out, XT.out.1⟩
set_option maxRecDepth 10000 in
set_option maxHeartbeats 4000000 in
theorem schoolMatch_any (w : World) (a0 : Option Addr) (c0 : Nat) (x0 : List (List Int)) (a1 : Option Addr) (c1 : Nat) (x1 : List (List Int)) (as' : Option Addr) (cs : Nat) (s : List Int) (h : RdWishes w w.heap.size a0 x0 a1 x1) (hl0 : x0.length ≤ 1048576) (hin0 : ∀ y ∈ x0, y.length ≤ 1048576) (hl1 : x1.length ≤ 1048576) (hin1 : ∀ y ∈ x1, y.length ≤ 1048576) (gs : Rd w w.heap.size as' (ints s)) (hls : s.length = x0.length) (hsb : seatsB ⟨x0, x1⟩ s = true) :
    Calls Try.prog 22 #[.agg #[.slice a0 x0.length c0, .slice a1 x1.length c1], .slice as' s.length cs] w (SchoolRet w x0.length (askF ⟨x0, x1⟩ s).1) := by
  have hv : Wish ⟨x0, x1⟩ := wish_of (Bool.and_eq_true _ _ ▸ hsb : wishB ⟨x0, x1⟩ = true ∧ _).1
  have hn1 : 1 ≤ x0.length := hv.n1
  have hn8 : x0.length ≤ 8 := hv.n8
  have X0 : Bx w (w.alloc (.cells #[.slice a0 x0.length c0, .slice a1 x1.length c1] 27)) [.slice a0 x0.length c0, .slice a1 x1.length c1] 27 := Bx.start w _ _
  have LV := Lib.hid (fun w' hb => areSeats_any w' a0 c0 x0 a1 c1 x1 as' cs s (h.to hb) hl0 hin0 hl1 hin1 (gs.to hb) (by omega))
  rw [hsb] at LV
  have LA := Lib.hid (fun (w' : World) (hb : Below w.heap.size w w') => ask_any w' a0 c0 x0 a1 c1 x1 as' cs s (h.to hb) hv hin0 hin1 (gs.to hb) hls)
  generalize (askF ⟨x0, x1⟩ s).1 = m at *
  generalize (askF ⟨x0, x1⟩ s).2.sum = sm at *
  clear h hin0 hin1 hv hsb gs hls
  go_enter Try.func22, Try.ntmps22
  go_wp2_with fail
  refine (LV.out _ X0.1).mono ?_
  rintro e w1 ⟨rfl, hb1⟩
  have X1 := X0.next hb1
  obtain ⟨q0, q1⟩ := X1.two
  clear hb1 X0
  go_wp2_with fail
  refine (LA.out _ X1.1).mono ?_
  rintro e w2 ⟨g, rfl, oT, hbt⟩
  have X2 := X1.next hbt
  have HO := Lib.hid (oT.mono (lo' := w.heap.size) (by have := X1.1.size; omega) (Nat.le_refl _))
  clear oT hbt q0 q1
  go_wp2_with fail
  go_ret2
  exact ⟨g, _, rfl, HO.out, X2.1⟩
set_option maxHeartbeats 1000000 in
theorem l05Ones_any (w : World) (n : Nat) (h1 : 1 ≤ n) (h8 : n ≤ 1048576) :
    Calls Try.prog 50 #[.int .i64 n] w fun e w' => ∃ g c, e = .returned (.slice (some ⟨g, 0, none⟩) n c) ∧ Rd w' w'.heap.size (some ⟨g, 0, none⟩) (ints (onesL n)) ∧ Below w.heap.size w w' := by
  go_enter Try.func50, Try.ntmps50
  go_wp2_with fail
  go_loopw [0, 3] (fun iv v wr => ∃ k : Nat, k ≤ n ∧ iv = .int .i64 ((n - k : Nat) : Int) ∧ Hid (wr.ownsRow w.heap.size 2 1 v k (ints (onesL k))) ∧ Below w.heap.size w wr) (fun iv _ _ => (intOf iv).toNat)
  case atStart => exact ⟨0, Nat.zero_le _, rfl, own_empty w _, bl1 w _⟩
  case round =>
    obtain ⟨k, hk, rfl, hown, hw⟩ := hrel
    by_cases hlt : k < n
    · obtain ⟨j, hj⟩ : ∃ j : Nat, n - k = j + 1 := ⟨n - k - 1, by omega⟩
      have hj2 : n - (k + 1) = j := by omega
      rw [hj]
      have Hj := Lib.hid hj2
      have ejj : ((j + 1 : Nat) : Int) = (j : Int) + 1 := by omega
      rw [ejj]
      have j0 : (0 : Int) ≤ (j : Int) := Int.natCast_nonneg _
      have j9 : (j : Int) ≤ 1048576 := by omega
      clear hj hj2 ejj
      go_wp2_with (at_builtin; refine wpList_append_one _ rfl _ _ 31 rfl w.heap.size 2 (.int .i64 0) 8 Try.underlying31 info_i64p rfl _ k _ rfl hown.out (.int .i64 1) rfl rfl (by omega) (by omega) hw.size ?_)
      intro v' w1 ho hgr
      have hb := below_append hw hown.out hgr (Nat.le_refl _) hw.size
      have HO : Hid (w1.ownsRow w.heap.size 2 1 v' (k + 1) (ints (onesL (k + 1)))) := by
        have : ints (onesL k) ++ [Value.int .i64 1] = ints (onesL (k + 1)) := by unfold onesL; rw [List.replicate_succ', ints_append]; rfl
        rw [← this]; exact ho
      clear hown hw ho hgr
      go_wp2_with fail
      go_roundw
      case rel => exact ⟨k + 1, by omega, by rw [Hj.out], HO, hb⟩
      case measure => first | (simp [intOf]; done) | (simp [intOf]; omega)
    · obtain rfl : k = n := by omega
      obtain ⟨a1, c1, rfl, _, _⟩ := own_shape hown.out
      obtain ⟨g, tl, rfl, _⟩ := own_open hown.out h1
      have HR := Lib.hid (rd_of_own hown.out (Nat.le_refl _))
      rw [Nat.sub_self]
      rw [show ((0 : Nat) : Int) = 0 from rfl]
      clear hown
      go_wp2_with fail
      go_ret
      exact ⟨_, _, rfl, HR.out, hw⟩
set_option maxRecDepth 10000 in
set_option maxHeartbeats 4000000 in
theorem askMatchR_any (w : World) (a0 : Option Addr) (c0 : Nat) (x0 : List (List Int)) (a1 : Option Addr) (c1 : Nat) (x1 : List (List Int)) (h : RdWishes w w.heap.size a0 x0 a1 x1) (hl0 : x0.length ≤ 1048576) (hin0 : ∀ y ∈ x0, y.length ≤ 1048576) (hl1 : x1.length ≤ 1048576) (hin1 : ∀ y ∈ x1, y.length ≤ 1048576) (hvb : wishB ⟨x0, x1⟩ = true) :
    Calls Try.prog 20 #[.agg #[.slice a0 x0.length c0, .slice a1 x1.length c1]] w (AskRet w x0.length (askedF ⟨x0, x1⟩) (askF ⟨x0, x1⟩ (onesL x0.length)).2.sum) := by
  have hv := wish_of hvb
  have hn1 : 1 ≤ x0.length := hv.n1
  have hn8 : x0.length ≤ 8 := hv.n8
  have X0 : Bx w (w.alloc (.cells #[.slice a0 x0.length c0, .slice a1 x1.length c1] 27)) [.slice a0 x0.length c0, .slice a1 x1.length c1] 27 := Bx.start w _ _
  have LV := Lib.hid (fun w' (X : Bx w w' [.slice a0 x0.length c0, .slice a1 x1.length c1] 27) => l05Is_any w' w.heap.size 0 a0 c0 x0 a1 c1 x1 X.two.1 X.two.2 (h.to X.1) hl0 hin0 hl1 hin1)
  rw [hvb] at LV
  have LO := Lib.hid (fun w' => l05Ones_any w' x0.length hn1 (by omega))
  have LA := Lib.hid (fun (w' : World) (g c : Nat) (X : Bx w w' [.slice a0 x0.length c0, .slice a1 x1.length c1] 27) hg => l05Ask_any w' w.heap.size 0 a0 c0 x0 a1 c1 x1 X.two.1 X.two.2 (by have := X.lt; omega) (some ⟨g, 0, none⟩) c (onesL x0.length) (h.to X.1) hv hin0 hin1 hg (by simp [onesL]))
  have HOl : Hid ((onesL x0.length).length = x0.length) := by simp [Hid, onesL]
  rw [HOl.out] at LA
  obtain ⟨m, hm⟩ : ∃ m, m = askedF ⟨x0, x1⟩ := ⟨_, rfl⟩
  have hm2 : (askF ⟨x0, x1⟩ (onesL x0.length)).1 = m := hm.symm
  rw [hm2] at LA
  rw [← hm]
  generalize (askF ⟨x0, x1⟩ (onesL x0.length)).2.sum = sm at *
  clear h hin0 hin1 hv hvb hm hm2
  go_enter Try.func20, Try.ntmps20
  go_wp2_with fail
  refine (LV.out _ X0).mono ?_
  rintro e w1 ⟨rfl, k1, rfl⟩
  have X1 := X0.drewN k1
  obtain ⟨w2, hw2⟩ : ∃ W, W = World.drewN (w.alloc (.cells #[.slice a0 x0.length c0, .slice a1 x1.length c1] 27)) k1 := ⟨_, rfl⟩
  rw [← hw2] at X1 ⊢
  obtain ⟨q0, q1⟩ := X1.two
  clear X0 hw2
  go_wp2_with fail
  refine (LO.out _).mono ?_
  rintro e w3 ⟨gO, cO, rfl, rO, hb3⟩
  have X3 := X1.next hb3
  clear q0 q1 hb3
  go_wp2_with fail
  refine (LA.out _ _ _ X3 rO).mono ?_
  rintro e w4 ⟨g, c, rfl, oT, hb4⟩
  have X4 := X3.next hb4
  have HO := Lib.hid (oT.mono (lo' := w.heap.size) (by have := X3.1.size; omega) (Nat.le_refl _))
  clear oT hb4 rO
  go_wp2_with fail
  go_ret3
  exact ⟨g, _, rfl, HO.out, X4.1⟩
set_option maxRecDepth 10000 in
set_option maxHeartbeats 4000000 in
theorem schoolMatchR_any (w : World) (a0 : Option Addr) (c0 : Nat) (x0 : List (List Int)) (a1 : Option Addr) (c1 : Nat) (x1 : List (List Int)) (as' : Option Addr) (cs : Nat) (s : List Int) (h : RdWishes w w.heap.size a0 x0 a1 x1) (hl0 : x0.length ≤ 1048576) (hin0 : ∀ y ∈ x0, y.length ≤ 1048576) (hl1 : x1.length ≤ 1048576) (hin1 : ∀ y ∈ x1, y.length ≤ 1048576) (gs : Rd w w.heap.size as' (ints s)) (hls : s.length = x0.length) (hsb : seatsB ⟨x0, x1⟩ s = true) :
    Calls Try.prog 23 #[.agg #[.slice a0 x0.length c0, .slice a1 x1.length c1], .slice as' s.length cs] w (SchoolRet w x0.length (askF ⟨x0, x1⟩ s).1) := by
  have hv : Wish ⟨x0, x1⟩ := wish_of (Bool.and_eq_true _ _ ▸ hsb : wishB ⟨x0, x1⟩ = true ∧ _).1
  have hn1 : 1 ≤ x0.length := hv.n1
  have hn8 : x0.length ≤ 8 := hv.n8
  have X0 : Bx w (w.alloc (.cells #[.slice a0 x0.length c0, .slice a1 x1.length c1] 27)) [.slice a0 x0.length c0, .slice a1 x1.length c1] 27 := Bx.start w _ _
  have LV := Lib.hid (fun w' (X : Bx w w' [.slice a0 x0.length c0, .slice a1 x1.length c1] 27) => l05Seats_any w' w.heap.size 0 a0 c0 x0 a1 c1 x1 X.two.1 X.two.2 as' cs s (h.to X.1) hl0 hin0 hl1 hin1 (gs.to X.1) (by omega))
  rw [hsb] at LV
  have LA := Lib.hid (fun (w' : World) (X : Bx w w' [.slice a0 x0.length c0, .slice a1 x1.length c1] 27) => l05Ask_any w' w.heap.size 0 a0 c0 x0 a1 c1 x1 X.two.1 X.two.2 (by have := X.lt; omega) as' cs s (h.to X.1) hv hin0 hin1 (gs.to X.1) hls)
  generalize (askF ⟨x0, x1⟩ s).1 = m at *
  generalize (askF ⟨x0, x1⟩ s).2.sum = sm at *
  clear h hin0 hin1 hv hsb gs hls
  go_enter Try.func23, Try.ntmps23
  go_wp2_with fail
  refine (LV.out _ X0).mono ?_
  rintro e w1 ⟨rfl, k1, rfl⟩
  have X1 := X0.drewN k1
  obtain ⟨w2, hw2⟩ : ∃ W, W = World.drewN (w.alloc (.cells #[.slice a0 x0.length c0, .slice a1 x1.length c1] 27)) k1 := ⟨_, rfl⟩
  rw [← hw2] at X1 ⊢
  clear X0 hw2
  go_wp2_with fail
  refine (LA.out _ X1).mono ?_
  rintro e w2 ⟨g, c, rfl, oT, hbt⟩
  have X2 := X1.next hbt
  have HO := Lib.hid (oT.mono (lo' := w.heap.size) (by have := X1.1.size; omega) (Nat.le_refl _))
  clear oT hbt
  go_wp2_with fail
  go_ret2
  exact ⟨g, _, rfl, HO.out, X2.1⟩
end Go.Proofs.Ytchfibmndcfpiaa
namespace Go.Proofs.Ytchfibmndcfpiaa
set_option linter.unusedVariables false
set_option linter.unusedSimpArgs false
open Go.RowKit

/-- The code from the region with this number on. -/
def fromReg (n : Nat) : Code → Option Code
  | .seq (.region i o d) b => if i == n then some (.seq (.region i o d) b) else fromReg n b
  | .seq a b => match fromReg n a with
    | some c => some c
    | none => fromReg n b
  | .region i o d => if i == n then some (.region i o d) else none
  | .scope c => fromReg n c
  | .block _ c => fromReg n c
  | .loop c => fromReg n c
  | .cond _ a b => match fromReg n a with
    | some c => some c
    | none => fromReg n b
  | _ => none
/-- The region with this number. -/
def regAt (n : Nat) (c : Code) : Option Code := match fromReg n c with
  | some (.seq a _) => some a
  | some c => some c
  | none => none
/-- The code behind the region with this number. -/
def restAt (n : Nat) (c : Code) : Option Code := match fromReg n c with
  | some (.seq _ b) => some b
  | _ => none
theorem into_k {P : Program} {r : Code} {K : Act → World → Prop} {Q : Exit → Act → World → Prop} {a : Act} {w : World} (h : ∀ a v, Code.wp P r Q a v → K a v) (hw : Code.wp P r Q a w) : K a w := h a w hw
end Go.Proofs.Ytchfibmndcfpiaa
namespace Go.Proofs.Ytchfibmndcfpiaa
set_option linter.unusedVariables false
set_option linter.unusedSimpArgs false
open Go.RowKit

/-- Bytes as the cells of a slice. -/
def byts (xs : List Int) : List Value := xs.map (Value.int .u8)
@[simp] theorem byts_length (xs : List Int) : (byts xs).length = xs.length := by simp [byts]
theorem byts_get (xs : List Int) (k : Nat) (hk : k < xs.length) : (byts xs)[k]? = some (.int .u8 (xs.getD k 0)) := by
  simp [byts, List.getD, List.getElem?_eq_getElem hk]
theorem Rd.atB {w : World} {B : Nat} {a : Option Addr} {xs : List Int} (h : Rd w B a (byts xs)) {k : Nat} (hk : k < xs.length) :
    ∃ b o, a = some ⟨b, o, none⟩ ∧ b < B ∧ ∀ j, j < xs.length → w.cell? ⟨b, o + j, none⟩ = some (.int .u8 (xs.getD j 0)) := by
  rcases h with h | ⟨b, o, ha, hb, hc⟩
  · have : (byts xs).length = 0 := by rw [h]; rfl
    simp at this; subst this; simp at hk
  · exact ⟨b, o, ha, hb, fun j hj => by rw [hc j (by simpa using hj)]; exact byts_get xs j hj⟩
section
open Go.ChangeShapes Go.WideShapes Go.ChangeAt
theorem rd_of_byts {w : World} {a : Option Addr} {len cap : Nat} {zs : List Int} (h : (a = none ∧ len = 0 ∧ cap = 0 ∧ zs = []) ∨
    ∃ x, a = some x ∧ len ≤ cap ∧ cap ≤ maxLen ∧ zs.length = cap ∧ (∀ i, i < zs.length → w.cell? (x.add i) = some (.int .u8 (zs.getD i 0))) ∧ ∀ n ∈ zs, (Lit.int .u8 n).wf = true) :
    Rd w w.heap.size a (byts (zs.take len)) ∧ (zs.take len).length = len := by
  rcases h with ⟨rfl, rfl, rfl, rfl⟩ | ⟨x, rfl, h1, h2, h3, h4, _⟩
  · exact ⟨.inl rfl, rfl⟩
  · have hl : (zs.take len).length = len := by simp; omega
    refine ⟨?_, hl⟩
    by_cases h0 : len = 0
    · subst h0; exact .inl rfl
    · have hx := h4 0 (by omega)
      have hx0 : x.add 0 = x := rfl
      rw [hx0] at hx
      obtain ⟨b, o, s⟩ := x
      have hs : s = none := by
        cases s with
        | none => rfl
        | some s =>
          unfold World.cell? at hx
          split at hx <;> simp at hx
      subst hs
      refine .inr ⟨b, o, rfl, World.block_lt_of_cell? w _ hx, fun j hj => ?_⟩
      rw [byts_length, hl] at hj
      have hj2 := h4 j (by omega)
      have ea : (⟨b, o, none⟩ : Addr).add j = ⟨b, o + j, none⟩ := by unfold Addr.add; split <;> simp_all
      rw [ea] at hj2
      rw [hj2, byts_get _ _ (by omega)]
      simp [List.getD, List.getElem?_take, hj]
/-- Bytes that come in as an argument. -/
theorem open_byts {H : Type} {enc : TypeId × Value → H} {P : Program} {w : World} {t e : TypeId} {a : Option Addr} {len cap : Nat} {d : DataW H} {ps : List MemPlace} (ht : P.underlying t = some (.slice e)) (he : P.underlying e = some (.int .u8)) (hc : P.cellsOf e = 1)
    (h : DataW.Trod enc P w 0 (fun _ => true) true t (.slice a len cap) d ps) :
    ∃ xs : List Int, xs.length = len ∧ Rd w w.heap.size a (byts xs) ∧ xs.length ≤ 9223372036854775807 ∧ ∀ x ∈ xs, 0 ≤ x ∧ x ≤ 255 := by
  obtain ⟨fuel, hf⟩ := h
  rcases open_ints ht he hc hf with ⟨hcs, _⟩ | ⟨x, l, c, zs, hcs, _, hl, hm, hz, _, hcell, hwz⟩
  · simp [Value.cells] at hcs
    obtain ⟨rfl, rfl, rfl⟩ := hcs
    exact ⟨[], rfl, Rd.nil _ _ _, by simp, by simp⟩
  · simp [Value.cells] at hcs
    obtain ⟨rfl, rfl, rfl⟩ := hcs
    have := rd_of_byts (.inr ⟨_, rfl, hl, hm, by simpa using hz, hcell, hwz⟩)
    refine ⟨_, this.2, this.1, by rw [this.2]; unfold maxLen at hm; omega, fun y hy => ?_⟩
    have hw := hwz y (List.mem_of_mem_take hy)
    simp only [Lit.wf, Bool.and_eq_true, decide_eq_true_eq] at hw
    exact ⟨hw.1, hw.2⟩
end
/-- The number below n that bytes choose. -/
def atF (xs : List Int) (i n : Int) : Int := if n ≤ 1 then 0 else if i < xs.length then xs.getD i.toNat 0 % n else (i * 37 + 11) % n
theorem atF_bd {xs : List Int} {i n : Int} (hn : 1 ≤ n) : 0 ≤ atF xs i n ∧ atF xs i n < n := by
  unfold atF
  split
  · omega
  · split
    · exact ⟨Int.emod_nonneg _ (by omega), Int.emod_lt_of_pos _ (by omega)⟩
    · exact ⟨Int.emod_nonneg _ (by omega), Int.emod_lt_of_pos _ (by omega)⟩
set_option maxHeartbeats 2000000 in
theorem b10At_any (w : World) (a : Option Addr) (c : Nat) (xs : List Int) (i n : Int) (h : Rd w w.heap.size a (byts xs)) (hl : xs.length ≤ 1048576) (hx : ∀ x ∈ xs, 0 ≤ x ∧ x ≤ 255) (hi : 0 ≤ i) (hi2 : i ≤ 1000000) :
    Calls Try.prog 7 #[.slice a xs.length c, .int .i64 i, .int .i64 n] w fun e w' => e = .returned (.int .i64 (atF xs i n)) ∧ w = w' := by
  by_cases h1 : n ≤ 1
  · have HF : Hid (atF xs i n = 0) := by simp [Hid, atF, h1]
    clear h hx
    go_enter Try.func7, Try.ntmps7
    go_wp2_with fail
    go_ret
    exact ⟨ret_int HF.out.symm, rfl⟩
  · by_cases h2 : i < xs.length
    · obtain ⟨k, rfl⟩ : ∃ k : Nat, i = k := ⟨i.toNat, by omega⟩
      have hk : k < xs.length := by omega
      have HF : Hid (atF xs k n = xs.getD k 0 % n) := by simp [Hid, atF, h1, hk]
      obtain ⟨b, o, rfl, hbb, hc⟩ := h.atB hk
      have hck := hc k hk
      have hxk := hx (xs.getD k 0) (by simp only [List.getD, List.getElem?_eq_getElem hk]; exact List.getElem_mem _)
      generalize xs.getD k 0 = x at *
      obtain ⟨x0, x1⟩ := hxk
      clear h hx hc
      go_enter Try.func7, Try.ntmps7
      go_wp2_with fail
      go_ret
      exact ⟨ret_int HF.out.symm, rfl⟩
    · have HF : Hid (atF xs i n = (i * 37 + 11) % n) := by simp [Hid, atF, h1, h2]
      clear h hx
      go_enter Try.func7, Try.ntmps7
      go_wp2_with fail
      go_ret
      exact ⟨ret_int HF.out.symm, rfl⟩
def longB (xs ys : List Int) : Bool := decide (1048576 < xs.length) || decide (1048576 < ys.length)
theorem b10Long_any (w : World) (a b : Option Addr) (c d : Nat) (xs ys : List Int) (hl : xs.length ≤ 9223372036854775807) (hm : ys.length ≤ 9223372036854775807) :
    Calls Try.prog 6 #[.slice a xs.length c, .slice b ys.length d] w fun e w' => e = .returned (.bool (longB xs ys)) ∧ w = w' := by
  cases h1 : decide ((1048576 : Int) < (xs.length : Int)) with
  | true =>
    have HF : Hid (longB xs ys = true) := by
      have := of_decide_eq_true h1
      have h : 1048576 < xs.length := by omega
      simp [Hid, longB, h]
    go_enter Try.func6, Try.ntmps6
    go_wp2_with fail
    go_ret
    exact ⟨ret_bool HF.out.symm, rfl⟩
  | false =>
    have HF : Hid (longB xs ys = decide ((1048576 : Int) < (ys.length : Int))) := by
      have := of_decide_eq_false h1
      have h : ¬ 1048576 < xs.length := by omega
      show _ = _
      unfold longB
      rw [decide_eq_false h, Bool.false_or]
      exact decide_eq_decide.2 (by omega)
    go_enter Try.func6, Try.ntmps6
    go_wp2_with fail
    go_ret
    exact ⟨ret_bool HF.out.symm, rfl⟩
set_option maxHeartbeats 400000 in
theorem b10Ints_any (w : World) (a b : Option Addr) (c d : Nat) (xs : List Int) (hx : Rd w w.heap.size a (ints xs)) (hy : Rd w w.heap.size b (ints xs)) (hlx : xs.length ≤ 1099511627776) :
    Calls Try.prog 14 #[.slice a xs.length c, .slice b xs.length d] w fun e w' => e = .returned (.bool true) ∧ ∃ n, w' = w.drewN n := by
  have hb1 : ((xs.length : Int) != (xs.length : Int)) = false := by simp
  go_enter Try.func14, Try.ntmps14
  go_wp2
  go_loopw [13] (fun i wr => ∃ k n : Nat, k ≤ xs.length ∧ i = .int .i64 k ∧ wr = w.drewN n) (fun i _ => xs.length - (intOf i).toNat)
  case atStart => exact ⟨0, 0, Nat.zero_le _, rfl, rfl⟩
  case round =>
    obtain ⟨k, n, hk, rfl, rfl⟩ := hrel
    by_cases hlt : k < xs.length
    · obtain ⟨b1, o1, x, rfl, _, hcx, hx'⟩ := hx.get hlt
      obtain ⟨b2, o2, y, rfl, _, hcy, hy'⟩ := hy.get (k := k) (by omega)
      have hxy : x = y := by
        have h1 := hx'.out
        rw [hy'.out] at h1
        injection h1 with h1
        exact h1.symm
      subst hxy
      have hne : (x != x) = false := by simp
      clear hx hy
      go_wp2
      go_quiet (fail)
      go_wp2
      go_roundw
      case rel => exact ⟨k + 1, n + nq, by omega, by go_num, by first | rfl | exact World.drewN_drewN _ _ _⟩
      case measure => simp [intOf]; omega
    · have : k = xs.length := by omega
      subst this
      go_wp2
      go_ret
      exact ⟨rfl, _, rfl⟩
end Go.Proofs.Ytchfibmndcfpiaa
namespace Go.Proofs.Ytchfibmndcfpiaa
set_option linter.unusedVariables false
set_option linter.unusedSimpArgs false
open Go.RowKit

/-- The wishes' cells and what they show. -/
structure WBx (w : World) (gw n : Nat) (aL : Option Addr) (cL : Nat) (xL : List (List Int)) (aR : Option Addr) (cR : Nat) (xR : List (List Int)) : Prop where
  K : Blk w gw [.slice aL n cL, .slice aR n cR] 27
  R : RdWishes w w.heap.size aL xL aR xR
theorem WBx.to {w w' : World} {gw n cL cR : Nat} {aL aR : Option Addr} {xL xR : List (List Int)} (h : WBx w gw n aL cL xL aR cR xR) (hb : Below w.heap.size w w') : WBx w' gw n aL cL xL aR cR xR := ⟨h.K.same hb, h.R.to hb⟩
theorem WBx.cells {w : World} {gw n cL cR : Nat} {aL aR : Option Addr} {xL xR : List (List Int)} (h : WBx w gw n aL cL xL aR cR xR) : w.cell? ⟨gw, 0, none⟩ = some (.slice aL n cL) ∧ w.cell? ⟨gw, 1, none⟩ = some (.slice aR n cR) := ⟨h.K.cell 0, h.K.cell 1⟩
theorem seats_pos {w : Wi} {s : List Int} (h : seatsB w s = true) : ∀ k, k < w.L.length → 0 ≤ s.getD k 0 := fun k hk => by
  unfold seatsB at h
  rw [Bool.and_eq_true, manyB_iff] at h
  have hl : k < s.length := by omega
  exact (h.2.2 _ (getD_mem hl)).1
theorem ones_seats {w : Wi} (h : wishB w = true) : seatsB w (onesL w.L.length) = true := by
  unfold seatsB
  rw [h, Bool.true_and, manyB_iff]
  refine ⟨by simp [onesL], fun x hx => ?_⟩
  have := List.eq_of_mem_replicate hx
  omega
theorem cells_at {w : World} {B g : Nat} {xs : List Int} (h : Rd w B (some ⟨g, 0, none⟩) (ints xs)) {t : Nat} (ht : t < xs.length) : w.cell? ⟨g, t, none⟩ = some (.int .i64 (xs.getD t 0)) := by
  obtain ⟨b, o, e, _, hc⟩ := h.at ht
  injection e with e; injection e with e1 e2 e3
  subst e1 e2
  have := hc t ht
  rwa [Nat.zero_add] at this
/-- The seats that the law draws. -/
def seatG (ms : List Int) (k : Nat) : List Int := (List.range k).map fun (i : Nat) => atF ms (1 + (i : Int)) 4
end Go.Proofs.Ytchfibmndcfpiaa
namespace Go.Proofs.Ytchfibmndcfpiaa
set_option linter.unusedVariables false
set_option linter.unusedSimpArgs false
open Go.RowKit

set_option maxRecDepth 100000 in
set_option maxHeartbeats 32000000 in
theorem schS3 (w v0 : World) (n gw cL cR : Nat) (aL aR : Option Addr) (xL xR : List (List Int)) (g7 c7 : Nat) (s : List Int) (gm cm : Nat) (HBX0 : Hid (WBx v0 gw n aL cL xL aR cR xR)) (HW0 : Hid (Below w.heap.size w v0)) (hn : 1 ≤ n ∧ n ≤ 5) (HL : Hid (xL.length = n)) (HR : Hid (xR.length = n)) (HV : Hid (wishB ⟨xL, xR⟩ = true)) (HGL : Hid (∀ y ∈ xL, y.length ≤ 1048576)) (HGR : Hid (∀ y ∈ xR, y.length ≤ 1048576)) (Rse0 : Hid (Rd v0 v0.heap.size (some ⟨g7, 0, none⟩) (ints s))) (HSl : Hid (s.length = n)) (HSb : Hid (seatsB ⟨xL, xR⟩ s = true)) (Rma0 : Hid (Rd v0 v0.heap.size (some ⟨gm, 0, none⟩) (ints (askF ⟨xL, xR⟩ s).1))) (K : Act → World → Prop) (hK : ∀ (a : Act) (v : World), Code.wp Try.prog (((Try.f4).body.bind (restAt 21)).getD .skip) (bodyPost Try.prog Try.f4 fun e w' => e = .returned (.bool true) ∧ Below w.heap.size w w') a v → K a v)
    {z0 z1 z2 z3 z4 z8 z9 z11 z12 z13 z14 z15 z16 z17 z18 z19 z20 z21 z22 z23 z24 z25 z26 z27 z28 z29 z30 z31 z32 z33 z34 z35 z36 z37 z38 z39 z40 z41 z42 z43 z44 z45 z46 z47 z48 z49 z50 z51 z52 z53 z54 z55 z56 z57 z58 z59 z60 z61 z62 z63 z64 z65 z66 z67 z68 z69 z70 z71 z72 z73 z74 z75 z76 z77 z78 z79 z80 z81 z82 z83 z84 z85 z86 z87 z88 z89 z90 z91 z92 z93 z94 z95 z96 z97 z98 z99 z100 z101 z102 z103 z104 z105 z106 z107 z108 z109 z110 z111 z112 z113 z114 z115 z116 z117 z118 z119 z120 z121 z122 z123 z124 z125 z126 z127 z128 z129 z130 z131 z132 z133 z134 z135 z136 z137 z138 z139 z140 z141 z142 z143 z144 z145 z146 z147 z148 z149 z150 z151 z152 z153 z154 z155 z156 z157 z158 z159 z160 z161 z162 z163 z164 z165 z166 z167 z168 z169 z170 z171 z172 z173 z174 z175 z176 z177 z178 : Value} :
    Code.wp Try.prog (((Try.f4).body.bind (regAt 21)).getD .skip) (Exit.then K (bodyPost Try.prog Try.f4 fun e w' => e = .returned (.bool true) ∧ Below w.heap.size w w')) ⟨#[z0, z1, z2, z3, z4, .int .i64 n, .pointer (some ⟨gw, 0, none⟩), .slice (some ⟨g7, 0, none⟩) n c7, z8, z9, .slice (some ⟨gm, 0, none⟩) n cm, z11, z12, z13, z14, z15, z16, z17, z18, z19, z20, z21, z22, z23, z24, z25, z26, z27, z28, z29, z30, z31, z32, z33, z34, z35, z36, z37, z38, z39, z40, z41, z42, z43, z44, z45, z46, z47, z48, z49, z50, z51, z52, z53, z54, z55, z56, z57, z58, z59, z60, z61, z62, z63, z64, z65, z66, z67, z68, z69, z70, z71, z72, z73, z74, z75, z76, z77, z78, z79, z80, z81, z82, z83, z84, z85, z86, z87, z88, z89, z90, z91, z92, z93, z94, z95, z96, z97, z98, z99, z100, z101, z102, z103, z104, z105, z106, z107, z108, z109, z110, z111, z112, z113, z114, z115, z116, z117, z118, z119, z120, z121, z122, z123, z124, z125, z126, z127, z128, z129, z130, z131, z132, z133, z134, z135, z136, z137, z138, z139, z140, z141, z142, z143, z144, z145, z146, z147, z148, z149, z150, z151, z152, z153, z154, z155, z156, z157, z158, z159, z160, z161, z162, z163, z164, z165, z166, z167, z168, z169, z170, z171, z172, z173, z174, z175, z176, z177, z178], []⟩ v0 := by
  obtain ⟨cr, hcr⟩ : ∃ c, c = (((Try.f4).body.bind (restAt 21)).getD .skip) := ⟨_, rfl⟩
  rw [← hcr] at hK
  conv at hcr => rhs; whnf
  subst hcr
  conv => arg 2; whnf

  obtain ⟨n1, n5⟩ := hn
  have n1i : (1 : Int) ≤ (n : Int) := by omega
  have n5i : (n : Int) ≤ 5 := by omega
  have hSn : ∀ k, k < xL.length → 0 ≤ s.getD k 0 := seats_pos HSb.out
  have HWi := Lib.hid (wish_of HV.out)
  obtain ⟨m, hm⟩ : ∃ m, m = (askF ⟨xL, xR⟩ s).1 := ⟨_, rfl⟩
  have hml : m.length = n := by rw [hm, ← HL.out]; exact ask_len HWi.out hSn
  have HFull : Hid (∀ i, i < n → ((hasN m i n).length : Int) ≤ s.getD i 0) := fun i hi => by
    have h1 := (ask_end HWi.out hSn).2.1.seat i (by rw [HL.out]; exact hi)
    rw [← hm] at h1
    unfold hasL at h1
    rw [hml] at h1
    exact h1
  have Rm := Rma0.out
  rw [← hm] at Rm
  have HcM : Hid (∀ (v : World), Below v0.heap.size v0 v → ∀ t, t < n → v.cell? ⟨gm, t, none⟩ = some (.int .i64 (m.getD t 0))) := fun v hb t ht => cells_at (Rm.to hb) (by rw [hml]; exact ht)
  have HcS : Hid (∀ (v : World), Below v0.heap.size v0 v → ∀ t, t < n → v.cell? ⟨g7, t, none⟩ = some (.int .i64 (s.getD t 0))) := fun v hb t ht => cells_at (Rse0.out.to hb) (by rw [HSl.out]; exact ht)
  have Hml := Lib.hid hml
  clear hm Rm hml Rma0
  have hB0 := bl1 v0 (.cells #[] 2)
  go_wp2_with fail
  go_loopw [23, 22] (fun iv nv wr => ∃ (k : Nat) (a : Option Addr) (c : Nat), k ≤ n ∧ iv = .int .i64 k ∧ nv = .slice a k c ∧ Hid (wr.ownsRow v0.heap.size 2 1 (.slice a k c) k (ints (List.replicate k (-1)))) ∧ Hid (Below v0.heap.size v0 wr)) (fun iv _ _ => n - (intOf iv).toNat)
  case atStart => exact ⟨0, some ⟨v0.heap.size, 0, none⟩, 0, Nat.zero_le _, rfl, rfl, own_empty v0 _, hB0⟩
  case round =>
    clear hB0
    obtain ⟨k, a, c, hk, rfl, rfl, hO, hw⟩ := hrel
    have k0 : (0 : Int) ≤ (k : Int) := Int.natCast_nonneg _
    by_cases hlt : k < n
    · have k1 : (k : Int) < (n : Int) := by omega
      have hws := hw.out.size
      go_wp2_with (at_builtin; refine wpList_append_one _ rfl _ _ 31 rfl v0.heap.size 2 (.int .i64 0) 8 Try.underlying31 info_i64p rfl _ k _ rfl hO.out (.int .i64 (-1)) rfl rfl (by omega) (by omega) hws ?_)
      intro v' w1 ho hgr
      have hb1 := Lib.hid (below_append hw.out hO.out hgr (Nat.le_refl _) hws)
      obtain ⟨a1, c1, rfl, _, _⟩ := own_shape ho
      have HO : Hid (w1.ownsRow v0.heap.size 2 1 (.slice a1 (k + 1) c1) (k + 1) (ints (List.replicate (k + 1) (-1)))) := by
        have : ints (List.replicate k (-1)) ++ [Value.int .i64 (-1)] = ints (List.replicate (k + 1) (-1)) := by rw [List.replicate_succ', ints_append]; rfl
        rw [← this]; exact ho
      have HcM1 := Lib.hid (HcM.out w1 hb1.out)
      have cs1 := HcS.out w1 hb1.out k hlt
      have hfk := HFull.out k hlt
      clear hO hw ho hgr hws
      go_wp2_with fail
      go_loop [24, 128] (fun cv tv => ∃ t : Nat, t ≤ n ∧ tv = .int .i64 t ∧ cv = .int .i64 ((hasN m k t).length : Nat)) (fun _ tv => n - (intOf tv).toNat)
      case atStart => exact ⟨0, Nat.zero_le _, rfl, rfl⟩
      case round =>
        obtain ⟨t, ht, rfl, rfl⟩ := hrel
        have t0 : (0 : Int) ≤ (t : Int) := Int.natCast_nonneg _
        have hhl := hasN_len m k t
        by_cases hlt2 : t < n
        · have t1 : (t : Int) < (n : Int) := by omega
          have ct := HcM1.out t hlt2
          by_cases hy : m.getD t 0 = (k : Int)
          · have HN := Lib.hid (hasN_yes hy)
            have hyk : (m.getD t 0 == (k : Int)) = true := by rw [hy]; simp
            generalize (hasN m k t).length = hn at *
            generalize m.getD t 0 = y at *
            clear hy
            go_wp2_with fail
            go_round
            case rel => exact ⟨t + 1, by omega, by go_num, by rw [HN.out]; go_num⟩
            case measure => simp [intOf]; omega
          · have HN := Lib.hid (hasN_ne hy)
            have hyk : (m.getD t 0 == (k : Int)) = false := by simpa using hy
            generalize (hasN m k t).length = hn at *
            generalize m.getD t 0 = y at *
            clear hy
            go_wp2_with fail
            go_round
            case rel => exact ⟨t + 1, by omega, by go_num, by rw [HN.out]⟩
            case measure => simp [intOf]; omega
        · obtain rfl : t = n := by omega
          have hd : decide (s.getD k 0 < ((hasN m k t).length : Int)) = false := decide_eq_false (by omega)
          generalize (hasN m k t).length = hn at *
          generalize s.getD k 0 = sk at *
          go_wp2_with fail
          go_roundw
          case rel => exact ⟨k + 1, a1, c1, by omega, by go_num, rfl, HO, hb1⟩
          case measure => simp [intOf]; omega
    · obtain rfl : k = n := by omega
      have hb := hw.out
      have HB := Lib.hid (HBX0.out.to hb)
      have Rs := Rse0.out.to hb
      have Rn := rd_of_own hO.out (Nat.le_refl _)
      have HWk := Lib.hid (below_then HW0.out hb)
      have L1 := school_any wr aL cL xL aR cR xR (some ⟨g7, 0, none⟩) c7 s a c (List.replicate k (-1)) HB.out.R (by rw [HL.out]; omega) HGL.out (by rw [HR.out]; omega) HGR.out Rs (by rw [HSl.out]; omega) Rn (by simp; omega)
      have L2 := fun (v : World) (hbb : Below wr.heap.size wr v) => schoolR_any v aL cL xL aR cR xR (some ⟨g7, 0, none⟩) c7 s a c (List.replicate k (-1)) ((HB.out.to hbb).R) (by rw [HL.out]; omega) HGL.out (by rw [HR.out]; omega) HGR.out (Rs.to hbb) (by rw [HSl.out]; omega) (Rn.to hbb) (by simp; omega)
      rw [HL.out, HR.out, HSl.out, List.length_replicate] at L1
      simp only [HL.out, HR.out, HSl.out, List.length_replicate] at L2
      have L1 := Lib.hid L1
      have L2 := Lib.hid L2
      obtain ⟨q0, q1⟩ := HB.out.cells
      clear hb Rs Rn hO hw hlt hk HcM HcS HFull Hml
      generalize schoolF ⟨xL, xR⟩ s (List.replicate k (-1)) = fr at *
      generalize hA : bA fr = A at *
      generalize hZ : bZ fr = Z at *
      have hAA : (A == A) = true := by simp
      have hZZ : (Z == Z) = true := by simp
      clear hA hZ
      go_wp2_with fail
      refine L1.out.mono ?_
      rintro e v2 ⟨rfl, hb2⟩
      have L3 := Lib.hid (L2.out v2 hb2)
      have HB2 := Lib.hid (HB.out.to hb2)
      have HW2 := Lib.hid (below_then HWk.out hb2)
      clear L2 q0 q1 hb2
      obtain ⟨q0, q1⟩ := HB2.out.cells
      go_wp2_with fail
      refine L3.out.mono ?_
      rintro e v3 ⟨rfl, hb3⟩
      have HW3 := Lib.hid (below_then HW2.out hb3)
      clear hb3 L3 q0 q1
      cases hfs : fr.isSome with
      | true =>
        go_wp2_with fail
        go_ret
        exact ⟨rfl, HW3.out⟩
      | false =>
        go_wp2_with fail
        go_ret
        exact ⟨rfl, HW3.out⟩
end Go.Proofs.Ytchfibmndcfpiaa
namespace Go.Proofs.Ytchfibmndcfpiaa
set_option linter.unusedVariables false
set_option linter.unusedSimpArgs false
open Go.RowKit

set_option maxRecDepth 100000 in
set_option maxHeartbeats 32000000 in
theorem schS2 (w v0 : World) (n gw cL cR : Nat) (aL aR : Option Addr) (xL xR : List (List Int)) (g7 c7 : Nat) (s : List Int) (g8 c8 : Nat) (HBX0 : Hid (WBx v0 gw n aL cL xL aR cR xR)) (HW0 : Hid (Below w.heap.size w v0)) (hn : 1 ≤ n ∧ n ≤ 5) (HL : Hid (xL.length = n)) (HR : Hid (xR.length = n)) (HV : Hid (wishB ⟨xL, xR⟩ = true)) (HGL : Hid (∀ y ∈ xL, y.length ≤ 1048576)) (HGR : Hid (∀ y ∈ xR, y.length ≤ 1048576)) (Rse0 : Hid (Rd v0 v0.heap.size (some ⟨g7, 0, none⟩) (ints s))) (HSl : Hid (s.length = n)) (HSb : Hid (seatsB ⟨xL, xR⟩ s = true)) (Ron0 : Hid (Rd v0 v0.heap.size (some ⟨g8, 0, none⟩) (ints (onesL n)))) (K : Act → World → Prop) (hK : ∀ (a : Act) (v : World), Code.wp Try.prog (((Try.f4).body.bind (restAt 12)).getD .skip) (bodyPost Try.prog Try.f4 fun e w' => e = .returned (.bool true) ∧ Below w.heap.size w w') a v → K a v)
    {z0 z1 z2 z3 z4 z9 z10 z11 z12 z13 z14 z15 z16 z17 z18 z19 z20 z21 z22 z23 z24 z25 z26 z27 z28 z29 z30 z31 z32 z33 z34 z35 z36 z37 z38 z39 z40 z41 z42 z43 z44 z45 z46 z47 z48 z49 z50 z51 z52 z53 z54 z55 z56 z57 z58 z59 z60 z61 z62 z63 z64 z65 z66 z67 z68 z69 z70 z71 z72 z73 z74 z75 z76 z77 z78 z79 z80 z81 z82 z83 z84 z85 z86 z87 z88 z89 z90 z91 z92 z93 z94 z95 z96 z97 z98 z99 z100 z101 z102 z103 z104 z105 z106 z107 z108 z109 z110 z111 z112 z113 z114 z115 z116 z117 z118 z119 z120 z121 z122 z123 z124 z125 z126 z127 z128 z129 z130 z131 z132 z133 z134 z135 z136 z137 z138 z139 z140 z141 z142 z143 z144 z145 z146 z147 z148 z149 z150 z151 z152 z153 z154 z155 z156 z157 z158 z159 z160 z161 z162 z163 z164 z165 z166 z167 z168 z169 z170 z171 z172 z173 z174 z175 z176 z177 z178 : Value} :
    Code.wp Try.prog (((Try.f4).body.bind (regAt 12)).getD .skip) (Exit.then K (bodyPost Try.prog Try.f4 fun e w' => e = .returned (.bool true) ∧ Below w.heap.size w w')) ⟨#[z0, z1, z2, z3, z4, .int .i64 n, .pointer (some ⟨gw, 0, none⟩), .slice (some ⟨g7, 0, none⟩) n c7, .slice (some ⟨g8, 0, none⟩) n c8, z9, z10, z11, z12, z13, z14, z15, z16, z17, z18, z19, z20, z21, z22, z23, z24, z25, z26, z27, z28, z29, z30, z31, z32, z33, z34, z35, z36, z37, z38, z39, z40, z41, z42, z43, z44, z45, z46, z47, z48, z49, z50, z51, z52, z53, z54, z55, z56, z57, z58, z59, z60, z61, z62, z63, z64, z65, z66, z67, z68, z69, z70, z71, z72, z73, z74, z75, z76, z77, z78, z79, z80, z81, z82, z83, z84, z85, z86, z87, z88, z89, z90, z91, z92, z93, z94, z95, z96, z97, z98, z99, z100, z101, z102, z103, z104, z105, z106, z107, z108, z109, z110, z111, z112, z113, z114, z115, z116, z117, z118, z119, z120, z121, z122, z123, z124, z125, z126, z127, z128, z129, z130, z131, z132, z133, z134, z135, z136, z137, z138, z139, z140, z141, z142, z143, z144, z145, z146, z147, z148, z149, z150, z151, z152, z153, z154, z155, z156, z157, z158, z159, z160, z161, z162, z163, z164, z165, z166, z167, z168, z169, z170, z171, z172, z173, z174, z175, z176, z177, z178], []⟩ v0 := by
  obtain ⟨cr, hcr⟩ : ∃ c, c = (((Try.f4).body.bind (restAt 12)).getD .skip) := ⟨_, rfl⟩
  rw [← hcr] at hK
  conv at hcr => rhs; whnf
  subst hcr
  conv => arg 2; whnf

  obtain ⟨n1, n5⟩ := hn
  have n1i : (1 : Int) ≤ (n : Int) := by omega
  have n5i : (n : Int) ≤ 5 := by omega
  have hSn : ∀ k, k < xL.length → 0 ≤ s.getD k 0 := seats_pos HSb.out
  have HWi := Lib.hid (wish_of HV.out)
  have HOS : Hid (seatsB ⟨xL, xR⟩ (onesL n) = true) := by
    have := ones_seats (w := ⟨xL, xR⟩) HV.out
    simp only [HL.out] at this
    exact this
  have hOl : (onesL n).length = n := by simp [onesL]
  have HOl := Lib.hid hOl
  have hml : (askF ⟨xL, xR⟩ s).1.length = n := by rw [← HL.out]; exact ask_len HWi.out hSn
  have Hml := Lib.hid hml
  have hal : (askF ⟨xL, xR⟩ (onesL n)).1.length = n := by
    have := ask_len HWi.out (ones_pos ⟨xL, xR⟩)
    simp only [HL.out] at this
    exact this
  have Hal := Lib.hid hal
  have HAs : Hid (askedF ⟨xL, xR⟩ = (askF ⟨xL, xR⟩ (onesL n)).1) := by rw [Hid]; unfold askedF; simp only [HL.out]
  have HQ := Lib.hid (school_quiet HWi.out hSn)
  clear hOl hml hal hSn
  have L1 := schoolMatch_any v0 aL cL xL aR cR xR (some ⟨g7, 0, none⟩) c7 s HBX0.out.R (by rw [HL.out]; omega) HGL.out (by rw [HR.out]; omega) HGR.out Rse0.out (by rw [HSl.out, HL.out]) HSb.out
  rw [HL.out, HR.out, HSl.out] at L1
  have L1 := Lib.hid L1
  obtain ⟨q0, q1⟩ := HBX0.out.cells
  go_wp2_with fail
  refine L1.out.mono ?_
  rintro e v1 ⟨gm, cm, rfl, oM, hb⟩
  have HBX1 := Lib.hid (HBX0.out.to hb)
  have HW1 := Lib.hid (below_then HW0.out hb)
  have Rse1 := Lib.hid (Rse0.out.to hb)
  have Ron1 := Lib.hid (Ron0.out.to hb)
  have Rma1 := Lib.hid oM.rd
  clear oM L1
  clear hb q0 q1 Rse0 Ron0
  obtain ⟨q0, q1⟩ := HBX1.out.cells
  have L1 := schoolMatchR_any v1 aL cL xL aR cR xR (some ⟨g7, 0, none⟩) c7 s HBX1.out.R (by rw [HL.out]; omega) HGL.out (by rw [HR.out]; omega) HGR.out Rse1.out (by rw [HSl.out, HL.out]) HSb.out
  rw [HL.out, HR.out, HSl.out] at L1
  have L1 := Lib.hid L1
  go_wp2_with fail
  refine L1.out.mono ?_
  rintro e v2 ⟨gm2, cm2, rfl, oM, hb⟩
  have HBX2 := Lib.hid (HBX1.out.to hb)
  have HW2 := Lib.hid (below_then HW1.out hb)
  have Rse2 := Lib.hid (Rse1.out.to hb)
  have Ron2 := Lib.hid (Ron1.out.to hb)
  have Rma2 := Lib.hid (Rma1.out.to hb)
  have Rmb2 := Lib.hid oM.rd
  clear oM L1
  clear hb q0 q1 Rse1 Ron1 Rma1
  obtain ⟨q0, q1⟩ := HBX2.out.cells
  have L1 := schoolMatch_any v2 aL cL xL aR cR xR (some ⟨g8, 0, none⟩) c8 (onesL n) HBX2.out.R (by rw [HL.out]; omega) HGL.out (by rw [HR.out]; omega) HGR.out Ron2.out (by rw [HOl.out, HL.out]) HOS.out
  rw [HL.out, HR.out, HOl.out] at L1
  have L1 := Lib.hid L1
  go_wp2_with fail
  refine L1.out.mono ?_
  rintro e v3 ⟨gm3, cm3, rfl, oM, hb⟩
  have HBX3 := Lib.hid (HBX2.out.to hb)
  have HW3 := Lib.hid (below_then HW2.out hb)
  have Rse3 := Lib.hid (Rse2.out.to hb)
  have Rma3 := Lib.hid (Rma2.out.to hb)
  have Rmb3 := Lib.hid (Rmb2.out.to hb)
  have Rmc3 := Lib.hid oM.rd
  clear oM L1
  clear hb q0 q1 Rse2 Rma2 Rmb2
  obtain ⟨q0, q1⟩ := HBX3.out.cells
  have L1 := askMatchR_any v3 aL cL xL aR cR xR HBX3.out.R (by rw [HL.out]; omega) HGL.out (by rw [HR.out]; omega) HGR.out HV.out
  rw [HL.out, HR.out, HAs.out] at L1
  have L1 := Lib.hid L1
  go_wp2_with fail
  refine L1.out.mono ?_
  rintro e v4 ⟨gm4, cm4, rfl, oM, hb⟩
  have HBX4 := Lib.hid (HBX3.out.to hb)
  have HW4 := Lib.hid (below_then HW3.out hb)
  have Rse4 := Lib.hid (Rse3.out.to hb)
  have Rma4 := Lib.hid (Rma3.out.to hb)
  have Rmb4 := Lib.hid (Rmb3.out.to hb)
  have Rmc4 := Lib.hid (Rmc3.out.to hb)
  have Rmd4 := Lib.hid oM.rd
  clear oM L1
  clear hb q0 q1 Rse3 Rma3 Rmb3 Rmc3
  obtain ⟨q0, q1⟩ := HBX4.out.cells
  have L1 := b10Ints_any v4 (some ⟨gm, 0, none⟩) (some ⟨gm2, 0, none⟩) cm cm2 (askF ⟨xL, xR⟩ s).1 Rma4.out Rmb4.out (by rw [Hml.out]; omega)
  have L2 := fun k : Nat => b10Ints_any (v4.drewN k) (some ⟨gm3, 0, none⟩) (some ⟨gm4, 0, none⟩) cm3 cm4 (askF ⟨xL, xR⟩ (onesL n)).1 Rmc4.out Rmd4.out (by rw [Hal.out]; omega)
  rw [Hml.out] at L1
  simp only [Hal.out] at L2
  have L1 := Lib.hid L1
  have L2 := Lib.hid L2
  go_wp2_with fail
  refine L1.out.mono ?_
  rintro e v5 ⟨rfl, k5, rfl⟩
  clear L1
  go_wp2_with fail
  refine (L2.out k5).mono ?_
  rintro e v6 ⟨rfl, k6, rfl⟩
  clear L2
  go_upto_region 18 with fail
  obtain ⟨v5, hv5⟩ : ∃ W, W = (v4.drewN k5).drewN k6 := ⟨_, rfl⟩
  have hb : Below v4.heap.size v4 v5 := by rw [hv5]; exact below_drewN (drewN_below v4 k5) k6
  first | rw [← hv5] | (rw [World.drewN_drewN] at hv5; rw [← hv5])
  have HBX5 := Lib.hid (HBX4.out.to hb)
  have HW5 := Lib.hid (below_then HW4.out hb)
  have Rse5 := Lib.hid (Rse4.out.to hb)
  have Rma5 := Lib.hid (Rma4.out.to hb)
  clear hb hv5 q0 q1 Rmb4 Rmc4 Rmd4 Rse4 Rma4
  obtain ⟨q0, q1⟩ := HBX5.out.cells
  have L1 : Hid (Calls Try.prog 24 #[.agg #[.slice aL n cL, .slice aR n cR], .slice (some ⟨g7, 0, none⟩) n c7, .slice (some ⟨gm, 0, none⟩) n cm] v5 fun e w' => e = .returned (.tuple #[.int .i64 0, .int .i64 0, .bool false]) ∧ Below v5.heap.size v5 w') := by
    have L := school_any v5 aL cL xL aR cR xR (some ⟨g7, 0, none⟩) c7 s (some ⟨gm, 0, none⟩) cm (askF ⟨xL, xR⟩ s).1 HBX5.out.R (by rw [HL.out]; omega) HGL.out (by rw [HR.out]; omega) HGR.out Rse5.out (by rw [HSl.out]; omega) Rma5.out (by rw [Hml.out]; omega)
    rw [HQ.out, HL.out, HR.out, HSl.out, Hml.out] at L
    exact L
  go_wp2_with fail
  refine L1.out.mono ?_
  rintro e v6 ⟨rfl, hb⟩
  have HBX6 := Lib.hid (HBX5.out.to hb)
  have HW6 := Lib.hid (below_then HW5.out hb)
  have Rse6 := Lib.hid (Rse5.out.to hb)
  have Rma6 := Lib.hid (Rma5.out.to hb)
  clear L1
  clear hb q0 q1 Rse5 Rma5
  obtain ⟨q0, q1⟩ := HBX6.out.cells
  go_upto_region 21 with fail
  exact schS3 w v6 n gw cL cR aL aR xL xR g7 c7 s gm cm HBX6 HW6 ⟨n1, n5⟩ HL HR HV HGL HGR Rse6 HSl HSb Rma6 _ (by assumption)
end Go.Proofs.Ytchfibmndcfpiaa
namespace Go.Proofs.Ytchfibmndcfpiaa
set_option linter.unusedVariables false
set_option linter.unusedSimpArgs false
open Go.RowKit

/-- A source over a slice of bytes, some of which are used. -/
def Src (w : World) (b : Nat) (a : Option Addr) (n c : Nat) (p : Nat) : Prop := ∃ seed : Int, (0 ≤ seed ∧ seed < 18446744073709551616) ∧ Blk w b [.slice a n c, .int .i64 p, .int .u64 seed] 88
theorem Src.same {w w' : World} {b n c p : Nat} {a : Option Addr} (h : Src w b a n c p) (hb : Below w.heap.size w w') : Src w' b a n c p := by
  obtain ⟨s, h1, h2⟩ := h
  exact ⟨s, h1, h2.same hb⟩
theorem l00From_any (w : World) (a : Option Addr) (n c : Nat) :
    Calls Try.prog 36 #[.slice a n c] w fun e w' => e = .returned (.pointer (some ⟨w.heap.size, 0, none⟩)) ∧ Src w' w.heap.size a n c 0 ∧ Below w.heap.size w w' ∧ w'.heap.size = w.heap.size + 1 := by
  have K := Blk.new w [.slice a n c, .int .i64 0, .int .u64 0] 88
  have B := bl1 w (.cells #[.slice a n c, .int .i64 0, .int .u64 0] 88)
  go_enter Try.func36, Try.ntmps36
  go_wp2_with fail
  go_ret
  exact ⟨rfl, ⟨0, by omega, K⟩, B, by simp⟩
theorem u64_eq (x : Int) : IntKind.u64.wrap x = x % 18446744073709551616 := by
  show (if (false && decide (x % 2 ^ 64 ≥ 2 ^ (64 - 1))) = true then x % 2 ^ 64 - 2 ^ 64 else x % 2 ^ 64) = _
  simp
theorem and255 (a : Nat) (ha : a < 18446744073709551616) : bits .and .u64 (a : Int) 255 = ((a % 256 : Nat) : Int) := by
  show IntKind.u64.wrap ((BitVec.ofInt 64 (a : Int) &&& BitVec.ofInt 64 (255 : Int)).toNat : Int) = _
  have h1 : (BitVec.ofInt 64 (255 : Int)).toNat = 255 := by decide
  have h2 : (BitVec.ofInt 64 (a : Int)).toNat = a := by rw [BitVec.ofInt_natCast, BitVec.toNat_ofNat]; exact Nat.mod_eq_of_lt (by omega)
  rw [BitVec.toNat_and, h1, h2, show a &&& 255 = a % 256 from Nat.and_two_pow_sub_one_eq_mod a 8, u64_eq]
  have := Nat.mod_lt a (show 0 < 256 by omega)
  omega
theorem u64_rng (x : Int) : 0 ≤ IntKind.u64.wrap x ∧ IntKind.u64.wrap x < 18446744073709551616 := by
  rw [u64_eq]; omega
theorem byte_end (S : Int) (h0 : 0 ≤ S) (h1 : S < 18446744073709551616) : 0 ≤ wrap64 (bits .and .u64 (S / 1099511627776) 255) ∧ wrap64 (bits .and .u64 (S / 1099511627776) 255) ≤ 255 := by
  obtain ⟨n, hn⟩ : ∃ n : Nat, S / 1099511627776 = n := ⟨(S / 1099511627776).toNat, by omega⟩
  rw [hn, and255 n (by omega)]
  have := Nat.mod_lt n (show 0 < 256 by omega)
  unfold wrap64
  omega
theorem src_end {w : World} {b n c p : Nat} {a : Option Addr} {sd : Int} (K : Blk w b [.slice a n c, .int .i64 p, .int .u64 sd] 88) (m k : Nat) (S : Int) (h0 : 0 ≤ S) (h1 : S < 18446744073709551616) :
    Src ((((w.drewN m).setCell ⟨b, 1, none⟩ (.int .i64 ((p : Int) + 1))).setCell ⟨b, 2, none⟩ (.int .u64 S)).drewN k) b a n c (p + 1) ∧ w.grownBy ((((w.drewN m).setCell ⟨b, 1, none⟩ (.int .i64 ((p : Int) + 1))).setCell ⟨b, 2, none⟩ (.int .u64 S)).drewN k) (some b) := by
  have K2 := (((K.drewN m).set 1 (.int .i64 ((p : Int) + 1))).set 2 (.int .u64 S)).drewN k
  simp only [List.set_cons_zero, List.set_cons_succ] at K2
  refine ⟨⟨S, ⟨h0, h1⟩, by simpa using K2⟩, ?_⟩
  have g1 : w.grownBy (w.drewN m) (some b) := ⟨rfl, rfl, rfl, Nat.le_refl _, fun _ _ _ => rfl⟩
  have st : ∀ (v : World) (j : Nat) (u : Value), v.grownBy (v.setCell ⟨b, j, none⟩ u) (some b) := fun v j u => ⟨rfl, rfl, rfl, by simp, fun i _ hi => Below.heap_setCell _ _ _ _ (fun e => hi (by simp [e]))⟩
  have g2 := grown_of_grown (grown_of_grown g1 (st _ 1 (.int .i64 ((p : Int) + 1)))) (st _ 2 (.int .u64 S))
  exact grown_of_grown g2 ⟨rfl, rfl, rfl, Nat.le_refl _, fun _ _ _ => rfl⟩
set_option maxRecDepth 10000 in
set_option maxHeartbeats 4000000 in
theorem next_any (w : World) (b : Nat) (a : Option Addr) (xs : List Int) (c p : Nat) (h : Src w b a xs.length c p) (hr : Rd w w.heap.size a (byts xs)) (hx : ∀ x ∈ xs, 0 ≤ x ∧ x ≤ 255) (hl : xs.length ≤ 1048576) (hp : p ≤ 1000000) :
    Calls Try.prog 101 #[.pointer (some ⟨b, 0, none⟩)] w fun e w' => ∃ x, e = .returned (.int .i64 x) ∧ (0 ≤ x ∧ x ≤ 255) ∧ Src w' b a xs.length c (p + 1) ∧ w.grownBy w' (some b) := by
  obtain ⟨sd, ⟨sd0, sd1⟩, K⟩ := h
  have c0 := K.cell 0
  have c1 := K.cell 1
  have c2 := K.cell 2
  have f0 := K.free 0
  have f1 := K.free 1
  have f2 := K.free 2
  simp only [List.getElem?_cons_zero, List.getElem?_cons_succ] at c0 c1 c2
  by_cases hlt : p < xs.length
  · obtain ⟨g, o, rfl, hg, hc⟩ := hr.atB hlt
    have ck := hc p hlt
    have hxk := hx (xs.getD p 0) (by simp only [List.getD, List.getElem?_eq_getElem hlt]; exact List.getElem_mem _)
    generalize xs.getD p 0 = y at *
    obtain ⟨y0, y1⟩ := hxk
    clear hr hc hx
    go_enter Try.func101, Try.ntmps101
    go_wp2_with fail
    go_quiet (fail)
    go_wp2_with fail
    go_quiet (fail)
    go_wp2_with fail
    go_quiet (fail)
    go_wp2_with fail
    go_ret
    exact ⟨_, rfl, ⟨y0, y1⟩, src_end K _ _ _ (u64_rng _).1 (u64_rng _).2⟩
  · clear hr hx
    go_enter Try.func101, Try.ntmps101
    go_wp2_with fail
    go_quiet (fail)
    go_wp2_with fail
    go_quiet (fail)
    go_wp2_with fail
    go_ret
    exact ⟨_, rfl, byte_end _ (u64_rng _).1 (u64_rng _).2, src_end K _ _ _ (u64_rng _).1 (u64_rng _).2⟩
set_option maxRecDepth 10000 in
set_option maxHeartbeats 4000000 in
theorem pick_any (w : World) (b : Nat) (a : Option Addr) (xs : List Int) (c p : Nat) (n : Int) (h : Src w b a xs.length c p) (hr : Rd w w.heap.size a (byts xs)) (hx : ∀ x ∈ xs, 0 ≤ x ∧ x ≤ 255) (hl : xs.length ≤ 1048576) (hp : p ≤ 900000) (hn : n ≤ 200) :
    Calls Try.prog 81 #[.pointer (some ⟨b, 0, none⟩), .int .i64 n] w fun e w' => ∃ (x : Int) (p' : Nat), e = .returned (.int .i64 x) ∧ (0 ≤ x ∧ (x < n ∨ x = 0)) ∧ p' ≤ p + 1 ∧ Src w' b a xs.length c p' ∧ w.grownBy w' (some b) := by
  by_cases h1 : n ≤ 1
  · clear hr hx
    go_enter Try.func81, Try.ntmps81
    go_wp2_with fail
    go_ret
    exact ⟨0, p, rfl, ⟨by omega, .inr rfl⟩, by omega, h, World.grownBy.refl _ _⟩
  · have L := Lib.hid (next_any w b a xs c p h hr hx hl (by omega))
    clear h hr hx
    go_enter Try.func81, Try.ntmps81
    go_wp2_with fail
    refine L.out.mono ?_
    rintro e w1 ⟨x, rfl, ⟨x0, x1⟩, hs, hg⟩
    have hm0 := Int.emod_nonneg x (show n ≠ 0 by omega)
    have hm1 := Int.emod_lt_of_pos x (show 0 < n by omega)
    go_wp2_with fail
    go_ret
    exact ⟨x % n, p + 1, rfl, ⟨hm0, .inl hm1⟩, by omega, hs, hg⟩
end Go.Proofs.Ytchfibmndcfpiaa
namespace Go.Proofs.Ytchfibmndcfpiaa
set_option linter.unusedVariables false
set_option linter.unusedSimpArgs false
open Go.RowKit

theorem touch_grown {w w' : World} {g : Nat} (h : Touch w w' g (g + 1)) : w.grownBy w' (some g) :=
  ⟨h.os, h.tape, h.output, h.size, fun q hq hne => h.block q hq (by have : q ≠ g := fun e => hne (by rw [e]); omega)⟩
theorem touch_below {w w1 w2 : World} {lo hi : Nat} (h : Touch w w1 lo hi) (hb : Below w.heap.size w1 w2) : Touch w w2 lo hi :=
  ⟨hb.os.trans h.os, hb.tape.trans h.tape, hb.output.trans h.output, Nat.le_trans h.size hb.size, fun k hk hd => (hb.block k hk).trans (h.block k hk hd)⟩
end Go.Proofs.Ytchfibmndcfpiaa
namespace Go.Proofs.Ytchfibmndcfpiaa
set_option linter.unusedVariables false
set_option linter.unusedSimpArgs false
open Go.RowKit

/-- A source over bytes that lie below it. -/
structure DS (w : World) (B0 b : Nat) (a : Option Addr) (xs : List Int) (c p : Nat) : Prop where
  S : Src w b a xs.length c p
  R : Rd w B0 a (byts xs)
  lb : B0 ≤ b
  hx : ∀ x ∈ xs, 0 ≤ x ∧ x ≤ 255
  hl : xs.length ≤ 1048576
section
variable {w w' : World} {B0 b c p : Nat} {a : Option Addr} {xs : List Int}
theorem DS.lt (h : DS w B0 b a xs c p) : b < w.heap.size := by obtain ⟨s, _, k⟩ := h.S; exact k.lt
theorem DS.same (h : DS w B0 b a xs c p) (hb : Below w.heap.size w w') : DS w' B0 b a xs c p :=
  ⟨h.S.same hb, h.R.below hb (by have := h.lt; have := h.lb; omega), h.lb, h.hx, h.hl⟩
theorem DS.touch {lo hi : Nat} (h : DS w B0 b a xs c p) (ht : Touch w w' lo hi) (hlo : b < lo) : DS w' B0 b a xs c p := by
  have := h.lt
  have := h.lb
  obtain ⟨s, h1, h2⟩ := h.S
  exact ⟨⟨s, h1, h2.touch ht (.inl hlo)⟩, h.R.touch ht (by omega) (by omega), h.lb, h.hx, h.hl⟩
theorem touch_of_below' {B : Nat} (h : Below B w w') : Touch w w' B w.heap.size := ⟨h.os, h.tape, h.output, h.size, fun k hk hd => h.block k (by omega)⟩
theorem touch_of_grown' {g : Nat} (h : w.grownBy w' (some g)) : Touch w w' g (g + 1) := Touch.of_grown h (Nat.le_refl _) (Nat.lt_succ_self _)
end
theorem pick_ds (w : World) (B0 b : Nat) (a : Option Addr) (xs : List Int) (c p : Nat) (n : Int) (h : DS w B0 b a xs c p) (hp : p ≤ 900000) (hn : n ≤ 200) :
    Calls Try.prog 81 #[.pointer (some ⟨b, 0, none⟩), .int .i64 n] w fun e w' => ∃ (x : Int) (p' : Nat), e = .returned (.int .i64 x) ∧ (0 ≤ x ∧ (x < n ∨ x = 0)) ∧ p' ≤ p + 1 ∧ DS w' B0 b a xs c p' ∧ Touch w w' b (b + 1) := by
  have hlt := h.lt
  refine (pick_any w b a xs c p n h.S (h.R.mono (by have := h.lb; omega)) h.hx h.hl hp hn).mono ?_
  rintro e w' ⟨x, p', rfl, hx, hp', hs, hg⟩
  exact ⟨x, p', rfl, hx, hp', ⟨hs, h.R.grown hg h.lb (by have := h.lb; omega), h.lb, h.hx, h.hl⟩, touch_of_grown' hg⟩
end Go.Proofs.Ytchfibmndcfpiaa
namespace Go.Proofs.Ytchfibmndcfpiaa
set_option linter.unusedVariables false
set_option linter.unusedSimpArgs false
open Go.RowKit

theorem one_ds (w : World) (B0 b : Nat) (a : Option Addr) (xs : List Int) (c p : Nat) (n : Int) (h : DS w B0 b a xs c p) (hp : p ≤ 900000) (hn : n ≤ 200) :
    Calls Try.prog 79 #[.pointer (some ⟨b, 0, none⟩), .int .i64 n] w fun e w' => ∃ (y : Bool) (p' : Nat), e = .returned (.bool y) ∧ p' ≤ p + 1 ∧ DS w' B0 b a xs c p' ∧ Touch w w' b (b + 1) := by
  have L := Lib.hid (pick_ds w B0 b a xs c p n h hp hn)
  clear h
  go_enter Try.func79, Try.ntmps79
  go_wp2_with fail
  refine L.out.mono ?_
  rintro e w1 ⟨x, p1, rfl, _, hp1, D1, T1⟩
  have HD := Lib.hid D1
  have HT := Lib.hid T1
  clear D1 T1 L
  go_wp2_with fail
  go_ret
  exact ⟨_, p1, rfl, hp1, HD.out, HT.out⟩
/-- Numbers below k, each once. -/
structure Ordn (l : List Int) (k : Nat) : Prop where
  len : l.length = k
  mem : ∀ x ∈ l, 0 ≤ x ∧ x < k
  nd : l.Nodup
theorem Ordn.nil : Ordn [] 0 := ⟨rfl, fun x h => by simp at h, List.nodup_nil⟩
theorem Ordn.put {l : List Int} {k : Nat} (h : Ordn l k) (t : Nat) (ht : t ≤ k) : Ordn (l.take t ++ [(k : Int)] ++ l.drop t) (k + 1) := by
  have hk : (k : Int) ∉ l := fun hm => by have := (h.mem _ hm).2; omega
  refine ⟨by have := h.len; simp; omega, fun x hx => ?_, ?_⟩
  · simp only [List.mem_append, List.mem_singleton] at hx
    rcases hx with (hx | rfl) | hx
    · have := h.mem x (List.mem_of_mem_take hx); omega
    · omega
    · have := h.mem x (List.mem_of_mem_drop hx); omega
  · have hn := h.nd
    rw [← List.take_append_drop t l] at hn
    obtain ⟨n1, n2, n3⟩ := List.nodup_append.1 hn
    rw [List.append_assoc, List.singleton_append]
    refine List.nodup_append.2 ⟨n1, ?_, ?_⟩
    · refine List.nodup_cons.2 ⟨fun hm => hk (List.mem_of_mem_drop hm), n2⟩
    · intro x hx y hy
      rcases List.mem_cons.1 hy with rfl | hy
      · rintro rfl; exact hk (List.mem_of_mem_take hx)
      · exact n3 x hx y hy
def OrdR (w : World) (B0 b : Nat) (a : Option Addr) (xs : List Int) (c q n : Nat) (e : Ending) (w' : World) : Prop :=
  ∃ (g cc : Nat) (l : List Int) (p' : Nat), e = .returned (.slice (some ⟨g, 0, none⟩) n cc) ∧ Ordn l n ∧ OwnI 2 w' w.heap.size w'.heap.size (some ⟨g, 0, none⟩) cc l ∧ p' ≤ q ∧ DS w' B0 b a xs c p' ∧ Touch w w' b (b + 1)
set_option maxRecDepth 10000 in
set_option maxHeartbeats 8000000 in
theorem order_ds (w : World) (B0 b : Nat) (a : Option Addr) (xs : List Int) (c p n : Nat) (h : DS w B0 b a xs c p) (hp : p ≤ 700000) (n8 : n ≤ 8) :
    Calls Try.prog 80 #[.pointer (some ⟨b, 0, none⟩), .int .i64 n] w (OrdR w B0 b a xs c (p + n) n) := by
  have hbw := h.lt
  have B0' := bl1 w (.cells #[] 2)
  have D0 := Lib.hid (h.same B0')
  have T0 := Lib.hid (Below.touch B0' b (b + 1))
  clear h B0'
  go_enter Try.func80, Try.ntmps80
  go_wp2_with fail
  go_loopw [6, 5] (fun iv v wr => ∃ (k g cc : Nat) (l : List Int) (p' : Nat), k ≤ n ∧ iv = .int .i64 k ∧ v = .slice (some ⟨g, 0, none⟩) k cc ∧ Hid (Ordn l k) ∧ Hid (OwnI 2 wr w.heap.size wr.heap.size (some ⟨g, 0, none⟩) cc l) ∧ p' ≤ p + k ∧ Hid (DS wr B0 b a xs c p') ∧ Hid (Touch w wr b (b + 1))) (fun iv _ _ => n - (intOf iv).toNat)
  case atStart => exact ⟨0, w.heap.size, 0, [], p, Nat.zero_le _, rfl, rfl, Ordn.nil, OwnI.of_own (xs := []) (own_empty w _), Nat.le_refl _, D0, T0⟩
  case round =>
    clear D0 T0
    obtain ⟨k, g, cc, l, p1, hk, rfl, rfl, HO, HI, hp1, HD, HT⟩ := hrel
    have k0 : (0 : Int) ≤ (k : Int) := Int.natCast_nonneg _
    by_cases hlt : k < n
    · have hki : (k : Int) < (n : Int) := by omega
      have e1 : (k : Int) + 1 = ((k + 1 : Nat) : Int) := by omega
      have L1 := Lib.hid (pick_ds wr B0 b a xs c p1 ((k : Int) + 1) HD.out (by omega) (by omega))
      have hcap : k ≤ cc := by have := HI.out.cap; rw [HO.out.len] at this; exact this
      clear e1
      go_wp2_with fail
      refine L1.out.mono ?_
      rintro e w1 ⟨x, p2, rfl, ⟨x0, x1⟩, hp2, D1, T1⟩
      obtain ⟨t, rfl⟩ : ∃ t : Nat, x = t := ⟨x.toNat, by omega⟩
      have ht : t ≤ k := by omega
      have htk : (t : Int) ≤ (k : Int) := by omega
      have htc : (t : Int) ≤ (cc : Int) := by omega
      have hkc : (k : Int) ≤ (cc : Int) := by omega
      have hdl : ((k : Int) - (t : Int)) = ((k - t : Nat) : Int) := by omega
      have hI1 := HI.out.touch T1 (.inr (by omega))
      have hrd : ∀ j, j < k → w1.cell? ⟨g, 0 + j, none⟩ = some (.int .i64 (l.getD j 0)) := fun j hj => by
        obtain ⟨b', o', e', _, hc'⟩ := hI1.rd.at (k := j) (by rw [HO.out.len]; exact hj)
        injection e' with e'; injection e' with e1 e2 e3
        subst e1 e2
        exact hc' j (by rw [HO.out.len]; exact hj)
      have hg1 : g < w1.heap.size := by
        have h2 := hI1.2 _ rfl
        have := T1.size
        simp only at h2; omega
      have Hrd := Lib.hid hrd
      have HT1 : Hid (Touch w w1 b (b + 1)) := HT.out.trans T1
      have HD1 := Lib.hid D1
      have hw1 := T1.size
      have hww := HT.out.size
      have hll := Lib.hid HO.out.len
      clear hrd hI1 D1 T1 L1 x0 x1 hdl
      go_wp2_with (at_builtin; refine append_manyC _ rfl _ _ 31 rfl w1.heap.size 2 (.int .i64 0) 8 Try.underlying31 info_i64p rfl _ 0 [] rfl (own_emptyC w1 2) g 0 t cc (l.take t) rfl (by rw [List.length_take, hll.out]; omega) ?_ (by omega) (by omega) (by simp) ?_)
      · intro j hj
        rw [(bl1 w1 _).cell (p := ⟨g, 0 + j, none⟩) hg1, Hrd.out j (by omega)]
        simp [List.getD, List.getElem?_take, hj]
      intro v7 w7 o7 g7
      have B7 := below_append (bl1 w1 (.cells #[] 2)) (own_emptyC w1 2) g7 (Nat.le_refl _) (by simp)
      try simp only [Nat.zero_add, List.nil_append] at o7
      have s7 := B7.size
      have H7 := Lib.hid o7
      clear o7 g7
      go_wp2_with (at_builtin; refine wpList_append_one _ rfl _ _ 31 rfl w1.heap.size 2 (.int .i64 0) 8 Try.underlying31 info_i64p rfl _ t _ rfl H7.out (.int .i64 k) rfl rfl (by omega) (by omega) s7 ?_)
      intro v8 w8 o8 g8
      have B8 := below_append B7 H7.out g8 (Nat.le_refl _) s7
      have H8 : Hid (w8.ownsRow w1.heap.size 2 1 v8 (t + 1) (ints (l.take t ++ [(k : Int)]))) := by rw [ints_append]; exact o8
      have s8 := B8.size
      have HB8 := Lib.hid B8
      clear o8 g8 B7 H7 s7 B8
      have Hrd8 : Hid (∀ j, j < k → w8.cell? ⟨g, 0 + j, none⟩ = some (.int .i64 (l.getD j 0))) := fun j hj => by rw [HB8.out.cell (p := ⟨g, 0 + j, none⟩) hg1]; exact Hrd.out j hj
      have HPut := Lib.hid (HO.out.put t ht)
      have hkt : t + 1 + (k - t) = k + 1 := by omega
      have hT8 : Hid (Touch w w8 b (b + 1)) := ⟨HB8.out.os.trans HT1.out.os, HB8.out.tape.trans HT1.out.tape, HB8.out.output.trans HT1.out.output, by have := HT1.out.size; omega, fun q hq hd => (HB8.out.block q (by have := HT1.out.size; omega)).trans (HT1.out.block q hq hd)⟩
      have HD8 := Lib.hid (HD1.out.same HB8.out)
      have HKt := Lib.hid hkt
      clear Hrd HD1 HT1 HD HT HI hkt
      by_cases hct : cc = t
      · have htk2 : t = k := by omega
        subst htk2
        subst hct
        have hz : l.drop cc = [] := List.drop_eq_nil_of_le (by rw [hll.out]; exact Nat.le_refl _)
        rw [hz, List.append_nil] at HPut
        have hz2 : l.take cc = l := List.take_of_length_le (by rw [hll.out]; exact Nat.le_refl _)
        clear hz hz2 htk htc hkc hcap ht
        go_wp2_with (at_builtin; refine append_manyC _ rfl _ _ 31 rfl w1.heap.size 2 (.int .i64 0) 8 Try.underlying31 info_i64p rfl _ (cc + 1) _ rfl H8.out g 0 0 0 [] rfl rfl (fun j hj => by omega) (by omega) (by omega) s8 ?_)
        intro v9 w9 o9 g9
        have B9 := Lib.hid (below_append HB8.out H8.out g9 (Nat.le_refl _) s8)
        try simp only [Nat.add_zero, List.append_nil] at o9
        obtain ⟨a9, c9, e9, _, _⟩ := own_shape o9
        subst e9
        obtain ⟨g10, tl, e10, _⟩ := own_open o9 (by omega)
        subst e10
        have H9 : Hid (OwnI 2 w9 w.heap.size w9.heap.size (some ⟨g10, 0, none⟩) c9 (l.take cc ++ [(cc : Int)])) := by
          have := OwnI.of_own (T := 2) (xs := l.take cc ++ [(cc : Int)]) (w := w9) (lo := w1.heap.size) (a := some ⟨g10, 0, none⟩) (c := c9) (by rw [HPut.out.len]; exact o9)
          exact this.mono (by omega) (Nat.le_refl _)
        have HT9 : Hid (Touch w w9 b (b + 1)) := by
          have hB : Below w.heap.size w8 w9 := below_of_grown g9 (by omega) (fun q hq => by have := (H8.out.lt q hq).1; omega)
          exact touch_below hT8.out hB
        have HD9 : Hid (DS w9 B0 b a xs c p2) := by
          have hB : Below w1.heap.size w8 w9 := below_of_grown g9 s8 (fun q hq => (H8.out.lt q hq).1)
          exact HD8.out.touch (touch_of_below' hB) (by omega)
        clear o9 g9
        go_wp2_with fail
        go_roundw
        case rel => exact ⟨cc + 1, g10, c9, _, p2, by omega, by go_num, by go_num, HPut, H9, by omega, HD9, HT9⟩
        case measure => simp [intOf]; omega
      · have hlt2 : (t : Int) < (cc : Int) := by omega
        have hne : ¬ cc = t := hct
        go_wp2_with (at_builtin; refine append_manyC _ rfl _ _ 31 rfl w1.heap.size 2 (.int .i64 0) 8 Try.underlying31 info_i64p rfl _ (t + 1) _ rfl H8.out g t (k - t) (cc - t) (l.drop t) rfl (by rw [List.length_drop, hll.out]) ?_ (by omega) (by omega) s8 ?_)
        · intro j hj
          have := Hrd8.out (t + j) (by omega)
          rw [Nat.zero_add] at this
          rw [this]
          simp [List.getD, List.getElem?_drop]
        intro v9 w9 o9 g9
        have B9 := Lib.hid (below_append HB8.out H8.out g9 (Nat.le_refl _) s8)
        rw [HKt.out] at o9
        obtain ⟨a9, c9, e9, _, _⟩ := own_shape o9
        subst e9
        obtain ⟨g10, tl, e10, _⟩ := own_open o9 (by omega)
        subst e10
        have H9 : Hid (OwnI 2 w9 w.heap.size w9.heap.size (some ⟨g10, 0, none⟩) c9 (l.take t ++ [(k : Int)] ++ l.drop t)) := by
          have := OwnI.of_own (T := 2) (xs := l.take t ++ [(k : Int)] ++ l.drop t) (w := w9) (lo := w1.heap.size) (a := some ⟨g10, 0, none⟩) (c := c9) (by rw [HPut.out.len]; first | exact o9 | (rw [List.append_assoc, List.singleton_append]; exact o9))
          exact this.mono (by omega) (Nat.le_refl _)
        have HT9 : Hid (Touch w w9 b (b + 1)) := by
          have hB : Below w.heap.size w8 w9 := below_of_grown g9 (by omega) (fun q hq => by have := (H8.out.lt q hq).1; omega)
          exact touch_below hT8.out hB
        have HD9 : Hid (DS w9 B0 b a xs c p2) := by
          have hB : Below w1.heap.size w8 w9 := below_of_grown g9 s8 (fun q hq => (H8.out.lt q hq).1)
          exact HD8.out.touch (touch_of_below' hB) (by omega)
        clear o9 g9
        go_wp2_with fail
        go_roundw
        case rel => exact ⟨k + 1, g10, c9, _, p2, by omega, by go_num, by go_num, HPut, H9, by omega, HD9, HT9⟩
        case measure => simp [intOf]; omega
    · obtain rfl : k = n := by omega
      clear hlt
      go_wp2_with fail
      go_ret
      exact ⟨g, cc, l, p1, rfl, HO.out, HI.out, hp1, HD.out, HT.out⟩
end Go.Proofs.Ytchfibmndcfpiaa
namespace Go.Proofs.Ytchfibmndcfpiaa
set_option linter.unusedVariables false
set_option linter.unusedSimpArgs false
open Go.RowKit

theorem touch_setX (w : World) (g j : Nat) (u : Value) : Touch w (w.setCell ⟨g, j, none⟩ u) g (g + 1) :=
  Touch.of_grown (show w.grownBy (w.setCell ⟨g, j, none⟩ u) (some g) from ⟨rfl, rfl, rfl, by simp, fun i _ hi => Below.heap_setCell _ _ _ _ (fun e => hi (by simp [e]))⟩) (Nat.le_refl _) (Nat.lt_succ_self _)
theorem touch_hiX {w w1 w2 : World} {b lo hi : Nat} (h : Touch w w1 b (b + 1)) (ht : Touch w1 w2 lo hi) (hlo : w.heap.size ≤ lo) : Touch w w2 b (b + 1) :=
  ⟨ht.os.trans h.os, ht.tape.trans h.tape, ht.output.trans h.output, Nat.le_trans h.size ht.size, fun k hk hd => (ht.block k (by have := h.size; omega) (by omega)).trans (h.block k hk hd)⟩
theorem OwnI.take {T lo hi c : Nat} {w : World} {a : Option Addr} {xs : List Int} (h : OwnI T w lo hi a c xs) (t : Nat) : OwnI T w lo hi a c (xs.take t) := by
  refine ⟨⟨by simp, ?_⟩, h.2⟩
  have hl : (xs.take t).length ≤ xs.length := by simp; omega
  rcases h.1.2 with ⟨h1, h2⟩ | ⟨g, cap, cur, hv, hg, hh, hn, hm, hs, ht⟩
  · left
    injection h1 with e1 e2 e3
    have hx : xs = [] := List.eq_nil_of_length_eq_zero h2
    subst hx e1 e3
    simp
  · right
    injection hv with e1 e2 e3
    refine ⟨g, cap, cur, by rw [e1, e3], hg, hh, by omega, hm, hs, ?_⟩
    rw [Nat.mul_one] at ht ⊢
    rw [show ints (xs.take t) = (ints xs).take t by simp [ints, List.map_take], ← ht, List.take_take, List.length_take]
/-- A row of its own, made since, is appended. -/
theorem OwnRows.snocX {T T2 : Nat} {w w' : World} {lo hi r0 g c : Nat} {u u' : Value} {vs : List Value} {yss : List (List Int)} {ys : List Int}
    (h : OwnRows T T2 w lo hi u vs yss) (hlo : lo ≤ r0) (hhi : hi ≤ r0) (hr : OwnI T w r0 w.heap.size (some ⟨g, 0, none⟩) c ys)
    (ho : w'.ownsRow lo T2 1 u' (yss.length + 1) (vs ++ [.slice (some ⟨g, 0, none⟩) ys.length c])) (hg : w.grownBy w' u.ownBlock) (hn : ∀ g, g < w.heap.size → some g ≠ u.ownBlock → some g ≠ u'.ownBlock) :
    OwnRows T T2 w' lo w'.heap.size u' (vs ++ [.slice (some ⟨g, 0, none⟩) ys.length c]) (yss ++ [ys]) := by
  have hl := h.len
  have hrg : r0 ≤ g := (hr.1.lt g rfl).1
  have hgw : g < w.heap.size := (hr.1.lt g rfl).2
  have hap : Apart u (.slice (some ⟨g, 0, none⟩) ys.length c) := fun q hq e => by
    have := h.lt q hq
    simp [Value.ownBlock] at e
    omega
  have at' : ∀ (j : Nat) (v : Value), (vs ++ [.slice (some ⟨g, 0, none⟩) ys.length c])[j]? = some v → (j < yss.length ∧ vs[j]? = some v) ∨ (j = yss.length ∧ v = .slice (some ⟨g, 0, none⟩) ys.length c) := by
    intro j v hj
    by_cases hlt : j < vs.length
    · rw [List.getElem?_append_left hlt] at hj
      exact .inl ⟨by omega, hj⟩
    · rw [List.getElem?_append_right (by omega)] at hj
      have : j - vs.length = 0 := by
        have := (List.getElem?_eq_some_iff.1 hj).1
        simp at this
        omega
      rw [this] at hj
      simp at hj
      exact .inr ⟨by omega, hj.symm⟩
  have hrow : ∀ (j : Nat) (v : Value), vs[j]? = some v → ∃ g' c' ys', v = .slice (some ⟨g', 0, none⟩) ys'.length c' ∧ OwnI T w lo hi (some ⟨g', 0, none⟩) c' ys' := by
    intro j v hj
    have hlt : j < yss.length := by have := (List.getElem?_eq_some_iff.1 hj).1; omega
    obtain ⟨g', c', h1, h2⟩ := h.row j yss[j] (List.getElem?_eq_getElem hlt)
    rw [hj] at h1
    injection h1 with h1
    exact ⟨g', c', _, h1, h2⟩
  refine ⟨by rw [List.length_append, List.length_singleton]; exact ho, fun q hq => (ho.lt q hq).2, fun j zs hj => ?_, fun j v hj => ?_, fun i j v v' hij hi hj => ?_⟩
  · by_cases hlt : j < yss.length
    · rw [List.getElem?_append_left hlt] at hj
      obtain ⟨g', c', h1, h2⟩ := h.row j zs hj
      refine ⟨g', c', by rw [List.getElem?_append_left (by omega)]; exact h1, ?_⟩
      exact (h2.apart hg (h.top j _ h1)).mono (Nat.le_refl _) (by have := hg.size; omega)
    · rw [List.getElem?_append_right (by omega)] at hj
      have : j - yss.length = 0 := by
        have := (List.getElem?_eq_some_iff.1 hj).1
        simp at this
        omega
      rw [this] at hj
      simp at hj
      subst hj
      refine ⟨g, c, by rw [List.getElem?_append_right (by omega), show j - vs.length = 0 by omega]; rfl, ?_⟩
      exact (hr.apart hg hap).mono hlo hg.size
  · rcases at' j v hj with ⟨_, h1⟩ | ⟨_, rfl⟩
    · obtain ⟨g', c', ys', e, h2⟩ := hrow j v h1
      have ha := h.top j v h1
      subst e
      exact apart_grow h2.1 ha hn
    · exact apart_grow hr.1 hap hn
  · rcases at' i v hi with ⟨i1, h1⟩ | ⟨i1, rfl⟩ <;> rcases at' j v' hj with ⟨j1, h2⟩ | ⟨j1, rfl⟩
    · exact h.dis i j v v' hij h1 h2
    · obtain ⟨g', c', ys', e, h3⟩ := hrow i v h1
      subst e
      intro q hq e
      have := h3.2 _ rfl
      simp [Value.ownBlock] at hq e
      simp at this
      omega
    · obtain ⟨g', c', ys', e, h3⟩ := hrow j v' h2
      subst e
      intro q hq e
      have := h3.2 _ rfl
      simp [Value.ownBlock] at hq e
      simp at this
      omega
    · omega
theorem OwnRows.keepX {T T2 : Nat} {w w' : World} {lo hi : Nat} {u : Value} {vs : List Value} {yss : List (List Int)} (h : OwnRows T T2 w lo hi u vs yss) (hb : Below hi w w') : OwnRows T T2 w' lo hi u vs yss := by
  have ht := touch_of_below' hb
  exact ⟨own_touch h.out h.lt ht (.inl (Nat.le_refl _)), h.lt, fun j ys hj => let ⟨g, c, h1, h2⟩ := h.row j ys hj; ⟨g, c, h1, h2.touch ht (.inl (Nat.le_refl _))⟩, h.top, h.dis⟩
/-- Lists of numbers below n, each once. -/
def GoodX (yss : List (List Int)) (n : Nat) : Prop := ∀ ys ∈ yss, ys.length ≤ n ∧ (∀ x ∈ ys, 0 ≤ x ∧ x < n) ∧ ys.Nodup
theorem GoodX.nil (n : Nat) : GoodX [] n := fun y h => by simp at h
theorem GoodX.snoc {yss : List (List Int)} {n : Nat} {ys : List Int} (h : GoodX yss n) (hy : ys.length ≤ n ∧ (∀ x ∈ ys, 0 ≤ x ∧ x < n) ∧ ys.Nodup) : GoodX (yss ++ [ys]) n := fun z hz => by
  rcases List.mem_append.1 hz with hz | hz
  · exact h z hz
  · rw [List.mem_singleton] at hz; subst hz; exact hy
theorem good_wish {x0 x1 : List (List Int)} {n : Nat} (h1 : 1 ≤ n) (h8 : n ≤ 8) (l0 : x0.length = n) (l1 : x1.length = n) (g0 : GoodX x0 n) (g1 : GoodX x1 n) : wishB ⟨x0, x1⟩ = true := by
  have e0 : listsB x0 x0.length = true := listsB_iff.2 ⟨fun xs hx => by rw [l0]; exact (g0 xs hx).2, rfl⟩
  have e1 : listsB x1 x0.length = true := listsB_iff.2 ⟨fun xs hx => by rw [l0]; exact (g1 xs hx).2, by omega⟩
  unfold wishB
  simp only [e0, e1, Bool.and_true, inB_iff]
  omega
theorem info_intsX : (Try.prog.info? 31).map (fun i => (i.zero, i.size, i.bytes)) = some (some (.slice none 0 0), 1, 24) := by kernel_rfl
/-- The result's cell, the wishes that are made, the source. -/
structure DX (w wX : World) (B0 b : Nat) (a : Option Addr) (xs : List Int) (c p : Nat) (cs : List Value) : Prop where
  T : Touch w wX b (b + 1)
  D : DS wX B0 b a xs c p
  R : Blk wX w.heap.size [.slice none 0 0, .slice none 0 0] 27
  V : Blk wX (w.heap.size + 1) cs 27
section
variable {w wX wY : World} {B0 b c p p' lo : Nat} {a : Option Addr} {xs : List Int} {cs : List Value}
theorem DX.draw (h : DX w wX B0 b a xs c p cs) (hb : b < w.heap.size) (ht : Touch wX wY b (b + 1)) (hd : DS wY B0 b a xs c p') : DX w wY B0 b a xs c p' cs :=
  ⟨h.T.trans ht, hd, h.R.touch ht (.inr (by omega)), h.V.touch ht (.inr (by omega))⟩
theorem DX.fresh (h : DX w wX B0 b a xs c p cs) (hb : b < w.heap.size) (ht : Below lo wX wY) (hlo : w.heap.size + 2 ≤ lo) : DX w wY B0 b a xs c p cs := by
  have t := touch_of_below' ht
  exact ⟨touch_hiX h.T t (by omega), h.D.touch t (by omega), h.R.touch t (.inl (by omega)), h.V.touch t (.inl (by omega))⟩
theorem DX.set (h : DX w wX B0 b a xs c p cs) (hb : b < w.heap.size) (j : Nat) (u : Value) : DX w (wX.setCell ⟨w.heap.size + 1, j, none⟩ u) B0 b a xs c p (cs.set j u) := by
  have ht := touch_setX wX (w.heap.size + 1) j u
  exact ⟨touch_hiX h.T ht (by omega), h.D.touch ht (by omega), h.R.touch ht (.inl (by omega)), h.V.set j u⟩
end
/-- How far the drawing is: nothing, the left side, both sides. -/
inductive PhX (w wX : World) (B0 b : Nat) (a : Option Addr) (xs : List Int) (c p1 n : Nat) : Nat → Prop
  | zero (hd : DX w wX B0 b a xs c p1 [.slice none 0 0, .slice none 0 0]) (hs : w.heap.size + 2 ≤ wX.heap.size) : PhX w wX B0 b a xs c p1 n 0
  | one {aL : Option Addr} {cL : Nat} {vL : List Value} {xL : List (List Int)} {p2 : Nat} (hd : DX w wX B0 b a xs c p2 [.slice aL n cL, .slice none 0 0]) (hl : xL.length = n) (hg : GoodX xL n) (ho : OwnRows 2 31 wX (w.heap.size + 2) wX.heap.size (.slice aL n cL) vL xL) (hs : w.heap.size + 2 ≤ wX.heap.size) (hp : p2 ≤ p1 + 9 * n) : PhX w wX B0 b a xs c p1 n 1
  | two {aL : Option Addr} {cL : Nat} {vL : List Value} {xL : List (List Int)} {aR : Option Addr} {cR : Nat} {vR : List Value} {xR : List (List Int)} {p2 hL : Nat} (hd : DX w wX B0 b a xs c p2 [.slice aL n cL, .slice aR n cR]) (hl : xL.length = n) (hl' : xR.length = n) (hg : GoodX xL n) (hg' : GoodX xR n) (ho : OwnRows 2 31 wX (w.heap.size + 2) hL (.slice aL n cL) vL xL) (ho' : OwnRows 2 31 wX hL wX.heap.size (.slice aR n cR) vR xR) (hh : w.heap.size + 2 ≤ hL) (hs : hL ≤ wX.heap.size) (hp : p2 ≤ p1 + 18 * n) : PhX w wX B0 b a xs c p1 n 2
def WishR (w : World) (B0 b : Nat) (a : Option Addr) (xs : List Int) (c q n : Nat) (e : Ending) (w' : World) : Prop :=
  ∃ (aL : Option Addr) (cL : Nat) (xL : List (List Int)) (aR : Option Addr) (cR : Nat) (xR : List (List Int)) (p' : Nat), e = .returned (.agg #[.slice aL n cL, .slice aR n cR]) ∧ (xL.length = n ∧ xR.length = n) ∧ (GoodX xL n ∧ GoodX xR n) ∧ (∃ m, (w.heap.size ≤ m ∧ m ≤ w'.heap.size) ∧ OwnLL 2 31 w' w.heap.size m aL cL xL ∧ OwnLL 2 31 w' m w'.heap.size aR cR xR) ∧ p' ≤ q ∧ DS w' B0 b a xs c p' ∧ Touch w w' b (b + 1)
set_option maxRecDepth 10000 in
set_option maxHeartbeats 16000000 in
theorem wishes_ds (w : World) (B0 b : Nat) (a : Option Addr) (xs : List Int) (c p n : Nat) (h : DS w B0 b a xs c p) (hp : p ≤ 600000) (n1 : 1 ≤ n) (n8 : n ≤ 8) :
    Calls Try.prog 37 #[.pointer (some ⟨b, 0, none⟩), .int .i64 n] w (WishR w B0 b a xs c (p + 200) n) := by
  have hbw := h.lt
  have B2 := bl2 w (.cells #[.slice none 0 0, .slice none 0 0] 27) (.cells #[.slice none 0 0, .slice none 0 0] 27)
  have e1 : (w.alloc (.cells #[.slice none 0 0, .slice none 0 0] 27)).heap.size = w.heap.size + 1 := World.size_alloc _ _
  have HD0 : Hid (DX w ((w.alloc (.cells #[.slice none 0 0, .slice none 0 0] 27)).alloc (.cells #[.slice none 0 0, .slice none 0 0] 27)) B0 b a xs c p [.slice none 0 0, .slice none 0 0]) :=
    ⟨Below.touch B2 b (b + 1), h.same B2, (Blk.new w [.slice none 0 0, .slice none 0 0] 27).alloc _, by rw [← e1]; exact Blk.new _ _ _⟩
  have L1 := Lib.hid (one_ds _ B0 b a xs c p 2 HD0.out.D (by omega) (by omega))
  have n0i : (0 : Int) ≤ (n : Int) := Int.natCast_nonneg _
  have n8i : (n : Int) ≤ 8 := by omega
  clear h B2 e1
  go_enter Try.func37, Try.ntmps37
  go_wp2_with fail
  refine L1.out.mono ?_
  rintro e w1 ⟨y, p1, rfl, hp1, D1, T1⟩
  have HD1 := Lib.hid (HD0.out.draw hbw T1 D1)
  have s1 := T1.size
  simp only [World.size_alloc] at s1
  have hs1 : w.heap.size + 2 ≤ w1.heap.size := by omega
  clear L1 D1 T1 HD0 s1
  go_wp2_with fail
  go_loopw [7] (fun sv wr => ∃ (s : Nat), sv = .int .i64 s ∧ Hid (PhX w wr B0 b a xs c p1 n s)) (fun sv _ => 2 - (intOf sv).toNat)
  case atStart => exact ⟨0, rfl, PhX.zero HD1.out hs1⟩
  case round =>
    clear HD1 hs1
    obtain ⟨s, rfl, HP⟩ := hrel
    obtain ⟨ws, hws⟩ : ∃ W : World, W = wr := ⟨_, rfl⟩
    subst hws
    cases HP.out with
    | zero HD0 hs =>
        have HD := Lib.hid HD0
        rw [show ((0 : Nat) : Int) = 0 from rfl]
        clear HP HD0
        go_wp2_with fail
        go_loopw [8] (fun iv wr => ∃ (k : Nat) (aa : Option Addr) (ca : Nat) (vs : List Value) (yss : List (List Int)) (p' : Nat), k ≤ n ∧ iv = .int .i64 k ∧ yss.length = k ∧ Hid (GoodX yss n) ∧ Hid (DX w wr B0 b a xs c p' [.slice aa k ca, .slice none 0 0]) ∧ Hid (OwnRows 2 31 wr (w.heap.size + 2) wr.heap.size (.slice aa k ca) vs yss) ∧ (w.heap.size + 2) ≤ wr.heap.size ∧ p' ≤ p1 + 9 * k) (fun iv _ => n - (intOf iv).toNat)
        case atStart => exact ⟨0, none, 0, [], [], p1, Nat.zero_le _, rfl, rfl, GoodX.nil n, HD, OwnRows.start (World.ownsRow_nil _ _ _ _), by omega, by omega⟩
        case round =>
          clear HD
          obtain ⟨k, aa, ca, vs, yss, p2, hk, rfl, hyl, HG, HD2, HR2, hsz, hp2⟩ := hrel
          have k0 : (0 : Int) ≤ (k : Int) := Int.natCast_nonneg _
          by_cases hlt : k < n
          · have hki : (k : Int) < (n : Int) := by omega
            have L2 := Lib.hid (order_ds wr B0 b a xs c p2 n HD2.out.D (by omega) n8)
            go_wp2_with fail
            refine L2.out.mono ?_
            rintro e w2 ⟨g2, cc, l, p3, rfl, hO, hI, hp3, D3, T3⟩
            have s2 := T3.size
            have HD3 := Lib.hid (HD2.out.draw hbw T3 D3)
            have HR3 : Hid (OwnRows 2 31 w2 (w.heap.size + 2) wr.heap.size (.slice aa k ca) vs yss) := HR2.out.grown (touch_grown T3) (.inl (by omega))

            have HI := Lib.hid hI
            have HO := Lib.hid hO
            have Hyl := Lib.hid hyl
            have hlen := hO.len
            have Hln := Lib.hid hlen
            have hcap : n ≤ cc := by have := hI.cap; omega
            clear L2 D3 T3 HD2 HR2 hI hO hyl hlen
            cases y with
            | true =>
              have HDx := HD3
              have HRx := HR3
              have q0 := HDx.out.V.cell 0
              have q1 := HDx.out.V.cell 1
              have f0 := HDx.out.V.free 0
              simp only [List.getElem?_cons_zero, List.getElem?_cons_succ] at q0 q1
              have HIr : Hid (OwnI 2 w2 wr.heap.size w2.heap.size (some ⟨g2, 0, none⟩) cc l) := HI.out
              have HLr : Hid ((l).length = n) := Hln.out
              have HGr : Hid (GoodX (yss ++ [l]) n) := HG.out.snoc ⟨by rw [Hln.out]; exact Nat.le_refl _, HO.out.mem, HO.out.nd⟩
              have hsx : (w.heap.size + 2) ≤ w2.heap.size := by omega
              go_wp2_with (at_builtin; refine wpList_append_blk _ rfl _ _ 25 rfl (w.heap.size + 2) 31 (.slice none 0 0) 24 Try.underlying25 info_intsX rfl _ k vs rfl (by have := HRx.out.out; rw [Hyl.out] at this; exact this) (.slice (some ⟨g2, 0, none⟩) n cc) rfl rfl (by omega) (by omega) hsx ?_)
              intro v9 w9 o9 g9 n9
              obtain ⟨a9, c9, e9, _, _⟩ := own_shape o9
              subst e9
              have hB9 : Below (w.heap.size + 2) w2 w9 := below_of_grown g9 hsx (fun q hq => ((HRx.out.out).lt q hq).1)
              have HR9 : Hid (OwnRows 2 31 w9 (w.heap.size + 2) w9.heap.size (.slice a9 (k + 1) c9) (vs ++ [.slice (some ⟨g2, 0, none⟩) n cc]) (yss ++ [l])) := by
                have := HRx.out.snocX (u' := .slice a9 (k + 1) c9) (by omega) (Nat.le_refl _) HIr.out (w' := w9) (by rw [HLr.out, Hyl.out]; exact o9) g9 n9
                rw [HLr.out] at this
                exact this
              have HD9 : Hid (DX w w9 B0 b a xs c p3 [.slice aa k ca, .slice none 0 0]) := HDx.out.fresh hbw hB9 (by omega)
              have s9 := hB9.size
              have q0 := HD9.out.V.cell 0
              have q1 := HD9.out.V.cell 1
              have f0 := HD9.out.V.free 0
              simp only [List.getElem?_cons_zero, List.getElem?_cons_succ] at q0 q1
              have HDz : Hid (DX w (w9.setCell ⟨w.heap.size + 1, 0, none⟩ (.slice a9 (k + 1) c9)) B0 b a xs c p3 [.slice a9 (k + 1) c9, .slice none 0 0]) := HD9.out.set hbw 0 _
              have tz := touch_setX w9 (w.heap.size + 1) 0 (.slice a9 (k + 1) c9)
              have HRz := Lib.hid (HR9.out.grown (touch_grown tz) (.inl (by omega)))
              have hzs : (w9.setCell ⟨w.heap.size + 1, 0, none⟩ (.slice a9 (k + 1) c9)).heap.size = w9.heap.size := by simp
              have HZs := Lib.hid hzs
              clear o9 g9 n9 tz hzs hB9
              go_wp2_with fail
              go_roundw
              case rel => exact ⟨k + 1, a9, c9, _, _, p3, by omega, by go_num, by rw [List.length_append, Hyl.out]; rfl, HGr, HDz, by rw [Hid, HZs.out]; exact HRz.out, by rw [HZs.out]; omega, by omega⟩
              case measure => simp [intOf]; omega
            | false =>
              have L3 := Lib.hid (pick_ds w2 B0 b a xs c p3 ((n : Int) + 1) HD3.out.D (by omega) (by omega))
              go_wp2_with fail
              refine L3.out.mono ?_
              rintro e w3 ⟨x, p4, rfl, ⟨x0, x1⟩, hp4, D4, T4⟩
              obtain ⟨t, rfl⟩ : ∃ t : Nat, x = t := ⟨x.toNat, by omega⟩
              have htn : t ≤ n := by omega
              have htc : (t : Int) ≤ (cc : Int) := by omega
              have t0 : (0 : Int) ≤ (t : Int) := Int.natCast_nonneg _
              have s3 := T4.size
              have HD4 := Lib.hid (HD3.out.draw hbw T4 D4)
              have HR4 : Hid (OwnRows 2 31 w3 (w.heap.size + 2) wr.heap.size (.slice aa k ca) vs yss) := HR3.out.grown (touch_grown T4) (.inl (by omega))

              have HI4 : Hid (OwnI 2 w3 wr.heap.size w3.heap.size (some ⟨g2, 0, none⟩) cc l) := (HI.out.touch T4 (.inr (by have := HD3.out.D.lt; omega))).mono (Nat.le_refl _) s3
              have hlt4 : (l.take t).length = t := by rw [List.length_take, Hln.out]; omega
              have Hlt4 := Lib.hid hlt4
              clear L3 D4 T4 x0 x1 HD3 HR3 HI hlt4
              have HDx := HD4
              have HRx := HR4
              have q0 := HDx.out.V.cell 0
              have q1 := HDx.out.V.cell 1
              have f0 := HDx.out.V.free 0
              simp only [List.getElem?_cons_zero, List.getElem?_cons_succ] at q0 q1
              have HIr : Hid (OwnI 2 w3 wr.heap.size w3.heap.size (some ⟨g2, 0, none⟩) cc (l.take t)) := HI4.out.take t
              have HLr : Hid (((l.take t)).length = t) := Hlt4.out
              have HGr : Hid (GoodX (yss ++ [(l.take t)]) n) := HG.out.snoc ⟨by rw [Hlt4.out]; exact htn, fun x hx => HO.out.mem x (List.mem_of_mem_take hx), HO.out.nd.sublist (List.take_sublist t l)⟩
              have hsx : (w.heap.size + 2) ≤ w3.heap.size := by omega
              go_wp2_with (at_builtin; refine wpList_append_blk _ rfl _ _ 25 rfl (w.heap.size + 2) 31 (.slice none 0 0) 24 Try.underlying25 info_intsX rfl _ k vs rfl (by have := HRx.out.out; rw [Hyl.out] at this; exact this) (.slice (some ⟨g2, 0, none⟩) t cc) rfl rfl (by omega) (by omega) hsx ?_)
              intro v9 w9 o9 g9 n9
              obtain ⟨a9, c9, e9, _, _⟩ := own_shape o9
              subst e9
              have hB9 : Below (w.heap.size + 2) w3 w9 := below_of_grown g9 hsx (fun q hq => ((HRx.out.out).lt q hq).1)
              have HR9 : Hid (OwnRows 2 31 w9 (w.heap.size + 2) w9.heap.size (.slice a9 (k + 1) c9) (vs ++ [.slice (some ⟨g2, 0, none⟩) t cc]) (yss ++ [(l.take t)])) := by
                have := HRx.out.snocX (u' := .slice a9 (k + 1) c9) (by omega) (Nat.le_refl _) HIr.out (w' := w9) (by rw [HLr.out, Hyl.out]; exact o9) g9 n9
                rw [HLr.out] at this
                exact this
              have HD9 : Hid (DX w w9 B0 b a xs c p4 [.slice aa k ca, .slice none 0 0]) := HDx.out.fresh hbw hB9 (by omega)
              have s9 := hB9.size
              have q0 := HD9.out.V.cell 0
              have q1 := HD9.out.V.cell 1
              have f0 := HD9.out.V.free 0
              simp only [List.getElem?_cons_zero, List.getElem?_cons_succ] at q0 q1
              have HDz : Hid (DX w (w9.setCell ⟨w.heap.size + 1, 0, none⟩ (.slice a9 (k + 1) c9)) B0 b a xs c p4 [.slice a9 (k + 1) c9, .slice none 0 0]) := HD9.out.set hbw 0 _
              have tz := touch_setX w9 (w.heap.size + 1) 0 (.slice a9 (k + 1) c9)
              have HRz := Lib.hid (HR9.out.grown (touch_grown tz) (.inl (by omega)))
              have hzs : (w9.setCell ⟨w.heap.size + 1, 0, none⟩ (.slice a9 (k + 1) c9)).heap.size = w9.heap.size := by simp
              have HZs := Lib.hid hzs
              clear o9 g9 n9 tz hzs hB9
              go_wp2_with fail
              go_roundw
              case rel => exact ⟨k + 1, a9, c9, _, _, p4, by omega, by go_num, by rw [List.length_append, Hyl.out]; rfl, HGr, HDz, by rw [Hid, HZs.out]; exact HRz.out, by rw [HZs.out]; omega, by omega⟩
              case measure => simp [intOf]; omega
          · obtain rfl : k = n := by omega
            have HE : Hid (PhX w wr B0 b a xs c p1 k 1) := PhX.one HD2.out hyl HG.out HR2.out hsz hp2
            clear hlt
            go_wp2_with fail
            go_roundw
            case rel => exact ⟨1, by go_num, HE⟩
            case measure => simp [intOf]
    | one HD0 hl0 HG0 HR0 hs hpp =>
        rename_i aL cL vL xL p2
        obtain ⟨hL, hhL⟩ : ∃ x, x = ws.heap.size := ⟨_, rfl⟩
        rw [← hhL] at HR0
        have HD := Lib.hid HD0
        have HOL := Lib.hid HR0
        have HGL := Lib.hid HG0
        have HLL := Lib.hid hl0
        obtain ⟨p0, hp0⟩ : ∃ x, x = p1 := ⟨_, rfl⟩
        have hLw : hL ≤ ws.heap.size := by omega
        have hLl : w.heap.size + 2 ≤ hL := by omega
        rw [show ((1 : Nat) : Int) = 1 from rfl]
        clear HP HD0 HR0 HG0 hl0 hhL
        go_wp2_with fail
        go_loopw [8] (fun iv wr => ∃ (k : Nat) (aa : Option Addr) (ca : Nat) (vs : List Value) (yss : List (List Int)) (p' : Nat), k ≤ n ∧ iv = .int .i64 k ∧ yss.length = k ∧ Hid (GoodX yss n) ∧ Hid (DX w wr B0 b a xs c p' [.slice aL n cL, .slice aa k ca]) ∧ Hid (OwnRows 2 31 wr hL wr.heap.size (.slice aa k ca) vs yss) ∧ Hid (OwnRows 2 31 wr (w.heap.size + 2) hL (.slice aL n cL) vL xL) ∧ hL ≤ wr.heap.size ∧ p' ≤ p1 + 9 * n + 9 * k) (fun iv _ => n - (intOf iv).toNat)
        case atStart => exact ⟨0, none, 0, [], [], p2, Nat.zero_le _, rfl, rfl, GoodX.nil n, HD, OwnRows.start (World.ownsRow_nil _ _ _ _), HOL, by omega, by omega⟩
        case round =>
          clear HD HOL
          obtain ⟨k, aa, ca, vs, yss, p2', hk, rfl, hyl, HG, HD2, HR2, HOL2, hsz, hp2'⟩ := hrel
          have k0 : (0 : Int) ≤ (k : Int) := Int.natCast_nonneg _
          by_cases hlt : k < n
          · have hki : (k : Int) < (n : Int) := by omega
            have L2 := Lib.hid (order_ds wr B0 b a xs c p2' n HD2.out.D (by omega) n8)
            go_wp2_with fail
            refine L2.out.mono ?_
            rintro e w2 ⟨g2, cc, l, p3, rfl, hO, hI, hp3, D3, T3⟩
            have s2 := T3.size
            have HD3 := Lib.hid (HD2.out.draw hbw T3 D3)
            have HR3 : Hid (OwnRows 2 31 w2 hL wr.heap.size (.slice aa k ca) vs yss) := HR2.out.grown (touch_grown T3) (.inl (by omega))
            have HOL3 := Lib.hid (HOL2.out.grown (touch_grown T3) (.inl (by omega)))
            have HI := Lib.hid hI
            have HO := Lib.hid hO
            have Hyl := Lib.hid hyl
            have hlen := hO.len
            have Hln := Lib.hid hlen
            have hcap : n ≤ cc := by have := hI.cap; omega
            clear L2 D3 T3 HD2 HR2 HOL2 hI hO hyl hlen
            cases y with
            | true =>
              have HDx := HD3
              have HRx := HR3
              have HOx := HOL3
              have q0 := HDx.out.V.cell 0
              have q1 := HDx.out.V.cell 1
              have f1 := HDx.out.V.free 1
              simp only [List.getElem?_cons_zero, List.getElem?_cons_succ] at q0 q1
              have HIr : Hid (OwnI 2 w2 wr.heap.size w2.heap.size (some ⟨g2, 0, none⟩) cc l) := HI.out
              have HLr : Hid ((l).length = n) := Hln.out
              have HGr : Hid (GoodX (yss ++ [l]) n) := HG.out.snoc ⟨by rw [Hln.out]; exact Nat.le_refl _, HO.out.mem, HO.out.nd⟩
              have hsx : hL ≤ w2.heap.size := by omega
              go_wp2_with (at_builtin; refine wpList_append_blk _ rfl _ _ 25 rfl hL 31 (.slice none 0 0) 24 Try.underlying25 info_intsX rfl _ k vs rfl (by have := HRx.out.out; rw [Hyl.out] at this; exact this) (.slice (some ⟨g2, 0, none⟩) n cc) rfl rfl (by omega) (by omega) hsx ?_)
              intro v9 w9 o9 g9 n9
              obtain ⟨a9, c9, e9, _, _⟩ := own_shape o9
              subst e9
              have hB9 : Below hL w2 w9 := below_of_grown g9 hsx (fun q hq => ((HRx.out.out).lt q hq).1)
              have HR9 : Hid (OwnRows 2 31 w9 hL w9.heap.size (.slice a9 (k + 1) c9) (vs ++ [.slice (some ⟨g2, 0, none⟩) n cc]) (yss ++ [l])) := by
                have := HRx.out.snocX (u' := .slice a9 (k + 1) c9) (by omega) (Nat.le_refl _) HIr.out (w' := w9) (by rw [HLr.out, Hyl.out]; exact o9) g9 n9
                rw [HLr.out] at this
                exact this
              have HD9 : Hid (DX w w9 B0 b a xs c p3 [.slice aL n cL, .slice aa k ca]) := HDx.out.fresh hbw hB9 (by omega)
              have HO9 := Lib.hid (HOx.out.keepX hB9)
              have s9 := hB9.size
              have q0 := HD9.out.V.cell 0
              have q1 := HD9.out.V.cell 1
              have f1 := HD9.out.V.free 1
              simp only [List.getElem?_cons_zero, List.getElem?_cons_succ] at q0 q1
              have HDz : Hid (DX w (w9.setCell ⟨w.heap.size + 1, 1, none⟩ (.slice a9 (k + 1) c9)) B0 b a xs c p3 [.slice aL n cL, .slice a9 (k + 1) c9]) := HD9.out.set hbw 1 _
              have tz := touch_setX w9 (w.heap.size + 1) 1 (.slice a9 (k + 1) c9)
              have HRz := Lib.hid (HR9.out.grown (touch_grown tz) (.inl (by omega)))
              have HOz := Lib.hid (HO9.out.grown (touch_grown tz) (.inl (by omega)))
              have hzs : (w9.setCell ⟨w.heap.size + 1, 1, none⟩ (.slice a9 (k + 1) c9)).heap.size = w9.heap.size := by simp
              have HZs := Lib.hid hzs
              clear o9 g9 n9 tz hzs hB9
              go_wp2_with fail
              go_roundw
              case rel => exact ⟨k + 1, a9, c9, _, _, p3, by omega, by go_num, by rw [List.length_append, Hyl.out]; rfl, HGr, HDz, by rw [Hid, HZs.out]; exact HRz.out, HOz, by rw [HZs.out]; omega, by omega⟩
              case measure => simp [intOf]; omega
            | false =>
              have L3 := Lib.hid (pick_ds w2 B0 b a xs c p3 ((n : Int) + 1) HD3.out.D (by omega) (by omega))
              go_wp2_with fail
              refine L3.out.mono ?_
              rintro e w3 ⟨x, p4, rfl, ⟨x0, x1⟩, hp4, D4, T4⟩
              obtain ⟨t, rfl⟩ : ∃ t : Nat, x = t := ⟨x.toNat, by omega⟩
              have htn : t ≤ n := by omega
              have htc : (t : Int) ≤ (cc : Int) := by omega
              have t0 : (0 : Int) ≤ (t : Int) := Int.natCast_nonneg _
              have s3 := T4.size
              have HD4 := Lib.hid (HD3.out.draw hbw T4 D4)
              have HR4 : Hid (OwnRows 2 31 w3 hL wr.heap.size (.slice aa k ca) vs yss) := HR3.out.grown (touch_grown T4) (.inl (by omega))
              have HOL4 := Lib.hid (HOL3.out.grown (touch_grown T4) (.inl (by omega)))
              have HI4 : Hid (OwnI 2 w3 wr.heap.size w3.heap.size (some ⟨g2, 0, none⟩) cc l) := (HI.out.touch T4 (.inr (by have := HD3.out.D.lt; omega))).mono (Nat.le_refl _) s3
              have hlt4 : (l.take t).length = t := by rw [List.length_take, Hln.out]; omega
              have Hlt4 := Lib.hid hlt4
              clear L3 D4 T4 x0 x1 HD3 HR3 HOL3 HI hlt4
              have HDx := HD4
              have HRx := HR4
              have HOx := HOL4
              have q0 := HDx.out.V.cell 0
              have q1 := HDx.out.V.cell 1
              have f1 := HDx.out.V.free 1
              simp only [List.getElem?_cons_zero, List.getElem?_cons_succ] at q0 q1
              have HIr : Hid (OwnI 2 w3 wr.heap.size w3.heap.size (some ⟨g2, 0, none⟩) cc (l.take t)) := HI4.out.take t
              have HLr : Hid (((l.take t)).length = t) := Hlt4.out
              have HGr : Hid (GoodX (yss ++ [(l.take t)]) n) := HG.out.snoc ⟨by rw [Hlt4.out]; exact htn, fun x hx => HO.out.mem x (List.mem_of_mem_take hx), HO.out.nd.sublist (List.take_sublist t l)⟩
              have hsx : hL ≤ w3.heap.size := by omega
              go_wp2_with (at_builtin; refine wpList_append_blk _ rfl _ _ 25 rfl hL 31 (.slice none 0 0) 24 Try.underlying25 info_intsX rfl _ k vs rfl (by have := HRx.out.out; rw [Hyl.out] at this; exact this) (.slice (some ⟨g2, 0, none⟩) t cc) rfl rfl (by omega) (by omega) hsx ?_)
              intro v9 w9 o9 g9 n9
              obtain ⟨a9, c9, e9, _, _⟩ := own_shape o9
              subst e9
              have hB9 : Below hL w3 w9 := below_of_grown g9 hsx (fun q hq => ((HRx.out.out).lt q hq).1)
              have HR9 : Hid (OwnRows 2 31 w9 hL w9.heap.size (.slice a9 (k + 1) c9) (vs ++ [.slice (some ⟨g2, 0, none⟩) t cc]) (yss ++ [(l.take t)])) := by
                have := HRx.out.snocX (u' := .slice a9 (k + 1) c9) (by omega) (Nat.le_refl _) HIr.out (w' := w9) (by rw [HLr.out, Hyl.out]; exact o9) g9 n9
                rw [HLr.out] at this
                exact this
              have HD9 : Hid (DX w w9 B0 b a xs c p4 [.slice aL n cL, .slice aa k ca]) := HDx.out.fresh hbw hB9 (by omega)
              have HO9 := Lib.hid (HOx.out.keepX hB9)
              have s9 := hB9.size
              have q0 := HD9.out.V.cell 0
              have q1 := HD9.out.V.cell 1
              have f1 := HD9.out.V.free 1
              simp only [List.getElem?_cons_zero, List.getElem?_cons_succ] at q0 q1
              have HDz : Hid (DX w (w9.setCell ⟨w.heap.size + 1, 1, none⟩ (.slice a9 (k + 1) c9)) B0 b a xs c p4 [.slice aL n cL, .slice a9 (k + 1) c9]) := HD9.out.set hbw 1 _
              have tz := touch_setX w9 (w.heap.size + 1) 1 (.slice a9 (k + 1) c9)
              have HRz := Lib.hid (HR9.out.grown (touch_grown tz) (.inl (by omega)))
              have HOz := Lib.hid (HO9.out.grown (touch_grown tz) (.inl (by omega)))
              have hzs : (w9.setCell ⟨w.heap.size + 1, 1, none⟩ (.slice a9 (k + 1) c9)).heap.size = w9.heap.size := by simp
              have HZs := Lib.hid hzs
              clear o9 g9 n9 tz hzs hB9
              go_wp2_with fail
              go_roundw
              case rel => exact ⟨k + 1, a9, c9, _, _, p4, by omega, by go_num, by rw [List.length_append, Hyl.out]; rfl, HGr, HDz, by rw [Hid, HZs.out]; exact HRz.out, HOz, by rw [HZs.out]; omega, by omega⟩
              case measure => simp [intOf]; omega
          · obtain rfl : k = n := by omega
            have HE : Hid (PhX w wr B0 b a xs c p1 k 2) := PhX.two HD2.out HLL.out hyl HGL.out HG.out HOL2.out HR2.out hLl hsz (by omega)
            clear hlt
            go_wp2_with fail
            go_roundw
            case rel => exact ⟨2, by go_num, HE⟩
            case measure => simp [intOf]
    | two HD0 hl0 hl1 HG0 HG1 HR0 HR1 hh hs hpp =>
        rename_i aL cL vL xL aR cR vR xR p2 hL
        have y0 := HD0.R.cell 0
        have y1 := HD0.R.cell 1
        have q0 := HD0.V.cell 0
        have q1 := HD0.V.cell 1
        have f0 := HD0.R.free 0
        have f1 := HD0.R.free 1
        simp only [List.getElem?_cons_zero, List.getElem?_cons_succ] at y0 y1 q0 q1
        have HD := Lib.hid HD0
        have H0 := Lib.hid HR0
        have H1 := Lib.hid HR1
        have HG0' := Lib.hid HG0
        have HG1' := Lib.hid HG1
        have HL0 := Lib.hid hl0
        have HL1 := Lib.hid hl1
        rw [show ((2 : Nat) : Int) = 2 from rfl]
        clear HP HD0 HR0 HR1 HG0 HG1 hl0 hl1
        go_wp2_with fail
        obtain ⟨wz, hwz⟩ : ∃ Y, Y = (ws.setCell ⟨w.heap.size, 0, none⟩ (.slice aL n cL)).setCell ⟨w.heap.size, 1, none⟩ (.slice aR n cR) := ⟨_, rfl⟩
        have KZ : Blk wz w.heap.size [.slice aL n cL, .slice aR n cR] 27 := by rw [hwz]; exact (HD.out.R.set 0 (.slice aL n cL)).set 1 (.slice aR n cR)
        have TZ : Touch ws wz w.heap.size (w.heap.size + 1) := by rw [hwz]; exact (touch_setX ws w.heap.size 0 (.slice aL n cL)).trans (touch_setX _ w.heap.size 1 (.slice aR n cR))
        have sZ := TZ.size
        have hsz' : wz.heap.size = ws.heap.size := by rw [hwz]; simp
        have O0 := H0.out.grown (touch_grown TZ) (.inl (by omega))
        have O1 := H1.out.grown (touch_grown TZ) (.inl (by omega))
        have DZ := HD.out.D.touch TZ (by omega)
        have TT := touch_hiX HD.out.T TZ (Nat.le_refl _)
        have hhz : hL ≤ wz.heap.size := by omega
        have hzz : ws.heap.size ≤ wz.heap.size := by omega
        have R0 : OwnLL 2 31 wz w.heap.size hL aL cL xL := OwnLL.mono (lo := w.heap.size + 2) ⟨vL, by rw [HL0.out]; exact O0⟩ (by omega) (Nat.le_refl _)
        have R1 : OwnLL 2 31 wz hL wz.heap.size aR cR xR := OwnLL.mono (lo := hL) (hi := ws.heap.size) ⟨vR, by rw [HL1.out]; exact O1⟩ (Nat.le_refl _) hzz
        rw [← hwz]
        clear hwz y0 y1 q0 q1
        have y0 : wz.cell? ⟨w.heap.size, 0, none⟩ = some (.slice aL n cL) := KZ.cell 0
        have y1 : wz.cell? ⟨w.heap.size, 1, none⟩ = some (.slice aR n cR) := KZ.cell 1
        refine bodyPost_ret (v := .agg #[.slice aL n cL, .slice aR n cR]) (by simp [results, Try.results37, go_sem, y0, y1]) rfl ?_
        exact ⟨aL, cL, xL, aR, cR, xR, p2, rfl, ⟨HL0.out, HL1.out⟩, ⟨HG0'.out, HG1'.out⟩, ⟨hL, ⟨by omega, hhz⟩, R0, R1⟩, by omega, DZ, TT⟩
end Go.Proofs.Ytchfibmndcfpiaa
namespace Go.Proofs.Ytchfibmndcfpiaa
set_option linter.unusedVariables false
set_option linter.unusedSimpArgs false
open Go.RowKit

def WishB (w : World) (n : Nat) (e : Ending) (w' : World) : Prop :=
  ∃ (aL : Option Addr) (cL : Nat) (xL : List (List Int)) (aR : Option Addr) (cR : Nat) (xR : List (List Int)), e = .returned (.agg #[.slice aL n cL, .slice aR n cR]) ∧ (xL.length = n ∧ xR.length = n) ∧ (GoodX xL n ∧ GoodX xR n) ∧ RdWishes w' w'.heap.size aL xL aR xR ∧ Below w.heap.size w w'
set_option maxRecDepth 10000 in
set_option maxHeartbeats 4000000 in
theorem b10Wishes_any (w : World) (a : Option Addr) (c : Nat) (xs : List Int) (n : Nat) (h : Rd w w.heap.size a (byts xs)) (hx : ∀ x ∈ xs, 0 ≤ x ∧ x ≤ 255) (hl : xs.length ≤ 1048576) (n1 : 1 ≤ n) (n8 : n ≤ 8) :
    Calls Try.prog 8 #[.slice a xs.length c, .int .i64 n] w (WishB w n) := by
  have B0' := bl1 w (.cells #[.slice none 0 0, .slice none 0 0] 27)
  have KR0 := Lib.hid (Blk.new w [.slice none 0 0, .slice none 0 0] 27)
  have L0 := Lib.hid (l00From_any (w.alloc (.cells #[.slice none 0 0, .slice none 0 0] 27)) a xs.length c)
  have H0 := Lib.hid ((h.below B0' (Nat.le_refl _)).mono B0'.size)
  have HX := Lib.hid hx
  have HB0 := Lib.hid B0'
  clear h hx B0'
  go_enter Try.func8, Try.ntmps8
  go_wp2_with fail
  refine L0.out.mono ?_
  rintro e w1 ⟨rfl, S1, B1, s1⟩
  have s0 : (w.alloc (.cells #[.slice none 0 0, .slice none 0 0] 27)).heap.size = w.heap.size + 1 := World.size_alloc _ _
  have D1 : Hid (DS w1 (w.heap.size + 1) (w.heap.size + 1) a xs c 0) := ⟨by rw [← s0]; exact S1, by rw [← s0]; exact H0.out.below B1 (Nat.le_refl _), Nat.le_refl _, HX.out, hl⟩
  have KR1 := Lib.hid (KR0.out.same B1)
  have HB1 := Lib.hid (below_then HB0.out B1)
  have L1 := Lib.hid (wishes_ds w1 (w.heap.size + 1) (w.heap.size + 1) a xs c 0 n D1.out (by omega) n1 n8)
  have hs1 : w.heap.size + 2 ≤ w1.heap.size := by omega
  clear L0 S1 B1 s1 s0 D1 H0 HX KR0 HB0
  go_wp2_with fail
  refine L1.out.mono ?_
  rintro e w2 ⟨aL, cL, xL, aR, cR, xR, p4, rfl, hl1, hg1, ⟨mm, hmm, oL, oR⟩, hp4, D4, T4⟩
  have KR2 := Lib.hid (KR1.out.touch T4 (.inl (by omega)))
  have B2 := Lib.hid (below_touch HB1.out T4 (by omega) HB1.out.size)
  have s4 := T4.size
  have H1 := Lib.hid hl1
  have H2 := Lib.hid hg1
  have HL := Lib.hid oL
  have HR := Lib.hid oR
  have HM := Lib.hid hmm
  clear L1 KR1 T4 hl1 hg1 oL oR hmm D4
  have y0' : w2.cell? ⟨w.heap.size, 0, none⟩ = some (.slice none 0 0) := KR2.out.cell 0
  have y1' : w2.cell? ⟨w.heap.size, 1, none⟩ = some (.slice none 0 0) := KR2.out.cell 1
  have f0 := KR2.out.free 0
  have f1 := KR2.out.free 1
  go_wp2_with fail
  obtain ⟨wz, hwz⟩ : ∃ Y, Y = (w2.setCell ⟨w.heap.size, 0, none⟩ (.slice aL n cL)).setCell ⟨w.heap.size, 1, none⟩ (.slice aR n cR) := ⟨_, rfl⟩
  have KZ : Blk wz w.heap.size [.slice aL n cL, .slice aR n cR] 27 := by rw [hwz]; exact (KR2.out.set 0 (.slice aL n cL)).set 1 (.slice aR n cR)
  have TZ : Touch w2 wz w.heap.size (w.heap.size + 1) := by rw [hwz]; exact (touch_setX w2 w.heap.size 0 (.slice aL n cL)).trans (touch_setX _ w.heap.size 1 (.slice aR n cR))
  obtain ⟨hm1, hm2⟩ := HM.out
  have OLZ := HL.out.touch TZ (.inr (by omega))
  have ORZ := HR.out.touch TZ (.inr (by omega))
  have BZ := below_touch B2.out TZ (Nat.le_refl _) (by omega)
  have sZ := TZ.size
  rw [← hwz]
  clear hwz y0' y1'
  have y0' : wz.cell? ⟨w.heap.size, 0, none⟩ = some (.slice aL n cL) := KZ.cell 0
  have y1' : wz.cell? ⟨w.heap.size, 1, none⟩ = some (.slice aR n cR) := KZ.cell 1
  refine bodyPost_ret (v := .agg #[.slice aL n cL, .slice aR n cR]) (by simp [results, Try.results8, go_sem, y0', y1']) rfl ?_
  exact ⟨aL, cL, xL, aR, cR, xR, rfl, H1.out, H2.out, ⟨OLZ.rd.mono (by omega), ORZ.rd.mono (by omega)⟩, BZ⟩
end Go.Proofs.Ytchfibmndcfpiaa
namespace Go.Proofs.Ytchfibmndcfpiaa
set_option linter.unusedVariables false
set_option linter.unusedSimpArgs false
open Go.RowKit

theorem seatG_len (ms : List Int) (k : Nat) : (seatG ms k).length = k := by simp [seatG]
theorem seatG_succ (ms : List Int) (k : Nat) : seatG ms (k + 1) = seatG ms k ++ [atF ms (1 + (k : Int)) 4] := by simp [seatG, List.range_succ]
set_option maxRecDepth 100000 in
set_option maxHeartbeats 32000000 in
theorem law_Schools (w : World) (ac am : Option Addr) (cc cm : Nat) (cs ms : List Int) (hc : Rd w w.heap.size ac (byts cs)) (hm : Rd w w.heap.size am (byts ms)) (lc : cs.length ≤ 9223372036854775807) (lm : ms.length ≤ 9223372036854775807) (bc : ∀ x ∈ cs, 0 ≤ x ∧ x ≤ 255) (bm : ∀ x ∈ ms, 0 ≤ x ∧ x ≤ 255) :
    Calls Try.prog 4 #[.slice ac cs.length cc, .slice am ms.length cm] w fun e w' => e = .returned (.bool true) ∧ Below w.heap.size w w' := by
  have LL := Lib.hid (b10Long_any w ac am cc cm cs ms lc lm)
  cases hlong : longB cs ms with
  | true =>
    rw [hlong] at LL
    clear hlong hc hm bc bm
    go_enter Try.func4, Try.ntmps4
    go_wp2_with fail
    refine LL.out.mono ?_
    rintro e w' ⟨rfl, rfl⟩
    go_wp2_with fail
    go_ret
    exact ⟨rfl, Below.refl _ _⟩
  | false =>
  rw [hlong] at LL
  have hlc : cs.length ≤ 1048576 ∧ ms.length ≤ 1048576 := by
    simp only [longB, Bool.or_eq_false_iff, decide_eq_false_iff_not] at hlong
    omega
  obtain ⟨hlc, hlm⟩ := hlc
  have LM := Lib.hid (fun (v : World) (hb : Below w.heap.size w v) (i n : Int) (hi : 0 ≤ i) (hi2 : i ≤ 1000000) => b10At_any v am cm ms i n ((hm.below hb (Nat.le_refl _)).mono hb.size) hlm bm hi hi2)
  have L0 := LM.out w (Below.refl _ _) 0 5 (by omega) (by omega)
  have e0 := atF_bd (xs := ms) (i := 0) (n := 5) (by omega)
  obtain ⟨n, hn⟩ : ∃ n : Nat, 1 + atF ms 0 5 = (n : Int) := ⟨(1 + atF ms 0 5).toNat, by omega⟩
  have hA0 : atF ms 0 5 = (n : Int) - 1 := by omega
  rw [hA0] at L0
  have L0 := Lib.hid L0
  have n1 : 1 ≤ n := by omega
  have n5 : n ≤ 5 := by omega
  have LW := Lib.hid (b10Wishes_any w ac cc cs n hc bc hlc n1 (by omega))
  have HAt : Hid (∀ k : Nat, 0 ≤ atF ms (1 + (k : Int)) 4 ∧ atF ms (1 + (k : Int)) 4 ≤ 3) := fun k => by
    have := atF_bd (xs := ms) (i := 1 + (k : Int)) (n := 4) (by omega); omega
  have en : (1 : Int) + ((n : Int) - 1) = n := by omega
  clear hlong hc hm bc bm e0 hn hA0 lc lm
  go_enter Try.func4, Try.ntmps4
  go_wp2_with fail
  refine LL.out.mono ?_
  rintro e w' ⟨rfl, rfl⟩
  go_wp2_with fail
  refine L0.out.mono ?_
  rintro e w' ⟨rfl, rfl⟩
  go_wp2_with fail
  refine LW.out.mono ?_
  rintro e w1 ⟨aL, cL, xL, aR, cR, xR, rfl, ⟨hl0, hl1⟩, ⟨hg0, hg1⟩, hrd, hb1⟩
  have HV := Lib.hid (good_wish n1 (by omega) hl0 hl1 hg0 hg1)
  have HL := Lib.hid hl0
  have HR := Lib.hid hl1
  have HGL : Hid (∀ y ∈ xL, y.length ≤ 1048576) := fun y hy => by have := (hg0 y hy).1; omega
  have HGR : Hid (∀ y ∈ xR, y.length ≤ 1048576) := fun y hy => by have := (hg1 y hy).1; omega
  clear LW LL L0
  go_upto_region 5 with fail
  obtain ⟨gw, hgw⟩ : ∃ g, g = w1.heap.size := ⟨_, rfl⟩
  obtain ⟨w2, hw2⟩ : ∃ W, W = w1.alloc (.cells #[.slice aL n cL, .slice aR n cR] 27) := ⟨_, rfl⟩
  have HBX : Hid (WBx w2 gw n aL cL xL aR cR xR) := by rw [hw2, hgw]; exact ⟨Blk.new w1 _ _, hrd.to (bl1 _ _)⟩
  have HW : Hid (Below w.heap.size w w2) := by rw [hw2]; exact below_then hb1 (bl1 _ _)
  rw [← hw2, ← hgw]
  clear hw2 hgw hrd hb1 hl0 hl1 hg0 hg1
  have ho1 : ((w2.alloc (.cells #[] 2)).alloc (.cells #[] 2)).ownsRow w2.heap.size 2 1 (.slice (some ⟨w2.heap.size, 0, none⟩) 0 0) 0 (ints []) := (own_empty w2 2).alloc _
  have ho2 : ((w2.alloc (.cells #[] 2)).alloc (.cells #[] 2)).ownsRow w2.heap.size 2 1 (.slice (some ⟨w2.heap.size + 1, 0, none⟩) 0 0) 0 (ints []) := by
    have := own_base (own_empty (w2.alloc (.cells #[] 2)) 2) (base' := w2.heap.size) (by simp)
    rwa [World.size_alloc] at this
  have hbel := bl2 w2 (.cells #[] 2) (.cells #[] 2)
  go_wp2_with fail
  go_loopw [9, 7, 8] (fun i v1 v2 wr => ∃ (k : Nat) (u1 u2 : Value), k ≤ n ∧ i = .int .i64 k ∧ v1 = u1 ∧ v2 = u2 ∧ Hid (wr.ownsRow w2.heap.size 2 1 u1 k (ints (seatG ms k)) ∧ wr.ownsRow w2.heap.size 2 1 u2 k (ints (onesL k)) ∧ Apart u1 u2) ∧ Hid (Below w2.heap.size w2 wr)) (fun i _ _ _ => n - (intOf i).toNat)
  case atStart => exact ⟨0, _, _, Nat.zero_le _, rfl, rfl, rfl, ⟨ho1, ho2, fun g h1 h2 => by simp [Value.ownBlock] at h1 h2; omega⟩, hbel⟩
  case round =>
    clear ho1 ho2 hbel
    obtain ⟨k, u1, u2, hk, rfl, rfl, rfl, ho, hw⟩ := hrel
    have k0 : (0 : Int) ≤ (k : Int) := Int.natCast_nonneg _
    by_cases hlt : k < n
    · have k1 : (k : Int) < (n : Int) := by omega
      have LM1 := Lib.hid (LM.out wr (below_then HW.out hw.out) (1 + (k : Int)) 4 (by omega) (by omega))
      have hx := HAt.out k
      have HSu := Lib.hid (seatG_succ ms k)
      generalize atF ms (1 + (k : Int)) 4 = x at *
      obtain ⟨ho1, ho2, hap⟩ := ho.out
      have hws := hw.out.size
      clear ho
      go_wp2_with fail
      refine LM1.out.mono ?_
      rintro e w' ⟨rfl, rfl⟩
      go_wp2_with (at_builtin; refine wpList_append_blk _ rfl _ _ 31 rfl w2.heap.size 2 (.int .i64 0) 8 Try.underlying31 info_i64p rfl _ k _ rfl ho1 (.int .i64 x) rfl rfl (by omega) (by omega) hws ?_)
      intro v1' w3 o1 g1 n1'
      have o2 := own_apart ho2 g1 hap
      have ap1 := apart_grow ho2 hap n1'
      have hw3 := Lib.hid (below_append hw.out ho1 g1 (Nat.le_refl _) hws)
      have ho1' : w3.ownsRow w2.heap.size 2 1 v1' (k + 1) (ints (seatG ms (k + 1))) := by rw [HSu.out, ints_append]; exact o1
      have hws3 := hw3.out.size
      clear ho1 ho2 hap g1 n1' hw o1 LM1 HSu
      go_wp2_with (at_builtin; refine wpList_append_blk _ rfl _ _ 31 rfl w2.heap.size 2 (.int .i64 0) 8 Try.underlying31 info_i64p rfl _ k _ rfl o2 (.int .i64 1) rfl rfl (by omega) (by omega) hws3 ?_)
      intro v2' w4 o2' g2 n2
      have o1' := own_apart ho1' g2 ap1.symm
      have ap2 := (apart_grow ho1' ap1.symm n2).symm
      have hw4 := Lib.hid (below_append hw3.out o2 g2 (Nat.le_refl _) hws3)
      have o3 : w4.ownsRow w2.heap.size 2 1 v2' (k + 1) (ints (onesL (k + 1))) := by
        have : ints (onesL k) ++ [Value.int .i64 1] = ints (onesL (k + 1)) := by unfold onesL; rw [List.replicate_succ', ints_append]; rfl
        rw [← this]; exact o2'
      have HO : Hid (w4.ownsRow w2.heap.size 2 1 v1' (k + 1) (ints (seatG ms (k + 1))) ∧ w4.ownsRow w2.heap.size 2 1 v2' (k + 1) (ints (onesL (k + 1))) ∧ Apart v1' v2') := ⟨o1', o3, ap2⟩
      clear o1' ho1' o2 o2' o3 ap1 ap2 g2 n2 hw3
      go_wp2_with fail
      go_roundw
      case rel => exact ⟨k + 1, v1', v2', by omega, by go_num, rfl, rfl, HO, hw4⟩
      case measure => simp [intOf]; omega
    · obtain rfl : k = n := by omega
      obtain ⟨ho1, ho2, hap⟩ := ho.out
      obtain ⟨a1, c1, rfl, _, _⟩ := own_shape ho1
      obtain ⟨a2, c2, rfl, _, _⟩ := own_shape ho2
      obtain ⟨g1, t1, rfl, -⟩ := own_open ho1 n1
      obtain ⟨g2, t2, rfl, -⟩ := own_open ho2 n1
      have R1 := Lib.hid (rd_of_own ho1 (Nat.le_refl _))
      have R2 := Lib.hid (rd_of_own ho2 (Nat.le_refl _))
      have HBX2 := Lib.hid (HBX.out.to hw.out)
      have HW2 := Lib.hid (below_then HW.out hw.out)
      have HSl := Lib.hid (seatG_len ms k)
      have HSb : Hid (seatsB ⟨xL, xR⟩ (seatG ms k) = true) := by
        unfold seatsB
        rw [Hid, HV.out, Bool.true_and, manyB_iff]
        simp only [HL.out]
        refine ⟨by rw [seatG_len]; omega, fun x hx => ?_⟩
        obtain ⟨i, _, rfl⟩ := List.mem_map.1 hx
        have := HAt.out i
        omega
      clear ho1 ho2 hap ho hlt hk
      go_upto_region 12 with fail
      exact schS2 w wr k gw cL cR aL aR xL xR g1 c1 (seatG ms k) g2 c2 HBX2 HW2 ⟨n1, n5⟩ HL HR HV HGL HGR R1 HSl HSb R2 _ (by assumption)
end Go.Proofs.Ytchfibmndcfpiaa
