/-
  PairsOf and PairWinner: the reference's and the program's answers are one plain function each.
-/
import Derived.Test.YthofpfnccgfohaaPairs
namespace Go.Proofs.Ythofpfnccgfohaa
set_option linter.unusedVariables false
set_option linter.unusedSimpArgs false
open Go.RowKit

theorem pairs2_any (w : World) (a : Option Addr) (c : Nat) (yss : List (List Int)) (h : RdII w w.heap.size a yss) (hl : yss.length ≤ 1048576) (hin : ∀ b ∈ yss, b.length ≤ 1048576) :
    Calls Try.prog 8 #[.slice a yss.length c] w (RetI 2 w (pairsF yss)) := by
  unfold pairsF
  have L := Lib.hid (areBallots_any w a c yss h hl hin)
  cases hv : ballotsB yss with
  | false =>
    rw [hv] at L
    clear h hin
    simp only [Bool.false_eq_true, if_false]
    go_enter Try.func8, Try.ntmps8
    go_wp2_with fail
    refine L.out.mono ?_
    rintro e w0 ⟨rfl, hb⟩
    go_wp2_with fail
    go_ret2
    exact RetI.no hb
  | true =>
    rw [hv] at L
    have hw12 := (ballotsB_iff.1 hv).2.1.2
    have hnn : wide yss * wide yss ≤ 144 := Nat.mul_le_mul hw12 hw12
    simp only [if_true]
    have Hh := Lib.hid h
    clear h hin
    go_enter Try.func8, Try.ntmps8
    go_wp2_with fail
    refine L.out.mono ?_
    rintro e w0 ⟨rfl, hb0⟩
    have L2 := Lib.hid (pairs_any w0 a c yss (Hh.out.to hb0) hv)
    go_wp2_with fail
    refine L2.out.mono ?_
    rintro e w1 ⟨g, rfl, hg, hb, hw⟩
    have hR := RetI.blk (w := w) hb (Nat.le_trans hb0.size hg) (by rw [prF_length]; omega) (below_then hb0 hw)
    rw [prF_length] at hR
    have HR := Lib.hid hR
    clear hR
    go_wp2_with fail
    go_ret2
    exact HR.out
/-- The answer of a function that gives one integer or says no. -/
def RetN (w : World) (r : Option Int) (e : Ending) (w' : World) : Prop := Below w.heap.size w w' ∧ e = .returned (.tuple #[.int .i64 (r.getD 0), .bool r.isSome])

/-- i loses to k, or does not win, in the table of pairs. -/
def losesB (tb : List Int) (n m : Nat) (i k : Nat) : Bool := ((k : Int) != (i : Int)) && decide (2 * tb.getD (i * n + k) 0 ≤ m)
def winI (tb : List Int) (n m : Nat) : Int := findI (fun i => !anyI (losesB tb n m i) n) n
def winnerF (yss : List (List Int)) : Option Int :=
  if ballotsB yss then (if 0 ≤ winI (prF (wide yss) yss yss.length) (wide yss) yss.length then some (winI (prF (wide yss) yss yss.length) (wide yss) yss.length) else none) else none
theorem enter_winner (args : Array Value) (w : World) : (callFunc 24 args).run Try.prog w = .ok (.enter 24 args) w := by kernel_rfl
set_option maxHeartbeats 2000000 in
theorem loses_any (w : World) (b1 b2 b3 b4 g m c n i k : Nat) (ab : Option Addr) (v : Int) (hi : i < n) (hk : k < n) (hn : n ≤ 12) (hm : m ≤ 32)
    (h1 : w.cell? ⟨b1, 0, none⟩ = some (.int .i64 i)) (h2 : w.cell? ⟨b2, 0, none⟩ = some (.slice (some ⟨g, 0, none⟩) (n * n) (n * n))) (h3 : w.cell? ⟨b3, 0, none⟩ = some (.int .i64 n)) (h4 : w.cell? ⟨b4, 0, none⟩ = some (.slice ab m c))
    (hv : w.cell? ⟨g, i * n + k, none⟩ = some (.int .i64 v)) (hv0 : 0 ≤ v) (hv1 : v ≤ 1000000) :
    Calls Try.prog 24 #[.int .i64 k, .pointer (some ⟨b1, 0, none⟩), .pointer (some ⟨b2, 0, none⟩), .pointer (some ⟨b3, 0, none⟩), .pointer (some ⟨b4, 0, none⟩)] w fun e w' =>
      e = .returned (.bool (((k : Int) != (i : Int)) && decide (2 * v ≤ m))) ∧ ∃ q, w' = w.drewN q := by
  have hix := idx_lt hi hk
  have hnn : n * n ≤ 144 := Nat.mul_le_mul hn hn
  have hm1 : i * n ≤ 144 := by omega
  cases t1 : ((k : Int) != (i : Int)) with
  | false =>
    go_enter Try.func24, Try.ntmps24
    go_wp2_with fail
    go_quiet (fail)
    go_wp2
    go_ret
    exact ⟨rfl, _, rfl⟩
  | true =>
    go_enter Try.func24, Try.ntmps24
    go_wp2_with fail
    go_quiet (fail)
    go_wp2
    go_ret
    exact ⟨by simp, _, rfl⟩
set_option maxHeartbeats 4000000 in
theorem winner_any (w : World) (a : Option Addr) (c : Nat) (yss : List (List Int)) (h : RdII w w.heap.size a yss) (hl : yss.length ≤ 1048576) (hin : ∀ b ∈ yss, b.length ≤ 1048576) :
    Calls Try.prog 9 #[.slice a yss.length c] w (RetN w (winnerF yss)) := by
  unfold winnerF
  have L := Lib.hid (areBallots_any (w.alloc (.cells #[.slice a yss.length c] 25)) a c yss (h.to (bl1 w _)) hl hin)
  cases hv : ballotsB yss with
  | false =>
    rw [hv] at L
    clear h hin
    simp only [Bool.false_eq_true, if_false]
    go_enter Try.func9, Try.ntmps9
    go_wp2_with fail
    refine L.out.mono ?_
    rintro e w0 ⟨rfl, hb⟩
    have hw := below_then (bl1 w _) hb
    go_wp2_with fail
    go_ret2
    exact ⟨hw, rfl⟩
  | true =>
    rw [hv] at L
    obtain ⟨⟨hl1, hl2⟩, ⟨hw1, hw2⟩, _⟩ := ballotsB_iff.1 hv
    obtain ⟨b, o, y0, a0, c0, rfl, hbb, hcell0, hc0, hr0, hy0⟩ := h.get (k := 0) (by omega)
    rw [Nat.add_zero] at hcell0
    have hw0 := wide_of_get hy0.out
    have Hh := Lib.hid h
    have hbd := prF_bd (n := wide yss) yss yss.length hw2
    have hln := prF_length (wide yss) yss yss.length
    have L2 := Lib.hid (fun (w' : World) (hb : Below w.heap.size w w') => pairs_any w' (some ⟨b, o, none⟩) c yss (h.to hb) hv)
    simp only [if_true]
    rw [hw0] at hw1 hw2 hbd hln L2 ⊢
    have Hbd := Lib.hid hbd
    have Hln := Lib.hid hln
    generalize prF y0.length yss yss.length = tb at *
    clear h hin hr0 hw0 hbd hln
    generalize y0.length = n at *
    have hnn : n * n ≤ 144 := Nat.mul_le_mul hw2 hw2
    obtain ⟨r, hr⟩ : ∃ r, r = (if 0 ≤ winI tb n yss.length then some (winI tb n yss.length) else none) := ⟨_, rfl⟩
    rw [← hr]
    have Hr := Lib.hid hr
    clear hr
    go_enter Try.func9, Try.ntmps9
    go_wp2_with fail
    refine L.out.mono ?_
    rintro e w0 ⟨rfl, hb0⟩
    have hw0 := below_then (bl1 w _) hb0
    have f1 : Blk w0 w.heap.size [.slice (some ⟨b, o, none⟩) yss.length c] 25 := (Blk.new w _ _).same hb0
    have c1 := f1.cell 0
    have cc := hcell0
    rw [← hw0.cell (p := ⟨b, o, none⟩) hbb] at cc
    simp only [List.getElem?_cons_zero] at c1
    clear hb0
    have hlt01 := f1.lt
    go_wp2_with fail
    have f2 := Blk.new w0 [.int .i64 n] 2
    have f1' := f1.alloc (.cells #[.int .i64 n] 2)
    have hw1' := hw0.alloc hw0.size (.cells #[.int .i64 n] 2)
    refine (L2.out _ hw1').mono ?_
    rintro e w2 ⟨g, rfl, hg, hbt, hb2⟩
    have g1 := f1'.same hb2
    have g2 := f2.same hb2
    have hw2' := hw1'.trans (hb2.mono hw1'.size)
    rw [World.size_alloc] at hg
    have hlt02 := g2.lt
    have hltg := hbt.lt
    clear f1 f2 f1' hw1' hb2 c1 cc hw0 L2 L
    have d1 := g1.cell 0
    have d2 := g2.cell 0
    simp only [List.getElem?_cons_zero] at d1 d2
    go_wp2_with fail
    have e1 := g1.alloc (.cells #[.slice (some ⟨g, 0, none⟩) (n * n) (n * n)] 26)
    have e2 := g2.alloc (.cells #[.slice (some ⟨g, 0, none⟩) (n * n) (n * n)] 26)
    have e3 := Blk.new w2 [.slice (some ⟨g, 0, none⟩) (n * n) (n * n)] 26
    have e4 := hbt.alloc (.cells #[.slice (some ⟨g, 0, none⟩) (n * n) (n * n)] 26)
    have e5 := hw2'.alloc hw2'.size (.cells #[.slice (some ⟨g, 0, none⟩) (n * n) (n * n)] 26)
    clear g1 g2 hbt hw2' d1 d2
    go_loopw [17] (fun i wr => ∃ k : Nat, k ≤ n ∧ i = .int .i64 k ∧ Hid (∀ j, j < k → (!anyI (losesB tb n yss.length j) n) = false) ∧ Blk wr w.heap.size [.slice (some ⟨b, o, none⟩) yss.length c] 25 ∧ Blk wr w0.heap.size [.int .i64 n] 2 ∧
      Blk wr w2.heap.size [.slice (some ⟨g, 0, none⟩) (n * n) (n * n)] 26 ∧ Blk wr g (ints tb) 2 ∧ Below w.heap.size w wr) (fun i _ => n - (intOf i).toNat)
    case atStart => exact ⟨0, Nat.zero_le _, rfl, fun j hj => by omega, e1, e2, e3, e4, e5⟩
    case round =>
      clear e1 e2 e3 e4 e5
      obtain ⟨k, hk, rfl, ha, g1, g2, g3, hbt, hw⟩ := hrel
      have d1 := g1.cell 0
      have d2 := g2.cell 0
      have d3 := g3.cell 0
      simp only [List.getElem?_cons_zero] at d1 d2 d3
      by_cases hlt : k < n
      · have l1 := g1.lt
        have l2 := g2.lt
        have l3 := g3.lt
        have l4 := hbt.lt
        go_wp2_with fail
        refine (counting_any _ n (by omega)).mono ?_
        rintro e w3 ⟨ac, cc, rfl, hown, hb3⟩
        have k1 := (g1.alloc (.cells #[.int .i64 k] 2)).same hb3
        have k2 := (g2.alloc (.cells #[.int .i64 k] 2)).same hb3
        have k3 := (g3.alloc (.cells #[.int .i64 k] 2)).same hb3
        have k4 := (hbt.alloc (.cells #[.int .i64 k] 2)).same hb3
        have k5 := (Blk.new wr [.int .i64 k] 2).same hb3
        have hw3 := (hw.alloc hw.size (.cells #[.int .i64 k] 2)).trans (hb3.mono (by rw [World.size_alloc]; have := hw.size; omega))
        have hrd := rd_of_own hown (Nat.le_refl _)
        have LC := containsFunc_I 24 #[.pointer (some ⟨wr.heap.size, 0, none⟩), .pointer (some ⟨w2.heap.size, 0, none⟩), .pointer (some ⟨w0.heap.size, 0, none⟩), .pointer (some ⟨w.heap.size, 0, none⟩)] enter_winner w3 ac cc (ints (upto n)) (losesB tb n yss.length k) hrd (by simp [upto_length]; omega) ?_
        · rw [ints_length, upto_length] at LC
          have HL := Lib.hid LC
          clear LC hrd hown g1 g2 g3 hbt hw hb3 d1 d2 d3
          have k5c := k5.cell 0
          simp only [List.getElem?_cons_zero] at k5c
          cases t1 : anyI (losesB tb n yss.length k) n with
          | true =>
            rw [t1] at HL
            have hF : Hid (∀ j, j < k + 1 → (!anyI (losesB tb n yss.length j) n) = false) := fun j hj => by
              by_cases e : j = k
              · rw [e, t1]; rfl
              · exact ha.out j (by omega)
            go_wp2_with fail
            refine HL.out.mono ?_
            rintro e w4 ⟨rfl, hb4⟩
            have q1 := k1.same hb4
            have q2 := k2.same hb4
            have q3 := k3.same hb4
            have q4 := k4.same hb4
            have hw4 := below_then hw3 hb4
            clear hb4
            go_wp2_with fail
            go_roundw
            case rel => exact ⟨k + 1, by omega, by go_num, hF, q1, q2, q3, q4, hw4⟩
            case measure => simp [intOf]; omega
          | false =>
            rw [t1] at HL
            have hF : Hid (r = some (k : Int)) := by
              have : winI tb n yss.length = k := findI_here hlt (by rw [t1]; rfl) ha.out
              show _ = _
              rw [Hr.out, this, if_pos (by omega)]
            go_wp2_with fail
            refine HL.out.mono ?_
            rintro e w4 ⟨rfl, hb4⟩
            have q5 := (k5.same hb4).cell 0
            simp only [List.getElem?_cons_zero] at q5
            have hw4 := below_then hw3 hb4
            clear hb4
            go_wp2_with fail
            go_ret2
            refine ⟨hw4, ?_⟩
            rw [hF.out]; rfl
        · intro w4 j v hw4 hv4
          have hj : j < n := by
            have := (List.getElem?_eq_some_iff.1 hv4).1
            simpa [upto_length] using this
          have hve : v = .int .i64 j := by
            rw [ints_get _ _ (by rw [upto_length]; exact hj)] at hv4
            injection hv4 with hv4
            rw [← hv4, getD_of_get (upto_get hj)]
          subst hve
          obtain ⟨v0, v1⟩ := Hbd.out (k * n + j)
          refine (loses_any w4 wr.heap.size w2.heap.size w0.heap.size w.heap.size g yss.length c n k j (some ⟨b, o, none⟩) (tb.getD (k * n + j) 0) hlt hj hw2 hl2 ((k5.same hw4).cell 0) ((k3.same hw4).cell 0) ((k2.same hw4).cell 0) ((k1.same hw4).cell 0)
            ((k4.same hw4).at (by rw [Hln.out]; exact idx_lt hlt hj)) v0 (by omega)).mono ?_
          rintro e w5 ⟨q1, q2, q3⟩
          exact ⟨q1, by rw [q3]; exact drewN_below _ _⟩
      · have : k = n := by omega
        subst this
        have hF : Hid (r = none) := by
          have : winI tb k yss.length = -1 := findI_none ha.out
          show _ = _
          rw [Hr.out, this]; rfl
        go_wp2
        go_ret2
        refine ⟨hw, ?_⟩
        rw [hF.out]; rfl
end Go.Proofs.Ythofpfnccgfohaa
