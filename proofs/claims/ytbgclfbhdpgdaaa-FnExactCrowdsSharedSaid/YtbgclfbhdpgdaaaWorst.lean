/-
  LeastTotal and WorstRest of the program.
-/
import Derived.Test.YtbgclfbhdpgdaaaLeast1
namespace Go.Proofs.Ytbgclfbhdpgdaaa
set_option linter.unusedVariables false
set_option linter.unusedSimpArgs false
open Go.RowKit

theorem leastF_no {c : Cr} (h : validB c = false) : leastF c = none := by simp [leastF, h]
theorem worstF_no {c : Cr} (h : validB c = false) : worstF c = none := by simp [worstF, h]
theorem leastF_few {c : Cr} (h : fewB c = false) : leastF c = none := by simp [leastF, h]
theorem worstF_few {c : Cr} (h : fewB c = false) : worstF c = none := by simp [worstF, h]
theorem leastF_yes {c : Cr} (h : validB c = true) (h2 : fewB c = true) : leastF c = foldC c.ways.length c.U.toNat (leastStep c) (c.ways.length ^ c.U.toNat) := by simp [leastF, h, h2]
theorem worstF_yes {c : Cr} (h : validB c = true) (h2 : fewB c = true) : worstF c = foldC c.ways.length c.U.toNat (worstStep c) (c.ways.length ^ c.U.toNat) := by simp [worstF, h, h2]
theorem least_some' {c : Cr} (h : Valid c) : (foldC c.ways.length c.U.toNat (leastStep c) (c.ways.length ^ c.U.toNat)).isSome := by
  obtain ⟨t, ht⟩ : ∃ t, c.ways.length ^ c.U.toNat = t + 1 := ⟨c.ways.length ^ c.U.toNat - 1, by have := zero_lt h; omega⟩
  rw [ht]
  exact least_some
theorem ES.ret {W : World} {base : Nat} {cs : List Value} {l : List Int} {m : Int} {w : World} (h : ES W base cs (some (l, m)) w) (hb : W.heap.size ≤ base) :
    ∃ g c, w.cell? ⟨W.heap.size + 1, 0, none⟩ = some (.slice (some ⟨g, 0, none⟩) l.length c) ∧ w.cell? ⟨W.heap.size + 2, 0, none⟩ = some (.int .i64 m) ∧ RetT 2 W (some (l, m)) (.returned (.tuple #[.slice (some ⟨g, 0, none⟩) l.length c, .int .i64 m, .bool true])) w := by
  obtain ⟨v, hv, h0, a, c, rfl, ho⟩ := h.be
  obtain ⟨g, rfl⟩ := own_some' ho h0
  exact ⟨g, c, hv.cell 0, h.mo.cell 0, h.bel, _, _, rfl, own_base ho (by omega)⟩
theorem nat_of_valid {U R : Int} {x2 x3 : List Int} (hv : Valid ⟨U, R, x2, x3⟩) : ∃ N n : Nat, U = N ∧ R = n := ⟨U.toNat, R.toNat, by have := hv.u1; simp only at this; omega, by have := hv.r1; simp only at this; omega⟩
theorem ES.start {w w1 : World} {cs : List Value} (hb : Below (((w.alloc (.cells cs.toArray 28)).alloc (.cells #[.slice none 0 0] 22)).alloc (.cells #[.int .i64 0] 2)).heap.size (((w.alloc (.cells cs.toArray 28)).alloc (.cells #[.slice none 0 0] 22)).alloc (.cells #[.int .i64 0] 2)) w1) :
    ES w w1.heap.size cs none w1 ∧ w.heap.size + 3 ≤ w1.heap.size := by
  have k0 := (((Blk.new w cs 28).alloc (.cells #[.slice none 0 0] 22)).alloc (.cells #[.int .i64 0] 2)).same hb
  have k1 := ((Blk.new (w.alloc (.cells cs.toArray 28)) [.slice none 0 0] 22).alloc (.cells #[.int .i64 0] 2)).same hb
  have k2 := (Blk.new ((w.alloc (.cells cs.toArray 28)).alloc (.cells #[.slice none 0 0] 22)) [.int .i64 0] 2).same hb
  simp at k1 k2
  refine ⟨⟨k0, ⟨_, k1, rfl⟩, k2, below_then (bl3 _ _ _ _) hb⟩, ?_⟩
  have := hb.size
  simp at this
  omega
set_option maxRecDepth 10000 in
set_option maxHeartbeats 8000000 in
theorem least_any (w : World) (U R : Int) (a2 : Option Addr) (c2 : Nat) (x2 : List Int) (a3 : Option Addr) (c3 : Nat) (x3 : List Int) (h : RdCrowd w w.heap.size a2 x2 a3 x3) (hl2 : x2.length ≤ 1048576) (hl3 : x3.length ≤ 1048576) :
    Calls Try.prog 44 #[.agg #[.int .i64 U, .int .i64 R, .slice a2 x2.length c2, .slice a3 x3.length c3]] w (RetT 2 w (leastF ⟨U, R, x2, x3⟩)) := by
  have LV := Lib.hid (fun w' hb => validCrowd_any w' U R a2 c2 x2 a3 c3 x3 (h.to hb) hl2 hl3)
  have hen := fun (w : World) (a : Option Addr) (n c : Nat) => Lib.run_eql_slice_nil (P := Try.prog) w 22 2 a n c 0 0 Try.underlying22
  cases t1 : validB ⟨U, R, x2, x3⟩ with
  | false =>
    rw [leastF_no t1]
    rw [t1] at LV
    clear h t1
    go_enter Try.func44, Try.ntmps44
    go_wp2_with fail
    refine (LV.out _ (bl3 _ _ _ _)).mono ?_
    rintro e w1 ⟨rfl, hb1⟩
    have B1 := below_then (bl3 w _ _ _) hb1
    clear hb1
    go_wp2_with fail
    go_ret3
    exact RetT.no B1
  | true =>
    rw [t1] at LV
    have hv := valid_of t1
    obtain ⟨N, n, rfl, rfl⟩ := nat_of_valid hv
    have LP : Hid (∀ w1 : World, ES w w1.heap.size [.int .i64 N, .int .i64 n, .slice a2 x2.length c2, .slice a3 x3.length c3] none w1 ∧ w.heap.size + 3 ≤ w1.heap.size →
        Calls Try.prog 60 #[.agg #[.int .i64 N, .int .i64 n, .slice a2 x2.length c2, .slice a3 x3.length c3], .func (.func 76) #[] #[.pointer (some ⟨w.heap.size, 0, none⟩), .pointer (some ⟨w.heap.size + 1, 0, none⟩), .pointer (some ⟨w.heap.size + 2, 0, none⟩)]] w1
          fun e w' => e = .returned (.bool (fewB ⟨N, n, x2, x3⟩)) ∧ ES w w1.heap.size [.int .i64 N, .int .i64 n, .slice a2 x2.length c2, .slice a3 x3.length c3] (foldC x2.length N (leastStep ⟨N, n, x2, x3⟩) (fewN (fewB ⟨N, n, x2, x3⟩) (x2.length ^ N))) w') := fun w1 hs => by
      refine choices_any (fun t w' => ES w w1.heap.size [.int .i64 N, .int .i64 n, .slice a2 x2.length c2, .slice a3 x3.length c3] (foldC x2.length N (leastStep ⟨N, n, x2, x3⟩) t) w') _ _ enter_least w1 N n a2 c2 x2 a3 c3 x3 hv ?_ ?_ hs.1
      · intro t v1 v2 k hg
        exact k.frame hg hs.2
      · intro t v1 c k ht hsz g
        have hch : (chAt x2.length N t).length = N := chAt_len _ _ _
        have := least1_any w w1.heap.size N n a2 c2 x2 a3 c3 x3 h hs.2 (foldC x2.length N (leastStep ⟨N, n, x2, x3⟩) t) (chAt x2.length N t) v1 c k hsz (can_chAt hv ht) g
        rw [hch] at this
        exact this
    cases hf : fewB ⟨N, n, x2, x3⟩ with
    | false =>
      rw [leastF_few hf]
      rw [hf] at LP
      clear h t1 hv hf
      go_enter Try.func44, Try.ntmps44
      go_wp2_with fail
      refine (LV.out _ (bl3 _ _ _ _)).mono ?_
      rintro e w1 ⟨rfl, hb1⟩
      have HS := Lib.hid (ES.start (cs := [.int .i64 N, .int .i64 n, .slice a2 x2.length c2, .slice a3 x3.length c3]) hb1)
      have q0 := HS.out.1.cr.cell 0
      have q1 := HS.out.1.cr.cell 1
      have q2 := HS.out.1.cr.cell 2
      have q3 := HS.out.1.cr.cell 3
      simp only [List.getElem?_cons_zero, List.getElem?_cons_succ] at q0 q1 q2 q3
      clear hb1 LV
      go_wp2_with fail
      first | go_outline | skip
      refine (LP.out _ HS.out).mono ?_
      rintro e w2 ⟨rfl, hQ⟩
      have B2 := hQ.bel
      clear hQ q0 q1 q2 q3
      go_wp2_with fail
      go_ret3
      exact RetT.no B2
    | true =>
      rw [leastF_yes t1 hf]
      rw [hf] at LP
      have hsome := least_some' hv
      simp only [Int.toNat_natCast] at hsome
      rw [fewN_yes] at LP
      simp only [Int.toNat_natCast]
      generalize foldC x2.length N (leastStep ⟨(N : Int), (n : Int), x2, x3⟩) (x2.length ^ N) = r at *
      cases r with
      | none => cases hsome
      | some p =>
      obtain ⟨l, m⟩ := p
      clear h t1 hv hf hsome
      go_enter Try.func44, Try.ntmps44
      go_wp2_with fail
      refine (LV.out _ (bl3 _ _ _ _)).mono ?_
      rintro e w1 ⟨rfl, hb1⟩
      have HS := Lib.hid (ES.start (cs := [.int .i64 N, .int .i64 n, .slice a2 x2.length c2, .slice a3 x3.length c3]) hb1)
      have q0 := HS.out.1.cr.cell 0
      have q1 := HS.out.1.cr.cell 1
      have q2 := HS.out.1.cr.cell 2
      have q3 := HS.out.1.cr.cell 3
      simp only [List.getElem?_cons_zero, List.getElem?_cons_succ] at q0 q1 q2 q3
      clear hb1 LV
      go_wp2_with fail
      first | go_outline | skip
      refine (LP.out _ HS.out).mono ?_
      rintro e w2 ⟨rfl, hQ⟩
      obtain ⟨g, c, e1, e2, hR⟩ := hQ.ret (by have := HS.out.2; omega)
      have HR := Lib.hid hR
      clear hQ q0 q1 q2 q3 hR
      go_wp2_with fail
      go_quiet (fail)
      go_wp2_with fail
      go_ret3
      exact ⟨below_drewN HR.out.1 _, HR.out.2⟩
set_option maxRecDepth 10000 in
set_option maxHeartbeats 8000000 in
theorem worst_any (w : World) (U R : Int) (a2 : Option Addr) (c2 : Nat) (x2 : List Int) (a3 : Option Addr) (c3 : Nat) (x3 : List Int) (h : RdCrowd w w.heap.size a2 x2 a3 x3) (hl2 : x2.length ≤ 1048576) (hl3 : x3.length ≤ 1048576) :
    Calls Try.prog 25 #[.agg #[.int .i64 U, .int .i64 R, .slice a2 x2.length c2, .slice a3 x3.length c3]] w (RetT 2 w (worstF ⟨U, R, x2, x3⟩)) := by
  have LV := Lib.hid (fun w' hb => validCrowd_any w' U R a2 c2 x2 a3 c3 x3 (h.to hb) hl2 hl3)
  have hen := fun (w : World) (a : Option Addr) (n c : Nat) => Lib.run_eql_slice_nil (P := Try.prog) w 22 2 a n c 0 0 Try.underlying22
  cases t1 : validB ⟨U, R, x2, x3⟩ with
  | false =>
    rw [worstF_no t1]
    rw [t1] at LV
    clear h t1
    go_enter Try.func25, Try.ntmps25
    go_wp2_with fail
    refine (LV.out _ (bl3 _ _ _ _)).mono ?_
    rintro e w1 ⟨rfl, hb1⟩
    have B1 := below_then (bl3 w _ _ _) hb1
    clear hb1
    go_wp2_with fail
    go_ret3
    exact RetT.no B1
  | true =>
    rw [t1] at LV
    have hv := valid_of t1
    obtain ⟨N, n, rfl, rfl⟩ := nat_of_valid hv
    have LP : Hid (∀ w1 : World, ES w w1.heap.size [.int .i64 N, .int .i64 n, .slice a2 x2.length c2, .slice a3 x3.length c3] none w1 ∧ w.heap.size + 3 ≤ w1.heap.size →
        Calls Try.prog 60 #[.agg #[.int .i64 N, .int .i64 n, .slice a2 x2.length c2, .slice a3 x3.length c3], .func (.func 61) #[] #[.pointer (some ⟨w.heap.size, 0, none⟩), .pointer (some ⟨w.heap.size + 1, 0, none⟩), .pointer (some ⟨w.heap.size + 2, 0, none⟩)]] w1
          fun e w' => e = .returned (.bool (fewB ⟨N, n, x2, x3⟩)) ∧ ES w w1.heap.size [.int .i64 N, .int .i64 n, .slice a2 x2.length c2, .slice a3 x3.length c3] (foldC x2.length N (worstStep ⟨N, n, x2, x3⟩) (fewN (fewB ⟨N, n, x2, x3⟩) (x2.length ^ N))) w') := fun w1 hs => by
      refine choices_any (fun t w' => ES w w1.heap.size [.int .i64 N, .int .i64 n, .slice a2 x2.length c2, .slice a3 x3.length c3] (foldC x2.length N (worstStep ⟨N, n, x2, x3⟩) t) w') _ _ enter_worst w1 N n a2 c2 x2 a3 c3 x3 hv ?_ ?_ hs.1
      · intro t v1 v2 k hg
        exact k.frame hg hs.2
      · intro t v1 c k ht hsz g
        have hch : (chAt x2.length N t).length = N := chAt_len _ _ _
        have := worst1_any w w1.heap.size N n a2 c2 x2 a3 c3 x3 h hs.2 (foldC x2.length N (worstStep ⟨N, n, x2, x3⟩) t) (chAt x2.length N t) v1 c k hsz (can_chAt hv ht) g
        rw [hch] at this
        exact this
    cases hf : fewB ⟨N, n, x2, x3⟩ with
    | false =>
      rw [worstF_few hf]
      rw [hf] at LP
      clear h t1 hv hf
      go_enter Try.func25, Try.ntmps25
      go_wp2_with fail
      refine (LV.out _ (bl3 _ _ _ _)).mono ?_
      rintro e w1 ⟨rfl, hb1⟩
      have HS := Lib.hid (ES.start (cs := [.int .i64 N, .int .i64 n, .slice a2 x2.length c2, .slice a3 x3.length c3]) hb1)
      have q0 := HS.out.1.cr.cell 0
      have q1 := HS.out.1.cr.cell 1
      have q2 := HS.out.1.cr.cell 2
      have q3 := HS.out.1.cr.cell 3
      simp only [List.getElem?_cons_zero, List.getElem?_cons_succ] at q0 q1 q2 q3
      clear hb1 LV
      go_wp2_with fail
      first | go_outline | skip
      refine (LP.out _ HS.out).mono ?_
      rintro e w2 ⟨rfl, hQ⟩
      have B2 := hQ.bel
      clear hQ q0 q1 q2 q3
      go_wp2_with fail
      go_ret3
      exact RetT.no B2
    | true =>
      rw [worstF_yes t1 hf]
      rw [hf] at LP
      have hsome := worst_some hv
      simp only [Int.toNat_natCast] at hsome
      rw [fewN_yes] at LP
      simp only [Int.toNat_natCast]
      generalize foldC x2.length N (worstStep ⟨(N : Int), (n : Int), x2, x3⟩) (x2.length ^ N) = r at *
      cases r with
      | none => cases hsome
      | some p =>
      obtain ⟨l, m⟩ := p
      clear h t1 hv hf hsome
      go_enter Try.func25, Try.ntmps25
      go_wp2_with fail
      refine (LV.out _ (bl3 _ _ _ _)).mono ?_
      rintro e w1 ⟨rfl, hb1⟩
      have HS := Lib.hid (ES.start (cs := [.int .i64 N, .int .i64 n, .slice a2 x2.length c2, .slice a3 x3.length c3]) hb1)
      have q0 := HS.out.1.cr.cell 0
      have q1 := HS.out.1.cr.cell 1
      have q2 := HS.out.1.cr.cell 2
      have q3 := HS.out.1.cr.cell 3
      simp only [List.getElem?_cons_zero, List.getElem?_cons_succ] at q0 q1 q2 q3
      clear hb1 LV
      go_wp2_with fail
      first | go_outline | skip
      refine (LP.out _ HS.out).mono ?_
      rintro e w2 ⟨rfl, hQ⟩
      obtain ⟨g, c, e1, e2, hR⟩ := hQ.ret (by have := HS.out.2; omega)
      have HR := Lib.hid hR
      clear hQ q0 q1 q2 q3 hR
      go_wp2_with fail
      go_quiet (fail)
      go_wp2_with fail
      go_ret3
      exact ⟨below_drewN HR.out.1 _, HR.out.2⟩
end Go.Proofs.Ytbgclfbhdpgdaaa
