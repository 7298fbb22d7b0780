/-
  ClaimsShared: both walks.
-/
import Derived.Test.YthbclfaeplmjgaaEqG
import Derived.Test.YthbclfaeplmjgaaOwnLL
namespace Go.Proofs.Ythbclfaeplmjgaa
set_option linter.unusedVariables false
set_option linter.unusedSimpArgs false
open Go.RowKit

theorem own_someS {w : World} {base e n c : Nat} {a : Option Addr} {xs : List Value} (h : w.ownsRow base e 1 (.slice a n c) n xs) (hn : 0 < n) : ∃ g, a = some ⟨g, 0, none⟩ := by
  rcases h.2 with ⟨_, h3⟩ | ⟨g, cap, cur, hv, _⟩
  · omega
  · injection hv with ha _ _; exact ⟨g, ha⟩
theorem info_intsS : (Try.prog.info? 22).map (fun i => (i.zero, i.size, i.bytes)) = some (some (.slice none 0 0), 1, 24) := by kernel_rfl
def sharedG (e : Int) (xs : List Int) : List Int := (eqGF xs e).getD []
def sharedF (many : List (List Int)) (e wk : Int) : Option (List (List Int)) :=
  if decide (many.length ≤ 16) && inB wk 1 8 && many.all (fun xs => (eqGF xs e).isSome) then some (many.map (sharedG e)) else none
/-- The answer of a function that gives lists of integers or says no. -/
def RetLL (T T2 : Nat) (w : World) (r : Option (List (List Int))) (e : Ending) (w' : World) : Prop :=
  Below w.heap.size w w' ∧ match r with
    | none => e = .returned (.tuple #[.slice none 0 0, .bool false])
    | some yss => ∃ a c, e = .returned (.tuple #[.slice a yss.length c, .bool true]) ∧ OwnLL T T2 w' w.heap.size w'.heap.size a c yss
theorem RetLL.no {T T2 : Nat} {w w' : World} (h : Below w.heap.size w w') : RetLL T T2 w none (.returned (.tuple #[.slice none 0 0, .bool false])) w' := ⟨h, rfl⟩
theorem eqGF_len {xs ys : List Int} {e : Int} (h : eqGF xs e = some ys) : ys.length = xs.length ∧ 1 ≤ xs.length ∧ xs.length ≤ 8 := by
  unfold eqGF at h
  cases hv : claimsB xs e with
  | false => rw [hv] at h; cases h
  | true =>
    rw [hv] at h
    injection h with h
    have := (claimsB_iff.1 hv).1
    subst h
    rw [gainF_length]
    simp
    omega
theorem all_take_s {xss : List (List Int)} {k : Nat} {xs : List Int} {f : List Int → Bool} (hx : xss[k]? = some xs) : (xss.take (k + 1)).all f = ((xss.take k).all f && f xs) := by
  rw [List.take_add_one, hx]; simp
theorem all_no {xss : List (List Int)} {k : Nat} {xs : List Int} {f : List Int → Bool} (hx : xss[k]? = some xs) (h : f xs = false) : xss.all f = false := by
  rw [← Bool.not_eq_true]
  intro ha
  have := List.all_eq_true.1 ha xs (List.mem_of_getElem? hx)
  rw [h] at this; cases this
theorem within_wk (n : Int) : inB n 1 8 = inB n 1 8 := rfl
set_option maxRecDepth 10000 in
set_option maxHeartbeats 4000000 in
theorem sharedR_any (w : World) (a : Option Addr) (c : Nat) (many : List (List Int)) (est wk : Int) (h : RdII w w.heap.size a many) (hl : many.length ≤ 1048576) (hin : ∀ b ∈ many, b.length ≤ 1048576) :
    Calls Try.prog 32 #[.slice a many.length c, .int .i64 est, .int .i64 wk] w (RetLL 2 22 w (sharedF many est wk)) := by
  by_cases h16 : many.length ≤ 16
  case neg =>
    have HF : Hid (sharedF many est wk = none) := by show _ = _; unfold sharedF; rw [decide_eq_false h16]; rfl
    clear h hin
    rw [HF.out]
    go_enter Try.func32, Try.ntmps32
    go_wp2_with fail
    go_ret2
    exact RetLL.no (Below.refl _ _)
  have LW := Lib.hid (l00In_any wk 1 8 w)
  cases hwk : inB wk 1 8 with
  | false =>
    have HF : Hid (sharedF many est wk = none) := by show _ = _; unfold sharedF; rw [hwk, Bool.and_false, Bool.false_and]; rfl
    rw [hwk] at LW
    rw [HF.out]
    clear h hin
    go_enter Try.func32, Try.ntmps32
    go_wp2_with fail
    refine LW.out.mono ?_
    rintro e w1 ⟨rfl, rfl⟩
    go_wp2_with fail
    go_ret2
    exact RetLL.no (Below.refl _ _)
  | true =>
    rw [hwk] at LW
    have HF : Hid (sharedF many est wk = if many.all (fun xs => (eqGF xs est).isSome) then some (many.map (sharedG est)) else none) := by
      show _ = _
      unfold sharedF
      rw [hwk, decide_eq_true h16]
      simp only [Bool.true_and]
    have LE := Lib.hid (fun (w' : World) (a' : Option Addr) (c' : Nat) (xs : List Int) (hr : Rd w' w'.heap.size a' (ints xs)) (hx : xs.length ≤ 1152921504606846976) => eqGR_any w' a' c' xs est hr hx)
    have Hin := Lib.hid hin
    clear hin hwk
    have h0 : Hid (OwnRows 2 22 (w.alloc (.cells #[] 22)) w.heap.size (w.alloc (.cells #[] 22)).heap.size (.slice (some ⟨w.heap.size, 0, none⟩) 0 0) [] []) := OwnRows.start (own_empty w 22)
    go_enter Try.func32, Try.ntmps32
    go_wp2_with fail
    refine LW.out.mono ?_
    rintro e w1 ⟨rfl, rfl⟩
    go_wp2_with fail
    go_loopw [23, 8] (fun ii uu wr => ∃ (k : Nat) (a2 : Option Addr) (c2 : Nat) (vs : List Value), k ≤ many.length ∧ ii = .int .i64 k ∧ uu = .slice a2 k c2 ∧ Hid ((many.take k).all (fun xs => (eqGF xs est).isSome) = true) ∧ Hid (OwnRows 2 22 wr w.heap.size wr.heap.size (.slice a2 k c2) vs ((many.take k).map (sharedG est))) ∧ Below w.heap.size w wr) (fun ii _ _ => many.length - (intOf ii).toNat)
    case atStart => exact ⟨0, _, 0, [], Nat.zero_le _, rfl, rfl, rfl, h0.out, bl1 w _⟩
    case round =>
      clear h0 LW
      obtain ⟨k, a2, c2, vs, hk, rfl, rfl, hall, hO, hw⟩ := hrel
      by_cases hlt : k < many.length
      · obtain ⟨b, o, xs, a', c', rfl, hbb, hcell, hc1, hr1, hy1⟩ := (h.below hw (Nat.le_refl _)).get hlt
        have hxl := Hin.out _ (List.mem_of_getElem? hy1.out)
        have L1 := Lib.hid (LE.out wr a' c' xs (hr1.mono hw.size) (by omega))
        have hsz := hw.size
        have htl : Hid (((many.take k).map (sharedG est)).length = k) := by show _ = _; simp; omega
        cases hg : eqGF xs est with
        | none =>
          have HN : Hid (sharedF many est wk = none) := by
            show _ = _
            rw [HF.out, all_no hy1.out (by rw [hg]; rfl)]; rfl
          rw [hg] at L1
          clear h hall hO hr1 hy1 hg
          go_wp2_with fail
          refine L1.out.mono ?_
          rintro e w2 ⟨hb2, rfl⟩
          have hw2 := hw.trans (hb2.mono hsz)
          go_wp2_with fail
          go_ret2
          rw [HN.out]
          exact RetLL.no hw2
        | some ys =>
          rw [hg] at L1
          obtain ⟨l1, l2, l3⟩ := eqGF_len hg
          have Hg : Hid (sharedG est xs = ys) := by show _ = _; unfold sharedG; rw [hg]; rfl
          have hall2 : Hid ((many.take (k + 1)).all (fun xs => (eqGF xs est).isSome) = true) := by show _ = _; rw [all_take_s hy1.out, hall.out, hg]; rfl
          have Hmap : Hid ((many.take (k + 1)).map (sharedG est) = (many.take k).map (sharedG est) ++ [ys]) := by
            show _ = _
            rw [List.take_add_one, hy1.out]
            simp [Hg.out]
          have Hyl : Hid (1 ≤ ys.length) := by show _ ≤ _; omega
          clear h hall hr1 hy1 hg l1
          go_wp2_with fail
          refine L1.out.mono ?_
          rintro e w2 ⟨hb2, a3, c3, rfl, o3⟩
          obtain ⟨q3, rfl⟩ := own_someS o3 (by have := Hyl.out; omega)
          have hrow : Hid (OwnI 2 w2 wr.heap.size w2.heap.size (some ⟨q3, 0, none⟩) c3 ys) := OwnI.of_own o3
          have hOo := hO.out.out
          rw [htl.out] at hOo
          have HOo := Lib.hid (own_below hOo hb2)
          have hs2 : w.heap.size ≤ w2.heap.size := by have := hb2.size; omega
          have hw2 := hw.trans (hb2.mono hsz)
          have Hb2 := Lib.hid hb2
          clear hOo o3 hb2
          go_wp2_with (at_builtin; refine wpList_append_blk _ rfl _ _ 33 rfl w.heap.size 22 (.slice none 0 0) 24 Try.underlying33 info_intsS rfl _ k vs rfl HOo.out (.slice (some ⟨q3, 0, none⟩) ys.length c3) rfl rfl (by omega) (by omega) hs2 ?_)
          intro v6 w6 o6 g6 n6
          obtain ⟨a6, c6, rfl, _, _⟩ := own_shape o6
          have HN6 : Hid (OwnRows 2 22 w6 w.heap.size w6.heap.size (.slice a6 (k + 1) c6) (vs ++ [.slice (some ⟨q3, 0, none⟩) ys.length c3]) ((many.take (k + 1)).map (sharedG est))) := by
            rw [Hmap.out]
            exact OwnRows.snoc (w := w2) hO.out Hb2.out (r0 := wr.heap.size) hsz (Nat.le_refl _) hrow.out (Nat.le_refl _) (by rw [htl.out]; exact o6) g6 n6
          have hw6 : Below w.heap.size w w6 := below_append hw2 HOo.out g6 (Nat.le_refl _) hs2
          clear o6 g6 n6 HOo hO hrow
          go_wp2_with fail
          go_roundw
          case rel => exact ⟨k + 1, a6, c6, _, by omega, by go_num, rfl, hall2, HN6, hw6⟩
          case measure => simp [intOf]; omega
      · have : k = many.length := by omega
        subst this
        have ha := hall.out
        have hOO := hO.out
        rw [List.take_length] at ha hOO
        have HR : Hid (RetLL 2 22 w (sharedF many est wk) (.returned (.tuple #[.slice a2 many.length c2, .bool true])) wr) := by
          show RetLL _ _ _ _ _ _
          rw [HF.out, ha]
          exact ⟨hw, a2, c2, by rw [List.length_map], vs, by rw [List.length_map]; exact hOO⟩
        clear h hall ha hOO hO
        go_wp2_with fail
        go_ret2
        exact HR.out
theorem areWk_any (n : Int) (w : World) : Calls Try.prog 88 #[.int .i64 n] w fun e w' => e = .returned (.bool (inB n 1 8)) ∧ w = w' := by
  have L := Lib.hid (within_any n 1 8 w)
  go_enter Try.func88, Try.ntmps88
  go_wp2_with (go_at_call 118; refine L.out.mono ?_; rintro e w' ⟨rfl, rfl⟩)
  go_ret
  exact ⟨rfl, rfl⟩
set_option maxRecDepth 10000 in
set_option maxHeartbeats 4000000 in
theorem shared_any (w : World) (a : Option Addr) (c : Nat) (many : List (List Int)) (est wk : Int) (h : RdII w w.heap.size a many) (hl : many.length ≤ 1048576) (hin : ∀ b ∈ many, b.length ≤ 1048576) :
    Calls Try.prog 34 #[.slice a many.length c, .int .i64 est, .int .i64 wk] w (RetLL 2 22 w (sharedF many est wk)) := by
  by_cases h16 : many.length ≤ 16
  case neg =>
    have HF : Hid (sharedF many est wk = none) := by show _ = _; unfold sharedF; rw [decide_eq_false h16]; rfl
    clear h hin
    rw [HF.out]
    go_enter Try.func34, Try.ntmps34
    go_wp2_with fail
    go_ret2
    exact RetLL.no (Below.refl _ _)
  have LW := Lib.hid (areWk_any wk w)
  cases hwk : inB wk 1 8 with
  | false =>
    have HF : Hid (sharedF many est wk = none) := by show _ = _; unfold sharedF; rw [hwk, Bool.and_false, Bool.false_and]; rfl
    rw [hwk] at LW
    rw [HF.out]
    clear h hin
    go_enter Try.func34, Try.ntmps34
    go_wp2_with fail
    refine LW.out.mono ?_
    rintro e w1 ⟨rfl, rfl⟩
    go_wp2_with fail
    go_ret2
    exact RetLL.no (Below.refl _ _)
  | true =>
    rw [hwk] at LW
    have HF : Hid (sharedF many est wk = if many.all (fun xs => (eqGF xs est).isSome) then some (many.map (sharedG est)) else none) := by
      show _ = _
      unfold sharedF
      rw [hwk, decide_eq_true h16]
      simp only [Bool.true_and]
    have LE := Lib.hid (fun (w' : World) (a' : Option Addr) (c' : Nat) (xs : List Int) (hr : Rd w' w'.heap.size a' (ints xs)) (hx : xs.length ≤ 1152921504606846976) => eqG_any w' a' c' xs est hr hx)
    have Hin := Lib.hid hin
    clear hin hwk
    have h0 : Hid (OwnRows 2 22 (w.alloc (.cells #[] 22)) w.heap.size (w.alloc (.cells #[] 22)).heap.size (.slice (some ⟨w.heap.size, 0, none⟩) 0 0) [] []) := OwnRows.start (own_empty w 22)
    go_enter Try.func34, Try.ntmps34
    go_wp2_with fail
    refine LW.out.mono ?_
    rintro e w1 ⟨rfl, rfl⟩
    go_wp2_with fail
    go_loopw [24, 8] (fun ii uu wr => ∃ (k : Nat) (a2 : Option Addr) (c2 : Nat) (vs : List Value), k ≤ many.length ∧ ii = .int .i64 k ∧ uu = .slice a2 k c2 ∧ Hid ((many.take k).all (fun xs => (eqGF xs est).isSome) = true) ∧ Hid (OwnRows 2 22 wr w.heap.size wr.heap.size (.slice a2 k c2) vs ((many.take k).map (sharedG est))) ∧ Below w.heap.size w wr) (fun ii _ _ => many.length - (intOf ii).toNat)
    case atStart => exact ⟨0, _, 0, [], Nat.zero_le _, rfl, rfl, rfl, h0.out, bl1 w _⟩
    case round =>
      clear h0 LW
      obtain ⟨k, a2, c2, vs, hk, rfl, rfl, hall, hO, hw⟩ := hrel
      by_cases hlt : k < many.length
      · obtain ⟨b, o, xs, a', c', rfl, hbb, hcell, hc1, hr1, hy1⟩ := (h.below hw (Nat.le_refl _)).get hlt
        have hxl := Hin.out _ (List.mem_of_getElem? hy1.out)
        have L1 := Lib.hid (LE.out wr a' c' xs (hr1.mono hw.size) (by omega))
        have hsz := hw.size
        have htl : Hid (((many.take k).map (sharedG est)).length = k) := by show _ = _; simp; omega
        cases hg : eqGF xs est with
        | none =>
          have HN : Hid (sharedF many est wk = none) := by
            show _ = _
            rw [HF.out, all_no hy1.out (by rw [hg]; rfl)]; rfl
          rw [hg] at L1
          clear h hall hO hr1 hy1 hg
          go_wp2_with fail
          refine L1.out.mono ?_
          rintro e w2 ⟨hb2, rfl⟩
          have hw2 := hw.trans (hb2.mono hsz)
          go_wp2_with fail
          go_ret2
          rw [HN.out]
          exact RetLL.no hw2
        | some ys =>
          rw [hg] at L1
          obtain ⟨l1, l2, l3⟩ := eqGF_len hg
          have Hg : Hid (sharedG est xs = ys) := by show _ = _; unfold sharedG; rw [hg]; rfl
          have hall2 : Hid ((many.take (k + 1)).all (fun xs => (eqGF xs est).isSome) = true) := by show _ = _; rw [all_take_s hy1.out, hall.out, hg]; rfl
          have Hmap : Hid ((many.take (k + 1)).map (sharedG est) = (many.take k).map (sharedG est) ++ [ys]) := by
            show _ = _
            rw [List.take_add_one, hy1.out]
            simp [Hg.out]
          have Hyl : Hid (1 ≤ ys.length) := by show _ ≤ _; omega
          clear h hall hr1 hy1 hg l1
          go_wp2_with fail
          refine L1.out.mono ?_
          rintro e w2 ⟨hb2, a3, c3, rfl, o3⟩
          obtain ⟨q3, rfl⟩ := own_someS o3 (by have := Hyl.out; omega)
          have hrow : Hid (OwnI 2 w2 wr.heap.size w2.heap.size (some ⟨q3, 0, none⟩) c3 ys) := OwnI.of_own o3
          have hOo := hO.out.out
          rw [htl.out] at hOo
          have HOo := Lib.hid (own_below hOo hb2)
          have hs2 : w.heap.size ≤ w2.heap.size := by have := hb2.size; omega
          have hw2 := hw.trans (hb2.mono hsz)
          have Hb2 := Lib.hid hb2
          clear hOo o3 hb2
          go_wp2_with (at_builtin; refine wpList_append_blk _ rfl _ _ 33 rfl w.heap.size 22 (.slice none 0 0) 24 Try.underlying33 info_intsS rfl _ k vs rfl HOo.out (.slice (some ⟨q3, 0, none⟩) ys.length c3) rfl rfl (by omega) (by omega) hs2 ?_)
          intro v6 w6 o6 g6 n6
          obtain ⟨a6, c6, rfl, _, _⟩ := own_shape o6
          have HN6 : Hid (OwnRows 2 22 w6 w.heap.size w6.heap.size (.slice a6 (k + 1) c6) (vs ++ [.slice (some ⟨q3, 0, none⟩) ys.length c3]) ((many.take (k + 1)).map (sharedG est))) := by
            rw [Hmap.out]
            exact OwnRows.snoc (w := w2) hO.out Hb2.out (r0 := wr.heap.size) hsz (Nat.le_refl _) hrow.out (Nat.le_refl _) (by rw [htl.out]; exact o6) g6 n6
          have hw6 : Below w.heap.size w w6 := below_append hw2 HOo.out g6 (Nat.le_refl _) hs2
          clear o6 g6 n6 HOo hO hrow
          go_wp2_with fail
          go_roundw
          case rel => exact ⟨k + 1, a6, c6, _, by omega, by go_num, rfl, hall2, HN6, hw6⟩
          case measure => simp [intOf]; omega
      · have : k = many.length := by omega
        subst this
        have ha := hall.out
        have hOO := hO.out
        rw [List.take_length] at ha hOO
        have HR : Hid (RetLL 2 22 w (sharedF many est wk) (.returned (.tuple #[.slice a2 many.length c2, .bool true])) wr) := by
          show RetLL _ _ _ _ _ _
          rw [HF.out, ha]
          exact ⟨hw, a2, c2, by rw [List.length_map], vs, by rw [List.length_map]; exact hOO⟩
        clear h hall ha hOO hO
        go_wp2_with fail
        go_ret2
        exact HR.out
end Go.Proofs.Ythbclfaeplmjgaa
