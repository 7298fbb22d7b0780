/-
  The program's ReadDecimal.
-/
import Derived.Test.YtiimhpopcgiejaaDoorNumP
import Derived.Test.YtiimhpopcgiejaaDoorNames
import Derived.Shelf.Strconv.ParseIntPublic10
namespace Go.Proofs.YtiimhpopcgiejaaDoor
set_option linter.unusedVariables false
set_option linter.unusedSimpArgs false
open Go.RowKit

/-- The library's two errors are there. -/
def Errs (w : World) : Prop := (∃ ev : Value, w.cell? ⟨6, 0, none⟩ = some ev ∧ (ev = .nilIface ∨ ∃ te pe, ev = .iface te pe)) ∧ (∃ ev : Value, w.cell? ⟨7, 0, none⟩ = some ev ∧ (ev = .nilIface ∨ ∃ te pe, ev = .iface te pe))
theorem Errs.to {w w' : World} (h : Errs w) (hb : Below w.heap.size w w') : Errs w' := by
  obtain ⟨⟨a, ha, ha2⟩, ⟨b, hb1, hb2⟩⟩ := h
  exact ⟨⟨a, (hb.cell (p := ⟨6, 0, none⟩) (World.block_lt_of_cell? w _ ha)).trans ha, ha2⟩, ⟨b, (hb.cell (p := ⟨7, 0, none⟩) (World.block_lt_of_cell? w _ hb1)).trans hb1, hb2⟩⟩
theorem parse64_any (w : World) (h : Errs w) (s : ByteArray) (hs : s.size ≤ 1048576) :
    Calls Tryd.prog 108 #[.string s, .int .i64 10, .int .i64 64] w fun e w' =>
      (∃ v, Lib.parseIntB 64 s.data.toList = .ok v ∧ e = .returned (.tuple #[.int .i64 v, .nilIface]) ∧ Below w.heap.size w w') ∨
      ((∀ v, Lib.parseIntB 64 s.data.toList ≠ .ok v) ∧ ∃ n t p, e = .returned (.tuple #[.int .i64 n, .iface t p]) ∧ Below w.heap.size w w') := by
  obtain ⟨⟨a, ha, ha2⟩, ⟨b, hb1, hb2⟩⟩ := h
  cases hp : Lib.parseIntB 64 s.data.toList with
  | ok v =>
    refine (Any.strconv_ParseInt_10_at64_ok Tryd.laysC174 s (by omega) v hp w).mono ?_
    rintro e w' ⟨rfl, rfl | ⟨t, rfl⟩⟩
    · exact .inl ⟨v, rfl, rfl, Below.refl _ _⟩
    · exact .inl ⟨v, rfl, rfl, Lib.bytesWorld_below _ _ _⟩
  | range =>
    refine (Any.strconv_ParseInt_10_at64_range Tryd.laysC174 s (by omega) hp b w hb1 hb2).mono ?_
    rintro e w' ⟨N, rfl, _, _, hb⟩
    exact .inr ⟨(fun v hv => by cases hv), _, _, _, rfl, hb⟩
  | _ =>
    refine (Any.strconv_ParseInt_10_at64_syntax Tryd.laysC174 s (by omega) hp a w ha ha2).mono ?_
    rintro e w' ⟨N, rfl, _, _, hb⟩
    exact .inr ⟨(fun v hv => by cases hv), _, _, _, rfl, hb⟩
theorem isValue_any (n : Int) (w : World) :
    Calls Tryd.prog 109 #[.int .i64 n] w fun e w' => e = .returned (.bool (inB n (-1000000000000000) 1000000000000000)) ∧ w = w' := by
  have L := Lib.hid (within_any n (-1000000000000000) 1000000000000000 w)
  generalize inB n (-1000000000000000) 1000000000000000 = b at *
  go_enter Tryd.func109, Tryd.ntmps109
  go_wp2_with fail
  refine L.out.mono ?_
  rintro e w' ⟨rfl, rfl⟩
  go_wp2_with fail
  go_ret
  exact ⟨rfl, rfl⟩
set_option maxRecDepth 200000 in
set_option maxHeartbeats 4000000 in
theorem readDec_any (w : World) (hT : Tab w) (hE : Errs w) (s : ByteArray) (hs : s.size ≤ 1048576) :
    Calls Tryd.prog 97 #[.string s] w fun e w' => e = .returned (.tuple #[.int .i64 ((valF s.data.toList).getD 0), .bool (valF s.data.toList).isSome]) ∧ Below w.heap.size w w' := by
  have LP := Lib.hid (parse64_any w hE s hs)
  have LD := Lib.hid (fun v (hv : Tab v) n h0 h1 => decimal_any v hv n h0 h1)
  have LV := Lib.hid isValue_any
  have HT := Lib.hid hT
  clear hT hE
  go_enter Tryd.func97, Tryd.ntmps97
  go_wp2_with fail
  refine LP.out.mono ?_
  clear LP
  rintro e w1 (⟨v, hp, rfl, hb⟩ | ⟨hp, n, t, p, rfl, hb⟩)
  · have HB := Lib.hid hb
    have hbd := Lib.parseIntB_bounds hp
    have b0 : -9223372036854775808 ≤ v := by have := hbd.1; simpa using this
    have b1 : v ≤ 9223372036854775807 := by have := hbd.2; simp at this; omega
    cases hin : inB v (-1000000000000000) 1000000000000000 with
    | false =>
      have HV : Hid (valF s.data.toList = none) := valF_no fun m h0 h1 he => by
        rw [← he, parse_itoa h0 h1] at hp
        injection hp with hp
        subst hp
        have h9 := (inB_iff (n := m) (lo := -1000000000000000) (hi := 1000000000000000)).2 ⟨h0, h1⟩
        rw [h9] at hin
        cases hin
      have LV1 := Lib.hid (LV.out v w1)
      rw [hin] at LV1
      clear hp hbd hin hb
      go_wp2_with fail
      refine LV1.out.mono ?_
      rintro e w' ⟨rfl, rfl⟩
      go_wp2_with fail
      go_ret2
      rw [HV.out]
      exact ⟨rfl, HB.out⟩
    | true =>
      obtain ⟨i0, i1⟩ := inB_iff.1 hin
      have LV1 := Lib.hid (LV.out v w1)
      rw [hin] at LV1
      have LD1 := Lib.hid (LD.out w1 (HT.out.to hb) v b0 b1)
      by_cases he : Lib.itoa v = s.data.toList
      · have HV : Hid (valF s.data.toList = some v) := valF_yes he i0 i1
        have hS : bs (Lib.itoa v) = s := by rw [he, bs_of]
        rw [hS] at LD1
        clear hp hbd hin hb hS he
        go_wp2_with fail
        refine LV1.out.mono ?_
        rintro e w' ⟨rfl, rfl⟩
        go_wp2_with fail
        refine LD1.out.mono ?_
        rintro e w2 ⟨rfl, hb2⟩
        go_wp2_with fail
        go_ret2
        rw [HV.out]
        exact ⟨rfl, below_then HB.out hb2⟩
      · have HV : Hid (valF s.data.toList = none) := valF_no fun m h0 h1 hm => by
          rw [← hm, parse_itoa h0 h1] at hp
          injection hp with hp
          subst hp
          exact he hm
        have hbl : ((bs (Lib.itoa v)).toList == s.toList) = false := by rw [bs_toList, Lib.toList_data, Bool.eq_false_iff]; intro h; exact he (eq_of_beq h)
        generalize bs (Lib.itoa v) = D at *
        clear hp hbd hin hb he
        go_wp2_with fail
        refine LV1.out.mono ?_
        rintro e w' ⟨rfl, rfl⟩
        go_wp2_with fail
        refine LD1.out.mono ?_
        rintro e w2 ⟨rfl, hb2⟩
        go_wp2_with fail
        go_ret2
        rw [HV.out]
        exact ⟨rfl, below_then HB.out hb2⟩
  · have HV : Hid (valF s.data.toList = none) := valF_no fun m h0 h1 he => hp m (by rw [← he]; exact parse_itoa h0 h1)
    have HB := Lib.hid hb
    clear hp hb
    go_wp2_with fail
    go_ret2
    rw [HV.out]
    exact ⟨rfl, HB.out⟩
end Go.Proofs.YtiimhpopcgiejaaDoor
