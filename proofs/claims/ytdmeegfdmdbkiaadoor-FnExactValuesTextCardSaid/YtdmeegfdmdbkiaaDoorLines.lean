/-
  Lines of a text; how many are errors: both roads.
-/
import Derived.Test.YtdmeegfdmdbkiaaDoorCut
import Derived.Test.YtdmeegfdmdbkiaaDoorShelf
import Derived.Test.YtdmeegfdmdbkiaaDoorLater
namespace Go.Proofs.YtdmeegfdmdbkiaaDoor
set_option linter.unusedVariables false
set_option linter.unusedSimpArgs false
open Go.RowKit

def linesL (l : List UInt8) : List (List UInt8) := (cutN 10 l l.length).1
def restL (l : List UInt8) : List UInt8 := l.drop (cutN 10 l l.length).2
theorem cut_lines (l : List UInt8) : cutL 10 l = linesL l ++ [restL l] := cutN_all 10 l
theorem linesL_len (l : List UInt8) : (linesL l).length ≤ l.length := cutN_len 10 l l.length
def isBad (x : List UInt8) : Bool := decide (x = [110, 111]) || decide (x = [119, 104, 97, 116])
def badN (xs : List (List UInt8)) (k : Nat) : Nat := ((xs.take k).filter isBad).length
theorem badN_succ {xs : List (List UInt8)} {k : Nat} {x : List UInt8} (h : xs[k]? = some x) : badN xs (k + 1) = badN xs k + if isBad x then 1 else 0 := by
  unfold badN
  rw [List.take_add_one, h, List.filter_append, List.length_append]
  cases hb : isBad x <;> simp [hb]
theorem badN_le (xs : List (List UInt8)) (k : Nat) : badN xs k ≤ k := Nat.le_trans (List.length_filter_le _ _) (by simp; omega)
theorem strs_at {xs : List (List UInt8)} {k : Nat} {v : Value} (h : (strs xs)[k]? = some v) : ∃ l, xs[k]? = some l ∧ v = .string (bs l) := by
  unfold strs at h
  rw [List.getElem?_map] at h
  cases hx : xs[k]? with
  | none => rw [hx] at h; cases h
  | some l => rw [hx] at h; injection h with h; exact ⟨l, rfl, h.symm⟩
theorem maxLen_cell (W : World) (h : W.ShapedOpen Tryd.prog) : ∃ m, W.cell? ⟨0, 0, none⟩ = some (.int .i64 m) := Tryd.laysM146.s1_3 W h
/-- The library's bound is there. -/
def Shp (w : World) : Prop := ∃ m, w.cell? ⟨0, 0, none⟩ = some (.int .i64 m)
theorem Shp.lt {w : World} (h : Shp w) : 0 < w.heap.size := by obtain ⟨m, hm⟩ := h; exact World.block_lt_of_cell? w _ hm
theorem Shp.to {w w' : World} (h : Shp w) (hb : Below w.heap.size w w') : Shp w' := by
  have hl := h.lt
  obtain ⟨m, hm⟩ := h
  exact ⟨m, (hb.cell (p := ⟨0, 0, none⟩) hl).trans hm⟩
theorem split_any (w : World) (h : Shp w) (s : ByteArray) (hs : s.size ≤ 1048576) (c : UInt8) (sep : ByteArray) (hc : sep.data.toList = [c]) :
    Calls Tryd.prog 82 #[.string s, .string sep] w fun e w' => e = .returned (.slice (some ⟨w.heap.size, 0, none⟩) (cutL c s.data.toList).length (cutL c s.data.toList).length) ∧ Blk w' w.heap.size (strs (cutL c s.data.toList)) 9 ∧ Below w.heap.size w w' := by
  obtain ⟨m, hm⟩ := h
  refine (Tryd.strings_Split s sep m w (by omega) hm (by rw [Lib.size_eq, hc]; exact Nat.le_refl _)).mono ?_
  rintro e w' ⟨rfl, rfl⟩
  rw [countB_cut hc, splitB_strs hc]
  exact ⟨rfl, Blk.new w _ _, bl1 _ _⟩
def countF (l : List UInt8) : Option (Int × Int) := if decide (l.length ≤ 16000) && decide (restL l = []) then some ((badN (linesL l) (linesL l).length : Int), ((linesL l).length : Int) - (badN (linesL l) (linesL l).length : Int)) else none
theorem countF_no {l : List UInt8} (h : (decide (l.length ≤ 16000) && decide (restL l = [])) = false) : countF l = none := by unfold countF; rw [h]; rfl
theorem countF_yes {l : List UInt8} (h : (decide (l.length ≤ 16000) && decide (restL l = [])) = true) : countF l = some ((badN (linesL l) (linesL l).length : Int), ((linesL l).length : Int) - (badN (linesL l) (linesL l).length : Int)) := by unfold countF; rw [h]; rfl
/-- Lines that lie somewhere, and whether they are lines. -/
def RetLn (w : World) (ls : List (List UInt8)) (ok : Bool) (e : Ending) (w' : World) : Prop := ∃ a c, e = .returned (.tuple #[.slice a ls.length c, .bool ok]) ∧ Rd w' w'.heap.size a (strs ls) ∧ Below w.heap.size w w'
set_option maxRecDepth 10000 in
set_option maxHeartbeats 4000000 in
theorem linesOf_any (w : World) (h : Shp w) (s : ByteArray) (hs : s.size ≤ 1048576) :
    Calls Tryd.prog 51 #[.string s] w (RetLn w (linesL s.data.toList) (decide (s.data.toList.length ≤ 16000) && decide (restL s.data.toList = []))) := by
  have LS := Lib.hid (split_any w h s hs 10 ⟨#[10]⟩ rfl)
  rw [cut_lines] at LS
  obtain ⟨l, hl⟩ : ∃ l, l = s.data.toList := ⟨_, rfl⟩
  have hsz : s.size = l.length := by rw [hl]; exact Lib.size_eq s
  rw [← hl] at LS ⊢
  have hlen := linesL_len l
  generalize linesL l = ls at *
  generalize restL l = rs at *
  rw [List.length_append, List.length_singleton] at LS
  rw [hsz] at hs
  have Hsz := Lib.hid hsz
  clear hsz hl h
  go_enter Tryd.func51, Tryd.ntmps51
  go_wp2_with fail
  refine LS.out.mono ?_
  rintro e w1 ⟨rfl, hb, hw⟩
  have F : ∀ z : Later w1, z.w'.cell? ⟨w.heap.size, ls.length, none⟩ = some (.string (bs rs)) := fun z => z.cell hb.lt (by rw [hb.cell, strs_append]; simp [strs])
  have n0 : (0 : Int) ≤ (ls.length : Int) := Int.natCast_nonneg _
  have hE := bs_empty rs
  have HRD : Hid (∀ z : Later w1, Rd z.w' z.w'.heap.size (some ⟨w.heap.size, 0, none⟩) (strs ls)) := fun z => by
    have hsz := z.h.size
    refine .inr ⟨w.heap.size, 0, rfl, Nat.lt_of_lt_of_le hb.lt hsz, fun j hj => ?_⟩
    rw [Nat.zero_add, (z.h.cell (p := ⟨w.heap.size, j, none⟩) hb.lt), hb.cell, strs_append, List.getElem?_append_left hj]
  have HW := Lib.hid hw
  by_cases hle : (s.size : Int) ≤ 16000
  · have HB : Hid ((decide (l.length ≤ 16000) && decide (rs = [])) = decide (rs = [])) := by
      rw [Hid, decide_eq_true (by have := Hsz.out; omega), Bool.true_and]
    generalize decide (rs = []) = r at *
    clear hb
    go_wp2_with fail
    refine wp_region_later (by kernel_rfl) (by kernel_rfl) ?_
    repeat (go_big_quiet_step (fail))
    refine wpQuiet_nil ?_
    rintro wq ⟨⟨_, hbq⟩, rfl⟩
    have HR := Lib.hid (HRD.out ⟨wq, hbq⟩)
    clear F hE HRD hw
    go_wp2_with fail
    go_ret2
    rw [HB.out]
    exact ⟨_, _, rfl, HR.out, below_then HW.out hbq⟩
  · have HB : Hid ((decide (l.length ≤ 16000) && decide (rs = [])) = false) := by
      rw [Hid, decide_eq_false (by have := Hsz.out; omega), Bool.false_and]
    have hd : decide ((s.size : Int) ≤ 16000) = false := decide_eq_false hle
    clear hb
    go_wp2_with fail
    refine wp_region_later (by kernel_rfl) (by kernel_rfl) ?_
    repeat (go_big_quiet_step (fail))
    refine wpQuiet_nil ?_
    rintro wq ⟨⟨_, hbq⟩, rfl⟩
    have HR := Lib.hid (HRD.out ⟨wq, hbq⟩)
    clear F hE HRD hw
    go_wp2_with fail
    go_ret2
    rw [HB.out]
    exact ⟨_, _, rfl, HR.out, below_then HW.out hbq⟩
set_option maxRecDepth 10000 in
set_option maxHeartbeats 4000000 in
theorem countOut_any (w : World) (h : Shp w) (s : ByteArray) (hs : s.size ≤ 1048576) :
    Calls Tryd.prog 13 #[.string s] w fun e w' => e = .returned (.tuple #[.int .i64 (((countF s.data.toList).map Prod.fst).getD 0), .int .i64 (((countF s.data.toList).map Prod.snd).getD 0), .bool (countF s.data.toList).isSome]) ∧ Below w.heap.size w w' := by
  have LL := Lib.hid (linesOf_any w h s hs)
  have hlen := linesL_len s.data.toList
  rw [← Lib.size_eq] at hlen
  cases t1 : (decide (s.data.toList.length ≤ 16000) && decide (restL s.data.toList = [])) with
  | false =>
    have HF := Lib.hid (countF_no t1)
    rw [t1] at LL
    generalize linesL s.data.toList = ls at *
    generalize countF s.data.toList = cf at *
    clear t1 h
    go_enter Tryd.func13, Tryd.ntmps13
    go_wp2_with fail
    refine LL.out.mono ?_
    rintro e w1 ⟨a, c, rfl, hr, hw⟩
    clear hr
    go_wp2_with fail
    go_ret3
    rw [HF.out]
    exact ⟨rfl, hw⟩
  | true =>
    have HF := Lib.hid (countF_yes t1)
    rw [t1] at LL
    generalize linesL s.data.toList = ls at *
    generalize countF s.data.toList = cf at *
    clear t1 h
    go_enter Tryd.func13, Tryd.ntmps13
    go_wp2_with fail
    refine LL.out.mono ?_
    rintro e w1 ⟨a, c, rfl, hr, hw⟩
    have HR := Lib.hid hr
    have HW := Lib.hid hw
    clear hr hw LL
    go_wp2_with fail
    go_loop [7, 19] (fun bv kv => ∃ k : Nat, k ≤ ls.length ∧ kv = .int .i64 k ∧ bv = .int .i64 (badN ls k)) (fun _ kv => ls.length - (intOf kv).toNat)
    case atStart => exact ⟨0, Nat.zero_le _, rfl, rfl⟩
    case round =>
      obtain ⟨k, hk, rfl, rfl⟩ := hrel
      by_cases hlt : k < ls.length
      · obtain ⟨b, o, v, e9, hb, hc, hv⟩ := HR.out.getV (k := k) (by rw [strs_length]; exact hlt)
        obtain ⟨x, hx, rfl⟩ := strs_at hv.out
        subst e9
        have HN := Lib.hid (badN_succ hx)
        have hle := badN_le ls k
        have b1 := bs_beq x [110, 111]
        have b2 := bs_beq x [119, 104, 97, 116]
        have HB : Hid (isBad x = (decide (x = [110, 111]) || decide (x = [119, 104, 97, 116]))) := rfl
        clear hx hv
        cases t1 : decide (x = [110, 111]) with
        | true =>
          rw [t1] at b1 HB
          rw [HB.out] at HN
          go_wp2_with fail
          go_round
          case rel => exact ⟨k + 1, by omega, by go_num, by rw [HN.out]; go_num⟩
          case measure => simp [intOf]; omega
        | false =>
          rw [t1] at b1 HB
          cases t2 : decide (x = [119, 104, 97, 116]) with
          | true =>
            rw [t2] at b2 HB
            rw [HB.out] at HN
            go_wp2_with fail
            go_round
            case rel => exact ⟨k + 1, by omega, by go_num, by rw [HN.out]; go_num⟩
            case measure => simp [intOf]; omega
          | false =>
            rw [t2] at b2 HB
            rw [HB.out] at HN
            go_wp2_with fail
            go_round
            case rel => exact ⟨k + 1, by omega, by go_num, by rw [HN.out]; go_num⟩
            case measure => simp [intOf]; omega
      · have : k = ls.length := by omega
        subst this
        have hle := badN_le ls ls.length
        generalize badN ls ls.length = bn at *
        go_wp2_with fail
        go_ret3
        rw [HF.out]
        exact ⟨rfl, HW.out⟩
/-- Lines and what is left behind them. -/
def RetLr (w : World) (ls : List (List UInt8)) (rs : List UInt8) (e : Ending) (w' : World) : Prop := ∃ a c, e = .returned (.tuple #[.slice a ls.length c, .string (bs rs)]) ∧ Rd w' w'.heap.size a (strs ls) ∧ Below w.heap.size w w'
set_option maxRecDepth 10000 in
set_option maxHeartbeats 4000000 in
theorem l08Lines_any (w : World) (s : ByteArray) (hs : s.size ≤ 1048576) :
    Calls Tryd.prog 50 #[.string s] w (RetLr w (linesL s.data.toList) (restL s.data.toList)) := by
  have LS := Lib.hid (l01Cut_any w s 10 hs)
  rw [cut_lines] at LS
  obtain ⟨l, hl⟩ : ∃ l, l = s.data.toList := ⟨_, rfl⟩
  have hsz : s.size = l.length := by rw [hl]; exact Lib.size_eq s
  rw [← hl] at LS ⊢
  have hlen := linesL_len l
  generalize linesL l = ls at *
  generalize restL l = rs at *
  rw [List.length_append, List.length_singleton] at LS
  rw [hsz] at hs
  clear hsz hl
  go_enter Tryd.func50, Tryd.ntmps50
  go_wp2_with fail
  refine LS.out.mono ?_
  rintro e w1 ⟨a, cp, rfl, ho, hw⟩
  have hcap : ls.length + 1 ≤ cp := by
    obtain ⟨_, _, e, hh, _⟩ := own_shape ho
    injection e with _ _ e3; omega
  have hrd := rd_of_own ho (Nat.le_refl _)
  obtain ⟨b, o, v, e9, hb, hc, hv⟩ := hrd.getV (k := ls.length) (by rw [strs_length]; simp)
  have ev : v = .string (bs rs) := by
    have := hv.out
    rw [strs_append, List.getElem?_append_right (by simp), strs_length, Nat.sub_self] at this
    simp [strs] at this
    exact this.symm
  subst ev
  have F : ∀ z : Later w1, z.w'.cell? ⟨b, o + ls.length, none⟩ = some (.string (bs rs)) := fun z => z.cell hb hc
  have HRD : Hid (∀ z : Later w1, Rd z.w' z.w'.heap.size a (strs ls)) := fun z => by
    have := hrd.to z.h
    rcases this with h | ⟨b', o', ha, hb', hc'⟩
    · simp [strs] at h
    · refine .inr ⟨b', o', ha, hb', fun j hj => ?_⟩
      rw [hc' j (by rw [strs_append, List.length_append]; omega), strs_append, List.getElem?_append_left hj]
  have HW := Lib.hid hw
  have n0 : (0 : Int) ≤ (ls.length : Int) := Int.natCast_nonneg _
  have n1 : (ls.length : Int) ≤ (cp : Int) := by omega
  have n2 : IntKind.i64.wrap ((ls.length : Int) + 1 - 1) = (ls.length : Int) := by rw [IntWalk.i64_in _ (by omega)]; omega
  subst e9
  clear ho hrd hw hv hc
  go_wp2_with fail
  refine wp_region_later (by kernel_rfl) (by kernel_rfl) ?_
  repeat (go_big_quiet_step (fail))
  refine wpQuiet_nil ?_
  rintro wq ⟨⟨_, hbq⟩, rfl⟩
  have HR := Lib.hid (HRD.out ⟨wq, hbq⟩)
  clear F HRD n2
  go_wp2_with fail
  go_ret2
  exact ⟨_, _, rfl, HR.out, below_then HW.out hbq⟩
set_option maxRecDepth 10000 in
set_option maxHeartbeats 4000000 in
theorem countOutR_any (w : World) (s : ByteArray) (hs : s.size ≤ 1048576) :
    Calls Tryd.prog 12 #[.string s] w fun e w' => e = .returned (.tuple #[.int .i64 (((countF s.data.toList).map Prod.fst).getD 0), .int .i64 (((countF s.data.toList).map Prod.snd).getD 0), .bool (countF s.data.toList).isSome]) ∧ Below w.heap.size w w' := by
  have LL := Lib.hid (l08Lines_any w s hs)
  have hlen := linesL_len s.data.toList
  rw [← Lib.size_eq] at hlen
  by_cases hle : s.data.toList.length ≤ 16000
  case neg =>
    rw [countF_no (by rw [decide_eq_false hle]; rfl)]
    have hgt : (16000 : Int) < (s.size : Int) := by rw [Lib.size_eq]; omega
    go_enter Tryd.func12, Tryd.ntmps12
    go_wp2_with fail
    go_ret3
    exact ⟨rfl, Below.refl _ _⟩
  have hgt : ¬ (16000 : Int) < (s.size : Int) := by rw [Lib.size_eq]; omega
  have hE := bs_empty (restL s.data.toList)
  cases t1 : decide (restL s.data.toList = []) with
  | false =>
    rw [countF_no (by rw [t1, Bool.and_false])]
    rw [t1] at hE
    generalize linesL s.data.toList = ls at *
    generalize restL s.data.toList = rs at *
    clear t1 hle
    go_enter Tryd.func12, Tryd.ntmps12
    go_wp2_with fail
    refine LL.out.mono ?_
    rintro e w1 ⟨a, c, rfl, hr, hw⟩
    clear hr
    go_wp2_with fail
    go_ret3
    exact ⟨rfl, hw⟩
  | true =>
    have HF := Lib.hid (countF_yes (l := s.data.toList) (by rw [t1, decide_eq_true hle]; rfl))
    rw [t1] at hE
    generalize linesL s.data.toList = ls at *
    generalize restL s.data.toList = rs at *
    generalize countF s.data.toList = cf at *
    clear t1 hle
    go_enter Tryd.func12, Tryd.ntmps12
    go_wp2_with fail
    refine LL.out.mono ?_
    rintro e w1 ⟨a, c, rfl, hr, hw⟩
    have HR := Lib.hid hr
    have HW := Lib.hid hw
    clear hr hw LL
    go_wp2_with fail
    go_loop [7, 8] (fun bv kv => ∃ k : Nat, k ≤ ls.length ∧ kv = .int .i64 k ∧ bv = .int .i64 (badN ls k)) (fun _ kv => ls.length - (intOf kv).toNat)
    case atStart => exact ⟨0, Nat.zero_le _, rfl, rfl⟩
    case round =>
      obtain ⟨k, hk, rfl, rfl⟩ := hrel
      by_cases hlt : k < ls.length
      · obtain ⟨b, o, v, e9, hb, hc, hv⟩ := HR.out.getV (k := k) (by rw [strs_length]; exact hlt)
        obtain ⟨x, hx, rfl⟩ := strs_at hv.out
        subst e9
        have HN := Lib.hid (badN_succ hx)
        have hle := badN_le ls k
        have b1 := bs_beq x [110, 111]
        have b2 := bs_beq x [119, 104, 97, 116]
        have HB : Hid (isBad x = (decide (x = [110, 111]) || decide (x = [119, 104, 97, 116]))) := rfl
        clear hx hv
        cases t1 : decide (x = [110, 111]) with
        | true =>
          rw [t1] at b1 HB
          rw [HB.out] at HN
          go_wp2_with fail
          go_round
          case rel => exact ⟨k + 1, by omega, by go_num, by rw [HN.out]; go_num⟩
          case measure => simp [intOf]; omega
        | false =>
          rw [t1] at b1 HB
          cases t2 : decide (x = [119, 104, 97, 116]) with
          | true =>
            rw [t2] at b2 HB
            rw [HB.out] at HN
            go_wp2_with fail
            go_round
            case rel => exact ⟨k + 1, by omega, by go_num, by rw [HN.out]; go_num⟩
            case measure => simp [intOf]; omega
          | false =>
            rw [t2] at b2 HB
            rw [HB.out] at HN
            go_wp2_with fail
            go_round
            case rel => exact ⟨k + 1, by omega, by go_num, by rw [HN.out]; go_num⟩
            case measure => simp [intOf]; omega
      · have : k = ls.length := by omega
        subst this
        have hle := badN_le ls ls.length
        generalize badN ls ls.length = bn at *
        go_wp2_with fail
        go_ret3
        rw [HF.out]
        exact ⟨rfl, HW.out⟩
set_option maxRecDepth 10000 in
set_option maxHeartbeats 4000000 in
theorem law_ExactCountOutputs (w : World) (h : Shp w) (s : ByteArray) :
    Calls Tryd.prog 3 #[.string s] w fun e w' => e = .returned (.bool true) ∧ Below w.heap.size w w' := by
  by_cases hs : s.size ≤ 1048576
  case neg =>
    have hgt : (1048576 : Int) < (s.size : Int) := by omega
    go_enter Tryd.func3, Tryd.ntmps3
    go_wp2_with fail
    go_ret
    exact ⟨rfl, Below.refl _ _⟩
  have hgt : ¬ (1048576 : Int) < (s.size : Int) := by omega
  have H1 := Lib.hid (fun w' hb => countOut_any w' (h.to hb) s hs)
  have H2 := Lib.hid (countOutR_any w s hs)
  generalize ((countF s.data.toList).map Prod.fst).getD 0 = r0 at *
  generalize ((countF s.data.toList).map Prod.snd).getD 0 = r1 at *
  generalize (countF s.data.toList).isSome = r2 at *
  have hne0 : (r0 != r0) = false := by simp
  have hne1 : (r1 != r1) = false := by simp
  have hne2 : (r2 != r2) = false := by simp
  go_enter Tryd.func3, Tryd.ntmps3
  go_wp2_with fail
  refine H2.out.mono ?_
  rintro e w1 ⟨rfl, hb1⟩
  have L1 := Lib.hid (H1.out w1 hb1)
  go_wp2_with fail
  refine L1.out.mono ?_
  rintro e w2 ⟨rfl, hb2⟩
  have B2 := below_then hb1 hb2
  clear hb1 hb2
  go_wp2_with fail
  go_ret
  exact ⟨rfl, B2⟩
end Go.Proofs.YtdmeegfdmdbkiaaDoor
