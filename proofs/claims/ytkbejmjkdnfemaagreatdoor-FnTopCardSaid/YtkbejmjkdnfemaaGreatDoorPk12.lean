/-
  Part 12 of what the proof stands on: lemmas and contracts, each with its conditions ahead of the colon.
-/
import Derived.Test.YtkbejmjkdnfemaaGreatDoorShelf
import Derived.Lib.Join
import Derived.Laws.Externs
import Derived.Test.YtkbejmjkdnfemaaGreatDoorPk01
import Derived.Test.YtkbejmjkdnfemaaGreatDoorPk02
import Derived.Test.YtkbejmjkdnfemaaGreatDoorPk03
import Derived.Test.YtkbejmjkdnfemaaGreatDoorPk11
namespace Go.Proofs.YtkbejmjkdnfemaaGreatDoor
set_option linter.unusedVariables false
set_option linter.unusedSimpArgs false
open Go.RowKit

def linesL (l : List UInt8) : List (List UInt8) := (cutN 10 l l.length).1
def restL (l : List UInt8) : List UInt8 := l.drop (cutN 10 l l.length).2
theorem cut_lines (l : List UInt8) : cutL 10 l = linesL l ++ [restL l] := cutN_all 10 l
theorem linesL_len (l : List UInt8) : (linesL l).length ≤ l.length := cutN_len 10 l l.length
def isBad (x : List UInt8) : Bool := decide (x = [110, 111]) || decide (x = [119, 104, 97, 116])
def badN (xs : List (List UInt8)) (k : Nat) : Nat := ((xs.take k).filter isBad).length
theorem badN_succ {xs : List (List UInt8)} {k : Nat} {x : List UInt8} (h : xs[k]? = some x) : badN xs (k + 1) = badN xs k + if isBad x then 1 else 0 := by
  unfold badN
  rw [List.take_add_one, h, List.filter_append, List.length_append]
  cases hb : isBad x <;> simp [hb]
theorem badN_le (xs : List (List UInt8)) (k : Nat) : badN xs k ≤ k := Nat.le_trans (List.length_filter_le _ _) (by simp; omega)
theorem strs_at {xs : List (List UInt8)} {k : Nat} {v : Value} (h : (strs xs)[k]? = some v) : ∃ l, xs[k]? = some l ∧ v = .string (bs l) := by
  unfold strs at h
  rw [List.getElem?_map] at h
  cases hx : xs[k]? with
  | none => rw [hx] at h; cases h
  | some l => rw [hx] at h; injection h with h; exact ⟨l, rfl, h.symm⟩
theorem maxLen_cell (W : World) (h : W.ShapedOpen Tryz.prog) : ∃ m, W.cell? ⟨2, 0, none⟩ = some (.int .i64 m) := Tryz.laysM146.s1_3 W h
/-- The library's bound is there. -/
def Shp (w : World) : Prop := ∃ m, w.cell? ⟨2, 0, none⟩ = some (.int .i64 m)
theorem Shp.lt {w : World} (h : Shp w) : 2 < w.heap.size := by obtain ⟨m, hm⟩ := h; exact World.block_lt_of_cell? w _ hm
theorem Shp.to {w w' : World} (h : Shp w) (hb : Below w.heap.size w w') : Shp w' := by
  have hl := h.lt
  obtain ⟨m, hm⟩ := h
  exact ⟨m, (hb.cell (p := ⟨2, 0, none⟩) hl).trans hm⟩
theorem split_any (w : World) (h : Shp w) (s : ByteArray) (hs : s.size ≤ 1048576) (c : UInt8) (sep : ByteArray) (hc : sep.data.toList = [c]) :
    Calls Tryz.prog 137 #[.string s, .string sep] w fun e w' => e = .returned (.slice (some ⟨w.heap.size, 0, none⟩) (cutL c s.data.toList).length (cutL c s.data.toList).length) ∧ Blk w' w.heap.size (strs (cutL c s.data.toList)) 9 ∧ Below w.heap.size w w' := by
  obtain ⟨m, hm⟩ := h
  refine (Tryz.strings_Split s sep m w (by omega) hm (by rw [Lib.size_eq, hc]; exact Nat.le_refl _)).mono ?_
  rintro e w' ⟨rfl, rfl⟩
  rw [countB_cut hc, splitB_strs hc]
  exact ⟨rfl, Blk.new w _ _, bl1 _ _⟩
def countF (l : List UInt8) : Option (Int × Int) := if decide (l.length ≤ 16000) && decide (restL l = []) then some ((badN (linesL l) (linesL l).length : Int), ((linesL l).length : Int) - (badN (linesL l) (linesL l).length : Int)) else none
theorem countF_no {l : List UInt8} (h : (decide (l.length ≤ 16000) && decide (restL l = [])) = false) : countF l = none := by unfold countF; rw [h]; rfl
theorem countF_yes {l : List UInt8} (h : (decide (l.length ≤ 16000) && decide (restL l = [])) = true) : countF l = some ((badN (linesL l) (linesL l).length : Int), ((linesL l).length : Int) - (badN (linesL l) (linesL l).length : Int)) := by unfold countF; rw [h]; rfl
/-- Lines that lie somewhere, and whether they are lines. -/
def RetLn (w : World) (ls : List (List UInt8)) (ok : Bool) (e : Ending) (w' : World) : Prop := ∃ a c, e = .returned (.tuple #[.slice a ls.length c, .bool ok]) ∧ Rd w' w'.heap.size a (strs ls) ∧ Below w.heap.size w w'
set_option maxRecDepth 10000 in
set_option maxHeartbeats 4000000 in
theorem linesOf_any (w : World) (h : Shp w) (s : ByteArray) (hs : s.size ≤ 1048576) :
    Calls Tryz.prog 60 #[.string s] w (RetLn w (linesL s.data.toList) (decide (s.data.toList.length ≤ 16000) && decide (restL s.data.toList = []))) := by
  have LS := Lib.hid (split_any w h s hs 10 ⟨#[10]⟩ rfl)
  rw [cut_lines] at LS
  obtain ⟨l, hl⟩ : ∃ l, l = s.data.toList := ⟨_, rfl⟩
  have hsz : s.size = l.length := by rw [hl]; exact Lib.size_eq s
  rw [← hl] at LS ⊢
  have hlen := linesL_len l
  generalize linesL l = ls at *
  generalize restL l = rs at *
  rw [List.length_append, List.length_singleton] at LS
  rw [hsz] at hs
  have Hsz := Lib.hid hsz
  clear hsz hl h
  go_enter Tryz.func60, Tryz.ntmps60
  go_wp2_with fail
  refine LS.out.mono ?_
  rintro e w1 ⟨rfl, hb, hw⟩
  have F : ∀ z : Later w1, z.w'.cell? ⟨w.heap.size, ls.length, none⟩ = some (.string (bs rs)) := fun z => z.cell hb.lt (by rw [hb.cell, strs_append]; simp [strs])
  have n0 : (0 : Int) ≤ (ls.length : Int) := Int.natCast_nonneg _
  have hE := bs_empty rs
  have HRD : Hid (∀ z : Later w1, Rd z.w' z.w'.heap.size (some ⟨w.heap.size, 0, none⟩) (strs ls)) := fun z => by
    have hsz := z.h.size
    refine .inr ⟨w.heap.size, 0, rfl, Nat.lt_of_lt_of_le hb.lt hsz, fun j hj => ?_⟩
    rw [Nat.zero_add, (z.h.cell (p := ⟨w.heap.size, j, none⟩) hb.lt), hb.cell, strs_append, List.getElem?_append_left hj]
  have HW := Lib.hid hw
  by_cases hle : (s.size : Int) ≤ 16000
  · have HB : Hid ((decide (l.length ≤ 16000) && decide (rs = [])) = decide (rs = [])) := by
      rw [Hid, decide_eq_true (by have := Hsz.out; omega), Bool.true_and]
    generalize decide (rs = []) = r at *
    clear hb
    go_wp2_with fail
    refine wp_region_later (by kernel_rfl) (by kernel_rfl) ?_
    repeat (go_big_quiet_step (fail))
    refine wpQuiet_nil ?_
    rintro wq ⟨⟨_, hbq⟩, rfl⟩
    have HR := Lib.hid (HRD.out ⟨wq, hbq⟩)
    clear F hE HRD hw
    go_wp2_with fail
    go_ret2
    rw [HB.out]
    exact ⟨_, _, rfl, HR.out, below_then HW.out hbq⟩
  · have HB : Hid ((decide (l.length ≤ 16000) && decide (rs = [])) = false) := by
      rw [Hid, decide_eq_false (by have := Hsz.out; omega), Bool.false_and]
    have hd : decide ((s.size : Int) ≤ 16000) = false := decide_eq_false hle
    clear hb
    go_wp2_with fail
    refine wp_region_later (by kernel_rfl) (by kernel_rfl) ?_
    repeat (go_big_quiet_step (fail))
    refine wpQuiet_nil ?_
    rintro wq ⟨⟨_, hbq⟩, rfl⟩
    have HR := Lib.hid (HRD.out ⟨wq, hbq⟩)
    clear F hE HRD hw
    go_wp2_with fail
    go_ret2
    rw [HB.out]
    exact ⟨_, _, rfl, HR.out, below_then HW.out hbq⟩
set_option maxRecDepth 10000 in
set_option maxHeartbeats 4000000 in
theorem countOut_any (w : World) (h : Shp w) (s : ByteArray) (hs : s.size ≤ 1048576) :
    Calls Tryz.prog 29 #[.string s] w fun e w' => e = .returned (.tuple #[.int .i64 (((countF s.data.toList).map Prod.fst).getD 0), .int .i64 (((countF s.data.toList).map Prod.snd).getD 0), .bool (countF s.data.toList).isSome]) ∧ Below w.heap.size w w' := by
  have LL := Lib.hid (linesOf_any w h s hs)
  have hlen := linesL_len s.data.toList
  rw [← Lib.size_eq] at hlen
  cases t1 : (decide (s.data.toList.length ≤ 16000) && decide (restL s.data.toList = [])) with
  | false =>
    have HF := Lib.hid (countF_no t1)
    rw [t1] at LL
    generalize linesL s.data.toList = ls at *
    generalize countF s.data.toList = cf at *
    clear t1 h
    go_enter Tryz.func29, Tryz.ntmps29
    go_wp2_with fail
    refine LL.out.mono ?_
    rintro e w1 ⟨a, c, rfl, hr, hw⟩
    clear hr
    go_wp2_with fail
    go_ret3
    rw [HF.out]
    exact ⟨rfl, hw⟩
  | true =>
    have HF := Lib.hid (countF_yes t1)
    rw [t1] at LL
    generalize linesL s.data.toList = ls at *
    generalize countF s.data.toList = cf at *
    clear t1 h
    go_enter Tryz.func29, Tryz.ntmps29
    go_wp2_with fail
    refine LL.out.mono ?_
    rintro e w1 ⟨a, c, rfl, hr, hw⟩
    have HR := Lib.hid hr
    have HW := Lib.hid hw
    clear hr hw LL
    go_wp2_with fail
    go_loop [7, 19] (fun bv kv => ∃ k : Nat, k ≤ ls.length ∧ kv = .int .i64 k ∧ bv = .int .i64 (badN ls k)) (fun _ kv => ls.length - (intOf kv).toNat)
    case atStart => exact ⟨0, Nat.zero_le _, rfl, rfl⟩
    case round =>
      obtain ⟨k, hk, rfl, rfl⟩ := hrel
      by_cases hlt : k < ls.length
      · obtain ⟨b, o, v, e9, hb, hc, hv⟩ := HR.out.getV (k := k) (by rw [strs_length]; exact hlt)
        obtain ⟨x, hx, rfl⟩ := strs_at hv.out
        subst e9
        have HN := Lib.hid (badN_succ hx)
        have hle := badN_le ls k
        have b1 := bs_beq x [110, 111]
        have b2 := bs_beq x [119, 104, 97, 116]
        have HB : Hid (isBad x = (decide (x = [110, 111]) || decide (x = [119, 104, 97, 116]))) := rfl
        clear hx hv
        cases t1 : decide (x = [110, 111]) with
        | true =>
          rw [t1] at b1 HB
          rw [HB.out] at HN
          go_wp2_with fail
          go_round
          case rel => exact ⟨k + 1, by omega, by go_num, by rw [HN.out]; go_num⟩
          case measure => simp [intOf]; omega
        | false =>
          rw [t1] at b1 HB
          cases t2 : decide (x = [119, 104, 97, 116]) with
          | true =>
            rw [t2] at b2 HB
            rw [HB.out] at HN
            go_wp2_with fail
            go_round
            case rel => exact ⟨k + 1, by omega, by go_num, by rw [HN.out]; go_num⟩
            case measure => simp [intOf]; omega
          | false =>
            rw [t2] at b2 HB
            rw [HB.out] at HN
            go_wp2_with fail
            go_round
            case rel => exact ⟨k + 1, by omega, by go_num, by rw [HN.out]; go_num⟩
            case measure => simp [intOf]; omega
      · have : k = ls.length := by omega
        subst this
        have hle := badN_le ls ls.length
        generalize badN ls ls.length = bn at *
        go_wp2_with fail
        go_ret3
        rw [HF.out]
        exact ⟨rfl, HW.out⟩
end Go.Proofs.YtkbejmjkdnfemaaGreatDoor
namespace Go.Proofs.YtkbejmjkdnfemaaGreatDoor
set_option linter.unusedVariables false
set_option linter.unusedSimpArgs false
open Go.RowKit

def textL (xs : List Int) : List UInt8 := if xs = [] then [110, 111, 110, 101] else Lib.join (xs.map Lib.itoa) [44]
def valOk (xs : List Int) : Bool := allIn xs (-1000000000000000) 1000000000000000 && decide (xs.length ≤ 64)
theorem itoa_len {n : Int} (h0 : -9223372036854775808 ≤ n) (h1 : n ≤ 9223372036854775807) : (Lib.itoa n).length ≤ 21 := by
  have h := nDigits_le n.natAbs 20 (by omega) (by omega)
  rcases Int.lt_or_le n 0 with hn | hn
  · rw [itoa_neg hn]; simp; omega
  · rw [itoa_pos hn]; omega
theorem lens_le {m : Nat} : ∀ {xs : List (List UInt8)}, (∀ x ∈ xs, x.length ≤ m) → Lib.lens xs ≤ m * xs.length
  | [], _ => by simp [Lib.lens]
  | x :: xs, h => by
    have h1 := h x (by simp)
    have h2 := lens_le (m := m) (xs := xs) (fun y hy => h y (by simp [hy]))
    simp only [Lib.lens, List.map_cons, List.sum_cons, List.length_cons, Nat.mul_succ] at *
    omega
theorem join_len {m : Nat} {xs : List (List UInt8)} {sep : List UInt8} (h : ∀ x ∈ xs, x.length ≤ m) : (Lib.join xs sep).length ≤ (m + sep.length) * xs.length := by
  cases xs with
  | nil => simp [Lib.join_nil]
  | cons x r =>
    have h1 := h x (by simp)
    have h2 := lens_le (m := m) (xs := r) (fun y hy => h y (by simp [hy]))
    rw [Lib.join_cons, List.length_append, Lib.joinTail_length, List.length_cons, Nat.mul_succ, Nat.add_mul]
    omega
theorem textL_len {xs : List Int} (h : ∀ x ∈ xs, -9223372036854775808 ≤ x ∧ x ≤ 9223372036854775807) : (textL xs).length ≤ 22 * xs.length + 4 := by
  unfold textL
  split
  · simp
  · have := join_len (m := 21) (xs := xs.map Lib.itoa) (sep := [44]) (fun x hx => by
      obtain ⟨y, hy, rfl⟩ := List.mem_map.1 hx
      have := h y hy
      exact itoa_len this.1 this.2)
    rw [List.length_map] at this
    simp at this; omega
theorem map_data (xs : List (List UInt8)) : (xs.map bs).map (·.data.toList) = xs := by
  rw [List.map_map]
  conv => rhs; rw [← List.map_id xs]
  exact List.map_congr_left fun x _ => bs_list x
theorem join_any (w : World) (a : Option Addr) (c : Nat) (xs : List (List UInt8)) (sep : List UInt8) (h : Rd w w.heap.size a (strs xs)) (hc : xs.length ≤ c) (hl : xs.length ≤ 1048576) (hj : (Lib.join xs sep).length ≤ 140737488355328) :
    Calls Tryz.prog 130 #[.slice a xs.length c, .string (bs sep)] w fun e w' => e = .returned (.string (bs (Lib.join xs sep))) ∧ Below w.heap.size w w' := by
  rcases h with h | ⟨b, o, ha, hb, hcell⟩
  · have e : xs = [] := by
      have := congrArg List.length h
      rw [strs_length] at this
      exact List.eq_nil_of_length_eq_zero this
    subst e
    refine (Tryz.strings_Join_none a c (bs sep) w).mono ?_
    rintro e w' ⟨rfl, rfl⟩
    exact ⟨rfl, Below.refl _ _⟩
  · subst ha
    have := Tryz.strings_Join b o c (xs.map bs) (bs sep) w (fun j x hx => by
      rw [List.getElem?_map] at hx
      cases hy : xs[j]? with
      | none => rw [hy] at hx; cases hx
      | some y =>
        rw [hy] at hx
        injection hx with hx
        have hjl : j < xs.length := (List.getElem?_eq_some_iff.1 hy).1
        rw [hcell j (by rw [strs_length]; exact hjl), strs_get hy, hx]) hb (by rw [List.length_map]; omega) (by rw [List.length_map]; exact hc) (by rw [map_data, bs_list]; exact hj)
    rw [List.length_map, map_data, bs_list] at this
    exact this
set_option maxRecDepth 10000 in
set_option maxHeartbeats 4000000 in
theorem joined_any (w : World) (a : Option Addr) (c : Nat) (xs : List (List UInt8)) (h : Rd w w.heap.size a (strs xs)) (hc : xs.length ≤ c) (hl : xs.length ≤ 1048576) (hj : (Lib.join xs [44]).length ≤ 140737488355328) :
    Calls Tryz.prog 57 #[.slice a xs.length c] w fun e w' => e = .returned (.string (bs (if xs = [] then [110, 111, 110, 101] else Lib.join xs [44]))) ∧ Below w.heap.size w w' := by
  have LJ := Lib.hid (join_any w a c xs [44] h hc hl hj)
  by_cases he : xs = []
  · subst he
    clear h
    go_enter Tryz.func57, Tryz.ntmps57
    go_wp2_with fail
    go_ret
    exact ⟨rfl, Below.refl _ _⟩
  · rw [if_neg he]
    have hne : ¬ xs.length = 0 := fun e => he (List.eq_nil_of_length_eq_zero e)
    clear h he
    go_enter Tryz.func57, Tryz.ntmps57
    go_wp2_with fail
    refine LJ.out.mono ?_
    rintro e w1 ⟨rfl, hb⟩
    go_wp2_with fail
    go_ret
    exact ⟨rfl, hb⟩
theorem isValue_any (n : Int) (w : World) :
    Calls Tryz.prog 136 #[.int .i64 n] w fun e w' => e = .returned (.bool (inB n (-1000000000000000) 1000000000000000)) ∧ w = w' := by
  go_enter Tryz.func136, Tryz.ntmps136
  go_wp2_with (go_at_call 132; refine (within_any _ _ _ _).mono ?_; rintro e w' ⟨rfl, rfl⟩)
  go_ret
  exact ⟨rfl, rfl⟩
set_option maxRecDepth 10000 in
set_option maxHeartbeats 4000000 in
theorem areValues_any (w : World) (a : Option Addr) (c : Nat) (xs : List Int) (h : Rd w w.heap.size a (ints xs)) (hl : xs.length ≤ 1048576) :
    Calls Tryz.prog 58 #[.slice a xs.length c] w fun e w' => e = .returned (.bool (valOk xs)) ∧ w = w' := by
  have HV : Hid (valOk xs = (allIn xs (-1000000000000000) 1000000000000000 && decide (xs.length ≤ 64))) := rfl
  go_enter Tryz.func58, Tryz.ntmps58
  go_wp2_with fail
  go_loop [7] (fun i => ∃ k : Nat, k ≤ xs.length ∧ i = .int .i64 k ∧ Hid (allIn (xs.take k) (-1000000000000000) 1000000000000000 = true)) (fun i => xs.length - (intOf i).toNat)
  case atStart => exact ⟨0, Nat.zero_le _, rfl, rfl⟩
  case round =>
    obtain ⟨k, hk, rfl, ha⟩ := hrel
    by_cases hlt : k < xs.length
    · obtain ⟨b, o, x, rfl, hbb, hck, hx⟩ := h.get hlt
      clear h
      cases hin : inB x (-1000000000000000) 1000000000000000 with
      | true =>
        have L := Lib.hid (isValue_any x)
        rw [hin] at L
        go_wp2_with (go_at_call 136; refine (L.out _).mono ?_; rintro e w' ⟨rfl, rfl⟩)
        go_round
        case rel => exact ⟨k + 1, by omega, by go_num, by rw [Hid, allIn_snoc hx.out, ha.out, hin]; rfl⟩
        case measure => simp [intOf]; omega
      | false =>
        have L := Lib.hid (isValue_any x)
        rw [hin] at L
        have HF : Hid (valOk xs = false) := by rw [Hid, HV.out, allIn_false hx.out hin]; rfl
        go_wp2_with (go_at_call 136; refine (L.out _).mono ?_; rintro e w' ⟨rfl, rfl⟩)
        go_ret
        exact ⟨ret_bool HF.out.symm, rfl⟩
    · have : k = xs.length := by omega
      subst this
      rw [List.take_length] at ha
      have HF : Hid (valOk xs = decide (xs.length ≤ 64)) := by rw [Hid, HV.out, ha.out]; rfl
      go_wp2_with fail
      go_ret
      exact ⟨ret_bool (by rw [HF.out]; simp <;> omega), rfl⟩
end Go.Proofs.YtkbejmjkdnfemaaGreatDoor
namespace Go.Proofs.YtkbejmjkdnfemaaGreatDoor
set_option linter.unusedVariables false
set_option linter.unusedSimpArgs false
open Ieee

theorem sw32 : single.signWeight = 2147483648 := by decide
theorem bi32 : single.binade = 8388608 := by decide
theorem in32 : single.infRung = 2139095040 := by decide
theorem lp32 : single.leastPlace = -149 := by decide
/-- A word without its sign: its number's digits and place. -/
theorem rung_parts (r : Nat) (h : r < 2139095040) : ∃ e m : Nat, r = e * 8388608 + m ∧ (m < 16777216 ∧ e ≤ 253) ∧ (1 ≤ e → 8388608 ≤ m) ∧
    (∀ neg : Bool, (if r < 8388608 then Datum.number neg r (-149) else Datum.number neg (8388608 + r % 8388608) (-149 + (r / 8388608 - 1 : Nat))) = Datum.number neg m (-149 + (e : Int))) := by
  by_cases c : r < 8388608
  · exact ⟨0, r, by omega, by omega, by omega, fun neg => by rw [if_pos c]; simp⟩
  · exact ⟨r / 8388608 - 1, 8388608 + r % 8388608, by omega, by omega, by omega, fun neg => by rw [if_neg c]⟩
theorem single_cases (x : Nat) : (∃ e m : Nat, x % 2147483648 = e * 8388608 + m ∧ (m < 16777216 ∧ e ≤ 253) ∧ (1 ≤ e → 8388608 ≤ m) ∧ single.read x = .number (x / 2147483648 % 2 == 1) m (-149 + (e : Int))) ∨
    (x % 2147483648 = 2139095040 ∧ single.read x = .infinity (x / 2147483648 % 2 == 1)) ∨ ∃ n f, single.read x = .nan n f := by
  unfold Format.read
  simp only [sw32, bi32, in32, lp32]
  by_cases h1 : x % 2147483648 < 2139095040
  · obtain ⟨e, m, k1, k2, k3, k4⟩ := rung_parts _ h1
    refine .inl ⟨e, m, k1, k2, k3, ?_⟩
    by_cases h0 : x % 2147483648 < 8388608
    · have := k4 (x / 2147483648 % 2 == 1); rw [if_pos h0] at this ⊢; exact this
    · have := k4 (x / 2147483648 % 2 == 1); rw [if_neg h0] at this ⊢; rw [if_pos h1]; exact this
  · rw [if_neg (by omega), if_neg h1]
    by_cases h2 : x % 2147483648 = 2139095040
    · rw [if_pos h2]; exact .inr (.inl ⟨h2, rfl⟩)
    · rw [if_neg h2]; exact .inr (.inr ⟨_, _, rfl⟩)
theorem compare_eq {a b : Int} (h : compare a b = .eq) : a = b := by
  rw [show compare a b = compareOfLessAndEq a b from rfl] at h
  unfold compareOfLessAndEq at h
  split at h
  · cases h
  · split at h
    · assumption
    · cases h
theorem shift_eq {m n e f : Nat} (hm : m < 16777216) (hn : n < 16777216) (he : 1 ≤ e → 8388608 ≤ m) (hf : 1 ≤ f → 8388608 ≤ n) (h : m * 2 ^ (e - min e f) = n * 2 ^ (f - min e f)) : e = f ∧ m = n := by
  by_cases c : e = f
  · subst c
    simp at h
    exact ⟨rfl, h⟩
  · exfalso
    by_cases d : e < f
    · rw [Nat.min_eq_left (by omega), Nat.sub_self, Nat.pow_zero, Nat.mul_one] at h
      obtain ⟨k, hk⟩ : ∃ k, f - e = k + 1 := ⟨f - e - 1, by omega⟩
      rw [hk, Nat.pow_succ] at h
      have h8 := hf (by omega)
      have : n * 1 ≤ n * 2 ^ k := Nat.mul_le_mul_left _ (Nat.one_le_two_pow)
      have e2 : n * (2 ^ k * 2) = 2 * (n * 2 ^ k) := by rw [← Nat.mul_assoc, Nat.mul_comm]
      omega
    · rw [Nat.min_eq_right (by omega), Nat.sub_self, Nat.pow_zero, Nat.mul_one] at h
      obtain ⟨k, hk⟩ : ∃ k, e - f = k + 1 := ⟨e - f - 1, by omega⟩
      rw [hk, Nat.pow_succ] at h
      have h8 := he (by omega)
      have : m * 1 ≤ m * 2 ^ k := Nat.mul_le_mul_left _ (Nat.one_le_two_pow)
      have e2 : m * (2 ^ k * 2) = 2 * (m * 2 ^ k) := by rw [← Nat.mul_assoc, Nat.mul_comm]
      omega
theorem signed_eq {s : Bool} {m n k l : Nat} (h : signed s m k = signed s n l) : m * 2 ^ k = n * 2 ^ l := by
  unfold signed at h
  simp only [Nat.shiftLeft_eq] at h
  cases s
  · simp at h; exact_mod_cast h
  · simp at h; exact_mod_cast h
theorem single_eq {x y : Nat} (hx : x < 4294967296) (hy : y < 4294967296) (h : single.order x y = some .eq) (hs : x / 2147483648 = y / 2147483648) : x = y := by
  unfold Format.order at h
  rcases single_cases x with ⟨e, m, k1, k2, k3, k4⟩ | ⟨k1, k4⟩ | ⟨n, f, k4⟩ <;> rcases single_cases y with ⟨e', m', l1, l2, l3, l4⟩ | ⟨l1, l4⟩ | ⟨n', f', l4⟩
  all_goals rw [k4, l4] at h
  · simp only [Datum.order, Option.some.injEq] at h
    rw [hs] at h
    have h2 := signed_eq (compare_eq h)
    have e1 : ((-149 + (e : Int)) - min (-149 + (e : Int)) (-149 + (e' : Int))).toNat = e - min e e' := by omega
    have e2 : ((-149 + (e' : Int)) - min (-149 + (e : Int)) (-149 + (e' : Int))).toNat = e' - min e e' := by omega
    rw [e1, e2] at h2
    obtain ⟨q1, q2⟩ := shift_eq k2.1 l2.1 k3 l3 h2
    subst q1 q2
    omega
  · simp [Datum.order] at h; split at h <;> cases h
  · simp [Datum.order] at h
  · simp [Datum.order] at h; split at h <;> cases h
  · omega
  · simp [Datum.order] at h
  · simp [Datum.order] at h
  · simp [Datum.order] at h
  · simp [Datum.order] at h
theorem nearest_word (neg : Bool) (mag : Nat) (place : Int) : ∃ g, g ≤ 9218868437227405312 ∧ double.nearest neg mag place = double.word neg g := by
  have hin : double.infRung = 9218868437227405312 := by decide
  unfold Format.nearest
  split
  · exact ⟨0, by omega, rfl⟩
  · rw [hin]; exact ⟨_, Nat.min_le_right _ _, rfl⟩
theorem word_sign (neg : Bool) (g : Nat) (h : g ≤ 9218868437227405312) : double.word neg g < 18446744073709551616 ∧ (9223372036854775808 ≤ double.word neg g ↔ neg = true) := by
  have hsw : double.signWeight = 9223372036854775808 := by decide
  unfold Format.word
  rw [hsw]
  cases neg
  · simp; omega
  · simp; omega
/-- What a single becomes as a double: its sign stays. -/
theorem wide_sign {x : Nat} (hx : x < 4294967296) (hn : ¬ ∃ n f, single.read x = .nan n f) : ∃ r, floatToFloatBits .f32 x .f64 = some r ∧ r < 18446744073709551616 ∧ (9223372036854775808 ≤ r ↔ 2147483648 ≤ x) := by
  have hneg : ((x / 2147483648 % 2 == 1) = true) ↔ 2147483648 ≤ x := by rw [beq_iff_eq]; omega
  rcases single_cases x with ⟨e, m, k1, k2, k3, k4⟩ | ⟨k1, k4⟩ | h
  · obtain ⟨g, g1, g2⟩ := nearest_word (x / 2147483648 % 2 == 1) m (-149 + (e : Int))
    obtain ⟨w1, w2⟩ := word_sign (x / 2147483648 % 2 == 1) g g1
    refine ⟨double.word (x / 2147483648 % 2 == 1) g, ?_, w1, by rw [w2, hneg]⟩
    have hr : ∃ n' m' p', double.read (double.word (x / 2147483648 % 2 == 1) g) = .number n' m' p' := by
      rw [← g2]
      rcases Nat.eq_zero_or_pos m with h0 | h0
      · subst h0
        have : double.nearest (x / 2147483648 % 2 == 1) 0 (-149 + (e : Int)) = double.word (x / 2147483648 % 2 == 1) 0 := by
          unfold Format.nearest; rw [if_pos rfl]
        rw [this]
        cases (x / 2147483648 % 2 == 1)
        · exact ⟨false, 0, -1074, by decide +kernel⟩
        · exact ⟨true, 0, -1074, by decide +kernel⟩
      · obtain ⟨m', p', e', _⟩ := wide_read (x / 2147483648 % 2 == 1) m (-149 + (e : Int)) h0 k2.1 (by omega) (by omega)
        exact ⟨_, m', p', e'⟩
    obtain ⟨n', m', p', e'⟩ := hr
    have hw : double.write (.number (x / 2147483648 % 2 == 1) m (-149 + (e : Int))) = double.word (x / 2147483648 % 2 == 1) g := g2
    simp [floatToFloatBits, FloatKind.decode, FloatKind.format, FloatKind.encode, k4, hw, e', Datum.isInfinity]
  · obtain ⟨w1, w2⟩ := word_sign (x / 2147483648 % 2 == 1) 9218868437227405312 (by omega)
    refine ⟨double.word (x / 2147483648 % 2 == 1) 9218868437227405312, ?_, w1, by rw [w2, hneg]⟩
    simp [floatToFloatBits, FloatKind.decode, FloatKind.format, FloatKind.encode, k4]
    rfl
  · exact absurd h hn
theorem nan_order {x : Nat} : (∃ n f, single.read x = .nan n f) ↔ single.order x x = none := by
  constructor
  · rintro ⟨n, f, h⟩
    unfold Format.order
    rw [h]; rfl
  · intro h
    rcases order_self (single.read x) with h' | h'
    · exact h'
    · unfold Format.order at h; rw [h] at h'; cases h'
theorem self_order {x : Nat} (h : ¬ ∃ n f, single.read x = .nan n f) : single.order x x = some .eq := by
  rcases order_self (single.read x) with h' | h'
  · exact absurd h' h
  · exact h'
theorem not_eq_order {x y : Nat} (h : ¬ ∃ n f, single.read x = .nan n f) (ho : ¬ single.order x y = some .eq) : x ≠ y := by
  rintro rfl; exact ho (self_order h)
end Go.Proofs.YtkbejmjkdnfemaaGreatDoor
namespace Go.Proofs.YtkbejmjkdnfemaaGreatDoor
set_option linter.unusedVariables false
set_option linter.unusedSimpArgs false
open Go.RowKit Ieee

def nanF (x : Nat) : Bool := FloatKind.f32.format.order x x != some .eq
/-- The bits of a number; of any NaN, the same. -/
def bitsF (x : Nat) : Int := if nanF x then 2143289344 else x
def sameN (x y : Nat) : Bool := bitsF x == bitsF y
theorem nanF_iff {x : Nat} : nanF x = true ↔ ∃ n f, single.read x = .nan n f := by
  have e : FloatKind.f32.format.order x x = single.order x x := rfl
  unfold nanF
  rw [e]
  rcases order_self (single.read x) with h | h
  · exact ⟨fun _ => h, fun _ => by rw [nan_order.1 h]; rfl⟩
  · have h' : single.order x x = some .eq := h
    rw [h']
    constructor
    · intro h2; simp at h2
    · intro h2; rw [nan_order.1 h2] at h'; cases h'
theorem nanF_no {x : Nat} (h : nanF x = false) : ¬ ∃ n f, single.read x = .nan n f := fun h2 => by rw [nanF_iff.2 h2] at h; cases h
theorem bits_word : nanF 2143289344 = true := by decide +kernel
theorem bits32 (b : Nat) (w : World) : (callFunc 198 #[.float .f32 b]).run Tryz.prog w = .ok (.value (.int .u32 b)) w := by
  rw [run_callFunc_extern (P := Tryz.prog) (e := Extern.MathFloatBits.float32bits) Tryz.func198 (by kernel_rfl) (by kernel_rfl) (by kernel_rfl) (by kernel_rfl)]
  rfl
theorem bits64 (b : Nat) (w : World) : (callFunc 216 #[.float .f64 b]).run Tryz.prog w = .ok (.value (.int .u64 b)) w := by
  rw [run_callFunc_extern (P := Tryz.prog) (e := Extern.MathFloatBits.float64bits) Tryz.func216 (by kernel_rfl) (by kernel_rfl) (by kernel_rfl) (by kernel_rfl)]
  rfl
theorem signbit_any (r : Nat) (hr : r < 18446744073709551616) (w : World) : Calls Tryz.prog 160 #[.float .f64 r] w fun e w' => e = .returned (.bool (decide (9223372036854775808 ≤ r))) ∧ w = w' := by
  have hd := fun v => bits64 r v
  by_cases h : 9223372036854775808 ≤ r
  · have hw : IntKind.i64.wrap (r : Int) = (r : Int) - 18446744073709551616 := by
      have e : (r : Int) % 2 ^ 64 = r := by omega
      simp only [IntKind.wrap, IntKind.bits, IntKind.signed, e]
      rw [if_pos (by simp; omega)]; omega
    have HF : Hid (decide ((r : Int) - 18446744073709551616 < 0) = decide (9223372036854775808 ≤ r)) := by
      show _ = _
      rw [decide_eq_true h, decide_eq_true (by omega)]
    clear h
    go_enter Tryz.func160, Tryz.ntmps160
    go_wp2_with fail
    go_ret
    exact ⟨ret_bool HF.out, rfl⟩
  · have hw : IntKind.i64.wrap (r : Int) = (r : Int) := by
      have e : (r : Int) % 2 ^ 64 = r := by omega
      simp only [IntKind.wrap, IntKind.bits, IntKind.signed, e]
      rw [if_neg (by simp; omega)]
    have HF : Hid (decide ((r : Int) < 0) = decide (9223372036854775808 ≤ r)) := by
      show _ = _
      rw [decide_eq_false h, decide_eq_false (by omega)]
    have h' : r < 9223372036854775808 := by omega
    clear h
    go_enter Tryz.func160, Tryz.ntmps160
    go_wp2_with fail
    go_ret
    exact ⟨ret_bool HF.out, rfl⟩
set_option maxHeartbeats 4000000 in
theorem sameNumber_any (x y : Nat) (hx : x < 4294967296) (hy : y < 4294967296) (w : World) : Calls Tryz.prog 89 #[.float .f32 x, .float .f32 y] w fun e w' => e = .returned (.bool (sameN x y)) ∧ w = w' := by
  cases h : nanF x with
  | true =>
    have ht : (FloatKind.f32.format.order x x != some .eq) = true := h
    cases g : nanF y with
    | true =>
      have gt : (FloatKind.f32.format.order y y != some .eq) = true := g
      have HF : Hid (sameN x y = true) := by simp [Hid, sameN, bitsF, h, g]
      clear h g
      go_enter Tryz.func89, Tryz.ntmps89
      go_wp2_with fail
      go_ret
      exact ⟨ret_bool HF.out.symm, rfl⟩
    | false =>
      have gt : (FloatKind.f32.format.order y y != some .eq) = false := g
      have HF : Hid (sameN x y = false) := by
        show _ = _
        have : bitsF x = 2143289344 := by simp [bitsF, h]
        have e2 : bitsF y = y := by simp [bitsF, g]
        unfold sameN
        rw [this, e2, beq_eq_false_iff_ne]
        intro e
        have : y = 2143289344 := by omega
        rw [this, bits_word] at g; cases g
      clear h g
      go_enter Tryz.func89, Tryz.ntmps89
      go_wp2_with fail
      go_ret
      exact ⟨ret_bool HF.out.symm, rfl⟩
  | false =>
    have ht : (FloatKind.f32.format.order x x != some .eq) = false := h
    cases g : nanF y with
    | true =>
      have gt : (FloatKind.f32.format.order y y != some .eq) = true := g
      have HF : Hid (sameN x y = false) := by
        show _ = _
        have : bitsF y = 2143289344 := by simp [bitsF, g]
        have e2 : bitsF x = x := by simp [bitsF, h]
        unfold sameN
        rw [this, e2, beq_eq_false_iff_ne]
        intro e
        have : x = 2143289344 := by omega
        rw [this, bits_word] at h; cases h
      clear h g
      go_enter Tryz.func89, Tryz.ntmps89
      go_wp2_with fail
      go_ret
      exact ⟨ret_bool HF.out.symm, rfl⟩
    | false =>
      have gt : (FloatKind.f32.format.order y y != some .eq) = false := g
      have HS : Hid (sameN x y = decide (x = y)) := by
        show _ = _
        have e1 : bitsF x = x := by simp [bitsF, h]
        have e2 : bitsF y = y := by simp [bitsF, g]
        unfold sameN
        rw [e1, e2, Bool.eq_iff_iff, beq_iff_eq, decide_eq_true_iff]
        omega
      cases o : (FloatKind.f32.format.order x y == some .eq) with
      | false =>
        have HF : Hid (sameN x y = false) := by
          show _ = _
          rw [HS.out]
          refine decide_eq_false (not_eq_order (nanF_no h) ?_)
          intro e
          have e' : FloatKind.f32.format.order x y = some .eq := e
          rw [e'] at o; cases o
        clear h g
        go_enter Tryz.func89, Tryz.ntmps89
        go_wp2_with fail
        go_ret
        exact ⟨ret_bool HF.out.symm, rfl⟩
      | true =>
        have ho : single.order x y = some .eq := by
          have o' : FloatKind.f32.format.order x y = some .eq := by simpa using o
          exact o'
        obtain ⟨r, r1, r2, r3⟩ := wide_sign hx (nanF_no h)
        obtain ⟨s, s1, s2, s3⟩ := wide_sign hy (nanF_no g)
        have c1 : ∀ v : World, (convert 95 198 (.float .f32 x)).run Tryz.prog v = .ok (.float .f64 r) v := fun v => run_convert_float_float _ _ _ _ _ _ _ (by kernel_rfl) Tryz.underlying198 r1
        have c2 : ∀ v : World, (convert 95 198 (.float .f32 y)).run Tryz.prog v = .ok (.float .f64 s) v := fun v => run_convert_float_float _ _ _ _ _ _ _ (by kernel_rfl) Tryz.underlying198 s1
        have L1 := Lib.hid (signbit_any r r2 w)
        have L2 := Lib.hid (signbit_any s s2 w)
        have HF : Hid (sameN x y = (decide (9223372036854775808 ≤ r) == decide (9223372036854775808 ≤ s))) := by
          show _ = _
          rw [HS.out, Bool.eq_iff_iff, decide_eq_true_iff, beq_iff_eq, decide_eq_decide, r3, s3]
          constructor
          · rintro rfl; exact Iff.rfl
          · intro e
            exact single_eq hx hy ho (by omega)
        clear h g r1 s1 ho r3 s3
        generalize decide (9223372036854775808 ≤ r) = br at *
        generalize decide (9223372036854775808 ≤ s) = bs' at *
        go_enter Tryz.func89, Tryz.ntmps89
        go_wp2_with fail
        refine L1.out.mono ?_
        rintro e w1 ⟨rfl, rfl⟩
        go_wp2_with fail
        refine L2.out.mono ?_
        rintro e w1 ⟨rfl, rfl⟩
        go_wp2_with fail
        go_ret
        exact ⟨ret_bool HF.out.symm, rfl⟩
end Go.Proofs.YtkbejmjkdnfemaaGreatDoor
namespace Go.Proofs.YtkbejmjkdnfemaaGreatDoor
set_option linter.unusedVariables false
set_option linter.unusedSimpArgs false
open Go.RowKit

/-- A digit below 16. -/
def hexD (d : Nat) : UInt8 := if d < 10 then UInt8.ofNat (48 + d) else UInt8.ofNat (87 + d)
/-- The last k digits. -/
def hexK : Nat → Nat → List UInt8
  | 0, _ => []
  | k + 1, u => hexK k (u / 16) ++ [hexD (u % 16)]
/-- As many digits as there are. -/
def hexU (u : Nat) : List UInt8 := if u < 16 then [hexD u] else hexU (u / 16) ++ [hexD (u % 16)]
termination_by u
decreasing_by omega
theorem hexU_small {u : Nat} (h : u < 16) : hexU u = [hexD u] := by rw [hexU, if_pos h]
theorem hexU_more {u : Nat} (h : ¬ u < 16) : hexU u = hexU (u / 16) ++ [hexD (u % 16)] := by rw [hexU, if_neg h]
theorem hexK_len : ∀ k u, (hexK k u).length = k
  | 0, _ => rfl
  | k + 1, u => by rw [hexK, List.length_append, hexK_len k]; rfl
theorem hexU_pos (u : Nat) : 1 ≤ (hexU u).length := by
  by_cases h : u < 16
  · rw [hexU_small h]; simp
  · rw [hexU_more h]; simp
theorem hexU_len : ∀ k u, u < 16 ^ (k + 1) → (hexU u).length ≤ k + 1
  | 0, u, h => by rw [hexU_small (by omega)]; simp
  | k + 1, u, h => by
    by_cases h16 : u < 16
    · rw [hexU_small h16]; simp
    · rw [hexU_more h16, List.length_append, List.length_singleton]
      have := hexU_len k (u / 16) (by rw [Nat.div_lt_iff_lt_mul (by omega)]; rw [Nat.pow_succ] at h; exact h)
      omega
theorem hexK_zero : ∀ k, hexK k 0 = List.replicate k 48
  | 0 => rfl
  | k + 1 => by
    rw [hexK, Nat.zero_div, hexK_zero k, Nat.zero_mod, List.replicate_succ']; rfl
theorem hex_pad : ∀ k u, u < 16 ^ (k + 1) → List.replicate (k + 1 - (hexU u).length) 48 ++ hexU u = hexK (k + 1) u
  | 0, u, h => by
    rw [hexU_small (by omega), hexK, hexK, Nat.mod_eq_of_lt (by omega)]; rfl
  | k + 1, u, h => by
    by_cases h16 : u < 16
    · rw [hexU_small h16, hexK, Nat.div_eq_of_lt h16, hexK_zero, Nat.mod_eq_of_lt h16]; rfl
    · have hd : u / 16 < 16 ^ (k + 1) := by rw [Nat.div_lt_iff_lt_mul (by omega)]; rw [Nat.pow_succ] at h; exact h
      have ih := hex_pad k (u / 16) hd
      have hp := hexU_pos (u / 16)
      rw [hexU_more h16, hexK, ← ih, List.length_append, List.length_singleton, ← List.append_assoc]
      congr 3
      omega
def hexF (u : Nat) : List UInt8 := hexK 8 u
theorem hexF_len (u : Nat) : (hexF u).length = 8 := hexK_len 8 u
theorem hexF_pad {u : Nat} (h : u < 4294967296) : (hexU u).length ≤ 8 ∧ List.replicate (8 - (hexU u).length) 48 ++ hexU u = hexF u := ⟨hexU_len 7 u (by omega), hex_pad 7 u (by omega)⟩
theorem hexD_cases (d : Nat) (h : d < 16) : (48 ≤ (hexD d).toNat ∧ (hexD d).toNat ≤ 57) ∨ (97 ≤ (hexD d).toNat ∧ (hexD d).toNat ≤ 102) :=
  (by decide : ∀ q : Fin 16, (48 ≤ (hexD q).toNat ∧ (hexD q).toNat ≤ 57) ∨ (97 ≤ (hexD q).toNat ∧ (hexD q).toNat ≤ 102)) ⟨d, h⟩
theorem hexK_mem : ∀ k u b, b ∈ hexK k u → (48 ≤ b.toNat ∧ b.toNat ≤ 57) ∨ (97 ≤ b.toNat ∧ b.toNat ≤ 102)
  | 0, _, b, h => by cases h
  | k + 1, u, b, h => by
    rw [hexK] at h
    rcases List.mem_append.1 h with h | h
    · exact hexK_mem k _ b h
    · rw [List.mem_singleton] at h
      rw [h]
      exact hexD_cases _ (Nat.mod_lt _ (by omega))
/-- The number of a digit, of small or great letters. -/
def lowHx (b : UInt8) : Nat := (b ||| 32).toNat
def hexV (b : UInt8) : Option Nat := if 48 ≤ b.toNat ∧ b.toNat ≤ 57 then some (b.toNat - 48) else if 97 ≤ lowHx b ∧ lowHx b ≤ 102 then some (lowHx b - 87) else none
/-- The number of a text; 0 where there is none. -/
def readU : Nat → List UInt8 → Option Nat
  | n, [] => some n
  | n, b :: l => match hexV b with
    | none => none
    | some d => readU (16 * n + d) l
def rdHex (l : List UInt8) : Nat := (readU 0 l).getD 0
theorem hexV_D (d : Nat) (h : d < 16) : hexV (hexD d) = some d :=
  (by decide : ∀ q : Fin 16, hexV (hexD q) = some q.1) ⟨d, h⟩
theorem hexV_lt {b : UInt8} {d : Nat} (h : hexV b = some d) : d < 16 := by
  unfold hexV at h
  split at h
  · injection h with h; omega
  · split at h
    · injection h with h; omega
    · cases h
theorem readU_app : ∀ (l m : List UInt8) (n : Nat), readU n (l ++ m) = (readU n l).bind fun k => readU k m
  | [], m, n => rfl
  | b :: l, m, n => by
    rw [List.cons_append, readU, readU]
    cases hexV b with
    | none => rfl
    | some d => exact readU_app l m _
theorem readU_K : ∀ k u, u < 16 ^ k → readU 0 (hexK k u) = some u
  | 0, u, h => by have : u = 0 := by omega
                  subst this; rfl
  | k + 1, u, h => by
    have hd : u / 16 < 16 ^ k := by rw [Nat.div_lt_iff_lt_mul (by omega)]; rw [Nat.pow_succ] at h; exact h
    rw [hexK, readU_app, readU_K k _ hd]
    show readU (u / 16) [hexD (u % 16)] = some u
    rw [readU, hexV_D _ (Nat.mod_lt _ (by omega))]
    show some (16 * (u / 16) + u % 16) = some u
    congr 1; omega
theorem rdHex_F {u : Nat} (h : u < 4294967296) : rdHex (hexF u) = u := by
  unfold rdHex hexF
  rw [readU_K 8 u (by omega)]; rfl
theorem readU_bd : ∀ (l : List UInt8) (n m : Nat), readU n l = some m → m < (n + 1) * 16 ^ l.length
  | [], n, m, h => by rw [readU] at h; injection h with h; subst h; simp
  | b :: l, n, m, h => by
    rw [readU] at h
    cases hv : hexV b with
    | none => rw [hv] at h; cases h
    | some d =>
      rw [hv] at h
      have h1 := readU_bd l _ _ h
      have h2 := hexV_lt hv
      have h3 : (16 * n + d + 1) * 16 ^ l.length ≤ ((n + 1) * 16) * 16 ^ l.length := Nat.mul_le_mul_right _ (by omega)
      rw [List.length_cons, Nat.pow_succ, Nat.mul_comm (16 ^ l.length) 16, ← Nat.mul_assoc]
      omega
theorem rdHex_lt {l : List UInt8} (h : l.length = 8) : rdHex l < 4294967296 := by
  unfold rdHex
  cases hr : readU 0 l with
  | none => simp
  | some m =>
    have := readU_bd l 0 m hr
    rw [h] at this
    simpa using this
/-- The bits of a number, of any NaN the same. -/
def bitsN (x : Nat) : Nat := if nanF x then 2143289344 else x
theorem bitsN_lt {x : Nat} (h : x < 4294967296) : bitsN x < 4294967296 := by unfold bitsN; split <;> omega
theorem bitsN_twice (x : Nat) : bitsN (bitsN x) = bitsN x := by
  by_cases h : nanF x = true
  · have e : bitsN x = 2143289344 := by unfold bitsN; rw [if_pos h]
    rw [e]; unfold bitsN; rw [bits_word]; rfl
  · have e : bitsN x = x := by unfold bitsN; rw [if_neg h]
    rw [e, e]
/-- The text of numbers. -/
def hexT (x : Nat) : List UInt8 := hexF (bitsN x)
theorem hexT_len (x : Nat) : (hexT x).length = 8 := hexF_len _
def ntextL (xs : List Nat) : List UInt8 := if xs = [] then noneL else Lib.join (xs.map hexT) [44]
def oneN (p : List UInt8) : Option Nat := if p.length = 8 then some (rdHex p) else none
/-- The numbers of a text. -/
def numbersF (l : List UInt8) : Option (List Nat) := match allO oneN (pcsF l) with
  | none => none
  | some xs => if xs.length ≤ 256 ∧ ntextL xs = l then some xs else none
theorem numbersF_none {l : List UInt8} (h : allO oneN (pcsF l) = none) : numbersF l = none := by unfold numbersF; rw [h]
theorem numbersF_some {l : List UInt8} {xs : List Nat} (h : allO oneN (pcsF l) = some xs) : numbersF l = if xs.length ≤ 256 ∧ ntextL xs = l then some xs else none := by unfold numbersF; rw [h]
theorem numbersF_long {l : List UInt8} (h : 256 < (pcsF l).length) : numbersF l = none := by
  cases ha : allO oneN (pcsF l) with
  | none => exact numbersF_none ha
  | some xs => rw [numbersF_some ha, if_neg]; rintro ⟨h1, _⟩; have := allO_len ha; omega
theorem oneN_some {p : List UInt8} (h : p.length = 8) : oneN p = some (rdHex p) := if_pos h
theorem oneN_none {p : List UInt8} (h : p.length ≠ 8) : oneN p = none := if_neg h
theorem allO_mem {α β : Type} {f : α → Option β} {Q : β → Prop} (hq : ∀ x y, f x = some y → Q y) : ∀ {xs : List α} {ys : List β}, allO f xs = some ys → ∀ y ∈ ys, Q y
  | [], ys, h, y, hy => by rw [allO] at h; injection h with h; subst h; cases hy
  | x :: xs, ys, h, y, hy => by
    cases hx : f x with
    | none => rw [allO_none hx] at h; cases h
    | some z =>
      rw [allO_some hx] at h
      cases hr : allO f xs with
      | none => rw [hr] at h; cases h
      | some zs =>
        rw [hr] at h
        injection h with h
        subst h
        rcases List.mem_cons.1 hy with rfl | hy
        · exact hq x _ hx
        · exact allO_mem hq hr y hy
theorem oneN_lt {p : List UInt8} {x : Nat} (h : oneN p = some x) : x < 4294967296 := by
  unfold oneN at h
  split at h
  · rename_i hl
    injection h with h
    rw [← h]; exact rdHex_lt hl
  · cases h
theorem numbersF_get {l : List UInt8} {xs : List Nat} (h : numbersF l = some xs) : xs.length ≤ 256 ∧ ntextL xs = l ∧ ∀ x ∈ xs, x < 4294967296 := by
  cases ha : allO oneN (pcsF l) with
  | none => rw [numbersF_none ha] at h; cases h
  | some ys =>
    rw [numbersF_some ha] at h
    split at h
    · rename_i hc
      injection h with h
      subst h
      exact ⟨hc.1, hc.2, allO_mem (fun p y hy => oneN_lt hy) ha⟩
    · cases h
theorem ntextL_len (xs : List Nat) : (ntextL xs).length ≤ 9 * xs.length + 4 := by
  unfold ntextL
  split
  · simp [noneL]
  · have := join_len (m := 8) (xs := xs.map hexT) (sep := [44]) (fun x hx => by
      obtain ⟨y, _, rfl⟩ := List.mem_map.1 hx
      rw [hexT_len]; exact Nat.le_refl _)
    rw [List.length_map] at this
    simp at this; omega
theorem hexT_mem {x : Nat} {b : UInt8} (h : b ∈ hexT x) : (48 ≤ b.toNat ∧ b.toNat ≤ 57) ∨ (97 ≤ b.toNat ∧ b.toNat ≤ 102) := hexK_mem 8 _ b h
end Go.Proofs.YtkbejmjkdnfemaaGreatDoor
namespace Go.Proofs.YtkbejmjkdnfemaaGreatDoor
set_option linter.unusedVariables false
set_option linter.unusedSimpArgs false
open Go.RowKit

theorem bs_plus (a b : List UInt8) : bs a ++ bs b = bs (a ++ b) := by
  apply ext_bs
  rw [ByteArray.data_append]; simp [bs]
end Go.Proofs.YtkbejmjkdnfemaaGreatDoor
