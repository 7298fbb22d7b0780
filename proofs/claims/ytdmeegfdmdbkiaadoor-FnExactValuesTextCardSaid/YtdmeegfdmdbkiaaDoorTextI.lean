/-
  Texts of lists of integers: the program's road.
-/
import Derived.Test.YtdmeegfdmdbkiaaDoorText
import Derived.Test.YtdmeegfdmdbkiaaDoorCut
namespace Go.Proofs.YtdmeegfdmdbkiaaDoor
set_option linter.unusedVariables false
set_option linter.unusedSimpArgs false
open Go.RowKit

theorem digits_take {xs : List Int} {k : Nat} {x : Int} (hx : xs[k]? = some x) : (xs.take (k + 1)).map Lib.itoa = (xs.take k).map Lib.itoa ++ [Lib.itoa x] := by
  rw [List.take_add_one, hx]; simp
set_option maxRecDepth 10000 in
set_option maxHeartbeats 4000000 in
theorem listText_any (w : World) (ht : Tab w) (a : Option Addr) (c : Nat) (xs : List Int) (h : Rd w w.heap.size a (ints xs)) (hl : xs.length ≤ 1048576) (hr : ∀ x ∈ xs, -9223372036854775808 ≤ x ∧ x ≤ 9223372036854775807) :
    Calls Tryd.prog 108 #[.slice a xs.length c] w fun e w' => e = .returned (.string (bs (textL xs))) ∧ Below w.heap.size w w' := by
  have HT := Lib.hid ht
  have HR := Lib.hid hr
  have HA := Lib.hid h
  clear h hr ht
  go_enter Tryd.func108, Tryd.ntmps108
  go_wp2_with fail
  go_loopw [3, 9] (fun v iv wr => ∃ k : Nat, k ≤ xs.length ∧ iv = .int .i64 k ∧ Hid (wr.ownsRow w.heap.size 9 1 v k (strs ((xs.take k).map Lib.itoa))) ∧ Below w.heap.size w wr) (fun _ iv _ => xs.length - (intOf iv).toNat)
  case atStart => exact ⟨0, Nat.zero_le _, rfl, own_empty w _, bl1 _ _⟩
  case round =>
    obtain ⟨k, hk, rfl, hO, hw⟩ := hrel
    have hws := hw.size
    by_cases hlt : k < xs.length
    · obtain ⟨b, o, x, rfl, hbb, hck, hx⟩ := (HA.out.to hw).get hlt
      have LD := Lib.hid (decimal_any wr (HT.out.to hw) x (HR.out x (List.mem_of_getElem? hx.out)).1 (HR.out x (List.mem_of_getElem? hx.out)).2)
      have HN := Lib.hid (digits_take hx.out)
      go_wp2_with fail
      refine LD.out.mono ?_
      rintro e w1 ⟨rfl, hb1⟩
      have hO1 := own_below hO.out hb1
      have hw1 := hw.trans (hb1.mono hws)
      have hs1 := hw1.size
      have hk2 : k ≤ 1099511627776 := by omega
      clear hO hb1 hck hw
      go_wp2_with (at_builtin; refine wpList_append_one _ rfl _ _ 35 rfl w.heap.size 9 (.string ByteArray.empty) 16 Tryd.underlying35 info_str rfl _ k _ rfl hO1 (.string (bs (Lib.itoa x))) rfl rfl (by omega) hk2 hs1 ?_)
      intro v' w' ho hgr
      have hw2 := below_append hw1 hO1 hgr (Nat.le_refl _) hs1
      have HO2 : Hid (w'.ownsRow w.heap.size 9 1 v' (k + 1) (strs ((xs.take (k + 1)).map Lib.itoa))) := by
        rw [HN.out, strs_append, List.map_take]; exact ho
      clear ho hgr hO1 hw1
      go_wp2_with fail
      go_roundw
      case rel => exact ⟨k + 1, by omega, by go_num, HO2, hw2⟩
      case measure => first | (simp [intOf]; done) | (simp [intOf]; omega)
    · have : k = xs.length := by omega
      subst this
      rw [List.take_length] at hO
      obtain ⟨a', c', rfl, hc', _⟩ := own_shape hO.out
      have hrd := rd_of_own hO.out (Nat.le_refl _)
      have LJ := joined_any wr a' c' (xs.map Lib.itoa) hrd (by rw [List.length_map]; exact hc') (by rw [List.length_map]; exact hl) (by
        have := join_len (m := 21) (xs := xs.map Lib.itoa) (sep := [44]) (fun x hx => by
          obtain ⟨y, hy, rfl⟩ := List.mem_map.1 hx
          have := HR.out y hy
          exact itoa_len this.1 this.2)
        rw [List.length_map] at this
        simp at this; omega)
      rw [List.length_map] at LJ
      have HE : Hid ((if xs.map Lib.itoa = [] then [110, 111, 110, 101] else Lib.join (xs.map Lib.itoa) [44]) = textL xs) := by
        show _ = _
        unfold textL
        cases xs <;> simp
      rw [HE.out] at LJ
      have LJ := Lib.hid LJ
      clear hO hrd
      go_wp2_with fail
      refine LJ.out.mono ?_
      rintro e w1 ⟨rfl, hb1⟩
      have hw2 := hw.trans (hb1.mono hws)
      clear hb1 hw
      go_wp2_with fail
      go_ret
      exact ⟨rfl, hw2⟩
set_option maxRecDepth 10000 in
set_option maxHeartbeats 4000000 in
theorem ListText_any (w : World) (ht : Tab w) (a : Option Addr) (c : Nat) (xs : List Int) (h : Rd w w.heap.size a (ints xs)) (hv : valOk xs = true) :
    Calls Tryd.prog 89 #[.slice a xs.length c] w fun e w' => e = .returned (.tuple #[.string (bs (textL xs)), .bool true]) ∧ Below w.heap.size w w' := by
  have hv2 := hv
  simp only [valOk, Bool.and_eq_true, decide_eq_true_eq] at hv2
  have LA := Lib.hid (areValues_any w a c xs h (by omega))
  rw [hv] at LA
  have LL := Lib.hid (listText_any w ht a c xs h (by omega) (fun x hx => by have := allIn_iff.1 hv2.1 x hx; omega))
  have h64 := hv2.2
  clear hv hv2 h ht
  go_enter Tryd.func89, Tryd.ntmps89
  go_wp2_with fail
  refine LA.out.mono ?_
  rintro e w1 ⟨rfl, rfl⟩
  go_wp2_with fail
  refine LL.out.mono ?_
  rintro e w1 ⟨rfl, hb1⟩
  go_wp2_with fail
  go_ret2
  exact ⟨rfl, hb1⟩
/-- Lists in a slice. -/
def RdP (w : World) (B : Nat) (a : Option Addr) (yss : List (List Int)) : Prop :=
  ∃ vs : List Value, vs.length = yss.length ∧ Rd w B a vs ∧ ∀ (k : Nat) (ys : List Int), yss[k]? = some ys → ∃ (a' : Option Addr) (c' : Nat), vs[k]? = some (Value.slice a' ys.length c') ∧ Rd w B a' (ints ys)
theorem RdP.to {w w' : World} {a : Option Addr} {yss : List (List Int)} (h : RdP w w.heap.size a yss) (hb : Below w.heap.size w w') : RdP w' w'.heap.size a yss := by
  obtain ⟨vs, h1, h2, h3⟩ := h
  exact ⟨vs, h1, h2.to hb, fun k ys hk => let ⟨a', c', e1, e3⟩ := h3 k ys hk; ⟨a', c', e1, e3.to hb⟩⟩
theorem RdP.get {w : World} {B : Nat} {a : Option Addr} {yss : List (List Int)} (h : RdP w B a yss) {k : Nat} (hk : k < yss.length) :
    ∃ b o ys a' c', a = some ⟨b, o, none⟩ ∧ b < B ∧ w.cell? ⟨b, o + k, none⟩ = some (.slice a' ys.length c') ∧ Rd w B a' (ints ys) ∧ Hid (yss[k]? = some ys) := by
  obtain ⟨vs, h1, h2, h3⟩ := h
  obtain ⟨b, o, v, ha, hb, hc, hv⟩ := h2.getV (k := k) (by omega)
  obtain ⟨a', c', e1, e3⟩ := h3 k yss[k] (List.getElem?_eq_getElem hk)
  have hv' := hv.out
  rw [e1] at hv'
  injection hv' with hv'
  exact ⟨b, o, yss[k], a', c', ha, hb, by rw [hc, hv'], e3, by simp [Hid, List.getElem?_eq_getElem hk]⟩
theorem texts_take {xss : List (List Int)} {k : Nat} {x : List Int} (hx : xss[k]? = some x) : (xss.take (k + 1)).map textL = (xss.take k).map textL ++ [textL x] := by
  rw [List.take_add_one, hx]; simp
def partsL (xss : List (List Int)) : List UInt8 := Lib.join (xss.map textL) [59]
set_option maxRecDepth 10000 in
set_option maxHeartbeats 4000000 in
theorem partsText_any (w : World) (ht : Tab w) (a : Option Addr) (c : Nat) (xss : List (List Int)) (h : RdP w w.heap.size a xss) (hl : xss.length ≤ 1024) (hr : ∀ x ∈ xss, valOk x = true) :
    Calls Tryd.prog 57 #[.slice a xss.length c] w fun e w' => e = .returned (.tuple #[.string (bs (partsL xss)), .bool true]) ∧ Below w.heap.size w w' := by
  have HT := Lib.hid ht
  have HR := Lib.hid hr
  have HA := Lib.hid h
  clear h hr ht
  go_enter Tryd.func57, Tryd.ntmps57
  go_wp2_with fail
  go_loopw [4, 12] (fun v iv wr => ∃ k : Nat, k ≤ xss.length ∧ iv = .int .i64 k ∧ Hid (wr.ownsRow w.heap.size 9 1 v k (strs ((xss.take k).map textL))) ∧ Below w.heap.size w wr) (fun _ iv _ => xss.length - (intOf iv).toNat)
  case atStart => exact ⟨0, Nat.zero_le _, rfl, own_empty w _, bl1 _ _⟩
  case round =>
    obtain ⟨k, hk, rfl, hO, hw⟩ := hrel
    have hws := hw.size
    by_cases hlt : k < xss.length
    · obtain ⟨b, o, x, a1, c1, rfl, hbb, hck, hrx, hx⟩ := (HA.out.to hw).get hlt
      have LD := Lib.hid (ListText_any wr (HT.out.to hw) a1 c1 x hrx (HR.out x (List.mem_of_getElem? hx.out)))
      have HN := Lib.hid (texts_take hx.out)
      clear hrx
      go_wp2_with fail
      refine LD.out.mono ?_
      rintro e w1 ⟨rfl, hb1⟩
      have hO1 := own_below hO.out hb1
      have hw1 := hw.trans (hb1.mono hws)
      have hs1 := hw1.size
      have hk2 : k ≤ 1099511627776 := by omega
      clear hO hb1 hck hw
      go_wp2_with (at_builtin; refine wpList_append_one _ rfl _ _ 35 rfl w.heap.size 9 (.string ByteArray.empty) 16 Tryd.underlying35 info_str rfl _ k _ rfl hO1 (.string (bs (textL x))) rfl rfl (by omega) hk2 hs1 ?_)
      intro v' w' ho hgr
      have hw2 := below_append hw1 hO1 hgr (Nat.le_refl _) hs1
      have HO2 : Hid (w'.ownsRow w.heap.size 9 1 v' (k + 1) (strs ((xss.take (k + 1)).map textL))) := by
        rw [HN.out, strs_append, List.map_take]; exact ho
      clear ho hgr hO1 hw1
      go_wp2_with fail
      go_roundw
      case rel => exact ⟨k + 1, by omega, by go_num, HO2, hw2⟩
      case measure => first | (simp [intOf]; done) | (simp [intOf]; omega)
    · have : k = xss.length := by omega
      subst this
      rw [List.take_length] at hO
      obtain ⟨a', c', rfl, hc', _⟩ := own_shape hO.out
      have hrd := rd_of_own hO.out (Nat.le_refl _)
      have LJ := join_any wr a' c' (xss.map textL) [59] hrd (by rw [List.length_map]; exact hc') (by rw [List.length_map]; omega) (by
        have := join_len (m := 2000) (xs := xss.map textL) (sep := [59]) (fun x hx => by
          obtain ⟨y, hy, rfl⟩ := List.mem_map.1 hx
          have hv := HR.out y hy
          simp only [valOk, Bool.and_eq_true, decide_eq_true_eq] at hv
          have := textL_len (xs := y) (fun z hz => by have := allIn_iff.1 hv.1 z hz; omega)
          omega)
        rw [List.length_map] at this
        simp at this; omega)
      rw [List.length_map] at LJ
      have LJ := Lib.hid LJ
      clear hO hrd
      go_wp2_with fail
      refine LJ.out.mono ?_
      rintro e w1 ⟨rfl, hb1⟩
      have hw2 := hw.trans (hb1.mono hws)
      clear hb1 hw
      go_wp2_with fail
      go_ret2
      exact ⟨rfl, hw2⟩
end Go.Proofs.YtdmeegfdmdbkiaaDoor
