/-
  Texts of lists of integers: the reference's road.
-/
import Derived.Test.YtdmeegfdmdbkiaaDoorText
namespace Go.Proofs.YtdmeegfdmdbkiaaDoor
set_option linter.unusedVariables false
set_option linter.unusedSimpArgs false
open Go.RowKit

theorem bs_plus (a b : List UInt8) : bs a ++ bs b = bs (a ++ b) := by
  apply ext_bs
  rw [ByteArray.data_append]; simp [bs]
theorem itoa_head {xs : List Int} {x : Int} (h : xs[0]? = some x) : Lib.join ((xs.take 1).map Lib.itoa) [44] = Lib.itoa x := by
  cases xs with
  | nil => simp at h
  | cons y r => simp at h; subst h; simp [Lib.join_one]
set_option maxRecDepth 10000 in
set_option maxHeartbeats 4000000 in
theorem l01Text_any (w : World) (a : Option Addr) (c : Nat) (xs : List Int) (h : Rd w w.heap.size a (ints xs)) (hl : xs.length ≤ 1048576) (hr : ∀ x ∈ xs, -9223372036854775808 ≤ x ∧ x ≤ 9223372036854775807) :
    Calls Tryd.prog 85 #[.slice a xs.length c] w fun e w' => e = .returned (.string (bs (textL xs))) ∧ Below w.heap.size w w' := by
  by_cases he : xs = []
  · subst he
    go_enter Tryd.func85, Tryd.ntmps85
    go_wp2_with fail
    go_ret
    exact ⟨rfl, Below.refl _ _⟩
  · have h1 : 1 ≤ xs.length := by
      rcases Nat.eq_zero_or_pos xs.length with e | e
      · exact absurd (List.eq_nil_of_length_eq_zero e) he
      · exact e
    have HE : Hid (textL xs = Lib.join (xs.map Lib.itoa) [44]) := by
      show _ = _
      unfold textL; rw [if_neg he]
    have HR := Lib.hid hr
    have HA := Lib.hid h
    obtain ⟨b, o, x, rfl, hbb, hck, hx⟩ := h.get (k := 0) (by omega)
    have LD := Lib.hid (l01Dec_any w x (hr x (List.mem_of_getElem? hx.out)).1 (hr x (List.mem_of_getElem? hx.out)).2)
    have HH := Lib.hid (itoa_head hx.out)
    rw [Nat.add_zero] at hck
    clear he hr h
    go_enter Tryd.func85, Tryd.ntmps85
    go_wp2_with fail
    refine LD.out.mono ?_
    rintro e w1 ⟨rfl, hb1⟩
    clear hck
    go_wp2_with fail
    go_loopw [3, 4] (fun v iv wr => ∃ k : Nat, 1 ≤ k ∧ k ≤ xs.length ∧ iv = .int .i64 k ∧ v = .string (bs (Lib.join ((xs.take k).map Lib.itoa) [44])) ∧ Below w.heap.size w wr) (fun _ iv _ => xs.length - (intOf iv).toNat)
    case atStart => exact ⟨1, Nat.le_refl _, h1, rfl, by rw [HH.out], hb1⟩
    case round =>
      clear hb1
      obtain ⟨k, hk1, hk, rfl, rfl, hw⟩ := hrel
      have hws := hw.size
      by_cases hlt : k < xs.length
      · obtain ⟨b', o', x', ea, hbb', hck, hx'⟩ := (HA.out.to hw).get hlt
        injection ea with ea
        injection ea with ea1 ea2 _
        subst ea1 ea2
        have LD' := Lib.hid (l01Dec_any wr x' (HR.out x' (List.mem_of_getElem? hx'.out)).1 (HR.out x' (List.mem_of_getElem? hx'.out)).2)
        have HN := Lib.hid (join_snoc (xs := xs.map Lib.itoa) (sep := [44]) hk1 (y := Lib.itoa x') (by rw [List.getElem?_map, hx'.out]; rfl))
        rw [← List.map_take, ← List.map_take] at HN
        have hp1 := bs_plus [44] (Lib.itoa x')
        have hp2 := bs_plus (Lib.join ((xs.take k).map Lib.itoa) [44]) ([44] ++ Lib.itoa x')
        rw [← HN.out] at hp2
        have z1 : (bs (Lib.itoa x')).size ≤ 21 := by
          rw [bs_size]; exact itoa_len (HR.out x' (List.mem_of_getElem? hx'.out)).1 (HR.out x' (List.mem_of_getElem? hx'.out)).2
        have z2 : (bs (Lib.join ((xs.take k).map Lib.itoa) [44])).size ≤ 100000000 := by
          have := join_len (m := 21) (xs := (xs.take k).map Lib.itoa) (sep := [44]) (fun x hx => by
            obtain ⟨y, hy, rfl⟩ := List.mem_map.1 hx
            have := HR.out y (List.mem_of_mem_take hy)
            exact itoa_len this.1 this.2)
          rw [List.length_map, List.length_take] at this
          rw [bs_size]
          refine Nat.le_trans this (Nat.le_trans (Nat.mul_le_mul_left _ (Nat.min_le_left _ _)) ?_)
          show (21 + 1) * k ≤ 100000000
          have hk3 : k ≤ 1048576 := Nat.le_trans hk hl
          omega
        generalize Lib.join ((xs.take k).map Lib.itoa) [44] = J at *
        go_wp2_with fail
        refine LD'.out.mono ?_
        rintro e w2 ⟨rfl, hb2⟩
        have hw2 := hw.trans (hb2.mono hws)
        clear hb2 hw hck
        go_wp2_with fail
        go_roundw
        case rel => exact ⟨k + 1, by omega, by omega, by go_num, by rw [← hp2, ← hp1]; rfl, hw2⟩
        case measure => first | (simp [intOf]; done) | (simp [intOf]; omega)
      · have : k = xs.length := by omega
        subst this
        have HE2 : Hid (Lib.join ((xs.take xs.length).map Lib.itoa) [44] = textL xs) := by rw [Hid, List.take_length]; exact HE.out.symm
        rw [HE2.out]
        go_wp2_with fail
        go_ret
        exact ⟨rfl, hw⟩
end Go.Proofs.YtdmeegfdmdbkiaaDoor
