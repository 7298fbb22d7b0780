/-
  Lists of lists counted from any number on.
-/
import Derived.Test.YtdipckpcmnhpjaaLawRows
namespace Go.Proofs.Ytdipckpcmnhpjaa
set_option linter.unusedVariables false
set_option linter.unusedSimpArgs false
open Go.RowKit
theorem OwnII.mono2 {T T2 lo hi lo' hi' c : Nat} {w : World} {a : Option Addr} {yss : List (List Int)} (h : OwnII T T2 w lo hi a c yss) (h1 : lo' ≤ lo) (h2 : hi ≤ hi') (h3 : hi' ≤ w.heap.size) : OwnII T T2 w lo' hi' a c yss := by
  obtain ⟨g, e1, e2, h4, h5, _, h6, h7⟩ := h
  exact ⟨g, e1, e2, by omega, by omega, h3, h6, h7⟩
section
open Go.ChangeShapes Go.WideShapes
theorem rows_field {H : Type} {enc : TypeId × Value → H} {P : Program} {w : World} {held : Bool} {t e q : TypeId} {fuel : Nat} {v : Value} {x : DataW H × List MemPlace} (ht : P.underlying t = some (.slice e)) (he : P.underlying e = some (.slice q)) (hq : P.underlying q = some (.int .i64)) (ce : P.cellsOf e = 1) (cq : P.cellsOf q = 1) (h : DataW.trod enc P w 0 (fun _ => true) held fuel t [v] = some x) :
    ∃ (a : Option Addr) (c : Nat) (yss : List (List Int)), v = .slice a yss.length c ∧ RdII w w.heap.size a yss ∧ yss.length ≤ 9223372036854775807 ∧ ∀ y ∈ yss, y.length ≤ 9223372036854775807 := by
  rcases Go.Deep.open_int_rows ht he hq ce cq h with ⟨hcs, _⟩ | ⟨x, l, c, A, L, C, Z, hcs, _, hl, hm, _, hr⟩
  · simp at hcs
    subst hcs
    exact ⟨none, 0, [], rfl, rdII_nil _ _ _, by simp, by simp⟩
  · simp at hcs
    subst hcs
    obtain ⟨yss, h1, h2, h3, h4⟩ := rdII_of_rows' hl hm fun r hr' => let ⟨h1, h2, h3, h4, h5, h6, h7⟩ := hr r hr'; ⟨h1, h2, h3, h4, h5, h6, fun a' ha => ⟨Nat.zero_le _, (h7 a' ha).2⟩⟩
    exact ⟨_, _, yss, by rw [h1], h2, h3, h4⟩
end
theorem szFF_specL {left : Int} {yss : List (List Int)} (h0 : 0 ≤ left) : -1 ≤ szFF left yss ∧ szFF left yss ≤ left ∧ (0 ≤ szFF left yss → (yss.length : Int) ≤ left ∧ ∀ y ∈ yss, (y.length : Int) ≤ left) := by
  unfold szFF
  by_cases h1 : left < yss.length
  · rw [if_pos h1]; exact ⟨by omega, by omega, fun h => by omega⟩
  · rw [if_neg h1]
    have key : ∀ (ys : List (List Int)) (l : Int), 0 ≤ l → -1 ≤ szRows ys l ∧ szRows ys l ≤ l := by
      intro ys
      induction ys with
      | nil => intro l hl; exact ⟨by simp only [szRows]; omega, by simp only [szRows]; omega⟩
      | cons y ys ih =>
        intro l hl
        have hb := szF_bd l y.length hl
        rw [szRows]
        split
        · omega
        · have := ih (szF l y.length) (by omega); omega
    have := key yss (left - yss.length) (by omega)
    refine ⟨by omega, by omega, fun h => ?_⟩
    obtain ⟨i1, i2⟩ := szRows_spec yss (left - yss.length) (by omega) h
    exact ⟨by omega, fun y hy => by have := i2 y hy; omega⟩
set_option maxHeartbeats 1000000 in
theorem szInt64SS_anyL (w : World) (a : Option Addr) (c : Nat) (yss : List (List Int)) (h : RdII w w.heap.size a yss) (hl : yss.length ≤ 9223372036854775807) (hin : ∀ y ∈ yss, y.length ≤ 9223372036854775807) (left : Int) (h0 : 0 ≤ left) (hlf : left ≤ 1048576) :
    Calls Try.prog 55 #[.slice a yss.length c, .int .i64 left] w fun e w' => e = .returned (.int .i64 (szFF left yss)) ∧ w = w' := by
  by_cases h1 : left < yss.length
  · have HF : Hid (szFF left yss = -1) := by simp [Hid, szFF, h1]
    clear h hin
    go_enter Try.func55, Try.ntmps55
    go_wp2
    go_ret
    exact ⟨ret_int HF.out.symm, rfl⟩
  · have HF : Hid (szFF left yss = szRows yss (left - yss.length)) := by simp only [Hid, szFF, if_neg h1]
    have Hin := Lib.hid hin
    clear hin
    go_enter Try.func55, Try.ntmps55
    go_wp2_with fail
    go_loop [1, 5] (fun lf i => ∃ (k : Nat) (l : Int), k ≤ yss.length ∧ 0 ≤ l ∧ l ≤ 1048576 ∧ i = .int .i64 k ∧ lf = .int .i64 l ∧ Hid (szRows yss (left - yss.length) = szRows (yss.drop k) l)) (fun _ i => yss.length - (intOf i).toNat)
    case atStart => exact ⟨0, _, Nat.zero_le _, by omega, by omega, rfl, rfl, rfl⟩
    case round =>
      obtain ⟨k, l, hk, hl0, hl1, rfl, rfl, ha⟩ := hrel
      by_cases hlt : k < yss.length
      · obtain ⟨b, o, ys, a', c', rfl, hbb, hcell, hc1, hr1, hy1⟩ := h.get hlt
        have hyl := Hin.out _ (List.mem_of_getElem? hy1.out)
        have hd : yss.drop k = ys :: yss.drop (k + 1) := by
          rw [List.drop_eq_getElem_cons hlt]
          have := hy1.out
          rw [List.getElem?_eq_getElem hlt] at this
          injection this with this
          rw [this]
        have hb := szF_bd l ys.length hl0
        have HS : Hid (szRows yss (left - yss.length) = if szF l ys.length < 0 then -1 else szRows (yss.drop (k + 1)) (szF l ys.length)) := by
          show _ = _
          rw [ha.out, hd, szRows]
        have L := Lib.hid (fun v => szInt64S_any' v a' ys.length c' l hl0 hl1 hyl)
        clear h hd ha
        generalize szF l ys.length = l2 at *
        obtain ⟨hb1, hb2⟩ := hb
        by_cases hn : l2 < 0
        · have HS2 : Hid (szRows yss (left - yss.length) = -1) := by rw [Hid, HS.out, if_pos hn]
          clear HS
          go_wp2_with (go_at_call 98; refine (L.out _).mono ?_; rintro e w' ⟨rfl, rfl⟩)
          go_ret
          exact ⟨ret_int (by rw [HF.out, HS2.out]), rfl⟩
        · have HS2 : Hid (szRows yss (left - yss.length) = szRows (yss.drop (k + 1)) l2) := by rw [Hid, HS.out, if_neg hn]
          clear HS
          go_wp2_with (go_at_call 98; refine (L.out _).mono ?_; rintro e w' ⟨rfl, rfl⟩)
          go_round
          case rel => exact ⟨k + 1, l2, by omega, by omega, by omega, by go_num, rfl, HS2⟩
          case measure => simp [intOf]; omega
      · have : k = yss.length := by omega
        subst this
        have HS2 : Hid (szRows yss (left - yss.length) = l) := by rw [Hid, ha.out, List.drop_length, szRows]
        clear ha h
        go_wp2
        go_ret
        exact ⟨ret_int (by rw [HF.out, HS2.out]), rfl⟩
end Go.Proofs.Ytdipckpcmnhpjaa
