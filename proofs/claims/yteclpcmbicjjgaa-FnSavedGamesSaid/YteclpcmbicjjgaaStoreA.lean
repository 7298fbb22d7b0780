/-
  The bytes of all that is saved: both roads.
-/
import Derived.Test.YteclpcmbicjjgaaStoreR
import Derived.Test.YteclpcmbicjjgaaSavO
namespace Go.Proofs.Yteclpcmbicjjgaa
set_option linter.unusedVariables false
set_option linter.unusedSimpArgs false
open Go.RowKit

def svB (v : Sv) : Bool := savedB v.s v.R v.C v.A v.B v.P v.W
def svL (v : Sv) : List UInt8 := storeL v.s v.R v.C v.A v.B v.P v.W
def allL (vs : List Sv) : List UInt8 := vs.flatMap svL
def storeAllF (vs : List Sv) : ByteArray × Bool := if decide (vs.length ≤ 8) && vs.all svB then (bs (allL vs), true) else (⟨#[]⟩, false)
theorem allL_snoc {vs : List Sv} {k : Nat} {v : Sv} (h : vs[k]? = some v) : bs (allL (vs.take k)) ++ bs (svL v) = bs (allL (vs.take (k + 1))) := by
  apply ext_bs
  rw [List.take_add_one, h]
  simp [allL, bs_list]
  try rfl
theorem svL_len {v : Sv} (h : svB v = true) : (svL v).length ≤ 300 := by
  obtain ⟨ls, _, _, _, lA, lB, lW, _⟩ := savedB_spec h
  rw [svL, storeL, List.length_append, bodyF_len]
  simp; omega
theorem allL_len : ∀ vs : List Sv, vs.all svB = true → (allL vs).length ≤ 300 * vs.length
  | [], _ => by simp [allL]
  | v :: vs, h => by
    simp only [List.all_cons, Bool.and_eq_true] at h
    have h1 := svL_len h.1
    have h2 := allL_len vs h.2
    simp [allL] at h2 ⊢; omega
theorem svo_yes {v : Sv} (h : svB v = true) : storeOF v.s v.R v.C v.A v.B v.P v.W = (bs (svL v), true) := by unfold storeOF; rw [if_pos (show savedB v.s v.R v.C v.A v.B v.P v.W = true from h)]; rfl
theorem svo_no {v : Sv} (h : svB v = false) : storeOF v.s v.R v.C v.A v.B v.P v.W = (⟨#[]⟩, false) := by unfold storeOF; rw [if_neg (by rw [show savedB v.s v.R v.C v.A v.B v.P v.W = svB v from rfl, h]; simp)]
theorem all_take_v {vs : List Sv} {k : Nat} {v : Sv} (hc : vs[k]? = some v) (h : (vs.take k).all svB = true) (h2 : svB v = true) : (vs.take (k + 1)).all svB = true := by
  rw [List.take_add_one, hc]; simp [h2] at *; exact h
theorem all_no_v {vs : List Sv} {k : Nat} {v : Sv} (hc : vs[k]? = some v) (h2 : svB v = false) : storeAllF vs = (⟨#[]⟩, false) := by
  have : vs.all svB = false := by
    rw [← Bool.not_eq_true]; intro h
    have := List.all_eq_true.1 h v (List.mem_of_getElem? hc)
    rw [h2] at this; cases this
  simp [storeAllF, this]
theorem store_all {vs : List Sv} (h8 : vs.length ≤ 8) (h : (vs.take vs.length).all svB = true) : storeAllF vs = (bs (allL (vs.take vs.length)), true) := by
  rw [List.take_length] at h ⊢
  simp [storeAllF, h8, h]
theorem store_few {vs : List Sv} (h8 : ¬ vs.length ≤ 8) : storeAllF vs = (⟨#[]⟩, false) := by simp [storeAllF, h8]
set_option maxRecDepth 10000 in
set_option maxHeartbeats 4000000 in
theorem storeAll_any (w : World) (a : Option Addr) (cp : Nat) (vs : List Sv) (h : RdSs w w.heap.size a vs) (hl : vs.length ≤ 1048576) (hin : ∀ v ∈ vs, SvIn 1048576 v) :
    Calls Try.prog 23 #[.slice a vs.length cp] w fun e w' => e = .returned (.tuple #[.string (storeAllF vs).1, .bool (storeAllF vs).2]) ∧ Below w.heap.size w w' := by
  by_cases h8 : vs.length ≤ 8
  case neg =>
    have HF := Lib.hid (store_few h8)
    clear h hin
    go_enter Try.func23, Try.ntmps23
    go_wp2_with fail
    go_ret2
    exact ⟨by rw [HF.out]; rfl, Below.refl _ _⟩
  have Hh := Lib.hid h
  have Hin := Lib.hid hin
  have HE : Hid ((vs.take vs.length).all svB = true → storeAllF vs = (bs (allL (vs.take vs.length)), true)) := fun hh => store_all h8 hh
  clear h hin
  go_enter Try.func23, Try.ntmps23
  go_wp2_with fail
  go_loopw [14, 4] (fun iv sv wr => ∃ (k : Nat) (t : ByteArray), k ≤ vs.length ∧ iv = .int .i64 k ∧ sv = .string t ∧ t.size ≤ 300 * k ∧ Hid (t = bs (allL (vs.take k))) ∧ Hid ((vs.take k).all svB = true) ∧ Below w.heap.size w wr) (fun iv _ _ => vs.length - (intOf iv).toNat)
  case atStart => exact ⟨0, ⟨#[]⟩, Nat.zero_le _, rfl, rfl, by simp [ByteArray.size], rfl, rfl, Below.refl _ _⟩
  case round =>
    obtain ⟨k, t, hk, rfl, rfl, ht, hT, hA, hw⟩ := hrel
    by_cases hlt : k < vs.length
    · obtain ⟨v, hv⟩ : ∃ v, vs[k]? = some v := ⟨vs[k], by simp⟩
      obtain ⟨b, o, aA, cA, aB, cB, aW, cW, rfl, hb, e0, e1, e2, e3, e4, e5, e6, hr⟩ := (Hh.out.below hw (Nat.le_refl _)).get hv
      obtain ⟨m0, m1, m2, m3⟩ := Hin.out v (List.mem_of_getElem? hv)
      have k0 : (0 : Int) ≤ (k : Int) := Int.natCast_nonneg _
      have k1 : (k : Int) < (vs.length : Int) := by omega
      have hBx := bl1 wr (.cells #[.string v.s, .int .i64 v.R, .int .i64 v.C, .slice aA v.A.length cA, .slice aB v.B.length cB, .int .i64 v.P, .slice aW v.W.length cW] 34)
      have kX := Blk.new wr [.string v.s, .int .i64 v.R, .int .i64 v.C, .slice aA v.A.length cA, .slice aB v.B.length cB, .int .i64 v.P, .slice aW v.W.length cW] 34
      have LS := Lib.hid (storeSaved_any _ v.s v.R v.C v.P aA cA v.A aB cB v.B aW cW v.W ((hr.mono hw.size).to hBx) m0 m1 m2 m3)
      obtain ⟨x0, x1, x2, x3, x4, x5, x6⟩ := cells7 kX
      have hws := hw.size
      have BX := Lib.hid (hw.trans (hBx.mono hws))
      have hxs : w.heap.size ≤ (wr.alloc (.cells #[.string v.s, .int .i64 v.R, .int .i64 v.C, .slice aA v.A.length cA, .slice aB v.B.length cB, .int .i64 v.P, .slice aW v.W.length cW] 34)).heap.size := BX.out.size
      cases hV : svB v with
      | false =>
        have HF := Lib.hid (all_no_v hv hV)
        rw [svo_no hV] at LS
        clear hT hA hr hv hV hBx kX HE m0 m1 m2 m3
        go_wp2_with fail
        refine LS.out.mono ?_
        rintro e w1 ⟨rfl, hb1⟩
        have B1 := BX.out.trans (hb1.mono hxs)
        clear hb1 LS x0 x1 x2 x3 x4 x5 x6 e0 e1 e2 e3 e4 e5 e6
        go_wp2_with fail
        go_ret2
        exact ⟨by rw [HF.out]; rfl, B1⟩
      | true =>
        have hA2 := Lib.hid (all_take_v hv hA.out hV)
        have hT2 := Lib.hid (allL_snoc hv)
        rw [← hT.out] at hT2
        have hL := svL_len hV
        rw [svo_yes hV] at LS
        obtain ⟨t1, ht1⟩ : ∃ t1, t1 = bs (svL v) := ⟨_, rfl⟩
        have hl1 : t1.size ≤ 300 := by rw [ht1, bs_size]; exact hL
        rw [← ht1] at LS hT2
        have hsz : (t ++ t1).size = t.size + t1.size := ByteArray.size_append
        have hno : ¬ 9223372036854775807 < t.size + t1.size := by omega
        clear hT hA hr hv hV hBx kX HE m0 m1 m2 m3 hL ht1
        go_wp2_with fail
        refine LS.out.mono ?_
        rintro e w1 ⟨rfl, hb1⟩
        have B1 := BX.out.trans (hb1.mono hxs)
        clear hb1 LS x0 x1 x2 x3 x4 x5 x6 e0 e1 e2 e3 e4 e5 e6
        go_wp2_with fail
        go_roundw
        case rel => exact ⟨k + 1, t ++ t1, by omega, by go_num, rfl, by rw [hsz]; omega, hT2, hA2, B1⟩
        case measure => first | (simp [intOf]; done) | (simp [intOf]; omega)
    · have : k = vs.length := by omega
      subst this
      have HF := Lib.hid (HE.out hA.out)
      rw [← hT.out] at HF
      clear hT hA HE
      go_wp2_with fail
      go_ret2
      exact ⟨by rw [HF.out]; rfl, hw⟩
set_option maxRecDepth 10000 in
set_option maxHeartbeats 4000000 in
theorem storeAllR_any (w : World) (a : Option Addr) (cp : Nat) (vs : List Sv) (h : RdSs w w.heap.size a vs) (hl : vs.length ≤ 1048576) (hin : ∀ v ∈ vs, SvIn 1048576 v) :
    Calls Try.prog 22 #[.slice a vs.length cp] w fun e w' => e = .returned (.tuple #[.string (storeAllF vs).1, .bool (storeAllF vs).2]) ∧ Below w.heap.size w w' := by
  by_cases h8 : vs.length ≤ 8
  case neg =>
    have HF := Lib.hid (store_few h8)
    clear h hin
    go_enter Try.func22, Try.ntmps22
    go_wp2_with fail
    go_ret2
    exact ⟨by rw [HF.out]; rfl, Below.refl _ _⟩
  have Hh := Lib.hid h
  have Hin := Lib.hid hin
  have HE : Hid ((vs.take vs.length).all svB = true → storeAllF vs = (bs (allL (vs.take vs.length)), true)) := fun hh => store_all h8 hh
  clear h hin
  go_enter Try.func22, Try.ntmps22
  go_wp2_with fail
  go_loopw [11, 4] (fun iv sv wr => ∃ (k : Nat) (t : ByteArray), k ≤ vs.length ∧ iv = .int .i64 k ∧ sv = .string t ∧ t.size ≤ 300 * k ∧ Hid (t = bs (allL (vs.take k))) ∧ Hid ((vs.take k).all svB = true) ∧ Below w.heap.size w wr) (fun iv _ _ => vs.length - (intOf iv).toNat)
  case atStart => exact ⟨0, ⟨#[]⟩, Nat.zero_le _, rfl, rfl, by simp [ByteArray.size], rfl, rfl, Below.refl _ _⟩
  case round =>
    obtain ⟨k, t, hk, rfl, rfl, ht, hT, hA, hw⟩ := hrel
    by_cases hlt : k < vs.length
    · obtain ⟨v, hv⟩ : ∃ v, vs[k]? = some v := ⟨vs[k], by simp⟩
      obtain ⟨b, o, aA, cA, aB, cB, aW, cW, rfl, hb, e0, e1, e2, e3, e4, e5, e6, hr⟩ := (Hh.out.below hw (Nat.le_refl _)).get hv
      obtain ⟨m0, m1, m2, m3⟩ := Hin.out v (List.mem_of_getElem? hv)
      have k0 : (0 : Int) ≤ (k : Int) := Int.natCast_nonneg _
      have k1 : (k : Int) < (vs.length : Int) := by omega
      have hws := hw.size
      have hr' := hr.mono hws
      have LV := Lib.hid (l07Saved_any wr b (o + k * 7) v.s v.R v.C v.P aA cA v.A aB cB v.B aW cW v.W e0 e1 e2 e3 e4 e5 e6 hr' m0 m1 m2 m3)
      cases hV : svB v with
      | false =>
        have HF := Lib.hid (all_no_v hv hV)
        rw [show savedB v.s v.R v.C v.A v.B v.P v.W = false from hV] at LV
        clear hT hA hr hv hV HE m0 m1 m2 m3 hr'
        go_wp2_with fail
        refine LV.out.mono ?_
        rintro e w1 ⟨rfl, n, rfl⟩
        have B1 := below_drewN hw n
        clear LV e0 e1 e2 e3 e4 e5 e6
        go_wp2_with fail
        go_ret2
        exact ⟨by rw [HF.out]; rfl, B1⟩
      | true =>
        have hA2 := Lib.hid (all_take_v hv hA.out hV)
        have hT2 := Lib.hid (allL_snoc hv)
        rw [← hT.out] at hT2
        have hL := svL_len hV
        have LS := Lib.hid (fun n => l07Store_any (wr.drewN n) b (o + k * 7) v.s v.R v.C v.P aA cA v.A aB cB v.B aW cW v.W e0 e1 e2 e3 e4 e5 e6 (hr'.to (drewN_below wr n)) hV)
        rw [show savedB v.s v.R v.C v.A v.B v.P v.W = true from hV] at LV
        rw [show storeL v.s v.R v.C v.A v.B v.P v.W = svL v from rfl] at LS
        obtain ⟨t1, ht1⟩ : ∃ t1, t1 = bs (svL v) := ⟨_, rfl⟩
        have hl1 : t1.size ≤ 300 := by rw [ht1, bs_size]; exact hL
        rw [← ht1] at LS hT2
        have hsz : (t ++ t1).size = t.size + t1.size := ByteArray.size_append
        have hno : ¬ 9223372036854775807 < t.size + t1.size := by omega
        clear hT hA hr hv hV HE m0 m1 m2 m3 hL ht1 hr' e0 e1 e2 e3 e4 e5 e6
        go_wp2_with fail
        refine LV.out.mono ?_
        rintro e w1 ⟨rfl, n, rfl⟩
        have B1 := Lib.hid (below_drewN hw n)
        go_wp2_with fail
        refine (LS.out n).mono ?_
        rintro e w2 ⟨rfl, hb2⟩
        have B2 := B1.out.trans (hb2.mono hws)
        clear hb2 LS LV
        go_wp2_with fail
        go_roundw
        case rel => exact ⟨k + 1, t ++ t1, by omega, by go_num, rfl, by rw [hsz]; omega, hT2, hA2, B2⟩
        case measure => first | (simp [intOf]; done) | (simp [intOf]; omega)
    · have : k = vs.length := by omega
      subst this
      have HF := Lib.hid (HE.out hA.out)
      rw [← hT.out] at HF
      clear hT hA HE
      go_wp2_with fail
      go_ret2
      exact ⟨by rw [HF.out]; rfl, hw⟩
end Go.Proofs.Yteclpcmbicjjgaa
