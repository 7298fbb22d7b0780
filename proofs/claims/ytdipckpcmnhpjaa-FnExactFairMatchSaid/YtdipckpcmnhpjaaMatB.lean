/-
  The first pair that blocks a match: the program's road.
-/
import Derived.Test.YtdipckpcmnhpjaaMatI
import Derived.Test.YtdipckpcmnhpjaaLater
namespace Go.Proofs.Ytdipckpcmnhpjaa
set_option linter.unusedVariables false
set_option linter.unusedSimpArgs false
open Go.RowKit

set_option maxRecDepth 10000 in
set_option maxHeartbeats 8000000 in
theorem block_any (w : World) (a0 : Option Addr) (c0 : Nat) (x0 : List (List Int)) (a1 : Option Addr) (c1 : Nat) (x1 : List (List Int)) (h : RdWishes w w.heap.size a0 x0 a1 x1) (hv : Wish ⟨x0, x1⟩) (hin0 : ∀ y ∈ x0, y.length ≤ 1048576) (hin1 : ∀ y ∈ x1, y.length ≤ 1048576)
    (a : Option Addr) (c : Nat) (m : List Int) (g : Rd w w.heap.size a (ints m)) (hl : m.length = x0.length) :
    Calls Try.prog 61 #[.agg #[.slice a0 x0.length c0, .slice a1 x1.length c1], .slice a m.length c] w fun e w' => e = .returned (.tuple #[.int .i64 (bA (first2 x0.length (blocksI ⟨x0, x1⟩ m))), .int .i64 (bZ (first2 x0.length (blocksI ⟨x0, x1⟩ m))), .bool (first2 x0.length (blocksI ⟨x0, x1⟩ m)).isSome]) ∧ Below w.heap.size w w' := by
  obtain ⟨n, hn⟩ : ∃ n, n = x0.length := ⟨_, rfl⟩
  have hB := bl1 w (.cells #[.slice a0 x0.length c0, .slice a1 x1.length c1] 28)
  have KA : Hid (∀ w', Below (w.heap.size + 1) (w.alloc (.cells #[.slice a0 x0.length c0, .slice a1 x1.length c1] 28)) w' → Blk w' w.heap.size [.slice a0 x0.length c0, .slice a1 x1.length c1] 28) := fun w' hb => (Blk.new w [.slice a0 x0.length c0, .slice a1 x1.length c1] 28).below hb (by omega)
  have h8 := hv.n8
  have h1 := hv.n1
  have hln := Lib.hid hv.len
  simp only at h8 h1 hln
  have LC := Lib.hid (fun w' => count_any w' a0 c0 x0 a1 c1 x1)
  have LT : Hid (∀ (w' : World) (i k : Nat), Below w.heap.size w w' → i < n → k < n → _) := fun w' i k hb hi hk => take_any w' a0 c0 x0 a1 c1 x1 (h.to hb) hin0 hin1 i k (by omega) (by rw [hln.out]; omega)
  have LI := Lib.hid (fun w' hb (k : Int) => index_any w' a c m k (g.to hb) (by omega))
  have LD := Lib.hid (fun w' a c ys x y => dearer_any w' a c ys x y)
  have Hh := Lib.hid h
  have G := Lib.hid g
  have Hin0 := Lib.hid hin0
  have Hin1 := Lib.hid hin1
  have Hl : Hid (m.length = n) := by rw [hn]; exact hl
  have Hbl : Hid (∀ i k ys zs x, i < n → k < n → x0[i]? = some ys → x1[k]? = some zs → m[i]? = some x → blocksI ⟨x0, x1⟩ m i k = (pairB ⟨x0, x1⟩ i k && dearI ys k x && dearI zs i (indexI m k))) := by
    intro i k ys zs x _ _ e1 e2 e3
    unfold blocksI
    simp only [row_get e1, row_get e2, getD_of_get e3]
  have HH : Hid (∀ i k, i < n → k < n → blocksI ⟨x0, x1⟩ m i k = true → (∀ i' k', i' < i → k' < n → blocksI ⟨x0, x1⟩ m i' k' = false) → (∀ k', k' < k → blocksI ⟨x0, x1⟩ m i k' = false) → first2 n (blocksI ⟨x0, x1⟩ m) = some (i, k)) := fun i k h1 h2 h3 h4 h5 => first2_here h1 h2 h3 h4 h5
  have HZ : Hid ((∀ i k, i < n → k < n → blocksI ⟨x0, x1⟩ m i k = false) → first2 n (blocksI ⟨x0, x1⟩ m) = none) := fun hh => first2_none.2 hh
  rw [← hn]
  have Hn := Lib.hid hn
  rw [← hn] at h8 h1
  generalize hbf : blocksI ⟨x0, x1⟩ m = bf at *
  generalize hFF : first2 n bf = FF at *
  clear h g hv hin0 hin1 hbf hFF hl hn
  rw [← Hn.out] at KA LC hB LT
  go_enter Try.func61, Try.ntmps61
  go_wp2_with fail
  refine (LC.out _).mono ?_
  rintro e w1 ⟨rfl, hb1⟩
  have B1 := below_then hB hb1
  have A1 : Below (w.heap.size + 1) (w.alloc (.cells #[.slice a0 n c0, .slice a1 x1.length c1] 28)) w1 := by simpa using hb1
  clear hb1 hB
  go_wp2_with fail
  go_loopw [11] (fun iv wr => ∃ i : Nat, i ≤ n ∧ iv = .int .i64 i ∧ Hid (∀ i' k', i' < i → k' < n → bf i' k' = false) ∧ Below w.heap.size w wr ∧ Below (w.heap.size + 1) (w.alloc (.cells #[.slice a0 n c0, .slice a1 x1.length c1] 28)) wr) (fun iv _ => n - (intOf iv).toNat)
  case atStart => exact ⟨0, Nat.zero_le _, rfl, fun _ _ h => by omega, B1, A1⟩
  case round =>
    clear B1 A1
    obtain ⟨i, hi, rfl, hrows, hw, hA⟩ := hrel
    by_cases hlt : i < n
    · have k1 := KA.out _ hA
      have q0 := k1.cell 0
      have q1 := k1.cell 1
      simp only [List.getElem?_cons_zero, List.getElem?_cons_succ] at q0 q1
      clear k1
      go_wp2_with fail
      refine (LC.out _).mono ?_
      rintro e w2 ⟨rfl, hb2⟩
      have hw2 := below_then hw hb2
      have hA2 := hA.trans (hb2.mono (by have := hA.size; simpa using this))
      clear hb2 hw hA q0 q1
      go_wp2_with fail
      go_loopw [16] (fun kv wr => ∃ k : Nat, k ≤ n ∧ kv = .int .i64 k ∧ Hid (∀ k', k' < k → bf i k' = false) ∧ Below w.heap.size w wr ∧ Below (w.heap.size + 1) (w.alloc (.cells #[.slice a0 n c0, .slice a1 x1.length c1] 28)) wr) (fun kv _ => n - (intOf kv).toNat)
      case atStart => exact ⟨0, Nat.zero_le _, rfl, fun _ h => by omega, hw2, hA2⟩
      case round =>
        clear hw2 hA2
        obtain ⟨k, hk, rfl, hcols, hw, hA⟩ := hrel
        by_cases hlk : k < n
        · have k1 := KA.out _ hA
          have q0 := k1.cell 0
          have q1 := k1.cell 1
          simp only [List.getElem?_cons_zero, List.getElem?_cons_succ] at q0 q1
          obtain ⟨b2, o2, ys, a2, c2, e2, hb2, hc2, _, hr2, hy2⟩ := (Hh.out.1).get (k := i) (by rw [← Hn.out]; exact hlt)
          obtain ⟨b3, o3, zs, a3, c3, e3, hb3, hc3, _, hr3, hy3⟩ := (Hh.out.2).get (k := k) (by rw [hln.out, ← Hn.out]; exact hlk)
          obtain ⟨b4, o4, x, e4, hb4, hc4, hx4⟩ := G.out.get (k := i) (by rw [Hl.out]; exact hlt)
          subst e2 e3 e4
          have d2 := (hw.cell (p := ⟨b2, o2 + i, none⟩) hb2).trans hc2
          have d3 := (hw.cell (p := ⟨b3, o3 + k, none⟩) hb3).trans hc3
          have d4 := (hw.cell (p := ⟨b4, o4 + i, none⟩) hb4).trans hc4
          have LT1 : Hid (∀ w', Below wr.heap.size wr w' → _) := fun w' hb => LT.out w' i k (hw.trans (hb.mono hw.size)) hlt hlk
          have LD1 : Hid (∀ w', Below wr.heap.size wr w' → _) := fun w' hb => LD.out w' a2 c2 ys k x (hr2.to (hw.trans (hb.mono hw.size))) (Hin0.out ys (List.mem_of_getElem? hy2.out))
          have LD2 : Hid (∀ w', Below wr.heap.size wr w' → _) := fun w' hb => LD.out w' a3 c3 zs i (indexI m k) (hr3.to (hw.trans (hb.mono hw.size))) (Hin1.out zs (List.mem_of_getElem? hy3.out))
          have hbl := Hbl.out i k ys zs x hlt hlk hy2.out hy3.out hx4.out
          have LIk : Hid (∀ w', Below wr.heap.size wr w' → _) := fun w' hb => LI.out w' (hw.trans (hb.mono hw.size)) (k : Int)
          have hltA : w.heap.size < wr.heap.size := by have := hA.size; simp at this; omega
          have hlt2 : b2 < wr.heap.size := by have := hw.size; omega
          have hlt3 : b3 < wr.heap.size := by have := hw.size; omega
          have hlt4 : b4 < wr.heap.size := by have := hw.size; omega
          have F0 : ∀ z : Later wr, z.w'.cell? ⟨w.heap.size, 0, none⟩ = some (.slice (some ⟨b2, o2, none⟩) n c0) := fun z => z.cell hltA q0
          have F1 : ∀ z : Later wr, z.w'.cell? ⟨w.heap.size, 1, none⟩ = some (.slice (some ⟨b3, o3, none⟩) x1.length c1) := fun z => z.cell hltA q1
          have F2 : ∀ z : Later wr, z.w'.cell? ⟨b2, o2 + i, none⟩ = some (.slice a2 ys.length c2) := fun z => z.cell hlt2 d2
          have F3 : ∀ z : Later wr, z.w'.cell? ⟨b3, o3 + k, none⟩ = some (.slice a3 zs.length c3) := fun z => z.cell hlt3 d3
          have F4 : ∀ z : Later wr, z.w'.cell? ⟨b4, o4 + i, none⟩ = some (.int .i64 x) := fun z => z.cell hlt4 d4
          clear q0 q1 d2 d3 d4
          have i0 : (0 : Int) ≤ (i : Int) := Int.natCast_nonneg _
          have k0 : (0 : Int) ≤ (k : Int) := Int.natCast_nonneg _
          have i1 : (i : Int) < (n : Int) := by omega
          have kk1 : (k : Int) < (x1.length : Int) := by rw [hln.out, ← Hn.out]; omega
          have i2 : (i : Int) < (m.length : Int) := by rw [Hl.out]; omega
          have hAs : w.heap.size + 1 ≤ wr.heap.size := by omega
          generalize indexI m (k : Int) = ix at *
          clear k1 hr2 hr3 hc2 hc3 hc4 hy2 hy3 hx4
          have HN : Hid (∀ w' : World, bf i k = false → Below wr.heap.size wr w' → ∃ k' : Nat, k' ≤ n ∧ (Value.int .i64 ((k : Int) + 1)) = .int .i64 k' ∧ Hid (∀ q, q < k' → bf i q = false) ∧ Below w.heap.size w w' ∧ Below (w.heap.size + 1) (w.alloc (.cells #[.slice (some ⟨b2, o2, none⟩) n c0, .slice (some ⟨b3, o3, none⟩) x1.length c1] 28)) w') := fun w' hf hb =>
            ⟨k + 1, by omega, by go_num, fun q hq => by
              by_cases e : q = k
              · subst e; exact hf
              · exact hcols.out q (by omega), hw.trans (hb.mono hw.size), hA.trans (hb.mono hAs)⟩
          cases t1 : pairB ⟨x0, x1⟩ i k with
          | false =>
            rw [t1] at LT1
            rw [t1, Bool.false_and, Bool.false_and] at hbl
            go_wp2_with fail
            refine wp_region_later (by kernel_rfl) (by kernel_rfl) ?_
            repeat (go_big_quiet_step (first | (go_at_call 71; exact later_of (LT1.out _ (Later.h _))) | (go_at_call_of 72 a2; exact later_same (LD1.out _ (Later.h _))) | (go_at_call 105; exact later_same (LIk.out _ (Later.h _))) | (go_at_call_of 72 a3; exact later_same (LD2.out _ (Later.h _)))))
            refine wpQuiet_nil ?_
            rintro _ ⟨⟨wq, hbq⟩, rfl⟩
            clear F0 F1 F2 F3 F4
            go_wp2_with fail
            go_roundw
            case rel => exact HN.out _ hbl hbq
            case measure => simp [intOf]; omega
          | true =>
            rw [t1] at LT1
            rw [t1, Bool.true_and] at hbl
            cases t2 : dearI ys k x with
            | false =>
              rw [t2, Bool.false_and] at hbl
              rw [t2] at LD1
              go_wp2_with fail
              refine wp_region_later (by kernel_rfl) (by kernel_rfl) ?_
              repeat (go_big_quiet_step (first | (go_at_call 71; exact later_of (LT1.out _ (Later.h _))) | (go_at_call_of 72 a2; exact later_same (LD1.out _ (Later.h _))) | (go_at_call 105; exact later_same (LIk.out _ (Later.h _))) | (go_at_call_of 72 a3; exact later_same (LD2.out _ (Later.h _)))))
              refine wpQuiet_nil ?_
              rintro _ ⟨⟨wq, hbq⟩, rfl⟩
              clear F0 F1 F2 F3 F4
              go_wp2_with fail
              go_roundw
              case rel => exact HN.out _ hbl hbq
              case measure => simp [intOf]; omega
            | true =>
              rw [t2, Bool.true_and] at hbl
              rw [t2] at LD1
              cases t3 : dearI zs i ix with
              | false =>
                rw [t3] at hbl
                rw [t3] at LD2
                go_wp2_with fail
                refine wp_region_later (by kernel_rfl) (by kernel_rfl) ?_
                repeat (go_big_quiet_step (first | (go_at_call 71; exact later_of (LT1.out _ (Later.h _))) | (go_at_call_of 72 a2; exact later_same (LD1.out _ (Later.h _))) | (go_at_call 105; exact later_same (LIk.out _ (Later.h _))) | (go_at_call_of 72 a3; exact later_same (LD2.out _ (Later.h _)))))
                refine wpQuiet_nil ?_
                rintro _ ⟨⟨wq, hbq⟩, rfl⟩
                clear F0 F1 F2 F3 F4
                go_wp2_with fail
                go_roundw
                case rel => exact HN.out _ hbl hbq
                case measure => simp [intOf]; omega
              | true =>
                rw [t3] at hbl
                rw [t3] at LD2
                have HR : Hid (FF = some (i, k)) := HH.out i k hlt hlk hbl hrows.out hcols.out
                go_wp2_with fail
                refine wp_region_later (by kernel_rfl) (by kernel_rfl) ?_
                repeat (go_big_quiet_step (first | (go_at_call 71; exact later_of (LT1.out _ (Later.h _))) | (go_at_call_of 72 a2; exact later_same (LD1.out _ (Later.h _))) | (go_at_call 105; exact later_same (LIk.out _ (Later.h _))) | (go_at_call_of 72 a3; exact later_same (LD2.out _ (Later.h _)))))
                refine wpQuiet_nil ?_
                rintro _ ⟨⟨wq, hbq⟩, rfl⟩
                clear F0 F1 F2 F3 F4
                have HB := Lib.hid (hw.trans (hbq.mono hw.size))
                clear hbq
                go_wp2_with fail
                go_ret3
                exact ⟨by rw [HR.out]; rfl, HB.out⟩
        · have : k = n := by omega
          subst this
          have HROW : Hid (∀ i' k', i' < i + 1 → k' < k → bf i' k' = false) := fun i' k' h1 h2 => by
            by_cases e : i' = i
            · subst e; exact hcols.out k' h2
            · exact hrows.out i' k' (by omega) h2
          clear hcols hrows
          go_wp2_with fail
          go_roundw
          case rel => exact ⟨i + 1, by omega, by go_num, HROW, hw, hA⟩
          case measure => simp [intOf]; omega
    · have : i = n := by omega
      subst this
      have HR : Hid (FF = none) := HZ.out hrows.out
      clear hrows
      go_wp2_with fail
      go_ret3
      exact ⟨by rw [HR.out]; rfl, hw⟩
end Go.Proofs.Ytdipckpcmnhpjaa
