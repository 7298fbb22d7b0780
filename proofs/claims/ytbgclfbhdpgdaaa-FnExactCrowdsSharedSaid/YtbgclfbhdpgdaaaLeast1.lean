/-
  What is called for all choices by LeastTotal of the program.
-/
import Derived.Test.YtbgclfbhdpgdaaaWorst1
namespace Go.Proofs.Ytbgclfbhdpgdaaa
set_option linter.unusedVariables false
set_option linter.unusedSimpArgs false
open Go.RowKit

theorem enter_least (args : Array Value) (w : World) : (callFunc 76 args).run Try.prog w = .ok (.enter 76 args) w := by kernel_rfl
set_option maxRecDepth 10000 in
set_option maxHeartbeats 8000000 in
theorem least1_any (W : World) (base : Nat) (N n : Nat) (a2 : Option Addr) (c2 : Nat) (x2 : List Int) (a3 : Option Addr) (c3 : Nat) (x3 : List Int) (h0 : RdCrowd W W.heap.size a2 x2 a3 x3) (hB : W.heap.size + 3 ≤ base)
    (s : Best) (ch : List Int) (w : World) (c : Nat) (hs : ES W base [.int .i64 N, .int .i64 n, .slice a2 x2.length c2, .slice a3 x3.length c3] s w) (hw : base + 2 ≤ w.heap.size) (hc : Can ⟨N, n, x2, x3⟩ ch) (g : Rd w w.heap.size (some ⟨base + 1, 0, none⟩) (ints ch)) :
    Calls Try.prog 76 #[.slice (some ⟨base + 1, 0, none⟩) ch.length c, .pointer (some ⟨W.heap.size, 0, none⟩), .pointer (some ⟨W.heap.size + 1, 0, none⟩), .pointer (some ⟨W.heap.size + 2, 0, none⟩)] w
      fun e w' => e = .returned (.tuple #[]) ∧ ES W base [.int .i64 N, .int .i64 n, .slice a2 x2.length c2, .slice a3 x3.length c3] (leastStep ⟨N, n, x2, x3⟩ ch s) w' ∧ Touch w w' 0 base := by
  have hU1 : 1 ≤ ch.length := by have := hc.v.u1; have := hc.len; simp only at *; omega
  have hU8 : ch.length ≤ 8 := by have := hc.v.u8; have := hc.len; simp only at *; omega
  have hR : RdCrowd w w.heap.size a2 x2 a3 x3 := (h0.below hs.bel (Nat.le_refl _)).mono hs.bel.size
  have LT := Lib.hid (fun w' hb => total_any w' N n a2 c2 x2 a3 c3 x3 (some ⟨base + 1, 0, none⟩) c ch (hR.to hb) (g.to hb) hc)
  have LCl := Lib.hid (fun w' hb => clone_any w' (some ⟨base + 1, 0, none⟩) c ch (g.to hb) hU1 (by omega))
  have hen := fun (w : World) (a : Option Addr) (n c : Nat) => Lib.run_eql_slice_nil (P := Try.prog) w 22 2 a n c 0 0 Try.underlying22
  have HS := Lib.hid hs
  have q0 := hs.cr.cell 0
  have q1 := hs.cr.cell 1
  have q2 := hs.cr.cell 2
  have q3 := hs.cr.cell 3
  simp only [List.getElem?_cons_zero, List.getElem?_cons_succ] at q0 q1 q2 q3
  have Hdf : Hid (∀ s', leastStep ⟨N, n, x2, x3⟩ ch s' = match s' with
    | none => some (ch, totalF ⟨N, n, x2, x3⟩ ch)
    | some (b, m) => if totalF ⟨N, n, x2, x3⟩ ch < m then some (ch, totalF ⟨N, n, x2, x3⟩ ch) else some (b, m)) := fun s' => by cases s' <;> rfl
  clear hs h0 hR g hc
  generalize hst : leastStep ⟨(N : Int), (n : Int), x2, x3⟩ ch = ws at *
  clear hst
  generalize hC : (⟨(N : Int), (n : Int), x2, x3⟩ : Cr) = C at *
  clear hC
  generalize totalF C ch = tt at *
  have hN : Hid (ws none = some (ch, tt)) := by show _ = _; rw [Hdf.out]
  have hY : Hid (∀ b m, tt < m → ws (some (b, m)) = some (ch, tt)) := fun b m hm => by rw [Hdf.out]; simp [hm]
  have hZ : Hid (∀ b m, ¬ tt < m → ws (some (b, m)) = some (b, m)) := fun b m hm => by rw [Hdf.out]; simp [hm]
  clear Hdf
  have HC : Hid (∀ s' w1, ES W base [.int .i64 N, .int .i64 n, .slice a2 x2.length c2, .slice a3 x3.length c3] s' w1 → ws s' = some (ch, tt) → Below w.heap.size w w1 → ∀ a1 c1, w1.ownsRow (base + 2) 2 1 (.slice a1 ch.length c1) ch.length (ints ch) →
      ES W base [.int .i64 N, .int .i64 n, .slice a2 x2.length c2, .slice a3 x3.length c3] (ws s') ((w1.setCell ⟨W.heap.size + 1, 0, none⟩ (.slice a1 ch.length c1)).setCell ⟨W.heap.size + 2, 0, none⟩ (.int .i64 tt)) ∧ Touch w ((w1.setCell ⟨W.heap.size + 1, 0, none⟩ (.slice a1 ch.length c1)).setCell ⟨W.heap.size + 2, 0, none⟩ (.int .i64 tt)) 0 base) := fun s' w1 hs' he hb a1 c1 ho => by
    rw [he]; exact ⟨hs'.store hB (by omega) ho tt, touch_store hb (by omega) (by omega) _ _⟩
  cases s with
  | none =>
    go_enter Try.func76, Try.ntmps76
    go_wp2_with fail
    refine (LT.out _ (Below.refl _ _)).mono ?_
    rintro e w2 ⟨rfl, hb2⟩
    have B2 := hb2
    have HS2 := Lib.hid (HS.out.keep hb2)
    obtain ⟨v, hv, hbv⟩ := HS2.out.be
    have hv0 : v = .slice none 0 0 := hbv
    subst hv0
    have e1 := hv.cell 0
    have e2 := HS2.out.mo.cell 0
    simp only [List.getElem?_cons_zero] at e1 e2
    clear hv hbv HS q0 q1 q2 q3
    go_wp2_with fail
    refine (LCl.out _ B2).mono ?_
    rintro e w3 ⟨a1, c1, rfl, o3, hb3⟩
    have B3 := below_then B2 hb3
    have HS3 := HS2.out.keep hb3
    obtain ⟨v, hv, hbv⟩ := HS3.be
    have f1 := hv.free 0
    have f2 := HS3.mo.free 0
    have g1 := hv.cell 0
    have g2 := HS3.mo.cell 0
    simp only [List.getElem?_cons_zero] at g1 g2
    have HF := Lib.hid (HC.out none w3 HS3 hN.out B3 a1 c1 (own_base o3.1 (by have := B2.size; omega)))
    clear o3 hb3 B3 HS3 hv hbv HS2 LCl
    go_wp2_with fail
    go_end0
    exact ⟨rfl, HF.out⟩
  | some p =>
    obtain ⟨bl, m⟩ := p
    by_cases hm : tt < m
    · go_enter Try.func76, Try.ntmps76
      go_wp2_with fail
      refine (LT.out _ (Below.refl _ _)).mono ?_
      rintro e w2 ⟨rfl, hb2⟩
      have B2 := hb2
      have HS2 := Lib.hid (HS.out.keep hb2)
      obtain ⟨v, hv, hbv⟩ := HS2.out.be
      obtain ⟨hbl, a', c', rfl, hob⟩ := hbv
      obtain ⟨g', rfl⟩ := own_some' hob hbl
      have e1 := hv.cell 0
      have e2 : w2.cell? ⟨W.heap.size + 2, 0, none⟩ = some (.int .i64 m) := HS2.out.mo.cell 0
      simp only [List.getElem?_cons_zero] at e1
      clear hv hob HS q0 q1 q2 q3
      go_wp2_with fail
      refine (LCl.out _ B2).mono ?_
      rintro e w3 ⟨a1, c1, rfl, o3, hb3⟩
      have B3 := below_then B2 hb3
      have HS3 := HS2.out.keep hb3
      obtain ⟨v, hv, hbv⟩ := HS3.be
      have f1 := hv.free 0
      have f2 := HS3.mo.free 0
      have g1 := hv.cell 0
      have g2 := HS3.mo.cell 0
      simp only [List.getElem?_cons_zero] at g1 g2
      have HF := Lib.hid (HC.out (some (bl, m)) w3 HS3 (hY.out bl m hm) B3 a1 c1 (own_base o3.1 (by have := B2.size; omega)))
      clear o3 hb3 B3 HS3 hv hbv HS2 LCl e1 e2
      go_wp2_with fail
      go_end0
      exact ⟨rfl, HF.out⟩
    · go_enter Try.func76, Try.ntmps76
      go_wp2_with fail
      refine (LT.out _ (Below.refl _ _)).mono ?_
      rintro e w2 ⟨rfl, hb2⟩
      have B2 := hb2
      have HS2 := Lib.hid (HS.out.keep hb2)
      obtain ⟨v, hv, hbv⟩ := HS2.out.be
      obtain ⟨hbl, a', c', rfl, hob⟩ := hbv
      obtain ⟨g', rfl⟩ := own_some' hob hbl
      have e1 := hv.cell 0
      have e2 : w2.cell? ⟨W.heap.size + 2, 0, none⟩ = some (.int .i64 m) := HS2.out.mo.cell 0
      simp only [List.getElem?_cons_zero] at e1
      have HF : Hid (ES W base [.int .i64 N, .int .i64 n, .slice a2 x2.length c2, .slice a3 x3.length c3] (ws (some (bl, m))) w2 ∧ Touch w w2 0 base) := by
        rw [hZ.out bl m hm]; exact ⟨HS2.out, Below.touch B2 0 base⟩
      clear hv hob HS q0 q1 q2 q3 HS2
      go_wp2_with fail
      first | go_end0 | (refine bodyPost_ret (results_none rfl _ _ _) rfl ?_)
      exact ⟨rfl, HF.out⟩
end Go.Proofs.Ytbgclfbhdpgdaaa
