/-
  What is called for all choices: the program's closures of LeastTotal and WorstRest.
-/
import Derived.Test.YtbgclfbhdpgdaaaChoices
import Derived.Test.YtbgclfbhdpgdaaaRestOf
namespace Go.Proofs.Ytbgclfbhdpgdaaa
set_option linter.unusedVariables false
set_option linter.unusedSimpArgs false
open Go.RowKit

theorem own_some' {w : World} {base e n c : Nat} {a : Option Addr} {xs : List Value} (h : w.ownsRow base e 1 (.slice a n c) n xs) (hn : 0 < n) : ∃ g, a = some ⟨g, 0, none⟩ := by
  rcases h.2 with ⟨_, h3⟩ | ⟨g, cap, cur, hv, _⟩
  · omega
  · injection hv with ha _ _; exact ⟨g, ha⟩
def mostOf : Best → Int
  | none => 0
  | some p => p.2
def BestV (w : World) (base : Nat) : Best → Value → Prop
  | none, v => v = .slice none 0 0
  | some (l, _), v => 0 < l.length ∧ ∃ a c, v = .slice a l.length c ∧ w.ownsRow (base + 2) 2 1 (.slice a l.length c) l.length (ints l)
/-- What holds while choices are looked at, one after another. -/
structure ES (W : World) (base : Nat) (cs : List Value) (s : Best) (w : World) : Prop where
  cr : Blk w W.heap.size cs 28
  be : ∃ v, Blk w (W.heap.size + 1) [v] 22 ∧ BestV w base s v
  mo : Blk w (W.heap.size + 2) [.int .i64 (mostOf s)] 2
  bel : Below W.heap.size W w
section
variable {W : World} {base : Nat} {cs : List Value} {s : Best} {w w' : World}
theorem BestV.keep {v : Value} (h : BestV w base s v) {r : Option Nat} (hg : w.grownBy w' r) (hr : ∀ k, r = some k → k < base + 2) : BestV w' base s v := by
  cases s with
  | none => exact h
  | some p =>
    obtain ⟨l, m⟩ := p
    obtain ⟨h0, a, c, rfl, ho⟩ := h
    refine ⟨h0, a, c, rfl, ho.kept hg ?_⟩
    cases hb : (Value.slice a l.length c).ownBlock with
    | none => exact .inl rfl
    | some g =>
      refine .inr fun e => ?_
      have h1 := (ho.lt g hb).1
      have h2 := hr g e.symm
      omega
theorem ES.keep (h : ES W base cs s w) (hb : Below w.heap.size w w') : ES W base cs s w' := by
  obtain ⟨v, hv, hbv⟩ := h.be
  exact ⟨h.cr.same hb, ⟨v, hv.same hb, hbv.keep (below_grownBy hb none) (fun k hk => by cases hk)⟩, h.mo.same hb, h.bel.trans (hb.mono h.bel.size)⟩
theorem ES.frame (h : ES W base cs s w) (hg : w.grownBy w' (some (base + 1))) (hb : W.heap.size + 3 ≤ base) : ES W base cs s w' := by
  obtain ⟨v, hv, hbv⟩ := h.be
  exact ⟨h.cr.grown hg (by intro e; injection e; omega), ⟨v, hv.grown hg (by intro e; injection e; omega), hbv.keep hg (fun k hk => by injection hk; omega)⟩, h.mo.grown hg (by intro e; injection e; omega), h.bel.grown hg h.bel.size (fun q hq => by injection hq with hq; omega)⟩
theorem ES.store (h : ES W base cs s w) (hb : W.heap.size + 3 ≤ base) {a : Option Addr} {c : Nat} {l : List Int} (h0 : 0 < l.length) (ho : w.ownsRow (base + 2) 2 1 (.slice a l.length c) l.length (ints l)) (t : Int) :
    ES W base cs (some (l, t)) ((w.setCell ⟨W.heap.size + 1, 0, none⟩ (.slice a l.length c)).setCell ⟨W.heap.size + 2, 0, none⟩ (.int .i64 t)) := by
  obtain ⟨v, hv, hbv⟩ := h.be
  refine ⟨(h.cr.oth (by omega) _ _).oth (by omega) _ _, ⟨.slice a l.length c, (hv.set 0 _).oth (by omega) _ _, h0, a, c, rfl, ?_⟩, (h.mo.oth (g := W.heap.size + 1) (by omega) _ _).set 0 _, below_sto (below_sto h.bel (by omega) _ _) (by omega) _ _⟩
  have hne : ∀ q, q < base + 2 → some q ≠ (Value.slice a l.length c).ownBlock := fun q hq e => by
    have := (ho.lt q e.symm).1
    omega
  have k1 := ho.kept (setg_grown w (W.heap.size + 1) 0 (.slice a l.length c)) (.inr (fun e => hne _ (by omega) e.symm))
  exact k1.kept (setg_grown _ (W.heap.size + 2) 0 (.int .i64 t)) (.inr (fun e => hne _ (by omega) e.symm))
theorem touch_store {w w3 : World} (hb : Below w.heap.size w w3) {p q base : Nat} (hp : p < base) (hq : q < base) (u v : Value) : Touch w ((w3.setCell ⟨p, 0, none⟩ u).setCell ⟨q, 0, none⟩ v) 0 base :=
  ((Below.touch hb 0 base).trans (Touch.of_grown (setg_grown w3 p 0 u) (Nat.zero_le _) hp)).trans (Touch.of_grown (setg_grown _ q 0 v) (Nat.zero_le _) hq)
end
theorem enter_worst (args : Array Value) (w : World) : (callFunc 61 args).run Try.prog w = .ok (.enter 61 args) w := by kernel_rfl
set_option maxRecDepth 10000 in
set_option maxHeartbeats 8000000 in
theorem worst1_any (W : World) (base : Nat) (N n : Nat) (a2 : Option Addr) (c2 : Nat) (x2 : List Int) (a3 : Option Addr) (c3 : Nat) (x3 : List Int) (h0 : RdCrowd W W.heap.size a2 x2 a3 x3) (hB : W.heap.size + 3 ≤ base)
    (s : Best) (ch : List Int) (w : World) (c : Nat) (hs : ES W base [.int .i64 N, .int .i64 n, .slice a2 x2.length c2, .slice a3 x3.length c3] s w) (hw : base + 2 ≤ w.heap.size) (hc : Can ⟨N, n, x2, x3⟩ ch) (g : Rd w w.heap.size (some ⟨base + 1, 0, none⟩) (ints ch)) :
    Calls Try.prog 61 #[.slice (some ⟨base + 1, 0, none⟩) ch.length c, .pointer (some ⟨W.heap.size, 0, none⟩), .pointer (some ⟨W.heap.size + 1, 0, none⟩), .pointer (some ⟨W.heap.size + 2, 0, none⟩)] w
      fun e w' => e = .returned (.tuple #[]) ∧ ES W base [.int .i64 N, .int .i64 n, .slice a2 x2.length c2, .slice a3 x3.length c3] (worstStep ⟨N, n, x2, x3⟩ ch s) w' ∧ Touch w w' 0 base := by
  have hU1 : 1 ≤ ch.length := by have := hc.v.u1; have := hc.len; simp only at *; omega
  have hU8 : ch.length ≤ 8 := by have := hc.v.u8; have := hc.len; simp only at *; omega
  have hR : RdCrowd w w.heap.size a2 x2 a3 x3 := (h0.below hs.bel (Nat.le_refl _)).mono hs.bel.size
  have LB := Lib.hid (better_any w N n a2 c2 x2 a3 c3 x3 (some ⟨base + 1, 0, none⟩) c ch hR g hc)
  have LT := Lib.hid (fun w' hb => total_any w' N n a2 c2 x2 a3 c3 x3 (some ⟨base + 1, 0, none⟩) c ch (hR.to hb) (g.to hb) hc)
  have LCl := Lib.hid (fun w' hb => clone_any w' (some ⟨base + 1, 0, none⟩) c ch (g.to hb) hU1 (by omega))
  have hen := fun (w : World) (a : Option Addr) (n c : Nat) => Lib.run_eql_slice_nil (P := Try.prog) w 22 2 a n c 0 0 Try.underlying22
  have HS := Lib.hid hs
  have q0 := hs.cr.cell 0
  have q1 := hs.cr.cell 1
  have q2 := hs.cr.cell 2
  have q3 := hs.cr.cell 3
  simp only [List.getElem?_cons_zero, List.getElem?_cons_succ] at q0 q1 q2 q3
  have Hdf : Hid (∀ s', worstStep ⟨N, n, x2, x3⟩ ch s' = if (betterF ⟨N, n, x2, x3⟩ ch).isSome then s' else match s' with
    | none => some (ch, totalF ⟨N, n, x2, x3⟩ ch)
    | some (b, m) => if m < totalF ⟨N, n, x2, x3⟩ ch then some (ch, totalF ⟨N, n, x2, x3⟩ ch) else some (b, m)) := fun s' => rfl
  clear hs h0 hR g hc
  generalize hst : worstStep ⟨(N : Int), (n : Int), x2, x3⟩ ch = ws at *
  clear hst
  generalize hC : (⟨(N : Int), (n : Int), x2, x3⟩ : Cr) = C at *
  clear hC
  generalize totalF C ch = tt at *
  cases hbf : betterF C ch with
  | some p =>
    have HE : Hid (ws s = s) := by show _ = _; rw [Hdf.out, hbf]; rfl
    simp only [hbf, bU, bK] at LB
    clear hbf Hdf LT LCl
    have hpos : (0 : Int) ≤ (p.1 : Int) := Int.natCast_nonneg _
    go_enter Try.func61, Try.ntmps61
    go_wp2_with fail
    refine LB.out.mono ?_
    rintro e w1 ⟨rfl, hb1⟩
    have HF : Hid (ES W base [.int .i64 N, .int .i64 n, .slice a2 x2.length c2, .slice a3 x3.length c3] (ws s) w1 ∧ Touch w w1 0 base) := by
      rw [HE.out]; exact ⟨HS.out.keep hb1, Below.touch hb1 0 base⟩
    clear hb1 LB
    go_wp2_with fail
    first | go_end0 | (refine bodyPost_ret (results_none rfl _ _ _) rfl ?_)
    exact ⟨rfl, HF.out⟩
  | none =>
    simp only [hbf, bU, bK] at LB
    have hN : Hid (ws none = some (ch, tt)) := by show _ = _; rw [Hdf.out, hbf]; rfl
    have hY : Hid (∀ b m, m < tt → ws (some (b, m)) = some (ch, tt)) := fun b m hm => by rw [Hdf.out, hbf]; simp [hm]
    have hZ : Hid (∀ b m, ¬ m < tt → ws (some (b, m)) = some (b, m)) := fun b m hm => by rw [Hdf.out, hbf]; simp [hm]
    clear hbf Hdf
    have HC : Hid (∀ s' w1, ES W base [.int .i64 N, .int .i64 n, .slice a2 x2.length c2, .slice a3 x3.length c3] s' w1 → ws s' = some (ch, tt) → Below w.heap.size w w1 → ∀ a1 c1, w1.ownsRow (base + 2) 2 1 (.slice a1 ch.length c1) ch.length (ints ch) →
        ES W base [.int .i64 N, .int .i64 n, .slice a2 x2.length c2, .slice a3 x3.length c3] (ws s') ((w1.setCell ⟨W.heap.size + 1, 0, none⟩ (.slice a1 ch.length c1)).setCell ⟨W.heap.size + 2, 0, none⟩ (.int .i64 tt)) ∧ Touch w ((w1.setCell ⟨W.heap.size + 1, 0, none⟩ (.slice a1 ch.length c1)).setCell ⟨W.heap.size + 2, 0, none⟩ (.int .i64 tt)) 0 base) := fun s' w1 hs' he hb a1 c1 ho => by
      rw [he]; exact ⟨hs'.store hB (by omega) ho tt, touch_store hb (by omega) (by omega) _ _⟩
    cases s with
    | none =>
      go_enter Try.func61, Try.ntmps61
      go_wp2_with fail
      refine LB.out.mono ?_
      rintro e w1 ⟨rfl, hb1⟩
      have HS1 := Lib.hid (HS.out.keep hb1)
      have k0 := HS1.out.cr.cell 0
      have k1 := HS1.out.cr.cell 1
      have k2 := HS1.out.cr.cell 2
      have k3 := HS1.out.cr.cell 3
      simp only [List.getElem?_cons_zero, List.getElem?_cons_succ] at k0 k1 k2 k3
      clear LB q0 q1 q2 q3
      go_wp2_with fail
      refine (LT.out _ hb1).mono ?_
      rintro e w2 ⟨rfl, hb2⟩
      have B2 := below_then hb1 hb2
      have HS2 := Lib.hid (HS1.out.keep hb2)
      obtain ⟨v, hv, hbv⟩ := HS2.out.be
      have hv0 : v = .slice none 0 0 := hbv
      subst hv0
      have e1 := hv.cell 0
      have e2 := HS2.out.mo.cell 0
      simp only [List.getElem?_cons_zero] at e1 e2
      clear hv hbv hb2 hb1 HS1 k0 k1 k2 k3
      go_wp2_with fail
      refine (LCl.out _ B2).mono ?_
      rintro e w3 ⟨a1, c1, rfl, o3, hb3⟩
      have B3 := below_then B2 hb3
      have HS3 := HS2.out.keep hb3
      obtain ⟨v, hv, hbv⟩ := HS3.be
      have f1 := hv.free 0
      have f2 := HS3.mo.free 0
      have g1 := hv.cell 0
      have g2 := HS3.mo.cell 0
      simp only [List.getElem?_cons_zero] at g1 g2
      have HF := Lib.hid (HC.out none w3 HS3 hN.out B3 a1 c1 (own_base o3.1 (by have := B2.size; omega)))
      clear o3 hb3 B3 HS3 hv hbv HS2 LCl
      go_wp2_with fail
      go_end0
      exact ⟨rfl, HF.out⟩
    | some p =>
      obtain ⟨bl, m⟩ := p
      by_cases hm : m < tt
      · go_enter Try.func61, Try.ntmps61
        go_wp2_with fail
        refine LB.out.mono ?_
        rintro e w1 ⟨rfl, hb1⟩
        have HS1 := Lib.hid (HS.out.keep hb1)
        have k0 := HS1.out.cr.cell 0
        have k1 := HS1.out.cr.cell 1
        have k2 := HS1.out.cr.cell 2
        have k3 := HS1.out.cr.cell 3
        simp only [List.getElem?_cons_zero, List.getElem?_cons_succ] at k0 k1 k2 k3
        clear LB q0 q1 q2 q3
        go_wp2_with fail
        refine (LT.out _ hb1).mono ?_
        rintro e w2 ⟨rfl, hb2⟩
        have B2 := below_then hb1 hb2
        have HS2 := Lib.hid (HS1.out.keep hb2)
        obtain ⟨v, hv, hbv⟩ := HS2.out.be
        obtain ⟨hbl, a', c', rfl, hob⟩ := hbv
        obtain ⟨g', rfl⟩ := own_some' hob hbl
        have e1 := hv.cell 0
        have e2 : w2.cell? ⟨W.heap.size + 2, 0, none⟩ = some (.int .i64 m) := HS2.out.mo.cell 0
        simp only [List.getElem?_cons_zero] at e1
        clear hv hob hb2 hb1 HS1 k0 k1 k2 k3
        go_wp2_with fail
        refine (LCl.out _ B2).mono ?_
        rintro e w3 ⟨a1, c1, rfl, o3, hb3⟩
        have B3 := below_then B2 hb3
        have HS3 := HS2.out.keep hb3
        obtain ⟨v, hv, hbv⟩ := HS3.be
        have f1 := hv.free 0
        have f2 := HS3.mo.free 0
        have g1 := hv.cell 0
        have g2 := HS3.mo.cell 0
        simp only [List.getElem?_cons_zero] at g1 g2
        have HF := Lib.hid (HC.out (some (bl, m)) w3 HS3 (hY.out bl m hm) B3 a1 c1 (own_base o3.1 (by have := B2.size; omega)))
        clear o3 hb3 B3 HS3 hv hbv HS2 LCl e1 e2
        go_wp2_with fail
        go_end0
        exact ⟨rfl, HF.out⟩
      · go_enter Try.func61, Try.ntmps61
        go_wp2_with fail
        refine LB.out.mono ?_
        rintro e w1 ⟨rfl, hb1⟩
        have HS1 := Lib.hid (HS.out.keep hb1)
        have k0 := HS1.out.cr.cell 0
        have k1 := HS1.out.cr.cell 1
        have k2 := HS1.out.cr.cell 2
        have k3 := HS1.out.cr.cell 3
        simp only [List.getElem?_cons_zero, List.getElem?_cons_succ] at k0 k1 k2 k3
        clear LB q0 q1 q2 q3
        go_wp2_with fail
        refine (LT.out _ hb1).mono ?_
        rintro e w2 ⟨rfl, hb2⟩
        have B2 := below_then hb1 hb2
        have HS2 := Lib.hid (HS1.out.keep hb2)
        obtain ⟨v, hv, hbv⟩ := HS2.out.be
        obtain ⟨hbl, a', c', rfl, hob⟩ := hbv
        obtain ⟨g', rfl⟩ := own_some' hob hbl
        have e1 := hv.cell 0
        have e2 : w2.cell? ⟨W.heap.size + 2, 0, none⟩ = some (.int .i64 m) := HS2.out.mo.cell 0
        simp only [List.getElem?_cons_zero] at e1
        have HF : Hid (ES W base [.int .i64 N, .int .i64 n, .slice a2 x2.length c2, .slice a3 x3.length c3] (ws (some (bl, m))) w2 ∧ Touch w w2 0 base) := by
          rw [hZ.out bl m hm]; exact ⟨HS2.out, Below.touch B2 0 base⟩
        clear hv hob hb2 hb1 HS1 k0 k1 k2 k3 HS2
        go_wp2_with fail
        first | go_end0 | (refine bodyPost_ret (results_none rfl _ _ _) rfl ?_)
        exact ⟨rfl, HF.out⟩
end Go.Proofs.Ytbgclfbhdpgdaaa
