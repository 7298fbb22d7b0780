/-
  AllStable: the program's road: matches by depth.
-/
import Derived.Test.YtdipckpcmnhpjaaMatX
import Derived.Test.YtdipckpcmnhpjaaOwnTop
import Derived.Test.YtdipckpcmnhpjaaRepeat
import Derived.Test.YtdipckpcmnhpjaaClone
import Derived.Deep.RegionLaw
import Derived.Laws.EntriesVeiled
import Derived.Outline
namespace Go.Proofs.Ytdipckpcmnhpjaa
set_option linter.unusedVariables false
set_option linter.unusedSimpArgs false
open Go.RowKit

/-- The match in hand: p, and nobody behind it. -/
def padM (n : Nat) (p : List Int) : List Int := p ++ List.replicate (n - p.length) (-1)
theorem padM_len {n : Nat} {p : List Int} (h : p.length ≤ n) : (padM n p).length = n := by simp [padM]; omega
theorem padM_full {n : Nat} {p : List Int} (h : p.length = n) : padM n p = p := by simp [padM, h]
theorem padM_nobody {n : Nat} {p : List Int} (h : p.length < n) : padM n (p ++ [-1]) = padM n p := by
  unfold padM
  rw [List.length_append, List.length_singleton, List.append_assoc]
  congr 1
  rw [show n - p.length = (n - (p.length + 1)) + 1 by omega, List.replicate_succ]; rfl
theorem padM_set {n : Nat} {p : List Int} (h : p.length < n) (x : Int) : (padM n p).set p.length x = padM n (p ++ [x]) := by
  unfold padM
  rw [List.set_append_right _ _ (Nat.le_refl _), Nat.sub_self, List.length_append, List.length_singleton, List.append_assoc]
  congr 1
  rw [show n - p.length = (n - (p.length + 1)) + 1 by omega, List.replicate_succ]; rfl
theorem padM_back {n : Nat} {p : List Int} (h : p.length < n) (x : Int) : (padM n (p ++ [x])).set p.length (-1) = padM n p := by
  rw [← padM_set h, List.set_set, padM_set h, padM_nobody h]
theorem padM_has {n : Nat} {p : List Int} (k : Nat) : containsI (padM n p) k = hasB p k := by
  have h1 : containsI (padM n p) k = true ↔ hasB p k = true := by
    rw [containsI_iff]
    unfold hasB padM
    simp only [List.mem_append, List.mem_replicate]
    constructor
    · rintro (h | ⟨_, h⟩)
      · simpa using h
      · omega
    · intro h
      exact .inl (by simpa using h)
  rw [Bool.eq_iff_iff]; exact h1
theorem deepS (w : Wi) (f : Nat) (p : List Int) (k : Nat) : (List.range (k + 1)).flatMap (fun (k : Nat) => if pairB w p.length k && !hasB p k then deepF w f (p ++ [(k : Int)]) else []) = (List.range k).flatMap (fun (k : Nat) => if pairB w p.length k && !hasB p k then deepF w f (p ++ [(k : Int)]) else []) ++ (if pairB w p.length k && !hasB p k then deepF w f (p ++ [(k : Int)]) else []) := by
  rw [List.range_succ, List.flatMap_append]; simp
theorem deepS_no {w : Wi} {f : Nat} {p : List Int} {k : Nat} (h : (pairB w p.length k && !hasB p k) = false) : (List.range (k + 1)).flatMap (fun (k : Nat) => if pairB w p.length k && !hasB p k then deepF w f (p ++ [(k : Int)]) else []) = (List.range k).flatMap (fun (k : Nat) => if pairB w p.length k && !hasB p k then deepF w f (p ++ [(k : Int)]) else []) := by rw [deepS, h]; simp only [Bool.false_eq_true, if_false, List.append_nil]
theorem deepS_yes {w : Wi} {f : Nat} {p : List Int} {k : Nat} (h : (pairB w p.length k && !hasB p k) = true) : (List.range (k + 1)).flatMap (fun (k : Nat) => if pairB w p.length k && !hasB p k then deepF w f (p ++ [(k : Int)]) else []) = (List.range k).flatMap (fun (k : Nat) => if pairB w p.length k && !hasB p k then deepF w f (p ++ [(k : Int)]) else []) ++ deepF w f (p ++ [(k : Int)]) := by rw [deepS, h]; simp only [if_true]
theorem deepS_mono (w : Wi) (f : Nat) (p : List Int) {k m : Nat} (h : k ≤ m) : ((List.range k).flatMap (fun (k : Nat) => if pairB w p.length k && !hasB p k then deepF w f (p ++ [(k : Int)]) else [])).length ≤ ((List.range m).flatMap (fun (k : Nat) => if pairB w p.length k && !hasB p k then deepF w f (p ++ [(k : Int)]) else [])).length := by
  induction m with
  | zero => have : k = 0 := by omega
            subst this; exact Nat.le_refl _
  | succ m ih =>
    by_cases e : k = m + 1
    · subst e; exact Nat.le_refl _
    · have := ih (by omega)
      rw [deepS, List.length_append]; omega
theorem stored (w : World) (g j : Nat) (u : Value) : w.grownBy (w.setCell ⟨g, j, none⟩ u) (some g) := ⟨rfl, rfl, rfl, by simp, fun i _ hi => Below.heap_setCell _ _ _ _ (fun e => hi (by simp [e]))⟩
/-- Where the boxes lie. -/
structure LayA (B0 t0 gO gd gM gP lo : Nat) : Prop where
  h1 : B0 < t0
  h2 : t0 < gO
  h3 : gO < gd
  h4 : gd < gM
  h5 : gM < gP
  h6 : gP < lo
theorem enter_all (args : Array Value) (w : World) : (callFunc 80 args).run Try.prog w = .ok (.enter 80 args) w := by kernel_rfl
def putV (B0 gO gM gP : Nat) : Value := .func (.func 80) #[] #[.pointer (some ⟨B0, 0, none⟩), .pointer (some ⟨gM, 0, none⟩), .pointer (some ⟨gO, 0, none⟩), .pointer (some ⟨gP, 0, none⟩)]
structure PA (w0 : World) (bx : List Value) (n t0 gO gd gM gP lo : Nat) (done : List (List Int)) (p : List Int) (w : World) : Prop where
  bx : Bx w0 w bx 28
  sz : lo ≤ w.heap.size
  md : Blk w gd (ints (padM n p)) 2
  mb : Blk w gM [.slice (some ⟨gd, 0, none⟩) n n] 25
  pb : Blk w gP [putV w0.heap.size gO gM gP] 78
  ob : ∃ a c vs, Blk w gO [.slice a done.length c] 22 ∧ OwnTop 2 25 w t0 lo w.heap.size (.slice a done.length c) vs done
section
variable {w0 w w' : World} {bx : List Value} {n t0 gO gd gM gP lo : Nat} {done : List (List Int)} {p p' : List Int}
theorem PA.later (h : PA w0 bx n t0 gO gd gM gP lo done p w) (hb : Below w.heap.size w w') : PA w0 bx n t0 gO gd gM gP lo done p w' := by
  obtain ⟨a, c, vs, h1, h2⟩ := h.ob
  exact ⟨h.bx.next hb, Nat.le_trans h.sz hb.size, h.md.same hb, h.mb.same hb, h.pb.same hb, a, c, vs, h1.same hb, (h2.keep hb).mono hb.size⟩
theorem PA.sto (L : LayA w0.heap.size t0 gO gd gM gP lo) (h : PA w0 bx n t0 gO gd gM gP lo done p w) (i : Nat) (x : Int) (hx : (padM n p).set i x = padM n p') : PA w0 bx n t0 gO gd gM gP lo done p' (w.setCell ⟨gd, i, none⟩ (.int .i64 x)) := by
  obtain ⟨a, c, vs, h1, h2⟩ := h.ob
  obtain ⟨l1, l2, l3, l4, l5, l6⟩ := L
  have hsz := h.sz
  refine ⟨h.bx.far (below_sto (Below.refl gd w) (Nat.le_refl _) i _) (by omega), by simp; exact h.sz, by rw [← hx]; exact h.md.setI i x, h.mb.oth (by omega) _ _, h.pb.oth (by omega) _ _, a, c, vs, h1.oth (by omega) _ _, ?_⟩
  have := h2.grown (stored w gd i (.int .i64 x)) (by omega) (by omega)
  exact this.mono (by simp)
end
theorem own_someA {w : World} {base e n c : Nat} {a : Option Addr} {xs : List Value} (h : w.ownsRow base e 1 (.slice a n c) n xs) (hn : 0 < n) : ∃ g, a = some ⟨g, 0, none⟩ := by
  rcases h.2 with ⟨_, h3⟩ | ⟨g, cap, cur, hv, _⟩
  · omega
  · injection hv with ha _ _; exact ⟨g, ha⟩
theorem info_intsA : (Try.prog.info? 25).map (fun i => (i.zero, i.size, i.bytes)) = some (some (.slice none 0 0), 1, 24) := by kernel_rfl
section
variable {w0 w w3 w4 : World} {bx : List Value} {n t0 gO gd gM gP lo : Nat} {done : List (List Int)} {p : List Int}
theorem PA.same (h : PA w0 bx n t0 gO gd gM gP lo done p w) {p' : List Int} (hp : padM n p = padM n p') : PA w0 bx n t0 gO gd gM gP lo done p' w := ⟨h.bx, h.sz, by rw [← hp]; exact h.md, h.mb, h.pb, h.ob⟩
theorem PA.snoc (L : LayA w0.heap.size t0 gO gd gM gP lo) (h : PA w0 bx n t0 gO gd gM gP lo done p w) {a : Option Addr} {c : Nat} {vs : List Value} (hO : Blk w gO [.slice a done.length c] 22) (hT : OwnTop 2 25 w t0 lo w.heap.size (.slice a done.length c) vs done)
    (hb : Below w.heap.size w w3) {r0 g5 c5 g6 c6 : Nat} {ys : List Int} (hr0 : w.heap.size ≤ r0) (ho5 : OwnI 2 w3 r0 w3.heap.size (some ⟨g5, 0, none⟩) c5 ys)
    (ho6 : w4.ownsRow t0 25 1 (.slice (some ⟨g6, 0, none⟩) (done.length + 1) c6) (done.length + 1) (vs ++ [.slice (some ⟨g5, 0, none⟩) ys.length c5])) (hg : w3.grownBy w4 (Value.slice a done.length c).ownBlock)
    (hn : ∀ q, q < w3.heap.size → some q ≠ (Value.slice a done.length c).ownBlock → some q ≠ (Value.slice (some ⟨g6, 0, none⟩) (done.length + 1) c6).ownBlock) :
    PA w0 bx n t0 gO gd gM gP lo (done ++ [ys]) p (w4.setCell ⟨gO, 0, none⟩ (.slice (some ⟨g6, 0, none⟩) (done.length + 1) c6)) := by
  obtain ⟨l1, l2, l3, l4, l5, l6⟩ := L
  have hsz := h.sz
  have hs3 := hb.size
  have hs4 := hg.size
  have h3 := h.later hb
  have hne : ∀ q, q ≠ t0 → q < lo → some q ≠ (Value.slice a done.length c).ownBlock := fun q hq hq2 e => by
    rcases hT.lt q e.symm with h1 | ⟨h1, _⟩ <;> omega
  have hb4 : Below t0 w3 w4 := below_of_grown hg (by omega) (fun q hq => by rcases hT.lt q hq with h1 | ⟨h1, _⟩ <;> omega)
  refine ⟨(h3.bx.far hb4 (by omega)).far (below_sto (Below.refl gO w4) (Nat.le_refl _) 0 _) (by omega), by simp; omega, (h3.md.grown hg (hne _ (by omega) (by omega))).oth (by omega) _ _, (h3.mb.grown hg (hne _ (by omega) (by omega))).oth (by omega) _ _, (h3.pb.grown hg (hne _ (by omega) (by omega))).oth (by omega) _ _, some ⟨g6, 0, none⟩, c6, vs ++ [.slice (some ⟨g5, 0, none⟩) ys.length c5], ?_, ?_⟩
  · rw [List.length_append, List.length_singleton]
    exact ((hO.same hb).grown hg (hne _ (by omega) (by omega))).set 0 _
  · have := (hT.snoc hb (by omega) (by omega) hr0 ho5 hr0 ho6 hg hn).grown (stored w4 gO 0 (.slice (some ⟨g6, 0, none⟩) (done.length + 1) c6)) (by omega) (by omega)
    rw [List.length_append, List.length_singleton]
    exact this.mono (by simp)
end
set_option maxRecDepth 100000 in
set_option maxHeartbeats 8000000 in
theorem putA_any (w0 : World) (a0 : Option Addr) (c0 : Nat) (x0 : List (List Int)) (a1 : Option Addr) (c1 : Nat) (x1 : List (List Int)) (h : RdWishes w0 w0.heap.size a0 x0 a1 x1) (hv : Wish ⟨x0, x1⟩) (hin0 : ∀ y ∈ x0, y.length ≤ 1048576) (hin1 : ∀ y ∈ x1, y.length ≤ 1048576)
    (t0 gO gd gM gP lo : Nat) (L : LayA w0.heap.size t0 gO gd gM gP lo) (M : Nat) (hM : M ≤ 1048576) :
    ∀ (f : Nat) (done : List (List Int)) (p : List Int) (w : World), PA w0 [.slice a0 x0.length c0, .slice a1 x1.length c1] x0.length t0 gO gd gM gP lo done p w → p.length + f = x0.length → partB ⟨x0, x1⟩ p = true → done.length + (deepF ⟨x0, x1⟩ f p).length ≤ M →
      Calls Try.prog 80 #[.int .i64 p.length, .pointer (some ⟨w0.heap.size, 0, none⟩), .pointer (some ⟨gM, 0, none⟩), .pointer (some ⟨gO, 0, none⟩), .pointer (some ⟨gP, 0, none⟩)] w fun e w' => e = .returned (.tuple #[]) ∧ PA w0 [.slice a0 x0.length c0, .slice a1 x1.length c1] x0.length t0 gO gd gM gP lo (done ++ deepF ⟨x0, x1⟩ f p) p w'
  | 0, done, p, w, hP, hl, hp, hlen => by
    have hpl : p.length = x0.length := by omega
    have h8 := hv.n8
    have h1 := hv.n1
    simp only at h8 h1
    have HPm : Hid (padM x0.length p = p) := padM_full hpl
    have LC := Lib.hid (fun w' => count_any w' a0 c0 x0 a1 c1 x1)
    have LS := Lib.hid (fun w' hb g => isStableW_any w' a0 c0 x0 a1 c1 x1 (h.to hb) hv hin0 hin1 (some ⟨gd, 0, none⟩) x0.length p g (mat_of (by simp [matchB, hpl, hp])))
    rw [hpl] at LS ⊢
    have HP := Lib.hid hP
    have HL := Lib.hid L
    have HLen := Lib.hid hlen
    obtain ⟨q0, q1⟩ := hP.bx.two
    have cM := hP.mb.cell 0
    simp only [List.getElem?_cons_zero] at cM
    clear hP L h hv hin0 hin1 hl hp hlen
    go_enter Try.func80, Try.ntmps80
    go_wp2_with fail
    refine (LC.out _).mono ?_
    rintro e w1 ⟨rfl, hb1⟩
    have HP1 := Lib.hid (HP.out.later hb1)
    obtain ⟨q0, q1⟩ := HP1.out.bx.two
    have cM := HP1.out.mb.cell 0
    simp only [List.getElem?_cons_zero] at cM
    clear HP hb1
    have hrd : Rd w1 w1.heap.size (some ⟨gd, 0, none⟩) (ints p) := by
      have := HP1.out.md.rd (B := w1.heap.size) HP1.out.md.lt
      rwa [HPm.out] at this
    have LS1 := Lib.hid (LS.out w1 HP1.out.bx.1 hrd)
    clear hrd LS
    cases hst : (blockF ⟨x0, x1⟩ p).isNone with
    | false =>
      have HD : Hid (deepF ⟨x0, x1⟩ 0 p = []) := by rw [Hid, deepF, hst]; rfl
      rw [hst] at LS1
      go_wp2_with fail
      refine LS1.out.mono ?_
      rintro e w2 ⟨rfl, hb2⟩
      have HP2 := Lib.hid (HP1.out.later hb2)
      clear hb2 q0 q1 cM
      go_wp2_with fail
      first | (refine bodyPost_ret (results_none rfl _ _ _) rfl ?_) | skip
      rw [HD.out, List.append_nil]
      exact ⟨rfl, HP2.out⟩
    | true =>
      have HD : Hid (deepF ⟨x0, x1⟩ 0 p = [p]) := by rw [Hid, deepF, hst]; rfl
      rw [hst] at LS1
      go_wp2_with fail
      refine LS1.out.mono ?_
      rintro e w2 ⟨rfl, hb2⟩
      have HP2 := Lib.hid (HP1.out.later hb2)
      clear hb2 q0 q1 cM
      obtain ⟨a, c, vs, hO, hT⟩ := HP2.out.ob
      have HO := Lib.hid hO
      have HT := Lib.hid hT
      have hdl : done.length ≤ 1048576 := by have := HLen.out; omega
      have hsz := HP2.out.sz
      obtain ⟨l1, l2, l3, l4, l5, l6⟩ := HL.out
      have EE : Hid (w2.cell? ⟨gO, 0, none⟩ = some (.slice a done.length c) ∧ w2.cell? ⟨gM, 0, none⟩ = some (.slice (some ⟨gd, 0, none⟩) x0.length x0.length)) := ⟨hO.cell 0, HP2.out.mb.cell 0⟩
      have LCl := Lib.hid (clone_any w2.drew (some ⟨gd, 0, none⟩) x0.length p (by
        have := HP2.out.md.rd (B := w2.heap.size) HP2.out.md.lt
        rw [HPm.out] at this
        exact (this.to (below_drew' (Below.refl w2.heap.size w2)))) (by omega) (by omega))
      rw [hpl] at LCl
      obtain ⟨d1, d2⟩ := EE.out
      clear hO hT
      go_wp2_with fail
      go_region_law
        ((first
          | (go_simp; refine LCl.out.mono ?_; rintro e w3 ⟨a5, c5, rfl, ho5, hb5⟩; dsimp only; obtain ⟨g5, e5⟩ := own_someA ho5.1 (by omega); subst e5; have hb3 : Below w2.heap.size w2 w3 := below_then (below_drew' (Below.refl w2.heap.size w2)) hb5; have hT3 := (HT.out.keep hb3).out; have hO3 := HO.out.same hb3; have HQ : Hid (w3.cell? ⟨gO, 0, none⟩ = some (.slice a done.length c) ∧ w3.cell? ⟨gM, 0, none⟩ = some (.slice (some ⟨gd, 0, none⟩) x0.length x0.length)) := ⟨hO3.cell 0, (HP2.out.mb.same hb3).cell 0⟩; have HR : Hid (∀ o, ((w3.alloc o).cell? ⟨gO, 0, none⟩ = some (.slice a done.length c) ∧ (w3.alloc o).cell? ⟨gM, 0, none⟩ = some (.slice (some ⟨gd, 0, none⟩) x0.length x0.length))) := fun o => ⟨(hO3.alloc o).cell 0, ((HP2.out.mb.same hb3).alloc o).cell 0⟩; obtain ⟨f1, f2⟩ := HQ.out; obtain ⟨f3, f4⟩ := HR.out (.cells #[.slice (some ⟨g5, 0, none⟩) x0.length c5] 25))
          | (refine step_append_blk (wr := w3) (by rfl) _ _ 22 (by rfl) t0 25 (.slice none 0 0) 24 Try.underlying22 info_intsA rfl _ done.length vs (by rfl) hT3 (.slice (some ⟨g5, 0, none⟩) x0.length c5) rfl (by rfl) (by decide) (by omega) (by have := hb3.size; omega) ?_; intro g6 c6 w4 ho6 hgr hnew; have hne : ∀ q, q ≠ t0 → q < lo → some q ≠ (Value.slice a done.length c).ownBlock := (fun q hq hq2 e => by rcases HT.out.lt q e.symm with h1 | ⟨h1, _⟩ <;> omega); have hO4 := hO3.grown hgr (hne gO (by omega) (by omega)); have hM4 := (HP2.out.mb.same hb3).grown hgr (hne gM (by omega) (by omega)); have HA : Hid (w4.cell? ⟨gO, 0, none⟩ = some (.slice a done.length c) ∧ w4.cell? ⟨gM, 0, none⟩ = some (.slice (some ⟨gd, 0, none⟩) x0.length x0.length)) := ⟨hO4.cell 0, hM4.cell 0⟩; have d1 := HA.out.1; have d2 := hO4.free 0)))
      all_goals
        have HF : Hid (PA w0 [.slice a0 x0.length c0, .slice a1 x1.length c1] x0.length t0 gO gd gM gP lo (done ++ [p]) p (w4.setCell ⟨gO, 0, none⟩ (.slice (some ⟨g6, 0, none⟩) (done.length + 1) c6))) := by
          have hy : OwnI 2 w3 w2.heap.size w3.heap.size (some ⟨g5, 0, none⟩) c5 p := by exact ho5
          rw [← hpl] at ho6
          exact HP2.out.snoc HL.out HO.out HT.out hb3 (Nat.le_refl _) hy ho6 hgr hnew
        clear ho5 hb5 ho6 hgr hnew hO4 hM4 hO3 hT3 hb3
        go_wp2_with fail
        first | (refine bodyPost_ret (results_none rfl _ _ _) rfl ?_) | skip
        rw [HD.out]
        exact ⟨rfl, HF.out⟩
  | f + 1, done, p, w, hP, hl, hp, hlen => by
    have IH := Lib.hid (putA_any w0 a0 c0 x0 a1 c1 x1 h hv hin0 hin1 t0 gO gd gM gP lo L M hM f)
    have hpl : p.length < x0.length := by omega
    have h8 := hv.n8
    have h1 := hv.n1
    simp only at h8 h1
    have hln := Lib.hid hv.len
    simp only at hln
    have LC := Lib.hid (fun w' => count_any w' a0 c0 x0 a1 c1 x1)
    have LT : Hid (∀ (w' : World) (k : Nat), Below w0.heap.size w0 w' → k < x0.length → _) := fun w' k hb hk => take_any w' a0 c0 x0 a1 c1 x1 (h.to hb) hin0 hin1 p.length k hpl (by rw [hln.out]; exact hk)
    have HP := Lib.hid hP
    have HL := Lib.hid L
    have Hl := Lib.hid hl
    have Hp := Lib.hid hp
    have HLen := Lib.hid hlen
    have HB1 : Hid (partB ⟨x0, x1⟩ (p ++ [-1]) = true) := by rw [Hid, partB_snoc, hp]; simp [okB]
    have HD : Hid (deepF ⟨x0, x1⟩ (f + 1) p = deepF ⟨x0, x1⟩ f (p ++ [-1]) ++ (List.range x0.length).flatMap (fun (k : Nat) => if pairB ⟨x0, x1⟩ p.length k && !hasB p k then deepF ⟨x0, x1⟩ f (p ++ [(k : Int)]) else [])) := rfl
    have HL1 : Hid (done.length + (deepF ⟨x0, x1⟩ f (p ++ [-1])).length ≤ M) := by
      have := hlen
      rw [deepF, List.length_append] at this
      show _ ≤ _
      omega
    have HLk : Hid (∀ k, k < x0.length → pairB ⟨x0, x1⟩ p.length k = true → hasB p k = false → (done ++ (deepF ⟨x0, x1⟩ f (p ++ [-1]) ++ (List.range k).flatMap (fun (k : Nat) => if pairB ⟨x0, x1⟩ p.length k && !hasB p k then deepF ⟨x0, x1⟩ f (p ++ [(k : Int)]) else []))).length + (deepF ⟨x0, x1⟩ f (p ++ [(k : Int)])).length ≤ M ∧ partB ⟨x0, x1⟩ (p ++ [(k : Int)]) = true) := fun k hk h2 h3 => by
      have := hlen
      rw [deepF, List.length_append] at this
      have e1 := deepS_mono ⟨x0, x1⟩ f p (show k + 1 ≤ x0.length by omega)
      rw [deepS, List.length_append, h2, h3] at e1
      simp only [Bool.not_false, Bool.and_self, if_true] at e1
      simp only [List.length_append]
      refine ⟨by simp only [List.length_append] at this; omega, ?_⟩
      rw [partB_snoc, hp]
      have a1 : decide ((k : Int) = -1) = false := decide_eq_false (by omega)
      have a2 : inB (k : Int) 0 ((x0.length : Int) - 1) = true := inB_iff.2 ⟨by omega, by omega⟩
      unfold okB
      simp only at h2 ⊢
      rw [a1, a2, h3, Int.toNat_natCast, h2]; rfl
    have HLn : Hid ((padM x0.length p).length = x0.length) := padM_len (by omega)
    obtain ⟨q0, q1⟩ := hP.bx.two
    have htst : ((p.length : Int) == (x0.length : Int)) = false := by simp; omega
    have e1 : Hid (((p ++ [(-1 : Int)]).length : Int) = (p.length : Int) + 1) := by simp [Hid]
    have e2 : Hid (∀ k : Nat, ((p ++ [(k : Int)]).length : Int) = (p.length : Int) + 1) := by simp [Hid]
    clear hP L h hv hin0 hin1 hl hp hlen
    have hEP := enter_all
    go_enter Try.func80, Try.ntmps80
    go_wp2_with fail
    refine (LC.out _).mono ?_
    rintro e w1 ⟨rfl, hb1⟩
    have HP1 := Lib.hid (HP.out.later hb1)
    clear q0 q1 HP hb1
    have c4 := HP1.out.pb.cell 0
    simp only [List.getElem?_cons_zero, putV] at c4
    have LI := Lib.hid (IH.out done (p ++ [-1]) w1 (HP1.out.same (padM_nobody hpl).symm) (by rw [List.length_append, List.length_singleton]; have := Hl.out; omega) HB1.out HL1.out)
    rw [e1.out] at LI
    go_wp2_with fail
    refine LI.out.mono ?_
    rintro e w2 ⟨rfl, hP2⟩
    have HP2 := Lib.hid (hP2.same (padM_nobody hpl))
    clear hP2 c4 HP1 LI
    obtain ⟨q0, q1⟩ := HP2.out.bx.two
    go_wp2_with fail
    refine (LC.out _).mono ?_
    rintro e w3 ⟨rfl, hb3⟩
    have HP3 := Lib.hid (HP2.out.later hb3)
    clear q0 q1 HP2 hb3
    go_wp2_with fail
    go_loopw [25] (fun i wr => ∃ k : Nat, k ≤ x0.length ∧ i = .int .i64 k ∧ Hid (PA w0 [.slice a0 x0.length c0, .slice a1 x1.length c1] x0.length t0 gO gd gM gP lo (done ++ (deepF ⟨x0, x1⟩ f (p ++ [-1]) ++ (List.range k).flatMap (fun (k : Nat) => if pairB ⟨x0, x1⟩ p.length k && !hasB p k then deepF ⟨x0, x1⟩ f (p ++ [(k : Int)]) else []))) p wr)) (fun i _ => x0.length - (intOf i).toNat)
    case atStart => exact ⟨0, Nat.zero_le _, rfl, (show PA w0 [.slice a0 x0.length c0, .slice a1 x1.length c1] x0.length t0 gO gd gM gP lo _ p w3 from by simpa using HP3.out)⟩
    case round =>
      clear HP3
      obtain ⟨k, hk, rfl, HP⟩ := hrel
      by_cases hlt : k < x0.length
      · obtain ⟨q0, q1⟩ := HP.out.bx.two
        have LT1 := Lib.hid (LT.out wr k HP.out.bx.1 hlt)
        cases t1 : pairB ⟨x0, x1⟩ p.length k with
        | false =>
          rw [t1] at LT1
          have hF : Hid ((List.range (k + 1)).flatMap (fun (k : Nat) => if pairB ⟨x0, x1⟩ p.length k && !hasB p k then deepF ⟨x0, x1⟩ f (p ++ [(k : Int)]) else []) = (List.range k).flatMap (fun (k : Nat) => if pairB ⟨x0, x1⟩ p.length k && !hasB p k then deepF ⟨x0, x1⟩ f (p ++ [(k : Int)]) else [])) := by rw [Hid, deepS, t1]; simp
          go_wp2_with fail
          refine LT1.out.mono ?_
          rintro e w4 ⟨rfl, hb4⟩
          have HN : Hid (PA w0 [.slice a0 x0.length c0, .slice a1 x1.length c1] x0.length t0 gO gd gM gP lo (done ++ (deepF ⟨x0, x1⟩ f (p ++ [-1]) ++ (List.range (k + 1)).flatMap (fun (k : Nat) => if pairB ⟨x0, x1⟩ p.length k && !hasB p k then deepF ⟨x0, x1⟩ f (p ++ [(k : Int)]) else []))) p w4) := by rw [hF.out]; exact HP.out.later hb4
          clear q0 q1 HP hb4 LT1
          go_wp2_with fail
          go_roundw
          case rel => exact ⟨k + 1, by omega, by go_num, HN⟩
          case measure => simp [intOf]; omega
        | true =>
          rw [t1] at LT1
          go_wp2_with fail
          refine LT1.out.mono ?_
          rintro e w4 ⟨rfl, hb4⟩
          have HP4 := Lib.hid (HP.out.later hb4)
          clear q0 q1 HP hb4 LT1
          have cM := HP4.out.mb.cell 0
          simp only [List.getElem?_cons_zero] at cM
          have LH := Lib.hid (contains_any w4 (some ⟨gd, 0, none⟩) x0.length (padM x0.length p) k (HP4.out.md.rd HP4.out.md.lt) (by rw [HLn.out]; omega))
          rw [padM_has, HLn.out] at LH
          cases t2 : hasB p k with
          | true =>
            rw [t2] at LH
            have HN : Hid (PA w0 [.slice a0 x0.length c0, .slice a1 x1.length c1] x0.length t0 gO gd gM gP lo (done ++ (deepF ⟨x0, x1⟩ f (p ++ [-1]) ++ (List.range (k + 1)).flatMap (fun (k : Nat) => if pairB ⟨x0, x1⟩ p.length k && !hasB p k then deepF ⟨x0, x1⟩ f (p ++ [(k : Int)]) else []))) p w4) := by rw [deepS_no (by rw [t1, t2]; rfl)]; exact HP4.out
            clear HP4
            go_wp2_with fail
            refine LH.out.mono ?_
            rintro e w' ⟨rfl, rfl⟩
            go_wp2_with fail
            go_roundw
            case rel => exact ⟨k + 1, by omega, by go_num, HN⟩
            case measure => simp [intOf]; omega
          | false =>
            rw [t2] at LH
            obtain ⟨hM1, hB2⟩ := HLk.out k hlt t1 t2
            have ck : w4.cell? ⟨gd, p.length, none⟩ = some (.int .i64 ((padM x0.length p).getD p.length 0)) := HP4.out.md.at (by rw [HLn.out]; exact hpl)
            have fk := HP4.out.md.free p.length
            have HPs := Lib.hid (HP4.out.sto HL.out p.length k (padM_set hpl k))
            have LI := Lib.hid (IH.out _ _ _ HPs.out (by rw [List.length_append, List.length_singleton]; have := Hl.out; omega) hB2 hM1)
            rw [e2.out] at LI
            have c4 := HPs.out.pb.cell 0
            simp only [List.getElem?_cons_zero, putV] at c4
            have p0 : (0 : Int) ≤ (p.length : Int) := Int.natCast_nonneg _
            have p1 : (p.length : Int) < (x0.length : Int) := by omega
            generalize (padM x0.length p).getD p.length 0 = old at *
            clear HP4 hM1 hB2 HPs
            go_wp2_with fail
            refine LH.out.mono ?_
            rintro e w' ⟨rfl, rfl⟩
            go_wp2_with fail
            refine LI.out.mono ?_
            rintro e w5 ⟨rfl, hP5⟩
            have HP5 := Lib.hid hP5
            have cM := HP5.out.mb.cell 0
            simp only [List.getElem?_cons_zero] at cM
            have ck : w5.cell? ⟨gd, p.length, none⟩ = some (.int .i64 ((padM x0.length (p ++ [(k : Int)])).getD p.length 0)) := HP5.out.md.at (by rw [padM_len (by simp; omega)]; exact hpl)
            have fk := HP5.out.md.free p.length
            generalize (padM x0.length (p ++ [(k : Int)])).getD p.length 0 = old2 at *
            have HN : Hid (PA w0 [.slice a0 x0.length c0, .slice a1 x1.length c1] x0.length t0 gO gd gM gP lo (done ++ (deepF ⟨x0, x1⟩ f (p ++ [-1]) ++ (List.range (k + 1)).flatMap (fun (k : Nat) => if pairB ⟨x0, x1⟩ p.length k && !hasB p k then deepF ⟨x0, x1⟩ f (p ++ [(k : Int)]) else []))) p (w5.setCell ⟨gd, p.length, none⟩ (.int .i64 (-1)))) := by
              have := HP5.out.sto HL.out p.length (-1) (padM_back hpl k)
              rw [deepS_yes (by rw [t1, t2]; rfl)]
              rw [← List.append_assoc, ← List.append_assoc] at *
              exact this
            clear HP5 hP5 LI LH c4
            go_wp2_with fail
            go_roundw
            case rel => exact ⟨k + 1, by omega, by go_num, HN⟩
            case measure => simp [intOf]; omega
      · have : k = x0.length := by omega
        subst this
        have HF : Hid (PA w0 [.slice a0 x0.length c0, .slice a1 x1.length c1] x0.length t0 gO gd gM gP lo (done ++ deepF ⟨x0, x1⟩ (f + 1) p) p wr) := by rw [HD.out]; exact HP.out
        clear HP
        go_wp2_with fail
        go_end0
        exact ⟨rfl, HF.out⟩
end Go.Proofs.Ytdipckpcmnhpjaa
