/-
  Part 7 of what the proof stands on: lemmas and contracts, each with its conditions ahead of the colon.
-/
import Derived.Laws.EntriesVeiled
import Derived.Outline
import Derived.Deep.RegionHeld3
import Derived.Test.YtchfibmndcfpiaaPk01
import Derived.Test.YtchfibmndcfpiaaPk03
import Derived.Test.YtchfibmndcfpiaaPk04
import Derived.Test.YtchfibmndcfpiaaPk05
import Derived.Test.YtchfibmndcfpiaaPk06
namespace Go.Proofs.Ytchfibmndcfpiaa
set_option linter.unusedVariables false
set_option linter.unusedSimpArgs false
open Go.RowKit

theorem touch_setX (w : World) (g j : Nat) (u : Value) : Touch w (w.setCell ⟨g, j, none⟩ u) g (g + 1) :=
  Touch.of_grown (show w.grownBy (w.setCell ⟨g, j, none⟩ u) (some g) from ⟨rfl, rfl, rfl, by simp, fun i _ hi => Below.heap_setCell _ _ _ _ (fun e => hi (by simp [e]))⟩) (Nat.le_refl _) (Nat.lt_succ_self _)
theorem touch_hiX {w w1 w2 : World} {b lo hi : Nat} (h : Touch w w1 b (b + 1)) (ht : Touch w1 w2 lo hi) (hlo : w.heap.size ≤ lo) : Touch w w2 b (b + 1) :=
  ⟨ht.os.trans h.os, ht.tape.trans h.tape, ht.output.trans h.output, Nat.le_trans h.size ht.size, fun k hk hd => (ht.block k (by have := h.size; omega) (by omega)).trans (h.block k hk hd)⟩
theorem OwnI.take {T lo hi c : Nat} {w : World} {a : Option Addr} {xs : List Int} (h : OwnI T w lo hi a c xs) (t : Nat) : OwnI T w lo hi a c (xs.take t) := by
  refine ⟨⟨by simp, ?_⟩, h.2⟩
  have hl : (xs.take t).length ≤ xs.length := by simp; omega
  rcases h.1.2 with ⟨h1, h2⟩ | ⟨g, cap, cur, hv, hg, hh, hn, hm, hs, ht⟩
  · left
    injection h1 with e1 e2 e3
    have hx : xs = [] := List.eq_nil_of_length_eq_zero h2
    subst hx e1 e3
    simp
  · right
    injection hv with e1 e2 e3
    refine ⟨g, cap, cur, by rw [e1, e3], hg, hh, by omega, hm, hs, ?_⟩
    rw [Nat.mul_one] at ht ⊢
    rw [show ints (xs.take t) = (ints xs).take t by simp [ints, List.map_take], ← ht, List.take_take, List.length_take]
/-- A row of its own, made since, is appended. -/
theorem OwnRows.snocX {T T2 : Nat} {w w' : World} {lo hi r0 g c : Nat} {u u' : Value} {vs : List Value} {yss : List (List Int)} {ys : List Int}
    (h : OwnRows T T2 w lo hi u vs yss) (hlo : lo ≤ r0) (hhi : hi ≤ r0) (hr : OwnI T w r0 w.heap.size (some ⟨g, 0, none⟩) c ys)
    (ho : w'.ownsRow lo T2 1 u' (yss.length + 1) (vs ++ [.slice (some ⟨g, 0, none⟩) ys.length c])) (hg : w.grownBy w' u.ownBlock) (hn : ∀ g, g < w.heap.size → some g ≠ u.ownBlock → some g ≠ u'.ownBlock) :
    OwnRows T T2 w' lo w'.heap.size u' (vs ++ [.slice (some ⟨g, 0, none⟩) ys.length c]) (yss ++ [ys]) := by
  have hl := h.len
  have hrg : r0 ≤ g := (hr.1.lt g rfl).1
  have hgw : g < w.heap.size := (hr.1.lt g rfl).2
  have hap : Apart u (.slice (some ⟨g, 0, none⟩) ys.length c) := fun q hq e => by
    have := h.lt q hq
    simp [Value.ownBlock] at e
    omega
  have at' : ∀ (j : Nat) (v : Value), (vs ++ [.slice (some ⟨g, 0, none⟩) ys.length c])[j]? = some v → (j < yss.length ∧ vs[j]? = some v) ∨ (j = yss.length ∧ v = .slice (some ⟨g, 0, none⟩) ys.length c) := by
    intro j v hj
    by_cases hlt : j < vs.length
    · rw [List.getElem?_append_left hlt] at hj
      exact .inl ⟨by omega, hj⟩
    · rw [List.getElem?_append_right (by omega)] at hj
      have : j - vs.length = 0 := by
        have := (List.getElem?_eq_some_iff.1 hj).1
        simp at this
        omega
      rw [this] at hj
      simp at hj
      exact .inr ⟨by omega, hj.symm⟩
  have hrow : ∀ (j : Nat) (v : Value), vs[j]? = some v → ∃ g' c' ys', v = .slice (some ⟨g', 0, none⟩) ys'.length c' ∧ OwnI T w lo hi (some ⟨g', 0, none⟩) c' ys' := by
    intro j v hj
    have hlt : j < yss.length := by have := (List.getElem?_eq_some_iff.1 hj).1; omega
    obtain ⟨g', c', h1, h2⟩ := h.row j yss[j] (List.getElem?_eq_getElem hlt)
    rw [hj] at h1
    injection h1 with h1
    exact ⟨g', c', _, h1, h2⟩
  refine ⟨by rw [List.length_append, List.length_singleton]; exact ho, fun q hq => (ho.lt q hq).2, fun j zs hj => ?_, fun j v hj => ?_, fun i j v v' hij hi hj => ?_⟩
  · by_cases hlt : j < yss.length
    · rw [List.getElem?_append_left hlt] at hj
      obtain ⟨g', c', h1, h2⟩ := h.row j zs hj
      refine ⟨g', c', by rw [List.getElem?_append_left (by omega)]; exact h1, ?_⟩
      exact (h2.apart hg (h.top j _ h1)).mono (Nat.le_refl _) (by have := hg.size; omega)
    · rw [List.getElem?_append_right (by omega)] at hj
      have : j - yss.length = 0 := by
        have := (List.getElem?_eq_some_iff.1 hj).1
        simp at this
        omega
      rw [this] at hj
      simp at hj
      subst hj
      refine ⟨g, c, by rw [List.getElem?_append_right (by omega), show j - vs.length = 0 by omega]; rfl, ?_⟩
      exact (hr.apart hg hap).mono hlo hg.size
  · rcases at' j v hj with ⟨_, h1⟩ | ⟨_, rfl⟩
    · obtain ⟨g', c', ys', e, h2⟩ := hrow j v h1
      have ha := h.top j v h1
      subst e
      exact apart_grow h2.1 ha hn
    · exact apart_grow hr.1 hap hn
  · rcases at' i v hi with ⟨i1, h1⟩ | ⟨i1, rfl⟩ <;> rcases at' j v' hj with ⟨j1, h2⟩ | ⟨j1, rfl⟩
    · exact h.dis i j v v' hij h1 h2
    · obtain ⟨g', c', ys', e, h3⟩ := hrow i v h1
      subst e
      intro q hq e
      have := h3.2 _ rfl
      simp [Value.ownBlock] at hq e
      simp at this
      omega
    · obtain ⟨g', c', ys', e, h3⟩ := hrow j v' h2
      subst e
      intro q hq e
      have := h3.2 _ rfl
      simp [Value.ownBlock] at hq e
      simp at this
      omega
    · omega
theorem OwnRows.keepX {T T2 : Nat} {w w' : World} {lo hi : Nat} {u : Value} {vs : List Value} {yss : List (List Int)} (h : OwnRows T T2 w lo hi u vs yss) (hb : Below hi w w') : OwnRows T T2 w' lo hi u vs yss := by
  have ht := touch_of_below' hb
  exact ⟨own_touch h.out h.lt ht (.inl (Nat.le_refl _)), h.lt, fun j ys hj => let ⟨g, c, h1, h2⟩ := h.row j ys hj; ⟨g, c, h1, h2.touch ht (.inl (Nat.le_refl _))⟩, h.top, h.dis⟩
/-- Lists of numbers below n, each once. -/
def GoodX (yss : List (List Int)) (n : Nat) : Prop := ∀ ys ∈ yss, ys.length ≤ n ∧ (∀ x ∈ ys, 0 ≤ x ∧ x < n) ∧ ys.Nodup
theorem GoodX.nil (n : Nat) : GoodX [] n := fun y h => by simp at h
theorem GoodX.snoc {yss : List (List Int)} {n : Nat} {ys : List Int} (h : GoodX yss n) (hy : ys.length ≤ n ∧ (∀ x ∈ ys, 0 ≤ x ∧ x < n) ∧ ys.Nodup) : GoodX (yss ++ [ys]) n := fun z hz => by
  rcases List.mem_append.1 hz with hz | hz
  · exact h z hz
  · rw [List.mem_singleton] at hz; subst hz; exact hy
theorem good_wish {x0 x1 : List (List Int)} {n : Nat} (h1 : 1 ≤ n) (h8 : n ≤ 8) (l0 : x0.length = n) (l1 : x1.length = n) (g0 : GoodX x0 n) (g1 : GoodX x1 n) : wishB ⟨x0, x1⟩ = true := by
  have e0 : listsB x0 x0.length = true := listsB_iff.2 ⟨fun xs hx => by rw [l0]; exact (g0 xs hx).2, rfl⟩
  have e1 : listsB x1 x0.length = true := listsB_iff.2 ⟨fun xs hx => by rw [l0]; exact (g1 xs hx).2, by omega⟩
  unfold wishB
  simp only [e0, e1, Bool.and_true, inB_iff]
  omega
theorem info_intsX : (Try.prog.info? 31).map (fun i => (i.zero, i.size, i.bytes)) = some (some (.slice none 0 0), 1, 24) := by kernel_rfl
/-- The result's cell, the wishes that are made, the source. -/
structure DX (w wX : World) (B0 b : Nat) (a : Option Addr) (xs : List Int) (c p : Nat) (cs : List Value) : Prop where
  T : Touch w wX b (b + 1)
  D : DS wX B0 b a xs c p
  R : Blk wX w.heap.size [.slice none 0 0, .slice none 0 0] 27
  V : Blk wX (w.heap.size + 1) cs 27
section
variable {w wX wY : World} {B0 b c p p' lo : Nat} {a : Option Addr} {xs : List Int} {cs : List Value}
theorem DX.draw (h : DX w wX B0 b a xs c p cs) (hb : b < w.heap.size) (ht : Touch wX wY b (b + 1)) (hd : DS wY B0 b a xs c p') : DX w wY B0 b a xs c p' cs :=
  ⟨h.T.trans ht, hd, h.R.touch ht (.inr (by omega)), h.V.touch ht (.inr (by omega))⟩
theorem DX.fresh (h : DX w wX B0 b a xs c p cs) (hb : b < w.heap.size) (ht : Below lo wX wY) (hlo : w.heap.size + 2 ≤ lo) : DX w wY B0 b a xs c p cs := by
  have t := touch_of_below' ht
  exact ⟨touch_hiX h.T t (by omega), h.D.touch t (by omega), h.R.touch t (.inl (by omega)), h.V.touch t (.inl (by omega))⟩
theorem DX.set (h : DX w wX B0 b a xs c p cs) (hb : b < w.heap.size) (j : Nat) (u : Value) : DX w (wX.setCell ⟨w.heap.size + 1, j, none⟩ u) B0 b a xs c p (cs.set j u) := by
  have ht := touch_setX wX (w.heap.size + 1) j u
  exact ⟨touch_hiX h.T ht (by omega), h.D.touch ht (by omega), h.R.touch ht (.inl (by omega)), h.V.set j u⟩
end
/-- How far the drawing is: nothing, the left side, both sides. -/
inductive PhX (w wX : World) (B0 b : Nat) (a : Option Addr) (xs : List Int) (c p1 n : Nat) : Nat → Prop
  | zero (hd : DX w wX B0 b a xs c p1 [.slice none 0 0, .slice none 0 0]) (hs : w.heap.size + 2 ≤ wX.heap.size) : PhX w wX B0 b a xs c p1 n 0
  | one {aL : Option Addr} {cL : Nat} {vL : List Value} {xL : List (List Int)} {p2 : Nat} (hd : DX w wX B0 b a xs c p2 [.slice aL n cL, .slice none 0 0]) (hl : xL.length = n) (hg : GoodX xL n) (ho : OwnRows 2 31 wX (w.heap.size + 2) wX.heap.size (.slice aL n cL) vL xL) (hs : w.heap.size + 2 ≤ wX.heap.size) (hp : p2 ≤ p1 + 9 * n) : PhX w wX B0 b a xs c p1 n 1
  | two {aL : Option Addr} {cL : Nat} {vL : List Value} {xL : List (List Int)} {aR : Option Addr} {cR : Nat} {vR : List Value} {xR : List (List Int)} {p2 hL : Nat} (hd : DX w wX B0 b a xs c p2 [.slice aL n cL, .slice aR n cR]) (hl : xL.length = n) (hl' : xR.length = n) (hg : GoodX xL n) (hg' : GoodX xR n) (ho : OwnRows 2 31 wX (w.heap.size + 2) hL (.slice aL n cL) vL xL) (ho' : OwnRows 2 31 wX hL wX.heap.size (.slice aR n cR) vR xR) (hh : w.heap.size + 2 ≤ hL) (hs : hL ≤ wX.heap.size) (hp : p2 ≤ p1 + 18 * n) : PhX w wX B0 b a xs c p1 n 2
def WishR (w : World) (B0 b : Nat) (a : Option Addr) (xs : List Int) (c q n : Nat) (e : Ending) (w' : World) : Prop :=
  ∃ (aL : Option Addr) (cL : Nat) (xL : List (List Int)) (aR : Option Addr) (cR : Nat) (xR : List (List Int)) (p' : Nat), e = .returned (.agg #[.slice aL n cL, .slice aR n cR]) ∧ (xL.length = n ∧ xR.length = n) ∧ (GoodX xL n ∧ GoodX xR n) ∧ (∃ m, (w.heap.size ≤ m ∧ m ≤ w'.heap.size) ∧ OwnLL 2 31 w' w.heap.size m aL cL xL ∧ OwnLL 2 31 w' m w'.heap.size aR cR xR) ∧ p' ≤ q ∧ DS w' B0 b a xs c p' ∧ Touch w w' b (b + 1)
set_option maxRecDepth 10000 in
set_option maxHeartbeats 16000000 in
theorem wishes_ds (w : World) (B0 b : Nat) (a : Option Addr) (xs : List Int) (c p n : Nat) (h : DS w B0 b a xs c p) (hp : p ≤ 600000) (n1 : 1 ≤ n) (n8 : n ≤ 8) :
    Calls Try.prog 37 #[.pointer (some ⟨b, 0, none⟩), .int .i64 n] w (WishR w B0 b a xs c (p + 200) n) := by
  have hbw := h.lt
  have B2 := bl2 w (.cells #[.slice none 0 0, .slice none 0 0] 27) (.cells #[.slice none 0 0, .slice none 0 0] 27)
  have e1 : (w.alloc (.cells #[.slice none 0 0, .slice none 0 0] 27)).heap.size = w.heap.size + 1 := World.size_alloc _ _
  have HD0 : Hid (DX w ((w.alloc (.cells #[.slice none 0 0, .slice none 0 0] 27)).alloc (.cells #[.slice none 0 0, .slice none 0 0] 27)) B0 b a xs c p [.slice none 0 0, .slice none 0 0]) :=
    ⟨Below.touch B2 b (b + 1), h.same B2, (Blk.new w [.slice none 0 0, .slice none 0 0] 27).alloc _, by rw [← e1]; exact Blk.new _ _ _⟩
  have L1 := Lib.hid (one_ds _ B0 b a xs c p 2 HD0.out.D (by omega) (by omega))
  have n0i : (0 : Int) ≤ (n : Int) := Int.natCast_nonneg _
  have n8i : (n : Int) ≤ 8 := by omega
  clear h B2 e1
  go_enter Try.func37, Try.ntmps37
  go_wp2_with fail
  refine L1.out.mono ?_
  rintro e w1 ⟨y, p1, rfl, hp1, D1, T1⟩
  have HD1 := Lib.hid (HD0.out.draw hbw T1 D1)
  have s1 := T1.size
  simp only [World.size_alloc] at s1
  have hs1 : w.heap.size + 2 ≤ w1.heap.size := by omega
  clear L1 D1 T1 HD0 s1
  go_wp2_with fail
  go_loopw [7] (fun sv wr => ∃ (s : Nat), sv = .int .i64 s ∧ Hid (PhX w wr B0 b a xs c p1 n s)) (fun sv _ => 2 - (intOf sv).toNat)
  case atStart => exact ⟨0, rfl, PhX.zero HD1.out hs1⟩
  case round =>
    clear HD1 hs1
    obtain ⟨s, rfl, HP⟩ := hrel
    obtain ⟨ws, hws⟩ : ∃ W : World, W = wr := ⟨_, rfl⟩
    subst hws
    cases HP.out with
    | zero HD0 hs =>
        have HD := Lib.hid HD0
        rw [show ((0 : Nat) : Int) = 0 from rfl]
        clear HP HD0
        go_wp2_with fail
        go_loopw [8] (fun iv wr => ∃ (k : Nat) (aa : Option Addr) (ca : Nat) (vs : List Value) (yss : List (List Int)) (p' : Nat), k ≤ n ∧ iv = .int .i64 k ∧ yss.length = k ∧ Hid (GoodX yss n) ∧ Hid (DX w wr B0 b a xs c p' [.slice aa k ca, .slice none 0 0]) ∧ Hid (OwnRows 2 31 wr (w.heap.size + 2) wr.heap.size (.slice aa k ca) vs yss) ∧ (w.heap.size + 2) ≤ wr.heap.size ∧ p' ≤ p1 + 9 * k) (fun iv _ => n - (intOf iv).toNat)
        case atStart => exact ⟨0, none, 0, [], [], p1, Nat.zero_le _, rfl, rfl, GoodX.nil n, HD, OwnRows.start (World.ownsRow_nil _ _ _ _), by omega, by omega⟩
        case round =>
          clear HD
          obtain ⟨k, aa, ca, vs, yss, p2, hk, rfl, hyl, HG, HD2, HR2, hsz, hp2⟩ := hrel
          have k0 : (0 : Int) ≤ (k : Int) := Int.natCast_nonneg _
          by_cases hlt : k < n
          · have hki : (k : Int) < (n : Int) := by omega
            have L2 := Lib.hid (order_ds wr B0 b a xs c p2 n HD2.out.D (by omega) n8)
            go_wp2_with fail
            refine L2.out.mono ?_
            rintro e w2 ⟨g2, cc, l, p3, rfl, hO, hI, hp3, D3, T3⟩
            have s2 := T3.size
            have HD3 := Lib.hid (HD2.out.draw hbw T3 D3)
            have HR3 : Hid (OwnRows 2 31 w2 (w.heap.size + 2) wr.heap.size (.slice aa k ca) vs yss) := HR2.out.grown (touch_grown T3) (.inl (by omega))

            have HI := Lib.hid hI
            have HO := Lib.hid hO
            have Hyl := Lib.hid hyl
            have hlen := hO.len
            have Hln := Lib.hid hlen
            have hcap : n ≤ cc := by have := hI.cap; omega
            clear L2 D3 T3 HD2 HR2 hI hO hyl hlen
            cases y with
            | true =>
              have HDx := HD3
              have HRx := HR3
              have q0 := HDx.out.V.cell 0
              have q1 := HDx.out.V.cell 1
              have f0 := HDx.out.V.free 0
              simp only [List.getElem?_cons_zero, List.getElem?_cons_succ] at q0 q1
              have HIr : Hid (OwnI 2 w2 wr.heap.size w2.heap.size (some ⟨g2, 0, none⟩) cc l) := HI.out
              have HLr : Hid ((l).length = n) := Hln.out
              have HGr : Hid (GoodX (yss ++ [l]) n) := HG.out.snoc ⟨by rw [Hln.out]; exact Nat.le_refl _, HO.out.mem, HO.out.nd⟩
              have hsx : (w.heap.size + 2) ≤ w2.heap.size := by omega
              go_wp2_with (at_builtin; refine wpList_append_blk _ rfl _ _ 25 rfl (w.heap.size + 2) 31 (.slice none 0 0) 24 Try.underlying25 info_intsX rfl _ k vs rfl (by have := HRx.out.out; rw [Hyl.out] at this; exact this) (.slice (some ⟨g2, 0, none⟩) n cc) rfl rfl (by omega) (by omega) hsx ?_)
              intro v9 w9 o9 g9 n9
              obtain ⟨a9, c9, e9, _, _⟩ := own_shape o9
              subst e9
              have hB9 : Below (w.heap.size + 2) w2 w9 := below_of_grown g9 hsx (fun q hq => ((HRx.out.out).lt q hq).1)
              have HR9 : Hid (OwnRows 2 31 w9 (w.heap.size + 2) w9.heap.size (.slice a9 (k + 1) c9) (vs ++ [.slice (some ⟨g2, 0, none⟩) n cc]) (yss ++ [l])) := by
                have := HRx.out.snocX (u' := .slice a9 (k + 1) c9) (by omega) (Nat.le_refl _) HIr.out (w' := w9) (by rw [HLr.out, Hyl.out]; exact o9) g9 n9
                rw [HLr.out] at this
                exact this
              have HD9 : Hid (DX w w9 B0 b a xs c p3 [.slice aa k ca, .slice none 0 0]) := HDx.out.fresh hbw hB9 (by omega)
              have s9 := hB9.size
              have q0 := HD9.out.V.cell 0
              have q1 := HD9.out.V.cell 1
              have f0 := HD9.out.V.free 0
              simp only [List.getElem?_cons_zero, List.getElem?_cons_succ] at q0 q1
              have HDz : Hid (DX w (w9.setCell ⟨w.heap.size + 1, 0, none⟩ (.slice a9 (k + 1) c9)) B0 b a xs c p3 [.slice a9 (k + 1) c9, .slice none 0 0]) := HD9.out.set hbw 0 _
              have tz := touch_setX w9 (w.heap.size + 1) 0 (.slice a9 (k + 1) c9)
              have HRz := Lib.hid (HR9.out.grown (touch_grown tz) (.inl (by omega)))
              have hzs : (w9.setCell ⟨w.heap.size + 1, 0, none⟩ (.slice a9 (k + 1) c9)).heap.size = w9.heap.size := by simp
              have HZs := Lib.hid hzs
              clear o9 g9 n9 tz hzs hB9
              go_wp2_with fail
              go_roundw
              case rel => exact ⟨k + 1, a9, c9, _, _, p3, by omega, by go_num, by rw [List.length_append, Hyl.out]; rfl, HGr, HDz, by rw [Hid, HZs.out]; exact HRz.out, by rw [HZs.out]; omega, by omega⟩
              case measure => simp [intOf]; omega
            | false =>
              have L3 := Lib.hid (pick_ds w2 B0 b a xs c p3 ((n : Int) + 1) HD3.out.D (by omega) (by omega))
              go_wp2_with fail
              refine L3.out.mono ?_
              rintro e w3 ⟨x, p4, rfl, ⟨x0, x1⟩, hp4, D4, T4⟩
              obtain ⟨t, rfl⟩ : ∃ t : Nat, x = t := ⟨x.toNat, by omega⟩
              have htn : t ≤ n := by omega
              have htc : (t : Int) ≤ (cc : Int) := by omega
              have t0 : (0 : Int) ≤ (t : Int) := Int.natCast_nonneg _
              have s3 := T4.size
              have HD4 := Lib.hid (HD3.out.draw hbw T4 D4)
              have HR4 : Hid (OwnRows 2 31 w3 (w.heap.size + 2) wr.heap.size (.slice aa k ca) vs yss) := HR3.out.grown (touch_grown T4) (.inl (by omega))

              have HI4 : Hid (OwnI 2 w3 wr.heap.size w3.heap.size (some ⟨g2, 0, none⟩) cc l) := (HI.out.touch T4 (.inr (by have := HD3.out.D.lt; omega))).mono (Nat.le_refl _) s3
              have hlt4 : (l.take t).length = t := by rw [List.length_take, Hln.out]; omega
              have Hlt4 := Lib.hid hlt4
              clear L3 D4 T4 x0 x1 HD3 HR3 HI hlt4
              have HDx := HD4
              have HRx := HR4
              have q0 := HDx.out.V.cell 0
              have q1 := HDx.out.V.cell 1
              have f0 := HDx.out.V.free 0
              simp only [List.getElem?_cons_zero, List.getElem?_cons_succ] at q0 q1
              have HIr : Hid (OwnI 2 w3 wr.heap.size w3.heap.size (some ⟨g2, 0, none⟩) cc (l.take t)) := HI4.out.take t
              have HLr : Hid (((l.take t)).length = t) := Hlt4.out
              have HGr : Hid (GoodX (yss ++ [(l.take t)]) n) := HG.out.snoc ⟨by rw [Hlt4.out]; exact htn, fun x hx => HO.out.mem x (List.mem_of_mem_take hx), HO.out.nd.sublist (List.take_sublist t l)⟩
              have hsx : (w.heap.size + 2) ≤ w3.heap.size := by omega
              go_wp2_with (at_builtin; refine wpList_append_blk _ rfl _ _ 25 rfl (w.heap.size + 2) 31 (.slice none 0 0) 24 Try.underlying25 info_intsX rfl _ k vs rfl (by have := HRx.out.out; rw [Hyl.out] at this; exact this) (.slice (some ⟨g2, 0, none⟩) t cc) rfl rfl (by omega) (by omega) hsx ?_)
              intro v9 w9 o9 g9 n9
              obtain ⟨a9, c9, e9, _, _⟩ := own_shape o9
              subst e9
              have hB9 : Below (w.heap.size + 2) w3 w9 := below_of_grown g9 hsx (fun q hq => ((HRx.out.out).lt q hq).1)
              have HR9 : Hid (OwnRows 2 31 w9 (w.heap.size + 2) w9.heap.size (.slice a9 (k + 1) c9) (vs ++ [.slice (some ⟨g2, 0, none⟩) t cc]) (yss ++ [(l.take t)])) := by
                have := HRx.out.snocX (u' := .slice a9 (k + 1) c9) (by omega) (Nat.le_refl _) HIr.out (w' := w9) (by rw [HLr.out, Hyl.out]; exact o9) g9 n9
                rw [HLr.out] at this
                exact this
              have HD9 : Hid (DX w w9 B0 b a xs c p4 [.slice aa k ca, .slice none 0 0]) := HDx.out.fresh hbw hB9 (by omega)
              have s9 := hB9.size
              have q0 := HD9.out.V.cell 0
              have q1 := HD9.out.V.cell 1
              have f0 := HD9.out.V.free 0
              simp only [List.getElem?_cons_zero, List.getElem?_cons_succ] at q0 q1
              have HDz : Hid (DX w (w9.setCell ⟨w.heap.size + 1, 0, none⟩ (.slice a9 (k + 1) c9)) B0 b a xs c p4 [.slice a9 (k + 1) c9, .slice none 0 0]) := HD9.out.set hbw 0 _
              have tz := touch_setX w9 (w.heap.size + 1) 0 (.slice a9 (k + 1) c9)
              have HRz := Lib.hid (HR9.out.grown (touch_grown tz) (.inl (by omega)))
              have hzs : (w9.setCell ⟨w.heap.size + 1, 0, none⟩ (.slice a9 (k + 1) c9)).heap.size = w9.heap.size := by simp
              have HZs := Lib.hid hzs
              clear o9 g9 n9 tz hzs hB9
              go_wp2_with fail
              go_roundw
              case rel => exact ⟨k + 1, a9, c9, _, _, p4, by omega, by go_num, by rw [List.length_append, Hyl.out]; rfl, HGr, HDz, by rw [Hid, HZs.out]; exact HRz.out, by rw [HZs.out]; omega, by omega⟩
              case measure => simp [intOf]; omega
          · obtain rfl : k = n := by omega
            have HE : Hid (PhX w wr B0 b a xs c p1 k 1) := PhX.one HD2.out hyl HG.out HR2.out hsz hp2
            clear hlt
            go_wp2_with fail
            go_roundw
            case rel => exact ⟨1, by go_num, HE⟩
            case measure => simp [intOf]
    | one HD0 hl0 HG0 HR0 hs hpp =>
        rename_i aL cL vL xL p2
        obtain ⟨hL, hhL⟩ : ∃ x, x = ws.heap.size := ⟨_, rfl⟩
        rw [← hhL] at HR0
        have HD := Lib.hid HD0
        have HOL := Lib.hid HR0
        have HGL := Lib.hid HG0
        have HLL := Lib.hid hl0
        obtain ⟨p0, hp0⟩ : ∃ x, x = p1 := ⟨_, rfl⟩
        have hLw : hL ≤ ws.heap.size := by omega
        have hLl : w.heap.size + 2 ≤ hL := by omega
        rw [show ((1 : Nat) : Int) = 1 from rfl]
        clear HP HD0 HR0 HG0 hl0 hhL
        go_wp2_with fail
        go_loopw [8] (fun iv wr => ∃ (k : Nat) (aa : Option Addr) (ca : Nat) (vs : List Value) (yss : List (List Int)) (p' : Nat), k ≤ n ∧ iv = .int .i64 k ∧ yss.length = k ∧ Hid (GoodX yss n) ∧ Hid (DX w wr B0 b a xs c p' [.slice aL n cL, .slice aa k ca]) ∧ Hid (OwnRows 2 31 wr hL wr.heap.size (.slice aa k ca) vs yss) ∧ Hid (OwnRows 2 31 wr (w.heap.size + 2) hL (.slice aL n cL) vL xL) ∧ hL ≤ wr.heap.size ∧ p' ≤ p1 + 9 * n + 9 * k) (fun iv _ => n - (intOf iv).toNat)
        case atStart => exact ⟨0, none, 0, [], [], p2, Nat.zero_le _, rfl, rfl, GoodX.nil n, HD, OwnRows.start (World.ownsRow_nil _ _ _ _), HOL, by omega, by omega⟩
        case round =>
          clear HD HOL
          obtain ⟨k, aa, ca, vs, yss, p2', hk, rfl, hyl, HG, HD2, HR2, HOL2, hsz, hp2'⟩ := hrel
          have k0 : (0 : Int) ≤ (k : Int) := Int.natCast_nonneg _
          by_cases hlt : k < n
          · have hki : (k : Int) < (n : Int) := by omega
            have L2 := Lib.hid (order_ds wr B0 b a xs c p2' n HD2.out.D (by omega) n8)
            go_wp2_with fail
            refine L2.out.mono ?_
            rintro e w2 ⟨g2, cc, l, p3, rfl, hO, hI, hp3, D3, T3⟩
            have s2 := T3.size
            have HD3 := Lib.hid (HD2.out.draw hbw T3 D3)
            have HR3 : Hid (OwnRows 2 31 w2 hL wr.heap.size (.slice aa k ca) vs yss) := HR2.out.grown (touch_grown T3) (.inl (by omega))
            have HOL3 := Lib.hid (HOL2.out.grown (touch_grown T3) (.inl (by omega)))
            have HI := Lib.hid hI
            have HO := Lib.hid hO
            have Hyl := Lib.hid hyl
            have hlen := hO.len
            have Hln := Lib.hid hlen
            have hcap : n ≤ cc := by have := hI.cap; omega
            clear L2 D3 T3 HD2 HR2 HOL2 hI hO hyl hlen
            cases y with
            | true =>
              have HDx := HD3
              have HRx := HR3
              have HOx := HOL3
              have q0 := HDx.out.V.cell 0
              have q1 := HDx.out.V.cell 1
              have f1 := HDx.out.V.free 1
              simp only [List.getElem?_cons_zero, List.getElem?_cons_succ] at q0 q1
              have HIr : Hid (OwnI 2 w2 wr.heap.size w2.heap.size (some ⟨g2, 0, none⟩) cc l) := HI.out
              have HLr : Hid ((l).length = n) := Hln.out
              have HGr : Hid (GoodX (yss ++ [l]) n) := HG.out.snoc ⟨by rw [Hln.out]; exact Nat.le_refl _, HO.out.mem, HO.out.nd⟩
              have hsx : hL ≤ w2.heap.size := by omega
              go_wp2_with (at_builtin; refine wpList_append_blk _ rfl _ _ 25 rfl hL 31 (.slice none 0 0) 24 Try.underlying25 info_intsX rfl _ k vs rfl (by have := HRx.out.out; rw [Hyl.out] at this; exact this) (.slice (some ⟨g2, 0, none⟩) n cc) rfl rfl (by omega) (by omega) hsx ?_)
              intro v9 w9 o9 g9 n9
              obtain ⟨a9, c9, e9, _, _⟩ := own_shape o9
              subst e9
              have hB9 : Below hL w2 w9 := below_of_grown g9 hsx (fun q hq => ((HRx.out.out).lt q hq).1)
              have HR9 : Hid (OwnRows 2 31 w9 hL w9.heap.size (.slice a9 (k + 1) c9) (vs ++ [.slice (some ⟨g2, 0, none⟩) n cc]) (yss ++ [l])) := by
                have := HRx.out.snocX (u' := .slice a9 (k + 1) c9) (by omega) (Nat.le_refl _) HIr.out (w' := w9) (by rw [HLr.out, Hyl.out]; exact o9) g9 n9
                rw [HLr.out] at this
                exact this
              have HD9 : Hid (DX w w9 B0 b a xs c p3 [.slice aL n cL, .slice aa k ca]) := HDx.out.fresh hbw hB9 (by omega)
              have HO9 := Lib.hid (HOx.out.keepX hB9)
              have s9 := hB9.size
              have q0 := HD9.out.V.cell 0
              have q1 := HD9.out.V.cell 1
              have f1 := HD9.out.V.free 1
              simp only [List.getElem?_cons_zero, List.getElem?_cons_succ] at q0 q1
              have HDz : Hid (DX w (w9.setCell ⟨w.heap.size + 1, 1, none⟩ (.slice a9 (k + 1) c9)) B0 b a xs c p3 [.slice aL n cL, .slice a9 (k + 1) c9]) := HD9.out.set hbw 1 _
              have tz := touch_setX w9 (w.heap.size + 1) 1 (.slice a9 (k + 1) c9)
              have HRz := Lib.hid (HR9.out.grown (touch_grown tz) (.inl (by omega)))
              have HOz := Lib.hid (HO9.out.grown (touch_grown tz) (.inl (by omega)))
              have hzs : (w9.setCell ⟨w.heap.size + 1, 1, none⟩ (.slice a9 (k + 1) c9)).heap.size = w9.heap.size := by simp
              have HZs := Lib.hid hzs
              clear o9 g9 n9 tz hzs hB9
              go_wp2_with fail
              go_roundw
              case rel => exact ⟨k + 1, a9, c9, _, _, p3, by omega, by go_num, by rw [List.length_append, Hyl.out]; rfl, HGr, HDz, by rw [Hid, HZs.out]; exact HRz.out, HOz, by rw [HZs.out]; omega, by omega⟩
              case measure => simp [intOf]; omega
            | false =>
              have L3 := Lib.hid (pick_ds w2 B0 b a xs c p3 ((n : Int) + 1) HD3.out.D (by omega) (by omega))
              go_wp2_with fail
              refine L3.out.mono ?_
              rintro e w3 ⟨x, p4, rfl, ⟨x0, x1⟩, hp4, D4, T4⟩
              obtain ⟨t, rfl⟩ : ∃ t : Nat, x = t := ⟨x.toNat, by omega⟩
              have htn : t ≤ n := by omega
              have htc : (t : Int) ≤ (cc : Int) := by omega
              have t0 : (0 : Int) ≤ (t : Int) := Int.natCast_nonneg _
              have s3 := T4.size
              have HD4 := Lib.hid (HD3.out.draw hbw T4 D4)
              have HR4 : Hid (OwnRows 2 31 w3 hL wr.heap.size (.slice aa k ca) vs yss) := HR3.out.grown (touch_grown T4) (.inl (by omega))
              have HOL4 := Lib.hid (HOL3.out.grown (touch_grown T4) (.inl (by omega)))
              have HI4 : Hid (OwnI 2 w3 wr.heap.size w3.heap.size (some ⟨g2, 0, none⟩) cc l) := (HI.out.touch T4 (.inr (by have := HD3.out.D.lt; omega))).mono (Nat.le_refl _) s3
              have hlt4 : (l.take t).length = t := by rw [List.length_take, Hln.out]; omega
              have Hlt4 := Lib.hid hlt4
              clear L3 D4 T4 x0 x1 HD3 HR3 HOL3 HI hlt4
              have HDx := HD4
              have HRx := HR4
              have HOx := HOL4
              have q0 := HDx.out.V.cell 0
              have q1 := HDx.out.V.cell 1
              have f1 := HDx.out.V.free 1
              simp only [List.getElem?_cons_zero, List.getElem?_cons_succ] at q0 q1
              have HIr : Hid (OwnI 2 w3 wr.heap.size w3.heap.size (some ⟨g2, 0, none⟩) cc (l.take t)) := HI4.out.take t
              have HLr : Hid (((l.take t)).length = t) := Hlt4.out
              have HGr : Hid (GoodX (yss ++ [(l.take t)]) n) := HG.out.snoc ⟨by rw [Hlt4.out]; exact htn, fun x hx => HO.out.mem x (List.mem_of_mem_take hx), HO.out.nd.sublist (List.take_sublist t l)⟩
              have hsx : hL ≤ w3.heap.size := by omega
              go_wp2_with (at_builtin; refine wpList_append_blk _ rfl _ _ 25 rfl hL 31 (.slice none 0 0) 24 Try.underlying25 info_intsX rfl _ k vs rfl (by have := HRx.out.out; rw [Hyl.out] at this; exact this) (.slice (some ⟨g2, 0, none⟩) t cc) rfl rfl (by omega) (by omega) hsx ?_)
              intro v9 w9 o9 g9 n9
              obtain ⟨a9, c9, e9, _, _⟩ := own_shape o9
              subst e9
              have hB9 : Below hL w3 w9 := below_of_grown g9 hsx (fun q hq => ((HRx.out.out).lt q hq).1)
              have HR9 : Hid (OwnRows 2 31 w9 hL w9.heap.size (.slice a9 (k + 1) c9) (vs ++ [.slice (some ⟨g2, 0, none⟩) t cc]) (yss ++ [(l.take t)])) := by
                have := HRx.out.snocX (u' := .slice a9 (k + 1) c9) (by omega) (Nat.le_refl _) HIr.out (w' := w9) (by rw [HLr.out, Hyl.out]; exact o9) g9 n9
                rw [HLr.out] at this
                exact this
              have HD9 : Hid (DX w w9 B0 b a xs c p4 [.slice aL n cL, .slice aa k ca]) := HDx.out.fresh hbw hB9 (by omega)
              have HO9 := Lib.hid (HOx.out.keepX hB9)
              have s9 := hB9.size
              have q0 := HD9.out.V.cell 0
              have q1 := HD9.out.V.cell 1
              have f1 := HD9.out.V.free 1
              simp only [List.getElem?_cons_zero, List.getElem?_cons_succ] at q0 q1
              have HDz : Hid (DX w (w9.setCell ⟨w.heap.size + 1, 1, none⟩ (.slice a9 (k + 1) c9)) B0 b a xs c p4 [.slice aL n cL, .slice a9 (k + 1) c9]) := HD9.out.set hbw 1 _
              have tz := touch_setX w9 (w.heap.size + 1) 1 (.slice a9 (k + 1) c9)
              have HRz := Lib.hid (HR9.out.grown (touch_grown tz) (.inl (by omega)))
              have HOz := Lib.hid (HO9.out.grown (touch_grown tz) (.inl (by omega)))
              have hzs : (w9.setCell ⟨w.heap.size + 1, 1, none⟩ (.slice a9 (k + 1) c9)).heap.size = w9.heap.size := by simp
              have HZs := Lib.hid hzs
              clear o9 g9 n9 tz hzs hB9
              go_wp2_with fail
              go_roundw
              case rel => exact ⟨k + 1, a9, c9, _, _, p4, by omega, by go_num, by rw [List.length_append, Hyl.out]; rfl, HGr, HDz, by rw [Hid, HZs.out]; exact HRz.out, HOz, by rw [HZs.out]; omega, by omega⟩
              case measure => simp [intOf]; omega
          · obtain rfl : k = n := by omega
            have HE : Hid (PhX w wr B0 b a xs c p1 k 2) := PhX.two HD2.out HLL.out hyl HGL.out HG.out HOL2.out HR2.out hLl hsz (by omega)
            clear hlt
            go_wp2_with fail
            go_roundw
            case rel => exact ⟨2, by go_num, HE⟩
            case measure => simp [intOf]
    | two HD0 hl0 hl1 HG0 HG1 HR0 HR1 hh hs hpp =>
        rename_i aL cL vL xL aR cR vR xR p2 hL
        have y0 := HD0.R.cell 0
        have y1 := HD0.R.cell 1
        have q0 := HD0.V.cell 0
        have q1 := HD0.V.cell 1
        have f0 := HD0.R.free 0
        have f1 := HD0.R.free 1
        simp only [List.getElem?_cons_zero, List.getElem?_cons_succ] at y0 y1 q0 q1
        have HD := Lib.hid HD0
        have H0 := Lib.hid HR0
        have H1 := Lib.hid HR1
        have HG0' := Lib.hid HG0
        have HG1' := Lib.hid HG1
        have HL0 := Lib.hid hl0
        have HL1 := Lib.hid hl1
        rw [show ((2 : Nat) : Int) = 2 from rfl]
        clear HP HD0 HR0 HR1 HG0 HG1 hl0 hl1
        go_wp2_with fail
        obtain ⟨wz, hwz⟩ : ∃ Y, Y = (ws.setCell ⟨w.heap.size, 0, none⟩ (.slice aL n cL)).setCell ⟨w.heap.size, 1, none⟩ (.slice aR n cR) := ⟨_, rfl⟩
        have KZ : Blk wz w.heap.size [.slice aL n cL, .slice aR n cR] 27 := by rw [hwz]; exact (HD.out.R.set 0 (.slice aL n cL)).set 1 (.slice aR n cR)
        have TZ : Touch ws wz w.heap.size (w.heap.size + 1) := by rw [hwz]; exact (touch_setX ws w.heap.size 0 (.slice aL n cL)).trans (touch_setX _ w.heap.size 1 (.slice aR n cR))
        have sZ := TZ.size
        have hsz' : wz.heap.size = ws.heap.size := by rw [hwz]; simp
        have O0 := H0.out.grown (touch_grown TZ) (.inl (by omega))
        have O1 := H1.out.grown (touch_grown TZ) (.inl (by omega))
        have DZ := HD.out.D.touch TZ (by omega)
        have TT := touch_hiX HD.out.T TZ (Nat.le_refl _)
        have hhz : hL ≤ wz.heap.size := by omega
        have hzz : ws.heap.size ≤ wz.heap.size := by omega
        have R0 : OwnLL 2 31 wz w.heap.size hL aL cL xL := OwnLL.mono (lo := w.heap.size + 2) ⟨vL, by rw [HL0.out]; exact O0⟩ (by omega) (Nat.le_refl _)
        have R1 : OwnLL 2 31 wz hL wz.heap.size aR cR xR := OwnLL.mono (lo := hL) (hi := ws.heap.size) ⟨vR, by rw [HL1.out]; exact O1⟩ (Nat.le_refl _) hzz
        rw [← hwz]
        clear hwz y0 y1 q0 q1
        have y0 : wz.cell? ⟨w.heap.size, 0, none⟩ = some (.slice aL n cL) := KZ.cell 0
        have y1 : wz.cell? ⟨w.heap.size, 1, none⟩ = some (.slice aR n cR) := KZ.cell 1
        refine bodyPost_ret (v := .agg #[.slice aL n cL, .slice aR n cR]) (by simp [results, Try.results37, go_sem, y0, y1]) rfl ?_
        exact ⟨aL, cL, xL, aR, cR, xR, p2, rfl, ⟨HL0.out, HL1.out⟩, ⟨HG0'.out, HG1'.out⟩, ⟨hL, ⟨by omega, hhz⟩, R0, R1⟩, by omega, DZ, TT⟩
end Go.Proofs.Ytchfibmndcfpiaa
namespace Go.Proofs.Ytchfibmndcfpiaa
set_option linter.unusedVariables false
set_option linter.unusedSimpArgs false
open Go.RowKit

/-- Lists of integers, each row at an address. -/
def RdL (w : World) (B b o : Nat) (yss : List (List Int)) : Prop :=
  b < B ∧ ∀ (k : Nat) (ys : List Int), yss[k]? = some ys → ∃ g q c, w.cell? ⟨b, o + k, none⟩ = some (.slice (some ⟨g, q, none⟩) ys.length c) ∧ ys.length ≤ c ∧ g < B ∧ ∀ j, j < ys.length → w.cell? ⟨g, q + j, none⟩ = some (.int .i64 (ys.getD j 0))
theorem RdL.below {w w' : World} {B C b o : Nat} {yss : List (List Int)} (h : RdL w B b o yss) (hb : Below C w w') (hB : B ≤ C) : RdL w' B b o yss := by
  obtain ⟨h1, h2⟩ := h
  refine ⟨h1, fun k ys hk => ?_⟩
  obtain ⟨g, q, c, e1, e2, e3, e4⟩ := h2 k ys hk
  exact ⟨g, q, c, by rw [hb.cell (p := ⟨b, o + k, none⟩) (by show b < C; omega)]; exact e1, e2, e3, fun j hj => by rw [hb.cell (p := ⟨g, q + j, none⟩) (by show g < C; omega)]; exact e4 j hj⟩
theorem RdL.to {w w' : World} {b o : Nat} {yss : List (List Int)} (h : RdL w w.heap.size b o yss) (hb : Below w.heap.size w w') : RdL w' w'.heap.size b o yss := by
  obtain ⟨h1, h2⟩ := h.below hb (Nat.le_refl _)
  have := hb.size
  exact ⟨by omega, fun k ys hk => let ⟨g, q, c, e1, e2, e3, e4⟩ := h2 k ys hk; ⟨g, q, c, e1, e2, by omega, e4⟩⟩
theorem RdL.mono {w : World} {B C b o : Nat} {yss : List (List Int)} (h : RdL w B b o yss) (hB : B ≤ C) : RdL w C b o yss :=
  ⟨Nat.lt_of_lt_of_le h.1 hB, fun k ys hk => let ⟨g, q, c, e1, e2, e3, e4⟩ := h.2 k ys hk; ⟨g, q, c, e1, e2, Nat.lt_of_lt_of_le e3 hB, e4⟩⟩
theorem RdL.rdII {w : World} {B b o : Nat} {yss : List (List Int)} (h : RdL w B b o yss) : RdII w B (some ⟨b, o, none⟩) yss := by
  obtain ⟨h1, h2⟩ := h
  have hex : ∀ k, ∃ v : Value, ∀ ys, yss[k]? = some ys → ∃ g q c, v = .slice (some ⟨g, q, none⟩) ys.length c ∧ w.cell? ⟨b, o + k, none⟩ = some v ∧ ys.length ≤ c ∧ g < B ∧ ∀ j, j < ys.length → w.cell? ⟨g, q + j, none⟩ = some (.int .i64 (ys.getD j 0)) := fun k => by
    cases hk : yss[k]? with
    | none => exact ⟨undef, fun ys e => by cases e⟩
    | some ys =>
      obtain ⟨g, q, c, e1, e2, e3, e4⟩ := h2 k ys hk
      exact ⟨_, fun ys' e => by injection e with e; subst e; exact ⟨g, q, c, rfl, e1, e2, e3, e4⟩⟩
  obtain ⟨f, hf⟩ := Classical.axiomOfChoice hex
  refine ⟨(List.range yss.length).map f, by simp, .inr ⟨b, o, rfl, h1, fun j hj => ?_⟩, fun k ys hk => ?_⟩
  · simp only [List.length_map, List.length_range] at hj
    obtain ⟨g, q, c, e0, e1, _⟩ := hf j _ (List.getElem?_eq_getElem hj)
    rw [e1]; simp [hj]
  · have hkl := (List.getElem?_eq_some_iff.1 hk).1
    obtain ⟨g, q, c, e0, e1, e2, e3, e4⟩ := hf k ys hk
    exact ⟨_, c, by simp [hkl, e0], e2, .inr ⟨g, q, rfl, e3, fun j hj => by rw [ints_length] at hj; rw [e4 j hj, ints_get _ _ hj]⟩⟩
theorem OwnRows.rdl {T T2 : Nat} {w : World} {lo hi g n c : Nat} {vs : List Value} {yss : List (List Int)} (h : OwnRows T T2 w lo hi (.slice (some ⟨g, 0, none⟩) n c) vs yss) (h1 : 1 ≤ n) (hl : yss.length = n) : RdL w hi g 0 yss := by
  have ho := h.out
  rw [hl] at ho
  obtain ⟨g', tl, e, _, hk, _⟩ := own_open ho h1
  injection e with e; injection e with e
  subst e
  refine ⟨h.lt g rfl, fun k ys hk' => ?_⟩
  obtain ⟨g2, c2, e1, e2⟩ := h.row k ys hk'
  have hkl : k < vs.length := (List.getElem?_eq_some_iff.1 e1).1
  refine ⟨g2, 0, c2, ?_, e2.cap, e2.2 _ rfl, fun j hj => ?_⟩
  · rw [Nat.zero_add, hk.cell, List.getElem?_append_left hkl]; exact e1
  · obtain ⟨b', o', e', _, hc'⟩ := e2.rd.at hj
    injection e' with e'; injection e' with e3 e4 e5
    subst e3 e4
    exact hc' j hj
theorem append_manyX {P : Program} (wr : World) {ops : Array Oper} {rest : List Oper} {o : Oper} {a : Act} {Q : Exit → Act → World → Prop}
    (hg : o.guard = none) (s x : Operand) (t : TypeId) (hop : o.op = Op.call { callee := Callee.builtin Builtin.append, args := #[s, x], argTypes := #[t, t] })
    (base : Nat) (e : TypeId) (z : Value) (bytes : Nat) (h1 : P.underlying t = some (.slice e)) (hinfo : (P.info? e).map (fun i => (i.zero, i.size, i.bytes)) = some (some z, 1, bytes)) (hz : z.cells.size = 1)
    (v : Value) (n : Nat) (xs : List Int) (hs : a.eval s = v) (hown : wr.ownsRow base e 1 v n (ints xs)) (hv : v ≠ .slice none 0 0) (b off m c : Nat) (ys : List Int) (hx : a.eval x = .slice (some ⟨b, off, none⟩) m c) (hm : ys.length = m)
    (hcell : ∀ j, j < m → wr.cell? ⟨b, off + j, none⟩ = some (.int .i64 (ys.getD j 0))) (hb : bytes ≤ 64) (hn : n + m ≤ 1099511627776) (hbase : base ≤ wr.heap.size)
    (hK : ∀ g c' w', w'.ownsRow base e 1 (.slice (some ⟨g, 0, none⟩) (n + m) c') (n + m) (ints (xs ++ ys)) → wr.grownBy w' v.ownBlock → wpList P ops Q rest (a.put o.dst (.slice (some ⟨g, 0, none⟩) (n + m) c')) w') :
    wpList P ops Q (o :: rest) a wr := by
  obtain ⟨i, h2, h3, h4, h5⟩ := info_parts hinfo
  have hbb : (n + m) * bytes ≤ 140737488355328 := Nat.le_trans (Nat.mul_le_mul_left (n + m) hb) (by omega)
  refine wpList_append_own wr hg s x t hop base e i z 1 bytes h1 h2 h3 h4 h5 hz (by omega) v n (ints xs) hs hown ⟨b, off, none⟩ m c (ints ys) hx (by simp; omega) ?_ ?_ (by unfold maxLen; omega) hbb hbase (fun v' w' ho hgr hi => ?_)
  · intro j u hj
    have hj' : j < m := by have := (List.getElem?_eq_some_iff.1 hj).1; simp at this; omega
    have ea : (⟨b, off, none⟩ : Addr).add j = ⟨b, off + j, none⟩ := by unfold Addr.add; split <;> simp_all
    rw [ea, hcell j hj', ← hj, ints_get _ _ (by omega)]
  · intro u hu
    simp only [ints, List.mem_map] at hu
    obtain ⟨y, _, rfl⟩ := hu
    rfl
  · rw [← ints_append] at ho
    rcases ho.2 with ⟨e1, _⟩ | ⟨g, cap, cur, e1, _⟩
    · exact absurd (hi.1 e1).1 hv
    · subst e1
      exact hK g cap w' ho hgr
theorem info_intsY : (Try.prog.info? 31).map (fun i => (i.zero, i.size, i.bytes)) = some (some (.slice none 0 0), 1, 24) := by kernel_rfl
def OwnsL (w : World) (yss : List (List Int)) (e : Ending) (w' : World) : Prop :=
  ∃ g c vs, e = .returned (.slice (some ⟨g, 0, none⟩) yss.length c) ∧ OwnRows 2 31 w' w.heap.size w'.heap.size (.slice (some ⟨g, 0, none⟩) yss.length c) vs yss ∧ Below w.heap.size w w'
set_option maxRecDepth 10000 in
set_option maxHeartbeats 8000000 in
theorem l05Own_any (w : World) (b o c : Nat) (yss : List (List Int)) (h : RdL w w.heap.size b o yss) (h1 : 1 ≤ yss.length) (h8 : yss.length ≤ 8) (hin : ∀ y ∈ yss, y.length ≤ 1048576) :
    Calls Try.prog 48 #[.slice (some ⟨b, o, none⟩) yss.length c] w (OwnsL w yss) := by
  have Hh := Lib.hid h
  have Hin := Lib.hid hin
  have hbb := h.1
  clear h hin
  go_enter Try.func48, Try.ntmps48
  go_wp2_with fail
  go_loopw [8, 3] (fun iv ov wr => ∃ (k : Nat) (a : Option Addr) (cc : Nat) (vs : List Value), k ≤ yss.length ∧ iv = .int .i64 k ∧ ov = .slice a k cc ∧ Hid (OwnRows 2 31 wr w.heap.size wr.heap.size (.slice a k cc) vs (yss.take k)) ∧ Hid (Below w.heap.size w wr)) (fun iv _ _ => yss.length - (intOf iv).toNat)
  case atStart => exact ⟨0, some ⟨w.heap.size, 0, none⟩, 0, [], Nat.zero_le _, rfl, rfl, by rw [Hid, List.take_zero]; simpa using OwnRows.start (own_empty w 31), bl1 w _⟩
  case round =>
    obtain ⟨k, a, cc, vs, hk, rfl, rfl, hO, hw⟩ := hrel
    have k0 : (0 : Int) ≤ (k : Int) := Int.natCast_nonneg _
    by_cases hlt : k < yss.length
    · have k1 : (k : Int) < (yss.length : Int) := by omega
      obtain ⟨ys, hys⟩ : ∃ ys, yss[k]? = some ys := ⟨_, List.getElem?_eq_getElem hlt⟩
      obtain ⟨g, q, c', e1, e2, e3, e4⟩ := (Hh.out.to hw.out).2 k ys hys
      have hyl := Hin.out ys (List.mem_of_getElem? hys)
      have hws := hw.out.size
      have He4 := Lib.hid e4
      have Hys := Lib.hid hys
      have e1' := (bl1 wr (.cells #[] 2)).cell (p := ⟨b, o + k, none⟩) (show b < wr.heap.size by omega)
      rw [e1] at e1'
      have HTl : Hid ((yss.take k).length = k) := by rw [Hid, List.length_take]; omega
      clear e4 hys
      go_wp2_with (at_builtin; refine append_manyX _ rfl _ _ 31 rfl wr.heap.size 2 (.int .i64 0) 8 Try.underlying31 info_i64p rfl _ 0 [] rfl (own_emptyC wr 2) (fun e => by cases e) g q ys.length c' ys rfl rfl ?_ (by omega) (by omega) (by simp) ?_)
      · intro j hj
        rw [(bl1 wr _).cell (p := ⟨g, q + j, none⟩) e3, He4.out j hj]
      intro g7 c7 w7 o7 gr7
      have B7 := below_append (bl1 wr (.cells #[] 2)) (own_emptyC wr 2) gr7 (Nat.le_refl _) (by simp)
      try simp only [Nat.zero_add, List.nil_append] at o7
      have HI7 : Hid (OwnI 2 w7 wr.heap.size w7.heap.size (some ⟨g7, 0, none⟩) c7 ys) := OwnI.of_own o7
      have hO7 := hO.out.keep B7
      have s7 := B7.size
      have HB7 := Lib.hid (below_then hw.out B7)
      have HO7 := Lib.hid hO7
      clear o7 gr7 B7 hO7 e1 e1' hO hw
      go_wp2_with (at_builtin; refine wpList_append_blk _ rfl _ _ 25 rfl w.heap.size 31 (.slice none 0 0) 24 Try.underlying25 info_intsY rfl _ k vs rfl (by have := HO7.out.out; rw [HTl.out] at this; exact this) (.slice (some ⟨g7, 0, none⟩) ys.length c7) rfl rfl (by omega) (by omega) (by omega) ?_)
      intro v9 w9 o9 gr9 n9
      obtain ⟨a9, c9, e9, _, _⟩ := own_shape o9
      subst e9
      have HT2 : yss.take (k + 1) = yss.take k ++ [ys] := by rw [List.take_add_one, Hys.out]; rfl
      have HR9 : Hid (OwnRows 2 31 w9 w.heap.size w9.heap.size (.slice a9 (k + 1) c9) (vs ++ [.slice (some ⟨g7, 0, none⟩) ys.length c7]) (yss.take (k + 1))) := by
        rw [HT2]
        exact HO7.out.snocX (u' := .slice a9 (k + 1) c9) hws (Nat.le_refl _) HI7.out (by rw [HTl.out]; exact o9) gr9 n9
      have HB9 := Lib.hid (below_append HB7.out (by have := HO7.out.out; rw [HTl.out] at this; exact this) gr9 (Nat.le_refl _) (by omega))
      clear o9 gr9 n9 HT2 HO7 HB7 HI7
      go_wp2_with fail
      go_roundw
      case rel => exact ⟨k + 1, a9, c9, _, by omega, by go_num, rfl, HR9, HB9⟩
      case measure => simp [intOf]; omega
    · obtain rfl : k = yss.length := by omega
      rw [List.take_length] at hO
      obtain ⟨g, tl, rfl, -⟩ := own_open hO.out.out h1
      clear hlt hk
      go_wp2_with fail
      go_ret
      exact ⟨g, cc, vs, rfl, hO.out, hw.out⟩
end Go.Proofs.Ytchfibmndcfpiaa
namespace Go.Proofs.Ytchfibmndcfpiaa
set_option linter.unusedVariables false
set_option linter.unusedSimpArgs false
open Go.RowKit

def TurnsR (w : World) (x0 x1 : List (List Int)) (e : Ending) (w' : World) : Prop :=
  ∃ g0 d0 g1 d1 : Nat, e = .returned (.tuple #[.agg #[.slice (some ⟨g0, 0, none⟩) x1.length d0, .slice (some ⟨g1, 0, none⟩) x0.length d1], .bool true]) ∧ RdL w' w'.heap.size g0 0 x1 ∧ RdL w' w'.heap.size g1 0 x0 ∧ Below w.heap.size w w'
set_option maxRecDepth 10000 in
set_option maxHeartbeats 8000000 in
theorem turnWishesR_any (w : World) (b0 o0 c0 : Nat) (x0 : List (List Int)) (b1 o1 c1 : Nat) (x1 : List (List Int)) (h0 : RdL w w.heap.size b0 o0 x0) (h1 : RdL w w.heap.size b1 o1 x1) (hin0 : ∀ y ∈ x0, y.length ≤ 1048576) (hin1 : ∀ y ∈ x1, y.length ≤ 1048576) (hvb : wishB ⟨x0, x1⟩ = true) :
    Calls Try.prog 19 #[.agg #[.slice (some ⟨b0, o0, none⟩) x0.length c0, .slice (some ⟨b1, o1, none⟩) x1.length c1]] w (TurnsR w x0 x1) := by
  have hv := wish_of hvb
  have n1 : 1 ≤ x0.length := hv.n1
  have n8 : x0.length ≤ 8 := hv.n8
  have hl1 : x1.length = x0.length := hv.len
  obtain ⟨W0, hW0⟩ : ∃ W, W = (w.alloc (.cells #[.slice (some ⟨b0, o0, none⟩) x0.length c0, .slice (some ⟨b1, o1, none⟩) x1.length c1] 27)).alloc (.cells #[.slice none 0 0, .slice none 0 0] 27) := ⟨_, rfl⟩
  have B0 : Below w.heap.size w W0 := by rw [hW0]; exact bl2 w _ _
  have KB : Blk W0 w.heap.size [.slice (some ⟨b0, o0, none⟩) x0.length c0, .slice (some ⟨b1, o1, none⟩) x1.length c1] 27 := by rw [hW0]; exact (Blk.new w _ _).alloc _
  have KR : Blk W0 (w.heap.size + 1) [.slice none 0 0, .slice none 0 0] 27 := by
    have e1 : (w.alloc (.cells #[.slice (some ⟨b0, o0, none⟩) x0.length c0, .slice (some ⟨b1, o1, none⟩) x1.length c1] 27)).heap.size = w.heap.size + 1 := World.size_alloc _ _
    rw [hW0, ← e1]; exact Blk.new _ _ _
  have LV := l05Is_any W0 w.heap.size 0 (some ⟨b0, o0, none⟩) c0 x0 (some ⟨b1, o1, none⟩) c1 x1 (KB.cell 0) (KB.cell 1) ⟨(h0.to B0).rdII, (h1.to B0).rdII⟩ (by omega) hin0 (by omega) hin1
  rw [hvb] at LV
  have LV := Lib.hid LV
  have LL := Lib.hid (fun (v : World) (hb : Below w.heap.size w v) => l05Own_any v b0 o0 c0 x0 (h0.to hb) n1 n8 hin0)
  have LR := Lib.hid (fun (v : World) (hb : Below w.heap.size w v) => l05Own_any v b1 o1 c1 x1 (h1.to hb) (by omega) (by omega) hin1)
  have HB0 := Lib.hid B0
  have HKB := Lib.hid KB
  have HKR := Lib.hid KR
  have HW0 := Lib.hid hW0
  have Hl1 := Lib.hid hl1
  clear h0 h1 hin0 hin1 hv hvb B0 KB KR hW0 hl1
  go_enter Try.func19, Try.ntmps19
  go_wp2_with fail
  rw [← HW0.out]
  refine LV.out.mono ?_
  rintro e w1 ⟨rfl, k1, rfl⟩
  obtain ⟨v1, hv1⟩ : ∃ W, W = W0.drewN k1 := ⟨_, rfl⟩
  have HB1 : Hid (Below w.heap.size w v1) := by rw [hv1]; exact below_drewN HB0.out k1
  have KB1 : Hid (Blk v1 w.heap.size [.slice (some ⟨b0, o0, none⟩) x0.length c0, .slice (some ⟨b1, o1, none⟩) x1.length c1] 27) := by rw [hv1]; exact HKB.out.drewN k1
  have KR1 : Hid (Blk v1 (w.heap.size + 1) [.slice none 0 0, .slice none 0 0] 27) := by rw [hv1]; exact HKR.out.drewN k1
  rw [← hv1]
  clear hv1 HB0 HKB HKR LV HW0
  have EC : Hid (∀ v, Below v1.heap.size v1 v → v.cell? ⟨w.heap.size, 0, none⟩ = some (.slice (some ⟨b0, o0, none⟩) x0.length c0) ∧ v.cell? ⟨w.heap.size, 1, none⟩ = some (.slice (some ⟨b1, o1, none⟩) x1.length c1)) := fun v hb => ⟨(KB1.out.same hb).cell 0, (KB1.out.same hb).cell 1⟩
  have EE := Lib.hid (EC.out v1 (Below.refl _ _))
  have EB0 : Hid (Below v1.heap.size v1 v1.drew) := below_drew' (Below.refl _ _)
  have EW0 : Hid (Below w.heap.size w v1.drew) := below_then HB1.out EB0.out
  have hsv : w.heap.size + 2 ≤ v1.heap.size := KR1.out.lt
  have hsd : w.heap.size + 2 ≤ v1.drew.heap.size := hsv
  have HOth : Hid (∀ v, Below v1.heap.size v1 v → ∀ (u z : Value), ((v.setCell ⟨w.heap.size + 1, 0, none⟩ u).setCell ⟨w.heap.size + 1, 1, none⟩ z).cell? ⟨w.heap.size, 0, none⟩ = some (.slice (some ⟨b0, o0, none⟩) x0.length c0) ∧ ((v.setCell ⟨w.heap.size + 1, 0, none⟩ u).setCell ⟨w.heap.size + 1, 1, none⟩ z).cell? ⟨w.heap.size, 1, none⟩ = some (.slice (some ⟨b1, o1, none⟩) x1.length c1)) := fun v hb u z => by
    have K := (((KB1.out.same hb).oth (g := w.heap.size + 1) (by omega) 0 u).oth (g := w.heap.size + 1) (by omega) 1 z)
    exact ⟨K.cell 0, K.cell 1⟩
  obtain ⟨q0, q1⟩ := EE.out
  go_wp2_with fail
  go_region_held3 (fun w' => w'.cell? ⟨w.heap.size, 0, none⟩ = some (.slice (some ⟨b0, o0, none⟩) x0.length c0) ∧ w'.cell? ⟨w.heap.size, 1, none⟩ = some (.slice (some ⟨b1, o1, none⟩) x1.length c1))
    (first | exact EE.out | exact HSt.out _ _ | exact HT.out | exact HQ.out)
    (first | (go_at_call_of 48 b1; refine (LR.out _ EW0.out).mono ?_; rintro e wq ⟨gR, cR, vR, rfl, oR, hbq⟩; have EBq := Lib.hid (below_then EB0.out hbq); have EWq := Lib.hid (below_then EW0.out hbq); have HQ := Lib.hid (EC.out wq EBq.out); have RR := Lib.hid oR) | (go_at_call_of 48 b0; refine (LL.out _ EW0.out).mono ?_; rintro e wq ⟨gL, cL, vL, rfl, oL, hbq⟩; have EBq := Lib.hid (below_then EB0.out hbq); have EWq := Lib.hid (below_then EW0.out hbq); have HQ := Lib.hid (EC.out wq EBq.out); have RL := Lib.hid oL) | (go_at_call_of 48 b1; refine (LR.out _ EWq.out).mono ?_; rintro e wt ⟨gR, cR, vR, rfl, oR, hbt⟩; have EBt := Lib.hid (below_then EBq.out hbt); have HT := Lib.hid (EC.out wt EBt.out); have sbq := EBq.out.size; have sbt := hbt.size; have FR : Hid (∃ lo hi vs, w.heap.size + 2 ≤ lo ∧ hi ≤ wt.heap.size ∧ OwnRows 2 31 wt lo hi (.slice (some ⟨gR, 0, none⟩) x1.length cR) vs x1) := ⟨_, _, _, Nat.le_trans hsv sbq, Nat.le_refl _, oR⟩; have FL : Hid (∃ lo hi vs, w.heap.size + 2 ≤ lo ∧ hi ≤ wt.heap.size ∧ OwnRows 2 31 wt lo hi (.slice (some ⟨gL, 0, none⟩) x0.length cL) vs x0) := ⟨_, _, _, hsd, sbt, RL.out.keep hbt⟩; have f0 := (KR1.out.same EBt.out).free 0; have f1 := (KR1.out.same EBt.out).free 1; have HSt : Hid (∀ (u z : Value), ((wt.setCell ⟨w.heap.size + 1, 0, none⟩ u).setCell ⟨w.heap.size + 1, 1, none⟩ z).cell? ⟨w.heap.size, 0, none⟩ = some (.slice (some ⟨b0, o0, none⟩) x0.length c0) ∧ ((wt.setCell ⟨w.heap.size + 1, 0, none⟩ u).setCell ⟨w.heap.size + 1, 1, none⟩ z).cell? ⟨w.heap.size, 1, none⟩ = some (.slice (some ⟨b1, o1, none⟩) x1.length c1)) := fun u z => HOth.out wt EBt.out u z; have y0 := (KR1.out.same EBt.out).cell 0; have y1 := (KR1.out.same EBt.out).cell 1) | (go_at_call_of 48 b0; refine (LL.out _ EWq.out).mono ?_; rintro e wt ⟨gL, cL, vL, rfl, oL, hbt⟩; have EBt := Lib.hid (below_then EBq.out hbt); have HT := Lib.hid (EC.out wt EBt.out); have sbq := EBq.out.size; have sbt := hbt.size; have FL : Hid (∃ lo hi vs, w.heap.size + 2 ≤ lo ∧ hi ≤ wt.heap.size ∧ OwnRows 2 31 wt lo hi (.slice (some ⟨gL, 0, none⟩) x0.length cL) vs x0) := ⟨_, _, _, Nat.le_trans hsv sbq, Nat.le_refl _, oL⟩; have FR : Hid (∃ lo hi vs, w.heap.size + 2 ≤ lo ∧ hi ≤ wt.heap.size ∧ OwnRows 2 31 wt lo hi (.slice (some ⟨gR, 0, none⟩) x1.length cR) vs x1) := ⟨_, _, _, hsd, sbt, RR.out.keep hbt⟩; have f0 := (KR1.out.same EBt.out).free 0; have f1 := (KR1.out.same EBt.out).free 1; have HSt : Hid (∀ (u z : Value), ((wt.setCell ⟨w.heap.size + 1, 0, none⟩ u).setCell ⟨w.heap.size + 1, 1, none⟩ z).cell? ⟨w.heap.size, 0, none⟩ = some (.slice (some ⟨b0, o0, none⟩) x0.length c0) ∧ ((wt.setCell ⟨w.heap.size + 1, 0, none⟩ u).setCell ⟨w.heap.size + 1, 1, none⟩ z).cell? ⟨w.heap.size, 1, none⟩ = some (.slice (some ⟨b1, o1, none⟩) x1.length c1)) := fun u z => HOth.out wt EBt.out u z; have y0 := (KR1.out.same EBt.out).cell 0; have y1 := (KR1.out.same EBt.out).cell 1))
  all_goals
    have KRt := KR1.out.same EBt.out
    have BWt := Lib.hid (below_then HB1.out EBt.out)
    have swt := EBt.out.size
    clear oR oL hbq hbt
    go_wp2_with fail
    obtain ⟨wz, hwz⟩ : ∃ Y, Y = (wt.setCell ⟨w.heap.size + 1, 0, none⟩ (.slice (some ⟨gR, 0, none⟩) x1.length cR)).setCell ⟨w.heap.size + 1, 1, none⟩ (.slice (some ⟨gL, 0, none⟩) x0.length cL) := ⟨_, rfl⟩
    have KZ : Blk wz (w.heap.size + 1) [.slice (some ⟨gR, 0, none⟩) x1.length cR, .slice (some ⟨gL, 0, none⟩) x0.length cL] 27 := by rw [hwz]; exact (KRt.set 0 (.slice (some ⟨gR, 0, none⟩) x1.length cR)).set 1 (.slice (some ⟨gL, 0, none⟩) x0.length cL)
    have TZ : Touch wt wz (w.heap.size + 1) (w.heap.size + 1 + 1) := by rw [hwz]; exact (touch_setX wt (w.heap.size + 1) 0 _).trans (touch_setX _ (w.heap.size + 1) 1 _)
    have sZ := TZ.size
    obtain ⟨loR, hiR, vsR, r1, r2, r3⟩ := FR.out
    obtain ⟨loL, hiL, vsL, l1, l2, l3⟩ := FL.out
    have R3 := ((r3.grown (touch_grown TZ) (.inl (by omega))).rdl (by rw [Hl1.out]; exact n1) rfl)
    have L3 := ((l3.grown (touch_grown TZ) (.inl (by omega))).rdl n1 rfl)
    have R4 : RdL wz wz.heap.size gR 0 x1 := R3.mono (by omega)
    have L4 : RdL wz wz.heap.size gL 0 x0 := L3.mono (by omega)
    have BZ := below_touch BWt.out TZ (by omega) (by have := BWt.out.size; omega)
    rw [← hwz]
    clear hwz q0 q1 y0 y1
    have y0 : wz.cell? ⟨w.heap.size + 1, 0, none⟩ = some (.slice (some ⟨gR, 0, none⟩) x1.length cR) := KZ.cell 0
    have y1 : wz.cell? ⟨w.heap.size + 1, 1, none⟩ = some (.slice (some ⟨gL, 0, none⟩) x0.length cL) := KZ.cell 1
    refine bodyPost_ret (v := .tuple #[.agg #[.slice (some ⟨gR, 0, none⟩) x1.length cR, .slice (some ⟨gL, 0, none⟩) x0.length cL], .bool true]) (by simp [results, Try.results19, go_sem, y0, y1]) rfl ?_
    exact ⟨gR, cR, gL, cL, rfl, R4, L4, BZ⟩
end Go.Proofs.Ytchfibmndcfpiaa
namespace Go.Proofs.Ytchfibmndcfpiaa
set_option linter.unusedVariables false
set_option linter.unusedSimpArgs false
open Go.RowKit

theorem chooseL_len (w : Wi) (a b : List Int) (dear : Bool) : (chooseL w a b dear).length = a.length := by simp [chooseL]
theorem chooseL_get {w : Wi} {a b : List Int} {dear : Bool} {k : Nat} (h : k < a.length) : (chooseL w a b dear)[k]? = some (pickI w a b dear k) := by simp [chooseL, h]
theorem choose_no1 {w : Wi} {a b : List Int} {dear : Bool} (h : (wishB w && stableB w a) = false) : chooseF w a b dear = none := by
  unfold chooseF; rw [h]; rfl
theorem choose_no2 {w : Wi} {a b : List Int} {dear : Bool} (h : (wishB w && stableB w b) = false) : chooseF w a b dear = none := by
  unfold chooseF
  have : (wishB w && stableB w a && stableB w b && matchB w (chooseL w a b dear)) = false := by
    revert h; cases wishB w <;> cases stableB w a <;> cases stableB w b <;> simp
  rw [this]; rfl
theorem choose_yes {w : Wi} {a b : List Int} {dear : Bool} (h1 : (wishB w && stableB w a) = true) (h2 : (wishB w && stableB w b) = true) : chooseF w a b dear = if matchB w (chooseL w a b dear) then some (chooseL w a b dear) else none := by
  unfold chooseF
  simp only [Bool.and_eq_true] at h1 h2
  rw [h1.1, h1.2, h2.2]; rfl
theorem stab_two {w : Wi} {m : List Int} (h : (wishB w && matchB w m) = true) : (wishB w && stableB w m) = (blockF w m).isNone := by unfold stableB; rw [← Bool.and_assoc, h, Bool.true_and]
theorem stab_no {w : Wi} {m : List Int} (h : (wishB w && matchB w m) = false) : (wishB w && stableB w m) = false := by unfold stableB; rw [← Bool.and_assoc, h, Bool.false_and]
set_option maxRecDepth 10000 in
set_option maxHeartbeats 8000000 in
theorem choose_any (w : World) (a0 : Option Addr) (c0 : Nat) (x0 : List (List Int)) (a1 : Option Addr) (c1 : Nat) (x1 : List (List Int)) (a : Option Addr) (c : Nat) (m : List Int) (b : Option Addr) (d : Nat) (q : List Int) (dear : Bool)
    (h : RdWishes w w.heap.size a0 x0 a1 x1) (hl0 : x0.length ≤ 1048576) (hin0 : ∀ y ∈ x0, y.length ≤ 1048576) (hl1 : x1.length ≤ 1048576) (hin1 : ∀ y ∈ x1, y.length ≤ 1048576) (g : Rd w w.heap.size a (ints m)) (hl : m.length ≤ 1048576) (g2 : Rd w w.heap.size b (ints q)) (hl2 : q.length ≤ 1048576) :
    Calls Try.prog 40 #[.agg #[.slice a0 x0.length c0, .slice a1 x1.length c1], .slice a m.length c, .slice b q.length d, .bool dear] w (RetI 2 w (chooseF ⟨x0, x1⟩ m q dear)) := by
  have X0 : Bx w (w.alloc (.cells #[.slice a0 x0.length c0, .slice a1 x1.length c1] 27)) [.slice a0 x0.length c0, .slice a1 x1.length c1] 27 := Bx.start w _ _
  have LA := Lib.hid (fun w' hb => isMatchI_any w' a0 c0 x0 a1 c1 x1 a c m (h.to hb) hl0 hin0 hl1 hin1 (g.to hb) hl)
  have LB := Lib.hid (fun w' hb => isMatchI_any w' a0 c0 x0 a1 c1 x1 b d q (h.to hb) hl0 hin0 hl1 hin1 (g2.to hb) hl2)
  have HNO1 : Hid ((wishB ⟨x0, x1⟩ && stableB ⟨x0, x1⟩ m) = false → chooseF ⟨x0, x1⟩ m q dear = none) := choose_no1
  have HNO2 : Hid ((wishB ⟨x0, x1⟩ && stableB ⟨x0, x1⟩ q) = false → chooseF ⟨x0, x1⟩ m q dear = none) := choose_no2
  obtain ⟨q0, q1⟩ := X0.two
  cases t1 : wishB ⟨x0, x1⟩ && matchB ⟨x0, x1⟩ m with
  | false =>
    have HF := Lib.hid (HNO1.out (stab_no t1))
    rw [t1] at LA
    clear h g g2 hin0 hin1 t1 HNO1 HNO2
    go_enter Try.func40, Try.ntmps40
    go_wp2_with fail
    refine (LA.out _ X0.1).mono ?_
    rintro e w1 ⟨rfl, hb1⟩
    have X1 := X0.next hb1
    obtain ⟨q0, q1⟩ := X1.two
    clear hb1
    clear q0 q1
    go_wp2_with fail
    go_ret2
    rw [HF.out]
    exact RetI.no X1.1
  | true =>
  cases t2 : wishB ⟨x0, x1⟩ && matchB ⟨x0, x1⟩ q with
  | false =>
    have HF := Lib.hid (HNO2.out (stab_no t2))
    rw [t1] at LA
    rw [t2] at LB
    clear h g g2 hin0 hin1 t1 t2 HNO1 HNO2
    go_enter Try.func40, Try.ntmps40
    go_wp2_with fail
    refine (LA.out _ X0.1).mono ?_
    rintro e w1 ⟨rfl, hb1⟩
    have X1 := X0.next hb1
    obtain ⟨q0, q1⟩ := X1.two
    clear hb1
    go_wp2_with fail
    refine (LB.out _ X1.1).mono ?_
    rintro e w2 ⟨rfl, hb2⟩
    have X2 := X1.next hb2
    obtain ⟨q0, q1⟩ := X2.two
    clear hb2
    clear q0 q1
    go_wp2_with fail
    go_ret2
    rw [HF.out]
    exact RetI.no X2.1
  | true =>
  have hv := wish_of (Bool.and_eq_true _ _ ▸ t1 : wishB ⟨x0, x1⟩ = true ∧ _).1
  have hm := mat_of (Bool.and_eq_true _ _ ▸ t1 : _ ∧ matchB ⟨x0, x1⟩ m = true).2
  have hm2 := mat_of (Bool.and_eq_true _ _ ▸ t2 : _ ∧ matchB ⟨x0, x1⟩ q = true).2
  have e1 := stab_two t1
  have e2 := stab_two t2
  have LC := Lib.hid (fun w' hb => isStableW_any w' a0 c0 x0 a1 c1 x1 (h.to hb) hv hin0 hin1 a c m (g.to hb) hm)
  have LD := Lib.hid (fun w' hb => isStableW_any w' a0 c0 x0 a1 c1 x1 (h.to hb) hv hin0 hin1 b d q (g2.to hb) hm2)
  rw [t1] at LA
  rw [t2] at LB
  rw [← e1] at LC
  rw [← e2] at LD
  clear e1 e2
  cases t3 : wishB ⟨x0, x1⟩ && stableB ⟨x0, x1⟩ m with
  | false =>
    have HF := Lib.hid (HNO1.out t3)
    rw [t3] at LC
    clear h g g2 hin0 hin1 t1 t2 t3 HNO1 HNO2 hv hm hm2
    go_enter Try.func40, Try.ntmps40
    go_wp2_with fail
    refine (LA.out _ X0.1).mono ?_
    rintro e w1 ⟨rfl, hb1⟩
    have X1 := X0.next hb1
    obtain ⟨q0, q1⟩ := X1.two
    clear hb1
    go_wp2_with fail
    refine (LB.out _ X1.1).mono ?_
    rintro e w2 ⟨rfl, hb2⟩
    have X2 := X1.next hb2
    obtain ⟨q0, q1⟩ := X2.two
    clear hb2
    go_wp2_with fail
    refine (LC.out _ X2.1).mono ?_
    rintro e w3 ⟨rfl, hb3⟩
    have X3 := X2.next hb3
    obtain ⟨q0, q1⟩ := X3.two
    clear hb3
    clear q0 q1
    go_wp2_with fail
    go_ret2
    rw [HF.out]
    exact RetI.no X3.1
  | true =>
  cases t4 : wishB ⟨x0, x1⟩ && stableB ⟨x0, x1⟩ q with
  | false =>
    have HF := Lib.hid (HNO2.out t4)
    rw [t3] at LC
    rw [t4] at LD
    clear h g g2 hin0 hin1 t1 t2 t3 t4 HNO1 HNO2 hv hm hm2
    go_enter Try.func40, Try.ntmps40
    go_wp2_with fail
    refine (LA.out _ X0.1).mono ?_
    rintro e w1 ⟨rfl, hb1⟩
    have X1 := X0.next hb1
    obtain ⟨q0, q1⟩ := X1.two
    clear hb1
    go_wp2_with fail
    refine (LB.out _ X1.1).mono ?_
    rintro e w2 ⟨rfl, hb2⟩
    have X2 := X1.next hb2
    obtain ⟨q0, q1⟩ := X2.two
    clear hb2
    go_wp2_with fail
    refine (LC.out _ X2.1).mono ?_
    rintro e w3 ⟨rfl, hb3⟩
    have X3 := X2.next hb3
    obtain ⟨q0, q1⟩ := X3.two
    clear hb3
    go_wp2_with fail
    refine (LD.out _ X3.1).mono ?_
    rintro e w4 ⟨rfl, hb4⟩
    have X4 := X3.next hb4
    obtain ⟨q0, q1⟩ := X4.two
    clear hb4
    clear q0 q1
    go_wp2_with fail
    go_ret2
    rw [HF.out]
    exact RetI.no X4.1
  | true =>
  have HY := Lib.hid (choose_yes (dear := dear) t3 t4)
  have hln := hm.len
  have hln2 := hm2.len
  have h8 := hv.n8
  simp only at hln hln2 h8
  obtain ⟨n, hn⟩ : ∃ n, n = m.length := ⟨_, rfl⟩
  have Hx0 : Hid (x0.length = n) := by rw [hn]; exact hln.symm
  have Hq : Hid (q.length = n) := by rw [hn, hln2]; exact hln.symm
  have Hm : Hid (m.length = n) := hn.symm
  obtain ⟨CL, hCL⟩ : ∃ CL, CL = chooseL ⟨x0, x1⟩ m q dear := ⟨_, rfl⟩
  have HCLl : Hid (CL.length = n) := by rw [hCL, hn]; exact chooseL_len _ _ _ _
  have HCLg : Hid (∀ (k : Nat) (ys : List Int) (x y : Int), k < n → x0[k]? = some ys → m[k]? = some x → q[k]? = some y → CL[k]? = some (if dearI ys y x == dear then y else x)) := fun k ys x y hk e1 e2 e3 => by
    rw [hCL, chooseL_get (by omega)]
    unfold pickI
    simp only [row_get e1, getD_of_get e2, getD_of_get e3]
  have LM := Lib.hid (fun w' hb a' c' g' => isMatchW_any w' a0 c0 x0 a1 c1 x1 (h.to hb) hv hin0 hin1 a' c' CL g' (by have := HCLl.out; omega))
  rw [HCLl.out] at LM
  rw [← hCL] at HY
  have LE := Lib.hid (fun w' a c ys x y => dearer_any w' a c ys x y)
  have Hh := Lib.hid h
  have G := Lib.hid g
  have G2 := Lib.hid g2
  have Hin0 := Lib.hid hin0
  rw [t3] at LC
  rw [t4] at LD
  have hn8 : n ≤ 8 := by omega
  generalize hcf : chooseF ⟨x0, x1⟩ m q dear = cf at *
  clear h g g2 hin0 hin1 t1 t2 t3 t4 HNO1 HNO2 hv hm hm2 hln hln2 h8 hCL hcf hn
  rw [Hm.out] at LA LC ⊢
  rw [Hx0.out] at LA LB LC LD LM X0 q0 hl0 ⊢
  rw [Hq.out] at LB LD ⊢
  go_enter Try.func40, Try.ntmps40
  go_wp2_with fail
  refine (LA.out _ X0.1).mono ?_
  rintro e w1 ⟨rfl, hb1⟩
  have X1 := X0.next hb1
  obtain ⟨q0, q1⟩ := X1.two
  clear hb1
  go_wp2_with fail
  refine (LB.out _ X1.1).mono ?_
  rintro e w2 ⟨rfl, hb2⟩
  have X2 := X1.next hb2
  obtain ⟨q0, q1⟩ := X2.two
  clear hb2
  go_wp2_with fail
  refine (LC.out _ X2.1).mono ?_
  rintro e w3 ⟨rfl, hb3⟩
  have X3 := X2.next hb3
  obtain ⟨q0, q1⟩ := X3.two
  clear hb3
  go_wp2_with fail
  refine (LD.out _ X3.1).mono ?_
  rintro e w4 ⟨rfl, hb4⟩
  have X4 := X3.next hb4
  obtain ⟨q0, q1⟩ := X4.two
  clear hb4
  have s4 := X4.lt
  go_wp2_with fail
  clear q0 q1
  go_loopw [38, 10] (fun iv v wr => ∃ k : Nat, k ≤ n ∧ iv = .int .i64 k ∧ Hid (wr.ownsRow w4.heap.size 2 1 v k (ints (CL.take k))) ∧ Bx w wr [.slice a0 n c0, .slice a1 x1.length c1] 27 ∧ w4.heap.size ≤ wr.heap.size) (fun iv _ _ => n - (intOf iv).toNat)
  case atStart => exact ⟨0, Nat.zero_le _, rfl, by simpa [Hid] using own_empty w4 _, X4.next (bl1 w4 _), by simp⟩
  case round =>
    obtain ⟨k, hk, rfl, hown, X, hsz⟩ := hrel
    by_cases hlt : k < n
    · obtain ⟨b2, o2, ys, a2, c2, e2, hb2, hc2, _, hr2, hy2⟩ := (Hh.out.1).get (k := k) (by rw [Hx0.out]; exact hlt)
      obtain ⟨b3, o3, x, e3, hb3, hc3, hx3⟩ := G.out.get (k := k) (by rw [Hm.out]; exact hlt)
      obtain ⟨b4, o4, y, e4, hb4, hc4, hx4⟩ := G2.out.get (k := k) (by rw [Hq.out]; exact hlt)
      subst e2 e3 e4
      have hw := X.1
      have d3 := (hw.cell (p := ⟨b3, o3 + k, none⟩) hb3).trans hc3
      have hs := hw.size
      have hxl := X.lt
      obtain ⟨q0, q1⟩ := X.two
      have F0 : ∀ z : Later wr, z.w'.cell? ⟨w.heap.size, 0, none⟩ = some (.slice (some ⟨b2, o2, none⟩) n c0) := fun z => z.cell hxl q0
      have F2 : ∀ z : Later wr, z.w'.cell? ⟨b2, o2 + k, none⟩ = some (.slice a2 ys.length c2) := fun z => z.cell (by simp only; omega) ((hw.cell (p := ⟨b2, o2 + k, none⟩) hb2).trans hc2)
      have F4 : ∀ z : Later wr, z.w'.cell? ⟨b4, o4 + k, none⟩ = some (.int .i64 y) := fun z => z.cell (by simp only; omega) ((hw.cell (p := ⟨b4, o4 + k, none⟩) hb4).trans hc4)
      have LE1 : Hid (∀ w', Below wr.heap.size wr w' → _) := fun w' hb => LE.out w' a2 c2 ys y x (hr2.to (hw.trans (hb.mono hw.size))) (Hin0.out ys (List.mem_of_getElem? hy2.out))
      have hcl := HCLg.out k ys x y hlt hy2.out hx3.out hx4.out
      have k0 : (0 : Int) ≤ (k : Int) := Int.natCast_nonneg _
      have k1 : (k : Int) < (n : Int) := by omega
      have F4' := fun z : Later wr => F4 z
      have Hd4 : Hid (∀ w', Below wr.heap.size wr w' → w'.cell? ⟨b4, o4 + k, none⟩ = some (.int .i64 y)) := fun w' hb => Later.cell ⟨w', hb⟩ (by simp only; omega) ((hw.cell (p := ⟨b4, o4 + k, none⟩) hb4).trans hc4)
      generalize dearI ys y x = D at *
      have HX := Lib.hid X
      clear hc2 hc3 hc4 hr2 hy2 hx3 hx4 hw hs hxl F4' q0 q1 X
      cases t : (D == dear) with
      | true =>
        rw [t] at hcl
        have HT : Hid (ints (CL.take (k + 1)) = ints (CL.take k) ++ [.int .i64 y]) := take_snoc hcl
        clear hcl
        go_wp2_with fail
        refine wp_region_later (by kernel_rfl) (by kernel_rfl) ?_
        repeat (go_big_quiet_step ((go_at_call 61; exact later_same (LE1.out _ (Later.h _)))))
        refine wpQuiet_nil ?_
        rintro wq ⟨⟨_, hbq⟩, rfl⟩
        clear F0 F2 F4 d3
        have X1 := HX.out.next hbq
        have hown1 := Lib.hid (own_below hown.out hbq)
        have hsz1 : w4.heap.size ≤ wq.heap.size := Nat.le_trans hsz hbq.size
        have d4 := Hd4.out _ hbq
        clear hbq HX hown hsz LE1
        go_wp2_with (at_builtin; refine wpList_append_one _ rfl _ _ 31 rfl w4.heap.size 2 (.int .i64 0) 8 Try.underlying31 info_i64p rfl _ k _ rfl hown1.out (.int .i64 y) rfl rfl (by omega) (by omega) hsz1 ?_)
        intro v' w5 ho hgr
        have hb5 := below_row hown1.out hgr hsz1
        have X5 := X1.far hb5 s4
        have HO : Hid (w5.ownsRow w4.heap.size 2 1 v' (k + 1) (ints (CL.take (k + 1)))) := by rw [HT.out]; exact ho
        have hsz5 : w4.heap.size ≤ w5.heap.size := Nat.le_trans hsz1 hb5.size
        clear hown1 ho hgr hb5 X1 hsz1
        go_wp2_with fail
        go_roundw
        case rel => exact ⟨k + 1, by omega, by go_num, HO, X5, hsz5⟩
        case measure => simp [intOf]; omega
      | false =>
        rw [t] at hcl
        have HT : Hid (ints (CL.take (k + 1)) = ints (CL.take k) ++ [.int .i64 x]) := take_snoc hcl
        clear hcl
        go_wp2_with fail
        refine wp_region_later (by kernel_rfl) (by kernel_rfl) ?_
        repeat (go_big_quiet_step ((go_at_call 61; exact later_same (LE1.out _ (Later.h _)))))
        refine wpQuiet_nil ?_
        rintro wq ⟨⟨_, hbq⟩, rfl⟩
        clear F0 F2 F4 d3
        have X1 := HX.out.next hbq
        have hown1 := Lib.hid (own_below hown.out hbq)
        have hsz1 : w4.heap.size ≤ wq.heap.size := Nat.le_trans hsz hbq.size
        clear hbq HX hown hsz LE1
        go_wp2_with (at_builtin; refine wpList_append_one _ rfl _ _ 31 rfl w4.heap.size 2 (.int .i64 0) 8 Try.underlying31 info_i64p rfl _ k _ rfl hown1.out (.int .i64 x) rfl rfl (by omega) (by omega) hsz1 ?_)
        intro v' w5 ho hgr
        have hb5 := below_row hown1.out hgr hsz1
        have X5 := X1.far hb5 s4
        have HO : Hid (w5.ownsRow w4.heap.size 2 1 v' (k + 1) (ints (CL.take (k + 1)))) := by rw [HT.out]; exact ho
        have hsz5 : w4.heap.size ≤ w5.heap.size := Nat.le_trans hsz1 hb5.size
        clear hown1 ho hgr hb5 X1 hsz1
        go_wp2_with fail
        go_roundw
        case rel => exact ⟨k + 1, by omega, by go_num, HO, X5, hsz5⟩
        case measure => simp [intOf]; omega
    · have : k = n := by omega
      subst this
      obtain ⟨a5, c5, rfl, _, _⟩ := own_shape hown.out
      have e5 : CL.take k = CL := List.take_of_length_le (by rw [HCLl.out]; exact Nat.le_refl _)
      rw [e5] at hown
      have LM1 := Lib.hid (LM.out wr X.1 a5 c5 (rd_of_own hown.out (Nat.le_refl _)))
      obtain ⟨q0, q1⟩ := X.two
      have HO := Lib.hid (own_base hown.out (show w.heap.size ≤ w4.heap.size by omega))
      clear hown e5
      cases t5 : matchB ⟨x0, x1⟩ CL with
      | false =>
        rw [t5] at LM1
        have HF : Hid (cf = none) := by rw [Hid, HY.out, t5]; rfl
        go_wp2_with fail
        refine LM1.out.mono ?_
        rintro e w6 ⟨rfl, hb6⟩
        have X6 := X.next hb6
        clear hb6 q0 q1
        go_wp2_with fail
        go_ret2
        rw [HF.out]
        exact RetI.no X6.1
      | true =>
        rw [t5] at LM1
        have HF : Hid (cf = some CL) := by rw [Hid, HY.out, t5]; rfl
        go_wp2_with fail
        refine LM1.out.mono ?_
        rintro e w6 ⟨rfl, hb6⟩
        have X6 := X.next hb6
        have HO6 := Lib.hid (own_below HO.out hb6)
        clear hb6 q0 q1
        go_wp2_with fail
        go_ret2
        rw [HF.out]
        exact ⟨X6.1, a5, c5, by rw [HCLl.out]; rfl, by rw [HCLl.out]; exact HO6.out⟩
theorem retI_up {T : Nat} {w w1 w2 : World} {r : Option (List Int)} {e : Ending} (hB : Below w.heap.size w w1) (h : RetI T w1 r e w2) : RetI T w r e w2 := by
  obtain ⟨h1, h2⟩ := h
  refine ⟨below_then hB h1, ?_⟩
  cases r with
  | none => exact h2
  | some xs =>
    obtain ⟨a, c, he, ho⟩ := h2
    exact ⟨a, c, he, own_base ho hB.size⟩
set_option maxHeartbeats 2000000 in
theorem meet_any (w : World) (a0 : Option Addr) (c0 : Nat) (x0 : List (List Int)) (a1 : Option Addr) (c1 : Nat) (x1 : List (List Int)) (a : Option Addr) (c : Nat) (m : List Int) (b : Option Addr) (d : Nat) (q : List Int)
    (h : RdWishes w w.heap.size a0 x0 a1 x1) (hl0 : x0.length ≤ 1048576) (hin0 : ∀ y ∈ x0, y.length ≤ 1048576) (hl1 : x1.length ≤ 1048576) (hin1 : ∀ y ∈ x1, y.length ≤ 1048576) (g : Rd w w.heap.size a (ints m)) (hl : m.length ≤ 1048576) (g2 : Rd w w.heap.size b (ints q)) (hl2 : q.length ≤ 1048576) :
    Calls Try.prog 10 #[.agg #[.slice a0 x0.length c0, .slice a1 x1.length c1], .slice a m.length c, .slice b q.length d] w (RetI 2 w (chooseF ⟨x0, x1⟩ m q true)) := by
  have hB := bl1 w (.cells #[.slice a0 x0.length c0, .slice a1 x1.length c1] 27)
  have L := Lib.hid (choose_any _ a0 c0 x0 a1 c1 x1 a c m b d q true (h.to hB) hl0 hin0 hl1 hin1 (g.to hB) hl (g2.to hB) hl2)
  generalize chooseF ⟨x0, x1⟩ m q true = r at *
  clear h g g2 hin0 hin1
  go_enter Try.func10, Try.ntmps10
  go_wp2_with fail
  refine L.out.mono ?_
  intro e w1 hR
  obtain ⟨hb, a', c', rfl, ho⟩ := hR.flat
  have HR : Hid (RetI 2 w r (.returned (.tuple #[.slice a' (r.getD []).length c', .bool r.isSome])) w1) := retI_up hB hR
  clear hR hb ho L
  go_wp2_with fail
  go_ret2
  exact HR.out
set_option maxHeartbeats 2000000 in
theorem join_any (w : World) (a0 : Option Addr) (c0 : Nat) (x0 : List (List Int)) (a1 : Option Addr) (c1 : Nat) (x1 : List (List Int)) (a : Option Addr) (c : Nat) (m : List Int) (b : Option Addr) (d : Nat) (q : List Int)
    (h : RdWishes w w.heap.size a0 x0 a1 x1) (hl0 : x0.length ≤ 1048576) (hin0 : ∀ y ∈ x0, y.length ≤ 1048576) (hl1 : x1.length ≤ 1048576) (hin1 : ∀ y ∈ x1, y.length ≤ 1048576) (g : Rd w w.heap.size a (ints m)) (hl : m.length ≤ 1048576) (g2 : Rd w w.heap.size b (ints q)) (hl2 : q.length ≤ 1048576) :
    Calls Try.prog 11 #[.agg #[.slice a0 x0.length c0, .slice a1 x1.length c1], .slice a m.length c, .slice b q.length d] w (RetI 2 w (chooseF ⟨x0, x1⟩ m q false)) := by
  have hB := bl1 w (.cells #[.slice a0 x0.length c0, .slice a1 x1.length c1] 27)
  have L := Lib.hid (choose_any _ a0 c0 x0 a1 c1 x1 a c m b d q false (h.to hB) hl0 hin0 hl1 hin1 (g.to hB) hl (g2.to hB) hl2)
  generalize chooseF ⟨x0, x1⟩ m q false = r at *
  clear h g g2 hin0 hin1
  go_enter Try.func11, Try.ntmps11
  go_wp2_with fail
  refine L.out.mono ?_
  intro e w1 hR
  obtain ⟨hb, a', c', rfl, ho⟩ := hR.flat
  have HR : Hid (RetI 2 w r (.returned (.tuple #[.slice a' (r.getD []).length c', .bool r.isSome])) w1) := retI_up hB hR
  clear hR hb ho L
  go_wp2_with fail
  go_ret2
  exact HR.out
end Go.Proofs.Ytchfibmndcfpiaa
namespace Go.Proofs.Ytchfibmndcfpiaa
set_option linter.unusedVariables false
set_option linter.unusedSimpArgs false
open Go.RowKit

def bothF (w : Wi) (a b : List Int) (less : Bool) : Option (List Int × Bool) := if (wishB w && stableB w a) && (wishB w && stableB w b) then some (chooseR w a b less, matchB w (chooseR w a b less)) else none
theorem chooseR_len (w : Wi) (a b : List Int) (less : Bool) : (chooseR w a b less).length = a.length := by simp [chooseR]
theorem chooseR_get {w : Wi} {a b : List Int} {less : Bool} {k : Nat} (h : k < a.length) : (chooseR w a b less)[k]? = some (pickR w a b less k) := by simp [chooseR, h]
theorem both_choose (w : Wi) (a b : List Int) (dear : Bool) : chooseF w a b dear = match bothF w a b (!dear) with
    | some (xs, true) => some xs
    | _ => none := by
  unfold bothF
  cases h1 : wishB w && stableB w a with
  | false => rw [choose_no1 h1]; simp
  | true =>
    cases h2 : wishB w && stableB w b with
    | false => rw [choose_no2 h2]; simp
    | true =>
      rw [choose_yes h1 h2]
      simp only [Bool.and_eq_true] at h1 h2
      have e := choose_eq (wish_of h1.1) (stab_of h1.2) (stab_of h2.2) dear
      rw [e]
      simp only [Bool.and_self, if_true]
      cases matchB w (chooseR w a b (!dear)) <;> rfl
set_option maxRecDepth 10000 in
set_option maxHeartbeats 8000000 in
theorem l05Both_any (w : World) (bb oo : Nat) (a0 : Option Addr) (c0 : Nat) (x0 : List (List Int)) (a1 : Option Addr) (c1 : Nat) (x1 : List (List Int)) (d0 : w.cell? ⟨bb, oo, none⟩ = some (.slice a0 x0.length c0)) (d1 : w.cell? ⟨bb, oo + 1, none⟩ = some (.slice a1 x1.length c1)) (hbl : bb < w.heap.size) (a : Option Addr) (c : Nat) (m : List Int) (b : Option Addr) (d : Nat) (q : List Int) (less : Bool)
    (h : RdWishes w w.heap.size a0 x0 a1 x1) (hl0 : x0.length ≤ 1048576) (hin0 : ∀ y ∈ x0, y.length ≤ 1048576) (hl1 : x1.length ≤ 1048576) (hin1 : ∀ y ∈ x1, y.length ≤ 1048576) (g : Rd w w.heap.size a (ints m)) (hl : m.length ≤ 1048576) (hc : m.length ≤ c) (g2 : Rd w w.heap.size b (ints q)) (hl2 : q.length ≤ 1048576) (hd : q.length ≤ d) :
    Calls Try.prog 41 #[.pointer (some ⟨bb, oo, none⟩), .slice a m.length c, .slice b q.length d, .bool less] w (RetB 2 w (bothF ⟨x0, x1⟩ m q less)) := by
  have D0 : Hid (∀ w', Below w.heap.size w w' → w'.cell? ⟨bb, oo, none⟩ = some (.slice a0 x0.length c0)) := fun w' hb => (hb.cell (p := ⟨bb, oo, none⟩) hbl).trans d0
  have D1 : Hid (∀ w', Below w.heap.size w w' → w'.cell? ⟨bb, oo + 1, none⟩ = some (.slice a1 x1.length c1)) := fun w' hb => (hb.cell (p := ⟨bb, oo + 1, none⟩) hbl).trans d1
  have LA := Lib.hid (fun w' hb => l05Stable_any w' bb oo a0 c0 x0 a1 c1 x1 (D0.out w' hb) (D1.out w' hb) (Nat.lt_of_lt_of_le hbl hb.size) a c m (h.to hb) hl0 hin0 hl1 hin1 (g.to hb) hl hc)
  have LB := Lib.hid (fun w' hb => l05Stable_any w' bb oo a0 c0 x0 a1 c1 x1 (D0.out w' hb) (D1.out w' hb) (Nat.lt_of_lt_of_le hbl hb.size) b d q (h.to hb) hl0 hin0 hl1 hin1 (g2.to hb) hl2 hd)
  cases t1 : wishB ⟨x0, x1⟩ && stableB ⟨x0, x1⟩ m with
  | false =>
    have HF : Hid (bothF ⟨x0, x1⟩ m q less = none) := by rw [Hid]; unfold bothF; rw [t1]; rfl
    rw [t1] at LA
    clear h g g2 hin0 hin1 t1 d0 d1 hbl
    go_enter Try.func41, Try.ntmps41
    go_wp2_with fail
    refine (LA.out _ (Below.refl _ _)).mono ?_
    rintro e w1 ⟨rfl, hb1⟩
    go_wp2_with fail
    go_ret2
    rw [HF.out]
    exact ⟨hb1, rfl⟩
  | true =>
  cases t2 : wishB ⟨x0, x1⟩ && stableB ⟨x0, x1⟩ q with
  | false =>
    have HF : Hid (bothF ⟨x0, x1⟩ m q less = none) := by rw [Hid]; unfold bothF; rw [t1, t2]; rfl
    rw [t1] at LA
    rw [t2] at LB
    clear h g g2 hin0 hin1 t1 t2 d0 d1 hbl
    go_enter Try.func41, Try.ntmps41
    go_wp2_with fail
    refine (LA.out _ (Below.refl _ _)).mono ?_
    rintro e w1 ⟨rfl, hb1⟩
    go_wp2_with fail
    refine (LB.out _ hb1).mono ?_
    rintro e w2 ⟨rfl, hb2⟩
    have B2 := below_then hb1 hb2
    clear hb1 hb2
    go_wp2_with fail
    go_ret2
    rw [HF.out]
    exact ⟨B2, rfl⟩
  | true =>
  have HY : Hid (bothF ⟨x0, x1⟩ m q less = some (chooseR ⟨x0, x1⟩ m q less, matchB ⟨x0, x1⟩ (chooseR ⟨x0, x1⟩ m q less))) := by rw [Hid]; unfold bothF; rw [t1, t2]; rfl
  have hv := wish_of (Bool.and_eq_true _ _ ▸ t1 : wishB ⟨x0, x1⟩ = true ∧ _).1
  have hm := stab_of (Bool.and_eq_true _ _ ▸ t1 : _ ∧ stableB ⟨x0, x1⟩ m = true).2
  have hm2 := stab_of (Bool.and_eq_true _ _ ▸ t2 : _ ∧ stableB ⟨x0, x1⟩ q = true).2
  have hW : wishB ⟨x0, x1⟩ = true := (Bool.and_eq_true _ _ ▸ t1 : wishB ⟨x0, x1⟩ = true ∧ _).1
  have hln := hm.len
  have hln2 := hm2.len
  have h8 := hv.n8
  simp only at hln hln2 h8
  obtain ⟨n, hn⟩ : ∃ n, n = m.length := ⟨_, rfl⟩
  have Hx0 : Hid (x0.length = n) := by rw [hn]; exact hln.symm
  have Hq : Hid (q.length = n) := by rw [hn, hln2]; exact hln.symm
  have Hm : Hid (m.length = n) := hn.symm
  obtain ⟨CL, hCL⟩ : ∃ CL, CL = chooseR ⟨x0, x1⟩ m q less := ⟨_, rfl⟩
  have HCLl : Hid (CL.length = n) := by rw [hCL, hn]; exact chooseR_len _ _ _ _
  have HCLg : Hid (∀ (k : Nat) (ys : List Int) (x y : Int), k < n → x0[k]? = some ys → m[k]? = some x → q[k]? = some y → CL[k]? = some (if less then (if (decide (x < 0) || (decide (0 ≤ y) && dearB ys y x)) then x else y) else (if (decide (x < 0) || (decide (0 ≤ y) && dearB ys y x)) then y else x))) := fun k ys x y hk e1 e2 e3 => by
    rw [hCL, chooseR_get (by omega)]
    unfold pickR swapB
    simp only [row_get e1, getD_of_get e2, getD_of_get e3]
  have LM := Lib.hid (fun w' hb a' c' g' hcc => l05Match_any w' bb oo a0 c0 x0 a1 c1 x1 (D0.out w' hb) (D1.out w' hb) a' c' CL (h.to hb) hl0 hin0 hl1 hin1 g' (by have := HCLl.out; omega) hcc)
  rw [HCLl.out, hW, Bool.true_and] at LM
  rw [← hCL] at HY
  have LE := Lib.hid (fun w' a c ys x y => l05Dearer_any w' a c ys x y)
  have Hh := Lib.hid h
  have G := Lib.hid g
  have G2 := Lib.hid g2
  have Hin0 := Lib.hid hin0
  rw [t1] at LA
  rw [t2] at LB
  have hn8 : n ≤ 8 := by omega
  generalize hcf : bothF ⟨x0, x1⟩ m q less = cf at *
  generalize hmb : matchB ⟨x0, x1⟩ CL = mb at *
  clear h g g2 hin0 hin1 t1 t2 hv hm hm2 hln hln2 h8 hCL hcf hn hW hmb d0 d1 hbl
  rw [Hm.out] at LA ⊢
  rw [Hx0.out] at D0
  rw [Hq.out] at LB ⊢
  go_enter Try.func41, Try.ntmps41
  go_wp2_with fail
  refine (LA.out _ (Below.refl _ _)).mono ?_
  rintro e w1 ⟨rfl, hb1⟩
  go_wp2_with fail
  refine (LB.out _ hb1).mono ?_
  rintro e w2 ⟨rfl, hb2⟩
  have B2 := below_then hb1 hb2
  have s2 := B2.size
  clear hb1 hb2
  go_wp2_with fail
  go_loopw [27, 10] (fun iv v wr => ∃ k : Nat, k ≤ n ∧ iv = .int .i64 k ∧ Hid (wr.ownsRow w2.heap.size 2 1 v k (ints (CL.take k))) ∧ Below w2.heap.size w2 wr) (fun iv _ _ => n - (intOf iv).toNat)
  case atStart => exact ⟨0, Nat.zero_le _, rfl, by simpa [Hid] using own_empty w2 _, bl1 w2 _⟩
  case round =>
    obtain ⟨k, hk, rfl, hown, hw2⟩ := hrel
    by_cases hlt : k < n
    · have hw := B2.trans (hw2.mono s2)
      obtain ⟨b2, o2, ys, a2, c2, e2, hb2, hc2, _, hr2, hy2⟩ := (Hh.out.1).get (k := k) (by rw [Hx0.out]; exact hlt)
      obtain ⟨b3, o3, x, e3, hb3, hc3, hx3⟩ := G.out.get (k := k) (by rw [Hm.out]; exact hlt)
      obtain ⟨b4, o4, y, e4, hb4, hc4, hx4⟩ := G2.out.get (k := k) (by rw [Hq.out]; exact hlt)
      subst e2 e3 e4
      have d2 := (hw.cell (p := ⟨b2, o2 + k, none⟩) hb2).trans hc2
      have d3 := (hw.cell (p := ⟨b3, o3 + k, none⟩) hb3).trans hc3
      have d4 := (hw.cell (p := ⟨b4, o4 + k, none⟩) hb4).trans hc4
      have d0 := D0.out _ hw
      have LE1 := Lib.hid (LE.out wr a2 c2 ys y x (hr2.to hw) (Hin0.out ys (List.mem_of_getElem? hy2.out)))
      have hcl := HCLg.out k ys x y hlt hy2.out hx3.out hx4.out
      have k0 : (0 : Int) ≤ (k : Int) := Int.natCast_nonneg _
      have k1 : (k : Int) < (n : Int) := by omega
      generalize dearB ys y x = D at *
      have hsz := hw2.size
      clear hc2 hc3 hc4 hr2 hy2 hx3 hx4 hw
      cases less with
      | true =>
        by_cases hx0 : x < 0
        · have hcl : CL[k]? = some x := by rw [hcl]; simp [hx0]
          have HT : Hid (ints (CL.take (k + 1)) = ints (CL.take k) ++ [.int .i64 x]) := take_snoc hcl
          clear hcl
          go_wp2_with (at_builtin; refine wpList_append_one _ rfl _ _ 31 rfl w2.heap.size 2 (.int .i64 0) 8 Try.underlying31 info_i64p rfl _ k _ rfl hown.out (.int .i64 x) rfl rfl (by omega) (by omega) hsz ?_)
          intro v' w5 ho hgr
          have hw5 := hw2.trans (below_row hown.out hgr hsz)
          have HO : Hid (w5.ownsRow w2.heap.size 2 1 v' (k + 1) (ints (CL.take (k + 1)))) := by rw [HT.out]; exact ho
          clear hown ho hgr hw2 d0 d2 d3 d4
          go_wp2_with fail
          go_roundw
          case rel => exact ⟨k + 1, by omega, by go_num, HO, hw5⟩
          case measure => simp [intOf]; omega
        · by_cases hy0 : y < 0
          · have hcl : CL[k]? = some y := by (have h9 : ¬ (0 ≤ y) := by omega); rw [hcl]; simp [hx0, h9]
            have HT : Hid (ints (CL.take (k + 1)) = ints (CL.take k) ++ [.int .i64 y]) := take_snoc hcl
            clear hcl
            go_wp2_with (at_builtin; refine wpList_append_one _ rfl _ _ 31 rfl w2.heap.size 2 (.int .i64 0) 8 Try.underlying31 info_i64p rfl _ k _ rfl hown.out (.int .i64 y) rfl rfl (by omega) (by omega) hsz ?_)
            intro v' w5 ho hgr
            have hw5 := hw2.trans (below_row hown.out hgr hsz)
            have HO : Hid (w5.ownsRow w2.heap.size 2 1 v' (k + 1) (ints (CL.take (k + 1)))) := by rw [HT.out]; exact ho
            clear hown ho hgr hw2 d0 d2 d3 d4
            go_wp2_with fail
            go_roundw
            case rel => exact ⟨k + 1, by omega, by go_num, HO, hw5⟩
            case measure => simp [intOf]; omega
          · have hy1 : 0 ≤ y := by omega
            cases D with
            | true =>
              have hcl : CL[k]? = some x := by rw [hcl]; simp [hx0, hy1]
              have HT : Hid (ints (CL.take (k + 1)) = ints (CL.take k) ++ [.int .i64 x]) := take_snoc hcl
              clear hcl
              go_wp2_with fail
              refine LE1.out.mono ?_
              rintro e w5 ⟨rfl, rfl⟩
              go_wp2_with (at_builtin; refine wpList_append_one _ rfl _ _ 31 rfl w2.heap.size 2 (.int .i64 0) 8 Try.underlying31 info_i64p rfl _ k _ rfl hown.out (.int .i64 x) rfl rfl (by omega) (by omega) hsz ?_)
              intro v' w5 ho hgr
              have hw5 := hw2.trans (below_row hown.out hgr hsz)
              have HO : Hid (w5.ownsRow w2.heap.size 2 1 v' (k + 1) (ints (CL.take (k + 1)))) := by rw [HT.out]; exact ho
              clear hown ho hgr hw2 d0 d2 d3 d4
              go_wp2_with fail
              go_roundw
              case rel => exact ⟨k + 1, by omega, by go_num, HO, hw5⟩
              case measure => simp [intOf]; omega
            | false =>
              have hcl : CL[k]? = some y := by rw [hcl]; simp [hx0, hy1]
              have HT : Hid (ints (CL.take (k + 1)) = ints (CL.take k) ++ [.int .i64 y]) := take_snoc hcl
              clear hcl
              go_wp2_with fail
              refine LE1.out.mono ?_
              rintro e w5 ⟨rfl, rfl⟩
              go_wp2_with (at_builtin; refine wpList_append_one _ rfl _ _ 31 rfl w2.heap.size 2 (.int .i64 0) 8 Try.underlying31 info_i64p rfl _ k _ rfl hown.out (.int .i64 y) rfl rfl (by omega) (by omega) hsz ?_)
              intro v' w5 ho hgr
              have hw5 := hw2.trans (below_row hown.out hgr hsz)
              have HO : Hid (w5.ownsRow w2.heap.size 2 1 v' (k + 1) (ints (CL.take (k + 1)))) := by rw [HT.out]; exact ho
              clear hown ho hgr hw2 d0 d2 d3 d4
              go_wp2_with fail
              go_roundw
              case rel => exact ⟨k + 1, by omega, by go_num, HO, hw5⟩
              case measure => simp [intOf]; omega
      | false =>
        by_cases hx0 : x < 0
        · have hcl : CL[k]? = some y := by rw [hcl]; simp [hx0]
          have HT : Hid (ints (CL.take (k + 1)) = ints (CL.take k) ++ [.int .i64 y]) := take_snoc hcl
          clear hcl
          go_wp2_with (at_builtin; refine wpList_append_one _ rfl _ _ 31 rfl w2.heap.size 2 (.int .i64 0) 8 Try.underlying31 info_i64p rfl _ k _ rfl hown.out (.int .i64 y) rfl rfl (by omega) (by omega) hsz ?_)
          intro v' w5 ho hgr
          have hw5 := hw2.trans (below_row hown.out hgr hsz)
          have HO : Hid (w5.ownsRow w2.heap.size 2 1 v' (k + 1) (ints (CL.take (k + 1)))) := by rw [HT.out]; exact ho
          clear hown ho hgr hw2 d0 d2 d3 d4
          go_wp2_with fail
          go_roundw
          case rel => exact ⟨k + 1, by omega, by go_num, HO, hw5⟩
          case measure => simp [intOf]; omega
        · by_cases hy0 : y < 0
          · have hcl : CL[k]? = some x := by (have h9 : ¬ (0 ≤ y) := by omega); rw [hcl]; simp [hx0, h9]
            have HT : Hid (ints (CL.take (k + 1)) = ints (CL.take k) ++ [.int .i64 x]) := take_snoc hcl
            clear hcl
            go_wp2_with (at_builtin; refine wpList_append_one _ rfl _ _ 31 rfl w2.heap.size 2 (.int .i64 0) 8 Try.underlying31 info_i64p rfl _ k _ rfl hown.out (.int .i64 x) rfl rfl (by omega) (by omega) hsz ?_)
            intro v' w5 ho hgr
            have hw5 := hw2.trans (below_row hown.out hgr hsz)
            have HO : Hid (w5.ownsRow w2.heap.size 2 1 v' (k + 1) (ints (CL.take (k + 1)))) := by rw [HT.out]; exact ho
            clear hown ho hgr hw2 d0 d2 d3 d4
            go_wp2_with fail
            go_roundw
            case rel => exact ⟨k + 1, by omega, by go_num, HO, hw5⟩
            case measure => simp [intOf]; omega
          · have hy1 : 0 ≤ y := by omega
            cases D with
            | true =>
              have hcl : CL[k]? = some y := by rw [hcl]; simp [hx0, hy1]
              have HT : Hid (ints (CL.take (k + 1)) = ints (CL.take k) ++ [.int .i64 y]) := take_snoc hcl
              clear hcl
              go_wp2_with fail
              refine LE1.out.mono ?_
              rintro e w5 ⟨rfl, rfl⟩
              go_wp2_with (at_builtin; refine wpList_append_one _ rfl _ _ 31 rfl w2.heap.size 2 (.int .i64 0) 8 Try.underlying31 info_i64p rfl _ k _ rfl hown.out (.int .i64 y) rfl rfl (by omega) (by omega) hsz ?_)
              intro v' w5 ho hgr
              have hw5 := hw2.trans (below_row hown.out hgr hsz)
              have HO : Hid (w5.ownsRow w2.heap.size 2 1 v' (k + 1) (ints (CL.take (k + 1)))) := by rw [HT.out]; exact ho
              clear hown ho hgr hw2 d0 d2 d3 d4
              go_wp2_with fail
              go_roundw
              case rel => exact ⟨k + 1, by omega, by go_num, HO, hw5⟩
              case measure => simp [intOf]; omega
            | false =>
              have hcl : CL[k]? = some x := by rw [hcl]; simp [hx0, hy1]
              have HT : Hid (ints (CL.take (k + 1)) = ints (CL.take k) ++ [.int .i64 x]) := take_snoc hcl
              clear hcl
              go_wp2_with fail
              refine LE1.out.mono ?_
              rintro e w5 ⟨rfl, rfl⟩
              go_wp2_with (at_builtin; refine wpList_append_one _ rfl _ _ 31 rfl w2.heap.size 2 (.int .i64 0) 8 Try.underlying31 info_i64p rfl _ k _ rfl hown.out (.int .i64 x) rfl rfl (by omega) (by omega) hsz ?_)
              intro v' w5 ho hgr
              have hw5 := hw2.trans (below_row hown.out hgr hsz)
              have HO : Hid (w5.ownsRow w2.heap.size 2 1 v' (k + 1) (ints (CL.take (k + 1)))) := by rw [HT.out]; exact ho
              clear hown ho hgr hw2 d0 d2 d3 d4
              go_wp2_with fail
              go_roundw
              case rel => exact ⟨k + 1, by omega, by go_num, HO, hw5⟩
              case measure => simp [intOf]; omega
    · have : k = n := by omega
      subst this
      obtain ⟨a5, c5, rfl, hcap, _⟩ := own_shape hown.out
      have e5 : CL.take k = CL := List.take_of_length_le (by rw [HCLl.out]; exact Nat.le_refl _)
      rw [e5] at hown
      have hw := B2.trans (hw2.mono s2)
      have LM1 := Lib.hid (LM.out wr hw a5 c5 (rd_of_own hown.out (Nat.le_refl _)) hcap)
      have HO := Lib.hid (own_base hown.out s2)
      clear hown e5 hw2
      go_wp2_with fail
      refine LM1.out.mono ?_
      rintro e w6 ⟨rfl, t, rfl⟩
      go_wp2_with fail
      go_ret2
      rw [HY.out]
      exact ⟨below_drewN hw t, a5, c5, by rw [HCLl.out]; rfl, by rw [HCLl.out]; exact HO.out⟩
set_option maxHeartbeats 2000000 in
theorem meetR_any (w : World) (a0 : Option Addr) (c0 : Nat) (x0 : List (List Int)) (a1 : Option Addr) (c1 : Nat) (x1 : List (List Int)) (a : Option Addr) (c : Nat) (m : List Int) (b : Option Addr) (d : Nat) (q : List Int)
    (h : RdWishes w w.heap.size a0 x0 a1 x1) (hl0 : x0.length ≤ 1048576) (hin0 : ∀ y ∈ x0, y.length ≤ 1048576) (hl1 : x1.length ≤ 1048576) (hin1 : ∀ y ∈ x1, y.length ≤ 1048576) (g : Rd w w.heap.size a (ints m)) (hl : m.length ≤ 1048576) (hc : m.length ≤ c) (g2 : Rd w w.heap.size b (ints q)) (hl2 : q.length ≤ 1048576) (hd : q.length ≤ d) :
    Calls Try.prog 12 #[.agg #[.slice a0 x0.length c0, .slice a1 x1.length c1], .slice a m.length c, .slice b q.length d] w (RetI 2 w (chooseF ⟨x0, x1⟩ m q true)) := by
  have hB := bl1 w (.cells #[.slice a0 x0.length c0, .slice a1 x1.length c1] 27)
  have k := Blk.new w [.slice a0 x0.length c0, .slice a1 x1.length c1] 27
  have L := Lib.hid (l05Both_any _ w.heap.size 0 a0 c0 x0 a1 c1 x1 (k.cell 0) (k.cell 1) (by simp) a c m b d q false (h.to hB) hl0 hin0 hl1 hin1 (g.to hB) hl hc (g2.to hB) hl2 hd)
  have HE := Lib.hid (both_choose ⟨x0, x1⟩ m q true)
  simp only [Bool.not_true, Bool.not_false] at HE
  generalize chooseF ⟨x0, x1⟩ m q true = r at *
  generalize bothF ⟨x0, x1⟩ m q false = r2 at *
  clear h g g2 hin0 hin1 k
  match r2 with
  | none =>
    have HR : Hid (r = none) := HE.out
    rw [HR.out]
    go_enter Try.func12, Try.ntmps12
    go_wp2_with fail
    refine L.out.mono ?_
    rintro e w1 ⟨hb1, rfl⟩
    have B1 := below_then hB hb1
    clear hb1
    go_wp2_with fail
    go_ret2
    exact RetI.no B1
  | some (xs, false) =>
    have HR : Hid (r = none) := HE.out
    rw [HR.out]
    go_enter Try.func12, Try.ntmps12
    go_wp2_with fail
    refine L.out.mono ?_
    rintro e w1 ⟨hb1, a', c', rfl, ho⟩
    have B1 := below_then hB hb1
    clear hb1 ho
    go_wp2_with fail
    go_ret2
    exact RetI.no B1
  | some (xs, true) =>
    have HR : Hid (r = some xs) := HE.out
    rw [HR.out]
    go_enter Try.func12, Try.ntmps12
    go_wp2_with fail
    refine L.out.mono ?_
    rintro e w1 ⟨hb1, a', c', rfl, ho⟩
    have B1 := below_then hB hb1
    have HO := Lib.hid (own_base ho hB.size)
    clear hb1 ho
    go_wp2_with fail
    go_ret2
    exact ⟨B1, a', c', rfl, HO.out⟩
set_option maxHeartbeats 2000000 in
theorem joinR_any (w : World) (a0 : Option Addr) (c0 : Nat) (x0 : List (List Int)) (a1 : Option Addr) (c1 : Nat) (x1 : List (List Int)) (a : Option Addr) (c : Nat) (m : List Int) (b : Option Addr) (d : Nat) (q : List Int)
    (h : RdWishes w w.heap.size a0 x0 a1 x1) (hl0 : x0.length ≤ 1048576) (hin0 : ∀ y ∈ x0, y.length ≤ 1048576) (hl1 : x1.length ≤ 1048576) (hin1 : ∀ y ∈ x1, y.length ≤ 1048576) (g : Rd w w.heap.size a (ints m)) (hl : m.length ≤ 1048576) (hc : m.length ≤ c) (g2 : Rd w w.heap.size b (ints q)) (hl2 : q.length ≤ 1048576) (hd : q.length ≤ d) :
    Calls Try.prog 13 #[.agg #[.slice a0 x0.length c0, .slice a1 x1.length c1], .slice a m.length c, .slice b q.length d] w (RetI 2 w (chooseF ⟨x0, x1⟩ m q false)) := by
  have hB := bl1 w (.cells #[.slice a0 x0.length c0, .slice a1 x1.length c1] 27)
  have k := Blk.new w [.slice a0 x0.length c0, .slice a1 x1.length c1] 27
  have L := Lib.hid (l05Both_any _ w.heap.size 0 a0 c0 x0 a1 c1 x1 (k.cell 0) (k.cell 1) (by simp) a c m b d q true (h.to hB) hl0 hin0 hl1 hin1 (g.to hB) hl hc (g2.to hB) hl2 hd)
  have HE := Lib.hid (both_choose ⟨x0, x1⟩ m q false)
  simp only [Bool.not_true, Bool.not_false] at HE
  generalize chooseF ⟨x0, x1⟩ m q false = r at *
  generalize bothF ⟨x0, x1⟩ m q true = r2 at *
  clear h g g2 hin0 hin1 k
  match r2 with
  | none =>
    have HR : Hid (r = none) := HE.out
    rw [HR.out]
    go_enter Try.func13, Try.ntmps13
    go_wp2_with fail
    refine L.out.mono ?_
    rintro e w1 ⟨hb1, rfl⟩
    have B1 := below_then hB hb1
    clear hb1
    go_wp2_with fail
    go_ret2
    exact RetI.no B1
  | some (xs, false) =>
    have HR : Hid (r = none) := HE.out
    rw [HR.out]
    go_enter Try.func13, Try.ntmps13
    go_wp2_with fail
    refine L.out.mono ?_
    rintro e w1 ⟨hb1, a', c', rfl, ho⟩
    have B1 := below_then hB hb1
    clear hb1 ho
    go_wp2_with fail
    go_ret2
    exact RetI.no B1
  | some (xs, true) =>
    have HR : Hid (r = some xs) := HE.out
    rw [HR.out]
    go_enter Try.func13, Try.ntmps13
    go_wp2_with fail
    refine L.out.mono ?_
    rintro e w1 ⟨hb1, a', c', rfl, ho⟩
    have B1 := below_then hB hb1
    have HO := Lib.hid (own_base ho hB.size)
    clear hb1 ho
    go_wp2_with fail
    go_ret2
    exact ⟨B1, a', c', rfl, HO.out⟩
end Go.Proofs.Ytchfibmndcfpiaa
namespace Go.Proofs.Ytchfibmndcfpiaa
set_option linter.unusedVariables false
set_option linter.unusedSimpArgs false
open Go.RowKit

theorem drop_get {ys : List Int} {p t : Nat} : (ys.drop (p + 1))[t]? = ys[p + 1 + t]? := by rw [List.getElem?_drop]
set_option maxRecDepth 10000 in
set_option maxHeartbeats 8000000 in
theorem nextW_any (w : World) (a0 : Option Addr) (c0 : Nat) (x0 : List (List Int)) (a1 : Option Addr) (c1 : Nat) (x1 : List (List Int)) (h : RdWishes w w.heap.size a0 x0 a1 x1) (hv : Wish ⟨x0, x1⟩) (hin0 : ∀ y ∈ x0, y.length ≤ 1048576) (hin1 : ∀ y ∈ x1, y.length ≤ 1048576)
    (a : Option Addr) (c : Nat) (m : List Int) (g : Rd w w.heap.size a (ints m)) (hm : Mat ⟨x0, x1⟩ m) (i : Nat) (hi : i < x0.length) :
    Calls Try.prog 87 #[.agg #[.slice a0 x0.length c0, .slice a1 x1.length c1], .slice a m.length c, .int .i64 i] w fun e w' => e = .returned (.int .i64 (nextF ⟨x0, x1⟩ m i)) ∧ Below w.heap.size w w' := by
  have X0 : Bx w (w.alloc (.cells #[.slice a0 x0.length c0, .slice a1 x1.length c1] 27)) [.slice a0 x0.length c0, .slice a1 x1.length c1] 27 := Bx.start w _ _
  have hml := hm.len
  have hln := Lib.hid hv.len
  simp only at hml hln
  obtain ⟨b4, o4, x, e4, hb4, hc4, hx4⟩ := g.get (k := i) (by omega)
  obtain ⟨b2, o2, ys, a2, c2, e2, hb2, hc2, hcap2, hr2, hy2⟩ := h.1.get hi
  have i0 : (0 : Int) ≤ (i : Int) := Int.natCast_nonneg _
  have i1 : (i : Int) < (x0.length : Int) := by omega
  have i2 : (i : Int) < (m.length : Int) := by omega
  have hgd := getD_of_get hx4.out
  have d4 := (X0.1.cell (p := ⟨b4, o4 + i, none⟩) hb4).trans hc4
  have d2 := (X0.1.cell (p := ⟨b2, o2 + i, none⟩) hb2).trans hc2
  have HmL : Hid (m.length = x0.length) := hml
  by_cases hx0 : x < 0
  · have HF : Hid (nextF ⟨x0, x1⟩ m i = -1) := next_nobody (by rw [hgd]; exact hx0)
    subst e4
    clear h g hm hv hin0 hin1 e2 hr2 hgd hml hc4 hc2
    go_enter Try.func87, Try.ntmps87
    go_wp2_with fail
    go_ret
    exact ⟨ret_int HF.out.symm, X0.1⟩
  · have hrow := row_get hy2.out
    have hyl := hin0 ys (List.mem_of_getElem? hy2.out)
    obtain ⟨y, rfl, hyn, hin⟩ : ∃ y : Nat, x = y ∧ y < x0.length ∧ containsI ys y = true := by
      rcases hm.val i (by omega) with h1 | ⟨y, h1, h2, h3⟩
      · rw [hgd] at h1; omega
      · rw [hgd] at h1
        simp only [pairB, Bool.and_eq_true, hrow] at h3
        exact ⟨y, h1, h2, h3.1⟩
    obtain ⟨p, hp⟩ : ∃ p : Nat, placeI ys y = p := ⟨(placeI ys y).toNat, by have := (placeI_bd ys y).1; omega⟩
    have hpl : p < ys.length := by have := placeI_in hin; omega
    have hwr : IntKind.i64.wrap ((p : Int) + 1) = (p : Int) + 1 := IntWalk.i64_in _ (by omega)
    have LPl := Lib.hid (fun w' hb => place_any w' a2 c2 ys y (hr2.to hb) hyl)
    rw [hp] at LPl
    have h00 : ¬ m.getD i 0 < 0 := by rw [hgd]; exact hx0
    have hpt : (placeI (row x0 i) (m.getD i 0)).toNat = p := by rw [hrow, hgd, hp]; simp
    have HV : Hid (∀ (t : Nat) (z : Int), (ys.drop (p + 1))[t]? = some z → ∃ k : Nat, z = k ∧ k < x0.length ∧ (k : Int) ∈ row x0 i) := fun t z hz => by
      have hmem : z ∈ ys := List.mem_of_mem_drop (List.mem_of_getElem? hz)
      obtain ⟨z0, z1⟩ := (hv.left ys (List.mem_of_getElem? hy2.out)).1 z hmem
      simp only at z1
      exact ⟨z.toNat, by omega, by omega, by rw [hrow, Int.toNat_of_nonneg z0]; exact hmem⟩
    have Hhit : Hid (∀ (t k : Nat), (ys.drop (p + 1))[t]? = some (k : Int) → nextB ⟨x0, x1⟩ m i k = true → (∀ (j : Nat) (z : Int), j < t → (ys.drop (p + 1))[j]? = some z → nextB ⟨x0, x1⟩ m i z = false) → nextF ⟨x0, x1⟩ m i = indexI m k) := fun t k h1 h2 h3 => by
      have := next_hit (w := ⟨x0, x1⟩) (i := i) (k := t) (b := (k : Int)) h00 (by simp only; rw [hpt, hrow]; exact h1) h2 (by simp only; rw [hpt, hrow]; exact h3)
      rw [this]; rfl
    have Hmiss : Hid ((∀ (j : Nat) (z : Int), j < (ys.drop (p + 1)).length → (ys.drop (p + 1))[j]? = some z → nextB ⟨x0, x1⟩ m i z = false) → nextF ⟨x0, x1⟩ m i = -1) := fun h3 =>
      next_miss (w := ⟨x0, x1⟩) (i := i) h00 (by simp only; rw [hpt, hrow]; exact h3)
    have HT : Hid (∀ k : Nat, k < x0.length → (k : Int) ∈ row x0 i → (pairB ⟨x0, x1⟩ i k && dearI (row x1 k) i (indexI m k)) = nextB ⟨x0, x1⟩ m i k) := fun k hk hmem => next_test hv (m := m) hi hk hmem
    have LTk : Hid (∀ (w' : World) (k : Nat), Below w.heap.size w w' → k < x0.length → _) := fun w' k hb hk => take_any w' a0 c0 x0 a1 c1 x1 (h.to hb) hin0 hin1 i k hi (by rw [hln.out]; exact hk)
    have LI := Lib.hid (fun w' hb (k : Int) => index_any w' a c m k (g.to hb) (by have := hv.n8; simp only at this; omega))
    have LD := Lib.hid (fun w' a c ys x y => dearer_any w' a c ys x y)
    have HR1 := Lib.hid h.2
    have Hin1 := Lib.hid hin1
    obtain ⟨b5, o5, _, e5, hb5, _⟩ := hr2.get (k := 0) (by omega)
    have HRY := Lib.hid hr2
    subst e4 e2 e5
    have Hdl : Hid ((ys.drop (p + 1)).length = ys.length - (p + 1)) := by simp [Hid]
    generalize hnf : nextF ⟨x0, x1⟩ m i = nf at *
    clear h g hm hv hin0 hin1 hgd hml hrow h00 hpt hnf hc2 hc4 hin hp hr2
    by_cases hcp : c2 = p + 1
    · have hly : ys.length - (p + 1) = 0 := by omega
      have HR : Hid (nf = -1) := Hmiss.out (fun j z hj => by rw [Hdl.out, hly] at hj; omega)
      have X1 := X0
      subst hcp
      clear Hmiss Hhit HT HV LTk LI LD HR1 Hin1 HRY Hdl
      go_enter Try.func87, Try.ntmps87
      go_wp2_with fail
      refine (LPl.out _ X0.1).mono ?_
      rintro e w1 ⟨rfl, rfl⟩
      clear d4 d2
      go_wp2_with fail
      go_loopw [31] (fun tv wr => tv = .int .i64 0 ∧ Bx w wr [.slice (some ⟨b2, o2, none⟩) x0.length c0, .slice a1 x1.length c1] 27) (fun _ _ => 0)
      case atStart => exact ⟨rfl, X1⟩
      case round =>
        clear X0 X1
        obtain ⟨rfl, X⟩ := hrel
        have h01 : ¬ ((0 : Int) < ((ys.length - (p + 1) : Nat) : Int)) := by omega
        go_wp2_with fail
        go_ret
        exact ⟨ret_int HR.out.symm, X.1⟩
    · go_enter Try.func87, Try.ntmps87
      go_wp2_with fail
      refine (LPl.out _ X0.1).mono ?_
      rintro e w1 ⟨rfl, rfl⟩
      clear d4 d2
      go_wp2_with fail
      go_loopw [31] (fun tv wr => ∃ t : Nat, t ≤ ys.length - (p + 1) ∧ tv = .int .i64 t ∧ Hid (∀ (j : Nat) (z : Int), j < t → (ys.drop (p + 1))[j]? = some z → nextB ⟨x0, x1⟩ m i z = false) ∧ Bx w wr [.slice (some ⟨b2, o2, none⟩) x0.length c0, .slice a1 x1.length c1] 27) (fun tv _ => ys.length - (p + 1) - (intOf tv).toNat)
      case atStart => exact ⟨0, Nat.zero_le _, rfl, fun _ _ h => by omega, X0⟩
      case round =>
        clear X0
        obtain ⟨t, ht, rfl, hbef, X⟩ := hrel
        by_cases hlt : t < ys.length - (p + 1)
        · have hw := X.1
          obtain ⟨b6, o6, z, e6, hb6, hc6, hz6⟩ := (HRY.out.to hw).get (k := p + 1 + t) (by omega)
          injection e6 with e6
          injection e6 with e61 e62
          subst e61 e62
          have hzd : (ys.drop (p + 1))[t]? = some z := by rw [drop_get]; exact hz6.out
          obtain ⟨k, rfl, hkn, hmem⟩ := HV.out t z hzd
          have htest := HT.out k hkn hmem
          obtain ⟨b3, o3, zs, a3, c3, e3, hb3, hc3, _, hr3, hy3⟩ := (HR1.out).get (k := k) (by rw [hln.out]; exact hkn)
          subst e3
          rw [row_get hy3.out] at htest
          have hzl := Hin1.out zs (List.mem_of_getElem? hy3.out)
          have LI1 := Lib.hid (LI.out wr hw (k : Int))
          have LT1 := Lib.hid (LTk.out wr k hw hkn)
          have LD1 : Hid (∀ w', Below w.heap.size w w' → _) := fun w' hb => LD.out w' a3 c3 zs i (indexI m k) (hr3.to hb) hzl
          have HH := Lib.hid (Hhit.out t k hzd)
          have HStep : Hid (nextB ⟨x0, x1⟩ m i k = false → ∀ (j : Nat) (z : Int), j < t + 1 → (ys.drop (p + 1))[j]? = some z → nextB ⟨x0, x1⟩ m i z = false) := fun hf j z hj hz => by
            by_cases e : j = t
            · subst e
              rw [hzd] at hz
              injection hz with hz
              subst hz
              exact hf
            · exact hbef.out j z (by omega) hz
          have k0 : (0 : Int) ≤ (k : Int) := Int.natCast_nonneg _
          have k1 : (k : Int) < (x1.length : Int) := by rw [hln.out]; omega
          have t0 : (0 : Int) ≤ (t : Int) := Int.natCast_nonneg _
          have d3 : Hid (∀ w', Below w.heap.size w w' → w'.cell? ⟨b3, o3 + k, none⟩ = some (.slice a3 zs.length c3)) := fun w' hb => (hb.cell (p := ⟨b3, o3 + k, none⟩) hb3).trans hc3
          obtain ⟨q0, q1⟩ := X.two
          have ht1 : (t : Int) < ((ys.length - (p + 1) : Nat) : Int) := by omega
          rw [show o5 + (p + 1 + t) = o5 + (p + 1) + t by omega] at hc6
          generalize indexI m (k : Int) = ix at *
          generalize hnb : nextB ⟨x0, x1⟩ m i (k : Int) = nb at *
          clear hnb hzd hz6 hc3 hr3 hy3 hmem
          cases t1 : pairB ⟨x0, x1⟩ i k with
          | false =>
            rw [t1] at LT1
            rw [t1, Bool.false_and] at htest
            have HS2 := Lib.hid (HStep.out htest.symm)
            clear HH HStep htest
            go_wp2_with (go_at_call 97; refine LI1.out.mono ?_; rintro e w' ⟨rfl, rfl⟩)
            refine LT1.out.mono ?_
            rintro e w3 ⟨rfl, hb3'⟩
            have X3 := X.next hb3'
            clear hb3' q0 q1 hc6 X
            go_wp2_with fail
            go_roundw
            case rel => exact ⟨t + 1, by omega, by go_num, HS2, X3⟩
            case measure => simp [intOf]; omega
          | true =>
            rw [t1] at LT1
            rw [t1, Bool.true_and] at htest
            cases t2 : dearI zs i ix with
            | false =>
              rw [t2] at LD1 htest
              have HS2 := Lib.hid (HStep.out htest.symm)
              clear HH HStep htest
              go_wp2_with (go_at_call 97; refine LI1.out.mono ?_; rintro e w' ⟨rfl, rfl⟩)
              refine LT1.out.mono ?_
              rintro e w3 ⟨rfl, hb3'⟩
              have X3 := X.next hb3'
              clear hb3' q0 q1 hc6 X
              obtain ⟨q0, q1⟩ := X3.two
              have d33 := d3.out _ X3.1
              go_wp2_with fail
              refine (LD1.out _ X3.1).mono ?_
              rintro e w4 ⟨rfl, rfl⟩
              clear q0 q1 d33
              go_wp2_with fail
              go_roundw
              case rel => exact ⟨t + 1, by omega, by go_num, HS2, X3⟩
              case measure => simp [intOf]; omega
            | true =>
              rw [t2] at LD1 htest
              have HR : Hid (nf = ix) := HH.out htest.symm hbef.out
              clear HH HStep htest
              go_wp2_with (go_at_call 97; refine LI1.out.mono ?_; rintro e w' ⟨rfl, rfl⟩)
              refine LT1.out.mono ?_
              rintro e w3 ⟨rfl, hb3'⟩
              have X3 := X.next hb3'
              clear hb3' q0 q1 hc6 X
              obtain ⟨q0, q1⟩ := X3.two
              have d33 := d3.out _ X3.1
              go_wp2_with fail
              refine (LD1.out _ X3.1).mono ?_
              rintro e w4 ⟨rfl, rfl⟩
              clear q0 q1 d33
              go_wp2_with fail
              go_ret
              exact ⟨ret_int HR.out.symm, X3.1⟩
        · have : t = ys.length - (p + 1) := by omega
          subst this
          have HR : Hid (nf = -1) := Hmiss.out (by rw [Hdl.out]; exact hbef.out)
          clear hbef
          go_wp2_with fail
          go_ret
          exact ⟨ret_int HR.out.symm, X.1⟩
end Go.Proofs.Ytchfibmndcfpiaa
