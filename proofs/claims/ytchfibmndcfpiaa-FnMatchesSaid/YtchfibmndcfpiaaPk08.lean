/-
  Part 8 of what the proof stands on: lemmas and contracts, each with its conditions ahead of the colon.
-/
import Derived.Deep.RegionLaw
import Derived.Laws.EntriesVeiled
import Derived.Outline
import Derived.Test.YtchfibmndcfpiaaPk02
import Derived.Test.YtchfibmndcfpiaaPk03
import Derived.Test.YtchfibmndcfpiaaPk04
import Derived.Test.YtchfibmndcfpiaaPk05
import Derived.Test.YtchfibmndcfpiaaPk07
namespace Go.Proofs.Ytchfibmndcfpiaa
set_option linter.unusedVariables false
set_option linter.unusedSimpArgs false
open Go.RowKit

theorem php : ∀ (n T : Nat) (f : Nat → Nat), (∀ s, s < T → f s < n) → (∀ p q, p < T → q < T → f p = f q → p = q) → T ≤ n
  | 0, 0, _, _, _ => Nat.le_refl _
  | 0, T + 1, f, h, _ => by have := h 0 (by omega); omega
  | n + 1, 0, _, _, _ => by omega
  | n + 1, T + 1, f, h, hi => by
    have := php n T (fun s => if f s = n then f T else f s) (fun s hs => by
      have h1 := h s (by omega)
      have h2 := h T (by omega)
      show (if f s = n then f T else f s) < n
      split
      case isTrue e =>
        have : f T ≠ n := fun e2 => by have := hi s T (by omega) (by omega) (by omega); omega
        omega
      case isFalse e => omega) (fun p q hp hq he => by
      have k1 := hi p q (by omega) (by omega)
      have k2 := hi p T (by omega) (by omega)
      have k3 := hi q T (by omega) (by omega)
      split at he <;> split at he <;> omega)
    omega
def rg (g : Int → Int) (a : Int) (t : Nat) : List Int := (List.range (t + 1)).map (itZ g a)
theorem rg_len (g : Int → Int) (a : Int) (t : Nat) : (rg g a t).length = t + 1 := by simp [rg]
theorem rg_succ (g : Int → Int) (a : Int) (t : Nat) : rg g a (t + 1) = rg g a t ++ [itZ g a (t + 1)] := by simp [rg, List.range_succ]
theorem rg_zero (g : Int → Int) (a : Int) : rg g a 0 = [a] := rfl
theorem rg_at {g : Int → Int} {a : Int} {t s : Nat} (h : s ≤ t) : (rg g a t).getD s 0 = itZ g a s := by
  have : s < t + 1 := by omega
  simp [rg, List.getD, this]
theorem rg_mem {g : Int → Int} {a x : Int} {t : Nat} : x ∈ rg g a t ↔ ∃ s, s ≤ t ∧ itZ g a s = x := by
  unfold rg
  rw [List.mem_map]
  constructor
  · rintro ⟨s, hs, e⟩; exact ⟨s, by have := List.mem_range.1 hs; omega, e⟩
  · rintro ⟨s, hs, e⟩; exact ⟨s, List.mem_range.2 (by omega), e⟩
structure OnRing (g : Int → Int) (a n t : Nat) : Prop where
  gt : ∀ s, s < t → (a : Int) < itZ g a (s + 1)
  inj : ∀ p q, p ≤ t → q ≤ t → itZ g a p = itZ g a q → p = q
  nat : ∀ s, s ≤ t → ∃ y : Nat, itZ g a s = y ∧ y < n
theorem OnRing.start (g : Int → Int) {a n : Nat} (h : a < n) : OnRing g a n 0 :=
  ⟨fun s hs => by omega, fun p q hp hq _ => by omega, fun s hs => ⟨a, by rw [show s = 0 by omega]; rfl, h⟩⟩
theorem OnRing.le {g : Int → Int} {a n t : Nat} (h : OnRing g a n t) : t + 1 ≤ n := by
  refine php n (t + 1) (fun s => (itZ g a s).toNat) (fun s hs => ?_) (fun p q hp hq he => ?_)
  · obtain ⟨y, hy, hn⟩ := h.nat s (by omega)
    simp only [hy]; omega
  · obtain ⟨y, hy, _⟩ := h.nat p (by omega)
    obtain ⟨z, hz, _⟩ := h.nat q (by omega)
    exact h.inj p q (by omega) (by omega) (by rw [hy, hz] at he ⊢; simp only [Int.toNat_natCast] at he; omega)
theorem OnRing.step {g : Int → Int} {a n t y : Nat} (h : OnRing g a n t) (hx : itZ g a (t + 1) = y) (hy : y < n) (hgt : a < y) (hno : (y : Int) ∉ rg g a t) : OnRing g a n (t + 1) := by
  refine ⟨fun s hs => ?_, fun p q hp hq he => ?_, fun s hs => ?_⟩
  · by_cases e : s = t
    · subst e; rw [hx]; omega
    · exact h.gt s (by omega)
  · by_cases e1 : p = t + 1 <;> by_cases e2 : q = t + 1
    · omega
    · subst e1; rw [hx] at he; exact absurd (rg_mem.2 ⟨q, by omega, he.symm⟩) hno
    · subst e2; rw [hx] at he; exact absurd (rg_mem.2 ⟨p, by omega, he⟩) hno
    · exact h.inj p q (by omega) (by omega) he
  · by_cases e : s = t + 1
    · subst e; exact ⟨y, hx, hy⟩
    · exact h.nat s (by omega)
theorem OnRing.hit {g : Int → Int} {a n t : Nat} (h : OnRing g a n t) (hx : itZ g a (t + 1) = a) : ringF g a n = some (rg g a t) := by
  rw [ringF_hit (t := t) (by have := h.le; omega) (by omega) h.gt, if_pos hx]; rfl
theorem OnRing.low {g : Int → Int} {a n t : Nat} (h : OnRing g a n t) (hx : itZ g a (t + 1) < a) : ringF g a n = none := by
  rw [ringF_hit (t := t) (by have := h.le; omega) (by omega) h.gt, if_neg (by omega)]
theorem OnRing.seen {g : Int → Int} {a n t : Nat} (h : OnRing g a n t) (hgt : (a : Int) < itZ g a (t + 1)) (hin : itZ g a (t + 1) ∈ rg g a t) : ringF g a n = none := by
  obtain ⟨s, hs, he⟩ := rg_mem.1 hin
  have hs1 : 1 ≤ s := by
    rcases Nat.eq_zero_or_pos s with e | e
    · subst e
      have : itZ g (a : Int) 0 = a := rfl
      omega
    · exact e
  refine ringF_none fun u _ => itZ_round hs hs1 he.symm (fun r hr => ?_) u
  by_cases e : r = t
  · subst e; exact hgt
  · exact h.gt r (by omega)
/-- The turns that begin below i. -/
def TF (w : Wi) (m : List Int) (i : Nat) : List (List Int) := (List.range i).filterMap fun (j : Nat) => ringF (nextZ w m) (j : Int) w.L.length
theorem TF_all (w : Wi) (m : List Int) : TF w m w.L.length = turnsF w m := rfl
theorem TF_none {w : Wi} {m : List Int} {i : Nat} (h : ringF (nextZ w m) i w.L.length = none) : TF w m (i + 1) = TF w m i := by
  unfold TF; rw [List.range_succ, List.filterMap_append]; simp [h]
theorem TF_some {w : Wi} {m : List Int} {i : Nat} {r : List Int} (h : ringF (nextZ w m) i w.L.length = some r) : TF w m (i + 1) = TF w m i ++ [r] := by
  unfold TF; rw [List.range_succ, List.filterMap_append]; simp [h]
theorem TF_len (w : Wi) (m : List Int) (i : Nat) : (TF w m i).length ≤ i := by
  unfold TF
  exact Nat.le_trans (List.length_filterMap_le _ _) (by simp)
theorem TF_in {w : Wi} {m r : List Int} {i : Nat} (h : r ∈ TF w m i) : r.length ≤ w.L.length + 1 := by
  obtain ⟨j, _, h⟩ := List.mem_filterMap.1 h
  obtain ⟨t, ht, rfl, _⟩ := ringF_mem h
  simp; omega
theorem next_self {w : Wi} (hw : Wish w) {m : List Int} (hm : Mat w m) {i : Nat} (hi : i < w.L.length) : nextF w m i ≠ i := by
  rcases nextF_spec hw hm hi with h | ⟨j, b, h, _, hne, _⟩
  · rw [h]; omega
  · rw [h]; omega
theorem itZ_next {w : Wi} {m : List Int} {a t y : Nat} (h : itZ (nextZ w m) a t = y) : itZ (nextZ w m) a (t + 1) = nextF w m y := by
  show nextZ w m (itZ (nextZ w m) a t) = _
  rw [h]; rfl
theorem OwnRows.up {T T2 : Nat} {w : World} {lo hi hi' : Nat} {u : Value} {vs : List Value} {yss : List (List Int)} (h : OwnRows T T2 w lo hi u vs yss) (hh : hi ≤ hi') : OwnRows T T2 w lo hi' u vs yss :=
  ⟨h.out, fun g hg => Nat.lt_of_lt_of_le (h.lt g hg) hh, fun j ys hj => let ⟨a', c', h3, h4⟩ := h.row j ys hj; ⟨a', c', h3, h4.mono (Nat.le_refl _) hh⟩, h.top, h.dis⟩
def sliceLen : Value → Nat
  | .slice _ n _ => n
  | _ => 0
theorem own_some1 {w : World} {base e n c : Nat} {a : Option Addr} {xs : List Value} (h : w.ownsRow base e 1 (.slice a n c) n xs) (hn : 1 ≤ n) : ∃ g, a = some ⟨g, 0, none⟩ := by
  obtain ⟨g, _, e, _⟩ := own_open h hn
  exact ⟨g, e⟩
end Go.Proofs.Ytchfibmndcfpiaa
namespace Go.Proofs.Ytchfibmndcfpiaa
set_option linter.unusedVariables false
set_option linter.unusedSimpArgs false
open Go.RowKit

theorem info_intsM : (Try.prog.info? 31).map (fun i => (i.zero, i.size, i.bytes)) = some (some (.slice none 0 0), 1, 24) := by kernel_rfl
set_option maxRecDepth 10000 in
set_option maxHeartbeats 8000000 in
theorem turnsW_any (w : World) (a0 : Option Addr) (c0 : Nat) (x0 : List (List Int)) (a1 : Option Addr) (c1 : Nat) (x1 : List (List Int)) (h : RdWishes w w.heap.size a0 x0 a1 x1) (hv : Wish ⟨x0, x1⟩) (hin0 : ∀ y ∈ x0, y.length ≤ 1048576) (hin1 : ∀ y ∈ x1, y.length ≤ 1048576)
    (a : Option Addr) (c : Nat) (m : List Int) (g : Rd w w.heap.size a (ints m)) (hm : Mat ⟨x0, x1⟩ m) :
    Calls Try.prog 45 #[.agg #[.slice a0 x0.length c0, .slice a1 x1.length c1], .slice a m.length c] w fun e w' => ∃ a' c', e = .returned (.slice a' (turnsF ⟨x0, x1⟩ m).length c') ∧ OwnLL 2 31 w' w.heap.size w'.heap.size a' c' (turnsF ⟨x0, x1⟩ m) ∧ Below w.heap.size w w' := by
  have X0 : Bx w (w.alloc (.cells #[.slice a0 x0.length c0, .slice a1 x1.length c1] 27)) [.slice a0 x0.length c0, .slice a1 x1.length c1] 27 := Bx.start w _ _
  have LC := Lib.hid (fun w' => count_any w' a0 c0 x0 a1 c1 x1)
  have LN : Hid (∀ (w' : World) (i : Nat), Below w.heap.size w w' → i < x0.length → _) := fun w' i hb hi => nextW_any w' a0 c0 x0 a1 c1 x1 (h.to hb) hv hin0 hin1 a c m (g.to hb) hm i hi
  have h8 := hv.n8
  simp only at h8
  have HV : Hid (∀ i : Nat, i < x0.length → nextF ⟨x0, x1⟩ m i = -1 ∨ ∃ j : Nat, nextF ⟨x0, x1⟩ m i = j ∧ j < x0.length ∧ j ≠ i) := fun i hi => (nextF_spec hv hm hi).imp id fun ⟨j, _, h1, h2, h3, _⟩ => ⟨j, h1, h2, h3⟩
  have HSt : Hid (∀ i : Nat, i < x0.length → OnRing (nextZ ⟨x0, x1⟩ m) i x0.length 0) := fun i hi => OnRing.start _ hi
  have HIt : Hid (∀ i t y : Nat, itZ (nextZ ⟨x0, x1⟩ m) i t = y → itZ (nextZ ⟨x0, x1⟩ m) i (t + 1) = nextF ⟨x0, x1⟩ m y) := fun i t y he => itZ_next he
  have HNo : Hid (∀ i : Nat, ringF (nextZ ⟨x0, x1⟩ m) i x0.length = none → TF ⟨x0, x1⟩ m (i + 1) = TF ⟨x0, x1⟩ m i) := fun i hh => TF_none hh
  have HYes : Hid (∀ (i : Nat) (r : List Int), ringF (nextZ ⟨x0, x1⟩ m) i x0.length = some r → TF ⟨x0, x1⟩ m (i + 1) = TF ⟨x0, x1⟩ m i ++ [r]) := fun i r hh => TF_some hh
  have HAll : Hid (TF ⟨x0, x1⟩ m x0.length = turnsF ⟨x0, x1⟩ m) := rfl
  have HLen := Lib.hid (TF_len ⟨x0, x1⟩ m)
  have HZ : Hid (TF ⟨x0, x1⟩ m 0 = []) := rfl
  generalize hgz : nextZ ⟨x0, x1⟩ m = gz at *
  generalize hnf : nextF ⟨x0, x1⟩ m = nf at *
  generalize htf : TF ⟨x0, x1⟩ m = tf at *
  generalize htt : turnsF ⟨x0, x1⟩ m = tt at *
  clear h g hv hm hin0 hin1 hgz hnf htf htt
  go_enter Try.func45, Try.ntmps45
  go_wp2_with fail
  refine (LC.out _).mono ?_
  rintro e w1 ⟨rfl, hb1⟩
  have hO0 := (OwnRows.start (T := 2) (own_empty (w.alloc (.cells #[.slice a0 x0.length c0, .slice a1 x1.length c1] 27)) 31)).keep hb1
  have X1 := (X0.next (bl1 _ _)).next hb1
  have HO0 := Lib.hid (hO0.up hb1.size)
  have hs1 : w.heap.size + 1 ≤ w1.heap.size := X1.lt
  have HE : Hid ((w.alloc (.cells #[.slice a0 x0.length c0, .slice a1 x1.length c1] 27)).heap.size = w.heap.size + 1) := by simp [Hid]
  rw [HE.out] at HO0
  clear hb1 X0 hO0
  go_wp2_with fail
  go_loopw [12, 5] (fun iv v wr => ∃ (i : Nat) (a2 : Option Addr) (c2 m2 : Nat) (vs : List Value), i ≤ x0.length ∧ iv = .int .i64 i ∧ v = .slice a2 m2 c2 ∧ Hid (m2 = (tf i).length) ∧ Hid (OwnRows 2 31 wr (w.heap.size + 1) wr.heap.size (.slice a2 (tf i).length c2) vs (tf i)) ∧ Bx w wr [.slice a0 x0.length c0, .slice a1 x1.length c1] 27) (fun iv _ _ => x0.length - (intOf iv).toNat)
  case atStart => exact ⟨0, some ⟨w.heap.size + 1, 0, none⟩, 0, 0, [], Nat.zero_le _, rfl, (by first | rfl | simp), by rw [HZ.out]; rfl, by rw [HZ.out]; exact HO0.out, X1⟩
  case round =>
    clear HO0 X1
    obtain ⟨i, a2, c2, m2, vs, hi, rfl, rfl, hm2, hO, X⟩ := hrel
    by_cases hlt : i < x0.length
    · obtain ⟨wo, hwo⟩ : ∃ W : World, W = wr := ⟨_, rfl⟩
      subst hwo
      have hR0 : Hid ((wo.alloc (.cells #[.int .i64 i] 2)).ownsRow wo.heap.size 2 1 (.slice (some ⟨wo.heap.size, 0, none⟩) 1 1) 1 (ints (rg gz i 0))) := (Blk.new wo [.int .i64 i] 2).owns (Nat.le_refl _) (by simp [maxLen])
      have hst := Lib.hid (HSt.out i hlt)
      have hxl := X.lt
      have hB0 := bl1 wo (.cells #[.int .i64 i] 2)
      have hm8 : m2 ≤ 8 := by rw [hm2.out]; have := HLen.out i; omega
      go_wp2_with fail
      go_loopw [7, 5] (fun v u wr => ∃ (t c3 : Nat) (a3 : Option Addr), v = .slice a3 (t + 1) c3 ∧ u = .slice a2 m2 c2 ∧ Hid (OnRing gz i x0.length t) ∧ Hid (wr.ownsRow wo.heap.size 2 1 (.slice a3 (t + 1) c3) (t + 1) (ints (rg gz i t))) ∧ Below wo.heap.size wo wr) (fun v _ _ => x0.length + 1 - sliceLen v)
      case atStart => exact ⟨0, 1, _, rfl, rfl, hst.out, hR0.out, hB0⟩
      case round =>
        clear hR0 hst hB0
        obtain ⟨t, c3, a3, rfl, rfl, hon, hown, hwi⟩ := hrel
        obtain ⟨y, hy, hyn⟩ := hon.out.nat t (Nat.le_refl _)
        have hle := hon.out.le
        obtain ⟨g3, tl, rfl, hg3, kb, hc3, hcm, hcl⟩ := own_open hown.out (by omega)
        have hX := X.far hwi hxl
        obtain ⟨q0, q1⟩ := hX.two
        have hxi := hX.lt
        have hkl := kb.lt
        have hct : wr.cell? ⟨g3, t, none⟩ = some (.int .i64 y) := by rw [cell_app kb (j := t) (by rw [rg_len]; omega), rg_at (Nat.le_refl _), hy]
        have F0 : ∀ z : Later wr, z.w'.cell? ⟨w.heap.size, 0, none⟩ = some (.slice a0 x0.length c0) := fun z => z.cell hxi q0
        have F1 : ∀ z : Later wr, z.w'.cell? ⟨w.heap.size, 1, none⟩ = some (.slice a1 x1.length c1) := fun z => z.cell hxi q1
        have F2 : ∀ z : Later wr, z.w'.cell? ⟨g3, t, none⟩ = some (.int .i64 y) := fun z => z.cell hkl hct
        have LN1 : Hid (∀ w', Below wr.heap.size wr w' → _) := fun w' hb => LN.out w' y (hX.1.trans (hb.mono hX.1.size)) hyn
        have hnx := HIt.out i t y hy
        have Hlow : Hid (nf y < i → ringF gz i x0.length = none) := fun hh => hon.out.low (by rw [hnx]; exact hh)
        have Hhit : Hid (nf y = i → ringF gz i x0.length = some (rg gz i t)) := fun hh => hon.out.hit (by rw [hnx]; exact hh)
        have Hseen : Hid ((i : Int) < nf y → nf y ∈ rg gz i t → ringF gz i x0.length = none) := fun h1 h2 => hon.out.seen (by rw [hnx]; exact h1) (by rw [hnx]; exact h2)
        have Hstep : Hid (∀ j : Nat, nf y = j → j < x0.length → i < j → (j : Int) ∉ rg gz i t → OnRing gz i x0.length (t + 1)) := fun j h1 h2 h3 h4 => hon.out.step (by rw [hnx]; exact h1) h2 h3 h4
        have Hsucc : Hid (rg gz i (t + 1) = rg gz i t ++ [nf y]) := by rw [Hid, rg_succ, hnx]
        have H0 : Hid (t = 0 → y = i) := fun e => by
          subst e
          have h1 : itZ gz (i : Int) 0 = i := rfl
          rw [h1] at hy; omega
        have HN2 : Hid (ringF gz i x0.length = none → ∀ w', Below wo.heap.size wo w' → (m2 = (tf (i + 1)).length) ∧ OwnRows 2 31 w' (w.heap.size + 1) w'.heap.size (.slice a2 (tf (i + 1)).length c2) vs (tf (i + 1)) ∧ Bx w w' [.slice a0 x0.length c0, .slice a1 x1.length c1] 27) := fun hh w' hb => by
          rw [HNo.out i hh]
          exact ⟨hm2.out, (hO.out.keep hb).up hb.size, X.next hb⟩
        have t0 : (0 : Int) ≤ (t : Int) := Int.natCast_nonneg _
        have hvy := HV.out y hyn
        clear q0 q1 kb hcl hct hX hon hnx hcm hc3
        generalize nf y = z at *
        rcases hvy with rfl | ⟨j, rfl, hjn, hjy⟩
        · have hnone := Hlow.out (by omega)
          have hne : (((-1 : Int)) == (i : Int)) = false := by rw [beq_eq_false_iff_ne]; omega
          clear Hlow Hhit Hseen Hstep H0
          go_wp2_with fail
          refine wp_region_later (by kernel_rfl) (by kernel_rfl) ?_
          repeat (go_big_quiet_step ((go_at_call 87; exact later_of (LN1.out _ (Later.h _)))))
          refine wpQuiet_nil ?_
          rintro wq ⟨⟨_, hbq⟩, rfl⟩
          have hBq := hwi.trans (hbq.mono hwi.size)
          have HRq := Lib.hid (own_below hown.out hbq)
          have hsq := hBq.size
          clear F0 F1 F2
          obtain ⟨e1, e2, e3⟩ := HN2.out hnone wq hBq
          have E1 := Lib.hid e1
          have E2 := Lib.hid e2
          clear HN2 e1 e2 hbq hBq hown hwi HRq
          go_wp2_with fail
          go_roundw
          case rel => exact ⟨i + 1, a2, c2, m2, vs, by omega, by go_num, rfl, E1, E2, e3⟩
          case measure => simp [intOf]; omega
        · rcases Nat.lt_trichotomy j i with hji | hji | hji
          · have hnone := Hlow.out (by omega)
            have hne : ((j : Int) == (i : Int)) = false := by rw [beq_eq_false_iff_ne]; omega
            clear Hlow Hhit Hseen Hstep H0
            go_wp2_with fail
            refine wp_region_later (by kernel_rfl) (by kernel_rfl) ?_
            repeat (go_big_quiet_step ((go_at_call 87; exact later_of (LN1.out _ (Later.h _)))))
            refine wpQuiet_nil ?_
            rintro wq ⟨⟨_, hbq⟩, rfl⟩
            have hBq := hwi.trans (hbq.mono hwi.size)
            have HRq := Lib.hid (own_below hown.out hbq)
            have hsq := hBq.size
            clear F0 F1 F2
            obtain ⟨e1, e2, e3⟩ := HN2.out hnone wq hBq
            have E1 := Lib.hid e1
            have E2 := Lib.hid e2
            clear HN2 e1 e2 hbq hBq hown hwi HRq
            go_wp2_with fail
            go_roundw
            case rel => exact ⟨i + 1, a2, c2, m2, vs, by omega, by go_num, rfl, E1, E2, e3⟩
            case measure => simp [intOf]; omega
          · subst hji
            have ht1 : 1 ≤ t := by
              rcases Nat.eq_zero_or_pos t with e | e
              · exact absurd (H0.out e).symm hjy
              · exact e
            have hyes := Lib.hid (Hhit.out rfl)
            have hne : ((j : Int) == (j : Int)) = true := by simp
            have hgt : (1 : Int) < ((t + 1 : Nat) : Int) := by omega
            clear Hlow Hhit Hseen Hstep H0 HN2
            go_wp2_with fail
            refine wp_region_later (by kernel_rfl) (by kernel_rfl) ?_
            repeat (go_big_quiet_step ((go_at_call 87; exact later_of (LN1.out _ (Later.h _)))))
            refine wpQuiet_nil ?_
            rintro wq ⟨⟨_, hbq⟩, rfl⟩
            have hBq := hwi.trans (hbq.mono hwi.size)
            have HRq := Lib.hid (own_below hown.out hbq)
            have hsq := hBq.size
            clear F0 F1 F2
            have hOo := hO.out.out
            rw [← hm2.out] at hOo
            have HOo := Lib.hid (own_below hOo hBq)
            have hXq := X.next hBq
            have hsx : w.heap.size + 1 ≤ wq.heap.size := hXq.lt
            have hrow : Hid (OwnI 2 wq wo.heap.size wq.heap.size (some ⟨g3, 0, none⟩) c3 (rg gz j t)) := OwnI.of_own (by rw [rg_len]; exact HRq.out)
            have HBq := Lib.hid hBq
            clear hOo hbq hBq hown hwi HRq
            go_wp2_with (at_builtin; refine wpList_append_blk _ rfl _ _ 25 rfl (w.heap.size + 1) 31 (.slice none 0 0) 24 Try.underlying25 info_intsM rfl _ m2 vs rfl HOo.out (.slice (some ⟨g3, 0, none⟩) (t + 1) c3) rfl rfl (by omega) (by omega) hsx ?_)
            intro v6 w6 o6 g6 n6
            obtain ⟨a6, c6, rfl, _, _⟩ := own_shape o6
            have HM6 : Hid (m2 + 1 = (tf (j + 1)).length) := by rw [Hid, HYes.out j _ hyes.out, List.length_append, ← hm2.out]; rfl
            have HN6 : Hid (OwnRows 2 31 w6 (w.heap.size + 1) w6.heap.size (.slice a6 (tf (j + 1)).length c6) (vs ++ [.slice (some ⟨g3, 0, none⟩) (rg gz j t).length c3]) (tf (j + 1))) := by
              rw [← HM6.out, HYes.out j _ hyes.out]
              have hOO := hO.out
              rw [← hm2.out] at hOO
              exact OwnRows.snoc (w := wq) hOO HBq.out (r0 := wo.heap.size) hxl (Nat.le_refl _) hrow.out (Nat.le_refl _) (by rw [rg_len, ← hm2.out]; exact o6) g6 n6
            have X6 := hXq.far (below_row HOo.out g6 hsx) (Nat.le_refl _)
            clear o6 g6 n6 HOo hrow HBq hXq hO
            go_wp2_with fail
            go_roundw
            case rel => exact ⟨j + 1, a6, c6, m2 + 1, _, by omega, by go_num, rfl, HM6, HN6, X6⟩
            case measure => simp [intOf]; omega
          · have hne : ((j : Int) == (i : Int)) = false := by rw [beq_eq_false_iff_ne]; omega
            have hjl : ¬ ((j : Int) ≤ (i : Int)) := by omega
            cases hcn : containsI (rg gz i t) j with
            | true =>
              have hnone := Hseen.out (by omega) (containsI_iff.1 hcn)
              clear Hlow Hhit Hseen Hstep H0
              go_wp2_with fail
              refine wp_region_later (by kernel_rfl) (by kernel_rfl) ?_
              repeat (go_big_quiet_step ((go_at_call 87; exact later_of (LN1.out _ (Later.h _)))))
              refine wpQuiet_nil ?_
              rintro wq ⟨⟨_, hbq⟩, rfl⟩
              have hBq := hwi.trans (hbq.mono hwi.size)
              have HRq := Lib.hid (own_below hown.out hbq)
              have hsq := hBq.size
              clear F0 F1 F2
              have LCn := Lib.hid (contains_any wq (some ⟨g3, 0, none⟩) c3 (rg gz i t) j (rd_of_own HRq.out (Nat.le_refl _)) (by rw [rg_len]; omega))
              rw [rg_len, hcn] at LCn
              obtain ⟨e1, e2, e3⟩ := HN2.out hnone wq hBq
              have E1 := Lib.hid e1
              have E2 := Lib.hid e2
              clear HN2 e1 e2 hbq hBq hown hwi HRq
              go_wp2_with fail
              refine LCn.out.mono ?_
              rintro e w5 ⟨rfl, rfl⟩
              go_wp2_with fail
              go_roundw
              case rel => exact ⟨i + 1, a2, c2, m2, vs, by omega, by go_num, rfl, E1, E2, e3⟩
              case measure => simp [intOf]; omega
            | false =>
              have hon2 := Lib.hid (Hstep.out j rfl hjn hji (fun hm => by rw [containsI_iff.2 hm] at hcn; cases hcn))
              clear Hlow Hhit Hseen Hstep H0 HN2
              go_wp2_with fail
              refine wp_region_later (by kernel_rfl) (by kernel_rfl) ?_
              repeat (go_big_quiet_step ((go_at_call 87; exact later_of (LN1.out _ (Later.h _)))))
              refine wpQuiet_nil ?_
              rintro wq ⟨⟨_, hbq⟩, rfl⟩
              have hBq := hwi.trans (hbq.mono hwi.size)
              have HRq := Lib.hid (own_below hown.out hbq)
              have hsq := hBq.size
              clear F0 F1 F2
              have LCn := Lib.hid (contains_any wq (some ⟨g3, 0, none⟩) c3 (rg gz i t) j (rd_of_own HRq.out (Nat.le_refl _)) (by rw [rg_len]; omega))
              rw [rg_len, hcn] at LCn
              clear hbq hown hwi
              go_wp2_with fail
              refine LCn.out.mono ?_
              rintro e w5 ⟨rfl, rfl⟩
              go_wp2_with (at_builtin; refine wpList_append_one _ rfl _ _ 31 rfl wo.heap.size 2 (.int .i64 0) 8 Try.underlying31 info_i64p rfl _ (t + 1) _ rfl HRq.out (.int .i64 j) rfl rfl (by omega) (by omega) hsq ?_)
              intro v' w6 ho hgr
              have B6 := hBq.trans (below_row HRq.out hgr hsq)
              obtain ⟨a6, c6, rfl, _, _⟩ := own_shape ho
              have HO6 : Hid (w6.ownsRow wo.heap.size 2 1 (.slice a6 (t + 1 + 1) c6) (t + 1 + 1) (ints (rg gz i (t + 1)))) := by rw [Hsucc.out, ints_append]; exact ho
              clear ho hgr hBq HRq
              go_wp2_with fail
              go_roundw
              case rel => exact ⟨t + 1, c6, a6, rfl, rfl, hon2, HO6, B6⟩
              case measure => simp [sliceLen]; omega
    · have : i = x0.length := by omega
      subst this
      have hb := X.1
      have HR : Hid (m2 = tt.length ∧ OwnLL 2 31 wr w.heap.size wr.heap.size a2 c2 tt) := by
        have h1 := hm2.out
        have h2 := hO.out
        rw [HAll.out] at h1 h2
        exact ⟨h1, (show OwnLL 2 31 wr (w.heap.size + 1) wr.heap.size a2 c2 tt from ⟨vs, h2⟩).mono (by omega) (Nat.le_refl _)⟩
      clear hm2 hO
      go_wp2_with fail
      go_ret
      exact ⟨a2, c2, by rw [HR.out.1]; rfl, HR.out.2, hb⟩
end Go.Proofs.Ytchfibmndcfpiaa
namespace Go.Proofs.Ytchfibmndcfpiaa
set_option linter.unusedVariables false
set_option linter.unusedSimpArgs false
open Go.RowKit

set_option maxRecDepth 10000 in
set_option maxHeartbeats 8000000 in
theorem l05Next_any (w : World) (bb oo : Nat) (a0 : Option Addr) (c0 : Nat) (x0 : List (List Int)) (a1 : Option Addr) (c1 : Nat) (x1 : List (List Int)) (d0 : w.cell? ⟨bb, oo, none⟩ = some (.slice a0 x0.length c0)) (d1 : w.cell? ⟨bb, oo + 1, none⟩ = some (.slice a1 x1.length c1)) (hbl : bb < w.heap.size)
    (h : RdWishes w w.heap.size a0 x0 a1 x1) (hv : Wish ⟨x0, x1⟩) (hin0 : ∀ y ∈ x0, y.length ≤ 1048576) (hin1 : ∀ y ∈ x1, y.length ≤ 1048576) (a : Option Addr) (c : Nat) (m : List Int) (g : Rd w w.heap.size a (ints m)) (hm : Mat ⟨x0, x1⟩ m) (a4 : Option Addr) (c4 : Nat) (rb : Rd w w.heap.size a4 (ints (backL m m.length))) (i : Nat) (hi : i < x0.length) :
    Calls Try.prog 89 #[.pointer (some ⟨bb, oo, none⟩), .slice a m.length c, .slice a4 m.length c4, .int .i64 i] w fun e w' => e = .returned (.int .i64 (nextF ⟨x0, x1⟩ m i)) ∧ Below w.heap.size w w' := by
  have hml := hm.len
  have hln := Lib.hid hv.len
  simp only at hml hln
  obtain ⟨b4, o4, x, e4, hb4, d4, hx4⟩ := g.get (k := i) (by omega)
  obtain ⟨b2, o2, ys, a2, c2, e2, hb2, d2, hcap2, hr2, hy2⟩ := h.1.get hi
  have i0 : (0 : Int) ≤ (i : Int) := Int.natCast_nonneg _
  have i1 : (i : Int) < (x0.length : Int) := by omega
  have i2 : (i : Int) < (m.length : Int) := by omega
  have hgd := getD_of_get hx4.out
  have HmL : Hid (m.length = x0.length) := hml
  by_cases hx0 : x < 0
  · have HF : Hid (nextF ⟨x0, x1⟩ m i = -1) := next_nobody (by rw [hgd]; exact hx0)
    subst e4
    clear h g hm hv hin0 hin1 e2 hr2 hgd hml rb d0 d1
    go_enter Try.func89, Try.ntmps89
    go_wp2_with fail
    go_ret
    exact ⟨ret_int HF.out.symm, Below.refl _ _⟩
  · have hrow := row_get hy2.out
    have hyl := hin0 ys (List.mem_of_getElem? hy2.out)
    obtain ⟨y, rfl, hyn, hin⟩ : ∃ y : Nat, x = y ∧ y < x0.length ∧ containsI ys y = true := by
      rcases hm.val i (by omega) with h1 | ⟨y, h1, h2, h3⟩
      · rw [hgd] at h1; omega
      · rw [hgd] at h1
        simp only [pairB, Bool.and_eq_true, hrow] at h3
        exact ⟨y, h1, h2, h3.1⟩
    obtain ⟨p, hp⟩ : ∃ p : Nat, placeI ys y = p := ⟨(placeI ys y).toNat, by have := (placeI_bd ys y).1; omega⟩
    have hpl : p < ys.length := by have := placeI_in hin; omega
    have LPl := Lib.hid (l05Place_any w a2 c2 ys y hr2 hyl)
    rw [hp] at LPl
    have h00 : ¬ m.getD i 0 < 0 := by rw [hgd]; exact hx0
    have hpt : (placeI (row x0 i) (m.getD i 0)).toNat = p := by rw [hrow, hgd, hp]; simp
    have HV : Hid (∀ (t : Nat) (z : Int), ys[t]? = some z → ∃ k : Nat, z = k ∧ k < x0.length) := fun t z hz => by
      obtain ⟨z0, z1⟩ := (hv.left ys (List.mem_of_getElem? hy2.out)).1 z (List.mem_of_getElem? hz)
      simp only at z1
      exact ⟨z.toNat, by omega, by omega⟩
    have Hhit : Hid (∀ (t k : Nat), (ys.drop (p + 1))[t]? = some (k : Int) → nextB ⟨x0, x1⟩ m i k = true → (∀ (j : Nat) (z : Int), j < t → (ys.drop (p + 1))[j]? = some z → nextB ⟨x0, x1⟩ m i z = false) → nextF ⟨x0, x1⟩ m i = backF m k) := fun t k h1 h2 h3 => by
      have := next_hit (w := ⟨x0, x1⟩) (i := i) (k := t) (b := (k : Int)) h00 (by simp only; rw [hpt, hrow]; exact h1) h2 (by simp only; rw [hpt, hrow]; exact h3)
      rw [this]; rfl
    have Hmiss : Hid ((∀ (j : Nat) (z : Int), j < (ys.drop (p + 1)).length → (ys.drop (p + 1))[j]? = some z → nextB ⟨x0, x1⟩ m i z = false) → nextF ⟨x0, x1⟩ m i = -1) := fun h3 =>
      next_miss (w := ⟨x0, x1⟩) (i := i) h00 (by simp only; rw [hpt, hrow]; exact h3)
    have HT : Hid (∀ (k : Nat) (zs : List Int), x1[k]? = some zs → nextB ⟨x0, x1⟩ m i k = (containsI zs i && dearB zs i (backF m k))) := fun k zs hz => by
      unfold nextB
      simp only [Int.toNat_natCast, row_get hz]
    have HBL : Hid (∀ k, k < m.length → (backL m m.length)[k]? = some (backF m k)) := fun k hk => backL_get hk
    have LTk := Lib.hid (fun w' a c zs x => l05Takes_any w' a c zs x)
    have LD := Lib.hid (fun w' a c ys x y => l05Dearer_any w' a c ys x y)
    have HR1 := Lib.hid h.2
    have Hin1 := Lib.hid hin1
    have HRY := Lib.hid hr2
    have HRB := Lib.hid rb
    obtain ⟨b5, o5, _, e5, hb5, _⟩ := hr2.get (k := 0) (by omega)
    obtain ⟨b6, o6, _, e6, hb6, _⟩ := rb.get (k := 0) (by simp [backL]; omega)
    have HBLl : Hid ((backL m m.length).length = m.length) := by simp [backL, Hid]
    subst e4 e2 e5 e6
    have Hdl : Hid ((ys.drop (p + 1)).length = ys.length - (p + 1)) := by simp [Hid]
    generalize hnf : nextF ⟨x0, x1⟩ m i = nf at *
    generalize hbk : backL m m.length = bk at *
    clear h g hm hv hin0 hin1 hgd hml hrow h00 hpt hnf hin hp hr2 rb hbk
    go_enter Try.func89, Try.ntmps89
    go_wp2_with fail
    refine LPl.out.mono ?_
    rintro e w1 ⟨rfl, rfl⟩
    clear d4 d2
    go_wp2_with fail
    go_loopw [10] (fun tv wr => ∃ t : Nat, p + 1 ≤ t ∧ t ≤ ys.length ∧ tv = .int .i64 t ∧ Hid (∀ (j : Nat) (z : Int), j < t - (p + 1) → (ys.drop (p + 1))[j]? = some z → nextB ⟨x0, x1⟩ m i z = false) ∧ Below w.heap.size w wr) (fun tv _ => ys.length - (intOf tv).toNat)
    case atStart => exact ⟨p + 1, Nat.le_refl _, hpl, by go_num, fun _ _ h => by omega, Below.refl _ _⟩
    case round =>
      obtain ⟨t, ht0, ht, rfl, hbef, hw⟩ := hrel
      by_cases hlt : t < ys.length
      · obtain ⟨b7, o7, z, e7, hb7, hc7, hz7⟩ := (HRY.out.to hw).get (k := t) hlt
        injection e7 with e7
        injection e7 with e71 e72
        subst e71 e72
        have hzd : (ys.drop (p + 1))[t - (p + 1)]? = some z := by rw [drop_get, show p + 1 + (t - (p + 1)) = t by omega]; exact hz7.out
        obtain ⟨k, rfl, hkn⟩ := HV.out t z hz7.out
        obtain ⟨b3, o3, zs, a3, c3, e3, hb3, hc3, _, hr3, hy3⟩ := (HR1.out).get (k := k) (by rw [hln.out]; exact hkn)
        obtain ⟨b8, o8, ix, e8, hb8, hc8, hx8⟩ := (HRB.out).get (k := k) (by rw [HBLl.out, HmL.out]; exact hkn)
        injection e8 with e8
        injection e8 with e81 e82
        subst e3 e81 e82
        have eix : ix = backF m k := by
          have := hx8.out
          rw [HBL.out k (by rw [HmL.out]; exact hkn)] at this
          injection this with this
          exact this.symm
        have htest := HT.out k zs hy3.out
        rw [← eix] at htest
        have hzl := Hin1.out zs (List.mem_of_getElem? hy3.out)
        have LT1 : Hid (∀ w', Below wr.heap.size wr w' → _) := fun w' hb => LTk.out w' a3 c3 zs i (hr3.to (hw.trans (hb.mono hw.size))) hzl
        have LD1 : Hid (∀ w', Below wr.heap.size wr w' → _) := fun w' hb => LD.out w' a3 c3 zs i ix (hr3.to (hw.trans (hb.mono hw.size))) hzl
        have HH := Lib.hid (Hhit.out (t - (p + 1)) k hzd)
        rw [← eix] at HH
        have HStep : Hid (nextB ⟨x0, x1⟩ m i k = false → ∀ (j : Nat) (z : Int), j < t + 1 - (p + 1) → (ys.drop (p + 1))[j]? = some z → nextB ⟨x0, x1⟩ m i z = false) := fun hf j z hj hz => by
          by_cases e : j = t - (p + 1)
          · subst e
            rw [hzd] at hz
            injection hz with hz
            subst hz
            exact hf
          · exact hbef.out j z (by omega) hz
        have hs := hw.size
        have k0 : (0 : Int) ≤ (k : Int) := Int.natCast_nonneg _
        have k1 : (k : Int) < (x1.length : Int) := by rw [hln.out]; omega
        have k2 : (k : Int) < (m.length : Int) := by rw [HmL.out]; omega
        have t0 : (0 : Int) ≤ (t : Int) := Int.natCast_nonneg _
        have t1 : (t : Int) < (ys.length : Int) := by omega
        have F1 : ∀ z : Later wr, z.w'.cell? ⟨bb, oo + 1, none⟩ = some (.slice (some ⟨b3, o3, none⟩) x1.length c1) := fun z => z.cell (by simp only; omega) ((hw.cell (p := ⟨bb, oo + 1, none⟩) hbl).trans d1)
        have F3 : ∀ z : Later wr, z.w'.cell? ⟨b3, o3 + k, none⟩ = some (.slice a3 zs.length c3) := fun z => z.cell (by simp only; omega) ((hw.cell (p := ⟨b3, o3 + k, none⟩) hb3).trans hc3)
        have F5 : ∀ z : Later wr, z.w'.cell? ⟨b6, o6 + k, none⟩ = some (.int .i64 ix) := fun z => z.cell (by simp only; omega) ((hw.cell (p := ⟨b6, o6 + k, none⟩) hb6).trans hc8)
        have D5 : Hid (∀ w', Below wr.heap.size wr w' → w'.cell? ⟨b6, o6 + k, none⟩ = some (.int .i64 ix)) := fun w' hb => Later.cell ⟨w', hb⟩ (by simp only; omega) ((hw.cell (p := ⟨b6, o6 + k, none⟩) hb6).trans hc8)
        generalize hnb : nextB ⟨x0, x1⟩ m i (k : Int) = nb at *
        clear hnb hzd hz7 hc3 hr3 hy3 eix hx8 hc8 hs
        cases q1 : containsI zs i with
        | false =>
          rw [q1] at LT1
          rw [q1, Bool.false_and] at htest
          have HS2 := Lib.hid (HStep.out htest)
          clear HH HStep htest
          go_wp2_with fail
          refine wp_region_later (by kernel_rfl) (by kernel_rfl) ?_
          repeat (go_big_quiet_step ((go_at_call 90; exact later_same (LT1.out _ (Later.h _)))))
          refine wpQuiet_nil ?_
          rintro wq ⟨⟨_, hbq⟩, rfl⟩
          have hwq := hw.trans (hbq.mono hw.size)
          clear F1 F3 F5 hc7 hbq hw
          go_wp2_with fail
          go_roundw
          case rel => exact ⟨t + 1, by omega, by omega, by go_num, HS2, hwq⟩
          case measure => simp [intOf]; omega
        | true =>
          rw [q1] at LT1
          rw [q1, Bool.true_and] at htest
          cases q2 : dearB zs i ix with
          | false =>
            rw [q2] at LD1 htest
            have HS2 := Lib.hid (HStep.out htest)
            clear HH HStep htest
            go_wp2_with fail
            refine wp_region_later (by kernel_rfl) (by kernel_rfl) ?_
            repeat (go_big_quiet_step (first | (go_at_call 90; exact later_same (LT1.out _ (Later.h _))) | (go_at_call 66; exact later_same (LD1.out _ (Later.h _)))))
            refine wpQuiet_nil ?_
            rintro wq ⟨⟨_, hbq⟩, rfl⟩
            have hwq := hw.trans (hbq.mono hw.size)
            clear F1 F3 F5 hc7 hbq hw
            go_wp2_with fail
            go_roundw
            case rel => exact ⟨t + 1, by omega, by omega, by go_num, HS2, hwq⟩
            case measure => simp [intOf]; omega
          | true =>
            rw [q2] at LD1 htest
            have HR : Hid (nf = ix) := HH.out htest hbef.out
            clear HH HStep htest
            go_wp2_with fail
            refine wp_region_later (by kernel_rfl) (by kernel_rfl) ?_
            repeat (go_big_quiet_step (first | (go_at_call 90; exact later_same (LT1.out _ (Later.h _))) | (go_at_call 66; exact later_same (LD1.out _ (Later.h _)))))
            refine wpQuiet_nil ?_
            rintro wq ⟨⟨_, hbq⟩, rfl⟩
            have hwq := hw.trans (hbq.mono hw.size)
            have d5 := D5.out _ hbq
            clear F1 F3 F5 hc7 hbq hw
            go_wp2_with fail
            go_ret
            exact ⟨ret_int HR.out.symm, hwq⟩
      · have : t = ys.length := by omega
        subst this
        have HR : Hid (nf = -1) := Hmiss.out (by rw [Hdl.out]; exact hbef.out)
        clear hbef
        go_wp2_with fail
        go_ret
        exact ⟨ret_int HR.out.symm, hw⟩
end Go.Proofs.Ytchfibmndcfpiaa
namespace Go.Proofs.Ytchfibmndcfpiaa
set_option linter.unusedVariables false
set_option linter.unusedSimpArgs false
open Go.RowKit

set_option maxRecDepth 10000 in
set_option maxHeartbeats 8000000 in
theorem l05Turns_any (w : World) (bb oo : Nat) (a0 : Option Addr) (c0 : Nat) (x0 : List (List Int)) (a1 : Option Addr) (c1 : Nat) (x1 : List (List Int)) (d0 : w.cell? ⟨bb, oo, none⟩ = some (.slice a0 x0.length c0)) (d1 : w.cell? ⟨bb, oo + 1, none⟩ = some (.slice a1 x1.length c1)) (hbl : bb < w.heap.size)
    (h : RdWishes w w.heap.size a0 x0 a1 x1) (hv : Wish ⟨x0, x1⟩) (hin0 : ∀ y ∈ x0, y.length ≤ 1048576) (hin1 : ∀ y ∈ x1, y.length ≤ 1048576) (a : Option Addr) (c : Nat) (m : List Int) (g : Rd w w.heap.size a (ints m)) (hm : Mat ⟨x0, x1⟩ m) :
    Calls Try.prog 47 #[.pointer (some ⟨bb, oo, none⟩), .slice a m.length c] w fun e w' => ∃ a' c', e = .returned (.slice a' (turnsF ⟨x0, x1⟩ m).length c') ∧ OwnLL 2 31 w' w.heap.size w'.heap.size a' c' (turnsF ⟨x0, x1⟩ m) ∧ Below w.heap.size w w' := by
  have h8 := hv.n8
  have h1 := hv.n1
  have hml := hm.len
  simp only at h8 h1 hml
  have LB := Lib.hid (l05Back_any w ⟨x0, x1⟩ a c m g hm (by omega) (by omega))
  have LN : Hid (∀ (w' : World) (a4 : Option Addr) (c4 : Nat) (i : Nat), Below w.heap.size w w' → Rd w' w'.heap.size a4 (ints (backL m m.length)) → i < m.length → _) := fun w' a4 c4 i hb rb hi => l05Next_any w' bb oo a0 c0 x0 a1 c1 x1 ((hb.cell (p := ⟨bb, oo, none⟩) hbl).trans d0) ((hb.cell (p := ⟨bb, oo + 1, none⟩) hbl).trans d1) (Nat.lt_of_lt_of_le hbl hb.size) (h.to hb) hv hin0 hin1 a c m (g.to hb) hm a4 c4 rb i (by omega)
  have HV : Hid (∀ i : Nat, i < m.length → nextF ⟨x0, x1⟩ m i = -1 ∨ ∃ j : Nat, nextF ⟨x0, x1⟩ m i = j ∧ j < m.length ∧ j ≠ i) := fun i hi => (nextF_spec hv hm (show i < x0.length by omega)).imp id fun ⟨j, _, h1, h2, h3, _⟩ => ⟨j, h1, by have h2' : j < x0.length := h2; omega, h3⟩
  have HIt : Hid (∀ i t y : Nat, itZ (nextZ ⟨x0, x1⟩ m) i t = y → itZ (nextZ ⟨x0, x1⟩ m) i (t + 1) = nextF ⟨x0, x1⟩ m y) := fun i t y he => itZ_next he
  have HIt0 : Hid (∀ i : Nat, itZ (nextZ ⟨x0, x1⟩ m) i 1 = nextF ⟨x0, x1⟩ m i) := fun i => itZ_next (t := 0) (y := i) rfl
  have HNo : Hid (∀ i : Nat, ringF (nextZ ⟨x0, x1⟩ m) i x0.length = none → TF ⟨x0, x1⟩ m (i + 1) = TF ⟨x0, x1⟩ m i) := fun i hh => TF_none hh
  have HYes : Hid (∀ (i : Nat) (r : List Int), ringF (nextZ ⟨x0, x1⟩ m) i x0.length = some r → TF ⟨x0, x1⟩ m (i + 1) = TF ⟨x0, x1⟩ m i ++ [r]) := fun i r hh => TF_some hh
  have HAll : Hid (TF ⟨x0, x1⟩ m m.length = turnsF ⟨x0, x1⟩ m) := by rw [Hid, hml]; rfl
  have HLen := Lib.hid (TF_len ⟨x0, x1⟩ m)
  have HZ : Hid (TF ⟨x0, x1⟩ m 0 = []) := rfl
  have Hhit : Hid (∀ i t : Nat, t ≤ m.length → itZ (nextZ ⟨x0, x1⟩ m) i (t + 1) = i → (∀ s, s < t → (i : Int) < itZ (nextZ ⟨x0, x1⟩ m) i (s + 1)) → ringF (nextZ ⟨x0, x1⟩ m) i x0.length = some (rg (nextZ ⟨x0, x1⟩ m) i t)) := fun i t ht he hb => by
    rw [ringF_hit (t := t) (by omega) (by omega) hb, if_pos he]; rfl
  have Hlow : Hid (∀ i t : Nat, t ≤ m.length → itZ (nextZ ⟨x0, x1⟩ m) i (t + 1) < i → (∀ s, s < t → (i : Int) < itZ (nextZ ⟨x0, x1⟩ m) i (s + 1)) → ringF (nextZ ⟨x0, x1⟩ m) i x0.length = none) := fun i t ht he hb => by
    rw [ringF_hit (t := t) (by omega) (by omega) hb, if_neg (by omega)]
  have Hnev : Hid (∀ i : Nat, (∀ s, s ≤ m.length → (i : Int) < itZ (nextZ ⟨x0, x1⟩ m) i (s + 1)) → ringF (nextZ ⟨x0, x1⟩ m) i x0.length = none) := fun i hb => ringF_none fun s hs => hb s (by omega)
  obtain ⟨n, hn⟩ : ∃ n, n = m.length := ⟨_, rfl⟩
  rw [← hn] at LB LN HV HAll Hhit Hlow Hnev hml ⊢
  have hn8 : n ≤ 8 := by omega
  generalize hgz : nextZ ⟨x0, x1⟩ m = gz at *
  generalize hnf : nextF ⟨x0, x1⟩ m = nf at *
  generalize htf : TF ⟨x0, x1⟩ m = tf at *
  generalize htt : turnsF ⟨x0, x1⟩ m = tt at *
  generalize hbk : backL m n = bk at *
  generalize hrf : (fun i : Nat => ringF gz (i : Int) x0.length) = rf at *
  have hrf' : ∀ i : Nat, ringF gz (i : Int) x0.length = rf i := fun i => by rw [← hrf]
  simp only [hrf'] at HNo HYes Hhit Hlow Hnev
  clear h g hv hm hin0 hin1 hgz hnf htf htt hbk hrf hrf' hml hn h8 h1 d0 d1
  go_enter Try.func47, Try.ntmps47
  go_wp2_with fail
  refine LB.out.mono ?_
  rintro e w1 ⟨ab, cb, rfl, ob, hb1⟩
  have hs1 := hb1.size
  have HB1 := Lib.hid hb1
  have RB := Lib.hid ob.rd
  have hO0 := OwnRows.start (T := 2) (own_empty w1 31)
  have hB1 := bl1 w1 (.cells #[] 31)
  have HO0 := Lib.hid hO0
  clear hb1 ob LB hO0
  go_wp2_with fail
  go_loopw [7, 6] (fun iv v wr => ∃ (i : Nat) (a2 : Option Addr) (c2 m2 : Nat) (vs : List Value), i ≤ n ∧ iv = .int .i64 i ∧ v = .slice a2 m2 c2 ∧ Hid (m2 = (tf i).length) ∧ Hid (OwnRows 2 31 wr w1.heap.size wr.heap.size (.slice a2 (tf i).length c2) vs (tf i)) ∧ Below w1.heap.size w1 wr) (fun iv _ _ => n - (intOf iv).toNat)
  case atStart => exact ⟨0, some ⟨w1.heap.size, 0, none⟩, 0, 0, [], Nat.zero_le _, rfl, rfl, by rw [HZ.out]; rfl, by rw [HZ.out]; exact HO0.out, hB1⟩
  case round =>
    clear HO0 hB1
    obtain ⟨i, a2, c2, m2, vs, hi, rfl, rfl, hm2, hO, hw1⟩ := hrel
    by_cases hlt : i < n
    · obtain ⟨wo, hwo⟩ : ∃ W : World, W = wr := ⟨_, rfl⟩
      subst hwo
      have hR0 : Hid ((wo.alloc (.cells #[.int .i64 i] 2)).ownsRow wo.heap.size 2 1 (.slice (some ⟨wo.heap.size, 0, none⟩) 1 1) 1 (ints (rg gz i 0))) := (Blk.new wo [.int .i64 i] 2).owns (Nat.le_refl _) (by simp [maxLen])
      have hB0 := bl1 wo (.cells #[.int .i64 i] 2)
      have hm8 : m2 ≤ 8 := by rw [hm2.out]; have := HLen.out i; omega
      have hs0 := hw1.size
      have LNx : Hid (∀ (w' : World) (y : Nat), Below w1.heap.size w1 w' → y < n → _) := fun w' y hb hy => LN.out w' ab cb y (HB1.out.trans (hb.mono hs1)) (RB.out.to hb) hy
      have LN0 := Lib.hid (LNx.out _ i (hw1.trans (hB0.mono hs0)) hlt)
      go_wp2_with fail
      refine LN0.out.mono ?_
      rintro e w2 ⟨rfl, hb2⟩
      have HR2 := Lib.hid (own_below hR0.out hb2)
      have hB2 := below_then hB0 hb2
      have hz0 := Lib.hid (HIt0.out i)
      have hv0 := Lib.hid (HV.out i hlt)
      clear hb2 hR0 hB0 LN0
      go_wp2_with fail
      go_loopw [8, 9] (fun v zv wr => ∃ (t c3 : Nat) (a3 : Option Addr) (z : Int), v = .slice a3 (t + 1) c3 ∧ zv = .int .i64 z ∧ t ≤ n ∧ Hid (itZ gz i (t + 1) = z) ∧ Hid (z = -1 ∨ ∃ j : Nat, z = j ∧ j < n) ∧ Hid (∀ s, s < t → (i : Int) < itZ gz i (s + 1)) ∧ Hid (wr.ownsRow wo.heap.size 2 1 (.slice a3 (t + 1) c3) (t + 1) (ints (rg gz i t))) ∧ Below wo.heap.size wo wr) (fun v _ _ => n + 2 - sliceLen v)
      case atStart => exact ⟨0, 1, _, _, rfl, rfl, Nat.zero_le _, hz0.out, hv0.out.imp id (fun ⟨j, h1, h2, _⟩ => ⟨j, h1, h2⟩), fun s hs => by omega, HR2.out, hB2⟩
      case round =>
        clear HR2 hB2 hz0 hv0
        obtain ⟨t, c3, a3, z, rfl, rfl, htn, hz, hzv, hgt, hown, hwi⟩ := hrel
        have hsi := hwi.size
        have HN2 : Hid (rf i = none → (m2 = (tf (i + 1)).length) ∧ OwnRows 2 31 wr w1.heap.size wr.heap.size (.slice a2 (tf (i + 1)).length c2) vs (tf (i + 1)) ∧ Below w1.heap.size w1 wr) := fun hh => by
          rw [HNo.out i hh]
          exact ⟨hm2.out, (hO.out.keep hwi).up hwi.size, hw1.trans (hwi.mono hs0)⟩
        by_cases hzi : (i : Int) < z
        · have hl3 : ((t + 1 : Nat) : Int) ≤ (n : Int) ∨ ¬ ((t + 1 : Nat) : Int) ≤ (n : Int) := Classical.em _
          by_cases hlt2 : t + 1 ≤ n
          · obtain ⟨j, rfl, hjn⟩ : ∃ j : Nat, z = j ∧ j < n := by
              rcases hzv.out with h | h
              · omega
              · exact h
            have LNj := Lib.hid (fun w' hb => LNx.out w' j hb hjn)
            have hz2 := Lib.hid (HIt.out i (t + 1) j hz.out)
            have hv2 := Lib.hid (HV.out j hjn)
            have hgt2 : Hid (∀ s, s < t + 1 → (i : Int) < itZ gz i (s + 1)) := fun s hs => by
              by_cases e : s = t
              · subst e; rw [hz.out]; exact hzi
              · exact hgt.out s (by omega)
            have Hsucc : Hid (rg gz i (t + 1) = rg gz i t ++ [(j : Int)]) := by rw [Hid, rg_succ, hz.out]
            clear hz hzv hgt HN2 hl3
            go_wp2_with (at_builtin; refine wpList_append_one _ rfl _ _ 31 rfl wo.heap.size 2 (.int .i64 0) 8 Try.underlying31 info_i64p rfl _ (t + 1) _ rfl hown.out (.int .i64 j) rfl rfl (by omega) (by omega) hsi ?_)
            intro v' w6 ho hgr
            have B6 := hwi.trans (below_row hown.out hgr hsi)
            obtain ⟨a6, c6, rfl, _, _⟩ := own_shape ho
            have HO6 : Hid (w6.ownsRow wo.heap.size 2 1 (.slice a6 (t + 1 + 1) c6) (t + 1 + 1) (ints (rg gz i (t + 1)))) := by rw [Hsucc.out, ints_append]; exact ho
            have LNj1 := Lib.hid (LNj.out w6 (hw1.trans (B6.mono hs0)))
            clear ho hgr hown hwi LNj
            go_wp2_with fail
            refine LNj1.out.mono ?_
            rintro e w7 ⟨rfl, hb7⟩
            have HO7 := Lib.hid (own_below HO6.out hb7)
            have B7 := B6.trans (hb7.mono B6.size)
            clear hb7 HO6 B6 LNj1
            go_wp2_with fail
            go_roundw
            case rel => exact ⟨t + 1, c6, a6, _, rfl, rfl, hlt2, hz2, hv2.out.imp id (fun ⟨j, h1, h2, _⟩ => ⟨j, h1, h2⟩), hgt2, HO7, B7⟩
            case measure => simp [sliceLen]; omega
          · have htn' : t = n := by omega
            have hnone := Hnev.out i (fun s hs => by
              by_cases e : s = t
              · subst e; rw [hz.out]; exact hzi
              · exact hgt.out s (by omega))
            obtain ⟨e1, e2, e3⟩ := HN2.out hnone
            have E1 := Lib.hid e1
            have E2 := Lib.hid e2
            have hne : (z == (i : Int)) = false := by rw [beq_eq_false_iff_ne]; omega
            have hgo : ¬ ((t + 1 : Nat) : Int) ≤ (n : Int) := by omega
            clear HN2 e1 e2 hown hwi hz hzv hgt hl3
            go_wp2_with fail
            go_roundw
            case rel => exact ⟨i + 1, a2, c2, m2, vs, by omega, by go_num, rfl, E1, E2, e3⟩
            case measure => simp [intOf]; omega
        · by_cases hze : z = i
          · have hyes := Lib.hid (Hhit.out i t htn (by rw [hz.out, hze]) hgt.out)
            subst hze
            have hne : ((i : Int) == (i : Int)) = true := by simp
            have hOo := hO.out.out
            rw [← hm2.out] at hOo
            have HOo := Lib.hid (own_below hOo hwi)
            have hwq := hw1.trans (hwi.mono hs0)
            have hsx := hwq.size
            have hrow : Hid (OwnI 2 wr wo.heap.size wr.heap.size a3 c3 (rg gz i t)) := OwnI.of_own (by rw [rg_len]; exact hown.out)
            obtain ⟨g3, rfl⟩ := own_some1 hown.out (by omega)
            have HBq := Lib.hid hwi
            clear hOo hown hwi HN2 hz hzv hgt
            go_wp2_with (at_builtin; refine wpList_append_blk _ rfl _ _ 25 rfl w1.heap.size 31 (.slice none 0 0) 24 Try.underlying25 info_intsM rfl _ m2 vs rfl HOo.out (.slice (some ⟨g3, 0, none⟩) (t + 1) c3) rfl rfl (by omega) (by omega) hsx ?_)
            intro v6 w6 o6 g6 n6
            obtain ⟨a6, c6, rfl, _, _⟩ := own_shape o6
            have HM6 : Hid (m2 + 1 = (tf (i + 1)).length) := by rw [Hid, HYes.out i _ hyes.out, List.length_append, ← hm2.out]; rfl
            have HN6 : Hid (OwnRows 2 31 w6 w1.heap.size w6.heap.size (.slice a6 (tf (i + 1)).length c6) (vs ++ [.slice (some ⟨g3, 0, none⟩) (rg gz i t).length c3]) (tf (i + 1))) := by
              rw [← HM6.out, HYes.out i _ hyes.out]
              have hOO := hO.out
              rw [← hm2.out] at hOO
              exact OwnRows.snoc (w := wr) hOO HBq.out (r0 := wo.heap.size) hs0 (Nat.le_refl _) hrow.out (Nat.le_refl _) (by rw [rg_len, ← hm2.out]; exact o6) g6 n6
            have B6 := hwq.trans (below_row HOo.out g6 hsx)
            clear o6 g6 n6 HOo hrow HBq hwq hO
            go_wp2_with fail
            go_roundw
            case rel => exact ⟨i + 1, a6, c6, m2 + 1, _, by omega, by go_num, rfl, HM6, HN6, B6⟩
            case measure => simp [intOf]; omega
          · have hnone := Hlow.out i t htn (by rw [hz.out]; omega) hgt.out
            obtain ⟨e1, e2, e3⟩ := HN2.out hnone
            have E1 := Lib.hid e1
            have E2 := Lib.hid e2
            have hne : (z == (i : Int)) = false := by rw [beq_eq_false_iff_ne]; exact hze
            clear HN2 e1 e2 hown hwi hz hzv hgt
            go_wp2_with fail
            go_roundw
            case rel => exact ⟨i + 1, a2, c2, m2, vs, by omega, by go_num, rfl, E1, E2, e3⟩
            case measure => simp [intOf]; omega
    · have : i = n := by omega
      subst this
      have hb := HB1.out.trans (hw1.mono hs1)
      have HR : Hid (m2 = tt.length ∧ OwnLL 2 31 wr w.heap.size wr.heap.size a2 c2 tt) := by
        have h1 := hm2.out
        have h2 := hO.out
        rw [HAll.out] at h1 h2
        exact ⟨h1, (show OwnLL 2 31 wr w1.heap.size wr.heap.size a2 c2 tt from ⟨vs, h2⟩).mono hs1 (Nat.le_refl _)⟩
      clear hm2 hO
      go_wp2_with fail
      go_ret
      exact ⟨a2, c2, by rw [HR.out.1]; rfl, HR.out.2, hb⟩
/-- Lists of lists and true, or nil and false. -/
def RetM (T T2 : Nat) (w : World) (r : Option (List (List Int))) (e : Ending) (w' : World) : Prop :=
  Below w.heap.size w w' ∧ match r with
    | none => e = .returned (.tuple #[.slice none 0 0, .bool false])
    | some yss => ∃ a c, e = .returned (.tuple #[.slice a yss.length c, .bool true]) ∧ OwnLL T T2 w' w.heap.size w'.heap.size a c yss
theorem flat_ofM {f : Nat} {args : Array Value} {w : World} {T T2 : Nat} {r : Option (List (List Int))} (h : Calls Try.prog f args w (RetM T T2 w r)) :
    Calls Try.prog f args w fun e w' => ∃ a c, e = .returned (.tuple #[.slice a (r.getD []).length c, .bool r.isSome]) ∧ OwnLL T T2 w' w.heap.size w'.heap.size a c (r.getD []) ∧ Below w.heap.size w w' := by
  refine h.mono fun e w' hR => ?_
  obtain ⟨hb, h2⟩ := hR
  cases r with
  | none => exact ⟨none, 0, h2, OwnLL.nil, hb⟩
  | some yss =>
    obtain ⟨a, c, he, ho⟩ := h2
    exact ⟨a, c, he, ho, hb⟩
theorem turnsOf_no {w : Wi} {m : List Int} (h : (wishB w && stableB w m) = false) : turnsOfF w m = none := by unfold turnsOfF; rw [h]; rfl
theorem turnsOf_yes {w : Wi} {m : List Int} (h : (wishB w && stableB w m) = true) : turnsOfF w m = some (turnsF w m) := by unfold turnsOfF; rw [h]; rfl
set_option maxRecDepth 10000 in
set_option maxHeartbeats 4000000 in
theorem turnsOfR_any (w : World) (a0 : Option Addr) (c0 : Nat) (x0 : List (List Int)) (a1 : Option Addr) (c1 : Nat) (x1 : List (List Int)) (a : Option Addr) (c : Nat) (m : List Int) (h : RdWishes w w.heap.size a0 x0 a1 x1) (hl0 : x0.length ≤ 1048576) (hin0 : ∀ y ∈ x0, y.length ≤ 1048576) (hl1 : x1.length ≤ 1048576) (hin1 : ∀ y ∈ x1, y.length ≤ 1048576)
    (g : Rd w w.heap.size a (ints m)) (hl : m.length ≤ 1048576) (hc : m.length ≤ c) :
    Calls Try.prog 18 #[.agg #[.slice a0 x0.length c0, .slice a1 x1.length c1], .slice a m.length c] w (RetM 2 31 w (turnsOfF ⟨x0, x1⟩ m)) := by
  have hB := bl1 w (.cells #[.slice a0 x0.length c0, .slice a1 x1.length c1] 27)
  have k := Blk.new w [.slice a0 x0.length c0, .slice a1 x1.length c1] 27
  have LS := Lib.hid (l05Stable_any _ w.heap.size 0 a0 c0 x0 a1 c1 x1 (k.cell 0) (k.cell 1) (by simp) a c m (h.to hB) hl0 hin0 hl1 hin1 (g.to hB) hl hc)
  cases t1 : wishB ⟨x0, x1⟩ && stableB ⟨x0, x1⟩ m with
  | false =>
    rw [turnsOf_no t1]
    rw [t1] at LS
    clear h g hin0 hin1 t1 k
    go_enter Try.func18, Try.ntmps18
    go_wp2_with fail
    refine LS.out.mono ?_
    rintro e w1 ⟨rfl, hb1⟩
    have B1 := below_then hB hb1
    clear hb1
    go_wp2_with fail
    go_ret2
    exact ⟨B1, rfl⟩
  | true =>
    rw [turnsOf_yes t1]
    rw [t1] at LS
    rw [Bool.and_eq_true] at t1
    have hv := wish_of t1.1
    have hm := stab_of t1.2
    have KK : Hid (∀ w', Below (w.heap.size + 1) (w.alloc (.cells #[.slice a0 x0.length c0, .slice a1 x1.length c1] 27)) w' → Blk w' w.heap.size [.slice a0 x0.length c0, .slice a1 x1.length c1] 27) := fun w' hb => k.below hb (by omega)
    have LT : Hid (∀ w', Below (w.heap.size + 1) (w.alloc (.cells #[.slice a0 x0.length c0, .slice a1 x1.length c1] 27)) w' → Below w.heap.size w w' → _) := fun w' hb hb' => l05Turns_any w' w.heap.size 0 a0 c0 x0 a1 c1 x1 ((KK.out w' hb).cell 0) ((KK.out w' hb).cell 1) (KK.out w' hb).lt (h.to hb') hv hin0 hin1 a c m (g.to hb') hm
    generalize turnsF ⟨x0, x1⟩ m = tt at *
    clear h g hin0 hin1 t1 k hv hm
    go_enter Try.func18, Try.ntmps18
    go_wp2_with fail
    refine LS.out.mono ?_
    rintro e w1 ⟨rfl, hb1⟩
    have B1 := below_then hB hb1
    have LT1 := Lib.hid (LT.out w1 (by simpa using hb1) B1)
    clear hb1 LT
    go_wp2_with fail
    refine LT1.out.mono ?_
    rintro e w2 ⟨a', c', rfl, o2, hb2⟩
    have B2 := below_then B1 hb2
    have HO := Lib.hid (o2.mono B1.size (Nat.le_refl _))
    clear hb2 o2 LT1 LS
    go_wp2_with fail
    go_ret2
    exact ⟨B2, a', c', rfl, HO.out⟩
set_option maxRecDepth 10000 in
set_option maxHeartbeats 4000000 in
theorem turnsOf_any (w : World) (a0 : Option Addr) (c0 : Nat) (x0 : List (List Int)) (a1 : Option Addr) (c1 : Nat) (x1 : List (List Int)) (a : Option Addr) (c : Nat) (m : List Int) (h : RdWishes w w.heap.size a0 x0 a1 x1) (hl0 : x0.length ≤ 1048576) (hin0 : ∀ y ∈ x0, y.length ≤ 1048576) (hl1 : x1.length ≤ 1048576) (hin1 : ∀ y ∈ x1, y.length ≤ 1048576)
    (g : Rd w w.heap.size a (ints m)) (hl : m.length ≤ 1048576) :
    Calls Try.prog 17 #[.agg #[.slice a0 x0.length c0, .slice a1 x1.length c1], .slice a m.length c] w (RetM 2 31 w (turnsOfF ⟨x0, x1⟩ m)) := by
  have X0 : Bx w (w.alloc (.cells #[.slice a0 x0.length c0, .slice a1 x1.length c1] 27)) [.slice a0 x0.length c0, .slice a1 x1.length c1] 27 := Bx.start w _ _
  have LA := Lib.hid (isMatchI_any _ a0 c0 x0 a1 c1 x1 a c m (h.to X0.1) hl0 hin0 hl1 hin1 (g.to X0.1) hl)
  cases t1 : wishB ⟨x0, x1⟩ && matchB ⟨x0, x1⟩ m with
  | false =>
    rw [turnsOf_no (stab_no t1)]
    rw [t1] at LA
    clear h g hin0 hin1 t1
    go_enter Try.func17, Try.ntmps17
    go_wp2_with fail
    refine LA.out.mono ?_
    rintro e w1 ⟨rfl, hb1⟩
    have X1 := X0.next hb1
    clear hb1
    go_wp2_with fail
    go_ret2
    exact ⟨X1.1, rfl⟩
  | true =>
  have hv := wish_of (Bool.and_eq_true _ _ ▸ t1 : wishB ⟨x0, x1⟩ = true ∧ _).1
  have hm := mat_of (Bool.and_eq_true _ _ ▸ t1 : _ ∧ matchB ⟨x0, x1⟩ m = true).2
  have LC := Lib.hid (fun w' hb => isStableW_any w' a0 c0 x0 a1 c1 x1 (h.to hb) hv hin0 hin1 a c m (g.to hb) hm)
  rw [← stab_two t1] at LC
  rw [t1] at LA
  cases t2 : wishB ⟨x0, x1⟩ && stableB ⟨x0, x1⟩ m with
  | false =>
    rw [turnsOf_no t2]
    rw [t2] at LC
    clear h g hin0 hin1 t1 t2 hv hm
    go_enter Try.func17, Try.ntmps17
    go_wp2_with fail
    refine LA.out.mono ?_
    rintro e w1 ⟨rfl, hb1⟩
    have X1 := X0.next hb1
    obtain ⟨q0, q1⟩ := X1.two
    clear hb1 LA
    go_wp2_with fail
    refine (LC.out _ X1.1).mono ?_
    rintro e w2 ⟨rfl, hb2⟩
    have X2 := X1.next hb2
    clear hb2 q0 q1
    go_wp2_with fail
    go_ret2
    exact ⟨X2.1, rfl⟩
  | true =>
    rw [turnsOf_yes t2]
    rw [t2] at LC
    have LT := Lib.hid (fun w' hb => turnsW_any w' a0 c0 x0 a1 c1 x1 (h.to hb) hv hin0 hin1 a c m (g.to hb) hm)
    generalize turnsF ⟨x0, x1⟩ m = tt at *
    clear h g hin0 hin1 t1 t2 hv hm
    go_enter Try.func17, Try.ntmps17
    go_wp2_with fail
    refine LA.out.mono ?_
    rintro e w1 ⟨rfl, hb1⟩
    have X1 := X0.next hb1
    obtain ⟨q0, q1⟩ := X1.two
    clear hb1 LA
    go_wp2_with fail
    refine (LC.out _ X1.1).mono ?_
    rintro e w2 ⟨rfl, hb2⟩
    have X2 := X1.next hb2
    clear q0 q1
    obtain ⟨q0, q1⟩ := X2.two
    clear hb2 LC
    go_wp2_with fail
    refine (LT.out _ X2.1).mono ?_
    rintro e w3 ⟨a', c', rfl, o3, hb3⟩
    have X3 := X2.next hb3
    have HO := Lib.hid (o3.mono X2.1.size (Nat.le_refl _))
    clear hb3 o3 q0 q1 LT
    go_wp2_with fail
    go_ret2
    exact ⟨X3.1, a', c', rfl, HO.out⟩
end Go.Proofs.Ytchfibmndcfpiaa
namespace Go.Proofs.Ytchfibmndcfpiaa
set_option linter.unusedVariables false
set_option linter.unusedSimpArgs false
open Go.RowKit

set_option maxHeartbeats 1000000 in
theorem slEqual_any (w : World) (a b : Option Addr) (c d : Nat) (xs ys : List Int) (hx : Rd w w.heap.size a (ints xs)) (hy : Rd w w.heap.size b (ints ys)) (hlx : xs.length ≤ 1099511627776) (hly : ys.length ≤ 1099511627776) :
    Calls Try.prog 53 #[.slice a xs.length c, .slice b ys.length d] w fun e w' => e = .returned (.bool (decide (xs = ys))) ∧ ∃ n, w' = w.drewN n := by
  by_cases hlen : xs.length = ys.length
  · have hb1 : ((xs.length : Int) != (ys.length : Int)) = false := by simp [hlen]
    go_enter Try.func53, Try.ntmps53
    go_wp2
    go_loopw [13] (fun i wr => ∃ k n : Nat, k ≤ xs.length ∧ i = .int .i64 k ∧ xs.take k = ys.take k ∧ wr = w.drewN n) (fun i _ => xs.length - (intOf i).toNat)
    case atStart => exact ⟨0, 0, Nat.zero_le _, rfl, rfl, rfl⟩
    case round =>
      obtain ⟨k, n, hk, rfl, htk', rfl⟩ := hrel
      have htk := Lib.hid htk'
      clear htk'
      by_cases hlt : k < xs.length
      · obtain ⟨b1, o1, x, rfl, _, hcx, hx'⟩ := hx.get hlt
        obtain ⟨b2, o2, y, rfl, _, hcy, hy'⟩ := hy.get (k := k) (by omega)
        have hlt2 : k < ys.length := by omega
        clear hx hy
        by_cases hxy : x = y
        · subst hxy
          go_wp2
          go_quiet (fail)
          go_wp2
          go_roundw
          case rel => exact ⟨k + 1, n + nq, by omega, by go_num, (take_eq_succ hx'.out hy'.out htk.out).2 rfl, by first | rfl | exact World.drewN_drewN _ _ _⟩
          case measure => simp [intOf]; omega
        · have hne : (x != y) = true := by simp [hxy]
          go_wp2
          go_quiet (fail)
          go_wp2
          go_ret
          exact ⟨ret_bool (by simp [ne_of_get hx'.out hy'.out hxy]), n + nq, by first | rfl | exact World.drewN_drewN _ _ _⟩
      · have : k = xs.length := by omega
        subst this
        go_wp2
        go_ret
        exact ⟨ret_bool (by have := htk.out; rw [List.take_length, hlen, List.take_length] at this; simp [this]), _, rfl⟩
  · have hb1 : ((xs.length : Int) != (ys.length : Int)) = true := by simp; omega
    have hnn : xs ≠ ys := fun e => hlen (by rw [e])
    go_enter Try.func53, Try.ntmps53
    go_wp2
    go_ret
    exact ⟨ret_bool (by simp [hnn]), 0, rfl⟩
theorem ring_spec {w : Wi} (hw : Wish w) {m : List Int} (hm : Mat w m) {ring : List Int} (hr : ring ∈ turnsF w m) : 1 ≤ ring.length ∧ ring.length ≤ w.L.length + 1 ∧ ∀ s, s < ring.length → ∃ y : Nat, ring.getD s 0 = y ∧ y < w.L.length := by
  unfold turnsF at hr
  obtain ⟨a, ha, hr⟩ := List.mem_filterMap.1 hr
  have ha' := List.mem_range.1 ha
  obtain ⟨t, ht, rfl, hback, hgt⟩ := ringF_mem hr
  have hnat : ∀ s, s ≤ t → ∃ y : Nat, itZ (nextZ w m) a s = y ∧ y < w.L.length := by
    intro s
    induction s with
    | zero => exact fun _ => ⟨a, rfl, ha'⟩
    | succ s ih =>
      intro hs
      obtain ⟨y, hy, hyn⟩ := ih (by omega)
      have hg := hgt s (by omega)
      have hs' := itZ_next hy
      rcases nextF_spec hw hm hyn with h | ⟨j, b, h1, h2, _⟩
      · rw [hs', h] at hg; omega
      · exact ⟨j, by rw [hs', h1], h2⟩
  refine ⟨by simp, by simp; omega, fun s hs => ?_⟩
  have hst : s < t + 1 := by simpa using hs
  obtain ⟨y, hy, hn⟩ := hnat s (by omega)
  exact ⟨y, by rw [← hy]; simp [List.getD, hst], hn⟩
def takeB (yss : List (List Int)) (q : List Int) (k : Nat) : Bool := (yss.take k).any fun ys => decide (ys = q)
theorem takeB_succ {yss : List (List Int)} {q ys : List Int} {k : Nat} (h : yss[k]? = some ys) : takeB yss q (k + 1) = (takeB yss q k || decide (ys = q)) := by
  unfold takeB; rw [List.take_add_one, h]; simp
theorem takeB_all (yss : List (List Int)) (q : List Int) : takeB yss q yss.length = yss.contains q := by
  unfold takeB
  rw [List.take_length, Bool.eq_iff_iff, List.any_eq_true, List.contains_iff_mem]
  constructor
  · rintro ⟨x, hx, e⟩; have := of_decide_eq_true e; subst this; exact hx
  · intro h; exact ⟨q, h, decide_eq_true rfl⟩
theorem takeB_anyI (yss : List (List Int)) (q : List Int) : anyI (fun j => decide (yss.getD j [] = q)) yss.length = yss.contains q := by
  rw [Bool.eq_iff_iff, anyI_iff, List.contains_iff_mem]
  constructor
  · rintro ⟨k, hk, e⟩
    have := of_decide_eq_true e
    rw [← this]
    simp [List.getD, List.getElem?_eq_getElem hk]
  · intro h
    obtain ⟨k, hk, e⟩ := List.getElem_of_mem h
    exact ⟨k, hk, decide_eq_true (by simp [List.getD, List.getElem?_eq_getElem hk, e])⟩
theorem takeTurn_no1 {w : Wi} {m q : List Int} (h : (wishB w && stableB w m) = false) : takeTurnF w m q = none := by unfold takeTurnF; rw [h]; rfl
theorem takeTurn_no2 {w : Wi} {m q : List Int} (h : (turnsF w m).contains q = false) : takeTurnF w m q = none := by unfold takeTurnF; rw [h, Bool.and_false]; rfl
theorem takeTurn_yesT {w : Wi} {m q : List Int} (h : (wishB w && stableB w m) = true) (h2 : (turnsF w m).contains q = true) : takeTurnF w m q = some (takenF m q) := by unfold takeTurnF; rw [h, h2]; rfl
theorem mod_natc (k L : Nat) : ((k : Int) + 1) % (L : Int) = (((k + 1) % L : Nat) : Int) := by
  rw [show ((k : Int) + 1) = ((k + 1 : Nat) : Int) by omega]
  first | exact (Int.natCast_mod _ _).symm | exact (Int.natCast_emod _ _).symm | norm_cast
end Go.Proofs.Ytchfibmndcfpiaa
namespace Go.Proofs.Ytchfibmndcfpiaa
set_option linter.unusedVariables false
set_option linter.unusedSimpArgs false
open Go.RowKit

theorem sameTurn_any (w : World) (g : Nat) (a b : Option Addr) (c d : Nat) (ys q : List Int) (hg : w.cell? ⟨g, 0, none⟩ = some (.slice b q.length d)) (hx : Rd w w.heap.size a (ints ys)) (hy : Rd w w.heap.size b (ints q)) (hlx : ys.length ≤ 1099511627776) (hly : q.length ≤ 1099511627776) :
    Calls Try.prog 52 #[.slice a ys.length c, .pointer (some ⟨g, 0, none⟩)] w fun e w' => e = .returned (.bool (decide (ys = q))) ∧ Below w.heap.size w w' := by
  have L := Lib.hid (slEqual_any w a b c d ys q hx hy hlx hly)
  generalize decide (ys = q) = r at *
  clear hx hy
  go_enter Try.func52, Try.ntmps52
  go_wp2_with fail
  refine L.out.mono ?_
  rintro e w1 ⟨rfl, t, rfl⟩
  go_wp2_with fail
  go_ret
  exact ⟨rfl, below_drewN (Below.refl _ _) t⟩
set_option maxRecDepth 10000 in
set_option maxHeartbeats 8000000 in
theorem takeTurn_any (w : World) (a0 : Option Addr) (c0 : Nat) (x0 : List (List Int)) (a1 : Option Addr) (c1 : Nat) (x1 : List (List Int)) (a : Option Addr) (c : Nat) (m : List Int) (b : Option Addr) (d : Nat) (q : List Int) (h : RdWishes w w.heap.size a0 x0 a1 x1) (hl0 : x0.length ≤ 1048576) (hin0 : ∀ y ∈ x0, y.length ≤ 1048576) (hl1 : x1.length ≤ 1048576) (hin1 : ∀ y ∈ x1, y.length ≤ 1048576)
    (g : Rd w w.heap.size a (ints m)) (hl : m.length ≤ 1048576) (g2 : Rd w w.heap.size b (ints q)) (hl2 : q.length ≤ 1048576) :
    Calls Try.prog 21 #[.agg #[.slice a0 x0.length c0, .slice a1 x1.length c1], .slice a m.length c, .slice b q.length d] w (RetI 2 w (takeTurnF ⟨x0, x1⟩ m q)) := by
  have X0 : Bx w ((w.alloc (.cells #[.slice a0 x0.length c0, .slice a1 x1.length c1] 27)).alloc (.cells #[.slice b q.length d] 31)) [.slice a0 x0.length c0, .slice a1 x1.length c1] 27 := (Bx.start w _ _).next (bl1 _ _)
  have hb0 : Hid (((w.alloc (.cells #[.slice a0 x0.length c0, .slice a1 x1.length c1] 27)).alloc (.cells #[.slice b q.length d] 31)).cell? ⟨w.heap.size + 1, 0, none⟩ = some (.slice b q.length d)) := by
    have := (Blk.new (w.alloc (.cells #[.slice a0 x0.length c0, .slice a1 x1.length c1] 27)) [.slice b q.length d] 31).cell 0
    have e9 : (w.alloc (.cells #[.slice a0 x0.length c0, .slice a1 x1.length c1] 27)).heap.size = w.heap.size + 1 := by simp
    rw [e9] at this
    exact this
  have hsz0 : ((w.alloc (.cells #[.slice a0 x0.length c0, .slice a1 x1.length c1] 27)).alloc (.cells #[.slice b q.length d] 31)).heap.size = w.heap.size + 2 := by simp
  have HS0 := Lib.hid hsz0
  have LS := Lib.hid (turnsOf_any _ a0 c0 x0 a1 c1 x1 a c m (h.to X0.1) hl0 hin0 hl1 hin1 (g.to X0.1) hl)
  cases t1 : wishB ⟨x0, x1⟩ && stableB ⟨x0, x1⟩ m with
  | false =>
    rw [takeTurn_no1 t1]
    rw [turnsOf_no t1] at LS
    clear h g g2 hin0 hin1 t1 hsz0
    go_enter Try.func21, Try.ntmps21
    go_wp2_with fail
    refine LS.out.mono ?_
    rintro e w1 ⟨hb1, rfl⟩
    have X1 := X0.next hb1
    clear hb1
    go_wp2_with fail
    go_ret2
    exact RetI.no X1.1
  | true =>
    rw [turnsOf_yes t1] at LS
    have t1' := t1
    rw [Bool.and_eq_true] at t1'
    have hv := wish_of t1'.1
    have hm := stab_of t1'.2
    have HNo : Hid ((turnsF ⟨x0, x1⟩ m).contains q = false → takeTurnF ⟨x0, x1⟩ m q = none) := takeTurn_no2
    have HYes : Hid ((turnsF ⟨x0, x1⟩ m).contains q = true → takeTurnF ⟨x0, x1⟩ m q = some (takenF m q)) := takeTurn_yesT t1
    have HSp : Hid ((turnsF ⟨x0, x1⟩ m).contains q = true → 1 ≤ q.length ∧ q.length ≤ x0.length + 1 ∧ ∀ s, s < q.length → ∃ y : Nat, q.getD s 0 = y ∧ y < x0.length) := fun hh => ring_spec hv hm (List.contains_iff_mem.1 hh)
    have HMt : Hid ((turnsF ⟨x0, x1⟩ m).contains q = true → matchB ⟨x0, x1⟩ (takenF m q) = true) := fun hh => takenF_mat hv hm (List.contains_iff_mem.1 hh)
    have hml := hm.len
    have h8 := hv.n8
    have h1 := hv.n1
    simp only at hml h8 h1
    have hTi : Hid (∀ y ∈ turnsF ⟨x0, x1⟩ m, y.length ≤ 9) := fun y hy => by have := TF_in (i := x0.length) hy; simp only at this; omega
    have htl : (turnsF ⟨x0, x1⟩ m).length ≤ 8 := by have h9 := TF_len ⟨x0, x1⟩ m x0.length; have : TF ⟨x0, x1⟩ m x0.length = turnsF ⟨x0, x1⟩ m := rfl; rw [← this]; omega
    have LM := Lib.hid (fun w' hb a' c' m' g' hl' => isMatchW_any w' a0 c0 x0 a1 c1 x1 (h.to hb) hv hin0 hin1 a' c' m' g' hl')
    have LCl := Lib.hid (fun w' hb => clone_any w' a c m (g.to hb) (by omega) hl)
    have G := Lib.hid g
    have G2 := Lib.hid g2
    have HAny := Lib.hid (takeB_anyI (turnsF ⟨x0, x1⟩ m) q)
    obtain ⟨n, hn⟩ : ∃ n, n = m.length := ⟨_, rfl⟩
    have HN := Lib.hid hn
    have hx0n : x0.length = n := by omega
    have HX0n := Lib.hid hx0n
    rw [hx0n] at HSp
    have hn1 : 1 ≤ n := by omega
    have hn8 : n ≤ 8 := by omega
    generalize htt : turnsF ⟨x0, x1⟩ m = tt at *
    generalize hcf : takeTurnF ⟨x0, x1⟩ m q = cf at *
    rw [← hn] at LS LCl ⊢
    clear h g g2 hin0 hin1 t1 t1' hv hm htt hcf hml h8 h1 hx0n hn hsz0
    go_enter Try.func21, Try.ntmps21
    go_wp2_with fail
    refine LS.out.mono ?_
    rintro e w1 ⟨hb1, at', ct, rfl, o1⟩
    have X1 := X0.next hb1
    have Q1 : Hid (w1.cell? ⟨w.heap.size + 1, 0, none⟩ = some (.slice b q.length d)) := (hb1.cell (p := ⟨w.heap.size + 1, 0, none⟩) (by have := HS0.out; simp only; omega)).trans hb0.out
    have s1 : w.heap.size + 2 ≤ w1.heap.size := by have := hb1.size; have := HS0.out; omega
    obtain ⟨vs, hvl, hvr, hvk⟩ := o1.rd
    have hen : ∀ (args : Array Value) (w : World), (callFunc 52 args).run Try.prog w = .ok (.enter 52 args) w := fun _ _ => by kernel_rfl
    have LCf := Lib.hid (containsFunc_L 52 #[.pointer (some ⟨w.heap.size + 1, 0, none⟩)] hen w1 at' ct vs (fun j => decide (tt.getD j [] = q)) hvr (by omega) (fun w' j v hb hj => by
      have hjl : j < tt.length := by have := (List.getElem?_eq_some_iff.1 hj).1; omega
      obtain ⟨a', c', e1, e2, e3⟩ := hvk j tt[j] (List.getElem?_eq_getElem hjl)
      rw [hj] at e1
      injection e1 with e1
      subst e1
      have eg : tt.getD j [] = tt[j] := by simp [List.getD, List.getElem?_eq_getElem hjl]
      rw [eg]
      have h9 := hTi.out tt[j] (List.getElem_mem hjl)
      exact sameTurn_any w' (w.heap.size + 1) a' b c' d tt[j] q ((hb.cell (p := ⟨w.heap.size + 1, 0, none⟩) (by simp only; omega)).trans Q1.out) (e3.to hb) (G2.out.to (X1.1.trans (hb.mono X1.1.size))) (by omega) (by omega)))
    rw [hvl, HAny.out] at LCf
    clear hvr hvk hvl hen hb1 o1 LS HAny
    cases hcn : tt.contains q with
    | false =>
      have HF := Lib.hid (HNo.out hcn)
      rw [hcn] at LCf
      clear hcn
      go_wp2_with fail
      refine LCf.out.mono ?_
      rintro e w2 ⟨rfl, hb2⟩
      have X2 := X1.next hb2
      clear hb2
      go_wp2_with fail
      go_ret2
      rw [HF.out]
      exact RetI.no X2.1
    | true =>
      have HF := Lib.hid (HYes.out hcn)
      have HM := Lib.hid (HMt.out hcn)
      obtain ⟨hq1, hq9, hqv⟩ := HSp.out hcn
      have HQ := Lib.hid hqv
      rw [hcn] at LCf
      clear hcn hqv HNo HYes HMt HSp
      obtain ⟨b4, o4, rfl, hb4, hc4⟩ := G.out.at (k := 0) (by rw [← HN.out]; exact hn1)
      have HC4 : Hid (∀ w', Below w.heap.size w w' → ∀ j, j < n → w'.cell? ⟨b4, o4 + j, none⟩ = some (.int .i64 (m.getD j 0))) := fun w' hb j hj => (hb.cell (p := ⟨b4, o4 + j, none⟩) hb4).trans (hc4 j (by rw [← HN.out]; exact hj))
      obtain ⟨b6, o6, rfl, hb6, hc6⟩ := G2.out.at (k := 0) (by omega)
      have HC6 : Hid (∀ w', Below w.heap.size w w' → ∀ j, j < q.length → w'.cell? ⟨b6, o6 + j, none⟩ = some (.int .i64 (q.getD j 0))) := fun w' hb j hj => (hb.cell (p := ⟨b6, o6 + j, none⟩) hb6).trans (hc6 j hj)
      clear hc4 hc6
      go_wp2_with fail
      refine LCf.out.mono ?_
      rintro e w2 ⟨rfl, hb2⟩
      have X2 := X1.next hb2
      have Q2 : Hid (w2.cell? ⟨w.heap.size + 1, 0, none⟩ = some (.slice (some ⟨b6, o6, none⟩) q.length d)) := (hb2.cell (p := ⟨w.heap.size + 1, 0, none⟩) (by simp only; omega)).trans Q1.out
      have s2 : w.heap.size + 2 ≤ w2.heap.size := by have := hb2.size; omega
      clear hb2 LCf X1 Q1
      go_wp2_with fail
      refine (LCl.out _ X2.1).mono ?_
      rintro e w3 ⟨a3, c3, rfl, o3, hb3⟩
      have X3 := X2.next hb3
      have Q3 : Hid (w3.cell? ⟨w.heap.size + 1, 0, none⟩ = some (.slice (some ⟨b6, o6, none⟩) q.length d)) := (hb3.cell (p := ⟨w.heap.size + 1, 0, none⟩) (by simp only; omega)).trans Q2.out
      obtain ⟨gO, tl, rfl, hgO, kO, hcO, hcmO, hclO⟩ := own_open o3.1 (by rw [← HN.out]; exact hn1)
      have KO : Hid (Blk w3 gO (ints (takenN m q 0) ++ tl) 2) := kO
      have hclO2 := Lib.hid hclO
      rw [← HN.out] at hcO
      have hgw : w.heap.size ≤ gO := by omega
      have hgX : w.heap.size + 1 ≤ gO := by omega
      have hgY : w.heap.size + 2 ≤ gO := by omega
      have B3 := X3.1
      have HX4 : Bx w w3 [.slice a0 x0.length c0, .slice a1 x1.length c1] 27 ∧ Hid (w3.cell? ⟨w.heap.size + 1, 0, none⟩ = some (.slice (some ⟨b6, o6, none⟩) q.length d)) := ⟨X3, Q3⟩
      have qb3 := Q3.out
      clear hb3 o3 kO hclO X2 Q2 X3 Q3 LCl
      go_wp2_with fail
      go_loopw [31] (fun kv wr => ∃ k : Nat, k ≤ q.length ∧ kv = .int .i64 k ∧ Hid (Blk wr gO (ints (takenN m q k) ++ tl) 2) ∧ Below w.heap.size w wr ∧ (Bx w wr [.slice a0 x0.length c0, .slice a1 x1.length c1] 27 ∧ Hid (wr.cell? ⟨w.heap.size + 1, 0, none⟩ = some (.slice (some ⟨b6, o6, none⟩) q.length d)))) (fun kv _ => q.length - (intOf kv).toNat)
      case atStart => exact ⟨0, Nat.zero_le _, rfl, KO.out, B3, HX4⟩
      case round =>
        clear KO B3
        obtain ⟨k, hk, rfl, hK, hw, hX⟩ := hrel
        by_cases hlt : k < q.length
        · have hr : (k + 1) % q.length < q.length := Nat.mod_lt _ (by omega)
          have hmod := mod_natc k q.length
          obtain ⟨y, hy, hyn⟩ := HQ.out k hlt
          obtain ⟨z, hz, hzn⟩ := HQ.out _ hr
          have e1 := HC6.out _ hw k hlt
          have e2 := HC6.out _ hw _ hr
          have e3 := HC4.out _ hw z hzn
          have hlen := takenN_len m q k
          rw [← HN.out] at hlen
          have cy := cell_app hK.out (j := y) (by omega)
          have fy := hK.out.free y
          have HK2 : Hid (Blk (wr.setCell ⟨gO, y, none⟩ (.int .i64 (m.getD z 0))) gO (ints (takenN m q (k + 1)) ++ tl) 2) := by
            have h9 := set_app hK.out (j := y) (by omega) (m.getD z 0)
            have h8 : takenN m q (k + 1) = (takenN m q k).set y (m.getD z 0) := by
              rw [takenN, hy, Int.toNat_natCast]
              congr 1
              unfold turnAt
              rw [hz, Int.toNat_natCast]
            rw [h8]; exact h9
          have HB2 := below_sto hw (g := gO) hgw y (.int .i64 (m.getD z 0))
          rw [hy] at e1
          rw [hz] at e2
          generalize m.getD z 0 = val at *
          generalize (takenN m q k).getD y 0 = old at *
          generalize (k + 1) % q.length = r at *
          have k0 : (0 : Int) ≤ (k : Int) := Int.natCast_nonneg _
          have k1 : (k : Int) < (q.length : Int) := by omega
          have r0 : (0 : Int) ≤ (r : Int) := Int.natCast_nonneg _
          have r1 : (r : Int) < (q.length : Int) := by omega
          have y0 : (0 : Int) ≤ (y : Int) := Int.natCast_nonneg _
          have y1 : (y : Int) < (n : Int) := by omega
          have z0 : (0 : Int) ≤ (z : Int) := Int.natCast_nonneg _
          have z1 : (z : Int) < (n : Int) := by omega
          have hL0 : ¬ ((q.length : Int) = 0) := by omega
          obtain ⟨XA, XB⟩ := hX
          obtain ⟨qq0, qq1⟩ := XA.two
          have qb := XB.out
          have HBX : Hid ((wr.setCell ⟨gO, y, none⟩ (.int .i64 val)).cell? ⟨w.heap.size + 1, 0, none⟩ = some (.slice (some ⟨b6, o6, none⟩) q.length d)) := ((below_sto (Below.refl gO wr) (g := gO) (Nat.le_refl _) y (.int .i64 val)).cell (p := ⟨w.heap.size + 1, 0, none⟩) (by simp only; omega)).trans qb
          clear hK hlen hy hz
          go_wp2_with fail
          go_region
          all_goals
            go_wp2_with fail
            go_roundw
            case rel => exact ⟨k + 1, by omega, by go_num, HK2, below_drew' HB2, ⟨(XA.far (below_sto (Below.refl _ wr) (g := gO) (Nat.le_refl _) y (.int .i64 val)) hgX).drew, HBX.out⟩⟩
            case measure => simp [intOf]; omega
        · have : k = q.length := by omega
          subst this
          have hlen := takenN_len m q q.length
          rw [← HN.out] at hlen
          have hOwn : Hid (wr.ownsRow w.heap.size 2 1 (.slice (some ⟨gO, 0, none⟩) n c3) n (ints (takenN m q q.length))) := own_close hK.out hgw (by simp; exact hlen) hcO hcmO (by have := hclO2.out; simp only [List.length_append, ints_length] at this ⊢; rw [hlen]; rw [← HN.out] at this; exact this)
          have hTl : (takenF m q).length = n := hlen
          obtain ⟨XA, XB⟩ := hX
          obtain ⟨qq0, qq1⟩ := XA.two
          have LM1 := Lib.hid (LM.out wr hw (some ⟨gO, 0, none⟩) c3 (takenF m q) (by
            have := rd_of_own hOwn.out (Nat.le_refl _)
            exact this) (by rw [hTl]; omega))
          rw [hTl, HM.out] at LM1
          clear hK hlen
          go_wp2_with fail
          refine LM1.out.mono ?_
          rintro e w6 ⟨rfl, hb6'⟩
          have hw6 := below_then hw hb6'
          have HO6 := Lib.hid (own_below hOwn.out hb6')
          clear hb6' qq0 qq1 LM1
          go_wp2_with fail
          go_ret2
          rw [HF.out]
          exact ⟨hw6, some ⟨gO, 0, none⟩, c3, by rw [hTl]; rfl, by rw [hTl]; exact HO6.out⟩

end Go.Proofs.Ytchfibmndcfpiaa
namespace Go.Proofs.Ytchfibmndcfpiaa
set_option linter.unusedVariables false
set_option linter.unusedSimpArgs false
open Go.RowKit

/-- The match in hand: p, and nobody behind it. -/
def padM (n : Nat) (p : List Int) : List Int := p ++ List.replicate (n - p.length) (-1)
theorem padM_len {n : Nat} {p : List Int} (h : p.length ≤ n) : (padM n p).length = n := by simp [padM]; omega
theorem padM_full {n : Nat} {p : List Int} (h : p.length = n) : padM n p = p := by simp [padM, h]
theorem padM_nobody {n : Nat} {p : List Int} (h : p.length < n) : padM n (p ++ [-1]) = padM n p := by
  unfold padM
  rw [List.length_append, List.length_singleton, List.append_assoc]
  congr 1
  rw [show n - p.length = (n - (p.length + 1)) + 1 by omega, List.replicate_succ]; rfl
theorem padM_set {n : Nat} {p : List Int} (h : p.length < n) (x : Int) : (padM n p).set p.length x = padM n (p ++ [x]) := by
  unfold padM
  rw [List.set_append_right _ _ (Nat.le_refl _), Nat.sub_self, List.length_append, List.length_singleton, List.append_assoc]
  congr 1
  rw [show n - p.length = (n - (p.length + 1)) + 1 by omega, List.replicate_succ]; rfl
theorem padM_back {n : Nat} {p : List Int} (h : p.length < n) (x : Int) : (padM n (p ++ [x])).set p.length (-1) = padM n p := by
  rw [← padM_set h, List.set_set, padM_set h, padM_nobody h]
theorem padM_has {n : Nat} {p : List Int} (k : Nat) : containsI (padM n p) k = hasB p k := by
  have h1 : containsI (padM n p) k = true ↔ hasB p k = true := by
    rw [containsI_iff]
    unfold hasB padM
    simp only [List.mem_append, List.mem_replicate]
    constructor
    · rintro (h | ⟨_, h⟩)
      · simpa using h
      · omega
    · intro h
      exact .inl (by simpa using h)
  rw [Bool.eq_iff_iff]; exact h1
theorem deepS (w : Wi) (f : Nat) (p : List Int) (k : Nat) : (List.range (k + 1)).flatMap (fun (k : Nat) => if pairB w p.length k && !hasB p k then deepF w f (p ++ [(k : Int)]) else []) = (List.range k).flatMap (fun (k : Nat) => if pairB w p.length k && !hasB p k then deepF w f (p ++ [(k : Int)]) else []) ++ (if pairB w p.length k && !hasB p k then deepF w f (p ++ [(k : Int)]) else []) := by
  rw [List.range_succ, List.flatMap_append]; simp
theorem deepS_no {w : Wi} {f : Nat} {p : List Int} {k : Nat} (h : (pairB w p.length k && !hasB p k) = false) : (List.range (k + 1)).flatMap (fun (k : Nat) => if pairB w p.length k && !hasB p k then deepF w f (p ++ [(k : Int)]) else []) = (List.range k).flatMap (fun (k : Nat) => if pairB w p.length k && !hasB p k then deepF w f (p ++ [(k : Int)]) else []) := by rw [deepS, h]; simp only [Bool.false_eq_true, if_false, List.append_nil]
theorem deepS_yes {w : Wi} {f : Nat} {p : List Int} {k : Nat} (h : (pairB w p.length k && !hasB p k) = true) : (List.range (k + 1)).flatMap (fun (k : Nat) => if pairB w p.length k && !hasB p k then deepF w f (p ++ [(k : Int)]) else []) = (List.range k).flatMap (fun (k : Nat) => if pairB w p.length k && !hasB p k then deepF w f (p ++ [(k : Int)]) else []) ++ deepF w f (p ++ [(k : Int)]) := by rw [deepS, h]; simp only [if_true]
theorem deepS_mono (w : Wi) (f : Nat) (p : List Int) {k m : Nat} (h : k ≤ m) : ((List.range k).flatMap (fun (k : Nat) => if pairB w p.length k && !hasB p k then deepF w f (p ++ [(k : Int)]) else [])).length ≤ ((List.range m).flatMap (fun (k : Nat) => if pairB w p.length k && !hasB p k then deepF w f (p ++ [(k : Int)]) else [])).length := by
  induction m with
  | zero => have : k = 0 := by omega
            subst this; exact Nat.le_refl _
  | succ m ih =>
    by_cases e : k = m + 1
    · subst e; exact Nat.le_refl _
    · have := ih (by omega)
      rw [deepS, List.length_append]; omega
theorem stored (w : World) (g j : Nat) (u : Value) : w.grownBy (w.setCell ⟨g, j, none⟩ u) (some g) := ⟨rfl, rfl, rfl, by simp, fun i _ hi => Below.heap_setCell _ _ _ _ (fun e => hi (by simp [e]))⟩
/-- Where the boxes lie. -/
structure LayA (B0 t0 gO gd gM gP lo : Nat) : Prop where
  h1 : B0 < t0
  h2 : t0 < gO
  h3 : gO < gd
  h4 : gd < gM
  h5 : gM < gP
  h6 : gP < lo
theorem enter_all (args : Array Value) (w : World) : (callFunc 68 args).run Try.prog w = .ok (.enter 68 args) w := by kernel_rfl
def putV (B0 gO gM gP : Nat) : Value := .func (.func 68) #[] #[.pointer (some ⟨B0, 0, none⟩), .pointer (some ⟨gM, 0, none⟩), .pointer (some ⟨gO, 0, none⟩), .pointer (some ⟨gP, 0, none⟩)]
structure PA (w0 : World) (bx : List Value) (n t0 gO gd gM gP lo : Nat) (done : List (List Int)) (p : List Int) (w : World) : Prop where
  bx : Bx w0 w bx 27
  sz : lo ≤ w.heap.size
  md : Blk w gd (ints (padM n p)) 2
  mb : Blk w gM [.slice (some ⟨gd, 0, none⟩) n n] 31
  pb : Blk w gP [putV w0.heap.size gO gM gP] 78
  ob : ∃ a c vs, Blk w gO [.slice a done.length c] 25 ∧ OwnTop 2 31 w t0 lo w.heap.size (.slice a done.length c) vs done
section
variable {w0 w w' : World} {bx : List Value} {n t0 gO gd gM gP lo : Nat} {done : List (List Int)} {p p' : List Int}
theorem PA.later (h : PA w0 bx n t0 gO gd gM gP lo done p w) (hb : Below w.heap.size w w') : PA w0 bx n t0 gO gd gM gP lo done p w' := by
  obtain ⟨a, c, vs, h1, h2⟩ := h.ob
  exact ⟨h.bx.next hb, Nat.le_trans h.sz hb.size, h.md.same hb, h.mb.same hb, h.pb.same hb, a, c, vs, h1.same hb, (h2.keep hb).mono hb.size⟩
theorem PA.sto (L : LayA w0.heap.size t0 gO gd gM gP lo) (h : PA w0 bx n t0 gO gd gM gP lo done p w) (i : Nat) (x : Int) (hx : (padM n p).set i x = padM n p') : PA w0 bx n t0 gO gd gM gP lo done p' (w.setCell ⟨gd, i, none⟩ (.int .i64 x)) := by
  obtain ⟨a, c, vs, h1, h2⟩ := h.ob
  obtain ⟨l1, l2, l3, l4, l5, l6⟩ := L
  have hsz := h.sz
  refine ⟨h.bx.far (below_sto (Below.refl gd w) (Nat.le_refl _) i _) (by omega), by simp; exact h.sz, by rw [← hx]; exact h.md.setI i x, h.mb.oth (by omega) _ _, h.pb.oth (by omega) _ _, a, c, vs, h1.oth (by omega) _ _, ?_⟩
  have := h2.grown (stored w gd i (.int .i64 x)) (by omega) (by omega)
  exact this.mono (by simp)
end
theorem own_someA {w : World} {base e n c : Nat} {a : Option Addr} {xs : List Value} (h : w.ownsRow base e 1 (.slice a n c) n xs) (hn : 0 < n) : ∃ g, a = some ⟨g, 0, none⟩ := by
  rcases h.2 with ⟨_, h3⟩ | ⟨g, cap, cur, hv, _⟩
  · omega
  · injection hv with ha _ _; exact ⟨g, ha⟩
theorem info_intsA : (Try.prog.info? 31).map (fun i => (i.zero, i.size, i.bytes)) = some (some (.slice none 0 0), 1, 24) := by kernel_rfl
section
variable {w0 w w3 w4 : World} {bx : List Value} {n t0 gO gd gM gP lo : Nat} {done : List (List Int)} {p : List Int}
theorem PA.same (h : PA w0 bx n t0 gO gd gM gP lo done p w) {p' : List Int} (hp : padM n p = padM n p') : PA w0 bx n t0 gO gd gM gP lo done p' w := ⟨h.bx, h.sz, by rw [← hp]; exact h.md, h.mb, h.pb, h.ob⟩
theorem PA.snoc (L : LayA w0.heap.size t0 gO gd gM gP lo) (h : PA w0 bx n t0 gO gd gM gP lo done p w) {a : Option Addr} {c : Nat} {vs : List Value} (hO : Blk w gO [.slice a done.length c] 25) (hT : OwnTop 2 31 w t0 lo w.heap.size (.slice a done.length c) vs done)
    (hb : Below w.heap.size w w3) {r0 g5 c5 g6 c6 : Nat} {ys : List Int} (hr0 : w.heap.size ≤ r0) (ho5 : OwnI 2 w3 r0 w3.heap.size (some ⟨g5, 0, none⟩) c5 ys)
    (ho6 : w4.ownsRow t0 31 1 (.slice (some ⟨g6, 0, none⟩) (done.length + 1) c6) (done.length + 1) (vs ++ [.slice (some ⟨g5, 0, none⟩) ys.length c5])) (hg : w3.grownBy w4 (Value.slice a done.length c).ownBlock)
    (hn : ∀ q, q < w3.heap.size → some q ≠ (Value.slice a done.length c).ownBlock → some q ≠ (Value.slice (some ⟨g6, 0, none⟩) (done.length + 1) c6).ownBlock) :
    PA w0 bx n t0 gO gd gM gP lo (done ++ [ys]) p (w4.setCell ⟨gO, 0, none⟩ (.slice (some ⟨g6, 0, none⟩) (done.length + 1) c6)) := by
  obtain ⟨l1, l2, l3, l4, l5, l6⟩ := L
  have hsz := h.sz
  have hs3 := hb.size
  have hs4 := hg.size
  have h3 := h.later hb
  have hne : ∀ q, q ≠ t0 → q < lo → some q ≠ (Value.slice a done.length c).ownBlock := fun q hq hq2 e => by
    rcases hT.lt q e.symm with h1 | ⟨h1, _⟩ <;> omega
  have hb4 : Below t0 w3 w4 := below_of_grown hg (by omega) (fun q hq => by rcases hT.lt q hq with h1 | ⟨h1, _⟩ <;> omega)
  refine ⟨(h3.bx.far hb4 (by omega)).far (below_sto (Below.refl gO w4) (Nat.le_refl _) 0 _) (by omega), by simp; omega, (h3.md.grown hg (hne _ (by omega) (by omega))).oth (by omega) _ _, (h3.mb.grown hg (hne _ (by omega) (by omega))).oth (by omega) _ _, (h3.pb.grown hg (hne _ (by omega) (by omega))).oth (by omega) _ _, some ⟨g6, 0, none⟩, c6, vs ++ [.slice (some ⟨g5, 0, none⟩) ys.length c5], ?_, ?_⟩
  · rw [List.length_append, List.length_singleton]
    exact ((hO.same hb).grown hg (hne _ (by omega) (by omega))).set 0 _
  · have := (hT.snoc hb (by omega) (by omega) hr0 ho5 hr0 ho6 hg hn).grown (stored w4 gO 0 (.slice (some ⟨g6, 0, none⟩) (done.length + 1) c6)) (by omega) (by omega)
    rw [List.length_append, List.length_singleton]
    exact this.mono (by simp)
end
set_option maxRecDepth 100000 in
set_option maxHeartbeats 8000000 in
theorem putA_any (w0 : World) (a0 : Option Addr) (c0 : Nat) (x0 : List (List Int)) (a1 : Option Addr) (c1 : Nat) (x1 : List (List Int)) (h : RdWishes w0 w0.heap.size a0 x0 a1 x1) (hv : Wish ⟨x0, x1⟩) (hin0 : ∀ y ∈ x0, y.length ≤ 1048576) (hin1 : ∀ y ∈ x1, y.length ≤ 1048576)
    (t0 gO gd gM gP lo : Nat) (L : LayA w0.heap.size t0 gO gd gM gP lo) (M : Nat) (hM : M ≤ 1048576) :
    ∀ (f : Nat) (done : List (List Int)) (p : List Int) (w : World), PA w0 [.slice a0 x0.length c0, .slice a1 x1.length c1] x0.length t0 gO gd gM gP lo done p w → p.length + f = x0.length → partB ⟨x0, x1⟩ p = true → done.length + (deepF ⟨x0, x1⟩ f p).length ≤ M →
      Calls Try.prog 68 #[.int .i64 p.length, .pointer (some ⟨w0.heap.size, 0, none⟩), .pointer (some ⟨gM, 0, none⟩), .pointer (some ⟨gO, 0, none⟩), .pointer (some ⟨gP, 0, none⟩)] w fun e w' => e = .returned (.tuple #[]) ∧ PA w0 [.slice a0 x0.length c0, .slice a1 x1.length c1] x0.length t0 gO gd gM gP lo (done ++ deepF ⟨x0, x1⟩ f p) p w'
  | 0, done, p, w, hP, hl, hp, hlen => by
    have hpl : p.length = x0.length := by omega
    have h8 := hv.n8
    have h1 := hv.n1
    simp only at h8 h1
    have HPm : Hid (padM x0.length p = p) := padM_full hpl
    have LC := Lib.hid (fun w' => count_any w' a0 c0 x0 a1 c1 x1)
    have LS := Lib.hid (fun w' hb g => isStableW_any w' a0 c0 x0 a1 c1 x1 (h.to hb) hv hin0 hin1 (some ⟨gd, 0, none⟩) x0.length p g (mat_of (by simp [matchB, hpl, hp])))
    rw [hpl] at LS ⊢
    have HP := Lib.hid hP
    have HL := Lib.hid L
    have HLen := Lib.hid hlen
    obtain ⟨q0, q1⟩ := hP.bx.two
    have cM := hP.mb.cell 0
    simp only [List.getElem?_cons_zero] at cM
    clear hP L h hv hin0 hin1 hl hp hlen
    go_enter Try.func68, Try.ntmps68
    go_wp2_with fail
    refine (LC.out _).mono ?_
    rintro e w1 ⟨rfl, hb1⟩
    have HP1 := Lib.hid (HP.out.later hb1)
    obtain ⟨q0, q1⟩ := HP1.out.bx.two
    have cM := HP1.out.mb.cell 0
    simp only [List.getElem?_cons_zero] at cM
    clear HP hb1
    have hrd : Rd w1 w1.heap.size (some ⟨gd, 0, none⟩) (ints p) := by
      have := HP1.out.md.rd (B := w1.heap.size) HP1.out.md.lt
      rwa [HPm.out] at this
    have LS1 := Lib.hid (LS.out w1 HP1.out.bx.1 hrd)
    clear hrd LS
    cases hst : (blockF ⟨x0, x1⟩ p).isNone with
    | false =>
      have HD : Hid (deepF ⟨x0, x1⟩ 0 p = []) := by rw [Hid, deepF, hst]; rfl
      rw [hst] at LS1
      go_wp2_with fail
      refine LS1.out.mono ?_
      rintro e w2 ⟨rfl, hb2⟩
      have HP2 := Lib.hid (HP1.out.later hb2)
      clear hb2 q0 q1 cM
      go_wp2_with fail
      first | (refine bodyPost_ret (results_none rfl _ _ _) rfl ?_) | skip
      rw [HD.out, List.append_nil]
      exact ⟨rfl, HP2.out⟩
    | true =>
      have HD : Hid (deepF ⟨x0, x1⟩ 0 p = [p]) := by rw [Hid, deepF, hst]; rfl
      rw [hst] at LS1
      go_wp2_with fail
      refine LS1.out.mono ?_
      rintro e w2 ⟨rfl, hb2⟩
      have HP2 := Lib.hid (HP1.out.later hb2)
      clear hb2 q0 q1 cM
      obtain ⟨a, c, vs, hO, hT⟩ := HP2.out.ob
      have HO := Lib.hid hO
      have HT := Lib.hid hT
      have hdl : done.length ≤ 1048576 := by have := HLen.out; omega
      have hsz := HP2.out.sz
      obtain ⟨l1, l2, l3, l4, l5, l6⟩ := HL.out
      have EE : Hid (w2.cell? ⟨gO, 0, none⟩ = some (.slice a done.length c) ∧ w2.cell? ⟨gM, 0, none⟩ = some (.slice (some ⟨gd, 0, none⟩) x0.length x0.length)) := ⟨hO.cell 0, HP2.out.mb.cell 0⟩
      have LCl := Lib.hid (clone_any w2.drew (some ⟨gd, 0, none⟩) x0.length p (by
        have := HP2.out.md.rd (B := w2.heap.size) HP2.out.md.lt
        rw [HPm.out] at this
        exact (this.to (below_drew' (Below.refl w2.heap.size w2)))) (by omega) (by omega))
      rw [hpl] at LCl
      obtain ⟨d1, d2⟩ := EE.out
      clear hO hT
      go_wp2_with fail
      go_region_law
        ((first
          | (go_simp; refine LCl.out.mono ?_; rintro e w3 ⟨a5, c5, rfl, ho5, hb5⟩; dsimp only; obtain ⟨g5, e5⟩ := own_someA ho5.1 (by omega); subst e5; have hb3 : Below w2.heap.size w2 w3 := below_then (below_drew' (Below.refl w2.heap.size w2)) hb5; have hT3 := (HT.out.keep hb3).out; have hO3 := HO.out.same hb3; have HQ : Hid (w3.cell? ⟨gO, 0, none⟩ = some (.slice a done.length c) ∧ w3.cell? ⟨gM, 0, none⟩ = some (.slice (some ⟨gd, 0, none⟩) x0.length x0.length)) := ⟨hO3.cell 0, (HP2.out.mb.same hb3).cell 0⟩; have HR : Hid (∀ o, ((w3.alloc o).cell? ⟨gO, 0, none⟩ = some (.slice a done.length c) ∧ (w3.alloc o).cell? ⟨gM, 0, none⟩ = some (.slice (some ⟨gd, 0, none⟩) x0.length x0.length))) := fun o => ⟨(hO3.alloc o).cell 0, ((HP2.out.mb.same hb3).alloc o).cell 0⟩; obtain ⟨f1, f2⟩ := HQ.out; obtain ⟨f3, f4⟩ := HR.out (.cells #[.slice (some ⟨g5, 0, none⟩) x0.length c5] 31))
          | (refine step_append_blk (wr := w3) (by rfl) _ _ 25 (by rfl) t0 31 (.slice none 0 0) 24 Try.underlying25 info_intsA rfl _ done.length vs (by rfl) hT3 (.slice (some ⟨g5, 0, none⟩) x0.length c5) rfl (by rfl) (by decide) (by omega) (by have := hb3.size; omega) ?_; intro g6 c6 w4 ho6 hgr hnew; have hne : ∀ q, q ≠ t0 → q < lo → some q ≠ (Value.slice a done.length c).ownBlock := (fun q hq hq2 e => by rcases HT.out.lt q e.symm with h1 | ⟨h1, _⟩ <;> omega); have hO4 := hO3.grown hgr (hne gO (by omega) (by omega)); have hM4 := (HP2.out.mb.same hb3).grown hgr (hne gM (by omega) (by omega)); have HA : Hid (w4.cell? ⟨gO, 0, none⟩ = some (.slice a done.length c) ∧ w4.cell? ⟨gM, 0, none⟩ = some (.slice (some ⟨gd, 0, none⟩) x0.length x0.length)) := ⟨hO4.cell 0, hM4.cell 0⟩; have d1 := HA.out.1; have d2 := hO4.free 0)))
      all_goals
        have HF : Hid (PA w0 [.slice a0 x0.length c0, .slice a1 x1.length c1] x0.length t0 gO gd gM gP lo (done ++ [p]) p (w4.setCell ⟨gO, 0, none⟩ (.slice (some ⟨g6, 0, none⟩) (done.length + 1) c6))) := by
          have hy : OwnI 2 w3 w2.heap.size w3.heap.size (some ⟨g5, 0, none⟩) c5 p := by exact ho5
          rw [← hpl] at ho6
          exact HP2.out.snoc HL.out HO.out HT.out hb3 (Nat.le_refl _) hy ho6 hgr hnew
        clear ho5 hb5 ho6 hgr hnew hO4 hM4 hO3 hT3 hb3
        go_wp2_with fail
        first | (refine bodyPost_ret (results_none rfl _ _ _) rfl ?_) | skip
        rw [HD.out]
        exact ⟨rfl, HF.out⟩
  | f + 1, done, p, w, hP, hl, hp, hlen => by
    have IH := Lib.hid (putA_any w0 a0 c0 x0 a1 c1 x1 h hv hin0 hin1 t0 gO gd gM gP lo L M hM f)
    have hpl : p.length < x0.length := by omega
    have h8 := hv.n8
    have h1 := hv.n1
    simp only at h8 h1
    have hln := Lib.hid hv.len
    simp only at hln
    have LC := Lib.hid (fun w' => count_any w' a0 c0 x0 a1 c1 x1)
    have LT : Hid (∀ (w' : World) (k : Nat), Below w0.heap.size w0 w' → k < x0.length → _) := fun w' k hb hk => take_any w' a0 c0 x0 a1 c1 x1 (h.to hb) hin0 hin1 p.length k hpl (by rw [hln.out]; exact hk)
    have HP := Lib.hid hP
    have HL := Lib.hid L
    have Hl := Lib.hid hl
    have Hp := Lib.hid hp
    have HLen := Lib.hid hlen
    have HB1 : Hid (partB ⟨x0, x1⟩ (p ++ [-1]) = true) := by rw [Hid, partB_snoc, hp]; simp [okB]
    have HD : Hid (deepF ⟨x0, x1⟩ (f + 1) p = deepF ⟨x0, x1⟩ f (p ++ [-1]) ++ (List.range x0.length).flatMap (fun (k : Nat) => if pairB ⟨x0, x1⟩ p.length k && !hasB p k then deepF ⟨x0, x1⟩ f (p ++ [(k : Int)]) else [])) := rfl
    have HL1 : Hid (done.length + (deepF ⟨x0, x1⟩ f (p ++ [-1])).length ≤ M) := by
      have := hlen
      rw [deepF, List.length_append] at this
      show _ ≤ _
      omega
    have HLk : Hid (∀ k, k < x0.length → pairB ⟨x0, x1⟩ p.length k = true → hasB p k = false → (done ++ (deepF ⟨x0, x1⟩ f (p ++ [-1]) ++ (List.range k).flatMap (fun (k : Nat) => if pairB ⟨x0, x1⟩ p.length k && !hasB p k then deepF ⟨x0, x1⟩ f (p ++ [(k : Int)]) else []))).length + (deepF ⟨x0, x1⟩ f (p ++ [(k : Int)])).length ≤ M ∧ partB ⟨x0, x1⟩ (p ++ [(k : Int)]) = true) := fun k hk h2 h3 => by
      have := hlen
      rw [deepF, List.length_append] at this
      have e1 := deepS_mono ⟨x0, x1⟩ f p (show k + 1 ≤ x0.length by omega)
      rw [deepS, List.length_append, h2, h3] at e1
      simp only [Bool.not_false, Bool.and_self, if_true] at e1
      simp only [List.length_append]
      refine ⟨by simp only [List.length_append] at this; omega, ?_⟩
      rw [partB_snoc, hp]
      have a1 : decide ((k : Int) = -1) = false := decide_eq_false (by omega)
      have a2 : inB (k : Int) 0 ((x0.length : Int) - 1) = true := inB_iff.2 ⟨by omega, by omega⟩
      unfold okB
      simp only at h2 ⊢
      rw [a1, a2, h3, Int.toNat_natCast, h2]; rfl
    have HLn : Hid ((padM x0.length p).length = x0.length) := padM_len (by omega)
    obtain ⟨q0, q1⟩ := hP.bx.two
    have htst : ((p.length : Int) == (x0.length : Int)) = false := by simp; omega
    have e1 : Hid (((p ++ [(-1 : Int)]).length : Int) = (p.length : Int) + 1) := by simp [Hid]
    have e2 : Hid (∀ k : Nat, ((p ++ [(k : Int)]).length : Int) = (p.length : Int) + 1) := by simp [Hid]
    clear hP L h hv hin0 hin1 hl hp hlen
    have hEP := enter_all
    go_enter Try.func68, Try.ntmps68
    go_wp2_with fail
    refine (LC.out _).mono ?_
    rintro e w1 ⟨rfl, hb1⟩
    have HP1 := Lib.hid (HP.out.later hb1)
    clear q0 q1 HP hb1
    have c4 := HP1.out.pb.cell 0
    simp only [List.getElem?_cons_zero, putV] at c4
    have LI := Lib.hid (IH.out done (p ++ [-1]) w1 (HP1.out.same (padM_nobody hpl).symm) (by rw [List.length_append, List.length_singleton]; have := Hl.out; omega) HB1.out HL1.out)
    rw [e1.out] at LI
    go_wp2_with fail
    refine LI.out.mono ?_
    rintro e w2 ⟨rfl, hP2⟩
    have HP2 := Lib.hid (hP2.same (padM_nobody hpl))
    clear hP2 c4 HP1 LI
    obtain ⟨q0, q1⟩ := HP2.out.bx.two
    go_wp2_with fail
    refine (LC.out _).mono ?_
    rintro e w3 ⟨rfl, hb3⟩
    have HP3 := Lib.hid (HP2.out.later hb3)
    clear q0 q1 HP2 hb3
    go_wp2_with fail
    go_loopw [25] (fun i wr => ∃ k : Nat, k ≤ x0.length ∧ i = .int .i64 k ∧ Hid (PA w0 [.slice a0 x0.length c0, .slice a1 x1.length c1] x0.length t0 gO gd gM gP lo (done ++ (deepF ⟨x0, x1⟩ f (p ++ [-1]) ++ (List.range k).flatMap (fun (k : Nat) => if pairB ⟨x0, x1⟩ p.length k && !hasB p k then deepF ⟨x0, x1⟩ f (p ++ [(k : Int)]) else []))) p wr)) (fun i _ => x0.length - (intOf i).toNat)
    case atStart => exact ⟨0, Nat.zero_le _, rfl, (show PA w0 [.slice a0 x0.length c0, .slice a1 x1.length c1] x0.length t0 gO gd gM gP lo _ p w3 from by simpa using HP3.out)⟩
    case round =>
      clear HP3
      obtain ⟨k, hk, rfl, HP⟩ := hrel
      by_cases hlt : k < x0.length
      · obtain ⟨q0, q1⟩ := HP.out.bx.two
        have LT1 := Lib.hid (LT.out wr k HP.out.bx.1 hlt)
        cases t1 : pairB ⟨x0, x1⟩ p.length k with
        | false =>
          rw [t1] at LT1
          have hF : Hid ((List.range (k + 1)).flatMap (fun (k : Nat) => if pairB ⟨x0, x1⟩ p.length k && !hasB p k then deepF ⟨x0, x1⟩ f (p ++ [(k : Int)]) else []) = (List.range k).flatMap (fun (k : Nat) => if pairB ⟨x0, x1⟩ p.length k && !hasB p k then deepF ⟨x0, x1⟩ f (p ++ [(k : Int)]) else [])) := by rw [Hid, deepS, t1]; simp
          go_wp2_with fail
          refine LT1.out.mono ?_
          rintro e w4 ⟨rfl, hb4⟩
          have HN : Hid (PA w0 [.slice a0 x0.length c0, .slice a1 x1.length c1] x0.length t0 gO gd gM gP lo (done ++ (deepF ⟨x0, x1⟩ f (p ++ [-1]) ++ (List.range (k + 1)).flatMap (fun (k : Nat) => if pairB ⟨x0, x1⟩ p.length k && !hasB p k then deepF ⟨x0, x1⟩ f (p ++ [(k : Int)]) else []))) p w4) := by rw [hF.out]; exact HP.out.later hb4
          clear q0 q1 HP hb4 LT1
          go_wp2_with fail
          go_roundw
          case rel => exact ⟨k + 1, by omega, by go_num, HN⟩
          case measure => simp [intOf]; omega
        | true =>
          rw [t1] at LT1
          go_wp2_with fail
          refine LT1.out.mono ?_
          rintro e w4 ⟨rfl, hb4⟩
          have HP4 := Lib.hid (HP.out.later hb4)
          clear q0 q1 HP hb4 LT1
          have cM := HP4.out.mb.cell 0
          simp only [List.getElem?_cons_zero] at cM
          have LH := Lib.hid (contains_any w4 (some ⟨gd, 0, none⟩) x0.length (padM x0.length p) k (HP4.out.md.rd HP4.out.md.lt) (by rw [HLn.out]; omega))
          rw [padM_has, HLn.out] at LH
          cases t2 : hasB p k with
          | true =>
            rw [t2] at LH
            have HN : Hid (PA w0 [.slice a0 x0.length c0, .slice a1 x1.length c1] x0.length t0 gO gd gM gP lo (done ++ (deepF ⟨x0, x1⟩ f (p ++ [-1]) ++ (List.range (k + 1)).flatMap (fun (k : Nat) => if pairB ⟨x0, x1⟩ p.length k && !hasB p k then deepF ⟨x0, x1⟩ f (p ++ [(k : Int)]) else []))) p w4) := by rw [deepS_no (by rw [t1, t2]; rfl)]; exact HP4.out
            clear HP4
            go_wp2_with fail
            refine LH.out.mono ?_
            rintro e w' ⟨rfl, rfl⟩
            go_wp2_with fail
            go_roundw
            case rel => exact ⟨k + 1, by omega, by go_num, HN⟩
            case measure => simp [intOf]; omega
          | false =>
            rw [t2] at LH
            obtain ⟨hM1, hB2⟩ := HLk.out k hlt t1 t2
            have ck : w4.cell? ⟨gd, p.length, none⟩ = some (.int .i64 ((padM x0.length p).getD p.length 0)) := HP4.out.md.at (by rw [HLn.out]; exact hpl)
            have fk := HP4.out.md.free p.length
            have HPs := Lib.hid (HP4.out.sto HL.out p.length k (padM_set hpl k))
            have LI := Lib.hid (IH.out _ _ _ HPs.out (by rw [List.length_append, List.length_singleton]; have := Hl.out; omega) hB2 hM1)
            rw [e2.out] at LI
            have c4 := HPs.out.pb.cell 0
            simp only [List.getElem?_cons_zero, putV] at c4
            have p0 : (0 : Int) ≤ (p.length : Int) := Int.natCast_nonneg _
            have p1 : (p.length : Int) < (x0.length : Int) := by omega
            generalize (padM x0.length p).getD p.length 0 = old at *
            clear HP4 hM1 hB2 HPs
            go_wp2_with fail
            refine LH.out.mono ?_
            rintro e w' ⟨rfl, rfl⟩
            go_wp2_with fail
            refine LI.out.mono ?_
            rintro e w5 ⟨rfl, hP5⟩
            have HP5 := Lib.hid hP5
            have cM := HP5.out.mb.cell 0
            simp only [List.getElem?_cons_zero] at cM
            have ck : w5.cell? ⟨gd, p.length, none⟩ = some (.int .i64 ((padM x0.length (p ++ [(k : Int)])).getD p.length 0)) := HP5.out.md.at (by rw [padM_len (by simp; omega)]; exact hpl)
            have fk := HP5.out.md.free p.length
            generalize (padM x0.length (p ++ [(k : Int)])).getD p.length 0 = old2 at *
            have HN : Hid (PA w0 [.slice a0 x0.length c0, .slice a1 x1.length c1] x0.length t0 gO gd gM gP lo (done ++ (deepF ⟨x0, x1⟩ f (p ++ [-1]) ++ (List.range (k + 1)).flatMap (fun (k : Nat) => if pairB ⟨x0, x1⟩ p.length k && !hasB p k then deepF ⟨x0, x1⟩ f (p ++ [(k : Int)]) else []))) p (w5.setCell ⟨gd, p.length, none⟩ (.int .i64 (-1)))) := by
              have := HP5.out.sto HL.out p.length (-1) (padM_back hpl k)
              rw [deepS_yes (by rw [t1, t2]; rfl)]
              rw [← List.append_assoc, ← List.append_assoc] at *
              exact this
            clear HP5 hP5 LI LH c4
            go_wp2_with fail
            go_roundw
            case rel => exact ⟨k + 1, by omega, by go_num, HN⟩
            case measure => simp [intOf]; omega
      · have : k = x0.length := by omega
        subst this
        have HF : Hid (PA w0 [.slice a0 x0.length c0, .slice a1 x1.length c1] x0.length t0 gO gd gM gP lo (done ++ deepF ⟨x0, x1⟩ (f + 1) p) p wr) := by rw [HD.out]; exact HP.out
        clear HP
        go_wp2_with fail
        go_end0
        exact ⟨rfl, HF.out⟩
end Go.Proofs.Ytchfibmndcfpiaa
namespace Go.Proofs.Ytchfibmndcfpiaa
set_option linter.unusedVariables false
set_option linter.unusedSimpArgs false
open Go.RowKit

def allF (w : Wi) : Option (List (List Int)) := if wishB w && decide (w.L.length ≤ 5) then some (allStabF w) else none
theorem all_no1 {w : Wi} (h : wishB w = false) : allF w = none := by unfold allF; rw [h]; rfl
theorem all_no2 {w : Wi} (h : ¬ w.L.length ≤ 5) : allF w = none := by unfold allF; rw [decide_eq_false h, Bool.and_false]; rfl
theorem all_yes {w : Wi} (h : wishB w = true) (h2 : w.L.length ≤ 5) : allF w = some (allStabF w) := by unfold allF; rw [h, decide_eq_true h2]; rfl
theorem pow_few {n : Nat} (h : n ≤ 5) : (n + 1) ^ n ≤ 7776 := by
  have : n = 0 ∨ n = 1 ∨ n = 2 ∨ n = 3 ∨ n = 4 ∨ n = 5 := by omega
  rcases this with rfl | rfl | rfl | rfl | rfl | rfl <;> decide
theorem allStab_few {w : Wi} (h : w.L.length ≤ 5) : (allStabF w).length ≤ 7776 := by
  refine Nat.le_trans (List.length_filter_le _ _) ?_
  unfold allM
  rw [List.length_map, allD_eq (by omega), List.length_map, List.length_range]
  exact pow_few h
set_option maxRecDepth 10000 in
set_option maxHeartbeats 8000000 in
theorem allStable_any (w : World) (a0 : Option Addr) (c0 : Nat) (x0 : List (List Int)) (a1 : Option Addr) (c1 : Nat) (x1 : List (List Int)) (h : RdWishes w w.heap.size a0 x0 a1 x1) (hl0 : x0.length ≤ 1048576) (hin0 : ∀ y ∈ x0, y.length ≤ 1048576) (hl1 : x1.length ≤ 1048576) (hin1 : ∀ y ∈ x1, y.length ≤ 1048576) :
    Calls Try.prog 26 #[.agg #[.slice a0 x0.length c0, .slice a1 x1.length c1]] w (RetM 2 31 w (allF ⟨x0, x1⟩)) := by
  have X0 : Bx w (w.alloc (.cells #[.slice a0 x0.length c0, .slice a1 x1.length c1] 27)) [.slice a0 x0.length c0, .slice a1 x1.length c1] 27 := Bx.start w _ _
  have LV := Lib.hid (validWishes_any _ a0 c0 x0 a1 c1 x1 (h.to X0.1) hl0 hin0 hl1 hin1)
  have LC := Lib.hid (fun w' => count_any w' a0 c0 x0 a1 c1 x1)
  cases t1 : wishB ⟨x0, x1⟩ with
  | false =>
    rw [all_no1 t1]
    rw [t1] at LV
    clear h hin0 hin1 t1
    obtain ⟨q0, q1⟩ := X0.two
    go_enter Try.func26, Try.ntmps26
    go_wp2_with fail
    refine LV.out.mono ?_
    rintro e w1 ⟨rfl, hb1⟩
    have X1 := X0.next hb1
    clear hb1 q0 q1
    go_wp2_with fail
    go_ret2
    exact ⟨X1.1, rfl⟩
  | true =>
  rw [t1] at LV
  have hv := wish_of t1
  have h8 := hv.n8
  have h1 := hv.n1
  simp only at h8 h1
  by_cases h5 : x0.length ≤ 5
  case neg =>
    rw [all_no2 h5]
    have hgt : (5 : Int) < (x0.length : Int) := by omega
    clear h hin0 hin1 t1 hv
    obtain ⟨q0, q1⟩ := X0.two
    go_enter Try.func26, Try.ntmps26
    go_wp2_with fail
    refine LV.out.mono ?_
    rintro e w1 ⟨rfl, hb1⟩
    have X1 := X0.next hb1
    clear q0 q1
    obtain ⟨q0, q1⟩ := X1.two
    clear hb1
    go_wp2_with fail
    refine (LC.out _).mono ?_
    rintro e w2 ⟨rfl, hb2⟩
    have X2 := X1.next hb2
    clear hb2 q0 q1
    go_wp2_with fail
    go_ret2
    exact ⟨X2.1, rfl⟩
  rw [all_yes t1 h5]
  have LN := Lib.hid (fun w' => none_any w' x0.length h1 (by omega))
  have hfew := Lib.hid (allStab_few (w := ⟨x0, x1⟩) h5)
  have LP : Hid (∀ (t0 gO gd gM gP lo : Nat) (L : LayA w.heap.size t0 gO gd gM gP lo) (w' : World), PA w [.slice a0 x0.length c0, .slice a1 x1.length c1] x0.length t0 gO gd gM gP lo [] [] w' → _) := fun t0 gO gd gM gP lo L w' hP =>
    putA_any w a0 c0 x0 a1 c1 x1 h hv hin0 hin1 t0 gO gd gM gP lo L 7776 (by omega) x0.length [] [] w' hP (by simp) rfl (by rw [deep_all]; simpa using hfew.out)
  rw [deep_all] at LP
  have hgt : ¬ (5 : Int) < (x0.length : Int) := by omega
  clear h hin0 hin1 t1 hv
  obtain ⟨q0, q1⟩ := X0.two
  have hEP := enter_all
  go_enter Try.func26, Try.ntmps26
  go_wp2_with fail
  refine LV.out.mono ?_
  rintro e w1 ⟨rfl, hb1⟩
  have X1 := X0.next hb1
  clear q0 q1 X0
  obtain ⟨q0, q1⟩ := X1.two
  clear hb1
  go_wp2_with fail
  refine (LC.out _).mono ?_
  rintro e w2 ⟨rfl, hb2⟩
  have X2 := X1.next hb2
  clear hb2 q0 q1 X1 LV
  have XA := X2.next (bl2 w2 (.cells #[] 31) (.cells #[.slice (some ⟨w2.heap.size, 0, none⟩) 0 0] 25))
  have hx2 := X2.lt
  have BO := Lib.hid (Blk.new (w2.alloc (.cells #[] 31)) [.slice (some ⟨w2.heap.size, 0, none⟩) 0 0] 25)
  have OO := Lib.hid ((own_empty w2 31).alloc (.cells #[.slice (some ⟨w2.heap.size, 0, none⟩) 0 0] 25))
  obtain ⟨q0, q1⟩ := XA.two
  clear X2
  go_wp2_with fail
  refine (LC.out _).mono ?_
  rintro e w4 ⟨rfl, hb4⟩
  have X4 := XA.next hb4
  have BO4 := Lib.hid (BO.out.same hb4)
  have OO4 := Lib.hid (own_below OO.out hb4)
  have s4 := hb4.size
  rw [World.size_alloc, World.size_alloc] at s4
  clear hb4 q0 q1 XA BO OO
  go_wp2_with fail
  refine (LN.out _).mono ?_
  rintro e w5 ⟨rfl, hd5, hb5⟩
  have X5 := X4.next hb5
  have BO5 := Lib.hid (BO4.out.same hb5)
  have OO5 := Lib.hid (own_below OO4.out hb5)
  have MD5 := Lib.hid hd5
  have s5 := hd5.lt
  clear hb5 hd5 X4 BO4 OO4
  rw [World.size_alloc] at BO5
  have HL : LayA w.heap.size w2.heap.size (w2.heap.size + 1) (w4.heap.size + 1) w5.heap.size (w5.heap.size + 1) (w5.heap.size + 2) := ⟨by omega, by omega, by omega, by omega, by omega, by omega⟩
  have LP1 := Lib.hid (LP.out _ _ _ _ _ _ HL)
  clear LP LN LC
  go_wp2_with fail
  refine (LP1.out _ ?_).mono ?_
  · refine ⟨X5.next (bl2 _ _ _), by simp <;> omega, ?_, ?_, ?_, some ⟨w2.heap.size, 0, none⟩, 0, [], ?_, ?_⟩
    · exact ((MD5.out.alloc _).alloc _)
    · exact ((Blk.new w5 [.slice (some ⟨w4.heap.size + 1, 0, none⟩) x0.length x0.length] 31).alloc _)
    · have := Blk.new (w5.alloc (.cells #[.slice (some ⟨w4.heap.size + 1, 0, none⟩) x0.length x0.length] 31)) [putV w.heap.size (w2.heap.size + 1) w5.heap.size (w5.heap.size + 1)] 78
      simpa [putV] using this
    · exact ((BO5.out.alloc _).alloc _)
    · exact (OwnTop.start ((OO5.out.alloc _).alloc _) (fun g hg => by simp [Value.ownBlock] at hg; exact hg.symm))
  rintro e w6 ⟨rfl, hP⟩
  obtain ⟨a, c, vs, hO, hT⟩ := hP.ob
  have c6 := hO.cell 0
  simp only [List.getElem?_cons_zero, List.nil_append] at c6
  have hB6 := Lib.hid hP.bx.1
  have hR : OwnRows 2 31 w6 w2.heap.size w6.heap.size (.slice a (allStabF ⟨x0, x1⟩).length c) vs (allStabF ⟨x0, x1⟩) := hT.rows (by omega) (by have := hP.sz; omega)
  have HR := Lib.hid hR
  clear hP hO hT hR LP1 MD5 BO5 OO5 X5
  go_wp2_with fail
  go_ret2
  exact ⟨hB6.out, a, c, rfl, OwnLL.mono ⟨vs, HR.out⟩ (by omega) (Nat.le_refl _)⟩
end Go.Proofs.Ytchfibmndcfpiaa
