/-
  All turns of a stable match: the reference's road; TurnsOf.
-/
import Derived.Test.YtdipckpcmnhpjaaMatNR
import Derived.Test.YtdipckpcmnhpjaaMatC
namespace Go.Proofs.Ytdipckpcmnhpjaa
set_option linter.unusedVariables false
set_option linter.unusedSimpArgs false
open Go.RowKit

set_option maxRecDepth 10000 in
set_option maxHeartbeats 8000000 in
theorem l05Turns_any (w : World) (bb oo : Nat) (a0 : Option Addr) (c0 : Nat) (x0 : List (List Int)) (a1 : Option Addr) (c1 : Nat) (x1 : List (List Int)) (d0 : w.cell? ⟨bb, oo, none⟩ = some (.slice a0 x0.length c0)) (d1 : w.cell? ⟨bb, oo + 1, none⟩ = some (.slice a1 x1.length c1)) (hbl : bb < w.heap.size)
    (h : RdWishes w w.heap.size a0 x0 a1 x1) (hv : Wish ⟨x0, x1⟩) (hin0 : ∀ y ∈ x0, y.length ≤ 1048576) (hin1 : ∀ y ∈ x1, y.length ≤ 1048576) (a : Option Addr) (c : Nat) (m : List Int) (g : Rd w w.heap.size a (ints m)) (hm : Mat ⟨x0, x1⟩ m) :
    Calls Try.prog 83 #[.pointer (some ⟨bb, oo, none⟩), .slice a m.length c] w fun e w' => ∃ a' c', e = .returned (.slice a' (turnsF ⟨x0, x1⟩ m).length c') ∧ OwnLL 2 25 w' w.heap.size w'.heap.size a' c' (turnsF ⟨x0, x1⟩ m) ∧ Below w.heap.size w w' := by
  have h8 := hv.n8
  have h1 := hv.n1
  have hml := hm.len
  simp only at h8 h1 hml
  have LB := Lib.hid (l05Back_any w ⟨x0, x1⟩ a c m g hm (by omega) (by omega))
  have LN : Hid (∀ (w' : World) (a4 : Option Addr) (c4 : Nat) (i : Nat), Below w.heap.size w w' → Rd w' w'.heap.size a4 (ints (backL m m.length)) → i < m.length → _) := fun w' a4 c4 i hb rb hi => l05Next_any w' bb oo a0 c0 x0 a1 c1 x1 ((hb.cell (p := ⟨bb, oo, none⟩) hbl).trans d0) ((hb.cell (p := ⟨bb, oo + 1, none⟩) hbl).trans d1) (Nat.lt_of_lt_of_le hbl hb.size) (h.to hb) hv hin0 hin1 a c m (g.to hb) hm a4 c4 rb i (by omega)
  have HV : Hid (∀ i : Nat, i < m.length → nextF ⟨x0, x1⟩ m i = -1 ∨ ∃ j : Nat, nextF ⟨x0, x1⟩ m i = j ∧ j < m.length ∧ j ≠ i) := fun i hi => (nextF_spec hv hm (show i < x0.length by omega)).imp id fun ⟨j, _, h1, h2, h3, _⟩ => ⟨j, h1, by have h2' : j < x0.length := h2; omega, h3⟩
  have HIt : Hid (∀ i t y : Nat, itZ (nextZ ⟨x0, x1⟩ m) i t = y → itZ (nextZ ⟨x0, x1⟩ m) i (t + 1) = nextF ⟨x0, x1⟩ m y) := fun i t y he => itZ_next he
  have HIt0 : Hid (∀ i : Nat, itZ (nextZ ⟨x0, x1⟩ m) i 1 = nextF ⟨x0, x1⟩ m i) := fun i => itZ_next (t := 0) (y := i) rfl
  have HNo : Hid (∀ i : Nat, ringF (nextZ ⟨x0, x1⟩ m) i x0.length = none → TF ⟨x0, x1⟩ m (i + 1) = TF ⟨x0, x1⟩ m i) := fun i hh => TF_none hh
  have HYes : Hid (∀ (i : Nat) (r : List Int), ringF (nextZ ⟨x0, x1⟩ m) i x0.length = some r → TF ⟨x0, x1⟩ m (i + 1) = TF ⟨x0, x1⟩ m i ++ [r]) := fun i r hh => TF_some hh
  have HAll : Hid (TF ⟨x0, x1⟩ m m.length = turnsF ⟨x0, x1⟩ m) := by rw [Hid, hml]; rfl
  have HLen := Lib.hid (TF_len ⟨x0, x1⟩ m)
  have HZ : Hid (TF ⟨x0, x1⟩ m 0 = []) := rfl
  have Hhit : Hid (∀ i t : Nat, t ≤ m.length → itZ (nextZ ⟨x0, x1⟩ m) i (t + 1) = i → (∀ s, s < t → (i : Int) < itZ (nextZ ⟨x0, x1⟩ m) i (s + 1)) → ringF (nextZ ⟨x0, x1⟩ m) i x0.length = some (rg (nextZ ⟨x0, x1⟩ m) i t)) := fun i t ht he hb => by
    rw [ringF_hit (t := t) (by omega) (by omega) hb, if_pos he]; rfl
  have Hlow : Hid (∀ i t : Nat, t ≤ m.length → itZ (nextZ ⟨x0, x1⟩ m) i (t + 1) < i → (∀ s, s < t → (i : Int) < itZ (nextZ ⟨x0, x1⟩ m) i (s + 1)) → ringF (nextZ ⟨x0, x1⟩ m) i x0.length = none) := fun i t ht he hb => by
    rw [ringF_hit (t := t) (by omega) (by omega) hb, if_neg (by omega)]
  have Hnev : Hid (∀ i : Nat, (∀ s, s ≤ m.length → (i : Int) < itZ (nextZ ⟨x0, x1⟩ m) i (s + 1)) → ringF (nextZ ⟨x0, x1⟩ m) i x0.length = none) := fun i hb => ringF_none fun s hs => hb s (by omega)
  obtain ⟨n, hn⟩ : ∃ n, n = m.length := ⟨_, rfl⟩
  rw [← hn] at LB LN HV HAll Hhit Hlow Hnev hml ⊢
  have hn8 : n ≤ 8 := by omega
  generalize hgz : nextZ ⟨x0, x1⟩ m = gz at *
  generalize hnf : nextF ⟨x0, x1⟩ m = nf at *
  generalize htf : TF ⟨x0, x1⟩ m = tf at *
  generalize htt : turnsF ⟨x0, x1⟩ m = tt at *
  generalize hbk : backL m n = bk at *
  generalize hrf : (fun i : Nat => ringF gz (i : Int) x0.length) = rf at *
  have hrf' : ∀ i : Nat, ringF gz (i : Int) x0.length = rf i := fun i => by rw [← hrf]
  simp only [hrf'] at HNo HYes Hhit Hlow Hnev
  clear h g hv hm hin0 hin1 hgz hnf htf htt hbk hrf hrf' hml hn h8 h1 d0 d1
  go_enter Try.func83, Try.ntmps83
  go_wp2_with fail
  refine LB.out.mono ?_
  rintro e w1 ⟨ab, cb, rfl, ob, hb1⟩
  have hs1 := hb1.size
  have HB1 := Lib.hid hb1
  have RB := Lib.hid ob.rd
  have hO0 := OwnRows.start (T := 2) (own_empty w1 25)
  have hB1 := bl1 w1 (.cells #[] 25)
  have HO0 := Lib.hid hO0
  clear hb1 ob LB hO0
  go_wp2_with fail
  go_loopw [7, 6] (fun iv v wr => ∃ (i : Nat) (a2 : Option Addr) (c2 m2 : Nat) (vs : List Value), i ≤ n ∧ iv = .int .i64 i ∧ v = .slice a2 m2 c2 ∧ Hid (m2 = (tf i).length) ∧ Hid (OwnRows 2 25 wr w1.heap.size wr.heap.size (.slice a2 (tf i).length c2) vs (tf i)) ∧ Below w1.heap.size w1 wr) (fun iv _ _ => n - (intOf iv).toNat)
  case atStart => exact ⟨0, some ⟨w1.heap.size, 0, none⟩, 0, 0, [], Nat.zero_le _, rfl, rfl, by rw [HZ.out]; rfl, by rw [HZ.out]; exact HO0.out, hB1⟩
  case round =>
    clear HO0 hB1
    obtain ⟨i, a2, c2, m2, vs, hi, rfl, rfl, hm2, hO, hw1⟩ := hrel
    by_cases hlt : i < n
    · obtain ⟨wo, hwo⟩ : ∃ W : World, W = wr := ⟨_, rfl⟩
      subst hwo
      have hR0 : Hid ((wo.alloc (.cells #[.int .i64 i] 2)).ownsRow wo.heap.size 2 1 (.slice (some ⟨wo.heap.size, 0, none⟩) 1 1) 1 (ints (rg gz i 0))) := (Blk.new wo [.int .i64 i] 2).owns (Nat.le_refl _) (by simp [maxLen])
      have hB0 := bl1 wo (.cells #[.int .i64 i] 2)
      have hm8 : m2 ≤ 8 := by rw [hm2.out]; have := HLen.out i; omega
      have hs0 := hw1.size
      have LNx : Hid (∀ (w' : World) (y : Nat), Below w1.heap.size w1 w' → y < n → _) := fun w' y hb hy => LN.out w' ab cb y (HB1.out.trans (hb.mono hs1)) (RB.out.to hb) hy
      have LN0 := Lib.hid (LNx.out _ i (hw1.trans (hB0.mono hs0)) hlt)
      go_wp2_with fail
      refine LN0.out.mono ?_
      rintro e w2 ⟨rfl, hb2⟩
      have HR2 := Lib.hid (own_below hR0.out hb2)
      have hB2 := below_then hB0 hb2
      have hz0 := Lib.hid (HIt0.out i)
      have hv0 := Lib.hid (HV.out i hlt)
      clear hb2 hR0 hB0 LN0
      go_wp2_with fail
      go_loopw [8, 9] (fun v zv wr => ∃ (t c3 : Nat) (a3 : Option Addr) (z : Int), v = .slice a3 (t + 1) c3 ∧ zv = .int .i64 z ∧ t ≤ n ∧ Hid (itZ gz i (t + 1) = z) ∧ Hid (z = -1 ∨ ∃ j : Nat, z = j ∧ j < n) ∧ Hid (∀ s, s < t → (i : Int) < itZ gz i (s + 1)) ∧ Hid (wr.ownsRow wo.heap.size 2 1 (.slice a3 (t + 1) c3) (t + 1) (ints (rg gz i t))) ∧ Below wo.heap.size wo wr) (fun v _ _ => n + 2 - sliceLen v)
      case atStart => exact ⟨0, 1, _, _, rfl, rfl, Nat.zero_le _, hz0.out, hv0.out.imp id (fun ⟨j, h1, h2, _⟩ => ⟨j, h1, h2⟩), fun s hs => by omega, HR2.out, hB2⟩
      case round =>
        clear HR2 hB2 hz0 hv0
        obtain ⟨t, c3, a3, z, rfl, rfl, htn, hz, hzv, hgt, hown, hwi⟩ := hrel
        have hsi := hwi.size
        have HN2 : Hid (rf i = none → (m2 = (tf (i + 1)).length) ∧ OwnRows 2 25 wr w1.heap.size wr.heap.size (.slice a2 (tf (i + 1)).length c2) vs (tf (i + 1)) ∧ Below w1.heap.size w1 wr) := fun hh => by
          rw [HNo.out i hh]
          exact ⟨hm2.out, (hO.out.keep hwi).up hwi.size, hw1.trans (hwi.mono hs0)⟩
        by_cases hzi : (i : Int) < z
        · have hl3 : ((t + 1 : Nat) : Int) ≤ (n : Int) ∨ ¬ ((t + 1 : Nat) : Int) ≤ (n : Int) := Classical.em _
          by_cases hlt2 : t + 1 ≤ n
          · obtain ⟨j, rfl, hjn⟩ : ∃ j : Nat, z = j ∧ j < n := by
              rcases hzv.out with h | h
              · omega
              · exact h
            have LNj := Lib.hid (fun w' hb => LNx.out w' j hb hjn)
            have hz2 := Lib.hid (HIt.out i (t + 1) j hz.out)
            have hv2 := Lib.hid (HV.out j hjn)
            have hgt2 : Hid (∀ s, s < t + 1 → (i : Int) < itZ gz i (s + 1)) := fun s hs => by
              by_cases e : s = t
              · subst e; rw [hz.out]; exact hzi
              · exact hgt.out s (by omega)
            have Hsucc : Hid (rg gz i (t + 1) = rg gz i t ++ [(j : Int)]) := by rw [Hid, rg_succ, hz.out]
            clear hz hzv hgt HN2 hl3
            go_wp2_with (at_builtin; refine wpList_append_one _ rfl _ _ 25 rfl wo.heap.size 2 (.int .i64 0) 8 Try.underlying25 info_i64p rfl _ (t + 1) _ rfl hown.out (.int .i64 j) rfl rfl (by omega) (by omega) hsi ?_)
            intro v' w6 ho hgr
            have B6 := hwi.trans (below_row hown.out hgr hsi)
            obtain ⟨a6, c6, rfl, _, _⟩ := own_shape ho
            have HO6 : Hid (w6.ownsRow wo.heap.size 2 1 (.slice a6 (t + 1 + 1) c6) (t + 1 + 1) (ints (rg gz i (t + 1)))) := by rw [Hsucc.out, ints_append]; exact ho
            have LNj1 := Lib.hid (LNj.out w6 (hw1.trans (B6.mono hs0)))
            clear ho hgr hown hwi LNj
            go_wp2_with fail
            refine LNj1.out.mono ?_
            rintro e w7 ⟨rfl, hb7⟩
            have HO7 := Lib.hid (own_below HO6.out hb7)
            have B7 := B6.trans (hb7.mono B6.size)
            clear hb7 HO6 B6 LNj1
            go_wp2_with fail
            go_roundw
            case rel => exact ⟨t + 1, c6, a6, _, rfl, rfl, hlt2, hz2, hv2.out.imp id (fun ⟨j, h1, h2, _⟩ => ⟨j, h1, h2⟩), hgt2, HO7, B7⟩
            case measure => simp [sliceLen]; omega
          · have htn' : t = n := by omega
            have hnone := Hnev.out i (fun s hs => by
              by_cases e : s = t
              · subst e; rw [hz.out]; exact hzi
              · exact hgt.out s (by omega))
            obtain ⟨e1, e2, e3⟩ := HN2.out hnone
            have E1 := Lib.hid e1
            have E2 := Lib.hid e2
            have hne : (z == (i : Int)) = false := by rw [beq_eq_false_iff_ne]; omega
            have hgo : ¬ ((t + 1 : Nat) : Int) ≤ (n : Int) := by omega
            clear HN2 e1 e2 hown hwi hz hzv hgt hl3
            go_wp2_with fail
            go_roundw
            case rel => exact ⟨i + 1, a2, c2, m2, vs, by omega, by go_num, rfl, E1, E2, e3⟩
            case measure => simp [intOf]; omega
        · by_cases hze : z = i
          · have hyes := Lib.hid (Hhit.out i t htn (by rw [hz.out, hze]) hgt.out)
            subst hze
            have hne : ((i : Int) == (i : Int)) = true := by simp
            have hOo := hO.out.out
            rw [← hm2.out] at hOo
            have HOo := Lib.hid (own_below hOo hwi)
            have hwq := hw1.trans (hwi.mono hs0)
            have hsx := hwq.size
            have hrow : Hid (OwnI 2 wr wo.heap.size wr.heap.size a3 c3 (rg gz i t)) := OwnI.of_own (by rw [rg_len]; exact hown.out)
            obtain ⟨g3, rfl⟩ := own_some1 hown.out (by omega)
            have HBq := Lib.hid hwi
            clear hOo hown hwi HN2 hz hzv hgt
            go_wp2_with (at_builtin; refine wpList_append_blk _ rfl _ _ 22 rfl w1.heap.size 25 (.slice none 0 0) 24 Try.underlying22 info_intsM rfl _ m2 vs rfl HOo.out (.slice (some ⟨g3, 0, none⟩) (t + 1) c3) rfl rfl (by omega) (by omega) hsx ?_)
            intro v6 w6 o6 g6 n6
            obtain ⟨a6, c6, rfl, _, _⟩ := own_shape o6
            have HM6 : Hid (m2 + 1 = (tf (i + 1)).length) := by rw [Hid, HYes.out i _ hyes.out, List.length_append, ← hm2.out]; rfl
            have HN6 : Hid (OwnRows 2 25 w6 w1.heap.size w6.heap.size (.slice a6 (tf (i + 1)).length c6) (vs ++ [.slice (some ⟨g3, 0, none⟩) (rg gz i t).length c3]) (tf (i + 1))) := by
              rw [← HM6.out, HYes.out i _ hyes.out]
              have hOO := hO.out
              rw [← hm2.out] at hOO
              exact OwnRows.snoc (w := wr) hOO HBq.out (r0 := wo.heap.size) hs0 (Nat.le_refl _) hrow.out (Nat.le_refl _) (by rw [rg_len, ← hm2.out]; exact o6) g6 n6
            have B6 := hwq.trans (below_row HOo.out g6 hsx)
            clear o6 g6 n6 HOo hrow HBq hwq hO
            go_wp2_with fail
            go_roundw
            case rel => exact ⟨i + 1, a6, c6, m2 + 1, _, by omega, by go_num, rfl, HM6, HN6, B6⟩
            case measure => simp [intOf]; omega
          · have hnone := Hlow.out i t htn (by rw [hz.out]; omega) hgt.out
            obtain ⟨e1, e2, e3⟩ := HN2.out hnone
            have E1 := Lib.hid e1
            have E2 := Lib.hid e2
            have hne : (z == (i : Int)) = false := by rw [beq_eq_false_iff_ne]; exact hze
            clear HN2 e1 e2 hown hwi hz hzv hgt
            go_wp2_with fail
            go_roundw
            case rel => exact ⟨i + 1, a2, c2, m2, vs, by omega, by go_num, rfl, E1, E2, e3⟩
            case measure => simp [intOf]; omega
    · have : i = n := by omega
      subst this
      have hb := HB1.out.trans (hw1.mono hs1)
      have HR : Hid (m2 = tt.length ∧ OwnLL 2 25 wr w.heap.size wr.heap.size a2 c2 tt) := by
        have h1 := hm2.out
        have h2 := hO.out
        rw [HAll.out] at h1 h2
        exact ⟨h1, (show OwnLL 2 25 wr w1.heap.size wr.heap.size a2 c2 tt from ⟨vs, h2⟩).mono hs1 (Nat.le_refl _)⟩
      clear hm2 hO
      go_wp2_with fail
      go_ret
      exact ⟨a2, c2, by rw [HR.out.1]; rfl, HR.out.2, hb⟩
/-- Lists of lists and true, or nil and false. -/
def RetM (T T2 : Nat) (w : World) (r : Option (List (List Int))) (e : Ending) (w' : World) : Prop :=
  Below w.heap.size w w' ∧ match r with
    | none => e = .returned (.tuple #[.slice none 0 0, .bool false])
    | some yss => ∃ a c, e = .returned (.tuple #[.slice a yss.length c, .bool true]) ∧ OwnLL T T2 w' w.heap.size w'.heap.size a c yss
theorem flat_ofM {f : Nat} {args : Array Value} {w : World} {T T2 : Nat} {r : Option (List (List Int))} (h : Calls Try.prog f args w (RetM T T2 w r)) :
    Calls Try.prog f args w fun e w' => ∃ a c, e = .returned (.tuple #[.slice a (r.getD []).length c, .bool r.isSome]) ∧ OwnLL T T2 w' w.heap.size w'.heap.size a c (r.getD []) ∧ Below w.heap.size w w' := by
  refine h.mono fun e w' hR => ?_
  obtain ⟨hb, h2⟩ := hR
  cases r with
  | none => exact ⟨none, 0, h2, OwnLL.nil, hb⟩
  | some yss =>
    obtain ⟨a, c, he, ho⟩ := h2
    exact ⟨a, c, he, ho, hb⟩
theorem turnsOf_no {w : Wi} {m : List Int} (h : (wishB w && stableB w m) = false) : turnsOfF w m = none := by unfold turnsOfF; rw [h]; rfl
theorem turnsOf_yes {w : Wi} {m : List Int} (h : (wishB w && stableB w m) = true) : turnsOfF w m = some (turnsF w m) := by unfold turnsOfF; rw [h]; rfl
set_option maxRecDepth 10000 in
set_option maxHeartbeats 4000000 in
theorem turnsOfR_any (w : World) (a0 : Option Addr) (c0 : Nat) (x0 : List (List Int)) (a1 : Option Addr) (c1 : Nat) (x1 : List (List Int)) (a : Option Addr) (c : Nat) (m : List Int) (h : RdWishes w w.heap.size a0 x0 a1 x1) (hl0 : x0.length ≤ 1048576) (hin0 : ∀ y ∈ x0, y.length ≤ 1048576) (hl1 : x1.length ≤ 1048576) (hin1 : ∀ y ∈ x1, y.length ≤ 1048576)
    (g : Rd w w.heap.size a (ints m)) (hl : m.length ≤ 1048576) (hc : m.length ≤ c) :
    Calls Try.prog 40 #[.agg #[.slice a0 x0.length c0, .slice a1 x1.length c1], .slice a m.length c] w (RetM 2 25 w (turnsOfF ⟨x0, x1⟩ m)) := by
  have hB := bl1 w (.cells #[.slice a0 x0.length c0, .slice a1 x1.length c1] 28)
  have k := Blk.new w [.slice a0 x0.length c0, .slice a1 x1.length c1] 28
  have LS := Lib.hid (l05Stable_any _ w.heap.size 0 a0 c0 x0 a1 c1 x1 (k.cell 0) (k.cell 1) (by simp) a c m (h.to hB) hl0 hin0 hl1 hin1 (g.to hB) hl hc)
  cases t1 : wishB ⟨x0, x1⟩ && stableB ⟨x0, x1⟩ m with
  | false =>
    rw [turnsOf_no t1]
    rw [t1] at LS
    clear h g hin0 hin1 t1 k
    go_enter Try.func40, Try.ntmps40
    go_wp2_with fail
    refine LS.out.mono ?_
    rintro e w1 ⟨rfl, hb1⟩
    have B1 := below_then hB hb1
    clear hb1
    go_wp2_with fail
    go_ret2
    exact ⟨B1, rfl⟩
  | true =>
    rw [turnsOf_yes t1]
    rw [t1] at LS
    rw [Bool.and_eq_true] at t1
    have hv := wish_of t1.1
    have hm := stab_of t1.2
    have KK : Hid (∀ w', Below (w.heap.size + 1) (w.alloc (.cells #[.slice a0 x0.length c0, .slice a1 x1.length c1] 28)) w' → Blk w' w.heap.size [.slice a0 x0.length c0, .slice a1 x1.length c1] 28) := fun w' hb => k.below hb (by omega)
    have LT : Hid (∀ w', Below (w.heap.size + 1) (w.alloc (.cells #[.slice a0 x0.length c0, .slice a1 x1.length c1] 28)) w' → Below w.heap.size w w' → _) := fun w' hb hb' => l05Turns_any w' w.heap.size 0 a0 c0 x0 a1 c1 x1 ((KK.out w' hb).cell 0) ((KK.out w' hb).cell 1) (KK.out w' hb).lt (h.to hb') hv hin0 hin1 a c m (g.to hb') hm
    generalize turnsF ⟨x0, x1⟩ m = tt at *
    clear h g hin0 hin1 t1 k hv hm
    go_enter Try.func40, Try.ntmps40
    go_wp2_with fail
    refine LS.out.mono ?_
    rintro e w1 ⟨rfl, hb1⟩
    have B1 := below_then hB hb1
    have LT1 := Lib.hid (LT.out w1 (by simpa using hb1) B1)
    clear hb1 LT
    go_wp2_with fail
    refine LT1.out.mono ?_
    rintro e w2 ⟨a', c', rfl, o2, hb2⟩
    have B2 := below_then B1 hb2
    have HO := Lib.hid (o2.mono B1.size (Nat.le_refl _))
    clear hb2 o2 LT1 LS
    go_wp2_with fail
    go_ret2
    exact ⟨B2, a', c', rfl, HO.out⟩
set_option maxRecDepth 10000 in
set_option maxHeartbeats 4000000 in
theorem turnsOf_any (w : World) (a0 : Option Addr) (c0 : Nat) (x0 : List (List Int)) (a1 : Option Addr) (c1 : Nat) (x1 : List (List Int)) (a : Option Addr) (c : Nat) (m : List Int) (h : RdWishes w w.heap.size a0 x0 a1 x1) (hl0 : x0.length ≤ 1048576) (hin0 : ∀ y ∈ x0, y.length ≤ 1048576) (hl1 : x1.length ≤ 1048576) (hin1 : ∀ y ∈ x1, y.length ≤ 1048576)
    (g : Rd w w.heap.size a (ints m)) (hl : m.length ≤ 1048576) :
    Calls Try.prog 41 #[.agg #[.slice a0 x0.length c0, .slice a1 x1.length c1], .slice a m.length c] w (RetM 2 25 w (turnsOfF ⟨x0, x1⟩ m)) := by
  have X0 : Bx w (w.alloc (.cells #[.slice a0 x0.length c0, .slice a1 x1.length c1] 28)) [.slice a0 x0.length c0, .slice a1 x1.length c1] 28 := Bx.start w _ _
  have LA := Lib.hid (isMatchI_any _ a0 c0 x0 a1 c1 x1 a c m (h.to X0.1) hl0 hin0 hl1 hin1 (g.to X0.1) hl)
  cases t1 : wishB ⟨x0, x1⟩ && matchB ⟨x0, x1⟩ m with
  | false =>
    rw [turnsOf_no (stab_no t1)]
    rw [t1] at LA
    clear h g hin0 hin1 t1
    go_enter Try.func41, Try.ntmps41
    go_wp2_with fail
    refine LA.out.mono ?_
    rintro e w1 ⟨rfl, hb1⟩
    have X1 := X0.next hb1
    clear hb1
    go_wp2_with fail
    go_ret2
    exact ⟨X1.1, rfl⟩
  | true =>
  have hv := wish_of (Bool.and_eq_true _ _ ▸ t1 : wishB ⟨x0, x1⟩ = true ∧ _).1
  have hm := mat_of (Bool.and_eq_true _ _ ▸ t1 : _ ∧ matchB ⟨x0, x1⟩ m = true).2
  have LC := Lib.hid (fun w' hb => isStableW_any w' a0 c0 x0 a1 c1 x1 (h.to hb) hv hin0 hin1 a c m (g.to hb) hm)
  rw [← stab_two t1] at LC
  rw [t1] at LA
  cases t2 : wishB ⟨x0, x1⟩ && stableB ⟨x0, x1⟩ m with
  | false =>
    rw [turnsOf_no t2]
    rw [t2] at LC
    clear h g hin0 hin1 t1 t2 hv hm
    go_enter Try.func41, Try.ntmps41
    go_wp2_with fail
    refine LA.out.mono ?_
    rintro e w1 ⟨rfl, hb1⟩
    have X1 := X0.next hb1
    obtain ⟨q0, q1⟩ := X1.two
    clear hb1 LA
    go_wp2_with fail
    refine (LC.out _ X1.1).mono ?_
    rintro e w2 ⟨rfl, hb2⟩
    have X2 := X1.next hb2
    clear hb2 q0 q1
    go_wp2_with fail
    go_ret2
    exact ⟨X2.1, rfl⟩
  | true =>
    rw [turnsOf_yes t2]
    rw [t2] at LC
    have LT := Lib.hid (fun w' hb => turnsW_any w' a0 c0 x0 a1 c1 x1 (h.to hb) hv hin0 hin1 a c m (g.to hb) hm)
    generalize turnsF ⟨x0, x1⟩ m = tt at *
    clear h g hin0 hin1 t1 t2 hv hm
    go_enter Try.func41, Try.ntmps41
    go_wp2_with fail
    refine LA.out.mono ?_
    rintro e w1 ⟨rfl, hb1⟩
    have X1 := X0.next hb1
    obtain ⟨q0, q1⟩ := X1.two
    clear hb1 LA
    go_wp2_with fail
    refine (LC.out _ X1.1).mono ?_
    rintro e w2 ⟨rfl, hb2⟩
    have X2 := X1.next hb2
    clear q0 q1
    obtain ⟨q0, q1⟩ := X2.two
    clear hb2 LC
    go_wp2_with fail
    refine (LT.out _ X2.1).mono ?_
    rintro e w3 ⟨a', c', rfl, o3, hb3⟩
    have X3 := X2.next hb3
    have HO := Lib.hid (o3.mono X2.1.size (Nat.le_refl _))
    clear hb3 o3 q0 q1 LT
    go_wp2_with fail
    go_ret2
    exact ⟨X3.1, a', c', rfl, HO.out⟩
end Go.Proofs.Ytdipckpcmnhpjaa
