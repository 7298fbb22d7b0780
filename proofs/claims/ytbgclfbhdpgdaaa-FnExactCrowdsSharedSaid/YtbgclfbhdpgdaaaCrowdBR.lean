/-
  The first user who would rather take another way: the reference's road.
-/
import Derived.Test.YtbgclfbhdpgdaaaCrowdB
namespace Go.Proofs.Ytbgclfbhdpgdaaa
set_option linter.unusedVariables false
set_option linter.unusedSimpArgs false
open Go.RowKit

set_option maxRecDepth 10000 in
set_option maxHeartbeats 2000000 in
theorem l06With_any (w : World) (a : Option Addr) (c : Nat) (ch : List Int) (u : Nat) (k : Int) (h : Rd w w.heap.size a (ints ch)) (hu : u < ch.length) (hl : ch.length ≤ 1048576) :
    Calls Try.prog 82 #[.slice a ch.length c, .int .i64 u, .int .i64 k] w fun e w' => ∃ a' c', e = .returned (.slice a' ch.length c') ∧ OwnI 2 w' w.heap.size w'.heap.size a' c' (ch.set u k) ∧ Below w.heap.size w w' := by
  obtain ⟨b, o, rfl, hb, hcell⟩ := h.at hu
  clear h
  go_enter Try.func82, Try.ntmps82
  go_wp2_with (at_builtin; refine append_manyC _ rfl _ _ 22 rfl w.heap.size 2 (.int .i64 0) 8 Try.underlying22 info_i64p rfl _ 0 [] rfl (own_emptyC w 2) b o ch.length c ch rfl rfl ?_ (by omega) (by omega) (by simp) ?_)
  · intro j hj
    rw [(bl1 w _).cell (p := ⟨b, o + j, none⟩) hb, hcell j hj]
  intro v1 w1 o1 g1
  have B1 := below_append (bl1 w (.cells #[] 2)) (own_emptyC w 2) g1 (Nat.le_refl _) (by simp)
  obtain ⟨a1, c1, rfl, hc1, _⟩ := own_shape o1
  obtain ⟨q, tl, rfl, hq, hbq, hcc, hccm, hcl⟩ := own_open o1 (by omega)
  have e1 := cell_app hbq (j := u) hu
  have f1 := hbq.free u
  have hset := set_app hbq (j := u) hu k
  have B2 := below_sto B1 hq u (.int .i64 k)
  have HR : Hid (OwnI 2 (w1.setCell ⟨q, u, none⟩ (.int .i64 k)) w.heap.size (w1.setCell ⟨q, u, none⟩ (.int .i64 k)).heap.size (some ⟨q, 0, none⟩) c1 (ch.set u k)) := by
    refine OwnI.of_own ?_
    rw [List.length_set]
    refine own_close hset hq (by simp) hcc hccm ?_
    simp at hcl ⊢
    omega
  clear o1 g1 hcell hbq hset
  go_wp2_with fail
  go_ret
  exact ⟨_, _, rfl, HR.out, B2⟩
def betL (C : Cr) (ch : List Int) : Option (List Int) := (betterF C ch).map fun p => ch.set p.1 (p.2 : Int)
theorem betL_len {C : Cr} {ch ys : List Int} (h : betL C ch = some ys) : ys.length = ch.length := by
  unfold betL at h
  cases hb : betterF C ch with
  | none => rw [hb] at h; cases h
  | some p => rw [hb] at h; injection h with h; subst h; simp
def bestN : Option Nat → Int
  | none => -1
  | some k => k
set_option maxRecDepth 10000 in
set_option maxHeartbeats 8000000 in
theorem l06Better_any (w : World) (b o : Nat) (U : Int) (n : Nat) (a2 : Option Addr) (c2 : Nat) (x2 : List Int) (a3 : Option Addr) (c3 : Nat) (x3 : List Int) (a : Option Addr) (c : Nat) (ch : List Int)
    (d0 : w.cell? ⟨b, o, none⟩ = some (.int .i64 U)) (d1 : w.cell? ⟨b, o + 1, none⟩ = some (.int .i64 n)) (d2 : w.cell? ⟨b, o + 2, none⟩ = some (.slice a2 x2.length c2)) (d3 : w.cell? ⟨b, o + 3, none⟩ = some (.slice a3 x3.length c3))
    (h : RdCrowd w w.heap.size a2 x2 a3 x3) (g : Rd w w.heap.size a (ints ch)) (hc : Can ⟨U, n, x2, x3⟩ ch) :
    Calls Try.prog 51 #[.pointer (some ⟨b, o, none⟩), .slice a ch.length c] w (RetI 2 w (betL ⟨U, n, x2, x3⟩ ch)) := by
  have hUl : (ch.length : Int) = U := hc.len
  have hU8 : ch.length ≤ 8 := by have := hc.v.u8; simp only at this; omega
  have hU1 : 1 ≤ ch.length := by have := hc.v.u1; simp only at this; omega
  have hw8 : x2.length ≤ 8 := hc.v.w8
  have hbw := World.block_lt_of_cell? w _ d0
  simp only at hbw
  have LP : Hid (∀ (w' : World) (a' : Option Addr) (c' : Nat) (ch' : List Int) (u : Nat) (hb : Below w.heap.size w w') (hr : Rd w' w'.heap.size a' (ints ch')) (hl : ch'.length = ch.length) (hcn : Can ⟨U, n, x2, x3⟩ ch') (hu : u < ch'.length),
      Calls Try.prog 81 #[.pointer (some ⟨b, o, none⟩), .slice a' ch.length c', .int .i64 u] w' fun e w'' => e = .returned (.int .i64 (paysF ⟨U, n, x2, x3⟩ ch' u)) ∧ Below w'.heap.size w' w'') := fun w' a' c' ch' u hb hr hl hcn hu => by
    rw [← hl]
    exact l06Pays_any w' b o U n a2 c2 x2 a3 c3 x3 a' c' ch' u ((hb.cell (p := ⟨b, o, none⟩) hbw).trans d0) ((hb.cell (p := ⟨b, o + 1, none⟩) hbw).trans d1) ((hb.cell (p := ⟨b, o + 2, none⟩) hbw).trans d2) ((hb.cell (p := ⟨b, o + 3, none⟩) hbw).trans d3) (h.to hb) hr hcn hu
  have LW := Lib.hid (fun (w' : World) (hb : Below w.heap.size w w') (u : Nat) (k : Int) (hu : u < ch.length) => l06With_any w' a c ch u k (g.to hb) hu (by omega))
  have HCan := Lib.hid hc
  have Hg := Lib.hid g
  have Hpb : Hid (∀ ch' u, -800000 ≤ paysF ⟨U, n, x2, x3⟩ ch' u ∧ paysF ⟨U, n, x2, x3⟩ ch' u ≤ 800000) := fun ch' u => pays_bd hc.v ch' u
  have HSC : Hid (∀ (u k : Nat), k < x2.length → Can ⟨U, n, x2, x3⟩ (ch.set u (k : Int))) := fun u k hk => hc.set hk
  have Hd0 := Lib.hid d0
  have Hd2 := Lib.hid d2
  have Hway : Hid (∀ u, wayF ⟨U, n, x2, x3⟩ ch u = (scanB ⟨U, n, x2, x3⟩ ch u x2.length).1) := fun u => rfl
  have Hstart : Hid (betterF ⟨U, n, x2, x3⟩ ch = betterFrom ⟨U, n, x2, x3⟩ ch ch.length 0) := rfl
  have HRN : Hid (∀ w', betterF ⟨U, n, x2, x3⟩ ch = none → Below w.heap.size w w' → RetI 2 w (betL ⟨U, n, x2, x3⟩ ch) (.returned (.tuple #[.slice none 0 0, .bool false])) w') := fun w' hn hb => by
    unfold betL; rw [hn]; exact RetI.no hb
  have HRS : Hid (∀ (w' : World) (u k : Nat) (a' : Option Addr) (c' : Nat), betterF ⟨U, n, x2, x3⟩ ch = some (u, k) → Below w.heap.size w w' → w'.ownsRow w.heap.size 2 1 (.slice a' ch.length c') ch.length (ints (ch.set u (k : Int))) → RetI 2 w (betL ⟨U, n, x2, x3⟩ ch) (.returned (.tuple #[.slice a' ch.length c', .bool true])) w') := fun w' u k a' c' hn hb ho => by
    unfold betL; rw [hn]; exact ⟨hb, a', c', by simp, by simpa using ho⟩
  have Hul := Lib.hid hUl
  clear h g hc d1 d2 d3 d0
  generalize hC : (⟨U, (n : Int), x2, x3⟩ : Cr) = C at *
  clear hC
  obtain ⟨N, hN⟩ : ∃ N : Nat, N = ch.length := ⟨_, rfl⟩
  have hUN : U = (ch.length : Int) := hUl.symm
  subst hUN
  clear hUl hN
  go_enter Try.func51, Try.ntmps51
  go_wp2_with fail
  go_loopw [6] (fun i wr => ∃ k : Nat, k ≤ ch.length ∧ i = .int .i64 k ∧ Hid (betterF C ch = betterFrom C ch (ch.length - k) k) ∧ Below w.heap.size w wr) (fun i _ => ch.length - (intOf i).toNat)
  case atStart => exact ⟨0, Nat.zero_le _, rfl, Hstart.out, Below.refl _ _⟩
  case round =>
    clear Hstart
    obtain ⟨k, hk, rfl, hbf, hw⟩ := hrel
    have e0 := (hw.cell (p := ⟨b, o, none⟩) hbw).trans Hd0.out
    by_cases hlt : k < ch.length
    · have LP1 := Lib.hid (LP.out wr a c ch k hw ((Hg.out.below hw (Nat.le_refl _)).mono hw.size) rfl HCan.out hlt)
      obtain ⟨p0, p1⟩ := Hpb.out ch k
      have Hfs : Hid (ch.length - k = (ch.length - (k + 1)) + 1) := by show _ = _; omega
      go_wp2_with fail
      refine LP1.out.mono ?_
      rintro e w2 ⟨rfl, hb2⟩
      have hw2 := hw.trans (hb2.mono hw.size)
      clear hb2 LP1 e0 hw
      go_wp2_with fail
      go_loopw [9, 7, 8] (fun i ll bb wi => ∃ (j : Nat) (ob : Option Nat) (l bn : Int), j ≤ x2.length ∧ i = .int .i64 j ∧ bb = .int .i64 bn ∧ ll = .int .i64 l ∧ Hid (scanB C ch k j = (ob, l)) ∧ Hid (bn = bestN ob) ∧ Below w.heap.size w wi) (fun i _ _ _ => x2.length - (intOf i).toNat)
      case atStart => exact ⟨0, none, _, _, Nat.zero_le _, rfl, rfl, rfl, rfl, rfl, hw2⟩
      case round =>
        clear hw2 p0 p1
        obtain ⟨j, ob, l, bn, hj, rfl, rfl, rfl, hsc, hbn, hw⟩ := hrel
        have e2 := (hw.cell (p := ⟨b, o + 2, none⟩) hbw).trans Hd2.out
        by_cases hlj : j < x2.length
        · have LW1 := Lib.hid (LW.out wr hw k (j : Int) hlt)
          have hst := scanB_succ C ch k j
          rw [hsc.out] at hst
          simp only at hst
          obtain ⟨p0, p1⟩ := Hpb.out (ch.set k (j : Int)) k
          have hcs := HSC.out k j hlj
          by_cases hlt2 : paysF C (ch.set k (j : Int)) k < l
          all_goals
            first | rw [if_pos hlt2] at hst | rw [if_neg hlt2] at hst
            have Hst := Lib.hid hst
            have Hcs := Lib.hid hcs
            clear hst hsc hcs
            go_wp2_with fail
            refine LW1.out.mono ?_
            rintro e w3 ⟨a3', c3', rfl, o3, hb3⟩
            have hw3 := hw.trans (hb3.mono hw.size)
            have LP2 := Lib.hid (LP.out w3 a3' c3' (ch.set k (j : Int)) k hw3 (o3.rd.mono (Nat.le_refl _)) (by simp) Hcs.out (by simpa using hlt))
            clear hb3 o3 LW1 e2 hw
            generalize paysF C (ch.set k (j : Int)) k = pj at *
            go_wp2_with fail
            refine LP2.out.mono ?_
            rintro e w4 ⟨rfl, hb4⟩
            have hw4 := hw3.trans (hb4.mono hw3.size)
            clear hb4 LP2 hw3
            go_wp2_with fail
            go_roundw
            case rel => first | exact ⟨j + 1, some j, pj, j, by omega, by go_num, rfl, rfl, Hst, rfl, hw4⟩ | exact ⟨j + 1, ob, l, bn, by omega, by go_num, rfl, rfl, Hst, hbn, hw4⟩
            case measure => simp [intOf]; omega
        · have : j = x2.length := by omega
          subst this
          have hbs := hbf.out
          rw [Hfs.out, betterFrom_step, Hway.out, hsc.out] at hbs
          simp only at hbs
          cases ob with
          | none =>
            have hb1 : bn = -1 := hbn.out
            subst hb1
            have HB2 := Lib.hid hbs
            clear hbs hsc hbf hbn
            go_wp2_with fail
            go_roundw
            case rel => exact ⟨k + 1, by omega, by go_num, HB2, hw⟩
            case measure => simp [intOf]; omega
          | some kk =>
            have hb1 : bn = (kk : Int) := hbn.out
            subst hb1
            have LW1 := Lib.hid (LW.out wr hw k (kk : Int) hlt)
            have HB2 := Lib.hid hbs
            clear hbs hsc hbf hbn
            go_wp2_with fail
            refine LW1.out.mono ?_
            rintro e w3 ⟨a3', c3', rfl, o3, hb3⟩
            have hw3 := hw.trans (hb3.mono hw.size)
            have ho := o3.1
            rw [List.length_set] at ho
            have HR := Lib.hid (HRS.out w3 k kk a3' c3' HB2.out hw3 (own_base ho hw.size))
            clear o3 ho hb3 LW1
            go_wp2_with fail
            go_ret2
            exact HR.out
    · have : k = ch.length := by omega
      subst this
      have hbs := hbf.out
      rw [Nat.sub_self] at hbs
      have HR := Lib.hid (HRN.out wr hbs hw)
      clear hbs hbf
      go_wp2_with fail
      go_ret2
      exact HR.out
end Go.Proofs.Ytbgclfbhdpgdaaa
