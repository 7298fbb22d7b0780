/-
  Users take better ways until none would: both roads.
-/
import Derived.Test.YtbgclfbhdpgdaaaBetterC
import Derived.Test.YtbgclfbhdpgdaaaRetT
namespace Go.Proofs.Ytbgclfbhdpgdaaa
set_option linter.unusedVariables false
set_option linter.unusedSimpArgs false
open Go.RowKit

def restOF (c : Cr) (ch : List Int) : Option (List Int × Int) := if canB c ch then some ((restF c ch).1, ((restF c ch).2 : Int)) else none
theorem restOF_no {c : Cr} {ch : List Int} (h : canB c ch = false) : restOF c ch = none := by simp [restOF, h]
theorem restOF_yes {c : Cr} {ch : List Int} (h : canB c ch = true) : restOF c ch = some ((restF c ch).1, ((restF c ch).2 : Int)) := by simp [restOF, h]
theorem restF_len {c : Cr} {ch : List Int} (h : Can c ch) : (restF c ch).1.length = ch.length := by
  have h1 := (restF_rest h).1.len
  have h2 := h.len
  omega
theorem restOF_len (c : Cr) (ch : List Int) (hl : ch.length ≤ 1073741824) : (((restOF c ch).map Prod.fst).getD []).length ≤ 1073741824 := by
  cases h : canB c ch with
  | false => rw [restOF_no h]; simp
  | true => rw [restOF_yes h]; simpa [restF_len (can_of h)] using hl
theorem measF_bd {c : Cr} {ch : List Int} (h : Can c ch) : measF c ch ≤ 12800000 := by
  have := pot_bd h
  unfold measF
  omega
/-- How far the way to rest is. -/
structure OnWay (c : Cr) (ch cur : List Int) (k : Nat) : Prop where
  can : Can c cur
  meas : k + measF c cur ≤ 12800000
  len : cur.length = ch.length
  to : restF c ch = ((restF c cur).1, (restF c cur).2 + k)
theorem OnWay.start {c : Cr} {ch : List Int} (h : Can c ch) : OnWay c ch ch 0 := ⟨h, by have := measF_bd h; omega, rfl, rfl⟩
theorem OnWay.step {c : Cr} {ch cur : List Int} {k u v : Nat} (h : OnWay c ch cur k) (hb : betterF c cur = some (u, v)) : OnWay c ch (cur.set u (v : Int)) (k + 1) := by
  have h1 := better_some hb
  have h2 := meas_step h.can hb
  refine ⟨h.can.set h1.2.1, by have := h.meas; omega, by rw [List.length_set, h.len], ?_⟩
  rw [h.to, restF_some h.can hb]
  simp only [Prod.mk.injEq, true_and]
  omega
theorem OnWay.done {c : Cr} {ch cur : List Int} {k : Nat} (h : OnWay c ch cur k) (hb : betterF c cur = none) : restF c ch = (cur, k) := by
  rw [h.to, restF_none hb]
  simp
set_option maxRecDepth 10000 in
set_option maxHeartbeats 4000000 in
theorem restOf_any (w : World) (U R : Int) (a2 : Option Addr) (c2 : Nat) (x2 : List Int) (a3 : Option Addr) (c3 : Nat) (x3 : List Int) (a : Option Addr) (c : Nat) (ch : List Int) (h : RdCrowd w w.heap.size a2 x2 a3 x3) (hl2 : x2.length ≤ 1048576) (hl3 : x3.length ≤ 1048576) (g : Rd w w.heap.size a (ints ch)) (hl : ch.length ≤ 1048576) :
    Calls Try.prog 23 #[.agg #[.int .i64 U, .int .i64 R, .slice a2 x2.length c2, .slice a3 x3.length c3], .slice a ch.length c] w (RetT 2 w (restOF ⟨U, R, x2, x3⟩ ch)) := by
  have LC := Lib.hid (fun w' hb => chosen_any w' U R a2 c2 x2 a3 c3 x3 a c ch (h.to hb) hl2 hl3 (g.to hb) hl)
  cases t1 : canB ⟨U, R, x2, x3⟩ ch with
  | false =>
    rw [restOF_no t1]
    rw [t1] at LC
    clear h g t1
    go_enter Try.func23, Try.ntmps23
    go_wp2_with fail
    refine (LC.out _ (bl1 _ _)).mono ?_
    rintro e w1 ⟨rfl, hb1⟩
    have B1 := below_then (bl1 w _) hb1
    clear hb1
    go_wp2_with fail
    go_ret3
    exact RetT.no B1
  | true =>
    rw [restOF_yes t1]
    rw [t1] at LC
    have hc := can_of t1
    have hU1 : 1 ≤ ch.length := by have := hc.v.u1; have := hc.len; simp only at *; omega
    obtain ⟨n, rfl⟩ := roads_nat hc
    have LB := Lib.hid (fun w' a' c' cur hb hr hcan => better_any w' U n a2 c2 x2 a3 c3 x3 a' c' cur (h.to hb) hr hcan)
    have LCl := Lib.hid (fun w' hb => clone_any w' a c ch (g.to hb) hU1 (by omega))
    have Hst : Hid (OnWay ⟨U, n, x2, x3⟩ ch ch 0) := OnWay.start hc
    clear h g t1 hc
    generalize hC : (⟨U, (n : Int), x2, x3⟩ : Cr) = C at *
    clear hC
    go_enter Try.func23, Try.ntmps23
    go_wp2_with fail
    refine (LC.out _ (bl1 _ _)).mono ?_
    rintro e w1 ⟨rfl, hb1⟩
    have kA := (Blk.new w [.int .i64 U, .int .i64 n, .slice a2 x2.length c2, .slice a3 x3.length c3] 28).same hb1
    have B1 := below_then (bl1 w (.cells #[.int .i64 U, .int .i64 n, .slice a2 x2.length c2, .slice a3 x3.length c3] 28)) hb1
    have s1 : w.heap.size < w1.heap.size := by have := hb1.size; simp at this; omega
    clear hb1 LC
    go_wp2_with fail
    refine (LCl.out _ B1).mono ?_
    rintro e w2 ⟨a1, c1, rfl, o1, hb2⟩
    obtain ⟨q, tl, rfl, hq, hbq, hcc, hccm, hcl⟩ := own_open o1.1 (by omega)
    have KA := Lib.hid (kA.same hb2)
    have KQ := Lib.hid hbq
    have B2 := below_then B1 hb2
    have hqw : w.heap.size < q := by omega
    clear hb2 o1 hbq kA B1 LCl hq s1
    go_wp2_with fail
    go_loopw [8] (fun i wr => ∃ (k : Nat) (cur : List Int), i = .int .i64 k ∧ Hid (OnWay C ch cur k) ∧ Hid (Blk wr q (ints cur ++ tl) 2) ∧ Hid (Blk wr w.heap.size [.int .i64 U, .int .i64 n, .slice a2 x2.length c2, .slice a3 x3.length c3] 28) ∧ Below w.heap.size w wr) (fun i _ => 12800001 - (intOf i).toNat)
    case atStart => exact ⟨0, ch, rfl, Hst.out, KQ.out, KA.out, B2⟩
    case round =>
      clear KA KQ B2 Hst
      obtain ⟨k, cur, rfl, hway, hG, hA, hw⟩ := hrel
      have hm := hway.out.meas
      have hcl2 := Lib.hid hway.out.len
      have q0 := hA.out.cell 0
      have q1 := hA.out.cell 1
      have q2 := hA.out.cell 2
      have q3 := hA.out.cell 3
      simp only [List.getElem?_cons_zero, List.getElem?_cons_succ] at q0 q1 q2 q3
      have hqs : q < wr.heap.size := hG.out.lt
      have LB1 := Lib.hid (LB.out wr (some ⟨q, 0, none⟩) c1 cur hw (rd_app hG.out hqs) hway.out.can)
      rw [hcl2.out] at LB1
      cases hbf : betterF C cur with
      | none =>
        have hdone := Lib.hid (hway.out.done hbf)
        simp only [hbf, bU, bK] at LB1
        clear hway hbf
        go_wp2_with fail
        refine LB1.out.mono ?_
        rintro e w3 ⟨rfl, hb3⟩
        have B3 := hw.trans (hb3.mono hw.size)
        have HR : Hid (RetT 2 w (some ((restF C ch).1, ((restF C ch).2 : Int))) (.returned (.tuple #[.slice (some ⟨q, 0, none⟩) ch.length c1, .int .i64 k, .bool true])) w3) := by
          rw [hdone.out]
          refine ⟨B3, _, _, by rw [hcl2.out], ?_⟩
          rw [hcl2.out]
          refine own_close (hG.out.same hb3) (by omega) (by simp [hcl2.out]) hcc hccm ?_
          simp [hcl2.out] at hcl ⊢
          omega
        clear hb3 LB1 B3 hG hA hw q0 q1 q2 q3
        go_wp2_with fail
        go_ret3
        exact HR.out
      | some p =>
        obtain ⟨u, v⟩ := p
        have hstep := Lib.hid (hway.out.step hbf)
        obtain ⟨hu, _, _⟩ := better_some hbf
        simp only [hbf, bU, bK] at LB1
        have hu2 : u < ch.length := by have := hcl2.out; omega
        clear hway hbf
        go_wp2_with fail
        refine LB1.out.mono ?_
        rintro e w3 ⟨rfl, hb3⟩
        have B3 := hw.trans (hb3.mono hw.size)
        have hneg : ¬ ((u : Int) < 0) := by omega
        have kQ := hG.out.same hb3
        have f1 := kQ.free u
        have e1 := cell_app kQ (j := u) hu
        have KQ2 := Lib.hid (set_app kQ (j := u) hu v)
        have KA2 := Lib.hid ((hA.out.same hb3).oth (g := q) (by omega) u (.int .i64 v))
        have B4 := below_sto B3 (g := q) (by omega) u (.int .i64 v)
        clear hb3 LB1 B3 hG hA hw q0 q1 q2 q3 kQ
        go_wp2_with fail
        go_roundw
        case rel => exact ⟨k + 1, cur.set u (v : Int), by go_num, hstep.out, KQ2.out, KA2.out, B4⟩
        case measure => simp [intOf]; omega
set_option maxRecDepth 10000 in
set_option maxHeartbeats 4000000 in
theorem l06Rest_any (w : World) (b o : Nat) (U : Int) (n : Nat) (a2 : Option Addr) (c2 : Nat) (x2 : List Int) (a3 : Option Addr) (c3 : Nat) (x3 : List Int) (a : Option Addr) (c : Nat) (ch : List Int)
    (d0 : w.cell? ⟨b, o, none⟩ = some (.int .i64 U)) (d1 : w.cell? ⟨b, o + 1, none⟩ = some (.int .i64 n)) (d2 : w.cell? ⟨b, o + 2, none⟩ = some (.slice a2 x2.length c2)) (d3 : w.cell? ⟨b, o + 3, none⟩ = some (.slice a3 x3.length c3))
    (h : RdCrowd w w.heap.size a2 x2 a3 x3) (g : Rd w w.heap.size a (ints ch)) (hc : Can ⟨U, n, x2, x3⟩ ch) :
    Calls Try.prog 55 #[.pointer (some ⟨b, o, none⟩), .slice a ch.length c] w fun e w' => ∃ a' c', e = .returned (.tuple #[.slice a' (restF ⟨U, n, x2, x3⟩ ch).1.length c', .int .i64 (restF ⟨U, n, x2, x3⟩ ch).2]) ∧ OwnI 2 w' w.heap.size w'.heap.size a' c' (restF ⟨U, n, x2, x3⟩ ch).1 ∧ Below w.heap.size w w' := by
  have hbw := World.block_lt_of_cell? w _ d0
  simp only at hbw
  have hU1 : 1 ≤ ch.length := by have := hc.v.u1; have := hc.len; simp only at *; omega
  have hU8 : ch.length ≤ 8 := by have := hc.v.u8; have := hc.len; simp only at *; omega
  have LB := Lib.hid (fun (w' : World) (a' : Option Addr) (c' : Nat) (cur : List Int) (hb : Below w.heap.size w w') hr hcan => l06Better_any w' b o U n a2 c2 x2 a3 c3 x3 a' c' cur ((hb.cell (p := ⟨b, o, none⟩) hbw).trans d0) ((hb.cell (p := ⟨b, o + 1, none⟩) hbw).trans d1) ((hb.cell (p := ⟨b, o + 2, none⟩) hbw).trans d2) ((hb.cell (p := ⟨b, o + 3, none⟩) hbw).trans d3) (h.to hb) hr hcan)
  have Hst : Hid (OnWay ⟨U, n, x2, x3⟩ ch ch 0) := OnWay.start hc
  obtain ⟨b1, o1, rfl, hb1, hcell⟩ := g.at (k := 0) (by omega)
  clear h g hc d0 d1 d2 d3
  generalize hC : (⟨U, (n : Int), x2, x3⟩ : Cr) = C at *
  clear hC
  go_enter Try.func55, Try.ntmps55
  go_wp2_with (at_builtin; refine append_manyC _ rfl _ _ 22 rfl w.heap.size 2 (.int .i64 0) 8 Try.underlying22 info_i64p rfl _ 0 [] rfl (own_emptyC w 2) b1 o1 ch.length c ch rfl rfl ?_ (by omega) (by omega) (by simp) ?_)
  · intro j hj
    rw [(bl1 w _).cell (p := ⟨b1, o1 + j, none⟩) hb1, hcell j hj]
  intro v1 w1 oo1 g1
  have B1 := below_append (bl1 w (.cells #[] 2)) (own_emptyC w 2) g1 (Nat.le_refl _) (by simp)
  obtain ⟨a1, c1, rfl, _, _⟩ := own_shape oo1
  have O1 : Hid (OwnI 2 w1 w.heap.size w1.heap.size a1 c1 ch) := OwnI.of_own (by simpa using oo1)
  clear oo1 g1 hcell hb1
  go_wp2_with fail
  go_loopw [7, 6] (fun i v wr => ∃ (k : Nat) (cur : List Int) (a' : Option Addr) (c' : Nat), i = .int .i64 k ∧ v = .slice a' ch.length c' ∧ Hid (OnWay C ch cur k) ∧ Hid (OwnI 2 wr w.heap.size wr.heap.size a' c' cur) ∧ Below w.heap.size w wr) (fun i _ _ => 12800001 - (intOf i).toNat)
  case atStart => exact ⟨0, ch, a1, c1, rfl, rfl, Hst.out, O1.out, B1⟩
  case round =>
    clear Hst O1 B1
    obtain ⟨k, cur, a', c', rfl, rfl, hway, hO, hw⟩ := hrel
    have hm := hway.out.meas
    have hcl2 := Lib.hid hway.out.len
    have LB1 := Lib.hid (LB.out wr a' c' cur hw (hO.out.rd.mono (Nat.le_refl _)) hway.out.can)
    rw [hcl2.out] at LB1
    unfold betL at LB1
    cases hbf : betterF C cur with
    | none =>
      have hdone := Lib.hid (hway.out.done hbf)
      simp only [hbf, Option.map_none] at LB1
      clear hway hbf
      go_wp2_with fail
      refine LB1.out.mono ?_
      rintro e w3 ⟨hb3, rfl⟩
      have B3 := hw.trans (hb3.mono hw.size)
      have hO3 := Lib.hid ((hO.out.keep hb3).mono (Nat.le_refl _) hb3.size)
      clear hb3 LB1 hO hw
      go_wp2_with fail
      go_ret2
      exact ⟨a', c', by rw [hdone.out]; simp [hcl2.out], by rw [hdone.out]; exact hO3.out, B3⟩
    | some p =>
      obtain ⟨u, v⟩ := p
      have hstep := Lib.hid (hway.out.step hbf)
      simp only [hbf, Option.map_some] at LB1
      clear hway hbf
      go_wp2_with fail
      refine LB1.out.mono ?_
      rintro e w3 ⟨hb3, a3', c3', rfl, o3⟩
      have B3 := hw.trans (hb3.mono hw.size)
      have o4 := own_base o3 hw.size
      have hO3 : Hid (OwnI 2 w3 w.heap.size w3.heap.size a3' c3' (cur.set u (v : Int))) := OwnI.of_own o4
      have hll : (cur.set u (v : Int)).length = ch.length := by rw [List.length_set]; exact hcl2.out
      rw [hll]
      clear hb3 LB1 hO hw o3 o4
      go_wp2_with fail
      go_roundw
      case rel => exact ⟨k + 1, cur.set u (v : Int), a3', c3', by go_num, rfl, hstep.out, hO3.out, B3⟩
      case measure => simp [intOf]; omega
set_option maxRecDepth 10000 in
set_option maxHeartbeats 4000000 in
theorem restOfR_any (w : World) (U R : Int) (a2 : Option Addr) (c2 : Nat) (x2 : List Int) (a3 : Option Addr) (c3 : Nat) (x3 : List Int) (a : Option Addr) (c : Nat) (ch : List Int) (h : RdCrowd w w.heap.size a2 x2 a3 x3) (hl2 : x2.length ≤ 1048576) (hl3 : x3.length ≤ 1048576) (g : Rd w w.heap.size a (ints ch)) (hl : ch.length ≤ 1048576) :
    Calls Try.prog 22 #[.agg #[.int .i64 U, .int .i64 R, .slice a2 x2.length c2, .slice a3 x3.length c3], .slice a ch.length c] w (RetT 2 w (restOF ⟨U, R, x2, x3⟩ ch)) := by
  have kA := Blk.new w [.int .i64 U, .int .i64 R, .slice a2 x2.length c2, .slice a3 x3.length c3] 28
  have q0 := kA.cell 0
  have q1 := kA.cell 1
  have q2 := kA.cell 2
  have q3 := kA.cell 3
  simp only [List.getElem?_cons_zero, List.getElem?_cons_succ] at q0 q1 q2 q3
  have hB := bl1 w (.cells #[.int .i64 U, .int .i64 R, .slice a2 x2.length c2, .slice a3 x3.length c3] 28)
  have LC := Lib.hid (l06Can_any _ w.heap.size 0 U R a2 c2 x2 a3 c3 x3 q0 q1 q2 q3 a c ch (h.to hB) hl2 hl3 (g.to hB) hl)
  cases t1 : canB ⟨U, R, x2, x3⟩ ch with
  | false =>
    rw [restOF_no t1]
    rw [t1] at LC
    clear h g t1 q0 q1 q2 q3 kA
    go_enter Try.func22, Try.ntmps22
    go_wp2_with fail
    refine LC.out.mono ?_
    rintro e w1 ⟨rfl, m, rfl⟩
    clear LC
    go_wp2_with fail
    go_ret3
    exact RetT.no (below_drewN hB m)
  | true =>
    rw [restOF_yes t1]
    rw [t1] at LC
    have hc := can_of t1
    obtain ⟨n, rfl⟩ := roads_nat hc
    have LB := Lib.hid (fun m => l06Rest_any ((w.alloc (.cells #[.int .i64 U, .int .i64 n, .slice a2 x2.length c2, .slice a3 x3.length c3] 28)).drewN m) w.heap.size 0 U n a2 c2 x2 a3 c3 x3 a c ch (by simp) (by simp) (by simp) (by simp) (h.to (below_drewN hB m)) (g.to (below_drewN hB m)) hc)
    clear h g t1 q0 q1 q2 q3 kA hc
    generalize restF ⟨U, (n : Int), x2, x3⟩ ch = r at *
    go_enter Try.func22, Try.ntmps22
    go_wp2_with fail
    refine LC.out.mono ?_
    rintro e w1 ⟨rfl, m, rfl⟩
    clear LC
    go_wp2_with fail
    refine (LB.out m).mono ?_
    rintro e w2 ⟨a', c', rfl, ho, hb2⟩
    have B2 := below_then (below_drewN hB m) hb2
    have HR : Hid (RetT 2 w (some (r.1, (r.2 : Int))) (.returned (.tuple #[.slice a' r.1.length c', .int .i64 r.2, .bool true])) w2) := ⟨B2, _, _, rfl, own_base ho.1 (below_drewN hB m).size⟩
    clear LB hb2 hB ho B2
    go_wp2_with fail
    go_ret3
    exact HR.out
end Go.Proofs.Ytbgclfbhdpgdaaa
