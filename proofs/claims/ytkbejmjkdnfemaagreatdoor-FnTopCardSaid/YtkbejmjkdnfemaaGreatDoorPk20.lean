/-
  Part 20 of what the proof stands on: lemmas and contracts, each with its conditions ahead of the colon.
-/
import Derived.Outline
import Derived.Laws.EntriesVeiled
import Derived.Test.YtkbejmjkdnfemaaGreatDoorPk04
import Derived.Test.YtkbejmjkdnfemaaGreatDoorPk19
namespace Go.Proofs.YtkbejmjkdnfemaaGreatDoor
set_option linter.unusedVariables false
set_option linter.unusedSimpArgs false
open Go.RowKit

def restOF (c : Cr) (ch : List Int) : Option (List Int × Int) := if canB c ch then some ((restF c ch).1, ((restF c ch).2 : Int)) else none
theorem restOF_no {c : Cr} {ch : List Int} (h : canB c ch = false) : restOF c ch = none := by simp [restOF, h]
theorem restOF_yes {c : Cr} {ch : List Int} (h : canB c ch = true) : restOF c ch = some ((restF c ch).1, ((restF c ch).2 : Int)) := by simp [restOF, h]
theorem restF_len {c : Cr} {ch : List Int} (h : Can c ch) : (restF c ch).1.length = ch.length := by
  have h1 := (restF_rest h).1.len
  have h2 := h.len
  omega
theorem measF_bd {c : Cr} {ch : List Int} (h : Can c ch) : measF c ch ≤ 12800000 := by
  have := pot_bd h
  unfold measF
  omega
/-- How far the way to rest is. -/
structure OnWay (c : Cr) (ch cur : List Int) (k : Nat) : Prop where
  can : Can c cur
  meas : k + measF c cur ≤ 12800000
  len : cur.length = ch.length
  goal : restF c ch = ((restF c cur).1, (restF c cur).2 + k)
theorem OnWay.start {c : Cr} {ch : List Int} (h : Can c ch) : OnWay c ch ch 0 := ⟨h, by have := measF_bd h; omega, rfl, rfl⟩
theorem OnWay.step {c : Cr} {ch cur : List Int} {k u v : Nat} (h : OnWay c ch cur k) (hb : betterF c cur = some (u, v)) : OnWay c ch (cur.set u (v : Int)) (k + 1) := by
  have h1 := better_some hb
  have h2 := meas_step h.can hb
  refine ⟨h.can.set h1.2.1, by have := h.meas; omega, by rw [List.length_set, h.len], ?_⟩
  rw [h.goal, restF_some h.can hb]
  simp only [Prod.mk.injEq, true_and]
  omega
theorem OnWay.done {c : Cr} {ch cur : List Int} {k : Nat} (h : OnWay c ch cur k) (hb : betterF c cur = none) : restF c ch = (cur, k) := by
  rw [h.goal, restF_none hb]
  simp
set_option maxRecDepth 10000 in
set_option maxHeartbeats 4000000 in
theorem restOf_any (w : World) (U R : Int) (a2 : Option Addr) (c2 : Nat) (x2 : List Int) (a3 : Option Addr) (c3 : Nat) (x3 : List Int) (a : Option Addr) (c : Nat) (ch : List Int) (h : RdCrowd w w.heap.size a2 x2 a3 x3) (hl2 : x2.length ≤ 1048576) (hl3 : x3.length ≤ 1048576) (g : Rd w w.heap.size a (ints ch)) (hl : ch.length ≤ 1048576) :
    Calls Tryz.prog 24 #[.agg #[.int .i64 U, .int .i64 R, .slice a2 x2.length c2, .slice a3 x3.length c3], .slice a ch.length c] w (RetT 2 w (restOF ⟨U, R, x2, x3⟩ ch)) := by
  have LC := Lib.hid (fun w' hb => chosen_any w' U R a2 c2 x2 a3 c3 x3 a c ch (h.to hb) hl2 hl3 (g.to hb) hl)
  cases t1 : canB ⟨U, R, x2, x3⟩ ch with
  | false =>
    rw [restOF_no t1]
    rw [t1] at LC
    clear h g t1
    go_enter Tryz.func24, Tryz.ntmps24
    go_wp2_with fail
    refine (LC.out _ (bl1 _ _)).mono ?_
    rintro e w1 ⟨rfl, hb1⟩
    have B1 := below_then (bl1 w _) hb1
    clear hb1
    go_wp2_with fail
    go_ret3
    exact RetT.no B1
  | true =>
    rw [restOF_yes t1]
    rw [t1] at LC
    have hc := can_of t1
    have hU1 : 1 ≤ ch.length := by have := hc.v.u1; have := hc.len; simp only at *; omega
    obtain ⟨n, rfl⟩ := roads_nat hc
    have LB := Lib.hid (fun w' a' c' cur hb hr hcan => better_any w' U n a2 c2 x2 a3 c3 x3 a' c' cur (h.to hb) hr hcan)
    have LCl := Lib.hid (fun w' hb => clone_any w' a c ch (g.to hb) hU1 (by omega))
    have Hst : Hid (OnWay ⟨U, n, x2, x3⟩ ch ch 0) := OnWay.start hc
    clear h g t1 hc
    generalize hC : (⟨U, (n : Int), x2, x3⟩ : Cr) = C at *
    clear hC
    go_enter Tryz.func24, Tryz.ntmps24
    go_wp2_with fail
    refine (LC.out _ (bl1 _ _)).mono ?_
    rintro e w1 ⟨rfl, hb1⟩
    have kA := (Blk.new w [.int .i64 U, .int .i64 n, .slice a2 x2.length c2, .slice a3 x3.length c3] 30).same hb1
    have B1 := below_then (bl1 w (.cells #[.int .i64 U, .int .i64 n, .slice a2 x2.length c2, .slice a3 x3.length c3] 30)) hb1
    have s1 : w.heap.size < w1.heap.size := by have := hb1.size; simp at this; omega
    clear hb1 LC
    go_wp2_with fail
    refine (LCl.out _ B1).mono ?_
    rintro e w2 ⟨a1, c1, rfl, o1, hb2⟩
    obtain ⟨q, tl, rfl, hq, hbq, hcc, hccm, hcl⟩ := own_open o1.1 (by omega)
    have KA := Lib.hid (kA.same hb2)
    have KQ := Lib.hid hbq
    have B2 := below_then B1 hb2
    have hqw : w.heap.size < q := by omega
    clear hb2 o1 hbq kA B1 LCl hq s1
    go_wp2_with fail
    go_loopw [8] (fun i wr => ∃ (k : Nat) (cur : List Int), i = .int .i64 k ∧ Hid (OnWay C ch cur k) ∧ Hid (Blk wr q (ints cur ++ tl) 2) ∧ Hid (Blk wr w.heap.size [.int .i64 U, .int .i64 n, .slice a2 x2.length c2, .slice a3 x3.length c3] 30) ∧ Below w.heap.size w wr) (fun i _ => 12800001 - (intOf i).toNat)
    case atStart => exact ⟨0, ch, rfl, Hst.out, KQ.out, KA.out, B2⟩
    case round =>
      clear KA KQ B2 Hst
      obtain ⟨k, cur, rfl, hway, hG, hA, hw⟩ := hrel
      have hm := hway.out.meas
      have hcl2 := Lib.hid hway.out.len
      have q0 := hA.out.cell 0
      have q1 := hA.out.cell 1
      have q2 := hA.out.cell 2
      have q3 := hA.out.cell 3
      simp only [List.getElem?_cons_zero, List.getElem?_cons_succ] at q0 q1 q2 q3
      have hqs : q < wr.heap.size := hG.out.lt
      have LB1 := Lib.hid (LB.out wr (some ⟨q, 0, none⟩) c1 cur hw (rd_app hG.out hqs) hway.out.can)
      rw [hcl2.out] at LB1
      cases hbf : betterF C cur with
      | none =>
        have hdone := Lib.hid (hway.out.done hbf)
        simp only [hbf, bU, bK] at LB1
        clear hway hbf
        go_wp2_with fail
        refine LB1.out.mono ?_
        rintro e w3 ⟨rfl, hb3⟩
        have B3 := hw.trans (hb3.mono hw.size)
        have HR : Hid (RetT 2 w (some ((restF C ch).1, ((restF C ch).2 : Int))) (.returned (.tuple #[.slice (some ⟨q, 0, none⟩) ch.length c1, .int .i64 k, .bool true])) w3) := by
          rw [hdone.out]
          refine ⟨B3, _, _, by rw [hcl2.out], ?_⟩
          rw [hcl2.out]
          refine own_close (hG.out.same hb3) (by omega) (by simp [hcl2.out]) hcc hccm ?_
          simp [hcl2.out] at hcl ⊢
          omega
        clear hb3 LB1 B3 hG hA hw q0 q1 q2 q3
        go_wp2_with fail
        go_ret3
        exact HR.out
      | some p =>
        obtain ⟨u, v⟩ := p
        have hstep := Lib.hid (hway.out.step hbf)
        obtain ⟨hu, _, _⟩ := better_some hbf
        simp only [hbf, bU, bK] at LB1
        have hu2 : u < ch.length := by have := hcl2.out; omega
        clear hway hbf
        go_wp2_with fail
        refine LB1.out.mono ?_
        rintro e w3 ⟨rfl, hb3⟩
        have B3 := hw.trans (hb3.mono hw.size)
        have hneg : ¬ ((u : Int) < 0) := by omega
        have kQ := hG.out.same hb3
        have f1 := kQ.free u
        have e1 := cell_app kQ (j := u) hu
        have KQ2 := Lib.hid (set_app kQ (j := u) hu v)
        have KA2 := Lib.hid ((hA.out.same hb3).oth (g := q) (by omega) u (.int .i64 v))
        have B4 := below_sto B3 (g := q) (by omega) u (.int .i64 v)
        clear hb3 LB1 B3 hG hA hw q0 q1 q2 q3 kQ
        go_wp2_with fail
        go_roundw
        case rel => exact ⟨k + 1, cur.set u (v : Int), by go_num, hstep.out, KQ2.out, KA2.out, B4⟩
        case measure => simp [intOf]; omega
end Go.Proofs.YtkbejmjkdnfemaaGreatDoor
namespace Go.Proofs.YtkbejmjkdnfemaaGreatDoor
set_option linter.unusedVariables false
set_option linter.unusedSimpArgs false
open Go.RowKit

def costsF (c : Cr) (ch : List Int) : List Int := (List.range ch.length).map fun (u : Nat) => paysF c ch u
theorem costsF_len (c : Cr) (ch : List Int) : (costsF c ch).length = ch.length := by simp [costsF]
theorem costsF_get {c : Cr} {ch : List Int} {k : Nat} (h : k < ch.length) : (costsF c ch)[k]? = some (paysF c ch k) := by simp [costsF, h]
theorem costsF_take {c : Cr} {ch : List Int} {k : Nat} (h : k < ch.length) : (costsF c ch).take (k + 1) = (costsF c ch).take k ++ [paysF c ch k] := by
  rw [List.take_add_one, costsF_get h]; rfl
theorem sum_range (f : Nat → Int) : ∀ n : Nat, ((List.range n).map f).sum = sumR f n
  | 0 => rfl
  | n + 1 => by rw [List.range_succ, List.map_append, List.sum_append, sum_range f n, sumR]; simp
theorem wsum_costs {c : Cr} {ch : List Int} (h : Can c ch) : wsum (costsF c ch) = totalF c ch := by
  have h8 := h.v.u8
  have hl := h.len
  have := wsum_eq (costsF c ch) 800000 (by omega) (fun x hx => by
    obtain ⟨u, _, rfl⟩ := List.mem_map.1 hx
    exact pays_bd h.v ch u) (by rw [costsF_len]; omega)
  rw [this.1, costsF, sum_range, totalF]
  congr 1
  omega
set_option maxRecDepth 10000 in
set_option maxHeartbeats 4000000 in
theorem costs_any (w : World) (U : Int) (n : Nat) (a2 : Option Addr) (c2 : Nat) (x2 : List Int) (a3 : Option Addr) (c3 : Nat) (x3 : List Int) (a : Option Addr) (c : Nat) (ch : List Int) (h : RdCrowd w w.heap.size a2 x2 a3 x3) (g : Rd w w.heap.size a (ints ch)) (hc : Can ⟨U, n, x2, x3⟩ ch) :
    Calls Tryz.prog 152 #[.agg #[.int .i64 U, .int .i64 n, .slice a2 x2.length c2, .slice a3 x3.length c3], .slice a ch.length c] w fun e w' => ∃ a' c', e = .returned (.slice a' ch.length c') ∧ OwnI 2 w' w.heap.size w'.heap.size a' c' (costsF ⟨U, n, x2, x3⟩ ch) ∧ Below w.heap.size w w' := by
  have hUl : (ch.length : Int) = U := hc.len
  have hU8 : ch.length ≤ 8 := by have := hc.v.u8; simp only at this; omega
  have hU1 : 1 ≤ ch.length := by have := hc.v.u1; simp only at this; omega
  have LCl := Lib.hid (fun w' hb => clone_any w' a c ch (g.to hb) hU1 (by omega))
  have LP := Lib.hid (fun (w' : World) (g' : Nat) (tl : List Value) (cc u wy : Nat) (hA : Blk w' g' (ints ch ++ tl) 2) (hB : w.heap.size ≤ g') (hb : Below w.heap.size w w') (hu : u < ch.length) (hw : wy < x2.length) => pays_any w' w.heap.size g' tl U n a2 c2 x2 a3 c3 x3 cc ch u wy hA hB (h.below hb (Nat.le_refl _)) hc hu hw)
  have HM : Hid (∀ x ∈ ch, 0 ≤ x ∧ x < (x2.length : Int)) := hc.mem
  have Hg := Lib.hid g
  have Hlen := Lib.hid (costsF_len ⟨U, n, x2, x3⟩ ch)
  clear h g hc hUl
  generalize hC : (⟨U, (n : Int), x2, x3⟩ : Cr) = C at *
  clear hC
  go_enter Tryz.func152, Tryz.ntmps152
  go_wp2_with fail
  refine (LCl.out _ (bl1 _ _)).mono ?_
  rintro e w1 ⟨a1, c1, rfl, o1, hb1⟩
  obtain ⟨go, tl, rfl, hgo, hbg, hcc, hccm, hcl⟩ := own_open o1.1 (by omega)
  have KA := Lib.hid ((Blk.new w [.int .i64 U, .int .i64 n, .slice a2 x2.length c2, .slice a3 x3.length c3] 30).same hb1)
  have B1 := below_then (bl1 w (.cells #[.int .i64 U, .int .i64 n, .slice a2 x2.length c2, .slice a3 x3.length c3] 30)) hb1
  have KG := Lib.hid hbg
  have hgo' : w.heap.size ≤ go := by simp at hgo; omega
  have O1 : Hid ((w1.alloc (.cells #[] 2)).ownsRow w1.heap.size 2 1 (.slice (some ⟨w1.heap.size, 0, none⟩) 0 0) 0 (ints ((costsF C ch).take 0))) := own_emptyC w1 2
  have B1e := bl1 w1 (.cells #[] 2)
  have hs1 := B1.size
  clear o1 hb1 hbg LCl
  go_wp2_with fail
  go_loopw [14, 6] (fun i v wr => ∃ k : Nat, k ≤ ch.length ∧ i = .int .i64 k ∧ Hid (wr.ownsRow w1.heap.size 2 1 v k (ints ((costsF C ch).take k))) ∧ Below w1.heap.size w1 wr) (fun i _ _ => ch.length - (intOf i).toNat)
  case atStart => exact ⟨0, Nat.zero_le _, rfl, O1.out, B1e⟩
  case round =>
    clear O1 B1e
    obtain ⟨k, hk, rfl, ho, hw⟩ := hrel
    have hww := B1.trans (hw.mono hs1)
    by_cases hlt : k < ch.length
    · obtain ⟨b1, o1, x, rfl, hbb1, hck, hx⟩ := (Hg.out.below hww (Nat.le_refl _)).get hlt
      obtain ⟨x0, x8⟩ := HM.out x (List.mem_of_getElem? hx.out)
      obtain ⟨q, rfl⟩ : ∃ q : Nat, x = q := ⟨x.toNat, by omega⟩
      have hq8 : q < x2.length := by (try simp only at x8); omega
      have Hxq : ch.getD k 0 = q := getD_of_get hx.out
      have LP1 := Lib.hid (LP.out wr go tl c1 k q (KG.out.same hw) hgo' hww hlt hq8)
      have Hset : ch.set k (q : Int) = ch := by rw [← Hxq]; exact set_same ch k
      rw [Hset] at LP1
      have q0 := (KA.out.same hw).cell 0
      have q1 := (KA.out.same hw).cell 1
      have q2 := (KA.out.same hw).cell 2
      have q3 := (KA.out.same hw).cell 3
      simp only [List.getElem?_cons_zero, List.getElem?_cons_succ] at q0 q1 q2 q3
      have Hn := Lib.hid (costsF_take (c := C) hlt)
      generalize paysF C ch k = p at *
      clear hx Hxq Hset x8
      go_wp2_with fail
      refine LP1.out.mono ?_
      rintro e w2 ⟨rfl, hb2⟩
      have hw2 := hw.trans (hb2.mono hw.size)
      have ho2 := own_below ho.out hb2
      have hs2 := hw2.size
      clear hb2 LP1 q0 q1 q2 q3 hck ho hww
      go_wp2_with (at_builtin; refine wpList_append_one _ rfl _ _ 24 rfl w1.heap.size 2 (.int .i64 0) 8 Tryz.underlying24 info_i64p rfl _ k _ rfl ho2 (.int .i64 p) rfl rfl (by omega) (by omega) hs2 ?_)
      intro v' w3 ho3 hgr
      have hw3 := below_append hw2 ho2 hgr (Nat.le_refl _) hs2
      have HO : Hid (w3.ownsRow w1.heap.size 2 1 v' (k + 1) (ints ((costsF C ch).take (k + 1)))) := by
        rw [Hn.out, ints_append]; exact ho3
      clear ho2 ho3 hgr hw2 hw
      go_wp2_with fail
      go_roundw
      case rel => exact ⟨k + 1, by omega, by go_num, HO, hw3⟩
      case measure => simp [intOf]; omega
    · have : k = ch.length := by omega
      subst this
      obtain ⟨a1, c1', rfl, _, _⟩ := own_shape ho.out
      have HR : Hid (OwnI 2 wr w.heap.size wr.heap.size a1 c1' (costsF C ch)) := by
        have := own_base ho.out hs1
        rw [List.take_of_length_le (by rw [Hlen.out]; exact Nat.le_refl _)] at this
        exact OwnI.of_own (by rw [Hlen.out]; exact this)
      clear ho
      go_wp2_with fail
      go_ret
      exact ⟨_, _, rfl, HR.out, hww⟩
set_option maxRecDepth 10000 in
set_option maxHeartbeats 4000000 in
theorem total_any (w : World) (U : Int) (n : Nat) (a2 : Option Addr) (c2 : Nat) (x2 : List Int) (a3 : Option Addr) (c3 : Nat) (x3 : List Int) (a : Option Addr) (c : Nat) (ch : List Int) (h : RdCrowd w w.heap.size a2 x2 a3 x3) (g : Rd w w.heap.size a (ints ch)) (hc : Can ⟨U, n, x2, x3⟩ ch) :
    Calls Tryz.prog 79 #[.agg #[.int .i64 U, .int .i64 n, .slice a2 x2.length c2, .slice a3 x3.length c3], .slice a ch.length c] w fun e w' => e = .returned (.int .i64 (totalF ⟨U, n, x2, x3⟩ ch)) ∧ Below w.heap.size w w' := by
  have hU8 : ch.length ≤ 8 := by have := hc.v.u8; have := hc.len; simp only at *; omega
  have LC := Lib.hid (fun w' hb => costs_any w' U n a2 c2 x2 a3 c3 x3 a c ch (h.to hb) (g.to hb) hc)
  have Hs := Lib.hid (wsum_costs hc)
  have Hlen := Lib.hid (costsF_len ⟨U, n, x2, x3⟩ ch)
  clear h g hc
  generalize hC : (⟨U, (n : Int), x2, x3⟩ : Cr) = C at *
  clear hC
  generalize costsF C ch = cs at *
  generalize totalF C ch = t at *
  go_enter Tryz.func79, Tryz.ntmps79
  go_wp2_with fail
  refine (LC.out _ (bl1 _ _)).mono ?_
  rintro e w1 ⟨a1, c1, rfl, o1, hb1⟩
  have B1 := below_then (bl1 w _) hb1
  have LS := sumOf_any w1 a1 c1 cs (o1.rd.mono (Nat.le_refl _)) (by rw [Hlen.out]; omega)
  rw [Hs.out, Hlen.out] at LS
  have LS := Lib.hid LS
  clear LC o1 hb1
  go_wp2_with fail
  refine LS.out.mono ?_
  rintro e w2 ⟨rfl, rfl⟩
  go_wp2_with fail
  go_ret
  exact ⟨rfl, B1⟩
end Go.Proofs.YtkbejmjkdnfemaaGreatDoor
namespace Go.Proofs.YtkbejmjkdnfemaaGreatDoor
set_option linter.unusedVariables false
set_option linter.unusedSimpArgs false
open Go.RowKit

end Go.Proofs.YtkbejmjkdnfemaaGreatDoor
namespace Go.Proofs.YtkbejmjkdnfemaaGreatDoor
set_option linter.unusedVariables false
set_option linter.unusedSimpArgs false
open Go.RowKit

end Go.Proofs.YtkbejmjkdnfemaaGreatDoor
