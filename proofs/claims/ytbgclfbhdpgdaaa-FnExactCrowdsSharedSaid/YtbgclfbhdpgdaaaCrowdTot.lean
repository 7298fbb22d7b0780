/-
  What all users pay: both roads.
-/
import Derived.Test.YtbgclfbhdpgdaaaIsRest
import Derived.Test.YtbgclfbhdpgdaaaCrowdW
namespace Go.Proofs.Ytbgclfbhdpgdaaa
set_option linter.unusedVariables false
set_option linter.unusedSimpArgs false
open Go.RowKit

def costsF (c : Cr) (ch : List Int) : List Int := (List.range ch.length).map fun (u : Nat) => paysF c ch u
theorem costsF_len (c : Cr) (ch : List Int) : (costsF c ch).length = ch.length := by simp [costsF]
theorem costsF_get {c : Cr} {ch : List Int} {k : Nat} (h : k < ch.length) : (costsF c ch)[k]? = some (paysF c ch k) := by simp [costsF, h]
theorem costsF_take {c : Cr} {ch : List Int} {k : Nat} (h : k < ch.length) : (costsF c ch).take (k + 1) = (costsF c ch).take k ++ [paysF c ch k] := by
  rw [List.take_add_one, costsF_get h]; rfl
theorem sum_range (f : Nat → Int) : ∀ n : Nat, ((List.range n).map f).sum = sumR f n
  | 0 => rfl
  | n + 1 => by rw [List.range_succ, List.map_append, List.sum_append, sum_range f n, sumR]; simp
theorem wsum_costs {c : Cr} {ch : List Int} (h : Can c ch) : wsum (costsF c ch) = totalF c ch := by
  have h8 := h.v.u8
  have hl := h.len
  have := wsum_eq (costsF c ch) 800000 (by omega) (fun x hx => by
    obtain ⟨u, _, rfl⟩ := List.mem_map.1 hx
    exact pays_bd h.v ch u) (by rw [costsF_len]; omega)
  rw [this.1, costsF, sum_range, totalF]
  congr 1
  omega
set_option maxRecDepth 10000 in
set_option maxHeartbeats 4000000 in
theorem costs_any (w : World) (U : Int) (n : Nat) (a2 : Option Addr) (c2 : Nat) (x2 : List Int) (a3 : Option Addr) (c3 : Nat) (x3 : List Int) (a : Option Addr) (c : Nat) (ch : List Int) (h : RdCrowd w w.heap.size a2 x2 a3 x3) (g : Rd w w.heap.size a (ints ch)) (hc : Can ⟨U, n, x2, x3⟩ ch) :
    Calls Try.prog 72 #[.agg #[.int .i64 U, .int .i64 n, .slice a2 x2.length c2, .slice a3 x3.length c3], .slice a ch.length c] w fun e w' => ∃ a' c', e = .returned (.slice a' ch.length c') ∧ OwnI 2 w' w.heap.size w'.heap.size a' c' (costsF ⟨U, n, x2, x3⟩ ch) ∧ Below w.heap.size w w' := by
  have hUl : (ch.length : Int) = U := hc.len
  have hU8 : ch.length ≤ 8 := by have := hc.v.u8; simp only at this; omega
  have hU1 : 1 ≤ ch.length := by have := hc.v.u1; simp only at this; omega
  have LCl := Lib.hid (fun w' hb => clone_any w' a c ch (g.to hb) hU1 (by omega))
  have LP := Lib.hid (fun (w' : World) (g' : Nat) (tl : List Value) (cc u wy : Nat) (hA : Blk w' g' (ints ch ++ tl) 2) (hB : w.heap.size ≤ g') (hb : Below w.heap.size w w') (hu : u < ch.length) (hw : wy < x2.length) => pays_any w' w.heap.size g' tl U n a2 c2 x2 a3 c3 x3 cc ch u wy hA hB (h.below hb (Nat.le_refl _)) hc hu hw)
  have HM : Hid (∀ x ∈ ch, 0 ≤ x ∧ x < (x2.length : Int)) := hc.mem
  have Hg := Lib.hid g
  have Hlen := Lib.hid (costsF_len ⟨U, n, x2, x3⟩ ch)
  clear h g hc hUl
  generalize hC : (⟨U, (n : Int), x2, x3⟩ : Cr) = C at *
  clear hC
  go_enter Try.func72, Try.ntmps72
  go_wp2_with fail
  refine (LCl.out _ (bl1 _ _)).mono ?_
  rintro e w1 ⟨a1, c1, rfl, o1, hb1⟩
  obtain ⟨go, tl, rfl, hgo, hbg, hcc, hccm, hcl⟩ := own_open o1.1 (by omega)
  have KA := Lib.hid ((Blk.new w [.int .i64 U, .int .i64 n, .slice a2 x2.length c2, .slice a3 x3.length c3] 28).same hb1)
  have B1 := below_then (bl1 w (.cells #[.int .i64 U, .int .i64 n, .slice a2 x2.length c2, .slice a3 x3.length c3] 28)) hb1
  have KG := Lib.hid hbg
  have hgo' : w.heap.size ≤ go := by simp at hgo; omega
  have O1 : Hid ((w1.alloc (.cells #[] 2)).ownsRow w1.heap.size 2 1 (.slice (some ⟨w1.heap.size, 0, none⟩) 0 0) 0 (ints ((costsF C ch).take 0))) := own_emptyC w1 2
  have B1e := bl1 w1 (.cells #[] 2)
  have hs1 := B1.size
  clear o1 hb1 hbg LCl
  go_wp2_with fail
  go_loopw [14, 6] (fun i v wr => ∃ k : Nat, k ≤ ch.length ∧ i = .int .i64 k ∧ Hid (wr.ownsRow w1.heap.size 2 1 v k (ints ((costsF C ch).take k))) ∧ Below w1.heap.size w1 wr) (fun i _ _ => ch.length - (intOf i).toNat)
  case atStart => exact ⟨0, Nat.zero_le _, rfl, O1.out, B1e⟩
  case round =>
    clear O1 B1e
    obtain ⟨k, hk, rfl, ho, hw⟩ := hrel
    have hww := B1.trans (hw.mono hs1)
    by_cases hlt : k < ch.length
    · obtain ⟨b1, o1, x, rfl, hbb1, hck, hx⟩ := (Hg.out.below hww (Nat.le_refl _)).get hlt
      obtain ⟨x0, x8⟩ := HM.out x (List.mem_of_getElem? hx.out)
      obtain ⟨q, rfl⟩ : ∃ q : Nat, x = q := ⟨x.toNat, by omega⟩
      have hq8 : q < x2.length := by (try simp only at x8); omega
      have Hxq : ch.getD k 0 = q := getD_of_get hx.out
      have LP1 := Lib.hid (LP.out wr go tl c1 k q (KG.out.same hw) hgo' hww hlt hq8)
      have Hset : ch.set k (q : Int) = ch := by rw [← Hxq]; exact set_same ch k
      rw [Hset] at LP1
      have q0 := (KA.out.same hw).cell 0
      have q1 := (KA.out.same hw).cell 1
      have q2 := (KA.out.same hw).cell 2
      have q3 := (KA.out.same hw).cell 3
      simp only [List.getElem?_cons_zero, List.getElem?_cons_succ] at q0 q1 q2 q3
      have Hn := Lib.hid (costsF_take (c := C) hlt)
      generalize paysF C ch k = p at *
      clear hx Hxq Hset x8
      go_wp2_with fail
      refine LP1.out.mono ?_
      rintro e w2 ⟨rfl, hb2⟩
      have hw2 := hw.trans (hb2.mono hw.size)
      have ho2 := own_below ho.out hb2
      have hs2 := hw2.size
      clear hb2 LP1 q0 q1 q2 q3 hck ho hww
      go_wp2_with (at_builtin; refine wpList_append_one _ rfl _ _ 22 rfl w1.heap.size 2 (.int .i64 0) 8 Try.underlying22 info_i64p rfl _ k _ rfl ho2 (.int .i64 p) rfl rfl (by omega) (by omega) hs2 ?_)
      intro v' w3 ho3 hgr
      have hw3 := below_append hw2 ho2 hgr (Nat.le_refl _) hs2
      have HO : Hid (w3.ownsRow w1.heap.size 2 1 v' (k + 1) (ints ((costsF C ch).take (k + 1)))) := by
        rw [Hn.out, ints_append]; exact ho3
      clear ho2 ho3 hgr hw2 hw
      go_wp2_with fail
      go_roundw
      case rel => exact ⟨k + 1, by omega, by go_num, HO, hw3⟩
      case measure => simp [intOf]; omega
    · have : k = ch.length := by omega
      subst this
      obtain ⟨a1, c1', rfl, _, _⟩ := own_shape ho.out
      have HR : Hid (OwnI 2 wr w.heap.size wr.heap.size a1 c1' (costsF C ch)) := by
        have := own_base ho.out hs1
        rw [List.take_of_length_le (by rw [Hlen.out]; exact Nat.le_refl _)] at this
        exact OwnI.of_own (by rw [Hlen.out]; exact this)
      clear ho
      go_wp2_with fail
      go_ret
      exact ⟨_, _, rfl, HR.out, hww⟩
set_option maxRecDepth 10000 in
set_option maxHeartbeats 4000000 in
theorem total_any (w : World) (U : Int) (n : Nat) (a2 : Option Addr) (c2 : Nat) (x2 : List Int) (a3 : Option Addr) (c3 : Nat) (x3 : List Int) (a : Option Addr) (c : Nat) (ch : List Int) (h : RdCrowd w w.heap.size a2 x2 a3 x3) (g : Rd w w.heap.size a (ints ch)) (hc : Can ⟨U, n, x2, x3⟩ ch) :
    Calls Try.prog 62 #[.agg #[.int .i64 U, .int .i64 n, .slice a2 x2.length c2, .slice a3 x3.length c3], .slice a ch.length c] w fun e w' => e = .returned (.int .i64 (totalF ⟨U, n, x2, x3⟩ ch)) ∧ Below w.heap.size w w' := by
  have hU8 : ch.length ≤ 8 := by have := hc.v.u8; have := hc.len; simp only at *; omega
  have LC := Lib.hid (fun w' hb => costs_any w' U n a2 c2 x2 a3 c3 x3 a c ch (h.to hb) (g.to hb) hc)
  have Hs := Lib.hid (wsum_costs hc)
  have Hlen := Lib.hid (costsF_len ⟨U, n, x2, x3⟩ ch)
  clear h g hc
  generalize hC : (⟨U, (n : Int), x2, x3⟩ : Cr) = C at *
  clear hC
  generalize costsF C ch = cs at *
  generalize totalF C ch = t at *
  go_enter Try.func62, Try.ntmps62
  go_wp2_with fail
  refine (LC.out _ (bl1 _ _)).mono ?_
  rintro e w1 ⟨a1, c1, rfl, o1, hb1⟩
  have B1 := below_then (bl1 w _) hb1
  have LS := sumOf_any w1 a1 c1 cs (o1.rd.mono (Nat.le_refl _)) (by rw [Hlen.out]; omega)
  rw [Hs.out, Hlen.out] at LS
  have LS := Lib.hid LS
  clear LC o1 hb1
  go_wp2_with fail
  refine LS.out.mono ?_
  rintro e w2 ⟨rfl, rfl⟩
  go_wp2_with fail
  go_ret
  exact ⟨rfl, B1⟩
set_option maxRecDepth 10000 in
set_option maxHeartbeats 4000000 in
theorem l06Total_any (w : World) (b o : Nat) (U : Int) (n : Nat) (a2 : Option Addr) (c2 : Nat) (x2 : List Int) (a3 : Option Addr) (c3 : Nat) (x3 : List Int) (a : Option Addr) (c : Nat) (ch : List Int)
    (d0 : w.cell? ⟨b, o, none⟩ = some (.int .i64 U)) (d1 : w.cell? ⟨b, o + 1, none⟩ = some (.int .i64 n)) (d2 : w.cell? ⟨b, o + 2, none⟩ = some (.slice a2 x2.length c2)) (d3 : w.cell? ⟨b, o + 3, none⟩ = some (.slice a3 x3.length c3))
    (h : RdCrowd w w.heap.size a2 x2 a3 x3) (g : Rd w w.heap.size a (ints ch)) (hc : Can ⟨U, n, x2, x3⟩ ch) :
    Calls Try.prog 58 #[.pointer (some ⟨b, o, none⟩), .slice a ch.length c] w fun e w' => e = .returned (.int .i64 (totalF ⟨U, n, x2, x3⟩ ch)) ∧ Below w.heap.size w w' := by
  have hbw := World.block_lt_of_cell? w _ d0
  simp only at hbw
  have hUl : (ch.length : Int) = U := hc.len
  have hU8 : ch.length ≤ 8 := by have := hc.v.u8; simp only at this; omega
  have LP := Lib.hid (fun (w' : World) (u : Nat) (hb : Below w.heap.size w w') (hu : u < ch.length) => l06Pays_any w' b o U n a2 c2 x2 a3 c3 x3 a c ch u ((hb.cell (p := ⟨b, o, none⟩) hbw).trans d0) ((hb.cell (p := ⟨b, o + 1, none⟩) hbw).trans d1) ((hb.cell (p := ⟨b, o + 2, none⟩) hbw).trans d2) ((hb.cell (p := ⟨b, o + 3, none⟩) hbw).trans d3) (h.to hb) (g.to hb) hc hu)
  have Hbd := Lib.hid (fun u => pays_bd hc.v ch u)
  have HT : Hid (totalF ⟨U, n, x2, x3⟩ ch = sumR (paysF ⟨U, n, x2, x3⟩ ch) ch.length) := by
    have e : U.toNat = ch.length := by omega
    show sumR _ U.toNat = _
    rw [e]
  have Hd0 := Lib.hid d0
  subst hUl
  clear h g hc d0 d1 d2 d3
  generalize hC : (⟨(ch.length : Int), (n : Int), x2, x3⟩ : Cr) = C at *
  clear hC
  go_enter Try.func58, Try.ntmps58
  go_wp2_with fail
  go_loopw [6, 5] (fun i s wr => ∃ (k : Nat) (t : Int), k ≤ ch.length ∧ i = .int .i64 k ∧ s = .int .i64 t ∧ Hid (t = sumR (paysF C ch) k) ∧ Below w.heap.size w wr) (fun i _ _ => ch.length - (intOf i).toNat)
  case atStart => exact ⟨0, 0, Nat.zero_le _, rfl, rfl, rfl, Below.refl _ _⟩
  case round =>
    obtain ⟨k, t, hk, rfl, rfl, ht, hw⟩ := hrel
    have e0 := (hw.cell (p := ⟨b, o, none⟩) hbw).trans Hd0.out
    by_cases hlt : k < ch.length
    · have LP1 := Lib.hid (LP.out wr k hw hlt)
      obtain ⟨p0, p1⟩ := Hbd.out k
      have hsb := sumR_bd (f := paysF C ch) (m := 800000) (n := k) (fun i _ => Hbd.out i)
      obtain ⟨s0, s1⟩ := hsb
      rw [← ht.out] at s0 s1
      have HN : Hid (t + paysF C ch k = sumR (paysF C ch) (k + 1)) := by show _ = _; rw [sumR, ← ht.out]
      generalize paysF C ch k = p at *
      clear ht
      go_wp2_with fail
      refine LP1.out.mono ?_
      rintro e w2 ⟨rfl, hb2⟩
      have hw2 := hw.trans (hb2.mono hw.size)
      clear hb2 LP1 e0 hw
      go_wp2_with fail
      go_roundw
      case rel => exact ⟨k + 1, t + p, by omega, by go_num, by go_num, HN, hw2⟩
      case measure => simp [intOf]; omega
    · have : k = ch.length := by omega
      subst this
      have HF := Lib.hid (ht.out.trans HT.out.symm)
      clear ht
      go_wp2_with fail
      go_ret
      exact ⟨ret_int HF.out, hw⟩
end Go.Proofs.Ytbgclfbhdpgdaaa
