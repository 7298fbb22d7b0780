/-
  The first user who would rather take another way: the program's road.
-/
import Derived.Test.YtbgclfbhdpgdaaaCrowdZ
import Derived.Test.YtbgclfbhdpgdaaaClone
namespace Go.Proofs.Ytbgclfbhdpgdaaa
set_option linter.unusedVariables false
set_option linter.unusedSimpArgs false
open Go.RowKit

def bU : Option (Nat × Nat) → Int
  | none => -1
  | some p => p.1
def bK : Option (Nat × Nat) → Int
  | none => 0
  | some p => p.2
theorem set_same (xs : List Int) (u : Nat) : xs.set u (xs.getD u 0) = xs := by
  apply List.ext_getElem
  · simp
  · intro i h1 h2
    rw [List.getElem_set]
    split
    · rename_i e; subst e; simp [List.getD, List.getElem?_eq_getElem h2]
    · rfl
theorem betterFrom_step (C : Cr) (ch : List Int) (f u : Nat) : betterFrom C ch (f + 1) u = match wayF C ch u with | some k => some (u, k) | none => betterFrom C ch f (u + 1) := rfl
/-- What the scan over ways says after k of them. -/
def scanB (C : Cr) (ch : List Int) (u k : Nat) : Option Nat × Int := scanF (fun k => paysF C (ch.set u (k : Int)) u) (paysF C ch u) k
theorem scanB_succ (C : Cr) (ch : List Int) (u k : Nat) : scanB C ch u (k + 1) = if paysF C (ch.set u (k : Int)) u < (scanB C ch u k).2 then (some k, paysF C (ch.set u (k : Int)) u) else scanB C ch u k := rfl
theorem scanB_ne {C : Cr} {ch : List Int} {u : Nat} {k n q : Nat} (h : (scanB C ch u n).1 = some k) (hq : ch.getD u 0 = q) : k ≠ q := by
  have := (scan_spec (fun k => paysF C (ch.set u (k : Int)) u) (paysF C ch u) n).1
  unfold scanB at h
  rw [h] at this
  intro e
  subst e
  have h3 := this.2.2
  try simp only at h3
  rw [← hq, set_same] at h3
  omega
def bestW (o : Option Nat) (q : Nat) : Nat := o.getD q
set_option maxRecDepth 10000 in
set_option maxHeartbeats 8000000 in
theorem better_any (w : World) (U : Int) (n : Nat) (a2 : Option Addr) (c2 : Nat) (x2 : List Int) (a3 : Option Addr) (c3 : Nat) (x3 : List Int) (a : Option Addr) (c : Nat) (ch : List Int) (h : RdCrowd w w.heap.size a2 x2 a3 x3) (g : Rd w w.heap.size a (ints ch)) (hc : Can ⟨U, n, x2, x3⟩ ch) :
    Calls Try.prog 53 #[.agg #[.int .i64 U, .int .i64 n, .slice a2 x2.length c2, .slice a3 x3.length c3], .slice a ch.length c] w fun e w' => e = .returned (.tuple #[.int .i64 (bU (betterF ⟨U, n, x2, x3⟩ ch)), .int .i64 (bK (betterF ⟨U, n, x2, x3⟩ ch))]) ∧ Below w.heap.size w w' := by
  have hUl : (ch.length : Int) = U := hc.len
  have hU8 : ch.length ≤ 8 := by have := hc.v.u8; simp only at this; omega
  have hU1 : 1 ≤ ch.length := by have := hc.v.u1; simp only at this; omega
  have hw8 : x2.length ≤ 8 := hc.v.w8
  have LCl := Lib.hid (fun w' hb => clone_any w' a c ch (g.to hb) hU1 (by omega))
  have LP := Lib.hid (fun (w' : World) (g' : Nat) (tl : List Value) (cc u wy : Nat) (hA : Blk w' g' (ints ch ++ tl) 2) (hB : w.heap.size ≤ g') (hb : Below w.heap.size w w') (hu : u < ch.length) (hw : wy < x2.length) => pays_any w' w.heap.size g' tl U n a2 c2 x2 a3 c3 x3 cc ch u wy hA hB (h.below hb (Nat.le_refl _)) hc hu hw)
  have HM : Hid (∀ x ∈ ch, 0 ≤ x ∧ x < (x2.length : Int)) := hc.mem
  have Hg := Lib.hid g
  have Hpb : Hid (∀ ch' u, -800000 ≤ paysF ⟨U, n, x2, x3⟩ ch' u ∧ paysF ⟨U, n, x2, x3⟩ ch' u ≤ 800000) := fun ch' u => pays_bd hc.v ch' u
  have Hul := Lib.hid hUl
  have Hway : Hid (∀ u, wayF ⟨U, n, x2, x3⟩ ch u = (scanB ⟨U, n, x2, x3⟩ ch u x2.length).1) := fun u => rfl
  clear h g hc hUl
  generalize hC : (⟨U, (n : Int), x2, x3⟩ : Cr) = C at *
  clear hC
  have Hstart : Hid (betterF C ch = betterFrom C ch ch.length 0) := rfl
  go_enter Try.func53, Try.ntmps53
  go_wp2_with fail
  refine (LCl.out _ (bl1 _ _)).mono ?_
  rintro e w1 ⟨a1, c1, rfl, o1, hb1⟩
  obtain ⟨go, tl, rfl, hgo, hbg, hcc, hccm, hcl⟩ := own_open o1.1 (by omega)
  have hgo' : w.heap.size < go := by simp at hgo; omega
  have kA := (Blk.new w [.int .i64 U, .int .i64 n, .slice a2 x2.length c2, .slice a3 x3.length c3] 28).same hb1
  have B1 := below_then (bl1 w (.cells #[.int .i64 U, .int .i64 n, .slice a2 x2.length c2, .slice a3 x3.length c3] 28)) hb1
  have KA := Lib.hid kA
  have KG := Lib.hid hbg
  clear o1 hb1 kA hbg LCl
  go_wp2_with fail
  go_loopw [17] (fun i wr => ∃ k : Nat, k ≤ ch.length ∧ i = .int .i64 k ∧ Hid (betterF C ch = betterFrom C ch (ch.length - k) k) ∧ Hid (Blk wr go (ints ch ++ tl) 2) ∧ Hid (Blk wr w.heap.size [.int .i64 U, .int .i64 n, .slice a2 x2.length c2, .slice a3 x3.length c3] 28) ∧ Below w.heap.size w wr) (fun i _ => ch.length - (intOf i).toNat)
  case atStart => exact ⟨0, Nat.zero_le _, rfl, Hstart.out, KG.out, KA.out, B1⟩
  case round =>
    clear KA KG B1 Hstart
    obtain ⟨k, hk, rfl, hbf, hG, hA, hw⟩ := hrel
    have q0 := hA.out.cell 0
    have q1 := hA.out.cell 1
    have q2 := hA.out.cell 2
    have q3 := hA.out.cell 3
    simp only [List.getElem?_cons_zero, List.getElem?_cons_succ] at q0 q1 q2 q3
    by_cases hlt : k < ch.length
    · obtain ⟨b1, o1, x, rfl, hbb1, hck, hx⟩ := (Hg.out.below hw (Nat.le_refl _)).get hlt
      obtain ⟨x0, x8⟩ := HM.out x (List.mem_of_getElem? hx.out)
      obtain ⟨q, rfl⟩ : ∃ q : Nat, x = q := ⟨x.toNat, by omega⟩
      have hq8 : q < x2.length := by (try simp only at x8); omega
      have Hxq : Hid (ch.getD k 0 = q) := getD_of_get hx.out
      have LP1 := Lib.hid (LP.out wr go tl c1 k q hG.out (by omega) hw hlt hq8)
      have Hset : Hid (ch.set k (q : Int) = ch) := by show _ = _; rw [← Hxq.out]; exact set_same ch k
      rw [Hset.out] at LP1
      have hp0 := Hpb.out ch k
      have Hl0 : Hid ((scanB C ch k 0).2 = paysF C ch k ∧ (scanB C ch k 0).1 = none) := ⟨rfl, rfl⟩
      have Hfs : Hid (ch.length - k = (ch.length - (k + 1)) + 1) := by show _ = _; omega
      obtain ⟨p0, p1⟩ := hp0
      clear hx
      go_wp2_with fail
      refine LP1.out.mono ?_
      rintro e w2 ⟨rfl, hb2⟩
      have hG2 := Lib.hid (hG.out.same hb2)
      have hA2 := Lib.hid (hA.out.same hb2)
      have hw2 := hw.trans (hb2.mono hw.size)
      have r2 := hA2.out.cell 2
      simp only [List.getElem?_cons_zero, List.getElem?_cons_succ] at r2
      clear hb2 hG hA LP1 q0 q1 q2 q3 hck hw
      go_wp2_with fail
      go_loopw [31, 9, 10] (fun i bb ll wi => ∃ (j : Nat) (ob : Option Nat) (l : Int), j ≤ x2.length ∧ i = .int .i64 j ∧ bb = .int .i64 (bestW ob q : Nat) ∧ ll = .int .i64 l ∧ Hid (scanB C ch k j = (ob, l)) ∧ Hid (Blk wi go (ints ch ++ tl) 2) ∧ Hid (Blk wi w.heap.size [.int .i64 U, .int .i64 n, .slice a2 x2.length c2, .slice a3 x3.length c3] 28) ∧ Below w.heap.size w wi) (fun i _ _ _ => x2.length - (intOf i).toNat)
      case atStart => exact ⟨0, none, _, Nat.zero_le _, rfl, rfl, rfl, rfl, hG2.out, hA2.out, hw2⟩
      case round =>
        clear hG2 hA2 hw2 r2 p0 p1
        obtain ⟨j, ob, l, hj, rfl, rfl, rfl, hsc, hG, hA, hw⟩ := hrel
        have q0 := hA.out.cell 0
        have q1 := hA.out.cell 1
        have q2 := hA.out.cell 2
        have q3 := hA.out.cell 3
        simp only [List.getElem?_cons_zero, List.getElem?_cons_succ] at q0 q1 q2 q3
        by_cases hlj : j < x2.length
        · have LP1 := Lib.hid (LP.out wr go tl c1 k j hG.out (by omega) hw hlt hlj)
          have hst := scanB_succ C ch k j
          rw [hsc.out] at hst
          simp only at hst
          obtain ⟨p0, p1⟩ := Hpb.out (ch.set k (j : Int)) k
          by_cases hlt2 : paysF C (ch.set k (j : Int)) k < l
          · rw [if_pos hlt2] at hst
            have Hst := Lib.hid hst
            clear hst hsc
            generalize paysF C (ch.set k (j : Int)) k = pj at *
            go_wp2_with fail
            refine LP1.out.mono ?_
            rintro e w3 ⟨rfl, hb3⟩
            have hG3 := Lib.hid (hG.out.same hb3)
            have hA3 := Lib.hid (hA.out.same hb3)
            have hw3 := hw.trans (hb3.mono hw.size)
            clear hb3 hG hA LP1 q0 q1 q2 q3 hw
            go_wp2_with fail
            go_roundw
            case rel => exact ⟨j + 1, some j, pj, by omega, by go_num, rfl, rfl, Hst, hG3, hA3, hw3⟩
            case measure => simp [intOf]; omega
          · rw [if_neg hlt2] at hst
            have Hst := Lib.hid hst
            clear hst hsc
            generalize paysF C (ch.set k (j : Int)) k = pj at *
            go_wp2_with fail
            refine LP1.out.mono ?_
            rintro e w3 ⟨rfl, hb3⟩
            have hG3 := Lib.hid (hG.out.same hb3)
            have hA3 := Lib.hid (hA.out.same hb3)
            have hw3 := hw.trans (hb3.mono hw.size)
            clear hb3 hG hA LP1 q0 q1 q2 q3 hw
            go_wp2_with fail
            go_roundw
            case rel => exact ⟨j + 1, ob, l, by omega, by go_num, rfl, rfl, Hst, hG3, hA3, hw3⟩
            case measure => simp [intOf]; omega
        · have : j = x2.length := by omega
          subst this
          have hbs := hbf.out
          rw [Hfs.out, betterFrom_step, Hway.out, hsc.out] at hbs
          simp only at hbs
          cases ob with
          | none =>
            have HB2 := Lib.hid hbs
            rw [show bestW none q = q from rfl]
            have hne : ((q : Int) != (q : Int)) = false := by simp
            clear hbs hsc hbf q0 q1 q2 q3
            go_wp2_with fail
            go_roundw
            case rel => exact ⟨k + 1, by omega, by go_num, HB2, hG, hA, hw⟩
            case measure => simp [intOf]; omega
          | some kk =>
            rw [show bestW (some kk) q = kk from rfl]
            have hkq : kk ≠ q := scanB_ne (n := x2.length) (by rw [hsc.out]) Hxq.out
            have hne : ((kk : Int) != (q : Int)) = true := by simp; omega
            have HR : Hid (bU (betterF C ch) = k ∧ bK (betterF C ch) = kk) := by show _ ∧ _; rw [hbs]; exact ⟨rfl, rfl⟩
            clear hbs hsc hbf hkq q0 q1 q2 q3
            go_wp2_with fail
            go_ret2
            exact ⟨by rw [HR.out.1, HR.out.2]; rfl, hw⟩
    · have : k = ch.length := by omega
      subst this
      have hbs := hbf.out
      rw [Nat.sub_self] at hbs
      have HR : Hid (bU (betterF C ch) = -1 ∧ bK (betterF C ch) = 0) := by show _ ∧ _; rw [hbs]; exact ⟨rfl, rfl⟩
      clear hbs hbf q0 q1 q2 q3
      go_wp2_with fail
      go_ret2
      exact ⟨by rw [HR.out.1, HR.out.2]; rfl, hw⟩
end Go.Proofs.Ytbgclfbhdpgdaaa
