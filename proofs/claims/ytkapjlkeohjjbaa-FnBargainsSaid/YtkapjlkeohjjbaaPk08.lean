/-
  Part 8 of what the proof stands on: lemmas and contracts, each with its conditions ahead of the colon.
-/
import Derived.Test.YtkapjlkeohjjbaaPk03
import Derived.Test.YtkapjlkeohjjbaaPk07
namespace Go.Proofs.Ytkapjlkeohjjbaa
set_option linter.unusedVariables false
set_option linter.unusedSimpArgs false
open Go.RowKit

set_option maxRecDepth 10000 in
set_option maxHeartbeats 4000000 in
theorem dom_any (w : World) (pB iB : Nat) (a : Option Addr) (c : Nat) (xs : List Int) (i k : Nat) (hp : Blk w pB [.slice a xs.length c] 24) (hi : Blk w iB [.int .i64 i] 2) (hr : Rd w w.heap.size a (ints xs)) (i1 : 2 * i + 1 < xs.length) (k1 : 2 * k + 1 < xs.length) (hl : xs.length ≤ 32) :
    Calls Try.prog 36 #[.int .i64 k, .pointer (some ⟨pB, 0, none⟩), .pointer (some ⟨iB, 0, none⟩)] w fun e w' => e = .returned (.bool (domB xs i k)) ∧ Below w.heap.size w w' := by
  obtain ⟨b, o, ax, hb, hc⟩ := hr.at (k := 0) (by omega)
  have D1 : ∀ z9 : Later w, z9.w'.cell? ⟨pB, 0, none⟩ = some (.slice a xs.length c) := fun z9 => (z9.h.cell (p := ⟨pB, 0, none⟩) hp.lt).trans (by rw [hp.cell]; rfl)
  have D2 : ∀ z9 : Later w, z9.w'.cell? ⟨iB, 0, none⟩ = some (.int .i64 i) := fun z9 => (z9.h.cell (p := ⟨iB, 0, none⟩) hi.lt).trans (by rw [hi.cell]; rfl)
  have D3 : ∀ z9 : Later w, z9.w'.cell? ⟨b, o + 2 * i, none⟩ = some (.int .i64 (xs.getD (2 * i) 0)) := fun z9 => (z9.h.cell (p := ⟨b, o + 2 * i, none⟩) hb).trans (hc (2 * i) (by omega))
  have D4 : ∀ z9 : Later w, z9.w'.cell? ⟨b, o + (2 * i + 1), none⟩ = some (.int .i64 (xs.getD (2 * i + 1) 0)) := fun z9 => (z9.h.cell (p := ⟨b, o + (2 * i + 1), none⟩) hb).trans (hc (2 * i + 1) (by omega))
  have D5 : ∀ z9 : Later w, z9.w'.cell? ⟨b, o + 2 * k, none⟩ = some (.int .i64 (xs.getD (2 * k) 0)) := fun z9 => (z9.h.cell (p := ⟨b, o + 2 * k, none⟩) hb).trans (hc (2 * k) (by omega))
  have D6 : ∀ z9 : Later w, z9.w'.cell? ⟨b, o + (2 * k + 1), none⟩ = some (.int .i64 (xs.getD (2 * k + 1) 0)) := fun z9 => (z9.h.cell (p := ⟨b, o + (2 * k + 1), none⟩) hb).trans (hc (2 * k + 1) (by omega))
  subst ax
  have hd : domB xs i k = (decide (xs.getD (2 * i) 0 ≤ xs.getD (2 * k) 0) && decide (xs.getD (2 * i + 1) 0 ≤ xs.getD (2 * k + 1) 0) && (decide (xs.getD (2 * i) 0 < xs.getD (2 * k) 0) || decide (xs.getD (2 * i + 1) 0 < xs.getD (2 * k + 1) 0))) := rfl
  have HD := Lib.hid hd
  generalize domB xs i k = D at *
  generalize xs.getD (2 * i) 0 = p at *
  generalize xs.getD (2 * i + 1) 0 = q at *
  generalize xs.getD (2 * k) 0 = u at *
  generalize xs.getD (2 * k + 1) 0 = v at *
  have i0 : (0 : Int) ≤ (i : Int) := Int.natCast_nonneg _
  have k0 : (0 : Int) ≤ (k : Int) := Int.natCast_nonneg _
  have i2 : 2 * (i : Int) < (xs.length : Int) := by omega
  have i3 : 2 * (i : Int) + 1 < (xs.length : Int) := by omega
  have k2 : 2 * (k : Int) < (xs.length : Int) := by omega
  have k3 : 2 * (k : Int) + 1 < (xs.length : Int) := by omega
  clear hp hi hr hc hb hd i1 k1
  go_enter Try.func36, Try.ntmps36
  go_wp2_with fail
  refine wp_region_later (by kernel_rfl) (by kernel_rfl) ?_
  repeat (go_big_quiet_step (fail))
  refine wpQuiet_nil ?_
  rintro wq ⟨⟨_, hbq⟩, rfl⟩
  have HW := Lib.hid hbq
  clear D1 D2 D3 D4 D5 D6 hbq
  cases t1 : decide (p ≤ u) with
  | false =>
    have t1' : decide (u < p) = true := decide_eq_true (by have := of_decide_eq_false t1; omega)
    have hF : Hid (D = false) := by rw [Hid, HD.out, t1]; rfl
    go_wp2_with fail
    go_ret
    exact ⟨ret_bool hF.out.symm, HW.out⟩
  | true =>
    cases t2 : decide (q ≤ v) with
    | false =>
      have hF : Hid (D = false) := by rw [Hid, HD.out, t1, t2]; rfl
      go_wp2_with fail
      go_ret
      exact ⟨ret_bool hF.out.symm, HW.out⟩
    | true =>
      cases t3 : decide (p < u) with
      | true =>
        have hF : Hid (D = true) := by rw [Hid, HD.out, t1, t2, t3]; rfl
        go_wp2_with fail
        go_ret
        exact ⟨ret_bool hF.out.symm, HW.out⟩
      | false =>
        cases t4 : decide (q < v) with
        | true =>
          have hF : Hid (D = true) := by rw [Hid, HD.out, t1, t2, t3, t4]; rfl
          go_wp2_with fail
          go_ret
          exact ⟨ret_bool hF.out.symm, HW.out⟩
        | false =>
          have hF : Hid (D = false) := by rw [Hid, HD.out, t1, t2, t3, t4]; rfl
          go_wp2_with fail
          go_ret
          exact ⟨ret_bool hF.out.symm, HW.out⟩
set_option maxRecDepth 10000 in
set_option maxHeartbeats 4000000 in
theorem beaten_any (w : World) (aB pB : Nat) (a al : Option Addr) (c cl : Nat) (xs : List Int) (n i : Nat) (ha : Blk w aB [.slice al n cl] 24) (hal : Rd w w.heap.size al (ints (upto n))) (hp : Blk w pB [.slice a xs.length c] 24) (hr : Rd w w.heap.size a (ints xs)) (hi : i < n) (hn : xs.length = 2 * n) (hn8 : n ≤ 8) :
    Calls Try.prog 34 #[.int .i64 i, .pointer (some ⟨aB, 0, none⟩), .pointer (some ⟨pB, 0, none⟩)] w fun e w' => e = .returned (.bool (anyI (domB xs i) n)) ∧ Below w.heap.size w w' := by
  have B1 := bl1 w (.cells #[.int .i64 i] 2)
  have K1 := Blk.new w [.int .i64 i] 2
  have LC := Lib.hid (containsFunc_I 36 #[.pointer (some ⟨pB, 0, none⟩), .pointer (some ⟨w.heap.size, 0, none⟩)] (fun _ _ => by kernel_rfl) (w.alloc (.cells #[.int .i64 i] 2)) al cl (ints (upto n)) (domB xs i) (hal.to B1) (by rw [ints_length, upto_length]; omega) (fun w' j v hb hj => by
    have hj' : j < n := by have := (List.getElem?_eq_some_iff.1 hj).1; simpa [upto_length] using this
    rw [ints_get _ _ (by rw [upto_length]; exact hj')] at hj
    injection hj with hj
    subst hj
    rw [getD_of_get (upto_get hj')]
    exact dom_any w' pB w.heap.size a c xs i j ((hp.same B1).below hb (by have := hp.lt; simp; omega)) (K1.below hb (by simp)) ((hr.to B1).to hb) (by omega) (by omega) (by omega)))
  rw [ints_length, upto_length] at LC
  have ca : (w.alloc (.cells #[.int .i64 i] 2)).cell? ⟨aB, 0, none⟩ = some (.slice al n cl) := by rw [(ha.same B1).cell]; rfl
  have HB := Lib.hid B1
  clear ha hal hp hr hi hn hn8 B1 K1
  go_enter Try.func34, Try.ntmps34
  go_wp2_with fail
  refine LC.out.mono ?_
  rintro e w1 ⟨rfl, hb⟩
  have HW := Lib.hid (below_then HB.out hb)
  clear hb
  go_wp2_with fail
  go_ret
  exact ⟨rfl, HW.out⟩
theorem rimF_keep (xs : List Int) (n : Nat) : keepF (fun x => anyI (domB xs x.toNat) n) (upto n) = rimF xs n := by
  unfold keepF rimF upto
  rw [List.filter_map]
  rfl
set_option maxRecDepth 10000 in
set_option maxHeartbeats 4000000 in
theorem rimOf_any (w : World) (a : Option Addr) (c : Nat) (xs : List Int) (n : Nat) (h : Rd w w.heap.size a (ints xs)) (P : Pts xs n) :
    Calls Try.prog 9 #[.slice a xs.length c] w fun e w' => ∃ a' c', e = .returned (.tuple #[.slice a' (rimF xs n).length c', .bool true]) ∧ Rd w' w'.heap.size a' (ints (rimF xs n)) ∧ Below w.heap.size w w' := by
  have h1 := P.len
  have h2 := P.one
  have h3 := P.few
  have B1 := bl1 w (.cells #[.slice a xs.length c] 24)
  have K1 := Blk.new w [.slice a xs.length c] 24
  have LB := Lib.hid (isBargain_any _ a c xs n (h.to B1) P)
  have LC := Lib.hid (fun v => counting_any v n (by omega))
  have hq : (xs.length : Int) / 2 = (n : Int) := by omega
  have HR := Lib.hid h
  have HB1 := Lib.hid B1
  have HK1 := Lib.hid K1
  have c1 : (w.alloc (.cells #[.slice a xs.length c] 24)).cell? ⟨w.heap.size, 0, none⟩ = some (.slice a xs.length c) := by rw [K1.cell]; rfl
  have HL := Lib.hid h1
  clear h P B1 K1 h1
  go_enter Try.func9, Try.ntmps9
  go_wp2_with fail
  refine LB.out.mono ?_
  rintro e wq ⟨rfl, rfl⟩
  go_wp2_with fail
  refine (LC.out _).mono ?_
  rintro e w1 ⟨al, cl, rfl, ho, hb⟩
  have B2 := below_then HB1.out hb
  have K1 := Lib.hid (HK1.out.same hb)
  have HA := Lib.hid (rd_of_own ho (Nat.le_refl _))
  have hs1 : w.heap.size < w1.heap.size := K1.out.lt
  have HC := Lib.hid (fun v hv => clone_any v al cl (upto n) (HA.out.to hv) (by rw [upto_length]; omega) (by rw [upto_length]; omega))
  rw [upto_length] at HC
  clear ho c1 LB LC
  have BA := bl1 w1 (.cells #[.slice al n cl] 24)
  have KA := Lib.hid (Blk.new w1 [.slice al n cl] 24)
  have HBA := Lib.hid BA
  clear BA
  have HBW := Lib.hid (below_then HB1.out hb)
  clear hb
  go_wp2_with fail
  refine (HC.out _ HBA.out).mono ?_
  rintro e w2 ⟨a2, c2, rfl, ho2, hb2⟩
  have B2 : Below w1.heap.size w1 w2 := below_then HBA.out hb2
  have BW2 := below_then HBW.out B2
  have hn1 : (upto n).length = n := upto_length n
  have ho3 := ho2.1
  rw [hn1] at ho3
  obtain ⟨g, tl, ea, hg, hK, hcap, hm, _⟩ := own_open ho3 (by omega)
  subst ea
  have hgs : w1.heap.size + 1 ≤ g := by simpa using hg
  have LD := Lib.hid (deleteFunc_I 34 #[.pointer (some ⟨w1.heap.size, 0, none⟩), .pointer (some ⟨w.heap.size, 0, none⟩)] (fun _ _ => by kernel_rfl) (fun x => anyI (domB xs x.toNat) n) w2 g c2 (upto n) tl hK (by rw [hn1]; exact hcap) (by rw [hn1]; omega) (fun w' z hb hz => by
    obtain ⟨i, hi, rfl⟩ := List.mem_map.1 hz
    have hin := List.mem_range.1 hi
    show Calls Try.prog 34 (#[.int .i64 (i : Int)] ++ #[.pointer (some ⟨w1.heap.size, 0, none⟩), .pointer (some ⟨w.heap.size, 0, none⟩)]) w' fun e w'' => e = .returned (.bool (anyI (domB xs ((i : Int).toNat)) n)) ∧ Below w'.heap.size w' w''
    rw [Int.toNat_natCast]
    have B3 : Below (w1.heap.size + 1) (w1.alloc (.cells #[.slice al n cl] 24)) w' := (hb2.mono (by simp)).trans (hb.mono hgs)
    have B4 : Below w1.heap.size w1 w' := B2.trans (hb.mono (by omega))
    exact beaten_any w' w1.heap.size w.heap.size a al c cl xs n i (KA.out.below B3 (by omega)) (HA.out.to B4) (K1.out.below B4 hs1) ((HR.out.to HBW.out).to B4) hin HL.out h3))
  rw [rimF_keep, hn1] at LD
  have HW2 := Lib.hid BW2
  have HG : Hid (w.heap.size ≤ g ∧ w.heap.size ≤ w2.heap.size) := ⟨by omega, BW2.size⟩
  have ck1 : w2.cell? ⟨w1.heap.size, 0, none⟩ = some (.slice al n cl) := by rw [(KA.out.same hb2).cell]; rfl
  clear ho2 hb2 B2 BW2 hn1 ho3 hg hK hcap hm HR hgs HC HA K1 KA HBA HBW HB1 HK1
  go_wp2_with fail
  refine LD.out.mono ?_
  rintro e w3 ⟨rfl, hr3, hb3⟩
  have HR3 := Lib.hid hr3
  have HW3 := Lib.hid (HW2.out.trans (hb3.mono HG.out.1))
  clear hr3 hb3 ck1 LD
  go_wp2_with fail
  go_ret2
  exact ⟨_, _, rfl, HR3.out, HW3.out⟩
end Go.Proofs.Ytkapjlkeohjjbaa
