/-
  markCrowdS: every cell of a list of crowds of its own is overwritten, nothing else.
-/
import Derived.Test.YtbgclfbhdpgdaaaCrowdSTo
namespace Go.Proofs.Ytbgclfbhdpgdaaa
set_option linter.unusedVariables false
set_option linter.unusedSimpArgs false
open Go.RowKit

set_option maxRecDepth 10000 in
set_option maxHeartbeats 4000000 in
theorem lawMark_CrowdS (w : World) (lo hi : Nat) (a : Option Addr) (cp : Nat) (cs : List Cr) (k : Int) (h : OwnCs w lo hi a cs) (hl : cs.length ≤ 1048576) (hin : ∀ c ∈ cs, c.ways.length ≤ 1048576 ∧ c.costs.length ≤ 1048576) (hk0 : 1 ≤ k) (hk : k ≤ 562949953421312) :
    Calls Try.prog 33 #[.slice a cs.length cp, .int .i64 k] w fun e w' => ∃ k', e = .returned (.int .i64 k') ∧ (1 ≤ k' ∧ k' ≤ k + 4398046511104) ∧ Touch w w' lo hi := by
  obtain ⟨hs, hlen, rfl, hlo, hblk, hch, hhi⟩ := h
  obtain ⟨n, hn⟩ : ∃ n, n = cs.length := ⟨_, rfl⟩
  have hle := hch.le
  have Hin := Lib.hid hin
  have Hlen := Lib.hid hlen
  have HB0 := Lib.hid hblk
  have HC0 := Lib.hid hch
  have HN := Lib.hid hn
  have HG : Hid (∀ (j : Nat) (c : Cr) (h : Hd), cs[j]? = some c → hs[j]? = some h → ∀ r, r < 4 → (flatC cs hs)[j * 4 + r]? = (cells1 c h)[r]?) := fun j c h h1 h2 r hr => flatC_get h1 h2 r hr
  have HFL : Hid ((flatC cs hs).length = n * 4) := by rw [hn]; exact flatC_len cs hs hlen
  rw [← hn] at hl ⊢
  clear hlen hblk hch hin hn
  go_enter Try.func33, Try.ntmps33
  go_wp2_with fail
  go_loopw [5, 1] (fun iv kv wr => ∃ (i : Nat) (q : Int) (vs : List Value) (mm : Nat), i ≤ n ∧ iv = .int .i64 i ∧ kv = .int .i64 q ∧ k ≤ q ∧ q ≤ k + 2097154 * i ∧ vs.length = n * 4 ∧ Hid (∀ r, i * 4 ≤ r → vs[r]? = (flatC cs hs)[r]?) ∧ Hid (Blk wr lo vs 28) ∧ lo + 1 ≤ mm ∧ mm ≤ hi ∧ Hid (Chain wr mm hi (cs.drop i) (hs.drop i)) ∧ Touch w wr lo hi) (fun iv _ _ => n - (intOf iv).toNat)
  case atStart => exact ⟨0, k, flatC cs hs, lo + 1, Nat.zero_le _, rfl, rfl, by omega, by omega, HFL.out, fun _ _ => rfl, HB0.out, by omega, hle, by simpa [Hid] using HC0.out, Touch.refl _ _ _⟩
  case round =>
    clear HB0 HC0
    obtain ⟨i, q, vs, mm, hi', rfl, rfl, hq0, hq1, hvl, hrest, hK, hm0, hm1, hC, hT⟩ := hrel
    by_cases hlt : i < n
    · obtain ⟨c, hc⟩ : ∃ c, cs[i]? = some c := ⟨cs[i]'(by rw [← HN.out]; exact hlt), by simp⟩
      obtain ⟨hd, hhd⟩ : ∃ hd, hs[i]? = some hd := ⟨hs[i]'(by rw [← Hlen.out, ← HN.out]; exact hlt), by simp⟩
      obtain ⟨l2, l3⟩ := Hin.out c (List.mem_of_getElem? hc)
      have hcell : ∀ r, r < 4 → wr.cell? ⟨lo, i * 4 + r, none⟩ = (cells1 c hd)[r]? := fun r hr => by
        rw [hK.out.cell, hrest.out _ (by omega), HG.out i c hd hc hhd r hr]
      have e0 : wr.cell? ⟨lo, i * 4, none⟩ = some (.int .i64 c.U) := by have := hcell 0 (by omega); simpa [cells1] using this
      have e1 : wr.cell? ⟨lo, i * 4 + 1, none⟩ = some (.int .i64 c.R) := by have := hcell 1 (by omega); simpa [cells1] using this
      have e2 : wr.cell? ⟨lo, i * 4 + 2, none⟩ = some (.slice hd.1 c.ways.length hd.2.1) := by have := hcell 2 (by omega); simpa [cells1] using this
      have e3 : wr.cell? ⟨lo, i * 4 + 3, none⟩ = some (.slice hd.2.2.1 c.costs.length hd.2.2.2) := by have := hcell 3 (by omega); simpa [cells1] using this
      have f0 := hK.out.free (i * 4)
      have f1 := hK.out.free (i * 4 + 1)
      have hCd : Chain wr mm hi (c :: cs.drop (i + 1)) (hd :: hs.drop (i + 1)) := by
        have h1 : cs.drop i = c :: cs.drop (i + 1) := by rw [List.drop_eq_getElem_cons (by rw [← HN.out]; exact hlt)]; congr 1; have := hc; rw [List.getElem?_eq_getElem (by rw [← HN.out]; exact hlt)] at this; injection this
        have h2 : hs.drop i = hd :: hs.drop (i + 1) := by rw [List.drop_eq_getElem_cons (by rw [← Hlen.out, ← HN.out]; exact hlt)]; congr 1; have := hhd; rw [List.getElem?_eq_getElem (by rw [← Hlen.out, ← HN.out]; exact hlt)] at this; injection this
        have := hC.out
        rwa [h1, h2] at this
      obtain ⟨m', hm', ho, hr⟩ := hCd
      have hrle := hr.le
      obtain ⟨m3, hm3, o2, o3⟩ := ho
      have t2 := (touch_set wr lo (i * 4) (.int .i64 q)).trans (touch_set _ lo (i * 4 + 1) (.int .i64 (q + 1)))
      have K2 := Lib.hid ((hK.out.set (i * 4) (.int .i64 q)).set (i * 4 + 1) (.int .i64 (q + 1)))
      have O2 := Lib.hid (o2.touch t2 (.inr (by omega)))
      have O3 := Lib.hid (o3.touch t2 (.inr (by omega)))
      have CR := Lib.hid (hr.touch t2 (.inr (by omega)))
      have T2 := Lib.hid (hT.trans (t2.mono (lo' := lo) (hi' := hi) (Nat.le_refl _) (by omega)))
      have i0 : (0 : Int) ≤ (i : Int) := Int.natCast_nonneg _
      have i1 : (i : Int) < (n : Int) := by omega
      have HV : Hid (∀ r, (i + 1) * 4 ≤ r → ((vs.set (i * 4) (.int .i64 q)).set (i * 4 + 1) (.int .i64 (q + 1)))[r]? = (flatC cs hs)[r]?) := fun r hr => by
        rw [List.getElem?_set_ne (by omega), List.getElem?_set_ne (by omega)]; exact hrest.out r (by omega)
      have hvl2 : ((vs.set (i * 4) (.int .i64 q)).set (i * 4 + 1) (.int .i64 (q + 1))).length = n * 4 := by simpa using hvl
      have hbq : (i : Int) ≤ 1048576 := by omega
      have hv3 : Hid (((vs.set (i * 4) (.int .i64 q)).set (i * 4 + 1) (.int .i64 (q + 1)))[i * 4 + 3]? = some (.slice hd.2.2.1 c.costs.length hd.2.2.2)) := by
        rw [Hid, List.getElem?_set_ne (by omega), List.getElem?_set_ne (by omega), hrest.out _ (by omega), HG.out i c hd hc hhd 3 (by omega)]; rfl
      clear hcell hc hhd o2 o3 hr t2 hK hC hT hrest
      go_wp2_with fail
      generalize hW2 : ((wr.setCell ⟨lo, i * 4, none⟩ (.int .i64 q)).setCell ⟨lo, i * 4 + 1, none⟩ (.int .i64 (q + 1))) = w2 at *
      clear hW2
      refine (lawMark_I w2 mm m3 hd.1 hd.2.1 c.ways (q + 1 + 1) O2.out (by omega) (by omega) (by omega)).mono ?_
      rintro e w3 ⟨rfl, _, ht3⟩
      have K3 := Lib.hid (K2.out.touch ht3 (.inl (by omega)))
      have e3' : w3.cell? ⟨lo, i * 4 + 3, none⟩ = some (.slice hd.2.2.1 c.costs.length hd.2.2.2) := by rw [K3.out.cell, hv3.out]
      have O33 := Lib.hid (O3.out.touch ht3 (.inr (by omega)))
      have CR3 := Lib.hid (CR.out.touch ht3 (.inr (by omega)))
      have T3 := Lib.hid (T2.out.trans (ht3.mono (lo' := lo) (hi' := hi) (by omega) (by omega)))
      clear ht3 K2 O2 O3 CR T2 e0 e1 e2 e3 f0 f1
      go_wp2_with fail
      refine (lawMark_I w3 m3 m' hd.2.2.1 hd.2.2.2 c.costs (q + 1 + 1 + c.ways.length) O33.out (by omega) (by omega) (by omega)).mono ?_
      rintro e w4 ⟨rfl, _, ht4⟩
      have K4 := Lib.hid (K3.out.touch ht4 (.inl (by omega)))
      have CR4 := Lib.hid (CR3.out.touch ht4 (.inr (by omega)))
      have T4 := T3.out.trans (ht4.mono (lo' := lo) (hi' := hi) (by omega) (by omega))
      clear ht4 K3 O33 CR3 T3 e3'
      go_wp2_with fail
      go_roundw
      case rel => exact ⟨i + 1, q + 1 + 1 + c.ways.length + c.costs.length, _, m', by omega, by go_num, rfl, by omega, by omega, hvl2, HV, K4, by omega, by omega, CR4, T4⟩
      case measure => simp [intOf]; omega
    · have : i = n := by omega
      subst this
      clear hrest hK hC
      go_wp2_with fail
      go_ret
      exact ⟨q, rfl, ⟨by omega, by omega⟩, hT⟩
end Go.Proofs.Ytbgclfbhdpgdaaa
