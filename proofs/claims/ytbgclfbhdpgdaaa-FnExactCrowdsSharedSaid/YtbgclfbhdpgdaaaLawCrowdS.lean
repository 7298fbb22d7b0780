/-
  What the law's helpers on lists of crowds compute.
-/
import Derived.Test.YtbgclfbhdpgdaaaCrowdSS
import Derived.Deep.RegionHeld3
namespace Go.Proofs.Ytbgclfbhdpgdaaa
set_option linter.unusedVariables false
set_option linter.unusedSimpArgs false
open Go.RowKit

/-- What is left behind all of them; below 0: too many. -/
def szCsL (l : Int) : List Cr → Int
  | [] => l
  | c :: cs => if szCrowdF l c.ways c.costs < 0 then -1 else szCsL (szCrowdF l c.ways c.costs) cs
def szCsF (left : Int) (cs : List Cr) : Int := if left - cs.length < 0 then -1 else szCsL (left - cs.length) cs
theorem szCsL_step {l : Int} {cs : List Cr} {k : Nat} {c : Cr} (hk : cs[k]? = some c) : szCsL l (cs.drop k) = if szCrowdF l c.ways c.costs < 0 then -1 else szCsL (szCrowdF l c.ways c.costs) (cs.drop (k + 1)) := by
  obtain ⟨hlt, rfl⟩ := List.getElem?_eq_some_iff.1 hk
  rw [List.drop_eq_getElem_cons hlt, szCsL]
set_option maxRecDepth 10000 in
set_option maxHeartbeats 4000000 in
theorem lawSz_CrowdS (w : World) (a : Option Addr) (cp : Nat) (cs : List Cr) (left : Int) (h : RdCs w w.heap.size a cs) (h0 : 0 ≤ left) (h1 : left ≤ 1048576) (hl : cs.length ≤ 9223372036854775807) (hin : ∀ c ∈ cs, c.ways.length ≤ 9223372036854775807 ∧ c.costs.length ≤ 9223372036854775807) :
    Calls Try.prog 28 #[.slice a cs.length cp, .int .i64 left] w fun e w' => e = .returned (.int .i64 (szCsF left cs)) ∧ Below w.heap.size w w' := by
  by_cases hn : left - (cs.length : Int) < 0
  · have HF : Hid (szCsF left cs = -1) := by show _ = _; unfold szCsF; rw [if_pos hn]
    clear h hin
    go_enter Try.func28, Try.ntmps28
    go_wp2_with fail
    go_ret
    exact ⟨ret_int HF.out.symm, Below.refl _ _⟩
  · have HF : Hid (szCsF left cs = szCsL (left - cs.length) (cs.drop 0)) := by show _ = _; unfold szCsF; rw [if_neg hn, List.drop_zero]
    have Hh := Lib.hid h
    have Hin := Lib.hid hin
    have HSz := Lib.hid (fun (w' : World) (U R : Int) (a2 : Option Addr) (c2 : Nat) (x2 : List Int) (a3 : Option Addr) (c3 : Nat) (x3 : List Int) (l : Int) (k0 : 0 ≤ l) (k1 : l ≤ 1048576) k2 k3 => lawSz_Crowd w' U R a2 c2 x2 a3 c3 x3 l k0 k1 k2 k3)
    have hL0 : 0 ≤ left - (cs.length : Int) := by omega
    have hL1 : left - (cs.length : Int) ≤ 1048576 := by omega
    clear h hin
    go_enter Try.func28, Try.ntmps28
    go_wp2_with fail
    go_loopw [5, 1] (fun i v wr => ∃ (k : Nat) (l : Int), k ≤ cs.length ∧ i = .int .i64 k ∧ v = .int .i64 l ∧ 0 ≤ l ∧ l ≤ 1048576 ∧ Hid (szCsF left cs = szCsL l (cs.drop k)) ∧ Below w.heap.size w wr) (fun i _ _ => cs.length - (intOf i).toNat)
    case atStart => exact ⟨0, _, Nat.zero_le _, rfl, rfl, hL0, hL1, HF.out, Below.refl _ _⟩
    case round =>
      clear HF hL0 hL1
      obtain ⟨k, l, hk, rfl, rfl, hl0, hl1, hF, hw⟩ := hrel
      by_cases hlt : k < cs.length
      · obtain ⟨c, hc⟩ : ∃ c, cs[k]? = some c := ⟨cs[k], by simp⟩
        obtain ⟨b, o, a2, c2, a3, c3, rfl, hb, e0, e1, e2, e3, hr⟩ := (Hh.out.below hw (Nat.le_refl _)).get hc
        obtain ⟨m2, m3⟩ := Hin.out c (List.mem_of_getElem? hc)
        have hst := hF.out.trans (szCsL_step hc)
        have hsp := szCrowdF_spec (left := l) (x2 := c.ways) (x3 := c.costs) hl0
        have LS := Lib.hid (HSz.out wr c.U c.R a2 c2 c.ways a3 c3 c.costs l hl0 hl1 m2 m3)
        obtain ⟨s0, s1, _⟩ := hsp
        generalize szCrowdF l c.ways c.costs = l' at *
        have Hst := Lib.hid hst
        clear hst hF hr hc
        by_cases hn' : l' < 0
        · rw [if_pos hn'] at Hst
          go_wp2_with fail
          refine LS.out.mono ?_
          rintro e w1 ⟨rfl, hb1⟩
          have B1 := hw.trans (hb1.mono hw.size)
          clear hb1 LS
          go_wp2_with fail
          go_ret
          exact ⟨ret_int Hst.out.symm, B1⟩
        · rw [if_neg hn'] at Hst
          go_wp2_with fail
          refine LS.out.mono ?_
          rintro e w1 ⟨rfl, hb1⟩
          have B1 := hw.trans (hb1.mono hw.size)
          clear hb1 LS
          go_wp2_with fail
          go_roundw
          case rel => exact ⟨k + 1, l', by omega, by go_num, rfl, by omega, by omega, Hst, B1⟩
          case measure => simp [intOf]; omega
      · have : k = cs.length := by omega
        subst this
        have HE : Hid (szCsF left cs = l) := by rw [Hid, hF.out, List.drop_length, szCsL]
        clear hF
        go_wp2_with fail
        go_ret
        exact ⟨ret_int HE.out.symm, hw⟩
set_option maxRecDepth 10000 in
set_option maxHeartbeats 4000000 in
theorem lawEq_CrowdS (w : World) (B C : Nat) (a b : Option Addr) (cp dp : Nat) (cs : List Cr) (h : RdCs w B a cs) (g : RdCs w C b cs) (hB : B ≤ w.heap.size) (hC : C ≤ w.heap.size) (hl : cs.length ≤ 1048576) (hin : ∀ c ∈ cs, c.ways.length ≤ 1048576 ∧ c.costs.length ≤ 1048576) :
    Calls Try.prog 32 #[.slice a cs.length cp, .slice b cs.length dp] w fun e w' => e = .returned (.bool true) ∧ Below w.heap.size w w' := by
  have Hh := Lib.hid (h.mono hB)
  have Hg := Lib.hid (g.mono hC)
  have Hin := Lib.hid hin
  clear h g hin
  go_enter Try.func32, Try.ntmps32
  go_wp2_with fail
  go_loopw [5] (fun i wr => ∃ k : Nat, k ≤ cs.length ∧ i = .int .i64 k ∧ Below w.heap.size w wr) (fun i _ => cs.length - (intOf i).toNat)
  case atStart => exact ⟨0, Nat.zero_le _, rfl, Below.refl _ _⟩
  case round =>
    obtain ⟨k, hk, rfl, hw⟩ := hrel
    by_cases hlt : k < cs.length
    · obtain ⟨c, hc⟩ : ∃ c, cs[k]? = some c := ⟨cs[k], by simp⟩
      have hwd := hw.drew
      obtain ⟨b1, o1, a2, c2, a3, c3, rfl, hb1, e0, e1, e2, e3, hr⟩ := (Hh.out.below hw (Nat.le_refl _)).get hc
      obtain ⟨b2, o2, d2, f2, d3, f3, rfl, hb2, g0, g1, g2, g3, hs⟩ := (Hg.out.below hw (Nat.le_refl _)).get hc
      obtain ⟨m2, m3⟩ := Hin.out c (List.mem_of_getElem? hc)
      have hsz := hw.size
      have LE := Lib.hid (lawEq_Crowd wr.drew w.heap.size w.heap.size c.U c.R a2 d2 c2 f2 c.ways a3 d3 c3 f3 c.costs (hr.below (below_drew' (Below.refl wr.heap.size wr)) hsz) (hs.below (below_drew' (Below.refl wr.heap.size wr)) hsz) (by simpa using hsz) (by simpa using hsz) m2 m3)
      have k0 : (0 : Int) ≤ (k : Int) := Int.natCast_nonneg _
      have k1 : (k : Int) < (cs.length : Int) := by omega
      clear hr hs hc
      go_wp2_with fail
      go_region_held3 (fun w' => w'.cell? ⟨b1, o1 + k * 4, none⟩ = some (.int .i64 c.U) ∧ w'.cell? ⟨b1, o1 + k * 4 + 1, none⟩ = some (.int .i64 c.R) ∧ w'.cell? ⟨b1, o1 + k * 4 + 2, none⟩ = some (.slice a2 c.ways.length c2) ∧ w'.cell? ⟨b1, o1 + k * 4 + 3, none⟩ = some (.slice a3 c.costs.length c3) ∧ w'.cell? ⟨b2, o2 + k * 4, none⟩ = some (.int .i64 c.U) ∧ w'.cell? ⟨b2, o2 + k * 4 + 1, none⟩ = some (.int .i64 c.R) ∧ w'.cell? ⟨b2, o2 + k * 4 + 2, none⟩ = some (.slice d2 c.ways.length f2) ∧ w'.cell? ⟨b2, o2 + k * 4 + 3, none⟩ = some (.slice d3 c.costs.length f3))
        (first | go_keep | (have hz : Below w.heap.size wr _ := (below_drew' (Below.refl w.heap.size wr)).trans (hbq.mono (by simpa using hsz)); exact ⟨(hz.cell (p := ⟨b1, _, none⟩) hb1).trans e0, (hz.cell (p := ⟨b1, _, none⟩) hb1).trans e1, (hz.cell (p := ⟨b1, _, none⟩) hb1).trans e2, (hz.cell (p := ⟨b1, _, none⟩) hb1).trans e3, (hz.cell (p := ⟨b2, _, none⟩) hb2).trans g0, (hz.cell (p := ⟨b2, _, none⟩) hb2).trans g1, (hz.cell (p := ⟨b2, _, none⟩) hb2).trans g2, (hz.cell (p := ⟨b2, _, none⟩) hb2).trans g3⟩))
        ((go_at_call 15; refine LE.out.mono ?_; rintro e wq ⟨rfl, hbq⟩))
      have hw2 := hwd.trans (hbq.mono (by simpa using hsz))
      clear hbq LE e0 e1 e2 e3 g0 g1 g2 g3
      go_wp2_with fail
      go_roundw
      case rel => exact ⟨k + 1, by omega, by go_num, hw2⟩
      case measure => simp [intOf]; omega
    · have : k = cs.length := by omega
      subst this
      go_wp2_with fail
      go_ret
      exact ⟨rfl, hw⟩
end Go.Proofs.Ytbgclfbhdpgdaaa
