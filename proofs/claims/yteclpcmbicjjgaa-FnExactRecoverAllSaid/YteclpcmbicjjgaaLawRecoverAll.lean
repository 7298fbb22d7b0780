/-
  FnExactRecoverAll answers true: the law's walk.
-/
import Derived.Test.YteclpcmbicjjgaaHeldV
namespace Go.Proofs.Yteclpcmbicjjgaa
set_option linter.unusedVariables false
set_option linter.unusedSimpArgs false
open Go.RowKit

def fV (vs : List Sv) : Nat → Sv := fun k => vs.getD k zeroSv
def MkD (w : World) (lo : Nat) (a : Option Addr) (vs : List Sv) : Prop := vs = [] ∨ ∃ g hd L H, a = some ⟨g, 0, none⟩ ∧ MkV w lo g vs.length (mkF (fV vs) vs.length) hd L H
theorem MkD.keep {w w' : World} {lo : Nat} {a : Option Addr} {vs : List Sv} (h : MkD w lo a vs) (hb : Below w.heap.size w w') : MkD w' lo a vs := by
  rcases h with h | ⟨g, hd, L, H, ha, h⟩
  · exact .inl h
  · exact .inr ⟨g, hd, L, H, ha, h.keep hb⟩
theorem fV_small {vs : List Sv} (h : ∀ v ∈ vs, svB v = true) : ∀ k, k < vs.length → (fV vs k).A.length ≤ 100 ∧ (fV vs k).B.length ≤ 100 ∧ (fV vs k).W.length ≤ 100 := fun k hk => by
  have hm : fV vs k ∈ vs := by unfold fV; rw [List.getD_eq_getElem?_getD, List.getElem?_eq_getElem hk]; exact List.getElem_mem hk
  obtain ⟨_, h1, h2, h3⟩ := svB_small (.inr (h _ hm))
  omega
theorem in_small {vs : List Sv} (h : ∀ v ∈ vs, svB v = true) : ∀ v ∈ vs, SvIn 1048576 v := fun v hv => by
  obtain ⟨h0, h1, h2, h3⟩ := svB_small (.inr (h _ hv))
  exact ⟨by omega, by omega, by omega, by omega⟩
set_option maxRecDepth 10000 in
theorem markNone_any (w : World) (a : Option Addr) (c : Nat) : Calls Try.prog 30 #[.slice a 0 c, .int .i64 1] w fun e w' => e = .returned (.int .i64 1) ∧ w = w' := by
  go_enter Try.func30, Try.ntmps30
  go_wp2_with fail
  go_loopw [5, 1] (fun iv kv wr => iv = .int .i64 0 ∧ kv = .int .i64 1 ∧ wr = w) (fun _ _ _ => 0)
  case atStart => exact ⟨rfl, rfl, rfl⟩
  case round =>
    obtain ⟨rfl, rfl, rfl⟩ := hrel
    go_wp2_with fail
    go_ret
    exact ⟨rfl, rfl⟩
theorem markSs_any (w : World) (lo : Nat) (a : Option Addr) (c : Nat) (vs : List Sv) (hs : List Hd) (St : List (Nat × Nat)) (h : OwnV w lo (.slice a vs.length c) vs hs St) (hn : vs.length ≤ 8) (hf : ∀ v ∈ vs, svB v = true) :
    Calls Try.prog 30 #[.slice a vs.length c, .int .i64 1] w fun e w' => e = .returned (.int .i64 (KS (fV vs) vs.length)) ∧ MkD w' lo a vs ∧ Below lo w w' := by
  by_cases hv : vs = []
  · subst hv
    refine (markNone_any w a c).mono ?_
    rintro e w' ⟨rfl, rfl⟩
    exact ⟨rfl, .inl rfl, Below.refl _ _⟩
  · obtain ⟨g, ha, hM⟩ := MkV.of h (List.length_pos_iff.2 hv)
    subst ha
    refine (markSavedS_any w lo g vs.length c (fV vs) _ _ _ hM hn (fV_small hf)).mono ?_
    rintro e w' ⟨rfl, h1, h2⟩
    exact ⟨rfl, .inr ⟨g, _, _, _, rfl, h1⟩, h2⟩
set_option maxRecDepth 10000 in
theorem heldNone_any (w : World) (a : Option Addr) (c : Nat) : Calls Try.prog 31 #[.slice a 0 c, .int .i64 1] w fun e w' => e = .returned (.int .i64 1) ∧ w = w' := by
  go_enter Try.func31, Try.ntmps31
  go_wp2_with fail
  go_loopw [5, 1] (fun iv kv wr => iv = .int .i64 0 ∧ kv = .int .i64 1 ∧ wr = w) (fun _ _ _ => 0)
  case atStart => exact ⟨rfl, rfl, rfl⟩
  case round =>
    obtain ⟨rfl, rfl, rfl⟩ := hrel
    go_wp2_with fail
    go_ret
    exact ⟨rfl, rfl⟩
theorem heldSs_any (w : World) (lo : Nat) (a : Option Addr) (c : Nat) (vs : List Sv) (h : MkD w lo a vs) (hn : vs.length ≤ 8) (hf : ∀ v ∈ vs, svB v = true) :
    Calls Try.prog 31 #[.slice a vs.length c, .int .i64 1] w fun e w' => e = .returned (.int .i64 (KS (fV vs) vs.length)) ∧ Below w.heap.size w w' := by
  rcases h with rfl | ⟨g, hd, L, H, rfl, hM⟩
  · refine (heldNone_any w a c).mono ?_
    rintro e w' ⟨rfl, rfl⟩
    exact ⟨rfl, Below.refl _ _⟩
  · exact heldSavedS_any w lo g vs.length c (fV vs) hd L H hM hn (fV_small hf)
set_option maxRecDepth 10000 in
set_option maxHeartbeats 8000000 in
theorem law_ExactRecoverAll (w : World) (s : ByteArray) :
    Calls Try.prog 8 #[.string s] w fun e w' => e = .returned (.bool true) ∧ Below w.heap.size w w' := by
  have s0 : (0 : Int) ≤ (s.size : Int) := Int.natCast_nonneg _
  by_cases hs : s.size ≤ 1048576
  · have hsi : ¬ 1048576 < (s.size : Int) := by omega
    obtain ⟨r1, r2, r3⟩ := recF_ok (s := s) 8 0 (Nat.zero_le _)
    obtain ⟨r, hr⟩ : ∃ r, r = recoverF s := ⟨_, rfl⟩
    rw [show recF s 8 0 = r from hr.symm] at r1 r2 r3
    have LR := Lib.hid (fun w => recoverAllR_any w s hs)
    have LI := Lib.hid (fun w => recoverAll_any w s hs)
    rw [← hr] at LR LI
    clear hr hs
    obtain ⟨vs, p⟩ := r
    simp only at r1 r2 r3
    have R3 := Lib.hid r3
    have p0 : (0 : Int) ≤ (p : Int) := Int.natCast_nonneg _
    have hK := KS_bd (f := fV vs) (n := vs.length) (fun k hk => by have := fV_small r3 k hk; unfold szSv; omega) vs.length (Nat.le_refl _)
    have hK0 : (1 : Int) ≤ (KS (fV vs) vs.length : Int) := by omega
    clear r3
    go_enter Try.func8, Try.ntmps8
    go_wp2_with fail
    refine (LR.out _).mono ?_
    rintro e w1 ⟨hb, a1, c1, h1, S1, rfl, hO⟩
    have RW1 := Lib.hid hO.rd
    have B1 := Lib.hid hb
    have s1 := hb.size
    clear hb hO
    simp only
    go_wp2_with fail
    refine (LI.out _).mono ?_
    rintro e w2 ⟨hb, a2, c2, h2, S2, rfl, hO⟩
    have RW2 := Lib.hid (RW1.out.below hb (Nat.le_refl _))
    have B2 := Lib.hid (below_then B1.out hb)
    have OG2 := Lib.hid hO
    have s2 := hb.size
    clear hb hO RW1 B1
    have L3 := Lib.hid (lawEq_SavedS w2 a2 a1 c2 c1 vs OG2.out.rd (RW2.out.mono s2) (by omega) (in_small R3.out))
    simp only
    go_wp2_with fail
    refine L3.out.mono ?_
    rintro e w3 ⟨rfl, hb⟩
    have RW3 := Lib.hid (RW2.out.below hb (by omega))
    have B3 := Lib.hid (below_then B2.out hb)
    have OG3 := Lib.hid (OG2.out.keep hb)
    have s3 := hb.size
    clear hb L3 RW2 B2 OG2
    have L4 := Lib.hid (markSs_any w3 w1.heap.size a2 c2 vs h2 S2 OG3.out (by omega) R3.out)
    go_wp2_with fail
    refine L4.out.mono ?_
    rintro e w4 ⟨rfl, hM, hb⟩
    have RW4 := Lib.hid (RW3.out.below hb (Nat.le_refl _))
    have B4 := Lib.hid (B3.out.trans (hb.mono s1))
    have MG4 := Lib.hid hM
    have s4 := hb.size
    clear hb hM L4 RW3 B3 OG3
    have L5 := Lib.hid (heldSs_any w4 w1.heap.size a2 c2 vs MG4.out (by omega) R3.out)
    go_wp2_with fail
    refine L5.out.mono ?_
    rintro e w5 ⟨rfl, hb⟩
    have RW5 := Lib.hid (RW4.out.below hb (by omega))
    have B5 := Lib.hid (below_then B4.out hb)
    have MG5 := Lib.hid (MG4.out.keep hb)
    have s5 := hb.size
    clear hb L5 RW4 B4 MG4
    go_wp2_with fail
    refine (LI.out _).mono ?_
    rintro e w6 ⟨hb, a3, c3, h3, S3, rfl, hO⟩
    have RW6 := Lib.hid (RW5.out.below hb (by omega))
    have B6 := Lib.hid (below_then B5.out hb)
    have MG6 := Lib.hid (MG5.out.keep hb)
    have s6 := hb.size
    have L6 := Lib.hid (lawEq_SavedS w6 a3 a1 c3 c1 vs hO.rd (RW6.out.mono (by omega)) (by omega) (in_small R3.out))
    clear hb hO RW5 B5 MG5
    simp only
    go_wp2_with fail
    refine L6.out.mono ?_
    rintro e w7 ⟨rfl, hb⟩
    have B7 := Lib.hid (below_then B6.out hb)
    have MG7 := Lib.hid (MG6.out.keep hb)
    clear hb L6 RW6 B6 MG6
    have L7 := Lib.hid (heldSs_any w7 w1.heap.size a2 c2 vs MG7.out (by omega) R3.out)
    go_wp2_with fail
    refine L7.out.mono ?_
    rintro e w8 ⟨rfl, hb⟩
    have B8 := Lib.hid (below_then B7.out hb)
    clear hb L7 B7 MG7
    go_wp2_with fail
    go_ret
    exact ⟨rfl, B8.out⟩
  · have hsi : 1048576 < (s.size : Int) := by omega
    clear hs
    go_enter Try.func8, Try.ntmps8
    go_wp2_with fail
    go_ret
    exact ⟨rfl, Below.refl _ _⟩
end Go.Proofs.Yteclpcmbicjjgaa
