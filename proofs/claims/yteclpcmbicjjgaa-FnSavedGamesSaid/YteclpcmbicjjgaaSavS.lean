/-
  A list of saved games: what lies where; counted and compared.
-/
import Derived.Test.YteclpcmbicjjgaaSavZ
import Derived.Deep.RegionHeld3
namespace Go.Proofs.Yteclpcmbicjjgaa
set_option linter.unusedVariables false
set_option linter.unusedSimpArgs false
open Go.RowKit

structure Sv where
  s : ByteArray
  R : Int
  C : Int
  A : List Int
  B : List Int
  P : Int
  W : List Int
/-- What the k-th of a list that begins at ⟨b, o⟩ shows. -/
def SvAt (w : World) (Z b o : Nat) (v : Sv) (k : Nat) (aA : Option Addr) (cA : Nat) (aB : Option Addr) (cB : Nat) (aW : Option Addr) (cW : Nat) : Prop :=
  w.cell? ⟨b, o + k * 7, none⟩ = some (.string v.s) ∧ w.cell? ⟨b, o + k * 7 + 1, none⟩ = some (.int .i64 v.R) ∧ w.cell? ⟨b, o + k * 7 + 2, none⟩ = some (.int .i64 v.C) ∧ w.cell? ⟨b, o + k * 7 + 3, none⟩ = some (.slice aA v.A.length cA) ∧ w.cell? ⟨b, o + k * 7 + 4, none⟩ = some (.slice aB v.B.length cB) ∧ w.cell? ⟨b, o + k * 7 + 5, none⟩ = some (.int .i64 v.P) ∧ w.cell? ⟨b, o + k * 7 + 6, none⟩ = some (.slice aW v.W.length cW) ∧ RdSaved w Z aA v.A aB v.B aW v.W
def RdSs (w : World) (Z : Nat) (a : Option Addr) (vs : List Sv) : Prop :=
  vs = [] ∨ ∃ b o, a = some ⟨b, o, none⟩ ∧ b < Z ∧ ∀ k v, vs[k]? = some v → ∃ aA cA aB cB aW cW, SvAt w Z b o v k aA cA aB cB aW cW
section
variable {w w' : World} {Z Y b o k : Nat} {v : Sv} {aA aB aW a : Option Addr} {cA cB cW : Nat} {vs : List Sv}
theorem SvAt.below (h : SvAt w Z b o v k aA cA aB cB aW cW) (hb : Below Y w w') (hZ : Z ≤ Y) (hbb : b < Z) : SvAt w' Z b o v k aA cA aB cB aW cW := by
  obtain ⟨h0, h1, h2, h3, h4, h5, h6, hr⟩ := h
  have hl : b < Y := by omega
  exact ⟨(hb.cell hl).trans h0, (hb.cell hl).trans h1, (hb.cell hl).trans h2, (hb.cell hl).trans h3, (hb.cell hl).trans h4, (hb.cell hl).trans h5, (hb.cell hl).trans h6, hr.below hb hZ⟩
theorem SvAt.mono (h : SvAt w Z b o v k aA cA aB cB aW cW) (hZ : Z ≤ Y) : SvAt w Y b o v k aA cA aB cB aW cW := by
  obtain ⟨h0, h1, h2, h3, h4, h5, h6, hr⟩ := h
  exact ⟨h0, h1, h2, h3, h4, h5, h6, hr.mono hZ⟩
theorem RdSs.below (h : RdSs w Z a vs) (hb : Below Y w w') (hZ : Z ≤ Y) : RdSs w' Z a vs := by
  rcases h with h | ⟨b, o, ha, hbb, hk⟩
  · exact .inl h
  · refine .inr ⟨b, o, ha, hbb, fun k v hv => ?_⟩
    obtain ⟨aA, cA, aB, cB, aW, cW, h⟩ := hk k v hv
    exact ⟨aA, cA, aB, cB, aW, cW, h.below hb hZ hbb⟩
theorem RdSs.mono (h : RdSs w Z a vs) (hZ : Z ≤ Y) : RdSs w Y a vs := by
  rcases h with h | ⟨b, o, ha, hbb, hk⟩
  · exact .inl h
  · refine .inr ⟨b, o, ha, by omega, fun k v hv => ?_⟩
    obtain ⟨aA, cA, aB, cB, aW, cW, h⟩ := hk k v hv
    exact ⟨aA, cA, aB, cB, aW, cW, h.mono hZ⟩
theorem RdSs.to (h : RdSs w w.heap.size a vs) (hb : Below w.heap.size w w') : RdSs w' w'.heap.size a vs := (h.below hb (Nat.le_refl _)).mono hb.size
theorem RdSs.get (h : RdSs w Z a vs) {k : Nat} {v : Sv} (hk : vs[k]? = some v) : ∃ b o aA cA aB cB aW cW, a = some ⟨b, o, none⟩ ∧ b < Z ∧ SvAt w Z b o v k aA cA aB cB aW cW := by
  rcases h with h | ⟨b, o, ha, hbb, hh⟩
  · subst h; simp at hk
  · obtain ⟨aA, cA, aB, cB, aW, cW, h⟩ := hh k v hk
    exact ⟨b, o, aA, cA, aB, cB, aW, cW, ha, hbb, h⟩
end
/-- Sizes within the bound M. -/
def SvIn (M : Nat) (v : Sv) : Prop := v.s.size ≤ M ∧ v.A.length ≤ M ∧ v.B.length ≤ M ∧ v.W.length ≤ M
/-- What is left behind all of them; below 0: too many. -/
def szSsL (l : Int) : List Sv → Int
  | [] => l
  | v :: vs => if szSavedF l v.s.size v.A v.B v.W < 0 then -1 else szSsL (szSavedF l v.s.size v.A v.B v.W) vs
def szSsF (left : Int) (vs : List Sv) : Int := if left - vs.length < 0 then -1 else szSsL (left - vs.length) vs
theorem szSsL_step {l : Int} {vs : List Sv} {k : Nat} {v : Sv} (hk : vs[k]? = some v) : szSsL l (vs.drop k) = if szSavedF l v.s.size v.A v.B v.W < 0 then -1 else szSsL (szSavedF l v.s.size v.A v.B v.W) (vs.drop (k + 1)) := by
  obtain ⟨hlt, rfl⟩ := List.getElem?_eq_some_iff.1 hk
  rw [List.drop_eq_getElem_cons hlt, szSsL]
theorem szSsL_spec : ∀ {vs : List Sv} {l : Int}, 0 ≤ l → l ≤ 1048576 → -1 ≤ szSsL l vs ∧ szSsL l vs ≤ l ∧ (0 ≤ szSsL l vs → ∀ v ∈ vs, SvIn 1048576 v)
  | [], l, h, _ => by simp [szSsL]; omega
  | v :: vs, l, h, hm => by
    obtain ⟨s0, s1, s2⟩ := szSavedF_spec (left := l) (n := v.s.size) (xA := v.A) (xB := v.B) (xW := v.W) h
    rw [szSsL]
    by_cases hn : szSavedF l v.s.size v.A v.B v.W < 0
    · rw [if_pos hn]; exact ⟨by omega, by omega, fun h => by omega⟩
    · rw [if_neg hn]
      obtain ⟨t0, t1, t2⟩ := szSsL_spec (vs := vs) (l := szSavedF l v.s.size v.A v.B v.W) (by omega) (by omega)
      refine ⟨t0, by omega, fun h d hd => ?_⟩
      rcases List.mem_cons.1 hd with rfl | hd
      · obtain ⟨q0, q1, q2, q3⟩ := s2 (by omega)
        exact ⟨by omega, by omega, by omega, by omega⟩
      · exact t2 h d hd
theorem szSsF_spec {left : Int} {vs : List Sv} (h : 0 ≤ left) (hm : left ≤ 1048576) : -1 ≤ szSsF left vs ∧ szSsF left vs ≤ left ∧ (0 ≤ szSsF left vs → vs.length ≤ 1048576 ∧ ∀ v ∈ vs, SvIn 1048576 v) := by
  unfold szSsF
  by_cases hn : left - vs.length < 0
  · rw [if_pos hn]; exact ⟨by omega, by omega, fun h => by omega⟩
  · rw [if_neg hn]
    obtain ⟨t0, t1, t2⟩ := szSsL_spec (vs := vs) (l := left - vs.length) (by omega) (by omega)
    exact ⟨t0, by omega, fun h => ⟨by omega, t2 h⟩⟩
set_option maxRecDepth 10000 in
set_option maxHeartbeats 4000000 in
theorem lawSz_SavedS (w : World) (a : Option Addr) (cp : Nat) (vs : List Sv) (left : Int) (h : RdSs w w.heap.size a vs) (h0 : 0 ≤ left) (h1 : left ≤ 1048576) (hl : vs.length ≤ 9223372036854775807) (hin : ∀ v ∈ vs, SvIn 9223372036854775807 v) :
    Calls Try.prog 15 #[.slice a vs.length cp, .int .i64 left] w fun e w' => e = .returned (.int .i64 (szSsF left vs)) ∧ Below w.heap.size w w' := by
  by_cases hn : left - (vs.length : Int) < 0
  · have HF : Hid (szSsF left vs = -1) := by show _ = _; unfold szSsF; rw [if_pos hn]
    clear h hin
    go_enter Try.func15, Try.ntmps15
    go_wp2_with fail
    go_ret
    exact ⟨ret_int HF.out.symm, Below.refl _ _⟩
  · have HF : Hid (szSsF left vs = szSsL (left - vs.length) (vs.drop 0)) := by show _ = _; unfold szSsF; rw [if_neg hn, List.drop_zero]
    have Hh := Lib.hid h
    have Hin := Lib.hid hin
    have hL0 : 0 ≤ left - (vs.length : Int) := by omega
    have hL1 : left - (vs.length : Int) ≤ 1048576 := by omega
    clear h hin
    go_enter Try.func15, Try.ntmps15
    go_wp2_with fail
    go_loopw [5, 1] (fun i v wr => ∃ (k : Nat) (l : Int), k ≤ vs.length ∧ i = .int .i64 k ∧ v = .int .i64 l ∧ 0 ≤ l ∧ l ≤ 1048576 ∧ Hid (szSsF left vs = szSsL l (vs.drop k)) ∧ Below w.heap.size w wr) (fun i _ _ => vs.length - (intOf i).toNat)
    case atStart => exact ⟨0, _, Nat.zero_le _, rfl, rfl, hL0, hL1, HF.out, Below.refl _ _⟩
    case round =>
      clear HF hL0 hL1
      obtain ⟨k, l, hk, rfl, rfl, hl0, hl1, hF, hw⟩ := hrel
      by_cases hlt : k < vs.length
      · obtain ⟨v, hv⟩ : ∃ v, vs[k]? = some v := ⟨vs[k], by simp⟩
        obtain ⟨b, o, aA, cA, aB, cB, aW, cW, rfl, hb, e0, e1, e2, e3, e4, e5, e6, hr⟩ := (Hh.out.below hw (Nat.le_refl _)).get hv
        obtain ⟨m0, m1, m2, m3⟩ := Hin.out v (List.mem_of_getElem? hv)
        have hst := hF.out.trans (szSsL_step hv)
        have hsp := szSavedF_spec (left := l) (n := v.s.size) (xA := v.A) (xB := v.B) (xW := v.W) hl0
        have LS := Lib.hid (lawSz_Saved wr v.s v.R v.C v.P aA cA v.A aB cB v.B aW cW v.W l hl0 hl1 m0 m1 m2 m3)
        obtain ⟨s0, s1, _⟩ := hsp
        generalize szSavedF l v.s.size v.A v.B v.W = l' at *
        have Hst := Lib.hid hst
        clear hst hF hr hv m0 m1 m2 m3
        by_cases hn' : l' < 0
        · rw [if_pos hn'] at Hst
          go_wp2_with fail
          refine LS.out.mono ?_
          rintro e w1 ⟨rfl, hb1⟩
          have B1 := hw.trans (hb1.mono hw.size)
          clear hb1 LS
          go_wp2_with fail
          go_ret
          exact ⟨ret_int Hst.out.symm, B1⟩
        · rw [if_neg hn'] at Hst
          go_wp2_with fail
          refine LS.out.mono ?_
          rintro e w1 ⟨rfl, hb1⟩
          have B1 := hw.trans (hb1.mono hw.size)
          clear hb1 LS
          go_wp2_with fail
          go_roundw
          case rel => exact ⟨k + 1, l', by omega, by go_num, rfl, by omega, by omega, Hst, B1⟩
          case measure => simp [intOf]; omega
      · have : k = vs.length := by omega
        subst this
        have HE : Hid (szSsF left vs = l) := by rw [Hid, hF.out, List.drop_length, szSsL]
        clear hF
        go_wp2_with fail
        go_ret
        exact ⟨ret_int HE.out.symm, hw⟩
set_option maxRecDepth 10000 in
set_option maxHeartbeats 4000000 in
theorem lawEq_SavedS (w : World) (a b : Option Addr) (cp dp : Nat) (vs : List Sv) (h : RdSs w w.heap.size a vs) (g : RdSs w w.heap.size b vs) (hl : vs.length ≤ 1048576) (hin : ∀ v ∈ vs, SvIn 1048576 v) :
    Calls Try.prog 19 #[.slice a vs.length cp, .slice b vs.length dp] w fun e w' => e = .returned (.bool true) ∧ Below w.heap.size w w' := by
  have Hh := Lib.hid h
  have Hg := Lib.hid g
  have Hin := Lib.hid hin
  clear h g hin
  go_enter Try.func19, Try.ntmps19
  go_wp2_with fail
  go_loopw [5] (fun i wr => ∃ k : Nat, k ≤ vs.length ∧ i = .int .i64 k ∧ Below w.heap.size w wr) (fun i _ => vs.length - (intOf i).toNat)
  case atStart => exact ⟨0, Nat.zero_le _, rfl, Below.refl _ _⟩
  case round =>
    obtain ⟨k, hk, rfl, hw⟩ := hrel
    by_cases hlt : k < vs.length
    · obtain ⟨v, hv⟩ : ∃ v, vs[k]? = some v := ⟨vs[k], by simp⟩
      have hwd := hw.drew
      obtain ⟨b1, o1, aA, cA, aB, cB, aW, cW, rfl, hb1, e0, e1, e2, e3, e4, e5, e6, hr⟩ := (Hh.out.below hw (Nat.le_refl _)).get hv
      obtain ⟨b2, o2, bA, dA, bB, dB, bW, dW, rfl, hb2, g0, g1, g2, g3, g4, g5, g6, hs⟩ := (Hg.out.below hw (Nat.le_refl _)).get hv
      obtain ⟨m0, m1, m2, m3⟩ := Hin.out v (List.mem_of_getElem? hv)
      have hsz := hw.size
      have LE := Lib.hid (lawEq_Saved wr.drew v.s v.R v.C v.P aA bA cA dA v.A aB bB cB dB v.B aW bW cW dW v.W ((hr.below (below_drew' (Below.refl w.heap.size wr)) (Nat.le_refl _)).mono hsz) ((hs.below (below_drew' (Below.refl w.heap.size wr)) (Nat.le_refl _)).mono hsz) m1 m2 m3)
      have k0 : (0 : Int) ≤ (k : Int) := Int.natCast_nonneg _
      have k1 : (k : Int) < (vs.length : Int) := by omega
      clear hr hs hv m0 m1 m2 m3
      go_wp2_with fail
      go_region_held3 (fun w' => w'.cell? ⟨b1, o1 + k * 7, none⟩ = some (.string v.s) ∧ w'.cell? ⟨b1, o1 + k * 7 + 1, none⟩ = some (.int .i64 v.R) ∧ w'.cell? ⟨b1, o1 + k * 7 + 2, none⟩ = some (.int .i64 v.C) ∧ w'.cell? ⟨b1, o1 + k * 7 + 3, none⟩ = some (.slice aA v.A.length cA) ∧ w'.cell? ⟨b1, o1 + k * 7 + 4, none⟩ = some (.slice aB v.B.length cB) ∧ w'.cell? ⟨b1, o1 + k * 7 + 5, none⟩ = some (.int .i64 v.P) ∧ w'.cell? ⟨b1, o1 + k * 7 + 6, none⟩ = some (.slice aW v.W.length cW) ∧ w'.cell? ⟨b2, o2 + k * 7, none⟩ = some (.string v.s) ∧ w'.cell? ⟨b2, o2 + k * 7 + 1, none⟩ = some (.int .i64 v.R) ∧ w'.cell? ⟨b2, o2 + k * 7 + 2, none⟩ = some (.int .i64 v.C) ∧ w'.cell? ⟨b2, o2 + k * 7 + 3, none⟩ = some (.slice bA v.A.length dA) ∧ w'.cell? ⟨b2, o2 + k * 7 + 4, none⟩ = some (.slice bB v.B.length dB) ∧ w'.cell? ⟨b2, o2 + k * 7 + 5, none⟩ = some (.int .i64 v.P) ∧ w'.cell? ⟨b2, o2 + k * 7 + 6, none⟩ = some (.slice bW v.W.length dW))
        (first | go_keep | (have hz : Below w.heap.size wr _ := (below_drew' (Below.refl w.heap.size wr)).trans (hbq.mono (by simpa using hsz)); exact ⟨(hz.cell (p := ⟨b1, _, none⟩) hb1).trans e0, (hz.cell (p := ⟨b1, _, none⟩) hb1).trans e1, (hz.cell (p := ⟨b1, _, none⟩) hb1).trans e2, (hz.cell (p := ⟨b1, _, none⟩) hb1).trans e3, (hz.cell (p := ⟨b1, _, none⟩) hb1).trans e4, (hz.cell (p := ⟨b1, _, none⟩) hb1).trans e5, (hz.cell (p := ⟨b1, _, none⟩) hb1).trans e6, (hz.cell (p := ⟨b2, _, none⟩) hb2).trans g0, (hz.cell (p := ⟨b2, _, none⟩) hb2).trans g1, (hz.cell (p := ⟨b2, _, none⟩) hb2).trans g2, (hz.cell (p := ⟨b2, _, none⟩) hb2).trans g3, (hz.cell (p := ⟨b2, _, none⟩) hb2).trans g4, (hz.cell (p := ⟨b2, _, none⟩) hb2).trans g5, (hz.cell (p := ⟨b2, _, none⟩) hb2).trans g6⟩))
        ((go_at_call 14; refine LE.out.mono ?_; rintro e wq ⟨rfl, hbq⟩))
      have hw2 := hwd.trans (hbq.mono (by simpa using hsz))
      clear hbq LE e0 e1 e2 e3 e4 e5 e6 g0 g1 g2 g3 g4 g5 g6
      go_wp2_with fail
      go_roundw
      case rel => exact ⟨k + 1, by omega, by go_num, hw2⟩
      case measure => simp [intOf]; omega
    · have : k = vs.length := by omega
      subst this
      go_wp2_with fail
      go_ret
      exact ⟨rfl, hw⟩
end Go.Proofs.Yteclpcmbicjjgaa
