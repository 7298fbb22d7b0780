/-
  RecoverAll: both roads (its lines are printed by recovGen.py).
-/
import Derived.Test.YteclpcmbicjjgaaOwnV
namespace Go.Proofs.Yteclpcmbicjjgaa
set_option linter.unusedVariables false
set_option linter.unusedSimpArgs false
open Go.RowKit

def recF (s : ByteArray) : Nat → Nat → List Sv × Nat
  | 0, p => ([], p)
  | m + 1, p => match takenF (s.extract p s.size) with
    | none => ([], p)
    | some (v, n) => (v :: (recF s m (p + n)).1, (recF s m (p + n)).2)
def recoverF (s : ByteArray) : List Sv × Nat := recF s 8 0
theorem recF_none {s : ByteArray} {m p : Nat} (h : takenF (s.extract p s.size) = none) : recF s (m + 1) p = ([], p) := by rw [recF, h]
theorem recF_some {s : ByteArray} {m p n : Nat} {v : Sv} (h : takenF (s.extract p s.size) = some (v, n)) : recF s (m + 1) p = (v :: (recF s m (p + n)).1, (recF s m (p + n)).2) := by rw [recF, h]
theorem taken_le {s : ByteArray} {v : Sv} {n : Nat} (h : takenF s = some (v, n)) : n ≤ s.size ∧ 10 ≤ n := by
  obtain ⟨_, h2, h3⟩ := taken_only h
  have hl := congrArg List.length h3
  rw [List.length_append, ← Lib.size_eq] at hl
  have := svL_len_eq v
  omega
theorem recF_ok {s : ByteArray} : ∀ (m p : Nat), p ≤ s.size → (recF s m p).2 ≤ s.size ∧ (recF s m p).1.length ≤ m ∧ ∀ v ∈ (recF s m p).1, svB v = true
  | 0, p, h => ⟨h, Nat.le_refl _, fun v hv => by cases hv⟩
  | m + 1, p, h => by
    cases ht : takenF (s.extract p s.size) with
    | none => rw [recF_none ht]; exact ⟨h, Nat.zero_le _, fun v hv => by cases hv⟩
    | some r =>
      obtain ⟨v, n⟩ := r
      rw [recF_some ht]
      have hn := (taken_le ht).1
      rw [ByteArray.size_extract] at hn
      obtain ⟨h1, h2, h3⟩ := recF_ok (s := s) m (p + n) (by omega)
      refine ⟨h1, by simp; omega, fun v' hv => ?_⟩
      rcases List.mem_cons.1 hv with rfl | hv
      · exact (taken_only ht).1
      · exact h3 v' hv
/-- What is told with vs already there. -/
def recAt (s : ByteArray) (vs : List Sv) (p : Nat) : List Sv × Nat := (vs ++ (recF s (8 - vs.length) p).1, (recF s (8 - vs.length) p).2)
theorem recAt_full {s : ByteArray} {vs : List Sv} {p : Nat} (h : vs.length = 8) : recAt s vs p = (vs, p) := by simp [recAt, h, recF]
theorem recAt_none {s : ByteArray} {vs : List Sv} {p : Nat} (h : vs.length < 8) (ht : takenF (s.extract p s.size) = none) : recAt s vs p = (vs, p) := by
  obtain ⟨m, hm⟩ : ∃ m, 8 - vs.length = m + 1 := ⟨7 - vs.length, by omega⟩
  simp [recAt, hm, recF_none ht]
theorem recAt_some {s : ByteArray} {vs : List Sv} {p n : Nat} {v : Sv} (h : vs.length < 8) (ht : takenF (s.extract p s.size) = some (v, n)) : recAt s vs p = recAt s (vs ++ [v]) (p + n) := by
  obtain ⟨m, hm⟩ : ∃ m, 8 - vs.length = m + 1 := ⟨7 - vs.length, by omega⟩
  have hm2 : 8 - (vs ++ [v]).length = m := by simp; omega
  rw [recAt, recAt, hm, hm2, recF_some ht]; simp
def lenV : Value → Nat
  | .slice _ n _ => n
  | _ => 0
def RecR (w : World) (r : List Sv × Nat) (e : Ending) (w' : World) : Prop :=
  Below w.heap.size w w' ∧ ∃ a c hs St, e = .returned (.tuple #[.slice a r.1.length c, .int .i64 (r.2 : Int), .bool true]) ∧ OwnV w' w.heap.size (.slice a r.1.length c) r.1 hs St
set_option maxRecDepth 10000 in
set_option maxHeartbeats 8000000 in
theorem recoverAll_any (w : World) (s : ByteArray) (hs : s.size ≤ 1048576) : Calls Try.prog 29 #[.string s] w (RecR w (recoverF s)) := by
  have HF : Hid (recoverF s = recAt s [] 0) := rfl
  generalize recoverF s = F at *
  have s0 : (0 : Int) ≤ (s.size : Int) := Int.natCast_nonneg _
  have s1 : (s.size : Int) ≤ 1048576 := by omega
  have HS := Lib.hid hs
  clear hs
  go_enter Try.func29, Try.ntmps29
  go_wp2_with fail
  go_loopw [5, 6] (fun u iv wr => ∃ (p n : Nat) (a : Option Addr) (c : Nat) (vs : List Sv) (hs : List Hd) (St : List (Nat × Nat)), n ≤ 8 ∧ u = .slice a n c ∧ iv = .int .i64 p ∧ Hid (vs.length = n) ∧ (p : Int) ≤ (s.size : Int) ∧ Hid (OwnV wr w.heap.size (.slice a n c) vs hs St) ∧ Hid (F = recAt s vs p) ∧ Below w.heap.size w wr) (fun u _ _ => 8 - lenV u)
  case atStart => exact ⟨0, 0, _, _, [], [], [], by omega, rfl, rfl, rfl, by omega, OwnV.start (World.ownsRow_made w #[] 0 (Nat.le_refl _) (by unfold maxLen; omega) (by simp)), HF.out, bl1 w _⟩
  case round =>
    obtain ⟨p, n, a, c, vs, hs, St, hn8, rfl, rfl, hvl, hp, hO, hF, hw⟩ := hrel
    have p0 : (0 : Int) ≤ (p : Int) := Int.natCast_nonneg _
    have hws := hw.size
    have HW := Lib.hid hw
    by_cases hlt : n < 8
    · have hlti : (n : Int) < 8 := by omega
      have hx : (s.extract p s.size).size ≤ 1048576 := by rw [ByteArray.size_extract]; have := HS.out; omega
      have L1 := taken_any wr (s.extract p s.size) (by omega)
      have hT : Hid (∀ v n', takenF (s.extract p s.size) = some (v, n') → n' ≤ s.size - p ∧ 10 ≤ n') := fun v n' h => by
        have := taken_le h
        rw [ByteArray.size_extract] at this
        omega
      have L1 := Lib.hid L1
      clear hx
      cases hr : takenF (s.extract p s.size) with
      | none =>
        have hE : Hid (F = (vs, p)) := by rw [Hid, hF.out, recAt_none (by rw [hvl.out]; exact hlt) hr]
        rw [hr] at L1
        clear hr hT hF
        go_wp2_with fail
        refine L1.out.mono ?_
        rintro e w1 ⟨hb, rfl⟩
        have hb' := below_then hb (bl1 w1 (.cells zero7 34))
        have O1 := Lib.hid (hO.out.keep hb')
        have B1 := Lib.hid (HW.out.trans (hb'.mono hws))
        clear hb hb' L1 hw
        simp only [zero7] at O1 B1
        simp only [zero7]
        go_wp2_with fail
        go_ret3
        rw [hE.out]
        refine ⟨B1.out, a, c, hs, St, ?_, ?_⟩
        · dsimp only; rw [hvl.out]; rfl
        · dsimp only; rw [hvl.out]; exact O1.out
      | some r =>
        obtain ⟨v, n'⟩ := r
        obtain ⟨t1, t2⟩ := hT.out v n' hr
        have hE : Hid (F = recAt s (vs ++ [v]) (p + n')) := by rw [Hid, hF.out, recAt_some (by rw [hvl.out]; exact hlt) hr]
        rw [hr] at L1
        clear hr hT hF
        have n0 : (10 : Int) ≤ (n' : Int) := by omega
        have n1 : (n' : Int) ≤ (s.size : Int) - (p : Int) := by omega
        have n2 : ¬ (n' : Int) = 0 := by omega
        have n3 : ((n' : Int) == 0) = false := by rw [beq_eq_false_iff_ne]; exact n2
        go_wp2_with fail
        refine L1.out.mono ?_
        rintro e w1 ⟨hb, aA, cA, aB, cB, aW, cW, rfl, hOS⟩
        have B1 := Lib.hid (HW.out.trans (hb.mono hws))
        have W1 := Lib.hid hb
        have OS := Lib.hid hOS
        clear hb L1 hw hOS
        obtain ⟨z0, z1, z2, z3, z4, z5, z6⟩ := cells7 (Blk.new w1 [.string v.s, .int .i64 v.R, .int .i64 v.C, .slice aA v.A.length cA, .slice aB v.B.length cB, .int .i64 v.P, .slice aW v.W.length cW] 34)
        have hl7 : ([.string v.s, .int .i64 v.R, .int .i64 v.C, .slice aA v.A.length cA, .slice aB v.B.length cB, .int .i64 v.P, .slice aW v.W.length cW] : List Value).length = 7 := rfl
        have sw : wr.heap.size ≤ w1.heap.size := W1.out.size
        have own1 : Hid (((w1.alloc (.cells #[.string v.s, .int .i64 v.R, .int .i64 v.C, .slice aA v.A.length cA, .slice aB v.B.length cB, .int .i64 v.P, .slice aW v.W.length cW] 34)).alloc (.cells #[.string v.s, .int .i64 v.R, .int .i64 v.C, .slice aA v.A.length cA, .slice aB v.B.length cB, .int .i64 v.P, .slice aW v.W.length cW] 34)).ownsRow w.heap.size 34 7 (.slice a n c) n (flatC vs hs)) := by
          have := hO.out.row
          rw [hvl.out] at this
          exact ((own_below this W1.out).alloc _).alloc _
        go_wp2_with (at_builtin; refine wpList_append_saved _ rfl _ _ 41 rfl w.heap.size 34 (.agg #[.string ⟨#[]⟩, .int .i64 0, .int .i64 0, .slice none 0 0, .slice none 0 0, .int .i64 0, .slice none 0 0]) 112 Try.underlying41 info_saved rfl _ n _ rfl own1.out (w1.heap.size + 1) [.string v.s, .int .i64 v.R, .int .i64 v.C, .slice aA v.A.length cA, .slice aB v.B.length cB, .int .i64 v.P, .slice aW v.W.length cW] rfl (by intro y hy; simp only [List.mem_cons, List.not_mem_nil, or_false] at hy; rcases hy with rfl | rfl | rfl | rfl | rfl | rfl | rfl <;> rfl) rfl (by simpa using Blk.new (w1.alloc (.cells #[.string v.s, .int .i64 v.R, .int .i64 v.C, .slice aA v.A.length cA, .slice aB v.B.length cB, .int .i64 v.P, .slice aW v.W.length cW] 34)) [.string v.s, .int .i64 v.R, .int .i64 v.C, .slice aA v.A.length cA, .slice aB v.B.length cB, .int .i64 v.P, .slice aW v.W.length cW] 34) (by decide) (by omega) (by simp; omega) ?_)
        intro g5 c5 w5 ho5 hg5 hor
        have B3 := bl2 w1 (.cells #[.string v.s, .int .i64 v.R, .int .i64 v.C, .slice aA v.A.length cA, .slice aB v.B.length cB, .int .i64 v.P, .slice aW v.W.length cW] 34) (.cells #[.string v.s, .int .i64 v.R, .int .i64 v.C, .slice aA v.A.length cA, .slice aB v.B.length cB, .int .i64 v.P, .slice aW v.W.length cW] 34)
        have O5 : OwnV w5 w.heap.size (.slice (some ⟨g5, 0, none⟩) (n + 1) c5) (vs ++ [v]) (hs ++ [(aA, cA, aB, cB, aW, cW)]) (St ++ [(wr.heap.size, w1.heap.size)]) := by
          have hv := hvl.out
          subst hv
          refine OwnV.snoc hO.out hws (below_then W1.out B3) (OS.out.keep B3) ho5 hg5 ?_
          rcases hor with h | h
          · left; rw [h]; rfl
          · right; rw [h]; simp [Value.ownBlock]
        have B5 : Below w.heap.size w w5 := by
          refine ((B1.out.trans (B3.mono (by omega)))).trans (below_of_grown hg5 (by simp; omega) (fun k hk => ?_))
          exact (hO.out.row.lt k hk).1
        have O5 := Lib.hid O5
        have B5 := Lib.hid B5
        clear ho5 hg5 hor B3 own1 OS W1 B1 z0 z1 z2 z3 z4 z5 z6 HW hO
        go_wp2_with fail
        go_roundw
        case rel => exact ⟨p + n', n + 1, some ⟨g5, 0, none⟩, c5, vs ++ [v], hs ++ [(aA, cA, aB, cB, aW, cW)], St ++ [(wr.heap.size, w1.heap.size)], by omega, rfl, by go_num, by have := hvl.out; simp [Hid]; omega, by omega, O5.out, hE.out, B5.out⟩
        case measure => simp [lenV]; omega
    · have hn : n = 8 := by omega
      have hE : Hid (F = (vs, p)) := by rw [Hid, hF.out, recAt_full (by rw [hvl.out]; exact hn)]
      have hlti : ¬ (n : Int) < 8 := by omega
      clear hF
      go_wp2_with fail
      go_ret3
      rw [hE.out]
      refine ⟨hw, a, c, hs, St, ?_, ?_⟩
      · dsimp only; rw [hvl.out, hn]; rfl
      · dsimp only; rw [hvl.out]; exact hO.out
set_option maxRecDepth 10000 in
set_option maxHeartbeats 8000000 in
theorem recoverAllR_any (w : World) (s : ByteArray) (hs : s.size ≤ 1048576) : Calls Try.prog 28 #[.string s] w (RecR w (recoverF s)) := by
  have HF : Hid (recoverF s = recAt s [] 0) := rfl
  generalize recoverF s = F at *
  have s0 : (0 : Int) ≤ (s.size : Int) := Int.natCast_nonneg _
  have s1 : (s.size : Int) ≤ 1048576 := by omega
  have HS := Lib.hid hs
  clear hs
  go_enter Try.func28, Try.ntmps28
  go_wp2_with fail
  go_loopw [5, 6] (fun u iv wr => ∃ (p n : Nat) (a : Option Addr) (c : Nat) (vs : List Sv) (hs : List Hd) (St : List (Nat × Nat)), n ≤ 8 ∧ u = .slice a n c ∧ iv = .int .i64 p ∧ Hid (vs.length = n) ∧ (p : Int) ≤ (s.size : Int) ∧ Hid (OwnV wr w.heap.size (.slice a n c) vs hs St) ∧ Hid (F = recAt s vs p) ∧ Below w.heap.size w wr) (fun u _ _ => 8 - lenV u)
  case atStart => exact ⟨0, 0, _, _, [], [], [], by omega, rfl, rfl, rfl, by omega, OwnV.start (World.ownsRow_made w #[] 0 (Nat.le_refl _) (by unfold maxLen; omega) (by simp)), HF.out, bl1 w _⟩
  case round =>
    obtain ⟨p, n, a, c, vs, hs, St, hn8, rfl, rfl, hvl, hp, hO, hF, hw⟩ := hrel
    have p0 : (0 : Int) ≤ (p : Int) := Int.natCast_nonneg _
    have hws := hw.size
    have HW := Lib.hid hw
    by_cases hlt : n < 8
    · have hlti : (n : Int) < 8 := by omega
      have hx : (s.extract p s.size).size ≤ 1048576 := by rw [ByteArray.size_extract]; have := HS.out; omega
      have L1 := l07Begin_any wr (s.extract p s.size) (by omega)
      rw [begin_taken] at L1
      have hT : Hid (∀ v n', takenF (s.extract p s.size) = some (v, n') → n' ≤ s.size - p ∧ 10 ≤ n') := fun v n' h => by
        have := taken_le h
        rw [ByteArray.size_extract] at this
        omega
      have L1 := Lib.hid L1
      clear hx
      cases hr : takenF (s.extract p s.size) with
      | none =>
        have hE : Hid (F = (vs, p)) := by rw [Hid, hF.out, recAt_none (by rw [hvl.out]; exact hlt) hr]
        rw [hr] at L1
        clear hr hT hF
        go_wp2_with fail
        refine L1.out.mono ?_
        rintro e w1 ⟨hb, rfl⟩
        have hb' := below_then hb (bl1 w1 (.cells zero7 34))
        have O1 := Lib.hid (hO.out.keep hb')
        have B1 := Lib.hid (HW.out.trans (hb'.mono hws))
        clear hb hb' L1 hw
        simp only [zero7] at O1 B1
        simp only [zero7]
        go_wp2_with fail
        go_ret3
        rw [hE.out]
        refine ⟨B1.out, a, c, hs, St, ?_, ?_⟩
        · dsimp only; rw [hvl.out]; rfl
        · dsimp only; rw [hvl.out]; exact O1.out
      | some r =>
        obtain ⟨v, n'⟩ := r
        obtain ⟨t1, t2⟩ := hT.out v n' hr
        have hE : Hid (F = recAt s (vs ++ [v]) (p + n')) := by rw [Hid, hF.out, recAt_some (by rw [hvl.out]; exact hlt) hr]
        rw [hr] at L1
        clear hr hT hF
        have n0 : (10 : Int) ≤ (n' : Int) := by omega
        have n1 : (n' : Int) ≤ (s.size : Int) - (p : Int) := by omega
        have n2 : ¬ (n' : Int) = 0 := by omega
        have n3 : ((n' : Int) == 0) = false := by rw [beq_eq_false_iff_ne]; exact n2
        go_wp2_with fail
        refine L1.out.mono ?_
        rintro e w1 ⟨hb, aA, cA, aB, cB, aW, cW, rfl, hOS⟩
        have B1 := Lib.hid (HW.out.trans (hb.mono hws))
        have W1 := Lib.hid hb
        have OS := Lib.hid hOS
        clear hb L1 hw hOS
        obtain ⟨z0, z1, z2, z3, z4, z5, z6⟩ := cells7 (Blk.new w1 [.string v.s, .int .i64 v.R, .int .i64 v.C, .slice aA v.A.length cA, .slice aB v.B.length cB, .int .i64 v.P, .slice aW v.W.length cW] 34)
        have hl7 : ([.string v.s, .int .i64 v.R, .int .i64 v.C, .slice aA v.A.length cA, .slice aB v.B.length cB, .int .i64 v.P, .slice aW v.W.length cW] : List Value).length = 7 := rfl
        have sw : wr.heap.size ≤ w1.heap.size := W1.out.size
        have own1 : Hid (((w1.alloc (.cells #[.string v.s, .int .i64 v.R, .int .i64 v.C, .slice aA v.A.length cA, .slice aB v.B.length cB, .int .i64 v.P, .slice aW v.W.length cW] 34)).alloc (.cells #[.string v.s, .int .i64 v.R, .int .i64 v.C, .slice aA v.A.length cA, .slice aB v.B.length cB, .int .i64 v.P, .slice aW v.W.length cW] 34)).ownsRow w.heap.size 34 7 (.slice a n c) n (flatC vs hs)) := by
          have := hO.out.row
          rw [hvl.out] at this
          exact ((own_below this W1.out).alloc _).alloc _
        go_wp2_with (at_builtin; refine wpList_append_saved _ rfl _ _ 41 rfl w.heap.size 34 (.agg #[.string ⟨#[]⟩, .int .i64 0, .int .i64 0, .slice none 0 0, .slice none 0 0, .int .i64 0, .slice none 0 0]) 112 Try.underlying41 info_saved rfl _ n _ rfl own1.out (w1.heap.size + 1) [.string v.s, .int .i64 v.R, .int .i64 v.C, .slice aA v.A.length cA, .slice aB v.B.length cB, .int .i64 v.P, .slice aW v.W.length cW] rfl (by intro y hy; simp only [List.mem_cons, List.not_mem_nil, or_false] at hy; rcases hy with rfl | rfl | rfl | rfl | rfl | rfl | rfl <;> rfl) rfl (by simpa using Blk.new (w1.alloc (.cells #[.string v.s, .int .i64 v.R, .int .i64 v.C, .slice aA v.A.length cA, .slice aB v.B.length cB, .int .i64 v.P, .slice aW v.W.length cW] 34)) [.string v.s, .int .i64 v.R, .int .i64 v.C, .slice aA v.A.length cA, .slice aB v.B.length cB, .int .i64 v.P, .slice aW v.W.length cW] 34) (by decide) (by omega) (by simp; omega) ?_)
        intro g5 c5 w5 ho5 hg5 hor
        have B3 := bl2 w1 (.cells #[.string v.s, .int .i64 v.R, .int .i64 v.C, .slice aA v.A.length cA, .slice aB v.B.length cB, .int .i64 v.P, .slice aW v.W.length cW] 34) (.cells #[.string v.s, .int .i64 v.R, .int .i64 v.C, .slice aA v.A.length cA, .slice aB v.B.length cB, .int .i64 v.P, .slice aW v.W.length cW] 34)
        have O5 : OwnV w5 w.heap.size (.slice (some ⟨g5, 0, none⟩) (n + 1) c5) (vs ++ [v]) (hs ++ [(aA, cA, aB, cB, aW, cW)]) (St ++ [(wr.heap.size, w1.heap.size)]) := by
          have hv := hvl.out
          subst hv
          refine OwnV.snoc hO.out hws (below_then W1.out B3) (OS.out.keep B3) ho5 hg5 ?_
          rcases hor with h | h
          · left; rw [h]; rfl
          · right; rw [h]; simp [Value.ownBlock]
        have B5 : Below w.heap.size w w5 := by
          refine ((B1.out.trans (B3.mono (by omega)))).trans (below_of_grown hg5 (by simp; omega) (fun k hk => ?_))
          exact (hO.out.row.lt k hk).1
        have O5 := Lib.hid O5
        have B5 := Lib.hid B5
        clear ho5 hg5 hor B3 own1 OS W1 B1 z0 z1 z2 z3 z4 z5 z6 HW hO
        go_wp2_with fail
        go_roundw
        case rel => exact ⟨p + n', n + 1, some ⟨g5, 0, none⟩, c5, vs ++ [v], hs ++ [(aA, cA, aB, cB, aW, cW)], St ++ [(wr.heap.size, w1.heap.size)], by omega, rfl, by go_num, by have := hvl.out; simp [Hid]; omega, by omega, O5.out, hE.out, B5.out⟩
        case measure => simp [lenV]; omega
    · have hn : n = 8 := by omega
      have hE : Hid (F = (vs, p)) := by rw [Hid, hF.out, recAt_full (by rw [hvl.out]; exact hn)]
      have hlti : ¬ (n : Int) < 8 := by omega
      clear hF
      go_wp2_with fail
      go_ret3
      rw [hE.out]
      refine ⟨hw, a, c, hs, St, ?_, ?_⟩
      · dsimp only; rw [hvl.out, hn]; rfl
      · dsimp only; rw [hvl.out]; exact hO.out
end Go.Proofs.Yteclpcmbicjjgaa
