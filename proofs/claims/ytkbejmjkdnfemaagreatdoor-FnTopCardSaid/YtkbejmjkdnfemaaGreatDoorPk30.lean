/-
  Part 30 of what the proof stands on: lemmas and contracts, each with its conditions ahead of the colon.
-/
import Derived.Test.YtkbejmjkdnfemaaGreatDoorShelf
import Derived.Lib.Builder
import Derived.Lib.AppendStr
import Derived.Test.YtkbejmjkdnfemaaGreatDoorPk11
import Derived.Test.YtkbejmjkdnfemaaGreatDoorPk17
import Derived.Test.YtkbejmjkdnfemaaGreatDoorPk27
import Derived.Test.YtkbejmjkdnfemaaGreatDoorPk29
namespace Go.Proofs.YtkbejmjkdnfemaaGreatDoor
set_option linter.unusedVariables false
set_option linter.unusedSimpArgs false
open Go.RowKit

theorem small_of {d : DD} (h : d.ok = true) : d.small := by
  obtain ⟨⟨_, a⟩, ⟨_, b⟩, ⟨_, v⟩, ⟨_, l⟩, ⟨_, k⟩, _, f⟩ := DD.ok_len h
  exact ⟨by omega, by omega, by omega, by omega, by omega, by omega⟩
/-- A line's function, its contract, its bounds. -/
def LineOk (p : LineF) : Prop := CmdC p.1 p.2 ∧ ∀ d : DD, d.ok = true → (p.2 d).1.ok = true ∧ (p.2 d).2.length ≤ 1048576
theorem cmd_len {f : DD → Ans} {d : DD} (h : ∀ d' t, f d = some (some (d', t)) → t.length ≤ 1048576) : (cmdOf f d).2.length ≤ 1048576 := by
  unfold cmdOf
  split
  · show 4 ≤ _; decide
  · show 2 ≤ _; decide
  · rename_i d' t e
    split
    · exact h _ _ e
    · show 2 ≤ _; decide
theorem lineOk_of {l : List UInt8} {f : DD → Ans} (hl : l.length ≤ 1048576) (HC : CarryC (cutL 32 l) f) (HS : ∀ d d' t, d.ok = true → f d = some (some (d', t)) → d'.small ∧ t.length ≤ 1048576) : LineOk (l, cmdOf f) :=
  ⟨command_any hl HC (fun d d' t h e => (HS d d' t h e).1), fun d h => ⟨cmdOf_ok h, cmd_len (fun d' t e => (HS d d' t h e).2)⟩⟩
theorem lineOk_one {s : List UInt8} {f : DD → Ans} (hl : s.length ≤ 1048576) (hs : (32 : UInt8) ∉ s) (HA : AloneC s f) (HS : ∀ d d' t, d.ok = true → f d = some (some (d', t)) → d'.small ∧ t.length ≤ 1048576) : LineOk (s, cmdOf f) :=
  lineOk_of hl (by rw [cut_one hs]; exact carry_one HA) HS
theorem lineOk_two {s t : List UInt8} {f : DD → Ans} (hl : (s ++ 32 :: t).length ≤ 1048576) (hs : (32 : UInt8) ∉ s) (ht : (32 : UInt8) ∉ t) (HW : WithC s t f) (HS : ∀ d d' t, d.ok = true → f d = some (some (d', t)) → d'.small ∧ t.length ≤ 1048576) : LineOk (s ++ 32 :: t, cmdOf f) :=
  lineOk_of hl (by rw [cut_two hs ht]; exact carry_two HW) HS
theorem map_told {r : Option (List UInt8)} {d d' : DD} {t : List UInt8} (h : (some (r.map fun t => (d, t)) : Ans) = some (some (d', t))) : d' = d ∧ r = some t := by
  injection h with h
  cases r with
  | none => cases h
  | some s => injection h with h; injection h with h1 h2; exact ⟨h1.symm, by rw [h2]⟩
theorem txtO_len {xss : List (List Int)} {t : List UInt8} (h : txtO xss = some t) (hn : xss.length ≤ 8) : t.length ≤ 1048576 := by
  unfold txtO at h
  split at h
  · rename_i ha
    injection h with h
    subst h
    have := parts_le (List.all_eq_true.1 ha)
    omega
  · cases h
theorem told_ok {r : DD → Option (List UInt8)} (hr : ∀ d t, d.ok = true → r d = some t → t.length ≤ 1048576) : ∀ d d' t, d.ok = true → (some ((r d).map fun t => (d, t)) : Ans) = some (some (d', t)) → d'.small ∧ t.length ≤ 1048576 := fun d d' t h e => by
  obtain ⟨rfl, e⟩ := map_told e
  exact ⟨small_of h, hr _ _ h e⟩
theorem gameT_len {d : DD} {t : List UInt8} (h : gameText d.R d.C d.A d.B = some t) : t.length ≤ 1048576 := by
  unfold gameText at h
  split at h
  · rename_i hg
    injection h with h
    subst h
    have := parts_le (game_ok hg)
    simp only [List.length_cons, List.length_nil] at this
    omega
  · cases h
theorem valuesT_len {d : DD} {t : List UInt8} (h : valuesText d.P d.T d.V = some t) : t.length ≤ 1048576 := by
  unfold valuesText at h
  split at h
  · rename_i hg
    injection h with h
    subst h
    have := parts_le (values_ok hg)
    simp only [List.length_cons, List.length_nil] at this
    omega
  · cases h
theorem crowdT_len {d : DD} {t : List UInt8} (h : crowdText d.U d.N d.W d.K = some t) : t.length ≤ 1048576 := by
  unfold crowdText at h
  split at h
  · rename_i hg
    injection h with h
    subst h
    have := parts_le (crowd_ok hg)
    simp only [List.length_cons, List.length_nil] at this
    omega
  · cases h
theorem line_game : LineOk (wGame, cmdOf fun d => some ((gameText d.R d.C d.A d.B).map fun t => (d, t))) := lineOk_one (by decide) (by decide) alone_game (told_ok fun _ _ _ e => gameT_len e)
theorem line_values : LineOk (wValues, cmdOf fun d => some ((valuesText d.P d.T d.V).map fun t => (d, t))) := lineOk_one (by decide) (by decide) alone_values (told_ok fun _ _ _ e => valuesT_len e)
theorem line_crowd : LineOk (wCrowd, cmdOf fun d => some ((crowdText d.U d.N d.W d.K).map fun t => (d, t))) := lineOk_one (by decide) (by decide) alone_crowd (told_ok fun _ _ _ e => crowdT_len e)
theorem line_turns : LineOk (wTurns, cmdOf fun d => some (some (d, ntextL d.F))) := lineOk_one (by decide) (by decide) alone_turns fun d d' t h e => by
  injection e with e; injection e with e; injection e with e1 e2
  subst e1 e2
  have := ntextL_len d.F
  have := (DD.ok_len h).2.2.2.2.2.2
  exact ⟨small_of h, by omega⟩
theorem flip_len (R C : Nat) (xs : List Int) (m : Nat) : (flipL R C xs m).length = m := by simp [flipL]
theorem line_turn : LineOk (wTurn, cmdOf fun d => some (some (turnD d, okL))) := lineOk_one (by decide) (by decide) alone_turn fun d d' t h e => by
  injection e with e; injection e with e; injection e with e1 e2
  subst e1 e2
  obtain ⟨a, b, v, l, k, f⟩ := small_of h
  obtain ⟨R, C, e1, e2, r1, r6, c1, c6, -⟩ := game_nat (DD.ok_parts h).1
  have hRC : C * R ≤ 6 * 6 := Nat.mul_le_mul c6 r6
  refine ⟨⟨?_, ?_, v, l, k, f⟩, by show 2 ≤ _; decide⟩
  · show (flipL _ _ _ _).length ≤ _; rw [flip_len, e1, e2, Int.toNat_natCast, Int.toNat_natCast]; omega
  · show (flipL _ _ _ _).length ≤ _; rw [flip_len, e1, e2, Int.toNat_natCast, Int.toNat_natCast]; omega
theorem tell_ok {xs : DD → List Int} : ∀ d d' t, d.ok = true → tellL (xs d) d = some (some (d', t)) → d'.small ∧ t.length ≤ 1048576 := told_ok (r := fun d => txtO [xs d]) fun _ _ _ e => txtO_len e (by simp)
theorem line_pure : LineOk (wPure, cmdOf fun d => tellL (pureL d.R.toNat d.C.toNat d.A (flipL d.R.toNat d.C.toNat d.B (d.C.toNat * d.R.toNat)) (d.R.toNat * d.C.toNat)) d) := lineOk_one (by decide) (by decide) alone_pure tell_ok
theorem line_left : LineOk (wLeft, cmdOf fun d => some ((txtO [(leftL d.R.toNat d.C.toNat d.A d.B).1, (leftL d.R.toNat d.C.toNat d.A d.B).2]).map fun t => (d, t))) := lineOk_one (by decide) (by decide) alone_left (told_ok fun _ _ _ e => txtO_len e (by simp))
theorem line_safe : LineOk (wSafe, cmdOf fun d => tellL [(safeN d.R.toNat d.C.toNat d.A d.R.toNat).1, (safeN d.R.toNat d.C.toNat d.A d.R.toNat).2] d) := lineOk_one (by decide) (by decide) alone_safe tell_ok
theorem line_rounds : LineOk (wRounds, cmdOf fun d => tellL (envyF d.P.toNat d.T.toNat d.V) d) := lineOk_one (by decide) (by decide) alone_rounds tell_ok
def wSave : List UInt8 := [115, 97, 118, 101]
theorem line_save : LineOk (wSave, cmdOf fun _ => none) := lineOk_one (by decide) (by decide) (alone_unknown wSave (by decide)) (fun _ _ _ _ e => by cases e)
theorem line_gotGame {t : List UInt8} (hl : t.length ≤ 16000) (ht : (32 : UInt8) ∉ t) : LineOk (wGame ++ 32 :: t, cmdOf (gotGame t)) := lineOk_two (by simp [wGame]; omega) (by decide) ht (with_game t (by omega)) fun d d' s h e => by
  have hlen := rd2F_len (V := gameB) (l := t)
  unfold gotGame keepGame at e
  obtain ⟨a, b, v, l, k, f⟩ := small_of h
  split at e
  · injection e with e; injection e with e; injection e with e1 e2
    subst e1 e2
    exact ⟨⟨by show (rd2F gameB t).2.2.1.length ≤ _; omega, by show (rd2F gameB t).2.2.2.1.length ≤ _; omega, v, l, k, f⟩, by show 2 ≤ _; decide⟩
  · injection e with e; cases e
theorem line_gotValues {t : List UInt8} (hl : t.length ≤ 16000) (ht : (32 : UInt8) ∉ t) : LineOk (wValues ++ 32 :: t, cmdOf (gotValues t)) := lineOk_two (by simp [wValues]; omega) (by decide) ht (with_values t (by omega)) fun d d' s h e => by
  have hlen := rd1F_len (V := valuesB) (l := t)
  unfold gotValues keepValues at e
  obtain ⟨a, b, v, l, k, f⟩ := small_of h
  split at e
  · injection e with e; injection e with e; injection e with e1 e2
    subst e1 e2
    exact ⟨⟨a, b, by show (rd1F valuesB t).2.2.1.length ≤ _; omega, l, k, f⟩, by show 2 ≤ _; decide⟩
  · injection e with e; cases e
theorem line_gotCrowd {t : List UInt8} (hl : t.length ≤ 16000) (ht : (32 : UInt8) ∉ t) : LineOk (wCrowd ++ 32 :: t, cmdOf (gotCrowd t)) := lineOk_two (by simp [wCrowd]; omega) (by decide) ht (with_crowd t (by omega)) fun d d' s h e => by
  have hlen := rd2F_len (V := crowdB2) (l := t)
  unfold gotCrowd keepCrowd at e
  obtain ⟨a, b, v, l, k, f⟩ := small_of h
  split at e
  · injection e with e; injection e with e; injection e with e1 e2
    subst e1 e2
    exact ⟨⟨a, b, v, by show (rd2F crowdB2 t).2.2.1.length ≤ _; omega, by show (rd2F crowdB2 t).2.2.2.1.length ≤ _; omega, f⟩, by show 2 ≤ _; decide⟩
  · injection e with e; cases e
theorem line_gotTurns {t : List UInt8} (hl : t.length ≤ 16000) (ht : (32 : UInt8) ∉ t) : LineOk (wTurns ++ 32 :: t, cmdOf (gotTurns t)) := lineOk_two (by simp [wTurns]; omega) (by decide) ht (with_turns t (by omega)) fun d d' s h e => by
  unfold gotTurns at e
  obtain ⟨a, b, v, l, k, f⟩ := small_of h
  split at e
  · injection e with e; cases e
  · rename_i ns hns
    injection e with e; injection e with e; injection e with e1 e2
    subst e1 e2
    have := (numbersF_get hns).1
    exact ⟨⟨a, b, v, l, k, by show ns.length ≤ _; omega⟩, by show 2 ≤ _; decide⟩
theorem gotList_ok {t : List UInt8} {f : List Int → DD → Option (List UInt8)} (hf : ∀ xs d s, xs.length ≤ 64 → d.ok = true → f xs d = some s → s.length ≤ 1048576) : ∀ d d' s, d.ok = true → gotList t f d = some (some (d', s)) → d'.small ∧ s.length ≤ 1048576 := fun d d' s h e => by
  unfold gotList at e
  split at e
  · injection e with e; cases e
  · rename_i xs hxs
    obtain ⟨rfl, e⟩ := map_told e
    exact ⟨small_of h, hf xs _ _ (numsF_len hxs) h e⟩
theorem listO_len {r : Option (List Int)} {t : List UInt8} (h : listO r = some t) : t.length ≤ 1048576 := by
  unfold listO at h
  split at h
  · cases h
  · exact txtO_len h (by simp)
theorem line_envy {t : List UInt8} (hl : t.length ≤ 16000) (ht : (32 : UInt8) ∉ t) : LineOk (wEnvy ++ 32 :: t, cmdOf (gotList t fun xs d => listO (envyTab d.P.toNat d.T.toNat d.V xs))) :=
  lineOk_two (by simp [wEnvy]; omega) (by decide) ht (with_envy (by omega) list_envy) (gotList_ok fun _ _ _ _ _ e => listO_len e)
theorem line_rest {t : List UInt8} (hl : t.length ≤ 16000) (ht : (32 : UInt8) ∉ t) : LineOk (wRest ++ 32 :: t, cmdOf (gotList t fun xs d => bothO (restOF ⟨d.U, d.N, d.W, d.K⟩ xs))) :=
  lineOk_two (by simp [wRest]; omega) (by decide) ht (with_rest (by omega) list_rest) (gotList_ok fun xs d s hx h e => by
    unfold bothO at e
    split at e
    · cases e
    · rename_i l n hr
      obtain ⟨_, n0, n1⟩ := rest_len hr hx
      unfold numO at e
      split at e
      · rename_i hv
        injection e with e
        subst e
        have h1 := text_le (xs := l) (by simpa using hv)
        have h2 := valOk_len (xs := l) (by simpa using hv)
        have h3 := itoa_len n0 n1
        simp only [List.length_append, List.length_cons, List.length_nil]
        omega
      · cases e)
theorem line_total {t : List UInt8} (hl : t.length ≤ 16000) (ht : (32 : UInt8) ∉ t) : LineOk (wTotal ++ 32 :: t, cmdOf (gotList t fun xs d => if canB ⟨d.U, d.N, d.W, d.K⟩ xs then some (Lib.itoa (totalF ⟨d.U, d.N, d.W, d.K⟩ xs)) else none)) :=
  lineOk_two (by simp [wTotal]; omega) (by decide) ht (with_total (by omega) list_total) (gotList_ok fun xs d s hx h e => by
    split at e
    · injection e with e
      subst e
      have hb := total_bd (valid_of (DD.ok_parts h).2.2.1) xs
      have := itoa_len (n := totalF ⟨d.U, d.N, d.W, d.K⟩ xs) (by omega) (by omega)
      omega
    · cases e)
end Go.Proofs.YtkbejmjkdnfemaaGreatDoor
namespace Go.Proofs.YtkbejmjkdnfemaaGreatDoor
set_option linter.unusedVariables false
set_option linter.unusedSimpArgs false
open Go.RowKit

theorem runs_cons {l : List UInt8} {f : DD → DD × List UInt8} {ps : List LineF} {d d' : DD} {out t : List UInt8} (h : f d = (d', t)) : runsF ((l, f) :: ps) (d, out) = runsF ps (d', out ++ (t ++ [10])) := by
  show runsF ps (runStep (d, out) (l, f)) = _
  unfold runStep
  simp only [h]
theorem cmd_yes {f : DD → Ans} {d d' : DD} {t : List UInt8} (h : f d = some (some (d', t))) (hk : d'.ok = true) : cmdOf f d = (d', t) := by
  unfold cmdOf; rw [h]; dsimp only; rw [if_pos hk]
theorem cmd_what {f : DD → Ans} {d : DD} (h : f d = none) : cmdOf f d = (d, whatL) := by
  unfold cmdOf; rw [h]
/-- What is given: a valid desk whose numbers are told to the last bit, owners, choices. -/
structure TopH (o : DD) (ow ch : List Int) : Prop where
  ok : o.ok = true
  F : o.F.map bitsN = o.F
  lt : ∀ y ∈ o.F, y < 4294967296
  ow : manyB ow (o.T.toNat : Int) (o.T.toNat : Int) 0 ((o.P.toNat : Int) - 1) = true
  ch : canB ⟨o.U, o.N, o.W, o.K⟩ ch = true
  en : valOk (envyF o.P.toNat o.T.toNat o.V) = true
def gT (o : DD) : List UInt8 := partsL [[o.R, o.C], o.A, o.B]
def vT (o : DD) : List UInt8 := partsL [[o.P, o.T], o.V]
def cT (o : DD) : List UInt8 := partsL [[o.U, o.N], o.W, o.K]
def pureO (o : DD) : List Int := pureL o.R.toNat o.C.toNat o.A (flipL o.R.toNat o.C.toNat o.B (o.C.toNat * o.R.toNat)) (o.R.toNat * o.C.toNat)
def safeO (o : DD) : Int × Int := safeN o.R.toNat o.C.toNat o.A o.R.toNat
def leftO (o : DD) : List Int × List Int := leftL o.R.toNat o.C.toNat o.A o.B
noncomputable def roundO (o : DD) : List Int := envyF o.P.toNat o.T.toNat o.V
def tabO (o : DD) (ow : List Int) : List Int := tableN o.P.toNat o.T.toNat o.V ow (o.P.toNat * o.P.toNat)
def stopO (o : DD) (ch : List Int) : List Int × Nat := restF ⟨o.U, o.N, o.W, o.K⟩ ch
def sumO (o : DD) (ch : List Int) : Int := totalF ⟨o.U, o.N, o.W, o.K⟩ ch
noncomputable def topPs (o : DD) (ow ch : List Int) : List LineF := [
  (wGame ++ 32 :: gT o, cmdOf (gotGame (gT o))),
  (wValues ++ 32 :: vT o, cmdOf (gotValues (vT o))),
  (wCrowd ++ 32 :: cT o, cmdOf (gotCrowd (cT o))),
  (wTurns ++ 32 :: ntextL o.F, cmdOf (gotTurns (ntextL o.F))),
  (wGame, cmdOf fun d => some ((gameText d.R d.C d.A d.B).map fun t => (d, t))),
  (wValues, cmdOf fun d => some ((valuesText d.P d.T d.V).map fun t => (d, t))),
  (wCrowd, cmdOf fun d => some ((crowdText d.U d.N d.W d.K).map fun t => (d, t))),
  (wTurns, cmdOf fun d => some (some (d, ntextL d.F))),
  (wPure, cmdOf fun d => tellL (pureL d.R.toNat d.C.toNat d.A (flipL d.R.toNat d.C.toNat d.B (d.C.toNat * d.R.toNat)) (d.R.toNat * d.C.toNat)) d),
  (wSafe, cmdOf fun d => tellL [(safeN d.R.toNat d.C.toNat d.A d.R.toNat).1, (safeN d.R.toNat d.C.toNat d.A d.R.toNat).2] d),
  (wSave, cmdOf fun _ => none),
  (wRounds, cmdOf fun d => tellL (envyF d.P.toNat d.T.toNat d.V) d),
  (wEnvy ++ 32 :: textL ow, cmdOf (gotList (textL ow) fun xs d => listO (envyTab d.P.toNat d.T.toNat d.V xs))),
  (wRest ++ 32 :: textL ch, cmdOf (gotList (textL ch) fun xs d => bothO (restOF ⟨d.U, d.N, d.W, d.K⟩ xs))),
  (wTotal ++ 32 :: textL ch, cmdOf (gotList (textL ch) fun xs d => if canB ⟨d.U, d.N, d.W, d.K⟩ xs then some (Lib.itoa (totalF ⟨d.U, d.N, d.W, d.K⟩ xs)) else none)),
  (wLeft, cmdOf fun d => some ((txtO [(leftL d.R.toNat d.C.toNat d.A d.B).1, (leftL d.R.toNat d.C.toNat d.A d.B).2]).map fun t => (d, t))),
  (wTurn, cmdOf fun d => some (some (turnD d, okL)))]
noncomputable def topW (o : DD) (ow ch : List Int) : List (List UInt8) := [okL, okL, okL, okL, gT o, vT o, cT o, ntextL o.F, textL (pureO o), textL [(safeO o).1, (safeO o).2], whatL, textL (roundO o), textL (tabO o ow), textL (stopO o ch).1 ++ [59] ++ Lib.itoa (stopO o ch).2, Lib.itoa (sumO o ch), textL (leftO o).1 ++ 59 :: textL (leftO o).2, okL]
/-- All that is told are texts. -/
theorem valOk_mk {xs : List Int} (h : ∀ x ∈ xs, -1000000000000000 ≤ x ∧ x ≤ 1000000000000000) (hl : xs.length ≤ 64) : valOk xs = true := by
  unfold valOk
  rw [Bool.and_eq_true, allIn_iff, decide_eq_true_eq]
  exact ⟨h, hl⟩
section
variable {o : DD} {ow ch : List Int}
theorem pure_ok (h : o.ok = true) : valOk (pureO o) = true := by
  obtain ⟨R, C, e1, e2, r1, r6, c1, c6, -⟩ := game_nat (DD.ok_parts h).1
  have hRC : R * C ≤ 6 * 6 := Nat.mul_le_mul r6 c6
  unfold pureO pureL
  rw [e1, e2, Int.toNat_natCast, Int.toNat_natCast]
  refine valOk_mk (fun x hx => ?_) ?_
  · obtain ⟨j, hj, rfl⟩ := List.mem_map.1 hx
    have := List.mem_range.1 (List.mem_filter.1 hj).1
    omega
  · rw [List.length_map]
    exact Nat.le_trans (List.length_filter_le _ _) (by rw [List.length_range]; omega)
theorem leastN_bd {f : Nat → Int} (hf : ∀ k, -1000 ≤ f k ∧ f k ≤ 1000) : ∀ n, -1000 ≤ leastN f n ∧ leastN f n ≤ 1000
  | 0 => hf 0
  | n + 1 => by
    have := leastN_bd hf n
    have := hf (n + 1)
    unfold leastN
    omega
theorem cell_bd {C : Nat} {xs : List Int} (h : ∀ x ∈ xs, -1000 ≤ x ∧ x ≤ 1000) (i k : Nat) : -1000 ≤ cellT C xs i k ∧ cellT C xs i k ≤ 1000 := by
  unfold cellT
  rcases Nat.lt_or_ge (i * C + k) xs.length with hk | hk
  · have e : xs.getD (i * C + k) 0 = xs[i * C + k] := by simp [List.getD, List.getElem?_eq_getElem hk]
    rw [e]; exact h _ (List.getElem_mem hk)
  · have e : xs.getD (i * C + k) 0 = 0 := by simp [List.getD, List.getElem?_eq_none hk]
    rw [e]; omega
theorem safeN_bd {R C : Nat} {xs : List Int} (h : ∀ x ∈ xs, -1000 ≤ x ∧ x ≤ 1000) : ∀ n, 0 ≤ (safeN R C xs n).1 ∧ (safeN R C xs n).1 ≤ n ∧ -1000 ≤ (safeN R C xs n).2 ∧ (safeN R C xs n).2 ≤ 1000
  | 0 => by simp [safeN]
  | n + 1 => by
    have ih := safeN_bd (R := R) (C := C) h n
    have hl := leastN_bd (fun k => cell_bd (C := C) h n k) (C - 1)
    unfold safeN
    split
    · refine ⟨?_, ?_, hl.1, hl.2⟩
      · show (0 : Int) ≤ n; omega
      · show (n : Int) ≤ ((n + 1 : Nat) : Int); omega
    · omega
theorem safe_ok (h : o.ok = true) : valOk [(safeO o).1, (safeO o).2] = true := by
  obtain ⟨R, C, e1, e2, r1, r6, c1, c6, -, -, hA, -⟩ := game_nat (DD.ok_parts h).1
  have hb := safeN_bd (R := R) (C := C) hA R
  unfold safeO
  rw [e1, e2, Int.toNat_natCast, Int.toNat_natCast]
  refine valOk_mk (fun x hx => ?_) (by simp)
  rcases List.mem_cons.1 hx with rfl | hx
  · omega
  · rcases List.mem_cons.1 hx with rfl | hx
    · omega
    · cases hx
theorem survF_in {C n m : Nat} {xA xB : List Int} : ∀ (f : Nat) {rows cols : List Int}, inL rows n → inL cols m → rows.length ≤ n → cols.length ≤ m → inL (survF C xA xB f rows cols).1 n ∧ inL (survF C xA xB f rows cols).2 m ∧ (survF C xA xB f rows cols).1.length ≤ n ∧ (survF C xA xB f rows cols).2.length ≤ m
  | 0, rows, cols, h1, h2, l1, l2 => ⟨h1, h2, l1, l2⟩
  | f + 1, rows, cols, h1, h2, l1, l2 => by
    have a1 := survR_in (C := C) (xA := xA) (cols := cols) h1
    have a2 := survC_in (C := C) (xA := xA) (xB := xB) (rows := rows) h2
    have b1 := survR_le C xA rows cols
    have b2 := survC_le C xA xB rows cols
    cases hq : survQ C xA xB rows cols with
    | true => rw [survF_stop hq]; exact ⟨a1, a2, by show (survR C xA rows cols).length ≤ n; omega, by show (survC C xA xB rows cols).length ≤ m; omega⟩
    | false => rw [survF_more hq]; exact survF_in f a1 a2 (by omega) (by omega)
theorem left_ok (h : o.ok = true) : valOk (leftO o).1 = true ∧ valOk (leftO o).2 = true := by
  obtain ⟨R, C, e1, e2, r1, r6, c1, c6, -⟩ := game_nat (DD.ok_parts h).1
  have hi := survF_in (C := C) (n := R) (m := C) (xA := o.A) (xB := o.B) 13 (rows := upto R) (cols := upto C) (upto_in _) (upto_in _) (by simp [upto_length]) (by simp [upto_length])
  unfold leftO leftL
  rw [e1, e2, Int.toNat_natCast, Int.toNat_natCast]
  exact ⟨valOk_mk (fun x hx => by obtain ⟨j, rfl, hj⟩ := hi.1 x hx; omega) (by omega), valOk_mk (fun x hx => by obtain ⟨j, rfl, hj⟩ := hi.2.1 x hx; omega) (by omega)⟩
theorem ringR_lt {P T : Nat} {xs ow : List Int} {s r : List Nat} (h : RingR P T xs ow s r) (hP : 1 ≤ P) : (∀ i ∈ s, i < P) → ∀ i ∈ r, i < P := by
  induction h with
  | here s a h1 h2 => exact fun h i hi => h i (List.mem_of_mem_drop hi)
  | on s r h1 h2 ih =>
    refine fun h => ih (fun i hi => ?_)
    rcases List.mem_append.1 hi with hi | hi
    · exact h i hi
    · have hi := List.mem_singleton.1 hi
      rcases envierV_spec P T xs ow (s.getD (s.length - 1) 0) with ⟨k, hk, e, _⟩ | ⟨_, e⟩
      · rw [e, Int.toNat_natCast] at hi; omega
      · rw [e] at hi; subst hi; exact hP
theorem envyR_bd {P T : Nat} {xs : List Int} {t : Nat} {w res : List Int} (h : EnvyR P T xs t w res) (hP : 1 ≤ P) : (∀ p ∈ w, -1 ≤ p ∧ p < (P : Int)) → w.length = T → (∀ p ∈ res, -1 ≤ p ∧ p < (P : Int)) ∧ res.length = T := by
  induction h with
  | done w => exact fun h hl => ⟨h, hl⟩
  | give t w res j ht hj hr ih =>
    intro hb hl
    refine ih (fun p hp => ?_) (by rw [List.length_set]; exact hl)
    rcases List.mem_or_eq_of_mem_set hp with hp | rfl
    · exact hb p hp
    · rcases findI_spec (fun j => decide (envierV P T xs w j < 0)) P with ⟨k, hk, _, _, e⟩ | ⟨_, e⟩
      · rw [hj] at e; omega
      · rw [hj] at e; omega
  | move t w res r ht hj hR hr ih =>
    intro hb hl
    exact ih (moved_bd hb (toN_bd (ringR_lt hR hP (fun i hi => by have := List.mem_singleton.1 hi; omega)) _ (Nat.le_refl _)) (toN_len _ _ _)) (by rw [movedV_len]; exact hl)
theorem partN_bd2 {T : Nat} {xs ow : List Int} (h : ∀ x ∈ xs, 0 ≤ x ∧ x ≤ 1000) (i j : Nat) (t8 : T ≤ 8) : -8000 ≤ envyV T xs ow i j ∧ envyV T xs ow i j ≤ 8000 := by
  have h1 := partN_bd (T := T) (ow := ow) h i (i : Int) T
  have h2 := partN_bd (T := T) (ow := ow) h i (j : Int) T
  unfold envyV partV
  omega
theorem tab_ok (h : o.ok = true) (ow : List Int) : valOk (tabO o ow) = true := by
  obtain ⟨P, T, e1, e2, p1, p6, t1, t8, lV, hV⟩ := values_nat (DD.ok_parts h).2.1
  have hPP : P * P ≤ 6 * 6 := Nat.mul_le_mul p6 p6
  unfold tabO
  rw [e1, e2, Int.toNat_natCast, Int.toNat_natCast]
  refine valOk_mk (fun x hx => ?_) (by rw [tableN_len]; omega)
  unfold tableN at hx
  obtain ⟨j, _, rfl⟩ := List.mem_map.1 hx
  have := partN_bd2 (T := T) (ow := ow) hV (j / P) (j % P) t8
  omega
theorem can_valOk {c : Cr} {l : List Int} (h : Can c l) (hv : Valid c) : valOk l = true := by
  have h8 := hv.u8
  have w8 := hv.w8
  have hl := h.len
  refine valOk_mk (fun x hx => ?_) (by omega)
  have := h.mem x hx
  omega
/-- All lines' functions are the program's. -/
theorem gT_len (h : o.ok = true) : (gT o).length ≤ 1700 := by
  have g := (DD.ok_parts h).1
  obtain ⟨R, C, e1, e2, r1, r6, c1, c6, lA, lB, -⟩ := game_nat g
  have hRC : R * C ≤ 6 * 6 := Nat.mul_le_mul r6 c6
  have ok := game_ok g
  have t1 := text_le (ok [o.R, o.C] (by simp))
  have t2 := text_le (ok o.A (by simp))
  have t3 := text_le (ok o.B (by simp))
  have l1 : [o.R, o.C].length = 2 := rfl
  unfold gT
  rw [parts3_len]
  omega
theorem vT_len (h : o.ok = true) : (vT o).length ≤ 1200 := by
  have g := (DD.ok_parts h).2.1
  obtain ⟨P, T, e1, e2, p1, p6, t1, t8, lV, hV⟩ := values_nat g
  have hPT : P * T ≤ 6 * 8 := Nat.mul_le_mul p6 t8
  have ok := values_ok g
  have t1 := text_le (ok [o.P, o.T] (by simp))
  have t2 := text_le (ok o.V (by simp))
  have l1 : [o.P, o.T].length = 2 := rfl
  unfold vT
  rw [parts2_len]
  omega
theorem cT_len (h : o.ok = true) : (cT o).length ≤ 1700 := by
  have g := (DD.ok_parts h).2.2.1
  obtain ⟨-, -, -, ⟨w1, w2⟩, ⟨k1, k2⟩, -⟩ := DD.ok_len h
  have ok := crowd_ok g
  have t1 := text_le (ok [o.U, o.N] (by simp))
  have t2 := text_le (ok o.W (by simp))
  have t3 := text_le (ok o.K (by simp))
  have l1 : [o.U, o.N].length = 2 := rfl
  unfold cT
  rw [parts3_len]
  omega
theorem ow_ok (h : TopH o ow ch) : valOk ow = true ∧ ow.length ≤ 8 := by
  obtain ⟨P, T, e1, e2, p1, p6, t1, t8, -⟩ := values_nat (DD.ok_parts h.ok).2.1
  have hm := h.ow
  rw [e1, e2, Int.toNat_natCast, Int.toNat_natCast] at hm
  obtain ⟨h1, h2⟩ := many_len hm
  exact ⟨valOk_mk (fun x hx => by have := h2 x hx; omega) (by omega), by omega⟩
theorem ch_ok (h : TopH o ow ch) : valOk ch = true ∧ ch.length ≤ 8 := by
  have hc := can_of h.ch
  have hv := valid_of (DD.ok_parts h.ok).2.2.1
  have h8 : o.U ≤ 8 := hv.u8
  have hl : (ch.length : Int) = o.U := hc.len
  exact ⟨can_valOk hc hv, by omega⟩
set_option maxHeartbeats 4000000 in
theorem top_ok (h : TopH o ow ch) : ∀ p ∈ topPs o ow ch, LineOk p := by
  have g1 := gT_len h.ok
  have g2 := vT_len h.ok
  have g3 := cT_len h.ok
  have g4 := ntextL_len o.F
  have g5 := (DD.ok_len h.ok).2.2.2.2.2.2
  obtain ⟨x1, x2⟩ := ow_ok h
  obtain ⟨y1, y2⟩ := ch_ok h
  have x3 := text_le x1
  have y3 := text_le y1
  intro p hp
  simp only [topPs, List.mem_cons, List.not_mem_nil, or_false] at hp
  rcases hp with rfl | rfl | rfl | rfl | rfl | rfl | rfl | rfl | rfl | rfl | rfl | rfl | rfl | rfl | rfl | rfl | rfl
  · exact line_gotGame (by omega) (parts_no (.inl rfl))
  · exact line_gotValues (by omega) (parts_no (.inl rfl))
  · exact line_gotCrowd (by omega) (parts_no (.inl rfl))
  · exact line_gotTurns (by omega) (ntext_no (.inr (.inl rfl)))
  · exact line_game
  · exact line_values
  · exact line_crowd
  · exact line_turns
  · exact line_pure
  · exact line_safe
  · exact line_save
  · exact line_rounds
  · exact line_envy (by omega) (text_no (.inr (.inl rfl)))
  · exact line_rest (by omega) (text_no (.inr (.inl rfl)))
  · exact line_total (by omega) (text_no (.inr (.inl rfl)))
  · exact line_left
  · exact line_turn
theorem txt1 {xs : List Int} (h : valOk xs = true) : txtO [xs] = some (textL xs) := by
  rw [txtO_yes (fun x hx => by rw [List.mem_singleton.1 hx]; exact h), parts1]
theorem txt2 {xs ys : List Int} (h : valOk xs = true) (h2 : valOk ys = true) : txtO [xs, ys] = some (textL xs ++ 59 :: textL ys) := by
  rw [txtO_yes (fun x hx => by
    rcases List.mem_cons.1 hx with rfl | hx
    · exact h
    · rw [List.mem_singleton.1 hx]; exact h2)]
  simp [partsL, Lib.join_cons, Lib.joinTail]
theorem turnD_ok (h : o.ok = true) : (turnD o).ok = true := by
  obtain ⟨g, v, c, t⟩ := DD.ok_parts h
  refine DD.ok_of ?_ v c t
  obtain ⟨R, C, e1, e2, r1, r6, c1, c6, lA, lB, hA, hB⟩ := game_nat g
  show gameB o.C o.R (flipL o.R.toNat o.C.toNat o.B (o.C.toNat * o.R.toNat)) (flipL o.R.toNat o.C.toNat o.A (o.C.toNat * o.R.toNat)) = true
  rw [e1, e2, Int.toNat_natCast, Int.toNat_natCast]
  have hf : ∀ xs : List Int, (∀ x ∈ xs, -1000 ≤ x ∧ x ≤ 1000) → ∀ x ∈ flipL R C xs (C * R), -1000 ≤ x ∧ x ≤ 1000 := fun xs hx x h => by
    unfold flipL at h
    obtain ⟨j, _, rfl⟩ := List.mem_map.1 h
    exact cell_bd hx _ _
  unfold gameB
  rw [Bool.and_eq_true, Bool.and_eq_true, Bool.and_eq_true, inB_iff, inB_iff, manyB_iff, manyB_iff, flip_len, flip_len, Int.natCast_mul]
  exact ⟨⟨by omega, by omega⟩, ⟨⟨Int.le_refl _, Int.le_refl _⟩, hf _ hB⟩, ⟨Int.le_refl _, Int.le_refl _⟩, hf _ hA⟩
theorem told_yes {r : Option (List UInt8)} {d : DD} {t : List UInt8} (h : r = some t) : (some (r.map fun t => (d, t)) : Ans) = some (some (d, t)) := by rw [h]; rfl
set_option maxHeartbeats 4000000 in
/-- What the script does. -/
theorem top_run (h : TopH o ow ch) {n : DD} (hn : n.ok = true) : runsF (topPs o ow ch) (n, []) = (turnD o, tellsL (topW o ow ch)) := by
  obtain ⟨og, ov, oc, ot⟩ := DD.ok_parts h.ok
  obtain ⟨ng, nv, nc, nt⟩ := DD.ok_parts hn
  obtain ⟨x1, x2⟩ := ow_ok h
  obtain ⟨y1, y2⟩ := ch_ok h
  have hc := can_of h.ch
  have hv := valid_of oc
  obtain ⟨c1, -, c3⟩ := restF_rest hc
  have hF : numbersF (ntextL o.F) = some o.F := by
    have := (DD.ok_len h.ok).2.2.2.2.2.2
    rw [numbers_text (by omega) h.lt, h.F]
  have a1 : cmdOf (gotGame (gT o)) n = ({ n with R := o.R, C := o.C, A := o.A, B := o.B }, okL) :=
    cmd_yes (by unfold gotGame keepGame gT; rw [readGame_text og]; rfl) (DD.ok_of og nv nc nt)
  have a2 : cmdOf (gotValues (vT o)) { n with R := o.R, C := o.C, A := o.A, B := o.B } = ({ n with R := o.R, C := o.C, A := o.A, B := o.B, P := o.P, T := o.T, V := o.V }, okL) :=
    cmd_yes (by unfold gotValues keepValues vT; rw [readValues_text ov]; rfl) (DD.ok_of og ov nc nt)
  have a3 : cmdOf (gotCrowd (cT o)) { n with R := o.R, C := o.C, A := o.A, B := o.B, P := o.P, T := o.T, V := o.V } = ({ o with F := n.F }, okL) :=
    cmd_yes (by unfold gotCrowd keepCrowd cT; rw [rd2_text (V := crowdB2) (crowd_ok oc) oc]; rfl) (DD.ok_of og ov oc nt)
  have a4 : cmdOf (gotTurns (ntextL o.F)) { o with F := n.F } = (o, okL) :=
    cmd_yes (by unfold gotTurns; rw [hF]) h.ok
  have b1 : cmdOf (fun d => some ((gameText d.R d.C d.A d.B).map fun t => (d, t))) o = (o, gT o) := cmd_yes (told_yes (by unfold gameText; rw [if_pos og]; rfl)) h.ok
  have b2 : cmdOf (fun d => some ((valuesText d.P d.T d.V).map fun t => (d, t))) o = (o, vT o) := cmd_yes (told_yes (by unfold valuesText; rw [if_pos ov]; rfl)) h.ok
  have b3 : cmdOf (fun d => some ((crowdText d.U d.N d.W d.K).map fun t => (d, t))) o = (o, cT o) := cmd_yes (told_yes (by unfold crowdText; rw [if_pos oc]; rfl)) h.ok
  have b4 : cmdOf (fun d => some (some (d, ntextL d.F))) o = (o, ntextL o.F) := cmd_yes rfl h.ok
  have d1 : cmdOf (fun d => tellL (pureL d.R.toNat d.C.toNat d.A (flipL d.R.toNat d.C.toNat d.B (d.C.toNat * d.R.toNat)) (d.R.toNat * d.C.toNat)) d) o = (o, textL (pureO o)) := cmd_yes (told_yes (txt1 (pure_ok h.ok))) h.ok
  have d2 : cmdOf (fun d => tellL [(safeN d.R.toNat d.C.toNat d.A d.R.toNat).1, (safeN d.R.toNat d.C.toNat d.A d.R.toNat).2] d) o = (o, textL [(safeO o).1, (safeO o).2]) := cmd_yes (told_yes (txt1 (safe_ok h.ok))) h.ok
  have d3 : cmdOf (fun _ => none) o = (o, whatL) := cmd_what rfl
  have d4 : cmdOf (fun d => tellL (envyF d.P.toNat d.T.toNat d.V) d) o = (o, textL (roundO o)) := cmd_yes (told_yes (txt1 h.en)) h.ok
  have e1 : cmdOf (gotList (textL ow) fun xs d => listO (envyTab d.P.toNat d.T.toNat d.V xs)) o = (o, textL (tabO o ow)) := cmd_yes (by
    unfold gotList
    rw [nums_text x1]
    refine told_yes ?_
    dsimp only
    unfold envyTab
    rw [if_pos h.ow]
    exact txt1 (tab_ok h.ok ow)) h.ok
  have e2 : cmdOf (gotList (textL ch) fun xs d => bothO (restOF ⟨d.U, d.N, d.W, d.K⟩ xs)) o = (o, textL (stopO o ch).1 ++ [59] ++ Lib.itoa (stopO o ch).2) := cmd_yes (by
    unfold gotList
    rw [nums_text y1]
    refine told_yes ?_
    dsimp only
    unfold bothO
    rw [restOF_yes h.ch]
    show numO true (stopO o ch).1 (stopO o ch).2 = _
    unfold numO
    rw [if_pos (by rw [show valOk (stopO o ch).1 = true from can_valOk c1 hv]; rfl)]) h.ok
  have e3 : cmdOf (gotList (textL ch) fun xs d => if canB ⟨d.U, d.N, d.W, d.K⟩ xs then some (Lib.itoa (totalF ⟨d.U, d.N, d.W, d.K⟩ xs)) else none) o = (o, Lib.itoa (sumO o ch)) := cmd_yes (by
    unfold gotList
    rw [nums_text y1]
    refine told_yes ?_
    dsimp only
    rw [if_pos h.ch]; rfl) h.ok
  have f1 : cmdOf (fun d => some ((txtO [(leftL d.R.toNat d.C.toNat d.A d.B).1, (leftL d.R.toNat d.C.toNat d.A d.B).2]).map fun t => (d, t))) o = (o, textL (leftO o).1 ++ 59 :: textL (leftO o).2) := cmd_yes (told_yes (txt2 (left_ok h.ok).1 (left_ok h.ok).2)) h.ok
  have f2 : cmdOf (fun d => some (some (turnD d, okL))) o = (turnD o, okL) := cmd_yes rfl (turnD_ok h.ok)
  unfold topPs
  rw [runs_cons a1, runs_cons a2, runs_cons a3, runs_cons a4, runs_cons b1, runs_cons b2, runs_cons b3, runs_cons b4, runs_cons d1, runs_cons d2, runs_cons d3, runs_cons d4, runs_cons e1, runs_cons e2, runs_cons e3, runs_cons f1, runs_cons f2]
  show (turnD o, _) = _
  unfold topW
  simp only [tellsL, List.map_cons, List.map_nil, List.flatten_cons, List.flatten_nil, List.append_assoc, List.nil_append, List.append_nil]
set_option maxHeartbeats 4000000 in
/-- Which of the answers are errors. -/
theorem top_bad (h : TopH o ow ch) : countF (tellsL (topW o ow ch)) = some (1, 16) := by
  have hno : ∀ l ∈ topW o ow ch, (10 : UInt8) ∉ l := by
    intro l hl
    have n1 : ∀ xs : List Int, (10 : UInt8) ∉ textL xs := fun xs => text_no (.inr (.inr rfl))
    have n2 : ∀ xss : List (List Int), (10 : UInt8) ∉ partsL xss := fun xss => parts_no (.inr rfl)
    simp only [topW, List.mem_cons, List.not_mem_nil, or_false] at hl
    rcases hl with rfl | rfl | rfl | rfl | rfl | rfl | rfl | rfl | rfl | rfl | rfl | rfl | rfl | rfl | rfl | rfl | rfl
    · decide
    · decide
    · decide
    · decide
    · exact n2 _
    · exact n2 _
    · exact n2 _
    · exact ntext_no (.inr (.inr rfl))
    · exact n1 _
    · exact n1 _
    · decide
    · exact n1 _
    · exact n1 _
    · simp only [List.mem_append, not_or]; exact ⟨⟨n1 _, by decide⟩, itoa_no10 _⟩
    · exact itoa_no10 _
    · simp only [List.mem_append, List.mem_cons, not_or]; exact ⟨n1 _, by decide, n1 _⟩
    · decide
  obtain ⟨e1, e2⟩ := lines_tells hno
  have g1 := gT_len h.ok
  have g2 := vT_len h.ok
  have g3 := cT_len h.ok
  have g4 := ntextL_len o.F
  have g5 := (DD.ok_len h.ok).2.2.2.2.2.2
  have v1 := pure_ok h.ok
  have v2 := safe_ok h.ok
  have v3 := h.en
  have v4 := tab_ok h.ok ow
  have hc := can_of h.ch
  have hv := valid_of (DD.ok_parts h.ok).2.2.1
  obtain ⟨c1, -, c3⟩ := restF_rest hc
  have v5 : valOk (stopO o ch).1 = true := can_valOk c1 hv
  have v6 := (left_ok h.ok).1
  have v7 := (left_ok h.ok).2
  have hm := measF_bd hc
  have i1 := itoa_len (n := ((stopO o ch).2 : Int)) (by omega) (by show ((restF ⟨o.U, o.N, o.W, o.K⟩ ch).2 : Int) ≤ _; omega)
  have hb := total_bd hv ch
  have i2 := itoa_len (n := sumO o ch) (by show _ ≤ totalF _ _; omega) (by show totalF _ _ ≤ _; omega)
  have k1 := text_le v1
  have k2 := text_le v2
  have k3 := text_le v3
  have k4 := text_le v4
  have k5 := text_le v5
  have k6 := text_le v6
  have k7 := text_le v7
  have m1 := valOk_len v1
  have m3 := valOk_len v3
  have m4 := valOk_len v4
  have m5 := valOk_len v5
  have m6 := valOk_len v6
  have m7 := valOk_len v7
  have m2 : [(safeO o).1, (safeO o).2].length = 2 := rfl
  have hlen : (tellsL (topW o ow ch)).length ≤ 16000 := by
    rw [tells_len]
    unfold topW
    simp only [Lib.lens, List.map_cons, List.map_nil, List.sum_cons, List.sum_nil, List.length_cons, List.length_nil, List.length_append, okL, whatL]
    have q3 : (textL (roundO o)).length = (textL (envyF o.P.toNat o.T.toNat o.V)).length := rfl
    omega
  rw [countF_yes (by rw [e2]; simp [hlen]), e1]
  have hb : badN (topW o ow ch) (topW o ow ch).length = 1 := by
    unfold badN
    rw [List.take_length]
    have t1 : ∀ xs : List Int, isBad (textL xs) = false := fun xs => by have := text_more xs []; rwa [List.append_nil] at this
    have o1 : isBad okL = false := by decide
    have w1 : isBad whatL = true := by decide
    have p1 : isBad (gT o) = false := parts_good _ _
    have p2 : isBad (vT o) = false := parts_good _ _
    have p3 : isBad (cT o) = false := parts_good _ _
    have q1 : isBad (textL (stopO o ch).1 ++ [59] ++ Lib.itoa (stopO o ch).2) = false := by rw [List.append_assoc]; exact text_more _ _
    simp only [topW, List.filter_cons, List.filter_nil, t1, o1, w1, p1, p2, p3, q1, text_more, itoa_good, ntext_good, if_true, if_false, Bool.false_eq_true, List.length_cons, List.length_nil]
  rw [hb]
  rfl
/-- The script. -/
noncomputable def scriptO (o : DD) (ow ch : List Int) : List UInt8 := tellsL ((topPs o ow ch).map (·.1))
set_option maxHeartbeats 4000000 in
theorem script_ok (h : TopH o ow ch) : linesL (scriptO o ow ch) = (topPs o ow ch).map (·.1) ∧ restL (scriptO o ow ch) = [] ∧ (scriptO o ow ch).length ≤ 16000 := by
  have hno : ∀ l ∈ (topPs o ow ch).map (·.1), (10 : UInt8) ∉ l := by
    intro l hl
    have n1 : ∀ xs : List Int, (10 : UInt8) ∉ textL xs := fun xs => text_no (.inr (.inr rfl))
    have n2 : ∀ xss : List (List Int), (10 : UInt8) ∉ partsL xss := fun xss => parts_no (.inr rfl)
    have n3 : ∀ (w t : List UInt8), (10 : UInt8) ∉ w → (10 : UInt8) ∉ t → (10 : UInt8) ∉ w ++ 32 :: t := fun w t hw ht => by
      simp only [List.mem_append, List.mem_cons, not_or]; exact ⟨hw, by decide, ht⟩
    simp only [topPs, List.map_cons, List.map_nil, List.mem_cons, List.not_mem_nil, or_false] at hl
    rcases hl with rfl | rfl | rfl | rfl | rfl | rfl | rfl | rfl | rfl | rfl | rfl | rfl | rfl | rfl | rfl | rfl | rfl
    · exact n3 _ _ (by decide) (n2 _)
    · exact n3 _ _ (by decide) (n2 _)
    · exact n3 _ _ (by decide) (n2 _)
    · exact n3 _ _ (by decide) (ntext_no (.inr (.inr rfl)))
    · decide
    · decide
    · decide
    · decide
    · decide
    · decide
    · decide
    · decide
    · exact n3 _ _ (by decide) (n1 _)
    · exact n3 _ _ (by decide) (n1 _)
    · exact n3 _ _ (by decide) (n1 _)
    · decide
    · decide
  obtain ⟨e1, e2⟩ := lines_tells hno
  refine ⟨e1, e2, ?_⟩
  have g1 := gT_len h.ok
  have g2 := vT_len h.ok
  have g3 := cT_len h.ok
  have g4 := ntextL_len o.F
  have g5 := (DD.ok_len h.ok).2.2.2.2.2.2
  obtain ⟨x1, x2⟩ := ow_ok h
  obtain ⟨y1, y2⟩ := ch_ok h
  have x3 := text_le x1
  have y3 := text_le y1
  unfold scriptO
  rw [tells_len]
  unfold topPs
  simp only [Lib.lens, List.map_cons, List.map_nil, List.sum_cons, List.sum_nil, List.length_cons, List.length_nil, List.length_append, wGame, wValues, wCrowd, wTurns, wPure, wSafe, wSave, wRounds, wEnvy, wRest, wTotal, wLeft, wTurn]
  omega
end
end Go.Proofs.YtkbejmjkdnfemaaGreatDoor
namespace Go.Proofs.YtkbejmjkdnfemaaGreatDoor
set_option linter.unusedVariables false
set_option linter.unusedSimpArgs false
open Go.RowKit

theorem sizeB : (Tryz.prog.info? 104).map (·.size) = some 2 := by kernel_rfl
theorem liesB : liesAt Tryz.prog Tryz.prog.depth 104 (2 / Tryz.prog.cellsOf 104) 0 104 1 = true := by kernel_rfl
theorem infoB8 : (Tryz.prog.info? 5).map (fun i => (i.zero, i.size, i.bytes)) = some (some (.int .u8 0), 1, 1) := by kernel_rfl
set_option maxHeartbeats 1000000 in
set_option maxRecDepth 100000 in
theorem copyUsed (b : Nat) (w : World) (h0 : w.cell? ⟨b, 0, none⟩ = some (.pointer (some ⟨b, 0, none⟩))) :
    Calls Tryz.prog 139 #[.pointer (some ⟨b, 0, none⟩)] w fun e w' => e = .returned (.tuple #[]) ∧ w' = w := by
  obtain ⟨j, hj, _⟩ := Option.map_eq_some_iff.1 sizeB
  go_enter Tryz.func139, Tryz.ntmps139
  go_wp2
  rw [Lib.run_neq_ptr_same w _ Tryz.underlying102 hj]
  go_wp2
  go_end0
  exact ⟨rfl, rfl⟩
set_option maxHeartbeats 1000000 in
set_option maxRecDepth 100000 in
theorem copyFresh (b : Nat) (w : World) (h0 : w.cell? ⟨b, 0, none⟩ = some (.pointer none)) (hsh : w.shape? b = some (104, 2)) (hfz : w.frozen? ⟨b, 0, none⟩ = false) :
    Calls Tryz.prog 139 #[.pointer (some ⟨b, 0, none⟩)] w fun e w' => e = .returned (.tuple #[]) ∧ w' = w.setCell ⟨b, 0, none⟩ (.pointer (some ⟨b, 0, none⟩)) := by
  obtain ⟨j, hj, hjs⟩ := Option.map_eq_some_iff.1 sizeB
  go_enter Tryz.func139, Tryz.ntmps139
  go_wp2
  rw [Lib.run_to_unsafe w ⟨b, 0, none⟩ Tryz.underlying102 Tryz.underlying242 hj (by rw [hjs]; decide) hsh (Nat.zero_lt_succ 1)]
  simp only [Result.andThen]
  rw [Oper.upon_value]
  go_wp2
  rw [run_callFunc_extern Tryz.func207 (by kernel_rfl) (by kernel_rfl) (by kernel_rfl) (e := Extern.AbiNoEscape.same) (by kernel_rfl)]
  rw [Lib.run_noEscape]
  simp only [Result.andThen]
  rw [Oper.upon_value]
  go_wp2
  rw [Lib.run_from_unsafe w ⟨b, 0, none⟩ Tryz.underlying242 Tryz.underlying102 hj hsh liesB]
  simp only [Result.andThen]
  rw [Oper.upon_value]
  go_wp2
  go_end0
  exact ⟨rfl, rfl⟩
end Go.Proofs.YtkbejmjkdnfemaaGreatDoor
