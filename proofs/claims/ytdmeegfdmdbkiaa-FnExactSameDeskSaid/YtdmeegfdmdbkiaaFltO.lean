/-
  Floats and desks that come in by value.
-/
import Derived.Test.YtdmeegfdmdbkiaaFltT
import Derived.Test.YtdmeegfdmdbkiaaDeskV
namespace Go.Proofs.Ytdmeegfdmdbkiaa
set_option linter.unusedVariables false
set_option linter.unusedSimpArgs false
open Go.RowKit Go.ChangeShapes Go.WideShapes

section
variable {H : Type} {enc : TypeId × Value → H} {P : Program} {w : World} {base : Nat} {spare : Nat → Bool} {held : Bool}
theorem trod_flt {k : FloatKind} {t : TypeId} {fuel : Nat} {cs : List Value} {x : DataW H × List MemPlace} (ht : P.underlying t = some (.float k)) (h : DataW.trod enc P w base spare held fuel t cs = some x) : ∃ b, cs = [.float k b] ∧ (Lit.float k b).wf = true := by
  cases fuel with
  | zero => simp [DataW.trod] at h
  | succ n =>
    unfold DataW.trod at h
    rw [ht] at h
    split at h <;> simp_all
def bitsAt (w : World) (p : Addr) : Nat := match w.cell? p with | some (.float _ b) => b | _ => 0
theorem floats_field {t e : TypeId} {fuel : Nat} {v : Value} {x : DataW H × List MemPlace} (ht : P.underlying t = some (.slice e)) (he : P.underlying e = some (.float .f32)) (hc : P.cellsOf e = 1) (h : DataW.trod enc P w 0 (fun _ => true) held fuel t [v] = some x) :
    ∃ (a : Option Addr) (c : Nat) (xs : List Nat), v = .slice a xs.length c ∧ Rd w w.heap.size a (flts xs) ∧ xs.length ≤ 9223372036854775807 ∧ ∀ y ∈ xs, (Lit.float .f32 y).wf = true := by
  rcases DataW.trod_slice ht h with ⟨hcs, _⟩ | ⟨a, len, cap, elems, rest, n, _, hcs, _, _, hl, hm, hlen, hel, _, _⟩
  · simp at hcs
    subst hcs
    exact ⟨none, 0, [], rfl, Rd.nil _ _ _, by simp, by simp⟩
  · simp at hcs
    subst hcs
    have each : ∀ i, i < len → w.cell? (a.add i) = some (.float .f32 (bitsAt w (a.add i))) ∧ (Lit.float .f32 (bitsAt w (a.add i))).wf = true := by
      intro i hi
      have h1 := hel i hi
      rw [List.getElem?_eq_getElem (by omega), hc, Nat.mul_one, Option.bind_eq_some_iff] at h1
      obtain ⟨cs', h2, h3⟩ := h1
      obtain ⟨b, rfl, hw⟩ := trod_flt he h3
      have h4 := cell_of_cells?_one h2
      have : bitsAt w (a.add i) = b := by unfold bitsAt; rw [h4]
      rw [this]
      exact ⟨h4, hw⟩
    refine ⟨some a, cap, (List.range len).map fun i => bitsAt w (a.add i), by simp, ?_, by simp; unfold maxLen at hm; omega, fun y hy => ?_⟩
    · by_cases h0 : len = 0
      · subst h0; exact .inl rfl
      · have hx := (each 0 (by omega)).1
        have hx0 : a.add 0 = a := rfl
        rw [hx0] at hx
        obtain ⟨b, o, s⟩ := a
        have hs : s = none := by
          cases s with
          | none => rfl
          | some s =>
            unfold World.cell? at hx
            split at hx <;> simp at hx
        subst hs
        refine .inr ⟨b, o, rfl, World.block_lt_of_cell? w _ hx, fun j hj => ?_⟩
        simp at hj
        have hj2 := (each j hj).1
        have ea : (⟨b, o, none⟩ : Addr).add j = ⟨b, o + j, none⟩ := by unfold Addr.add; split <;> simp_all
        rw [ea] at hj2
        rw [hj2, flts_get (by simpa using hj)]
        congr 2
        simp [List.getD, hj, ea]
    · obtain ⟨i, hi, rfl⟩ := List.mem_map.1 hy
      exact (each i (List.mem_range.1 hi)).2
theorem agg_part {ts : TypeId} {fs : Array Field} {fuel : Nat} {cs : List Value} {x : DataW H × List MemPlace} (hs : P.underlying ts = some (.struct fs)) (h : DataW.trod enc P w base spare held fuel ts cs = some x) :
    cs.length = P.cellsOf ts ∧ ∃ (n : Nat) (Y : Nat → DataW H × List MemPlace), ∀ (i : Nat) (f : Field), fs[i]? = some f → DataW.trod enc P w base spare held n f.type ((cs.drop f.offset).take (P.cellsOf f.type)) = some (Y i) := by
  obtain ⟨xs, n, _, rfl, hl, hxl, hf⟩ := DataW.trod_struct hs h
  refine ⟨hl, n, fun i => xs.getD i (.nil, []), fun i f hi => ?_⟩
  have hlt : i < fs.size := (Array.getElem?_eq_some_iff.1 hi).1
  have g := hf i f hi
  rw [List.getElem?_eq_getElem (by omega)] at g
  rw [g]
  simp [List.getD, List.getElem?_eq_getElem (show i < xs.length by omega)]
end
set_option maxHeartbeats 2000000 in
theorem open_Desk {H : Type} {enc : TypeId × Value → H} {w : World} {r : Reach} {b0 : Nat} {held : Bool} {v : Value} {d : DataW H} {ps : List MemPlace} (hval : Value.okWide Try.prog w r b0 40 v) (h : DataW.Trod enc Try.prog w 0 (fun _ => true) held 40 v d ps) :
    ∃ (R C : Int) (aA : Option Addr) (cA : Nat) (xA : List Int) (aB : Option Addr) (cB : Nat) (xB : List Int) (Pl T : Int) (aV : Option Addr) (cV : Nat) (xV : List Int) (U N : Int) (aW : Option Addr) (cW : Nat) (xW : List Int) (aC : Option Addr) (cC : Nat) (xC : List Int) (aT : Option Addr) (cT : Nat) (xT : List Nat),
      v = .agg #[.int .i64 R, .int .i64 C, .slice aA xA.length cA, .slice aB xB.length cB, .int .i64 Pl, .int .i64 T, .slice aV xV.length cV, .int .i64 U, .int .i64 N, .slice aW xW.length cW, .slice aC xC.length cC, .slice aT xT.length cT] ∧
      RdDesk w w.heap.size aA xA aB xB aV xV aW xW aC xC aT xT ∧
      (xA.length ≤ 9223372036854775807 ∧ xB.length ≤ 9223372036854775807 ∧ xV.length ≤ 9223372036854775807 ∧ xW.length ≤ 9223372036854775807 ∧ xC.length ≤ 9223372036854775807 ∧ xT.length ≤ 9223372036854775807) ∧
      ∀ y ∈ xT, (Lit.float .f32 y).wf = true := by
  obtain ⟨cs, rfl, hcs⟩ := okWide_struct Try.underlying40 hval
  obtain ⟨fuel, hf⟩ := h
  obtain ⟨hlen, n, Y, hY⟩ := agg_part Try.underlying40 hf
  have hc : Try.prog.cellsOf 40 = 12 := by kernel_rfl
  have hcG : Try.prog.cellsOf 36 = 4 := by kernel_rfl
  have hcV : Try.prog.cellsOf 37 = 3 := by kernel_rfl
  have hcC : Try.prog.cellsOf 38 = 4 := by kernel_rfl
  have hcT : Try.prog.cellsOf 29 = 1 := by kernel_rfl
  rw [hc] at hlen
  have e0 : DataW.trod enc Try.prog w 0 (fun _ => true) held n 36 ((cs.toList.drop 0).take (Try.prog.cellsOf 36)) = some (Y 0) := hY 0 _ rfl
  have e1 : DataW.trod enc Try.prog w 0 (fun _ => true) held n 37 ((cs.toList.drop 4).take (Try.prog.cellsOf 37)) = some (Y 1) := hY 1 _ rfl
  have e2 : DataW.trod enc Try.prog w 0 (fun _ => true) held n 38 ((cs.toList.drop 7).take (Try.prog.cellsOf 38)) = some (Y 2) := hY 2 _ rfl
  have e3 : DataW.trod enc Try.prog w 0 (fun _ => true) held n 29 ((cs.toList.drop 11).take (Try.prog.cellsOf 29)) = some (Y 3) := hY 3 _ rfl
  rw [hcG] at e0
  rw [hcV] at e1
  rw [hcC] at e2
  rw [hcT] at e3
  clear hY hf hcs hval
  obtain ⟨l⟩ := cs
  match l, hlen, e0, e1, e2, e3 with
  | [v0, v1, v2, v3, v4, v5, v6, v7, v8, v9, v10, v11], _, e0, e1, e2, e3 =>
    simp only [List.drop_succ_cons, List.drop_zero, List.take_succ_cons, List.take_zero] at e0 e1 e2 e3
    obtain ⟨_, n0, Y0, hY0⟩ := open_agg_fields Try.underlying36 (Go.Deep.hone_of (by kernel_rfl)) (by kernel_rfl) e0
    obtain ⟨_, n1, Y1, hY1⟩ := open_agg_fields Try.underlying37 (Go.Deep.hone_of (by kernel_rfl)) (by kernel_rfl) e1
    obtain ⟨_, n2, Y2, hY2⟩ := open_agg_fields Try.underlying38 (Go.Deep.hone_of (by kernel_rfl)) (by kernel_rfl) e2
    obtain ⟨m0, rfl, b0⟩ := int_field Try.underlying2 (v := v0) (hY0 0 _ rfl)
    obtain ⟨m1, rfl, b1⟩ := int_field Try.underlying2 (v := v1) (hY0 1 _ rfl)
    obtain ⟨a2, c2, x2, rfl, r2, l2⟩ := ints_field Try.underlying22 Try.underlying2 (by kernel_rfl) (v := v2) (hY0 2 _ rfl)
    obtain ⟨a3, c3, x3, rfl, r3, l3⟩ := ints_field Try.underlying22 Try.underlying2 (by kernel_rfl) (v := v3) (hY0 3 _ rfl)
    obtain ⟨m4, rfl, b4⟩ := int_field Try.underlying2 (v := v4) (hY1 0 _ rfl)
    obtain ⟨m5, rfl, b5⟩ := int_field Try.underlying2 (v := v5) (hY1 1 _ rfl)
    obtain ⟨a6, c6, x6, rfl, r6, l6⟩ := ints_field Try.underlying22 Try.underlying2 (by kernel_rfl) (v := v6) (hY1 2 _ rfl)
    obtain ⟨m7, rfl, b7⟩ := int_field Try.underlying2 (v := v7) (hY2 0 _ rfl)
    obtain ⟨m8, rfl, b8⟩ := int_field Try.underlying2 (v := v8) (hY2 1 _ rfl)
    obtain ⟨a9, c9, x9, rfl, r9, l9⟩ := ints_field Try.underlying22 Try.underlying2 (by kernel_rfl) (v := v9) (hY2 2 _ rfl)
    obtain ⟨a10, c10, x10, rfl, r10, l10⟩ := ints_field Try.underlying22 Try.underlying2 (by kernel_rfl) (v := v10) (hY2 3 _ rfl)
    obtain ⟨a11, c11, x11, rfl, r11, l11, wf11⟩ := floats_field Try.underlying29 Try.underlying46 (by kernel_rfl) (v := v11) e3
    exact ⟨m0, m1, a2, c2, x2, a3, c3, x3, m4, m5, a6, c6, x6, m7, m8, a9, c9, x9, a10, c10, x10, a11, c11, x11, rfl, ⟨r2, r3, r6, r9, r10, r11⟩, ⟨l2, l3, l6, l9, l10, l11⟩, wf11⟩
end Go.Proofs.Ytdmeegfdmdbkiaa
