/-
  A list of crowds of its own: block by block.
-/
import Derived.Test.YtbgclfbhdpgdaaaLawCrowdS
namespace Go.Proofs.Ytbgclfbhdpgdaaa
set_option linter.unusedVariables false
set_option linter.unusedSimpArgs false
open Go.RowKit

/-- 'make' of n elements of any size. -/
theorem wpList_make_cells {P : Program} (w : World) {ops : Array Oper} {rest : List Oper} {o : Oper} {a : Act} {Q : Exit → Act → World → Prop}
    (hg : o.guard = none) (l c : Operand) (t : TypeId) (hop : o.op = Op.makeSlice t l c)
    (e : TypeId) (z : Value) (size bytes : Nat) (h1 : P.underlying t = some (.slice e)) (hinfo : (P.info? e).map (fun i => (i.zero, i.size, i.bytes)) = some (some z, size, bytes))
    (kl kc : IntKind) (n : Nat) (hl : a.eval l = .int kl (n : Int)) (hc : a.eval c = .int kc (n : Int)) (b2 : bytes * n ≤ 281474976710656) (b3 : n ≤ maxLen)
    (hK : ∀ w', Blk w' w.heap.size (madeCells z.cells (n * size)).toList e → Below w.heap.size w w' → w'.heap.size = w.heap.size + 1 → wpList P ops Q rest (a.put o.dst (.slice (some ⟨w.heap.size, 0, none⟩) n n)) w') :
    wpList P ops Q (o :: rest) a w := by
  obtain ⟨i, h2, h3, h4, h5⟩ := info_parts hinfo
  refine wpList_plain hg fun K hK' => ?_
  have b2' : (i.bytes : Int) * (n : Int) ≤ 281474976710656 := by rw [h5]; have : ((bytes * n : Nat) : Int) ≤ 281474976710656 := by omega
                                                                 rwa [Int.natCast_mul] at this
  have hr := run_make (P := P) w t e i z h1 h2 h3 kl kc n n (by omega) (Int.le_refl _) b2' (by unfold maxLen at b3; omega)
  simp only [Int.toNat_natCast, h4] at hr
  have e1 : madeCells z.cells (n * size) = (madeCells z.cells (n * size)).toList.toArray := by simp
  rw [e1] at hr
  unfold Oper.wp
  simp [execOp, hop, hl, hc, hr, Result.andThen]
  exact hK' _ _ (by simpa using hK _ (Blk.new w _ e) ((Below.refl _ w).alloc (Nat.le_refl _) _) (by simp))
/-- Where the two lists of a crowd lie. -/
abbrev Hd := Option Addr × Nat × Option Addr × Nat
def cells1 (c : Cr) (h : Hd) : List Value := [.int .i64 c.U, .int .i64 c.R, .slice h.1 c.ways.length h.2.1, .slice h.2.2.1 c.costs.length h.2.2.2]
def flatC : List Cr → List Hd → List Value
  | c :: cs, h :: hs => cells1 c h ++ flatC cs hs
  | _, _ => []
theorem flatC_snoc : ∀ (cs : List Cr) (hs : List Hd) (c : Cr) (h : Hd), cs.length = hs.length → flatC (cs ++ [c]) (hs ++ [h]) = flatC cs hs ++ cells1 c h
  | [], [], c, h, _ => by simp [flatC]
  | c0 :: cs, h0 :: hs, c, h, hl => by
    rw [List.cons_append, List.cons_append, flatC, flatC, flatC_snoc cs hs c h (by simpa using hl), List.append_assoc]
  | [], _ :: _, _, _, hl => by simp at hl
  | _ :: _, [], _, _, hl => by simp at hl
theorem flatC_len : ∀ (cs : List Cr) (hs : List Hd), cs.length = hs.length → (flatC cs hs).length = cs.length * 4
  | [], [], _ => rfl
  | c0 :: cs, h0 :: hs, hl => by rw [flatC, List.length_append, flatC_len cs hs (by simpa using hl)]; simp [cells1]; omega
  | [], _ :: _, hl => by simp at hl
  | _ :: _, [], hl => by simp at hl
def zero1 : List Value := [.int .i64 0, .int .i64 0, .slice none 0 0, .slice none 0 0]
def zerosC : Nat → List Value
  | 0 => []
  | n + 1 => zero1 ++ zerosC n
theorem zerosC_len : ∀ n, (zerosC n).length = n * 4
  | 0 => rfl
  | n + 1 => by rw [zerosC, List.length_append, zerosC_len n]; simp [zero1]; omega
theorem zerosC_get : ∀ (n i : Nat), i < n * 4 → (zerosC n)[i]? = zero1[i % 4]?
  | 0, i, h => by omega
  | n + 1, i, h => by
    rw [zerosC]
    by_cases hi : i < 4
    · rw [List.getElem?_append_left (by simp [zero1]; omega), Nat.mod_eq_of_lt hi]
    · rw [List.getElem?_append_right (by simp [zero1]; omega), zerosC_get n (i - zero1.length) (by simp [zero1]; omega)]
      congr 1
      simp [zero1]
      omega
theorem made_zeros (n : Nat) : (madeCells #[Value.int .i64 0, .int .i64 0, .slice none 0 0, .slice none 0 0] (n * 4)).toList = zerosC n := by
  apply List.ext_getElem?
  intro i
  by_cases hi : i < n * 4
  · rw [zerosC_get n i hi]
    have h4 : i % 4 < 4 := Nat.mod_lt _ (by omega)
    rw [Array.getElem?_toList]
    have hs : i < (madeCells #[Value.int .i64 0, .int .i64 0, .slice none 0 0, .slice none 0 0] (n * 4)).size := by rw [size_madeCells]; exact hi
    rw [Array.getElem?_eq_getElem hs]
    simp only [madeCells, Array.getElem_ofFn]
    have : i % 4 = 0 ∨ i % 4 = 1 ∨ i % 4 = 2 ∨ i % 4 = 3 := by omega
    rcases this with h | h | h | h <;> simp [h, zero1]
  · rw [List.getElem?_eq_none (by rw [Array.length_toList, size_madeCells]; omega), List.getElem?_eq_none (by rw [zerosC_len]; omega)]
theorem set4 {pre rest : List Value} {z0 z1 z2 z3 : Value} (v0 v1 v2 v3 : Value) {k : Nat} (hk : pre.length = k * 4) :
    ((((pre ++ (z0 :: z1 :: z2 :: z3 :: rest)).set (k * 4) v0).set (k * 4 + 1) v1).set (k * 4 + 2) v2).set (k * 4 + 3) v3 = pre ++ (v0 :: v1 :: v2 :: v3 :: rest) := by
  rw [← hk]
  simp [List.set_append_right]
/-- The lists of the crowds, one behind another. -/
def Chain (w : World) : Nat → Nat → List Cr → List Hd → Prop
  | lo, hi, c :: cs, h :: hs => ∃ m, (lo ≤ m ∧ m ≤ hi) ∧ OwnCrowd w lo m h.1 h.2.1 c.ways h.2.2.1 h.2.2.2 c.costs ∧ Chain w m hi cs hs
  | lo, hi, _, _ => lo ≤ hi
theorem Chain.le {w : World} : ∀ {cs : List Cr} {hs : List Hd} {lo hi : Nat}, Chain w lo hi cs hs → lo ≤ hi
  | c :: cs, h :: hs, lo, hi, hc => by obtain ⟨m, hm, _, _⟩ := hc; omega
  | [], _, lo, hi, hc => by unfold Chain at hc; exact hc
  | _ :: _, [], lo, hi, hc => by unfold Chain at hc; exact hc
theorem Chain.keep {w w' : World} (hb : Below w.heap.size w w') : ∀ {cs : List Cr} {hs : List Hd} {lo hi : Nat}, Chain w lo hi cs hs → Chain w' lo hi cs hs
  | c :: cs, h :: hs, lo, hi, hc => by
    obtain ⟨m, hm, ho, hr⟩ := hc
    exact ⟨m, hm, ho.keep hb, Chain.keep hb hr⟩
  | [], _, lo, hi, hc => by unfold Chain at hc ⊢; exact hc
  | _ :: _, [], lo, hi, hc => by unfold Chain at hc ⊢; exact hc
theorem Chain.touch {w w' : World} {lo' hi' : Nat} (ht : Touch w w' lo' hi') : ∀ {cs : List Cr} {hs : List Hd} {lo hi : Nat}, Chain w lo hi cs hs → (hi ≤ lo' ∨ hi' ≤ lo) → Chain w' lo hi cs hs
  | c :: cs, h :: hs, lo, hi, hc, hd => by
    obtain ⟨m, hm, ho, hr⟩ := hc
    have := hr.le
    exact ⟨m, hm, ho.touch ht (by omega), Chain.touch ht hr (by omega)⟩
  | [], _, lo, hi, hc, _ => by unfold Chain at hc ⊢; exact hc
  | _ :: _, [], lo, hi, hc, _ => by unfold Chain at hc ⊢; exact hc
theorem Chain.hi {w : World} : ∀ {cs : List Cr} {hs : List Hd} {lo hi hi' : Nat}, Chain w lo hi cs hs → hi ≤ hi' → Chain w lo hi' cs hs
  | c :: cs, h :: hs, lo, hi, hi', hc, hh => by
    obtain ⟨m, hm, ho, hr⟩ := hc
    exact ⟨m, by omega, ho, Chain.hi hr hh⟩
  | [], _, lo, hi, hi', hc, hh => by unfold Chain at hc ⊢; omega
  | _ :: _, [], lo, hi, hi', hc, hh => by unfold Chain at hc ⊢; omega
theorem Chain.snoc {w : World} {c : Cr} {h : Hd} {m hi : Nat} : ∀ {cs : List Cr} {hs : List Hd} {lo : Nat}, cs.length = hs.length → Chain w lo m cs hs → OwnCrowd w m hi h.1 h.2.1 c.ways h.2.2.1 h.2.2.2 c.costs → Chain w lo hi (cs ++ [c]) (hs ++ [h])
  | [], [], lo, _, hc, ho => by
    unfold Chain at hc
    have := ho.le
    refine ⟨hi, by omega, ?_, by unfold Chain; omega⟩
    obtain ⟨m3, hm, o2, o3⟩ := ho
    exact ⟨m3, by omega, o2.mono (by omega) (Nat.le_refl _), o3⟩
  | c0 :: cs, h0 :: hs, lo, hl, hc, ho => by
    obtain ⟨m', hm, ho', hr⟩ := hc
    have := ho.le
    exact ⟨m', by omega, ho', Chain.snoc (by simpa using hl) hr ho⟩
  | [], _ :: _, _, hl, _, _ => by simp at hl
  | _ :: _, [], _, hl, _, _ => by simp at hl
/-- A list of crowds of its own: the block of the crowds first, their lists behind it. -/
def OwnCs (w : World) (lo hi : Nat) (a : Option Addr) (cs : List Cr) : Prop := ∃ hs : List Hd, cs.length = hs.length ∧ a = some ⟨lo, 0, none⟩ ∧ lo < w.heap.size ∧ Blk w lo (flatC cs hs) 28 ∧ Chain w (lo + 1) hi cs hs ∧ hi ≤ w.heap.size
theorem OwnCs.keep {w w' : World} {lo hi : Nat} {a : Option Addr} {cs : List Cr} (h : OwnCs w lo hi a cs) (hb : Below w.heap.size w w') : OwnCs w' lo hi a cs := by
  obtain ⟨hs, hl, ha, hlo, hk, hc, hh⟩ := h
  exact ⟨hs, hl, ha, Nat.lt_of_lt_of_le hlo hb.size, hk.same hb, hc.keep hb, Nat.le_trans hh hb.size⟩
theorem OwnCs.touch {w w' : World} {lo hi lo' hi' : Nat} {a : Option Addr} {cs : List Cr} (h : OwnCs w lo hi a cs) (ht : Touch w w' lo' hi') (hd : hi ≤ lo' ∨ hi' ≤ lo) : OwnCs w' lo hi a cs := by
  obtain ⟨hs, hl, ha, hlo, hk, hc, hh⟩ := h
  have := hc.le
  exact ⟨hs, hl, ha, Nat.lt_of_lt_of_le hlo ht.size, hk.touch ht (by omega), hc.touch ht (by omega), Nat.le_trans hh ht.size⟩
theorem flatC_get : ∀ {cs : List Cr} {hs : List Hd} {k : Nat} {c : Cr} {h : Hd}, cs[k]? = some c → hs[k]? = some h → ∀ j, j < 4 → (flatC cs hs)[k * 4 + j]? = (cells1 c h)[j]?
  | c0 :: cs, h0 :: hs, 0, c, h, hc, hh, j, hj => by
    simp only [List.getElem?_cons_zero, Option.some.injEq] at hc hh
    subst hc hh
    rw [flatC, Nat.zero_mul, Nat.zero_add, List.getElem?_append_left (by simp [cells1]; omega)]
  | c0 :: cs, h0 :: hs, k + 1, c, h, hc, hh, j, hj => by
    rw [flatC, List.getElem?_append_right (by simp [cells1]; omega)]
    have e : (k + 1) * 4 + j - (cells1 c0 h0).length = k * 4 + j := by simp [cells1]; omega
    rw [e]
    exact flatC_get (by simpa using hc) (by simpa using hh) j hj
  | [], _, k, c, h, hc, _, _, _ => by simp at hc
  | _ :: _, [], k, c, h, _, hh, _, _ => by simp at hh
theorem Chain.at {w : World} : ∀ {cs : List Cr} {hs : List Hd} {lo hi k : Nat} {c : Cr} {h : Hd}, Chain w lo hi cs hs → cs[k]? = some c → hs[k]? = some h → RdCrowd w hi h.1 c.ways h.2.2.1 c.costs
  | c0 :: cs, h0 :: hs, lo, hi, 0, c, h, hc, e1, e2 => by
    simp only [List.getElem?_cons_zero, Option.some.injEq] at e1 e2
    subst e1 e2
    obtain ⟨m, hm, ho, hr⟩ := hc
    exact ho.rd.mono hm.2
  | c0 :: cs, h0 :: hs, lo, hi, k + 1, c, h, hc, e1, e2 => by
    obtain ⟨m, hm, ho, hr⟩ := hc
    exact Chain.at hr (by simpa using e1) (by simpa using e2)
  | [], _, _, _, _, _, _, _, e1, _ => by simp at e1
  | _ :: _, [], _, _, _, _, _, _, _, e2 => by simp at e2
theorem OwnCs.rd {w : World} {lo hi : Nat} {a : Option Addr} {cs : List Cr} (h : OwnCs w lo hi a cs) : RdCs w w.heap.size a cs := by
  obtain ⟨hs, hl, ha, hlo, hk, hc, hh⟩ := h
  refine .inr ⟨lo, 0, ha, hlo, fun k c hc' => ?_⟩
  have hkl : k < hs.length := by rw [← hl]; exact (List.getElem?_eq_some_iff.1 hc').1
  have hh' : hs[k]? = some hs[k] := List.getElem?_eq_getElem hkl
  refine ⟨hs[k].1, hs[k].2.1, hs[k].2.2.1, hs[k].2.2.2, ?_, ?_, ?_, ?_, (hc.at hc' hh').mono hh⟩
  all_goals rw [Nat.zero_add]
  · rw [show k * 4 = k * 4 + 0 from rfl, hk.cell, flatC_get hc' hh' 0 (by omega)]; rfl
  · rw [hk.cell, flatC_get hc' hh' 1 (by omega)]; rfl
  · rw [hk.cell, flatC_get hc' hh' 2 (by omega)]; rfl
  · rw [hk.cell, flatC_get hc' hh' 3 (by omega)]; rfl
end Go.Proofs.Ytbgclfbhdpgdaaa
