/-
  Part 11 of what the proof stands on: lemmas and contracts, each with its conditions ahead of the colon.
-/
import Derived.Lib.Split
import Derived.Lib.CountLaws
import Derived.Lib.SplitLaws
import Derived.Test.YtkbejmjkdnfemaaGreatDoorShelf
import Derived.Lib.ItoaNum
import Derived.Lib.LaidTab
import Derived.Sort.Grow
import Derived.Laws.IdiomStrings
import Derived.Lib.ParseIntB
import Derived.Lib.ParseIntBCases
import Derived.Outline
import Derived.Test.YtkbejmjkdnfemaaGreatDoorPk01
import Derived.Test.YtkbejmjkdnfemaaGreatDoorPk02
namespace Go.Proofs.YtkbejmjkdnfemaaGreatDoor
set_option linter.unusedVariables false
set_option linter.unusedSimpArgs false
open Go.RowKit

def bs (l : List UInt8) : ByteArray := ⟨l.toArray⟩
theorem bs_list (l : List UInt8) : (bs l).data.toList = l := rfl
theorem bs_of (s : ByteArray) : bs s.data.toList = s := by cases s; rfl
theorem bs_size (l : List UInt8) : (bs l).size = l.length := by rw [Lib.size_eq, bs_list]
theorem ext_bs {s t : ByteArray} (h : s.data.toList = t.data.toList) : s = t := by rw [← bs_of s, ← bs_of t, h]
theorem bs_toList (l : List UInt8) : (bs l).toList = l := by rw [Lib.toList_data, bs_list]
theorem bs_empty (l : List UInt8) : (bs l).toList.isEmpty = decide (l = []) := by rw [bs_toList]; cases l <;> simp
theorem bs_beq (x y : List UInt8) : ((bs x).toList == y) = decide (x = y) := by rw [bs_toList, Bool.eq_iff_iff, beq_iff_eq, decide_eq_true_eq]
/-- Strings as the cells of a slice. -/
def strs (xs : List (List UInt8)) : List Value := xs.map fun l => Value.string (bs l)
@[simp] theorem strs_length (xs : List (List UInt8)) : (strs xs).length = xs.length := by simp [strs]
theorem strs_append (xs ys : List (List UInt8)) : strs (xs ++ ys) = strs xs ++ strs ys := by simp [strs]
theorem strs_get {xs : List (List UInt8)} {k : Nat} {l : List UInt8} (h : xs[k]? = some l) : (strs xs)[k]? = some (.string (bs l)) := by simp [strs, h]
/-- Pieces between marks. -/
def cutL (c : UInt8) : List UInt8 → List (List UInt8)
  | [] => [[]]
  | b :: l => if b = c then [] :: cutL c l else match cutL c l with
    | [] => [[b]]
    | p :: ps => (b :: p) :: ps
theorem cutL_none {c : UInt8} : ∀ {l : List UInt8}, c ∉ l → cutL c l = [l]
  | [], _ => rfl
  | b :: l, h => by
    rw [cutL, if_neg (fun e => h (by simp [e])), cutL_none (fun hm => h (by simp [hm]))]
theorem cutL_hit {c : UInt8} : ∀ {p q : List UInt8}, c ∉ p → cutL c (p ++ c :: q) = p :: cutL c q
  | [], q, _ => by simp [cutL]
  | b :: p, q, h => by
    rw [List.cons_append, cutL, if_neg (fun e => h (by simp [e])), cutL_hit (p := p) (fun hm => h (by simp [hm]))]
theorem cutL_pos (c : UInt8) (l : List UInt8) : 1 ≤ (cutL c l).length := by
  cases l with
  | nil => simp [cutL]
  | cons b l =>
    rw [cutL]
    split
    · simp
    · split <;> simp
theorem cutL_len (c : UInt8) : ∀ l : List UInt8, (cutL c l).length ≤ l.length + 1
  | [] => by simp [cutL]
  | b :: l => by
    have := cutL_len c l
    rw [cutL]
    split
    · simp; omega
    · split
      · simp
      · rename_i h
        rw [h] at this
        simp at this ⊢; omega
theorem cutL_mem {c : UInt8} : ∀ {l p : List UInt8}, p ∈ cutL c l → p.length ≤ l.length
  | [], p, h => by simp [cutL] at h; simp [h]
  | b :: l, p, h => by
    rw [cutL] at h
    split at h
    · rcases List.mem_cons.1 h with h | h
      · simp [h]
      · have := cutL_mem h; simp; omega
    · split at h
      · simp at h; simp [h]
      · rename_i q qs e
        rcases List.mem_cons.1 h with h | h
        · have := cutL_mem (l := l) (p := q) (by rw [e]; simp)
          simp [h]; exact this
        · have := cutL_mem (l := l) (p := p) (by rw [e]; simp [h])
          simp; omega
theorem index_take {c : UInt8} {l : List UInt8} {i : Nat} (h : Lib.index l [c] = i) : l = l.take i ++ c :: l.drop (i + 1) ∧ c ∉ l.take i := by
  rw [Lib.index_one] at h
  obtain ⟨h1, h2⟩ := Lib.indexByte_some h
  have hi : i < l.length := (List.getElem?_eq_some_iff.1 h1).1
  have hg : l[i] = c := by rw [List.getElem?_eq_getElem hi] at h1; injection h1
  refine ⟨?_, fun hm => ?_⟩
  · rw [← hg, ← List.drop_eq_getElem_cons hi, List.take_append_drop]
  · obtain ⟨k, hk, e⟩ := List.getElem_of_mem hm
    rw [List.length_take] at hk
    refine h2 k (by omega) ?_
    rw [List.getElem_take] at e
    rw [← e, List.getElem?_eq_getElem (by omega)]
theorem index_no {c : UInt8} {l : List UInt8} (h : Lib.index l [c] = -1) : c ∉ l := by
  rw [Lib.index_one] at h
  intro hm
  obtain ⟨k, hk, e⟩ := List.getElem_of_mem hm
  exact Lib.indexByte_none h k (by rw [List.getElem?_eq_getElem hk, e])
theorem splitB_cut {c : UInt8} {sep : ByteArray} (hs : sep.data.toList = [c]) : ∀ (n : Nat) (s : ByteArray), s.size ≤ n → (Lib.splitB sep 0 (Lib.countB s sep) s).map (fun x => x.data.toList) = cutL c s.data.toList := by
  have h1 : sep.size = 1 := by rw [Lib.size_eq, hs]; rfl
  intro n
  induction n with
  | zero =>
    intro s hn
    have e : s.data.toList = [] := List.eq_nil_of_length_eq_zero (by rw [← Lib.size_eq]; omega)
    have hm : Lib.indexB s sep = -1 := by unfold Lib.indexB; rw [e, hs]; rfl
    rw [Lib.countB_miss _ _ hm, Lib.splitB_zero, e]; simp [e, cutL]
  | succ n ih =>
    intro s hn
    rcases Lib.indexB_cases s sep with hm | ⟨i, hi, hle⟩
    · rw [Lib.countB_miss _ _ hm, Lib.splitB_zero]
      unfold Lib.indexB at hm
      rw [hs] at hm
      rw [cutL_none (index_no hm)]; rfl
    · rw [Lib.countB_hit s sep i (by omega) hi, Nat.add_comm 1, Lib.splitB_hit _ _ _ _ i hi, List.map_cons]
      have hsz : (s.extract (i + sep.size) s.size).size ≤ n := by
        rw [Lib.size_eq, Lib.extract_to_end, List.length_drop, ← Lib.size_eq]; omega
      rw [ih _ hsz, Lib.extract_to_end, h1, Nat.add_zero, Lib.extract_from_zero]
      unfold Lib.indexB at hi
      rw [hs] at hi
      obtain ⟨e1, e2⟩ := index_take hi
      have := cutL_hit (p := s.data.toList.take i) (q := s.data.toList.drop (i + 1)) e2
      rw [← e1] at this
      exact this.symm
theorem splitB_strs {c : UInt8} {sep : ByteArray} (hs : sep.data.toList = [c]) (s : ByteArray) : (Lib.splitB sep 0 (Lib.countB s sep) s).map Value.string = strs (cutL c s.data.toList) := by
  rw [← splitB_cut hs _ s (Nat.le_refl _)]
  unfold strs
  rw [List.map_map]
  exact List.map_congr_left fun x _ => by show _ = Value.string (bs x.data.toList); rw [bs_of]
theorem countB_cut {c : UInt8} {sep : ByteArray} (hs : sep.data.toList = [c]) (s : ByteArray) : Lib.countB s sep + 1 = (cutL c s.data.toList).length := by
  have h1 : sep.size = 1 := by rw [Lib.size_eq, hs]; rfl
  rw [← splitB_cut hs _ s (Nat.le_refl _), List.length_map, Lib.splitB_all sep (by omega) 0 _ s rfl]
/-- The pieces that are done, and where the next one begins, behind the first i bytes. -/
def cutN (c : UInt8) (l : List UInt8) : Nat → List (List UInt8) × Nat
  | 0 => ([], 0)
  | i + 1 => if l[i]? = some c then ((cutN c l i).1 ++ [(l.take i).drop (cutN c l i).2], i + 1) else cutN c l i
theorem cutN_spec (c : UInt8) (l : List UInt8) : ∀ i, i ≤ l.length → (cutN c l i).2 ≤ i ∧ c ∉ (l.take i).drop (cutN c l i).2 ∧ cutL c l = (cutN c l i).1 ++ cutL c (l.drop (cutN c l i).2)
  | 0, _ => by simp [cutN]
  | i + 1, h => by
    obtain ⟨h1, h2, h3⟩ := cutN_spec c l i (by omega)
    have hi : i < l.length := by omega
    rw [cutN]
    split
    · rename_i he
      rw [List.getElem?_eq_getElem hi] at he
      injection he with he
      refine ⟨Nat.le_refl _, by simp, ?_⟩
      rw [h3, List.append_assoc]
      congr 1
      generalize (cutN c l i).2 = q at *
      have e1 : l.drop q = (l.take i).drop q ++ c :: l.drop (i + 1) := by
        have hh := List.take_append_drop i l
        have e2 : l.drop i = c :: l.drop (i + 1) := by rw [List.drop_eq_getElem_cons hi, he]
        rw [e2] at hh
        have : ((l.take i) ++ c :: l.drop (i + 1)).drop q = (l.take i).drop q ++ c :: l.drop (i + 1) := List.drop_append_of_le_length (by rw [List.length_take]; omega)
        rwa [hh] at this
      rw [e1, cutL_hit h2]; rfl
    · rename_i he
      refine ⟨by omega, fun hm => ?_, h3⟩
      rw [List.take_succ_eq_append_getElem hi, List.drop_append_of_le_length (by rw [List.length_take]; omega)] at hm
      rcases List.mem_append.1 hm with hm | hm
      · exact h2 hm
      · simp at hm; exact he (by rw [List.getElem?_eq_getElem hi, hm])
theorem cutN_all (c : UInt8) (l : List UInt8) : cutL c l = (cutN c l l.length).1 ++ [l.drop (cutN c l l.length).2] := by
  obtain ⟨_, h2, h3⟩ := cutN_spec c l l.length (Nat.le_refl _)
  rw [List.take_length] at h2
  conv => lhs; rw [h3]
  rw [cutL_none h2]
theorem cutN_len (c : UInt8) (l : List UInt8) : ∀ i, (cutN c l i).1.length ≤ i
  | 0 => by simp [cutN]
  | i + 1 => by
    have := cutN_len c l i
    rw [cutN]
    split
    · simp; omega
    · omega
end Go.Proofs.YtkbejmjkdnfemaaGreatDoor
namespace Go.Proofs.YtkbejmjkdnfemaaGreatDoor
set_option linter.unusedVariables false
set_option linter.unusedSimpArgs false
open Go.RowKit

/-- Bytes as the cells of a slice. -/
def bys (l : List UInt8) : List Value := l.map fun b => Value.int .u8 (b.toNat : Int)
@[simp] theorem bys_length (l : List UInt8) : (bys l).length = l.length := by simp [bys]
theorem bys_get {l : List UInt8} {j : Nat} (h : j < l.length) : (bys l)[j]? = some (.int .u8 (l[j].toNat : Int)) := by simp [bys, List.getElem?_eq_getElem h]
theorem below_grow (w : World) (os : Array Obj) : Below w.heap.size w (Go.Sort.grow w os) :=
  ⟨rfl, rfl, rfl, by simp [Go.Sort.grow], fun k hk => by simp only [Go.Sort.grow]; rw [Array.getElem?_append_left hk]⟩
theorem digit_byte (q : Nat) (h : q < 10) : (UInt8.ofNat (48 + q)).toNat = 48 + q := by
  rw [UInt8.toNat_ofNat']; omega
/-- What is left to be told behind the digits d, r being what is left of the number. -/
def DecI (n r : Int) (d : List UInt8) : Prop := (d = [] ∨ r ≠ 0 → Lib.decDigits n.natAbs = Lib.decDigits r.natAbs ++ d) ∧ (d ≠ [] → r = 0 → Lib.decDigits n.natAbs = d)
theorem DecI.start (n : Int) : DecI n n [] := ⟨fun _ => by simp, fun h => absurd rfl h⟩
theorem dec_ten {u : Nat} (h : ¬ u < 10) : Lib.decDigits u = Lib.decDigits (u / 10) ++ [UInt8.ofNat (48 + u % 10)] := by rw [Lib.decDigits, dif_neg h]
theorem DecI.step {n r r' : Int} {d : List UInt8} (h : DecI n r d) (hc : d = [] ∨ r ≠ 0) (hr : r'.natAbs = r.natAbs / 10) : DecI n r' (UInt8.ofNat (48 + r.natAbs % 10) :: d) := by
  have h1 := h.1 hc
  refine ⟨fun hh => ?_, fun _ h0 => ?_⟩
  · have h0 : r' ≠ 0 := by rcases hh with hh | hh; cases hh; exact hh
    rw [dec_ten (u := r.natAbs) (by omega), ← hr, List.append_assoc] at h1
    exact h1
  · have h9 : r.natAbs < 10 := by omega
    rw [Lib.decDigits_one h9] at h1
    rw [h1, Nat.mod_eq_of_lt h9]; rfl
theorem nDigits_le (u : Nat) : ∀ k, u < 10 ^ k → 1 ≤ k → (Lib.decDigits u).length ≤ k := by
  intro k
  induction k generalizing u with
  | zero => intro _ h; omega
  | succ k ih =>
    intro h _
    rw [Lib.decDigits]
    split
    · simp
    · rename_i h9
      have hk : 1 ≤ k := by
        rcases Nat.eq_zero_or_pos k with e | e
        · subst e; simp at h; omega
        · exact e
      have := ih (u / 10) (by rw [Nat.pow_succ] at h; omega) hk
      simp; omega
/-- The library's table of powers of ten is there. -/
def Tab (w : World) : Prop := Lib.TabIs Tryz.prog w "internal/strconv.uint64pow10" .u64 Lib.pow10Tab
theorem Tab.to {w w' : World} (h : Tab w) (hb : Below w.heap.size w w') : Tab w' := by
  unfold Tab Lib.TabIs World.var? at *
  cases hg : Tryz.prog.globalNamed "internal/strconv.uint64pow10" with
  | none => simp [hg] at h
  | some g =>
    simp only [hg, Option.bind_some] at h ⊢
    have hlt : g < w.heap.size := by
      rcases Nat.lt_or_ge g w.heap.size with h' | h'
      · exact h'
      · rw [Array.getElem?_eq_none h'] at h; simp at h
    rw [hb.block g hlt]
    exact h
theorem decimal_any (w : World) (h : Tab w) (n : Int) (h0 : -9223372036854775808 ≤ n) (h1 : n ≤ 9223372036854775807) :
    Calls Tryz.prog 28 #[.int .i64 n] w fun e w' => e = .returned (.string (bs (Lib.itoa n))) ∧ Below w.heap.size w w' := by
  have LF := Lib.hid (Tryz.strconv_FormatInt_10 n h0 h1 w h)
  clear h
  go_enter Tryz.func28, Tryz.ntmps28
  go_wp2_with fail
  refine LF.out.mono ?_
  rintro e w1 ⟨rfl, k, os, rfl⟩
  have B : Hid (Below w.heap.size w (Go.Sort.grow (w.drewN k) os)) := below_then (drewN_below w k) (below_grow (w.drewN k) os)
  generalize Go.Sort.grow (w.drewN k) os = w2 at *
  go_wp2_with fail
  go_ret
  exact ⟨rfl, B.out⟩
theorem add_none (b o j : Nat) : (⟨b, o, none⟩ : Addr).add j = ⟨b, o + j, none⟩ := by unfold Addr.add; split <;> simp_all
theorem itoa_pos {n : Int} (h : 0 ≤ n) : Lib.itoa n = Lib.decDigits n.natAbs := by
  unfold Lib.itoa
  rw [if_neg (by omega), show n.toNat = n.natAbs from by omega]
theorem itoa_neg {n : Int} (h : n < 0) : Lib.itoa n = 45 :: Lib.decDigits n.natAbs := by
  unfold Lib.itoa
  rw [if_pos h]
end Go.Proofs.YtkbejmjkdnfemaaGreatDoor
namespace Go.Proofs.YtkbejmjkdnfemaaGreatDoor
set_option linter.unusedVariables false
set_option linter.unusedSimpArgs false
open Go.RowKit

/-- Digits read on; other bytes are passed over. -/
def digS (n : Int) (b : UInt8) : Int := if 48 ≤ b.toNat ∧ b.toNat ≤ 57 then 10 * n + ((b.toNat : Int) - 48) else n
def digN (l : List UInt8) : Int := l.foldl digS 0
def nOf (l : List UInt8) : Int := if l[0]? = some 45 then - digN l else digN l
def bigM : Int := 1000000000000000
/-- The number with a text. -/
def valF (l : List UInt8) : Option Int := if -bigM ≤ nOf l ∧ nOf l ≤ bigM ∧ Lib.itoa (nOf l) = l then some (nOf l) else none
theorem digit_toNat (q : Nat) (h : q < 10) : (UInt8.ofNat (48 + q)).toNat = 48 + q := digit_byte q h
theorem dec_fold (u : Nat) : (Lib.decDigits u).foldl digS 0 = (u : Int) := by
  induction u using Nat.strongRecOn with
  | ind u ih =>
    rw [Lib.decDigits]
    split
    · rename_i h
      simp only [List.foldl_cons, List.foldl_nil, digS]
      rw [digit_toNat u h, if_pos (by omega)]
      omega
    · rename_i h
      rw [List.foldl_append, ih (u / 10) (by omega)]
      simp only [List.foldl_cons, List.foldl_nil, digS]
      rw [digit_toNat (u % 10) (by omega), if_pos (by omega)]
      omega
theorem dec_pos (u : Nat) : 1 ≤ (Lib.decDigits u).length := by
  rw [Lib.decDigits]; split <;> simp
theorem dec_head : ∀ (u : Nat) (c : UInt8), (Lib.decDigits u)[0]? = some c → 48 ≤ c.toNat ∧ c.toNat ≤ 57 := by
  intro u
  induction u using Nat.strongRecOn with
  | ind u ih =>
    intro c hc
    rw [Lib.decDigits] at hc
    split at hc
    · rename_i h
      injection hc with hc
      rw [← hc, digit_toNat u h]; omega
    · rename_i h
      rw [List.getElem?_append_left (by have := dec_pos (u / 10); omega)] at hc
      exact ih (u / 10) (by omega) c hc
theorem itoa_nat {n : Int} (h : 0 ≤ n) : Lib.itoa n = Lib.decDigits n.toNat := by unfold Lib.itoa; rw [if_neg (by omega)]
theorem itoa_lt {n : Int} (h : n < 0) : Lib.itoa n = 45 :: Lib.decDigits n.natAbs := by unfold Lib.itoa; rw [if_pos h]
theorem nOf_itoa (n : Int) : nOf (Lib.itoa n) = n := by
  rcases Int.lt_or_le n 0 with h | h
  · rw [itoa_lt h]
    unfold nOf
    rw [if_pos (by simp)]
    have : digN (45 :: Lib.decDigits n.natAbs) = digN (Lib.decDigits n.natAbs) := by
      unfold digN; rw [List.foldl_cons]; rfl
    rw [this]
    unfold digN
    rw [dec_fold]; omega
  · rw [itoa_nat h]
    unfold nOf
    rw [if_neg (fun e => by have := dec_head _ _ e; simp at this)]
    unfold digN
    rw [dec_fold]; omega
theorem valF_itoa {n : Int} (h0 : -bigM ≤ n) (h1 : n ≤ bigM) : valF (Lib.itoa n) = some n := by
  unfold valF
  rw [nOf_itoa, if_pos ⟨h0, h1, rfl⟩]
theorem valF_some {l : List UInt8} {n : Int} (h : valF l = some n) : Lib.itoa n = l ∧ -bigM ≤ n ∧ n ≤ bigM := by
  unfold valF at h
  split at h
  · rename_i h2
    injection h with h
    subst h
    exact ⟨h2.2.2, h2.1, h2.2.1⟩
  · cases h
theorem valF_yes {l : List UInt8} {n : Int} (h : Lib.itoa n = l) (h0 : -bigM ≤ n) (h1 : n ≤ bigM) : valF l = some n := h ▸ valF_itoa h0 h1
theorem valF_no {l : List UInt8} (h : ∀ n, -bigM ≤ n → n ≤ bigM → Lib.itoa n ≠ l) : valF l = none := by
  cases hv : valF l with
  | none => rfl
  | some n =>
    obtain ⟨h1, h2, h3⟩ := valF_some hv
    exact absurd h1 (h n h2 h3)
/-- The library's reader of numbers reads what Decimal writes. -/
theorem parse_dec : ∀ (u : Nat), u ≤ 1000000000000000000 → ∀ r : List UInt8, Lib.parseUint10 0 (Lib.decDigits u ++ r) = Lib.parseUint10 u r := by
  intro u
  induction u using Nat.strongRecOn with
  | ind u ih =>
    intro hu r
    rw [Lib.decDigits]
    split
    · rename_i h
      show Lib.parseUint10 0 (UInt8.ofNat (48 + u) :: r) = _
      rw [Lib.parseUint10, digit_toNat u h, if_pos (by omega), if_neg (by omega), if_neg (by omega)]
      congr 1; omega
    · rename_i h
      rw [List.append_assoc, ih (u / 10) (by omega) (by omega)]
      show Lib.parseUint10 (u / 10) (UInt8.ofNat (48 + u % 10) :: r) = _
      rw [Lib.parseUint10, digit_toNat (u % 10) (by omega), if_pos (by omega), if_neg (by omega), if_neg (by omega)]
      congr 1; omega
theorem parseB_dec {u : Nat} (hu : u ≤ 1000000000000000000) : Lib.parseUintB 64 (Lib.decDigits u) = .ok u := by
  rw [Lib.parseUintB_64]
  unfold Lib.parseMag
  rw [if_neg (by intro e; have := dec_pos u; rw [e] at this; simp at this)]
  have := parse_dec u hu []
  rw [List.append_nil] at this
  rw [this]; rfl
theorem parse_itoa {n : Int} (h0 : -bigM ≤ n) (h1 : n ≤ bigM) : Lib.parseIntB 64 (Lib.itoa n) = .ok n := by
  unfold bigM at *
  rcases Int.lt_or_le n 0 with h | h
  · rw [itoa_lt h, Lib.parseIntB_minus, parseB_dec (by omega)]
    simp only [Lib.signedC]
    rw [if_neg (by omega)]
    congr 1; omega
  · rw [itoa_nat h]
    cases hd : Lib.decDigits n.toNat with
    | nil => have := dec_pos n.toNat; rw [hd] at this; simp at this
    | cons c r =>
      have hc := dec_head n.toNat c (by rw [hd]; rfl)
      rw [Lib.parseIntB_plain 64 c r (by omega) (by omega), ← hd, parseB_dec (by omega)]
      simp only [Lib.signlessC]
      rw [if_neg (by omega)]
      congr 1; omega
end Go.Proofs.YtkbejmjkdnfemaaGreatDoor
namespace Go.Proofs.YtkbejmjkdnfemaaGreatDoor
set_option linter.unusedVariables false
set_option linter.unusedSimpArgs false
open Go.RowKit

/-- All answers, if there is one for each. -/
def allO {α β : Type} (f : α → Option β) : List α → Option (List β)
  | [] => some []
  | x :: xs => match f x with
    | none => none
    | some y => (allO f xs).map (y :: ·)
theorem allO_none {α β : Type} {f : α → Option β} {x : α} {xs : List α} (h : f x = none) : allO f (x :: xs) = none := by rw [allO, h]
theorem allO_some {α β : Type} {f : α → Option β} {x : α} {xs : List α} {y : β} (h : f x = some y) : allO f (x :: xs) = (allO f xs).map (y :: ·) := by rw [allO, h]
theorem allO_len {α β : Type} {f : α → Option β} : ∀ {xs : List α} {ys : List β}, allO f xs = some ys → ys.length = xs.length
  | [], ys, h => by rw [allO] at h; injection h with h; rw [← h]; rfl
  | x :: xs, ys, h => by
    cases hx : f x with
    | none => rw [allO_none hx] at h; cases h
    | some y =>
      rw [allO_some hx] at h
      cases hr : allO f xs with
      | none => rw [hr] at h; cases h
      | some zs =>
        rw [hr] at h
        injection h with h
        rw [← h, List.length_cons, List.length_cons, allO_len hr]
/-- How far one has come, d being what was answered. -/
def Till {α β : Type} (f : α → Option β) (xs : List α) (k : Nat) (d : List β) : Prop := allO f xs = (allO f (xs.drop k)).map (d ++ ·)
theorem Till.start {α β : Type} (f : α → Option β) (xs : List α) : Till f xs 0 [] := by
  unfold Till; rw [List.drop_zero]; cases allO f xs <;> simp
theorem Till.step {α β : Type} {f : α → Option β} {xs : List α} {k : Nat} {d : List β} {x : α} {y : β} (h : Till f xs k d) (hx : xs[k]? = some x) (hy : f x = some y) : Till f xs (k + 1) (d ++ [y]) := by
  unfold Till at *
  have hk := (List.getElem?_eq_some_iff.1 hx).1
  have e : xs.drop k = x :: xs.drop (k + 1) := by
    rw [List.drop_eq_getElem_cons hk]
    rw [List.getElem?_eq_getElem hk] at hx
    injection hx with hx
    rw [hx]
  rw [h, e, allO_some hy]
  cases allO f (xs.drop (k + 1)) <;> simp
theorem Till.stop {α β : Type} {f : α → Option β} {xs : List α} {k : Nat} {d : List β} {x : α} (h : Till f xs k d) (hx : xs[k]? = some x) (hy : f x = none) : allO f xs = none := by
  unfold Till at h
  have hk := (List.getElem?_eq_some_iff.1 hx).1
  have e : xs.drop k = x :: xs.drop (k + 1) := by
    rw [List.drop_eq_getElem_cons hk]
    rw [List.getElem?_eq_getElem hk] at hx
    injection hx with hx
    rw [hx]
  rw [h, e, allO_none hy]; rfl
theorem Till.done {α β : Type} {f : α → Option β} {xs : List α} {d : List β} (h : Till f xs xs.length d) : allO f xs = some d := by
  unfold Till at h
  rw [h, List.drop_length]; simp [allO]
def noneL : List UInt8 := [110, 111, 110, 101]
/-- The pieces of a list's text. -/
def pcsF (l : List UInt8) : List (List UInt8) := if l = noneL then [] else cutL 44 l
def numsF (l : List UInt8) : Option (List Int) := match allO valF (pcsF l) with
  | none => none
  | some ns => if ns.length ≤ 64 then some ns else none
theorem numsF_all {l : List UInt8} (h : allO valF (pcsF l) = none) : numsF l = none := by unfold numsF; rw [h]
theorem numsF_long {l : List UInt8} (h : 64 < (pcsF l).length) : numsF l = none := by
  unfold numsF
  cases ha : allO valF (pcsF l) with
  | none => rfl
  | some ns => have := allO_len ha; simp only; rw [if_neg (by omega)]
theorem numsF_some {l : List UInt8} {ns : List Int} (h : allO valF (pcsF l) = some ns) (hl : ns.length ≤ 64) : numsF l = some ns := by unfold numsF; rw [h]; simp only; rw [if_pos hl]
theorem numsF_len {l : List UInt8} {ns : List Int} (h : numsF l = some ns) : ns.length ≤ 64 := by
  unfold numsF at h
  cases ha : allO valF (pcsF l) with
  | none => rw [ha] at h; cases h
  | some ms =>
    rw [ha] at h
    simp only at h
    split at h
    · injection h with h; rw [← h]; assumption
    · cases h
theorem pcsF_len (l : List UInt8) : (pcsF l).length ≤ l.length + 1 := by
  unfold pcsF; split
  · simp
  · exact cutL_len 44 l
theorem pcsF_mem {l p : List UInt8} (h : p ∈ pcsF l) : p.length ≤ l.length := by
  unfold pcsF at h; split at h
  · cases h
  · exact cutL_mem h
/-- The lists of a text of so many. -/
def listsF (cnt : Nat) (l : List UInt8) : Option (List (List Int)) := match allO numsF (cutL 59 l) with
  | none => none
  | some yss => if yss.length = cnt ∧ (yss.getD 0 []).length = 2 then some yss else none
theorem listsF_none {cnt : Nat} {l : List UInt8} (h : allO numsF (cutL 59 l) = none) : listsF cnt l = none := by unfold listsF; rw [h]
theorem listsF_some {cnt : Nat} {l : List UInt8} {yss : List (List Int)} (h : allO numsF (cutL 59 l) = some yss) : listsF cnt l = if yss.length = cnt ∧ (yss.getD 0 []).length = 2 then some yss else none := by unfold listsF; rw [h]
theorem listsF_get {cnt : Nat} {l : List UInt8} {yss : List (List Int)} (h : listsF cnt l = some yss) : yss.length = cnt ∧ (yss.getD 0 []).length = 2 ∧ (∀ y ∈ yss, y.length ≤ 64) := by
  cases ha : allO numsF (cutL 59 l) with
  | none => rw [listsF_none ha] at h; cases h
  | some zs =>
    rw [listsF_some ha] at h
    split at h
    · rename_i h2
      injection h with h
      subst h
      refine ⟨h2.1, h2.2, ?_⟩
      have key : ∀ (xs : List (List UInt8)) (ys : List (List Int)), allO numsF xs = some ys → ∀ y ∈ ys, y.length ≤ 64 := by
        intro xs
        induction xs with
        | nil => intro ys hh y hy; rw [allO] at hh; injection hh with hh; subst hh; cases hy
        | cons x xs ih =>
          intro ys hh y hy
          cases hx : numsF x with
          | none => rw [allO_none hx] at hh; cases hh
          | some n =>
            rw [allO_some hx] at hh
            cases hr : allO numsF xs with
            | none => rw [hr] at hh; cases hh
            | some ms =>
              rw [hr] at hh
              injection hh with hh
              subst hh
              rcases List.mem_cons.1 hy with e | e
              · subst e; exact numsF_len hx
              · exact ih ms hr y e
      exact key _ _ ha
    · cases h
/-- The answer of a reader of numbers: a row of one's own with a block, or nil and no. -/
def RetN (T : Nat) (w : World) (r : Option (List Int)) (e : Ending) (w' : World) : Prop :=
  Below w.heap.size w w' ∧ match r with
    | none => e = .returned (.tuple #[.slice none 0 0, .bool false])
    | some xs => ∃ g c, e = .returned (.tuple #[.slice (some ⟨g, 0, none⟩) xs.length c, .bool true]) ∧ w'.ownsRow w.heap.size T 1 (.slice (some ⟨g, 0, none⟩) xs.length c) xs.length (ints xs)
theorem own_some {w : World} {base e : Nat} {v : Value} {n : Nat} {xs : List Value} (h : w.ownsRow base e 1 v n xs) (hn : 1 ≤ n) : ∃ g c, v = .slice (some ⟨g, 0, none⟩) n c := by
  rcases h.2 with ⟨h2, h3⟩ | ⟨g, cap, cur, hv, _⟩
  · exact absurd h3 (by omega)
  · exact ⟨g, cap, hv⟩
end Go.Proofs.YtkbejmjkdnfemaaGreatDoor
namespace Go.Proofs.YtkbejmjkdnfemaaGreatDoor
set_option linter.unusedVariables false
set_option linter.unusedSimpArgs false
open Go.RowKit

theorem info_str : (Tryz.prog.info? 9).map (fun i => (i.zero, i.size, i.bytes)) = some (some (.string ByteArray.empty), 1, 16) := by kernel_rfl
end Go.Proofs.YtkbejmjkdnfemaaGreatDoor
