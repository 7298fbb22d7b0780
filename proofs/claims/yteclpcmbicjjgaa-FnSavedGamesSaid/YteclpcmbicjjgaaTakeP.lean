/-
  What is saved, read in front of a text: both roads told as functions, and that they tell the same. No Go function is named here.
-/
import Derived.Test.YteclpcmbicjjgaaTaker
import Derived.Test.YteclpcmbicjjgaaStoreA
namespace Go.Proofs.Yteclpcmbicjjgaa
set_option linter.unusedVariables false
set_option linter.unusedSimpArgs false
open Go.RowKit

def tkEnd (s : ByteArray) (v : Sv) (t : Nat × Bool) : Option (Sv × Nat) := if (!t.2 && svB v && ((bs (svL v)).toList == (s.extract 0 t.1).toList)) = true then some (v, t.1) else none
def tkW (s name : ByteArray) (R C : Int) (A B : List Int) (P : Int) (t : Nat × Bool) : Option (Sv × Nat) :=
  tkEnd s ⟨name, R, C, A, B, P, numsL s 10000 t (2 ^ P.toNat)⟩ (tkT s 2 (numsT s t (2 ^ P.toNat)))
def tkP (s name : ByteArray) (R C : Int) (A B : List Int) (t : Nat × Bool) : Option (Sv × Nat) :=
  if inB (tkB s t) 1 6 = true then tkW s name R C A B (tkB s t) (tkT s 1 t) else none
def tkG (s name : ByteArray) (R C : Int) (t : Nat × Bool) : Option (Sv × Nat) :=
  tkP s name R C (numsL s 1000 t (R * C).toNat) (numsL s 1000 (numsT s t (R * C).toNat) (R * C).toNat) (numsT s (numsT s t (R * C).toNat) (R * C).toNat)
def tkRC (s name : ByteArray) (t : Nat × Bool) : Option (Sv × Nat) :=
  if (inB (tkB s t) 1 6 && inB (tkB s (tkT s 1 t)) 1 6) = true then tkG s name (tkB s t) (tkB s (tkT s 1 t)) (tkT s 1 (tkT s 1 t)) else none
def tkName (s : ByteArray) (t : Nat × Bool) : Option (Sv × Nat) := tkRC s (tkS s (tkB s t).toNat (tkT s 1 t)) (tkT s (tkB s t).toNat (tkT s 1 t))
def takenF (s : ByteArray) : Option (Sv × Nat) := if ((tkS s 4 (0, false)).toList == [71, 65, 77, 49]) = true then tkName s (tkT s 4 (0, false)) else none

def readF (r : ByteArray) (less : Int) (k : Nat) : List Int := (List.range k).map fun i => bAt r (2 * i) + 256 * bAt r (2 * i + 1) - less
def bgEnd (s : ByteArray) (v : Sv) (p : Nat) : Option (Sv × Nat) := if (svB v && ((bs (svL v)).toList == (s.extract 0 (p + 2)).toList)) = true then some (v, p + 2) else none
def bgW (s name : ByteArray) (R C : Int) (A B : List Int) (p : Nat) : Option (Sv × Nat) :=
  if (decide (6 < bAt s p) || decide (s.size < p + 1 + 2 * 2 ^ (bAt s p).toNat + 2)) = true then none else bgEnd s ⟨name, R, C, A, B, bAt s p, readF (s.extract (p + 1) s.size) 10000 (2 ^ (bAt s p).toNat)⟩ (p + 1 + 2 * 2 ^ (bAt s p).toNat)
def bgG (s name : ByteArray) (R C : Int) (p : Nat) : Option (Sv × Nat) :=
  if s.size < p + 4 * (R * C).toNat + 1 then none else bgW s name R C (readF (s.extract p s.size) 1000 (R * C).toNat) (readF (s.extract (p + 2 * (R * C).toNat) s.size) 1000 (R * C).toNat) (p + 4 * (R * C).toNat)
def bgN (s : ByteArray) (p : Nat) : Option (Sv × Nat) := if s.size < p + 2 then none else bgG s (s.extract 5 p) (bAt s p) (bAt s (p + 1)) (p + 2)
def beginF (s : ByteArray) : Option (Sv × Nat) := if s.size < 5 then none else bgN s (5 + (bAt s 4).toNat)

theorem bAt_list (s : ByteArray) (i : Nat) : bAt s i = (((s.data.toList.getD i 0).toNat : Nat) : Int) := rfl
theorem bAt_split {s : ByteArray} {pre post : List UInt8} {b : UInt8} (h : s.data.toList = pre ++ b :: post) : bAt s pre.length = (b.toNat : Int) := by
  rw [bAt_list, h]; simp
theorem tk_split {s : ByteArray} {pre x post : List UInt8} (h : s.data.toList = pre ++ (x ++ post)) : tkS s x.length (pre.length, false) = bs x ∧ tkT s x.length (pre.length, false) = (pre.length + x.length, false) := by
  have hsz : pre.length + x.length ≤ s.size := by rw [Lib.size_eq, h]; simp
  refine ⟨?_, ?_⟩
  · unfold tkS
    rw [if_pos hsz, extract_bs, h]
    congr 1
    rw [← List.append_assoc, List.take_append_of_le_length (by simp), List.take_of_length_le (by simp)]
    simp
  · unfold tkT; rw [if_pos hsz]
theorem byteOf_nat {z : Int} (h0 : 0 ≤ z) (h1 : z ≤ 255) : ((byteOf z).toNat : Int) = z := by rw [byteOf_toNat]; omega
theorem two_val {z : Int} (h0 : 0 ≤ z) (h1 : z ≤ 65535) : ((byteOf z).toNat : Int) + 256 * ((byteOf (z / 256)).toNat : Int) = z := by rw [byteOf_toNat, byteOf_toNat]; omega
theorem tkB_split {s : ByteArray} {pre post : List UInt8} {z : Int} (h : s.data.toList = pre ++ byteOf z :: post) (h0 : 0 ≤ z) (h1 : z ≤ 255) : tkB s (pre.length, false) = z ∧ tkT s 1 (pre.length, false) = (pre.length + 1, false) := by
  have := tk_split (s := s) (pre := pre) (x := [byteOf z]) (post := post) (by simpa using h)
  refine ⟨?_, this.2⟩
  unfold tkB
  rw [show tkS s 1 (pre.length, false) = bs [byteOf z] from this.1, bAt_list]
  simp [bs_list, byteOf_nat h0 h1]
theorem twoF_cons (p x : Int) (xs : List Int) : twoF p (x :: xs) = byteOf (x + p) :: byteOf ((x + p) / 256) :: twoF p xs := rfl
theorem twoF_append (p : Int) (xs ys : List Int) : twoF p (xs ++ ys) = twoF p xs ++ twoF p ys := by simp [twoF]
theorem nums_split {s : ByteArray} {p : Int} : ∀ (xs : List Int) (pre post : List UInt8), s.data.toList = pre ++ (twoF p xs ++ post) → (∀ k, k < xs.length → 0 ≤ xs.getD k 0 + p ∧ xs.getD k 0 + p ≤ 65535) →
    ∀ k, k ≤ xs.length → numsT s (pre.length, false) k = (pre.length + 2 * k, false) ∧ numsL s p (pre.length, false) k = xs.take k := by
  intro xs pre post h hx k
  induction k with
  | zero => intro _; exact ⟨rfl, rfl⟩
  | succ k ih =>
    intro hk
    obtain ⟨i1, i2⟩ := ih (by omega)
    have hsp : twoF p xs = twoF p (xs.take k) ++ (byteOf (xs.getD k 0 + p) :: byteOf ((xs.getD k 0 + p) / 256) :: twoF p (xs.drop (k + 1))) := by
      conv => lhs; rw [← List.take_append_drop k xs]
      rw [twoF_append, List.drop_eq_getElem_cons (by omega), twoF_cons]
      simp [List.getD, List.getElem?_eq_getElem (show k < xs.length by omega)]
    have hh : s.data.toList = (pre ++ twoF p (xs.take k)) ++ ([byteOf (xs.getD k 0 + p), byteOf ((xs.getD k 0 + p) / 256)] ++ (twoF p (xs.drop (k + 1)) ++ post)) := by
      rw [h, hsp]; simp
    have hl : (pre ++ twoF p (xs.take k)).length = pre.length + 2 * k := by rw [List.length_append, twoF_length, List.length_take]; omega
    have := tk_split hh
    rw [hl] at this
    obtain ⟨t1, t2⟩ := this
    simp only [List.length_cons, List.length_nil, Nat.zero_add] at t1 t2
    have hxk := hx k (by omega)
    refine ⟨?_, ?_⟩
    · rw [show numsT s (pre.length, false) (k + 1) = tkT s 2 (numsT s (pre.length, false) k) from rfl, i1, t2]; simp; omega
    · rw [numsL_snoc, i2, i1]
      have hv : tkN s p (pre.length + 2 * k, false) = xs.getD k 0 := by
        unfold tkN
        rw [t1, bAt_list, bAt_list]
        have := two_val hxk.1 hxk.2
        simp only [bs_list, List.getD_cons_zero, List.getD_cons_succ]
        omega
      rw [hv, List.take_add_one, List.getD_eq_getElem?_getD, List.getElem?_eq_getElem (show k < xs.length by omega)]
      simp
theorem read_split {s r : ByteArray} {p : Int} (xs : List Int) (pre post : List UInt8) (h : s.data.toList = pre ++ (twoF p xs ++ post)) (hx : ∀ k, k < xs.length → 0 ≤ xs.getD k 0 + p ∧ xs.getD k 0 + p ≤ 65535) (hr : r = s.extract pre.length s.size) : readF r p xs.length = xs := by
  have hrl : r.data.toList = twoF p xs ++ post := by
    rw [hr, extract_bs, bs_list, List.take_of_length_le (by rw [Lib.size_eq]; exact Nat.le_refl _), h]; simp
  have key : ∀ k, k ≤ xs.length → readF r p k = xs.take k := by
    intro k
    induction k with
    | zero => intro _; rfl
    | succ k ih =>
      intro hk
      have i2 := ih (by omega)
      have hsp : r.data.toList = twoF p (xs.take k) ++ (byteOf (xs.getD k 0 + p) :: byteOf ((xs.getD k 0 + p) / 256) :: (twoF p (xs.drop (k + 1)) ++ post)) := by
        rw [hrl]
        conv => lhs; rw [← List.take_append_drop k xs]
        rw [twoF_append, List.drop_eq_getElem_cons (by omega), twoF_cons]
        simp [List.getD, List.getElem?_eq_getElem (show k < xs.length by omega)]
      have hl : (twoF p (xs.take k)).length = 2 * k := by rw [twoF_length, List.length_take]; omega
      have b1 := bAt_split hsp
      have hsp2 : r.data.toList = (twoF p (xs.take k) ++ [byteOf (xs.getD k 0 + p)]) ++ byteOf ((xs.getD k 0 + p) / 256) :: (twoF p (xs.drop (k + 1)) ++ post) := by rw [hsp]; simp
      have b2 := bAt_split hsp2
      rw [hl] at b1
      rw [show (twoF p (xs.take k) ++ [byteOf (xs.getD k 0 + p)]).length = 2 * k + 1 by rw [List.length_append, hl]; rfl] at b2
      have hxk := hx k (by omega)
      have := two_val hxk.1 hxk.2
      have e : readF r p (k + 1) = readF r p k ++ [bAt r (2 * k) + 256 * bAt r (2 * k + 1) - p] := by simp [readF, List.range_succ]
      rw [e, i2, b1, b2, List.take_add_one, show ((byteOf (xs.getD k 0 + p)).toNat : Int) + 256 * ((byteOf ((xs.getD k 0 + p) / 256)).toNat : Int) - p = xs.getD k 0 by omega, List.getD_eq_getElem?_getD, List.getElem?_eq_getElem (show k < xs.length by omega)]
      simp
  have := key xs.length (Nat.le_refl _)
  rwa [List.take_length] at this
/-- What is stored is valid, and its parts are of these lengths. -/
theorem svB_len {v : Sv} (h : svB v = true) : v.s.size ≤ 8 ∧ (v.A.length : Int) = v.R * v.C ∧ (v.B.length : Int) = v.R * v.C ∧ v.W.length = 2 ^ v.P.toNat := by
  simp only [svB, savedB, nameB, gameB, worthsB, Bool.and_eq_true, inB_iff, manyB_iff, decide_eq_true_eq] at h
  obtain ⟨⟨⟨_, _, hs⟩, ⟨hR, hC⟩, ⟨⟨hA0, hA⟩, vA⟩, ⟨hB0, hB⟩, vB⟩, ⟨hP, ⟨hW0, hW⟩, vW⟩, _⟩ := h
  refine ⟨by omega, by omega, by omega, ?_⟩
  have : ((2 : Int) ^ v.P.toNat) = ((2 ^ v.P.toNat : Nat) : Int) := by simp
  omega
theorem svL_split (v : Sv) (rest : List UInt8) : svL v ++ rest = [71, 65, 77, 49] ++ ([byteOf v.s.size] ++ (v.s.data.toList ++ ([byteOf v.R] ++ ([byteOf v.C] ++ (twoF 1000 v.A ++ (twoF 1000 v.B ++ ([byteOf v.P] ++ (twoF 10000 v.W ++ ([byteOf (chkF 0 (bodyF v.s v.R v.C v.A v.B v.P v.W)), byteOf (chkF 0 (bodyF v.s v.R v.C v.A v.B v.P v.W) / 256)] ++ rest))))))))) := by
  simp [svL, storeL, bodyF, head2, headF]
theorem svL_len_eq (v : Sv) : (svL v).length = 10 + v.s.size + 2 * v.A.length + 2 * v.B.length + 2 * v.W.length := by
  simp only [svL, storeL, List.length_append, bodyF_len, List.length_cons, List.length_nil]; omega
theorem taken_parse {s : ByteArray} {v : Sv} {rest : List UInt8} (hv : svB v = true) (h : s.data.toList = svL v ++ rest) : takenF s = some (v, (svL v).length) := by
  obtain ⟨_, ⟨R0, R1⟩, ⟨C0, C1⟩, ⟨P0, P1⟩, _, _, _, vA, vB, vW⟩ := savedB_spec hv
  obtain ⟨ls, lA, lB, lW⟩ := svB_len hv
  have hs := Lib.size_eq v.s
  have hfull := h
  rw [svL_split] at h
  have z1 := tk_split (pre := []) (show s.data.toList = [] ++ ([71, 65, 77, 49] ++ _) from h)
  obtain ⟨a1, a2⟩ := z1
  simp only [List.length_cons, List.length_nil, Nat.zero_add] at a1 a2
  have h2 : s.data.toList = [71, 65, 77, 49] ++ byteOf v.s.size :: (v.s.data.toList ++ _) := h
  obtain ⟨b1, b2⟩ := tkB_split h2 (by omega) (by omega)
  simp only [List.length_cons, List.length_nil, Nat.zero_add] at b1 b2
  have h3 := h.trans (List.append_assoc _ _ _).symm
  obtain ⟨c1, c2⟩ := tk_split h3
  have e3 : ([71, 65, 77, 49] ++ [byteOf v.s.size] : List UInt8).length = 5 := rfl
  rw [e3, ← hs, bs_of] at c1
  rw [e3, ← hs] at c2
  have h4 := h3.trans (List.append_assoc _ _ _).symm
  have e4 : ([71, 65, 77, 49] ++ [byteOf v.s.size] ++ v.s.data.toList : List UInt8).length = 5 + v.s.size := by rw [List.length_append, ← hs]; rfl
  obtain ⟨d1, d2⟩ := tkB_split (show s.data.toList = _ ++ byteOf v.R :: _ from h4) (by omega) (by omega)
  rw [e4] at d1 d2
  have h5 := h4.trans (List.append_assoc _ _ _).symm
  have e5 : ([71, 65, 77, 49] ++ [byteOf v.s.size] ++ v.s.data.toList ++ [byteOf v.R] : List UInt8).length = 5 + v.s.size + 1 := by rw [List.length_append, e4]; rfl
  obtain ⟨f1, f2⟩ := tkB_split (show s.data.toList = _ ++ byteOf v.C :: _ from h5) (by omega) (by omega)
  rw [e5] at f1 f2
  have h6 := h5.trans (List.append_assoc _ _ _).symm
  have e6 : ([71, 65, 77, 49] ++ [byteOf v.s.size] ++ v.s.data.toList ++ [byteOf v.R] ++ [byteOf v.C] : List UInt8).length = 5 + v.s.size + 1 + 1 := by rw [List.length_append, e5]; rfl
  obtain ⟨g1, g2⟩ := nums_split v.A _ _ h6 vA v.A.length (Nat.le_refl _)
  rw [e6] at g1 g2
  rw [List.take_length] at g2
  have h7 := h6.trans (List.append_assoc _ _ _).symm
  have e7 : ([71, 65, 77, 49] ++ [byteOf v.s.size] ++ v.s.data.toList ++ [byteOf v.R] ++ [byteOf v.C] ++ twoF 1000 v.A : List UInt8).length = 5 + v.s.size + 1 + 1 + 2 * v.A.length := by rw [List.length_append, e6, twoF_length]
  obtain ⟨i1, i2⟩ := nums_split v.B _ _ h7 vB v.B.length (Nat.le_refl _)
  rw [e7] at i1 i2
  rw [List.take_length] at i2
  have h8 := h7.trans (List.append_assoc _ _ _).symm
  have e8 : ([71, 65, 77, 49] ++ [byteOf v.s.size] ++ v.s.data.toList ++ [byteOf v.R] ++ [byteOf v.C] ++ twoF 1000 v.A ++ twoF 1000 v.B : List UInt8).length = 5 + v.s.size + 1 + 1 + 2 * v.A.length + 2 * v.B.length := by rw [List.length_append, e7, twoF_length]
  obtain ⟨j1, j2⟩ := tkB_split (show s.data.toList = _ ++ byteOf v.P :: _ from h8) (by omega) (by omega)
  rw [e8] at j1 j2
  have h9 := h8.trans (List.append_assoc _ _ _).symm
  have e9 : ([71, 65, 77, 49] ++ [byteOf v.s.size] ++ v.s.data.toList ++ [byteOf v.R] ++ [byteOf v.C] ++ twoF 1000 v.A ++ twoF 1000 v.B ++ [byteOf v.P] : List UInt8).length = 5 + v.s.size + 1 + 1 + 2 * v.A.length + 2 * v.B.length + 1 := by rw [List.length_append, e8]; rfl
  obtain ⟨k1, k2⟩ := nums_split v.W _ _ h9 vW v.W.length (Nat.le_refl _)
  rw [e9] at k1 k2
  rw [List.take_length] at k2
  have h10 := h9.trans (List.append_assoc _ _ _).symm
  have e10 : ([71, 65, 77, 49] ++ [byteOf v.s.size] ++ v.s.data.toList ++ [byteOf v.R] ++ [byteOf v.C] ++ twoF 1000 v.A ++ twoF 1000 v.B ++ [byteOf v.P] ++ twoF 10000 v.W : List UInt8).length = 5 + v.s.size + 1 + 1 + 2 * v.A.length + 2 * v.B.length + 1 + 2 * v.W.length := by rw [List.length_append, e9, twoF_length]
  obtain ⟨l1, l2⟩ := tk_split h10
  rw [e10] at l1 l2
  simp only [List.length_cons, List.length_nil, Nat.zero_add] at l1 l2
  have nA : (v.R * v.C).toNat = v.A.length := by omega
  have nB : (v.R * v.C).toNat = v.B.length := by omega
  have hSV : (bs (svL v)).toList = (s.extract 0 (svL v).length).toList := by
    rw [extract_bs, hfull, bs_toList, bs_toList]; simp
  have hlen := svL_len_eq v
  unfold takenF
  rw [a1, a2, bs_toList, if_pos (by rfl)]
  unfold tkName
  rw [b1, b2, Int.toNat_natCast, c1, c2]
  unfold tkRC
  rw [d1, d2, f1, f2, if_pos (by simp only [Bool.and_eq_true, inB_iff]; exact ⟨⟨R0, R1⟩, C0, C1⟩)]
  unfold tkG
  rw [nA, g1, g2]
  rw [show v.A.length = v.B.length by omega] at i1 i2 ⊢
  rw [i1, i2]
  unfold tkP
  rw [show v.A.length = v.B.length by omega] at j1 j2 k1 k2 l1 l2
  rw [j1, j2, if_pos (by simp only [inB_iff]; exact ⟨P0, P1⟩)]
  unfold tkW
  rw [← lW, k1, k2, l2]
  unfold tkEnd
  have hn : 5 + v.s.size + 1 + 1 + 2 * v.B.length + 2 * v.B.length + 1 + 2 * v.W.length + 2 = (svL v).length := by omega
  rw [hn, if_pos (by simp [hv, hSV])]
theorem taken_end {s : ByteArray} {v : Sv} {n : Nat} (hn : n ≤ s.size) (h : (bs (svL v)).toList = (s.extract 0 n).toList) : n = (svL v).length ∧ s.data.toList = svL v ++ s.data.toList.drop (svL v).length := by
  rw [extract_bs, bs_toList, bs_toList, List.drop_zero] at h
  have hl : n = (svL v).length := by rw [h, List.length_take, ← Lib.size_eq]; omega
  refine ⟨hl, ?_⟩
  rw [← hl, h]
  simp
theorem taken_only {s : ByteArray} {v : Sv} {n : Nat} (h : takenF s = some (v, n)) : svB v = true ∧ n = (svL v).length ∧ s.data.toList = svL v ++ s.data.toList.drop (svL v).length := by
  unfold takenF at h
  split at h
  · unfold tkName tkRC at h
    split at h
    · unfold tkG tkP at h
      split at h
      · unfold tkW tkEnd at h
        split at h
        · rename_i hc
          simp only [Bool.and_eq_true, beq_iff_eq] at hc
          obtain ⟨⟨_, hv⟩, he⟩ := hc
          injection h with h
          injection h with h1 h2
          have hle : n ≤ s.size := by
            rw [← h2]
            exact tkT_le (numsT_le (tkT_le (numsT_le (numsT_le (tkT_le (tkT_le (tkT_le (tkT_le (tkT_le (Nat.zero_le _)))) ) ) _) _) ) _)
          rw [h2] at he
          rw [h1] at he hv
          exact ⟨hv, taken_end hle he⟩
        · cases h
      · cases h
    · cases h
  · cases h
theorem begin_parse {s : ByteArray} {v : Sv} {rest : List UInt8} (hv : svB v = true) (h : s.data.toList = svL v ++ rest) : beginF s = some (v, (svL v).length) := by
  obtain ⟨_, ⟨R0, R1⟩, ⟨C0, C1⟩, ⟨P0, P1⟩, _, _, _, vA, vB, vW⟩ := savedB_spec hv
  obtain ⟨ls, lA, lB, lW⟩ := svB_len hv
  have hs := Lib.size_eq v.s
  have hfull := h
  have hsz : (svL v).length ≤ s.size := by rw [Lib.size_eq, h]; simp
  have hlen := svL_len_eq v
  rw [svL_split] at h
  have h2 : s.data.toList = [71, 65, 77, 49] ++ byteOf v.s.size :: (v.s.data.toList ++ _) := h
  have b1 := bAt_split h2
  rw [byteOf_nat (by omega) (by omega)] at b1
  have b1 : bAt s 4 = (v.s.size : Int) := b1
  have h3 := h.trans (List.append_assoc _ _ _).symm
  have c1 : s.extract 5 (5 + v.s.size) = v.s := by
    rw [extract_bs, h3]
    apply ext_bs
    rw [bs_list, ← List.append_assoc, List.take_append_of_le_length (by rw [hs]; simp; omega), List.take_of_length_le (by rw [hs]; simp; omega)]
    rfl
  have h4 := h3.trans (List.append_assoc _ _ _).symm
  have e4 : ([71, 65, 77, 49] ++ [byteOf v.s.size] ++ v.s.data.toList : List UInt8).length = 5 + v.s.size := by rw [List.length_append, ← hs]; rfl
  have d1 := bAt_split (show s.data.toList = _ ++ byteOf v.R :: _ from h4)
  rw [e4, byteOf_nat (by omega) (by omega)] at d1
  have h5 := h4.trans (List.append_assoc _ _ _).symm
  have e5 : ([71, 65, 77, 49] ++ [byteOf v.s.size] ++ v.s.data.toList ++ [byteOf v.R] : List UInt8).length = 5 + v.s.size + 1 := by rw [List.length_append, e4]; rfl
  have f1 := bAt_split (show s.data.toList = _ ++ byteOf v.C :: _ from h5)
  rw [e5, byteOf_nat (by omega) (by omega)] at f1
  have h6 := h5.trans (List.append_assoc _ _ _).symm
  have e6 : ([71, 65, 77, 49] ++ [byteOf v.s.size] ++ v.s.data.toList ++ [byteOf v.R] ++ [byteOf v.C] : List UInt8).length = 5 + v.s.size + 2 := by rw [List.length_append, e5]; rfl
  have g1 := read_split v.A _ _ h6 vA rfl
  rw [e6] at g1
  have h7 := h6.trans (List.append_assoc _ _ _).symm
  have e7 : ([71, 65, 77, 49] ++ [byteOf v.s.size] ++ v.s.data.toList ++ [byteOf v.R] ++ [byteOf v.C] ++ twoF 1000 v.A : List UInt8).length = 5 + v.s.size + 2 + 2 * v.A.length := by rw [List.length_append, e6, twoF_length]
  have i1 := read_split v.B _ _ h7 vB rfl
  rw [e7] at i1
  have h8 := h7.trans (List.append_assoc _ _ _).symm
  have e8 : ([71, 65, 77, 49] ++ [byteOf v.s.size] ++ v.s.data.toList ++ [byteOf v.R] ++ [byteOf v.C] ++ twoF 1000 v.A ++ twoF 1000 v.B : List UInt8).length = 5 + v.s.size + 2 + 4 * v.A.length := by rw [List.length_append, e7, twoF_length]; omega
  have j1 := bAt_split (show s.data.toList = _ ++ byteOf v.P :: _ from h8)
  rw [e8, byteOf_nat (by omega) (by omega)] at j1
  have h9 := h8.trans (List.append_assoc _ _ _).symm
  have e9 : ([71, 65, 77, 49] ++ [byteOf v.s.size] ++ v.s.data.toList ++ [byteOf v.R] ++ [byteOf v.C] ++ twoF 1000 v.A ++ twoF 1000 v.B ++ [byteOf v.P] : List UInt8).length = 5 + v.s.size + 2 + 4 * v.A.length + 1 := by rw [List.length_append, e8]; rfl
  have k1 := read_split v.W _ _ h9 vW rfl
  rw [e9] at k1
  have nA : (v.R * v.C).toNat = v.A.length := by omega
  have hSV : (bs (svL v)).toList = (s.extract 0 (svL v).length).toList := by
    rw [extract_bs, hfull, bs_toList, bs_toList]; simp
  unfold beginF
  rw [if_neg (by omega)]
  unfold bgN
  rw [b1, Int.toNat_natCast, if_neg (by omega), c1, d1, f1]
  unfold bgG
  rw [nA, if_neg (by omega), g1]
  rw [show readF (s.extract (5 + v.s.size + 2 + 2 * v.A.length) s.size) 1000 v.A.length = v.B by rw [show v.A.length = v.B.length by omega] at i1 ⊢; exact i1]
  unfold bgW
  rw [j1, ← lW, if_neg (by simp only [Bool.or_eq_true, decide_eq_true_eq]; omega), k1]
  unfold bgEnd
  have hn : 5 + v.s.size + 2 + 4 * v.A.length + 1 + 2 * v.W.length + 2 = (svL v).length := by omega
  rw [hn, if_pos (by simp [hv, hSV])]
theorem begin_only {s : ByteArray} {v : Sv} {n : Nat} (h : beginF s = some (v, n)) : svB v = true ∧ n = (svL v).length ∧ s.data.toList = svL v ++ s.data.toList.drop (svL v).length := by
  unfold beginF at h
  split at h
  · cases h
  · unfold bgN at h
    split at h
    · cases h
    · unfold bgG at h
      split at h
      · cases h
      · unfold bgW at h
        split at h
        · cases h
        · rename_i hb
          simp only [Bool.or_eq_true, decide_eq_true_eq, not_or, Nat.not_lt] at hb
          unfold bgEnd at h
          split at h
          · rename_i hc
            simp only [Bool.and_eq_true, beq_iff_eq] at hc
            obtain ⟨hv, he⟩ := hc
            injection h with h
            injection h with h1 h2
            have hle : n ≤ s.size := by rw [← h2]; exact hb.2
            rw [h2] at he
            rw [h1] at he hv
            exact ⟨hv, taken_end hle he⟩
          · cases h
theorem begin_taken (s : ByteArray) : beginF s = takenF s := by
  cases h : takenF s with
  | some r =>
    obtain ⟨v, n⟩ := r
    obtain ⟨h1, h2, h3⟩ := taken_only h
    rw [begin_parse h1 h3, h2]
  | none =>
    cases h2 : beginF s with
    | none => rfl
    | some r =>
      obtain ⟨v, n⟩ := r
      obtain ⟨h3, h4, h5⟩ := begin_only h2
      rw [taken_parse h3 h5] at h
      cases h
end Go.Proofs.Yteclpcmbicjjgaa
