/-
  A list of saved games of its own, block by block; copied.
-/
import Derived.Test.YteclpcmbicjjgaaSavS
namespace Go.Proofs.Yteclpcmbicjjgaa
set_option linter.unusedVariables false
set_option linter.unusedSimpArgs false
open Go.RowKit

/-- 'make' of n elements of any size. -/
theorem wpList_make_cells {P : Program} (w : World) {ops : Array Oper} {rest : List Oper} {o : Oper} {a : Act} {Q : Exit → Act → World → Prop}
    (hg : o.guard = none) (l c : Operand) (t : TypeId) (hop : o.op = Op.makeSlice t l c)
    (e : TypeId) (z : Value) (size bytes : Nat) (h1 : P.underlying t = some (.slice e)) (hinfo : (P.info? e).map (fun i => (i.zero, i.size, i.bytes)) = some (some z, size, bytes))
    (kl kc : IntKind) (n : Nat) (hl : a.eval l = .int kl (n : Int)) (hc : a.eval c = .int kc (n : Int)) (b2 : bytes * n ≤ 281474976710656) (b3 : n ≤ maxLen)
    (hK : ∀ w', Blk w' w.heap.size (madeCells z.cells (n * size)).toList e → Below w.heap.size w w' → w'.heap.size = w.heap.size + 1 → wpList P ops Q rest (a.put o.dst (.slice (some ⟨w.heap.size, 0, none⟩) n n)) w') :
    wpList P ops Q (o :: rest) a w := by
  obtain ⟨i, h2, h3, h4, h5⟩ := info_parts hinfo
  refine wpList_plain hg fun K hK' => ?_
  have b2' : (i.bytes : Int) * (n : Int) ≤ 281474976710656 := by rw [h5]; have : ((bytes * n : Nat) : Int) ≤ 281474976710656 := by omega
                                                                 rwa [Int.natCast_mul] at this
  have hr := run_make (P := P) w t e i z h1 h2 h3 kl kc n n (by omega) (Int.le_refl _) b2' (by unfold maxLen at b3; omega)
  simp only [Int.toNat_natCast, h4] at hr
  have e1 : madeCells z.cells (n * size) = (madeCells z.cells (n * size)).toList.toArray := by simp
  rw [e1] at hr
  unfold Oper.wp
  simp [execOp, hop, hl, hc, hr, Result.andThen]
  exact hK' _ _ (by simpa using hK _ (Blk.new w _ e) ((Below.refl _ w).alloc (Nat.le_refl _) _) (by simp))
theorem OwnSaved.touch {w w' : World} {lo hi lo' hi' : Nat} {aA aB aW : Option Addr} {cA cB cW : Nat} {xA xB xW : List Int} (h : OwnSaved w lo hi aA cA xA aB cB xB aW cW xW) (ht : Touch w w' lo' hi') (hd : hi ≤ lo' ∨ hi' ≤ lo) : OwnSaved w' lo hi aA cA xA aB cB xB aW cW xW := by
  obtain ⟨m, h1, h2, h3, o1, o2⟩ := h
  exact ⟨m, h1, h2, Nat.le_trans h3 ht.size, o1.touch ht (by omega), o2.touch ht (by omega)⟩
theorem OwnSaved.le {w : World} {lo hi : Nat} {aA aB aW : Option Addr} {cA cB cW : Nat} {xA xB xW : List Int} (h : OwnSaved w lo hi aA cA xA aB cB xB aW cW xW) : lo ≤ hi := by
  obtain ⟨m, h1, h2, _⟩ := h; omega
theorem OwnSaved.rdH {w : World} {lo hi : Nat} {aA aB aW : Option Addr} {cA cB cW : Nat} {xA xB xW : List Int} (h : OwnSaved w lo hi aA cA xA aB cB xB aW cW xW) : RdSaved w hi aA xA aB xB aW xW := by
  obtain ⟨m, h1, h2, h3, o1, o2⟩ := h
  have r1 := o1.rd.mono h2
  exact ⟨r1.1, r1.2, o2.rd⟩
/-- Where the two lists of a crowd lie. -/
abbrev Hd := Option Addr × Nat × Option Addr × Nat × Option Addr × Nat
def cells1 (c : Sv) (h : Hd) : List Value := [.string c.s, .int .i64 c.R, .int .i64 c.C, .slice h.1 c.A.length h.2.1, .slice h.2.2.1 c.B.length h.2.2.2.1, .int .i64 c.P, .slice h.2.2.2.2.1 c.W.length h.2.2.2.2.2]
def flatC : List Sv → List Hd → List Value
  | c :: cs, h :: hs => cells1 c h ++ flatC cs hs
  | _, _ => []
theorem flatC_snoc : ∀ (cs : List Sv) (hs : List Hd) (c : Sv) (h : Hd), cs.length = hs.length → flatC (cs ++ [c]) (hs ++ [h]) = flatC cs hs ++ cells1 c h
  | [], [], c, h, _ => by simp [flatC]
  | c0 :: cs, h0 :: hs, c, h, hl => by
    rw [List.cons_append, List.cons_append, flatC, flatC, flatC_snoc cs hs c h (by simpa using hl), List.append_assoc]
  | [], _ :: _, _, _, hl => by simp at hl
  | _ :: _, [], _, _, hl => by simp at hl
theorem flatC_len : ∀ (cs : List Sv) (hs : List Hd), cs.length = hs.length → (flatC cs hs).length = cs.length * 7
  | [], [], _ => rfl
  | c0 :: cs, h0 :: hs, hl => by rw [flatC, List.length_append, flatC_len cs hs (by simpa using hl)]; simp [cells1]; omega
  | [], _ :: _, hl => by simp at hl
  | _ :: _, [], hl => by simp at hl
def zero1 : List Value := [.string ⟨#[]⟩, .int .i64 0, .int .i64 0, .slice none 0 0, .slice none 0 0, .int .i64 0, .slice none 0 0]
def zerosC : Nat → List Value
  | 0 => []
  | n + 1 => zero1 ++ zerosC n
theorem zerosC_len : ∀ n, (zerosC n).length = n * 7
  | 0 => rfl
  | n + 1 => by rw [zerosC, List.length_append, zerosC_len n]; simp [zero1]; omega
theorem zerosC_get : ∀ (n i : Nat), i < n * 7 → (zerosC n)[i]? = zero1[i % 7]?
  | 0, i, h => by omega
  | n + 1, i, h => by
    rw [zerosC]
    by_cases hi : i < 7
    · rw [List.getElem?_append_left (by simp [zero1]; omega), Nat.mod_eq_of_lt hi]
    · rw [List.getElem?_append_right (by simp [zero1]; omega), zerosC_get n (i - zero1.length) (by simp [zero1]; omega)]
      congr 1
      simp [zero1]
      omega
theorem made_zeros (n : Nat) : (madeCells #[Value.string ⟨#[]⟩, .int .i64 0, .int .i64 0, .slice none 0 0, .slice none 0 0, .int .i64 0, .slice none 0 0] (n * 7)).toList = zerosC n := by
  apply List.ext_getElem?
  intro i
  by_cases hi : i < n * 7
  · rw [zerosC_get n i hi]
    have h4 : i % 7 < 7 := Nat.mod_lt _ (by omega)
    rw [Array.getElem?_toList]
    have hs : i < (madeCells #[Value.string ⟨#[]⟩, .int .i64 0, .int .i64 0, .slice none 0 0, .slice none 0 0, .int .i64 0, .slice none 0 0] (n * 7)).size := by rw [size_madeCells]; exact hi
    rw [Array.getElem?_eq_getElem hs]
    simp only [madeCells, Array.getElem_ofFn]
    have : i % 7 = 0 ∨ i % 7 = 1 ∨ i % 7 = 2 ∨ i % 7 = 3 ∨ i % 7 = 4 ∨ i % 7 = 5 ∨ i % 7 = 6 := by omega
    rcases this with h | h | h | h | h | h | h <;> simp [h, zero1]
  · rw [List.getElem?_eq_none (by rw [Array.length_toList, size_madeCells]; omega), List.getElem?_eq_none (by rw [zerosC_len]; omega)]
theorem set7 {pre rest : List Value} {z0 z1 z2 z3 z4 z5 z6 : Value} (v0 v1 v2 v3 v4 v5 v6 : Value) {k : Nat} (hk : pre.length = k * 7) :
    (((((((pre ++ (z0 :: z1 :: z2 :: z3 :: z4 :: z5 :: z6 :: rest)).set (k * 7) v0).set (k * 7 + 1) v1).set (k * 7 + 2) v2).set (k * 7 + 3) v3).set (k * 7 + 4) v4).set (k * 7 + 5) v5).set (k * 7 + 6) v6 = pre ++ (v0 :: v1 :: v2 :: v3 :: v4 :: v5 :: v6 :: rest) := by
  rw [← hk]
  simp [List.set_append_right]
/-- The lists of the crowds, one behind another. -/
def Chain (w : World) : Nat → Nat → List Sv → List Hd → Prop
  | lo, hi, c :: cs, h :: hs => ∃ m, (lo ≤ m ∧ m ≤ hi) ∧ OwnSaved w lo m h.1 h.2.1 c.A h.2.2.1 h.2.2.2.1 c.B h.2.2.2.2.1 h.2.2.2.2.2 c.W ∧ Chain w m hi cs hs
  | lo, hi, _, _ => lo ≤ hi
theorem Chain.le {w : World} : ∀ {cs : List Sv} {hs : List Hd} {lo hi : Nat}, Chain w lo hi cs hs → lo ≤ hi
  | c :: cs, h :: hs, lo, hi, hc => by obtain ⟨m, hm, _, _⟩ := hc; omega
  | [], _, lo, hi, hc => by unfold Chain at hc; exact hc
  | _ :: _, [], lo, hi, hc => by unfold Chain at hc; exact hc
theorem Chain.keep {w w' : World} (hb : Below w.heap.size w w') : ∀ {cs : List Sv} {hs : List Hd} {lo hi : Nat}, Chain w lo hi cs hs → Chain w' lo hi cs hs
  | c :: cs, h :: hs, lo, hi, hc => by
    obtain ⟨m, hm, ho, hr⟩ := hc
    exact ⟨m, hm, ho.keep hb, Chain.keep hb hr⟩
  | [], _, lo, hi, hc => by unfold Chain at hc ⊢; exact hc
  | _ :: _, [], lo, hi, hc => by unfold Chain at hc ⊢; exact hc
theorem Chain.touch {w w' : World} {lo' hi' : Nat} (ht : Touch w w' lo' hi') : ∀ {cs : List Sv} {hs : List Hd} {lo hi : Nat}, Chain w lo hi cs hs → (hi ≤ lo' ∨ hi' ≤ lo) → Chain w' lo hi cs hs
  | c :: cs, h :: hs, lo, hi, hc, hd => by
    obtain ⟨m, hm, ho, hr⟩ := hc
    have := hr.le
    exact ⟨m, hm, ho.touch ht (by omega), Chain.touch ht hr (by omega)⟩
  | [], _, lo, hi, hc, _ => by unfold Chain at hc ⊢; exact hc
  | _ :: _, [], lo, hi, hc, _ => by unfold Chain at hc ⊢; exact hc
theorem Chain.hi {w : World} : ∀ {cs : List Sv} {hs : List Hd} {lo hi hi' : Nat}, Chain w lo hi cs hs → hi ≤ hi' → Chain w lo hi' cs hs
  | c :: cs, h :: hs, lo, hi, hi', hc, hh => by
    obtain ⟨m, hm, ho, hr⟩ := hc
    exact ⟨m, by omega, ho, Chain.hi hr hh⟩
  | [], _, lo, hi, hi', hc, hh => by unfold Chain at hc ⊢; omega
  | _ :: _, [], lo, hi, hi', hc, hh => by unfold Chain at hc ⊢; omega
theorem Chain.snoc {w : World} {c : Sv} {h : Hd} {m hi : Nat} : ∀ {cs : List Sv} {hs : List Hd} {lo : Nat}, cs.length = hs.length → Chain w lo m cs hs → OwnSaved w m hi h.1 h.2.1 c.A h.2.2.1 h.2.2.2.1 c.B h.2.2.2.2.1 h.2.2.2.2.2 c.W → Chain w lo hi (cs ++ [c]) (hs ++ [h])
  | [], [], lo, _, hc, ho => by
    unfold Chain at hc
    have := ho.le
    exact ⟨hi, by omega, ho.mono (by omega), by unfold Chain; omega⟩
  | c0 :: cs, h0 :: hs, lo, hl, hc, ho => by
    obtain ⟨m', hm, ho', hr⟩ := hc
    have := ho.le
    exact ⟨m', by omega, ho', Chain.snoc (by simpa using hl) hr ho⟩
  | [], _ :: _, _, hl, _, _ => by simp at hl
  | _ :: _, [], _, hl, _, _ => by simp at hl
/-- A list of crowds of its own: the block of the crowds first, their lists behind it. -/
def OwnSs (w : World) (lo hi : Nat) (a : Option Addr) (cs : List Sv) : Prop := ∃ hs : List Hd, cs.length = hs.length ∧ a = some ⟨lo, 0, none⟩ ∧ lo < w.heap.size ∧ Blk w lo (flatC cs hs) 34 ∧ Chain w (lo + 1) hi cs hs ∧ hi ≤ w.heap.size
theorem OwnSs.keep {w w' : World} {lo hi : Nat} {a : Option Addr} {cs : List Sv} (h : OwnSs w lo hi a cs) (hb : Below w.heap.size w w') : OwnSs w' lo hi a cs := by
  obtain ⟨hs, hl, ha, hlo, hk, hc, hh⟩ := h
  exact ⟨hs, hl, ha, Nat.lt_of_lt_of_le hlo hb.size, hk.same hb, hc.keep hb, Nat.le_trans hh hb.size⟩
theorem OwnSs.touch {w w' : World} {lo hi lo' hi' : Nat} {a : Option Addr} {cs : List Sv} (h : OwnSs w lo hi a cs) (ht : Touch w w' lo' hi') (hd : hi ≤ lo' ∨ hi' ≤ lo) : OwnSs w' lo hi a cs := by
  obtain ⟨hs, hl, ha, hlo, hk, hc, hh⟩ := h
  have := hc.le
  exact ⟨hs, hl, ha, Nat.lt_of_lt_of_le hlo ht.size, hk.touch ht (by omega), hc.touch ht (by omega), Nat.le_trans hh ht.size⟩
theorem flatC_get : ∀ {cs : List Sv} {hs : List Hd} {k : Nat} {c : Sv} {h : Hd}, cs[k]? = some c → hs[k]? = some h → ∀ j, j < 7 → (flatC cs hs)[k * 7 + j]? = (cells1 c h)[j]?
  | c0 :: cs, h0 :: hs, 0, c, h, hc, hh, j, hj => by
    simp only [List.getElem?_cons_zero, Option.some.injEq] at hc hh
    subst hc hh
    rw [flatC, Nat.zero_mul, Nat.zero_add, List.getElem?_append_left (by simp [cells1]; omega)]
  | c0 :: cs, h0 :: hs, k + 1, c, h, hc, hh, j, hj => by
    rw [flatC, List.getElem?_append_right (by simp [cells1]; omega)]
    have e : (k + 1) * 7 + j - (cells1 c0 h0).length = k * 7 + j := by simp [cells1]; omega
    rw [e]
    exact flatC_get (by simpa using hc) (by simpa using hh) j hj
  | [], _, k, c, h, hc, _, _, _ => by simp at hc
  | _ :: _, [], k, c, h, _, hh, _, _ => by simp at hh
theorem Chain.at {w : World} : ∀ {cs : List Sv} {hs : List Hd} {lo hi k : Nat} {c : Sv} {h : Hd}, Chain w lo hi cs hs → cs[k]? = some c → hs[k]? = some h → RdSaved w hi h.1 c.A h.2.2.1 c.B h.2.2.2.2.1 c.W
  | c0 :: cs, h0 :: hs, lo, hi, 0, c, h, hc, e1, e2 => by
    simp only [List.getElem?_cons_zero, Option.some.injEq] at e1 e2
    subst e1 e2
    obtain ⟨m, hm, ho, hr⟩ := hc
    exact ho.rdH.mono hm.2
  | c0 :: cs, h0 :: hs, lo, hi, k + 1, c, h, hc, e1, e2 => by
    obtain ⟨m, hm, ho, hr⟩ := hc
    exact Chain.at hr (by simpa using e1) (by simpa using e2)
  | [], _, _, _, _, _, _, _, e1, _ => by simp at e1
  | _ :: _, [], _, _, _, _, _, _, _, e2 => by simp at e2
theorem OwnSs.rd {w : World} {lo hi : Nat} {a : Option Addr} {cs : List Sv} (h : OwnSs w lo hi a cs) : RdSs w w.heap.size a cs := by
  obtain ⟨hs, hl, ha, hlo, hk, hc, hh⟩ := h
  refine .inr ⟨lo, 0, ha, hlo, fun k c hc' => ?_⟩
  have hkl : k < hs.length := by rw [← hl]; exact (List.getElem?_eq_some_iff.1 hc').1
  have hh' : hs[k]? = some hs[k] := List.getElem?_eq_getElem hkl
  refine ⟨hs[k].1, hs[k].2.1, hs[k].2.2.1, hs[k].2.2.2.1, hs[k].2.2.2.2.1, hs[k].2.2.2.2.2, ?_, ?_, ?_, ?_, ?_, ?_, ?_, (hc.at hc' hh').mono hh⟩
  all_goals rw [Nat.zero_add]
  · rw [show k * 7 = k * 7 + 0 from rfl, hk.cell, flatC_get hc' hh' 0 (by omega)]; rfl
  · rw [hk.cell, flatC_get hc' hh' 1 (by omega)]; rfl
  · rw [hk.cell, flatC_get hc' hh' 2 (by omega)]; rfl
  · rw [hk.cell, flatC_get hc' hh' 3 (by omega)]; rfl
  · rw [hk.cell, flatC_get hc' hh' 4 (by omega)]; rfl
  · rw [hk.cell, flatC_get hc' hh' 5 (by omega)]; rfl
  · rw [hk.cell, flatC_get hc' hh' 6 (by omega)]; rfl
theorem info_saved : (Try.prog.info? 34).map (fun i => (i.zero, i.size, i.bytes)) = some (some (.agg #[.string ⟨#[]⟩, .int .i64 0, .int .i64 0, .slice none 0 0, .slice none 0 0, .int .i64 0, .slice none 0 0]), 7, 112) := by kernel_rfl
theorem flatC_take {cs : List Sv} {hs : List Hd} {k : Nat} {c : Sv} (hc : cs[k]? = some c) (hl : (cs.take k).length = hs.length) (h : Hd) : flatC (cs.take (k + 1)) (hs ++ [h]) = flatC (cs.take k) hs ++ cells1 c h := by
  rw [List.take_add_one, hc]
  exact flatC_snoc _ _ _ _ hl
theorem setc_grownS (w : World) (g j : Nat) (u : Value) : w.grownBy (w.setCell ⟨g, j, none⟩ u) (some g) := ⟨rfl, rfl, rfl, by simp, fun i _ hi => Below.heap_setCell _ _ _ _ (fun e => hi (by simp [e]))⟩
theorem touch_set (w : World) (g j : Nat) (u : Value) : Touch w (w.setCell ⟨g, j, none⟩ u) g (g + 1) := Touch.of_grown (setc_grownS w g j u) (Nat.le_refl _) (Nat.lt_succ_self _)
set_option maxRecDepth 10000 in
set_option maxHeartbeats 4000000 in
theorem lawTo_SavedS (w : World) (B : Nat) (a : Option Addr) (cp : Nat) (cs : List Sv) (h : RdSs w B a cs) (hB : B ≤ w.heap.size) (hl : cs.length ≤ 1048576) (hin : ∀ c ∈ cs, SvIn 1048576 c) :
    Calls Try.prog 17 #[.slice a cs.length cp] w fun e w' => ∃ a' c', e = .returned (.slice a' cs.length c') ∧ OwnSs w' w.heap.size w'.heap.size a' cs ∧ Below w.heap.size w w' := by
  have Hh := Lib.hid (h.mono hB)
  have Hin := Lib.hid hin
  obtain ⟨n, hn⟩ : ∃ n, n = cs.length := ⟨_, rfl⟩
  have HN := Lib.hid hn
  clear h hin
  rw [← hn] at hl ⊢
  clear hn
  go_enter Try.func17, Try.ntmps17
  go_wp2_with (at_make; refine wpList_make_cells _ rfl _ _ 41 rfl 34 (.agg #[.string ⟨#[]⟩, .int .i64 0, .int .i64 0, .slice none 0 0, .slice none 0 0, .int .i64 0, .slice none 0 0]) 7 112 Try.underlying41 info_saved _ _ n rfl rfl (by omega) (by unfold maxLen; omega) ?_)
  intro w1 hb1 hw1 hs1
  rw [made_zeros] at hb1
  have K1 : Hid (Blk w1 w.heap.size (flatC (cs.take 0) [] ++ zerosC (n - 0)) 34) := by simpa [flatC, Hid] using hb1
  have C1 : Hid (Chain w1 (w.heap.size + 1) w1.heap.size (cs.take 0) []) := by simp [Hid, Chain, hs1]
  have s1 : w.heap.size < w1.heap.size := by omega
  clear hb1 hs1
  go_wp2_with fail
  go_loopw [4] (fun i wr => ∃ (k : Nat) (hs : List Hd), k ≤ n ∧ i = .int .i64 k ∧ Hid ((cs.take k).length = hs.length) ∧ Hid (Blk wr w.heap.size (flatC (cs.take k) hs ++ zerosC (n - k)) 34) ∧ Hid (Chain wr (w.heap.size + 1) wr.heap.size (cs.take k) hs) ∧ Below w.heap.size w wr ∧ w.heap.size < wr.heap.size) (fun i _ => n - (intOf i).toNat)
  case atStart => exact ⟨0, [], Nat.zero_le _, rfl, rfl, K1.out, C1.out, hw1, s1⟩
  case round =>
    clear K1 C1 hw1 s1
    obtain ⟨k, hs, hk, rfl, hlk, hK, hC, hw, hsz⟩ := hrel
    by_cases hlt : k < n
    · obtain ⟨c, hc⟩ : ∃ c, cs[k]? = some c := ⟨cs[k]'(by rw [← HN.out]; exact hlt), by simp⟩
      obtain ⟨b, o, aA, cA, aB, cB, aW, cW, rfl, hb, e0, e1, e2, e3, e4, e5, e6, hr⟩ := (Hh.out.below hw (Nat.le_refl _)).get hc
      obtain ⟨m0, m1, m2, m3⟩ := Hin.out c (List.mem_of_getElem? hc)
      have LT := Lib.hid (lawTo_Saved wr c.s c.R c.C c.P aA cA c.A aB cB c.B aW cW c.W (hr.mono hw.size) m1 m2 m3)
      have Hc := Lib.hid hc
      have hzs : Hid (zerosC (n - k) = zero1 ++ zerosC (n - (k + 1))) := by
        show _ = _
        rw [show n - k = (n - (k + 1)) + 1 by omega, zerosC]
      have hfl : Hid ((flatC (cs.take k) hs).length = k * 7) := by
        show _ = _
        rw [flatC_len _ _ hlk.out, List.length_take, ← HN.out]
        congr 1
        omega
      have hk0 : (0 : Int) ≤ (k : Int) := Int.natCast_nonneg _
      have hk1 : (k : Int) < (n : Int) := by omega
      clear hr hc
      go_wp2_with fail
      refine LT.out.mono ?_
      rintro e w2 ⟨bA, dA, bB, dB, bW, dW, rfl, o2, hb2⟩
      have k2 := hK.out.same hb2
      have C2 := hC.out.keep hb2
      have B2 := hw.trans (hb2.mono hw.size)
      have s2 := hb2.size
      rw [hzs.out] at k2
      have g0 : w2.cell? ⟨w.heap.size, k * 7, none⟩ = some (.string ⟨#[]⟩) := by
        rw [k2.cell, List.getElem?_append_right (by rw [hfl.out]; exact Nat.le_refl _), hfl.out, Nat.sub_self]; rfl
      have g1 : w2.cell? ⟨w.heap.size, k * 7 + 1, none⟩ = some (.int .i64 0) := by
        rw [k2.cell, List.getElem?_append_right (by rw [hfl.out]; omega), hfl.out, Nat.add_sub_cancel_left]; rfl
      have g2 : w2.cell? ⟨w.heap.size, k * 7 + 2, none⟩ = some (.int .i64 0) := by
        rw [k2.cell, List.getElem?_append_right (by rw [hfl.out]; omega), hfl.out, Nat.add_sub_cancel_left]; rfl
      have g3 : w2.cell? ⟨w.heap.size, k * 7 + 3, none⟩ = some (.slice none 0 0) := by
        rw [k2.cell, List.getElem?_append_right (by rw [hfl.out]; omega), hfl.out, Nat.add_sub_cancel_left]; rfl
      have g4 : w2.cell? ⟨w.heap.size, k * 7 + 4, none⟩ = some (.slice none 0 0) := by
        rw [k2.cell, List.getElem?_append_right (by rw [hfl.out]; omega), hfl.out, Nat.add_sub_cancel_left]; rfl
      have g5 : w2.cell? ⟨w.heap.size, k * 7 + 5, none⟩ = some (.int .i64 0) := by
        rw [k2.cell, List.getElem?_append_right (by rw [hfl.out]; omega), hfl.out, Nat.add_sub_cancel_left]; rfl
      have g6 : w2.cell? ⟨w.heap.size, k * 7 + 6, none⟩ = some (.slice none 0 0) := by
        rw [k2.cell, List.getElem?_append_right (by rw [hfl.out]; omega), hfl.out, Nat.add_sub_cancel_left]; rfl
      have f0 := k2.free (k * 7)
      have f1 := k2.free (k * 7 + 1)
      have f2 := k2.free (k * 7 + 2)
      have f3 := k2.free (k * 7 + 3)
      have f4 := k2.free (k * 7 + 4)
      have f5 := k2.free (k * 7 + 5)
      have f6 := k2.free (k * 7 + 6)
      have K2 := Lib.hid k2
      have CC := Lib.hid C2
      have OO := Lib.hid o2
      clear LT e0 e1 e2 e3 e4 e5 e6 m0 m1 m2 m3 k2 C2 o2 hb2 hK hC hw
      go_wp2_with fail
      go_roundw
      case rel =>
        have q4 := (((((((K2.out).set (k * 7) (.string c.s)).set (k * 7 + 1) (.int .i64 c.R)).set (k * 7 + 2) (.int .i64 c.C)).set (k * 7 + 3) (.slice bA c.A.length dA)).set (k * 7 + 4) (.slice bB c.B.length dB)).set (k * 7 + 5) (.int .i64 c.P)).set (k * 7 + 6) (.slice bW c.W.length dW)
        rw [zero1, List.cons_append, List.cons_append, List.cons_append, List.cons_append, List.cons_append, List.cons_append, List.cons_append, List.nil_append, set7 _ _ _ _ _ _ _ hfl.out] at q4
        have t4 := ((((((touch_set w2 w.heap.size (k * 7) (.string c.s)).trans (touch_set _ w.heap.size (k * 7 + 1) (.int .i64 c.R))).trans (touch_set _ w.heap.size (k * 7 + 2) (.int .i64 c.C))).trans (touch_set _ w.heap.size (k * 7 + 3) (.slice bA c.A.length dA))).trans (touch_set _ w.heap.size (k * 7 + 4) (.slice bB c.B.length dB))).trans (touch_set _ w.heap.size (k * 7 + 5) (.int .i64 c.P))).trans (touch_set _ w.heap.size (k * 7 + 6) (.slice bW c.W.length dW))
        have ch := (CC.out.touch t4 (.inr (Nat.le_refl _))).snoc (c := c) (h := (bA, dA, bB, dB, bW, dW)) hlk.out (OO.out.touch t4 (.inr (by omega)))
        have bb := below_sto (below_sto (below_sto (below_sto (below_sto (below_sto (below_sto (B2) (g := w.heap.size) (Nat.le_refl _) (k * 7) (.string c.s)) (g := w.heap.size) (Nat.le_refl _) (k * 7 + 1) (.int .i64 c.R)) (g := w.heap.size) (Nat.le_refl _) (k * 7 + 2) (.int .i64 c.C)) (g := w.heap.size) (Nat.le_refl _) (k * 7 + 3) (.slice bA c.A.length dA)) (g := w.heap.size) (Nat.le_refl _) (k * 7 + 4) (.slice bB c.B.length dB)) (g := w.heap.size) (Nat.le_refl _) (k * 7 + 5) (.int .i64 c.P)) (g := w.heap.size) (Nat.le_refl _) (k * 7 + 6) (.slice bW c.W.length dW)
        refine ⟨k + 1, hs ++ [(bA, dA, bB, dB, bW, dW)], by omega, by go_num, ?_, ?_, ?_, bb, by simp; omega⟩
        · show _ = _
          rw [List.take_add_one, Hc.out]
          simp [hlk.out]
        · show Blk _ _ _ _
          rw [flatC_take Hc.out hlk.out]
          simpa [cells1] using q4
        · show Chain _ _ _ _ _
          rw [List.take_add_one, Hc.out]
          simpa using ch
      case measure => simp [intOf]; omega
    · have : k = n := by omega
      subst this
      have HO : Hid (OwnSs wr w.heap.size wr.heap.size (some ⟨w.heap.size, 0, none⟩) cs) := by
        have e : cs.take k = cs := List.take_of_length_le (by rw [← HN.out]; exact Nat.le_refl _)
        have h1 := hlk.out
        have h2 := hK.out
        have h3 := hC.out
        rw [e] at h1 h2 h3
        rw [Nat.sub_self, zerosC, List.append_nil] at h2
        exact ⟨hs, h1, rfl, hsz, h2, h3, Nat.le_refl _⟩
      clear hK hC
      go_wp2_with fail
      go_ret
      exact ⟨_, _, rfl, HO.out, hw⟩
end Go.Proofs.Yteclpcmbicjjgaa
