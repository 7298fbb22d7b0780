/-
  l07All of the reference: all orders by insertion.
-/
import Derived.Test.YthbclfaeplmjgaaPerm
import Derived.Test.YthbclfaeplmjgaaOwnLL
import Derived.Test.YthbclfaeplmjgaaLawInts
import Derived.Outline
namespace Go.Proofs.Ythbclfaeplmjgaa
set_option linter.unusedVariables false
set_option linter.unusedSimpArgs false
open Go.RowKit

theorem OwnI.cells {T lo hi c g : Nat} {w : World} {xs : List Int} (h : OwnI T w lo hi (some ⟨g, 0, none⟩) c xs) : ∀ j, j < xs.length → w.cell? ⟨g, j, none⟩ = some (.int .i64 (xs.getD j 0)) := by
  intro j hj
  obtain ⟨b, o, e, _, hc⟩ := h.rd.at hj
  injection e with e
  injection e with e1 e2
  subst e1 e2
  have := hc j hj
  rwa [Nat.zero_add] at this
theorem own_some' {w : World} {base e n c : Nat} {a : Option Addr} {xs : List Value} (h : w.ownsRow base e 1 (.slice a n c) n xs) (hn : 0 < n) : ∃ g, a = some ⟨g, 0, none⟩ := by
  rcases h.2 with ⟨_, h3⟩ | ⟨g, cap, cur, hv, _⟩
  · omega
  · injection hv with ha _ _; exact ⟨g, ha⟩
theorem append_many {P : Program} (wr : World) {ops : Array Oper} {rest : List Oper} {o : Oper} {a : Act} {Q : Exit → Act → World → Prop}
    (hg : o.guard = none) (s x : Operand) (t : TypeId) (hop : o.op = Op.call { callee := Callee.builtin Builtin.append, args := #[s, x], argTypes := #[t, t] })
    (base : Nat) (e : TypeId) (z : Value) (bytes : Nat) (h1 : P.underlying t = some (.slice e)) (hinfo : (P.info? e).map (fun i => (i.zero, i.size, i.bytes)) = some (some z, 1, bytes)) (hz : z.cells.size = 1)
    (v : Value) (n : Nat) (xs : List Int) (hs : a.eval s = v) (hown : wr.ownsRow base e 1 v n (ints xs)) (b off m c : Nat) (ys : List Int) (hx : a.eval x = .slice (some ⟨b, off, none⟩) m c) (hm : ys.length = m)
    (hcell : ∀ j, j < m → wr.cell? ⟨b, off + j, none⟩ = some (.int .i64 (ys.getD j 0))) (hb : bytes ≤ 64) (hn : n + m ≤ 1099511627776) (hbase : base ≤ wr.heap.size)
    (hK : ∀ v' w', w'.ownsRow base e 1 v' (n + m) (ints (xs ++ ys)) → wr.grownBy w' v.ownBlock → wpList P ops Q rest (a.put o.dst v') w') :
    wpList P ops Q (o :: rest) a wr := by
  obtain ⟨i, h2, h3, h4, h5⟩ := info_parts hinfo
  have hbb : (n + m) * bytes ≤ 140737488355328 := Nat.le_trans (Nat.mul_le_mul_left (n + m) hb) (by omega)
  refine wpList_append_own wr hg s x t hop base e i z 1 bytes h1 h2 h3 h4 h5 hz (by omega) v n (ints xs) hs hown ⟨b, off, none⟩ m c (ints ys) hx (by simp <;> omega) ?_ ?_ (by unfold maxLen; omega) hbb hbase (fun v' w' ho hgr _ => hK v' w' (by rw [ints_append]; exact ho) hgr)
  · intro j u hj
    have hj' : j < m := by have := (List.getElem?_eq_some_iff.1 hj).1; simp at this; omega
    have ea : (⟨b, off, none⟩ : Addr).add j = ⟨b, off + j, none⟩ := by unfold Addr.add; split <;> simp_all
    rw [ea, hcell j hj', ← hj, ints_get _ _ (by omega)]
  · intro u hu
    obtain ⟨x, _, rfl⟩ := List.mem_map.1 hu
    rfl
def insRow (k : Nat) (o : List Int) (i : Nat) : List Int := o.take i ++ [(k : Int)] ++ o.drop i
theorem insAll_succ (k : Nat) : insAll (k + 1) = (insAll k).flatMap fun o => (List.range (o.length + 1)).map (insRow k o) := rfl
theorem insAll_len : ∀ (k : Nat), ∀ o ∈ insAll k, o.length = k
  | 0, o, h => by simp [insAll] at h; subst h; rfl
  | k + 1, o, h => by
    rw [insAll_succ, List.mem_flatMap] at h
    obtain ⟨p, hp, hq⟩ := h
    obtain ⟨i, hi, rfl⟩ := List.mem_map.1 hq
    have := insAll_len k p hp
    have := List.mem_range.1 hi
    simp [insRow]; omega
/-- What has been put together behind i orders and t places of the next one. -/
def insPart (k i t : Nat) : List (List Int) := ((insAll k).take i).flatMap (fun o => (List.range (o.length + 1)).map (insRow k o)) ++ (List.range t).map (insRow k ((insAll k).getD i []))
theorem insPart_len (k i t : Nat) : (insPart k i t).length ≤ i * (k + 1) + t := by
  have : ∀ L : List (List Int), (∀ o ∈ L, o.length = k) → (L.flatMap (fun o => (List.range (o.length + 1)).map (insRow k o))).length = L.length * (k + 1) := by
    intro L
    induction L with
    | nil => intro _; simp
    | cons o L ih =>
      intro h
      rw [List.flatMap_cons, List.length_append, ih (fun p hp => h p (by simp [hp])), List.length_cons, Nat.add_mul]
      simp [h o (by simp)]; omega
  rw [insPart, List.length_append, this _ (fun o ho => insAll_len k o (List.mem_of_mem_take ho))]
  simp
  exact Nat.mul_le_mul_right _ (Nat.min_le_left _ _)
theorem insPart_zero (k : Nat) : insPart k 0 0 = [] := by simp [insPart]
theorem insPart_snoc (k i t : Nat) : insPart k i (t + 1) = insPart k i t ++ [insRow k ((insAll k).getD i []) t] := by simp [insPart, List.range_succ]
theorem insPart_next (k i : Nat) (hi : i < (insAll k).length) : insPart k i (k + 1) = insPart k (i + 1) 0 := by
  have e : (insAll k)[i]? = some ((insAll k).getD i []) := by simp [List.getD, List.getElem?_eq_getElem hi]
  have hl : ((insAll k).getD i []).length = k := insAll_len k _ (List.mem_of_getElem? e)
  simp only [insPart, List.take_add_one, e, List.flatMap_append, Option.toList_some, List.range_zero, List.map_nil, List.append_nil, List.flatMap_cons, List.flatMap_nil, hl]
theorem insPart_all (k : Nat) : insPart k (insAll k).length 0 = insAll (k + 1) := by
  rw [insPart, List.take_length, insAll_succ]; simp
theorem info_intsA : (Try.prog.info? 22).map (fun i => (i.zero, i.size, i.bytes)) = some (some (.slice none 0 0), 1, 24) := by kernel_rfl
theorem info_i64A : (Try.prog.info? 2).map (fun i => (i.zero, i.size, i.bytes)) = some (some (.int .i64 0), 1, 8) := by kernel_rfl
set_option maxRecDepth 10000 in
set_option maxHeartbeats 8000000 in
theorem l07All_any (w : World) (n : Nat) (hn : n ≤ 6) :
    Calls Try.prog 77 #[.int .i64 n] w fun e w' => ∃ a c, e = .returned (.slice a (insAll n).length c) ∧ OwnLL 2 22 w' w.heap.size w'.heap.size a c (insAll n) ∧ Below w.heap.size w w' := by
  go_enter Try.func77, Try.ntmps77
  go_wp2_with fail
  have h0 : Hid (OwnRows 2 22 ((w.alloc (.cells #[] 2)).alloc (.cells #[.slice (some ⟨w.heap.size, 0, none⟩) 0 0] 22)) w.heap.size ((w.alloc (.cells #[] 2)).alloc (.cells #[.slice (some ⟨w.heap.size, 0, none⟩) 0 0] 22)).heap.size (.slice (some ⟨w.heap.size + 1, 0, none⟩) 1 1) [.slice (some ⟨w.heap.size, 0, none⟩) 0 0] (insAll 0)) := by
    have e1 := (Blk.new w [] 2).alloc (.cells #[.slice (some ⟨w.heap.size, 0, none⟩) 0 0] 22)
    have e2 := Blk.new (w.alloc (.cells #[] 2)) [.slice (some ⟨w.heap.size, 0, none⟩) 0 0] 22
    rw [show (w.alloc (.cells #[] 2)).heap.size = w.heap.size + 1 by simp] at e2
    refine ⟨?_, fun g hg => ?_, fun j ys hj => ?_, fun j v hj => ?_, fun i j v v' hij hi hj => ?_⟩
    · have := e2.owns (base := w.heap.size) (by omega) (by unfold maxLen; simp)
      simpa [insAll] using this
    · simp [Value.ownBlock] at hg
      simp; omega
    · have : j = 0 := by have := (List.getElem?_eq_some_iff.1 hj).1; simp [insAll] at this; exact this
      subst this
      simp [insAll] at hj
      subst hj
      refine ⟨w.heap.size, 0, rfl, ?_⟩
      have := (OwnI.of_blk (xs := []) e1 (by simp)).mono (lo' := w.heap.size) (Nat.le_refl _) (hi' := ((w.alloc (.cells #[] 2)).alloc (.cells #[.slice (some ⟨w.heap.size, 0, none⟩) 0 0] 22)).heap.size) (by simp <;> omega)
      exact this
    · have : j = 0 := by have := (List.getElem?_eq_some_iff.1 hj).1; simpa using this
      subst this
      simp at hj
      subst hj
      intro q hq e
      simp [Value.ownBlock] at hq e
      omega
    · have := (List.getElem?_eq_some_iff.1 hi).1
      have := (List.getElem?_eq_some_iff.1 hj).1
      simp at *
      omega
  go_loopw [4, 3] (fun kk uu wr => ∃ (k : Nat) (a : Option Addr) (c : Nat) (vs : List Value), k ≤ n ∧ kk = .int .i64 k ∧ uu = .slice a (insAll k).length c ∧ Hid (OwnRows 2 22 wr w.heap.size wr.heap.size (.slice a (insAll k).length c) vs (insAll k)) ∧ Below w.heap.size w wr) (fun kk _ _ => n - (intOf kk).toNat)
  case atStart => exact ⟨0, some ⟨w.heap.size + 1, 0, none⟩, 1, _, Nat.zero_le _, rfl, rfl, h0, bl2 w _ _⟩
  case round =>
    clear h0
    obtain ⟨k, a, c, vs, hk, rfl, rfl, hO, hw⟩ := hrel
    have hL := insAll_length k (by omega)
    by_cases hlt : k < n
    · obtain ⟨L, hLe⟩ : ∃ L, L = (insAll k).length := ⟨_, rfl⟩
      rw [← hLe] at hO hL ⊢
      have HLe := Lib.hid hLe
      clear hLe
      have hW0 := hw.size
      have HN0 : Hid (OwnRows 2 22 (wr.alloc (.cells #[] 22)) wr.heap.size (wr.alloc (.cells #[] 22)).heap.size (.slice (some ⟨wr.heap.size, 0, none⟩) 0 0) [] (insPart k 0 0)) := by
        rw [insPart_zero]
        exact OwnRows.start (own_empty wr 22)
      obtain ⟨w0, rfl⟩ : ∃ w0 : World, w0 = wr := ⟨_, rfl⟩
      go_wp2_with fail
      go_loopw [19, 5] (fun ii uu wi => ∃ (i : Nat) (a2 : Option Addr) (c2 m2 : Nat) (vs2 : List Value), i ≤ L ∧ ii = .int .i64 i ∧ uu = .slice a2 m2 c2 ∧ Hid (m2 = (insPart k i 0).length) ∧ Hid (OwnRows 2 22 wi w0.heap.size wi.heap.size (.slice a2 (insPart k i 0).length c2) vs2 (insPart k i 0)) ∧ Below w0.heap.size w0 wi) (fun ii _ _ => L - (intOf ii).toNat)
      case atStart => exact ⟨0, _, 0, 0, _, Nat.zero_le _, rfl, rfl, (by rw [insPart_zero]; rfl), (by have := HN0.out; rw [insPart_zero] at this ⊢; exact this), bl1 w0 _⟩
      case round =>
        clear HN0
        obtain ⟨i, a2, c2, m2, vs2, hi, rfl, rfl, hm2, hN, hwi⟩ := hrel
        by_cases hil : i < L
        · obtain ⟨ys, hys⟩ : ∃ ys, (insAll k)[i]? = some ys := ⟨(insAll k)[i]'(by rw [← HLe.out]; exact hil), List.getElem?_eq_getElem _⟩
          have hyk : ys.length = k := insAll_len k ys (List.mem_of_getElem? hys)
          have hyd : (insAll k).getD i [] = ys := by simp [List.getD, hys]
          have Hyk := Lib.hid hyk
          have Hyd := Lib.hid hyd
          have HO := hO.out.out
          rw [← HLe.out] at HO
          obtain ⟨gr, cr, hvr, hor⟩ := hO.out.row i ys hys
          have hcr := hor.cap
          obtain ⟨gO, rfl⟩ := own_some' HO (by omega)
          obtain ⟨cO, hcO⟩ : ∃ cO, w0.cell? ⟨gO, i, none⟩ = some cO ∧ cO = .slice (some ⟨gr, 0, none⟩) ys.length cr := by
            rcases rd_of_own HO (Nat.le_refl _) with h' | ⟨b, o, e, hb, hc⟩
            · rw [h'] at hvr; simp at hvr
            · injection e with e
              injection e with e1 e2
              subst e1 e2
              have := hc i (by have := (List.getElem?_eq_some_iff.1 hvr).1; exact this)
              rw [Nat.zero_add, hvr] at this
              exact ⟨_, this, rfl⟩
          obtain ⟨hcO, rfl⟩ := hcO
          rw [hyk] at hcO hcr
          have hgO : gO < w0.heap.size := (HO.lt gO rfl).2
          have hgr : gr < w0.heap.size := hor.2 _ rfl
          have hcO2 := (hwi.cell (p := ⟨gO, i, none⟩) hgO).trans hcO
          have Hor := Lib.hid hor
          clear hys hyk hyd hvr hor HO
          have hwi0 := hwi
          obtain ⟨w1, rfl⟩ : ∃ w1 : World, w1 = wr := ⟨_, rfl⟩
          go_wp2_with fail
          go_loopw [7, 5] (fun tt uu wj => ∃ (t : Nat) (a3 : Option Addr) (c3 m3 : Nat) (vs3 : List Value), t ≤ k + 1 ∧ tt = .int .i64 t ∧ uu = .slice a3 m3 c3 ∧ Hid (m3 = (insPart k i t).length) ∧ Hid (OwnRows 2 22 wj w0.heap.size wj.heap.size (.slice a3 (insPart k i t).length c3) vs3 (insPart k i t)) ∧ Below w0.heap.size w0 wj) (fun tt _ _ => k + 1 - (intOf tt).toNat)
          case atStart => exact ⟨0, a2, c2, m2, vs2, Nat.zero_le _, rfl, rfl, hm2, hN, hwi0⟩
          case round =>
            clear hN hm2 hwi hwi0 hcO2
            obtain ⟨t, a3, c3, m3, vs3, ht, rfl, rfl, hm3, hN, hwi⟩ := hrel
            have hcO2 := (hwi.cell (p := ⟨gO, i, none⟩) hgO).trans hcO
            by_cases htk : t ≤ k
            · obtain ⟨w2, rfl⟩ : ∃ w2 : World, w2 = wr := ⟨_, rfl⟩
              have hcl : Hid (∀ j, j < k → w0.cell? ⟨gr, j, none⟩ = some (.int .i64 (ys.getD j 0))) := fun j hj => Hor.out.cells j (by rw [Hyk.out]; exact hj)
              have hsz2 := hwi.size
              have hpl : Hid ((insPart k i t).length ≤ i * (k + 1) + t) := insPart_len k i t
              have hm720 : m3 ≤ 5767 := by
                have h1 := hpl.out
                have h2 : i * (k + 1) ≤ 720 * 8 := Nat.mul_le_mul (by omega) (by omega)
                have h3 := hm3.out
                omega
              have HN := Lib.hid hN.out
              have hNo := hN.out.out
              rw [← hm3.out] at hNo
              have HNo := Lib.hid hNo
              have HcO := Lib.hid hcO
              clear hN hNo
              have htcr : t ≤ cr := by omega
              have hgO2 : gO < w2.heap.size := by omega
              have hne2 : gO ≠ w2.heap.size := by omega
              by_cases hcap : t < cr
              all_goals
                go_wp2_with (at_builtin; refine append_many _ rfl _ _ 22 rfl w2.heap.size 2 (.int .i64 0) 8 Try.underlying22 info_i64A rfl _ 0 [] rfl (own_empty w2 2) gr 0 t cr (ys.take t) rfl ?_ ?_ (by omega) (by omega) (by simp) ?_)
                · rw [List.length_take, Hyk.out]; omega
                · intro j hj
                  rw [(bl1 w2 _).cell (p := ⟨gr, 0 + j, none⟩) (show gr < w2.heap.size by omega), (hwi.cell (p := ⟨gr, 0 + j, none⟩) hgr), Nat.zero_add, hcl.out j (by omega)]
                  simp [List.getD, List.getElem?_take, hj]
                intro v3 w3 o3 g3
                have hb3 := below_append (bl1 w2 (.cells #[] 2)) (own_empty w2 2) g3 (Nat.le_refl _) (by simp)
                have HO3 := Lib.hid o3
                have hs3 := hb3.size
                have hgO3 : gO < w3.heap.size := by omega
                clear g3 o3
                go_wp2_with (at_builtin; refine wpList_append_one _ rfl _ _ 22 rfl w2.heap.size 2 (.int .i64 0) 8 Try.underlying22 info_i64A rfl _ t _ rfl HO3.out (.int .i64 k) rfl rfl (by omega) (by omega) hs3 ?_)
                intro v4 w4 o4 g4
                have hb4 := below_append hb3 HO3.out g4 (Nat.le_refl _) hs3
                have hs4 := hb4.size
                rw [show ints (ys.take t) ++ [Value.int .i64 k] = ints (ys.take t ++ [(k : Int)]) from by rw [ints_append]; rfl] at o4
                have hcO4 := (hb4.cell (p := ⟨gO, i, none⟩) (show gO < w2.heap.size by omega)).trans hcO2
                have hbw4 := hwi.trans (hb4.mono hsz2)
                have HO4 := Lib.hid o4
                have hgO4 : gO < w4.heap.size := by omega
                clear g4 hb3 HO3 o4
                go_wp2_with (at_builtin; refine append_many _ rfl _ _ 22 rfl w2.heap.size 2 (.int .i64 0) 8 Try.underlying22 info_i64A rfl _ (t + 1) _ rfl HO4.out gr _ (k - t) _ (ys.drop t) rfl ?_ ?_ (by omega) (by omega) hs4 ?_)
                · rw [List.length_drop, Hyk.out]
                · intro j hj
                  first
                    | omega
                    | (rw [(hb4.cell (p := ⟨gr, t + j, none⟩) (show gr < w2.heap.size by omega)), (hwi.cell (p := ⟨gr, t + j, none⟩) hgr), hcl.out (t + j) (by omega)]
                       simp [List.getD, List.getElem?_drop])
                intro v5 w5 o5 g5
                have hb5 := below_append hb4 HO4.out g5 (Nat.le_refl _) hs4
                have hs5 := hb5.size
                have eln : t + 1 + (k - t) = k + 1 := by omega
                rw [eln] at o5
                try rw [show ys.take t ++ (k : Int) :: ys.drop t = insRow k ys t by simp [insRow]] at o5
                obtain ⟨a5, c5, rfl, hc5, _⟩ := own_shape o5
                obtain ⟨q5, rfl⟩ := own_some' o5 (by omega)
                have hrow : Hid (OwnI 2 w5 w2.heap.size w5.heap.size (some ⟨q5, 0, none⟩) c5 (insRow k ys t)) := by
                  have hl : (insRow k ys t).length = k + 1 := by simp [insRow, Hyk.out]; omega
                  exact OwnI.of_own (by rw [hl]; exact o5)
                have hrl : Hid ((insRow k ys t).length = k + 1) := by simp [Hid, insRow, Hyk.out]; omega
                have HNo5 := Lib.hid (own_below HNo.out hb5)
                have hs05 : w0.heap.size ≤ w5.heap.size := by omega
                have hz5 := Nat.lt_of_lt_of_le hgO2 hs5
                clear g5 hb4 HO4 o5 eln
                go_wp2_with (at_builtin; refine wpList_append_blk _ rfl _ _ 33 rfl w0.heap.size 22 (.slice none 0 0) 24 Try.underlying33 info_intsA rfl _ m3 vs3 rfl HNo5.out (.slice (some ⟨q5, 0, none⟩) (k + 1) c5) rfl rfl (by omega) (by omega) hs05 ?_)
                intro v6 w6 o6 g6 n6
                obtain ⟨a6, c6, rfl, _, _⟩ := own_shape o6
                have hm6 : Hid (m3 + 1 = (insPart k i (t + 1)).length) := by
                  show _ = _
                  rw [insPart_snoc, List.length_append, List.length_singleton, ← hm3.out]
                have HN6 : Hid (OwnRows 2 22 w6 w0.heap.size w6.heap.size (.slice a6 (insPart k i (t + 1)).length c6) (vs3 ++ [.slice (some ⟨q5, 0, none⟩) (insRow k ys t).length c5]) (insPart k i (t + 1))) := by
                  rw [← hm6.out, insPart_snoc, Hyd.out]
                  have hNN := HN.out
                  rw [← hm3.out] at hNN
                  refine OwnRows.snoc (w := w5) hNN hb5 (r0 := w2.heap.size) (by omega) (Nat.le_refl _) hrow.out (Nat.le_refl _) ?_ g6 n6
                  rw [hrl.out, ← hm3.out]
                  exact o6
                have hw6 : Below w0.heap.size w0 w6 := below_append (hwi.trans (hb5.mono hsz2)) HNo5.out g6 (Nat.le_refl _) hs05
                clear o6 g6 n6 hb5 HN HNo HNo5 hwi
                go_wp2_with fail
                go_roundw
                case rel => exact ⟨t + 1, a6, c6, m3 + 1, _, by omega, by go_num, rfl, hm6, HN6, hw6⟩
                case measure => simp [intOf]; omega
            · have : t = k + 1 := by omega
              subst this
              have HN2 : Hid (OwnRows 2 22 wr w0.heap.size wr.heap.size (.slice a3 (insPart k (i + 1) 0).length c3) vs3 (insPart k (i + 1) 0)) := by
                have := hN.out
                rw [insPart_next k i (by rw [← HLe.out]; exact hil)] at this
                exact this
              have hm4 : Hid (m3 = (insPart k (i + 1) 0).length) := by
                have := hm3.out
                rw [insPart_next k i (by rw [← HLe.out]; exact hil)] at this
                exact this
              clear hN hm3
              go_wp2_with fail
              go_roundw
              case rel => exact ⟨i + 1, a3, c3, m3, vs3, by omega, by go_num, rfl, hm4, HN2, hwi⟩
              case measure => simp [intOf]; omega
        · have : i = L := by omega
          subst this
          have e1 := insPart_all k
          rw [← HLe.out] at e1
          have hm3 := hm2.out
          rw [e1] at hm3
          subst hm3
          have HN2 : Hid (OwnRows 2 22 wr w.heap.size wr.heap.size (.slice a2 (insAll (k + 1)).length c2) vs2 (insAll (k + 1))) := by
            have := hN.out
            rw [e1] at this
            have ha := (show OwnLL 2 22 wr w0.heap.size wr.heap.size a2 c2 (insAll (k + 1)) from ⟨vs2, this⟩).mono (lo' := w.heap.size) hW0 (Nat.le_refl _)
            exact ⟨own_base this.out hW0, this.lt, fun j ys hj => let ⟨a', c', h3, h4⟩ := this.row j ys hj; ⟨a', c', h3, h4.mono hW0 (Nat.le_refl _)⟩, this.top, this.dis⟩
          have hww := hw.trans (hwi.mono hW0)
          clear hN hm2 e1 hO
          go_wp2_with fail
          go_roundw
          case rel => exact ⟨k + 1, a2, c2, vs2, by omega, by go_num, rfl, HN2, hww⟩
          case measure => simp [intOf]; omega
    · have : k = n := by omega
      subst this
      have HR : Hid (OwnLL 2 22 wr w.heap.size wr.heap.size a c (insAll k)) := ⟨vs, hO.out⟩
      clear hO
      go_wp2_with fail
      go_ret
      exact ⟨_, _, rfl, HR.out, hw⟩
end Go.Proofs.Ythbclfaeplmjgaa
