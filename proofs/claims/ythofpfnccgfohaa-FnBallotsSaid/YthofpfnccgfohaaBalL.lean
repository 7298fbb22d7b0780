/-
  The law on ballots: what its walk answers.
-/
import Derived.Test.YthofpfnccgfohaaBytes
import Derived.Test.YthofpfnccgfohaaBalP
import Derived.Test.YthofpfnccgfohaaRoundsI
import Derived.Test.YthofpfnccgfohaaRoundsR
import Derived.Test.YthofpfnccgfohaaOwnLL
namespace Go.Proofs.Ythofpfnccgfohaa
set_option linter.unusedVariables false
set_option linter.unusedSimpArgs false
open Go.RowKit

theorem own_someB {w : World} {base e n c : Nat} {a : Option Addr} {xs : List Value} (h : w.ownsRow base e 1 (.slice a n c) n xs) (hn : 0 < n) : ∃ g, a = some ⟨g, 0, none⟩ := by
  rcases h.2 with ⟨_, h3⟩ | ⟨g, cap, cur, hv, _⟩
  · omega
  · injection hv with ha _ _; exact ⟨g, ha⟩
theorem append_list {P : Program} (wr : World) {ops : Array Oper} {rest : List Oper} {o : Oper} {a : Act} {Q : Exit → Act → World → Prop}
    (hg : o.guard = none) (s x : Operand) (t : TypeId) (hop : o.op = Op.call { callee := Callee.builtin Builtin.append, args := #[s, x], argTypes := #[t, t] })
    (base : Nat) (e : TypeId) (z : Value) (bytes : Nat) (h1 : P.underlying t = some (.slice e)) (hinfo : (P.info? e).map (fun i => (i.zero, i.size, i.bytes)) = some (some z, 1, bytes)) (hz : z.cells.size = 1)
    (v : Value) (n : Nat) (xs : List Int) (hs : a.eval s = v) (hown : wr.ownsRow base e 1 v n (ints xs)) (b off m c : Nat) (ys : List Int) (hx : a.eval x = .slice (some ⟨b, off, none⟩) m c) (hm : ys.length = m)
    (hcell : ∀ j, j < m → wr.cell? ⟨b, off + j, none⟩ = some (.int .i64 (ys.getD j 0))) (hb : bytes ≤ 64) (hn : n + m ≤ 1099511627776) (hbase : base ≤ wr.heap.size)
    (hK : ∀ v' w', w'.ownsRow base e 1 v' (n + m) (ints (xs ++ ys)) → wr.grownBy w' v.ownBlock → wpList P ops Q rest (a.put o.dst v') w') :
    wpList P ops Q (o :: rest) a wr := by
  obtain ⟨i, h2, h3, h4, h5⟩ := info_parts hinfo
  have hbb : (n + m) * bytes ≤ 140737488355328 := Nat.le_trans (Nat.mul_le_mul_left (n + m) hb) (by omega)
  refine wpList_append_own wr hg s x t hop base e i z 1 bytes h1 h2 h3 h4 h5 hz (by omega) v n (ints xs) hs hown ⟨b, off, none⟩ m c (ints ys) hx (by simp <;> omega) ?_ ?_ (by unfold maxLen; omega) hbb hbase (fun v' w' ho hgr _ => hK v' w' (by rw [ints_append]; exact ho) hgr)
  · intro j u hj
    have hj' : j < m := by have := (List.getElem?_eq_some_iff.1 hj).1; simp at this; omega
    have ea : (⟨b, off, none⟩ : Addr).add j = ⟨b, off + j, none⟩ := by unfold Addr.add; split <;> simp_all
    rw [ea, hcell j hj', ← hj, ints_get _ _ (by omega)]
  · intro u hu
    obtain ⟨x, _, rfl⟩ := List.mem_map.1 hu
    rfl
/-- The orders that the law draws. -/
def insF (cs : List Int) (k : Nat) : Nat → List Int
  | 0 => []
  | i + 1 => insAt (insF cs k i) (atF cs (5 * (k : Int) + i) (i + 1)).toNat i
theorem insF_order (cs : List Int) (k : Nat) : ∀ i, orderB (insF cs k i) i = true
  | 0 => by simp [orderB, onceB, allIn, insF]
  | i + 1 => insAt_order (insF_order cs k i)
theorem insF_length (cs : List Int) (k i : Nat) : (insF cs k i).length = i := (orderB_iff.1 (insF_order cs k i)).2.2
def balF (cs : List Int) (n k : Nat) : List (List Int) := (List.range k).map fun j => insF cs j n
theorem balF_length (cs : List Int) (n k : Nat) : (balF cs n k).length = k := by simp [balF]
theorem balF_succ (cs : List Int) (n k : Nat) : balF cs n (k + 1) = balF cs n k ++ [insF cs k n] := by simp [balF, List.range_succ]
theorem balF_mem {cs : List Int} {n k : Nat} {b : List Int} (h : b ∈ balF cs n k) : orderB b n = true ∧ b.length = n := by
  obtain ⟨j, _, rfl⟩ := List.mem_map.1 h
  exact ⟨insF_order cs j n, insF_length cs j n⟩
theorem balF_wide {cs : List Int} {n k : Nat} (h : 1 ≤ k) : wide (balF cs n k) = n := by
  obtain ⟨j, rfl⟩ : ∃ j, k = j + 1 := ⟨k - 1, by omega⟩
  rw [balF, List.range_succ_eq_map, wide]
  exact insF_length cs 0 n
theorem balF_ballots {cs : List Int} {n k : Nat} (h1 : 1 ≤ k) (h2 : k ≤ 32) (h3 : 1 ≤ n) (h4 : n ≤ 12) : ballotsB (balF cs n k) = true := by
  refine ballotsB_iff.2 ⟨by rw [balF_length]; omega, by rw [balF_wide h1]; omega, fun b hb => by rw [balF_wide h1]; exact (balF_mem hb).1⟩
theorem rowS_bd {tb : List Int} {n i : Nat} {m : Int} (h : ∀ j, 0 ≤ tb.getD j 0 ∧ tb.getD j 0 ≤ m) : ∀ k : Nat, 0 ≤ rowS tb n i k ∧ rowS tb n i k ≤ m * k
  | 0 => by simp [rowS]
  | k + 1 => by
    have ih := rowS_bd (n := n) (i := i) h k
    have := h (i * n + k)
    simp only [rowS]
    rw [show m * ((k + 1 : Nat) : Int) = m * k + m by rw [Int.natCast_add, Int.mul_add]; simp]
    omega
theorem info_intsB : (Try.prog.info? 26).map (fun i => (i.zero, i.size, i.bytes)) = some (some (.slice none 0 0), 1, 24) := by kernel_rfl
theorem info_i64B : (Try.prog.info? 2).map (fun i => (i.zero, i.size, i.bytes)) = some (some (.int .i64 0), 1, 8) := by kernel_rfl
set_option maxRecDepth 10000 in
set_option maxHeartbeats 16000000 in
theorem law_Ballots (w : World) (ac am : Option Addr) (cc cm : Nat) (cs ms : List Int) (hc : Rd w w.heap.size ac (byts cs)) (hm : Rd w w.heap.size am (byts ms)) (lc : cs.length ≤ 9223372036854775807) (lm : ms.length ≤ 9223372036854775807) (bc : ∀ x ∈ cs, 0 ≤ x ∧ x ≤ 255) (bm : ∀ x ∈ ms, 0 ≤ x ∧ x ≤ 255) :
    Calls Try.prog 3 #[.slice ac cs.length cc, .slice am ms.length cm] w fun e w' => e = .returned (.bool true) ∧ Below w.heap.size w w' := by
  have LL := Lib.hid (b10Long_any w ac am cc cm cs ms lc lm)
  cases hlong : longB cs ms with
  | true =>
    rw [hlong] at LL
    clear hlong hc hm bc bm
    go_enter Try.func3, Try.ntmps3
    go_wp2_with fail
    refine LL.out.mono ?_
    rintro e w' ⟨rfl, rfl⟩
    go_wp2_with fail
    go_ret
    exact ⟨rfl, Below.refl _ _⟩
  | false =>
  rw [hlong] at LL
  have hlc : cs.length ≤ 1048576 ∧ ms.length ≤ 1048576 := by
    simp only [longB, Bool.or_eq_false_iff, decide_eq_false_iff_not] at hlong
    omega
  obtain ⟨hlc, hlm⟩ := hlc
  have LC := Lib.hid (fun (v : World) (hb : Below w.heap.size w v) (i n : Int) (hi : 0 ≤ i) (hi2 : i ≤ 1000000) => b10At_any v ac cc cs i n ((hc.below hb (Nat.le_refl _)).mono hb.size) hlc bc hi hi2)
  have LM := Lib.hid (fun (v : World) (hb : Below w.heap.size w v) (i n : Int) (hi : 0 ≤ i) (hi2 : i ≤ 1000000) => b10At_any v am cm ms i n ((hm.below hb (Nat.le_refl _)).mono hb.size) hlm bm hi hi2)
  have L0 := Lib.hid (LM.out w (Below.refl _ _) 0 5 (by omega) (by omega))
  have L1 := Lib.hid (fun v hb => LM.out v hb 1 8 (by omega) (by omega))
  have e0 := atF_bd (xs := ms) (i := 0) (n := 5) (by omega)
  have e1 := atF_bd (xs := ms) (i := 1) (n := 8) (by omega)
  obtain ⟨n, hn⟩ : ∃ n : Nat, 1 + atF ms 0 5 = (n : Int) := ⟨(1 + atF ms 0 5).toNat, by omega⟩
  obtain ⟨K, hK⟩ : ∃ K : Nat, 1 + atF ms 1 8 = (K : Int) := ⟨(1 + atF ms 1 8).toNat, by omega⟩
  have hA0 : atF ms 0 5 = (n : Int) - 1 := by omega
  have hA1 : atF ms 1 8 = (K : Int) - 1 := by omega
  rw [hA0] at L0
  rw [hA1] at L1
  have n1 : 1 ≤ n := by omega
  have n5 : n ≤ 5 := by omega
  have k1 : 1 ≤ K := by omega
  have k8 : K ≤ 8 := by omega
  clear hlong hc hm bc bm e0 e1 hn hK hA0 hA1 LM lc lm
  have en : (1 : Int) + ((n : Int) - 1) = n := by omega
  have ek : (1 : Int) + ((K : Int) - 1) = K := by omega
  have hB0 : Hid (OwnRows 2 26 (w.alloc (.cells #[] 26)) w.heap.size (w.alloc (.cells #[] 26)).heap.size (.slice (some ⟨w.heap.size, 0, none⟩) 0 0) [] (balF cs n 0)) := OwnRows.start (own_empty w 26)
  go_enter Try.func3, Try.ntmps3
  go_wp2_with fail
  refine LL.out.mono ?_
  rintro e w' ⟨rfl, rfl⟩
  go_wp2_with fail
  refine L0.out.mono ?_
  rintro e w' ⟨rfl, rfl⟩
  go_wp2_with fail
  try rw [en]
  go_loopw [7, 6] (fun kk bb wr => ∃ (k : Nat) (a : Option Addr) (c : Nat) (vs : List Value), k ≤ K ∧ kk = .int .i64 k ∧ bb = .slice a k c ∧ Hid (OwnRows 2 26 wr w.heap.size wr.heap.size (.slice a k c) vs (balF cs n k)) ∧ Below w.heap.size w wr) (fun kk _ _ => K - (intOf kk).toNat)
  case atStart => exact ⟨0, some ⟨w.heap.size, 0, none⟩, 0, [], Nat.zero_le _, rfl, rfl, hB0, bl1 w _⟩
  case round =>
    clear hB0
    obtain ⟨k, a, c, vs, hk, rfl, rfl, hO, hw⟩ := hrel
    have LM1 := Lib.hid (L1.out wr hw)
    by_cases hlt : k < K
    · obtain ⟨w1, rfl⟩ : ∃ w1 : World, w1 = wr := ⟨_, rfl⟩
      have HO := hO.out.out
      rw [balF_length] at HO
      have HO1 := Lib.hid HO
      have hsw := hw.size
      have hR0 : Hid ((w1.alloc (.cells #[] 2)).ownsRow w1.heap.size 2 1 (.slice (some ⟨w1.heap.size, 0, none⟩) 0 0) 0 (ints (insF cs k 0))) := own_empty w1 2
      clear HO
      go_wp2_with fail
      refine LM1.out.mono ?_
      rintro e w' ⟨rfl, rfl⟩
      go_wp2_with fail
      go_loopw [9, 8] (fun ii oo wi => ∃ (i g c2 : Nat), i ≤ n ∧ ii = .int .i64 i ∧ oo = .slice (some ⟨g, 0, none⟩) i c2 ∧ Hid (wi.ownsRow w1.heap.size 2 1 (.slice (some ⟨g, 0, none⟩) i c2) i (ints (insF cs k i))) ∧ Below w1.heap.size w1 wi) (fun ii _ _ => n - (intOf ii).toNat)
      case atStart => exact ⟨0, w1.heap.size, 0, Nat.zero_le _, rfl, rfl, hR0, bl1 w1 _⟩
      case round =>
        clear hR0
        obtain ⟨i, g, c2, hi, rfl, rfl, hR, hwi⟩ := hrel
        by_cases hil : i < n
        · obtain ⟨w2, rfl⟩ : ∃ w2 : World, w2 = wr := ⟨_, rfl⟩
          have hsi := hwi.size
          have L2 := Lib.hid (LC.out w2 (hw.trans (hwi.mono hsw)) (5 * (k : Int) + i) (i + 1) (by omega) (by omega))
          have e2 := atF_bd (xs := cs) (i := 5 * (k : Int) + i) (n := i + 1) (by omega)
          obtain ⟨p, hp⟩ : ∃ p : Nat, atF cs (5 * (k : Int) + i) (i + 1) = p := ⟨(atF cs (5 * (k : Int) + i) (i + 1)).toNat, by omega⟩
          have hpi : p ≤ i := by omega
          have HI : Hid (insF cs k (i + 1) = insAt (insF cs k i) p i) := by show insAt _ (atF cs _ _).toNat _ = _; rw [hp, Int.toNat_natCast]
          rw [hp] at L2
          clear e2 hp
          have hli := Lib.hid (insF_length cs k i)
          generalize insF cs k i = ys at *
          have hgl : g < w2.heap.size := (hR.out.lt g rfl).2
          have hcap : i ≤ c2 := by obtain ⟨a', c', e, h', _⟩ := own_shape hR.out; injection e with _ _ e; omega
          have hcl : Hid (∀ j, j < i → w2.cell? ⟨g, j, none⟩ = some (.int .i64 (ys.getD j 0))) := fun j hj => by
            obtain ⟨b, o, e, _, hcj⟩ := (rd_of_own hR.out (Nat.le_refl _)).at (k := j) (by rw [hli.out]; exact hj)
            injection e with e
            injection e with e1 e2
            subst e1 e2
            have := hcj j (by rw [hli.out]; exact hj)
            rwa [Nat.zero_add] at this
          have hpc : p ≤ c2 := by omega
          by_cases hcp : p < c2
          all_goals
            go_wp2_with fail
            refine L2.out.mono ?_
            rintro e w' ⟨rfl, rfl⟩
            go_wp2_with (at_builtin; refine append_list _ rfl _ _ 26 rfl w2.heap.size 2 (.int .i64 0) 8 Try.underlying26 info_i64B rfl _ 0 [] rfl (own_empty w2 2) g 0 p c2 (ys.take p) rfl ?_ ?_ (by omega) (by omega) (by simp) ?_)
            · rw [List.length_take, hli.out]; omega
            · intro j hj
              rw [(bl1 w2 _).cell (p := ⟨g, 0 + j, none⟩) (show g < w2.heap.size by omega), Nat.zero_add, hcl.out j (by omega)]
              simp [List.getD, List.getElem?_take, hj]
            intro v3 w3 o3 g3
            have hb3 := below_append (bl1 w2 (.cells #[] 2)) (own_empty w2 2) g3 (Nat.le_refl _) (by simp)
            have HO3 := Lib.hid o3
            have hs3 := hb3.size
            clear g3 o3
            go_wp2_with (at_builtin; refine wpList_append_one _ rfl _ _ 26 rfl w2.heap.size 2 (.int .i64 0) 8 Try.underlying26 info_i64B rfl _ p _ rfl HO3.out (.int .i64 i) rfl rfl (by omega) (by omega) hs3 ?_)
            intro v4 w4 o4 g4
            have hb4 := below_append hb3 HO3.out g4 (Nat.le_refl _) hs3
            have hs4 := hb4.size
            rw [show ints (ys.take p) ++ [Value.int .i64 i] = ints (ys.take p ++ [(i : Int)]) from by rw [ints_append]; rfl] at o4
            have HO4 := Lib.hid o4
            clear g4 hb3 HO3 o4
            go_wp2_with (at_builtin; refine append_list _ rfl _ _ 26 rfl w2.heap.size 2 (.int .i64 0) 8 Try.underlying26 info_i64B rfl _ (p + 1) _ rfl HO4.out g _ (i - p) _ (ys.drop p) rfl ?_ ?_ (by omega) (by omega) hs4 ?_)
            · rw [List.length_drop, hli.out]
            · intro j hj
              first
                | omega
                | (rw [(hb4.cell (p := ⟨g, p + j, none⟩) (show g < w2.heap.size by omega)), hcl.out (p + j) (by omega)]
                   simp [List.getD, List.getElem?_drop])
            intro v5 w5 o5 g5
            have hb5 := below_append hb4 HO4.out g5 (Nat.le_refl _) hs4
            have eln : p + 1 + (i - p) = i + 1 := by omega
            rw [eln, show ys.take p ++ (i : Int) :: ys.drop p = insAt ys p i from by simp [insAt], ← HI.out] at o5
            obtain ⟨a5, c5, rfl, hc5, _⟩ := own_shape o5
            obtain ⟨q5, rfl⟩ := own_someB o5 (by omega)
            have HR5 := Lib.hid (own_base o5 hsi)
            have hw5 := hwi.trans (hb5.mono hsi)
            clear g5 hb4 HO4 o5 eln hb5 hwi hR
            go_wp2_with fail
            go_roundw
            case rel => exact ⟨i + 1, q5, c5, by omega, by go_num, rfl, HR5, hw5⟩
            case measure => simp [intOf]; omega
        · have : i = n := by omega
          subst this
          have hrow : Hid (OwnI 2 wr w1.heap.size wr.heap.size (some ⟨g, 0, none⟩) c2 (insF cs k i)) := by
            show OwnI _ _ _ _ _ _ _
            exact OwnI.of_own (by rw [insF_length]; exact hR.out)
          have hs2 := hwi.size
          have HO2 := Lib.hid (own_below HO1.out hwi)
          have hrl : Hid ((insF cs k i).length = i) := insF_length cs k i
          have hsw2 : w.heap.size ≤ wr.heap.size := by omega
          have hi1 : 1 ≤ i := n1
          have hbw := hw.trans (hwi.mono hsw)
          clear hR HO1
          go_wp2_with (at_builtin; refine wpList_append_blk _ rfl _ _ 25 rfl w.heap.size 26 (.slice none 0 0) 24 Try.underlying25 info_intsB rfl _ k vs rfl HO2.out (.slice (some ⟨g, 0, none⟩) i c2) rfl rfl (by omega) (by omega) hsw2 ?_)
          intro v6 w6 o6 g6 n6
          obtain ⟨a6, c6, rfl, _, _⟩ := own_shape o6
          have HN6 : Hid (OwnRows 2 26 w6 w.heap.size w6.heap.size (.slice a6 (k + 1) c6) (vs ++ [.slice (some ⟨g, 0, none⟩) i c2]) (balF cs i (k + 1))) := by
            show OwnRows _ _ _ _ _ _ _ _
            rw [balF_succ]
            have hx := OwnRows.snoc (w := wr) (w' := w6) (ys := insF cs k i) (c := c2) (g := g) (u' := .slice a6 (k + 1) c6) hO.out hwi (r0 := w1.heap.size) hsw (Nat.le_refl _) hrow.out (Nat.le_refl _) (by rw [hrl.out, balF_length]; exact o6) g6 n6
            rw [hrl.out] at hx
            exact hx
          have hw6 : Below w.heap.size w w6 := below_append hbw HO2.out g6 (Nat.le_refl _) hsw2
          clear o6 g6 n6 hO HO2 hwi hbw
          go_wp2_with fail
          go_roundw
          case rel => exact ⟨k + 1, a6, c6, _, by omega, by go_num, rfl, HN6, hw6⟩
          case measure => simp [intOf]; omega
    · have : k = K := by omega
      subst this
      have hO' := hO.out
      have HLL : Hid (OwnLL 2 26 wr w.heap.size wr.heap.size a c (balF cs n k)) := ⟨vs, by rw [balF_length]; exact hO'⟩
      have hbal : ballotsB (balF cs n k) = true := balF_ballots k1 (by omega) n1 (by omega)
      have hwid : wide (balF cs n k) = n := balF_wide k1
      have hmem : ∀ b ∈ balF cs n k, orderB b n = true := fun b hb => (balF_mem hb).1
      have hinl : ∀ b ∈ balF cs n k, b.length ≤ 1048576 := fun b hb => by rw [(balF_mem hb).2]; omega
      have hlen : (balF cs n k).length = k := balF_length cs n k
      have hboth : ∀ i j, i < n → j < n → i ≠ j → (prF n (balF cs n k) k).getD (i * n + j) 0 + (prF n (balF cs n k) k).getD (j * n + i) 0 = k := fun i j hi hj hij => by
        have := prF_both hmem hi hj hij k (by omega)
        exact this
      have hdiag : ∀ i, i < n → (prF n (balF cs n k) k).getD (i * n + i) 0 = 0 := fun i hi => prF_diag hmem hi k (by omega)
      have hrows : ∀ i, rowS (prF n (balF cs n k) k) n i n = (ptsF n (balF cs n k) k).getD i 0 := fun i => prF_row hmem i k (by omega)
      have hbd := prF_bd (n := n) (balF cs n k) k (by omega)
      have hlT := prF_length n (balF cs n k) k
      have hlP := ptsF_length n (balF cs n k) k
      have E1 : Hid (pointsF (balF cs n k) = some (ptsF n (balF cs n k) k)) := by show _ = _; unfold pointsF; rw [hbal, hwid, hlen]; rfl
      have E2 : Hid (pairsF (balF cs n k) = some (prF n (balF cs n k) k)) := by show _ = _; unfold pairsF; rw [hbal, hwid, hlen]; rfl
      have hwin : winI (prF n (balF cs n k) k) n k = lastW (prF n (balF cs n k) k) n n := winI_last hboth
      have E3 : Hid (winnerF (balF cs n k) = if 0 ≤ lastW (prF n (balF cs n k) k) n n then some (lastW (prF n (balF cs n k) k) n n) else none) := by show _ = _; unfold winnerF; rw [hbal, hwid, hlen, hwin]; rfl
      obtain ⟨R, hR, hlR⟩ : ∃ R, roundsF (balF cs n k) = some R ∧ R.length = n := ⟨rdF n (balF cs n k) n, by unfold roundsF; rw [hbal, hwid]; rfl, rdF_length _ _ _⟩
      have C1 := Lib.hid (fun v hr => points_any v a c (balF cs n k) hr (by omega) hinl)
      have C2 := Lib.hid (fun v hr => pairs2_any v a c (balF cs n k) hr (by omega) hinl)
      obtain ⟨rv, hrv⟩ : ∃ x : Int, x = (winnerF (balF cs n k)).getD 0 := ⟨_, rfl⟩
      obtain ⟨rb, hrb⟩ : ∃ x : Bool, x = (winnerF (balF cs n k)).isSome := ⟨_, rfl⟩
      have C3 : Hid (∀ v : World, RdII v v.heap.size a (balF cs n k) → Calls Try.prog 9 #[.slice a k c] v fun e w' => Below v.heap.size v w' ∧ e = .returned (.tuple #[.int .i64 rv, .bool rb])) := fun v hr => by
        have := winner_any v a c (balF cs n k) hr (by omega) hinl
        rw [hlen] at this
        exact this.mono fun e w' h => ⟨h.1, by rw [h.2, hrv, hrb]⟩
      have C4 := Lib.hid (fun v hr => rounds_any v a c (balF cs n k) hr (by omega) hinl)
      have C5 := Lib.hid (fun v hr => roundsR_any v a c (balF cs n k) hr (by omega) hinl)
      have C6 := Lib.hid (fun v hr => areBallots_any v a c (balF cs n k) hr (by omega) hinl)
      rw [E1.out, hlen] at C1
      rw [E2.out, hlen] at C2
      rw [E3.out] at hrv hrb
      have Hrv := Lib.hid hrv
      have Hrb := Lib.hid hrb
      clear hrv hrb
      rw [hR, hlen] at C4 C5
      rw [hbal, hlen] at C6
      have HD := Lib.hid HLL.out.rd
      have HB := Lib.hid hw
      have Hboth := Lib.hid hboth
      have Hdiag := Lib.hid hdiag
      have Hrows := Lib.hid hrows
      have Hbd := Lib.hid hbd
      have HlT := Lib.hid hlT
      have HlP := Lib.hid hlP
      have HlR := Lib.hid hlR
      have Hs := Lib.hid hw.size
      clear hO hO' HLL hbal hwid hmem hinl hboth hdiag hrows hbd hlT hlP hwin hR hlR E1 E2 E3 LC L1 L0 LL hlen
      generalize balF cs n k = yss at *
      generalize prF n yss k = T at *
      generalize ptsF n yss k = Ps at *
      go_wp2_with fail
      refine LM1.out.mono ?_
      rintro e w' ⟨rfl, rfl⟩
      go_wp2_with fail
      refine (C1.out _ HD.out).mono ?_
      rintro e v1 ⟨hb, a1, c1, rfl, o1⟩
      have HB1 := Lib.hid (below_then HB.out hb)
      have HD1 := Lib.hid (HD.out.to hb)
      have O1 := Lib.hid o1
      clear hb HB HD o1
      go_wp2_with fail
      refine (C2.out _ HD1.out).mono ?_
      rintro e v2 ⟨hb, a2, c2, rfl, o2⟩
      have HB2 := Lib.hid (below_then HB1.out hb)
      have HD2 := Lib.hid (HD1.out.to hb)
      have O1b := Lib.hid (own_below O1.out hb)
      have O2 := Lib.hid o2
      clear hb HB1 HD1 o2 O1
      go_wp2_with fail
      refine (C3.out _ HD2.out).mono ?_
      rintro e v3 ⟨hb, rfl⟩
      have HB3 := Lib.hid (below_then HB2.out hb)
      have HD3 := Lib.hid (HD2.out.to hb)
      have O1c := Lib.hid (own_below O1b.out hb)
      have O2c := Lib.hid (own_below O2.out hb)
      clear hb HB2 HD2 O1b O2
      go_wp2_with fail
      refine (C4.out _ HD3.out).mono ?_
      rintro e v4 ⟨hb, a4, c4, rfl, o4⟩
      have HB4 := Lib.hid (below_then HB3.out hb)
      have HD4 := Lib.hid (HD3.out.to hb)
      have O1d := Lib.hid (own_below O1c.out hb)
      have O2d := Lib.hid (own_below O2c.out hb)
      have O4 := Lib.hid o4
      clear hb HB3 HD3 O1c O2c o4
      go_wp2_with fail
      refine (C5.out _ HD4.out).mono ?_
      rintro e v5 ⟨hb, a5, c5, rfl, o5⟩
      have HB5 := Lib.hid (below_then HB4.out hb)
      have HD5 := Lib.hid (HD4.out.to hb)
      have O1e := Lib.hid (own_below O1d.out hb)
      have O2e := Lib.hid (own_below O2d.out hb)
      have O4e := Lib.hid (own_below O4.out hb)
      have O5 := Lib.hid o5
      clear hb HB4 HD4 O1d O2d O4 o5
      have tP : ((Ps.length : Int) != (n : Int)) = false := by have := HlP.out; simp [this]
      have tT : ((T.length : Int) != (n : Int) * (n : Int)) = false := by have := HlT.out; simp [this]
      have hnn : n * n ≤ 25 := Nat.mul_le_mul n5 n5
      have hnz : (n : Int) * (n : Int) ≤ 25 := by exact_mod_cast hnn
      have hnz0 : 0 ≤ (n : Int) * (n : Int) := Int.mul_nonneg (by omega) (by omega)
      go_wp2_with fail
      refine (C6.out _ HD5.out).mono ?_
      rintro e v6 ⟨rfl, hb⟩
      have HB6 := Lib.hid (below_then HB5.out hb)
      have O1f := Lib.hid (own_below O1e.out hb)
      have O2f := Lib.hid (own_below O2e.out hb)
      have O4f := Lib.hid (own_below O4e.out hb)
      have O5f := Lib.hid (own_below O5.out hb)
      clear hb HB5 HD5 O1e O2e O4e O5
      go_wp2_with fail
      refine (b10Ints_any _ a4 a5 c4 c5 R (rd_of_own O4f.out (Nat.le_refl _)) (rd_of_own O5f.out (Nat.le_refl _)) (by have := HlR.out; omega)).mono ?_
      rintro e v7 ⟨rfl, m7, rfl⟩
      have hRT := (rd_of_own O2f.out (Nat.le_refl _)).at (k := 0) (by rw [HlT.out]; exact Nat.mul_pos n1 n1)
      have hRP := (rd_of_own O1f.out (Nat.le_refl _)).at (k := 0) (by rw [HlP.out]; exact n1)
      obtain ⟨bT, oT, rfl, _, hcT⟩ := hRT
      obtain ⟨bP, oP, rfl, _, hcP⟩ := hRP
      have HcT : Hid (∀ j, j < n * n → v6.cell? ⟨bT, oT + j, none⟩ = some (.int .i64 (T.getD j 0))) := fun j hj => hcT j (by rw [HlT.out]; exact hj)
      have HcP : Hid (∀ j, j < n → v6.cell? ⟨bP, oP + j, none⟩ = some (.int .i64 (Ps.getD j 0))) := fun j hj => hcP j (by rw [HlP.out]; exact hj)
      have HB7 := HB6
      clear hcT hcP O1f O2f O4f O5f tP tT C1 C2 C3 C4 C5 C6 HlR
      go_wp2_with fail
      have HW : Hid (winI T n k = lastW T n n) := winI_last Hboth.out
      go_loopw [22, 23] (fun ff ii wr => ∃ (i m : Nat), i ≤ n ∧ ii = .int .i64 i ∧ ff = .int .i64 (lastW T n i) ∧ wr = v6.drewN m) (fun _ ii _ => n - (intOf ii).toNat)
      case atStart => exact ⟨0, m7, Nat.zero_le _, rfl, rfl, rfl⟩
      case round =>
        obtain ⟨i, m, hi, rfl, rfl, rfl⟩ := hrel
        have HB8 := Lib.hid (below_drewN HB6.out m)
        by_cases hil : i < n
        · have h1 := Nat.mul_le_mul_right n hi
          have hin : i * n ≤ 25 := by omega
          have hinz : (i : Int) * (n : Int) ≤ 25 := by exact_mod_cast hin
          have hinz0 : 0 ≤ (i : Int) * (n : Int) := Int.mul_nonneg (by omega) (by omega)
          clear h1
          go_wp2_with fail
          go_loopw [24, 25, 26] (fun ss wn qq wi => ∃ (q m2 : Nat), q ≤ n ∧ qq = .int .i64 q ∧ ss = .int .i64 (rowS T n i q) ∧ wn = .bool (winB T n i q) ∧ wi = v6.drewN m2) (fun _ _ qq _ => n - (intOf qq).toNat)
          case atStart => exact ⟨0, m, Nat.zero_le _, rfl, rfl, rfl, rfl⟩
          case round =>
            obtain ⟨q, m2, hq, rfl, rfl, rfl, rfl⟩ := hrel
            by_cases hql : q < n
            · have h1 := Nat.mul_le_mul_right n hq
              have hqn : q * n ≤ 25 := by omega
              have hqnz : (q : Int) * (n : Int) ≤ 25 := by exact_mod_cast hqn
              have hqnz0 : 0 ≤ (q : Int) * (n : Int) := Int.mul_nonneg (by omega) (by omega)
              have i1 := idx_lt hil hql
              have i2 := idx_lt hql hil
              have i3 : i * n + q < T.length := by rw [HlT.out]; exact i1
              have i4 : q * n + i < T.length := by rw [HlT.out]; exact i2
              have q1 := HcT.out _ i1
              have q2 := HcT.out _ i2
              obtain ⟨x0, x1⟩ := Hbd.out (i * n + q)
              obtain ⟨y0, y1⟩ := Hbd.out (q * n + i)
              obtain ⟨s0, s1⟩ := rowS_bd (n := n) (i := i) Hbd.out q
              have s2 : (144 * (k : Int)) * (q : Int) ≤ 1152 * 5 := Int.mul_le_mul (by omega) (by omega) (by omega) (by omega)
              have HS : Hid (rowS T n i (q + 1) = rowS T n i q + T.getD (i * n + q) 0) := rfl
              have HWs : Hid (winB T n i (q + 1) = if q = i then winB T n i q else winB T n i q && decide (T.getD (q * n + i) 0 < T.getD (i * n + q) 0)) := rfl
              have HBo := Lib.hid (Hboth.out i q hil hql)
              generalize T.getD (i * n + q) 0 = x at *
              generalize T.getD (q * n + i) 0 = y at *
              generalize rowS T n i q = sm at *
              generalize winB T n i q = wb at *
              have s3 : sm ≤ 5760 := by omega
              clear s1 s2 h1
              by_cases hqi : q = i
              · have hqe : ((q : Int) == (i : Int)) = true := by simp [hqi]
                have HWt : Hid (winB T n i (q + 1) = wb) := by rw [Hid, HWs.out, if_pos hqi]
                clear hqi
                go_wp2_with fail
                go_roundw
                case rel => exact ⟨q + 1, m2, by omega, by go_num, by rw [HS.out], by rw [HWt.out], rfl⟩
                case measure => simp [intOf]; omega
              · have hqe : ((q : Int) == (i : Int)) = false := by simp; omega
                have HWt : Hid (winB T n i (q + 1) = (wb && decide (y < x))) := by rw [Hid, HWs.out, if_neg hqi]
                have hbo : ((x + y) != (k : Int)) = false := by have := HBo.out (fun e => hqi e.symm); simp [this]
                clear hqi HWs HBo
                cases hwb : wb with
                | false =>
                  subst hwb
                  go_wp2_with fail
                  go_quiet (fail)
                  go_wp2_with fail
                  go_quiet (fail)
                  go_wp2_with fail
                  go_roundw
                  case rel => exact ⟨q + 1, _, by omega, by go_num, by rw [HS.out], by rw [HWt.out]; rfl, by first | rfl | exact World.drewN_drewN _ _ _ | (rw [World.drewN_drewN, World.drewN_drewN])⟩
                  case measure => simp [intOf]; omega
                | true =>
                  subst hwb
                  go_wp2_with fail
                  go_quiet (fail)
                  go_wp2_with fail
                  go_quiet (fail)
                  go_wp2_with fail
                  go_roundw
                  case rel => exact ⟨q + 1, _, by omega, by go_num, by rw [HS.out], by rw [HWt.out, Bool.true_and], by first | rfl | exact World.drewN_drewN _ _ _ | (rw [World.drewN_drewN, World.drewN_drewN])⟩
                  case measure => simp [intOf]; omega
            · have : q = n := by omega
              subst this
              have i3 : i * q + i < T.length := by rw [HlT.out]; exact idx_lt hil hil
              have i4 : i < Ps.length := by rw [HlP.out]; exact hil
              have q1 := HcT.out (i * q + i) (idx_lt hil hil)
              have q2 := HcP.out i hil
              rw [Hdiag.out i hil] at q1
              rw [← Hrows.out i] at q2
              have hne : (rowS T q i q != rowS T q i q) = false := by simp
              have HL : Hid (lastW T q (i + 1) = if winB T q i q then (i : Int) else lastW T q i) := rfl
              generalize rowS T q i q = sm at *
              cases hwb : winB T q i q with
              | false =>
                rw [hwb] at HL
                go_wp2_with fail
                go_roundw
                case rel => exact ⟨i + 1, _, by omega, by go_num, by rw [HL.out]; rfl, by first | rfl | exact World.drewN_drewN _ _ _⟩
                case measure => simp [intOf]; omega
              | true =>
                rw [hwb] at HL
                go_wp2_with fail
                go_roundw
                case rel => exact ⟨i + 1, _, by omega, by go_num, by rw [HL.out]; rfl, by first | rfl | exact World.drewN_drewN _ _ _⟩
                case measure => simp [intOf]; omega
        · have : i = n := by omega
          subst this
          have hbl := lastW_bd T i i
          generalize lastW T i i = lw at *
          obtain ⟨l0, l1⟩ := hbl
          by_cases hl0 : 0 ≤ lw
          · have h1 := Hrv.out
            have h2 := Hrb.out
            rw [if_pos hl0] at h1 h2
            simp only [Option.getD_some, Option.isSome_some] at h1 h2
            subst h1 h2
            clear Hrv Hrb
            go_wp2_with fail
            go_ret
            exact ⟨rfl, HB8.out⟩
          · have h1 := Hrv.out
            have h2 := Hrb.out
            rw [if_neg hl0] at h1 h2
            simp only [Option.getD_none, Option.isSome_none] at h1 h2
            subst h1 h2
            clear Hrv Hrb
            go_wp2_with fail
            go_ret
            exact ⟨rfl, HB8.out⟩
end Go.Proofs.Ythofpfnccgfohaa
