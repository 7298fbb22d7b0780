/-
  The law on seats: what its walk answers.
-/
import Derived.Test.YthofpfnccgfohaaKeep
import Derived.Test.YthofpfnccgfohaaQuotR
namespace Go.Proofs.Ythofpfnccgfohaa
set_option linter.unusedVariables false
set_option linter.unusedSimpArgs false
open Go.RowKit

theorem info_i64S : (Try.prog.info? 2).map (fun i => (i.zero, i.size, i.bytes)) = some (some (.int .i64 0), 1, 8) := by kernel_rfl
/-- The votes that the law draws. -/
def voteF (cs : List Int) (k : Nat) : List Int := (List.range k).map fun (j : Nat) => atF cs (j : Int) 200 + if j = 0 then 1 else 0
theorem voteF_length (cs : List Int) (k : Nat) : (voteF cs k).length = k := by simp [voteF]
theorem voteF_succ (cs : List Int) (k : Nat) : voteF cs (k + 1) = voteF cs k ++ [atF cs (k : Int) 200 + if k = 0 then 1 else 0] := by simp [voteF, List.range_succ]
theorem voteF_mem {cs : List Int} {k : Nat} {x : Int} (h : x ∈ voteF cs k) : 0 ≤ x ∧ x ≤ 200 := by
  obtain ⟨j, _, rfl⟩ := List.mem_map.1 h
  have := atF_bd (xs := cs) (i := (j : Int)) (n := 200) (by omega)
  split <;> omega
theorem sum_nonneg : ∀ l : List Int, (∀ x ∈ l, 0 ≤ x) → 0 ≤ l.sum
  | [], _ => by simp
  | x :: l, h => by have := sum_nonneg l (fun y hy => h y (by simp [hy])); have := h x (by simp); simp only [List.sum_cons]; omega
theorem le_sum : ∀ (l : List Int), (∀ x ∈ l, 0 ≤ x) → ∀ x ∈ l, x ≤ l.sum
  | [], _, x, hx => by simp at hx
  | y :: l, h, x, hx => by
    have h1 := sum_nonneg l (fun z hz => h z (by simp [hz]))
    have h2 := h y (by simp)
    rcases List.mem_cons.1 hx with rfl | hx
    · simp only [List.sum_cons]; omega
    · have := le_sum l (fun z hz => h z (by simp [hz])) x hx
      simp only [List.sum_cons]; omega
theorem voteF_ok {cs : List Int} {n : Nat} (h1 : 1 ≤ n) (h2 : n ≤ 12) : votesB (voteF cs n) = true := by
  refine votesB_iff.2 ⟨by rw [voteF_length]; omega, fun x hx => by have := voteF_mem hx; omega, ?_⟩
  obtain ⟨j, rfl⟩ : ∃ j, n = j + 1 := ⟨n - 1, by omega⟩
  have e : voteF cs (j + 1) = (atF cs 0 200 + 1) :: (List.range j).map (fun (q : Nat) => atF cs ((q + 1 : Nat) : Int) 200 + if q + 1 = 0 then 1 else 0) := by
    unfold voteF
    rw [List.range_succ_eq_map, List.map_cons, List.map_map]
    rfl
  have hn := le_sum (voteF cs (j + 1)) (fun x hx => (voteF_mem hx).1) (atF cs 0 200 + 1) (by rw [e]; simp)
  have := atF_bd (xs := cs) (i := 0) (n := 200) (by omega)
  omega
theorem restF_bd {xs : List Int} {s : Int} (hv : votesB xs = true) (s0 : 0 ≤ s) : ∀ x ∈ restF xs s, 0 ≤ x ∧ x ≤ s := by
  have hp : ∀ x ∈ restF xs s, 0 ≤ x := fun x hx => by
    obtain ⟨j, hj, rfl⟩ := List.getElem_of_mem hx
    obtain ⟨_, h3, h4⟩ := votesB_iff.1 hv
    have hj' : j < xs.length := by rw [← restF_length xs s]; exact hj
    have hq := quo_rem (S := xs.sum) (h3 xs[j] (List.getElem_mem hj')).1 s0 h4
    have hb : ∀ i ∈ (ordF (xs.map (remF s xs.sum))).take (leftF xs s).toNat, 0 ≤ i ∧ i.toNat < (xs.map (quoF s xs.sum)).length := fun i hi => by
      have := ord_take_mem i hi; simp only [List.length_map] at this ⊢; exact this
    have hg := moreF_get _ (xs.map (quoF s xs.sum)) j hb ((ordF_nodup _).sublist (List.take_sublist _ _))
    rw [map_getD _ hj'] at hg
    have e : (restF xs s).getD j 0 = (restF xs s)[j] := by simp [List.getD, List.getElem?_eq_getElem hj]
    rw [← e]
    have e2 : xs.getD j 0 = xs[j] := by simp [List.getD, List.getElem?_eq_getElem hj']
    rw [e2] at hg
    show 0 ≤ (moreF _ _).getD j 0
    rw [hg]
    split <;> omega
  exact fun x hx => ⟨hp x hx, by have := le_sum _ hp x hx; rw [restF_sum hv s0] at this; exact this⟩
/-- The first so far who loses. -/
def lostS (rs rn : List Int) : Nat → Int
  | 0 => -1
  | k + 1 => if rn.getD k 0 < rs.getD k 0 ∧ lostS rs rn k < 0 then (k : Int) else lostS rs rn k
theorem lostS_find (rs rn : List Int) : ∀ n, lostS rs rn n = findI (fun j => decide (rn.getD j 0 < rs.getD j 0)) n := by
  have key : ∀ n, (lostS rs rn n = -1 ∧ ∀ j, j < n → ¬ rn.getD j 0 < rs.getD j 0) ∨ ∃ k, k < n ∧ lostS rs rn n = k ∧ rn.getD k 0 < rs.getD k 0 ∧ ∀ j, j < k → ¬ rn.getD j 0 < rs.getD j 0 := by
    intro n
    induction n with
    | zero => exact .inl ⟨rfl, fun j hj => by omega⟩
    | succ n ih =>
      simp only [lostS]
      rcases ih with ⟨h1, h2⟩ | ⟨k, h1, h2, h3, h4⟩
      · by_cases c : rn.getD n 0 < rs.getD n 0
        · rw [if_pos ⟨c, by omega⟩]; exact .inr ⟨n, by omega, rfl, c, h2⟩
        · rw [if_neg (fun x => c x.1)]
          exact .inl ⟨h1, fun j hj => by
            by_cases e : j = n
            · subst e; exact c
            · exact h2 j (by omega)⟩
      · rw [if_neg (by omega)]; exact .inr ⟨k, by omega, h2, h3, h4⟩
  intro n
  rcases key n with ⟨h1, h2⟩ | ⟨k, h1, h2, h3, h4⟩
  · rw [h1]; exact (findI_none fun j hj => decide_eq_false (h2 j hj)).symm
  · rw [h2]; exact (findI_here h1 (decide_eq_true h3) fun j hj => decide_eq_false (h4 j hj)).symm
theorem getD_of_all {l : List Int} {lo hi : Int} (h : ∀ x ∈ l, lo ≤ x ∧ x ≤ hi) {k : Nat} (hk : k < l.length) : lo ≤ l.getD k 0 ∧ l.getD k 0 ≤ hi := h _ (by simp only [List.getD, List.getElem?_eq_getElem hk]; exact List.getElem_mem _)
set_option maxRecDepth 10000 in
set_option maxHeartbeats 16000000 in
theorem law_Seats (w : World) (ac am : Option Addr) (cc cm : Nat) (cs ms : List Int) (hc : Rd w w.heap.size ac (byts cs)) (hm : Rd w w.heap.size am (byts ms)) (lc : cs.length ≤ 9223372036854775807) (lm : ms.length ≤ 9223372036854775807) (bc : ∀ x ∈ cs, 0 ≤ x ∧ x ≤ 255) (bm : ∀ x ∈ ms, 0 ≤ x ∧ x ≤ 255) :
    Calls Try.prog 4 #[.slice ac cs.length cc, .slice am ms.length cm] w fun e w' => e = .returned (.bool true) ∧ Below w.heap.size w w' := by
  have LL := Lib.hid (b10Long_any w ac am cc cm cs ms lc lm)
  cases hlong : longB cs ms with
  | true =>
    rw [hlong] at LL
    clear hlong hc hm bc bm
    go_enter Try.func4, Try.ntmps4
    go_wp2_with fail
    refine LL.out.mono ?_
    rintro e w' ⟨rfl, rfl⟩
    go_wp2_with fail
    go_ret
    exact ⟨rfl, Below.refl _ _⟩
  | false =>
  rw [hlong] at LL
  have hlc : cs.length ≤ 1048576 ∧ ms.length ≤ 1048576 := by
    simp only [longB, Bool.or_eq_false_iff, decide_eq_false_iff_not] at hlong
    omega
  obtain ⟨hlc, hlm⟩ := hlc
  have LC := Lib.hid (fun (v : World) (hb : Below w.heap.size w v) (i n : Int) (hi : 0 ≤ i) (hi2 : i ≤ 1000000) => b10At_any v ac cc cs i n ((hc.below hb (Nat.le_refl _)).mono hb.size) hlc bc hi hi2)
  have LM := Lib.hid (fun (v : World) (hb : Below w.heap.size w v) (i n : Int) (hi : 0 ≤ i) (hi2 : i ≤ 1000000) => b10At_any v am cm ms i n ((hm.below hb (Nat.le_refl _)).mono hb.size) hlm bm hi hi2)
  have L0 := Lib.hid (fun v hb => LM.out v hb 0 7 (by omega) (by omega))
  have L1 := Lib.hid (fun v hb => LM.out v hb 1 30 (by omega) (by omega))
  have L2 := Lib.hid (fun v hb => LM.out v hb 2 3 (by omega) (by omega))
  have e0 := atF_bd (xs := ms) (i := 0) (n := 7) (by omega)
  obtain ⟨s0, s1⟩ := atF_bd (xs := ms) (i := 1) (n := 30) (by omega)
  obtain ⟨d0, d1⟩ := atF_bd (xs := ms) (i := 2) (n := 3) (by omega)
  obtain ⟨n, hn⟩ : ∃ n : Nat, 1 + atF ms 0 7 = (n : Int) := ⟨(1 + atF ms 0 7).toNat, by omega⟩
  have hA0 : atF ms 0 7 = (n : Int) - 1 := by omega
  rw [hA0] at L0
  have n1 : 1 ≤ n := by omega
  have n7 : n ≤ 7 := by omega
  generalize atF ms 1 30 = s at *
  generalize atF ms 2 3 = kd at *
  clear hlong hc hm bc bm e0 hn hA0 LM lc lm
  have en : (1 : Int) + ((n : Int) - 1) = n := by omega
  have hB0 : Hid ((w.alloc (.cells #[] 2)).ownsRow w.heap.size 2 1 (.slice (some ⟨w.heap.size, 0, none⟩) 0 0) 0 (ints (voteF cs 0))) := own_empty w 2
  go_enter Try.func4, Try.ntmps4
  go_wp2_with fail
  refine LL.out.mono ?_
  rintro e w' ⟨rfl, rfl⟩
  go_wp2_with fail
  go_loopw [6, 5] (fun kk bb wr => ∃ (k : Nat) (a : Option Addr) (c : Nat), k ≤ n ∧ kk = .int .i64 k ∧ bb = .slice a k c ∧ Hid (wr.ownsRow w.heap.size 2 1 (.slice a k c) k (ints (voteF cs k))) ∧ Below w.heap.size w wr) (fun kk _ _ => n - (intOf kk).toNat)
  case atStart => exact ⟨0, some ⟨w.heap.size, 0, none⟩, 0, Nat.zero_le _, rfl, rfl, hB0, bl1 w _⟩
  case round =>
    clear hB0
    obtain ⟨k, a, c, hk, rfl, rfl, hO, hw⟩ := hrel
    have LM1 := Lib.hid (L0.out wr hw)
    by_cases hlt : k < n
    · have LC1 := Lib.hid (LC.out wr hw (k : Int) 200 (by omega) (by omega))
      obtain ⟨x0, x1⟩ := atF_bd (xs := cs) (i := (k : Int)) (n := 200) (by omega)
      have HV : Hid (voteF cs (k + 1) = voteF cs k ++ [atF cs (k : Int) 200 + if k = 0 then 1 else 0]) := voteF_succ cs k
      have hsw := hw.size
      generalize atF cs (k : Int) 200 = x at *
      by_cases hk0 : k = 0
      · have HV2 : Hid (voteF cs (k + 1) = voteF cs k ++ [x + 1]) := by rw [Hid, HV.out, if_pos hk0]
        have t0 : ((k : Int) == 0) = true := by simp [hk0]
        clear hk0 HV
        go_wp2_with fail
        refine LM1.out.mono ?_
        rintro e w' ⟨rfl, rfl⟩
        go_wp2_with fail
        refine LC1.out.mono ?_
        rintro e w' ⟨rfl, rfl⟩
        go_wp2_with (at_builtin; refine wpList_append_one _ rfl _ _ 26 rfl w.heap.size 2 (.int .i64 0) 8 Try.underlying26 info_i64S rfl _ k _ rfl hO.out (.int .i64 (x + 1)) rfl rfl (by omega) (by omega) hsw ?_)
        intro v6 w6 o6 g6
        obtain ⟨a6, c6, rfl, _, _⟩ := own_shape o6
        rw [show ints (voteF cs k) ++ [Value.int .i64 (x + 1)] = ints (voteF cs k ++ [x + 1]) from by rw [ints_append]; rfl, ← HV2.out] at o6
        have HN6 := Lib.hid o6
        have hw6 : Below w.heap.size w w6 := below_append hw hO.out g6 (Nat.le_refl _) hsw
        clear o6 g6 hO
        go_wp2_with fail
        go_roundw
        case rel => exact ⟨k + 1, a6, c6, by omega, by go_num, rfl, HN6, hw6⟩
        case measure => simp [intOf]; omega
      · have HV2 : Hid (voteF cs (k + 1) = voteF cs k ++ [x]) := by rw [Hid, HV.out, if_neg hk0, Int.add_zero]
        have t0 : ((k : Int) == 0) = false := by simp; omega
        clear hk0 HV
        go_wp2_with fail
        refine LM1.out.mono ?_
        rintro e w' ⟨rfl, rfl⟩
        go_wp2_with fail
        refine LC1.out.mono ?_
        rintro e w' ⟨rfl, rfl⟩
        go_wp2_with (at_builtin; refine wpList_append_one _ rfl _ _ 26 rfl w.heap.size 2 (.int .i64 0) 8 Try.underlying26 info_i64S rfl _ k _ rfl hO.out (.int .i64 x) rfl rfl (by omega) (by omega) hsw ?_)
        intro v6 w6 o6 g6
        obtain ⟨a6, c6, rfl, _, _⟩ := own_shape o6
        rw [show ints (voteF cs k) ++ [Value.int .i64 x] = ints (voteF cs k ++ [x]) from by rw [ints_append]; rfl, ← HV2.out] at o6
        have HN6 := Lib.hid o6
        have hw6 : Below w.heap.size w w6 := below_append hw hO.out g6 (Nat.le_refl _) hsw
        clear o6 g6 hO
        go_wp2_with fail
        go_roundw
        case rel => exact ⟨k + 1, a6, c6, by omega, by go_num, rfl, HN6, hw6⟩
        case measure => simp [intOf]; omega
    · have : k = n := by omega
      subst this
      have LS1 := Lib.hid (L1.out wr hw)
      have LD1 := Lib.hid (L2.out wr hw)
      have hv := voteF_ok (cs := cs) n1 (by omega)
      have hlen := voteF_length cs k
      have hvb : ∀ x ∈ voteF cs k, 0 ≤ x ∧ x ≤ 200 := fun x hx => voteF_mem hx
      have hin1 : inB s 0 100 = true := inB_iff.2 ⟨by omega, by omega⟩
      have hin2 : inB (s + 1) 0 100 = true := inB_iff.2 ⟨by omega, by omega⟩
      have hin3 : inB s 0 99 = true := inB_iff.2 ⟨by omega, by omega⟩
      have hin4 : inB kd 0 2 = true := inB_iff.2 ⟨by omega, by omega⟩
      have hvn : ∀ j, 0 ≤ (voteF cs k).getD j 0 := getD_nonneg (fun x hx => (voteF_mem hx).1)
      have hrb := restF_bd hv s0
      have hqb : ∀ x ∈ qSeats (voteF cs k) kd s.toNat, 0 ≤ x ∧ x ≤ s := fun x hx => by
        obtain ⟨j, hj, rfl⟩ := List.getElem_of_mem hx
        have := qSeats_bd (voteF cs k) kd s.toNat j
        simp only [List.getD, List.getElem?_eq_getElem hj, Option.getD_some] at this
        omega
      have hql := qSeats_length (voteF cs k) kd s.toNat
      have hrl := restF_length (voteF cs k) s
      have hnl := restF_length (voteF cs k) (s + 1)
      have hsR := restF_sum hv s0
      have hsQ := qSeats_sum (vs := voteF cs k) (kind := kd) (by omega) s.toNat
      have hst : (s.toNat : Int) = s := by omega
      rw [hst] at hsQ
      have okR : KeepOk (voteF cs k) (restF (voteF cs k) s) := ⟨hv, hrl, fun x hx => by have := hrb x hx; omega⟩
      have okQ : KeepOk (voteF cs k) (qSeats (voteF cs k) kd s.toNat) := ⟨hv, hql, fun x hx => by have := hqb x hx; omega⟩
      have hkR := restF_keeps hv s0
      have hfair : ∀ i j, i < k → j < k → 0 < (qSeats (voteF cs k) kd s.toNat).getD j 0 → (kd = 0 → (voteF cs k).getD i 0 * (qSeats (voteF cs k) kd s.toNat).getD j 0 ≤ (voteF cs k).getD j 0 * ((qSeats (voteF cs k) kd s.toNat).getD i 0 + 1)) ∧ (kd = 1 → (voteF cs k).getD i 0 * (2 * (qSeats (voteF cs k) kd s.toNat).getD j 0 - 1) ≤ (voteF cs k).getD j 0 * (2 * (qSeats (voteF cs k) kd s.toNat).getD i 0 + 1)) := fun i j hi hj h => by
        constructor
        · intro e
          have := qSeats_fair (vs := voteF cs k) (kind := kd) (.inl e) (by omega) hvn s.toNat i j (by omega) (by omega) h
          rw [show ∀ x, above kd x = x + 1 from fun x => by simp [above, e]] at this
          rw [show ∀ x, above kd x = x + 1 from fun x => by simp [above, e]] at this
          rwa [show (qSeats (voteF cs k) kd s.toNat).getD j 0 - 1 + 1 = (qSeats (voteF cs k) kd s.toNat).getD j 0 by omega] at this
        · intro e
          have := qSeats_fair (vs := voteF cs k) (kind := kd) (.inr e) (by omega) hvn s.toNat i j (by omega) (by omega) h
          rw [show ∀ x, above kd x = 2 * x + 1 from fun x => by simp [above, e]] at this
          rw [show ∀ x, above kd x = 2 * x + 1 from fun x => by simp [above, e]] at this
          rwa [show 2 * ((qSeats (voteF cs k) kd s.toNat).getD j 0 - 1) + 1 = 2 * (qSeats (voteF cs k) kd s.toNat).getD j 0 - 1 by omega] at this
      have wR := (okR.bounds).2.2.2.2.1
      have wQ := (okQ.bounds).2.2.2.2.1
      rw [hsR] at wR
      rw [hsQ] at wQ
      have C1 := Lib.hid (fun v hr => rest_any v a c (voteF cs k) s hr (by omega))
      have C2 := Lib.hid (fun v hr => quotientSeats_yes v a c (voteF cs k) s kd hr hv hin1 hin4)
      have C3 := Lib.hid (fun v hr a2 c2 hg => keeps_any v a a2 c c2 (voteF cs k) (restF (voteF cs k) s) hr hg okR)
      have C4 := Lib.hid (fun v hr a2 c2 hg => keeps_any v a a2 c c2 (voteF cs k) (qSeats (voteF cs k) kd s.toNat) hr hg okQ)
      have C5 := Lib.hid (fun v hr a2 c2 hg => keepsR_any v a a2 c c2 (voteF cs k) (qSeats (voteF cs k) kd s.toNat) hr hg okQ)
      have C6 := Lib.hid (fun v hr => quotientSeatsR_yes v a c (voteF cs k) s kd hr hv hin1 hin4)
      have C7 := Lib.hid (fun v hr => rest_any v a c (voteF cs k) (s + 1) hr (by omega))
      have S1 := Lib.hid (fun v a2 c2 hg => b10Sum_any v a2 c2 (restF (voteF cs k) s) hg (by omega))
      have S2 := Lib.hid (fun v a2 c2 hg => b10Sum_any v a2 c2 (qSeats (voteF cs k) kd s.toNat) hg (by omega))
      rw [wR] at S1
      rw [wQ] at S2
      have e1 : restSF (voteF cs k) s = some (restF (voteF cs k) s) := by unfold restSF; rw [hv, hin1]; rfl
      have e2 : restSF (voteF cs k) (s + 1) = some (restF (voteF cs k) (s + 1)) := by unfold restSF; rw [hv, hin2]; rfl
      have e3 : lostF (voteF cs k) s = if 0 ≤ lostS (restF (voteF cs k) s) (restF (voteF cs k) (s + 1)) k then some (lostS (restF (voteF cs k) s) (restF (voteF cs k) (s + 1)) k) else none := by
        unfold lostF lostI
        rw [hv, hin3, hrl, hlen, lostS_find]; rfl
      obtain ⟨rv, hrv⟩ : ∃ x : Int, x = (lostF (voteF cs k) s).getD 0 := ⟨_, rfl⟩
      obtain ⟨rb, hrb2⟩ : ∃ x : Bool, x = (lostF (voteF cs k) s).isSome := ⟨_, rfl⟩
      have C8 : Hid (∀ v : World, Rd v v.heap.size a (ints (voteF cs k)) → Calls Try.prog 20 #[.slice a k c, .int .i64 s] v fun e w' => Below v.heap.size v w' ∧ e = .returned (.tuple #[.int .i64 rv, .bool rb])) := fun v hr => by
        have := lost_any v a c (voteF cs k) s hr (by omega)
        rw [hlen] at this
        exact this.mono fun e w' h => ⟨h.1, by rw [h.2, hrv, hrb2]⟩
      rw [e3] at hrv hrb2
      rw [e1, hlen] at C1
      rw [e2, hlen] at C7
      rw [hlen] at C2 C3 C4 C5 C6 hql hrl hnl
      rw [hkR] at C3
      have Hrv := Lib.hid hrv
      have Hrb := Lib.hid hrb2
      have Hfair := Lib.hid hfair
      have Hql := Lib.hid hql
      have Hrl := Lib.hid hrl
      have Hnl := Lib.hid hnl
      have HB := Lib.hid hw
      have HO := Lib.hid hO.out
      have Hvb : Hid (∀ i, i < k → 0 ≤ (voteF cs k).getD i 0 ∧ (voteF cs k).getD i 0 ≤ 200) := fun i hi => getD_of_all hvb (by omega)
      have Hqb : Hid (∀ i, i < k → 0 ≤ (qSeats (voteF cs k) kd s.toNat).getD i 0 ∧ (qSeats (voteF cs k) kd s.toNat).getD i 0 ≤ 30) := fun i hi => by
        have := getD_of_all hqb (k := i) (by omega); omega
      have Hlen := Lib.hid hlen
      clear hrv hrb2 hfair hql hrl hnl hw hO hvb hqb hlen hv hin1 hin2 hin3 hin4 hvn hrb hsR hsQ okR okQ hkR wR wQ e1 e2 e3 LC L0 L1 L2 LL hst
      generalize restF (voteF cs k) (s + 1) = Rn at *
      generalize restF (voteF cs k) s = Rs at *
      generalize qSeats (voteF cs k) kd s.toNat = Qs at *
      generalize keepsB (voteF cs k) Qs = kq at *
      generalize voteF cs k = vs at *
      have hne : (kq != kq) = false := by simp
      go_wp2_with fail
      refine LM1.out.mono ?_
      rintro e w' ⟨rfl, rfl⟩
      go_wp2_with fail
      refine LS1.out.mono ?_
      rintro e w' ⟨rfl, rfl⟩
      go_wp2_with fail
      refine LD1.out.mono ?_
      rintro e w' ⟨rfl, rfl⟩
      go_wp2_with fail
      refine (C1.out _ (rd_of_own HO.out (Nat.le_refl _))).mono ?_
      rintro e v1 ⟨hb, a1, c1, rfl, o1⟩
      have HB1 := Lib.hid (below_then HB.out hb)
      have HO1 := Lib.hid (own_below HO.out hb)
      have O1 := Lib.hid o1
      clear hb HB HO o1 C1
      go_wp2_with fail
      refine (C2.out _ (rd_of_own HO1.out (Nat.le_refl _))).mono ?_
      rintro e v2 ⟨hb, a2, c2, rfl, o2⟩
      have HB2 := Lib.hid (below_then HB1.out hb)
      have HO2 := Lib.hid (own_below HO1.out hb)
      have O1b := Lib.hid (own_below O1.out hb)
      have O2 := Lib.hid o2
      clear hb HB1 HO1 o2 O1 C2
      go_wp2_with fail
      refine (C3.out _ (rd_of_own HO2.out (Nat.le_refl _)) _ _ (rd_of_own O1b.out (Nat.le_refl _))).mono ?_
      rintro e v3 ⟨rfl, hb⟩
      have HB3 := Lib.hid (below_then HB2.out hb)
      have HO3 := Lib.hid (own_below HO2.out hb)
      have O1c := Lib.hid (own_below O1b.out hb)
      have O2c := Lib.hid (own_below O2.out hb)
      clear hb HB2 HO2 O1b O2 C3
      go_wp2_with fail
      refine (C4.out _ (rd_of_own HO3.out (Nat.le_refl _)) _ _ (rd_of_own O2c.out (Nat.le_refl _))).mono ?_
      rintro e v4 ⟨rfl, hb⟩
      have HB4 := Lib.hid (below_then HB3.out hb)
      have HO4 := Lib.hid (own_below HO3.out hb)
      have O1d := Lib.hid (own_below O1c.out hb)
      have O2d := Lib.hid (own_below O2c.out hb)
      clear hb HB3 HO3 O1c O2c C4
      go_wp2_with fail
      refine (C5.out _ (rd_of_own HO4.out (Nat.le_refl _)) _ _ (rd_of_own O2d.out (Nat.le_refl _))).mono ?_
      rintro e v5 ⟨rfl, hb⟩
      have HB5 := Lib.hid (below_then HB4.out hb)
      have HO5 := Lib.hid (own_below HO4.out hb)
      have O1e := Lib.hid (own_below O1d.out hb)
      have O2e := Lib.hid (own_below O2d.out hb)
      clear hb HB4 HO4 O1d O2d C5
      go_wp2_with fail
      refine (C6.out _ (rd_of_own HO5.out (Nat.le_refl _))).mono ?_
      rintro e v6 ⟨hb, a6, c6, rfl, o6⟩
      have HB6 := Lib.hid (below_then HB5.out hb)
      have HO6 := Lib.hid (own_below HO5.out hb)
      have O1f := Lib.hid (own_below O1e.out hb)
      have O2f := Lib.hid (own_below O2e.out hb)
      have O6 := Lib.hid o6
      clear hb HB5 HO5 O1e O2e o6 C6
      have tR : ((Rs.length : Int) != (k : Int)) = false := by have := Hrl.out; simp [this]
      have tS : (s != s) = false := by simp
      go_wp2_with fail
      refine (b10Ints_any _ a2 a6 c2 c6 Qs (rd_of_own O2f.out (Nat.le_refl _)) (rd_of_own O6.out (Nat.le_refl _)) (by have := Hql.out; omega)).mono ?_
      rintro e v7 ⟨rfl, m7, rfl⟩
      have hb := below_drewN (Below.refl v6.heap.size v6) m7
      have HB7 := Lib.hid (below_then HB6.out hb)
      have HO7 := Lib.hid (own_below HO6.out hb)
      have O1g := Lib.hid (own_below O1f.out hb)
      have O2g := Lib.hid (own_below O2f.out hb)
      clear hb HB6 HO6 O1f O2f O6
      obtain ⟨w7, hw7⟩ : ∃ W, W = v6.drewN m7 := ⟨_, rfl⟩
      rw [← hw7] at HB7 HO7 O1g O2g
      rw [← hw7]
      clear hw7
      go_wp2_with fail
      refine (S1.out _ _ _ (rd_of_own O1g.out (Nat.le_refl _))).mono ?_
      rintro e v7 ⟨rfl, rfl⟩
      go_wp2_with fail
      refine (S2.out _ _ _ (rd_of_own O2g.out (Nat.le_refl _))).mono ?_
      rintro e v7 ⟨rfl, rfl⟩
      obtain ⟨bV, oV, rfl, _, hcV⟩ := (rd_of_own HO7.out (Nat.le_refl _)).at (k := 0) (by rw [Hlen.out]; exact n1)
      obtain ⟨bQ, oQ, rfl, _, hcQ⟩ := (rd_of_own O2g.out (Nat.le_refl _)).at (k := 0) (by rw [Hql.out]; exact n1)
      have HcV : Hid (∀ j, j < k → w7.cell? ⟨bV, oV + j, none⟩ = some (.int .i64 (vs.getD j 0))) := fun j hj => hcV j (by rw [Hlen.out]; exact hj)
      have HcQ : Hid (∀ j, j < k → w7.cell? ⟨bQ, oQ + j, none⟩ = some (.int .i64 (Qs.getD j 0))) := fun j hj => hcQ j (by rw [Hql.out]; exact hj)
      clear hcV hcQ
      go_wp2_with fail
      go_loopw [152] (fun ii wr => ∃ (i m : Nat), i ≤ k ∧ ii = .int .i64 i ∧ wr = w7.drewN m) (fun ii _ => k - (intOf ii).toNat)
      case atStart => exact ⟨0, 0, Nat.zero_le _, rfl, rfl⟩
      case round =>
        obtain ⟨i, m, hi, rfl, rfl⟩ := hrel
        by_cases hil : i < k
        · have v1 := HcV.out i hil
          have q1 := HcQ.out i hil
          have il3 : i < Qs.length := by rw [Hql.out]; exact hil
          obtain ⟨X0, X1⟩ := Hvb.out i hil
          obtain ⟨Q0, Q1⟩ := Hqb.out i hil
          have HFi := Lib.hid (fun j hj => Hfair.out i j hil hj)
          generalize vs.getD i 0 = X at *
          generalize Qs.getD i 0 = Q at *
          go_wp2_with fail
          go_loopw [157] (fun qq wi => ∃ (q m2 : Nat), q ≤ k ∧ qq = .int .i64 q ∧ wi = w7.drewN m2) (fun qq _ => k - (intOf qq).toNat)
          case atStart => exact ⟨0, m, Nat.zero_le _, rfl, rfl⟩
          case round =>
            obtain ⟨q, m2, hq, rfl, rfl⟩ := hrel
            by_cases hqk : q < k
            case neg =>
              have : q = k := by omega
              subst this
              go_wp2_with fail
              go_roundw
              case rel => exact ⟨i + 1, m2, by omega, by go_num, rfl⟩
              case measure => simp [intOf]; omega
            have v2 := HcV.out q hqk
            have q2 := HcQ.out q hqk
            have ql3 : q < Qs.length := by rw [Hql.out]; exact hqk
            obtain ⟨Y0, Y1⟩ := Hvb.out q hqk
            obtain ⟨P0, P1⟩ := Hqb.out q hqk
            have HF := Lib.hid (HFi.out q hqk)
            generalize vs.getD q 0 = Y at *
            generalize Qs.getD q 0 = P at *
            have a1 : 0 ≤ X * P := Int.mul_nonneg X0 P0
            have a2 : X * P ≤ 200 * 30 := Int.mul_le_mul X1 P1 P0 (by omega)
            have a3 : 0 ≤ Y * (Q + 1) := Int.mul_nonneg Y0 (by omega)
            have a4 : Y * (Q + 1) ≤ 200 * 31 := Int.mul_le_mul Y1 (by omega) (by omega) (by omega)
            have a5 : 0 ≤ Y * (2 * Q + 1) := Int.mul_nonneg Y0 (by omega)
            have a6 : Y * (2 * Q + 1) ≤ 200 * 61 := Int.mul_le_mul Y1 (by omega) (by omega) (by omega)
            have a7 : X * (2 * P - 1) ≤ 200 * 60 := by
              rw [Int.mul_sub, Int.mul_one, Int.mul_left_comm]; omega
            have a8 : -200 ≤ X * (2 * P - 1) := by
              rw [Int.mul_sub, Int.mul_one, Int.mul_left_comm]; omega
            cases t0 : ((kd : Int) == 0) with
            | true =>
              have t1 : (kd == 1) = false := by have := eq_of_beq t0; simp [this]
              cases g : decide (0 < P) with
              | false =>
                clear HF
                go_wp2_with fail
                go_quiet (fail)
                go_wp2_with fail
                go_quiet (fail)
                go_wp2_with fail
                go_roundw
                case rel => exact ⟨q + 1, _, by omega, by go_num, by first | rfl | exact World.drewN_drewN _ _ _ | (rw [World.drewN_drewN, World.drewN_drewN])⟩
                case measure => simp [intOf]; omega
              | true =>
                have c : decide (Y * (Q + 1) < X * P) = false := decide_eq_false (by have := (HF.out (of_decide_eq_true g)).1 (eq_of_beq t0); omega)
                clear HF
                go_wp2_with fail
                go_quiet (fail)
                go_wp2_with fail
                go_quiet (fail)
                go_wp2_with fail
                go_roundw
                case rel => exact ⟨q + 1, _, by omega, by go_num, by first | rfl | exact World.drewN_drewN _ _ _ | (rw [World.drewN_drewN, World.drewN_drewN])⟩
                case measure => simp [intOf]; omega
            | false =>
              cases t1 : (kd == 1) with
              | false =>
                clear HF
                go_wp2_with fail
                go_quiet (fail)
                go_wp2_with fail
                go_quiet (fail)
                go_wp2_with fail
                go_roundw
                case rel => exact ⟨q + 1, _, by omega, by go_num, by first | rfl | exact World.drewN_drewN _ _ _ | (rw [World.drewN_drewN, World.drewN_drewN])⟩
                case measure => simp [intOf]; omega
              | true =>
                cases g : decide (0 < P) with
                | false =>
                  clear HF
                  go_wp2_with fail
                  go_quiet (fail)
                  go_wp2_with fail
                  go_quiet (fail)
                  go_wp2_with fail
                  go_roundw
                  case rel => exact ⟨q + 1, _, by omega, by go_num, by first | rfl | exact World.drewN_drewN _ _ _ | (rw [World.drewN_drewN, World.drewN_drewN])⟩
                  case measure => simp [intOf]; omega
                | true =>
                  have c : decide (Y * (2 * Q + 1) < X * (2 * P - 1)) = false := decide_eq_false (by have := (HF.out (of_decide_eq_true g)).2 (eq_of_beq t1); omega)
                  clear HF
                  go_wp2_with fail
                  go_quiet (fail)
                  go_wp2_with fail
                  go_quiet (fail)
                  go_wp2_with fail
                  go_roundw
                  case rel => exact ⟨q + 1, _, by omega, by go_num, by first | rfl | exact World.drewN_drewN _ _ _ | (rw [World.drewN_drewN, World.drewN_drewN])⟩
                  case measure => simp [intOf]; omega
        · have : i = k := by omega
          subst this
          have hb := below_drewN (Below.refl w7.heap.size w7) m
          have HB8 := Lib.hid (below_then HB7.out hb)
          have HO8 := Lib.hid (own_below HO7.out hb)
          have O1h := Lib.hid (own_below O1g.out hb)
          have HlO := Lib.hid Hrl.out
          clear hb HB7 HO7 O1g O2g HcV HcQ Hvb Hqb Hfair
          obtain ⟨w8, hw8⟩ : ∃ W, W = w7.drewN m := ⟨_, rfl⟩
          rw [← hw8] at HB8 HO8 O1h
          rw [← hw8]
          clear hw8
          go_wp2_with fail
          refine (C7.out _ (rd_of_own HO8.out (Nat.le_refl _))).mono ?_
          rintro e v9 ⟨hb, a9, c9, rfl, o9⟩
          have HB9 := Lib.hid (below_then HB8.out hb)
          have HO9 := Lib.hid (own_below HO8.out hb)
          have O1i := Lib.hid (own_below O1h.out hb)
          have O9 := Lib.hid o9
          clear hb HB8 HO8 O1h o9 C7
          go_wp2_with fail
          refine (C8.out _ (rd_of_own HO9.out (Nat.le_refl _))).mono ?_
          rintro e v10 ⟨hb, rfl⟩
          have HB10 := Lib.hid (below_then HB9.out hb)
          have O1j := Lib.hid (own_below O1i.out hb)
          have O9j := Lib.hid (own_below O9.out hb)
          clear hb HB9 HO9 O1i O9 C8
          obtain ⟨bR, oR, rfl, _, hcR⟩ := (rd_of_own O1j.out (Nat.le_refl _)).at (k := 0) (by rw [Hrl.out]; exact n1)
          obtain ⟨bN, oN, rfl, _, hcN⟩ := (rd_of_own O9j.out (Nat.le_refl _)).at (k := 0) (by rw [Hnl.out]; exact n1)
          have HcR : Hid (∀ j, j < i → v10.cell? ⟨bR, oR + j, none⟩ = some (.int .i64 (Rs.getD j 0))) := fun j hj => hcR j (by rw [Hrl.out]; exact hj)
          have HcN : Hid (∀ j, j < i → v10.cell? ⟨bN, oN + j, none⟩ = some (.int .i64 (Rn.getD j 0))) := fun j hj => hcN j (by rw [Hnl.out]; exact hj)
          have tN : ((Rn.length : Int) != (i : Int)) = false := by have := Hnl.out; simp [this]
          have hz : lostS Rs Rn 0 = -1 := rfl
          clear hcR hcN O1j O9j
          go_wp2_with fail
          go_loopw [28, 251] (fun ff jj wr => ∃ (j m : Nat), j ≤ i ∧ jj = .int .i64 j ∧ ff = .int .i64 (lostS Rs Rn j) ∧ wr = v10.drewN m) (fun _ jj _ => i - (intOf jj).toNat)
          case atStart => exact ⟨0, 0, Nat.zero_le _, rfl, rfl, rfl⟩
          case round =>
            clear hz
            obtain ⟨j, m2, hj, rfl, rfl, rfl⟩ := hrel
            by_cases hji : j < i
            · have c1 := HcR.out j hji
              have c2 := HcN.out j hji
              have l1 : j < Rs.length := by rw [Hrl.out]; exact hji
              have l2 : j < Rn.length := by rw [Hnl.out]; exact hji
              have HS : Hid (lostS Rs Rn (j + 1) = if Rn.getD j 0 < Rs.getD j 0 ∧ lostS Rs Rn j < 0 then (j : Int) else lostS Rs Rn j) := rfl
              generalize Rs.getD j 0 = y at *
              generalize Rn.getD j 0 = z at *
              generalize lostS Rs Rn j = f at *
              cases t1 : decide (z < y) with
              | false =>
                have HS2 : Hid (lostS Rs Rn (j + 1) = f) := by rw [Hid, HS.out, if_neg (fun x => of_decide_eq_false t1 x.1)]
                clear HS
                go_wp2_with fail
                go_quiet (fail)
                go_wp2_with fail
                go_roundw
                case rel => exact ⟨j + 1, _, by omega, by go_num, by rw [HS2.out], by first | rfl | exact World.drewN_drewN _ _ _⟩
                case measure => simp [intOf]; omega
              | true =>
                cases t2 : decide (f < 0) with
                | false =>
                  have HS2 : Hid (lostS Rs Rn (j + 1) = f) := by rw [Hid, HS.out, if_neg (fun x => of_decide_eq_false t2 x.2)]
                  clear HS
                  go_wp2_with fail
                  go_quiet (fail)
                  go_wp2_with fail
                  go_roundw
                  case rel => exact ⟨j + 1, _, by omega, by go_num, by rw [HS2.out], by first | rfl | exact World.drewN_drewN _ _ _⟩
                  case measure => simp [intOf]; omega
                | true =>
                  have HS2 : Hid (lostS Rs Rn (j + 1) = j) := by rw [Hid, HS.out, if_pos ⟨of_decide_eq_true t1, of_decide_eq_true t2⟩]
                  clear HS
                  go_wp2_with fail
                  go_quiet (fail)
                  go_wp2_with fail
                  go_roundw
                  case rel => exact ⟨j + 1, _, by omega, by go_num, by rw [HS2.out], by first | rfl | exact World.drewN_drewN _ _ _⟩
                  case measure => simp [intOf]; omega
            · have : j = i := by omega
              subst this
              have HB11 := Lib.hid (below_drewN HB10.out m2)
              generalize lostS Rs Rn j = lw at *
              by_cases hl0 : 0 ≤ lw
              · have h1 := Hrv.out
                have h2 := Hrb.out
                rw [if_pos hl0] at h1 h2
                simp only [Option.getD_some, Option.isSome_some] at h1 h2
                subst h1 h2
                clear Hrv Hrb
                go_wp2_with fail
                go_ret
                exact ⟨rfl, HB11.out⟩
              · have h1 := Hrv.out
                have h2 := Hrb.out
                rw [if_neg hl0] at h1 h2
                simp only [Option.getD_none, Option.isSome_none] at h1 h2
                subst h1 h2
                clear Hrv Hrb
                go_wp2_with fail
                go_ret
                exact ⟨rfl, HB11.out⟩
end Go.Proofs.Ythofpfnccgfohaa
