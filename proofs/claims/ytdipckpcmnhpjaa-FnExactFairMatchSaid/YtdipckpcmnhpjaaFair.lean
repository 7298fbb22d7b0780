/-
  FairMatch: both roads.
-/
import Derived.Test.YtdipckpcmnhpjaaAllS
import Derived.Test.YtdipckpcmnhpjaaRetT
namespace Go.Proofs.Ytdipckpcmnhpjaa
set_option linter.unusedVariables false
set_option linter.unusedSimpArgs false
open Go.RowKit

theorem placeI_bdF (xs : List Int) (x : Int) : 0 ≤ placeI xs x ∧ placeI xs x ≤ xs.length := by
  unfold placeI
  rcases indexI_bd xs x with h | ⟨k, h, hk, _⟩
  · rw [h, if_pos (by omega)]; omega
  · rw [h, if_neg (by omega)]; omega
theorem row_len {xss : List (List Int)} (h : ∀ y ∈ xss, y.length ≤ 1048576) (k : Nat) : (row xss k).length ≤ 1048576 := by
  unfold row
  by_cases hk : k < xss.length
  · simp [List.getD, List.getElem?_eq_getElem hk]; exact h _ (List.getElem_mem hk)
  · simp [List.getD, List.getElem?_eq_none (by omega : xss.length ≤ k)]
theorem sumPl_bd {w : Wi} (h0 : ∀ y ∈ w.L, y.length ≤ 1048576) (h1 : ∀ y ∈ w.R, y.length ≤ 1048576) (m : List Int) : ∀ k : Nat, 0 ≤ sumPl w m k ∧ sumPl w m k ≤ k * 2097152
  | 0 => by simp [sumPl]
  | k + 1 => by
    have := sumPl_bd h0 h1 m k
    rw [sumPl]
    split
    · omega
    · have p1 := placeI_bdF (row w.L k) (m.getD k 0)
      have p2 := placeI_bdF (row w.R (m.getD k 0).toNat) k
      have l1 := row_len h0 k
      have l2 := row_len h1 (m.getD k 0).toNat
      omega
theorem fold_snoc {α β : Type} (f : β → α → β) (b : β) {xs : List α} {k : Nat} {x : α} (h : xs[k]? = some x) : (xs.take (k + 1)).foldl f b = f ((xs.take k).foldl f b) x := by
  rw [List.take_add_one, h]; simp
theorem fold_some (w : Wi) {al : List (List Int)} (h : 1 ≤ al.length) : ∃ p, al.foldl (fairStep w) none = some p := by
  obtain ⟨k, hk⟩ : ∃ k, al.length = k + 1 := ⟨al.length - 1, by omega⟩
  have hlt : k < al.length := by omega
  have := fold_snoc (fairStep w) none (List.getElem?_eq_getElem hlt)
  rw [← hk, List.take_length] at this
  rw [this]
  exact fairStep_some w _ _
theorem fair_no1 {w : Wi} (h : allF w = none) : fairF w = none := by
  unfold allF at h
  unfold fairF
  split at h
  · cases h
  · rename_i h2; rw [if_neg h2]
theorem fair_yes {w : Wi} {al : List (List Int)} (h : allF w = some al) : fairF w = al.foldl (fairStep w) none ∧ al = allStabF w ∧ wishB w = true ∧ w.L.length ≤ 5 := by
  unfold allF at h
  split at h
  · rename_i h2
    injection h with h
    unfold fairF
    rw [if_pos h2, h]
    rw [Bool.and_eq_true, decide_eq_true_eq] at h2
    exact ⟨rfl, rfl, h2.1, h2.2⟩
  · cases h
/-- The best row so far: nobody's, or a row of the table. -/
def BestV (al : List (List Int)) (vs : List Value) (b : BestM) (u l : Value) : Prop := match b with
  | none => u = .slice none 0 0 ∧ l = .int .i64 0
  | some (m, s) => ∃ (q g c : Nat), al[q]? = some m ∧ vs[q]? = some (Value.slice (some ⟨g, 0, none⟩) m.length c) ∧ u = .slice (some ⟨g, 0, none⟩) m.length c ∧ l = .int .i64 s
def BestI (al : List (List Int)) (b : BestM) (u l : Value) : Prop := match b with
  | none => u = .int .i64 (-1) ∧ l = .int .i64 0
  | some (m, s) => ∃ q : Nat, al[q]? = some m ∧ u = .int .i64 q ∧ l = .int .i64 s
set_option maxRecDepth 10000 in
set_option maxHeartbeats 8000000 in
theorem fair_any (w : World) (a0 : Option Addr) (c0 : Nat) (x0 : List (List Int)) (a1 : Option Addr) (c1 : Nat) (x1 : List (List Int)) (h : RdWishes w w.heap.size a0 x0 a1 x1) (hl0 : x0.length ≤ 1048576) (hin0 : ∀ y ∈ x0, y.length ≤ 1048576) (hl1 : x1.length ≤ 1048576) (hin1 : ∀ y ∈ x1, y.length ≤ 1048576) :
    Calls Try.prog 43 #[.agg #[.slice a0 x0.length c0, .slice a1 x1.length c1]] w (RetT 2 w (fairF ⟨x0, x1⟩)) := by
  have X0 : Bx w (w.alloc (.cells #[.slice a0 x0.length c0, .slice a1 x1.length c1] 28)) [.slice a0 x0.length c0, .slice a1 x1.length c1] 28 := Bx.start w _ _
  have LA := Lib.hid (allStable_any _ a0 c0 x0 a1 c1 x1 (h.to X0.1) hl0 hin0 hl1 hin1)
  cases hall : allF ⟨x0, x1⟩ with
  | none =>
    rw [fair_no1 hall]
    rw [hall] at LA
    obtain ⟨q0, q1⟩ := X0.two
    clear h hin0 hin1
    go_enter Try.func43, Try.ntmps43
    go_wp2_with fail
    refine LA.out.mono ?_
    rintro e w1 ⟨hb1, rfl⟩
    have X1 := X0.next hb1
    clear hb1 q0 q1
    go_wp2_with fail
    go_ret3
    exact RetT.no X1.1
  | some al =>
  obtain ⟨hfair, hal, hw1, hw5⟩ := fair_yes hall
  rw [hall] at LA
  rw [hfair]
  have hv := wish_of hw1
  have LPL := Lib.hid (fun w' a c xs x => place_any w' a c xs x)
  have h8 := hv.n8
  simp only at h8
  have hln := Lib.hid hv.len
  simp only at hln
  have HMEM : Hid (∀ m, m ∈ al → m.length = x0.length ∧ ∀ (k : Nat) (x : Int), k < m.length → m[k]? = some x → m.getD k 0 = x ∧ (x < 0 ∨ ∃ y : Nat, x = y ∧ y < x0.length)) := fun m hm => by
    rw [hal] at hm
    have hst := stab_of (List.mem_filter.1 hm).2
    refine ⟨hst.len, fun k x hk hx => ⟨getD_of_get hx, ?_⟩⟩
    rw [← getD_of_get hx]
    rcases hst.val k hk with h | ⟨y, h, hy, _⟩
    · exact .inl (by omega)
    · exact .inr ⟨y, h, hy⟩
  have HFEW : Hid (al.length ≤ 7776) := by rw [hal]; exact allStab_few hw5
  have hfew := HFEW.out
  have HONE : Hid (1 ≤ al.length) := by rw [hal]; exact allStab_some hv
  have HSOME : Hid (∃ p, al.foldl (fairStep ⟨x0, x1⟩) none = some p) := fold_some ⟨x0, x1⟩ HONE.out
  have HBD : Hid (∀ (m : List Int) (k : Nat), 0 ≤ sumPl ⟨x0, x1⟩ m k ∧ sumPl ⟨x0, x1⟩ m k ≤ k * 2097152) := fun m k => sumPl_bd hin0 hin1 m k
  have HPB : Hid (∀ (xs : List Int) (x : Int), 0 ≤ placeI xs x ∧ placeI xs x ≤ xs.length) := placeI_bdF
  have HSP : Hid (∀ (m : List Int) (k : Nat) (x : Int), m.getD k 0 = x → x < 0 → sumPl ⟨x0, x1⟩ m (k + 1) = sumPl ⟨x0, x1⟩ m k) := fun m k x h1 h2 => by rw [sumPl, if_pos (by omega)]
  have HSQ : Hid (∀ (m : List Int) (k y : Nat) (ys zs : List Int), m.getD k 0 = (y : Int) → x0[k]? = some ys → x1[y]? = some zs → sumPl ⟨x0, x1⟩ m (k + 1) = sumPl ⟨x0, x1⟩ m k + (placeI ys y + placeI zs k)) := fun m k y ys zs h1 h2 h3 => by
    rw [sumPl, if_neg (by omega), h1, Int.toNat_natCast]
    simp only [row_get h2, row_get h3]
  have HSTEP : Hid (∀ (b : BestM) (m : List Int), fairStep ⟨x0, x1⟩ b m = match b with
    | none => some (m, sumPl ⟨x0, x1⟩ m m.length)
    | some (c, l) => if sumPl ⟨x0, x1⟩ m m.length < l then some (m, sumPl ⟨x0, x1⟩ m m.length) else some (c, l)) := fun _ _ => rfl
  have HSZ : Hid (∀ m : List Int, sumPl ⟨x0, x1⟩ m 0 = 0) := fun _ => rfl
  have Hh := Lib.hid h
  have Hin0 := Lib.hid hin0
  have Hin1 := Lib.hid hin1
  generalize hfo : fairStep ⟨x0, x1⟩ = fo at *
  generalize hsp : sumPl ⟨x0, x1⟩ = sp at *
  clear h hin0 hin1 hv hal hw5 hw1 hfo hsp
  have hen := fun (w : World) (a : Option Addr) (n c : Nat) => Lib.run_eql_slice_nil (P := Try.prog) w 25 2 a n c 0 0 Try.underlying25
  clear hall hfair
  obtain ⟨q0, q1⟩ := X0.two
  go_enter Try.func43, Try.ntmps43
  go_wp2_with fail
  refine LA.out.mono ?_
  rintro e w1 ⟨hb1, a, c, rfl, ho⟩
  have X1 := X0.next hb1
  have XW : Hid (∀ w', Below w1.heap.size w1 w' → Bx w w' [.slice a0 x0.length c0, .slice a1 x1.length c1] 28) := fun w' hb => X1.next hb
  obtain ⟨vs, hR⟩ := ho
  have HR := Lib.hid hR
  have HRD : Hid (Rd w1 w1.heap.size a vs) := rd_of_own hR.out (Nat.le_refl _)
  have HVL := Lib.hid hR.len
  clear hb1 q0 q1 X0 X1 LA hR
  go_wp2_with fail
  go_loopw [7, 8, 23] (fun u7 u8 jv wr => ∃ (j : Nat) (b : BestM), j ≤ al.length ∧ jv = .int .i64 j ∧ Hid ((al.take j).foldl fo none = b) ∧ Hid (BestV al vs b u7 u8) ∧ Below w1.heap.size w1 wr) (fun _ _ jv _ => al.length - (intOf jv).toNat)
  case atStart => exact ⟨0, none, Nat.zero_le _, rfl, rfl, ⟨rfl, rfl⟩, Below.refl _ _⟩
  case round =>
    obtain ⟨j, b, hj, rfl, hfold, hbest, hwr⟩ := hrel
    by_cases hlt : j < al.length
    · obtain ⟨b9, o9, v9, e9, hb9, hc9, hv9⟩ := HRD.out.getV (k := j) (by rw [HVL.out]; exact hlt)
      have hm := List.getElem?_eq_getElem hlt
      obtain ⟨m, hmm⟩ : ∃ m, m = al[j] := ⟨_, rfl⟩
      rw [← hmm] at hm
      clear hmm
      obtain ⟨g, c9, hrow, hI⟩ := HR.out.row j m hm
      have ev : v9 = .slice (some ⟨g, 0, none⟩) m.length c9 := by
        have := hv9.out
        rw [hrow] at this
        injection this with this
        exact this.symm
      subst ev
      obtain ⟨hml, hmv⟩ := HMEM.out m (List.mem_of_getElem? hm)
      have HMV := Lib.hid hmv
      have HMR := Lib.hid hI.rd
      have d9 := (hwr.cell (p := ⟨b9, o9 + j, none⟩) hb9).trans hc9
      have HF := Lib.hid (fold_snoc fo none hm)
      rw [hfold.out, HSTEP.out] at HF
      have HM := Lib.hid hm
      have HRW := Lib.hid hrow
      have Hml := Lib.hid hml
      have hm8 : m.length ≤ 8 := by omega
      subst e9
      obtain ⟨wo, hwo⟩ : ∃ W : World, W = wr := ⟨_, rfl⟩
      subst hwo
      clear hm hrow hI hmv hv9 hc9 hml
      go_wp2_with fail
      go_loopw [11, 29] (fun sv kv wr => ∃ k : Nat, k ≤ m.length ∧ kv = .int .i64 k ∧ sv = .int .i64 (sp m k) ∧ Below w1.heap.size w1 wr) (fun _ kv _ => m.length - (intOf kv).toNat)
      case atStart => exact ⟨0, Nat.zero_le _, rfl, by rw [HSZ.out m], hwr⟩
      case round =>
        clear hwr d9
        obtain ⟨k, hk, rfl, rfl, hwr⟩ := hrel
        by_cases hlk : k < m.length
        · have hkx : k < x0.length := by rw [← Hml.out]; exact hlk
          obtain ⟨b4, o4, x, e4, hb4, hc4, hx4⟩ := HMR.out.get hlk
          injection e4 with e4
          injection e4 with e4 e5
          subst e4 e5
          have d4 : wr.cell? ⟨g, k, none⟩ = some (.int .i64 x) := by
            have := (hwr.cell (p := ⟨g, 0 + k, none⟩) hb4).trans hc4
            rwa [Nat.zero_add] at this
          obtain ⟨hgd, hxv⟩ := HMV.out k x hlk hx4.out
          clear hc4
          rcases hxv with hx0 | ⟨y, rfl, hy⟩
          · have HS2 := Lib.hid (HSP.out m k x hgd hx0)
            clear hgd
            go_wp2_with fail
            go_roundw
            case rel => exact ⟨k + 1, by omega, by go_num, by rw [HS2.out], hwr⟩
            case measure => simp [intOf]; omega
          · obtain ⟨b2, o2, ys, a2, c2, e2, hb2, hc2, _, hr2, hy2⟩ := (Hh.out.1).get (k := k) (by omega)
            obtain ⟨b3, o3, zs, a3, c3, e3, hb3, hc3, _, hr3, hy3⟩ := (Hh.out.2).get (k := y) (by rw [hln.out]; exact hy)
            have hWB : Hid (∀ w', Below wr.heap.size wr w' → Below w.heap.size w w') := fun w' hb => below_then (XW.out wr hwr).1 hb
            have hX : Hid (∀ w', Below wr.heap.size wr w' → Bx w w' [.slice a0 x0.length c0, .slice a1 x1.length c1] 28) := fun w' hb => (XW.out wr hwr).next hb
            have F0 : ∀ z : Later wr, z.w'.cell? ⟨w.heap.size, 0, none⟩ = some (.slice a0 x0.length c0) := fun z => (hX.out _ z.h).two.1
            have F1 : ∀ z : Later wr, z.w'.cell? ⟨w.heap.size, 1, none⟩ = some (.slice a1 x1.length c1) := fun z => (hX.out _ z.h).two.2
            have F2 : ∀ z : Later wr, z.w'.cell? ⟨b2, o2 + k, none⟩ = some (.slice a2 ys.length c2) := fun z => ((hWB.out _ z.h).cell (p := ⟨b2, o2 + k, none⟩) hb2).trans hc2
            have F3 : ∀ z : Later wr, z.w'.cell? ⟨b3, o3 + y, none⟩ = some (.slice a3 zs.length c3) := fun z => ((hWB.out _ z.h).cell (p := ⟨b3, o3 + y, none⟩) hb3).trans hc3
            have LP2 : Hid (∀ w', Below wr.heap.size wr w' → _) := fun w' hb => LPL.out w' a2 c2 ys y (hr2.to (hWB.out w' hb)) (Hin0.out ys (List.mem_of_getElem? hy2.out))
            have LP3 : Hid (∀ w', Below wr.heap.size wr w' → _) := fun w' hb => LPL.out w' a3 c3 zs k (hr3.to (hWB.out w' hb)) (Hin1.out zs (List.mem_of_getElem? hy3.out))
            have HS2 := Lib.hid (HSQ.out m k y ys zs hgd hy2.out hy3.out)
            have p1 := HPB.out ys y
            have p2 := HPB.out zs k
            have l1 := Hin0.out ys (List.mem_of_getElem? hy2.out)
            have l2 := Hin1.out zs (List.mem_of_getElem? hy3.out)
            have hb0 := HBD.out m k
            subst e2 e3
            generalize placeI ys y = p at *
            generalize placeI zs k = q at *
            generalize hs0 : sp m k = s0 at *
            have hw1' : IntKind.i64.wrap (p + q) = p + q := IntWalk.i64_in _ (by omega)
            have hw2' : IntKind.i64.wrap (s0 + (p + q)) = s0 + (p + q) := IntWalk.i64_in _ (by omega)
            have k0 : (0 : Int) ≤ (k : Int) := Int.natCast_nonneg _
            have k1 : (k : Int) < (x0.length : Int) := by omega
            have y0 : (0 : Int) ≤ (y : Int) := Int.natCast_nonneg _
            have y1 : (y : Int) < (x1.length : Int) := by rw [hln.out]; omega
            clear hc2 hc3 hr2 hr3 hy2 hy3 hgd hs0 p1 p2 hb0 hX hWB
            go_wp2_with fail
            refine wp_region_later (by kernel_rfl) (by kernel_rfl) ?_
            repeat (go_big_quiet_step (first | (go_at_call_of 86 a2; exact later_same (LP2.out _ (Later.h _))) | (go_at_call_of 86 a3; exact later_same (LP3.out _ (Later.h _)))))
            refine wpQuiet_nil ?_
            rintro wq ⟨⟨_, hbq⟩, rfl⟩
            have hwq := below_then hwr hbq
            clear F0 F1 F2 F3 hw1' hw2'
            go_wp2_with fail
            go_roundw
            case rel => exact ⟨k + 1, by omega, by go_num, by rw [HS2.out], hwq⟩
            case measure => simp [intOf]; omega
        · have hkk : k = m.length := by omega
          subst hkk
          generalize sp m m.length = s at *
          cases b with
          | none =>
            obtain ⟨rfl, rfl⟩ := hbest.out
            go_wp2_with fail
            go_roundw
            case rel => exact ⟨j + 1, some (m, s), by omega, by go_num, HF.out, ⟨j, g, c9, HM.out, HRW.out, rfl, rfl⟩, hwr⟩
            case measure => simp [intOf]; omega
          | some p =>
            obtain ⟨m0, l0⟩ := p
            obtain ⟨q0, g0, c0', i1, i2, rfl, rfl⟩ := hbest.out
            have I1 := Lib.hid i1
            have I2 := Lib.hid i2
            clear i1 i2
            by_cases hsl : s < l0
            · have HF2 : Hid ((al.take (j + 1)).foldl fo none = some (m, s)) := by rw [Hid, HF.out]; simp only; rw [if_pos hsl]
              clear HF
              go_wp2_with fail
              go_roundw
              case rel => exact ⟨j + 1, some (m, s), by omega, by go_num, HF2.out, ⟨j, g, c9, HM.out, HRW.out, rfl, rfl⟩, hwr⟩
              case measure => simp [intOf]; omega
            · have HF2 : Hid ((al.take (j + 1)).foldl fo none = some (m0, l0)) := by rw [Hid, HF.out]; simp only; rw [if_neg hsl]
              clear HF
              go_wp2_with fail
              go_roundw
              case rel => exact ⟨j + 1, some (m0, l0), by omega, by go_num, HF2.out, ⟨q0, g0, c0', I1.out, I2.out, rfl, rfl⟩, hwr⟩
              case measure => simp [intOf]; omega
    · have hjj : j = al.length := by omega
      subst hjj
      rw [List.take_length] at hfold
      cases b with
      | none =>
        obtain ⟨p, hp⟩ := HSOME.out
        have := hfold.out
        rw [hp] at this
        cases this
      | some p =>
        obtain ⟨m0, l0⟩ := p
        obtain ⟨q0, g0, c0', i1, i2, rfl, rfl⟩ := hbest.out
        have HFIN : Hid (RetT 2 w (al.foldl fo none) (.returned (.tuple #[.slice (some ⟨g0, 0, none⟩) m0.length c0', .int .i64 l0, .bool true])) wr) := by
          rw [hfold.out]
          obtain ⟨g2, c2', k1, k2⟩ := HR.out.row q0 m0 i1
          rw [i2] at k1
          injection k1 with k1
          injection k1 with k1 _ k3
          injection k1 with k1
          injection k1 with k1 _
          subst k1 k3
          refine ⟨(XW.out wr hwr).1, _, _, rfl, ?_⟩
          exact own_base (own_below k2.1 hwr) (by simp)
        clear hfold hbest i1 i2
        go_wp2_with fail
        go_ret3
        exact HFIN.out
set_option maxRecDepth 10000 in
set_option maxHeartbeats 8000000 in
theorem fairR_any (w : World) (a0 : Option Addr) (c0 : Nat) (x0 : List (List Int)) (a1 : Option Addr) (c1 : Nat) (x1 : List (List Int)) (h : RdWishes w w.heap.size a0 x0 a1 x1) (hl0 : x0.length ≤ 1048576) (hin0 : ∀ y ∈ x0, y.length ≤ 1048576) (hl1 : x1.length ≤ 1048576) (hin1 : ∀ y ∈ x1, y.length ≤ 1048576) :
    Calls Try.prog 42 #[.agg #[.slice a0 x0.length c0, .slice a1 x1.length c1]] w (RetT 2 w (fairF ⟨x0, x1⟩)) := by
  have X0 : Bx w (w.alloc (.cells #[.slice a0 x0.length c0, .slice a1 x1.length c1] 28)) [.slice a0 x0.length c0, .slice a1 x1.length c1] 28 := Bx.start w _ _
  have LV := Lib.hid (l05Is_any _ w.heap.size 0 a0 c0 x0 a1 c1 x1 X0.two.1 X0.two.2 (h.to X0.1) hl0 hin0 hl1 hin1)
  cases t1 : wishB ⟨x0, x1⟩ with
  | false =>
    rw [fair_no1 (all_no1 t1)]
    rw [t1] at LV
    clear h hin0 hin1 t1
    go_enter Try.func42, Try.ntmps42
    go_wp2_with fail
    refine LV.out.mono ?_
    rintro e w1 ⟨rfl, q, rfl⟩
    have X1 := X0.drewN q
    go_wp2_with fail
    go_ret3
    exact RetT.no X1.1
  | true =>
  rw [t1] at LV
  by_cases h5 : x0.length ≤ 5
  case neg =>
    rw [fair_no1 (all_no2 h5)]
    have hgt : (5 : Int) < (x0.length : Int) := by omega
    clear h hin0 hin1 t1
    go_enter Try.func42, Try.ntmps42
    go_wp2_with fail
    refine LV.out.mono ?_
    rintro e w1 ⟨rfl, q, rfl⟩
    have X1 := X0.drewN q
    obtain ⟨q0, q1⟩ := X1.two
    go_wp2_with fail
    go_ret3
    exact RetT.no X1.1
  obtain ⟨hfair, hal', hw1, hw5⟩ := fair_yes (all_yes t1 h5)
  rw [hfair]
  have hgt : ¬ (5 : Int) < (x0.length : Int) := by omega
  have LA : Hid (∀ w', Bx w w' [.slice a0 x0.length c0, .slice a1 x1.length c1] 28 → _) := fun w' X => l05All_any w' w.heap.size 0 a0 c0 x0 a1 c1 x1 X.two.1 X.two.2 X.2.lt (h.to X.1) hl0 hin0 hl1 hin1 t1 h5
  obtain ⟨al, hal⟩ : ∃ al, al = allStabF ⟨x0, x1⟩ := ⟨_, rfl⟩
  rw [← hal] at LA ⊢
  have hv := wish_of hw1
  have LPL := Lib.hid (fun w' a c xs x => l05Place_any w' a c xs x)
  have h8 := hv.n8
  simp only at h8
  have hln := Lib.hid hv.len
  simp only at hln
  have HMEM : Hid (∀ m, m ∈ al → m.length = x0.length ∧ ∀ (k : Nat) (x : Int), k < m.length → m[k]? = some x → m.getD k 0 = x ∧ (x < 0 ∨ ∃ y : Nat, x = y ∧ y < x0.length)) := fun m hm => by
    rw [hal] at hm
    have hst := stab_of (List.mem_filter.1 hm).2
    refine ⟨hst.len, fun k x hk hx => ⟨getD_of_get hx, ?_⟩⟩
    rw [← getD_of_get hx]
    rcases hst.val k hk with h | ⟨y, h, hy, _⟩
    · exact .inl (by omega)
    · exact .inr ⟨y, h, hy⟩
  have HFEW : Hid (al.length ≤ 7776) := by rw [hal]; exact allStab_few hw5
  have hfew := HFEW.out
  have HONE : Hid (1 ≤ al.length) := by rw [hal]; exact allStab_some hv
  have HSOME : Hid (∃ p, al.foldl (fairStep ⟨x0, x1⟩) none = some p) := fold_some ⟨x0, x1⟩ HONE.out
  have HBD : Hid (∀ (m : List Int) (k : Nat), 0 ≤ sumPl ⟨x0, x1⟩ m k ∧ sumPl ⟨x0, x1⟩ m k ≤ k * 2097152) := fun m k => sumPl_bd hin0 hin1 m k
  have HPB : Hid (∀ (xs : List Int) (x : Int), 0 ≤ placeI xs x ∧ placeI xs x ≤ xs.length) := placeI_bdF
  have HSP : Hid (∀ (m : List Int) (k : Nat) (x : Int), m.getD k 0 = x → x < 0 → sumPl ⟨x0, x1⟩ m (k + 1) = sumPl ⟨x0, x1⟩ m k) := fun m k x h1 h2 => by rw [sumPl, if_pos (by omega)]
  have HSQ : Hid (∀ (m : List Int) (k y : Nat) (ys zs : List Int), m.getD k 0 = (y : Int) → x0[k]? = some ys → x1[y]? = some zs → sumPl ⟨x0, x1⟩ m (k + 1) = sumPl ⟨x0, x1⟩ m k + (placeI ys y + placeI zs k)) := fun m k y ys zs h1 h2 h3 => by
    rw [sumPl, if_neg (by omega), h1, Int.toNat_natCast]
    simp only [row_get h2, row_get h3]
  have HSTEP : Hid (∀ (b : BestM) (m : List Int), fairStep ⟨x0, x1⟩ b m = match b with
    | none => some (m, sumPl ⟨x0, x1⟩ m m.length)
    | some (c, l) => if sumPl ⟨x0, x1⟩ m m.length < l then some (m, sumPl ⟨x0, x1⟩ m m.length) else some (c, l)) := fun _ _ => rfl
  have HSZ : Hid (∀ m : List Int, sumPl ⟨x0, x1⟩ m 0 = 0) := fun _ => rfl
  have Hh := Lib.hid h
  have Hin0 := Lib.hid hin0
  have Hin1 := Lib.hid hin1
  generalize hfo : fairStep ⟨x0, x1⟩ = fo at *
  generalize hsp : sumPl ⟨x0, x1⟩ = sp at *
  clear h hin0 hin1 hv hal hw5 hw1 hfo hsp
  clear hfair hal' t1 h5
  go_enter Try.func42, Try.ntmps42
  go_wp2_with fail
  refine LV.out.mono ?_
  rintro e w9 ⟨rfl, q, hq⟩
  have X9 : Bx w w9 [.slice a0 x0.length c0, .slice a1 x1.length c1] 28 := by rw [hq]; exact X0.drewN q
  have LA1 := Lib.hid (LA.out w9 X9)
  obtain ⟨q0, q1⟩ := X9.two
  have hs9 := X9.lt
  clear hq X0 LA LV
  go_wp2_with fail
  refine LA1.out.mono ?_
  rintro e w1 ⟨a, c, rfl, ho, hb1⟩
  have X1 := X9.next hb1
  have XW : Hid (∀ w', Below w1.heap.size w1 w' → Bx w w' [.slice a0 x0.length c0, .slice a1 x1.length c1] 28) := fun w' hb => X1.next hb
  obtain ⟨vs, hR⟩ := ho
  have HR := Lib.hid hR
  have HRD : Hid (Rd w1 w1.heap.size a vs) := rd_of_own hR.out (Nat.le_refl _)
  have HVL := Lib.hid hR.len
  clear hb1 q0 q1 X9 X1 LA1 hR
  go_wp2_with fail
  go_loopw [6, 7, 23] (fun u7 u8 jv wr => ∃ (j : Nat) (b : BestM), j ≤ al.length ∧ jv = .int .i64 j ∧ Hid ((al.take j).foldl fo none = b) ∧ Hid (BestI al b u7 u8) ∧ Below w1.heap.size w1 wr) (fun _ _ jv _ => al.length - (intOf jv).toNat)
  case atStart => exact ⟨0, none, Nat.zero_le _, rfl, rfl, ⟨rfl, rfl⟩, Below.refl _ _⟩
  case round =>
    obtain ⟨j, b, hj, rfl, hfold, hbest, hwr⟩ := hrel
    by_cases hlt : j < al.length
    · obtain ⟨b9, o9, v9, e9, hb9, hc9, hv9⟩ := HRD.out.getV (k := j) (by rw [HVL.out]; exact hlt)
      have hm := List.getElem?_eq_getElem hlt
      obtain ⟨m, hmm⟩ : ∃ m, m = al[j] := ⟨_, rfl⟩
      rw [← hmm] at hm
      clear hmm
      obtain ⟨g, c9, hrow, hI⟩ := HR.out.row j m hm
      have ev : v9 = .slice (some ⟨g, 0, none⟩) m.length c9 := by
        have := hv9.out
        rw [hrow] at this
        injection this with this
        exact this.symm
      subst ev
      obtain ⟨hml, hmv⟩ := HMEM.out m (List.mem_of_getElem? hm)
      have HMV := Lib.hid hmv
      have HMR := Lib.hid hI.rd
      have d9 := (hwr.cell (p := ⟨b9, o9 + j, none⟩) hb9).trans hc9
      have HF := Lib.hid (fold_snoc fo none hm)
      rw [hfold.out, HSTEP.out] at HF
      have HM := Lib.hid hm
      have HRW := Lib.hid hrow
      have Hml := Lib.hid hml
      have hm8 : m.length ≤ 8 := by omega
      subst e9
      obtain ⟨wo, hwo⟩ : ∃ W : World, W = wr := ⟨_, rfl⟩
      subst hwo
      have HC9 := Lib.hid hc9
      clear hm hrow hI hmv hv9 hc9 hml
      go_wp2_with fail
      go_loopw [9, 31] (fun sv kv wr => ∃ k : Nat, k ≤ m.length ∧ kv = .int .i64 k ∧ sv = .int .i64 (sp m k) ∧ Below w1.heap.size w1 wr) (fun _ kv _ => m.length - (intOf kv).toNat)
      case atStart => exact ⟨0, Nat.zero_le _, rfl, by rw [HSZ.out m], hwr⟩
      case round =>
        clear hwr d9
        obtain ⟨k, hk, rfl, rfl, hwr⟩ := hrel
        have d9 := (hwr.cell (p := ⟨b9, o9 + j, none⟩) hb9).trans HC9.out
        by_cases hlk : k < m.length
        · have hkx : k < x0.length := by rw [← Hml.out]; exact hlk
          obtain ⟨b4, o4, x, e4, hb4, hc4, hx4⟩ := HMR.out.get hlk
          injection e4 with e4
          injection e4 with e4 e5
          subst e4 e5
          have d4 : wr.cell? ⟨g, k, none⟩ = some (.int .i64 x) := by
            have := (hwr.cell (p := ⟨g, 0 + k, none⟩) hb4).trans hc4
            rwa [Nat.zero_add] at this
          obtain ⟨hgd, hxv⟩ := HMV.out k x hlk hx4.out
          clear hc4
          rcases hxv with hx0 | ⟨y, rfl, hy⟩
          · have HS2 := Lib.hid (HSP.out m k x hgd hx0)
            clear hgd
            go_wp2_with fail
            go_roundw
            case rel => exact ⟨k + 1, by omega, by go_num, by rw [HS2.out], hwr⟩
            case measure => simp [intOf]; omega
          · obtain ⟨b2, o2, ys, a2, c2, e2, hb2, hc2, _, hr2, hy2⟩ := (Hh.out.1).get (k := k) (by omega)
            obtain ⟨b3, o3, zs, a3, c3, e3, hb3, hc3, _, hr3, hy3⟩ := (Hh.out.2).get (k := y) (by rw [hln.out]; exact hy)
            have hWB : Hid (∀ w', Below wr.heap.size wr w' → Below w.heap.size w w') := fun w' hb => below_then (XW.out wr hwr).1 hb
            have hX : Hid (∀ w', Below wr.heap.size wr w' → Bx w w' [.slice a0 x0.length c0, .slice a1 x1.length c1] 28) := fun w' hb => (XW.out wr hwr).next hb
            have F0 : ∀ z : Later wr, z.w'.cell? ⟨w.heap.size, 0, none⟩ = some (.slice a0 x0.length c0) := fun z => (hX.out _ z.h).two.1
            have F1 : ∀ z : Later wr, z.w'.cell? ⟨w.heap.size, 1, none⟩ = some (.slice a1 x1.length c1) := fun z => (hX.out _ z.h).two.2
            have F2 : ∀ z : Later wr, z.w'.cell? ⟨b2, o2 + k, none⟩ = some (.slice a2 ys.length c2) := fun z => ((hWB.out _ z.h).cell (p := ⟨b2, o2 + k, none⟩) hb2).trans hc2
            have F3 : ∀ z : Later wr, z.w'.cell? ⟨b3, o3 + y, none⟩ = some (.slice a3 zs.length c3) := fun z => ((hWB.out _ z.h).cell (p := ⟨b3, o3 + y, none⟩) hb3).trans hc3
            have LP2 : Hid (∀ w', Below wr.heap.size wr w' → _) := fun w' hb => LPL.out w' a2 c2 ys y (hr2.to (hWB.out w' hb)) (Hin0.out ys (List.mem_of_getElem? hy2.out))
            have LP3 : Hid (∀ w', Below wr.heap.size wr w' → _) := fun w' hb => LPL.out w' a3 c3 zs k (hr3.to (hWB.out w' hb)) (Hin1.out zs (List.mem_of_getElem? hy3.out))
            have HS2 := Lib.hid (HSQ.out m k y ys zs hgd hy2.out hy3.out)
            have p1 := HPB.out ys y
            have p2 := HPB.out zs k
            have l1 := Hin0.out ys (List.mem_of_getElem? hy2.out)
            have l2 := Hin1.out zs (List.mem_of_getElem? hy3.out)
            have hb0 := HBD.out m k
            subst e2 e3
            generalize placeI ys y = p at *
            generalize placeI zs k = q at *
            generalize hs0 : sp m k = s0 at *
            have hw1' : IntKind.i64.wrap (p + q) = p + q := IntWalk.i64_in _ (by omega)
            have hw2' : IntKind.i64.wrap (s0 + (p + q)) = s0 + (p + q) := IntWalk.i64_in _ (by omega)
            have k0 : (0 : Int) ≤ (k : Int) := Int.natCast_nonneg _
            have k1 : (k : Int) < (x0.length : Int) := by omega
            have y0 : (0 : Int) ≤ (y : Int) := Int.natCast_nonneg _
            have y1 : (y : Int) < (x1.length : Int) := by rw [hln.out]; omega
            clear hc2 hc3 hr2 hr3 hy2 hy3 hgd hs0 p1 p2 hb0 hX hWB
            go_wp2_with fail
            refine wp_region_later (by kernel_rfl) (by kernel_rfl) ?_
            repeat (go_big_quiet_step (first | (go_at_call_of 85 a2; exact later_same (LP2.out _ (Later.h _))) | (go_at_call_of 85 a3; exact later_same (LP3.out _ (Later.h _)))))
            refine wpQuiet_nil ?_
            rintro wq ⟨⟨_, hbq⟩, rfl⟩
            have hwq := below_then hwr hbq
            clear F0 F1 F2 F3 hw1' hw2'
            go_wp2_with fail
            go_roundw
            case rel => exact ⟨k + 1, by omega, by go_num, by rw [HS2.out], hwq⟩
            case measure => simp [intOf]; omega
        · have hkk : k = m.length := by omega
          subst hkk
          generalize sp m m.length = s at *
          cases b with
          | none =>
            obtain ⟨rfl, rfl⟩ := hbest.out
            go_wp2_with fail
            go_roundw
            case rel => exact ⟨j + 1, some (m, s), by omega, by go_num, HF.out, ⟨j, HM.out, rfl, rfl⟩, hwr⟩
            case measure => simp [intOf]; omega
          | some p =>
            obtain ⟨m0, l0⟩ := p
            obtain ⟨q0, i1, rfl, rfl⟩ := hbest.out
            have I1 := Lib.hid i1
            clear i1
            have q00 : (0 : Int) ≤ (q0 : Int) := Int.natCast_nonneg _
            by_cases hsl : s < l0
            · have HF2 : Hid ((al.take (j + 1)).foldl fo none = some (m, s)) := by rw [Hid, HF.out]; simp only; rw [if_pos hsl]
              clear HF
              go_wp2_with fail
              go_roundw
              case rel => exact ⟨j + 1, some (m, s), by omega, by go_num, HF2.out, ⟨j, HM.out, rfl, rfl⟩, hwr⟩
              case measure => simp [intOf]; omega
            · have HF2 : Hid ((al.take (j + 1)).foldl fo none = some (m0, l0)) := by rw [Hid, HF.out]; simp only; rw [if_neg hsl]
              clear HF
              go_wp2_with fail
              go_roundw
              case rel => exact ⟨j + 1, some (m0, l0), by omega, by go_num, HF2.out, ⟨q0, I1.out, rfl, rfl⟩, hwr⟩
              case measure => simp [intOf]; omega
    · have hjj : j = al.length := by omega
      subst hjj
      rw [List.take_length] at hfold
      cases b with
      | none =>
        obtain ⟨p, hp⟩ := HSOME.out
        have := hfold.out
        rw [hp] at this
        cases this
      | some p =>
        obtain ⟨m0, l0⟩ := p
        obtain ⟨q0, i1, rfl, rfl⟩ := hbest.out
        have hq0 : q0 < al.length := (List.getElem?_eq_some_iff.1 i1).1
        obtain ⟨b9, o9, v9, e9, hb9, hc9, hv9⟩ := HRD.out.getV (k := q0) (by rw [HVL.out]; exact hq0)
        obtain ⟨g2, c2', k1, k2⟩ := HR.out.row q0 m0 i1
        have ev : v9 = .slice (some ⟨g2, 0, none⟩) m0.length c2' := by
          have := hv9.out
          rw [k1] at this
          injection this with this
          exact this.symm
        subst ev
        have d9 := (hwr.cell (p := ⟨b9, o9 + q0, none⟩) hb9).trans hc9
        subst e9
        have q00 : (0 : Int) ≤ (q0 : Int) := Int.natCast_nonneg _
        have q01 : (q0 : Int) < (al.length : Int) := by omega
        have HFIN : Hid (RetT 2 w (al.foldl fo none) (.returned (.tuple #[.slice (some ⟨g2, 0, none⟩) m0.length c2', .int .i64 l0, .bool true])) wr) := by
          rw [hfold.out]
          refine ⟨(XW.out wr hwr).1, _, _, rfl, ?_⟩
          exact own_base (own_below k2.1 hwr) (by omega)
        clear hfold hbest i1 k1 k2 hv9 hc9
        go_wp2_with fail
        go_ret3
        exact HFIN.out
end Go.Proofs.Ytdipckpcmnhpjaa
