/-
  Wishes, places, matches: the reference's road.
-/
import Derived.Test.YtdipckpcmnhpjaaMatIS
namespace Go.Proofs.Ytdipckpcmnhpjaa
set_option linter.unusedVariables false
set_option linter.unusedSimpArgs false
open Go.RowKit

theorem beq_flip (x y : Int) : (x == y) = (y == x) := by rw [Bool.eq_iff_iff, beq_iff_eq, beq_iff_eq]; exact eq_comm
theorem l05Place_any (w : World) (a : Option Addr) (c : Nat) (xs : List Int) (x : Int) (h : Rd w w.heap.size a (ints xs)) (hl : xs.length ≤ 1048576) :
    Calls Try.prog 85 #[.slice a xs.length c, .int .i64 x] w fun e w' => e = .returned (.int .i64 (placeI xs x)) ∧ w = w' := by
  have HH : Hid (∀ k, k < xs.length → (xs.getD k 0 == x) = true → (∀ j, j < k → (xs.getD j 0 == x) = false) → placeI xs x = k) := fun k hk hp hb => by
    have e : indexI xs x = k := findI_here hk (by rw [beq_flip]; exact hp) (fun j hj => by rw [beq_flip]; exact hb j hj)
    unfold placeI
    rw [e, if_neg (by omega)]
  have HZ : Hid ((∀ j, j < xs.length → (xs.getD j 0 == x) = false) → placeI xs x = xs.length) := fun hb => by
    have e : indexI xs x = -1 := findI_none (fun j hj => by rw [beq_flip]; exact hb j hj)
    unfold placeI
    rw [e, if_pos (by omega)]
  generalize placeI xs x = q at *
  go_enter Try.func85, Try.ntmps85
  go_wp2
  go_loop [8] (fun i => ∃ k : Nat, k ≤ xs.length ∧ i = .int .i64 k ∧ Hid (∀ j, j < k → (xs.getD j 0 == x) = false)) (fun i => xs.length - (intOf i).toNat)
  case atStart => exact ⟨0, Nat.zero_le _, rfl, fun j hj => by omega⟩
  case round =>
    obtain ⟨k, hk, rfl, ha⟩ := hrel
    by_cases hlt : k < xs.length
    · obtain ⟨b, o, y, rfl, hbb, hck, hx⟩ := h.get hlt
      have hgd := getD_of_get hx.out
      clear h
      cases hin : (y == x) with
      | false =>
        have hF : Hid (∀ j, j < k + 1 → (xs.getD j 0 == x) = false) := fun j hj => by
          by_cases e : j = k
          · rw [e, hgd, hin]
          · exact ha.out j (by omega)
        clear hgd
        go_wp2
        go_round
        case rel => exact ⟨k + 1, by omega, by go_num, hF⟩
        case measure => simp [intOf]; omega
      | true =>
        have hF : Hid (q = k) := HH.out k hlt (by rw [hgd, hin]) ha.out
        clear hgd
        go_wp2
        go_ret
        exact ⟨ret_int hF.out.symm, rfl⟩
    · have : k = xs.length := by omega
      subst this
      have hF : Hid (q = xs.length) := HZ.out ha.out
      go_wp2
      go_ret
      exact ⟨ret_int hF.out.symm, rfl⟩
theorem l05Takes_any (w : World) (a : Option Addr) (c : Nat) (xs : List Int) (x : Int) (h : Rd w w.heap.size a (ints xs)) (hl : xs.length ≤ 1048576) :
    Calls Try.prog 106 #[.slice a xs.length c, .int .i64 x] w fun e w' => e = .returned (.bool (containsI xs x)) ∧ w = w' := by
  have L := Lib.hid (l05Place_any w a c xs x h hl)
  have HF : Hid (containsI xs x = decide (placeI xs x < xs.length)) := (takesB_eq xs x).symm
  generalize placeI xs x = q at *
  clear h
  go_enter Try.func106, Try.ntmps106
  go_wp2_with (go_at_call 85; refine L.out.mono ?_; rintro e w' ⟨rfl, rfl⟩)
  go_ret
  exact ⟨ret_bool HF.out.symm, rfl⟩
theorem l05Dearer_any (w : World) (a : Option Addr) (c : Nat) (xs : List Int) (x y : Int) (h : Rd w w.heap.size a (ints xs)) (hl : xs.length ≤ 1048576) :
    Calls Try.prog 67 #[.slice a xs.length c, .int .i64 x, .int .i64 y] w fun e w' => e = .returned (.bool (dearB xs x y)) ∧ w = w' := by
  have L1 := Lib.hid (l05Place_any w a c xs x h hl)
  have L2 := Lib.hid (l05Place_any w a c xs y h hl)
  have HF : Hid (dearB xs x y = (decide (y < 0) || decide (placeI xs x < placeI xs y))) := rfl
  clear h
  generalize placeI xs x = p at *
  generalize placeI xs y = q at *
  by_cases hy : y < 0
  · rw [decide_eq_true hy, Bool.true_or] at HF
    go_enter Try.func67, Try.ntmps67
    go_wp2_with fail
    go_ret
    exact ⟨ret_bool HF.out.symm, rfl⟩
  · rw [decide_eq_false hy, Bool.false_or] at HF
    go_enter Try.func67, Try.ntmps67
    go_wp2_with fail
    refine L1.out.mono ?_
    rintro e w1 ⟨rfl, rfl⟩
    go_wp2_with fail
    refine L2.out.mono ?_
    rintro e w1 ⟨rfl, rfl⟩
    go_wp2_with fail
    go_ret
    exact ⟨ret_bool HF.out.symm, rfl⟩
set_option maxHeartbeats 2000000 in
theorem l05Pair_any (w : World) (b o : Nat) (a0 : Option Addr) (c0 : Nat) (x0 : List (List Int)) (a1 : Option Addr) (c1 : Nat) (x1 : List (List Int)) (d0 : w.cell? ⟨b, o, none⟩ = some (.slice a0 x0.length c0)) (d1 : w.cell? ⟨b, o + 1, none⟩ = some (.slice a1 x1.length c1))
    (h : RdWishes w w.heap.size a0 x0 a1 x1) (hin0 : ∀ y ∈ x0, y.length ≤ 1048576) (hin1 : ∀ y ∈ x1, y.length ≤ 1048576) (i k : Nat) (hi : i < x0.length) (hk : k < x1.length) :
    Calls Try.prog 66 #[.pointer (some ⟨b, o, none⟩), .int .i64 i, .int .i64 k] w fun e w' => e = .returned (.bool (pairB ⟨x0, x1⟩ i k)) ∧ w = w' := by
  obtain ⟨b2, o2, ys, a2, c2, e2, hb2, d2, _, hr2, hy2⟩ := h.1.get hi
  obtain ⟨b3, o3, zs, a3, c3, e3, hb3, d3, _, hr3, hy3⟩ := h.2.get hk
  subst e2 e3
  have L2 := Lib.hid (l05Takes_any _ a2 c2 ys k hr2 (hin0 ys (List.mem_of_getElem? hy2.out)))
  have L3 := Lib.hid (l05Takes_any _ a3 c3 zs i hr3 (hin1 zs (List.mem_of_getElem? hy3.out)))
  have HF : Hid (pairB ⟨x0, x1⟩ i k = (containsI ys k && containsI zs i)) := by
    show _ = _
    unfold pairB
    simp only [row_get hy2.out, row_get hy3.out]
  have i0 : (0 : Int) ≤ (i : Int) := Int.natCast_nonneg _
  have k0 : (0 : Int) ≤ (k : Int) := Int.natCast_nonneg _
  have i1 : (i : Int) < (x0.length : Int) := by omega
  have k1 : (k : Int) < (x1.length : Int) := by omega
  clear h hr2 hr3 hy2 hy3 hin0 hin1 hi hk
  cases t2 : containsI ys k with
  | false =>
    rw [t2] at L2 HF
    go_enter Try.func66, Try.ntmps66
    go_wp2_with fail
    refine L2.out.mono ?_
    rintro e w1 ⟨rfl, rfl⟩
    go_wp2_with fail
    go_ret
    exact ⟨ret_bool HF.out.symm, rfl⟩
  | true =>
    rw [t2, Bool.true_and] at HF
    rw [t2] at L2
    go_enter Try.func66, Try.ntmps66
    go_wp2_with fail
    refine L2.out.mono ?_
    rintro e w1 ⟨rfl, rfl⟩
    go_wp2_with fail
    refine L3.out.mono ?_
    rintro e w1 ⟨rfl, rfl⟩
    go_wp2_with fail
    go_ret
    exact ⟨ret_bool HF.out.symm, rfl⟩
set_option maxRecDepth 10000 in
set_option maxHeartbeats 4000000 in
theorem l05Lists_any (w : World) (a : Option Addr) (c : Nat) (xss : List (List Int)) (n : Nat) (h : RdII w w.heap.size a xss) (hl : xss.length ≤ 1048576) (hin : ∀ y ∈ xss, y.length ≤ 1048576) (hn : n ≤ 1048576) :
    Calls Try.prog 110 #[.slice a xss.length c, .int .i64 n] w fun e w' => e = .returned (.bool (listsB xss n)) ∧ ∃ q, w' = w.drewN q := by
  have Hh := Lib.hid h
  have Hin := Lib.hid hin
  have HF : Hid (listsB xss n = ((xss.all fun xs => onceB xs n) && decide (xss.length = n))) := rfl
  have hwr : IntKind.i64.wrap ((n : Int) - 1) = (n : Int) - 1 := IntWalk.i64_in _ (by omega)
  clear h hin
  go_enter Try.func110, Try.ntmps110
  go_wp2_with fail
  go_loopw [9] (fun iv wr => ∃ i m : Nat, i ≤ xss.length ∧ iv = .int .i64 i ∧ Hid (((xss.take i).all fun xs => onceB xs n) = true) ∧ wr = w.drewN m) (fun iv _ => xss.length - (intOf iv).toNat)
  case atStart => exact ⟨0, 0, Nat.zero_le _, rfl, by simp [Hid], rfl⟩
  case round =>
    obtain ⟨i, m, hi, rfl, hall, rfl⟩ := hrel
    by_cases hlt : i < xss.length
    · obtain ⟨b, o, ys, a', c', rfl, hbb, hck, hc', hr, hy⟩ := Hh.out.get hlt
      have hlen := Hin.out ys (List.mem_of_getElem? hy.out)
      go_wp2_with fail
      go_loopw [17] (fun kv wr => ∃ k q : Nat, k ≤ ys.length ∧ kv = .int .i64 k ∧ Hid (onceB (ys.take k) n = true) ∧ wr = w.drewN q) (fun kv _ => ys.length - (intOf kv).toNat)
      case atStart => exact ⟨0, m, Nat.zero_le _, rfl, by simp [onceB, allIn, Hid], rfl⟩
      case round =>
        obtain ⟨k, q, hk, rfl, hon, rfl⟩ := hrel
        by_cases hlk : k < ys.length
        · obtain ⟨b2, o2, x, rfl, hb2, hc2, hx⟩ := hr.get hlk
          have hl1 : (ys.take k).length = k := by simp; omega
          have L1 := Lib.hid (fun v => l00In_any x 0 ((n : Int) - 1) v)
          have L2 := Lib.hid (fun t => l00Has_any (w.drewN t) (some ⟨b2, o2, none⟩) c' (ys.take k) x (hr.take k) (by omega))
          rw [hl1] at L2
          have i0 : (0 : Int) ≤ (i : Int) := Int.natCast_nonneg _
          have i1 : (i : Int) < (xss.length : Int) := by omega
          have k0 : (0 : Int) ≤ (k : Int) := Int.natCast_nonneg _
          have k1 : (k : Int) < (ys.length : Int) := by omega
          cases h1 : inB x 0 ((n : Int) - 1) with
          | false =>
            have HB : Hid (listsB xss n = false) := by rw [Hid, HF.out, all_false (p := fun xs => onceB xs n) hy.out (onceB_out hx.out h1)]; rfl
            rw [h1] at L1
            clear hr hl1
            go_wp2_with fail
            go_quiet ((go_at_call 65; exact qs2 (L1.out _)))
            go_wp2_with fail
            go_ret
            exact ⟨ret_bool HB.out.symm, _, World.drewN_drewN _ _ _⟩
          | true =>
            rw [h1] at L1
            cases h2 : hasB (ys.take k) x with
            | true =>
              have HB : Hid (listsB xss n = false) := by rw [Hid, HF.out, all_false (p := fun xs => onceB xs n) hy.out (onceB_dup hx.out h2)]; rfl
              rw [h2] at L2
              clear hr hl1
              go_wp2_with fail
              go_quiet (first | (go_at_call 65; exact qs2 (L1.out _)) | (go_at_call 99; exact qs2 (L2.out _)))
              go_wp2_with fail
              go_ret
              exact ⟨ret_bool HB.out.symm, _, World.drewN_drewN _ _ _⟩
            | false =>
              have HO : Hid (onceB (ys.take (k + 1)) n = true) := onceB_step hx.out hon.out h1 h2
              rw [h2] at L2
              clear hr hl1 hon
              go_wp2_with fail
              go_quiet (first | (go_at_call 65; exact qs2 (L1.out _)) | (go_at_call 99; exact qs2 (L2.out _)))
              go_wp2_with fail
              go_roundw
              case rel => exact ⟨k + 1, q + nq, by omega, by go_num, HO, by first | rfl | exact World.drewN_drewN _ _ _⟩
              case measure => simp [intOf]; omega
        · have : k = ys.length := by omega
          subst this
          rw [List.take_length] at hon
          have HA : Hid (((xss.take (i + 1)).all fun xs => onceB xs n) = true) := all_take_succ hy.out hall.out hon.out
          clear hon hall hr
          go_wp2_with fail
          go_roundw
          case rel => exact ⟨i + 1, q, by omega, by go_num, HA, rfl⟩
          case measure => simp [intOf]; omega
    · have : i = xss.length := by omega
      subst this
      rw [List.take_length] at hall
      have HB : Hid (listsB xss n = ((xss.length : Int) == (n : Int))) := by
        rw [Hid, HF.out, hall.out, Bool.true_and]
        by_cases e : xss.length = n
        · simp [e]
        · have : ¬ (xss.length : Int) = (n : Int) := by omega
          simp [e, this]
      clear hall
      go_wp2_with fail
      go_ret
      exact ⟨ret_bool HB.out.symm, m, rfl⟩
set_option maxRecDepth 10000 in
set_option maxHeartbeats 4000000 in
theorem l05Is_any (w : World) (b o : Nat) (a0 : Option Addr) (c0 : Nat) (x0 : List (List Int)) (a1 : Option Addr) (c1 : Nat) (x1 : List (List Int)) (d0 : w.cell? ⟨b, o, none⟩ = some (.slice a0 x0.length c0)) (d1 : w.cell? ⟨b, o + 1, none⟩ = some (.slice a1 x1.length c1))
    (h : RdWishes w w.heap.size a0 x0 a1 x1) (hl0 : x0.length ≤ 1048576) (hin0 : ∀ y ∈ x0, y.length ≤ 1048576) (hl1 : x1.length ≤ 1048576) (hin1 : ∀ y ∈ x1, y.length ≤ 1048576) :
    Calls Try.prog 77 #[.pointer (some ⟨b, o, none⟩)] w fun e w' => e = .returned (.bool (wishB ⟨x0, x1⟩)) ∧ ∃ q, w' = w.drewN q := by
  have HF : Hid (wishB ⟨x0, x1⟩ = (inB x0.length 1 8 && listsB x0 x0.length && listsB x1 x0.length)) := rfl
  have L0 := Lib.hid (l05Lists_any w a0 c0 x0 x0.length h.1 hl0 hin0 hl0)
  have L1 := Lib.hid (fun q => l05Lists_any (w.drewN q) a1 c1 x1 x0.length h.2 hl1 hin1 hl0)
  clear h
  by_cases h1 : 1 ≤ x0.length
  case neg =>
    have : inB x0.length 1 8 = false := inB_no.2 (by omega)
    rw [this, Bool.false_and, Bool.false_and] at HF
    go_enter Try.func77, Try.ntmps77
    go_wp2_with fail
    go_ret
    exact ⟨ret_bool HF.out.symm, 0, rfl⟩
  by_cases h8 : x0.length ≤ 8
  case neg =>
    have : inB x0.length 1 8 = false := inB_no.2 (by omega)
    rw [this, Bool.false_and, Bool.false_and] at HF
    go_enter Try.func77, Try.ntmps77
    go_wp2_with fail
    go_ret
    exact ⟨ret_bool HF.out.symm, 0, rfl⟩
  have : inB x0.length 1 8 = true := inB_iff.2 (by omega)
  rw [this, Bool.true_and] at HF
  clear this
  cases t0 : listsB x0 x0.length with
  | false =>
    rw [t0] at HF L0
    go_enter Try.func77, Try.ntmps77
    go_wp2_with fail
    refine L0.out.mono ?_
    rintro e w1 ⟨rfl, q, rfl⟩
    go_wp2_with fail
    go_ret
    exact ⟨ret_bool HF.out.symm, q, rfl⟩
  | true =>
    rw [t0, Bool.true_and] at HF
    rw [t0] at L0
    go_enter Try.func77, Try.ntmps77
    go_wp2_with fail
    refine L0.out.mono ?_
    rintro e w1 ⟨rfl, q, rfl⟩
    go_wp2_with fail
    refine (L1.out q).mono ?_
    rintro e w1 ⟨rfl, q2, rfl⟩
    go_wp2_with fail
    go_ret
    exact ⟨ret_bool HF.out.symm, q + q2, by first | rfl | exact World.drewN_drewN _ _ _⟩
theorem partN_succ (w : Wi) (m : List Int) (k : Nat) : partN w m (k + 1) = (partN w m k && okB w (m.take k) (m.getD k 0)) := rfl
theorem partN_false {w : Wi} {m : List Int} {k : Nat} (hk : k < m.length) (h : okB w (m.take k) (m.getD k 0) = false) : partB w m = false := by
  rw [← Bool.not_eq_true]
  intro hp
  have := partN_at (k := m.length) hp hk
  rw [h] at this; cases this
set_option maxRecDepth 10000 in
set_option maxHeartbeats 4000000 in
theorem l05Match_any (w : World) (b o : Nat) (a0 : Option Addr) (c0 : Nat) (x0 : List (List Int)) (a1 : Option Addr) (c1 : Nat) (x1 : List (List Int)) (d0 : w.cell? ⟨b, o, none⟩ = some (.slice a0 x0.length c0)) (d1 : w.cell? ⟨b, o + 1, none⟩ = some (.slice a1 x1.length c1))
    (a : Option Addr) (c : Nat) (m : List Int) (h : RdWishes w w.heap.size a0 x0 a1 x1) (hl0 : x0.length ≤ 1048576) (hin0 : ∀ y ∈ x0, y.length ≤ 1048576) (hl1 : x1.length ≤ 1048576) (hin1 : ∀ y ∈ x1, y.length ≤ 1048576) (g : Rd w w.heap.size a (ints m)) (hl : m.length ≤ 1048576) (hc : m.length ≤ c) :
    Calls Try.prog 56 #[.pointer (some ⟨b, o, none⟩), .slice a m.length c] w fun e w' => e = .returned (.bool (wishB ⟨x0, x1⟩ && matchB ⟨x0, x1⟩ m)) ∧ ∃ q, w' = w.drewN q := by
  have LI := Lib.hid (l05Is_any w b o a0 c0 x0 a1 c1 x1 d0 d1 h hl0 hin0 hl1 hin1)
  cases t1 : wishB ⟨x0, x1⟩ with
  | false =>
    rw [t1] at LI
    clear h g hin0 hin1
    go_enter Try.func56, Try.ntmps56
    go_wp2_with fail
    refine LI.out.mono ?_
    rintro e w1 ⟨rfl, q, rfl⟩
    go_wp2_with fail
    go_ret
    exact ⟨rfl, q, rfl⟩
  | true =>
  rw [t1] at LI
  rw [Bool.true_and]
  have hv := wish_of t1
  have hln := Lib.hid hv.len
  have h8 := hv.n8
  simp only at h8 hln
  by_cases hn : m.length = x0.length
  case neg =>
    have HF : Hid (matchB ⟨x0, x1⟩ m = false) := by simp [Hid, matchB, hn]
    have hne : ((m.length : Int) != (x0.length : Int)) = true := by simp; omega
    clear h g hin0 hin1 hn
    go_enter Try.func56, Try.ntmps56
    go_wp2_with fail
    refine LI.out.mono ?_
    rintro e w1 ⟨rfl, q, rfl⟩
    go_wp2_with fail
    go_ret
    exact ⟨ret_bool HF.out.symm, q, rfl⟩
  have hne : ((m.length : Int) != (x0.length : Int)) = false := by simp; omega
  have HF : Hid (matchB ⟨x0, x1⟩ m = partB ⟨x0, x1⟩ m) := by simp [Hid, matchB, hn]
  have HN := Lib.hid hn
  have hwr : IntKind.i64.wrap ((m.length : Int) - 1) = (m.length : Int) - 1 := IntWalk.i64_in _ (by omega)
  have HOK : Hid (∀ k x, k < m.length → m[k]? = some x → okB ⟨x0, x1⟩ (m.take k) (m.getD k 0) = (decide (x = -1) || (inB x 0 ((m.length : Int) - 1) && !hasB (m.take k) x && pairB ⟨x0, x1⟩ k x.toNat))) := fun k x hk hx => by
    have e : (m.take k).length = k := by simp; omega
    unfold okB
    rw [getD_of_get hx, e, hn]
  have HFA : Hid (∀ k, k < m.length → okB ⟨x0, x1⟩ (m.take k) (m.getD k 0) = false → matchB ⟨x0, x1⟩ m = false) := fun k hk hf => by rw [HF.out]; exact partN_false hk hf
  have LP : Hid (∀ (q i k : Nat), i < m.length → k < m.length → _) := fun q i k hi hk => l05Pair_any (w.drewN q) b o a0 c0 x0 a1 c1 x1 d0 d1 h hin0 hin1 i k (by rw [← hn]; exact hi) (by rw [hln.out, ← hn]; exact hk)
  have G := Lib.hid g
  clear h g hin0 hin1 hn hv t1
  go_enter Try.func56, Try.ntmps56
  go_wp2_with fail
  refine LI.out.mono ?_
  rintro e w1 ⟨rfl, q0, rfl⟩
  go_wp2_with fail
  go_loopw [21] (fun iv wr => ∃ k q : Nat, k ≤ m.length ∧ iv = .int .i64 k ∧ Hid (partN ⟨x0, x1⟩ m k = true) ∧ wr = w.drewN q) (fun iv _ => m.length - (intOf iv).toNat)
  case atStart => exact ⟨0, q0, Nat.zero_le _, rfl, rfl, rfl⟩
  case round =>
    obtain ⟨k, q, hk, rfl, hp, rfl⟩ := hrel
    by_cases hlt : k < m.length
    · obtain ⟨b2, o2, x, rfl, hb2, hc2, hx⟩ := G.out.get hlt
      have hok := HOK.out k x hlt hx.out
      have k0 : (0 : Int) ≤ (k : Int) := Int.natCast_nonneg _
      have k1 : (k : Int) < (m.length : Int) := by omega
      have HS : Hid (okB ⟨x0, x1⟩ (m.take k) (m.getD k 0) = true → partN ⟨x0, x1⟩ m (k + 1) = true) := fun hh => by rw [partN_succ, hp.out, hh]; rfl
      have HZ := Lib.hid (HFA.out k hlt)
      by_cases hx1 : x = -1
      · have hd : (x == (-1 : Int)) = true := by rw [beq_iff_eq]; exact hx1
        rw [decide_eq_true hx1, Bool.true_or] at hok
        have HP := Lib.hid (HS.out hok)
        subst hx1
        clear hok HS HZ hp
        go_wp2_with fail
        go_roundw
        case rel => exact ⟨k + 1, q, by omega, by go_num, HP, rfl⟩
        case measure => simp [intOf]; omega
      · have hd : (x == (-1 : Int)) = false := by rw [beq_eq_false_iff_ne]; exact hx1
        rw [decide_eq_false hx1, Bool.false_or] at hok
        have hl1 : (m.take k).length = k := by simp; omega
        have L1 := Lib.hid (fun v => l00In_any x 0 ((m.length : Int) - 1) v)
        have L2 := Lib.hid (fun t => l00Has_any (w.drewN t) (some ⟨b2, o2, none⟩) c (m.take k) x (G.out.take k) (by omega))
        rw [hl1] at L2
        clear hl1
        cases h1 : inB x 0 ((m.length : Int) - 1) with
        | false =>
          rw [h1] at L1
          rw [h1, Bool.false_and, Bool.false_and] at hok
          have HB := Lib.hid (HZ.out hok)
          clear hok HS HZ hp
          go_wp2_with fail
          go_quiet ((go_at_call 65; exact qs2 (L1.out _)))
          go_wp2_with fail
          go_ret
          exact ⟨ret_bool HB.out.symm, _, World.drewN_drewN _ _ _⟩
        | true =>
          have hbd := inB_iff.1 h1
          rw [h1] at L1
          rw [h1, Bool.true_and] at hok
          cases h2 : hasB (m.take k) x with
          | true =>
            rw [h2] at L2
            rw [h2, Bool.not_true, Bool.false_and] at hok
            have HB := Lib.hid (HZ.out hok)
            clear hok HS HZ hp
            go_wp2_with fail
            go_quiet (first | (go_at_call 65; exact qs2 (L1.out _)) | (go_at_call 99; exact qs2 (L2.out _)))
            go_wp2_with fail
            go_ret
            exact ⟨ret_bool HB.out.symm, _, World.drewN_drewN _ _ _⟩
          | false =>
            obtain ⟨y, rfl⟩ : ∃ y : Nat, x = y := ⟨x.toNat, by omega⟩
            have L3 : Hid (∀ q, _) := fun q => LP.out q k y hlt (by omega)
            rw [h2] at L2
            rw [h2, Bool.not_false, Bool.true_and, Int.toNat_natCast] at hok
            cases h3 : pairB ⟨x0, x1⟩ k y with
            | true =>
              rw [h3] at L3 hok
              have HP := Lib.hid (HS.out hok)
              clear hok HS HZ hp
              go_wp2_with fail
              go_quiet (first | (go_at_call 65; exact qs2 (L1.out _)) | (go_at_call 99; exact qs2 (L2.out _)) | (go_at_call 66; exact qs2 (L3.out _)))
              go_wp2_with fail
              go_roundw
              case rel => exact ⟨k + 1, q + nq, by omega, by go_num, HP, by first | rfl | exact World.drewN_drewN _ _ _⟩
              case measure => simp [intOf]; omega
            | false =>
              rw [h3] at L3 hok
              have HB := Lib.hid (HZ.out hok)
              clear hok HS HZ hp
              go_wp2_with fail
              go_quiet (first | (go_at_call 65; exact qs2 (L1.out _)) | (go_at_call 99; exact qs2 (L2.out _)) | (go_at_call 66; exact qs2 (L3.out _)))
              go_wp2_with fail
              go_ret
              exact ⟨ret_bool HB.out.symm, _, World.drewN_drewN _ _ _⟩
    · have : k = m.length := by omega
      subst this
      have HB : Hid (matchB ⟨x0, x1⟩ m = true) := HF.out.trans hp.out
      clear hp
      go_wp2_with fail
      go_ret
      exact ⟨ret_bool HB.out.symm, q, rfl⟩
end Go.Proofs.Ytdipckpcmnhpjaa
