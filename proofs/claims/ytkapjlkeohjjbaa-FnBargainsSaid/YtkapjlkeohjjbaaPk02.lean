/-
  Part 2 of what the proof stands on: lemmas and contracts, each with its conditions ahead of the colon.
-/
import Derived.Test.YtkapjlkeohjjbaaRows
import Derived.Laws.FloatArith
import Derived.WalkLawsBesides
import Derived.Test.YtkapjlkeohjjbaaPk01
namespace Go.Proofs.Ytkapjlkeohjjbaa
set_option linter.unusedVariables false
set_option linter.unusedSimpArgs false
open Go.RowKit

theorem anyB_succ (p : Nat → Bool) (k : Nat) : anyI p (k + 1) = (anyI p k || p k) := by
  have h1 := anyI_iff (p := p) (n := k + 1)
  have h2 := anyI_iff (p := p) (n := k)
  cases h : p k with
  | true =>
    rw [Bool.or_true]
    exact h1.2 ⟨k, by omega, h⟩
  | false =>
    rw [Bool.or_false]
    cases ha : anyI p k with
    | true =>
      obtain ⟨j, hj, hp⟩ := h2.1 ha
      exact h1.2 ⟨j, by omega, hp⟩
    | false =>
      cases hb : anyI p (k + 1) with
      | false => rfl
      | true =>
        obtain ⟨j, hj, hp⟩ := h1.1 hb
        by_cases e : j = k
        · subst e; rw [h] at hp; cases hp
        · have := h2.2 ⟨j, by omega, hp⟩
          rw [ha] at this; cases this
def rimL (xs : List Int) (n k : Nat) : List Int := ((List.range k).filter fun i => !anyI (domB xs i) n).map fun (j : Nat) => (j : Int)
theorem rimL_succ (xs : List Int) (n k : Nat) : rimL xs n (k + 1) = if anyI (domB xs k) n = true then rimL xs n k else rimL xs n k ++ [(k : Int)] := by
  unfold rimL
  rw [List.range_succ, List.filter_append]
  by_cases h : anyI (domB xs k) n = true
  · rw [if_pos h]; simp [h]
  · rw [if_neg h]; simp [h]
theorem rimL_len (xs : List Int) (n k : Nat) : (rimL xs n k).length ≤ k := by
  unfold rimL
  rw [List.length_map]
  exact Nat.le_trans (List.length_filter_le _ _) (by simp)
set_option maxRecDepth 10000 in
set_option maxHeartbeats 8000000 in
theorem rimR_any (w : World) (a : Option Addr) (c : Nat) (xs : List Int) (n : Nat) (h : Rd w w.heap.size a (ints xs)) (P : Pts xs n) :
    Calls Try.prog 13 #[.slice a xs.length c] w fun e w' => ∃ a' c', e = .returned (.tuple #[.slice a' (rimF xs n).length c', .bool true]) ∧ Rd w' w'.heap.size a' (ints (rimF xs n)) ∧ Below w.heap.size w w' := by
  have L1 := Lib.hid (l07Points_any w a c xs n h P)
  have h1 := P.len
  have h3 := P.few
  have hl1 : xs.length ≤ 2 * n ∧ 2 * n ≤ xs.length := by omega
  obtain ⟨hl1, hl2⟩ := hl1
  have HP := Lib.hid P.at
  have HR := Lib.hid h
  have HE : Hid (rimF xs n = rimL xs n n) := rfl
  have HO := Lib.hid (own_empty w 2)
  have HB0 := Lib.hid (bl1 w (.cells #[] 2))
  clear h P h1
  go_enter Try.func13, Try.ntmps13
  go_wp2_with fail
  refine L1.out.mono ?_
  rintro e w' ⟨rfl, rfl⟩
  go_wp2_with fail
  go_loopw [5, 4] (fun iv ov wr => ∃ (k : Nat) (v : Value), k ≤ n ∧ iv = .int .i64 (2 * (k : Int)) ∧ ov = v ∧ Hid (wr.ownsRow w.heap.size 2 1 v (rimL xs n k).length (ints (rimL xs n k))) ∧ Hid (Below w.heap.size w wr)) (fun iv _ _ => 2 * n - (intOf iv).toNat)
  case atStart => exact ⟨0, _, Nat.zero_le _, rfl, rfl, HO.out, HB0.out⟩
  case round =>
    clear HO HB0 L1
    obtain ⟨k, v, hk, rfl, rfl, ho, hw⟩ := hrel
    have k0 : (0 : Int) ≤ (k : Int) := Int.natCast_nonneg _
    by_cases hlt : k < n
    · have hki : 2 * (k : Int) < (xs.length : Int) := by omega
      obtain ⟨wo, hwo⟩ : ∃ W : World, W = wr := ⟨_, rfl⟩
      subst hwo
      have hsz := hw.out.size
      have hsucc := Lib.hid (rimL_succ xs n k)
      have hll := rimL_len xs n k
      obtain ⟨bx, ox, ax, hbx, hcx⟩ := (HR.out.to hw.out).at (k := 0) (by omega)
      subst ax
      have HCX := Lib.hid hcx
      clear hcx
      go_wp2_with fail
      go_loopw [7, 6] (fun jv rv wi => ∃ (j : Nat), j ≤ n ∧ jv = .int .i64 (2 * (j : Int)) ∧ rv = .bool (!anyI (domB xs k) j) ∧ Hid (Below wo.heap.size wo wi)) (fun jv _ _ => 2 * n - (intOf jv).toNat)
      case atStart => exact ⟨0, Nat.zero_le _, rfl, rfl, Below.refl _ _⟩
      case round =>
        obtain ⟨j, hj, rfl, rfl, hwi⟩ := hrel
        have j0 : (0 : Int) ≤ (j : Int) := Int.natCast_nonneg _
        by_cases hlj : j < n
        · have Q1 : Hid (∀ v9 : World, Below wo.heap.size wo v9 → v9.cell? ⟨bx, ox + 2 * k, none⟩ = some (.int .i64 (xs.getD (2 * k) 0))) := fun v9 hb => (hb.cell (p := ⟨bx, ox + 2 * k, none⟩) hbx).trans (HCX.out (2 * k) (by omega))
          have Q2 : Hid (∀ v9 : World, Below wo.heap.size wo v9 → v9.cell? ⟨bx, ox + (2 * k + 1), none⟩ = some (.int .i64 (xs.getD (2 * k + 1) 0))) := fun v9 hb => (hb.cell (p := ⟨bx, ox + (2 * k + 1), none⟩) hbx).trans (HCX.out (2 * k + 1) (by omega))
          have Q3 : Hid (∀ v9 : World, Below wo.heap.size wo v9 → v9.cell? ⟨bx, ox + 2 * j, none⟩ = some (.int .i64 (xs.getD (2 * j) 0))) := fun v9 hb => (hb.cell (p := ⟨bx, ox + 2 * j, none⟩) hbx).trans (HCX.out (2 * j) (by omega))
          have Q4 : Hid (∀ v9 : World, Below wo.heap.size wo v9 → v9.cell? ⟨bx, ox + (2 * j + 1), none⟩ = some (.int .i64 (xs.getD (2 * j + 1) 0))) := fun v9 hb => (hb.cell (p := ⟨bx, ox + (2 * j + 1), none⟩) hbx).trans (HCX.out (2 * j + 1) (by omega))
          have hd : domB xs k j = (decide (xs.getD (2 * k) 0 ≤ xs.getD (2 * j) 0) && decide (xs.getD (2 * k + 1) 0 ≤ xs.getD (2 * j + 1) 0) && (decide (xs.getD (2 * k) 0 < xs.getD (2 * j) 0) || decide (xs.getD (2 * k + 1) 0 < xs.getD (2 * j + 1) 0))) := rfl
          have hsu := Lib.hid (anyB_succ (domB xs k) j)
          rw [hd] at hsu
          have b1 := HP.out (2 * k)
          have b2 := HP.out (2 * k + 1)
          have b3 := HP.out (2 * j)
          have b4 := HP.out (2 * j + 1)
          generalize xs.getD (2 * k) 0 = p at *
          generalize xs.getD (2 * k + 1) 0 = q at *
          generalize xs.getD (2 * j) 0 = u at *
          generalize xs.getD (2 * j + 1) 0 = z at *
          have m1 : 2 * (k : Int) + 1 < (xs.length : Int) := by omega
          have m2 : 2 * (j : Int) < (xs.length : Int) := by omega
          have m3 : 2 * (j : Int) + 1 < (xs.length : Int) := by omega
          have D1 : ∀ z9 : Later wr, z9.w'.cell? ⟨bx, ox + 2 * k, none⟩ = some (.int .i64 p) := fun z9 => Q1.out _ (below_then hwi.out z9.h)
          have D3 : ∀ z9 : Later wr, z9.w'.cell? ⟨bx, ox + 2 * j, none⟩ = some (.int .i64 u) := fun z9 => Q3.out _ (below_then hwi.out z9.h)
          clear hd ho hsucc HP Q1 Q3
          go_wp2_with fail
          refine wp_region_later (by kernel_rfl) (by kernel_rfl) ?_
          repeat (go_big_quiet_step (fail))
          refine wpQuiet_nil ?_
          rintro w5 ⟨⟨_, hb5⟩, rfl⟩
          have HW5 := Lib.hid (below_then hwi.out hb5)
          clear D1 D3 hb5 hwi
          have D2 : ∀ z9 : Later w5, z9.w'.cell? ⟨bx, ox + (2 * k + 1), none⟩ = some (.int .i64 q) := fun z9 => Q2.out _ (below_then HW5.out z9.h)
          have D4 : ∀ z9 : Later w5, z9.w'.cell? ⟨bx, ox + (2 * j + 1), none⟩ = some (.int .i64 z) := fun z9 => Q4.out _ (below_then HW5.out z9.h)
          clear Q2 Q4
          go_wp2_with fail
          refine wp_region_later (by kernel_rfl) (by kernel_rfl) ?_
          repeat (go_big_quiet_step (fail))
          refine wpQuiet_nil ?_
          rintro w6 ⟨⟨_, hb6⟩, rfl⟩
          have HW6 := Lib.hid (below_then HW5.out hb6)
          clear D2 D4 hb6 HW5
          by_cases hdm : (p ≤ u ∧ q ≤ z) ∧ (p < u ∨ q < z)
          · have hT : Hid ((!anyI (domB xs k) (j + 1)) = false) := by
              rw [Hid, hsu.out, decide_eq_true hdm.1.1, decide_eq_true hdm.1.2, Bool.true_and, Bool.true_and]
              rcases hdm.2 with h | h
              · rw [decide_eq_true h, Bool.true_or, Bool.or_true]; rfl
              · rw [decide_eq_true h, Bool.or_true, Bool.or_true]; rfl
            obtain ⟨⟨f1, f2⟩, f3⟩ := hdm
            have f4 : 0 ≤ u - p := by omega
            have f5 : 0 ≤ z - q := by omega
            have f6 : 0 < u - p + (z - q) := by omega
            clear f1 f2 f3 hsu
            go_wp2_with fail
            go_roundw
            case rel => exact ⟨j + 1, by omega, by go_num, by rw [hT.out], HW6⟩
            case measure => simp [intOf]; omega
          · have hT : Hid ((!anyI (domB xs k) (j + 1)) = !anyI (domB xs k) j) := by
              rw [Hid, hsu.out]
              have : (decide (p ≤ u) && decide (q ≤ z) && (decide (p < u) || decide (q < z))) = false := by
                rw [Bool.eq_false_iff]
                intro h
                simp only [Bool.and_eq_true, Bool.or_eq_true, decide_eq_true_eq] at h
                exact hdm h
              rw [this, Bool.or_false]
            by_cases f4 : 0 ≤ u - p
            · by_cases f5 : 0 ≤ z - q
              · have f6 : ¬ 0 < u - p + (z - q) := by omega
                clear hsu hdm
                go_wp2_with fail
                go_roundw
                case rel => exact ⟨j + 1, by omega, by go_num, by rw [hT.out], HW6⟩
                case measure => simp [intOf]; omega
              · clear hsu hdm
                go_wp2_with fail
                go_roundw
                case rel => exact ⟨j + 1, by omega, by go_num, by rw [hT.out], HW6⟩
                case measure => simp [intOf]; omega
            · clear hsu hdm
              go_wp2_with fail
              go_roundw
              case rel => exact ⟨j + 1, by omega, by go_num, by rw [hT.out], HW6⟩
              case measure => simp [intOf]; omega
        · obtain rfl : j = n := by omega
          have hO := Lib.hid (own_below ho.out hwi.out)
          have hW := Lib.hid (below_then hw.out hwi.out)
          have hszw := hW.out.size
          have hkq : 2 * (k : Int) / 2 = (k : Int) := by omega
          clear ho hw hwi HP HCX
          cases hdm : anyI (domB xs k) j with
          | true =>
            rw [hdm, if_pos rfl] at hsucc
            go_wp2_with fail
            go_roundw
            case rel => exact ⟨k + 1, _, by omega, by go_num, rfl, by rw [hsucc.out]; exact hO.out, hW⟩
            case measure => simp [intOf]; omega
          | false =>
            rw [hdm, if_neg (by decide)] at hsucc
            go_wp2_with (at_builtin; refine wpList_append_one _ rfl _ _ 24 rfl w.heap.size 2 (.int .i64 0) 8 Try.underlying24 info_i64p rfl _ _ _ rfl hO.out (.int .i64 k) rfl rfl (by omega) (by omega) hszw ?_)
            intro v8 w8 o8 g8
            have B8 := Lib.hid (below_append hW.out hO.out g8 (Nat.le_refl _) hszw)
            have H8 : Hid (w8.ownsRow w.heap.size 2 1 v8 (rimL xs j (k + 1)).length (ints (rimL xs j (k + 1)))) := by rw [hsucc.out, ints_append, List.length_append]; exact o8
            clear o8 g8 hO hsucc
            go_wp2_with fail
            go_roundw
            case rel => exact ⟨k + 1, v8, by omega, by go_num, rfl, H8, B8⟩
            case measure => simp [intOf]; omega
    · obtain rfl : k = n := by omega
      obtain ⟨a', c', e', hcap, _⟩ := own_shape ho.out
      subst e'
      have HRd := Lib.hid (rd_of_own ho.out (Nat.le_refl _))
      rw [← HE.out] at HRd
      have HW := hw
      clear ho hw hcap
      rw [← HE.out]
      go_wp2_with fail
      go_ret2
      exact ⟨a', c', rfl, HRd.out, HW.out⟩
end Go.Proofs.Ytkapjlkeohjjbaa
namespace Go.Proofs.Ytkapjlkeohjjbaa
set_option linter.unusedVariables false
set_option linter.unusedSimpArgs false
open Go.RowKit

theorem info_i64 : (Try.prog.info? 2).map (fun i => (i.zero, i.size, i.bytes)) = some (some (.int .i64 0), 1, 8) := by kernel_rfl

def szF (left : Int) (n : Nat) : Int := if left < n then -1 else left - n

/-- What the marks are: k, k + 1, and so on. -/
def marks (n : Nat) (k : Int) : List Int := (List.range n).map fun (i : Nat) => k + (i : Int)
@[simp] theorem marks_length (n : Nat) (k : Int) : (marks n k).length = n := by simp [marks]
theorem marks_get (n : Nat) (k : Int) (i : Nat) (h : i < n) : (marks n k)[i]? = some (k + i) := by simp [marks, h]

theorem mark_step (xs : List Int) (rest : List Value) (k : Int) (j : Nat) (h : j < xs.length) :
    (ints ((marks j k) ++ xs.drop j) ++ rest).set j (.int .i64 (k + j)) = ints (marks (j + 1) k ++ xs.drop (j + 1)) ++ rest := by
  rw [List.set_append_left _ _ (by simp; omega), ← ints_set, List.set_append_right _ _ (by simp), marks_length, Nat.sub_self, List.drop_eq_getElem_cons h, List.set_cons_zero]
  simp [marks, List.range_succ]

/-- A call that answers with a new list or with a no, in terms of stretches. -/
theorem flat_of {f : Nat} {args : Array Value} {w : World} {T : Nat} {r : Option (List Int)} (h : Calls Try.prog f args w (RetI T w r)) :
    Calls Try.prog f args w fun e w' => ∃ a c, e = .returned (.tuple #[.slice a (r.getD []).length c, .bool r.isSome]) ∧ OwnI T w' w.heap.size w'.heap.size a c (r.getD []) ∧ Below w.heap.size w w' :=
  h.mono fun e w' hR => let ⟨hb, a, c, he, ho⟩ := hR.flat; ⟨a, c, he, OwnI.of_own ho, hb⟩
end Go.Proofs.Ytkapjlkeohjjbaa
namespace Go.Proofs.Ytkapjlkeohjjbaa
set_option linter.unusedVariables false
set_option linter.unusedSimpArgs false
open Go.RowKit

def flts (xs : List Nat) : List Value := xs.map fun x => Value.float .f32 x
theorem run_store_float (P : Program) (w : World) (a : Addr) (m : Mode) (k : FloatKind) (b : Nat) : (store a (.float k b) m).run P w = stored P w a (.float k b) m := run_store P w a _ m rfl
attribute [local go_sem] run_store_float
end Go.Proofs.Ytkapjlkeohjjbaa
namespace Go.Proofs.Ytkapjlkeohjjbaa
set_option linter.unusedVariables false
set_option linter.unusedSimpArgs false
open Ieee

/-- A word stands for V times 2 to the -1074; its significand is m. -/
def IsM (f : Format) (b V m : Nat) : Prop := ∃ p : Int, f.read b = .number false m p ∧ f.leastPlace ≤ p ∧ -1074 ≤ p ∧ m * 2 ^ (p + 1074).toNat = V
def Is (f : Format) (b V : Nat) : Prop := ∃ m, IsM f b V m
theorem pow_add_toNat {a b c : Int} (ha : 0 ≤ a) (hb : 0 ≤ b) (h : c = a + b) : 2 ^ a.toNat * 2 ^ b.toNat = 2 ^ c.toNat := by
  rw [← Nat.pow_add]; congr 1; omega
/-- Nought. -/
theorem is_zero (f : Format) (hl : -1074 ≤ f.leastPlace) : Is f 0 0 := by
  refine ⟨0, f.leastPlace, ?_, Int.le_refl _, hl, by rw [Nat.zero_mul]⟩
  unfold Format.read
  have hb : 0 < f.binade := Nat.two_pow_pos _
  simp [hb]
theorem read_rung (f : Format) (q k : Nat) (h1 : q = 0 ∨ f.binade ≤ k) (h2 : k ≤ 2 * f.binade) (h3 : q * f.binade + k < f.infRung) (hl : -1074 ≤ f.leastPlace) :
    ∃ m, IsM f (q * f.binade + k) (k * 2 ^ q * 2 ^ (f.leastPlace + 1074).toNat) m ∧ (f.binade ≤ k → f.binade ≤ m ∧ m < 2 * f.binade) := by
  have hb : 0 < f.binade := Nat.two_pow_pos _
  have hs := f.infRung_lt
  have e1 : (q * f.binade + k) / f.signWeight = 0 := Nat.div_eq_of_lt (by omega)
  have e2 : (q * f.binade + k) % f.signWeight = q * f.binade + k := Nat.mod_eq_of_lt (by omega)
  have er : ∀ d, f.read (q * f.binade + k) = d ↔ (if q * f.binade + k < f.binade then Datum.number false (q * f.binade + k) f.leastPlace else .number false (f.binade + (q * f.binade + k) % f.binade) (f.leastPlace + ((q * f.binade + k) / f.binade - 1 : Nat))) = d := by
    intro d
    unfold Format.read
    simp only [e1, e2, if_pos h3]
    rfl
  rcases Nat.lt_or_ge k f.binade with hk | hk
  · have hq : q = 0 := by rcases h1 with h | h; exact h; omega
    subst hq
    refine ⟨k, ⟨f.leastPlace, ?_, Int.le_refl _, hl, ?_⟩, fun h => by omega⟩
    · rw [er, if_pos (by omega)]; simp
    · rw [Nat.pow_zero, Nat.mul_one]
  · have hqb : 0 ≤ q * f.binade := Nat.zero_le _
    rcases Nat.lt_or_ge k (2 * f.binade) with hk2 | hk2
    · obtain ⟨t, ht⟩ : ∃ t, k = f.binade + t := ⟨k - f.binade, by omega⟩
      have e3 : q * f.binade + k = t + f.binade * (q + 1) := by rw [ht, Nat.mul_add, Nat.mul_comm f.binade q, Nat.mul_one]; omega
      have e4 : (t + f.binade * (q + 1)) / f.binade = q + 1 := by rw [Nat.add_mul_div_left _ _ hb, Nat.div_eq_of_lt (by omega)]; omega
      have e5 : (t + f.binade * (q + 1)) % f.binade = t := by rw [Nat.add_mul_mod_self_left, Nat.mod_eq_of_lt (by omega)]
      refine ⟨k, ⟨f.leastPlace + (q : Int), ?_, by omega, by omega, ?_⟩, fun _ => ⟨hk, hk2⟩⟩
      · rw [er, if_neg (by omega), e3, e4, e5, ← ht]; rfl
      · rw [Nat.mul_assoc]
        congr 1
        rw [← Nat.pow_add]; congr 1; omega
    · have hk3 : k = 2 * f.binade := by omega
      have e3 : q * f.binade + k = 0 + f.binade * (q + 2) := by rw [hk3, Nat.mul_add, Nat.mul_comm f.binade q]; omega
      have e4 : (0 + f.binade * (q + 2)) / f.binade = q + 2 := by rw [Nat.add_mul_div_left _ _ hb, Nat.zero_div]; omega
      have e5 : (0 + f.binade * (q + 2)) % f.binade = 0 := by rw [Nat.add_mul_mod_self_left, Nat.zero_mod]
      refine ⟨f.binade, ⟨f.leastPlace + ((q + 1 : Nat) : Int), ?_, by omega, by omega, ?_⟩, fun _ => ⟨Nat.le_refl _, by omega⟩⟩
      · rw [er, if_neg (by omega), e3, e4, e5]; rfl
      · have e6 : (f.leastPlace + ((q + 1 : Nat) : Int) + 1074).toNat = 1 + q + (f.leastPlace + 1074).toNat := by omega
        rw [hk3, e6, Nat.pow_add, Nat.pow_add, Nat.pow_one]
        ac_rfl
/-- Rounding to the nearest. -/
theorem cut_near (n d : Nat) (hd : d ≤ n.log2 + 2) : (n / 2 ^ d ≤ Toward.even.cut false n d ∧ Toward.even.cut false n d ≤ n / 2 ^ d + 1) ∧ 2 * (2 ^ d * Toward.even.cut false n d) ≤ 2 * n + 2 ^ d ∧ 2 * n ≤ 2 * (2 ^ d * Toward.even.cut false n d) + 2 ^ d ∧ (n % 2 ^ d = 0 → 2 ^ d * Toward.even.cut false n d = n) := by
  unfold Toward.cut
  simp only [Nat.min_eq_left hd, Nat.one_shiftLeft]
  have hg : 0 < 2 ^ d := Nat.two_pow_pos d
  have hn := Nat.div_add_mod n (2 ^ d)
  have hr := Nat.mod_lt n hg
  generalize 2 ^ d = g at *
  generalize n / g = low at *
  generalize n % g = rest at *
  cases hm : (decide (g < 2 * rest) || (g == 2 * rest && low % 2 == 1)) with
  | false =>
    simp only [Bool.or_eq_false_iff, decide_eq_false_iff_not] at hm
    obtain ⟨h1, _⟩ := hm
    simp only [Bool.toNat_false, Nat.add_zero]
    exact ⟨⟨Nat.le_refl _, by omega⟩, by omega, by omega, fun h => by omega⟩
  | true =>
    simp only [Bool.or_eq_true, decide_eq_true_eq, Bool.and_eq_true, beq_iff_eq] at hm
    have h1 : g ≤ 2 * rest := by rcases hm with h | ⟨h, _⟩ <;> omega
    simp only [Bool.toNat_true]
    rw [Nat.mul_add, Nat.mul_one]
    exact ⟨⟨by omega, by omega⟩, by omega, by omega, fun h => by omega⟩
theorem cut_zero (n : Nat) : Toward.even.cut false n 0 = n := by simp [Toward.cut, Nat.mod_one]
/-- The nearest word of a number that is not tiny. -/
theorem nearest_val (f : Format) (mag : Nat) (place : Int) (hm : 0 < mag) (h0 : -1074 ≤ place) (hl : -1074 ≤ f.leastPlace)
    (hN : f.leastPlace ≤ place + mag.log2 - f.fractionBits) (hq : place + mag.log2 - f.fractionBits - f.leastPlace + 2 < ((2 ^ f.exponentBits - 1 : Nat) : Int)) :
    ∃ V m, IsM f (f.nearest false mag place) V m ∧ f.binade ≤ m ∧ m < 2 * f.binade ∧
      2 * V ≤ 2 * (mag * 2 ^ (place + 1074).toNat) + 2 ^ (mag.log2 - f.fractionBits) * 2 ^ (place + 1074).toNat ∧
      2 * (mag * 2 ^ (place + 1074).toNat) ≤ 2 * V + 2 ^ (mag.log2 - f.fractionBits) * 2 ^ (place + 1074).toNat ∧
      (mag % 2 ^ (mag.log2 - f.fractionBits) = 0 → V = mag * 2 ^ (place + 1074).toNat) ∧ 2 ^ (mag.log2 - f.fractionBits) * 2 ^ (place + 1074).toNat ∣ V := by
  have l1 : 2 ^ mag.log2 ≤ mag := Nat.log2_self_le (by omega)
  have l2 : mag < 2 ^ (mag.log2 + 1) := Nat.lt_log2_self
  have hlog : mag.log2 = mag.log2 := rfl
  obtain ⟨L, hL⟩ : ∃ L, L = mag.log2 := ⟨_, rfl⟩
  rw [← hL] at l1 l2 hN hq ⊢
  have hbin : f.binade = 2 ^ f.fractionBits := rfl
  have hinf : f.infRung = (2 ^ f.exponentBits - 1) * f.binade := rfl
  generalize hfb : f.fractionBits = fb at *
  generalize hq0 : (place + (L : Int) - fb - f.leastPlace).toNat = q at *
  have e1 : max (place + (L : Int) - fb) f.leastPlace = place + (L : Int) - fb := by omega
  have hb : 0 < f.binade := by rw [hbin]; exact Nat.two_pow_pos _
  have hroom : ∀ k, k ≤ 2 * f.binade → q * f.binade + k < f.infRung := fun k hk => by
    rw [hinf]
    have h1 : q + 2 < 2 ^ f.exponentBits - 1 := by omega
    have h2 : (q + 3) * f.binade ≤ (2 ^ f.exponentBits - 1) * f.binade := Nat.mul_le_mul_right _ (by omega)
    have h3 : (q + 3) * f.binade = q * f.binade + 3 * f.binade := Nat.add_mul _ _ _
    omega
  by_cases hc : fb ≤ L
  · have e2 : (place - (place + (L : Int) - fb)).toNat = 0 := by omega
    have e3 : (place + (L : Int) - fb - place).toNat = L - fb := by omega
    obtain ⟨⟨c1, c2⟩, c3, c4, c5⟩ := cut_near mag (L - fb) (by omega)
    have k1 : f.binade ≤ mag / 2 ^ (L - fb) := by
      rw [Nat.le_div_iff_mul_le (Nat.two_pow_pos _), hbin, ← Nat.pow_add, show fb + (L - fb) = L from by omega]; exact l1
    have k2 : mag / 2 ^ (L - fb) < 2 * f.binade := by
      rw [Nat.div_lt_iff_lt_mul (Nat.two_pow_pos _), hbin, Nat.mul_comm 2, ← Nat.pow_succ, ← Nat.pow_add, show fb + 1 + (L - fb) = L + 1 from by omega]; exact l2
    generalize hK : Toward.even.cut false mag (L - fb) = K at *
    have hnear : f.nearest false mag place = q * f.binade + K := by
      unfold Format.nearest
      rw [if_neg (by omega)]
      simp only [hfb, ← hL, e1, e2, e3, Nat.shiftLeft_zero, hK]
      have := hroom K (by omega)
      rw [hq0, Nat.min_eq_left (by omega)]; rfl
    obtain ⟨m, hI, hmm⟩ := read_rung f q K (.inr (by omega)) (by omega) (hroom K (by omega)) hl
    obtain ⟨m1, m2⟩ := hmm (by omega)
    have eV : K * 2 ^ q * 2 ^ (f.leastPlace + 1074).toNat = 2 ^ (L - fb) * K * 2 ^ (place + 1074).toNat := by
      have : 2 ^ q * 2 ^ (f.leastPlace + 1074).toNat = 2 ^ (L - fb) * 2 ^ (place + 1074).toNat := by
        rw [← Nat.pow_add, ← Nat.pow_add]; congr 1; omega
      rw [Nat.mul_assoc, this, ← Nat.mul_assoc, Nat.mul_comm K]
    rw [eV] at hI
    refine ⟨_, m, by rw [hnear]; exact hI, m1, m2, ?_, ?_, fun h => ?_, ?_⟩
    · have := Nat.mul_le_mul_right (2 ^ (place + 1074).toNat) c3
      rw [Nat.add_mul] at this
      simpa only [Nat.mul_assoc] using this
    · have := Nat.mul_le_mul_right (2 ^ (place + 1074).toNat) c4
      rw [Nat.add_mul] at this
      simpa only [Nat.mul_assoc] using this
    · rw [c5 h]
    · exact ⟨K, by ac_rfl⟩
  · have e2 : (place - (place + (L : Int) - fb)).toNat = fb - L := by omega
    have e3 : (place + (L : Int) - fb - place).toNat = 0 := by omega
    have e4 : L - fb = 0 := by omega
    have k1 : f.binade ≤ mag * 2 ^ (fb - L) := by
      have := Nat.mul_le_mul_right (2 ^ (fb - L)) l1
      rw [← Nat.pow_add, show L + (fb - L) = fb from by omega] at this
      rw [hbin]; exact this
    have k2 : mag * 2 ^ (fb - L) < 2 * f.binade := by
      have := Nat.mul_lt_mul_of_pos_right l2 (Nat.two_pow_pos (fb - L))
      rw [← Nat.pow_add, show L + 1 + (fb - L) = fb + 1 from by omega, Nat.pow_succ] at this
      rw [hbin]; omega
    have hnear : f.nearest false mag place = q * f.binade + mag * 2 ^ (fb - L) := by
      unfold Format.nearest
      rw [if_neg (by omega)]
      simp only [hfb, ← hL, e1, e2, e3, cut_zero, Nat.shiftLeft_eq]
      have := hroom (mag * 2 ^ (fb - L)) (by omega)
      rw [hq0, Nat.min_eq_left (by omega)]; rfl
    obtain ⟨m, hI, hmm⟩ := read_rung f q (mag * 2 ^ (fb - L)) (.inr (by omega)) (by omega) (hroom _ (by omega)) hl
    obtain ⟨m1, m2⟩ := hmm (by omega)
    have eV : mag * 2 ^ (fb - L) * 2 ^ q * 2 ^ (f.leastPlace + 1074).toNat = mag * 2 ^ (place + 1074).toNat := by
      have : 2 ^ (fb - L) * 2 ^ q * 2 ^ (f.leastPlace + 1074).toNat = 2 ^ (place + 1074).toNat := by
        rw [← Nat.pow_add, ← Nat.pow_add]; congr 1; omega
      rw [← this]; simp only [Nat.mul_assoc]
    rw [eV] at hI
    rw [e4, Nat.pow_zero, Nat.one_mul]
    exact ⟨_, m, by rw [hnear]; exact hI, m1, m2, Nat.le_add_right _ _, Nat.le_add_right _ _, fun _ => rfl, ⟨mag, Nat.mul_comm _ _⟩⟩
end Go.Proofs.Ytkapjlkeohjjbaa
namespace Go.Proofs.Ytkapjlkeohjjbaa
set_option linter.unusedVariables false
set_option linter.unusedSimpArgs false
open Ieee

/-- The unit: 2 to the -40. -/
def eU : Nat := 1034
def eW : Nat := 1074
theorem eU_is : eU = 1034 := rfl
theorem eW_is : eW = 1074 := rfl
def U : Nat := 2 ^ eU
/-- One, in these units. -/
def W : Nat := 2 ^ eW
theorem dbl_lp : double.leastPlace = -1074 := by decide
theorem sgl_lp : single.leastPlace = -149 := by decide
theorem pow_lt_of {a b : Nat} (h : 2 ^ a < 2 ^ b) : a < b := (Nat.pow_lt_pow_iff_right (by omega)).1 h
theorem double_nearest (mag : Nat) (place : Int) (h0 : -1074 ≤ place) (M : Nat) (hM : mag * 2 ^ (place + 1074).toNat = M) (hd : U ∣ M) (hlt : M < 2 ^ 53 * U) : Is double (double.nearest false mag place) M := by
  rcases Nat.eq_zero_or_pos mag with hz | hm
  · subst hz
    rw [Nat.zero_mul] at hM
    subst hM
    have : double.nearest false 0 place = 0 := by unfold Format.nearest; rw [if_pos rfl]; rfl
    rw [this]
    exact is_zero double (by decide)
  · have l1 : 2 ^ mag.log2 ≤ mag := Nat.log2_self_le (by omega)
    have l2 : mag < 2 ^ (mag.log2 + 1) := Nat.lt_log2_self
    have hMp : 0 < M := by rw [← hM]; exact Nat.mul_pos hm (Nat.two_pow_pos _)
    have hUM : U ≤ M := Nat.le_of_dvd hMp hd
    obtain ⟨e, he⟩ : ∃ e, e = (place + 1074).toNat := ⟨_, rfl⟩
    have hpl : place = (e : Int) - 1074 := by omega
    have b1 : mag.log2 + e < 53 + eU := by
      refine pow_lt_of ?_
      have := Nat.mul_le_mul_right (2 ^ e) l1
      rw [← Nat.pow_add] at this
      rw [← he] at hM
      unfold U at hlt
      rw [← Nat.pow_add] at hlt
      omega
    have b2 : eU < mag.log2 + 1 + e := by
      refine pow_lt_of ?_
      have := Nat.mul_lt_mul_of_pos_right l2 (Nat.two_pow_pos e)
      rw [← Nat.pow_add] at this
      rw [← he] at hM
      unfold U at hUM
      omega
    rw [eU_is] at b1 b2
    obtain ⟨V, m, hI, _, _, _, _, hx, _⟩ := nearest_val double mag place hm h0 (by decide) (by rw [dbl_lp]; show (-1074 : Int) ≤ place + mag.log2 - (52 : Nat); omega) (by rw [dbl_lp]; show place + mag.log2 - ((52 : Nat) : Int) - -1074 + 2 < ((2047 : Nat) : Int); omega)
    have hmod : mag % 2 ^ (mag.log2 - double.fractionBits) = 0 := by
      show mag % 2 ^ (mag.log2 - 52) = 0
      rcases Nat.lt_or_ge 52 mag.log2 with h52 | h52
      case inr => rw [show mag.log2 - 52 = 0 from by omega, Nat.pow_zero, Nat.mod_one]
      have h1 : 2 ^ (mag.log2 - 52) * 2 ^ e ∣ mag * 2 ^ e := by
        have h2 : 2 ^ (mag.log2 - 52) * 2 ^ e ∣ U := by
          unfold U
          rw [← Nat.pow_add]
          exact Nat.pow_dvd_pow 2 (by rw [eU_is]; omega)
        rw [← he] at hM
        rw [hM]
        exact Nat.dvd_trans h2 hd
      exact Nat.mod_eq_zero_of_dvd (Nat.dvd_of_mul_dvd_mul_right (Nat.two_pow_pos e) h1)
    rw [hx hmod, hM] at hI
    exact ⟨m, hI⟩
theorem scale_up {m : Nat} {i base : Int} (h : base ≤ i) (h0 : -1074 ≤ base) : m <<< (i - base).toNat * 2 ^ (base + 1074).toNat = m * 2 ^ (i + 1074).toNat := by
  rw [Nat.shiftLeft_eq, Nat.mul_assoc, ← Nat.pow_add]
  congr 2; omega
theorem add_is {a b A B : Nat} (ha : Is double a A) (hb : Is double b B) (hA : U ∣ A) (hB : U ∣ B) (hlt : A + B < 2 ^ 53 * U) : ∃ r, double.add a b = some r ∧ Is double r (A + B) := by
  obtain ⟨m, i, h1, h2, h3, h4⟩ := ha
  obtain ⟨n, j, g1, g2, g3, g4⟩ := hb
  refine ⟨double.nearest false (m <<< (i - min i j).toNat + n <<< (j - min i j).toNat) (min i j), ?_, double_nearest _ _ (by omega) _ ?_ (Nat.dvd_add hA hB) hlt⟩
  · unfold Format.add
    rw [h1, g1]
    simp only [Datum.sum, signed, Option.map_some, Format.write]
    congr 1
    have e1 : ((m <<< (i - min i j).toNat : Nat) : Int) + ((n <<< (j - min i j).toNat : Nat) : Int) = ((m <<< (i - min i j).toNat + n <<< (j - min i j).toNat : Nat) : Int) := by omega
    simp only [Bool.false_eq_true, if_false, e1, Int.natAbs_natCast]
    congr 1
    generalize m <<< (i - min i j).toNat + n <<< (j - min i j).toNat = T
    by_cases hT : ((T : Nat) : Int) = 0
    · rw [if_pos hT]; rfl
    · rw [if_neg hT]; first | (simp; done) | (simp; omega)
  · rw [Nat.add_mul, scale_up (by omega) (by omega), scale_up (by omega) (by omega), h4, g4]
theorem sub_is {a b A B : Nat} (ha : Is double a A) (hb : Is double b B) (hA : U ∣ A) (hB : U ∣ B) (hle : B ≤ A) (hlt : A < 2 ^ 53 * U) : ∃ r, double.sub a b = some r ∧ Is double r (A - B) := by
  obtain ⟨m, i, h1, h2, h3, h4⟩ := ha
  obtain ⟨n, j, g1, g2, g3, g4⟩ := hb
  have hx : n <<< (j - min i j).toNat ≤ m <<< (i - min i j).toNat := by
    have e1 := scale_up (m := m) (i := i) (base := min i j) (by omega) (by omega)
    have e2 := scale_up (m := n) (i := j) (base := min i j) (by omega) (by omega)
    rw [h4] at e1
    rw [g4] at e2
    rw [← e1, ← e2] at hle
    exact Nat.le_of_mul_le_mul_right hle (Nat.two_pow_pos _)
  refine ⟨double.nearest false (m <<< (i - min i j).toNat - n <<< (j - min i j).toNat) (min i j), ?_, double_nearest _ _ (by omega) _ ?_ (Nat.dvd_sub hA hB) (by omega)⟩
  · unfold Format.sub
    rw [h1, g1]
    simp only [Datum.opposite, Bool.not_false, Datum.sum, signed, Option.map_some, Format.write]
    congr 1
    have e1 : ((m <<< (i - min i j).toNat : Nat) : Int) + -((n <<< (j - min i j).toNat : Nat) : Int) = ((m <<< (i - min i j).toNat - n <<< (j - min i j).toNat : Nat) : Int) := by omega
    simp only [Bool.false_eq_true, if_false, if_true, e1, Int.natAbs_natCast]
    congr 1
    generalize m <<< (i - min i j).toNat - n <<< (j - min i j).toNat = T
    by_cases hT : ((T : Nat) : Int) = 0
    · rw [if_pos hT]; rfl
    · rw [if_neg hT]; first | (simp; done) | (simp; omega)
  · rw [Nat.sub_mul, scale_up (by omega) (by omega), scale_up (by omega) (by omega), h4, g4]
theorem order_is {a b A B : Nat} (ha : Is double a A) (hb : Is double b B) : double.order a b = some (if A < B then .lt else if A = B then .eq else .gt) := by
  obtain ⟨m, i, h1, h2, h3, h4⟩ := ha
  obtain ⟨n, j, g1, g2, g3, g4⟩ := hb
  have e1 := scale_up (m := m) (i := i) (base := min i j) (by omega) (by omega)
  have e2 := scale_up (m := n) (i := j) (base := min i j) (by omega) (by omega)
  unfold Format.order
  rw [h1, g1]
  simp only [Datum.order, signed, Bool.false_eq_true, if_false]
  rw [h4] at e1
  rw [g4] at e2
  have hp : 0 < 2 ^ (min i j + 1074).toNat := Nat.two_pow_pos _
  generalize m <<< (i - min i j).toNat = x at *
  generalize n <<< (j - min i j).toNat = y at *
  have hlt : A < B ↔ x < y := by rw [← e1, ← e2]; exact Nat.mul_lt_mul_right hp
  have heq : A = B ↔ x = y := by rw [← e1, ← e2]; exact Nat.mul_right_cancel_iff hp
  congr 1
  by_cases h : A < B
  · rw [if_pos h]
    have := hlt.1 h
    show compareOfLessAndEq (x : Int) y = _
    unfold compareOfLessAndEq
    rw [if_pos (by omega)]
  · rw [if_neg h]
    by_cases h' : A = B
    · rw [if_pos h']
      have := heq.1 h'
      subst this
      show compareOfLessAndEq (x : Int) x = _
      unfold compareOfLessAndEq
      rw [if_neg (by omega), if_pos rfl]
    · rw [if_neg h']
      have h5 : ¬ x < y := fun e => h (hlt.2 e)
      have h6 : ¬ x = y := fun e => h' (heq.2 e)
      show compareOfLessAndEq (x : Int) y = _
      unfold compareOfLessAndEq
      rw [if_neg (by omega), if_neg (by omega)]
/-- A single made a double. -/
theorem widen_is {b V : Nat} (h : Is single b V) (hd : U ∣ V) (hlt : V < 2 ^ 53 * U) : Is double (double.write (single.read b)) V := by
  obtain ⟨m, p, h1, h2, h3, h4⟩ := h
  rw [h1]
  exact double_nearest m p h3 V h4 hd hlt
/-- A small whole number as a single. -/
theorem single_int (N : Nat) (h1 : 1 ≤ N) (h2 : N < 16777216) : ∃ m, IsM single (single.nearest false N 0) (N * W) m ∧ 8388608 ≤ m ∧ m < 16777216 := by
  have l1 : 2 ^ N.log2 ≤ N := Nat.log2_self_le (by omega)
  have l3 : N.log2 ≤ 23 := by
    have : N.log2 < 24 := pow_lt_of (by omega)
    omega
  obtain ⟨V, m, hI, m1, m2, _, _, hx, _⟩ := nearest_val single N 0 (by omega) (by omega) (by decide) (by rw [sgl_lp]; show (-149 : Int) ≤ 0 + N.log2 - (23 : Nat); omega) (by rw [sgl_lp]; show 0 + (N.log2 : Int) - ((23 : Nat) : Int) - -149 + 2 < ((255 : Nat) : Int); omega)
  have e : N.log2 - single.fractionBits = 0 := by show N.log2 - 23 = 0; omega
  rw [e] at hx
  rw [hx (by rw [Nat.pow_zero, Nat.mod_one]), show ((0 : Int) + 1074).toNat = eW from rfl] at hI
  exact ⟨m, hI, m1, by have : 2 * single.binade = 16777216 := by decide
                       omega⟩
end Go.Proofs.Ytkapjlkeohjjbaa
namespace Go.Proofs.Ytkapjlkeohjjbaa
set_option linter.unusedVariables false
set_option linter.unusedSimpArgs false
open Ieee

/-- Rounding: near, and in order with every single. -/
def NearN (R X : Nat) : Prop := R * 4194304 ≤ X * 4194304 + X ∧ X * 4194304 ≤ R * 4194304 + X ∧ (∀ c k, c < 16777216 → X ≤ c * 2 ^ k → R ≤ c * 2 ^ k) ∧ (∀ c k, c < 16777216 → c * 2 ^ k ≤ X → c * 2 ^ k ≤ R)
theorem near_le {a b D : Nat} (h1 : 2 * a ≤ 2 * b + D) (hD : D * 4194304 ≤ b) : a * 4194304 ≤ b * 4194304 + b := by
  have e1 : a * 4194304 = 2 * a * 2097152 := by rw [Nat.mul_right_comm, Nat.mul_comm]
  have e2 : b * 4194304 = 2 * b * 2097152 := by rw [Nat.mul_right_comm, Nat.mul_comm]
  have e3 : D * 2097152 ≤ D * 4194304 := Nat.mul_le_mul_left D (by decide)
  have e4 := Nat.mul_le_mul_right 2097152 h1
  rw [Nat.add_mul] at e4
  rw [e1, e2]
  exact Nat.le_trans e4 (Nat.add_le_add_left (Nat.le_trans e3 hD) _)
theorem near_ge {a b D : Nat} (h2 : 2 * b ≤ 2 * a + D) (hD : D * 4194304 ≤ b) : b * 4194304 ≤ a * 4194304 + b := by
  have e1 : a * 4194304 = 2 * a * 2097152 := by rw [Nat.mul_right_comm, Nat.mul_comm]
  have e2 : b * 4194304 = 2 * b * 2097152 := by rw [Nat.mul_right_comm, Nat.mul_comm]
  have e3 : D * 2097152 ≤ D * 4194304 := Nat.mul_le_mul_left D (by decide)
  have e4 := Nat.mul_le_mul_right 2097152 h2
  rw [Nat.add_mul] at e4
  rw [e1, e2]
  exact Nat.le_trans e4 (Nat.add_le_add_left (Nat.le_trans e3 hD) _)
theorem near_self (X : Nat) : NearN X X := ⟨Nat.le_add_right _ _, Nat.le_add_right _ _, fun _ _ _ h => h, fun _ _ _ h => h⟩
theorem NearN.eq {R X : Nat} (h : NearN R X) (hx : X < 16777216) : R = X := by
  have h1 := h.2.2.1 X 0 hx (by rw [Nat.pow_zero, Nat.mul_one]; exact Nat.le_refl _)
  have h2 := h.2.2.2 X 0 hx (by rw [Nat.pow_zero, Nat.mul_one]; exact Nat.le_refl _)
  rw [Nat.pow_zero, Nat.mul_one] at h1 h2
  exact Nat.le_antisymm h1 h2
theorem lt_div {a b D : Nat} (h : 2 * (a * D) ≤ 2 * (b * D) + D) (hD : 0 < D) : a ≤ b := by
  have e : 2 * a * D ≤ (2 * b + 1) * D := by rw [Nat.add_mul, Nat.mul_assoc, Nat.mul_assoc, Nat.one_mul]; exact h
  have := Nat.le_of_mul_le_mul_right e hD
  omega
/-- d: the last place that is kept lies above the unit's. -/
theorem near24_gen {V X E d : Nat} (hd : E < d) (hV : 2 ^ d ∣ V) (h1 : 2 * V ≤ 2 * (X * 2 ^ E) + 2 ^ d) (h2 : 2 * (X * 2 ^ E) ≤ 2 * V + 2 ^ d) (hD : 2 ^ (d + 23) ≤ X * 2 ^ E) : ∃ R, V = R * 2 ^ E ∧ NearN R X := by
  have hA : 0 < 2 ^ E := Nat.two_pow_pos _
  have hDp : 0 < 2 ^ d := Nat.two_pow_pos _
  obtain ⟨al, rfl⟩ := hV
  have hR : 2 ^ d * al = (2 ^ (d - E) * al) * 2 ^ E := by
    have : 2 ^ d = 2 ^ (d - E) * 2 ^ E := by rw [← Nat.pow_add]; congr 1; omega
    rw [this]; ac_rfl
  have hD22 : 2 ^ d * 4194304 ≤ X * 2 ^ E := by
    refine Nat.le_trans ?_ hD
    rw [show (4194304 : Nat) = 2 ^ 22 from by decide, ← Nat.pow_add]
    exact Nat.pow_le_pow_right (by omega) (by omega)
  have n1 := near_le h1 hD22
  have n2 := near_ge h2 hD22
  have key : ∀ c k, c < 16777216 → d ≤ k + E ∨ c * 2 ^ k * 2 ^ E < 2 ^ (d + 23) := fun c k hc => by
    rcases Nat.lt_or_ge (k + E) d with h | h
    · right
      rw [Nat.mul_assoc, ← Nat.pow_add]
      have a1 : c * 2 ^ (k + E) < 2 ^ 24 * 2 ^ (k + E) := Nat.mul_lt_mul_of_pos_right hc (Nat.two_pow_pos _)
      rw [← Nat.pow_add] at a1
      exact Nat.lt_of_lt_of_le a1 (Nat.pow_le_pow_right (by omega) (by omega))
    · exact .inl h
  refine ⟨_, hR, ?_, ?_, fun c k hc hx => ?_, fun c k hc hx => ?_⟩
  · refine Nat.le_of_mul_le_mul_right (c := 2 ^ E) ?_ hA
    rw [Nat.add_mul, Nat.mul_right_comm (2 ^ (d - E) * al) 4194304, Nat.mul_right_comm X, ← hR]
    exact n1
  · refine Nat.le_of_mul_le_mul_right (c := 2 ^ E) ?_ hA
    rw [Nat.add_mul, Nat.mul_right_comm (2 ^ (d - E) * al) 4194304, Nat.mul_right_comm X, ← hR]
    exact n2
  · refine Nat.le_of_mul_le_mul_right (c := 2 ^ E) ?_ hA
    rw [← hR]
    have hx2 := Nat.mul_le_mul_right (2 ^ E) hx
    rcases key c k hc with h | h
    · have hb : c * 2 ^ k * 2 ^ E = c * 2 ^ (k + E - d) * 2 ^ d := by
        rw [Nat.mul_assoc, ← Nat.pow_add, Nat.mul_assoc, ← Nat.pow_add]; congr 2; omega
      rw [hb] at hx2 ⊢
      rw [Nat.mul_comm (2 ^ d) al] at h1 ⊢
      exact Nat.mul_le_mul_right _ (lt_div (D := 2 ^ d) (Nat.le_trans h1 (Nat.add_le_add_right (Nat.mul_le_mul_left 2 hx2) _)) hDp)
    · exact absurd (Nat.lt_of_le_of_lt hx2 h) (Nat.not_lt.2 hD)
  · refine Nat.le_of_mul_le_mul_right (c := 2 ^ E) ?_ hA
    rw [← hR]
    have hx2 := Nat.mul_le_mul_right (2 ^ E) hx
    rcases key c k hc with h | h
    · have hb : c * 2 ^ k * 2 ^ E = c * 2 ^ (k + E - d) * 2 ^ d := by
        rw [Nat.mul_assoc, ← Nat.pow_add, Nat.mul_assoc, ← Nat.pow_add]; congr 2; omega
      rw [hb] at hx2 ⊢
      rw [Nat.mul_comm (2 ^ d) al] at h2 ⊢
      exact Nat.mul_le_mul_right _ (lt_div (D := 2 ^ d) (Nat.le_trans (Nat.mul_le_mul_left 2 hx2) h2) hDp)
    · refine Nat.le_trans (Nat.le_of_lt h) ?_
      have e : 2 ^ (d + 23) = 2 ^ 23 * 2 ^ d := by rw [← Nat.pow_add]; congr 1; omega
      rw [e] at hD ⊢
      rw [Nat.mul_comm (2 ^ d) al] at h2 ⊢
      exact Nat.mul_le_mul_right _ (lt_div (D := 2 ^ d) (Nat.le_trans (Nat.mul_le_mul_left 2 hD) h2) hDp)
/-- The nearest single of a number that is X times a unit is a multiple of the unit, and near. -/
theorem near24 (mag : Nat) (place : Int) (E X : Nat) (hm : 0 < mag) (h0 : -1074 ≤ place) (hX : mag * 2 ^ (place + 1074).toNat = X * 2 ^ E) (hE : 980 ≤ E) (hE2 : E ≤ 1074) (hlt : X < 2 ^ 100) :
    ∃ R m, IsM single (single.nearest false mag place) (R * 2 ^ E) m ∧ NearN R X := by
  have l1 : 2 ^ mag.log2 ≤ mag := Nat.log2_self_le (by omega)
  have l2 : mag < 2 ^ (mag.log2 + 1) := Nat.lt_log2_self
  obtain ⟨L, hL⟩ : ∃ L, L = mag.log2 := ⟨_, rfl⟩
  obtain ⟨P, hP⟩ : ∃ P, P = (place + 1074).toNat := ⟨_, rfl⟩
  have hpl : place = (P : Int) - 1074 := by omega
  have hA : 0 < 2 ^ E := Nat.two_pow_pos _
  have hPp : 0 < 2 ^ P := Nat.two_pow_pos _
  rw [← hP] at hX
  rw [← hL] at l1 l2
  have hXp : 0 < X := by
    rcases Nat.eq_zero_or_pos X with h | h
    · rw [h, Nat.zero_mul] at hX
      have := Nat.mul_pos hm hPp
      omega
    · exact h
  have b1 : L + P < 100 + E := by
    refine pow_lt_of ?_
    have a1 := Nat.mul_le_mul_right (2 ^ P) l1
    have a2 := Nat.mul_lt_mul_of_pos_right hlt hA
    rw [← Nat.pow_add] at a1 a2
    omega
  have b2 : E < L + 1 + P := by
    refine pow_lt_of ?_
    have a1 := Nat.mul_lt_mul_of_pos_right l2 hPp
    have a2 := Nat.mul_le_mul_right (2 ^ E) hXp
    rw [← Nat.pow_add] at a1
    rw [Nat.succ_mul, Nat.zero_mul] at a2
    omega
  obtain ⟨V, m, hI, _, _, v1, v2, v3, v4⟩ := nearest_val single mag place hm h0 (by decide)
    (by rw [sgl_lp, ← hL]; show (-149 : Int) ≤ place + L - ((23 : Nat) : Int); omega)
    (by rw [sgl_lp, ← hL]; show place + (L : Int) - ((23 : Nat) : Int) - -149 + 2 < ((255 : Nat) : Int); omega)
  have hfb : mag.log2 - single.fractionBits = L - 23 := by rw [← hL]; rfl
  rw [hfb, ← hP] at v1 v2 v4
  rw [hfb] at v3
  rw [← hP] at v3
  rw [hX] at v1 v2 v3
  have hDd : 2 ^ (L - 23) * 2 ^ P = 2 ^ (L - 23 + P) := (Nat.pow_add _ _ _).symm
  have hexact : L - 23 + P ≤ E → V = X * 2 ^ E := fun h => by
    refine v3 (Nat.mod_eq_zero_of_dvd ?_)
    refine Nat.dvd_of_mul_dvd_mul_right hPp ?_
    rw [hX, hDd]
    exact Nat.dvd_trans (Nat.pow_dvd_pow 2 h) ⟨X, Nat.mul_comm _ _⟩
  have hexact2 : L ≤ 23 → V = X * 2 ^ E := fun h => by
    refine v3 ?_
    rw [show L - 23 = 0 from by omega, Nat.pow_zero, Nat.mod_one]
  rw [hDd] at v1 v2 v4
  by_cases hc : L - 23 + P ≤ E ∨ L ≤ 23
  · have hV : V = X * 2 ^ E := by rcases hc with h | h; exact hexact h; exact hexact2 h
    exact ⟨X, m, by rw [← hV]; exact hI, near_self X⟩
  · have hD : 2 ^ (L - 23 + P + 23) ≤ X * 2 ^ E := by
      rw [← hX]
      have a1 := Nat.mul_le_mul_right (2 ^ P) l1
      rw [← Nat.pow_add] at a1
      rw [show L - 23 + P + 23 = L + P from by omega]
      exact a1
    obtain ⟨R, hR, hn⟩ := near24_gen (by omega) v4 v1 v2 hD
    exact ⟨R, m, by rw [← hR]; exact hI, hn⟩
/-- A number of a sign. -/
def sg (s : Bool) (n : Nat) : Int := if s then -(n : Int) else n
theorem sg_zero (s : Bool) : sg s 0 = 0 := by cases s <;> rfl
theorem sg_abs (s : Bool) (n : Nat) : (sg s n).natAbs = n := by cases s <;> simp [sg]
theorem sg_not (s : Bool) (n : Nat) : sg (!s) n = -sg s n := by cases s <;> simp [sg]
theorem sg_mul (s t : Bool) (n k : Nat) : sg (s ^^ t) (n * k) = sg s n * sg t k := by cases s <;> cases t <;> simp [sg, Int.neg_mul, Int.mul_neg]
theorem sg_scale (s : Bool) (n k : Nat) : sg s (n * k) = sg s n * k := by cases s <;> simp [sg, Int.neg_mul]
/-- A single stands for z times 2 to the E - 1074. -/
def Sv (E b : Nat) (z : Int) : Prop := ∃ s m p X, single.read b = .number s m p ∧ -149 ≤ p ∧ z = sg s X ∧ m * 2 ^ (p + 1074).toNat = X * 2 ^ E
def NearZ (R z : Int) : Prop := ((R - z) * 4194304 ≤ z.natAbs ∧ -(z.natAbs : Int) ≤ (R - z) * 4194304) ∧ (z.natAbs < 16777216 → R = z) ∧ ((0 ≤ z → 0 ≤ R) ∧ (z ≤ 0 → R ≤ 0)) ∧ (∀ c k, c < 16777216 → z.natAbs ≤ c * 2 ^ k → R.natAbs ≤ c * 2 ^ k) ∧ (∀ c k, c < 16777216 → c * 2 ^ k ≤ z.natAbs → c * 2 ^ k ≤ R.natAbs)
theorem nearZ_of {s : Bool} {R X : Nat} (h : NearN R X) : NearZ (sg s R) (sg s X) := by
  have he := h.eq
  obtain ⟨h1, h2, h3, h4⟩ := h
  refine ⟨⟨?_, ?_⟩, fun h => ?_, ⟨fun h => ?_, fun h => ?_⟩, ?_, ?_⟩
  · clear h3 h4 he
    rw [sg_abs]; cases s <;> simp only [sg, if_true, if_false, Bool.false_eq_true] <;> omega
  · clear h3 h4 he
    rw [sg_abs]; cases s <;> simp only [sg, if_true, if_false, Bool.false_eq_true] <;> omega
  · rw [sg_abs] at h; rw [he h]
  · by_cases hx : X = 0
    · rw [he (by omega), hx, sg_zero]; exact Int.le_refl _
    · clear h1 h2 h3 h4 he
      cases s <;> simp only [sg, if_true, if_false, Bool.false_eq_true] at h ⊢ <;> omega
  · by_cases hx : X = 0
    · rw [he (by omega), hx, sg_zero]; exact Int.le_refl _
    · clear h1 h2 h3 h4 he
      cases s <;> simp only [sg, if_true, if_false, Bool.false_eq_true] at h ⊢ <;> omega
  · rw [sg_abs, sg_abs]; exact h3
  · rw [sg_abs, sg_abs]; exact h4
theorem read_neg {f : Format} {r m : Nat} {p : Int} (h : f.read r = .number false m p) (hr : r < f.signWeight) : f.read (f.signWeight + r) = .number true m p := by
  have hw : 0 < f.signWeight := Nat.two_pow_pos _
  have e1 : (f.signWeight + r) / f.signWeight = 1 := by rw [Nat.add_div_left _ hw, Nat.div_eq_of_lt hr]
  have e2 : (f.signWeight + r) % f.signWeight = r := by rw [Nat.add_mod_left, Nat.mod_eq_of_lt hr]
  have e3 : r / f.signWeight = 0 := Nat.div_eq_of_lt hr
  have e4 : r % f.signWeight = r := Nat.mod_eq_of_lt hr
  unfold Format.read at h ⊢
  simp only [e1, e2, e3, e4] at h ⊢
  split at h
  · rename_i hc
    rw [if_pos hc]
    injection h with _ h1 h2
    rw [← h1, ← h2]
    rfl
  · rename_i hc
    rw [if_neg hc]
    split at h
    · rename_i hc2
      rw [if_pos hc2]
      injection h with _ h1 h2
      rw [← h1, ← h2]
      rfl
    · split at h <;> cases h
theorem nearest_lt (f : Format) (mag : Nat) (place : Int) : f.nearest false mag place < f.signWeight := by
  have := f.infRung_lt
  have hw : 0 < f.signWeight := Nat.two_pow_pos _
  unfold Format.nearest
  split
  · show (0 : Nat) < _; exact hw
  · show min _ f.infRung < _; omega
theorem nearest_neg (f : Format) (mag : Nat) (place : Int) : f.nearest true mag place = f.signWeight + f.nearest false mag place := by
  unfold Format.nearest
  split
  · show f.signWeight + 0 = f.signWeight + 0; rfl
  · show f.signWeight + _ = f.signWeight + _; rfl
/-- A single stands for X times 2 to the E - 1074, with its sign. -/
def Svs (s : Bool) (E b X : Nat) : Prop := ∃ m p, single.read b = .number s m p ∧ -149 ≤ p ∧ m * 2 ^ (p + 1074).toNat = X * 2 ^ E
theorem Svs.sv {s : Bool} {E b X : Nat} (h : Svs s E b X) : Sv E b (sg s X) := by
  obtain ⟨m, p, h1, h2, h3⟩ := h
  exact ⟨s, m, p, X, h1, h2, rfl, h3⟩
theorem Svs.is {E b X : Nat} (h : Svs false E b X) : Is single b (X * 2 ^ E) := by
  obtain ⟨m, p, h1, h2, h3⟩ := h
  exact ⟨m, p, h1, by rw [sgl_lp]; exact h2, by omega, h3⟩
/-- What is written of a number that is X times a unit. -/
theorem svs_write (s : Bool) (mag : Nat) (place : Int) (E X : Nat) (h0 : -1074 ≤ place) (hX : mag * 2 ^ (place + 1074).toNat = X * 2 ^ E) (hE : 980 ≤ E) (hE2 : E ≤ 1074) (hlt : X < 2 ^ 100) :
    ∃ R, Svs s E (single.write (.number s mag place)) R ∧ NearN R X := by
  show ∃ R, Svs s E (single.nearest s mag place) R ∧ NearN R X
  have hA : 0 < 2 ^ E := Nat.two_pow_pos _
  have key : ∃ R m p, single.read (single.nearest false mag place) = .number false m p ∧ -149 ≤ p ∧ m * 2 ^ (p + 1074).toNat = R * 2 ^ E ∧ NearN R X := by
    rcases Nat.eq_zero_or_pos mag with hz | hm
    · subst hz
      have hX0 : X = 0 := by
        rw [Nat.zero_mul] at hX
        rcases Nat.eq_zero_or_pos X with h | h
        · exact h
        · have := Nat.mul_pos h hA
          omega
      subst hX0
      refine ⟨0, 0, -149, ?_, by omega, by rw [Nat.zero_mul, Nat.zero_mul], near_self 0⟩
      have : single.nearest false 0 place = 0 := by unfold Format.nearest; rw [if_pos rfl]; rfl
      rw [this]
      decide
    · obtain ⟨R, m, ⟨p, h1, h2, _, h4⟩, hn⟩ := near24 mag place E X hm h0 hX hE hE2 hlt
      exact ⟨R, m, p, h1, by rw [sgl_lp] at h2; exact h2, h4, hn⟩
  obtain ⟨R, m, p, h1, h2, h3, hn⟩ := key
  refine ⟨R, ?_, hn⟩
  cases s
  · exact ⟨m, p, h1, h2, h3⟩
  · exact ⟨m, p, by rw [nearest_neg]; exact read_neg h1 (nearest_lt _ _ _), h2, h3⟩
theorem sv_write (s : Bool) (mag : Nat) (place : Int) (E X : Nat) (h0 : -1074 ≤ place) (hX : mag * 2 ^ (place + 1074).toNat = X * 2 ^ E) (hE : 980 ≤ E) (hE2 : E ≤ 1074) (hlt : X < 2 ^ 100) :
    ∃ R, Sv E (single.write (.number s mag place)) (sg s R) ∧ NearN R X := by
  obtain ⟨R, h1, h2⟩ := svs_write s mag place E X h0 hX hE hE2 hlt
  exact ⟨R, h1.sv, h2⟩
theorem scale_int {s : Bool} {m X E : Nat} {i base : Int} (h : base ≤ i) (h0 : -1074 ≤ base) (hX : m * 2 ^ (i + 1074).toNat = X * 2 ^ E) : signed s m (i - base).toNat * ((2 ^ (base + 1074).toNat : Nat) : Int) = sg s X * ((2 ^ E : Nat) : Int) := by
  have e1 := scale_up (m := m) h h0
  rw [hX] at e1
  cases s
  · simp only [signed, sg, Bool.false_eq_true, if_false]
    rw [← Int.natCast_mul, ← Int.natCast_mul, e1]
  · simp only [signed, sg, if_true]
    rw [Int.neg_mul, Int.neg_mul, ← Int.natCast_mul, ← Int.natCast_mul, e1]
theorem sum_sv {s t : Bool} {m n X Y E : Nat} {i j : Int} (hi : -149 ≤ i) (hj : -149 ≤ j) (hX : m * 2 ^ (i + 1074).toNat = X * 2 ^ E) (hY : n * 2 ^ (j + 1074).toNat = Y * 2 ^ E) (hE : 980 ≤ E) (hE2 : E ≤ 1074) (hlt : (sg s X + sg t Y).natAbs < 2 ^ 100) :
    ∃ r R, ((Datum.number s m i).sum (.number t n j)).map single.write = some r ∧ Sv E r R ∧ NearZ R (sg s X + sg t Y) := by
  have e1 := scale_int (s := s) (base := min i j) (by omega) (by omega) hX
  have e2 := scale_int (s := t) (base := min i j) (by omega) (by omega) hY
  obtain ⟨T, hT⟩ : ∃ T, T = signed s m (i - min i j).toNat + signed t n (j - min i j).toNat := ⟨_, rfl⟩
  obtain ⟨z, hz⟩ : ∃ z, z = sg s X + sg t Y := ⟨_, rfl⟩
  have e3 : T * ((2 ^ (min i j + 1074).toNat : Nat) : Int) = z * ((2 ^ E : Nat) : Int) := by rw [hT, hz, Int.add_mul, Int.add_mul, e1, e2]
  have hsum : (Datum.number s m i).sum (.number t n j) = some (.number (if T = 0 then s && t else decide (T < 0)) T.natAbs (min i j)) := by rw [hT]; rfl
  rw [hsum, ← hz]
  rw [← hz] at hlt
  have p1 : (0 : Int) < ((2 ^ (min i j + 1074).toNat : Nat) : Int) := by have := Nat.two_pow_pos (min i j + 1074).toNat; omega
  have p2 : (0 : Int) < ((2 ^ E : Nat) : Int) := by have := Nat.two_pow_pos E; omega
  have eabs : T.natAbs * 2 ^ (min i j + 1074).toNat = z.natAbs * 2 ^ E := by
    have := congrArg Int.natAbs e3
    rw [Int.natAbs_mul, Int.natAbs_mul, Int.natAbs_natCast, Int.natAbs_natCast] at this
    exact this
  generalize ((2 ^ (min i j + 1074).toNat : Nat) : Int) = u at *
  generalize ((2 ^ E : Nat) : Int) = v at *
  obtain ⟨R, hS, hN⟩ := sv_write (if T = 0 then s && t else decide (T < 0)) T.natAbs (min i j) E z.natAbs (by omega) eabs hE hE2 hlt
  refine ⟨_, _, rfl, hS, ?_⟩
  have hzs : sg (if T = 0 then s && t else decide (T < 0)) z.natAbs = z := by
    by_cases hT0 : T = 0
    · have hz0 : z = 0 := by
        rw [hT0, Int.zero_mul] at e3
        rcases Int.mul_eq_zero.1 e3.symm with h | h
        · exact h
        · omega
      rw [hz0]; exact sg_zero _
    · rw [if_neg hT0]
      by_cases hneg : T < 0
      · have h1 : T * u < 0 := Int.mul_neg_of_neg_of_pos hneg p1
        have h2 : z < 0 := by
          rcases Int.lt_or_le z 0 with h | h
          · exact h
          · have := Int.mul_nonneg h (Int.le_of_lt p2)
            omega
        rw [decide_eq_true hneg]
        simp only [sg, if_true]; omega
      · have h1 : 0 < T * u := Int.mul_pos (by omega) p1
        have h2 : 0 < z := by
          rcases Int.lt_or_le 0 z with h | h
          · exact h
          · have := Int.mul_nonneg (show 0 ≤ -z by omega) (Int.le_of_lt p2)
            rw [Int.neg_mul] at this
            omega
        rw [decide_eq_false hneg]
        simp only [sg, Bool.false_eq_true, if_false]; omega
  have := nearZ_of (s := if T = 0 then s && t else decide (T < 0)) hN
  rw [hzs] at this
  exact this
theorem sv_add {E a b : Nat} {x y : Int} (ha : Sv E a x) (hb : Sv E b y) (hE : 980 ≤ E) (hE2 : E ≤ 1074) (hlt : (x + y).natAbs < 2 ^ 100) : ∃ r R, single.add a b = some r ∧ Sv E r R ∧ NearZ R (x + y) := by
  obtain ⟨s, m, i, X, h1, h2, rfl, h4⟩ := ha
  obtain ⟨t, n, j, Y, g1, g2, rfl, g4⟩ := hb
  unfold Format.add
  rw [h1, g1]
  exact sum_sv h2 g2 h4 g4 hE hE2 hlt
theorem sv_sub {E a b : Nat} {x y : Int} (ha : Sv E a x) (hb : Sv E b y) (hE : 980 ≤ E) (hE2 : E ≤ 1074) (hlt : (x - y).natAbs < 2 ^ 100) : ∃ r R, single.sub a b = some r ∧ Sv E r R ∧ NearZ R (x - y) := by
  obtain ⟨s, m, i, X, h1, h2, rfl, h4⟩ := ha
  obtain ⟨t, n, j, Y, g1, g2, rfl, g4⟩ := hb
  unfold Format.sub
  rw [h1, g1]
  have e : sg s X - sg t Y = sg s X + sg (!t) Y := by rw [sg_not]; omega
  rw [e] at hlt ⊢
  exact sum_sv h2 g2 h4 g4 hE hE2 hlt
theorem sv_mul {E1 E2 E a b : Nat} {x y : Int} (ha : Sv E1 a x) (hb : Sv E2 b y) (he : E1 + E2 = E + 1074) (hE : 980 ≤ E) (hE2 : E ≤ 1074) (hlt : (x * y).natAbs < 2 ^ 100) : ∃ r R, single.mul a b = some r ∧ Sv E r R ∧ NearZ R (x * y) := by
  obtain ⟨s, m, i, X, h1, h2, rfl, h4⟩ := ha
  obtain ⟨t, n, j, Y, g1, g2, rfl, g4⟩ := hb
  unfold Format.mul
  rw [h1, g1]
  rw [← sg_mul] at hlt ⊢
  rw [sg_abs] at hlt
  have hp : m * n * 2 ^ (i + j + 1074).toNat = X * Y * 2 ^ E := by
    obtain ⟨K, hK⟩ : ∃ K, K = 1074 := ⟨_, rfl⟩
    refine Nat.eq_of_mul_eq_mul_right (Nat.two_pow_pos K) ?_
    have e1 : m * n * 2 ^ (i + j + 1074).toNat * 2 ^ K = (m * 2 ^ (i + 1074).toNat) * (n * 2 ^ (j + 1074).toNat) := by
      have : 2 ^ (i + j + 1074).toNat * 2 ^ K = 2 ^ (i + 1074).toNat * 2 ^ (j + 1074).toNat := by
        rw [← Nat.pow_add, ← Nat.pow_add]; congr 1; omega
      rw [Nat.mul_assoc (m * n), this]
      ac_rfl
    have e2 : X * Y * 2 ^ E * 2 ^ K = (X * 2 ^ E1) * (Y * 2 ^ E2) := by
      have : 2 ^ E * 2 ^ K = 2 ^ E1 * 2 ^ E2 := by
        rw [← Nat.pow_add, ← Nat.pow_add]; congr 1; omega
      rw [Nat.mul_assoc (X * Y), this]
      ac_rfl
    rw [e1, e2, h4, g4]
  obtain ⟨R, hS, hN⟩ := sv_write (s ^^ t) (m * n) (i + j) E (X * Y) (by omega) hp hE hE2 hlt
  exact ⟨_, _, rfl, hS, nearZ_of hN⟩
theorem sv_order {E a b : Nat} {x y : Int} (ha : Sv E a x) (hb : Sv E b y) : single.order a b = some (compare x y) := by
  obtain ⟨s, m, i, X, h1, h2, rfl, h4⟩ := ha
  obtain ⟨t, n, j, Y, g1, g2, rfl, g4⟩ := hb
  have e1 := scale_int (s := s) (base := min i j) (by omega) (by omega) h4
  have e2 := scale_int (s := t) (base := min i j) (by omega) (by omega) g4
  unfold Format.order
  rw [h1, g1]
  simp only [Datum.order]
  have p1 : (0 : Int) < ((2 ^ (min i j + 1074).toNat : Nat) : Int) := by have := Nat.two_pow_pos (min i j + 1074).toNat; omega
  have p2 : (0 : Int) < ((2 ^ E : Nat) : Int) := by have := Nat.two_pow_pos E; omega
  generalize signed s m (i - min i j).toNat = c at *
  generalize signed t n (j - min i j).toNat = d at *
  generalize ((2 ^ (min i j + 1074).toNat : Nat) : Int) = u at *
  generalize ((2 ^ E : Nat) : Int) = v at *
  generalize sg s X = x at *
  generalize sg t Y = y at *
  have hlt : c < d ↔ x < y := by
    constructor
    · intro h
      have := Int.mul_lt_mul_of_pos_right h p1
      rw [e1, e2] at this
      exact Int.lt_of_mul_lt_mul_right this (Int.le_of_lt p2)
    · intro h
      have := Int.mul_lt_mul_of_pos_right h p2
      rw [← e1, ← e2] at this
      exact Int.lt_of_mul_lt_mul_right this (Int.le_of_lt p1)
  have heq : c = d ↔ x = y := by
    constructor
    · intro h
      rw [h, e2] at e1
      exact (Int.eq_of_mul_eq_mul_right (by omega) e1).symm
    · intro h
      rw [h, ← e2] at e1
      exact Int.eq_of_mul_eq_mul_right (by omega) e1
  congr 1
  show compareOfLessAndEq c d = compareOfLessAndEq x y
  unfold compareOfLessAndEq
  simp only [hlt, heq]
/-- A whole number as a single. -/
theorem sv_int (z : Int) (h : z.natAbs < 16777216) : Sv eW (floatOfInt .f32 z) z := by
  have hw : floatOfInt .f32 z = single.write (.number (decide (z < 0)) z.natAbs 0) := rfl
  obtain ⟨R, hS, hN⟩ := sv_write (decide (z < 0)) z.natAbs 0 eW z.natAbs (by omega) (by rw [show ((0 : Int) + 1074).toNat = eW from rfl]) (by rw [eW_is]; omega) (by rw [eW_is]; omega) (Nat.lt_of_lt_of_le h (by decide))
  rw [hN.eq h] at hS
  rw [hw]
  have : sg (decide (z < 0)) z.natAbs = z := by
    by_cases hz : z < 0
    · rw [decide_eq_true hz]; simp only [sg, if_true]; omega
    · rw [decide_eq_false hz]; simp only [sg, Bool.false_eq_true, if_false]; omega
  rw [this] at hS
  exact hS
/-- The same single in a smaller unit. -/
theorem Sv.unit {E b k : Nat} {z : Int} (h : Sv (E + k) b z) : Sv E b (z * ((2 ^ k : Nat) : Int)) := by
  obtain ⟨s, m, p, X, h1, h2, rfl, h4⟩ := h
  refine ⟨s, m, p, X * 2 ^ k, h1, h2, (sg_scale s X (2 ^ k)).symm, ?_⟩
  rw [h4, Nat.pow_add, Nat.mul_assoc, Nat.mul_comm (2 ^ E)]
end Go.Proofs.Ytkapjlkeohjjbaa
namespace Go.Proofs.Ytkapjlkeohjjbaa
set_option linter.unusedVariables false
set_option linter.unusedSimpArgs false
open Ieee

theorem read_flip (b : Nat) : single.read (b ^^^ 2147483648) = (single.read b).opposite := by
  have hs : single.signWeight = 2 ^ 31 := by decide
  have e1 : (b ^^^ 2147483648) % 2 ^ 31 = b % 2 ^ 31 := by
    rw [Nat.xor_mod_two_pow, show (2147483648 : Nat) % 2 ^ 31 = 0 from by decide, Nat.xor_zero]
  have e2 : (b ^^^ 2147483648) / 2 ^ 31 = (b / 2 ^ 31) ^^^ 1 := by
    rw [← Nat.shiftRight_eq_div_pow, Nat.shiftRight_xor_distrib, ← Nat.shiftRight_eq_div_pow]
    rfl
  have e3 : ((b / 2 ^ 31) ^^^ 1) % 2 = 1 - b / 2 ^ 31 % 2 := by
    rw [show (2 : Nat) = 2 ^ 1 from rfl, Nat.xor_mod_two_pow]
    rcases Nat.mod_two_eq_zero_or_one (b / (2 ^ 1) ^ 31) with h | h
    · rw [show (2 : Nat) ^ 1 = 2 from rfl] at h ⊢; rw [h]; rfl
    · rw [show (2 : Nat) ^ 1 = 2 from rfl] at h ⊢; rw [h]; rfl
  unfold Format.read
  rw [hs, e1, e2, e3]
  have hb : (1 - b / 2 ^ 31 % 2 == 1) = !(b / 2 ^ 31 % 2 == 1) := by
    rcases Nat.mod_two_eq_zero_or_one (b / 2 ^ 31) with h | h
    · rw [h]; rfl
    · rw [h]; rfl
  rw [hb]
  simp only
  split
  · rfl
  · split
    · rfl
    · split
      · rfl
      · rfl
theorem sv_neg {E b : Nat} {z : Int} (h : Sv E b z) : Sv E (b ^^^ 2147483648) (-z) := by
  obtain ⟨s, m, p, X, h1, h2, rfl, h4⟩ := h
  exact ⟨!s, m, p, X, by rw [read_flip, h1]; rfl, h2, (sg_not s X).symm, h4⟩
theorem read_small {b m : Nat} {s : Bool} {p : Int} (h : single.read b = .number s m p) : m < 16777216 := by
  have hb : single.binade = 8388608 := by decide
  unfold Format.read at h
  simp only at h
  split at h
  · rename_i hc
    injection h with _ h1 _
    omega
  · split at h
    · injection h with _ h1 _
      have := Nat.mod_lt (b % single.signWeight) (show 0 < single.binade by rw [hb]; omega)
      omega
    · split at h <;> cases h
theorem quot_mid (D n : Nat) (hn : 0 < n) : (2 * (D / n) + (D % n != 0).toNat) * n ≤ 2 * D + n ∧ 2 * D ≤ (2 * (D / n) + (D % n != 0).toNat) * n + n := by
  have h1 := Nat.div_add_mod D n
  have h2 := Nat.mod_lt D hn
  rw [Nat.add_mul, Nat.mul_assoc, Nat.mul_comm (D / n) n]
  generalize n * (D / n) = x at *
  generalize D % n = r at *
  by_cases h : r = 0
  · subst h
    simp only [bne_self_eq_false, Bool.toNat_false, Nat.zero_mul]
    omega
  · have : (r != 0) = true := by simp [h]
    rw [this, Bool.toNat_true, Nat.one_mul]
    omega
/-- From the mantissa's quotient to the numbers'. -/
theorem quot_gen {R mag Y X w g : Nat} (hg : mag * g * Y ≤ X * w + Y * g) (hg2 : X * w ≤ mag * g * Y + Y * g) (hR : R * 4194304 ≤ mag * 4194304 + mag) (hR2 : mag * 4194304 ≤ R * 4194304 + mag) (hmag : 16777216 ≤ mag) :
    (R * g * Y) * 1048576 ≤ (X * w) * 1048576 + X * w ∧ (X * w) * 1048576 ≤ (R * g * Y) * 1048576 + X * w := by
  have a1 := Nat.mul_le_mul_right (g * Y) hR
  have a2 := Nat.mul_le_mul_right (g * Y) hR2
  have a3 := Nat.mul_le_mul_right (g * Y) hmag
  rw [Nat.add_mul] at a1 a2
  have b1 : R * 4194304 * (g * Y) = 4194304 * (R * g * Y) := by ac_rfl
  have b2 : mag * 4194304 * (g * Y) = 4194304 * (mag * g * Y) := by ac_rfl
  have b3 : mag * (g * Y) = mag * g * Y := by ac_rfl
  have b4 : 16777216 * (g * Y) = 16777216 * (Y * g) := by rw [Nat.mul_comm g Y]
  rw [b1, b2, b3] at a1
  rw [b2, b1, b3] at a2
  rw [b3, b4] at a3
  generalize R * g * Y = r at *
  generalize mag * g * Y = m at *
  generalize Y * g = y at *
  generalize X * w = x at *
  omega
theorem log_place {m X I L : Nat} (hm : 0 < m) (hL : L = m.log2) (hX : m * 2 ^ I = X * 2 ^ eW) (hx : 1 ≤ X) (hx2 : X < 2048) : eW ≤ L + I ∧ L + I < 11 + eW := by
  have l1 : 2 ^ m.log2 ≤ m := Nat.log2_self_le (by omega)
  have l2 : m < 2 ^ (m.log2 + 1) := Nat.lt_log2_self
  rw [← hL] at l1 l2
  constructor
  · have : eW < L + 1 + I := by
      refine pow_lt_of ?_
      have a1 := Nat.mul_lt_mul_of_pos_right l2 (Nat.two_pow_pos I)
      rw [← Nat.pow_add, hX] at a1
      have a2 := Nat.mul_le_mul_right (2 ^ eW) hx
      rw [Nat.one_mul] at a2
      exact Nat.lt_of_le_of_lt a2 a1
    omega
  · refine pow_lt_of ?_
    have a1 := Nat.mul_le_mul_right (2 ^ I) l1
    rw [← Nat.pow_add, hX] at a1
    refine Nat.lt_of_le_of_lt a1 ?_
    rw [Nat.pow_add 2 11, show (2 : Nat) ^ 11 = 2048 from by decide]
    exact Nat.mul_lt_mul_of_pos_right hx2 (Nat.two_pow_pos _)
/-- One, in units of 2 to the -40. -/
def wB : Nat := 2 ^ 40
theorem quot_sv {s t : Bool} {m n X Y : Nat} {i j : Int} (hi : -149 ≤ i) (hj : -149 ≤ j) (hm : m < 16777216) (hn0 : 0 < n) (hX : m * 2 ^ (i + 1074).toNat = X * 2 ^ eW) (hY : n * 2 ^ (j + 1074).toNat = Y * 2 ^ eW) (hx : X < 2048) (hy1 : 1 ≤ Y) (hy : Y < 2048) :
    ∃ r R, ((Datum.number s m i).quotient 25 (.number t n j)).map single.write = some r ∧ Sv eU r (sg (s ^^ t) R) ∧ (R * Y) * 1048576 ≤ (X * wB) * 1048576 + X * wB ∧ (X * wB) * 1048576 ≤ (R * Y) * 1048576 + X * wB := by
  obtain ⟨I, hI⟩ : ∃ I, I = (i + 1074).toNat := ⟨_, rfl⟩
  obtain ⟨J, hJ⟩ : ∃ J, J = (j + 1074).toNat := ⟨_, rfl⟩
  rw [← hI] at hX
  rw [← hJ] at hY
  have eU' := eU_is
  have eW' := eW_is
  obtain ⟨l2, hl2⟩ : ∃ L, L = n.log2 := ⟨_, rfl⟩
  obtain ⟨c1, c2⟩ := log_place hn0 hl2 hY hy1 hy
  obtain ⟨l1, hl1⟩ : ∃ L, L = m.log2 := ⟨_, rfl⟩
  have hn2 : n < 2 ^ (l2 + 1) := by rw [hl2]; exact Nat.lt_log2_self
  rcases Nat.eq_zero_or_pos m with hz | hmp
  · subst hz
    have hX0 : X = 0 := by
      rw [Nat.zero_mul] at hX
      rcases Nat.eq_zero_or_pos X with h | h
      · exact h
      · have := Nat.mul_pos h (Nat.two_pow_pos eW)
        omega
    subst hX0
    have hq : (Datum.number s 0 i).quotient 25 (.number t n j) = some (.number (s ^^ t) 0 (i - j - ((25 + n.log2 - (0 : Nat).log2 : Nat) : Int) - 1)) := by
      simp only [Datum.quotient]
      rw [if_neg (by omega), Nat.zero_shiftLeft, Nat.zero_div, Nat.zero_mod]
      rfl
    rw [hq]
    have hw : single.write (.number (s ^^ t) 0 (i - j - ((25 + n.log2 - (0 : Nat).log2 : Nat) : Int) - 1)) = single.write (.number (s ^^ t) 0 0) := by
      show single.nearest _ _ _ = single.nearest _ _ _
      unfold Format.nearest
      rw [if_pos rfl, if_pos rfl]
    obtain ⟨R, hS, hN⟩ := sv_write (s ^^ t) 0 0 eU 0 (by omega) (by rw [Nat.zero_mul, Nat.zero_mul]) (by omega) (by omega) (by decide)
    have hR := hN.eq (by omega)
    subst hR
    exact ⟨_, 0, rfl, by rw [hw]; exact hS, by rw [Nat.zero_mul, Nat.zero_mul]; exact Nat.zero_le _, by rw [Nat.zero_mul, Nat.zero_mul]; exact Nat.zero_le _⟩
  · have hx1 : 1 ≤ X := by
      rcases Nat.eq_zero_or_pos X with h | h
      · rw [h, Nat.zero_mul] at hX
        have := Nat.mul_pos hmp (Nat.two_pow_pos I)
        omega
      · exact h
    obtain ⟨d1, d2⟩ := log_place hmp hl1 hX hx1 hx
    have hm1 : 2 ^ l1 ≤ m := by rw [hl1]; exact Nat.log2_self_le (by omega)
    have hm2 : m < 2 ^ (l1 + 1) := by rw [hl1]; exact Nat.lt_log2_self
    have hl24 : l1 < 24 := pow_lt_of (Nat.lt_of_le_of_lt hm1 hm)
    obtain ⟨more, hmore⟩ : ∃ k, k = 25 + l2 - l1 := ⟨_, rfl⟩
    obtain ⟨mag, hmag⟩ : ∃ k, k = 2 * (m * 2 ^ more / n) + (m * 2 ^ more % n != 0).toNat := ⟨_, rfl⟩
    obtain ⟨place, hplace⟩ : ∃ p, p = i - j - (more : Int) - 1 := ⟨_, rfl⟩
    have hq : (Datum.number s m i).quotient 25 (.number t n j) = some (.number (s ^^ t) mag place) := by
      simp only [Datum.quotient]
      rw [if_neg (by omega), ← hl1, ← hl2, ← hmore, Nat.shiftLeft_eq, ← hmag, ← hplace]
    rw [hq]
    obtain ⟨q1, q2⟩ := quot_mid (m * 2 ^ more) n hn0
    rw [← hmag] at q1 q2
    have hmagl : 16777216 ≤ m * 2 ^ more / n := by
      rw [Nat.le_div_iff_mul_le hn0]
      have a1 := Nat.mul_le_mul_right (2 ^ more) hm1
      rw [← Nat.pow_add] at a1
      have a2 : 16777216 * n ≤ 2 ^ 24 * 2 ^ (l2 + 1) := by
        rw [show (2 : Nat) ^ 24 = 16777216 from by decide]
        exact Nat.mul_le_mul_left _ (Nat.le_of_lt hn2)
      rw [← Nat.pow_add] at a2
      refine Nat.le_trans a2 (Nat.le_trans ?_ a1)
      exact Nat.pow_le_pow_right (by omega) (by omega)
    have hmagu : m * 2 ^ more / n < 2 ^ 28 := by
      rw [Nat.div_lt_iff_lt_mul hn0]
      have a1 := Nat.mul_lt_mul_of_pos_right hm2 (Nat.two_pow_pos more)
      rw [← Nat.pow_add] at a1
      have hn1 : 2 ^ l2 ≤ n := by rw [hl2]; exact Nat.log2_self_le (by omega)
      have a2 := Nat.mul_le_mul_left (2 ^ 28) hn1
      rw [← Nat.pow_add] at a2
      refine Nat.lt_of_lt_of_le a1 (Nat.le_trans ?_ a2)
      exact Nat.pow_le_pow_right (by omega) (by omega)
    have hst : (m * 2 ^ more % n != 0).toNat ≤ 1 := Bool.toNat_le _
    have hp1 : -40 ≤ place := by omega
    have hp2 : place ≤ 0 := by omega
    obtain ⟨k, hk⟩ : ∃ k, k = (place + 40).toNat := ⟨_, rfl⟩
    have hE : (place + 1074).toNat = eU + k := by omega
    obtain ⟨R, hS, hN⟩ := sv_write (s ^^ t) mag place (eU + k) mag (by omega) (by rw [hE]) (by omega) (by omega) (by
      generalize m * 2 ^ more / n = q at *
      have : (2 : Nat) ^ 100 = 2 ^ 28 * 2 ^ 72 := by rw [← Nat.pow_add]
      have h28 : (2 : Nat) ^ 28 = 268435456 := by decide
      have h72 : 1024 ≤ (2 : Nat) ^ 72 := by decide
      have a := Nat.mul_le_mul_left (2 ^ 28) h72
      rw [← this, h28] at a
      omega)
    refine ⟨_, R * 2 ^ k, rfl, ?_, ?_⟩
    · rw [sg_scale]; exact hS.unit
    · refine quot_gen (mag := mag) (g := 2 ^ k) ?_ ?_ hN.1 hN.2.1 (by omega)
      · refine Nat.le_of_mul_le_mul_right (c := 2 ^ eW) ?_ (Nat.two_pow_pos _)
        have a := Nat.mul_le_mul_right (2 ^ (k + J)) q1
        rw [Nat.add_mul] at a
        have e1 : mag * n * 2 ^ (k + J) = mag * 2 ^ k * Y * 2 ^ eW := by
          rw [Nat.mul_assoc (mag * 2 ^ k), ← hY, Nat.pow_add]; ac_rfl
        have e2 : 2 * (m * 2 ^ more) * 2 ^ (k + J) = X * wB * 2 ^ eW := by
          have : 2 * (m * 2 ^ more) * 2 ^ (k + J) = m * (2 ^ 1 * 2 ^ more * 2 ^ (k + J)) := by rw [Nat.pow_one]; ac_rfl
          rw [this, ← Nat.pow_add, ← Nat.pow_add, show 1 + more + (k + J) = I + 40 from by omega, Nat.pow_add, ← Nat.mul_assoc, hX, Nat.mul_right_comm]
          rfl
        have e3 : n * 2 ^ (k + J) = Y * 2 ^ k * 2 ^ eW := by
          rw [Nat.mul_right_comm, ← hY, Nat.pow_add]; ac_rfl
        rw [Nat.add_mul, ← e1, ← e2, ← e3]
        exact a
      · refine Nat.le_of_mul_le_mul_right (c := 2 ^ eW) ?_ (Nat.two_pow_pos _)
        have a := Nat.mul_le_mul_right (2 ^ (k + J)) q2
        rw [Nat.add_mul] at a
        have e1 : mag * n * 2 ^ (k + J) = mag * 2 ^ k * Y * 2 ^ eW := by
          rw [Nat.mul_assoc (mag * 2 ^ k), ← hY, Nat.pow_add]; ac_rfl
        have e2 : 2 * (m * 2 ^ more) * 2 ^ (k + J) = X * wB * 2 ^ eW := by
          have : 2 * (m * 2 ^ more) * 2 ^ (k + J) = m * (2 ^ 1 * 2 ^ more * 2 ^ (k + J)) := by rw [Nat.pow_one]; ac_rfl
          rw [this, ← Nat.pow_add, ← Nat.pow_add, show 1 + more + (k + J) = I + 40 from by omega, Nat.pow_add, ← Nat.mul_assoc, hX, Nat.mul_right_comm]
          rfl
        have e3 : n * 2 ^ (k + J) = Y * 2 ^ k * 2 ^ eW := by
          rw [Nat.mul_right_comm, ← hY, Nat.pow_add]; ac_rfl
        rw [Nat.add_mul, ← e1, ← e2, ← e3]
        exact a
theorem abs_near {A B k : Nat} (h1 : A * k ≤ B * k + B) (h2 : B * k ≤ A * k + B) : ((A : Int) - (B : Int)).natAbs * k ≤ B ∧ (-(A : Int) - -(B : Int)).natAbs * k ≤ B := by
  have e : (-(A : Int) - -(B : Int)).natAbs = ((A : Int) - (B : Int)).natAbs := by omega
  rw [e]
  refine (fun h => ⟨h, h⟩) ?_
  rcases Nat.le_total A B with h | h
  · rw [show ((A : Int) - (B : Int)).natAbs = B - A from by omega, Nat.sub_mul]; omega
  · rw [show ((A : Int) - (B : Int)).natAbs = A - B from by omega, Nat.sub_mul]; omega
theorem sg_near {s : Bool} {A B k : Nat} (h1 : A * k ≤ B * k + B) (h2 : B * k ≤ A * k + B) : (sg s A - sg s B).natAbs * k ≤ B := by
  obtain ⟨z1, z2⟩ := abs_near h1 h2
  cases s
  · exact z1
  · exact z2
/-- A quotient of whole numbers, in units of 2 to the -40. -/
theorem sv_div {a b : Nat} {x y : Int} (ha : Sv eW a x) (hb : Sv eW b y) (hx : x.natAbs < 2048) (hy1 : y ≠ 0) (hy : y.natAbs < 2048) :
    ∃ r T, single.div a b = some r ∧ Sv eU r T ∧ (T * y - x * (wB : Int)).natAbs * 1048576 ≤ x.natAbs * wB := by
  obtain ⟨s, m, i, X, h1, h2, rfl, h4⟩ := ha
  obtain ⟨t, n, j, Y, g1, g2, rfl, g4⟩ := hb
  rw [sg_abs] at hx hy
  have hY1 : 1 ≤ Y := by
    rcases Nat.eq_zero_or_pos Y with h | h
    · exact absurd (by rw [h, sg_zero]) hy1
    · exact h
  have hn0 : 0 < n := by
    rcases Nat.eq_zero_or_pos n with h | h
    · rw [h, Nat.zero_mul] at g4
      have := Nat.mul_pos hY1 (Nat.two_pow_pos eW)
      omega
    · exact h
  obtain ⟨r, R, q1, q2, q3, q4⟩ := quot_sv (s := s) (t := t) h2 g2 (read_small h1) hn0 h4 g4 hx hY1 hy
  refine ⟨r, _, ?_, q2, ?_⟩
  · unfold Format.div
    rw [h1, g1]
    exact q1
  · have e1 : sg (s ^^ t) R * sg t Y = sg s (R * Y) := by
      rw [← sg_mul, Bool.xor_assoc, Bool.xor_self, Bool.xor_false]
    have e2 : sg s X * (wB : Int) = sg s (X * wB) := (sg_scale s X wB).symm
    rw [e1, e2, sg_abs]
    exact sg_near q3 q4
end Go.Proofs.Ytkapjlkeohjjbaa
namespace Go.Proofs.Ytkapjlkeohjjbaa
set_option linter.unusedVariables false
set_option linter.unusedSimpArgs false
open Ieee

theorem wB_cast : ((2 ^ 40 : Nat) : Int) = (wB : Int) := rfl
/-- An eighth of a million: what one is in units of the rounding. -/
def cB : Nat := 2 ^ 18
theorem wB_c : (wB : Int) = 4194304 * (cB : Int) := by
  have : wB = 4194304 * cB := by unfold wB cB; rw [show (4194304 : Nat) = 2 ^ 22 from by decide, ← Nat.pow_add]
  rw [this]; rfl
theorem cB_pos : (0 : Int) < (cB : Int) := by have : 0 < cB := Nat.two_pow_pos _; omega
/-- Sixteen times the product of a mixture by quarters. -/
def FS (p q u v s : Int) : Int := (4 * p + s * (u - p)) * (4 * q + s * (v - q))
theorem FS_eq (p q u v s : Int) : FS p q u v s = 16 * (p * q) + 4 * (s * ((u - p) * q + (v - q) * p)) + s * s * ((u - p) * (v - q)) := by unfold FS; grind
theorem uv_eq (p q u v : Int) : u * v = p * q + ((u - p) * q + (v - q) * p) + (u - p) * (v - q) := by grind
theorem FS_swap (p q u v s : Int) : FS p q u v s = FS u v p q (4 - s) := by unfold FS; grind
/-- At an end. -/
theorem end_low {P B K s : Int} (hs : 0 ≤ s) (hs4 : s ≤ 4) (h : 0 ≤ K ∧ B + K ≤ 0 ∨ K < 0 ∧ B ≤ 0) : 16 * P + 4 * (s * B) + s * s * K ≤ 16 * P := by
  have : s = 0 ∨ s = 1 ∨ s = 2 ∨ s = 3 ∨ s = 4 := by omega
  rcases this with rfl | rfl | rfl | rfl | rfl <;> omega
theorem end_high {P B K s : Int} (hs : 0 ≤ s) (hs4 : s ≤ 4) (h : 0 ≤ K ∧ 0 ≤ B + K ∨ K < 0 ∧ -(2 * K) ≤ B) : 16 * P + 4 * (s * B) + s * s * K ≤ 16 * (P + B + K) := by
  have : s = 0 ∨ s = 1 ∨ s = 2 ∨ s = 3 ∨ s = 4 := by omega
  rcases this with rfl | rfl | rfl | rfl | rfl <;> omega
theorem mid_id {P B A T w s e : Int} (h : 2 * A * T = B * w + e) : 4 * A * (16 * (P * (w * w) + T * (w * B) - T * T * A) - (16 * P + 4 * (s * B) - s * s * A) * (w * w)) = (4 * B - 2 * s * A) * (4 * B - 2 * s * A) * (w * w) - 16 * (e * e) := by grind
theorem sq_nonneg (a : Int) : 0 ≤ a * a := by
  rcases Int.le_total 0 a with h | h
  · exact Int.mul_nonneg h h
  · exact Int.mul_nonneg_of_nonpos_of_nonpos h h
theorem sq_le {a b : Int} (h1 : -b ≤ a) (h2 : a ≤ b) : a * a ≤ b * b := by
  have h3 : 0 ≤ (b - a) * (b + a) := Int.mul_nonneg (by omega) (by omega)
  have h4 : (b - a) * (b + a) = b * b - a * a := by grind
  omega
/-- In the middle: near the greatest. -/
theorem mid_best {P B A T w s e k : Int} (h : 2 * A * T = B * w + e) (hA : 1 ≤ A) (hB0 : 0 ≤ B) (hB : B ≤ 722) (he1 : -(B * k) ≤ e) (he2 : e ≤ B * k) :
    (16 * P + 4 * (s * B) - s * s * A) * (w * w) ≤ 16 * (P * (w * w) + T * (w * B) - T * T * A) + 8388608 * (k * k) := by
  have hid := mid_id (P := P) (s := s) h
  have h1 : 0 ≤ (4 * B - 2 * s * A) * (4 * B - 2 * s * A) * (w * w) := Int.mul_nonneg (sq_nonneg _) (sq_nonneg _)
  have h2 := sq_le he1 he2
  have h3 : B * k * (B * k) = B * B * (k * k) := by grind
  have h4 : B * B ≤ 722 * 722 := Int.mul_le_mul hB hB hB0 (by omega)
  have h5 : B * B * (k * k) ≤ 722 * 722 * (k * k) := Int.mul_le_mul_of_nonneg_right h4 (sq_nonneg k)
  have h6 := sq_nonneg k
  rw [h3] at h2
  generalize (4 * B - 2 * s * A) * (4 * B - 2 * s * A) * (w * w) = c1 at *
  generalize 16 * (P * (w * w) + T * (w * B) - T * T * A) = c2 at *
  generalize (16 * P + 4 * (s * B) - s * s * A) * (w * w) = c3 at *
  generalize e * e = c4 at *
  generalize B * B * (k * k) = c5 at *
  generalize k * k = c6 at *
  rcases Int.lt_or_le (c2 - c3) 0 with hn | hn
  · have h7 : 4 * A * (c2 - c3) ≤ 1 * (c2 - c3) := Int.mul_le_mul_of_nonpos_right (by omega) (by omega)
    rw [hid] at h7
    omega
  · omega
theorem prod_near {X Y M N w c : Int} (hX : 0 ≤ X ∧ X ≤ 19 * w) (hN : 0 ≤ N ∧ N ≤ 19 * w) (hM : -(38 * c) ≤ M - X) (hN2 : -(38 * c) ≤ N - Y) (hc : 0 ≤ c) : X * Y ≤ M * N + 1444 * (c * w) := by
  have e : M * N = X * Y + (M - X) * N + X * (N - Y) := by grind
  have h1 : -(38 * c) * N ≤ (M - X) * N := Int.mul_le_mul_of_nonneg_right hM hN.1
  have h2 : X * -(38 * c) ≤ X * (N - Y) := Int.mul_le_mul_of_nonneg_left hN2 hX.1
  have h3 : 38 * c * N ≤ 38 * c * (19 * w) := Int.mul_le_mul_of_nonneg_left hN.2 (by omega)
  have h4 : X * (38 * c) ≤ 19 * w * (38 * c) := Int.mul_le_mul_of_nonneg_right hX.2 (by omega)
  have e3 : 38 * c * (19 * w) = 722 * (c * w) := by grind
  have e4 : 19 * w * (38 * c) = 722 * (c * w) := by grind
  rw [Int.neg_mul] at h1
  rw [Int.mul_neg] at h2
  rw [e3] at h3
  rw [e4] at h4
  omega
theorem xy_eq {p q u v T w : Int} : (p * w + T * (u - p)) * (q * w + T * (v - q)) = p * q * (w * w) + T * (w * ((u - p) * q + (v - q) * p)) + T * T * ((u - p) * (v - q)) := by grind
/-- What a mixture is worth. -/
def MixOk (p q u v M N : Int) : Prop := (0 ≤ M ∧ M ≤ 19 * (wB : Int)) ∧ (0 ≤ N ∧ N ≤ 19 * (wB : Int)) ∧ ∀ s, 0 ≤ s → s ≤ 4 → FS p q u v s * ((wB : Int) * (wB : Int)) * 64 ≤ 1024 * (M * N) + (wB : Int) * (wB : Int)
/-- What the part of the mixture is, as it is told. -/
def TOk (p q u v T : Int) : Prop := (0 ≤ T ∧ T ≤ (wB : Int)) ∧ ∀ s, 0 ≤ s → s ≤ 4 → FS p q u v s * ((wB : Int) * (wB : Int)) ≤ 16 * ((p * (wB : Int) + T * (u - p)) * (q * (wB : Int) + T * (v - q))) + 134217728 * ((cB : Int) * (cB : Int))
theorem tok_low {p q u v : Int} (h : 0 ≤ (u - p) * (v - q) ∧ u * v ≤ p * q ∨ (u - p) * (v - q) < 0 ∧ (u - p) * q + (v - q) * p ≤ 0) : TOk p q u v 0 := by
  have hw : (0 : Int) ≤ (wB : Int) := Int.natCast_nonneg _
  refine ⟨⟨Int.le_refl _, hw⟩, fun s h0 h4 => ?_⟩
  have e := uv_eq p q u v
  rw [xy_eq, FS_eq]
  generalize (u - p) * (v - q) = K at *
  generalize (u - p) * q + (v - q) * p = B at *
  have hl := end_low (P := p * q) (B := B) (K := K) h0 h4 (by rcases h with h | h; exact .inl ⟨h.1, by omega⟩; exact .inr h)
  have h5 := Int.mul_le_mul_of_nonneg_right hl (sq_nonneg (wB : Int))
  have h6 := sq_nonneg (cB : Int)
  rw [Int.mul_assoc 16] at h5
  rw [Int.zero_mul, Int.zero_mul, Int.zero_mul, Int.add_zero, Int.add_zero]
  omega
theorem tok_high {p q u v : Int} (h : 0 ≤ (u - p) * (v - q) ∧ p * q ≤ u * v ∨ (u - p) * (v - q) < 0 ∧ -(2 * ((u - p) * (v - q))) ≤ (u - p) * q + (v - q) * p) : TOk p q u v (wB : Int) := by
  have hw : (0 : Int) ≤ (wB : Int) := Int.natCast_nonneg _
  refine ⟨⟨hw, Int.le_refl _⟩, fun s h0 h4 => ?_⟩
  have e := uv_eq p q u v
  have exy : (p * (wB : Int) + (wB : Int) * (u - p)) * (q * (wB : Int) + (wB : Int) * (v - q)) = (p * q + ((u - p) * q + (v - q) * p) + (u - p) * (v - q)) * ((wB : Int) * (wB : Int)) := by grind
  rw [exy, FS_eq]
  generalize (u - p) * (v - q) = K at *
  generalize (u - p) * q + (v - q) * p = B at *
  have hl := end_high (P := p * q) (B := B) (K := K) h0 h4 (by rcases h with h | h; exact .inl ⟨h.1, by omega⟩; exact .inr h)
  have h5 := Int.mul_le_mul_of_nonneg_right hl (sq_nonneg (wB : Int))
  have h6 := sq_nonneg (cB : Int)
  rw [Int.mul_assoc 16] at h5
  omega
theorem div_eta {T K B : Int} (h : (T * (2 * K) - -B * (wB : Int)).natAbs * 1048576 ≤ (-B).natAbs * wB) : -((B.natAbs : Int) * (4 * (cB : Int))) ≤ T * (2 * K) + B * (wB : Int) ∧ T * (2 * K) + B * (wB : Int) ≤ (B.natAbs : Int) * (4 * (cB : Int)) := by
  have hw : wB = 4 * cB * 1048576 := by
    have := wB_c
    omega
  have e : T * (2 * K) - -B * (wB : Int) = T * (2 * K) + B * (wB : Int) := by rw [Int.neg_mul]; omega
  rw [e, Int.natAbs_neg] at h
  have h2 : (T * (2 * K) + B * (wB : Int)).natAbs ≤ B.natAbs * (4 * cB) := by
    refine Nat.le_of_mul_le_mul_right (c := 1048576) ?_ (by decide)
    rw [Nat.mul_assoc B.natAbs, ← hw]
    exact h
  have h3 : (((T * (2 * K) + B * (wB : Int)).natAbs : Nat) : Int) ≤ (B.natAbs : Int) * (4 * (cB : Int)) := by
    have := Int.ofNat_le.2 h2
    rw [Int.natCast_mul, Int.natCast_mul] at this
    exact this
  generalize T * (2 * K) + B * (wB : Int) = z at *
  generalize (B.natAbs : Int) * (4 * (cB : Int)) = y at *
  omega
theorem bk_neg {B : Int} (h : B ≤ 0) : (B.natAbs : Int) * (4 * (cB : Int)) = -(B * (4 * (cB : Int))) := by
  rw [show (B.natAbs : Int) = -B from by omega, Int.neg_mul]
theorem bk_pos {B : Int} (h : 0 ≤ B) : (B.natAbs : Int) * (4 * (cB : Int)) = B * (4 * (cB : Int)) := by
  rw [show (B.natAbs : Int) = B from by omega]
theorem bw_eq (B : Int) : B * (wB : Int) = 1048576 * (B * (4 * (cB : Int))) := by rw [wB_c]; grind
/-- The quotient tells where the greatest lies. -/
theorem div_sign {T K B : Int} (hK : K < 0) (h : (T * (2 * K) - -B * (wB : Int)).natAbs * 1048576 ≤ (-B).natAbs * wB) : (0 < T → 0 < B) ∧ (T ≤ 0 → B ≤ 0) := by
  obtain ⟨h1, h2⟩ := div_eta h
  have hc := cB_pos
  rw [bw_eq] at h1 h2
  constructor
  · intro hT
    have ht : T * (2 * K) < 0 := Int.mul_neg_of_pos_of_neg hT (by omega)
    rcases Int.lt_or_le 0 B with hb | hb
    · exact hb
    · rw [bk_neg hb] at h1
      have hbk : B * (4 * (cB : Int)) ≤ 0 := Int.mul_nonpos_of_nonpos_of_nonneg hb (by omega)
      generalize B * (4 * (cB : Int)) = y at *
      generalize T * (2 * K) = z at *
      omega
  · intro hT
    have ht : 0 ≤ T * (2 * K) := Int.mul_nonneg_of_nonpos_of_nonpos hT (by omega)
    rcases Int.lt_or_le 0 B with hb | hb
    · rw [bk_pos (by omega)] at h2
      have hbk : 0 < B * (4 * (cB : Int)) := Int.mul_pos hb (by omega)
      generalize B * (4 * (cB : Int)) = y at *
      generalize T * (2 * K) = z at *
      omega
    · exact hb
theorem div_one {T K B : Int} (hK : K < 0) (hB : 0 < B) (hB2 : B ≤ 722) (hT : (wB : Int) ≤ T) (h : (T * (2 * K) - -B * (wB : Int)).natAbs * 1048576 ≤ (-B).natAbs * wB) : -(2 * K) ≤ B := by
  obtain ⟨h1, h2⟩ := div_eta h
  have hc := cB_pos
  rw [bk_pos (by omega)] at h1
  have h3 : T * (2 * K) ≤ (wB : Int) * (2 * K) := Int.mul_le_mul_of_nonpos_right hT (by omega)
  have e1 : (wB : Int) * (2 * K) + B * (wB : Int) = (2 * K + B) * (4 * (cB : Int)) * 1048576 := by rw [wB_c]; grind
  rcases Int.lt_or_le B (-(2 * K)) with hb | hb
  · have h4 : (2 * K + B) * (4 * (cB : Int)) ≤ -1 * (4 * (cB : Int)) := Int.mul_le_mul_of_nonneg_right (by omega) (by omega)
    have h5 : B * (4 * (cB : Int)) ≤ 722 * (4 * (cB : Int)) := Int.mul_le_mul_of_nonneg_right hB2 (by omega)
    have h6 : -(B * (4 * (cB : Int))) ≤ (2 * K + B) * (4 * (cB : Int)) * 1048576 := by rw [← e1]; omega
    generalize (2 * K + B) * (4 * (cB : Int)) = y at *
    generalize B * (4 * (cB : Int)) = z at *
    omega
  · exact hb
theorem tok_mid {p q u v T : Int} (hK : (u - p) * (v - q) < 0) (hB2 : (u - p) * q + (v - q) * p ≤ 722) (h0 : 0 < T) (h1 : T < (wB : Int)) (h : (T * (2 * ((u - p) * (v - q))) - -((u - p) * q + (v - q) * p) * (wB : Int)).natAbs * 1048576 ≤ (-((u - p) * q + (v - q) * p)).natAbs * wB) : TOk p q u v T := by
  have hB0 := (div_sign hK h).1 h0
  obtain ⟨e1, e2⟩ := div_eta h
  refine ⟨⟨by omega, by omega⟩, fun s _ _ => ?_⟩
  rw [xy_eq, FS_eq]
  generalize (u - p) * (v - q) = K at *
  generalize (u - p) * q + (v - q) * p = B at *
  generalize p * q = P at *
  rw [bk_pos (by omega)] at e1 e2
  have hc := cB_pos
  have hb := mid_best (P := P) (B := B) (A := -K) (T := T) (w := (wB : Int)) (s := s) (e := -(T * (2 * K) + B * (wB : Int))) (k := 4 * (cB : Int)) (by grind) (by omega) (by omega) hB2 (by omega) (by omega)
  have f1 : 4 * (cB : Int) * (4 * (cB : Int)) = 16 * ((cB : Int) * (cB : Int)) := by grind
  have f2 : 16 * P + 4 * (s * B) - s * s * -K = 16 * P + 4 * (s * B) + s * s * K := by grind
  have f3 : P * ((wB : Int) * (wB : Int)) + T * ((wB : Int) * B) - T * T * -K = P * ((wB : Int) * (wB : Int)) + T * ((wB : Int) * B) + T * T * K := by grind
  rw [f1, f2, f3] at hb
  generalize (cB : Int) * (cB : Int) = y at *
  generalize (16 * P + 4 * (s * B) + s * s * K) * ((wB : Int) * (wB : Int)) = z at *
  generalize 16 * (P * ((wB : Int) * (wB : Int)) + T * ((wB : Int) * B) + T * T * K) = x at *
  omega
theorem mix_of {p q u v T M N : Int} (hT : TOk p q u v T) (hM0 : 0 ≤ M ∧ M ≤ 19 * (wB : Int)) (hN0 : 0 ≤ N ∧ N ≤ 19 * (wB : Int)) (hX : 0 ≤ p * (wB : Int) + T * (u - p) ∧ p * (wB : Int) + T * (u - p) ≤ 19 * (wB : Int))
    (hM : -(38 * (cB : Int)) ≤ M - (p * (wB : Int) + T * (u - p))) (hN : -(38 * (cB : Int)) ≤ N - (q * (wB : Int) + T * (v - q))) : MixOk p q u v M N := by
  have hc := cB_pos
  refine ⟨hM0, hN0, fun s h0 h4 => ?_⟩
  have h1 := hT.2 s h0 h4
  have h2 := prod_near hX hN0 hM hN (by omega)
  have h3 : (wB : Int) * (wB : Int) = 4194304 * ((cB : Int) * (wB : Int)) := by
    have := wB_c
    generalize (cB : Int) = c at *
    generalize (wB : Int) = w at *
    grind
  have h5 : (cB : Int) * (wB : Int) = 4194304 * ((cB : Int) * (cB : Int)) := by
    have := wB_c
    generalize (cB : Int) = c at *
    generalize (wB : Int) = w at *
    grind
  have h6 := sq_nonneg (cB : Int)
  generalize FS p q u v s = F at *
  generalize (p * (wB : Int) + T * (u - p)) * (q * (wB : Int) + T * (v - q)) = x at *
  rw [h3] at h1 ⊢
  rw [h5] at h1 h2 ⊢
  generalize (cB : Int) * (cB : Int) = y at *
  generalize M * N = z at *
  have e1 : F * (4194304 * (4194304 * y)) = 4194304 * (4194304 * (F * y)) := by grind
  rw [e1] at h1 ⊢
  generalize F * y = f at *
  omega
end Go.Proofs.Ytkapjlkeohjjbaa
namespace Go.Proofs.Ytkapjlkeohjjbaa
set_option linter.unusedVariables false
set_option linter.unusedSimpArgs false
open Ieee

/-- The unit of products: 2 to the -80. -/
def eV : Nat := 994
theorem eV_is : eV = 994 := rfl
theorem sv_low {a : Nat} {p : Int} (h : Sv eW a p) : Sv eU a (p * (wB : Int)) := by
  have h2 : Sv (eU + 40) a p := h
  have := h2.unit
  rw [wB_cast] at this
  exact this
theorem nat24 {z : Int} (h : z.natAbs < 16777216) : z.natAbs < 2 ^ 100 := Nat.lt_of_lt_of_le h (by decide)
theorem sub_int {a b : Nat} {x y : Int} (ha : Sv eW a x) (hb : Sv eW b y) (h : (x - y).natAbs < 16777216) : ∃ r, single.sub a b = some r ∧ Sv eW r (x - y) := by
  obtain ⟨r, R, h1, h2, h3⟩ := sv_sub ha hb (by rw [eW_is]; omega) (by rw [eW_is]; omega) (nat24 h)
  rw [h3.2.1 h] at h2
  exact ⟨r, h1, h2⟩
theorem add_int {a b : Nat} {x y : Int} (ha : Sv eW a x) (hb : Sv eW b y) (h : (x + y).natAbs < 16777216) : ∃ r, single.add a b = some r ∧ Sv eW r (x + y) := by
  obtain ⟨r, R, h1, h2, h3⟩ := sv_add ha hb (by rw [eW_is]; omega) (by rw [eW_is]; omega) (nat24 h)
  rw [h3.2.1 h] at h2
  exact ⟨r, h1, h2⟩
theorem mul_int {a b : Nat} {x y : Int} (ha : Sv eW a x) (hb : Sv eW b y) (h : (x * y).natAbs < 16777216) : ∃ r, single.mul a b = some r ∧ Sv eW r (x * y) := by
  obtain ⟨r, R, h1, h2, h3⟩ := sv_mul (E := eW) ha hb (by rw [eW_is]) (by rw [eW_is]; omega) (by rw [eW_is]; omega) (nat24 h)
  rw [h3.2.1 h] at h2
  exact ⟨r, h1, h2⟩
theorem lt100 {z : Int} {k : Nat} (hk : k ≤ 1000) (h : z.natAbs ≤ k * wB) : z.natAbs < 2 ^ 100 := by
  have h1 : k * wB ≤ 1024 * wB := Nat.mul_le_mul_right _ (by omega)
  have h2 : 1024 * wB < 2 ^ 100 := by
    unfold wB
    rw [show (1024 : Nat) = 2 ^ 10 from by decide, ← Nat.pow_add]
    exact Nat.pow_lt_pow_right (by omega) (by omega)
  omega
/-- From a rounded number to the true one, where it is small. -/
theorem near_in {R z : Int} {k : Nat} (h : NearZ R z) (hz : z.natAbs ≤ k * wB) : -((k : Int) * (cB : Int)) ≤ R - z ∧ R - z ≤ (k : Int) * (cB : Int) := by
  obtain ⟨⟨h1, h2⟩, _⟩ := h
  have hw : (z.natAbs : Int) ≤ (k : Int) * (cB : Int) * 4194304 := by
    have h3 : (z.natAbs : Int) ≤ ((k * wB : Nat) : Int) := Int.ofNat_le.2 hz
    rw [Int.natCast_mul, wB_c] at h3
    have e : (k : Int) * (4194304 * (cB : Int)) = (k : Int) * (cB : Int) * 4194304 := by grind
    rw [e] at h3
    exact h3
  generalize (k : Int) * (cB : Int) = y at *
  generalize (z.natAbs : Int) = x at *
  omega
theorem abs_le {z : Int} {k : Nat} (h0 : 0 ≤ z) (h1 : z ≤ (k : Int) * (wB : Int)) : z.natAbs ≤ k * wB := by
  have h2 : (z.natAbs : Int) ≤ ((k * wB : Nat) : Int) := by rw [Int.natCast_mul]; omega
  exact Int.ofNat_le.1 h2
theorem abs_le2 {z : Int} {k : Nat} (h0 : z ≤ 0) (h1 : -((k : Int) * (wB : Int)) ≤ z) : z.natAbs ≤ k * wB := by
  have h2 : (z.natAbs : Int) ≤ ((k * wB : Nat) : Int) := by rw [Int.natCast_mul]; omega
  exact Int.ofNat_le.1 h2
theorem le_abs {z : Int} {k : Nat} (h : z.natAbs ≤ k * wB) : -((k : Int) * (wB : Int)) ≤ z ∧ z ≤ (k : Int) * (wB : Int) := by
  have h3 : (z.natAbs : Int) ≤ ((k * wB : Nat) : Int) := Int.ofNat_le.2 h
  rw [Int.natCast_mul] at h3
  omega
/-- One number of a mixture. -/
theorem coord {a wd wt : Nat} {p u T : Int} (ha : Sv eW a p) (hd : Sv eW wd (u - p)) (ht : Sv eU wt T) (hT0 : 0 ≤ T) (hT1 : T ≤ (wB : Int)) (p0 : 0 ≤ p) (p1 : p ≤ 19) (u0 : 0 ≤ u) (u1 : u ≤ 19) :
    ∃ g m M, single.mul wt wd = some g ∧ single.add a g = some m ∧ Sv eU m M ∧ (0 ≤ M ∧ M ≤ 19 * (wB : Int)) ∧ -(38 * (cB : Int)) ≤ M - (p * (wB : Int) + T * (u - p)) := by
  have hw : (0 : Int) ≤ (wB : Int) := Int.natCast_nonneg _
  obtain ⟨dn, hdn⟩ : ∃ k : Nat, k = (u - p).natAbs := ⟨_, rfl⟩
  have hdn19 : dn ≤ 19 := by omega
  -- the product lies between nothing and the difference
  have hTd : (T * (u - p)).natAbs ≤ dn * wB := by
    rcases Int.le_total 0 (u - p) with h | h
    · have e : (u - p) = (dn : Int) := by omega
      refine abs_le (Int.mul_nonneg hT0 h) ?_
      rw [e, Int.mul_comm]
      exact Int.mul_le_mul_of_nonneg_left hT1 (by omega)
    · have e : (u - p) = -(dn : Int) := by omega
      refine abs_le2 (Int.mul_nonpos_of_nonneg_of_nonpos hT0 h) ?_
      rw [e, Int.mul_neg, Int.mul_comm T]
      exact Int.neg_le_neg (Int.mul_le_mul_of_nonneg_left hT1 (by omega))
  obtain ⟨g, G, hg, sg', ng⟩ := sv_mul (E := eU) ht hd (by rw [eU_is, eW_is]) (by rw [eU_is]; omega) (by rw [eU_is]; omega) (lt100 (by omega) hTd)
  have hG := ng.2.2.2.1 dn 40 (by omega) hTd
  have hGs := ng.2.2.1
  have hGn := near_in ng hTd
  have hGb := le_abs hG
  have hz : 0 ≤ p * (wB : Int) + G ∧ p * (wB : Int) + G ≤ 19 * (wB : Int) := by
    have hp0 : 0 ≤ p * (wB : Int) := Int.mul_nonneg p0 hw
    have hp1 : p * (wB : Int) ≤ 19 * (wB : Int) := Int.mul_le_mul_of_nonneg_right p1 hw
    have hu0 : 0 ≤ u * (wB : Int) := Int.mul_nonneg u0 hw
    have hu1 : u * (wB : Int) ≤ 19 * (wB : Int) := Int.mul_le_mul_of_nonneg_right u1 hw
    rcases Int.le_total 0 (u - p) with h | h
    · have e : (dn : Int) = u - p := by omega
      have h2 := hGs.1 (Int.mul_nonneg hT0 h)
      rw [e, Int.sub_mul] at hGb
      omega
    · have e : (dn : Int) = -(u - p) := by omega
      have h2 := hGs.2 (Int.mul_nonpos_of_nonneg_of_nonpos hT0 h)
      rw [e, Int.neg_mul, Int.sub_mul] at hGb
      omega
  have hzn := abs_le (k := 19) hz.1 hz.2
  obtain ⟨m, M, hm, sm, nm⟩ := sv_add (sv_low ha) sg' (by rw [eU_is]; omega) (by rw [eU_is]; omega) (lt100 (by omega) hzn)
  have hMn := near_in nm hzn
  have hM := le_abs (nm.2.2.2.1 19 40 (by omega) hzn)
  refine ⟨g, m, M, hg, hm, sm, ⟨nm.2.2.1.1 hz.1, hM.2⟩, ?_⟩
  have hd2 : (dn : Int) * (cB : Int) ≤ 19 * (cB : Int) := Int.mul_le_mul_of_nonneg_right (by omega) (Int.natCast_nonneg _)
  generalize (dn : Int) * (cB : Int) = y1 at *
  have hMn1 : -(((19 : Nat) : Int) * (cB : Int)) ≤ M - (p * (wB : Int) + G) := hMn.1
  rw [show ((19 : Nat) : Int) = 19 from rfl] at hMn1
  omega
theorem mix_end {a b wd we wt : Nat} {p q u v T : Int} (ha : Sv eW a p) (hb : Sv eW b q) (hd : Sv eW wd (u - p)) (he : Sv eW we (v - q)) (ht : Sv eU wt T) (p0 : 0 ≤ p) (p1 : p ≤ 19) (q0 : 0 ≤ q) (q1 : q ≤ 19) (u0 : 0 ≤ u) (u1 : u ≤ 19) (v0 : 0 ≤ v) (v1 : v ≤ 19) (hT : TOk p q u v T) :
    ∃ g m h n M N, (single.mul wt wd = some g ∧ single.add a g = some m ∧ single.mul wt we = some h ∧ single.add b h = some n) ∧ Sv eU m M ∧ Sv eU n N ∧ MixOk p q u v M N := by
  obtain ⟨hT0, hT1⟩ := hT.1
  obtain ⟨g, m, M, a1, a2, a3, a4, a5⟩ := coord ha hd ht hT0 hT1 p0 p1 u0 u1
  obtain ⟨h, n, N, b1, b2, b3, b4, b5⟩ := coord hb he ht hT0 hT1 q0 q1 v0 v1
  refine ⟨g, m, h, n, M, N, ⟨a1, a2, b1, b2⟩, a3, b3, mix_of hT a4 b4 ?_ a5 b5⟩
  have hw : (0 : Int) ≤ (wB : Int) := Int.natCast_nonneg _
  have e : p * (wB : Int) + T * (u - p) = p * ((wB : Int) - T) + u * T := by grind
  rw [e]
  have h1 : 0 ≤ p * ((wB : Int) - T) := Int.mul_nonneg p0 (by omega)
  have h2 : 0 ≤ u * T := Int.mul_nonneg u0 hT0
  have h3 : p * ((wB : Int) - T) ≤ 19 * ((wB : Int) - T) := Int.mul_le_mul_of_nonneg_right p1 (by omega)
  have h4 : u * T ≤ 19 * T := Int.mul_le_mul_of_nonneg_right u1 hT0
  omega
theorem sv_zero (E : Nat) : Sv E 0 0 := ⟨false, 0, -149, 0, by decide, by omega, rfl, by rw [Nat.zero_mul, Nat.zero_mul]⟩
theorem sv_one : Sv eU 1065353216 (wB : Int) := by
  have h := sv_low (sv_int 1 (by decide))
  rw [show floatOfInt .f32 1 = 1065353216 from by decide, Int.one_mul] at h
  exact h
theorem sv_two : Sv eW 1073741824 2 := by
  have h := sv_int 2 (by decide)
  rw [show floatOfInt .f32 2 = 1073741824 from by decide] at h
  exact h
theorem sv_mone : Sv eV 3212836864 (-(2 ^ 80 : Nat)) := by
  have h := sv_int (-1) (by decide)
  rw [show floatOfInt .f32 (-1) = 3212836864 from by decide] at h
  have h2 : Sv (eV + 80) 3212836864 (-1) := h
  have := h2.unit
  rw [Int.neg_mul, Int.one_mul] at this
  exact this
/-- A test of two singles. -/
theorem lt_test {E a b : Nat} {x y : Int} (ha : Sv E a x) (hb : Sv E b y) : (FloatKind.f32.format.order a b == some .lt) = decide (x < y) := by
  have h : FloatKind.f32.format.order a b = some (compare x y) := sv_order ha hb
  rw [h]
  show (some (compareOfLessAndEq x y) == some Ordering.lt) = _
  unfold compareOfLessAndEq
  by_cases h1 : x < y
  · rw [if_pos h1, decide_eq_true h1]; rfl
  · rw [if_neg h1, decide_eq_false h1]
    split <;> rfl
theorem gt_test {E a b : Nat} {x y : Int} (ha : Sv E a x) (hb : Sv E b y) : (FloatKind.f32.format.order a b == some .gt) = decide (y < x) := by
  have h : FloatKind.f32.format.order a b = some (compare x y) := sv_order ha hb
  rw [h]
  show (some (compareOfLessAndEq x y) == some Ordering.gt) = _
  unfold compareOfLessAndEq
  by_cases h1 : x < y
  · rw [if_pos h1, decide_eq_false (by omega)]; rfl
  · rw [if_neg h1]
    by_cases h2 : x = y
    · rw [if_pos h2, decide_eq_false (by omega)]; rfl
    · rw [if_neg h2, decide_eq_true (by omega)]; rfl
end Go.Proofs.Ytkapjlkeohjjbaa
namespace Go.Proofs.Ytkapjlkeohjjbaa
set_option linter.unusedVariables false
set_option linter.unusedSimpArgs false
open Go.RowKit

theorem abs19 {x y : Int} (hx : x.natAbs ≤ 19) (hy : y.natAbs ≤ 19) : (x * y).natAbs ≤ 361 := by
  rw [Int.natAbs_mul]
  have := Nat.mul_le_mul hx hy
  omega
set_option maxRecDepth 10000 in
set_option maxHeartbeats 4000000 in
theorem mixture_any (a b c d : Nat) (p q u v : Int) (ha : Sv eW a p) (hb : Sv eW b q) (hc : Sv eW c u) (hd : Sv eW d v) (p0 : 0 ≤ p) (p1 : p ≤ 19) (q0 : 0 ≤ q) (q1 : q ≤ 19) (u0 : 0 ≤ u) (u1 : u ≤ 19) (v0 : 0 ≤ v) (v1 : v ≤ 19) :
    ∃ m n M N, (∀ w : World, Calls Try.prog 38 #[.float .f32 a, .float .f32 b, .float .f32 c, .float .f32 d] w fun e w' => e = .returned (.tuple #[.float .f32 m, .float .f32 n]) ∧ w = w') ∧ Sv eU m M ∧ Sv eU n N ∧ MixOk p q u v M N := by
  have aK := abs19 (x := u - p) (y := v - q) (by omega) (by omega)
  have a1 := abs19 (x := u - p) (y := q) (by omega) (by omega)
  have a2 := abs19 (x := v - q) (y := p) (by omega) (by omega)
  have a3 := abs19 (x := u) (y := v) (by omega) (by omega)
  have a4 := abs19 (x := p) (y := q) (by omega) (by omega)
  obtain ⟨wd, hwd, sd⟩ := sub_int hc ha (by omega)
  obtain ⟨we, hwe, se⟩ := sub_int hd hb (by omega)
  obtain ⟨wa, hwa, sa⟩ := mul_int sd se (by omega)
  obtain ⟨x1, hx1, s1⟩ := mul_int sd hb (by omega)
  obtain ⟨x2, hx2, s2⟩ := mul_int se ha (by omega)
  obtain ⟨wb, hwb, sb⟩ := add_int s1 s2 (by omega)
  obtain ⟨g1, hg1, sg1⟩ := mul_int hc hd (by omega)
  obtain ⟨g2, hg2, sg2⟩ := mul_int ha hb (by omega)
  have t1 := gt_test sg1 sg2
  have t2 := lt_test sa (sv_zero eW)
  have euv := uv_eq p q u v
  have r1 : ∀ z : World, (binOp BinOp.sub 30 (.float .f32 c) (.float .f32 a)).run Try.prog z = .ok (.float .f32 wd) z := fun z => run_float_arith z _ _ _ _ _ _ hwd
  have r2 : ∀ z : World, (binOp BinOp.sub 30 (.float .f32 d) (.float .f32 b)).run Try.prog z = .ok (.float .f32 we) z := fun z => run_float_arith z _ _ _ _ _ _ hwe
  have r3 : ∀ z : World, (binOp BinOp.mul 30 (.float .f32 wd) (.float .f32 we)).run Try.prog z = .ok (.float .f32 wa) z := fun z => run_float_arith z _ _ _ _ _ _ hwa
  have r4 : ∀ z : World, (binOp BinOp.mul 30 (.float .f32 wd) (.float .f32 b)).run Try.prog z = .ok (.float .f32 x1) z := fun z => run_float_arith z _ _ _ _ _ _ hx1
  have r5 : ∀ z : World, (binOp BinOp.mul 30 (.float .f32 we) (.float .f32 a)).run Try.prog z = .ok (.float .f32 x2) z := fun z => run_float_arith z _ _ _ _ _ _ hx2
  have r6 : ∀ z : World, (binOp BinOp.add 30 (.float .f32 x1) (.float .f32 x2)).run Try.prog z = .ok (.float .f32 wb) z := fun z => run_float_arith z _ _ _ _ _ _ hwb
  have r7 : ∀ z : World, (binOp BinOp.mul 30 (.float .f32 c) (.float .f32 d)).run Try.prog z = .ok (.float .f32 g1) z := fun z => run_float_arith z _ _ _ _ _ _ hg1
  have r8 : ∀ z : World, (binOp BinOp.mul 30 (.float .f32 a) (.float .f32 b)).run Try.prog z = .ok (.float .f32 g2) z := fun z => run_float_arith z _ _ _ _ _ _ hg2
  have fin : ∀ wt T, Sv eU wt T → TOk p q u v T → ∃ g m h n M N, ((∀ z : World, (binOp BinOp.mul 30 (.float .f32 wt) (.float .f32 wd)).run Try.prog z = .ok (.float .f32 g) z) ∧ (∀ z : World, (binOp BinOp.add 30 (.float .f32 a) (.float .f32 g)).run Try.prog z = .ok (.float .f32 m) z) ∧ (∀ z : World, (binOp BinOp.mul 30 (.float .f32 wt) (.float .f32 we)).run Try.prog z = .ok (.float .f32 h) z) ∧ (∀ z : World, (binOp BinOp.add 30 (.float .f32 b) (.float .f32 h)).run Try.prog z = .ok (.float .f32 n) z)) ∧ Sv eU m M ∧ Sv eU n N ∧ MixOk p q u v M N := fun wt T ht hT => by
    obtain ⟨g, m, h, n, M, N, ⟨f1, f2, f3, f4⟩, f5⟩ := mix_end ha hb sd se ht p0 p1 q0 q1 u0 u1 v0 v1 hT
    exact ⟨g, m, h, n, M, N, ⟨fun z => run_float_arith z _ _ _ _ _ _ f1, fun z => run_float_arith z _ _ _ _ _ _ f2, fun z => run_float_arith z _ _ _ _ _ _ f3, fun z => run_float_arith z _ _ _ _ _ _ f4⟩, f5⟩
  by_cases hK : (u - p) * (v - q) < 0
  case neg =>
    rw [decide_eq_false hK] at t2
    by_cases hu : p * q < u * v
    · rw [decide_eq_true hu] at t1
      obtain ⟨g, m, h, n, M, N, ⟨f1, f2, f3, f4⟩, f5, f6, f7⟩ := fin _ _ sv_one (tok_high (.inl ⟨by omega, by omega⟩))
      refine ⟨m, n, M, N, fun w => ?_, f5, f6, f7⟩
      clear fin hwd sd hwe se hwa sa hx1 s1 hx2 s2 hwb sb hg1 sg1 hg2 sg2 euv aK a1 a2 a3 a4 ha hb hc hd hK hu f5 f6 f7
      go_enter Try.func38, Try.ntmps38
      go_wp2_with fail
      go_ret2
      exact ⟨rfl, rfl⟩
    · rw [decide_eq_false hu] at t1
      obtain ⟨g, m, h, n, M, N, ⟨f1, f2, f3, f4⟩, f5, f6, f7⟩ := fin _ _ (sv_zero eU) (tok_low (.inl ⟨by omega, by omega⟩))
      refine ⟨m, n, M, N, fun w => ?_, f5, f6, f7⟩
      clear fin hwd sd hwe se hwa sa hx1 s1 hx2 s2 hwb sb hg1 sg1 hg2 sg2 euv aK a1 a2 a3 a4 ha hb hc hd hK hu f5 f6 f7
      go_enter Try.func38, Try.ntmps38
      go_wp2_with fail
      go_ret2
      exact ⟨rfl, rfl⟩
  case pos =>
    rw [decide_eq_true hK] at t2
    obtain ⟨y2, hy2, sy2⟩ := mul_int sv_two sa (by omega)
    obtain ⟨wc, T, hwc, sc, hT⟩ := sv_div (sv_neg sb) sy2 (by omega) (by omega) (by omega)
    have t3 := gt_test sc (sv_zero eU)
    have t4 := lt_test sc sv_one
    have e2 : T * (2 * ((u - p) * (v - q))) - -((u - p) * q + (v - q) * p) * (wB : Int) = T * (2 * ((u - p) * (v - q))) - -((u - p) * q + (v - q) * p) * (wB : Int) := rfl
    have r9 : ∀ z : World, (binOp BinOp.mul 30 (.float .f32 1073741824) (.float .f32 wa)).run Try.prog z = .ok (.float .f32 y2) z := fun z => run_float_arith z _ _ _ _ _ _ hy2
    have r10 : ∀ z : World, (binOp BinOp.quo 30 (.float .f32 (wb ^^^ 2147483648)) (.float .f32 y2)).run Try.prog z = .ok (.float .f32 wc) z := fun z => run_float_arith z _ _ _ _ _ _ hwc
    have rn : Op.unary UnOp.neg (.float .f32 wb) = pure (.float .f32 (wb ^^^ 2147483648)) := rfl
    obtain ⟨i1, i2⟩ := div_sign hK hT
    by_cases hT0 : 0 < T
    case neg =>
      rw [decide_eq_false hT0] at t3
      have hB := i2 (by omega)
      rw [decide_eq_false (by omega)] at t1
      obtain ⟨g, m, h, n, M, N, ⟨f1, f2, f3, f4⟩, f5, f6, f7⟩ := fin _ _ (sv_zero eU) (tok_low (.inr ⟨hK, hB⟩))
      refine ⟨m, n, M, N, fun w => ?_, f5, f6, f7⟩
      clear fin hwd sd hwe se hwa sa hx1 s1 hx2 s2 hwb sb hg1 sg1 hg2 sg2 euv aK a1 a2 a3 a4 ha hb hc hd hK f5 f6 f7 hy2 sy2 hwc sc hT t4 i1 i2 hT0 hB e2
      go_enter Try.func38, Try.ntmps38
      go_wp2_with fail
      go_ret2
      exact ⟨rfl, rfl⟩
    case pos =>
      rw [decide_eq_true hT0] at t3
      have hB := i1 hT0
      by_cases hT1 : T < (wB : Int)
      · rw [decide_eq_true hT1] at t4
        obtain ⟨g, m, h, n, M, N, ⟨f1, f2, f3, f4⟩, f5, f6, f7⟩ := fin _ _ sc (tok_mid hK (by omega) hT0 hT1 hT)
        refine ⟨m, n, M, N, fun w => ?_, f5, f6, f7⟩
        cases hu : decide (p * q < u * v) with
        | true =>
          rw [hu] at t1
          clear fin hwd sd hwe se hwa sa hx1 s1 hx2 s2 hwb sb hg1 sg1 hg2 sg2 euv aK a1 a2 a3 a4 ha hb hc hd hK f5 f6 f7 hy2 sy2 hwc sc hT i1 i2 hT0 hT1 hB hu e2
          go_enter Try.func38, Try.ntmps38
          go_wp2_with fail
          go_ret2
          exact ⟨rfl, rfl⟩
        | false =>
          rw [hu] at t1
          clear fin hwd sd hwe se hwa sa hx1 s1 hx2 s2 hwb sb hg1 sg1 hg2 sg2 euv aK a1 a2 a3 a4 ha hb hc hd hK f5 f6 f7 hy2 sy2 hwc sc hT i1 i2 hT0 hT1 hB hu e2
          go_enter Try.func38, Try.ntmps38
          go_wp2_with fail
          go_ret2
          exact ⟨rfl, rfl⟩
      · rw [decide_eq_false hT1] at t4
        have hB2 := div_one hK hB (by omega) (by omega) hT
        rw [decide_eq_true (by omega)] at t1
        obtain ⟨g, m, h, n, M, N, ⟨f1, f2, f3, f4⟩, f5, f6, f7⟩ := fin _ _ sv_one (tok_high (.inr ⟨hK, hB2⟩))
        refine ⟨m, n, M, N, fun w => ?_, f5, f6, f7⟩
        clear fin hwd sd hwe se hwa sa hx1 s1 hx2 s2 hwb sb hg1 sg1 hg2 sg2 euv aK a1 a2 a3 a4 ha hb hc hd hK f5 f6 f7 hy2 sy2 hwc sc hT i1 i2 hT0 hT1 hB hB2 e2
        go_enter Try.func38, Try.ntmps38
        go_wp2_with fail
        go_ret2
        exact ⟨rfl, rfl⟩
end Go.Proofs.Ytkapjlkeohjjbaa
