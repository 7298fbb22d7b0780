/-
  Part 2 of what the proof stands on: lemmas and contracts, each with its conditions ahead of the colon.
-/
import Derived.StillTailTactics
import Derived.Deep.RegionLaw
import Derived.Deep.RegionHeld3
import Derived.Deep.DeepMust
import Derived.Outline
import Derived.Laws.EntriesVeiled
import Derived.Test.YtkapjlkeohjjbaaRows
import Derived.Test.YtkapjlkeohjjbaaPk01
namespace Go.Proofs.Ytkapjlkeohjjbaa
set_option linter.unusedVariables false
set_option linter.unusedSimpArgs false
open Go.RowKit

def sumN (f : Nat → Int) : Nat → Int
  | 0 => 0
  | k + 1 => sumN f k + f k
theorem sumN_congr {f g : Nat → Int} : ∀ {n : Nat}, (∀ i, i < n → f i = g i) → sumN f n = sumN g n
  | 0, _ => rfl
  | n + 1, h => by rw [sumN, sumN, sumN_congr (n := n) (fun i hi => h i (by omega)), h n (by omega)]
theorem sumN_le {f g : Nat → Int} : ∀ {n : Nat}, (∀ i, i < n → f i ≤ g i) → sumN f n ≤ sumN g n
  | 0, _ => Int.le_refl _
  | n + 1, h => by have := sumN_le (n := n) (fun i hi => h i (by omega)); have := h n (by omega); simp only [sumN]; omega
theorem sumN_eq {f g : Nat → Int} : ∀ {n : Nat}, (∀ i, i < n → f i ≤ g i) → sumN f n = sumN g n → ∀ i, i < n → f i = g i
  | 0, _, _, i, hi => by omega
  | n + 1, h, e, i, hi => by
    have h1 := sumN_le (n := n) (fun i hi => h i (by omega))
    have h2 := h n (by omega)
    simp only [sumN] at e
    by_cases hin : i = n
    · subst hin; omega
    · exact sumN_eq (n := n) (fun i hi => h i (by omega)) (by omega) i (by omega)
theorem sumN_upd {f g : Nat → Int} {d : Int} {q : Nat} : ∀ {n : Nat}, q < n → (∀ i, i < n → i ≠ q → g i = f i) → g q = f q + d → sumN g n = sumN f n + d
  | 0, h, _, _ => by omega
  | n + 1, h, h1, h2 => by
    simp only [sumN]
    by_cases e : q = n
    · subst e
      rw [sumN_congr (f := g) (g := f) (fun i hi => h1 i (by omega) (by omega)), h2]; omega
    · rw [sumN_upd (n := n) (by omega) (fun i hi => h1 i (by omega)) h2, h1 n (by omega) (by omega)]; omega
theorem sumN_add (f g : Nat → Int) : ∀ n, sumN (fun i => f i + g i) n = sumN f n + sumN g n
  | 0 => rfl
  | n + 1 => by simp only [sumN]; rw [sumN_add f g n]; omega
theorem sumN_mul (c : Int) (f : Nat → Int) : ∀ n, sumN (fun i => c * f i) n = c * sumN f n
  | 0 => by simp [sumN]
  | n + 1 => by simp only [sumN]; rw [sumN_mul c f n, Int.mul_add]
theorem sumN_list (xs : List Int) : sumN (fun i => xs.getD i 0) xs.length = xs.sum := by
  have : ∀ k, k ≤ xs.length → sumN (fun i => xs.getD i 0) k = (xs.take k).sum := by
    intro k
    induction k with
    | zero => intro _; simp [sumN]
    | succ k ih =>
      intro hk
      rw [sumN, ih (by omega), take_succ_getD xs k (by omega), List.sum_append]
      simp
  rw [this _ (Nat.le_refl _), List.take_length]

/-- What one level gives. -/
def Level (cs : List Int) (est : Int) (out : List Int) : Prop := out.length = cs.length ∧ sumN (fun i => out.getD i 0) cs.length = est ∧ ∃ lam : Int, ∀ i, i < cs.length → out.getD i 0 = min (cs.getD i 0) lam
theorem level_unique {cs : List Int} {est : Int} {o1 o2 : List Int} (h1 : Level cs est o1) (h2 : Level cs est o2) : o1 = o2 := by
  obtain ⟨l1, s1, m1, e1⟩ := h1
  obtain ⟨l2, s2, m2, e2⟩ := h2
  have key : ∀ i, i < cs.length → o1.getD i 0 = o2.getD i 0 := by
    by_cases hm : m1 ≤ m2
    · exact sumN_eq (f := fun i => o1.getD i 0) (g := fun i => o2.getD i 0) (n := cs.length) (fun i hi => by show o1.getD i 0 ≤ o2.getD i 0; rw [e1 i hi, e2 i hi]; omega) (by rw [s1, s2])
    · intro i hi
      exact (sumN_eq (f := fun i => o2.getD i 0) (g := fun i => o1.getD i 0) (n := cs.length) (fun i hi => by show o2.getD i 0 ≤ o1.getD i 0; rw [e1 i hi, e2 i hi]; omega) (by rw [s1, s2]) i hi).symm
  apply List.ext_getElem (by omega)
  intro i h1 h2
  have := key i (by omega)
  simpa [List.getD, List.getElem?_eq_getElem h1, List.getElem?_eq_getElem h2] using this

/-! The road over the ones in order. -/
def gainS (cs os : List Int) (est : Int) : Nat → List Int × Int
  | 0 => (List.replicate cs.length 0, est)
  | k + 1 => ((gainS cs os est k).1.set (os.getD k 0).toNat (min (cs.getD (os.getD k 0).toNat 0) ((gainS cs os est k).2 / ((os.length : Int) - k))), (gainS cs os est k).2 - min (cs.getD (os.getD k 0).toNat 0) ((gainS cs os est k).2 / ((os.length : Int) - k)))
def ascLt (cs : List Int) (i k : Int) : Bool := decide (cs.getD i.toNat 0 < cs.getD k.toNat 0)
def ascF (cs : List Int) : List Int := stab (ascLt cs) (upto cs.length)
def gainF (cs : List Int) (est : Int) : List Int := (gainS cs (ascF cs) est cs.length).1
theorem gainS_len (cs os : List Int) (est : Int) : ∀ k, (gainS cs os est k).1.length = cs.length
  | 0 => by simp [gainS]
  | k + 1 => by simp [gainS, gainS_len cs os est k]
theorem foldl_asc (cs : List Int) : ∀ (xs p : List Int), p.Pairwise (fun a b => cs.getD b.toNat 0 ≤ cs.getD a.toNat 0) → (xs.foldl (fun p x => insRv (ascLt cs) x p) p).Pairwise (fun a b => cs.getD b.toNat 0 ≤ cs.getD a.toNat 0)
  | [], _, hp => hp
  | x :: xs, p, hp => foldl_asc cs xs _ (insRv_pairwise (ascLt cs) (fun a b => cs.getD a.toNat 0 ≤ cs.getD b.toNat 0) (fun _ _ _ h1 h2 => Int.le_trans h1 h2) x p hp (fun y _ =>
      ⟨fun h => by have := of_decide_eq_true h; omega, fun h => by have := of_decide_eq_false h; omega⟩))
theorem ascF_pairwise (cs : List Int) : (ascF cs).Pairwise (fun a b => cs.getD a.toNat 0 ≤ cs.getD b.toNat 0) := by
  unfold ascF stab
  rw [List.pairwise_reverse]
  exact foldl_asc cs _ [] (by simp)
theorem ascF_perm (cs : List Int) : (ascF cs).Perm (upto cs.length) := stab_perm _ _
theorem ascF_length (cs : List Int) : (ascF cs).length = cs.length := by rw [ascF, stab_length, upto_length]
theorem ascF_mem {cs : List Int} {x : Int} : x ∈ ascF cs ↔ 0 ≤ x ∧ x < cs.length := by rw [(ascF_perm cs).mem_iff, mem_upto]
theorem upto_nodup (n : Nat) : (upto n).Nodup := by
  rw [List.nodup_iff_pairwise_ne]
  exact (upto_sorted n).imp fun h e => by omega
theorem ascF_nodup (cs : List Int) : (ascF cs).Nodup := (ascF_perm cs).nodup_iff.2 (upto_nodup _)
theorem ascF_get {cs : List Int} {t : Nat} (h : t < cs.length) : ∃ q : Nat, (ascF cs)[t]? = some (q : Int) ∧ q < cs.length := by
  have hl : t < (ascF cs).length := by rw [ascF_length]; exact h
  have := ascF_mem.1 (List.getElem_mem hl)
  exact ⟨(ascF cs)[t].toNat, by rw [List.getElem?_eq_getElem hl]; congr 1; omega, by omega⟩
theorem nodup_get {xs : List Int} (h : xs.Nodup) {i j : Nat} {x : Int} (hi : xs[i]? = some x) (hj : xs[j]? = some x) : i = j := by
  obtain ⟨h1, e1⟩ := List.getElem?_eq_some_iff.1 hi
  obtain ⟨h2, e2⟩ := List.getElem?_eq_some_iff.1 hj
  have hp := List.pairwise_iff_getElem.1 (List.nodup_iff_pairwise_ne.1 h)
  refine Classical.byContradiction fun hne => ?_
  by_cases hlt : i < j
  · exact hp i j h1 h2 hlt (e1.trans e2.symm)
  · exact hp j i h2 h1 (by omega) (e2.trans e1.symm)
theorem div_exact {E : Int} {m : Nat} (hm : 1 ≤ m) (hm8 : m ≤ 8) (hE : E % 840 = 0) : E = (m : Int) * (E / m) := by
  have : m = 1 ∨ m = 2 ∨ m = 3 ∨ m = 4 ∨ m = 5 ∨ m = 6 ∨ m = 7 ∨ m = 8 := by omega
  rcases this with rfl | rfl | rfl | rfl | rfl | rfl | rfl | rfl <;> omega
theorem getD_set_self {xs : List Int} {q : Nat} (h : q < xs.length) (v : Int) : (xs.set q v).getD q 0 = v := by simp [List.getD, h]
theorem getD_set_ne {xs : List Int} {q i : Nat} (h : i ≠ q) (v : Int) : (xs.set q v).getD i 0 = xs.getD i 0 := by
  simp only [List.getD_eq_getElem?_getD]
  rw [List.getElem?_set_ne (by omega)]

structure GainInv (cs : List Int) (est : Int) (t : Nat) (out : List Int) (E : Int) : Prop where
  sum : sumN (fun i => out.getD i 0) cs.length + E = est
  pos : 0 ≤ E
  later : ∀ j (q : Nat), t ≤ j → (ascF cs)[j]? = some (q : Int) → out.getD q 0 = 0
  two : (E % 840 = 0 ∧ ∀ j (q : Nat), j < t → (ascF cs)[j]? = some (q : Int) → out.getD q 0 = cs.getD q 0 ∧ ((cs.length : Int) - t) * cs.getD q 0 ≤ E) ∨
    (∃ lam : Int, 0 ≤ lam ∧ E = ((cs.length : Int) - t) * lam ∧ (∀ j (q : Nat), j < t → (ascF cs)[j]? = some (q : Int) → out.getD q 0 = min (cs.getD q 0) lam) ∧ ∀ j (q : Nat), t ≤ j → (ascF cs)[j]? = some (q : Int) → lam ≤ cs.getD q 0)
theorem asc_le {cs : List Int} {i j p q : Nat} (hij : i < j) (hi : (ascF cs)[i]? = some (p : Int)) (hj : (ascF cs)[j]? = some (q : Int)) : cs.getD p 0 ≤ cs.getD q 0 := by
  obtain ⟨h1, e1⟩ := List.getElem?_eq_some_iff.1 hi
  obtain ⟨h2, e2⟩ := List.getElem?_eq_some_iff.1 hj
  have := List.pairwise_iff_getElem.1 (ascF_pairwise cs) i j h1 h2 hij
  rw [e1, e2] at this
  simpa using this
theorem gain_inv {cs : List Int} {est : Int} (hn : cs.length ≤ 8) (hc : ∀ x ∈ cs, 0 ≤ x ∧ x % 840 = 0) (h0 : 0 ≤ est) (hd : est % 840 = 0) :
    ∀ t, t ≤ cs.length → GainInv cs est t (gainS cs (ascF cs) est t).1 (gainS cs (ascF cs) est t).2
  | 0, _ => by
    refine ⟨?_, h0, ?_, .inl ⟨hd, fun j q hj => by omega⟩⟩
    · rw [sumN_congr (g := fun _ => 0) (fun i hi => by simp [gainS, List.getD, hi])]
      have : ∀ n, sumN (fun _ => (0 : Int)) n = 0 := fun n => by induction n with | zero => rfl | succ n ih => rw [sumN, ih]; rfl
      rw [this]; simp [gainS]
    · intro j q _ hq
      have := ascF_mem.1 (List.mem_of_getElem? hq)
      simp [gainS, List.getD, show q < cs.length by omega]
  | t + 1, ht => by
    have ih := gain_inv hn hc h0 hd t (by omega)
    obtain ⟨q, hq, hqn⟩ := ascF_get (cs := cs) (t := t) (by omega)
    have hl := gainS_len cs (ascF cs) est t
    have hcq : 0 ≤ cs.getD q 0 ∧ cs.getD q 0 % 840 = 0 := hc _ (List.mem_of_getElem? (get_of_lt hqn))
    have e1 : (gainS cs (ascF cs) est (t + 1)).1 = (gainS cs (ascF cs) est t).1.set q (min (cs.getD q 0) ((gainS cs (ascF cs) est t).2 / ((cs.length : Int) - t))) := by
      show (gainS cs (ascF cs) est t).1.set ((ascF cs).getD t 0).toNat _ = _
      rw [getD_of_get hq, Int.toNat_natCast, ascF_length]
    have e2 : (gainS cs (ascF cs) est (t + 1)).2 = (gainS cs (ascF cs) est t).2 - min (cs.getD q 0) ((gainS cs (ascF cs) est t).2 / ((cs.length : Int) - t)) := by
      show (gainS cs (ascF cs) est t).2 - min (cs.getD ((ascF cs).getD t 0).toNat 0) _ = _
      rw [getD_of_get hq, Int.toNat_natCast, ascF_length]
    rw [e1, e2]
    generalize (gainS cs (ascF cs) est t).1 = out at *
    generalize (gainS cs (ascF cs) est t).2 = E at *
    obtain ⟨i1, i3, i4, i5⟩ := ih
    obtain ⟨m, hm⟩ : ∃ m : Nat, (cs.length : Int) - t = m := ⟨cs.length - t, by omega⟩
    have hm1 : 1 ≤ m := by omega
    have hm2 : (cs.length : Int) - ((t + 1 : Nat) : Int) = m - 1 := by omega
    rw [hm]
    rw [hm] at i5
    have hex : E = (m : Int) * (E / m) := by
      rcases i5 with ⟨i2, _⟩ | ⟨lam, l0, lE, _⟩
      · exact div_exact hm1 (by omega) i2
      · rw [lE, Int.mul_ediv_cancel_left _ (by omega)]
    generalize hL : E / (m : Int) = L at *
    have hL0 : 0 ≤ L := by rw [← hL]; exact Int.ediv_nonneg i3 (by omega)
    have hq0 := i4 t q (Nat.le_refl _) hq
    have hne : ∀ j (r : Nat), j ≠ t → (ascF cs)[j]? = some (r : Int) → r ≠ q := fun j r hj hr e => hj (by subst e; exact nodup_get (ascF_nodup cs) hr hq)
    have hmL : (m : Int) * L = (m - 1) * L + L := by rw [Int.sub_mul]; simp
    have hm1L : 0 ≤ ((m : Int) - 1) * L := Int.mul_nonneg (by omega) hL0
    have hself : ∀ v, (out.set q v).getD q 0 = v := fun v => getD_set_self (by omega) v
    refine ⟨?_, by omega, ?_, ?_⟩
    · have := sumN_upd (f := fun i => out.getD i 0) (g := fun i => (out.set q (min (cs.getD q 0) L)).getD i 0) (d := min (cs.getD q 0) L) (q := q) (n := cs.length) hqn (fun i _ hi => getD_set_ne hi _) (by
        show (out.set q _).getD q 0 = out.getD q 0 + _
        rw [hself, hq0]; omega)
      rw [this]; omega
    · intro j r hj hr
      rw [getD_set_ne (hne j r (by omega) hr)]
      exact i4 j r (by omega) hr
    · rw [hm2]
      rcases i5 with ⟨i2, i5⟩ | ⟨lam, l0, lE, lb, la⟩
      · by_cases hcL : cs.getD q 0 ≤ L
        · refine .inl ⟨by rw [Int.min_eq_left hcL]; omega, fun j r hj hr => ?_⟩
          rw [Int.min_eq_left hcL]
          have hcm : ((m : Int) - 1) * cs.getD q 0 + cs.getD q 0 ≤ E := by
            have h1 : (m : Int) * cs.getD q 0 ≤ m * L := Int.mul_le_mul_of_nonneg_left hcL (by omega)
            have h2 : ((m : Int) - 1) * cs.getD q 0 = m * cs.getD q 0 - cs.getD q 0 := by rw [Int.sub_mul]; simp
            omega
          by_cases hjt : j = t
          · subst hjt
            have : r = q := by rw [hq] at hr; injection hr with hr; omega
            subst this
            exact ⟨hself _, by omega⟩
          · rw [getD_set_ne (hne j r hjt hr)]
            refine ⟨(i5 j r (by omega) hr).1, ?_⟩
            have h1 := asc_le (show j < t by omega) hr hq
            have h2 : ((m : Int) - 1) * cs.getD r 0 ≤ (m - 1) * cs.getD q 0 := Int.mul_le_mul_of_nonneg_left h1 (by omega)
            omega
        · refine .inr ⟨L, hL0, by rw [Int.min_eq_right (by omega)]; omega, fun j r hj hr => ?_, fun j r hj hr => ?_⟩
          · by_cases hjt : j = t
            · subst hjt
              have : r = q := by rw [hq] at hr; injection hr with hr; omega
              subst this
              exact hself _
            · rw [getD_set_ne (hne j r hjt hr)]
              obtain ⟨h1, h2⟩ := i5 j r (by omega) hr
              rw [h1]
              have : cs.getD r 0 ≤ L := Int.le_of_mul_le_mul_left (by omega : (m : Int) * cs.getD r 0 ≤ m * L) (by omega)
              omega
          · have := asc_le (show t < j by omega) hq hr
            omega
      · have hLl : L = lam := by rw [← hL, lE, Int.mul_ediv_cancel_left _ (by omega)]
        subst hLl
        have hcq2 := la t q (Nat.le_refl _) hq
        refine .inr ⟨L, l0, by rw [Int.min_eq_right hcq2]; omega, fun j r hj hr => ?_, fun j r hj hr => la j r (by omega) hr⟩
        by_cases hjt : j = t
        · subst hjt
          have : r = q := by rw [hq] at hr; injection hr with hr; omega
          subst this
          exact hself _
        · rw [getD_set_ne (hne j r hjt hr)]
          exact lb j r (by omega) hr
theorem sum_nonneg : ∀ zs : List Int, (∀ x ∈ zs, 0 ≤ x) → 0 ≤ zs.sum
  | [], _ => by simp
  | b :: zs, h => by have := h b (by simp); have := sum_nonneg zs (fun x hx => h x (by simp [hx])); simp only [List.sum_cons]; omega
theorem mem_le_sum : ∀ (ys : List Int), (∀ x ∈ ys, 0 ≤ x) → ∀ y ∈ ys, y ≤ ys.sum
  | [], _, y, hy => by simp at hy
  | a :: ys, h, y, hy => by
    have h0 := sum_nonneg ys (fun x hx => h x (by simp [hx]))
    have ha := h a (by simp)
    simp only [List.sum_cons]
    rcases List.mem_cons.1 hy with rfl | hy
    · omega
    · have := mem_le_sum ys (fun x hx => h x (by simp [hx])) y hy; omega
theorem gain_level {cs : List Int} {est : Int} (hn : cs.length ≤ 8) (hc : ∀ x ∈ cs, 0 ≤ x ∧ x % 840 = 0) (h0 : 0 ≤ est) (h1 : est ≤ cs.sum) (hd : est % 840 = 0) : Level cs est (gainF cs est) := by
  obtain ⟨i1, i3, i4, i5⟩ := gain_inv hn hc h0 hd cs.length (Nat.le_refl _)
  have hl : (gainF cs est).length = cs.length := gainS_len cs (ascF cs) est cs.length
  have hat : ∀ i, i < cs.length → ∃ j, j < cs.length ∧ (ascF cs)[j]? = some (i : Int) := by
    intro i hi
    have : (i : Int) ∈ ascF cs := ascF_mem.2 ⟨by omega, by omega⟩
    obtain ⟨j, hj, e⟩ := List.getElem_of_mem this
    exact ⟨j, by rw [ascF_length] at hj; exact hj, by rw [List.getElem?_eq_getElem hj, e]⟩
  show Level cs est (gainS cs (ascF cs) est cs.length).1
  unfold gainF at hl
  generalize (gainS cs (ascF cs) est cs.length).1 = out at *
  generalize (gainS cs (ascF cs) est cs.length).2 = E at *
  rcases i5 with ⟨_, h⟩ | ⟨lam, l0, lE, lb, _⟩
  · have hs : sumN (fun i => out.getD i 0) cs.length = cs.sum := by
      rw [← sumN_list]
      exact sumN_congr fun i hi => by obtain ⟨j, hj, e⟩ := hat i hi; exact (h j i hj e).1
    refine ⟨hl, by omega, cs.sum, fun i hi => ?_⟩
    obtain ⟨j, hj, e⟩ := hat i hi
    rw [(h j i hj e).1]
    have hle : cs.getD i 0 ≤ cs.sum := by
      have hm : cs.getD i 0 ∈ cs := List.mem_of_getElem? (get_of_lt hi)
      exact mem_le_sum cs (fun x hx => (hc x hx).1) _ hm
    omega
  · refine ⟨hl, by rw [Int.sub_self, Int.zero_mul] at lE; omega, lam, fun i hi => ?_⟩
    obtain ⟨j, hj, e⟩ := hat i hi
    exact lb j i hj e
end Go.Proofs.Ytkapjlkeohjjbaa
namespace Go.Proofs.Ytkapjlkeohjjbaa
set_option linter.unusedVariables false
set_option linter.unusedSimpArgs false
open Go.RowKit

theorem gainS_le {cs : List Int} {est : Int} (hn : cs.length ≤ 8) (hc : ∀ x ∈ cs, 0 ≤ x ∧ x % 840 = 0) (h0 : 0 ≤ est) (hd : est % 840 = 0) :
    ∀ t, t ≤ cs.length → 0 ≤ (gainS cs (ascF cs) est t).2 ∧ (gainS cs (ascF cs) est t).2 ≤ est
  | 0, _ => ⟨h0, Int.le_refl _⟩
  | t + 1, ht => by
    have i1 := (gain_inv hn hc h0 hd (t + 1) ht).pos
    obtain ⟨j1, j2⟩ := gainS_le hn hc h0 hd t (by omega)
    have hx' : ∀ j, 0 ≤ cs.getD j 0 := fun j => by
      by_cases hj : j < cs.length
      · exact (hc _ (List.mem_of_getElem? (get_of_lt hj))).1
      · simp [List.getD, List.getElem?_eq_none (by omega : cs.length ≤ j)]
    have hx := hx' ((ascF cs).getD t 0).toNat
    have hq : 0 ≤ (gainS cs (ascF cs) est t).2 / (((ascF cs).length : Int) - t) := Int.ediv_nonneg j1 (by rw [ascF_length]; omega)
    refine ⟨i1, ?_⟩
    simp only [gainS]
    omega
theorem enter_gain (args : Array Value) (w : World) : (callFunc 60 args).run Try.prog w = .ok (.enter 60 args) w := by kernel_rfl
set_option maxHeartbeats 2000000 in
theorem gainK_any (w : World) (b1 n c i k g o : Nat) (xi xk : Int) (hi : i < n) (hk : k < n)
    (h1 : w.cell? ⟨b1, 0, none⟩ = some (.slice (some ⟨g, o, none⟩) n c))
    (hci : w.cell? ⟨g, o + i, none⟩ = some (.int .i64 xi)) (hck : w.cell? ⟨g, o + k, none⟩ = some (.int .i64 xk)) :
    Calls Try.prog 60 #[.int .i64 i, .int .i64 k, .pointer (some ⟨b1, 0, none⟩)] w fun e w' => e = .returned (.int .i64 (cmpF xi xk)) ∧ ∃ q, w' = w.drewN q := by
  have L := Lib.hid (fun v => compare_any xi xk v)
  go_enter Try.func60, Try.ntmps60
  go_wp2_with fail
  go_quiet ((go_at_call 61; exact qs1 (L.out _)))
  go_wp2_with fail
  go_ret
  exact ⟨rfl, _, rfl⟩
set_option maxRecDepth 10000 in
set_option maxHeartbeats 8000000 in
theorem gains_any (w : World) (B : Nat) (a : Option Addr) (c : Nat) (cs : List Int) (est : Int) (h' : Rd w B a (ints cs)) (hB : B ≤ w.heap.size) (hl1 : 1 ≤ cs.length) (hl2 : cs.length ≤ 8)
    (hc0 : ∀ x ∈ cs, 0 ≤ x ∧ x % 840 = 0) (hc1 : ∀ x ∈ cs, x ≤ 1680000) (h0 : 0 ≤ est) (h1 : est ≤ 13440000) (hd : est % 840 = 0) :
    Calls Try.prog 43 #[.slice a cs.length c, .int .i64 est] w fun e w' => ∃ a' c', e = .returned (.slice a' cs.length c') ∧ OwnI 2 w' w.heap.size w'.heap.size a' c' (gainF cs est) ∧ Below w.heap.size w w' := by
  have h := h'.mono hB
  have Hle := Lib.hid (fun t ht => gainS_le hl2 hc0 h0 hd t ht)
  have Hc : Hid (∀ x ∈ cs, 0 ≤ x ∧ x ≤ 1680000) := fun x hx => ⟨(hc0 x hx).1, hc1 x hx⟩
  have Hln := Lib.hid (gainS_len cs (ascF cs) est)
  have HF : Hid (gainF cs est = (gainS cs (ascF cs) est cs.length).1) := rfl
  clear h' hc0 hc1 hB hd
  go_enter Try.func43, Try.ntmps43
  go_wp2_with fail
  refine (counting_any _ cs.length (by omega)).mono ?_
  rintro e w3 ⟨ac, cc, rfl, hown, hb3⟩
  obtain ⟨g, tl, rfl, hg, hbg, hcc, hccm, hcl⟩ := own_open hown (by omega)
  rw [World.size_alloc] at hg
  have y1 := (Blk.new w [Value.slice a cs.length c] 24).same hb3
  have hw3 := below_then (bl1 w _) hb3
  clear hown hb3
  have LS := sortStable_any 60 #[.pointer (some ⟨w.heap.size, 0, none⟩)] (fun x y => cmpF (cs.getD x.toNat 0) (cs.getD y.toNat 0)) enter_gain w3 g cc (upto cs.length) tl hbg (by rw [upto_length]; omega) (fun x y => cmpF_bd _ _) (by
    intro w' x y hgr hx hy
    obtain ⟨x0, x1⟩ := mem_upto.1 hx
    obtain ⟨y0, y1'⟩ := mem_upto.1 hy
    obtain ⟨i, rfl⟩ : ∃ i : Nat, x = i := ⟨x.toNat, by omega⟩
    obtain ⟨k, rfl⟩ : ∃ k : Nat, y = k := ⟨y.toNat, by omega⟩
    rw [Int.toNat_natCast, Int.toNat_natCast]
    have hrd := (h.below hw3 (Nat.le_refl _)).grown hgr (by omega) hw3.size
    obtain ⟨b, o, rfl, hbb, hcell⟩ := hrd.at (k := i) (by omega)
    exact gainK_any w' w.heap.size cs.length c i k b o (cs.getD i 0) (cs.getD k 0) (by omega) (by omega) ((y1.grown hgr (by intro e; injection e; omega)).cell 0) (hcell i (by omega)) (hcell k (by omega)))
  rw [upto_length, show (fun x y : Int => decide (cmpF (cs.getD x.toNat 0) (cs.getD y.toNat 0) < 0)) = ascLt cs from by funext x y; rw [cmpF_neg]; rfl, show stab (ascLt cs) (upto cs.length) = ascF cs from rfl] at LS
  have HLS := Lib.hid LS
  clear LS
  go_wp2_with fail
  refine HLS.out.mono ?_
  rintro e w4 ⟨rfl, hb4, hg4⟩
  have z1 := y1.grown hg4 (by intro e; injection e; omega)
  have hw4 := hw3.grown hg4 hw3.size (fun k hk => by injection hk with hk; omega)
  have d1 := z1.cell 0
  simp only [List.getElem?_cons_zero] at d1
  clear HLS hbg hg4 hw3 y1
  go_wp2_with (at_make; refine wpList_make_blk _ rfl _ _ 24 rfl 2 (.int .i64 0) 8 Try.underlying24 info_i64p rfl _ _ cs.length rfl rfl (by omega) (by unfold maxLen; omega) ?_)
  intro w5 hb5 hw5 hs5
  rw [ints_replicate] at hb5
  have e1 := z1.same hw5
  have e4 := hb4.same hw5
  have hw5' := hw4.trans (hw5.mono hw4.size)
  have hgl := hb4.lt
  have hsz4 := hw4.size
  have zl := z1.lt
  clear z1 hb4 hw4 hw5 d1
  go_wp2_with fail
  go_loopw [20, 1] (fun i ev wr => ∃ t : Nat, t ≤ cs.length ∧ i = .int .i64 t ∧ ev = .int .i64 (gainS cs (ascF cs) est t).2 ∧ Blk wr w4.heap.size (ints (gainS cs (ascF cs) est t).1) 2 ∧ Blk wr g (ints (ascF cs) ++ tl) 2 ∧ Blk wr w.heap.size [Value.slice a cs.length c] 24 ∧ Below w.heap.size w wr) (fun i _ _ => cs.length - (intOf i).toNat)
  case atStart => exact ⟨0, Nat.zero_le _, rfl, rfl, hb5, e4, e1, hw5'⟩
  case round =>
    clear hb5 e4 e1 hw5'
    obtain ⟨t, ht, rfl, rfl, hb, hbo, hbx, hw⟩ := hrel
    have d1 := hbx.cell 0
    simp only [List.getElem?_cons_zero] at d1
    by_cases hlt : t < cs.length
    · obtain ⟨q, hq, hqn⟩ := ascF_get (cs := cs) hlt
      have e0 := cell_app hbo (j := t) (by rw [ascF_length]; exact hlt)
      rw [getD_of_get hq] at e0
      obtain ⟨b1, o1, hax, hbb, hcell⟩ := (h.below hw (Nat.le_refl _)).at (k := q) hqn
      subst hax
      have hcq := hcell q hqn
      have hxq := Hc.out _ (List.mem_of_getElem? (get_of_lt hqn))
      have hS1 : Hid ((gainS cs (ascF cs) est (t + 1)).1 = (gainS cs (ascF cs) est t).1.set q (min (cs.getD q 0) ((gainS cs (ascF cs) est t).2 / ((cs.length : Int) - t)))) := by
        show (gainS cs (ascF cs) est t).1.set ((ascF cs).getD t 0).toNat _ = _
        rw [getD_of_get hq, Int.toNat_natCast, ascF_length]
      have hS2 : Hid ((gainS cs (ascF cs) est (t + 1)).2 = (gainS cs (ascF cs) est t).2 - min (cs.getD q 0) ((gainS cs (ascF cs) est t).2 / ((cs.length : Int) - t))) := by
        show (gainS cs (ascF cs) est t).2 - min (cs.getD ((ascF cs).getD t 0).toNat 0) _ = _
        rw [getD_of_get hq, Int.toNat_natCast, ascF_length]
      obtain ⟨p0, p1⟩ := Hle.out t ht
      have hlk := Hln.out t
      generalize (gainS cs (ascF cs) est t).2 = ev at *
      generalize (gainS cs (ascF cs) est t).1 = ot at *
      generalize cs.getD q 0 = xq at *
      obtain ⟨x0, x1⟩ := hxq
      have hdv0 : 0 ≤ ev / ((cs.length : Int) - t) := Int.ediv_nonneg p0 (by omega)
      have hdv1 : ev / ((cs.length : Int) - t) ≤ ev := Int.ediv_le_self _ p0
      obtain ⟨mn, hmn⟩ : ∃ mn, mn = min xq (ev / ((cs.length : Int) - t)) := ⟨_, rfl⟩
      rw [← hmn] at hS1 hS2
      have hm1 : mn ≤ ev ∧ 0 ≤ mn := by omega
      have Hmn := Lib.hid hmn
      have hfr := hb.free q
      obtain ⟨old, hold⟩ := hb.has (j := q) (by rw [ints_length, hlk]; exact hqn)
      have hset := hb.setI q mn
      rw [← hS1.out] at hset
      have hbel := below_sto hw (g := w4.heap.size) (by omega) q (.int .i64 mn)
      have hcell2 := hset.cell q
      rw [hS1.out] at hcell2
      have e3 : (ints (ot.set q mn))[q]? = some (.int .i64 mn) := by
        rw [ints_set, List.getElem?_set_self (by rw [ints_length, hlk]; exact hqn)]
      rw [e3] at hcell2
      have hbo2 := hbo.oth (g := w4.heap.size) (by omega) q (.int .i64 mn)
      have hbx2 := hbx.oth (g := w4.heap.size) (by omega) q (.int .i64 mn)
      obtain ⟨hm11, hm12⟩ := hm1
      clear hb hbo hbx hw h hq hcell hlk e3 hmn
      by_cases hle : xq ≤ ev / ((cs.length : Int) - t)
      · have : mn = xq := by have := Hmn.out; omega
        subst this
        go_wp2_with fail
        go_region
        go_wp2_with fail
        go_roundw
        case rel => exact ⟨t + 1, by omega, by go_num, by rw [hS2.out] <;> simp, hset, hbo2, hbx2, by first | exact hbel | exact below_drew' hbel⟩
        case measure => simp [intOf]; omega
      · have : mn = ev / ((cs.length : Int) - t) := by have := Hmn.out; omega
        have HV := Lib.hid this
        clear this
        go_wp2_with fail
        go_region
        rw [← HV.out]
        go_wp2_with fail
        go_roundw
        case rel => exact ⟨t + 1, by omega, by go_num, by rw [hS2.out] <;> simp, hset, hbo2, hbx2, by first | exact hbel | exact below_drew' hbel⟩
        case measure => simp [intOf]; omega
    · have : t = cs.length := by omega
      subst this
      rw [← HF.out] at hb
      have hfl : (gainF cs est).length = cs.length := Hln.out _
      have hR : OwnI 2 wr w.heap.size wr.heap.size (some ⟨w4.heap.size, 0, none⟩) cs.length (gainF cs est) := by
        have := (OwnI.of_blk hb (by rw [hfl]; omega)).mono (lo' := w.heap.size) hsz4 (hi' := wr.heap.size) (by have := hb.lt; omega)
        rwa [hfl] at this
      have HR := Lib.hid hR
      clear hR hb hfl
      go_wp2_with fail
      go_ret
      exact ⟨_, _, rfl, HR.out, hw⟩
end Go.Proofs.Ytkapjlkeohjjbaa
namespace Go.Proofs.Ytkapjlkeohjjbaa
set_option linter.unusedVariables false
set_option linter.unusedSimpArgs false
open Go.RowKit

def boolsL (n : Nat) (fs : Nat → Bool) : List Value := (List.range n).map fun (j : Nat) => Value.bool (fs j)
theorem boolsL_length (n : Nat) (fs : Nat → Bool) : (boolsL n fs).length = n := by simp [boolsL]
theorem boolsL_none (n : Nat) : List.replicate n (Value.bool false) = boolsL n (fun _ => false) := by
  apply List.ext_getElem <;> simp [boolsL]
theorem boolsL_get {n : Nat} {fs : Nat → Bool} {j : Nat} (h : j < n) : (boolsL n fs)[j]? = some (.bool (fs j)) := by simp [boolsL, h]
def updB (fs : Nat → Bool) (q : Nat) : Nat → Bool := fun j => if j = q then true else fs j
theorem boolsL_set (n : Nat) (fs : Nat → Bool) (q : Nat) : (boolsL n fs).set q (.bool true) = boolsL n (updB fs q) := by
  apply List.ext_getElem
  · simp [boolsL]
  · intro j h1 h2
    simp only [boolsL, List.getElem_set, List.getElem_map, List.getElem_range, updB]
    by_cases h : q = j
    · subst h; simp
    · rw [if_neg h, if_neg (fun e => h e.symm)]

structure GInv (cs : List Int) (est : Int) (fs : Nat → Bool) (left count : Int) : Prop where
  sum : left + sumN (fun i => if fs i then cs.getD i 0 else 0) cs.length = est
  cnt : count = sumN (fun i => if fs i then 0 else 1) cs.length
  pos : 0 ≤ left
  full : ∀ j, j < cs.length → fs j = true → count * cs.getD j 0 ≤ left
theorem cnt_bd (fs : Nat → Bool) : ∀ n : Nat, 0 ≤ sumN (fun i => if fs i then (0 : Int) else 1) n ∧ sumN (fun i => if fs i then (0 : Int) else 1) n ≤ n
  | 0 => by simp [sumN]
  | n + 1 => by
    have := cnt_bd fs n
    simp only [sumN]
    split <;> omega
theorem cnt_pos (fs : Nat → Bool) : ∀ {n i : Nat}, i < n → fs i = false → 1 ≤ sumN (fun i => if fs i then (0 : Int) else 1) n
  | 0, _, h, _ => by omega
  | n + 1, i, h, hf => by
    have := cnt_bd fs n
    simp only [sumN]
    by_cases e : i = n
    · subst e; rw [hf]; simp; omega
    · have := cnt_pos fs (show i < n by omega) hf
      split <;> omega
theorem cnt_zero (fs : Nat → Bool) {n : Nat} (h : sumN (fun i => if fs i then (0 : Int) else 1) n ≤ 0) : ∀ i, i < n → fs i = true := by
  intro i hi
  cases hf : fs i with
  | true => rfl
  | false => have := cnt_pos fs hi hf; omega
theorem ginv_start {cs : List Int} {est : Int} (h0 : 0 ≤ est) : GInv cs est (fun _ => false) est cs.length := by
  have z : ∀ (c : Int) (n : Nat), sumN (fun _ => c) n = c * n := fun c n => by
    induction n with
    | zero => simp [sumN]
    | succ n ih => rw [sumN, ih]; rw [Int.natCast_add, Int.mul_add]; simp
  refine ⟨?_, ?_, h0, fun j _ h => by cases h⟩
  · show est + sumN (fun _ => if false = true then _ else 0) _ = est
    rw [sumN_congr (g := fun _ => 0) (fun i hi => by simp), z]; simp
  · rw [sumN_congr (g := fun _ => 1) (fun i hi => by simp), z]; simp
theorem ginv_step {cs : List Int} {est : Int} {fs : Nat → Bool} {left count : Int} (h : GInv cs est fs left count) (hc : ∀ j, 0 ≤ cs.getD j 0) {i : Nat} (hi : i < cs.length) (hf : fs i = false) (hle : cs.getD i 0 * count ≤ left) :
    GInv cs est (updB fs i) (left - cs.getD i 0) (count - 1) ∧ 1 ≤ count := by
  obtain ⟨h1, h2, h3, h4⟩ := h
  have hcp := cnt_pos fs hi hf
  have hc1 : 1 ≤ count := by omega
  have hm : cs.getD i 0 ≤ cs.getD i 0 * count := by
    have := Int.mul_le_mul_of_nonneg_left hc1 (hc i)
    omega
  refine ⟨⟨?_, ?_, by omega, fun j hj hfj => ?_⟩, hc1⟩
  · have := sumN_upd (f := fun i => if fs i then cs.getD i 0 else 0) (g := fun j => if updB fs i j then cs.getD j 0 else 0) (d := cs.getD i 0) (q := i) (n := cs.length) hi (fun j _ hj => by simp [updB, hj]) (by simp [updB, hf])
    rw [this]; omega
  · have := sumN_upd (f := fun i => if fs i then (0 : Int) else 1) (g := fun j => if updB fs i j then (0 : Int) else 1) (d := -1) (q := i) (n := cs.length) hi (fun j _ hj => by simp [updB, hj]) (by simp [updB, hf])
    rw [this]; omega
  · have e : (count - 1) * cs.getD j 0 = count * cs.getD j 0 - cs.getD j 0 := by rw [Int.sub_mul]; simp
    have e2 : (count - 1) * cs.getD i 0 = cs.getD i 0 * count - cs.getD i 0 := by rw [Int.sub_mul, Int.mul_comm count]; simp
    by_cases hji : j = i
    · subst hji; omega
    · have hfj' : fs j = true := by simpa [updB, hji] using hfj
      have h5 := h4 j hj hfj'
      by_cases hcmp : cs.getD j 0 ≤ cs.getD i 0
      · have := Int.mul_le_mul_of_nonneg_left hcmp (show 0 ≤ count - 1 by omega)
        omega
      · omega
theorem ginv_bd {cs : List Int} {est : Int} {fs : Nat → Bool} {left count : Int} (h : GInv cs est fs left count) (hc : ∀ j, 0 ≤ cs.getD j 0) : 0 ≤ left ∧ left ≤ est ∧ 0 ≤ count ∧ count ≤ cs.length := by
  have hb := cnt_bd fs cs.length
  have h0 : sumN (fun _ => (0 : Int)) cs.length ≤ sumN (fun i => if fs i then cs.getD i 0 else 0) cs.length := sumN_le fun i _ => by
    split
    · exact hc i
    · exact Int.le_refl _
  have z : ∀ n, sumN (fun _ => (0 : Int)) n = 0 := fun n => by induction n with | zero => rfl | succ n ih => rw [sumN, ih]; rfl
  rw [z] at h0
  have h1 := h.sum
  have h2 := h.cnt
  exact ⟨h.pos, by omega, by omega, by omega⟩
/-- At the end. -/
theorem ginv_level {cs : List Int} {est : Int} {fs : Nat → Bool} {left count : Int} (h : GInv cs est fs left count) (hn : cs.length ≤ 8) (hc : ∀ x ∈ cs, 0 ≤ x ∧ x % 840 = 0) (hd : est % 840 = 0) (h1 : est ≤ cs.sum)
    (hend : count ≤ 0 ∨ ∀ i, i < cs.length → fs i = false → left < cs.getD i 0 * count) {out : List Int} (hl : out.length = cs.length) (ho : ∀ i, i < cs.length → out.getD i 0 = if fs i then cs.getD i 0 else left / count) : Level cs est out := by
  obtain ⟨g1, g2, g3, g4⟩ := h
  have hb := cnt_bd fs cs.length
  have hdv : sumN (fun i => if fs i then cs.getD i 0 else 0) cs.length % 840 = 0 := by
    have : ∀ n, sumN (fun i => if fs i then cs.getD i 0 else 0) n % 840 = 0 := by
      intro n
      induction n with
      | zero => rfl
      | succ n ih =>
        have hx : cs.getD n 0 % 840 = 0 := by
          by_cases hj : n < cs.length
          · exact (hc _ (List.mem_of_getElem? (get_of_lt hj))).2
          · simp [List.getD, List.getElem?_eq_none (by omega : cs.length ≤ n)]
        simp only [sumN]
        split <;> omega
    exact this _
  by_cases hc0 : count ≤ 0
  · have hall := cnt_zero fs (n := cs.length) (by omega)
    have hs : sumN (fun i => if fs i then cs.getD i 0 else 0) cs.length = cs.sum := by
      rw [← sumN_list]
      exact sumN_congr fun i hi => by simp [hall i hi]
    have hs2 : sumN (fun i => out.getD i 0) cs.length = cs.sum := by
      rw [← sumN_list]
      exact sumN_congr fun i hi => by rw [ho i hi, hall i hi]; rfl
    refine ⟨hl, by omega, cs.sum, fun i hi => ?_⟩
    rw [ho i hi, hall i hi]
    have := mem_le_sum cs (fun x hx => (hc x hx).1) _ (List.mem_of_getElem? (get_of_lt hi))
    simp only [if_true]
    omega
  · obtain ⟨m, hm⟩ : ∃ m : Nat, count = m := ⟨count.toNat, by omega⟩
    subst hm
    have hex := div_exact (E := left) (m := m) (by omega) (by omega) (by omega)
    generalize hL : left / (m : Int) = L at *
    refine ⟨hl, ?_, L, fun i hi => ?_⟩
    · rw [sumN_congr (g := fun i => (if fs i then cs.getD i 0 else 0) + L * (if fs i then 0 else 1)) (fun i hi => by rw [ho i hi]; split <;> simp), sumN_add, sumN_mul, ← g2, Int.mul_comm L]
      omega
    · rw [ho i hi]
      cases hf : fs i with
      | true =>
        have := g4 i hi hf
        have h5 : cs.getD i 0 ≤ L := Int.le_of_mul_le_mul_left (by omega : (m : Int) * cs.getD i 0 ≤ m * L) (by omega)
        simp only [if_true]
        omega
      | false =>
        rcases hend with h6 | h6
        · omega
        · have h7 := h6 i hi hf
          have h8 : L < cs.getD i 0 := by
            refine Classical.byContradiction fun hno => ?_
            have := Int.mul_le_mul_of_nonneg_right (show cs.getD i 0 ≤ L by omega) (show 0 ≤ (m : Int) by omega)
            rw [Int.mul_comm L] at this
            omega
          simp only [Bool.false_eq_true, if_false]
          omega
theorem mix_step {fo cs : List Int} {k : Nat} {v : Int} (hk : k < cs.length) (hl : fo.length = cs.length) (hv : fo[k]? = some v) : (fo.take k ++ cs.drop k).set k v = fo.take (k + 1) ++ cs.drop (k + 1) := by
  have h1 : (fo.take k).length = k := by simp; omega
  rw [List.set_append_right _ _ (by omega), h1, Nat.sub_self, List.drop_eq_getElem_cons hk, List.set_cons_zero, List.take_add_one, hv]
  simp
theorem mix_same {fo cs : List Int} {k : Nat} {v : Int} (hk : k < cs.length) (hv : fo[k]? = some v) (hc : cs[k]? = some v) : fo.take k ++ cs.drop k = fo.take (k + 1) ++ cs.drop (k + 1) := by
  rw [List.take_add_one, hv, List.drop_eq_getElem_cons hk]
  rw [List.getElem?_eq_getElem hk] at hc
  injection hc with hc
  rw [hc]
  simp
theorem wpList_append_many {P : Program} (wr : World) {ops : Array Oper} {rest : List Oper} {o : Oper} {a : Act} {Q : Exit → Act → World → Prop}
    (hg : o.guard = none) (s x : Operand) (t : TypeId) (hop : o.op = Op.call { callee := Callee.builtin Builtin.append, args := #[s, x], argTypes := #[t, t] })
    (base : Nat) (e : TypeId) (z : Value) (bytes : Nat) (h1 : P.underlying t = some (.slice e)) (hinfo : (P.info? e).map (fun i => (i.zero, i.size, i.bytes)) = some (some z, 1, bytes)) (hz : z.cells.size = 1)
    (v : Value) (n : Nat) (xs : List Value) (hs : a.eval s = v) (hown : wr.ownsRow base e 1 v n xs) (b off m c : Nat) (ys : List Value) (hx : a.eval x = .slice (some ⟨b, off, none⟩) m c) (hm : ys.length = m)
    (hcell : ∀ j, j < m → wr.cell? ⟨b, off + j, none⟩ = ys[j]?) (hone : ∀ u ∈ ys, u.oneCell' = true) (hb : bytes ≤ 64) (hn : n + m ≤ 1099511627776) (hbase : base ≤ wr.heap.size)
    (hK : ∀ v' w', w'.ownsRow base e 1 v' (n + m) (xs ++ ys) → wr.grownBy w' v.ownBlock → wpList P ops Q rest (a.put o.dst v') w') :
    wpList P ops Q (o :: rest) a wr := by
  obtain ⟨i, h2, h3, h4, h5⟩ := info_parts hinfo
  have hbb : (n + m) * bytes ≤ 140737488355328 := Nat.le_trans (Nat.mul_le_mul_left (n + m) hb) (by omega)
  refine wpList_append_own wr hg s x t hop base e i z 1 bytes h1 h2 h3 h4 h5 hz (by omega) v n xs hs hown ⟨b, off, none⟩ m c ys hx (by omega) ?_ hone (by unfold maxLen; omega) hbb hbase (fun v' w' ho hgr _ => hK v' w' ho hgr)
  intro j u hj
  have hj' : j < m := by have := (List.getElem?_eq_some_iff.1 hj).1; omega
  have ea : (⟨b, off, none⟩ : Addr).add j = ⟨b, off + j, none⟩ := by unfold Addr.add; split <;> simp_all
  rw [ea, hcell j hj', hj]
end Go.Proofs.Ytkapjlkeohjjbaa
namespace Go.Proofs.Ytkapjlkeohjjbaa
set_option linter.unusedVariables false
set_option linter.unusedSimpArgs false
open Go.RowKit

def lessF (xs ys : List Int) : List Int := (List.range xs.length).map fun j => xs.getD j 0 - ys.getD j 0
theorem lessF_length (xs ys : List Int) : (lessF xs ys).length = xs.length := by simp [lessF]
theorem lessF_take {xs ys : List Int} {k : Nat} (h : k < xs.length) : (lessF xs ys).take (k + 1) = (lessF xs ys).take k ++ [xs.getD k 0 - ys.getD k 0] := by
  rw [List.take_add_one]; simp [lessF, h]
set_option maxHeartbeats 1000000 in
theorem less_any (w : World) (B C : Nat) (a b : Option Addr) (c d : Nat) (xs ys : List Int) (h' : Rd w B a (ints xs)) (g' : Rd w C b (ints ys)) (hB : B ≤ w.heap.size) (hC : C ≤ w.heap.size) (hl : xs.length ≤ 1048576) (hlen : ys.length = xs.length)
    (hx0 : ∀ j, 0 ≤ xs.getD j 0 ∧ xs.getD j 0 ≤ 1099511627776) (hy0 : ∀ j, 0 ≤ ys.getD j 0 ∧ ys.getD j 0 ≤ 1099511627776) :
    Calls Try.prog 46 #[.slice a xs.length c, .slice b xs.length d] w fun e w' => ∃ a' c', e = .returned (.slice a' xs.length c') ∧ OwnI 2 w' w.heap.size w'.heap.size a' c' (lessF xs ys) ∧ Below w.heap.size w w' := by
  have h := h'.mono hB
  have g := g'.mono hC
  have Hx := Lib.hid hx0
  have Hy := Lib.hid hy0
  have Hlen := Lib.hid hlen
  clear hx0 hy0 h' g' hB hC hlen
  have Hs := Lib.hid (fun k hk => @lessF_take xs ys k hk)
  have Hl := Lib.hid (lessF_length xs ys)
  generalize lessF xs ys = zs at *
  go_enter Try.func46, Try.ntmps46
  go_wp2_with fail
  go_loopw [11, 5] (fun i v wr => ∃ (k : Nat) (u : Value), k ≤ xs.length ∧ i = .int .i64 k ∧ v = u ∧ Hid (wr.ownsRow w.heap.size 2 1 u k (ints (zs.take k))) ∧ Below w.heap.size w wr) (fun i _ _ => xs.length - (intOf i).toNat)
  case atStart => exact ⟨0, _, Nat.zero_le _, rfl, rfl, own_empty w _, bl1 w _⟩
  case round =>
    obtain ⟨k, u, hk, rfl, rfl, ho, hw⟩ := hrel
    by_cases hlt : k < xs.length
    · obtain ⟨b1, o1, rfl, _, hca⟩ := (h.below hw (Nat.le_refl _)).at hlt
      obtain ⟨b2, o2, rfl, _, hcb⟩ := (g.below hw (Nat.le_refl _)).at (k := k) (by rw [Hlen.out]; exact hlt)
      have ha := hca k hlt
      have hb := hcb k (by rw [Hlen.out]; exact hlt)
      have hn := Lib.hid (Hs.out k hlt)
      obtain ⟨x0, x1⟩ := Hx.out k
      obtain ⟨y0, y1⟩ := Hy.out k
      generalize xs.getD k 0 = x at *
      generalize ys.getD k 0 = y at *
      have ho1 := ho.out
      clear h g ho hca hcb
      go_wp2_with (at_builtin; refine wpList_append_one _ rfl _ _ 24 rfl w.heap.size 2 (.int .i64 0) 8 Try.underlying24 info_i64p rfl _ k _ rfl ho1 (.int .i64 (x - y)) rfl rfl (by omega) (by omega) hw.size ?_)
      intro v' w1 o1' hgr
      have hbl := below_append hw ho1 hgr (Nat.le_refl _) hw.size
      rw [show ints (zs.take k) ++ [Value.int .i64 (x - y)] = ints (zs.take (k + 1)) from by rw [hn.out, ints_append]; rfl] at o1'
      have HO := Lib.hid o1'
      clear ho1 hgr hw o1' ha hb
      go_wp2_with fail
      go_roundw
      case rel => exact ⟨k + 1, v', by omega, by go_num, rfl, HO, hbl⟩
      case measure => simp [intOf]; omega
    · have : k = xs.length := by omega
      subst this
      rw [show zs.take xs.length = zs from List.take_of_length_le (by rw [Hl.out]; exact Nat.le_refl _)] at ho
      obtain ⟨a1, c1, rfl, _, _⟩ := own_shape ho.out
      have hR : OwnI 2 wr w.heap.size wr.heap.size a1 c1 zs := OwnI.of_own (by rw [Hl.out]; exact ho.out)
      have HR := Lib.hid hR
      clear hR ho
      go_wp2_with fail
      go_ret
      exact ⟨_, _, rfl, HR.out, hw⟩
end Go.Proofs.Ytkapjlkeohjjbaa
namespace Go.Proofs.Ytkapjlkeohjjbaa
set_option linter.unusedVariables false
set_option linter.unusedSimpArgs false
open Go.RowKit

theorem step_append_one {P : Program} {ops : Array Oper} {o : Oper} {a : Act} {wr : World} {K : Act → World → Prop} {Q : Exit → Act → World → Prop} {E : Prop}
    (hg : o.guard = none) (s x : Operand) (t : TypeId) (hop : o.op = Op.call { callee := Callee.builtin Builtin.append, args := #[s, x], argTypes := #[t, t] })
    (base : Nat) (e : TypeId) (z : Value) (bytes : Nat) (h1 : P.underlying t = some (.slice e)) (hinfo : (P.info? e).map (fun i => (i.zero, i.size, i.bytes)) = some (some z, 1, bytes)) (hz : z.cells.size = 1)
    (v : Value) (n : Nat) (xs : List Value) (hs : a.eval s = v) (hown : wr.ownsRow base e 1 v n xs) (y : Value) (hy : y.oneCell' = true)
    (hx : a.eval x = .slice (some ⟨wr.heap.size, 0, none⟩) 1 1) (hb : bytes ≤ 64) (hn : n ≤ 1099511627776) (hbase : base ≤ wr.heap.size)
    (hK : ∀ v' w', w'.ownsRow base e 1 v' (n + 1) (xs ++ [y]) → wr.grownBy w' v.ownBlock → K (a.put o.dst v') w') :
    if Region.wanted o (yielded ops a.tmps) = true then Oper.wp P o a (wr.alloc (.cells #[y] e)) K Q else E := by
  have hw : Region.wanted o (yielded ops a.tmps) = true := by simp [Region.wanted, hg]
  rw [if_pos hw]
  obtain ⟨i, h2, h3, h4, h5⟩ := info_parts hinfo
  have hbb : (n + 1) * bytes ≤ 140737488355328 := Nat.le_trans (Nat.mul_le_mul_left (n + 1) hb) (by omega)
  refine wp_append_own (wr.alloc (.cells #[y] e)) s x t hop base e i z 1 bytes h1 h2 h3 h4 h5 hz (by omega) v n xs hs (hown.alloc _) ⟨wr.heap.size, 0, none⟩ 1 1 [y] hx rfl ?_ ?_ (by unfold maxLen; omega) hbb (by simp; omega) ?_
  · intro j u hj
    match j, hj with
    | 0, hj =>
      simp at hj
      subst hj
      simp [Addr.add]
    | j + 1, hj => simp at hj
  · intro u hu
    simp at hu
    subst hu
    exact hy
  · intro v' w' ho hgr _
    refine hK v' w' ho ⟨hgr.os, hgr.tape, hgr.output, ?_, fun k hk hne => ?_⟩
    · have := hgr.size; simp at this; omega
    · rw [hgr.block k (by simp; omega) hne]
      exact Below.heap_alloc _ _ _ hk

theorem step_append_drew {P : Program} {ops : Array Oper} {o : Oper} {a : Act} {wr : World} {K : Act → World → Prop} {Q : Exit → Act → World → Prop} {E : Prop}
    (hg : o.guard = none) (s x : Operand) (t : TypeId) (hop : o.op = Op.call { callee := Callee.builtin Builtin.append, args := #[s, x], argTypes := #[t, t] })
    (base : Nat) (e : TypeId) (z : Value) (bytes : Nat) (h1 : P.underlying t = some (.slice e)) (hinfo : (P.info? e).map (fun i => (i.zero, i.size, i.bytes)) = some (some z, 1, bytes)) (hz : z.cells.size = 1)
    (v : Value) (n : Nat) (xs : List Value) (hs : a.eval s = v) (hown : wr.ownsRow base e 1 v n xs) (y : Value) (hy : y.oneCell' = true)
    (hx : a.eval x = .slice (some ⟨wr.heap.size, 0, none⟩) 1 1) (hb : bytes ≤ 64) (hn : n ≤ 1099511627776) (hbase : base ≤ wr.heap.size)
    (hK : ∀ v' w', w'.ownsRow base e 1 v' (n + 1) (xs ++ [y]) → wr.drew.grownBy w' v.ownBlock → K (a.put o.dst v') w') :
    if Region.wanted o (yielded ops a.tmps) = true then Oper.wp P o a (wr.alloc (.cells #[y] e)).drew K Q else E :=
  step_append_one (wr := wr.drew) hg s x t hop base e z bytes h1 hinfo hz v n xs hs (own_below hown (below_drew' (Below.refl wr.heap.size wr))) y hy hx hb hn hbase hK
end Go.Proofs.Ytkapjlkeohjjbaa
namespace Go.Proofs.Ytkapjlkeohjjbaa
set_option linter.unusedVariables false
set_option linter.unusedSimpArgs false
open Go.RowKit

def claimsB (xs : List Int) (e : Int) : Bool := manyB xs 1 8 0 1000 && inB e 0 (wsum xs)
theorem claimsB_iff {xs : List Int} {e : Int} : claimsB xs e = true ↔ (1 ≤ xs.length ∧ xs.length ≤ 8) ∧ (∀ x ∈ xs, 0 ≤ x ∧ x ≤ 1000) ∧ 0 ≤ e ∧ e ≤ xs.sum := by
  unfold claimsB
  rw [Bool.and_eq_true, manyB_iff, inB_iff]
  constructor
  · rintro ⟨⟨⟨h1, h2⟩, h3⟩, h4, h5⟩
    have := wsum_eq xs 1000 (by omega) (fun x hx => by have := h3 x hx; omega) (by omega)
    exact ⟨⟨by omega, by omega⟩, h3, h4, by omega⟩
  · rintro ⟨⟨h1, h2⟩, h3, h4, h5⟩
    have := wsum_eq xs 1000 (by omega) (fun x hx => by have := h3 x hx; omega) (by omega)
    exact ⟨⟨⟨by omega, by omega⟩, h3⟩, h4, by omega⟩
theorem claims_sum {xs : List Int} (h : ∀ x ∈ xs, 0 ≤ x ∧ x ≤ 1000) : 0 ≤ xs.sum ∧ xs.sum ≤ 1000 * xs.length := by
  induction xs with
  | nil => simp
  | cons x xs ih =>
    have h1 := h x (by simp)
    have h2 := ih (fun y hy => h y (by simp [hy]))
    simp only [List.sum_cons, List.length_cons]
    omega
theorem areClaims_any (w : World) (a : Option Addr) (c : Nat) (xs : List Int) (e : Int) (h : Rd w w.heap.size a (ints xs)) (hl : xs.length ≤ 1152921504606846976) :
    Calls Try.prog 25 #[.slice a xs.length c, .int .i64 e] w fun e' w' => e' = .returned (.bool (claimsB xs e)) ∧ w = w' := by
  have L1 := Lib.hid (areMany_any w a c xs 1 8 0 1000 h hl)
  have L2 := Lib.hid (sumOf_any w a c xs h hl)
  have L3 := Lib.hid (within_any e 0 (wsum xs) w)
  clear h
  cases hin : manyB xs 1 8 0 1000 with
  | true =>
    have H : Hid (claimsB xs e = inB e 0 (wsum xs)) := by simp [Hid, claimsB, hin]
    rw [hin] at L1
    go_enter Try.func25, Try.ntmps25
    go_wp2_with (first | (go_at_call 42; refine L1.out.mono ?_; rintro e' w' ⟨rfl, rfl⟩) | (go_at_call 45; refine L2.out.mono ?_; rintro e' w' ⟨rfl, rfl⟩) | (go_at_call 54; refine L3.out.mono ?_; rintro e' w' ⟨rfl, rfl⟩))
    go_ret
    exact ⟨ret_bool H.out.symm, rfl⟩
  | false =>
    have H : Hid (claimsB xs e = false) := by simp [Hid, claimsB, hin]
    rw [hin] at L1
    go_enter Try.func25, Try.ntmps25
    go_wp2_with (go_at_call 42; refine L1.out.mono ?_; rintro e' w' ⟨rfl, rfl⟩)
    go_ret
    exact ⟨ret_bool H.out.symm, rfl⟩
/-- What is taken after k of the order, and what is left. -/
def takeS (cs os : List Int) (e : Int) : Nat → List Int × Int
  | 0 => (List.replicate cs.length 0, e)
  | k + 1 => ((takeS cs os e k).1.set (os.getD k 0).toNat (min (cs.getD (os.getD k 0).toNat 0) (takeS cs os e k).2), (takeS cs os e k).2 - min (cs.getD (os.getD k 0).toNat 0) (takeS cs os e k).2)
def takeF (cs os : List Int) (e : Int) : List Int := (takeS cs os e os.length).1
theorem takeS_len (cs os : List Int) (e : Int) : ∀ k, (takeS cs os e k).1.length = cs.length
  | 0 => by simp [takeS]
  | k + 1 => by simp [takeS, takeS_len cs os e k]
theorem getD_bd {cs : List Int} {lo hi : Int} (h : ∀ x ∈ cs, lo ≤ x ∧ x ≤ hi) (h0 : lo ≤ 0) (h1 : 0 ≤ hi) (j : Nat) : lo ≤ cs.getD j 0 ∧ cs.getD j 0 ≤ hi := by
  by_cases hj : j < cs.length
  · exact h _ (List.mem_of_getElem? (get_of_lt hj))
  · simp [List.getD, List.getElem?_eq_none (by omega : cs.length ≤ j), h0, h1]
theorem takeS_bd {cs os : List Int} {e : Int} (h0 : 0 ≤ e) (h1 : e ≤ 8000) (hc : ∀ x ∈ cs, 0 ≤ x ∧ x ≤ 1000) : ∀ k, (0 ≤ (takeS cs os e k).2 ∧ (takeS cs os e k).2 ≤ 8000) ∧ ∀ y ∈ (takeS cs os e k).1, 0 ≤ y ∧ y ≤ 1000
  | 0 => ⟨⟨h0, h1⟩, fun y hy => by simp [takeS] at hy; omega⟩
  | k + 1 => by
    obtain ⟨⟨i1, i2⟩, i3⟩ := takeS_bd (os := os) h0 h1 hc k
    have hx := getD_bd hc (by omega) (by omega) (os.getD k 0).toNat
    simp only [takeS]
    refine ⟨by omega, fun y hy => ?_⟩
    rcases List.mem_or_eq_of_mem_set hy with hy | rfl
    · exact i3 y hy
    · omega
theorem l00Min_any (a b : Int) (w : World) : Calls Try.prog 58 #[.int .i64 a, .int .i64 b] w fun e w' => e = .returned (.int .i64 (min a b)) ∧ w = w' := by
  by_cases h : a < b
  · have H : Hid (min a b = a) := by show _ = _; omega
    go_enter Try.func58, Try.ntmps58
    go_wp2
    go_ret
    exact ⟨ret_int H.out.symm, rfl⟩
  · have H : Hid (min a b = b) := by show _ = _; omega
    go_enter Try.func58, Try.ntmps58
    go_wp2
    go_ret
    exact ⟨ret_int H.out.symm, rfl⟩
set_option maxHeartbeats 1000000 in
theorem scaled_any (w : World) (B : Nat) (a : Option Addr) (c : Nat) (xs : List Int) (by' : Int) (h' : Rd w B a (ints xs)) (hB : B ≤ w.heap.size) (hl : xs.length ≤ 1048576) (hx0 : ∀ x ∈ xs, -1048576 ≤ x ∧ x ≤ 1048576) (b0 : 0 ≤ by') (b1 : by' ≤ 1048576) :
    Calls Try.prog 44 #[.slice a xs.length c, .int .i64 by'] w fun e w' => ∃ a' c', e = .returned (.slice a' xs.length c') ∧ OwnI 2 w' w.heap.size w'.heap.size a' c' (xs.map (· * by')) ∧ Below w.heap.size w w' := by
  have h := h'.mono hB
  have Hx := Lib.hid hx0
  clear hx0 h' hB
  have Hs : Hid (∀ (k : Nat) (x : Int), xs[k]? = some x → (xs.map (· * by')).take (k + 1) = (xs.map (· * by')).take k ++ [x * by']) := fun k x hx => by rw [List.take_add_one, List.getElem?_map, hx]; rfl
  have Hl : Hid ((xs.map (· * by')).length = xs.length) := by simp [Hid]
  generalize xs.map (· * by') = ys at *
  go_enter Try.func44, Try.ntmps44
  go_wp2_with fail
  go_loopw [11, 5] (fun i v wr => ∃ (k : Nat) (u : Value), k ≤ xs.length ∧ i = .int .i64 k ∧ v = u ∧ Hid (wr.ownsRow w.heap.size 2 1 u k (ints (ys.take k))) ∧ Below w.heap.size w wr) (fun i _ _ => xs.length - (intOf i).toNat)
  case atStart => exact ⟨0, _, Nat.zero_le _, rfl, rfl, own_empty w _, bl1 w _⟩
  case round =>
    obtain ⟨k, u, hk, rfl, rfl, ho, hw⟩ := hrel
    by_cases hlt : k < xs.length
    · obtain ⟨b, o, x, rfl, hbb, hck, hx⟩ := (h.below hw (Nat.le_refl _)).get hlt
      obtain ⟨x0, x1⟩ := Hx.out x (List.mem_of_getElem? hx.out)
      have hn := Lib.hid (Hs.out k x hx.out)
      have m1 : x * by' ≤ 1048576 * 1048576 := Int.le_trans (Int.mul_le_mul_of_nonneg_right x1 b0) (Int.mul_le_mul_of_nonneg_left b1 (by omega))
      have m2 : -1048576 * 1048576 ≤ x * by' := by
        have h1 : -1048576 * by' ≤ x * by' := Int.mul_le_mul_of_nonneg_right x0 b0
        omega
      have ho1 := ho.out
      clear h ho
      go_wp2_with (at_builtin; refine wpList_append_one _ rfl _ _ 24 rfl w.heap.size 2 (.int .i64 0) 8 Try.underlying24 info_i64p rfl _ k _ rfl ho1 (.int .i64 (x * by')) rfl rfl (by omega) (by omega) hw.size ?_)
      intro v' w1 o1 hgr
      have hb := below_append hw ho1 hgr (Nat.le_refl _) hw.size
      rw [show ints (ys.take k) ++ [Value.int .i64 (x * by')] = ints (ys.take (k + 1)) from by rw [hn.out, ints_append]; rfl] at o1
      have HO := Lib.hid o1
      clear ho1 hgr hw o1 hck
      go_wp2_with fail
      go_roundw
      case rel => exact ⟨k + 1, v', by omega, by go_num, rfl, HO, hb⟩
      case measure => simp [intOf]; omega
    · have : k = xs.length := by omega
      subst this
      rw [show ys.take xs.length = ys from List.take_of_length_le (by rw [Hl.out]; exact Nat.le_refl _)] at ho
      obtain ⟨a1, c1, rfl, _, _⟩ := own_shape ho.out
      have hR : OwnI 2 wr w.heap.size wr.heap.size a1 c1 ys := OwnI.of_own (by rw [Hl.out]; exact ho.out)
      have HR := Lib.hid hR
      clear hR ho
      go_wp2_with fail
      go_ret
      exact ⟨_, _, rfl, HR.out, hw⟩
set_option maxHeartbeats 2000000 in
theorem inOrder_any (w : World) (B C : Nat) (a ao : Option Addr) (c co : Nat) (xs os : List Int) (e : Int) (h' : Rd w B a (ints xs)) (g' : Rd w C ao (ints os)) (hB : B ≤ w.heap.size) (hC : C ≤ w.heap.size) (hv : claimsB xs e = true) (hor : orderB os xs.length = true) :
    Calls Try.prog 50 #[.slice a xs.length c, .int .i64 e, .slice ao os.length co] w fun e' w' => ∃ a' c', e' = .returned (.slice a' xs.length c') ∧ OwnI 2 w' w.heap.size w'.heap.size a' c' (takeF xs os e) ∧ Below w.heap.size w w' := by
  have h := h'.mono hB
  have g := g'.mono hC
  obtain ⟨⟨hl1, hl2⟩, hxb, he0, he1⟩ := claimsB_iff.1 hv
  have hsm := claims_sum hxb
  have e1 : e ≤ 8000 := by omega
  have Hxb := Lib.hid hxb
  have Hor := Lib.hid hor
  obtain ⟨_, _, hol⟩ := orderB_iff.1 hor
  have Hbd := Lib.hid (fun k => takeS_bd (os := os) he0 e1 (fun x hx => (hxb x hx)) k)
  have Hln := Lib.hid (takeS_len xs os e)
  have hF : Hid (takeF xs os e = (takeS xs os e os.length).1) := rfl
  rw [hol]
  rw [hol] at hF
  have Hol := Lib.hid hol
  clear h' g' hB hC hv hxb hor hsm he1 hol
  go_enter Try.func50, Try.ntmps50
  go_wp2_with (at_make; refine wpList_make_blk _ rfl _ _ 24 rfl 2 (.int .i64 0) 8 Try.underlying24 info_i64p rfl _ _ xs.length rfl rfl (by omega) (by unfold maxLen; omega) ?_)
  intro w1 hb1 hw1 _
  rw [ints_replicate] at hb1
  go_wp2_with fail
  go_loopw [15, 1] (fun i ev wr => ∃ k : Nat, k ≤ xs.length ∧ i = .int .i64 k ∧ ev = .int .i64 (takeS xs os e k).2 ∧ Blk wr w.heap.size (ints (takeS xs os e k).1) 2 ∧ Below w.heap.size w wr) (fun i _ _ => xs.length - (intOf i).toNat)
  case atStart => exact ⟨0, Nat.zero_le _, rfl, rfl, hb1, hw1⟩
  case round =>
    clear hb1 hw1
    obtain ⟨k, hk, rfl, rfl, hb, hw⟩ := hrel
    by_cases hlt : k < xs.length
    · obtain ⟨q, hq, hqn⟩ := order_get Hor.out hlt
      obtain ⟨b2, o2, y, rfl, _, hc2, hy⟩ := (g.below hw (Nat.le_refl _)).get (k := k) (by rw [Hol.out]; exact hlt)
      have hyq := hy.out
      rw [hq] at hyq
      injection hyq with hyq
      subst hyq
      obtain ⟨b1, o1, hax, hbb, hcell⟩ := (h.below hw (Nat.le_refl _)).at (k := q) hqn
      subst hax
      have hcq := hcell q hqn
      have hxq := Hxb.out _ (List.mem_of_getElem? (get_of_lt hqn))
      have hS1 : Hid ((takeS xs os e (k + 1)).1 = (takeS xs os e k).1.set q (min (xs.getD q 0) (takeS xs os e k).2)) := by
        show ((takeS xs os e k).1.set (os.getD k 0).toNat _) = _
        rw [getD_of_get hq, Int.toNat_natCast]
      have hS2 : Hid ((takeS xs os e (k + 1)).2 = (takeS xs os e k).2 - min (xs.getD q 0) (takeS xs os e k).2) := by
        show (takeS xs os e k).2 - min (xs.getD (os.getD k 0).toNat 0) _ = _
        rw [getD_of_get hq, Int.toNat_natCast]
      obtain ⟨⟨p0, p1⟩, _⟩ := Hbd.out k
      have hlk := Hln.out k
      generalize (takeS xs os e k).2 = ev at *
      generalize (takeS xs os e k).1 = ot at *
      generalize xs.getD q 0 = xq at *
      obtain ⟨x0, x1⟩ := hxq
      obtain ⟨mn, hmn⟩ : ∃ mn, mn = min xq ev := ⟨_, rfl⟩
      have hm1 : mn ≤ ev ∧ 0 ≤ mn ∧ mn ≤ xq := by omega
      rw [← hmn] at hS1 hS2
      have Hmn := Lib.hid hmn
      have hfr := hb.free q
      obtain ⟨old, hold⟩ := hb.has (j := q) (by rw [ints_length, hlk]; exact hqn)
      have hset := hb.setI q mn
      rw [← hS1.out] at hset
      have hbel := below_sto hw (Nat.le_refl _) q (.int .i64 mn)
      have hcell2 := hset.cell q
      rw [hS1.out] at hcell2
      have e3 : (ints (ot.set q mn))[q]? = some (.int .i64 mn) := by
        rw [ints_set, List.getElem?_set_self (by rw [ints_length, hlk]; exact hqn)]
      rw [e3] at hcell2
      obtain ⟨hm11, hm12, hm13⟩ := hm1
      clear hb hw h g hq hy hcell hlk e3 hmn
      by_cases hle : xq ≤ ev
      · have : mn = xq := by have := Hmn.out; omega
        subst this
        go_wp2_with fail
        go_roundw
        case rel => exact ⟨k + 1, by omega, by go_num, by rw [hS2.out] <;> simp, hset, hbel⟩
        case measure => simp [intOf]; omega
      · have : mn = ev := by have := Hmn.out; omega
        subst this
        go_wp2_with fail
        go_roundw
        case rel => exact ⟨k + 1, by omega, by go_num, by rw [hS2.out] <;> simp, hset, hbel⟩
        case measure => simp [intOf]; omega
    · have : k = xs.length := by omega
      subst this
      rw [← hF.out] at hb
      have hfl : (takeF xs os e).length = xs.length := by rw [hF.out]; exact Hln.out _
      have hR : OwnI 2 wr w.heap.size wr.heap.size (some ⟨w.heap.size, 0, none⟩) xs.length (takeF xs os e) := by
        have := (OwnI.of_blk hb (by rw [hfl]; omega)).mono (Nat.le_refl _) (hi' := wr.heap.size) (by have := hb.lt; omega)
        rwa [hfl] at this
      have HR := Lib.hid hR
      clear hR hb hfl
      go_wp2_with fail
      go_ret
      exact ⟨_, _, rfl, HR.out, hw⟩
end Go.Proofs.Ytkapjlkeohjjbaa
namespace Go.Proofs.Ytkapjlkeohjjbaa
set_option linter.unusedVariables false
set_option linter.unusedSimpArgs false
open Go.RowKit

theorem sum_scale (m : Int) : ∀ xs : List Int, (xs.map (· * m)).sum = xs.sum * m
  | [] => by simp
  | x :: xs => by simp only [List.map_cons, List.sum_cons]; rw [sum_scale m xs, Int.add_mul]
theorem scale_facts {xs : List Int} {e : Int} (h : claimsB xs e = true) (m : Int) (hm : m = 840 ∨ m = 1680) :
    (xs.map (· * m)).length = xs.length ∧ (∀ x ∈ xs.map (· * m), 0 ≤ x ∧ x % 840 = 0) ∧ (∀ x ∈ xs.map (· * m), x ≤ 1680000) ∧ (xs.map (· * m)).sum = xs.sum * m := by
  obtain ⟨_, h2, _⟩ := claimsB_iff.1 h
  refine ⟨by simp, fun x hx => ?_, fun x hx => ?_, ?_⟩
  · obtain ⟨y, hy, rfl⟩ := List.mem_map.1 hx
    have := h2 y hy
    rcases hm with rfl | rfl <;> omega
  · obtain ⟨y, hy, rfl⟩ := List.mem_map.1 hx
    have := h2 y hy
    rcases hm with rfl | rfl <;> omega
  · exact sum_scale m xs
theorem gainS_bd {cs : List Int} {est : Int} (hn : cs.length ≤ 8) (hc : ∀ x ∈ cs, 0 ≤ x ∧ x % 840 = 0) (hc1 : ∀ x ∈ cs, x ≤ 1680000) (h0 : 0 ≤ est) (hd : est % 840 = 0) :
    ∀ t, t ≤ cs.length → ∀ j, 0 ≤ (gainS cs (ascF cs) est t).1.getD j 0 ∧ (gainS cs (ascF cs) est t).1.getD j 0 ≤ 1680000
  | 0, _, j => by
    simp only [gainS, List.getD_eq_getElem?_getD, List.getElem?_replicate]
    split <;> simp
  | t + 1, ht, j => by
    have ih := gainS_bd hn hc hc1 h0 hd t (by omega) j
    obtain ⟨j1, _⟩ := gainS_le hn hc h0 hd t (by omega)
    simp only [gainS]
    have hq : 0 ≤ (gainS cs (ascF cs) est t).2 / (((ascF cs).length : Int) - t) := Int.ediv_nonneg j1 (by rw [ascF_length]; omega)
    have hx : 0 ≤ cs.getD ((ascF cs).getD t 0).toNat 0 ∧ cs.getD ((ascF cs).getD t 0).toNat 0 ≤ 1680000 := getD_bd (fun x hx => ⟨(hc x hx).1, hc1 x hx⟩) (by omega) (by omega) _
    generalize ((ascF cs).getD t 0).toNat = q at *
    by_cases hj : j = q
    · subst hj
      by_cases hlt : j < (gainS cs (ascF cs) est t).1.length
      · rw [getD_set_self hlt]; omega
      · rw [List.set_eq_of_length_le (by omega)]; exact ih
    · rw [getD_set_ne hj]; exact ih
def eqGF (xs : List Int) (e : Int) : Option (List Int) := if claimsB xs e then some (gainF (xs.map (· * 1680)) (e * 1680)) else none
theorem gainF_length (cs : List Int) (est : Int) : (gainF cs est).length = cs.length := gainS_len _ _ _ _
set_option maxHeartbeats 1000000 in
theorem eqG_any (w : World) (a : Option Addr) (c : Nat) (xs : List Int) (e : Int) (h : Rd w w.heap.size a (ints xs)) (hl : xs.length ≤ 1152921504606846976) :
    Calls Try.prog 16 #[.slice a xs.length c, .int .i64 e] w (RetI 2 w (eqGF xs e)) := by
  unfold eqGF
  have LC := Lib.hid (areClaims_any w a c xs e h hl)
  cases t1 : claimsB xs e with
  | false =>
    rw [t1] at LC
    simp only [Bool.false_eq_true, if_false]
    clear h
    go_enter Try.func16, Try.ntmps16
    go_wp2_with fail
    refine LC.out.mono ?_
    rintro e' w1 ⟨rfl, rfl⟩
    go_wp2_with fail
    go_ret2
    exact RetI.no (Below.refl _ _)
  | true =>
    rw [t1] at LC
    simp only [if_true]
    obtain ⟨⟨hl1, hl8⟩, hxs, he0, he1⟩ := claimsB_iff.1 t1
    obtain ⟨s1, s2, s3, s4⟩ := scale_facts t1 1680 (.inr rfl)
    have hs := claims_sum hxs
    have LM := Lib.hid (scaled_any w w.heap.size a c xs 1680 h (Nat.le_refl _) (by omega) (fun x hx => by have := hxs x hx; omega) (by omega) (by omega))
    have LG := Lib.hid (fun (w' : World) (a' : Option Addr) (c' : Nat) (hr : Rd w' w'.heap.size a' (ints (xs.map (· * 1680)))) => gains_any w' w'.heap.size a' c' (xs.map (· * 1680)) (e * 1680) hr (Nat.le_refl _) (by omega) (by omega) s2 s3 (by omega) (by omega) (by omega))
    have hfl := Lib.hid (gainF_length (xs.map (· * 1680)) (e * 1680))
    rw [s1] at LG hfl
    have Hs := Lib.hid hs
    have he2 : e ≤ 8000 := by omega
    clear h s1 s2 s3 s4 hxs hs he1 hl1
    go_enter Try.func16, Try.ntmps16
    go_wp2_with fail
    refine LC.out.mono ?_
    rintro e' w1 ⟨rfl, rfl⟩
    go_wp2_with fail
    refine LM.out.mono ?_
    rintro e' w3 ⟨a3, c3, rfl, o3, hb3⟩
    have L2 := Lib.hid (LG.out w3 a3 c3 (o3.rd.mono (Nat.le_refl _)))
    have O3 := Lib.hid o3
    clear o3 LG
    go_wp2_with fail
    refine L2.out.mono ?_
    rintro e' w4 ⟨a4, c4, rfl, o4, hb4⟩
    have HB4 := hb3.trans (hb4.mono hb3.size)
    have HR : RetI 2 w (some (gainF (xs.map (· * 1680)) (e * 1680))) (.returned (.tuple #[.slice a4 xs.length c4, .bool true])) w4 := ⟨HB4, a4, c4, by rw [hfl.out], own_base o4.1 hb3.size⟩
    have HRR := Lib.hid HR
    clear HR o4 hb4
    go_wp2_with fail
    go_ret2
    exact HRR.out
end Go.Proofs.Ytkapjlkeohjjbaa
namespace Go.Proofs.Ytkapjlkeohjjbaa
set_option linter.unusedVariables false
set_option linter.unusedSimpArgs false
open Go.RowKit

def eqLF (xs : List Int) (e : Int) : Option (List Int) := if claimsB xs e then some (lessF (xs.map (· * 1680)) (gainF (xs.map (· * 1680)) ((xs.sum - e) * 1680))) else none
def halfF (xs : List Int) (e : Int) : Option (List Int) :=
  if claimsB xs e then (if 2 * e ≤ xs.sum then some (gainF (xs.map (· * 840)) (e * 1680)) else some (lessF (xs.map (· * 1680)) (gainF (xs.map (· * 840)) ((xs.sum - e) * 1680)))) else none
theorem claims_wsum {xs : List Int} {e : Int} (h : claimsB xs e = true) : wsum xs = xs.sum := by
  obtain ⟨⟨h1, h2⟩, h3, _⟩ := claimsB_iff.1 h
  exact (wsum_eq xs 1000 (by omega) (fun x hx => by have := h3 x hx; omega) (by omega)).1
theorem scale_getD {xs : List Int} {e : Int} (h : claimsB xs e = true) (m : Int) (hm : m = 840 ∨ m = 1680) (j : Nat) : 0 ≤ (xs.map (· * m)).getD j 0 ∧ (xs.map (· * m)).getD j 0 ≤ 1099511627776 := by
  obtain ⟨_, s2, s3, _⟩ := scale_facts h m hm
  have := getD_bd (cs := xs.map (· * m)) (lo := 0) (hi := 1680000) (fun x hx => ⟨(s2 x hx).1, s3 x hx⟩) (by omega) (by omega) j
  omega
theorem gain_getD {xs : List Int} {e : Int} (h : claimsB xs e = true) (m : Int) (hm : m = 840 ∨ m = 1680) {E : Int} (h0 : 0 ≤ E) (hd : E % 840 = 0) (j : Nat) : 0 ≤ (gainF (xs.map (· * m)) E).getD j 0 ∧ (gainF (xs.map (· * m)) E).getD j 0 ≤ 1099511627776 := by
  obtain ⟨s1, s2, s3, _⟩ := scale_facts h m hm
  have := gainS_bd (cs := xs.map (· * m)) (est := E) (by have := (claimsB_iff.1 h).1; omega) s2 s3 h0 hd _ (Nat.le_refl _) j
  unfold gainF
  omega
theorem claims_turn (xs : List Int) (e : Int) (he : -9223372036854775808 ≤ e ∧ e ≤ 9223372036854775807) : claimsB xs (wrap64 (wsum xs - e)) = claimsB xs e := by
  unfold claimsB
  cases hm : manyB xs 1 8 0 1000 with
  | false => rfl
  | true =>
    obtain ⟨⟨h1, h2⟩, h3⟩ := manyB_iff.1 hm
    obtain ⟨hs, _⟩ := wsum_eq xs 1000 (by omega) (fun x hx => by have := h3 x hx; omega) (by omega)
    have := claims_sum h3
    rw [hs]
    simp only [Bool.true_and]
    rw [Bool.eq_iff_iff, inB_iff, inB_iff]
    unfold wrap64
    omega

set_option maxHeartbeats 2000000 in
theorem eqL_any (w : World) (a : Option Addr) (c : Nat) (xs : List Int) (e : Int) (he : -9223372036854775808 ≤ e ∧ e ≤ 9223372036854775807) (h : Rd w w.heap.size a (ints xs)) (hl : xs.length ≤ 1152921504606846976) :
    Calls Try.prog 17 #[.slice a xs.length c, .int .i64 e] w (RetI 2 w (eqLF xs e)) := by
  unfold eqLF
  have LS := Lib.hid (sumOf_any w a c xs h hl)
  have LE := Lib.hid (eqG_any w a c xs (wrap64 (wsum xs - e)) h hl)
  cases t1 : claimsB xs e with
  | false =>
    rw [show eqGF xs (wrap64 (wsum xs - e)) = none from by unfold eqGF; rw [claims_turn xs e he, t1]; rfl] at LE
    simp only [Bool.false_eq_true, if_false]
    clear h he
    generalize wsum xs = S at *
    go_enter Try.func17, Try.ntmps17
    go_wp2_with fail
    refine LS.out.mono ?_
    rintro e' w1 ⟨rfl, rfl⟩
    go_wp2_with fail
    refine LE.out.mono ?_
    rintro e' w1 ⟨hb1, rfl⟩
    go_wp2_with fail
    go_ret2
    exact RetI.no hb1
  | true =>
    have hws := claims_wsum t1
    obtain ⟨⟨hl1, hl8⟩, hxs, he0, he1⟩ := claimsB_iff.1 t1
    have hs := claims_sum hxs
    rw [hws, IntWalk.wrap64_in (xs.sum - e) (by omega), show eqGF xs (xs.sum - e) = some (gainF (xs.map (· * 1680)) ((xs.sum - e) * 1680)) from by
      unfold eqGF; rw [show claimsB xs (xs.sum - e) = true from claimsB_iff.2 ⟨⟨hl1, hl8⟩, hxs, by omega, by omega⟩]; rfl] at LE
    rw [hws] at LS
    have LC := Lib.hid (fun (w1 : World) (hb : Below w.heap.size w w1) => areClaims_any w1 a c xs e (h.to hb) hl)
    rw [t1] at LC
    simp only [if_true]
    have LM := Lib.hid (fun (w1 : World) (hb : Below w.heap.size w w1) => scaled_any w1 w1.heap.size a c xs 1680 (h.to hb) (Nat.le_refl _) (by omega) (fun x hx => by have := hxs x hx; omega) (by omega) (by omega))
    have FG : Hid ((gainF (xs.map (· * 1680)) ((xs.sum - e) * 1680)).length = xs.length) := by simp [Hid, gainF_length]
    have Ln : (xs.map (· * 1680)).length = xs.length := by simp
    have LL := Lib.hid (fun (w1 : World) (a1 a2 : Option Addr) (c1 c2 : Nat) (h1 : Rd w1 w1.heap.size a1 (ints (xs.map (· * 1680)))) (h2 : Rd w1 w1.heap.size a2 (ints (gainF (xs.map (· * 1680)) ((xs.sum - e) * 1680)))) => less_any w1 w1.heap.size w1.heap.size a1 a2 c1 c2 (xs.map (· * 1680)) _ h1 h2 (Nat.le_refl _) (Nat.le_refl _) (by omega) (by simp [gainF_length]) (scale_getD t1 1680 (.inr rfl)) (gain_getD t1 1680 (.inr rfl) (by omega) (by omega)))
    have FLL := Lib.hid (lessF_length (xs.map (· * 1680)) (gainF (xs.map (· * 1680)) ((xs.sum - e) * 1680)))
    rw [Ln] at LL FLL
    clear Ln
    have hS0 : 0 ≤ xs.sum ∧ xs.sum ≤ 8000 := by omega
    clear h hxs hs hl1 hws
    have t1h := Lib.hid t1; clear t1
    generalize gainF (xs.map (· * 1680)) ((xs.sum - e) * 1680) = gs at *
    generalize xs.sum = S at *
    generalize hwh : xs.map (· * 1680) = wh at *
    clear hwh
    obtain ⟨S0, S1⟩ := hS0
    go_enter Try.func17, Try.ntmps17
    go_wp2_with fail
    refine LS.out.mono ?_
    rintro e' w1 ⟨rfl, rfl⟩
    go_wp2_with fail
    refine LE.out.mono ?_
    rintro e' w3 ⟨hb3, a3, c3, rfl, o3⟩
    rw [FG.out]
    have O3 : Hid (OwnI 2 w3 w.heap.size w3.heap.size a3 c3 gs) := OwnI.of_own o3
    have LC3 := Lib.hid (LC.out _ hb3)
    have LM3 := Lib.hid (LM.out _ hb3)
    clear o3
    go_wp2_with fail
    refine LC3.out.mono ?_
    rintro e' w4 ⟨rfl, rfl⟩
    go_wp2_with fail
    refine LM3.out.mono ?_
    rintro e' w4 ⟨a4, c4, rfl, o4, hb4⟩
    have HBw4 := hb3.trans (hb4.mono hb3.size)
    have LL4 := Lib.hid (LL.out w4 a4 a3 c4 c3 (o4.rd.mono (Nat.le_refl _)) ((O3.out.keep hb4).rd.mono hb4.size))
    have O4 := Lib.hid o4
    clear o4
    go_wp2_with fail
    refine LL4.out.mono ?_
    rintro e' w5 ⟨a5, c5, rfl, o5, hb5⟩
    have HBw5 := HBw4.trans (hb5.mono HBw4.size)
    have HR : RetI 2 w (some (lessF wh gs)) (.returned (.tuple #[.slice a5 xs.length c5, .bool true])) w5 := ⟨HBw5, a5, c5, by rw [FLL.out], own_base o5.1 HBw4.size⟩
    have HRR := Lib.hid HR
    clear HR
    clear o5
    go_wp2_with fail
    go_ret2
    exact HRR.out
set_option maxHeartbeats 2000000 in
theorem half_any (w : World) (a : Option Addr) (c : Nat) (xs : List Int) (e : Int) (he : -9223372036854775808 ≤ e ∧ e ≤ 9223372036854775807) (h : Rd w w.heap.size a (ints xs)) (hl : xs.length ≤ 1152921504606846976) :
    Calls Try.prog 18 #[.slice a xs.length c, .int .i64 e] w (RetI 2 w (halfF xs e)) := by
  unfold halfF
  have LC := Lib.hid (areClaims_any w a c xs e h hl)
  cases t1 : claimsB xs e with
  | false =>
    rw [t1] at LC
    simp only [Bool.false_eq_true, if_false]
    clear h
    go_enter Try.func18, Try.ntmps18
    go_wp2_with fail
    refine LC.out.mono ?_
    rintro e' w1 ⟨rfl, rfl⟩
    go_wp2_with fail
    go_ret2
    exact RetI.no (Below.refl _ _)
  | true =>
    rw [t1] at LC
    simp only [if_true]
    obtain ⟨⟨hl1, hl8⟩, hxs, he0, he1⟩ := claimsB_iff.1 t1
    have hs := claims_sum hxs
    have LM := Lib.hid (fun (w1 : World) (hb : Below w.heap.size w w1) => scaled_any w1 w1.heap.size a c xs 840 (h.to hb) (Nat.le_refl _) (by omega) (fun x hx => by have := hxs x hx; omega) (by omega) (by omega))
    have LS := Lib.hid (fun (w1 : World) (hb : Below w.heap.size w w1) => sumOf_any w1 a c xs (h.to hb) hl)
    rw [claims_wsum t1] at LS
    by_cases h2 : 2 * e ≤ xs.sum
    case pos =>
      rw [if_pos h2]
      obtain ⟨s1LG, s2LG, s3LG, s4LG⟩ := scale_facts t1 840 (.inl rfl)
      have LG := Lib.hid (fun (w1 : World) (a1 : Option Addr) (c1 : Nat) (hr : Rd w1 w1.heap.size a1 (ints (xs.map (· * 840)))) => gains_any w1 w1.heap.size a1 c1 (xs.map (· * 840)) (e * 1680) hr (Nat.le_refl _) (by omega) (by omega) s2LG s3LG (by omega) (by omega) (by omega))
      have FLG := Lib.hid (gainF_length (xs.map (· * 840)) (e * 1680))
      rw [s1LG] at LG FLG
      clear s1LG s2LG s3LG s4LG
      have hS0 : 0 ≤ xs.sum ∧ xs.sum ≤ 8000 := by omega
      clear h hxs hs hl1
      have t1h := Lib.hid t1; clear t1
      generalize gainF (xs.map (· * 840)) (e * 1680) = gs at *
      generalize xs.sum = S at *
      generalize hwh : xs.map (· * 840) = wh at *
      clear hwh
      obtain ⟨S0, S1⟩ := hS0
      go_enter Try.func18, Try.ntmps18
      go_wp2_with fail
      refine LC.out.mono ?_
      rintro e' w1 ⟨rfl, rfl⟩
      go_wp2_with fail
      refine (LM.out _ (Below.refl _ _)).mono ?_
      rintro e' w3 ⟨a3, c3, rfl, o3, hb3⟩
      have O3 := Lib.hid o3
      have LS3 := Lib.hid (LS.out _ hb3)
      clear o3
      go_wp2_with fail
      refine LS3.out.mono ?_
      rintro e' w4 ⟨rfl, rfl⟩
      have LG3 := Lib.hid (LG.out w3 a3 c3 (O3.out.rd.mono (Nat.le_refl _)))
      go_wp2_with fail
      refine LG3.out.mono ?_
      rintro e' w4 ⟨a4, c4, rfl, o4, hb4⟩
      have HBw4 := hb3.trans (hb4.mono hb3.size)
      have HR : RetI 2 w (some (gs)) (.returned (.tuple #[.slice a4 xs.length c4, .bool true])) w4 := ⟨HBw4, a4, c4, by rw [FLG.out], own_base o4.1 hb3.size⟩
      have HRR := Lib.hid HR
      clear HR
      clear o4
      go_wp2_with fail
      go_ret2
      exact HRR.out
    case neg =>
      rw [if_neg h2]
      have LW := Lib.hid (fun (w1 : World) (hb : Below w.heap.size w w1) => scaled_any w1 w1.heap.size a c xs 1680 (h.to hb) (Nat.le_refl _) (by omega) (fun x hx => by have := hxs x hx; omega) (by omega) (by omega))
      obtain ⟨s1LG, s2LG, s3LG, s4LG⟩ := scale_facts t1 840 (.inl rfl)
      have LG := Lib.hid (fun (w1 : World) (a1 : Option Addr) (c1 : Nat) (hr : Rd w1 w1.heap.size a1 (ints (xs.map (· * 840)))) => gains_any w1 w1.heap.size a1 c1 (xs.map (· * 840)) ((xs.sum - e) * 1680) hr (Nat.le_refl _) (by omega) (by omega) s2LG s3LG (by omega) (by omega) (by omega))
      have FLG := Lib.hid (gainF_length (xs.map (· * 840)) ((xs.sum - e) * 1680))
      rw [s1LG] at LG FLG
      clear s1LG s2LG s3LG s4LG
      have Ln : (xs.map (· * 1680)).length = xs.length := by simp
      have LL := Lib.hid (fun (w1 : World) (a1 a2 : Option Addr) (c1 c2 : Nat) (h1 : Rd w1 w1.heap.size a1 (ints (xs.map (· * 1680)))) (h2 : Rd w1 w1.heap.size a2 (ints (gainF (xs.map (· * 840)) ((xs.sum - e) * 1680)))) => less_any w1 w1.heap.size w1.heap.size a1 a2 c1 c2 (xs.map (· * 1680)) _ h1 h2 (Nat.le_refl _) (Nat.le_refl _) (by omega) (by simp [gainF_length]) (scale_getD t1 1680 (.inr rfl)) (gain_getD t1 840 (.inl rfl) (by omega) (by omega)))
      have FLL := Lib.hid (lessF_length (xs.map (· * 1680)) (gainF (xs.map (· * 840)) ((xs.sum - e) * 1680)))
      rw [Ln] at LL FLL
      clear Ln
      have hS0 : 0 ≤ xs.sum ∧ xs.sum ≤ 8000 := by omega
      have h2 : xs.sum < 2 * e := by omega
      clear h hxs hs hl1
      have t1h := Lib.hid t1; clear t1
      generalize gainF (xs.map (· * 840)) ((xs.sum - e) * 1680) = gs at *
      generalize xs.sum = S at *
      generalize hwh : xs.map (· * 840) = wh at *
      generalize hwi : xs.map (· * 1680) = wi at *
      clear hwh hwi
      obtain ⟨S0, S1⟩ := hS0
      go_enter Try.func18, Try.ntmps18
      go_wp2_with fail
      refine LC.out.mono ?_
      rintro e' w1 ⟨rfl, rfl⟩
      go_wp2_with fail
      refine (LM.out _ (Below.refl _ _)).mono ?_
      rintro e' w3 ⟨a3, c3, rfl, o3, hb3⟩
      have O3 := Lib.hid o3
      have LS3 := Lib.hid (LS.out _ hb3)
      clear o3
      go_wp2_with fail
      refine LS3.out.mono ?_
      rintro e' w4 ⟨rfl, rfl⟩
      go_wp2_with fail
      refine (LW.out _ hb3).mono ?_
      rintro e' w4 ⟨a4, c4, rfl, o4, hb4⟩
      have HBw4 := hb3.trans (hb4.mono hb3.size)
      have LG3 := Lib.hid (LG.out w4 a3 c3 ((O3.out.keep hb4).rd.mono hb4.size))
      have O4 := Lib.hid o4
      clear o4
      go_wp2_with fail
      refine LG3.out.mono ?_
      rintro e' w5 ⟨a5, c5, rfl, o5, hb5⟩
      have HBw5 := HBw4.trans (hb5.mono HBw4.size)
      have LL5 := Lib.hid (LL.out w5 a4 a5 c4 c5 ((O4.out.keep hb5).rd.mono hb5.size) (o5.rd.mono (Nat.le_refl _)))
      have O5 := Lib.hid o5
      clear o5
      go_wp2_with fail
      refine LL5.out.mono ?_
      rintro e' w6 ⟨a6, c6, rfl, o6, hb6⟩
      have HBw6 := HBw5.trans (hb6.mono HBw5.size)
      have HR : RetI 2 w (some (lessF wi gs)) (.returned (.tuple #[.slice a6 xs.length c6, .bool true])) w6 := ⟨HBw6, a6, c6, by rw [FLL.out], own_base o6.1 HBw5.size⟩
      have HRR := Lib.hid HR
      clear HR
      clear o6
      go_wp2_with fail
      go_ret2
      exact HRR.out
end Go.Proofs.Ytkapjlkeohjjbaa
namespace Go.Proofs.Ytkapjlkeohjjbaa
set_option linter.unusedVariables false
set_option linter.unusedSimpArgs false
open Go.RowKit

/-- All orders that begin with p, f more of the n numbers to come, in their order. -/
def permsU (n : Nat) : Nat → List Int → List (List Int)
  | 0, p => [p]
  | f + 1, p => (List.range n).flatMap fun (i : Nat) => if decide ((i : Int) ∈ p) then [] else permsU n f (p ++ [(i : Int)])
/-- All orders by insertion. -/
def insAll : Nat → List (List Int)
  | 0 => [[]]
  | k + 1 => (insAll k).flatMap fun o => (List.range (o.length + 1)).map fun i => o.take i ++ [(k : Int)] ++ o.drop i
def leL : List Int → List Int → Bool
  | [], _ => true
  | _ :: _, [] => false
  | x :: xs, y :: ys => if x < y then true else if y < x then false else leL xs ys
def mergeF : Nat → List (List Int) → List (List Int) → List (List Int)
  | 0, xs, ys => xs ++ ys
  | _ + 1, [], ys => ys
  | _ + 1, x :: xs, [] => x :: xs
  | n + 1, x :: xs, y :: ys => if leL x y then x :: mergeF n xs (y :: ys) else y :: mergeF n (x :: xs) ys
theorem mergeF_perm : ∀ (n : Nat) (xs ys : List (List Int)), (mergeF n xs ys).Perm (xs ++ ys)
  | 0, xs, ys => by simp [mergeF]
  | _ + 1, [], ys => by simp [mergeF]
  | _ + 1, x :: xs, [] => by simp [mergeF]
  | n + 1, x :: xs, y :: ys => by
    rw [mergeF]
    split
    · exact (mergeF_perm n xs (y :: ys)).cons x
    · exact ((mergeF_perm n (x :: xs) ys).cons y).trans List.perm_middle.symm
def sortL : Nat → List (List Int) → List (List Int)
  | 0, xs => xs
  | n + 1, xs => mergeF xs.length (sortL n (xs.take (xs.length / 2))) (sortL n (xs.drop (xs.length / 2)))
theorem sortL_perm : ∀ (n : Nat) (xs : List (List Int)), (sortL n xs).Perm xs
  | 0, xs => List.Perm.refl _
  | n + 1, xs => by
    rw [sortL]
    refine (mergeF_perm _ _ _).trans (((sortL_perm n _).append (sortL_perm n _)).trans ?_)
    rw [List.take_append_drop]
set_option maxRecDepth 100000 in
theorem insAll_perm : ∀ n, n ≤ 6 → (insAll n).Perm (permsU n n [])
  | 0, _ => (by decide +kernel : sortL 10 (insAll 0) = permsU 0 0 []) ▸ (sortL_perm 10 (insAll 0)).symm
  | 1, _ => (by decide +kernel : sortL 10 (insAll 1) = permsU 1 1 []) ▸ (sortL_perm 10 (insAll 1)).symm
  | 2, _ => (by decide +kernel : sortL 10 (insAll 2) = permsU 2 2 []) ▸ (sortL_perm 10 (insAll 2)).symm
  | 3, _ => (by decide +kernel : sortL 10 (insAll 3) = permsU 3 3 []) ▸ (sortL_perm 10 (insAll 3)).symm
  | 4, _ => (by decide +kernel : sortL 10 (insAll 4) = permsU 4 4 []) ▸ (sortL_perm 10 (insAll 4)).symm
  | 5, _ => (by decide +kernel : sortL 10 (insAll 5) = permsU 5 5 []) ▸ (sortL_perm 10 (insAll 5)).symm
  | 6, _ => (by decide +kernel : sortL 10 (insAll 6) = permsU 6 6 []) ▸ (sortL_perm 10 (insAll 6)).symm
  | n + 7, h => by omega
theorem insAll_length : ∀ n, n ≤ 6 → (insAll n).length ≤ 720
  | 0, _ => by decide +kernel
  | 1, _ => by decide +kernel
  | 2, _ => by decide +kernel
  | 3, _ => by decide +kernel
  | 4, _ => by decide +kernel
  | 5, _ => by decide +kernel
  | 6, _ => by decide +kernel
  | n + 7, h => by omega

def addL (a b : List Int) : List Int := List.zipWith (· + ·) a b
theorem addL_comm (a x y : List Int) : addL (addL a x) y = addL (addL a y) x := by
  apply List.ext_getElem
  · simp [addL]; omega
  · intro i h1 h2
    simp only [addL, List.getElem_zipWith]
    omega
theorem foldl_permI {α β : Type} {f : α → β → α} (hf : ∀ a x y, f (f a x) y = f (f a y) x) {l1 l2 : List β} (h : l1.Perm l2) : ∀ a, l1.foldl f a = l2.foldl f a := by
  induction h with
  | nil => exact fun _ => rfl
  | cons x _ ih => exact fun a => ih _
  | swap x y l => intro a; simp only [List.foldl_cons]; rw [hf]
  | trans _ _ i1 i2 => exact fun a => (i1 a).trans (i2 a)
/-- The sums of what each one gets over orders. -/
def sumT (cs : List Int) (e : Int) (os : List (List Int)) : List Int := os.foldl (fun s o => addL s (takeF cs o e)) (List.replicate cs.length 0)
theorem sumT_perm {cs : List Int} {e : Int} {os ps : List (List Int)} (h : os.Perm ps) : sumT cs e os = sumT cs e ps := by
  exact foldl_permI (f := fun s o => addL s (takeF cs o e)) (fun a b c => addL_comm _ _ _) h _
theorem sumT_snoc (cs : List Int) (e : Int) (os : List (List Int)) (o : List Int) : sumT cs e (os ++ [o]) = addL (sumT cs e os) (takeF cs o e) := by simp [sumT]
theorem takeF_len (cs os : List Int) (e : Int) : (takeF cs os e).length = cs.length := takeS_len _ _ _ _
theorem sumT_len (cs : List Int) (e : Int) (os : List (List Int)) : (sumT cs e os).length = cs.length := by
  have : ∀ (os : List (List Int)) (s : List Int), s.length = cs.length → (os.foldl (fun s o => addL s (takeF cs o e)) s).length = cs.length := by
    intro os
    induction os with
    | nil => exact fun s h => h
    | cons o os ih => exact fun s h => ih _ (by simp only [addL, List.length_zipWith, h, takeF_len]; omega)
  exact this os _ (by simp)
end Go.Proofs.Ytkapjlkeohjjbaa
namespace Go.Proofs.Ytkapjlkeohjjbaa
set_option linter.unusedVariables false
set_option linter.unusedSimpArgs false
open Go.RowKit

theorem own_cut {w : World} {base e n c g : Nat} {xs : List Value} {y : Value} (h : w.ownsRow base e 1 (.slice (some ⟨g, 0, none⟩) (n + 1) c) (n + 1) (xs ++ [y])) (hn : xs.length = n) : w.ownsRow base e 1 (.slice (some ⟨g, 0, none⟩) n c) n xs := by
  rcases h.2 with ⟨h2, _⟩ | ⟨g', cap, cur, hv, hg, hh, hnc, hm, hs, ht⟩
  · cases h2
  · injection hv with e1 _ e3
    injection e1 with e1
    injection e1 with e1 _
    subst e1 e3
    refine ⟨by omega, .inr ⟨g, c, cur, rfl, hg, hh, by omega, hm, hs, ?_⟩⟩
    have := congrArg (List.take n) ht
    rw [List.take_take, List.take_left' hn] at this
    rw [← this]
    congr 1
    omega
theorem own_tch {T : Nat} {w w' : World} {lo hi lo' hi' n : Nat} {v : Value} {xs : List Value} (h : w.ownsRow lo T 1 v n xs) (hv : ∀ g, v.ownBlock = some g → g < hi) (ht : Touch w w' lo' hi') (hd : hi ≤ lo' ∨ hi' ≤ lo) : w'.ownsRow lo T 1 v n xs := by
  refine ⟨h.1, ?_⟩
  rcases h.2 with h2 | ⟨g, cap, cur, hv2, hg, hh, r⟩
  · exact .inl h2
  · have h3 : g < hi := hv g (by rw [hv2]; rfl)
    exact .inr ⟨g, cap, cur, hv2, hg, by rw [ht.block g (lt_of_block hh) (by omega)]; exact hh, r⟩
theorem setc_grown (w : World) (g j : Nat) (u : Value) : w.grownBy (w.setCell ⟨g, j, none⟩ u) (some g) := ⟨rfl, rfl, rfl, by simp, fun i _ hi => Below.heap_setCell _ _ _ _ (fun e => hi (by simp [e]))⟩
theorem own_some {w : World} {base e n c : Nat} {a : Option Addr} {xs : List Value} (h : w.ownsRow base e 1 (.slice a n c) n xs) (hn : 0 < n) : ∃ g, a = some ⟨g, 0, none⟩ := by
  rcases h.2 with ⟨_, h3⟩ | ⟨g, cap, cur, hv, _⟩
  · omega
  · injection hv with ha _ _; exact ⟨g, ha⟩
theorem enter_put (args : Array Value) (w : World) : (callFunc 63 args).run Try.prog w = .ok (.enter 63 args) w := by kernel_rfl
def putF (base : Nat) : Value := .func (.func 63) #[] #[.pointer (some ⟨base + 3, 0, none⟩), .pointer (some ⟨base, 0, none⟩), .pointer (some ⟨base + 1, 0, none⟩), .pointer (some ⟨base + 4, 0, none⟩)]
/-- What holds while orders are put together: p is the beginning, 'done' was called for. -/
structure PS (S : List (List Int) → World → Prop) (base n K0 : Nat) (caps0 : Array Value) (done : List (List Int)) (p : List Int) (w : World) : Prop where
  s : S done w
  sz : base + 5 ≤ w.heap.size
  bn : Blk w base [.int .i64 n] 2
  bd : Blk w (base + 1) [.func (.func K0) #[] caps0] 70
  bp : Blk w (base + 4) [putF base] 1
  ord : ∃ g c, Blk w (base + 3) [.slice (some ⟨g, 0, none⟩) p.length c] 24 ∧ w.ownsRow (base + 2) 2 1 (.slice (some ⟨g, 0, none⟩) p.length c) p.length (ints p) ∧ g ≠ base + 3 ∧ g ≠ base + 4
section
variable {S : List (List Int) → World → Prop} {base n K0 : Nat} {caps0 : Array Value}
/-- Behind a call that turns only what lies below. -/
theorem PS.called {done done' : List (List Int)} {p : List Int} {w w' : World} (h : PS S base n K0 caps0 done p w) (hs : S done' w') (ht : Touch w w' 0 base) : PS S base n K0 caps0 done' p w' := by
  obtain ⟨g, c, h1, h2, h3, h4⟩ := h.ord
  refine ⟨hs, Nat.le_trans h.sz ht.size, h.bn.touch ht (by omega), h.bd.touch ht (by omega), h.bp.touch ht (by omega), g, c, h1.touch ht (by omega), ?_, h3, h4⟩
  exact own_tch h2 (hi := g + 1) (fun g' hg' => by simp [Value.ownBlock] at hg'; omega) ht (.inr (by omega))
end
theorem permsU_step (n f : Nat) (p : List Int) (k : Nat) : (List.range (k + 1)).flatMap (fun (i : Nat) => if decide ((i : Int) ∈ p) then [] else permsU n f (p ++ [(i : Int)])) = (List.range k).flatMap (fun (i : Nat) => if decide ((i : Int) ∈ p) then [] else permsU n f (p ++ [(i : Int)])) ++ (if decide ((k : Int) ∈ p) then [] else permsU n f (p ++ [(k : Int)])) := by
  rw [List.range_succ, List.flatMap_append]; simp
theorem permsU_mono (n f : Nat) (p : List Int) {k m : Nat} (h : k ≤ m) : ((List.range k).flatMap (fun (i : Nat) => if decide ((i : Int) ∈ p) then [] else permsU n f (p ++ [(i : Int)]))).length ≤ ((List.range m).flatMap (fun (i : Nat) => if decide ((i : Int) ∈ p) then [] else permsU n f (p ++ [(i : Int)]))).length := by
  induction m with
  | zero => have : k = 0 := by omega
            subst this; exact Nat.le_refl _
  | succ m ih =>
    by_cases e : k = m + 1
    · subst e; exact Nat.le_refl _
    · have := ih (by omega)
      rw [permsU_step, List.length_append]; omega
theorem snoc_order {n : Nat} {p : List Int} (h0 : ∀ x ∈ p, 0 ≤ x ∧ x < n) (h1 : p.Nodup) {k : Nat} (hk : k < n) (hp : (k : Int) ∉ p) : (∀ x ∈ p ++ [(k : Int)], 0 ≤ x ∧ x < n) ∧ (p ++ [(k : Int)]).Nodup := by
  refine ⟨fun x hx => ?_, ?_⟩
  · rcases List.mem_append.1 hx with hx | hx
    · exact h0 x hx
    · simp at hx; omega
  · rw [List.nodup_append]
    refine ⟨h1, by simp, fun a ha b hb => ?_⟩
    simp at hb
    subst hb
    intro e; subst e; exact hp ha
set_option maxRecDepth 100000 in
set_option maxHeartbeats 8000000 in
theorem put_any (S : List (List Int) → World → Prop) (base n K0 : Nat) (caps0 : Array Value) (hn : n ≤ 64) (hK : ∀ (args : Array Value) (w : World), (callFunc K0 args).run Try.prog w = .ok (.enter K0 args) w)
    (hS : ∀ done w1 w2, S done w1 → Below base w1 w2 → S done w2)
    (M : Nat) (hdo : ∀ done os w a c, S done w → orderB os n = true → done.length + 1 ≤ M → base ≤ w.heap.size → (∀ x, a = some x → base ≤ x.block) → Rd w w.heap.size a (ints os) → Calls Try.prog K0 (#[.slice a os.length c] ++ caps0) w fun e w' => e = .returned (.tuple #[]) ∧ S (done ++ [os]) w' ∧ Touch w w' 0 base) :
    ∀ (f : Nat) (done : List (List Int)) (p : List Int) (w : World), PS S base n K0 caps0 done p w → p.length + f = n → done.length + (permsU n f p).length ≤ M → (∀ x ∈ p, 0 ≤ x ∧ x < n) → p.Nodup →
      Calls Try.prog 63 #[.pointer (some ⟨base + 3, 0, none⟩), .pointer (some ⟨base, 0, none⟩), .pointer (some ⟨base + 1, 0, none⟩), .pointer (some ⟨base + 4, 0, none⟩)] w fun e w' => e = .returned (.tuple #[]) ∧ PS S base n K0 caps0 (done ++ permsU n f p) p w'
  | 0, done, p, w, h, hl, hM, hp, hnd => by
    obtain ⟨g, c, h1, h2, h3, h4⟩ := h.ord
    have hR : Rd w w.heap.size (some ⟨g, 0, none⟩) (ints p) := rd_of_own h2 (Nat.le_refl _)
    have HD := Lib.hid (hdo done p w (some ⟨g, 0, none⟩) c h.s (orderB_iff.2 ⟨hp, hnd, by omega⟩) (by simpa [permsU] using hM) (by have := h.sz; omega) (fun x hx => by injection hx with hx; subst hx; have := (h2.lt g rfl).1; show base ≤ g; omega) hR)
    have HP := Lib.hid h
    have c1 := h1.cell 0
    have c2 := h.bn.cell 0
    have c3 := h.bd.cell 0
    simp only [List.getElem?_cons_zero] at c1 c2 c3
    have hpl : p.length = n := by omega
    rw [hpl] at c1 HD
    have hKK := Lib.hid hK
    clear hS hdo hp hnd h1 h2 hR h hl hpl hK hM
    have hK := hKK.out
    go_enter Try.func63, Try.ntmps63
    go_wp2_with fail
    refine HD.out.mono ?_
    rintro e w' ⟨rfl, hs, ht⟩
    have HR := Lib.hid (HP.out.called hs ht)
    clear hs ht
    go_wp2_with fail
    first | (refine bodyPost_ret (results_none rfl _ _ _) rfl ?_) | skip
    exact ⟨rfl, HR.out⟩
  | f + 1, done, p, w, h, hl, hM, hp, hnd => by
    have IH := Lib.hid (put_any S base n K0 caps0 hn hK hS M hdo f)
    have HSS := Lib.hid hS
    have HP := Lib.hid h
    have Hp := Lib.hid hp
    have Hnd := Lib.hid hnd
    obtain ⟨g, c, h1, h2, h3, h4⟩ := h.ord
    have c1 := h1.cell 0
    have c2 := h.bn.cell 0
    simp only [List.getElem?_cons_zero] at c1 c2
    have hpl : p.length < n := by omega
    have hl' := Lib.hid hl
    have HM : Hid (∀ k, k < n → (done ++ (List.range k).flatMap (fun (i : Nat) => if decide ((i : Int) ∈ p) then [] else permsU n f (p ++ [(i : Int)]))).length + (if decide ((k : Int) ∈ p) then [] else permsU n f (p ++ [(k : Int)])).length ≤ M) := fun k hk => by
      have e1 := permsU_mono n f p (show k + 1 ≤ n by omega)
      rw [permsU_step, List.length_append] at e1
      rw [List.length_append]
      simp only [permsU] at hM
      omega
    have htst : ((p.length : Int) == (n : Int)) = false := by simp <;> omega
    clear hS hdo hp hnd h1 h2 h3 h4 h hK hl hM
    have hEP := enter_put
    go_enter Try.func63, Try.ntmps63
    go_wp2_with fail
    go_loopw [13] (fun i wr => ∃ k : Nat, k ≤ n ∧ i = .int .i64 k ∧ Hid (PS S base n K0 caps0 (done ++ (List.range k).flatMap (fun (i : Nat) => if decide ((i : Int) ∈ p) then [] else permsU n f (p ++ [(i : Int)]))) p wr)) (fun i _ => n - (intOf i).toNat)
    case atStart => exact ⟨0, Nat.zero_le _, rfl, (show PS S base n K0 caps0 _ p w from by simpa using HP.out)⟩
    case round =>
      clear c1 c2 HP
      obtain ⟨k, hk, rfl, HP⟩ := hrel
      by_cases hlt : k < n
      · obtain ⟨g, c, h1, h2, h3, h4⟩ := HP.out.ord
        have c1 := h1.cell 0
        have c3 := HP.out.bp.cell 0
        simp only [List.getElem?_cons_zero, putF] at c1 c3
        have hR : Rd wr wr.heap.size (some ⟨g, 0, none⟩) (ints p) := rd_of_own h2 (Nat.le_refl _)
        have LC := Lib.hid (contains_any wr (some ⟨g, 0, none⟩) c p k hR (by omega))
        by_cases hin : (k : Int) ∈ p
        · rw [containsI_iff.2 hin] at LC
          have HN : Hid (PS S base n K0 caps0 (done ++ (List.range (k + 1)).flatMap (fun (i : Nat) => if decide ((i : Int) ∈ p) then [] else permsU n f (p ++ [(i : Int)]))) p wr) := by
            rw [permsU_step, decide_eq_true hin, if_pos rfl, List.append_nil]; exact HP.out
          clear h1 h2 h3 h4 hR HP hin c3
          go_wp2_with fail
          refine LC.out.mono ?_
          rintro e w' ⟨rfl, rfl⟩
          go_wp2_with fail
          go_roundw
          case rel => exact ⟨k + 1, by omega, by go_num, HN⟩
          case measure => simp [intOf]; omega
        · have hcf : containsI p k = false := by rw [← Bool.not_eq_true, containsI_iff]; exact hin
          rw [hcf] at LC
          have Hin := Lib.hid hin
          obtain ⟨so1, so2⟩ := snoc_order Hp.out Hnd.out hlt hin
          have So1 := Lib.hid so1
          have So2 := Lib.hid so2
          have H1 := Lib.hid h1
          have H2 := Lib.hid h2
          have hsz := HP.out.sz
          clear h1 h2 hR hin hcf so1 so2
          go_wp2_with fail
          refine LC.out.mono ?_
          rintro e w' ⟨rfl, rfl⟩
          clear LC
          have ho := H2.out
          go_wp2_with (at_builtin; refine wpList_append_blk _ rfl _ _ 24 rfl (base + 2) 2 (.int .i64 0) 8 Try.underlying24 info_i64p rfl _ p.length _ rfl ho (.int .i64 k) rfl rfl (by omega) (by omega) (by omega) ?_)
          intro v' w1 ho1 hgr hnew
          have hsz1 := hgr.size
          have hne : ∀ q, q < base + 5 → q ≠ g → some q ≠ (Value.slice (some ⟨g, 0, none⟩) p.length c).ownBlock := fun q _ hq e => by simp [Value.ownBlock] at e; exact hq e
          have hg0 : base + 2 ≤ g := (ho.lt g rfl).1
          have hb4 := H1.out.grown hgr (hne _ (by omega) (by omega))
          have hbn := HP.out.bn.grown hgr (hne _ (by omega) (by omega))
          have hbd := HP.out.bd.grown hgr (hne _ (by omega) (by omega))
          have hbp := HP.out.bp.grown hgr (hne _ (by omega) (by omega))
          have hbl : Below base wr w1 := below_of_grown hgr (by omega) (fun q hq => by simp [Value.ownBlock] at hq; omega)
          have hs1 := HSS.out _ _ _ HP.out.s hbl
          obtain ⟨a1, c1', rfl, hnc, _⟩ := own_shape ho1
          obtain ⟨g1, rfl⟩ := own_some ho1 (by omega)
          have hg3 : g1 ≠ base + 3 := fun e => hnew (base + 3) (by omega) (hne _ (by omega) (by omega)) (by simp [Value.ownBlock, e])
          have hg4 : g1 ≠ base + 4 := fun e => hnew (base + 4) (by omega) (hne _ (by omega) (by omega)) (by simp [Value.ownBlock, e])
          have hg2 : base + 2 ≤ g1 := (ho1.lt g1 rfl).1
          rw [show ints p ++ [Value.int .i64 k] = ints (p ++ [(k : Int)]) from by rw [ints_append]; rfl] at ho1
          have epl : Hid (p.length + 1 = (p ++ [(k : Int)]).length) := by simp [Hid]
          have d1 := hb4.cell 0
          have d2 := hb4.free 0
          have d3 := hbp.cell 0
          simp only [List.getElem?_cons_zero, putF] at d1 d3
          have hput : ∀ v, PS S base n K0 caps0 (done ++ (List.range k).flatMap (fun (i : Nat) => if decide ((i : Int) ∈ p) then [] else permsU n f (p ++ [(i : Int)]))) (p ++ [(k : Int)]) (w1.setCell ⟨base + 3, 0, none⟩ v) ∨ v ≠ .slice (some ⟨g1, 0, none⟩) (p.length + 1) c1' := by
            intro v
            by_cases hv : v = .slice (some ⟨g1, 0, none⟩) (p.length + 1) c1'
            · left
              subst hv
              refine ⟨HSS.out _ _ _ hs1 (below_sto (Below.refl _ _) (g := base + 3) (by omega) 0 _), by simp <;> omega, hbn.oth (by omega) _ _, hbd.oth (by omega) _ _, hbp.oth (by omega) _ _, g1, c1', ?_, ?_, hg3, hg4⟩
              · rw [← epl.out]; exact hb4.set 0 _
              · rw [← epl.out]
                exact ho1.kept (setc_grown w1 (base + 3) 0 _) (.inr (by simp [Value.ownBlock]; exact hg3))
            · exact .inr hv
          have HPut := Lib.hid ((hput (.slice (some ⟨g1, 0, none⟩) (p.length + 1) c1')).resolve_right (fun h => h rfl))
          have LI := Lib.hid (IH.out _ _ _ HPut.out (by rw [List.length_append, List.length_singleton]; have := hl'.out; omega) (by have := HM.out k hlt; rw [decide_eq_false Hin.out, if_neg (by simp)] at this; exact this) So1.out So2.out)
          clear hput hs1 hbl hbn hbd hbp hb4 ho1 hgr hnew ho hne HPut c1 c3 H1 H2
          go_wp2_with fail
          refine LI.out.mono ?_
          rintro e w2 ⟨rfl, HQ⟩
          obtain ⟨g2, c2', k1, k2, k3, k4⟩ := HQ.ord
          rw [← epl.out] at k1 k2
          have d1 := k1.cell 0
          have d2 := k1.free 0
          simp only [List.getElem?_cons_zero] at d1
          have hnc2 : p.length + 1 ≤ c2' := by
            obtain ⟨_, _, e, hh, _⟩ := own_shape k2
            injection e with _ _ e3; omega
          have HN : Hid (PS S base n K0 caps0 (done ++ (List.range (k + 1)).flatMap (fun (i : Nat) => if decide ((i : Int) ∈ p) then [] else permsU n f (p ++ [(i : Int)]))) p (w2.setCell ⟨base + 3, 0, none⟩ (.slice (some ⟨g2, 0, none⟩) p.length c2'))) := by
            rw [permsU_step, decide_eq_false Hin.out, if_neg (by simp), ← List.append_assoc]
            refine ⟨HSS.out _ _ _ HQ.s (below_sto (Below.refl _ _) (g := base + 3) (by omega) 0 _), by simp; exact HQ.sz, HQ.bn.oth (by omega) _ _, HQ.bd.oth (by omega) _ _, HQ.bp.oth (by omega) _ _, g2, c2', k1.set 0 _, ?_, k3, k4⟩
            rw [ints_append] at k2
            exact (own_cut k2 (by simp)).kept (setc_grown w2 (base + 3) 0 _) (.inr (by simp [Value.ownBlock]; exact k3))
          clear k1 k2 HQ LI HP
          go_wp2_with fail
          go_roundw
          case rel => exact ⟨k + 1, by omega, by go_num, HN⟩
          case measure => simp [intOf]; omega
      · have : k = n := by omega
        subst this
        have HF : Hid (PS S base k K0 caps0 (done ++ permsU k (f + 1) p) p wr) := HP.out
        clear HP
        go_wp2_with fail
        go_end0
        exact ⟨rfl, HF.out⟩
set_option maxRecDepth 100000 in
set_option maxHeartbeats 4000000 in
theorem permute_any (S : List (List Int) → World → Prop) (n K0 : Nat) (caps0 : Array Value) (hn : n ≤ 64) (hK : ∀ (args : Array Value) (w : World), (callFunc K0 args).run Try.prog w = .ok (.enter K0 args) w) (w : World)
    (hS : ∀ done w1 w2, S done w1 → Below w.heap.size w1 w2 → S done w2) (hdo : ∀ done os w' a c, S done w' → orderB os n = true → done.length + 1 ≤ (permsU n n []).length → w.heap.size ≤ w'.heap.size → (∀ x, a = some x → w.heap.size ≤ x.block) → Rd w' w'.heap.size a (ints os) → Calls Try.prog K0 (#[.slice a os.length c] ++ caps0) w' fun e w'' => e = .returned (.tuple #[]) ∧ S (done ++ [os]) w'' ∧ Touch w' w'' 0 w.heap.size) (h0 : S [] w) :
    Calls Try.prog 51 #[.int .i64 n, .func (.func K0) #[] caps0] w fun e w' => e = .returned (.tuple #[]) ∧ S (permsU n n []) w' := by
  have LP := Lib.hid (fun w' h => put_any S w.heap.size n K0 caps0 hn hK hS _ hdo n [] [] w' h (by simp) (by simp) (by simp) (by simp))
  have HSS := Lib.hid hS
  have H0 := Lib.hid h0
  clear hS hdo h0 hK
  have hEP := enter_put
  go_enter Try.func51, Try.ntmps51
  go_wp2_with fail
  refine (LP.out _ ?_).mono ?_
  · refine ⟨HSS.out _ _ _ H0.out ?_, by simp <;> omega, ?_, ?_, ?_, w.heap.size + 2, 0, ?_, ?_, by omega, by omega⟩
    · exact ((((bl1 w _).alloc (by simp) _).alloc (by simp <;> omega) _).alloc (by simp <;> omega) _).alloc (by simp <;> omega) _
    · exact ((((Blk.new w _ _).alloc _).alloc _).alloc _).alloc _
    · have := (((Blk.new (w.alloc (.cells #[.int .i64 n] 2)) [.func (.func K0) #[] caps0] 70).alloc (.cells #[] 2)).alloc (.cells #[.slice (some ⟨w.heap.size + 2, 0, none⟩) 0 0] 24)).alloc (.cells #[putF w.heap.size] 1)
      simpa [putF] using this
    · have := Blk.new ((((w.alloc (.cells #[.int .i64 n] 2)).alloc (.cells #[.func (.func K0) #[] caps0] 70)).alloc (.cells #[] 2)).alloc (.cells #[.slice (some ⟨w.heap.size + 2, 0, none⟩) 0 0] 24)) [putF w.heap.size] 1
      simpa [putF] using this
    · have := (Blk.new (((w.alloc (.cells #[.int .i64 n] 2)).alloc (.cells #[.func (.func K0) #[] caps0] 70)).alloc (.cells #[] 2)) [.slice (some ⟨w.heap.size + 2, 0, none⟩) 0 0] 24).alloc (.cells #[putF w.heap.size] 1)
      simpa [putF] using this
    · have := ((own_empty ((w.alloc (.cells #[.int .i64 n] 2)).alloc (.cells #[.func (.func K0) #[] caps0] 70)) 2).alloc (.cells #[.slice (some ⟨w.heap.size + 2, 0, none⟩) 0 0] 24)).alloc (.cells #[putF w.heap.size] 1)
      simpa [putF] using this
  rintro e w' ⟨rfl, hp⟩
  have HR : Hid (S (permsU n n []) w') := by show S _ _; have := hp.s; simpa using this
  clear hp
  go_wp2_with fail
  go_end0
  exact ⟨rfl, HR.out⟩
end Go.Proofs.Ytkapjlkeohjjbaa
namespace Go.Proofs.Ytkapjlkeohjjbaa
set_option linter.unusedVariables false
set_option linter.unusedSimpArgs false
open Go.RowKit

theorem info_i64 : (Try.prog.info? 2).map (fun i => (i.zero, i.size, i.bytes)) = some (some (.int .i64 0), 1, 8) := by kernel_rfl

def szF (left : Int) (n : Nat) : Int := if left < n then -1 else left - n

/-- What the marks are: k, k + 1, and so on. -/
def marks (n : Nat) (k : Int) : List Int := (List.range n).map fun (i : Nat) => k + (i : Int)
@[simp] theorem marks_length (n : Nat) (k : Int) : (marks n k).length = n := by simp [marks]
theorem marks_get (n : Nat) (k : Int) (i : Nat) (h : i < n) : (marks n k)[i]? = some (k + i) := by simp [marks, h]

theorem mark_step (xs : List Int) (rest : List Value) (k : Int) (j : Nat) (h : j < xs.length) :
    (ints ((marks j k) ++ xs.drop j) ++ rest).set j (.int .i64 (k + j)) = ints (marks (j + 1) k ++ xs.drop (j + 1)) ++ rest := by
  rw [List.set_append_left _ _ (by simp; omega), ← ints_set, List.set_append_right _ _ (by simp), marks_length, Nat.sub_self, List.drop_eq_getElem_cons h, List.set_cons_zero]
  simp [marks, List.range_succ]

/-- A call that answers with a new list or with a no, in terms of stretches. -/
theorem flat_of {f : Nat} {args : Array Value} {w : World} {T : Nat} {r : Option (List Int)} (h : Calls Try.prog f args w (RetI T w r)) :
    Calls Try.prog f args w fun e w' => ∃ a c, e = .returned (.tuple #[.slice a (r.getD []).length c, .bool r.isSome]) ∧ OwnI T w' w.heap.size w'.heap.size a c (r.getD []) ∧ Below w.heap.size w w' :=
  h.mono fun e w' hR => let ⟨hb, a, c, he, ho⟩ := hR.flat; ⟨a, c, he, OwnI.of_own ho, hb⟩
end Go.Proofs.Ytkapjlkeohjjbaa
namespace Go.Proofs.Ytkapjlkeohjjbaa
set_option linter.unusedVariables false
set_option linter.unusedSimpArgs false
open Go.RowKit

def RetT (T : Nat) (w : World) (r : Option (List Int × Int)) (e : Ending) (w' : World) : Prop :=
  Below w.heap.size w w' ∧ match r with
    | none => e = .returned (.tuple #[.slice none 0 0, .int .i64 0, .bool false])
    | some (ys, m) => ∃ a c, e = .returned (.tuple #[.slice a ys.length c, .int .i64 m, .bool true]) ∧ w'.ownsRow w.heap.size T 1 (.slice a ys.length c) ys.length (ints ys)
theorem RetT.no {T : Nat} {w w' : World} (h : Below w.heap.size w w') : RetT T w none (.returned (.tuple #[.slice none 0 0, .int .i64 0, .bool false])) w' := ⟨h, rfl⟩
theorem flat_ofT {f : Nat} {args : Array Value} {w : World} {T : Nat} {r : Option (List Int × Int)} (h : Calls Try.prog f args w (RetT T w r)) :
    Calls Try.prog f args w fun e w' => ∃ a c, e = .returned (.tuple #[.slice a ((r.map Prod.fst).getD []).length c, .int .i64 ((r.map Prod.snd).getD 0), .bool r.isSome]) ∧ OwnI T w' w.heap.size w'.heap.size a c ((r.map Prod.fst).getD []) ∧ Below w.heap.size w w' := by
  refine h.mono fun e w' hR => ?_
  obtain ⟨hb, h2⟩ := hR
  cases r with
  | none => exact ⟨none, 0, h2, OwnI.of_own (World.ownsRow_nil _ _ _ _), hb⟩
  | some p =>
    obtain ⟨ys, m⟩ := p
    obtain ⟨a, c, he, ho⟩ := h2
    exact ⟨a, c, he, OwnI.of_own ho, hb⟩
end Go.Proofs.Ytkapjlkeohjjbaa
