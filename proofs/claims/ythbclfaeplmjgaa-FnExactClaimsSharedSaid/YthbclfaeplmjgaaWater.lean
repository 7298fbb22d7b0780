/-
  Equal gains: what one level gives to all is told by its sum alone; both roads come to it.
-/
import Derived.Test.YthbclfaeplmjgaaRestW
namespace Go.Proofs.Ythbclfaeplmjgaa
set_option linter.unusedVariables false
set_option linter.unusedSimpArgs false
open Go.RowKit

def sumN (f : Nat → Int) : Nat → Int
  | 0 => 0
  | k + 1 => sumN f k + f k
theorem sumN_congr {f g : Nat → Int} : ∀ {n : Nat}, (∀ i, i < n → f i = g i) → sumN f n = sumN g n
  | 0, _ => rfl
  | n + 1, h => by rw [sumN, sumN, sumN_congr (n := n) (fun i hi => h i (by omega)), h n (by omega)]
theorem sumN_le {f g : Nat → Int} : ∀ {n : Nat}, (∀ i, i < n → f i ≤ g i) → sumN f n ≤ sumN g n
  | 0, _ => Int.le_refl _
  | n + 1, h => by have := sumN_le (n := n) (fun i hi => h i (by omega)); have := h n (by omega); simp only [sumN]; omega
theorem sumN_eq {f g : Nat → Int} : ∀ {n : Nat}, (∀ i, i < n → f i ≤ g i) → sumN f n = sumN g n → ∀ i, i < n → f i = g i
  | 0, _, _, i, hi => by omega
  | n + 1, h, e, i, hi => by
    have h1 := sumN_le (n := n) (fun i hi => h i (by omega))
    have h2 := h n (by omega)
    simp only [sumN] at e
    by_cases hin : i = n
    · subst hin; omega
    · exact sumN_eq (n := n) (fun i hi => h i (by omega)) (by omega) i (by omega)
theorem sumN_upd {f g : Nat → Int} {d : Int} {q : Nat} : ∀ {n : Nat}, q < n → (∀ i, i < n → i ≠ q → g i = f i) → g q = f q + d → sumN g n = sumN f n + d
  | 0, h, _, _ => by omega
  | n + 1, h, h1, h2 => by
    simp only [sumN]
    by_cases e : q = n
    · subst e
      rw [sumN_congr (f := g) (g := f) (fun i hi => h1 i (by omega) (by omega)), h2]; omega
    · rw [sumN_upd (n := n) (by omega) (fun i hi => h1 i (by omega)) h2, h1 n (by omega) (by omega)]; omega
theorem sumN_add (f g : Nat → Int) : ∀ n, sumN (fun i => f i + g i) n = sumN f n + sumN g n
  | 0 => rfl
  | n + 1 => by simp only [sumN]; rw [sumN_add f g n]; omega
theorem sumN_mul (c : Int) (f : Nat → Int) : ∀ n, sumN (fun i => c * f i) n = c * sumN f n
  | 0 => by simp [sumN]
  | n + 1 => by simp only [sumN]; rw [sumN_mul c f n, Int.mul_add]
theorem sumN_list (xs : List Int) : sumN (fun i => xs.getD i 0) xs.length = xs.sum := by
  have : ∀ k, k ≤ xs.length → sumN (fun i => xs.getD i 0) k = (xs.take k).sum := by
    intro k
    induction k with
    | zero => intro _; simp [sumN]
    | succ k ih =>
      intro hk
      rw [sumN, ih (by omega), take_succ_getD xs k (by omega), List.sum_append]
      simp
  rw [this _ (Nat.le_refl _), List.take_length]

/-- What one level gives. -/
def Level (cs : List Int) (est : Int) (out : List Int) : Prop := out.length = cs.length ∧ sumN (fun i => out.getD i 0) cs.length = est ∧ ∃ lam : Int, ∀ i, i < cs.length → out.getD i 0 = min (cs.getD i 0) lam
theorem level_unique {cs : List Int} {est : Int} {o1 o2 : List Int} (h1 : Level cs est o1) (h2 : Level cs est o2) : o1 = o2 := by
  obtain ⟨l1, s1, m1, e1⟩ := h1
  obtain ⟨l2, s2, m2, e2⟩ := h2
  have key : ∀ i, i < cs.length → o1.getD i 0 = o2.getD i 0 := by
    by_cases hm : m1 ≤ m2
    · exact sumN_eq (f := fun i => o1.getD i 0) (g := fun i => o2.getD i 0) (n := cs.length) (fun i hi => by show o1.getD i 0 ≤ o2.getD i 0; rw [e1 i hi, e2 i hi]; omega) (by rw [s1, s2])
    · intro i hi
      exact (sumN_eq (f := fun i => o2.getD i 0) (g := fun i => o1.getD i 0) (n := cs.length) (fun i hi => by show o2.getD i 0 ≤ o1.getD i 0; rw [e1 i hi, e2 i hi]; omega) (by rw [s1, s2]) i hi).symm
  apply List.ext_getElem (by omega)
  intro i h1 h2
  have := key i (by omega)
  simpa [List.getD, List.getElem?_eq_getElem h1, List.getElem?_eq_getElem h2] using this

/-! The road over the ones in order. -/
def gainS (cs os : List Int) (est : Int) : Nat → List Int × Int
  | 0 => (List.replicate cs.length 0, est)
  | k + 1 => ((gainS cs os est k).1.set (os.getD k 0).toNat (min (cs.getD (os.getD k 0).toNat 0) ((gainS cs os est k).2 / ((os.length : Int) - k))), (gainS cs os est k).2 - min (cs.getD (os.getD k 0).toNat 0) ((gainS cs os est k).2 / ((os.length : Int) - k)))
def ascLt (cs : List Int) (i k : Int) : Bool := decide (cs.getD i.toNat 0 < cs.getD k.toNat 0)
def ascF (cs : List Int) : List Int := stab (ascLt cs) (upto cs.length)
def gainF (cs : List Int) (est : Int) : List Int := (gainS cs (ascF cs) est cs.length).1
theorem gainS_len (cs os : List Int) (est : Int) : ∀ k, (gainS cs os est k).1.length = cs.length
  | 0 => by simp [gainS]
  | k + 1 => by simp [gainS, gainS_len cs os est k]
theorem foldl_asc (cs : List Int) : ∀ (xs p : List Int), p.Pairwise (fun a b => cs.getD b.toNat 0 ≤ cs.getD a.toNat 0) → (xs.foldl (fun p x => insRv (ascLt cs) x p) p).Pairwise (fun a b => cs.getD b.toNat 0 ≤ cs.getD a.toNat 0)
  | [], _, hp => hp
  | x :: xs, p, hp => foldl_asc cs xs _ (insRv_pairwise (ascLt cs) (fun a b => cs.getD a.toNat 0 ≤ cs.getD b.toNat 0) (fun _ _ _ h1 h2 => Int.le_trans h1 h2) x p hp (fun y _ =>
      ⟨fun h => by have := of_decide_eq_true h; omega, fun h => by have := of_decide_eq_false h; omega⟩))
theorem ascF_pairwise (cs : List Int) : (ascF cs).Pairwise (fun a b => cs.getD a.toNat 0 ≤ cs.getD b.toNat 0) := by
  unfold ascF stab
  rw [List.pairwise_reverse]
  exact foldl_asc cs _ [] (by simp)
theorem ascF_perm (cs : List Int) : (ascF cs).Perm (upto cs.length) := stab_perm _ _
theorem ascF_length (cs : List Int) : (ascF cs).length = cs.length := by rw [ascF, stab_length, upto_length]
theorem ascF_mem {cs : List Int} {x : Int} : x ∈ ascF cs ↔ 0 ≤ x ∧ x < cs.length := by rw [(ascF_perm cs).mem_iff, mem_upto]
theorem upto_nodup (n : Nat) : (upto n).Nodup := by
  rw [List.nodup_iff_pairwise_ne]
  exact (upto_sorted n).imp fun h e => by omega
theorem ascF_nodup (cs : List Int) : (ascF cs).Nodup := (ascF_perm cs).nodup_iff.2 (upto_nodup _)
theorem ascF_get {cs : List Int} {t : Nat} (h : t < cs.length) : ∃ q : Nat, (ascF cs)[t]? = some (q : Int) ∧ q < cs.length := by
  have hl : t < (ascF cs).length := by rw [ascF_length]; exact h
  have := ascF_mem.1 (List.getElem_mem hl)
  exact ⟨(ascF cs)[t].toNat, by rw [List.getElem?_eq_getElem hl]; congr 1; omega, by omega⟩
theorem nodup_get {xs : List Int} (h : xs.Nodup) {i j : Nat} {x : Int} (hi : xs[i]? = some x) (hj : xs[j]? = some x) : i = j := by
  obtain ⟨h1, e1⟩ := List.getElem?_eq_some_iff.1 hi
  obtain ⟨h2, e2⟩ := List.getElem?_eq_some_iff.1 hj
  have hp := List.pairwise_iff_getElem.1 (List.nodup_iff_pairwise_ne.1 h)
  refine Classical.byContradiction fun hne => ?_
  by_cases hlt : i < j
  · exact hp i j h1 h2 hlt (e1.trans e2.symm)
  · exact hp j i h2 h1 (by omega) (e2.trans e1.symm)
theorem div_exact {E : Int} {m : Nat} (hm : 1 ≤ m) (hm8 : m ≤ 8) (hE : E % 840 = 0) : E = (m : Int) * (E / m) := by
  have : m = 1 ∨ m = 2 ∨ m = 3 ∨ m = 4 ∨ m = 5 ∨ m = 6 ∨ m = 7 ∨ m = 8 := by omega
  rcases this with rfl | rfl | rfl | rfl | rfl | rfl | rfl | rfl <;> omega
theorem getD_set_self {xs : List Int} {q : Nat} (h : q < xs.length) (v : Int) : (xs.set q v).getD q 0 = v := by simp [List.getD, h]
theorem getD_set_ne {xs : List Int} {q i : Nat} (h : i ≠ q) (v : Int) : (xs.set q v).getD i 0 = xs.getD i 0 := by
  simp only [List.getD_eq_getElem?_getD]
  rw [List.getElem?_set_ne (by omega)]

structure GainInv (cs : List Int) (est : Int) (t : Nat) (out : List Int) (E : Int) : Prop where
  sum : sumN (fun i => out.getD i 0) cs.length + E = est
  pos : 0 ≤ E
  later : ∀ j (q : Nat), t ≤ j → (ascF cs)[j]? = some (q : Int) → out.getD q 0 = 0
  two : (E % 840 = 0 ∧ ∀ j (q : Nat), j < t → (ascF cs)[j]? = some (q : Int) → out.getD q 0 = cs.getD q 0 ∧ ((cs.length : Int) - t) * cs.getD q 0 ≤ E) ∨
    (∃ lam : Int, 0 ≤ lam ∧ E = ((cs.length : Int) - t) * lam ∧ (∀ j (q : Nat), j < t → (ascF cs)[j]? = some (q : Int) → out.getD q 0 = min (cs.getD q 0) lam) ∧ ∀ j (q : Nat), t ≤ j → (ascF cs)[j]? = some (q : Int) → lam ≤ cs.getD q 0)
theorem asc_le {cs : List Int} {i j p q : Nat} (hij : i < j) (hi : (ascF cs)[i]? = some (p : Int)) (hj : (ascF cs)[j]? = some (q : Int)) : cs.getD p 0 ≤ cs.getD q 0 := by
  obtain ⟨h1, e1⟩ := List.getElem?_eq_some_iff.1 hi
  obtain ⟨h2, e2⟩ := List.getElem?_eq_some_iff.1 hj
  have := List.pairwise_iff_getElem.1 (ascF_pairwise cs) i j h1 h2 hij
  rw [e1, e2] at this
  simpa using this
theorem gain_inv {cs : List Int} {est : Int} (hn : cs.length ≤ 8) (hc : ∀ x ∈ cs, 0 ≤ x ∧ x % 840 = 0) (h0 : 0 ≤ est) (hd : est % 840 = 0) :
    ∀ t, t ≤ cs.length → GainInv cs est t (gainS cs (ascF cs) est t).1 (gainS cs (ascF cs) est t).2
  | 0, _ => by
    refine ⟨?_, h0, ?_, .inl ⟨hd, fun j q hj => by omega⟩⟩
    · rw [sumN_congr (g := fun _ => 0) (fun i hi => by simp [gainS, List.getD, hi])]
      have : ∀ n, sumN (fun _ => (0 : Int)) n = 0 := fun n => by induction n with | zero => rfl | succ n ih => rw [sumN, ih]; rfl
      rw [this]; simp [gainS]
    · intro j q _ hq
      have := ascF_mem.1 (List.mem_of_getElem? hq)
      simp [gainS, List.getD, show q < cs.length by omega]
  | t + 1, ht => by
    have ih := gain_inv hn hc h0 hd t (by omega)
    obtain ⟨q, hq, hqn⟩ := ascF_get (cs := cs) (t := t) (by omega)
    have hl := gainS_len cs (ascF cs) est t
    have hcq : 0 ≤ cs.getD q 0 ∧ cs.getD q 0 % 840 = 0 := hc _ (List.mem_of_getElem? (get_of_lt hqn))
    have e1 : (gainS cs (ascF cs) est (t + 1)).1 = (gainS cs (ascF cs) est t).1.set q (min (cs.getD q 0) ((gainS cs (ascF cs) est t).2 / ((cs.length : Int) - t))) := by
      show (gainS cs (ascF cs) est t).1.set ((ascF cs).getD t 0).toNat _ = _
      rw [getD_of_get hq, Int.toNat_natCast, ascF_length]
    have e2 : (gainS cs (ascF cs) est (t + 1)).2 = (gainS cs (ascF cs) est t).2 - min (cs.getD q 0) ((gainS cs (ascF cs) est t).2 / ((cs.length : Int) - t)) := by
      show (gainS cs (ascF cs) est t).2 - min (cs.getD ((ascF cs).getD t 0).toNat 0) _ = _
      rw [getD_of_get hq, Int.toNat_natCast, ascF_length]
    rw [e1, e2]
    generalize (gainS cs (ascF cs) est t).1 = out at *
    generalize (gainS cs (ascF cs) est t).2 = E at *
    obtain ⟨i1, i3, i4, i5⟩ := ih
    obtain ⟨m, hm⟩ : ∃ m : Nat, (cs.length : Int) - t = m := ⟨cs.length - t, by omega⟩
    have hm1 : 1 ≤ m := by omega
    have hm2 : (cs.length : Int) - ((t + 1 : Nat) : Int) = m - 1 := by omega
    rw [hm]
    rw [hm] at i5
    have hex : E = (m : Int) * (E / m) := by
      rcases i5 with ⟨i2, _⟩ | ⟨lam, l0, lE, _⟩
      · exact div_exact hm1 (by omega) i2
      · rw [lE, Int.mul_ediv_cancel_left _ (by omega)]
    generalize hL : E / (m : Int) = L at *
    have hL0 : 0 ≤ L := by rw [← hL]; exact Int.ediv_nonneg i3 (by omega)
    have hq0 := i4 t q (Nat.le_refl _) hq
    have hne : ∀ j (r : Nat), j ≠ t → (ascF cs)[j]? = some (r : Int) → r ≠ q := fun j r hj hr e => hj (by subst e; exact nodup_get (ascF_nodup cs) hr hq)
    have hmL : (m : Int) * L = (m - 1) * L + L := by rw [Int.sub_mul]; simp
    have hm1L : 0 ≤ ((m : Int) - 1) * L := Int.mul_nonneg (by omega) hL0
    have hself : ∀ v, (out.set q v).getD q 0 = v := fun v => getD_set_self (by omega) v
    refine ⟨?_, by omega, ?_, ?_⟩
    · have := sumN_upd (f := fun i => out.getD i 0) (g := fun i => (out.set q (min (cs.getD q 0) L)).getD i 0) (d := min (cs.getD q 0) L) (q := q) (n := cs.length) hqn (fun i _ hi => getD_set_ne hi _) (by
        show (out.set q _).getD q 0 = out.getD q 0 + _
        rw [hself, hq0]; omega)
      rw [this]; omega
    · intro j r hj hr
      rw [getD_set_ne (hne j r (by omega) hr)]
      exact i4 j r (by omega) hr
    · rw [hm2]
      rcases i5 with ⟨i2, i5⟩ | ⟨lam, l0, lE, lb, la⟩
      · by_cases hcL : cs.getD q 0 ≤ L
        · refine .inl ⟨by rw [Int.min_eq_left hcL]; omega, fun j r hj hr => ?_⟩
          rw [Int.min_eq_left hcL]
          have hcm : ((m : Int) - 1) * cs.getD q 0 + cs.getD q 0 ≤ E := by
            have h1 : (m : Int) * cs.getD q 0 ≤ m * L := Int.mul_le_mul_of_nonneg_left hcL (by omega)
            have h2 : ((m : Int) - 1) * cs.getD q 0 = m * cs.getD q 0 - cs.getD q 0 := by rw [Int.sub_mul]; simp
            omega
          by_cases hjt : j = t
          · subst hjt
            have : r = q := by rw [hq] at hr; injection hr with hr; omega
            subst this
            exact ⟨hself _, by omega⟩
          · rw [getD_set_ne (hne j r hjt hr)]
            refine ⟨(i5 j r (by omega) hr).1, ?_⟩
            have h1 := asc_le (show j < t by omega) hr hq
            have h2 : ((m : Int) - 1) * cs.getD r 0 ≤ (m - 1) * cs.getD q 0 := Int.mul_le_mul_of_nonneg_left h1 (by omega)
            omega
        · refine .inr ⟨L, hL0, by rw [Int.min_eq_right (by omega)]; omega, fun j r hj hr => ?_, fun j r hj hr => ?_⟩
          · by_cases hjt : j = t
            · subst hjt
              have : r = q := by rw [hq] at hr; injection hr with hr; omega
              subst this
              exact hself _
            · rw [getD_set_ne (hne j r hjt hr)]
              obtain ⟨h1, h2⟩ := i5 j r (by omega) hr
              rw [h1]
              have : cs.getD r 0 ≤ L := Int.le_of_mul_le_mul_left (by omega : (m : Int) * cs.getD r 0 ≤ m * L) (by omega)
              omega
          · have := asc_le (show t < j by omega) hq hr
            omega
      · have hLl : L = lam := by rw [← hL, lE, Int.mul_ediv_cancel_left _ (by omega)]
        subst hLl
        have hcq2 := la t q (Nat.le_refl _) hq
        refine .inr ⟨L, l0, by rw [Int.min_eq_right hcq2]; omega, fun j r hj hr => ?_, fun j r hj hr => la j r (by omega) hr⟩
        by_cases hjt : j = t
        · subst hjt
          have : r = q := by rw [hq] at hr; injection hr with hr; omega
          subst this
          exact hself _
        · rw [getD_set_ne (hne j r hjt hr)]
          exact lb j r (by omega) hr
theorem sum_nonneg : ∀ zs : List Int, (∀ x ∈ zs, 0 ≤ x) → 0 ≤ zs.sum
  | [], _ => by simp
  | b :: zs, h => by have := h b (by simp); have := sum_nonneg zs (fun x hx => h x (by simp [hx])); simp only [List.sum_cons]; omega
theorem mem_le_sum : ∀ (ys : List Int), (∀ x ∈ ys, 0 ≤ x) → ∀ y ∈ ys, y ≤ ys.sum
  | [], _, y, hy => by simp at hy
  | a :: ys, h, y, hy => by
    have h0 := sum_nonneg ys (fun x hx => h x (by simp [hx]))
    have ha := h a (by simp)
    simp only [List.sum_cons]
    rcases List.mem_cons.1 hy with rfl | hy
    · omega
    · have := mem_le_sum ys (fun x hx => h x (by simp [hx])) y hy; omega
theorem gain_level {cs : List Int} {est : Int} (hn : cs.length ≤ 8) (hc : ∀ x ∈ cs, 0 ≤ x ∧ x % 840 = 0) (h0 : 0 ≤ est) (h1 : est ≤ cs.sum) (hd : est % 840 = 0) : Level cs est (gainF cs est) := by
  obtain ⟨i1, i3, i4, i5⟩ := gain_inv hn hc h0 hd cs.length (Nat.le_refl _)
  have hl : (gainF cs est).length = cs.length := gainS_len cs (ascF cs) est cs.length
  have hat : ∀ i, i < cs.length → ∃ j, j < cs.length ∧ (ascF cs)[j]? = some (i : Int) := by
    intro i hi
    have : (i : Int) ∈ ascF cs := ascF_mem.2 ⟨by omega, by omega⟩
    obtain ⟨j, hj, e⟩ := List.getElem_of_mem this
    exact ⟨j, by rw [ascF_length] at hj; exact hj, by rw [List.getElem?_eq_getElem hj, e]⟩
  show Level cs est (gainS cs (ascF cs) est cs.length).1
  unfold gainF at hl
  generalize (gainS cs (ascF cs) est cs.length).1 = out at *
  generalize (gainS cs (ascF cs) est cs.length).2 = E at *
  rcases i5 with ⟨_, h⟩ | ⟨lam, l0, lE, lb, _⟩
  · have hs : sumN (fun i => out.getD i 0) cs.length = cs.sum := by
      rw [← sumN_list]
      exact sumN_congr fun i hi => by obtain ⟨j, hj, e⟩ := hat i hi; exact (h j i hj e).1
    refine ⟨hl, by omega, cs.sum, fun i hi => ?_⟩
    obtain ⟨j, hj, e⟩ := hat i hi
    rw [(h j i hj e).1]
    have hle : cs.getD i 0 ≤ cs.sum := by
      have hm : cs.getD i 0 ∈ cs := List.mem_of_getElem? (get_of_lt hi)
      exact mem_le_sum cs (fun x hx => (hc x hx).1) _ hm
    omega
  · refine ⟨hl, by rw [Int.sub_self, Int.zero_mul] at lE; omega, lam, fun i hi => ?_⟩
    obtain ⟨j, hj, e⟩ := hat i hi
    exact lb j i hj e
end Go.Proofs.Ythbclfaeplmjgaa
