/-
  Seats by remainders: the plain function, and that choosing the greatest remainder again and again follows the stable order.
-/
import Derived.Test.YthofpfnccgfohaaSort
import Derived.Test.YthofpfnccgfohaaPoints
import Derived.Test.YthofpfnccgfohaaVotes
namespace Go.Proofs.Ythofpfnccgfohaa
set_option linter.unusedVariables false
set_option linter.unusedSimpArgs false
open Go.RowKit

theorem map_getD (f : Int → Int) {xs : List Int} {j : Nat} (h : j < xs.length) : (xs.map f).getD j 0 = f (xs.getD j 0) := by
  simp [List.getD, List.getElem?_eq_getElem h]
def remF (s S x : Int) : Int := x * s % S
def quoF (s S x : Int) : Int := x * s / S
theorem quo_rem {s S x : Int} (hx : 0 ≤ x) (hs : 0 ≤ s) (hS : 0 < S) : x * s = S * quoF s S x + remF s S x ∧ 0 ≤ quoF s S x ∧ 0 ≤ remF s S x ∧ remF s S x < S := by
  have h0 : 0 ≤ x * s := Int.mul_nonneg hx hs
  refine ⟨(Int.mul_ediv_add_emod _ _).symm, Int.ediv_nonneg h0 (by omega), Int.emod_nonneg _ (by omega), Int.emod_lt_of_pos _ hS⟩
theorem sum_quo_rem {s S : Int} (hs : 0 ≤ s) (hS : 0 < S) : ∀ xs : List Int, (∀ x ∈ xs, 0 ≤ x) → xs.sum * s = S * (xs.map (quoF s S)).sum + (xs.map (remF s S)).sum ∧ 0 ≤ (xs.map (remF s S)).sum ∧ (xs.map (remF s S)).sum ≤ (S - 1) * xs.length ∧ 0 ≤ (xs.map (quoF s S)).sum
  | [], _ => by simp
  | x :: xs, h => by
    obtain ⟨h1, h2, h3, h4⟩ := quo_rem (s := s) (S := S) (h x (by simp)) hs hS
    obtain ⟨i1, i2, i3, i4⟩ := sum_quo_rem hs hS xs (fun y hy => h y (by simp [hy]))
    simp only [List.map_cons, List.sum_cons, List.length_cons]
    rw [Int.add_mul, Int.mul_add, i1, h1]
    have e : (S - 1) * ((xs.length + 1 : Nat) : Int) = (S - 1) * xs.length + (S - 1) := by rw [Int.natCast_add, Int.mul_add]; simp
    rw [e]
    refine ⟨by omega, by omega, by omega, by omega⟩
theorem left_bd {xs : List Int} {s : Int} (hl : 1 ≤ xs.length) (hp : ∀ x ∈ xs, 0 ≤ x) (hs : 0 ≤ s) (hS : 0 < xs.sum) : 0 ≤ s - (xs.map (quoF s xs.sum)).sum ∧ s - (xs.map (quoF s xs.sum)).sum < xs.length := by
  obtain ⟨h1, h2, h3, h4⟩ := sum_quo_rem hs hS xs hp
  generalize (xs.map (quoF s xs.sum)).sum = q at *
  generalize (xs.map (remF s xs.sum)).sum = r at *
  generalize xs.sum = S at *
  have e : S * (s - q) = r := by rw [Int.mul_sub]; omega
  constructor
  · refine Classical.byContradiction fun hn => ?_
    have : S * (s - q) ≤ S * (-1) := Int.mul_le_mul_of_nonneg_left (by omega) (by omega)
    omega
  · refine Classical.byContradiction fun hn => ?_
    have h5 : S * (xs.length : Int) ≤ S * (s - q) := Int.mul_le_mul_of_nonneg_left (by omega) (by omega)
    have e2 : (S - 1) * (xs.length : Int) = S * xs.length - xs.length := by rw [Int.sub_mul]; simp
    omega

/-- The first of the greatest, among the first ones. -/
def bestF (ks : List Int) : Nat → Nat
  | 0 => 0
  | i + 1 => if ks.getD (bestF ks i) 0 < ks.getD i 0 then i else bestF ks i
theorem bestF_lt (ks : List Int) : ∀ n, 0 < n → bestF ks n < n
  | 1, _ => by unfold bestF; split <;> simp [bestF]
  | n + 2, _ => by
    have := bestF_lt ks (n + 1) (by omega)
    unfold bestF; split <;> omega
theorem bestF_le (ks : List Int) : ∀ n, bestF ks n ≤ n - 1
  | 0 => by simp [bestF]
  | n + 1 => by have := bestF_lt ks (n + 1) (by omega); omega
theorem bestF_spec (ks : List Int) : ∀ n, (∀ j, j < n → ks.getD j 0 ≤ ks.getD (bestF ks n) 0) ∧ ∀ j, j < bestF ks n → ks.getD j 0 < ks.getD (bestF ks n) 0
  | 0 => ⟨fun j hj => by omega, fun j hj => by simp [bestF] at hj⟩
  | n + 1 => by
    obtain ⟨h1, h2⟩ := bestF_spec ks n
    have hb := bestF_le ks n
    unfold bestF
    split
    · rename_i hc
      refine ⟨fun j hj => ?_, fun j hj => ?_⟩
      · by_cases e : j = n
        · subst e; exact Int.le_refl _
        · have := h1 j (by omega); omega
      · have := h1 j hj; omega
    · rename_i hc
      refine ⟨fun j hj => ?_, h2⟩
      by_cases e : j = n
      · subst e; omega
      · exact h1 j (by omega)

/-- i before k: a greater remainder, or an even one and a smaller number. -/
def Ahead (ks : List Int) (i k : Int) : Prop := ks.getD k.toNat 0 < ks.getD i.toNat 0 ∨ (ks.getD i.toNat 0 = ks.getD k.toNat 0 ∧ i < k)
def keyLt (ks : List Int) (i k : Int) : Bool := decide (ks.getD k.toNat 0 < ks.getD i.toNat 0)
theorem foldl_pairwise (ks : List Int) : ∀ (xs p : List Int), p.Pairwise (fun a b => Ahead ks b a) → xs.Pairwise (fun a b => a < b) → (∀ y ∈ p, ∀ x ∈ xs, y < x) → (xs.foldl (fun p x => insRv (keyLt ks) x p) p).Pairwise (fun a b => Ahead ks b a)
  | [], p, hp, _, _ => hp
  | x :: xs, p, hp, hx, hl => by
    obtain ⟨x1, x2⟩ := List.pairwise_cons.1 hx
    refine foldl_pairwise ks xs _ (insRv_pairwise (keyLt ks) (Ahead ks) ?_ x p hp ?_) x2 ?_
    · intro a b c h1 h2
      unfold Ahead at *
      omega
    · intro y hy
      have := hl y hy x List.mem_cons_self
      unfold keyLt Ahead
      constructor
      · intro h; exact .inl (of_decide_eq_true h)
      · intro h
        have := of_decide_eq_false h
        omega
    · intro y hy z hz
      rcases List.mem_cons.1 ((insRv_perm (keyLt ks) x p).mem_iff.1 hy) with rfl | hy
      · exact x1 z hz
      · exact hl y hy z (List.mem_cons_of_mem _ hz)
theorem upto_sorted (n : Nat) : (upto n).Pairwise (fun a b => a < b) := by
  unfold upto
  rw [List.pairwise_map]
  exact List.pairwise_lt_range.imp fun h => by omega
/-- The order of remainders. -/
def ordF (ks : List Int) : List Int := stab (keyLt ks) (upto ks.length)
theorem ordF_pairwise (ks : List Int) : (ordF ks).Pairwise (Ahead ks) := by
  unfold ordF stab
  rw [List.pairwise_reverse]
  exact foldl_pairwise ks _ [] (by simp) (upto_sorted _) (by simp)
theorem ordF_perm (ks : List Int) : (ordF ks).Perm (upto ks.length) := stab_perm _ _
theorem ordF_length (ks : List Int) : (ordF ks).length = ks.length := by rw [ordF, stab_length, upto_length]
theorem mem_upto {n : Nat} {x : Int} : x ∈ upto n ↔ 0 ≤ x ∧ x < n := by
  unfold upto
  rw [List.mem_map]
  constructor
  · rintro ⟨j, hj, rfl⟩; have := List.mem_range.1 hj; omega
  · rintro ⟨h1, h2⟩; exact ⟨x.toNat, List.mem_range.2 (by omega), by omega⟩
theorem ordF_mem {ks : List Int} {x : Int} : x ∈ ordF ks ↔ 0 ≤ x ∧ x < ks.length := by rw [(ordF_perm ks).mem_iff, mem_upto]
theorem ordF_nodup (ks : List Int) : (ordF ks).Nodup := by
  rw [List.nodup_iff_pairwise_ne]
  exact (ordF_pairwise ks).imp fun h e => by subst e; unfold Ahead at h; omega
theorem ordF_get {ks : List Int} {t : Nat} (h : t < ks.length) : ∃ q : Nat, (ordF ks)[t]? = some (q : Int) ∧ q < ks.length := by
  have hl : t < (ordF ks).length := by rw [ordF_length]; exact h
  have := ordF_mem.1 (List.getElem_mem hl)
  exact ⟨(ordF ks)[t].toNat, by rw [List.getElem?_eq_getElem hl]; congr 1; omega, by omega⟩

/-- What is left of the remainders when some have been chosen. -/
def restT (ks : List Int) : List Int → List Int
  | [] => ks
  | i :: is => restT (ks.set i.toNat (-1)) is
theorem restT_snoc : ∀ (ks is : List Int) (i : Int), restT ks (is ++ [i]) = (restT ks is).set i.toNat (-1)
  | _, [], _ => rfl
  | ks, j :: is, i => by show restT (ks.set j.toNat (-1)) (is ++ [i]) = _; rw [restT_snoc]; rfl
theorem restT_length : ∀ (ks is : List Int), (restT ks is).length = ks.length
  | _, [] => rfl
  | ks, i :: is => by show (restT (ks.set i.toNat (-1)) is).length = _; rw [restT_length]; simp
theorem restT_out : ∀ (ks is : List Int) (j : Nat), (∀ i ∈ is, i.toNat ≠ j) → (restT ks is).getD j 0 = ks.getD j 0
  | _, [], _, _ => rfl
  | ks, i :: is, j, h => by
    show (restT (ks.set i.toNat (-1)) is).getD j 0 = _
    rw [restT_out _ is j (fun x hx => h x (List.mem_cons_of_mem _ hx))]
    have := h i List.mem_cons_self
    simp [List.getD, List.getElem?_set, this]
theorem restT_in (j : Nat) : ∀ (is ks : List Int), j < ks.length → (∃ i ∈ is, i.toNat = j) → (restT ks is).getD j 0 = -1
  | [], _, _, h => by obtain ⟨i, hi, _⟩ := h; simp at hi
  | i :: is, ks, hj, h => by
    show (restT (ks.set i.toNat (-1)) is).getD j 0 = -1
    by_cases hm : ∃ k ∈ is, k.toNat = j
    · exact restT_in j is _ (by simpa using hj) hm
    · rw [restT_out _ is j (fun k hk e => hm ⟨k, hk, e⟩)]
      obtain ⟨k, hk, hkj⟩ := h
      rcases List.mem_cons.1 hk with rfl | hk
      · subst hkj
        simp [List.getD, hj]
      · exact absurd ⟨k, hk, hkj⟩ hm
/-- The next that is chosen is the next of the order. -/
theorem best_next {ks : List Int} (h0 : ∀ j, 0 ≤ ks.getD j 0) {t q : Nat} (ht : t < ks.length) (hq : (ordF ks)[t]? = some (q : Int)) : bestF (restT ks ((ordF ks).take t)) ks.length = q := by
  have hl : t < (ordF ks).length := by rw [ordF_length]; exact ht
  have hqn : q < ks.length := by
    have := ordF_mem.1 (List.mem_of_getElem? hq)
    omega
  have hsp := List.take_append_drop t (ordF ks)
  have hd : (ordF ks).drop t = (q : Int) :: (ordF ks).drop (t + 1) := by
    rw [List.drop_eq_getElem_cons hl]
    rw [List.getElem?_eq_getElem hl] at hq
    injection hq with hq
    rw [hq]
  have hnd := ordF_nodup ks
  have hpw := ordF_pairwise ks
  rw [← hsp, hd] at hnd hpw
  have hqt : ∀ i ∈ (ordF ks).take t, i.toNat ≠ q := by
    intro i hi e
    have hm := ordF_mem.1 (List.mem_of_mem_take hi)
    have : i = (q : Int) := by omega
    subst this
    exact (List.nodup_append.1 hnd).2.2 _ hi _ List.mem_cons_self rfl
  obtain ⟨b1, b2⟩ := bestF_spec (restT ks ((ordF ks).take t)) ks.length
  have hbl := bestF_lt (restT ks ((ordF ks).take t)) ks.length (by omega)
  generalize hb : bestF (restT ks ((ordF ks).take t)) ks.length = b at *
  have e1 := restT_out ks _ q hqt
  have c1 := b1 q hqn
  have hq0 := h0 q
  have hbt : ∀ i ∈ (ordF ks).take t, i.toNat ≠ b := by
    intro i hi e
    have := restT_in b _ ks hbl ⟨i, hi, e⟩
    omega
  have e2 := restT_out ks _ b hbt
  refine Classical.byContradiction fun hne => ?_
  have hbm : (b : Int) ∈ (ordF ks).drop (t + 1) := by
    have hm : (b : Int) ∈ ordF ks := ordF_mem.2 ⟨by omega, by omega⟩
    rw [← hsp, hd] at hm
    rcases List.mem_append.1 hm with hm | hm
    · exact absurd (Int.toNat_natCast b) (hbt _ hm)
    · rcases List.mem_cons.1 hm with hm | hm
      · omega
      · exact hm
  have hA := (List.pairwise_cons.1 (List.pairwise_append.1 hpw).2.1).1 _ hbm
  unfold Ahead at hA
  rw [Int.toNat_natCast, Int.toNat_natCast] at hA
  by_cases hlt : q < b
  · have := b2 q hlt
    omega
  · omega
/-- One more for each that is chosen. -/
def moreF (os : List Int) : List Int → List Int
  | [] => os
  | i :: is => moreF (addAt os i.toNat 1) is
theorem moreF_snoc : ∀ (os is : List Int) (i : Int), moreF os (is ++ [i]) = addAt (moreF os is) i.toNat 1
  | _, [], _ => rfl
  | os, j :: is, i => by show moreF (addAt os j.toNat 1) (is ++ [i]) = _; rw [moreF_snoc]; rfl
theorem moreF_length : ∀ (os is : List Int), (moreF os is).length = os.length
  | _, [] => rfl
  | os, i :: is => by show (moreF (addAt os i.toNat 1) is).length = _; rw [moreF_length, addAt_length]
theorem moreF_bd : ∀ (is os : List Int) (m : Int), (∀ j, 0 ≤ os.getD j 0 ∧ os.getD j 0 ≤ m) → ∀ j, 0 ≤ (moreF os is).getD j 0 ∧ (moreF os is).getD j 0 ≤ m + is.length
  | [], os, m, h, j => by have := h j; simpa [moreF] using this
  | i :: is, os, m, h, j => by
    have := moreF_bd is (addAt os i.toNat 1) (m + 1) (addAt_bd h i.toNat (by omega) (by omega)) j
    show 0 ≤ (moreF (addAt os i.toNat 1) is).getD j 0 ∧ _
    simp only [List.length_cons]
    exact ⟨this.1, by have := this.2; simp only [moreF]; omega⟩
def leftF (xs : List Int) (s : Int) : Int := s - (xs.map (quoF s xs.sum)).sum
/-- Seats by remainders. -/
def restF (xs : List Int) (s : Int) : List Int := moreF (xs.map (quoF s xs.sum)) ((ordF (xs.map (remF s xs.sum))).take (leftF xs s).toNat)
theorem restF_length (xs : List Int) (s : Int) : (restF xs s).length = xs.length := by rw [restF, moreF_length, List.length_map]
def restSF (xs : List Int) (s : Int) : Option (List Int) := if votesB xs && inB s 0 100 then some (restF xs s) else none
end Go.Proofs.Ythofpfnccgfohaa
