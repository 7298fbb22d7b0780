/-
  Rings that grow: where they end. No Go function is named here.
-/
import Derived.Test.YtdipckpcmnhpjaaMatT
import Derived.Test.YtdipckpcmnhpjaaOwnLL
namespace Go.Proofs.Ytdipckpcmnhpjaa
set_option linter.unusedVariables false
set_option linter.unusedSimpArgs false
open Go.RowKit

theorem php : ∀ (n T : Nat) (f : Nat → Nat), (∀ s, s < T → f s < n) → (∀ p q, p < T → q < T → f p = f q → p = q) → T ≤ n
  | 0, 0, _, _, _ => Nat.le_refl _
  | 0, T + 1, f, h, _ => by have := h 0 (by omega); omega
  | n + 1, 0, _, _, _ => by omega
  | n + 1, T + 1, f, h, hi => by
    have := php n T (fun s => if f s = n then f T else f s) (fun s hs => by
      have h1 := h s (by omega)
      have h2 := h T (by omega)
      show (if f s = n then f T else f s) < n
      split
      case isTrue e =>
        have : f T ≠ n := fun e2 => by have := hi s T (by omega) (by omega) (by omega); omega
        omega
      case isFalse e => omega) (fun p q hp hq he => by
      have k1 := hi p q (by omega) (by omega)
      have k2 := hi p T (by omega) (by omega)
      have k3 := hi q T (by omega) (by omega)
      split at he <;> split at he <;> omega)
    omega
def rg (g : Int → Int) (a : Int) (t : Nat) : List Int := (List.range (t + 1)).map (itZ g a)
theorem rg_len (g : Int → Int) (a : Int) (t : Nat) : (rg g a t).length = t + 1 := by simp [rg]
theorem rg_succ (g : Int → Int) (a : Int) (t : Nat) : rg g a (t + 1) = rg g a t ++ [itZ g a (t + 1)] := by simp [rg, List.range_succ]
theorem rg_zero (g : Int → Int) (a : Int) : rg g a 0 = [a] := rfl
theorem rg_at {g : Int → Int} {a : Int} {t s : Nat} (h : s ≤ t) : (rg g a t).getD s 0 = itZ g a s := by
  have : s < t + 1 := by omega
  simp [rg, List.getD, this]
theorem rg_mem {g : Int → Int} {a x : Int} {t : Nat} : x ∈ rg g a t ↔ ∃ s, s ≤ t ∧ itZ g a s = x := by
  unfold rg
  rw [List.mem_map]
  constructor
  · rintro ⟨s, hs, e⟩; exact ⟨s, by have := List.mem_range.1 hs; omega, e⟩
  · rintro ⟨s, hs, e⟩; exact ⟨s, List.mem_range.2 (by omega), e⟩
structure OnRing (g : Int → Int) (a n t : Nat) : Prop where
  gt : ∀ s, s < t → (a : Int) < itZ g a (s + 1)
  inj : ∀ p q, p ≤ t → q ≤ t → itZ g a p = itZ g a q → p = q
  nat : ∀ s, s ≤ t → ∃ y : Nat, itZ g a s = y ∧ y < n
theorem OnRing.start (g : Int → Int) {a n : Nat} (h : a < n) : OnRing g a n 0 :=
  ⟨fun s hs => by omega, fun p q hp hq _ => by omega, fun s hs => ⟨a, by rw [show s = 0 by omega]; rfl, h⟩⟩
theorem OnRing.le {g : Int → Int} {a n t : Nat} (h : OnRing g a n t) : t + 1 ≤ n := by
  refine php n (t + 1) (fun s => (itZ g a s).toNat) (fun s hs => ?_) (fun p q hp hq he => ?_)
  · obtain ⟨y, hy, hn⟩ := h.nat s (by omega)
    simp only [hy]; omega
  · obtain ⟨y, hy, _⟩ := h.nat p (by omega)
    obtain ⟨z, hz, _⟩ := h.nat q (by omega)
    exact h.inj p q (by omega) (by omega) (by rw [hy, hz] at he ⊢; simp only [Int.toNat_natCast] at he; omega)
theorem OnRing.step {g : Int → Int} {a n t y : Nat} (h : OnRing g a n t) (hx : itZ g a (t + 1) = y) (hy : y < n) (hgt : a < y) (hno : (y : Int) ∉ rg g a t) : OnRing g a n (t + 1) := by
  refine ⟨fun s hs => ?_, fun p q hp hq he => ?_, fun s hs => ?_⟩
  · by_cases e : s = t
    · subst e; rw [hx]; omega
    · exact h.gt s (by omega)
  · by_cases e1 : p = t + 1 <;> by_cases e2 : q = t + 1
    · omega
    · subst e1; rw [hx] at he; exact absurd (rg_mem.2 ⟨q, by omega, he.symm⟩) hno
    · subst e2; rw [hx] at he; exact absurd (rg_mem.2 ⟨p, by omega, he⟩) hno
    · exact h.inj p q (by omega) (by omega) he
  · by_cases e : s = t + 1
    · subst e; exact ⟨y, hx, hy⟩
    · exact h.nat s (by omega)
theorem OnRing.hit {g : Int → Int} {a n t : Nat} (h : OnRing g a n t) (hx : itZ g a (t + 1) = a) : ringF g a n = some (rg g a t) := by
  rw [ringF_hit (t := t) (by have := h.le; omega) (by omega) h.gt, if_pos hx]; rfl
theorem OnRing.low {g : Int → Int} {a n t : Nat} (h : OnRing g a n t) (hx : itZ g a (t + 1) < a) : ringF g a n = none := by
  rw [ringF_hit (t := t) (by have := h.le; omega) (by omega) h.gt, if_neg (by omega)]
theorem OnRing.seen {g : Int → Int} {a n t : Nat} (h : OnRing g a n t) (hgt : (a : Int) < itZ g a (t + 1)) (hin : itZ g a (t + 1) ∈ rg g a t) : ringF g a n = none := by
  obtain ⟨s, hs, he⟩ := rg_mem.1 hin
  have hs1 : 1 ≤ s := by
    rcases Nat.eq_zero_or_pos s with e | e
    · subst e
      have : itZ g (a : Int) 0 = a := rfl
      omega
    · exact e
  refine ringF_none fun u _ => itZ_round hs hs1 he.symm (fun r hr => ?_) u
  by_cases e : r = t
  · subst e; exact hgt
  · exact h.gt r (by omega)
/-- The turns that begin below i. -/
def TF (w : Wi) (m : List Int) (i : Nat) : List (List Int) := (List.range i).filterMap fun (j : Nat) => ringF (nextZ w m) (j : Int) w.L.length
theorem TF_all (w : Wi) (m : List Int) : TF w m w.L.length = turnsF w m := rfl
theorem TF_none {w : Wi} {m : List Int} {i : Nat} (h : ringF (nextZ w m) i w.L.length = none) : TF w m (i + 1) = TF w m i := by
  unfold TF; rw [List.range_succ, List.filterMap_append]; simp [h]
theorem TF_some {w : Wi} {m : List Int} {i : Nat} {r : List Int} (h : ringF (nextZ w m) i w.L.length = some r) : TF w m (i + 1) = TF w m i ++ [r] := by
  unfold TF; rw [List.range_succ, List.filterMap_append]; simp [h]
theorem TF_len (w : Wi) (m : List Int) (i : Nat) : (TF w m i).length ≤ i := by
  unfold TF
  exact Nat.le_trans (List.length_filterMap_le _ _) (by simp)
theorem TF_in {w : Wi} {m r : List Int} {i : Nat} (h : r ∈ TF w m i) : r.length ≤ w.L.length + 1 := by
  obtain ⟨j, _, h⟩ := List.mem_filterMap.1 h
  obtain ⟨t, ht, rfl, _⟩ := ringF_mem h
  simp; omega
theorem next_self {w : Wi} (hw : Wish w) {m : List Int} (hm : Mat w m) {i : Nat} (hi : i < w.L.length) : nextF w m i ≠ i := by
  rcases nextF_spec hw hm hi with h | ⟨j, b, h, _, hne, _⟩
  · rw [h]; omega
  · rw [h]; omega
theorem itZ_next {w : Wi} {m : List Int} {a t y : Nat} (h : itZ (nextZ w m) a t = y) : itZ (nextZ w m) a (t + 1) = nextF w m y := by
  show nextZ w m (itZ (nextZ w m) a t) = _
  rw [h]; rfl
theorem OwnRows.up {T T2 : Nat} {w : World} {lo hi hi' : Nat} {u : Value} {vs : List Value} {yss : List (List Int)} (h : OwnRows T T2 w lo hi u vs yss) (hh : hi ≤ hi') : OwnRows T T2 w lo hi' u vs yss :=
  ⟨h.out, fun g hg => Nat.lt_of_lt_of_le (h.lt g hg) hh, fun j ys hj => let ⟨a', c', h3, h4⟩ := h.row j ys hj; ⟨a', c', h3, h4.mono (Nat.le_refl _) hh⟩, h.top, h.dis⟩
def sliceLen : Value → Nat
  | .slice _ n _ => n
  | _ => 0
theorem own_some1 {w : World} {base e n c : Nat} {a : Option Addr} {xs : List Value} (h : w.ownsRow base e 1 (.slice a n c) n xs) (hn : 1 ≤ n) : ∃ g, a = some ⟨g, 0, none⟩ := by
  obtain ⟨g, _, e, _⟩ := own_open h hn
  exact ⟨g, e⟩
end Go.Proofs.Ytdipckpcmnhpjaa
