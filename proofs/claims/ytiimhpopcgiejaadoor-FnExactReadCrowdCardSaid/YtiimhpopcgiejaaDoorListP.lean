/-
  Lists with a text: plain part.
-/
import Derived.Test.YtiimhpopcgiejaaDoorNumP
import Derived.Test.YtiimhpopcgiejaaDoorStr
namespace Go.Proofs.YtiimhpopcgiejaaDoor
set_option linter.unusedVariables false
set_option linter.unusedSimpArgs false
open Go.RowKit

/-- All answers, if there is one for each. -/
def allO {α β : Type} (f : α → Option β) : List α → Option (List β)
  | [] => some []
  | x :: xs => match f x with
    | none => none
    | some y => (allO f xs).map (y :: ·)
theorem allO_none {α β : Type} {f : α → Option β} {x : α} {xs : List α} (h : f x = none) : allO f (x :: xs) = none := by rw [allO, h]
theorem allO_some {α β : Type} {f : α → Option β} {x : α} {xs : List α} {y : β} (h : f x = some y) : allO f (x :: xs) = (allO f xs).map (y :: ·) := by rw [allO, h]
theorem allO_len {α β : Type} {f : α → Option β} : ∀ {xs : List α} {ys : List β}, allO f xs = some ys → ys.length = xs.length
  | [], ys, h => by rw [allO] at h; injection h with h; rw [← h]; rfl
  | x :: xs, ys, h => by
    cases hx : f x with
    | none => rw [allO_none hx] at h; cases h
    | some y =>
      rw [allO_some hx] at h
      cases hr : allO f xs with
      | none => rw [hr] at h; cases h
      | some zs =>
        rw [hr] at h
        injection h with h
        rw [← h, List.length_cons, List.length_cons, allO_len hr]
/-- How far one has come, d being what was answered. -/
def Till {α β : Type} (f : α → Option β) (xs : List α) (k : Nat) (d : List β) : Prop := allO f xs = (allO f (xs.drop k)).map (d ++ ·)
theorem Till.start {α β : Type} (f : α → Option β) (xs : List α) : Till f xs 0 [] := by
  unfold Till; rw [List.drop_zero]; cases allO f xs <;> simp
theorem Till.step {α β : Type} {f : α → Option β} {xs : List α} {k : Nat} {d : List β} {x : α} {y : β} (h : Till f xs k d) (hx : xs[k]? = some x) (hy : f x = some y) : Till f xs (k + 1) (d ++ [y]) := by
  unfold Till at *
  have hk := (List.getElem?_eq_some_iff.1 hx).1
  have e : xs.drop k = x :: xs.drop (k + 1) := by
    rw [List.drop_eq_getElem_cons hk]
    rw [List.getElem?_eq_getElem hk] at hx
    injection hx with hx
    rw [hx]
  rw [h, e, allO_some hy]
  cases allO f (xs.drop (k + 1)) <;> simp
theorem Till.stop {α β : Type} {f : α → Option β} {xs : List α} {k : Nat} {d : List β} {x : α} (h : Till f xs k d) (hx : xs[k]? = some x) (hy : f x = none) : allO f xs = none := by
  unfold Till at h
  have hk := (List.getElem?_eq_some_iff.1 hx).1
  have e : xs.drop k = x :: xs.drop (k + 1) := by
    rw [List.drop_eq_getElem_cons hk]
    rw [List.getElem?_eq_getElem hk] at hx
    injection hx with hx
    rw [hx]
  rw [h, e, allO_none hy]; rfl
theorem Till.done {α β : Type} {f : α → Option β} {xs : List α} {d : List β} (h : Till f xs xs.length d) : allO f xs = some d := by
  unfold Till at h
  rw [h, List.drop_length]; simp [allO]
def noneL : List UInt8 := [110, 111, 110, 101]
/-- The pieces of a list's text. -/
def pcsF (l : List UInt8) : List (List UInt8) := if l = noneL then [] else cutL 44 l
def numsF (l : List UInt8) : Option (List Int) := match allO valF (pcsF l) with
  | none => none
  | some ns => if ns.length ≤ 64 then some ns else none
theorem numsF_none {l : List UInt8} (h : l = noneL) : numsF l = some [] := by unfold numsF pcsF; rw [if_pos h]; simp [allO]
theorem numsF_all {l : List UInt8} (h : allO valF (pcsF l) = none) : numsF l = none := by unfold numsF; rw [h]
theorem numsF_long {l : List UInt8} (h : 64 < (pcsF l).length) : numsF l = none := by
  unfold numsF
  cases ha : allO valF (pcsF l) with
  | none => rfl
  | some ns => have := allO_len ha; simp only; rw [if_neg (by omega)]
theorem numsF_some {l : List UInt8} {ns : List Int} (h : allO valF (pcsF l) = some ns) (hl : ns.length ≤ 64) : numsF l = some ns := by unfold numsF; rw [h]; simp only; rw [if_pos hl]
theorem numsF_len {l : List UInt8} {ns : List Int} (h : numsF l = some ns) : ns.length ≤ 64 := by
  unfold numsF at h
  cases ha : allO valF (pcsF l) with
  | none => rw [ha] at h; cases h
  | some ms =>
    rw [ha] at h
    simp only at h
    split at h
    · injection h with h; rw [← h]; assumption
    · cases h
theorem pcsF_len (l : List UInt8) : (pcsF l).length ≤ l.length + 1 := by
  unfold pcsF; split
  · simp
  · exact cutL_len 44 l
theorem pcsF_mem {l p : List UInt8} (h : p ∈ pcsF l) : p.length ≤ l.length := by
  unfold pcsF at h; split at h
  · cases h
  · exact cutL_mem h
/-- The lists of a text of so many. -/
def listsF (cnt : Nat) (l : List UInt8) : Option (List (List Int)) := match allO numsF (cutL 59 l) with
  | none => none
  | some yss => if yss.length = cnt ∧ (yss.getD 0 []).length = 2 then some yss else none
theorem listsF_none {cnt : Nat} {l : List UInt8} (h : allO numsF (cutL 59 l) = none) : listsF cnt l = none := by unfold listsF; rw [h]
theorem listsF_some {cnt : Nat} {l : List UInt8} {yss : List (List Int)} (h : allO numsF (cutL 59 l) = some yss) : listsF cnt l = if yss.length = cnt ∧ (yss.getD 0 []).length = 2 then some yss else none := by unfold listsF; rw [h]
theorem listsF_count {cnt : Nat} {l : List UInt8} (h : (cutL 59 l).length ≠ cnt) : listsF cnt l = none := by
  cases ha : allO numsF (cutL 59 l) with
  | none => exact listsF_none ha
  | some yss => rw [listsF_some ha, if_neg]; rintro ⟨h1, _⟩; have := allO_len ha; omega
theorem listsF_first {cnt : Nat} {l x : List UInt8} {y : List Int} (hx : (cutL 59 l)[0]? = some x) (hy : numsF x = some y) (hl : y.length ≠ 2) : listsF cnt l = none := by
  cases ha : allO numsF (cutL 59 l) with
  | none => exact listsF_none ha
  | some yss =>
    rw [listsF_some ha, if_neg]
    rintro ⟨_, h2⟩
    cases hc : cutL 59 l with
    | nil => rw [hc] at hx; cases hx
    | cons x' xs' =>
      rw [hc] at hx ha
      have : x' = x := by simpa using hx
      subst this
      rw [allO_some hy] at ha
      cases hr : allO numsF xs' with
      | none => rw [hr] at ha; cases ha
      | some zs =>
        rw [hr] at ha
        injection ha with ha
        rw [← ha] at h2
        exact hl h2
theorem listsF_get {cnt : Nat} {l : List UInt8} {yss : List (List Int)} (h : listsF cnt l = some yss) : yss.length = cnt ∧ (yss.getD 0 []).length = 2 ∧ (∀ y ∈ yss, y.length ≤ 64) := by
  cases ha : allO numsF (cutL 59 l) with
  | none => rw [listsF_none ha] at h; cases h
  | some zs =>
    rw [listsF_some ha] at h
    split at h
    · rename_i h2
      injection h with h
      subst h
      refine ⟨h2.1, h2.2, ?_⟩
      have key : ∀ (xs : List (List UInt8)) (ys : List (List Int)), allO numsF xs = some ys → ∀ y ∈ ys, y.length ≤ 64 := by
        intro xs
        induction xs with
        | nil => intro ys hh y hy; rw [allO] at hh; injection hh with hh; subst hh; cases hy
        | cons x xs ih =>
          intro ys hh y hy
          cases hx : numsF x with
          | none => rw [allO_none hx] at hh; cases hh
          | some n =>
            rw [allO_some hx] at hh
            cases hr : allO numsF xs with
            | none => rw [hr] at hh; cases hh
            | some ms =>
              rw [hr] at hh
              injection hh with hh
              subst hh
              rcases List.mem_cons.1 hy with e | e
              · subst e; exact numsF_len hx
              · exact ih ms hr y e
      exact key _ _ ha
    · cases h
/-- The answer of a reader of numbers: a row of one's own with a block, or nil and no. -/
def RetN (T : Nat) (w : World) (r : Option (List Int)) (e : Ending) (w' : World) : Prop :=
  Below w.heap.size w w' ∧ match r with
    | none => e = .returned (.tuple #[.slice none 0 0, .bool false])
    | some xs => ∃ g c, e = .returned (.tuple #[.slice (some ⟨g, 0, none⟩) xs.length c, .bool true]) ∧ w'.ownsRow w.heap.size T 1 (.slice (some ⟨g, 0, none⟩) xs.length c) xs.length (ints xs)
theorem own_some {w : World} {base e : Nat} {v : Value} {n : Nat} {xs : List Value} (h : w.ownsRow base e 1 v n xs) (hn : 1 ≤ n) : ∃ g c, v = .slice (some ⟨g, 0, none⟩) n c := by
  rcases h.2 with ⟨h2, h3⟩ | ⟨g, cap, cur, hv, _⟩
  · exact absurd h3 (by omega)
  · exact ⟨g, cap, hv⟩
end Go.Proofs.YtiimhpopcgiejaaDoor
