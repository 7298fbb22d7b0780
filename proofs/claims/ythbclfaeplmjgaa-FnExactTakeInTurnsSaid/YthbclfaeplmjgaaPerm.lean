/-
  All orders of a few numbers, by depth and by insertion: the same ones; sums over them.
-/
import Derived.Test.YthbclfaeplmjgaaClaims
namespace Go.Proofs.Ythbclfaeplmjgaa
set_option linter.unusedVariables false
set_option linter.unusedSimpArgs false
open Go.RowKit

/-- All orders that begin with p, f more of the n numbers to come, in their order. -/
def permsU (n : Nat) : Nat → List Int → List (List Int)
  | 0, p => [p]
  | f + 1, p => (List.range n).flatMap fun (i : Nat) => if decide ((i : Int) ∈ p) then [] else permsU n f (p ++ [(i : Int)])
/-- All orders by insertion. -/
def insAll : Nat → List (List Int)
  | 0 => [[]]
  | k + 1 => (insAll k).flatMap fun o => (List.range (o.length + 1)).map fun i => o.take i ++ [(k : Int)] ++ o.drop i
def leL : List Int → List Int → Bool
  | [], _ => true
  | _ :: _, [] => false
  | x :: xs, y :: ys => if x < y then true else if y < x then false else leL xs ys
def mergeF : Nat → List (List Int) → List (List Int) → List (List Int)
  | 0, xs, ys => xs ++ ys
  | _ + 1, [], ys => ys
  | _ + 1, x :: xs, [] => x :: xs
  | n + 1, x :: xs, y :: ys => if leL x y then x :: mergeF n xs (y :: ys) else y :: mergeF n (x :: xs) ys
theorem mergeF_perm : ∀ (n : Nat) (xs ys : List (List Int)), (mergeF n xs ys).Perm (xs ++ ys)
  | 0, xs, ys => by simp [mergeF]
  | _ + 1, [], ys => by simp [mergeF]
  | _ + 1, x :: xs, [] => by simp [mergeF]
  | n + 1, x :: xs, y :: ys => by
    rw [mergeF]
    split
    · exact (mergeF_perm n xs (y :: ys)).cons x
    · exact ((mergeF_perm n (x :: xs) ys).cons y).trans List.perm_middle.symm
def sortL : Nat → List (List Int) → List (List Int)
  | 0, xs => xs
  | n + 1, xs => mergeF xs.length (sortL n (xs.take (xs.length / 2))) (sortL n (xs.drop (xs.length / 2)))
theorem sortL_perm : ∀ (n : Nat) (xs : List (List Int)), (sortL n xs).Perm xs
  | 0, xs => List.Perm.refl _
  | n + 1, xs => by
    rw [sortL]
    refine (mergeF_perm _ _ _).trans (((sortL_perm n _).append (sortL_perm n _)).trans ?_)
    rw [List.take_append_drop]
set_option maxRecDepth 100000 in
theorem insAll_perm : ∀ n, n ≤ 6 → (insAll n).Perm (permsU n n [])
  | 0, _ => (by decide +kernel : sortL 10 (insAll 0) = permsU 0 0 []) ▸ (sortL_perm 10 (insAll 0)).symm
  | 1, _ => (by decide +kernel : sortL 10 (insAll 1) = permsU 1 1 []) ▸ (sortL_perm 10 (insAll 1)).symm
  | 2, _ => (by decide +kernel : sortL 10 (insAll 2) = permsU 2 2 []) ▸ (sortL_perm 10 (insAll 2)).symm
  | 3, _ => (by decide +kernel : sortL 10 (insAll 3) = permsU 3 3 []) ▸ (sortL_perm 10 (insAll 3)).symm
  | 4, _ => (by decide +kernel : sortL 10 (insAll 4) = permsU 4 4 []) ▸ (sortL_perm 10 (insAll 4)).symm
  | 5, _ => (by decide +kernel : sortL 10 (insAll 5) = permsU 5 5 []) ▸ (sortL_perm 10 (insAll 5)).symm
  | 6, _ => (by decide +kernel : sortL 10 (insAll 6) = permsU 6 6 []) ▸ (sortL_perm 10 (insAll 6)).symm
  | n + 7, h => by omega
theorem insAll_length : ∀ n, n ≤ 6 → (insAll n).length ≤ 720
  | 0, _ => by decide +kernel
  | 1, _ => by decide +kernel
  | 2, _ => by decide +kernel
  | 3, _ => by decide +kernel
  | 4, _ => by decide +kernel
  | 5, _ => by decide +kernel
  | 6, _ => by decide +kernel
  | n + 7, h => by omega

def addL (a b : List Int) : List Int := List.zipWith (· + ·) a b
theorem addL_comm (a x y : List Int) : addL (addL a x) y = addL (addL a y) x := by
  apply List.ext_getElem
  · simp [addL]; omega
  · intro i h1 h2
    simp only [addL, List.getElem_zipWith]
    omega
theorem foldl_permI {α β : Type} {f : α → β → α} (hf : ∀ a x y, f (f a x) y = f (f a y) x) {l1 l2 : List β} (h : l1.Perm l2) : ∀ a, l1.foldl f a = l2.foldl f a := by
  induction h with
  | nil => exact fun _ => rfl
  | cons x _ ih => exact fun a => ih _
  | swap x y l => intro a; simp only [List.foldl_cons]; rw [hf]
  | trans _ _ i1 i2 => exact fun a => (i1 a).trans (i2 a)
/-- The sums of what each one gets over orders. -/
def sumT (cs : List Int) (e : Int) (os : List (List Int)) : List Int := os.foldl (fun s o => addL s (takeF cs o e)) (List.replicate cs.length 0)
theorem sumT_perm {cs : List Int} {e : Int} {os ps : List (List Int)} (h : os.Perm ps) : sumT cs e os = sumT cs e ps := by
  exact foldl_permI (f := fun s o => addL s (takeF cs o e)) (fun a b c => addL_comm _ _ _) h _
theorem sumT_snoc (cs : List Int) (e : Int) (os : List (List Int)) (o : List Int) : sumT cs e (os ++ [o]) = addL (sumT cs e os) (takeF cs o e) := by simp [sumT]
theorem takeF_len (cs os : List Int) (e : Int) : (takeF cs os e).length = cs.length := takeS_len _ _ _ _
theorem sumT_len (cs : List Int) (e : Int) (os : List (List Int)) : (sumT cs e os).length = cs.length := by
  have : ∀ (os : List (List Int)) (s : List Int), s.length = cs.length → (os.foldl (fun s o => addL s (takeF cs o e)) s).length = cs.length := by
    intro os
    induction os with
    | nil => exact fun s h => h
    | cons o os ih => exact fun s h => ih _ (by simp only [addL, List.length_zipWith, h, takeF_len]; omega)
  exact this os _ (by simp)
end Go.Proofs.Ythbclfaeplmjgaa
