/-
  One list less another: both walks.
-/
import Derived.Test.YthbclfaeplmjgaaGainR
import Derived.StillTailTactics
namespace Go.Proofs.Ythbclfaeplmjgaa
set_option linter.unusedVariables false
set_option linter.unusedSimpArgs false
open Go.RowKit

def lessF (xs ys : List Int) : List Int := (List.range xs.length).map fun j => xs.getD j 0 - ys.getD j 0
theorem lessF_length (xs ys : List Int) : (lessF xs ys).length = xs.length := by simp [lessF]
theorem lessF_take {xs ys : List Int} {k : Nat} (h : k < xs.length) : (lessF xs ys).take (k + 1) = (lessF xs ys).take k ++ [xs.getD k 0 - ys.getD k 0] := by
  rw [List.take_add_one]; simp [lessF, h]
set_option maxHeartbeats 1000000 in
theorem less_any (w : World) (B C : Nat) (a b : Option Addr) (c d : Nat) (xs ys : List Int) (h' : Rd w B a (ints xs)) (g' : Rd w C b (ints ys)) (hB : B ≤ w.heap.size) (hC : C ≤ w.heap.size) (hl : xs.length ≤ 1048576) (hlen : ys.length = xs.length)
    (hx0 : ∀ j, 0 ≤ xs.getD j 0 ∧ xs.getD j 0 ≤ 1099511627776) (hy0 : ∀ j, 0 ≤ ys.getD j 0 ∧ ys.getD j 0 ≤ 1099511627776) :
    Calls Try.prog 85 #[.slice a xs.length c, .slice b xs.length d] w fun e w' => ∃ a' c', e = .returned (.slice a' xs.length c') ∧ OwnI 2 w' w.heap.size w'.heap.size a' c' (lessF xs ys) ∧ Below w.heap.size w w' := by
  have h := h'.mono hB
  have g := g'.mono hC
  have Hx := Lib.hid hx0
  have Hy := Lib.hid hy0
  have Hlen := Lib.hid hlen
  clear hx0 hy0 h' g' hB hC hlen
  have Hs := Lib.hid (fun k hk => @lessF_take xs ys k hk)
  have Hl := Lib.hid (lessF_length xs ys)
  generalize lessF xs ys = zs at *
  go_enter Try.func85, Try.ntmps85
  go_wp2_with fail
  go_loopw [11, 5] (fun i v wr => ∃ (k : Nat) (u : Value), k ≤ xs.length ∧ i = .int .i64 k ∧ v = u ∧ Hid (wr.ownsRow w.heap.size 2 1 u k (ints (zs.take k))) ∧ Below w.heap.size w wr) (fun i _ _ => xs.length - (intOf i).toNat)
  case atStart => exact ⟨0, _, Nat.zero_le _, rfl, rfl, own_empty w _, bl1 w _⟩
  case round =>
    obtain ⟨k, u, hk, rfl, rfl, ho, hw⟩ := hrel
    by_cases hlt : k < xs.length
    · obtain ⟨b1, o1, rfl, _, hca⟩ := (h.below hw (Nat.le_refl _)).at hlt
      obtain ⟨b2, o2, rfl, _, hcb⟩ := (g.below hw (Nat.le_refl _)).at (k := k) (by rw [Hlen.out]; exact hlt)
      have ha := hca k hlt
      have hb := hcb k (by rw [Hlen.out]; exact hlt)
      have hn := Lib.hid (Hs.out k hlt)
      obtain ⟨x0, x1⟩ := Hx.out k
      obtain ⟨y0, y1⟩ := Hy.out k
      generalize xs.getD k 0 = x at *
      generalize ys.getD k 0 = y at *
      have ho1 := ho.out
      clear h g ho hca hcb
      go_wp2_with (at_builtin; refine wpList_append_one _ rfl _ _ 22 rfl w.heap.size 2 (.int .i64 0) 8 Try.underlying22 info_i64p rfl _ k _ rfl ho1 (.int .i64 (x - y)) rfl rfl (by omega) (by omega) hw.size ?_)
      intro v' w1 o1' hgr
      have hbl := below_append hw ho1 hgr (Nat.le_refl _) hw.size
      rw [show ints (zs.take k) ++ [Value.int .i64 (x - y)] = ints (zs.take (k + 1)) from by rw [hn.out, ints_append]; rfl] at o1'
      have HO := Lib.hid o1'
      clear ho1 hgr hw o1' ha hb
      go_wp2_with fail
      go_roundw
      case rel => exact ⟨k + 1, v', by omega, by go_num, rfl, HO, hbl⟩
      case measure => simp [intOf]; omega
    · have : k = xs.length := by omega
      subst this
      rw [show zs.take xs.length = zs from List.take_of_length_le (by rw [Hl.out]; exact Nat.le_refl _)] at ho
      obtain ⟨a1, c1, rfl, _, _⟩ := own_shape ho.out
      have hR : OwnI 2 wr w.heap.size wr.heap.size a1 c1 zs := OwnI.of_own (by rw [Hl.out]; exact ho.out)
      have HR := Lib.hid hR
      clear hR ho
      go_wp2_with fail
      go_ret
      exact ⟨_, _, rfl, HR.out, hw⟩
end Go.Proofs.Ythbclfaeplmjgaa
