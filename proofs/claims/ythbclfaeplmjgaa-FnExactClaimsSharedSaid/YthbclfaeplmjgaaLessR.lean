/-
  One list less another: the reference's walk.
-/
import Derived.Test.YthbclfaeplmjgaaLess
import Derived.Deep.RegionLaw
import Derived.Deep.RegionHeld3
import Derived.Deep.DeepMust
namespace Go.Proofs.Ythbclfaeplmjgaa
set_option linter.unusedVariables false
set_option linter.unusedSimpArgs false
open Go.RowKit

theorem step_append_one {P : Program} {ops : Array Oper} {o : Oper} {a : Act} {wr : World} {K : Act → World → Prop} {Q : Exit → Act → World → Prop} {E : Prop}
    (hg : o.guard = none) (s x : Operand) (t : TypeId) (hop : o.op = Op.call { callee := Callee.builtin Builtin.append, args := #[s, x], argTypes := #[t, t] })
    (base : Nat) (e : TypeId) (z : Value) (bytes : Nat) (h1 : P.underlying t = some (.slice e)) (hinfo : (P.info? e).map (fun i => (i.zero, i.size, i.bytes)) = some (some z, 1, bytes)) (hz : z.cells.size = 1)
    (v : Value) (n : Nat) (xs : List Value) (hs : a.eval s = v) (hown : wr.ownsRow base e 1 v n xs) (y : Value) (hy : y.oneCell' = true)
    (hx : a.eval x = .slice (some ⟨wr.heap.size, 0, none⟩) 1 1) (hb : bytes ≤ 64) (hn : n ≤ 1099511627776) (hbase : base ≤ wr.heap.size)
    (hK : ∀ v' w', w'.ownsRow base e 1 v' (n + 1) (xs ++ [y]) → wr.grownBy w' v.ownBlock → K (a.put o.dst v') w') :
    if Region.wanted o (yielded ops a.tmps) = true then Oper.wp P o a (wr.alloc (.cells #[y] e)) K Q else E := by
  have hw : Region.wanted o (yielded ops a.tmps) = true := by simp [Region.wanted, hg]
  rw [if_pos hw]
  obtain ⟨i, h2, h3, h4, h5⟩ := info_parts hinfo
  have hbb : (n + 1) * bytes ≤ 140737488355328 := Nat.le_trans (Nat.mul_le_mul_left (n + 1) hb) (by omega)
  refine wp_append_own (wr.alloc (.cells #[y] e)) s x t hop base e i z 1 bytes h1 h2 h3 h4 h5 hz (by omega) v n xs hs (hown.alloc _) ⟨wr.heap.size, 0, none⟩ 1 1 [y] hx rfl ?_ ?_ (by unfold maxLen; omega) hbb (by simp; omega) ?_
  · intro j u hj
    match j, hj with
    | 0, hj =>
      simp at hj
      subst hj
      simp [Addr.add]
    | j + 1, hj => simp at hj
  · intro u hu
    simp at hu
    subst hu
    exact hy
  · intro v' w' ho hgr _
    refine hK v' w' ho ⟨hgr.os, hgr.tape, hgr.output, ?_, fun k hk hne => ?_⟩
    · have := hgr.size; simp at this; omega
    · rw [hgr.block k (by simp; omega) hne]
      exact Below.heap_alloc _ _ _ hk

theorem step_append_drew {P : Program} {ops : Array Oper} {o : Oper} {a : Act} {wr : World} {K : Act → World → Prop} {Q : Exit → Act → World → Prop} {E : Prop}
    (hg : o.guard = none) (s x : Operand) (t : TypeId) (hop : o.op = Op.call { callee := Callee.builtin Builtin.append, args := #[s, x], argTypes := #[t, t] })
    (base : Nat) (e : TypeId) (z : Value) (bytes : Nat) (h1 : P.underlying t = some (.slice e)) (hinfo : (P.info? e).map (fun i => (i.zero, i.size, i.bytes)) = some (some z, 1, bytes)) (hz : z.cells.size = 1)
    (v : Value) (n : Nat) (xs : List Value) (hs : a.eval s = v) (hown : wr.ownsRow base e 1 v n xs) (y : Value) (hy : y.oneCell' = true)
    (hx : a.eval x = .slice (some ⟨wr.heap.size, 0, none⟩) 1 1) (hb : bytes ≤ 64) (hn : n ≤ 1099511627776) (hbase : base ≤ wr.heap.size)
    (hK : ∀ v' w', w'.ownsRow base e 1 v' (n + 1) (xs ++ [y]) → wr.drew.grownBy w' v.ownBlock → K (a.put o.dst v') w') :
    if Region.wanted o (yielded ops a.tmps) = true then Oper.wp P o a (wr.alloc (.cells #[y] e)).drew K Q else E :=
  step_append_one (wr := wr.drew) hg s x t hop base e z bytes h1 hinfo hz v n xs hs (own_below hown (below_drew' (Below.refl wr.heap.size wr))) y hy hx hb hn hbase hK
set_option maxRecDepth 20000 in
set_option maxHeartbeats 1000000 in
theorem l07Less_any (w : World) (B C : Nat) (a b : Option Addr) (c d : Nat) (xs ys : List Int) (h' : Rd w B a (ints xs)) (g' : Rd w C b (ints ys)) (hB : B ≤ w.heap.size) (hC : C ≤ w.heap.size) (hl : xs.length ≤ 1048576) (hlen : ys.length = xs.length)
    (hx0 : ∀ j, 0 ≤ xs.getD j 0 ∧ xs.getD j 0 ≤ 1099511627776) (hy0 : ∀ j, 0 ≤ ys.getD j 0 ∧ ys.getD j 0 ≤ 1099511627776) :
    Calls Try.prog 82 #[.slice a xs.length c, .slice b xs.length d] w fun e w' => ∃ a' c', e = .returned (.slice a' xs.length c') ∧ OwnI 2 w' w.heap.size w'.heap.size a' c' (lessF xs ys) ∧ Below w.heap.size w w' := by
  have h := h'.mono hB
  have g := g'.mono hC
  have Hx := Lib.hid hx0
  have Hy := Lib.hid hy0
  have Hlen := Lib.hid hlen
  clear hx0 hy0 h' g' hB hC hlen
  have Hs := Lib.hid (fun k hk => @lessF_take xs ys k hk)
  have Hl := Lib.hid (lessF_length xs ys)
  generalize lessF xs ys = zs at *
  go_enter Try.func82, Try.ntmps82
  go_wp2_with fail
  go_loopw [10, 5] (fun i v wr => ∃ (k : Nat) (u : Value), k ≤ xs.length ∧ i = .int .i64 k ∧ v = u ∧ Hid (wr.ownsRow w.heap.size 2 1 u k (ints (zs.take k))) ∧ Below w.heap.size w wr) (fun i _ _ => xs.length - (intOf i).toNat)
  case atStart => exact ⟨0, _, Nat.zero_le _, rfl, rfl, own_empty w _, bl1 w _⟩
  case round =>
    obtain ⟨k, u, hk, rfl, rfl, ho, hw⟩ := hrel
    by_cases hlt : k < xs.length
    · obtain ⟨b1, o1, rfl, hbb1, hca⟩ := h.at hlt
      obtain ⟨b2, o2, rfl, hbb2, hcb⟩ := g.at (k := k) (by rw [Hlen.out]; exact hlt)
      have ha0 := Lib.hid (hca k hlt)
      have hb0 := Lib.hid (hcb k (by rw [Hlen.out]; exact hlt))
      have ha := (hw.cell (p := ⟨b1, o1 + k, none⟩) hbb1).trans ha0.out
      have hb := (hw.cell (p := ⟨b2, o2 + k, none⟩) hbb2).trans hb0.out
      have hn := Lib.hid (Hs.out k hlt)
      obtain ⟨x0, x1⟩ := Hx.out k
      obtain ⟨y0, y1⟩ := Hy.out k
      generalize xs.getD k 0 = x at *
      generalize ys.getD k 0 = y at *
      have ho1 := ho.out
      clear h g ho hca hcb
      have hwp : Hid (IntKind.i64.wrap (x - y) = x - y) := IntWalk.i64_in _ (by omega)
      have hk2 : k ≤ 1099511627776 := by omega
      have ho2 := own_below ho1 (below_drew' (Below.refl wr.heap.size wr))
      have hw2 := below_drew' hw
      have hi0 : (0 : Int) ≤ (k : Int) := Int.natCast_nonneg _
      have hi1 : (k : Int) < (xs.length : Int) := by omega
      go_wp2_with fail
      go_region_held3 (fun w' => w'.cell? ⟨b1, o1 + k, none⟩ = some (.int .i64 x) ∧ w'.cell? ⟨b2, o2 + k, none⟩ = some (.int .i64 y))
        (first | go_keep | (have hbl := below_append hw2 ho2 hgr (Nat.le_refl _) hw2.size; exact ⟨(hbl.cell (p := ⟨b1, o1 + k, none⟩) hbb1).trans ha0.out, (hbl.cell (p := ⟨b2, o2 + k, none⟩) hbb2).trans hb0.out⟩))
        ((refine step_append_drew (wr := wr) (by rfl) _ _ 22 (by rfl) w.heap.size 2 (.int .i64 0) 8 Try.underlying22 info_i64p rfl _ k _ (by rfl) ho1 (.int .i64 (IntKind.i64.wrap (x - y))) rfl (by rfl) (by decide) hk2 hw.size ?_; intro v' w1 o1' hgr))
      all_goals
        have hbl := below_append hw2 ho2 hgr (Nat.le_refl _) hw2.size
        rw [hwp.out, show ints (zs.take k) ++ [Value.int .i64 (x - y)] = ints (zs.take (k + 1)) from by rw [hn.out, ints_append]; rfl] at o1'
        have HO := Lib.hid o1'
        clear ho1 ho2 hw2 hgr hw o1' ha hb
        go_wp2_with fail
        go_roundw
        case rel => exact ⟨k + 1, v', by omega, by go_num, rfl, HO, hbl⟩
        case measure => simp [intOf]; omega
    · have : k = xs.length := by omega
      subst this
      rw [show zs.take xs.length = zs from List.take_of_length_le (by rw [Hl.out]; exact Nat.le_refl _)] at ho
      obtain ⟨a1, c1, rfl, _, _⟩ := own_shape ho.out
      have hR : OwnI 2 wr w.heap.size wr.heap.size a1 c1 zs := OwnI.of_own (by rw [Hl.out]; exact ho.out)
      have HR := Lib.hid hR
      clear hR ho
      go_wp2_with fail
      go_ret
      exact ⟨_, _, rfl, HR.out, hw⟩
end Go.Proofs.Ythbclfaeplmjgaa
