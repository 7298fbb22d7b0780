/-
  Ballots: the reference's and the program's tests are one plain test.
-/
import Derived.Test.YthofpfnccgfohaaOrder
import Derived.Test.YthofpfnccgfohaaSlices
import Derived.Test.YthofpfnccgfohaaOwn
namespace Go.Proofs.Ythofpfnccgfohaa
set_option linter.unusedVariables false
set_option linter.unusedSimpArgs false
open Go.RowKit

/-- A slice of slices of integers reads as lists. -/
def RdII (w : World) (B : Nat) (a : Option Addr) (yss : List (List Int)) : Prop :=
  ∃ vs : List Value, vs.length = yss.length ∧ Rd w B a vs ∧ ∀ (k : Nat) (ys : List Int), yss[k]? = some ys → ∃ (a' : Option Addr) (c' : Nat), vs[k]? = some (Value.slice a' ys.length c') ∧ ys.length ≤ c' ∧ Rd w B a' (ints ys)
theorem RdII.below {w w' : World} {B C : Nat} {a : Option Addr} {yss : List (List Int)} (h : RdII w B a yss) (hb : Below C w w') (hB : B ≤ C) : RdII w' B a yss := by
  obtain ⟨vs, h1, h2, h3⟩ := h
  exact ⟨vs, h1, h2.below hb hB, fun k ys hk => let ⟨a', c', e1, e2, e3⟩ := h3 k ys hk; ⟨a', c', e1, e2, e3.below hb hB⟩⟩
theorem RdII.mono {w : World} {B C : Nat} {a : Option Addr} {yss : List (List Int)} (h : RdII w B a yss) (hB : B ≤ C) : RdII w C a yss := by
  obtain ⟨vs, h1, h2, h3⟩ := h
  exact ⟨vs, h1, h2.mono hB, fun k ys hk => let ⟨a', c', e1, e2, e3⟩ := h3 k ys hk; ⟨a', c', e1, e2, e3.mono hB⟩⟩
theorem RdII.to {w w' : World} {a : Option Addr} {yss : List (List Int)} (h : RdII w w.heap.size a yss) (hb : Below w.heap.size w w') : RdII w' w'.heap.size a yss := (h.below hb (Nat.le_refl _)).mono hb.size
theorem RdII.touch {w w' : World} {lo hi B : Nat} {a : Option Addr} {yss : List (List Int)} (h : RdII w B a yss) (ht : Touch w w' lo hi) (hB : B ≤ lo) (hs : B ≤ w.heap.size) : RdII w' B a yss := by
  obtain ⟨vs, h1, h2, h3⟩ := h
  exact ⟨vs, h1, h2.touch ht hB hs, fun k ys hk => let ⟨a', c', e1, e2, e3⟩ := h3 k ys hk; ⟨a', c', e1, e2, e3.touch ht hB hs⟩⟩
theorem RdII.get {w : World} {B : Nat} {a : Option Addr} {yss : List (List Int)} (h : RdII w B a yss) {k : Nat} (hk : k < yss.length) :
    ∃ b o ys a' c', a = some ⟨b, o, none⟩ ∧ b < B ∧ w.cell? ⟨b, o + k, none⟩ = some (.slice a' ys.length c') ∧ ys.length ≤ c' ∧ Rd w B a' (ints ys) ∧ Hid (yss[k]? = some ys) := by
  obtain ⟨vs, h1, h2, h3⟩ := h
  obtain ⟨b, o, v, ha, hb, hc, hv⟩ := h2.getV (k := k) (by omega)
  obtain ⟨a', c', e1, e2, e3⟩ := h3 k yss[k] (List.getElem?_eq_getElem hk)
  have hv' := hv.out
  rw [e1] at hv'
  injection hv' with hv'
  exact ⟨b, o, yss[k], a', c', ha, hb, by rw [hc, hv'], e2, e3, by simp [Hid, List.getElem?_eq_getElem hk]⟩

/-- How many are on each ballot. -/
def wide (yss : List (List Int)) : Nat := (yss.headD []).length
def ballotsB (yss : List (List Int)) : Bool := decide (1 ≤ yss.length) && decide (yss.length ≤ 32) && decide (1 ≤ wide yss) && decide (wide yss ≤ 12) && yss.all fun b => orderB b (wide yss)
theorem wide_of_get {yss : List (List Int)} {ys : List Int} (h : yss[0]? = some ys) : wide yss = ys.length := by
  cases yss with
  | nil => simp at h
  | cons x xs => simp at h; simp [wide, h]
theorem ballotsB_iff {yss : List (List Int)} : ballotsB yss = true ↔ (1 ≤ yss.length ∧ yss.length ≤ 32) ∧ (1 ≤ wide yss ∧ wide yss ≤ 12) ∧ ∀ b ∈ yss, orderB b (wide yss) = true := by
  simp only [ballotsB, Bool.and_eq_true, decide_eq_true_iff, List.all_eq_true, and_assoc]
theorem ballotsB_all {yss : List (List Int)} (h1 : 1 ≤ yss.length) (h2 : yss.length ≤ 32) (h3 : 1 ≤ wide yss) (h4 : wide yss ≤ 12) : ballotsB yss = yss.all fun b => orderB b (wide yss) := by
  simp [ballotsB, h1, h2, h3, h4]
theorem all_take_succ {α : Type} {xs : List α} {k : Nat} {x : α} {p : α → Bool} (hx : xs[k]? = some x) (h : (xs.take k).all p = true) (h2 : p x = true) : (xs.take (k + 1)).all p = true := by
  rw [List.take_add_one, hx]; simp [h2] at *; exact h
theorem all_false {α : Type} {xs : List α} {k : Nat} {x : α} {p : α → Bool} (hx : xs[k]? = some x) (h2 : p x = false) : xs.all p = false := by
  rw [← Bool.not_eq_true]; intro h
  have := List.all_eq_true.1 h x (List.mem_of_getElem? hx)
  rw [h2] at this; cases this

set_option maxHeartbeats 2000000 in
theorem l07Ballots_any (w : World) (a : Option Addr) (c : Nat) (yss : List (List Int)) (h : RdII w w.heap.size a yss) (hl : yss.length ≤ 1152921504606846976) (hin : ∀ b ∈ yss, b.length ≤ 1152921504606846976) :
    Calls Try.prog 28 #[.slice a yss.length c] w fun e w' => e = .returned (.bool (ballotsB yss)) ∧ ∃ m, w' = w.drewN m := by
  by_cases h1 : 1 ≤ yss.length
  · by_cases h2 : yss.length ≤ 32
    · obtain ⟨b, o, y0, a0, c0, rfl, hbb, hcell0, hc0, hr0, hy0⟩ := h.get (k := 0) (by omega)
      rw [Nat.add_zero] at hcell0
      have hw0 := wide_of_get hy0.out
      have hl0 := hin _ (List.mem_of_getElem? hy0.out)
      by_cases h3 : 1 ≤ y0.length
      · by_cases h4 : y0.length ≤ 12
        · have HF := Lib.hid (ballotsB_all h1 h2 (by omega) (by omega))
          have Hin := Lib.hid hin
          have Hw := Lib.hid hw0
          clear hin hw0
          go_enter Try.func28, Try.ntmps28
          go_wp2
          go_loopw [25] (fun i wr => ∃ k m : Nat, k ≤ yss.length ∧ i = .int .i64 k ∧ Hid ((yss.take k).all (fun b => orderB b (wide yss)) = true) ∧ wr = w.drewN m) (fun i _ => yss.length - (intOf i).toNat)
          case atStart => exact ⟨0, 0, Nat.zero_le _, rfl, by simp [Hid], rfl⟩
          case round =>
            obtain ⟨k, m, hk, rfl, ha, rfl⟩ := hrel
            by_cases hlt : k < yss.length
            · obtain ⟨b1, o1, ys, a1, c1, e1, _, hcell, hc1, hr1, hy1⟩ := h.get hlt
              injection e1 with e1
              injection e1 with e11 e12
              subst e11 e12
              have L := Lib.hid (l07Order_any (w.drewN m) a1 c1 y0.length ys hr1 hc1 (Hin.out _ (List.mem_of_getElem? hy1.out)) (by omega))
              clear h
              have ho : orderB ys (wide yss) = orderB ys y0.length := by rw [Hw.out]
              cases hob : orderB ys y0.length with
              | true =>
                rw [hob] at L ho
                have Ho := Lib.hid ho
                clear ho
                go_wp2_with (go_at_call 46; refine L.out.mono ?_; rintro e w' ⟨rfl, n, rfl⟩)
                go_roundw
                case rel => exact ⟨k + 1, m + n, by omega, by go_num, all_take_succ hy1.out ha.out Ho.out, by first | rfl | exact World.drewN_drewN _ _ _⟩
                case measure => simp [intOf]; omega
              | false =>
                rw [hob] at L ho
                have Ho := Lib.hid ho
                clear ho
                go_wp2_with (go_at_call 46; refine L.out.mono ?_; rintro e w' ⟨rfl, n, rfl⟩)
                go_ret
                exact ⟨ret_bool (by rw [HF.out, all_false hy1.out Ho.out]), m + n, by first | rfl | exact World.drewN_drewN _ _ _⟩
            · have : k = yss.length := by omega
              subst this
              rw [List.take_length] at ha
              go_wp2
              go_ret
              exact ⟨ret_bool (by rw [HF.out, ha.out]), m, rfl⟩
        · have HF : Hid (ballotsB yss = false) := by have : ¬ wide yss ≤ 12 := by omega
                                                     simp [Hid, ballotsB, this]
          clear hin h hw0
          go_enter Try.func28, Try.ntmps28
          go_wp2
          go_ret
          exact ⟨ret_bool HF.out.symm, 0, rfl⟩
      · have HF : Hid (ballotsB yss = false) := by have : ¬ 1 ≤ wide yss := by omega
                                                   simp [Hid, ballotsB, this]
        clear hin h hw0
        go_enter Try.func28, Try.ntmps28
        go_wp2
        go_ret
        exact ⟨ret_bool HF.out.symm, 0, rfl⟩
    · have HF : Hid (ballotsB yss = false) := by simp [Hid, ballotsB, h2]
      clear hin h
      go_enter Try.func28, Try.ntmps28
      go_wp2
      go_ret
      exact ⟨ret_bool HF.out.symm, 0, rfl⟩
  · have HF : Hid (ballotsB yss = false) := by simp [Hid, ballotsB, h1]
    have hl0 : yss.length = 0 := by omega
    have : yss = [] := List.eq_nil_of_length_eq_zero hl0
    subst this
    clear hin h hl h1 hl0
    go_enter Try.func28, Try.ntmps28
    go_wp2
    go_ret
    exact ⟨ret_bool HF.out.symm, 0, rfl⟩
theorem ballot_no (w : World) (g b o n c n0 c0 c1 : Nat) (a0 a1 : Option Addr) (ys : List Int) (hg : w.cell? ⟨g, 0, none⟩ = some (.slice (some ⟨b, o, none⟩) n c)) (hn : 1 ≤ n) (hb : w.cell? ⟨b, o, none⟩ = some (.slice a0 n0 c0))
    (h : Rd w w.heap.size a1 (ints ys)) (hl : ys.length ≤ 1048576) (hn0 : n0 ≤ 1048576) :
    Calls Try.prog 30 #[.slice a1 ys.length c1, .pointer (some ⟨g, 0, none⟩)] w fun e w' => e = .returned (.bool (!orderB ys n0)) ∧ Below w.heap.size w w' := by
  by_cases e : ys.length = n0
  · subst e
    have t1 : ((ys.length : Int) != (ys.length : Int)) = false := by simp
    have HF : Hid (orderB ys ys.length = onceB ys ys.length) := by simp [Hid, orderB]
    go_enter Try.func30, Try.ntmps30
    have L := Lib.hid (isAll_any w a1 c1 ys h hl)
    clear h
    go_wp2_with fail
    refine L.out.mono ?_
    rintro e w' ⟨rfl, hw⟩
    go_wp2_with fail
    go_ret
    exact ⟨ret_bool (by rw [HF.out]), hw⟩
  · have t1 : ((ys.length : Int) != (n0 : Int)) = true := by simp; omega
    have HF : Hid (orderB ys n0 = false) := by simp [Hid, orderB, e]
    go_enter Try.func30, Try.ntmps30
    go_wp2
    go_ret
    exact ⟨ret_bool (by rw [HF.out]; rfl), Below.refl _ _⟩
theorem enter_ballot (args : Array Value) (w : World) : (callFunc 30 args).run Try.prog w = .ok (.enter 30 args) w := by kernel_rfl
set_option maxHeartbeats 2000000 in
theorem areBallots_any (w : World) (a : Option Addr) (c : Nat) (yss : List (List Int)) (h : RdII w w.heap.size a yss) (hl : yss.length ≤ 1048576) (hin : ∀ b ∈ yss, b.length ≤ 1048576) :
    Calls Try.prog 12 #[.slice a yss.length c] w fun e w' => e = .returned (.bool (ballotsB yss)) ∧ Below w.heap.size w w' := by
  by_cases h1 : 1 ≤ yss.length
  · by_cases h2 : yss.length ≤ 32
    · obtain ⟨b, o, y0, a0, c0, rfl, hbb, hcell0, hc0, hr0, hy0⟩ := h.get (k := 0) (by omega)
      rw [Nat.add_zero] at hcell0
      have hw0 := wide_of_get hy0.out
      have hl0 := hin _ (List.mem_of_getElem? hy0.out)
      by_cases h3 : 1 ≤ y0.length
      · by_cases h4 : y0.length ≤ 12
        · have hcell1 : (w.alloc (.cells #[.slice (some ⟨b, o, none⟩) yss.length c] 25)).cell? ⟨b, o, none⟩ = some (.slice a0 y0.length c0) := by
            rw [← hcell0]; exact (bl1 w _).cell (p := ⟨b, o, none⟩) hbb
          obtain ⟨vs, e1, e2, e3⟩ := h.to (bl1 w (.cells #[.slice (some ⟨b, o, none⟩) yss.length c] 25))
          have L := containsFunc_L 30 #[.pointer (some ⟨w.heap.size, 0, none⟩)] enter_ballot (w.alloc (.cells #[.slice (some ⟨b, o, none⟩) yss.length c] 25)) (some ⟨b, o, none⟩) c vs (fun j => !orderB (yss.getD j []) y0.length) e2 (by omega) ?_
          · rw [e1] at L
            have hF : anyI (fun j => !orderB (yss.getD j []) y0.length) yss.length = !ballotsB yss := by
              rw [ballotsB_all h1 h2 (by omega) (by omega), hw0]
              cases hA : yss.all (fun b => orderB b y0.length) with
              | true =>
                refine anyI_no.2 fun k hk => ?_
                have := List.all_eq_true.1 hA yss[k] (List.getElem_mem hk)
                simp [List.getD, List.getElem?_eq_getElem hk, this]
              | false =>
                refine anyI_iff.2 ?_
                rw [List.all_eq_false] at hA
                obtain ⟨x, hx, hxx⟩ := hA
                obtain ⟨k, hk, e⟩ := List.getElem_of_mem hx
                refine ⟨k, hk, ?_⟩
                simp [List.getD, List.getElem?_eq_getElem hk, e, hxx]
            rw [hF] at L
            have HL := Lib.hid L
            clear L hF e1 e2 e3 h hin hw0 hcell1
            go_enter Try.func12, Try.ntmps12
            go_wp2_with fail
            refine HL.out.mono ?_
            rintro e w1 ⟨rfl, hw1⟩
            have hw1' := below_then (bl1 w _) hw1
            go_wp2_with fail
            go_ret
            exact ⟨ret_bool (by simp), hw1'⟩
          · intro w2 j v hw2 hv
            have hj : j < yss.length := by
              rw [← e1]
              exact (List.getElem?_eq_some_iff.1 hv).1
            obtain ⟨a', c', e4, e5, e6⟩ := e3 j (yss.getD j []) (by simp [List.getD, List.getElem?_eq_getElem hj])
            rw [e4] at hv
            injection hv with hv
            subst hv
            have hm : yss.getD j [] ∈ yss := by simp only [List.getD, List.getElem?_eq_getElem hj]; exact List.getElem_mem hj
            refine ballot_no w2 w.heap.size b o yss.length c y0.length c0 c' a0 a' (yss.getD j []) ?_ h1 ?_ (e6.to hw2) (hin _ hm) (by omega)
            · rw [hw2.cell (p := ⟨w.heap.size, 0, none⟩) (by simp)]
              exact (Blk.new w [.slice (some ⟨b, o, none⟩) yss.length c] 25).cell 0
            · rw [hw2.cell (p := ⟨b, o, none⟩) (by simp; omega)]; exact hcell1
        · have HF : Hid (ballotsB yss = false) := by have : ¬ wide yss ≤ 12 := by omega
                                                     simp [Hid, ballotsB, this]
          clear hin h hw0
          go_enter Try.func12, Try.ntmps12
          go_wp2
          go_ret
          exact ⟨ret_bool HF.out.symm, bl1 _ _⟩
      · have HF : Hid (ballotsB yss = false) := by have : ¬ 1 ≤ wide yss := by omega
                                                   simp [Hid, ballotsB, this]
        clear hin h hw0
        go_enter Try.func12, Try.ntmps12
        go_wp2
        go_ret
        exact ⟨ret_bool HF.out.symm, bl1 _ _⟩
    · have HF : Hid (ballotsB yss = false) := by simp [Hid, ballotsB, h2]
      clear hin h
      go_enter Try.func12, Try.ntmps12
      go_wp2
      go_ret
      exact ⟨ret_bool HF.out.symm, bl1 _ _⟩
  · have HF : Hid (ballotsB yss = false) := by simp [Hid, ballotsB, h1]
    have hl0 : yss.length = 0 := by omega
    have : yss = [] := List.eq_nil_of_length_eq_zero hl0
    subst this
    clear hin h hl h1 hl0
    go_enter Try.func12, Try.ntmps12
    go_wp2
    go_ret
    exact ⟨ret_bool HF.out.symm, bl1 _ _⟩
end Go.Proofs.Ythofpfnccgfohaa
