/-
  A stable sort of few elements: the library's insertion sort, and what it leaves as a plain list.
-/
import Derived.Test.YthofpfnccgfohaaSlices
namespace Go.Proofs.Ythofpfnccgfohaa
set_option linter.unusedVariables false
set_option linter.unusedSimpArgs false
open Go.RowKit

/-- x is put in from behind: past those that it is before. -/
def insRv (lt : Int → Int → Bool) (x : Int) : List Int → List Int
  | [] => [x]
  | y :: ys => if lt x y then y :: insRv lt x ys else x :: y :: ys
def sortRv (lt : Int → Int → Bool) (xs : List Int) : List Int := xs.foldl (fun p x => insRv lt x p) []
/-- The list in order, what is even as it stood. -/
def stab (lt : Int → Int → Bool) (xs : List Int) : List Int := (sortRv lt xs).reverse
theorem insRv_perm (lt : Int → Int → Bool) (x : Int) : ∀ p, (insRv lt x p).Perm (x :: p)
  | [] => List.Perm.refl _
  | y :: ys => by
    unfold insRv
    split
    · exact ((insRv_perm lt x ys).cons y).trans (List.Perm.swap _ _ _)
    · exact List.Perm.refl _
theorem foldl_perm (lt : Int → Int → Bool) : ∀ (xs p : List Int), (xs.foldl (fun p x => insRv lt x p) p).Perm (xs ++ p)
  | [], p => List.Perm.refl _
  | x :: xs, p => by
    show (xs.foldl _ (insRv lt x p)).Perm _
    refine (foldl_perm lt xs _).trans ?_
    refine ((insRv_perm lt x p).append_left xs).trans ?_
    exact List.perm_middle
theorem sortRv_perm (lt : Int → Int → Bool) (xs : List Int) : (sortRv lt xs).Perm xs := by
  have := foldl_perm lt xs []
  rwa [List.append_nil] at this
theorem stab_perm (lt : Int → Int → Bool) (xs : List Int) : (stab lt xs).Perm xs := (List.reverse_perm _).trans (sortRv_perm lt xs)
theorem stab_length (lt : Int → Int → Bool) (xs : List Int) : (stab lt xs).length = xs.length := (stab_perm lt xs).length_eq
theorem sortRv_succ (lt : Int → Int → Bool) {xs : List Int} {k : Nat} {x : Int} (h : xs[k]? = some x) : sortRv lt (xs.take (k + 1)) = insRv lt x (sortRv lt (xs.take k)) := by
  rw [List.take_add_one, h]
  simp [sortRv, List.foldl_append]
theorem insRv_pairwise (lt : Int → Int → Bool) (R : Int → Int → Prop) (tr : ∀ a b c, R a b → R b c → R a c) (x : Int) : ∀ p : List Int, p.Pairwise (fun a b => R b a) → (∀ y ∈ p, (lt x y = true → R x y) ∧ (lt x y = false → R y x)) → (insRv lt x p).Pairwise (fun a b => R b a)
  | [], _, _ => by simp [insRv]
  | y :: ys, h, hl => by
    obtain ⟨h1, h2⟩ := List.pairwise_cons.1 h
    obtain ⟨l1, l2⟩ := hl y (List.mem_cons_self)
    unfold insRv
    cases hx : lt x y with
    | true =>
      simp only [if_true]
      refine List.pairwise_cons.2 ⟨fun z hz => ?_, insRv_pairwise lt R tr x ys h2 (fun z hz => hl z (List.mem_cons_of_mem _ hz))⟩
      rcases List.mem_cons.1 ((insRv_perm lt x ys).mem_iff.1 hz) with rfl | hz
      · exact l1 hx
      · exact h1 z hz
    | false =>
      simp only [Bool.false_eq_true, if_false]
      refine List.pairwise_cons.2 ⟨fun z hz => ?_, h⟩
      rcases List.mem_cons.1 hz with rfl | hz
      · exact l2 hx
      · exact tr _ _ _ (h1 z hz) (l2 hx)

theorem swap_cells (A B : List Value) (u v : Value) : ((A ++ u :: v :: B).set (A.length + 1) u).set A.length v = A ++ v :: u :: B := by
  rw [List.set_append_right _ _ (by omega), Nat.add_sub_cancel_left]
  simp
theorem swap_cells' (A B : List Value) (u v : Value) : ((A ++ u :: v :: B).set A.length v).set (A.length + 1) u = A ++ v :: u :: B := by
  rw [List.set_append_right _ _ (Nat.le_refl _), Nat.sub_self, List.set_cons_zero, List.set_append_right _ _ (by omega), Nat.add_sub_cancel_left]
  simp
theorem set_grown (w : World) (g j : Nat) (u : Value) : w.grownBy (w.setCell ⟨g, j, none⟩ u) (some g) := ⟨rfl, rfl, rfl, by simp, fun i _ hi => Below.heap_setCell _ _ _ _ (fun e => hi (by simp [e]))⟩
theorem drewN_grown (w : World) (n : Nat) (r : Option Nat) : w.grownBy (w.drewN n) r := ⟨rfl, rfl, rfl, Nat.le_refl _, fun _ _ _ => rfl⟩

set_option maxHeartbeats 4000000 in
theorem insertion_any (K : Nat) (caps : Array Value) (cf : Int → Int → Int) (hK : ∀ (args : Array Value) (w : World), (callFunc K args).run Try.prog w = .ok (.enter K args) w)
    (w : World) (g c : Nat) (xs : List Int) (tl : List Value) (h : Blk w g (ints xs ++ tl) 2) (hl : xs.length ≤ 1048576) (hcf : ∀ x y, -1 ≤ cf x y ∧ cf x y ≤ 1)
    (hcall : ∀ w' x y, w.grownBy w' (some g) → x ∈ xs → y ∈ xs → Calls Try.prog K (#[.int .i64 x, .int .i64 y] ++ caps) w' fun e w'' => e = .returned (.int .i64 (cf x y)) ∧ ∃ k, w'' = w'.drewN k) :
    Calls Try.prog 54 #[.slice (some ⟨g, 0, none⟩) xs.length c, .int .i64 0, .int .i64 xs.length, .func (.func K) #[] caps] w fun e w' => e = .returned (.tuple #[]) ∧ Blk w' g (ints (stab (fun x y => decide (cf x y < 0)) xs) ++ tl) 2 ∧ w.grownBy w' (some g) := by
  have Hc := Lib.hid hcall
  have Hcf := Lib.hid hcf
  obtain ⟨lt, hlt⟩ : ∃ lt : Int → Int → Bool, lt = fun x y => decide (cf x y < 0) := ⟨_, rfl⟩
  rw [← hlt]
  have Hlt : Hid (∀ x y, lt x y = decide (cf x y < 0)) := fun x y => by rw [hlt]
  have h1 : Blk w g (ints ((sortRv lt (xs.take 1)).reverse ++ xs.drop 1) ++ tl) 2 := by
    have : (sortRv lt (xs.take 1)).reverse ++ xs.drop 1 = xs := by cases xs <;> simp [sortRv, insRv]
    rw [this]; exact h
  clear hcall hcf h hlt
  go_enter Try.func54, Try.ntmps54
  go_wp2
  go_loopw [8] (fun i wr => ∃ k : Nat, 1 ≤ k ∧ (k ≤ xs.length ∨ k = 1) ∧ i = .int .i64 k ∧ Blk wr g (ints ((sortRv lt (xs.take k)).reverse ++ xs.drop k) ++ tl) 2 ∧ w.grownBy wr (some g)) (fun i _ => xs.length + 1 - (intOf i).toNat)
  case atStart => exact ⟨1, Nat.le_refl _, .inr rfl, by go_num, h1, World.grownBy.refl _ _⟩
  case round =>
    clear h1
    obtain ⟨k, hk1, hk, rfl, hb, hw⟩ := hrel
    by_cases hlk : k < xs.length
    · obtain ⟨x, hx⟩ : ∃ x, xs[k]? = some x := ⟨xs[k], List.getElem?_eq_getElem hlk⟩
      have hd : xs.drop k = x :: xs.drop (k + 1) := by
        rw [List.drop_eq_getElem_cons hlk]
        rw [List.getElem?_eq_getElem hlk] at hx
        injection hx with hx
        rw [hx]
      have HS := Lib.hid (sortRv_succ lt hx)
      have hp := sortRv_perm lt (xs.take k)
      have hpl : (sortRv lt (xs.take k)).length = k := by rw [hp.length_eq]; simp; omega
      have hpm : ∀ y ∈ sortRv lt (xs.take k), y ∈ xs := fun y hy => List.mem_of_mem_take (hp.mem_iff.1 hy)
      have hxm : x ∈ xs := List.mem_of_getElem? hx
      rw [hd] at hb
      generalize sortRv lt (xs.take k) = p at *
      generalize hdr : xs.drop (k + 1) = dr at *
      have Hdr := Lib.hid hdr
      clear hdr
      clear hd hx hp
      have Hpl := Lib.hid hpl
      have Hpm := Lib.hid hpm
      clear hpl hpm
      obtain ⟨wo, rfl⟩ : ∃ wo : World, wo = wr := ⟨_, rfl⟩
      go_wp2_with fail
      go_loopw [9] (fun j wi => ∃ rp mv : List Int, Hid (insRv lt x p = mv.reverse ++ insRv lt x rp ∧ ∀ y ∈ rp, y ∈ xs) ∧ rp.length ≤ k ∧ j = .int .i64 rp.length ∧ Blk wi g (ints (rp.reverse ++ x :: mv ++ dr) ++ tl) 2 ∧ w.grownBy wi (some g)) (fun j _ => (intOf j).toNat)
      case atStart => exact ⟨p, [], ⟨by simp, Hpm.out⟩, by rw [Hpl.out]; exact Nat.le_refl _, by rw [Hpl.out], by simpa using hb, hw⟩
      case round =>
        clear hb hw
        obtain ⟨rp, mv, hm, hrk, rfl, hb, hw⟩ := hrel
        cases rp with
        | nil =>
          have hF : Blk wr g (ints ((sortRv lt (xs.take (k + 1))).reverse ++ dr) ++ tl) 2 := by
            rw [HS.out, hm.out.1]
            simpa [insRv] using hb
          clear hb
          go_wp2_with fail
          go_quiet (fail)
          go_wp2_with fail
          go_roundw
          case rel => exact ⟨k + 1, by omega, .inl (by omega), by go_num, by rw [Hdr.out]; first | exact hF | exact hF.drewN _, by first | exact hw | exact grown_of_grown hw (drewN_grown _ _ _)⟩
          case measure => simp [intOf]; omega
        | cons y rp =>
          have hL : ints ((y :: rp).reverse ++ x :: mv ++ dr) ++ tl = ints rp.reverse ++ .int .i64 y :: .int .i64 x :: (ints (mv ++ dr) ++ tl) := by simp [ints]
          rw [hL] at hb
          have c1 := hb.cell (rp.length + 1)
          have c2 := hb.cell rp.length
          have e1 : (ints rp.reverse ++ .int .i64 y :: .int .i64 x :: (ints (mv ++ dr) ++ tl))[rp.length + 1]? = some (.int .i64 x) := by
            rw [List.getElem?_append_right (by simp)]; simp
          have e2 : (ints rp.reverse ++ .int .i64 y :: .int .i64 x :: (ints (mv ++ dr) ++ tl))[rp.length]? = some (.int .i64 y) := by
            rw [List.getElem?_append_right (by simp)]; simp
          rw [e1] at c1
          rw [e2] at c2
          have s1 := swap_cells (ints rp.reverse) (ints (mv ++ dr) ++ tl) (.int .i64 y) (.int .i64 x)
          rw [ints_length, List.length_reverse] at s1
          have f1 := hb.free (rp.length + 1)
          have f2 := hb.free rp.length
          have hst := (hb.set (rp.length + 1) (.int .i64 y)).set rp.length (.int .i64 x)
          rw [s1] at hst
          have HC := Lib.hid (fun v => Hc.out (wr.drewN v) x y (grown_of_grown hw (drewN_grown _ _ _)) hxm (hm.out.2 y List.mem_cons_self))
          have hlxy := Hlt.out x y
          obtain ⟨b0, b1⟩ := Hcf.out x y
          simp only [List.length_cons] at hrk
          generalize cf x y = r at *
          clear e1 e2 hL
          have hI : Hid (insRv lt x p = mv.reverse ++ if lt x y then y :: insRv lt x rp else x :: y :: rp) := hm.out.1
          by_cases hr : r < 0
          · rw [hlxy, decide_eq_true hr] at hI
            have hM : Hid (insRv lt x p = (y :: mv).reverse ++ insRv lt x rp ∧ ∀ z ∈ rp, z ∈ xs) := ⟨by rw [hI.out]; simp, fun z hz => hm.out.2 z (List.mem_cons_of_mem _ hz)⟩
            have hN : Hid (ints (rp.reverse ++ x :: (y :: mv) ++ dr) ++ tl = ints rp.reverse ++ .int .i64 x :: .int .i64 y :: (ints (mv ++ dr) ++ tl)) := by simp [Hid, ints]
            clear hm hI hlxy
            go_wp2_with fail
            go_quiet (exact qd1 (HC.out _))
            go_wp2_with fail
            go_region
            go_wp2_with fail
            have hB2 : Blk (((wr.drewN (nq + 1)).setCell ⟨g, rp.length + 1, none⟩ (.int .i64 y)).setCell ⟨g, rp.length, none⟩ (.int .i64 x)) g (ints (rp.reverse ++ x :: (y :: mv) ++ dr) ++ tl) 2 := by
              rw [hN.out, ← s1]
              exact ((hb.drewN (nq + 1)).set (rp.length + 1) (.int .i64 y)).set rp.length (.int .i64 x)
            have hG2 : w.grownBy (((wr.drewN (nq + 1)).setCell ⟨g, rp.length + 1, none⟩ (.int .i64 y)).setCell ⟨g, rp.length, none⟩ (.int .i64 x)) (some g) :=
              grown_of_grown (grown_of_grown (grown_of_grown hw (drewN_grown _ _ _)) (set_grown _ _ _ _)) (set_grown _ _ _ _)
            go_roundw
            case rel => exact ⟨rp, y :: mv, hM, by omega, by go_num, hB2, hG2⟩
            case measure => simp [intOf]
          · rw [hlxy, decide_eq_false hr] at hI
            have hF : Hid (Blk wr g (ints ((sortRv lt (xs.take (k + 1))).reverse ++ dr) ++ tl) 2) := by
              show Blk _ _ _ _
              have : (sortRv lt (xs.take (k + 1))).reverse ++ dr = rp.reverse ++ y :: x :: (mv ++ dr) := by rw [HS.out, hI.out]; simp
              rw [this]
              simpa [ints] using hb
            clear hm hI hlxy hst hb
            go_wp2_with fail
            go_quiet (exact qd1 (HC.out _))
            go_wp2_with fail
            go_roundw
            case rel => exact ⟨k + 1, by omega, .inl (by omega), by go_num, by rw [Hdr.out]; first | exact hF.out | exact hF.out.drewN _, by first | exact hw | exact grown_of_grown hw (drewN_grown _ _ _)⟩
            case measure => simp [intOf]; omega
    · have hF : Blk wr g (ints (stab lt xs) ++ tl) 2 := by
        rw [List.take_of_length_le (by omega), List.drop_eq_nil_of_le (by omega), List.append_nil] at hb
        exact hb
      go_wp2
      go_end0
      exact ⟨rfl, hF, hw⟩
set_option maxHeartbeats 2000000 in
theorem stableCmp_any (K : Nat) (caps : Array Value) (cf : Int → Int → Int) (hK : ∀ (args : Array Value) (w : World), (callFunc K args).run Try.prog w = .ok (.enter K args) w)
    (w : World) (g c : Nat) (xs : List Int) (tl : List Value) (h : Blk w g (ints xs ++ tl) 2) (hl : xs.length ≤ 19) (hcf : ∀ x y, -1 ≤ cf x y ∧ cf x y ≤ 1)
    (hcall : ∀ w' x y, w.grownBy w' (some g) → x ∈ xs → y ∈ xs → Calls Try.prog K (#[.int .i64 x, .int .i64 y] ++ caps) w' fun e w'' => e = .returned (.int .i64 (cf x y)) ∧ ∃ k, w'' = w'.drewN k) :
    Calls Try.prog 53 #[.slice (some ⟨g, 0, none⟩) xs.length c, .int .i64 xs.length, .func (.func K) #[] caps] w fun e w' => e = .returned (.tuple #[]) ∧ Blk w' g (ints (stab (fun x y => decide (cf x y < 0)) xs) ++ tl) 2 ∧ w.grownBy w' (some g) := by
  have L := Lib.hid (insertion_any K caps cf hK w g c xs tl h (by omega) hcf hcall)
  clear h hcf hcall hK
  go_enter Try.func53, Try.ntmps53
  go_wp2_with fail
  refine wp_loop_rounds 1 ?_
  rw [rounds_succ]
  go_wp2_with fail
  refine L.out.mono ?_
  rintro e w1 ⟨rfl, hb, hg⟩
  go_wp2_with fail
  refine wp_loop_rounds 1 ?_
  rw [rounds_succ]
  go_wp2_with fail
  go_end0
  exact ⟨rfl, hb, hg⟩
theorem sortStable_any (K : Nat) (caps : Array Value) (cf : Int → Int → Int) (hK : ∀ (args : Array Value) (w : World), (callFunc K args).run Try.prog w = .ok (.enter K args) w)
    (w : World) (g c : Nat) (xs : List Int) (tl : List Value) (h : Blk w g (ints xs ++ tl) 2) (hl : xs.length ≤ 19) (hcf : ∀ x y, -1 ≤ cf x y ∧ cf x y ≤ 1)
    (hcall : ∀ w' x y, w.grownBy w' (some g) → x ∈ xs → y ∈ xs → Calls Try.prog K (#[.int .i64 x, .int .i64 y] ++ caps) w' fun e w'' => e = .returned (.int .i64 (cf x y)) ∧ ∃ k, w'' = w'.drewN k) :
    Calls Try.prog 48 #[.slice (some ⟨g, 0, none⟩) xs.length c, .func (.func K) #[] caps] w fun e w' => e = .returned (.tuple #[]) ∧ Blk w' g (ints (stab (fun x y => decide (cf x y < 0)) xs) ++ tl) 2 ∧ w.grownBy w' (some g) := by
  have L := Lib.hid (stableCmp_any K caps cf hK w g c xs tl h hl hcf hcall)
  clear h hcf hcall hK
  go_enter Try.func48, Try.ntmps48
  go_wp2_with fail
  refine L.out.mono ?_
  rintro e w1 ⟨rfl, hb, hg⟩
  go_wp2_with fail
  go_end0
  exact ⟨rfl, hb, hg⟩
end Go.Proofs.Ythofpfnccgfohaa
