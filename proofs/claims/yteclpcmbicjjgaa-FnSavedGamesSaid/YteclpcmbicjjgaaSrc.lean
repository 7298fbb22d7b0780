/-
  The source that draws numbers out of bytes: what it gives is in its range; only its own block turns.
-/
import Derived.Test.YteclpcmbicjjgaaBytes
import Derived.Test.YteclpcmbicjjgaaOwn
namespace Go.Proofs.Yteclpcmbicjjgaa
set_option linter.unusedVariables false
set_option linter.unusedSimpArgs false
open Go.RowKit

/-- A source over a slice of bytes, some of which are used. -/
def Src (w : World) (b : Nat) (a : Option Addr) (n c : Nat) (p : Nat) : Prop := ∃ seed : Int, (0 ≤ seed ∧ seed < 18446744073709551616) ∧ Blk w b [.slice a n c, .int .i64 p, .int .u64 seed] 109
theorem Src.same {w w' : World} {b n c p : Nat} {a : Option Addr} (h : Src w b a n c p) (hb : Below w.heap.size w w') : Src w' b a n c p := by
  obtain ⟨s, h1, h2⟩ := h
  exact ⟨s, h1, h2.same hb⟩
theorem l00From_any (w : World) (a : Option Addr) (n c : Nat) :
    Calls Try.prog 63 #[.slice a n c] w fun e w' => e = .returned (.pointer (some ⟨w.heap.size, 0, none⟩)) ∧ Src w' w.heap.size a n c 0 ∧ Below w.heap.size w w' ∧ w'.heap.size = w.heap.size + 1 := by
  have K := Blk.new w [.slice a n c, .int .i64 0, .int .u64 0] 109
  have B := bl1 w (.cells #[.slice a n c, .int .i64 0, .int .u64 0] 109)
  go_enter Try.func63, Try.ntmps63
  go_wp2_with fail
  go_ret
  exact ⟨rfl, ⟨0, by omega, K⟩, B, by simp⟩
theorem u64_eq (x : Int) : IntKind.u64.wrap x = x % 18446744073709551616 := by
  show (if (false && decide (x % 2 ^ 64 ≥ 2 ^ (64 - 1))) = true then x % 2 ^ 64 - 2 ^ 64 else x % 2 ^ 64) = _
  simp
theorem and255 (a : Nat) (ha : a < 18446744073709551616) : bits .and .u64 (a : Int) 255 = ((a % 256 : Nat) : Int) := by
  show IntKind.u64.wrap ((BitVec.ofInt 64 (a : Int) &&& BitVec.ofInt 64 (255 : Int)).toNat : Int) = _
  have h1 : (BitVec.ofInt 64 (255 : Int)).toNat = 255 := by decide
  have h2 : (BitVec.ofInt 64 (a : Int)).toNat = a := by rw [BitVec.ofInt_natCast, BitVec.toNat_ofNat]; exact Nat.mod_eq_of_lt (by omega)
  rw [BitVec.toNat_and, h1, h2, show a &&& 255 = a % 256 from Nat.and_two_pow_sub_one_eq_mod a 8, u64_eq]
  have := Nat.mod_lt a (show 0 < 256 by omega)
  omega
theorem u64_rng (x : Int) : 0 ≤ IntKind.u64.wrap x ∧ IntKind.u64.wrap x < 18446744073709551616 := by
  rw [u64_eq]; omega
theorem byte_end (S : Int) (h0 : 0 ≤ S) (h1 : S < 18446744073709551616) : 0 ≤ wrap64 (bits .and .u64 (S / 1099511627776) 255) ∧ wrap64 (bits .and .u64 (S / 1099511627776) 255) ≤ 255 := by
  obtain ⟨n, hn⟩ : ∃ n : Nat, S / 1099511627776 = n := ⟨(S / 1099511627776).toNat, by omega⟩
  rw [hn, and255 n (by omega)]
  have := Nat.mod_lt n (show 0 < 256 by omega)
  unfold wrap64
  omega
theorem src_end {w : World} {b n c p : Nat} {a : Option Addr} {sd : Int} (K : Blk w b [.slice a n c, .int .i64 p, .int .u64 sd] 109) (m k : Nat) (S : Int) (h0 : 0 ≤ S) (h1 : S < 18446744073709551616) :
    Src ((((w.drewN m).setCell ⟨b, 1, none⟩ (.int .i64 ((p : Int) + 1))).setCell ⟨b, 2, none⟩ (.int .u64 S)).drewN k) b a n c (p + 1) ∧ w.grownBy ((((w.drewN m).setCell ⟨b, 1, none⟩ (.int .i64 ((p : Int) + 1))).setCell ⟨b, 2, none⟩ (.int .u64 S)).drewN k) (some b) := by
  have K2 := (((K.drewN m).set 1 (.int .i64 ((p : Int) + 1))).set 2 (.int .u64 S)).drewN k
  simp only [List.set_cons_zero, List.set_cons_succ] at K2
  refine ⟨⟨S, ⟨h0, h1⟩, by simpa using K2⟩, ?_⟩
  have g1 : w.grownBy (w.drewN m) (some b) := ⟨rfl, rfl, rfl, Nat.le_refl _, fun _ _ _ => rfl⟩
  have st : ∀ (v : World) (j : Nat) (u : Value), v.grownBy (v.setCell ⟨b, j, none⟩ u) (some b) := fun v j u => ⟨rfl, rfl, rfl, by simp, fun i _ hi => Below.heap_setCell _ _ _ _ (fun e => hi (by simp [e]))⟩
  have g2 := grown_of_grown (grown_of_grown g1 (st _ 1 (.int .i64 ((p : Int) + 1)))) (st _ 2 (.int .u64 S))
  exact grown_of_grown g2 ⟨rfl, rfl, rfl, Nat.le_refl _, fun _ _ _ => rfl⟩
set_option maxRecDepth 10000 in
set_option maxHeartbeats 4000000 in
theorem next_any (w : World) (b : Nat) (a : Option Addr) (xs : List Int) (c p : Nat) (h : Src w b a xs.length c p) (hr : Rd w w.heap.size a (byts xs)) (hx : ∀ x ∈ xs, 0 ≤ x ∧ x ≤ 255) (hl : xs.length ≤ 1048576) (hp : p ≤ 1000000) :
    Calls Try.prog 88 #[.pointer (some ⟨b, 0, none⟩)] w fun e w' => ∃ x, e = .returned (.int .i64 x) ∧ (0 ≤ x ∧ x ≤ 255) ∧ Src w' b a xs.length c (p + 1) ∧ w.grownBy w' (some b) := by
  obtain ⟨sd, ⟨sd0, sd1⟩, K⟩ := h
  have c0 := K.cell 0
  have c1 := K.cell 1
  have c2 := K.cell 2
  have f0 := K.free 0
  have f1 := K.free 1
  have f2 := K.free 2
  simp only [List.getElem?_cons_zero, List.getElem?_cons_succ] at c0 c1 c2
  by_cases hlt : p < xs.length
  · obtain ⟨g, o, rfl, hg, hc⟩ := hr.atB hlt
    have ck := hc p hlt
    have hxk := hx (xs.getD p 0) (by simp only [List.getD, List.getElem?_eq_getElem hlt]; exact List.getElem_mem _)
    generalize xs.getD p 0 = y at *
    obtain ⟨y0, y1⟩ := hxk
    clear hr hc hx
    go_enter Try.func88, Try.ntmps88
    go_wp2_with fail
    go_quiet (fail)
    go_wp2_with fail
    go_quiet (fail)
    go_wp2_with fail
    go_quiet (fail)
    go_wp2_with fail
    go_ret
    exact ⟨_, rfl, ⟨y0, y1⟩, src_end K _ _ _ (u64_rng _).1 (u64_rng _).2⟩
  · clear hr hx
    go_enter Try.func88, Try.ntmps88
    go_wp2_with fail
    go_quiet (fail)
    go_wp2_with fail
    go_quiet (fail)
    go_wp2_with fail
    go_ret
    exact ⟨_, rfl, byte_end _ (u64_rng _).1 (u64_rng _).2, src_end K _ _ _ (u64_rng _).1 (u64_rng _).2⟩
set_option maxRecDepth 10000 in
set_option maxHeartbeats 4000000 in
theorem pick_any (w : World) (b : Nat) (a : Option Addr) (xs : List Int) (c p : Nat) (n : Int) (h : Src w b a xs.length c p) (hr : Rd w w.heap.size a (byts xs)) (hx : ∀ x ∈ xs, 0 ≤ x ∧ x ≤ 255) (hl : xs.length ≤ 1048576) (hp : p ≤ 900000) (hn : n ≤ 200) :
    Calls Try.prog 64 #[.pointer (some ⟨b, 0, none⟩), .int .i64 n] w fun e w' => ∃ (x : Int) (p' : Nat), e = .returned (.int .i64 x) ∧ (0 ≤ x ∧ (x < n ∨ x = 0)) ∧ p' ≤ p + 1 ∧ Src w' b a xs.length c p' ∧ w.grownBy w' (some b) := by
  by_cases h1 : n ≤ 1
  · clear hr hx
    go_enter Try.func64, Try.ntmps64
    go_wp2_with fail
    go_ret
    exact ⟨0, p, rfl, ⟨by omega, .inr rfl⟩, by omega, h, World.grownBy.refl _ _⟩
  · have L := Lib.hid (next_any w b a xs c p h hr hx hl (by omega))
    clear h hr hx
    go_enter Try.func64, Try.ntmps64
    go_wp2_with fail
    refine L.out.mono ?_
    rintro e w1 ⟨x, rfl, ⟨x0, x1⟩, hs, hg⟩
    have hm0 := Int.emod_nonneg x (show n ≠ 0 by omega)
    have hm1 := Int.emod_lt_of_pos x (show 0 < n by omega)
    go_wp2_with fail
    go_ret
    exact ⟨x % n, p + 1, rfl, ⟨hm0, .inl hm1⟩, by omega, hs, hg⟩
end Go.Proofs.Yteclpcmbicjjgaa
