/-
  What is drawn out of bytes: numbers, texts, gains, counts.
-/
import Derived.Test.YteclpcmbicjjgaaSrc
import Derived.Test.YteclpcmbicjjgaaOwn
import Derived.Test.YteclpcmbicjjgaaTaker
namespace Go.Proofs.Yteclpcmbicjjgaa
set_option linter.unusedVariables false
set_option linter.unusedSimpArgs false
open Go.RowKit

/-- A source over bytes that lie below it. -/
structure DS (w : World) (B0 b : Nat) (a : Option Addr) (xs : List Int) (c p : Nat) : Prop where
  S : Src w b a xs.length c p
  R : Rd w B0 a (byts xs)
  lb : B0 ≤ b
  hx : ∀ x ∈ xs, 0 ≤ x ∧ x ≤ 255
  hl : xs.length ≤ 1048576
section
variable {w w' : World} {B0 b c p : Nat} {a : Option Addr} {xs : List Int}
theorem DS.lt (h : DS w B0 b a xs c p) : b < w.heap.size := by obtain ⟨s, _, k⟩ := h.S; exact k.lt
theorem DS.same (h : DS w B0 b a xs c p) (hb : Below w.heap.size w w') : DS w' B0 b a xs c p :=
  ⟨h.S.same hb, h.R.below hb (by have := h.lt; have := h.lb; omega), h.lb, h.hx, h.hl⟩
theorem DS.touch {lo hi : Nat} (h : DS w B0 b a xs c p) (ht : Touch w w' lo hi) (hlo : b < lo) : DS w' B0 b a xs c p := by
  have := h.lt
  have := h.lb
  obtain ⟨s, h1, h2⟩ := h.S
  exact ⟨⟨s, h1, h2.touch ht (.inl hlo)⟩, h.R.touch ht (by omega) (by omega), h.lb, h.hx, h.hl⟩
theorem touch_of_below' {B : Nat} (h : Below B w w') : Touch w w' B w.heap.size := ⟨h.os, h.tape, h.output, h.size, fun k hk hd => h.block k (by omega)⟩
theorem touch_of_grown' {g : Nat} (h : w.grownBy w' (some g)) : Touch w w' g (g + 1) := Touch.of_grown h (Nat.le_refl _) (Nat.lt_succ_self _)
end
theorem pick_ds (w : World) (B0 b : Nat) (a : Option Addr) (xs : List Int) (c p : Nat) (n : Int) (h : DS w B0 b a xs c p) (hp : p ≤ 900000) (hn : n ≤ 200) :
    Calls Try.prog 64 #[.pointer (some ⟨b, 0, none⟩), .int .i64 n] w fun e w' => ∃ (x : Int) (p' : Nat), e = .returned (.int .i64 x) ∧ (0 ≤ x ∧ (x < n ∨ x = 0)) ∧ p' ≤ p + 1 ∧ DS w' B0 b a xs c p' ∧ Touch w w' b (b + 1) := by
  have hlt := h.lt
  refine (pick_any w b a xs c p n h.S (h.R.mono (by have := h.lb; omega)) h.hx h.hl hp hn).mono ?_
  rintro e w' ⟨x, p', rfl, hx, hp', hs, hg⟩
  exact ⟨x, p', rfl, hx, hp', ⟨hs, h.R.grown hg h.lb (by have := h.lb; omega), h.lb, h.hx, h.hl⟩, touch_of_grown' hg⟩
theorem info_i64G : (Try.prog.info? 2).map (fun i => (i.zero, i.size, i.bytes)) = some (some (.int .i64 0), 1, 8) := by kernel_rfl
set_option maxRecDepth 10000 in
set_option maxHeartbeats 4000000 in
theorem gains_ds (w : World) (B0 b : Nat) (a : Option Addr) (xs : List Int) (c p n : Nat) (h : DS w B0 b a xs c p) (hp : p ≤ 800000) (hn : n ≤ 100) :
    Calls Try.prog 96 #[.pointer (some ⟨b, 0, none⟩), .int .i64 n] w fun e w' => ∃ (a' : Option Addr) (c' : Nat) (l : List Int) (p' : Nat), e = .returned (.slice a' n c') ∧ l.length = n ∧ (∀ x ∈ l, -6 ≤ x ∧ x ≤ 6) ∧ OwnI 2 w' w.heap.size w'.heap.size a' c' l ∧ p' ≤ p + n ∧ DS w' B0 b a xs c p' ∧ Touch w w' b (b + 1) := by
  have D0 := Lib.hid h
  have hbw := h.lt
  clear h
  go_enter Try.func96, Try.ntmps96
  go_wp2_with fail
  go_loopw [1, 5] (fun iv v wr => ∃ (k m : Nat) (a' : Option Addr) (c' : Nat) (l : List Int) (p' : Nat), iv = .int .i64 k ∧ v = .slice a' m c' ∧ Hid (m + k = n) ∧ (k : Int) ≤ 100 ∧ Hid (l.length = m ∧ ∀ x ∈ l, -6 ≤ x ∧ x ≤ 6) ∧ Hid (wr.ownsRow w.heap.size 2 1 (.slice a' m c') m (ints l)) ∧ Hid (p' ≤ p + m) ∧ Hid (DS wr B0 b a xs c p') ∧ Touch w wr b (b + 1)) (fun iv _ _ => (intOf iv).toNat)
  case atStart => exact ⟨n, 0, _, _, [], p, rfl, rfl, Nat.zero_add n, by omega, ⟨rfl, by simp⟩, own_empty w _, Nat.le_refl _, D0.out.same (bl1 w _), Below.touch (bl1 w _) b (b + 1)⟩
  case round =>
    obtain ⟨k, m, a', c', l, p', rfl, rfl, hmk, hk, hL, hO, hpp, hD, hw⟩ := hrel
    have k0 : (0 : Int) ≤ (k : Int) := Int.natCast_nonneg _
    have hws := hw.size
    by_cases hz : 0 < k
    · have hzi : (0 : Int) < (k : Int) := by omega
      have L := Lib.hid (pick_ds wr B0 b a xs c p' 13 hD.out (by have := hpp.out; have := hmk.out; omega) (by omega))
      have HW := Lib.hid hw
      clear hD hw
      go_wp2_with fail
      refine L.out.mono ?_
      rintro e w1 ⟨x, q, rfl, ⟨x0, x1⟩, hq, D1, T1⟩
      have D1 := Lib.hid D1
      have W1 := Lib.hid (HW.out.trans T1)
      have O1 := Lib.hid (own_grown hO.out (touch_grown T1) hbw)
      have s1 := T1.size
      have hx13 : x ≤ 12 := by omega
      have hq2 : Hid (q ≤ p + (m + 1)) := by rw [Hid]; have := hpp.out; omega
      have hm2 : m ≤ 100 := by have := hmk.out; omega
      clear T1 L hO HW hq x1
      go_wp2_with (at_builtin; refine wpList_append_one _ rfl _ _ 22 rfl w.heap.size 2 (.int .i64 0) 8 Try.underlying22 info_i64G rfl _ m _ rfl O1.out _ rfl rfl (by omega) (by omega) (by omega) ?_)
      intro v' w' ho hgr
      obtain ⟨a2, c2, rfl, _⟩ := own_shape ho
      have hb := below_append (Below.refl w.heap.size w1) O1.out hgr (Nat.le_refl _) (by omega)
      have D2 := Lib.hid (D1.out.touch (touch_of_below' hb) hbw)
      have W2 := Lib.hid (touch_below W1.out hb)
      have HO2 : Hid (w'.ownsRow w.heap.size 2 1 (.slice a2 (m + 1) c2) (m + 1) (ints (l ++ [x - 6]))) := by rw [ints_append]; exact ho
      have HL2 : Hid ((l ++ [x - 6]).length = m + 1 ∧ ∀ y ∈ l ++ [x - 6], -6 ≤ y ∧ y ≤ 6) := by
        refine ⟨by simp [hL.out.1], fun y hy => ?_⟩
        rcases List.mem_append.1 hy with hy | hy
        · exact hL.out.2 y hy
        · simp at hy; omega
      clear ho hgr hb D1 W1 O1 hL
      go_wp2_with fail
      go_roundw
      case rel => exact ⟨k - 1, m + 1, a2, c2, l ++ [x - 6], q, by go_num, rfl, by have := hmk.out; rw [Hid]; omega, by omega, HL2.out, HO2.out, hq2.out, D2.out, W2.out⟩
      case measure => first | (simp [intOf]; done) | (simp [intOf]; omega)
    · have : k = 0 := by omega
      subst this
      have hmn : m = n := hmk.out
      subst hmn
      have hOI : OwnI 2 wr w.heap.size wr.heap.size a' c' l := by
        refine OwnI.of_own ?_
        rw [hL.out.1]; exact hO.out
      have HOI := Lib.hid hOI
      clear hO hOI
      go_wp2_with fail
      go_ret
      exact ⟨a', c', l, p', rfl, hL.out.1, hL.out.2, HOI.out, hpp.out, hD.out, hw⟩
set_option maxRecDepth 10000 in
theorem count_any (K : Nat) (hK : K ≤ 7) (w : World) : Calls Try.prog 90 #[.int .i64 K] w fun e w' => ∃ x : Int, e = .returned (.int .i64 x) ∧ (0 ≤ x ∧ x ≤ 7) ∧ w = w' := by
  go_enter Try.func90, Try.ntmps90
  go_wp2_with fail
  go_loopw [0, 3] (fun iv v wr => ∃ (k : Nat) (x : Int), iv = .int .i64 k ∧ v = .int .i64 x ∧ 0 ≤ x ∧ x + k ≤ 7 ∧ wr = w) (fun iv _ _ => (intOf iv).toNat)
  case atStart => exact ⟨K, 0, rfl, rfl, by omega, by omega, rfl⟩
  case round =>
    obtain ⟨k, x, rfl, rfl, hx0, hx, rfl⟩ := hrel
    have k0 : (0 : Int) ≤ (k : Int) := Int.natCast_nonneg _
    by_cases hz : 0 < k
    · have hzi : (0 : Int) < (k : Int) := by omega
      have hk7 : (k : Int) ≤ 7 := by omega
      go_wp2_with fail
      go_roundw
      case rel => exact ⟨k / 2, x + (k : Int) % 2, by go_num, by go_num, by omega, by omega, trivial⟩
      case measure => simp [intOf]; omega
    · have : k = 0 := by omega
      subst this
      go_wp2_with fail
      go_ret
      exact ⟨x, rfl, ⟨hx0, by omega⟩, rfl⟩
end Go.Proofs.Yteclpcmbicjjgaa
