/-
  Part 33 of what the proof stands on: lemmas and contracts, each with its conditions ahead of the colon.
-/
import Derived.Test.YtkbejmjkdnfemaaGreatDoorShelf
import Derived.BigQuiet
import Derived.Deep.AppendLies
import Derived.Deep.RegionHeldLaw
import Derived.Test.YtkbejmjkdnfemaaGreatDoorPk01
import Derived.Test.YtkbejmjkdnfemaaGreatDoorPk02
import Derived.Test.YtkbejmjkdnfemaaGreatDoorPk05
import Derived.Test.YtkbejmjkdnfemaaGreatDoorPk07
import Derived.Test.YtkbejmjkdnfemaaGreatDoorPk08
import Derived.Test.YtkbejmjkdnfemaaGreatDoorPk11
import Derived.Test.YtkbejmjkdnfemaaGreatDoorPk12
import Derived.Test.YtkbejmjkdnfemaaGreatDoorPk14
namespace Go.Proofs.YtkbejmjkdnfemaaGreatDoor
set_option linter.unusedVariables false
set_option linter.unusedSimpArgs false
open Go.RowKit

def tkS (s : ByteArray) (n : Nat) (t : Nat × Bool) : ByteArray := if t.1 + n ≤ s.size then s.extract t.1 (t.1 + n) else bs (Lib.repeatL [0] n)
def tkT (s : ByteArray) (n : Nat) (t : Nat × Bool) : Nat × Bool := if t.1 + n ≤ s.size then (t.1 + n, t.2) else (t.1, true)
/-- The i-th byte of a string, as a number. -/
def bAt (r : ByteArray) (i : Nat) : Int := ((r.data.toList.getD i 0).toNat : Int)
def tkN (s : ByteArray) (less : Int) (t : Nat × Bool) : Int := bAt (tkS s 2 t) 0 + 256 * bAt (tkS s 2 t) 1 - less
def numsT (s : ByteArray) (t : Nat × Bool) : Nat → Nat × Bool
  | 0 => t
  | k + 1 => tkT s 2 (numsT s t k)
def numsL (s : ByteArray) (less : Int) (t : Nat × Bool) (k : Nat) : List Int := (List.range k).map fun i => tkN s less (numsT s t i)
@[simp] theorem numsL_length (s : ByteArray) (less : Int) (t : Nat × Bool) (k : Nat) : (numsL s less t k).length = k := by simp [numsL]
/-- append of one number as a step of a region that draws its order. -/
theorem step_num {P : Program} {ops : Array Oper} {o : Oper} {a : Act} {wr : World} {K : Act → World → Prop} {Q : Exit → Act → World → Prop} {E : Prop}
    (d : Nat) (hd : o.dst = some d) (hg : o.guard = none) (s x : Operand) (t : TypeId) (hop : o.op = Op.call { callee := Callee.builtin Builtin.append, args := #[s, x], argTypes := #[t, t] })
    (base : Nat) (e : TypeId) (z : Value) (bytes : Nat) (h1 : P.underlying t = some (.slice e)) (hinfo : (P.info? e).map (fun i => (i.zero, i.size, i.bytes)) = some (some z, 1, bytes)) (hz : z.cells.size = 1)
    (v : Value) (n : Nat) (xs : List Value) (hs : a.eval s = v) (hown : wr.ownsRow base e 1 v n xs) (b : Nat) (y : Value) (hy : y.oneCell' = true) (hx : a.eval x = .slice (some ⟨b, 0, none⟩) 1 1)
    (hcell : Blk wr b [y] e) (hb : bytes ≤ 64) (hn : n ≤ 1099511627776) (hbase : base ≤ wr.heap.size)
    (hK : ∀ g c w', w'.ownsRow base e 1 (.slice (some ⟨g, 0, none⟩) (n + 1) c) (n + 1) (xs ++ [y]) → wr.grownBy w' v.ownBlock → K (a.put (some d) (.slice (some ⟨g, 0, none⟩) (n + 1) c)) w') :
    if Region.wanted o (yielded ops a.tmps) = true then Oper.wp P o a wr K Q else E := by
  obtain ⟨i, h2, h3, h4, h5⟩ := info_parts hinfo
  have hbb : (n + 1) * bytes ≤ 140737488355328 := Nat.le_trans (Nat.mul_le_mul_left (n + 1) hb) (by omega)
  refine step_append_lies _ hg s x t hop base e i z 1 bytes h1 h2 h3 h4 h5 hz (by omega) v n xs hs hown ⟨b, 0, none⟩ 1 1 [y] hx rfl (World.news_of_block (cs := #[y]) (t := e) (fr := (0, 0)) hcell) (by intro u hu; simp at hu; subst hu; exact hy) (by omega) (by unfold maxLen; omega) hbb hbase wr.heap.size rfl (fun g c w' ho hgr _ _ => by rw [hd]; exact hK g c w' ho hgr)
end Go.Proofs.YtkbejmjkdnfemaaGreatDoor
namespace Go.Proofs.YtkbejmjkdnfemaaGreatDoor
set_option linter.unusedVariables false
set_option linter.unusedSimpArgs false
open Go.RowKit

theorem info_i64G : (Tryz.prog.info? 2).map (fun i => (i.zero, i.size, i.bytes)) = some (some (.int .i64 0), 1, 8) := by kernel_rfl
set_option maxRecDepth 10000 in
set_option maxHeartbeats 4000000 in
theorem gains_ds (w : World) (B0 b : Nat) (a : Option Addr) (xs : List Int) (c p n : Nat) (h : DS w B0 b a xs c p) (hp : p ≤ 800000) (hn : n ≤ 100) :
    Calls Tryz.prog 257 #[.pointer (some ⟨b, 0, none⟩), .int .i64 n] w fun e w' => ∃ (a' : Option Addr) (c' : Nat) (l : List Int) (p' : Nat), e = .returned (.slice a' n c') ∧ l.length = n ∧ (∀ x ∈ l, -6 ≤ x ∧ x ≤ 6) ∧ OwnI 2 w' w.heap.size w'.heap.size a' c' l ∧ p' ≤ p + n ∧ DS w' B0 b a xs c p' ∧ Touch w w' b (b + 1) := by
  have D0 := Lib.hid h
  have hbw := h.lt
  clear h
  go_enter Tryz.func257, Tryz.ntmps257
  go_wp2_with fail
  go_loopw [1, 5] (fun iv v wr => ∃ (k m : Nat) (a' : Option Addr) (c' : Nat) (l : List Int) (p' : Nat), iv = .int .i64 k ∧ v = .slice a' m c' ∧ Hid (m + k = n) ∧ (k : Int) ≤ 100 ∧ Hid (l.length = m ∧ ∀ x ∈ l, -6 ≤ x ∧ x ≤ 6) ∧ Hid (wr.ownsRow w.heap.size 2 1 (.slice a' m c') m (ints l)) ∧ Hid (p' ≤ p + m) ∧ Hid (DS wr B0 b a xs c p') ∧ Touch w wr b (b + 1)) (fun iv _ _ => (intOf iv).toNat)
  case atStart => exact ⟨n, 0, _, _, [], p, rfl, rfl, Nat.zero_add n, by omega, ⟨rfl, by simp⟩, own_empty w _, Nat.le_refl _, D0.out.same (bl1 w _), Below.touch (bl1 w _) b (b + 1)⟩
  case round =>
    obtain ⟨k, m, a', c', l, p', rfl, rfl, hmk, hk, hL, hO, hpp, hD, hw⟩ := hrel
    have k0 : (0 : Int) ≤ (k : Int) := Int.natCast_nonneg _
    have hws := hw.size
    by_cases hz : 0 < k
    · have hzi : (0 : Int) < (k : Int) := by omega
      have L := Lib.hid (pick_ds wr B0 b a xs c p' 13 hD.out (by have := hpp.out; have := hmk.out; omega) (by omega))
      have HW := Lib.hid hw
      clear hD hw
      go_wp2_with fail
      refine L.out.mono ?_
      rintro e w1 ⟨x, q, rfl, ⟨x0, x1⟩, hq, D1, T1⟩
      have D1 := Lib.hid D1
      have W1 := Lib.hid (HW.out.trans T1)
      have O1 := Lib.hid (own_grown hO.out (touch_grown T1) hbw)
      have s1 := T1.size
      have hx13 : x ≤ 12 := by omega
      have hq2 : Hid (q ≤ p + (m + 1)) := by rw [Hid]; have := hpp.out; omega
      have hm2 : m ≤ 100 := by have := hmk.out; omega
      clear T1 L hO HW hq x1
      go_wp2_with (at_builtin; refine wpList_append_one _ rfl _ _ 24 rfl w.heap.size 2 (.int .i64 0) 8 Tryz.underlying24 info_i64G rfl _ m _ rfl O1.out _ rfl rfl (by omega) (by omega) (by omega) ?_)
      intro v' w' ho hgr
      obtain ⟨a2, c2, rfl, _⟩ := own_shape ho
      have hb := below_append (Below.refl w.heap.size w1) O1.out hgr (Nat.le_refl _) (by omega)
      have D2 := Lib.hid (D1.out.touch (touch_of_below' hb) hbw)
      have W2 := Lib.hid (touch_below W1.out hb)
      have HO2 : Hid (w'.ownsRow w.heap.size 2 1 (.slice a2 (m + 1) c2) (m + 1) (ints (l ++ [x - 6]))) := by rw [ints_append]; exact ho
      have HL2 : Hid ((l ++ [x - 6]).length = m + 1 ∧ ∀ y ∈ l ++ [x - 6], -6 ≤ y ∧ y ≤ 6) := by
        refine ⟨by simp [hL.out.1], fun y hy => ?_⟩
        rcases List.mem_append.1 hy with hy | hy
        · exact hL.out.2 y hy
        · simp at hy; omega
      clear ho hgr hb D1 W1 O1 hL
      go_wp2_with fail
      go_roundw
      case rel => exact ⟨k - 1, m + 1, a2, c2, l ++ [x - 6], q, by go_num, rfl, by have := hmk.out; rw [Hid]; omega, by omega, HL2.out, HO2.out, hq2.out, D2.out, W2.out⟩
      case measure => first | (simp [intOf]; done) | (simp [intOf]; omega)
    · have : k = 0 := by omega
      subst this
      have hmn : m = n := hmk.out
      subst hmn
      have hOI : OwnI 2 wr w.heap.size wr.heap.size a' c' l := by
        refine OwnI.of_own ?_
        rw [hL.out.1]; exact hO.out
      have HOI := Lib.hid hOI
      clear hO hOI
      go_wp2_with fail
      go_ret
      exact ⟨a', c', l, p', rfl, hL.out.1, hL.out.2, HOI.out, hpp.out, hD.out, hw⟩
end Go.Proofs.YtkbejmjkdnfemaaGreatDoor
namespace Go.Proofs.YtkbejmjkdnfemaaGreatDoor
set_option linter.unusedVariables false
set_option linter.unusedSimpArgs false
open Go.RowKit

theorem info_i64V : (Tryz.prog.info? 2).map (fun i => (i.zero, i.size, i.bytes)) = some (some (.int .i64 0), 1, 8) := by kernel_rfl
set_option maxRecDepth 10000 in
set_option maxHeartbeats 4000000 in
theorem worths4_ds (w : World) (B0 b : Nat) (a : Option Addr) (xs : List Int) (c p n : Nat) (h : DS w B0 b a xs c p) (hp : p ≤ 800000) (hn : n ≤ 100) :
    Calls Tryz.prog 194 #[.pointer (some ⟨b, 0, none⟩), .int .i64 n] w fun e w' => ∃ (a' : Option Addr) (c' : Nat) (l : List Int) (p' : Nat), e = .returned (.slice a' n c') ∧ l.length = n ∧ (∀ x ∈ l, 0 ≤ x ∧ x ≤ 11) ∧ OwnI 2 w' w.heap.size w'.heap.size a' c' l ∧ p' ≤ p + n ∧ DS w' B0 b a xs c p' ∧ Touch w w' b (b + 1) := by
  have D0 := Lib.hid h
  have hbw := h.lt
  clear h
  go_enter Tryz.func194, Tryz.ntmps194
  go_wp2_with fail
  go_loopw [1, 5] (fun iv v wr => ∃ (k m : Nat) (a' : Option Addr) (c' : Nat) (l : List Int) (p' : Nat), iv = .int .i64 k ∧ v = .slice a' m c' ∧ Hid (m + k = n) ∧ (k : Int) ≤ 100 ∧ Hid (l.length = m ∧ ∀ x ∈ l, 0 ≤ x ∧ x ≤ 11) ∧ Hid (wr.ownsRow w.heap.size 2 1 (.slice a' m c') m (ints l)) ∧ Hid (p' ≤ p + m) ∧ Hid (DS wr B0 b a xs c p') ∧ Touch w wr b (b + 1)) (fun iv _ _ => (intOf iv).toNat)
  case atStart => exact ⟨n, 0, _, _, [], p, rfl, rfl, Nat.zero_add n, by omega, ⟨rfl, by simp⟩, own_empty w _, Nat.le_refl _, D0.out.same (bl1 w _), Below.touch (bl1 w _) b (b + 1)⟩
  case round =>
    obtain ⟨k, m, a', c', l, p', rfl, rfl, hmk, hk, hL, hO, hpp, hD, hw⟩ := hrel
    have k0 : (0 : Int) ≤ (k : Int) := Int.natCast_nonneg _
    have hws := hw.size
    by_cases hz : 0 < k
    · have hzi : (0 : Int) < (k : Int) := by omega
      have L := Lib.hid (pick_ds wr B0 b a xs c p' 12 hD.out (by have := hpp.out; have := hmk.out; omega) (by omega))
      have HW := Lib.hid hw
      clear hD hw
      go_wp2_with fail
      refine L.out.mono ?_
      rintro e w1 ⟨x, q, rfl, ⟨x0, x1⟩, hq, D1, T1⟩
      have D1 := Lib.hid D1
      have W1 := Lib.hid (HW.out.trans T1)
      have O1 := Lib.hid (own_grown hO.out (touch_grown T1) hbw)
      have s1 := T1.size
      have hx13 : x ≤ 11 := by omega
      have hq2 : Hid (q ≤ p + (m + 1)) := by rw [Hid]; have := hpp.out; omega
      have hm2 : m ≤ 100 := by have := hmk.out; omega
      clear T1 L hO HW hq x1
      go_wp2_with (at_builtin; refine wpList_append_one _ rfl _ _ 24 rfl w.heap.size 2 (.int .i64 0) 8 Tryz.underlying24 info_i64V rfl _ m _ rfl O1.out _ rfl rfl (by omega) (by omega) (by omega) ?_)
      intro v' w' ho hgr
      obtain ⟨a2, c2, rfl, _⟩ := own_shape ho
      have hb := below_append (Below.refl w.heap.size w1) O1.out hgr (Nat.le_refl _) (by omega)
      have D2 := Lib.hid (D1.out.touch (touch_of_below' hb) hbw)
      have W2 := Lib.hid (touch_below W1.out hb)
      have HO2 : Hid (w'.ownsRow w.heap.size 2 1 (.slice a2 (m + 1) c2) (m + 1) (ints (l ++ [x]))) := by rw [ints_append]; exact ho
      have HL2 : Hid ((l ++ [x]).length = m + 1 ∧ ∀ y ∈ l ++ [x], 0 ≤ y ∧ y ≤ 11) := by
        refine ⟨by simp [hL.out.1], fun y hy => ?_⟩
        rcases List.mem_append.1 hy with hy | hy
        · exact hL.out.2 y hy
        · simp at hy; omega
      clear ho hgr hb D1 W1 O1 hL
      go_wp2_with fail
      go_roundw
      case rel => exact ⟨k - 1, m + 1, a2, c2, l ++ [x], q, by go_num, rfl, by have := hmk.out; rw [Hid]; omega, by omega, HL2.out, HO2.out, hq2.out, D2.out, W2.out⟩
      case measure => first | (simp [intOf]; done) | (simp [intOf]; omega)
    · have : k = 0 := by omega
      subst this
      have hmn : m = n := hmk.out
      subst hmn
      have hOI : OwnI 2 wr w.heap.size wr.heap.size a' c' l := by
        refine OwnI.of_own ?_
        rw [hL.out.1]; exact hO.out
      have HOI := Lib.hid hOI
      clear hO hOI
      go_wp2_with fail
      go_ret
      exact ⟨a', c', l, p', rfl, hL.out.1, hL.out.2, HOI.out, hpp.out, hD.out, hw⟩
/-- A drawn turn: so many sixteenths. -/
def turnW (x : Nat) : Nat := (floatBits .quo .f32 (floatOfInt .f32 (x : Int)) 1098907648).getD 0
theorem turnW_all : ∀ x : Fin 17, floatBits .quo .f32 (floatOfInt .f32 (x.val : Int)) 1098907648 = some (turnW x.val) ∧ finB (turnW x.val) = true ∧ bitsN (turnW x.val) = turnW x.val ∧ turnW x.val < 4294967296 := by decide +kernel
theorem info_f32V : (Tryz.prog.info? 95).map (fun i => (i.zero, i.size, i.bytes)) = some (some (.float .f32 0), 1, 4) := by kernel_rfl
theorem own_emptyV (w : World) (e : Nat) : (w.alloc (.cells #[] e)).ownsRow w.heap.size e 1 (.slice (some ⟨w.heap.size, 0, none⟩) 0 0) 0 [] := World.ownsRow_made w #[] 0 (Nat.le_refl _) (Nat.zero_le _) rfl
theorem flts_snoc (xs : List Nat) (y : Nat) : flts (xs ++ [y]) = flts xs ++ [.float .f32 y] := by simp [flts]
def TurnsR (w : World) (B0 b : Nat) (a : Option Addr) (xs : List Int) (c q : Nat) (e : Ending) (w' : World) : Prop :=
  ∃ (a' : Option Addr) (c' : Nat) (l : List Nat) (p' : Nat), e = .returned (.slice a' l.length c') ∧ (1 ≤ l.length ∧ l.length ≤ 5) ∧ (∀ y ∈ l, finB y = true ∧ bitsN y = y ∧ y < 4294967296) ∧ OwnF 95 w' w.heap.size w'.heap.size a' c' l ∧ p' ≤ q ∧ DS w' B0 b a xs c p' ∧ Touch w w' b (b + 1)
set_option maxRecDepth 10000 in
set_option maxHeartbeats 4000000 in
theorem turns_ds (w : World) (B0 b : Nat) (a : Option Addr) (xs : List Int) (c p : Nat) (h : DS w B0 b a xs c p) (hp : p ≤ 800000) :
    Calls Tryz.prog 126 #[.pointer (some ⟨b, 0, none⟩)] w (TurnsR w B0 b a xs c (p + 10)) := by
  have hbw := h.lt
  have B0' := bl1 w (.cells #[] 95)
  have L0 := Lib.hid (pick_ds _ B0 b a xs c p 5 (h.same B0') (by omega) (by omega))
  have HT := Lib.hid (fun (x : Nat) (hx : x < 17) => turnW_all ⟨x, hx⟩)
  have O0 := Lib.hid (own_emptyV w 95)
  have T0 := Lib.hid (Below.touch B0' b (b + 1))
  clear h B0'
  go_enter Tryz.func126, Tryz.ntmps126
  go_wp2_with fail
  refine L0.out.mono ?_
  rintro e w0 ⟨n0, p0, rfl, ⟨z0, z1⟩, hp0, D0, U0⟩
  obtain ⟨n, hn⟩ : ∃ n : Nat, 1 + n0 = (n : Int) := ⟨(1 + n0).toNat, by omega⟩
  have hn5 : 1 ≤ n ∧ n ≤ 5 := by omega
  have HN5 := Lib.hid hn5
  have z4 : n0 ≤ 4 := by omega
  have D0 := Lib.hid D0
  have s0 := U0.size
  have O0' := Lib.hid (own_grown O0.out (touch_grown U0) hbw)
  have T0' := Lib.hid (T0.out.trans U0)
  have hws0 : w.heap.size ≤ w0.heap.size := T0'.out.size
  have HN := Lib.hid hn
  have nn : (n : Int) ≤ 5 := by omega
  clear L0 O0 T0 U0 z1 hn5 s0 hn
  go_upto_region 3 with fail
  go_loopw [4, 3] (fun iv v wr => ∃ (k m : Nat) (a' : Option Addr) (c' : Nat) (l : List Nat) (p' : Nat), iv = .int .i64 k ∧ v = .slice a' m c' ∧ Hid (m + k = n) ∧ (k : Int) ≤ 5 ∧ Hid (l.length = m ∧ ∀ y ∈ l, finB y = true ∧ bitsN y = y ∧ y < 4294967296) ∧ Hid (wr.ownsRow w.heap.size 95 1 (.slice a' m c') m (flts l)) ∧ Hid (p' ≤ p + 1 + m) ∧ Hid (DS wr B0 b a xs c p') ∧ Touch w wr b (b + 1)) (fun iv _ _ => (intOf iv).toNat)
  case atStart => exact ⟨n, 0, _, _, [], p0, by rw [HN.out], rfl, by rw [Hid]; omega, nn, ⟨rfl, by simp⟩, O0'.out, hp0, D0.out, T0'.out⟩
  case round =>
    clear D0 O0' T0'
    obtain ⟨k, m, a', c', l, p', rfl, rfl, hmk, hk, hL, hO, hpp, hD, hw⟩ := hrel
    have k0 : (0 : Int) ≤ (k : Int) := Int.natCast_nonneg _
    have hws := hw.size
    by_cases hz : 0 < k
    · have hzi : (0 : Int) < (k : Int) := by omega
      have L := Lib.hid (pick_ds wr B0 b a xs c p' 17 hD.out (by have := hpp.out; have := hmk.out; have := HN5.out; omega) (by omega))
      have HW := Lib.hid hw
      clear hD hw
      go_wp2_with fail
      refine L.out.mono ?_
      rintro e w1 ⟨x, q, rfl, ⟨x0, x1⟩, hq, D1, T1⟩
      have D1 := Lib.hid D1
      have W1 := Lib.hid (HW.out.trans T1)
      have O1 := Lib.hid (own_grown hO.out (touch_grown T1) hbw)
      have s1 := T1.size
      obtain ⟨y, rfl⟩ : ∃ y : Nat, x = (y : Int) := ⟨x.toNat, by omega⟩
      obtain ⟨t1, t2, t3, t4⟩ := HT.out y (by omega)
      have hq1 : ∀ v : World, (binOp BinOp.quo 95 (.float .f32 (floatOfInt .f32 (y : Int))) (.float .f32 1098907648)).run Tryz.prog v = .ok (.float .f32 (turnW y)) v := fun v => run_float_arith v _ _ _ _ _ _ t1
      have HY := Lib.hid (⟨t2, t3, t4⟩ : finB (turnW y) = true ∧ bitsN (turnW y) = turnW y ∧ turnW y < 4294967296)
      have hx16 : (y : Int) ≤ 16 := by omega
      have hq2 : Hid (q ≤ p + 1 + (m + 1)) := by rw [Hid]; have := hpp.out; omega
      have hm2 : m ≤ 100 := by have := hmk.out; have := HN5.out; omega
      clear T1 L hO HW hq x1 t1 t2 t3 t4
      go_wp2_with (at_builtin; refine wpList_append_one _ rfl _ _ 31 rfl w.heap.size 95 (.float .f32 0) 4 Tryz.underlying31 info_f32V rfl _ m _ rfl O1.out _ rfl rfl (by omega) (by omega) (by omega) ?_)
      intro v' w' ho hgr
      obtain ⟨a2, c2, rfl, _⟩ := own_shape ho
      have hb := below_append (Below.refl w.heap.size w1) O1.out hgr (Nat.le_refl _) (by omega)
      have D2 := Lib.hid (D1.out.touch (touch_of_below' hb) hbw)
      have W2 := Lib.hid (touch_below W1.out hb)
      have HO2 : Hid (w'.ownsRow w.heap.size 95 1 (.slice a2 (m + 1) c2) (m + 1) (flts (l ++ [turnW y]))) := by rw [flts_snoc]; exact ho
      have HL2 : Hid ((l ++ [turnW y]).length = m + 1 ∧ ∀ z ∈ l ++ [turnW y], finB z = true ∧ bitsN z = z ∧ z < 4294967296) := by
        refine ⟨by simp [hL.out.1], fun z hz => ?_⟩
        rcases List.mem_append.1 hz with hz | hz
        · exact hL.out.2 z hz
        · simp at hz; subst hz; exact HY.out
      clear ho hgr hb D1 W1 O1 hL
      go_wp2_with fail
      go_roundw
      case rel => exact ⟨k - 1, m + 1, a2, c2, l ++ [turnW y], q, by go_num, rfl, by have := hmk.out; rw [Hid]; omega, by omega, HL2.out, HO2.out, hq2.out, D2.out, W2.out⟩
      case measure => first | (simp [intOf]; done) | (simp [intOf]; omega)
    · have : k = 0 := by omega
      subst this
      have hmn : m = n := hmk.out
      have hlm := hL.out.1
      subst hlm
      have HOI : Hid (OwnF 95 wr w.heap.size wr.heap.size a' c' l) := OwnF.of_own hO.out
      have HL5 : Hid (1 ≤ l.length ∧ l.length ≤ 5) := by rw [hmn]; exact HN5.out
      clear hO hmn
      go_wp2_with fail
      go_ret
      exact ⟨a', c', l, p', rfl, HL5.out, hL.out.2, HOI.out, by have := hpp.out; have := HL5.out; omega, hD.out, hw⟩
end Go.Proofs.YtkbejmjkdnfemaaGreatDoor
namespace Go.Proofs.YtkbejmjkdnfemaaGreatDoor
set_option linter.unusedVariables false
set_option linter.unusedSimpArgs false
open Go.RowKit

theorem touch_setC (w : World) (g j : Nat) (u : Value) : Touch w (w.setCell ⟨g, j, none⟩ u) g (g + 1) :=
  Touch.of_grown (show w.grownBy (w.setCell ⟨g, j, none⟩ u) (some g) from ⟨rfl, rfl, rfl, by simp, fun i _ hi => Below.heap_setCell _ _ _ _ (fun e => hi (by simp [e]))⟩) (Nat.le_refl _) (Nat.lt_succ_self _)
theorem touch_hiC {w w1 w2 : World} {b lo hi : Nat} (h : Touch w w1 b (b + 1)) (ht : Touch w1 w2 lo hi) (hlo : w.heap.size ≤ lo) : Touch w w2 b (b + 1) :=
  ⟨ht.os.trans h.os, ht.tape.trans h.tape, ht.output.trans h.output, Nat.le_trans h.size ht.size, fun k hk hd => (ht.block k (by have := h.size; omega) (by omega)).trans (h.block k hk hd)⟩
theorem own_none2 {w : World} {base e n c : Nat} {l : List Value} {a : Option Addr} (h : w.ownsRow base e 1 (.slice a n c) n l) (hn : 1 ≤ n) : ∃ g, a = some ⟨g, 0, none⟩ ∧ base ≤ g ∧ g < w.heap.size := by
  obtain ⟨hl, h | ⟨g', cap, cur, hv, hb, hh, _⟩⟩ := h
  · omega
  · injection hv with ha _ _
    exact ⟨g', ha, hb, lt_of_block hh⟩
/-- The result's cell, the crowd that is made, the source: while ways are drawn. -/
structure DC1 (w wX : World) (B0 b : Nat) (a : Option Addr) (xs : List Int) (c p g u n : Nat) (aW : Option Addr) (cW : Nat) (lW : List Int) : Prop where
  T : Touch w wX b (b + 1)
  D : DS wX B0 b a xs c p
  R : Blk wX w.heap.size [.int .i64 0, .int .i64 0, .slice none 0 0, .slice none 0 0] 30
  V : Blk wX g [.int .i64 u, .int .i64 n, .slice aW lW.length cW, .slice none 0 0] 30
  W : wX.ownsRow (g + 1) 2 1 (.slice aW lW.length cW) lW.length (ints lW)
/-- While costs are drawn. -/
structure DC2 (w wX : World) (B0 b : Nat) (a : Option Addr) (xs : List Int) (c p g tC u n : Nat) (aW : Option Addr) (cW : Nat) (lW : List Int) (aC : Option Addr) (cC : Nat) (lC : List Int) : Prop where
  T : Touch w wX b (b + 1)
  D : DS wX B0 b a xs c p
  R : Blk wX w.heap.size [.int .i64 0, .int .i64 0, .slice none 0 0, .slice none 0 0] 30
  V : Blk wX g [.int .i64 u, .int .i64 n, .slice aW lW.length cW, .slice aC lC.length cC] 30
  W : OwnI 2 wX (g + 1) tC aW cW lW
  C : wX.ownsRow tC 2 1 (.slice aC lC.length cC) lC.length (ints lC)
section
variable {w wX wY w5 : World} {B0 b c p p' g tC u n cW cC g5 c5 : Nat} {a aW aC : Option Addr} {xs lW lC : List Int}
theorem DC1.draw (h : DC1 w wX B0 b a xs c p g u n aW cW lW) (hb : b < w.heap.size) (hg : w.heap.size < g) (ht : Touch wX wY b (b + 1)) (hd : DS wY B0 b a xs c p') : DC1 w wY B0 b a xs c p' g u n aW cW lW :=
  ⟨h.T.trans ht, hd, h.R.touch ht (.inr (by omega)), h.V.touch ht (.inr (by omega)), own_grown h.W (touch_grown ht) (by omega)⟩
theorem DC2.draw (h : DC2 w wX B0 b a xs c p g tC u n aW cW lW aC cC lC) (hb : b < w.heap.size) (hg : w.heap.size < g) (hC : g < tC) (ht : Touch wX wY b (b + 1)) (hd : DS wY B0 b a xs c p') : DC2 w wY B0 b a xs c p' g tC u n aW cW lW aC cC lC :=
  ⟨h.T.trans ht, hd, h.R.touch ht (.inr (by omega)), h.V.touch ht (.inr (by omega)), h.W.touch ht (.inr (by omega)), own_grown h.C (touch_grown ht) (by omega)⟩
theorem DC1.snoc {x : Int} (h : DC1 w wX B0 b a xs c p g u n aW cW lW) (hb : b < w.heap.size) (hg : w.heap.size < g) (hgX : g < wX.heap.size) (hB : Below (g + 1) wX w5)
    (ho : w5.ownsRow (g + 1) 2 1 (.slice (some ⟨g5, 0, none⟩) (lW.length + 1) c5) (lW.length + 1) (ints lW ++ [.int .i64 x])) :
    DC1 w (w5.setCell ⟨g, 2, none⟩ (.slice (some ⟨g5, 0, none⟩) (lW.length + 1) c5)) B0 b a xs c p g u n (some ⟨g5, 0, none⟩) c5 (lW ++ [x]) := by
  have t5 := touch_of_below' hB
  have ts := touch_setC w5 g 2 (.slice (some ⟨g5, 0, none⟩) (lW.length + 1) c5)
  have V5 := h.V.touch t5 (.inl (by omega))
  refine ⟨touch_hiC (touch_hiC h.T t5 (by omega)) ts (by omega), (h.D.touch t5 (by omega)).touch ts (by omega), (h.R.touch t5 (.inl (by omega))).touch ts (.inl hg), ?_, ?_⟩
  · have := V5.set 2 (.slice (some ⟨g5, 0, none⟩) (lW.length + 1) c5)
    rw [List.length_append]; exact this
  · rw [List.length_append, ints_append]; exact own_grown ho (touch_grown ts) (by omega)
theorem DC2.snoc {x : Int} (h : DC2 w wX B0 b a xs c p g tC u n aW cW lW aC cC lC) (hb : b < w.heap.size) (hg : w.heap.size < g) (hC : g < tC) (hgX : tC ≤ wX.heap.size) (hB : Below tC wX w5)
    (ho : w5.ownsRow tC 2 1 (.slice (some ⟨g5, 0, none⟩) (lC.length + 1) c5) (lC.length + 1) (ints lC ++ [.int .i64 x])) :
    DC2 w (w5.setCell ⟨g, 3, none⟩ (.slice (some ⟨g5, 0, none⟩) (lC.length + 1) c5)) B0 b a xs c p g tC u n aW cW lW (some ⟨g5, 0, none⟩) c5 (lC ++ [x]) := by
  have t5 := touch_of_below' hB
  have ts := touch_setC w5 g 3 (.slice (some ⟨g5, 0, none⟩) (lC.length + 1) c5)
  have V5 := h.V.touch t5 (.inl (by omega))
  refine ⟨touch_hiC (touch_hiC h.T t5 (by omega)) ts (by omega), (h.D.touch t5 (by omega)).touch ts (by omega), (h.R.touch t5 (.inl (by omega))).touch ts (.inl hg), ?_, (h.W.touch t5 (.inl (Nat.le_refl _))).touch ts (.inr (by omega)), ?_⟩
  · have := V5.set 3 (.slice (some ⟨g5, 0, none⟩) (lC.length + 1) c5)
    rw [List.length_append]; exact this
  · rw [List.length_append, ints_append]; exact own_grown ho (touch_grown ts) (by omega)
end
def CrowdR (w : World) (B0 b : Nat) (a : Option Addr) (xs : List Int) (c q : Nat) (u n : Nat) (e : Ending) (w' : World) : Prop :=
  ∃ (aW : Option Addr) (cW : Nat) (lW : List Int) (aC : Option Addr) (cC : Nat) (lC : List Int) (p' : Nat), e = .returned (.agg #[.int .i64 u, .int .i64 n, .slice aW lW.length cW, .slice aC lC.length cC]) ∧ (1 ≤ lW.length ∧ lW.length ≤ 4) ∧ (∀ x ∈ lW, 1 ≤ x ∧ x ≤ 2 ^ n - 1) ∧ lC.length = n * u ∧ (∀ x ∈ lC, -20 ≤ x ∧ x ≤ 30) ∧
    (∃ m, (w.heap.size ≤ m ∧ m ≤ w'.heap.size) ∧ OwnI 2 w' w.heap.size m aW cW lW ∧ OwnI 2 w' m w'.heap.size aC cC lC) ∧ p' ≤ q ∧ DS w' B0 b a xs c p' ∧ Touch w w' b (b + 1)
set_option maxRecDepth 10000 in
set_option maxHeartbeats 8000000 in
theorem drawCrowd_ds (w : World) (B0 b : Nat) (a : Option Addr) (xs : List Int) (c p u n m : Nat) (h : DS w B0 b a xs c p) (hp : p ≤ 700000) (u0 : 1 ≤ u) (u4 : u ≤ 4) (n0 : 1 ≤ n) (n4 : n ≤ 4) (m0 : 1 ≤ m) (m4 : m ≤ 4) :
    Calls Tryz.prog 195 #[.pointer (some ⟨b, 0, none⟩), .int .i64 u, .int .i64 n, .int .i64 m] w (CrowdR w B0 b a xs c (p + 30) u n) := by
  have hbw := h.lt
  obtain ⟨N, hN⟩ : ∃ N, N = 2 ^ n := ⟨_, rfl⟩
  have N2 : 2 ≤ N ∧ N ≤ 16 := by
    have : n = 1 ∨ n = 2 ∨ n = 3 ∨ n = 4 := by omega
    rcases this with rfl | rfl | rfl | rfl <;> subst hN <;> decide
  obtain ⟨N2, N16⟩ := N2
  have eW : wrap64 (2 ^ n) = (N : Int) := by
    have : (2 : Int) ^ n = (N : Int) := by rw [hN]; exact (Int.natCast_pow 2 n).symm
    rw [this]; unfold wrap64; omega
  have HN : Hid ((2 : Int) ^ n = (N : Int)) := by rw [hN]; exact (Int.natCast_pow 2 n).symm
  clear hN
  have B0' := bl2 w (.cells #[.int .i64 0, .int .i64 0, .slice none 0 0, .slice none 0 0] 30) (.cells #[.int .i64 u, .int .i64 n, .slice none 0 0, .slice none 0 0] 30)
  have V0 : Hid (DC1 w ((w.alloc (.cells #[.int .i64 0, .int .i64 0, .slice none 0 0, .slice none 0 0] 30)).alloc (.cells #[.int .i64 u, .int .i64 n, .slice none 0 0, .slice none 0 0] 30)) B0 b a xs c p (w.heap.size + 1) u n none 0 []) := by
    refine ⟨Below.touch B0' b (b + 1), h.same B0', (Blk.new w [.int .i64 0, .int .i64 0, .slice none 0 0, .slice none 0 0] 30).same (bl1 _ _), ?_, World.ownsRow_nil _ _ _ _⟩
    have := Blk.new (w.alloc (.cells #[.int .i64 0, .int .i64 0, .slice none 0 0, .slice none 0 0] 30)) [.int .i64 u, .int .i64 n, .slice none 0 0, .slice none 0 0] 30
    rw [World.size_alloc] at this
    exact this
  have ui : (u : Int) ≤ 4 := by omega
  have ni : (n : Int) ≤ 4 := by omega
  have mi : (m : Int) ≤ 4 := by omega
  clear h B0'
  go_enter Tryz.func195, Tryz.ntmps195
  go_wp2_with fail
  obtain ⟨g, hg⟩ : ∃ g, g = w.heap.size + 1 := ⟨_, rfl⟩
  rw [← hg] at V0 ⊢
  have hgw : w.heap.size < g := by omega
  have hg1 : g < ((w.alloc (.cells #[.int .i64 0, .int .i64 0, .slice none 0 0, .slice none 0 0] 30)).alloc (.cells #[.int .i64 u, .int .i64 n, .slice none 0 0, .slice none 0 0] 30)).heap.size := by simp; omega
  clear hg
  go_loopw [3] (fun kv wr => ∃ (k p' : Nat) (aW : Option Addr) (cW : Nat) (l : List Int), kv = .int .i64 k ∧ Hid (l.length + k = m) ∧ (k : Int) ≤ 4 ∧ Hid (p' ≤ p + l.length) ∧ Hid (∀ x ∈ l, 1 ≤ x ∧ x ≤ (N : Int) - 1) ∧ Hid (DC1 w wr B0 b a xs c p' g u n aW cW l) ∧ g < wr.heap.size) (fun kv _ => (intOf kv).toNat)
  case atStart => exact ⟨m, p, none, 0, [], rfl, by rw [Hid]; simp, mi, by rw [Hid]; simp, fun x hx => by simp at hx, V0.out, hg1⟩
  case round =>
    clear V0 hg1
    obtain ⟨k, p', aW, cW, l, rfl, hl, hk4, hpp, hx, hD, hgr⟩ := hrel
    have k0 : (0 : Int) ≤ (k : Int) := Int.natCast_nonneg _
    have hl4 : l.length ≤ 4 := by have := hl.out; omega
    by_cases hz : 0 < k
    · have hzi : (0 : Int) < (k : Int) := by omega
      have L1 := Lib.hid (pick_ds wr B0 b a xs c p' ((N : Int) - 1) hD.out.D (by have := hpp.out; omega) (by omega))
      go_wp2_with fail
      refine L1.out.mono ?_
      rintro e w2 ⟨y, p2, rfl, ⟨y0, y1⟩, hp2, D2, T2⟩
      have D2 := Lib.hid (hD.out.draw hbw hgw T2 D2)
      have s2 := T2.size
      have y14 : y ≤ 16 := by omega
      have HY : Hid (1 ≤ 1 + y ∧ 1 + y ≤ (N : Int) - 1) := by rw [Hid]; omega
      have k1 : w2.cell? ⟨g, 2, none⟩ = some (.slice aW l.length cW) := D2.out.V.cell 2
      have z1 := D2.out.V.free 2
      have O9 := Lib.hid D2.out.W
      clear L1 T2 y1 hD
      go_wp2_with (at_builtin; refine wpList_append_one _ rfl _ _ 24 rfl (g + 1) 2 (.int .i64 0) 8 Tryz.underlying24 info_i64p rfl _ l.length _ rfl O9.out _ rfl rfl (by omega) (by omega) (by omega) ?_)
      intro v' w5 ho hgr5
      obtain ⟨a5, c5, rfl, _⟩ := own_shape ho
      obtain ⟨g5, rfl, _, _⟩ := own_none2 ho (by omega)
      have hb5 := below_append (Below.refl (g + 1) w2) O9.out hgr5 (Nat.le_refl _) (by omega)
      have D5 := Lib.hid (D2.out.snoc (x := 1 + y) hbw hgw (by omega) hb5 ho)
      have k5 := (D2.out.V.below hb5 (by omega)).cell 2
      have z5 := (D2.out.V.below hb5 (by omega)).free 2
      have s5 := hb5.size
      have HP5 : Hid (p2 ≤ p + (l ++ [1 + y]).length) := by have := hpp.out; rw [Hid]; simp; omega
      have HL5 : Hid ((l ++ [1 + y]).length + (k - 1) = m) := by have := hl.out; rw [Hid]; simp; omega
      have HX5 : Hid (∀ x ∈ l ++ [1 + y], 1 ≤ x ∧ x ≤ (N : Int) - 1) := fun x hx' => by
        rcases List.mem_append.1 hx' with h | h
        · exact hx.out x h
        · simp at h; subst h; exact HY.out
      have hg5 : g < (w5.setCell ⟨g, 2, none⟩ (.slice (some ⟨g5, 0, none⟩) (l.length + 1) c5)).heap.size := by simp; omega
      simp only [List.getElem?_cons_succ, List.getElem?_cons_zero] at k5
      clear ho hgr5 k1 z1 O9 D2 hb5
      go_wp2_with fail
      go_roundw
      case rel => exact ⟨k - 1, p2, some ⟨g5, 0, none⟩, c5, l ++ [1 + y], by go_num, HL5.out, by omega, HP5.out, HX5.out, D5.out, hg5⟩
      case measure => first | (simp [intOf]; done) | (simp [intOf]; omega)
    · have : k = 0 := by omega
      subst this
      have HLm : Hid (l.length = m) := by have := hl.out; rw [Hid]; omega
      obtain ⟨wW, hwW⟩ : ∃ W : World, W = wr := ⟨_, rfl⟩
      rw [← hwW] at hD hgr ⊢
      clear hwW hl
      obtain ⟨tC, htC⟩ : ∃ t, t = wW.heap.size := ⟨_, rfl⟩
      have tCle : tC ≤ wW.heap.size := by omega
      have hgC : g < tC := by omega
      have HD2 : Hid (DC2 w wW B0 b a xs c p' g tC u n aW cW l none 0 []) := by
        refine ⟨hD.out.T, hD.out.D, hD.out.R, hD.out.V, ?_, World.ownsRow_nil _ _ _ _⟩
        rw [htC]; exact OwnI.of_own hD.out.W
      clear htC hD
      obtain ⟨lW, hlW⟩ : ∃ x, x = l := ⟨_, rfl⟩
      rw [← hlW] at HD2 hx HLm hpp
      subst hlW
      have hpq : p' ≤ p + 4 := by have := hpp.out; omega
      go_wp2_with fail
      rw [show ((0 : Nat) : Int) = 0 from rfl]
      go_loopw [11] (fun rv wr => ∃ (r q : Nat) (aC : Option Addr) (cC : Nat) (lC : List Int), r ≤ n ∧ rv = .int .i64 r ∧ Hid (lC.length = r * u) ∧ Hid (q ≤ p + 4 + 6 * r) ∧ Hid (∀ x ∈ lC, -20 ≤ x ∧ x ≤ 30) ∧ Hid (DC2 w wr B0 b a xs c q g tC u n aW cW lW aC cC lC) ∧ tC ≤ wr.heap.size) (fun rv _ => n - (intOf rv).toNat)
      case atStart => exact ⟨0, p', none, 0, [], Nat.zero_le _, rfl, by rw [Hid]; simp, by rw [Hid]; omega, fun x hx => by simp at hx, HD2.out, tCle⟩
      case round =>
        clear HD2 tCle
        obtain ⟨r, q, aC, cC, lC, hr, rfl, hlC, hq, hxC, hD, hgr⟩ := hrel
        obtain ⟨wo, hwo⟩ : ∃ W : World, W = wr := ⟨_, rfl⟩
        subst hwo
        by_cases hrn : r < n
        · have hri : (r : Int) < (n : Int) := by omega
          have r0 : (0 : Int) ≤ (r : Int) := Int.natCast_nonneg _
          have L1 := Lib.hid (pick_ds wo B0 b a xs c q 6 hD.out.D (by have := hq.out; omega) (by omega))
          have hru : r * u ≤ 3 * 4 := Nat.mul_le_mul (by omega) u4
          have hl16 : lC.length ≤ 12 := by have := hlC.out; omega
          go_wp2_with fail
          refine L1.out.mono ?_
          rintro e w2 ⟨y, q2, rfl, ⟨y0, y1⟩, hq2, D2, T2⟩
          have D2 := Lib.hid (hD.out.draw hbw hgw hgC T2 D2)
          have s2 := T2.size
          have y5 : y ≤ 5 := by omega
          have HQ2 : Hid (q2 ≤ p + 4 + 6 * r + 1) := by have := hq.out; rw [Hid]; omega
          have hg2 : tC ≤ w2.heap.size := by omega
          have HL2 : Hid (lC.length = r * u + 0) := by have := hlC.out; rw [Hid]; omega
          clear L1 T2 y1 hD hq hq2 hlC
          go_wp2_with fail
          go_loopw [12, 13] (fun cv kv wr => ∃ (k q' : Nat) (y : Int) (aC : Option Addr) (cC : Nat) (lC : List Int), k ≤ u ∧ kv = .int .i64 k ∧ cv = .int .i64 y ∧ -(k : Int) ≤ y ∧ y ≤ 5 + 3 * (k : Int) ∧ Hid (lC.length = r * u + k) ∧ Hid (q' ≤ p + 4 + 6 * r + 1 + k) ∧ Hid (∀ x ∈ lC, -20 ≤ x ∧ x ≤ 30) ∧ Hid (DC2 w wr B0 b a xs c q' g tC u n aW cW lW aC cC lC) ∧ tC ≤ wr.heap.size) (fun _ kv _ => u - (intOf kv).toNat)
          case atStart => exact ⟨0, q2, y, aC, cC, lC, Nat.zero_le _, rfl, rfl, by omega, by omega, HL2.out, HQ2.out, hxC.out, D2.out, hg2⟩
          case round =>
            clear D2 HL2 HQ2 hxC hg2 hl16
            obtain ⟨k, q', y', aC, cC, lC, hk, rfl, rfl, yl, yh, hlC, hq, hxC, hD, hgr⟩ := hrel
            have k0 : (0 : Int) ≤ (k : Int) := Int.natCast_nonneg _
            by_cases hku : k < u
            · have hki : (k : Int) < (u : Int) := by omega
              have hl16 : lC.length ≤ 16 := by have := hlC.out; omega
              have k1 : wr.cell? ⟨g, 3, none⟩ = some (.slice aC lC.length cC) := hD.out.V.cell 3
              have z1 := hD.out.V.free 3
              have O9 := Lib.hid hD.out.C
              go_wp2_with (at_builtin; refine wpList_append_one _ rfl _ _ 24 rfl tC 2 (.int .i64 0) 8 Tryz.underlying24 info_i64p rfl _ lC.length _ rfl O9.out _ rfl rfl (by omega) (by omega) hgr ?_)
              intro v' w5 ho hgr5
              obtain ⟨a5, c5, rfl, _⟩ := own_shape ho
              obtain ⟨g5, rfl, _, _⟩ := own_none2 ho (by omega)
              have hb5 := below_append (Below.refl tC wr) O9.out hgr5 (Nat.le_refl _) hgr
              have D5 := Lib.hid (hD.out.snoc (x := y') hbw hgw hgC hgr hb5 ho)
              have k5 := (hD.out.V.below hb5 hgC).cell 3
              have z5 := (hD.out.V.below hb5 hgC).free 3
              have s5 := hb5.size
              have L2 := Lib.hid (pick_ds _ B0 b a xs c q' 5 D5.out.D (by have := hq.out; omega) (by omega))
              have HX5 : Hid (∀ x ∈ lC ++ [y'], -20 ≤ x ∧ x ≤ 30) := fun x hx' => by
                rcases List.mem_append.1 hx' with h | h
                · exact hxC.out x h
                · simp at h; subst h; omega
              have hg5 : tC ≤ (w5.setCell ⟨g, 3, none⟩ (.slice (some ⟨g5, 0, none⟩) (lC.length + 1) c5)).heap.size := by simp; omega
              have HL5 : Hid ((lC ++ [y']).length = r * u + (k + 1)) := by have := hlC.out; rw [Hid]; simp; omega
              simp only [List.getElem?_cons_succ, List.getElem?_cons_zero] at k5
              clear ho hgr5 k1 z1 O9 hD hb5
              go_wp2_with fail
              refine L2.out.mono ?_
              rintro e w6 ⟨z, q6, rfl, ⟨z0, z1⟩, hq6, D6, T6⟩
              have D6 := Lib.hid (D5.out.draw hbw hgw hgC T6 D6)
              have s6 := T6.size
              have z4 : z ≤ 4 := by omega
              have HQ6 : Hid (q6 ≤ p + 4 + 6 * r + 1 + (k + 1)) := by have := hq.out; rw [Hid]; omega
              have hg6 : tC ≤ w6.heap.size := by omega
              clear L2 D5 T6 z1 k5 z5
              go_wp2_with fail
              go_roundw
              case rel => exact ⟨k + 1, q6, y' + (z - 1), some ⟨g5, 0, none⟩, c5, lC ++ [y'], by omega, by go_num, by go_num, by omega, by omega, HL5.out, HQ6.out, HX5.out, D6.out, hg6⟩
              case measure => first | (simp [intOf]; done) | (simp [intOf]; omega)
            · obtain rfl : k = u := by omega
              have HL5 : Hid (lC.length = (r + 1) * k) := by have := hlC.out; rw [Hid, Nat.add_mul]; omega
              have HQ5 : Hid (q' ≤ p + 4 + 6 * (r + 1)) := by have := hq.out; rw [Hid]; omega
              clear hlC hq
              go_wp2_with fail
              go_roundw
              case rel => exact ⟨r + 1, q', aC, cC, lC, by omega, by go_num, HL5.out, HQ5.out, hxC.out, hD.out, hgr⟩
              case measure => first | (simp [intOf]; done) | (simp [intOf]; omega)
        · obtain rfl : r = n := by omega
          have k0 : wo.cell? ⟨g, 0, none⟩ = some (.int .i64 u) := hD.out.V.cell 0
          have k1 : wo.cell? ⟨g, 1, none⟩ = some (.int .i64 r) := hD.out.V.cell 1
          have k2 : wo.cell? ⟨g, 2, none⟩ = some (.slice aW lW.length cW) := hD.out.V.cell 2
          have k3 : wo.cell? ⟨g, 3, none⟩ = some (.slice aC lC.length cC) := hD.out.V.cell 3
          have y0 : wo.cell? ⟨w.heap.size, 0, none⟩ = some (.int .i64 0) := hD.out.R.cell 0
          have y1 : wo.cell? ⟨w.heap.size, 1, none⟩ = some (.int .i64 0) := hD.out.R.cell 1
          have y2 : wo.cell? ⟨w.heap.size, 2, none⟩ = some (.slice none 0 0) := hD.out.R.cell 2
          have y3 : wo.cell? ⟨w.heap.size, 3, none⟩ = some (.slice none 0 0) := hD.out.R.cell 3
          have f0 := hD.out.R.free 0
          have f1 := hD.out.R.free 1
          have f2 := hD.out.R.free 2
          have f3 := hD.out.R.free 3
          go_wp2_with fail
          obtain ⟨wz, hwz⟩ : ∃ Y, Y = (((wo.setCell ⟨w.heap.size, 0, none⟩ (.int .i64 u)).setCell ⟨w.heap.size, 1, none⟩ (.int .i64 r)).setCell ⟨w.heap.size, 2, none⟩ (.slice aW lW.length cW)).setCell ⟨w.heap.size, 3, none⟩ (.slice aC lC.length cC) := ⟨_, rfl⟩
          have KZ : Blk wz w.heap.size [.int .i64 u, .int .i64 r, .slice aW lW.length cW, .slice aC lC.length cC] 30 := by rw [hwz]; exact (((hD.out.R.set 0 (.int .i64 u)).set 1 (.int .i64 r)).set 2 (.slice aW lW.length cW)).set 3 (.slice aC lC.length cC)
          have TZ : Touch wo wz w.heap.size (w.heap.size + 1) := by rw [hwz]; exact (((touch_setC wo w.heap.size 0 (.int .i64 u)).trans (touch_setC _ w.heap.size 1 (.int .i64 r))).trans (touch_setC _ w.heap.size 2 (.slice aW lW.length cW))).trans (touch_setC _ w.heap.size 3 (.slice aC lC.length cC))
          have OWZ := hD.out.W.touch TZ (.inr (by omega))
          have OCZ : OwnI 2 wz tC wz.heap.size aC cC lC := OwnI.of_own (own_grown hD.out.C (touch_grown TZ) (by omega))
          have DZ := hD.out.D.touch TZ hbw
          have TT := touch_hiC hD.out.T TZ (Nat.le_refl _)
          have sZ := TZ.size
          rw [← hwz]
          clear hwz y0 y1 y2 y3
          have y0 : wz.cell? ⟨w.heap.size, 0, none⟩ = some (.int .i64 u) := KZ.cell 0
          have y1 : wz.cell? ⟨w.heap.size, 1, none⟩ = some (.int .i64 r) := KZ.cell 1
          have y2 : wz.cell? ⟨w.heap.size, 2, none⟩ = some (.slice aW lW.length cW) := KZ.cell 2
          have y3 : wz.cell? ⟨w.heap.size, 3, none⟩ = some (.slice aC lC.length cC) := KZ.cell 3
          refine bodyPost_ret (v := .agg #[.int .i64 u, .int .i64 r, .slice aW lW.length cW, .slice aC lC.length cC]) (by simp [results, Tryz.results195, go_sem, y0, y1, y2, y3]) rfl ?_
          exact ⟨aW, cW, lW, aC, cC, lC, q, rfl, by rw [HLm.out]; omega, fun x hx' => by rw [HN.out]; exact hx.out x hx', hlC.out, hxC.out, ⟨tC, ⟨by omega, by omega⟩, OWZ.mono (by omega) (Nat.le_refl _), OCZ⟩, by have := hq.out; omega, DZ, TT⟩
end Go.Proofs.YtkbejmjkdnfemaaGreatDoor
