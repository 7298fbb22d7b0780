/-
  Parts taken of a text: the taker's state, told as a function.
-/
import Derived.Test.YteclpcmbicjjgaaStr
import Derived.Test.YteclpcmbicjjgaaOwn
import Derived.Test.YteclpcmbicjjgaaShelf
import Derived.BigQuiet
import Derived.Deep.AppendLies
import Derived.Deep.RegionHeldLaw
namespace Go.Proofs.Yteclpcmbicjjgaa
set_option linter.unusedVariables false
set_option linter.unusedSimpArgs false
open Go.RowKit

def tkS (s : ByteArray) (n : Nat) (t : Nat × Bool) : ByteArray := if t.1 + n ≤ s.size then s.extract t.1 (t.1 + n) else bs (Lib.repeatL [0] n)
def tkT (s : ByteArray) (n : Nat) (t : Nat × Bool) : Nat × Bool := if t.1 + n ≤ s.size then (t.1 + n, t.2) else (t.1, true)
def tkC (s : ByteArray) (t : Nat × Bool) : List Value := [.string s, .int .i64 (t.1 : Int), .bool t.2]
theorem tkT_le {s : ByteArray} {n : Nat} {t : Nat × Bool} (h : t.1 ≤ s.size) : (tkT s n t).1 ≤ s.size := by
  unfold tkT; split
  · assumption
  · exact h
theorem repeatL_zero : ∀ n, Lib.repeatL ([0] : List UInt8) n = List.replicate n 0 := by
  intro n
  induction n with
  | zero => rfl
  | succ n ih => simp [Lib.repeatL, ih, List.replicate_succ]
theorem tkS_size {s : ByteArray} {n : Nat} {t : Nat × Bool} : (tkS s n t).size = n := by
  unfold tkS; split
  · rw [ByteArray.size_extract]; omega
  · rw [bs_size, repeatL_zero, List.length_replicate]
theorem touch_setK (w : World) (g j : Nat) (u : Value) : Touch w (w.setCell ⟨g, j, none⟩ u) g (g + 1) :=
  Touch.of_grown (show w.grownBy (w.setCell ⟨g, j, none⟩ u) (some g) from ⟨rfl, rfl, rfl, by simp, fun i _ hi => Below.heap_setCell _ _ _ _ (fun e => hi (by simp [e]))⟩) (Nat.le_refl _) (Nat.lt_succ_self _)
set_option maxRecDepth 10000 in
set_option maxHeartbeats 4000000 in
theorem take_any (w : World) (g : Nat) (s : ByteArray) (t : Nat × Bool) (n : Nat) (hb : Blk w g (tkC s t) 104) (h1 : t.1 ≤ s.size) (hs : s.size ≤ 1099511627776) (hn : n ≤ 1024) :
    Calls Try.prog 84 #[.pointer (some ⟨g, 0, none⟩), .int .i64 n] w fun e w' => e = .returned (.string (tkS s n t)) ∧ Blk w' g (tkC s (tkT s n t)) 104 ∧ Touch w w' g (g + 1) := by
  obtain ⟨at', sh⟩ := t
  have HB := Lib.hid hb
  have z0 : w.cell? ⟨g, 0, none⟩ = some (.string s) := hb.cell 0
  have z1 : w.cell? ⟨g, 1, none⟩ = some (.int .i64 at') := hb.cell 1
  have z2 : w.cell? ⟨g, 2, none⟩ = some (.bool sh) := hb.cell 2
  have f1 := hb.free 1
  have f2 := hb.free 2
  have a0 : (0 : Int) ≤ (at' : Int) := Int.natCast_nonneg _
  have n0 : (0 : Int) ≤ (n : Int) := Int.natCast_nonneg _
  simp only at h1
  clear hb
  by_cases hf : at' + n ≤ s.size
  · have HS : Hid (tkS s n (at', sh) = s.extract at' (at' + n)) := by simp [Hid, tkS, hf]
    have HT : Hid (tkT s n (at', sh) = (at' + n, sh)) := by simp [Hid, tkT, hf]
    have hd : ¬ ((s.size : Int) - (at' : Int) < (n : Int)) := by omega
    go_enter Try.func84, Try.ntmps84
    go_wp2_with fail
    go_quiet (fail)
    go_wp2_with fail
    have K1 : Blk ((w.drewN nq).setCell ⟨g, 1, none⟩ (.int .i64 ((at' : Int) + (n : Int)))) g [.string s, .int .i64 ((at' : Int) + (n : Int)), .bool sh] 104 := (HB.out.drewN nq).set 1 (.int .i64 ((at' : Int) + (n : Int)))
    have TT := Lib.hid ((Below.touch (drewN_below w nq) g (g + 1)).trans (touch_setK (w.drewN nq) g 1 (.int .i64 ((at' : Int) + (n : Int)))))
    obtain ⟨w1, hw1⟩ : ∃ W, W = (w.drewN nq).setCell ⟨g, 1, none⟩ (.int .i64 ((at' : Int) + (n : Int))) := ⟨_, rfl⟩
    rw [← hw1] at K1 TT ⊢
    clear hw1
    have KK := Lib.hid K1
    have y0 : w1.cell? ⟨g, 0, none⟩ = some (.string s) := K1.cell 0
    have y1 : w1.cell? ⟨g, 1, none⟩ = some (.int .i64 ((at' : Int) + (n : Int))) := K1.cell 1
    have e1 : (at' : Int) + (n : Int) - (n : Int) = (at' : Int) := by omega
    have e2 : (at' : Int) + (n : Int) ≤ (s.size : Int) := by omega
    clear K1 z0 z1 z2 f1 f2
    go_quiet (fail)
    go_wp2_with fail
    go_ret
    refine ⟨?_, ?_, ?_⟩
    · rw [HS.out]; rfl
    · rw [HT.out]; exact KK.out.drewN _
    · exact TT.out.trans (Below.touch (drewN_below w1 _) g (g + 1))
  · have HS : Hid (tkS s n (at', sh) = bs (Lib.repeatL [0] n)) := by simp [Hid, tkS, hf]
    have HT : Hid (tkT s n (at', sh) = (at', true)) := by simp [Hid, tkT, hf]
    have hd : (s.size : Int) - (at' : Int) < (n : Int) := by omega
    go_enter Try.func84, Try.ntmps84
    go_wp2_with fail
    go_quiet (fail)
    go_wp2_with fail
    have K1 : Blk ((w.drewN nq).setCell ⟨g, 2, none⟩ (.bool true)) g [.string s, .int .i64 (at' : Int), .bool true] 104 := (HB.out.drewN nq).set 2 (.bool true)
    have TT := Lib.hid ((Below.touch (drewN_below w nq) g (g + 1)).trans (touch_setK (w.drewN nq) g 2 (.bool true)))
    have KK := Lib.hid K1
    clear K1
    refine (Try.strings_Repeat ⟨#[0]⟩ n _ (by omega) (by simp [ByteArray.size]; omega)).mono ?_
    rintro e w2 ⟨rfl, hb2⟩
    have K2 := Lib.hid (KK.out.same hb2)
    have T2 := TT.out.trans (Below.touch hb2 g (g + 1))
    clear hb2 KK TT z0 z1 z2 f1 f2
    go_wp2_with fail
    go_ret
    refine ⟨?_, ?_, T2⟩
    · rw [HS.out]; rfl
    · rw [HT.out]; exact K2.out
/-- The i-th byte of a string, as a number. -/
def bAt (r : ByteArray) (i : Nat) : Int := ((r.data.toList.getD i 0).toNat : Int)
theorem bAt_get (r : ByteArray) {i : Nat} (h : i < r.size) : bAt r i = (r[i].toNat : Int) := by
  have h2 : i < r.data.toList.length := by rw [← Lib.size_eq]; exact h
  unfold bAt
  rw [List.getD, List.getElem?_eq_getElem h2]; rfl
theorem bAt_bd (r : ByteArray) (i : Nat) : 0 ≤ bAt r i ∧ bAt r i ≤ 255 := by
  unfold bAt
  have := (r.data.toList.getD i 0).toNat_lt
  omega
theorem or_nat (x y : Nat) (hx : x < 256) (hy : y < 256) : bits .or .i64 (x : Int) ((y : Int) * 256) = (x : Int) + 256 * (y : Int) := by
  have e : (y : Int) * 256 = ((y * 256 : Nat) : Int) := by omega
  have h1 : (BitVec.ofInt 64 (x : Int)).toNat = x := by
    rw [BitVec.ofInt_natCast, BitVec.toNat_ofNat]; exact Nat.mod_eq_of_lt (by omega)
  have h2 : (BitVec.ofInt 64 ((y * 256 : Nat) : Int)).toNat = y * 256 := by
    rw [BitVec.ofInt_natCast, BitVec.toNat_ofNat]; exact Nat.mod_eq_of_lt (by omega)
  have h3 : x ||| y * 256 = y * 256 + x := by
    have := Nat.shiftLeft_add_eq_or_of_lt (i := 8) (a := y) (b := x) (by omega)
    rw [Nat.shiftLeft_eq, show (2 : Nat) ^ 8 = 256 from rfl] at this
    rw [Nat.or_comm]; exact this.symm
  rw [e]
  show IntKind.i64.wrap ((BitVec.ofInt 64 (x : Int) ||| BitVec.ofInt 64 ((y * 256 : Nat) : Int)).toNat : Int) = _
  rw [BitVec.toNat_or, h1, h2, h3, IntWalk.i64_in _ (by omega)]
  omega
theorem or_two (x y : UInt8) (less : Int) (h0 : 0 ≤ less) (h1 : less ≤ 65536) : IntKind.i64.wrap (bits .or .i64 (IntKind.i64.wrap (x.toNat : Int)) (IntKind.i64.wrap (IntKind.i64.wrap (y.toNat : Int) * 256)) - less) = (x.toNat : Int) + 256 * (y.toNat : Int) - less := by
  have hx := x.toNat_lt
  have hy := y.toNat_lt
  rw [IntWalk.i64_in (x.toNat : Int) (by omega), IntWalk.i64_in (y.toNat : Int) (by omega), IntWalk.i64_in ((y.toNat : Int) * 256) (by omega), or_nat _ _ (by omega) (by omega), IntWalk.i64_in _ (by omega)]
def tkB (s : ByteArray) (t : Nat × Bool) : Int := bAt (tkS s 1 t) 0
def tkN (s : ByteArray) (less : Int) (t : Nat × Bool) : Int := bAt (tkS s 2 t) 0 + 256 * bAt (tkS s 2 t) 1 - less
def numsT (s : ByteArray) (t : Nat × Bool) : Nat → Nat × Bool
  | 0 => t
  | k + 1 => tkT s 2 (numsT s t k)
def numsL (s : ByteArray) (less : Int) (t : Nat × Bool) (k : Nat) : List Int := (List.range k).map fun i => tkN s less (numsT s t i)
theorem numsL_snoc (s : ByteArray) (less : Int) (t : Nat × Bool) (k : Nat) : numsL s less t (k + 1) = numsL s less t k ++ [tkN s less (numsT s t k)] := by
  simp [numsL, List.range_succ]
@[simp] theorem numsL_length (s : ByteArray) (less : Int) (t : Nat × Bool) (k : Nat) : (numsL s less t k).length = k := by simp [numsL]
theorem numsT_le {s : ByteArray} {t : Nat × Bool} (h : t.1 ≤ s.size) : ∀ k, (numsT s t k).1 ≤ s.size
  | 0 => h
  | k + 1 => tkT_le (numsT_le h k)
theorem touch_grown {w w' : World} {g : Nat} (h : Touch w w' g (g + 1)) : w.grownBy w' (some g) :=
  ⟨h.os, h.tape, h.output, h.size, fun q hq hne => h.block q hq (by have : q ≠ g := fun e => hne (by rw [e]); omega)⟩
theorem touch_below {w w1 w2 : World} {lo hi : Nat} (h : Touch w w1 lo hi) (hb : Below w.heap.size w1 w2) : Touch w w2 lo hi :=
  ⟨hb.os.trans h.os, hb.tape.trans h.tape, hb.output.trans h.output, Nat.le_trans h.size hb.size, fun k hk hd => (hb.block k hk).trans (h.block k hk hd)⟩
/-- append of one number as a step of a region that draws its order. -/
theorem step_num {P : Program} {ops : Array Oper} {o : Oper} {a : Act} {wr : World} {K : Act → World → Prop} {Q : Exit → Act → World → Prop} {E : Prop}
    (d : Nat) (hd : o.dst = some d) (hg : o.guard = none) (s x : Operand) (t : TypeId) (hop : o.op = Op.call { callee := Callee.builtin Builtin.append, args := #[s, x], argTypes := #[t, t] })
    (base : Nat) (e : TypeId) (z : Value) (bytes : Nat) (h1 : P.underlying t = some (.slice e)) (hinfo : (P.info? e).map (fun i => (i.zero, i.size, i.bytes)) = some (some z, 1, bytes)) (hz : z.cells.size = 1)
    (v : Value) (n : Nat) (xs : List Value) (hs : a.eval s = v) (hown : wr.ownsRow base e 1 v n xs) (b : Nat) (y : Value) (hy : y.oneCell' = true) (hx : a.eval x = .slice (some ⟨b, 0, none⟩) 1 1)
    (hcell : Blk wr b [y] e) (hb : bytes ≤ 64) (hn : n ≤ 1099511627776) (hbase : base ≤ wr.heap.size)
    (hK : ∀ g c w', w'.ownsRow base e 1 (.slice (some ⟨g, 0, none⟩) (n + 1) c) (n + 1) (xs ++ [y]) → wr.grownBy w' v.ownBlock → K (a.put (some d) (.slice (some ⟨g, 0, none⟩) (n + 1) c)) w') :
    if Region.wanted o (yielded ops a.tmps) = true then Oper.wp P o a wr K Q else E := by
  obtain ⟨i, h2, h3, h4, h5⟩ := info_parts hinfo
  have hbb : (n + 1) * bytes ≤ 140737488355328 := Nat.le_trans (Nat.mul_le_mul_left (n + 1) hb) (by omega)
  refine step_append_lies _ hg s x t hop base e i z 1 bytes h1 h2 h3 h4 h5 hz (by omega) v n xs hs hown ⟨b, 0, none⟩ 1 1 [y] hx rfl (World.news_of_block (cs := #[y]) (t := e) (fr := (0, 0)) hcell) (by intro u hu; simp at hu; subst hu; exact hy) (by omega) (by unfold maxLen; omega) hbb hbase wr.heap.size rfl (fun g c w' ho hgr _ _ => by rw [hd]; exact hK g c w' ho hgr)
set_option maxRecDepth 10000 in
set_option maxHeartbeats 2000000 in
theorem byte_any (w : World) (g : Nat) (s : ByteArray) (t : Nat × Bool) (hb : Blk w g (tkC s t) 104) (h1 : t.1 ≤ s.size) (hs : s.size ≤ 1099511627776) :
    Calls Try.prog 85 #[.pointer (some ⟨g, 0, none⟩)] w fun e w' => e = .returned (.int .i64 (tkB s t)) ∧ Blk w' g (tkC s (tkT s 1 t)) 104 ∧ Touch w w' g (g + 1) := by
  have L := Lib.hid (take_any w g s t 1 hb h1 hs (by omega))
  have HE : Hid (tkB s t = bAt (tkS s 1 t) 0) := rfl
  have hsz := tkS_size (s := s) (n := 1) (t := t)
  generalize tkS s 1 t = r at *
  generalize tkT s 1 t = t' at *
  have hg := bAt_get r (i := 0) (by omega)
  have hbd := bAt_bd r 0
  rw [hg] at HE hbd
  have h0 : 0 < r.size := by omega
  have h0' : (0 : Int) < (r.size : Int) := by omega
  clear hb hg
  go_enter Try.func85, Try.ntmps85
  go_wp2_with fail
  refine L.out.mono ?_
  rintro e w1 ⟨rfl, K1, T1⟩
  have KK := Lib.hid K1
  clear K1
  go_wp2_with fail
  go_ret
  exact ⟨ret_int HE.out.symm, KK.out, T1⟩
theorem info_i64K : (Try.prog.info? 2).map (fun i => (i.zero, i.size, i.bytes)) = some (some (.int .i64 0), 1, 8) := by kernel_rfl
set_option maxRecDepth 10000 in
set_option maxHeartbeats 4000000 in
theorem numbers_any (w : World) (g : Nat) (s : ByteArray) (t : Nat × Bool) (count : Nat) (less : Int) (hb : Blk w g (tkC s t) 104) (h1 : t.1 ≤ s.size) (hs : s.size ≤ 1099511627776) (hc : count ≤ 65536) (hl0 : 0 ≤ less) (hl1 : less ≤ 65536) :
    Calls Try.prog 86 #[.pointer (some ⟨g, 0, none⟩), .int .i64 count, .int .i64 less] w fun e w' => ∃ a c, e = .returned (.slice a count c) ∧ OwnI 2 w' w.heap.size w'.heap.size a c (numsL s less t count) ∧ Blk w' g (tkC s (numsT s t count)) 104 ∧ Touch w w' g (g + 1) := by
  have HT : Hid (∀ k, (numsT s t k).1 ≤ s.size) := numsT_le h1
  have HS : Hid (∀ k, numsT s t (k + 1) = tkT s 2 (numsT s t k)) := fun _ => rfl
  have HN : Hid (∀ k, ints (numsL s less t (k + 1)) = ints (numsL s less t k) ++ [.int .i64 (tkN s less (numsT s t k))]) := fun k => by rw [numsL_snoc, ints_append]; rfl
  have K0 := Lib.hid hb
  have hgl := hb.lt
  clear hb
  go_enter Try.func86, Try.ntmps86
  go_wp2_with fail
  go_loopw [11, 7] (fun iv v wr => ∃ (k : Nat) (a : Option Addr) (c : Nat), k ≤ count ∧ iv = .int .i64 k ∧ v = .slice a k c ∧ Hid (wr.ownsRow w.heap.size 2 1 (.slice a k c) k (ints (numsL s less t k))) ∧ Hid (Blk wr g (tkC s (numsT s t k)) 104) ∧ Touch w wr g (g + 1)) (fun iv _ _ => count - (intOf iv).toNat)
  case atStart => exact ⟨0, _, _, Nat.zero_le _, rfl, rfl, own_empty w _, K0.out.alloc _, Below.touch (bl1 w _) g (g + 1)⟩
  case round =>
    obtain ⟨k, a, c, hk, rfl, rfl, hO, hK, hw⟩ := hrel
    by_cases hlt : k < count
    · have k0 : (0 : Int) ≤ (k : Int) := Int.natCast_nonneg _
      have k1 : (k : Int) < (count : Int) := by omega
      have L := Lib.hid (take_any wr g s (numsT s t k) 2 hK.out (HT.out k) hs (by omega))
      have HNk := Lib.hid (HN.out k)
      have hE : tkN s less (numsT s t k) = bAt (tkS s 2 (numsT s t k)) 0 + 256 * bAt (tkS s 2 (numsT s t k)) 1 - less := rfl
      have hsz := tkS_size (s := s) (n := 2) (t := numsT s t k)
      rw [← HS.out k] at L
      rw [hE] at HNk
      generalize tkS s 2 (numsT s t k) = r at *
      have q0 : 0 < r.size := by omega
      have q1 : 1 < r.size := by omega
      have hb0 := bAt_bd r 0
      have hb1 := bAt_bd r 1
      rw [bAt_get r q0] at HNk hb0
      rw [bAt_get r q1] at HNk hb1
      have q0' : (0 : Int) < (r.size : Int) := by omega
      have q1' : (1 : Int) < (r.size : Int) := by omega
      have hws := hw.size
      clear hE hK
      go_wp2_with fail
      refine L.out.mono ?_
      rintro e w1 ⟨rfl, K1, T1⟩
      have K1' := Lib.hid K1
      have hO1 := Lib.hid (own_grown hO.out (touch_grown T1) hgl)
      have W1 := Lib.hid (hw.trans T1)
      clear K1 T1 hO L
      go_wp2_with fail
      have hO1d : Hid (w1.drew.ownsRow w.heap.size 2 1 (.slice a k c) k (ints (numsL s less t k))) := hO1.out
      have hs1 : w.heap.size ≤ w1.drew.heap.size := W1.out.size
      go_region_held_law (fun _ => True)
        (trivial)
        ((refine step_num 27 (by rfl) (by rfl) _ _ 22 (by rfl) w.heap.size 2 (.int .i64 0) 8 Try.underlying22 info_i64K (by rfl) _ k _ (by rfl) (hO1d.out.alloc _) _ _ (by rfl) (by rfl) (Blk.new w1.drew [_] _) (by decide) (by omega) (Nat.le_trans hs1 (by simp)) ?_; intro g5 c5 w5 ho5 hg5))
      all_goals
        rw [or_two _ _ _ hl0 hl1, ← HNk.out] at ho5
        have HO5 := Lib.hid ho5
        have hb5 : Below w.heap.size w1 w5 := ((below_drew' (Below.refl w.heap.size w1)).alloc hs1 _).trans (below_append (Below.refl w.heap.size _) (hO1d.out.alloc _) hg5 (Nat.le_refl _) (Nat.le_trans hs1 (by simp)))
        have W5 := touch_below W1.out hb5
        have K5 := Lib.hid (K1'.out.below hb5 hgl)
        clear ho5 hg5 hb5
        go_wp2_with fail
        go_roundw
        case rel => exact ⟨k + 1, _, _, by omega, by go_num, rfl, HO5.out, K5.out, W5⟩
        case measure => first | (simp [intOf]; done) | (simp [intOf]; omega)
    · have : k = count := by omega
      subst this
      have hws := hw.size
      have hOI : OwnI 2 wr w.heap.size wr.heap.size a c (numsL s less t k) := by
        refine OwnI.of_own ?_
        rw [numsL_length]; exact hO.out
      have HOI := Lib.hid hOI
      clear hO hOI
      go_wp2_with fail
      go_ret
      exact ⟨a, c, rfl, HOI.out, hK.out, hw⟩
end Go.Proofs.Yteclpcmbicjjgaa
