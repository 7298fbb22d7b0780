/-
  Decimal texts of integers: both roads.
-/
import Derived.Test.YtiimhpopcgiejaaDoorStr
import Derived.Test.YtiimhpopcgiejaaDoorShelf
import Derived.Test.YtiimhpopcgiejaaDoorOwn
import Derived.Lib.ItoaNum
import Derived.Lib.LaidTab
import Derived.Sort.Grow
import Derived.Laws.IdiomStrings
namespace Go.Proofs.YtiimhpopcgiejaaDoor
set_option linter.unusedVariables false
set_option linter.unusedSimpArgs false
open Go.RowKit

/-- Bytes as the cells of a slice. -/
def bys (l : List UInt8) : List Value := l.map fun b => Value.int .u8 (b.toNat : Int)
@[simp] theorem bys_length (l : List UInt8) : (bys l).length = l.length := by simp [bys]
theorem bys_get {l : List UInt8} {j : Nat} (h : j < l.length) : (bys l)[j]? = some (.int .u8 (l[j].toNat : Int)) := by simp [bys, List.getElem?_eq_getElem h]
theorem bys_append (a b : List UInt8) : bys (a ++ b) = bys a ++ bys b := by simp [bys]
theorem below_grow (w : World) (os : Array Obj) : Below w.heap.size w (Go.Sort.grow w os) :=
  ⟨rfl, rfl, rfl, by simp [Go.Sort.grow], fun k hk => by simp only [Go.Sort.grow]; rw [Array.getElem?_append_left hk]⟩
/-- Bytes appended to a row of bytes of one's own. -/
theorem append_manyB {P : Program} (wr : World) {ops : Array Oper} {rest : List Oper} {o : Oper} {a : Act} {Q : Exit → Act → World → Prop}
    (hg : o.guard = none) (s x : Operand) (t : TypeId) (hop : o.op = Op.call { callee := Callee.builtin Builtin.append, args := #[s, x], argTypes := #[t, t] })
    (base : Nat) (e : TypeId) (z : Value) (bytes : Nat) (h1 : P.underlying t = some (.slice e)) (hinfo : (P.info? e).map (fun i => (i.zero, i.size, i.bytes)) = some (some z, 1, bytes)) (hz : z.cells.size = 1)
    (v : Value) (n : Nat) (xs : List UInt8) (hs : a.eval s = v) (hown : wr.ownsRow base e 1 v n (bys xs)) (b off m c : Nat) (ys : List UInt8) (hx : a.eval x = .slice (some ⟨b, off, none⟩) m c) (hm : ys.length = m)
    (hcell : ∀ j (hj : j < ys.length), wr.cell? ⟨b, off + j, none⟩ = some (.int .u8 (ys[j].toNat : Int))) (hb : bytes ≤ 64) (hn : n + m ≤ 1099511627776) (hbase : base ≤ wr.heap.size)
    (hK : ∀ v' w', w'.ownsRow base e 1 v' (n + m) (bys (xs ++ ys)) → wr.grownBy w' v.ownBlock → wpList P ops Q rest (a.put o.dst v') w') :
    wpList P ops Q (o :: rest) a wr := by
  obtain ⟨i, h2, h3, h4, h5⟩ := info_parts hinfo
  have hbb : (n + m) * bytes ≤ 140737488355328 := Nat.le_trans (Nat.mul_le_mul_left (n + m) hb) (by omega)
  refine wpList_append_own wr hg s x t hop base e i z 1 bytes h1 h2 h3 h4 h5 hz (by omega) v n (bys xs) hs hown ⟨b, off, none⟩ m c (bys ys) hx (by simp; omega) ?_ ?_ (by unfold maxLen; omega) hbb hbase (fun v' w' ho hgr _ => hK v' w' (by rw [bys_append]; exact ho) hgr)
  · intro j u hj
    have hj' : j < ys.length := by have := (List.getElem?_eq_some_iff.1 hj).1; simpa using this
    have ea : (⟨b, off, none⟩ : Addr).add j = ⟨b, off + j, none⟩ := by unfold Addr.add; split <;> simp_all
    rw [ea, hcell j hj', ← hj, bys_get hj']
  · intro u hu
    obtain ⟨x, _, rfl⟩ := List.mem_map.1 hu
    rfl
theorem digit_byte (q : Nat) (h : q < 10) : (UInt8.ofNat (48 + q)).toNat = 48 + q := by
  rw [UInt8.toNat_ofNat']; omega
/-- What is left to be told behind the digits d, r being what is left of the number. -/
def DecI (n r : Int) (d : List UInt8) : Prop := (d = [] ∨ r ≠ 0 → Lib.decDigits n.natAbs = Lib.decDigits r.natAbs ++ d) ∧ (d ≠ [] → r = 0 → Lib.decDigits n.natAbs = d)
theorem DecI.start (n : Int) : DecI n n [] := ⟨fun _ => by simp, fun h => absurd rfl h⟩
theorem dec_ten {u : Nat} (h : ¬ u < 10) : Lib.decDigits u = Lib.decDigits (u / 10) ++ [UInt8.ofNat (48 + u % 10)] := by rw [Lib.decDigits, dif_neg h]
theorem DecI.step {n r r' : Int} {d : List UInt8} (h : DecI n r d) (hc : d = [] ∨ r ≠ 0) (hr : r'.natAbs = r.natAbs / 10) : DecI n r' (UInt8.ofNat (48 + r.natAbs % 10) :: d) := by
  have h1 := h.1 hc
  refine ⟨fun hh => ?_, fun _ h0 => ?_⟩
  · have h0 : r' ≠ 0 := by rcases hh with hh | hh; cases hh; exact hh
    rw [dec_ten (u := r.natAbs) (by omega), ← hr, List.append_assoc] at h1
    exact h1
  · have h9 : r.natAbs < 10 := by omega
    rw [Lib.decDigits_one h9] at h1
    rw [h1, Nat.mod_eq_of_lt h9]; rfl
theorem nDigits_le (u : Nat) : ∀ k, u < 10 ^ k → 1 ≤ k → (Lib.decDigits u).length ≤ k := by
  intro k
  induction k generalizing u with
  | zero => intro _ h; omega
  | succ k ih =>
    intro h _
    rw [Lib.decDigits]
    split
    · simp
    · rename_i h9
      have hk : 1 ≤ k := by
        rcases Nat.eq_zero_or_pos k with e | e
        · subst e; simp at h; omega
        · exact e
      have := ih (u / 10) (by rw [Nat.pow_succ] at h; omega) hk
      simp; omega
/-- The library's table of powers of ten is there. -/
def Tab (w : World) : Prop := Lib.TabIs Tryd.prog w "internal/strconv.uint64pow10" .u64 Lib.pow10Tab
theorem Tab.to {w w' : World} (h : Tab w) (hb : Below w.heap.size w w') : Tab w' := by
  unfold Tab Lib.TabIs World.var? at *
  cases hg : Tryd.prog.globalNamed "internal/strconv.uint64pow10" with
  | none => simp [hg] at h
  | some g =>
    simp only [hg, Option.bind_some] at h ⊢
    have hlt : g < w.heap.size := by
      rcases Nat.lt_or_ge g w.heap.size with h' | h'
      · exact h'
      · rw [Array.getElem?_eq_none h'] at h; simp at h
    rw [hb.block g hlt]
    exact h
theorem decimal_any (w : World) (h : Tab w) (n : Int) (h0 : -9223372036854775808 ≤ n) (h1 : n ≤ 9223372036854775807) :
    Calls Tryd.prog 36 #[.int .i64 n] w fun e w' => e = .returned (.string (bs (Lib.itoa n))) ∧ Below w.heap.size w w' := by
  have LF := Lib.hid (Tryd.strconv_FormatInt_10 n h0 h1 w h)
  clear h
  go_enter Tryd.func36, Tryd.ntmps36
  go_wp2_with fail
  refine LF.out.mono ?_
  rintro e w1 ⟨rfl, k, os, rfl⟩
  have B : Hid (Below w.heap.size w (Go.Sort.grow (w.drewN k) os)) := below_then (drewN_below w k) (below_grow (w.drewN k) os)
  generalize Go.Sort.grow (w.drewN k) os = w2 at *
  go_wp2_with fail
  go_ret
  exact ⟨rfl, B.out⟩
theorem info_u8 : (Tryd.prog.info? 5).map (fun i => (i.zero, i.size, i.bytes)) = some (some (.int .u8 0), 1, 1) := by kernel_rfl
theorem ten_tmod (r : Int) : r.tmod 10 = ((r.natAbs % 10 : Nat) : Int) ∨ (r.tmod 10 = -((r.natAbs % 10 : Nat) : Int) ∧ 0 < r.natAbs % 10) := by
  rcases Int.natAbs_eq r with h | h
  · left; rw [h, Int.natAbs_natCast]; rfl
  · have e : r.tmod 10 = -((r.natAbs % 10 : Nat) : Int) := by
      conv => lhs; rw [h, Int.neg_tmod]
      rfl
    rcases Nat.eq_zero_or_pos (r.natAbs % 10) with h0 | h0
    · left; rw [e, h0]; rfl
    · exact .inr ⟨e, h0⟩
theorem ten_tdiv (r : Int) : (r.tdiv 10).natAbs = r.natAbs / 10 ∧ (0 ≤ r → 0 ≤ r.tdiv 10) ∧ (r ≤ 0 → r.tdiv 10 ≤ 0) := by
  rcases Int.natAbs_eq r with h | h
  · have e : r.tdiv 10 = ((r.natAbs / 10 : Nat) : Int) := by conv => lhs; rw [h]
                                                             rfl
    exact ⟨by rw [e]; rfl, fun _ => by omega, fun _ => by omega⟩
  · have e : r.tdiv 10 = -((r.natAbs / 10 : Nat) : Int) := by
      conv => lhs; rw [h, Int.neg_tdiv]
      rfl
    exact ⟨by rw [e, Int.natAbs_neg]; rfl, fun _ => by omega, fun _ => by omega⟩
theorem add_none (b o j : Nat) : (⟨b, o, none⟩ : Addr).add j = ⟨b, o + j, none⟩ := by unfold Addr.add; split <;> simp_all
def emptyOf : Value → Nat
  | .slice _ n _ => if n = 0 then 1 else 0
  | _ => 0
/-- One byte ahead of others. -/
theorem own_byte (w : World) (b : UInt8) : (w.alloc (.cells #[Value.int .u8 (b.toNat : Int)] 5)).ownsRow w.heap.size 5 1 (.slice (some ⟨w.heap.size, 0, none⟩) 1 1) 1 (bys [b]) :=
  (Blk.new w [Value.int .u8 (b.toNat : Int)] 5).owns (Nat.le_refl _) (by unfold maxLen; simp)
theorem own_cells {w : World} {base e g m c : Nat} {l : List UInt8} (h : w.ownsRow base e 1 (.slice (some ⟨g, 0, none⟩) m c) m (bys l)) : g < w.heap.size ∧ ∀ j (hj : j < l.length), w.cell? ⟨g, 0 + j, none⟩ = some (.int .u8 (l[j].toNat : Int)) := by
  obtain ⟨h1, h2⟩ := h
  rcases h2 with ⟨h2, h3⟩ | ⟨g', cap, cur, hv, hg, hh, hn, hm, hs, ht⟩
  · cases h2
  · injection hv with ha _ _
    injection ha with ha
    injection ha with ha _ _
    subst ha
    have hb : Blk w g cur.toList e := hh
    refine ⟨lt_of_block hh, fun j hj => ?_⟩
    rw [Nat.zero_add, hb.cell, ← bys_get hj, ← ht, List.getElem?_take, if_pos (by rw [bys_length] at h1; omega)]
theorem own_addr {w : World} {base e n : Nat} {v : Value} {xs : List Value} (h : w.ownsRow base e 1 v n xs) (hn : 1 ≤ n) : ∃ g c, v = .slice (some ⟨g, 0, none⟩) n c := by
  rcases h.2 with ⟨_, h3⟩ | ⟨g', cap, cur, hv, _⟩
  · omega
  · exact ⟨g', cap, hv⟩
theorem itoa_pos {n : Int} (h : 0 ≤ n) : Lib.itoa n = Lib.decDigits n.natAbs := by
  unfold Lib.itoa
  rw [if_neg (by omega), show n.toNat = n.natAbs from by omega]
theorem itoa_neg {n : Int} (h : n < 0) : Lib.itoa n = 45 :: Lib.decDigits n.natAbs := by
  unfold Lib.itoa
  rw [if_pos h]
set_option maxRecDepth 10000 in
set_option maxHeartbeats 4000000 in
theorem l01Dec_any (w : World) (n : Int) (h0 : -9223372036854775808 ≤ n) (h1 : n ≤ 9223372036854775807) :
    Calls Tryd.prog 53 #[.int .i64 n] w fun e w' => e = .returned (.string (bs (Lib.itoa n))) ∧ Below w.heap.size w w' := by
  have HLEN : Hid ((Lib.decDigits n.natAbs).length ≤ 20) := nDigits_le _ 20 (by omega) (by omega)
  go_enter Tryd.func53, Tryd.ntmps53
  go_wp2_with fail
  go_loopw [3, 4] (fun v rv wr => ∃ (d : List UInt8) (r : Int) (g c m : Nat), m = d.length ∧ v = .slice (some ⟨g, 0, none⟩) m c ∧ rv = .int .i64 r ∧ -9223372036854775808 ≤ r ∧ r ≤ 9223372036854775807 ∧ (0 ≤ n → 0 ≤ r) ∧ (n < 0 → r ≤ 0) ∧ Hid (DecI n r d) ∧ Hid (wr.ownsRow w.heap.size 5 1 (.slice (some ⟨g, 0, none⟩) m c) m (bys d)) ∧ Below w.heap.size w wr) (fun v rv _ => (intOf rv).natAbs + emptyOf v)
  case atStart => exact ⟨[], n, w.heap.size, 0, 0, rfl, rfl, rfl, h0, h1, fun h => h, fun h => by omega, DecI.start n, own_empty w _, bl1 _ _⟩
  case round =>
    obtain ⟨d, r, g, c, m, hm, rfl, rfl, r0, r1, rs0, rs1, hD, hO, hw⟩ := hrel
    have hws := hw.size
    by_cases hc : d = [] ∨ r ≠ 0
    · obtain ⟨q, hq⟩ : ∃ q : Nat, q = r.natAbs % 10 := ⟨_, rfl⟩
      have hq10 : q < 10 := by omega
      obtain ⟨t, ht⟩ : ∃ t : Int, t = r.tdiv 10 := ⟨_, rfl⟩
      obtain ⟨t1, t2, t3⟩ := ten_tdiv r
      have hm20 : m ≤ 20 := by
        have h1 := hD.out.1 hc
        have h2 := HLEN.out
        rw [h1, List.length_append] at h2
        omega
      have HS : Hid (DecI n (r.tdiv 10) (UInt8.ofNat (48 + q) :: d)) := by
        rw [hq]; exact hD.out.step hc t1
      have tm := ten_tmod r
      rw [← hq] at tm
      have HB := Lib.hid (digit_byte q hq10)
      have HX := Lib.hid (own_byte wr (UInt8.ofNat (48 + q)))
      rw [HB.out] at HX
      have HBY : Hid (bys [UInt8.ofNat (48 + q)] ++ bys d = bys (UInt8.ofNat (48 + q) :: d)) := rfl
      generalize UInt8.ofNat (48 + q) = B at *
      rw [← ht] at t1 t2 t3 HS
      have td : r.tdiv 10 = t := ht.symm
      have k1 : 0 ≤ n → 0 ≤ t := fun h => t2 (rs0 h)
      have k2 : n < 0 → t ≤ 0 := fun h => t3 (rs1 h)
      have q0 : (0 : Int) ≤ (q : Int) := Int.natCast_nonneg _
      have e1 : IntKind.i64.wrap (48 + (q : Int)) = 48 + (q : Int) := IntWalk.i64_in _ (by omega)
      have e2 : IntKind.u8.wrap (48 + (q : Int)) = 48 + (q : Int) := by show (48 + (q : Int)) % 256 = _; omega
      have e3 : ((48 + q : Nat) : Int) = 48 + (q : Int) := by omega
      rw [e3] at HX
      have r2 : -9223372036854775808 ≤ t := by omega
      have r3 : t ≤ 9223372036854775807 := by omega
      have hbe := below_then hw (bl1 wr (.cells #[Value.int .u8 (48 + (q : Int))] 5))
      clear ht t2 t3 rs0 rs1 h0 h1
      by_cases hd : d = []
      · subst hd
        have hm0 : m = 0 := hm
        subst hm0
        clear hc hm hO hD
        rcases tm with tm | ⟨tm, hq0⟩
        · clear hq
          go_wp2_with fail
          go_roundw
          case rel => exact ⟨[B], t, wr.heap.size, 1, 1, rfl, rfl, rfl, r2, r3, k1, k2, HS.out, own_base HX.out hws, hbe⟩
          case measure => simp [intOf, emptyOf]; omega
        · have e4 : IntKind.i64.wrap (q : Int) = (q : Int) := IntWalk.i64_in _ (by omega)
          have hq0' : (0 : Int) < (q : Int) := by omega
          clear hq
          go_wp2_with fail
          go_roundw
          case rel => exact ⟨[B], t, wr.heap.size, 1, 1, rfl, rfl, rfl, r2, r3, k1, k2, HS.out, own_base HX.out hws, hbe⟩
          case measure => simp [intOf, emptyOf]; omega
      · have hr0 : (r != 0) = true := by
          rcases hc with h | h
          · exact absurd h hd
          · simpa using h
        have HR0 : Hid (r ≠ 0) := by show _ ≠ _; simpa using hr0
        have hm1 : 1 ≤ m := by
          rcases Nat.eq_zero_or_pos m with h | h
          · exact absurd (List.eq_nil_of_length_eq_zero (by omega)) hd
          · exact h
        have HL := Lib.hid hm
        have HCC := Lib.hid (own_cells hO.out)
        have Hm2 : Hid (1 + m = (B :: d).length) := by show _ = _; simp; omega
        clear hc hm hO hD hd
        rcases tm with tm | ⟨tm, hq0⟩
        · clear hq
          go_wp2_with (at_builtin; refine append_manyB _ rfl _ _ 53 rfl wr.heap.size 5 (.int .u8 0) 1 Tryd.underlying53 info_u8 rfl _ 1 [B] rfl HX.out g 0 m c d rfl HL.out.symm ?_ (by omega) (by omega) (by simp) ?_)
          · intro j hj
            rw [(bl1 wr _).cell (p := ⟨g, 0 + j, none⟩) HCC.out.1]; exact HCC.out.2 j hj
          intro v' w' ho hgr
          obtain ⟨g', c', rfl⟩ := own_addr ho (by omega)
          have hw2 := below_append hbe HX.out hgr hws (by simp; omega)
          have HO := Lib.hid (own_base ho hws)
          clear ho hgr hw hbe
          go_wp2_with fail
          go_roundw
          case rel => exact ⟨B :: d, t, g', c', 1 + m, Hm2.out, rfl, rfl, r2, r3, k1, k2, HS.out, HO.out, hw2⟩
          case measure =>
            have := HR0.out
            have hz : ¬ m = 0 := by omega
            simp [intOf, emptyOf, hz]; omega
        · have e4 : IntKind.i64.wrap (q : Int) = (q : Int) := IntWalk.i64_in _ (by omega)
          have hq0' : (0 : Int) < (q : Int) := by omega
          clear hq
          go_wp2_with (at_builtin; refine append_manyB _ rfl _ _ 53 rfl wr.heap.size 5 (.int .u8 0) 1 Tryd.underlying53 info_u8 rfl _ 1 [B] rfl HX.out g 0 m c d rfl HL.out.symm ?_ (by omega) (by omega) (by simp) ?_)
          · intro j hj
            rw [(bl1 wr _).cell (p := ⟨g, 0 + j, none⟩) HCC.out.1]; exact HCC.out.2 j hj
          intro v' w' ho hgr
          obtain ⟨g', c', rfl⟩ := own_addr ho (by omega)
          have hw2 := below_append hbe HX.out hgr hws (by simp; omega)
          have HO := Lib.hid (own_base ho hws)
          clear ho hgr hw hbe
          go_wp2_with fail
          go_roundw
          case rel => exact ⟨B :: d, t, g', c', 1 + m, Hm2.out, rfl, rfl, r2, r3, k1, k2, HS.out, HO.out, hw2⟩
          case measure =>
            have := HR0.out
            have hz : ¬ m = 0 := by omega
            simp [intOf, emptyOf, hz]; omega
    · have hd : d ≠ [] := fun h => hc (.inl h)
      have hr0 : r = 0 := by
        rcases Int.decEq r 0 with h | h
        · exact absurd (.inr h) hc
        · exact h
      subst hr0
      have hm1 : 1 ≤ m := by
        rcases Nat.eq_zero_or_pos m with h | h
        · exact absurd (List.eq_nil_of_length_eq_zero (by omega)) hd
        · exact h
      have HD : Hid (Lib.decDigits n.natAbs = d) := hD.out.2 hd rfl
      have hm20 : m ≤ 20 := by
        have h2 := HLEN.out
        rw [HD.out] at h2; omega
      have HCC := Lib.hid (own_cells hO.out)
      have HL := Lib.hid hm
      clear hc hd hD
      by_cases hn : n < 0
      · have HI := Lib.hid (itoa_neg hn)
        rw [HD.out] at HI
        have HX := Lib.hid (own_byte wr 45)
        have HX2 : Hid ((wr.alloc (.cells #[Value.int .u8 45] 5)).ownsRow wr.heap.size 5 1 (.slice (some ⟨wr.heap.size, 0, none⟩) 1 1) 1 (bys [45])) := HX.out
        have hbe := below_then hw (bl1 wr (.cells #[Value.int .u8 45] 5))
        clear hm hO HX
        go_wp2_with (at_builtin; refine append_manyB _ rfl _ _ 53 rfl wr.heap.size 5 (.int .u8 0) 1 Tryd.underlying53 info_u8 rfl _ 1 [45] rfl HX2.out g 0 m c d rfl HL.out.symm ?_ (by omega) (by omega) (by simp) ?_)
        · intro j hj
          rw [(bl1 wr _).cell (p := ⟨g, 0 + j, none⟩) HCC.out.1]; exact HCC.out.2 j hj
        intro v' w' ho hgr
        obtain ⟨g', c', rfl⟩ := own_addr ho (by omega)
        have hw2 := below_append hbe HX2.out hgr hws (by simp; omega)
        have hcl := (own_cells ho).2
        have hcv := run_convert_bytes_back (P := Tryd.prog) w' 53 9 5 ⟨g', 0, none⟩ c' ([45] ++ d) Tryd.underlying53 Tryd.underlying5 Tryd.underlying9 (fun j hj => by rw [add_none]; exact hcl j hj)
        have el : (([45] : List UInt8) ++ d).length = 1 + m := by rw [List.length_append, ← HL.out]; rfl
        have ei : ([45] : List UInt8) ++ d = Lib.itoa n := HI.out.symm
        rw [el, ei] at hcv
        clear ho hgr hcl hw hbe
        go_wp2_with fail
        go_ret
        exact ⟨rfl, hw2⟩
      · have HI := Lib.hid (itoa_pos (n := n) (by omega))
        rw [HD.out] at HI
        have hcv := run_convert_bytes_back (P := Tryd.prog) wr 53 9 5 ⟨g, 0, none⟩ c d Tryd.underlying53 Tryd.underlying5 Tryd.underlying9 (fun j hj => by rw [add_none]; exact HCC.out.2 j hj)
        rw [← HL.out, ← HI.out] at hcv
        clear hm hO
        go_wp2_with fail
        go_ret

        exact ⟨rfl, hw⟩
end Go.Proofs.YtiimhpopcgiejaaDoor
