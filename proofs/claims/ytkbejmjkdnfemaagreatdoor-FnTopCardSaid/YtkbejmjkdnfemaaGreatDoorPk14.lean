/-
  Part 14 of what the proof stands on: lemmas and contracts, each with its conditions ahead of the colon.
-/
import Derived.Deep.RegionHeld3
import Derived.Test.YtkbejmjkdnfemaaGreatDoorPk02
import Derived.Test.YtkbejmjkdnfemaaGreatDoorPk04
import Derived.Test.YtkbejmjkdnfemaaGreatDoorPk07
import Derived.Test.YtkbejmjkdnfemaaGreatDoorPk08
import Derived.Test.YtkbejmjkdnfemaaGreatDoorPk10
import Derived.Test.YtkbejmjkdnfemaaGreatDoorPk13
namespace Go.Proofs.YtkbejmjkdnfemaaGreatDoor
set_option linter.unusedVariables false
set_option linter.unusedSimpArgs false
open Go.RowKit

/-- The text of lists, if each one has a text. -/
def txtO (xss : List (List Int)) : Option (List UInt8) := if xss.all valOk then some (partsL xss) else none
theorem txtO_yes {xss : List (List Int)} (h : ∀ x ∈ xss, valOk x = true) : txtO xss = some (partsL xss) := if_pos (List.all_eq_true.2 h)
theorem txtO_no {xss : List (List Int)} {x : List Int} (hx : x ∈ xss) (h : valOk x = false) : txtO xss = none := if_neg (fun e => by rw [List.all_eq_true.1 e x hx] at h; cases h)
/-- A text and whether it is one. -/
def RetTx (r : Option (List UInt8)) (w : World) (e : Ending) (w' : World) : Prop := Below w.heap.size w w' ∧ e = .returned (.tuple #[.string (bs (r.getD [])), .bool r.isSome])
theorem all_take {xss : List (List Int)} {k : Nat} {x : List Int} (h : ∀ y ∈ xss.take k, valOk y = true) (hx : xss[k]? = some x) (hv : valOk x = true) : ∀ y ∈ xss.take (k + 1), valOk y = true := by
  intro y hy
  rw [List.take_add_one, hx] at hy
  rcases List.mem_append.1 hy with hy | hy
  · exact h y hy
  · simp at hy; subst hy; exact hv
set_option maxRecDepth 10000 in
set_option maxHeartbeats 4000000 in
theorem ListText_no (w : World) (a : Option Addr) (c : Nat) (xs : List Int) (h : Rd w w.heap.size a (ints xs)) (hl : xs.length ≤ 1048576) (hv : valOk xs = false) :
    Calls Tryz.prog 16 #[.slice a xs.length c] w fun e w' => e = .returned (.tuple #[.string (bs []), .bool false]) ∧ w = w' := by
  have LA := Lib.hid (areValues_any w a c xs h hl)
  rw [hv] at LA
  clear hv h
  go_enter Tryz.func16, Tryz.ntmps16
  go_wp2_with fail
  refine LA.out.mono ?_
  rintro e w1 ⟨rfl, rfl⟩
  go_wp2_with fail
  go_ret2
  exact ⟨rfl, rfl⟩
set_option maxRecDepth 10000 in
set_option maxHeartbeats 4000000 in
theorem partsTx_any (w : World) (ht : Tab w) (a : Option Addr) (c : Nat) (xss : List (List Int)) (h : RdP w w.heap.size a xss) (hl : xss.length ≤ 1024) (hls : ∀ x ∈ xss, x.length ≤ 1048576) :
    Calls Tryz.prog 53 #[.slice a xss.length c] w (RetTx (txtO xss) w) := by
  cases hall : xss.all valOk with
  | true =>
    have hr := List.all_eq_true.1 hall
    rw [txtO_yes hr]
    exact (partsText_any w ht a c xss h hl hr).mono fun e w' ⟨h1, h2⟩ => ⟨h2, h1⟩
  | false =>
    have HF : Hid (txtO xss = none) := if_neg (by rw [hall]; decide)
    have HFin : Hid (¬ ∀ y ∈ xss.take xss.length, valOk y = true) := fun hh => by
      rw [List.take_length] at hh
      rw [List.all_eq_true.2 hh] at hall; cases hall
    rw [HF.out]
    have HT := Lib.hid ht
    have HA := Lib.hid h
    have HLS := Lib.hid hls
    clear h ht hall hls
    go_enter Tryz.func53, Tryz.ntmps53
    go_wp2_with fail
    go_loopw [4, 12] (fun v iv wr => ∃ k : Nat, k ≤ xss.length ∧ iv = .int .i64 k ∧ Hid (wr.ownsRow w.heap.size 9 1 v k (strs ((xss.take k).map textL))) ∧ Hid (∀ y ∈ xss.take k, valOk y = true) ∧ Below w.heap.size w wr) (fun _ iv _ => xss.length - (intOf iv).toNat)
    case atStart => exact ⟨0, Nat.zero_le _, rfl, own_empty w _, fun y hy => by simp at hy, bl1 _ _⟩
    case round =>
      obtain ⟨k, hk, rfl, hO, hV, hw⟩ := hrel
      have hws := hw.size
      by_cases hlt : k < xss.length
      · obtain ⟨b, o, x, a1, c1, rfl, hbb, hck, hrx, hx⟩ := (HA.out.to hw).get hlt
        have hxl := HLS.out x (List.mem_of_getElem? hx.out)
        cases hv : valOk x with
        | false =>
          have LD := Lib.hid (ListText_no wr a1 c1 x hrx hxl hv)
          clear hrx hv
          go_wp2_with fail
          refine LD.out.mono ?_
          rintro e w1 ⟨rfl, rfl⟩
          go_wp2_with fail
          go_ret2
          exact ⟨hw, rfl⟩
        | true =>
          have LD := Lib.hid (ListText_any wr (HT.out.to hw) a1 c1 x hrx hv)
          have HN := Lib.hid (texts_take hx.out)
          have HV2 := Lib.hid (all_take hV.out hx.out hv)
          clear hrx hv hV
          go_wp2_with fail
          refine LD.out.mono ?_
          rintro e w1 ⟨rfl, hb1⟩
          have hO1 := own_below hO.out hb1
          have hw1 := hw.trans (hb1.mono hws)
          have hs1 := hw1.size
          have hk2 : k ≤ 1099511627776 := by omega
          clear hO hb1 hck hw
          go_wp2_with (at_builtin; refine wpList_append_one _ rfl _ _ 63 rfl w.heap.size 9 (.string ByteArray.empty) 16 Tryz.underlying63 info_str rfl _ k _ rfl hO1 (.string (bs (textL x))) rfl rfl (by omega) hk2 hs1 ?_)
          intro v' w' ho hgr
          have hw2 := below_append hw1 hO1 hgr (Nat.le_refl _) hs1
          have HO2 : Hid (w'.ownsRow w.heap.size 9 1 v' (k + 1) (strs ((xss.take (k + 1)).map textL))) := by
            rw [HN.out, strs_append, List.map_take]; exact ho
          clear ho hgr hO1 hw1
          go_wp2_with fail
          go_roundw
          case rel => exact ⟨k + 1, by omega, by go_num, HO2, HV2, hw2⟩
          case measure => first | (simp [intOf]; done) | (simp [intOf]; omega)
      · have : k = xss.length := by omega
        subst this
        exact absurd hV.out HFin.out
set_option maxRecDepth 10000 in
set_option maxHeartbeats 4000000 in
theorem listsText_any (w : World) (ht : Tab w) (ok : Bool) (a : Option Addr) (c : Nat) (xss : List (List Int)) (h : RdP w w.heap.size a xss) (hl : xss.length ≤ 1024) (hls : ∀ x ∈ xss, x.length ≤ 1048576) :
    Calls Tryz.prog 206 #[.bool ok, .slice a xss.length c] w (RetTx (if ok then txtO xss else none) w) := by
  have LP := Lib.hid (partsTx_any w ht a c xss h hl hls)
  clear h ht hls
  cases ok with
  | false =>
    rw [if_neg (by decide)]
    go_enter Tryz.func206, Tryz.ntmps206
    go_wp2_with fail
    go_ret2
    exact ⟨Below.refl _ _, rfl⟩
  | true =>
    rw [if_pos rfl]
    generalize txtO xss = r at *
    go_enter Tryz.func206, Tryz.ntmps206
    go_wp2_with fail
    refine LP.out.mono ?_
    rintro e w1 ⟨hb, rfl⟩
    go_wp2_with fail
    go_ret2
    exact ⟨hb, rfl⟩
def numO (ok : Bool) (xs : List Int) (n : Int) : Option (List UInt8) := if ok && valOk xs then some (textL xs ++ [59] ++ Lib.itoa n) else none
theorem rdP1 {w : World} {g c : Nat} {a : Option Addr} {xs : List Int} {t : TypeId} (hB : Blk w g [.slice a xs.length c] t) (h : Rd w w.heap.size a (ints xs)) : RdP w w.heap.size (some ⟨g, 0, none⟩) [xs] := by
  refine ⟨_, rfl, blk_rd hB, fun k ys hk => ?_⟩
  match k, hk with
  | 0, hk => injection hk with hk; subst hk; exact ⟨_, _, rfl, h⟩
theorem rdP22 {w : World} {g c d : Nat} {a b : Option Addr} {xs ys : List Int} {t : TypeId} (hB : Blk w g [.slice a xs.length c, .slice b ys.length d] t) (h1 : Rd w w.heap.size a (ints xs)) (h2 : Rd w w.heap.size b (ints ys)) : RdP w w.heap.size (some ⟨g, 0, none⟩) [xs, ys] := by
  refine ⟨_, rfl, blk_rd hB, fun k zs hk => ?_⟩
  match k, hk with
  | 0, hk => injection hk with hk; subst hk; exact ⟨_, _, rfl, h1⟩
  | 1, hk => injection hk with hk; subst hk; exact ⟨_, _, rfl, h2⟩
theorem parts1 (a : List Int) : partsL [a] = textL a := by unfold partsL; rw [List.map_cons, List.map_nil, Lib.join_one]
/-- A text and a number behind it, and whether it is one. -/
def RetTn (r : Option (List UInt8)) (w : World) (e : Ending) (w' : World) : Prop := Below w.heap.size w w' ∧ ∃ t, e = .returned (.tuple #[.string t, .bool r.isSome]) ∧ ∀ l, r = some l → t = bs l
set_option maxRecDepth 10000 in
set_option maxHeartbeats 4000000 in
theorem withNumber_any (w : World) (ht : Tab w) (ok : Bool) (a : Option Addr) (c : Nat) (xs : List Int) (n : Int) (h : Rd w w.heap.size a (ints xs)) (hl : xs.length ≤ 1048576) (n0 : -9223372036854775808 ≤ n) (n1 : n ≤ 9223372036854775807) :
    Calls Tryz.prog 265 #[.slice a xs.length c, .int .i64 n, .bool ok] w (RetTn (numO ok xs n) w) := by
  have B1 := Lib.hid (bl1 w (.cells #[.slice a xs.length c] 24))
  have LP := Lib.hid (listsText_any (w.alloc (.cells #[.slice a xs.length c] 24)) (ht.to B1.out) ok (some ⟨w.heap.size, 0, none⟩) 1 [xs] (rdP1 (Blk.new w [.slice a xs.length c] 24) (h.to B1.out)) (by simp) (fun x hx => by simp at hx; subst hx; exact hl))
  have LD := Lib.hid (fun v (hb : Below w.heap.size w v) => decimal_any v (ht.to hb) n n0 n1)
  have hd : (bs (Lib.itoa n)).size ≤ 21 := by rw [bs_size]; exact itoa_len n0 n1
  cases hv : (ok && valOk xs) with
  | true =>
    have HN : Hid (numO ok xs n = some (textL xs ++ [59] ++ Lib.itoa n)) := if_pos hv
    rw [Bool.and_eq_true] at hv
    obtain ⟨h1, h2⟩ := hv
    subst h1
    rw [if_pos rfl, txtO_yes (by intro x hx; simp at hx; subst hx; exact h2), parts1] at LP
    have hz : (bs (textL xs)).size ≤ 2000 := by
      rw [bs_size]
      simp only [valOk, Bool.and_eq_true, decide_eq_true_eq] at h2
      have := textL_len (xs := xs) (fun z hz => by have := allIn_iff.1 h2.1 z hz; omega)
      omega
    have HE : Hid (bs (textL xs) ++ ⟨#[59]⟩ ++ bs (Lib.itoa n) = bs (textL xs ++ [59] ++ Lib.itoa n)) := by
      show _ = _
      rw [← bs_plus, ← bs_plus]; rfl
    rw [HN.out]
    unfold RetTx at LP
    simp only [Option.getD_some, Option.isSome_some] at LP
    generalize bs (textL xs) = T at *
    generalize bs (Lib.itoa n) = D at *
    have s0 : ¬ 9223372036854775807 < T.size + 1 := by omega
    have s1 : ¬ 9223372036854775807 < T.size + 1 + D.size := by omega
    clear ht h h2 HN
    go_enter Tryz.func265, Tryz.ntmps265
    go_wp2_with fail
    refine LP.out.mono ?_
    rintro e w1 ⟨hb, rfl⟩
    have hb1 := Lib.hid (below_then B1.out hb)
    have LD1 := Lib.hid (LD.out _ hb1.out)
    clear hb LP LD
    go_wp2_with fail
    refine LD1.out.mono ?_
    rintro e w2 ⟨rfl, hb2⟩
    go_wp2_with fail
    go_ret2
    refine ⟨below_then hb1.out hb2, _, rfl, fun l hl => ?_⟩
    injection hl with hl
    rw [← hl, ← HE.out]
  | false =>
    have HN : Hid (numO ok xs n = none) := if_neg (by rw [hv]; decide)
    have HL : Hid ((if ok then txtO [xs] else none) = none) := by
      show _ = _
      cases ok with
      | false => rfl
      | true =>
        rw [Bool.true_and] at hv
        rw [if_pos rfl]; exact txtO_no (x := xs) (by simp) hv
    rw [HN.out]
    rw [HL.out] at LP
    unfold RetTx at LP
    simp only [Option.getD_none, Option.isSome_none] at LP
    generalize bs (Lib.itoa n) = D at *
    have s0 : ¬ 9223372036854775807 < (bs []).size + 1 := by rw [bs_size]; decide
    have s1 : ¬ 9223372036854775807 < (bs []).size + 1 + D.size := by rw [bs_size, List.length_nil]; omega
    clear ht h hv HN HL
    go_enter Tryz.func265, Tryz.ntmps265
    go_wp2_with fail
    refine LP.out.mono ?_
    rintro e w1 ⟨hb, rfl⟩
    have hb1 := Lib.hid (below_then B1.out hb)
    have LD1 := Lib.hid (LD.out _ hb1.out)
    clear hb LP LD
    go_wp2_with fail
    refine LD1.out.mono ?_
    rintro e w2 ⟨rfl, hb2⟩
    go_wp2_with fail
    go_ret2
    exact ⟨below_then hb1.out hb2, _, rfl, fun l hl => by cases hl⟩
end Go.Proofs.YtkbejmjkdnfemaaGreatDoor
namespace Go.Proofs.YtkbejmjkdnfemaaGreatDoor
set_option linter.unusedVariables false
set_option linter.unusedSimpArgs false
open Go.RowKit

theorem append_manyV {P : Program} (wr : World) {ops : Array Oper} {rest : List Oper} {o : Oper} {a : Act} {Q : Exit → Act → World → Prop}
    (hg : o.guard = none) (s x : Operand) (t : TypeId) (hop : o.op = Op.call { callee := Callee.builtin Builtin.append, args := #[s, x], argTypes := #[t, t] })
    (base : Nat) (e : TypeId) (z : Value) (bytes : Nat) (h1 : P.underlying t = some (.slice e)) (hinfo : (P.info? e).map (fun i => (i.zero, i.size, i.bytes)) = some (some z, 1, bytes)) (hz : z.cells.size = 1)
    (v : Value) (n : Nat) (xs : List Value) (hs : a.eval s = v) (hown : wr.ownsRow base e 1 v n xs) (b off m c : Nat) (ys : List Value) (hx : a.eval x = .slice (some ⟨b, off, none⟩) m c) (hm : ys.length = m) (hone : ∀ y ∈ ys, y.oneCell' = true)
    (hcell : ∀ j, j < m → wr.cell? ⟨b, off + j, none⟩ = ys[j]?) (hb : bytes ≤ 64) (hn : n + m ≤ 1099511627776) (hbase : base ≤ wr.heap.size)
    (hK : ∀ v' w', w'.ownsRow base e 1 v' (n + m) (xs ++ ys) → wr.grownBy w' v.ownBlock → wpList P ops Q rest (a.put o.dst v') w') :
    wpList P ops Q (o :: rest) a wr := by
  obtain ⟨i, h2, h3, h4, h5⟩ := info_parts hinfo
  have hbb : (n + m) * bytes ≤ 140737488355328 := Nat.le_trans (Nat.mul_le_mul_left (n + m) hb) (by omega)
  refine wpList_append_own wr hg s x t hop base e i z 1 bytes h1 h2 h3 h4 h5 hz (by omega) v n xs hs hown ⟨b, off, none⟩ m c ys hx (by omega) ?_ hone (by unfold maxLen; omega) hbb hbase (fun v' w' ho hgr _ => hK v' w' ho hgr)
  · intro j u hj
    have hj' : j < m := by have := (List.getElem?_eq_some_iff.1 hj).1; omega
    have ea : (⟨b, off, none⟩ : Addr).add j = ⟨b, off + j, none⟩ := by unfold Addr.add; split <;> simp_all
    rw [ea, hcell j hj', ← hj]
/-- A list of floats that lies in a stretch of its own. -/
def OwnF (T : Nat) (w : World) (lo hi : Nat) (a : Option Addr) (c : Nat) (xs : List Nat) : Prop :=
  w.ownsRow lo T 1 (.slice a xs.length c) xs.length (flts xs) ∧ ∀ b, a = some b → b.block < hi
section
variable {T lo hi c : Nat} {w w' : World} {a : Option Addr} {xs : List Nat}
theorem OwnF.of_own (h : w.ownsRow lo T 1 (.slice a xs.length c) xs.length (flts xs)) : OwnF T w lo w.heap.size a c xs :=
  ⟨h, fun b hb => (h.lt b.block (by simp [Value.ownBlock, hb])).2⟩
theorem OwnF.rd (h : OwnF T w lo hi a c xs) : Rd w hi a (flts xs) := by
  rcases rd_of_own h.1 (Nat.le_refl _) with h' | ⟨b, o, ha, hb, hc⟩
  · exact .inl h'
  · exact .inr ⟨b, o, ha, h.2 _ ha, hc⟩
theorem OwnF.keep (h : OwnF T w lo hi a c xs) (hb : Below w.heap.size w w') : OwnF T w' lo hi a c xs := ⟨own_below h.1 hb, h.2⟩
theorem OwnF.touch {lo' hi' : Nat} (h : OwnF T w lo hi a c xs) (ht : Touch w w' lo' hi') (hd : hi ≤ lo' ∨ hi' ≤ lo) : OwnF T w' lo hi a c xs := by
  refine ⟨⟨h.1.1, ?_⟩, h.2⟩
  rcases h.1.2 with h2 | ⟨g, cap, cur, hv, hg, hh, r⟩
  · exact .inl h2
  · have h3 : g < hi := by
      injection hv with ha _ _
      exact h.2 _ ha
    refine .inr ⟨g, cap, cur, hv, hg, ?_, r⟩
    rw [ht.block g (lt_of_block hh) (by omega)]
    exact hh
theorem OwnF.mono {lo' hi' : Nat} (h : OwnF T w lo hi a c xs) (h1 : lo' ≤ lo) (h2 : hi ≤ hi') : OwnF T w lo' hi' a c xs :=
  ⟨own_base h.1 h1, fun b hb => Nat.lt_of_lt_of_le (h.2 b hb) h2⟩
end
set_option maxRecDepth 10000 in
set_option maxHeartbeats 2000000 in
theorem cloneF_any (w : World) (a : Option Addr) (c : Nat) (xs : List Nat) (h : Rd w w.heap.size a (flts xs)) (hl1 : 1 ≤ xs.length) (hl : xs.length ≤ 1048576) :
    Calls Tryz.prog 140 #[.slice a xs.length c] w fun e w' => ∃ a' c', e = .returned (.slice a' xs.length c') ∧ OwnF 95 w' w.heap.size w'.heap.size a' c' xs ∧ Below w.heap.size w w' := by
  obtain ⟨b, o, rfl, hb, hcell⟩ := h.atF (k := 0) (by omega)
  clear h
  have hen := fun (w : World) (a : Option Addr) (n c : Nat) => Lib.run_eql_slice_nil (P := Tryz.prog) w 31 95 a n c 0 0 Tryz.underlying31
  go_enter Tryz.func140, Tryz.ntmps140
  go_wp2_with (at_builtin; refine append_manyV _ rfl _ _ 31 rfl w.heap.size 95 (.float .f32 0) 4 Tryz.underlying31 info_f32 rfl _ 0 [] rfl (own_empty w 95) b o xs.length c (flts xs) rfl (flts_length xs) ?_ ?_ (by omega) (by omega) (by simp) ?_)
  · intro y hy
    obtain ⟨x, _, rfl⟩ := List.mem_map.1 hy
    rfl
  · intro j hj
    rw [(bl1 w _).cell (p := ⟨b, o + j, none⟩) hb, hcell j hj, flts_get hj]
  intro v1 w1 o1 g1
  have B1 := below_append (bl1 w (.cells #[] 95)) (own_empty w 95) g1 (Nat.le_refl _) (by simp)
  obtain ⟨a1, c1, rfl, _, _⟩ := own_shape o1
  have HR : Hid (OwnF 95 w1 w.heap.size w1.heap.size a1 c1 xs) := OwnF.of_own (by simpa using o1)
  clear o1 g1 hcell
  go_wp2_with fail
  go_ret
  exact ⟨_, _, by simp, HR.out, B1⟩
end Go.Proofs.YtkbejmjkdnfemaaGreatDoor
namespace Go.Proofs.YtkbejmjkdnfemaaGreatDoor
set_option linter.unusedVariables false
set_option linter.unusedSimpArgs false
open Go.RowKit

/-- What the library's variables hold. -/
structure Env (w : World) : Prop where
  tab : Tab w
  shp : Shp w
  err : Errs w
  bit : TabB w
theorem Env.to {w w' : World} (h : Env w) (hb : Below w.heap.size w w') : Env w' := ⟨h.tab.to hb, h.shp.to hb, h.err.to hb, h.bit.to hb⟩
/-- What a line does: it has no form; it does not succeed; a desk and a text. -/
abbrev Ans := Option (Option (DD × List UInt8))
/-- Its lists lie from a block on. -/
structure DLo (lo : Nat) (x : DA) : Prop where
  a : ∀ y, x.a = some y → lo ≤ y.block
  b : ∀ y, x.b = some y → lo ≤ y.block
  v : ∀ y, x.v = some y → lo ≤ y.block
  w : ∀ y, x.w = some y → lo ≤ y.block
  k : ∀ y, x.k = some y → lo ≤ y.block
  f : ∀ y, x.f = some y → lo ≤ y.block
theorem DLo.mono {lo lo' : Nat} {x : DA} (h : DLo lo x) (hl : lo' ≤ lo) : DLo lo' x := ⟨fun y e => Nat.le_trans hl (h.a y e), fun y e => Nat.le_trans hl (h.b y e), fun y e => Nat.le_trans hl (h.v y e), fun y e => Nat.le_trans hl (h.w y e), fun y e => Nat.le_trans hl (h.k y e), fun y e => Nat.le_trans hl (h.f y e)⟩
/-- The answer at a desk that lies in a block. -/
def RetAl (lo b : Nat) (w : World) (r : Ans) (e : Ending) (w' : World) : Prop :=
  Touch w w' b (b + 1) ∧ match r with
  | none => ∃ (t : ByteArray) (k : Bool), e = .returned (.tuple #[.string t, .bool k, .bool false])
  | some none => ∃ t : ByteArray, e = .returned (.tuple #[.string t, .bool false, .bool true])
  | some (some (d, t)) => e = .returned (.tuple #[.string (bs t), .bool true, .bool true]) ∧ ∃ x : DA, Blk w' b (d.cells x) 33 ∧ DRd w' w'.heap.size d x ∧ DLo lo x
section
variable {lo b : Nat} {w w' : World} {d : DD} {x : DA}
theorem RetAl.what (t : ByteArray) (k : Bool) (ht : Touch w w' b (b + 1)) : RetAl lo b w none (.returned (.tuple #[.string t, .bool k, .bool false])) w' := ⟨ht, t, k, rfl⟩
theorem RetAl.no (t : ByteArray) (ht : Touch w w' b (b + 1)) : RetAl lo b w (some none) (.returned (.tuple #[.string t, .bool false, .bool true])) w' := ⟨ht, t, rfl⟩
theorem RetAl.yes {t : List UInt8} (ht : Touch w w' b (b + 1)) (hB : Blk w' b (d.cells x) 33) (hR : DRd w' w'.heap.size d x) (hl : DLo lo x) : RetAl lo b w (some (some (d, t))) (.returned (.tuple #[.string (bs t), .bool true, .bool true])) w' := ⟨ht, rfl, x, hB, hR, hl⟩
/-- A text that is told, the desk being as it was. -/
theorem RetAl.text (r : Option (List UInt8)) (hb : Below w.heap.size w w') (hB : Blk w b (d.cells x) 33) (hR : DRd w w.heap.size d x) (hl : DLo lo x) : RetAl lo b w (some (r.map fun t => (d, t))) (.returned (.tuple #[.string (bs (r.getD [])), .bool r.isSome, .bool true])) w' := by
  cases r with
  | none => exact RetAl.no _ (Below.touch hb _ _)
  | some t => exact RetAl.yes (Below.touch hb _ _) (hB.same hb) (hR.to hb) hl
theorem RetAl.textN (r : Option (List UInt8)) {t : ByteArray} (hb : Below w.heap.size w w') (hB : Blk w b (d.cells x) 33) (hR : DRd w w.heap.size d x) (hl : DLo lo x) (ht : ∀ l, r = some l → t = bs l) : RetAl lo b w (some (r.map fun t => (d, t))) (.returned (.tuple #[.string t, .bool r.isSome, .bool true])) w' := by
  cases r with
  | none => exact RetAl.no _ (Below.touch hb _ _)
  | some l => rw [ht l rfl]; exact RetAl.yes (Below.touch hb _ _) (hB.same hb) (hR.to hb) hl
end
/-- What a word does. -/
def AloneC (s : List UInt8) (f : DD → Ans) : Prop :=
  ∀ (w : World) (b : Nat) (d : DD) (x : DA) (lo : Nat), lo ≤ b → DLo lo x → Env w → d.ok = true → d.A.length ≤ x.ca → Blk w b (d.cells x) 33 → DRd w b d x → Calls Tryz.prog 202 #[.pointer (some ⟨b, 0, none⟩), .string (bs s)] w (RetAl lo b w (f d))
/-- What a word and a text do. -/
def WithC (s t : List UInt8) (f : DD → Ans) : Prop :=
  ∀ (w : World) (b : Nat) (d : DD) (x : DA) (lo : Nat), lo ≤ b → DLo lo x → Env w → d.ok = true → d.A.length ≤ x.ca → Blk w b (d.cells x) 33 → DRd w b d x → Calls Tryz.prog 203 #[.pointer (some ⟨b, 0, none⟩), .string (bs s), .string (bs t)] w (RetAl lo b w (f d))
/-- What words do. -/
def CarryC (ws : List (List UInt8)) (f : DD → Ans) : Prop :=
  ∀ (w : World) (b : Nat) (d : DD) (x : DA) (lo : Nat) (a : Option Addr) (c : Nat), lo ≤ b → DLo lo x → Env w → d.ok = true → d.A.length ≤ x.ca → Blk w b (d.cells x) 33 → DRd w b d x → Rd w w.heap.size a (strs ws) → Calls Tryz.prog 138 #[.pointer (some ⟨b, 0, none⟩), .slice a ws.length c] w (RetAl lo b w (f d))
def whatL : List UInt8 := [119, 104, 97, 116]
def noL : List UInt8 := [110, 111]
def okL : List UInt8 := [111, 107]
/-- A desk and the line's answer. -/
def cmdOf (f : DD → Ans) (d : DD) : DD × List UInt8 := match f d with
  | none => (d, whatL)
  | some none => (d, noL)
  | some (some (d', t)) => if d'.ok then (d', t) else (d, noL)
/-- A desk and a text. -/
def RetCmd (w : World) (x : DA) (r : DD × List UInt8) (e : Ending) (w' : World) : Prop :=
  Below w.heap.size w w' ∧ ∃ x' : DA, e = .returned (.tuple #[r.1.val x', .string (bs r.2)]) ∧ DRd w' w'.heap.size r.1 x' ∧ (x' = x ∨ DLo w.heap.size x')
def CmdC (l : List UInt8) (f : DD → DD × List UInt8) : Prop :=
  ∀ (w : World) (d : DD) (x : DA), Env w → d.ok = true → DRd w w.heap.size d x → Calls Tryz.prog 61 #[d.val x, .string (bs l)] w (RetCmd w x (f d))
theorem cmdOf_ok {f : DD → Ans} {d : DD} (h : d.ok = true) : (cmdOf f d).1.ok = true := by
  unfold cmdOf
  split
  · exact h
  · exact h
  · split
    · assumption
    · exact h
end Go.Proofs.YtkbejmjkdnfemaaGreatDoor
namespace Go.Proofs.YtkbejmjkdnfemaaGreatDoor
set_option linter.unusedVariables false
set_option linter.unusedSimpArgs false
open Go.RowKit

/-- A row that stays when a block is written. -/
def RdUp (w : World) (b : Nat) (a : Option Addr) (vs : List Value) : Prop := (∀ w', Touch w w' b (b + 1) → Rd w' w'.heap.size a vs) ∧ ∀ y, a = some y → b < y.block
theorem rdUp_ge {w : World} {b : Nat} {a : Option Addr} {vs : List Value} (h : Rd w w.heap.size a vs) (ha : ∀ y, a = some y → b < y.block) : RdUp w b a vs :=
  ⟨fun w' ht => rd_keep h ht (fun y e => by have := ha y e; omega), ha⟩
theorem rdUp_own {T lo hi c b : Nat} {w : World} {a : Option Addr} {xs : List Int} (h : OwnI T w lo hi a c xs) (hb : b < lo) (hh : hi ≤ w.heap.size) : RdUp w b a (ints xs) :=
  ⟨fun w' ht => (h.touch ht (.inr (by omega))).rd.mono (Nat.le_trans hh ht.size), fun y e => by have := (h.1.lt y.block (by simp [Value.ownBlock, e])).1; omega⟩
theorem rdUp_ownF {T lo hi c b : Nat} {w : World} {a : Option Addr} {xs : List Nat} (h : OwnF T w lo hi a c xs) (hb : b < lo) (hh : hi ≤ w.heap.size) : RdUp w b a (flts xs) :=
  ⟨fun w' ht => (h.touch ht (.inr (by omega))).rd.mono (Nat.le_trans hh ht.size), fun y e => by have := (h.1.lt y.block (by simp [Value.ownBlock, e])).1; omega⟩
theorem rdUp_nil (w : World) (b : Nat) : RdUp w b none [] := ⟨fun _ _ => .inl rfl, fun y e => by cases e⟩
/-- A desk after a part of it was written. -/
def PutD (w wz : World) (b : Nat) (d : DD) (x x0 : DA) : Prop := Touch w wz b (b + 1) ∧ Blk wz b (d.cells x) 33 ∧ DRd wz wz.heap.size d x ∧ ∀ lo, lo ≤ b → DLo lo x0 → DLo lo x
theorem PutD.yes {lo b : Nat} {w w1 wz : World} {d : DD} {x x0 : DA} (h : PutD w1 wz b d x x0) (hb : Below w.heap.size w w1) (hlo : lo ≤ b) (hl : DLo lo x0) (t : List UInt8) : RetAl lo b w (some (some (d, t))) (.returned (.tuple #[.string (bs t), .bool true, .bool true])) wz := RetAl.yes ((Below.touch hb _ _).trans h.1) h.2.1 h.2.2.1 (h.2.2.2 lo hlo hl)
theorem PutD.no {lo b : Nat} {w w1 wz : World} {d : DD} {x x0 : DA} (h : PutD w1 wz b d x x0) (hb : Below w.heap.size w w1) (t : ByteArray) : RetAl lo b w (some none) (.returned (.tuple #[.string t, .bool false, .bool true])) wz := RetAl.no _ ((Below.touch hb _ _).trans h.1)

theorem putGame {w : World} {b : Nat} {d : DD} {x : DA} (kB : Blk w b (d.cells x) 33) (kR : DRd w b d x) (R : Int) (C : Int) (A : List Int) (pA : Option Addr) (cA : Nat) (B : List Int) (pB : Option Addr) (cB : Nat) (hA : RdUp w b pA (ints A)) (hB : RdUp w b pB (ints B)) :
    PutD w ((((w.setCell ⟨b, 0, none⟩ (.int .i64 R)).setCell ⟨b, 1, none⟩ (.int .i64 C)).setCell ⟨b, 2, none⟩ (.slice pA A.length cA)).setCell ⟨b, 3, none⟩ (.slice pB B.length cB)) b { d with R := R, C := C, A := A, B := B } { x with a := pA, ca := cA, b := pB, cb := cB } x := by
  have m := ((((kB.set 0 (.int .i64 R)).set 1 (.int .i64 C)).set 2 (.slice pA A.length cA)).set 3 (.slice pB B.length cB))
  have t : Touch w ((((w.setCell ⟨b, 0, none⟩ (.int .i64 R)).setCell ⟨b, 1, none⟩ (.int .i64 C)).setCell ⟨b, 2, none⟩ (.slice pA A.length cA)).setCell ⟨b, 3, none⟩ (.slice pB B.length cB)) b (b + 1) := ((((touch_setX _ b 0 (.int .i64 R)).trans (touch_setX _ b 1 (.int .i64 C))).trans (touch_setX _ b 2 (.slice pA A.length cA))).trans (touch_setX _ b 3 (.slice pB B.length cB)))
  have r := kR.touch t (Nat.le_refl _) (Nat.le_of_lt kB.lt)
  have q := r.mono (Z' := ((((w.setCell ⟨b, 0, none⟩ (.int .i64 R)).setCell ⟨b, 1, none⟩ (.int .i64 C)).setCell ⟨b, 2, none⟩ (.slice pA A.length cA)).setCell ⟨b, 3, none⟩ (.slice pB B.length cB)).heap.size) (Nat.le_trans (Nat.le_of_lt kB.lt) t.size)
  exact ⟨t, m, ⟨⟨(hA.1 _ t), (hB.1 _ t), q.r.V, q.r.W, q.r.C, q.r.T⟩, q.f⟩, fun lo hlo hl => ⟨fun y e => by have := hA.2 y e; omega, fun y e => by have := hB.2 y e; omega, hl.v, hl.w, hl.k, hl.f⟩⟩
theorem putValues {w : World} {b : Nat} {d : DD} {x : DA} (kB : Blk w b (d.cells x) 33) (kR : DRd w b d x) (P : Int) (T : Int) (V : List Int) (pV : Option Addr) (cV : Nat) (hV : RdUp w b pV (ints V)) :
    PutD w (((w.setCell ⟨b, 4, none⟩ (.int .i64 P)).setCell ⟨b, 5, none⟩ (.int .i64 T)).setCell ⟨b, 6, none⟩ (.slice pV V.length cV)) b { d with P := P, T := T, V := V } { x with v := pV, cv := cV } x := by
  have m := (((kB.set 4 (.int .i64 P)).set 5 (.int .i64 T)).set 6 (.slice pV V.length cV))
  have t : Touch w (((w.setCell ⟨b, 4, none⟩ (.int .i64 P)).setCell ⟨b, 5, none⟩ (.int .i64 T)).setCell ⟨b, 6, none⟩ (.slice pV V.length cV)) b (b + 1) := (((touch_setX _ b 4 (.int .i64 P)).trans (touch_setX _ b 5 (.int .i64 T))).trans (touch_setX _ b 6 (.slice pV V.length cV)))
  have r := kR.touch t (Nat.le_refl _) (Nat.le_of_lt kB.lt)
  have q := r.mono (Z' := (((w.setCell ⟨b, 4, none⟩ (.int .i64 P)).setCell ⟨b, 5, none⟩ (.int .i64 T)).setCell ⟨b, 6, none⟩ (.slice pV V.length cV)).heap.size) (Nat.le_trans (Nat.le_of_lt kB.lt) t.size)
  exact ⟨t, m, ⟨⟨q.r.A, q.r.B, (hV.1 _ t), q.r.W, q.r.C, q.r.T⟩, q.f⟩, fun lo hlo hl => ⟨hl.a, hl.b, fun y e => by have := hV.2 y e; omega, hl.w, hl.k, hl.f⟩⟩
theorem putCrowd {w : World} {b : Nat} {d : DD} {x : DA} (kB : Blk w b (d.cells x) 33) (kR : DRd w b d x) (U : Int) (N : Int) (W : List Int) (pW : Option Addr) (cW : Nat) (K : List Int) (pK : Option Addr) (cK : Nat) (hW : RdUp w b pW (ints W)) (hK : RdUp w b pK (ints K)) :
    PutD w ((((w.setCell ⟨b, 7, none⟩ (.int .i64 U)).setCell ⟨b, 8, none⟩ (.int .i64 N)).setCell ⟨b, 9, none⟩ (.slice pW W.length cW)).setCell ⟨b, 10, none⟩ (.slice pK K.length cK)) b { d with U := U, N := N, W := W, K := K } { x with w := pW, cw := cW, k := pK, ck := cK } x := by
  have m := ((((kB.set 7 (.int .i64 U)).set 8 (.int .i64 N)).set 9 (.slice pW W.length cW)).set 10 (.slice pK K.length cK))
  have t : Touch w ((((w.setCell ⟨b, 7, none⟩ (.int .i64 U)).setCell ⟨b, 8, none⟩ (.int .i64 N)).setCell ⟨b, 9, none⟩ (.slice pW W.length cW)).setCell ⟨b, 10, none⟩ (.slice pK K.length cK)) b (b + 1) := ((((touch_setX _ b 7 (.int .i64 U)).trans (touch_setX _ b 8 (.int .i64 N))).trans (touch_setX _ b 9 (.slice pW W.length cW))).trans (touch_setX _ b 10 (.slice pK K.length cK)))
  have r := kR.touch t (Nat.le_refl _) (Nat.le_of_lt kB.lt)
  have q := r.mono (Z' := ((((w.setCell ⟨b, 7, none⟩ (.int .i64 U)).setCell ⟨b, 8, none⟩ (.int .i64 N)).setCell ⟨b, 9, none⟩ (.slice pW W.length cW)).setCell ⟨b, 10, none⟩ (.slice pK K.length cK)).heap.size) (Nat.le_trans (Nat.le_of_lt kB.lt) t.size)
  exact ⟨t, m, ⟨⟨q.r.A, q.r.B, q.r.V, (hW.1 _ t), (hK.1 _ t), q.r.T⟩, q.f⟩, fun lo hlo hl => ⟨hl.a, hl.b, hl.v, fun y e => by have := hW.2 y e; omega, fun y e => by have := hK.2 y e; omega, hl.f⟩⟩
theorem putTurns {w : World} {b : Nat} {d : DD} {x : DA} (kB : Blk w b (d.cells x) 33) (kR : DRd w b d x) (F : List Nat) (pF : Option Addr) (cF : Nat) (hF : RdUp w b pF (flts F)) (hF' : ∀ y ∈ F, y < 4294967296) :
    PutD w (w.setCell ⟨b, 11, none⟩ (.slice pF F.length cF)) b { d with F := F } { x with f := pF, cf := cF } x := by
  have m := (kB.set 11 (.slice pF F.length cF))
  have t : Touch w (w.setCell ⟨b, 11, none⟩ (.slice pF F.length cF)) b (b + 1) := (touch_setX _ b 11 (.slice pF F.length cF))
  have r := kR.touch t (Nat.le_refl _) (Nat.le_of_lt kB.lt)
  have q := r.mono (Z' := (w.setCell ⟨b, 11, none⟩ (.slice pF F.length cF)).heap.size) (Nat.le_trans (Nat.le_of_lt kB.lt) t.size)
  exact ⟨t, m, ⟨⟨q.r.A, q.r.B, q.r.V, q.r.W, q.r.C, (hF.1 _ t)⟩, hF'⟩, fun lo hlo hl => ⟨hl.a, hl.b, hl.v, hl.w, hl.k, fun y e => by have := hF.2 y e; omega⟩⟩
end Go.Proofs.YtkbejmjkdnfemaaGreatDoor
namespace Go.Proofs.YtkbejmjkdnfemaaGreatDoor
set_option linter.unusedVariables false
set_option linter.unusedSimpArgs false
open Go.RowKit

def gameText (U R : Int) (x2 x3 : List Int) : Option (List UInt8) := if gameB U R x2 x3 then some (partsL [[U, R], x2, x3]) else none
theorem game_ok {U R : Int} {x2 x3 : List Int} (h : gameB U R x2 x3 = true) : ∀ x ∈ [[U, R], x2, x3], valOk x = true := by
  simp only [gameB, Bool.and_eq_true, inB_iff, manyB_iff] at h
  obtain ⟨⟨⟨v1, v2⟩, v3, v4⟩, ⟨⟨v5, v6⟩, v7⟩, ⟨v8, v9⟩, v10⟩ := h
  have hp := prod_in v1 v2 v3 v4
  intro x hx
  simp only [List.mem_cons, List.not_mem_nil, or_false] at hx
  rcases hx with rfl | rfl | rfl
  · refine valOk_of (fun y hy => ?_) (by simp)
    simp only [List.mem_cons, List.not_mem_nil, or_false] at hy
    omega
  · exact valOk_of (fun y hy => by have := v7 y hy; omega) (by omega)
  · exact valOk_of (fun y hy => by have := v10 y hy; omega) (by omega)
set_option maxRecDepth 10000 in
set_option maxHeartbeats 4000000 in
theorem gameText_any (w : World) (ht : Tab w) (U R : Int) (a2 : Option Addr) (c2 : Nat) (x2 : List Int) (a3 : Option Addr) (c3 : Nat) (x3 : List Int) (h : RdGame w w.heap.size a2 x2 a3 x3) (hl2 : x2.length ≤ 1048576) (hl3 : x3.length ≤ 1048576) :
    Calls Tryz.prog 12 #[.agg #[.int .i64 U, .int .i64 R, .slice a2 x2.length c2, .slice a3 x3.length c3]] w fun e w' => e = .returned (.tuple #[.string (bs ((gameText U R x2 x3).getD [])), .bool (gameText U R x2 x3).isSome]) ∧ Below w.heap.size w w' := by
  have LV := Lib.hid (fun v hb => validGame_any v U R a2 c2 x2 a3 c3 x3 (h.to hb) hl2 hl3)
  have B0 := bl1 w (.cells #[.int .i64 U, .int .i64 R, .slice a2 x2.length c2, .slice a3 x3.length c3] 26)
  have K0 := Blk.new w [.int .i64 U, .int .i64 R, .slice a2 x2.length c2, .slice a3 x3.length c3] 26
  cases t1 : gameB U R x2 x3 with
  | false =>
    have HF : Hid (gameText U R x2 x3 = none) := by simp [Hid, gameText, t1]
    rw [t1] at LV
    clear h t1
    go_enter Tryz.func12, Tryz.ntmps12
    go_wp2_with fail
    refine (LV.out _ B0).mono ?_
    rintro e w1 ⟨rfl, hb1⟩
    go_wp2_with fail
    go_ret2
    rw [HF.out]
    exact ⟨rfl, below_then B0 hb1⟩
  | true =>
    have HF : Hid (gameText U R x2 x3 = some (partsL [[U, R], x2, x3])) := by simp [Hid, gameText, t1]
    have HOK := Lib.hid (game_ok t1)
    rw [t1] at LV
    have HT := Lib.hid ht
    have HA := Lib.hid h
    clear h t1 ht
    go_enter Tryz.func12, Tryz.ntmps12
    go_wp2_with fail
    refine (LV.out _ B0).mono ?_
    rintro e w1 ⟨rfl, hb1⟩
    have B1 := below_then B0 hb1
    have K1 := K0.same hb1
    have k0 := K1.cell 0
    have k1 := K1.cell 1
    have k2 := K1.cell 2
    have k3 := K1.cell 3
    simp only [List.getElem?_cons_zero, List.getElem?_cons_succ] at k0 k1 k2 k3
    have HA1 := HA.out.to B1
    have HT1 := Lib.hid (HT.out.to B1)
    have q2 := (bl1 w1 (.cells #[.int .i64 U, .int .i64 R] 2)).cell (p := ⟨w.heap.size, 2, none⟩) K1.lt
    have q3 := (bl1 w1 (.cells #[.int .i64 U, .int .i64 R] 2)).cell (p := ⟨w.heap.size, 3, none⟩) K1.lt
    rw [k2] at q2
    rw [k3] at q3
    have HB := Lib.hid B1
    have hHA := Lib.hid HA1
    clear B1 K1 B0 K0 hb1 HA1 HT HA
    go_wp2_with fail
    have b2 := bl2 w1 (.cells #[.int .i64 U, .int .i64 R] 2) (.cells #[.slice (some ⟨w1.heap.size, 0, none⟩) 2 2, .slice a2 x2.length c2, .slice a3 x3.length c3] 24)
    obtain ⟨e1, e2⟩ := alloc2 w1 [.int .i64 U, .int .i64 R] [.slice (some ⟨w1.heap.size, 0, none⟩) 2 2, .slice a2 x2.length c2, .slice a3 x3.length c3] 2 24
    have hA2 := hHA.out.to b2
    refine (partsText_any _ (HT1.out.to b2) _ _ [[U, R], x2, x3] (rdP3 e2 e1 hA2.1 hA2.2) (by simp) HOK.out).mono ?_
    rintro e w2 ⟨rfl, hb2⟩
    have hB := below_then HB.out (below_then b2 hb2)
    clear b2 e1 e2 hA2 hb2
    go_wp2_with fail
    go_ret2
    rw [HF.out]
    exact ⟨rfl, hB⟩
end Go.Proofs.YtkbejmjkdnfemaaGreatDoor
namespace Go.Proofs.YtkbejmjkdnfemaaGreatDoor
set_option linter.unusedVariables false
set_option linter.unusedSimpArgs false
open Go.RowKit

def valuesText (U R : Int) (x2 : List Int) : Option (List UInt8) := if valuesB U R x2 then some (partsL [[U, R], x2]) else none
theorem values_ok {U R : Int} {x2 : List Int} (h : valuesB U R x2 = true) : ∀ x ∈ [[U, R], x2], valOk x = true := by
  simp only [valuesB, Bool.and_eq_true, inB_iff, manyB_iff] at h
  obtain ⟨⟨⟨v1, v2⟩, v3, v4⟩, ⟨v5, v6⟩, v7⟩ := h
  have hp := prod_in v1 v2 v3 v4
  intro x hx
  simp only [List.mem_cons, List.not_mem_nil, or_false] at hx
  rcases hx with rfl | rfl
  · refine valOk_of (fun y hy => ?_) (by simp)
    simp only [List.mem_cons, List.not_mem_nil, or_false] at hy
    omega
  · exact valOk_of (fun y hy => by have := v7 y hy; omega) (by omega)
set_option maxRecDepth 10000 in
set_option maxHeartbeats 4000000 in
theorem valuesText_any (w : World) (ht : Tab w) (U R : Int) (a2 : Option Addr) (c2 : Nat) (x2 : List Int) (h : RdValues w w.heap.size a2 x2) (hl2 : x2.length ≤ 1048576) :
    Calls Tryz.prog 13 #[.agg #[.int .i64 U, .int .i64 R, .slice a2 x2.length c2]] w fun e w' => e = .returned (.tuple #[.string (bs ((valuesText U R x2).getD [])), .bool (valuesText U R x2).isSome]) ∧ Below w.heap.size w w' := by
  have LV := Lib.hid (fun v hb => validValues_any v U R a2 c2 x2 (h.to hb) hl2)
  have B0 := bl1 w (.cells #[.int .i64 U, .int .i64 R, .slice a2 x2.length c2] 28)
  have K0 := Blk.new w [.int .i64 U, .int .i64 R, .slice a2 x2.length c2] 28
  cases t1 : valuesB U R x2 with
  | false =>
    have HF : Hid (valuesText U R x2 = none) := by simp [Hid, valuesText, t1]
    rw [t1] at LV
    clear h t1
    go_enter Tryz.func13, Tryz.ntmps13
    go_wp2_with fail
    refine (LV.out _ B0).mono ?_
    rintro e w1 ⟨rfl, hb1⟩
    go_wp2_with fail
    go_ret2
    rw [HF.out]
    exact ⟨rfl, below_then B0 hb1⟩
  | true =>
    have HF : Hid (valuesText U R x2 = some (partsL [[U, R], x2])) := by simp [Hid, valuesText, t1]
    have HOK := Lib.hid (values_ok t1)
    rw [t1] at LV
    have HT := Lib.hid ht
    have HA := Lib.hid h
    clear h t1 ht
    go_enter Tryz.func13, Tryz.ntmps13
    go_wp2_with fail
    refine (LV.out _ B0).mono ?_
    rintro e w1 ⟨rfl, hb1⟩
    have B1 := below_then B0 hb1
    have K1 := K0.same hb1
    have k0 := K1.cell 0
    have k1 := K1.cell 1
    have k2 := K1.cell 2
    simp only [List.getElem?_cons_zero, List.getElem?_cons_succ] at k0 k1 k2
    have HA1 := HA.out.to B1
    have HT1 := Lib.hid (HT.out.to B1)
    have q2 := (bl1 w1 (.cells #[.int .i64 U, .int .i64 R] 2)).cell (p := ⟨w.heap.size, 2, none⟩) K1.lt
    rw [k2] at q2
    have HB := Lib.hid B1
    have hHA := Lib.hid HA1
    clear B1 K1 B0 K0 hb1 HA1 HT HA
    go_wp2_with fail
    have b2 := bl2 w1 (.cells #[.int .i64 U, .int .i64 R] 2) (.cells #[.slice (some ⟨w1.heap.size, 0, none⟩) 2 2, .slice a2 x2.length c2] 24)
    obtain ⟨e1, e2⟩ := alloc2 w1 [.int .i64 U, .int .i64 R] [.slice (some ⟨w1.heap.size, 0, none⟩) 2 2, .slice a2 x2.length c2] 2 24
    have hA2 := hHA.out.to b2
    refine (partsText_any _ (HT1.out.to b2) _ _ [[U, R], x2] (rdP2 e2 e1 hA2) (by simp) HOK.out).mono ?_
    rintro e w2 ⟨rfl, hb2⟩
    have hB := below_then HB.out (below_then b2 hb2)
    clear b2 e1 e2 hA2 hb2
    go_wp2_with fail
    go_ret2
    rw [HF.out]
    exact ⟨rfl, hB⟩
end Go.Proofs.YtkbejmjkdnfemaaGreatDoor
