/-
  Part 2 of what the proof stands on: lemmas and contracts, each with its conditions ahead of the colon.
-/
import Derived.RegionTactic
import Derived.BigRegion
import Derived.Deep.RegionHeld3
import Derived.Outline
import Derived.Laws.EntriesVeiled
import Derived.BigQuiet
import Derived.Test.YtiodkmddmgjikaaPk01
namespace Go.Proofs.Ytiodkmddmgjikaa
set_option linter.unusedVariables false
set_option linter.unusedSimpArgs false
open Go.RowKit

def loadsL (c : Cr) (n : Nat) (ch : List Int) : List Int := (List.range n).map fun r => loadF c ch r
theorem loadsL_len (c : Cr) (n : Nat) (ch : List Int) : (loadsL c n ch).length = n := by simp [loadsL]
theorem loadsL_get {c : Cr} {n : Nat} {ch : List Int} {r : Nat} (h : r < n) : (loadsL c n ch)[r]? = some (loadF c ch r) := by simp [loadsL, h]
theorem loadsL_zero (c : Cr) (n : Nat) : loadsL c n [] = List.replicate n 0 := by
  apply List.ext_getElem <;> simp [loadsL, loadF]
theorem mix_cr {fo cs : List Int} {k : Nat} {v : Int} (hk : k < cs.length) (hl : fo.length = cs.length) (hv : fo[k]? = some v) : (fo.take k ++ cs.drop k).set k v = fo.take (k + 1) ++ cs.drop (k + 1) := by
  have h1 : (fo.take k).length = k := by simp; omega
  rw [List.set_append_right _ _ (by omega), h1, Nat.sub_self, List.drop_eq_getElem_cons hk, List.set_cons_zero, List.take_add_one, hv]
  simp
theorem and_one (a : Nat) (ha : a < 9223372036854775808) : bits .and .i64 (a : Int) 1 = ((a % 2 : Nat) : Int) := by
  show IntKind.i64.wrap ((BitVec.ofInt 64 (a : Int) &&& BitVec.ofInt 64 (1 : Int)).toNat : Int) = _
  have h1 : (BitVec.ofInt 64 (1 : Int)).toNat = 1 := by decide
  have h2 : (BitVec.ofInt 64 (a : Int)).toNat = a := by rw [BitVec.ofInt_natCast, BitVec.toNat_ofNat]; exact Nat.mod_eq_of_lt (by omega)
  rw [BitVec.toNat_and, h1, h2, show a &&& 1 = a % 2 from Nat.and_two_pow_sub_one_eq_mod a 1]
  exact IntWalk.i64_in _ (by omega)
theorem bit_of {y : Int} (h1 : 0 ≤ y) (h8 : y ≤ 255) (r : Nat) : bits .and .i64 (y / 2 ^ r) 1 = bitI y r := by
  obtain ⟨m, rfl⟩ : ∃ m : Nat, y = m := ⟨y.toNat, by omega⟩
  have e : (m : Int) / 2 ^ r = ((m / 2 ^ r : Nat) : Int) := by simp
  have hle : m / 2 ^ r ≤ m := Nat.div_le_self _ _
  unfold bitI
  rw [e, and_one _ (by omega)]
  omega
set_option maxRecDepth 10000 in
set_option maxHeartbeats 4000000 in
theorem loads_any (w : World) (U : Int) (n : Nat) (a2 : Option Addr) (c2 : Nat) (x2 : List Int) (a3 : Option Addr) (c3 : Nat) (x3 : List Int) (a : Option Addr) (c : Nat) (ch : List Int) (h : RdCrowd w w.heap.size a2 x2 a3 x3) (g : Rd w w.heap.size a (ints ch)) (hc : Can ⟨U, n, x2, x3⟩ ch) :
    Calls Try.prog 29 #[.agg #[.int .i64 U, .int .i64 n, .slice a2 x2.length c2, .slice a3 x3.length c3], .slice a ch.length c] w fun e w' => ∃ a' c', e = .returned (.slice a' n c') ∧ OwnI 2 w' w.heap.size w'.heap.size a' c' (loadsL ⟨U, n, x2, x3⟩ n ch) ∧ Below w.heap.size w w' := by
  have hn8 : n ≤ 8 := by have := hc.v.r8; simp only at this; omega
  have hU8 : ch.length ≤ 8 := by have := hc.v.u8; have := hc.len; simp only at *; omega
  have hw8 : x2.length ≤ 8 := hc.v.w8
  have HW := Lib.hid hc.v.way
  have HM := Lib.hid hc.mem
  have h2 := Lib.hid h.1
  have hg := Lib.hid g
  clear h g hc
  obtain ⟨C, hC⟩ : ∃ C : Cr, C = ⟨U, n, x2, x3⟩ := ⟨_, rfl⟩
  have HC := Lib.hid hC
  rw [← hC]
  clear hC
  have Hz : Hid (loadsL C n [] = List.replicate n 0) := loadsL_zero C n
  go_enter Try.func29, Try.ntmps29
  go_wp2_with (at_make; refine wpList_make_blk _ rfl _ _ 24 rfl 2 (.int .i64 0) 8 Try.underlying24 info_i64p rfl _ _ n rfl rfl (by omega) (by unfold maxLen; omega) ?_)
  intro w1 hb1 hw1 hs1
  rw [ints_replicate, ← Hz.out] at hb1
  try simp at hb1
  have kA := (Blk.new w [.int .i64 U, .int .i64 n, .slice a2 x2.length c2, .slice a3 x3.length c3] 26).below hw1 (by omega)
  have B1 := (bl1 w (.cells #[.int .i64 U, .int .i64 n, .slice a2 x2.length c2, .slice a3 x3.length c3] 26)).trans (hw1.mono (by omega))
  have KA := Lib.hid kA
  clear hw1 kA
  go_wp2_with fail
  go_loopw [14] (fun i wr => ∃ k : Nat, k ≤ ch.length ∧ i = .int .i64 k ∧ Hid (Blk wr (w.heap.size + 1) (ints (loadsL C n (ch.take k))) 2) ∧ Hid (Blk wr w.heap.size [.int .i64 U, .int .i64 n, .slice a2 x2.length c2, .slice a3 x3.length c3] 26) ∧ Below w.heap.size w wr ∧ w.heap.size + 2 ≤ wr.heap.size) (fun i _ => ch.length - (intOf i).toNat)
  case atStart => exact ⟨0, Nat.zero_le _, rfl, hb1, KA.out, B1, by omega⟩
  case round =>
    clear hb1 KA B1 hs1
    obtain ⟨k, hk, rfl, hb, hA, hw, hsz⟩ := hrel
    obtain ⟨wm, rfl⟩ : ∃ wm : World, wm = wr := ⟨_, rfl⟩
    have q1 := hA.out.cell 1
    simp only [List.getElem?_cons_zero, List.getElem?_cons_succ] at q1
    by_cases hlt : k < ch.length
    · obtain ⟨b1, o1, x, rfl, hbb1, hck, hx⟩ := (hg.out.below hw (Nat.le_refl _)).get hlt
      obtain ⟨x0, x8⟩ := HM.out x (List.mem_of_getElem? hx.out)
      obtain ⟨q, rfl⟩ : ∃ q : Nat, x = q := ⟨x.toNat, by omega⟩
      have hq8 : q < x2.length := by (try simp only at x8); omega
      have Htk : Hid (ch.take (k + 1) = ch.take k ++ [(q : Int)]) := by show _ = _; rw [List.take_add_one, hx.out]; rfl
      clear hx
      go_wp2_with fail
      go_loopw [20] (fun i wr => ∃ r : Nat, r ≤ n ∧ i = .int .i64 r ∧ Hid (Blk wr (w.heap.size + 1) (ints ((loadsL C n (ch.take (k + 1))).take r ++ (loadsL C n (ch.take k)).drop r)) 2) ∧ Hid (Blk wr w.heap.size [.int .i64 U, .int .i64 n, .slice a2 x2.length c2, .slice a3 x3.length c3] 26) ∧ Below w.heap.size w wr ∧ w.heap.size + 2 ≤ wr.heap.size) (fun i _ => n - (intOf i).toNat)
      case atStart => exact ⟨0, Nat.zero_le _, rfl, (by rw [List.take_zero, List.drop_zero, List.nil_append]; exact hb.out), hA.out, hw, hsz⟩
      case round =>
        clear hb hA q1 hck
        obtain ⟨r, hr, rfl, hb, hA, hw2, hsz2⟩ := hrel
        by_cases hlr : r < n
        · have q2 := hA.out.cell 2
          simp only [List.getElem?_cons_zero, List.getElem?_cons_succ] at q2
          obtain ⟨b3, o3, y, hax, hbb3, hcq, hy⟩ := (h2.out.below hw2 (Nat.le_refl _)).get (k := q) hq8
          subst hax
          obtain ⟨y1, y8⟩ := HW.out _ (List.mem_of_getElem? hy.out)
          have hbit := bit_of (show 0 ≤ y by omega) (show y ≤ 255 by omega) r
          have hb01 : 0 ≤ bitI y r ∧ bitI y r ≤ 1 := by have := bitI_01 y r; omega
          obtain ⟨hb0, hb1⟩ := hb01
          have hnv : Hid (loadF C (ch.take (k + 1)) r = loadF C (ch.take k) r + bitI y r) := by
            show _ = _
            rw [Htk.out, load_snoc, Int.toNat_natCast]
            have : C.ways.getD q 0 = y := by rw [HC.out]; exact getD_of_get hy.out
            rw [this]
          have hoc := hb.out.cell r
          have hof := hb.out.free r
          have e1 : (ints ((loadsL C n (ch.take (k + 1))).take r ++ (loadsL C n (ch.take k)).drop r))[r]? = some (.int .i64 (loadF C (ch.take k) r)) := by
            have hl1 : ((loadsL C n (ch.take (k + 1))).take r).length = r := by rw [List.length_take, loadsL_len]; omega
            have h2 : ((loadsL C n (ch.take (k + 1))).take r ++ (loadsL C n (ch.take k)).drop r)[r]? = some (loadF C (ch.take k) r) := by
              rw [List.getElem?_append_right (by omega), hl1, Nat.sub_self, List.getElem?_drop, Nat.add_zero]
              exact loadsL_get hlr
            simp only [ints, List.getElem?_map, h2, Option.map_some]
          rw [e1] at hoc
          have hld := load_bd C r (ch.take k)
          have hlk : (ch.take k).length ≤ 8 := by simp; omega
          have hset := hb.out.setI r (loadF C (ch.take k) r + bitI y r)
          rw [mix_cr (v := loadF C (ch.take k) r + bitI y r) (by rw [loadsL_len]; exact hlr) (by rw [loadsL_len, loadsL_len]) (by rw [loadsL_get hlr, hnv.out])] at hset
          obtain ⟨ld0, ld1⟩ := hld
          generalize loadF C (ch.take k) r = ld at *
          generalize bitI y r = bi at *
          have HS := Lib.hid hset
          have HA2 := Lib.hid (hA.out.oth (g := w.heap.size + 1) (by omega) r (.int .i64 (ld + bi)))
          have hw3 := below_sto hw2 (g := w.heap.size + 1) (by omega) r (.int .i64 (ld + bi))
          clear e1 hset hb hy
          go_wp2_with fail
          go_region
          all_goals
            go_wp2_with fail
            go_roundw
            case rel => exact ⟨r + 1, by omega, by go_num, HS.out, HA2.out, below_drew' hw3, by simpa using hsz2⟩
            case measure => simp [intOf]; omega
        · have : r = n := by omega
          subst this
          have hbo := hb.out
          rw [List.drop_of_length_le (by rw [loadsL_len]; exact Nat.le_refl _), List.append_nil, List.take_of_length_le (by rw [loadsL_len]; exact Nat.le_refl _)] at hbo
          have HB := Lib.hid hbo
          clear hbo hb
          go_wp2_with fail
          go_roundw
          case rel => exact ⟨k + 1, by omega, by go_num, HB.out, hA.out, hw2, hsz2⟩
          case measure => simp [intOf]; omega
    · have : k = ch.length := by omega
      subst this
      have hbo := hb.out
      rw [List.take_length] at hbo
      have HR : Hid (OwnI 2 wm w.heap.size wm.heap.size (some ⟨w.heap.size + 1, 0, none⟩) n (loadsL C n ch)) := by
        have := (OwnI.of_blk hbo (by rw [loadsL_len]; omega)).mono (lo' := w.heap.size) (by omega) (hi' := wm.heap.size) (by omega)
        rwa [loadsL_len] at this
      clear hb hbo hA
      go_wp2_with fail
      go_ret
      exact ⟨_, _, rfl, HR.out, hw⟩
end Go.Proofs.Ytiodkmddmgjikaa
namespace Go.Proofs.Ytiodkmddmgjikaa
set_option linter.unusedVariables false
set_option linter.unusedSimpArgs false
open Go.RowKit

theorem idx_cr {C : Cr} (hv : Valid C) {r : Nat} {n : Int} (hr : (r : Int) < C.R) (n1 : 1 ≤ n) (n8 : n ≤ C.U) :
    ∃ J : Nat, (r : Int) * C.U + n - 1 = J ∧ J < C.costs.length ∧ 0 ≤ (r : Int) * C.U ∧ (r : Int) * C.U ≤ 64 := by
  have hu1 := hv.u1
  have hu8 := hv.u8
  have hr8 := hv.r8
  have hcl := hv.clen
  have h1 : ((r : Int) + 1) * C.U ≤ C.R * C.U := Int.mul_le_mul_of_nonneg_right (by omega) (by omega)
  have h2 : 0 ≤ (r : Int) * C.U := Int.mul_nonneg (by omega) (by omega)
  have h3 : (r : Int) * C.U ≤ 8 * 8 := Int.mul_le_mul (by omega) hu8 (by omega) (by omega)
  rw [Int.add_mul, Int.one_mul, Int.mul_comm C.R] at h1
  exact ⟨((r : Int) * C.U + n - 1).toNat, by omega, by omega, h2, by omega⟩
set_option maxHeartbeats 2000000 in
theorem cost_any (w : World) (B : Nat) (U R : Int) (r : Nat) (n : Int) (a2 : Option Addr) (c2 : Nat) (x2 : List Int) (a3 : Option Addr) (c3 : Nat) (x3 : List Int) (h : RdCrowd w B a2 x2 a3 x3) (hB : B ≤ w.heap.size) (hv : Valid ⟨U, R, x2, x3⟩) (hr : (r : Int) < R) (n1 : 1 ≤ n) (n8 : n ≤ U) :
    Calls Try.prog 32 #[.agg #[.int .i64 U, .int .i64 R, .slice a2 x2.length c2, .slice a3 x3.length c3], .int .i64 r, .int .i64 n] w fun e w' => e = .returned (.int .i64 (costF ⟨U, R, x2, x3⟩ r n)) ∧ Below w.heap.size w w' := by
  obtain ⟨J, hJ, hJl, m0, m1⟩ := idx_cr hv (C := ⟨U, R, x2, x3⟩) hr n1 n8
  simp only at hJ hJl m0 m1
  have hu8 := hv.u8
  simp only at hu8
  obtain ⟨b3, o3, y, rfl, hbb, hck, hy⟩ := (h.2.mono hB).get (k := J) hJl
  have HF : Hid (costF ⟨U, R, x2, x3⟩ r n = y) := by
    show _ = _
    unfold costF
    rw [if_neg (by omega)]
    simp only
    rw [hJ, Int.toNat_natCast]
    exact getD_of_get hy.out
  have hbb' : b3 ≠ w.heap.size := by omega
  clear h hv hy
  go_enter Try.func32, Try.ntmps32
  go_wp2_with fail
  go_ret
  exact ⟨ret_int HF.out.symm, bl1 _ _⟩
end Go.Proofs.Ytiodkmddmgjikaa
namespace Go.Proofs.Ytiodkmddmgjikaa
set_option linter.unusedVariables false
set_option linter.unusedSimpArgs false
open Go.RowKit

/-- What is paid over the first roads. -/
def paySum (C : Cr) (ch : List Int) (wy : Int) (k : Nat) : Int := sumR (payR C ch wy) k
theorem paySum_bd {C : Cr} (h : Valid C) (ch : List Int) (wy : Int) (k : Nat) (hk : k ≤ 8) : -800000 ≤ paySum C ch wy k ∧ paySum C ch wy k ≤ 800000 := by
  have := sumR_bd (f := payR C ch wy) (m := 100000) (n := k) (fun i _ => by
    unfold payR
    split
    · exact cost_bd h i _
    · omega)
  unfold paySum
  omega
theorem load_user {C : Cr} {ch : List Int} {u : Nat} (hu : u < ch.length) {r : Nat} (h : bitI (C.ways.getD (ch.getD u 0).toNat 0) r = 1) : 1 ≤ loadF C ch r := by
  have := load_ge C r ch u hu
  omega
end Go.Proofs.Ytiodkmddmgjikaa
namespace Go.Proofs.Ytiodkmddmgjikaa
set_option linter.unusedVariables false
set_option linter.unusedSimpArgs false
open Go.RowKit

/-- What append gives back lies where the row lay, or in a block that is new. -/
theorem append_block {P : Program} (w : World) (base : Nat) (t ty e : TypeId) (i : TypeInfo) (z : Value) (ht : P.underlying t = some (.slice e)) (hi : P.info? e = some i) (hz : i.zero = some z) (hsize : i.size = 1)
    (v : Value) (n : Nat) (xs : List Value) (hown : w.ownsRow base e 1 v n xs) (a : Addr) (m c : Nat) (news : List Value) (hl : news.length = m * 1) (hnews : ∀ j u, news[j]? = some u → w.cell? (a.add j) = some u) (h1 : ∀ u ∈ news, u.oneCell' = true)
    (hm : 0 < m) (h63 : n + m ≤ maxLen) (hbytes : (n + m) * i.bytes ≤ 140737488355328) {v' : Value} {w' : World} (hr : (Builtin.append_ #[t, t] ty #[v, .slice (some a) m c]).run P w = .ok v' w') :
    v'.ownBlock = v.ownBlock ∨ v'.ownBlock = some w.heap.size := by
  have hsmall : n + m ≤ 9223372036854775807 := by simp only [maxLen] at h63; omega
  rw [← hsize] at hl
  rcases hown.2 with ⟨rfl, rfl⟩ | ⟨g, cap, cur, rfl, hbg, hg, hnc, hcm, hcs, htake⟩
  · have hr2 := run_append_nil (P := P) w t ty e i z ht hi hz a m c news hl hnews (by omega) (by omega) (by have hb := hbytes; simp only [Nat.zero_add] at hb; omega)
    rw [hr2] at hr
    injection hr with hr _
    subst hr
    exact .inr rfl
  · by_cases hroom : n + m ≤ cap
    · have hfit : n * i.size + news.length ≤ cur.size := by rw [hl, hcs, hsize, ← Nat.add_mul]; exact Nat.mul_le_mul_right _ hroom
      have hr2 := run_append_room (P := P) w t ty e i ht hi g n cap cur hg a m c news hl hnews h1 hroom hfit
      rw [hr2] at hr
      injection hr with hr _
      subst hr
      exact .inl rfl
    · have holds : ∀ j u, xs[j]? = some u → w.cell? ((⟨g, 0, none⟩ : Addr).add j) = some u := hown.cells (g := g) rfl
      have hr2 := run_append_grow (P := P) w t ty e i z ht hi hz ⟨g, 0, none⟩ n cap xs (by rw [hsize]; exact hown.1) holds a m c news hl hnews (by omega) (by omega) (growslice_fits (by omega) hbytes)
      rw [hr2] at hr
      injection hr with hr _
      subst hr
      exact .inr rfl

theorem wpList_append_blk {P : Program} (wr : World) {ops : Array Oper} {rest : List Oper} {o : Oper} {a : Act} {Q : Exit → Act → World → Prop}
    (hg : o.guard = none) (s x : Operand) (t : TypeId) (hop : o.op = Op.call { callee := Callee.builtin Builtin.append, args := #[s, x], argTypes := #[t, t] })
    (base : Nat) (e : TypeId) (z : Value) (bytes : Nat) (h1 : P.underlying t = some (.slice e)) (hinfo : (P.info? e).map (fun i => (i.zero, i.size, i.bytes)) = some (some z, 1, bytes)) (hz : z.cells.size = 1)
    (v : Value) (n : Nat) (xs : List Value) (hs : a.eval s = v) (hown : wr.ownsRow base e 1 v n xs) (y : Value) (hy : y.oneCell' = true)
    (hx : a.eval x = .slice (some ⟨wr.heap.size, 0, none⟩) 1 1) (hb : bytes ≤ 64) (hn : n ≤ 1099511627776) (hbase : base ≤ wr.heap.size)
    (hK : ∀ v' w', w'.ownsRow base e 1 v' (n + 1) (xs ++ [y]) → wr.grownBy w' v.ownBlock → (∀ g, g < wr.heap.size → some g ≠ v.ownBlock → some g ≠ v'.ownBlock) → wpList P ops Q rest (a.put o.dst v') w') :
    wpList P ops Q (o :: rest) a (wr.alloc (.cells #[y] e)) := by
  obtain ⟨i, h2, h3, h4, h5⟩ := info_parts hinfo
  have hbb : (n + 1) * bytes ≤ 140737488355328 := Nat.le_trans (Nat.mul_le_mul_left (n + 1) hb) (by omega)
  have hnews : ∀ j u, [y][j]? = some u → (wr.alloc (.cells #[y] e)).cell? ((⟨wr.heap.size, 0, none⟩ : Addr).add j) = some u := by
    intro j u hj
    match j, hj with
    | 0, hj =>
      simp at hj
      subst hj
      simp [Addr.add]
    | j + 1, hj => simp at hj
  have hone : ∀ u ∈ [y], u.oneCell' = true := by
    intro u hu
    simp at hu
    subst hu
    exact hy
  refine wpList_plain hg fun _ hK' => ?_
  obtain ⟨v', w', hr, ho, hgr, _⟩ := run_append_own (P := P) (wr.alloc (.cells #[y] e)) base t o.type e i z 1 bytes h1 h2 h3 h4 h5 hz (by omega) v n xs (hown.alloc _) ⟨wr.heap.size, 0, none⟩ 1 1 [y] rfl hnews hone (by unfold maxLen; omega) hbb (by simp; omega)
  have hblk := append_block (wr.alloc (.cells #[y] e)) base t o.type e i z h1 h2 h3 h4 v n xs (hown.alloc _) ⟨wr.heap.size, 0, none⟩ 1 1 [y] rfl hnews hone (by omega) (by unfold maxLen; omega) (by rw [h5]; exact hbb) hr
  unfold Oper.wp execOp
  simp only [hop, resolve, invoke, builtin, Sem.run_bind, Sem.run_pure, Result.andThen_ok, List.map_toArray, List.map_cons, List.map_nil, hs, hx, hr]
  refine hK' _ _ (hK v' w' ho ⟨hgr.os, hgr.tape, hgr.output, ?_, fun k hk hne => ?_⟩ fun g hgl hgv hgv' => ?_)
  · have := hgr.size; simp at this; omega
  · rw [hgr.block k (by simp; omega) hne]
    exact Below.heap_alloc _ _ _ hk
  · rcases hblk with h | h
    · exact hgv (hgv'.trans h)
    · rw [h] at hgv'
      injection hgv' with hgv'
      simp at hgv'
      omega

/-- Two rows in blocks of their own. -/
def Apart (u v : Value) : Prop := ∀ g, u.ownBlock = some g → v.ownBlock ≠ some g
theorem Apart.symm {u v : Value} (h : Apart u v) : Apart v u := fun g h1 h2 => h g h2 h1
theorem own_apart {w w' : World} {base e n : Nat} {u v : Value} {xs : List Value} (h : w.ownsRow base e 1 v n xs) (hg : w.grownBy w' u.ownBlock) (ha : Apart u v) : w'.ownsRow base e 1 v n xs := by
  refine h.kept hg ?_
  cases hv : v.ownBlock with
  | none => exact .inl rfl
  | some g => exact .inr (fun e => ha g e.symm hv)
theorem apart_grow {w : World} {base e n : Nat} {u u' v : Value} {xs : List Value} (h : w.ownsRow base e 1 v n xs) (ha : Apart u v) (hn : ∀ g, g < w.heap.size → some g ≠ u.ownBlock → some g ≠ u'.ownBlock) : Apart u' v :=
  fun g hu hv => hn g (h.lt g hv).2 (fun e => ha g e.symm hv) hu.symm
/-- A row of at least one, opened. -/
theorem own_open {w : World} {base e n c : Nat} {a : Option Addr} {xs : List Value} (h : w.ownsRow base e 1 (.slice a n c) n xs) (hn : 0 < n) :
    ∃ g tl, a = some ⟨g, 0, none⟩ ∧ base ≤ g ∧ Blk w g (xs ++ tl) e ∧ n ≤ c ∧ c ≤ maxLen ∧ (xs ++ tl).length = c := by
  rcases h.2 with ⟨h2, h3⟩ | ⟨g, cap, cur, hv, hg, hh, hn2, hm, hs, ht⟩
  · omega
  · injection hv with ha _ hc
    subst ha hc
    rw [Nat.mul_one] at hs ht
    refine ⟨g, cur.toList.drop n, rfl, hg, ?_, hn2, hm, ?_⟩
    · rw [← ht, List.take_append_drop]; exact hh
    · rw [← ht, List.take_append_drop]; simpa using hs
theorem own_close {w : World} {base e n c g : Nat} {xs tl : List Value} (h : Blk w g (xs ++ tl) e) (hg : base ≤ g) (hn : xs.length = n) (hnc : n ≤ c) (hm : c ≤ maxLen) (hl : (xs ++ tl).length = c) : w.ownsRow base e 1 (.slice (some ⟨g, 0, none⟩) n c) n xs :=
  ⟨by omega, .inr ⟨g, c, _, rfl, hg, h, hnc, hm, by simpa using hl, by rw [Nat.mul_one, ← hn]; exact List.take_left⟩⟩
theorem cell_app {w : World} {g T : Nat} {xs : List Int} {tl : List Value} (h : Blk w g (ints xs ++ tl) T) {j : Nat} (hj : j < xs.length) : w.cell? ⟨g, j, none⟩ = some (.int .i64 (xs.getD j 0)) := by
  rw [h.cell, List.getElem?_append_left (by simpa using hj)]
  exact ints_get xs j hj
theorem set_app {w : World} {g T : Nat} {xs : List Int} {tl : List Value} (h : Blk w g (ints xs ++ tl) T) {j : Nat} (hj : j < xs.length) (y : Int) : Blk (w.setCell ⟨g, j, none⟩ (.int .i64 y)) g (ints (xs.set j y) ++ tl) T := by
  have := h.set j (.int .i64 y)
  rwa [List.set_append_left _ _ (by simpa using hj), ← ints_set] at this
theorem rd_app {w : World} {g T B : Nat} {xs tl : List Value} (h : Blk w g (xs ++ tl) T) (hB : g < B) : Rd w B (some ⟨g, 0, none⟩) xs :=
  .inr ⟨g, 0, rfl, hB, fun j hj => by rw [Nat.zero_add, h.cell, List.getElem?_append_left hj]⟩
end Go.Proofs.Ytiodkmddmgjikaa
namespace Go.Proofs.Ytiodkmddmgjikaa
set_option linter.unusedVariables false
set_option linter.unusedSimpArgs false
open Go.RowKit

theorem setg_grown (w : World) (g j : Nat) (u : Value) : w.grownBy (w.setCell ⟨g, j, none⟩ u) (some g) := ⟨rfl, rfl, rfl, by simp, fun i _ hi => Below.heap_setCell _ _ _ _ (fun e => hi (by simp [e]))⟩
theorem below_grownBy {w w' : World} (hb : Below w.heap.size w w') (r : Option Nat) : w.grownBy w' r := ⟨hb.os, hb.tape, hb.output, hb.size, fun k hk _ => hb.block k hk⟩
theorem below_restore {w w4 : World} {g : Nat} {cs : List Value} {T : TypeId} (h : Blk w g cs T) (h4 : Blk w4 g cs T) (hg : w.grownBy w4 (some g)) : Below w.heap.size w w4 :=
  ⟨hg.os, hg.tape, hg.output, hg.size, fun k hk => by
    by_cases e : k = g
    · subst e; exact h4.trans h.symm
    · exact hg.block k hk (by intro e2; injection e2 with e2; exact e e2)⟩
theorem set_back {xs : List Int} {u : Nat} (h : u < xs.length) (v : Int) : (xs.set u v).set u (xs.getD u 0) = xs := by
  rw [List.set_set]
  apply List.ext_getElem
  · simp
  · intro i h1 h2
    rw [List.getElem_set]
    split
    · rename_i e; subst e; simp [List.getD, List.getElem?_eq_getElem h]
    · rfl
set_option maxRecDepth 10000 in
set_option maxHeartbeats 8000000 in
theorem pays_any (w : World) (B g : Nat) (tl : List Value) (U : Int) (n : Nat) (a2 : Option Addr) (c2 : Nat) (x2 : List Int) (a3 : Option Addr) (c3 : Nat) (x3 : List Int) (c : Nat) (ch : List Int) (u wy : Nat)
    (hA : Blk w g (ints ch ++ tl) 2) (hBg : B ≤ g) (h : RdCrowd w B a2 x2 a3 x3) (hc : Can ⟨U, n, x2, x3⟩ ch) (hu : u < ch.length) (hwy : wy < x2.length) :
    Calls Try.prog 48 #[.agg #[.int .i64 U, .int .i64 n, .slice a2 x2.length c2, .slice a3 x3.length c3], .slice (some ⟨g, 0, none⟩) ch.length c, .int .i64 u, .int .i64 wy] w fun e w' => e = .returned (.int .i64 (paysF ⟨U, n, x2, x3⟩ (ch.set u (wy : Int)) u)) ∧ Below w.heap.size w w' := by
  have hn8 : n ≤ 8 := by have := hc.v.r8; simp only at this; omega
  have hUl : (ch.length : Int) = U := hc.len
  have hU8 : ch.length ≤ 8 := by have := hc.v.u8; simp only at this; omega
  have hgl := hA.lt
  have hgne : g ≠ w.heap.size := by omega
  have hc' : Can ⟨U, n, x2, x3⟩ (ch.set u (wy : Int)) := hc.set hwy
  have lset : (ch.set u (wy : Int)).length = ch.length := by simp
  -- the worlds
  have hcu := cell_app hA (j := u) hu
  have hfu := hA.free u
  have w2A := (set_app hA (j := u) hu (wy : Int)).alloc (.cells #[.int .i64 U, .int .i64 n, .slice a2 x2.length c2, .slice a3 x3.length c3] 26)
  have hB2 : Below B w ((w.setCell ⟨g, u, none⟩ (.int .i64 wy)).alloc (.cells #[.int .i64 U, .int .i64 n, .slice a2 x2.length c2, .slice a3 x3.length c3] 26)) := (below_sto (Below.refl B w) hBg u (.int .i64 wy)).alloc (by simp; omega) _
  have h2 := (h.below hB2 (Nat.le_refl _)).mono (C := ((w.setCell ⟨g, u, none⟩ (.int .i64 wy)).alloc (.cells #[.int .i64 U, .int .i64 n, .slice a2 x2.length c2, .slice a3 x3.length c3] 26)).heap.size) (by simp; omega)
  have LL0 := loads_any _ U n a2 c2 x2 a3 c3 x3 (some ⟨g, 0, none⟩) c (ch.set u (wy : Int)) h2 (rd_app w2A (by simp; omega)) hc'
  rw [lset] at LL0
  have LL := Lib.hid LL0
  have HW2A := Lib.hid w2A
  have G2 : Hid (w.grownBy ((w.setCell ⟨g, u, none⟩ (.int .i64 wy)).alloc (.cells #[.int .i64 U, .int .i64 n, .slice a2 x2.length c2, .slice a3 x3.length c3] 26)) (some g)) := grown_of_grown (setg_grown _ g u _) (below_grownBy (bl1 _ _) _)
  have kA2 := Blk.new (w.setCell ⟨g, u, none⟩ (.int .i64 wy)) [.int .i64 U, .int .i64 n, .slice a2 x2.length c2, .slice a3 x3.length c3] 26
  rw [show (w.setCell ⟨g, u, none⟩ (.int .i64 wy)).heap.size = w.heap.size by simp] at kA2
  have KA2 := Lib.hid kA2
  have HA := Lib.hid hA
  have Hh := Lib.hid h
  have HB2 := Lib.hid hB2
  have HV := Lib.hid hc.v
  have HSB := Lib.hid (set_back hu (wy : Int))
  have HP : Hid (∀ k, k ≤ 8 → -800000 ≤ paySum ⟨U, n, x2, x3⟩ (ch.set u (wy : Int)) wy k ∧ paySum ⟨U, n, x2, x3⟩ (ch.set u (wy : Int)) wy k ≤ 800000) := fun k hk => paySum_bd hc.v _ _ k hk
  have egs : (ch.set u (wy : Int)).getD u 0 = wy := getD_set_same hu _
  have HF : Hid (paysF ⟨U, n, x2, x3⟩ (ch.set u (wy : Int)) u = paySum ⟨U, n, x2, x3⟩ (ch.set u (wy : Int)) wy n) := by show _ = _; unfold paysF paySum; rw [egs]; simp
  have HLd : Hid (∀ r : Nat, bitI (x2.getD wy 0) r = 1 → 1 ≤ loadF ⟨U, n, x2, x3⟩ (ch.set u (wy : Int)) r) := fun r hr => load_user (C := ⟨U, n, x2, x3⟩) (u := u) (by rw [lset]; exact hu) (by rw [egs]; exact hr)
  have HL : Hid (∀ r : Nat, 0 ≤ loadF ⟨U, n, x2, x3⟩ (ch.set u (wy : Int)) r ∧ loadF ⟨U, n, x2, x3⟩ (ch.set u (wy : Int)) r ≤ U) := fun r => by have := load_bd ⟨U, n, x2, x3⟩ r (ch.set u (wy : Int)); rw [lset] at this; omega
  have Hcb : Hid (∀ r : Nat, ∀ m : Int, -100000 ≤ costF ⟨U, n, x2, x3⟩ r m ∧ costF ⟨U, n, x2, x3⟩ r m ≤ 100000) := fun r m => cost_bd HV.out r m
  have HWay := Lib.hid hc.v.way
  have LC := Lib.hid (fun (w' : World) (hr : RdCrowd w' B a2 x2 a3 x3) (hB' : B ≤ w'.heap.size) (r : Nat) (m : Int) (hrn : (r : Int) < n) (m0 : 1 ≤ m) (m8 : m ≤ U) => cost_any w' B U n r m a2 c2 x2 a3 c3 x3 hr hB' hc.v hrn m0 m8)
  obtain ⟨b2, o2, y, hax, hbb2, hcy0, hy⟩ := h.1.get (k := wy) hwy
  have Hcy := Lib.hid hcy0
  have hyg : x2.getD wy 0 = y := getD_of_get hy.out
  have hyw := HWay.out y (List.mem_of_getElem? hy.out)
  rw [hyg] at HLd
  have Hpay : Hid (∀ r : Nat, payR ⟨U, n, x2, x3⟩ (ch.set u (wy : Int)) wy r = if bitI y r = 1 then costF ⟨U, n, x2, x3⟩ r (loadF ⟨U, n, x2, x3⟩ (ch.set u (wy : Int)) r) else 0) := fun r => by
    have eqy : (⟨U, n, x2, x3⟩ : Cr).ways.getD ((wy : Int)).toNat 0 = y := hyg
    unfold payR
    simp only [eqy]
  subst hax
  obtain ⟨y1, y8⟩ := hyw
  obtain ⟨old, hold⟩ : ∃ old, old = ch.getD u 0 := ⟨_, rfl⟩
  rw [← hold] at hcu HSB
  generalize hC : (⟨U, (n : Int), x2, x3⟩ : Cr) = C at *
  have Hul := Lib.hid hUl
  clear hC hold hUl hc hc' lset w2A hB2 h2 LL0 kA2 hA h egs hcy0 hy hyg HWay
  go_enter Try.func48, Try.ntmps48
  go_wp2_with fail
  refine LL.out.mono ?_
  rintro e w3 ⟨a', c', rfl, ol, hb3⟩
  have k3A := HW2A.out.same hb3
  have kk3 := KA2.out.same hb3
  have G3 := grown_of_grown G2.out (below_grownBy hb3 _)
  have B3 := HB2.out.trans (hb3.mono (by simp; omega))
  have s3 := hb3.size
  simp at s3
  have hcell3 := cell_app k3A (j := u) (by simpa using hu)
  have hfree3 := k3A.free u
  have k4A := set_app k3A (j := u) (by simpa using hu) old
  rw [HSB.out] at k4A
  have G4 := Lib.hid (grown_of_grown G3 (setg_grown w3 g u (.int .i64 old)))
  have kk4 := Lib.hid (kk3.oth (g := g) (by omega) u (.int .i64 old))
  have B4 := Lib.hid (below_sto B3 hBg u (.int .i64 old))
  have ol4 := Lib.hid (ol.touch (Touch.of_grown (setg_grown w3 g u (.int .i64 old)) (Nat.le_refl _) (Nat.lt_succ_self _)) (.inr (by simp; omega)))
  have K4A := Lib.hid k4A
  have h34 : w3.heap.size ≤ (w3.setCell ⟨g, u, none⟩ (.int .i64 old)).heap.size := by simp
  have e4 := kk4.out.cell 1
  simp only [List.getElem?_cons_zero, List.getElem?_cons_succ] at e4
  have R4 := Lib.hid (below_restore HA.out K4A.out G4.out)
  have s4 : w.heap.size + 1 ≤ (w3.setCell ⟨g, u, none⟩ (.int .i64 old)).heap.size := by simp; omega
  clear LL ol hb3 k3A kk3 G3 B3 k4A G2 KA2
  go_wp2_with fail
  generalize hW4 : w3.setCell ⟨g, u, none⟩ (.int .i64 old) = w4 at *
  clear hW4
  go_loopw [30, 11] (fun rr ss wi => ∃ (r : Nat) (s : Int), r ≤ n ∧ rr = .int .i64 r ∧ ss = .int .i64 s ∧ Hid (s = paySum C (ch.set u (wy : Int)) wy r) ∧ Below w4.heap.size w4 wi) (fun rr _ _ => n - (intOf rr).toNat)
  case atStart => exact ⟨0, 0, Nat.zero_le _, rfl, rfl, rfl, Below.refl _ _⟩
  case round =>
    clear e4
    obtain ⟨r, s, hr, rfl, rfl, hs, hwi⟩ := hrel
    by_cases hlt : r < n
    · have kk := kk4.out.below hwi (by omega)
      have e0 := kk.cell 0
      have e1 := kk.cell 1
      have e2 := kk.cell 2
      have e3 := kk.cell 3
      simp only [List.getElem?_cons_zero, List.getElem?_cons_succ] at e0 e1 e2 e3
      have bi4 := B4.out.trans (hwi.mono (Nat.le_trans (by omega) (Nat.le_refl _)))
      have ey := (bi4.cell (p := ⟨b2, o2 + wy, none⟩) hbb2).trans Hcy.out
      have hbit := bit_of (show 0 ≤ y by omega) (show y ≤ 255 by omega) r
      have hpr := Hpay.out r
      have hs2 : paySum C (ch.set u (wy : Int)) wy (r + 1) = paySum C (ch.set u (wy : Int)) wy r + payR C (ch.set u (wy : Int)) wy r := rfl
      obtain ⟨s0, s1⟩ := HP.out r (by omega)
      rw [← hs.out] at s0 s1
      have hq0 : (0 : Int) ≤ (wy : Int) := by omega
      have hq1 : (wy : Int) < (x2.length : Int) := by omega
      by_cases hbt : bitI y r = 1
      · rw [if_pos hbt] at hpr
        have hl1 := HLd.out r hbt
        rw [hbt] at hbit
        obtain ⟨l0, l1⟩ := HL.out r
        obtain ⟨bl, ol, z, hal, hbbl, hcz, hz⟩ := ((ol4.out.rd.mono (B' := w4.heap.size) h34).below hwi (Nat.le_refl _)).get (k := r) (by rw [loadsL_len]; exact hlt)
        subst hal
        have ez : z = loadF C (ch.set u (wy : Int)) r := by
          have := hz.out
          rw [loadsL_get hlt] at this
          injection this with this
          exact this.symm
        rw [← ez] at hl1 l0 l1
        have LC1 := Lib.hid (LC.out wr.drew (Hh.out.below (below_drew' bi4) (Nat.le_refl _)) (by have := bi4.size; simpa using Nat.le_trans (by omega) this) r z (by omega) hl1 l1)
        have hcb := Hcb.out r z
        have HS : Hid (s + costF C r z = paySum C (ch.set u (wy : Int)) wy (r + 1)) := by
          show _ = _
          rw [hs2, hpr, hs.out, ez]
        obtain ⟨cb0, cb1⟩ := hcb
        have Hwi := Lib.hid hwi
        have hltA : w.heap.size < wr.heap.size := by have := hwi.size; omega
        have hltB : bl < wr.heap.size := by have := hwi.size; omega
        have EE := Lib.hid (And.intro e0 (And.intro e1 (And.intro e2 (And.intro e3 hcz))))
        have hrn0 : (0 : Int) ≤ (r : Int) := by omega
        have hrn1 : (r : Int) < (n : Int) := by omega
        clear hpr hs2 hz ez hbt hs hwi
        generalize costF C r z = cz at *
        have hwr : IntKind.i64.wrap (s + cz) = s + cz := IntWalk.i64_in _ (by omega)
        have Hwr := Lib.hid hwr
        clear hwr
        go_wp2_with fail
        clear ey hbit
        go_region_held3 (fun w' => w'.cell? ⟨w.heap.size, 0, none⟩ = some (.int .i64 U) ∧ w'.cell? ⟨w.heap.size, 1, none⟩ = some (.int .i64 n) ∧ w'.cell? ⟨w.heap.size, 2, none⟩ = some (.slice (some ⟨b2, o2, none⟩) x2.length c2) ∧ w'.cell? ⟨w.heap.size, 3, none⟩ = some (.slice a3 x3.length c3) ∧ w'.cell? ⟨bl, ol + r, none⟩ = some (.int .i64 z))
          (first | go_keep | exact ⟨(hbq.cell (p := ⟨w.heap.size, 0, none⟩) hltA).trans EE.out.1, (hbq.cell (p := ⟨w.heap.size, 1, none⟩) hltA).trans EE.out.2.1, (hbq.cell (p := ⟨w.heap.size, 2, none⟩) hltA).trans EE.out.2.2.1, (hbq.cell (p := ⟨w.heap.size, 3, none⟩) hltA).trans EE.out.2.2.2.1, (hbq.cell (p := ⟨bl, ol + r, none⟩) hltB).trans EE.out.2.2.2.2⟩)
          ((go_at_call 32; refine (LC1.out).mono ?_; rintro e w' ⟨rfl, hbq⟩))
        all_goals
          have hwi2 := Hwi.out.drew.trans (hbq.mono (by have := Hwi.out.size; simpa using this))
          rw [Hwr.out]
          clear hbq EE
          go_wp2_with fail
          go_roundw
          case rel => exact ⟨r + 1, s + cz, by omega, by go_num, rfl, HS, hwi2⟩
          case measure => simp [intOf]; omega
      · rw [if_neg hbt] at hpr
        have hb0 : bitI y r = 0 := by have := bitI_01 y r; omega
        rw [hb0] at hbit
        have HS : Hid (s = paySum C (ch.set u (wy : Int)) wy (r + 1)) := by
          show _ = _
          rw [hs2, hpr, hs.out]; omega
        clear hpr hs2 hbt hs
        go_wp2_with fail
        go_roundw
        case rel => exact ⟨r + 1, s, by omega, by go_num, rfl, HS, hwi⟩
        case measure => simp [intOf]; omega
    · have : r = n := by omega
      subst this
      have HSF := Lib.hid (hs.out.trans HF.out.symm)
      have BF := R4.out.trans (hwi.mono (by have := R4.out.size; omega))
      clear hs hwi
      go_wp2_with fail
      go_ret
      exact ⟨ret_int HSF.out, BF⟩
end Go.Proofs.Ytiodkmddmgjikaa
namespace Go.Proofs.Ytiodkmddmgjikaa
set_option linter.unusedVariables false
set_option linter.unusedSimpArgs false
open Go.RowKit

def bU : Option (Nat × Nat) → Int
  | none => -1
  | some p => p.1
def bK : Option (Nat × Nat) → Int
  | none => 0
  | some p => p.2
theorem set_same (xs : List Int) (u : Nat) : xs.set u (xs.getD u 0) = xs := by
  apply List.ext_getElem
  · simp
  · intro i h1 h2
    rw [List.getElem_set]
    split
    · rename_i e; subst e; simp [List.getD, List.getElem?_eq_getElem h2]
    · rfl
theorem betterFrom_step (C : Cr) (ch : List Int) (f u : Nat) : betterFrom C ch (f + 1) u = match wayF C ch u with | some k => some (u, k) | none => betterFrom C ch f (u + 1) := rfl
/-- What the scan over ways says after k of them. -/
def scanB (C : Cr) (ch : List Int) (u k : Nat) : Option Nat × Int := scanF (fun k => paysF C (ch.set u (k : Int)) u) (paysF C ch u) k
theorem scanB_succ (C : Cr) (ch : List Int) (u k : Nat) : scanB C ch u (k + 1) = if paysF C (ch.set u (k : Int)) u < (scanB C ch u k).2 then (some k, paysF C (ch.set u (k : Int)) u) else scanB C ch u k := rfl
theorem scanB_ne {C : Cr} {ch : List Int} {u : Nat} {k n q : Nat} (h : (scanB C ch u n).1 = some k) (hq : ch.getD u 0 = q) : k ≠ q := by
  have := (scan_spec (fun k => paysF C (ch.set u (k : Int)) u) (paysF C ch u) n).1
  unfold scanB at h
  rw [h] at this
  intro e
  subst e
  have h3 := this.2.2
  try simp only at h3
  rw [← hq, set_same] at h3
  omega
def bestW (o : Option Nat) (q : Nat) : Nat := o.getD q
set_option maxRecDepth 10000 in
set_option maxHeartbeats 8000000 in
theorem better_any (w : World) (U : Int) (n : Nat) (a2 : Option Addr) (c2 : Nat) (x2 : List Int) (a3 : Option Addr) (c3 : Nat) (x3 : List Int) (a : Option Addr) (c : Nat) (ch : List Int) (h : RdCrowd w w.heap.size a2 x2 a3 x3) (g : Rd w w.heap.size a (ints ch)) (hc : Can ⟨U, n, x2, x3⟩ ch) :
    Calls Try.prog 34 #[.agg #[.int .i64 U, .int .i64 n, .slice a2 x2.length c2, .slice a3 x3.length c3], .slice a ch.length c] w fun e w' => e = .returned (.tuple #[.int .i64 (bU (betterF ⟨U, n, x2, x3⟩ ch)), .int .i64 (bK (betterF ⟨U, n, x2, x3⟩ ch))]) ∧ Below w.heap.size w w' := by
  have hUl : (ch.length : Int) = U := hc.len
  have hU8 : ch.length ≤ 8 := by have := hc.v.u8; simp only at this; omega
  have hU1 : 1 ≤ ch.length := by have := hc.v.u1; simp only at this; omega
  have hw8 : x2.length ≤ 8 := hc.v.w8
  have LCl := Lib.hid (fun w' hb => clone_any w' a c ch (g.to hb) hU1 (by omega))
  have LP := Lib.hid (fun (w' : World) (g' : Nat) (tl : List Value) (cc u wy : Nat) (hA : Blk w' g' (ints ch ++ tl) 2) (hB : w.heap.size ≤ g') (hb : Below w.heap.size w w') (hu : u < ch.length) (hw : wy < x2.length) => pays_any w' w.heap.size g' tl U n a2 c2 x2 a3 c3 x3 cc ch u wy hA hB (h.below hb (Nat.le_refl _)) hc hu hw)
  have HM : Hid (∀ x ∈ ch, 0 ≤ x ∧ x < (x2.length : Int)) := hc.mem
  have Hg := Lib.hid g
  have Hpb : Hid (∀ ch' u, -800000 ≤ paysF ⟨U, n, x2, x3⟩ ch' u ∧ paysF ⟨U, n, x2, x3⟩ ch' u ≤ 800000) := fun ch' u => pays_bd hc.v ch' u
  have Hul := Lib.hid hUl
  have Hway : Hid (∀ u, wayF ⟨U, n, x2, x3⟩ ch u = (scanB ⟨U, n, x2, x3⟩ ch u x2.length).1) := fun u => rfl
  clear h g hc hUl
  generalize hC : (⟨U, (n : Int), x2, x3⟩ : Cr) = C at *
  clear hC
  have Hstart : Hid (betterF C ch = betterFrom C ch ch.length 0) := rfl
  go_enter Try.func34, Try.ntmps34
  go_wp2_with fail
  refine (LCl.out _ (bl1 _ _)).mono ?_
  rintro e w1 ⟨a1, c1, rfl, o1, hb1⟩
  obtain ⟨go, tl, rfl, hgo, hbg, hcc, hccm, hcl⟩ := own_open o1.1 (by omega)
  have hgo' : w.heap.size < go := by simp at hgo; omega
  have kA := (Blk.new w [.int .i64 U, .int .i64 n, .slice a2 x2.length c2, .slice a3 x3.length c3] 26).same hb1
  have B1 := below_then (bl1 w (.cells #[.int .i64 U, .int .i64 n, .slice a2 x2.length c2, .slice a3 x3.length c3] 26)) hb1
  have KA := Lib.hid kA
  have KG := Lib.hid hbg
  clear o1 hb1 kA hbg LCl
  go_wp2_with fail
  go_loopw [17] (fun i wr => ∃ k : Nat, k ≤ ch.length ∧ i = .int .i64 k ∧ Hid (betterF C ch = betterFrom C ch (ch.length - k) k) ∧ Hid (Blk wr go (ints ch ++ tl) 2) ∧ Hid (Blk wr w.heap.size [.int .i64 U, .int .i64 n, .slice a2 x2.length c2, .slice a3 x3.length c3] 26) ∧ Below w.heap.size w wr) (fun i _ => ch.length - (intOf i).toNat)
  case atStart => exact ⟨0, Nat.zero_le _, rfl, Hstart.out, KG.out, KA.out, B1⟩
  case round =>
    clear KA KG B1 Hstart
    obtain ⟨k, hk, rfl, hbf, hG, hA, hw⟩ := hrel
    have q0 := hA.out.cell 0
    have q1 := hA.out.cell 1
    have q2 := hA.out.cell 2
    have q3 := hA.out.cell 3
    simp only [List.getElem?_cons_zero, List.getElem?_cons_succ] at q0 q1 q2 q3
    by_cases hlt : k < ch.length
    · obtain ⟨b1, o1, x, rfl, hbb1, hck, hx⟩ := (Hg.out.below hw (Nat.le_refl _)).get hlt
      obtain ⟨x0, x8⟩ := HM.out x (List.mem_of_getElem? hx.out)
      obtain ⟨q, rfl⟩ : ∃ q : Nat, x = q := ⟨x.toNat, by omega⟩
      have hq8 : q < x2.length := by (try simp only at x8); omega
      have Hxq : Hid (ch.getD k 0 = q) := getD_of_get hx.out
      have LP1 := Lib.hid (LP.out wr go tl c1 k q hG.out (by omega) hw hlt hq8)
      have Hset : Hid (ch.set k (q : Int) = ch) := by show _ = _; rw [← Hxq.out]; exact set_same ch k
      rw [Hset.out] at LP1
      have hp0 := Hpb.out ch k
      have Hl0 : Hid ((scanB C ch k 0).2 = paysF C ch k ∧ (scanB C ch k 0).1 = none) := ⟨rfl, rfl⟩
      have Hfs : Hid (ch.length - k = (ch.length - (k + 1)) + 1) := by show _ = _; omega
      obtain ⟨p0, p1⟩ := hp0
      clear hx
      go_wp2_with fail
      refine LP1.out.mono ?_
      rintro e w2 ⟨rfl, hb2⟩
      have hG2 := Lib.hid (hG.out.same hb2)
      have hA2 := Lib.hid (hA.out.same hb2)
      have hw2 := hw.trans (hb2.mono hw.size)
      have r2 := hA2.out.cell 2
      simp only [List.getElem?_cons_zero, List.getElem?_cons_succ] at r2
      clear hb2 hG hA LP1 q0 q1 q2 q3 hck hw
      go_wp2_with fail
      go_loopw [31, 9, 10] (fun i bb ll wi => ∃ (j : Nat) (ob : Option Nat) (l : Int), j ≤ x2.length ∧ i = .int .i64 j ∧ bb = .int .i64 (bestW ob q : Nat) ∧ ll = .int .i64 l ∧ Hid (scanB C ch k j = (ob, l)) ∧ Hid (Blk wi go (ints ch ++ tl) 2) ∧ Hid (Blk wi w.heap.size [.int .i64 U, .int .i64 n, .slice a2 x2.length c2, .slice a3 x3.length c3] 26) ∧ Below w.heap.size w wi) (fun i _ _ _ => x2.length - (intOf i).toNat)
      case atStart => exact ⟨0, none, _, Nat.zero_le _, rfl, rfl, rfl, rfl, hG2.out, hA2.out, hw2⟩
      case round =>
        clear hG2 hA2 hw2 r2 p0 p1
        obtain ⟨j, ob, l, hj, rfl, rfl, rfl, hsc, hG, hA, hw⟩ := hrel
        have q0 := hA.out.cell 0
        have q1 := hA.out.cell 1
        have q2 := hA.out.cell 2
        have q3 := hA.out.cell 3
        simp only [List.getElem?_cons_zero, List.getElem?_cons_succ] at q0 q1 q2 q3
        by_cases hlj : j < x2.length
        · have LP1 := Lib.hid (LP.out wr go tl c1 k j hG.out (by omega) hw hlt hlj)
          have hst := scanB_succ C ch k j
          rw [hsc.out] at hst
          simp only at hst
          obtain ⟨p0, p1⟩ := Hpb.out (ch.set k (j : Int)) k
          by_cases hlt2 : paysF C (ch.set k (j : Int)) k < l
          · rw [if_pos hlt2] at hst
            have Hst := Lib.hid hst
            clear hst hsc
            generalize paysF C (ch.set k (j : Int)) k = pj at *
            go_wp2_with fail
            refine LP1.out.mono ?_
            rintro e w3 ⟨rfl, hb3⟩
            have hG3 := Lib.hid (hG.out.same hb3)
            have hA3 := Lib.hid (hA.out.same hb3)
            have hw3 := hw.trans (hb3.mono hw.size)
            clear hb3 hG hA LP1 q0 q1 q2 q3 hw
            go_wp2_with fail
            go_roundw
            case rel => exact ⟨j + 1, some j, pj, by omega, by go_num, rfl, rfl, Hst, hG3, hA3, hw3⟩
            case measure => simp [intOf]; omega
          · rw [if_neg hlt2] at hst
            have Hst := Lib.hid hst
            clear hst hsc
            generalize paysF C (ch.set k (j : Int)) k = pj at *
            go_wp2_with fail
            refine LP1.out.mono ?_
            rintro e w3 ⟨rfl, hb3⟩
            have hG3 := Lib.hid (hG.out.same hb3)
            have hA3 := Lib.hid (hA.out.same hb3)
            have hw3 := hw.trans (hb3.mono hw.size)
            clear hb3 hG hA LP1 q0 q1 q2 q3 hw
            go_wp2_with fail
            go_roundw
            case rel => exact ⟨j + 1, ob, l, by omega, by go_num, rfl, rfl, Hst, hG3, hA3, hw3⟩
            case measure => simp [intOf]; omega
        · have : j = x2.length := by omega
          subst this
          have hbs := hbf.out
          rw [Hfs.out, betterFrom_step, Hway.out, hsc.out] at hbs
          simp only at hbs
          cases ob with
          | none =>
            have HB2 := Lib.hid hbs
            rw [show bestW none q = q from rfl]
            have hne : ((q : Int) != (q : Int)) = false := by simp
            clear hbs hsc hbf q0 q1 q2 q3
            go_wp2_with fail
            go_roundw
            case rel => exact ⟨k + 1, by omega, by go_num, HB2, hG, hA, hw⟩
            case measure => simp [intOf]; omega
          | some kk =>
            rw [show bestW (some kk) q = kk from rfl]
            have hkq : kk ≠ q := scanB_ne (n := x2.length) (by rw [hsc.out]) Hxq.out
            have hne : ((kk : Int) != (q : Int)) = true := by simp; omega
            have HR : Hid (bU (betterF C ch) = k ∧ bK (betterF C ch) = kk) := by show _ ∧ _; rw [hbs]; exact ⟨rfl, rfl⟩
            clear hbs hsc hbf hkq q0 q1 q2 q3
            go_wp2_with fail
            go_ret2
            exact ⟨by rw [HR.out.1, HR.out.2]; rfl, hw⟩
    · have : k = ch.length := by omega
      subst this
      have hbs := hbf.out
      rw [Nat.sub_self] at hbs
      have HR : Hid (bU (betterF C ch) = -1 ∧ bK (betterF C ch) = 0) := by show _ ∧ _; rw [hbs]; exact ⟨rfl, rfl⟩
      clear hbs hbf q0 q1 q2 q3
      go_wp2_with fail
      go_ret2
      exact ⟨by rw [HR.out.1, HR.out.2]; rfl, hw⟩
end Go.Proofs.Ytiodkmddmgjikaa
namespace Go.Proofs.Ytiodkmddmgjikaa
set_option linter.unusedVariables false
set_option linter.unusedSimpArgs false
open Go.RowKit

def betL (C : Cr) (ch : List Int) : Option (List Int) := (betterF C ch).map fun p => ch.set p.1 (p.2 : Int)
theorem betL_len {C : Cr} {ch ys : List Int} (h : betL C ch = some ys) : ys.length = ch.length := by
  unfold betL at h
  cases hb : betterF C ch with
  | none => rw [hb] at h; cases h
  | some p => rw [hb] at h; injection h with h; subst h; simp
def bestN : Option Nat → Int
  | none => -1
  | some k => k
end Go.Proofs.Ytiodkmddmgjikaa
namespace Go.Proofs.Ytiodkmddmgjikaa
set_option linter.unusedVariables false
set_option linter.unusedSimpArgs false
open Go.RowKit

def isRestF (c : Cr) (ch : List Int) : Bool × Bool := if canB c ch then ((betterF c ch).isNone, true) else (false, false)
theorem isRestF_no {c : Cr} {ch : List Int} (h : canB c ch = false) : isRestF c ch = (false, false) := by simp [isRestF, h]
theorem isRestF_none {c : Cr} {ch : List Int} (h : canB c ch = true) (hb : betterF c ch = none) : isRestF c ch = (true, true) := by simp [isRestF, h, hb]
theorem isRestF_some {c : Cr} {ch : List Int} {p : Nat × Nat} (h : canB c ch = true) (hb : betterF c ch = some p) : isRestF c ch = (false, true) := by simp [isRestF, h, hb]
theorem roads_nat {U R : Int} {x2 x3 ch : List Int} (hc : Can ⟨U, R, x2, x3⟩ ch) : ∃ n : Nat, R = n := ⟨R.toNat, by have := hc.v.r1; simp only at this; omega⟩
theorem blkBox (w : World) (cs : List Value) (t : TypeId) {w1 : World} (hb : Below (w.alloc (.cells cs.toArray t)).heap.size (w.alloc (.cells cs.toArray t)) w1) : Blk w1 w.heap.size cs t := (Blk.new w cs t).same hb
set_option maxRecDepth 10000 in
set_option maxHeartbeats 4000000 in
theorem isRest_any (w : World) (U R : Int) (a2 : Option Addr) (c2 : Nat) (x2 : List Int) (a3 : Option Addr) (c3 : Nat) (x3 : List Int) (a : Option Addr) (c : Nat) (ch : List Int) (h : RdCrowd w w.heap.size a2 x2 a3 x3) (hl2 : x2.length ≤ 1048576) (hl3 : x3.length ≤ 1048576) (g : Rd w w.heap.size a (ints ch)) (hl : ch.length ≤ 1048576) :
    Calls Try.prog 12 #[.agg #[.int .i64 U, .int .i64 R, .slice a2 x2.length c2, .slice a3 x3.length c3], .slice a ch.length c] w fun e w' => e = .returned (.tuple #[.bool (isRestF ⟨U, R, x2, x3⟩ ch).1, .bool (isRestF ⟨U, R, x2, x3⟩ ch).2]) ∧ Below w.heap.size w w' := by
  have LC := Lib.hid (fun w' hb => chosen_any w' U R a2 c2 x2 a3 c3 x3 a c ch (h.to hb) hl2 hl3 (g.to hb) hl)
  cases t1 : canB ⟨U, R, x2, x3⟩ ch with
  | false =>
    rw [isRestF_no t1]
    rw [t1] at LC
    clear h g t1
    go_enter Try.func12, Try.ntmps12
    go_wp2_with fail
    refine (LC.out _ (bl1 _ _)).mono ?_
    rintro e w1 ⟨rfl, hb1⟩
    have B1 := below_then (bl1 w _) hb1
    clear hb1
    go_wp2_with fail
    go_ret2
    exact ⟨rfl, B1⟩
  | true =>
    rw [t1] at LC
    have hc := can_of t1
    obtain ⟨n, rfl⟩ := roads_nat hc
    have LB := Lib.hid (fun w' hb => better_any w' U n a2 c2 x2 a3 c3 x3 a c ch (h.to hb) (g.to hb) hc)
    cases hbf : betterF ⟨U, n, x2, x3⟩ ch with
    | none =>
      rw [isRestF_none t1 hbf]
      simp only [hbf, bU, bK] at LB
      clear h g t1 hc hbf
      go_enter Try.func12, Try.ntmps12
      go_wp2_with fail
      refine (LC.out _ (bl1 _ _)).mono ?_
      rintro e w1 ⟨rfl, hb1⟩
      have kA := (Blk.new w [.int .i64 U, .int .i64 n, .slice a2 x2.length c2, .slice a3 x3.length c3] 26).same hb1
      have B1 := below_then (bl1 w (.cells #[.int .i64 U, .int .i64 n, .slice a2 x2.length c2, .slice a3 x3.length c3] 26)) hb1
      have q0 := kA.cell 0
      have q1 := kA.cell 1
      have q2 := kA.cell 2
      have q3 := kA.cell 3
      simp only [List.getElem?_cons_zero, List.getElem?_cons_succ] at q0 q1 q2 q3
      clear hb1 kA LC
      go_wp2_with fail
      refine (LB.out _ B1).mono ?_
      rintro e w2 ⟨rfl, hb2⟩
      have B2 := below_then B1 hb2
      clear hb2 LB q0 q1 q2 q3
      go_wp2_with fail
      go_ret2
      exact ⟨rfl, B2⟩
    | some p =>
      rw [isRestF_some t1 hbf]
      simp only [hbf, bU, bK] at LB
      clear h g t1 hc hbf
      go_enter Try.func12, Try.ntmps12
      go_wp2_with fail
      refine (LC.out _ (bl1 _ _)).mono ?_
      rintro e w1 ⟨rfl, hb1⟩
      have kA := (Blk.new w [.int .i64 U, .int .i64 n, .slice a2 x2.length c2, .slice a3 x3.length c3] 26).same hb1
      have B1 := below_then (bl1 w (.cells #[.int .i64 U, .int .i64 n, .slice a2 x2.length c2, .slice a3 x3.length c3] 26)) hb1
      have q0 := kA.cell 0
      have q1 := kA.cell 1
      have q2 := kA.cell 2
      have q3 := kA.cell 3
      simp only [List.getElem?_cons_zero, List.getElem?_cons_succ] at q0 q1 q2 q3
      clear hb1 kA LC
      go_wp2_with fail
      refine (LB.out _ B1).mono ?_
      rintro e w2 ⟨rfl, hb2⟩
      have B2 := below_then B1 hb2
      have hneg : ¬ ((p.1 : Int) < 0) := by omega
      clear hb2 LB q0 q1 q2 q3
      go_wp2_with fail
      go_ret2
      exact ⟨by simp [hneg], B2⟩
end Go.Proofs.Ytiodkmddmgjikaa
namespace Go.Proofs.Ytiodkmddmgjikaa
set_option linter.unusedVariables false
set_option linter.unusedSimpArgs false
open Go.RowKit

def costsF (c : Cr) (ch : List Int) : List Int := (List.range ch.length).map fun (u : Nat) => paysF c ch u
theorem costsF_len (c : Cr) (ch : List Int) : (costsF c ch).length = ch.length := by simp [costsF]
theorem costsF_get {c : Cr} {ch : List Int} {k : Nat} (h : k < ch.length) : (costsF c ch)[k]? = some (paysF c ch k) := by simp [costsF, h]
theorem costsF_take {c : Cr} {ch : List Int} {k : Nat} (h : k < ch.length) : (costsF c ch).take (k + 1) = (costsF c ch).take k ++ [paysF c ch k] := by
  rw [List.take_add_one, costsF_get h]; rfl
theorem sum_range (f : Nat → Int) : ∀ n : Nat, ((List.range n).map f).sum = sumR f n
  | 0 => rfl
  | n + 1 => by rw [List.range_succ, List.map_append, List.sum_append, sum_range f n, sumR]; simp
theorem wsum_costs {c : Cr} {ch : List Int} (h : Can c ch) : wsum (costsF c ch) = totalF c ch := by
  have h8 := h.v.u8
  have hl := h.len
  have := wsum_eq (costsF c ch) 800000 (by omega) (fun x hx => by
    obtain ⟨u, _, rfl⟩ := List.mem_map.1 hx
    exact pays_bd h.v ch u) (by rw [costsF_len]; omega)
  rw [this.1, costsF, sum_range, totalF]
  congr 1
  omega
set_option maxRecDepth 10000 in
set_option maxHeartbeats 4000000 in
theorem costs_any (w : World) (U : Int) (n : Nat) (a2 : Option Addr) (c2 : Nat) (x2 : List Int) (a3 : Option Addr) (c3 : Nat) (x3 : List Int) (a : Option Addr) (c : Nat) (ch : List Int) (h : RdCrowd w w.heap.size a2 x2 a3 x3) (g : Rd w w.heap.size a (ints ch)) (hc : Can ⟨U, n, x2, x3⟩ ch) :
    Calls Try.prog 30 #[.agg #[.int .i64 U, .int .i64 n, .slice a2 x2.length c2, .slice a3 x3.length c3], .slice a ch.length c] w fun e w' => ∃ a' c', e = .returned (.slice a' ch.length c') ∧ OwnI 2 w' w.heap.size w'.heap.size a' c' (costsF ⟨U, n, x2, x3⟩ ch) ∧ Below w.heap.size w w' := by
  have hUl : (ch.length : Int) = U := hc.len
  have hU8 : ch.length ≤ 8 := by have := hc.v.u8; simp only at this; omega
  have hU1 : 1 ≤ ch.length := by have := hc.v.u1; simp only at this; omega
  have LCl := Lib.hid (fun w' hb => clone_any w' a c ch (g.to hb) hU1 (by omega))
  have LP := Lib.hid (fun (w' : World) (g' : Nat) (tl : List Value) (cc u wy : Nat) (hA : Blk w' g' (ints ch ++ tl) 2) (hB : w.heap.size ≤ g') (hb : Below w.heap.size w w') (hu : u < ch.length) (hw : wy < x2.length) => pays_any w' w.heap.size g' tl U n a2 c2 x2 a3 c3 x3 cc ch u wy hA hB (h.below hb (Nat.le_refl _)) hc hu hw)
  have HM : Hid (∀ x ∈ ch, 0 ≤ x ∧ x < (x2.length : Int)) := hc.mem
  have Hg := Lib.hid g
  have Hlen := Lib.hid (costsF_len ⟨U, n, x2, x3⟩ ch)
  clear h g hc hUl
  generalize hC : (⟨U, (n : Int), x2, x3⟩ : Cr) = C at *
  clear hC
  go_enter Try.func30, Try.ntmps30
  go_wp2_with fail
  refine (LCl.out _ (bl1 _ _)).mono ?_
  rintro e w1 ⟨a1, c1, rfl, o1, hb1⟩
  obtain ⟨go, tl, rfl, hgo, hbg, hcc, hccm, hcl⟩ := own_open o1.1 (by omega)
  have KA := Lib.hid ((Blk.new w [.int .i64 U, .int .i64 n, .slice a2 x2.length c2, .slice a3 x3.length c3] 26).same hb1)
  have B1 := below_then (bl1 w (.cells #[.int .i64 U, .int .i64 n, .slice a2 x2.length c2, .slice a3 x3.length c3] 26)) hb1
  have KG := Lib.hid hbg
  have hgo' : w.heap.size ≤ go := by simp at hgo; omega
  have O1 : Hid ((w1.alloc (.cells #[] 2)).ownsRow w1.heap.size 2 1 (.slice (some ⟨w1.heap.size, 0, none⟩) 0 0) 0 (ints ((costsF C ch).take 0))) := own_emptyC w1 2
  have B1e := bl1 w1 (.cells #[] 2)
  have hs1 := B1.size
  clear o1 hb1 hbg LCl
  go_wp2_with fail
  go_loopw [14, 6] (fun i v wr => ∃ k : Nat, k ≤ ch.length ∧ i = .int .i64 k ∧ Hid (wr.ownsRow w1.heap.size 2 1 v k (ints ((costsF C ch).take k))) ∧ Below w1.heap.size w1 wr) (fun i _ _ => ch.length - (intOf i).toNat)
  case atStart => exact ⟨0, Nat.zero_le _, rfl, O1.out, B1e⟩
  case round =>
    clear O1 B1e
    obtain ⟨k, hk, rfl, ho, hw⟩ := hrel
    have hww := B1.trans (hw.mono hs1)
    by_cases hlt : k < ch.length
    · obtain ⟨b1, o1, x, rfl, hbb1, hck, hx⟩ := (Hg.out.below hww (Nat.le_refl _)).get hlt
      obtain ⟨x0, x8⟩ := HM.out x (List.mem_of_getElem? hx.out)
      obtain ⟨q, rfl⟩ : ∃ q : Nat, x = q := ⟨x.toNat, by omega⟩
      have hq8 : q < x2.length := by (try simp only at x8); omega
      have Hxq : ch.getD k 0 = q := getD_of_get hx.out
      have LP1 := Lib.hid (LP.out wr go tl c1 k q (KG.out.same hw) hgo' hww hlt hq8)
      have Hset : ch.set k (q : Int) = ch := by rw [← Hxq]; exact set_same ch k
      rw [Hset] at LP1
      have q0 := (KA.out.same hw).cell 0
      have q1 := (KA.out.same hw).cell 1
      have q2 := (KA.out.same hw).cell 2
      have q3 := (KA.out.same hw).cell 3
      simp only [List.getElem?_cons_zero, List.getElem?_cons_succ] at q0 q1 q2 q3
      have Hn := Lib.hid (costsF_take (c := C) hlt)
      generalize paysF C ch k = p at *
      clear hx Hxq Hset x8
      go_wp2_with fail
      refine LP1.out.mono ?_
      rintro e w2 ⟨rfl, hb2⟩
      have hw2 := hw.trans (hb2.mono hw.size)
      have ho2 := own_below ho.out hb2
      have hs2 := hw2.size
      clear hb2 LP1 q0 q1 q2 q3 hck ho hww
      go_wp2_with (at_builtin; refine wpList_append_one _ rfl _ _ 24 rfl w1.heap.size 2 (.int .i64 0) 8 Try.underlying24 info_i64p rfl _ k _ rfl ho2 (.int .i64 p) rfl rfl (by omega) (by omega) hs2 ?_)
      intro v' w3 ho3 hgr
      have hw3 := below_append hw2 ho2 hgr (Nat.le_refl _) hs2
      have HO : Hid (w3.ownsRow w1.heap.size 2 1 v' (k + 1) (ints ((costsF C ch).take (k + 1)))) := by
        rw [Hn.out, ints_append]; exact ho3
      clear ho2 ho3 hgr hw2 hw
      go_wp2_with fail
      go_roundw
      case rel => exact ⟨k + 1, by omega, by go_num, HO, hw3⟩
      case measure => simp [intOf]; omega
    · have : k = ch.length := by omega
      subst this
      obtain ⟨a1, c1', rfl, _, _⟩ := own_shape ho.out
      have HR : Hid (OwnI 2 wr w.heap.size wr.heap.size a1 c1' (costsF C ch)) := by
        have := own_base ho.out hs1
        rw [List.take_of_length_le (by rw [Hlen.out]; exact Nat.le_refl _)] at this
        exact OwnI.of_own (by rw [Hlen.out]; exact this)
      clear ho
      go_wp2_with fail
      go_ret
      exact ⟨_, _, rfl, HR.out, hww⟩
set_option maxRecDepth 10000 in
set_option maxHeartbeats 4000000 in
theorem total_any (w : World) (U : Int) (n : Nat) (a2 : Option Addr) (c2 : Nat) (x2 : List Int) (a3 : Option Addr) (c3 : Nat) (x3 : List Int) (a : Option Addr) (c : Nat) (ch : List Int) (h : RdCrowd w w.heap.size a2 x2 a3 x3) (g : Rd w w.heap.size a (ints ch)) (hc : Can ⟨U, n, x2, x3⟩ ch) :
    Calls Try.prog 31 #[.agg #[.int .i64 U, .int .i64 n, .slice a2 x2.length c2, .slice a3 x3.length c3], .slice a ch.length c] w fun e w' => e = .returned (.int .i64 (totalF ⟨U, n, x2, x3⟩ ch)) ∧ Below w.heap.size w w' := by
  have hU8 : ch.length ≤ 8 := by have := hc.v.u8; have := hc.len; simp only at *; omega
  have LC := Lib.hid (fun w' hb => costs_any w' U n a2 c2 x2 a3 c3 x3 a c ch (h.to hb) (g.to hb) hc)
  have Hs := Lib.hid (wsum_costs hc)
  have Hlen := Lib.hid (costsF_len ⟨U, n, x2, x3⟩ ch)
  clear h g hc
  generalize hC : (⟨U, (n : Int), x2, x3⟩ : Cr) = C at *
  clear hC
  generalize costsF C ch = cs at *
  generalize totalF C ch = t at *
  go_enter Try.func31, Try.ntmps31
  go_wp2_with fail
  refine (LC.out _ (bl1 _ _)).mono ?_
  rintro e w1 ⟨a1, c1, rfl, o1, hb1⟩
  have B1 := below_then (bl1 w _) hb1
  have LS := sumOf_any w1 a1 c1 cs (o1.rd.mono (Nat.le_refl _)) (by rw [Hlen.out]; omega)
  rw [Hs.out, Hlen.out] at LS
  have LS := Lib.hid LS
  clear LC o1 hb1
  go_wp2_with fail
  refine LS.out.mono ?_
  rintro e w2 ⟨rfl, rfl⟩
  go_wp2_with fail
  go_ret
  exact ⟨rfl, B1⟩
end Go.Proofs.Ytiodkmddmgjikaa
namespace Go.Proofs.Ytiodkmddmgjikaa
set_option linter.unusedVariables false
set_option linter.unusedSimpArgs false
open Go.RowKit

theorem nextAt_yes {n : Int} {ch : List Int} {k : Nat} (h : ch.getD k 0 + 1 < n) : nextAt n ch (k + 1) = (ch.set k (ch.getD k 0 + 1), true) := by rw [nextAt, if_pos h]
theorem nextAt_no {n : Int} {ch : List Int} {k : Nat} (h : ¬ ch.getD k 0 + 1 < n) : nextAt n ch (k + 1) = nextAt n (ch.set k 0) k := by rw [nextAt, if_neg h]
theorem digB_set {n : Nat} {ch : List Int} (h : digB n ch) (hn : 1 ≤ n) (k : Nat) : digB n (ch.set k 0) := fun x hx => by
  rcases List.mem_or_eq_of_mem_set hx with hx | hx
  · exact h x hx
  · subst hx; omega
theorem digB_get {n : Nat} {ch : List Int} (h : digB n ch) {k : Nat} (hk : k < ch.length) : 0 ≤ ch.getD k 0 ∧ ch.getD k 0 < n := h _ (by simp [List.getD, List.getElem?_eq_getElem hk])
theorem pow_step {L k : Nat} : L ^ (k + 1) = L ^ k * L := Nat.pow_succ L k
theorem few_no {c : Cr} (h : Valid c) {k : Nat} (hk : (k : Int) + 1 ≤ c.U) (hp : 4096 < c.ways.length ^ k * c.ways.length) : fewB c = false := by
  have h1 : c.ways.length ^ (k + 1) ≤ c.ways.length ^ c.U.toNat := Nat.pow_le_pow_right h.w1 (by omega)
  rw [pow_step] at h1
  simp only [fewB, decide_eq_false_iff_not]
  omega
end Go.Proofs.Ytiodkmddmgjikaa
namespace Go.Proofs.Ytiodkmddmgjikaa
set_option linter.unusedVariables false
set_option linter.unusedSimpArgs false
open Go.RowKit

theorem few_yes {c : Cr} {N : Nat} (hN : c.U = N) (hp : c.ways.length ^ N ≤ 4096) : fewB c = true := by
  have : c.U.toNat = N := by omega
  simp only [fewB, this, decide_eq_true_eq]
  exact hp
theorem few_not {c : Cr} {N : Nat} (hN : c.U = N) (hp : 4096 < c.ways.length ^ N) : fewB c = false := by
  have : c.U.toNat = N := by omega
  simp only [fewB, this, decide_eq_false_iff_not]
  omega
def fewN (few : Bool) (M : Nat) : Nat := if few then M else 0
theorem fewN_yes (M : Nat) : fewN true M = M := rfl
theorem fewN_no (M : Nat) : fewN false M = 0 := rfl
theorem pow_le8 {L k : Nat} (hL : L ≤ 8) (hk : k ≤ 8) : L ^ k ≤ 16777216 := by
  calc L ^ k ≤ 8 ^ k := Nat.pow_le_pow_left hL k
    _ ≤ 8 ^ 8 := Nat.pow_le_pow_right (by omega) hk
set_option maxRecDepth 10000 in
set_option maxHeartbeats 8000000 in
theorem choices_any (S : Nat → World → Prop) (K0 : Nat) (caps0 : Array Value) (hK : ∀ (args : Array Value) (w : World), (callFunc K0 args).run Try.prog w = .ok (.enter K0 args) w)
    (w : World) (N n : Nat) (a2 : Option Addr) (c2 : Nat) (x2 : List Int) (a3 : Option Addr) (c3 : Nat) (x3 : List Int) (hv : Valid ⟨N, n, x2, x3⟩)
    (hS : ∀ t w1 w2, S t w1 → w1.grownBy w2 (some (w.heap.size + 1)) → S t w2)
    (hdo : ∀ t w1 c, S t w1 → t < x2.length ^ N → w.heap.size + 2 ≤ w1.heap.size → Rd w1 w1.heap.size (some ⟨w.heap.size + 1, 0, none⟩) (ints (chAt x2.length N t)) → Calls Try.prog K0 (#[.slice (some ⟨w.heap.size + 1, 0, none⟩) N c] ++ caps0) w1 fun e w' => e = .returned (.tuple #[]) ∧ S (t + 1) w' ∧ Touch w1 w' 0 w.heap.size)
    (hs : S 0 w) :
    Calls Try.prog 37 #[.agg #[.int .i64 N, .int .i64 n, .slice a2 x2.length c2, .slice a3 x3.length c3], .func (.func K0) #[] caps0] w fun e w' => e = .returned (.bool (fewB ⟨N, n, x2, x3⟩)) ∧ S (fewN (fewB ⟨N, n, x2, x3⟩) (x2.length ^ N)) w' := by
  have hN8 : N ≤ 8 := by have := hv.u8; simp only at this; omega
  have hN1 : 1 ≤ N := by have := hv.u1; simp only at this; omega
  have hL8 : x2.length ≤ 8 := hv.w8
  have hL1 : 1 ≤ x2.length := hv.w1
  have HYes : Hid (x2.length ^ N ≤ 4096 → fewB ⟨N, n, x2, x3⟩ = true) := fun h => few_yes rfl h
  have HNo : Hid (4096 < x2.length ^ N → fewB ⟨N, n, x2, x3⟩ = false) := fun h => few_not rfl h
  have HS := Lib.hid hS
  have HD := Lib.hid hdo
  have HPw := Lib.hid (fun k (hk : k ≤ N) => pow_le8 (L := x2.length) (k := k) hL8 (by omega))
  have Hsp := Lib.hid (fun t ht => chAt_spec hL1 N t ht)
  have Hln := Lib.hid (fun t => chAt_len x2.length N t)
  have KA := Lib.hid (Blk.new w [.int .i64 N, .int .i64 n, .slice a2 x2.length c2, .slice a3 x3.length c3] 26)
  have S1 : Hid (S 0 (w.alloc (.cells #[.int .i64 N, .int .i64 n, .slice a2 x2.length c2, .slice a3 x3.length c3] 26))) := hS 0 w _ hs (below_grownBy (bl1 _ _) _)
  clear hS hdo hv hs
  generalize fewB ⟨(N : Int), (n : Int), x2, x3⟩ = few at *
  go_enter Try.func37, Try.ntmps37
  go_wp2_with fail
  go_loopw [10, 5] (fun i m wr => ∃ (k P : Nat), k ≤ N ∧ i = .int .i64 k ∧ m = .int .i64 P ∧ Hid (P = x2.length ^ k) ∧ wr = w.alloc (.cells #[.int .i64 N, .int .i64 n, .slice a2 x2.length c2, .slice a3 x3.length c3] 26)) (fun i _ _ => N - (intOf i).toNat)
  case atStart => exact ⟨0, 1, Nat.zero_le _, rfl, rfl, rfl, rfl⟩
  case round =>
    obtain ⟨k, P, hk, rfl, rfl, hP, rfl⟩ := hrel
    by_cases hlt : k < N
    · have hPb : P ≤ 16777216 := by rw [hP.out]; exact HPw.out k hk
      have hm0 : (0 : Int) ≤ (P : Int) * (x2.length : Int) := Int.mul_nonneg (by omega) (by omega)
      have hmN : P * x2.length ≤ 16777216 * 8 := Nat.mul_le_mul hPb hL8
      have hm1 : (P : Int) * (x2.length : Int) ≤ 134217728 := by
        have : ((P * x2.length : Nat) : Int) = (P : Int) * (x2.length : Int) := by simp
        omega
      have hcast : Hid (((P * x2.length : Nat) : Int) = (P : Int) * (x2.length : Int)) := by simp [Hid]
      have HP2 : Hid (P * x2.length = x2.length ^ (k + 1)) := by show _ = _; rw [pow_step, hP.out]
      clear hmN hP
      go_wp2_with fail
      go_roundw
      case rel => exact ⟨k + 1, P * x2.length, by omega, by go_num, by rw [hcast.out], HP2, by first | trivial | rfl⟩
      case measure => simp [intOf]; omega
    · have : k = N := by omega
      subst this
      have hPb : P ≤ 16777216 := by rw [hP.out]; exact HPw.out k hk
      by_cases hgt : (4096 : Int) < (P : Int)
      · have HF := Lib.hid (HNo.out (by rw [← hP.out]; omega))
        have HS0 : Hid (S (fewN few (x2.length ^ k)) (w.alloc (.cells #[.int .i64 k, .int .i64 n, .slice a2 x2.length c2, .slice a3 x3.length c3] 26))) := by rw [HF.out, fewN_no]; exact S1.out
        clear hP HYes HNo
        go_wp2_with fail
        go_ret
        exact ⟨ret_bool HF.out.symm, HS0.out⟩
      · have HF := Lib.hid (HYes.out (by rw [← hP.out]; omega))
        have HPN := Lib.hid hP.out
        clear hP HYes HNo HPw
        go_wp2_with (at_make; refine wpList_make_blk _ rfl _ _ 24 rfl 2 (.int .i64 0) 8 Try.underlying24 info_i64p rfl _ _ k rfl rfl (by omega) (by unfold maxLen; omega) ?_)
        intro w2 hb2 hw2 hs2
        try simp at hs2
        try simp at hb2
        have KB : Hid (Blk w2 (w.heap.size + 1) (ints (chAt x2.length k 0)) 2) := by rw [chAt, ← ints_replicate]; exact hb2
        have KA2 := Lib.hid (KA.out.below hw2 (by omega))
        have S2 := Lib.hid (HS.out 0 _ _ S1.out (below_grownBy (hw2.mono (by simp)) _))
        have hsz : w.heap.size + 2 ≤ w2.heap.size := by omega
        clear hb2 hw2 hs2 S1 KA
        go_wp2_with fail
        go_loopw [24] (fun i wr => ∃ t : Nat, t ≤ P ∧ i = .int .i64 t ∧ Hid (S t wr) ∧ Hid (Blk wr (w.heap.size + 1) (ints (chAt x2.length k t)) 2) ∧ Hid (Blk wr w.heap.size [.int .i64 k, .int .i64 n, .slice a2 x2.length c2, .slice a3 x3.length c3] 26) ∧ w.heap.size + 2 ≤ wr.heap.size) (fun i _ => P - (intOf i).toNat)
        case atStart => exact ⟨0, Nat.zero_le _, rfl, S2.out, KB.out, KA2.out, hsz⟩
        case round =>
          clear S2 KB KA2 hsz
          obtain ⟨t, ht, rfl, hSt, hG, hA, hsz⟩ := hrel
          by_cases htl : t < P
          · have htN : t < x2.length ^ k := by rw [← HPN.out]; exact htl
            have HD1 := Lib.hid (HD.out t wr k hSt.out htN hsz (hG.out.rd (by omega)))
            have Hdg := Lib.hid (Hsp.out t htN).1
            have Hcl := Lib.hid (Hln.out t)
            have Hnx : Hid (chAt x2.length k (t + 1) = (nextAt x2.length (chAt x2.length k t) k).1) := rfl
            have hk8 : k ≤ 8 := hN8
            clear hSt htN
            have hKK := Lib.hid hK
            go_wp2_with fail
            refine HD1.out.mono ?_
            rintro e w3 ⟨rfl, hs3, ht3⟩
            have hG3 := Lib.hid (hG.out.touch ht3 (by omega))
            have hA3 := Lib.hid (hA.out.touch ht3 (by omega))
            have hs3' := Lib.hid hs3
            have hsz3 : w.heap.size + 2 ≤ w3.heap.size := Nat.le_trans hsz ht3.size
            clear HD1 hs3 ht3 hG hA hsz
            generalize chAt x2.length k t = ct at *
            go_wp2_with fail
            go_loopw [7] (fun i wi => ∃ (m : Nat) (j : Int) (cur : List Int), m ≤ k ∧ i = .int .i64 j ∧ Hid (j + 1 = (m : Int)) ∧ Hid (cur.length = k) ∧ Hid (digB x2.length cur) ∧ Hid (nextAt x2.length ct k = nextAt x2.length cur m) ∧ Hid (Blk wi (w.heap.size + 1) (ints cur) 2) ∧ Hid (Blk wi w.heap.size [.int .i64 k, .int .i64 n, .slice a2 x2.length c2, .slice a3 x3.length c3] 26) ∧ Hid (S (t + 1) wi) ∧ w.heap.size + 2 ≤ wi.heap.size) (fun i _ => (intOf i + 1).toNat)
            case atStart => exact ⟨k, _, ct, Nat.le_refl _, rfl, by show _ = _; omega, Hcl.out, Hdg.out, rfl, hG3.out, hA3.out, hs3'.out, hsz3⟩
            case round =>
              clear hG3 hA3 hs3' hsz3 Hdg Hcl
              obtain ⟨m, j, cur, hm, rfl, hj, hcl, hd, hnx, hG, hA, hSi, hsz⟩ := hrel
              cases m with
              | zero =>
                have : j = -1 := by have := hj.out; omega
                subst this
                have HG4 : Hid (Blk wr (w.heap.size + 1) (ints (chAt x2.length k (t + 1))) 2) := by
                  show Blk _ _ _ _
                  rw [Hnx.out, hnx.out, nextAt]; exact hG.out
                clear hnx hG hd
                go_wp2_with fail
                go_roundw
                case rel => exact ⟨t + 1, by omega, by go_num, hSi.out, HG4.out, hA.out, hsz⟩
                case measure => simp [intOf]; omega
              | succ m =>
                have : j = (m : Int) := by have := hj.out; omega
                subst this
                have hkc : m < cur.length := by have := hcl.out; omega
                have e1 := hG.out.at hkc
                have f1 := hG.out.free m
                obtain ⟨y0, y1⟩ := digB_get hd.out hkc
                have Hdz := Lib.hid (digB_set hd.out hL1 m)
                have hlt : m < k := by omega
                have q2 := (hA.out.oth (g := w.heap.size + 1) (by omega) m (.int .i64 (cur.getD m 0 + 1))).cell 2
                simp only [List.getElem?_cons_zero, List.getElem?_cons_succ] at q2
                by_cases hy : cur.getD m 0 + 1 < (x2.length : Int)
                · have HF : Hid (nextAt x2.length ct k = (cur.set m (cur.getD m 0 + 1), true)) := hnx.out.trans (nextAt_yes hy)
                  have HG2 : Hid (Blk (wr.setCell ⟨w.heap.size + 1, m, none⟩ (.int .i64 (cur.getD m 0 + 1))) (w.heap.size + 1) (ints (chAt x2.length k (t + 1))) 2) := by
                    show Blk _ _ _ _
                    rw [Hnx.out, HF.out]
                    exact hG.out.setI m _
                  have HA2 := Lib.hid (hA.out.oth (g := w.heap.size + 1) (by omega) m (.int .i64 (cur.getD m 0 + 1)))
                  have HS2 := Lib.hid (HS.out _ _ _ hSi.out (setg_grown wr (w.heap.size + 1) m (.int .i64 (cur.getD m 0 + 1))))
                  have e2 := (hG.out.setI m (cur.getD m 0 + 1)).at (k := m) (by rw [List.length_set]; exact hkc)
                  have hge : (cur.set m (cur.getD m 0 + 1)).getD m 0 = cur.getD m 0 + 1 := getD_set_same hkc _
                  rw [hge] at e2
                  have hsz2 : w.heap.size + 2 ≤ (wr.setCell ⟨w.heap.size + 1, m, none⟩ (.int .i64 (cur.getD m 0 + 1))).heap.size := by simpa using hsz
                  have Hsz2 := Lib.hid hsz2
                  generalize cur.getD m 0 = y at *
                  clear hnx hG hd hkc hge hsz2 hSi hA
                  go_wp2_with fail
                  go_quiet (fail)
                  go_wp2_with fail
                  go_roundw
                  case rel => exact ⟨t + 1, by omega, by go_num, HS.out _ _ _ HS2.out (by first | exact World.grownBy.refl _ _ | exact below_grownBy (below_drewN (Below.refl _ _) _) _), HG2.out, HA2.out, Hsz2.out⟩
                  case measure => simp [intOf]; omega
                · have HF : Hid (nextAt x2.length ct k = nextAt x2.length (cur.set m 0) m) := hnx.out.trans (nextAt_no hy)
                  have hS0 := hG.out.setI m (cur.getD m 0 + 1)
                  have f2 := hS0.free m
                  have e2 := hS0.at (k := m) (by rw [List.length_set]; exact hkc)
                  have hge : (cur.set m (cur.getD m 0 + 1)).getD m 0 = cur.getD m 0 + 1 := getD_set_same hkc _
                  rw [hge] at e2
                  have HX : Hid (∀ d : Nat, Blk (((wr.setCell ⟨w.heap.size + 1, m, none⟩ (.int .i64 (cur.getD m 0 + 1))).drewN d).setCell ⟨w.heap.size + 1, m, none⟩ (.int .i64 0)) (w.heap.size + 1) (ints (cur.set m 0)) 2) := fun d => by
                    have := (hS0.drewN d).setI m 0
                    rwa [List.set_set] at this
                  have HA2 : Hid (∀ d : Nat, Blk (((wr.setCell ⟨w.heap.size + 1, m, none⟩ (.int .i64 (cur.getD m 0 + 1))).drewN d).setCell ⟨w.heap.size + 1, m, none⟩ (.int .i64 0)) w.heap.size [.int .i64 k, .int .i64 n, .slice a2 x2.length c2, .slice a3 x3.length c3] 26) := fun d => ((hA.out.oth (g := w.heap.size + 1) (by omega) m (.int .i64 (cur.getD m 0 + 1))).drewN d).oth (g := w.heap.size + 1) (by omega) m (.int .i64 0)
                  have HS2 : Hid (∀ d : Nat, S (t + 1) (((wr.setCell ⟨w.heap.size + 1, m, none⟩ (.int .i64 (cur.getD m 0 + 1))).drewN d).setCell ⟨w.heap.size + 1, m, none⟩ (.int .i64 0))) := fun d =>
                    HS.out _ _ _ (HS.out _ _ _ (HS.out _ _ _ hSi.out (setg_grown wr (w.heap.size + 1) m (.int .i64 (cur.getD m 0 + 1)))) (below_grownBy (below_drewN (Below.refl _ _) d) _)) (setg_grown _ (w.heap.size + 1) m (.int .i64 0))
                  have hcl2 : Hid ((cur.set m 0).length = k) := by rw [Hid, List.length_set]; exact hcl.out
                  generalize cur.getD m 0 = y at *
                  clear hnx hG hd hkc hge hSi hA hS0
                  go_wp2_with fail
                  go_quiet (fail)
                  go_wp2_with fail
                  go_roundw
                  case rel => exact ⟨m, (m : Int) - 1, cur.set m 0, by omega, by go_num, by show _ = _; omega, hcl2.out, Hdz.out, HF.out, HX.out _, HA2.out _, HS2.out _, by simpa using hsz⟩
                  case measure => simp [intOf]
          · have : t = P := by omega
            subst this
            have HST : Hid (S (fewN few (x2.length ^ k)) wr) := by rw [HF.out, fewN_yes, ← HPN.out]; exact hSt.out
            clear hSt hG hA
            go_wp2_with fail
            go_ret
            exact ⟨ret_bool HF.out.symm, HST.out⟩
end Go.Proofs.Ytiodkmddmgjikaa
namespace Go.Proofs.Ytiodkmddmgjikaa
set_option linter.unusedVariables false
set_option linter.unusedSimpArgs false
open Go.RowKit

def betterCF (c : Cr) (ch : List Int) : Option (List Int) := if canB c ch then betL c ch else none
theorem betterCF_no {c : Cr} {ch : List Int} (h : canB c ch = false) : betterCF c ch = none := by simp [betterCF, h]
theorem betterCF_yes {c : Cr} {ch : List Int} (h : canB c ch = true) : betterCF c ch = betL c ch := by simp [betterCF, h]
theorem betterCF_none {c : Cr} {ch : List Int} (h : canB c ch = true) (hb : betterF c ch = none) : betterCF c ch = none := by simp [betterCF, betL, h, hb]
theorem betterCF_some {c : Cr} {ch : List Int} {u k : Nat} (h : canB c ch = true) (hb : betterF c ch = some (u, k)) : betterCF c ch = some (ch.set u (k : Int)) := by simp [betterCF, betL, h, hb]
theorem betterCF_len (c : Cr) (ch : List Int) (hl : ch.length ≤ 1073741824) : ((betterCF c ch).getD []).length ≤ 1073741824 := by
  unfold betterCF
  split
  · cases h : betL c ch with
    | none => simp
    | some ys => have := betL_len h; simp; omega
  · simp
set_option maxRecDepth 10000 in
set_option maxHeartbeats 4000000 in
theorem betterC_any (w : World) (U R : Int) (a2 : Option Addr) (c2 : Nat) (x2 : List Int) (a3 : Option Addr) (c3 : Nat) (x3 : List Int) (a : Option Addr) (c : Nat) (ch : List Int) (h : RdCrowd w w.heap.size a2 x2 a3 x3) (hl2 : x2.length ≤ 1048576) (hl3 : x3.length ≤ 1048576) (g : Rd w w.heap.size a (ints ch)) (hl : ch.length ≤ 1048576) :
    Calls Try.prog 16 #[.agg #[.int .i64 U, .int .i64 R, .slice a2 x2.length c2, .slice a3 x3.length c3], .slice a ch.length c] w (RetI 2 w (betterCF ⟨U, R, x2, x3⟩ ch)) := by
  have LC := Lib.hid (fun w' hb => chosen_any w' U R a2 c2 x2 a3 c3 x3 a c ch (h.to hb) hl2 hl3 (g.to hb) hl)
  cases t1 : canB ⟨U, R, x2, x3⟩ ch with
  | false =>
    rw [betterCF_no t1]
    rw [t1] at LC
    clear h g t1
    go_enter Try.func16, Try.ntmps16
    go_wp2_with fail
    refine (LC.out _ (bl1 _ _)).mono ?_
    rintro e w1 ⟨rfl, hb1⟩
    have B1 := below_then (bl1 w _) hb1
    clear hb1
    go_wp2_with fail
    go_ret2
    exact RetI.no B1
  | true =>
    rw [t1] at LC
    have hc := can_of t1
    obtain ⟨n, rfl⟩ := roads_nat hc
    have LB := Lib.hid (fun w' hb => better_any w' U n a2 c2 x2 a3 c3 x3 a c ch (h.to hb) (g.to hb) hc)
    cases hbf : betterF ⟨U, n, x2, x3⟩ ch with
    | none =>
      rw [betterCF_none t1 hbf]
      simp only [hbf, bU, bK] at LB
      clear h g t1 hc hbf
      go_enter Try.func16, Try.ntmps16
      go_wp2_with fail
      refine (LC.out _ (bl1 _ _)).mono ?_
      rintro e w1 ⟨rfl, hb1⟩
      have kA := (Blk.new w [.int .i64 U, .int .i64 n, .slice a2 x2.length c2, .slice a3 x3.length c3] 26).same hb1
      have B1 := below_then (bl1 w (.cells #[.int .i64 U, .int .i64 n, .slice a2 x2.length c2, .slice a3 x3.length c3] 26)) hb1
      have q0 := kA.cell 0
      have q1 := kA.cell 1
      have q2 := kA.cell 2
      have q3 := kA.cell 3
      simp only [List.getElem?_cons_zero, List.getElem?_cons_succ] at q0 q1 q2 q3
      clear hb1 kA LC
      go_wp2_with fail
      refine (LB.out _ B1).mono ?_
      rintro e w2 ⟨rfl, hb2⟩
      have B2 := below_then B1 hb2
      clear hb2 LB q0 q1 q2 q3
      go_wp2_with fail
      go_ret2
      exact RetI.no B2
    | some p =>
      obtain ⟨u, k⟩ := p
      rw [betterCF_some t1 hbf]
      simp only [hbf, bU, bK] at LB
      obtain ⟨hu, _, _⟩ := better_some hbf
      have hU1 : 1 ≤ ch.length := by omega
      have LCl := Lib.hid (fun w' hb => clone_any w' a c ch (g.to hb) hU1 (by omega))
      clear h g t1 hc hbf
      go_enter Try.func16, Try.ntmps16
      go_wp2_with fail
      refine (LC.out _ (bl1 _ _)).mono ?_
      rintro e w1 ⟨rfl, hb1⟩
      have kA := (Blk.new w [.int .i64 U, .int .i64 n, .slice a2 x2.length c2, .slice a3 x3.length c3] 26).same hb1
      have B1 := below_then (bl1 w (.cells #[.int .i64 U, .int .i64 n, .slice a2 x2.length c2, .slice a3 x3.length c3] 26)) hb1
      have q0 := kA.cell 0
      have q1 := kA.cell 1
      have q2 := kA.cell 2
      have q3 := kA.cell 3
      simp only [List.getElem?_cons_zero, List.getElem?_cons_succ] at q0 q1 q2 q3
      clear hb1 kA LC
      go_wp2_with fail
      refine (LB.out _ B1).mono ?_
      rintro e w2 ⟨rfl, hb2⟩
      have B2 := below_then B1 hb2
      have hneg : ¬ ((u : Int) < 0) := by omega
      clear hb2 LB q0 q1 q2 q3 B1
      go_wp2_with fail
      refine (LCl.out _ B2).mono ?_
      rintro e w3 ⟨a1, c1, rfl, o1, hb3⟩
      have B3 := below_then B2 hb3
      have o1' := own_base o1.1 B2.size
      obtain ⟨q, tl, rfl, hq, hbq, hcc, hccm, hcl⟩ := own_open o1' (by omega)
      have f1 := hbq.free u
      have e1 := cell_app hbq (j := u) hu
      have hset := set_app hbq (j := u) hu k
      have B4 := below_sto B3 hq u (.int .i64 k)
      have HR : Hid (RetI 2 w (some (ch.set u (k : Int))) (.returned (.tuple #[.slice (some ⟨q, 0, none⟩) ch.length c1, .bool true])) (w3.setCell ⟨q, u, none⟩ (.int .i64 k))) := by
        refine ⟨B4, _, _, by rw [List.length_set], ?_⟩
        rw [List.length_set]
        refine own_close hset hq (by simp) hcc hccm ?_
        simp at hcl ⊢
        omega
      clear o1 o1' hb3 hbq hset LCl B2 B3 B4
      go_wp2_with fail
      go_ret2
      exact HR.out
end Go.Proofs.Ytiodkmddmgjikaa
namespace Go.Proofs.Ytiodkmddmgjikaa
set_option linter.unusedVariables false
set_option linter.unusedSimpArgs false
open Go.RowKit

def RetT (T : Nat) (w : World) (r : Option (List Int × Int)) (e : Ending) (w' : World) : Prop :=
  Below w.heap.size w w' ∧ match r with
    | none => e = .returned (.tuple #[.slice none 0 0, .int .i64 0, .bool false])
    | some (ys, m) => ∃ a c, e = .returned (.tuple #[.slice a ys.length c, .int .i64 m, .bool true]) ∧ w'.ownsRow w.heap.size T 1 (.slice a ys.length c) ys.length (ints ys)
theorem RetT.no {T : Nat} {w w' : World} (h : Below w.heap.size w w') : RetT T w none (.returned (.tuple #[.slice none 0 0, .int .i64 0, .bool false])) w' := ⟨h, rfl⟩
theorem flat_ofT {f : Nat} {args : Array Value} {w : World} {T : Nat} {r : Option (List Int × Int)} (h : Calls Try.prog f args w (RetT T w r)) :
    Calls Try.prog f args w fun e w' => ∃ a c, e = .returned (.tuple #[.slice a ((r.map Prod.fst).getD []).length c, .int .i64 ((r.map Prod.snd).getD 0), .bool r.isSome]) ∧ OwnI T w' w.heap.size w'.heap.size a c ((r.map Prod.fst).getD []) ∧ Below w.heap.size w w' := by
  refine h.mono fun e w' hR => ?_
  obtain ⟨hb, h2⟩ := hR
  cases r with
  | none => exact ⟨none, 0, h2, OwnI.of_own (World.ownsRow_nil _ _ _ _), hb⟩
  | some p =>
    obtain ⟨ys, m⟩ := p
    obtain ⟨a, c, he, ho⟩ := h2
    exact ⟨a, c, he, OwnI.of_own ho, hb⟩
end Go.Proofs.Ytiodkmddmgjikaa
namespace Go.Proofs.Ytiodkmddmgjikaa
set_option linter.unusedVariables false
set_option linter.unusedSimpArgs false
open Go.RowKit

def restOF (c : Cr) (ch : List Int) : Option (List Int × Int) := if canB c ch then some ((restF c ch).1, ((restF c ch).2 : Int)) else none
theorem restOF_no {c : Cr} {ch : List Int} (h : canB c ch = false) : restOF c ch = none := by simp [restOF, h]
theorem restOF_yes {c : Cr} {ch : List Int} (h : canB c ch = true) : restOF c ch = some ((restF c ch).1, ((restF c ch).2 : Int)) := by simp [restOF, h]
theorem restF_len {c : Cr} {ch : List Int} (h : Can c ch) : (restF c ch).1.length = ch.length := by
  have h1 := (restF_rest h).1.len
  have h2 := h.len
  omega
theorem restOF_len (c : Cr) (ch : List Int) (hl : ch.length ≤ 1073741824) : (((restOF c ch).map Prod.fst).getD []).length ≤ 1073741824 := by
  cases h : canB c ch with
  | false => rw [restOF_no h]; simp
  | true => rw [restOF_yes h]; simpa [restF_len (can_of h)] using hl
theorem measF_bd {c : Cr} {ch : List Int} (h : Can c ch) : measF c ch ≤ 12800000 := by
  have := pot_bd h
  unfold measF
  omega
/-- How far the way to rest is. -/
structure OnWay (c : Cr) (ch cur : List Int) (k : Nat) : Prop where
  can : Can c cur
  meas : k + measF c cur ≤ 12800000
  len : cur.length = ch.length
  to : restF c ch = ((restF c cur).1, (restF c cur).2 + k)
theorem OnWay.start {c : Cr} {ch : List Int} (h : Can c ch) : OnWay c ch ch 0 := ⟨h, by have := measF_bd h; omega, rfl, rfl⟩
theorem OnWay.step {c : Cr} {ch cur : List Int} {k u v : Nat} (h : OnWay c ch cur k) (hb : betterF c cur = some (u, v)) : OnWay c ch (cur.set u (v : Int)) (k + 1) := by
  have h1 := better_some hb
  have h2 := meas_step h.can hb
  refine ⟨h.can.set h1.2.1, by have := h.meas; omega, by rw [List.length_set, h.len], ?_⟩
  rw [h.to, restF_some h.can hb]
  simp only [Prod.mk.injEq, true_and]
  omega
theorem OnWay.done {c : Cr} {ch cur : List Int} {k : Nat} (h : OnWay c ch cur k) (hb : betterF c cur = none) : restF c ch = (cur, k) := by
  rw [h.to, restF_none hb]
  simp
set_option maxRecDepth 10000 in
set_option maxHeartbeats 4000000 in
theorem restOf_any (w : World) (U R : Int) (a2 : Option Addr) (c2 : Nat) (x2 : List Int) (a3 : Option Addr) (c3 : Nat) (x3 : List Int) (a : Option Addr) (c : Nat) (ch : List Int) (h : RdCrowd w w.heap.size a2 x2 a3 x3) (hl2 : x2.length ≤ 1048576) (hl3 : x3.length ≤ 1048576) (g : Rd w w.heap.size a (ints ch)) (hl : ch.length ≤ 1048576) :
    Calls Try.prog 11 #[.agg #[.int .i64 U, .int .i64 R, .slice a2 x2.length c2, .slice a3 x3.length c3], .slice a ch.length c] w (RetT 2 w (restOF ⟨U, R, x2, x3⟩ ch)) := by
  have LC := Lib.hid (fun w' hb => chosen_any w' U R a2 c2 x2 a3 c3 x3 a c ch (h.to hb) hl2 hl3 (g.to hb) hl)
  cases t1 : canB ⟨U, R, x2, x3⟩ ch with
  | false =>
    rw [restOF_no t1]
    rw [t1] at LC
    clear h g t1
    go_enter Try.func11, Try.ntmps11
    go_wp2_with fail
    refine (LC.out _ (bl1 _ _)).mono ?_
    rintro e w1 ⟨rfl, hb1⟩
    have B1 := below_then (bl1 w _) hb1
    clear hb1
    go_wp2_with fail
    go_ret3
    exact RetT.no B1
  | true =>
    rw [restOF_yes t1]
    rw [t1] at LC
    have hc := can_of t1
    have hU1 : 1 ≤ ch.length := by have := hc.v.u1; have := hc.len; simp only at *; omega
    obtain ⟨n, rfl⟩ := roads_nat hc
    have LB := Lib.hid (fun w' a' c' cur hb hr hcan => better_any w' U n a2 c2 x2 a3 c3 x3 a' c' cur (h.to hb) hr hcan)
    have LCl := Lib.hid (fun w' hb => clone_any w' a c ch (g.to hb) hU1 (by omega))
    have Hst : Hid (OnWay ⟨U, n, x2, x3⟩ ch ch 0) := OnWay.start hc
    clear h g t1 hc
    generalize hC : (⟨U, (n : Int), x2, x3⟩ : Cr) = C at *
    clear hC
    go_enter Try.func11, Try.ntmps11
    go_wp2_with fail
    refine (LC.out _ (bl1 _ _)).mono ?_
    rintro e w1 ⟨rfl, hb1⟩
    have kA := (Blk.new w [.int .i64 U, .int .i64 n, .slice a2 x2.length c2, .slice a3 x3.length c3] 26).same hb1
    have B1 := below_then (bl1 w (.cells #[.int .i64 U, .int .i64 n, .slice a2 x2.length c2, .slice a3 x3.length c3] 26)) hb1
    have s1 : w.heap.size < w1.heap.size := by have := hb1.size; simp at this; omega
    clear hb1 LC
    go_wp2_with fail
    refine (LCl.out _ B1).mono ?_
    rintro e w2 ⟨a1, c1, rfl, o1, hb2⟩
    obtain ⟨q, tl, rfl, hq, hbq, hcc, hccm, hcl⟩ := own_open o1.1 (by omega)
    have KA := Lib.hid (kA.same hb2)
    have KQ := Lib.hid hbq
    have B2 := below_then B1 hb2
    have hqw : w.heap.size < q := by omega
    clear hb2 o1 hbq kA B1 LCl hq s1
    go_wp2_with fail
    go_loopw [8] (fun i wr => ∃ (k : Nat) (cur : List Int), i = .int .i64 k ∧ Hid (OnWay C ch cur k) ∧ Hid (Blk wr q (ints cur ++ tl) 2) ∧ Hid (Blk wr w.heap.size [.int .i64 U, .int .i64 n, .slice a2 x2.length c2, .slice a3 x3.length c3] 26) ∧ Below w.heap.size w wr) (fun i _ => 12800001 - (intOf i).toNat)
    case atStart => exact ⟨0, ch, rfl, Hst.out, KQ.out, KA.out, B2⟩
    case round =>
      clear KA KQ B2 Hst
      obtain ⟨k, cur, rfl, hway, hG, hA, hw⟩ := hrel
      have hm := hway.out.meas
      have hcl2 := Lib.hid hway.out.len
      have q0 := hA.out.cell 0
      have q1 := hA.out.cell 1
      have q2 := hA.out.cell 2
      have q3 := hA.out.cell 3
      simp only [List.getElem?_cons_zero, List.getElem?_cons_succ] at q0 q1 q2 q3
      have hqs : q < wr.heap.size := hG.out.lt
      have LB1 := Lib.hid (LB.out wr (some ⟨q, 0, none⟩) c1 cur hw (rd_app hG.out hqs) hway.out.can)
      rw [hcl2.out] at LB1
      cases hbf : betterF C cur with
      | none =>
        have hdone := Lib.hid (hway.out.done hbf)
        simp only [hbf, bU, bK] at LB1
        clear hway hbf
        go_wp2_with fail
        refine LB1.out.mono ?_
        rintro e w3 ⟨rfl, hb3⟩
        have B3 := hw.trans (hb3.mono hw.size)
        have HR : Hid (RetT 2 w (some ((restF C ch).1, ((restF C ch).2 : Int))) (.returned (.tuple #[.slice (some ⟨q, 0, none⟩) ch.length c1, .int .i64 k, .bool true])) w3) := by
          rw [hdone.out]
          refine ⟨B3, _, _, by rw [hcl2.out], ?_⟩
          rw [hcl2.out]
          refine own_close (hG.out.same hb3) (by omega) (by simp [hcl2.out]) hcc hccm ?_
          simp [hcl2.out] at hcl ⊢
          omega
        clear hb3 LB1 B3 hG hA hw q0 q1 q2 q3
        go_wp2_with fail
        go_ret3
        exact HR.out
      | some p =>
        obtain ⟨u, v⟩ := p
        have hstep := Lib.hid (hway.out.step hbf)
        obtain ⟨hu, _, _⟩ := better_some hbf
        simp only [hbf, bU, bK] at LB1
        have hu2 : u < ch.length := by have := hcl2.out; omega
        clear hway hbf
        go_wp2_with fail
        refine LB1.out.mono ?_
        rintro e w3 ⟨rfl, hb3⟩
        have B3 := hw.trans (hb3.mono hw.size)
        have hneg : ¬ ((u : Int) < 0) := by omega
        have kQ := hG.out.same hb3
        have f1 := kQ.free u
        have e1 := cell_app kQ (j := u) hu
        have KQ2 := Lib.hid (set_app kQ (j := u) hu v)
        have KA2 := Lib.hid ((hA.out.same hb3).oth (g := q) (by omega) u (.int .i64 v))
        have B4 := below_sto B3 (g := q) (by omega) u (.int .i64 v)
        clear hb3 LB1 B3 hG hA hw q0 q1 q2 q3 kQ
        go_wp2_with fail
        go_roundw
        case rel => exact ⟨k + 1, cur.set u (v : Int), by go_num, hstep.out, KQ2.out, KA2.out, B4⟩
        case measure => simp [intOf]; omega
end Go.Proofs.Ytiodkmddmgjikaa
namespace Go.Proofs.Ytiodkmddmgjikaa
set_option linter.unusedVariables false
set_option linter.unusedSimpArgs false
open Go.RowKit

theorem own_some' {w : World} {base e n c : Nat} {a : Option Addr} {xs : List Value} (h : w.ownsRow base e 1 (.slice a n c) n xs) (hn : 0 < n) : ∃ g, a = some ⟨g, 0, none⟩ := by
  rcases h.2 with ⟨_, h3⟩ | ⟨g, cap, cur, hv, _⟩
  · omega
  · injection hv with ha _ _; exact ⟨g, ha⟩
def mostOf : Best → Int
  | none => 0
  | some p => p.2
def BestV (w : World) (base : Nat) : Best → Value → Prop
  | none, v => v = .slice none 0 0
  | some (l, _), v => 0 < l.length ∧ ∃ a c, v = .slice a l.length c ∧ w.ownsRow (base + 2) 2 1 (.slice a l.length c) l.length (ints l)
/-- What holds while choices are looked at, one after another. -/
structure ES (W : World) (base : Nat) (cs : List Value) (s : Best) (w : World) : Prop where
  cr : Blk w W.heap.size cs 26
  be : ∃ v, Blk w (W.heap.size + 1) [v] 24 ∧ BestV w base s v
  mo : Blk w (W.heap.size + 2) [.int .i64 (mostOf s)] 2
  bel : Below W.heap.size W w
section
variable {W : World} {base : Nat} {cs : List Value} {s : Best} {w w' : World}
theorem BestV.keep {v : Value} (h : BestV w base s v) {r : Option Nat} (hg : w.grownBy w' r) (hr : ∀ k, r = some k → k < base + 2) : BestV w' base s v := by
  cases s with
  | none => exact h
  | some p =>
    obtain ⟨l, m⟩ := p
    obtain ⟨h0, a, c, rfl, ho⟩ := h
    refine ⟨h0, a, c, rfl, ho.kept hg ?_⟩
    cases hb : (Value.slice a l.length c).ownBlock with
    | none => exact .inl rfl
    | some g =>
      refine .inr fun e => ?_
      have h1 := (ho.lt g hb).1
      have h2 := hr g e.symm
      omega
theorem ES.keep (h : ES W base cs s w) (hb : Below w.heap.size w w') : ES W base cs s w' := by
  obtain ⟨v, hv, hbv⟩ := h.be
  exact ⟨h.cr.same hb, ⟨v, hv.same hb, hbv.keep (below_grownBy hb none) (fun k hk => by cases hk)⟩, h.mo.same hb, h.bel.trans (hb.mono h.bel.size)⟩
theorem ES.frame (h : ES W base cs s w) (hg : w.grownBy w' (some (base + 1))) (hb : W.heap.size + 3 ≤ base) : ES W base cs s w' := by
  obtain ⟨v, hv, hbv⟩ := h.be
  exact ⟨h.cr.grown hg (by intro e; injection e; omega), ⟨v, hv.grown hg (by intro e; injection e; omega), hbv.keep hg (fun k hk => by injection hk; omega)⟩, h.mo.grown hg (by intro e; injection e; omega), h.bel.grown hg h.bel.size (fun q hq => by injection hq with hq; omega)⟩
theorem ES.store (h : ES W base cs s w) (hb : W.heap.size + 3 ≤ base) {a : Option Addr} {c : Nat} {l : List Int} (h0 : 0 < l.length) (ho : w.ownsRow (base + 2) 2 1 (.slice a l.length c) l.length (ints l)) (t : Int) :
    ES W base cs (some (l, t)) ((w.setCell ⟨W.heap.size + 1, 0, none⟩ (.slice a l.length c)).setCell ⟨W.heap.size + 2, 0, none⟩ (.int .i64 t)) := by
  obtain ⟨v, hv, hbv⟩ := h.be
  refine ⟨(h.cr.oth (by omega) _ _).oth (by omega) _ _, ⟨.slice a l.length c, (hv.set 0 _).oth (by omega) _ _, h0, a, c, rfl, ?_⟩, (h.mo.oth (g := W.heap.size + 1) (by omega) _ _).set 0 _, below_sto (below_sto h.bel (by omega) _ _) (by omega) _ _⟩
  have hne : ∀ q, q < base + 2 → some q ≠ (Value.slice a l.length c).ownBlock := fun q hq e => by
    have := (ho.lt q e.symm).1
    omega
  have k1 := ho.kept (setg_grown w (W.heap.size + 1) 0 (.slice a l.length c)) (.inr (fun e => hne _ (by omega) e.symm))
  exact k1.kept (setg_grown _ (W.heap.size + 2) 0 (.int .i64 t)) (.inr (fun e => hne _ (by omega) e.symm))
theorem touch_store {w w3 : World} (hb : Below w.heap.size w w3) {p q base : Nat} (hp : p < base) (hq : q < base) (u v : Value) : Touch w ((w3.setCell ⟨p, 0, none⟩ u).setCell ⟨q, 0, none⟩ v) 0 base :=
  ((Below.touch hb 0 base).trans (Touch.of_grown (setg_grown w3 p 0 u) (Nat.zero_le _) hp)).trans (Touch.of_grown (setg_grown _ q 0 v) (Nat.zero_le _) hq)
end
theorem enter_worst (args : Array Value) (w : World) : (callFunc 39 args).run Try.prog w = .ok (.enter 39 args) w := by kernel_rfl
set_option maxRecDepth 10000 in
set_option maxHeartbeats 8000000 in
theorem worst1_any (W : World) (base : Nat) (N n : Nat) (a2 : Option Addr) (c2 : Nat) (x2 : List Int) (a3 : Option Addr) (c3 : Nat) (x3 : List Int) (h0 : RdCrowd W W.heap.size a2 x2 a3 x3) (hB : W.heap.size + 3 ≤ base)
    (s : Best) (ch : List Int) (w : World) (c : Nat) (hs : ES W base [.int .i64 N, .int .i64 n, .slice a2 x2.length c2, .slice a3 x3.length c3] s w) (hw : base + 2 ≤ w.heap.size) (hc : Can ⟨N, n, x2, x3⟩ ch) (g : Rd w w.heap.size (some ⟨base + 1, 0, none⟩) (ints ch)) :
    Calls Try.prog 39 #[.slice (some ⟨base + 1, 0, none⟩) ch.length c, .pointer (some ⟨W.heap.size, 0, none⟩), .pointer (some ⟨W.heap.size + 1, 0, none⟩), .pointer (some ⟨W.heap.size + 2, 0, none⟩)] w
      fun e w' => e = .returned (.tuple #[]) ∧ ES W base [.int .i64 N, .int .i64 n, .slice a2 x2.length c2, .slice a3 x3.length c3] (worstStep ⟨N, n, x2, x3⟩ ch s) w' ∧ Touch w w' 0 base := by
  have hU1 : 1 ≤ ch.length := by have := hc.v.u1; have := hc.len; simp only at *; omega
  have hU8 : ch.length ≤ 8 := by have := hc.v.u8; have := hc.len; simp only at *; omega
  have hR : RdCrowd w w.heap.size a2 x2 a3 x3 := (h0.below hs.bel (Nat.le_refl _)).mono hs.bel.size
  have LB := Lib.hid (better_any w N n a2 c2 x2 a3 c3 x3 (some ⟨base + 1, 0, none⟩) c ch hR g hc)
  have LT := Lib.hid (fun w' hb => total_any w' N n a2 c2 x2 a3 c3 x3 (some ⟨base + 1, 0, none⟩) c ch (hR.to hb) (g.to hb) hc)
  have LCl := Lib.hid (fun w' hb => clone_any w' (some ⟨base + 1, 0, none⟩) c ch (g.to hb) hU1 (by omega))
  have hen := fun (w : World) (a : Option Addr) (n c : Nat) => Lib.run_eql_slice_nil (P := Try.prog) w 24 2 a n c 0 0 Try.underlying24
  have HS := Lib.hid hs
  have q0 := hs.cr.cell 0
  have q1 := hs.cr.cell 1
  have q2 := hs.cr.cell 2
  have q3 := hs.cr.cell 3
  simp only [List.getElem?_cons_zero, List.getElem?_cons_succ] at q0 q1 q2 q3
  have Hdf : Hid (∀ s', worstStep ⟨N, n, x2, x3⟩ ch s' = if (betterF ⟨N, n, x2, x3⟩ ch).isSome then s' else match s' with
    | none => some (ch, totalF ⟨N, n, x2, x3⟩ ch)
    | some (b, m) => if m < totalF ⟨N, n, x2, x3⟩ ch then some (ch, totalF ⟨N, n, x2, x3⟩ ch) else some (b, m)) := fun s' => rfl
  clear hs h0 hR g hc
  generalize hst : worstStep ⟨(N : Int), (n : Int), x2, x3⟩ ch = ws at *
  clear hst
  generalize hC : (⟨(N : Int), (n : Int), x2, x3⟩ : Cr) = C at *
  clear hC
  generalize totalF C ch = tt at *
  cases hbf : betterF C ch with
  | some p =>
    have HE : Hid (ws s = s) := by show _ = _; rw [Hdf.out, hbf]; rfl
    simp only [hbf, bU, bK] at LB
    clear hbf Hdf LT LCl
    have hpos : (0 : Int) ≤ (p.1 : Int) := Int.natCast_nonneg _
    go_enter Try.func39, Try.ntmps39
    go_wp2_with fail
    refine LB.out.mono ?_
    rintro e w1 ⟨rfl, hb1⟩
    have HF : Hid (ES W base [.int .i64 N, .int .i64 n, .slice a2 x2.length c2, .slice a3 x3.length c3] (ws s) w1 ∧ Touch w w1 0 base) := by
      rw [HE.out]; exact ⟨HS.out.keep hb1, Below.touch hb1 0 base⟩
    clear hb1 LB
    go_wp2_with fail
    first | go_end0 | (refine bodyPost_ret (results_none rfl _ _ _) rfl ?_)
    exact ⟨rfl, HF.out⟩
  | none =>
    simp only [hbf, bU, bK] at LB
    have hN : Hid (ws none = some (ch, tt)) := by show _ = _; rw [Hdf.out, hbf]; rfl
    have hY : Hid (∀ b m, m < tt → ws (some (b, m)) = some (ch, tt)) := fun b m hm => by rw [Hdf.out, hbf]; simp [hm]
    have hZ : Hid (∀ b m, ¬ m < tt → ws (some (b, m)) = some (b, m)) := fun b m hm => by rw [Hdf.out, hbf]; simp [hm]
    clear hbf Hdf
    have HC : Hid (∀ s' w1, ES W base [.int .i64 N, .int .i64 n, .slice a2 x2.length c2, .slice a3 x3.length c3] s' w1 → ws s' = some (ch, tt) → Below w.heap.size w w1 → ∀ a1 c1, w1.ownsRow (base + 2) 2 1 (.slice a1 ch.length c1) ch.length (ints ch) →
        ES W base [.int .i64 N, .int .i64 n, .slice a2 x2.length c2, .slice a3 x3.length c3] (ws s') ((w1.setCell ⟨W.heap.size + 1, 0, none⟩ (.slice a1 ch.length c1)).setCell ⟨W.heap.size + 2, 0, none⟩ (.int .i64 tt)) ∧ Touch w ((w1.setCell ⟨W.heap.size + 1, 0, none⟩ (.slice a1 ch.length c1)).setCell ⟨W.heap.size + 2, 0, none⟩ (.int .i64 tt)) 0 base) := fun s' w1 hs' he hb a1 c1 ho => by
      rw [he]; exact ⟨hs'.store hB (by omega) ho tt, touch_store hb (by omega) (by omega) _ _⟩
    cases s with
    | none =>
      go_enter Try.func39, Try.ntmps39
      go_wp2_with fail
      refine LB.out.mono ?_
      rintro e w1 ⟨rfl, hb1⟩
      have HS1 := Lib.hid (HS.out.keep hb1)
      have k0 := HS1.out.cr.cell 0
      have k1 := HS1.out.cr.cell 1
      have k2 := HS1.out.cr.cell 2
      have k3 := HS1.out.cr.cell 3
      simp only [List.getElem?_cons_zero, List.getElem?_cons_succ] at k0 k1 k2 k3
      clear LB q0 q1 q2 q3
      go_wp2_with fail
      refine (LT.out _ hb1).mono ?_
      rintro e w2 ⟨rfl, hb2⟩
      have B2 := below_then hb1 hb2
      have HS2 := Lib.hid (HS1.out.keep hb2)
      obtain ⟨v, hv, hbv⟩ := HS2.out.be
      have hv0 : v = .slice none 0 0 := hbv
      subst hv0
      have e1 := hv.cell 0
      have e2 := HS2.out.mo.cell 0
      simp only [List.getElem?_cons_zero] at e1 e2
      clear hv hbv hb2 hb1 HS1 k0 k1 k2 k3
      go_wp2_with fail
      refine (LCl.out _ B2).mono ?_
      rintro e w3 ⟨a1, c1, rfl, o3, hb3⟩
      have B3 := below_then B2 hb3
      have HS3 := HS2.out.keep hb3
      obtain ⟨v, hv, hbv⟩ := HS3.be
      have f1 := hv.free 0
      have f2 := HS3.mo.free 0
      have g1 := hv.cell 0
      have g2 := HS3.mo.cell 0
      simp only [List.getElem?_cons_zero] at g1 g2
      have HF := Lib.hid (HC.out none w3 HS3 hN.out B3 a1 c1 (own_base o3.1 (by have := B2.size; omega)))
      clear o3 hb3 B3 HS3 hv hbv HS2 LCl
      go_wp2_with fail
      go_end0
      exact ⟨rfl, HF.out⟩
    | some p =>
      obtain ⟨bl, m⟩ := p
      by_cases hm : m < tt
      · go_enter Try.func39, Try.ntmps39
        go_wp2_with fail
        refine LB.out.mono ?_
        rintro e w1 ⟨rfl, hb1⟩
        have HS1 := Lib.hid (HS.out.keep hb1)
        have k0 := HS1.out.cr.cell 0
        have k1 := HS1.out.cr.cell 1
        have k2 := HS1.out.cr.cell 2
        have k3 := HS1.out.cr.cell 3
        simp only [List.getElem?_cons_zero, List.getElem?_cons_succ] at k0 k1 k2 k3
        clear LB q0 q1 q2 q3
        go_wp2_with fail
        refine (LT.out _ hb1).mono ?_
        rintro e w2 ⟨rfl, hb2⟩
        have B2 := below_then hb1 hb2
        have HS2 := Lib.hid (HS1.out.keep hb2)
        obtain ⟨v, hv, hbv⟩ := HS2.out.be
        obtain ⟨hbl, a', c', rfl, hob⟩ := hbv
        obtain ⟨g', rfl⟩ := own_some' hob hbl
        have e1 := hv.cell 0
        have e2 : w2.cell? ⟨W.heap.size + 2, 0, none⟩ = some (.int .i64 m) := HS2.out.mo.cell 0
        simp only [List.getElem?_cons_zero] at e1
        clear hv hob hb2 hb1 HS1 k0 k1 k2 k3
        go_wp2_with fail
        refine (LCl.out _ B2).mono ?_
        rintro e w3 ⟨a1, c1, rfl, o3, hb3⟩
        have B3 := below_then B2 hb3
        have HS3 := HS2.out.keep hb3
        obtain ⟨v, hv, hbv⟩ := HS3.be
        have f1 := hv.free 0
        have f2 := HS3.mo.free 0
        have g1 := hv.cell 0
        have g2 := HS3.mo.cell 0
        simp only [List.getElem?_cons_zero] at g1 g2
        have HF := Lib.hid (HC.out (some (bl, m)) w3 HS3 (hY.out bl m hm) B3 a1 c1 (own_base o3.1 (by have := B2.size; omega)))
        clear o3 hb3 B3 HS3 hv hbv HS2 LCl e1 e2
        go_wp2_with fail
        go_end0
        exact ⟨rfl, HF.out⟩
      · go_enter Try.func39, Try.ntmps39
        go_wp2_with fail
        refine LB.out.mono ?_
        rintro e w1 ⟨rfl, hb1⟩
        have HS1 := Lib.hid (HS.out.keep hb1)
        have k0 := HS1.out.cr.cell 0
        have k1 := HS1.out.cr.cell 1
        have k2 := HS1.out.cr.cell 2
        have k3 := HS1.out.cr.cell 3
        simp only [List.getElem?_cons_zero, List.getElem?_cons_succ] at k0 k1 k2 k3
        clear LB q0 q1 q2 q3
        go_wp2_with fail
        refine (LT.out _ hb1).mono ?_
        rintro e w2 ⟨rfl, hb2⟩
        have B2 := below_then hb1 hb2
        have HS2 := Lib.hid (HS1.out.keep hb2)
        obtain ⟨v, hv, hbv⟩ := HS2.out.be
        obtain ⟨hbl, a', c', rfl, hob⟩ := hbv
        obtain ⟨g', rfl⟩ := own_some' hob hbl
        have e1 := hv.cell 0
        have e2 : w2.cell? ⟨W.heap.size + 2, 0, none⟩ = some (.int .i64 m) := HS2.out.mo.cell 0
        simp only [List.getElem?_cons_zero] at e1
        have HF : Hid (ES W base [.int .i64 N, .int .i64 n, .slice a2 x2.length c2, .slice a3 x3.length c3] (ws (some (bl, m))) w2 ∧ Touch w w2 0 base) := by
          rw [hZ.out bl m hm]; exact ⟨HS2.out, Below.touch B2 0 base⟩
        clear hv hob hb2 hb1 HS1 k0 k1 k2 k3 HS2
        go_wp2_with fail
        first | go_end0 | (refine bodyPost_ret (results_none rfl _ _ _) rfl ?_)
        exact ⟨rfl, HF.out⟩
end Go.Proofs.Ytiodkmddmgjikaa
namespace Go.Proofs.Ytiodkmddmgjikaa
set_option linter.unusedVariables false
set_option linter.unusedSimpArgs false
open Go.RowKit

theorem enter_least (args : Array Value) (w : World) : (callFunc 38 args).run Try.prog w = .ok (.enter 38 args) w := by kernel_rfl
set_option maxRecDepth 10000 in
set_option maxHeartbeats 8000000 in
theorem least1_any (W : World) (base : Nat) (N n : Nat) (a2 : Option Addr) (c2 : Nat) (x2 : List Int) (a3 : Option Addr) (c3 : Nat) (x3 : List Int) (h0 : RdCrowd W W.heap.size a2 x2 a3 x3) (hB : W.heap.size + 3 ≤ base)
    (s : Best) (ch : List Int) (w : World) (c : Nat) (hs : ES W base [.int .i64 N, .int .i64 n, .slice a2 x2.length c2, .slice a3 x3.length c3] s w) (hw : base + 2 ≤ w.heap.size) (hc : Can ⟨N, n, x2, x3⟩ ch) (g : Rd w w.heap.size (some ⟨base + 1, 0, none⟩) (ints ch)) :
    Calls Try.prog 38 #[.slice (some ⟨base + 1, 0, none⟩) ch.length c, .pointer (some ⟨W.heap.size, 0, none⟩), .pointer (some ⟨W.heap.size + 1, 0, none⟩), .pointer (some ⟨W.heap.size + 2, 0, none⟩)] w
      fun e w' => e = .returned (.tuple #[]) ∧ ES W base [.int .i64 N, .int .i64 n, .slice a2 x2.length c2, .slice a3 x3.length c3] (leastStep ⟨N, n, x2, x3⟩ ch s) w' ∧ Touch w w' 0 base := by
  have hU1 : 1 ≤ ch.length := by have := hc.v.u1; have := hc.len; simp only at *; omega
  have hU8 : ch.length ≤ 8 := by have := hc.v.u8; have := hc.len; simp only at *; omega
  have hR : RdCrowd w w.heap.size a2 x2 a3 x3 := (h0.below hs.bel (Nat.le_refl _)).mono hs.bel.size
  have LT := Lib.hid (fun w' hb => total_any w' N n a2 c2 x2 a3 c3 x3 (some ⟨base + 1, 0, none⟩) c ch (hR.to hb) (g.to hb) hc)
  have LCl := Lib.hid (fun w' hb => clone_any w' (some ⟨base + 1, 0, none⟩) c ch (g.to hb) hU1 (by omega))
  have hen := fun (w : World) (a : Option Addr) (n c : Nat) => Lib.run_eql_slice_nil (P := Try.prog) w 24 2 a n c 0 0 Try.underlying24
  have HS := Lib.hid hs
  have q0 := hs.cr.cell 0
  have q1 := hs.cr.cell 1
  have q2 := hs.cr.cell 2
  have q3 := hs.cr.cell 3
  simp only [List.getElem?_cons_zero, List.getElem?_cons_succ] at q0 q1 q2 q3
  have Hdf : Hid (∀ s', leastStep ⟨N, n, x2, x3⟩ ch s' = match s' with
    | none => some (ch, totalF ⟨N, n, x2, x3⟩ ch)
    | some (b, m) => if totalF ⟨N, n, x2, x3⟩ ch < m then some (ch, totalF ⟨N, n, x2, x3⟩ ch) else some (b, m)) := fun s' => by cases s' <;> rfl
  clear hs h0 hR g hc
  generalize hst : leastStep ⟨(N : Int), (n : Int), x2, x3⟩ ch = ws at *
  clear hst
  generalize hC : (⟨(N : Int), (n : Int), x2, x3⟩ : Cr) = C at *
  clear hC
  generalize totalF C ch = tt at *
  have hN : Hid (ws none = some (ch, tt)) := by show _ = _; rw [Hdf.out]
  have hY : Hid (∀ b m, tt < m → ws (some (b, m)) = some (ch, tt)) := fun b m hm => by rw [Hdf.out]; simp [hm]
  have hZ : Hid (∀ b m, ¬ tt < m → ws (some (b, m)) = some (b, m)) := fun b m hm => by rw [Hdf.out]; simp [hm]
  clear Hdf
  have HC : Hid (∀ s' w1, ES W base [.int .i64 N, .int .i64 n, .slice a2 x2.length c2, .slice a3 x3.length c3] s' w1 → ws s' = some (ch, tt) → Below w.heap.size w w1 → ∀ a1 c1, w1.ownsRow (base + 2) 2 1 (.slice a1 ch.length c1) ch.length (ints ch) →
      ES W base [.int .i64 N, .int .i64 n, .slice a2 x2.length c2, .slice a3 x3.length c3] (ws s') ((w1.setCell ⟨W.heap.size + 1, 0, none⟩ (.slice a1 ch.length c1)).setCell ⟨W.heap.size + 2, 0, none⟩ (.int .i64 tt)) ∧ Touch w ((w1.setCell ⟨W.heap.size + 1, 0, none⟩ (.slice a1 ch.length c1)).setCell ⟨W.heap.size + 2, 0, none⟩ (.int .i64 tt)) 0 base) := fun s' w1 hs' he hb a1 c1 ho => by
    rw [he]; exact ⟨hs'.store hB (by omega) ho tt, touch_store hb (by omega) (by omega) _ _⟩
  cases s with
  | none =>
    go_enter Try.func38, Try.ntmps38
    go_wp2_with fail
    refine (LT.out _ (Below.refl _ _)).mono ?_
    rintro e w2 ⟨rfl, hb2⟩
    have B2 := hb2
    have HS2 := Lib.hid (HS.out.keep hb2)
    obtain ⟨v, hv, hbv⟩ := HS2.out.be
    have hv0 : v = .slice none 0 0 := hbv
    subst hv0
    have e1 := hv.cell 0
    have e2 := HS2.out.mo.cell 0
    simp only [List.getElem?_cons_zero] at e1 e2
    clear hv hbv HS q0 q1 q2 q3
    go_wp2_with fail
    refine (LCl.out _ B2).mono ?_
    rintro e w3 ⟨a1, c1, rfl, o3, hb3⟩
    have B3 := below_then B2 hb3
    have HS3 := HS2.out.keep hb3
    obtain ⟨v, hv, hbv⟩ := HS3.be
    have f1 := hv.free 0
    have f2 := HS3.mo.free 0
    have g1 := hv.cell 0
    have g2 := HS3.mo.cell 0
    simp only [List.getElem?_cons_zero] at g1 g2
    have HF := Lib.hid (HC.out none w3 HS3 hN.out B3 a1 c1 (own_base o3.1 (by have := B2.size; omega)))
    clear o3 hb3 B3 HS3 hv hbv HS2 LCl
    go_wp2_with fail
    go_end0
    exact ⟨rfl, HF.out⟩
  | some p =>
    obtain ⟨bl, m⟩ := p
    by_cases hm : tt < m
    · go_enter Try.func38, Try.ntmps38
      go_wp2_with fail
      refine (LT.out _ (Below.refl _ _)).mono ?_
      rintro e w2 ⟨rfl, hb2⟩
      have B2 := hb2
      have HS2 := Lib.hid (HS.out.keep hb2)
      obtain ⟨v, hv, hbv⟩ := HS2.out.be
      obtain ⟨hbl, a', c', rfl, hob⟩ := hbv
      obtain ⟨g', rfl⟩ := own_some' hob hbl
      have e1 := hv.cell 0
      have e2 : w2.cell? ⟨W.heap.size + 2, 0, none⟩ = some (.int .i64 m) := HS2.out.mo.cell 0
      simp only [List.getElem?_cons_zero] at e1
      clear hv hob HS q0 q1 q2 q3
      go_wp2_with fail
      refine (LCl.out _ B2).mono ?_
      rintro e w3 ⟨a1, c1, rfl, o3, hb3⟩
      have B3 := below_then B2 hb3
      have HS3 := HS2.out.keep hb3
      obtain ⟨v, hv, hbv⟩ := HS3.be
      have f1 := hv.free 0
      have f2 := HS3.mo.free 0
      have g1 := hv.cell 0
      have g2 := HS3.mo.cell 0
      simp only [List.getElem?_cons_zero] at g1 g2
      have HF := Lib.hid (HC.out (some (bl, m)) w3 HS3 (hY.out bl m hm) B3 a1 c1 (own_base o3.1 (by have := B2.size; omega)))
      clear o3 hb3 B3 HS3 hv hbv HS2 LCl e1 e2
      go_wp2_with fail
      go_end0
      exact ⟨rfl, HF.out⟩
    · go_enter Try.func38, Try.ntmps38
      go_wp2_with fail
      refine (LT.out _ (Below.refl _ _)).mono ?_
      rintro e w2 ⟨rfl, hb2⟩
      have B2 := hb2
      have HS2 := Lib.hid (HS.out.keep hb2)
      obtain ⟨v, hv, hbv⟩ := HS2.out.be
      obtain ⟨hbl, a', c', rfl, hob⟩ := hbv
      obtain ⟨g', rfl⟩ := own_some' hob hbl
      have e1 := hv.cell 0
      have e2 : w2.cell? ⟨W.heap.size + 2, 0, none⟩ = some (.int .i64 m) := HS2.out.mo.cell 0
      simp only [List.getElem?_cons_zero] at e1
      have HF : Hid (ES W base [.int .i64 N, .int .i64 n, .slice a2 x2.length c2, .slice a3 x3.length c3] (ws (some (bl, m))) w2 ∧ Touch w w2 0 base) := by
        rw [hZ.out bl m hm]; exact ⟨HS2.out, Below.touch B2 0 base⟩
      clear hv hob HS q0 q1 q2 q3 HS2
      go_wp2_with fail
      first | go_end0 | (refine bodyPost_ret (results_none rfl _ _ _) rfl ?_)
      exact ⟨rfl, HF.out⟩
end Go.Proofs.Ytiodkmddmgjikaa
namespace Go.Proofs.Ytiodkmddmgjikaa
set_option linter.unusedVariables false
set_option linter.unusedSimpArgs false
open Go.RowKit

theorem leastF_no {c : Cr} (h : validB c = false) : leastF c = none := by simp [leastF, h]
theorem worstF_no {c : Cr} (h : validB c = false) : worstF c = none := by simp [worstF, h]
theorem leastF_few {c : Cr} (h : fewB c = false) : leastF c = none := by simp [leastF, h]
theorem worstF_few {c : Cr} (h : fewB c = false) : worstF c = none := by simp [worstF, h]
theorem leastF_yes {c : Cr} (h : validB c = true) (h2 : fewB c = true) : leastF c = foldC c.ways.length c.U.toNat (leastStep c) (c.ways.length ^ c.U.toNat) := by simp [leastF, h, h2]
theorem worstF_yes {c : Cr} (h : validB c = true) (h2 : fewB c = true) : worstF c = foldC c.ways.length c.U.toNat (worstStep c) (c.ways.length ^ c.U.toNat) := by simp [worstF, h, h2]
theorem least_some' {c : Cr} (h : Valid c) : (foldC c.ways.length c.U.toNat (leastStep c) (c.ways.length ^ c.U.toNat)).isSome := by
  obtain ⟨t, ht⟩ : ∃ t, c.ways.length ^ c.U.toNat = t + 1 := ⟨c.ways.length ^ c.U.toNat - 1, by have := zero_lt h; omega⟩
  rw [ht]
  exact least_some
theorem ES.ret {W : World} {base : Nat} {cs : List Value} {l : List Int} {m : Int} {w : World} (h : ES W base cs (some (l, m)) w) (hb : W.heap.size ≤ base) :
    ∃ g c, w.cell? ⟨W.heap.size + 1, 0, none⟩ = some (.slice (some ⟨g, 0, none⟩) l.length c) ∧ w.cell? ⟨W.heap.size + 2, 0, none⟩ = some (.int .i64 m) ∧ RetT 2 W (some (l, m)) (.returned (.tuple #[.slice (some ⟨g, 0, none⟩) l.length c, .int .i64 m, .bool true])) w := by
  obtain ⟨v, hv, h0, a, c, rfl, ho⟩ := h.be
  obtain ⟨g, rfl⟩ := own_some' ho h0
  exact ⟨g, c, hv.cell 0, h.mo.cell 0, h.bel, _, _, rfl, own_base ho (by omega)⟩
theorem nat_of_valid {U R : Int} {x2 x3 : List Int} (hv : Valid ⟨U, R, x2, x3⟩) : ∃ N n : Nat, U = N ∧ R = n := ⟨U.toNat, R.toNat, by have := hv.u1; simp only at this; omega, by have := hv.r1; simp only at this; omega⟩
theorem ES.start {w w1 : World} {cs : List Value} (hb : Below (((w.alloc (.cells cs.toArray 26)).alloc (.cells #[.slice none 0 0] 24)).alloc (.cells #[.int .i64 0] 2)).heap.size (((w.alloc (.cells cs.toArray 26)).alloc (.cells #[.slice none 0 0] 24)).alloc (.cells #[.int .i64 0] 2)) w1) :
    ES w w1.heap.size cs none w1 ∧ w.heap.size + 3 ≤ w1.heap.size := by
  have k0 := (((Blk.new w cs 26).alloc (.cells #[.slice none 0 0] 24)).alloc (.cells #[.int .i64 0] 2)).same hb
  have k1 := ((Blk.new (w.alloc (.cells cs.toArray 26)) [.slice none 0 0] 24).alloc (.cells #[.int .i64 0] 2)).same hb
  have k2 := (Blk.new ((w.alloc (.cells cs.toArray 26)).alloc (.cells #[.slice none 0 0] 24)) [.int .i64 0] 2).same hb
  simp at k1 k2
  refine ⟨⟨k0, ⟨_, k1, rfl⟩, k2, below_then (bl3 _ _ _ _) hb⟩, ?_⟩
  have := hb.size
  simp at this
  omega
set_option maxRecDepth 10000 in
set_option maxHeartbeats 8000000 in
theorem least_any (w : World) (U R : Int) (a2 : Option Addr) (c2 : Nat) (x2 : List Int) (a3 : Option Addr) (c3 : Nat) (x3 : List Int) (h : RdCrowd w w.heap.size a2 x2 a3 x3) (hl2 : x2.length ≤ 1048576) (hl3 : x3.length ≤ 1048576) :
    Calls Try.prog 17 #[.agg #[.int .i64 U, .int .i64 R, .slice a2 x2.length c2, .slice a3 x3.length c3]] w (RetT 2 w (leastF ⟨U, R, x2, x3⟩)) := by
  have LV := Lib.hid (fun w' hb => validCrowd_any w' U R a2 c2 x2 a3 c3 x3 (h.to hb) hl2 hl3)
  have hen := fun (w : World) (a : Option Addr) (n c : Nat) => Lib.run_eql_slice_nil (P := Try.prog) w 24 2 a n c 0 0 Try.underlying24
  cases t1 : validB ⟨U, R, x2, x3⟩ with
  | false =>
    rw [leastF_no t1]
    rw [t1] at LV
    clear h t1
    go_enter Try.func17, Try.ntmps17
    go_wp2_with fail
    refine (LV.out _ (bl3 _ _ _ _)).mono ?_
    rintro e w1 ⟨rfl, hb1⟩
    have B1 := below_then (bl3 w _ _ _) hb1
    clear hb1
    go_wp2_with fail
    go_ret3
    exact RetT.no B1
  | true =>
    rw [t1] at LV
    have hv := valid_of t1
    obtain ⟨N, n, rfl, rfl⟩ := nat_of_valid hv
    have LP : Hid (∀ w1 : World, ES w w1.heap.size [.int .i64 N, .int .i64 n, .slice a2 x2.length c2, .slice a3 x3.length c3] none w1 ∧ w.heap.size + 3 ≤ w1.heap.size →
        Calls Try.prog 37 #[.agg #[.int .i64 N, .int .i64 n, .slice a2 x2.length c2, .slice a3 x3.length c3], .func (.func 38) #[] #[.pointer (some ⟨w.heap.size, 0, none⟩), .pointer (some ⟨w.heap.size + 1, 0, none⟩), .pointer (some ⟨w.heap.size + 2, 0, none⟩)]] w1
          fun e w' => e = .returned (.bool (fewB ⟨N, n, x2, x3⟩)) ∧ ES w w1.heap.size [.int .i64 N, .int .i64 n, .slice a2 x2.length c2, .slice a3 x3.length c3] (foldC x2.length N (leastStep ⟨N, n, x2, x3⟩) (fewN (fewB ⟨N, n, x2, x3⟩) (x2.length ^ N))) w') := fun w1 hs => by
      refine choices_any (fun t w' => ES w w1.heap.size [.int .i64 N, .int .i64 n, .slice a2 x2.length c2, .slice a3 x3.length c3] (foldC x2.length N (leastStep ⟨N, n, x2, x3⟩) t) w') _ _ enter_least w1 N n a2 c2 x2 a3 c3 x3 hv ?_ ?_ hs.1
      · intro t v1 v2 k hg
        exact k.frame hg hs.2
      · intro t v1 c k ht hsz g
        have hch : (chAt x2.length N t).length = N := chAt_len _ _ _
        have := least1_any w w1.heap.size N n a2 c2 x2 a3 c3 x3 h hs.2 (foldC x2.length N (leastStep ⟨N, n, x2, x3⟩) t) (chAt x2.length N t) v1 c k hsz (can_chAt hv ht) g
        rw [hch] at this
        exact this
    cases hf : fewB ⟨N, n, x2, x3⟩ with
    | false =>
      rw [leastF_few hf]
      rw [hf] at LP
      clear h t1 hv hf
      go_enter Try.func17, Try.ntmps17
      go_wp2_with fail
      refine (LV.out _ (bl3 _ _ _ _)).mono ?_
      rintro e w1 ⟨rfl, hb1⟩
      have HS := Lib.hid (ES.start (cs := [.int .i64 N, .int .i64 n, .slice a2 x2.length c2, .slice a3 x3.length c3]) hb1)
      have q0 := HS.out.1.cr.cell 0
      have q1 := HS.out.1.cr.cell 1
      have q2 := HS.out.1.cr.cell 2
      have q3 := HS.out.1.cr.cell 3
      simp only [List.getElem?_cons_zero, List.getElem?_cons_succ] at q0 q1 q2 q3
      clear hb1 LV
      go_wp2_with fail
      first | go_outline | skip
      refine (LP.out _ HS.out).mono ?_
      rintro e w2 ⟨rfl, hQ⟩
      have B2 := hQ.bel
      clear hQ q0 q1 q2 q3
      go_wp2_with fail
      go_ret3
      exact RetT.no B2
    | true =>
      rw [leastF_yes t1 hf]
      rw [hf] at LP
      have hsome := least_some' hv
      simp only [Int.toNat_natCast] at hsome
      rw [fewN_yes] at LP
      simp only [Int.toNat_natCast]
      generalize foldC x2.length N (leastStep ⟨(N : Int), (n : Int), x2, x3⟩) (x2.length ^ N) = r at *
      cases r with
      | none => cases hsome
      | some p =>
      obtain ⟨l, m⟩ := p
      clear h t1 hv hf hsome
      go_enter Try.func17, Try.ntmps17
      go_wp2_with fail
      refine (LV.out _ (bl3 _ _ _ _)).mono ?_
      rintro e w1 ⟨rfl, hb1⟩
      have HS := Lib.hid (ES.start (cs := [.int .i64 N, .int .i64 n, .slice a2 x2.length c2, .slice a3 x3.length c3]) hb1)
      have q0 := HS.out.1.cr.cell 0
      have q1 := HS.out.1.cr.cell 1
      have q2 := HS.out.1.cr.cell 2
      have q3 := HS.out.1.cr.cell 3
      simp only [List.getElem?_cons_zero, List.getElem?_cons_succ] at q0 q1 q2 q3
      clear hb1 LV
      go_wp2_with fail
      first | go_outline | skip
      refine (LP.out _ HS.out).mono ?_
      rintro e w2 ⟨rfl, hQ⟩
      obtain ⟨g, c, e1, e2, hR⟩ := hQ.ret (by have := HS.out.2; omega)
      have HR := Lib.hid hR
      clear hQ q0 q1 q2 q3 hR
      go_wp2_with fail
      go_quiet (fail)
      go_wp2_with fail
      go_ret3
      exact ⟨below_drewN HR.out.1 _, HR.out.2⟩
set_option maxRecDepth 10000 in
set_option maxHeartbeats 8000000 in
theorem worst_any (w : World) (U R : Int) (a2 : Option Addr) (c2 : Nat) (x2 : List Int) (a3 : Option Addr) (c3 : Nat) (x3 : List Int) (h : RdCrowd w w.heap.size a2 x2 a3 x3) (hl2 : x2.length ≤ 1048576) (hl3 : x3.length ≤ 1048576) :
    Calls Try.prog 18 #[.agg #[.int .i64 U, .int .i64 R, .slice a2 x2.length c2, .slice a3 x3.length c3]] w (RetT 2 w (worstF ⟨U, R, x2, x3⟩)) := by
  have LV := Lib.hid (fun w' hb => validCrowd_any w' U R a2 c2 x2 a3 c3 x3 (h.to hb) hl2 hl3)
  have hen := fun (w : World) (a : Option Addr) (n c : Nat) => Lib.run_eql_slice_nil (P := Try.prog) w 24 2 a n c 0 0 Try.underlying24
  cases t1 : validB ⟨U, R, x2, x3⟩ with
  | false =>
    rw [worstF_no t1]
    rw [t1] at LV
    clear h t1
    go_enter Try.func18, Try.ntmps18
    go_wp2_with fail
    refine (LV.out _ (bl3 _ _ _ _)).mono ?_
    rintro e w1 ⟨rfl, hb1⟩
    have B1 := below_then (bl3 w _ _ _) hb1
    clear hb1
    go_wp2_with fail
    go_ret3
    exact RetT.no B1
  | true =>
    rw [t1] at LV
    have hv := valid_of t1
    obtain ⟨N, n, rfl, rfl⟩ := nat_of_valid hv
    have LP : Hid (∀ w1 : World, ES w w1.heap.size [.int .i64 N, .int .i64 n, .slice a2 x2.length c2, .slice a3 x3.length c3] none w1 ∧ w.heap.size + 3 ≤ w1.heap.size →
        Calls Try.prog 37 #[.agg #[.int .i64 N, .int .i64 n, .slice a2 x2.length c2, .slice a3 x3.length c3], .func (.func 39) #[] #[.pointer (some ⟨w.heap.size, 0, none⟩), .pointer (some ⟨w.heap.size + 1, 0, none⟩), .pointer (some ⟨w.heap.size + 2, 0, none⟩)]] w1
          fun e w' => e = .returned (.bool (fewB ⟨N, n, x2, x3⟩)) ∧ ES w w1.heap.size [.int .i64 N, .int .i64 n, .slice a2 x2.length c2, .slice a3 x3.length c3] (foldC x2.length N (worstStep ⟨N, n, x2, x3⟩) (fewN (fewB ⟨N, n, x2, x3⟩) (x2.length ^ N))) w') := fun w1 hs => by
      refine choices_any (fun t w' => ES w w1.heap.size [.int .i64 N, .int .i64 n, .slice a2 x2.length c2, .slice a3 x3.length c3] (foldC x2.length N (worstStep ⟨N, n, x2, x3⟩) t) w') _ _ enter_worst w1 N n a2 c2 x2 a3 c3 x3 hv ?_ ?_ hs.1
      · intro t v1 v2 k hg
        exact k.frame hg hs.2
      · intro t v1 c k ht hsz g
        have hch : (chAt x2.length N t).length = N := chAt_len _ _ _
        have := worst1_any w w1.heap.size N n a2 c2 x2 a3 c3 x3 h hs.2 (foldC x2.length N (worstStep ⟨N, n, x2, x3⟩) t) (chAt x2.length N t) v1 c k hsz (can_chAt hv ht) g
        rw [hch] at this
        exact this
    cases hf : fewB ⟨N, n, x2, x3⟩ with
    | false =>
      rw [worstF_few hf]
      rw [hf] at LP
      clear h t1 hv hf
      go_enter Try.func18, Try.ntmps18
      go_wp2_with fail
      refine (LV.out _ (bl3 _ _ _ _)).mono ?_
      rintro e w1 ⟨rfl, hb1⟩
      have HS := Lib.hid (ES.start (cs := [.int .i64 N, .int .i64 n, .slice a2 x2.length c2, .slice a3 x3.length c3]) hb1)
      have q0 := HS.out.1.cr.cell 0
      have q1 := HS.out.1.cr.cell 1
      have q2 := HS.out.1.cr.cell 2
      have q3 := HS.out.1.cr.cell 3
      simp only [List.getElem?_cons_zero, List.getElem?_cons_succ] at q0 q1 q2 q3
      clear hb1 LV
      go_wp2_with fail
      first | go_outline | skip
      refine (LP.out _ HS.out).mono ?_
      rintro e w2 ⟨rfl, hQ⟩
      have B2 := hQ.bel
      clear hQ q0 q1 q2 q3
      go_wp2_with fail
      go_ret3
      exact RetT.no B2
    | true =>
      rw [worstF_yes t1 hf]
      rw [hf] at LP
      have hsome := worst_some hv
      simp only [Int.toNat_natCast] at hsome
      rw [fewN_yes] at LP
      simp only [Int.toNat_natCast]
      generalize foldC x2.length N (worstStep ⟨(N : Int), (n : Int), x2, x3⟩) (x2.length ^ N) = r at *
      cases r with
      | none => cases hsome
      | some p =>
      obtain ⟨l, m⟩ := p
      clear h t1 hv hf hsome
      go_enter Try.func18, Try.ntmps18
      go_wp2_with fail
      refine (LV.out _ (bl3 _ _ _ _)).mono ?_
      rintro e w1 ⟨rfl, hb1⟩
      have HS := Lib.hid (ES.start (cs := [.int .i64 N, .int .i64 n, .slice a2 x2.length c2, .slice a3 x3.length c3]) hb1)
      have q0 := HS.out.1.cr.cell 0
      have q1 := HS.out.1.cr.cell 1
      have q2 := HS.out.1.cr.cell 2
      have q3 := HS.out.1.cr.cell 3
      simp only [List.getElem?_cons_zero, List.getElem?_cons_succ] at q0 q1 q2 q3
      clear hb1 LV
      go_wp2_with fail
      first | go_outline | skip
      refine (LP.out _ HS.out).mono ?_
      rintro e w2 ⟨rfl, hQ⟩
      obtain ⟨g, c, e1, e2, hR⟩ := hQ.ret (by have := HS.out.2; omega)
      have HR := Lib.hid hR
      clear hQ q0 q1 q2 q3 hR
      go_wp2_with fail
      go_quiet (fail)
      go_wp2_with fail
      go_ret3
      exact ⟨below_drewN HR.out.1 _, HR.out.2⟩
end Go.Proofs.Ytiodkmddmgjikaa
namespace Go.Proofs.Ytiodkmddmgjikaa
set_option linter.unusedVariables false
set_option linter.unusedSimpArgs false
open Go.RowKit

/-- Where the choices in block g stand. -/
def valOf (n : Nat) (w : World) (g : Nat) : Nat :=
  match w.heap[g]? with
  | some (.cells cs _) => valD n (cs.toList.map intOf)
  | _ => 0
theorem intOf_ints (xs : List Int) : (ints xs).map intOf = xs := by
  unfold ints
  rw [List.map_map]
  exact (List.map_congr_left (fun x _ => rfl)).trans (List.map_id xs)
theorem valOf_blk {n g T : Nat} {w : World} {ch : List Int} (h : Blk w g (ints ch) T) : valOf n w g = valD n ch := by
  have h' : w.heap[g]? = some (.cells (ints ch).toArray T) := h
  unfold valOf
  rw [h']
  simp only [intOf_ints]
theorem foldC_succ (n U : Nat) (f : List Int → Best → Best) (t : Nat) : foldC n U f (t + 1) = f (chAt n U t) (foldC n U f t) := rfl
theorem chAt_succ (n U t : Nat) : chAt n U (t + 1) = (nextAt n (chAt n U t) U).1 := rfl
/-- A best one, as the reference keeps it: an empty list for none. -/
def asL : Best → List Int × Int
  | none => ([], 0)
  | some p => p
theorem own_none {w : World} {base e n : Nat} {v : Value} {xs : List Value} (h : w.ownsRow base e 1 v n xs) {w' : World} {g : Nat} (hg : w.grownBy w' (some g)) (hb : g < base) : w'.ownsRow base e 1 v n xs := own_grown h hg hb
end Go.Proofs.Ytiodkmddmgjikaa
namespace Go.Proofs.Ytiodkmddmgjikaa
set_option linter.unusedVariables false
set_option linter.unusedSimpArgs false
open Go.RowKit

/-- How the reference keeps the best so far: an empty list for none. -/
def asR : Best → List Int → Int → Prop
  | none, bl, mm => bl = [] ∧ mm = 0
  | some p, bl, mm => p = (bl, mm) ∧ 0 < bl.length
theorem asR_some {s : Best} {bl : List Int} {mm : Int} (h : s.isSome) (hr : asR s bl mm) : s = some (bl, mm) := by
  cases s with
  | none => cases h
  | some p => rw [hr.1]
end Go.Proofs.Ytiodkmddmgjikaa
namespace Go.Proofs.Ytiodkmddmgjikaa
set_option linter.unusedVariables false
set_option linter.unusedSimpArgs false
open Go.RowKit

theorem gcd_step (x y : Nat) : Nat.gcd y (x % y) = Nat.gcd x y := by
  rw [Nat.gcd_comm x y, Nat.gcd_rec y x, Nat.gcd_comm]
theorem gcd_pos {x y : Nat} (h : 0 < x) : 0 < Nat.gcd x y := Nat.gcd_pos_of_pos_left y h
set_option maxRecDepth 10000 in
set_option maxHeartbeats 2000000 in
theorem common_any (w : World) (a b : Nat) (ha : a ≤ 1099511627776) (hb : b ≤ 1099511627776) :
    Calls Try.prog 51 #[.int .i64 a, .int .i64 b] w fun e w' => e = .returned (.int .i64 (Nat.gcd a b : Nat)) ∧ ∃ n, w' = w.drewN n := by
  go_enter Try.func51, Try.ntmps51
  go_wp2_with fail
  go_loopw [0, 1] (fun i j wr => ∃ x y n : Nat, i = .int .i64 x ∧ j = .int .i64 y ∧ x ≤ 1099511627776 ∧ y ≤ 1099511627776 ∧ Hid (Nat.gcd x y = Nat.gcd a b) ∧ wr = w.drewN n) (fun _ j _ => (intOf j).toNat)
  case atStart => exact ⟨a, b, 0, rfl, rfl, ha, hb, rfl, rfl⟩
  case round =>
    obtain ⟨x, y, n, rfl, rfl, hx, hy, hg, rfl⟩ := hrel
    by_cases h0 : y = 0
    · subst h0
      have HF : Hid ((x : Int) = (Nat.gcd a b : Nat)) := by show _ = _; rw [← hg.out, Nat.gcd_zero_right]
      have hne : ((((0 : Nat) : Int)) != 0) = false := by simp
      clear hg
      go_wp2_with fail
      go_ret
      exact ⟨ret_int HF.out, n, rfl⟩
    · have hy0 : (0 : Int) < (y : Int) := by omega
      have hne : ((y : Int) != 0) = true := by simp; omega
      have hnz : (y : Int) ≠ 0 := by omega
      have hnb : ((y : Int) == 0) = false := by simp; omega
      have hx0 : (0 : Int) ≤ (x : Int) := Int.natCast_nonneg _
      have HN : Hid (Nat.gcd y (x % y) = Nat.gcd a b) := by show _ = _; rw [gcd_step, hg.out]
      have hlt : x % y < y := Nat.mod_lt _ (by omega)
      have Hlt := Lib.hid hlt
      have Hmod : Hid ((((x % y : Nat)) : Int) = (x : Int) % (y : Int)) := by simp [Hid]
      clear hg hlt
      go_wp2_with fail
      go_quiet (fail)
      go_wp2_with fail
      go_roundw
      case rel => exact ⟨y, x % y, n + nq, rfl, by rw [Hmod.out], hy, by have := Hlt.out; omega, HN.out, by first | rfl | exact World.drewN_drewN _ _ _⟩
      case measure => have := Hlt.out; have := Hmod.out; simp [intOf]; omega
end Go.Proofs.Ytiodkmddmgjikaa
namespace Go.Proofs.Ytiodkmddmgjikaa
set_option linter.unusedVariables false
set_option linter.unusedSimpArgs false
open Go.RowKit

theorem least_inv {c : Cr} : ∀ {t : Nat} {b : List Int} {m : Int}, foldC c.ways.length c.U.toNat (leastStep c) t = some (b, m) → m = totalF c b ∧ ∀ t', t' < t → m ≤ totalF c (chAt c.ways.length c.U.toNat t')
  | 0, b, m, h => by cases h
  | t + 1, b, m, h => by
    rw [foldC] at h
    cases hs : foldC c.ways.length c.U.toNat (leastStep c) t with
    | none =>
      rw [hs] at h
      simp only [leastStep] at h
      injection h with h; injection h with h1 h2
      subst h1 h2
      refine ⟨rfl, fun t' ht' => ?_⟩
      cases t with
      | zero => have : t' = 0 := by omega
                subst this; exact Int.le_refl _
      | succ t => have := least_some (c := c) (t := t); rw [hs] at this; cases this
    | some q =>
      obtain ⟨b0, m0⟩ := q
      obtain ⟨i1, i2⟩ := least_inv hs
      rw [hs] at h
      simp only [leastStep] at h
      split at h
      · rename_i hlt
        injection h with h; injection h with h1 h2
        subst h1 h2
        refine ⟨rfl, fun t' ht' => ?_⟩
        by_cases e : t' = t
        · subst e; exact Int.le_refl _
        · have := i2 t' (by omega); omega
      · rename_i hge
        injection h with h; injection h with h1 h2
        subst h1 h2
        refine ⟨i1, fun t' ht' => ?_⟩
        by_cases e : t' = t
        · subst e; omega
        · exact i2 t' (by omega)
theorem worst_inv {c : Cr} : ∀ {t : Nat} {b : List Int} {m : Int}, foldC c.ways.length c.U.toNat (worstStep c) t = some (b, m) → m = totalF c b ∧ ∃ t', t' < t ∧ b = chAt c.ways.length c.U.toNat t'
  | 0, b, m, h => by cases h
  | t + 1, b, m, h => by
    rw [foldC] at h
    generalize hs : foldC c.ways.length c.U.toNat (worstStep c) t = s at h
    unfold worstStep at h
    split at h
    · obtain ⟨i1, t', i2, i3⟩ := worst_inv (hs.trans h)
      exact ⟨i1, t', by omega, i3⟩
    · cases s with
      | none =>
        simp only at h
        injection h with h; injection h with h1 h2
        exact ⟨by rw [← h2, ← h1], t, by omega, h1.symm⟩
      | some q =>
        obtain ⟨b0, m0⟩ := q
        simp only at h
        split at h
        · injection h with h; injection h with h1 h2
          exact ⟨by rw [← h2, ← h1], t, by omega, h1.symm⟩
        · obtain ⟨i1, t', i2, i3⟩ := worst_inv (hs.trans h)
          exact ⟨i1, t', by omega, i3⟩
/-- The quotient without a common factor. -/
def priceF (c : Cr) : Int × Int × Bool :=
  match worstF c, leastF c with
  | some (_, m), some (_, l) => if l < 1 then (0, 0, false) else (((m.toNat / Nat.gcd m.toNat l.toNat : Nat) : Int), ((l.toNat / Nat.gcd m.toNat l.toNat : Nat) : Int), true)
  | _, _ => (0, 0, false)
inductive PriceCase (c : Cr) : Prop
  | no (h1 : worstF c = none) (h2 : leastF c = none) (h3 : priceF c = (0, 0, false))
  | low (bw bl : List Int) (m l : Int) (h1 : worstF c = some (bw, m)) (h2 : leastF c = some (bl, l)) (h3 : priceF c = (0, 0, false)) (h4 : l < 1)
  | yes (bw bl : List Int) (m l : Nat) (h1 : worstF c = some (bw, (m : Int))) (h2 : leastF c = some (bl, (l : Int))) (h3 : priceF c = (((m / Nat.gcd m l : Nat) : Int), ((l / Nat.gcd m l : Nat) : Int), true)) (h4 : 1 ≤ l) (h5 : l ≤ m) (h6 : m ≤ 6400000)
theorem priceCase (c : Cr) : PriceCase c := by
  by_cases hv : validB c = true
  case neg =>
    have hv' : validB c = false := by simpa using hv
    have h1 := worstF_no hv'
    have h2 := leastF_no hv'
    exact .no h1 h2 (by unfold priceF; rw [h1])
  by_cases hf : fewB c = true
  case neg =>
    have hf' : fewB c = false := by simpa using hf
    have h1 := worstF_few hf'
    have h2 := leastF_few hf'
    exact .no h1 h2 (by unfold priceF; rw [h1])
  have hV := valid_of hv
  have s1 := worst_some hV
  have s2 := least_some' hV
  have h1 := worstF_yes hv hf
  have h2 := leastF_yes hv hf
  cases e1 : foldC c.ways.length c.U.toNat (worstStep c) (c.ways.length ^ c.U.toNat) with
  | none => rw [e1] at s1; cases s1
  | some p =>
  obtain ⟨bw, m⟩ := p
  cases e2 : foldC c.ways.length c.U.toNat (leastStep c) (c.ways.length ^ c.U.toNat) with
  | none => rw [e2] at s2; cases s2
  | some q =>
  obtain ⟨bl, l⟩ := q
  rw [e1] at h1
  rw [e2] at h2
  obtain ⟨i1, t', i2, i3⟩ := worst_inv e1
  obtain ⟨j1, j2⟩ := least_inv e2
  have k1 := j2 t' i2
  rw [← i3, ← i1] at k1
  have hb := total_bd hV bw
  rw [← i1] at hb
  by_cases hl : l < 1
  · exact .low bw bl m l h1 h2 (by unfold priceF; rw [h1, h2]; simp [hl]) hl
  · obtain ⟨mn, rfl⟩ : ∃ k : Nat, m = k := ⟨m.toNat, by omega⟩
    obtain ⟨ln, rfl⟩ : ∃ k : Nat, l = k := ⟨l.toNat, by omega⟩
    exact .yes bw bl mn ln h1 h2 (by unfold priceF; rw [h1, h2]; simp only [hl, if_false, Int.toNat_natCast]) (by omega) (by omega) (by omega)
theorem absolute_any (w : World) (a : Nat) (ha : a ≤ 1099511627776) :
    Calls Try.prog 52 #[.int .i64 a] w fun e w' => e = .returned (.int .i64 a) ∧ w' = w := by
  have hm : Hid (max (a : Int) (-(a : Int)) = a) := by show _ = _; omega
  have hm2 : ¬ ((a : Int) < -(a : Int)) := by omega
  go_enter Try.func52, Try.ntmps52
  go_wp2_with fail
  go_ret
  exact ⟨ret_int (by first | exact hm.out | rfl | omega), rfl⟩
end Go.Proofs.Ytiodkmddmgjikaa
namespace Go.Proofs.Ytiodkmddmgjikaa
set_option linter.unusedVariables false
set_option linter.unusedSimpArgs false
open Go.RowKit

theorem sumR_swap (f : Nat → Nat → Int) (m : Nat) : ∀ n, sumR (fun u => sumR (f u) m) n = sumR (fun r => sumR (fun u => f u r) n) m
  | 0 => by
    have : ∀ m, sumR (fun _ => (0 : Int)) m = 0 := fun m => by induction m with
      | zero => rfl
      | succ m ih => rw [sumR, ih]; rfl
    simp only [sumR]; exact (this m).symm
  | n + 1 => by
    rw [sumR, sumR_swap f m n]
    have add : ∀ (g h : Nat → Int) m, sumR (fun i => g i + h i) m = sumR g m + sumR h m := fun g h m => by induction m with
      | zero => rfl
      | succ m ih => simp only [sumR]; rw [ih]; omega
    rw [← add]
    rfl
theorem sumR_take (g : Int → Int) (ch : List Int) : ∀ k, k ≤ ch.length → sumR (fun u => g (ch.getD u 0)) k = ((ch.take k).map g).sum
  | 0, _ => by simp [sumR]
  | k + 1, h => by
    rw [sumR, sumR_take g ch k (by omega), take_succ_getD ch k (by omega)]
    simp
theorem sumR_list (g : Int → Int) (ch : List Int) : sumR (fun u => g (ch.getD u 0)) ch.length = (ch.map g).sum := by
  rw [sumR_take g ch _ (Nat.le_refl _), List.take_length]
theorem load_mul (c : Cr) (r : Nat) (K : Int) : ∀ ch : List Int, (ch.map fun w => if bitI (c.ways.getD w.toNat 0) r = 1 then K else 0).sum = loadF c ch r * K
  | [] => by simp [loadF]
  | w :: ch => by
    have ih := load_mul c r K ch
    have h2 := bitI_01 (c.ways.getD w.toNat 0) r
    simp only [loadF, List.map_cons, List.sum_cons] at ih ⊢
    rw [ih, Int.add_mul]
    rcases h2 with h | h <;> rw [h] <;> simp
/-- All that is paid, road by road. -/
theorem total_loads {c : Cr} {ch : List Int} (hl : (ch.length : Int) = c.U) : totalF c ch = sumR (fun r => loadF c ch r * costF c r (loadF c ch r)) c.R.toNat := by
  unfold totalF
  have hU : c.U.toNat = ch.length := by omega
  rw [hU]
  show sumR (fun u => sumR (payR c ch (ch.getD u 0)) c.R.toNat) ch.length = _
  rw [sumR_swap]
  refine sumR_congr fun r _ => ?_
  have := sumR_list (fun w => payR c ch w r) ch
  rw [this]
  exact load_mul c r _ ch
/-- Numbers for each road and each count of users. -/
def turnL (f : Nat → Nat → Int) (U : Nat) : Nat → List Int
  | 0 => []
  | R + 1 => turnL f U R ++ (List.range U).map fun k => f R (k + 1)
theorem turnL_len (f : Nat → Nat → Int) (U : Nat) : ∀ R, (turnL f U R).length = R * U
  | 0 => by simp [turnL]
  | R + 1 => by rw [turnL, List.length_append, turnL_len f U R]; simp [Nat.add_mul]
theorem turnL_get (f : Nat → Nat → Int) (U : Nat) : ∀ {R r k : Nat}, r < R → k < U → (turnL f U R)[r * U + k]? = some (f r (k + 1))
  | 0, r, k, h, _ => by omega
  | R + 1, r, k, h, hk => by
    have hl := turnL_len f U R
    rw [turnL]
    by_cases e : r = R
    · subst e
      rw [List.getElem?_append_right (by omega), hl, Nat.add_sub_cancel_left]
      simp [hk]
    · have h1 : r * U + k < R * U := by
        have : (r + 1) * U ≤ R * U := Nat.mul_le_mul_right U (by omega)
        rw [Nat.add_mul] at this; omega
      rw [List.getElem?_append_left (by omega)]
      exact turnL_get f U (by omega) hk
theorem turnL_mem {f : Nat → Nat → Int} {U : Nat} {x : Int} : ∀ {R : Nat}, x ∈ turnL f U R → ∃ r k, r < R ∧ k < U ∧ x = f r (k + 1)
  | 0, h => by simp [turnL] at h
  | R + 1, h => by
    rw [turnL, List.mem_append] at h
    rcases h with h | h
    · obtain ⟨r, k, h1, h2, h3⟩ := turnL_mem h
      exact ⟨r, k, by omega, h2, h3⟩
    · obtain ⟨k, hk, e⟩ := List.mem_map.1 h
      exact ⟨R, k, by omega, List.mem_range.1 hk, e.symm⟩
def turnC (f : Nat → Nat → Int) (c : Cr) : Cr := ⟨c.U, c.R, c.ways, turnL f c.U.toNat c.R.toNat⟩
theorem turn_cost {f : Nat → Nat → Int} {c : Cr} {r n : Nat} (hr : r < c.R.toNat) (h1 : 1 ≤ n) (hn : n ≤ c.U.toNat) (hU : 0 ≤ c.U) : costF (turnC f c) r n = f r n := by
  unfold costF
  rw [if_neg (by omega)]
  have e : ((r : Int) * (turnC f c).U + (n : Int) - 1).toNat = r * c.U.toNat + (n - 1) := by
    show ((r : Int) * c.U + (n : Int) - 1).toNat = _
    obtain ⟨u, hu⟩ : ∃ u : Nat, c.U = u := ⟨c.U.toNat, by omega⟩
    rw [hu, ← Int.natCast_mul, Int.toNat_natCast]
    omega
  rw [e]
  show (turnL f c.U.toNat c.R.toNat).getD _ 0 = _
  have := turnL_get f c.U.toNat hr (show n - 1 < c.U.toNat by omega)
  rw [List.getD_eq_getElem?_getD, this, Option.getD_some, show n - 1 + 1 = n by omega]
/-- What users pay for what they cost others. -/
def tollN (c : Cr) (r n : Nat) : Int := (n : Int) * costF c r n - ((n : Int) - 1) * costF c r ((n : Int) - 1)
theorem toll_sum (c : Cr) (r : Nat) : ∀ n : Nat, sumR (fun k => tollN c r (k + 1)) n = (n : Int) * costF c r n
  | 0 => by simp [sumR]
  | n + 1 => by
    rw [sumR, toll_sum c r n]
    unfold tollN
    have : ((n + 1 : Nat) : Int) - 1 = (n : Int) := by omega
    rw [this]
    omega
theorem turn_load (f : Nat → Nat → Int) (c : Cr) (ch : List Int) (r : Nat) : loadF (turnC f c) ch r = loadF c ch r := rfl
theorem toll_pot {c : Cr} {ch : List Int} (hc : Can c ch) : potF (turnC (tollN c) c) ch = totalF c ch := by
  rw [total_loads hc.len]
  unfold potF
  refine sumR_congr fun r hr => ?_
  unfold potR
  rw [turn_load]
  have hb := load_bd c r ch
  have hl := hc.len
  obtain ⟨n, hn⟩ : ∃ n : Nat, loadF c ch r = n := ⟨(loadF c ch r).toNat, by omega⟩
  rw [hn, Int.toNat_natCast, ← toll_sum]
  refine sumR_congr fun k hk => ?_
  have := turn_cost (f := tollN c) (c := c) (r := r) (n := k + 1) hr (by omega) (by omega) (by omega)
  rw [← this]
  rfl
theorem turn_same {c : Cr} (hv : Valid c) : turnC (fun r n => costF c r n) c = c := by
  obtain ⟨U, R, ways, costs⟩ := c
  unfold turnC
  congr 1
  have h1 := hv.u1
  have h2 := hv.r1
  have h3 := hv.clen
  simp only at h1 h2 h3 ⊢
  obtain ⟨u, rfl⟩ : ∃ u : Nat, U = u := ⟨U.toNat, by omega⟩
  obtain ⟨n, rfl⟩ : ∃ n : Nat, R = n := ⟨R.toNat, by omega⟩
  simp only [Int.toNat_natCast]
  have hlen : costs.length = n * u := by
    have : (costs.length : Int) = ((u * n : Nat) : Int) := by rw [h3, Int.natCast_mul]
    rw [Nat.mul_comm]; omega
  refine List.ext_getElem? fun i => ?_
  by_cases hi : i < n * u
  · have hu : 0 < u := by omega
    have hr : i / u < n := by rw [Nat.div_lt_iff_lt_mul hu]; exact hi
    have hk : i % u < u := Nat.mod_lt _ hu
    have e : i = i / u * u + i % u := by rw [Nat.mul_comm]; exact (Nat.div_add_mod i u).symm
    have g := turnL_get (fun r n => costF ⟨(u : Int), (n : Int), ways, costs⟩ r n) u hr hk
    conv => lhs; rw [e]
    rw [show (turnL (fun r n_1 => costF ⟨(u : Int), (n : Int), ways, costs⟩ r n_1) u n)[i / u * u + i % u]? = some (costF ⟨(u : Int), (n : Int), ways, costs⟩ (i / u) ((i % u + 1 : Nat) : Int)) from ?_]
    · unfold costF
      rw [if_neg (by omega)]
      have e2 : (((i / u : Nat) : Int) * (u : Int) + ((i % u + 1 : Nat) : Int) - 1).toNat = i := by
        rw [← Int.natCast_mul]
        omega
      simp only [e2]
      exact (get_of_lt (by omega)).symm
    · have hk' : i % u < u := hk
      exact g
  · rw [List.getElem?_eq_none (by rw [turnL_len]; omega), List.getElem?_eq_none (by omega)]
theorem least_from {c : Cr} : ∀ {t : Nat} {b : List Int} {m : Int}, foldC c.ways.length c.U.toNat (leastStep c) t = some (b, m) → ∃ t', t' < t ∧ b = chAt c.ways.length c.U.toNat t'
  | 0, b, m, h => by cases h
  | t + 1, b, m, h => by
    rw [foldC] at h
    cases hs : foldC c.ways.length c.U.toNat (leastStep c) t with
    | none =>
      rw [hs] at h
      simp only [leastStep] at h
      injection h with h; injection h with h1 h2
      exact ⟨t, by omega, h1.symm⟩
    | some q =>
      obtain ⟨b0, m0⟩ := q
      rw [hs] at h
      simp only [leastStep] at h
      split at h
      · injection h with h; injection h with h1 h2
        exact ⟨t, by omega, h1.symm⟩
      · injection h with h; injection h with h1 h2
        subst h1 h2
        obtain ⟨t', i1, i2⟩ := least_from hs
        exact ⟨t', by omega, i2⟩
theorem worst_max {c : Cr} : ∀ {t : Nat}, (∀ b m, foldC c.ways.length c.U.toNat (worstStep c) t = some (b, m) → betterF c b = none ∧ ∀ t', t' < t → betterF c (chAt c.ways.length c.U.toNat t') = none → totalF c (chAt c.ways.length c.U.toNat t') ≤ m) ∧ (foldC c.ways.length c.U.toNat (worstStep c) t = none → ∀ t', t' < t → betterF c (chAt c.ways.length c.U.toNat t') ≠ none)
  | 0 => ⟨fun b m h => (by cases h), fun _ t' h => by omega⟩
  | t + 1 => by
    obtain ⟨i1, i2⟩ := worst_max (c := c) (t := t)
    rw [foldC]
    generalize hs : foldC c.ways.length c.U.toNat (worstStep c) t = s at *
    unfold worstStep
    cases hb : betterF c (chAt c.ways.length c.U.toNat t) with
    | some p =>
      simp only [Option.isSome_some, if_true]
      refine ⟨fun b m h => ?_, fun h t' ht' => ?_⟩
      · obtain ⟨j1, j2⟩ := i1 b m h
        refine ⟨j1, fun t' ht' hn => ?_⟩
        by_cases e : t' = t
        · subst e; rw [hb] at hn; cases hn
        · exact j2 t' (by omega) hn
      · by_cases e : t' = t
        · subst e; rw [hb]; simp
        · exact i2 h t' (by omega)
    | none =>
      simp only [Option.isSome_none, Bool.false_eq_true, if_false]
      cases s with
      | none =>
        refine ⟨fun b m h => ?_, fun h => by cases h⟩
        simp only at h
        injection h with h; injection h with h1 h2
        subst h1 h2
        refine ⟨hb, fun t' ht' hn => ?_⟩
        by_cases e : t' = t
        · subst e; exact Int.le_refl _
        · exact absurd hn (i2 rfl t' (by omega))
      | some q =>
        obtain ⟨b0, m0⟩ := q
        obtain ⟨j1, j2⟩ := i1 b0 m0 rfl
        simp only
        split
        · rename_i hlt
          refine ⟨fun b m h => ?_, fun h => by cases h⟩
          injection h with h; injection h with h1 h2
          subst h1 h2
          refine ⟨hb, fun t' ht' hn => ?_⟩
          by_cases e : t' = t
          · subst e; exact Int.le_refl _
          · have := j2 t' (by omega) hn; omega
        · rename_i hge
          refine ⟨fun b m h => ?_, fun h => by cases h⟩
          injection h with h; injection h with h1 h2
          subst h1 h2
          refine ⟨j1, fun t' ht' hn => ?_⟩
          by_cases e : t' = t
          · subst e; omega
          · exact j2 t' (by omega) hn
/-- All that is said of the least total, the worst rest and the price. -/
theorem price_all {c : Cr} (hv : validB c = true) (hf : fewB c = true) : ∃ (best worst : List Int) (l m : Int), leastF c = some (best, l) ∧ worstF c = some (worst, m) ∧ Can c best ∧ Can c worst ∧ l = totalF c best ∧ betterF c worst = none ∧ (∀ ch, Can c ch → l ≤ totalF c ch) ∧ (∀ ch, Can c ch → betterF c ch = none → totalF c ch ≤ m) ∧ l ≤ m ∧ ((priceF c).2.2 = decide (1 ≤ l)) ∧ ((priceF c).2.2 = true → (priceF c).2.1 ≤ (priceF c).1 ∧ 1 ≤ (priceF c).2.1 ∧ (priceF c).1 * l = m * (priceF c).2.1) := by
  have hV := valid_of hv
  have s1 := worst_some hV
  have s2 := least_some' hV
  have h1 := worstF_yes hv hf
  have h2 := leastF_yes hv hf
  cases e1 : foldC c.ways.length c.U.toNat (worstStep c) (c.ways.length ^ c.U.toNat) with
  | none => rw [e1] at s1; cases s1
  | some p =>
  obtain ⟨bw, m⟩ := p
  cases e2 : foldC c.ways.length c.U.toNat (leastStep c) (c.ways.length ^ c.U.toNat) with
  | none => rw [e2] at s2; cases s2
  | some q =>
  obtain ⟨bl, l⟩ := q
  rw [e1] at h1
  rw [e2] at h2
  obtain ⟨i1, t', i2, i3⟩ := worst_inv e1
  obtain ⟨j1, j2⟩ := least_inv e2
  obtain ⟨t2, k2, k3⟩ := least_from e2
  obtain ⟨w1, w2⟩ := (worst_max (c := c)).1 bw m e1
  have cw : Can c bw := by rw [i3]; exact can_chAt hV i2
  have cb : Can c bl := by rw [k3]; exact can_chAt hV k2
  have at' : ∀ ch, Can c ch → valD c.ways.length ch < c.ways.length ^ c.U.toNat ∧ ch = chAt c.ways.length c.U.toNat (valD c.ways.length ch) := fun ch hc => chAt_of hV.w1 (U := c.U.toNat) (by have := hc.len; omega) (fun x hx => hc.mem x hx)
  have hle : l ≤ m := by rw [i1]; have := j2 t' i2; rw [← i3] at this; exact this
  refine ⟨bl, bw, l, m, h2, h1, cb, cw, j1, w1, fun ch hc => ?_, fun ch hc hn => ?_, hle, ?_⟩
  · obtain ⟨a1, a2⟩ := at' ch hc
    rw [a2]; exact j2 _ a1
  · obtain ⟨a1, a2⟩ := at' ch hc
    have := w2 _ a1 (by rw [← a2]; exact hn)
    rwa [← a2] at this
  · cases priceCase c with
    | no g1 g2 g3 => rw [g2] at h2; cases h2
    | low b1 b2 m' l' g1 g2 g3 g4 =>
      rw [g2] at h2; injection h2 with h2; injection h2 with _ h2
      subst h2
      rw [g3]
      exact ⟨by simp; omega, fun h => by cases h⟩
    | yes b1 b2 m' l' g1 g2 g3 g4 g5 g6 =>
      rw [g2] at h2; injection h2 with h2; injection h2 with _ h2
      rw [g1] at h1; injection h1 with h1; injection h1 with _ h1
      subst h1 h2
      rw [g3]
      have hg : 0 < Nat.gcd m' l' := Nat.gcd_pos_of_pos_right _ (by omega)
      have d1 := Nat.gcd_dvd_left m' l'
      have d2 := Nat.gcd_dvd_right m' l'
      refine ⟨by simp; omega, fun _ => ⟨?_, ?_, ?_⟩⟩
      · show ((l' / Nat.gcd m' l' : Nat) : Int) ≤ ((m' / Nat.gcd m' l' : Nat) : Int)
        have := Nat.div_le_div_right (c := Nat.gcd m' l') g5
        omega
      · show 1 ≤ ((l' / Nat.gcd m' l' : Nat) : Int)
        have := Nat.div_pos (Nat.le_of_dvd (by omega) d2) hg
        omega
      · show ((m' / Nat.gcd m' l' : Nat) : Int) * (l' : Int) = (m' : Int) * ((l' / Nat.gcd m' l' : Nat) : Int)
        rw [← Int.natCast_mul, ← Int.natCast_mul]
        congr 1
        obtain ⟨x, hx⟩ := d1
        obtain ⟨y, hy⟩ := d2
        generalize Nat.gcd m' l' = g at *
        subst hx hy
        rw [Nat.mul_div_cancel_left _ hg, Nat.mul_div_cancel_left _ hg, Nat.mul_comm g x, Nat.mul_assoc]
theorem worst_total {c : Cr} {b : List Int} {m : Int} (h : worstF c = some (b, m)) : ∃ ch, m = totalF c ch := by
  cases hv : validB c with
  | false => rw [worstF_no hv] at h; cases h
  | true => cases hf : fewB c with
    | false => rw [worstF_few hf] at h; cases h
    | true =>
      rw [worstF_yes hv hf] at h
      exact ⟨b, (worst_inv h).1⟩
/-- What is said of coming to rest. -/
theorem rest_all {c : Cr} {ch : List Int} (hc : Can c ch) : Can c (restF c ch).1 ∧ betterF c (restF c ch).1 = none ∧ potF c (restF c ch).1 ≤ potF c ch - (restF c ch).2 ∧ ((restF c ch).2 = 0 → (restF c ch).1 = ch) ∧ ((betterF c ch).isSome = decide (0 < (restF c ch).2)) := by
  obtain ⟨h1, h2, h3⟩ := restF_rest hc
  refine ⟨h1, h2, ?_, ?_, ?_⟩
  · have b1 := pot_bd hc
    have b2 := pot_bd h1
    unfold measF at h3
    omega
  · cases hb : betterF c ch with
    | none => intro _; rw [restF_none hb]
    | some p => obtain ⟨u, k⟩ := p; rw [restF_some hc hb]; intro h; simp at h
  · cases hb : betterF c ch with
    | none => rw [restF_none hb]; rfl
    | some p => obtain ⟨u, k⟩ := p; rw [restF_some hc hb]; simp
end Go.Proofs.Ytiodkmddmgjikaa
namespace Go.Proofs.Ytiodkmddmgjikaa
set_option linter.unusedVariables false
set_option linter.unusedSimpArgs false
open Go.RowKit

def hasB (xs : List Int) (n : Int) : Bool := xs.any fun x => x == n
theorem hasB_iff {xs : List Int} {n : Int} : hasB xs n = true ↔ n ∈ xs := by simp [hasB]
theorem hasB_no {xs : List Int} {n : Int} : hasB xs n = false ↔ n ∉ xs := by rw [← hasB_iff]; simp
theorem hasB_snoc {xs : List Int} {k : Nat} {x n : Int} (hx : xs[k]? = some x) : hasB (xs.take (k + 1)) n = (hasB (xs.take k) n || (x == n)) := by
  rw [List.take_add_one, hx]; simp [hasB]
theorem hasB_take {xs : List Int} {k : Nat} {x n : Int} (hx : xs[k]? = some x) (h : (x == n) = true) : hasB xs n = true := by
  rw [hasB_iff]; rw [beq_iff_eq] at h; rw [← h]; exact List.mem_of_getElem? hx
/-- All numbers are from 0 to n - 1, each at most once. -/
def onceB (xs : List Int) (n : Nat) : Bool := allIn xs 0 (n - 1) && decide xs.Nodup
def orderB (xs : List Int) (n : Nat) : Bool := onceB xs n && decide (xs.length = n)
theorem orderB_iff {xs : List Int} {n : Nat} : orderB xs n = true ↔ (∀ x ∈ xs, 0 ≤ x ∧ x < n) ∧ xs.Nodup ∧ xs.length = n := by
  simp only [orderB, onceB, Bool.and_eq_true, allIn_iff, decide_eq_true_iff, and_assoc]
  constructor
  · rintro ⟨h1, h2, h3⟩; exact ⟨fun x hx => by have := h1 x hx; omega, h2, h3⟩
  · rintro ⟨h1, h2, h3⟩; exact ⟨fun x hx => by have := h1 x hx; omega, h2, h3⟩
theorem nodup_take_succ {xs : List Int} {k : Nat} {x : Int} (hx : xs[k]? = some x) : (xs.take (k + 1)).Nodup ↔ (xs.take k).Nodup ∧ x ∉ xs.take k := by
  rw [List.take_add_one, hx]
  simp only [Option.toList_some, List.nodup_append, List.nodup_cons, List.not_mem_nil, not_false_eq_true, List.nodup_nil, and_self, true_and]
  constructor
  · rintro ⟨h1, h2⟩; exact ⟨h1, fun h => h2 x h x (by simp) rfl⟩
  · rintro ⟨h1, h2⟩; exact ⟨h1, fun a ha b hb e => by simp at hb; subst hb; subst e; exact h2 ha⟩
theorem not_nodup_of {xs : List Int} {k : Nat} {x : Int} (hx : xs[k]? = some x) (h : x ∈ xs.take k) : ¬ xs.Nodup := by
  intro hn
  have h2 : (xs.take (k + 1)).Nodup := hn.sublist (List.take_sublist _ _)
  exact ((nodup_take_succ hx).1 h2).2 h
theorem onceB_step {xs : List Int} {k n : Nat} {x : Int} (hx : xs[k]? = some x) (h : onceB (xs.take k) n = true) (h1 : inB x 0 (n - 1) = true) (h2 : hasB (xs.take k) x = false) : onceB (xs.take (k + 1)) n = true := by
  simp only [onceB, Bool.and_eq_true, decide_eq_true_iff] at h ⊢
  exact ⟨by rw [allIn_snoc hx, h.1, h1]; rfl, (nodup_take_succ hx).2 ⟨h.2, hasB_no.1 h2⟩⟩
theorem onceB_out {xs : List Int} {k n : Nat} {x : Int} (hx : xs[k]? = some x) (h1 : inB x 0 (n - 1) = false) : onceB xs n = false := by
  simp [onceB, allIn_false hx h1]
theorem onceB_dup {xs : List Int} {k n : Nat} {x : Int} (hx : xs[k]? = some x) (h2 : hasB (xs.take k) x = true) : onceB xs n = false := by
  simp [onceB, not_nodup_of hx (hasB_iff.1 h2)]

/-- The beginning of a slice. -/
theorem Rd.take {w : World} {B : Nat} {a : Option Addr} {xs : List Int} (h : Rd w B a (ints xs)) (k : Nat) : Rd w B a (ints (xs.take k)) := by
  rcases h with h | ⟨b, o, ha, hb, hc⟩
  · have : (ints xs).length = 0 := by rw [h]; rfl
    simp at this; subst this; exact .inl (by simp)
  · refine .inr ⟨b, o, ha, hb, fun j hj => ?_⟩
    have hj' : j < (ints xs).length := by simp at hj ⊢; omega
    rw [hc j hj']
    simp only [ints, List.map_take, List.getElem?_take]
    rw [if_pos (by simp at hj; omega)]

end Go.Proofs.Ytiodkmddmgjikaa
