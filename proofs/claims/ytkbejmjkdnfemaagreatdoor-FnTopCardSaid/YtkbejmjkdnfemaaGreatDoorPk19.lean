/-
  Part 19 of what the proof stands on: lemmas and contracts, each with its conditions ahead of the colon.
-/
import Derived.Deep.RegionHeld3
import Derived.Test.YtkbejmjkdnfemaaGreatDoorPk01
import Derived.Test.YtkbejmjkdnfemaaGreatDoorPk06
import Derived.Test.YtkbejmjkdnfemaaGreatDoorPk08
import Derived.Test.YtkbejmjkdnfemaaGreatDoorPk18
namespace Go.Proofs.YtkbejmjkdnfemaaGreatDoor
set_option linter.unusedVariables false
set_option linter.unusedSimpArgs false
open Go.RowKit

/-- What is paid over the first roads. -/
def paySum (C : Cr) (ch : List Int) (wy : Int) (k : Nat) : Int := sumR (payR C ch wy) k
theorem paySum_bd {C : Cr} (h : Valid C) (ch : List Int) (wy : Int) (k : Nat) (hk : k ≤ 8) : -800000 ≤ paySum C ch wy k ∧ paySum C ch wy k ≤ 800000 := by
  have := sumR_bd (f := payR C ch wy) (m := 100000) (n := k) (fun i _ => by
    unfold payR
    split
    · exact cost_bd h i _
    · omega)
  unfold paySum
  omega
theorem load_user {C : Cr} {ch : List Int} {u : Nat} (hu : u < ch.length) {r : Nat} (h : bitI (C.ways.getD (ch.getD u 0).toNat 0) r = 1) : 1 ≤ loadF C ch r := by
  have := load_ge C r ch u hu
  omega
end Go.Proofs.YtkbejmjkdnfemaaGreatDoor
namespace Go.Proofs.YtkbejmjkdnfemaaGreatDoor
set_option linter.unusedVariables false
set_option linter.unusedSimpArgs false
open Go.RowKit

theorem setg_grown (w : World) (g j : Nat) (u : Value) : w.grownBy (w.setCell ⟨g, j, none⟩ u) (some g) := ⟨rfl, rfl, rfl, by simp, fun i _ hi => Below.heap_setCell _ _ _ _ (fun e => hi (by simp [e]))⟩
theorem below_grownBy {w w' : World} (hb : Below w.heap.size w w') (r : Option Nat) : w.grownBy w' r := ⟨hb.os, hb.tape, hb.output, hb.size, fun k hk _ => hb.block k hk⟩
theorem below_restore {w w4 : World} {g : Nat} {cs : List Value} {T : TypeId} (h : Blk w g cs T) (h4 : Blk w4 g cs T) (hg : w.grownBy w4 (some g)) : Below w.heap.size w w4 :=
  ⟨hg.os, hg.tape, hg.output, hg.size, fun k hk => by
    by_cases e : k = g
    · subst e; exact h4.trans h.symm
    · exact hg.block k hk (by intro e2; injection e2 with e2; exact e e2)⟩
theorem set_back {xs : List Int} {u : Nat} (h : u < xs.length) (v : Int) : (xs.set u v).set u (xs.getD u 0) = xs := by
  rw [List.set_set]
  apply List.ext_getElem
  · simp
  · intro i h1 h2
    rw [List.getElem_set]
    split
    · rename_i e; subst e; simp [List.getD, List.getElem?_eq_getElem h]
    · rfl
set_option maxRecDepth 10000 in
set_option maxHeartbeats 8000000 in
theorem pays_any (w : World) (B g : Nat) (tl : List Value) (U : Int) (n : Nat) (a2 : Option Addr) (c2 : Nat) (x2 : List Int) (a3 : Option Addr) (c3 : Nat) (x3 : List Int) (c : Nat) (ch : List Int) (u wy : Nat)
    (hA : Blk w g (ints ch ++ tl) 2) (hBg : B ≤ g) (h : RdCrowd w B a2 x2 a3 x3) (hc : Can ⟨U, n, x2, x3⟩ ch) (hu : u < ch.length) (hwy : wy < x2.length) :
    Calls Tryz.prog 150 #[.agg #[.int .i64 U, .int .i64 n, .slice a2 x2.length c2, .slice a3 x3.length c3], .slice (some ⟨g, 0, none⟩) ch.length c, .int .i64 u, .int .i64 wy] w fun e w' => e = .returned (.int .i64 (paysF ⟨U, n, x2, x3⟩ (ch.set u (wy : Int)) u)) ∧ Below w.heap.size w w' := by
  have hn8 : n ≤ 8 := by have := hc.v.r8; simp only at this; omega
  have hUl : (ch.length : Int) = U := hc.len
  have hU8 : ch.length ≤ 8 := by have := hc.v.u8; simp only at this; omega
  have hgl := hA.lt
  have hgne : g ≠ w.heap.size := by omega
  have hc' : Can ⟨U, n, x2, x3⟩ (ch.set u (wy : Int)) := hc.set hwy
  have lset : (ch.set u (wy : Int)).length = ch.length := by simp
  -- the worlds
  have hcu := cell_app hA (j := u) hu
  have hfu := hA.free u
  have w2A := (set_app hA (j := u) hu (wy : Int)).alloc (.cells #[.int .i64 U, .int .i64 n, .slice a2 x2.length c2, .slice a3 x3.length c3] 30)
  have hB2 : Below B w ((w.setCell ⟨g, u, none⟩ (.int .i64 wy)).alloc (.cells #[.int .i64 U, .int .i64 n, .slice a2 x2.length c2, .slice a3 x3.length c3] 30)) := (below_sto (Below.refl B w) hBg u (.int .i64 wy)).alloc (by simp; omega) _
  have h2 := (h.below hB2 (Nat.le_refl _)).mono (C := ((w.setCell ⟨g, u, none⟩ (.int .i64 wy)).alloc (.cells #[.int .i64 U, .int .i64 n, .slice a2 x2.length c2, .slice a3 x3.length c3] 30)).heap.size) (by simp; omega)
  have LL0 := loads_any _ U n a2 c2 x2 a3 c3 x3 (some ⟨g, 0, none⟩) c (ch.set u (wy : Int)) h2 (rd_app w2A (by simp; omega)) hc'
  rw [lset] at LL0
  have LL := Lib.hid LL0
  have HW2A := Lib.hid w2A
  have G2 : Hid (w.grownBy ((w.setCell ⟨g, u, none⟩ (.int .i64 wy)).alloc (.cells #[.int .i64 U, .int .i64 n, .slice a2 x2.length c2, .slice a3 x3.length c3] 30)) (some g)) := grown_of_grown (setg_grown _ g u _) (below_grownBy (bl1 _ _) _)
  have kA2 := Blk.new (w.setCell ⟨g, u, none⟩ (.int .i64 wy)) [.int .i64 U, .int .i64 n, .slice a2 x2.length c2, .slice a3 x3.length c3] 30
  rw [show (w.setCell ⟨g, u, none⟩ (.int .i64 wy)).heap.size = w.heap.size by simp] at kA2
  have KA2 := Lib.hid kA2
  have HA := Lib.hid hA
  have Hh := Lib.hid h
  have HB2 := Lib.hid hB2
  have HV := Lib.hid hc.v
  have HSB := Lib.hid (set_back hu (wy : Int))
  have HP : Hid (∀ k, k ≤ 8 → -800000 ≤ paySum ⟨U, n, x2, x3⟩ (ch.set u (wy : Int)) wy k ∧ paySum ⟨U, n, x2, x3⟩ (ch.set u (wy : Int)) wy k ≤ 800000) := fun k hk => paySum_bd hc.v _ _ k hk
  have egs : (ch.set u (wy : Int)).getD u 0 = wy := getD_set_same hu _
  have HF : Hid (paysF ⟨U, n, x2, x3⟩ (ch.set u (wy : Int)) u = paySum ⟨U, n, x2, x3⟩ (ch.set u (wy : Int)) wy n) := by show _ = _; unfold paysF paySum; rw [egs]; simp
  have HLd : Hid (∀ r : Nat, bitI (x2.getD wy 0) r = 1 → 1 ≤ loadF ⟨U, n, x2, x3⟩ (ch.set u (wy : Int)) r) := fun r hr => load_user (C := ⟨U, n, x2, x3⟩) (u := u) (by rw [lset]; exact hu) (by rw [egs]; exact hr)
  have HL : Hid (∀ r : Nat, 0 ≤ loadF ⟨U, n, x2, x3⟩ (ch.set u (wy : Int)) r ∧ loadF ⟨U, n, x2, x3⟩ (ch.set u (wy : Int)) r ≤ U) := fun r => by have := load_bd ⟨U, n, x2, x3⟩ r (ch.set u (wy : Int)); rw [lset] at this; omega
  have Hcb : Hid (∀ r : Nat, ∀ m : Int, -100000 ≤ costF ⟨U, n, x2, x3⟩ r m ∧ costF ⟨U, n, x2, x3⟩ r m ≤ 100000) := fun r m => cost_bd HV.out r m
  have HWay := Lib.hid hc.v.way
  have LC := Lib.hid (fun (w' : World) (hr : RdCrowd w' B a2 x2 a3 x3) (hB' : B ≤ w'.heap.size) (r : Nat) (m : Int) (hrn : (r : Int) < n) (m0 : 1 ≤ m) (m8 : m ≤ U) => cost_any w' B U n r m a2 c2 x2 a3 c3 x3 hr hB' hc.v hrn m0 m8)
  obtain ⟨b2, o2, y, hax, hbb2, hcy0, hy⟩ := h.1.get (k := wy) hwy
  have Hcy := Lib.hid hcy0
  have hyg : x2.getD wy 0 = y := getD_of_get hy.out
  have hyw := HWay.out y (List.mem_of_getElem? hy.out)
  rw [hyg] at HLd
  have Hpay : Hid (∀ r : Nat, payR ⟨U, n, x2, x3⟩ (ch.set u (wy : Int)) wy r = if bitI y r = 1 then costF ⟨U, n, x2, x3⟩ r (loadF ⟨U, n, x2, x3⟩ (ch.set u (wy : Int)) r) else 0) := fun r => by
    have eqy : (⟨U, n, x2, x3⟩ : Cr).ways.getD ((wy : Int)).toNat 0 = y := hyg
    unfold payR
    simp only [eqy]
  subst hax
  obtain ⟨y1, y8⟩ := hyw
  obtain ⟨old, hold⟩ : ∃ old, old = ch.getD u 0 := ⟨_, rfl⟩
  rw [← hold] at hcu HSB
  generalize hC : (⟨U, (n : Int), x2, x3⟩ : Cr) = C at *
  have Hul := Lib.hid hUl
  clear hC hold hUl hc hc' lset w2A hB2 h2 LL0 kA2 hA h egs hcy0 hy hyg HWay
  go_enter Tryz.func150, Tryz.ntmps150
  go_wp2_with fail
  refine LL.out.mono ?_
  rintro e w3 ⟨a', c', rfl, ol, hb3⟩
  have k3A := HW2A.out.same hb3
  have kk3 := KA2.out.same hb3
  have G3 := grown_of_grown G2.out (below_grownBy hb3 _)
  have B3 := HB2.out.trans (hb3.mono (by simp; omega))
  have s3 := hb3.size
  simp at s3
  have hcell3 := cell_app k3A (j := u) (by simpa using hu)
  have hfree3 := k3A.free u
  have k4A := set_app k3A (j := u) (by simpa using hu) old
  rw [HSB.out] at k4A
  have G4 := Lib.hid (grown_of_grown G3 (setg_grown w3 g u (.int .i64 old)))
  have kk4 := Lib.hid (kk3.oth (g := g) (by omega) u (.int .i64 old))
  have B4 := Lib.hid (below_sto B3 hBg u (.int .i64 old))
  have ol4 := Lib.hid (ol.touch (Touch.of_grown (setg_grown w3 g u (.int .i64 old)) (Nat.le_refl _) (Nat.lt_succ_self _)) (.inr (by simp; omega)))
  have K4A := Lib.hid k4A
  have h34 : w3.heap.size ≤ (w3.setCell ⟨g, u, none⟩ (.int .i64 old)).heap.size := by simp
  have e4 := kk4.out.cell 1
  simp only [List.getElem?_cons_zero, List.getElem?_cons_succ] at e4
  have R4 := Lib.hid (below_restore HA.out K4A.out G4.out)
  have s4 : w.heap.size + 1 ≤ (w3.setCell ⟨g, u, none⟩ (.int .i64 old)).heap.size := by simp; omega
  clear LL ol hb3 k3A kk3 G3 B3 k4A G2 KA2
  go_wp2_with fail
  generalize hW4 : w3.setCell ⟨g, u, none⟩ (.int .i64 old) = w4 at *
  clear hW4
  go_loopw [30, 11] (fun rr ss wi => ∃ (r : Nat) (s : Int), r ≤ n ∧ rr = .int .i64 r ∧ ss = .int .i64 s ∧ Hid (s = paySum C (ch.set u (wy : Int)) wy r) ∧ Below w4.heap.size w4 wi) (fun rr _ _ => n - (intOf rr).toNat)
  case atStart => exact ⟨0, 0, Nat.zero_le _, rfl, rfl, rfl, Below.refl _ _⟩
  case round =>
    clear e4
    obtain ⟨r, s, hr, rfl, rfl, hs, hwi⟩ := hrel
    by_cases hlt : r < n
    · have kk := kk4.out.below hwi (by omega)
      have e0 := kk.cell 0
      have e1 := kk.cell 1
      have e2 := kk.cell 2
      have e3 := kk.cell 3
      simp only [List.getElem?_cons_zero, List.getElem?_cons_succ] at e0 e1 e2 e3
      have bi4 := B4.out.trans (hwi.mono (Nat.le_trans (by omega) (Nat.le_refl _)))
      have ey := (bi4.cell (p := ⟨b2, o2 + wy, none⟩) hbb2).trans Hcy.out
      have hbit := bit_of (show 0 ≤ y by omega) (show y ≤ 255 by omega) r
      have hpr := Hpay.out r
      have hs2 : paySum C (ch.set u (wy : Int)) wy (r + 1) = paySum C (ch.set u (wy : Int)) wy r + payR C (ch.set u (wy : Int)) wy r := rfl
      obtain ⟨s0, s1⟩ := HP.out r (by omega)
      rw [← hs.out] at s0 s1
      have hq0 : (0 : Int) ≤ (wy : Int) := by omega
      have hq1 : (wy : Int) < (x2.length : Int) := by omega
      by_cases hbt : bitI y r = 1
      · rw [if_pos hbt] at hpr
        have hl1 := HLd.out r hbt
        rw [hbt] at hbit
        obtain ⟨l0, l1⟩ := HL.out r
        obtain ⟨bl, ol, z, hal, hbbl, hcz, hz⟩ := ((ol4.out.rd.mono (B' := w4.heap.size) h34).below hwi (Nat.le_refl _)).get (k := r) (by rw [loadsL_len]; exact hlt)
        subst hal
        have ez : z = loadF C (ch.set u (wy : Int)) r := by
          have := hz.out
          rw [loadsL_get hlt] at this
          injection this with this
          exact this.symm
        rw [← ez] at hl1 l0 l1
        have LC1 := Lib.hid (LC.out wr.drew (Hh.out.below (below_drew' bi4) (Nat.le_refl _)) (by have := bi4.size; simpa using Nat.le_trans (by omega) this) r z (by omega) hl1 l1)
        have hcb := Hcb.out r z
        have HS : Hid (s + costF C r z = paySum C (ch.set u (wy : Int)) wy (r + 1)) := by
          show _ = _
          rw [hs2, hpr, hs.out, ez]
        obtain ⟨cb0, cb1⟩ := hcb
        have Hwi := Lib.hid hwi
        have hltA : w.heap.size < wr.heap.size := by have := hwi.size; omega
        have hltB : bl < wr.heap.size := by have := hwi.size; omega
        have EE := Lib.hid (And.intro e0 (And.intro e1 (And.intro e2 (And.intro e3 hcz))))
        have hrn0 : (0 : Int) ≤ (r : Int) := by omega
        have hrn1 : (r : Int) < (n : Int) := by omega
        clear hpr hs2 hz ez hbt hs hwi
        generalize costF C r z = cz at *
        have hwr : IntKind.i64.wrap (s + cz) = s + cz := IntWalk.i64_in _ (by omega)
        have Hwr := Lib.hid hwr
        clear hwr
        go_wp2_with fail
        clear ey hbit
        go_region_held3 (fun w' => w'.cell? ⟨w.heap.size, 0, none⟩ = some (.int .i64 U) ∧ w'.cell? ⟨w.heap.size, 1, none⟩ = some (.int .i64 n) ∧ w'.cell? ⟨w.heap.size, 2, none⟩ = some (.slice (some ⟨b2, o2, none⟩) x2.length c2) ∧ w'.cell? ⟨w.heap.size, 3, none⟩ = some (.slice a3 x3.length c3) ∧ w'.cell? ⟨bl, ol + r, none⟩ = some (.int .i64 z))
          (first | go_keep | exact ⟨(hbq.cell (p := ⟨w.heap.size, 0, none⟩) hltA).trans EE.out.1, (hbq.cell (p := ⟨w.heap.size, 1, none⟩) hltA).trans EE.out.2.1, (hbq.cell (p := ⟨w.heap.size, 2, none⟩) hltA).trans EE.out.2.2.1, (hbq.cell (p := ⟨w.heap.size, 3, none⟩) hltA).trans EE.out.2.2.2.1, (hbq.cell (p := ⟨bl, ol + r, none⟩) hltB).trans EE.out.2.2.2.2⟩)
          ((go_at_call 211; refine (LC1.out).mono ?_; rintro e w' ⟨rfl, hbq⟩))
        all_goals
          have hwi2 := Hwi.out.drew.trans (hbq.mono (by have := Hwi.out.size; simpa using this))
          rw [Hwr.out]
          clear hbq EE
          go_wp2_with fail
          go_roundw
          case rel => exact ⟨r + 1, s + cz, by omega, by go_num, rfl, HS, hwi2⟩
          case measure => simp [intOf]; omega
      · rw [if_neg hbt] at hpr
        have hb0 : bitI y r = 0 := by have := bitI_01 y r; omega
        rw [hb0] at hbit
        have HS : Hid (s = paySum C (ch.set u (wy : Int)) wy (r + 1)) := by
          show _ = _
          rw [hs2, hpr, hs.out]; omega
        clear hpr hs2 hbt hs
        go_wp2_with fail
        go_roundw
        case rel => exact ⟨r + 1, s, by omega, by go_num, rfl, HS, hwi⟩
        case measure => simp [intOf]; omega
    · have : r = n := by omega
      subst this
      have HSF := Lib.hid (hs.out.trans HF.out.symm)
      have BF := R4.out.trans (hwi.mono (by have := R4.out.size; omega))
      clear hs hwi
      go_wp2_with fail
      go_ret
      exact ⟨ret_int HSF.out, BF⟩
end Go.Proofs.YtkbejmjkdnfemaaGreatDoor
namespace Go.Proofs.YtkbejmjkdnfemaaGreatDoor
set_option linter.unusedVariables false
set_option linter.unusedSimpArgs false
open Go.RowKit

def bU : Option (Nat × Nat) → Int
  | none => -1
  | some p => p.1
def bK : Option (Nat × Nat) → Int
  | none => 0
  | some p => p.2
theorem set_same (xs : List Int) (u : Nat) : xs.set u (xs.getD u 0) = xs := by
  apply List.ext_getElem
  · simp
  · intro i h1 h2
    rw [List.getElem_set]
    split
    · rename_i e; subst e; simp [List.getD, List.getElem?_eq_getElem h2]
    · rfl
theorem betterFrom_step (C : Cr) (ch : List Int) (f u : Nat) : betterFrom C ch (f + 1) u = match wayF C ch u with | some k => some (u, k) | none => betterFrom C ch f (u + 1) := rfl
/-- What the scan over ways says after k of them. -/
def scanB (C : Cr) (ch : List Int) (u k : Nat) : Option Nat × Int := scanF (fun k => paysF C (ch.set u (k : Int)) u) (paysF C ch u) k
theorem scanB_succ (C : Cr) (ch : List Int) (u k : Nat) : scanB C ch u (k + 1) = if paysF C (ch.set u (k : Int)) u < (scanB C ch u k).2 then (some k, paysF C (ch.set u (k : Int)) u) else scanB C ch u k := rfl
theorem scanB_ne {C : Cr} {ch : List Int} {u : Nat} {k n q : Nat} (h : (scanB C ch u n).1 = some k) (hq : ch.getD u 0 = q) : k ≠ q := by
  have := (scan_spec (fun k => paysF C (ch.set u (k : Int)) u) (paysF C ch u) n).1
  unfold scanB at h
  rw [h] at this
  intro e
  subst e
  have h3 := this.2.2
  try simp only at h3
  rw [← hq, set_same] at h3
  omega
def bestW (o : Option Nat) (q : Nat) : Nat := o.getD q
set_option maxRecDepth 10000 in
set_option maxHeartbeats 8000000 in
theorem better_any (w : World) (U : Int) (n : Nat) (a2 : Option Addr) (c2 : Nat) (x2 : List Int) (a3 : Option Addr) (c3 : Nat) (x3 : List Int) (a : Option Addr) (c : Nat) (ch : List Int) (h : RdCrowd w w.heap.size a2 x2 a3 x3) (g : Rd w w.heap.size a (ints ch)) (hc : Can ⟨U, n, x2, x3⟩ ch) :
    Calls Tryz.prog 78 #[.agg #[.int .i64 U, .int .i64 n, .slice a2 x2.length c2, .slice a3 x3.length c3], .slice a ch.length c] w fun e w' => e = .returned (.tuple #[.int .i64 (bU (betterF ⟨U, n, x2, x3⟩ ch)), .int .i64 (bK (betterF ⟨U, n, x2, x3⟩ ch))]) ∧ Below w.heap.size w w' := by
  have hUl : (ch.length : Int) = U := hc.len
  have hU8 : ch.length ≤ 8 := by have := hc.v.u8; simp only at this; omega
  have hU1 : 1 ≤ ch.length := by have := hc.v.u1; simp only at this; omega
  have hw8 : x2.length ≤ 8 := hc.v.w8
  have LCl := Lib.hid (fun w' hb => clone_any w' a c ch (g.to hb) hU1 (by omega))
  have LP := Lib.hid (fun (w' : World) (g' : Nat) (tl : List Value) (cc u wy : Nat) (hA : Blk w' g' (ints ch ++ tl) 2) (hB : w.heap.size ≤ g') (hb : Below w.heap.size w w') (hu : u < ch.length) (hw : wy < x2.length) => pays_any w' w.heap.size g' tl U n a2 c2 x2 a3 c3 x3 cc ch u wy hA hB (h.below hb (Nat.le_refl _)) hc hu hw)
  have HM : Hid (∀ x ∈ ch, 0 ≤ x ∧ x < (x2.length : Int)) := hc.mem
  have Hg := Lib.hid g
  have Hpb : Hid (∀ ch' u, -800000 ≤ paysF ⟨U, n, x2, x3⟩ ch' u ∧ paysF ⟨U, n, x2, x3⟩ ch' u ≤ 800000) := fun ch' u => pays_bd hc.v ch' u
  have Hul := Lib.hid hUl
  have Hway : Hid (∀ u, wayF ⟨U, n, x2, x3⟩ ch u = (scanB ⟨U, n, x2, x3⟩ ch u x2.length).1) := fun u => rfl
  clear h g hc hUl
  generalize hC : (⟨U, (n : Int), x2, x3⟩ : Cr) = C at *
  clear hC
  have Hstart : Hid (betterF C ch = betterFrom C ch ch.length 0) := rfl
  go_enter Tryz.func78, Tryz.ntmps78
  go_wp2_with fail
  refine (LCl.out _ (bl1 _ _)).mono ?_
  rintro e w1 ⟨a1, c1, rfl, o1, hb1⟩
  obtain ⟨go, tl, rfl, hgo, hbg, hcc, hccm, hcl⟩ := own_open o1.1 (by omega)
  have hgo' : w.heap.size < go := by simp at hgo; omega
  have kA := (Blk.new w [.int .i64 U, .int .i64 n, .slice a2 x2.length c2, .slice a3 x3.length c3] 30).same hb1
  have B1 := below_then (bl1 w (.cells #[.int .i64 U, .int .i64 n, .slice a2 x2.length c2, .slice a3 x3.length c3] 30)) hb1
  have KA := Lib.hid kA
  have KG := Lib.hid hbg
  clear o1 hb1 kA hbg LCl
  go_wp2_with fail
  go_loopw [17] (fun i wr => ∃ k : Nat, k ≤ ch.length ∧ i = .int .i64 k ∧ Hid (betterF C ch = betterFrom C ch (ch.length - k) k) ∧ Hid (Blk wr go (ints ch ++ tl) 2) ∧ Hid (Blk wr w.heap.size [.int .i64 U, .int .i64 n, .slice a2 x2.length c2, .slice a3 x3.length c3] 30) ∧ Below w.heap.size w wr) (fun i _ => ch.length - (intOf i).toNat)
  case atStart => exact ⟨0, Nat.zero_le _, rfl, Hstart.out, KG.out, KA.out, B1⟩
  case round =>
    clear KA KG B1 Hstart
    obtain ⟨k, hk, rfl, hbf, hG, hA, hw⟩ := hrel
    have q0 := hA.out.cell 0
    have q1 := hA.out.cell 1
    have q2 := hA.out.cell 2
    have q3 := hA.out.cell 3
    simp only [List.getElem?_cons_zero, List.getElem?_cons_succ] at q0 q1 q2 q3
    by_cases hlt : k < ch.length
    · obtain ⟨b1, o1, x, rfl, hbb1, hck, hx⟩ := (Hg.out.below hw (Nat.le_refl _)).get hlt
      obtain ⟨x0, x8⟩ := HM.out x (List.mem_of_getElem? hx.out)
      obtain ⟨q, rfl⟩ : ∃ q : Nat, x = q := ⟨x.toNat, by omega⟩
      have hq8 : q < x2.length := by (try simp only at x8); omega
      have Hxq : Hid (ch.getD k 0 = q) := getD_of_get hx.out
      have LP1 := Lib.hid (LP.out wr go tl c1 k q hG.out (by omega) hw hlt hq8)
      have Hset : Hid (ch.set k (q : Int) = ch) := by show _ = _; rw [← Hxq.out]; exact set_same ch k
      rw [Hset.out] at LP1
      have hp0 := Hpb.out ch k
      have Hl0 : Hid ((scanB C ch k 0).2 = paysF C ch k ∧ (scanB C ch k 0).1 = none) := ⟨rfl, rfl⟩
      have Hfs : Hid (ch.length - k = (ch.length - (k + 1)) + 1) := by show _ = _; omega
      obtain ⟨p0, p1⟩ := hp0
      clear hx
      go_wp2_with fail
      refine LP1.out.mono ?_
      rintro e w2 ⟨rfl, hb2⟩
      have hG2 := Lib.hid (hG.out.same hb2)
      have hA2 := Lib.hid (hA.out.same hb2)
      have hw2 := hw.trans (hb2.mono hw.size)
      have r2 := hA2.out.cell 2
      simp only [List.getElem?_cons_zero, List.getElem?_cons_succ] at r2
      clear hb2 hG hA LP1 q0 q1 q2 q3 hck hw
      go_wp2_with fail
      go_loopw [31, 9, 10] (fun i bb ll wi => ∃ (j : Nat) (ob : Option Nat) (l : Int), j ≤ x2.length ∧ i = .int .i64 j ∧ bb = .int .i64 (bestW ob q : Nat) ∧ ll = .int .i64 l ∧ Hid (scanB C ch k j = (ob, l)) ∧ Hid (Blk wi go (ints ch ++ tl) 2) ∧ Hid (Blk wi w.heap.size [.int .i64 U, .int .i64 n, .slice a2 x2.length c2, .slice a3 x3.length c3] 30) ∧ Below w.heap.size w wi) (fun i _ _ _ => x2.length - (intOf i).toNat)
      case atStart => exact ⟨0, none, _, Nat.zero_le _, rfl, rfl, rfl, rfl, hG2.out, hA2.out, hw2⟩
      case round =>
        clear hG2 hA2 hw2 r2 p0 p1
        obtain ⟨j, ob, l, hj, rfl, rfl, rfl, hsc, hG, hA, hw⟩ := hrel
        have q0 := hA.out.cell 0
        have q1 := hA.out.cell 1
        have q2 := hA.out.cell 2
        have q3 := hA.out.cell 3
        simp only [List.getElem?_cons_zero, List.getElem?_cons_succ] at q0 q1 q2 q3
        by_cases hlj : j < x2.length
        · have LP1 := Lib.hid (LP.out wr go tl c1 k j hG.out (by omega) hw hlt hlj)
          have hst := scanB_succ C ch k j
          rw [hsc.out] at hst
          simp only at hst
          obtain ⟨p0, p1⟩ := Hpb.out (ch.set k (j : Int)) k
          by_cases hlt2 : paysF C (ch.set k (j : Int)) k < l
          · rw [if_pos hlt2] at hst
            have Hst := Lib.hid hst
            clear hst hsc
            generalize paysF C (ch.set k (j : Int)) k = pj at *
            go_wp2_with fail
            refine LP1.out.mono ?_
            rintro e w3 ⟨rfl, hb3⟩
            have hG3 := Lib.hid (hG.out.same hb3)
            have hA3 := Lib.hid (hA.out.same hb3)
            have hw3 := hw.trans (hb3.mono hw.size)
            clear hb3 hG hA LP1 q0 q1 q2 q3 hw
            go_wp2_with fail
            go_roundw
            case rel => exact ⟨j + 1, some j, pj, by omega, by go_num, rfl, rfl, Hst, hG3, hA3, hw3⟩
            case measure => simp [intOf]; omega
          · rw [if_neg hlt2] at hst
            have Hst := Lib.hid hst
            clear hst hsc
            generalize paysF C (ch.set k (j : Int)) k = pj at *
            go_wp2_with fail
            refine LP1.out.mono ?_
            rintro e w3 ⟨rfl, hb3⟩
            have hG3 := Lib.hid (hG.out.same hb3)
            have hA3 := Lib.hid (hA.out.same hb3)
            have hw3 := hw.trans (hb3.mono hw.size)
            clear hb3 hG hA LP1 q0 q1 q2 q3 hw
            go_wp2_with fail
            go_roundw
            case rel => exact ⟨j + 1, ob, l, by omega, by go_num, rfl, rfl, Hst, hG3, hA3, hw3⟩
            case measure => simp [intOf]; omega
        · have : j = x2.length := by omega
          subst this
          have hbs := hbf.out
          rw [Hfs.out, betterFrom_step, Hway.out, hsc.out] at hbs
          simp only at hbs
          cases ob with
          | none =>
            have HB2 := Lib.hid hbs
            rw [show bestW none q = q from rfl]
            have hne : ((q : Int) != (q : Int)) = false := by simp
            clear hbs hsc hbf q0 q1 q2 q3
            go_wp2_with fail
            go_roundw
            case rel => exact ⟨k + 1, by omega, by go_num, HB2, hG, hA, hw⟩
            case measure => simp [intOf]; omega
          | some kk =>
            rw [show bestW (some kk) q = kk from rfl]
            have hkq : kk ≠ q := scanB_ne (n := x2.length) (by rw [hsc.out]) Hxq.out
            have hne : ((kk : Int) != (q : Int)) = true := by simp; omega
            have HR : Hid (bU (betterF C ch) = k ∧ bK (betterF C ch) = kk) := by show _ ∧ _; rw [hbs]; exact ⟨rfl, rfl⟩
            clear hbs hsc hbf hkq q0 q1 q2 q3
            go_wp2_with fail
            go_ret2
            exact ⟨by rw [HR.out.1, HR.out.2]; rfl, hw⟩
    · have : k = ch.length := by omega
      subst this
      have hbs := hbf.out
      rw [Nat.sub_self] at hbs
      have HR : Hid (bU (betterF C ch) = -1 ∧ bK (betterF C ch) = 0) := by show _ ∧ _; rw [hbs]; exact ⟨rfl, rfl⟩
      clear hbs hbf q0 q1 q2 q3
      go_wp2_with fail
      go_ret2
      exact ⟨by rw [HR.out.1, HR.out.2]; rfl, hw⟩
end Go.Proofs.YtkbejmjkdnfemaaGreatDoor
namespace Go.Proofs.YtkbejmjkdnfemaaGreatDoor
set_option linter.unusedVariables false
set_option linter.unusedSimpArgs false
open Go.RowKit

end Go.Proofs.YtkbejmjkdnfemaaGreatDoor
namespace Go.Proofs.YtkbejmjkdnfemaaGreatDoor
set_option linter.unusedVariables false
set_option linter.unusedSimpArgs false
open Go.RowKit

theorem roads_nat {U R : Int} {x2 x3 ch : List Int} (hc : Can ⟨U, R, x2, x3⟩ ch) : ∃ n : Nat, R = n := ⟨R.toNat, by have := hc.v.r1; simp only at this; omega⟩
end Go.Proofs.YtkbejmjkdnfemaaGreatDoor
namespace Go.Proofs.YtkbejmjkdnfemaaGreatDoor
set_option linter.unusedVariables false
set_option linter.unusedSimpArgs false
open Go.RowKit

end Go.Proofs.YtkbejmjkdnfemaaGreatDoor
namespace Go.Proofs.YtkbejmjkdnfemaaGreatDoor
set_option linter.unusedVariables false
set_option linter.unusedSimpArgs false
open Go.RowKit

def RetT (T : Nat) (w : World) (r : Option (List Int × Int)) (e : Ending) (w' : World) : Prop :=
  Below w.heap.size w w' ∧ match r with
    | none => e = .returned (.tuple #[.slice none 0 0, .int .i64 0, .bool false])
    | some (ys, m) => ∃ a c, e = .returned (.tuple #[.slice a ys.length c, .int .i64 m, .bool true]) ∧ w'.ownsRow w.heap.size T 1 (.slice a ys.length c) ys.length (ints ys)
theorem RetT.no {T : Nat} {w w' : World} (h : Below w.heap.size w w') : RetT T w none (.returned (.tuple #[.slice none 0 0, .int .i64 0, .bool false])) w' := ⟨h, rfl⟩
end Go.Proofs.YtkbejmjkdnfemaaGreatDoor
