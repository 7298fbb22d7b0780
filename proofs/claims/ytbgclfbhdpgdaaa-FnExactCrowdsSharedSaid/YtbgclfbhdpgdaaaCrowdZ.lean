/-
  What a user pays on a way: the program's road, which turns a choice and turns it back.
-/
import Derived.Test.YtbgclfbhdpgdaaaCrowdY
import Derived.Test.YtbgclfbhdpgdaaaGrow
namespace Go.Proofs.Ytbgclfbhdpgdaaa
set_option linter.unusedVariables false
set_option linter.unusedSimpArgs false
open Go.RowKit

theorem setg_grown (w : World) (g j : Nat) (u : Value) : w.grownBy (w.setCell ⟨g, j, none⟩ u) (some g) := ⟨rfl, rfl, rfl, by simp, fun i _ hi => Below.heap_setCell _ _ _ _ (fun e => hi (by simp [e]))⟩
theorem below_grownBy {w w' : World} (hb : Below w.heap.size w w') (r : Option Nat) : w.grownBy w' r := ⟨hb.os, hb.tape, hb.output, hb.size, fun k hk _ => hb.block k hk⟩
theorem below_restore {w w4 : World} {g : Nat} {cs : List Value} {T : TypeId} (h : Blk w g cs T) (h4 : Blk w4 g cs T) (hg : w.grownBy w4 (some g)) : Below w.heap.size w w4 :=
  ⟨hg.os, hg.tape, hg.output, hg.size, fun k hk => by
    by_cases e : k = g
    · subst e; exact h4.trans h.symm
    · exact hg.block k hk (by intro e2; injection e2 with e2; exact e e2)⟩
theorem set_back {xs : List Int} {u : Nat} (h : u < xs.length) (v : Int) : (xs.set u v).set u (xs.getD u 0) = xs := by
  rw [List.set_set]
  apply List.ext_getElem
  · simp
  · intro i h1 h2
    rw [List.getElem_set]
    split
    · rename_i e; subst e; simp [List.getD, List.getElem?_eq_getElem h]
    · rfl
set_option maxRecDepth 10000 in
set_option maxHeartbeats 8000000 in
theorem pays_any (w : World) (B g : Nat) (tl : List Value) (U : Int) (n : Nat) (a2 : Option Addr) (c2 : Nat) (x2 : List Int) (a3 : Option Addr) (c3 : Nat) (x3 : List Int) (c : Nat) (ch : List Int) (u wy : Nat)
    (hA : Blk w g (ints ch ++ tl) 2) (hBg : B ≤ g) (h : RdCrowd w B a2 x2 a3 x3) (hc : Can ⟨U, n, x2, x3⟩ ch) (hu : u < ch.length) (hwy : wy < x2.length) :
    Calls Try.prog 83 #[.agg #[.int .i64 U, .int .i64 n, .slice a2 x2.length c2, .slice a3 x3.length c3], .slice (some ⟨g, 0, none⟩) ch.length c, .int .i64 u, .int .i64 wy] w fun e w' => e = .returned (.int .i64 (paysF ⟨U, n, x2, x3⟩ (ch.set u (wy : Int)) u)) ∧ Below w.heap.size w w' := by
  have hn8 : n ≤ 8 := by have := hc.v.r8; simp only at this; omega
  have hUl : (ch.length : Int) = U := hc.len
  have hU8 : ch.length ≤ 8 := by have := hc.v.u8; simp only at this; omega
  have hgl := hA.lt
  have hgne : g ≠ w.heap.size := by omega
  have hc' : Can ⟨U, n, x2, x3⟩ (ch.set u (wy : Int)) := hc.set hwy
  have lset : (ch.set u (wy : Int)).length = ch.length := by simp
  -- the worlds
  have hcu := cell_app hA (j := u) hu
  have hfu := hA.free u
  have w2A := (set_app hA (j := u) hu (wy : Int)).alloc (.cells #[.int .i64 U, .int .i64 n, .slice a2 x2.length c2, .slice a3 x3.length c3] 28)
  have hB2 : Below B w ((w.setCell ⟨g, u, none⟩ (.int .i64 wy)).alloc (.cells #[.int .i64 U, .int .i64 n, .slice a2 x2.length c2, .slice a3 x3.length c3] 28)) := (below_sto (Below.refl B w) hBg u (.int .i64 wy)).alloc (by simp; omega) _
  have h2 := (h.below hB2 (Nat.le_refl _)).mono (C := ((w.setCell ⟨g, u, none⟩ (.int .i64 wy)).alloc (.cells #[.int .i64 U, .int .i64 n, .slice a2 x2.length c2, .slice a3 x3.length c3] 28)).heap.size) (by simp; omega)
  have LL0 := loads_any _ U n a2 c2 x2 a3 c3 x3 (some ⟨g, 0, none⟩) c (ch.set u (wy : Int)) h2 (rd_app w2A (by simp; omega)) hc'
  rw [lset] at LL0
  have LL := Lib.hid LL0
  have HW2A := Lib.hid w2A
  have G2 : Hid (w.grownBy ((w.setCell ⟨g, u, none⟩ (.int .i64 wy)).alloc (.cells #[.int .i64 U, .int .i64 n, .slice a2 x2.length c2, .slice a3 x3.length c3] 28)) (some g)) := grown_of_grown (setg_grown _ g u _) (below_grownBy (bl1 _ _) _)
  have kA2 := Blk.new (w.setCell ⟨g, u, none⟩ (.int .i64 wy)) [.int .i64 U, .int .i64 n, .slice a2 x2.length c2, .slice a3 x3.length c3] 28
  rw [show (w.setCell ⟨g, u, none⟩ (.int .i64 wy)).heap.size = w.heap.size by simp] at kA2
  have KA2 := Lib.hid kA2
  have HA := Lib.hid hA
  have Hh := Lib.hid h
  have HB2 := Lib.hid hB2
  have HV := Lib.hid hc.v
  have HSB := Lib.hid (set_back hu (wy : Int))
  have HP : Hid (∀ k, k ≤ 8 → -800000 ≤ paySum ⟨U, n, x2, x3⟩ (ch.set u (wy : Int)) wy k ∧ paySum ⟨U, n, x2, x3⟩ (ch.set u (wy : Int)) wy k ≤ 800000) := fun k hk => paySum_bd hc.v _ _ k hk
  have egs : (ch.set u (wy : Int)).getD u 0 = wy := getD_set_same hu _
  have HF : Hid (paysF ⟨U, n, x2, x3⟩ (ch.set u (wy : Int)) u = paySum ⟨U, n, x2, x3⟩ (ch.set u (wy : Int)) wy n) := by show _ = _; unfold paysF paySum; rw [egs]; simp
  have HLd : Hid (∀ r : Nat, bitI (x2.getD wy 0) r = 1 → 1 ≤ loadF ⟨U, n, x2, x3⟩ (ch.set u (wy : Int)) r) := fun r hr => load_user (C := ⟨U, n, x2, x3⟩) (u := u) (by rw [lset]; exact hu) (by rw [egs]; exact hr)
  have HL : Hid (∀ r : Nat, 0 ≤ loadF ⟨U, n, x2, x3⟩ (ch.set u (wy : Int)) r ∧ loadF ⟨U, n, x2, x3⟩ (ch.set u (wy : Int)) r ≤ U) := fun r => by have := load_bd ⟨U, n, x2, x3⟩ r (ch.set u (wy : Int)); rw [lset] at this; omega
  have Hcb : Hid (∀ r : Nat, ∀ m : Int, -100000 ≤ costF ⟨U, n, x2, x3⟩ r m ∧ costF ⟨U, n, x2, x3⟩ r m ≤ 100000) := fun r m => cost_bd HV.out r m
  have HWay := Lib.hid hc.v.way
  have LC := Lib.hid (fun (w' : World) (hr : RdCrowd w' B a2 x2 a3 x3) (hB' : B ≤ w'.heap.size) (r : Nat) (m : Int) (hrn : (r : Int) < n) (m0 : 1 ≤ m) (m8 : m ≤ U) => cost_any w' B U n r m a2 c2 x2 a3 c3 x3 hr hB' hc.v hrn m0 m8)
  obtain ⟨b2, o2, y, hax, hbb2, hcy0, hy⟩ := h.1.get (k := wy) hwy
  have Hcy := Lib.hid hcy0
  have hyg : x2.getD wy 0 = y := getD_of_get hy.out
  have hyw := HWay.out y (List.mem_of_getElem? hy.out)
  rw [hyg] at HLd
  have Hpay : Hid (∀ r : Nat, payR ⟨U, n, x2, x3⟩ (ch.set u (wy : Int)) wy r = if bitI y r = 1 then costF ⟨U, n, x2, x3⟩ r (loadF ⟨U, n, x2, x3⟩ (ch.set u (wy : Int)) r) else 0) := fun r => by
    have eqy : (⟨U, n, x2, x3⟩ : Cr).ways.getD ((wy : Int)).toNat 0 = y := hyg
    unfold payR
    simp only [eqy]
  subst hax
  obtain ⟨y1, y8⟩ := hyw
  obtain ⟨old, hold⟩ : ∃ old, old = ch.getD u 0 := ⟨_, rfl⟩
  rw [← hold] at hcu HSB
  generalize hC : (⟨U, (n : Int), x2, x3⟩ : Cr) = C at *
  have Hul := Lib.hid hUl
  clear hC hold hUl hc hc' lset w2A hB2 h2 LL0 kA2 hA h egs hcy0 hy hyg HWay
  go_enter Try.func83, Try.ntmps83
  go_wp2_with fail
  refine LL.out.mono ?_
  rintro e w3 ⟨a', c', rfl, ol, hb3⟩
  have k3A := HW2A.out.same hb3
  have kk3 := KA2.out.same hb3
  have G3 := grown_of_grown G2.out (below_grownBy hb3 _)
  have B3 := HB2.out.trans (hb3.mono (by simp; omega))
  have s3 := hb3.size
  simp at s3
  have hcell3 := cell_app k3A (j := u) (by simpa using hu)
  have hfree3 := k3A.free u
  have k4A := set_app k3A (j := u) (by simpa using hu) old
  rw [HSB.out] at k4A
  have G4 := Lib.hid (grown_of_grown G3 (setg_grown w3 g u (.int .i64 old)))
  have kk4 := Lib.hid (kk3.oth (g := g) (by omega) u (.int .i64 old))
  have B4 := Lib.hid (below_sto B3 hBg u (.int .i64 old))
  have ol4 := Lib.hid (ol.touch (Touch.of_grown (setg_grown w3 g u (.int .i64 old)) (Nat.le_refl _) (Nat.lt_succ_self _)) (.inr (by simp; omega)))
  have K4A := Lib.hid k4A
  have h34 : w3.heap.size ≤ (w3.setCell ⟨g, u, none⟩ (.int .i64 old)).heap.size := by simp
  have e4 := kk4.out.cell 1
  simp only [List.getElem?_cons_zero, List.getElem?_cons_succ] at e4
  have R4 := Lib.hid (below_restore HA.out K4A.out G4.out)
  have s4 : w.heap.size + 1 ≤ (w3.setCell ⟨g, u, none⟩ (.int .i64 old)).heap.size := by simp; omega
  clear LL ol hb3 k3A kk3 G3 B3 k4A G2 KA2
  go_wp2_with fail
  generalize hW4 : w3.setCell ⟨g, u, none⟩ (.int .i64 old) = w4 at *
  clear hW4
  go_loopw [30, 11] (fun rr ss wi => ∃ (r : Nat) (s : Int), r ≤ n ∧ rr = .int .i64 r ∧ ss = .int .i64 s ∧ Hid (s = paySum C (ch.set u (wy : Int)) wy r) ∧ Below w4.heap.size w4 wi) (fun rr _ _ => n - (intOf rr).toNat)
  case atStart => exact ⟨0, 0, Nat.zero_le _, rfl, rfl, rfl, Below.refl _ _⟩
  case round =>
    clear e4
    obtain ⟨r, s, hr, rfl, rfl, hs, hwi⟩ := hrel
    by_cases hlt : r < n
    · have kk := kk4.out.below hwi (by omega)
      have e0 := kk.cell 0
      have e1 := kk.cell 1
      have e2 := kk.cell 2
      have e3 := kk.cell 3
      simp only [List.getElem?_cons_zero, List.getElem?_cons_succ] at e0 e1 e2 e3
      have bi4 := B4.out.trans (hwi.mono (Nat.le_trans (by omega) (Nat.le_refl _)))
      have ey := (bi4.cell (p := ⟨b2, o2 + wy, none⟩) hbb2).trans Hcy.out
      have hbit := bit_of (show 0 ≤ y by omega) (show y ≤ 255 by omega) r
      have hpr := Hpay.out r
      have hs2 : paySum C (ch.set u (wy : Int)) wy (r + 1) = paySum C (ch.set u (wy : Int)) wy r + payR C (ch.set u (wy : Int)) wy r := rfl
      obtain ⟨s0, s1⟩ := HP.out r (by omega)
      rw [← hs.out] at s0 s1
      have hq0 : (0 : Int) ≤ (wy : Int) := by omega
      have hq1 : (wy : Int) < (x2.length : Int) := by omega
      by_cases hbt : bitI y r = 1
      · rw [if_pos hbt] at hpr
        have hl1 := HLd.out r hbt
        rw [hbt] at hbit
        obtain ⟨l0, l1⟩ := HL.out r
        obtain ⟨bl, ol, z, hal, hbbl, hcz, hz⟩ := ((ol4.out.rd.mono (B' := w4.heap.size) h34).below hwi (Nat.le_refl _)).get (k := r) (by rw [loadsL_len]; exact hlt)
        subst hal
        have ez : z = loadF C (ch.set u (wy : Int)) r := by
          have := hz.out
          rw [loadsL_get hlt] at this
          injection this with this
          exact this.symm
        rw [← ez] at hl1 l0 l1
        have LC1 := Lib.hid (LC.out wr.drew (Hh.out.below (below_drew' bi4) (Nat.le_refl _)) (by have := bi4.size; simpa using Nat.le_trans (by omega) this) r z (by omega) hl1 l1)
        have hcb := Hcb.out r z
        have HS : Hid (s + costF C r z = paySum C (ch.set u (wy : Int)) wy (r + 1)) := by
          show _ = _
          rw [hs2, hpr, hs.out, ez]
        obtain ⟨cb0, cb1⟩ := hcb
        have Hwi := Lib.hid hwi
        have hltA : w.heap.size < wr.heap.size := by have := hwi.size; omega
        have hltB : bl < wr.heap.size := by have := hwi.size; omega
        have EE := Lib.hid (And.intro e0 (And.intro e1 (And.intro e2 (And.intro e3 hcz))))
        have hrn0 : (0 : Int) ≤ (r : Int) := by omega
        have hrn1 : (r : Int) < (n : Int) := by omega
        clear hpr hs2 hz ez hbt hs hwi
        generalize costF C r z = cz at *
        have hwr : IntKind.i64.wrap (s + cz) = s + cz := IntWalk.i64_in _ (by omega)
        have Hwr := Lib.hid hwr
        clear hwr
        go_wp2_with fail
        clear ey hbit
        go_region_held3 (fun w' => w'.cell? ⟨w.heap.size, 0, none⟩ = some (.int .i64 U) ∧ w'.cell? ⟨w.heap.size, 1, none⟩ = some (.int .i64 n) ∧ w'.cell? ⟨w.heap.size, 2, none⟩ = some (.slice (some ⟨b2, o2, none⟩) x2.length c2) ∧ w'.cell? ⟨w.heap.size, 3, none⟩ = some (.slice a3 x3.length c3) ∧ w'.cell? ⟨bl, ol + r, none⟩ = some (.int .i64 z))
          (first | go_keep | exact ⟨(hbq.cell (p := ⟨w.heap.size, 0, none⟩) hltA).trans EE.out.1, (hbq.cell (p := ⟨w.heap.size, 1, none⟩) hltA).trans EE.out.2.1, (hbq.cell (p := ⟨w.heap.size, 2, none⟩) hltA).trans EE.out.2.2.1, (hbq.cell (p := ⟨w.heap.size, 3, none⟩) hltA).trans EE.out.2.2.2.1, (hbq.cell (p := ⟨bl, ol + r, none⟩) hltB).trans EE.out.2.2.2.2⟩)
          ((go_at_call 73; refine (LC1.out).mono ?_; rintro e w' ⟨rfl, hbq⟩))
        all_goals
          have hwi2 := Hwi.out.drew.trans (hbq.mono (by have := Hwi.out.size; simpa using this))
          rw [Hwr.out]
          clear hbq EE
          go_wp2_with fail
          go_roundw
          case rel => exact ⟨r + 1, s + cz, by omega, by go_num, rfl, HS, hwi2⟩
          case measure => simp [intOf]; omega
      · rw [if_neg hbt] at hpr
        have hb0 : bitI y r = 0 := by have := bitI_01 y r; omega
        rw [hb0] at hbit
        have HS : Hid (s = paySum C (ch.set u (wy : Int)) wy (r + 1)) := by
          show _ = _
          rw [hs2, hpr, hs.out]; omega
        clear hpr hs2 hbt hs
        go_wp2_with fail
        go_roundw
        case rel => exact ⟨r + 1, s, by omega, by go_num, rfl, HS, hwi⟩
        case measure => simp [intOf]; omega
    · have : r = n := by omega
      subst this
      have HSF := Lib.hid (hs.out.trans HF.out.symm)
      have BF := R4.out.trans (hwi.mono (by have := R4.out.size; omega))
      clear hs hwi
      go_wp2_with fail
      go_ret
      exact ⟨ret_int HSF.out, BF⟩
end Go.Proofs.Ytbgclfbhdpgdaaa
