/-
  What a user pays: both roads.
-/
import Derived.Test.YtbgclfbhdpgdaaaCrowdLR
import Derived.Deep.RegionHeld3
namespace Go.Proofs.Ytbgclfbhdpgdaaa
set_option linter.unusedVariables false
set_option linter.unusedSimpArgs false
open Go.RowKit

/-- What is paid over the first roads. -/
def paySum (C : Cr) (ch : List Int) (wy : Int) (k : Nat) : Int := sumR (payR C ch wy) k
theorem paySum_bd {C : Cr} (h : Valid C) (ch : List Int) (wy : Int) (k : Nat) (hk : k ≤ 8) : -800000 ≤ paySum C ch wy k ∧ paySum C ch wy k ≤ 800000 := by
  have := sumR_bd (f := payR C ch wy) (m := 100000) (n := k) (fun i _ => by
    unfold payR
    split
    · exact cost_bd h i _
    · omega)
  unfold paySum
  omega
theorem load_user {C : Cr} {ch : List Int} {u : Nat} (hu : u < ch.length) {r : Nat} (h : bitI (C.ways.getD (ch.getD u 0).toNat 0) r = 1) : 1 ≤ loadF C ch r := by
  have := load_ge C r ch u hu
  omega
set_option maxRecDepth 10000 in
set_option maxHeartbeats 4000000 in
theorem l06Pays_any (w : World) (b o : Nat) (U : Int) (n : Nat) (a2 : Option Addr) (c2 : Nat) (x2 : List Int) (a3 : Option Addr) (c3 : Nat) (x3 : List Int) (a : Option Addr) (c : Nat) (ch : List Int) (u : Nat)
    (d0 : w.cell? ⟨b, o, none⟩ = some (.int .i64 U)) (d1 : w.cell? ⟨b, o + 1, none⟩ = some (.int .i64 n)) (d2 : w.cell? ⟨b, o + 2, none⟩ = some (.slice a2 x2.length c2)) (d3 : w.cell? ⟨b, o + 3, none⟩ = some (.slice a3 x3.length c3))
    (h : RdCrowd w w.heap.size a2 x2 a3 x3) (g : Rd w w.heap.size a (ints ch)) (hc : Can ⟨U, n, x2, x3⟩ ch) (hu : u < ch.length) :
    Calls Try.prog 81 #[.pointer (some ⟨b, o, none⟩), .slice a ch.length c, .int .i64 u] w fun e w' => e = .returned (.int .i64 (paysF ⟨U, n, x2, x3⟩ ch u)) ∧ Below w.heap.size w w' := by
  have hn8 : n ≤ 8 := by have := hc.v.r8; simp only at this; omega
  have hU8 : ch.length ≤ 8 := by have := hc.v.u8; have := hc.len; simp only at *; omega
  have hUl : (ch.length : Int) = U := hc.len
  have hbw := World.block_lt_of_cell? w _ d0
  simp only at hbw
  have LL := Lib.hid (l06Loads_any w b o U n a2 c2 x2 x3 a c ch d1 d2 h.1 g hc)
  have HV := Lib.hid hc.v
  have LC := Lib.hid (fun (w' : World) (e0 : w'.cell? ⟨b, o, none⟩ = some (.int .i64 U)) (e3 : w'.cell? ⟨b, o + 3, none⟩ = some (.slice a3 x3.length c3)) (hr : Rd w' w.heap.size a3 (ints x3)) (r : Nat) (m : Int) (hrn : (r : Int) < n) (m0 : 0 ≤ m) (m8 : m ≤ U) => l06Cost_any w' w.heap.size b o U n r m a3 c3 x2 x3 e0 e3 hr hc.v hrn m0 m8)
  have HP : Hid (∀ k, k ≤ 8 → -800000 ≤ paySum ⟨U, n, x2, x3⟩ ch (ch.getD u 0) k ∧ paySum ⟨U, n, x2, x3⟩ ch (ch.getD u 0) k ≤ 800000) := fun k hk => paySum_bd hc.v ch _ k hk
  have HF : Hid (paysF ⟨U, n, x2, x3⟩ ch u = paySum ⟨U, n, x2, x3⟩ ch (ch.getD u 0) n) := by show _ = _; unfold paysF paySum; simp
  have hch := hc.mem _ (List.mem_of_getElem? (get_of_lt hu))
  obtain ⟨b1, o1, x, rfl, hbb1, hck0, hx⟩ := g.get hu
  have ex : ch.getD u 0 = x := getD_of_get hx.out
  rw [ex] at HF HP hch
  obtain ⟨q, rfl⟩ : ∃ q : Nat, x = q := ⟨x.toNat, by omega⟩
  have hq8 : q < x2.length := by (try simp only at hch); omega
  obtain ⟨b2, o2, y, hax, hbb2, hcy0, hy⟩ := h.1.get (k := q) hq8
  subst hax
  obtain ⟨y1, y8⟩ := hc.v.way _ (List.mem_of_getElem? hy.out)
  have Hcost : Hid (∀ r : Nat, payR ⟨U, n, x2, x3⟩ ch q r = if bitI y r = 1 then costF ⟨U, n, x2, x3⟩ r (loadF ⟨U, n, x2, x3⟩ ch r) else 0) := fun r => by
    have eqy : (⟨U, n, x2, x3⟩ : Cr).ways.getD ((q : Int)).toNat 0 = y := getD_of_get hy.out
    unfold payR
    simp only [eqy]
  have HL : Hid (∀ r : Nat, 0 ≤ loadF ⟨U, n, x2, x3⟩ ch r ∧ loadF ⟨U, n, x2, x3⟩ ch r ≤ ch.length) := fun r => load_bd _ r ch
  have Hd := Lib.hid (And.intro d0 (And.intro d1 (And.intro d2 d3)))
  have Hck := Lib.hid hck0
  have Hcy := Lib.hid hcy0
  have H3 := Lib.hid h.2
  have Hcb : Hid (∀ r : Nat, ∀ m : Int, -100000 ≤ costF ⟨U, n, x2, x3⟩ r m ∧ costF ⟨U, n, x2, x3⟩ r m ≤ 100000) := fun r m => cost_bd HV.out r m
  generalize hC : (⟨U, (n : Int), x2, x3⟩ : Cr) = C at *
  have Hul := Lib.hid hUl
  clear hC h g hc hx ex hy hck0 hcy0 d0 d1 d2 d3 hUl
  go_enter Try.func81, Try.ntmps81
  go_wp2_with fail
  refine LL.out.mono ?_
  rintro e w1 ⟨a', c', rfl, ol, hb1⟩
  obtain ⟨w0, rfl⟩ : ∃ w0 : World, w0 = w1 := ⟨_, rfl⟩
  have hrl := Lib.hid ol.rd
  have B1 := Lib.hid hb1
  clear LL ol hb1
  go_wp2_with fail
  go_loopw [9, 8] (fun rr ss wi => ∃ (r m : Nat) (s : Int), r ≤ n ∧ rr = .int .i64 r ∧ ss = .int .i64 s ∧ Hid (s = paySum C ch q r) ∧ wi = w0.drewN m) (fun rr _ _ => n - (intOf rr).toNat)
  case atStart => exact ⟨0, 0, 0, Nat.zero_le _, rfl, rfl, rfl, rfl⟩
  case round =>
    obtain ⟨r, m, s, hr, rfl, rfl, hs, rfl⟩ := hrel
    have e0 := (B1.out.cell (p := ⟨b, o, none⟩) hbw).trans Hd.out.1
    have e1 := (B1.out.cell (p := ⟨b, o + 1, none⟩) hbw).trans Hd.out.2.1
    have e2 := (B1.out.cell (p := ⟨b, o + 2, none⟩) hbw).trans Hd.out.2.2.1
    have e3 := (B1.out.cell (p := ⟨b, o + 3, none⟩) hbw).trans Hd.out.2.2.2
    by_cases hlt : r < n
    · have ek := (B1.out.cell (p := ⟨b1, o1 + u, none⟩) hbb1).trans Hck.out
      have ey := (B1.out.cell (p := ⟨b2, o2 + q, none⟩) hbb2).trans Hcy.out
      have hbit := bit_of (show 0 ≤ y by omega) (show y ≤ 255 by omega) r
      have hpr := Hcost.out r
      have hs2 : paySum C ch q (r + 1) = paySum C ch q r + payR C ch q r := rfl
      obtain ⟨s0, s1⟩ := HP.out r (by omega)
      rw [← hs.out] at s0 s1
      have hq0 : (0 : Int) ≤ (q : Int) := by omega
      have hq1 : (q : Int) < (x2.length : Int) := by omega
      have hu0 : (0 : Int) ≤ (u : Int) := by omega
      have hu1 : (u : Int) < (ch.length : Int) := by omega
      by_cases hbt : bitI y r = 1
      · rw [if_pos hbt] at hpr
        rw [hbt] at hbit
        obtain ⟨l0, l1⟩ := HL.out r
        obtain ⟨bl, ol, z, hal, hbbl, hcz, hz⟩ := hrl.out.get (k := r) (by rw [loadsL_len]; exact hlt)
        subst hal
        have ez : z = loadF C ch r := by
          have := hz.out
          rw [loadsL_get hlt] at this
          injection this with this
          exact this.symm
        have LC1 := Lib.hid (fun mm => LC.out (w0.drewN mm) e0 e3 (H3.out.below (below_drewN B1.out mm) (Nat.le_refl _)) r z (by omega) (by omega) (by have := Hul.out; omega))
        have hcb := Hcb.out r z
        have HS : Hid (s + costF C r z = paySum C ch q (r + 1)) := by
          show _ = _
          rw [hs2, hpr, hs.out, ez]
        obtain ⟨cb0, cb1⟩ := hcb
        clear hpr hs2 hz ez hbt hs
        generalize costF C r z = cz at *
        go_wp2_with fail
        go_quiet (fail)
        go_wp2_with fail
        refine (LC1.out _).mono ?_
        rintro e w2 ⟨rfl, m2, rfl⟩
        go_wp2_with fail
        go_roundw
        case rel => exact ⟨r + 1, _, s + cz, by omega, by go_num, rfl, HS, by first | rfl | exact World.drewN_drewN _ _ _ | (rw [World.drewN_drewN, World.drewN_drewN])⟩
        case measure => simp [intOf]; omega
      · rw [if_neg hbt] at hpr
        have hb0 : bitI y r = 0 := by have := bitI_01 y r; omega
        rw [hb0] at hbit
        have HS : Hid (s = paySum C ch q (r + 1)) := by
          show _ = _
          rw [hs2, hpr, hs.out]; omega
        clear hpr hs2 hbt hs
        go_wp2_with fail
        go_quiet (fail)
        go_wp2_with fail
        go_roundw
        case rel => exact ⟨r + 1, _, s, by omega, by go_num, rfl, HS, by first | rfl | exact World.drewN_drewN _ _ _⟩
        case measure => simp [intOf]; omega
    · have : r = n := by omega
      subst this
      have hsf := hs.out.trans HF.out.symm
      have HSF := Lib.hid hsf
      have B2 := below_drewN B1.out m
      clear hsf hs
      go_wp2_with fail
      go_ret
      exact ⟨ret_int HSF.out, B2⟩
end Go.Proofs.Ytbgclfbhdpgdaaa
