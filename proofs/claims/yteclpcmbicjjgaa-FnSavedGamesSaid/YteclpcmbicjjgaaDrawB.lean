/-
  A drawn list of what can be saved.
-/
import Derived.Test.YteclpcmbicjjgaaDrawW
import Derived.Test.YteclpcmbicjjgaaRecov
import Derived.Test.YteclpcmbicjjgaaMarkV
namespace Go.Proofs.Yteclpcmbicjjgaa
set_option linter.unusedVariables false
set_option linter.unusedSimpArgs false
open Go.RowKit
section
variable {w w' : World} {lo : Nat} {u : Value} {vs : List Sv} {hs : List Hd} {St : List (Nat × Nat)}
theorem OwnV.keepT {b : Nat} (h : OwnV w lo u vs hs St) (ht : Touch w w' b (b + 1)) (hb : b < lo) : OwnV w' lo u vs hs St :=
  ⟨h.lh, h.ls, h.row.kept (touch_grown ht) (.inr fun e => by have := (h.row.lt b e).1; omega), fun k v hd p h1 h2 h3 => let ⟨a, c, d⟩ := h.own k v hd p h1 h2 h3; ⟨a, ownS_touch c ht (.inr (by omega)), d⟩, h.dis⟩
theorem OwnV.snocT {w3 w4 : World} {u' : Value} {v : Sv} {hd : Hd} {m b : Nat} (h : OwnV w lo u vs hs St) (hlo : lo ≤ w.heap.size) (hb : Touch w w3 b (b + 1)) (hbl : b < lo) (hO : OwnSaved w3 w.heap.size m hd.1 hd.2.1 v.A hd.2.2.1 hd.2.2.2.1 v.B hd.2.2.2.2.1 hd.2.2.2.2.2 v.W)
    (ho4 : w4.ownsRow lo 34 7 u' (vs.length + 1) (flatC vs hs ++ cells1 v hd)) (hg : w3.grownBy w4 u.ownBlock) (hu : u'.ownBlock = u.ownBlock ∨ u'.ownBlock = some w3.heap.size) : OwnV w4 lo u' (vs ++ [v]) (hs ++ [hd]) (St ++ [(w.heap.size, m)]) := by
  have hub : ∀ b, u.ownBlock = some b → b < w.heap.size := fun b hb => (h.row.lt b hb).2
  have hm := own_hi hO
  refine ⟨by simp [h.lh], by simp [h.ls], ?_, fun k v' h' p h1 h2 h3 => ?_, fun i j p q hij hi hj => ?_⟩
  · rw [flatC_snoc _ _ _ _ h.lh, List.length_append]; exact ho4
  · rcases snoc_at h1 with ⟨k1, e1⟩ | ⟨k1, rfl⟩
    · rcases snoc_at h2 with ⟨k2, e2⟩ | ⟨k2, _⟩
      · rcases snoc_at h3 with ⟨k3, e3⟩ | ⟨k3, _⟩
        · obtain ⟨a1, a2, a3⟩ := h.own k v' h' p e1 e2 e3
          refine ⟨a1, ownS_grown (ownS_touch a2 hb (.inr (by omega))) hg a3, fun b hb' => ?_⟩
          rcases hu with hu | hu
          · exact a3 b (by rw [← hu]; exact hb')
          · rw [hu] at hb'
            injection hb' with hb'
            have := own_hi a2
            have := hb.size
            omega
        · have := h.ls; omega
      · have := h.lh; omega
    · rcases snoc_at h2 with ⟨k2, _⟩ | ⟨_, rfl⟩
      · have := h.lh; omega
      · rcases snoc_at h3 with ⟨k3, _⟩ | ⟨_, rfl⟩
        · have := h.ls; omega
        · refine ⟨hlo, ownS_grown hO hg fun b hb' => .inl (hub b hb'), fun b hb' => ?_⟩
          rcases hu with hu | hu
          · exact .inl (hub b (by rw [← hu]; exact hb'))
          · rw [hu] at hb'
            injection hb' with hb'
            have := hb.size
            dsimp only
            omega
  · rcases snoc_at hi with ⟨k1, e1⟩ | ⟨k1, rfl⟩ <;> rcases snoc_at hj with ⟨k2, e2⟩ | ⟨k2, rfl⟩
    · exact h.dis i j p q hij e1 e2
    · have hk : i < vs.length := by rw [h.ls]; exact k1
      have hk2 : i < hs.length := by rw [← h.lh]; exact hk
      obtain ⟨_, a2, _⟩ := h.own i _ _ p (List.getElem?_eq_getElem hk) (List.getElem?_eq_getElem hk2) e1
      exact own_hi a2
    · omega
    · omega
end
def BsR (w : World) (e : Ending) (w' : World) : Prop := ∃ (a' : Option Addr) (c' : Nat) (vs : List Sv), e = .returned (.slice a' vs.length c') ∧ vs.length ≤ 4 ∧ (∀ v ∈ vs, svB v = true) ∧ RdSs w' w'.heap.size a' vs ∧ Below w.heap.size w w'
theorem svB_mk {s : ByteArray} {R C P : Nat} {A B W : List Int} (hn : nameB s = true) (hR : 1 ≤ R ∧ R ≤ 4) (hC : 1 ≤ C ∧ C ≤ 4) (hA : A.length = R * C ∧ B.length = R * C) (hAB : (∀ x ∈ A, -6 ≤ x ∧ x ≤ 6) ∧ ∀ x ∈ B, -6 ≤ x ∧ x ≤ 200) (hP : 1 ≤ P ∧ P ≤ 3) (hW : W.length = 2 ^ P) (hW0 : W.getD 0 0 = 0) (hWb : ∀ x ∈ W, -10000 ≤ x ∧ x ≤ 10000) : svB ⟨s, R, C, A, B, P, W⟩ = true := by
  have e1 : (A.length : Int) = (R : Int) * (C : Int) := by rw [hA.1]; exact Int.natCast_mul R C
  have e2 : (B.length : Int) = (R : Int) * (C : Int) := by rw [hA.2]; exact Int.natCast_mul R C
  have e3 : (W.length : Int) = (2 : Int) ^ P := by rw [hW]; exact Int.natCast_pow 2 P
  simp only [svB, savedB, hn, gameB, worthsB, Bool.and_eq_true, inB_iff, manyB_iff, Int.toNat_natCast]
  refine ⟨⟨trivial, ⟨⟨by omega, by omega⟩, by omega, by omega⟩, ⟨⟨by omega, by omega⟩, fun x hx => ?_⟩, ⟨by omega, by omega⟩, fun x hx => ?_⟩, ⟨⟨by omega, by omega⟩, ⟨by omega, by omega⟩, hWb⟩, by rw [hW0]; rfl⟩
  · have := hAB.1 x hx; omega
  · have := hAB.2 x hx; omega
theorem names_ok {s : ByteArray} (h : s = ⟨#[97]⟩ ∨ s = ⟨#[103, 97, 109, 101]⟩ ∨ s = ⟨#[102, 97, 105, 114]⟩ ∨ s = ⟨#[122, 122]⟩) : nameB s = true := by
  rcases h with rfl | rfl | rfl | rfl <;> rfl
set_option maxRecDepth 10000 in
set_option maxHeartbeats 4000000 in
theorem b10Saved_any (w : World) (a : Option Addr) (c : Nat) (xs : List Int) (h : Rd w w.heap.size a (byts xs)) (hx : ∀ x ∈ xs, 0 ≤ x ∧ x ≤ 255) (hl : xs.length ≤ 1048576) :
    Calls Try.prog 33 #[.slice a xs.length c] w (BsR w) := by
  have L0 := Lib.hid (l00From_any w a xs.length c)
  have H0 := Lib.hid h
  have HX := Lib.hid hx
  clear h hx
  go_enter Try.func33, Try.ntmps33
  go_wp2_with fail
  refine L0.out.mono ?_
  rintro e w1 ⟨rfl, S1, B1, s1⟩
  have D1 : Hid (DS w1 w.heap.size w.heap.size a xs c 0) := ⟨S1, H0.out.below B1 (Nat.le_refl _), Nat.le_refl _, HX.out, hl⟩
  have B1 := Lib.hid B1
  obtain ⟨b, hb⟩ : ∃ b, b = w.heap.size := ⟨_, rfl⟩
  rw [← hb] at D1 B1 ⊢
  have L1 := Lib.hid (pick_ds (w1.alloc (.cells #[] 34)) b b a xs c 0 5 (D1.out.same (bl1 _ _)) (by omega) (by omega))
  have hs1 : w.heap.size < w1.heap.size := by omega
  have HB := Lib.hid hb
  have hbw : b ≤ w.heap.size := by omega
  have hs1' : b + 1 ≤ w1.heap.size := by omega
  clear L0 S1 HX H0 s1 hb
  go_wp2_with fail
  refine L1.out.mono ?_
  rintro e w2 ⟨n, p2, rfl, ⟨n0, n1⟩, hp2, D2, T2⟩
  have O2 : Hid (OwnV w2 (b + 1) (.slice (some ⟨w1.heap.size, 0, none⟩) 0 0) [] [] []) := by
    refine OwnV.keepT (w := w1.alloc (.cells #[] 34)) (OwnV.start ?_) T2 (by omega)
    have := World.ownsRow_made w1 (base := b + 1) (e := 34) (size := 7) #[] 0 hs1' (Nat.zero_le _) rfl
    exact this
  have B2 : Hid (Below b w w2) := below_touch (B1.out.trans ((bl1 w1 _).mono (by omega))) T2 (Nat.le_refl _) (by simp; omega)
  have s2 := T2.size
  rw [World.size_alloc] at s2
  have D2 := Lib.hid D2
  obtain ⟨nn, rfl⟩ : ∃ nn : Nat, n = nn := ⟨n.toNat, by omega⟩
  have hn4 : nn ≤ 4 := by omega
  have hs2 : b + 1 ≤ w2.heap.size := by omega
  clear L1 T2 D1 B1 n0 n1
  go_wp2_with fail
  go_loopw [4, 5] (fun sv nv wr => ∃ (k m : Nat) (a' : Option Addr) (c' : Nat) (vs : List Sv) (hs : List Hd) (St : List (Nat × Nat)) (p' : Nat), nv = .int .i64 k ∧ sv = .slice a' m c' ∧ (k : Int) ≤ 4 ∧ (m : Int) + k ≤ 4 ∧ Hid (vs.length = m) ∧ Hid (∀ v ∈ vs, svB v = true) ∧ Hid (OwnV wr (b + 1) (.slice a' m c') vs hs St) ∧ Hid (DS wr b b a xs c p') ∧ p' ≤ 1 + 70 * m ∧ Hid (Below b w wr) ∧ b + 1 ≤ wr.heap.size) (fun _ nv _ => (intOf nv).toNat)
  case atStart => exact ⟨nn, 0, some ⟨w1.heap.size, 0, none⟩, 0, [], [], [], p2, rfl, rfl, by omega, by omega, rfl, fun v hv => by simp at hv, O2.out, D2.out, by omega, B2.out, hs2⟩
  case round =>
    obtain ⟨k, m, a', c', vs, hs, St, p', rfl, rfl, hk4, hmk, hvl, hV, hO, hD, hp', hB, hws⟩ := hrel
    have k0 : (0 : Int) ≤ (k : Int) := Int.natCast_nonneg _
    by_cases hz : 0 < k
    · have hzi : (0 : Int) < (k : Int) := by omega
      have D1 := hD.out.same (bl1 wr (.cells #[.string ⟨#[97]⟩, .string ⟨#[103, 97, 109, 101]⟩, .string ⟨#[102, 97, 105, 114]⟩, .string ⟨#[122, 122]⟩] 9))
      have L1 := Lib.hid (text_ds _ b b a xs c p' D1 (by omega) wr.heap.size 9 ⟨#[97]⟩ ⟨#[103, 97, 109, 101]⟩ ⟨#[102, 97, 105, 114]⟩ ⟨#[122, 122]⟩ (by omega) (Blk.new wr _ _))
      clear D1
      go_wp2_with fail
      refine L1.out.mono ?_
      rintro e w3 ⟨s, p3, rfl, hs3, hp3, D3, T3⟩
      have HN := Lib.hid (names_ok hs3)
      have TT3 := Lib.hid ((Below.touch (bl1 wr (.cells #[.string ⟨#[97]⟩, .string ⟨#[103, 97, 109, 101]⟩, .string ⟨#[102, 97, 105, 114]⟩, .string ⟨#[122, 122]⟩] 9)) b (b + 1)).trans T3)
      have s3 := T3.size
      rw [World.size_alloc] at s3
      have D4 := Lib.hid (D3.same (bl1 w3 (.cells #[.string s, .int .i64 0, .int .i64 0, .slice none 0 0, .slice none 0 0, .int .i64 0, .slice none 0 0] 34)))
      have L2 := Lib.hid (ok_ds _ b b a xs c p3 D4.out (by omega))
      clear L1 D3 T3 hs3
      go_wp2_with fail
      obtain ⟨gX, hgX⟩ : ∃ g, g = w3.heap.size := ⟨_, rfl⟩
      have K4 := Blk.new w3 [.string s, .int .i64 0, .int .i64 0, .slice none 0 0, .slice none 0 0, .int .i64 0, .slice none 0 0] 34
      have T4 := TT3.out.trans (Below.touch (bl1 w3 (.cells #[.string s, .int .i64 0, .int .i64 0, .slice none 0 0, .slice none 0 0, .int .i64 0, .slice none 0 0] 34)) b (b + 1))
      have s4 : (w3.alloc (.cells #[.string s, .int .i64 0, .int .i64 0, .slice none 0 0, .slice none 0 0, .int .i64 0, .slice none 0 0] 34)).heap.size = gX + 1 := by rw [hgX]; simp
      rw [← hgX] at K4 s3 ⊢
      have HgX := Lib.hid hgX
      clear hgX
      refine L2.out.mono ?_
      rintro e w5 ⟨R, C, aA, cA, A, aB, cB, B, p5, rfl, ⟨hR, hC⟩, hAl, hAB, OG, hp5, D5, T5⟩
      have K5 := Lib.hid (K4.touch T5 (.inr (by omega)))
      have TT5 := Lib.hid (T4.trans T5)
      have s5 := T5.size
      rw [s4] at OG s5
      have OG := Lib.hid OG
      have D5 := Lib.hid D5
      have HAl := Lib.hid hAl
      have HAB := Lib.hid hAB
      have HRC := Lib.hid (And.intro hR hC)
      clear L2 D4 T4 T5 K4 TT3 s4 hAl hAB hR hC
      have y1 : w5.cell? ⟨gX, 1, none⟩ = some (.int .i64 0) := K5.out.cell 1
      have y2 : w5.cell? ⟨gX, 2, none⟩ = some (.int .i64 0) := K5.out.cell 2
      have y3 : w5.cell? ⟨gX, 3, none⟩ = some (.slice none 0 0) := K5.out.cell 3
      have y4 : w5.cell? ⟨gX, 4, none⟩ = some (.slice none 0 0) := K5.out.cell 4
      have f1 := K5.out.free 1
      have f2 := K5.out.free 2
      have f3 := K5.out.free 3
      have f4 := K5.out.free 4
      go_upto_region 8 with fail
      obtain ⟨w6, hw6⟩ : ∃ Y, Y = (((w5.setCell ⟨gX, 1, none⟩ (.int .i64 R)).setCell ⟨gX, 2, none⟩ (.int .i64 C)).setCell ⟨gX, 3, none⟩ (.slice aA A.length cA)).setCell ⟨gX, 4, none⟩ (.slice aB B.length cB) := ⟨_, rfl⟩
      have K6 : Hid (Blk w6 gX [.string s, .int .i64 R, .int .i64 C, .slice aA A.length cA, .slice aB B.length cB, .int .i64 0, .slice none 0 0] 34) := by rw [hw6]; exact (((K5.out.set 1 (.int .i64 R)).set 2 (.int .i64 C)).set 3 (.slice aA A.length cA)).set 4 (.slice aB B.length cB)
      have TS : Touch w5 w6 gX (gX + 1) := by rw [hw6]; exact (((touch_setD w5 gX 1 (.int .i64 R)).trans (touch_setD _ gX 2 (.int .i64 C))).trans (touch_setD _ gX 3 (.slice aA A.length cA))).trans (touch_setD _ gX 4 (.slice aB B.length cB))
      have OG6 := Lib.hid (OG.out.touch TS (.inr (Nat.le_refl _)))
      have D6 := Lib.hid (D5.out.touch TS (by omega))
      have TT6 := Lib.hid (touch_hi TT5.out TS (by omega))
      have s6 := TS.size
      rw [← hw6]
      clear hw6 y1 y2 y3 y4 f1 f2 f3 f4 TS D5 TT5 OG K5
      have L3 := Lib.hid (pick_ds w6 b b a xs c p5 3 D6.out (by omega) (by omega))
      go_wp2_with fail
      refine L3.out.mono ?_
      rintro e w7 ⟨q, p7, rfl, ⟨q0, q1⟩, hp7, D7, T7⟩
      obtain ⟨P, hP⟩ : ∃ P : Nat, 1 + q = (P : Int) := ⟨(1 + q).toNat, by omega⟩
      have hP1 : 1 ≤ P ∧ P ≤ 3 := by omega
      have K7 := Lib.hid (K6.out.touch T7 (.inr (by omega)))
      have OG7 := Lib.hid (OG6.out.touch T7 (.inr (by omega)))
      have TT7 := Lib.hid (TT6.out.trans T7)
      have s7 := T7.size
      have q2 : q ≤ 2 := by omega
      have L4 := Lib.hid (worths_ds w7 b b a xs c p7 P D7 (by omega) hP1.1 hP1.2)
      have HP1 := Lib.hid hP1
      clear L3 K6 OG6 TT6 T7 D6 D7 q1 hP1
      go_wp2_with fail
      refine L4.out.mono ?_
      rintro e w8 ⟨aW, cW, W, p8, rfl, hW1, hW2, hW3, OW, hp8, D8, T8⟩
      have HV8 : Hid (svB ⟨s, R, C, A, B, P, W⟩ = true) := svB_mk HN.out HRC.out.1 HRC.out.2 HAl.out HAB.out HP1.out hW1 hW2 hW3
      have K8 := Lib.hid (K7.out.touch T8 (.inr (by omega)))
      have OG8 := Lib.hid (OG7.out.touch T8 (.inr (by omega)))
      have TT8 := Lib.hid (TT7.out.trans T8)
      have s8 := T8.size
      have OW8 := Lib.hid OW
      have D8 := Lib.hid D8
      clear L4 K7 OG7 TT7 T8 OW hW1 hW2 hW3 hP HN HAl HAB
      have y5 : w8.cell? ⟨gX, 5, none⟩ = some (.int .i64 0) := K8.out.cell 5
      have y6 : w8.cell? ⟨gX, 6, none⟩ = some (.slice none 0 0) := K8.out.cell 6
      have f5 := K8.out.free 5
      have f6 := K8.out.free 6
      go_upto_region 10 with fail
      obtain ⟨w9, hw9⟩ : ∃ Y, Y = (w8.setCell ⟨gX, 5, none⟩ (.int .i64 P)).setCell ⟨gX, 6, none⟩ (.slice aW W.length cW) := ⟨_, rfl⟩
      have K9 : Hid (Blk w9 gX [.string s, .int .i64 R, .int .i64 C, .slice aA A.length cA, .slice aB B.length cB, .int .i64 P, .slice aW W.length cW] 34) := by rw [hw9]; exact (K8.out.set 5 (.int .i64 P)).set 6 (.slice aW W.length cW)
      have TS : Touch w8 w9 gX (gX + 1) := by rw [hw9]; exact (touch_setD w8 gX 5 (.int .i64 P)).trans (touch_setD _ gX 6 (.slice aW W.length cW))
      have OG9 := Lib.hid (OG8.out.touch TS (.inr (Nat.le_refl _)))
      have OW9 := Lib.hid (OW8.out.touch TS (.inr (by omega)))
      have D9 := Lib.hid (D8.out.touch TS (by omega))
      have TT9 := Lib.hid (touch_hi TT8.out TS (by omega))
      have s9 := TS.size
      rw [← hw9]
      clear hw9 y5 y6 f5 f6 TS D8 TT8 OG8 OW8 K8
      have y0 : w9.cell? ⟨gX, 0, none⟩ = some (.string s) := K9.out.cell 0
      have y1 : w9.cell? ⟨gX, 1, none⟩ = some (.int .i64 R) := K9.out.cell 1
      have y2 : w9.cell? ⟨gX, 2, none⟩ = some (.int .i64 C) := K9.out.cell 2
      have y3 : w9.cell? ⟨gX, 3, none⟩ = some (.slice aA A.length cA) := K9.out.cell 3
      have y4 : w9.cell? ⟨gX, 4, none⟩ = some (.slice aB B.length cB) := K9.out.cell 4
      have y5 : w9.cell? ⟨gX, 5, none⟩ = some (.int .i64 P) := K9.out.cell 5
      have y6 : w9.cell? ⟨gX, 6, none⟩ = some (.slice aW W.length cW) := K9.out.cell 6
      have OS9 : Hid (OwnSaved w9 wr.heap.size w9.heap.size aA cA A aB cB B aW cW W) := by
        obtain ⟨mm, ⟨m1, m2⟩, oA, oB⟩ := OG9.out
        exact own_of_parts ⟨by omega, m2, by omega⟩ (Nat.le_refl _) (oA.mono (by omega) (Nat.le_refl _)) oB (OW9.out.mono (by omega) (by omega))
      have O9 := Lib.hid (hO.out.keepT TT9.out (by omega))
      have own9 : Hid (w9.ownsRow (b + 1) 34 7 (.slice a' m c') m (flatC vs hs)) := by rw [← hvl.out]; have := O9.out.row; rw [hvl.out] at this ⊢; exact this
      have own1 := Lib.hid (own_below own9.out (bl1 w9 (.cells (List.toArray [.string s, .int .i64 R, .int .i64 C, .slice aA A.length cA, .slice aB B.length cB, .int .i64 P, .slice aW W.length cW]) 34)))
      clear OG9 OW9
      go_wp2_with (at_builtin; refine wpList_append_saved _ rfl _ _ 41 rfl (b + 1) 34 (.agg #[.string ⟨#[]⟩, .int .i64 0, .int .i64 0, .slice none 0 0, .slice none 0 0, .int .i64 0, .slice none 0 0]) 112 Try.underlying41 info_saved rfl _ m _ rfl own1.out w9.heap.size [.string s, .int .i64 R, .int .i64 C, .slice aA A.length cA, .slice aB B.length cB, .int .i64 P, .slice aW W.length cW] rfl (by intro y hy; simp only [List.mem_cons, List.not_mem_nil, or_false] at hy; rcases hy with rfl | rfl | rfl | rfl | rfl | rfl | rfl <;> rfl) rfl (Blk.new w9 _ _) (by decide) (by omega) (by simp; omega) ?_)
      intro g10 c10 w10 ho hg hor
      have BA := bl1 w9 (.cells (List.toArray [.string s, .int .i64 R, .int .i64 C, .slice aA A.length cA, .slice aB B.length cB, .int .i64 P, .slice aW W.length cW]) 34)
      have HO10 : OwnV w10 (b + 1) (.slice (some ⟨g10, 0, none⟩) (m + 1) c10) (vs ++ [⟨s, R, C, A, B, P, W⟩]) (hs ++ [(aA, cA, aB, cB, aW, cW)]) (St ++ [(wr.heap.size, w9.heap.size)]) := by
        refine OwnV.snocT hO.out hws (TT9.out.trans (Below.touch BA b (b + 1))) (by omega) (OS9.out.keep BA) (by rw [hvl.out]; exact ho) hg ?_
        rcases hor with h | h
        · left; rw [h]; rfl
        · right; rw [h]; simp [Value.ownBlock]
      have HO10 := Lib.hid HO10
      have hgb : Below (b + 1) (w9.alloc (.cells (List.toArray [.string s, .int .i64 R, .int .i64 C, .slice aA A.length cA, .slice aB B.length cB, .int .i64 P, .slice aW W.length cW]) 34)) w10 := below_of_grown hg (by simp; omega) (fun k hk => (hO.out.row.lt k hk).1)
      have D10 := Lib.hid ((D9.out.same BA).touch ⟨hgb.os, hgb.tape, hgb.output, hgb.size, fun k hk hd => hgb.block k (by rw [World.size_alloc] at hk; omega)⟩ (show b < b + 1 by omega) (hi := w10.heap.size + w9.heap.size + 5))
      have B10 : Hid (Below b w w10) := (below_touch hB.out TT9.out (Nat.le_refl _) (by omega)).trans ((BA.mono (by omega)).trans (hgb.mono (by omega)))
      have s10 := hgb.size
      rw [World.size_alloc] at s10
      have HL10 : Hid ((vs ++ [(⟨s, R, C, A, B, P, W⟩ : Sv)]).length = m + 1) := by rw [Hid, List.length_append, hvl.out]; rfl
      have HV10 : Hid (∀ v ∈ vs ++ [(⟨s, R, C, A, B, P, W⟩ : Sv)], svB v = true) := fun v hv => by
        rcases List.mem_append.1 hv with hv | hv
        · exact hV.out v hv
        · simp at hv; subst hv; exact HV8.out
      have hpp10 : p8 ≤ 1 + 70 * (m + 1) := by omega
      have hws10 : b + 1 ≤ w10.heap.size := by omega
      clear ho hg hor BA hgb D9 own1 own9 O9 OS9 K9 y0 y1 y2 y3 y4 y5 y6 hO hD hB hV TT9 HV8
      go_wp2_with fail
      go_roundw
      case rel => exact ⟨k - 1, m + 1, some ⟨g10, 0, none⟩, c10, vs ++ [(⟨s, R, C, A, B, P, W⟩ : Sv)], hs ++ [(aA, cA, aB, cB, aW, cW)], St ++ [(wr.heap.size, w9.heap.size)], p8, by go_num, rfl, by omega, by omega, HL10.out, HV10.out, HO10.out, D10.out, hpp10, B10.out, hws10⟩
      case measure => first | (simp [intOf]; done) | (simp [intOf]; omega)
    · have : k = 0 := by omega
      subst this
      have HR := Lib.hid (hO.out.rd)
      have hB := hB
      clear hO hD
      go_wp2_with fail
      go_ret
      exact ⟨a', c', vs, by rw [hvl.out]; rfl, by have := hvl.out; omega, hV.out, HR.out, by rw [← HB.out]; exact hB.out⟩
end Go.Proofs.Yteclpcmbicjjgaa
