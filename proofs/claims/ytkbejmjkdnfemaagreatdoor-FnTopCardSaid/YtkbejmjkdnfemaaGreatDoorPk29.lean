/-
  Part 29 of what the proof stands on: lemmas and contracts, each with its conditions ahead of the colon.
-/
import Derived.Test.YtkbejmjkdnfemaaGreatDoorPk12
import Derived.Test.YtkbejmjkdnfemaaGreatDoorPk13
import Derived.Test.YtkbejmjkdnfemaaGreatDoorPk14
import Derived.Test.YtkbejmjkdnfemaaGreatDoorPk15
import Derived.Test.YtkbejmjkdnfemaaGreatDoorPk24
import Derived.Test.YtkbejmjkdnfemaaGreatDoorPk27
import Derived.Test.YtkbejmjkdnfemaaGreatDoorPk28
namespace Go.Proofs.YtkbejmjkdnfemaaGreatDoor
set_option linter.unusedVariables false
set_option linter.unusedSimpArgs false
open Go.RowKit

theorem own_ge {T lo hi c : Nat} {w : World} {a : Option Addr} {xs : List Int} (h : OwnI T w lo hi a c xs) : ∀ y, a = some y → lo ≤ y.block := fun y e => (h.1.lt y.block (by simp [Value.ownBlock, e])).1
theorem ownF_ge {T lo hi c : Nat} {w : World} {a : Option Addr} {xs : List Nat} (h : OwnF T w lo hi a c xs) : ∀ y, a = some y → lo ≤ y.block := fun y e => (h.1.lt y.block (by simp [Value.ownBlock, e])).1
theorem ownTwo_ge {T lo hi : Nat} {w : World} {a b : Option Addr} {ca cb : Nat} {xa xb : List Int} (h : OwnTwo T w lo hi a ca xa b cb xb) : (∀ y, a = some y → lo ≤ y.block) ∧ ∀ y, b = some y → lo ≤ y.block := by
  obtain ⟨m, hm, h | h⟩ := h
  · exact ⟨own_ge h.1, fun y e => by have := own_ge h.2 y e; omega⟩
  · exact ⟨fun y e => by have := own_ge h.2 y e; omega, own_ge h.1⟩
theorem ownDd_lo {w : World} {lo hi : Nat} {d : DD} {x : DA} (h : OwnDd w lo hi d x) : DLo lo x := by
  obtain ⟨m1, m2, m3, hm, h1, h2, h3, h4⟩ := h
  have t1 := ownTwo_ge h1
  have t2 := own_ge h2
  have t3 := ownTwo_ge h3
  have t4 := ownF_ge h4
  exact ⟨t1.1, t1.2, fun y e => by have := t2 y e; omega, fun y e => by have := t3.1 y e; omega, fun y e => by have := t3.2 y e; omega, fun y e => by have := t4 y e; omega⟩
theorem ownDd_cap {w : World} {lo hi : Nat} {d : DD} {x : DA} (h : OwnDd w lo hi d x) : d.A.length ≤ x.ca := by
  obtain ⟨m1, m2, m3, hm, ⟨m, _, h1 | h1⟩, h2, h3, h4⟩ := h
  · exact h1.1.cap
  · exact h1.2.cap
theorem DRd.low {w w' : World} {lo' hi' : Nat} {d : DD} {x : DA} (h : DRd w w.heap.size d x) (hl : DLo hi' x) (ht : Touch w w' lo' hi') : DRd w' w'.heap.size d x :=
  ⟨⟨rd_keep h.r.A ht (fun y e => by have := hl.a y e; omega), rd_keep h.r.B ht (fun y e => by have := hl.b y e; omega), rd_keep h.r.V ht (fun y e => by have := hl.v y e; omega), rd_keep h.r.W ht (fun y e => by have := hl.w y e; omega), rd_keep h.r.C ht (fun y e => by have := hl.k y e; omega), rd_keep h.r.T ht (fun y e => by have := hl.f y e; omega)⟩, h.f⟩
/-- No list is very long. -/
def DD.small (d : DD) : Prop := d.A.length ≤ 1048576 ∧ d.B.length ≤ 1048576 ∧ d.V.length ≤ 1048576 ∧ d.W.length ≤ 1048576 ∧ d.K.length ≤ 1048576 ∧ d.F.length ≤ 1048576
/-- What command holds before it carries the words out. -/
structure CmS (w : World) (d : DD) (x y : DA) (b : Nat) (wx : World) : Prop where
  K : Blk wx w.heap.size (d.cells x) 33
  R : Blk wx (w.heap.size + 1) [.int .i64 0, .int .i64 0, .slice none 0 0, .slice none 0 0, .int .i64 0, .int .i64 0, .slice none 0 0, .int .i64 0, .int .i64 0, .slice none 0 0, .slice none 0 0, .slice none 0 0] 33
  B : Below w.heap.size w wx
  O : Blk wx b (d.cells y) 33
  D : DRd wx b d y
  L : DLo (w.heap.size + 2) y
  s : w.heap.size + 2 ≤ b
  c : d.A.length ≤ y.ca
theorem CmS.same {w wx wy : World} {d : DD} {x y : DA} {b : Nat} (h : CmS w d x y b wx) (hb : Below wx.heap.size wx wy) : CmS w d x y b wy :=
  ⟨h.K.same hb, h.R.same hb, below_then h.B hb, h.O.same hb, h.D.below hb (Nat.le_of_lt h.O.lt), h.L, h.s, h.c⟩
/-- What it holds behind that. -/
structure CmT (w : World) (d : DD) (x : DA) (wx : World) : Prop where
  K : Blk wx w.heap.size (d.cells x) 33
  R : Blk wx (w.heap.size + 1) [.int .i64 0, .int .i64 0, .slice none 0 0, .slice none 0 0, .int .i64 0, .int .i64 0, .slice none 0 0, .int .i64 0, .int .i64 0, .slice none 0 0, .slice none 0 0, .slice none 0 0] 33
  B : Below w.heap.size w wx
theorem CmS.touch {w wx wy : World} {d : DD} {x y : DA} {b : Nat} (h : CmS w d x y b wx) (ht : Touch wx wy b (b + 1)) : CmT w d x wy :=
  ⟨h.K.touch ht (.inl (by have := h.s; omega)), h.R.touch ht (.inl (by have := h.s; omega)), below_touch h.B ht (by have := h.s; omega) (by have := h.B.size; omega)⟩
theorem CmT.same {w wx wy : World} {d : DD} {x : DA} (h : CmT w d x wx) (hb : Below wx.heap.size wx wy) : CmT w d x wy := ⟨h.K.same hb, h.R.same hb, below_then h.B hb⟩
/-- The result is written. -/
theorem cm_end {w wx : World} {d d' : DD} {x x' : DA} (h : CmT w d x wx) (hd : DRd wx wx.heap.size d' x') (hl : DLo (w.heap.size + 2) x') {wz : World} (hp : put12 wx (w.heap.size + 1) (.int .i64 d'.R) (.int .i64 d'.C) (.slice x'.a d'.A.length x'.ca) (.slice x'.b d'.B.length x'.cb) (.int .i64 d'.P) (.int .i64 d'.T) (.slice x'.v d'.V.length x'.cv) (.int .i64 d'.U) (.int .i64 d'.N) (.slice x'.w d'.W.length x'.cw) (.slice x'.k d'.K.length x'.ck) (.slice x'.f d'.F.length x'.cf) = wz) : Blk wz (w.heap.size + 1) (d'.cells x') 33 ∧ Below w.heap.size w wz ∧ DRd wz wz.heap.size d' x' := by
  have T8 : Touch wx wz (w.heap.size + 1) (w.heap.size + 1 + 1) := by rw [← hp]; exact put12_touch _ _ _ _ _ _ _ _ _ _ _ _ _ _
  refine ⟨by rw [← hp]; exact put12_blk h.R _ _ _ _ _ _ _ _ _ _ _ _, below_touch h.B T8 (by omega) (by have := h.B.size; omega), hd.low hl T8⟩
theorem cm_same {w wx : World} {d : DD} {x : DA} (h : CmT w d x wx) (hd : DRd w w.heap.size d x) {wz : World} (hp : put12 wx (w.heap.size + 1) (.int .i64 d.R) (.int .i64 d.C) (.slice x.a d.A.length x.ca) (.slice x.b d.B.length x.cb) (.int .i64 d.P) (.int .i64 d.T) (.slice x.v d.V.length x.cv) (.int .i64 d.U) (.int .i64 d.N) (.slice x.w d.W.length x.cw) (.slice x.k d.K.length x.ck) (.slice x.f d.F.length x.cf) = wz) : Blk wz (w.heap.size + 1) (d.cells x) 33 ∧ Below w.heap.size w wz ∧ DRd wz wz.heap.size d x := by
  have T8 : Touch wx wz (w.heap.size + 1) (w.heap.size + 1 + 1) := by rw [← hp]; exact put12_touch _ _ _ _ _ _ _ _ _ _ _ _ _ _
  have hb := below_touch h.B T8 (by omega) (by have := h.B.size; omega)
  exact ⟨by rw [← hp]; exact put12_blk h.R _ _ _ _ _ _ _ _ _ _ _ _, hb, hd.to hb⟩
set_option maxRecDepth 100000 in
set_option maxHeartbeats 64000000 in
theorem command_any {l : List UInt8} {f : DD → Ans} (hl : l.length ≤ 1048576) (HC : CarryC (cutL 32 l) f) (HS : ∀ d d' t, d.ok = true → f d = some (some (d', t)) → d'.small) : CmdC l (cmdOf f) := by
  intro w d x hE hok hR
  have HF := Lib.hid (HS d)
  have hlb : (bs l).data.toList = l := bs_list l
  have hls : (bs l).size ≤ 1048576 := by rw [bs_size]; exact hl
  obtain ⟨w0, hw0⟩ : ∃ X, X = (w.alloc (.cells #[.int .i64 d.R, .int .i64 d.C, .slice x.a d.A.length x.ca, .slice x.b d.B.length x.cb, .int .i64 d.P, .int .i64 d.T, .slice x.v d.V.length x.cv, .int .i64 d.U, .int .i64 d.N, .slice x.w d.W.length x.cw, .slice x.k d.K.length x.ck, .slice x.f d.F.length x.cf] 33)).alloc (.cells #[.int .i64 0, .int .i64 0, .slice none 0 0, .slice none 0 0, .int .i64 0, .int .i64 0, .slice none 0 0, .int .i64 0, .int .i64 0, .slice none 0 0, .slice none 0 0, .slice none 0 0] 33) := ⟨_, rfl⟩
  have K0 : Blk w0 w.heap.size (d.cells x) 33 := by rw [hw0]; exact (Blk.new w _ _).alloc _
  have R0 : Blk w0 (w.heap.size + 1) [.int .i64 0, .int .i64 0, .slice none 0 0, .slice none 0 0, .int .i64 0, .int .i64 0, .slice none 0 0, .int .i64 0, .int .i64 0, .slice none 0 0, .slice none 0 0, .slice none 0 0] 33 := by
    rw [hw0]
    have := Blk.new (w.alloc (.cells #[.int .i64 d.R, .int .i64 d.C, .slice x.a d.A.length x.ca, .slice x.b d.B.length x.cb, .int .i64 d.P, .int .i64 d.T, .slice x.v d.V.length x.cv, .int .i64 d.U, .int .i64 d.N, .slice x.w d.W.length x.cw, .slice x.k d.K.length x.ck, .slice x.f d.F.length x.cf] 33)) [.int .i64 0, .int .i64 0, .slice none 0 0, .slice none 0 0, .int .i64 0, .int .i64 0, .slice none 0 0, .int .i64 0, .int .i64 0, .slice none 0 0, .slice none 0 0, .slice none 0 0] 33
    rwa [World.size_alloc] at this
  have B0 : Below w.heap.size w w0 := by rw [hw0]; exact bl2 _ _ _
  have s0 : w0.heap.size = w.heap.size + 2 := by rw [hw0]; simp
  have LC := Lib.hid (copyDesk_any w0 d x hok (hR.to B0))
  unfold DD.val at LC ⊢
  obtain ⟨r0, r1, r2, r3, r4, r5, r6, r7, r8, r9, r10, r11⟩ := cells12 K0
  rw [hw0] at r0 r1 r2 r3 r4 r5 r6 r7 r8 r9 r10 r11
  have HK0 := Lib.hid K0
  have HR0 := Lib.hid R0
  have HB0 := Lib.hid B0
  have HE := Lib.hid hE
  have HOK := Lib.hid hok
  have HR := Lib.hid hR
  have HCC := Lib.hid HC
  have LS := Lib.hid (fun v (hv : Below w.heap.size w v) => split_any v (hE.shp.to hv) (bs l) hls 32 ⟨#[32]⟩ rfl)
  rw [hlb] at LS
  clear hE hok hR HC HS K0 R0 B0 hls hlb hl
  generalize hcl : cutL 32 l = ws at *
  generalize bs l = lb at *
  clear hcl
  go_enter Tryz.func61, Tryz.ntmps61
  go_wp2_with fail
  rw [← hw0]
  clear hw0 r0 r1 r2 r3 r4 r5 r6 r7 r8 r9 r10 r11
  refine LC.out.mono ?_
  rintro e w1 ⟨y, rfl, hO, hb⟩
  obtain ⟨w2, hw2⟩ : ∃ X, X = w1.alloc (.cells #[.int .i64 d.R, .int .i64 d.C, .slice y.a d.A.length y.ca, .slice y.b d.B.length y.cb, .int .i64 d.P, .int .i64 d.T, .slice y.v d.V.length y.cv, .int .i64 d.U, .int .i64 d.N, .slice y.w d.W.length y.cw, .slice y.k d.K.length y.ck, .slice y.f d.F.length y.cf] 33) := ⟨_, rfl⟩
  have SS : Hid (CmS w d x y w1.heap.size w2) := by
    have hba := bl1 w1 (.cells #[.int .i64 d.R, .int .i64 d.C, .slice y.a d.A.length y.ca, .slice y.b d.B.length y.cb, .int .i64 d.P, .int .i64 d.T, .slice y.v d.V.length y.cv, .int .i64 d.U, .int .i64 d.N, .slice y.w d.W.length y.cw, .slice y.k d.K.length y.ck, .slice y.f d.F.length y.cf] 33)
    have KN := Blk.new w1 [.int .i64 d.R, .int .i64 d.C, .slice y.a d.A.length y.ca, .slice y.b d.B.length y.cb, .int .i64 d.P, .int .i64 d.T, .slice y.v d.V.length y.cv, .int .i64 d.U, .int .i64 d.N, .slice y.w d.W.length y.cw, .slice y.k d.K.length y.ck, .slice y.f d.F.length y.cf] 33
    rw [← hw2] at hba KN
    have hs1 := hb.size
    exact ⟨(HK0.out.same hb).same hba, (HR0.out.same hb).same hba, below_then (below_then HB0.out hb) hba, KN, (hO.rd HR.out.f).below hba (Nat.le_refl _), by rw [← s0]; exact ownDd_lo hO, by omega, ownDd_cap hO⟩
  have hbs : w1.heap.size < w2.heap.size := SS.out.O.lt
  clear hO hb HK0 HR0 HB0 LC s0
  obtain ⟨b, hbq⟩ : ∃ b, b = w1.heap.size := ⟨_, rfl⟩
  go_upto_region 2 with fail
  rw [← hw2]
  rw [← hbq] at SS hbs ⊢
  clear hw2 hbq
  go_wp2_with fail
  refine (LS.out _ SS.out.B).mono ?_
  rintro e w3 ⟨rfl, hk, hb⟩
  have S3 := Lib.hid (SS.out.same hb)
  have LR := Lib.hid (HCC.out w3 b d y (w.heap.size + 2) (some ⟨w2.heap.size, 0, none⟩) ws.length S3.out.s S3.out.L (HE.out.to S3.out.B) HOK.out S3.out.c S3.out.O S3.out.D (blk_rd hk))
  clear hk hb SS LS HCC hbs
  cases hr' : f d with
  | none =>
    have hr := Lib.hid hr'
    clear hr'
    have L : Hid (Calls Tryz.prog 138 #[.pointer (some ⟨b, 0, none⟩), .slice (some ⟨w2.heap.size, 0, none⟩) ws.length ws.length] w3 (fun e w' => ∃ (t : ByteArray) (k : Bool), e = .returned (.tuple #[.string t, .bool k, .bool false]) ∧ Hid (Touch w3 w' b (b + 1)))) := LR.out.mono fun e w' h => by
      rw [hr.out] at h
      obtain ⟨h1, t, k, h2⟩ := h
      exact ⟨t, k, h2, h1⟩
    clear LR
    go_wp2_with fail
    refine L.out.mono ?_
    rintro e w4 ⟨t, k, rfl, hT⟩
    have T4 := Lib.hid (S3.out.touch hT.out)
    obtain ⟨r0, r1, r2, r3, r4, r5, r6, r7, r8, r9, r10, r11⟩ := cells12 T4.out.K
    obtain ⟨j0, j1, j2, j3, j4, j5, j6, j7, j8, j9, j10, j11⟩ := cells12 T4.out.R
    have jf0 := T4.out.R.free 0
    have jf1 := T4.out.R.free 1
    have jf2 := T4.out.R.free 2
    have jf3 := T4.out.R.free 3
    have jf4 := T4.out.R.free 4
    have jf5 := T4.out.R.free 5
    have jf6 := T4.out.R.free 6
    have jf7 := T4.out.R.free 7
    have jf8 := T4.out.R.free 8
    have jf9 := T4.out.R.free 9
    have jf10 := T4.out.R.free 10
    have jf11 := T4.out.R.free 11
    clear hT L
    go_wp2_with fail
    obtain ⟨wz, hwz⟩ : ∃ X, X = ((((((((((((w4.setCell ⟨w.heap.size + 1, 0, none⟩ (.int .i64 d.R)).setCell ⟨w.heap.size + 1, 1, none⟩ (.int .i64 d.C)).setCell ⟨w.heap.size + 1, 2, none⟩ (.slice x.a d.A.length x.ca)).setCell ⟨w.heap.size + 1, 3, none⟩ (.slice x.b d.B.length x.cb)).setCell ⟨w.heap.size + 1, 4, none⟩ (.int .i64 d.P)).setCell ⟨w.heap.size + 1, 5, none⟩ (.int .i64 d.T)).setCell ⟨w.heap.size + 1, 6, none⟩ (.slice x.v d.V.length x.cv)).setCell ⟨w.heap.size + 1, 7, none⟩ (.int .i64 d.U)).setCell ⟨w.heap.size + 1, 8, none⟩ (.int .i64 d.N)).setCell ⟨w.heap.size + 1, 9, none⟩ (.slice x.w d.W.length x.cw)).setCell ⟨w.heap.size + 1, 10, none⟩ (.slice x.k d.K.length x.ck)).setCell ⟨w.heap.size + 1, 11, none⟩ (.slice x.f d.F.length x.cf)) := ⟨_, rfl⟩
    have hp : put12 w4 (w.heap.size + 1) (.int .i64 d.R) (.int .i64 d.C) (.slice x.a d.A.length x.ca) (.slice x.b d.B.length x.cb) (.int .i64 d.P) (.int .i64 d.T) (.slice x.v d.V.length x.cv) (.int .i64 d.U) (.int .i64 d.N) (.slice x.w d.W.length x.cw) (.slice x.k d.K.length x.ck) (.slice x.f d.F.length x.cf) = wz := by rw [hwz]; rfl
    obtain ⟨KZ, BZ, DZ⟩ := cm_same T4.out HR.out hp
    rw [← hwz]
    clear hwz hp r0 r1 r2 r3 r4 r5 r6 r7 r8 r9 r10 r11 j0 j1 j2 j3 j4 j5 j6 j7 j8 j9 j10 j11 jf0 jf1 jf2 jf3 jf4 jf5 jf6 jf7 jf8 jf9 jf10 jf11
    have HBZ := Lib.hid BZ
    have HDZ := Lib.hid DZ
    obtain ⟨t0, t1, t2, t3, t4, t5, t6, t7, t8, t9, t10, t11⟩ := cells12 KZ
    refine bodyPost_ret (v := .tuple #[.agg #[.int .i64 d.R, .int .i64 d.C, .slice x.a d.A.length x.ca, .slice x.b d.B.length x.cb, .int .i64 d.P, .int .i64 d.T, .slice x.v d.V.length x.cv, .int .i64 d.U, .int .i64 d.N, .slice x.w d.W.length x.cw, .slice x.k d.K.length x.ck, .slice x.f d.F.length x.cf], .string (bs whatL)]) (by simp [results, Tryz.results61, go_sem, t0, t1, t2, t3, t4, t5, t6, t7, t8, t9, t10, t11]; try rfl) rfl ?_
    have e : cmdOf f d = (d, whatL) := by unfold cmdOf; rw [hr.out]
    rw [e]
    exact ⟨HBZ.out, x, rfl, HDZ.out, .inl rfl⟩
  | some r =>
  cases r with
  | none =>
    have hr := Lib.hid hr'
    clear hr'
    have L : Hid (Calls Tryz.prog 138 #[.pointer (some ⟨b, 0, none⟩), .slice (some ⟨w2.heap.size, 0, none⟩) ws.length ws.length] w3 (fun e w' => ∃ (t : ByteArray), e = .returned (.tuple #[.string t, .bool false, .bool true]) ∧ Hid (Touch w3 w' b (b + 1)))) := LR.out.mono fun e w' h => by
      rw [hr.out] at h
      obtain ⟨h1, t, h2⟩ := h
      exact ⟨t, h2, h1⟩
    clear LR
    go_wp2_with fail
    refine L.out.mono ?_
    rintro e w4 ⟨t, rfl, hT⟩
    have T4 := Lib.hid (S3.out.touch hT.out)
    obtain ⟨r0, r1, r2, r3, r4, r5, r6, r7, r8, r9, r10, r11⟩ := cells12 T4.out.K
    obtain ⟨j0, j1, j2, j3, j4, j5, j6, j7, j8, j9, j10, j11⟩ := cells12 T4.out.R
    have jf0 := T4.out.R.free 0
    have jf1 := T4.out.R.free 1
    have jf2 := T4.out.R.free 2
    have jf3 := T4.out.R.free 3
    have jf4 := T4.out.R.free 4
    have jf5 := T4.out.R.free 5
    have jf6 := T4.out.R.free 6
    have jf7 := T4.out.R.free 7
    have jf8 := T4.out.R.free 8
    have jf9 := T4.out.R.free 9
    have jf10 := T4.out.R.free 10
    have jf11 := T4.out.R.free 11
    clear hT L
    go_wp2_with fail
    obtain ⟨wz, hwz⟩ : ∃ X, X = ((((((((((((w4.setCell ⟨w.heap.size + 1, 0, none⟩ (.int .i64 d.R)).setCell ⟨w.heap.size + 1, 1, none⟩ (.int .i64 d.C)).setCell ⟨w.heap.size + 1, 2, none⟩ (.slice x.a d.A.length x.ca)).setCell ⟨w.heap.size + 1, 3, none⟩ (.slice x.b d.B.length x.cb)).setCell ⟨w.heap.size + 1, 4, none⟩ (.int .i64 d.P)).setCell ⟨w.heap.size + 1, 5, none⟩ (.int .i64 d.T)).setCell ⟨w.heap.size + 1, 6, none⟩ (.slice x.v d.V.length x.cv)).setCell ⟨w.heap.size + 1, 7, none⟩ (.int .i64 d.U)).setCell ⟨w.heap.size + 1, 8, none⟩ (.int .i64 d.N)).setCell ⟨w.heap.size + 1, 9, none⟩ (.slice x.w d.W.length x.cw)).setCell ⟨w.heap.size + 1, 10, none⟩ (.slice x.k d.K.length x.ck)).setCell ⟨w.heap.size + 1, 11, none⟩ (.slice x.f d.F.length x.cf)) := ⟨_, rfl⟩
    have hp : put12 w4 (w.heap.size + 1) (.int .i64 d.R) (.int .i64 d.C) (.slice x.a d.A.length x.ca) (.slice x.b d.B.length x.cb) (.int .i64 d.P) (.int .i64 d.T) (.slice x.v d.V.length x.cv) (.int .i64 d.U) (.int .i64 d.N) (.slice x.w d.W.length x.cw) (.slice x.k d.K.length x.ck) (.slice x.f d.F.length x.cf) = wz := by rw [hwz]; rfl
    obtain ⟨KZ, BZ, DZ⟩ := cm_same T4.out HR.out hp
    rw [← hwz]
    clear hwz hp r0 r1 r2 r3 r4 r5 r6 r7 r8 r9 r10 r11 j0 j1 j2 j3 j4 j5 j6 j7 j8 j9 j10 j11 jf0 jf1 jf2 jf3 jf4 jf5 jf6 jf7 jf8 jf9 jf10 jf11
    have HBZ := Lib.hid BZ
    have HDZ := Lib.hid DZ
    obtain ⟨t0, t1, t2, t3, t4, t5, t6, t7, t8, t9, t10, t11⟩ := cells12 KZ
    refine bodyPost_ret (v := .tuple #[.agg #[.int .i64 d.R, .int .i64 d.C, .slice x.a d.A.length x.ca, .slice x.b d.B.length x.cb, .int .i64 d.P, .int .i64 d.T, .slice x.v d.V.length x.cv, .int .i64 d.U, .int .i64 d.N, .slice x.w d.W.length x.cw, .slice x.k d.K.length x.ck, .slice x.f d.F.length x.cf], .string (bs noL)]) (by simp [results, Tryz.results61, go_sem, t0, t1, t2, t3, t4, t5, t6, t7, t8, t9, t10, t11]; try rfl) rfl ?_
    have e : cmdOf f d = (d, noL) := by unfold cmdOf; rw [hr.out]
    rw [e]
    exact ⟨HBZ.out, x, rfl, HDZ.out, .inl rfl⟩
  | some p =>
    obtain ⟨d', t'⟩ := p
    have hr := Lib.hid hr'
    clear hr'
    obtain ⟨m1, m2, m3, m4, m5, m6⟩ := HF.out d' t' HOK.out hr.out
    have L : Hid (Calls Tryz.prog 138 #[.pointer (some ⟨b, 0, none⟩), .slice (some ⟨w2.heap.size, 0, none⟩) ws.length ws.length] w3 (fun e w' => e = .returned (.tuple #[.string (bs t'), .bool true, .bool true]) ∧ Hid (Touch w3 w' b (b + 1)) ∧ ∃ x' : DA, Hid (Blk w' b (d'.cells x') 33) ∧ Hid (DRd w' w'.heap.size d' x') ∧ Hid (DLo (w.heap.size + 2) x'))) := LR.out.mono fun e w' h => by
      rw [hr.out] at h
      obtain ⟨h1, h2, x', h3, h4, h5⟩ := h
      exact ⟨h2, h1, x', h3, h4, h5⟩
    clear LR
    obtain ⟨tb, htb⟩ : ∃ tb, tb = bs t' := ⟨_, rfl⟩
    rw [← htb] at L
    go_wp2_with fail
    refine L.out.mono ?_
    rintro e w4 ⟨rfl, hT, x', hK', hD', hL'⟩
    have T4 := Lib.hid (S3.out.touch hT.out)
    have LV := Lib.hid (validDesk_any w4 d'.R d'.C x'.a x'.ca d'.A x'.b x'.cb d'.B d'.P d'.T x'.v x'.cv d'.V d'.U d'.N x'.w x'.cw d'.W x'.k x'.ck d'.K x'.f x'.cf d'.F hD'.out.r m1 m2 m3 m4 m5 m6)
    rw [show deskB d'.R d'.C d'.A d'.B d'.P d'.T d'.V d'.U d'.N d'.W d'.K d'.F = d'.ok from rfl] at LV
    obtain ⟨v0, v1, v2, v3, v4, v5, v6, v7, v8, v9, v10, v11⟩ := cells12 hK'.out
    clear hT L m1 m2 m3 m4 m5 m6
    cases hk : d'.ok with
    | false =>
      rw [hk] at LV
      have HK := Lib.hid hk
      clear hk
      go_wp2_with fail
      refine LV.out.mono ?_
      rintro e w5 ⟨rfl, hb5⟩
      have T5 := Lib.hid (T4.out.same hb5)
      clear v0 v1 v2 v3 v4 v5 v6 v7 v8 v9 v10 v11 hb5 LV
      obtain ⟨r0, r1, r2, r3, r4, r5, r6, r7, r8, r9, r10, r11⟩ := cells12 T5.out.K
      obtain ⟨j0, j1, j2, j3, j4, j5, j6, j7, j8, j9, j10, j11⟩ := cells12 T5.out.R
      have jf0 := T5.out.R.free 0
      have jf1 := T5.out.R.free 1
      have jf2 := T5.out.R.free 2
      have jf3 := T5.out.R.free 3
      have jf4 := T5.out.R.free 4
      have jf5 := T5.out.R.free 5
      have jf6 := T5.out.R.free 6
      have jf7 := T5.out.R.free 7
      have jf8 := T5.out.R.free 8
      have jf9 := T5.out.R.free 9
      have jf10 := T5.out.R.free 10
      have jf11 := T5.out.R.free 11
      go_wp2_with fail
      obtain ⟨wz, hwz⟩ : ∃ X, X = ((((((((((((w5.setCell ⟨w.heap.size + 1, 0, none⟩ (.int .i64 d.R)).setCell ⟨w.heap.size + 1, 1, none⟩ (.int .i64 d.C)).setCell ⟨w.heap.size + 1, 2, none⟩ (.slice x.a d.A.length x.ca)).setCell ⟨w.heap.size + 1, 3, none⟩ (.slice x.b d.B.length x.cb)).setCell ⟨w.heap.size + 1, 4, none⟩ (.int .i64 d.P)).setCell ⟨w.heap.size + 1, 5, none⟩ (.int .i64 d.T)).setCell ⟨w.heap.size + 1, 6, none⟩ (.slice x.v d.V.length x.cv)).setCell ⟨w.heap.size + 1, 7, none⟩ (.int .i64 d.U)).setCell ⟨w.heap.size + 1, 8, none⟩ (.int .i64 d.N)).setCell ⟨w.heap.size + 1, 9, none⟩ (.slice x.w d.W.length x.cw)).setCell ⟨w.heap.size + 1, 10, none⟩ (.slice x.k d.K.length x.ck)).setCell ⟨w.heap.size + 1, 11, none⟩ (.slice x.f d.F.length x.cf)) := ⟨_, rfl⟩
      have hp : put12 w5 (w.heap.size + 1) (.int .i64 d.R) (.int .i64 d.C) (.slice x.a d.A.length x.ca) (.slice x.b d.B.length x.cb) (.int .i64 d.P) (.int .i64 d.T) (.slice x.v d.V.length x.cv) (.int .i64 d.U) (.int .i64 d.N) (.slice x.w d.W.length x.cw) (.slice x.k d.K.length x.ck) (.slice x.f d.F.length x.cf) = wz := by rw [hwz]; rfl
      obtain ⟨KZ, BZ, DZ⟩ := cm_same T5.out HR.out hp
      rw [← hwz]
      clear hwz hp r0 r1 r2 r3 r4 r5 r6 r7 r8 r9 r10 r11 j0 j1 j2 j3 j4 j5 j6 j7 j8 j9 j10 j11 jf0 jf1 jf2 jf3 jf4 jf5 jf6 jf7 jf8 jf9 jf10 jf11
      have HBZ := Lib.hid BZ
      have HDZ := Lib.hid DZ
      obtain ⟨t0, t1, t2, t3, t4, t5, t6, t7, t8, t9, t10, t11⟩ := cells12 KZ
      refine bodyPost_ret (v := .tuple #[.agg #[.int .i64 d.R, .int .i64 d.C, .slice x.a d.A.length x.ca, .slice x.b d.B.length x.cb, .int .i64 d.P, .int .i64 d.T, .slice x.v d.V.length x.cv, .int .i64 d.U, .int .i64 d.N, .slice x.w d.W.length x.cw, .slice x.k d.K.length x.ck, .slice x.f d.F.length x.cf], .string (bs noL)]) (by simp [results, Tryz.results61, go_sem, t0, t1, t2, t3, t4, t5, t6, t7, t8, t9, t10, t11]; try rfl) rfl ?_
      have e : cmdOf f d = (d, noL) := by unfold cmdOf; rw [hr.out]; dsimp only; rw [HK.out]; rfl
      rw [e]
      exact ⟨HBZ.out, x, rfl, HDZ.out, .inl rfl⟩
    | true =>
      rw [hk] at LV
      have HK := Lib.hid hk
      clear hk
      go_wp2_with fail
      refine LV.out.mono ?_
      rintro e w5 ⟨rfl, hb5⟩
      have T5 := Lib.hid (T4.out.same hb5)
      have K5 := Lib.hid (hK'.out.same hb5)
      have D5 := Lib.hid (hD'.out.to hb5)
      clear v0 v1 v2 v3 v4 v5 v6 v7 v8 v9 v10 v11 hb5 LV hK' hD'
      obtain ⟨v0, v1, v2, v3, v4, v5, v6, v7, v8, v9, v10, v11⟩ := cells12 K5.out
      obtain ⟨j0, j1, j2, j3, j4, j5, j6, j7, j8, j9, j10, j11⟩ := cells12 T5.out.R
      have jf0 := T5.out.R.free 0
      have jf1 := T5.out.R.free 1
      have jf2 := T5.out.R.free 2
      have jf3 := T5.out.R.free 3
      have jf4 := T5.out.R.free 4
      have jf5 := T5.out.R.free 5
      have jf6 := T5.out.R.free 6
      have jf7 := T5.out.R.free 7
      have jf8 := T5.out.R.free 8
      have jf9 := T5.out.R.free 9
      have jf10 := T5.out.R.free 10
      have jf11 := T5.out.R.free 11
      go_wp2_with fail
      obtain ⟨wz, hwz⟩ : ∃ X, X = ((((((((((((w5.setCell ⟨w.heap.size + 1, 0, none⟩ (.int .i64 d'.R)).setCell ⟨w.heap.size + 1, 1, none⟩ (.int .i64 d'.C)).setCell ⟨w.heap.size + 1, 2, none⟩ (.slice x'.a d'.A.length x'.ca)).setCell ⟨w.heap.size + 1, 3, none⟩ (.slice x'.b d'.B.length x'.cb)).setCell ⟨w.heap.size + 1, 4, none⟩ (.int .i64 d'.P)).setCell ⟨w.heap.size + 1, 5, none⟩ (.int .i64 d'.T)).setCell ⟨w.heap.size + 1, 6, none⟩ (.slice x'.v d'.V.length x'.cv)).setCell ⟨w.heap.size + 1, 7, none⟩ (.int .i64 d'.U)).setCell ⟨w.heap.size + 1, 8, none⟩ (.int .i64 d'.N)).setCell ⟨w.heap.size + 1, 9, none⟩ (.slice x'.w d'.W.length x'.cw)).setCell ⟨w.heap.size + 1, 10, none⟩ (.slice x'.k d'.K.length x'.ck)).setCell ⟨w.heap.size + 1, 11, none⟩ (.slice x'.f d'.F.length x'.cf)) := ⟨_, rfl⟩
      have hp : put12 w5 (w.heap.size + 1) (.int .i64 d'.R) (.int .i64 d'.C) (.slice x'.a d'.A.length x'.ca) (.slice x'.b d'.B.length x'.cb) (.int .i64 d'.P) (.int .i64 d'.T) (.slice x'.v d'.V.length x'.cv) (.int .i64 d'.U) (.int .i64 d'.N) (.slice x'.w d'.W.length x'.cw) (.slice x'.k d'.K.length x'.ck) (.slice x'.f d'.F.length x'.cf) = wz := by rw [hwz]; rfl
      obtain ⟨KZ, BZ, DZ⟩ := cm_end T5.out D5.out hL'.out hp
      rw [← hwz]
      clear hwz hp v0 v1 v2 v3 v4 v5 v6 v7 v8 v9 v10 v11 j0 j1 j2 j3 j4 j5 j6 j7 j8 j9 j10 j11 jf0 jf1 jf2 jf3 jf4 jf5 jf6 jf7 jf8 jf9 jf10 jf11
      have HBZ := Lib.hid BZ
      have HDZ := Lib.hid DZ
      obtain ⟨t0, t1, t2, t3, t4, t5, t6, t7, t8, t9, t10, t11⟩ := cells12 KZ
      refine bodyPost_ret (v := .tuple #[.agg #[.int .i64 d'.R, .int .i64 d'.C, .slice x'.a d'.A.length x'.ca, .slice x'.b d'.B.length x'.cb, .int .i64 d'.P, .int .i64 d'.T, .slice x'.v d'.V.length x'.cv, .int .i64 d'.U, .int .i64 d'.N, .slice x'.w d'.W.length x'.cw, .slice x'.k d'.K.length x'.ck, .slice x'.f d'.F.length x'.cf], .string tb]) (by simp [results, Tryz.results61, go_sem, t0, t1, t2, t3, t4, t5, t6, t7, t8, t9, t10, t11]; try exact htb.symm) rfl ?_
      have e : cmdOf f d = (d', t') := by unfold cmdOf; rw [hr.out]; dsimp only; rw [HK.out]; rfl
      rw [e]
      exact ⟨HBZ.out, x', by rw [htb]; rfl, HDZ.out, .inr (hL'.out.mono (by omega))⟩
end Go.Proofs.YtkbejmjkdnfemaaGreatDoor
namespace Go.Proofs.YtkbejmjkdnfemaaGreatDoor
set_option linter.unusedVariables false
set_option linter.unusedSimpArgs false
open Go.RowKit

/-- A line, and what it does to a desk and to what was told. -/
abbrev LineF := List UInt8 × (DD → DD × List UInt8)
def runStep (s : DD × List UInt8) (p : LineF) : DD × List UInt8 := ((p.2 s.1).1, s.2 ++ ((p.2 s.1).2 ++ [10]))
def runsF (ps : List LineF) (s : DD × List UInt8) : DD × List UInt8 := ps.foldl runStep s
theorem runsF_take {ps : List LineF} {s : DD × List UInt8} {k : Nat} {p : LineF} (h : ps[k]? = some p) : runsF (ps.take (k + 1)) s = runStep (runsF (ps.take k) s) p := by
  unfold runsF
  rw [List.take_add_one, h, List.foldl_append]
  rfl
/-- A desk stays valid, and what is told grows by at most so much. -/
theorem runsF_ok {ps : List LineF} {s : DD × List UInt8} {m : Nat} (hF : ∀ p ∈ ps, ∀ d : DD, d.ok = true → (p.2 d).1.ok = true ∧ (p.2 d).2.length ≤ m) (h : s.1.ok = true) : (runsF ps s).1.ok = true ∧ (runsF ps s).2.length ≤ s.2.length + ps.length * (m + 1) := by
  induction ps generalizing s with
  | nil => exact ⟨h, by simp [runsF]⟩
  | cons p ps ih =>
    obtain ⟨h1, h2⟩ := hF p (List.mem_cons_self ..) s.1 h
    have := ih (s := runStep s p) (fun l' hl => hF l' (List.mem_cons_of_mem _ hl)) h1
    refine ⟨this.1, Nat.le_trans this.2 ?_⟩
    simp only [runStep, List.length_append, List.length_cons, List.length_nil, Nat.add_mul, Nat.one_mul]
    omega
theorem runsF_take_ok {ps : List LineF} {s : DD × List UInt8} {m : Nat} (hF : ∀ p ∈ ps, ∀ d : DD, d.ok = true → (p.2 d).1.ok = true ∧ (p.2 d).2.length ≤ m) (h : s.1.ok = true) (k : Nat) : (runsF (ps.take k) s).1.ok = true ∧ (runsF (ps.take k) s).2.length ≤ s.2.length + ps.length * (m + 1) := by
  have := runsF_ok (m := m) (ps := ps.take k) (fun l hl => hF l (List.mem_of_mem_take hl)) h
  refine ⟨this.1, Nat.le_trans this.2 ?_⟩
  have hk : (ps.take k).length ≤ ps.length := by rw [List.length_take]; omega
  have := Nat.mul_le_mul_right (m + 1) hk
  omega
/-- No list of a desk lies in such a block. -/
structure DNo (bad : Nat → Prop) (x : DA) : Prop where
  a : ∀ y, x.a = some y → ¬ bad y.block
  b : ∀ y, x.b = some y → ¬ bad y.block
  v : ∀ y, x.v = some y → ¬ bad y.block
  w : ∀ y, x.w = some y → ¬ bad y.block
  k : ∀ y, x.k = some y → ¬ bad y.block
  f : ∀ y, x.f = some y → ¬ bad y.block
theorem DNo.of_lo {bad : Nat → Prop} {x : DA} {lo : Nat} (h : DLo lo x) (hb : ∀ k, bad k → k < lo) : DNo bad x :=
  ⟨fun y e n => by have := hb _ n; have := h.a y e; omega, fun y e n => by have := hb _ n; have := h.b y e; omega, fun y e n => by have := hb _ n; have := h.v y e; omega, fun y e n => by have := hb _ n; have := h.w y e; omega, fun y e n => by have := hb _ n; have := h.k y e; omega, fun y e n => by have := hb _ n; have := h.f y e; omega⟩
/-- Lists that are not empty lie where they are said to lie. -/
theorem rd_lt {w : World} {Z : Nat} {a : Option Addr} {vs : List Value} (h : Rd w Z a vs) (hn : vs ≠ []) : ∀ y, a = some y → y.block < Z := by
  rcases h with h | ⟨g, o, e, hg, _⟩
  · exact absurd h hn
  · intro y hy; rw [e] at hy; injection hy with hy; subst hy; exact hg
theorem rd_no {w w' : World} {bad : Nat → Prop} {a : Option Addr} {vs : List Value} (h : Rd w w.heap.size a vs) (hn : ∀ y, a = some y → ¬ bad y.block) (hs : w.heap.size ≤ w'.heap.size) (hk : ∀ k, k < w.heap.size → ¬ bad k → w'.heap[k]? = w.heap[k]?) : Rd w' w'.heap.size a vs := by
  rcases h with h | ⟨g, o, e, hg, hc⟩
  · exact .inl h
  · exact .inr ⟨g, o, e, Nat.lt_of_lt_of_le hg hs, fun j hj => by rw [World.cell?_of_block (w := w) (hk g hg (hn _ e))]; exact hc j hj⟩
/-- A desk's lists stay when other blocks are written. -/
theorem DRd.no {w w' : World} {bad : Nat → Prop} {d : DD} {x : DA} (h : DRd w w.heap.size d x) (hn : DNo bad x) (hs : w.heap.size ≤ w'.heap.size) (hk : ∀ k, k < w.heap.size → ¬ bad k → w'.heap[k]? = w.heap[k]?) : DRd w' w'.heap.size d x :=
  ⟨⟨rd_no h.r.A hn.a hs hk, rd_no h.r.B hn.b hs hk, rd_no h.r.V hn.v hs hk, rd_no h.r.W hn.w hs hk, rd_no h.r.C hn.k hs hk, rd_no h.r.T hn.f hs hk⟩, h.f⟩
theorem DNo.or {p q r : Nat → Prop} {x : DA} (h : DNo p x) (h2 : DNo q x) (hr : ∀ k, r k → p k ∨ q k) : DNo r x :=
  ⟨fun y e n => (hr _ n).elim (h.a y e) (h2.a y e), fun y e n => (hr _ n).elim (h.b y e) (h2.b y e), fun y e n => (hr _ n).elim (h.v y e) (h2.v y e), fun y e n => (hr _ n).elim (h.w y e) (h2.w y e), fun y e n => (hr _ n).elim (h.k y e) (h2.k y e), fun y e n => (hr _ n).elim (h.f y e) (h2.f y e)⟩
theorem ints_ne {xs : List Int} (h : 1 ≤ xs.length) : ints xs ≠ [] := fun e => by have := congrArg List.length e; rw [ints_length] at this; simp at this; subst this; simp at h
theorem flts_ne {xs : List Nat} (h : 1 ≤ xs.length) : flts xs ≠ [] := fun e => by have := congrArg List.length e; simp [flts] at this; subst this; simp at h
/-- A valid desk's lists lie below the bound. -/
theorem DRd.lt {w : World} {Z : Nat} {d : DD} {x : DA} (h : DRd w Z d x) (hok : d.ok = true) {bad : Nat → Prop} (hb : ∀ k, bad k → Z ≤ k) : DNo bad x := by
  obtain ⟨⟨a1, _⟩, ⟨b1, _⟩, ⟨v1, _⟩, ⟨l1, _⟩, ⟨k1, _⟩, f1, _⟩ := DD.ok_len hok
  exact ⟨fun y e n => by have := hb _ n; have := rd_lt h.r.A (ints_ne a1) y e; omega, fun y e n => by have := hb _ n; have := rd_lt h.r.B (ints_ne b1) y e; omega, fun y e n => by have := hb _ n; have := rd_lt h.r.V (ints_ne v1) y e; omega, fun y e n => by have := hb _ n; have := rd_lt h.r.W (ints_ne l1) y e; omega, fun y e n => by have := hb _ n; have := rd_lt h.r.C (ints_ne k1) y e; omega, fun y e n => by have := hb _ n; have := rd_lt h.r.T (flts_ne f1) y e; omega⟩
/-- A desk's cells are no strings. -/
theorem cells_nostr {w : World} {g T : Nat} {d : DD} {x : DA} (h : Blk w g (d.cells x) T) (o : Nat) (t : ByteArray) : w.cell? ⟨g, o, none⟩ ≠ some (.string t) := by
  rw [h.cell]
  intro e
  have := List.mem_of_getElem? e
  simp [DD.cells] at this
theorem zero_nostr {w : World} {g T : Nat} (h : Blk w g [.int .i64 0, .int .i64 0, .slice none 0 0, .slice none 0 0, .int .i64 0, .int .i64 0, .slice none 0 0, .int .i64 0, .int .i64 0, .slice none 0 0, .slice none 0 0, .slice none 0 0] T) (o : Nat) (t : ByteArray) : w.cell? ⟨g, o, none⟩ ≠ some (.string t) := by
  rw [h.cell]
  intro e
  have := List.mem_of_getElem? e
  simp at this
/-- A row of strings lies in no block that holds none. -/
theorem strs_ne {w : World} {Z g : Nat} {a : Option Addr} {ls : List (List UInt8)} (h : Rd w Z a (strs ls)) (hl : ls ≠ []) (hg : ∀ o t, w.cell? ⟨g, o, none⟩ ≠ some (.string t)) : ∀ y, a = some y → y.block ≠ g := by
  rcases h with h | ⟨b, o, e, hb, hc⟩
  · cases ls with
    | nil => exact absurd rfl hl
    | cons l ls => simp [strs] at h
  · intro y hy e2
    rw [e] at hy
    injection hy with hy
    subst hy
    cases ls with
    | nil => exact hl rfl
    | cons l ls =>
      have := hc 0 (by simp)
      simp only [strs, List.map_cons, List.getElem?_cons_zero, Nat.add_zero] at this
      exact hg o _ (by rw [← e2]; exact this)
end Go.Proofs.YtkbejmjkdnfemaaGreatDoor
namespace Go.Proofs.YtkbejmjkdnfemaaGreatDoor
set_option linter.unusedVariables false
set_option linter.unusedSimpArgs false
open Go.RowKit

/-- The bytes of a number's text. -/
def numByte (b : UInt8) : Prop := b = 45 ∨ (48 ≤ b.toNat ∧ b.toNat ≤ 57)
theorem dec_bytes : ∀ (u : Nat) (b : UInt8), b ∈ Lib.decDigits u → 48 ≤ b.toNat ∧ b.toNat ≤ 57 := by
  intro u
  induction u using Nat.strongRecOn with
  | ind u ih =>
    intro b hb
    rw [Lib.decDigits] at hb
    split at hb
    · rename_i h
      rw [List.mem_singleton] at hb
      rw [hb, digit_toNat u h]; omega
    · rcases List.mem_append.1 hb with h | h
      · exact ih (u / 10) (by omega) b h
      · rw [List.mem_singleton] at h
        rw [h, digit_toNat (u % 10) (by omega)]; omega
theorem itoa_bytes {n : Int} {b : UInt8} (h : b ∈ Lib.itoa n) : numByte b := by
  rcases Int.lt_or_le n 0 with h0 | h0
  · rw [itoa_lt h0] at h
    rcases List.mem_cons.1 h with rfl | h
    · exact .inl rfl
    · exact .inr (dec_bytes _ _ h)
  · rw [itoa_nat h0] at h
    exact .inr (dec_bytes _ _ h)
theorem itoa_nz (n : Int) : Lib.itoa n ≠ [] := by
  intro h
  rcases Int.lt_or_le n 0 with h0 | h0
  · rw [itoa_lt h0] at h; cases h
  · rw [itoa_nat h0] at h
    have := dec_pos n.toNat
    rw [h] at this; simp at this
/-- Cutting what was joined. -/
theorem cut_join {c : UInt8} : ∀ (x : List UInt8) (r : List (List UInt8)), (∀ y ∈ x :: r, c ∉ y) → cutL c (Lib.join (x :: r) [c]) = x :: r
  | x, [], h => by rw [Lib.join_one]; exact cutL_none (h x (by simp))
  | x, y :: r, h => by
    have e : Lib.join (x :: y :: r) [c] = x ++ c :: Lib.join (y :: r) [c] := by
      rw [Lib.join_cons, Lib.join_cons]
      simp [Lib.joinTail]
    rw [e, cutL_hit (h x (by simp)), cut_join y r (fun z hz => h z (List.mem_cons_of_mem _ hz))]
theorem join_mem {b : UInt8} {c : UInt8} : ∀ (xs : List (List UInt8)), b ∈ Lib.join xs [c] → b = c ∨ ∃ x ∈ xs, b ∈ x
  | [], h => by rw [Lib.join_nil] at h; cases h
  | x :: r, h => by
    rw [Lib.join_cons] at h
    rcases List.mem_append.1 h with h | h
    · exact .inr ⟨x, by simp, h⟩
    · unfold Lib.joinTail at h
      obtain ⟨l, hl, hb⟩ := List.mem_flatten.1 h
      obtain ⟨y, hy, rfl⟩ := List.mem_map.1 hl
      rcases List.mem_append.1 hb with hb | hb
      · rw [List.mem_singleton] at hb; exact .inl hb
      · exact .inr ⟨y, List.mem_cons_of_mem _ hy, hb⟩
/-- The bytes of a list's text. -/
theorem textL_bytes {xs : List Int} {b : UInt8} (h : b ∈ textL xs) : numByte b ∨ b = 44 ∨ b = 110 ∨ b = 111 ∨ b = 101 := by
  unfold textL at h
  by_cases he : xs = []
  · rw [if_pos he] at h
    have key : ∀ c : UInt8, c ∈ ([110, 111, 110, 101] : List UInt8) → numByte c ∨ c = 44 ∨ c = 110 ∨ c = 111 ∨ c = 101 := fun c hc => by
      simp only [List.mem_cons, List.not_mem_nil, or_false] at hc
      rcases hc with rfl | rfl | rfl | rfl <;> simp
    exact key b h
  · rw [if_neg he] at h
    rcases join_mem _ h with h | ⟨x, hx, hb⟩
    · exact .inr (.inl h)
    · obtain ⟨n, _, rfl⟩ := List.mem_map.1 hx
      exact .inl (itoa_bytes hb)
theorem not_num {b : UInt8} {c : UInt8} (h : numByte b) (h1 : c ≠ 45) (h2 : c.toNat < 48 ∨ 57 < c.toNat) : b ≠ c := by
  rintro rfl
  rcases h with h | h
  · exact h1 h
  · omega
theorem pcs_text (xs : List Int) : pcsF (textL xs) = xs.map Lib.itoa := by
  cases xs with
  | nil => rfl
  | cons x r =>
    have e : textL (x :: r) = Lib.join (Lib.itoa x :: r.map Lib.itoa) [44] := by unfold textL; rw [if_neg (by simp)]; rfl
    have hne : textL (x :: r) ≠ noneL := by
      intro h
      have h1 : (110 : UInt8) ∈ textL (x :: r) := by rw [h]; simp [noneL]
      rw [e] at h1
      rcases join_mem _ h1 with h2 | ⟨y, hy, hb⟩
      · exact absurd h2 (by decide)
      · have : ∃ n, y = Lib.itoa n := by
          rcases List.mem_cons.1 hy with rfl | hy
          · exact ⟨x, rfl⟩
          · obtain ⟨n, _, rfl⟩ := List.mem_map.1 hy
            exact ⟨n, rfl⟩
        obtain ⟨n, rfl⟩ := this
        exact not_num (itoa_bytes hb) (c := 110) (by decide) (by decide) rfl
    unfold pcsF
    rw [if_neg hne, e, cut_join]
    · rfl
    · intro y hy hm
      have : ∃ n, y = Lib.itoa n := by
        rcases List.mem_cons.1 hy with rfl | hy
        · exact ⟨x, rfl⟩
        · obtain ⟨n, _, rfl⟩ := List.mem_map.1 hy
          exact ⟨n, rfl⟩
      obtain ⟨n, rfl⟩ := this
      exact not_num (itoa_bytes hm) (c := 44) (by decide) (by decide) rfl
theorem allO_map {xs : List Int} (h : ∀ x ∈ xs, -bigM ≤ x ∧ x ≤ bigM) : allO valF (xs.map Lib.itoa) = some xs := by
  induction xs with
  | nil => rfl
  | cons x r ih =>
    have hx := h x (by simp)
    rw [List.map_cons, allO_some (valF_itoa hx.1 hx.2), ih (fun y hy => h y (List.mem_cons_of_mem _ hy))]; rfl
theorem nums_text {xs : List Int} (h : valOk xs = true) : numsF (textL xs) = some xs := by
  unfold valOk at h
  rw [Bool.and_eq_true, allIn_iff, decide_eq_true_eq] at h
  refine numsF_some (ns := xs) ?_ h.2
  rw [pcs_text, allO_map (fun x hx => by have := h.1 x hx; unfold bigM; omega)]
theorem text_no {xs : List Int} {c : UInt8} (h : c = 59 ∨ c = 32 ∨ c = 10) : c ∉ textL xs := by
  intro hm
  rcases textL_bytes hm with h1 | h1 | h1 | h1 | h1
  · rcases h with rfl | rfl | rfl
    · exact not_num h1 (by decide) (by decide) rfl
    · exact not_num h1 (by decide) (by decide) rfl
    · exact not_num h1 (by decide) (by decide) rfl
  all_goals (rcases h with rfl | rfl | rfl <;> exact absurd h1 (by decide))
theorem parts_no {xss : List (List Int)} {c : UInt8} (h : c = 32 ∨ c = 10) : c ∉ partsL xss := by
  intro hm
  unfold partsL at hm
  rcases join_mem _ hm with h1 | ⟨x, hx, hb⟩
  · rcases h with rfl | rfl <;> exact absurd h1 (by decide)
  · obtain ⟨y, _, rfl⟩ := List.mem_map.1 hx
    exact text_no (by rcases h with rfl | rfl <;> simp) hb
theorem cut_parts {x : List Int} {r : List (List Int)} : cutL 59 (partsL (x :: r)) = (x :: r).map textL := by
  unfold partsL
  rw [List.map_cons, cut_join]
  intro y hy
  have : ∃ n, y = textL n := by
    rcases List.mem_cons.1 hy with rfl | hy
    · exact ⟨x, rfl⟩
    · obtain ⟨n, _, rfl⟩ := List.mem_map.1 hy
      exact ⟨n, rfl⟩
  obtain ⟨n, rfl⟩ := this
  exact text_no (.inl rfl)
theorem allO_text : ∀ {xss : List (List Int)}, (∀ x ∈ xss, valOk x = true) → allO numsF (xss.map textL) = some xss
  | [], _ => rfl
  | x :: r, h => by rw [List.map_cons, allO_some (nums_text (h x (by simp))), allO_text (fun y hy => h y (List.mem_cons_of_mem _ hy))]; rfl
end Go.Proofs.YtkbejmjkdnfemaaGreatDoor
namespace Go.Proofs.YtkbejmjkdnfemaaGreatDoor
set_option linter.unusedVariables false
set_option linter.unusedSimpArgs false
open Go.RowKit

theorem lists_text3 {p q : Int} {x2 x3 : List Int} (ok : ∀ x ∈ [[p, q], x2, x3], valOk x = true) : listsF 3 (partsL [[p, q], x2, x3]) = some [[p, q], x2, x3] := by
  rw [listsF_some (yss := [[p, q], x2, x3]) (by rw [cut_parts, allO_text ok])]; rfl
theorem lists_text2 {p q : Int} {x2 : List Int} (ok : ∀ x ∈ [[p, q], x2], valOk x = true) : listsF 2 (partsL [[p, q], x2]) = some [[p, q], x2] := by
  rw [listsF_some (yss := [[p, q], x2]) (by rw [cut_parts, allO_text ok])]; rfl
theorem readGame_text {R C : Int} {A B : List Int} (h : gameB R C A B = true) : rd2F gameB (partsL [[R, C], A, B]) = (R, C, A, B, true) := by
  rw [rd2F_some (lists_text3 (game_ok h)), if_pos h]
theorem readValues_text {P T : Int} {V : List Int} (h : valuesB P T V = true) : rd1F valuesB (partsL [[P, T], V]) = (P, T, V, true) := by
  rw [rd1F_some (lists_text2 (values_ok h)), if_pos h]
theorem rd2_text {V : Int → Int → List Int → List Int → Bool} {p q : Int} {x2 x3 : List Int} (ok : ∀ x ∈ [[p, q], x2, x3], valOk x = true) (h : V p q x2 x3 = true) : rd2F V (partsL [[p, q], x2, x3]) = (p, q, x2, x3, true) := by
  rw [rd2F_some (lists_text3 ok), if_pos h]
end Go.Proofs.YtkbejmjkdnfemaaGreatDoor
namespace Go.Proofs.YtkbejmjkdnfemaaGreatDoor
set_option linter.unusedVariables false
set_option linter.unusedSimpArgs false
open Go.RowKit

theorem hexT_no {x : Nat} {c : UInt8} (h1 : c.toNat < 48 ∨ (57 < c.toNat ∧ c.toNat < 97) ∨ 102 < c.toNat) : c ∉ hexT x := by
  intro hm
  rcases hexT_mem hm with h | h <;> omega
theorem pcs_ntext (xs : List Nat) : pcsF (ntextL xs) = xs.map hexT := by
  cases xs with
  | nil => rfl
  | cons x r =>
    have e : ntextL (x :: r) = Lib.join (hexT x :: r.map hexT) [44] := by unfold ntextL; rw [if_neg (by simp)]; rfl
    have hall : ∀ y ∈ hexT x :: r.map hexT, ∃ n, y = hexT n := fun y hy => by
      rcases List.mem_cons.1 hy with rfl | hy
      · exact ⟨x, rfl⟩
      · obtain ⟨n, _, rfl⟩ := List.mem_map.1 hy
        exact ⟨n, rfl⟩
    have hne : ntextL (x :: r) ≠ noneL := by
      intro h
      have h1 : (110 : UInt8) ∈ ntextL (x :: r) := by rw [h]; simp [noneL]
      rw [e] at h1
      rcases join_mem _ h1 with h2 | ⟨y, hy, hb⟩
      · exact absurd h2 (by decide)
      · obtain ⟨n, rfl⟩ := hall y hy
        exact hexT_no (c := 110) (by decide) hb
    unfold pcsF
    rw [if_neg hne, e, cut_join]
    · rfl
    · intro y hy hm
      obtain ⟨n, rfl⟩ := hall y hy
      exact hexT_no (c := 44) (by decide) hm
theorem allO_hex : ∀ {xs : List Nat}, (∀ x ∈ xs, x < 4294967296) → allO oneN (xs.map hexT) = some (xs.map bitsN)
  | [], _ => rfl
  | x :: r, h => by
    have hx : oneN (hexT x) = some (bitsN x) := by
      rw [oneN_some (hexT_len x)]
      unfold hexT
      rw [rdHex_F (bitsN_lt (h x (by simp)))]
    rw [List.map_cons, allO_some hx, allO_hex (fun y hy => h y (List.mem_cons_of_mem _ hy))]; rfl
theorem hexT_bits (x : Nat) : hexT (bitsN x) = hexT x := by unfold hexT; rw [bitsN_twice]
theorem ntext_bits (xs : List Nat) : ntextL (xs.map bitsN) = ntextL xs := by
  unfold ntextL
  by_cases h : xs = []
  · subst h; rfl
  · rw [if_neg h, if_neg (by simpa using h), List.map_map]
    congr 1
    exact List.map_congr_left fun x _ => hexT_bits x
theorem numbers_text {xs : List Nat} (h : xs.length ≤ 256) (hlt : ∀ x ∈ xs, x < 4294967296) : numbersF (ntextL xs) = some (xs.map bitsN) := by
  rw [numbersF_some (xs := xs.map bitsN) (by rw [pcs_ntext, allO_hex hlt]), if_pos ⟨by rw [List.length_map]; exact h, ntext_bits xs⟩]
theorem ntext_no {xs : List Nat} {c : UInt8} (h : c = 59 ∨ c = 32 ∨ c = 10) : c ∉ ntextL xs := by
  intro hm
  unfold ntextL at hm
  split at hm
  · rcases h with rfl | rfl | rfl <;> simp [noneL] at hm
  · rcases join_mem _ hm with h2 | ⟨y, hy, hb⟩
    · rcases h with rfl | rfl | rfl <;> exact absurd h2 (by decide)
    · obtain ⟨n, _, rfl⟩ := List.mem_map.1 hy
      refine hexT_no (c := c) ?_ hb
      rcases h with rfl | rfl | rfl <;> decide
end Go.Proofs.YtkbejmjkdnfemaaGreatDoor
namespace Go.Proofs.YtkbejmjkdnfemaaGreatDoor
set_option linter.unusedVariables false
set_option linter.unusedSimpArgs false
open Go.RowKit

theorem cut_one {c : UInt8} {w : List UInt8} (h : c ∉ w) : cutL c w = [w] := by
  have := cut_join (c := c) w [] (fun y hy => by rcases List.mem_cons.1 hy with rfl | hy; exact h; cases hy)
  rwa [Lib.join_one] at this
theorem cut_two {c : UInt8} {w t : List UInt8} (h : c ∉ w) (h2 : c ∉ t) : cutL c (w ++ c :: t) = [w, t] := by
  have := cut_join (c := c) w [t] (fun y hy => by
    rcases List.mem_cons.1 hy with rfl | hy
    · exact h
    · rcases List.mem_cons.1 hy with rfl | hy
      · exact h2
      · cases hy)
  rw [Lib.join_cons] at this
  simpa [Lib.joinTail] using this
/-- Lines, each with a newline behind it. -/
def tellsL (ls : List (List UInt8)) : List UInt8 := (ls.map (· ++ [10])).flatten
theorem tells_cons (l : List UInt8) (ls : List (List UInt8)) : tellsL (l :: ls) = l ++ 10 :: tellsL ls := by simp [tellsL]
theorem tells_join : ∀ (l : List UInt8) (ls : List (List UInt8)), Lib.join (l :: (ls ++ [[]])) [10] = l ++ 10 :: tellsL ls
  | l, [] => by rw [List.nil_append, Lib.join_cons]; simp [Lib.joinTail, tellsL]
  | l, m :: ls => by
    have ih := tells_join m ls
    rw [Lib.join_cons] at ih
    rw [List.cons_append, Lib.join_cons, Lib.joinTail, List.map_cons, List.flatten_cons, tells_cons, ← ih]
    simp [Lib.joinTail]
theorem cut_tells {ls : List (List UInt8)} (h : ∀ l ∈ ls, (10 : UInt8) ∉ l) : cutL 10 (tellsL ls) = ls ++ [[]] := by
  cases ls with
  | nil => exact cut_one (by simp [tellsL])
  | cons l ls =>
    rw [tells_cons, ← tells_join, ← List.cons_append]
    refine cut_join (c := 10) l (ls ++ [[]]) (fun y hy => ?_)
    rcases List.mem_cons.1 hy with rfl | hy
    · exact h _ (by simp)
    · rcases List.mem_append.1 hy with hy | hy
      · exact h y (by simp [hy])
      · simp at hy; subst hy; simp
theorem lines_tells {ls : List (List UInt8)} (h : ∀ l ∈ ls, (10 : UInt8) ∉ l) : linesL (tellsL ls) = ls ∧ restL (tellsL ls) = [] := by
  have e := cut_lines (tellsL ls)
  rw [cut_tells h] at e
  have e2 := List.append_inj' e.symm rfl
  exact ⟨e2.1, by have := e2.2; simpa using this⟩
theorem tells_len (ls : List (List UInt8)) : (tellsL ls).length = Lib.lens ls + ls.length := by
  induction ls with
  | nil => rfl
  | cons l ls ih => rw [tells_cons, List.length_append, List.length_cons, ih]; simp [Lib.lens]; omega
/-- Texts of lists are no errors. -/
theorem textL_first (xs : List Int) : textL xs = [110, 111, 110, 101] ∨ ∃ b r, textL xs = b :: r ∧ numByte b := by
  unfold textL
  split
  · exact .inl rfl
  · right
    cases xs with
    | nil => simp_all
    | cons x r =>
      rw [List.map_cons, Lib.join_cons]
      have hz := itoa_nz x
      have hb := fun b => itoa_bytes (n := x) (b := b)
      generalize Lib.itoa x = l at hz hb
      cases l with
      | nil => exact absurd rfl hz
      | cons b l => exact ⟨b, _, rfl, hb b (by simp)⟩
theorem num_ne {b : UInt8} (h : numByte b) : b ≠ 110 ∧ b ≠ 119 ∧ b ≠ 10 := ⟨not_num h (by decide) (by decide), not_num h (by decide) (by decide), not_num h (by decide) (by decide)⟩
theorem bad_first {b : UInt8} {r : List UInt8} (h : b ≠ 110) (h2 : b ≠ 119) : isBad (b :: r) = false := by
  unfold isBad
  rw [Bool.or_eq_false_iff, decide_eq_false_iff_not, decide_eq_false_iff_not]
  exact ⟨fun e => h (by injection e), fun e => h2 (by injection e)⟩
theorem bad_none (r : List UInt8) : isBad (110 :: 111 :: 110 :: 101 :: r) = false := by
  unfold isBad
  rw [Bool.or_eq_false_iff, decide_eq_false_iff_not, decide_eq_false_iff_not]
  exact ⟨fun e => by simp at e, fun e => by simp at e⟩
theorem text_more (xs : List Int) (r : List UInt8) : isBad (textL xs ++ r) = false := by
  rcases textL_first xs with h | ⟨b, l, h, hb⟩
  · rw [h]; exact bad_none r
  · rw [h]; exact bad_first (num_ne hb).1 (num_ne hb).2.1
theorem parts_good (x : List Int) (r : List (List Int)) : isBad (partsL (x :: r)) = false := by
  unfold partsL
  rw [List.map_cons, Lib.join_cons]
  exact text_more x _
theorem itoa_good (n : Int) : isBad (Lib.itoa n) = false := by
  have hz := itoa_nz n
  have hb := fun b => itoa_bytes (n := n) (b := b)
  generalize Lib.itoa n = l at hz hb
  cases l with
  | nil => exact absurd rfl hz
  | cons b l => exact bad_first (num_ne (hb b (by simp))).1 (num_ne (hb b (by simp))).2.1
theorem ntext_good (xs : List Nat) : isBad (ntextL xs) = false := by
  unfold ntextL
  split
  · exact bad_none []
  · cases xs with
    | nil => simp_all
    | cons x r =>
      rw [List.map_cons, Lib.join_cons]
      have hl := hexT_len x
      have hb := fun b => hexT_mem (x := x) (b := b)
      generalize hexT x = l at hl hb
      cases l with
      | nil => simp at hl
      | cons b l =>
        have := hb b (by simp)
        refine bad_first (fun e => ?_) (fun e => ?_)
        · subst e; revert this; decide
        · subst e; revert this; decide
theorem itoa_no10 (n : Int) : (10 : UInt8) ∉ Lib.itoa n := fun h => (num_ne (itoa_bytes h)).2.2 rfl
/-- How long texts are. -/
theorem text_le {xs : List Int} (h : valOk xs = true) : (textL xs).length ≤ 22 * xs.length + 4 := by
  unfold valOk at h
  rw [Bool.and_eq_true, allIn_iff] at h
  exact textL_len (fun x hx => by have := h.1 x hx; omega)
theorem valOk_len {xs : List Int} (h : valOk xs = true) : xs.length ≤ 64 := by
  unfold valOk at h
  rw [Bool.and_eq_true, decide_eq_true_eq] at h
  exact h.2
theorem parts_le {xss : List (List Int)} (h : ∀ x ∈ xss, valOk x = true) : (partsL xss).length ≤ 1413 * xss.length := by
  unfold partsL
  have := join_len (m := 1412) (xs := xss.map textL) (sep := [59]) (fun x hx => by
    obtain ⟨y, hy, rfl⟩ := List.mem_map.1 hx
    have h1 := text_le (h y hy)
    have h2 := valOk_len (h y hy)
    omega)
  simpa using this
theorem parts2_len (x y : List Int) : (partsL [x, y]).length = (textL x).length + 1 + (textL y).length := by
  simp [partsL, Lib.join_cons, Lib.joinTail]; omega
theorem parts3_len (x y z : List Int) : (partsL [x, y, z]).length = (textL x).length + 1 + (textL y).length + 1 + (textL z).length := by
  simp [partsL, Lib.join_cons, Lib.joinTail]; omega
end Go.Proofs.YtkbejmjkdnfemaaGreatDoor
