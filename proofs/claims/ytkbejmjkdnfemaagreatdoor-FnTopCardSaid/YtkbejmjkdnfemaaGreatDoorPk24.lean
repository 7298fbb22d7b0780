/-
  Part 24 of what the proof stands on: lemmas and contracts, each with its conditions ahead of the colon.
-/
import Derived.Deep.RegionHeld3
import Derived.Deep.RegionHeldLaw
import Derived.RegionTactic
import Derived.Test.YtkbejmjkdnfemaaGreatDoorPk06
import Derived.Test.YtkbejmjkdnfemaaGreatDoorPk11
import Derived.Test.YtkbejmjkdnfemaaGreatDoorPk12
import Derived.Test.YtkbejmjkdnfemaaGreatDoorPk13
import Derived.Test.YtkbejmjkdnfemaaGreatDoorPk17
import Derived.Test.YtkbejmjkdnfemaaGreatDoorPk18
import Derived.Test.YtkbejmjkdnfemaaGreatDoorPk20
import Derived.Test.YtkbejmjkdnfemaaGreatDoorPk23
namespace Go.Proofs.YtkbejmjkdnfemaaGreatDoor
set_option linter.unusedVariables false
set_option linter.unusedSimpArgs false
open Go.RowKit

/-- What a word and a list do. -/
def ListC (s : List UInt8) (xs : List Int) (f : DD → Option (List UInt8)) : Prop :=
  ∀ (w : World) (b : Nat) (d : DD) (x : DA) (a : Option Addr) (c : Nat), Env w → d.ok = true → Blk w b (d.cells x) 33 → DRd w w.heap.size d x → Rd w w.heap.size a (ints xs) → Calls Tryz.prog 272 #[.pointer (some ⟨b, 0, none⟩), .string (bs s), .slice a xs.length c] w (RetTn (f d) w)
theorem RetTn.of (r : Option (List UInt8)) {w w' : World} (h : Below w.heap.size w w') : RetTn r w (.returned (.tuple #[.string (bs (r.getD [])), .bool r.isSome])) w' := ⟨h, _, rfl, fun l hl => by rw [hl]; rfl⟩
theorem told0 {w : World} (ht : Tab w) (w1 : World) (hb : Below w.heap.size w w1) :
    Calls Tryz.prog 206 #[.bool false, .slice (some ⟨w1.heap.size, 0, none⟩) 1 1] (w1.alloc (.cells #[.slice none 0 0] 24)) (RetTx none w) := by
  have B1 := bl1 w1 (.cells #[.slice none 0 0] 24)
  have B2 := below_then hb B1
  refine (listsText_any (w1.alloc (.cells #[.slice none 0 0] 24)) (ht.to B2) false (some ⟨w1.heap.size, 0, none⟩) 1 [[]] (rdP1 (Blk.new w1 [.slice none 0 0] 24) (.inl rfl)) (by simp) (fun x hx => by simp at hx; subst hx; simp)).mono ?_
  rintro e w2 ⟨hb2, rfl⟩
  exact ⟨below_then B2 hb2, rfl⟩
theorem tab_len {P T : Nat} {V ow l : List Int} (h : envyTab P T V ow = some l) : l.length ≤ P * P := by
  unfold envyTab at h
  split at h
  · injection h with h; subst h; exact Nat.le_of_eq (tableN_len _ _ _ _ _)
  · cases h
theorem rest_len {c : Cr} {ch l : List Int} {m : Int} (h : restOF c ch = some (l, m)) (hl : ch.length ≤ 64) : l.length ≤ 1048576 ∧ -9223372036854775808 ≤ m ∧ m ≤ 9223372036854775807 := by
  cases hb : canB c ch with
  | false => rw [restOF_no hb] at h; cases h
  | true =>
    rw [restOF_yes hb] at h
    injection h with h
    injection h with h1 h2
    subst h1 h2
    have hc := can_of hb
    have e := restF_len hc
    have g := (restF_rest hc).2.2
    have b1 := pot_bd hc
    unfold measF at g
    refine ⟨by omega, by omega, by omega⟩
/-- A list's text, if there is a list. -/
def listO (r : Option (List Int)) : Option (List UInt8) := match r with
  | none => none
  | some l => txtO [l]
/-- A list's and a number's text. -/
def bothO (r : Option (List Int × Int)) : Option (List UInt8) := match r with
  | none => none
  | some (l, n) => numO true l n
set_option maxRecDepth 10000 in
set_option maxHeartbeats 4000000 in
theorem totalOf_no (w : World) (U : Int) (n : Int) (a2 : Option Addr) (c2 : Nat) (x2 : List Int) (a3 : Option Addr) (c3 : Nat) (x3 : List Int) (a : Option Addr) (c : Nat) (ch : List Int) (h : RdCrowd w w.heap.size a2 x2 a3 x3) (hl2 : x2.length ≤ 1048576) (hl3 : x3.length ≤ 1048576) (g : Rd w w.heap.size a (ints ch)) (hl : ch.length ≤ 1048576) (hcb : canB ⟨U, n, x2, x3⟩ ch = false) :
    Calls Tryz.prog 25 #[.agg #[.int .i64 U, .int .i64 n, .slice a2 x2.length c2, .slice a3 x3.length c3], .slice a ch.length c] w fun e w' => e = .returned (.tuple #[.int .i64 0, .bool false]) ∧ Below w.heap.size w w' := by
  have LC := Lib.hid (fun w' hb => chosen_any w' U n a2 c2 x2 a3 c3 x3 a c ch (h.to hb) hl2 hl3 (g.to hb) hl)
  rw [hcb] at LC
  clear h g hcb hl hl2 hl3
  go_enter Tryz.func25, Tryz.ntmps25
  go_wp2_with fail
  refine (LC.out _ (bl1 _ _)).mono ?_
  rintro e w1 ⟨rfl, hb1⟩
  have B1 := Lib.hid (below_then (bl1 w (.cells #[.int .i64 U, .int .i64 n, .slice a2 x2.length c2, .slice a3 x3.length c3] 30)) hb1)
  clear hb1 LC
  go_wp2_with fail
  go_ret2
  exact ⟨rfl, B1.out⟩

def wEnvy : List UInt8 := [101, 110, 118, 121]
set_option maxRecDepth 100000 in
set_option maxHeartbeats 16000000 in
theorem list_envy (xs : List Int) (hxs : xs.length ≤ 64) : ListC wEnvy xs (fun d => listO (envyTab d.P.toNat d.T.toNat d.V xs)) := by
  intro w b d x a c hE hok hB hR hX
  dsimp only
  obtain ⟨⟨a1, a2⟩, ⟨b1, b2⟩, ⟨v1, v2⟩, ⟨l1, l2⟩, ⟨k1, k2⟩, f1, f2⟩ := DD.ok_len hok
  obtain ⟨hg, hv, hc, ht⟩ := DD.ok_parts hok
  obtain ⟨R, C, A, B, dP, dT, V, U, N, W, K, F⟩ := d
  obtain ⟨P, T, e1, e2, p1, p6, t1, t8, lV, -⟩ := values_nat hv
  dsimp only at e1 e2 p1 p6 t1 t8 lV
  subst e1 e2
  have LG := Lib.hid (envyTable_any w P T x.v x.cv V a c xs hv hR.r.V hX (by omega))
  dsimp only [Int.toNat_natCast]
  obtain ⟨r, hr⟩ : ∃ r, r = envyTab P T V xs := ⟨_, rfl⟩
  rw [← hr] at LG ⊢
  have HL : Hid (∀ l, r = some l → l.length ≤ 1048576) := fun l hl => by have h8 : P ≤ 6 := p6; rw [hr] at hl; have := tab_len hl; have := Nat.mul_le_mul h8 h8; omega
  clear hr
  have HT := Lib.hid hE.tab
  unfold RetLB at LG
  obtain ⟨z0, z1, z2, z3, z4, z5, z6, z7, z8, z9, z10, z11⟩ := cells12 hB
  try dsimp only at z0 z1 z2 z3 z4 z5 z6 z7 z8 z9 z10 z11
  have HE := Lib.hid hE
  clear hB hR hE hok a1 a2 b1 b2 v1 v2 l1 l2 k1 k2 f1 f2 hg hv hc ht hX hxs p1 p6 t1 t8 lV
  obtain ⟨s, hs⟩ : ∃ s : ByteArray, s = bs wEnvy := ⟨_, rfl⟩
  have t_take : (s.toList == [116, 97, 107, 101]) = false := by rw [hs, bs_toList]; rfl
  have t_envy : (s.toList == [101, 110, 118, 121]) = true := by rw [hs, bs_toList]; rfl
  rw [← hs]
  clear hs
  go_enter Tryz.func272, Tryz.ntmps272
  go_wp2_with fail
  refine LG.out.mono ?_
  cases r with
  | none =>
    rintro e w1 ⟨hb, rfl⟩
    have LT1 := Lib.hid (told0 HT.out w1 hb)
    clear hb
    go_wp2_with fail
    refine LT1.out.mono ?_
    rintro e w2 ⟨hb2, rfl⟩
    go_wp2_with fail
    go_ret2
    exact RetTn.of none hb2
  | some l =>
    rintro e w1 ⟨hb, a', c', rfl, hr⟩
    have LT1 := Lib.hid (told1 HT.out l (HL.out l rfl) w1 hb a' c' hr)
    clear hb hr
    go_wp2_with fail
    refine LT1.out.mono ?_
    rintro e w2 ⟨hb2, rfl⟩
    go_wp2_with fail
    go_ret2
    exact RetTn.of (txtO [l]) hb2

def wRest : List UInt8 := [114, 101, 115, 116]
set_option maxRecDepth 100000 in
set_option maxHeartbeats 16000000 in
theorem list_rest (xs : List Int) (hxs : xs.length ≤ 64) : ListC wRest xs (fun d => bothO (restOF ⟨d.U, d.N, d.W, d.K⟩ xs)) := by
  intro w b d x a c hE hok hB hR hX
  dsimp only
  obtain ⟨⟨a1, a2⟩, ⟨b1, b2⟩, ⟨v1, v2⟩, ⟨l1, l2⟩, ⟨k1, k2⟩, f1, f2⟩ := DD.ok_len hok
  obtain ⟨hg, hv, hc, ht⟩ := DD.ok_parts hok
  have LG := Lib.hid (restOf_any w d.U d.N x.w x.cw d.W x.k x.ck d.K a c xs ⟨hR.r.W, hR.r.C⟩ (by omega) (by omega) hX (by omega))
  obtain ⟨r, hr⟩ : ∃ r, r = restOF ⟨d.U, d.N, d.W, d.K⟩ xs := ⟨_, rfl⟩
  rw [← hr] at LG ⊢
  have HL : Hid (∀ l m, r = some (l, m) → l.length ≤ 1048576 ∧ -9223372036854775808 ≤ m ∧ m ≤ 9223372036854775807) := fun l m hl => by rw [hr] at hl; exact rest_len hl (by omega)
  clear hr
  have HT := Lib.hid hE.tab
  unfold RetT at LG
  obtain ⟨z0, z1, z2, z3, z4, z5, z6, z7, z8, z9, z10, z11⟩ := cells12 hB
  try dsimp only at z0 z1 z2 z3 z4 z5 z6 z7 z8 z9 z10 z11
  have HE := Lib.hid hE
  clear hB hR hE hok a1 a2 b1 b2 v1 v2 l1 l2 k1 k2 f1 f2 hg hv hc ht hX hxs
  obtain ⟨s, hs⟩ : ∃ s : ByteArray, s = bs wRest := ⟨_, rfl⟩
  have t_take : (s.toList == [116, 97, 107, 101]) = false := by rw [hs, bs_toList]; rfl
  have t_envy : (s.toList == [101, 110, 118, 121]) = false := by rw [hs, bs_toList]; rfl
  have t_rest : (s.toList == [114, 101, 115, 116]) = true := by rw [hs, bs_toList]; rfl
  rw [← hs]
  clear hs
  go_enter Tryz.func272, Tryz.ntmps272
  go_wp2_with fail
  refine LG.out.mono ?_
  cases r with
  | none =>
    rintro e w1 ⟨hb, rfl⟩
    have LT1 := Lib.hid (withNumber_any w1 (HT.out.to hb) false none 0 [] 0 (.inl rfl) (by simp) (by omega) (by omega))
    rw [List.length_nil] at LT1
    have HB := Lib.hid hb
    clear hb
    go_wp2_with fail
    refine LT1.out.mono ?_
    rintro e w2 ⟨hb2, t, rfl, ht⟩
    go_wp2_with fail
    go_ret2
    exact ⟨below_then HB.out hb2, t, rfl, fun l hl => by cases hl⟩
  | some p =>
    obtain ⟨l, m⟩ := p
    rintro e w1 ⟨hb, a', c', rfl, hr⟩
    obtain ⟨h1, h2, h3⟩ := HL.out l m rfl
    have LT1 := Lib.hid (withNumber_any w1 (HT.out.to hb) true a' c' l m (rd_of_own hr (Nat.le_refl _)) h1 h2 h3)
    have HB := Lib.hid hb
    clear hb hr h1 h2 h3
    go_wp2_with fail
    refine LT1.out.mono ?_
    rintro e w2 ⟨hb2, t, rfl, ht⟩
    go_wp2_with fail
    go_ret2
    exact ⟨below_then HB.out hb2, t, rfl, ht⟩

def wTotal : List UInt8 := [116, 111, 116, 97, 108]
set_option maxRecDepth 100000 in
set_option maxHeartbeats 16000000 in
theorem list_total (xs : List Int) (hxs : xs.length ≤ 64) : ListC wTotal xs (fun d => if canB ⟨d.U, d.N, d.W, d.K⟩ xs then some (Lib.itoa (totalF ⟨d.U, d.N, d.W, d.K⟩ xs)) else none) := by
  intro w b d x a c hE hok hB hR hX
  dsimp only
  obtain ⟨⟨a1, a2⟩, ⟨b1, b2⟩, ⟨v1, v2⟩, ⟨l1, l2⟩, ⟨k1, k2⟩, f1, f2⟩ := DD.ok_len hok
  obtain ⟨hg, hv, hc, ht⟩ := DD.ok_parts hok
  have LD := Lib.hid (fun v (hb : Below w.heap.size w v) (n : Int) h0 h1 => decimal_any v (hE.tab.to hb) n h0 h1)
  obtain ⟨n, hn⟩ : ∃ n : Nat, d.N = (n : Int) := ⟨d.N.toNat, by have := (valid_of hc).r1; simp only at this; omega⟩
  have hX' := hX
  rw [hn] at hc ⊢
  have LN := Lib.hid (totalOf_no w d.U n x.w x.cw d.W x.k x.ck d.K a c xs ⟨hR.r.W, hR.r.C⟩ (by omega) (by omega) hX (by omega))
  have LY := Lib.hid (totalOf_any w d.U n x.w x.cw d.W x.k x.ck d.K a c xs ⟨hR.r.W, hR.r.C⟩ (by omega) (by omega) hX)
  have HT := Lib.hid (total_bd (valid_of hc) xs)
  obtain ⟨z0, z1, z2, z3, z4, z5, z6, z7, z8, z9, z10, z11⟩ := cells12 hB
  try dsimp only at z0 z1 z2 z3 z4 z5 z6 z7 z8 z9 z10 z11
  have HE := Lib.hid hE
  rw [hn] at z8
  clear hX' hn
  generalize totalF ⟨d.U, n, d.W, d.K⟩ xs = m at *
  clear hB hR hE hok a1 a2 b1 b2 v1 v2 l1 l2 k1 k2 f1 f2 hg hv hc ht hX hxs
  obtain ⟨s, hs⟩ : ∃ s : ByteArray, s = bs wTotal := ⟨_, rfl⟩
  have t_take : (s.toList == [116, 97, 107, 101]) = false := by rw [hs, bs_toList]; rfl
  have t_envy : (s.toList == [101, 110, 118, 121]) = false := by rw [hs, bs_toList]; rfl
  have t_rest : (s.toList == [114, 101, 115, 116]) = false := by rw [hs, bs_toList]; rfl
  rw [← hs]
  clear hs
  cases hq : canB ⟨d.U, n, d.W, d.K⟩ xs with
  | false =>
    have L := Lib.hid (LN.out hq)
    rw [if_neg (by decide)]
    clear LN LY hq
    go_enter Tryz.func272, Tryz.ntmps272
    go_wp2_with fail
    refine L.out.mono ?_
    rintro e w1 ⟨rfl, hb⟩
    have LD1 := Lib.hid (LD.out w1 hb 0 (by omega) (by omega))
    have HB := Lib.hid hb
    clear hb LD
    go_wp2_with fail
    refine LD1.out.mono ?_
    rintro e w2 ⟨rfl, hb2⟩
    go_wp2_with fail
    go_ret2
    exact ⟨below_then HB.out hb2, _, rfl, fun l hl => by cases hl⟩
  | true =>
    have L := Lib.hid (LY.out hq)
    rw [if_pos rfl]
    clear LN LY hq
    go_enter Tryz.func272, Tryz.ntmps272
    go_wp2_with fail
    refine L.out.mono ?_
    rintro e w1 ⟨rfl, hb⟩
    have LD1 := Lib.hid (LD.out w1 hb m (by have := HT.out; omega) (by have := HT.out; omega))
    have HB := Lib.hid hb
    clear hb LD
    go_wp2_with fail
    refine LD1.out.mono ?_
    rintro e w2 ⟨rfl, hb2⟩
    go_wp2_with fail
    go_ret2
    exact ⟨below_then HB.out hb2, _, rfl, fun l hl => by injection hl with hl; subst hl; rfl⟩
end Go.Proofs.YtkbejmjkdnfemaaGreatDoor
namespace Go.Proofs.YtkbejmjkdnfemaaGreatDoor
set_option linter.unusedVariables false
set_option linter.unusedSimpArgs false
open Go.RowKit

end Go.Proofs.YtkbejmjkdnfemaaGreatDoor
namespace Go.Proofs.YtkbejmjkdnfemaaGreatDoor
set_option linter.unusedVariables false
set_option linter.unusedSimpArgs false
open Go.RowKit

theorem bsJ (a b : List UInt8) : bs a ++ bs b = bs (a ++ b) := by
  apply ext_bs; rw [ByteArray.data_append, Array.toList_append]; rfl
theorem strs_line {w : World} {B : Nat} {a : Option Addr} {xs : List (List UInt8)} (h : Rd w B a (strs xs)) {k : Nat} (hk : k < xs.length) :
    ∃ b o l, a = some ⟨b, o, none⟩ ∧ b < B ∧ w.cell? ⟨b, o + k, none⟩ = some (.string (bs l)) ∧ Hid (xs[k]? = some l) := by
  obtain ⟨b, o, v, ha, hb, hc, hv⟩ := h.getV (k := k) (by simpa using hk)
  have e := strs_get (List.getElem?_eq_getElem hk)
  have e2 : v = .string (bs xs[k]) := by
    have := hv.out
    rw [e] at this
    injection this with this
    exact this.symm
  subst e2
  exact ⟨b, o, xs[k], ha, hb, hc, List.getElem?_eq_getElem hk⟩
end Go.Proofs.YtkbejmjkdnfemaaGreatDoor
namespace Go.Proofs.YtkbejmjkdnfemaaGreatDoor
set_option linter.unusedVariables false
set_option linter.unusedSimpArgs false
open Go.RowKit

/-- A list that lies elsewhere than a row. -/
def Apt (a : Option Addr) (v : Value) : Prop := ∀ b, a = some b → some b.block ≠ v.ownBlock
theorem Rd.apt {wr w' : World} {B : Nat} {a : Option Addr} {vs : List Value} {v : Value} (h : Rd wr B a vs) (hB : B ≤ wr.heap.size) (hg : wr.grownBy w' v.ownBlock) (ha : Apt a v) : Rd w' B a vs := by
  rcases h with h | ⟨b, o, e, hb, hc⟩
  · exact .inl h
  · exact .inr ⟨b, o, e, hb, fun j hj => by rw [World.cell?_of_block (w := wr) (hg.block b (by omega) (ha _ e))]; exact hc j hj⟩
theorem Apt.grow {wr : World} {a : Option Addr} {v v' : Value} (ha : Apt a v) (hlt : ∀ b, a = some b → b.block < wr.heap.size) (hn : ∀ g, g < wr.heap.size → some g ≠ v.ownBlock → some g ≠ v'.ownBlock) : Apt a v' :=
  fun b e => hn _ (hlt b e) (ha b e)
/-- Pieces that lie in blocks made since. -/
def RetPc (w : World) (ps : List (List UInt8)) (e : Ending) (w' : World) : Prop := ∃ a c, e = .returned (.slice a ps.length c) ∧ Rd w' w'.heap.size a (strs ps) ∧ (∀ b, a = some b → w.heap.size ≤ b.block ∧ b.block < w'.heap.size) ∧ Below w.heap.size w w'
set_option maxRecDepth 200000 in
set_option maxHeartbeats 4000000 in
theorem pieces_any (w : World) (h : Shp w) (s : ByteArray) (hs : s.size ≤ 1048576) :
    Calls Tryz.prog 92 #[.string s] w (RetPc w (pcsF s.data.toList)) := by
  have LS := Lib.hid (split_any w h s hs 44 ⟨#[44]⟩ rfl)
  by_cases hn : s.data.toList = noneL
  · have HP : Hid (pcsF s.data.toList = []) := by unfold pcsF; rw [Hid, if_pos hn]
    have hS : s = ⟨#[110, 111, 110, 101]⟩ := by rw [← bs_of s, hn]; rfl
    have hbl : (s.toList == [110, 111, 110, 101]) = true := by rw [Lib.toList_data, hn]; rfl
    rw [HP.out]
    clear hn LS hS
    go_enter Tryz.func92, Tryz.ntmps92
    go_wp2_with fail
    go_ret
    exact ⟨none, 0, rfl, .inl rfl, (fun b e => by cases e), Below.refl _ _⟩
  · have HP : Hid (pcsF s.data.toList = cutL 44 s.data.toList) := by unfold pcsF; rw [Hid, if_neg hn]
    have hbl : (s.toList == [110, 111, 110, 101]) = false := by rw [Lib.toList_data, Bool.eq_false_iff]; intro e; exact hn (eq_of_beq e)
    rw [HP.out]
    generalize cutL 44 s.data.toList = ps at *
    clear hn
    go_enter Tryz.func92, Tryz.ntmps92
    go_wp2_with fail
    refine LS.out.mono ?_
    rintro e w' ⟨rfl, hb, hw⟩
    go_wp2_with fail
    go_ret
    exact ⟨_, _, rfl, hb.rd hb.lt, (fun b e => by injection e with e; subst e; exact ⟨Nat.le_refl _, hb.lt⟩), hw⟩
set_option maxRecDepth 200000 in
set_option maxHeartbeats 8000000 in
theorem readList_any (w : World) (hT : Tab w) (hS : Shp w) (hE : Errs w) (s : ByteArray) (hs : s.size ≤ 1048576) :
    Calls Tryz.prog 219 #[.string s] w (RetN 2 w (allO valF (pcsF s.data.toList))) := by
  have hln : (pcsF s.data.toList).length ≤ 1048577 := by have := pcsF_len s.data.toList; have := Lib.size_eq s; omega
  have HM : Hid (∀ x ∈ pcsF s.data.toList, x.length ≤ 1048576) := fun x hx => by have := pcsF_mem hx; have := Lib.size_eq s; omega
  have LP := Lib.hid (fun v (hv : Below w.heap.size w v) => pieces_any v (hS.to hv) s hs)
  have HT := Lib.hid hT
  have HE := Lib.hid hE
  have LD := Lib.hid readDec_any
  have HTl := Lib.hid (Till.start valF (pcsF s.data.toList))
  generalize pcsF s.data.toList = ps at *
  clear hT hS hE hs
  have hO0 := Lib.hid (own_empty w 2)
  go_enter Tryz.func219, Tryz.ntmps219
  go_wp2_with fail
  refine (LP.out _ (bl1 _ _)).mono ?_
  rintro e w1 ⟨a, c, rfl, hrd, hbl, hb1⟩
  have HX := Lib.hid hrd
  have HB1 := Lib.hid (below_then (bl1 _ _) hb1)
  have HO1 := Lib.hid (own_below hO0.out hb1)
  have HL := Lib.hid (fun b (e : a = some b) => (hbl b e).2)
  have HA0 : Hid (Apt a (.slice (some ⟨w.heap.size, 0, none⟩) 0 0)) := fun b e h => by
    have h1 := (hbl b e).1
    have h2 : some b.block = some w.heap.size := h
    injection h2 with h2
    simp at h1
    omega
  clear hrd hb1 hO0 LP hbl
  go_wp2_with fail
  go_loopw [4, 13] (fun v iv wr => ∃ (k : Nat) (d : List Int), k ≤ ps.length ∧ d.length = k ∧ iv = .int .i64 k ∧ (∃ g c, v = .slice (some ⟨g, 0, none⟩) d.length c) ∧ Hid (Till valF ps k d) ∧ Hid (wr.ownsRow w.heap.size 2 1 v d.length (ints d)) ∧ Hid (Below w.heap.size w wr) ∧ Hid (Rd wr w1.heap.size a (strs ps)) ∧ Hid (w1.heap.size ≤ wr.heap.size) ∧ Hid (Apt a v)) (fun _ iv _ => ps.length - (intOf iv).toNat)
  case atStart => exact ⟨0, [], Nat.zero_le _, rfl, rfl, ⟨_, _, rfl⟩, HTl.out, HO1.out, HB1.out, HX.out, Nat.le_refl _, HA0.out⟩
  case round =>
    obtain ⟨k, d, hk, hdk, rfl, ⟨g, cp, rfl⟩, hTl, hO, hw, hR, hS1, hA⟩ := hrel
    have HDK := Lib.hid hdk
    clear hdk
    have k0 : (0 : Int) ≤ (k : Int) := Int.natCast_nonneg _
    by_cases hlt : k < ps.length
    · have k1 : (k : Int) < (ps.length : Int) := by omega
      obtain ⟨b, o, l, ha, hb, hc, hl⟩ := strs_line hR.out hlt
      have HAe := Lib.hid ha
      subst ha
      have hlm := HM.out l (List.mem_of_getElem? hl.out)
      have LD1 := Lib.hid (LD.out wr (HT.out.to hw.out) (HE.out.to hw.out) (bs l) (by rw [bs_size]; exact hlm))
      rw [show (bs l).data.toList = l from rfl] at LD1
      cases hv : valF l with
      | none =>
        have HF := Lib.hid (hTl.out.stop hl.out hv)
        rw [hv] at LD1
        clear hTl hl hv
        go_wp2_with fail
        refine LD1.out.mono ?_
        rintro e w2 ⟨rfl, hb2⟩
        go_wp2_with fail
        go_ret2
        rw [HF.out]
        exact ⟨below_then hw.out hb2, rfl⟩
      | some n =>
        have HT2 := Lib.hid (hTl.out.step hl.out hv)
        rw [hv] at LD1
        clear hTl hl hv
        go_wp2_with fail
        refine LD1.out.mono ?_
        rintro e w2 ⟨rfl, hb2⟩
        have hO' := own_below hO.out hb2
        have hw2 := below_then hw.out hb2
        have hws2 := hw2.size
        have hdl : d.length ≤ 1099511627776 := by have := HDK.out; omega
        have HR2 := Lib.hid (hR.out.below (hb2.mono hS1.out) (Nat.le_refl _))
        have HS2 := Lib.hid (Nat.le_trans hS1.out hb2.size)
        clear hb2 hO hw hR LD1
        go_wp2_with (at_builtin; go_loud (refine wpList_append_blk _ rfl _ _ 24 rfl w.heap.size 2 (.int .i64 0) 8 Tryz.underlying24 info_i64p rfl _ d.length _ rfl hO' (.int .i64 n) rfl rfl (by omega) hdl hws2 ?_))
        intro v' w' ho hgr hng
        obtain ⟨g2, c2, rfl⟩ := own_some ho (by omega)
        have HO2 : Hid (w'.ownsRow w.heap.size 2 1 (.slice (some ⟨g2, 0, none⟩) (d.length + 1) c2) (d ++ [n]).length (ints (d ++ [n]))) := by
          rw [Hid, List.length_append, List.length_singleton, ints_append]; exact ho
        have HW3 := Lib.hid (below_append hw2 hO' hgr (Nat.le_refl _) hws2)
        have HR3 := Lib.hid (HR2.out.apt HS2.out hgr hA.out)
        have HS3 := Lib.hid (Nat.le_trans HS2.out hgr.size)
        have HA3 := Lib.hid (hA.out.grow (fun b e => Nat.lt_of_lt_of_le (HL.out b e) HS2.out) hng)
        clear ho hgr hng hO' hw2 HR2 hA
        go_wp2_with fail
        go_roundw
        case rel => exact ⟨k + 1, d ++ [n], by omega, by simp [HDK.out], by go_num, ⟨g2, c2, by simp⟩, HT2.out, HO2.out, HW3.out, HR3.out, HS3.out, HA3.out⟩
        case measure => simp [intOf]; omega
    · obtain rfl : k = ps.length := by omega
      have HF := Lib.hid hTl.out.done
      clear hTl
      go_wp2_with fail
      go_ret2
      rw [HF.out]
      exact ⟨hw.out, _, _, rfl, hO.out⟩
set_option maxRecDepth 200000 in
set_option maxHeartbeats 4000000 in
theorem readListTop_any (w : World) (hT : Tab w) (hS : Shp w) (hE : Errs w) (s : ByteArray) (hs : s.size ≤ 1048576) :
    Calls Tryz.prog 168 #[.string s] w (RetN 2 w (numsF s.data.toList)) := by
  have LR := Lib.hid (readList_any w hT hS hE s hs)
  clear hT hS hE
  cases ha : allO valF (pcsF s.data.toList) with
  | none =>
    have HF := Lib.hid (numsF_all ha)
    rw [ha] at LR
    rw [HF.out]
    clear ha
    go_enter Tryz.func168, Tryz.ntmps168
    go_wp2_with fail
    refine LR.out.mono ?_
    rintro e w' ⟨hb, rfl⟩
    go_wp2_with fail
    go_ret2
    exact ⟨hb, rfl⟩
  | some ns =>
    rw [ha] at LR
    by_cases hl : ns.length ≤ 64
    · have HF := Lib.hid (numsF_some ha hl)
      rw [HF.out]
      have hl2 : ¬ (64 : Int) < (ns.length : Int) := by omega
      clear ha
      go_enter Tryz.func168, Tryz.ntmps168
      go_wp2_with fail
      refine LR.out.mono ?_
      rintro e w' ⟨hb, g, c, rfl, ho⟩
      go_wp2_with fail
      go_ret2
      exact ⟨hb, g, c, rfl, ho⟩
    · have HF : Hid (numsF s.data.toList = none) := numsF_long (by rw [← allO_len ha]; omega)
      rw [HF.out]
      have hl2 : (64 : Int) < (ns.length : Int) := by omega
      clear ha
      go_enter Tryz.func168, Tryz.ntmps168
      go_wp2_with fail
      refine LR.out.mono ?_
      rintro e w' ⟨hb, g, c, rfl, ho⟩
      go_wp2_with fail
      go_ret2
      exact ⟨hb, rfl⟩
end Go.Proofs.YtkbejmjkdnfemaaGreatDoor
namespace Go.Proofs.YtkbejmjkdnfemaaGreatDoor
set_option linter.unusedVariables false
set_option linter.unusedSimpArgs false
open Go.RowKit

/-- Rows made one behind another. -/
def OrdV (vs : List Value) : Prop := ∀ (i j : Nat) (v v' : Value) (p q : Nat), i < j → vs[i]? = some v → vs[j]? = some v' → v.ownBlock = some p → v'.ownBlock = some q → p < q
theorem OrdV.nil : OrdV [] := fun i j v v' p q _ h => by simp at h
theorem OrdV.snoc {vs : List Value} {B g n c : Nat} (h : OrdV vs) (hlt : ∀ (i : Nat) (v : Value) (p : Nat), vs[i]? = some v → v.ownBlock = some p → p < B) (hg : B ≤ g) : OrdV (vs ++ [.slice (some ⟨g, 0, none⟩) n c]) := by
  intro i j v v' p q hij hi hj hp hq
  have hjl : j < vs.length + 1 := by have := (List.getElem?_eq_some_iff.1 hj).1; simpa using this
  have hi2 : vs[i]? = some v := by rwa [List.getElem?_append_left (by omega)] at hi
  by_cases hl : j < vs.length
  · rw [List.getElem?_append_left hl] at hj
    exact h i j v v' p q hij hi2 hj hp hq
  · obtain rfl : j = vs.length := by omega
    rw [List.getElem?_append_right (Nat.le_refl _), Nat.sub_self] at hj
    simp at hj
    subst hj
    have hq2 : some g = some q := hq
    injection hq2 with hq2
    have := hlt i v p hi2 hp
    omega
theorem OwnRows.blk_lt {T T2 : Nat} {w : World} {lo hi : Nat} {u : Value} {vs : List Value} {yss : List (List Int)} (h : OwnRows T T2 w lo hi u vs yss) (i : Nat) (v : Value) (p : Nat) (hi' : vs[i]? = some v) (hp : v.ownBlock = some p) : p < hi := by
  have hlt : i < yss.length := by have := (List.getElem?_eq_some_iff.1 hi').1; rw [h.len] at this; exact this
  obtain ⟨g, c, h1, h2⟩ := h.row i yss[i] (List.getElem?_eq_getElem hlt)
  rw [hi'] at h1
  injection h1 with h1
  subst h1
  have hp2 : some g = some p := hp
  injection hp2 with hp2
  subst hp2
  exact h2.2 _ rfl
/-- The lists of a text as rows of one's own, or no. -/
def RetParts (T T2 : Nat) (w : World) (cnt : Nat) (l : List UInt8) (e : Ending) (w' : World) : Prop := Below w.heap.size w w' ∧ ∃ v, e = .returned (.tuple #[v, .bool (listsF cnt l).isSome]) ∧ ∀ yss, listsF cnt l = some yss → ∃ g c vs, v = .slice (some ⟨g, 0, none⟩) yss.length c ∧ OwnRows T T2 w' w.heap.size w'.heap.size (.slice (some ⟨g, 0, none⟩) yss.length c) vs yss ∧ OrdV vs
theorem info_intsP : (Tryz.prog.info? 24).map (fun i => (i.zero, i.size, i.bytes)) = some (some (.slice none 0 0), 1, 24) := by kernel_rfl
set_option maxRecDepth 200000 in
set_option maxHeartbeats 8000000 in
theorem readParts_any (w : World) (hT : Tab w) (hS : Shp w) (hE : Errs w) (s : ByteArray) (cnt : Nat) (hcn : cnt ≤ 1048576) (hs : s.size ≤ 1048576) :
    Calls Tryz.prog 91 #[.string s, .int .i64 cnt] w (RetParts 2 24 w cnt s.data.toList) := by
  have hln : (cutL 59 s.data.toList).length ≤ 1048577 := by have := cutL_len 59 s.data.toList; have := Lib.size_eq s; omega
  have hln1 := cutL_pos 59 s.data.toList
  have HM : Hid (∀ x ∈ cutL 59 s.data.toList, x.length ≤ 1048576) := fun x hx => by have := cutL_mem hx; have := Lib.size_eq s; omega
  have LP := Lib.hid (fun v (hv : Below w.heap.size w v) => split_any v (hS.to hv) s hs 59 ⟨#[59]⟩ rfl)
  have LR := Lib.hid (fun v (hv : Below w.heap.size w v) (x : ByteArray) hx => readListTop_any v (hT.to hv) (hS.to hv) (hE.to hv) x hx)
  have HTl := Lib.hid (Till.start numsF (cutL 59 s.data.toList))
  have HNo := Lib.hid (fun h => listsF_none (cnt := cnt) (l := s.data.toList) h)
  have HSo := Lib.hid (fun yss h => listsF_some (cnt := cnt) (l := s.data.toList) (yss := yss) h)
  unfold RetParts
  generalize listsF cnt s.data.toList = LF at *
  generalize cutL 59 s.data.toList = ps at *
  clear hT hS hE hs
  have hO0 := Lib.hid (own_empty w 24)
  have cn0 : (0 : Int) ≤ (cnt : Int) := Int.natCast_nonneg _
  go_enter Tryz.func91, Tryz.ntmps91
  go_wp2_with fail
  refine (LP.out _ (bl1 _ _)).mono ?_
  rintro e w1 ⟨rfl, hblk, hb1⟩
  have hlt0 : (w.alloc (.cells #[] 24)).heap.size = w.heap.size + 1 := by simp
  rw [hlt0] at hblk
  have HX := Lib.hid (hblk.rd hblk.lt)
  have hl1 := hblk.lt
  have HB1 := Lib.hid (below_then (bl1 _ _) hb1)
  have h00 : Hid (OwnRows 2 24 w1 w.heap.size w1.heap.size (.slice (some ⟨w.heap.size, 0, none⟩) 0 0) [] []) := OwnRows.start (own_below hO0.out hb1)
  have HA0 : Hid (Apt (some ⟨w.heap.size + 1, 0, none⟩) (.slice (some ⟨w.heap.size, 0, none⟩) 0 0)) := fun b e h => by
    injection e with e
    subst e
    have h2 : some (w.heap.size + 1) = some w.heap.size := h
    injection h2 with h2
    omega
  rw [hlt0]
  clear hblk hb1 hO0 LP
  generalize hgb : w.heap.size + 1 = gb at *
  clear hlt0
  go_wp2_with fail
  go_loopw [6, 15] (fun u iv wr => ∃ (k : Nat) (d : List (List Int)) (vs : List Value) (g c : Nat), k ≤ ps.length ∧ d.length = k ∧ iv = .int .i64 k ∧ u = .slice (some ⟨g, 0, none⟩) k c ∧ Hid (Till numsF ps k d) ∧ Hid (OwnRows 2 24 wr w.heap.size wr.heap.size (.slice (some ⟨g, 0, none⟩) k c) vs d) ∧ Hid (OrdV vs) ∧ Hid (Below w.heap.size w wr) ∧ Hid (Rd wr w1.heap.size (some ⟨gb, 0, none⟩) (strs ps)) ∧ Hid (w1.heap.size ≤ wr.heap.size) ∧ Hid (Apt (some ⟨gb, 0, none⟩) (.slice (some ⟨g, 0, none⟩) k c))) (fun _ iv _ => ps.length - (intOf iv).toNat)
  case atStart => exact ⟨0, [], [], w.heap.size, 0, Nat.zero_le _, rfl, rfl, rfl, HTl.out, h00.out, OrdV.nil, HB1.out, HX.out, Nat.le_refl _, HA0.out⟩
  case round =>
    obtain ⟨k, d, vs, g, cp, hk, hdk, rfl, rfl, hTl, hO, hOrd, hw, hR, hS1, hA⟩ := hrel
    have HDK := Lib.hid hdk
    clear hdk
    have k0 : (0 : Int) ≤ (k : Int) := Int.natCast_nonneg _
    by_cases hlt : k < ps.length
    · have k1 : (k : Int) < (ps.length : Int) := by omega
      obtain ⟨b, o, l, ha, hb, hc, hl⟩ := strs_line hR.out hlt
      injection ha with ha
      injection ha with ha1 ha2
      subst ha1 ha2
      rw [Nat.zero_add] at hc
      have hlm := HM.out l (List.mem_of_getElem? hl.out)
      have LD1 := Lib.hid (LR.out wr hw.out (bs l) (by rw [bs_size]; exact hlm))
      rw [show (bs l).data.toList = l from rfl] at LD1
      cases hv : numsF l with
      | none =>
        have HF := Lib.hid (HNo.out (hTl.out.stop hl.out hv))
        rw [hv] at LD1
        clear hTl hl hv
        go_wp2_with fail
        refine LD1.out.mono ?_
        rintro e w2 ⟨hb2, rfl⟩
        go_wp2_with fail
        go_ret2
        rw [HF.out]
        exact ⟨below_then hw.out hb2, _, rfl, fun yss h => by cases h⟩
      | some ns =>
        have HT2 := Lib.hid (hTl.out.step hl.out hv)
        rw [hv] at LD1
        clear hTl hl hv
        go_wp2_with fail
        refine LD1.out.mono ?_
        rintro e w2 ⟨hb2, q3, c3, rfl, o3⟩
        have HRow : Hid (OwnI 2 w2 wr.heap.size w2.heap.size (some ⟨q3, 0, none⟩) c3 ns) := OwnI.of_own o3
        have HQ3 := Lib.hid ((o3.lt q3 rfl).1)
        have hOo := hO.out.out
        rw [HDK.out] at hOo
        have HOo := Lib.hid (own_below hOo hb2)
        have hw2 := below_then hw.out hb2
        have hws2 := hw2.size
        have HR2 := Lib.hid (hR.out.below (hb2.mono hS1.out) (Nat.le_refl _))
        have HS2 := Lib.hid (Nat.le_trans hS1.out hb2.size)
        have Hb2 := Lib.hid hb2
        have HOrd2 := Lib.hid (hOrd.out.snoc (g := q3) (n := ns.length) (c := c3) (fun i v p h1 h2 => hO.out.blk_lt i v p h1 h2) HQ3.out)
        clear hb2 hR LD1 hOo o3 hOrd
        go_wp2_with (at_builtin; refine wpList_append_blk _ rfl _ _ 140 rfl w.heap.size 24 (.slice none 0 0) 24 Tryz.underlying140 info_intsP rfl _ k vs rfl HOo.out (.slice (some ⟨q3, 0, none⟩) ns.length c3) rfl rfl (by omega) (by omega) hws2 ?_)
        intro v' w' ho hgr hng
        obtain ⟨g2, c2, rfl⟩ := own_some ho (by omega)
        have HO2 : Hid (OwnRows 2 24 w' w.heap.size w'.heap.size (.slice (some ⟨g2, 0, none⟩) (k + 1) c2) (vs ++ [.slice (some ⟨q3, 0, none⟩) ns.length c3]) (d ++ [ns])) :=
          OwnRows.snoc (w := w2) hO.out Hb2.out (r0 := wr.heap.size) hw.out.size (Nat.le_refl _) HRow.out (Nat.le_refl _) (by rw [HDK.out]; exact ho) hgr hng
        have HW3 := Lib.hid (below_append hw2 HOo.out hgr (Nat.le_refl _) hws2)
        have HR3 := Lib.hid (HR2.out.apt HS2.out hgr hA.out)
        have HS3 := Lib.hid (Nat.le_trans HS2.out hgr.size)
        have HA3 := Lib.hid (hA.out.grow (fun b e => by injection e with e; subst e; exact Nat.lt_of_lt_of_le hl1 HS2.out) hng)
        clear ho hgr hng hw2 HR2 hA hO hw HRow HOo
        go_wp2_with fail
        go_roundw
        case rel => exact ⟨k + 1, d ++ [ns], _, g2, c2, by omega, by simp [HDK.out], by go_num, by first | rfl | simp, HT2.out, HO2.out, HOrd2.out, HW3.out, HR3.out, HS3.out, HA3.out⟩
        case measure => simp [intOf]; omega
    · obtain rfl : k = ps.length := by omega
      have HAll := Lib.hid (HSo.out d hTl.out.done)
      have hkp : (0 : Int) < (ps.length : Int) := by omega
      obtain ⟨y0, hy0⟩ : ∃ y0, d[0]? = some y0 := ⟨d[0]'(by have := HDK.out; omega), List.getElem?_eq_getElem _⟩
      obtain ⟨g0, c0, hv0, ho0⟩ := hO.out.row 0 y0 hy0
      have hc0 : wr.cell? ⟨g, 0, none⟩ = some (.slice (some ⟨g0, 0, none⟩) y0.length c0) := by
        rcases rd_of_own hO.out.out (Nat.le_refl _) with h' | ⟨b, o, ha, hb, hc⟩
        · rw [h'] at hv0; cases hv0
        · injection ha with ha
          injection ha with ha1 ha2
          have := hc 0 (by have := (List.getElem?_eq_some_iff.1 hv0).1; exact this)
          rw [← ha1, ← ha2, hv0] at this
          exact this
      have hgd : d.getD 0 [] = y0 := by simp [List.getD, hy0]
      rw [hgd] at HAll
      have HDL := HDK.out
      have y00 : (0 : Int) ≤ (y0.length : Int) := Int.natCast_nonneg _
      by_cases hcn1 : ps.length = cnt
      · have t1 : ((ps.length : Int) == (cnt : Int)) = true := by simp; omega
        by_cases hy2 : y0.length = 2
        · have t2 : ((y0.length : Int) == 2) = true := by simp; omega
          have HF : Hid (LF = some d) := by rw [Hid, HAll.out, if_pos ⟨by omega, hy2⟩]
          have HDL2 := Lib.hid HDL
          clear hTl HAll hy0 hv0 ho0 hgd hcn1 hy2 HDL
          go_wp2_with fail
          go_quiet (fail)
          go_wp2_with fail
          go_ret2
          rw [HF.out]
          refine ⟨below_drewN hw.out _, _, rfl, fun yss h => ?_⟩
          injection h with h
          subst h
          exact ⟨g, cp, vs, by rw [HDL2.out]; rfl, by rw [HDL2.out]; exact hO.out.keep (drewN_below _ _), hOrd.out⟩
        · have t2 : ((y0.length : Int) == 2) = false := by simp; omega
          have HF : Hid (LF = none) := by rw [Hid, HAll.out, if_neg (fun h => hy2 h.2)]
          clear hTl HAll hy0 hv0 ho0 hgd hcn1 hy2 HDL
          go_wp2_with fail
          go_quiet (fail)
          go_wp2_with fail
          go_ret2
          rw [HF.out]
          exact ⟨below_drewN hw.out _, _, rfl, fun yss h => by cases h⟩
      · have t1 : ((ps.length : Int) == (cnt : Int)) = false := by simp; omega
        have HF : Hid (LF = none) := by rw [Hid, HAll.out, if_neg (fun h => hcn1 (by omega))]
        clear hTl HAll hy0 hv0 ho0 hgd hcn1 HDL
        go_wp2_with fail
        go_quiet (fail)
        go_wp2_with fail
        go_ret2
        rw [HF.out]
        exact ⟨below_drewN hw.out _, _, rfl, fun yss h => by cases h⟩
end Go.Proofs.YtkbejmjkdnfemaaGreatDoor
namespace Go.Proofs.YtkbejmjkdnfemaaGreatDoor
set_option linter.unusedVariables false
set_option linter.unusedSimpArgs false
open Go.RowKit

/-- Two numbers and two lists, if they are valid. -/
def rd2F (V : Int → Int → List Int → List Int → Bool) (l : List UInt8) : Int × Int × List Int × List Int × Bool := match listsF 3 l with
  | none => (0, 0, [], [], false)
  | some yss => if V ((yss.getD 0 []).getD 0 0) ((yss.getD 0 []).getD 1 0) (yss.getD 1 []) (yss.getD 2 []) then ((yss.getD 0 []).getD 0 0, (yss.getD 0 []).getD 1 0, yss.getD 1 [], yss.getD 2 [], true) else (0, 0, [], [], false)
def rd1F (V : Int → Int → List Int → Bool) (l : List UInt8) : Int × Int × List Int × Bool := match listsF 2 l with
  | none => (0, 0, [], false)
  | some yss => if V ((yss.getD 0 []).getD 0 0) ((yss.getD 0 []).getD 1 0) (yss.getD 1 []) then ((yss.getD 0 []).getD 0 0, (yss.getD 0 []).getD 1 0, yss.getD 1 [], true) else (0, 0, [], false)
theorem rd2F_none {V : Int → Int → List Int → List Int → Bool} {l : List UInt8} (h : listsF 3 l = none) : rd2F V l = (0, 0, [], [], false) := by unfold rd2F; rw [h]
theorem rd1F_none {V : Int → Int → List Int → Bool} {l : List UInt8} (h : listsF 2 l = none) : rd1F V l = (0, 0, [], false) := by unfold rd1F; rw [h]
theorem rd2F_some {V : Int → Int → List Int → List Int → Bool} {l : List UInt8} {p q : Int} {x2 x3 : List Int} (h : listsF 3 l = some [[p, q], x2, x3]) : rd2F V l = if V p q x2 x3 then (p, q, x2, x3, true) else (0, 0, [], [], false) := by unfold rd2F; rw [h]; rfl
theorem rd1F_some {V : Int → Int → List Int → Bool} {l : List UInt8} {p q : Int} {x2 : List Int} (h : listsF 2 l = some [[p, q], x2]) : rd1F V l = if V p q x2 then (p, q, x2, true) else (0, 0, [], false) := by unfold rd1F; rw [h]; rfl
theorem two_of {y : List Int} (h : y.length = 2) : ∃ p q, y = [p, q] := by
  match y, h with
  | [p, q], _ => exact ⟨p, q, rfl⟩
theorem lists3 {yss : List (List Int)} (h : yss.length = 3) (h2 : (yss.getD 0 []).length = 2) (h3 : ∀ y ∈ yss, y.length ≤ 64) : ∃ p q x2 x3, yss = [[p, q], x2, x3] ∧ x2.length ≤ 64 ∧ x3.length ≤ 64 := by
  match yss, h with
  | [y0, y1, y2], _ =>
    obtain ⟨p, q, e⟩ := two_of (y := y0) h2
    exact ⟨p, q, y1, y2, by rw [e], h3 y1 (by simp), h3 y2 (by simp)⟩
theorem lists2 {yss : List (List Int)} (h : yss.length = 2) (h2 : (yss.getD 0 []).length = 2) (h3 : ∀ y ∈ yss, y.length ≤ 64) : ∃ p q x2, yss = [[p, q], x2] ∧ x2.length ≤ 64 := by
  match yss, h with
  | [y0, y1], _ =>
    obtain ⟨p, q, e⟩ := two_of (y := y0) h2
    exact ⟨p, q, y1, by rw [e], h3 y1 (by simp)⟩
theorem rd2F_len {V : Int → Int → List Int → List Int → Bool} {l : List UInt8} : (rd2F V l).2.2.1.length ≤ 64 ∧ (rd2F V l).2.2.2.1.length ≤ 64 := by
  cases h : listsF 3 l with
  | none => rw [rd2F_none h]; exact ⟨Nat.zero_le _, Nat.zero_le _⟩
  | some yss =>
    obtain ⟨h1, h2, h3⟩ := listsF_get h
    obtain ⟨p, q, x2, x3, rfl, l2, l3⟩ := lists3 h1 h2 h3
    rw [rd2F_some h]
    split
    · exact ⟨l2, l3⟩
    · exact ⟨Nat.zero_le _, Nat.zero_le _⟩
theorem rd1F_len {V : Int → Int → List Int → Bool} {l : List UInt8} : (rd1F V l).2.2.1.length ≤ 64 := by
  cases h : listsF 2 l with
  | none => rw [rd1F_none h]; exact Nat.zero_le _
  | some yss =>
    obtain ⟨h1, h2, h3⟩ := listsF_get h
    obtain ⟨p, q, x2, rfl, l2⟩ := lists2 h1 h2 h3
    rw [rd1F_some h]
    split
    · exact l2
    · exact Nat.zero_le _
section
variable {T T2 lo hi g c n : Nat} {w : World} {xs : List Int}
theorem OwnRows.cellAt {vs : List Value} {yss : List (List Int)} (h : OwnRows T T2 w lo hi (.slice (some ⟨g, 0, none⟩) n c) vs yss) (hn : n = yss.length) {j : Nat} {v : Value} (hj : vs[j]? = some v) : w.cell? ⟨g, j, none⟩ = some v := by
  subst hn
  rcases rd_of_own h.out (Nat.le_refl _) with h' | ⟨b, o, ha, hb, hc⟩
  · rw [h'] at hj; cases hj
  · injection ha with ha
    injection ha with ha1 ha2
    have := hc j (List.getElem?_eq_some_iff.1 hj).1
    rw [← ha1, ← ha2, Nat.zero_add, hj] at this
    exact this
theorem OwnI.cellAt (h : OwnI T w lo hi (some ⟨g, 0, none⟩) c xs) {j : Nat} {x : Int} (hj : xs[j]? = some x) : w.cell? ⟨g, j, none⟩ = some (.int .i64 x) := by
  have hj2 : (ints xs)[j]? = some (.int .i64 x) := by simp [ints, hj]
  rcases h.rd with h' | ⟨b, o, ha, hb, hc⟩
  · rw [h'] at hj2; cases hj2
  · injection ha with ha
    injection ha with ha1 ha2
    have := hc j (List.getElem?_eq_some_iff.1 hj2).1
    rw [← ha1, ← ha2, Nat.zero_add, hj2] at this
    exact this
theorem OwnI.narrow (h : OwnI T w lo hi (some ⟨g, 0, none⟩) c xs) : OwnI T w g (g + 1) (some ⟨g, 0, none⟩) c xs := by
  refine ⟨⟨h.1.1, ?_⟩, fun b hb => by injection hb with hb; subst hb; exact Nat.lt_succ_self _⟩
  rcases h.1.2 with ⟨h2, _⟩ | ⟨g', cap, cur, hv, hg, r⟩
  · cases h2
  · have e := hv
    injection e with e1 _ e3
    injection e1 with e1
    injection e1 with e1
    exact .inr ⟨g', cap, cur, hv, by omega, r⟩
theorem OwnI.place (h : OwnI T w lo hi (some ⟨g, 0, none⟩) c xs) : lo ≤ g ∧ g < hi := ⟨(h.1.lt g rfl).1, h.2 _ rfl⟩
end
end Go.Proofs.YtkbejmjkdnfemaaGreatDoor
