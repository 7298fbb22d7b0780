/-
  Part 13 of what the proof stands on: lemmas and contracts, each with its conditions ahead of the colon.
-/
import Derived.Test.YtkbejmjkdnfemaaGreatDoorShelf
import Derived.Outline
import Derived.Shelf.Strconv.ParseIntPublic10
import Derived.Test.YtkbejmjkdnfemaaGreatDoorPk02
import Derived.Test.YtkbejmjkdnfemaaGreatDoorPk07
import Derived.Test.YtkbejmjkdnfemaaGreatDoorPk11
import Derived.Test.YtkbejmjkdnfemaaGreatDoorPk12
namespace Go.Proofs.YtkbejmjkdnfemaaGreatDoor
set_option linter.unusedVariables false
set_option linter.unusedSimpArgs false
open Go.RowKit

/-- The cell of the library's table of bits that is read. -/
def TabB (w : World) : Prop := w.cell? ⟨6, 15, none⟩ = some (.int .u8 4)
theorem TabB.to {w w' : World} (h : TabB w) (hb : Below w.heap.size w w') : TabB w' := (hb.cell (p := ⟨6, 15, none⟩) (World.block_lt_of_cell? w _ h)).trans h
set_option maxRecDepth 10000 in
set_option maxHeartbeats 2000000 in
theorem trail16_any (w : World) (h : TabB w) : Calls Tryz.prog 351 #[.int .u64 16] w fun e w' => e = .returned (.int .i64 4) ∧ w = w' := by
  have h' : w.cell? ⟨6, 15, none⟩ = some (.int .u8 4) := h
  have hx : IntKind.u64.wrap (bits BinOp.and IntKind.u64 16 (IntKind.u64.wrap (-16)) * 285870213051353865) / 288230376151711744 = 15 := by decide +kernel
  go_enter Tryz.func351, Tryz.ntmps351
  go_wp2_with fail
  go_ret
  exact ⟨rfl, rfl⟩
set_option maxRecDepth 10000 in
set_option maxHeartbeats 2000000 in
theorem trail_any (w : World) (h : TabB w) : Calls Tryz.prog 280 #[.int .u64 16] w fun e w' => e = .returned (.int .i64 4) ∧ w = w' := by
  have L := Lib.hid (trail16_any w h)
  clear h
  go_enter Tryz.func280, Tryz.ntmps280
  go_wp2_with fail
  refine L.out.mono ?_
  rintro e w1 ⟨rfl, rfl⟩
  go_wp2_with fail
  go_ret
  exact ⟨rfl, rfl⟩
theorem pow16_any (w : World) : Calls Tryz.prog 279 #[.int .i64 16] w fun e w' => e = .returned (.bool true) ∧ w = w' := by
  have hx : (bits BinOp.and IntKind.i64 16 15 == 0) = true := by decide +kernel
  go_enter Tryz.func279, Tryz.ntmps279
  go_wp2_with fail
  go_ret
  exact ⟨rfl, rfl⟩
theorem and15 (a : Nat) (ha : a < 18446744073709551616) : bits .and .u64 (a : Int) 15 = ((a % 16 : Nat) : Int) := by
  show IntKind.u64.wrap ((BitVec.ofInt 64 (a : Int) &&& BitVec.ofInt 64 (15 : Int)).toNat : Int) = _
  have h1 : (BitVec.ofInt 64 (15 : Int)).toNat = 15 := by decide
  have h2 : (BitVec.ofInt 64 (a : Int)).toNat = a := by rw [BitVec.ofInt_natCast, BitVec.toNat_ofNat]; exact Nat.mod_eq_of_lt (by omega)
  rw [BitVec.toNat_and, h1, h2, show a &&& 15 = a % 16 from Nat.and_two_pow_sub_one_eq_mod a 4, u64_eq]
  have := Nat.mod_lt a (show 0 < 16 by omega)
  omega
/-- A digit out of the library's row of digits. -/
def hexTbl : ByteArray := ⟨#[48, 49, 50, 51, 52, 53, 54, 55, 56, 57, 97, 98, 99, 100, 101, 102, 103, 104, 105, 106, 107, 108, 109, 110, 111, 112, 113, 114, 115, 116, 117, 118, 119, 120, 121, 122]⟩
set_option maxRecDepth 100000 in
theorem dig_run (r : Nat) (h : r < 16) (v : World) : (Instr.index 9 (.string hexTbl) (.int .u64 (r : Int))).run Tryz.prog v = .ok (.int .u8 ((hexD r).toNat : Int)) v := by
  have key : ∀ q : Fin 16, (hexTbl[q.1]?).map (fun b => (b.toNat : Int)) = some ((hexD q.1).toNat : Int) := by decide
  have hs : hexTbl.size = 36 := by decide
  have hr := run_index_string (P := Tryz.prog) v 9 hexTbl .u64 (r : Int) Tryz.underlying9
  have hk := key ⟨r, h⟩
  generalize hexTbl = T at *
  rw [dif_pos ⟨by omega, by omega⟩] at hr
  rw [ByteArray.getElem?_lt' T r (by omega)] at hk
  rw [hr]
  injection hk with hk
  congr 1
  rw [← hk]
  rfl
/-- Digits told so far, from the last one on. -/
def HexI (u m : Nat) (d : List UInt8) : Prop := hexU u = hexU m ++ d
theorem HexI.more {u m : Nat} {d : List UInt8} (h : HexI u m d) (hm : ¬ m < 16) : HexI u (m / 16) (hexD (m % 16) :: d) := by
  unfold HexI at *
  rw [hexU_more hm, List.append_assoc] at h
  exact h
theorem HexI.last {u m : Nat} {d : List UInt8} (h : HexI u m d) (hm : m < 16) : hexU u = hexD m :: d := by
  unfold HexI at *
  rw [hexU_small hm] at h
  exact h
theorem HexI.len {u m : Nat} {d : List UInt8} (h : HexI u m d) (hu : u < 4294967296) : d.length ≤ 7 := by
  have h1 := hexU_len 7 u (by omega)
  unfold HexI at h
  rw [h, List.length_append] at h1
  have := hexU_pos m
  omega
def pad65 (d : List UInt8) : List Value := List.replicate (65 - d.length) (Value.int .u8 0) ++ bys d
theorem pad65_len {d : List UInt8} (h : d.length ≤ 65) : (pad65 d).length = 65 := by
  unfold pad65; rw [List.length_append, List.length_replicate, bys_length]; omega
theorem pad65_set {d : List UInt8} (h : d.length < 65) (b : UInt8) : (pad65 d).set (64 - d.length) (.int .u8 (b.toNat : Int)) = pad65 (b :: d) := by
  unfold pad65
  have e : 65 - d.length = (64 - d.length) + 1 := by omega
  rw [e, List.replicate_succ', List.append_assoc, List.set_append_right _ _ (by rw [List.length_replicate]; exact Nat.le_refl _), List.length_replicate, Nat.sub_self, List.length_cons, show 65 - (d.length + 1) = 64 - d.length from by omega]
  rfl
theorem pad65_get {d : List UInt8} {j : Nat} (h : d.length ≤ 65) (hj : j < d.length) : (pad65 d)[65 - d.length + j]? = some (.int .u8 (d[j].toNat : Int)) := by
  unfold pad65
  rw [List.getElem?_append_right (by rw [List.length_replicate]; omega), List.length_replicate, show 65 - d.length + j - (65 - d.length) = j from by omega, bys_get hj]
set_option maxRecDepth 200000 in
set_option maxHeartbeats 8000000 in
theorem formatBits_any (w : World) (hT : TabB w) (u : Nat) (hu : u < 4294967296) :
    Calls Tryz.prog 215 #[.slice none 0 0, .int .u64 u, .int .i64 16, .bool false, .bool false] w fun e w' => e = .returned (.tuple #[.slice none 0 0, .string (bs (hexU u))]) ∧ Below w.heap.size w w' := by
  have LP := Lib.hid pow16_any
  have B1 := Lib.hid (bl1 w (.cells (List.replicate 65 (Value.int .u8 0)).toArray 276))
  have K1 := Lib.hid (Blk.new w (List.replicate 65 (Value.int .u8 0)) 276)
  have LT := Lib.hid (fun v (hb : Below w.heap.size w v) => trail_any v (hT.to hb))
  clear hT
  go_enter Tryz.func215, Tryz.ntmps215
  go_wp2_with fail
  refine (LP.out _).mono ?_
  rintro e w1 ⟨rfl, rfl⟩
  go_wp2_with fail
  refine (LT.out _ B1.out).mono ?_
  rintro e w1 ⟨rfl, rfl⟩
  go_wp2_with fail
  go_loopw [1, 13] (fun uv iv wr => ∃ (m q : Nat) (d : List UInt8), uv = .int .u64 m ∧ iv = .int .i64 q ∧ q + d.length = 65 ∧ m < 4294967296 ∧ d.length ≤ 7 ∧ Hid (HexI u m d) ∧ Hid (Blk wr w.heap.size (pad65 d) 276) ∧ Hid (Below w.heap.size w wr)) (fun uv _ _ => (intOf uv).toNat)
  case atStart => exact ⟨u, 65, [], rfl, rfl, rfl, hu, Nat.zero_le _, (List.append_nil _).symm, K1.out, B1.out⟩
  case round =>
    clear K1 B1 LT LP
    obtain ⟨m, q, d, rfl, rfl, hq, hm, hd, hI, hK, hB⟩ := hrel
    have HQ := Lib.hid hq
    have m0 : (0 : Int) ≤ (m : Int) := Int.natCast_nonneg _
    have mb : (m : Int) < 4294967296 := by omega
    obtain ⟨p, rfl⟩ : ∃ p, q = p + 1 := ⟨q - 1, by omega⟩
    have hp : p = 64 - d.length := by omega
    have hpl : p < 65 := by omega
    have HP := Lib.hid hp
    have c1 : wr.cell? ⟨w.heap.size, p, none⟩ = some ((pad65 d).getD p (.int .u8 0)) := by
      rw [hK.out.cell, List.getD, List.getElem?_eq_getElem (by rw [pad65_len (by omega)]; exact hpl)]; rfl
    have c2 := hK.out.free p
    generalize (pad65 d).getD p (.int .u8 0) = old at *
    clear hq hp
    by_cases h16 : m < 16
    · have h16i : ¬ (16 : Int) ≤ (m : Int) := by omega
      have hix := dig_run m h16
      unfold hexTbl at hix
      have hN := hI.out.last h16
      have HB2 := Lib.hid (below_sto hB.out (g := w.heap.size) (Nat.le_refl _) p (.int .u8 ((hexD m).toNat : Int)))
      have HK2 : Hid (Blk (wr.setCell ⟨w.heap.size, p, none⟩ (.int .u8 ((hexD m).toNat : Int))) w.heap.size (pad65 (hexD m :: d)) 276) := by
        have := hK.out.set p (.int .u8 ((hexD m).toNat : Int))
        rw [HP.out, pad65_set (by omega)] at this
        rw [HP.out]; exact this
      rw [← hN] at HK2
      have hpe : p = 65 - (hexU u).length := by rw [hN]; simp; have := HP.out; omega
      have hul : (hexU u).length ≤ 65 := by rw [hN]; simp; omega
      have hpu : p + (hexU u).length = 65 := by omega
      have hcv := run_convert_bytes_back (P := Tryz.prog) (wr.setCell ⟨w.heap.size, p, none⟩ (.int .u8 ((hexD m).toNat : Int))) 22 9 5 ⟨w.heap.size, p, none⟩ (hexU u).length (hexU u) Tryz.underlying22 Tryz.underlying5 Tryz.underlying9 (fun j hj => by
        rw [add_none, HK2.out.cell, hpe]; exact pad65_get hul hj)
      have p0 : (0 : Int) ≤ (p : Int) := Int.natCast_nonneg _
      have p65 : (p : Int) ≤ (Tryz.prog.arrayLen 276 : Int) := by
        have : Tryz.prog.arrayLen 276 = 65 := by kernel_rfl
        rw [this]; omega
      have p65b : (p : Int) ≤ 65 := by omega
      have hal : Tryz.prog.arrayLen 276 = 65 := by kernel_rfl
      have hsl : ∀ v : World, (Instr.sliceAt 276 (.pointer (some ⟨w.heap.size, 0, none⟩)) (some (.int .i64 p)) none none).run Tryz.prog v = .ok (.slice (some ⟨w.heap.size, p, none⟩) (hexU u).length (hexU u).length) v := fun v => by
        rw [run_sliceAt_array_l v 276 ⟨w.heap.size, 0, none⟩ Tryz.underlying276 .i64 p p0 p65]
        have hsz : (sizeOf (Tryz.prog.elem 276)).run Tryz.prog v = .ok 1 v := by kernel_rfl
        rw [hsz, hal]
        simp only [Result.andThen, slicedAt, Int.toNat_natCast, Nat.mul_one]
        rw [if_neg (by omega), add_none, Nat.zero_add, show 65 - p = (hexU u).length from by omega]
      clear hK hB hI hN hpe hul p65 hal
      go_wp2_with fail
      go_ret2
      exact ⟨rfl, HB2.out⟩
    · have h16i : (16 : Int) ≤ (m : Int) := by omega
      have ha : bits .and .u64 (m : Int) 15 = ((m % 16 : Nat) : Int) := and15 m (by omega)
      have hr := Nat.mod_lt m (show 0 < 16 by omega)
      have HR := Lib.hid (show m / 16 < m by omega)
      have hN := Lib.hid (hI.out.more h16)
      obtain ⟨r, hrr⟩ : ∃ r, r = m % 16 := ⟨_, rfl⟩
      rw [← hrr] at ha hr hN
      have r0 : (0 : Int) ≤ (r : Int) := Int.natCast_nonneg _
      have r16 : (r : Int) < 16 := by omega
      obtain ⟨k, hk⟩ : ∃ k, k = m / 16 := ⟨_, rfl⟩
      have hq16 : (m : Int) / 16 = (k : Int) := by omega
      rw [← hk] at HR hN
      have hix := dig_run r hr
      unfold hexTbl at hix
      clear hrr hk
      have HB2 := Lib.hid (below_sto hB.out (g := w.heap.size) (Nat.le_refl _) p (.int .u8 ((hexD r).toNat : Int)))
      have HK2 : Hid (Blk (wr.setCell ⟨w.heap.size, p, none⟩ (.int .u8 ((hexD r).toNat : Int))) w.heap.size (pad65 (hexD r :: d)) 276) := by
        have := hK.out.set p (.int .u8 ((hexD r).toNat : Int))
        rw [HP.out, pad65_set (by omega)] at this
        rw [HP.out]; exact this
      have HL := Lib.hid (hN.out.len hu)
      clear hK hB hI
      go_wp2_with fail
      go_roundw
      case rel => exact ⟨k, p, hexD r :: d, rfl, rfl, by have := HQ.out; simp; omega, by have := HR.out; omega, HL.out, hN.out, HK2.out, HB2.out⟩
      case measure => have := HR.out; simp [intOf]; omega
set_option maxRecDepth 10000 in
set_option maxHeartbeats 4000000 in
theorem formatHexI_any (w : World) (hT : TabB w) (u : Nat) (hu : u < 4294967296) :
    Calls Tryz.prog 158 #[.int .i64 u, .int .i64 16] w fun e w' => e = .returned (.string (bs (hexU u))) ∧ Below w.heap.size w w' := by
  have L := Lib.hid (formatBits_any w hT u hu)
  have u0 : (0 : Int) ≤ (u : Int) := Int.natCast_nonneg _
  have u1 : (u : Int) < 4294967296 := by omega
  clear hT
  go_enter Tryz.func158, Tryz.ntmps158
  go_wp2_with fail
  refine L.out.mono ?_
  rintro e w1 ⟨rfl, hb⟩
  go_wp2_with fail
  go_ret
  exact ⟨rfl, hb⟩
theorem formatHex_any (w : World) (hT : TabB w) (u : Nat) (hu : u < 4294967296) :
    Calls Tryz.prog 84 #[.int .i64 u, .int .i64 16] w fun e w' => e = .returned (.string (bs (hexU u))) ∧ Below w.heap.size w w' := by
  have L := Lib.hid (formatHexI_any w hT u hu)
  clear hT
  go_enter Tryz.func84, Tryz.ntmps84
  go_wp2_with fail
  refine L.out.mono ?_
  rintro e w1 ⟨rfl, hb⟩
  go_wp2_with fail
  go_ret
  exact ⟨rfl, hb⟩
theorem repeat_zeros : ∀ n, Lib.repeatL [48] n = List.replicate n 48
  | 0 => rfl
  | n + 1 => by rw [Lib.repeatL, repeat_zeros n]; rfl
theorem repeat0_any (w : World) (n : Nat) (hn : n ≤ 7) :
    Calls Tryz.prog 135 #[.string ⟨#[48]⟩, .int .i64 n] w fun e w' => e = .returned (.string (bs (List.replicate n 48))) ∧ Below w.heap.size w w' :=
  (Tryz.strings_Repeat ⟨#[48]⟩ n w (by omega) (by show 1 * n ≤ _; omega)).mono fun e w' ⟨h1, h2⟩ => ⟨by rw [h1, ← repeat_zeros n]; rfl, h2⟩
theorem bitsOf_any (x : Nat) (hx : x < 4294967296) (w : World) : Calls Tryz.prog 134 #[.float .f32 x] w fun e w' => e = .returned (.int .i64 (bitsN x)) ∧ w = w' := by
  have hd := fun v => bits32 x v
  cases h : nanF x with
  | true =>
    have ht : (FloatKind.f32.format.order x x != some .eq) = true := h
    have HF : Hid (bitsN x = 2143289344) := by simp [Hid, bitsN, h]
    clear h
    go_enter Tryz.func134, Tryz.ntmps134
    go_wp2_with fail
    go_ret
    exact ⟨ret_int (by rw [HF.out]; rfl), rfl⟩
  | false =>
    have ht : (FloatKind.f32.format.order x x != some .eq) = false := h
    have HF : Hid (bitsN x = x) := by simp [Hid, bitsN, h]
    clear h
    go_enter Tryz.func134, Tryz.ntmps134
    go_wp2_with fail
    go_ret
    exact ⟨ret_int (by rw [HF.out]), rfl⟩
set_option maxRecDepth 10000 in
set_option maxHeartbeats 4000000 in
theorem hexOf_any (w : World) (hT : TabB w) (x : Nat) (hx : x < 4294967296) :
    Calls Tryz.prog 56 #[.float .f32 x] w fun e w' => e = .returned (.string (bs (hexT x))) ∧ Below w.heap.size w w' := by
  have L1 := Lib.hid (bitsOf_any x hx w)
  have hb := bitsN_lt hx
  have L2 := Lib.hid (formatHex_any w hT (bitsN x) hb)
  have hl := hexU_pos (bitsN x)
  obtain ⟨hl8, hp⟩ := hexF_pad hb
  have HP : Hid (List.replicate (8 - (hexU (bitsN x)).length) 48 ++ hexU (bitsN x) = hexT x) := hp
  have hsz : (bs (hexU (bitsN x))).size = (hexU (bitsN x)).length := bs_size _
  have HB : Hid (bs (List.replicate (8 - (hexU (bitsN x)).length) 48) ++ bs (hexU (bitsN x)) = bs (hexT x)) := by
    rw [Hid, bs_plus, HP.out]
  have hz1 : (bs (List.replicate (8 - (hexU (bitsN x)).length) 48)).size ≤ 8 := by rw [bs_size, List.length_replicate]; omega
  obtain ⟨n, hn⟩ : ∃ n, n = 8 - (hexU (bitsN x)).length := ⟨_, rfl⟩
  have hnl : (8 : Int) - ((bs (hexU (bitsN x))).size : Int) = (n : Int) := by rw [hsz]; omega
  have L3 := Lib.hid (fun v => repeat0_any v n (by omega))
  rw [← hn] at HB hz1
  have hz2 : (bs (hexU (bitsN x))).size ≤ 8 := by rw [hsz]; exact hl8
  generalize bs (hexU (bitsN x)) = U at *
  generalize bs (List.replicate n 48) = Z at *
  have s0 : ¬ 9223372036854775807 < Z.size + U.size := by omega
  clear hT hl hl8 hp HP hsz hn hx hb
  go_enter Tryz.func56, Tryz.ntmps56
  go_wp2_with fail
  refine L1.out.mono ?_
  rintro e w1 ⟨rfl, rfl⟩
  go_wp2_with fail
  refine L2.out.mono ?_
  rintro e w1 ⟨rfl, hb1⟩
  have B1 := Lib.hid hb1
  clear L2 hb1
  go_wp2_with fail
  refine (L3.out _).mono ?_
  rintro e w2 ⟨rfl, hb2⟩
  go_wp2_with fail
  go_ret
  refine ⟨?_, below_then B1.out hb2⟩
  rw [← HB.out]; rfl
end Go.Proofs.YtkbejmjkdnfemaaGreatDoor
namespace Go.Proofs.YtkbejmjkdnfemaaGreatDoor
set_option linter.unusedVariables false
set_option linter.unusedSimpArgs false
open Go.RowKit

end Go.Proofs.YtkbejmjkdnfemaaGreatDoor
namespace Go.Proofs.YtkbejmjkdnfemaaGreatDoor
set_option linter.unusedVariables false
set_option linter.unusedSimpArgs false
open Go.RowKit

/-- The library's two errors are there. -/
def Errs (w : World) : Prop := (∃ ev : Value, w.cell? ⟨3, 0, none⟩ = some ev ∧ (ev = .nilIface ∨ ∃ te pe, ev = .iface te pe)) ∧ (∃ ev : Value, w.cell? ⟨4, 0, none⟩ = some ev ∧ (ev = .nilIface ∨ ∃ te pe, ev = .iface te pe))
theorem Errs.to {w w' : World} (h : Errs w) (hb : Below w.heap.size w w') : Errs w' := by
  obtain ⟨⟨a, ha, ha2⟩, ⟨b, hb1, hb2⟩⟩ := h
  exact ⟨⟨a, (hb.cell (p := ⟨3, 0, none⟩) (World.block_lt_of_cell? w _ ha)).trans ha, ha2⟩, ⟨b, (hb.cell (p := ⟨4, 0, none⟩) (World.block_lt_of_cell? w _ hb1)).trans hb1, hb2⟩⟩
theorem parse64_any (w : World) (h : Errs w) (s : ByteArray) (hs : s.size ≤ 1048576) :
    Calls Tryz.prog 273 #[.string s, .int .i64 10, .int .i64 64] w fun e w' =>
      (∃ v, Lib.parseIntB 64 s.data.toList = .ok v ∧ e = .returned (.tuple #[.int .i64 v, .nilIface]) ∧ Below w.heap.size w w') ∨
      ((∀ v, Lib.parseIntB 64 s.data.toList ≠ .ok v) ∧ ∃ n t p, e = .returned (.tuple #[.int .i64 n, .iface t p]) ∧ Below w.heap.size w w') := by
  obtain ⟨⟨a, ha, ha2⟩, ⟨b, hb1, hb2⟩⟩ := h
  cases hp : Lib.parseIntB 64 s.data.toList with
  | ok v =>
    refine (Any.strconv_ParseInt_10_at64_ok Tryz.laysC174 s (by omega) v hp w).mono ?_
    rintro e w' ⟨rfl, rfl | ⟨t, rfl⟩⟩
    · exact .inl ⟨v, rfl, rfl, Below.refl _ _⟩
    · exact .inl ⟨v, rfl, rfl, Lib.bytesWorld_below _ _ _⟩
  | range =>
    refine (Any.strconv_ParseInt_10_at64_range Tryz.laysC174 s (by omega) hp b w hb1 hb2).mono ?_
    rintro e w' ⟨N, rfl, _, _, hb⟩
    exact .inr ⟨(fun v hv => by cases hv), _, _, _, rfl, hb⟩
  | _ =>
    refine (Any.strconv_ParseInt_10_at64_syntax Tryz.laysC174 s (by omega) hp a w ha ha2).mono ?_
    rintro e w' ⟨N, rfl, _, _, hb⟩
    exact .inr ⟨(fun v hv => by cases hv), _, _, _, rfl, hb⟩
theorem isValueN_any (n : Int) (w : World) :
    Calls Tryz.prog 136 #[.int .i64 n] w fun e w' => e = .returned (.bool (inB n (-1000000000000000) 1000000000000000)) ∧ w = w' := by
  have L := Lib.hid (within_any n (-1000000000000000) 1000000000000000 w)
  generalize inB n (-1000000000000000) 1000000000000000 = b at *
  go_enter Tryz.func136, Tryz.ntmps136
  go_wp2_with fail
  refine L.out.mono ?_
  rintro e w' ⟨rfl, rfl⟩
  go_wp2_with fail
  go_ret
  exact ⟨rfl, rfl⟩
set_option maxRecDepth 200000 in
set_option maxHeartbeats 4000000 in
theorem readDec_any (w : World) (hT : Tab w) (hE : Errs w) (s : ByteArray) (hs : s.size ≤ 1048576) :
    Calls Tryz.prog 204 #[.string s] w fun e w' => e = .returned (.tuple #[.int .i64 ((valF s.data.toList).getD 0), .bool (valF s.data.toList).isSome]) ∧ Below w.heap.size w w' := by
  have LP := Lib.hid (parse64_any w hE s hs)
  have LD := Lib.hid (fun v (hv : Tab v) n h0 h1 => decimal_any v hv n h0 h1)
  have LV := Lib.hid isValueN_any
  have HT := Lib.hid hT
  clear hT hE
  go_enter Tryz.func204, Tryz.ntmps204
  go_wp2_with fail
  refine LP.out.mono ?_
  clear LP
  rintro e w1 (⟨v, hp, rfl, hb⟩ | ⟨hp, n, t, p, rfl, hb⟩)
  · have HB := Lib.hid hb
    have hbd := Lib.parseIntB_bounds hp
    have b0 : -9223372036854775808 ≤ v := by have := hbd.1; simpa using this
    have b1 : v ≤ 9223372036854775807 := by have := hbd.2; simp at this; omega
    cases hin : inB v (-1000000000000000) 1000000000000000 with
    | false =>
      have HV : Hid (valF s.data.toList = none) := valF_no fun m h0 h1 he => by
        rw [← he, parse_itoa h0 h1] at hp
        injection hp with hp
        subst hp
        have h9 := (inB_iff (n := m) (lo := -1000000000000000) (hi := 1000000000000000)).2 ⟨h0, h1⟩
        rw [h9] at hin
        cases hin
      have LV1 := Lib.hid (LV.out v w1)
      rw [hin] at LV1
      clear hp hbd hin hb
      go_wp2_with fail
      refine LV1.out.mono ?_
      rintro e w' ⟨rfl, rfl⟩
      go_wp2_with fail
      go_ret2
      rw [HV.out]
      exact ⟨rfl, HB.out⟩
    | true =>
      obtain ⟨i0, i1⟩ := inB_iff.1 hin
      have LV1 := Lib.hid (LV.out v w1)
      rw [hin] at LV1
      have LD1 := Lib.hid (LD.out w1 (HT.out.to hb) v b0 b1)
      by_cases he : Lib.itoa v = s.data.toList
      · have HV : Hid (valF s.data.toList = some v) := valF_yes he i0 i1
        have hS : bs (Lib.itoa v) = s := by rw [he, bs_of]
        rw [hS] at LD1
        clear hp hbd hin hb hS he
        go_wp2_with fail
        refine LV1.out.mono ?_
        rintro e w' ⟨rfl, rfl⟩
        go_wp2_with fail
        refine LD1.out.mono ?_
        rintro e w2 ⟨rfl, hb2⟩
        go_wp2_with fail
        go_ret2
        rw [HV.out]
        exact ⟨rfl, below_then HB.out hb2⟩
      · have HV : Hid (valF s.data.toList = none) := valF_no fun m h0 h1 hm => by
          rw [← hm, parse_itoa h0 h1] at hp
          injection hp with hp
          subst hp
          exact he hm
        have hbl : ((bs (Lib.itoa v)).toList == s.toList) = false := by rw [bs_toList, Lib.toList_data, Bool.eq_false_iff]; intro h; exact he (eq_of_beq h)
        generalize bs (Lib.itoa v) = D at *
        clear hp hbd hin hb he
        go_wp2_with fail
        refine LV1.out.mono ?_
        rintro e w' ⟨rfl, rfl⟩
        go_wp2_with fail
        refine LD1.out.mono ?_
        rintro e w2 ⟨rfl, hb2⟩
        go_wp2_with fail
        go_ret2
        rw [HV.out]
        exact ⟨rfl, below_then HB.out hb2⟩
  · have HV : Hid (valF s.data.toList = none) := valF_no fun m h0 h1 he => hp m (by rw [← he]; exact parse_itoa h0 h1)
    have HB := Lib.hid hb
    clear hp hb
    go_wp2_with fail
    go_ret2
    rw [HV.out]
    exact ⟨rfl, HB.out⟩
end Go.Proofs.YtkbejmjkdnfemaaGreatDoor
namespace Go.Proofs.YtkbejmjkdnfemaaGreatDoor
set_option linter.unusedVariables false
set_option linter.unusedSimpArgs false
open Go.RowKit

theorem digits_take {xs : List Int} {k : Nat} {x : Int} (hx : xs[k]? = some x) : (xs.take (k + 1)).map Lib.itoa = (xs.take k).map Lib.itoa ++ [Lib.itoa x] := by
  rw [List.take_add_one, hx]; simp
set_option maxRecDepth 10000 in
set_option maxHeartbeats 4000000 in
theorem listText_any (w : World) (ht : Tab w) (a : Option Addr) (c : Nat) (xs : List Int) (h : Rd w w.heap.size a (ints xs)) (hl : xs.length ≤ 1048576) (hr : ∀ x ∈ xs, -9223372036854775808 ≤ x ∧ x ≤ 9223372036854775807) :
    Calls Tryz.prog 59 #[.slice a xs.length c] w fun e w' => e = .returned (.string (bs (textL xs))) ∧ Below w.heap.size w w' := by
  have HT := Lib.hid ht
  have HR := Lib.hid hr
  have HA := Lib.hid h
  clear h hr ht
  go_enter Tryz.func59, Tryz.ntmps59
  go_wp2_with fail
  go_loopw [3, 9] (fun v iv wr => ∃ k : Nat, k ≤ xs.length ∧ iv = .int .i64 k ∧ Hid (wr.ownsRow w.heap.size 9 1 v k (strs ((xs.take k).map Lib.itoa))) ∧ Below w.heap.size w wr) (fun _ iv _ => xs.length - (intOf iv).toNat)
  case atStart => exact ⟨0, Nat.zero_le _, rfl, own_empty w _, bl1 _ _⟩
  case round =>
    obtain ⟨k, hk, rfl, hO, hw⟩ := hrel
    have hws := hw.size
    by_cases hlt : k < xs.length
    · obtain ⟨b, o, x, rfl, hbb, hck, hx⟩ := (HA.out.to hw).get hlt
      have LD := Lib.hid (decimal_any wr (HT.out.to hw) x (HR.out x (List.mem_of_getElem? hx.out)).1 (HR.out x (List.mem_of_getElem? hx.out)).2)
      have HN := Lib.hid (digits_take hx.out)
      go_wp2_with fail
      refine LD.out.mono ?_
      rintro e w1 ⟨rfl, hb1⟩
      have hO1 := own_below hO.out hb1
      have hw1 := hw.trans (hb1.mono hws)
      have hs1 := hw1.size
      have hk2 : k ≤ 1099511627776 := by omega
      clear hO hb1 hck hw
      go_wp2_with (at_builtin; refine wpList_append_one _ rfl _ _ 63 rfl w.heap.size 9 (.string ByteArray.empty) 16 Tryz.underlying63 info_str rfl _ k _ rfl hO1 (.string (bs (Lib.itoa x))) rfl rfl (by omega) hk2 hs1 ?_)
      intro v' w' ho hgr
      have hw2 := below_append hw1 hO1 hgr (Nat.le_refl _) hs1
      have HO2 : Hid (w'.ownsRow w.heap.size 9 1 v' (k + 1) (strs ((xs.take (k + 1)).map Lib.itoa))) := by
        rw [HN.out, strs_append, List.map_take]; exact ho
      clear ho hgr hO1 hw1
      go_wp2_with fail
      go_roundw
      case rel => exact ⟨k + 1, by omega, by go_num, HO2, hw2⟩
      case measure => first | (simp [intOf]; done) | (simp [intOf]; omega)
    · have : k = xs.length := by omega
      subst this
      rw [List.take_length] at hO
      obtain ⟨a', c', rfl, hc', _⟩ := own_shape hO.out
      have hrd := rd_of_own hO.out (Nat.le_refl _)
      have LJ := joined_any wr a' c' (xs.map Lib.itoa) hrd (by rw [List.length_map]; exact hc') (by rw [List.length_map]; exact hl) (by
        have := join_len (m := 21) (xs := xs.map Lib.itoa) (sep := [44]) (fun x hx => by
          obtain ⟨y, hy, rfl⟩ := List.mem_map.1 hx
          have := HR.out y hy
          exact itoa_len this.1 this.2)
        rw [List.length_map] at this
        simp at this; omega)
      rw [List.length_map] at LJ
      have HE : Hid ((if xs.map Lib.itoa = [] then [110, 111, 110, 101] else Lib.join (xs.map Lib.itoa) [44]) = textL xs) := by
        show _ = _
        unfold textL
        cases xs <;> simp
      rw [HE.out] at LJ
      have LJ := Lib.hid LJ
      clear hO hrd
      go_wp2_with fail
      refine LJ.out.mono ?_
      rintro e w1 ⟨rfl, hb1⟩
      have hw2 := hw.trans (hb1.mono hws)
      clear hb1 hw
      go_wp2_with fail
      go_ret
      exact ⟨rfl, hw2⟩
set_option maxRecDepth 10000 in
set_option maxHeartbeats 4000000 in
theorem ListText_any (w : World) (ht : Tab w) (a : Option Addr) (c : Nat) (xs : List Int) (h : Rd w w.heap.size a (ints xs)) (hv : valOk xs = true) :
    Calls Tryz.prog 16 #[.slice a xs.length c] w fun e w' => e = .returned (.tuple #[.string (bs (textL xs)), .bool true]) ∧ Below w.heap.size w w' := by
  have hv2 := hv
  simp only [valOk, Bool.and_eq_true, decide_eq_true_eq] at hv2
  have LA := Lib.hid (areValues_any w a c xs h (by omega))
  rw [hv] at LA
  have LL := Lib.hid (listText_any w ht a c xs h (by omega) (fun x hx => by have := allIn_iff.1 hv2.1 x hx; omega))
  have h64 := hv2.2
  clear hv hv2 h ht
  go_enter Tryz.func16, Tryz.ntmps16
  go_wp2_with fail
  refine LA.out.mono ?_
  rintro e w1 ⟨rfl, rfl⟩
  go_wp2_with fail
  refine LL.out.mono ?_
  rintro e w1 ⟨rfl, hb1⟩
  go_wp2_with fail
  go_ret2
  exact ⟨rfl, hb1⟩
/-- Lists in a slice. -/
def RdP (w : World) (B : Nat) (a : Option Addr) (yss : List (List Int)) : Prop :=
  ∃ vs : List Value, vs.length = yss.length ∧ Rd w B a vs ∧ ∀ (k : Nat) (ys : List Int), yss[k]? = some ys → ∃ (a' : Option Addr) (c' : Nat), vs[k]? = some (Value.slice a' ys.length c') ∧ Rd w B a' (ints ys)
theorem RdP.to {w w' : World} {a : Option Addr} {yss : List (List Int)} (h : RdP w w.heap.size a yss) (hb : Below w.heap.size w w') : RdP w' w'.heap.size a yss := by
  obtain ⟨vs, h1, h2, h3⟩ := h
  exact ⟨vs, h1, h2.to hb, fun k ys hk => let ⟨a', c', e1, e3⟩ := h3 k ys hk; ⟨a', c', e1, e3.to hb⟩⟩
theorem RdP.get {w : World} {B : Nat} {a : Option Addr} {yss : List (List Int)} (h : RdP w B a yss) {k : Nat} (hk : k < yss.length) :
    ∃ b o ys a' c', a = some ⟨b, o, none⟩ ∧ b < B ∧ w.cell? ⟨b, o + k, none⟩ = some (.slice a' ys.length c') ∧ Rd w B a' (ints ys) ∧ Hid (yss[k]? = some ys) := by
  obtain ⟨vs, h1, h2, h3⟩ := h
  obtain ⟨b, o, v, ha, hb, hc, hv⟩ := h2.getV (k := k) (by omega)
  obtain ⟨a', c', e1, e3⟩ := h3 k yss[k] (List.getElem?_eq_getElem hk)
  have hv' := hv.out
  rw [e1] at hv'
  injection hv' with hv'
  exact ⟨b, o, yss[k], a', c', ha, hb, by rw [hc, hv'], e3, by simp [Hid, List.getElem?_eq_getElem hk]⟩
theorem texts_take {xss : List (List Int)} {k : Nat} {x : List Int} (hx : xss[k]? = some x) : (xss.take (k + 1)).map textL = (xss.take k).map textL ++ [textL x] := by
  rw [List.take_add_one, hx]; simp
def partsL (xss : List (List Int)) : List UInt8 := Lib.join (xss.map textL) [59]
set_option maxRecDepth 10000 in
set_option maxHeartbeats 4000000 in
theorem partsText_any (w : World) (ht : Tab w) (a : Option Addr) (c : Nat) (xss : List (List Int)) (h : RdP w w.heap.size a xss) (hl : xss.length ≤ 1024) (hr : ∀ x ∈ xss, valOk x = true) :
    Calls Tryz.prog 53 #[.slice a xss.length c] w fun e w' => e = .returned (.tuple #[.string (bs (partsL xss)), .bool true]) ∧ Below w.heap.size w w' := by
  have HT := Lib.hid ht
  have HR := Lib.hid hr
  have HA := Lib.hid h
  clear h hr ht
  go_enter Tryz.func53, Tryz.ntmps53
  go_wp2_with fail
  go_loopw [4, 12] (fun v iv wr => ∃ k : Nat, k ≤ xss.length ∧ iv = .int .i64 k ∧ Hid (wr.ownsRow w.heap.size 9 1 v k (strs ((xss.take k).map textL))) ∧ Below w.heap.size w wr) (fun _ iv _ => xss.length - (intOf iv).toNat)
  case atStart => exact ⟨0, Nat.zero_le _, rfl, own_empty w _, bl1 _ _⟩
  case round =>
    obtain ⟨k, hk, rfl, hO, hw⟩ := hrel
    have hws := hw.size
    by_cases hlt : k < xss.length
    · obtain ⟨b, o, x, a1, c1, rfl, hbb, hck, hrx, hx⟩ := (HA.out.to hw).get hlt
      have LD := Lib.hid (ListText_any wr (HT.out.to hw) a1 c1 x hrx (HR.out x (List.mem_of_getElem? hx.out)))
      have HN := Lib.hid (texts_take hx.out)
      clear hrx
      go_wp2_with fail
      refine LD.out.mono ?_
      rintro e w1 ⟨rfl, hb1⟩
      have hO1 := own_below hO.out hb1
      have hw1 := hw.trans (hb1.mono hws)
      have hs1 := hw1.size
      have hk2 : k ≤ 1099511627776 := by omega
      clear hO hb1 hck hw
      go_wp2_with (at_builtin; refine wpList_append_one _ rfl _ _ 63 rfl w.heap.size 9 (.string ByteArray.empty) 16 Tryz.underlying63 info_str rfl _ k _ rfl hO1 (.string (bs (textL x))) rfl rfl (by omega) hk2 hs1 ?_)
      intro v' w' ho hgr
      have hw2 := below_append hw1 hO1 hgr (Nat.le_refl _) hs1
      have HO2 : Hid (w'.ownsRow w.heap.size 9 1 v' (k + 1) (strs ((xss.take (k + 1)).map textL))) := by
        rw [HN.out, strs_append, List.map_take]; exact ho
      clear ho hgr hO1 hw1
      go_wp2_with fail
      go_roundw
      case rel => exact ⟨k + 1, by omega, by go_num, HO2, hw2⟩
      case measure => first | (simp [intOf]; done) | (simp [intOf]; omega)
    · have : k = xss.length := by omega
      subst this
      rw [List.take_length] at hO
      obtain ⟨a', c', rfl, hc', _⟩ := own_shape hO.out
      have hrd := rd_of_own hO.out (Nat.le_refl _)
      have LJ := join_any wr a' c' (xss.map textL) [59] hrd (by rw [List.length_map]; exact hc') (by rw [List.length_map]; omega) (by
        have := join_len (m := 2000) (xs := xss.map textL) (sep := [59]) (fun x hx => by
          obtain ⟨y, hy, rfl⟩ := List.mem_map.1 hx
          have hv := HR.out y hy
          simp only [valOk, Bool.and_eq_true, decide_eq_true_eq] at hv
          have := textL_len (xs := y) (fun z hz => by have := allIn_iff.1 hv.1 z hz; omega)
          omega)
        rw [List.length_map] at this
        simp at this; omega)
      rw [List.length_map] at LJ
      have LJ := Lib.hid LJ
      clear hO hrd
      go_wp2_with fail
      refine LJ.out.mono ?_
      rintro e w1 ⟨rfl, hb1⟩
      have hw2 := hw.trans (hb1.mono hws)
      clear hb1 hw
      go_wp2_with fail
      go_ret2
      exact ⟨rfl, hw2⟩
end Go.Proofs.YtkbejmjkdnfemaaGreatDoor
namespace Go.Proofs.YtkbejmjkdnfemaaGreatDoor
set_option linter.unusedVariables false
set_option linter.unusedSimpArgs false
open Go.RowKit

theorem blk_rd {w : World} {g : Nat} {vs : List Value} {t : TypeId} (h : Blk w g vs t) : Rd w w.heap.size (some ⟨g, 0, none⟩) vs := .inr ⟨g, 0, rfl, h.lt, fun j _ => by rw [Nat.zero_add]; exact h.cell j⟩
theorem rdP3 {w : World} {g g1 c2 c3 : Nat} {p q : Int} {a2 a3 : Option Addr} {x2 x3 : List Int} {t t1 : TypeId} (hB : Blk w g [.slice (some ⟨g1, 0, none⟩) 2 2, .slice a2 x2.length c2, .slice a3 x3.length c3] t) (h1 : Blk w g1 [.int .i64 p, .int .i64 q] t1) (h2 : Rd w w.heap.size a2 (ints x2)) (h3 : Rd w w.heap.size a3 (ints x3)) : RdP w w.heap.size (some ⟨g, 0, none⟩) [[p, q], x2, x3] := by
  refine ⟨_, rfl, blk_rd hB, fun k ys hk => ?_⟩
  match k, hk with
  | 0, hk => injection hk with hk; subst hk; exact ⟨_, _, rfl, blk_rd h1⟩
  | 1, hk => injection hk with hk; subst hk; exact ⟨_, _, rfl, h2⟩
  | 2, hk => injection hk with hk; subst hk; exact ⟨_, _, rfl, h3⟩
theorem rdP2 {w : World} {g g1 c2 : Nat} {p q : Int} {a2 : Option Addr} {x2 : List Int} {t t1 : TypeId} (hB : Blk w g [.slice (some ⟨g1, 0, none⟩) 2 2, .slice a2 x2.length c2] t) (h1 : Blk w g1 [.int .i64 p, .int .i64 q] t1) (h2 : Rd w w.heap.size a2 (ints x2)) : RdP w w.heap.size (some ⟨g, 0, none⟩) [[p, q], x2] := by
  refine ⟨_, rfl, blk_rd hB, fun k ys hk => ?_⟩
  match k, hk with
  | 0, hk => injection hk with hk; subst hk; exact ⟨_, _, rfl, blk_rd h1⟩
  | 1, hk => injection hk with hk; subst hk; exact ⟨_, _, rfl, h2⟩
theorem alloc2 (w : World) (u v : List Value) (t s : TypeId) : Blk ((w.alloc (.cells u.toArray t)).alloc (.cells v.toArray s)) w.heap.size u t ∧ Blk ((w.alloc (.cells u.toArray t)).alloc (.cells v.toArray s)) (w.heap.size + 1) v s := by
  refine ⟨(Blk.new w u t).alloc _, ?_⟩
  have := Blk.new (w.alloc (.cells u.toArray t)) v s
  simpa using this
theorem valOk_of {xs : List Int} (h : ∀ x ∈ xs, -1000000000000000 ≤ x ∧ x ≤ 1000000000000000) (hl : xs.length ≤ 64) : valOk xs = true := by
  simp only [valOk, Bool.and_eq_true, decide_eq_true_eq]
  exact ⟨allIn_iff.2 h, hl⟩
end Go.Proofs.YtkbejmjkdnfemaaGreatDoor
