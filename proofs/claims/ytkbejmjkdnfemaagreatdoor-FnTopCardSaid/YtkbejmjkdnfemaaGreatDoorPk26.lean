/-
  Part 26 of what the proof stands on: lemmas and contracts, each with its conditions ahead of the colon.
-/
import Derived.Lib.ConvBytes
import Derived.Outline
import Derived.Deep.DeepCutAuto
import Derived.Deep.LoopGhost
import Derived.LaidLaws
import Derived.LaidMore
import Derived.Shelf.Strconv.ToError
import Derived.Test.YtkbejmjkdnfemaaGreatDoorPk13
import Derived.Test.YtkbejmjkdnfemaaGreatDoorPk15
import Derived.Test.YtkbejmjkdnfemaaGreatDoorPk24
namespace Go.Proofs.YtkbejmjkdnfemaaGreatDoor
set_option linter.unusedVariables false
set_option linter.unusedSimpArgs false
open Go.RowKit

theorem readU_take {l : List UInt8} {k n d : Nat} {b : UInt8} (h : readU 0 (l.take k) = some n) (hb : l[k]? = some b) (hd : hexV b = some d) : readU 0 (l.take (k + 1)) = some (16 * n + d) := by
  rw [List.take_add_one, hb, readU_app, h]
  show readU n [b] = _
  rw [readU, hd]; rfl
theorem readU_stop {l : List UInt8} {k n : Nat} {b : UInt8} (h : readU 0 (l.take k) = some n) (hb : l[k]? = some b) (hd : hexV b = none) : readU 0 l = none := by
  have hl := (List.getElem?_eq_some_iff.1 hb).1
  have e : l = l.take k ++ b :: l.drop (k + 1) := by
    have := List.take_append_drop k l
    rw [List.drop_eq_getElem_cons hl] at this
    rw [List.getElem?_eq_getElem hl] at hb
    injection hb with hb
    rw [hb] at this
    exact this.symm
  rw [e, readU_app, h]
  show readU n (b :: l.drop (k + 1)) = none
  rw [readU, hd]
theorem readU_small {l : List UInt8} {k n : Nat} (h : readU 0 (l.take k) = some n) (hk : k < 8) : n < 268435456 := by
  have h1 := readU_bd _ _ _ h
  have h2 : (l.take k).length ≤ 7 := by rw [List.length_take]; omega
  have h3 : (16 : Nat) ^ (l.take k).length ≤ 16 ^ 7 := Nat.pow_le_pow_right (by omega) h2
  have h4 : (16 : Nat) ^ 7 = 268435456 := by decide
  omega
theorem lower_bits (b : UInt8) : bits .or .u8 (b.toNat : Int) 32 = ((lowHx b : Nat) : Int) := by
  have key : ∀ q : Fin 256, bits .or .u8 (q.1 : Int) 32 = ((lowHx (UInt8.ofNat q.1) : Nat) : Int) := by decide +kernel
  have hb := b.toNat_lt
  have := key ⟨b.toNat, by omega⟩
  simpa using this
theorem hex_cases (b : UInt8) : (48 ≤ b.toNat ∧ b.toNat ≤ 57 ∧ b.toNat ≠ 95 ∧ hexV b = some (b.toNat - 48)) ∨ (b.toNat < 48 ∧ b.toNat ≠ 95 ∧ lowHx b < 97 ∧ hexV b = none) ∨ (57 < b.toNat ∧ b.toNat ≠ 95 ∧ lowHx b < 97 ∧ hexV b = none) ∨ (57 < b.toNat ∧ b.toNat ≠ 95 ∧ 122 < lowHx b ∧ hexV b = none) ∨ (57 < b.toNat ∧ b.toNat = 95 ∧ 122 < lowHx b ∧ hexV b = none) ∨ (57 < b.toNat ∧ b.toNat ≠ 95 ∧ 103 ≤ lowHx b ∧ lowHx b ≤ 122 ∧ hexV b = none) ∨ (57 < b.toNat ∧ b.toNat ≠ 95 ∧ 97 ≤ lowHx b ∧ lowHx b ≤ 102 ∧ hexV b = some (lowHx b - 87)) := by
  have key : ∀ q : Fin 256, (48 ≤ (UInt8.ofNat q.1).toNat ∧ (UInt8.ofNat q.1).toNat ≤ 57 ∧ (UInt8.ofNat q.1).toNat ≠ 95 ∧ hexV (UInt8.ofNat q.1) = some ((UInt8.ofNat q.1).toNat - 48)) ∨ ((UInt8.ofNat q.1).toNat < 48 ∧ (UInt8.ofNat q.1).toNat ≠ 95 ∧ lowHx (UInt8.ofNat q.1) < 97 ∧ hexV (UInt8.ofNat q.1) = none) ∨ (57 < (UInt8.ofNat q.1).toNat ∧ (UInt8.ofNat q.1).toNat ≠ 95 ∧ lowHx (UInt8.ofNat q.1) < 97 ∧ hexV (UInt8.ofNat q.1) = none) ∨ (57 < (UInt8.ofNat q.1).toNat ∧ (UInt8.ofNat q.1).toNat ≠ 95 ∧ 122 < lowHx (UInt8.ofNat q.1) ∧ hexV (UInt8.ofNat q.1) = none) ∨ (57 < (UInt8.ofNat q.1).toNat ∧ (UInt8.ofNat q.1).toNat = 95 ∧ 122 < lowHx (UInt8.ofNat q.1) ∧ hexV (UInt8.ofNat q.1) = none) ∨ (57 < (UInt8.ofNat q.1).toNat ∧ (UInt8.ofNat q.1).toNat ≠ 95 ∧ 103 ≤ lowHx (UInt8.ofNat q.1) ∧ lowHx (UInt8.ofNat q.1) ≤ 122 ∧ hexV (UInt8.ofNat q.1) = none) ∨ (57 < (UInt8.ofNat q.1).toNat ∧ (UInt8.ofNat q.1).toNat ≠ 95 ∧ 97 ≤ lowHx (UInt8.ofNat q.1) ∧ lowHx (UInt8.ofNat q.1) ≤ 102 ∧ hexV (UInt8.ofNat q.1) = some (lowHx (UInt8.ofNat q.1) - 87)) := by decide +kernel
  have hb := b.toNat_lt
  have := key ⟨b.toNat, by omega⟩
  simpa only [UInt8.ofNat_toNat] using this
theorem lower_any (b : UInt8) (w : World) : Calls Tryz.prog 282 #[.int .u8 (b.toNat : Int)] w fun e w' => e = .returned (.int .u8 (lowHx b : Nat)) ∧ w = w' := by
  have h := lower_bits b
  generalize lowHx b = q at *
  generalize b.toNat = c at *
  go_enter Tryz.func282, Tryz.ntmps282
  go_wp2_with fail
  go_ret
  exact ⟨rfl, rfl⟩
/-- A number that is read, or the library's word for none. -/
def RetU (w : World) (l : List UInt8) (e : Ending) (w' : World) : Prop := Below w.heap.size w w' ∧ match readU 0 l with
  | some m => e = .returned (.tuple #[.int .u64 m, .nilIface])
  | none => e = .returned (.tuple #[.int .u64 0, .iface 279 (.int .i64 2)])
theorem RetU.yes {w w' : World} {l : List UInt8} {m : Nat} (h : readU 0 l = some m) (hb : Below w.heap.size w w') : RetU w l (.returned (.tuple #[.int .u64 m, .nilIface])) w' := by unfold RetU; rw [h]; exact ⟨hb, rfl⟩
theorem RetU.no {w w' : World} {l : List UInt8} (h : readU 0 l = none) (hb : Below w.heap.size w w') : RetU w l (.returned (.tuple #[.int .u64 0, .iface 279 (.int .i64 2)])) w' := by unfold RetU; rw [h]; exact ⟨hb, rfl⟩
theorem bytes_belowU (w : World) (e : TypeId) (s : ByteArray) : Below w.heap.size w (Lib.bytesWorld w e s) := Lib.bytesWorld_below w e s
set_option maxRecDepth 200000 in
set_option maxHeartbeats 16000000 in
theorem parseHexI_any (w : World) (s : ByteArray) (hs : s.size = 8) :
    Calls Tryz.prog 220 #[.string s, .int .i64 16, .int .i64 32] w (RetU w s.data.toList) := by
  have hcv := Lib.run_convert_string_bytes (P := Tryz.prog) w 9 22 5 s Tryz.underlying9 Tryz.underlying22 Tryz.underlying5
  obtain ⟨cG, hcG⟩ : ∃ c, c = grownCap w s.size 0 5 := ⟨_, rfl⟩
  rw [← hcG] at hcv
  have hcGe : s.size ≤ cG := by rw [hcG]; exact grownCap_ge _ _ _ _
  obtain ⟨wB, hwB⟩ : ∃ W, W = Lib.bytesWorld w 5 s := ⟨_, rfl⟩
  rw [← hwB] at hcv
  have BB : Hid (Below w.heap.size w wB) := by rw [hwB]; exact bytes_belowU w _ s
  have HC : Hid (∀ j, j < s.size → wB.cell? ⟨w.heap.size, j, none⟩ = some (.int .u8 ((s.data.toList.getD j 0).toNat : Int))) := fun j hj => by rw [hwB]; exact Lib.bytesWorld_cell w _ s j hj
  have hsl : s.data.toList.length = 8 := by rw [← Lib.size_eq]; exact hs
  have hne : (s.toList == []) = false := by
    rw [Lib.toList_data, Bool.eq_false_iff]; intro e; rw [eq_of_beq e] at hsl; cases hsl
  have hne2 : s.toList.isEmpty = false := by
    rw [Lib.toList_data]; cases h : s.data.toList with
    | nil => rw [h] at hsl; cases hsl
    | cons a r => rfl
  rw [hs] at hcv hcGe HC
  have HS := Lib.hid hs
  have HSL := Lib.hid hsl
  have LL := Lib.hid lower_any
  obtain ⟨l, hl⟩ : ∃ l, l = s.data.toList := ⟨_, rfl⟩
  rw [← hl] at HC HSL ⊢
  have hT : Hid (∀ k b, l[k]? = some b → k < 8 → wB.cell? ⟨w.heap.size, k, none⟩ = some (.int .u8 (b.toNat : Int))) := fun k b hb hk => by
    have := HC.out k hk
    rw [List.getD, hb] at this
    exact this
  have RT := Lib.hid (fun k n d b h1 h2 h3 => readU_take (l := l) (k := k) (n := n) (d := d) (b := b) h1 h2 h3)
  have RS := Lib.hid (fun k n b h1 h2 h3 => readU_stop (l := l) (k := k) (n := n) (b := b) h1 h2 h3)
  have RB := Lib.hid (fun k n h1 h2 => readU_small (l := l) (k := k) (n := n) h1 h2)
  have R0 : Hid (readU 0 (l.take 0) = some 0) := rfl
  have RE : Hid (∀ m, readU 0 (l.take 8) = some m → readU 0 l = some m) := fun m h => by rwa [List.take_of_length_le (by have := HSL.out; omega)] at h
  clear hcG hwB hsl hs hl HC
  go_enter Tryz.func220, Tryz.ntmps220
  go_wp2_with fail
  go_loopg [101, 13, 12] (8) (fun gk kv nv uv wr => ∃ k n : Nat, gk = 8 - k ∧ k ≤ 8 ∧ kv = .int .i64 k ∧ nv = .int .u64 n ∧ uv = .bool false ∧ Hid (readU 0 (l.take k) = some n) ∧ wr = wB)
  case atStart => exact ⟨0, 0, rfl, Nat.zero_le _, rfl, rfl, rfl, R0.out, rfl⟩
  case round =>
    clear R0
    obtain ⟨k, n, rfl, hk, rfl, rfl, rfl, hR, rfl⟩ := hrel
    have k0 : (0 : Int) ≤ (k : Int) := Int.natCast_nonneg _
    by_cases hlt : k < 8
    · have hki : (k : Int) < 8 := by omega
      have hnb := RB.out k n hR.out hlt
      obtain ⟨b, hb⟩ : ∃ b, l[k]? = some b := ⟨l[k]'(by have := HSL.out; omega), List.getElem?_eq_getElem _⟩
      have c1 := hT.out k b hb hlt
      have RT1 := Lib.hid (fun d h => RT.out k n d b hR.out hb h)
      have RS1 := Lib.hid (fun h => RS.out k n b hR.out hb h)
      have LL1 := Lib.hid (fun v => LL.out b v)
      have hcs := hex_cases b
      have hb8 : b.toNat < 256 := b.toNat_lt
      clear hb hR
      generalize lowHx b = lw at *
      generalize hexV b = hv at *
      generalize b.toNat = c at *
      rcases hcs with ⟨h1, h2, h3, hh⟩ | ⟨h1, h3, h4, hh⟩ | ⟨h1, h3, h4, hh⟩ | ⟨h1, h3, h4, hh⟩ | ⟨h1, h3, h4, hh⟩ | ⟨h1, h3, h4, h5, hh⟩ | ⟨h1, h3, h4, h5, hh⟩
      · have u1 : ((c : Int) == 95) = false := by simp; omega
        have i1 : (48 : Int) ≤ (c : Int) := by omega
        have i2 : (c : Int) ≤ 57 := by omega
        have i1d : decide ((48 : Int) ≤ (c : Int)) = true := decide_eq_true i1
        obtain ⟨d, hd⟩ : ∃ d, d = c - 48 := ⟨_, rfl⟩
        rw [← hd] at hh
        have hN := Lib.hid (RT1.out d hh)
        have hdd : (c : Int) - 48 = (d : Int) := by omega
        have hd16 : ¬ (16 : Int) ≤ (d : Int) := by omega
        have hnn : ¬ (n : Int) * 16 + (d : Int) < (n : Int) * 16 := by omega
        have hcut : ¬ (1152921504606846976 : Int) ≤ (n : Int) := by omega
        have hmx : ¬ (4294967295 : Int) < (n : Int) * 16 + (d : Int) := by omega
        have d0 : (0 : Int) ≤ (d : Int) := Int.natCast_nonneg _
        have n0 : (0 : Int) ≤ (n : Int) := Int.natCast_nonneg _
        have nb : (n : Int) < 268435456 := by omega
        have hcl : ((16 * n + d : Nat) : Int) = (n : Int) * 16 + (d : Int) := by omega
        clear hh RT1 RS1 h3 hd
        have HCL := Lib.hid hcl
        clear hcl
        go_wp2_with fail
        go_roundg (8 - (k + 1))
        case measure => omega
        case rel => exact ⟨k + 1, 16 * n + d, rfl, by omega, by go_num, by rw [HCL.out], rfl, hN.out, rfl⟩
      · have u1 : ((c : Int) == 95) = false := by simp; omega
        have i1 : ¬ (48 : Int) ≤ (c : Int) := by omega
        have i1d : decide ((48 : Int) ≤ (c : Int)) = false := decide_eq_false i1
        have i3 : ¬ (97 : Int) ≤ (lw : Int) := by omega
        have i3d : decide ((97 : Int) ≤ (lw : Int)) = false := decide_eq_false i3
        have hN := Lib.hid (RS1.out hh)
        clear hh RT1 RS1 h3
        go_wp2_with fail
        refine (LL1.out _).mono ?_
        rintro e w1 ⟨rfl, rfl⟩
        go_wp2_with fail
        go_ret2
        exact RetU.no hN.out BB.out
      · have u1 : ((c : Int) == 95) = false := by simp; omega
        have i1 : (48 : Int) ≤ (c : Int) := by omega
        have i2 : ¬ (c : Int) ≤ 57 := by omega
        have i1d : decide ((48 : Int) ≤ (c : Int)) = true := decide_eq_true i1
        have i3 : ¬ (97 : Int) ≤ (lw : Int) := by omega
        have i3d : decide ((97 : Int) ≤ (lw : Int)) = false := decide_eq_false i3
        have hN := Lib.hid (RS1.out hh)
        clear hh RT1 RS1 h3
        go_wp2_with fail
        refine (LL1.out _).mono ?_
        rintro e w1 ⟨rfl, rfl⟩
        go_wp2_with fail
        go_ret2
        exact RetU.no hN.out BB.out
      · have u1 : ((c : Int) == 95) = false := by simp; omega
        have i1 : (48 : Int) ≤ (c : Int) := by omega
        have i2 : ¬ (c : Int) ≤ 57 := by omega
        have i1d : decide ((48 : Int) ≤ (c : Int)) = true := decide_eq_true i1
        have i3 : (97 : Int) ≤ (lw : Int) := by omega
        have i3d : decide ((97 : Int) ≤ (lw : Int)) = true := decide_eq_true i3
        have i4 : ¬ (lw : Int) ≤ 122 := by omega
        have hN := Lib.hid (RS1.out hh)
        clear hh RT1 RS1 h3
        go_wp2_with fail
        refine (LL1.out _).mono ?_
        rintro e w1 ⟨rfl, rfl⟩
        go_wp2_with fail
        refine (LL1.out _).mono ?_
        rintro e w1 ⟨rfl, rfl⟩
        go_wp2_with fail
        go_ret2
        exact RetU.no hN.out BB.out
      · have u1 : ((c : Int) == 95) = true := by simp; omega
        have i1 : (48 : Int) ≤ (c : Int) := by omega
        have i2 : ¬ (c : Int) ≤ 57 := by omega
        have i1d : decide ((48 : Int) ≤ (c : Int)) = true := decide_eq_true i1
        have i3 : (97 : Int) ≤ (lw : Int) := by omega
        have i3d : decide ((97 : Int) ≤ (lw : Int)) = true := decide_eq_true i3
        have i4 : ¬ (lw : Int) ≤ 122 := by omega
        have hN := Lib.hid (RS1.out hh)
        clear hh RT1 RS1 h3
        go_wp2_with fail
        refine (LL1.out _).mono ?_
        rintro e w1 ⟨rfl, rfl⟩
        go_wp2_with fail
        refine (LL1.out _).mono ?_
        rintro e w1 ⟨rfl, rfl⟩
        go_wp2_with fail
        go_ret2
        exact RetU.no hN.out BB.out
      · have u1 : ((c : Int) == 95) = false := by simp; omega
        have i1 : (48 : Int) ≤ (c : Int) := by omega
        have i2 : ¬ (c : Int) ≤ 57 := by omega
        have i1d : decide ((48 : Int) ≤ (c : Int)) = true := decide_eq_true i1
        have i3 : (97 : Int) ≤ (lw : Int) := by omega
        have i3d : decide ((97 : Int) ≤ (lw : Int)) = true := decide_eq_true i3
        have i4 : (lw : Int) ≤ 122 := by omega
        have hN := Lib.hid (RS1.out hh)
        clear hh RT1 RS1 h3
        go_wp2_with fail
        refine (LL1.out _).mono ?_
        rintro e w1 ⟨rfl, rfl⟩
        go_wp2_with fail
        refine (LL1.out _).mono ?_
        rintro e w1 ⟨rfl, rfl⟩
        go_wp2_with fail
        refine (LL1.out _).mono ?_
        rintro e w1 ⟨rfl, rfl⟩
        go_wp2_with fail
        go_ret2
        exact RetU.no hN.out BB.out
      · have u1 : ((c : Int) == 95) = false := by simp; omega
        have i1 : (48 : Int) ≤ (c : Int) := by omega
        have i2 : ¬ (c : Int) ≤ 57 := by omega
        have i1d : decide ((48 : Int) ≤ (c : Int)) = true := decide_eq_true i1
        have i3 : (97 : Int) ≤ (lw : Int) := by omega
        have i3d : decide ((97 : Int) ≤ (lw : Int)) = true := decide_eq_true i3
        have i4 : (lw : Int) ≤ 122 := by omega
        obtain ⟨d, hd⟩ : ∃ d, d = lw - 87 := ⟨_, rfl⟩
        rw [← hd] at hh
        have hN := Lib.hid (RT1.out d hh)
        obtain ⟨g, hg⟩ : ∃ g, g = lw - 97 := ⟨_, rfl⟩
        have hgg : (lw : Int) - 97 = (g : Int) := by omega
        have hdd : (g : Int) + 10 = (d : Int) := by omega
        have d0 : (0 : Int) ≤ (d : Int) := Int.natCast_nonneg _
        have n0 : (0 : Int) ≤ (n : Int) := Int.natCast_nonneg _
        have nb : (n : Int) < 268435456 := by omega
        have hcl : ((16 * n + d : Nat) : Int) = (n : Int) * 16 + (d : Int) := by omega
        clear hh RT1 RS1 h3 hd hg
        have HCL := Lib.hid hcl
        clear hcl
        go_wp2_with fail
        have HD := Lib.hid (show d < 16 by omega)
        refine (LL1.out _).mono ?_
        rintro e w1 ⟨rfl, rfl⟩
        go_wp2_with fail
        refine (LL1.out _).mono ?_
        rintro e w1 ⟨rfl, rfl⟩
        go_wp2_with fail
        refine (LL1.out _).mono ?_
        rintro e w1 ⟨rfl, rfl⟩
        go_upto_region 46 with fail
        go_cut [16, 137] (fun dv tv wx => dv = .int .u8 d ∧ tv = .bool (decide ((16 : Int) ≤ (d : Int))) ∧ wx = wr)
        case first =>
          go_wp2_with fail
          go_meet
          exact ⟨rfl, rfl, rfl⟩
        case rest =>
          obtain ⟨rfl, htv, rfl⟩ := hcut
          rw [decide_eq_false (by have := HD.out; omega)] at htv
          subst htv
          clear hgg hdd h4 h5 i3 i3d i4
          have hdn := HD.out
          have hd16 : ¬ (16 : Int) ≤ (d : Int) := by omega
          have hnn : ¬ (n : Int) * 16 + (d : Int) < (n : Int) * 16 := by omega
          have hcut : ¬ (1152921504606846976 : Int) ≤ (n : Int) := by omega
          have hmx : ¬ (4294967295 : Int) < (n : Int) * 16 + (d : Int) := by omega
          clear hdn
          go_wp2_with fail
          go_roundg (8 - (k + 1))
          case measure => omega
          case rel => exact ⟨k + 1, 16 * n + d, rfl, by omega, by go_num, by rw [HCL.out], rfl, hN.out, rfl⟩
    · obtain rfl : k = 8 := by omega
      have hN := Lib.hid (RE.out n hR.out)
      clear hR
      go_wp2_with fail
      go_ret2
      exact RetU.yes hN.out BB.out
end Go.Proofs.YtkbejmjkdnfemaaGreatDoor
namespace Go.Proofs.YtkbejmjkdnfemaaGreatDoor
set_option linter.unusedVariables false
set_option linter.unusedSimpArgs false
open Go.RowKit

theorem errVar_of_head {P : Program} {W : World} {name tn : String} {d : DataW Unit} {rest : List (String × DataW Unit)} {g : Nat} {t : TypeId} {ms : Array (String × TypeId)}
    (hg : P.globalNamed name = some g) (hty : (P.globals[g]?).map (·.type) = some t) (ht : P.underlying t = some (.interface ms))
    (h : laidMet P ((name, .iface tn d) :: rest) W) : ∃ ev : Value, W.cell? ⟨g, 0, none⟩ = some ev ∧ (ev = .nilIface ∨ ∃ te pe, ev = .iface te pe) := by
  obtain ⟨ps, ⟨g', t', cs, fuel, p, q, hg', ht', hvar, hd, _, _⟩, _⟩ := h
  obtain rfl := Option.some.inj (hg.symm.trans hg')
  obtain rfl := Option.some.inj (hty.symm.trans ht')
  obtain ⟨_, u, v, hcs, _, _⟩ := iface_of_trod ht hd
  have hc := World.var?_cell hg hvar 0
  have he : cs = #[.iface u v] := by
    cases cs
    simpa using hcs
  subst he
  exact ⟨.iface u v, by simpa using hc, .inr ⟨u, v, rfl⟩⟩
end Go.Proofs.YtkbejmjkdnfemaaGreatDoor
namespace Go.Proofs.YtkbejmjkdnfemaaGreatDoor
set_option linter.unusedVariables false
set_option linter.unusedSimpArgs false
open Go.RowKit

theorem toErr_any (w : World) (hE : Errs w) (s : ByteArray) (hs : s.size ≤ 1048576) :
    Calls Tryz.prog 221 #[.string ⟨#[80, 97, 114, 115, 101, 85, 105, 110, 116]⟩, .string s, .int .i64 16, .int .i64 32, .iface 279 (.int .i64 2)] w fun e w' => ∃ t p, e = .returned (.iface t p) ∧ Below w.heap.size w w' := by
  obtain ⟨⟨a, ha, ha2⟩, -⟩ := hE
  have L := Any.strconv_toError_syntax (P := Tryz.prog) (ρ := Tryz.laysC174_ren) { Tryz.laysC174 with } ⟨#[80, 97, 114, 115, 101, 85, 105, 110, 116]⟩ s 16 32 a w (by omega) ha ha2
  exact L.mono fun e w' ⟨N, h1, _, _, h2⟩ => ⟨_, _, h1, h2⟩
set_option maxRecDepth 10000 in
set_option maxHeartbeats 4000000 in
theorem parseHex_any (w : World) (hE : Errs w) (s : ByteArray) (hs : s.size = 8) :
    Calls Tryz.prog 169 #[.string s, .int .i64 16, .int .i64 32] w fun e w' => ∃ v, e = .returned (.tuple #[.int .u64 (rdHex s.data.toList : Nat), v]) ∧ Below w.heap.size w w' := by
  have L := Lib.hid (parseHexI_any w s hs)
  have LT := Lib.hid (fun v (hb : Below w.heap.size w v) => toErr_any v (hE.to hb) s (by omega))
  unfold RetU at L
  cases hr : readU 0 s.data.toList with
  | some m =>
    have HF : Hid (rdHex s.data.toList = m) := by unfold rdHex; rw [Hid, hr]; rfl
    rw [hr] at L
    rw [HF.out]
    clear hE hr hs
    go_enter Tryz.func169, Tryz.ntmps169
    go_wp2_with fail
    refine L.out.mono ?_
    rintro e w1 ⟨hb, rfl⟩
    go_wp2_with fail
    go_ret2
    exact ⟨_, rfl, hb⟩
  | none =>
    have HF : Hid (rdHex s.data.toList = 0) := by unfold rdHex; rw [Hid, hr]; rfl
    rw [hr] at L
    rw [HF.out]
    clear hE hr hs
    go_enter Tryz.func169, Tryz.ntmps169
    go_wp2_with fail
    refine L.out.mono ?_
    rintro e w1 ⟨hb, rfl⟩
    have B1 := Lib.hid hb
    have LT1 := Lib.hid (LT.out _ hb)
    clear hb LT
    go_wp2_with fail
    refine LT1.out.mono ?_
    rintro e w2 ⟨t, p, rfl, hb2⟩
    go_wp2_with fail
    go_ret2
    exact ⟨_, rfl, below_then B1.out hb2⟩
theorem from32 (b : Nat) (w : World) : (callFunc 170 #[.int .u32 b]).run Tryz.prog w = .ok (.value (.float .f32 b)) w := by
  rw [run_callFunc_extern (P := Tryz.prog) (e := Extern.MathFloatBits.float32frombits) Tryz.func170 (by kernel_rfl) (by kernel_rfl) (by kernel_rfl) (by kernel_rfl)]
  rfl
set_option maxRecDepth 10000 in
set_option maxHeartbeats 4000000 in
theorem readHex_any (w : World) (hE : Errs w) (s : ByteArray) (hs : s.size = 8) :
    Calls Tryz.prog 93 #[.string s] w fun e w' => e = .returned (.float .f32 (rdHex s.data.toList)) ∧ Below w.heap.size w w' := by
  have L := Lib.hid (parseHex_any w hE s hs)
  have hlt : rdHex s.data.toList < 4294967296 := rdHex_lt (by rw [← Lib.size_eq]; exact hs)
  generalize rdHex s.data.toList = m at *
  have hw : IntKind.u32.wrap (m : Int) = (m : Int) := IntWalk.u32_in _ (by omega)
  have hd := fun v => from32 m v
  clear hE hs hlt
  go_enter Tryz.func93, Tryz.ntmps93
  go_wp2_with fail
  refine L.out.mono ?_
  rintro e w1 ⟨v, rfl, hb⟩
  go_wp2_with fail
  go_ret
  exact ⟨rfl, hb⟩
/-- Numbers that were read, or none. -/
def RetNF (w : World) (r : Option (List Nat)) (e : Ending) (w' : World) : Prop :=
  Below w.heap.size w w' ∧ match r with
    | none => e = .returned (.tuple #[.slice none 0 0, .bool false])
    | some xs => ∃ a c, e = .returned (.tuple #[.slice a xs.length c, .bool true]) ∧ w'.ownsRow w.heap.size 95 1 (.slice a xs.length c) xs.length (flts xs)
theorem flts_append (xs ys : List Nat) : flts (xs ++ ys) = flts xs ++ flts ys := by simp [flts]
set_option maxRecDepth 200000 in
set_option maxHeartbeats 8000000 in
theorem readNumbers_any (w : World) (hB : TabB w) (hS : Shp w) (hE : Errs w) (s : ByteArray) (hs : s.size ≤ 1048576) :
    Calls Tryz.prog 36 #[.string s] w (RetNF w (numbersF s.data.toList)) := by
  have hln : (pcsF s.data.toList).length ≤ 1048577 := by have := pcsF_len s.data.toList; have := Lib.size_eq s; omega
  have HM : Hid (∀ x ∈ pcsF s.data.toList, x.length ≤ 1048576) := fun x hx => by have := pcsF_mem hx; have := Lib.size_eq s; omega
  have LP := Lib.hid (fun v (hv : Below w.heap.size w v) => pieces_any v (hS.to hv) s hs)
  have LD := Lib.hid (fun v (hv : Below w.heap.size w v) => readHex_any v (hE.to hv))
  have LN := Lib.hid (fun v (hv : Below w.heap.size w v) => numbersText_any v (hB.to hv))
  have HTl := Lib.hid (Till.start oneN (pcsF s.data.toList))
  have HNo := Lib.hid (fun h => numbersF_none (l := s.data.toList) h)
  have HLg := Lib.hid (fun h => numbersF_long (l := s.data.toList) h)
  have HSo := Lib.hid (fun xs h => numbersF_some (l := s.data.toList) (xs := xs) h)
  have HLt := Lib.hid (fun xs h => allO_mem (f := oneN) (Q := fun x => x < 4294967296) (fun p y hy => oneN_lt hy) (xs := pcsF s.data.toList) (ys := xs) h)
  have HSl : Hid (s.toList = s.data.toList) := Lib.toList_data s
  generalize numbersF s.data.toList = RF at *
  generalize pcsF s.data.toList = ps at *
  generalize s.data.toList = sl at *
  clear hB hS hE hs
  have hO0 := Lib.hid (own_empty w 95)
  go_enter Tryz.func36, Tryz.ntmps36
  go_wp2_with fail
  refine (LP.out _ (bl1 _ _)).mono ?_
  rintro e w1 ⟨a, c, rfl, hrd, hbl, hb1⟩
  have HX := Lib.hid hrd
  have HB1 := Lib.hid (below_then (bl1 _ _) hb1)
  have HO1 := Lib.hid (own_below hO0.out hb1)
  have HL := Lib.hid (fun b (e : a = some b) => (hbl b e).2)
  have HA0 : Hid (Apt a (.slice (some ⟨w.heap.size, 0, none⟩) 0 0)) := fun b e h => by
    have h1 := (hbl b e).1
    have h2 : some b.block = some w.heap.size := h
    injection h2 with h2
    simp at h1
    omega
  clear hrd hb1 hO0 LP hbl
  go_wp2_with fail
  go_loopw [4, 13] (fun v iv wr => ∃ (k : Nat) (d : List Nat), k ≤ ps.length ∧ k ≤ 256 ∧ d.length = k ∧ iv = .int .i64 k ∧ (∃ g c, v = .slice (some ⟨g, 0, none⟩) d.length c) ∧ Hid (Till oneN ps k d) ∧ Hid (wr.ownsRow w.heap.size 95 1 v d.length (flts d)) ∧ Hid (Below w.heap.size w wr) ∧ Hid (Rd wr w1.heap.size a (strs ps)) ∧ Hid (w1.heap.size ≤ wr.heap.size) ∧ Hid (Apt a v)) (fun _ iv _ => ps.length - (intOf iv).toNat)
  case atStart => exact ⟨0, [], Nat.zero_le _, Nat.zero_le _, rfl, rfl, ⟨_, _, rfl⟩, HTl.out, HO1.out, HB1.out, HX.out, Nat.le_refl _, HA0.out⟩
  case round =>
    obtain ⟨k, d, hk, hk256, hdk, rfl, ⟨g, cp, rfl⟩, hTl, hO, hw, hR, hS1, hA⟩ := hrel
    have HDK := Lib.hid hdk
    clear hdk
    have k0 : (0 : Int) ≤ (k : Int) := Int.natCast_nonneg _
    by_cases hlt : k < ps.length
    · have k1 : (k : Int) < (ps.length : Int) := by omega
      obtain ⟨b, o, l, ha, hb, hc, hl⟩ := strs_line hR.out hlt
      have HAe := Lib.hid ha
      subst ha
      have hlm := HM.out l (List.mem_of_getElem? hl.out)
      by_cases h8 : l.length = 8
      · have hz : (bs l).size = 8 := by rw [bs_size]; exact h8
        have t8 : (((bs l).size : Int) != 8) = false := by rw [hz]; rfl
        by_cases h256 : d.length = 256
        · have HF : Hid (RF = none) := HLg.out (by have := HDK.out; omega)
          have t9 : ((d.length : Int) == 256) = true := by rw [h256]; rfl
          clear hTl hl h8 hz
          generalize bs l = B at *
          go_wp2_with fail
          go_ret2
          rw [HF.out]
          exact ⟨hw.out, rfl⟩
        · have t9 : ((d.length : Int) == 256) = false := by rw [beq_eq_false_iff_ne]; omega
          have HT2 := Lib.hid (hTl.out.step hl.out (oneN_some h8))
          have LD1 := Lib.hid (LD.out wr hw.out (bs l) hz)
          rw [show (bs l).data.toList = l from rfl] at LD1
          generalize rdHex l = n at *
          clear hTl hl h8 hz
          generalize bs l = B at *
          go_wp2_with fail
          refine LD1.out.mono ?_
          rintro e w2 ⟨rfl, hb2⟩
          have hO' := own_below hO.out hb2
          have hw2 := below_then hw.out hb2
          have hws2 := hw2.size
          have hdl : d.length ≤ 1099511627776 := by have := HDK.out; omega
          have HR2 := Lib.hid (hR.out.below (hb2.mono hS1.out) (Nat.le_refl _))
          have HS2 := Lib.hid (Nat.le_trans hS1.out hb2.size)
          clear hb2 hO hw hR LD1
          go_wp2_with (at_builtin; refine wpList_append_blk _ rfl _ _ 31 rfl w.heap.size 95 (.float .f32 0) 4 Tryz.underlying31 info_f32 rfl _ d.length _ rfl hO' (.float .f32 n) rfl rfl (by omega) hdl hws2 ?_)
          intro v' w' ho hgr hng
          obtain ⟨g2, c2, rfl⟩ := own_some ho (by omega)
          have HO2 : Hid (w'.ownsRow w.heap.size 95 1 (.slice (some ⟨g2, 0, none⟩) (d.length + 1) c2) (d ++ [n]).length (flts (d ++ [n]))) := by
            rw [Hid, List.length_append, List.length_singleton, flts_append]; exact ho
          have HW3 := Lib.hid (below_append hw2 hO' hgr (Nat.le_refl _) hws2)
          have HR3 := Lib.hid (HR2.out.apt HS2.out hgr hA.out)
          have HS3 := Lib.hid (Nat.le_trans HS2.out hgr.size)
          have HA3 := Lib.hid (hA.out.grow (fun b e => Nat.lt_of_lt_of_le (HL.out b e) HS2.out) hng)
          clear ho hgr hng hO' hw2 HR2 hA
          go_wp2_with fail
          go_roundw
          case rel => exact ⟨k + 1, d ++ [n], by omega, by have := HDK.out; omega, by simp [HDK.out], by go_num, ⟨g2, c2, by simp⟩, HT2.out, HO2.out, HW3.out, HR3.out, HS3.out, HA3.out⟩
          case measure => simp [intOf]; omega
      · have HF : Hid (RF = none) := HNo.out (hTl.out.stop hl.out (oneN_none h8))
        have t8 : (((bs l).size : Int) != 8) = true := by rw [bs_size, bne_iff_ne]; omega
        clear hTl hl h8
        generalize bs l = B at *
        go_wp2_with fail
        go_ret2
        rw [HF.out]
        exact ⟨hw.out, rfl⟩
    · obtain rfl : k = ps.length := by omega
      have hall := hTl.out.done
      have hd256 : d.length ≤ 256 := by have := HDK.out; omega
      have HSd := Lib.hid (HSo.out d hall)
      have LN1 := Lib.hid (LN.out wr hw.out (some ⟨g, 0, none⟩) cp d (rd_of_own hO.out (Nat.le_refl _)) (HLt.out d hall) (by omega))
      rw [if_pos hd256] at LN1
      unfold RetTx at LN1
      simp only [Option.getD_some, Option.isSome_some] at LN1
      clear hTl hall
      by_cases he : ntextL d = sl
      · have HF : Hid (RF = some d) := by rw [Hid, HSd.out, if_pos ⟨hd256, he⟩]
        have t1 : ((bs (ntextL d)).toList == s.toList) = true := by rw [bs_toList, HSl.out, he]; simp
        have t2 : ((bs (ntextL d)).toList != s.toList) = false := by rw [bne, t1]; rfl
        generalize bs (ntextL d) = TX at *
        clear he
        go_wp2_with fail
        refine LN1.out.mono ?_
        rintro e w2 ⟨hb2, rfl⟩
        have hO2 := Lib.hid (own_below hO.out hb2)
        have hw2 := Lib.hid (below_then hw.out hb2)
        clear hb2
        go_wp2_with fail
        go_ret2
        rw [HF.out]
        exact ⟨hw2.out, _, _, rfl, hO2.out⟩
      · have HF : Hid (RF = none) := by rw [Hid, HSd.out, if_neg (fun h => he h.2)]
        have t1 : ((bs (ntextL d)).toList == s.toList) = false := by rw [bs_toList, HSl.out, Bool.eq_false_iff]; intro e; exact he (eq_of_beq e)
        have t2 : ((bs (ntextL d)).toList != s.toList) = true := by rw [bne, t1]; rfl
        generalize bs (ntextL d) = TX at *
        clear he
        go_wp2_with fail
        refine LN1.out.mono ?_
        rintro e w2 ⟨hb2, rfl⟩
        have hw2 := Lib.hid (below_then hw.out hb2)
        clear hb2
        go_wp2_with fail
        go_ret2
        rw [HF.out]
        exact ⟨hw2.out, rfl⟩
end Go.Proofs.YtkbejmjkdnfemaaGreatDoor
