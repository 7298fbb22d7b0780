/-
  Pieces of a text: the reference's road.
-/
import Derived.Test.YtiimhpopcgiejaaDoorStr
import Derived.Outline
namespace Go.Proofs.YtiimhpopcgiejaaDoor
set_option linter.unusedVariables false
set_option linter.unusedSimpArgs false
open Go.RowKit

theorem info_str : (Tryd.prog.info? 9).map (fun i => (i.zero, i.size, i.bytes)) = some (some (.string ByteArray.empty), 1, 16) := by kernel_rfl
theorem beq_byte (a b : UInt8) : ((a.toNat : Int) == (b.toNat : Int)) = decide (a = b) := by
  rw [Bool.eq_iff_iff, beq_iff_eq, decide_eq_true_eq]
  constructor
  · intro h; exact UInt8.toNat_inj.1 (by omega)
  · intro h; rw [h]
set_option maxRecDepth 10000 in
set_option maxHeartbeats 4000000 in
theorem l01Cut_any (w : World) (s : ByteArray) (c : UInt8) (hs : s.size ≤ 1048576) :
    Calls Tryd.prog 74 #[.string s, .int .u8 c.toNat] w fun e w' => ∃ a cp, e = .returned (.slice a (cutL c s.data.toList).length cp) ∧ w'.ownsRow w.heap.size 9 1 (.slice a (cutL c s.data.toList).length cp) (cutL c s.data.toList).length (strs (cutL c s.data.toList)) ∧ Below w.heap.size w w' := by
  obtain ⟨l, hl⟩ : ∃ l, l = s.data.toList := ⟨_, rfl⟩
  have hsz : s.size = l.length := by rw [hl]; exact Lib.size_eq s
  have Hsz := Lib.hid hsz
  have HSP := Lib.hid (cutN_spec c l)
  have HALL := Lib.hid (cutN_all c l)
  have HLN := Lib.hid (cutN_len c l)
  have HST : Hid (∀ k, cutN c l (k + 1) = if l[k]? = some c then ((cutN c l k).1 ++ [(l.take k).drop (cutN c l k).2], k + 1) else cutN c l k) := fun k => rfl
  have HEX : Hid (∀ a b, s.extract a b = bs ((l.take b).drop a)) := fun a b => by rw [hl]; exact extract_bs s a b
  have HGET : Hid (∀ k (hk : k < s.size), l[k]? = some s[k]) := fun k hk => by
    have hk2 : k < s.data.toList.length := by rw [← Lib.size_eq]; exact hk
    rw [hl, List.getElem?_eq_getElem hk2]; rfl
  have HS := Lib.hid hs
  rw [← hl]
  have HC0 : Hid (cutN c l 0 = ([], 0)) := rfl
  generalize hcn : cutN c l = cn at *
  generalize hct : cutL c l = ct at *
  clear hl hsz hcn hct
  go_enter Tryd.func74, Tryd.ntmps74
  go_wp2_with fail
  go_loopw [5, 6, 7] (fun v fv iv wr => ∃ (k : Nat) (d : List (List UInt8)) (f : Nat), k ≤ s.size + 1 ∧ iv = .int .i64 k ∧ fv = .int .i64 f ∧ Hid ((k ≤ s.size ∧ (d, f) = cn k) ∨ (k = s.size + 1 ∧ d = ct)) ∧ Hid (wr.ownsRow w.heap.size 9 1 v d.length (strs d)) ∧ Below w.heap.size w wr) (fun _ _ iv _ => s.size + 1 - (intOf iv).toNat)
  case atStart => exact ⟨0, [], 0, Nat.zero_le _, rfl, rfl, .inl ⟨Nat.zero_le _, HC0.out.symm⟩, own_empty w _, bl1 _ _⟩
  case round =>
    obtain ⟨k, d, f, hk, rfl, rfl, hst, hO, hw⟩ := hrel
    have hws := hw.size
    have k0 : (0 : Int) ≤ (k : Int) := Int.natCast_nonneg _
    have f0 : (0 : Int) ≤ (f : Int) := Int.natCast_nonneg _
    by_cases hlt : k < s.size
    · have hst2 : (d, f) = cn k := by rcases hst.out with h | h; exact h.2; omega
      have h2 := (HSP.out k (by have := Hsz.out; omega)).1
      have h3 := HLN.out k
      have h4 := HST.out k
      rw [← hst2] at h2 h3 h4
      simp only at h2 h3 h4
      have hg := HGET.out k hlt
      rw [hg] at h4
      have hne : ((k : Int) == (s.size : Int)) = false := by simp; omega
      have hks : (k : Int) < (s.size : Int) := by omega
      have fk : (f : Int) ≤ (k : Int) := by omega
      have hd2 : d.length ≤ 1099511627776 := by omega
      by_cases hc : s[k] = c
      · have hb : ((s[k].toNat : Int) == (c.toNat : Int)) = true := by rw [beq_byte]; exact decide_eq_true hc
        rw [hc, if_pos rfl] at h4
        have HN : Hid (k + 1 ≤ s.size ∧ (d ++ [(l.take k).drop f], k + 1) = cn (k + 1)) := ⟨by omega, h4.symm⟩
        have HE := Lib.hid (HEX.out f k)
        generalize (l.take k).drop f = pc at *
        have hO' := hO.out
        clear hO hst hst2 h4 hg hc
        go_wp2_with (at_builtin; refine wpList_append_one _ rfl _ _ 22 rfl w.heap.size 9 (.string ByteArray.empty) 16 Tryd.underlying22 info_str rfl _ d.length _ rfl hO' (.string (s.extract f k)) rfl rfl (by omega) hd2 hws ?_)
        intro v' w' ho hgr
        have HO2 : Hid (w'.ownsRow w.heap.size 9 1 v' (d ++ [pc]).length (strs (d ++ [pc]))) := by
          rw [HE.out] at ho
          rw [Hid, List.length_append, List.length_singleton, strs_append]; exact ho
        have hw2 := below_append hw hO' hgr (Nat.le_refl _) hws
        clear ho hgr hO' hw
        go_wp2_with fail
        go_roundw
        case rel => exact ⟨k + 1, d ++ [pc], k + 1, by omega, by go_num, by go_num, .inl HN.out, HO2, hw2⟩
        case measure => first | (simp [intOf]; done) | (simp [intOf]; omega)
      · have hb : ((s[k].toNat : Int) == (c.toNat : Int)) = false := by rw [beq_byte]; exact decide_eq_false hc
        rw [if_neg (fun e => hc (Option.some.inj e))] at h4
        have HN : Hid (k + 1 ≤ s.size ∧ (d, f) = cn (k + 1)) := ⟨by omega, hst2.trans (by rw [h4, hst2])⟩
        clear hst hst2 h4 hg hc
        go_wp2_with fail
        go_roundw
        case rel => exact ⟨k + 1, d, f, by omega, by go_num, rfl, .inl HN.out, hO.out, hw⟩
        case measure => first | (simp [intOf]; done) | (simp [intOf]; omega)
    · by_cases hke : k = s.size
      · subst hke
        have hst2 : (d, f) = cn s.size := by rcases hst.out with h | h; exact h.2; omega
        have h2 := (HSP.out s.size (by have := Hsz.out; omega)).1
        have h3 := HLN.out s.size
        have h4 := HALL.out
        rw [← Hsz.out, ← hst2] at h4
        rw [← hst2] at h2 h3
        simp only at h2 h3 h4
        have fk : (f : Int) ≤ (s.size : Int) := by omega
        have hd2 : d.length ≤ 1099511627776 := by omega
        have HE := Lib.hid (HEX.out f s.size)
        rw [Hsz.out, List.take_length, ← Hsz.out] at HE
        have HN : Hid (d ++ [l.drop f] = ct) := h4.symm
        generalize l.drop f = pc at *
        have hO' := hO.out
        clear hO hst hst2 h4
        go_wp2_with (at_builtin; refine wpList_append_one _ rfl _ _ 22 rfl w.heap.size 9 (.string ByteArray.empty) 16 Tryd.underlying22 info_str rfl _ d.length _ rfl hO' (.string (s.extract f s.size)) rfl rfl (by omega) hd2 hws ?_)
        intro v' w' ho hgr
        have HO2 : Hid (w'.ownsRow w.heap.size 9 1 v' (d ++ [pc]).length (strs (d ++ [pc]))) := by
          rw [HE.out] at ho
          rw [Hid, List.length_append, List.length_singleton, strs_append]; exact ho
        have hw2 := below_append hw hO' hgr (Nat.le_refl _) hws
        clear ho hgr hO' hw
        go_wp2_with fail
        go_roundw
        case rel => exact ⟨s.size + 1, d ++ [pc], s.size + 1, by omega, by go_num, by go_num, .inr ⟨rfl, HN.out⟩, HO2, hw2⟩
        case measure => first | (simp [intOf]; done) | (simp [intOf]; omega)
      · have hkk : k = s.size + 1 := by omega
        subst hkk
        have e : d = ct := by rcases hst.out with h | h; omega; exact h.2
        subst e
        have hO' := hO.out
        obtain ⟨a, cp, rfl, _, _⟩ := own_shape hO'
        have HO := Lib.hid hO'
        have e0 : Hid (((s.size + 1 : Nat) : Int) = (s.size : Int) + 1) := by show _ = _; omega
        rw [e0.out]
        clear hst hO hO'
        go_wp2_with fail
        go_ret
        exact ⟨a, cp, rfl, HO.out, hw⟩
end Go.Proofs.YtiimhpopcgiejaaDoor
