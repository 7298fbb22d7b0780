/-
  Part 27 of what the proof stands on: lemmas and contracts, each with its conditions ahead of the colon.
-/
import Derived.Deep.RegionHeld3
import Derived.Deep.DeepCutAuto
import Derived.Deep.RegionWith
import Derived.Test.YtkbejmjkdnfemaaGreatDoorPk07
import Derived.Test.YtkbejmjkdnfemaaGreatDoorPk14
import Derived.Test.YtkbejmjkdnfemaaGreatDoorPk24
import Derived.Test.YtkbejmjkdnfemaaGreatDoorPk25
import Derived.Test.YtkbejmjkdnfemaaGreatDoorPk26
namespace Go.Proofs.YtkbejmjkdnfemaaGreatDoor
set_option linter.unusedVariables false
set_option linter.unusedSimpArgs false
open Go.RowKit

/-- A desk with a part that was read. -/
def keepGame (r : Int × Int × List Int × List Int × Bool) (d : DD) : Option (DD × List UInt8) := if r.2.2.2.2 then some ({ d with R := r.1, C := r.2.1, A := r.2.2.1, B := r.2.2.2.1 }, okL) else none
def keepCrowd (r : Int × Int × List Int × List Int × Bool) (d : DD) : Option (DD × List UInt8) := if r.2.2.2.2 then some ({ d with U := r.1, N := r.2.1, W := r.2.2.1, K := r.2.2.2.1 }, okL) else none
def keepValues (r : Int × Int × List Int × Bool) (d : DD) : Option (DD × List UInt8) := if r.2.2.2 then some ({ d with P := r.1, T := r.2.1, V := r.2.2.1 }, okL) else none
def gotGame (t : List UInt8) (d : DD) : Ans := some (keepGame (rd2F gameB t) d)
def gotValues (t : List UInt8) (d : DD) : Ans := some (keepValues (rd1F valuesB t) d)
def gotCrowd (t : List UInt8) (d : DD) : Ans := some (keepCrowd (rd2F crowdB2 t) d)
def gotTurns (t : List UInt8) (d : DD) : Ans := some (match numbersF t with | none => none | some ns => some ({ d with F := ns }, okL))
/-- What a list's word tells. -/
def gotList (t : List UInt8) (f : List Int → DD → Option (List UInt8)) (d : DD) : Ans := some (match numsF t with | none => none | some xs => (f xs d).map fun s => (d, s))
theorem numbers_lt {t : List UInt8} {ns : List Nat} (h : numbersF t = some ns) : ∀ y ∈ ns, y < 4294967296 := (numbersF_get h).2.2

set_option maxRecDepth 100000 in
set_option maxHeartbeats 16000000 in
theorem with_game (t : List UInt8) (ht : t.length ≤ 1048576) : WithC wGame t (gotGame t) := by
  intro w b d x lo hlo hlx hE hok hca hB hR0
  try dsimp only
  have hR : DRd w w.heap.size d x := hR0.mono (Nat.le_of_lt hB.lt)
  have hts : (bs t).size ≤ 1048576 := by rw [bs_size]; exact ht
  have htl : (bs t).data.toList = t := bs_list t
  have LG := Lib.hid (readGame_any w hE.tab hE.shp hE.err (bs t) hts)
  rw [htl] at LG
  unfold RetGame at LG
  unfold gotGame
  generalize rd2F gameB t = r at LG ⊢
  obtain ⟨p, q, la, lb, k⟩ := r
  have HB := Lib.hid hB
  have HLX := Lib.hid hlx
  have HLO := Lib.hid hlo
  have HR := Lib.hid hR
  have HR0 := Lib.hid hR0
  clear hlx hlo hB hR hR0 hE hok hca ht hts
  obtain ⟨s, hs⟩ : ∃ s : ByteArray, s = bs wGame := ⟨_, rfl⟩
  have t_game : (s.toList == [103, 97, 109, 101]) = true := by rw [hs, bs_toList]; rfl
  rw [← hs]
  clear hs
  obtain ⟨z, hz⟩ : ∃ z : ByteArray, z = bs t := ⟨_, rfl⟩
  rw [← hz] at LG ⊢
  clear hz htl
  go_enter Tryz.func203, Tryz.ntmps203
  go_wp2_with fail
  refine LG.out.mono ?_
  rintro e w1 ⟨hb, a2, c2, a3, c3, rfl, ho⟩
  obtain ⟨m, hm, o1, o2⟩ := ho
  have KB := HB.out.same hb
  have KT := HR0.out.below hb (Nat.le_of_lt HB.out.lt)
  obtain ⟨y0, y1, y2, y3, y4, y5, y6, y7, y8, y9, y10, y11⟩ := cells12 KB
  have g0 := KB.free 0
  have g1 := KB.free 1
  have g2 := KB.free 2
  have g3 := KB.free 3
  have g4 := KB.free 4
  have g5 := KB.free 5
  have g6 := KB.free 6
  have g7 := KB.free 7
  have g8 := KB.free 8
  have g9 := KB.free 9
  have g10 := KB.free 10
  have g11 := KB.free 11
  have PT := Lib.hid (putGame KB KT p q la a2 c2 lb a3 c3 (rdUp_own o1 HB.out.lt hm.2) (rdUp_own o2 (Nat.lt_of_lt_of_le HB.out.lt hm.1) (Nat.le_refl _)))
  have hbb := Lib.hid hb
  clear KB KT hb o1 o2 hm
  go_wp2_with fail
  go_ret3
  cases k with
  | false => exact PT.out.no hbb.out _
  | true => exact PT.out.yes hbb.out HLO.out HLX.out okL

set_option maxRecDepth 100000 in
set_option maxHeartbeats 16000000 in
theorem with_values (t : List UInt8) (ht : t.length ≤ 1048576) : WithC wValues t (gotValues t) := by
  intro w b d x lo hlo hlx hE hok hca hB hR0
  try dsimp only
  have hR : DRd w w.heap.size d x := hR0.mono (Nat.le_of_lt hB.lt)
  have hts : (bs t).size ≤ 1048576 := by rw [bs_size]; exact ht
  have htl : (bs t).data.toList = t := bs_list t
  have LG := Lib.hid (readValues_any w hE.tab hE.shp hE.err (bs t) hts)
  rw [htl] at LG
  unfold RetValues at LG
  unfold gotValues
  generalize rd1F valuesB t = r at LG ⊢
  obtain ⟨p, q, la, k⟩ := r
  have HB := Lib.hid hB
  have HLX := Lib.hid hlx
  have HLO := Lib.hid hlo
  have HR := Lib.hid hR
  have HR0 := Lib.hid hR0
  clear hlx hlo hB hR hR0 hE hok hca ht hts
  obtain ⟨s, hs⟩ : ∃ s : ByteArray, s = bs wValues := ⟨_, rfl⟩
  have t_game : (s.toList == [103, 97, 109, 101]) = false := by rw [hs, bs_toList]; rfl
  have t_values : (s.toList == [118, 97, 108, 117, 101, 115]) = true := by rw [hs, bs_toList]; rfl
  rw [← hs]
  clear hs
  obtain ⟨z, hz⟩ : ∃ z : ByteArray, z = bs t := ⟨_, rfl⟩
  rw [← hz] at LG ⊢
  clear hz htl
  go_enter Tryz.func203, Tryz.ntmps203
  go_wp2_with fail
  refine LG.out.mono ?_
  rintro e w1 ⟨hb, a2, c2, rfl, ho⟩
  obtain ⟨hm, o1⟩ := ho
  have KB := HB.out.same hb
  have KT := HR0.out.below hb (Nat.le_of_lt HB.out.lt)
  obtain ⟨y0, y1, y2, y3, y4, y5, y6, y7, y8, y9, y10, y11⟩ := cells12 KB
  have g0 := KB.free 0
  have g1 := KB.free 1
  have g2 := KB.free 2
  have g3 := KB.free 3
  have g4 := KB.free 4
  have g5 := KB.free 5
  have g6 := KB.free 6
  have g7 := KB.free 7
  have g8 := KB.free 8
  have g9 := KB.free 9
  have g10 := KB.free 10
  have g11 := KB.free 11
  have PT := Lib.hid (putValues KB KT p q la a2 c2 (rdUp_own o1 HB.out.lt (Nat.le_refl _)))
  have hbb := Lib.hid hb
  clear KB KT hb o1 hm
  go_wp2_with fail
  go_ret3
  cases k with
  | false => exact PT.out.no hbb.out _
  | true => exact PT.out.yes hbb.out HLO.out HLX.out okL

set_option maxRecDepth 100000 in
set_option maxHeartbeats 16000000 in
theorem with_crowd (t : List UInt8) (ht : t.length ≤ 1048576) : WithC wCrowd t (gotCrowd t) := by
  intro w b d x lo hlo hlx hE hok hca hB hR0
  try dsimp only
  have hR : DRd w w.heap.size d x := hR0.mono (Nat.le_of_lt hB.lt)
  have hts : (bs t).size ≤ 1048576 := by rw [bs_size]; exact ht
  have htl : (bs t).data.toList = t := bs_list t
  have LG := Lib.hid (readCrowd_any w hE.tab hE.shp hE.err (bs t) hts)
  rw [htl] at LG
  unfold RetCrowd at LG
  unfold gotCrowd
  generalize rd2F crowdB2 t = r at LG ⊢
  obtain ⟨p, q, la, lb, k⟩ := r
  have HB := Lib.hid hB
  have HLX := Lib.hid hlx
  have HLO := Lib.hid hlo
  have HR := Lib.hid hR
  have HR0 := Lib.hid hR0
  clear hlx hlo hB hR hR0 hE hok hca ht hts
  obtain ⟨s, hs⟩ : ∃ s : ByteArray, s = bs wCrowd := ⟨_, rfl⟩
  have t_game : (s.toList == [103, 97, 109, 101]) = false := by rw [hs, bs_toList]; rfl
  have t_values : (s.toList == [118, 97, 108, 117, 101, 115]) = false := by rw [hs, bs_toList]; rfl
  have t_crowd : (s.toList == [99, 114, 111, 119, 100]) = true := by rw [hs, bs_toList]; rfl
  rw [← hs]
  clear hs
  obtain ⟨z, hz⟩ : ∃ z : ByteArray, z = bs t := ⟨_, rfl⟩
  rw [← hz] at LG ⊢
  clear hz htl
  go_enter Tryz.func203, Tryz.ntmps203
  go_wp2_with fail
  refine LG.out.mono ?_
  rintro e w1 ⟨hb, a2, c2, a3, c3, rfl, ho⟩
  obtain ⟨m, hm, o1, o2⟩ := ho
  have KB := HB.out.same hb
  have KT := HR0.out.below hb (Nat.le_of_lt HB.out.lt)
  obtain ⟨y0, y1, y2, y3, y4, y5, y6, y7, y8, y9, y10, y11⟩ := cells12 KB
  have g0 := KB.free 0
  have g1 := KB.free 1
  have g2 := KB.free 2
  have g3 := KB.free 3
  have g4 := KB.free 4
  have g5 := KB.free 5
  have g6 := KB.free 6
  have g7 := KB.free 7
  have g8 := KB.free 8
  have g9 := KB.free 9
  have g10 := KB.free 10
  have g11 := KB.free 11
  have PT := Lib.hid (putCrowd KB KT p q la a2 c2 lb a3 c3 (rdUp_own o1 HB.out.lt hm.2) (rdUp_own o2 (Nat.lt_of_lt_of_le HB.out.lt hm.1) (Nat.le_refl _)))
  have hbb := Lib.hid hb
  clear KB KT hb o1 o2 hm
  go_wp2_with fail
  go_ret3
  cases k with
  | false => exact PT.out.no hbb.out _
  | true => exact PT.out.yes hbb.out HLO.out HLX.out okL

set_option maxRecDepth 100000 in
set_option maxHeartbeats 16000000 in
theorem with_turns (t : List UInt8) (ht : t.length ≤ 1048576) : WithC wTurns t (gotTurns t) := by
  intro w b d x lo hlo hlx hE hok hca hB hR0
  try dsimp only
  have hR : DRd w w.heap.size d x := hR0.mono (Nat.le_of_lt hB.lt)
  have hts : (bs t).size ≤ 1048576 := by rw [bs_size]; exact ht
  have htl : (bs t).data.toList = t := bs_list t
  have LG := Lib.hid (readNumbers_any w hE.bit hE.shp hE.err (bs t) hts)
  rw [htl] at LG
  unfold RetNF at LG
  unfold gotTurns
  have HN : Hid (∀ ns, numbersF t = some ns → ∀ y ∈ ns, y < 4294967296) := fun ns h => numbers_lt h
  generalize numbersF t = r at LG HN ⊢
  have HB := Lib.hid hB
  have HLX := Lib.hid hlx
  have HLO := Lib.hid hlo
  have HR := Lib.hid hR
  have HR0 := Lib.hid hR0
  clear hlx hlo hB hR hR0 hE hok hca ht hts
  obtain ⟨s, hs⟩ : ∃ s : ByteArray, s = bs wTurns := ⟨_, rfl⟩
  have t_game : (s.toList == [103, 97, 109, 101]) = false := by rw [hs, bs_toList]; rfl
  have t_values : (s.toList == [118, 97, 108, 117, 101, 115]) = false := by rw [hs, bs_toList]; rfl
  have t_crowd : (s.toList == [99, 114, 111, 119, 100]) = false := by rw [hs, bs_toList]; rfl
  have t_turns : (s.toList == [116, 117, 114, 110, 115]) = true := by rw [hs, bs_toList]; rfl
  rw [← hs]
  clear hs
  obtain ⟨z, hz⟩ : ∃ z : ByteArray, z = bs t := ⟨_, rfl⟩
  rw [← hz] at LG ⊢
  clear hz htl
  go_enter Tryz.func203, Tryz.ntmps203
  go_wp2_with fail
  refine LG.out.mono ?_
  cases r with
  | none =>
    rintro e w1 ⟨hb, rfl⟩
    have KB := HB.out.same hb
    have KT := HR0.out.below hb (Nat.le_of_lt HB.out.lt)
    obtain ⟨y0, y1, y2, y3, y4, y5, y6, y7, y8, y9, y10, y11⟩ := cells12 KB
    have g0 := KB.free 0
    have g1 := KB.free 1
    have g2 := KB.free 2
    have g3 := KB.free 3
    have g4 := KB.free 4
    have g5 := KB.free 5
    have g6 := KB.free 6
    have g7 := KB.free 7
    have g8 := KB.free 8
    have g9 := KB.free 9
    have g10 := KB.free 10
    have g11 := KB.free 11
    have PT := Lib.hid (putTurns KB KT [] none 0 (rdUp_nil _ _) (fun y hy => by cases hy))
    have hbb := Lib.hid hb
    rw [List.length_nil] at PT
    clear KB KT hb
    go_wp2_with fail
    go_ret3
    exact PT.out.no hbb.out _
  | some ns =>
    rintro e w1 ⟨hb, a, c, rfl, ho⟩
    have KB := HB.out.same hb
    have KT := HR0.out.below hb (Nat.le_of_lt HB.out.lt)
    obtain ⟨y0, y1, y2, y3, y4, y5, y6, y7, y8, y9, y10, y11⟩ := cells12 KB
    have g0 := KB.free 0
    have g1 := KB.free 1
    have g2 := KB.free 2
    have g3 := KB.free 3
    have g4 := KB.free 4
    have g5 := KB.free 5
    have g6 := KB.free 6
    have g7 := KB.free 7
    have g8 := KB.free 8
    have g9 := KB.free 9
    have g10 := KB.free 10
    have g11 := KB.free 11
    have PT := Lib.hid (putTurns KB KT ns a c (rdUp_ownF (OwnF.of_own ho) HB.out.lt (Nat.le_refl _)) (HN.out ns rfl))
    have hbb := Lib.hid hb
    clear KB KT hb ho
    go_wp2_with fail
    go_ret3
    exact PT.out.yes hbb.out HLO.out HLX.out okL

set_option maxRecDepth 100000 in
set_option maxHeartbeats 16000000 in
theorem with_envy {t : List UInt8} (ht : t.length ≤ 1048576) {f : List Int → DD → Option (List UInt8)} (HF : ∀ xs : List Int, xs.length ≤ 64 → ListC wEnvy xs (f xs)) : WithC wEnvy t (gotList t f) := by
  intro w b d x lo hlo hlx hE hok hca hB hR0
  have hR : DRd w w.heap.size d x := hR0.mono (Nat.le_of_lt hB.lt)
  have hts : (bs t).size ≤ 1048576 := by rw [bs_size]; exact ht
  have htl : (bs t).data.toList = t := bs_list t
  have LG := Lib.hid (readListTop_any w hE.tab hE.shp hE.err (bs t) hts)
  rw [htl] at LG
  unfold RetN at LG
  unfold gotList
  have HN : Hid (∀ ns, numsF t = some ns → ns.length ≤ 64) := fun ns h => numsF_len h
  have LF := Lib.hid (fun (xs : List Int) (hx : xs.length ≤ 64) (w1 : World) (hb : Below w.heap.size w w1) (a : Option Addr) (c : Nat) (h : Rd w1 w1.heap.size a (ints xs)) => HF xs hx w1 b d x a c (hE.to hb) hok (hB.same hb) (hR.to hb) h)
  generalize numsF t = r at LG HN ⊢
  have HB := Lib.hid hB
  have HLX := Lib.hid hlx
  have HLO := Lib.hid hlo
  have HR := Lib.hid hR
  clear hlx hlo hB hR hR0 hE hok hca ht hts HF
  obtain ⟨s, hs⟩ : ∃ s : ByteArray, s = bs wEnvy := ⟨_, rfl⟩
  have t_game : (s.toList == [103, 97, 109, 101]) = false := by rw [hs, bs_toList]; rfl
  have t_values : (s.toList == [118, 97, 108, 117, 101, 115]) = false := by rw [hs, bs_toList]; rfl
  have t_crowd : (s.toList == [99, 114, 111, 119, 100]) = false := by rw [hs, bs_toList]; rfl
  have t_turns : (s.toList == [116, 117, 114, 110, 115]) = false := by rw [hs, bs_toList]; rfl
  have t_learn : (s.toList == [108, 101, 97, 114, 110]) = false := by rw [hs, bs_toList]; rfl
  have t_rent : (s.toList == [114, 101, 110, 116]) = false := by rw [hs, bs_toList]; rfl
  have t_take : (s.toList == [116, 97, 107, 101]) = false := by rw [hs, bs_toList]; rfl
  have t_envy : (s.toList == [101, 110, 118, 121]) = true := by rw [hs, bs_toList]; rfl
  rw [← hs] at LF ⊢
  clear hs
  obtain ⟨z, hz⟩ : ∃ z : ByteArray, z = bs t := ⟨_, rfl⟩
  rw [← hz] at LG ⊢
  clear hz htl
  go_enter Tryz.func203, Tryz.ntmps203
  go_wp2_with fail
  refine LG.out.mono ?_
  cases r with
  | none =>
    rintro e w1 ⟨hb, rfl⟩
    have hbb := Lib.hid hb
    clear hb LF
    go_wp2_with fail
    go_ret3
    exact RetAl.no _ (Below.touch hbb.out _ _)
  | some xs =>
    rintro e w1 ⟨hb, g, c, rfl, ho⟩
    have L := Lib.hid (LF.out xs (HN.out xs rfl) w1 hb _ c (rd_of_own ho (Nat.le_refl _)))
    have hbb := Lib.hid hb
    clear hb ho LF HN
    obtain ⟨ft, hft⟩ : ∃ y, y = f xs d := ⟨_, rfl⟩
    rw [← hft] at L
    have HT := Lib.hid hft
    clear hft
    go_wp2_with fail
    refine L.out.mono ?_
    rintro e w2 ⟨hb2, u, rfl, hu⟩
    have HU := Lib.hid hu
    have HB2 := Lib.hid hb2
    clear hu hb2
    go_wp2_with fail
    go_ret3
    have e := HT.out
    subst e
    exact RetAl.textN (f xs d) (below_then hbb.out HB2.out) HB.out HR.out HLX.out HU.out

set_option maxRecDepth 100000 in
set_option maxHeartbeats 16000000 in
theorem with_rest {t : List UInt8} (ht : t.length ≤ 1048576) {f : List Int → DD → Option (List UInt8)} (HF : ∀ xs : List Int, xs.length ≤ 64 → ListC wRest xs (f xs)) : WithC wRest t (gotList t f) := by
  intro w b d x lo hlo hlx hE hok hca hB hR0
  have hR : DRd w w.heap.size d x := hR0.mono (Nat.le_of_lt hB.lt)
  have hts : (bs t).size ≤ 1048576 := by rw [bs_size]; exact ht
  have htl : (bs t).data.toList = t := bs_list t
  have LG := Lib.hid (readListTop_any w hE.tab hE.shp hE.err (bs t) hts)
  rw [htl] at LG
  unfold RetN at LG
  unfold gotList
  have HN : Hid (∀ ns, numsF t = some ns → ns.length ≤ 64) := fun ns h => numsF_len h
  have LF := Lib.hid (fun (xs : List Int) (hx : xs.length ≤ 64) (w1 : World) (hb : Below w.heap.size w w1) (a : Option Addr) (c : Nat) (h : Rd w1 w1.heap.size a (ints xs)) => HF xs hx w1 b d x a c (hE.to hb) hok (hB.same hb) (hR.to hb) h)
  generalize numsF t = r at LG HN ⊢
  have HB := Lib.hid hB
  have HLX := Lib.hid hlx
  have HLO := Lib.hid hlo
  have HR := Lib.hid hR
  clear hlx hlo hB hR hR0 hE hok hca ht hts HF
  obtain ⟨s, hs⟩ : ∃ s : ByteArray, s = bs wRest := ⟨_, rfl⟩
  have t_game : (s.toList == [103, 97, 109, 101]) = false := by rw [hs, bs_toList]; rfl
  have t_values : (s.toList == [118, 97, 108, 117, 101, 115]) = false := by rw [hs, bs_toList]; rfl
  have t_crowd : (s.toList == [99, 114, 111, 119, 100]) = false := by rw [hs, bs_toList]; rfl
  have t_turns : (s.toList == [116, 117, 114, 110, 115]) = false := by rw [hs, bs_toList]; rfl
  have t_learn : (s.toList == [108, 101, 97, 114, 110]) = false := by rw [hs, bs_toList]; rfl
  have t_rent : (s.toList == [114, 101, 110, 116]) = false := by rw [hs, bs_toList]; rfl
  have t_take : (s.toList == [116, 97, 107, 101]) = false := by rw [hs, bs_toList]; rfl
  have t_envy : (s.toList == [101, 110, 118, 121]) = false := by rw [hs, bs_toList]; rfl
  have t_rest : (s.toList == [114, 101, 115, 116]) = true := by rw [hs, bs_toList]; rfl
  rw [← hs] at LF ⊢
  clear hs
  obtain ⟨z, hz⟩ : ∃ z : ByteArray, z = bs t := ⟨_, rfl⟩
  rw [← hz] at LG ⊢
  clear hz htl
  go_enter Tryz.func203, Tryz.ntmps203
  go_wp2_with fail
  refine LG.out.mono ?_
  cases r with
  | none =>
    rintro e w1 ⟨hb, rfl⟩
    have hbb := Lib.hid hb
    clear hb LF
    go_wp2_with fail
    go_ret3
    exact RetAl.no _ (Below.touch hbb.out _ _)
  | some xs =>
    rintro e w1 ⟨hb, g, c, rfl, ho⟩
    have L := Lib.hid (LF.out xs (HN.out xs rfl) w1 hb _ c (rd_of_own ho (Nat.le_refl _)))
    have hbb := Lib.hid hb
    clear hb ho LF HN
    obtain ⟨ft, hft⟩ : ∃ y, y = f xs d := ⟨_, rfl⟩
    rw [← hft] at L
    have HT := Lib.hid hft
    clear hft
    go_wp2_with fail
    refine L.out.mono ?_
    rintro e w2 ⟨hb2, u, rfl, hu⟩
    have HU := Lib.hid hu
    have HB2 := Lib.hid hb2
    clear hu hb2
    go_wp2_with fail
    go_ret3
    have e := HT.out
    subst e
    exact RetAl.textN (f xs d) (below_then hbb.out HB2.out) HB.out HR.out HLX.out HU.out

set_option maxRecDepth 100000 in
set_option maxHeartbeats 16000000 in
theorem with_total {t : List UInt8} (ht : t.length ≤ 1048576) {f : List Int → DD → Option (List UInt8)} (HF : ∀ xs : List Int, xs.length ≤ 64 → ListC wTotal xs (f xs)) : WithC wTotal t (gotList t f) := by
  intro w b d x lo hlo hlx hE hok hca hB hR0
  have hR : DRd w w.heap.size d x := hR0.mono (Nat.le_of_lt hB.lt)
  have hts : (bs t).size ≤ 1048576 := by rw [bs_size]; exact ht
  have htl : (bs t).data.toList = t := bs_list t
  have LG := Lib.hid (readListTop_any w hE.tab hE.shp hE.err (bs t) hts)
  rw [htl] at LG
  unfold RetN at LG
  unfold gotList
  have HN : Hid (∀ ns, numsF t = some ns → ns.length ≤ 64) := fun ns h => numsF_len h
  have LF := Lib.hid (fun (xs : List Int) (hx : xs.length ≤ 64) (w1 : World) (hb : Below w.heap.size w w1) (a : Option Addr) (c : Nat) (h : Rd w1 w1.heap.size a (ints xs)) => HF xs hx w1 b d x a c (hE.to hb) hok (hB.same hb) (hR.to hb) h)
  generalize numsF t = r at LG HN ⊢
  have HB := Lib.hid hB
  have HLX := Lib.hid hlx
  have HLO := Lib.hid hlo
  have HR := Lib.hid hR
  clear hlx hlo hB hR hR0 hE hok hca ht hts HF
  obtain ⟨s, hs⟩ : ∃ s : ByteArray, s = bs wTotal := ⟨_, rfl⟩
  have t_game : (s.toList == [103, 97, 109, 101]) = false := by rw [hs, bs_toList]; rfl
  have t_values : (s.toList == [118, 97, 108, 117, 101, 115]) = false := by rw [hs, bs_toList]; rfl
  have t_crowd : (s.toList == [99, 114, 111, 119, 100]) = false := by rw [hs, bs_toList]; rfl
  have t_turns : (s.toList == [116, 117, 114, 110, 115]) = false := by rw [hs, bs_toList]; rfl
  have t_learn : (s.toList == [108, 101, 97, 114, 110]) = false := by rw [hs, bs_toList]; rfl
  have t_rent : (s.toList == [114, 101, 110, 116]) = false := by rw [hs, bs_toList]; rfl
  have t_take : (s.toList == [116, 97, 107, 101]) = false := by rw [hs, bs_toList]; rfl
  have t_envy : (s.toList == [101, 110, 118, 121]) = false := by rw [hs, bs_toList]; rfl
  have t_rest : (s.toList == [114, 101, 115, 116]) = false := by rw [hs, bs_toList]; rfl
  have t_total : (s.toList == [116, 111, 116, 97, 108]) = true := by rw [hs, bs_toList]; rfl
  rw [← hs] at LF ⊢
  clear hs
  obtain ⟨z, hz⟩ : ∃ z : ByteArray, z = bs t := ⟨_, rfl⟩
  rw [← hz] at LG ⊢
  clear hz htl
  go_enter Tryz.func203, Tryz.ntmps203
  go_wp2_with fail
  refine LG.out.mono ?_
  cases r with
  | none =>
    rintro e w1 ⟨hb, rfl⟩
    have hbb := Lib.hid hb
    clear hb LF
    go_wp2_with fail
    go_ret3
    exact RetAl.no _ (Below.touch hbb.out _ _)
  | some xs =>
    rintro e w1 ⟨hb, g, c, rfl, ho⟩
    have L := Lib.hid (LF.out xs (HN.out xs rfl) w1 hb _ c (rd_of_own ho (Nat.le_refl _)))
    have hbb := Lib.hid hb
    clear hb ho LF HN
    obtain ⟨ft, hft⟩ : ∃ y, y = f xs d := ⟨_, rfl⟩
    rw [← hft] at L
    have HT := Lib.hid hft
    clear hft
    go_wp2_with fail
    refine L.out.mono ?_
    rintro e w2 ⟨hb2, u, rfl, hu⟩
    have HU := Lib.hid hu
    have HB2 := Lib.hid hb2
    clear hu hb2
    go_wp2_with fail
    go_ret3
    have e := HT.out
    subst e
    exact RetAl.textN (f xs d) (below_then hbb.out HB2.out) HB.out HR.out HLX.out HU.out

end Go.Proofs.YtkbejmjkdnfemaaGreatDoor
namespace Go.Proofs.YtkbejmjkdnfemaaGreatDoor
set_option linter.unusedVariables false
set_option linter.unusedSimpArgs false
open Go.RowKit

theorem rd_some {w : World} {B : Nat} {a : Option Addr} {v : Value} {vs : List Value} (h : Rd w B a (v :: vs)) : ∃ g o, a = some ⟨g, o, none⟩ ∧ g < B ∧ ∀ j, j < (v :: vs).length → w.cell? ⟨g, o + j, none⟩ = (v :: vs)[j]? := by
  rcases h with h | ⟨g, o, h1, h2, h3⟩
  · cases h
  · exact ⟨g, o, h1, h2, h3⟩
theorem RetAl.drew {lo b : Nat} {w w' : World} {r : Ans} {e : Ending} (h : RetAl lo b w.drew r e w') : RetAl lo b w r e w' := ⟨⟨h.1.os, h.1.tape, h.1.output, h.1.size, h.1.block⟩, h.2⟩
theorem RetAl.form {lo b : Nat} {w w' : World} {r : Ans} {e : Ending} (h : RetAl lo b w r e w') : ∃ (t : ByteArray) (k1 k2 : Bool), e = .returned (.tuple #[.string t, .bool k1, .bool k2]) ∧ RetAl lo b w r (.returned (.tuple #[.string t, .bool k1, .bool k2])) w' := by
  obtain ⟨ht, h⟩ := h
  rcases r with _ | _ | ⟨d', t'⟩
  · obtain ⟨t, k, e⟩ := h; subst e; exact ⟨_, _, _, rfl, ht, _, _, rfl⟩
  · obtain ⟨t, e⟩ := h; subst e; exact ⟨_, _, _, rfl, ht, _, rfl⟩
  · obtain ⟨e, h⟩ := h; subst e; exact ⟨_, _, _, rfl, ht, rfl, h⟩
/-- The same, told by the values that come back. -/
def RetAk (lo b : Nat) (w : World) (r : Ans) (e : Ending) (w' : World) : Prop := ∃ (t : ByteArray) (k1 k2 : Bool), e = .returned (.tuple #[.string t, .bool k1, .bool k2]) ∧ Hid (RetAl lo b w r (.returned (.tuple #[.string t, .bool k1, .bool k2])) w')
set_option maxRecDepth 100000 in
set_option maxHeartbeats 16000000 in
theorem carry_one {s : List UInt8} {f : DD → Ans} (HA : AloneC s f) : CarryC [s] f := by
  intro w b d x lo a c hlo hlx hE hok hca hB hR ha
  have L : Hid (Calls Tryz.prog 202 #[.pointer (some ⟨b, 0, none⟩), .string (bs s)] w (RetAk lo b w (f d))) := (HA w b d x lo hlo hlx hE hok hca hB hR).mono fun e w' h => h.form
  obtain ⟨g, o, rfl, hg, hc⟩ := rd_some (show Rd w w.heap.size a (.string (bs s) :: []) from ha)
  have z : w.cell? ⟨g, o, none⟩ = some (.string (bs s)) := hc 0 (by simp)
  clear hlo hlx hc hE hok hca hB hR ha HA
  generalize f d = r at L ⊢
  generalize bs s = t at L z
  simp only [List.length_cons, List.length_nil, Nat.zero_add]
  go_enter Tryz.func138, Tryz.ntmps138
  go_wp2_with fail
  refine L.out.mono ?_
  rintro e w1 ⟨t, k1, k2, rfl, h⟩
  go_wp2_with fail
  go_ret3
  exact h.out
set_option maxRecDepth 100000 in
set_option maxHeartbeats 16000000 in
theorem carry_two {s t : List UInt8} {f : DD → Ans} (HW : WithC s t f) : CarryC [s, t] f := by
  intro w b d x lo a c hlo hlx hE hok hca hB hR ha
  have L : Hid (Calls Tryz.prog 203 #[.pointer (some ⟨b, 0, none⟩), .string (bs s), .string (bs t)] w.drew (fun e w' => ∃ (t : ByteArray) (k1 k2 : Bool), e = .returned (.tuple #[.string t, .bool k1, .bool k2]) ∧ Hid (RetAl lo b w.drew (f d) (.returned (.tuple #[.string t, .bool k1, .bool k2])) w'))) := (HW w.drew b d x lo hlo hlx (hE.to (below_drew' (Below.refl _ _))) hok hca (hB.same (below_drew' (Below.refl _ _))) (hR.below (below_drew' (Below.refl _ _)) (Nat.le_of_lt hB.lt))).mono fun e w' h => h.form
  obtain ⟨g, o, rfl, hg, hc⟩ := rd_some (show Rd w w.heap.size a (.string (bs s) :: .string (bs t) :: []) from ha)
  have z : w.cell? ⟨g, o, none⟩ = some (.string (bs s)) := hc 0 (by simp)
  have y : w.cell? ⟨g, o + 1, none⟩ = some (.string (bs t)) := hc 1 (by simp)
  clear hlo hlx hc hE hok hca hB hR ha HW
  generalize f d = r at L ⊢
  generalize bs s = sb at L z
  generalize bs t = tb at L y
  simp only [List.length_cons, List.length_nil, Nat.zero_add]
  go_enter Tryz.func138, Tryz.ntmps138
  go_upto_region 4 with fail
  go_region_law (go_simp; refine L.out.mono ?_; rintro e w1 ⟨t, k1, k2, rfl, h⟩; dsimp only)
  all_goals
    go_simp
    rename_i hK
    refine hK _ _ ?_
    clear L y z
    go_wp2_with fail
    go_ret3
    exact RetAl.drew h.out
end Go.Proofs.YtkbejmjkdnfemaaGreatDoor
