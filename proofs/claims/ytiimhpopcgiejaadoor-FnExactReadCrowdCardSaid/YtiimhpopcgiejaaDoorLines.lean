/-
  Lines of a text; how many are errors: both roads.
-/
import Derived.Test.YtiimhpopcgiejaaDoorCut
import Derived.Test.YtiimhpopcgiejaaDoorShelf
import Derived.Test.YtiimhpopcgiejaaDoorLater
namespace Go.Proofs.YtiimhpopcgiejaaDoor
set_option linter.unusedVariables false
set_option linter.unusedSimpArgs false
open Go.RowKit

def linesL (l : List UInt8) : List (List UInt8) := (cutN 10 l l.length).1
def restL (l : List UInt8) : List UInt8 := l.drop (cutN 10 l l.length).2
theorem cut_lines (l : List UInt8) : cutL 10 l = linesL l ++ [restL l] := cutN_all 10 l
theorem linesL_len (l : List UInt8) : (linesL l).length ≤ l.length := cutN_len 10 l l.length
def isBad (x : List UInt8) : Bool := decide (x = [110, 111]) || decide (x = [119, 104, 97, 116])
def badN (xs : List (List UInt8)) (k : Nat) : Nat := ((xs.take k).filter isBad).length
theorem badN_succ {xs : List (List UInt8)} {k : Nat} {x : List UInt8} (h : xs[k]? = some x) : badN xs (k + 1) = badN xs k + if isBad x then 1 else 0 := by
  unfold badN
  rw [List.take_add_one, h, List.filter_append, List.length_append]
  cases hb : isBad x <;> simp [hb]
theorem badN_le (xs : List (List UInt8)) (k : Nat) : badN xs k ≤ k := Nat.le_trans (List.length_filter_le _ _) (by simp; omega)
theorem strs_at {xs : List (List UInt8)} {k : Nat} {v : Value} (h : (strs xs)[k]? = some v) : ∃ l, xs[k]? = some l ∧ v = .string (bs l) := by
  unfold strs at h
  rw [List.getElem?_map] at h
  cases hx : xs[k]? with
  | none => rw [hx] at h; cases h
  | some l => rw [hx] at h; injection h with h; exact ⟨l, rfl, h.symm⟩
theorem maxLen_cell (W : World) (h : W.ShapedOpen Tryd.prog) : ∃ m, W.cell? ⟨0, 0, none⟩ = some (.int .i64 m) := Tryd.laysM146.s1_3 W h
/-- The library's bound is there. -/
def Shp (w : World) : Prop := ∃ m, w.cell? ⟨0, 0, none⟩ = some (.int .i64 m)
theorem Shp.lt {w : World} (h : Shp w) : 0 < w.heap.size := by obtain ⟨m, hm⟩ := h; exact World.block_lt_of_cell? w _ hm
theorem Shp.to {w w' : World} (h : Shp w) (hb : Below w.heap.size w w') : Shp w' := by
  have hl := h.lt
  obtain ⟨m, hm⟩ := h
  exact ⟨m, (hb.cell (p := ⟨0, 0, none⟩) hl).trans hm⟩
theorem split_any (w : World) (h : Shp w) (s : ByteArray) (hs : s.size ≤ 1048576) (c : UInt8) (sep : ByteArray) (hc : sep.data.toList = [c]) :
    Calls Tryd.prog 63 #[.string s, .string sep] w fun e w' => e = .returned (.slice (some ⟨w.heap.size, 0, none⟩) (cutL c s.data.toList).length (cutL c s.data.toList).length) ∧ Blk w' w.heap.size (strs (cutL c s.data.toList)) 9 ∧ Below w.heap.size w w' := by
  obtain ⟨m, hm⟩ := h
  refine (Tryd.strings_Split s sep m w (by omega) hm (by rw [Lib.size_eq, hc]; exact Nat.le_refl _)).mono ?_
  rintro e w' ⟨rfl, rfl⟩
  rw [countB_cut hc, splitB_strs hc]
  exact ⟨rfl, Blk.new w _ _, bl1 _ _⟩
/-- Lines and what is left behind them. -/
def RetLr (w : World) (ls : List (List UInt8)) (rs : List UInt8) (e : Ending) (w' : World) : Prop := ∃ a c, e = .returned (.tuple #[.slice a ls.length c, .string (bs rs)]) ∧ Rd w' w'.heap.size a (strs ls) ∧ Below w.heap.size w w'
set_option maxRecDepth 10000 in
set_option maxHeartbeats 4000000 in
theorem l08Lines_any (w : World) (s : ByteArray) (hs : s.size ≤ 1048576) :
    Calls Tryd.prog 58 #[.string s] w (RetLr w (linesL s.data.toList) (restL s.data.toList)) := by
  have LS := Lib.hid (l01Cut_any w s 10 hs)
  rw [cut_lines] at LS
  obtain ⟨l, hl⟩ : ∃ l, l = s.data.toList := ⟨_, rfl⟩
  have hsz : s.size = l.length := by rw [hl]; exact Lib.size_eq s
  rw [← hl] at LS ⊢
  have hlen := linesL_len l
  generalize linesL l = ls at *
  generalize restL l = rs at *
  rw [List.length_append, List.length_singleton] at LS
  rw [hsz] at hs
  clear hsz hl
  go_enter Tryd.func58, Tryd.ntmps58
  go_wp2_with fail
  refine LS.out.mono ?_
  rintro e w1 ⟨a, cp, rfl, ho, hw⟩
  have hcap : ls.length + 1 ≤ cp := by
    obtain ⟨_, _, e, hh, _⟩ := own_shape ho
    injection e with _ _ e3; omega
  have hrd := rd_of_own ho (Nat.le_refl _)
  obtain ⟨b, o, v, e9, hb, hc, hv⟩ := hrd.getV (k := ls.length) (by rw [strs_length]; simp)
  have ev : v = .string (bs rs) := by
    have := hv.out
    rw [strs_append, List.getElem?_append_right (by simp), strs_length, Nat.sub_self] at this
    simp [strs] at this
    exact this.symm
  subst ev
  have F : ∀ z : Later w1, z.w'.cell? ⟨b, o + ls.length, none⟩ = some (.string (bs rs)) := fun z => z.cell hb hc
  have HRD : Hid (∀ z : Later w1, Rd z.w' z.w'.heap.size a (strs ls)) := fun z => by
    have := hrd.to z.h
    rcases this with h | ⟨b', o', ha, hb', hc'⟩
    · simp [strs] at h
    · refine .inr ⟨b', o', ha, hb', fun j hj => ?_⟩
      rw [hc' j (by rw [strs_append, List.length_append]; omega), strs_append, List.getElem?_append_left hj]
  have HW := Lib.hid hw
  have n0 : (0 : Int) ≤ (ls.length : Int) := Int.natCast_nonneg _
  have n1 : (ls.length : Int) ≤ (cp : Int) := by omega
  have n2 : IntKind.i64.wrap ((ls.length : Int) + 1 - 1) = (ls.length : Int) := by rw [IntWalk.i64_in _ (by omega)]; omega
  subst e9
  clear ho hrd hw hv hc
  go_wp2_with fail
  refine wp_region_later (by kernel_rfl) (by kernel_rfl) ?_
  repeat (go_big_quiet_step (fail))
  refine wpQuiet_nil ?_
  rintro wq ⟨⟨_, hbq⟩, rfl⟩
  have HR := Lib.hid (HRD.out ⟨wq, hbq⟩)
  clear F HRD n2
  go_wp2_with fail
  go_ret2
  exact ⟨_, _, rfl, HR.out, below_then HW.out hbq⟩
end Go.Proofs.YtiimhpopcgiejaaDoor
