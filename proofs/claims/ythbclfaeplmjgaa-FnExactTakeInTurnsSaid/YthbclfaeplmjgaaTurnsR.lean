/-
  TakeInTurns of the reference.
-/
import Derived.Test.YthbclfaeplmjgaaAllR
import Derived.Test.YthbclfaeplmjgaaTurns
import Derived.RegionTactic
import Derived.BigRegion
namespace Go.Proofs.Ythbclfaeplmjgaa
set_option linter.unusedVariables false
set_option linter.unusedSimpArgs false
open Go.RowKit

theorem insAll_order : ∀ (k : Nat), ∀ o ∈ insAll k, orderB o k = true
  | 0, o, h => by simp [insAll] at h; subst h; rfl
  | k + 1, o, h => by
    have hl := insAll_len (k + 1) o h
    rw [insAll_succ, List.mem_flatMap] at h
    obtain ⟨p, hp, hq⟩ := h
    obtain ⟨i, hi, rfl⟩ := List.mem_map.1 hq
    obtain ⟨h1, h2, h3⟩ := orderB_iff.1 (insAll_order k p hp)
    have hperm : (insRow k p i).Perm ((k : Int) :: p) := by
      have : insRow k p i = p.take i ++ (k : Int) :: p.drop i := by simp [insRow]
      rw [this]
      refine List.perm_middle.trans ?_
      rw [List.take_append_drop]
    refine orderB_iff.2 ⟨fun x hx => ?_, ?_, hl⟩
    · rcases List.mem_cons.1 (hperm.mem_iff.1 hx) with rfl | hx
      · omega
      · have := h1 x hx; omega
    · rw [hperm.nodup_iff, List.nodup_cons]
      refine ⟨fun hk => ?_, h2⟩
      have := h1 _ hk; omega
theorem turnsF_ins {xs : List Int} {e : Int} (h : claimsB xs e = true) (h6 : xs.length ≤ 6) : turnsF xs e = some (sumT xs e (insAll xs.length), ((insAll xs.length).length : Int)) := by
  have hp := insAll_perm xs.length h6
  unfold turnsF
  rw [h, decide_eq_true h6, sumT_perm hp, hp.length_eq]
  rfl
theorem turnsF_no {xs : List Int} {e : Int} (h : (claimsB xs e && decide (xs.length ≤ 6)) = false) : turnsF xs e = none := by
  unfold turnsF; rw [h]; rfl
set_option maxRecDepth 10000 in
set_option maxHeartbeats 8000000 in
theorem turnsR_any (w : World) (a : Option Addr) (c : Nat) (xs : List Int) (e : Int) (h : Rd w w.heap.size a (ints xs)) (hl : xs.length ≤ 1152921504606846976) :
    Calls Try.prog 23 #[.slice a xs.length c, .int .i64 e] w (RetT 2 w (turnsF xs e)) := by
  have LC := Lib.hid (l07Claims_any w a c xs e h hl)
  cases t1 : claimsB xs e with
  | false =>
    rw [turnsF_no (by rw [t1]; rfl)]
    rw [t1] at LC
    clear h
    go_enter Try.func23, Try.ntmps23
    go_wp2_with fail
    refine LC.out.mono ?_
    rintro e' w1 ⟨rfl, rfl⟩
    go_wp2_with fail
    go_ret3
    exact RetT.no (Below.refl _ _)
  | true =>
    rw [t1] at LC
    by_cases h6 : xs.length ≤ 6
    case neg =>
      rw [turnsF_no (by rw [t1, decide_eq_false h6]; rfl)]
      clear h
      go_enter Try.func23, Try.ntmps23
      go_wp2_with fail
      refine LC.out.mono ?_
      rintro e' w1 ⟨rfl, rfl⟩
      go_wp2_with fail
      go_ret3
      exact RetT.no (Below.refl _ _)
    rw [turnsF_ins t1 h6]
    have hM := insAll_length xs.length h6
    have LA := Lib.hid (l07All_any w xs.length h6)
    have LT := Lib.hid (fun (w' : World) (os : List Int) (ao : Option Addr) (co : Nat) (hb : Below w.heap.size w w') (hr : Rd w' w'.heap.size ao (ints os)) (ho : orderB os xs.length = true) => l07Take_any w' w'.heap.size w'.heap.size a ao c co xs os e (h.to hb) hr (Nat.le_refl _) (Nat.le_refl _) t1 ho)
    have Hord := Lib.hid (insAll_order xs.length)
    have Hlen := Lib.hid (insAll_len xs.length)
    have Hz : Hid (sumT xs e [] = List.replicate xs.length 0) := rfl
    have Hsl := Lib.hid (fun os => sumT_len xs e os)
    have Hbd := Lib.hid (fun os j => sumT_bd t1 os j)
    have Htl := Lib.hid (fun os => takeF_len xs os e)
    have Htd := Lib.hid (fun os j => takeF_bd (os := os) t1 j)
    have Hag := Lib.hid (fun os p j => addL_getD (a := sumT xs e os) (b := takeF xs p e) (by rw [sumT_len, takeF_len]) j)
    have Hsn := Lib.hid (fun os p => sumT_snoc xs e os p)
    clear h hl t1
    generalize insAll xs.length = os at *
    go_enter Try.func23, Try.ntmps23
    go_wp2_with fail
    refine LC.out.mono ?_
    rintro e' w1 ⟨rfl, rfl⟩
    go_wp2_with fail
    refine LA.out.mono ?_
    rintro e' w2 ⟨a2, c2, rfl, hO, hb2⟩
    have HO := Lib.hid hO
    have hs2 := hb2.size
    clear hO LA LC
    go_wp2_with (at_make; refine wpList_make_blk _ rfl _ _ 22 rfl 2 (.int .i64 0) 8 Try.underlying22 info_i64A rfl _ _ xs.length rfl rfl (by omega) (by unfold maxLen; omega) ?_)
    intro w3 hb3 hw3 hs3
    rw [ints_replicate, ← Hz.out] at hb3
    have HO3 := Lib.hid (HO.out.keep hw3)
    have hbw3 := hb2.trans (hw3.mono hs2)
    clear hw3 HO
    go_wp2_with fail
    go_loopw [29] (fun ii wr => ∃ i : Nat, i ≤ os.length ∧ ii = .int .i64 i ∧ Hid (Blk wr w2.heap.size (ints (sumT xs e (os.take i))) 2) ∧ Hid (OwnLL 2 22 wr w.heap.size w2.heap.size a2 c2 os) ∧ Below w.heap.size w wr ∧ w2.heap.size < wr.heap.size) (fun ii _ => os.length - (intOf ii).toNat)
    case atStart => exact ⟨0, Nat.zero_le _, rfl, hb3, HO3.out, hbw3, hb3.lt⟩
    case round =>
      clear hb3 HO3 hbw3 hs3
      obtain ⟨i, hi, rfl, hb, hO, hw, hsz⟩ := hrel
      obtain ⟨wm, rfl⟩ : ∃ wm : World, wm = wr := ⟨_, rfl⟩
      by_cases hlt : i < os.length
      · obtain ⟨ys, hys⟩ : ∃ ys, os[i]? = some ys := ⟨os[i], List.getElem?_eq_getElem hlt⟩
        obtain ⟨b, o, ys', a', c', rfl, hbb, hcell, hc1, hr1, hy1⟩ := hO.out.rd.get hlt
        have : ys' = ys := by have := hy1.out.symm.trans hys; injection this
        subst this
        have hmem := List.mem_of_getElem? hys
        have LT1 := Lib.hid (LT.out wm ys' a' c' hw (hr1.mono (by omega)) (Hord.out _ hmem))
        have hbw := hw
        have Hys := Lib.hid hys
        have Hhr := Lib.hid hr1
        clear hys hr1 hy1 hmem
        go_wp2_with fail
        refine LT1.out.mono ?_
        rintro e' w5 ⟨a5, c5, rfl, o5, hb5⟩
        have hB5 := Lib.hid (hb.out.same hb5)
        have hO5 := Lib.hid (hO.out.keep hb5)
        have hw5 := hw.trans (hb5.mono hw.size)
        have hr5 := Lib.hid o5.rd
        have hlo5 : Hid (∀ x, a5 = some x → wm.heap.size ≤ x.block) := fun x hx => (o5.1.lt x.block (by rw [hx]; rfl)).1
        have hsz5 := Nat.lt_of_lt_of_le hsz hb5.size
        have Hn : Hid (sumT xs e (os.take (i + 1)) = addL (sumT xs e (os.take i)) (takeF xs ys' e)) := by
          show _ = _
          rw [List.take_add_one, Hys.out]
          exact Hsn.out _ _
        have hil : Hid (((os.take i).length : Int) ≤ 720) := by show _ ≤ _; simp; omega
        have Hsl1 := Lib.hid (Hsl.out (os.take i))
        have Hsl2 := Lib.hid (Hsl.out (os.take (i + 1)))
        have Hag1 := Lib.hid (Hag.out (os.take i) ys')
        have Hbd1 := Lib.hid (Hbd.out (os.take i))
        have Htl1 := Lib.hid (Htl.out ys')
        have Htd1 := Lib.hid (Htd.out ys')
        clear LT1 hb5 o5 hb hO hcell
        generalize hnw : sumT xs e (os.take (i + 1)) = nw at *
        have Hnw := Lib.hid hnw
        clear hnw
        generalize sumT xs e (os.take i) = od at *
        generalize takeF xs ys' e = tk at *
        obtain ⟨w0, rfl⟩ : ∃ w0 : World, w0 = w5 := ⟨_, rfl⟩
        go_wp2_with fail
        go_loopw [41] (fun kk wj => ∃ k : Nat, k ≤ xs.length ∧ kk = .int .i64 k ∧ Hid (Blk wj w2.heap.size (ints (nw.take k ++ od.drop k)) 2) ∧ Hid (w0.grownBy wj (some w2.heap.size))) (fun kk _ => xs.length - (intOf kk).toNat)
        case atStart => exact ⟨0, Nat.zero_le _, rfl, (by rw [List.take_zero, List.drop_zero, List.nil_append]; exact hB5.out), World.grownBy.refl _ _⟩
        case round =>
          obtain ⟨k, hk, rfl, hb, hgr⟩ := hrel
          by_cases hlk : k < xs.length
          · obtain ⟨b3, o3, hax, hbb3, hcell⟩ := hr5.out.at (k := k) (by rw [Htl1.out]; exact hlk)
            subst hax
            have hb3 : wm.heap.size ≤ b3 := hlo5.out _ rfl
            have hck := (World.cell?_of_block (w := w0) (w' := wr) (a := ⟨b3, o3 + k, none⟩) (hgr.out.block b3 hbb3 (by intro e; injection e; omega))).trans (hcell k (by rw [Htl1.out]; exact hlk))
            have hoc := hb.out.cell k
            have hof := hb.out.free k
            have e1 : (ints (nw.take k ++ od.drop k))[k]? = some (.int .i64 (od.getD k 0)) := by
              have hl1 : (nw.take k).length = k := by rw [List.length_take, Hsl2.out]; omega
              have h2 : (nw.take k ++ od.drop k)[k]? = some (od.getD k 0) := by
                rw [List.getElem?_append_right (by omega), hl1, Nat.sub_self, List.getElem?_drop, Nat.add_zero]
                exact get_of_lt (by rw [Hsl1.out]; exact hlk)
              simp only [ints, List.getElem?_map, h2, Option.map_some]
            rw [e1] at hoc
            obtain ⟨b0, b1⟩ := Hbd1.out k
            have b2 := hil.out
            obtain ⟨u0, u1⟩ := Htd1.out k
            have hnv : nw[k]? = some (od.getD k 0 + tk.getD k 0) := by
              rw [get_of_lt (by rw [Hsl2.out]; exact hlk)]
              have := Hag1.out k
              rw [← Hn.out] at this
              rw [this]
            have hset := hb.out.setI k (od.getD k 0 + tk.getD k 0)
            rw [mix_st (by rw [Hsl1.out]; exact hlk) (by rw [Hsl2.out, Hsl1.out]) hnv] at hset
            have HS2 := Lib.hid hset
            have HG2 := Lib.hid (grown_of_grown hgr.out (setc_grown wr w2.heap.size k (.int .i64 (od.getD k 0 + tk.getD k 0))))
            have HG3 : Hid (w0.grownBy (wr.drew.setCell ⟨w2.heap.size, k, none⟩ (.int .i64 (od.getD k 0 + tk.getD k 0))) (some w2.heap.size)) := ⟨HG2.out.os, HG2.out.tape, HG2.out.output, HG2.out.size, HG2.out.block⟩
            have hwr : IntKind.i64.wrap (od.getD k 0 + tk.getD k 0) = od.getD k 0 + tk.getD k 0 := IntWalk.i64_in _ (by omega)
            have Hwr := Lib.hid hwr
            generalize od.getD k 0 = x at *
            generalize tk.getD k 0 = y at *
            have hx1 : x + y ≤ 721000 := by omega
            clear hset hnv e1 hb hgr hcell hwr b2
            go_wp2_with fail
            go_region
            all_goals
              go_wp2_with fail
              go_roundw
              case rel => exact ⟨k + 1, by omega, by go_num, HS2, by first | exact HG2 | exact HG3⟩
              case measure => simp [intOf]; omega
          · have : k = xs.length := by omega
            subst this
            have hbe : nw.take xs.length ++ od.drop xs.length = nw := by rw [List.drop_of_length_le (by rw [Hsl1.out]; exact Nat.le_refl _), List.append_nil, List.take_of_length_le (by rw [Hsl2.out]; exact Nat.le_refl _)]
            have hbo := hb.out
            rw [hbe, ← Hnw.out] at hbo
            have HBO := Lib.hid hbo
            have hg := hgr.out
            have HO6 := Lib.hid (hO5.out.touch (Touch.of_grown hg (Nat.le_refl _) (Nat.lt_succ_self _)) (.inl (Nat.le_refl _)))
            have hw6 := hw5.grown hg (by omega) (fun q hq => by injection hq with hq; omega)
            have hsz6 := Nat.lt_of_lt_of_le hsz5 hg.size
            clear hbe hbo hg hgr hb
            go_wp2_with fail
            go_roundw
            case rel => exact ⟨i + 1, by omega, by go_num, HBO, HO6, hw6, hsz6⟩
            case measure => simp [intOf]; omega
      · have : i = os.length := by omega
        subst this
        have hbo := hb.out
        rw [List.take_length] at hbo
        have HR : Hid (RetT 2 w (some (sumT xs e os, (os.length : Int))) (.returned (.tuple #[.slice (some ⟨w2.heap.size, 0, none⟩) xs.length xs.length, .int .i64 os.length, .bool true])) wm) := by
          refine ⟨hw, some ⟨w2.heap.size, 0, none⟩, xs.length, by simp only [Hsl.out], ?_⟩
          have := hbo.owns (base := w.heap.size) (by omega) (by rw [ints_length, Hsl.out]; unfold maxLen; omega)
          rw [ints_length] at this
          simp only [Hsl.out] at this ⊢
          exact this
        clear hb hbo hO
        go_wp2_with fail
        go_ret3
        exact HR.out
end Go.Proofs.Ythbclfaeplmjgaa
