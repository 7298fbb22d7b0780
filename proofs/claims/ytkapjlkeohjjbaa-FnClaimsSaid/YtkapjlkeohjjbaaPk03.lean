/-
  Part 3 of what the proof stands on: lemmas and contracts, each with its conditions ahead of the colon.
-/
import Derived.Deep.RegionWith
import Derived.StillTailTactics
import Derived.Laws.FloatArith
import Derived.Test.YtkapjlkeohjjbaaPk01
import Derived.Test.YtkapjlkeohjjbaaPk02
namespace Go.Proofs.Ytkapjlkeohjjbaa
set_option linter.unusedVariables false
set_option linter.unusedSimpArgs false
open Go.RowKit

theorem Rd.touchHi {w w' : World} {base : Nat} {a : Option Addr} {vs : List Value} (h : Rd w w.heap.size a vs) (ht : Touch w w' 0 base) (ha : ∀ x, a = some x → base ≤ x.block) : Rd w' w'.heap.size a vs := by
  rcases h with h | ⟨b, o, e, hb, hc⟩
  · exact .inl h
  · have := ha _ e
    exact .inr ⟨b, o, e, Nat.lt_of_lt_of_le hb ht.size, fun j hj => by rw [World.cell?_of_block (w := w) (ht.block b hb (.inr this))]; exact hc j hj⟩
theorem setLow_touch (w : World) {base g : Nat} (hg : g < base) (j : Nat) (u : Value) : Touch w (w.setCell ⟨g, j, none⟩ u) 0 base := Touch.of_grown (setc_grown w g j u) (Nat.zero_le _) hg
theorem addL_getD {a b : List Int} (h : a.length = b.length) (j : Nat) : (addL a b).getD j 0 = a.getD j 0 + b.getD j 0 := by
  simp only [addL, List.getD_eq_getElem?_getD, List.getElem?_zipWith]
  by_cases hj : j < a.length
  · rw [List.getElem?_eq_getElem hj, List.getElem?_eq_getElem (h ▸ hj : j < b.length)]; rfl
  · rw [List.getElem?_eq_none (by omega : a.length ≤ j), List.getElem?_eq_none (by omega : b.length ≤ j)]; rfl
theorem takeF_bd {cs os : List Int} {e : Int} (h : claimsB cs e = true) (j : Nat) : 0 ≤ (takeF cs os e).getD j 0 ∧ (takeF cs os e).getD j 0 ≤ 1000 := by
  obtain ⟨h1, h2, h3, h4⟩ := claimsB_iff.1 h
  have := claims_sum h2
  exact getD_bd ((takeS_bd (os := os) h3 (by omega) h2 os.length).2) (by omega) (by omega) j
theorem sumT_bd {cs : List Int} {e : Int} (h : claimsB cs e = true) (os : List (List Int)) (j : Nat) : 0 ≤ (sumT cs e os).getD j 0 ∧ (sumT cs e os).getD j 0 ≤ 1000 * os.length := by
  have : ∀ (os : List (List Int)) (s : List Int) (m : Int), s.length = cs.length → 0 ≤ s.getD j 0 ∧ s.getD j 0 ≤ m → 0 ≤ (os.foldl (fun s o => addL s (takeF cs o e)) s).getD j 0 ∧ (os.foldl (fun s o => addL s (takeF cs o e)) s).getD j 0 ≤ m + 1000 * os.length := by
    intro os
    induction os with
    | nil => intro s m _ hm; simpa using hm
    | cons o os ih =>
      intro s m hs hm
      have hb := takeF_bd (os := o) h j
      have := ih (addL s (takeF cs o e)) (m + 1000) (by simp only [addL, List.length_zipWith, hs, takeF_len]; omega) (by rw [addL_getD (by rw [hs, takeF_len])]; omega)
      rw [List.foldl_cons, List.length_cons]
      omega
  have := this os (List.replicate cs.length 0) 0 (by simp) (by simp only [List.getD_eq_getElem?_getD, List.getElem?_replicate]; split <;> simp)
  unfold sumT
  omega
theorem mix_st {fo cs : List Int} {k : Nat} {v : Int} (hk : k < cs.length) (hl : fo.length = cs.length) (hv : fo[k]? = some v) : (fo.take k ++ cs.drop k).set k v = fo.take (k + 1) ++ cs.drop (k + 1) := by
  have h1 : (fo.take k).length = k := by simp; omega
  rw [List.set_append_right _ _ (by omega), h1, Nat.sub_self, List.drop_eq_getElem_cons hk, List.set_cons_zero, List.take_add_one, hv]
  simp
def turnsF (xs : List Int) (e : Int) : Option (List Int × Int) := if claimsB xs e && decide (xs.length ≤ 6) then some (sumT xs e (permsU xs.length xs.length []), ((permsU xs.length xs.length []).length : Int)) else none
/-- What holds while orders are taken, one after another. -/
structure TS (W : World) (a : Option Addr) (c : Nat) (xs : List Int) (e : Int) (done : List (List Int)) (w : World) : Prop where
  cl : Blk w W.heap.size [.slice a xs.length c] 24
  es : Blk w (W.heap.size + 1) [.int .i64 e] 2
  ou : Blk w (W.heap.size + 2) (ints (sumT xs e done)) 2
  oh : Blk w (W.heap.size + 3) [.slice (some ⟨W.heap.size + 2, 0, none⟩) xs.length xs.length] 24
  ct : Blk w (W.heap.size + 4) [.int .i64 done.length] 2
  bel : Below W.heap.size W w
theorem enter_turn (args : Array Value) (w : World) : (callFunc 52 args).run Try.prog w = .ok (.enter 52 args) w := by kernel_rfl
set_option maxRecDepth 10000 in
set_option maxHeartbeats 8000000 in
theorem turn_any (W : World) (a : Option Addr) (c : Nat) (xs : List Int) (e : Int) (h0 : Rd W W.heap.size a (ints xs)) (hv : claimsB xs e = true) (done : List (List Int)) (os : List Int) (w : World) (ao : Option Addr) (co : Nat)
    (hs : TS W a c xs e done w) (hord : orderB os xs.length = true) (hM : done.length + 1 ≤ 720) (hsz : W.heap.size + 5 ≤ w.heap.size) (ha : ∀ x, ao = some x → W.heap.size + 5 ≤ x.block) (g : Rd w w.heap.size ao (ints os)) :
    Calls Try.prog 52 #[.slice ao os.length co, .pointer (some ⟨W.heap.size + 4, 0, none⟩), .pointer (some ⟨W.heap.size, 0, none⟩), .pointer (some ⟨W.heap.size + 1, 0, none⟩), .pointer (some ⟨W.heap.size + 3, 0, none⟩)] w
      fun e' w' => e' = .returned (.tuple #[]) ∧ TS W a c xs e (done ++ [os]) w' ∧ Touch w w' 0 (W.heap.size + 5) := by
  have hbel := hs.bel
  have hl8 := (claimsB_iff.1 hv).1.2
  have t1 := setLow_touch w (base := W.heap.size + 5) (g := W.heap.size + 4) (by omega) 0 (.int .i64 (done.length + 1))
  have g1 := g.touchHi t1 ha
  have hb1 : Below W.heap.size W (w.setCell ⟨W.heap.size + 4, 0, none⟩ (.int .i64 (done.length + 1))) := below_sto hbel (by omega) 0 _
  have x1 := (h0.below (C := W.heap.size) hb1 (by omega)).mono (B' := (w.setCell ⟨W.heap.size + 4, 0, none⟩ (.int .i64 (done.length + 1))).heap.size) (by have := hb1.size; omega)
  have LI := Lib.hid (inOrder_any _ _ _ a ao c co xs os e x1 g1 (Nat.le_refl _) (Nat.le_refl _) hv hord)
  have q1 := (hs.cl.oth (g := W.heap.size + 4) (by omega) 0 (.int .i64 (done.length + 1)))
  have q2 := (hs.es.oth (g := W.heap.size + 4) (by omega) 0 (.int .i64 (done.length + 1)))
  have q3 := (hs.ou.oth (g := W.heap.size + 4) (by omega) 0 (.int .i64 (done.length + 1)))
  have q4 := (hs.oh.oth (g := W.heap.size + 4) (by omega) 0 (.int .i64 (done.length + 1)))
  have q5 := hs.ct.set 0 (.int .i64 (done.length + 1))
  simp only [List.set_cons_zero] at q5
  have c5 := hs.ct.cell 0
  have f5 := hs.ct.free 0
  have c1 := q1.cell 0
  have c2 := q2.cell 0
  simp only [List.getElem?_cons_zero] at c5 c1 c2
  have Hbd := Lib.hid (fun j => sumT_bd hv done j)
  have Htd := Lib.hid (fun j => takeF_bd (os := os) hv j)
  have Hsl := Lib.hid (sumT_len xs e done)
  have Htl := Lib.hid (takeF_len xs os e)
  have Hsn := Lib.hid (sumT_snoc xs e done os)
  have Hal := Lib.hid (sumT_len xs e (done ++ [os]))
  have Hdl : Hid (((done ++ [os]).length : Int) = done.length + 1) := by simp [Hid]
  have Hag := Lib.hid (fun j => addL_getD (a := sumT xs e done) (b := takeF xs os e) (by rw [sumT_len, takeF_len]) j)
  generalize hnw : sumT xs e (done ++ [os]) = nw at *
  have Hnw := Lib.hid hnw
  clear hnw
  generalize sumT xs e done = od at *
  generalize takeF xs os e = tk at *
  generalize done.length = dl at *
  have Hs := Lib.hid hs
  clear hs g g1 h0 x1 hv hord hbel ha
  go_enter Try.func52, Try.ntmps52
  go_wp2_with fail
  refine LI.out.mono ?_
  rintro e' w2 ⟨a2, c2', rfl, o2, hb2⟩
  have k1 := q1.same hb2
  have k2 := q2.same hb2
  have k3 := q3.same hb2
  have k4 := q4.same hb2
  have k5 := q5.same hb2
  have bel2 := hb1.trans (hb2.mono hb1.size)
  have t2 := t1.trans (Below.touch hb2 0 (W.heap.size + 5))
  have hsz2 := t2.size
  have r2 := Lib.hid o2.rd
  have lo2 : ∀ x, a2 = some x → w.heap.size ≤ x.block := fun x hx => by
    have := (o2.1.lt x.block (by rw [hx]; rfl)).1
    simp at this
    exact this
  have Lo2 := Lib.hid lo2
  clear q1 q2 q3 q4 q5 hb1 hb2 t1 LI c1 c2 o2 lo2
  obtain ⟨w0, rfl⟩ : ∃ w0 : World, w0 = w2 := ⟨_, rfl⟩
  go_wp2_with fail
  go_loopw [15] (fun i wr => ∃ k : Nat, k ≤ xs.length ∧ i = .int .i64 k ∧ Hid (Blk wr (W.heap.size + 2) (ints (nw.take k ++ od.drop k)) 2) ∧ Hid (w0.grownBy wr (some (W.heap.size + 2)))) (fun i _ => xs.length - (intOf i).toNat)
  case atStart => exact ⟨0, Nat.zero_le _, rfl, (by rw [List.take_zero, List.drop_zero, List.nil_append]; exact k3), World.grownBy.refl _ _⟩
  case round =>
    obtain ⟨k, hk, rfl, hb, hgr⟩ := hrel
    have m4 := k4.grown hgr.out (by intro e; injection e; omega)
    have d4 := m4.cell 0
    simp only [List.getElem?_cons_zero] at d4
    by_cases hlt : k < xs.length
    · obtain ⟨b3, o3, hax, hbb, hcell⟩ := r2.out.at (k := k) (by rw [Htl.out]; exact hlt)
      subst hax
      have hb3 : w.heap.size ≤ b3 := Lo2.out _ rfl
      have hck := (World.cell?_of_block (w := w0) (w' := wr) (a := ⟨b3, o3 + k, none⟩) (hgr.out.block b3 hbb (by intro e; injection e; omega))).trans (hcell k (by rw [Htl.out]; exact hlt))
      have hoc := hb.out.cell k
      have hof := hb.out.free k
      have e1 : (ints (nw.take k ++ od.drop k))[k]? = some (.int .i64 (od.getD k 0)) := by
        have hl1 : (nw.take k).length = k := by rw [List.length_take, Hal.out]; omega
        have h2 : (nw.take k ++ od.drop k)[k]? = some (od.getD k 0) := by
          rw [List.getElem?_append_right (by omega), hl1, Nat.sub_self, List.getElem?_drop, Nat.add_zero]
          exact get_of_lt (by rw [Hsl.out]; exact hlt)
        simp only [ints, List.getElem?_map, h2, Option.map_some]
      rw [e1] at hoc
      obtain ⟨b0, b1⟩ := Hbd.out k
      obtain ⟨u0, u1⟩ := Htd.out k
      have hnv : nw[k]? = some (od.getD k 0 + tk.getD k 0) := by
        rw [get_of_lt (by rw [Hal.out]; exact hlt)]
        have := Hag.out k
        rw [← Hsn.out] at this
        rw [this]
      have hset := hb.out.setI k (od.getD k 0 + tk.getD k 0)
      rw [mix_st (by rw [Hsl.out]; exact hlt) (by rw [Hal.out, Hsl.out]) hnv] at hset
      have HS2 := Lib.hid hset
      have HG2 := Lib.hid (grown_of_grown hgr.out (setc_grown wr (W.heap.size + 2) k (.int .i64 (od.getD k 0 + tk.getD k 0))))
      generalize od.getD k 0 = x at *
      generalize tk.getD k 0 = y at *
      clear hset hnv e1 hb hgr m4 hcell
      go_wp2_with fail
      first
        | (go_roundw
           case rel => exact ⟨k + 1, by omega, by go_num, HS2, HG2⟩
           case measure => simp [intOf]; omega)
        | (go_region
           go_wp2_with fail
           go_roundw
           case rel => exact ⟨k + 1, by omega, by go_num, HS2, HG2⟩
           case measure => simp [intOf]; omega)
    · have : k = xs.length := by omega
      subst this
      have hF : Hid (TS W a c xs e (done ++ [os]) wr ∧ Touch w wr 0 (W.heap.size + 5)) := by
        have hg := hgr.out
        have hbe : nw.take xs.length ++ od.drop xs.length = nw := by rw [List.drop_of_length_le (by rw [Hsl.out]; exact Nat.le_refl _), List.append_nil, List.take_of_length_le (by rw [Hal.out]; exact Nat.le_refl _)]
        have hbo := hb.out
        rw [hbe] at hbo
        rw [← Hnw.out] at hbo
        refine ⟨⟨k1.grown hg (by intro e; injection e; omega), k2.grown hg (by intro e; injection e; omega), hbo, k4.grown hg (by intro e; injection e; omega), ?_, bel2.grown hg (by omega) (fun q hq => by injection hq with hq; omega)⟩, t2.trans (Touch.of_grown hg (Nat.zero_le _) (by omega))⟩
        rw [Hdl.out]
        exact k5.grown hg (by intro e; injection e; omega)
      clear hb hgr m4 d4
      go_wp2_with fail
      go_end0
      exact ⟨rfl, hF.out⟩
set_option maxRecDepth 10000 in
set_option maxHeartbeats 8000000 in
theorem turns_any (w : World) (a : Option Addr) (c : Nat) (xs : List Int) (e : Int) (h : Rd w w.heap.size a (ints xs)) (hl : xs.length ≤ 1152921504606846976) :
    Calls Try.prog 21 #[.slice a xs.length c, .int .i64 e] w (RetT 2 w (turnsF xs e)) := by
  unfold turnsF
  have LC := Lib.hid (fun w' hb => areClaims_any w' a c xs e (h.to hb) hl)
  cases t1 : claimsB xs e with
  | false =>
    rw [t1] at LC
    simp only [Bool.false_and, Bool.false_eq_true, if_false]
    clear h
    go_enter Try.func21, Try.ntmps21
    go_wp2_with fail
    refine (LC.out _ (bl2 _ _ _)).mono ?_
    rintro e' w1 ⟨rfl, rfl⟩
    go_wp2_with fail
    go_ret3
    exact RetT.no (bl2 _ _ _)
  | true =>
    rw [t1] at LC
    by_cases h6 : xs.length ≤ 6
    case neg =>
      rw [decide_eq_false h6]
      simp only [Bool.and_false, Bool.false_eq_true, if_false]
      clear h
      go_enter Try.func21, Try.ntmps21
      go_wp2_with fail
      refine (LC.out _ (bl2 _ _ _)).mono ?_
      rintro e' w1 ⟨rfl, rfl⟩
      go_wp2_with fail
      go_ret3
      exact RetT.no (bl2 _ _ _)
    rw [decide_eq_true h6]
    simp only [Bool.and_self, if_true]
    have hM : (permsU xs.length xs.length []).length ≤ 720 := by rw [← (insAll_perm xs.length h6).length_eq]; exact insAll_length _ h6
    have LT := Lib.hid (turn_any w a c xs e h t1)
    have Hz : Hid (sumT xs e [] = List.replicate xs.length 0) := rfl
    have LP : Hid (∀ w5 : World, TS w a c xs e [] w5 → w5.heap.size = w.heap.size + 5 →
        Calls Try.prog 51 #[.int .i64 xs.length, .func (.func 52) #[] #[.pointer (some ⟨w.heap.size + 4, 0, none⟩), .pointer (some ⟨w.heap.size, 0, none⟩), .pointer (some ⟨w.heap.size + 1, 0, none⟩), .pointer (some ⟨w.heap.size + 3, 0, none⟩)]] w5 fun e' w' => e' = .returned (.tuple #[]) ∧ TS w a c xs e (permsU xs.length xs.length []) w') := fun w5 h5 hs5 => by
      refine permute_any (fun done w' => TS w a c xs e done w') xs.length _ _ (by omega) enter_turn w5 ?_ ?_ h5
      · intro done w1 w2 k hb
        rw [hs5] at hb
        exact ⟨k.cl.below hb (by omega), k.es.below hb (by omega), k.ou.below hb (by omega), k.oh.below hb (by omega), k.ct.below hb (by omega), k.bel.trans (hb.mono (by omega))⟩
      · intro done os w' ao co k hor hm hsz ha g
        rw [hs5] at hsz ha ⊢
        exact LT.out done os w' ao co k hor (by omega) hsz ha g
    have hlen := Lib.hid (sumT_len xs e (permsU xs.length xs.length []))
    have Hcap : Hid (∀ w', TS w a c xs e (permsU xs.length xs.length []) w' → RetT 2 w (some (sumT xs e (permsU xs.length xs.length []), ((permsU xs.length xs.length []).length : Int))) (.returned (.tuple #[.slice (some ⟨w.heap.size + 2, 0, none⟩) xs.length xs.length, .int .i64 (permsU xs.length xs.length []).length, .bool true])) w') := fun w' k => by
      refine ⟨k.bel, some ⟨w.heap.size + 2, 0, none⟩, xs.length, by simp only [sumT_len], ?_⟩
      have := k.ou.owns (base := w.heap.size) (by omega) (by rw [ints_length, sumT_len]; unfold maxLen; omega)
      rw [ints_length] at this
      simp only [sumT_len] at this ⊢
      exact this
    clear hM LT hl
    generalize permsU xs.length xs.length [] = ps at *
    clear h t1
    go_enter Try.func21, Try.ntmps21
    go_wp2_with fail
    refine (LC.out _ (bl2 _ _ _)).mono ?_
    rintro e' w1 ⟨rfl, rfl⟩
    go_wp2_with (at_make; refine wpList_make_blk _ rfl _ _ 24 rfl 2 (.int .i64 0) 8 Try.underlying24 info_i64p rfl _ _ xs.length rfl rfl (by omega) (by unfold maxLen; omega) ?_)
    intro w2 hb2 hw2 hs2
    rw [ints_replicate, ← Hz.out] at hb2
    have k1 := (((Blk.new w [.slice a xs.length c] 24).alloc (.cells #[.int .i64 e] 2)).below hw2 (by omega))
    have k2 := ((Blk.new (w.alloc (.cells #[.slice a xs.length c] 24)) [.int .i64 e] 2).below hw2 (by simp))
    have bel2 := (bl2 w (.cells #[.slice a xs.length c] 24) (.cells #[.int .i64 e] 2)).trans (hw2.mono (by omega))
    simp at hs2 hb2 k2
    have Hs2 := Lib.hid hs2
    have HT : Hid (TS w a c xs e [] ((w2.alloc (.cells #[.slice (some ⟨w.heap.size + 2, 0, none⟩) xs.length xs.length] 24)).alloc (.cells #[.int .i64 0] 2))) := by
      have e3 := (Blk.new w2 [.slice (some ⟨w.heap.size + 2, 0, none⟩) xs.length xs.length] 24).alloc (.cells #[.int .i64 0] 2)
      have e4 := Blk.new (w2.alloc (.cells #[.slice (some ⟨w.heap.size + 2, 0, none⟩) xs.length xs.length] 24)) [.int .i64 0] 2
      simp [hs2] at e3 e4
      exact ⟨(k1.alloc _).alloc _, (k2.alloc _).alloc _, (hb2.alloc _).alloc _, e3, e4, (bel2.alloc (by omega) _).alloc (by simp; omega) _⟩
    have hfin : ∀ o1 o2, ((w2.alloc o1).alloc o2).heap.size = w.heap.size + 5 := fun o1 o2 => by simp [hs2]
    have Hfin := Lib.hid hfin
    have ck1 := k1.cell 0
    simp only [List.getElem?_cons_zero] at ck1
    have hs2' : w2.heap.size = w.heap.size + 3 := hs2
    clear hfin k1 k2 hb2 hw2 bel2
    go_wp2_with fail
    go_outline
    refine (LP.out _ HT.out (Hfin.out _ _)).mono ?_
    rintro e' w6 ⟨rfl, HQ⟩
    have HR := Lib.hid (Hcap.out w6 HQ)
    have d1 := HQ.oh.cell 0
    have d2 := HQ.ct.cell 0
    simp only [List.getElem?_cons_zero] at d1 d2
    clear HQ
    go_wp2_with fail
    go_quiet (fail)
    go_wp2_with fail
    go_ret3
    exact ⟨below_drewN HR.out.1 _, HR.out.2⟩
end Go.Proofs.Ytkapjlkeohjjbaa
namespace Go.Proofs.Ytkapjlkeohjjbaa
set_option linter.unusedVariables false
set_option linter.unusedSimpArgs false
open Go.RowKit

theorem info_i64' : (Try.prog.info? 2).map (fun i => (i.zero, i.size, i.bytes)) = some (some (.int .i64 0), 1, 8) := by kernel_rfl

/-- The one that gets the next seat, after k of them have been looked at. -/
def qStep (vs os : List Int) (kind : Int) (best i : Nat) : Nat := if aheadF (vs.getD i 0) (above kind (os.getD i 0)) (vs.getD best 0) (above kind (os.getD best 0)) then i else best
def qBest (vs os : List Int) (kind : Int) (k : Nat) : Nat := (List.range k).foldl (qStep vs os kind) 0
def bump (os : List Int) (i : Nat) : List Int := os.set i (os.getD i 0 + 1)
def qSeats (vs : List Int) (kind : Int) : Nat → List Int
  | 0 => List.replicate vs.length 0
  | s + 1 => bump (qSeats vs kind s) (qBest vs (qSeats vs kind s) kind vs.length)
theorem qBest_succ (vs os : List Int) (kind : Int) (k : Nat) : qBest vs os kind (k + 1) = qStep vs os kind (qBest vs os kind k) k := by simp [qBest, List.range_succ]
theorem qBest_lt (vs os : List Int) (kind : Int) (k n : Nat) (hk : k ≤ n) (hn : 0 < n) : qBest vs os kind k < n := by
  induction k with
  | zero => simpa [qBest] using hn
  | succ k ih => rw [qBest_succ]; unfold qStep; have := ih (by omega); split <;> omega
theorem bump_length (os : List Int) (i : Nat) : (bump os i).length = os.length := by simp [bump]
theorem qSeats_length (vs : List Int) (kind : Int) (s : Nat) : (qSeats vs kind s).length = vs.length := by
  induction s with
  | zero => simp [qSeats]
  | succ s ih => simp [qSeats, bump_length, ih]
theorem bump_bd {os : List Int} {m : Int} (h : ∀ j, 0 ≤ os.getD j 0 ∧ os.getD j 0 ≤ m) (i : Nat) : ∀ j, 0 ≤ (bump os i).getD j 0 ∧ (bump os i).getD j 0 ≤ m + 1 := by
  intro j
  have hj := h j
  have hi := h i
  unfold bump
  simp only [List.getD, List.getElem?_set] at *
  by_cases e : i = j
  · subst e
    by_cases e2 : i < os.length
    · rw [if_pos rfl, if_pos e2]; simp only [Option.getD_some]; omega
    · rw [if_pos rfl, if_neg e2]; simp only [Option.getD_none]; omega
  · rw [if_neg e]; omega
theorem qSeats_bd (vs : List Int) (kind : Int) (s : Nat) : ∀ j, 0 ≤ (qSeats vs kind s).getD j 0 ∧ (qSeats vs kind s).getD j 0 ≤ s := by
  induction s with
  | zero =>
    intro j
    simp only [qSeats, List.getD, List.getElem?_replicate]
    split <;> simp
  | succ s ih => intro j; have := bump_bd ih (qBest vs (qSeats vs kind s) kind vs.length) j; simp only [qSeats]; omega

def quotF (vs : List Int) (seats kind : Int) : Option (List Int) := if votesB vs && inB seats 0 100 && inB kind 0 2 then some (qSeats vs kind seats.toNat) else none

end Go.Proofs.Ytkapjlkeohjjbaa
namespace Go.Proofs.Ytkapjlkeohjjbaa
set_option linter.unusedVariables false
set_option linter.unusedSimpArgs false
open Go.RowKit

/-- One place of a ballot before t others behind it. -/
def prI (n : Nat) (ys : List Int) (p : Nat) : Nat → List Int → List Int
  | 0, os => os
  | t + 1, os => addAt (prI n ys p t os) ((ys.getD p 0).toNat * n + (ys.getD (p + 1 + t) 0).toNat) 1
/-- All pairs of the first p places of a ballot, and those behind them. -/
def prA (n : Nat) (ys : List Int) : Nat → List Int → List Int
  | 0, os => os
  | p + 1, os => prI n ys p (n - (p + 1)) (prA n ys p os)
def prF (n : Nat) (yss : List (List Int)) : Nat → List Int
  | 0 => List.replicate (n * n) 0
  | i + 1 => prA n (yss.getD i []) n (prF n yss i)
theorem prI_length (n : Nat) (ys : List Int) (p t : Nat) (os : List Int) : (prI n ys p t os).length = os.length := by
  induction t with
  | zero => rfl
  | succ t ih => simp [prI, addAt_length, ih]
theorem prA_length (n : Nat) (ys : List Int) (p : Nat) (os : List Int) : (prA n ys p os).length = os.length := by
  induction p with
  | zero => rfl
  | succ p ih => simp [prA, prI_length, ih]
theorem prF_length (n : Nat) (yss : List (List Int)) (i : Nat) : (prF n yss i).length = n * n := by
  induction i with
  | zero => simp [prF]
  | succ i ih => simp [prF, prA_length, ih]
theorem prI_bd {n : Nat} {os : List Int} {m : Int} (h : ∀ j, 0 ≤ os.getD j 0 ∧ os.getD j 0 ≤ m) (ys : List Int) (p t : Nat) : ∀ q, 0 ≤ (prI n ys p t os).getD q 0 ∧ (prI n ys p t os).getD q 0 ≤ m + t := by
  induction t with
  | zero => simpa [prI] using h
  | succ t ih =>
    intro q
    have := addAt_bd ih ((ys.getD p 0).toNat * n + (ys.getD (p + 1 + t) 0).toNat) (d := 1) (e := 1) (by omega) (by omega) q
    simp only [prI]
    omega
theorem prA_bd {n : Nat} {os : List Int} {m : Int} (h : ∀ j, 0 ≤ os.getD j 0 ∧ os.getD j 0 ≤ m) (ys : List Int) (p : Nat) (hn : n ≤ 12) : ∀ q, 0 ≤ (prA n ys p os).getD q 0 ∧ (prA n ys p os).getD q 0 ≤ m + 12 * p := by
  induction p with
  | zero => simpa [prA] using h
  | succ p ih =>
    intro q
    have := prI_bd (n := n) ih ys p (n - (p + 1)) q
    simp only [prA]
    omega
theorem prF_bd {n : Nat} (yss : List (List Int)) (i : Nat) (hn : n ≤ 12) : ∀ q, 0 ≤ (prF n yss i).getD q 0 ∧ (prF n yss i).getD q 0 ≤ 144 * i := by
  induction i with
  | zero => intro q; simp only [prF, List.getD, List.getElem?_replicate]; split <;> simp
  | succ i ih =>
    intro q
    have := prA_bd ih (yss.getD i []) n hn q
    simp only [prF]
    omega
def pairsF (yss : List (List Int)) : Option (List Int) := if ballotsB yss then some (prF (wide yss) yss yss.length) else none
theorem idx_lt {x y n : Nat} (hx : x < n) (hy : y < n) : x * n + y < n * n := by
  have : x * n + n ≤ n * n := by
    have := Nat.mul_le_mul_right n (show x + 1 ≤ n from hx)
    rw [Nat.add_mul, Nat.one_mul] at this
    exact this
  omega

end Go.Proofs.Ytkapjlkeohjjbaa
namespace Go.Proofs.Ytkapjlkeohjjbaa
set_option linter.unusedVariables false
set_option linter.unusedSimpArgs false
open Go.RowKit

/-- The answer of a function that gives one integer or says no. -/
def RetN (w : World) (r : Option Int) (e : Ending) (w' : World) : Prop := Below w.heap.size w w' ∧ e = .returned (.tuple #[.int .i64 (r.getD 0), .bool r.isSome])

/-- i loses to k, or does not win, in the table of pairs. -/
def losesB (tb : List Int) (n m : Nat) (i k : Nat) : Bool := ((k : Int) != (i : Int)) && decide (2 * tb.getD (i * n + k) 0 ≤ m)
def winI (tb : List Int) (n m : Nat) : Int := findI (fun i => !anyI (losesB tb n m i) n) n
def winnerF (yss : List (List Int)) : Option Int :=
  if ballotsB yss then (if 0 ≤ winI (prF (wide yss) yss yss.length) (wide yss) yss.length then some (winI (prF (wide yss) yss yss.length) (wide yss) yss.length) else none) else none
end Go.Proofs.Ytkapjlkeohjjbaa
namespace Go.Proofs.Ytkapjlkeohjjbaa
set_option linter.unusedVariables false
set_option linter.unusedSimpArgs false
open Go.RowKit

def lostI (xs : List Int) (s : Int) : Int := findI (fun j => decide ((restF xs (s + 1)).getD j 0 < (restF xs s).getD j 0)) (restF xs s).length
def lostF (xs : List Int) (s : Int) : Option Int := if votesB xs && inB s 0 99 then (if 0 ≤ lostI xs s then some (lostI xs s) else none) else none
end Go.Proofs.Ytkapjlkeohjjbaa
namespace Go.Proofs.Ytkapjlkeohjjbaa
set_option linter.unusedVariables false
set_option linter.unusedSimpArgs false
open Go.RowKit

theorem addAt_get (os : List Int) (i : Nat) (d : Int) (j : Nat) (h : i < os.length) : (addAt os i d).getD j 0 = os.getD j 0 + if i = j then d else 0 := by
  unfold addAt
  simp only [List.getD, List.getElem?_set]
  by_cases e : i = j
  · subst e; rw [if_pos rfl, if_pos h, if_pos rfl]; rfl
  · rw [if_neg e, if_neg e]; omega
theorem sum_set : ∀ (os : List Int) (i : Nat) (y : Int), i < os.length → (os.set i y).sum = os.sum - os.getD i 0 + y
  | x :: xs, 0, y, _ => by simp; omega
  | x :: xs, i + 1, y, h => by
    have ih := sum_set xs i y (by simpa using h)
    simp only [List.set_cons_succ, List.sum_cons, ih, List.getD, List.getElem?_cons_succ]
    omega
theorem addAt_sum {os : List Int} {i : Nat} (h : i < os.length) (d : Int) : (addAt os i d).sum = os.sum + d := by
  unfold addAt; rw [sum_set _ _ _ h]; omega
theorem moreF_sum : ∀ (is os : List Int), (∀ i ∈ is, i.toNat < os.length) → (moreF os is).sum = os.sum + is.length
  | [], os, _ => by simp [moreF]
  | i :: is, os, h => by
    show (moreF (addAt os i.toNat 1) is).sum = _
    rw [moreF_sum is _ (fun j hj => by rw [addAt_length]; exact h j (by simp [hj])), addAt_sum (h i (by simp))]
    simp only [List.length_cons]; omega
theorem moreF_get : ∀ (is os : List Int) (j : Nat), (∀ i ∈ is, 0 ≤ i ∧ i.toNat < os.length) → is.Nodup → (moreF os is).getD j 0 = os.getD j 0 + if (j : Int) ∈ is then 1 else 0
  | [], os, j, _, _ => by simp [moreF]
  | i :: is, os, j, h, hn => by
    have hi := h i (by simp)
    have hn2 := List.nodup_cons.1 hn
    show (moreF (addAt os i.toNat 1) is).getD j 0 = _
    rw [moreF_get is _ j (fun q hq => by rw [addAt_length]; exact h q (by simp [hq])) hn2.2, addAt_get _ _ _ _ hi.2]
    by_cases e : i.toNat = j
    · have e2 : (j : Int) = i := by omega
      rw [if_pos e, if_neg (by rw [e2]; exact hn2.1), if_pos (by rw [e2]; simp)]; omega
    · have e2 : ¬ (j : Int) = i := by omega
      rw [if_neg e]
      simp only [List.mem_cons, e2, false_or]
      split <;> omega
theorem perm_sum {xs ys : List Int} (h : xs.Perm ys) : xs.sum = ys.sum := by
  induction h with
  | nil => rfl
  | cons x _ ih => simp [ih]
  | swap x y l => simp; omega
  | trans _ _ ih1 ih2 => rw [ih1, ih2]
theorem upto_map (ks : List Int) : (upto ks.length).map (fun i => ks.getD i.toNat 0) = ks := by
  apply List.ext_getElem
  · simp [upto_length]
  · intro j h1 h2
    rw [List.getElem_map]
    have : (upto ks.length)[j]'(by simpa using h1) = (j : Int) := by simp [upto]
    rw [this, Int.toNat_natCast, List.getD, List.getElem?_eq_getElem h2]; rfl
theorem sum_le_all {m : Int} : ∀ xs : List Int, (∀ x ∈ xs, x ≤ m) → xs.sum ≤ m * xs.length
  | [], _ => by simp
  | x :: xs, h => by
    have ih := sum_le_all xs (fun y hy => h y (by simp [hy]))
    have hx := h x (by simp)
    simp only [List.sum_cons, List.length_cons]
    rw [show m * ((xs.length + 1 : Nat) : Int) = m * xs.length + m by rw [Int.natCast_add, Int.mul_add]; simp]
    omega
/-- Those who are chosen first have a remainder. -/
theorem first_rem {ks : List Int} {S : Int} {L t q : Nat} (hS : 0 < S) (h0 : ∀ x ∈ ks, 0 ≤ x ∧ x < S) (hsum : ks.sum = S * L) (ht : t < L) (hL : L ≤ ks.length) (hq : (ordF ks)[t]? = some (q : Int)) : 0 < ks.getD q 0 := by
  refine Classical.byContradiction fun hno => ?_
  have hlt : t < (ordF ks).length := by rw [ordF_length]; omega
  have hqe : (ordF ks)[t] = (q : Int) := by rw [List.getElem?_eq_getElem hlt] at hq; injection hq
  have hp := List.pairwise_iff_getElem.1 (ordF_pairwise ks)
  have hs : ((ordF ks).map (fun i => ks.getD i.toNat 0)).sum = ks.sum := by
    rw [perm_sum ((ordF_perm ks).map _), upto_map]
  have hsplit : (ordF ks).map (fun i => ks.getD i.toNat 0) = ((ordF ks).take t).map (fun i => ks.getD i.toNat 0) ++ ((ordF ks).drop t).map (fun i => ks.getD i.toNat 0) := by
    rw [← List.map_append, List.take_append_drop]
  have hmax : ∀ i : Int, ks.getD i.toNat 0 ≤ S - 1 := fun i => by
    by_cases c : i.toNat < ks.length
    · have := h0 ks[i.toNat] (List.getElem_mem c)
      simp only [List.getD, List.getElem?_eq_getElem c, Option.getD_some]; omega
    · simp only [List.getD, List.getElem?_eq_none (show ks.length ≤ i.toNat by omega), Option.getD_none]; omega
  have h1 := sum_le_all (m := S - 1) (((ordF ks).take t).map (fun i => ks.getD i.toNat 0)) (fun x hx => by obtain ⟨i, _, rfl⟩ := List.mem_map.1 hx; exact hmax i)
  have h2 := sum_le_all (m := 0) (((ordF ks).drop t).map (fun i => ks.getD i.toNat 0)) (fun x hx => by
    obtain ⟨i, hi, rfl⟩ := List.mem_map.1 hx
    obtain ⟨u, hu, rfl⟩ := List.getElem_of_mem hi
    rw [List.getElem_drop]
    by_cases e : u = 0
    · subst e
      simp only [Nat.add_zero, hqe, Int.toNat_natCast]; omega
    · have hu' : t + u < (ordF ks).length := by simp at hu; omega
      have := hp t (t + u) hlt hu' (by omega)
      rw [hqe] at this
      simp only [Ahead, Int.toNat_natCast] at this
      omega)
  rw [hsplit, List.sum_append] at hs
  have e1 : (((ordF ks).take t).map (fun i => ks.getD i.toNat 0)).length = t := by simp; omega
  rw [e1] at h1
  have h3 : (S - 1) * (t : Int) ≤ (S - 1) * (L : Int) := Int.mul_le_mul_of_nonneg_left (by omega) (by omega)
  have e2 : (S - 1) * (L : Int) = S * L - L := by rw [Int.sub_mul]; omega
  by_cases hL0 : L = 0
  · omega
  · omega
theorem restF_parts {xs : List Int} {s : Int} (hv : votesB xs = true) (s0 : 0 ≤ s) :
    ∃ L : Nat, L ≤ xs.length ∧ (leftF xs s).toNat = L ∧ (xs.map (remF s xs.sum)).sum = xs.sum * L ∧ (xs.map (quoF s xs.sum)).sum + L = s := by
  obtain ⟨⟨h1, h2⟩, h3, h4⟩ := votesB_iff.1 hv
  have hp : ∀ x ∈ xs, 0 ≤ x := fun x hx => (h3 x hx).1
  obtain ⟨l0, l1⟩ := left_bd h1 hp s0 h4
  obtain ⟨q1, q2, q3, q4⟩ := sum_quo_rem s0 h4 xs hp
  have hl : leftF xs s = s - (xs.map (quoF s xs.sum)).sum := rfl
  refine ⟨(leftF xs s).toNat, by omega, rfl, ?_, by omega⟩
  have : ((leftF xs s).toNat : Int) = s - (xs.map (quoF s xs.sum)).sum := by omega
  rw [this, Int.mul_sub]
  omega
theorem ord_take_mem {ks : List Int} {m : Nat} : ∀ i ∈ (ordF ks).take m, 0 ≤ i ∧ i.toNat < ks.length := fun i hi => by
  have := ordF_mem.1 (List.mem_of_mem_take hi)
  omega
/-- All seats are given. -/
theorem restF_sum {xs : List Int} {s : Int} (hv : votesB xs = true) (s0 : 0 ≤ s) : (restF xs s).sum = s := by
  obtain ⟨L, h1, h2, h3, h4⟩ := restF_parts hv s0
  unfold restF
  rw [moreF_sum _ _ (fun i hi => by have := ord_take_mem i hi; simp only [List.length_map] at this ⊢; exact this.2), h2, List.length_take, ordF_length, List.length_map, Nat.min_eq_left h1]
  exact h4
theorem ceil_one {S q r : Int} (hS : 0 < S) (h0 : 0 < r) (h1 : r < S) : (S * q + r + S - 1) / S = q + 1 := by
  have : S * q + r + S - 1 = (r - 1) + S * (q + 1) := by rw [Int.mul_add]; omega
  rw [this, Int.add_mul_ediv_left _ _ (by omega), Int.ediv_eq_zero_of_lt (by omega) (by omega)]; omega
/-- One who has a quotient that is rounded down or up. -/
def keepB (S sm v x : Int) : Bool := (x == v * sm / S) || (x == (v * sm + S - 1) / S)
def keepsB (xs ss : List Int) : Bool := (List.range xs.length).all fun i => keepB xs.sum ss.sum (xs.getD i 0) (ss.getD i 0)
theorem restF_keeps {xs : List Int} {s : Int} (hv : votesB xs = true) (s0 : 0 ≤ s) : keepsB xs (restF xs s) = true := by
  obtain ⟨⟨h1, h2⟩, h3, h4⟩ := votesB_iff.1 hv
  obtain ⟨L, k1, k2, k3, k4⟩ := restF_parts hv s0
  unfold keepsB
  rw [List.all_eq_true]
  intro j hj
  have hj' := List.mem_range.1 hj
  rw [restF_sum hv s0]
  have hx := h3 (xs.getD j 0) (by simp only [List.getD, List.getElem?_eq_getElem hj']; exact List.getElem_mem _)
  have hq := quo_rem (S := xs.sum) hx.1 s0 h4
  have hks : ∀ x ∈ xs.map (remF s xs.sum), 0 ≤ x ∧ x < xs.sum := fun x hx => by
    obtain ⟨y, hy, rfl⟩ := List.mem_map.1 hx
    have := quo_rem (S := xs.sum) (h3 y hy).1 s0 h4
    exact ⟨this.2.2.1, this.2.2.2⟩
  have hg : (restF xs s).getD j 0 = quoF s xs.sum (xs.getD j 0) + if (j : Int) ∈ (ordF (xs.map (remF s xs.sum))).take L then 1 else 0 := by
    unfold restF
    rw [k2, moreF_get _ _ _ (fun i hi => by have := ord_take_mem i hi; simp only [List.length_map] at this ⊢; exact this) ((ordF_nodup _).sublist (List.take_sublist _ _)), map_getD _ hj']
  rw [hg]
  unfold keepB
  by_cases c : (j : Int) ∈ (ordF (xs.map (remF s xs.sum))).take L
  · rw [if_pos c]
    obtain ⟨t, ht, e⟩ := List.getElem_of_mem c
    have ht2 : t < L := by simp at ht; omega
    have hr := first_rem (q := j) h4 hks k3 ht2 (by simp; omega) (by rw [List.getElem_take] at e; rw [← e]; exact List.getElem?_eq_getElem _)
    rw [map_getD _ hj'] at hr
    have : (xs.getD j 0 * s + xs.sum - 1) / xs.sum = quoF s xs.sum (xs.getD j 0) + 1 := by
      rw [hq.1]; exact ceil_one h4 hr hq.2.2.2
    rw [this]; simp
  · rw [if_neg c]; simp [quoF]
/-- The one with the greatest quotient. -/
theorem ahead_pos {v a u b : Int} (ha : 0 < a) (hb : 0 < b) (hv : 0 ≤ v) (hu : 0 ≤ u) : aheadF v a u b = decide (u * a < v * b) := by
  unfold aheadF
  by_cases c : v = 0
  · subst c
    have : 0 ≤ u * a := Int.mul_nonneg hu (by omega)
    simp only [beq_self_eq_true, Bool.true_or, if_true, Int.zero_mul]
    rw [decide_eq_false (by omega), decide_eq_false (by omega)]
  · by_cases d : u = 0
    · subst d
      have : 0 < v * b := Int.mul_pos (by omega) hb
      simp only [beq_self_eq_true, Bool.or_true, if_true, Int.zero_mul]
      rw [decide_eq_true (by omega), decide_eq_true (by omega)]
    · have h1 : (v == 0) = false := by simp [c]
      have h2 : (u == 0) = false := by simp [d]
      have h3 : (a == 0) = false := by simp; omega
      have h4 : (b == 0) = false := by simp; omega
      simp [h1, h2, h3, h4]
theorem above_pos {kind has : Int} (hk : kind = 0 ∨ kind = 1) (h : 0 ≤ has) : 0 < above kind has := by
  rcases hk with rfl | rfl <;> simp [above] <;> omega
theorem above_le {kind a b : Int} (h : a ≤ b) : above kind a ≤ above kind b := by unfold above; (repeat' split) <;> omega
theorem qBest_max {vs os : List Int} {kind : Int} (hk : kind = 0 ∨ kind = 1) (hv : ∀ j, 0 ≤ vs.getD j 0) (ho : ∀ j, 0 ≤ os.getD j 0) : ∀ k i, i < k → vs.getD i 0 * above kind (os.getD (qBest vs os kind k) 0) ≤ vs.getD (qBest vs os kind k) 0 * above kind (os.getD i 0)
  | 0, i, h => by omega
  | k + 1, i, h => by
    have ih := qBest_max hk hv ho k
    rw [qBest_succ, qStep]
    generalize qBest vs os kind k = b at *
    have pb := above_pos hk (ho b)
    have pk := above_pos hk (ho k)
    have pi := above_pos hk (ho i)
    rw [ahead_pos pk pb (hv k) (hv b)]
    by_cases c : vs.getD b 0 * above kind (os.getD k 0) < vs.getD k 0 * above kind (os.getD b 0)
    · rw [decide_eq_true c, if_pos rfl]
      by_cases e : i = k
      · subst e; omega
      · have h1 := ih i (by omega)
        generalize above kind (os.getD b 0) = B at *
        generalize above kind (os.getD k 0) = A at *
        generalize above kind (os.getD i 0) = I at *
        generalize vs.getD i 0 = vi at *
        generalize vs.getD k 0 = vk at *
        generalize vs.getD b 0 = vb at *
        -- vi * B ≤ vb * I, vb * A < vk * B; so vi * A * B ≤ vb * I * A ≤ vk * B * I
        have e1 : (vi * A) * B ≤ (vk * I) * B := by
          have s1 : (vi * B) * A ≤ (vb * I) * A := Int.mul_le_mul_of_nonneg_right h1 (by omega)
          have s2 : (vb * A) * I ≤ (vk * B) * I := Int.mul_le_mul_of_nonneg_right (by omega) (by omega)
          have r1 : (vi * A) * B = (vi * B) * A := by rw [Int.mul_assoc, Int.mul_comm A B, ← Int.mul_assoc]
          have r2 : (vb * I) * A = (vb * A) * I := by rw [Int.mul_assoc, Int.mul_comm I A, ← Int.mul_assoc]
          have r3 : (vk * I) * B = (vk * B) * I := by rw [Int.mul_assoc, Int.mul_comm I B, ← Int.mul_assoc]
          omega
        exact Int.le_of_mul_le_mul_right e1 pb
    · rw [decide_eq_false c]
      simp only [Bool.false_eq_true, if_false]
      by_cases e : i = k
      · subst e; omega
      · exact ih i (by omega)
theorem bump_get {os : List Int} {b : Nat} (h : b < os.length) (j : Nat) : (bump os b).getD j 0 = os.getD j 0 + if b = j then 1 else 0 := addAt_get os b 1 j h
/-- No other one would have a greater quotient. -/
theorem qSeats_fair {vs : List Int} {kind : Int} (hk : kind = 0 ∨ kind = 1) (hn : 0 < vs.length) (hv : ∀ j, 0 ≤ vs.getD j 0) : ∀ s i k, i < vs.length → k < vs.length → 0 < (qSeats vs kind s).getD k 0 → vs.getD i 0 * above kind ((qSeats vs kind s).getD k 0 - 1) ≤ vs.getD k 0 * above kind ((qSeats vs kind s).getD i 0)
  | 0, i, k, _, hk', h => by
    exfalso
    simp only [qSeats, List.getD, List.getElem?_replicate] at h
    split at h <;> simp at h
  | s + 1, i, k, hi, hk', h => by
    have hb := qBest_lt vs (qSeats vs kind s) kind vs.length vs.length (Nat.le_refl _) hn
    have hmax := qBest_max (os := qSeats vs kind s) hk hv (fun j => (qSeats_bd vs kind s j).1) vs.length
    have e : qSeats vs kind (s + 1) = bump (qSeats vs kind s) (qBest vs (qSeats vs kind s) kind vs.length) := rfl
    rw [e] at h ⊢
    have hg := bump_get (os := qSeats vs kind s) (b := qBest vs (qSeats vs kind s) kind vs.length) (by rw [qSeats_length]; exact hb)
    rw [hg k] at h ⊢
    rw [hg i]
    have ih := qSeats_fair hk hn hv s i k hi hk'
    generalize qBest vs (qSeats vs kind s) kind vs.length = b at *
    generalize qSeats vs kind s = os at *
    have hup : above kind (os.getD i 0) ≤ above kind (os.getD i 0 + if b = i then 1 else 0) := above_le (by split <;> omega)
    have hup2 := Int.mul_le_mul_of_nonneg_left hup (hv k)
    by_cases c : b = k
    · subst c
      rw [if_pos rfl, show os.getD b 0 + 1 - 1 = os.getD b 0 by omega]
      exact Int.le_trans (hmax i hi) hup2
    · rw [if_neg c, Int.add_zero] at h ⊢
      exact Int.le_trans (ih h) hup2
theorem qSeats_sum {vs : List Int} {kind : Int} (hn : 0 < vs.length) : ∀ s : Nat, (qSeats vs kind s).sum = s
  | 0 => by
    have : ∀ m : Nat, (List.replicate m (0 : Int)).sum = 0 := fun m => by induction m with
      | zero => rfl
      | succ m ih => rw [List.replicate_succ, List.sum_cons, ih]; rfl
    simp [qSeats, this]
  | s + 1 => by
    have hb := qBest_lt vs (qSeats vs kind s) kind vs.length vs.length (Nat.le_refl _) hn
    show (bump (qSeats vs kind s) _).sum = _
    have := addAt_sum (os := qSeats vs kind s) (i := qBest vs (qSeats vs kind s) kind vs.length) (by rw [qSeats_length]; exact hb) 1
    rw [show bump (qSeats vs kind s) (qBest vs (qSeats vs kind s) kind vs.length) = addAt (qSeats vs kind s) (qBest vs (qSeats vs kind s) kind vs.length) 1 from rfl, this, qSeats_sum hn s]; simp
end Go.Proofs.Ytkapjlkeohjjbaa
namespace Go.Proofs.Ytkapjlkeohjjbaa
set_option linter.unusedVariables false
set_option linter.unusedSimpArgs false
open Go.RowKit

def takeOF (xs : List Int) (e : Int) (os : List Int) : Option (List Int) := if claimsB xs e && orderB os xs.length then some ((takeF xs os e).map (· * 1680)) else none
set_option maxHeartbeats 1000000 in
theorem takeO_any (w : World) (a : Option Addr) (c : Nat) (xs : List Int) (e : Int) (ao : Option Addr) (co : Nat) (os : List Int) (h : Rd w w.heap.size a (ints xs)) (hl : xs.length ≤ 1152921504606846976) (g : Rd w w.heap.size ao (ints os)) (gl : os.length ≤ 1152921504606846976) (gc : os.length ≤ co) :
    Calls Try.prog 20 #[.slice a xs.length c, .int .i64 e, .slice ao os.length co] w (RetI 2 w (takeOF xs e os)) := by
  unfold takeOF
  have LC := Lib.hid (areClaims_any w a c xs e h hl)
  cases t1 : claimsB xs e with
  | false =>
    rw [t1] at LC
    simp only [Bool.false_and, Bool.false_eq_true, if_false]
    clear h g
    go_enter Try.func20, Try.ntmps20
    go_wp2_with fail
    refine LC.out.mono ?_
    rintro e' w1 ⟨rfl, rfl⟩
    go_wp2_with fail
    go_ret2
    exact RetI.no (Below.refl _ _)
  | true =>
    rw [t1] at LC
    have hl8' := (claimsB_iff.1 t1).1
    by_cases hlen : os.length = xs.length
    case neg =>
      have t2 : orderB os xs.length = false := by simp [orderB, hlen]
      have hne : ((os.length : Int) != (xs.length : Int)) = true := by simp; omega
      rw [t2]
      simp only [Bool.and_false, Bool.false_eq_true, if_false]
      clear h g hlen
      go_enter Try.func20, Try.ntmps20
      go_wp2_with fail
      refine LC.out.mono ?_
      rintro e' w1 ⟨rfl, rfl⟩
      go_wp2_with fail
      go_ret2
      exact RetI.no (Below.refl _ _)
    have hne : ((os.length : Int) != (xs.length : Int)) = false := by simp [hlen]
    have LO := Lib.hid (isAll_any w ao co os g (by omega))
    have t3 : orderB os xs.length = onceB os os.length := by simp [orderB, hlen]
    rw [t3]
    cases t2' : onceB os os.length with
    | false =>
      rw [t2'] at LO
      simp only [Bool.and_false, Bool.false_eq_true, if_false]
      clear h g hlen t3 t2'
      go_enter Try.func20, Try.ntmps20
      go_wp2_with fail
      refine LC.out.mono ?_
      rintro e' w1 ⟨rfl, rfl⟩
      go_wp2_with fail
      refine LO.out.mono ?_
      rintro e' w1 ⟨rfl, hb⟩
      go_wp2_with fail
      go_ret2
      exact RetI.no hb
    | true =>
    rw [t2'] at LO
    have t2 : orderB os xs.length = true := by rw [t3, t2']
    simp only [Bool.and_self, if_true]
    have LT := Lib.hid (fun (w' : World) (hb : Below w.heap.size w w') => inOrder_any w' w.heap.size w.heap.size a ao c co xs os e (h.below hb (Nat.le_refl _)) (g.below hb (Nat.le_refl _)) hb.size hb.size t1 t2)
    have hfl := takeS_len xs os e os.length
    have hbd := (takeS_bd (os := os) (claimsB_iff.1 t1).2.2.1 (by have := claims_sum (claimsB_iff.1 t1).2.1; have := (claimsB_iff.1 t1).1; have := (claimsB_iff.1 t1).2.2.2; omega) (claimsB_iff.1 t1).2.1 os.length).2
    have hl8 := (claimsB_iff.1 t1).1
    obtain ⟨_, _, hos⟩ := orderB_iff.1 t2
    clear h g hlen t3 t2' hos
    go_enter Try.func20, Try.ntmps20
    go_wp2_with fail
    refine LC.out.mono ?_
    rintro e' w1 ⟨rfl, rfl⟩
    go_wp2_with fail
    refine LO.out.mono ?_
    rintro e' w1 ⟨rfl, HB⟩
    have hw0 := LT.out _ HB
    clear LT
    go_wp2_with fail
    refine hw0.mono ?_
    rintro e' w3 ⟨a3, c3, rfl, o3, hb3⟩
    have hfl' : (takeF xs os e).length = xs.length := hfl
    have LM := Lib.hid (scaled_any w3 w3.heap.size a3 c3 (takeF xs os e) 1680 o3.rd (Nat.le_refl _) (by omega) (fun x hx => by have := hbd x hx; omega) (by omega) (by omega))
    rw [hfl'] at LM
    have HB3 := HB.trans (hb3.mono HB.size)
    clear o3 hb3 hw0
    go_wp2_with fail
    refine LM.out.mono ?_
    rintro e' w4 ⟨a4, c4, rfl, o4, hb4⟩
    have HB4 := HB3.trans (hb4.mono HB3.size)
    have HR : RetI 2 w (some ((takeF xs os e).map (· * 1680))) (.returned (.tuple #[.slice a4 xs.length c4, .bool true])) w4 := ⟨HB4, a4, c4, by rw [List.length_map, hfl'], own_base o4.1 HB3.size⟩
    have HRR := Lib.hid HR
    clear HR o4 hb4
    go_wp2_with fail
    go_ret2
    exact HRR.out
end Go.Proofs.Ytkapjlkeohjjbaa
namespace Go.Proofs.Ytkapjlkeohjjbaa
set_option linter.unusedVariables false
set_option linter.unusedSimpArgs false
open Go.RowKit

/-- What is left for one if all others take all that they claim. -/
def sureF (xs : List Int) (e : Int) : List Int := xs.map fun x => max 0 (e - (xs.sum - x)) * 1680
set_option maxRecDepth 10000 in
set_option maxHeartbeats 4000000 in
theorem sure_any (w : World) (a : Option Addr) (c : Nat) (xs : List Int) (e : Int) (h : Rd w w.heap.size a (ints xs)) (hv : claimsB xs e = true) :
    Calls Try.prog 23 #[.slice a xs.length c, .int .i64 e] w fun en w' => ∃ a' c', en = .returned (.tuple #[.slice a' xs.length c', .bool true]) ∧ OwnI 2 w' w.heap.size w'.heap.size a' c' (sureF xs e) ∧ Below w.heap.size w w' := by
  obtain ⟨⟨l1, l8⟩, hx, e0, e1⟩ := claimsB_iff.1 hv
  obtain ⟨s0, s1⟩ := claims_sum hx
  have LA := Lib.hid (areClaims_any w a c xs e h (by omega))
  rw [hv] at LA
  have LS := Lib.hid (fun v (hb : Below w.heap.size w v) => sumOf_any v a c xs ((h.to hb)) (by omega))
  have hws : wsum xs = xs.sum := claims_wsum hv
  rw [hws] at LS
  have HX := Lib.hid hx
  have Hs : Hid (∀ (k : Nat) (x : Int), xs[k]? = some x → (sureF xs e).take (k + 1) = (sureF xs e).take k ++ [max 0 (e - (xs.sum - x)) * 1680]) := fun k x hx => by unfold sureF; rw [List.take_add_one, List.getElem?_map, hx]; rfl
  have Hl : Hid ((sureF xs e).length = xs.length) := by simp [Hid, sureF]
  have s8 : xs.sum ≤ 8000 := by omega
  generalize xs.sum = S at *
  generalize sureF xs e = ys at *
  have HR := Lib.hid h
  clear hx h hv hws
  go_enter Try.func23, Try.ntmps23
  go_wp2_with fail
  refine LA.out.mono ?_
  rintro en wQ ⟨rfl, rfl⟩
  clear LA
  go_wp2_with fail
  go_loopw [16, 6] (fun i v wr => ∃ (k : Nat) (u : Value), k ≤ xs.length ∧ i = .int .i64 k ∧ v = u ∧ Hid (wr.ownsRow w.heap.size 2 1 u k (ints (ys.take k))) ∧ Hid (Below w.heap.size w wr)) (fun i _ _ => xs.length - (intOf i).toNat)
  case atStart => exact ⟨0, _, Nat.zero_le _, rfl, rfl, own_empty w _, bl1 w _⟩
  case round =>
    obtain ⟨k, u, hk, rfl, rfl, ho, hw⟩ := hrel
    by_cases hlt : k < xs.length
    · obtain ⟨b, o, x, ha, hbb, hck, hx⟩ := (HR.out.below hw.out (Nat.le_refl _)).get hlt
      subst ha
      obtain ⟨x0, x1⟩ := HX.out x (List.mem_of_getElem? hx.out)
      have hn := Lib.hid (Hs.out k x hx.out)
      have LS1 := Lib.hid (LS.out wr hw.out)
      have ho1 := ho.out
      have hw1 := hw.out
      have hws1 := hw1.size
      clear ho
      by_cases hz : 0 < e - (S - x)
      · have hz1 : ¬ e - (S - x) ≤ 0 := by omega
        have hz2 : ¬ e - (S - x) < 0 := by omega
        have hmx : max 0 (e - (S - x)) * 1680 = (e - (S - x)) * 1680 := by rw [Int.max_eq_right (by omega)]
        rw [hmx] at hn
        clear hmx
        go_wp2_with fail
        refine LS1.out.mono ?_
        rintro en w2 ⟨rfl, rfl⟩
        go_wp2_with (at_builtin; refine wpList_append_one _ rfl _ _ 24 rfl w.heap.size 2 (.int .i64 0) 8 Try.underlying24 info_i64p rfl _ k _ rfl ho1 (.int .i64 (((e - (S - x)) * 1680))) rfl rfl (by omega) (by omega) hws1 ?_)
        intro v' w3 o1 hgr
        have hb := Lib.hid (below_append hw1 ho1 hgr (Nat.le_refl _) hws1)
        rw [show ints (ys.take k) ++ [Value.int .i64 (((e - (S - x)) * 1680))] = ints (ys.take (k + 1)) from by rw [hn.out, ints_append]; rfl] at o1
        have HO := Lib.hid o1
        clear ho1 hgr hw1 hw o1 hck LS1
        go_wp2_with fail
        go_roundw
        case rel => exact ⟨k + 1, v', by omega, by go_num, rfl, HO, hb⟩
        case measure => simp [intOf]; omega
      · have hz1 : e - (S - x) ≤ 0 := by omega
        have hmx : max 0 (e - (S - x)) * 1680 = 0 := by rw [Int.max_eq_left (by omega)]; rfl
        rw [hmx] at hn
        clear hmx
        go_wp2_with fail
        refine LS1.out.mono ?_
        rintro en w2 ⟨rfl, rfl⟩
        go_wp2_with (at_builtin; refine wpList_append_one _ rfl _ _ 24 rfl w.heap.size 2 (.int .i64 0) 8 Try.underlying24 info_i64p rfl _ k _ rfl ho1 (.int .i64 (0)) rfl rfl (by omega) (by omega) hws1 ?_)
        intro v' w3 o1 hgr
        have hb := Lib.hid (below_append hw1 ho1 hgr (Nat.le_refl _) hws1)
        rw [show ints (ys.take k) ++ [Value.int .i64 (0)] = ints (ys.take (k + 1)) from by rw [hn.out, ints_append]; rfl] at o1
        have HO := Lib.hid o1
        clear ho1 hgr hw1 hw o1 hck LS1
        go_wp2_with fail
        go_roundw
        case rel => exact ⟨k + 1, v', by omega, by go_num, rfl, HO, hb⟩
        case measure => simp [intOf]; omega
    · obtain rfl : k = xs.length := by omega
      rw [show ys.take xs.length = ys from List.take_of_length_le (by rw [Hl.out]; exact Nat.le_refl _)] at ho
      obtain ⟨a1, c1, rfl, _, _⟩ := own_shape ho.out
      have hR : OwnI 2 wr w.heap.size wr.heap.size a1 c1 ys := OwnI.of_own (by rw [Hl.out]; exact ho.out)
      have HR2 := Lib.hid hR
      clear hR ho
      go_wp2_with fail
      go_ret2
      exact ⟨_, _, rfl, HR2.out, hw.out⟩
end Go.Proofs.Ytkapjlkeohjjbaa
namespace Go.Proofs.Ytkapjlkeohjjbaa
set_option linter.unusedVariables false
set_option linter.unusedSimpArgs false
open Go.RowKit

theorem length_le_of_sub {xs ys : List Int} (h : xs.Nodup) (hs : ∀ x ∈ xs, x ∈ ys) : xs.length ≤ ys.length := List.Nodup.length_le_of_subset h hs
/-- Who is out, by number. -/
def goneL (n : Nat) (out : List Int) : List Value := (List.range n).map fun (j : Nat) => Value.bool (hasB out j)
theorem goneL_length (n : Nat) (out : List Int) : (goneL n out).length = n := by simp [goneL]
theorem goneL_nil (n : Nat) : List.replicate n (Value.bool false) = goneL n [] := by
  apply List.ext_getElem <;> simp [goneL, hasB]
theorem goneL_get {n : Nat} {out : List Int} {j : Nat} (h : j < n) : (goneL n out)[j]? = some (.bool (hasB out j)) := by simp [goneL, h]
theorem hasB_app (out : List Int) (q x : Int) : hasB (out ++ [q]) x = (hasB out x || (q == x)) := by simp [hasB]
theorem goneL_set (n : Nat) (out : List Int) (q : Nat) : (goneL n out).set q (.bool true) = goneL n (out ++ [(q : Int)]) := by
  apply List.ext_getElem
  · simp [goneL]
  · intro j h1 h2
    simp only [goneL, List.getElem_set, List.getElem_map, List.getElem_range, hasB_app]
    by_cases h : q = j
    · subst h; simp
    · rw [if_neg h]
      have : ((q : Int) == (j : Int)) = false := by simp; omega
      rw [this, Bool.or_false]

/-- The place, on a ballot, of the first who is not out. -/
def firstI (out ys : List Int) : Int := findI (fun j => !hasB out (ys.getD j 0)) ys.length
theorem first_spec {out ys : List Int} {n : Nat} (h : out.length < n) (hys : orderB ys n = true) :
    ∃ k : Nat, k < ys.length ∧ firstI out ys = k ∧ (∀ j, j < k → hasB out (ys.getD j 0) = true) ∧ hasB out (ys.getD k 0) = false := by
  rcases findI_spec (fun j => !hasB out (ys.getD j 0)) ys.length with ⟨k, hk, h1, h2, h3⟩ | ⟨h1, _⟩
  · exact ⟨k, hk, h3, fun j hj => by have := h2 j hj; simpa using this, by simpa using h1⟩
  · exfalso
    obtain ⟨_, hn, hl⟩ := orderB_iff.1 hys
    have := length_le_of_sub (ys := out) hn (fun x hx => by
      obtain ⟨j, hj, rfl⟩ := List.getElem_of_mem hx
      have := h1 j hj
      simp only [Bool.not_eq_false'] at this
      rw [List.getD_eq_getElem?_getD, List.getElem?_eq_getElem hj] at this
      exact hasB_iff.1 this)
    omega
def firstOf (out ys : List Int) : Nat := (ys.getD (firstI out ys).toNat 0).toNat
theorem missing {out : List Int} {n : Nat} (h : out.length < n) : ∃ j : Nat, j < n ∧ hasB out j = false := by
  refine Classical.byContradiction fun hno => ?_
  have : ((List.range n).map fun (j : Nat) => (j : Int)).length ≤ out.length := length_le_of_sub (by
      rw [List.nodup_iff_pairwise_ne, List.pairwise_map]
      exact (List.nodup_range (n := n)).imp fun h e => h (by omega)) (fun x hx => by
    obtain ⟨j, hj, rfl⟩ := List.mem_map.1 hx
    have hj' := List.mem_range.1 hj
    cases hh : hasB out j with
    | true => exact hasB_iff.1 hh
    | false => exact absurd ⟨j, hj', hh⟩ hno)
  simp at this
  omega
/-- How many ballots put each one first, of those not out. -/
def cntF (n : Nat) (out : List Int) (yss : List (List Int)) : Nat → List Int
  | 0 => List.replicate n 0
  | k + 1 => addAt (cntF n out yss k) (firstOf out (yss.getD k [])) 1
theorem cntF_length (n : Nat) (out : List Int) (yss : List (List Int)) : ∀ k, (cntF n out yss k).length = n
  | 0 => by simp [cntF]
  | k + 1 => by rw [cntF, addAt_length, cntF_length n out yss k]
theorem cntF_bd (n : Nat) (out : List Int) (yss : List (List Int)) : ∀ (k : Nat) (j : Nat), 0 ≤ (cntF n out yss k).getD j 0 ∧ (cntF n out yss k).getD j 0 ≤ k
  | 0, j => by
    have : (cntF n out yss 0).getD j 0 = 0 := by
      simp only [cntF, List.getD_eq_getElem?_getD, List.getElem?_replicate]
      split <;> rfl
    rw [this]; simp
  | k + 1, j => by
    have := addAt_bd (cntF_bd n out yss k) (firstOf out (yss.getD k [])) (d := 1) (e := 1) (by omega) (by omega) j
    exact ⟨this.1, by rw [cntF]; have := this.2; omega⟩
/-- The last of the ones with the fewest, of those not out; -1 if all are out. -/
def worstF (out cs : List Int) : Nat → Int
  | 0 => -1
  | i + 1 => if !hasB out i && (decide (worstF out cs i < 0) || decide (cs.getD i 0 ≤ cs.getD (worstF out cs i).toNat 0)) then (i : Int) else worstF out cs i
theorem worstF_bd (out cs : List Int) : ∀ i : Nat, -1 ≤ worstF out cs i ∧ worstF out cs i < i
  | 0 => by simp [worstF]
  | i + 1 => by
    have := worstF_bd out cs i
    unfold worstF
    split <;> omega
theorem worstF_yes (out cs : List Int) : ∀ i : Nat, (∃ j : Nat, j < i ∧ hasB out j = false) → 0 ≤ worstF out cs i
  | 0, h => by obtain ⟨j, hj, _⟩ := h; omega
  | i + 1, h => by
    unfold worstF
    split
    · omega
    · rename_i hc
      by_cases h0 : worstF out cs i < 0
      · exfalso
        obtain ⟨j, hj, hh⟩ := h
        by_cases hji : j = i
        · subst hji; simp [hh, h0] at hc
        · have := worstF_yes out cs i ⟨j, by omega, hh⟩
          omega
      · omega
def roundF (n : Nat) (yss : List (List Int)) (out : List Int) : List Int := out ++ [worstF out (cntF n out yss yss.length) n]
def rdF (n : Nat) (yss : List (List Int)) : Nat → List Int
  | 0 => []
  | t + 1 => roundF n yss (rdF n yss t)
theorem rdF_length (n : Nat) (yss : List (List Int)) : ∀ t, (rdF n yss t).length = t
  | 0 => rfl
  | t + 1 => by rw [rdF, roundF, List.length_append, rdF_length n yss t]; rfl
theorem rdF_worst {n t : Nat} (yss : List (List Int)) (h : t < n) : ∃ q : Nat, q < n ∧ worstF (rdF n yss t) (cntF n (rdF n yss t) yss yss.length) n = q := by
  have h1 := worstF_yes (rdF n yss t) (cntF n (rdF n yss t) yss yss.length) n (missing (by rw [rdF_length]; exact h))
  have h2 := (worstF_bd (rdF n yss t) (cntF n (rdF n yss t) yss yss.length) n).2
  exact ⟨(worstF (rdF n yss t) (cntF n (rdF n yss t) yss yss.length) n).toNat, by omega, by omega⟩
def roundsF (yss : List (List Int)) : Option (List Int) := if ballotsB yss then some (rdF (wide yss) yss (wide yss)) else none
end Go.Proofs.Ytkapjlkeohjjbaa
namespace Go.Proofs.Ytkapjlkeohjjbaa
set_option linter.unusedVariables false
set_option linter.unusedSimpArgs false
open Go.RowKit

theorem nodup_at {xs : List Int} (h : xs.Nodup) {i j : Nat} {x : Int} (hi : xs[i]? = some x) (hj : xs[j]? = some x) : i = j := by
  obtain ⟨h1, e1⟩ := List.getElem?_eq_some_iff.1 hi
  obtain ⟨h2, e2⟩ := List.getElem?_eq_some_iff.1 hj
  have hp := List.pairwise_iff_getElem.1 (List.nodup_iff_pairwise_ne.1 h)
  refine Classical.byContradiction fun hne => ?_
  by_cases hlt : i < j
  · exact hp i j h1 h2 hlt (e1.trans e2.symm)
  · exact hp j i h2 h1 (by omega) (e2.trans e1.symm)
theorem order_place {ys : List Int} {n v : Nat} (h : orderB ys n = true) (hv : v < n) : ∃ p, p < n ∧ ys[p]? = some (v : Int) := by
  obtain ⟨h1, h2, h3⟩ := orderB_iff.1 h
  have : (v : Int) ∈ ys := by
    refine Classical.byContradiction fun hno => ?_
    have h4 : ((v : Int) :: ys).Nodup := List.nodup_cons.2 ⟨hno, h2⟩
    have := length_le_of_sub (ys := (List.range n).map fun (j : Nat) => (j : Int)) h4 (fun x hx => by
      rw [List.mem_map]
      rcases List.mem_cons.1 hx with rfl | hx
      · exact ⟨v, List.mem_range.2 hv, rfl⟩
      · have := h1 x hx
        exact ⟨x.toNat, List.mem_range.2 (by omega), by omega⟩)
    simp at this
    omega
  obtain ⟨p, hp, e⟩ := List.getElem_of_mem this
  exact ⟨p, by omega, by rw [List.getElem?_eq_getElem hp, e]⟩
theorem addAt_getD (os : List Int) (i : Nat) (d : Int) (j : Nat) (h : i < os.length) : (addAt os i d).getD j 0 = os.getD j 0 + if i = j then d else 0 := by
  unfold addAt
  simp only [List.getD, List.getElem?_set]
  by_cases e : i = j
  · subst e; rw [if_pos rfl, if_pos h, if_pos rfl]; rfl
  · rw [if_neg e, if_neg e]; omega
theorem idx_inj {u v x j n : Nat} (hv : v < n) (hj : j < n) : u * n + v = x * n + j ↔ u = x ∧ v = j := by
  constructor
  · intro h
    have e1 : (u * n + v) / n = u := by rw [Nat.add_comm, Nat.add_mul_div_right _ _ (by omega), Nat.div_eq_of_lt hv]; omega
    have e2 : (x * n + j) / n = x := by rw [Nat.add_comm, Nat.add_mul_div_right _ _ (by omega), Nat.div_eq_of_lt hj]; omega
    have e3 : u = x := by rw [← e1, ← e2, h]
    subst e3
    exact ⟨rfl, by omega⟩
  · rintro ⟨rfl, rfl⟩; rfl
theorem nat_of_get {ys : List Int} {p q : Nat} (h : ys[p]? = some (q : Int)) : (ys.getD p 0).toNat = q := by simp [List.getD, h]
theorem prI_cell {n : Nat} {ys os : List Int} (h : orderB ys n = true) (hl : os.length = n * n) {i k pi pk p : Nat} (hk : k < n) (hpi : ys[pi]? = some (i : Int)) (hpk : ys[pk]? = some (k : Int)) (hp : p < n) :
    ∀ t, p + 1 + t ≤ n → (prI n ys p t os).getD (i * n + k) 0 = os.getD (i * n + k) 0 + if p = pi ∧ p < pk ∧ pk < p + 1 + t then 1 else 0
  | 0, _ => by
    rw [if_neg (by omega)]; simp [prI]
  | t + 1, ht => by
    obtain ⟨u, hu, hun⟩ := order_get h hp
    obtain ⟨v, hv, hvn⟩ := order_get h (show p + 1 + t < n by omega)
    have ih := prI_cell h hl hk hpi hpk hp t (by omega)
    have hnd := (orderB_iff.1 h).2.1
    show (addAt (prI n ys p t os) _ 1).getD _ 0 = _
    rw [nat_of_get hu, nat_of_get hv, addAt_getD _ _ _ _ (by rw [prI_length, hl]; exact idx_lt hun hvn), ih]
    have e : (u * n + v = i * n + k) ↔ (p = pi ∧ p + 1 + t = pk) := by
      rw [idx_inj hvn hk]
      constructor
      · rintro ⟨rfl, rfl⟩; exact ⟨nodup_at hnd hu hpi, nodup_at hnd hv hpk⟩
      · rintro ⟨rfl, rfl⟩
        rw [hu] at hpi; rw [hv] at hpk
        injection hpi with hpi; injection hpk with hpk
        exact ⟨by omega, by omega⟩
    by_cases c : p = pi ∧ p + 1 + t = pk
    · rw [if_pos (e.2 c), if_neg (by omega), if_pos (by omega)]; omega
    · rw [if_neg (fun x => c (e.1 x))]
      by_cases c2 : p = pi ∧ p < pk ∧ pk < p + 1 + t
      · rw [if_pos c2, if_pos (by omega)]; omega
      · rw [if_neg c2, if_neg (by omega)]; omega
theorem prA_cell {n : Nat} {ys os : List Int} (h : orderB ys n = true) (hl : os.length = n * n) {i k pi pk : Nat} (hk : k < n) (hpi : ys[pi]? = some (i : Int)) (hpk : ys[pk]? = some (k : Int)) :
    ∀ p, p ≤ n → (prA n ys p os).getD (i * n + k) 0 = os.getD (i * n + k) 0 + if pi < p ∧ pi < pk then 1 else 0
  | 0, _ => by
    rw [if_neg (by omega)]; simp [prA]
  | p + 1, hp => by
    have ih := prA_cell h hl hk hpi hpk p (by omega)
    have hpkn : pk < n := by have := (List.getElem?_eq_some_iff.1 hpk).1; have := (orderB_iff.1 h).2.2; omega
    show (prI n ys p (n - (p + 1)) (prA n ys p os)).getD _ 0 = _
    rw [prI_cell h (by rw [prA_length, hl]) hk hpi hpk (by omega) _ (by omega), ih]
    by_cases c1 : pi < p ∧ pi < pk
    · rw [if_pos c1, if_neg (by omega), if_pos (by omega)]; omega
    · rw [if_neg c1]
      by_cases c2 : p = pi ∧ p < pk
      · rw [if_pos (by omega), if_pos (by omega)]; omega
      · rw [if_neg (by omega), if_neg (by omega)]; omega
/-- On how many of the first m ballots one is before another: both ways make m. -/
theorem prF_both {n : Nat} {yss : List (List Int)} (h : ∀ b ∈ yss, orderB b n = true) {i k : Nat} (hi : i < n) (hk : k < n) (hik : i ≠ k) :
    ∀ m, m ≤ yss.length → (prF n yss m).getD (i * n + k) 0 + (prF n yss m).getD (k * n + i) 0 = m
  | 0, _ => by
    have h1 := idx_lt hi hk
    have h2 := idx_lt hk hi
    simp only [prF, List.getD, List.getElem?_replicate]
    rw [if_pos h1, if_pos h2]; rfl
  | m + 1, hm => by
    have ih := prF_both h hi hk hik m (by omega)
    have hb : orderB (yss.getD m []) n = true := h _ (by simp only [List.getD, List.getElem?_eq_getElem (show m < yss.length by omega)]; exact List.getElem_mem _)
    obtain ⟨p, hp, e1⟩ := order_place hb hi
    obtain ⟨q, hq, e2⟩ := order_place hb hk
    have hne : p ≠ q := by
      rintro rfl
      rw [e1] at e2
      injection e2 with e2
      omega
    show (prA n (yss.getD m []) n (prF n yss m)).getD _ 0 + (prA n (yss.getD m []) n (prF n yss m)).getD _ 0 = _
    rw [prA_cell hb (prF_length _ _ _) hk e1 e2 n (Nat.le_refl _), prA_cell hb (prF_length _ _ _) hi e2 e1 n (Nat.le_refl _)]
    by_cases c : p < q
    · rw [if_pos (by omega), if_neg (by omega)]; omega
    · rw [if_neg (by omega), if_pos (by omega)]; omega
theorem prF_diag {n : Nat} {yss : List (List Int)} (h : ∀ b ∈ yss, orderB b n = true) {i : Nat} (hi : i < n) : ∀ m, m ≤ yss.length → (prF n yss m).getD (i * n + i) 0 = 0
  | 0, _ => by
    have h1 := idx_lt hi hi
    simp only [prF, List.getD, List.getElem?_replicate]
    rw [if_pos h1]; rfl
  | m + 1, hm => by
    have ih := prF_diag h hi m (by omega)
    have hb : orderB (yss.getD m []) n = true := h _ (by simp only [List.getD, List.getElem?_eq_getElem (show m < yss.length by omega)]; exact List.getElem_mem _)
    obtain ⟨p, hp, e1⟩ := order_place hb hi
    show (prA n (yss.getD m []) n (prF n yss m)).getD _ 0 = _
    rw [prA_cell hb (prF_length _ _ _) hi e1 e1 n (Nat.le_refl _), if_neg (by omega), ih]; rfl
/-- The sum of a row of the table, up to a place. -/
def rowS (tb : List Int) (n i : Nat) : Nat → Int
  | 0 => 0
  | k + 1 => rowS tb n i k + tb.getD (i * n + k) 0
theorem rowS_add {tb : List Int} {n i u v : Nat} {d : Int} (hl : tb.length = n * n) (hu : u < n) (hv : v < n) : ∀ k, k ≤ n → rowS (addAt tb (u * n + v) d) n i k = rowS tb n i k + if u = i ∧ v < k then d else 0
  | 0, _ => by simp [rowS]
  | k + 1, hk => by
    simp only [rowS]
    rw [rowS_add hl hu hv k (by omega), addAt_getD _ _ _ _ (by rw [hl]; exact idx_lt hu hv)]
    have e := @idx_inj u v i k n hv (by omega)
    by_cases c : u = i ∧ v = k
    · rw [if_pos (e.2 c), if_neg (by omega), if_pos (by omega)]; omega
    · rw [if_neg (fun x => c (e.1 x))]
      by_cases c2 : u = i ∧ v < k
      · rw [if_pos c2, if_pos (by omega)]; omega
      · rw [if_neg c2, if_neg (by omega)]; omega
theorem prI_row {n : Nat} {ys os : List Int} (h : orderB ys n = true) (hl : os.length = n * n) {i u p : Nat} (hp : p < n) (hu : ys[p]? = some (u : Int)) (hun : u < n) :
    ∀ t, p + 1 + t ≤ n → rowS (prI n ys p t os) n i n = rowS os n i n + if u = i then (t : Int) else 0
  | 0, _ => by simp [prI]
  | t + 1, ht => by
    obtain ⟨v, hv, hvn⟩ := order_get h (show p + 1 + t < n by omega)
    show rowS (addAt (prI n ys p t os) _ 1) n i n = _
    rw [nat_of_get hu, nat_of_get hv, rowS_add (by rw [prI_length, hl]) hun hvn n (Nat.le_refl _), prI_row h hl hp hu hun t (by omega)]
    by_cases c : u = i
    · rw [if_pos c, if_pos ⟨c, hvn⟩, if_pos c]; omega
    · rw [if_neg c, if_neg (fun x => c x.1), if_neg c]; omega
theorem prA_row {n : Nat} {ys os ps : List Int} (h : orderB ys n = true) (hl : os.length = n * n) (hl2 : ps.length = n) {i : Nat} (h0 : rowS os n i n = ps.getD i 0) :
    ∀ p, p ≤ n → rowS (prA n ys p os) n i n = (ptsB n ys p ps).getD i 0
  | 0, _ => by simpa [prA, ptsB] using h0
  | p + 1, hp => by
    obtain ⟨u, hu, hun⟩ := order_get h (show p < n by omega)
    show rowS (prI n ys p (n - (p + 1)) (prA n ys p os)) n i n = (addAt (ptsB n ys p ps) _ _).getD i 0
    rw [prI_row h (by rw [prA_length, hl]) (by omega) hu hun _ (by omega), prA_row h hl hl2 h0 p (by omega), nat_of_get hu, addAt_getD _ _ _ _ (by rw [ptsB_length, hl2]; exact hun)]
    by_cases c : u = i
    · rw [if_pos c, if_pos c]; omega
    · rw [if_neg c, if_neg c]
theorem rowS_zero (n i m : Nat) : ∀ k, rowS (List.replicate m 0) n i k = 0
  | 0 => rfl
  | k + 1 => by
    simp only [rowS, rowS_zero n i m k, List.getD, List.getElem?_replicate]
    split <;> simp
/-- The sums of the rows are the points. -/
theorem prF_row {n : Nat} {yss : List (List Int)} (h : ∀ b ∈ yss, orderB b n = true) (i : Nat) : ∀ m, m ≤ yss.length → rowS (prF n yss m) n i n = (ptsF n yss m).getD i 0
  | 0, _ => by
    simp only [prF, ptsF, rowS_zero, List.getD, List.getElem?_replicate]
    split <;> simp
  | m + 1, hm => by
    have ih := prF_row h i m (by omega)
    have hb : orderB (yss.getD m []) n = true := h _ (by simp only [List.getD, List.getElem?_eq_getElem (show m < yss.length by omega)]; exact List.getElem_mem _)
    exact prA_row hb (prF_length _ _ _) (ptsF_length _ _ _) ih n (Nat.le_refl _)
/-- Who wins all pairs so far, among the first k others. -/
def winB (tb : List Int) (n i : Nat) : Nat → Bool
  | 0 => true
  | k + 1 => if k = i then winB tb n i k else winB tb n i k && decide (tb.getD (k * n + i) 0 < tb.getD (i * n + k) 0)
theorem winB_iff (tb : List Int) (n i : Nat) : ∀ k, winB tb n i k = true ↔ ∀ j, j < k → j ≠ i → tb.getD (j * n + i) 0 < tb.getD (i * n + j) 0
  | 0 => by simp [winB]
  | k + 1 => by
    simp only [winB]
    by_cases c : k = i
    · rw [if_pos c, winB_iff tb n i k]
      constructor
      · intro h j hj hne; exact h j (by omega) hne
      · intro h j hj hne; exact h j (by omega) hne
    · rw [if_neg c, Bool.and_eq_true, winB_iff tb n i k, decide_eq_true_iff]
      constructor
      · rintro ⟨h, h2⟩ j hj hne
        by_cases e : j = k
        · subst e; exact h2
        · exact h j (by omega) hne
      · intro h; exact ⟨fun j hj hne => h j (by omega) hne, h k (by omega) c⟩
/-- The last one so far who wins. -/
def lastW (tb : List Int) (n : Nat) : Nat → Int
  | 0 => -1
  | i + 1 => if winB tb n i n then (i : Int) else lastW tb n i
theorem lastW_bd (tb : List Int) (n : Nat) : ∀ i, -1 ≤ lastW tb n i ∧ lastW tb n i < i
  | 0 => by simp [lastW]
  | i + 1 => by have := lastW_bd tb n i; simp only [lastW]; split <;> omega
theorem loses_winB {tb : List Int} {n m : Nat} (hb : ∀ i k, i < n → k < n → i ≠ k → tb.getD (i * n + k) 0 + tb.getD (k * n + i) 0 = m) {i : Nat} (hi : i < n) : (!anyI (losesB tb n m i) n) = winB tb n i n := by
  rw [Bool.eq_iff_iff, winB_iff, Bool.not_eq_true', anyI_no]
  constructor
  · intro h j hj hne
    have h1 := h j hj
    have h2 := hb i j hi hj (fun e => hne e.symm)
    simp only [losesB, Bool.and_eq_false_iff, decide_eq_false_iff_not] at h1
    rcases h1 with h1 | h1
    · simp at h1; omega
    · omega
  · intro h j hj
    simp only [losesB, Bool.and_eq_false_iff, decide_eq_false_iff_not]
    by_cases e : j = i
    · exact .inl (by simp [e])
    · have h2 := hb i j hi hj (fun e' => e e'.symm)
      have := h j hj e
      exact .inr (by omega)
theorem winI_last {tb : List Int} {n m : Nat} (hb : ∀ i k, i < n → k < n → i ≠ k → tb.getD (i * n + k) 0 + tb.getD (k * n + i) 0 = m) : winI tb n m = lastW tb n n := by
  have key : ∀ i, i ≤ n → (lastW tb n i = -1 ∧ ∀ j, j < i → winB tb n j n = false) ∨ ∃ k, k < i ∧ lastW tb n i = k ∧ winB tb n k n = true := by
    intro i
    induction i with
    | zero => intro _; exact .inl ⟨rfl, fun j hj => by omega⟩
    | succ i ih =>
      intro hi
      cases c : winB tb n i n with
      | true => exact .inr ⟨i, by omega, by simp [lastW, c], c⟩
      | false =>
        rcases ih (by omega) with ⟨h1, h2⟩ | ⟨k, h1, h2, h3⟩
        · refine .inl ⟨by simp [lastW, c, h1], fun j hj => ?_⟩
          by_cases e : j = i
          · subst e; exact c
          · exact h2 j (by omega)
        · exact .inr ⟨k, by omega, by simp [lastW, c, h2], h3⟩
  rcases key n (Nat.le_refl _) with ⟨h1, h2⟩ | ⟨k, h1, h2, h3⟩
  · rw [h1]
    exact findI_none fun j hj => by rw [loses_winB hb hj]; exact h2 j hj
  · rw [h2]
    refine findI_here h1 (by rw [loses_winB hb h1]; exact h3) fun j hj => ?_
    rw [loses_winB hb (by omega)]
    cases c : winB tb n j n with
    | false => rfl
    | true =>
      have e1 := (winB_iff tb n j n).1 c k h1 (by omega)
      have e2 := (winB_iff tb n k n).1 h3 j (by omega) (by omega)
      omega
/-- An order that grows by one, at any place. -/
def insAt (xs : List Int) (p : Nat) (x : Int) : List Int := xs.take p ++ [x] ++ xs.drop p
theorem insAt_perm (xs : List Int) (p : Nat) (x : Int) : (insAt xs p x).Perm (x :: xs) := by
  unfold insAt
  have h1 : (xs.take p ++ [x] ++ xs.drop p).Perm ([x] ++ (xs.take p ++ xs.drop p)) := by
    rw [← List.append_assoc]
    exact List.Perm.append_right _ List.perm_append_comm
  rw [List.take_append_drop] at h1
  exact h1
theorem insAt_length (xs : List Int) (p : Nat) (x : Int) : (insAt xs p x).length = xs.length + 1 := by rw [(insAt_perm xs p x).length_eq]; rfl
theorem insAt_order {xs : List Int} {i p : Nat} (h : orderB xs i = true) : orderB (insAt xs p (i : Int)) (i + 1) = true := by
  obtain ⟨h1, h2, h3⟩ := orderB_iff.1 h
  refine orderB_iff.2 ⟨fun x hx => ?_, ?_, by rw [insAt_length, h3]⟩
  · rcases List.mem_cons.1 ((insAt_perm xs p i).mem_iff.1 hx) with rfl | hx
    · omega
    · have := h1 x hx; omega
  · refine (insAt_perm xs p i).nodup_iff.2 (List.nodup_cons.2 ⟨fun hm => ?_, h2⟩)
    have := h1 _ hm; omega
end Go.Proofs.Ytkapjlkeohjjbaa
namespace Go.Proofs.Ytkapjlkeohjjbaa
set_option linter.unusedVariables false
set_option linter.unusedSimpArgs false
open Go.RowKit

/-- Parts of an estate in parts of a unit. -/
structure Fair (xs : List Int) (e : Int) (P : List Int) : Prop where
  len : P.length = xs.length
  bd : ∀ i, i < xs.length → 0 ≤ P.getD i 0 ∧ P.getD i 0 ≤ xs.getD i 0 * 1680
  all : P.sum = e * 1680
theorem mapM_getD (xs : List Int) (m : Int) (i : Nat) : (xs.map (· * m)).getD i 0 = xs.getD i 0 * m := by
  by_cases h : i < xs.length
  · simp [List.getD, List.getElem?_map, List.getElem?_eq_getElem h]
  · simp [List.getD, List.getElem?_map, List.getElem?_eq_none (show xs.length ≤ i by omega)]
theorem sum_eq (P : List Int) {n : Nat} (h : P.length = n) : P.sum = sumN (fun i => P.getD i 0) n := by rw [← h, sumN_list]
theorem lessF_getD {xs ys : List Int} {i : Nat} (h : i < xs.length) : (lessF xs ys).getD i 0 = xs.getD i 0 - ys.getD i 0 := by
  unfold lessF
  simp [List.getD, List.getElem?_map, h]
theorem sumN_sub (f g : Nat → Int) : ∀ n, sumN (fun i => f i - g i) n = sumN f n - sumN g n
  | 0 => rfl
  | n + 1 => by simp only [sumN]; rw [sumN_sub f g n]; omega
theorem lvl {xs : List Int} {e : Int} (h : claimsB xs e = true) (m : Int) (hm : m = 840 ∨ m = 1680) {E : Int} (h0 : 0 ≤ E) (h1 : E ≤ xs.sum * m) (hd : E % 840 = 0) : Level (xs.map (· * m)) E (gainF (xs.map (· * m)) E) := by
  obtain ⟨s1, s2, s3, _⟩ := scale_facts h m hm
  exact gain_level (by have := (claimsB_iff.1 h).1; omega) s2 h0 (by rw [sum_scale]; exact h1) hd
theorem lvl_getD {xs : List Int} {m E : Int} {P : List Int} (h : Level (xs.map (· * m)) E P) : P.length = xs.length ∧ P.sum = E ∧ ∃ lam : Int, ∀ i, i < xs.length → P.getD i 0 = min (xs.getD i 0 * m) lam := by
  obtain ⟨h1, h2, lam, h3⟩ := h
  rw [List.length_map] at h1 h2 h3
  refine ⟨h1, by rw [sum_eq P h1]; exact h2, lam, fun i hi => by rw [h3 i hi, mapM_getD]⟩
/-- Equal gains. -/
theorem gains_law {xs : List Int} {e : Int} (h : claimsB xs e = true) : ∃ G, eqGF xs e = some G ∧ Fair xs e G ∧ ∃ lam : Int, ∀ i, i < xs.length → G.getD i 0 < xs.getD i 0 * 1680 → G.getD i 0 = lam := by
  obtain ⟨⟨l1, l8⟩, hx, e0, e1⟩ := claimsB_iff.1 h
  obtain ⟨g1, g2, lam, g3⟩ := lvl_getD (lvl h 1680 (.inr rfl) (E := e * 1680) (by omega) (by omega) (by omega))
  refine ⟨_, by unfold eqGF; rw [if_pos h], ⟨g1, fun i hi => ⟨(gain_getD h 1680 (.inr rfl) (by omega) (by omega) i).1, by rw [g3 i hi]; omega⟩, g2⟩, lam, fun i hi hl => by rw [g3 i hi] at hl ⊢; omega⟩
/-- Equal losses. -/
theorem losses_law {xs : List Int} {e : Int} (h : claimsB xs e = true) : ∃ L, eqLF xs e = some L ∧ Fair xs e L ∧ ∃ lam : Int, ∀ i, i < xs.length → 0 < L.getD i 0 → xs.getD i 0 * 1680 - L.getD i 0 = lam := by
  obtain ⟨⟨l1, l8⟩, hx, e0, e1⟩ := claimsB_iff.1 h
  obtain ⟨g1, g2, lam, g3⟩ := lvl_getD (lvl h 1680 (.inr rfl) (E := (xs.sum - e) * 1680) (by omega) (by omega) (by omega))
  have hg0 := fun i => (gain_getD h 1680 (.inr rfl) (E := (xs.sum - e) * 1680) (by omega) (by omega) i).1
  have hL : ∀ i, i < xs.length → (lessF (xs.map (· * 1680)) (gainF (xs.map (· * 1680)) ((xs.sum - e) * 1680))).getD i 0 = xs.getD i 0 * 1680 - (gainF (xs.map (· * 1680)) ((xs.sum - e) * 1680)).getD i 0 := fun i hi => by
    rw [lessF_getD (by simpa using hi), mapM_getD]
  have hlen : (lessF (xs.map (· * 1680)) (gainF (xs.map (· * 1680)) ((xs.sum - e) * 1680))).length = xs.length := by rw [lessF_length, List.length_map]
  refine ⟨_, by unfold eqLF; rw [if_pos h], ⟨hlen, fun i hi => ?_, ?_⟩, lam, fun i hi hl => ?_⟩
  · rw [hL i hi]
    have := hg0 i
    rw [g3 i hi] at this ⊢
    omega
  · rw [sum_eq _ hlen, sumN_congr hL, sumN_sub, ← sum_eq _ g1, g2]
    have : sumN (fun i => xs.getD i 0 * 1680) xs.length = xs.sum * 1680 := by
      rw [← sumN_list, Int.mul_comm, ← sumN_mul]
      exact sumN_congr fun i _ => Int.mul_comm _ _
    rw [this]; omega
  · rw [hL i hi] at hl ⊢
    rw [g3 i hi] at hl ⊢
    omega
/-- Halves, and the halves of what is not given. -/
theorem halves_law {xs : List Int} {e : Int} (h : claimsB xs e = true) : ∃ H O, halfF xs e = some H ∧ halfF xs (xs.sum - e) = some O ∧ Fair xs e H ∧ O.length = xs.length ∧ ∀ i, i < xs.length → H.getD i 0 + O.getD i 0 = xs.getD i 0 * 1680 := by
  obtain ⟨⟨l1, l8⟩, hx, e0, e1⟩ := claimsB_iff.1 h
  have h2 : claimsB xs (xs.sum - e) = true := claimsB_iff.2 ⟨⟨l1, l8⟩, hx, by omega, by omega⟩
  have hx0 : ∀ i, 0 ≤ xs.getD i 0 := fun i => (getD_bd hx (by omega) (by omega) i).1
  have half : ∀ E : Int, 0 ≤ E → 2 * E ≤ xs.sum → ∃ P, P = gainF (xs.map (· * 840)) (E * 1680) ∧ P.length = xs.length ∧ P.sum = E * 1680 ∧ ∀ i, i < xs.length → 0 ≤ P.getD i 0 ∧ P.getD i 0 ≤ xs.getD i 0 * 840 := by
    intro E hE0 hE1
    obtain ⟨g1, g2, lam, g3⟩ := lvl_getD (lvl h 840 (.inl rfl) (E := E * 1680) (by omega) (by omega) (by omega))
    exact ⟨_, rfl, g1, g2, fun i hi => ⟨(gain_getD h 840 (.inl rfl) (E := E * 1680) (by omega) (by omega) i).1, by rw [g3 i hi]; omega⟩⟩
  have opp : ∀ P : List Int, P.length = xs.length → (∀ i, i < xs.length → 0 ≤ P.getD i 0 ∧ P.getD i 0 ≤ xs.getD i 0 * 840) → (lessF (xs.map (· * 1680)) P).length = xs.length ∧ (∀ i, i < xs.length → (lessF (xs.map (· * 1680)) P).getD i 0 = xs.getD i 0 * 1680 - P.getD i 0) ∧ (lessF (xs.map (· * 1680)) P).sum = xs.sum * 1680 - P.sum := by
    intro P hP hb
    have hlen : (lessF (xs.map (· * 1680)) P).length = xs.length := by rw [lessF_length, List.length_map]
    have hg : ∀ i, i < xs.length → (lessF (xs.map (· * 1680)) P).getD i 0 = xs.getD i 0 * 1680 - P.getD i 0 := fun i hi => by rw [lessF_getD (by simpa using hi), mapM_getD]
    refine ⟨hlen, hg, ?_⟩
    rw [sum_eq _ hlen, sumN_congr hg, sumN_sub, ← sum_eq _ hP]
    have : sumN (fun i => xs.getD i 0 * 1680) xs.length = xs.sum * 1680 := by
      rw [← sumN_list, Int.mul_comm, ← sumN_mul]
      exact sumN_congr fun i _ => Int.mul_comm _ _
    rw [this]
  rcases Int.lt_or_le xs.sum (2 * e) with hc | hc
  · obtain ⟨P, hP, p1, p2, p3⟩ := half (xs.sum - e) (by omega) (by omega)
    obtain ⟨o1, o2, o3⟩ := opp P p1 p3
    refine ⟨lessF (xs.map (· * 1680)) P, P, by unfold halfF; rw [if_pos h, if_neg (by omega), hP], by unfold halfF; rw [if_pos h2, if_pos (by omega), hP], ⟨o1, fun i hi => ?_, by rw [o3, p2]; omega⟩, p1, fun i hi => by rw [o2 i hi]; omega⟩
    have := p3 i hi
    have := hx0 i
    rw [o2 i hi]; omega
  · obtain ⟨P, hP, p1, p2, p3⟩ := half e (by omega) (by omega)
    have hfair : Fair xs e P := ⟨p1, fun i hi => by have := p3 i hi; have := hx0 i; omega, p2⟩
    rcases Int.lt_or_le (2 * e) xs.sum with hd | hd
    · obtain ⟨o1, o2, o3⟩ := opp P p1 p3
      refine ⟨P, lessF (xs.map (· * 1680)) P, by unfold halfF; rw [if_pos h, if_pos hc, hP], by unfold halfF; rw [if_pos h2, if_neg (by omega), hP, show xs.sum - (xs.sum - e) = e from by omega], hfair, o1, fun i hi => by rw [o2 i hi]; omega⟩
    · have he : xs.sum - e = e := by omega
      refine ⟨P, P, by unfold halfF; rw [if_pos h, if_pos hc, hP], by rw [he]; unfold halfF; rw [if_pos h, if_pos hc, hP], hfair, p1, fun i hi => ?_⟩
      have hs : sumN (fun i => P.getD i 0) xs.length = sumN (fun i => xs.getD i 0 * 840) xs.length := by
        have h840 : sumN (fun i => xs.getD i 0 * 840) xs.length = xs.sum * 840 := by
          rw [← sumN_list, Int.mul_comm, ← sumN_mul]
          exact sumN_congr fun i _ => Int.mul_comm _ _
        rw [← sum_eq _ p1, p2, h840]; omega
      have := sumN_eq (fun i hi => (p3 i hi).2) hs i hi
      omega
/-- What is taken in an order is all of the estate. -/
theorem take_inv {cs os : List Int} {e : Int} (h0 : 0 ≤ e) (h1 : e ≤ 8000) (hc : ∀ x ∈ cs, 0 ≤ x ∧ x ≤ 1000) (hor : orderB os cs.length = true) : ∀ k, k ≤ cs.length → (takeS cs os e k).1.sum + (takeS cs os e k).2 = e ∧ (∀ j, k ≤ j → j < cs.length → (takeS cs os e k).1.getD (os.getD j 0).toNat 0 = 0) ∧ (0 < (takeS cs os e k).2 → ∀ j, j < k → (takeS cs os e k).1.getD (os.getD j 0).toNat 0 = cs.getD (os.getD j 0).toNat 0)
  | 0, _ => ⟨by simp [takeS], fun j _ _ => by
      simp only [takeS, List.getD, List.getElem?_replicate]
      split <;> rfl, fun _ j hj => by omega⟩
  | k + 1, hk => by
    obtain ⟨i1, i2, i3⟩ := take_inv h0 h1 hc hor k (by omega)
    obtain ⟨o1, o2, o3⟩ := orderB_iff.1 hor
    have hb := (takeS_bd (os := os) h0 h1 hc k).1
    have hl := takeS_len cs os e k
    have hinj : ∀ i j, i < cs.length → j < cs.length → (os.getD i 0).toNat = (os.getD j 0).toNat → i = j := by
      intro i j hi hj he
      have gi := get_of_lt (xs := os) (k := i) (by omega)
      have gj := get_of_lt (xs := os) (k := j) (by omega)
      have m1 := o1 _ (List.mem_of_getElem? gi)
      have m2 := o1 _ (List.mem_of_getElem? gj)
      have : os.getD i 0 = os.getD j 0 := by omega
      rw [← this] at gj
      exact nodup_get o2 gi gj
    have hq : (os.getD k 0).toNat < cs.length := by
      have gk := get_of_lt (xs := os) (k := k) (by omega)
      have m1 := o1 _ (List.mem_of_getElem? gk)
      omega
    have hz := i2 k (Nat.le_refl _) (by omega)
    have hck := getD_bd hc (by omega) (by omega) (os.getD k 0).toNat
    simp only [takeS]
    refine ⟨?_, fun j hj hj2 => ?_, fun hp j hj => ?_⟩
    · rw [sum_set _ _ _ (by omega), hz]; omega
    · rw [getD_set_ne (by intro he; have := hinj j k hj2 (by omega) he; omega)]
      exact i2 j (by omega) hj2
    · rcases Nat.lt_or_ge j k with hjk | hjk
      · rw [getD_set_ne (by intro he; have := hinj j k (by omega) (by omega) he; omega)]
        exact i3 (by omega) j hjk
      · obtain rfl : j = k := by omega
        rw [getD_set_self (by omega)]; omega
theorem take_all {cs os : List Int} {e : Int} (h : claimsB cs e = true) (hor : orderB os cs.length = true) : (takeF cs os e).sum = e := by
  obtain ⟨⟨l1, l8⟩, hx, e0, e1⟩ := claimsB_iff.1 h
  obtain ⟨o1, o2, o3⟩ := orderB_iff.1 hor
  obtain ⟨s0, s1⟩ := claims_sum hx
  obtain ⟨i1, i2, i3⟩ := take_inv e0 (by omega) hx hor cs.length (Nat.le_refl _)
  have hb := (takeS_bd (os := os) e0 (by omega) hx cs.length).1
  unfold takeF
  rw [o3]
  rcases Int.lt_or_le 0 (takeS cs os e cs.length).2 with hp | hp
  · have hall : (takeS cs os e cs.length).1 = cs := by
      apply List.ext_getElem
      · exact takeS_len _ _ _ _
      · intro i hi1 hi2
        obtain ⟨j, hjn, e2⟩ := order_place hor (v := i) (by rw [← takeS_len cs os e cs.length]; exact hi1)
        have hgj : os.getD j 0 = (i : Int) := by simp [List.getD, e2]
        have := i3 hp j (by omega)
        rw [hgj, Int.toNat_natCast] at this
        simpa [List.getD, List.getElem?_eq_getElem hi1, List.getElem?_eq_getElem hi2] using this
    rw [hall] at i1 ⊢
    omega
  · omega
/-- What all others leave. -/
theorem sure_law {xs : List Int} {e : Int} {P : List Int} (h : claimsB xs e = true) (hP : Fair xs e P) {i : Nat} (hi : i < xs.length) : 0 ≤ (sureF xs e).getD i 0 ∧ (sureF xs e).getD i 0 ≤ P.getD i 0 := by
  have hg : (sureF xs e).getD i 0 = max 0 (e - (xs.sum - xs.getD i 0)) * 1680 := by
    simp [sureF, List.getD, List.getElem?_map, List.getElem?_eq_getElem hi]
  have hd : ∀ (f g : Nat → Int) (n i : Nat), i < n → (∀ j, j < n → f j ≤ g j) → sumN f n - f i ≤ sumN g n - g i := by
    intro f g n
    induction n with
    | zero => intro i hi; omega
    | succ n ih =>
      intro i hi hfg
      simp only [sumN]
      rcases Nat.lt_or_ge i n with h | h
      · have := ih i h (fun j hj => hfg j (by omega))
        have := hfg n (by omega)
        omega
      · obtain rfl : i = n := by omega
        have : sumN f i ≤ sumN g i := sumN_le fun j hj => hfg j (by omega)
        omega
  have h1 := hd (fun j => P.getD j 0) (fun j => xs.getD j 0 * 1680) xs.length i hi (fun j hj => (hP.bd j hj).2)
  have h2 : sumN (fun i => xs.getD i 0 * 1680) xs.length = xs.sum * 1680 := by
    rw [← sumN_list, Int.mul_comm, ← sumN_mul]
    exact sumN_congr fun i _ => Int.mul_comm _ _
  rw [← sum_eq _ hP.len, hP.all, h2] at h1
  have h3 := (hP.bd i hi).1
  rw [hg]
  omega
end Go.Proofs.Ytkapjlkeohjjbaa
namespace Go.Proofs.Ytkapjlkeohjjbaa
set_option linter.unusedVariables false
set_option linter.unusedSimpArgs false
open Ieee

/-- A word stands for V times 2 to the -1074; its significand is m. -/
def IsM (f : Format) (b V m : Nat) : Prop := ∃ p : Int, f.read b = .number false m p ∧ f.leastPlace ≤ p ∧ -1074 ≤ p ∧ m * 2 ^ (p + 1074).toNat = V
def Is (f : Format) (b V : Nat) : Prop := ∃ m, IsM f b V m
theorem pow_add_toNat {a b c : Int} (ha : 0 ≤ a) (hb : 0 ≤ b) (h : c = a + b) : 2 ^ a.toNat * 2 ^ b.toNat = 2 ^ c.toNat := by
  rw [← Nat.pow_add]; congr 1; omega
/-- Nought. -/
theorem is_zero (f : Format) (hl : -1074 ≤ f.leastPlace) : Is f 0 0 := by
  refine ⟨0, f.leastPlace, ?_, Int.le_refl _, hl, by rw [Nat.zero_mul]⟩
  unfold Format.read
  have hb : 0 < f.binade := Nat.two_pow_pos _
  simp [hb]
theorem read_rung (f : Format) (q k : Nat) (h1 : q = 0 ∨ f.binade ≤ k) (h2 : k ≤ 2 * f.binade) (h3 : q * f.binade + k < f.infRung) (hl : -1074 ≤ f.leastPlace) :
    ∃ m, IsM f (q * f.binade + k) (k * 2 ^ q * 2 ^ (f.leastPlace + 1074).toNat) m ∧ (f.binade ≤ k → f.binade ≤ m ∧ m < 2 * f.binade) := by
  have hb : 0 < f.binade := Nat.two_pow_pos _
  have hs := f.infRung_lt
  have e1 : (q * f.binade + k) / f.signWeight = 0 := Nat.div_eq_of_lt (by omega)
  have e2 : (q * f.binade + k) % f.signWeight = q * f.binade + k := Nat.mod_eq_of_lt (by omega)
  have er : ∀ d, f.read (q * f.binade + k) = d ↔ (if q * f.binade + k < f.binade then Datum.number false (q * f.binade + k) f.leastPlace else .number false (f.binade + (q * f.binade + k) % f.binade) (f.leastPlace + ((q * f.binade + k) / f.binade - 1 : Nat))) = d := by
    intro d
    unfold Format.read
    simp only [e1, e2, if_pos h3]
    rfl
  rcases Nat.lt_or_ge k f.binade with hk | hk
  · have hq : q = 0 := by rcases h1 with h | h; exact h; omega
    subst hq
    refine ⟨k, ⟨f.leastPlace, ?_, Int.le_refl _, hl, ?_⟩, fun h => by omega⟩
    · rw [er, if_pos (by omega)]; simp
    · rw [Nat.pow_zero, Nat.mul_one]
  · have hqb : 0 ≤ q * f.binade := Nat.zero_le _
    rcases Nat.lt_or_ge k (2 * f.binade) with hk2 | hk2
    · obtain ⟨t, ht⟩ : ∃ t, k = f.binade + t := ⟨k - f.binade, by omega⟩
      have e3 : q * f.binade + k = t + f.binade * (q + 1) := by rw [ht, Nat.mul_add, Nat.mul_comm f.binade q, Nat.mul_one]; omega
      have e4 : (t + f.binade * (q + 1)) / f.binade = q + 1 := by rw [Nat.add_mul_div_left _ _ hb, Nat.div_eq_of_lt (by omega)]; omega
      have e5 : (t + f.binade * (q + 1)) % f.binade = t := by rw [Nat.add_mul_mod_self_left, Nat.mod_eq_of_lt (by omega)]
      refine ⟨k, ⟨f.leastPlace + (q : Int), ?_, by omega, by omega, ?_⟩, fun _ => ⟨hk, hk2⟩⟩
      · rw [er, if_neg (by omega), e3, e4, e5, ← ht]; rfl
      · rw [Nat.mul_assoc]
        congr 1
        rw [← Nat.pow_add]; congr 1; omega
    · have hk3 : k = 2 * f.binade := by omega
      have e3 : q * f.binade + k = 0 + f.binade * (q + 2) := by rw [hk3, Nat.mul_add, Nat.mul_comm f.binade q]; omega
      have e4 : (0 + f.binade * (q + 2)) / f.binade = q + 2 := by rw [Nat.add_mul_div_left _ _ hb, Nat.zero_div]; omega
      have e5 : (0 + f.binade * (q + 2)) % f.binade = 0 := by rw [Nat.add_mul_mod_self_left, Nat.zero_mod]
      refine ⟨f.binade, ⟨f.leastPlace + ((q + 1 : Nat) : Int), ?_, by omega, by omega, ?_⟩, fun _ => ⟨Nat.le_refl _, by omega⟩⟩
      · rw [er, if_neg (by omega), e3, e4, e5]; rfl
      · have e6 : (f.leastPlace + ((q + 1 : Nat) : Int) + 1074).toNat = 1 + q + (f.leastPlace + 1074).toNat := by omega
        rw [hk3, e6, Nat.pow_add, Nat.pow_add, Nat.pow_one]
        ac_rfl
/-- Rounding to the nearest. -/
theorem cut_near (n d : Nat) (hd : d ≤ n.log2 + 2) : (n / 2 ^ d ≤ Toward.even.cut false n d ∧ Toward.even.cut false n d ≤ n / 2 ^ d + 1) ∧ 2 * (2 ^ d * Toward.even.cut false n d) ≤ 2 * n + 2 ^ d ∧ 2 * n ≤ 2 * (2 ^ d * Toward.even.cut false n d) + 2 ^ d ∧ (n % 2 ^ d = 0 → 2 ^ d * Toward.even.cut false n d = n) := by
  unfold Toward.cut
  simp only [Nat.min_eq_left hd, Nat.one_shiftLeft]
  have hg : 0 < 2 ^ d := Nat.two_pow_pos d
  have hn := Nat.div_add_mod n (2 ^ d)
  have hr := Nat.mod_lt n hg
  generalize 2 ^ d = g at *
  generalize n / g = low at *
  generalize n % g = rest at *
  cases hm : (decide (g < 2 * rest) || (g == 2 * rest && low % 2 == 1)) with
  | false =>
    simp only [Bool.or_eq_false_iff, decide_eq_false_iff_not] at hm
    obtain ⟨h1, _⟩ := hm
    simp only [Bool.toNat_false, Nat.add_zero]
    exact ⟨⟨Nat.le_refl _, by omega⟩, by omega, by omega, fun h => by omega⟩
  | true =>
    simp only [Bool.or_eq_true, decide_eq_true_eq, Bool.and_eq_true, beq_iff_eq] at hm
    have h1 : g ≤ 2 * rest := by rcases hm with h | ⟨h, _⟩ <;> omega
    simp only [Bool.toNat_true]
    rw [Nat.mul_add, Nat.mul_one]
    exact ⟨⟨by omega, by omega⟩, by omega, by omega, fun h => by omega⟩
theorem cut_zero (n : Nat) : Toward.even.cut false n 0 = n := by simp [Toward.cut, Nat.mod_one]
/-- The nearest word of a number that is not tiny. -/
theorem nearest_val (f : Format) (mag : Nat) (place : Int) (hm : 0 < mag) (h0 : -1074 ≤ place) (hl : -1074 ≤ f.leastPlace)
    (hN : f.leastPlace ≤ place + mag.log2 - f.fractionBits) (hq : place + mag.log2 - f.fractionBits - f.leastPlace + 2 < ((2 ^ f.exponentBits - 1 : Nat) : Int)) :
    ∃ V m, IsM f (f.nearest false mag place) V m ∧ f.binade ≤ m ∧ m < 2 * f.binade ∧
      2 * V ≤ 2 * (mag * 2 ^ (place + 1074).toNat) + 2 ^ (mag.log2 - f.fractionBits) * 2 ^ (place + 1074).toNat ∧
      2 * (mag * 2 ^ (place + 1074).toNat) ≤ 2 * V + 2 ^ (mag.log2 - f.fractionBits) * 2 ^ (place + 1074).toNat ∧
      (mag % 2 ^ (mag.log2 - f.fractionBits) = 0 → V = mag * 2 ^ (place + 1074).toNat) ∧ 2 ^ (mag.log2 - f.fractionBits) * 2 ^ (place + 1074).toNat ∣ V := by
  have l1 : 2 ^ mag.log2 ≤ mag := Nat.log2_self_le (by omega)
  have l2 : mag < 2 ^ (mag.log2 + 1) := Nat.lt_log2_self
  have hlog : mag.log2 = mag.log2 := rfl
  obtain ⟨L, hL⟩ : ∃ L, L = mag.log2 := ⟨_, rfl⟩
  rw [← hL] at l1 l2 hN hq ⊢
  have hbin : f.binade = 2 ^ f.fractionBits := rfl
  have hinf : f.infRung = (2 ^ f.exponentBits - 1) * f.binade := rfl
  generalize hfb : f.fractionBits = fb at *
  generalize hq0 : (place + (L : Int) - fb - f.leastPlace).toNat = q at *
  have e1 : max (place + (L : Int) - fb) f.leastPlace = place + (L : Int) - fb := by omega
  have hb : 0 < f.binade := by rw [hbin]; exact Nat.two_pow_pos _
  have hroom : ∀ k, k ≤ 2 * f.binade → q * f.binade + k < f.infRung := fun k hk => by
    rw [hinf]
    have h1 : q + 2 < 2 ^ f.exponentBits - 1 := by omega
    have h2 : (q + 3) * f.binade ≤ (2 ^ f.exponentBits - 1) * f.binade := Nat.mul_le_mul_right _ (by omega)
    have h3 : (q + 3) * f.binade = q * f.binade + 3 * f.binade := Nat.add_mul _ _ _
    omega
  by_cases hc : fb ≤ L
  · have e2 : (place - (place + (L : Int) - fb)).toNat = 0 := by omega
    have e3 : (place + (L : Int) - fb - place).toNat = L - fb := by omega
    obtain ⟨⟨c1, c2⟩, c3, c4, c5⟩ := cut_near mag (L - fb) (by omega)
    have k1 : f.binade ≤ mag / 2 ^ (L - fb) := by
      rw [Nat.le_div_iff_mul_le (Nat.two_pow_pos _), hbin, ← Nat.pow_add, show fb + (L - fb) = L from by omega]; exact l1
    have k2 : mag / 2 ^ (L - fb) < 2 * f.binade := by
      rw [Nat.div_lt_iff_lt_mul (Nat.two_pow_pos _), hbin, Nat.mul_comm 2, ← Nat.pow_succ, ← Nat.pow_add, show fb + 1 + (L - fb) = L + 1 from by omega]; exact l2
    generalize hK : Toward.even.cut false mag (L - fb) = K at *
    have hnear : f.nearest false mag place = q * f.binade + K := by
      unfold Format.nearest
      rw [if_neg (by omega)]
      simp only [hfb, ← hL, e1, e2, e3, Nat.shiftLeft_zero, hK]
      have := hroom K (by omega)
      rw [hq0, Nat.min_eq_left (by omega)]; rfl
    obtain ⟨m, hI, hmm⟩ := read_rung f q K (.inr (by omega)) (by omega) (hroom K (by omega)) hl
    obtain ⟨m1, m2⟩ := hmm (by omega)
    have eV : K * 2 ^ q * 2 ^ (f.leastPlace + 1074).toNat = 2 ^ (L - fb) * K * 2 ^ (place + 1074).toNat := by
      have : 2 ^ q * 2 ^ (f.leastPlace + 1074).toNat = 2 ^ (L - fb) * 2 ^ (place + 1074).toNat := by
        rw [← Nat.pow_add, ← Nat.pow_add]; congr 1; omega
      rw [Nat.mul_assoc, this, ← Nat.mul_assoc, Nat.mul_comm K]
    rw [eV] at hI
    refine ⟨_, m, by rw [hnear]; exact hI, m1, m2, ?_, ?_, fun h => ?_, ?_⟩
    · have := Nat.mul_le_mul_right (2 ^ (place + 1074).toNat) c3
      rw [Nat.add_mul] at this
      simpa only [Nat.mul_assoc] using this
    · have := Nat.mul_le_mul_right (2 ^ (place + 1074).toNat) c4
      rw [Nat.add_mul] at this
      simpa only [Nat.mul_assoc] using this
    · rw [c5 h]
    · exact ⟨K, by ac_rfl⟩
  · have e2 : (place - (place + (L : Int) - fb)).toNat = fb - L := by omega
    have e3 : (place + (L : Int) - fb - place).toNat = 0 := by omega
    have e4 : L - fb = 0 := by omega
    have k1 : f.binade ≤ mag * 2 ^ (fb - L) := by
      have := Nat.mul_le_mul_right (2 ^ (fb - L)) l1
      rw [← Nat.pow_add, show L + (fb - L) = fb from by omega] at this
      rw [hbin]; exact this
    have k2 : mag * 2 ^ (fb - L) < 2 * f.binade := by
      have := Nat.mul_lt_mul_of_pos_right l2 (Nat.two_pow_pos (fb - L))
      rw [← Nat.pow_add, show L + 1 + (fb - L) = fb + 1 from by omega, Nat.pow_succ] at this
      rw [hbin]; omega
    have hnear : f.nearest false mag place = q * f.binade + mag * 2 ^ (fb - L) := by
      unfold Format.nearest
      rw [if_neg (by omega)]
      simp only [hfb, ← hL, e1, e2, e3, cut_zero, Nat.shiftLeft_eq]
      have := hroom (mag * 2 ^ (fb - L)) (by omega)
      rw [hq0, Nat.min_eq_left (by omega)]; rfl
    obtain ⟨m, hI, hmm⟩ := read_rung f q (mag * 2 ^ (fb - L)) (.inr (by omega)) (by omega) (hroom _ (by omega)) hl
    obtain ⟨m1, m2⟩ := hmm (by omega)
    have eV : mag * 2 ^ (fb - L) * 2 ^ q * 2 ^ (f.leastPlace + 1074).toNat = mag * 2 ^ (place + 1074).toNat := by
      have : 2 ^ (fb - L) * 2 ^ q * 2 ^ (f.leastPlace + 1074).toNat = 2 ^ (place + 1074).toNat := by
        rw [← Nat.pow_add, ← Nat.pow_add]; congr 1; omega
      rw [← this]; simp only [Nat.mul_assoc]
    rw [eV] at hI
    rw [e4, Nat.pow_zero, Nat.one_mul]
    exact ⟨_, m, by rw [hnear]; exact hI, m1, m2, Nat.le_add_right _ _, Nat.le_add_right _ _, fun _ => rfl, ⟨mag, Nat.mul_comm _ _⟩⟩
end Go.Proofs.Ytkapjlkeohjjbaa
namespace Go.Proofs.Ytkapjlkeohjjbaa
set_option linter.unusedVariables false
set_option linter.unusedSimpArgs false
open Ieee

/-- The unit: 2 to the -40. -/
def eU : Nat := 1034
def eW : Nat := 1074
theorem eU_is : eU = 1034 := rfl
theorem eW_is : eW = 1074 := rfl
def U : Nat := 2 ^ eU
/-- One, in these units. -/
def W : Nat := 2 ^ eW
theorem dbl_lp : double.leastPlace = -1074 := by decide
theorem sgl_lp : single.leastPlace = -149 := by decide
theorem pow_lt_of {a b : Nat} (h : 2 ^ a < 2 ^ b) : a < b := (Nat.pow_lt_pow_iff_right (by omega)).1 h
theorem double_nearest (mag : Nat) (place : Int) (h0 : -1074 ≤ place) (M : Nat) (hM : mag * 2 ^ (place + 1074).toNat = M) (hd : U ∣ M) (hlt : M < 2 ^ 53 * U) : Is double (double.nearest false mag place) M := by
  rcases Nat.eq_zero_or_pos mag with hz | hm
  · subst hz
    rw [Nat.zero_mul] at hM
    subst hM
    have : double.nearest false 0 place = 0 := by unfold Format.nearest; rw [if_pos rfl]; rfl
    rw [this]
    exact is_zero double (by decide)
  · have l1 : 2 ^ mag.log2 ≤ mag := Nat.log2_self_le (by omega)
    have l2 : mag < 2 ^ (mag.log2 + 1) := Nat.lt_log2_self
    have hMp : 0 < M := by rw [← hM]; exact Nat.mul_pos hm (Nat.two_pow_pos _)
    have hUM : U ≤ M := Nat.le_of_dvd hMp hd
    obtain ⟨e, he⟩ : ∃ e, e = (place + 1074).toNat := ⟨_, rfl⟩
    have hpl : place = (e : Int) - 1074 := by omega
    have b1 : mag.log2 + e < 53 + eU := by
      refine pow_lt_of ?_
      have := Nat.mul_le_mul_right (2 ^ e) l1
      rw [← Nat.pow_add] at this
      rw [← he] at hM
      unfold U at hlt
      rw [← Nat.pow_add] at hlt
      omega
    have b2 : eU < mag.log2 + 1 + e := by
      refine pow_lt_of ?_
      have := Nat.mul_lt_mul_of_pos_right l2 (Nat.two_pow_pos e)
      rw [← Nat.pow_add] at this
      rw [← he] at hM
      unfold U at hUM
      omega
    rw [eU_is] at b1 b2
    obtain ⟨V, m, hI, _, _, _, _, hx, _⟩ := nearest_val double mag place hm h0 (by decide) (by rw [dbl_lp]; show (-1074 : Int) ≤ place + mag.log2 - (52 : Nat); omega) (by rw [dbl_lp]; show place + mag.log2 - ((52 : Nat) : Int) - -1074 + 2 < ((2047 : Nat) : Int); omega)
    have hmod : mag % 2 ^ (mag.log2 - double.fractionBits) = 0 := by
      show mag % 2 ^ (mag.log2 - 52) = 0
      rcases Nat.lt_or_ge 52 mag.log2 with h52 | h52
      case inr => rw [show mag.log2 - 52 = 0 from by omega, Nat.pow_zero, Nat.mod_one]
      have h1 : 2 ^ (mag.log2 - 52) * 2 ^ e ∣ mag * 2 ^ e := by
        have h2 : 2 ^ (mag.log2 - 52) * 2 ^ e ∣ U := by
          unfold U
          rw [← Nat.pow_add]
          exact Nat.pow_dvd_pow 2 (by rw [eU_is]; omega)
        rw [← he] at hM
        rw [hM]
        exact Nat.dvd_trans h2 hd
      exact Nat.mod_eq_zero_of_dvd (Nat.dvd_of_mul_dvd_mul_right (Nat.two_pow_pos e) h1)
    rw [hx hmod, hM] at hI
    exact ⟨m, hI⟩
theorem scale_up {m : Nat} {i base : Int} (h : base ≤ i) (h0 : -1074 ≤ base) : m <<< (i - base).toNat * 2 ^ (base + 1074).toNat = m * 2 ^ (i + 1074).toNat := by
  rw [Nat.shiftLeft_eq, Nat.mul_assoc, ← Nat.pow_add]
  congr 2; omega
theorem add_is {a b A B : Nat} (ha : Is double a A) (hb : Is double b B) (hA : U ∣ A) (hB : U ∣ B) (hlt : A + B < 2 ^ 53 * U) : ∃ r, double.add a b = some r ∧ Is double r (A + B) := by
  obtain ⟨m, i, h1, h2, h3, h4⟩ := ha
  obtain ⟨n, j, g1, g2, g3, g4⟩ := hb
  refine ⟨double.nearest false (m <<< (i - min i j).toNat + n <<< (j - min i j).toNat) (min i j), ?_, double_nearest _ _ (by omega) _ ?_ (Nat.dvd_add hA hB) hlt⟩
  · unfold Format.add
    rw [h1, g1]
    simp only [Datum.sum, signed, Option.map_some, Format.write]
    congr 1
    have e1 : ((m <<< (i - min i j).toNat : Nat) : Int) + ((n <<< (j - min i j).toNat : Nat) : Int) = ((m <<< (i - min i j).toNat + n <<< (j - min i j).toNat : Nat) : Int) := by omega
    simp only [Bool.false_eq_true, if_false, e1, Int.natAbs_natCast]
    congr 1
    generalize m <<< (i - min i j).toNat + n <<< (j - min i j).toNat = T
    by_cases hT : ((T : Nat) : Int) = 0
    · rw [if_pos hT]; rfl
    · rw [if_neg hT]; first | (simp; done) | (simp; omega)
  · rw [Nat.add_mul, scale_up (by omega) (by omega), scale_up (by omega) (by omega), h4, g4]
theorem sub_is {a b A B : Nat} (ha : Is double a A) (hb : Is double b B) (hA : U ∣ A) (hB : U ∣ B) (hle : B ≤ A) (hlt : A < 2 ^ 53 * U) : ∃ r, double.sub a b = some r ∧ Is double r (A - B) := by
  obtain ⟨m, i, h1, h2, h3, h4⟩ := ha
  obtain ⟨n, j, g1, g2, g3, g4⟩ := hb
  have hx : n <<< (j - min i j).toNat ≤ m <<< (i - min i j).toNat := by
    have e1 := scale_up (m := m) (i := i) (base := min i j) (by omega) (by omega)
    have e2 := scale_up (m := n) (i := j) (base := min i j) (by omega) (by omega)
    rw [h4] at e1
    rw [g4] at e2
    rw [← e1, ← e2] at hle
    exact Nat.le_of_mul_le_mul_right hle (Nat.two_pow_pos _)
  refine ⟨double.nearest false (m <<< (i - min i j).toNat - n <<< (j - min i j).toNat) (min i j), ?_, double_nearest _ _ (by omega) _ ?_ (Nat.dvd_sub hA hB) (by omega)⟩
  · unfold Format.sub
    rw [h1, g1]
    simp only [Datum.opposite, Bool.not_false, Datum.sum, signed, Option.map_some, Format.write]
    congr 1
    have e1 : ((m <<< (i - min i j).toNat : Nat) : Int) + -((n <<< (j - min i j).toNat : Nat) : Int) = ((m <<< (i - min i j).toNat - n <<< (j - min i j).toNat : Nat) : Int) := by omega
    simp only [Bool.false_eq_true, if_false, if_true, e1, Int.natAbs_natCast]
    congr 1
    generalize m <<< (i - min i j).toNat - n <<< (j - min i j).toNat = T
    by_cases hT : ((T : Nat) : Int) = 0
    · rw [if_pos hT]; rfl
    · rw [if_neg hT]; first | (simp; done) | (simp; omega)
  · rw [Nat.sub_mul, scale_up (by omega) (by omega), scale_up (by omega) (by omega), h4, g4]
theorem order_is {a b A B : Nat} (ha : Is double a A) (hb : Is double b B) : double.order a b = some (if A < B then .lt else if A = B then .eq else .gt) := by
  obtain ⟨m, i, h1, h2, h3, h4⟩ := ha
  obtain ⟨n, j, g1, g2, g3, g4⟩ := hb
  have e1 := scale_up (m := m) (i := i) (base := min i j) (by omega) (by omega)
  have e2 := scale_up (m := n) (i := j) (base := min i j) (by omega) (by omega)
  unfold Format.order
  rw [h1, g1]
  simp only [Datum.order, signed, Bool.false_eq_true, if_false]
  rw [h4] at e1
  rw [g4] at e2
  have hp : 0 < 2 ^ (min i j + 1074).toNat := Nat.two_pow_pos _
  generalize m <<< (i - min i j).toNat = x at *
  generalize n <<< (j - min i j).toNat = y at *
  have hlt : A < B ↔ x < y := by rw [← e1, ← e2]; exact Nat.mul_lt_mul_right hp
  have heq : A = B ↔ x = y := by rw [← e1, ← e2]; exact Nat.mul_right_cancel_iff hp
  congr 1
  by_cases h : A < B
  · rw [if_pos h]
    have := hlt.1 h
    show compareOfLessAndEq (x : Int) y = _
    unfold compareOfLessAndEq
    rw [if_pos (by omega)]
  · rw [if_neg h]
    by_cases h' : A = B
    · rw [if_pos h']
      have := heq.1 h'
      subst this
      show compareOfLessAndEq (x : Int) x = _
      unfold compareOfLessAndEq
      rw [if_neg (by omega), if_pos rfl]
    · rw [if_neg h']
      have h5 : ¬ x < y := fun e => h (hlt.2 e)
      have h6 : ¬ x = y := fun e => h' (heq.2 e)
      show compareOfLessAndEq (x : Int) y = _
      unfold compareOfLessAndEq
      rw [if_neg (by omega), if_neg (by omega)]
/-- A single made a double. -/
theorem widen_is {b V : Nat} (h : Is single b V) (hd : U ∣ V) (hlt : V < 2 ^ 53 * U) : Is double (double.write (single.read b)) V := by
  obtain ⟨m, p, h1, h2, h3, h4⟩ := h
  rw [h1]
  exact double_nearest m p h3 V h4 hd hlt
/-- A small whole number as a single. -/
theorem single_int (N : Nat) (h1 : 1 ≤ N) (h2 : N < 16777216) : ∃ m, IsM single (single.nearest false N 0) (N * W) m ∧ 8388608 ≤ m ∧ m < 16777216 := by
  have l1 : 2 ^ N.log2 ≤ N := Nat.log2_self_le (by omega)
  have l3 : N.log2 ≤ 23 := by
    have : N.log2 < 24 := pow_lt_of (by omega)
    omega
  obtain ⟨V, m, hI, m1, m2, _, _, hx, _⟩ := nearest_val single N 0 (by omega) (by omega) (by decide) (by rw [sgl_lp]; show (-149 : Int) ≤ 0 + N.log2 - (23 : Nat); omega) (by rw [sgl_lp]; show 0 + (N.log2 : Int) - ((23 : Nat) : Int) - -149 + 2 < ((255 : Nat) : Int); omega)
  have e : N.log2 - single.fractionBits = 0 := by show N.log2 - 23 = 0; omega
  rw [e] at hx
  rw [hx (by rw [Nat.pow_zero, Nat.mod_one]), show ((0 : Int) + 1074).toNat = eW from rfl] at hI
  exact ⟨m, hI, m1, by have : 2 * single.binade = 16777216 := by decide
                       omega⟩
end Go.Proofs.Ytkapjlkeohjjbaa
