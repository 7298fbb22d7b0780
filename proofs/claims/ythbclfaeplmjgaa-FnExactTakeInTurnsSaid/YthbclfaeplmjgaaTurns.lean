/-
  TakeInTurns of the program.
-/
import Derived.Test.YthbclfaeplmjgaaPermute
import Derived.Test.YthbclfaeplmjgaaClaims
import Derived.Deep.RegionWith
namespace Go.Proofs.Ythbclfaeplmjgaa
set_option linter.unusedVariables false
set_option linter.unusedSimpArgs false
open Go.RowKit

theorem Rd.touchHi {w w' : World} {base : Nat} {a : Option Addr} {vs : List Value} (h : Rd w w.heap.size a vs) (ht : Touch w w' 0 base) (ha : ∀ x, a = some x → base ≤ x.block) : Rd w' w'.heap.size a vs := by
  rcases h with h | ⟨b, o, e, hb, hc⟩
  · exact .inl h
  · have := ha _ e
    exact .inr ⟨b, o, e, Nat.lt_of_lt_of_le hb ht.size, fun j hj => by rw [World.cell?_of_block (w := w) (ht.block b hb (.inr this))]; exact hc j hj⟩
theorem setLow_touch (w : World) {base g : Nat} (hg : g < base) (j : Nat) (u : Value) : Touch w (w.setCell ⟨g, j, none⟩ u) 0 base := Touch.of_grown (setc_grown w g j u) (Nat.zero_le _) hg
theorem addL_getD {a b : List Int} (h : a.length = b.length) (j : Nat) : (addL a b).getD j 0 = a.getD j 0 + b.getD j 0 := by
  simp only [addL, List.getD_eq_getElem?_getD, List.getElem?_zipWith]
  by_cases hj : j < a.length
  · rw [List.getElem?_eq_getElem hj, List.getElem?_eq_getElem (h ▸ hj : j < b.length)]; rfl
  · rw [List.getElem?_eq_none (by omega : a.length ≤ j), List.getElem?_eq_none (by omega : b.length ≤ j)]; rfl
theorem takeF_bd {cs os : List Int} {e : Int} (h : claimsB cs e = true) (j : Nat) : 0 ≤ (takeF cs os e).getD j 0 ∧ (takeF cs os e).getD j 0 ≤ 1000 := by
  obtain ⟨h1, h2, h3, h4⟩ := claimsB_iff.1 h
  have := claims_sum h2
  exact getD_bd ((takeS_bd (os := os) h3 (by omega) h2 os.length).2) (by omega) (by omega) j
theorem sumT_bd {cs : List Int} {e : Int} (h : claimsB cs e = true) (os : List (List Int)) (j : Nat) : 0 ≤ (sumT cs e os).getD j 0 ∧ (sumT cs e os).getD j 0 ≤ 1000 * os.length := by
  have : ∀ (os : List (List Int)) (s : List Int) (m : Int), s.length = cs.length → 0 ≤ s.getD j 0 ∧ s.getD j 0 ≤ m → 0 ≤ (os.foldl (fun s o => addL s (takeF cs o e)) s).getD j 0 ∧ (os.foldl (fun s o => addL s (takeF cs o e)) s).getD j 0 ≤ m + 1000 * os.length := by
    intro os
    induction os with
    | nil => intro s m _ hm; simpa using hm
    | cons o os ih =>
      intro s m hs hm
      have hb := takeF_bd (os := o) h j
      have := ih (addL s (takeF cs o e)) (m + 1000) (by simp only [addL, List.length_zipWith, hs, takeF_len]; omega) (by rw [addL_getD (by rw [hs, takeF_len])]; omega)
      rw [List.foldl_cons, List.length_cons]
      omega
  have := this os (List.replicate cs.length 0) 0 (by simp) (by simp only [List.getD_eq_getElem?_getD, List.getElem?_replicate]; split <;> simp)
  unfold sumT
  omega
theorem mix_st {fo cs : List Int} {k : Nat} {v : Int} (hk : k < cs.length) (hl : fo.length = cs.length) (hv : fo[k]? = some v) : (fo.take k ++ cs.drop k).set k v = fo.take (k + 1) ++ cs.drop (k + 1) := by
  have h1 : (fo.take k).length = k := by simp; omega
  rw [List.set_append_right _ _ (by omega), h1, Nat.sub_self, List.drop_eq_getElem_cons hk, List.set_cons_zero, List.take_add_one, hv]
  simp
def turnsF (xs : List Int) (e : Int) : Option (List Int × Int) := if claimsB xs e && decide (xs.length ≤ 6) then some (sumT xs e (permsU xs.length xs.length []), ((permsU xs.length xs.length []).length : Int)) else none
def RetT (T : Nat) (w : World) (r : Option (List Int × Int)) (e : Ending) (w' : World) : Prop :=
  Below w.heap.size w w' ∧ match r with
    | none => e = .returned (.tuple #[.slice none 0 0, .int .i64 0, .bool false])
    | some (ys, m) => ∃ a c, e = .returned (.tuple #[.slice a ys.length c, .int .i64 m, .bool true]) ∧ w'.ownsRow w.heap.size T 1 (.slice a ys.length c) ys.length (ints ys)
theorem RetT.no {T : Nat} {w w' : World} (h : Below w.heap.size w w') : RetT T w none (.returned (.tuple #[.slice none 0 0, .int .i64 0, .bool false])) w' := ⟨h, rfl⟩
/-- What holds while orders are taken, one after another. -/
structure TS (W : World) (a : Option Addr) (c : Nat) (xs : List Int) (e : Int) (done : List (List Int)) (w : World) : Prop where
  cl : Blk w W.heap.size [.slice a xs.length c] 22
  es : Blk w (W.heap.size + 1) [.int .i64 e] 2
  ou : Blk w (W.heap.size + 2) (ints (sumT xs e done)) 2
  oh : Blk w (W.heap.size + 3) [.slice (some ⟨W.heap.size + 2, 0, none⟩) xs.length xs.length] 22
  ct : Blk w (W.heap.size + 4) [.int .i64 done.length] 2
  bel : Below W.heap.size W w
theorem enter_turn (args : Array Value) (w : World) : (callFunc 79 args).run Try.prog w = .ok (.enter 79 args) w := by kernel_rfl
set_option maxRecDepth 10000 in
set_option maxHeartbeats 8000000 in
theorem turn_any (W : World) (a : Option Addr) (c : Nat) (xs : List Int) (e : Int) (h0 : Rd W W.heap.size a (ints xs)) (hv : claimsB xs e = true) (done : List (List Int)) (os : List Int) (w : World) (ao : Option Addr) (co : Nat)
    (hs : TS W a c xs e done w) (hord : orderB os xs.length = true) (hM : done.length + 1 ≤ 720) (hsz : W.heap.size + 5 ≤ w.heap.size) (ha : ∀ x, ao = some x → W.heap.size + 5 ≤ x.block) (g : Rd w w.heap.size ao (ints os)) :
    Calls Try.prog 79 #[.slice ao os.length co, .pointer (some ⟨W.heap.size + 4, 0, none⟩), .pointer (some ⟨W.heap.size, 0, none⟩), .pointer (some ⟨W.heap.size + 1, 0, none⟩), .pointer (some ⟨W.heap.size + 3, 0, none⟩)] w
      fun e' w' => e' = .returned (.tuple #[]) ∧ TS W a c xs e (done ++ [os]) w' ∧ Touch w w' 0 (W.heap.size + 5) := by
  have hbel := hs.bel
  have hl8 := (claimsB_iff.1 hv).1.2
  have t1 := setLow_touch w (base := W.heap.size + 5) (g := W.heap.size + 4) (by omega) 0 (.int .i64 (done.length + 1))
  have g1 := g.touchHi t1 ha
  have hb1 : Below W.heap.size W (w.setCell ⟨W.heap.size + 4, 0, none⟩ (.int .i64 (done.length + 1))) := below_sto hbel (by omega) 0 _
  have x1 := (h0.below (C := W.heap.size) hb1 (by omega)).mono (B' := (w.setCell ⟨W.heap.size + 4, 0, none⟩ (.int .i64 (done.length + 1))).heap.size) (by have := hb1.size; omega)
  have LI := Lib.hid (inOrder_any _ _ _ a ao c co xs os e x1 g1 (Nat.le_refl _) (Nat.le_refl _) hv hord)
  have q1 := (hs.cl.oth (g := W.heap.size + 4) (by omega) 0 (.int .i64 (done.length + 1)))
  have q2 := (hs.es.oth (g := W.heap.size + 4) (by omega) 0 (.int .i64 (done.length + 1)))
  have q3 := (hs.ou.oth (g := W.heap.size + 4) (by omega) 0 (.int .i64 (done.length + 1)))
  have q4 := (hs.oh.oth (g := W.heap.size + 4) (by omega) 0 (.int .i64 (done.length + 1)))
  have q5 := hs.ct.set 0 (.int .i64 (done.length + 1))
  simp only [List.set_cons_zero] at q5
  have c5 := hs.ct.cell 0
  have f5 := hs.ct.free 0
  have c1 := q1.cell 0
  have c2 := q2.cell 0
  simp only [List.getElem?_cons_zero] at c5 c1 c2
  have Hbd := Lib.hid (fun j => sumT_bd hv done j)
  have Htd := Lib.hid (fun j => takeF_bd (os := os) hv j)
  have Hsl := Lib.hid (sumT_len xs e done)
  have Htl := Lib.hid (takeF_len xs os e)
  have Hsn := Lib.hid (sumT_snoc xs e done os)
  have Hal := Lib.hid (sumT_len xs e (done ++ [os]))
  have Hdl : Hid (((done ++ [os]).length : Int) = done.length + 1) := by simp [Hid]
  have Hag := Lib.hid (fun j => addL_getD (a := sumT xs e done) (b := takeF xs os e) (by rw [sumT_len, takeF_len]) j)
  generalize hnw : sumT xs e (done ++ [os]) = nw at *
  have Hnw := Lib.hid hnw
  clear hnw
  generalize sumT xs e done = od at *
  generalize takeF xs os e = tk at *
  generalize done.length = dl at *
  have Hs := Lib.hid hs
  clear hs g g1 h0 x1 hv hord hbel ha
  go_enter Try.func79, Try.ntmps79
  go_wp2_with fail
  refine LI.out.mono ?_
  rintro e' w2 ⟨a2, c2', rfl, o2, hb2⟩
  have k1 := q1.same hb2
  have k2 := q2.same hb2
  have k3 := q3.same hb2
  have k4 := q4.same hb2
  have k5 := q5.same hb2
  have bel2 := hb1.trans (hb2.mono hb1.size)
  have t2 := t1.trans (Below.touch hb2 0 (W.heap.size + 5))
  have hsz2 := t2.size
  have r2 := Lib.hid o2.rd
  have lo2 : ∀ x, a2 = some x → w.heap.size ≤ x.block := fun x hx => by
    have := (o2.1.lt x.block (by rw [hx]; rfl)).1
    simp at this
    exact this
  have Lo2 := Lib.hid lo2
  clear q1 q2 q3 q4 q5 hb1 hb2 t1 LI c1 c2 o2 lo2
  obtain ⟨w0, rfl⟩ : ∃ w0 : World, w0 = w2 := ⟨_, rfl⟩
  go_wp2_with fail
  go_loopw [15] (fun i wr => ∃ k : Nat, k ≤ xs.length ∧ i = .int .i64 k ∧ Hid (Blk wr (W.heap.size + 2) (ints (nw.take k ++ od.drop k)) 2) ∧ Hid (w0.grownBy wr (some (W.heap.size + 2)))) (fun i _ => xs.length - (intOf i).toNat)
  case atStart => exact ⟨0, Nat.zero_le _, rfl, (by rw [List.take_zero, List.drop_zero, List.nil_append]; exact k3), World.grownBy.refl _ _⟩
  case round =>
    obtain ⟨k, hk, rfl, hb, hgr⟩ := hrel
    have m4 := k4.grown hgr.out (by intro e; injection e; omega)
    have d4 := m4.cell 0
    simp only [List.getElem?_cons_zero] at d4
    by_cases hlt : k < xs.length
    · obtain ⟨b3, o3, hax, hbb, hcell⟩ := r2.out.at (k := k) (by rw [Htl.out]; exact hlt)
      subst hax
      have hb3 : w.heap.size ≤ b3 := Lo2.out _ rfl
      have hck := (World.cell?_of_block (w := w0) (w' := wr) (a := ⟨b3, o3 + k, none⟩) (hgr.out.block b3 hbb (by intro e; injection e; omega))).trans (hcell k (by rw [Htl.out]; exact hlt))
      have hoc := hb.out.cell k
      have hof := hb.out.free k
      have e1 : (ints (nw.take k ++ od.drop k))[k]? = some (.int .i64 (od.getD k 0)) := by
        have hl1 : (nw.take k).length = k := by rw [List.length_take, Hal.out]; omega
        have h2 : (nw.take k ++ od.drop k)[k]? = some (od.getD k 0) := by
          rw [List.getElem?_append_right (by omega), hl1, Nat.sub_self, List.getElem?_drop, Nat.add_zero]
          exact get_of_lt (by rw [Hsl.out]; exact hlt)
        simp only [ints, List.getElem?_map, h2, Option.map_some]
      rw [e1] at hoc
      obtain ⟨b0, b1⟩ := Hbd.out k
      obtain ⟨u0, u1⟩ := Htd.out k
      have hnv : nw[k]? = some (od.getD k 0 + tk.getD k 0) := by
        rw [get_of_lt (by rw [Hal.out]; exact hlt)]
        have := Hag.out k
        rw [← Hsn.out] at this
        rw [this]
      have hset := hb.out.setI k (od.getD k 0 + tk.getD k 0)
      rw [mix_st (by rw [Hsl.out]; exact hlt) (by rw [Hal.out, Hsl.out]) hnv] at hset
      have HS2 := Lib.hid hset
      have HG2 := Lib.hid (grown_of_grown hgr.out (setc_grown wr (W.heap.size + 2) k (.int .i64 (od.getD k 0 + tk.getD k 0))))
      generalize od.getD k 0 = x at *
      generalize tk.getD k 0 = y at *
      clear hset hnv e1 hb hgr m4 hcell
      go_wp2_with fail
      first
        | (go_roundw
           case rel => exact ⟨k + 1, by omega, by go_num, HS2, HG2⟩
           case measure => simp [intOf]; omega)
        | (go_region
           go_wp2_with fail
           go_roundw
           case rel => exact ⟨k + 1, by omega, by go_num, HS2, HG2⟩
           case measure => simp [intOf]; omega)
    · have : k = xs.length := by omega
      subst this
      have hF : Hid (TS W a c xs e (done ++ [os]) wr ∧ Touch w wr 0 (W.heap.size + 5)) := by
        have hg := hgr.out
        have hbe : nw.take xs.length ++ od.drop xs.length = nw := by rw [List.drop_of_length_le (by rw [Hsl.out]; exact Nat.le_refl _), List.append_nil, List.take_of_length_le (by rw [Hal.out]; exact Nat.le_refl _)]
        have hbo := hb.out
        rw [hbe] at hbo
        rw [← Hnw.out] at hbo
        refine ⟨⟨k1.grown hg (by intro e; injection e; omega), k2.grown hg (by intro e; injection e; omega), hbo, k4.grown hg (by intro e; injection e; omega), ?_, bel2.grown hg (by omega) (fun q hq => by injection hq with hq; omega)⟩, t2.trans (Touch.of_grown hg (Nat.zero_le _) (by omega))⟩
        rw [Hdl.out]
        exact k5.grown hg (by intro e; injection e; omega)
      clear hb hgr m4 d4
      go_wp2_with fail
      go_end0
      exact ⟨rfl, hF.out⟩
set_option maxRecDepth 10000 in
set_option maxHeartbeats 8000000 in
theorem turns_any (w : World) (a : Option Addr) (c : Nat) (xs : List Int) (e : Int) (h : Rd w w.heap.size a (ints xs)) (hl : xs.length ≤ 1152921504606846976) :
    Calls Try.prog 24 #[.slice a xs.length c, .int .i64 e] w (RetT 2 w (turnsF xs e)) := by
  unfold turnsF
  have LC := Lib.hid (fun w' hb => areClaims_any w' a c xs e (h.to hb) hl)
  cases t1 : claimsB xs e with
  | false =>
    rw [t1] at LC
    simp only [Bool.false_and, Bool.false_eq_true, if_false]
    clear h
    go_enter Try.func24, Try.ntmps24
    go_wp2_with fail
    refine (LC.out _ (bl2 _ _ _)).mono ?_
    rintro e' w1 ⟨rfl, rfl⟩
    go_wp2_with fail
    go_ret3
    exact RetT.no (bl2 _ _ _)
  | true =>
    rw [t1] at LC
    by_cases h6 : xs.length ≤ 6
    case neg =>
      rw [decide_eq_false h6]
      simp only [Bool.and_false, Bool.false_eq_true, if_false]
      clear h
      go_enter Try.func24, Try.ntmps24
      go_wp2_with fail
      refine (LC.out _ (bl2 _ _ _)).mono ?_
      rintro e' w1 ⟨rfl, rfl⟩
      go_wp2_with fail
      go_ret3
      exact RetT.no (bl2 _ _ _)
    rw [decide_eq_true h6]
    simp only [Bool.and_self, if_true]
    have hM : (permsU xs.length xs.length []).length ≤ 720 := by rw [← (insAll_perm xs.length h6).length_eq]; exact insAll_length _ h6
    have LT := Lib.hid (turn_any w a c xs e h t1)
    have Hz : Hid (sumT xs e [] = List.replicate xs.length 0) := rfl
    have LP : Hid (∀ w5 : World, TS w a c xs e [] w5 → w5.heap.size = w.heap.size + 5 →
        Calls Try.prog 78 #[.int .i64 xs.length, .func (.func 79) #[] #[.pointer (some ⟨w.heap.size + 4, 0, none⟩), .pointer (some ⟨w.heap.size, 0, none⟩), .pointer (some ⟨w.heap.size + 1, 0, none⟩), .pointer (some ⟨w.heap.size + 3, 0, none⟩)]] w5 fun e' w' => e' = .returned (.tuple #[]) ∧ TS w a c xs e (permsU xs.length xs.length []) w') := fun w5 h5 hs5 => by
      refine permute_any (fun done w' => TS w a c xs e done w') xs.length _ _ (by omega) enter_turn w5 ?_ ?_ h5
      · intro done w1 w2 k hb
        rw [hs5] at hb
        exact ⟨k.cl.below hb (by omega), k.es.below hb (by omega), k.ou.below hb (by omega), k.oh.below hb (by omega), k.ct.below hb (by omega), k.bel.trans (hb.mono (by omega))⟩
      · intro done os w' ao co k hor hm hsz ha g
        rw [hs5] at hsz ha ⊢
        exact LT.out done os w' ao co k hor (by omega) hsz ha g
    have hlen := Lib.hid (sumT_len xs e (permsU xs.length xs.length []))
    have Hcap : Hid (∀ w', TS w a c xs e (permsU xs.length xs.length []) w' → RetT 2 w (some (sumT xs e (permsU xs.length xs.length []), ((permsU xs.length xs.length []).length : Int))) (.returned (.tuple #[.slice (some ⟨w.heap.size + 2, 0, none⟩) xs.length xs.length, .int .i64 (permsU xs.length xs.length []).length, .bool true])) w') := fun w' k => by
      refine ⟨k.bel, some ⟨w.heap.size + 2, 0, none⟩, xs.length, by simp only [sumT_len], ?_⟩
      have := k.ou.owns (base := w.heap.size) (by omega) (by rw [ints_length, sumT_len]; unfold maxLen; omega)
      rw [ints_length] at this
      simp only [sumT_len] at this ⊢
      exact this
    clear hM LT hl
    generalize permsU xs.length xs.length [] = ps at *
    clear h t1
    go_enter Try.func24, Try.ntmps24
    go_wp2_with fail
    refine (LC.out _ (bl2 _ _ _)).mono ?_
    rintro e' w1 ⟨rfl, rfl⟩
    go_wp2_with (at_make; refine wpList_make_blk _ rfl _ _ 22 rfl 2 (.int .i64 0) 8 Try.underlying22 info_i64p rfl _ _ xs.length rfl rfl (by omega) (by unfold maxLen; omega) ?_)
    intro w2 hb2 hw2 hs2
    rw [ints_replicate, ← Hz.out] at hb2
    have k1 := (((Blk.new w [.slice a xs.length c] 22).alloc (.cells #[.int .i64 e] 2)).below hw2 (by omega))
    have k2 := ((Blk.new (w.alloc (.cells #[.slice a xs.length c] 22)) [.int .i64 e] 2).below hw2 (by simp))
    have bel2 := (bl2 w (.cells #[.slice a xs.length c] 22) (.cells #[.int .i64 e] 2)).trans (hw2.mono (by omega))
    simp at hs2 hb2 k2
    have Hs2 := Lib.hid hs2
    have HT : Hid (TS w a c xs e [] ((w2.alloc (.cells #[.slice (some ⟨w.heap.size + 2, 0, none⟩) xs.length xs.length] 22)).alloc (.cells #[.int .i64 0] 2))) := by
      have e3 := (Blk.new w2 [.slice (some ⟨w.heap.size + 2, 0, none⟩) xs.length xs.length] 22).alloc (.cells #[.int .i64 0] 2)
      have e4 := Blk.new (w2.alloc (.cells #[.slice (some ⟨w.heap.size + 2, 0, none⟩) xs.length xs.length] 22)) [.int .i64 0] 2
      simp [hs2] at e3 e4
      exact ⟨(k1.alloc _).alloc _, (k2.alloc _).alloc _, (hb2.alloc _).alloc _, e3, e4, (bel2.alloc (by omega) _).alloc (by simp; omega) _⟩
    have hfin : ∀ o1 o2, ((w2.alloc o1).alloc o2).heap.size = w.heap.size + 5 := fun o1 o2 => by simp [hs2]
    have Hfin := Lib.hid hfin
    have ck1 := k1.cell 0
    simp only [List.getElem?_cons_zero] at ck1
    have hs2' : w2.heap.size = w.heap.size + 3 := hs2
    clear hfin k1 k2 hb2 hw2 bel2
    go_wp2_with fail
    go_outline
    refine (LP.out _ HT.out (Hfin.out _ _)).mono ?_
    rintro e' w6 ⟨rfl, HQ⟩
    have HR := Lib.hid (Hcap.out w6 HQ)
    have d1 := HQ.oh.cell 0
    have d2 := HQ.ct.cell 0
    simp only [List.getElem?_cons_zero] at d1 d2
    clear HQ
    go_wp2_with fail
    go_quiet (fail)
    go_wp2_with fail
    go_ret3
    exact ⟨below_drewN HR.out.1 _, HR.out.2⟩
end Go.Proofs.Ythbclfaeplmjgaa
