/-
  permute of the program: it calls a function for all orders, in their order.
-/
import Derived.Test.YthbclfaeplmjgaaPerm
import Derived.Test.YthbclfaeplmjgaaSlices
import Derived.Test.YthbclfaeplmjgaaGrow
import Derived.Outline
import Derived.Laws.EntriesVeiled
namespace Go.Proofs.Ythbclfaeplmjgaa
set_option linter.unusedVariables false
set_option linter.unusedSimpArgs false
open Go.RowKit

theorem own_cut {w : World} {base e n c g : Nat} {xs : List Value} {y : Value} (h : w.ownsRow base e 1 (.slice (some ⟨g, 0, none⟩) (n + 1) c) (n + 1) (xs ++ [y])) (hn : xs.length = n) : w.ownsRow base e 1 (.slice (some ⟨g, 0, none⟩) n c) n xs := by
  rcases h.2 with ⟨h2, _⟩ | ⟨g', cap, cur, hv, hg, hh, hnc, hm, hs, ht⟩
  · cases h2
  · injection hv with e1 _ e3
    injection e1 with e1
    injection e1 with e1 _
    subst e1 e3
    refine ⟨by omega, .inr ⟨g, c, cur, rfl, hg, hh, by omega, hm, hs, ?_⟩⟩
    have := congrArg (List.take n) ht
    rw [List.take_take, List.take_left' hn] at this
    rw [← this]
    congr 1
    omega
theorem own_tch {T : Nat} {w w' : World} {lo hi lo' hi' n : Nat} {v : Value} {xs : List Value} (h : w.ownsRow lo T 1 v n xs) (hv : ∀ g, v.ownBlock = some g → g < hi) (ht : Touch w w' lo' hi') (hd : hi ≤ lo' ∨ hi' ≤ lo) : w'.ownsRow lo T 1 v n xs := by
  refine ⟨h.1, ?_⟩
  rcases h.2 with h2 | ⟨g, cap, cur, hv2, hg, hh, r⟩
  · exact .inl h2
  · have h3 : g < hi := hv g (by rw [hv2]; rfl)
    exact .inr ⟨g, cap, cur, hv2, hg, by rw [ht.block g (lt_of_block hh) (by omega)]; exact hh, r⟩
theorem setc_grown (w : World) (g j : Nat) (u : Value) : w.grownBy (w.setCell ⟨g, j, none⟩ u) (some g) := ⟨rfl, rfl, rfl, by simp, fun i _ hi => Below.heap_setCell _ _ _ _ (fun e => hi (by simp [e]))⟩
theorem own_some {w : World} {base e n c : Nat} {a : Option Addr} {xs : List Value} (h : w.ownsRow base e 1 (.slice a n c) n xs) (hn : 0 < n) : ∃ g, a = some ⟨g, 0, none⟩ := by
  rcases h.2 with ⟨_, h3⟩ | ⟨g, cap, cur, hv, _⟩
  · omega
  · injection hv with ha _ _; exact ⟨g, ha⟩
theorem enter_put (args : Array Value) (w : World) : (callFunc 125 args).run Try.prog w = .ok (.enter 125 args) w := by kernel_rfl
def putF (base : Nat) : Value := .func (.func 125) #[] #[.pointer (some ⟨base + 3, 0, none⟩), .pointer (some ⟨base, 0, none⟩), .pointer (some ⟨base + 1, 0, none⟩), .pointer (some ⟨base + 4, 0, none⟩)]
/-- What holds while orders are put together: p is the beginning, 'done' was called for. -/
structure PS (S : List (List Int) → World → Prop) (base n K0 : Nat) (caps0 : Array Value) (done : List (List Int)) (p : List Int) (w : World) : Prop where
  s : S done w
  sz : base + 5 ≤ w.heap.size
  bn : Blk w base [.int .i64 n] 2
  bd : Blk w (base + 1) [.func (.func K0) #[] caps0] 91
  bp : Blk w (base + 4) [putF base] 1
  ord : ∃ g c, Blk w (base + 3) [.slice (some ⟨g, 0, none⟩) p.length c] 22 ∧ w.ownsRow (base + 2) 2 1 (.slice (some ⟨g, 0, none⟩) p.length c) p.length (ints p) ∧ g ≠ base + 3 ∧ g ≠ base + 4
section
variable {S : List (List Int) → World → Prop} {base n K0 : Nat} {caps0 : Array Value}
/-- Behind a call that turns only what lies below. -/
theorem PS.called {done done' : List (List Int)} {p : List Int} {w w' : World} (h : PS S base n K0 caps0 done p w) (hs : S done' w') (ht : Touch w w' 0 base) : PS S base n K0 caps0 done' p w' := by
  obtain ⟨g, c, h1, h2, h3, h4⟩ := h.ord
  refine ⟨hs, Nat.le_trans h.sz ht.size, h.bn.touch ht (by omega), h.bd.touch ht (by omega), h.bp.touch ht (by omega), g, c, h1.touch ht (by omega), ?_, h3, h4⟩
  exact own_tch h2 (hi := g + 1) (fun g' hg' => by simp [Value.ownBlock] at hg'; omega) ht (.inr (by omega))
end
theorem permsU_step (n f : Nat) (p : List Int) (k : Nat) : (List.range (k + 1)).flatMap (fun (i : Nat) => if decide ((i : Int) ∈ p) then [] else permsU n f (p ++ [(i : Int)])) = (List.range k).flatMap (fun (i : Nat) => if decide ((i : Int) ∈ p) then [] else permsU n f (p ++ [(i : Int)])) ++ (if decide ((k : Int) ∈ p) then [] else permsU n f (p ++ [(k : Int)])) := by
  rw [List.range_succ, List.flatMap_append]; simp
theorem permsU_mono (n f : Nat) (p : List Int) {k m : Nat} (h : k ≤ m) : ((List.range k).flatMap (fun (i : Nat) => if decide ((i : Int) ∈ p) then [] else permsU n f (p ++ [(i : Int)]))).length ≤ ((List.range m).flatMap (fun (i : Nat) => if decide ((i : Int) ∈ p) then [] else permsU n f (p ++ [(i : Int)]))).length := by
  induction m with
  | zero => have : k = 0 := by omega
            subst this; exact Nat.le_refl _
  | succ m ih =>
    by_cases e : k = m + 1
    · subst e; exact Nat.le_refl _
    · have := ih (by omega)
      rw [permsU_step, List.length_append]; omega
theorem snoc_order {n : Nat} {p : List Int} (h0 : ∀ x ∈ p, 0 ≤ x ∧ x < n) (h1 : p.Nodup) {k : Nat} (hk : k < n) (hp : (k : Int) ∉ p) : (∀ x ∈ p ++ [(k : Int)], 0 ≤ x ∧ x < n) ∧ (p ++ [(k : Int)]).Nodup := by
  refine ⟨fun x hx => ?_, ?_⟩
  · rcases List.mem_append.1 hx with hx | hx
    · exact h0 x hx
    · simp at hx; omega
  · rw [List.nodup_append]
    refine ⟨h1, by simp, fun a ha b hb => ?_⟩
    simp at hb
    subst hb
    intro e; subst e; exact hp ha
set_option maxRecDepth 100000 in
set_option maxHeartbeats 8000000 in
theorem put_any (S : List (List Int) → World → Prop) (base n K0 : Nat) (caps0 : Array Value) (hn : n ≤ 64) (hK : ∀ (args : Array Value) (w : World), (callFunc K0 args).run Try.prog w = .ok (.enter K0 args) w)
    (hS : ∀ done w1 w2, S done w1 → Below base w1 w2 → S done w2)
    (M : Nat) (hdo : ∀ done os w a c, S done w → orderB os n = true → done.length + 1 ≤ M → base ≤ w.heap.size → (∀ x, a = some x → base ≤ x.block) → Rd w w.heap.size a (ints os) → Calls Try.prog K0 (#[.slice a os.length c] ++ caps0) w fun e w' => e = .returned (.tuple #[]) ∧ S (done ++ [os]) w' ∧ Touch w w' 0 base) :
    ∀ (f : Nat) (done : List (List Int)) (p : List Int) (w : World), PS S base n K0 caps0 done p w → p.length + f = n → done.length + (permsU n f p).length ≤ M → (∀ x ∈ p, 0 ≤ x ∧ x < n) → p.Nodup →
      Calls Try.prog 125 #[.pointer (some ⟨base + 3, 0, none⟩), .pointer (some ⟨base, 0, none⟩), .pointer (some ⟨base + 1, 0, none⟩), .pointer (some ⟨base + 4, 0, none⟩)] w fun e w' => e = .returned (.tuple #[]) ∧ PS S base n K0 caps0 (done ++ permsU n f p) p w'
  | 0, done, p, w, h, hl, hM, hp, hnd => by
    obtain ⟨g, c, h1, h2, h3, h4⟩ := h.ord
    have hR : Rd w w.heap.size (some ⟨g, 0, none⟩) (ints p) := rd_of_own h2 (Nat.le_refl _)
    have HD := Lib.hid (hdo done p w (some ⟨g, 0, none⟩) c h.s (orderB_iff.2 ⟨hp, hnd, by omega⟩) (by simpa [permsU] using hM) (by have := h.sz; omega) (fun x hx => by injection hx with hx; subst hx; have := (h2.lt g rfl).1; show base ≤ g; omega) hR)
    have HP := Lib.hid h
    have c1 := h1.cell 0
    have c2 := h.bn.cell 0
    have c3 := h.bd.cell 0
    simp only [List.getElem?_cons_zero] at c1 c2 c3
    have hpl : p.length = n := by omega
    rw [hpl] at c1 HD
    have hKK := Lib.hid hK
    clear hS hdo hp hnd h1 h2 hR h hl hpl hK hM
    have hK := hKK.out
    go_enter Try.func125, Try.ntmps125
    go_wp2_with fail
    refine HD.out.mono ?_
    rintro e w' ⟨rfl, hs, ht⟩
    have HR := Lib.hid (HP.out.called hs ht)
    clear hs ht
    go_wp2_with fail
    first | (refine bodyPost_ret (results_none rfl _ _ _) rfl ?_) | skip
    exact ⟨rfl, HR.out⟩
  | f + 1, done, p, w, h, hl, hM, hp, hnd => by
    have IH := Lib.hid (put_any S base n K0 caps0 hn hK hS M hdo f)
    have HSS := Lib.hid hS
    have HP := Lib.hid h
    have Hp := Lib.hid hp
    have Hnd := Lib.hid hnd
    obtain ⟨g, c, h1, h2, h3, h4⟩ := h.ord
    have c1 := h1.cell 0
    have c2 := h.bn.cell 0
    simp only [List.getElem?_cons_zero] at c1 c2
    have hpl : p.length < n := by omega
    have hl' := Lib.hid hl
    have HM : Hid (∀ k, k < n → (done ++ (List.range k).flatMap (fun (i : Nat) => if decide ((i : Int) ∈ p) then [] else permsU n f (p ++ [(i : Int)]))).length + (if decide ((k : Int) ∈ p) then [] else permsU n f (p ++ [(k : Int)])).length ≤ M) := fun k hk => by
      have e1 := permsU_mono n f p (show k + 1 ≤ n by omega)
      rw [permsU_step, List.length_append] at e1
      rw [List.length_append]
      simp only [permsU] at hM
      omega
    have htst : ((p.length : Int) == (n : Int)) = false := by simp <;> omega
    clear hS hdo hp hnd h1 h2 h3 h4 h hK hl hM
    have hEP := enter_put
    go_enter Try.func125, Try.ntmps125
    go_wp2_with fail
    go_loopw [13] (fun i wr => ∃ k : Nat, k ≤ n ∧ i = .int .i64 k ∧ Hid (PS S base n K0 caps0 (done ++ (List.range k).flatMap (fun (i : Nat) => if decide ((i : Int) ∈ p) then [] else permsU n f (p ++ [(i : Int)]))) p wr)) (fun i _ => n - (intOf i).toNat)
    case atStart => exact ⟨0, Nat.zero_le _, rfl, (show PS S base n K0 caps0 _ p w from by simpa using HP.out)⟩
    case round =>
      clear c1 c2 HP
      obtain ⟨k, hk, rfl, HP⟩ := hrel
      by_cases hlt : k < n
      · obtain ⟨g, c, h1, h2, h3, h4⟩ := HP.out.ord
        have c1 := h1.cell 0
        have c3 := HP.out.bp.cell 0
        simp only [List.getElem?_cons_zero, putF] at c1 c3
        have hR : Rd wr wr.heap.size (some ⟨g, 0, none⟩) (ints p) := rd_of_own h2 (Nat.le_refl _)
        have LC := Lib.hid (contains_any wr (some ⟨g, 0, none⟩) c p k hR (by omega))
        by_cases hin : (k : Int) ∈ p
        · rw [containsI_iff.2 hin] at LC
          have HN : Hid (PS S base n K0 caps0 (done ++ (List.range (k + 1)).flatMap (fun (i : Nat) => if decide ((i : Int) ∈ p) then [] else permsU n f (p ++ [(i : Int)]))) p wr) := by
            rw [permsU_step, decide_eq_true hin, if_pos rfl, List.append_nil]; exact HP.out
          clear h1 h2 h3 h4 hR HP hin c3
          go_wp2_with fail
          refine LC.out.mono ?_
          rintro e w' ⟨rfl, rfl⟩
          go_wp2_with fail
          go_roundw
          case rel => exact ⟨k + 1, by omega, by go_num, HN⟩
          case measure => simp [intOf]; omega
        · have hcf : containsI p k = false := by rw [← Bool.not_eq_true, containsI_iff]; exact hin
          rw [hcf] at LC
          have Hin := Lib.hid hin
          obtain ⟨so1, so2⟩ := snoc_order Hp.out Hnd.out hlt hin
          have So1 := Lib.hid so1
          have So2 := Lib.hid so2
          have H1 := Lib.hid h1
          have H2 := Lib.hid h2
          have hsz := HP.out.sz
          clear h1 h2 hR hin hcf so1 so2
          go_wp2_with fail
          refine LC.out.mono ?_
          rintro e w' ⟨rfl, rfl⟩
          clear LC
          have ho := H2.out
          go_wp2_with (at_builtin; refine wpList_append_blk _ rfl _ _ 22 rfl (base + 2) 2 (.int .i64 0) 8 Try.underlying22 info_i64p rfl _ p.length _ rfl ho (.int .i64 k) rfl rfl (by omega) (by omega) (by omega) ?_)
          intro v' w1 ho1 hgr hnew
          have hsz1 := hgr.size
          have hne : ∀ q, q < base + 5 → q ≠ g → some q ≠ (Value.slice (some ⟨g, 0, none⟩) p.length c).ownBlock := fun q _ hq e => by simp [Value.ownBlock] at e; exact hq e
          have hg0 : base + 2 ≤ g := (ho.lt g rfl).1
          have hb4 := H1.out.grown hgr (hne _ (by omega) (by omega))
          have hbn := HP.out.bn.grown hgr (hne _ (by omega) (by omega))
          have hbd := HP.out.bd.grown hgr (hne _ (by omega) (by omega))
          have hbp := HP.out.bp.grown hgr (hne _ (by omega) (by omega))
          have hbl : Below base wr w1 := below_of_grown hgr (by omega) (fun q hq => by simp [Value.ownBlock] at hq; omega)
          have hs1 := HSS.out _ _ _ HP.out.s hbl
          obtain ⟨a1, c1', rfl, hnc, _⟩ := own_shape ho1
          obtain ⟨g1, rfl⟩ := own_some ho1 (by omega)
          have hg3 : g1 ≠ base + 3 := fun e => hnew (base + 3) (by omega) (hne _ (by omega) (by omega)) (by simp [Value.ownBlock, e])
          have hg4 : g1 ≠ base + 4 := fun e => hnew (base + 4) (by omega) (hne _ (by omega) (by omega)) (by simp [Value.ownBlock, e])
          have hg2 : base + 2 ≤ g1 := (ho1.lt g1 rfl).1
          rw [show ints p ++ [Value.int .i64 k] = ints (p ++ [(k : Int)]) from by rw [ints_append]; rfl] at ho1
          have epl : Hid (p.length + 1 = (p ++ [(k : Int)]).length) := by simp [Hid]
          have d1 := hb4.cell 0
          have d2 := hb4.free 0
          have d3 := hbp.cell 0
          simp only [List.getElem?_cons_zero, putF] at d1 d3
          have hput : ∀ v, PS S base n K0 caps0 (done ++ (List.range k).flatMap (fun (i : Nat) => if decide ((i : Int) ∈ p) then [] else permsU n f (p ++ [(i : Int)]))) (p ++ [(k : Int)]) (w1.setCell ⟨base + 3, 0, none⟩ v) ∨ v ≠ .slice (some ⟨g1, 0, none⟩) (p.length + 1) c1' := by
            intro v
            by_cases hv : v = .slice (some ⟨g1, 0, none⟩) (p.length + 1) c1'
            · left
              subst hv
              refine ⟨HSS.out _ _ _ hs1 (below_sto (Below.refl _ _) (g := base + 3) (by omega) 0 _), by simp <;> omega, hbn.oth (by omega) _ _, hbd.oth (by omega) _ _, hbp.oth (by omega) _ _, g1, c1', ?_, ?_, hg3, hg4⟩
              · rw [← epl.out]; exact hb4.set 0 _
              · rw [← epl.out]
                exact ho1.kept (setc_grown w1 (base + 3) 0 _) (.inr (by simp [Value.ownBlock]; exact hg3))
            · exact .inr hv
          have HPut := Lib.hid ((hput (.slice (some ⟨g1, 0, none⟩) (p.length + 1) c1')).resolve_right (fun h => h rfl))
          have LI := Lib.hid (IH.out _ _ _ HPut.out (by rw [List.length_append, List.length_singleton]; have := hl'.out; omega) (by have := HM.out k hlt; rw [decide_eq_false Hin.out, if_neg (by simp)] at this; exact this) So1.out So2.out)
          clear hput hs1 hbl hbn hbd hbp hb4 ho1 hgr hnew ho hne HPut c1 c3 H1 H2
          go_wp2_with fail
          refine LI.out.mono ?_
          rintro e w2 ⟨rfl, HQ⟩
          obtain ⟨g2, c2', k1, k2, k3, k4⟩ := HQ.ord
          rw [← epl.out] at k1 k2
          have d1 := k1.cell 0
          have d2 := k1.free 0
          simp only [List.getElem?_cons_zero] at d1
          have hnc2 : p.length + 1 ≤ c2' := by
            obtain ⟨_, _, e, hh, _⟩ := own_shape k2
            injection e with _ _ e3; omega
          have HN : Hid (PS S base n K0 caps0 (done ++ (List.range (k + 1)).flatMap (fun (i : Nat) => if decide ((i : Int) ∈ p) then [] else permsU n f (p ++ [(i : Int)]))) p (w2.setCell ⟨base + 3, 0, none⟩ (.slice (some ⟨g2, 0, none⟩) p.length c2'))) := by
            rw [permsU_step, decide_eq_false Hin.out, if_neg (by simp), ← List.append_assoc]
            refine ⟨HSS.out _ _ _ HQ.s (below_sto (Below.refl _ _) (g := base + 3) (by omega) 0 _), by simp; exact HQ.sz, HQ.bn.oth (by omega) _ _, HQ.bd.oth (by omega) _ _, HQ.bp.oth (by omega) _ _, g2, c2', k1.set 0 _, ?_, k3, k4⟩
            rw [ints_append] at k2
            exact (own_cut k2 (by simp)).kept (setc_grown w2 (base + 3) 0 _) (.inr (by simp [Value.ownBlock]; exact k3))
          clear k1 k2 HQ LI HP
          go_wp2_with fail
          go_roundw
          case rel => exact ⟨k + 1, by omega, by go_num, HN⟩
          case measure => simp [intOf]; omega
      · have : k = n := by omega
        subst this
        have HF : Hid (PS S base k K0 caps0 (done ++ permsU k (f + 1) p) p wr) := HP.out
        clear HP
        go_wp2_with fail
        go_end0
        exact ⟨rfl, HF.out⟩
set_option maxRecDepth 100000 in
set_option maxHeartbeats 4000000 in
theorem permute_any (S : List (List Int) → World → Prop) (n K0 : Nat) (caps0 : Array Value) (hn : n ≤ 64) (hK : ∀ (args : Array Value) (w : World), (callFunc K0 args).run Try.prog w = .ok (.enter K0 args) w) (w : World)
    (hS : ∀ done w1 w2, S done w1 → Below w.heap.size w1 w2 → S done w2) (hdo : ∀ done os w' a c, S done w' → orderB os n = true → done.length + 1 ≤ (permsU n n []).length → w.heap.size ≤ w'.heap.size → (∀ x, a = some x → w.heap.size ≤ x.block) → Rd w' w'.heap.size a (ints os) → Calls Try.prog K0 (#[.slice a os.length c] ++ caps0) w' fun e w'' => e = .returned (.tuple #[]) ∧ S (done ++ [os]) w'' ∧ Touch w' w'' 0 w.heap.size) (h0 : S [] w) :
    Calls Try.prog 78 #[.int .i64 n, .func (.func K0) #[] caps0] w fun e w' => e = .returned (.tuple #[]) ∧ S (permsU n n []) w' := by
  have LP := Lib.hid (fun w' h => put_any S w.heap.size n K0 caps0 hn hK hS _ hdo n [] [] w' h (by simp) (by simp) (by simp) (by simp))
  have HSS := Lib.hid hS
  have H0 := Lib.hid h0
  clear hS hdo h0 hK
  have hEP := enter_put
  go_enter Try.func78, Try.ntmps78
  go_wp2_with fail
  refine (LP.out _ ?_).mono ?_
  · refine ⟨HSS.out _ _ _ H0.out ?_, by simp <;> omega, ?_, ?_, ?_, w.heap.size + 2, 0, ?_, ?_, by omega, by omega⟩
    · exact ((((bl1 w _).alloc (by simp) _).alloc (by simp <;> omega) _).alloc (by simp <;> omega) _).alloc (by simp <;> omega) _
    · exact ((((Blk.new w _ _).alloc _).alloc _).alloc _).alloc _
    · have := (((Blk.new (w.alloc (.cells #[.int .i64 n] 2)) [.func (.func K0) #[] caps0] 91).alloc (.cells #[] 2)).alloc (.cells #[.slice (some ⟨w.heap.size + 2, 0, none⟩) 0 0] 22)).alloc (.cells #[putF w.heap.size] 1)
      simpa [putF] using this
    · have := Blk.new ((((w.alloc (.cells #[.int .i64 n] 2)).alloc (.cells #[.func (.func K0) #[] caps0] 91)).alloc (.cells #[] 2)).alloc (.cells #[.slice (some ⟨w.heap.size + 2, 0, none⟩) 0 0] 22)) [putF w.heap.size] 1
      simpa [putF] using this
    · have := (Blk.new (((w.alloc (.cells #[.int .i64 n] 2)).alloc (.cells #[.func (.func K0) #[] caps0] 91)).alloc (.cells #[] 2)) [.slice (some ⟨w.heap.size + 2, 0, none⟩) 0 0] 22).alloc (.cells #[putF w.heap.size] 1)
      simpa [putF] using this
    · have := ((own_empty ((w.alloc (.cells #[.int .i64 n] 2)).alloc (.cells #[.func (.func K0) #[] caps0] 91)) 2).alloc (.cells #[.slice (some ⟨w.heap.size + 2, 0, none⟩) 0 0] 22)).alloc (.cells #[putF w.heap.size] 1)
      simpa [putF] using this
  rintro e w' ⟨rfl, hp⟩
  have HR : Hid (S (permsU n n []) w') := by show S _ _; have := hp.s; simpa using this
  clear hp
  go_wp2_with fail
  go_end0
  exact ⟨rfl, HR.out⟩
end Go.Proofs.Ythbclfaeplmjgaa
