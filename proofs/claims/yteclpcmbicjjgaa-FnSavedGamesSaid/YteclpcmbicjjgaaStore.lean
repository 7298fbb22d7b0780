/-
  The bytes of what is saved: both roads.
-/
import Derived.Test.YteclpcmbicjjgaaTwo
import Derived.Test.YteclpcmbicjjgaaSavZ
import Derived.Test.YteclpcmbicjjgaaNames
import Derived.Deep.RegionHeldLaw
import Derived.Deep.RegionHeld3
import Derived.Lib.SlBytesConst
namespace Go.Proofs.Yteclpcmbicjjgaa
set_option linter.unusedVariables false
set_option linter.unusedSimpArgs false
open Go.RowKit

def headF (s : ByteArray) : List UInt8 := [71, 65, 77, 49] ++ [byteOf s.size]
def head2 (s : ByteArray) (R C : Int) : List UInt8 := headF s ++ s.data.toList ++ [byteOf R, byteOf C]
def bodyF (s : ByteArray) (R C : Int) (xA xB : List Int) (P : Int) (xW : List Int) : List UInt8 := head2 s R C ++ twoF 1000 xA ++ twoF 1000 xB ++ [byteOf P] ++ twoF 10000 xW
def storeL (s : ByteArray) (R C : Int) (xA xB : List Int) (P : Int) (xW : List Int) : List UInt8 := bodyF s R C xA xB P xW ++ [byteOf (chkF 0 (bodyF s R C xA xB P xW)), byteOf (chkF 0 (bodyF s R C xA xB P xW) / 256)]
def storeOF (s : ByteArray) (R C : Int) (xA xB : List Int) (P : Int) (xW : List Int) : ByteArray × Bool := if savedB s R C xA xB P xW = true then (bs (storeL s R C xA xB P xW), true) else (⟨#[]⟩, false)
theorem getD_in {xs : List Int} {lo hi : Int} (h : ∀ x ∈ xs, lo ≤ x ∧ x ≤ hi) : ∀ k, k < xs.length → lo ≤ xs.getD k 0 ∧ xs.getD k 0 ≤ hi := fun k hk => by
  have e := get_of_lt hk
  exact h _ (List.mem_of_getElem? e)
theorem savedB_spec {s : ByteArray} {R C : Int} {xA xB : List Int} {P : Int} {xW : List Int} (h : savedB s R C xA xB P xW = true) :
    s.size ≤ 8 ∧ (1 ≤ R ∧ R ≤ 6) ∧ (1 ≤ C ∧ C ≤ 6) ∧ (1 ≤ P ∧ P ≤ 6) ∧ xA.length ≤ 36 ∧ xB.length ≤ 36 ∧ xW.length ≤ 64 ∧ (∀ k, k < xA.length → 0 ≤ xA.getD k 0 + 1000 ∧ xA.getD k 0 + 1000 ≤ 65535) ∧ (∀ k, k < xB.length → 0 ≤ xB.getD k 0 + 1000 ∧ xB.getD k 0 + 1000 ≤ 65535) ∧ (∀ k, k < xW.length → 0 ≤ xW.getD k 0 + 10000 ∧ xW.getD k 0 + 10000 ≤ 65535) := by
  simp only [savedB, nameB, gameB, worthsB, Bool.and_eq_true, inB_iff, manyB_iff, decide_eq_true_eq] at h
  obtain ⟨⟨⟨_, _, hs⟩, ⟨hR, hC⟩, ⟨⟨_, hA⟩, vA⟩, ⟨_, hB⟩, vB⟩, ⟨hP, ⟨_, hW⟩, vW⟩, _⟩ := h
  have hRC := (prod_in hR.1 hR.2 hC.1 hC.2).2
  have hPP := (pow6 hP.1 hP.2).2
  refine ⟨by omega, hR, hC, hP, by omega, by omega, by omega, fun k hk => ?_, fun k hk => ?_, fun k hk => ?_⟩
  · have := getD_in vA k hk; omega
  · have := getD_in vB k hk; omega
  · have := getD_in vW k hk; omega
theorem headF_len (s : ByteArray) : (headF s).length = 5 := rfl
theorem head2_len (s : ByteArray) (R C : Int) : (head2 s R C).length = 7 + s.size := by
  have := Lib.size_eq s
  simp only [head2, List.length_append, headF_len, List.length_cons, List.length_nil]; omega
theorem bodyF_len (s : ByteArray) (R C : Int) (xA xB : List Int) (P : Int) (xW : List Int) : (bodyF s R C xA xB P xW).length = 8 + s.size + 2 * xA.length + 2 * xB.length + 2 * xW.length := by simp [bodyF, head2_len, twoF_length]; omega
/-- The seven cells. -/
def C7 (w : World) (b o : Nat) (v0 v1 v2 v3 v4 v5 v6 : Value) : Prop :=
  w.cell? ⟨b, o, none⟩ = some v0 ∧ w.cell? ⟨b, o + 1, none⟩ = some v1 ∧ w.cell? ⟨b, o + 2, none⟩ = some v2 ∧ w.cell? ⟨b, o + 3, none⟩ = some v3 ∧ w.cell? ⟨b, o + 4, none⟩ = some v4 ∧ w.cell? ⟨b, o + 5, none⟩ = some v5 ∧ w.cell? ⟨b, o + 6, none⟩ = some v6
theorem C7.to {w w' : World} {b o B : Nat} {v0 v1 v2 v3 v4 v5 v6 : Value} (h : C7 w b o v0 v1 v2 v3 v4 v5 v6) (hb : Below B w w') (hl : b < B) : C7 w' b o v0 v1 v2 v3 v4 v5 v6 := by
  obtain ⟨h0, h1, h2, h3, h4, h5, h6⟩ := h
  exact ⟨(hb.cell hl).trans h0, (hb.cell hl).trans h1, (hb.cell hl).trans h2, (hb.cell hl).trans h3, (hb.cell hl).trans h4, (hb.cell hl).trans h5, (hb.cell hl).trans h6⟩
theorem own_below' {base e n m c : Nat} {w w' : World} {a : Option Addr} {xs : List Value} (h : w.ownsRow base e 1 (.slice a n c) m xs) (hg : w.grownBy w' (Value.slice a n c).ownBlock) (hb : base ≤ w.heap.size) : Below base w w' := below_append (Below.refl base w) h hg (Nat.le_refl _) hb
def mk4 : Array Value := #[.int .u8 71, .int .u8 65, .int .u8 77, .int .u8 49]
theorem cells_mark (w : World) (T : TypeId) (fr : Nat × Nat) : ∀ j (hj : j < ([71, 65, 77, 49] : List UInt8).length), (w.alloc (.cells #[.int .u8 71, .int .u8 65, .int .u8 77, .int .u8 49] T fr)).cell? ⟨w.heap.size, j, none⟩ = some (.int .u8 (([71, 65, 77, 49] : List UInt8)[j].toNat : Int)) := fun j hj => by
  rw [World.cell?_alloc_mark]
  match j, hj with
  | 0, _ => rfl
  | 1, _ => rfl
  | 2, _ => rfl
  | 3, _ => rfl
  | j + 4, h => simp at h; omega
theorem str_of_own {P : Program} {w : World} {base e n c src dst : Nat} {a : Option Addr} {l : List UInt8} (h : w.ownsRow base e 1 (.slice a n c) n (byc l)) (hn : 1 ≤ n) (hs : P.underlying src = some (.slice e)) (he : P.underlying e = some (.int .u8)) (hd : P.underlying dst = some .string) :
    (convert src dst (.slice a n c)).run P w = .ok (.string (bs l)) w := by
  obtain ⟨g, rfl, rfl, _, _, hc⟩ := own_byc h hn
  exact run_convert_bytes_back w src dst e ⟨g, 0, none⟩ c l hs he hd (fun j hj => by rw [add_none2]; exact hc j hj)
set_option maxRecDepth 10000 in
set_option maxHeartbeats 4000000 in
theorem storeSaved_any (w : World) (s : ByteArray) (R C P : Int) (aA : Option Addr) (cA : Nat) (xA : List Int) (aB : Option Addr) (cB : Nat) (xB : List Int) (aW : Option Addr) (cW : Nat) (xW : List Int) (h : RdSaved w w.heap.size aA xA aB xB aW xW) (ls : s.size ≤ 1048576) (lA : xA.length ≤ 1048576) (lB : xB.length ≤ 1048576) (lW : xW.length ≤ 1048576) :
    Calls Try.prog 21 #[.agg #[.string s, .int .i64 R, .int .i64 C, .slice aA xA.length cA, .slice aB xB.length cB, .int .i64 P, .slice aW xW.length cW]] w fun e w' => e = .returned (.tuple #[.string (storeOF s R C xA xB P xW).1, .bool (storeOF s R C xA xB P xW).2]) ∧ Below w.heap.size w w' := by
  have B0 := Lib.hid (bl1 w (.cells #[.string s, .int .i64 R, .int .i64 C, .slice aA xA.length cA, .slice aB xB.length cB, .int .i64 P, .slice aW xW.length cW] 34))
  have K0 := Lib.hid (Blk.new w [.string s, .int .i64 R, .int .i64 C, .slice aA xA.length cA, .slice aB xB.length cB, .int .i64 P, .slice aW xW.length cW] 34)
  have H0 := Lib.hid (h.to B0.out)
  have LV := Lib.hid (validSaved_any _ s R C P aA cA xA aB cB xB aW cW xW H0.out ls lA lB lW)
  obtain ⟨z0, z1, z2, z3, z4, z5, z6⟩ := cells7 K0.out
  clear h ls lA lB lW
  cases hV : savedB s R C xA xB P xW with
  | false =>
    have HF : Hid (storeOF s R C xA xB P xW = (⟨#[]⟩, false)) := by simp [Hid, storeOF, hV]
    rw [hV] at LV
    clear hV
    go_enter Try.func21, Try.ntmps21
    go_wp2_with fail
    refine LV.out.mono ?_
    rintro e w1 ⟨rfl, hb⟩
    have B1 := below_then B0.out hb
    clear hb
    go_wp2_with fail
    go_ret2
    exact ⟨by rw [HF.out]; rfl, B1⟩
  | true =>
    have HF : Hid (storeOF s R C xA xB P xW = (bs (storeL s R C xA xB P xW), true)) := by simp [Hid, storeOF, hV]
    have hspec := savedB_spec hV
    rw [hV] at LV
    clear hV
    obtain ⟨ls, ⟨R0, R1⟩, ⟨C0, C1⟩, ⟨P0, P1⟩, lA, lB, lW, vA, vB, vW⟩ := hspec
    have VA := Lib.hid vA
    have VB := Lib.hid vB
    have VW := Lib.hid vW
    clear vA vB vW
    go_enter Try.func21, Try.ntmps21
    go_wp2_with fail
    refine LV.out.mono ?_
    rintro e w2 ⟨rfl, hb⟩
    have B2 := Lib.hid (below_then B0.out hb)
    have H2 := Lib.hid (H0.out.to hb)
    have K2 := Lib.hid (K0.out.same hb)
    clear hb z0 z1 z2 z3 z4 z5 z6 H0 K0 LV B0
    have hbs := K2.out.lt
    have KK : Hid (∀ w', Below w2.heap.size w2 w' → Blk w' w.heap.size [.string s, .int .i64 R, .int .i64 C, .slice aA xA.length cA, .slice aB xB.length cB, .int .i64 P, .slice aW xW.length cW] 34) := fun w' hb => K2.out.same hb
    have B3 := Lib.hid (bl1 w2 (.cells #[.int .u8 71, .int .u8 65, .int .u8 77, .int .u8 49] 5 (4, 5)))
    have hcv := Lib.run_convert_bytes_const (P := Try.prog) w2 55 5 #[.int .u8 71, .int .u8 65, .int .u8 77, .int .u8 49] 4 4 Try.underlying55 Try.underlying5
    have MC := Lib.hid (cells_mark w2 5 (4, 5))
    obtain ⟨z0, z1, z2, z3, z4, z5, z6⟩ := cells7 (KK.out _ B3.out)
    have e1 := Lib.hid (byteOf_toNat s.size)
    have e2 := Lib.hid (byteOf_toNat R)
    have e3 := Lib.hid (byteOf_toNat C)
    have e4 := Lib.hid (byteOf_toNat P)
    have s0 : (0 : Int) ≤ (s.size : Int) := Int.natCast_nonneg _
    go_wp2_with (at_builtin; refine append_fresh _ rfl _ _ 55 rfl w2.heap.size 5 Try.underlying55 info_u8T w2.heap.size 4 [71, 65, 77, 49] rfl rfl (fun j hj => ((bl1 _ _).cell (by simp)).trans (MC.out j hj)) _ 1 1 [byteOf s.size] rfl rfl (by omega) (blk_byc (blk_one' _ _ (by simp) (by rw [e1.out]; omega))) (by omega) (by simp; omega) ?_)
    intro a4 c4 w4 ho hb
    have hb' : Below w2.heap.size _ w4 := hb.mono (by first | omega | (simp; omega) | simp)
    have hb4 : Below w2.heap.size w2 w4 := B3.out.trans (((bl1 _ _).mono (by simp)).trans hb')
    have O4 : Hid (w4.ownsRow w2.heap.size 5 1 (.slice a4 5 c4) 5 (byc (headF s))) := ho
    have B4 := Lib.hid hb4
    clear ho hb hb' hb4 z0 z1 z2 z3 z4 z5 z6 B3 MC hcv
    obtain ⟨z0, z1, z2, z3, z4, z5, z6⟩ := cells7 (KK.out _ B4.out)
    have hs4 := B4.out.size
    go_wp2_with fail
    have O4d : Hid (w4.drew.ownsRow w2.heap.size 5 1 (.slice a4 5 c4) 5 (byc (headF s))) := O4.out
    have hne4 : Hid (some w4.heap.size ≠ (Value.slice a4 5 c4).ownBlock) := fun e => Nat.lt_irrefl _ (O4.out.lt _ e.symm).2
    have BT : Hid (∀ (u v : Int), u = ((byteOf R).toNat : Int) → v = ((byteOf C).toNat : Int) → Blk (w4.drew.alloc (.cells #[.int .u8 u, .int .u8 v] 5)) w4.heap.size (byc [byteOf R, byteOf C]) 5) := fun u v h1 h2 => blk_two' w4.drew 5 rfl h1 h2
    have B4d := Lib.hid (below_drew' B4.out)
    have hs4d : w2.heap.size ≤ w4.drew.heap.size := hs4
    go_region_held_law (fun w' => w'.cell? ⟨w.heap.size, 0, none⟩ = some (.string s) ∧ w'.cell? ⟨w.heap.size, 1, none⟩ = some (.int .i64 R) ∧ w'.cell? ⟨w.heap.size, 2, none⟩ = some (.int .i64 C) ∧ w'.cell? ⟨w.heap.size, 3, none⟩ = some (.slice aA xA.length cA) ∧ w'.cell? ⟨w.heap.size, 4, none⟩ = some (.slice aB xB.length cB) ∧ w'.cell? ⟨w.heap.size, 5, none⟩ = some (.int .i64 P) ∧ w'.cell? ⟨w.heap.size, 6, none⟩ = some (.slice aW xW.length cW))
      (first | exact cells7 (KK.out _ B7.out) | exact cells7 (KK.out _ B5.out) | go_keep)
      (first
        | (refine step_str 21 (by rfl) (by rfl) _ _ 55 9 (by rfl) w2.heap.size 5 Try.underlying55 Try.underlying9 info_u8T _ 5 (headF s) (by rfl) O4d.out s (by rfl) (by omega) hs4d ?_; intro a5 c5 w5 ho5 hg5; have O5 := Lib.hid ho5; have B5 := Lib.hid (B4d.out.trans (own_below' O4d.out hg5 hs4d)); have hs5 := B5.out.size)
        | (refine step_str 21 (by rfl) (by rfl) _ _ 55 9 (by rfl) w2.heap.size 5 Try.underlying55 Try.underlying9 info_u8T _ 5 (headF s) (by rfl) (O4d.out.alloc _) s (by rfl) (by omega) (Nat.le_trans hs4 (by simp)) ?_; intro a5 c5 w5 ho5 hg5; have O5 := Lib.hid ho5; have BT5 := Lib.hid ((BT.out _ _ (by first | exact wrap_byte _ | (rw [e2.out]; omega)) (by first | exact wrap_byte _ | (rw [e3.out]; omega))).grown hg5 hne4.out); have B5 := Lib.hid ((B4d.out.alloc hs4d _).trans (own_below' (O4d.out.alloc _) hg5 (Nat.le_trans hs4 (by simp)))); have hs5 := B5.out.size)
        | (refine step_byc 31 (by rfl) (by rfl) _ _ 55 (by rfl) w2.heap.size 5 (.int .u8 0) 1 Try.underlying55 info_u8T (by rfl) _ (5 + s.size) (headF s ++ s.data.toList) (by rfl) O5.out _ 2 2 [byteOf R, byteOf C] (by rfl) (by rfl) (by decide) BT5.out (by decide) (by omega) hs5 ?_; intro g7 c7 w7 ho7 hg7; have O7 := Lib.hid ho7; have B7 := Lib.hid (B5.out.trans (own_below' O5.out hg7 hs5)))
        | (refine step_byc 31 (by rfl) (by rfl) _ _ 55 (by rfl) w2.heap.size 5 (.int .u8 0) 1 Try.underlying55 info_u8T (by rfl) _ (5 + s.size) (headF s ++ s.data.toList) (by rfl) (O5.out.alloc _) _ 2 2 [byteOf R, byteOf C] (by rfl) (by rfl) (by decide) (blk_two' _ _ (by simp) (by first | exact wrap_byte _ | (rw [e2.out]; omega)) (by first | exact wrap_byte _ | (rw [e3.out]; omega))) (by decide) (by omega) (Nat.le_trans hs5 (by simp)) ?_; intro g7 c7 w7 ho7 hg7; have O7 := Lib.hid ho7; have B7 := Lib.hid ((B5.out.alloc hs5 _).trans (own_below' (O5.out.alloc _) hg7 (Nat.le_trans hs5 (by simp))))))
    all_goals
      clear z0 z1 z2 z3 z4 z5 z6
      obtain ⟨z0, z1, z2, z3, z4, z5, z6⟩ := cells7 (KK.out _ B7.out)
      obtain ⟨L7, hL7⟩ : ∃ L, L = headF s ++ s.data.toList ++ [byteOf R, byteOf C] := ⟨_, rfl⟩
      rw [← hL7] at O7
      obtain ⟨n7, hn7⟩ : ∃ n, n = 5 + s.size + 2 := ⟨_, rfl⟩
      rw [← hn7] at O7
      rw [← hn7]
      have hn7b : n7 ≤ 15 := by omega
      have HL7 := Lib.hid hL7
      clear hL7 hn7 O4 O5 O4d B4 B4d B5 hs5 hs4 hs4d BT hne4 e1 e2 e3
      have O7d : Hid (w7.drew.ownsRow w2.heap.size 5 1 (.slice (some ⟨g7, 0, none⟩) n7 c7) n7 (byc L7)) := O7.out
      have B7d := Lib.hid (below_drew' B7.out)
      have hs7d : w2.heap.size ≤ w7.drew.heap.size := B7d.out.size
      go_wp2_with fail
      go_region_held_law (fun w' => w'.cell? ⟨w.heap.size, 0, none⟩ = some (.string s) ∧ w'.cell? ⟨w.heap.size, 1, none⟩ = some (.int .i64 R) ∧ w'.cell? ⟨w.heap.size, 2, none⟩ = some (.int .i64 C) ∧ w'.cell? ⟨w.heap.size, 3, none⟩ = some (.slice aA xA.length cA) ∧ w'.cell? ⟨w.heap.size, 4, none⟩ = some (.slice aB xB.length cB) ∧ w'.cell? ⟨w.heap.size, 5, none⟩ = some (.int .i64 P) ∧ w'.cell? ⟨w.heap.size, 6, none⟩ = some (.slice aW xW.length cW))
        (first | exact cells7 (KK.out _ B9.out) | exact cells7 (KK.out _ B8.out) | go_keep)
        (first
          | (go_at_call_of 52 aA; refine (twoBytes_any w7.drew w2.heap.size hs7d (some ⟨g7, 0, none⟩) n7 c7 L7 O7d.out (by omega) 1000 (by omega) (by omega) aA cA xA (.inl (H2.out.A.below B7d.out (Nat.le_refl _))) (by omega) VA.out).mono ?_; rintro e w8 ⟨a8, c8, rfl, ho8, hb8⟩; have O8 := Lib.hid ho8; have B8 := Lib.hid (B7d.out.trans hb8); have hs8 := B8.out.size)
          | (go_at_call_of 52 aB; refine (twoBytes_any w8 w2.heap.size hs8 a8 (n7 + 2 * xA.length) c8 (L7 ++ twoF 1000 xA) O8.out (by omega) 1000 (by omega) (by omega) aB cB xB (.inl (H2.out.B.below B8.out (Nat.le_refl _))) (by omega) VB.out).mono ?_; rintro e w9 ⟨a9, c9, rfl, ho9, hb9⟩; have O9 := Lib.hid ho9; have B9 := Lib.hid (B8.out.trans hb9); have hs9 := B9.out.size))
      clear z0 z1 z2 z3 z4 z5 z6
      obtain ⟨z0, z1, z2, z3, z4, z5, z6⟩ := cells7 (KK.out _ B9.out)
      obtain ⟨L9, hL9⟩ : ∃ L, L = L7 ++ twoF 1000 xA ++ twoF 1000 xB := ⟨_, rfl⟩
      rw [← hL9] at O9
      obtain ⟨n9, hn9⟩ : ∃ n, n = n7 + 2 * xA.length + 2 * xB.length := ⟨_, rfl⟩
      rw [← hn9] at O9
      rw [← hn9]
      have hn9b : n9 ≤ 200 := by omega
      have HL9 := Lib.hid hL9
      clear hL9 hn9 O7 O8 O7d B7 B7d B8 hs7d hs8 hn7b ho8 hb8 ho9 hb9
      have O9d : Hid (w9.drew.ownsRow w2.heap.size 5 1 (.slice a9 n9 c9) n9 (byc L9)) := O9.out
      have B9d := Lib.hid (below_drew' B9.out)
      have hs9d : w2.heap.size ≤ w9.drew.heap.size := B9d.out.size
      go_wp2_with fail
      go_region_held_law (fun w' => w'.cell? ⟨w.heap.size, 0, none⟩ = some (.string s) ∧ w'.cell? ⟨w.heap.size, 1, none⟩ = some (.int .i64 R) ∧ w'.cell? ⟨w.heap.size, 2, none⟩ = some (.int .i64 C) ∧ w'.cell? ⟨w.heap.size, 3, none⟩ = some (.slice aA xA.length cA) ∧ w'.cell? ⟨w.heap.size, 4, none⟩ = some (.slice aB xB.length cB) ∧ w'.cell? ⟨w.heap.size, 5, none⟩ = some (.int .i64 P) ∧ w'.cell? ⟨w.heap.size, 6, none⟩ = some (.slice aW xW.length cW))
        (first | exact cells7 (KK.out _ B11.out) | exact cells7 (KK.out _ B10.out) | go_keep)
        (first
          | (go_at_call_of 52 aW; refine (twoBytes_any w10 w2.heap.size hs10 (some ⟨g10, 0, none⟩) (n9 + 1) c10 (L9 ++ [byteOf P]) O10.out (by omega) 10000 (by omega) (by omega) aW cW xW (.inl (H2.out.W.below B10.out (Nat.le_refl _))) (by omega) VW.out).mono ?_; rintro e w11 ⟨a11, c11, rfl, ho11, hb11⟩; have O11 := Lib.hid ho11; have B11 := Lib.hid (B10.out.trans hb11); have hs11 := B11.out.size)
          | (refine step_byc 47 (by rfl) (by rfl) _ _ 55 (by rfl) w2.heap.size 5 (.int .u8 0) 1 Try.underlying55 info_u8T (by rfl) _ n9 L9 (by rfl) (O9d.out.alloc _) _ 1 1 [byteOf P] (by rfl) (by rfl) (by decide) (blk_one' _ _ (by simp) (by first | exact wrap_byte _ | (rw [e4.out]; omega))) (by decide) (by omega) (Nat.le_trans hs9d (by simp)) ?_; intro g10 c10 w10 ho10 hg10; have O10 := Lib.hid ho10; have B10 := Lib.hid ((B9d.out.alloc hs9d _).trans (own_below' (O9d.out.alloc _) hg10 (Nat.le_trans hs9d (by simp)))); have hs10 := B10.out.size))
      clear z0 z1 z2 z3 z4 z5 z6
      obtain ⟨L11, hL11⟩ : ∃ L, L = L9 ++ [byteOf P] ++ twoF 10000 xW := ⟨_, rfl⟩
      rw [← hL11] at O11
      obtain ⟨n11, hn11⟩ : ∃ n, n = n9 + 1 + 2 * xW.length := ⟨_, rfl⟩
      rw [← hn11] at O11
      rw [← hn11]
      have hn11b : n11 ≤ 400 := by omega
      have hn11p : 1 ≤ n11 := by omega
      have HB : Hid (bodyF s R C xA xB P xW = L11) := by rw [hL11, HL9.out, HL7.out]; rfl
      have hlen : L11.length = n11 := by simpa using O11.out.1
      have hsz : (bs L11).size ≤ 1099511627776 := by rw [bs_size]; omega
      have hck := chkF_bd L11 0 (by omega) (by omega)
      have HS : Hid (storeL s R C xA xB P xW = L11 ++ [byteOf (chkF 0 L11), byteOf (chkF 0 L11 / 256)]) := by rw [Hid, storeL, HB.out]
      clear hL11 hn11 O9 O10 O9d B9 B9d B10 hs9 hs9d hs10 hn9b HL7 HL9 hlen ho10 hg10 ho11 hb11
      have hcv := str_of_own (P := Try.prog) O11.out hn11p Try.underlying55 Try.underlying5 Try.underlying9
      have LC := Lib.hid (checkOf_any 0 (by omega) (by omega) (bs L11) hsz w11)
      rw [bs_list] at LC
      generalize chkF 0 L11 = ck at *
      go_wp2_with fail
      refine LC.out.mono ?_
      rintro e w12 ⟨rfl, rfl⟩
      have hX := Lib.hid ((Blk.new w11 [.int .i64 ck] 2).rd (B := (w11.alloc (.cells #[.int .i64 ck] 2)).heap.size) (by simp))
      have hsA : w2.heap.size ≤ (w11.alloc (.cells #[.int .i64 ck] 2)).heap.size := Nat.le_trans hs11 (by simp)
      have B12 := Lib.hid (B11.out.alloc hs11 (.cells #[.int .i64 ck] 2))
      have LT : Hid (Calls Try.prog 52 #[.slice a11 n11 c11, .int .i64 0, .slice (some ⟨w11.heap.size, 0, none⟩) 1 1] (w11.alloc (.cells #[.int .i64 ck] 2)) fun e w' => ∃ a' c', e = .returned (.slice a' (n11 + 2) c') ∧ w'.ownsRow w2.heap.size 5 1 (.slice a' (n11 + 2) c') (n11 + 2) (byc (L11 ++ twoF 0 [ck])) ∧ Below w2.heap.size (w11.alloc (.cells #[.int .i64 ck] 2)) w') := (twoBytes_any (w11.alloc (.cells #[.int .i64 ck] 2)) w2.heap.size hsA a11 n11 c11 L11 (O11.out.alloc _) (by omega) 0 (by omega) (by omega) (some ⟨w11.heap.size, 0, none⟩) 1 [ck] (.inr ⟨rfl, hX.out⟩) (by simp) (fun k hk => by
        have : k = 0 := by simp at hk; omega
        subst this
        simp; omega))
      clear hcv
      go_wp2_with fail
      refine LT.out.mono ?_
      rintro e w13 ⟨a13, c13, rfl, ho13, hb13⟩
      have hcv := str_of_own (P := Try.prog) ho13 (by omega) Try.underlying55 Try.underlying5 Try.underlying9
      have BF := below_then B2.out (B12.out.trans hb13)
      have HE : Hid (bs (L11 ++ twoF 0 [ck]) = (storeOF s R C xA xB P xW).1) := by
        rw [HF.out, Hid]
        show _ = bs (storeL s R C xA xB P xW)
        rw [HS.out]
        simp [twoF]
      have HT : Hid ((storeOF s R C xA xB P xW).2 = true) := by rw [Hid, HF.out]
      clear LT ho13 hb13 HF HS
      go_wp2_with fail
      go_ret2
      exact ⟨by rw [HT.out, ← HE.out]; rfl, BF⟩
end Go.Proofs.Yteclpcmbicjjgaa
