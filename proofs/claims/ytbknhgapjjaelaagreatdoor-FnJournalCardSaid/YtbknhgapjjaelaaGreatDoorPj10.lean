/-
  Part 10 of what the proof stands on: lemmas and contracts, each with its conditions ahead of the colon.
-/
import Derived.Test.YtbknhgapjjaelaaGreatDoorPj01
import Derived.Test.YtbknhgapjjaelaaGreatDoorPj06
import Derived.Test.YtbknhgapjjaelaaGreatDoorPj08
import Derived.Test.YtbknhgapjjaelaaGreatDoorPj09
set_option maxRecDepth 10000
set_option maxHeartbeats 8000000
namespace Go.Proofs.YtbknhgapjjaelaaGreatDoor
set_option linter.unusedVariables false
set_option linter.unusedSimpArgs false
open Go.RowKit
theorem EG (f:Nat→Int) (i:Nat) {o:Int} {t:List Int} (h:fT f i=o :: t):fT f (i+1)=if f i<f o.toNat then o :: t else if f o.toNat<f i then [(i:Int)] else o :: t ++ [(i:Int)]:=by
 rw [fT,h]
theorem Cw (f:Nat→Int) (i:Nat) (h:fT f i=[]):fT f (i+1)=[(i:Int)]:=by
 rw [fT,h]
theorem kL (w:World) (R C k:Nat) (aA:Option Addr) (cA:Nat) (xA:List Int) (aB:Option Addr) (nB cB:Nat) (hr:Rd w w.heap.size aA (ae xA)) (hl:xA.length≤1048576) (hx:xA.length=R * C) (hR:R≤6) (hC:C≤6) (hk:k<C) :
 Calls Tryz.prog 142 #[.agg #[.int .i64 R,.int .i64 C,.slice aA xA.length cA,.slice aB nB cB],.int .i64 k] w fun e w'=>∃ a' c',e=.returned (.slice a' (dj R C xA k).length c')∧OwnI 2 w' w.heap.size w'.heap.size a' c' (dj R C xA k)∧Below w.heap.size w w':=by
 have KG:Eu (w.alloc (.cells #[.int .i64 R,.int .i64 C,.slice aA xA.length cA,.slice aB nB cB] 26)) w.heap.size R C aA cA xA (.slice aB nB cB):=Blk.new w [.int .i64 R,.int .i64 C,.slice aA xA.length cA,.slice aB nB cB] 26;have B1:=ai w (.cells #[.int .i64 R,.int .i64 C,.slice aA xA.length cA,.slice aB nB cB] 26);have HG:=Oi KG;have LA:=Oi (fun v (hb:Below w.heap.size w v) (i:Nat) (hi:i<R)=>ou v R C i k aA cA xA (.slice aB nB cB) (hr.to hb) (by rw [hx];exact dH hi hk) hl)
 have HO:=Oi (bz (w.alloc (.cells #[.int .i64 R,.int .i64 C,.slice aA xA.length cA,.slice aB nB cB] 26)) 2);have HB0:Hid (Below (w.heap.size+1) (w.alloc (.cells #[.int .i64 R,.int .i64 C,.slice aA xA.length cA,.slice aB nB cB] 26)) ((w.alloc (.cells #[.int .i64 R,.int .i64 C,.slice aA xA.length cA,.slice aB nB cB] 26)).alloc (.cells #[] 2))):=by
  have:=ai (w.alloc (.cells #[.int .i64 R,.int .i64 C,.slice aA xA.length cA,.slice aB nB cB] 26)) (.cells #[] 2);rw [World.size_alloc] at this;exact this
 have HO2:Hid (World.ownsRow _ (w.heap.size+1) _ _ _ _ _):=bS HO.out (by simp)
 have q0:((w.alloc (.cells #[.int .i64 R,.int .i64 C,.slice aA xA.length cA,.slice aB nB cB] 26)).alloc (.cells #[] 2)).cell? ⟨w.heap.size,0,none⟩=some (.int .i64 R):=by rw [(Blk.alloc KG _).cell];rfl
 have HB1:=Oi B1;have hE:Hid (dj R C xA k=fT (fun i=>aU C xA i k) R):=rfl
 have h0:Hid (fT (fun i=>aU C xA i k) 0=[]):=rfl
 have HL:=Oi (fun i=>pa (fun i=>aU C xA i k) i)
 have HM:=Oi (fun i=>rx (fun i=>aU C xA i k) i)
 have HS1:=Oi (fun i o t h=>EG (fun i=>aU C xA i k) i (o:=o) (t:=t) h)
 have HS0:=Oi (fun i h=>Cw (fun i=>aU C xA i k) i h)
 clear HO hr hx KG B1
 go_enter Tryz.func142,Tryz.ntmps142;go_wp2_with fail;clear q0
 go_loopw [10,5] (fun iv ov wr=>∃ (i:Nat) (a:Option Addr) (c:Nat) (l:List Int),i≤R∧iv=.int .i64 i∧ov=.slice a l.length c∧Hid (l=fT (fun i=>aU C xA i k) i)∧Hid (wr.ownsRow (w.heap.size+1) 2 1 (.slice a l.length c) l.length (ae l))∧Hid (Below (w.heap.size+1) (w.alloc (.cells #[.int .i64 R,.int .i64 C,.slice aA xA.length cA,.slice aB nB cB] 26)) wr)∧w.heap.size+1≤wr.heap.size) (fun iv _ _=>R - (intOf iv).toNat)
 case atStart=>exact ⟨0,_,_,[],Nat.zero_le _,rfl,rfl,h0.out.symm,(by have h:=HO2.out;simp at h;exact h),HB0.out,(by simp)⟩
 case round =>
  clear HO2 HB0;obtain ⟨i,a,c,l,hi,rfl,rfl,hbl,ho,hw,hsz⟩:=hrel;have i0:(0:Int)≤(i:Int):=Int.natCast_nonneg _;have k0:(0:Int)≤(k:Int):=Int.natCast_nonneg _;have KW:=(Blk.below HG.out hw.out (by omega))
  have q0:wr.cell? ⟨w.heap.size,0,none⟩=some (.int .i64 R):=KW.cell 0
  by_cases hlt:i<R
  · have hii:(i:Int)<(R:Int):=by omega
    have hln:=HL.out i;rw [← hbl.out] at hln;have D0:∀ z9:Later wr,z9.w'.cell? ⟨w.heap.size,0,none⟩=some (.int .i64 R):=fun z9=>(z9.h.cell (p:=⟨w.heap.size,0,none⟩) KW.lt).trans (KW.cell 0)
    have D1:∀ z9:Later wr,z9.w'.cell? ⟨w.heap.size,1,none⟩=some (.int .i64 C):=fun z9=>(z9.h.cell (p:=⟨w.heap.size,1,none⟩) KW.lt).trans (KW.cell 1)
    have D2:∀ z9:Later wr,z9.w'.cell? ⟨w.heap.size,2,none⟩=some (.slice aA xA.length cA):=fun z9=>(z9.h.cell (p:=⟨w.heap.size,2,none⟩) KW.lt).trans (KW.cell 2)
    have D3:∀ z9:Later wr,z9.w'.cell? ⟨w.heap.size,3,none⟩=some (.slice aB nB cB):=fun z9=>(z9.h.cell (p:=⟨w.heap.size,3,none⟩) KW.lt).trans (KW.cell 3)
    have LAi:=Oi (fun v (hb:Below wr.heap.size wr v)=>LA.out v ((HB1.out.trans (hw.out.mono (by omega))).trans (hb.mono (by have:=hw.out.size;simp at this;omega))) i hlt)
    have hW:=hw;clear hw KW
    cases l with
    | nil =>
      have hst:=HS0.out i hbl.out.symm;have HS:=Oi hst;clear hst hbl LAi;go_wp2_with fail;refine bg (by kernel_rfl) (by kernel_rfl) ?_
      repeat (go_big_quiet_step (fail))
      refine wpQuiet_nil ?_
      rintro w5 ⟨⟨_,hb5⟩,rfl⟩;have HW5:=Oi hb5;clear hb5;have E0:∀ z9:Later w5,z9.w'.cell? ⟨w.heap.size,0,none⟩=some (.int .i64 R):=fun z9=>D0 ⟨z9.w',aa HW5.out z9.h⟩
      clear D0 D1 D2 D3;go_wp2_with fail;refine bg (by kernel_rfl) (by kernel_rfl) ?_
      repeat (go_big_quiet_step (fail))
      refine wpQuiet_nil ?_
      rintro w6 ⟨⟨_,hb6⟩,rfl⟩;have HW6:=Oi (aa HW5.out hb6);have hO6:=Oi (aD ho.out HW6.out);have hW6:=Oi (hW.out.trans (HW6.out.mono hsz));have hsz6:w.heap.size+1≤w6.heap.size:=by have:=HW6.out.size;omega
      clear hb6 E0 HW5 HW6 ho hW q0
      go_wp2_with (at_builtin;refine aH _ rfl _ _ 24 rfl (w.heap.size+1) 2 (.int .i64 0) 8 Tryz.underlying24 aZ rfl _ _ _ rfl hO6.out (.int .i64 i) rfl rfl (by omega) (by first | omega | (simp only [List.length_cons] at *;omega)) hsz6 ?_)
      intro v8 w8 o8 g8;obtain ⟨a8,c8,e8,_,_⟩:=ba o8;subst e8;have B8:=Oi (ah hW6.out hO6.out g8 (Nat.le_refl _) hsz6);have O8:=Oi o8;have hs8:w.heap.size+1≤w8.heap.size:=by have:=g8.size;omega
      clear o8 g8;go_wp2_with fail;go_roundw
      case rel=>exact ⟨i+1,a8,c8,[] ++ [(i:Int)],by omega,by go_num,by simp,(by rw [Hid];exact HS.out.symm),(by rw [Hid,bk,List.length_append];exact O8.out),B8,hs8⟩
      case measure=>simp [intOf];omega
    | cons o t =>
      obtain ⟨oj,hoj,hoi⟩:=HM.out i o (by rw [← hbl.out];simp)
      subst hoj;have hst:=HS1.out i _ _ hbl.out.symm;rw [Int.toNat_natCast] at hst;have LAo:=Oi (fun v (hb:Below wr.heap.size wr v)=>LA.out v ((HB1.out.trans (hW.out.mono (by omega))).trans (hb.mono (by have:=hW.out.size;simp at this;omega))) oj (by omega))
      obtain ⟨g,tl,ea,hg,hK,_⟩:=lM ho.out (by simp)
      subst ea;have hgl:=hK.lt;have D4:∀ z9:Later wr,z9.w'.cell? ⟨g,0,none⟩=some (.int .i64 oj):=fun z9=>(z9.h.cell (p:=⟨g,0,none⟩) hgl).trans (by rw [hK.cell];rfl)
      have o0:(0:Int)≤(oj:Int):=Int.natCast_nonneg _;have htl:(0:Int)<(((oj:Int) :: t).length:Int):=by simp only [List.length_cons];omega
      have HS:=Oi hst;clear hst hK;generalize aU C xA i k=p at *
      generalize aU C xA oj k=q at *
      go_wp2_with fail;refine bg (by kernel_rfl) (by kernel_rfl) ?_
      repeat (go_big_quiet_step (first | (go_at_call_of 143 i;exact dz (LAi.out _ (Later.h _))) | (go_at_call_of 143 oj;exact dz (LAo.out _ (Later.h _)))))
      refine wpQuiet_nil ?_
      rintro w5 ⟨⟨_,hb5⟩,rfl⟩;have HW5:=Oi hb5;clear hb5;have E0:∀ z9:Later w5,z9.w'.cell? ⟨w.heap.size,0,none⟩=some (.int .i64 R):=fun z9=>D0 ⟨z9.w',aa HW5.out z9.h⟩
      have E1:∀ z9:Later w5,z9.w'.cell? ⟨w.heap.size,1,none⟩=some (.int .i64 C):=fun z9=>D1 ⟨z9.w',aa HW5.out z9.h⟩
      have E2:∀ z9:Later w5,z9.w'.cell? ⟨w.heap.size,2,none⟩=some (.slice aA xA.length cA):=fun z9=>D2 ⟨z9.w',aa HW5.out z9.h⟩
      have E3:∀ z9:Later w5,z9.w'.cell? ⟨w.heap.size,3,none⟩=some (.slice aB nB cB):=fun z9=>D3 ⟨z9.w',aa HW5.out z9.h⟩
      have E4:∀ z9:Later w5,z9.w'.cell? ⟨g,0,none⟩=some (.int .i64 oj):=fun z9=>D4 ⟨z9.w',aa HW5.out z9.h⟩
      clear D0 D1 D2 D3 D4 q0
      cases t1:decide (p<q) with
      | true =>
        rw [if_pos (of_decide_eq_true t1)] at HS;have hO6:=Oi (aD ho.out HW5.out);have hW6:=Oi (hW.out.trans (HW5.out.mono hsz));have hsz6:w.heap.size+1≤w5.heap.size:=by have:=HW5.out.size;omega
        clear ho hW HW5 E0 E1 E2 E3 E4 LAi LAo;go_wp2_with fail;go_roundw
        case rel=>exact ⟨i+1,some ⟨g,0,none⟩,c,(oj:Int) :: t,by omega,by go_num,rfl,HS.out.symm,hO6,hW6,hsz6⟩
        case measure=>simp [intOf];omega
      | false =>
        have hnp:=of_decide_eq_false t1;rw [if_neg hnp] at HS;have LAi5:=Oi (fun v (hb:Below w5.heap.size w5 v)=>LAi.out v (aa HW5.out hb))
        have LAo5:=Oi (fun v (hb:Below w5.heap.size w5 v)=>LAo.out v (aa HW5.out hb))
        clear LAi LAo;go_wp2_with fail;refine bg (by kernel_rfl) (by kernel_rfl) ?_
        repeat (go_big_quiet_step (first | (go_at_call_of 143 i;exact dz (LAi5.out _ (Later.h _))) | (go_at_call_of 143 oj;exact dz (LAo5.out _ (Later.h _)))))
        refine wpQuiet_nil ?_
        rintro w6 ⟨⟨_,hb6⟩,rfl⟩;have HW6:=Oi (aa HW5.out hb6);have hO6:=Oi (aD ho.out HW6.out);have hW6:=Oi (hW.out.trans (HW6.out.mono hsz));have hsz6:w.heap.size+1≤w6.heap.size:=by have:=HW6.out.size;omega
        clear hb6 E0 E1 E2 E3 E4 HW5 HW6 ho hW LAi5 LAo5
        cases t2:decide (q<p) with
        | true =>
          rw [if_pos (of_decide_eq_true t2)] at HS;have hO7:Hid (w6.ownsRow (w.heap.size+1) 2 1 (.slice (some ⟨g,0,none⟩) 0 c) 0 (ae [])):=by
           have h1:OwnI 2 w6 (w.heap.size+1) w6.heap.size (some ⟨g,0,none⟩) c ((oj:Int) :: t):=OwnI.of_own hO6.out;exact (h1.take 0).1
          go_wp2_with (at_builtin;refine aH _ rfl _ _ 24 rfl (w.heap.size+1) 2 (.int .i64 0) 8 Tryz.underlying24 aZ rfl _ _ _ rfl hO7.out (.int .i64 i) rfl rfl (by omega) (by first | omega | (simp only [List.length_cons] at *;omega)) hsz6 ?_)
          intro v8 w8 o8 g8;obtain ⟨a8,c8,e8,_,_⟩:=ba o8;subst e8;have B8:=Oi (ah hW6.out hO7.out g8 (Nat.le_refl _) hsz6);have O8:=Oi o8;have hs8:w.heap.size+1≤w8.heap.size:=by have:=g8.size;omega
          clear o8 g8;go_wp2_with fail;go_roundw
          case rel=>exact ⟨i+1,a8,c8,[] ++ [(i:Int)],by omega,by go_num,by simp,(by rw [Hid];exact HS.out.symm),(by rw [Hid,bk,List.length_append];exact O8.out),B8,hs8⟩
          case measure=>simp [intOf];omega
        | false =>
          rw [if_neg (of_decide_eq_false t2)] at HS
          go_wp2_with (at_builtin;refine aH _ rfl _ _ 24 rfl (w.heap.size+1) 2 (.int .i64 0) 8 Tryz.underlying24 aZ rfl _ _ _ rfl hO6.out (.int .i64 i) rfl rfl (by omega) (by first | omega | (simp only [List.length_cons] at *;omega)) hsz6 ?_)
          intro v8 w8 o8 g8;obtain ⟨a8,c8,e8,_,_⟩:=ba o8;subst e8;have B8:=Oi (ah hW6.out hO6.out g8 (Nat.le_refl _) hsz6);have O8:=Oi o8;have hs8:w.heap.size+1≤w8.heap.size:=by have:=g8.size;omega
          clear o8 g8;go_wp2_with fail;go_roundw
          case rel=>exact ⟨i+1,a8,c8,((oj:Int) :: t) ++ [(i:Int)],by omega,by go_num,by simp,(by rw [Hid];exact HS.out.symm),(by rw [Hid,bk,List.length_append];exact O8.out),B8,hs8⟩
          case measure=>simp [intOf];omega
  · obtain rfl:i=R:=by omega
    have HF:Hid (l=dj i C xA k):=by rw [Hid,hE.out];exact hbl.out
    have HW:=Oi (HB1.out.trans (hw.out.mono (by omega)))
    have HOI:Hid (OwnI 2 wr w.heap.size wr.heap.size a c l):=(OwnI.of_own ho.out).mono (by omega) (Nat.le_refl _)
    clear ho hw KW hbl;go_wp2_with fail;go_ret;rw [← HF.out];exact ⟨a,c,rfl,HOI.out,HW.out⟩
theorem gL {w w':World} {lo hi:Nat} {a:Option Addr} {vs:List Value} (h:Rd w w.heap.size a vs) (ht:Touch w w' lo hi) (ha:∀ b,a=some b→hi≤b.block):Rd w' w'.heap.size a vs:=by
 rcases h with h | ⟨b,o,e,hb,hc⟩
 · exact .inl h
 · exact .inr ⟨b,o,e,Nat.lt_of_lt_of_le hb ht.size,fun j hj=>by rw [World.cell?_of_block (w:=w) (ht.block b hb (.inr (ha _ e)))];exact hc j hj⟩
theorem Ce {w wr w':World} {lo:Nat} {v:Value} (h:Touch w wr lo (lo+1)) (hg:wr.grownBy w' v.ownBlock) (hv:∀ g,v.ownBlock=some g→g=lo∨w.heap.size≤g):Touch w w' lo (lo+1) :=
 ⟨hg.os.trans h.os,hg.tape.trans h.tape,hg.output.trans h.output,Nat.le_trans h.size hg.size,fun k hk hd=>(hg.block k (by have:=h.size;omega) (fun e=>by rcases hv k e.symm with h1 | h1 <;> omega)).trans (h.block k hk hd)⟩
theorem Kw (w:World) (R C:Nat) (aA:Option Addr) (cA:Nat) (xA:List Int) (aB:Option Addr) (cB:Nat) (xB:List Int) (hA:Rd w w.heap.size aA (ae xA)) (hB:Rd w w.heap.size aB (ae xB)) (lA:xA.length=R * C) (lB:xB.length=R * C) (hR:R≤6) (hC:C≤6) :
 Calls Tryz.prog 166 #[.agg #[.int .i64 R,.int .i64 C,.slice aA xA.length cA,.slice aB xB.length cB]] w fun e w'=>∃ a' c',e=.returned (.slice a' (er R C xA (aG R C xB (C * R)) (R * C)).length c')∧Rd w' w'.heap.size a' (ae (er R C xA (aG R C xB (C * R)) (R * C)))∧Below w.heap.size w w':=by
 have hRC:R * C≤36:=Nat.le_trans (Nat.mul_le_mul hR hC) (by decide)
 have LT:=Oi (fun v hb=>jM v R C aA cA xA aB cB xB (hA.to hb) (hB.to hb) lA lB hR hC)
 have KG:=Blk.new w [.int .i64 R,.int .i64 C,.slice aA xA.length cA,.slice aB xB.length cB] 26;have B1:=ai w (.cells #[.int .i64 R,.int .i64 C,.slice aA xA.length cA,.slice aB xB.length cB] 26);have LR:=Oi (fun (v:World) (hb:Below w.heap.size w v) (k:Nat) (hk:k<C)=>kL v R C k aA cA xA aB xB.length cB (hA.to hb) (by omega) lA hR hC hk)
 obtain ⟨l2,hl2⟩:∃ l,l=aG R C xB (C * R):=⟨_,rfl⟩;obtain ⟨l3,hl3⟩:∃ l,l=aG R C xA (C * R):=⟨_,rfl⟩;have hlen2:l2.length=C * R:=by rw [hl2,my]
 have hlen3:l3.length=C * R:=by rw [hl3,my]
 rw [← hl2,← hl3] at LT;rw [← hl2];have HLA:=Oi lA;have HL2:=Oi hlen2;have HG:=Oi KG;have HB1:=Oi B1;have hO:=bz (w.alloc (.cells #[.int .i64 R,.int .i64 C,.slice aA xA.length cA,.slice aB xB.length cB] 26)) 2;have HB0:Hid (Below (w.heap.size+1) (w.alloc (.cells #[.int .i64 R,.int .i64 C,.slice aA xA.length cA,.slice aB xB.length cB] 26)) ((w.alloc (.cells #[.int .i64 R,.int .i64 C,.slice aA xA.length cA,.slice aB xB.length cB] 26)).alloc (.cells #[] 2))):=by
  have:=ai (w.alloc (.cells #[.int .i64 R,.int .i64 C,.slice aA xA.length cA,.slice aB xB.length cB] 26)) (.cells #[] 2);rw [World.size_alloc] at this;exact this
 have HO2:Hid (World.ownsRow _ (w.heap.size+1) _ _ _ _ _):=bS hO (by simp)
 have q4:Hid (Blk ((w.alloc (.cells #[.int .i64 R,.int .i64 C,.slice aA xA.length cA,.slice aB xB.length cB] 26)).alloc (.cells #[] 2)) w.heap.size [.int .i64 R,.int .i64 C,.slice aA xA.length cA,.slice aB xB.length cB] 26):=KG.alloc _;have q0:=q4.out.cell 0;have q1:=q4.out.cell 1;have q2:=q4.out.cell 2;have q3:=q4.out.cell 3;simp only [List.getElem?_cons_zero,List.getElem?_cons_succ] at q0 q1 q2 q3;have HS:Hid (∀ i k,k<C→er R C xA l2 (i * C+(k+1))=if (bH (dj R C xA k) (i:Int) && bH (dj C R l2 i) (k:Int))=true then er R C xA l2 (i * C+k) ++ [((i * C+k:Nat):Int)] else er R C xA l2 (i * C+k)):=fun i k hk=>FK xA l2 hk
 have HPL:=Oi (fun m=>yj R C xA l2 m)
 have hP0:Hid (er R C xA l2 0=[]):=rfl;clear hA hB lA lB hlen2 hlen3 KG B1 hl2 hl3 hO
 go_enter Tryz.func166,Tryz.ntmps166;go_wp2_with fail;refine (LT.out _ (aa HB1.out (ai _ _))).mono ?_;rintro e w1 ⟨a2,c2,a3,c3,rfl,r2,r3,hb,ha2,_⟩;have HA2:Hid (∀ b,a2=some b→w.heap.size+2≤b.block):=fun b h=>by have:=ha2 b h;simpa using this
 have HK1:=Oi (q4.out.same hb);have hO1:Hid (w1.ownsRow (w.heap.size+1) 2 1 (.slice (some ⟨w.heap.size+1,0,none⟩) 0 0) 0 []):=by
  have:=aD HO2.out hb;simp at this;exact this
 have HBW1:=Oi (aa (aa HB1.out (ai _ _)) hb);have hs1:w.heap.size+2≤w1.heap.size:=by have:=hb.size;simp at this;omega
 -- the other game's box
 obtain ⟨wO,hwO⟩:∃ W:World,W=w1.alloc (.cells #[.int .i64 C,.int .i64 R,.slice a2 l2.length c2,.slice a3 l3.length c3] 26):=⟨_,rfl⟩;have BO:Below w1.heap.size w1 wO:=by rw [hwO];exact ai _ _
 have KO:Hid (Blk wO w1.heap.size [.int .i64 C,.int .i64 R,.slice a2 l2.length c2,.slice a3 l3.length c3] 26):=by rw [hwO];exact Blk.new w1 _ _
 have R2:Hid (Rd wO wO.heap.size a2 (ae l2)):=r2.to BO;have KGO:=Oi (HK1.out.same BO);have HBO:=Oi (aa HBW1.out BO);have HOO:=Oi (aD hO1.out BO);have hsO:w1.heap.size<wO.heap.size:=KO.out.lt;have k0:(w1.alloc (.cells #[.int .i64 C,.int .i64 R,.slice a2 l2.length c2,.slice a3 l3.length c3] 26)).cell? ⟨w.heap.size,0,none⟩=some (.int .i64 R):=by rw [← hwO];exact KGO.out.cell 0
 have LO:=Oi (fun (v:World) (h:Rd v v.heap.size a2 (ae l2)) (i:Nat) (hi:i<R)=>kL v C R i a2 c2 l2 a3 l3.length c3 h (by rw [HL2.out,Nat.mul_comm];omega) HL2.out hC hR hi)
 clear q0 q1 q2 q3 hb r2 r3 q4 HO2 HB0 LT HG hO1 BO HK1 HBW1 ha2;go_wp2_with fail;rw [← hwO];clear hwO k0
 go_loopw [12,3] (fun iv ov wr=>∃ (i:Nat) (v:Value),i≤R∧iv=.int .i64 i∧ov=v∧Hid (wr.ownsRow (w.heap.size+1) 2 1 v (er R C xA l2 (i * C)).length (ae (er R C xA l2 (i * C))))∧Hid (Touch wO wr (w.heap.size+1) (w.heap.size+1+1))∧Hid (∀ g,v.ownBlock=some g→g=w.heap.size+1∨wO.heap.size≤g)) (fun iv _ _=>R - (intOf iv).toNat)
 case atStart =>
  refine ⟨0,_,Nat.zero_le _,rfl,rfl,?_,Touch.refl _ _ _,fun g hg=>?_⟩
  · rw [Hid,Nat.zero_mul,hP0.out]
    exact HOO.out
  · simp [Value.ownBlock] at hg
    exact .inl hg.symm
 case round =>
  obtain ⟨i,v,hi,rfl,rfl,ho,hw,hv⟩:=hrel;have i0:(0:Int)≤(i:Int):=Int.natCast_nonneg _
  by_cases hlt:i<R
  · have hii:(i:Int)<(R:Int):=by omega
    have KG1:=KGO.out.touch hw.out (.inl (by omega))
    have q1:wr.cell? ⟨w.heap.size,1,none⟩=some (.int .i64 C):=KG1.cell 1;clear KG1;go_wp2_with fail;clear q1
    go_loopw [17,3] (fun kv ov wr=>∃ (k:Nat) (v:Value),k≤C∧kv=.int .i64 k∧ov=v∧Hid (wr.ownsRow (w.heap.size+1) 2 1 v (er R C xA l2 (i * C+k)).length (ae (er R C xA l2 (i * C+k))))∧Hid (Touch wO wr (w.heap.size+1) (w.heap.size+1+1))∧Hid (∀ g,v.ownBlock=some g→g=w.heap.size+1∨wO.heap.size≤g)) (fun kv _ _=>C - (intOf kv).toNat)
    case atStart=>exact ⟨0,_,Nat.zero_le _,rfl,rfl,ho.out,hw.out,hv.out⟩
    case round =>
     clear ho hw hv;obtain ⟨k,v,hk,rfl,rfl,ho,hw,hv⟩:=hrel;have k0:(0:Int)≤(k:Int):=Int.natCast_nonneg _
     by_cases hkl:k<C
     · have hki:(k:Int)<(C:Int):=by omega
       have hst:=HS.out i k hkl;have hpl:=HPL.out (i * C+k);have hcell:=dH hlt hkl;have HBw:=Oi (aI HBO.out hw.out (by omega) (by have:=HBO.out.size;omega))
       have KG1:=KGO.out.touch hw.out (.inl (by omega))
       have KO1:=KO.out.touch hw.out (.inr (by omega))
       obtain ⟨q0,q1,q2,q3⟩:wr.cell? ⟨w.heap.size,0,none⟩=some (.int .i64 R)∧wr.cell? ⟨w.heap.size,1,none⟩=some (.int .i64 C)∧wr.cell? ⟨w.heap.size,2,none⟩=some (.slice aA xA.length cA)∧wr.cell? ⟨w.heap.size,3,none⟩=some (.slice aB xB.length cB):=⟨KG1.cell 0,KG1.cell 1,KG1.cell 2,KG1.cell 3⟩;have LR1:=Oi (LR.out wr HBw.out k hkl);obtain ⟨bl,hbl⟩:∃ l,l=dj R C xA k:=⟨_,rfl⟩;obtain ⟨cl,hcl⟩:∃ l,l=dj C R l2 i:=⟨_,rfl⟩;have hbn:bl.length≤6:=by rw [hbl];exact Nat.le_trans (pa _ _) hR
       have hcn:cl.length≤6:=by rw [hcl];exact Nat.le_trans (pa _ _) hC
       have hR2:=gL R2.out hw.out HA2.out;have LO1:Hid (∀ v,Below wr.heap.size wr v→_):=fun v hb=>LO.out v (hR2.to hb) i hlt
       rw [← hbl] at LR1 hst;rw [← hcl] at hst LO1;have HST:=Oi hst;have HKG:=Oi KG1;have HKO:=Oi KO1;clear hst hbl hcl KG1 KO1 hR2;have hsz:w.heap.size+1≤wr.heap.size:=by have:=hw.out.size;omega
       go_wp2_with fail;refine LR1.out.mono ?_;rintro e w2 ⟨a4,c4,rfl,ho4,hb2⟩;have LCo:=Oi (gg w2 a4 c4 bl (i:Int) (ho4.rd.mono (Nat.le_refl _)) (by omega))
       have KO2:=HKO.out.same hb2;obtain ⟨p0,p1,p2,p3⟩:w2.cell? ⟨w1.heap.size,0,none⟩=some (.int .i64 C)∧w2.cell? ⟨w1.heap.size,1,none⟩=some (.int .i64 R)∧w2.cell? ⟨w1.heap.size,2,none⟩=some (.slice a2 l2.length c2)∧w2.cell? ⟨w1.heap.size,3,none⟩=some (.slice a3 l3.length c3):=⟨KO2.cell 0,KO2.cell 1,KO2.cell 2,KO2.cell 3⟩;have g1:w2.cell? ⟨w.heap.size,1,none⟩=some (.int .i64 C):=(HKG.out.same hb2).cell 1;have LO2:=Oi (LO1.out w2 hb2);have hO2:=Oi (aD ho.out hb2);have hW2:=Oi (hw.out.trans (Below.touch hb2 (w.heap.size+1) (w.heap.size+1+1)));have HKG2:=Oi (HKG.out.same hb2);have hsz2:w.heap.size+1≤w2.heap.size:=by have:=hb2.size;omega
       clear ho4 hb2 KO2 q0 q1 q2 q3 LR1 LO1 HKO HKG ho hw HBw
       cases tc:bH bl (i:Int) with
       | false =>
         rw [tc] at LCo HST;rw [Bool.false_and,if_neg (by decide)] at HST
         clear p0 p1 p2 p3 g1 LO2 HKG2;go_wp2_with fail;refine LCo.out.mono ?_;rintro e w3 ⟨rfl,rfl⟩;go_wp2_with fail;go_roundw
         case rel=>exact ⟨k+1,_,by omega,by go_num,rfl,(by rw [Hid,HST.out];exact hO2.out),hW2,hv⟩
         case measure=>simp [intOf];omega
       | true =>
         rw [tc] at LCo HST;rw [Bool.true_and] at HST;go_wp2_with fail;refine LCo.out.mono ?_;rintro e w3 ⟨rfl,rfl⟩;go_wp2_with fail;refine LO2.out.mono ?_;rintro e w4 ⟨a5,c5,rfl,ho5,hb4⟩;have LCo2:=Oi (gg w4 a5 c5 cl (k:Int) (ho5.rd.mono (Nat.le_refl _)) (by omega))
         have hO4:=Oi (aD hO2.out hb4);have hW4:=Oi (hW2.out.trans (Below.touch hb4 (w.heap.size+1) (w.heap.size+1+1)));have g4:w4.cell? ⟨w.heap.size,1,none⟩=some (.int .i64 C):=(HKG2.out.same hb4).cell 1;have hsz4:w.heap.size+1≤w4.heap.size:=by have:=hb4.size;omega
         clear ho5 hb4 p0 p1 p2 p3 g1 hO2 hW2 LO2 HKG2 LCo
         cases td:bH cl (k:Int) with
         | false =>
           rw [td] at LCo2 HST;rw [if_neg (by decide)] at HST
           clear g4;go_wp2_with fail;refine LCo2.out.mono ?_;rintro e w5 ⟨rfl,rfl⟩;go_wp2_with fail;go_roundw
           case rel=>exact ⟨k+1,_,by omega,by go_num,rfl,(by rw [Hid,HST.out];exact hO4.out),hW4,hv⟩
           case measure=>simp [intOf];omega
         | true =>
           rw [td] at LCo2 HST;rw [if_pos rfl] at HST;obtain ⟨J,hJ,_,hJe,m0,m1⟩:=kj (C:=C) (i:=i) (k:=k) (n:=R * C) hcell (by omega)
           rw [← hJe] at HST;have HJ:=Oi hJe;clear hJe;go_wp2_with fail;refine LCo2.out.mono ?_;rintro e w5 ⟨rfl,rfl⟩
           go_wp2_with (at_builtin;refine aQ _ rfl _ _ 24 rfl (w.heap.size+1) 2 (.int .i64 0) 8 Tryz.underlying24 aZ rfl _ _ _ rfl hO4.out (.int .i64 J) rfl rfl (by omega) (by omega) hsz4 ?_)
           intro v8 w8 o8 g8 n8;have T8:=Oi (Ce hW4.out g8 hv.out);have V8:Hid (∀ g,v8.ownBlock=some g→g=w.heap.size+1∨wO.heap.size≤g):=fun g hg=>by
            by_cases hgw:g<w4.heap.size
            · by_cases he:some g=u3.ownBlock
              · exact hv.out g he.symm
              · exact absurd hg.symm (n8 g hgw he)
            · have:=hW4.out.size
              omega
           have H8:Hid (w8.ownsRow (w.heap.size+1) 2 1 v8 (er R C xA l2 (i * C+(k+1))).length (ae (er R C xA l2 (i * C+(k+1))))):=by
            have e:er R C xA l2 (i * C+(k+1))=er R C xA l2 (i * C+k) ++ [(J:Int)]:=by
             rw [HST.out,HJ.out]
            rw [e,bk,List.length_append];exact o8
           clear o8 g8 n8 g4 hO4 hW4;go_wp2_with fail;go_roundw
           case rel=>exact ⟨k+1,v8,by omega,by go_num,rfl,H8,T8,V8⟩
           case measure=>simp [intOf];omega
     · obtain rfl:k=C:=by omega
       have e2:i * k+k=(i+1) * k:=by rw [Nat.add_mul,Nat.one_mul]
       rw [e2] at ho;go_wp2_with fail;go_roundw
       case rel=>exact ⟨i+1,_,by omega,by go_num,rfl,ho,hw,hv⟩
       case measure=>simp [intOf];omega
  · obtain rfl:i=R:=by omega
    obtain ⟨a',c',e',hcap,_⟩:=ba ho.out;subst e';have HRd:=Oi (ay ho.out (Nat.le_refl _));have HW:=Oi (aI HBO.out hw.out (by omega) (by have:=HBO.out.size;omega))
    clear ho hw hcap hv;go_wp2_with fail;go_ret;exact ⟨a',c',rfl,HRd.out,HW.out⟩
theorem eH {U V:Int} {x2 x3:List Int} (h:cZ U V x2 x3=true):∃ R C:Nat,U=(R:Int)∧V=(C:Int)∧1≤R∧R≤6∧1≤C∧C≤6∧x2.length=R * C∧x3.length=R * C∧(∀ x∈x2,-1000≤x∧x≤1000)∧∀ x∈x3,-1000≤x∧x≤1000:=by
 unfold cZ at h;rw [Bool.and_eq_true,Bool.and_eq_true,Bool.and_eq_true,cx,cx,sL,sL,Bool.and_eq_true,Bool.and_eq_true,decide_eq_true_eq,decide_eq_true_eq,fi,fi] at h;obtain ⟨⟨⟨u1,u2⟩,v1,v2⟩,⟨a1,l1⟩,a2,l2⟩:=h;obtain ⟨R,hR⟩:∃ n:Nat,U=(n:Int):=⟨U.toNat,by omega⟩;obtain ⟨C,hC⟩:∃ n:Nat,V=(n:Int):=⟨V.toNat,by omega⟩;subst hR hC;rw [← Int.natCast_mul] at l1 l2;exact ⟨R,C,rfl,rfl,by omega,by omega,by omega,by omega,by omega,by omega,a1,a2⟩
theorem FJ (w:World) (R C:Nat) (aA:Option Addr) (cA:Nat) (xA:List Int) (aB:Option Addr) (cB:Nat) (xB:List Int) (hG:cZ R C xA xB=true) (hA:Rd w w.heap.size aA (ae xA)) (hB:Rd w w.heap.size aB (ae xB)) :
 Calls Tryz.prog 124 #[.agg #[.int .i64 R,.int .i64 C,.slice aA xA.length cA,.slice aB xB.length cB]] w fun e w'=>∃ a' c',e=.returned (.tuple #[.slice a' (er R C xA (aG R C xB (C * R)) (R * C)).length c',.bool true])∧Rd w' w'.heap.size a' (ae (er R C xA (aG R C xB (C * R)) (R * C)))∧Below w.heap.size w w':=by
 have hG':=hG;obtain ⟨R',C',e1,e2,r1,r6,c1,c6,lA,lB,-,-⟩:=eH hG';obtain rfl:R=R':=Int.ofNat.inj e1;obtain rfl:C=C':=Int.ofNat.inj e2;have hRC:R * C≤36:=Nat.le_trans (Nat.mul_le_mul r6 c6) (by decide)
 have HB1:=Oi (ai w (.cells #[.int .i64 R,.int .i64 C,.slice aA xA.length cA,.slice aB xB.length cB] 26));have KG:=Oi (Blk.new w [.int .i64 R,.int .i64 C,.slice aA xA.length cA,.slice aB xB.length cB] 26);have LV:=Oi (fun v (hb:Below w.heap.size w v)=>ef v R C aA cA xA aB cB xB ⟨hA.to hb,hB.to hb⟩ (by omega) (by omega))
 have LP:=Oi (fun v (hb:Below w.heap.size w v)=>Kw v R C aA cA xA aB cB xB (hA.to hb) (hB.to hb) lA lB r6 c6)
 rw [hG] at LV;obtain ⟨pl,hpl⟩:∃ l,l=er R C xA (aG R C xB (C * R)) (R * C):=⟨_,rfl⟩;rw [← hpl] at LP ⊢;clear hA hB hG hG' lA lB e1 e2 hpl
 go_enter Tryz.func124,Tryz.ntmps124;go_wp2_with fail;refine (LV.out _ HB1.out).mono ?_;rintro e w1 ⟨rfl,hb⟩;have B1:=Oi (aa HB1.out hb);have K1:=KG.out.same hb;obtain ⟨q0,q1,q2,q3⟩:w1.cell? ⟨w.heap.size,0,none⟩=some (.int .i64 R)∧w1.cell? ⟨w.heap.size,1,none⟩=some (.int .i64 C)∧w1.cell? ⟨w.heap.size,2,none⟩=some (.slice aA xA.length cA)∧w1.cell? ⟨w.heap.size,3,none⟩=some (.slice aB xB.length cB):=⟨K1.cell 0,K1.cell 1,K1.cell 2,K1.cell 3⟩;clear K1 hb;go_wp2_with fail;refine (LP.out _ B1.out).mono ?_;rintro e w2 ⟨a',c',rfl,hr,hb⟩;have B2:=Oi (aa B1.out hb);have HR:=Oi hr;clear hb hr q0 q1 q2 q3;go_wp2_with fail
 go_ret2
 exact ⟨a',c',rfl,HR.out,B2.out⟩
def Ls (P Q:Int) (lA lB:List Int) (w:World) (e:Ending) (w':World):Prop :=
 ∃ a2 c2 a3 c3,e=.returned (.tuple #[.agg #[.int .i64 P,.int .i64 Q,.slice a2 lA.length c2,.slice a3 lB.length c3],.bool true])∧Rd w' w'.heap.size a2 (ae lA)∧Rd w' w'.heap.size a3 (ae lB)∧Below w.heap.size w w'∧(∀ y,a2=some y→w.heap.size≤y.block)∧∀ y,a3=some y→w.heap.size≤y.block
theorem Cf (w:World) (R C:Nat) (aA:Option Addr) (cA:Nat) (xA:List Int) (aB:Option Addr) (cB:Nat) (xB:List Int) (hG:cZ R C xA xB=true) (hA:Rd w w.heap.size aA (ae xA)) (hB:Rd w w.heap.size aB (ae xB)) :
 Calls Tryz.prog 123 #[.agg #[.int .i64 R,.int .i64 C,.slice aA xA.length cA,.slice aB xB.length cB]] w (Ls C R (aG R C xB (C * R)) (aG R C xA (C * R)) w):=by
 have hG':=hG;obtain ⟨R',C',e1,e2,r1,r6,c1,c6,lA,lB,-,-⟩:=eH hG';obtain rfl:R=R':=Int.ofNat.inj e1;obtain rfl:C=C':=Int.ofNat.inj e2;have hRC:R * C≤36:=Nat.le_trans (Nat.mul_le_mul r6 c6) (by decide)
 have LV:=Oi (fun v (hb:Below w.heap.size w v)=>ef v R C aA cA xA aB cB xB ⟨hA.to hb,hB.to hb⟩ (by omega) (by omega))
 have LP:=Oi (fun v (hb:Below w.heap.size w v)=>jM v R C aA cA xA aB cB xB (hA.to hb) (hB.to hb) lA lB r6 c6)
 rw [hG] at LV;generalize aG R C xB (C * R)=l2 at *
 generalize aG R C xA (C * R)=l3 at *
 obtain ⟨w0,hw0⟩:∃ X,X=(w.alloc (.cells #[.int .i64 R,.int .i64 C,.slice aA xA.length cA,.slice aB xB.length cB] 26)).alloc (.cells #[.int .i64 0,.int .i64 0,.slice none 0 0,.slice none 0 0] 26):=⟨_,rfl⟩;have B0:Hid (Below w.heap.size w w0):=by
  have:=ai w (.cells #[.int .i64 R,.int .i64 C,.slice aA xA.length cA,.slice aB xB.length cB] 26);rw [hw0];exact aa this (ai _ _)
 have K0:Hid (Blk w0 w.heap.size [.int .i64 R,.int .i64 C,.slice aA xA.length cA,.slice aB xB.length cB] 26):=by
  rw [hw0];exact (Blk.new w _ _).alloc _
 have KR0:Hid (Blk w0 (w.heap.size+1) [.int .i64 0,.int .i64 0,.slice none 0 0,.slice none 0 0] 26):=by
  have:=Blk.new (w.alloc (.cells #[.int .i64 R,.int .i64 C,.slice aA xA.length cA,.slice aB xB.length cB] 26)) [.int .i64 0,.int .i64 0,.slice none 0 0,.slice none 0 0] 26;rw [World.size_alloc] at this;rw [hw0];exact this
 have hs0:w0.heap.size=w.heap.size+2:=by rw [hw0];simp
 clear hA hB hG hG' lA lB e1 e2
 go_enter Tryz.func123,Tryz.ntmps123;obtain ⟨p0,p1,p2,p3⟩:w0.cell? ⟨w.heap.size,0,none⟩=some (.int .i64 R)∧w0.cell? ⟨w.heap.size,1,none⟩=some (.int .i64 C)∧w0.cell? ⟨w.heap.size,2,none⟩=some (.slice aA xA.length cA)∧w0.cell? ⟨w.heap.size,3,none⟩=some (.slice aB xB.length cB):=⟨K0.out.cell 0,K0.out.cell 1,K0.out.cell 2,K0.out.cell 3⟩;rw [hw0] at p0 p1 p2 p3;go_wp2_with fail;rw [← hw0];clear p0 p1 p2 p3;refine (LV.out _ B0.out).mono ?_;rintro e w1 ⟨rfl,hb⟩;have B1:=Oi (aa B0.out hb);have K1:=K0.out.same hb;have KR1:=Oi (KR0.out.same hb);obtain ⟨q0,q1,q2,q3⟩:w1.cell? ⟨w.heap.size,0,none⟩=some (.int .i64 R)∧w1.cell? ⟨w.heap.size,1,none⟩=some (.int .i64 C)∧w1.cell? ⟨w.heap.size,2,none⟩=some (.slice aA xA.length cA)∧w1.cell? ⟨w.heap.size,3,none⟩=some (.slice aB xB.length cB):=⟨K1.cell 0,K1.cell 1,K1.cell 2,K1.cell 3⟩;have hs1:w.heap.size+2≤w1.heap.size:=by have:=hb.size;omega
 clear K1 hb LV K0 KR0 hs0 hw0 B0;go_wp2_with fail;refine (LP.out _ B1.out).mono ?_;rintro e w2 ⟨a2,c2,a3,c3,rfl,r2,r3,hb,b2,b3⟩;have B2:=Oi (aa B1.out hb);have KR2:=Oi (KR1.out.same hb);have RR2:=Oi r2;have RR3:=Oi r3;have HB2:=Oi b2;have HB3:=Oi b3;have hs2:w.heap.size+2≤w2.heap.size:=by have:=hb.size;omega
 clear q0 q1 q2 q3 r2 r3 b2 b3 hb LP KR1 B1;have f0:=KR2.out.free 0;have f1:=KR2.out.free 1;have f2:=KR2.out.free 2;have f3:=KR2.out.free 3;have r0:=KR2.out.cell 0;have r1:=KR2.out.cell 1;have r2:=KR2.out.cell 2;have r3:=KR2.out.cell 3;simp only [List.getElem?_cons_zero,List.getElem?_cons_succ] at r0 r1 r2 r3;go_wp2_with fail;obtain ⟨wz,hwz⟩:∃ X,X=(((w2.setCell ⟨w.heap.size+1,0,none⟩ (.int .i64 C)).setCell ⟨w.heap.size+1,1,none⟩ (.int .i64 R)).setCell ⟨w.heap.size+1,2,none⟩ (.slice a2 l2.length c2)).setCell ⟨w.heap.size+1,3,none⟩ (.slice a3 l3.length c3):=⟨_,rfl⟩;have KZ:Blk wz (w.heap.size+1) [.int .i64 C,.int .i64 R,.slice a2 l2.length c2,.slice a3 l3.length c3] 26:=by rw [hwz];exact (((KR2.out.set 0 (.int .i64 C)).set 1 (.int .i64 R)).set 2 (.slice a2 l2.length c2)).set 3 (.slice a3 l3.length c3)
 have TZ:Touch w2 wz (w.heap.size+1) (w.heap.size+1+1):=by rw [hwz];exact (((au w2 (w.heap.size+1) 0 (.int .i64 C)).trans (au _ (w.heap.size+1) 1 (.int .i64 R))).trans (au _ (w.heap.size+1) 2 (.slice a2 l2.length c2))).trans (au _ (w.heap.size+1) 3 (.slice a3 l3.length c3))
 have BZ:Below w.heap.size w wz:=aI B2.out TZ (by omega) (by omega)
 have R2:=gL RR2.out TZ (fun b h=>by have:=HB2.out b h;omega)
 have R3:=gL RR3.out TZ (fun b h=>by have:=HB3.out b h;omega)
 rw [← hwz];clear hwz r0 r1 r2 r3 f0 f1 f2 f3;have r0:=KZ.cell 0;have r1:=KZ.cell 1;have r2:=KZ.cell 2;have r3:=KZ.cell 3;simp only [List.getElem?_cons_zero,List.getElem?_cons_succ] at r0 r1 r2 r3;refine bodyPost_ret (v:=.tuple #[.agg #[.int .i64 C,.int .i64 R,.slice a2 l2.length c2,.slice a3 l3.length c3],.bool true]) (by simp [results,Tryz.results123,go_sem,r0,r1,r2,r3]) rfl ?_
 exact ⟨a2,c2,a3,c3,rfl,R2,R3,BZ,fun y h=>by have:=HB2.out y h;omega,fun y h=>by have:=HB3.out y h;omega⟩
end Go.Proofs.YtbknhgapjjaelaaGreatDoor
