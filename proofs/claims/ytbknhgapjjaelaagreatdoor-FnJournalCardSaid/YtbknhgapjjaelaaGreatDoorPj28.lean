/-
  Part 28 of what the proof stands on: lemmas and contracts, each with its conditions ahead of the colon.
-/
import Derived.Test.YtbknhgapjjaelaaGreatDoorPj01
import Derived.Deep.RegionHeld3
import Derived.Laws.FloatArith
import Derived.Test.YtbknhgapjjaelaaGreatDoorPj19
import Derived.Test.YtbknhgapjjaelaaGreatDoorPj27
set_option maxRecDepth 10000
set_option maxHeartbeats 8000000
namespace Go.Proofs.YtbknhgapjjaelaaGreatDoor
set_option linter.unusedVariables false
set_option linter.unusedSimpArgs false
open Go.RowKit
structure GS (W:World) (base:Nat) (cs:List Value) (s:eb) (w:World):Prop where
 cr:Blk w W.heap.size cs 28
 fn:Blk w (W.heap.size+1) [.func (.func 180) #[] #[]] 223
 be:∃ v,Blk w (W.heap.size+2) [v] 24∧BestV w base s v
 mo:Blk w (W.heap.size+3) [.int .i64 (rM s)] 2
 bel:Below W.heap.size W w
section
variable {W:World} {base:Nat} {cs:List Value} {s:eb} {w w':World}
theorem GS.keep (h:GS W base cs s w) (hb:Below w.heap.size w w'):GS W base cs s w':=by
 obtain ⟨v,hv,hbv⟩:=h.be;exact ⟨h.cr.same hb,h.fn.same hb,⟨v,hv.same hb,hbv.keep (dp hb none) (fun k hk=>by cases hk)⟩,h.mo.same hb,h.bel.trans (hb.mono h.bel.size)⟩
theorem GS.frame (h:GS W base cs s w) (hg:w.grownBy w' (some (base+1))) (hb:W.heap.size+4≤base):GS W base cs s w':=by
 obtain ⟨v,hv,hbv⟩:=h.be;exact ⟨h.cr.grown hg (by intro e;injection e;omega),h.fn.grown hg (by intro e;injection e;omega),⟨v,hv.grown hg (by intro e;injection e;omega),hbv.keep hg (fun k hk=>by injection hk;omega)⟩,h.mo.grown hg (by intro e;injection e;omega),h.bel.grown hg h.bel.size (fun q hq=>by injection hq with hq;omega)⟩
theorem GS.store (h:GS W base cs s w) (hb:W.heap.size+4≤base) {a:Option Addr} {c:Nat} {l:List Int} (h0:0<l.length) (ho:w.ownsRow (base+2) 2 1 (.slice a l.length c) l.length (ae l)) (t:Int) :
 GS W base cs (some (l,t)) ((w.setCell ⟨W.heap.size+2,0,none⟩ (.slice a l.length c)).setCell ⟨W.heap.size+3,0,none⟩ (.int .i64 t)):=by
 obtain ⟨v,hv,hbv⟩:=h.be;refine ⟨(h.cr.oth (by omega) _ _).oth (by omega) _ _,(h.fn.oth (by omega) _ _).oth (by omega) _ _,⟨.slice a l.length c,(hv.set 0 _).oth (by omega) _ _,h0,a,c,rfl,?_⟩,(h.mo.oth (g:=W.heap.size+2) (by omega) _ _).set 0 _,aw (aw h.bel (by omega) _ _) (by omega) _ _⟩
 have hne:∀ q,q<base+2→some q≠(Value.slice a l.length c).ownBlock:=fun q hq e=>by
  have:=(ho.lt q e.symm).1;omega
 have k1:=ho.kept (da w (W.heap.size+2) 0 (.slice a l.length c)) (.inr (fun e=>hne _ (by omega) e.symm))
 exact k1.kept (da _ (W.heap.size+3) 0 (.int .i64 t)) (.inr (fun e=>hne _ (by omega) e.symm))
end
theorem CG (args:Array Value) (w:World):(callFunc 223 args).run Tryz.prog w=.ok (.enter 223 args) w:=by kernel_rfl
theorem EY (args:Array Value) (w:World):(callFunc 180 args).run Tryz.prog w=.ok (.enter 180 args) w:=by kernel_rfl
theorem E9 (W:World) (base:Nat) (P T:Nat) (aV:Option Addr) (cV:Nat) (xV:List Int) (h0:Rd W W.heap.size aV (ae xV)) (hB:W.heap.size+4≤base) (lV:xV.length=P * T) (p6:P≤6) (t1:1≤T) (t8:T≤8) (hbV:∀ x∈xV,0≤x∧x≤1000)
 (s:eb) (ch:List Int) (w:World) (c:Nat) (hs:GS W base [.int .i64 P,.int .i64 T,.slice aV xV.length cV] s w) (hw:base+2≤w.heap.size) (hch:ch.length=T) (g:Rd w w.heap.size (some ⟨base+1,0,none⟩) (ae ch)) :
 Calls Tryz.prog 223 #[.slice (some ⟨base+1,0,none⟩) ch.length c,.pointer (some ⟨W.heap.size+1,0,none⟩),.pointer (some ⟨W.heap.size,0,none⟩),.pointer (some ⟨W.heap.size+2,0,none⟩),.pointer (some ⟨W.heap.size+3,0,none⟩)] w
  fun e w'=>e=.returned (.tuple #[])∧GS W base [.int .i64 P,.int .i64 T,.slice aV xV.length cV] (kq P T xV ch s) w'∧Touch w w' 0 base:=by
 have hU1:1≤ch.length:=by omega
 have hU8:ch.length≤8:=by omega
 have hR:Rd w w.heap.size aV (ae xV):=(h0.below hs.bel (Nat.le_refl _)).mono hs.bel.size;have LO:=Oi (fun w' (hb:Below w.heap.size w w')=>MM w' P T aV cV xV (some ⟨base+1,0,none⟩) c ch (hR.to hb) (g.to hb) lV hch hbV p6 t8)
 have LPr:=Oi (fun w' a cc (hr:Rd w' w'.heap.size a (ae (gH T xV ch P)))=>zf w' a cc (gH T xV ch P) hr (by rw [uw];omega) (Eb hbV t8 P))
 rw [uw] at LPr;have LCl:=Oi (fun w' hb=>eo w' (some ⟨base+1,0,none⟩) c ch (g.to hb) hU1 (by omega))
 have hen:=fun (w:World) (a:Option Addr) (n c:Nat)=>Lib.run_eql_slice_nil (P:=Tryz.prog) w 24 2 a n c 0 0 Tryz.underlying24
 have HS:=Oi hs;have HJ:Hid (∀ v,Below w.heap.size w v→v.cell? ⟨W.heap.size,0,none⟩=some (.int .i64 P)∧v.cell? ⟨W.heap.size,1,none⟩=some (.int .i64 T)∧v.cell? ⟨W.heap.size,2,none⟩=some (.slice aV xV.length cV)∧v.cell? ⟨W.heap.size+1,0,none⟩=some (.func (.func 180) #[] #[])):=fun v hb=>⟨(hs.cr.same hb).cell 0,(hs.cr.same hb).cell 1,(hs.cr.same hb).cell 2,(hs.fn.same hb).cell 0⟩
 obtain ⟨q0,q1,q2,q3⟩:=HJ.out w (Below.refl _ _);have HD:=Oi (aq (Below.refl w.heap.size w));have LO1:=Oi (LO.out _ HD.out);have Hdf:Hid (∀ s',kq P T xV ch s'=match s' with
  | none=>some (ch,jX (gH T xV ch P))
  | some (b,m)=>if m<jX (gH T xV ch P) then some (ch,jX (gH T xV ch P)) else some (b,m)):=fun s'=>by cases s' <;> rfl
 clear hs h0 hR g hch lV;generalize hst:kq P T xV ch=ws at *
 clear hst;generalize gH T xV ch P=ol at *
 generalize jX ol=tt at *
 have hN:Hid (ws none=some (ch,tt)):=by show _=_;rw [Hdf.out]
 have hY:Hid (∀ b m,m<tt→ws (some (b,m))=some (ch,tt)):=fun b m hm=>by rw [Hdf.out];simp [hm]
 have hZ:Hid (∀ b m,¬ m<tt→ws (some (b,m))=some (b,m)):=fun b m hm=>by rw [Hdf.out];simp [hm]
 clear Hdf;have HC:Hid (∀ s' w1,GS W base [.int .i64 P,.int .i64 T,.slice aV xV.length cV] s' w1→ws s'=some (ch,tt)→Below w.heap.size w w1→∀ a1 c1,w1.ownsRow (base+2) 2 1 (.slice a1 ch.length c1) ch.length (ae ch) →
  GS W base [.int .i64 P,.int .i64 T,.slice aV xV.length cV] (ws s') ((w1.setCell ⟨W.heap.size+2,0,none⟩ (.slice a1 ch.length c1)).setCell ⟨W.heap.size+3,0,none⟩ (.int .i64 tt))∧Touch w ((w1.setCell ⟨W.heap.size+2,0,none⟩ (.slice a1 ch.length c1)).setCell ⟨W.heap.size+3,0,none⟩ (.int .i64 tt)) 0 base):=fun s' w1 hs' he hb a1 c1 ho=>by
  rw [he];exact ⟨hs'.store hB (by omega) ho tt,mr hb (by omega) (by omega) _ _⟩
 have hEP:=EY
 go_enter Tryz.func223,Tryz.ntmps223;go_wp2_with fail
 go_region_held3 (fun w'=>w'.cell? ⟨W.heap.size,0,none⟩=some (.int .i64 P)∧w'.cell? ⟨W.heap.size,1,none⟩=some (.int .i64 T)∧w'.cell? ⟨W.heap.size,2,none⟩=some (.slice aV xV.length cV)∧w'.cell? ⟨W.heap.size+1,0,none⟩=some (.func (.func 180) #[] #[]))
  (first | with_reducible exact HJ.out _ HD.out | with_reducible exact HJ.out _ hBA.out)
  (first | (go_at_call 224;with_reducible refine (LO1.out).mono ?_;rintro e wA ⟨aX,cX,rfl,oX,hbA⟩;have hBA:=Oi (aa HD.out hbA);have LP1:=Oi (LPr.out wA aX cX oX)) | (go_at_call 180;with_reducible refine (LP1.out).mono ?_;rintro e wB ⟨rfl,rfl⟩))
 all_goals
  have B2:=Oi hBA.out;clear hbA hBA HD HJ LO LO1 LPr oX LP1 q0 q1 q2 q3;have HS2:=Oi (HS.out.keep B2.out);obtain ⟨v,hv,hbv⟩:=HS2.out.be;have e2:wB.cell? ⟨W.heap.size+3,0,none⟩=some (.int .i64 (rM s)):=HS2.out.mo.cell 0;have e1:wB.cell? ⟨W.heap.size+2,0,none⟩=some v:=hv.cell 0;clear hv HS
  cases s with
  | none =>
    have hv0:v=.slice none 0 0:=hbv;subst hv0;clear hbv;have e2':wB.cell? ⟨W.heap.size+3,0,none⟩=some (.int .i64 0):=e2;clear e2;go_wp2_with fail;refine (LCl.out _ B2.out).mono ?_;rintro e w3 ⟨a1,c1,rfl,o3,hb3⟩;have B3:=aa B2.out hb3;have HS3:=HS2.out.keep hb3;obtain ⟨v,hv,hbv⟩:=HS3.be;have f1:=hv.free 0;have f2:=HS3.mo.free 0;have g1:=hv.cell 0;have g2:=HS3.mo.cell 0;simp only [List.getElem?_cons_zero] at g1 g2;have HF:=Oi (HC.out none w3 HS3 hN.out B3 a1 c1 (bS o3.1 (by have:=B2.out.size;omega)))
    clear o3 hb3 B3 HS3 hv hbv HS2 LCl;go_wp2_with fail
    go_end0
    exact ⟨rfl,HF.out⟩
  | some p =>
    obtain ⟨bl,m⟩:=p;obtain ⟨hbl,a',c',rfl,hob⟩:=hbv;obtain ⟨g',rfl⟩:=iz hob hbl;have e2':wB.cell? ⟨W.heap.size+3,0,none⟩=some (.int .i64 m):=e2;clear e2 hob
    by_cases hm:m<tt
    · go_wp2_with fail
      refine (LCl.out _ B2.out).mono ?_;rintro e w3 ⟨a1,c1,rfl,o3,hb3⟩;have B3:=aa B2.out hb3;have HS3:=HS2.out.keep hb3;obtain ⟨v,hv,hbv⟩:=HS3.be;have f1:=hv.free 0;have f2:=HS3.mo.free 0;have g1:=hv.cell 0;have g2:=HS3.mo.cell 0;simp only [List.getElem?_cons_zero] at g1 g2;have HF:=Oi (HC.out (some (bl,m)) w3 HS3 (hY.out bl m hm) B3 a1 c1 (bS o3.1 (by have:=B2.out.size;omega)))
      clear o3 hb3 B3 HS3 hv hbv HS2 LCl e1 e2';go_wp2_with fail
      go_end0
      exact ⟨rfl,HF.out⟩
    · have HF:Hid (GS W base [.int .i64 P,.int .i64 T,.slice aV xV.length cV] (ws (some (bl,m))) wB∧Touch w wB 0 base):=by
        rw [hZ.out bl m (by omega)];exact ⟨HS2.out,Below.touch B2.out 0 base⟩
      clear HS2;go_wp2_with fail
      first | go_end0 | (refine bodyPost_ret (results_none rfl _ _ _) rfl ?_)
      exact ⟨rfl,HF.out⟩
theorem Nl (w:World) (o1 o2 o3 o4:Obj):Below w.heap.size w ((((w.alloc o1).alloc o2).alloc o3).alloc o4):=aa (tD w o1 o2 o3) (ai _ _)
theorem GS.ret {W:World} {base:Nat} {cs:List Value} {l:List Int} {m:Int} {w:World} (h:GS W base cs (some (l,m)) w) (hb:W.heap.size≤base) :
 ∃ g c,w.cell? ⟨W.heap.size+2,0,none⟩=some (.slice (some ⟨g,0,none⟩) l.length c)∧w.cell? ⟨W.heap.size+3,0,none⟩=some (.int .i64 m)∧RetT 2 W (some (l,m)) (.returned (.tuple #[.slice (some ⟨g,0,none⟩) l.length c,.int .i64 m,.bool true])) w:=by
 obtain ⟨v,hv,h0,a,c,rfl,ho⟩:=h.be;obtain ⟨g,rfl⟩:=iz ho h0;exact ⟨g,c,hv.cell 0,h.mo.cell 0,h.bel,_,_,rfl,bS ho (by omega)⟩
theorem GS.start {w w1:World} {cs:List Value} (hb:Below ((((w.alloc (.cells cs.toArray 28)).alloc (.cells #[.func (.func 180) #[] #[]] 223)).alloc (.cells #[.slice none 0 0] 24)).alloc (.cells #[.int .i64 0] 2)).heap.size ((((w.alloc (.cells cs.toArray 28)).alloc (.cells #[.func (.func 180) #[] #[]] 223)).alloc (.cells #[.slice none 0 0] 24)).alloc (.cells #[.int .i64 0] 2)) w1) :
 GS w w1.heap.size cs none w1∧w.heap.size+4≤w1.heap.size:=by
 have k0:=((((Blk.new w cs 28).alloc (.cells #[.func (.func 180) #[] #[]] 223)).alloc (.cells #[.slice none 0 0] 24)).alloc (.cells #[.int .i64 0] 2)).same hb;have kf:=(((Blk.new (w.alloc (.cells cs.toArray 28)) [.func (.func 180) #[] #[]] 223).alloc (.cells #[.slice none 0 0] 24)).alloc (.cells #[.int .i64 0] 2)).same hb;have k1:=((Blk.new ((w.alloc (.cells cs.toArray 28)).alloc (.cells #[.func (.func 180) #[] #[]] 223)) [.slice none 0 0] 24).alloc (.cells #[.int .i64 0] 2)).same hb;have k2:=(Blk.new (((w.alloc (.cells cs.toArray 28)).alloc (.cells #[.func (.func 180) #[] #[]] 223)).alloc (.cells #[.slice none 0 0] 24)) [.int .i64 0] 2).same hb;simp at kf k1 k2
 refine ⟨⟨k0,kf,⟨_,k1,rfl⟩,k2,aa (Nl _ _ _ _ _) hb⟩,?_⟩
 have:=hb.size;simp at this
 omega
def kZ (P T:Nat) (xs:List Int):eb:=if ot P T then le P T xs (P ^ T) else none
theorem zX {P T t:Nat}:(cE P T t).length=T:=fN P T t
theorem Ay (w:World) (P T:Nat) (aV:Option Addr) (cV:Nat) (xV:List Int) (hG:bM P T xV=true) (hV:Rd w w.heap.size aV (ae xV)) :
 Calls Tryz.prog 179 #[.agg #[.int .i64 P,.int .i64 T,.slice aV xV.length cV],.func (.func 180) #[] #[]] w (RetT 2 w (kZ P T xV)):=by
 have hG':=hG;obtain ⟨P',T',e1,e2,p1,p6,t1,t8,lV,hb⟩:=db hG';obtain rfl:P=P':=Int.ofNat.inj e1;obtain rfl:T=T':=Int.ofNat.inj e2;have hPT:P * T≤48:=Nat.le_trans (Nat.mul_le_mul p6 t8) (by decide)
 have LV:=Oi (fun v (hbl:Below w.heap.size w v)=>eu v P T aV cV xV (hV.to hbl) (by omega))
 rw [hG] at LV;have LP:Hid (∀ w1:World,GS w w1.heap.size [.int .i64 P,.int .i64 T,.slice aV xV.length cV] none w1∧w.heap.size+4≤w1.heap.size →
  Calls Tryz.prog 222 #[.agg #[.int .i64 P,.int .i64 T,.slice aV xV.length cV],.func (.func 223) #[] #[.pointer (some ⟨w.heap.size+1,0,none⟩),.pointer (some ⟨w.heap.size,0,none⟩),.pointer (some ⟨w.heap.size+2,0,none⟩),.pointer (some ⟨w.heap.size+3,0,none⟩)]] w1
   fun e w'=>e=.returned (.bool (ot P T))∧GS w w1.heap.size [.int .i64 P,.int .i64 T,.slice aV xV.length cV] (le P T xV (oo (ot P T) (P ^ T))) w'):=fun w1 hs=>by
  refine Fy (fun t w'=>GS w w1.heap.size [.int .i64 P,.int .i64 T,.slice aV xV.length cV] (le P T xV t) w') _ _ CG w1 P T aV cV xV p1 p6 t1 t8 ?_ ?_ hs.1
  · intro t v1 v2 k hg
    exact k.frame hg hs.2
  · intro t v1 c k ht hsz g
    have:=E9 w w1.heap.size P T aV cV xV hV hs.2 lV p6 t1 t8 hb (le P T xV t) (cE P T t) v1 c k hsz zX g;rw [zX] at this;exact this
 have hpos:0<P ^ T:=Nat.pow_pos p1;obtain ⟨bl,bm,hbm⟩:=Fj P T xV _ hpos;clear hV hG hG' e1 e2 lV hb
 cases hf:ot P T with
 | false =>
   have hF:Hid (kZ P T xV=none):=by rw [Hid,kZ,hf];rfl
   rw [hF.out];rw [hf] at LP;clear hf hbm
   go_enter Tryz.func179,Tryz.ntmps179;go_wp2_with fail;refine (LV.out _ (Nl _ _ _ _ _)).mono ?_;rintro e w1 ⟨rfl,hb1⟩;have HS:=Oi (GS.start (cs:=[.int .i64 P,.int .i64 T,.slice aV xV.length cV]) hb1);have q0:=HS.out.1.cr.cell 0;have q1:=HS.out.1.cr.cell 1;have q2:=HS.out.1.cr.cell 2;simp only [List.getElem?_cons_zero,List.getElem?_cons_succ] at q0 q1 q2;clear hb1 LV;go_wp2_with fail
   first | go_outline | skip
   refine (LP.out _ HS.out).mono ?_;rintro e w2 ⟨rfl,hQ⟩;have B2:=hQ.bel;clear hQ q0 q1 q2;go_wp2_with fail;go_ret3;exact RetT.no B2
 | true =>
   have hF:Hid (kZ P T xV=some (bl,bm)):=by rw [Hid,kZ,hf,if_pos rfl,hbm]
   rw [hF.out];rw [hf,oq,hbm] at LP;clear hf hbm hF
   go_enter Tryz.func179,Tryz.ntmps179;go_wp2_with fail;refine (LV.out _ (Nl _ _ _ _ _)).mono ?_;rintro e w1 ⟨rfl,hb1⟩;have HS:=Oi (GS.start (cs:=[.int .i64 P,.int .i64 T,.slice aV xV.length cV]) hb1);have q0:=HS.out.1.cr.cell 0;have q1:=HS.out.1.cr.cell 1;have q2:=HS.out.1.cr.cell 2;simp only [List.getElem?_cons_zero,List.getElem?_cons_succ] at q0 q1 q2;clear hb1 LV;go_wp2_with fail
   first | go_outline | skip
   refine (LP.out _ HS.out).mono ?_;rintro e w2 ⟨rfl,hQ⟩;obtain ⟨g,c,e1,e2,hR⟩:=hQ.ret (by have:=HS.out.2;omega)
   have HR:=Oi hR;clear hQ q0 q1 q2 hR;go_wp2_with fail
   go_quiet (fail)
   go_wp2_with fail;go_ret3;exact ⟨ag HR.out.1 _,HR.out.2⟩
theorem tW (P T:Nat) (xs:List Int):qF P T xs=match kZ P T xs with
 | none=>none
 | some (b,m)=>if m≤jf then some (b,m) else none:=by
 unfold qF kZ
 cases ot P T <;> rfl
theorem Ax {P T:Nat} {xs:List Int} {b:List Int} {m:Int} (h:∀ x∈xs,0≤x∧x≤1000) (hT:T≤8) (e:kZ P T xs=some (b,m)):b.length=T∧0≤m∧m≤1000000000001:=by
 unfold kZ at e
 split at e
 · obtain ⟨h1,h2,h3,_⟩:=A6 h hT _ b m e
   exact ⟨h1,h2,h3⟩
 · cases e
theorem vj (w:World) (P T:Nat) (aV:Option Addr) (cV:Nat) (xV:List Int) (hG:bM P T xV=true) (hV:Rd w w.heap.size aV (ae xV)) :
 Calls Tryz.prog 130 #[.agg #[.int .i64 P,.int .i64 T,.slice aV xV.length cV]] w (RetT 2 w (qF P T xV)):=by
 have B1:=Oi (ai w (.cells #[.int .i64 P,.int .i64 T,.slice aV xV.length cV] 28));have LG:=Oi (Ay _ P T aV cV xV hG (hV.to B1.out));have hG':=hG;obtain ⟨P',T',e1,e2,p1,p6,t1,t8,lV,hb⟩:=db hG';obtain rfl:P=P':=Int.ofNat.inj e1;obtain rfl:T=T':=Int.ofNat.inj e2;have hbd:=Oi (fun b m=>Ax (P:=P) (b:=b) (m:=m) hb t8)
 rw [tW];clear hG hG' hV lV hb e1 e2;unfold RetT at LG;generalize kZ P T xV=r at *
 cases r with
 | none =>
   clear hbd
   go_enter Tryz.func130,Tryz.ntmps130;go_wp2_with fail;refine LG.out.mono ?_;rintro e w1 ⟨hb1,rfl⟩;have B2:=aa B1.out hb1;clear hb1;go_wp2_with fail;go_ret3;exact RetT.no B2
 | some q =>
   obtain ⟨b,m⟩:=q;obtain ⟨-,n2,n3⟩:=hbd.out b m rfl
   by_cases hm:m≤1000000000000
   · have hif:Hid ((if m≤jf then some (b,m) else none:eb)=some (b,m)):=if_pos hm
     show Calls _ _ _ _ (RetT _ _ (if m≤jf then some (b,m) else none))
     rw [hif.out];have hmi:¬ (1000000000000:Int)<m:=by omega
     have hmd:decide ((1000000000000:Int)<m)=false:=decide_eq_false hmi;clear hbd hif
     go_enter Tryz.func130,Tryz.ntmps130;go_wp2_with fail;refine LG.out.mono ?_;rintro e w1 ⟨hb1,a,c,rfl,ho⟩;have HR:Hid (RetT 2 w (some (b,m)) (.returned (.tuple #[.slice a b.length c,.int .i64 m,.bool true])) w1):=⟨aa B1.out hb1,_,_,rfl,bS ho (by simp)⟩
     clear hb1 ho;go_wp2_with fail;go_ret3;obtain ⟨hq1,a',c',e',o'⟩:=HR.out;exact ⟨hq1,a',c',e',o'⟩
   · have hif:Hid ((if m≤jf then some (b,m) else none:eb)=none):=if_neg hm
     show Calls _ _ _ _ (RetT _ _ (if m≤jf then some (b,m) else none))
     rw [hif.out];have hmi:(1000000000000:Int)<m:=by omega
     have hmd:decide ((1000000000000:Int)<m)=true:=decide_eq_true hmi;clear hbd hif
     go_enter Tryz.func130,Tryz.ntmps130;go_wp2_with fail;refine LG.out.mono ?_;rintro e w1 ⟨hb1,a,c,rfl,ho⟩;have B2:=aa B1.out hb1;clear hb1 ho;go_wp2_with fail;go_ret3;exact RetT.no B2
open Ieee
theorem Af (n d:Nat) (hd:d≤n.log2+2):(n / 2 ^ d≤Toward.even.cut false n d∧Toward.even.cut false n d≤n / 2 ^ d+1)∧2 * (2 ^ d * Toward.even.cut false n d)≤2 * n+2 ^ d∧2 * n≤2 * (2 ^ d * Toward.even.cut false n d)+2 ^ d∧(n % 2 ^ d=0→2 ^ d * Toward.even.cut false n d=n):=by
 unfold Toward.cut;simp only [Nat.min_eq_left hd,Nat.one_shiftLeft];have hg:0<2 ^ d:=Nat.two_pow_pos d;have hn:=Nat.div_add_mod n (2 ^ d);have hr:=Nat.mod_lt n hg;generalize 2 ^ d=g at *
 generalize n / g=low at *
 generalize n % g=rest at *
 cases hm:(decide (g<2 * rest) || (g == 2 * rest && low % 2 == 1)) with
 | false =>
   simp only [Bool.or_eq_false_iff,decide_eq_false_iff_not] at hm;obtain ⟨h1,_⟩:=hm;simp only [Bool.toNat_false,Nat.add_zero];exact ⟨⟨Nat.le_refl _,by omega⟩,by omega,by omega,fun h=>by omega⟩
 | true =>
   simp only [Bool.or_eq_true,decide_eq_true_eq,Bool.and_eq_true,beq_iff_eq] at hm;have h1:g≤2 * rest:=by rcases hm with h | ⟨h,_⟩ <;> omega
   simp only [Bool.toNat_true];rw [Nat.mul_add,Nat.mul_one];exact ⟨⟨by omega,by omega⟩,by omega,by omega,fun h=>by omega⟩
open Ieee
theorem Np {n d M:Nat} (h:n≤M * 2 ^ d):Toward.even.cut false n d≤M:=by
 have hg:0<2 ^ d:=Nat.two_pow_pos d
 rcases Nat.lt_or_ge (n.log2+2) d with hd | hd
 · have l2:n<2 ^ (n.log2+1):=Nat.lt_log2_self
   have e:2 ^ (n.log2+2)=2 * 2 ^ (n.log2+1):=by rw [Nat.pow_succ 2 (n.log2+1),Nat.mul_comm]
   have:Toward.even.cut false n d=0:=by
    unfold Toward.cut;simp only [Nat.min_eq_right (Nat.le_of_lt hd),Nat.one_shiftLeft];rw [Nat.div_eq_of_lt (by omega),Nat.mod_eq_of_lt (by omega)]
    have h1:decide (2 ^ (n.log2+2)<2 * n)=false:=by rw [decide_eq_false_iff_not];omega
    rw [h1];simp
   omega
 · obtain ⟨_,c3,_,_⟩:=Af n d hd
   generalize Toward.even.cut false n d=K at *
   have h2:2 ^ d * (2 * K)≤2 ^ d * (2 * M+1):=by
    have e1:2 ^ d * (2 * K)=2 * (2 ^ d * K):=Nat.mul_left_comm _ _ _;have e2:2 ^ d * (2 * M+1)=2 * (M * 2 ^ d)+2 ^ d:=by rw [Nat.mul_add,Nat.mul_one,Nat.mul_left_comm,Nat.mul_comm (2 ^ d) M]
    rw [e1,e2];omega
   have:=Nat.le_of_mul_le_mul_left h2 hg;omega
theorem No {n d M:Nat} (h:M * 2 ^ d≤n):M≤Toward.even.cut false n d:=by
 have hg:0<2 ^ d:=Nat.two_pow_pos d
 rcases Nat.lt_or_ge (n.log2+2) d with hd | hd
 · have l2:n<2 ^ (n.log2+1):=Nat.lt_log2_self
   have l3:2 ^ (n.log2+1)≤2 ^ d:=Nat.pow_le_pow_right (by omega) (by omega)
   rcases Nat.eq_zero_or_pos M with h0 | h0
   · subst h0;exact Nat.zero_le _
   · have:=Nat.mul_le_mul_right (2 ^ d) (show 1≤M from h0)
     omega
 · obtain ⟨_,_,c4,_⟩:=Af n d hd
   generalize Toward.even.cut false n d=K at *
   have h2:2 ^ d * (2 * M)≤2 ^ d * (2 * K+1):=by
    have e1:2 ^ d * (2 * M)=2 * (M * 2 ^ d):=by rw [Nat.mul_left_comm,Nat.mul_comm (2 ^ d) M]
    have e2:2 ^ d * (2 * K+1)=2 * (2 ^ d * K)+2 ^ d:=by rw [Nat.mul_add,Nat.mul_one,Nat.mul_left_comm]
    rw [e1,e2];omega
   have:=Nat.le_of_mul_le_mul_left h2 hg;omega
noncomputable def eP:Nat:=Classical.choose (⟨4000,rfl⟩:∃ e:Nat,e=4000)
theorem iD:eP=4000:=Classical.choose_spec (⟨4000,rfl⟩:∃ e:Nat,e=4000)
noncomputable def vl (m:Nat) (p:Int):Nat:=m * 2 ^ (p+eP).toNat
theorem kE {m n:Nat} {p:Int} (h:m≤n):vl m p≤vl n p:=Nat.mul_le_mul_right _ h
theorem mt {m n:Nat} {p:Int} (h:vl m p≤vl n p):m≤n:=Nat.le_of_mul_le_mul_right h (Nat.two_pow_pos _)
theorem dg {m:Nat} {p q:Int} {k:Nat} (hp:-(eP:Int)≤p) (h:q=p+k):vl m q=vl (m * 2 ^ k) p:=by
 unfold vl;rw [Nat.mul_assoc,← Nat.pow_add]
 congr 2
 omega
theorem kN (f:Format):0<f.binade:=Nat.two_pow_pos _
structure FOk (f:Format):Prop where
 inf:f.binade<f.infRung
 low:-(eP:Int)≤f.leastPlace
 low3:-(eP:Int)≤2 * f.leastPlace - 1500
 neg:f.leastPlace≤0
 bits:f.binade=2 ^ f.fractionBits
theorem jx:FOk single:=⟨by decide,by rw [iD];decide,by rw [iD];decide,by decide,rfl⟩
theorem az:FOk double:=⟨by decide,by rw [iD];decide,by rw [iD];decide,by decide,rfl⟩
theorem bf {f:Format} (hf:FOk f) {b m:Nat} {s:Bool} {p:Int} (h:f.read b=.number s m p) :
 f.leastPlace≤p∧m<2 * f.binade∧(f.binade≤m∨p=f.leastPlace)∧b % f.signWeight=(p - f.leastPlace).toNat * f.binade+m∧b % f.signWeight<f.infRung∧s=(b / f.signWeight % 2 == 1):=by
 have hb:=kN f;have hin:=hf.inf;unfold Format.read at h;simp only at h;generalize hR:b % f.signWeight=R at *
 split at h
 · rename_i hlt
   injection h with h1 h2 h3
   subst h1 h2 h3;exact ⟨Int.le_refl _,by omega,.inr rfl,by rw [Int.sub_self,Int.toNat_zero,Nat.zero_mul,Nat.zero_add],by omega,rfl⟩
 · split at h
   · rename_i hlt hlt2
     injection h with h1 h2 h3
     subst h1 h2 h3;have hm:=Nat.mod_lt R hb;have hd:=Nat.div_add_mod R f.binade;obtain ⟨q,hq⟩:∃ q,R / f.binade=q+1:=⟨R / f.binade - 1,by have:1≤R / f.binade:=(Nat.le_div_iff_mul_le hb).2 (by omega);omega⟩
     rw [hq] at hd ⊢;refine ⟨by omega,by omega,.inl (by omega),?_,hlt2,rfl⟩
     have e:(f.leastPlace+((q+1 - 1:Nat):Int) - f.leastPlace).toNat=q:=by omega
     rw [e];rw [Nat.mul_add,Nat.mul_one,Nat.mul_comm] at hd;omega
   · split at h <;> cases h
theorem mg {f:Format} {b:Nat} (h:b<f.infRung) (hf:FOk f):∃ m p,f.read b=.number false m p:=by
 have hs:=f.infRung_lt;have e1:b / f.signWeight=0:=Nat.div_eq_of_lt (by omega)
 have e2:b % f.signWeight=b:=Nat.mod_eq_of_lt (by omega)
 unfold Format.read;simp only [e1,e2]
 split
 · exact ⟨_,_,rfl⟩
 · first | exact ⟨_,_,rfl⟩ | exact ⟨_,_,by rw [if_pos h];rfl⟩
theorem MY {B q1 q2 m1 m2:Nat} (h:q1 * B+m1≤q2 * B+m2) (h1:m1<2 * B) (h2:m2<2 * B) (k1:B≤m1∨q1=0) (hq:q2<q1):False:=by
 have:B≤m1:=by rcases k1 with h | h <;> omega
 have e:=Nat.mul_le_mul_right B (show q2+1≤q1 from hq)
 rw [Nat.add_mul,Nat.one_mul] at e;omega
theorem kF {f:Format} (hf:FOk f) {m1 m2:Nat} {p1 p2:Int} (l1:f.leastPlace≤p1) (l2:f.leastPlace≤p2) (h1:m1<2 * f.binade) (h2:m2<2 * f.binade) (k1:f.binade≤m1∨p1=f.leastPlace) (k2:f.binade≤m2∨p2=f.leastPlace)
 (h:(p1 - f.leastPlace).toNat * f.binade+m1≤(p2 - f.leastPlace).toNat * f.binade+m2):vl m1 p1≤vl m2 p2:=by
 have hlow:=hf.low
 rcases Int.lt_trichotomy p1 p2 with hp | hp | hp
 · have hm2:f.binade≤m2:=by rcases k2 with h | h;exact h;omega
   rw [dg (k:=(p2 - p1).toNat) (p:=p1) (q:=p2) (by omega) (by omega)]
   refine kE ?_
   have e:2 ^ 1≤2 ^ (p2 - p1).toNat:=Nat.pow_le_pow_right (by omega) (by omega)
   have:=Nat.mul_le_mul hm2 e;omega
 · subst hp
   exact kE (by omega)
 · exfalso
   exact MY h h1 h2 (by rcases k1 with h | h;exact .inl h;right;omega) (by omega)
theorem DY {mag M:Nat} {place last:Int} (h0:-(eP:Int)≤place) (h1:-(eP:Int)≤last) (h:vl mag place≤vl M last):Toward.even.cut false (mag <<< (place - last).toNat) (last - place).toNat≤M:=by
 refine Np ?_
 rw [Nat.shiftLeft_eq]
 rcases Int.le_total place last with hp | hp
 · rw [show (place - last).toNat=0 from by omega,Nat.pow_zero,Nat.mul_one]
   rw [dg (k:=(last - place).toNat) (p:=place) (q:=last) h0 (by omega)] at h
   exact mt h
 · rw [show (last - place).toNat=0 from by omega,Nat.pow_zero,Nat.mul_one]
   rw [dg (k:=(place - last).toNat) (p:=last) (q:=place) h1 (by omega)] at h
   exact mt h
theorem DX {mag M:Nat} {place last:Int} (h0:-(eP:Int)≤place) (h1:-(eP:Int)≤last) (h:vl M last≤vl mag place):M≤Toward.even.cut false (mag <<< (place - last).toNat) (last - place).toNat:=by
 refine No ?_
 rw [Nat.shiftLeft_eq]
 rcases Int.le_total place last with hp | hp
 · rw [show (place - last).toNat=0 from by omega,Nat.pow_zero,Nat.mul_one]
   rw [dg (k:=(last - place).toNat) (p:=place) (q:=last) h0 (by omega)] at h
   exact mt h
 · rw [show (last - place).toNat=0 from by omega,Nat.pow_zero,Nat.mul_one]
   rw [dg (k:=(place - last).toNat) (p:=last) (q:=place) h1 (by omega)] at h
   exact mt h
theorem Ii {f:Format} (hf:FOk f) {mag:Nat} {place last:Int} (hm:mag≠0) (h0:-(eP:Int)≤place) (hlast:last=max (place+(mag.log2:Int) - f.fractionBits) f.leastPlace) :
 -(eP:Int)≤last∧f.leastPlace≤last∧vl mag place≤vl (2 * f.binade) last∧(mag≠0→vl mag place<vl (2 * f.binade) last)∧(f.leastPlace<last→vl f.binade last≤vl mag place):=by
 have l1:2 ^ mag.log2≤mag:=Nat.log2_self_le hm;have l2:mag<2 ^ (mag.log2+1):=Nat.lt_log2_self;have hlow:=hf.low;have hbits:=hf.bits;have hl:place+(mag.log2:Int) - f.fractionBits≤last:=by rw [hlast];exact Int.le_max_left _ _
 have hl2:f.leastPlace≤last:=by rw [hlast];exact Int.le_max_right _ _
 have e1:vl mag place<vl (2 * f.binade) last:=by
  have:vl mag place<vl (2 ^ (mag.log2+1)) place:=Nat.mul_lt_mul_of_pos_right l2 (Nat.two_pow_pos _);refine Nat.lt_of_lt_of_le this ?_
  unfold vl;rw [hbits,show 2 * 2 ^ f.fractionBits=2 ^ (f.fractionBits+1) from by rw [Nat.pow_succ,Nat.mul_comm],← Nat.pow_add,← Nat.pow_add]
  exact Nat.pow_le_pow_right (by omega) (by omega)
 refine ⟨by omega,hl2,Nat.le_of_lt e1,fun _=>e1,fun hlt=>?_⟩
 have hl3:last=place+(mag.log2:Int) - f.fractionBits:=by
  rcases Int.le_total (place+(mag.log2:Int) - f.fractionBits) f.leastPlace with h | h
  · have:last=f.leastPlace:=by rw [hlast];exact Int.max_eq_right h
    omega
  · rw [hlast];exact Int.max_eq_left h
 refine Nat.le_trans ?_ (kE (p:=place) l1)
 unfold vl;rw [hbits,← Nat.pow_add,← Nat.pow_add];exact Nat.pow_le_pow_right (by omega) (by omega)
theorem qI {f:Format} (hf:FOk f) {mag:Nat} {place:Int} (h0:-(eP:Int)≤place) {m q:Nat} {p:Int} (hl:f.leastPlace≤p) (hm2:m<2 * f.binade) (hk:f.binade≤m∨p=f.leastPlace) (hq:q=(p - f.leastPlace).toNat * f.binade+m) (h:vl mag place≤vl m p) :
 f.nearest false mag place≤q:=by
 unfold Format.nearest
 split
 · exact Nat.zero_le _
 · rename_i hm
   obtain ⟨i1,i2,i3,i4,i5⟩:=Ii hf hm h0 rfl;have hlow:=hf.low;simp only;generalize hL:max (place+(mag.log2:Int) - f.fractionBits) f.leastPlace=last at *
   show min _ _≤q
   refine Nat.le_trans (Nat.min_le_left _ _) ?_
   rcases Int.lt_trichotomy p last with hp | hp | hp
   · exfalso
     have j:=Nat.le_trans (i5 (by omega)) h
     rw [dg (k:=(last - p).toNat) (p:=p) (q:=last) (by omega) (by omega)] at j
     have j2:=mt j;have e:2 ^ 1≤2 ^ (last - p).toNat:=Nat.pow_le_pow_right (by omega) (by omega)
     have:=Nat.mul_le_mul_left f.binade e;omega
   · subst hp
     have:=DY h0 i1 h;omega
   · have hm3:f.binade≤m:=by rcases hk with h | h;exact h;omega
     have:=DY h0 i1 i3;have e:=Nat.mul_le_mul_right f.binade (show (last - f.leastPlace).toNat+1≤(p - f.leastPlace).toNat by omega)
     rw [Nat.add_mul,Nat.one_mul] at e;omega
theorem Fp {f:Format} (hf:FOk f) {mag:Nat} {place:Int} (h0:-(eP:Int)≤place) {m q:Nat} {p:Int} (hl:f.leastPlace≤p) (hm2:m<2 * f.binade) (hk:f.binade≤m∨p=f.leastPlace) (hq:q=(p - f.leastPlace).toNat * f.binade+m) (hi:q≤f.infRung) (h:vl m p≤vl mag place) :
 q≤f.nearest false mag place:=by
 have hb:=kN f;unfold Format.nearest
 split
 · rename_i hm
   subst hm;have h1:vl m p≤0:=by unfold vl at h ⊢;rw [Nat.zero_mul] at h;exact h
   have h2:m=0:=by
    rcases Nat.eq_zero_or_pos m with h3 | h3
    · exact h3
    · have:=Nat.mul_pos h3 (Nat.two_pow_pos (p+eP).toNat)
      unfold vl at h1;omega
   have h3:p=f.leastPlace:=by rcases hk with h | h;omega;exact h
   rw [h2,h3,Int.sub_self,Int.toNat_zero,Nat.zero_mul] at hq;omega
 · rename_i hm
   obtain ⟨i1,i2,i3,i4,i5⟩:=Ii hf hm h0 rfl;have hlow:=hf.low;simp only;generalize hL:max (place+(mag.log2:Int) - f.fractionBits) f.leastPlace=last at *
   show q≤min _ _
   refine Nat.le_min.2 ⟨?_,hi⟩
   rcases Int.lt_trichotomy p last with hp | hp | hp
   · have:=DX h0 i1 (i5 (by omega))
     have e:=Nat.mul_le_mul_right f.binade (show (p - f.leastPlace).toNat+1≤(last - f.leastPlace).toNat by omega)
     rw [Nat.add_mul,Nat.one_mul] at e;omega
   · subst hp
     have:=DX h0 i1 h;omega
   · exfalso
     have hm3:f.binade≤m:=by rcases hk with h | h;exact h;omega
     have j:=Nat.lt_of_le_of_lt h (i4 hm);rw [dg (k:=(p - last).toNat) (p:=last) (q:=p) (by omega) (by omega)] at j
     have j2:m * 2 ^ (p - last).toNat<2 * f.binade:=Nat.lt_of_mul_lt_mul_right j;have e:2 ^ 1≤2 ^ (p - last).toNat:=Nat.pow_le_pow_right (by omega) (by omega)
     have:=Nat.mul_le_mul hm3 e;omega
def Bd (f:Format) (b k:Nat):Prop:=∃ s m p,f.read b=.number s m p∧vl m p≤vl 1 (k:Int)
theorem it (k:Nat):vl 1 (k:Int)=2 ^ (k+eP):=by
 unfold vl;rw [Nat.one_mul];congr 1
theorem Ma {i j:Nat} (h:i≤j):vl 1 (i:Int)≤vl 1 (j:Int):=by
 rw [it,it];exact Nat.pow_le_pow_right (by omega) (by omega)
theorem Bd.mono {f:Format} {b i j:Nat} (h:Bd f b i) (hij:i≤j):Bd f b j:=by
 obtain ⟨s,m,p,h1,h2⟩:=h;exact ⟨s,m,p,h1,Nat.le_trans h2 (Ma hij)⟩
theorem Ks {f:Format} (hf:FOk f) (k:Nat) (h:((k:Int) - f.fractionBits - f.leastPlace).toNat+2<2 ^ f.exponentBits - 1) (h1:f.leastPlace≤(k:Int) - f.fractionBits) :
 vl 1 (k:Int)=vl f.binade ((k:Int) - f.fractionBits)∧(((k:Int) - f.fractionBits) - f.leastPlace).toNat * f.binade+f.binade<f.infRung:=by
 constructor
 · have hlow:=hf.low
   rw [hf.bits,dg (k:=f.fractionBits) (p:=(k:Int) - f.fractionBits) (q:=(k:Int)) (by omega) (by omega),Nat.one_mul]
 · have hb:=kN f
   have e:=Nat.mul_le_mul_right f.binade (Nat.le_of_lt h)
   show _<(2 ^ f.exponentBits - 1) * f.binade
   rw [Nat.add_mul] at e;omega
theorem oI (f:Format) (s:Bool) (mag:Nat) (place:Int):f.nearest s mag place=f.word s (f.nearest false mag place):=by
 unfold Format.nearest
 split
 · rfl
 · rfl
theorem nw {f:Format} (hf:FOk f) {r:Nat} (h:r<f.infRung) (s:Bool):∃ m p,f.read (f.word s r)=.number s m p∧f.read r=.number false m p:=by
 have hs:=f.infRung_lt;obtain ⟨m,p,e⟩:=mg h hf;refine ⟨m,p,?_,e⟩
 cases s with
 | false=>exact e
 | true =>
   have e1:(f.signWeight+r) / f.signWeight=1:=by rw [Nat.add_div_left _ (by omega),Nat.div_eq_of_lt (by omega)]
   have e2:(f.signWeight+r) % f.signWeight=r:=by rw [Nat.add_mod_left,Nat.mod_eq_of_lt (by omega)]
   have e3:r / f.signWeight=0:=Nat.div_eq_of_lt (by omega)
   have e4:r % f.signWeight=r:=Nat.mod_eq_of_lt (by omega)
   unfold Format.read at e;simp only [e3,e4] at e
   show f.read (f.signWeight+r)=_
   unfold Format.read;simp only [e1,e2]
   split at e
   · rename_i h1
     rw [if_pos h1];injection e with _ h2 h3;subst h2 h3;rfl
   · rename_i h1
     try rw [if_pos h] at e
     rw [if_neg h1,if_pos h];injection e with _ h2 h3;subst h2 h3;rfl
theorem oe {f:Format} {k:Nat} (hf:f=single∧k≤125∨f=double∧k≤1021) (s:Bool) {mag:Nat} {place:Int} (h0:-(eP:Int)≤place) (h:vl mag place≤vl 1 (k:Int)):Bd f (f.nearest s mag place) k:=by
 have hok:FOk f:=by rcases hf with ⟨rfl,_⟩ | ⟨rfl,_⟩;exact jx;exact az
 have hk:((k:Int) - f.fractionBits - f.leastPlace).toNat+2<2 ^ f.exponentBits - 1∧f.leastPlace≤(k:Int) - f.fractionBits:=by
  rcases hf with ⟨rfl,h⟩ | ⟨rfl,h⟩
  · have h1:single.leastPlace = -149:=by decide
    have h2:(single.fractionBits:Int)=23:=by decide
    have h3:2 ^ single.exponentBits - 1=255:=by decide
    rw [h1,h2,h3];omega
  · have h1:double.leastPlace = -1074:=by decide
    have h2:(double.fractionBits:Int)=52:=by decide
    have h3:2 ^ double.exponentBits - 1=2047:=by decide
    rw [h1,h2,h3];omega
 obtain ⟨w1,w2⟩:=Ks hok k hk.1 hk.2;have hb:=kN f;rw [w1] at h;have hle:=qI hok h0 (q:=_) hk.2 (show f.binade<2 * f.binade by omega) (.inl (Nat.le_refl _)) rfl h
 obtain ⟨m,p,e1,e2⟩:=nw hok (Nat.lt_of_le_of_lt hle w2) s;refine ⟨s,m,p,by rw [oI];exact e1,?_⟩
 obtain ⟨r1,r2,r3,r4,r5,_⟩:=bf hok e2;have hs:=f.infRung_lt;rw [Nat.mod_eq_of_lt (by omega)] at r4
 rw [w1];refine kF hok r1 hk.2 r2 (by omega) r3 (.inl (Nat.le_refl _)) ?_
 rw [← r4];exact hle
end Go.Proofs.YtbknhgapjjaelaaGreatDoor
