/-
  Part 37 of what the proof stands on: lemmas and contracts, each with its conditions ahead of the colon.
-/
import Derived.Test.YtbknhgapjjaelaaGreatDoorPj01
import Derived.Outline
import Derived.Laws.EntriesVeiled
import Derived.Deep.RegionHeld3
import Derived.Deep.DeepCutAuto
import Derived.Deep.RegionWith
import Derived.Test.YtbknhgapjjaelaaGreatDoorPj03
import Derived.Test.YtbknhgapjjaelaaGreatDoorPj11
import Derived.Test.YtbknhgapjjaelaaGreatDoorPj23
import Derived.Test.YtbknhgapjjaelaaGreatDoorPj33
import Derived.Test.YtbknhgapjjaelaaGreatDoorPj34
import Derived.Test.YtbknhgapjjaelaaGreatDoorPj36
set_option maxRecDepth 200000
set_option maxHeartbeats 16000000
namespace Go.Proofs.YtbknhgapjjaelaaGreatDoor
set_option linter.unusedVariables false
set_option linter.unusedSimpArgs false
open Go.RowKit
theorem zG (w:World) (P T:Nat) (aV:Option Addr) (cV:Nat) (xV:List Int) (hG:bM P T xV=true) (hV:Rd w w.heap.size aV (ae xV)) :
 Calls Tryz.prog 193 #[.agg #[.int .i64 P,.int .i64 T,.slice aV xV.length cV]] w fun e w'=>e=.returned (.bool (decide (P=T)))∧Below w.heap.size w w':=by
 have hG':=hG;obtain ⟨P',T',e1,e2,p1,p6,t1,t8,lV,hb⟩:=db hG';obtain rfl:P=P':=Int.ofNat.inj e1;obtain rfl:T=T':=Int.ofNat.inj e2;have hPT:P * T≤48:=Nat.le_trans (Nat.mul_le_mul p6 t8) (by decide)
 have B1:=Oi (ai w (.cells #[.int .i64 P,.int .i64 T,.slice aV xV.length cV] 28));have LV:=Oi (fun v (hbl:Below w.heap.size w v)=>eu v P T aV cV xV (hV.to hbl) (by omega))
 rw [hG] at LV;have K:=Oi (Blk.new w [.int .i64 P,.int .i64 T,.slice aV xV.length cV] 28);have HD:Hid (decide (P=T)=((P:Int) == (T:Int))):=by
  rw [Hid,Bool.eq_iff_iff,decide_eq_true_eq,beq_iff_eq];omega
 clear hV hG hG' lV hb e1 e2;rw [HD.out];generalize hbb:((P:Int) == (T:Int))=bb at *
 clear HD
 go_enter Tryz.func193,Tryz.ntmps193;go_wp2_with fail;refine (LV.out _ B1.out).mono ?_;rintro e w1 ⟨rfl,hb1⟩;have K1:=K.out.same hb1;have q0:=K1.cell 0;have q1:=K1.cell 1;simp only [List.getElem?_cons_zero,List.getElem?_cons_succ] at q0 q1;have B2:=Oi (aa B1.out hb1);clear hb1 LV K K1;go_wp2_with fail;go_ret;exact ⟨by first | rfl | (rw [← hbb];rfl),B2.out⟩
theorem KM {n:Nat} {rooms:List Int} (h:mF rooms n=true) {k:Nat} (hk:k<n):∃ t:Nat,rooms.getD k 0=(t:Int)∧t<n:=by
 obtain ⟨o1,o2,o3⟩:=nr.1 h;have:=o1 (rooms.getD k 0) (by rw [List.getD_eq_getElem?_getD,List.getElem?_eq_getElem (by omega)];exact List.getElem_mem _)
 exact ⟨(rooms.getD k 0).toNat,by omega,by omega⟩
theorem QS.new {w w2:World} {n:Nat} {aV:Option Addr} {cV:Nat} {xV:List Int} (K:Blk w2 w.heap.size [.int .i64 n,.int .i64 n,.slice aV xV.length cV] 28) (B:Below w.heap.size w w2) :
 QS w w2.heap.size ((w2.alloc (.cells #[.slice none 0 0] 24)).alloc (.cells #[.int .i64 0] 2)).heap.size n [.int .i64 n,.int .i64 n,.slice aV xV.length cV] none none ((w2.alloc (.cells #[.slice none 0 0] 24)).alloc (.cells #[.int .i64 0] 2)):=by
 have k1:=(Blk.new w2 [.slice none 0 0] 24).alloc (.cells #[.int .i64 0] 2);have k2:=Blk.new (w2.alloc (.cells #[.slice none 0 0] 24)) [.int .i64 0] 2;simp at k2
 exact ⟨(K.alloc _).alloc _,⟨_,k1,rfl,rfl⟩,k2,aa B (cd _ _ _),fun b m e=>by cases e⟩
structure RwS (w:World) (gB gR g c P:Nat) (cs:List Value) (rooms r:List Int) (wr:World):Prop where
 K:Blk wr w.heap.size cs 28
 E:Blk wr gB [.slice (some ⟨g,0,none⟩) P c] 24
 R:Rd wr gR (some ⟨g,0,none⟩) (ae rooms)
 r:Blk wr gR (ae r) 2
 B:Below w.heap.size w wr
 lt:w.heap.size<gB∧gB<gR
 sz:gR<wr.heap.size
section
variable {w wr w':World} {gB gR g c P:Nat} {cs:List Value} {rooms r:List Int}
theorem RwS.same (h:RwS w gB gR g c P cs rooms r wr) (hb:Below wr.heap.size wr w'):RwS w gB gR g c P cs rooms r w' :=
 ⟨h.K.same hb,h.E.same hb,h.R.below hb (Nat.le_of_lt h.sz),h.r.same hb,aa h.B hb,h.lt,Nat.lt_of_lt_of_le h.sz hb.size⟩
theorem RwS.below {T:Nat} (h:RwS w gB gR g c P cs rooms r wr) (hb:Below T wr w') (h1:gR<T) (h2:T≤wr.heap.size):RwS w gB gR g c P cs rooms r w' :=
 ⟨h.K.below hb (by have:=h.lt;omega),h.E.below hb (by have:=h.lt;omega),h.R.below hb (Nat.le_of_lt h1),h.r.below hb h1,h.B.trans (hb.mono (by have:=h.lt;omega)),h.lt,Nat.lt_of_lt_of_le h.sz hb.size⟩
theorem RwS.set (h:RwS w gB gR g c P cs rooms r wr) (j:Nat) (x:Int):RwS w gB gR g c P cs rooms (r.set j x) (wr.setCell ⟨gR,j,none⟩ (.int .i64 x)):=by
 have h1:=h.lt.1;have h2:=h.lt.2;exact ⟨h.K.oth (by omega) _ _,h.E.oth (by omega) _ _,h.R.below (aw (Below.refl gR wr) (Nat.le_refl _) j _) (Nat.le_refl _),h.r.setI j x,aw h.B (by omega) j _,h.lt,by simpa using h.sz⟩
end
theorem FZ (w:World) (P T:Nat) (aV:Option Addr) (cV:Nat) (xV:List Int) (total:Int) (hG:bM P T xV=true) (hV:Rd w w.heap.size aV (ae xV)) :
 Calls Tryz.prog 135 #[.agg #[.int .i64 P,.int .i64 T,.slice aV xV.length cV],.int .i64 total] w (zl (gX P T xV total) w):=by
 have hG':=hG;obtain ⟨P',T',e1,e2,p1,p6,t1,t8,lV,hbV⟩:=db hG';obtain rfl:P=P':=Int.ofNat.inj e1;obtain rfl:T=T':=Int.ofNat.inj e2;have B1:=Oi (ai w (.cells #[.int .i64 P,.int .i64 T,.slice aV xV.length cV] 28));have LA:=Oi (fun v (hbl:Below w.heap.size w v)=>zG v P T aV cV xV hG (hV.to hbl))
 have LW:=Oi (fun v=>dm total 0 100000 v)
 have KG:=Oi (Blk.new w [.int .i64 P,.int .i64 T,.slice aV xV.length cV] 28)
 cases hpt:decide (P=T) with
 | false =>
   have hF:Hid (gX P T xV total=none):=by rw [Hid,gX,hpt];rfl
   rw [hpt] at LA;rw [hF.out];clear hG hG' hV lV hbV e1 e2 hpt
   go_enter Tryz.func135,Tryz.ntmps135;go_wp2_with fail;refine (LA.out _ B1.out).mono ?_;rintro e w1 ⟨rfl,hb1⟩;have B2:=Oi (aa B1.out hb1);clear hb1;go_wp2_with fail;go_ret3;exact ⟨B2.out,rfl⟩
 | true =>
 rw [hpt] at LA
 cases htt:eG total 0 100000 with
 | false =>
   have hF:Hid (gX P T xV total=none):=by rw [Hid,gX,hpt,htt];rfl
   rw [htt] at LW;rw [hF.out];clear hG hG' hV lV hbV e1 e2 hpt htt
   go_enter Tryz.func135,Tryz.ntmps135;go_wp2_with fail;refine (LA.out _ B1.out).mono ?_;rintro e w1 ⟨rfl,hb1⟩;have B2:=Oi (aa B1.out hb1);clear hb1;go_wp2_with fail;refine (LW.out _).mono ?_;rintro e w2 ⟨rfl,rfl⟩;go_wp2_with fail;go_ret3;exact ⟨B2.out,rfl⟩
 | true =>
 obtain rfl:P=T:=of_decide_eq_true hpt;obtain ⟨tt0,tt1⟩:=cx.1 htt;rw [htt] at LW;have hnn:P * P≤36:=Nat.mul_le_mul p6 p6;obtain ⟨rooms,rm,hrm⟩:=FY P xV (FE p1 p6);have hF:Hid (gX P P xV total=some (rooms,iq P total (rO P xV rooms P) P)):=by rw [Hid,gX,hpt,htt,hrm];rfl
 rw [hF.out];have HV:=Oi hV;have LP:Hid (∀ (gB:Nat) (w4:World),w.heap.size<gB→gB+2≤w4.heap.size→QS w gB w4.heap.size P [.int .i64 P,.int .i64 P,.slice aV xV.length cV] none none w4 →
  Calls Tryz.prog 194 #[.int .i64 P,.func (.func 195) #[] #[.pointer (some ⟨w.heap.size,0,none⟩),.pointer (some ⟨gB,0,none⟩),.pointer (some ⟨gB+1,0,none⟩)]] w4 fun e w'=>e=.returned (.tuple #[])∧∃ gb,QS w gB w4.heap.size P [.int .i64 P,.int .i64 P,.slice aV xV.length cV] (some (rooms,rm)) gb w'):=fun gB w4 h1 h2 h3=>by
  rw [← hrm];refine Bq (fun done gb w'=>QS w gB w4.heap.size P [.int .i64 P,.int .i64 P,.slice aV xV.length cV] (li P xV done) gb w') P _ _ (by omega) EZ w4 ?_ ?_ h3
  · intro done gb v1 v2 g k hg hbg hne
    exact k.frame hg h1 h2 hbg hne
  · intro done gb os w' a c k hgb hor hM hsz ha g
    rw [vH];exact IR w gB w4.heap.size P aV cV xV hV h1 h2 lV p1 p6 hbV (li P xV done) gb os w' a c k hsz hor g
 have HLV:=Oi lV;have HBV:=Oi hbV;clear hG hG' e1 e2 hpt htt hrm hF lV hbV hV
 go_enter Tryz.func135,Tryz.ntmps135;go_wp2_with fail;refine (LA.out _ B1.out).mono ?_;rintro e w2 ⟨rfl,hb2⟩;have B2:=Oi (aa B1.out hb2);have K2:=Oi (KG.out.same hb2);have hs2:w.heap.size<w2.heap.size:=by have:=hb2.size;simp at this;omega
 clear hb2 LA B1 KG;go_wp2_with fail;refine (LW.out _).mono ?_;rintro e w2' ⟨rfl,rfl⟩;have HQ:=Oi (QS.new (w:=w) K2.out B2.out);have q0:=(K2.out.alloc (.cells #[.slice none 0 0] 24)).alloc (.cells #[.int .i64 0] 2) |>.cell 0
 simp only [List.getElem?_cons_zero] at q0;have LP1:=Oi (LP.out w2.heap.size _ hs2 (by simp) HQ.out)
 clear LP LW K2 B2 HQ;obtain ⟨gB,hgB⟩:∃ g,g=w2.heap.size:=⟨_,rfl⟩;rw [← hgB] at LP1;go_wp2_with fail
 first | go_outline | skip
 rw [← hgB];refine LP1.out.mono ?_;rintro e w5 ⟨rfl,gb,HQ⟩;obtain ⟨v,hv,h0,g,c,rfl,-,ho⟩:=HQ.be;obtain ⟨o1,o2,o3⟩:=nr.1 (HQ.ord rooms rm rfl);have HRo:=Oi (HQ.ord rooms rm rfl);have HO3:=Oi o3;rw [o3] at hv ho;have K5:=HQ.cr;have B5:=HQ.bel;have q5:=K5.cell 0;simp only [List.getElem?_cons_zero] at q5;have hgl:gB<w5.heap.size:=hv.lt;have hgw:w.heap.size<gB:=by rw [hgB];exact hs2
 have RO:=Oi (ay ho (Nat.le_refl _));have HK5:=Oi K5;have HE5:=Oi hv;have HB5:=Oi B5;clear LP1 q0 HQ hv ho K5 B5 o1 o2 o3 h0 hgB hs2
 go_wp2_with (at_make;refine ic _ rfl _ _ 24 rfl 2 (.int .i64 0) 8 Tryz.underlying24 aZ rfl _ _ P rfl rfl (by omega) (by unfold maxLen;omega) ?_)
 intro w6 hb6 hw6 hs6;obtain ⟨gR,hgR⟩:∃ g,g=w5.heap.size:=⟨_,rfl⟩;have HS6:Hid (RwS w gB gR g c P [.int .i64 P,.int .i64 P,.slice aV xV.length cV] rooms (rO P xV rooms 0) w6):=by
  refine ⟨HK5.out.below hw6 HK5.out.lt,HE5.out.below hw6 hgl,?_,?_,HB5.out.trans (hw6.mono HB5.out.size),⟨hgw,by rw [hgR];exact hgl⟩,by rw [hgR];omega⟩
  · rw [hgR];exact RO.out.below hw6 (Nat.le_refl _)
  · rw [hgR];rw [rO,← gd];exact hb6
 rw [← hgR];have q6:w6.cell? ⟨w.heap.size,0,none⟩=some (.int .i64 P):=HS6.out.K.cell 0;clear hb6 hw6 hs6 HK5 HE5 HB5 RO hgl hgw hgR q5;have RL:=Oi (fun t=>BD P xV rooms t)
 go_wp2_with fail;clear q6
 go_loopw [33] (fun iv wr=>∃ t:Nat,t≤P∧iv=.int .i64 t∧Hid (RwS w gB gR g c P [.int .i64 P,.int .i64 P,.slice aV xV.length cV] rooms (rO P xV rooms t) wr)) (fun iv _=>P - (intOf iv).toNat)
 case atStart=>exact ⟨0,Nat.zero_le _,rfl,HS6.out⟩
 case round =>
  clear HS6;obtain ⟨t,ht,rfl,HS⟩:=hrel;have t0:(0:Int)≤(t:Int):=Int.natCast_nonneg _
  by_cases hlt:t<P
  · have hti:(t:Int)<(P:Int):=by omega
    go_wp2_with fail
    go_loopw [37] (fun jv wr=>∃ j:Nat,j≤P∧jv=.int .i64 j∧Hid (RwS w gB gR g c P [.int .i64 P,.int .i64 P,.slice aV xV.length cV] rooms (rJ P xV rooms (rO P xV rooms t) j) wr)) (fun jv _=>P - (intOf jv).toNat)
    case atStart=>exact ⟨0,Nat.zero_le _,rfl,HS.out⟩
    case round =>
     clear HS;obtain ⟨j,hj,rfl,HS⟩:=hrel;have j0:(0:Int)≤(j:Int):=Int.natCast_nonneg _
     by_cases hjl:j<P
     · have hji:(j:Int)<(P:Int):=by omega
       have q7:wr.cell? ⟨gB,0,none⟩=some (.slice (some ⟨g,0,none⟩) P c):=HS.out.E.cell 0;go_wp2_with fail;clear q7
       go_loopw [42] (fun kv wx=>∃ k:Nat,k≤P∧kv=.int .i64 k∧Hid (RwS w gB gR g c P [.int .i64 P,.int .i64 P,.slice aV xV.length cV] rooms (rI P xV rooms (rJ P xV rooms (rO P xV rooms t) j) j k) wx)) (fun kv _=>P - (intOf kv).toNat)
       case atStart=>exact ⟨0,Nat.zero_le _,rfl,HS.out⟩
       case round =>
        clear HS;obtain ⟨k,hk,rfl,HS⟩:=hrel;have k0:(0:Int)≤(k:Int):=Int.natCast_nonneg _
        by_cases hkl:k<P
        · have hki:(k:Int)<(P:Int):=by omega
          obtain ⟨m,hm,hmP⟩:=KM HRo.out hkl;obtain ⟨b,o,hga,hbb,hcj⟩:=HS.out.R.at (k:=k) (by rw [HO3.out];exact hkl)
          injection hga with hga
          injection hga with hg1 hg2
          subst hg1 hg2;have hck:=hcj k (by rw [HO3.out];exact hkl)
          rw [hm,Nat.zero_add] at hck;have m0:(0:Int)≤(m:Int):=Int.natCast_nonneg _;have hmi:(m:Int)<(P:Int):=by omega
          have hZ:=FP (n:=P) (rooms:=rooms) HBV.out (by omega) (FQ (n:=P) (rooms:=rooms) HBV.out (by omega) (FT (n:=P) (rooms:=rooms) HBV.out p6 t) p6 j) j k
          have hlen:(rI P xV rooms (rJ P xV rooms (rO P xV rooms t) j) j k).length=P:=by rw [BA,BC,BD]
          have hstep:rI P xV rooms (rJ P xV rooms (rO P xV rooms t) j) j (k+1)=(rI P xV rooms (rJ P xV rooms (rO P xV rooms t) j) j k).set j (max ((rI P xV rooms (rJ P xV rooms (rO P xV rooms t) j) j k).getD j 0) ((rI P xV rooms (rJ P xV rooms (rO P xV rooms t) j) j k).getD m 0+iy P xV k j - iy P xV k m)):=by
           rw [rI,hm,Int.toNat_natCast]
          obtain ⟨z0,z1⟩:=hZ.get (by omega) j
          obtain ⟨y0,y1⟩:=hZ.get (by omega) m
          obtain ⟨v0,v1⟩:=mE (T:=P) HBV.out k j;obtain ⟨u0,u1⟩:=mE (T:=P) HBV.out k m;have HST:=Oi hstep;obtain ⟨rc,hrc⟩:∃ rc,rc=rI P xV rooms (rJ P xV rooms (rO P xV rooms t) j) j k:=⟨_,rfl⟩;rw [← hrc] at HS HST z0 z1 y0 y1 hlen;have ca:=HS.out.r.at (k:=j) (by rw [hlen];exact hjl)
          have cb:=HS.out.r.at (k:=m) (by rw [hlen];exact hmP)
          have fa:=HS.out.r.free j;have HN:=Oi (fun (wy:World) (hb:Below wr.heap.size wr wy) x=>(HS.out.same hb).set j x)
          have HFR:=Oi (fun (wy:World) (hb:Below wr.heap.size wr wy)=>(HS.out.same hb).r.free j)
          have HJ:Hid (∀ v,Below wr.heap.size wr v→v.cell? ⟨w.heap.size,0,none⟩=some (.int .i64 P)∧v.cell? ⟨w.heap.size,1,none⟩=some (.int .i64 P)∧v.cell? ⟨w.heap.size,2,none⟩=some (.slice aV xV.length cV)∧v.cell? ⟨gR,j,none⟩=some (.int .i64 (rc.getD j 0))∧v.cell? ⟨gR,m,none⟩=some (.int .i64 (rc.getD m 0))∧v.frozen? ⟨gR,j,none⟩=false):=fun v hb=>⟨(HS.out.same hb).K.cell 0,(HS.out.same hb).K.cell 1,(HS.out.same hb).K.cell 2,(HS.out.same hb).r.at (by rw [hlen];exact hjl),(HS.out.same hb).r.at (by rw [hlen];exact hmP),(HS.out.same hb).r.free j⟩
          obtain ⟨q0,q1,q2,q3,q4,q5⟩:=HJ.out wr (Below.refl _ _);have L1:=Oi (fun v (hb:Below w.heap.size w v)=>qe v P P k j aV cV xV (HV.out.to hb) (by rw [HLV.out];exact dH hkl hjl) (by rw [HLV.out];omega))
          have L2:=Oi (fun v (hb:Below w.heap.size w v)=>qe v P P k m aV cV xV (HV.out.to hb) (by rw [HLV.out];exact dH hkl hmP) (by rw [HLV.out];omega))
          have HJB:Hid (∀ v,Below wr.heap.size wr v→v.cell? ⟨w.heap.size,0,none⟩=some (.int .i64 P)∧v.cell? ⟨w.heap.size,1,none⟩=some (.int .i64 P)∧v.cell? ⟨w.heap.size,2,none⟩=some (.slice aV xV.length cV)):=fun v hb=>⟨(HS.out.same hb).K.cell 0,(HS.out.same hb).K.cell 1,(HS.out.same hb).K.cell 2⟩
          have HJS:Hid (∀ v,Below wr.heap.size wr v→∀ x,(v.setCell ⟨gR,j,none⟩ (.int .i64 x)).cell? ⟨w.heap.size,0,none⟩=some (.int .i64 P)∧(v.setCell ⟨gR,j,none⟩ (.int .i64 x)).cell? ⟨w.heap.size,1,none⟩=some (.int .i64 P)∧(v.setCell ⟨gR,j,none⟩ (.int .i64 x)).cell? ⟨w.heap.size,2,none⟩=some (.slice aV xV.length cV)):=fun v hb x=>⟨((HS.out.same hb).set j x).K.cell 0,((HS.out.same hb).set j x).K.cell 1,((HS.out.same hb).set j x).K.cell 2⟩
          have HBX:=Oi HS.out.B;clear hcj hZ hlen hstep hrc hm ca cb HS;generalize rc.getD j 0=A at *
          generalize rc.getD m 0=B at *
          generalize iy P xV k j=V at *
          generalize iy P xV k m=U at *
          have HD:=Oi (aq (Below.refl wr.heap.size wr));have HDw:=Oi (aa HBX.out HD.out);have ew:IntKind.i64.wrap (IntKind.i64.wrap (B+V) - U)=B+V - U:=by rw [IntWalk.i64_in (B+V) (by omega)];exact IntWalk.i64_in _ (by omega)
          go_wp2_with fail;clear HJB HJS HFR q0 q1 q2 q3 q4 q5;refine KK wr w.heap.size gR P j k m xV.length cV aV A B V U _ j0 hji m0 hmi k0 hki p6 HJ (fun v hb=>L1.out v (aa HBX.out hb)) (fun v hb=>L2.out v (aa HBX.out hb)) ?_
          intro y47 y48 y49 y50 y51 y52 y53 y54 y55 y56 y57 y58 y59 y60 y61 y62 y63 y64 y65 y66 y67 y68 w1 x hx hb1;subst hx;have HN1:=Oi (HN.out w1 hb1);clear HJ L1 L2 HD HDw HBX HN hb1;go_wp2_with fail;go_roundw
          case rel=>exact ⟨k+1,by omega,by go_num,by rw [Hid,HST.out,← ew];exact HN1.out _⟩
          case measure=>simp [intOf];omega
        · obtain rfl:k=P:=by omega
          go_wp2_with fail;go_roundw
          case rel=>exact ⟨j+1,by omega,by go_num,HS.out⟩
          case measure=>simp [intOf];omega
     · obtain rfl:j=P:=by omega
       go_wp2_with fail;go_roundw
       case rel=>exact ⟨t+1,by omega,by go_num,HS.out⟩
       case measure=>simp [intOf];omega
  · have htP:P=t:=by omega
    subst htP;have hrl:(rO P xV rooms P).length=P:=RL.out P;have hrb:=FT (n:=P) (rooms:=rooms) HBV.out p6 P;have hrb:InZ 216000 (rO P xV rooms P):=hrb.mono (by omega)
    obtain ⟨rr,hrr⟩:∃ l,l=rO P xV rooms P:=⟨_,rfl⟩;rw [← hrr] at HS hrl hrb ⊢;obtain ⟨ws0,ws1,ws2⟩:=Er rr 216000 (by omega) (fun x hx=>by have:=hrb x hx;omega) (by omega)
    have hwb:-1296000≤lZ rr∧lZ rr≤1296000:=by rw [ws0];rw [hrl] at ws1 ws2;omega
    have HRB:=Oi (fun k=>InZ.get hrb (by omega) k)
    have LS:=Oi (fun (v:World) (hg:Blk v gR (ae rr) 2)=>yw v (some ⟨gR,0,none⟩) P rr (fD hg) (by omega))
    rw [hrl] at LS;obtain ⟨s,hs⟩:∃ s,s=lZ rr:=⟨_,rfl⟩;rw [← hs] at LS hwb;have HPR:Hid (∀ k,k<P→iq P total rr (k+1)=iq P total rr k ++ [rr.getD k 0 * (P:Int)+total - s]):=fun k hk=>by
     have e:=List.take_add_one (i:=k) (l:=rr);rw [List.getElem?_eq_getElem (by omega)] at e
     unfold iq;rw [e,List.map_append,hs,List.getD_eq_getElem?_getD,List.getElem?_eq_getElem (by omega)]
     rfl
    have HPL:Hid (∀ k,k≤P→(iq P total rr k).length=k):=fun k hk=>by unfold iq;rw [List.length_map,List.length_take];omega
    have HP0:Hid (iq P total rr 0=[]):=by rw [Hid];unfold iq;rfl
    obtain ⟨T0,hT0⟩:∃ T,T=wr.heap.size:=⟨_,rfl⟩;have hgT:gR<T0:=by rw [hT0];exact HS.out.sz
    have HS1:=Oi (HS.out.same (ai wr (.cells #[] 2)));have HO1:=Oi (bz wr 2);have hT1:T0≤(wr.alloc (.cells #[] 2)).heap.size:=by rw [hT0];simp
    have HTT:=Oi hT0;have HRR:=Oi hrr;clear hrr hrb hs ws0 ws1 ws2 HS RL hT0;go_wp2_with fail
    go_loopw [13,75] (fun pv kv wx=>∃ (k:Nat) (aC:Option Addr) (cC:Nat),k≤P∧pv=.slice aC k cC∧kv=.int .i64 k∧Hid (RwS w gB gR g c P [.int .i64 P,.int .i64 P,.slice aV xV.length cV] rooms rr wx)∧Hid (wx.ownsRow T0 2 1 (.slice aC k cC) k (ae (iq P total rr k)))∧T0≤wx.heap.size) (fun _ kv _=>P - (intOf kv).toNat)
    case atStart=>exact ⟨0,_,0,Nat.zero_le _,rfl,rfl,HS1.out,by rw [HP0.out,HTT.out];exact HO1.out,hT1⟩
    case round =>
     clear HS1 HO1 hT1;obtain ⟨k,aC,cC,hk,rfl,rfl,HS,HO,hTs⟩:=hrel;have k0:(0:Int)≤(k:Int):=Int.natCast_nonneg _
     by_cases hkl:k<P
     · have hki:(k:Int)<(P:Int):=by omega
       have ck:=HS.out.r.at (k:=k) (by rw [hrl];exact hkl)
       have q0:wr.cell? ⟨w.heap.size,0,none⟩=some (.int .i64 P):=HS.out.K.cell 0;have HX:=HPR.out k hkl;have hll:=HPL.out k hk;obtain ⟨b0,b1⟩:=HRB.out k;obtain ⟨x,hx⟩:∃ x,x=rr.getD k 0:=⟨_,rfl⟩;rw [← hx] at ck HX b0 b1;have xp0:0≤x * (P:Int):=Int.mul_nonneg b0 (by omega)
       have xp1:x * (P:Int)≤216000 * 6:=Int.mul_le_mul b1 (by omega) (by omega) (by omega)
       have ew:IntKind.i64.wrap (IntKind.i64.wrap (IntKind.i64.wrap (x * (P:Int))+total) - s)=x * (P:Int)+total - s:=by
        rw [IntWalk.i64_in (x * (P:Int)) (by omega),IntWalk.i64_in (x * (P:Int)+total) (by omega)]
        exact IntWalk.i64_in _ (by omega)
       obtain ⟨l,hl⟩:∃ l,l=iq P total rr k:=⟨_,rfl⟩;rw [← hl] at HO HX hll;have HX:=Oi HX;have EW:=Oi ew;have HD:=Oi (aq (Below.refl wr.heap.size wr));have LS1:=Oi (LS.out wr.drew (HS.out.same HD.out).r);have hOD:=aD HO.out HD.out;have hT6:T0≤wr.drew.heap.size:=Nat.le_trans hTs HD.out.size;have k64:k≤6:=by omega
       clear hx hl hll ew b0 b1 xp0 xp1;go_wp2_with fail
       go_region_law
        ((first
          | (go_simp;with_reducible refine LS1.out.mono ?_;rintro e w6 ⟨rfl,rfl⟩;dsimp only)
          | (refine fc (wr:=wr.drew) (by rfl) _ _ 24 (by rfl) T0 2 (.int .i64 0) 8 Tryz.underlying24 aZ (by rfl) _ k (ae l) (by rfl) hOD _ rfl (by rfl) (by decide) (by omega) hT6 ?_;intro g8 c8 w8 ho8 hg8 hn8;have hb8:Below T0 wr w8:=(HD.out.mono hTs).trans (ah (Below.refl T0 wr.drew) hOD hg8 (Nat.le_refl _) hT6))))
       all_goals
        have HS8:=Oi (HS.out.below hb8 hgT hTs);have hT8:T0≤w8.heap.size:=Nat.le_trans hTs hb8.size;rw [EW.out] at ho8;have HO8:Hid (w8.ownsRow T0 2 1 (.slice (some ⟨g8,0,none⟩) (k+1) c8) (k+1) (ae (iq P total rr (k+1)))):=by
         rw [HX.out,bk];exact ho8
        clear ho8 hg8 hn8 hb8 hOD hT6 LS1 HD;go_wp2_with fail;go_roundw
        case rel=>exact ⟨k+1,some ⟨g8,0,none⟩,c8,by omega,by rfl,by go_num,HS8.out,HO8.out,hT8⟩
        case measure=>simp [intOf];omega
     · have hkP:P=k:=by omega
       subst hkP;have qE:wr.cell? ⟨gB,0,none⟩=some (.slice (some ⟨g,0,none⟩) P c):=HS.out.E.cell 0;have hll:=HPL.out P (Nat.le_refl _);go_wp2_with fail;go_ret3;refine ⟨HS.out.B,?_⟩
       rw [← HRR.out];refine ⟨some ⟨g,0,none⟩,c,aC,cC,?_,HS.out.R.mono (Nat.le_of_lt HS.out.sz),ay HO.out (Nat.le_refl _)⟩
       rw [HO3.out,hll]
       rfl
theorem vY {w:World} (ht:Tab w) (ok:Bool) (xs ys:List Int) (hl:xs.length≤1048576) (hl2:ys.length≤1048576) (w1:World) (hb:Below w.heap.size w w1) (a:Option Addr) (c:Nat) (h:Rd w1 w1.heap.size a (ae xs)) (a2:Option Addr) (c2:Nat) (h2:Rd w1 w1.heap.size a2 (ae ys)) :
 Calls Tryz.prog 102 #[.bool ok,.slice (some ⟨w1.heap.size,0,none⟩) 2 2] (w1.alloc (.cells #[.slice a xs.length c,.slice a2 ys.length c2] 24)) (kH (if ok=true then eE [xs,ys] else none) w):=by
 have B1:=ai w1 (.cells #[.slice a xs.length c,.slice a2 ys.length c2] 24);have B2:=aa hb B1;refine (gK (w1.alloc (.cells #[.slice a xs.length c,.slice a2 ys.length c2] 24)) (ht.to B2) ok (some ⟨w1.heap.size,0,none⟩) 2 [xs,ys] (L7 (Blk.new w1 [.slice a xs.length c,.slice a2 ys.length c2] 24) (h.to B1) (h2.to B1)) (by simp) (fun x hx=>by simp at hx;rcases hx with rfl | rfl <;> assumption)).mono ?_
 rintro e w2 ⟨hb2,rfl⟩;exact ⟨aa B2 hb2,rfl⟩
def iX (r:Option (List Int × List Int)):Option (List UInt8):=match r with
 | none=>none
 | some (x,y)=>eE [x,y]
def jL (t:List UInt8) (f:Int→DD→Option (List UInt8)) (d:DD):il:=some (match eF t with | none=>none | some n=>(f n d).map fun s=>(d,s))
theorem Ht {R C:Nat} {xA xB x y:List Int} {n:Int} (h:ip R C xA xB n=some (x,y)):x.length=R∧y.length=C:=by
 unfold ip at h
 split at h
 · injection h with h
   have:=rK R C xA (aG R C xB (C * R)) (n - 1).toNat;rw [h] at this;exact ⟨this.1,this.2.1⟩
 · cases h
theorem KF {P T:Nat} {xs x y:List Int} {n:Int} (h:gX P T xs n=some (x,y)):y.length≤P:=by
 unfold gX at h
 split at h
 · cases hr:li P xs (dt P P []) with
   | none=>rw [hr] at h;cases h
   | some p =>
     obtain ⟨b,m⟩:=p;rw [hr] at h;injection h with h
     injection h with h1 h2
     subst h2;simp [iq,List.length_take];omega
 · cases h
def qg:List UInt8:=[108,101,97,114,110]
theorem Gq {t:List UInt8} (ht:t.length≤1048576):js qg t (jL t fun n d=>iX (ip d.R.toNat d.C.toNat d.A d.B n)):=by
 intro w b d x lo hlo hlx hE hok hca hB hR0;have hR:DRd w w.heap.size d x:=hR0.mono (Nat.le_of_lt hB.lt);have hts:(bs t).size≤1048576:=by rw [aE];exact ht
 have htl:(bs t).data.toList=t:=cu t;have LG:=Oi (jO w hE.tab hE.err (bs t) hts);rw [htl] at LG;unfold jL;obtain ⟨hg,hv,hc,htn⟩:=DD.ok_parts hok;obtain ⟨dR,dC,A,B,P,T,V,U,N,W,K,F⟩:=d;obtain ⟨R,C,e1,e2,r1,r6,c1,c6,lA,lB,-,-⟩:=eH hg;dsimp only at e1 e2 r1 r6 c1 c6 lA lB hg;subst e1 e2;dsimp only [Int.toNat_natCast];have LC:=Oi (fun n v (hb:Below w.heap.size w v)=>Hr v R C x.a x.ca A x.b x.cb B n hg (hR.r.A.to hb) (hR.r.B.to hb))
 have HL:=Oi (fun n l1 l2 (e:ip R C A B n=some (l1,l2))=>(have h:=Ht e;(show l1.length≤1048576∧l2.length≤1048576 from ⟨by omega,by omega⟩)))
 generalize eF t=r at LG ⊢;have HB:=Oi hB;have HLX:=Oi hlx;have HLO:=Oi hlo;have HR:=Oi hR;have HT:=Oi hE.tab;clear hlx hlo hB hR hR0 hE hok hca ht hts hg hv hc htn r1 r6 c1 c6 lA lB;obtain ⟨s,hs⟩:∃ s:ByteArray,s=bs qg:=⟨_,rfl⟩;have t_game:(s.toList == [103,97,109,101])=false:=by rw [hs,ab];rfl
 have t_values:(s.toList == [118,97,108,117,101,115])=false:=by rw [hs,ab];rfl
 have t_crowd:(s.toList == [99,114,111,119,100])=false:=by rw [hs,ab];rfl
 have t_turns:(s.toList == [116,117,114,110,115])=false:=by rw [hs,ab];rfl
 have t_learn:(s.toList == [108,101,97,114,110])=true:=by rw [hs,ab];rfl
 rw [← hs];clear hs;obtain ⟨z,hz⟩:∃ z:ByteArray,z=bs t:=⟨_,rfl⟩;rw [← hz] at LG ⊢;clear hz htl
 go_enter Tryz.func99,Tryz.ntmps99;go_wp2_with fail
 cases r with
 | none =>
   simp only [Option.getD_none,Option.isSome_none] at LG;refine LG.out.mono ?_;rintro e w1 ⟨rfl,hb⟩;have hbb:=Oi hb;clear hb LC HL;go_wp2_with fail;go_ret3;exact RetAl.no _ (Below.touch hbb.out _ _)
 | some n =>
   simp only [Option.getD_some,Option.isSome_some] at LG;refine LG.out.mono ?_;rintro e w1 ⟨rfl,hb⟩;have L:=LC.out n w1 hb;obtain ⟨y0,y1,y2,y3,y4,y5,y6,y7,y8,y9,y10,y11⟩:=af (HB.out.same hb);dsimp only at y0 y1 y2 y3 y4 y5 y6 y7 y8 y9 y10 y11;unfold zl at L;obtain ⟨q,hq⟩:∃ q,q=ip R C A B n:=⟨_,rfl⟩;rw [← hq] at L;have L:=Oi L;have HQ:=Oi hq;have hbb:=Oi hb;clear hb hq LC LG;go_wp2_with fail;refine L.out.mono ?_
   cases q with
   | none =>
     rintro e w2 ⟨hb2,rfl⟩;have LT1:=vY HT.out false [] [] (by simp) (by simp) w2 (aa hbb.out hb2) none 0 (.inl rfl) none 0 (.inl rfl)
     rw [if_neg (by decide),List.length_nil] at LT1
     have LT1:=Oi LT1;clear hb2 y0 y1 y2 y3 y4 y5 y6 y7 y8 y9 y10 y11 L HL;go_wp2_with fail;refine LT1.out.mono ?_;rintro e w3 ⟨hb3,rfl⟩;have HB3:=Oi hb3;clear hb3;go_wp2_with fail;go_ret3;have e:=HQ.out
     show RetAl lo b w (some ((iX (ip R C A B n)).map fun s=>_)) _ _
     rw [← e];exact RetAl.text (iX none) HB3.out HB.out HR.out HLX.out
   | some p =>
     obtain ⟨l1,l2⟩:=p;rintro e w2 ⟨hb2,a2,c2,a3,c3,rfl,r2,r3⟩;obtain ⟨n1,n2⟩:=HL.out n l1 l2 HQ.out.symm;have LT1:=vY HT.out true l1 l2 n1 n2 w2 (aa hbb.out hb2) a2 c2 r2 a3 c3 r3;rw [if_pos rfl] at LT1;have LT1:=Oi LT1;clear hb2 y0 y1 y2 y3 y4 y5 y6 y7 y8 y9 y10 y11 L HL r2 r3 n1 n2;generalize hT:eE [l1,l2]=tx at *
     have HTX:=Oi hT;clear hT;go_wp2_with fail;refine LT1.out.mono ?_;rintro e w3 ⟨hb3,rfl⟩;have HB3:=Oi hb3;clear hb3;go_wp2_with fail;go_ret3;have e:=HQ.out
     show RetAl lo b w (some ((iX (ip R C A B n)).map fun s=>_)) _ _
     rw [← e]
     show RetAl lo b w (some ((eE [l1,l2]).map fun s=>_)) _ _
     rw [HTX.out];exact RetAl.text tx HB3.out HB.out HR.out HLX.out
def tp:List UInt8:=[114,101,110,116]
theorem Jw {t:List UInt8} (ht:t.length≤1048576):js tp t (jL t fun n d=>iX (gX d.P.toNat d.T.toNat d.V n)):=by
 intro w b d x lo hlo hlx hE hok hca hB hR0;have hR:DRd w w.heap.size d x:=hR0.mono (Nat.le_of_lt hB.lt);have hts:(bs t).size≤1048576:=by rw [aE];exact ht
 have htl:(bs t).data.toList=t:=cu t;have LG:=Oi (jO w hE.tab hE.err (bs t) hts);rw [htl] at LG;unfold jL;obtain ⟨hg,hv,hc,htn⟩:=DD.ok_parts hok;obtain ⟨R,C,A,B,dP,dT,V,U,N,W,K,F⟩:=d;obtain ⟨P,T,e1,e2,p1,p6,t1,t8,lV,-⟩:=db hv;dsimp only at e1 e2 p1 p6 t1 t8 lV hv;subst e1 e2;dsimp only [Int.toNat_natCast];have LC:=Oi (fun n v (hb:Below w.heap.size w v)=>FZ v P T x.v x.cv V n hv (hR.r.V.to hb))
 have HL:=Oi (fun n l1 l2 (e:gX P T V n=some (l1,l2))=>(have h:=KF e;have h2:=IU e p1 p6;(show l1.length≤1048576∧l2.length≤1048576 from ⟨by omega,by omega⟩)))
 generalize eF t=r at LG ⊢;have HB:=Oi hB;have HLX:=Oi hlx;have HLO:=Oi hlo;have HR:=Oi hR;have HT:=Oi hE.tab;clear hlx hlo hB hR hR0 hE hok hca ht hts hg hv hc htn p1 p6 t1 t8 lV;obtain ⟨s,hs⟩:∃ s:ByteArray,s=bs tp:=⟨_,rfl⟩;have t_game:(s.toList == [103,97,109,101])=false:=by rw [hs,ab];rfl
 have t_values:(s.toList == [118,97,108,117,101,115])=false:=by rw [hs,ab];rfl
 have t_crowd:(s.toList == [99,114,111,119,100])=false:=by rw [hs,ab];rfl
 have t_turns:(s.toList == [116,117,114,110,115])=false:=by rw [hs,ab];rfl
 have t_learn:(s.toList == [108,101,97,114,110])=false:=by rw [hs,ab];rfl
 have t_rent:(s.toList == [114,101,110,116])=true:=by rw [hs,ab];rfl
 rw [← hs];clear hs;obtain ⟨z,hz⟩:∃ z:ByteArray,z=bs t:=⟨_,rfl⟩;rw [← hz] at LG ⊢;clear hz htl
 go_enter Tryz.func99,Tryz.ntmps99;go_wp2_with fail
 cases r with
 | none =>
   simp only [Option.getD_none,Option.isSome_none] at LG;refine LG.out.mono ?_;rintro e w1 ⟨rfl,hb⟩;have hbb:=Oi hb;clear hb LC HL;go_wp2_with fail;go_ret3;exact RetAl.no _ (Below.touch hbb.out _ _)
 | some n =>
   simp only [Option.getD_some,Option.isSome_some] at LG;refine LG.out.mono ?_;rintro e w1 ⟨rfl,hb⟩;have L:=LC.out n w1 hb;obtain ⟨y0,y1,y2,y3,y4,y5,y6,y7,y8,y9,y10,y11⟩:=af (HB.out.same hb);dsimp only at y0 y1 y2 y3 y4 y5 y6 y7 y8 y9 y10 y11;unfold zl at L;obtain ⟨q,hq⟩:∃ q,q=gX P T V n:=⟨_,rfl⟩;rw [← hq] at L;have L:=Oi L;have HQ:=Oi hq;have hbb:=Oi hb;clear hb hq LC LG;go_wp2_with fail;refine L.out.mono ?_
   cases q with
   | none =>
     rintro e w2 ⟨hb2,rfl⟩;have LT1:=vY HT.out false [] [] (by simp) (by simp) w2 (aa hbb.out hb2) none 0 (.inl rfl) none 0 (.inl rfl)
     rw [if_neg (by decide),List.length_nil] at LT1
     have LT1:=Oi LT1;clear hb2 y0 y1 y2 y3 y4 y5 y6 y7 y8 y9 y10 y11 L HL;go_wp2_with fail;refine LT1.out.mono ?_;rintro e w3 ⟨hb3,rfl⟩;have HB3:=Oi hb3;clear hb3;go_wp2_with fail;go_ret3;have e:=HQ.out
     show RetAl lo b w (some ((iX (gX P T V n)).map fun s=>_)) _ _
     rw [← e];exact RetAl.text (iX none) HB3.out HB.out HR.out HLX.out
   | some p =>
     obtain ⟨l1,l2⟩:=p;rintro e w2 ⟨hb2,a2,c2,a3,c3,rfl,r2,r3⟩;obtain ⟨n1,n2⟩:=HL.out n l1 l2 HQ.out.symm;have LT1:=vY HT.out true l1 l2 n1 n2 w2 (aa hbb.out hb2) a2 c2 r2 a3 c3 r3;rw [if_pos rfl] at LT1;have LT1:=Oi LT1;clear hb2 y0 y1 y2 y3 y4 y5 y6 y7 y8 y9 y10 y11 L HL r2 r3 n1 n2;generalize hT:eE [l1,l2]=tx at *
     have HTX:=Oi hT;clear hT;go_wp2_with fail;refine LT1.out.mono ?_;rintro e w3 ⟨hb3,rfl⟩;have HB3:=Oi hb3;clear hb3;go_wp2_with fail;go_ret3;have e:=HQ.out
     show RetAl lo b w (some ((iX (gX P T V n)).map fun s=>_)) _ _
     rw [← e]
     show RetAl lo b w (some ((eE [l1,l2]).map fun s=>_)) _ _
     rw [HTX.out];exact RetAl.text tx HB3.out HB.out HR.out HLX.out
theorem Cm (s:List UInt8) (t:List UInt8) (h:s≠[103,97,109,101]∧s≠[118,97,108,117,101,115]∧s≠[99,114,111,119,100]∧s≠[116,117,114,110,115]∧s≠[108,101,97,114,110]∧s≠[114,101,110,116]∧s≠[116,97,107,101]∧s≠[101,110,118,121]∧s≠[114,101,115,116]∧s≠[116,111,116,97,108]):js s t (fun _=>none):=by
 intro w b d x lo hlo hlx hE hok hca hB hR0;obtain ⟨h1,h2,h3,h4,h5,h6,h7,h8,h9,h10⟩:=h;have ne:∀ l:List UInt8,s≠l→((bs s).toList == l)=false:=fun l hl=>by
  rw [ab];exact beq_eq_false_iff_ne.2 hl
 have t1:=ne _ h1;have t2:=ne _ h2;have t3:=ne _ h3;have t4:=ne _ h4;have t5:=ne _ h5;have t6:=ne _ h6;have t7:=ne _ h7;have t8:=ne _ h8;have t9:=ne _ h9;have t10:=ne _ h10;clear ne h1 h2 h3 h4 h5 h6 h7 h8 h9 h10 hlo hlx hE hok hca hB hR0;generalize bs s=z at *
 generalize bs t=y
 go_enter Tryz.func99,Tryz.ntmps99;go_wp2_with fail;go_ret3;exact RetAl.what _ _ ⟨rfl,rfl,rfl,Nat.le_refl _,fun k hk _=>rfl⟩
end Go.Proofs.YtbknhgapjjaelaaGreatDoor
