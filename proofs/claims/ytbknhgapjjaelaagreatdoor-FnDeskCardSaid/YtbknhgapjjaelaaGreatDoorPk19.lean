/-
  Part 19 of what the proof stands on: lemmas and contracts, each with its conditions ahead of the colon.
-/
import Derived.Outline
import Derived.Laws.EntriesVeiled
import Derived.Test.YtbknhgapjjaelaaGreatDoorPk01
import Derived.Test.YtbknhgapjjaelaaGreatDoorPk03
import Derived.Test.YtbknhgapjjaelaaGreatDoorPk05
import Derived.Test.YtbknhgapjjaelaaGreatDoorPk18
set_option maxRecDepth 10000
set_option maxHeartbeats 8000000
namespace Go.Proofs.YtbknhgapjjaelaaGreatDoor
set_option linter.unusedVariables false
set_option linter.unusedSimpArgs false
open Go.RowKit
def bU:Option (Nat × Nat)→Int
 | none=>-1
 | some p=>p.1
def bK:Option (Nat × Nat)→Int
 | none=>0
 | some p=>p.2
theorem uk (xs:List Int) (u:Nat):xs.set u (xs.getD u 0)=xs:=by
 apply List.ext_getElem
 · simp
 · intro i h1 h2
   rw [List.getElem_set]
   split
   · rename_i e;subst e;simp [List.getD,List.getElem?_eq_getElem h2]
   · rfl
theorem uS (C:Cr) (ch:List Int) (f u:Nat):fK C ch (f+1) u=match vW C ch u with | some k=>some (u,k) | none=>fK C ch f (u+1):=rfl
def ng (C:Cr) (ch:List Int) (u k:Nat):Option Nat × Int:=jW (fun k=>df C (ch.set u (k:Int)) u) (df C ch u) k
theorem Du (C:Cr) (ch:List Int) (u k:Nat):ng C ch u (k+1)=if df C (ch.set u (k:Int)) u<(ng C ch u k).2 then (some k,df C (ch.set u (k:Int)) u) else ng C ch u k:=rfl
theorem IW {C:Cr} {ch:List Int} {u:Nat} {k n q:Nat} (h:(ng C ch u n).1=some k) (hq:ch.getD u 0=q):k≠q:=by
 have:=(rB (fun k=>df C (ch.set u (k:Int)) u) (df C ch u) n).1
 unfold ng at h;rw [h] at this;intro e;subst e;have h3:=this.2.2
 try simp only at h3
 rw [← hq,uk] at h3;omega
def Dp (o:Option Nat) (q:Nat):Nat:=o.getD q
theorem uP (w:World) (U:Int) (n:Nat) (a2:Option Addr) (c2:Nat) (x2:List Int) (a3:Option Addr) (c3:Nat) (x3:List Int) (a:Option Addr) (c:Nat) (ch:List Int) (h:RdCrowd w w.heap.size a2 x2 a3 x3) (g:Rd w w.heap.size a (ae ch)) (hc:Can ⟨U,n,x2,x3⟩ ch) :
 Calls Tryz.prog 227 #[.agg #[.int .i64 U,.int .i64 n,.slice a2 x2.length c2,.slice a3 x3.length c3],.slice a ch.length c] w fun e w'=>e=.returned (.tuple #[.int .i64 (bU (cQ ⟨U,n,x2,x3⟩ ch)),.int .i64 (bK (cQ ⟨U,n,x2,x3⟩ ch))])∧Below w.heap.size w w':=by
 have hUl:(ch.length:Int)=U:=hc.len;have hU8:ch.length≤8:=by have:=hc.v.u8;simp only at this;omega
 have hU1:1≤ch.length:=by have:=hc.v.u1;simp only at this;omega
 have hw8:x2.length≤8:=hc.v.w8;have LCl:=Na (fun w' hb=>ej w' a c ch (g.to hb) hU1 (by omega))
 have LP:=Na (fun (w':World) (g':Nat) (tl:List Value) (cc u wy:Nat) (hA:Blk w' g' (ae ch ++ tl) 2) (hB:w.heap.size≤g') (hb:Below w.heap.size w w') (hu:u<ch.length) (hw:wy<x2.length)=>yX w' w.heap.size g' tl U n a2 c2 x2 a3 c3 x3 cc ch u wy hA hB (h.below hb (Nat.le_refl _)) hc hu hw)
 have HM:Hid (∀ x∈ch,0≤x∧x<(x2.length:Int)):=hc.mem;have Hg:=Na g;have Hpb:Hid (∀ ch' u,-800000≤df ⟨U,n,x2,x3⟩ ch' u∧df ⟨U,n,x2,x3⟩ ch' u≤800000):=fun ch' u=>wH hc.v ch' u
 have Hul:=Na hUl;have Hway:Hid (∀ u,vW ⟨U,n,x2,x3⟩ ch u=(ng ⟨U,n,x2,x3⟩ ch u x2.length).1):=fun u=>rfl
 clear h g hc hUl;generalize hC:(⟨U,(n:Int),x2,x3⟩:Cr)=C at *
 clear hC;have Hstart:Hid (cQ C ch=fK C ch ch.length 0):=rfl
 go_enter Tryz.func227,Tryz.ntmps227;go_wp2_with fail;refine (LCl.out _ (ah _ _)).mono ?_;rintro e w1 ⟨a1,c1,rfl,o1,hb1⟩;obtain ⟨go,tl,rfl,hgo,hbg,hcc,hccm,hcl⟩:=lG o1.1 (by omega)
 have hgo':w.heap.size<go:=by simp at hgo;omega
 have kA:=(Blk.new w [.int .i64 U,.int .i64 n,.slice a2 x2.length c2,.slice a3 x3.length c3] 30).same hb1;have B1:=aa (ah w (.cells #[.int .i64 U,.int .i64 n,.slice a2 x2.length c2,.slice a3 x3.length c3] 30)) hb1;have KA:=Na kA;have KG:=Na hbg;clear o1 hb1 kA hbg LCl;go_wp2_with fail
 go_loopw [17] (fun i wr=>∃ k:Nat,k≤ch.length∧i=.int .i64 k∧Hid (cQ C ch=fK C ch (ch.length - k) k)∧Hid (Blk wr go (ae ch ++ tl) 2)∧Hid (Blk wr w.heap.size [.int .i64 U,.int .i64 n,.slice a2 x2.length c2,.slice a3 x3.length c3] 30)∧Below w.heap.size w wr) (fun i _=>ch.length - (intOf i).toNat)
 case atStart=>exact ⟨0,Nat.zero_le _,rfl,Hstart.out,KG.out,KA.out,B1⟩
 case round =>
  clear KA KG B1 Hstart;obtain ⟨k,hk,rfl,hbf,hG,hA,hw⟩:=hrel;have q0:=hA.out.cell 0;have q1:=hA.out.cell 1;have q2:=hA.out.cell 2;have q3:=hA.out.cell 3;simp only [List.getElem?_cons_zero,List.getElem?_cons_succ] at q0 q1 q2 q3
  by_cases hlt:k<ch.length
  · obtain ⟨b1,o1,x,rfl,hbb1,hck,hx⟩:=(Hg.out.below hw (Nat.le_refl _)).get hlt
    obtain ⟨x0,x8⟩:=HM.out x (List.mem_of_getElem? hx.out);obtain ⟨q,rfl⟩:∃ q:Nat,x=q:=⟨x.toNat,by omega⟩;have hq8:q<x2.length:=by (try simp only at x8);omega
    have Hxq:Hid (ch.getD k 0=q):=bZ hx.out;have LP1:=Na (LP.out wr go tl c1 k q hG.out (by omega) hw hlt hq8)
    have Hset:Hid (ch.set k (q:Int)=ch):=by show _=_;rw [← Hxq.out];exact uk ch k
    rw [Hset.out] at LP1;have hp0:=Hpb.out ch k;have Hl0:Hid ((ng C ch k 0).2=df C ch k∧(ng C ch k 0).1=none):=⟨rfl,rfl⟩;have Hfs:Hid (ch.length - k=(ch.length - (k+1))+1):=by show _=_;omega
    obtain ⟨p0,p1⟩:=hp0;clear hx;go_wp2_with fail;refine LP1.out.mono ?_;rintro e w2 ⟨rfl,hb2⟩;have hG2:=Na (hG.out.same hb2);have hA2:=Na (hA.out.same hb2);have hw2:=hw.trans (hb2.mono hw.size);have r2:=hA2.out.cell 2;simp only [List.getElem?_cons_zero,List.getElem?_cons_succ] at r2;clear hb2 hG hA LP1 q0 q1 q2 q3 hck hw;go_wp2_with fail
    go_loopw [31,9,10] (fun i bb ll wi=>∃ (j:Nat) (ob:Option Nat) (l:Int),j≤x2.length∧i=.int .i64 j∧bb=.int .i64 (Dp ob q:Nat)∧ll=.int .i64 l∧Hid (ng C ch k j=(ob,l))∧Hid (Blk wi go (ae ch ++ tl) 2)∧Hid (Blk wi w.heap.size [.int .i64 U,.int .i64 n,.slice a2 x2.length c2,.slice a3 x3.length c3] 30)∧Below w.heap.size w wi) (fun i _ _ _=>x2.length - (intOf i).toNat)
    case atStart=>exact ⟨0,none,_,Nat.zero_le _,rfl,rfl,rfl,rfl,hG2.out,hA2.out,hw2⟩
    case round =>
     clear hG2 hA2 hw2 r2 p0 p1;obtain ⟨j,ob,l,hj,rfl,rfl,rfl,hsc,hG,hA,hw⟩:=hrel;have q0:=hA.out.cell 0;have q1:=hA.out.cell 1;have q2:=hA.out.cell 2;have q3:=hA.out.cell 3;simp only [List.getElem?_cons_zero,List.getElem?_cons_succ] at q0 q1 q2 q3
     by_cases hlj:j<x2.length
     · have LP1:=Na (LP.out wr go tl c1 k j hG.out (by omega) hw hlt hlj)
       have hst:=Du C ch k j;rw [hsc.out] at hst;simp only at hst;obtain ⟨p0,p1⟩:=Hpb.out (ch.set k (j:Int)) k
       by_cases hlt2:df C (ch.set k (j:Int)) k<l
       · rw [if_pos hlt2] at hst
         have Hst:=Na hst;clear hst hsc;generalize df C (ch.set k (j:Int)) k=pj at *
         go_wp2_with fail;refine LP1.out.mono ?_;rintro e w3 ⟨rfl,hb3⟩;have hG3:=Na (hG.out.same hb3);have hA3:=Na (hA.out.same hb3);have hw3:=hw.trans (hb3.mono hw.size);clear hb3 hG hA LP1 q0 q1 q2 q3 hw;go_wp2_with fail;go_roundw
         case rel=>exact ⟨j+1,some j,pj,by omega,by go_num,rfl,rfl,Hst,hG3,hA3,hw3⟩
         case measure=>simp [intOf];omega
       · rw [if_neg hlt2] at hst
         have Hst:=Na hst;clear hst hsc;generalize df C (ch.set k (j:Int)) k=pj at *
         go_wp2_with fail;refine LP1.out.mono ?_;rintro e w3 ⟨rfl,hb3⟩;have hG3:=Na (hG.out.same hb3);have hA3:=Na (hA.out.same hb3);have hw3:=hw.trans (hb3.mono hw.size);clear hb3 hG hA LP1 q0 q1 q2 q3 hw;go_wp2_with fail;go_roundw
         case rel=>exact ⟨j+1,ob,l,by omega,by go_num,rfl,rfl,Hst,hG3,hA3,hw3⟩
         case measure=>simp [intOf];omega
     · have:j=x2.length:=by omega
       subst this;have hbs:=hbf.out;rw [Hfs.out,uS,Hway.out,hsc.out] at hbs;simp only at hbs
       cases ob with
       | none =>
         have HB2:=Na hbs;rw [show Dp none q=q from rfl]
         have hne:((q:Int) != (q:Int))=false:=by simp
         clear hbs hsc hbf q0 q1 q2 q3;go_wp2_with fail;go_roundw
         case rel=>exact ⟨k+1,by omega,by go_num,HB2,hG,hA,hw⟩
         case measure=>simp [intOf];omega
       | some kk =>
         rw [show Dp (some kk) q=kk from rfl]
         have hkq:kk≠q:=IW (n:=x2.length) (by rw [hsc.out]) Hxq.out
         have hne:((kk:Int) != (q:Int))=true:=by simp;omega
         have HR:Hid (bU (cQ C ch)=k∧bK (cQ C ch)=kk):=by show _∧_;rw [hbs];exact ⟨rfl,rfl⟩
         clear hbs hsc hbf hkq q0 q1 q2 q3;go_wp2_with fail
         go_ret2
         exact ⟨by rw [HR.out.1,HR.out.2];rfl,hw⟩
  · have:k=ch.length:=by omega
    subst this;have hbs:=hbf.out;rw [Nat.sub_self] at hbs;have HR:Hid (bU (cQ C ch) = -1∧bK (cQ C ch)=0):=by show _∧_;rw [hbs];exact ⟨rfl,rfl⟩
    clear hbs hbf q0 q1 q2 q3;go_wp2_with fail
    go_ret2
    exact ⟨by rw [HR.out.1,HR.out.2];rfl,hw⟩
theorem GO {U R:Int} {x2 x3 ch:List Int} (hc:Can ⟨U,R,x2,x3⟩ ch):∃ n:Nat,R=n:=⟨R.toNat,by have:=hc.v.r1;simp only at this;omega⟩
def RetT (T:Nat) (w:World) (r:Option (List Int × Int)) (e:Ending) (w':World):Prop :=
 Below w.heap.size w w'∧match r with
  | none=>e=.returned (.tuple #[.slice none 0 0,.int .i64 0,.bool false])
  | some (ys,m)=>∃ a c,e=.returned (.tuple #[.slice a ys.length c,.int .i64 m,.bool true])∧w'.ownsRow w.heap.size T 1 (.slice a ys.length c) ys.length (ae ys)
theorem RetT.no {T:Nat} {w w':World} (h:Below w.heap.size w w'):RetT T w none (.returned (.tuple #[.slice none 0 0,.int .i64 0,.bool false])) w':=⟨h,rfl⟩
def kz (c:Cr) (ch:List Int):Option (List Int × Int):=if jb c ch then some ((eH c ch).1,((eH c ch).2:Int)) else none
theorem xJ {c:Cr} {ch:List Int} (h:jb c ch=false):kz c ch=none:=by simp [kz,h]
theorem uU {c:Cr} {ch:List Int} (h:jb c ch=true):kz c ch=some ((eH c ch).1,((eH c ch).2:Int)):=by simp [kz,h]
theorem Gb {c:Cr} {ch:List Int} (h:Can c ch):(eH c ch).1.length=ch.length:=by
 have h1:=(qg h).1.len;have h2:=h.len;omega
theorem JQ {c:Cr} {ch:List Int} (h:Can c ch):eT c ch≤12800000:=by
 have:=mj h;unfold eT;omega
structure OnWay (c:Cr) (ch cur:List Int) (k:Nat):Prop where
 can:Can c cur
 meas:k+eT c cur≤12800000
 len:cur.length=ch.length
 goal:eH c ch=((eH c cur).1,(eH c cur).2+k)
theorem OnWay.start {c:Cr} {ch:List Int} (h:Can c ch):OnWay c ch ch 0:=⟨h,by have:=JQ h;omega,rfl,rfl⟩
theorem OnWay.step {c:Cr} {ch cur:List Int} {k u v:Nat} (h:OnWay c ch cur k) (hb:cQ c cur=some (u,v)):OnWay c ch (cur.set u (v:Int)) (k+1):=by
 have h1:=iL hb;have h2:=yf h.can hb;refine ⟨h.can.set h1.2.1,by have:=h.meas;omega,by rw [List.length_set,h.len],?_⟩
 rw [h.goal,DQ h.can hb];simp only [Prod.mk.injEq,true_and];omega
theorem OnWay.done {c:Cr} {ch cur:List Int} {k:Nat} (h:OnWay c ch cur k) (hb:cQ c cur=none):eH c ch=(cur,k):=by
 rw [h.goal,DL hb];simp
theorem E7 (w:World) (U R:Int) (a2:Option Addr) (c2:Nat) (x2:List Int) (a3:Option Addr) (c3:Nat) (x3:List Int) (a:Option Addr) (c:Nat) (ch:List Int) (h:RdCrowd w w.heap.size a2 x2 a3 x3) (hl2:x2.length≤1048576) (hl3:x3.length≤1048576) (g:Rd w w.heap.size a (ae ch)) (hl:ch.length≤1048576) :
 Calls Tryz.prog 200 #[.agg #[.int .i64 U,.int .i64 R,.slice a2 x2.length c2,.slice a3 x3.length c3],.slice a ch.length c] w (RetT 2 w (kz ⟨U,R,x2,x3⟩ ch)):=by
 have LC:=Na (fun w' hb=>qx w' U R a2 c2 x2 a3 c3 x3 a c ch (h.to hb) hl2 hl3 (g.to hb) hl)
 cases t1:jb ⟨U,R,x2,x3⟩ ch with
 | false =>
   rw [xJ t1];rw [t1] at LC;clear h g t1
   go_enter Tryz.func200,Tryz.ntmps200;go_wp2_with fail;refine (LC.out _ (ah _ _)).mono ?_;rintro e w1 ⟨rfl,hb1⟩;have B1:=aa (ah w _) hb1;clear hb1;go_wp2_with fail;go_ret3;exact RetT.no B1
 | true =>
   rw [uU t1];rw [t1] at LC;have hc:=zn t1;have hU1:1≤ch.length:=by have:=hc.v.u1;have:=hc.len;simp only at *;omega
   obtain ⟨n,rfl⟩:=GO hc;have LB:=Na (fun w' a' c' cur hb hr hcan=>uP w' U n a2 c2 x2 a3 c3 x3 a' c' cur (h.to hb) hr hcan)
   have LCl:=Na (fun w' hb=>ej w' a c ch (g.to hb) hU1 (by omega))
   have Hst:Hid (OnWay ⟨U,n,x2,x3⟩ ch ch 0):=OnWay.start hc;clear h g t1 hc;generalize hC:(⟨U,(n:Int),x2,x3⟩:Cr)=C at *
   clear hC
   go_enter Tryz.func200,Tryz.ntmps200;go_wp2_with fail;refine (LC.out _ (ah _ _)).mono ?_;rintro e w1 ⟨rfl,hb1⟩;have kA:=(Blk.new w [.int .i64 U,.int .i64 n,.slice a2 x2.length c2,.slice a3 x3.length c3] 30).same hb1;have B1:=aa (ah w (.cells #[.int .i64 U,.int .i64 n,.slice a2 x2.length c2,.slice a3 x3.length c3] 30)) hb1;have s1:w.heap.size<w1.heap.size:=by have:=hb1.size;simp at this;omega
   clear hb1 LC;go_wp2_with fail;refine (LCl.out _ B1).mono ?_;rintro e w2 ⟨a1,c1,rfl,o1,hb2⟩;obtain ⟨q,tl,rfl,hq,hbq,hcc,hccm,hcl⟩:=lG o1.1 (by omega)
   have KA:=Na (kA.same hb2);have KQ:=Na hbq;have B2:=aa B1 hb2;have hqw:w.heap.size<q:=by omega
   clear hb2 o1 hbq kA B1 LCl hq s1;go_wp2_with fail
   go_loopw [8] (fun i wr=>∃ (k:Nat) (cur:List Int),i=.int .i64 k∧Hid (OnWay C ch cur k)∧Hid (Blk wr q (ae cur ++ tl) 2)∧Hid (Blk wr w.heap.size [.int .i64 U,.int .i64 n,.slice a2 x2.length c2,.slice a3 x3.length c3] 30)∧Below w.heap.size w wr) (fun i _=>12800001 - (intOf i).toNat)
   case atStart=>exact ⟨0,ch,rfl,Hst.out,KQ.out,KA.out,B2⟩
   case round =>
    clear KA KQ B2 Hst;obtain ⟨k,cur,rfl,hway,hG,hA,hw⟩:=hrel;have hm:=hway.out.meas;have hcl2:=Na hway.out.len;have q0:=hA.out.cell 0;have q1:=hA.out.cell 1;have q2:=hA.out.cell 2;have q3:=hA.out.cell 3;simp only [List.getElem?_cons_zero,List.getElem?_cons_succ] at q0 q1 q2 q3;have hqs:q<wr.heap.size:=hG.out.lt;have LB1:=Na (LB.out wr (some ⟨q,0,none⟩) c1 cur hw (AM hG.out hqs) hway.out.can);rw [hcl2.out] at LB1
    cases hbf:cQ C cur with
    | none =>
      have hdone:=Na (hway.out.done hbf);simp only [hbf,bU,bK] at LB1;clear hway hbf;go_wp2_with fail;refine LB1.out.mono ?_;rintro e w3 ⟨rfl,hb3⟩;have B3:=hw.trans (hb3.mono hw.size);have HR:Hid (RetT 2 w (some ((eH C ch).1,((eH C ch).2:Int))) (.returned (.tuple #[.slice (some ⟨q,0,none⟩) ch.length c1,.int .i64 k,.bool true])) w3):=by
       rw [hdone.out];refine ⟨B3,_,_,by rw [hcl2.out],?_⟩
       rw [hcl2.out];refine xu (hG.out.same hb3) (by omega) (by simp [hcl2.out]) hcc hccm ?_
       simp [hcl2.out] at hcl ⊢
       omega
      clear hb3 LB1 B3 hG hA hw q0 q1 q2 q3;go_wp2_with fail;go_ret3;exact HR.out
    | some p =>
      obtain ⟨u,v⟩:=p;have hstep:=Na (hway.out.step hbf);obtain ⟨hu,_,_⟩:=iL hbf;simp only [hbf,bU,bK] at LB1;have hu2:u<ch.length:=by have:=hcl2.out;omega
      clear hway hbf;go_wp2_with fail;refine LB1.out.mono ?_;rintro e w3 ⟨rfl,hb3⟩;have B3:=hw.trans (hb3.mono hw.size);have hneg:¬ ((u:Int)<0):=by omega
      have kQ:=hG.out.same hb3;have f1:=kQ.free u;have e1:=kd kQ (j:=u) hu;have KQ2:=Na (sU kQ (j:=u) hu v);have KA2:=Na ((hA.out.same hb3).oth (g:=q) (by omega) u (.int .i64 v))
      have B4:=aj B3 (g:=q) (by omega) u (.int .i64 v)
      clear hb3 LB1 B3 hG hA hw q0 q1 q2 q3 kQ;go_wp2_with fail;go_roundw
      case rel=>exact ⟨k+1,cur.set u (v:Int),by go_num,hstep.out,KQ2.out,KA2.out,B4⟩
      case measure=>simp [intOf];omega
def fX (c:Cr) (ch:List Int):List Int:=(List.range ch.length).map fun (u:Nat)=>df c ch u
theorem qe (c:Cr) (ch:List Int):(fX c ch).length=ch.length:=by simp [fX]
theorem FA {c:Cr} {ch:List Int} {k:Nat} (h:k<ch.length):(fX c ch)[k]? = some (df c ch k):=by simp [fX,h]
theorem Bt {c:Cr} {ch:List Int} {k:Nat} (h:k<ch.length):(fX c ch).take (k+1)=(fX c ch).take k ++ [df c ch k]:=by
 rw [List.take_add_one,FA h];rfl
theorem xf (f:Nat→Int):∀ n:Nat,((List.range n).map f).sum=gu f n
 | 0=>rfl
 | n+1=>by rw [List.range_succ,List.map_append,List.sum_append,xf f n,gu];simp
theorem Em {c:Cr} {ch:List Int} (h:Can c ch):lq (fX c ch)=cD c ch:=by
 have h8:=h.v.u8;have hl:=h.len;have:=CN (fX c ch) 800000 (by omega) (fun x hx=>by
  obtain ⟨u,_,rfl⟩:=List.mem_map.1 hx;exact wH h.v ch u) (by rw [qe];omega)
 rw [this.1,fX,xf,cD]
 congr 1
 omega
theorem Gr (w:World) (U:Int) (n:Nat) (a2:Option Addr) (c2:Nat) (x2:List Int) (a3:Option Addr) (c3:Nat) (x3:List Int) (a:Option Addr) (c:Nat) (ch:List Int) (h:RdCrowd w w.heap.size a2 x2 a3 x3) (g:Rd w w.heap.size a (ae ch)) (hc:Can ⟨U,n,x2,x3⟩ ch) :
 Calls Tryz.prog 251 #[.agg #[.int .i64 U,.int .i64 n,.slice a2 x2.length c2,.slice a3 x3.length c3],.slice a ch.length c] w fun e w'=>∃ a' c',e=.returned (.slice a' ch.length c')∧OwnI 2 w' w.heap.size w'.heap.size a' c' (fX ⟨U,n,x2,x3⟩ ch)∧Below w.heap.size w w':=by
 have hUl:(ch.length:Int)=U:=hc.len;have hU8:ch.length≤8:=by have:=hc.v.u8;simp only at this;omega
 have hU1:1≤ch.length:=by have:=hc.v.u1;simp only at this;omega
 have LCl:=Na (fun w' hb=>ej w' a c ch (g.to hb) hU1 (by omega))
 have LP:=Na (fun (w':World) (g':Nat) (tl:List Value) (cc u wy:Nat) (hA:Blk w' g' (ae ch ++ tl) 2) (hB:w.heap.size≤g') (hb:Below w.heap.size w w') (hu:u<ch.length) (hw:wy<x2.length)=>yX w' w.heap.size g' tl U n a2 c2 x2 a3 c3 x3 cc ch u wy hA hB (h.below hb (Nat.le_refl _)) hc hu hw)
 have HM:Hid (∀ x∈ch,0≤x∧x<(x2.length:Int)):=hc.mem;have Hg:=Na g;have Hlen:=Na (qe ⟨U,n,x2,x3⟩ ch);clear h g hc hUl;generalize hC:(⟨U,(n:Int),x2,x3⟩:Cr)=C at *
 clear hC
 go_enter Tryz.func251,Tryz.ntmps251;go_wp2_with fail;refine (LCl.out _ (ah _ _)).mono ?_;rintro e w1 ⟨a1,c1,rfl,o1,hb1⟩;obtain ⟨go,tl,rfl,hgo,hbg,hcc,hccm,hcl⟩:=lG o1.1 (by omega)
 have KA:=Na ((Blk.new w [.int .i64 U,.int .i64 n,.slice a2 x2.length c2,.slice a3 x3.length c3] 30).same hb1);have B1:=aa (ah w (.cells #[.int .i64 U,.int .i64 n,.slice a2 x2.length c2,.slice a3 x3.length c3] 30)) hb1;have KG:=Na hbg;have hgo':w.heap.size≤go:=by simp at hgo;omega
 have O1:Hid ((w1.alloc (.cells #[] 2)).ownsRow w1.heap.size 2 1 (.slice (some ⟨w1.heap.size,0,none⟩) 0 0) 0 (ae ((fX C ch).take 0))):=kZ w1 2;have B1e:=ah w1 (.cells #[] 2);have hs1:=B1.size;clear o1 hb1 hbg LCl;go_wp2_with fail
 go_loopw [14,6] (fun i v wr=>∃ k:Nat,k≤ch.length∧i=.int .i64 k∧Hid (wr.ownsRow w1.heap.size 2 1 v k (ae ((fX C ch).take k)))∧Below w1.heap.size w1 wr) (fun i _ _=>ch.length - (intOf i).toNat)
 case atStart=>exact ⟨0,Nat.zero_le _,rfl,O1.out,B1e⟩
 case round =>
  clear O1 B1e;obtain ⟨k,hk,rfl,ho,hw⟩:=hrel;have hww:=B1.trans (hw.mono hs1)
  by_cases hlt:k<ch.length
  · obtain ⟨b1,o1,x,rfl,hbb1,hck,hx⟩:=(Hg.out.below hww (Nat.le_refl _)).get hlt
    obtain ⟨x0,x8⟩:=HM.out x (List.mem_of_getElem? hx.out);obtain ⟨q,rfl⟩:∃ q:Nat,x=q:=⟨x.toNat,by omega⟩;have hq8:q<x2.length:=by (try simp only at x8);omega
    have Hxq:ch.getD k 0=q:=bZ hx.out;have LP1:=Na (LP.out wr go tl c1 k q (KG.out.same hw) hgo' hww hlt hq8);have Hset:ch.set k (q:Int)=ch:=by rw [← Hxq];exact uk ch k
    rw [Hset] at LP1;have q0:=(KA.out.same hw).cell 0;have q1:=(KA.out.same hw).cell 1;have q2:=(KA.out.same hw).cell 2;have q3:=(KA.out.same hw).cell 3;simp only [List.getElem?_cons_zero,List.getElem?_cons_succ] at q0 q1 q2 q3;have Hn:=Na (Bt (c:=C) hlt);generalize df C ch k=p at *
    clear hx Hxq Hset x8;go_wp2_with fail;refine LP1.out.mono ?_;rintro e w2 ⟨rfl,hb2⟩;have hw2:=hw.trans (hb2.mono hw.size);have ho2:=aG ho.out hb2;have hs2:=hw2.size;clear hb2 LP1 q0 q1 q2 q3 hck ho hww
    go_wp2_with (at_builtin;refine aH _ rfl _ _ 24 rfl w1.heap.size 2 (.int .i64 0) 8 Tryz.underlying24 aU rfl _ k _ rfl ho2 (.int .i64 p) rfl rfl (by omega) (by omega) hs2 ?_)
    intro v' w3 ho3 hgr;have hw3:=ai hw2 ho2 hgr (Nat.le_refl _) hs2;have HO:Hid (w3.ownsRow w1.heap.size 2 1 v' (k+1) (ae ((fX C ch).take (k+1)))):=by
     rw [Hn.out,bh];exact ho3
    clear ho2 ho3 hgr hw2 hw;go_wp2_with fail;go_roundw
    case rel=>exact ⟨k+1,by omega,by go_num,HO,hw3⟩
    case measure=>simp [intOf];omega
  · have:k=ch.length:=by omega
    subst this;obtain ⟨a1,c1',rfl,_,_⟩:=bj ho.out;have HR:Hid (OwnI 2 wr w.heap.size wr.heap.size a1 c1' (fX C ch)):=by
     have:=bJ ho.out hs1;rw [List.take_of_length_le (by rw [Hlen.out];exact Nat.le_refl _)] at this
     exact OwnI.of_own (by rw [Hlen.out];exact this)
    clear ho;go_wp2_with fail;go_ret;exact ⟨_,_,rfl,HR.out,hww⟩
theorem ro (w:World) (U:Int) (n:Nat) (a2:Option Addr) (c2:Nat) (x2:List Int) (a3:Option Addr) (c3:Nat) (x3:List Int) (a:Option Addr) (c:Nat) (ch:List Int) (h:RdCrowd w w.heap.size a2 x2 a3 x3) (g:Rd w w.heap.size a (ae ch)) (hc:Can ⟨U,n,x2,x3⟩ ch) :
 Calls Tryz.prog 228 #[.agg #[.int .i64 U,.int .i64 n,.slice a2 x2.length c2,.slice a3 x3.length c3],.slice a ch.length c] w fun e w'=>e=.returned (.int .i64 (cD ⟨U,n,x2,x3⟩ ch))∧Below w.heap.size w w':=by
 have hU8:ch.length≤8:=by have:=hc.v.u8;have:=hc.len;simp only at *;omega
 have LC:=Na (fun w' hb=>Gr w' U n a2 c2 x2 a3 c3 x3 a c ch (h.to hb) (g.to hb) hc)
 have Hs:=Na (Em hc);have Hlen:=Na (qe ⟨U,n,x2,x3⟩ ch);clear h g hc;generalize hC:(⟨U,(n:Int),x2,x3⟩:Cr)=C at *
 clear hC;generalize fX C ch=cs at *
 generalize cD C ch=t at *
 go_enter Tryz.func228,Tryz.ntmps228;go_wp2_with fail;refine (LC.out _ (ah _ _)).mono ?_;rintro e w1 ⟨a1,c1,rfl,o1,hb1⟩;have B1:=aa (ah w _) hb1;have LS:=xK w1 a1 c1 cs (o1.rd.mono (Nat.le_refl _)) (by rw [Hlen.out];omega)
 rw [Hs.out,Hlen.out] at LS;have LS:=Na LS;clear LC o1 hb1;go_wp2_with fail;refine LS.out.mono ?_;rintro e w2 ⟨rfl,rfl⟩;go_wp2_with fail;go_ret;exact ⟨rfl,B1⟩
theorem vN {n:Int} {ch:List Int} {k:Nat} (h:ch.getD k 0+1<n):cd n ch (k+1)=(ch.set k (ch.getD k 0+1),true):=by rw [cd,if_pos h]
theorem wS {n:Int} {ch:List Int} {k:Nat} (h:¬ ch.getD k 0+1<n):cd n ch (k+1)=cd n (ch.set k 0) k:=by rw [cd,if_neg h]
theorem zL {n:Nat} {ch:List Int} (h:kK n ch) (hn:1≤n) (k:Nat):kK n (ch.set k 0):=fun x hx=>by
 rcases List.mem_or_eq_of_mem_set hx with hx | hx
 · exact h x hx
 · subst hx;omega
theorem zR {n:Nat} {ch:List Int} (h:kK n ch) {k:Nat} (hk:k<ch.length):0≤ch.getD k 0∧ch.getD k 0<n:=h _ (by simp [List.getD,List.getElem?_eq_getElem hk])
theorem yU {L k:Nat}:L ^ (k+1)=L ^ k * L:=Nat.pow_succ L k
theorem Kp {c:Cr} {N:Nat} (hN:c.U=N) (hp:c.ways.length ^ N≤4096):gi c=true:=by
 have:c.U.toNat=N:=by omega
 simp only [gi,this,decide_eq_true_eq];exact hp
theorem Lg {c:Cr} {N:Nat} (hN:c.U=N) (hp:4096<c.ways.length ^ N):gi c=false:=by
 have:c.U.toNat=N:=by omega
 simp only [gi,this,decide_eq_false_iff_not];omega
def nU (few:Bool) (M:Nat):Nat:=if few then M else 0
theorem nG (M:Nat):nU true M=M:=rfl
theorem Dk (M:Nat):nU false M=0:=rfl
theorem C5 {L k:Nat} (hL:L≤8) (hk:k≤8):L ^ k≤16777216:=by
 calc L ^ k≤8 ^ k:=Nat.pow_le_pow_left hL k
   _≤8 ^ 8:=Nat.pow_le_pow_right (by omega) hk
theorem tq (S:Nat→World→Prop) (K0:Nat) (caps0:Array Value) (hK:∀ (args:Array Value) (w:World),(callFunc K0 args).run Tryz.prog w=.ok (.enter K0 args) w)
 (w:World) (N n:Nat) (a2:Option Addr) (c2:Nat) (x2:List Int) (a3:Option Addr) (c3:Nat) (x3:List Int) (hv:Valid ⟨N,n,x2,x3⟩)
 (hS:∀ t w1 w2,S t w1→w1.grownBy w2 (some (w.heap.size+1))→S t w2)
 (hdo:∀ t w1 c,S t w1→t<x2.length ^ N→w.heap.size+2≤w1.heap.size→Rd w1 w1.heap.size (some ⟨w.heap.size+1,0,none⟩) (ae (cu x2.length N t))→Calls Tryz.prog K0 (#[.slice (some ⟨w.heap.size+1,0,none⟩) N c] ++ caps0) w1 fun e w'=>e=.returned (.tuple #[])∧S (t+1) w'∧Touch w1 w' 0 w.heap.size)
 (hs:S 0 w) :
 Calls Tryz.prog 225 #[.agg #[.int .i64 N,.int .i64 n,.slice a2 x2.length c2,.slice a3 x3.length c3],.func (.func K0) #[] caps0] w fun e w'=>e=.returned (.bool (gi ⟨N,n,x2,x3⟩))∧S (nU (gi ⟨N,n,x2,x3⟩) (x2.length ^ N)) w':=by
 have hN8:N≤8:=by have:=hv.u8;simp only at this;omega
 have hN1:1≤N:=by have:=hv.u1;simp only at this;omega
 have hL8:x2.length≤8:=hv.w8;have hL1:1≤x2.length:=hv.w1;have HYes:Hid (x2.length ^ N≤4096→gi ⟨N,n,x2,x3⟩=true):=fun h=>Kp rfl h
 have HNo:Hid (4096<x2.length ^ N→gi ⟨N,n,x2,x3⟩=false):=fun h=>Lg rfl h
 have HS:=Na hS;have HD:=Na hdo;have HPw:=Na (fun k (hk:k≤N)=>C5 (L:=x2.length) (k:=k) hL8 (by omega))
 have Hsp:=Na (fun t ht=>mx hL1 N t ht)
 have Hln:=Na (fun t=>fH x2.length N t)
 have KA:=Na (Blk.new w [.int .i64 N,.int .i64 n,.slice a2 x2.length c2,.slice a3 x3.length c3] 30);have S1:Hid (S 0 (w.alloc (.cells #[.int .i64 N,.int .i64 n,.slice a2 x2.length c2,.slice a3 x3.length c3] 30))):=hS 0 w _ hs (dh (ah _ _) _);clear hS hdo hv hs;generalize gi ⟨(N:Int),(n:Int),x2,x3⟩=few at *
 go_enter Tryz.func225,Tryz.ntmps225;go_wp2_with fail
 go_loopw [10,5] (fun i m wr=>∃ (k P:Nat),k≤N∧i=.int .i64 k∧m=.int .i64 P∧Hid (P=x2.length ^ k)∧wr=w.alloc (.cells #[.int .i64 N,.int .i64 n,.slice a2 x2.length c2,.slice a3 x3.length c3] 30)) (fun i _ _=>N - (intOf i).toNat)
 case atStart=>exact ⟨0,1,Nat.zero_le _,rfl,rfl,rfl,rfl⟩
 case round =>
  obtain ⟨k,P,hk,rfl,rfl,hP,rfl⟩:=hrel
  by_cases hlt:k<N
  · have hPb:P≤16777216:=by rw [hP.out];exact HPw.out k hk
    have hm0:(0:Int)≤(P:Int) * (x2.length:Int):=Int.mul_nonneg (by omega) (by omega)
    have hmN:P * x2.length≤16777216 * 8:=Nat.mul_le_mul hPb hL8;have hm1:(P:Int) * (x2.length:Int)≤134217728:=by
     have:((P * x2.length:Nat):Int)=(P:Int) * (x2.length:Int):=by simp
     omega
    have hcast:Hid (((P * x2.length:Nat):Int)=(P:Int) * (x2.length:Int)):=by simp [Hid]
    have HP2:Hid (P * x2.length=x2.length ^ (k+1)):=by show _=_;rw [yU,hP.out]
    clear hmN hP;go_wp2_with fail;go_roundw
    case rel=>exact ⟨k+1,P * x2.length,by omega,by go_num,by rw [hcast.out],HP2,by first | trivial | rfl⟩
    case measure=>simp [intOf];omega
  · have:k=N:=by omega
    subst this;have hPb:P≤16777216:=by rw [hP.out];exact HPw.out k hk
    by_cases hgt:(4096:Int)<(P:Int)
    · have HF:=Na (HNo.out (by rw [← hP.out];omega))
      have HS0:Hid (S (nU few (x2.length ^ k)) (w.alloc (.cells #[.int .i64 k,.int .i64 n,.slice a2 x2.length c2,.slice a3 x3.length c3] 30))):=by rw [HF.out,Dk];exact S1.out
      clear hP HYes HNo;go_wp2_with fail;go_ret;exact ⟨av HF.out.symm,HS0.out⟩
    · have HF:=Na (HYes.out (by rw [← hP.out];omega))
      have HPN:=Na hP.out;clear hP HYes HNo HPw
      go_wp2_with (at_make;refine gU _ rfl _ _ 24 rfl 2 (.int .i64 0) 8 Tryz.underlying24 aU rfl _ _ k rfl rfl (by omega) (by unfold maxLen;omega) ?_)
      intro w2 hb2 hw2 hs2
      try simp at hs2
      try simp at hb2
      have KB:Hid (Blk w2 (w.heap.size+1) (ae (cu x2.length k 0)) 2):=by rw [cu,← fV];exact hb2
      have KA2:=Na (KA.out.below hw2 (by omega))
      have S2:=Na (HS.out 0 _ _ S1.out (dh (hw2.mono (by simp)) _))
      have hsz:w.heap.size+2≤w2.heap.size:=by omega
      clear hb2 hw2 hs2 S1 KA;go_wp2_with fail
      go_loopw [24] (fun i wr=>∃ t:Nat,t≤P∧i=.int .i64 t∧Hid (S t wr)∧Hid (Blk wr (w.heap.size+1) (ae (cu x2.length k t)) 2)∧Hid (Blk wr w.heap.size [.int .i64 k,.int .i64 n,.slice a2 x2.length c2,.slice a3 x3.length c3] 30)∧w.heap.size+2≤wr.heap.size) (fun i _=>P - (intOf i).toNat)
      case atStart=>exact ⟨0,Nat.zero_le _,rfl,S2.out,KB.out,KA2.out,hsz⟩
      case round =>
       clear S2 KB KA2 hsz;obtain ⟨t,ht,rfl,hSt,hG,hA,hsz⟩:=hrel
       by_cases htl:t<P
       · have htN:t<x2.length ^ k:=by rw [← HPN.out];exact htl
         have HD1:=Na (HD.out t wr k hSt.out htN hsz (hG.out.rd (by omega)))
         have Hdg:=Na (Hsp.out t htN).1;have Hcl:=Na (Hln.out t);have Hnx:Hid (cu x2.length k (t+1)=(cd x2.length (cu x2.length k t) k).1):=rfl;have hk8:k≤8:=hN8;clear hSt htN;have hKK:=Na hK;go_wp2_with fail;refine HD1.out.mono ?_;rintro e w3 ⟨rfl,hs3,ht3⟩;have hG3:=Na (hG.out.touch ht3 (by omega))
         have hA3:=Na (hA.out.touch ht3 (by omega))
         have hs3':=Na hs3;have hsz3:w.heap.size+2≤w3.heap.size:=Nat.le_trans hsz ht3.size;clear HD1 hs3 ht3 hG hA hsz;generalize cu x2.length k t=ct at *
         go_wp2_with fail
         go_loopw [7] (fun i wi=>∃ (m:Nat) (j:Int) (cur:List Int),m≤k∧i=.int .i64 j∧Hid (j+1=(m:Int))∧Hid (cur.length=k)∧Hid (kK x2.length cur)∧Hid (cd x2.length ct k=cd x2.length cur m)∧Hid (Blk wi (w.heap.size+1) (ae cur) 2)∧Hid (Blk wi w.heap.size [.int .i64 k,.int .i64 n,.slice a2 x2.length c2,.slice a3 x3.length c3] 30)∧Hid (S (t+1) wi)∧w.heap.size+2≤wi.heap.size) (fun i _=>(intOf i+1).toNat)
         case atStart=>exact ⟨k,_,ct,Nat.le_refl _,rfl,by show _=_;omega,Hcl.out,Hdg.out,rfl,hG3.out,hA3.out,hs3'.out,hsz3⟩
         case round =>
          clear hG3 hA3 hs3' hsz3 Hdg Hcl;obtain ⟨m,j,cur,hm,rfl,hj,hcl,hd,hnx,hG,hA,hSi,hsz⟩:=hrel
          cases m with
          | zero =>
            have:j = -1:=by have:=hj.out;omega
            subst this;have HG4:Hid (Blk wr (w.heap.size+1) (ae (cu x2.length k (t+1))) 2):=by
             show Blk _ _ _ _
             rw [Hnx.out,hnx.out,cd];exact hG.out
            clear hnx hG hd;go_wp2_with fail;go_roundw
            case rel=>exact ⟨t+1,by omega,by go_num,hSi.out,HG4.out,hA.out,hsz⟩
            case measure=>simp [intOf];omega
          | succ m =>
            have:j=(m:Int):=by have:=hj.out;omega
            subst this;have hkc:m<cur.length:=by have:=hcl.out;omega
            have e1:=hG.out.at hkc;have f1:=hG.out.free m;obtain ⟨y0,y1⟩:=zR hd.out hkc;have Hdz:=Na (zL hd.out hL1 m);have hlt:m<k:=by omega
            have q2:=(hA.out.oth (g:=w.heap.size+1) (by omega) m (.int .i64 (cur.getD m 0+1))).cell 2
            simp only [List.getElem?_cons_zero,List.getElem?_cons_succ] at q2
            by_cases hy:cur.getD m 0+1<(x2.length:Int)
            · have HF:Hid (cd x2.length ct k=(cur.set m (cur.getD m 0+1),true)):=hnx.out.trans (vN hy)
              have HG2:Hid (Blk (wr.setCell ⟨w.heap.size+1,m,none⟩ (.int .i64 (cur.getD m 0+1))) (w.heap.size+1) (ae (cu x2.length k (t+1))) 2):=by
               show Blk _ _ _ _
               rw [Hnx.out,HF.out];exact hG.out.setI m _
              have HA2:=Na (hA.out.oth (g:=w.heap.size+1) (by omega) m (.int .i64 (cur.getD m 0+1)))
              have HS2:=Na (HS.out _ _ _ hSi.out (cI wr (w.heap.size+1) m (.int .i64 (cur.getD m 0+1))));have e2:=(hG.out.setI m (cur.getD m 0+1)).at (k:=m) (by rw [List.length_set];exact hkc)
              have hge:(cur.set m (cur.getD m 0+1)).getD m 0=cur.getD m 0+1:=gy hkc _;rw [hge] at e2;have hsz2:w.heap.size+2≤(wr.setCell ⟨w.heap.size+1,m,none⟩ (.int .i64 (cur.getD m 0+1))).heap.size:=by simpa using hsz
              have Hsz2:=Na hsz2;generalize cur.getD m 0=y at *
              clear hnx hG hd hkc hge hsz2 hSi hA;go_wp2_with fail
              go_quiet (fail)
              go_wp2_with fail;go_roundw
              case rel=>exact ⟨t+1,by omega,by go_num,HS.out _ _ _ HS2.out (by first | exact World.grownBy.refl _ _ | exact dh (ag (Below.refl _ _) _) _),HG2.out,HA2.out,Hsz2.out⟩
              case measure=>simp [intOf];omega
            · have HF:Hid (cd x2.length ct k=cd x2.length (cur.set m 0) m):=hnx.out.trans (wS hy)
              have hS0:=hG.out.setI m (cur.getD m 0+1);have f2:=hS0.free m;have e2:=hS0.at (k:=m) (by rw [List.length_set];exact hkc)
              have hge:(cur.set m (cur.getD m 0+1)).getD m 0=cur.getD m 0+1:=gy hkc _;rw [hge] at e2;have HX:Hid (∀ d:Nat,Blk (((wr.setCell ⟨w.heap.size+1,m,none⟩ (.int .i64 (cur.getD m 0+1))).drewN d).setCell ⟨w.heap.size+1,m,none⟩ (.int .i64 0)) (w.heap.size+1) (ae (cur.set m 0)) 2):=fun d=>by
               have:=(hS0.drewN d).setI m 0;rwa [List.set_set] at this
              have HA2:Hid (∀ d:Nat,Blk (((wr.setCell ⟨w.heap.size+1,m,none⟩ (.int .i64 (cur.getD m 0+1))).drewN d).setCell ⟨w.heap.size+1,m,none⟩ (.int .i64 0)) w.heap.size [.int .i64 k,.int .i64 n,.slice a2 x2.length c2,.slice a3 x3.length c3] 30):=fun d=>((hA.out.oth (g:=w.heap.size+1) (by omega) m (.int .i64 (cur.getD m 0+1))).drewN d).oth (g:=w.heap.size+1) (by omega) m (.int .i64 0)
              have HS2:Hid (∀ d:Nat,S (t+1) (((wr.setCell ⟨w.heap.size+1,m,none⟩ (.int .i64 (cur.getD m 0+1))).drewN d).setCell ⟨w.heap.size+1,m,none⟩ (.int .i64 0))):=fun d =>
               HS.out _ _ _ (HS.out _ _ _ (HS.out _ _ _ hSi.out (cI wr (w.heap.size+1) m (.int .i64 (cur.getD m 0+1)))) (dh (ag (Below.refl _ _) d) _)) (cI _ (w.heap.size+1) m (.int .i64 0))
              have hcl2:Hid ((cur.set m 0).length=k):=by rw [Hid,List.length_set];exact hcl.out
              generalize cur.getD m 0=y at *
              clear hnx hG hd hkc hge hSi hA hS0;go_wp2_with fail
              go_quiet (fail)
              go_wp2_with fail;go_roundw
              case rel=>exact ⟨m,(m:Int) - 1,cur.set m 0,by omega,by go_num,by show _=_;omega,hcl2.out,Hdz.out,HF.out,HX.out _,HA2.out _,HS2.out _,by simpa using hsz⟩
              case measure=>simp [intOf]
       · have:t=P:=by omega
         subst this;have HST:Hid (S (nU few (x2.length ^ k)) wr):=by rw [HF.out,nG,← HPN.out];exact hSt.out
         clear hSt hG hA;go_wp2_with fail;go_ret;exact ⟨av HF.out.symm,HST.out⟩
end Go.Proofs.YtbknhgapjjaelaaGreatDoor
