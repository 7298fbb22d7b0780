/-
  Part 18 of what the proof stands on: lemmas and contracts, each with its conditions ahead of the colon.
-/
import Derived.Test.YtbknhgapjjaelaaGreatDoorPk01
import Derived.RegionTactic
import Derived.BigRegion
import Derived.Deep.RegionHeld3
import Derived.Test.YtbknhgapjjaelaaGreatDoorPk03
import Derived.Test.YtbknhgapjjaelaaGreatDoorPk05
import Derived.Test.YtbknhgapjjaelaaGreatDoorPk07
import Derived.Test.YtbknhgapjjaelaaGreatDoorPk08
import Derived.Test.YtbknhgapjjaelaaGreatDoorPk17
set_option maxRecDepth 10000
set_option maxHeartbeats 8000000
namespace Go.Proofs.YtbknhgapjjaelaaGreatDoor
set_option linter.unusedVariables false
set_option linter.unusedSimpArgs false
open Go.RowKit
def cM (T:Nat) (xs out:List Int) (i:Nat):Nat→Int
 | 0=>-1
 | k+1=>if out.getD k 0<0∧(cM T xs out i k<0∨ir T xs i (cM T xs out i k).toNat<ir T xs i k) then (k:Int) else cM T xs out i k
theorem AP (T:Nat) (xs out:List Int) (i:Nat):∀ k:Nat,-1≤cM T xs out i k∧cM T xs out i k<(k:Int)∨k=0∧cM T xs out i k = -1
 | 0=>.inr ⟨rfl,rfl⟩
 | k+1=>by
   have ih:=AP T xs out i k;rw [cM]
   split <;> omega
theorem un (T:Nat) (xs out:List Int) (i k:Nat):-1≤cM T xs out i k∧(0≤cM T xs out i k→cM T xs out i k<(k:Int)):=by
 have:=AP T xs out i k;omega
theorem qt (T:Nat) (xs out:List Int) (i:Nat):∀ k:Nat,(∃ j,j<k∧out.getD j 0<0)→0≤cM T xs out i k
 | 0,⟨_,h,_⟩=>by omega
 | k+1,⟨j,hj,hf⟩=>by
   rw [cM]
   split
   · omega
   · rename_i hn
     by_cases hjk:j=k
     · subst hjk
       have:¬ (cM T xs out i j<0∨ir T xs i (cM T xs out i j).toNat<ir T xs i j):=fun h=>hn ⟨hf,h⟩
       omega
     · exact qt T xs out i k ⟨j,by omega,hf⟩
theorem Av (T:Nat) (xs out:List Int) (i:Nat):∀ k:Nat,0≤cM T xs out i k→out.getD (cM T xs out i k).toNat 0<0
 | 0,h=>by rw [cM] at h;omega
 | k+1,h=>by
   rw [cM] at h ⊢
   split
   · rename_i hy
     rw [Int.toNat_natCast];exact hy.1
   · rename_i hn
     rw [if_neg hn] at h;exact Av T xs out i k h
def cy (T:Nat) (xs ord:List Int):Nat→List Int
 | 0=>List.replicate T (-1)
 | n+1=>(cy T xs ord n).set (cM T xs (cy T xs ord n) (ord.getD (n % ord.length) 0).toNat T).toNat (ord.getD (n % ord.length) 0)
theorem kx (T:Nat) (xs ord:List Int):∀ n,(cy T xs ord n).length=T
 | 0=>by rw [cy,List.length_replicate]
 | n+1=>by rw [cy,List.length_set,kx T xs ord n]
def oH (out:List Int):Nat:=out.countP fun x=>decide (x<0)
theorem xE {out:List Int} (h:0<oH out):∃ j,j<out.length∧out.getD j 0<0:=by
 obtain ⟨x,hx,hp⟩:=List.countP_pos_iff.1 h;obtain ⟨j,hj,rfl⟩:=List.getElem_of_mem hx;refine ⟨j,hj,?_⟩
 rw [List.getD,List.getElem?_eq_getElem hj,Option.getD_some];exact of_decide_eq_true hp
theorem tE {T:Nat} {xs ord:List Int} (ho:0<ord.length) (h0:∀ x∈ord,0≤x):∀ n,n≤T→oH (cy T xs ord n)+n=T
 | 0,_=>by rw [cy];simp [oH,List.countP_replicate]
 | n+1,hn=>by
   have ih:=tE (T:=T) (xs:=xs) ho h0 n (by omega)
   have hl:=kx T xs ord n;have hfp:0<oH (cy T xs ord n):=by
    generalize oH (cy T xs ord n)=q at *
    omega
   obtain ⟨j,hj,hf⟩:=xE hfp;rw [hl] at hj;have hb:=qt T xs (cy T xs ord n) (ord.getD (n % ord.length) 0).toNat T ⟨j,hj,hf⟩;have hb2:=Av T xs (cy T xs ord n) (ord.getD (n % ord.length) 0).toNat T hb;have hb3:=(un T xs (cy T xs ord n) (ord.getD (n % ord.length) 0).toNat T).2 hb;have hnn:0≤ord.getD (n % ord.length) 0:=by
    have hlt:n % ord.length<ord.length:=Nat.mod_lt _ ho;rw [List.getD,List.getElem?_eq_getElem hlt,Option.getD_some];exact h0 _ (List.getElem_mem hlt)
   rw [cy];generalize ord.getD (n % ord.length) 0=p at *
   generalize cM T xs (cy T xs ord n) p.toNat T=q at *
   generalize cy T xs ord n=out at *
   have hq:q.toNat<out.length:=by omega
   unfold oH at *
   rw [List.countP_set hq];rw [List.getD,List.getElem?_eq_getElem hq,Option.getD_some] at hb2;rw [if_pos (decide_eq_true hb2),if_neg (by rw [decide_eq_false (by omega)];decide)]
   have:0<out.countP fun x=>decide (x<0):=List.countP_pos_iff.2 ⟨out[q.toNat],List.getElem_mem hq,decide_eq_true hb2⟩
   omega
theorem Cs {T:Nat} {xs ord:List Int} (ho:0<ord.length) (h0:∀ x∈ord,0≤x) {n:Nat} (hn:n<T):∃ q:Nat,q<T∧cM T xs (cy T xs ord n) (ord.getD (n % ord.length) 0).toNat T=(q:Int):=by
 have h:=tE (T:=T) (xs:=xs) ho h0 n (by omega)
 have hfp:0<oH (cy T xs ord n):=by
  generalize oH (cy T xs ord n)=q at *
  omega
 obtain ⟨j,hj,hf⟩:=xE hfp;rw [kx] at hj;have hb:=qt T xs (cy T xs ord n) (ord.getD (n % ord.length) 0).toNat T ⟨j,hj,hf⟩;have hb3:=(un T xs (cy T xs ord n) (ord.getD (n % ord.length) 0).toNat T).2 hb;exact ⟨(cM T xs (cy T xs ord n) (ord.getD (n % ord.length) 0).toNat T).toNat,by omega,by omega⟩
def qI (P T:Nat) (xs ord:List Int):Option (List Int):=if cH ord 1 8 0 ((P:Int) - 1)=true then some (cy T xs ord T) else none
theorem F3 {ord:List Int} {P:Nat} (h:cH ord 1 8 0 ((P:Int) - 1)=true):1≤ord.length∧ord.length≤8∧∀ x∈ord,0≤x∧x<(P:Int):=by
 rw [fT] at h;obtain ⟨⟨h1,h2⟩,h3⟩:=h;exact ⟨by omega,by omega,fun x hx=>by have:=h3 x hx;omega⟩
theorem yn (w:World) (P T:Nat) (aV:Option Addr) (cV:Nat) (xV:List Int) (aO:Option Addr) (cO:Nat) (ord:List Int) (hG:bu P T xV=true) (hV:Rd w w.heap.size aV (ae xV)) (hO:Rd w w.heap.size aO (ae ord)) (lO:ord.length≤1048576) :
 Calls Tryz.prog 198 #[.agg #[.int .i64 P,.int .i64 T,.slice aV xV.length cV],.slice aO ord.length cO] w (so (qI P T xV ord) w):=by
 have hG':=hG;obtain ⟨P',T',e1,e2,p1,p6,t1,t8,lV,hb⟩:=cq hG';obtain rfl:P=P':=Int.ofNat.inj e1;obtain rfl:T=T':=Int.ofNat.inj e2;have hPT:P * T≤48:=Nat.le_trans (Nat.mul_le_mul p6 t8) (by decide)
 have KG:=Na (Blk.new w [.int .i64 P,.int .i64 T,.slice aV xV.length cV] 28);have B1:=Na (ah w (.cells #[.int .i64 P,.int .i64 T,.slice aV xV.length cV] 28));have LV:=Na (fun v (hbl:Below w.heap.size w v)=>eo v P T aV cV xV (hV.to hbl) (by omega))
 have LM:=Na (fun v (hbl:Below w.heap.size w v)=>hH v aO cO ord 1 8 0 ((P:Int) - 1) (hO.to hbl) (by omega))
 have LN:=Na (fun v=>Ay v T t1 (by omega))
 have LO:=Na (fun v (hbl:Below w.heap.size w v) (i t:Nat) (hi:i<P) (ht:t<T)=>pG v P T i t aV cV xV (hV.to hbl) (by rw [lV];exact dE hi ht) (by omega))
 have HO:=Na hO;rw [hG] at LV;have HE:Hid (qI P T xV ord=if cH ord 1 8 0 ((P:Int) - 1)=true then some (cy T xV ord T) else none):=rfl;have HMy:=Na (fun h=>F3 (ord:=ord) (P:=P) h)
 clear hV hO hG hG' lV hb e1 e2
 cases hm:cH ord 1 8 0 ((P:Int) - 1) with
 | false =>
   rw [hm] at LM HE;rw [if_neg (by decide)] at HE
   rw [HE.out];clear HE HMy hm
   go_enter Tryz.func198,Tryz.ntmps198;go_wp2_with fail;refine (LV.out _ B1.out).mono ?_;rintro e w2 ⟨rfl,hb2⟩;have BB:=Na (aa B1.out hb2);have K2:=KG.out.same hb2;have q0:w2.cell? ⟨w.heap.size,0,none⟩=some (.int .i64 P):=K2.cell 0;have LM2:=Na (LM.out _ BB.out);clear hb2 K2 LV LM;go_wp2_with fail;refine LM2.out.mono ?_;rintro e w3 ⟨rfl,rfl⟩;go_wp2_with fail
   go_ret2
   exact ⟨BB.out,rfl⟩
 | true =>
   obtain ⟨l1,l8,hord⟩:=HMy.out hm;rw [hm] at LM HE;rw [if_pos rfl] at HE;rw [HE.out];have HBst:=Na (fun n (hn:n<T)=>Cs (T:=T) (xs:=xV) (ord:=ord) (by omega) (fun x hx=>(hord x hx).1) hn)
   have HLen:=Na (kx T xV ord);have HSt:Hid (∀ n,cy T xV ord (n+1)=(cy T xV ord n).set (cM T xV (cy T xV ord n) (ord.getD (n % ord.length) 0).toNat T).toNat (ord.getD (n % ord.length) 0)):=fun n=>rfl
   have H0:Hid (cy T xV ord 0=List.replicate T (-1)):=rfl;have HBd:=Na (fun out i k=>un T xV out i k)
   have HBs:Hid (∀ out i k,cM T xV out i (k+1)=if out.getD k 0<0∧(cM T xV out i k<0∨ir T xV i (cM T xV out i k).toNat<ir T xV i k) then (k:Int) else cM T xV out i k):=fun out i k=>rfl
   have HB0:Hid (∀ out i,cM T xV out i 0 = -1):=fun out i=>rfl
   have HOrd:=Na (fun k (hk:k<ord.length)=>hord _ (show ord.getD k 0∈ord by rw [List.getD,List.getElem?_eq_getElem hk];exact List.getElem_mem hk))
   clear HE HMy hm hord
   go_enter Tryz.func198,Tryz.ntmps198;go_wp2_with fail;refine (LV.out _ B1.out).mono ?_;rintro e w2 ⟨rfl,hb2⟩;have BB:=Na (aa B1.out hb2);have K2:=KG.out.same hb2;have HK2:=Na K2;have q0:w2.cell? ⟨w.heap.size,0,none⟩=some (.int .i64 P):=K2.cell 0;have q1:w2.cell? ⟨w.heap.size,1,none⟩=some (.int .i64 T):=K2.cell 1;have LM2:=Na (LM.out _ BB.out);clear hb2 K2 LV LM KG;go_wp2_with fail;refine LM2.out.mono ?_;rintro e w3 ⟨rfl,rfl⟩;go_wp2_with fail;refine (LN.out _).mono ?_;rintro e w4 ⟨rfl,kO,hb4⟩;have hgl:=kO.lt;obtain ⟨g,hg⟩:∃ g,g=w2.heap.size+1:=⟨_,rfl⟩;have hK2lt:=HK2.out.lt;rw [← hg] at kO hgl ⊢;have hg0:w.heap.size<g:=by omega
   have HK4:=Na (HK2.out.same hb4);have HB4:=Na (aa BB.out hb4);have HKO:=Na kO;clear q0 q1 LM2 LN kO hb4 HK2 BB hK2lt hg;go_wp2_with fail
   go_loopw [28] (fun nv wr=>∃ n:Nat,n≤T∧nv=.int .i64 n∧Hid (Blk wr g (ae (cy T xV ord n)) 2)∧Hid (Touch w4 wr g (g+1))) (fun nv _=>T - (intOf nv).toNat)
   case atStart=>exact ⟨0,Nat.zero_le _,rfl,by rw [Hid,H0.out];exact HKO.out,Touch.refl _ _ _⟩
   case round =>
    clear HKO H0;obtain ⟨n,hn,rfl,hK,hT⟩:=hrel;have n0:(0:Int)≤(n:Int):=Int.natCast_nonneg _;have hts:=hT.out.size;have Bw:=Na (aE HB4.out hT.out (by omega) (by have:=HK4.out.lt;omega))
    by_cases hlt:n<T
    · have hni:(n:Int)<(T:Int):=by omega
      obtain ⟨J,hJ⟩:∃ J,J=n % ord.length:=⟨_,rfl⟩;have hJl:J<ord.length:=by rw [hJ];exact Nat.mod_lt _ (by omega)
      have hJi:(n:Int) % (ord.length:Int)=(J:Int):=by rw [hJ];exact (Int.natCast_emod n ord.length).symm
      have j0:(0:Int)≤(J:Int):=Int.natCast_nonneg _;have hJil:(J:Int)<(ord.length:Int):=by omega
      have hol0:¬ (ord.length:Int)=0:=by omega
      have holp:(0:Int)<(ord.length:Int):=by omega
      obtain ⟨bO,oO,rfl,hbO,hcO⟩:=(HO.out.to Bw.out).at hJl;have c1:=hcO J hJl;obtain ⟨p,hp⟩:∃ p:Nat,ord.getD J 0=(p:Int):=⟨(ord.getD J 0).toNat,by have:=(HOrd.out J hJl).1;omega⟩;have hpP:p<P:=by have:=(HOrd.out J hJl).2;omega
      have HST:=HSt.out n;obtain ⟨q,hqT,hq⟩:=HBst.out n hlt;rw [← hJ,hp,Int.toNat_natCast] at HST hq;rw [hp] at c1;have p0:(0:Int)≤(p:Int):=Int.natCast_nonneg _;have HL:=HLen.out n;obtain ⟨out,hout⟩:∃ o,o=cy T xV ord n:=⟨_,rfl⟩;rw [← hout] at HST hq HL hK;rw [hq,Int.toNat_natCast] at HST;have HSTh:=Na HST;have HLh:=Na HL;have HQ:=Na hq;have Bs:=Na (HBs.out out p);have Bd:=Na (HBd.out out p);have B00:=Na (HB0.out out p);obtain ⟨wo,hwo⟩:∃ W:World,W=wr:=⟨_,rfl⟩;subst hwo;have hwog:g<wo.heap.size:=hK.out.lt;clear hJ hp HST HL hq hout hcO HSt HBst HBs HBd HB0 HLen HOrd;go_wp2_with fail;rw [hJi];clear hJi c1 hol0 holp hJil j0
      go_loopw [40,9] (fun kv bv wr=>∃ k:Nat,k≤T∧kv=.int .i64 k∧bv=.int .i64 (cM T xV out p k)∧Hid (Below wo.heap.size wo wr)) (fun kv _ _=>T - (intOf kv).toNat)
      case atStart=>exact ⟨0,Nat.zero_le _,rfl,by rw [B00.out],Below.refl _ _⟩
      case round =>
       clear B00;obtain ⟨k,hk,rfl,rfl,hw⟩:=hrel;have k0:(0:Int)≤(k:Int):=Int.natCast_nonneg _
       by_cases hkl:k<T
       · have hki:(k:Int)<(T:Int):=by omega
         have Bk:=Na (aa Bw.out hw.out);have Kr:=hK.out.same hw.out;have c2:wr.cell? ⟨g,k,none⟩=some (.int .i64 (out.getD k 0)):=by rw [Kr.cell];exact ex _ _ (by rw [HLh.out];exact hkl)
         have hs:=Bs.out k;have hd:=Bd.out k;have KV:=(HK4.out.touch hT.out (.inl (by omega))).same hw.out
         have HKV:=Na KV;have LO1:=Na (fun v (hbl:Below w.heap.size w v) (t:Nat) ht=>LO.out v hbl p t hpP ht)
         obtain ⟨x,hx⟩:∃ x,x=out.getD k 0:=⟨_,rfl⟩;obtain ⟨y,hy⟩:∃ y,y=cM T xV out p k:=⟨_,rfl⟩;rw [← hx] at c2 hs;rw [← hy] at hs hd ⊢;clear KV hx hy Kr
         cases tx:decide (x<0) with
         | false =>
           have hx0:¬ x<0:=of_decide_eq_false tx;have hn:Hid (cM T xV out p (k+1)=y):=by rw [Hid,hs,if_neg (fun h=>hx0 h.1)]
           clear hs hd;go_wp2_with fail;refine bf (by kernel_rfl) (by kernel_rfl) ?_
           repeat (go_big_quiet_step (fail))
           refine wpQuiet_nil ?_
           rintro wq ⟨⟨_,hbq⟩,rfl⟩;have BQ:=Na (aa hw.out hbq);clear hbq hw c2;go_wp2_with fail;go_roundw
           case rel=>exact ⟨k+1,by omega,by go_num,by rw [hn.out],BQ.out⟩
           case measure=>simp [intOf];omega
         | true =>
           have hx0:x<0:=of_decide_eq_true tx
           cases ty:decide (y<0) with
           | true =>
             have hy0:y<0:=of_decide_eq_true ty;have hn:Hid (cM T xV out p (k+1)=(k:Int)):=by rw [Hid,hs,if_pos ⟨hx0,.inl hy0⟩]
             clear hs hd;go_wp2_with fail;refine bf (by kernel_rfl) (by kernel_rfl) ?_
             repeat (go_big_quiet_step (fail))
             refine wpQuiet_nil ?_
             rintro wq ⟨⟨_,hbq⟩,rfl⟩;have BQ:=Na (aa hw.out hbq);clear hbq hw c2;go_wp2_with fail;go_roundw
             case rel=>exact ⟨k+1,by omega,by go_num,by rw [hn.out],BQ.out⟩
             case measure=>simp [intOf];omega
           | false =>
             have hy0:¬ y<0:=of_decide_eq_false ty;obtain ⟨z,rfl⟩:∃ z:Nat,y=(z:Int):=⟨y.toNat,by omega⟩;have hzk:z<k:=by have:=hd.2 (by omega);omega
             have hzT:z<T:=by omega
             rw [Int.toNat_natCast] at hs;have HF:Hid (∀ z9:Later wr,(z9.w'.cell? ⟨w.heap.size,0,none⟩=some (.int .i64 P)∧z9.w'.cell? ⟨w.heap.size,1,none⟩=some (.int .i64 T)∧z9.w'.cell? ⟨w.heap.size,2,none⟩=some (.slice aV xV.length cV))∧Below w.heap.size w z9.w'):=fun z9=>⟨⟨(HKV.out.same z9.h).cell 0,(HKV.out.same z9.h).cell 1,(HKV.out.same z9.h).cell 2⟩,aa Bk.out z9.h⟩
             have D0:∀ z9:Later wr,z9.w'.cell? ⟨w.heap.size,0,none⟩=some (.int .i64 P):=fun z9=>(HF.out z9).1.1
             have D1:∀ z9:Later wr,z9.w'.cell? ⟨w.heap.size,1,none⟩=some (.int .i64 T):=fun z9=>(HF.out z9).1.2.1
             have D2:∀ z9:Later wr,z9.w'.cell? ⟨w.heap.size,2,none⟩=some (.slice aV xV.length cV):=fun z9=>(HF.out z9).1.2.2
             have LA:=Na (fun v hbl=>LO1.out v hbl k hkl)
             have LB:=Na (fun v hbl=>LO1.out v hbl z hzT)
             generalize ir T xV p k=vk at *
             generalize ir T xV p z=vz at *
             have z0:(0:Int)≤(z:Int):=Int.natCast_nonneg _
             cases tg:decide (vz<vk) with
             | true =>
               have hn:Hid (cM T xV out p (k+1)=(k:Int)):=by rw [Hid,hs,if_pos ⟨hx0,.inr (of_decide_eq_true tg)⟩]
               clear hs hd;go_wp2_with fail;refine bf (by kernel_rfl) (by kernel_rfl) ?_
               repeat (go_big_quiet_step (first | (go_at_call 196;with_reducible exact dx (LA.out _ (HF.out _).2)) | (go_at_call 196;with_reducible exact dx (LB.out _ (HF.out _).2))))
               refine wpQuiet_nil ?_
               rintro wq ⟨⟨_,hbq⟩,rfl⟩;have BQ:=Na (aa hw.out hbq);clear hbq hw c2 D0 D1 D2;go_wp2_with fail;go_roundw
               case rel=>exact ⟨k+1,by omega,by go_num,by rw [hn.out],BQ.out⟩
               case measure=>simp [intOf];omega
             | false =>
               have hn:Hid (cM T xV out p (k+1)=(z:Int)):=by rw [Hid,hs,if_neg (fun h=>h.2.elim (fun h=>hy0 h) (fun h=>of_decide_eq_false tg h))]
               clear hs hd;go_wp2_with fail;refine bf (by kernel_rfl) (by kernel_rfl) ?_
               repeat (go_big_quiet_step (first | (go_at_call 196;with_reducible exact dx (LA.out _ (HF.out _).2)) | (go_at_call 196;with_reducible exact dx (LB.out _ (HF.out _).2))))
               refine wpQuiet_nil ?_
               rintro wq ⟨⟨_,hbq⟩,rfl⟩;have BQ:=Na (aa hw.out hbq);clear hbq hw c2 D0 D1 D2;go_wp2_with fail;go_roundw
               case rel=>exact ⟨k+1,by omega,by go_num,by rw [hn.out],BQ.out⟩
               case measure=>simp [intOf];omega
       · obtain rfl:k=T:=by omega
         rw [HQ.out];have q0:(0:Int)≤(q:Int):=Int.natCast_nonneg _;have hqi:(q:Int)<(k:Int):=by omega
         have Kr:=hK.out.same hw.out;have c2:wr.cell? ⟨g,q,none⟩=some (.int .i64 (out.getD q 0)):=by rw [Kr.cell];exact ex _ _ (by rw [HLh.out];exact hqT)
         have c3:=Kr.free q;have HN:Hid (Blk (wr.setCell ⟨g,q,none⟩ (.int .i64 p)) g (ae (cy k xV ord (n+1))) 2):=by
          rw [HSTh.out];exact Kr.setI q (p:Int)
         have HT2:=Na ((hT.out.trans (Below.touch hw.out g (g+1))).trans (ar wr g q (.int .i64 p)));generalize out.getD q 0=z3 at *
         clear Kr hK hT hw;go_wp2_with fail;go_roundw
         case rel=>exact ⟨n+1,by omega,by go_num,HN,HT2⟩
         case measure=>simp [intOf];omega
    · obtain rfl:n=T:=by omega
      have HL:=Na (HLen.out n);have HRd:=Na (hK.out.rd hK.out.lt);clear hK hT;go_wp2_with fail
      go_ret2
      exact ⟨Bw.out,_,n,by rw [HL.out];rfl,HRd.out⟩
theorem qx (w:World) (U R:Int) (a2:Option Addr) (c2:Nat) (x2:List Int) (a3:Option Addr) (c3:Nat) (x3:List Int) (a:Option Addr) (c:Nat) (ch:List Int) (h:RdCrowd w w.heap.size a2 x2 a3 x3) (hl2:x2.length≤1048576) (hl3:x3.length≤1048576) (g:Rd w w.heap.size a (ae ch)) (hl:ch.length≤1048576) :
 Calls Tryz.prog 244 #[.agg #[.int .i64 U,.int .i64 R,.slice a2 x2.length c2,.slice a3 x3.length c3],.slice a ch.length c] w fun e w'=>e=.returned (.bool (jb ⟨U,R,x2,x3⟩ ch))∧Below w.heap.size w w':=by
 have LV:=Na (fun w' hb=>dD w' U R a2 c2 x2 a3 c3 x3 (h.to hb) hl2 hl3)
 have LM:=Na (fun w' hb=>hH w' a c ch U U 0 ((x2.length:Int) - 1) (g.to hb) (by omega))
 cases t1:bt ⟨U,R,x2,x3⟩ with
 | false =>
   have HF:Hid (jb ⟨U,R,x2,x3⟩ ch=false):=by simp [Hid,jb,t1]
   rw [t1] at LV;clear h g
   go_enter Tryz.func244,Tryz.ntmps244;go_wp2_with fail;refine (LV.out _ (ah _ _)).mono ?_;rintro e w1 ⟨rfl,hb1⟩;have B1:=aa (ah w _) hb1;clear hb1;go_wp2_with fail;go_ret;exact ⟨av HF.out.symm,B1⟩
 | true =>
   have HF:Hid (jb ⟨U,R,x2,x3⟩ ch=cH ch U U 0 ((x2.length:Int) - 1)):=by simp [Hid,jb,t1]
   rw [t1] at LV;clear h g
   go_enter Tryz.func244,Tryz.ntmps244;go_wp2_with fail;refine (LV.out _ (ah _ _)).mono ?_;rintro e w1 ⟨rfl,hb1⟩;have kA:=(Blk.new w [.int .i64 U,.int .i64 R,.slice a2 x2.length c2,.slice a3 x3.length c3] 30).same hb1;have B1:=aa (ah w (.cells #[.int .i64 U,.int .i64 R,.slice a2 x2.length c2,.slice a3 x3.length c3] 30)) hb1;have q0:=kA.cell 0;have q2:=kA.cell 2;simp only [List.getElem?_cons_zero,List.getElem?_cons_succ] at q0 q2;have L2:=Na (LM.out _ B1);clear hb1 kA
   go_wp2_with (go_at_call 75;refine L2.out.mono ?_;rintro e w' ⟨rfl,rfl⟩)
   go_ret;exact ⟨av HF.out.symm,B1⟩
def fu (c:Cr) (n:Nat) (ch:List Int):List Int:=(List.range n).map fun r=>cU c ch r
theorem fL (c:Cr) (n:Nat) (ch:List Int):(fu c n ch).length=n:=by simp [fu]
theorem qi {c:Cr} {n:Nat} {ch:List Int} {r:Nat} (h:r<n):(fu c n ch)[r]? = some (cU c ch r):=by simp [fu,h]
theorem Bz (c:Cr) (n:Nat):fu c n []=List.replicate n 0:=by
 apply List.ext_getElem <;> simp [fu,cU]
theorem Mo {fo cs:List Int} {k:Nat} {v:Int} (hk:k<cs.length) (hl:fo.length=cs.length) (hv:fo[k]? = some v):(fo.take k ++ cs.drop k).set k v=fo.take (k+1) ++ cs.drop (k+1):=by
 have h1:(fo.take k).length=k:=by simp;omega
 rw [List.set_append_right _ _ (by omega),h1,Nat.sub_self,List.drop_eq_getElem_cons hk,List.set_cons_zero,List.take_add_one,hv]
 simp
theorem Ku (a:Nat) (ha:a<9223372036854775808):bits .and .i64 (a:Int) 1=((a % 2:Nat):Int):=by
 show IntKind.i64.wrap ((BitVec.ofInt 64 (a:Int) &&& BitVec.ofInt 64 (1:Int)).toNat:Int)=_
 have h1:(BitVec.ofInt 64 (1:Int)).toNat=1:=by decide
 have h2:(BitVec.ofInt 64 (a:Int)).toNat=a:=by rw [BitVec.ofInt_natCast,BitVec.toNat_ofNat];exact Nat.mod_eq_of_lt (by omega)
 rw [BitVec.toNat_and,h1,h2,show a &&& 1=a % 2 from Nat.and_two_pow_sub_one_eq_mod a 1]
 exact IntWalk.i64_in _ (by omega)
theorem GZ {y:Int} (h1:0≤y) (h8:y≤255) (r:Nat):bits .and .i64 (y / 2 ^ r) 1=gw y r:=by
 obtain ⟨m,rfl⟩:∃ m:Nat,y=m:=⟨y.toNat,by omega⟩;have e:(m:Int) / 2 ^ r=((m / 2 ^ r:Nat):Int):=by simp
 have hle:m / 2 ^ r≤m:=Nat.div_le_self _ _;unfold gw;rw [e,Ku _ (by omega)]
 omega
theorem Ia (w:World) (U:Int) (n:Nat) (a2:Option Addr) (c2:Nat) (x2:List Int) (a3:Option Addr) (c3:Nat) (x3:List Int) (a:Option Addr) (c:Nat) (ch:List Int) (h:RdCrowd w w.heap.size a2 x2 a3 x3) (g:Rd w w.heap.size a (ae ch)) (hc:Can ⟨U,n,x2,x3⟩ ch) :
 Calls Tryz.prog 254 #[.agg #[.int .i64 U,.int .i64 n,.slice a2 x2.length c2,.slice a3 x3.length c3],.slice a ch.length c] w fun e w'=>∃ a' c',e=.returned (.slice a' n c')∧OwnI 2 w' w.heap.size w'.heap.size a' c' (fu ⟨U,n,x2,x3⟩ n ch)∧Below w.heap.size w w':=by
 have hn8:n≤8:=by have:=hc.v.r8;simp only at this;omega
 have hU8:ch.length≤8:=by have:=hc.v.u8;have:=hc.len;simp only at *;omega
 have hw8:x2.length≤8:=hc.v.w8;have HW:=Na hc.v.way;have HM:=Na hc.mem;have h2:=Na h.1;have hg:=Na g;clear h g hc;obtain ⟨C,hC⟩:∃ C:Cr,C=⟨U,n,x2,x3⟩:=⟨_,rfl⟩;have HC:=Na hC;rw [← hC];clear hC;have Hz:Hid (fu C n []=List.replicate n 0):=Bz C n
 go_enter Tryz.func254,Tryz.ntmps254
 go_wp2_with (at_make;refine gU _ rfl _ _ 24 rfl 2 (.int .i64 0) 8 Tryz.underlying24 aU rfl _ _ n rfl rfl (by omega) (by unfold maxLen;omega) ?_)
 intro w1 hb1 hw1 hs1;rw [fV,← Hz.out] at hb1
 try simp at hb1
 have kA:=(Blk.new w [.int .i64 U,.int .i64 n,.slice a2 x2.length c2,.slice a3 x3.length c3] 30).below hw1 (by omega)
 have B1:=(ah w (.cells #[.int .i64 U,.int .i64 n,.slice a2 x2.length c2,.slice a3 x3.length c3] 30)).trans (hw1.mono (by omega))
 have KA:=Na kA;clear hw1 kA;go_wp2_with fail
 go_loopw [14] (fun i wr=>∃ k:Nat,k≤ch.length∧i=.int .i64 k∧Hid (Blk wr (w.heap.size+1) (ae (fu C n (ch.take k))) 2)∧Hid (Blk wr w.heap.size [.int .i64 U,.int .i64 n,.slice a2 x2.length c2,.slice a3 x3.length c3] 30)∧Below w.heap.size w wr∧w.heap.size+2≤wr.heap.size) (fun i _=>ch.length - (intOf i).toNat)
 case atStart=>exact ⟨0,Nat.zero_le _,rfl,hb1,KA.out,B1,by omega⟩
 case round =>
  clear hb1 KA B1 hs1;obtain ⟨k,hk,rfl,hb,hA,hw,hsz⟩:=hrel;obtain ⟨wm,rfl⟩:∃ wm:World,wm=wr:=⟨_,rfl⟩;have q1:=hA.out.cell 1;simp only [List.getElem?_cons_zero,List.getElem?_cons_succ] at q1
  by_cases hlt:k<ch.length
  · obtain ⟨b1,o1,x,rfl,hbb1,hck,hx⟩:=(hg.out.below hw (Nat.le_refl _)).get hlt
    obtain ⟨x0,x8⟩:=HM.out x (List.mem_of_getElem? hx.out);obtain ⟨q,rfl⟩:∃ q:Nat,x=q:=⟨x.toNat,by omega⟩;have hq8:q<x2.length:=by (try simp only at x8);omega
    have Htk:Hid (ch.take (k+1)=ch.take k ++ [(q:Int)]):=by show _=_;rw [List.take_add_one,hx.out];rfl
    clear hx;go_wp2_with fail
    go_loopw [20] (fun i wr=>∃ r:Nat,r≤n∧i=.int .i64 r∧Hid (Blk wr (w.heap.size+1) (ae ((fu C n (ch.take (k+1))).take r ++ (fu C n (ch.take k)).drop r)) 2)∧Hid (Blk wr w.heap.size [.int .i64 U,.int .i64 n,.slice a2 x2.length c2,.slice a3 x3.length c3] 30)∧Below w.heap.size w wr∧w.heap.size+2≤wr.heap.size) (fun i _=>n - (intOf i).toNat)
    case atStart=>exact ⟨0,Nat.zero_le _,rfl,(by rw [List.take_zero,List.drop_zero,List.nil_append];exact hb.out),hA.out,hw,hsz⟩
    case round =>
     clear hb hA q1 hck;obtain ⟨r,hr,rfl,hb,hA,hw2,hsz2⟩:=hrel
     by_cases hlr:r<n
     · have q2:=hA.out.cell 2
       simp only [List.getElem?_cons_zero,List.getElem?_cons_succ] at q2;obtain ⟨b3,o3,y,hax,hbb3,hcq,hy⟩:=(h2.out.below hw2 (Nat.le_refl _)).get (k:=q) hq8;subst hax;obtain ⟨y1,y8⟩:=HW.out _ (List.mem_of_getElem? hy.out);have hbit:=GZ (show 0≤y by omega) (show y≤255 by omega) r
       have hb01:0≤gw y r∧gw y r≤1:=by have:=nA y r;omega
       obtain ⟨hb0,hb1⟩:=hb01;have hnv:Hid (cU C (ch.take (k+1)) r=cU C (ch.take k) r+gw y r):=by
        show _=_
        rw [Htk.out,Ha,Int.toNat_natCast];have:C.ways.getD q 0=y:=by rw [HC.out];exact bZ hy.out
        rw [this]
       have hoc:=hb.out.cell r;have hof:=hb.out.free r;have e1:(ae ((fu C n (ch.take (k+1))).take r ++ (fu C n (ch.take k)).drop r))[r]? = some (.int .i64 (cU C (ch.take k) r)):=by
        have hl1:((fu C n (ch.take (k+1))).take r).length=r:=by rw [List.length_take,fL];omega
        have h2:((fu C n (ch.take (k+1))).take r ++ (fu C n (ch.take k)).drop r)[r]? = some (cU C (ch.take k) r):=by
         rw [List.getElem?_append_right (by omega),hl1,Nat.sub_self,List.getElem?_drop,Nat.add_zero]
         exact qi hlr
        simp only [ae,List.getElem?_map,h2,Option.map_some]
       rw [e1] at hoc;have hld:=nF C r (ch.take k);have hlk:(ch.take k).length≤8:=by simp;omega
       have hset:=hb.out.setI r (cU C (ch.take k) r+gw y r);rw [Mo (v:=cU C (ch.take k) r+gw y r) (by rw [fL];exact hlr) (by rw [fL,fL]) (by rw [qi hlr,hnv.out])] at hset
       obtain ⟨ld0,ld1⟩:=hld;generalize cU C (ch.take k) r=ld at *
       generalize gw y r=bi at *
       have HS:=Na hset;have HA2:=Na (hA.out.oth (g:=w.heap.size+1) (by omega) r (.int .i64 (ld+bi)))
       have hw3:=aj hw2 (g:=w.heap.size+1) (by omega) r (.int .i64 (ld+bi))
       clear e1 hset hb hy;go_wp2_with fail
       go_region
       all_goals
        go_wp2_with fail;go_roundw
        case rel=>exact ⟨r+1,by omega,by go_num,HS.out,HA2.out,au hw3,by simpa using hsz2⟩
        case measure=>simp [intOf];omega
     · have:r=n:=by omega
       subst this;have hbo:=hb.out;rw [List.drop_of_length_le (by rw [fL];exact Nat.le_refl _),List.append_nil,List.take_of_length_le (by rw [fL];exact Nat.le_refl _)] at hbo
       have HB:=Na hbo;clear hbo hb;go_wp2_with fail;go_roundw
       case rel=>exact ⟨k+1,by omega,by go_num,HB.out,hA.out,hw2,hsz2⟩
       case measure=>simp [intOf];omega
  · have:k=ch.length:=by omega
    subst this;have hbo:=hb.out;rw [List.take_length] at hbo;have HR:Hid (OwnI 2 wm w.heap.size wm.heap.size (some ⟨w.heap.size+1,0,none⟩) n (fu C n ch)):=by
     have:=(OwnI.of_blk hbo (by rw [fL];omega)).mono (lo':=w.heap.size) (by omega) (hi':=wm.heap.size) (by omega)
     rwa [fL] at this
    clear hb hbo hA;go_wp2_with fail;go_ret;exact ⟨_,_,rfl,HR.out,hw⟩
theorem Mf {C:Cr} (hv:Valid C) {r:Nat} {n:Int} (hr:(r:Int)<C.R) (n1:1≤n) (n8:n≤C.U) :
 ∃ J:Nat,(r:Int) * C.U+n - 1=J∧J<C.costs.length∧0≤(r:Int) * C.U∧(r:Int) * C.U≤64:=by
 have hu1:=hv.u1;have hu8:=hv.u8;have hr8:=hv.r8;have hcl:=hv.clen;have h1:((r:Int)+1) * C.U≤C.R * C.U:=Int.mul_le_mul_of_nonneg_right (by omega) (by omega)
 have h2:0≤(r:Int) * C.U:=Int.mul_nonneg (by omega) (by omega)
 have h3:(r:Int) * C.U≤8 * 8:=Int.mul_le_mul (by omega) hu8 (by omega) (by omega)
 rw [Int.add_mul,Int.one_mul,Int.mul_comm C.R] at h1;exact ⟨((r:Int) * C.U+n - 1).toNat,by omega,by omega,h2,by omega⟩
theorem zc (w:World) (B:Nat) (U R:Int) (r:Nat) (n:Int) (a2:Option Addr) (c2:Nat) (x2:List Int) (a3:Option Addr) (c3:Nat) (x3:List Int) (h:RdCrowd w B a2 x2 a3 x3) (hB:B≤w.heap.size) (hv:Valid ⟨U,R,x2,x3⟩) (hr:(r:Int)<R) (n1:1≤n) (n8:n≤U) :
 Calls Tryz.prog 186 #[.agg #[.int .i64 U,.int .i64 R,.slice a2 x2.length c2,.slice a3 x3.length c3],.int .i64 r,.int .i64 n] w fun e w'=>e=.returned (.int .i64 (fG ⟨U,R,x2,x3⟩ r n))∧Below w.heap.size w w':=by
 obtain ⟨J,hJ,hJl,m0,m1⟩:=Mf hv (C:=⟨U,R,x2,x3⟩) hr n1 n8;simp only at hJ hJl m0 m1;have hu8:=hv.u8;simp only at hu8;obtain ⟨b3,o3,y,rfl,hbb,hck,hy⟩:=(h.2.mono hB).get (k:=J) hJl;have HF:Hid (fG ⟨U,R,x2,x3⟩ r n=y):=by
  show _=_
  unfold fG;rw [if_neg (by omega)]
  simp only;rw [hJ,Int.toNat_natCast];exact bZ hy.out
 have hbb':b3≠w.heap.size:=by omega
 clear h hv hy
 go_enter Tryz.func186,Tryz.ntmps186;go_wp2_with fail;go_ret;exact ⟨ce HF.out.symm,ah _ _⟩
def iI (C:Cr) (ch:List Int) (wy:Int) (k:Nat):Int:=gu (pq C ch wy) k
theorem Gj {C:Cr} (h:Valid C) (ch:List Int) (wy:Int) (k:Nat) (hk:k≤8):-800000≤iI C ch wy k∧iI C ch wy k≤800000:=by
 have:=nr (f:=pq C ch wy) (m:=100000) (n:=k) (fun i _=>by
  unfold pq
  split
  · exact ny h i _
  · omega)
 unfold iI;omega
theorem Ix {C:Cr} {ch:List Int} {u:Nat} (hu:u<ch.length) {r:Nat} (h:gw (C.ways.getD (ch.getD u 0).toNat 0) r=1):1≤cU C ch r:=by
 have:=wu C r ch u hu;omega
theorem cI (w:World) (g j:Nat) (u:Value):w.grownBy (w.setCell ⟨g,j,none⟩ u) (some g):=⟨rfl,rfl,rfl,by simp,fun i _ hi=>Below.heap_setCell _ _ _ _ (fun e=>hi (by simp [e]))⟩
theorem dh {w w':World} (hb:Below w.heap.size w w') (r:Option Nat):w.grownBy w' r:=⟨hb.os,hb.tape,hb.output,hb.size,fun k hk _=>hb.block k hk⟩
theorem yq {w w4:World} {g:Nat} {cs:List Value} {T:TypeId} (h:Blk w g cs T) (h4:Blk w4 g cs T) (hg:w.grownBy w4 (some g)):Below w.heap.size w w4 :=
 ⟨hg.os,hg.tape,hg.output,hg.size,fun k hk=>by
   by_cases e:k=g
   · subst e;exact h4.trans h.symm
   · exact hg.block k hk (by intro e2;injection e2 with e2;exact e e2)⟩
theorem I5 {xs:List Int} {u:Nat} (h:u<xs.length) (v:Int):(xs.set u v).set u (xs.getD u 0)=xs:=by
 rw [List.set_set]
 apply List.ext_getElem
 · simp
 · intro i h1 h2
   rw [List.getElem_set]
   split
   · rename_i e;subst e;simp [List.getD,List.getElem?_eq_getElem h]
   · rfl
theorem yX (w:World) (B g:Nat) (tl:List Value) (U:Int) (n:Nat) (a2:Option Addr) (c2:Nat) (x2:List Int) (a3:Option Addr) (c3:Nat) (x3:List Int) (c:Nat) (ch:List Int) (u wy:Nat)
 (hA:Blk w g (ae ch ++ tl) 2) (hBg:B≤g) (h:RdCrowd w B a2 x2 a3 x3) (hc:Can ⟨U,n,x2,x3⟩ ch) (hu:u<ch.length) (hwy:wy<x2.length) :
 Calls Tryz.prog 250 #[.agg #[.int .i64 U,.int .i64 n,.slice a2 x2.length c2,.slice a3 x3.length c3],.slice (some ⟨g,0,none⟩) ch.length c,.int .i64 u,.int .i64 wy] w fun e w'=>e=.returned (.int .i64 (df ⟨U,n,x2,x3⟩ (ch.set u (wy:Int)) u))∧Below w.heap.size w w':=by
 have hn8:n≤8:=by have:=hc.v.r8;simp only at this;omega
 have hUl:(ch.length:Int)=U:=hc.len;have hU8:ch.length≤8:=by have:=hc.v.u8;simp only at this;omega
 have hgl:=hA.lt;have hgne:g≠w.heap.size:=by omega
 have hc':Can ⟨U,n,x2,x3⟩ (ch.set u (wy:Int)):=hc.set hwy;have lset:(ch.set u (wy:Int)).length=ch.length:=by simp
 -- the worlds
 have hcu:=kd hA (j:=u) hu;have hfu:=hA.free u;have w2A:=(sU hA (j:=u) hu (wy:Int)).alloc (.cells #[.int .i64 U,.int .i64 n,.slice a2 x2.length c2,.slice a3 x3.length c3] 30);have hB2:Below B w ((w.setCell ⟨g,u,none⟩ (.int .i64 wy)).alloc (.cells #[.int .i64 U,.int .i64 n,.slice a2 x2.length c2,.slice a3 x3.length c3] 30)):=(aj (Below.refl B w) hBg u (.int .i64 wy)).alloc (by simp;omega) _
 have h2:=(h.below hB2 (Nat.le_refl _)).mono (C:=((w.setCell ⟨g,u,none⟩ (.int .i64 wy)).alloc (.cells #[.int .i64 U,.int .i64 n,.slice a2 x2.length c2,.slice a3 x3.length c3] 30)).heap.size) (by simp;omega)
 have LL0:=Ia _ U n a2 c2 x2 a3 c3 x3 (some ⟨g,0,none⟩) c (ch.set u (wy:Int)) h2 (AM w2A (by simp;omega)) hc'
 rw [lset] at LL0;have LL:=Na LL0;have HW2A:=Na w2A;have G2:Hid (w.grownBy ((w.setCell ⟨g,u,none⟩ (.int .i64 wy)).alloc (.cells #[.int .i64 U,.int .i64 n,.slice a2 x2.length c2,.slice a3 x3.length c3] 30)) (some g)):=fW (cI _ g u _) (dh (ah _ _) _);have kA2:=Blk.new (w.setCell ⟨g,u,none⟩ (.int .i64 wy)) [.int .i64 U,.int .i64 n,.slice a2 x2.length c2,.slice a3 x3.length c3] 30;rw [show (w.setCell ⟨g,u,none⟩ (.int .i64 wy)).heap.size=w.heap.size by simp] at kA2
 have KA2:=Na kA2;have HA:=Na hA;have Hh:=Na h;have HB2:=Na hB2;have HV:=Na hc.v;have HSB:=Na (I5 hu (wy:Int));have HP:Hid (∀ k,k≤8→-800000≤iI ⟨U,n,x2,x3⟩ (ch.set u (wy:Int)) wy k∧iI ⟨U,n,x2,x3⟩ (ch.set u (wy:Int)) wy k≤800000):=fun k hk=>Gj hc.v _ _ k hk
 have egs:(ch.set u (wy:Int)).getD u 0=wy:=gy hu _;have HF:Hid (df ⟨U,n,x2,x3⟩ (ch.set u (wy:Int)) u=iI ⟨U,n,x2,x3⟩ (ch.set u (wy:Int)) wy n):=by show _=_;unfold df iI;rw [egs];simp
 have HLd:Hid (∀ r:Nat,gw (x2.getD wy 0) r=1→1≤cU ⟨U,n,x2,x3⟩ (ch.set u (wy:Int)) r):=fun r hr=>Ix (C:=⟨U,n,x2,x3⟩) (u:=u) (by rw [lset];exact hu) (by rw [egs];exact hr)
 have HL:Hid (∀ r:Nat,0≤cU ⟨U,n,x2,x3⟩ (ch.set u (wy:Int)) r∧cU ⟨U,n,x2,x3⟩ (ch.set u (wy:Int)) r≤U):=fun r=>by have:=nF ⟨U,n,x2,x3⟩ r (ch.set u (wy:Int));rw [lset] at this;omega
 have Hcb:Hid (∀ r:Nat,∀ m:Int,-100000≤fG ⟨U,n,x2,x3⟩ r m∧fG ⟨U,n,x2,x3⟩ r m≤100000):=fun r m=>ny HV.out r m
 have HWay:=Na hc.v.way;have LC:=Na (fun (w':World) (hr:RdCrowd w' B a2 x2 a3 x3) (hB':B≤w'.heap.size) (r:Nat) (m:Int) (hrn:(r:Int)<n) (m0:1≤m) (m8:m≤U)=>zc w' B U n r m a2 c2 x2 a3 c3 x3 hr hB' hc.v hrn m0 m8)
 obtain ⟨b2,o2,y,hax,hbb2,hcy0,hy⟩:=h.1.get (k:=wy) hwy;have Hcy:=Na hcy0;have hyg:x2.getD wy 0=y:=bZ hy.out;have hyw:=HWay.out y (List.mem_of_getElem? hy.out);rw [hyg] at HLd;have Hpay:Hid (∀ r:Nat,pq ⟨U,n,x2,x3⟩ (ch.set u (wy:Int)) wy r=if gw y r=1 then fG ⟨U,n,x2,x3⟩ r (cU ⟨U,n,x2,x3⟩ (ch.set u (wy:Int)) r) else 0):=fun r=>by
  have eqy:(⟨U,n,x2,x3⟩:Cr).ways.getD ((wy:Int)).toNat 0=y:=hyg;unfold pq;simp only [eqy]
 subst hax;obtain ⟨y1,y8⟩:=hyw;obtain ⟨old,hold⟩:∃ old,old=ch.getD u 0:=⟨_,rfl⟩;rw [← hold] at hcu HSB;generalize hC:(⟨U,(n:Int),x2,x3⟩:Cr)=C at *
 have Hul:=Na hUl;clear hC hold hUl hc hc' lset w2A hB2 h2 LL0 kA2 hA h egs hcy0 hy hyg HWay
 go_enter Tryz.func250,Tryz.ntmps250;go_wp2_with fail;refine LL.out.mono ?_;rintro e w3 ⟨a',c',rfl,ol,hb3⟩;have k3A:=HW2A.out.same hb3;have kk3:=KA2.out.same hb3;have G3:=fW G2.out (dh hb3 _);have B3:=HB2.out.trans (hb3.mono (by simp;omega))
 have s3:=hb3.size;simp at s3
 have hcell3:=kd k3A (j:=u) (by simpa using hu)
 have hfree3:=k3A.free u;have k4A:=sU k3A (j:=u) (by simpa using hu) old
 rw [HSB.out] at k4A;have G4:=Na (fW G3 (cI w3 g u (.int .i64 old)));have kk4:=Na (kk3.oth (g:=g) (by omega) u (.int .i64 old))
 have B4:=Na (aj B3 hBg u (.int .i64 old));have ol4:=Na (ol.touch (Touch.of_grown (cI w3 g u (.int .i64 old)) (Nat.le_refl _) (Nat.lt_succ_self _)) (.inr (by simp;omega)))
 have K4A:=Na k4A;have h34:w3.heap.size≤(w3.setCell ⟨g,u,none⟩ (.int .i64 old)).heap.size:=by simp
 have e4:=kk4.out.cell 1;simp only [List.getElem?_cons_zero,List.getElem?_cons_succ] at e4;have R4:=Na (yq HA.out K4A.out G4.out);have s4:w.heap.size+1≤(w3.setCell ⟨g,u,none⟩ (.int .i64 old)).heap.size:=by simp;omega
 clear LL ol hb3 k3A kk3 G3 B3 k4A G2 KA2;go_wp2_with fail;generalize hW4:w3.setCell ⟨g,u,none⟩ (.int .i64 old)=w4 at *
 clear hW4
 go_loopw [30,11] (fun rr ss wi=>∃ (r:Nat) (s:Int),r≤n∧rr=.int .i64 r∧ss=.int .i64 s∧Hid (s=iI C (ch.set u (wy:Int)) wy r)∧Below w4.heap.size w4 wi) (fun rr _ _=>n - (intOf rr).toNat)
 case atStart=>exact ⟨0,0,Nat.zero_le _,rfl,rfl,rfl,Below.refl _ _⟩
 case round =>
  clear e4;obtain ⟨r,s,hr,rfl,rfl,hs,hwi⟩:=hrel
  by_cases hlt:r<n
  · have kk:=kk4.out.below hwi (by omega)
    have e0:=kk.cell 0;have e1:=kk.cell 1;have e2:=kk.cell 2;have e3:=kk.cell 3;simp only [List.getElem?_cons_zero,List.getElem?_cons_succ] at e0 e1 e2 e3;have bi4:=B4.out.trans (hwi.mono (Nat.le_trans (by omega) (Nat.le_refl _)))
    have ey:=(bi4.cell (p:=⟨b2,o2+wy,none⟩) hbb2).trans Hcy.out;have hbit:=GZ (show 0≤y by omega) (show y≤255 by omega) r
    have hpr:=Hpay.out r;have hs2:iI C (ch.set u (wy:Int)) wy (r+1)=iI C (ch.set u (wy:Int)) wy r+pq C (ch.set u (wy:Int)) wy r:=rfl;obtain ⟨s0,s1⟩:=HP.out r (by omega)
    rw [← hs.out] at s0 s1;have hq0:(0:Int)≤(wy:Int):=by omega
    have hq1:(wy:Int)<(x2.length:Int):=by omega
    by_cases hbt:gw y r=1
    · rw [if_pos hbt] at hpr
      have hl1:=HLd.out r hbt;rw [hbt] at hbit;obtain ⟨l0,l1⟩:=HL.out r;obtain ⟨bl,ol,z,hal,hbbl,hcz,hz⟩:=((ol4.out.rd.mono (B':=w4.heap.size) h34).below hwi (Nat.le_refl _)).get (k:=r) (by rw [fL];exact hlt)
      subst hal;have ez:z=cU C (ch.set u (wy:Int)) r:=by
       have:=hz.out;rw [qi hlt] at this;injection this with this
       exact this.symm
      rw [← ez] at hl1 l0 l1;have LC1:=Na (LC.out wr.drew (Hh.out.below (au bi4) (Nat.le_refl _)) (by have:=bi4.size;simpa using Nat.le_trans (by omega) this) r z (by omega) hl1 l1)
      have hcb:=Hcb.out r z;have HS:Hid (s+fG C r z=iI C (ch.set u (wy:Int)) wy (r+1)):=by
       show _=_
       rw [hs2,hpr,hs.out,ez]
      obtain ⟨cb0,cb1⟩:=hcb;have Hwi:=Na hwi;have hltA:w.heap.size<wr.heap.size:=by have:=hwi.size;omega
      have hltB:bl<wr.heap.size:=by have:=hwi.size;omega
      have EE:=Na (And.intro e0 (And.intro e1 (And.intro e2 (And.intro e3 hcz))));have hrn0:(0:Int)≤(r:Int):=by omega
      have hrn1:(r:Int)<(n:Int):=by omega
      clear hpr hs2 hz ez hbt hs hwi;generalize fG C r z=cz at *
      have hwr:IntKind.i64.wrap (s+cz)=s+cz:=IntWalk.i64_in _ (by omega)
      have Hwr:=Na hwr;clear hwr;go_wp2_with fail;clear ey hbit
      go_region_held3 (fun w'=>w'.cell? ⟨w.heap.size,0,none⟩=some (.int .i64 U)∧w'.cell? ⟨w.heap.size,1,none⟩=some (.int .i64 n)∧w'.cell? ⟨w.heap.size,2,none⟩=some (.slice (some ⟨b2,o2,none⟩) x2.length c2)∧w'.cell? ⟨w.heap.size,3,none⟩=some (.slice a3 x3.length c3)∧w'.cell? ⟨bl,ol+r,none⟩=some (.int .i64 z))
       (first | go_keep | exact ⟨(hbq.cell (p:=⟨w.heap.size,0,none⟩) hltA).trans EE.out.1,(hbq.cell (p:=⟨w.heap.size,1,none⟩) hltA).trans EE.out.2.1,(hbq.cell (p:=⟨w.heap.size,2,none⟩) hltA).trans EE.out.2.2.1,(hbq.cell (p:=⟨w.heap.size,3,none⟩) hltA).trans EE.out.2.2.2.1,(hbq.cell (p:=⟨bl,ol+r,none⟩) hltB).trans EE.out.2.2.2.2⟩)
       ((go_at_call 186;refine (LC1.out).mono ?_;rintro e w' ⟨rfl,hbq⟩))
      all_goals
       have hwi2:=Hwi.out.drew.trans (hbq.mono (by have:=Hwi.out.size;simpa using this))
       rw [Hwr.out];clear hbq EE;go_wp2_with fail;go_roundw
       case rel=>exact ⟨r+1,s+cz,by omega,by go_num,rfl,HS,hwi2⟩
       case measure=>simp [intOf];omega
    · rw [if_neg hbt] at hpr
      have hb0:gw y r=0:=by have:=nA y r;omega
      rw [hb0] at hbit;have HS:Hid (s=iI C (ch.set u (wy:Int)) wy (r+1)):=by
       show _=_
       rw [hs2,hpr,hs.out];omega
      clear hpr hs2 hbt hs;go_wp2_with fail;go_roundw
      case rel=>exact ⟨r+1,s,by omega,by go_num,rfl,HS,hwi⟩
      case measure=>simp [intOf];omega
  · have:r=n:=by omega
    subst this;have HSF:=Na (hs.out.trans HF.out.symm);have BF:=R4.out.trans (hwi.mono (by have:=R4.out.size;omega))
    clear hs hwi;go_wp2_with fail;go_ret;exact ⟨ce HSF.out,BF⟩
end Go.Proofs.YtbknhgapjjaelaaGreatDoor
