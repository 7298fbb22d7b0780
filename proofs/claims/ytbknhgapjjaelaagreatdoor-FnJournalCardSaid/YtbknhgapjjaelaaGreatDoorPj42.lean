/-
  Part 42 of what the proof stands on: lemmas and contracts, each with its conditions ahead of the colon.
-/
import Derived.Test.YtbknhgapjjaelaaGreatDoorShelf
import Derived.BigQuiet
import Derived.Deep.AppendLies
import Derived.Deep.RegionHeldLaw
import Derived.Test.YtbknhgapjjaelaaGreatDoorPj01
import Derived.Test.YtbknhgapjjaelaaGreatDoorPj02
import Derived.Test.YtbknhgapjjaelaaGreatDoorPj05
import Derived.Test.YtbknhgapjjaelaaGreatDoorPj06
import Derived.Test.YtbknhgapjjaelaaGreatDoorPj09
import Derived.Test.YtbknhgapjjaelaaGreatDoorPj12
import Derived.Test.YtbknhgapjjaelaaGreatDoorPj41
set_option maxRecDepth 100000
set_option maxHeartbeats 64000000
namespace Go.Proofs.YtbknhgapjjaelaaGreatDoor
set_option linter.unusedVariables false
set_option linter.unusedSimpArgs false
open Go.RowKit
structure JnS (w w2:World) (d:DD) (x:DA) (wx:World):Prop where
 K:Blk wx w.heap.size (d.cells x) 33
 R:Blk wx (w.heap.size+1) [.int .i64 0,.int .i64 0,.slice none 0 0,.slice none 0 0,.int .i64 0,.int .i64 0,.slice none 0 0,.int .i64 0,.int .i64 0,.slice none 0 0,.slice none 0 0,.slice none 0 0] 33
 B:Below w.heap.size w wx
 D:DRd wx wx.heap.size d x
 N:DNo (fun k=>k=w.heap.size∨k=w.heap.size+1) x
 S:w2.heap.size≤wx.heap.size
 L:∀ k,k<w2.heap.size→k≠w.heap.size→k≠w.heap.size+1→wx.heap[k]? = w2.heap[k]?
theorem JnS.step {w w2 wr w3 w5:World} {d d':DD} {x x':DA} (h:JnS w w2 d x wr) (hs:w.heap.size+2≤w2.heap.size) (hb:Below wr.heap.size wr w3) (hD:DRd w3 w3.heap.size d' x') (hx:x'=x∨DLo wr.heap.size x')
 (h5:gV w3 w.heap.size (.int .i64 d'.R) (.int .i64 d'.C) (.slice x'.a d'.A.length x'.ca) (.slice x'.b d'.B.length x'.cb) (.int .i64 d'.P) (.int .i64 d'.T) (.slice x'.v d'.V.length x'.cv) (.int .i64 d'.U) (.int .i64 d'.N) (.slice x'.w d'.W.length x'.cw) (.slice x'.k d'.K.length x'.ck) (.slice x'.f d'.F.length x'.cf)=w5):JnS w w2 d' x' w5:=by
 have hb4:Below wr.heap.size wr w3:=hb;have T:Touch w3 w5 w.heap.size (w.heap.size+1):=by rw [← h5];exact fY _ _ _ _ _ _ _ _ _ _ _ _ _ _
 have s5:w5.heap.size=w3.heap.size:=by rw [← h5];exact qR _ _ _ _ _ _ _ _ _ _ _ _ _ _
 have hS:=h.S;have z4:=hb4.size;have K5:Blk w5 w.heap.size (d'.cells x') 33:=by rw [← h5];exact jm (h.K.same hb4) _ _ _ _ _ _ _ _ _ _ _ _
 have R5:=(h.R.same hb4).touch T (.inr (Nat.le_refl _));have N':DNo (fun k=>k=w.heap.size∨k=w.heap.size+1) x':=by
  rcases hx with rfl | hx
  · exact h.N
  · refine DNo.of_lo hx (fun k hk=>?_)
    rcases hk with rfl | rfl
    · omega
    · omega
 have D5:=hD.no N' (Nat.le_of_eq s5.symm) (fun k hk hn=>T.block k hk (by
  rcases Nat.lt_trichotomy k w.heap.size with h1 | h1 | h1
  · exact .inl h1
  · exact absurd (.inl h1) hn
  · exact .inr h1))
 refine ⟨K5,R5,aI (aa h.B hb4) T (Nat.le_refl _) (by have:=h.B.size;omega),D5,N',by omega,fun k hk h1 h2=>?_⟩
 exact (T.block k (by omega) (by omega)).trans ((hb4.block k (by omega)).trans (h.L k hk h1 h2))
theorem xd (w:World) (d:DD) (x:DA) (s:ByteArray) (ps:List ma) (hE:Env w) (hok:d.ok=true) (hR:DRd w w.heap.size d x) (hs:s.size≤16000)
 (hls:(eD s.data.toList).1=ps.map (·.1)) (HF:∀ p∈ps,Et p.1 p.2) (HO:∀ p∈ps,∀ d:DD,d.ok=true→(p.2 d).1.ok=true∧(p.2 d).2.length≤1048576) :
 Calls Tryz.prog 24 #[d.val x,.string s] w fun e w'=>∃ y:DA,e=.returned (.tuple #[(dO ps (d,[])).1.val y,.int .i64 ps.length,.bool true])∧OwnDd w' w.heap.size w'.heap.size (dO ps (d,[])).1 y∧DRd w' w'.heap.size (dO ps (d,[])).1 y∧Below w.heap.size w w':=by
 obtain ⟨w0,hw0⟩:∃ X,X=(w.alloc (.cells #[.int .i64 d.R,.int .i64 d.C,.slice x.a d.A.length x.ca,.slice x.b d.B.length x.cb,.int .i64 d.P,.int .i64 d.T,.slice x.v d.V.length x.cv,.int .i64 d.U,.int .i64 d.N,.slice x.w d.W.length x.cw,.slice x.k d.K.length x.ck,.slice x.f d.F.length x.cf] 33)).alloc (.cells #[.int .i64 0,.int .i64 0,.slice none 0 0,.slice none 0 0,.int .i64 0,.int .i64 0,.slice none 0 0,.int .i64 0,.int .i64 0,.slice none 0 0,.slice none 0 0,.slice none 0 0] 33):=⟨_,rfl⟩;have K0:Blk w0 w.heap.size (d.cells x) 33:=by rw [hw0];exact (Blk.new w _ _).alloc _
 have R0:Blk w0 (w.heap.size+1) [.int .i64 0,.int .i64 0,.slice none 0 0,.slice none 0 0,.int .i64 0,.int .i64 0,.slice none 0 0,.int .i64 0,.int .i64 0,.slice none 0 0,.slice none 0 0,.slice none 0 0] 33:=by
  rw [hw0];have:=Blk.new (w.alloc (.cells #[.int .i64 d.R,.int .i64 d.C,.slice x.a d.A.length x.ca,.slice x.b d.B.length x.cb,.int .i64 d.P,.int .i64 d.T,.slice x.v d.V.length x.cv,.int .i64 d.U,.int .i64 d.N,.slice x.w d.W.length x.cw,.slice x.k d.K.length x.ck,.slice x.f d.F.length x.cf] 33)) [.int .i64 0,.int .i64 0,.slice none 0 0,.slice none 0 0,.int .i64 0,.int .i64 0,.slice none 0 0,.int .i64 0,.int .i64 0,.slice none 0 0,.slice none 0 0,.slice none 0 0] 33;rwa [World.size_alloc] at this
 have B0:Below w.heap.size w w0:=by rw [hw0];exact cd _ _ _
 have s0:w.heap.size+2≤w0.heap.size:=by rw [hw0];simp
 have hsI:¬ (16000:Int)<(s.size:Int):=by omega
 obtain ⟨⟨a1,a2⟩,⟨b1,b2⟩,⟨v1,v2⟩,⟨l1,l2⟩,⟨k1,k2⟩,f1,f2⟩:=DD.ok_len hok;have LV:=Oi (fun (v:World) (hb:Below w.heap.size w v)=>mX v d.R d.C x.a x.ca d.A x.b x.cb d.B d.P d.T x.v x.cv d.V d.U d.N x.w x.cw d.W x.k x.ck d.K x.f x.cf d.F (hR.to hb).r (by omega) (by omega) (by omega) (by omega) (by omega) (by omega))
 rw [show gQ d.R d.C d.A d.B d.P d.T d.V d.U d.N d.W d.K d.F=true from hok] at LV
 have LL:=Oi (fun (v:World) (hb:Below w.heap.size w v)=>rg v (hE.tab.to hb) (hE.shp.to hb) s (by omega))
 have HLN:Hid ((eD s.data.toList).1.length≤16000):=by
  have h1:=Kz s.data.toList;have h2:=Lib.size_eq s;rw [Hid];omega
 rw [hls] at LL HLN;generalize (eD s.data.toList).2=nR at *
 have HK0:=Oi K0;have HR0:=Oi R0;have HB0:=Oi B0;have HE:=Oi hE;have HOK:=Oi hok;have HR:=Oi hR;have HFF:=Oi HF;have HOO:=Oi HO;have S00:=Oi s0;clear hE hok hR HF HO K0 R0 B0 a1 a2 b1 b2 v1 v2 l1 l2 k1 k2 f1 f2 s0;obtain ⟨ls,hlq⟩:∃ ls,ls=ps.map (·.1):=⟨_,rfl⟩;rw [← hlq] at LL HLN;have hll:ls.length=ps.length:=by rw [hlq,List.length_map]
 have HLQ:=Oi hlq;have HLL:=Oi hll;clear hls hlq hll;unfold DD.val
 go_enter Tryz.func24,Tryz.ntmps24
 go_upto_region 1 with fail
 rw [← hw0];clear hw0;obtain ⟨r0,r1,r2,r3,r4,r5,r6,r7,r8,r9,r10,r11⟩:=af HK0.out;go_wp2_with fail;refine (LV.out _ HB0.out).mono ?_;rintro e w1 ⟨rfl,hb⟩;have B1:=Oi (aa HB0.out hb);have K1:=Oi (HK0.out.same hb);have R1:=Oi (HR0.out.same hb);have s1:w.heap.size+2≤w1.heap.size:=by have:=hb.size;have:=S00.out;omega
 clear hb LV HK0 HR0 HB0 S00 r0 r1 r2 r3 r4 r5 r6 r7 r8 r9 r10 r11;go_wp2_with fail;refine (LL.out _ B1.out).mono ?_;rintro e w2 ⟨vL,rfl,hO,hb⟩;obtain ⟨a,c,rfl,-,-⟩:=ba hO;have B2:=Oi (aa B1.out hb);have K2:=Oi (K1.out.same hb);have R2:=Oi (R1.out.same hb);have s2:w.heap.size+2≤w2.heap.size:=by have:=hb.size;omega
 have HRD2:Hid (Rd w2 w2.heap.size a (bF ls)):=ay hO (Nat.le_refl _);clear hO hb LL K1 R1 B1 s1;have HN0:Hid (DNo (fun k=>k=w.heap.size∨k=w.heap.size+1) x):=HR.out.lt HOK.out (fun k hk=>by
  rcases hk with rfl | rfl
  · omega
  · omega)
 have S0:Hid (JnS w w2 (dO (ps.take 0) (d,[])).1 x w2):=⟨K2.out,R2.out,B2.out,HR.out.to B2.out,HN0.out,Nat.le_refl _,fun k _ _ _=>rfl⟩
 have K2':=Oi K2.out;have R2':=Oi R2.out;clear K2 R2 HN0;go_wp2_with fail
 go_loopw [27] (fun iv wr=>∃ (k:Nat) (xk:DA),k≤ls.length∧iv=.int .i64 k∧Hid (JnS w w2 (dO (ps.take k) (d,[])).1 xk wr)) (fun iv _=>ls.length - (intOf iv).toNat)
 case atStart=>exact ⟨0,x,Nat.zero_le _,rfl,S0.out⟩
 case round =>
  obtain ⟨k,xk,hk,rfl,hS⟩:=hrel;have k2:(k:Int)≤16000:=by have:=HLN.out;omega
  have k0:(0:Int)≤(k:Int):=Int.natCast_nonneg _
  by_cases hlt:k<ls.length
  · have k1:(k:Int)<(ls.length:Int):=by omega
    have hne:ls≠[]:=fun e=>by rw [e] at hlt;simp at hlt
    have HRW:Hid (Rd wr wr.heap.size a (bF ls)):=by
     have n1:=ta HRD2.out hne (tE K2'.out);have n2:=ta HRD2.out hne (wv R2'.out);refine pp (bad:=fun k=>k=w.heap.size∨k=w.heap.size+1) HRD2.out (fun y e hb=>?_) hS.out.S (fun k hk hb=>hS.out.L k hk (fun e=>hb (.inl e)) (fun e=>hb (.inr e)))
     rcases hb with hb | hb
     · exact n1 y e hb
     · exact n2 y e hb
    obtain ⟨b,o,l,ha,hb,hc,hl2⟩:=jn HRW.out hlt;subst ha;obtain ⟨pk,hpk,epk⟩:∃ pk,ps[k]? = some pk∧l=pk.1:=by
     have e:=hl2.out;rw [HLQ.out,List.getElem?_map] at e
     cases hq:ps[k]? with
     | none=>rw [hq] at e;cases e
     | some pk=>rw [hq] at e;injection e with e;exact ⟨pk,rfl,e.symm⟩
    have hpm:pk∈ps:=List.mem_of_getElem? hpk;obtain ⟨hok1,hlen1⟩:=jZ (s:=(d,[])) HOO.out HOK.out k;have hst:=Oi (vM (s:=(d,[])) hpk);have LC:=Oi (HFF.out pk hpm wr _ xk (HE.out.to hS.out.B) hok1 hS.out.D);rw [epk] at hc hl2;clear epk hpm hpk hlen1;generalize dO (ps.take k) (d,[])=st at *
    obtain ⟨dk,out⟩:=st;dsimp only at *
    unfold nP at hst;dsimp only at hst;generalize pk.2 dk=r at *
    obtain ⟨d',t⟩:=r;dsimp only at *
    unfold zv at LC;dsimp only at LC;generalize bs pk.1=lb at *
    generalize hTb:bs t=tb at *
    clear hTb;obtain ⟨r0,r1,r2,r3,r4,r5,r6,r7,r8,r9,r10,r11⟩:=af hS.out.K;have hcl:=hc;unfold DD.val at LC;clear hok1 HRW;go_wp2_with fail;refine LC.out.mono ?_;rintro e w3 ⟨hb3,x',rfl,hD3,hx3⟩;have HB3:=Oi hb3;have HD3:=Oi hD3;have HX3:=Oi hx3;have K3:=Oi (hS.out.K.same hb3);clear hb3 hD3 hx3 LC r0 r1 r2 r3 r4 r5 r6 r7 r8 r9 r10 r11;obtain ⟨j0,j1,j2,j3,j4,j5,j6,j7,j8,j9,j10,j11⟩:=af K3.out;have jf0:=K3.out.free 0;have jf1:=K3.out.free 1;have jf2:=K3.out.free 2;have jf3:=K3.out.free 3;have jf4:=K3.out.free 4;have jf5:=K3.out.free 5;have jf6:=K3.out.free 6;have jf7:=K3.out.free 7;have jf8:=K3.out.free 8;have jf9:=K3.out.free 9;have jf10:=K3.out.free 10;have jf11:=K3.out.free 11
    go_upto_region 8 with fail
    obtain ⟨w5,hw5⟩:∃ X,X=((((((((((((w3.setCell ⟨w.heap.size,0,none⟩ (.int .i64 d'.R)).setCell ⟨w.heap.size,1,none⟩ (.int .i64 d'.C)).setCell ⟨w.heap.size,2,none⟩ (.slice x'.a d'.A.length x'.ca)).setCell ⟨w.heap.size,3,none⟩ (.slice x'.b d'.B.length x'.cb)).setCell ⟨w.heap.size,4,none⟩ (.int .i64 d'.P)).setCell ⟨w.heap.size,5,none⟩ (.int .i64 d'.T)).setCell ⟨w.heap.size,6,none⟩ (.slice x'.v d'.V.length x'.cv)).setCell ⟨w.heap.size,7,none⟩ (.int .i64 d'.U)).setCell ⟨w.heap.size,8,none⟩ (.int .i64 d'.N)).setCell ⟨w.heap.size,9,none⟩ (.slice x'.w d'.W.length x'.cw)).setCell ⟨w.heap.size,10,none⟩ (.slice x'.k d'.K.length x'.ck)).setCell ⟨w.heap.size,11,none⟩ (.slice x'.f d'.F.length x'.cf)):=⟨_,rfl⟩;have hp5:gV w3 w.heap.size (.int .i64 d'.R) (.int .i64 d'.C) (.slice x'.a d'.A.length x'.ca) (.slice x'.b d'.B.length x'.cb) (.int .i64 d'.P) (.int .i64 d'.T) (.slice x'.v d'.V.length x'.cv) (.int .i64 d'.U) (.int .i64 d'.N) (.slice x'.w d'.W.length x'.cw) (.slice x'.k d'.K.length x'.ck) (.slice x'.f d'.F.length x'.cf)=w5:=by rw [hw5];rfl
    have HS6:=Oi (hS.out.step s2 HB3.out HD3.out HX3.out hp5);rw [← hw5];clear hw5 hp5 j0 j1 j2 j3 j4 j5 j6 j7 j8 j9 j10 j11 jf0 jf1 jf2 jf3 jf4 jf5 jf6 jf7 jf8 jf9 jf10 jf11 hS HB3 HD3 HX3 K3;go_wp2_with fail;go_roundw
    case rel=>exact ⟨k+1,x',by omega,by go_num,by rw [hst.out];exact HS6.out⟩
    case measure=>first | (simp [intOf];done) | (simp [intOf];omega)
  · obtain rfl:k=ls.length:=by omega
    have e0:ps.take ls.length=ps:=by rw [show ls.length=ps.length from HLL.out,List.take_length]
    obtain ⟨hok1,-⟩:=jZ (s:=(d,[])) HOO.out HOK.out ls.length;rw [e0] at hS hok1;obtain ⟨st,hst⟩:∃ st,st=dO ps (d,[]):=⟨_,rfl⟩;rw [← hst] at hS hok1;obtain ⟨dk,out⟩:=st;have HST:=Oi hst.symm;clear hst;dsimp only at *
    have LC:=Oi (oh wr dk xk hok1 hS.out.D);have FF:=Oi hS.out.D.f;obtain ⟨r0,r1,r2,r3,r4,r5,r6,r7,r8,r9,r10,r11⟩:=af hS.out.K;unfold DD.val at LC;have hsz:w.heap.size+2≤wr.heap.size:=by have:=hS.out.S;omega
    clear hok1 e0 HRD2 K2' R2';go_wp2_with fail;refine LC.out.mono ?_;rintro e w6 ⟨y,rfl,hO,hb6⟩;have R6:=Oi (hS.out.R.same hb6);have B6:=Oi (aa hS.out.B hb6);have O6:=Oi hO;have s6:w.heap.size+2≤w6.heap.size:=by have:=hb6.size;omega
    clear hO hb6 hS LC r0 r1 r2 r3 r4 r5 r6 r7 r8 r9 r10 r11;obtain ⟨j0,j1,j2,j3,j4,j5,j6,j7,j8,j9,j10,j11⟩:=af R6.out;have jf0:=R6.out.free 0;have jf1:=R6.out.free 1;have jf2:=R6.out.free 2;have jf3:=R6.out.free 3;have jf4:=R6.out.free 4;have jf5:=R6.out.free 5;have jf6:=R6.out.free 6;have jf7:=R6.out.free 7;have jf8:=R6.out.free 8;have jf9:=R6.out.free 9;have jf10:=R6.out.free 10;have jf11:=R6.out.free 11;go_wp2_with fail;obtain ⟨wz,hwz⟩:∃ X,X=((((((((((((w6.setCell ⟨w.heap.size+1,0,none⟩ (.int .i64 dk.R)).setCell ⟨w.heap.size+1,1,none⟩ (.int .i64 dk.C)).setCell ⟨w.heap.size+1,2,none⟩ (.slice y.a dk.A.length y.ca)).setCell ⟨w.heap.size+1,3,none⟩ (.slice y.b dk.B.length y.cb)).setCell ⟨w.heap.size+1,4,none⟩ (.int .i64 dk.P)).setCell ⟨w.heap.size+1,5,none⟩ (.int .i64 dk.T)).setCell ⟨w.heap.size+1,6,none⟩ (.slice y.v dk.V.length y.cv)).setCell ⟨w.heap.size+1,7,none⟩ (.int .i64 dk.U)).setCell ⟨w.heap.size+1,8,none⟩ (.int .i64 dk.N)).setCell ⟨w.heap.size+1,9,none⟩ (.slice y.w dk.W.length y.cw)).setCell ⟨w.heap.size+1,10,none⟩ (.slice y.k dk.K.length y.ck)).setCell ⟨w.heap.size+1,11,none⟩ (.slice y.f dk.F.length y.cf)):=⟨_,rfl⟩;have hp:gV w6 (w.heap.size+1) (.int .i64 dk.R) (.int .i64 dk.C) (.slice y.a dk.A.length y.ca) (.slice y.b dk.B.length y.cb) (.int .i64 dk.P) (.int .i64 dk.T) (.slice y.v dk.V.length y.cv) (.int .i64 dk.U) (.int .i64 dk.N) (.slice y.w dk.W.length y.cw) (.slice y.k dk.K.length y.ck) (.slice y.f dk.F.length y.cf)=wz:=by rw [hwz];rfl
    rw [← hwz];clear hwz j0 j1 j2 j3 j4 j5 j6 j7 j8 j9 j10 j11 jf0 jf1 jf2 jf3 jf4 jf5 jf6 jf7 jf8 jf9 jf10 jf11;have KZ:Blk wz (w.heap.size+1) (dk.cells y) 33:=by rw [← hp];exact jm R6.out _ _ _ _ _ _ _ _ _ _ _ _
    have TZ:Touch w6 wz (w.heap.size+1) (w.heap.size+1+1):=by rw [← hp];exact fY _ _ _ _ _ _ _ _ _ _ _ _ _ _
    clear hp;have BZ:=aI B6.out TZ (by omega) (by omega)
    have OZ:=(O6.out.touch TZ (by omega)).mono (lo':=w.heap.size) (hi':=wz.heap.size) (by omega) (by have:=TZ.size;omega)
    obtain ⟨t0,t1,t2,t3,t4,t5,t6,t7,t8,t9,t10,t11⟩:=af KZ;refine bodyPost_ret (v:=.tuple #[dk.val y,.int .i64 ls.length,.bool true]) (by simp [results,Tryz.results24,go_sem,DD.val,t0,t1,t2,t3,t4,t5,t6,t7,t8,t9,t10,t11]) rfl ?_
    rw [HST.out,← HLL.out];exact ⟨y,rfl,OZ,OZ.rd FF.out,BZ⟩
theorem Lc {P:Program} {ops:Array Oper} {o:Oper} {a:Act} {wr:World} {K:Act→World→Prop} {Q:Exit→Act→World→Prop} {E:Prop}
 (d:Nat) (hd:o.dst=some d) (hg:o.guard=none) (s x:Operand) (t:TypeId) (hop:o.op=Op.call { callee:=Callee.builtin Builtin.append,args:=#[s,x],argTypes:=#[t,t] })
 (base:Nat) (e:TypeId) (z:Value) (bytes:Nat) (h1:P.underlying t=some (.slice e)) (hinfo:(P.info? e).map (fun i=>(i.zero,i.size,i.bytes))=some (some z,1,bytes)) (hz:z.cells.size=1)
 (v:Value) (n:Nat) (xs:List Value) (hs:a.eval s=v) (hown:wr.ownsRow base e 1 v n xs) (b:Nat) (y:Value) (hy:y.oneCell'=true) (hx:a.eval x=.slice (some ⟨b,0,none⟩) 1 1)
 (hcell:Blk wr b [y] e) (hb:bytes≤64) (hn:n≤1099511627776) (hbase:base≤wr.heap.size)
 (hK:∀ g c w',w'.ownsRow base e 1 (.slice (some ⟨g,0,none⟩) (n+1) c) (n+1) (xs ++ [y])→wr.grownBy w' v.ownBlock→K (a.put (some d) (.slice (some ⟨g,0,none⟩) (n+1) c)) w') :
 if Region.wanted o (yielded ops a.tmps)=true then Oper.wp P o a wr K Q else E:=by
 obtain ⟨i,h2,h3,h4,h5⟩:=info_parts hinfo;have hbb:(n+1) * bytes≤140737488355328:=Nat.le_trans (Nat.mul_le_mul_left (n+1) hb) (by omega)
 refine step_append_lies _ hg s x t hop base e i z 1 bytes h1 h2 h3 h4 h5 hz (by omega) v n xs hs hown ⟨b,0,none⟩ 1 1 [y] hx rfl (World.news_of_block (cs:=#[y]) (t:=e) (fr:=(0,0)) hcell) (by intro u hu;simp at hu;subst hu;exact hy) (by omega) (by unfold maxLen;omega) hbb hbase wr.heap.size rfl (fun g c w' ho hgr _ _=>by rw [hd];exact hK g c w' ho hgr)
theorem Hb:(Tryz.prog.info? 2).map (fun i=>(i.zero,i.size,i.bytes))=some (some (.int .i64 0),1,8):=by kernel_rfl
theorem Ar (w:World) (B0 b:Nat) (a:Option Addr) (xs:List Int) (c p n:Nat) (h:DS w B0 b a xs c p) (hp:p≤800000) (hn:n≤100) :
 Calls Tryz.prog 121 #[.pointer (some ⟨b,0,none⟩),.int .i64 n] w fun e w'=>∃ (a':Option Addr) (c':Nat) (l:List Int) (p':Nat),e=.returned (.slice a' n c')∧l.length=n∧(∀ x∈l,-6≤x∧x≤6)∧OwnI 2 w' w.heap.size w'.heap.size a' c' l∧p'≤p+n∧DS w' B0 b a xs c p'∧Touch w w' b (b+1):=by
 have D0:=Oi h;have hbw:=h.lt;clear h
 go_enter Tryz.func121,Tryz.ntmps121;go_wp2_with fail
 go_loopw [1,5] (fun iv v wr=>∃ (k m:Nat) (a':Option Addr) (c':Nat) (l:List Int) (p':Nat),iv=.int .i64 k∧v=.slice a' m c'∧Hid (m+k=n)∧(k:Int)≤100∧Hid (l.length=m∧∀ x∈l,-6≤x∧x≤6)∧Hid (wr.ownsRow w.heap.size 2 1 (.slice a' m c') m (ae l))∧Hid (p'≤p+m)∧Hid (DS wr B0 b a xs c p')∧Touch w wr b (b+1)) (fun iv _ _=>(intOf iv).toNat)
 case atStart=>exact ⟨n,0,_,_,[],p,rfl,rfl,Nat.zero_add n,by omega,⟨rfl,by simp⟩,bz w _,Nat.le_refl _,D0.out.same (ai w _),Below.touch (ai w _) b (b+1)⟩
 case round =>
  obtain ⟨k,m,a',c',l,p',rfl,rfl,hmk,hk,hL,hO,hpp,hD,hw⟩:=hrel;have k0:(0:Int)≤(k:Int):=Int.natCast_nonneg _;have hws:=hw.size
  by_cases hz:0<k
  · have hzi:(0:Int)<(k:Int):=by omega
    have L:=Oi (dI wr B0 b a xs c p' 13 hD.out (by have:=hpp.out;have:=hmk.out;omega) (by omega))
    have HW:=Oi hw;clear hD hw;go_wp2_with fail;refine L.out.mono ?_;rintro e w1 ⟨x,q,rfl,⟨x0,x1⟩,hq,D1,T1⟩;have D1:=Oi D1;have W1:=Oi (HW.out.trans T1);have O1:=Oi (aP hO.out (cI T1) hbw);have s1:=T1.size;have hx13:x≤12:=by omega
    have hq2:Hid (q≤p+(m+1)):=by rw [Hid];have:=hpp.out;omega
    have hm2:m≤100:=by have:=hmk.out;omega
    clear T1 L hO HW hq x1
    go_wp2_with (at_builtin;refine aH _ rfl _ _ 24 rfl w.heap.size 2 (.int .i64 0) 8 Tryz.underlying24 Hb rfl _ m _ rfl O1.out _ rfl rfl (by omega) (by omega) (by omega) ?_)
    intro v' w' ho hgr;obtain ⟨a2,c2,rfl,_⟩:=ba ho;have hb:=ah (Below.refl w.heap.size w1) O1.out hgr (Nat.le_refl _) (by omega)
    have D2:=Oi (D1.out.touch (es hb) hbw);have W2:=Oi (jP W1.out hb);have HO2:Hid (w'.ownsRow w.heap.size 2 1 (.slice a2 (m+1) c2) (m+1) (ae (l ++ [x - 6]))):=by rw [bk];exact ho
    have HL2:Hid ((l ++ [x - 6]).length=m+1∧∀ y∈l ++ [x - 6],-6≤y∧y≤6):=by
     refine ⟨by simp [hL.out.1],fun y hy=>?_⟩
     rcases List.mem_append.1 hy with hy | hy
     · exact hL.out.2 y hy
     · simp at hy;omega
    clear ho hgr hb D1 W1 O1 hL;go_wp2_with fail;go_roundw
    case rel=>exact ⟨k - 1,m+1,a2,c2,l ++ [x - 6],q,by go_num,rfl,by have:=hmk.out;rw [Hid];omega,by omega,HL2.out,HO2.out,hq2.out,D2.out,W2.out⟩
    case measure=>first | (simp [intOf];done) | (simp [intOf];omega)
  · have:k=0:=by omega
    subst this;have hmn:m=n:=hmk.out;subst hmn;have hOI:OwnI 2 wr w.heap.size wr.heap.size a' c' l:=by
     refine OwnI.of_own ?_
     rw [hL.out.1];exact hO.out
    have HOI:=Oi hOI;clear hO hOI;go_wp2_with fail;go_ret;exact ⟨a',c',l,p',rfl,hL.out.1,hL.out.2,HOI.out,hpp.out,hD.out,hw⟩
theorem xJ:(Tryz.prog.info? 2).map (fun i=>(i.zero,i.size,i.bytes))=some (some (.int .i64 0),1,8):=by kernel_rfl
theorem Gw (w:World) (B0 b:Nat) (a:Option Addr) (xs:List Int) (c p n:Nat) (h:DS w B0 b a xs c p) (hp:p≤800000) (hn:n≤100) :
 Calls Tryz.prog 94 #[.pointer (some ⟨b,0,none⟩),.int .i64 n] w fun e w'=>∃ (a':Option Addr) (c':Nat) (l:List Int) (p':Nat),e=.returned (.slice a' n c')∧l.length=n∧(∀ x∈l,0≤x∧x≤11)∧OwnI 2 w' w.heap.size w'.heap.size a' c' l∧p'≤p+n∧DS w' B0 b a xs c p'∧Touch w w' b (b+1):=by
 have D0:=Oi h;have hbw:=h.lt;clear h
 go_enter Tryz.func94,Tryz.ntmps94;go_wp2_with fail
 go_loopw [1,5] (fun iv v wr=>∃ (k m:Nat) (a':Option Addr) (c':Nat) (l:List Int) (p':Nat),iv=.int .i64 k∧v=.slice a' m c'∧Hid (m+k=n)∧(k:Int)≤100∧Hid (l.length=m∧∀ x∈l,0≤x∧x≤11)∧Hid (wr.ownsRow w.heap.size 2 1 (.slice a' m c') m (ae l))∧Hid (p'≤p+m)∧Hid (DS wr B0 b a xs c p')∧Touch w wr b (b+1)) (fun iv _ _=>(intOf iv).toNat)
 case atStart=>exact ⟨n,0,_,_,[],p,rfl,rfl,Nat.zero_add n,by omega,⟨rfl,by simp⟩,bz w _,Nat.le_refl _,D0.out.same (ai w _),Below.touch (ai w _) b (b+1)⟩
 case round =>
  obtain ⟨k,m,a',c',l,p',rfl,rfl,hmk,hk,hL,hO,hpp,hD,hw⟩:=hrel;have k0:(0:Int)≤(k:Int):=Int.natCast_nonneg _;have hws:=hw.size
  by_cases hz:0<k
  · have hzi:(0:Int)<(k:Int):=by omega
    have L:=Oi (dI wr B0 b a xs c p' 12 hD.out (by have:=hpp.out;have:=hmk.out;omega) (by omega))
    have HW:=Oi hw;clear hD hw;go_wp2_with fail;refine L.out.mono ?_;rintro e w1 ⟨x,q,rfl,⟨x0,x1⟩,hq,D1,T1⟩;have D1:=Oi D1;have W1:=Oi (HW.out.trans T1);have O1:=Oi (aP hO.out (cI T1) hbw);have s1:=T1.size;have hx13:x≤11:=by omega
    have hq2:Hid (q≤p+(m+1)):=by rw [Hid];have:=hpp.out;omega
    have hm2:m≤100:=by have:=hmk.out;omega
    clear T1 L hO HW hq x1
    go_wp2_with (at_builtin;refine aH _ rfl _ _ 24 rfl w.heap.size 2 (.int .i64 0) 8 Tryz.underlying24 xJ rfl _ m _ rfl O1.out _ rfl rfl (by omega) (by omega) (by omega) ?_)
    intro v' w' ho hgr;obtain ⟨a2,c2,rfl,_⟩:=ba ho;have hb:=ah (Below.refl w.heap.size w1) O1.out hgr (Nat.le_refl _) (by omega)
    have D2:=Oi (D1.out.touch (es hb) hbw);have W2:=Oi (jP W1.out hb);have HO2:Hid (w'.ownsRow w.heap.size 2 1 (.slice a2 (m+1) c2) (m+1) (ae (l ++ [x]))):=by rw [bk];exact ho
    have HL2:Hid ((l ++ [x]).length=m+1∧∀ y∈l ++ [x],0≤y∧y≤11):=by
     refine ⟨by simp [hL.out.1],fun y hy=>?_⟩
     rcases List.mem_append.1 hy with hy | hy
     · exact hL.out.2 y hy
     · simp at hy;omega
    clear ho hgr hb D1 W1 O1 hL;go_wp2_with fail;go_roundw
    case rel=>exact ⟨k - 1,m+1,a2,c2,l ++ [x],q,by go_num,rfl,by have:=hmk.out;rw [Hid];omega,by omega,HL2.out,HO2.out,hq2.out,D2.out,W2.out⟩
    case measure=>first | (simp [intOf];done) | (simp [intOf];omega)
  · have:k=0:=by omega
    subst this;have hmn:m=n:=hmk.out;subst hmn;have hOI:OwnI 2 wr w.heap.size wr.heap.size a' c' l:=by
     refine OwnI.of_own ?_
     rw [hL.out.1];exact hO.out
    have HOI:=Oi hOI;clear hO hOI;go_wp2_with fail;go_ret;exact ⟨a',c',l,p',rfl,hL.out.1,hL.out.2,HOI.out,hpp.out,hD.out,hw⟩
def jc (x:Nat):Nat:=(floatBits .quo .f32 (floatOfInt .f32 (x:Int)) 1098907648).getD 0
theorem Jl:∀ x:Fin 17,floatBits .quo .f32 (floatOfInt .f32 (x.val:Int)) 1098907648=some (jc x.val)∧jH (jc x.val)=true∧du (jc x.val)=jc x.val∧jc x.val<4294967296:=by decide +kernel
theorem Ha:(Tryz.prog.info? 79).map (fun i=>(i.zero,i.size,i.bytes))=some (some (.float .f32 0),1,4):=by kernel_rfl
theorem Fx (w:World) (e:Nat):(w.alloc (.cells #[] e)).ownsRow w.heap.size e 1 (.slice (some ⟨w.heap.size,0,none⟩) 0 0) 0 []:=World.ownsRow_made w #[] 0 (Nat.le_refl _) (Nat.zero_le _) rfl
theorem GW (xs:List Nat) (y:Nat):dx (xs ++ [y])=dx xs ++ [.float .f32 y]:=by simp [dx]
def Nh (w:World) (B0 b:Nat) (a:Option Addr) (xs:List Int) (c q:Nat) (e:Ending) (w':World):Prop :=
 ∃ (a':Option Addr) (c':Nat) (l:List Nat) (p':Nat),e=.returned (.slice a' l.length c')∧(1≤l.length∧l.length≤5)∧(∀ y∈l,jH y=true∧du y=y∧y<4294967296)∧OwnF 79 w' w.heap.size w'.heap.size a' c' l∧p'≤q∧DS w' B0 b a xs c p'∧Touch w w' b (b+1)
theorem Lo (w:World) (B0 b:Nat) (a:Option Addr) (xs:List Int) (c p:Nat) (h:DS w B0 b a xs c p) (hp:p≤800000) :
 Calls Tryz.prog 58 #[.pointer (some ⟨b,0,none⟩)] w (Nh w B0 b a xs c (p+10)):=by
 have hbw:=h.lt;have B0':=ai w (.cells #[] 79);have L0:=Oi (dI _ B0 b a xs c p 5 (h.same B0') (by omega) (by omega))
 have HT:=Oi (fun (x:Nat) (hx:x<17)=>Jl ⟨x,hx⟩)
 have O0:=Oi (Fx w 79);have T0:=Oi (Below.touch B0' b (b+1));clear h B0'
 go_enter Tryz.func58,Tryz.ntmps58;go_wp2_with fail;refine L0.out.mono ?_;rintro e w0 ⟨n0,p0,rfl,⟨z0,z1⟩,hp0,D0,U0⟩;obtain ⟨n,hn⟩:∃ n:Nat,1+n0=(n:Int):=⟨(1+n0).toNat,by omega⟩;have hn5:1≤n∧n≤5:=by omega
 have HN5:=Oi hn5;have z4:n0≤4:=by omega
 have D0:=Oi D0;have s0:=U0.size;have O0':=Oi (aP O0.out (cI U0) hbw);have T0':=Oi (T0.out.trans U0);have hws0:w.heap.size≤w0.heap.size:=T0'.out.size;have HN:=Oi hn;have nn:(n:Int)≤5:=by omega
 clear L0 O0 T0 U0 z1 hn5 s0 hn
 go_upto_region 3 with fail
 go_loopw [4,3] (fun iv v wr=>∃ (k m:Nat) (a':Option Addr) (c':Nat) (l:List Nat) (p':Nat),iv=.int .i64 k∧v=.slice a' m c'∧Hid (m+k=n)∧(k:Int)≤5∧Hid (l.length=m∧∀ y∈l,jH y=true∧du y=y∧y<4294967296)∧Hid (wr.ownsRow w.heap.size 79 1 (.slice a' m c') m (dx l))∧Hid (p'≤p+1+m)∧Hid (DS wr B0 b a xs c p')∧Touch w wr b (b+1)) (fun iv _ _=>(intOf iv).toNat)
 case atStart=>exact ⟨n,0,_,_,[],p0,by rw [HN.out],rfl,by rw [Hid];omega,nn,⟨rfl,by simp⟩,O0'.out,hp0,D0.out,T0'.out⟩
 case round =>
  clear D0 O0' T0';obtain ⟨k,m,a',c',l,p',rfl,rfl,hmk,hk,hL,hO,hpp,hD,hw⟩:=hrel;have k0:(0:Int)≤(k:Int):=Int.natCast_nonneg _;have hws:=hw.size
  by_cases hz:0<k
  · have hzi:(0:Int)<(k:Int):=by omega
    have L:=Oi (dI wr B0 b a xs c p' 17 hD.out (by have:=hpp.out;have:=hmk.out;have:=HN5.out;omega) (by omega))
    have HW:=Oi hw;clear hD hw;go_wp2_with fail;refine L.out.mono ?_;rintro e w1 ⟨x,q,rfl,⟨x0,x1⟩,hq,D1,T1⟩;have D1:=Oi D1;have W1:=Oi (HW.out.trans T1);have O1:=Oi (aP hO.out (cI T1) hbw);have s1:=T1.size;obtain ⟨y,rfl⟩:∃ y:Nat,x=(y:Int):=⟨x.toNat,by omega⟩;obtain ⟨t1,t2,t3,t4⟩:=HT.out y (by omega)
    have hq1:∀ v:World,(binOp BinOp.quo 79 (.float .f32 (floatOfInt .f32 (y:Int))) (.float .f32 1098907648)).run Tryz.prog v=.ok (.float .f32 (jc y)) v:=fun v=>run_float_arith v _ _ _ _ _ _ t1
    have HY:=Oi (⟨t2,t3,t4⟩:jH (jc y)=true∧du (jc y)=jc y∧jc y<4294967296);have hx16:(y:Int)≤16:=by omega
    have hq2:Hid (q≤p+1+(m+1)):=by rw [Hid];have:=hpp.out;omega
    have hm2:m≤100:=by have:=hmk.out;have:=HN5.out;omega
    clear T1 L hO HW hq x1 t1 t2 t3 t4
    go_wp2_with (at_builtin;refine aH _ rfl _ _ 31 rfl w.heap.size 79 (.float .f32 0) 4 Tryz.underlying31 Ha rfl _ m _ rfl O1.out _ rfl rfl (by omega) (by omega) (by omega) ?_)
    intro v' w' ho hgr;obtain ⟨a2,c2,rfl,_⟩:=ba ho;have hb:=ah (Below.refl w.heap.size w1) O1.out hgr (Nat.le_refl _) (by omega)
    have D2:=Oi (D1.out.touch (es hb) hbw);have W2:=Oi (jP W1.out hb);have HO2:Hid (w'.ownsRow w.heap.size 79 1 (.slice a2 (m+1) c2) (m+1) (dx (l ++ [jc y]))):=by rw [GW];exact ho
    have HL2:Hid ((l ++ [jc y]).length=m+1∧∀ z∈l ++ [jc y],jH z=true∧du z=z∧z<4294967296):=by
     refine ⟨by simp [hL.out.1],fun z hz=>?_⟩
     rcases List.mem_append.1 hz with hz | hz
     · exact hL.out.2 z hz
     · simp at hz;subst hz;exact HY.out
    clear ho hgr hb D1 W1 O1 hL;go_wp2_with fail;go_roundw
    case rel=>exact ⟨k - 1,m+1,a2,c2,l ++ [jc y],q,by go_num,rfl,by have:=hmk.out;rw [Hid];omega,by omega,HL2.out,HO2.out,hq2.out,D2.out,W2.out⟩
    case measure=>first | (simp [intOf];done) | (simp [intOf];omega)
  · have:k=0:=by omega
    subst this;have hmn:m=n:=hmk.out;have hlm:=hL.out.1;subst hlm;have HOI:Hid (OwnF 79 wr w.heap.size wr.heap.size a' c' l):=OwnF.of_own hO.out;have HL5:Hid (1≤l.length∧l.length≤5):=by rw [hmn];exact HN5.out
    clear hO hmn;go_wp2_with fail;go_ret;exact ⟨a',c',l,p',rfl,HL5.out,hL.out.2,HOI.out,by have:=hpp.out;have:=HL5.out;omega,hD.out,hw⟩
end Go.Proofs.YtbknhgapjjaelaaGreatDoor
