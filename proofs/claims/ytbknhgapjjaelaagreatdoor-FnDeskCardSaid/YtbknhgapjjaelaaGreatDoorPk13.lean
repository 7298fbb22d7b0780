/-
  Part 13 of what the proof stands on: lemmas and contracts, each with its conditions ahead of the colon.
-/
import Derived.Test.YtbknhgapjjaelaaGreatDoorPk01
import Derived.Test.YtbknhgapjjaelaaGreatDoorShelf
import Derived.Lib.Builder
import Derived.Lib.AppendStr
import Derived.Lib.UnsafeStr
import Derived.Deep.RegionHeld3
import Derived.Test.YtbknhgapjjaelaaGreatDoorPk08
import Derived.Test.YtbknhgapjjaelaaGreatDoorPk09
import Derived.Test.YtbknhgapjjaelaaGreatDoorPk10
import Derived.Test.YtbknhgapjjaelaaGreatDoorPk12
set_option maxRecDepth 100000
set_option maxHeartbeats 64000000
namespace Go.Proofs.YtbknhgapjjaelaaGreatDoor
set_option linter.unusedVariables false
set_option linter.unusedSimpArgs false
open Go.RowKit
theorem jD {T lo hi c:Nat} {w:World} {a:Option Addr} {xs:List Int} (h:OwnI T w lo hi a c xs):∀ y,a=some y→lo≤y.block:=fun y e=>(h.1.lt y.block (by simp [Value.ownBlock,e])).1
theorem Di {T lo hi c:Nat} {w:World} {a:Option Addr} {xs:List Nat} (h:OwnF T w lo hi a c xs):∀ y,a=some y→lo≤y.block:=fun y e=>(h.1.lt y.block (by simp [Value.ownBlock,e])).1
theorem xc {T lo hi:Nat} {w:World} {a b:Option Addr} {ca cb:Nat} {xa xb:List Int} (h:OwnTwo T w lo hi a ca xa b cb xb):(∀ y,a=some y→lo≤y.block)∧∀ y,b=some y→lo≤y.block:=by
 obtain ⟨m,hm,h | h⟩:=h
 · exact ⟨jD h.1,fun y e=>by have:=jD h.2 y e;omega⟩
 · exact ⟨fun y e=>by have:=jD h.2 y e;omega,jD h.1⟩
theorem JJ {w:World} {lo hi:Nat} {d:DD} {x:DA} (h:OwnDd w lo hi d x):DLo lo x:=by
 obtain ⟨m1,m2,m3,hm,h1,h2,h3,h4⟩:=h;have t1:=xc h1;have t2:=jD h2;have t3:=xc h3;have t4:=Di h4;exact ⟨t1.1,t1.2,fun y e=>by have:=t2 y e;omega,fun y e=>by have:=t3.1 y e;omega,fun y e=>by have:=t3.2 y e;omega,fun y e=>by have:=t4 y e;omega⟩
theorem GT {w:World} {lo hi:Nat} {d:DD} {x:DA} (h:OwnDd w lo hi d x):d.A.length≤x.ca:=by
 obtain ⟨m1,m2,m3,hm,⟨m,_,h1 | h1⟩,h2,h3,h4⟩:=h
 · exact h1.1.cap
 · exact h1.2.cap
theorem DRd.low {w w':World} {lo' hi':Nat} {d:DD} {x:DA} (h:DRd w w.heap.size d x) (hl:DLo hi' x) (ht:Touch w w' lo' hi'):DRd w' w'.heap.size d x :=
 ⟨⟨gF h.r.A ht (fun y e=>by have:=hl.a y e;omega),gF h.r.B ht (fun y e=>by have:=hl.b y e;omega),gF h.r.V ht (fun y e=>by have:=hl.v y e;omega),gF h.r.W ht (fun y e=>by have:=hl.w y e;omega),gF h.r.C ht (fun y e=>by have:=hl.k y e;omega),gF h.r.T ht (fun y e=>by have:=hl.f y e;omega)⟩,h.f⟩
def DD.small (d:DD):Prop:=d.A.length≤1048576∧d.B.length≤1048576∧d.V.length≤1048576∧d.W.length≤1048576∧d.K.length≤1048576∧d.F.length≤1048576
structure CmS (w:World) (d:DD) (x y:DA) (b:Nat) (wx:World):Prop where
 K:Blk wx w.heap.size (d.cells x) 33
 R:Blk wx (w.heap.size+1) [.int .i64 0,.int .i64 0,.slice none 0 0,.slice none 0 0,.int .i64 0,.int .i64 0,.slice none 0 0,.int .i64 0,.int .i64 0,.slice none 0 0,.slice none 0 0,.slice none 0 0] 33
 B:Below w.heap.size w wx
 O:Blk wx b (d.cells y) 33
 D:DRd wx b d y
 L:DLo (w.heap.size+2) y
 s:w.heap.size+2≤b
 c:d.A.length≤y.ca
theorem CmS.same {w wx wy:World} {d:DD} {x y:DA} {b:Nat} (h:CmS w d x y b wx) (hb:Below wx.heap.size wx wy):CmS w d x y b wy :=
 ⟨h.K.same hb,h.R.same hb,aa h.B hb,h.O.same hb,h.D.below hb (Nat.le_of_lt h.O.lt),h.L,h.s,h.c⟩
structure CmT (w:World) (d:DD) (x:DA) (wx:World):Prop where
 K:Blk wx w.heap.size (d.cells x) 33
 R:Blk wx (w.heap.size+1) [.int .i64 0,.int .i64 0,.slice none 0 0,.slice none 0 0,.int .i64 0,.int .i64 0,.slice none 0 0,.int .i64 0,.int .i64 0,.slice none 0 0,.slice none 0 0,.slice none 0 0] 33
 B:Below w.heap.size w wx
theorem CmS.touch {w wx wy:World} {d:DD} {x y:DA} {b:Nat} (h:CmS w d x y b wx) (ht:Touch wx wy b (b+1)):CmT w d x wy :=
 ⟨h.K.touch ht (.inl (by have:=h.s;omega)),h.R.touch ht (.inl (by have:=h.s;omega)),aE h.B ht (by have:=h.s;omega) (by have:=h.B.size;omega)⟩
theorem CmT.same {w wx wy:World} {d:DD} {x:DA} (h:CmT w d x wx) (hb:Below wx.heap.size wx wy):CmT w d x wy:=⟨h.K.same hb,h.R.same hb,aa h.B hb⟩
theorem Mg {w wx:World} {d d':DD} {x x':DA} (h:CmT w d x wx) (hd:DRd wx wx.heap.size d' x') (hl:DLo (w.heap.size+2) x') {wz:World} (hp:fg wx (w.heap.size+1) (.int .i64 d'.R) (.int .i64 d'.C) (.slice x'.a d'.A.length x'.ca) (.slice x'.b d'.B.length x'.cb) (.int .i64 d'.P) (.int .i64 d'.T) (.slice x'.v d'.V.length x'.cv) (.int .i64 d'.U) (.int .i64 d'.N) (.slice x'.w d'.W.length x'.cw) (.slice x'.k d'.K.length x'.ck) (.slice x'.f d'.F.length x'.cf)=wz):Blk wz (w.heap.size+1) (d'.cells x') 33∧Below w.heap.size w wz∧DRd wz wz.heap.size d' x':=by
 have T8:Touch wx wz (w.heap.size+1) (w.heap.size+1+1):=by rw [← hp];exact et _ _ _ _ _ _ _ _ _ _ _ _ _ _
 refine ⟨by rw [← hp];exact fS h.R _ _ _ _ _ _ _ _ _ _ _ _,aE h.B T8 (by omega) (by have:=h.B.size;omega),hd.low hl T8⟩
theorem wg {w wx:World} {d:DD} {x:DA} (h:CmT w d x wx) (hd:DRd w w.heap.size d x) {wz:World} (hp:fg wx (w.heap.size+1) (.int .i64 d.R) (.int .i64 d.C) (.slice x.a d.A.length x.ca) (.slice x.b d.B.length x.cb) (.int .i64 d.P) (.int .i64 d.T) (.slice x.v d.V.length x.cv) (.int .i64 d.U) (.int .i64 d.N) (.slice x.w d.W.length x.cw) (.slice x.k d.K.length x.ck) (.slice x.f d.F.length x.cf)=wz):Blk wz (w.heap.size+1) (d.cells x) 33∧Below w.heap.size w wz∧DRd wz wz.heap.size d x:=by
 have T8:Touch wx wz (w.heap.size+1) (w.heap.size+1+1):=by rw [← hp];exact et _ _ _ _ _ _ _ _ _ _ _ _ _ _
 have hb:=aE h.B T8 (by omega) (by have:=h.B.size;omega)
 exact ⟨by rw [← hp];exact fS h.R _ _ _ _ _ _ _ _ _ _ _ _,hb,hd.to hb⟩
theorem Bu {l:List UInt8} {f:DD→ib} (hl:l.length≤1048576) (HC:kL (co 32 l) f) (HS:∀ d d' t,d.ok=true→f d=some (some (d',t))→d'.small):Fv l (gp f):=by
 intro w d x hE hok hR;have HF:=Na (HS d);have hlb:(bs l).data.toList=l:=cP l;have hls:(bs l).size≤1048576:=by rw [aI];exact hl
 obtain ⟨w0,hw0⟩:∃ X,X=(w.alloc (.cells #[.int .i64 d.R,.int .i64 d.C,.slice x.a d.A.length x.ca,.slice x.b d.B.length x.cb,.int .i64 d.P,.int .i64 d.T,.slice x.v d.V.length x.cv,.int .i64 d.U,.int .i64 d.N,.slice x.w d.W.length x.cw,.slice x.k d.K.length x.ck,.slice x.f d.F.length x.cf] 33)).alloc (.cells #[.int .i64 0,.int .i64 0,.slice none 0 0,.slice none 0 0,.int .i64 0,.int .i64 0,.slice none 0 0,.int .i64 0,.int .i64 0,.slice none 0 0,.slice none 0 0,.slice none 0 0] 33):=⟨_,rfl⟩;have K0:Blk w0 w.heap.size (d.cells x) 33:=by rw [hw0];exact (Blk.new w _ _).alloc _
 have R0:Blk w0 (w.heap.size+1) [.int .i64 0,.int .i64 0,.slice none 0 0,.slice none 0 0,.int .i64 0,.int .i64 0,.slice none 0 0,.int .i64 0,.int .i64 0,.slice none 0 0,.slice none 0 0,.slice none 0 0] 33:=by
  rw [hw0];have:=Blk.new (w.alloc (.cells #[.int .i64 d.R,.int .i64 d.C,.slice x.a d.A.length x.ca,.slice x.b d.B.length x.cb,.int .i64 d.P,.int .i64 d.T,.slice x.v d.V.length x.cv,.int .i64 d.U,.int .i64 d.N,.slice x.w d.W.length x.cw,.slice x.k d.K.length x.ck,.slice x.f d.F.length x.cf] 33)) [.int .i64 0,.int .i64 0,.slice none 0 0,.slice none 0 0,.int .i64 0,.int .i64 0,.slice none 0 0,.int .i64 0,.int .i64 0,.slice none 0 0,.slice none 0 0,.slice none 0 0] 33;rwa [World.size_alloc] at this
 have B0:Below w.heap.size w w0:=by rw [hw0];exact bR _ _ _
 have s0:w0.heap.size=w.heap.size+2:=by rw [hw0];simp
 have LC:=Na (nK w0 d x hok (hR.to B0));unfold DD.val at LC ⊢;obtain ⟨r0,r1,r2,r3,r4,r5,r6,r7,r8,r9,r10,r11⟩:=af K0;rw [hw0] at r0 r1 r2 r3 r4 r5 r6 r7 r8 r9 r10 r11;have HK0:=Na K0;have HR0:=Na R0;have HB0:=Na B0;have HE:=Na hE;have HOK:=Na hok;have HR:=Na hR;have HCC:=Na HC;have LS:=Na (fun v (hv:Below w.heap.size w v)=>oN v (hE.shp.to hv) (bs l) hls 32 ⟨#[32]⟩ rfl)
 rw [hlb] at LS;clear hE hok hR HC HS K0 R0 B0 hls hlb hl;generalize hcl:co 32 l=ws at *
 generalize bs l=lb at *
 clear hcl
 go_enter Tryz.func30,Tryz.ntmps30;go_wp2_with fail;rw [← hw0];clear hw0 r0 r1 r2 r3 r4 r5 r6 r7 r8 r9 r10 r11;refine LC.out.mono ?_;rintro e w1 ⟨y,rfl,hO,hb⟩;obtain ⟨w2,hw2⟩:∃ X,X=w1.alloc (.cells #[.int .i64 d.R,.int .i64 d.C,.slice y.a d.A.length y.ca,.slice y.b d.B.length y.cb,.int .i64 d.P,.int .i64 d.T,.slice y.v d.V.length y.cv,.int .i64 d.U,.int .i64 d.N,.slice y.w d.W.length y.cw,.slice y.k d.K.length y.ck,.slice y.f d.F.length y.cf] 33):=⟨_,rfl⟩;have SS:Hid (CmS w d x y w1.heap.size w2):=by
  have hba:=ah w1 (.cells #[.int .i64 d.R,.int .i64 d.C,.slice y.a d.A.length y.ca,.slice y.b d.B.length y.cb,.int .i64 d.P,.int .i64 d.T,.slice y.v d.V.length y.cv,.int .i64 d.U,.int .i64 d.N,.slice y.w d.W.length y.cw,.slice y.k d.K.length y.ck,.slice y.f d.F.length y.cf] 33);have KN:=Blk.new w1 [.int .i64 d.R,.int .i64 d.C,.slice y.a d.A.length y.ca,.slice y.b d.B.length y.cb,.int .i64 d.P,.int .i64 d.T,.slice y.v d.V.length y.cv,.int .i64 d.U,.int .i64 d.N,.slice y.w d.W.length y.cw,.slice y.k d.K.length y.ck,.slice y.f d.F.length y.cf] 33;rw [← hw2] at hba KN;have hs1:=hb.size;exact ⟨(HK0.out.same hb).same hba,(HR0.out.same hb).same hba,aa (aa HB0.out hb) hba,KN,(hO.rd HR.out.f).below hba (Nat.le_refl _),by rw [← s0];exact JJ hO,by omega,GT hO⟩
 have hbs:w1.heap.size<w2.heap.size:=SS.out.O.lt;clear hO hb HK0 HR0 HB0 LC s0;obtain ⟨b,hbq⟩:∃ b,b=w1.heap.size:=⟨_,rfl⟩
 go_upto_region 2 with fail
 rw [← hw2];rw [← hbq] at SS hbs ⊢;clear hw2 hbq;go_wp2_with fail;refine (LS.out _ SS.out.B).mono ?_;rintro e w3 ⟨rfl,hk,hb⟩;have S3:=Na (SS.out.same hb);have LR:=Na (HCC.out w3 b d y (w.heap.size+2) (some ⟨w2.heap.size,0,none⟩) ws.length S3.out.s S3.out.L (HE.out.to S3.out.B) HOK.out S3.out.c S3.out.O S3.out.D (fw hk));clear hk hb SS LS HCC hbs
 cases hr':f d with
 | none =>
   have hr:=Na hr';clear hr';have L:Hid (Calls Tryz.prog 67 #[.pointer (some ⟨b,0,none⟩),.slice (some ⟨w2.heap.size,0,none⟩) ws.length ws.length] w3 (fun e w'=>∃ (t:ByteArray) (k:Bool),e=.returned (.tuple #[.string t,.bool k,.bool false])∧Hid (Touch w3 w' b (b+1)))):=LR.out.mono fun e w' h=>by
    rw [hr.out] at h;obtain ⟨h1,t,k,h2⟩:=h;exact ⟨t,k,h2,h1⟩
   clear LR;go_wp2_with fail;refine L.out.mono ?_;rintro e w4 ⟨t,k,rfl,hT⟩;have T4:=Na (S3.out.touch hT.out);obtain ⟨r0,r1,r2,r3,r4,r5,r6,r7,r8,r9,r10,r11⟩:=af T4.out.K;obtain ⟨j0,j1,j2,j3,j4,j5,j6,j7,j8,j9,j10,j11⟩:=af T4.out.R;have jf0:=T4.out.R.free 0;have jf1:=T4.out.R.free 1;have jf2:=T4.out.R.free 2;have jf3:=T4.out.R.free 3;have jf4:=T4.out.R.free 4;have jf5:=T4.out.R.free 5;have jf6:=T4.out.R.free 6;have jf7:=T4.out.R.free 7;have jf8:=T4.out.R.free 8;have jf9:=T4.out.R.free 9;have jf10:=T4.out.R.free 10;have jf11:=T4.out.R.free 11;clear hT L;go_wp2_with fail;obtain ⟨wz,hwz⟩:∃ X,X=((((((((((((w4.setCell ⟨w.heap.size+1,0,none⟩ (.int .i64 d.R)).setCell ⟨w.heap.size+1,1,none⟩ (.int .i64 d.C)).setCell ⟨w.heap.size+1,2,none⟩ (.slice x.a d.A.length x.ca)).setCell ⟨w.heap.size+1,3,none⟩ (.slice x.b d.B.length x.cb)).setCell ⟨w.heap.size+1,4,none⟩ (.int .i64 d.P)).setCell ⟨w.heap.size+1,5,none⟩ (.int .i64 d.T)).setCell ⟨w.heap.size+1,6,none⟩ (.slice x.v d.V.length x.cv)).setCell ⟨w.heap.size+1,7,none⟩ (.int .i64 d.U)).setCell ⟨w.heap.size+1,8,none⟩ (.int .i64 d.N)).setCell ⟨w.heap.size+1,9,none⟩ (.slice x.w d.W.length x.cw)).setCell ⟨w.heap.size+1,10,none⟩ (.slice x.k d.K.length x.ck)).setCell ⟨w.heap.size+1,11,none⟩ (.slice x.f d.F.length x.cf)):=⟨_,rfl⟩;have hp:fg w4 (w.heap.size+1) (.int .i64 d.R) (.int .i64 d.C) (.slice x.a d.A.length x.ca) (.slice x.b d.B.length x.cb) (.int .i64 d.P) (.int .i64 d.T) (.slice x.v d.V.length x.cv) (.int .i64 d.U) (.int .i64 d.N) (.slice x.w d.W.length x.cw) (.slice x.k d.K.length x.ck) (.slice x.f d.F.length x.cf)=wz:=by rw [hwz];rfl
   obtain ⟨KZ,BZ,DZ⟩:=wg T4.out HR.out hp;rw [← hwz];clear hwz hp r0 r1 r2 r3 r4 r5 r6 r7 r8 r9 r10 r11 j0 j1 j2 j3 j4 j5 j6 j7 j8 j9 j10 j11 jf0 jf1 jf2 jf3 jf4 jf5 jf6 jf7 jf8 jf9 jf10 jf11;have HBZ:=Na BZ;have HDZ:=Na DZ;obtain ⟨t0,t1,t2,t3,t4,t5,t6,t7,t8,t9,t10,t11⟩:=af KZ;refine bodyPost_ret (v:=.tuple #[.agg #[.int .i64 d.R,.int .i64 d.C,.slice x.a d.A.length x.ca,.slice x.b d.B.length x.cb,.int .i64 d.P,.int .i64 d.T,.slice x.v d.V.length x.cv,.int .i64 d.U,.int .i64 d.N,.slice x.w d.W.length x.cw,.slice x.k d.K.length x.ck,.slice x.f d.F.length x.cf],.string (bs yL)]) (by simp [results,Tryz.results30,go_sem,t0,t1,t2,t3,t4,t5,t6,t7,t8,t9,t10,t11];try rfl) rfl ?_
   have e:gp f d=(d,yL):=by unfold gp;rw [hr.out]
   rw [e];exact ⟨HBZ.out,x,rfl,HDZ.out,.inl rfl⟩
 | some r =>
 cases r with
 | none =>
   have hr:=Na hr';clear hr';have L:Hid (Calls Tryz.prog 67 #[.pointer (some ⟨b,0,none⟩),.slice (some ⟨w2.heap.size,0,none⟩) ws.length ws.length] w3 (fun e w'=>∃ (t:ByteArray),e=.returned (.tuple #[.string t,.bool false,.bool true])∧Hid (Touch w3 w' b (b+1)))):=LR.out.mono fun e w' h=>by
    rw [hr.out] at h;obtain ⟨h1,t,h2⟩:=h;exact ⟨t,h2,h1⟩
   clear LR;go_wp2_with fail;refine L.out.mono ?_;rintro e w4 ⟨t,rfl,hT⟩;have T4:=Na (S3.out.touch hT.out);obtain ⟨r0,r1,r2,r3,r4,r5,r6,r7,r8,r9,r10,r11⟩:=af T4.out.K;obtain ⟨j0,j1,j2,j3,j4,j5,j6,j7,j8,j9,j10,j11⟩:=af T4.out.R;have jf0:=T4.out.R.free 0;have jf1:=T4.out.R.free 1;have jf2:=T4.out.R.free 2;have jf3:=T4.out.R.free 3;have jf4:=T4.out.R.free 4;have jf5:=T4.out.R.free 5;have jf6:=T4.out.R.free 6;have jf7:=T4.out.R.free 7;have jf8:=T4.out.R.free 8;have jf9:=T4.out.R.free 9;have jf10:=T4.out.R.free 10;have jf11:=T4.out.R.free 11;clear hT L;go_wp2_with fail;obtain ⟨wz,hwz⟩:∃ X,X=((((((((((((w4.setCell ⟨w.heap.size+1,0,none⟩ (.int .i64 d.R)).setCell ⟨w.heap.size+1,1,none⟩ (.int .i64 d.C)).setCell ⟨w.heap.size+1,2,none⟩ (.slice x.a d.A.length x.ca)).setCell ⟨w.heap.size+1,3,none⟩ (.slice x.b d.B.length x.cb)).setCell ⟨w.heap.size+1,4,none⟩ (.int .i64 d.P)).setCell ⟨w.heap.size+1,5,none⟩ (.int .i64 d.T)).setCell ⟨w.heap.size+1,6,none⟩ (.slice x.v d.V.length x.cv)).setCell ⟨w.heap.size+1,7,none⟩ (.int .i64 d.U)).setCell ⟨w.heap.size+1,8,none⟩ (.int .i64 d.N)).setCell ⟨w.heap.size+1,9,none⟩ (.slice x.w d.W.length x.cw)).setCell ⟨w.heap.size+1,10,none⟩ (.slice x.k d.K.length x.ck)).setCell ⟨w.heap.size+1,11,none⟩ (.slice x.f d.F.length x.cf)):=⟨_,rfl⟩;have hp:fg w4 (w.heap.size+1) (.int .i64 d.R) (.int .i64 d.C) (.slice x.a d.A.length x.ca) (.slice x.b d.B.length x.cb) (.int .i64 d.P) (.int .i64 d.T) (.slice x.v d.V.length x.cv) (.int .i64 d.U) (.int .i64 d.N) (.slice x.w d.W.length x.cw) (.slice x.k d.K.length x.ck) (.slice x.f d.F.length x.cf)=wz:=by rw [hwz];rfl
   obtain ⟨KZ,BZ,DZ⟩:=wg T4.out HR.out hp;rw [← hwz];clear hwz hp r0 r1 r2 r3 r4 r5 r6 r7 r8 r9 r10 r11 j0 j1 j2 j3 j4 j5 j6 j7 j8 j9 j10 j11 jf0 jf1 jf2 jf3 jf4 jf5 jf6 jf7 jf8 jf9 jf10 jf11;have HBZ:=Na BZ;have HDZ:=Na DZ;obtain ⟨t0,t1,t2,t3,t4,t5,t6,t7,t8,t9,t10,t11⟩:=af KZ;refine bodyPost_ret (v:=.tuple #[.agg #[.int .i64 d.R,.int .i64 d.C,.slice x.a d.A.length x.ca,.slice x.b d.B.length x.cb,.int .i64 d.P,.int .i64 d.T,.slice x.v d.V.length x.cv,.int .i64 d.U,.int .i64 d.N,.slice x.w d.W.length x.cw,.slice x.k d.K.length x.ck,.slice x.f d.F.length x.cf],.string (bs ya)]) (by simp [results,Tryz.results30,go_sem,t0,t1,t2,t3,t4,t5,t6,t7,t8,t9,t10,t11];try rfl) rfl ?_
   have e:gp f d=(d,ya):=by unfold gp;rw [hr.out]
   rw [e];exact ⟨HBZ.out,x,rfl,HDZ.out,.inl rfl⟩
 | some p =>
   obtain ⟨d',t'⟩:=p;have hr:=Na hr';clear hr';obtain ⟨m1,m2,m3,m4,m5,m6⟩:=HF.out d' t' HOK.out hr.out;have L:Hid (Calls Tryz.prog 67 #[.pointer (some ⟨b,0,none⟩),.slice (some ⟨w2.heap.size,0,none⟩) ws.length ws.length] w3 (fun e w'=>e=.returned (.tuple #[.string (bs t'),.bool true,.bool true])∧Hid (Touch w3 w' b (b+1))∧∃ x':DA,Hid (Blk w' b (d'.cells x') 33)∧Hid (DRd w' w'.heap.size d' x')∧Hid (DLo (w.heap.size+2) x'))):=LR.out.mono fun e w' h=>by
    rw [hr.out] at h;obtain ⟨h1,h2,x',h3,h4,h5⟩:=h;exact ⟨h2,h1,x',h3,h4,h5⟩
   clear LR;obtain ⟨tb,htb⟩:∃ tb,tb=bs t':=⟨_,rfl⟩;rw [← htb] at L;go_wp2_with fail;refine L.out.mono ?_;rintro e w4 ⟨rfl,hT,x',hK',hD',hL'⟩;have T4:=Na (S3.out.touch hT.out);have LV:=Na (jM w4 d'.R d'.C x'.a x'.ca d'.A x'.b x'.cb d'.B d'.P d'.T x'.v x'.cv d'.V d'.U d'.N x'.w x'.cw d'.W x'.k x'.ck d'.K x'.f x'.cf d'.F hD'.out.r m1 m2 m3 m4 m5 m6);rw [show gj d'.R d'.C d'.A d'.B d'.P d'.T d'.V d'.U d'.N d'.W d'.K d'.F=d'.ok from rfl] at LV
   obtain ⟨v0,v1,v2,v3,v4,v5,v6,v7,v8,v9,v10,v11⟩:=af hK'.out;clear hT L m1 m2 m3 m4 m5 m6
   cases hk:d'.ok with
   | false =>
     rw [hk] at LV;have HK:=Na hk;clear hk;go_wp2_with fail;refine LV.out.mono ?_;rintro e w5 ⟨rfl,hb5⟩;have T5:=Na (T4.out.same hb5);clear v0 v1 v2 v3 v4 v5 v6 v7 v8 v9 v10 v11 hb5 LV;obtain ⟨r0,r1,r2,r3,r4,r5,r6,r7,r8,r9,r10,r11⟩:=af T5.out.K;obtain ⟨j0,j1,j2,j3,j4,j5,j6,j7,j8,j9,j10,j11⟩:=af T5.out.R;have jf0:=T5.out.R.free 0;have jf1:=T5.out.R.free 1;have jf2:=T5.out.R.free 2;have jf3:=T5.out.R.free 3;have jf4:=T5.out.R.free 4;have jf5:=T5.out.R.free 5;have jf6:=T5.out.R.free 6;have jf7:=T5.out.R.free 7;have jf8:=T5.out.R.free 8;have jf9:=T5.out.R.free 9;have jf10:=T5.out.R.free 10;have jf11:=T5.out.R.free 11;go_wp2_with fail;obtain ⟨wz,hwz⟩:∃ X,X=((((((((((((w5.setCell ⟨w.heap.size+1,0,none⟩ (.int .i64 d.R)).setCell ⟨w.heap.size+1,1,none⟩ (.int .i64 d.C)).setCell ⟨w.heap.size+1,2,none⟩ (.slice x.a d.A.length x.ca)).setCell ⟨w.heap.size+1,3,none⟩ (.slice x.b d.B.length x.cb)).setCell ⟨w.heap.size+1,4,none⟩ (.int .i64 d.P)).setCell ⟨w.heap.size+1,5,none⟩ (.int .i64 d.T)).setCell ⟨w.heap.size+1,6,none⟩ (.slice x.v d.V.length x.cv)).setCell ⟨w.heap.size+1,7,none⟩ (.int .i64 d.U)).setCell ⟨w.heap.size+1,8,none⟩ (.int .i64 d.N)).setCell ⟨w.heap.size+1,9,none⟩ (.slice x.w d.W.length x.cw)).setCell ⟨w.heap.size+1,10,none⟩ (.slice x.k d.K.length x.ck)).setCell ⟨w.heap.size+1,11,none⟩ (.slice x.f d.F.length x.cf)):=⟨_,rfl⟩;have hp:fg w5 (w.heap.size+1) (.int .i64 d.R) (.int .i64 d.C) (.slice x.a d.A.length x.ca) (.slice x.b d.B.length x.cb) (.int .i64 d.P) (.int .i64 d.T) (.slice x.v d.V.length x.cv) (.int .i64 d.U) (.int .i64 d.N) (.slice x.w d.W.length x.cw) (.slice x.k d.K.length x.ck) (.slice x.f d.F.length x.cf)=wz:=by rw [hwz];rfl
     obtain ⟨KZ,BZ,DZ⟩:=wg T5.out HR.out hp;rw [← hwz];clear hwz hp r0 r1 r2 r3 r4 r5 r6 r7 r8 r9 r10 r11 j0 j1 j2 j3 j4 j5 j6 j7 j8 j9 j10 j11 jf0 jf1 jf2 jf3 jf4 jf5 jf6 jf7 jf8 jf9 jf10 jf11;have HBZ:=Na BZ;have HDZ:=Na DZ;obtain ⟨t0,t1,t2,t3,t4,t5,t6,t7,t8,t9,t10,t11⟩:=af KZ;refine bodyPost_ret (v:=.tuple #[.agg #[.int .i64 d.R,.int .i64 d.C,.slice x.a d.A.length x.ca,.slice x.b d.B.length x.cb,.int .i64 d.P,.int .i64 d.T,.slice x.v d.V.length x.cv,.int .i64 d.U,.int .i64 d.N,.slice x.w d.W.length x.cw,.slice x.k d.K.length x.ck,.slice x.f d.F.length x.cf],.string (bs ya)]) (by simp [results,Tryz.results30,go_sem,t0,t1,t2,t3,t4,t5,t6,t7,t8,t9,t10,t11];try rfl) rfl ?_
     have e:gp f d=(d,ya):=by unfold gp;rw [hr.out];dsimp only;rw [HK.out];rfl
     rw [e];exact ⟨HBZ.out,x,rfl,HDZ.out,.inl rfl⟩
   | true =>
     rw [hk] at LV;have HK:=Na hk;clear hk;go_wp2_with fail;refine LV.out.mono ?_;rintro e w5 ⟨rfl,hb5⟩;have T5:=Na (T4.out.same hb5);have K5:=Na (hK'.out.same hb5);have D5:=Na (hD'.out.to hb5);clear v0 v1 v2 v3 v4 v5 v6 v7 v8 v9 v10 v11 hb5 LV hK' hD';obtain ⟨v0,v1,v2,v3,v4,v5,v6,v7,v8,v9,v10,v11⟩:=af K5.out;obtain ⟨j0,j1,j2,j3,j4,j5,j6,j7,j8,j9,j10,j11⟩:=af T5.out.R;have jf0:=T5.out.R.free 0;have jf1:=T5.out.R.free 1;have jf2:=T5.out.R.free 2;have jf3:=T5.out.R.free 3;have jf4:=T5.out.R.free 4;have jf5:=T5.out.R.free 5;have jf6:=T5.out.R.free 6;have jf7:=T5.out.R.free 7;have jf8:=T5.out.R.free 8;have jf9:=T5.out.R.free 9;have jf10:=T5.out.R.free 10;have jf11:=T5.out.R.free 11;go_wp2_with fail;obtain ⟨wz,hwz⟩:∃ X,X=((((((((((((w5.setCell ⟨w.heap.size+1,0,none⟩ (.int .i64 d'.R)).setCell ⟨w.heap.size+1,1,none⟩ (.int .i64 d'.C)).setCell ⟨w.heap.size+1,2,none⟩ (.slice x'.a d'.A.length x'.ca)).setCell ⟨w.heap.size+1,3,none⟩ (.slice x'.b d'.B.length x'.cb)).setCell ⟨w.heap.size+1,4,none⟩ (.int .i64 d'.P)).setCell ⟨w.heap.size+1,5,none⟩ (.int .i64 d'.T)).setCell ⟨w.heap.size+1,6,none⟩ (.slice x'.v d'.V.length x'.cv)).setCell ⟨w.heap.size+1,7,none⟩ (.int .i64 d'.U)).setCell ⟨w.heap.size+1,8,none⟩ (.int .i64 d'.N)).setCell ⟨w.heap.size+1,9,none⟩ (.slice x'.w d'.W.length x'.cw)).setCell ⟨w.heap.size+1,10,none⟩ (.slice x'.k d'.K.length x'.ck)).setCell ⟨w.heap.size+1,11,none⟩ (.slice x'.f d'.F.length x'.cf)):=⟨_,rfl⟩;have hp:fg w5 (w.heap.size+1) (.int .i64 d'.R) (.int .i64 d'.C) (.slice x'.a d'.A.length x'.ca) (.slice x'.b d'.B.length x'.cb) (.int .i64 d'.P) (.int .i64 d'.T) (.slice x'.v d'.V.length x'.cv) (.int .i64 d'.U) (.int .i64 d'.N) (.slice x'.w d'.W.length x'.cw) (.slice x'.k d'.K.length x'.ck) (.slice x'.f d'.F.length x'.cf)=wz:=by rw [hwz];rfl
     obtain ⟨KZ,BZ,DZ⟩:=Mg T5.out D5.out hL'.out hp;rw [← hwz];clear hwz hp v0 v1 v2 v3 v4 v5 v6 v7 v8 v9 v10 v11 j0 j1 j2 j3 j4 j5 j6 j7 j8 j9 j10 j11 jf0 jf1 jf2 jf3 jf4 jf5 jf6 jf7 jf8 jf9 jf10 jf11;have HBZ:=Na BZ;have HDZ:=Na DZ;obtain ⟨t0,t1,t2,t3,t4,t5,t6,t7,t8,t9,t10,t11⟩:=af KZ;refine bodyPost_ret (v:=.tuple #[.agg #[.int .i64 d'.R,.int .i64 d'.C,.slice x'.a d'.A.length x'.ca,.slice x'.b d'.B.length x'.cb,.int .i64 d'.P,.int .i64 d'.T,.slice x'.v d'.V.length x'.cv,.int .i64 d'.U,.int .i64 d'.N,.slice x'.w d'.W.length x'.cw,.slice x'.k d'.K.length x'.ck,.slice x'.f d'.F.length x'.cf],.string tb]) (by simp [results,Tryz.results30,go_sem,t0,t1,t2,t3,t4,t5,t6,t7,t8,t9,t10,t11];try exact htb.symm) rfl ?_
     have e:gp f d=(d',t'):=by unfold gp;rw [hr.out];dsimp only;rw [HK.out];rfl
     rw [e];exact ⟨HBZ.out,x',by rw [htb];rfl,HDZ.out,.inr (hL'.out.mono (by omega))⟩
abbrev mZ:=List UInt8 × (DD→DD × List UInt8)
def pI (s:DD × List UInt8) (p:mZ):DD × List UInt8:=((p.2 s.1).1,s.2 ++ ((p.2 s.1).2 ++ [10]))
def ff (ps:List mZ) (s:DD × List UInt8):DD × List UInt8:=ps.foldl pI s
theorem EO {ps:List mZ} {s:DD × List UInt8} {k:Nat} {p:mZ} (h:ps[k]? = some p):ff (ps.take (k+1)) s=pI (ff (ps.take k) s) p:=by
 unfold ff;rw [List.take_add_one,h,List.foldl_append]
 rfl
theorem Ja {ps:List mZ} {s:DD × List UInt8} {m:Nat} (hF:∀ p∈ps,∀ d:DD,d.ok=true→(p.2 d).1.ok=true∧(p.2 d).2.length≤m) (h:s.1.ok=true):(ff ps s).1.ok=true∧(ff ps s).2.length≤s.2.length+ps.length * (m+1):=by
 induction ps generalizing s with
 | nil=>exact ⟨h,by simp [ff]⟩
 | cons p ps ih =>
   obtain ⟨h1,h2⟩:=hF p (List.mem_cons_self ..) s.1 h;have:=ih (s:=pI s p) (fun l' hl=>hF l' (List.mem_cons_of_mem _ hl)) h1
   refine ⟨this.1,Nat.le_trans this.2 ?_⟩
   simp only [pI,List.length_append,List.length_cons,List.length_nil,Nat.add_mul,Nat.one_mul];omega
theorem qT {ps:List mZ} {s:DD × List UInt8} {m:Nat} (hF:∀ p∈ps,∀ d:DD,d.ok=true→(p.2 d).1.ok=true∧(p.2 d).2.length≤m) (h:s.1.ok=true) (k:Nat):(ff (ps.take k) s).1.ok=true∧(ff (ps.take k) s).2.length≤s.2.length+ps.length * (m+1):=by
 have:=Ja (m:=m) (ps:=ps.take k) (fun l hl=>hF l (List.mem_of_mem_take hl)) h
 refine ⟨this.1,Nat.le_trans this.2 ?_⟩
 have hk:(ps.take k).length≤ps.length:=by rw [List.length_take];omega
 have:=Nat.mul_le_mul_right (m+1) hk;omega
structure DNo (bad:Nat→Prop) (x:DA):Prop where
 a:∀ y,x.a=some y→¬ bad y.block
 b:∀ y,x.b=some y→¬ bad y.block
 v:∀ y,x.v=some y→¬ bad y.block
 w:∀ y,x.w=some y→¬ bad y.block
 k:∀ y,x.k=some y→¬ bad y.block
 f:∀ y,x.f=some y→¬ bad y.block
theorem DNo.of_lo {bad:Nat→Prop} {x:DA} {lo:Nat} (h:DLo lo x) (hb:∀ k,bad k→k<lo):DNo bad x :=
 ⟨fun y e n=>by have:=hb _ n;have:=h.a y e;omega,fun y e n=>by have:=hb _ n;have:=h.b y e;omega,fun y e n=>by have:=hb _ n;have:=h.v y e;omega,fun y e n=>by have:=hb _ n;have:=h.w y e;omega,fun y e n=>by have:=hb _ n;have:=h.k y e;omega,fun y e n=>by have:=hb _ n;have:=h.f y e;omega⟩
theorem sM {w:World} {Z:Nat} {a:Option Addr} {vs:List Value} (h:Rd w Z a vs) (hn:vs≠[]):∀ y,a=some y→y.block<Z:=by
 rcases h with h | ⟨g,o,e,hg,_⟩
 · exact absurd h hn
 · intro y hy;rw [e] at hy;injection hy with hy;subst hy;exact hg
theorem qo {w w':World} {bad:Nat→Prop} {a:Option Addr} {vs:List Value} (h:Rd w w.heap.size a vs) (hn:∀ y,a=some y→¬ bad y.block) (hs:w.heap.size≤w'.heap.size) (hk:∀ k,k<w.heap.size→¬ bad k→w'.heap[k]? = w.heap[k]?):Rd w' w'.heap.size a vs:=by
 rcases h with h | ⟨g,o,e,hg,hc⟩
 · exact .inl h
 · exact .inr ⟨g,o,e,Nat.lt_of_lt_of_le hg hs,fun j hj=>by rw [World.cell?_of_block (w:=w) (hk g hg (hn _ e))];exact hc j hj⟩
theorem DRd.no {w w':World} {bad:Nat→Prop} {d:DD} {x:DA} (h:DRd w w.heap.size d x) (hn:DNo bad x) (hs:w.heap.size≤w'.heap.size) (hk:∀ k,k<w.heap.size→¬ bad k→w'.heap[k]? = w.heap[k]?):DRd w' w'.heap.size d x :=
 ⟨⟨qo h.r.A hn.a hs hk,qo h.r.B hn.b hs hk,qo h.r.V hn.v hs hk,qo h.r.W hn.w hs hk,qo h.r.C hn.k hs hk,qo h.r.T hn.f hs hk⟩,h.f⟩
theorem DNo.or {p q r:Nat→Prop} {x:DA} (h:DNo p x) (h2:DNo q x) (hr:∀ k,r k→p k∨q k):DNo r x :=
 ⟨fun y e n=>(hr _ n).elim (h.a y e) (h2.a y e),fun y e n=>(hr _ n).elim (h.b y e) (h2.b y e),fun y e n=>(hr _ n).elim (h.v y e) (h2.v y e),fun y e n=>(hr _ n).elim (h.w y e) (h2.w y e),fun y e n=>(hr _ n).elim (h.k y e) (h2.k y e),fun y e n=>(hr _ n).elim (h.f y e) (h2.f y e)⟩
theorem pH {xs:List Int} (h:1≤xs.length):ae xs≠[]:=fun e=>by have:=congrArg List.length e;rw [ints_length] at this;simp at this;subst this;simp at h
theorem Kl {xs:List Nat} (h:1≤xs.length):dt xs≠[]:=fun e=>by have:=congrArg List.length e;simp [dt] at this;subst this;simp at h
theorem DRd.lt {w:World} {Z:Nat} {d:DD} {x:DA} (h:DRd w Z d x) (hok:d.ok=true) {bad:Nat→Prop} (hb:∀ k,bad k→Z≤k):DNo bad x:=by
 obtain ⟨⟨a1,_⟩,⟨b1,_⟩,⟨v1,_⟩,⟨l1,_⟩,⟨k1,_⟩,f1,_⟩:=DD.ok_len hok;exact ⟨fun y e n=>by have:=hb _ n;have:=sM h.r.A (pH a1) y e;omega,fun y e n=>by have:=hb _ n;have:=sM h.r.B (pH b1) y e;omega,fun y e n=>by have:=hb _ n;have:=sM h.r.V (pH v1) y e;omega,fun y e n=>by have:=hb _ n;have:=sM h.r.W (pH l1) y e;omega,fun y e n=>by have:=hb _ n;have:=sM h.r.C (pH k1) y e;omega,fun y e n=>by have:=hb _ n;have:=sM h.r.T (Kl f1) y e;omega⟩
theorem Bi {w:World} {g T:Nat} {d:DD} {x:DA} (h:Blk w g (d.cells x) T) (o:Nat) (t:ByteArray):w.cell? ⟨g,o,none⟩≠some (.string t):=by
 rw [h.cell];intro e;have:=List.mem_of_getElem? e;simp [DD.cells] at this
theorem Fa {w:World} {g T:Nat} (h:Blk w g [.int .i64 0,.int .i64 0,.slice none 0 0,.slice none 0 0,.int .i64 0,.int .i64 0,.slice none 0 0,.int .i64 0,.int .i64 0,.slice none 0 0,.slice none 0 0,.slice none 0 0] T) (o:Nat) (t:ByteArray):w.cell? ⟨g,o,none⟩≠some (.string t):=by
 rw [h.cell];intro e;have:=List.mem_of_getElem? e;simp at this
theorem CV {w:World} {Z g:Nat} {a:Option Addr} {ls:List (List UInt8)} (h:Rd w Z a (cn ls)) (hl:ls≠[]) (hg:∀ o t,w.cell? ⟨g,o,none⟩≠some (.string t)):∀ y,a=some y→y.block≠g:=by
 rcases h with h | ⟨b,o,e,hb,hc⟩
 · cases ls with
   | nil=>exact absurd rfl hl
   | cons l ls=>simp [cn] at h
 · intro y hy e2
   rw [e] at hy;injection hy with hy
   subst hy
   cases ls with
   | nil=>exact hl rfl
   | cons l ls =>
     have:=hc 0 (by simp)
     simp only [cn,List.map_cons,List.getElem?_cons_zero,Nat.add_zero] at this;exact hg o _ (by rw [← e2];exact this)
theorem Kg:(Tryz.prog.info? 85).map (·.size)=some 2:=by kernel_rfl
theorem MO:liesAt Tryz.prog Tryz.prog.depth 85 (2 / Tryz.prog.cellsOf 85) 0 85 1=true:=by kernel_rfl
theorem Mn:(Tryz.prog.info? 5).map (fun i=>(i.zero,i.size,i.bytes))=some (some (.int .u8 0),1,1):=by kernel_rfl
theorem JV (b:Nat) (w:World) (h0:w.cell? ⟨b,0,none⟩=some (.pointer (some ⟨b,0,none⟩))) :
 Calls Tryz.prog 81 #[.pointer (some ⟨b,0,none⟩)] w fun e w'=>e=.returned (.tuple #[])∧w'=w:=by
 obtain ⟨j,hj,_⟩:=Option.map_eq_some_iff.1 Kg
 go_enter Tryz.func81,Tryz.ntmps81
 go_wp2
 rw [Lib.run_neq_ptr_same w _ Tryz.underlying83 hj]
 go_wp2
 go_end0
 exact ⟨rfl,rfl⟩
theorem Gg (b:Nat) (w:World) (h0:w.cell? ⟨b,0,none⟩=some (.pointer none)) (hsh:w.shape? b=some (85,2)) (hfz:w.frozen? ⟨b,0,none⟩=false) :
 Calls Tryz.prog 81 #[.pointer (some ⟨b,0,none⟩)] w fun e w'=>e=.returned (.tuple #[])∧w'=w.setCell ⟨b,0,none⟩ (.pointer (some ⟨b,0,none⟩)):=by
 obtain ⟨j,hj,hjs⟩:=Option.map_eq_some_iff.1 Kg
 go_enter Tryz.func81,Tryz.ntmps81
 go_wp2
 rw [Lib.run_to_unsafe w ⟨b,0,none⟩ Tryz.underlying83 Tryz.underlying165 hj (by rw [hjs];decide) hsh (Nat.zero_lt_succ 1)]
 simp only [Result.andThen];rw [Oper.upon_value]
 go_wp2
 rw [run_callFunc_extern Tryz.func107 (by kernel_rfl) (by kernel_rfl) (by kernel_rfl) (e:=Extern.AbiNoEscape.same) (by kernel_rfl)]
 rw [Lib.run_noEscape];simp only [Result.andThen];rw [Oper.upon_value]
 go_wp2
 rw [Lib.run_from_unsafe w ⟨b,0,none⟩ Tryz.underlying165 Tryz.underlying83 hj hsh MO];simp only [Result.andThen];rw [Oper.upon_value]
 go_wp2
 go_end0
 exact ⟨rfl,rfl⟩
theorem vH {P:Program} {w:World} (base:Nat) (t u ty e:TypeId) (i:TypeInfo) (ht:P.underlying t=some (.slice e)) (hu:P.underlying u=some .string) (hi:P.info? e=some i) (hz:i.zero=some (.int .u8 0))
 (hsize:i.size=1) (hby:i.bytes=1)
 (v:Value) (n:Nat) (xs:List Value) (hown:w.ownsRow base e 1 v n xs) (s:ByteArray)
 (h63:n+s.size≤maxLen) (hbytes:n+s.size≤140737488355328) (hbase:base≤w.heap.size) :
 ∃ v' w',(Builtin.append_ #[t,u] ty #[v,.string s]).run P w=.ok v' w'∧w'.ownsRow base e 1 v' (n+s.size) (xs ++ Lib.strCells s)∧w.grownBy w' v.ownBlock ∧
  ∀ k,v'.ownBlock=some k→v.ownBlock=some k∨w.heap.size≤k:=by
 obtain ⟨v',w',hr,h2,h3,h4⟩:=Lib.run_append_own_string (P:=P) w base t u ty e i ht hu hi hz hsize hby v n xs hown s h63 hbytes hbase;refine ⟨v',w',hr,h2,h3,?_⟩
 have hsmall:n+s.size≤9223372036854775807:=by simp only [maxLen] at h63;omega
 have hxl:xs.length=n:=by simpa using hown.1
 intro k hk
 rcases hown.2 with ⟨rfl,rfl⟩ | ⟨g,cap,cur,rfl,hbg,hg,hnc,hcm,hcs,htake⟩
 · by_cases hm:s.size=0
   · have:=h4.2 ⟨rfl,hm⟩;subst this;cases hk
   · have hr':=run_append_nil_string (P:=P) w t u ty e i (.int .u8 0) ht hu hi hz s (by omega) (by omega) (by rw [hby];omega)
     rw [hr] at hr';injection hr' with e1 e2
     subst e1;injection hk with hk
     exact .inr (Nat.le_of_eq hk)
 · by_cases hroom:n+s.size≤cap
   · have hcs':cur.size=cap:=by simpa using hcs
     have hr':=Lib.run_append_room_string (P:=P) w t u ty e i ht hu hi hsize g n cap cur hg s hroom (by omega)
     rw [hr] at hr';injection hr' with e1 e2
     subst e1;exact .inl hk
   · have holds:∀ j u,xs[j]? = some u→w.cell? ((⟨g,0,none⟩:Addr).add j)=some u:=hown.cells (g:=g) rfl
     have hr':=Lib.run_append_grow_string (P:=P) w t u ty e i (.int .u8 0) ht hu hi hz ⟨g,0,none⟩ n cap xs (by rw [hsize];simpa using hxl) holds s (by omega) (by omega) (by rw [hby];exact growslice_fits (by omega) (by omega))
     rw [hr] at hr';injection hr' with e1 e2
     subst e1;injection hk with hk
     exact .inr (Nat.le_of_eq hk)
theorem rM {P:Program} {w:World} {ops:Array Oper} {rest:List Oper} {o:Oper} {a:Act} {Q:Exit→Act→World→Prop} (hgd:o.guard=none) (sl x:Operand) (t u:TypeId)
 (ho:o.op=.call { callee:=.builtin .append,args:=#[sl,x],argTypes:=#[t,u] })
 (base:Nat) (e:TypeId) (i:TypeInfo) (ht:P.underlying t=some (.slice e)) (hu:P.underlying u=some .string) (hi:P.info? e=some i) (hz:i.zero=some (.int .u8 0))
 (hsize:i.size=1) (hby:i.bytes=1)
 (v:Value) (n:Nat) (xs:List Value) (hs:a.eval sl=v) (hown:w.ownsRow base e 1 v n xs) (s:ByteArray) (hx:a.eval x=.string s)
 (h63:n+s.size≤maxLen) (hbytes:n+s.size≤140737488355328) (hbase:base≤w.heap.size)
 (h:∀ v' w',w'.ownsRow base e 1 v' (n+s.size) (xs ++ Lib.strCells s)→w.grownBy w' v.ownBlock→(∀ k,v'.ownBlock=some k→v.ownBlock=some k∨w.heap.size≤k)→wpList P ops Q rest (a.put o.dst v') w'):wpList P ops Q (o :: rest) a w:=by
 refine wpList_plain hgd fun K hK=>?_
 obtain ⟨v',w',hr,h2,h3,h4⟩:=vH (P:=P) (w:=w) base t u o.type e i ht hu hi hz hsize hby v n xs hown s h63 hbytes hbase;unfold Oper.wp execOp;simp only [ho,resolve,invoke,builtin,Sem.run_bind,Sem.run_pure,Result.andThen_ok,List.map_toArray,List.map_cons,List.map_nil,hs,hx,hr];exact hK _ _ (h v' w' h2 h3 h4)
def us (B b:Nat) (v:Value) (bs:List Value) (w:World):Prop :=
 B≤b∧(∃ p,(p=.pointer none∨p=.pointer (some ⟨b,0,none⟩))∧w.heap[b]? = some (.cells #[p,v] 85 (0,0)))∧w.ownsRow B 5 1 v bs.length bs∧v.ownBlock≠some b
structure BldW (b:Nat) (v:Value) (w w':World):Prop where
 os:w'.os=w.os
 tape:w'.tape=w.tape
 output:w'.output=w.output
 size:w.heap.size≤w'.heap.size
 block:∀ k,k<w.heap.size→k≠b→v.ownBlock≠some k→w'.heap[k]? = w.heap[k]?
theorem zx (B b:Nat) (bs:List Value) (w:World) (v:Value) (h:us B b v bs w) :
 Calls Tryz.prog 81 #[.pointer (some ⟨b,0,none⟩)] w fun e w'=>e=.returned (.tuple #[])∧(B≤b∧w'.heap[b]? = some (.cells #[.pointer (some ⟨b,0,none⟩),v] 85 (0,0))∧w'.ownsRow B 5 1 v bs.length bs∧v.ownBlock≠some b)∧w'.heap.size=w.heap.size∧BldW b v w w':=by
 obtain ⟨hB,⟨p,hp,hk⟩,ho,hne⟩:=h
 rcases hp with rfl | rfl
 · have h:Lib.BuilderAt 85 5 B b (.pointer none) bs w:=⟨hB,v,hk,ho,hne⟩
   refine (Gg b w h.cell0 h.shape h.frozen0).mono ?_;rintro e w' ⟨rfl,rfl⟩;refine ⟨rfl,⟨hB,by simp [World.setCell,Array.getElem?_modify,hk],?_,hne⟩,by simp [World.setCell],?_⟩
   · exact ho.kept (row:=some b) ⟨rfl,rfl,rfl,by simp [World.setCell],fun k _ h'=>Below.heap_setCell _ _ _ _ (fun e=>h' (by simp [e]))⟩ (Or.inr hne)
   · exact ⟨rfl,rfl,rfl,by simp [World.setCell],fun k _ h' _=>Below.heap_setCell _ _ _ _ (fun e=>h' (by simp [e]))⟩
 · have h:Lib.BuilderAt 85 5 B b (.pointer (some ⟨b,0,none⟩)) bs w:=⟨hB,v,hk,ho,hne⟩
   refine (JV b w h.cell0).mono ?_;rintro e w' ⟨rfl,rfl⟩;exact ⟨rfl,⟨hB,hk,ho,hne⟩,rfl,⟨rfl,rfl,rfl,Nat.le_refl _,fun _ _ _ _=>rfl⟩⟩
theorem wj (B b:Nat) (bs:List Value) (s:ByteArray) (w:World) (v:Value) (h:us B b v bs w) (hlen:bs.length+s.size≤140737488355328) (hBw:B≤w.heap.size) :
 Calls Tryz.prog 42 #[.pointer (some ⟨b,0,none⟩),.string s] w fun e w'=>e=.returned (.tuple #[.int .i64 s.size,.nilIface])∧∃ v',us B b v' (bs ++ Lib.strCells s) w'∧BldW b v w w'∧∀ k,v'.ownBlock=some k→v.ownBlock=some k∨w.heap.size≤k:=by
 obtain ⟨i0,hi,hz0,hz1,hz2⟩:=info_parts Mn;have LC:=Na (zx B b bs w v h);clear h
 go_enter Tryz.func42,Tryz.ntmps42;go_wp2_with fail;refine LC.out.mono ?_;rintro e w1 ⟨rfl,⟨hB,hbk,hown,hne⟩,hs1,hW⟩;have HW:=Na hW;clear hW;have c0:w1.cell? ⟨b,0,none⟩=some (.pointer (some ⟨b,0,none⟩)):=by rw [Lib.cell_of_heap hbk];rfl
 have c1:w1.cell? ⟨b,1,none⟩=some v:=by rw [Lib.cell_of_heap hbk];rfl
 go_wp2_with (at_builtin;refine rM rfl _ _ 22 9 rfl B 5 i0 Tryz.underlying22 Tryz.underlying9 hi hz0 hz1 hz2 _ _ _ rfl hown s rfl ?c3 ?c4 ?c5 ?_)
 case c3=>unfold maxLen;omega
 case c4=>omega
 case c5=>omega
 intro v' w2 hown' hgrow hnew;have hlt:b<w1.heap.size:=by
  rcases Nat.lt_or_ge b w1.heap.size with h' | h'
  · exact h'
  · simp [Array.getElem?_eq_none h'] at hbk
 have hb2:w2.heap[b]? = some (.cells #[.pointer (some ⟨b,0,none⟩),v] 85 (0,0)):=by
  rw [hgrow.block b hlt (fun e=>hne e.symm)]
  exact hbk
 have d0:w2.cell? ⟨b,0,none⟩=some (.pointer (some ⟨b,0,none⟩)):=by rw [Lib.cell_of_heap hb2];rfl
 have d1:w2.cell? ⟨b,1,none⟩=some v:=by rw [Lib.cell_of_heap hb2];rfl
 have f1:w2.frozen? ⟨b,1,none⟩=false:=Lib.frozen_of_heap hb2 1;have hne':v'.ownBlock≠some b:=fun e=>by
  rcases hnew b e with h | h
  · exact hne h
  · omega
 have HN:=Na hnew;have HO:=Na hown';have HG:=Na hgrow;have HNE:=Na hne';have HN0:=Na hne;obtain ⟨ao,n',cap,rfl⟩:∃ ao n' cap,v'=.slice ao n' cap:=by
  rcases hown'.2 with ⟨hv,_⟩ | ⟨g,cap,cur,hv,_⟩
  · exact ⟨_,_,_,hv⟩
  · exact ⟨_,_,_,hv⟩
 clear hnew hown' hgrow hne' hne
 go_wp2
 go_ret2
 refine ⟨rfl,.slice ao n' cap,⟨hB,⟨_,.inr rfl,by simp [World.setCell,Array.getElem?_modify,hb2]⟩,?_,HNE.out⟩,?_,fun k hk=>HN.out k hk⟩
 · have ho:w2.ownsRow B 5 1 (.slice ao n' cap) (bs ++ Lib.strCells s).length (bs ++ Lib.strCells s):=by simpa [Lib.strCells_length] using HO.out
   exact ho.kept (row:=some b) ⟨rfl,rfl,rfl,by simp [World.setCell],fun k _ h'=>Below.heap_setCell _ _ _ _ (fun e=>h' (by simp [e]))⟩ (Or.inr HNE.out)
 · refine ⟨?_,?_,?_,?_,fun k hk h1 h2=>?_⟩
   · exact HG.out.os.trans HW.out.os
   · exact HG.out.tape.trans HW.out.tape
   · exact HG.out.output.trans HW.out.output
   · have h1:=HW.out.size
     have h2:=HG.out.size;simp [World.setCell];omega
   · rw [Below.heap_setCell _ _ _ _ (fun e=>h1 (by simp [e])),HG.out.block k (by have:=HW.out.size;omega) (fun e=>h2 e.symm),HW.out.block k hk h1 h2]
theorem zg (w:World) (g n:Nat):(w.freeze ⟨g,0,none⟩ n).os=w.os∧(w.freeze ⟨g,0,none⟩ n).tape=w.tape∧(w.freeze ⟨g,0,none⟩ n).output=w.output∧(w.freeze ⟨g,0,none⟩ n).heap.size=w.heap.size∧∀ k,k≠g→(w.freeze ⟨g,0,none⟩ n).heap[k]? = w.heap[k]?:=by
 unfold World.freeze
 split
 · exact ⟨rfl,rfl,rfl,rfl,fun _ _=>rfl⟩
 · refine ⟨rfl,rfl,rfl,by simp,fun k hk=>?_⟩
   simp only [Array.getElem?_modify];rw [if_neg (by omega)]
theorem Gu:Tryz.prog.cellsOf 5=1:=by kernel_rfl
theorem Hf (B b:Nat) (l:List UInt8) (w:World) (v:Value) (h:us B b v (Lib.byteCells l) w) (h0:l≠[]) :
 Calls Tryz.prog 43 #[.pointer (some ⟨b,0,none⟩)] w fun e w'=>e=.returned (.string (bs l))∧BldW b v w w':=by
 obtain ⟨hB,⟨p,-,hbk⟩,hown,hne⟩:=h;have hl0:l.length≠0:=by simpa using h0
 rw [Lib.byteCells_length] at hown;obtain ⟨g,cap,cur,rfl,hbg,hg,hnc,hcm,hcs,htake⟩:∃ g cap cur,v=.slice (some ⟨g,0,none⟩) l.length cap∧B≤g∧w.heap[g]? = some (.cells cur 5 (0,0))∧l.length≤cap∧cap≤maxLen∧cur.size=cap * 1∧cur.toList.take (l.length * 1)=Lib.byteCells l:=by
  rcases hown.2 with ⟨_,hz⟩ | ⟨g,cap,cur,hv,r⟩
  · exact absurd hz hl0
  · exact ⟨g,cap,cur,hv,r⟩
 have c1:w.drew.cell? ⟨b,1,none⟩=some (.slice (some ⟨g,0,none⟩) l.length cap):=by
  have:w.drew.heap[b]? = some (.cells #[p,.slice (some ⟨g,0,none⟩) l.length cap] 85 (0,0)):=hbk;rw [Lib.cell_of_heap this];rfl
 have hSD:(Builtin.unsafeSliceData_ #[22] 135 #[.slice (some ⟨g,0,none⟩) l.length cap]).run Tryz.prog w.drew=.ok (.pointer (some ⟨g,0,none⟩)) w.drew :=
  Lib.run_unsafeSliceData_row _ _ _ _ _ _ (by omega)
 have hUS:(Builtin.unsafeString_ #[135,3] 9 #[.pointer (some ⟨g,0,none⟩),.int .i64 l.length]).run Tryz.prog w.drew=.ok (.string ⟨l.toArray⟩) (w.drew.freeze ⟨g,0,none⟩ l.length):=by
  refine Lib.run_unsafeString_row w.drew 135 3 9 5 Tryz.underlying135 Gu g cur.size (by have hg':w.drew.heap[g]? = some (.cells cur 5 (0,0)):=hg;simp [World.shape?,hg']) l h0 (by omega) (by unfold maxLen at hcm;omega) ?_
  intro j x hx;exact hown.cells (g:=g) rfl j (.int .u8 x.toNat) (by simp [Lib.byteCells,hx])
 have HF:=Na (zg w.drew g l.length);have hbg':b≠g:=fun e=>hne (by rw [e];rfl)
 have c2:(w.drew.freeze ⟨g,0,none⟩ l.length).cell? ⟨b,1,none⟩=some (.slice (some ⟨g,0,none⟩) l.length cap):=by
  rw [World.cell?_of_block (w:=w.drew) (HF.out.2.2.2.2 b hbg')];exact c1
 clear hbg' htake hcs hcm hnc hg hbg hown hbk hne hl0 hB h0
 go_enter Tryz.func43,Tryz.ntmps43
 go_upto_region 1 with fail
 go_region_held3 (fun w'=>w'.cell? ⟨b,1,none⟩=some (.slice (some ⟨g,0,none⟩) l.length cap)) (first | assumption | exact c1 | exact c2) (first | exact hSD | exact hUS)
 all_goals
  go_wp2_with fail;go_ret;exact ⟨rfl,HF.out.1,HF.out.2.1,HF.out.2.2.1,Nat.le_of_eq HF.out.2.2.2.1.symm,fun k hk _ h2=>HF.out.2.2.2.2 k (fun e=>h2 (by rw [e];rfl))⟩
end Go.Proofs.YtbknhgapjjaelaaGreatDoor
