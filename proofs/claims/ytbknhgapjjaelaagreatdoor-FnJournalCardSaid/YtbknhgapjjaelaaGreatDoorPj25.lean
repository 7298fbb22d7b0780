/-
  Part 25 of what the proof stands on: lemmas and contracts, each with its conditions ahead of the colon.
-/
import Derived.Test.YtbknhgapjjaelaaGreatDoorPj01
import Derived.Test.YtbknhgapjjaelaaGreatDoorPj02
import Derived.Test.YtbknhgapjjaelaaGreatDoorPj04
import Derived.Test.YtbknhgapjjaelaaGreatDoorPj06
import Derived.Test.YtbknhgapjjaelaaGreatDoorPj12
import Derived.Test.YtbknhgapjjaelaaGreatDoorPj13
import Derived.Test.YtbknhgapjjaelaaGreatDoorPj16
import Derived.Test.YtbknhgapjjaelaaGreatDoorPj23
import Derived.Test.YtbknhgapjjaelaaGreatDoorPj24
set_option maxRecDepth 100000
set_option maxHeartbeats 64000000
namespace Go.Proofs.YtbknhgapjjaelaaGreatDoor
set_option linter.unusedVariables false
set_option linter.unusedSimpArgs false
open Go.RowKit
theorem rX {T lo hi c:Nat} {w:World} {a:Option Addr} {xs:List Int} (h:OwnI T w lo hi a c xs):∀ y,a=some y→lo≤y.block:=fun y e=>(h.1.lt y.block (by simp [Value.ownBlock,e])).1
theorem MK {T lo hi c:Nat} {w:World} {a:Option Addr} {xs:List Nat} (h:OwnF T w lo hi a c xs):∀ y,a=some y→lo≤y.block:=fun y e=>(h.1.lt y.block (by simp [Value.ownBlock,e])).1
theorem xZ {T lo hi:Nat} {w:World} {a b:Option Addr} {ca cb:Nat} {xa xb:List Int} (h:OwnTwo T w lo hi a ca xa b cb xb):(∀ y,a=some y→lo≤y.block)∧∀ y,b=some y→lo≤y.block:=by
 obtain ⟨m,hm,h | h⟩:=h
 · exact ⟨rX h.1,fun y e=>by have:=rX h.2 y e;omega⟩
 · exact ⟨fun y e=>by have:=rX h.2 y e;omega,rX h.1⟩
theorem Km {w:World} {lo hi:Nat} {d:DD} {x:DA} (h:OwnDd w lo hi d x):DLo lo x:=by
 obtain ⟨m1,m2,m3,hm,h1,h2,h3,h4⟩:=h;have t1:=xZ h1;have t2:=rX h2;have t3:=xZ h3;have t4:=MK h4;exact ⟨t1.1,t1.2,fun y e=>by have:=t2 y e;omega,fun y e=>by have:=t3.1 y e;omega,fun y e=>by have:=t3.2 y e;omega,fun y e=>by have:=t4 y e;omega⟩
theorem Iv {w:World} {lo hi:Nat} {d:DD} {x:DA} (h:OwnDd w lo hi d x):d.A.length≤x.ca:=by
 obtain ⟨m1,m2,m3,hm,⟨m,_,h1 | h1⟩,h2,h3,h4⟩:=h
 · exact h1.1.cap
 · exact h1.2.cap
theorem DRd.low {w w':World} {lo' hi':Nat} {d:DD} {x:DA} (h:DRd w w.heap.size d x) (hl:DLo hi' x) (ht:Touch w w' lo' hi'):DRd w' w'.heap.size d x :=
 ⟨⟨gL h.r.A ht (fun y e=>by have:=hl.a y e;omega),gL h.r.B ht (fun y e=>by have:=hl.b y e;omega),gL h.r.V ht (fun y e=>by have:=hl.v y e;omega),gL h.r.W ht (fun y e=>by have:=hl.w y e;omega),gL h.r.C ht (fun y e=>by have:=hl.k y e;omega),gL h.r.T ht (fun y e=>by have:=hl.f y e;omega)⟩,h.f⟩
def DD.small (d:DD):Prop:=d.A.length≤1048576∧d.B.length≤1048576∧d.V.length≤1048576∧d.W.length≤1048576∧d.K.length≤1048576∧d.F.length≤1048576
structure CmS (w:World) (d:DD) (x y:DA) (b:Nat) (wx:World):Prop where
 K:Blk wx w.heap.size (d.cells x) 33
 R:Blk wx (w.heap.size+1) [.int .i64 0,.int .i64 0,.slice none 0 0,.slice none 0 0,.int .i64 0,.int .i64 0,.slice none 0 0,.int .i64 0,.int .i64 0,.slice none 0 0,.slice none 0 0,.slice none 0 0] 33
 B:Below w.heap.size w wx
 O:Blk wx b (d.cells y) 33
 D:DRd wx b d y
 L:DLo (w.heap.size+2) y
 s:w.heap.size+2≤b
 c:d.A.length≤y.ca
theorem CmS.same {w wx wy:World} {d:DD} {x y:DA} {b:Nat} (h:CmS w d x y b wx) (hb:Below wx.heap.size wx wy):CmS w d x y b wy :=
 ⟨h.K.same hb,h.R.same hb,aa h.B hb,h.O.same hb,h.D.below hb (Nat.le_of_lt h.O.lt),h.L,h.s,h.c⟩
structure CmT (w:World) (d:DD) (x:DA) (wx:World):Prop where
 K:Blk wx w.heap.size (d.cells x) 33
 R:Blk wx (w.heap.size+1) [.int .i64 0,.int .i64 0,.slice none 0 0,.slice none 0 0,.int .i64 0,.int .i64 0,.slice none 0 0,.int .i64 0,.int .i64 0,.slice none 0 0,.slice none 0 0,.slice none 0 0] 33
 B:Below w.heap.size w wx
theorem CmS.touch {w wx wy:World} {d:DD} {x y:DA} {b:Nat} (h:CmS w d x y b wx) (ht:Touch wx wy b (b+1)):CmT w d x wy :=
 ⟨h.K.touch ht (.inl (by have:=h.s;omega)),h.R.touch ht (.inl (by have:=h.s;omega)),aI h.B ht (by have:=h.s;omega) (by have:=h.B.size;omega)⟩
theorem CmT.same {w wx wy:World} {d:DD} {x:DA} (h:CmT w d x wx) (hb:Below wx.heap.size wx wy):CmT w d x wy:=⟨h.K.same hb,h.R.same hb,aa h.B hb⟩
theorem Nn {w wx:World} {d d':DD} {x x':DA} (h:CmT w d x wx) (hd:DRd wx wx.heap.size d' x') (hl:DLo (w.heap.size+2) x') {wz:World} (hp:gV wx (w.heap.size+1) (.int .i64 d'.R) (.int .i64 d'.C) (.slice x'.a d'.A.length x'.ca) (.slice x'.b d'.B.length x'.cb) (.int .i64 d'.P) (.int .i64 d'.T) (.slice x'.v d'.V.length x'.cv) (.int .i64 d'.U) (.int .i64 d'.N) (.slice x'.w d'.W.length x'.cw) (.slice x'.k d'.K.length x'.ck) (.slice x'.f d'.F.length x'.cf)=wz):Blk wz (w.heap.size+1) (d'.cells x') 33∧Below w.heap.size w wz∧DRd wz wz.heap.size d' x':=by
 have T8:Touch wx wz (w.heap.size+1) (w.heap.size+1+1):=by rw [← hp];exact fY _ _ _ _ _ _ _ _ _ _ _ _ _ _
 refine ⟨by rw [← hp];exact jm h.R _ _ _ _ _ _ _ _ _ _ _ _,aI h.B T8 (by omega) (by have:=h.B.size;omega),hd.low hl T8⟩
theorem wG {w wx:World} {d:DD} {x:DA} (h:CmT w d x wx) (hd:DRd w w.heap.size d x) {wz:World} (hp:gV wx (w.heap.size+1) (.int .i64 d.R) (.int .i64 d.C) (.slice x.a d.A.length x.ca) (.slice x.b d.B.length x.cb) (.int .i64 d.P) (.int .i64 d.T) (.slice x.v d.V.length x.cv) (.int .i64 d.U) (.int .i64 d.N) (.slice x.w d.W.length x.cw) (.slice x.k d.K.length x.ck) (.slice x.f d.F.length x.cf)=wz):Blk wz (w.heap.size+1) (d.cells x) 33∧Below w.heap.size w wz∧DRd wz wz.heap.size d x:=by
 have T8:Touch wx wz (w.heap.size+1) (w.heap.size+1+1):=by rw [← hp];exact fY _ _ _ _ _ _ _ _ _ _ _ _ _ _
 have hb:=aI h.B T8 (by omega) (by have:=h.B.size;omega)
 exact ⟨by rw [← hp];exact jm h.R _ _ _ _ _ _ _ _ _ _ _ _,hb,hd.to hb⟩
theorem CA {l:List UInt8} {f:DD→il} (hl:l.length≤1048576) (HC:kG (cH 32 l) f) (HS:∀ d d' t,d.ok=true→f d=some (some (d',t))→d'.small):Et l (gP f):=by
 intro w d x hE hok hR;have HF:=Oi (HS d);have hlb:(bs l).data.toList=l:=cu l;have hls:(bs l).size≤1048576:=by rw [aE];exact hl
 obtain ⟨w0,hw0⟩:∃ X,X=(w.alloc (.cells #[.int .i64 d.R,.int .i64 d.C,.slice x.a d.A.length x.ca,.slice x.b d.B.length x.cb,.int .i64 d.P,.int .i64 d.T,.slice x.v d.V.length x.cv,.int .i64 d.U,.int .i64 d.N,.slice x.w d.W.length x.cw,.slice x.k d.K.length x.ck,.slice x.f d.F.length x.cf] 33)).alloc (.cells #[.int .i64 0,.int .i64 0,.slice none 0 0,.slice none 0 0,.int .i64 0,.int .i64 0,.slice none 0 0,.int .i64 0,.int .i64 0,.slice none 0 0,.slice none 0 0,.slice none 0 0] 33):=⟨_,rfl⟩;have K0:Blk w0 w.heap.size (d.cells x) 33:=by rw [hw0];exact (Blk.new w _ _).alloc _
 have R0:Blk w0 (w.heap.size+1) [.int .i64 0,.int .i64 0,.slice none 0 0,.slice none 0 0,.int .i64 0,.int .i64 0,.slice none 0 0,.int .i64 0,.int .i64 0,.slice none 0 0,.slice none 0 0,.slice none 0 0] 33:=by
  rw [hw0];have:=Blk.new (w.alloc (.cells #[.int .i64 d.R,.int .i64 d.C,.slice x.a d.A.length x.ca,.slice x.b d.B.length x.cb,.int .i64 d.P,.int .i64 d.T,.slice x.v d.V.length x.cv,.int .i64 d.U,.int .i64 d.N,.slice x.w d.W.length x.cw,.slice x.k d.K.length x.ck,.slice x.f d.F.length x.cf] 33)) [.int .i64 0,.int .i64 0,.slice none 0 0,.slice none 0 0,.int .i64 0,.int .i64 0,.slice none 0 0,.int .i64 0,.int .i64 0,.slice none 0 0,.slice none 0 0,.slice none 0 0] 33;rwa [World.size_alloc] at this
 have B0:Below w.heap.size w w0:=by rw [hw0];exact cd _ _ _
 have s0:w0.heap.size=w.heap.size+2:=by rw [hw0];simp
 have LC:=Oi (oh w0 d x hok (hR.to B0));unfold DD.val at LC ⊢;obtain ⟨r0,r1,r2,r3,r4,r5,r6,r7,r8,r9,r10,r11⟩:=af K0;rw [hw0] at r0 r1 r2 r3 r4 r5 r6 r7 r8 r9 r10 r11;have HK0:=Oi K0;have HR0:=Oi R0;have HB0:=Oi B0;have HE:=Oi hE;have HOK:=Oi hok;have HR:=Oi hR;have HCC:=Oi HC;have LS:=Oi (fun v (hv:Below w.heap.size w v)=>pr v (hE.shp.to hv) (bs l) hls 32 ⟨#[32]⟩ rfl)
 rw [hlb] at LS;clear hE hok hR HC HS K0 R0 B0 hls hlb hl;generalize hcl:cH 32 l=ws at *
 generalize bs l=lb at *
 clear hcl
 go_enter Tryz.func30,Tryz.ntmps30;go_wp2_with fail;rw [← hw0];clear hw0 r0 r1 r2 r3 r4 r5 r6 r7 r8 r9 r10 r11;refine LC.out.mono ?_;rintro e w1 ⟨y,rfl,hO,hb⟩;obtain ⟨w2,hw2⟩:∃ X,X=w1.alloc (.cells #[.int .i64 d.R,.int .i64 d.C,.slice y.a d.A.length y.ca,.slice y.b d.B.length y.cb,.int .i64 d.P,.int .i64 d.T,.slice y.v d.V.length y.cv,.int .i64 d.U,.int .i64 d.N,.slice y.w d.W.length y.cw,.slice y.k d.K.length y.ck,.slice y.f d.F.length y.cf] 33):=⟨_,rfl⟩;have SS:Hid (CmS w d x y w1.heap.size w2):=by
  have hba:=ai w1 (.cells #[.int .i64 d.R,.int .i64 d.C,.slice y.a d.A.length y.ca,.slice y.b d.B.length y.cb,.int .i64 d.P,.int .i64 d.T,.slice y.v d.V.length y.cv,.int .i64 d.U,.int .i64 d.N,.slice y.w d.W.length y.cw,.slice y.k d.K.length y.ck,.slice y.f d.F.length y.cf] 33);have KN:=Blk.new w1 [.int .i64 d.R,.int .i64 d.C,.slice y.a d.A.length y.ca,.slice y.b d.B.length y.cb,.int .i64 d.P,.int .i64 d.T,.slice y.v d.V.length y.cv,.int .i64 d.U,.int .i64 d.N,.slice y.w d.W.length y.cw,.slice y.k d.K.length y.ck,.slice y.f d.F.length y.cf] 33;rw [← hw2] at hba KN;have hs1:=hb.size;exact ⟨(HK0.out.same hb).same hba,(HR0.out.same hb).same hba,aa (aa HB0.out hb) hba,KN,(hO.rd HR.out.f).below hba (Nat.le_refl _),by rw [← s0];exact Km hO,by omega,Iv hO⟩
 have hbs:w1.heap.size<w2.heap.size:=SS.out.O.lt;clear hO hb HK0 HR0 HB0 LC s0;obtain ⟨b,hbq⟩:∃ b,b=w1.heap.size:=⟨_,rfl⟩
 go_upto_region 2 with fail
 rw [← hw2];rw [← hbq] at SS hbs ⊢;clear hw2 hbq;go_wp2_with fail;refine (LS.out _ SS.out.B).mono ?_;rintro e w3 ⟨rfl,hk,hb⟩;have S3:=Oi (SS.out.same hb);have LR:=Oi (HCC.out w3 b d y (w.heap.size+2) (some ⟨w2.heap.size,0,none⟩) ws.length S3.out.s S3.out.L (HE.out.to S3.out.B) HOK.out S3.out.c S3.out.O S3.out.D (fD hk));clear hk hb SS LS HCC hbs
 cases hr':f d with
 | none =>
   have hr:=Oi hr';clear hr';have L:Hid (Calls Tryz.prog 67 #[.pointer (some ⟨b,0,none⟩),.slice (some ⟨w2.heap.size,0,none⟩) ws.length ws.length] w3 (fun e w'=>∃ (t:ByteArray) (k:Bool),e=.returned (.tuple #[.string t,.bool k,.bool false])∧Hid (Touch w3 w' b (b+1)))):=LR.out.mono fun e w' h=>by
    rw [hr.out] at h;obtain ⟨h1,t,k,h2⟩:=h;exact ⟨t,k,h2,h1⟩
   clear LR;go_wp2_with fail;refine L.out.mono ?_;rintro e w4 ⟨t,k,rfl,hT⟩;have T4:=Oi (S3.out.touch hT.out);obtain ⟨r0,r1,r2,r3,r4,r5,r6,r7,r8,r9,r10,r11⟩:=af T4.out.K;obtain ⟨j0,j1,j2,j3,j4,j5,j6,j7,j8,j9,j10,j11⟩:=af T4.out.R;have jf0:=T4.out.R.free 0;have jf1:=T4.out.R.free 1;have jf2:=T4.out.R.free 2;have jf3:=T4.out.R.free 3;have jf4:=T4.out.R.free 4;have jf5:=T4.out.R.free 5;have jf6:=T4.out.R.free 6;have jf7:=T4.out.R.free 7;have jf8:=T4.out.R.free 8;have jf9:=T4.out.R.free 9;have jf10:=T4.out.R.free 10;have jf11:=T4.out.R.free 11;clear hT L;go_wp2_with fail;obtain ⟨wz,hwz⟩:∃ X,X=((((((((((((w4.setCell ⟨w.heap.size+1,0,none⟩ (.int .i64 d.R)).setCell ⟨w.heap.size+1,1,none⟩ (.int .i64 d.C)).setCell ⟨w.heap.size+1,2,none⟩ (.slice x.a d.A.length x.ca)).setCell ⟨w.heap.size+1,3,none⟩ (.slice x.b d.B.length x.cb)).setCell ⟨w.heap.size+1,4,none⟩ (.int .i64 d.P)).setCell ⟨w.heap.size+1,5,none⟩ (.int .i64 d.T)).setCell ⟨w.heap.size+1,6,none⟩ (.slice x.v d.V.length x.cv)).setCell ⟨w.heap.size+1,7,none⟩ (.int .i64 d.U)).setCell ⟨w.heap.size+1,8,none⟩ (.int .i64 d.N)).setCell ⟨w.heap.size+1,9,none⟩ (.slice x.w d.W.length x.cw)).setCell ⟨w.heap.size+1,10,none⟩ (.slice x.k d.K.length x.ck)).setCell ⟨w.heap.size+1,11,none⟩ (.slice x.f d.F.length x.cf)):=⟨_,rfl⟩;have hp:gV w4 (w.heap.size+1) (.int .i64 d.R) (.int .i64 d.C) (.slice x.a d.A.length x.ca) (.slice x.b d.B.length x.cb) (.int .i64 d.P) (.int .i64 d.T) (.slice x.v d.V.length x.cv) (.int .i64 d.U) (.int .i64 d.N) (.slice x.w d.W.length x.cw) (.slice x.k d.K.length x.ck) (.slice x.f d.F.length x.cf)=wz:=by rw [hwz];rfl
   obtain ⟨KZ,BZ,DZ⟩:=wG T4.out HR.out hp;rw [← hwz];clear hwz hp r0 r1 r2 r3 r4 r5 r6 r7 r8 r9 r10 r11 j0 j1 j2 j3 j4 j5 j6 j7 j8 j9 j10 j11 jf0 jf1 jf2 jf3 jf4 jf5 jf6 jf7 jf8 jf9 jf10 jf11;have HBZ:=Oi BZ;have HDZ:=Oi DZ;obtain ⟨t0,t1,t2,t3,t4,t5,t6,t7,t8,t9,t10,t11⟩:=af KZ;refine bodyPost_ret (v:=.tuple #[.agg #[.int .i64 d.R,.int .i64 d.C,.slice x.a d.A.length x.ca,.slice x.b d.B.length x.cb,.int .i64 d.P,.int .i64 d.T,.slice x.v d.V.length x.cv,.int .i64 d.U,.int .i64 d.N,.slice x.w d.W.length x.cw,.slice x.k d.K.length x.ck,.slice x.f d.F.length x.cf],.string (bs zu)]) (by simp [results,Tryz.results30,go_sem,t0,t1,t2,t3,t4,t5,t6,t7,t8,t9,t10,t11];try rfl) rfl ?_
   have e:gP f d=(d,zu):=by unfold gP;rw [hr.out]
   rw [e];exact ⟨HBZ.out,x,rfl,HDZ.out,.inl rfl⟩
 | some r =>
 cases r with
 | none =>
   have hr:=Oi hr';clear hr';have L:Hid (Calls Tryz.prog 67 #[.pointer (some ⟨b,0,none⟩),.slice (some ⟨w2.heap.size,0,none⟩) ws.length ws.length] w3 (fun e w'=>∃ (t:ByteArray),e=.returned (.tuple #[.string t,.bool false,.bool true])∧Hid (Touch w3 w' b (b+1)))):=LR.out.mono fun e w' h=>by
    rw [hr.out] at h;obtain ⟨h1,t,h2⟩:=h;exact ⟨t,h2,h1⟩
   clear LR;go_wp2_with fail;refine L.out.mono ?_;rintro e w4 ⟨t,rfl,hT⟩;have T4:=Oi (S3.out.touch hT.out);obtain ⟨r0,r1,r2,r3,r4,r5,r6,r7,r8,r9,r10,r11⟩:=af T4.out.K;obtain ⟨j0,j1,j2,j3,j4,j5,j6,j7,j8,j9,j10,j11⟩:=af T4.out.R;have jf0:=T4.out.R.free 0;have jf1:=T4.out.R.free 1;have jf2:=T4.out.R.free 2;have jf3:=T4.out.R.free 3;have jf4:=T4.out.R.free 4;have jf5:=T4.out.R.free 5;have jf6:=T4.out.R.free 6;have jf7:=T4.out.R.free 7;have jf8:=T4.out.R.free 8;have jf9:=T4.out.R.free 9;have jf10:=T4.out.R.free 10;have jf11:=T4.out.R.free 11;clear hT L;go_wp2_with fail;obtain ⟨wz,hwz⟩:∃ X,X=((((((((((((w4.setCell ⟨w.heap.size+1,0,none⟩ (.int .i64 d.R)).setCell ⟨w.heap.size+1,1,none⟩ (.int .i64 d.C)).setCell ⟨w.heap.size+1,2,none⟩ (.slice x.a d.A.length x.ca)).setCell ⟨w.heap.size+1,3,none⟩ (.slice x.b d.B.length x.cb)).setCell ⟨w.heap.size+1,4,none⟩ (.int .i64 d.P)).setCell ⟨w.heap.size+1,5,none⟩ (.int .i64 d.T)).setCell ⟨w.heap.size+1,6,none⟩ (.slice x.v d.V.length x.cv)).setCell ⟨w.heap.size+1,7,none⟩ (.int .i64 d.U)).setCell ⟨w.heap.size+1,8,none⟩ (.int .i64 d.N)).setCell ⟨w.heap.size+1,9,none⟩ (.slice x.w d.W.length x.cw)).setCell ⟨w.heap.size+1,10,none⟩ (.slice x.k d.K.length x.ck)).setCell ⟨w.heap.size+1,11,none⟩ (.slice x.f d.F.length x.cf)):=⟨_,rfl⟩;have hp:gV w4 (w.heap.size+1) (.int .i64 d.R) (.int .i64 d.C) (.slice x.a d.A.length x.ca) (.slice x.b d.B.length x.cb) (.int .i64 d.P) (.int .i64 d.T) (.slice x.v d.V.length x.cv) (.int .i64 d.U) (.int .i64 d.N) (.slice x.w d.W.length x.cw) (.slice x.k d.K.length x.ck) (.slice x.f d.F.length x.cf)=wz:=by rw [hwz];rfl
   obtain ⟨KZ,BZ,DZ⟩:=wG T4.out HR.out hp;rw [← hwz];clear hwz hp r0 r1 r2 r3 r4 r5 r6 r7 r8 r9 r10 r11 j0 j1 j2 j3 j4 j5 j6 j7 j8 j9 j10 j11 jf0 jf1 jf2 jf3 jf4 jf5 jf6 jf7 jf8 jf9 jf10 jf11;have HBZ:=Oi BZ;have HDZ:=Oi DZ;obtain ⟨t0,t1,t2,t3,t4,t5,t6,t7,t8,t9,t10,t11⟩:=af KZ;refine bodyPost_ret (v:=.tuple #[.agg #[.int .i64 d.R,.int .i64 d.C,.slice x.a d.A.length x.ca,.slice x.b d.B.length x.cb,.int .i64 d.P,.int .i64 d.T,.slice x.v d.V.length x.cv,.int .i64 d.U,.int .i64 d.N,.slice x.w d.W.length x.cw,.slice x.k d.K.length x.ck,.slice x.f d.F.length x.cf],.string (bs xU)]) (by simp [results,Tryz.results30,go_sem,t0,t1,t2,t3,t4,t5,t6,t7,t8,t9,t10,t11];try rfl) rfl ?_
   have e:gP f d=(d,xU):=by unfold gP;rw [hr.out]
   rw [e];exact ⟨HBZ.out,x,rfl,HDZ.out,.inl rfl⟩
 | some p =>
   obtain ⟨d',t'⟩:=p;have hr:=Oi hr';clear hr';obtain ⟨m1,m2,m3,m4,m5,m6⟩:=HF.out d' t' HOK.out hr.out;have L:Hid (Calls Tryz.prog 67 #[.pointer (some ⟨b,0,none⟩),.slice (some ⟨w2.heap.size,0,none⟩) ws.length ws.length] w3 (fun e w'=>e=.returned (.tuple #[.string (bs t'),.bool true,.bool true])∧Hid (Touch w3 w' b (b+1))∧∃ x':DA,Hid (Blk w' b (d'.cells x') 33)∧Hid (DRd w' w'.heap.size d' x')∧Hid (DLo (w.heap.size+2) x'))):=LR.out.mono fun e w' h=>by
    rw [hr.out] at h;obtain ⟨h1,h2,x',h3,h4,h5⟩:=h;exact ⟨h2,h1,x',h3,h4,h5⟩
   clear LR;obtain ⟨tb,htb⟩:∃ tb,tb=bs t':=⟨_,rfl⟩;rw [← htb] at L;go_wp2_with fail;refine L.out.mono ?_;rintro e w4 ⟨rfl,hT,x',hK',hD',hL'⟩;have T4:=Oi (S3.out.touch hT.out);have LV:=Oi (mX w4 d'.R d'.C x'.a x'.ca d'.A x'.b x'.cb d'.B d'.P d'.T x'.v x'.cv d'.V d'.U d'.N x'.w x'.cw d'.W x'.k x'.ck d'.K x'.f x'.cf d'.F hD'.out.r m1 m2 m3 m4 m5 m6);rw [show gQ d'.R d'.C d'.A d'.B d'.P d'.T d'.V d'.U d'.N d'.W d'.K d'.F=d'.ok from rfl] at LV
   obtain ⟨v0,v1,v2,v3,v4,v5,v6,v7,v8,v9,v10,v11⟩:=af hK'.out;clear hT L m1 m2 m3 m4 m5 m6
   cases hk:d'.ok with
   | false =>
     rw [hk] at LV;have HK:=Oi hk;clear hk;go_wp2_with fail;refine LV.out.mono ?_;rintro e w5 ⟨rfl,hb5⟩;have T5:=Oi (T4.out.same hb5);clear v0 v1 v2 v3 v4 v5 v6 v7 v8 v9 v10 v11 hb5 LV;obtain ⟨r0,r1,r2,r3,r4,r5,r6,r7,r8,r9,r10,r11⟩:=af T5.out.K;obtain ⟨j0,j1,j2,j3,j4,j5,j6,j7,j8,j9,j10,j11⟩:=af T5.out.R;have jf0:=T5.out.R.free 0;have jf1:=T5.out.R.free 1;have jf2:=T5.out.R.free 2;have jf3:=T5.out.R.free 3;have jf4:=T5.out.R.free 4;have jf5:=T5.out.R.free 5;have jf6:=T5.out.R.free 6;have jf7:=T5.out.R.free 7;have jf8:=T5.out.R.free 8;have jf9:=T5.out.R.free 9;have jf10:=T5.out.R.free 10;have jf11:=T5.out.R.free 11;go_wp2_with fail;obtain ⟨wz,hwz⟩:∃ X,X=((((((((((((w5.setCell ⟨w.heap.size+1,0,none⟩ (.int .i64 d.R)).setCell ⟨w.heap.size+1,1,none⟩ (.int .i64 d.C)).setCell ⟨w.heap.size+1,2,none⟩ (.slice x.a d.A.length x.ca)).setCell ⟨w.heap.size+1,3,none⟩ (.slice x.b d.B.length x.cb)).setCell ⟨w.heap.size+1,4,none⟩ (.int .i64 d.P)).setCell ⟨w.heap.size+1,5,none⟩ (.int .i64 d.T)).setCell ⟨w.heap.size+1,6,none⟩ (.slice x.v d.V.length x.cv)).setCell ⟨w.heap.size+1,7,none⟩ (.int .i64 d.U)).setCell ⟨w.heap.size+1,8,none⟩ (.int .i64 d.N)).setCell ⟨w.heap.size+1,9,none⟩ (.slice x.w d.W.length x.cw)).setCell ⟨w.heap.size+1,10,none⟩ (.slice x.k d.K.length x.ck)).setCell ⟨w.heap.size+1,11,none⟩ (.slice x.f d.F.length x.cf)):=⟨_,rfl⟩;have hp:gV w5 (w.heap.size+1) (.int .i64 d.R) (.int .i64 d.C) (.slice x.a d.A.length x.ca) (.slice x.b d.B.length x.cb) (.int .i64 d.P) (.int .i64 d.T) (.slice x.v d.V.length x.cv) (.int .i64 d.U) (.int .i64 d.N) (.slice x.w d.W.length x.cw) (.slice x.k d.K.length x.ck) (.slice x.f d.F.length x.cf)=wz:=by rw [hwz];rfl
     obtain ⟨KZ,BZ,DZ⟩:=wG T5.out HR.out hp;rw [← hwz];clear hwz hp r0 r1 r2 r3 r4 r5 r6 r7 r8 r9 r10 r11 j0 j1 j2 j3 j4 j5 j6 j7 j8 j9 j10 j11 jf0 jf1 jf2 jf3 jf4 jf5 jf6 jf7 jf8 jf9 jf10 jf11;have HBZ:=Oi BZ;have HDZ:=Oi DZ;obtain ⟨t0,t1,t2,t3,t4,t5,t6,t7,t8,t9,t10,t11⟩:=af KZ;refine bodyPost_ret (v:=.tuple #[.agg #[.int .i64 d.R,.int .i64 d.C,.slice x.a d.A.length x.ca,.slice x.b d.B.length x.cb,.int .i64 d.P,.int .i64 d.T,.slice x.v d.V.length x.cv,.int .i64 d.U,.int .i64 d.N,.slice x.w d.W.length x.cw,.slice x.k d.K.length x.ck,.slice x.f d.F.length x.cf],.string (bs xU)]) (by simp [results,Tryz.results30,go_sem,t0,t1,t2,t3,t4,t5,t6,t7,t8,t9,t10,t11];try rfl) rfl ?_
     have e:gP f d=(d,xU):=by unfold gP;rw [hr.out];dsimp only;rw [HK.out];rfl
     rw [e];exact ⟨HBZ.out,x,rfl,HDZ.out,.inl rfl⟩
   | true =>
     rw [hk] at LV;have HK:=Oi hk;clear hk;go_wp2_with fail;refine LV.out.mono ?_;rintro e w5 ⟨rfl,hb5⟩;have T5:=Oi (T4.out.same hb5);have K5:=Oi (hK'.out.same hb5);have D5:=Oi (hD'.out.to hb5);clear v0 v1 v2 v3 v4 v5 v6 v7 v8 v9 v10 v11 hb5 LV hK' hD';obtain ⟨v0,v1,v2,v3,v4,v5,v6,v7,v8,v9,v10,v11⟩:=af K5.out;obtain ⟨j0,j1,j2,j3,j4,j5,j6,j7,j8,j9,j10,j11⟩:=af T5.out.R;have jf0:=T5.out.R.free 0;have jf1:=T5.out.R.free 1;have jf2:=T5.out.R.free 2;have jf3:=T5.out.R.free 3;have jf4:=T5.out.R.free 4;have jf5:=T5.out.R.free 5;have jf6:=T5.out.R.free 6;have jf7:=T5.out.R.free 7;have jf8:=T5.out.R.free 8;have jf9:=T5.out.R.free 9;have jf10:=T5.out.R.free 10;have jf11:=T5.out.R.free 11;go_wp2_with fail;obtain ⟨wz,hwz⟩:∃ X,X=((((((((((((w5.setCell ⟨w.heap.size+1,0,none⟩ (.int .i64 d'.R)).setCell ⟨w.heap.size+1,1,none⟩ (.int .i64 d'.C)).setCell ⟨w.heap.size+1,2,none⟩ (.slice x'.a d'.A.length x'.ca)).setCell ⟨w.heap.size+1,3,none⟩ (.slice x'.b d'.B.length x'.cb)).setCell ⟨w.heap.size+1,4,none⟩ (.int .i64 d'.P)).setCell ⟨w.heap.size+1,5,none⟩ (.int .i64 d'.T)).setCell ⟨w.heap.size+1,6,none⟩ (.slice x'.v d'.V.length x'.cv)).setCell ⟨w.heap.size+1,7,none⟩ (.int .i64 d'.U)).setCell ⟨w.heap.size+1,8,none⟩ (.int .i64 d'.N)).setCell ⟨w.heap.size+1,9,none⟩ (.slice x'.w d'.W.length x'.cw)).setCell ⟨w.heap.size+1,10,none⟩ (.slice x'.k d'.K.length x'.ck)).setCell ⟨w.heap.size+1,11,none⟩ (.slice x'.f d'.F.length x'.cf)):=⟨_,rfl⟩;have hp:gV w5 (w.heap.size+1) (.int .i64 d'.R) (.int .i64 d'.C) (.slice x'.a d'.A.length x'.ca) (.slice x'.b d'.B.length x'.cb) (.int .i64 d'.P) (.int .i64 d'.T) (.slice x'.v d'.V.length x'.cv) (.int .i64 d'.U) (.int .i64 d'.N) (.slice x'.w d'.W.length x'.cw) (.slice x'.k d'.K.length x'.ck) (.slice x'.f d'.F.length x'.cf)=wz:=by rw [hwz];rfl
     obtain ⟨KZ,BZ,DZ⟩:=Nn T5.out D5.out hL'.out hp;rw [← hwz];clear hwz hp v0 v1 v2 v3 v4 v5 v6 v7 v8 v9 v10 v11 j0 j1 j2 j3 j4 j5 j6 j7 j8 j9 j10 j11 jf0 jf1 jf2 jf3 jf4 jf5 jf6 jf7 jf8 jf9 jf10 jf11;have HBZ:=Oi BZ;have HDZ:=Oi DZ;obtain ⟨t0,t1,t2,t3,t4,t5,t6,t7,t8,t9,t10,t11⟩:=af KZ;refine bodyPost_ret (v:=.tuple #[.agg #[.int .i64 d'.R,.int .i64 d'.C,.slice x'.a d'.A.length x'.ca,.slice x'.b d'.B.length x'.cb,.int .i64 d'.P,.int .i64 d'.T,.slice x'.v d'.V.length x'.cv,.int .i64 d'.U,.int .i64 d'.N,.slice x'.w d'.W.length x'.cw,.slice x'.k d'.K.length x'.ck,.slice x'.f d'.F.length x'.cf],.string tb]) (by simp [results,Tryz.results30,go_sem,t0,t1,t2,t3,t4,t5,t6,t7,t8,t9,t10,t11];try exact htb.symm) rfl ?_
     have e:gP f d=(d',t'):=by unfold gP;rw [hr.out];dsimp only;rw [HK.out];rfl
     rw [e];exact ⟨HBZ.out,x',by rw [htb];rfl,HDZ.out,.inr (hL'.out.mono (by omega))⟩
abbrev ma:=List UInt8 × (DD→DD × List UInt8)
def nP (s:DD × List UInt8) (p:ma):DD × List UInt8:=((p.2 s.1).1,s.2 ++ ((p.2 s.1).2 ++ [10]))
def dO (ps:List ma) (s:DD × List UInt8):DD × List UInt8:=ps.foldl nP s
theorem vM {ps:List ma} {s:DD × List UInt8} {k:Nat} {p:ma} (h:ps[k]? = some p):dO (ps.take (k+1)) s=nP (dO (ps.take k) s) p:=by
 unfold dO;rw [List.take_add_one,h,List.foldl_append]
 rfl
theorem KU {ps:List ma} {s:DD × List UInt8} {m:Nat} (hF:∀ p∈ps,∀ d:DD,d.ok=true→(p.2 d).1.ok=true∧(p.2 d).2.length≤m) (h:s.1.ok=true):(dO ps s).1.ok=true∧(dO ps s).2.length≤s.2.length+ps.length * (m+1):=by
 induction ps generalizing s with
 | nil=>exact ⟨h,by simp [dO]⟩
 | cons p ps ih =>
   obtain ⟨h1,h2⟩:=hF p (List.mem_cons_self ..) s.1 h;have:=ih (s:=nP s p) (fun l' hl=>hF l' (List.mem_cons_of_mem _ hl)) h1
   refine ⟨this.1,Nat.le_trans this.2 ?_⟩
   simp only [nP,List.length_append,List.length_cons,List.length_nil,Nat.add_mul,Nat.one_mul];omega
theorem jZ {ps:List ma} {s:DD × List UInt8} {m:Nat} (hF:∀ p∈ps,∀ d:DD,d.ok=true→(p.2 d).1.ok=true∧(p.2 d).2.length≤m) (h:s.1.ok=true) (k:Nat):(dO (ps.take k) s).1.ok=true∧(dO (ps.take k) s).2.length≤s.2.length+ps.length * (m+1):=by
 have:=KU (m:=m) (ps:=ps.take k) (fun l hl=>hF l (List.mem_of_mem_take hl)) h
 refine ⟨this.1,Nat.le_trans this.2 ?_⟩
 have hk:(ps.take k).length≤ps.length:=by rw [List.length_take];omega
 have:=Nat.mul_le_mul_right (m+1) hk;omega
structure DNo (bad:Nat→Prop) (x:DA):Prop where
 a:∀ y,x.a=some y→¬ bad y.block
 b:∀ y,x.b=some y→¬ bad y.block
 v:∀ y,x.v=some y→¬ bad y.block
 w:∀ y,x.w=some y→¬ bad y.block
 k:∀ y,x.k=some y→¬ bad y.block
 f:∀ y,x.f=some y→¬ bad y.block
theorem DNo.of_lo {bad:Nat→Prop} {x:DA} {lo:Nat} (h:DLo lo x) (hb:∀ k,bad k→k<lo):DNo bad x :=
 ⟨fun y e n=>by have:=hb _ n;have:=h.a y e;omega,fun y e n=>by have:=hb _ n;have:=h.b y e;omega,fun y e n=>by have:=hb _ n;have:=h.v y e;omega,fun y e n=>by have:=hb _ n;have:=h.w y e;omega,fun y e n=>by have:=hb _ n;have:=h.k y e;omega,fun y e n=>by have:=hb _ n;have:=h.f y e;omega⟩
theorem sV {w:World} {Z:Nat} {a:Option Addr} {vs:List Value} (h:Rd w Z a vs) (hn:vs≠[]):∀ y,a=some y→y.block<Z:=by
 rcases h with h | ⟨g,o,e,hg,_⟩
 · exact absurd h hn
 · intro y hy;rw [e] at hy;injection hy with hy;subst hy;exact hg
theorem pp {w w':World} {bad:Nat→Prop} {a:Option Addr} {vs:List Value} (h:Rd w w.heap.size a vs) (hn:∀ y,a=some y→¬ bad y.block) (hs:w.heap.size≤w'.heap.size) (hk:∀ k,k<w.heap.size→¬ bad k→w'.heap[k]? = w.heap[k]?):Rd w' w'.heap.size a vs:=by
 rcases h with h | ⟨g,o,e,hg,hc⟩
 · exact .inl h
 · exact .inr ⟨g,o,e,Nat.lt_of_lt_of_le hg hs,fun j hj=>by rw [World.cell?_of_block (w:=w) (hk g hg (hn _ e))];exact hc j hj⟩
theorem DRd.no {w w':World} {bad:Nat→Prop} {d:DD} {x:DA} (h:DRd w w.heap.size d x) (hn:DNo bad x) (hs:w.heap.size≤w'.heap.size) (hk:∀ k,k<w.heap.size→¬ bad k→w'.heap[k]? = w.heap[k]?):DRd w' w'.heap.size d x :=
 ⟨⟨pp h.r.A hn.a hs hk,pp h.r.B hn.b hs hk,pp h.r.V hn.v hs hk,pp h.r.W hn.w hs hk,pp h.r.C hn.k hs hk,pp h.r.T hn.f hs hk⟩,h.f⟩
theorem DNo.or {p q r:Nat→Prop} {x:DA} (h:DNo p x) (h2:DNo q x) (hr:∀ k,r k→p k∨q k):DNo r x :=
 ⟨fun y e n=>(hr _ n).elim (h.a y e) (h2.a y e),fun y e n=>(hr _ n).elim (h.b y e) (h2.b y e),fun y e n=>(hr _ n).elim (h.v y e) (h2.v y e),fun y e n=>(hr _ n).elim (h.w y e) (h2.w y e),fun y e n=>(hr _ n).elim (h.k y e) (h2.k y e),fun y e n=>(hr _ n).elim (h.f y e) (h2.f y e)⟩
theorem pX {xs:List Int} (h:1≤xs.length):ae xs≠[]:=fun e=>by have:=congrArg List.length e;rw [ints_length] at this;simp at this;subst this;simp at h
theorem Mr {xs:List Nat} (h:1≤xs.length):dx xs≠[]:=fun e=>by have:=congrArg List.length e;simp [dx] at this;subst this;simp at h
theorem DRd.lt {w:World} {Z:Nat} {d:DD} {x:DA} (h:DRd w Z d x) (hok:d.ok=true) {bad:Nat→Prop} (hb:∀ k,bad k→Z≤k):DNo bad x:=by
 obtain ⟨⟨a1,_⟩,⟨b1,_⟩,⟨v1,_⟩,⟨l1,_⟩,⟨k1,_⟩,f1,_⟩:=DD.ok_len hok;exact ⟨fun y e n=>by have:=hb _ n;have:=sV h.r.A (pX a1) y e;omega,fun y e n=>by have:=hb _ n;have:=sV h.r.B (pX b1) y e;omega,fun y e n=>by have:=hb _ n;have:=sV h.r.V (pX v1) y e;omega,fun y e n=>by have:=hb _ n;have:=sV h.r.W (pX l1) y e;omega,fun y e n=>by have:=hb _ n;have:=sV h.r.C (pX k1) y e;omega,fun y e n=>by have:=hb _ n;have:=sV h.r.T (Mr f1) y e;omega⟩
theorem tE {w:World} {g T:Nat} {d:DD} {x:DA} (h:Blk w g (d.cells x) T) (o:Nat) (t:ByteArray):w.cell? ⟨g,o,none⟩≠some (.string t):=by
 rw [h.cell];intro e;have:=List.mem_of_getElem? e;simp [DD.cells] at this
theorem wv {w:World} {g T:Nat} (h:Blk w g [.int .i64 0,.int .i64 0,.slice none 0 0,.slice none 0 0,.int .i64 0,.int .i64 0,.slice none 0 0,.int .i64 0,.int .i64 0,.slice none 0 0,.slice none 0 0,.slice none 0 0] T) (o:Nat) (t:ByteArray):w.cell? ⟨g,o,none⟩≠some (.string t):=by
 rw [h.cell];intro e;have:=List.mem_of_getElem? e;simp at this
theorem ta {w:World} {Z g:Nat} {a:Option Addr} {ls:List (List UInt8)} (h:Rd w Z a (bF ls)) (hl:ls≠[]) (hg:∀ o t,w.cell? ⟨g,o,none⟩≠some (.string t)):∀ y,a=some y→y.block≠g:=by
 rcases h with h | ⟨b,o,e,hb,hc⟩
 · cases ls with
   | nil=>exact absurd rfl hl
   | cons l ls=>simp [bF] at h
 · intro y hy e2
   rw [e] at hy;injection hy with hy
   subst hy
   cases ls with
   | nil=>exact hl rfl
   | cons l ls =>
     have:=hc 0 (by simp)
     simp only [bF,List.map_cons,List.getElem?_cons_zero,Nat.add_zero] at this;exact hg o _ (by rw [← e2];exact this)
theorem kt {d:DD} (h:d.ok=true):d.small:=by
 obtain ⟨⟨_,a⟩,⟨_,b⟩,⟨_,v⟩,⟨_,l⟩,⟨_,k⟩,_,f⟩:=DD.ok_len h;exact ⟨by omega,by omega,by omega,by omega,by omega,by omega⟩
def Gz (p:ma):Prop:=Et p.1 p.2∧∀ d:DD,d.ok=true→(p.2 d).1.ok=true∧(p.2 d).2.length≤1048576
theorem Mj {f:DD→il} {d:DD} (h:∀ d' t,f d=some (some (d',t))→t.length≤1048576):(gP f d).2.length≤1048576:=by
 unfold gP
 split
 · show 4≤_;decide
 · show 2≤_;decide
 · rename_i d' t e
   split
   · exact h _ _ e
   · show 2≤_;decide
theorem Hw {l:List UInt8} {f:DD→il} (hl:l.length≤1048576) (HC:kG (cH 32 l) f) (HS:∀ d d' t,d.ok=true→f d=some (some (d',t))→d'.small∧t.length≤1048576):Gz (l,gP f) :=
 ⟨CA hl HC (fun d d' t h e=>(HS d d' t h e).1),fun d h=>⟨zY h,Mj (fun d' t e=>(HS d d' t h e).2)⟩⟩
theorem A5 {r:Option (List UInt8)} {d d':DD} {t:List UInt8} (h:(some (r.map fun t=>(d,t)):il)=some (some (d',t))):d'=d∧r=some t:=by
 injection h with h
 cases r with
 | none=>cases h
 | some s=>injection h with h;injection h with h1 h2;exact ⟨h1.symm,by rw [h2]⟩
theorem Ap (R C:Nat) (xs:List Int) (m:Nat):(aG R C xs m).length=m:=by simp [aG]
end Go.Proofs.YtbknhgapjjaelaaGreatDoor
