/-
  Part 24 of what the proof stands on: lemmas and contracts, each with its conditions ahead of the colon.
-/
import Derived.Test.YtbknhgapjjaelaaGreatDoorPj01
import Derived.Deep.RegionHeld3
import Derived.Deep.DeepCutAuto
import Derived.Outline
import Derived.Test.YtbknhgapjjaelaaGreatDoorPj07
import Derived.Test.YtbknhgapjjaelaaGreatDoorPj08
import Derived.Test.YtbknhgapjjaelaaGreatDoorPj09
import Derived.Test.YtbknhgapjjaelaaGreatDoorPj11
import Derived.Test.YtbknhgapjjaelaaGreatDoorPj12
set_option maxRecDepth 10000
set_option maxHeartbeats 16000000
namespace Go.Proofs.YtbknhgapjjaelaaGreatDoor
set_option linter.unusedVariables false
set_option linter.unusedSimpArgs false
open Go.RowKit
def gV (w:World) (g:Nat) (v0 v1 v2 v3 v4 v5 v6 v7 v8 v9 v10 v11:Value):World:=((((((((((((w.setCell ⟨g,0,none⟩ v0).setCell ⟨g,1,none⟩ v1).setCell ⟨g,2,none⟩ v2).setCell ⟨g,3,none⟩ v3).setCell ⟨g,4,none⟩ v4).setCell ⟨g,5,none⟩ v5).setCell ⟨g,6,none⟩ v6).setCell ⟨g,7,none⟩ v7).setCell ⟨g,8,none⟩ v8).setCell ⟨g,9,none⟩ v9).setCell ⟨g,10,none⟩ v10).setCell ⟨g,11,none⟩ v11)
theorem fY (w:World) (g:Nat) (v0 v1 v2 v3 v4 v5 v6 v7 v8 v9 v10 v11:Value):Touch w (gV w g v0 v1 v2 v3 v4 v5 v6 v7 v8 v9 v10 v11) g (g+1):=(((((((((((au w g 0 v0).trans (au _ g 1 v1)).trans (au _ g 2 v2)).trans (au _ g 3 v3)).trans (au _ g 4 v4)).trans (au _ g 5 v5)).trans (au _ g 6 v6)).trans (au _ g 7 v7)).trans (au _ g 8 v8)).trans (au _ g 9 v9)).trans (au _ g 10 v10)).trans (au _ g 11 v11)
theorem qR (w:World) (g:Nat) (v0 v1 v2 v3 v4 v5 v6 v7 v8 v9 v10 v11:Value):(gV w g v0 v1 v2 v3 v4 v5 v6 v7 v8 v9 v10 v11).heap.size=w.heap.size:=by simp [gV]
theorem jm {w:World} {g:Nat} {t:TypeId} {u0 u1 u2 u3 u4 u5 u6 u7 u8 u9 u10 u11:Value} (k:Blk w g [u0,u1,u2,u3,u4,u5,u6,u7,u8,u9,u10,u11] t) (v0 v1 v2 v3 v4 v5 v6 v7 v8 v9 v10 v11:Value):Blk (gV w g v0 v1 v2 v3 v4 v5 v6 v7 v8 v9 v10 v11) g [v0,v1,v2,v3,v4,v5,v6,v7,v8,v9,v10,v11] t:=by
 have m:=((((((((((((k.set 0 v0).set 1 v1).set 2 v2).set 3 v3).set 4 v4).set 5 v5).set 6 v6).set 7 v7).set 8 v8).set 9 v9).set 10 v10).set 11 v11);simp only [List.set_cons_zero,List.set_cons_succ] at m;exact m
def OwnTwo (T:Nat) (w:World) (lo hi:Nat) (a:Option Addr) (ca:Nat) (xa:List Int) (b:Option Addr) (cb:Nat) (xb:List Int):Prop :=
 ∃ m,(lo≤m∧m≤hi)∧((OwnI T w lo m a ca xa∧OwnI T w m hi b cb xb)∨(OwnI T w lo m b cb xb∧OwnI T w m hi a ca xa))
section
variable {T lo hi:Nat} {w w':World} {a b:Option Addr} {ca cb:Nat} {xa xb:List Int}
theorem OwnTwo.keep (h:OwnTwo T w lo hi a ca xa b cb xb) (hb:Below w.heap.size w w'):OwnTwo T w' lo hi a ca xa b cb xb:=by
 obtain ⟨m,hm,h | h⟩:=h
 · exact ⟨m,hm,.inl ⟨h.1.keep hb,h.2.keep hb⟩⟩
 · exact ⟨m,hm,.inr ⟨h.1.keep hb,h.2.keep hb⟩⟩
theorem OwnTwo.touch {lo' hi':Nat} (h:OwnTwo T w lo hi a ca xa b cb xb) (ht:Touch w w' lo' hi') (hd:hi'≤lo):OwnTwo T w' lo hi a ca xa b cb xb:=by
 obtain ⟨m,hm,h | h⟩:=h
 · exact ⟨m,hm,.inl ⟨h.1.touch ht (.inr (by omega)),h.2.touch ht (.inr (by omega))⟩⟩
 · exact ⟨m,hm,.inr ⟨h.1.touch ht (.inr (by omega)),h.2.touch ht (.inr (by omega))⟩⟩
theorem OwnTwo.mono {lo' hi':Nat} (h:OwnTwo T w lo hi a ca xa b cb xb) (h1:lo'≤lo) (h2:hi≤hi'):OwnTwo T w lo' hi' a ca xa b cb xb:=by
 obtain ⟨m,hm,h | h⟩:=h
 · exact ⟨m,⟨by omega,by omega⟩,.inl ⟨h.1.mono h1 (Nat.le_refl _),h.2.mono (Nat.le_refl _) h2⟩⟩
 · exact ⟨m,⟨by omega,by omega⟩,.inr ⟨h.1.mono h1 (Nat.le_refl _),h.2.mono (Nat.le_refl _) h2⟩⟩
theorem OwnTwo.rd (h:OwnTwo T w lo hi a ca xa b cb xb):Rd w hi a (ae xa)∧Rd w hi b (ae xb):=by
 obtain ⟨m,hm,h | h⟩:=h
 · exact ⟨h.1.rd.mono hm.2,h.2.rd⟩
 · exact ⟨h.2.rd,h.1.rd.mono hm.2⟩
end
def OwnDd (w:World) (lo hi:Nat) (d:DD) (x:DA):Prop :=
 ∃ m1 m2 m3:Nat,(lo≤m1∧m1≤m2∧m2≤m3∧m3≤hi)∧OwnTwo 2 w lo m1 x.a x.ca d.A x.b x.cb d.B∧OwnI 2 w m1 m2 x.v x.cv d.V∧OwnTwo 2 w m2 m3 x.w x.cw d.W x.k x.ck d.K∧OwnF 79 w m3 hi x.f x.cf d.F
theorem OwnDd.touch {w w':World} {lo hi lo' hi':Nat} {d:DD} {x:DA} (h:OwnDd w lo hi d x) (ht:Touch w w' lo' hi') (hd:hi'≤lo):OwnDd w' lo hi d x:=by
 obtain ⟨m1,m2,m3,hm,h1,h2,h3,h4⟩:=h;exact ⟨m1,m2,m3,hm,h1.touch ht (by omega),h2.touch ht (.inr (by omega)),h3.touch ht (by omega),h4.touch ht (.inr (by omega))⟩
theorem OwnDd.rd {w:World} {lo hi:Nat} {d:DD} {x:DA} (h:OwnDd w lo hi d x) (hf:∀ y∈d.F,y<4294967296):DRd w hi d x:=by
 obtain ⟨m1,m2,m3,hm,h1,h2,h3,h4⟩:=h;exact ⟨⟨h1.rd.1.mono (by omega),h1.rd.2.mono (by omega),h2.rd.mono (by omega),h3.rd.1.mono (by omega),h3.rd.2.mono (by omega),h4.rd⟩,hf⟩
theorem OwnDd.mono {w:World} {lo hi lo' hi':Nat} {d:DD} {x:DA} (h:OwnDd w lo hi d x) (h1:lo'≤lo) (h2:hi≤hi'):OwnDd w lo' hi' d x:=by
 obtain ⟨m1,m2,m3,hm,o1,o2,o3,o4⟩:=h;exact ⟨m1,m2,m3,by omega,o1.mono h1 (Nat.le_refl _),o2,o3,o4.mono (Nat.le_refl _) h2⟩
structure CpS (w wx:World) (d:DD) (y:DA):Prop where
 K:Blk wx w.heap.size (d.cells y) 33
 R:Blk wx (w.heap.size+1) [.int .i64 0,.int .i64 0,.slice none 0 0,.slice none 0 0,.int .i64 0,.int .i64 0,.slice none 0 0,.int .i64 0,.int .i64 0,.slice none 0 0,.slice none 0 0,.slice none 0 0] 33
 B:Below w.heap.size w wx
 s:w.heap.size+2≤wx.heap.size
theorem CpS.same {w wx wy:World} {d:DD} {y:DA} (h:CpS w wx d y) (hb:Below wx.heap.size wx wy):CpS w wy d y:=⟨h.K.same hb,h.R.same hb,aa h.B hb,Nat.le_trans h.s hb.size⟩
theorem pz (w:World) (g i j:Nat) (u v:Value):Touch w ((w.setCell ⟨g,i,none⟩ u).setCell ⟨g,j,none⟩ v) g (g+1):=(au w g i u).trans (au _ g j v)
theorem CpS.setAB {w wx:World} {d:DD} {y:DA} (h:CpS w wx d y) (a:Option Addr) (ca:Nat) (b:Option Addr) (cb:Nat):CpS w ((wx.setCell ⟨w.heap.size,2,none⟩ (.slice a d.A.length ca)).setCell ⟨w.heap.size,3,none⟩ (.slice b d.B.length cb)) d { y with a:=a,ca:=ca,b:=b,cb:=cb }:=by
 have m:=(h.K.set 2 (.slice a d.A.length ca)).set 3 (.slice b d.B.length cb);have t:=pz wx w.heap.size 2 3 (.slice a d.A.length ca) (.slice b d.B.length cb);exact ⟨m,h.R.touch t (.inr (by omega)),aI h.B t (Nat.le_refl _) (by have:=h.s;omega),Nat.le_trans h.s t.size⟩
theorem CpS.setWK {w wx:World} {d:DD} {y:DA} (h:CpS w wx d y) (a:Option Addr) (ca:Nat) (b:Option Addr) (cb:Nat):CpS w ((wx.setCell ⟨w.heap.size,9,none⟩ (.slice a d.W.length ca)).setCell ⟨w.heap.size,10,none⟩ (.slice b d.K.length cb)) d { y with w:=a,cw:=ca,k:=b,ck:=cb }:=by
 have m:=(h.K.set 9 (.slice a d.W.length ca)).set 10 (.slice b d.K.length cb);have t:=pz wx w.heap.size 9 10 (.slice a d.W.length ca) (.slice b d.K.length cb);exact ⟨m,h.R.touch t (.inr (by omega)),aI h.B t (Nat.le_refl _) (by have:=h.s;omega),Nat.le_trans h.s t.size⟩
theorem CpS.setV {w wx:World} {d:DD} {y:DA} (h:CpS w wx d y) (a:Option Addr) (ca:Nat):CpS w (wx.setCell ⟨w.heap.size,6,none⟩ (.slice a d.V.length ca)) d { y with v:=a,cv:=ca }:=by
 have m:=h.K.set 6 (.slice a d.V.length ca);have t:=au wx w.heap.size 6 (.slice a d.V.length ca);exact ⟨m,h.R.touch t (.inr (by omega)),aI h.B t (Nat.le_refl _) (by have:=h.s;omega),Nat.le_trans h.s t.size⟩
theorem CpS.setF {w wx:World} {d:DD} {y:DA} (h:CpS w wx d y) (a:Option Addr) (ca:Nat):CpS w (wx.setCell ⟨w.heap.size,11,none⟩ (.slice a d.F.length ca)) d { y with f:=a,cf:=ca }:=by
 have m:=h.K.set 11 (.slice a d.F.length ca);have t:=au wx w.heap.size 11 (.slice a d.F.length ca);exact ⟨m,h.R.touch t (.inr (by omega)),aI h.B t (Nat.le_refl _) (by have:=h.s;omega),Nat.le_trans h.s t.size⟩
theorem oh (w:World) (d:DD) (x:DA) (hk:d.ok=true) (h:DRd w w.heap.size d x) :
 Calls Tryz.prog 31 #[d.val x] w fun e w'=>∃ y:DA,e=.returned (d.val y)∧OwnDd w' w.heap.size w'.heap.size d y∧Below w.heap.size w w':=by
 obtain ⟨⟨a1,a2⟩,⟨b1,b2⟩,⟨v1,v2⟩,⟨l1,l2⟩,⟨k1,k2⟩,f1,f2⟩:=DD.ok_len hk;have LA:=Oi (fun v (hb:Below w.heap.size w v)=>eo v x.a x.ca d.A (h.to hb).r.A a1 (by omega))
 have LB:=Oi (fun v (hb:Below w.heap.size w v)=>eo v x.b x.cb d.B (h.to hb).r.B b1 (by omega))
 have LV:=Oi (fun v (hb:Below w.heap.size w v)=>eo v x.v x.cv d.V (h.to hb).r.V v1 (by omega))
 have LW:=Oi (fun v (hb:Below w.heap.size w v)=>eo v x.w x.cw d.W (h.to hb).r.W l1 (by omega))
 have LK:=Oi (fun v (hb:Below w.heap.size w v)=>eo v x.k x.ck d.K (h.to hb).r.C k1 (by omega))
 have LF:=Oi (fun v (hb:Below w.heap.size w v)=>EK v x.f x.cf d.F (h.to hb).r.T f1 (by omega))
 unfold DD.val;obtain ⟨w1,hw1⟩:∃ X,X=(w.alloc (.cells #[.int .i64 d.R,.int .i64 d.C,.slice x.a d.A.length x.ca,.slice x.b d.B.length x.cb,.int .i64 d.P,.int .i64 d.T,.slice x.v d.V.length x.cv,.int .i64 d.U,.int .i64 d.N,.slice x.w d.W.length x.cw,.slice x.k d.K.length x.ck,.slice x.f d.F.length x.cf] 33)).alloc (.cells #[.int .i64 0,.int .i64 0,.slice none 0 0,.slice none 0 0,.int .i64 0,.int .i64 0,.slice none 0 0,.int .i64 0,.int .i64 0,.slice none 0 0,.slice none 0 0,.slice none 0 0] 33):=⟨_,rfl⟩;have S1:Hid (CpS w w1 d x):=by
  refine ⟨?_,?_,?_,by rw [hw1];simp⟩
  · rw [hw1];exact (Blk.new w _ _).alloc _
  · rw [hw1]
    have:=Blk.new (w.alloc (.cells #[.int .i64 d.R,.int .i64 d.C,.slice x.a d.A.length x.ca,.slice x.b d.B.length x.cb,.int .i64 d.P,.int .i64 d.T,.slice x.v d.V.length x.cv,.int .i64 d.U,.int .i64 d.N,.slice x.w d.W.length x.cw,.slice x.k d.K.length x.ck,.slice x.f d.F.length x.cf] 33)) [.int .i64 0,.int .i64 0,.slice none 0 0,.slice none 0 0,.int .i64 0,.int .i64 0,.slice none 0 0,.int .i64 0,.int .i64 0,.slice none 0 0,.slice none 0 0,.slice none 0 0] 33;rwa [World.size_alloc] at this
  · rw [hw1];exact cd _ _ _
 clear h hk a1 a2 b1 b2 v1 v2 l1 l2 k1 k2 f1 f2
 go_enter Tryz.func31,Tryz.ntmps31;go_wp2_with fail;rw [← hw1];clear hw1;obtain ⟨z0,z1,z2,z3,z4,z5,z6,z7,z8,z9,z10,z11⟩:=af S1.out.K;have g2:w1.frozen? ⟨w.heap.size,2,none⟩=false:=S1.out.K.free 2;have g3:w1.frozen? ⟨w.heap.size,3,none⟩=false:=S1.out.K.free 3;have D1:Hid (Below w.heap.size w w1.drew):=aq S1.out.B;have Sd:Hid (CpS w w1.drew d x):=⟨S1.out.K,S1.out.R,D1.out,S1.out.s⟩;have DT:Hid (Touch w1 w1.drew w.heap.size (w.heap.size+1)):=⟨rfl,rfl,rfl,Nat.le_refl _,fun _ _ _=>rfl⟩
 clear z0 z1 z4 z5 z6 z7 z8 z9 z10 z11
 go_upto_region 2 with fail
 go_cut [6] (fun _ wx=>∃ (aA:Option Addr) (cA:Nat) (aB:Option Addr) (cB:Nat),Hid (CpS w wx d { x with a:=aA,ca:=cA,b:=aB,cb:=cB })∧Hid (OwnTwo 2 wx w1.heap.size wx.heap.size aA cA d.A aB cB d.B)∧Hid (Touch w1 wx w.heap.size (w.heap.size+1)))
 case first =>
  go_region_with (first
   | (go_at_call 69;(with_reducible refine (LA.out _ D1.out).mono ?_);rintro e wA ⟨aA,cA,rfl,oA,hA⟩;have SA:=Sd.out.same hA;have DA':=aa D1.out hA;have oA1:=oA.mono (lo':=w1.heap.size) (hi':=wA.heap.size) (Nat.le_refl _) (Nat.le_refl _);obtain ⟨y0,y1,y2,y3,y4,y5,y6,y7,y8,y9,y10,y11⟩:=af SA.K;have gA2:=SA.K.free 2;have gA3:=SA.K.free 3)
   | (go_at_call 69;(with_reducible refine (LB.out _ DA').mono ?_);rintro e wB ⟨aB,cB,rfl,oB,hB⟩;have SB:=SA.same hB;have HT:Hid (OwnTwo 2 wB w1.heap.size wB.heap.size aA cA d.A aB cB d.B):=⟨wA.heap.size,⟨hA.size,hB.size⟩,.inl ⟨oA1.keep hB,oB⟩⟩;have TT:Hid (Touch w1 wB w.heap.size (w.heap.size+1)):=(DT.out.trans (Below.touch hA w.heap.size (w.heap.size+1))).trans (Below.touch hB w.heap.size (w.heap.size+1));obtain ⟨u0,u1,u2,u3,u4,u5,u6,u7,u8,u9,u10,u11⟩:=af SB.K;have gB2:=SB.K.free 2;have gB3:=SB.K.free 3))
  all_goals
   go_wp2_with fail
   go_meet
   obtain ⟨wz,hwz⟩:∃ X,X=(wB.setCell ⟨w.heap.size,2,none⟩ (.slice aA d.A.length cA)).setCell ⟨w.heap.size,3,none⟩ (.slice aB d.B.length cB):=⟨_,rfl⟩;have hs:wz.heap.size=wB.heap.size:=by rw [hwz];simp
   have SZ:Hid (CpS w wz d { x with a:=aA,ca:=cA,b:=aB,cb:=cB }):=by rw [hwz];exact SB.setAB aA cA aB cB
   have TZ:Touch wB wz w.heap.size (w.heap.size+1):=by rw [hwz];exact pz _ _ _ _ _ _
   have OZ:Hid (OwnTwo 2 wz w1.heap.size wz.heap.size aA cA d.A aB cB d.B):=by
    rw [hs];exact HT.out.touch TZ (by have:=S1.out.s;omega)
   have TT2:Hid (Touch w1 wz w.heap.size (w.heap.size+1)):=TT.out.trans TZ;rw [← hwz];exact ⟨aA,cA,aB,cB,SZ,OZ,TT2⟩
 case rest =>
  obtain ⟨a1,c1,b1,d1,S2,O2,T2⟩:=hcut;have hs1:=S1.out.s;have s12:=T2.out.size;clear LA LB S1 T2;obtain ⟨w2,hw2⟩:∃ X:World,X=wc:=⟨_,rfl⟩;subst hw2;obtain ⟨-,-,-,-,-,-,q6,-,-,-,-,-⟩:=af S2.out.K;dsimp only at q6;go_wp2_with fail;refine (LV.out _ S2.out.B).mono ?_;rintro e w3 ⟨aV,cV,rfl,oV,hb3⟩;have S3:=Oi (S2.out.same hb3);have OV:=Oi oV;have O3:=Oi (O2.out.keep hb3);have s23:=hb3.size;obtain ⟨-,-,-,-,-,-,p6,-,-,-,-,-⟩:=af S3.out.K;have g6:=S3.out.K.free 6;clear q6 S2 O2 oV hb3 LV;go_wp2_with fail;obtain ⟨w4,hw4⟩:∃ X,X=w3.setCell ⟨w.heap.size,6,none⟩ (.slice aV d.V.length cV):=⟨_,rfl⟩;have hs4:w4.heap.size=w3.heap.size:=by rw [hw4];simp
  have S4:Hid (CpS w w4 d { x with a:=a1,ca:=c1,b:=b1,cb:=d1,v:=aV,cv:=cV }):=by rw [hw4];exact S3.out.setV aV cV
  have T4:Touch w3 w4 w.heap.size (w.heap.size+1):=by rw [hw4];exact au _ _ _ _
  have O4:=Oi (O3.out.touch T4 (by omega))
  have V4:=Oi (OV.out.touch T4 (.inr (by have:=S3.out.s;omega)))
  rw [← hw4];clear hw4 T4 S3 O3 OV p6 g6;obtain ⟨z0,z1,z2,z3,z4,z5,z6,z7,z8,z9,z10,z11⟩:=af S4.out.K;dsimp only at z9 z10;have g9:w4.frozen? ⟨w.heap.size,9,none⟩=false:=S4.out.K.free 9;have g10:w4.frozen? ⟨w.heap.size,10,none⟩=false:=S4.out.K.free 10;have D1:Hid (Below w.heap.size w w4.drew):=aq S4.out.B;have Sd:Hid (CpS w w4.drew d { x with a:=a1,ca:=c1,b:=b1,cb:=d1,v:=aV,cv:=cV }):=⟨S4.out.K,S4.out.R,D1.out,S4.out.s⟩
  have DT:Hid (Touch w4 w4.drew w.heap.size (w.heap.size+1)):=⟨rfl,rfl,rfl,Nat.le_refl _,fun _ _ _=>rfl⟩
  clear z0 z1 z2 z3 z4 z5 z6 z7 z8 z11
  go_upto_region 4 with fail
  go_cut [6] (fun _ wx=>∃ (aA:Option Addr) (cA:Nat) (aB:Option Addr) (cB:Nat),Hid (CpS w wx d { x with a:=a1,ca:=c1,b:=b1,cb:=d1,v:=aV,cv:=cV,w:=aA,cw:=cA,k:=aB,ck:=cB })∧Hid (OwnTwo 2 wx w4.heap.size wx.heap.size aA cA d.W aB cB d.K)∧Hid (Touch w4 wx w.heap.size (w.heap.size+1)))
  case first =>
   go_region_with (first
    | (go_at_call 69;(with_reducible refine (LW.out _ D1.out).mono ?_);rintro e wA ⟨aA,cA,rfl,oA,hA⟩;have SA:=Sd.out.same hA;have DA':=aa D1.out hA;have oA1:=oA.mono (lo':=w4.heap.size) (hi':=wA.heap.size) (Nat.le_refl _) (Nat.le_refl _);obtain ⟨y0,y1,y2,y3,y4,y5,y6,y7,y8,y9,y10,y11⟩:=af SA.K;have gA2:=SA.K.free 9;have gA3:=SA.K.free 10)
    | (go_at_call 69;(with_reducible refine (LK.out _ DA').mono ?_);rintro e wB ⟨aB,cB,rfl,oB,hB⟩;have SB:=SA.same hB;have HT:Hid (OwnTwo 2 wB w4.heap.size wB.heap.size aA cA d.W aB cB d.K):=⟨wA.heap.size,⟨hA.size,hB.size⟩,.inl ⟨oA1.keep hB,oB⟩⟩;have TT:Hid (Touch w4 wB w.heap.size (w.heap.size+1)):=(DT.out.trans (Below.touch hA w.heap.size (w.heap.size+1))).trans (Below.touch hB w.heap.size (w.heap.size+1));obtain ⟨u0,u1,u2,u3,u4,u5,u6,u7,u8,u9,u10,u11⟩:=af SB.K;have gB2:=SB.K.free 9;have gB3:=SB.K.free 10))
   all_goals
    go_wp2_with fail
    go_meet
    obtain ⟨wz,hwz⟩:∃ X,X=(wB.setCell ⟨w.heap.size,9,none⟩ (.slice aA d.W.length cA)).setCell ⟨w.heap.size,10,none⟩ (.slice aB d.K.length cB):=⟨_,rfl⟩;have hs:wz.heap.size=wB.heap.size:=by rw [hwz];simp
    have SZ:Hid (CpS w wz d { x with a:=a1,ca:=c1,b:=b1,cb:=d1,v:=aV,cv:=cV,w:=aA,cw:=cA,k:=aB,ck:=cB }):=by rw [hwz];exact SB.setWK aA cA aB cB
    have TZ:Touch wB wz w.heap.size (w.heap.size+1):=by rw [hwz];exact pz _ _ _ _ _ _
    have OZ:Hid (OwnTwo 2 wz w4.heap.size wz.heap.size aA cA d.W aB cB d.K):=by
     rw [hs];exact HT.out.touch TZ (by have:=S4.out.s;omega)
    have TT2:Hid (Touch w4 wz w.heap.size (w.heap.size+1)):=TT.out.trans TZ;rw [← hwz];exact ⟨aA,cA,aB,cB,SZ,OZ,TT2⟩
  case rest =>
   obtain ⟨a2,c2,b2,d2,S5,W5,T5⟩:=hcut;obtain ⟨w5a,hw5⟩:∃ X:World,X=wc:=⟨_,rfl⟩;subst hw5;have O5:=Oi (O4.out.touch T5.out (by omega))
   have V5:=Oi (V4.out.touch T5.out (.inr (by have:=S4.out.s;omega)))
   have s45:=T5.out.size;clear LW LK S4 O4 V4 T5;obtain ⟨-,-,-,-,-,-,-,-,-,-,-,q11⟩:=af S5.out.K;dsimp only at q11;go_wp2_with fail;refine (LF.out _ S5.out.B).mono ?_;rintro e w6 ⟨aF,cF,rfl,oF,hb6⟩;have S6:=Oi (S5.out.same hb6);have OF:=Oi oF;have O6:=Oi (O5.out.keep hb6);have V6:=Oi (V5.out.keep hb6);have W6:=Oi (W5.out.keep hb6);have s56:=hb6.size;obtain ⟨-,-,-,-,-,-,-,-,-,-,-,p11⟩:=af S6.out.K;have g11:=S6.out.K.free 11;obtain ⟨w7,hw7⟩:∃ X,X=w6.setCell ⟨w.heap.size,11,none⟩ (.slice aF d.F.length cF):=⟨_,rfl⟩;have hs7:w7.heap.size=w6.heap.size:=by rw [hw7];simp
   have S7:Hid (CpS w w7 d { x with a:=a1,ca:=c1,b:=b1,cb:=d1,v:=aV,cv:=cV,w:=a2,cw:=c2,k:=b2,ck:=d2,f:=aF,cf:=cF }):=by rw [hw7];exact S6.out.setF aF cF
   have T7:Hid (Touch w6 w7 w.heap.size (w.heap.size+1)):=by rw [hw7];exact au _ _ _ _
   obtain ⟨r0,r1,r2,r3,r4,r5,r6,r7,r8,r9,r10,r11⟩:=af S7.out.K;dsimp only at r0 r1 r2 r3 r4 r5 r6 r7 r8 r9 r10 r11;obtain ⟨j0,j1,j2,j3,j4,j5,j6,j7,j8,j9,j10,j11⟩:=af S7.out.R;have jf0:=S7.out.R.free 0;have jf1:=S7.out.R.free 1;have jf2:=S7.out.R.free 2;have jf3:=S7.out.R.free 3;have jf4:=S7.out.R.free 4;have jf5:=S7.out.R.free 5;have jf6:=S7.out.R.free 6;have jf7:=S7.out.R.free 7;have jf8:=S7.out.R.free 8;have jf9:=S7.out.R.free 9;have jf10:=S7.out.R.free 10;have jf11:=S7.out.R.free 11;rw [hw7] at r0 r1 r2 r3 r4 r5 r6 r7 r8 r9 r10 r11 j0 j1 j2 j3 j4 j5 j6 j7 j8 j9 j10 j11 jf0 jf1 jf2 jf3 jf4 jf5 jf6 jf7 jf8 jf9 jf10 jf11;clear q11 S5 O5 V5 W5 oF hb6 LF S6
   go_upto_region 5 with fail
   rw [← hw7];have O7:=Oi (O6.out.touch T7.out (by omega))
   have V7:=Oi (V6.out.touch T7.out (.inr (by omega)))
   have W7:=Oi (W6.out.touch T7.out (by omega))
   have F7:=Oi (OF.out.touch T7.out (.inr (by omega)))
   clear hw7 O6 V6 W6 OF T7 p11 g11 r0 r1 r2 r3 r4 r5 r6 r7 r8 r9 r10 r11 j0 j1 j2 j3 j4 j5 j6 j7 j8 j9 j10 j11 jf0 jf1 jf2 jf3 jf4 jf5 jf6 jf7 jf8 jf9 jf10 jf11;obtain ⟨r0,r1,r2,r3,r4,r5,r6,r7,r8,r9,r10,r11⟩:=af S7.out.K;dsimp only at r0 r1 r2 r3 r4 r5 r6 r7 r8 r9 r10 r11;obtain ⟨j0,j1,j2,j3,j4,j5,j6,j7,j8,j9,j10,j11⟩:=af S7.out.R;have jf0:=S7.out.R.free 0;have jf1:=S7.out.R.free 1;have jf2:=S7.out.R.free 2;have jf3:=S7.out.R.free 3;have jf4:=S7.out.R.free 4;have jf5:=S7.out.R.free 5;have jf6:=S7.out.R.free 6;have jf7:=S7.out.R.free 7;have jf8:=S7.out.R.free 8;have jf9:=S7.out.R.free 9;have jf10:=S7.out.R.free 10;have jf11:=S7.out.R.free 11;go_wp2_with fail;obtain ⟨w8,hw8⟩:∃ X,X=((((((((((((w7.setCell ⟨w.heap.size+1,0,none⟩ (.int .i64 d.R)).setCell ⟨w.heap.size+1,1,none⟩ (.int .i64 d.C)).setCell ⟨w.heap.size+1,2,none⟩ (.slice a1 d.A.length c1)).setCell ⟨w.heap.size+1,3,none⟩ (.slice b1 d.B.length d1)).setCell ⟨w.heap.size+1,4,none⟩ (.int .i64 d.P)).setCell ⟨w.heap.size+1,5,none⟩ (.int .i64 d.T)).setCell ⟨w.heap.size+1,6,none⟩ (.slice aV d.V.length cV)).setCell ⟨w.heap.size+1,7,none⟩ (.int .i64 d.U)).setCell ⟨w.heap.size+1,8,none⟩ (.int .i64 d.N)).setCell ⟨w.heap.size+1,9,none⟩ (.slice a2 d.W.length c2)).setCell ⟨w.heap.size+1,10,none⟩ (.slice b2 d.K.length d2)).setCell ⟨w.heap.size+1,11,none⟩ (.slice aF d.F.length cF)):=⟨_,rfl⟩;have hp:gV w7 (w.heap.size+1) (.int .i64 d.R) (.int .i64 d.C) (.slice a1 d.A.length c1) (.slice b1 d.B.length d1) (.int .i64 d.P) (.int .i64 d.T) (.slice aV d.V.length cV) (.int .i64 d.U) (.int .i64 d.N) (.slice a2 d.W.length c2) (.slice b2 d.K.length d2) (.slice aF d.F.length cF)=w8:=by rw [hw8];rfl
   have T8:Touch w7 w8 (w.heap.size+1) (w.heap.size+1+1):=by rw [← hp];exact fY _ _ _ _ _ _ _ _ _ _ _ _ _ _
   have K8:Blk w8 (w.heap.size+1) (d.cells { x with a:=a1,ca:=c1,b:=b1,cb:=d1,v:=aV,cv:=cV,w:=a2,cw:=c2,k:=b2,ck:=d2,f:=aF,cf:=cF }) 33:=by rw [← hp];exact jm S7.out.R _ _ _ _ _ _ _ _ _ _ _ _
   have hs8:w8.heap.size=w7.heap.size:=by rw [← hp];exact qR _ _ _ _ _ _ _ _ _ _ _ _ _ _
   rw [← hw8];clear hw8 hp r0 r1 r2 r3 r4 r5 r6 r7 r8 r9 r10 r11 j0 j1 j2 j3 j4 j5 j6 j7 j8 j9 j10 j11;have HO:Hid (OwnDd w8 w.heap.size w8.heap.size d { x with a:=a1,ca:=c1,b:=b1,cb:=d1,v:=aV,cv:=cV,w:=a2,cw:=c2,k:=b2,ck:=d2,f:=aF,cf:=cF }) :=
    ⟨w2.heap.size,w4.heap.size,w5a.heap.size,⟨by omega,by omega,by omega,by omega⟩,(O7.out.touch T8 (by omega)).mono (by omega) (Nat.le_refl _),(V7.out.touch T8 (.inr (by omega))).mono (Nat.le_refl _) (by omega),(W7.out.touch T8 (by omega)),(F7.out.touch T8 (.inr (by omega))).mono (Nat.le_refl _) (by omega)⟩
   have HB:Hid (Below w.heap.size w w8):=aI S7.out.B T8 (by omega) (by omega)
   obtain ⟨t0,t1,t2,t3,t4,t5,t6,t7,t8,t9,t10,t11⟩:=af K8;dsimp only at t0 t1 t2 t3 t4 t5 t6 t7 t8 t9 t10 t11;refine bodyPost_ret (v:=.agg #[.int .i64 d.R,.int .i64 d.C,.slice a1 d.A.length c1,.slice b1 d.B.length d1,.int .i64 d.P,.int .i64 d.T,.slice aV d.V.length cV,.int .i64 d.U,.int .i64 d.N,.slice a2 d.W.length c2,.slice b2 d.K.length d2,.slice aF d.F.length cF]) (by simp [results,Tryz.results31,go_sem,t0,t1,t2,t3,t4,t5,t6,t7,t8,t9,t10,t11]) rfl ?_
   exact ⟨{ x with a:=a1,ca:=c1,b:=b1,cb:=d1,v:=aV,cv:=cV,w:=a2,cw:=c2,k:=b2,ck:=d2,f:=aF,cf:=cF },rfl,HO.out,HB.out⟩
theorem mX (w:World) (R C:Int) (aA:Option Addr) (cA:Nat) (xA:List Int) (aB:Option Addr) (cB:Nat) (xB:List Int) (P T:Int) (aV:Option Addr) (cV:Nat) (xV:List Int) (U N:Int) (aW:Option Addr) (cW:Nat) (xW:List Int) (aC:Option Addr) (cC:Nat) (xC:List Int) (aT:Option Addr) (cT:Nat) (xT:List Nat)
 (h:RdDesk w w.heap.size aA xA aB xB aV xV aW xW aC xC aT xT) (lA:xA.length≤1048576) (lB:xB.length≤1048576) (lV:xV.length≤1048576) (lW:xW.length≤1048576) (lC:xC.length≤1048576) (lT:xT.length≤1048576) :
 Calls Tryz.prog 9 #[.agg #[.int .i64 R,.int .i64 C,.slice aA xA.length cA,.slice aB xB.length cB,.int .i64 P,.int .i64 T,.slice aV xV.length cV,.int .i64 U,.int .i64 N,.slice aW xW.length cW,.slice aC xC.length cC,.slice aT xT.length cT]] w fun e w'=>e=.returned (.bool (gQ R C xA xB P T xV U N xW xC xT))∧Below w.heap.size w w':=by
 have B0:=Oi (ai w (.cells #[.int .i64 R,.int .i64 C,.slice aA xA.length cA,.slice aB xB.length cB,.int .i64 P,.int .i64 T,.slice aV xV.length cV,.int .i64 U,.int .i64 N,.slice aW xW.length cW,.slice aC xC.length cC,.slice aT xT.length cT] 33));have K0:=Oi (Blk.new w [.int .i64 R,.int .i64 C,.slice aA xA.length cA,.slice aB xB.length cB,.int .i64 P,.int .i64 T,.slice aV xV.length cV,.int .i64 U,.int .i64 N,.slice aW xW.length cW,.slice aC xC.length cC,.slice aT xT.length cT] 33);have L1:=Oi (fun v hb=>ef v R C aA cA xA aB cB xB ⟨(h.to hb).A,(h.to hb).B⟩ lA lB)
 have L2:=Oi (fun v hb=>eu v P T aV cV xV (h.to hb).V lV)
 have L3:=Oi (fun v hb=>dJ v U N aW cW xW aC cC xC ⟨(h.to hb).W,(h.to hb).C⟩ lW lC)
 have L4:=Oi (fun v hb=>mO v aT cT xT (h.to hb).T lT)
 obtain ⟨z0,z1,z2,z3,z4,z5,z6,z7,z8,z9,z10,z11⟩:=af K0.out;clear h
 cases t1:cZ R C xA xB with
 | false =>
   have HF:Hid (gQ R C xA xB P T xV U N xW xC xT=false):=by simp [Hid,gQ,t1]
   rw [t1] at L1;clear t1
   go_enter Tryz.func9,Tryz.ntmps9;go_wp2_with fail;refine (L1.out _ B0.out).mono ?_;rintro e w1 ⟨rfl,hb⟩;have K1:=Oi (K0.out.same hb);have B1:=Oi (aa B0.out hb);clear z0 z1 z2 z3 z4 z5 z6 z7 z8 z9 z10 z11 hb;obtain ⟨z0,z1,z2,z3,z4,z5,z6,z7,z8,z9,z10,z11⟩:=af K1.out;go_wp2_with fail;go_ret;exact ⟨ar HF.out.symm,B1.out⟩
 | true =>
 cases t2:bM P T xV with
 | false =>
   have HF:Hid (gQ R C xA xB P T xV U N xW xC xT=false):=by simp [Hid,gQ,t2]
   rw [t1] at L1;rw [t2] at L2;clear t1 t2
   go_enter Tryz.func9,Tryz.ntmps9;go_wp2_with fail;refine (L1.out _ B0.out).mono ?_;rintro e w1 ⟨rfl,hb⟩;have K1:=Oi (K0.out.same hb);have B1:=Oi (aa B0.out hb);clear z0 z1 z2 z3 z4 z5 z6 z7 z8 z9 z10 z11 hb;obtain ⟨z0,z1,z2,z3,z4,z5,z6,z7,z8,z9,z10,z11⟩:=af K1.out;go_wp2_with fail;refine (L2.out _ B1.out).mono ?_;rintro e w2 ⟨rfl,hb⟩;have K2:=Oi (K1.out.same hb);have B2:=Oi (aa B1.out hb);clear z0 z1 z2 z3 z4 z5 z6 z7 z8 z9 z10 z11 hb;obtain ⟨z0,z1,z2,z3,z4,z5,z6,z7,z8,z9,z10,z11⟩:=af K2.out;go_wp2_with fail;go_ret;exact ⟨ar HF.out.symm,B2.out⟩
 | true =>
 cases t3:bu ⟨U,N,xW,xC⟩ with
 | false =>
   have HF:Hid (gQ R C xA xB P T xV U N xW xC xT=false):=by simp [Hid,gQ,t3]
   rw [t1] at L1;rw [t2] at L2;rw [t3] at L3;clear t1 t2 t3
   go_enter Tryz.func9,Tryz.ntmps9;go_wp2_with fail;refine (L1.out _ B0.out).mono ?_;rintro e w1 ⟨rfl,hb⟩;have K1:=Oi (K0.out.same hb);have B1:=Oi (aa B0.out hb);clear z0 z1 z2 z3 z4 z5 z6 z7 z8 z9 z10 z11 hb;obtain ⟨z0,z1,z2,z3,z4,z5,z6,z7,z8,z9,z10,z11⟩:=af K1.out;go_wp2_with fail;refine (L2.out _ B1.out).mono ?_;rintro e w2 ⟨rfl,hb⟩;have K2:=Oi (K1.out.same hb);have B2:=Oi (aa B1.out hb);clear z0 z1 z2 z3 z4 z5 z6 z7 z8 z9 z10 z11 hb;obtain ⟨z0,z1,z2,z3,z4,z5,z6,z7,z8,z9,z10,z11⟩:=af K2.out;go_wp2_with fail;refine (L3.out _ B2.out).mono ?_;rintro e w3 ⟨rfl,hb⟩;have K3:=Oi (K2.out.same hb);have B3:=Oi (aa B2.out hb);clear z0 z1 z2 z3 z4 z5 z6 z7 z8 z9 z10 z11 hb;obtain ⟨z0,z1,z2,z3,z4,z5,z6,z7,z8,z9,z10,z11⟩:=af K3.out;go_wp2_with fail;go_ret;exact ⟨ar HF.out.symm,B3.out⟩
 | true =>
 have HT:Hid (gQ R C xA xB P T xV U N xW xC xT=lp xT):=by simp [Hid,gQ,t1,t2,t3]
 rw [t1] at L1;rw [t2] at L2;rw [t3] at L3;clear t1 t2 t3
 by_cases h1:1≤xT.length
 · have h1':(1:Int)≤(xT.length:Int):=by omega
   by_cases h2:xT.length≤16
   · have h2':(xT.length:Int)≤16:=by omega
     have HF:Hid (gQ R C xA xB P T xV U N xW xC xT=jJ xT):=by rw [Hid,HT.out];simp [lp,h1,h2]
     clear h1 h2
     go_enter Tryz.func9,Tryz.ntmps9;go_wp2_with fail;refine (L1.out _ B0.out).mono ?_;rintro e w1 ⟨rfl,hb⟩;have K1:=Oi (K0.out.same hb);have B1:=Oi (aa B0.out hb);clear z0 z1 z2 z3 z4 z5 z6 z7 z8 z9 z10 z11 hb;obtain ⟨z0,z1,z2,z3,z4,z5,z6,z7,z8,z9,z10,z11⟩:=af K1.out;go_wp2_with fail;refine (L2.out _ B1.out).mono ?_;rintro e w2 ⟨rfl,hb⟩;have K2:=Oi (K1.out.same hb);have B2:=Oi (aa B1.out hb);clear z0 z1 z2 z3 z4 z5 z6 z7 z8 z9 z10 z11 hb;obtain ⟨z0,z1,z2,z3,z4,z5,z6,z7,z8,z9,z10,z11⟩:=af K2.out;go_wp2_with fail;refine (L3.out _ B2.out).mono ?_;rintro e w3 ⟨rfl,hb⟩;have K3:=Oi (K2.out.same hb);have B3:=Oi (aa B2.out hb);clear z0 z1 z2 z3 z4 z5 z6 z7 z8 z9 z10 z11 hb;obtain ⟨z0,z1,z2,z3,z4,z5,z6,z7,z8,z9,z10,z11⟩:=af K3.out;go_wp2_with fail;refine (L4.out _ B3.out).mono ?_;rintro e w4 ⟨rfl,hb⟩;have K4:=Oi (K3.out.same hb);have B4:=Oi (aa B3.out hb);clear z0 z1 z2 z3 z4 z5 z6 z7 z8 z9 z10 z11 hb;obtain ⟨z0,z1,z2,z3,z4,z5,z6,z7,z8,z9,z10,z11⟩:=af K4.out;go_wp2_with fail;go_ret;exact ⟨ar HF.out.symm,B4.out⟩
   · have h2':¬ (xT.length:Int)≤16:=by omega
     have HF:Hid (gQ R C xA xB P T xV U N xW xC xT=false):=by rw [Hid,HT.out];simp [lp,h1,h2]
     clear h1 h2
     go_enter Tryz.func9,Tryz.ntmps9;go_wp2_with fail;refine (L1.out _ B0.out).mono ?_;rintro e w1 ⟨rfl,hb⟩;have K1:=Oi (K0.out.same hb);have B1:=Oi (aa B0.out hb);clear z0 z1 z2 z3 z4 z5 z6 z7 z8 z9 z10 z11 hb;obtain ⟨z0,z1,z2,z3,z4,z5,z6,z7,z8,z9,z10,z11⟩:=af K1.out;go_wp2_with fail;refine (L2.out _ B1.out).mono ?_;rintro e w2 ⟨rfl,hb⟩;have K2:=Oi (K1.out.same hb);have B2:=Oi (aa B1.out hb);clear z0 z1 z2 z3 z4 z5 z6 z7 z8 z9 z10 z11 hb;obtain ⟨z0,z1,z2,z3,z4,z5,z6,z7,z8,z9,z10,z11⟩:=af K2.out;go_wp2_with fail;refine (L3.out _ B2.out).mono ?_;rintro e w3 ⟨rfl,hb⟩;have K3:=Oi (K2.out.same hb);have B3:=Oi (aa B2.out hb);clear z0 z1 z2 z3 z4 z5 z6 z7 z8 z9 z10 z11 hb;obtain ⟨z0,z1,z2,z3,z4,z5,z6,z7,z8,z9,z10,z11⟩:=af K3.out;go_wp2_with fail;go_ret;exact ⟨ar HF.out.symm,B3.out⟩
 · have h1':¬ (1:Int)≤(xT.length:Int):=by omega
   have HF:Hid (gQ R C xA xB P T xV U N xW xC xT=false):=by rw [Hid,HT.out];simp [lp,h1]
   clear h1
   go_enter Tryz.func9,Tryz.ntmps9;go_wp2_with fail;refine (L1.out _ B0.out).mono ?_;rintro e w1 ⟨rfl,hb⟩;have K1:=Oi (K0.out.same hb);have B1:=Oi (aa B0.out hb);clear z0 z1 z2 z3 z4 z5 z6 z7 z8 z9 z10 z11 hb;obtain ⟨z0,z1,z2,z3,z4,z5,z6,z7,z8,z9,z10,z11⟩:=af K1.out;go_wp2_with fail;refine (L2.out _ B1.out).mono ?_;rintro e w2 ⟨rfl,hb⟩;have K2:=Oi (K1.out.same hb);have B2:=Oi (aa B1.out hb);clear z0 z1 z2 z3 z4 z5 z6 z7 z8 z9 z10 z11 hb;obtain ⟨z0,z1,z2,z3,z4,z5,z6,z7,z8,z9,z10,z11⟩:=af K2.out;go_wp2_with fail;refine (L3.out _ B2.out).mono ?_;rintro e w3 ⟨rfl,hb⟩;have K3:=Oi (K2.out.same hb);have B3:=Oi (aa B2.out hb);clear z0 z1 z2 z3 z4 z5 z6 z7 z8 z9 z10 z11 hb;obtain ⟨z0,z1,z2,z3,z4,z5,z6,z7,z8,z9,z10,z11⟩:=af K3.out;go_wp2_with fail;go_ret;exact ⟨ar HF.out.symm,B3.out⟩
end Go.Proofs.YtbknhgapjjaelaaGreatDoor
