/-
  Part 16 of what the proof stands on: lemmas and contracts, each with its conditions ahead of the colon.
-/
import Derived.Test.YtbknhgapjjaelaaGreatDoorPj01
import Derived.Test.YtbknhgapjjaelaaGreatDoorPj07
import Derived.Test.YtbknhgapjjaelaaGreatDoorPj09
import Derived.Test.YtbknhgapjjaelaaGreatDoorPj10
import Derived.Test.YtbknhgapjjaelaaGreatDoorPj11
import Derived.Test.YtbknhgapjjaelaaGreatDoorPj13
import Derived.Test.YtbknhgapjjaelaaGreatDoorPj14
import Derived.Test.YtbknhgapjjaelaaGreatDoorPj15
set_option maxRecDepth 100000
set_option maxHeartbeats 16000000
namespace Go.Proofs.YtbknhgapjjaelaaGreatDoor
set_option linter.unusedVariables false
set_option linter.unusedSimpArgs false
open Go.RowKit
theorem ti {w:World} (ht:Tab w) (xs:List Int) (hl:xs.length≤1048576) (w1:World) (hb:Below w.heap.size w w1) (a:Option Addr) (c:Nat) (h:Rd w1 w1.heap.size a (ae xs)) :
 Calls Tryz.prog 102 #[.bool true,.slice (some ⟨w1.heap.size,0,none⟩) 1 1] (w1.alloc (.cells #[.slice a xs.length c] 24)) (kH (eE [xs]) w):=by
 have B1:=ai w1 (.cells #[.slice a xs.length c] 24);have B2:=aa hb B1;refine (gK (w1.alloc (.cells #[.slice a xs.length c] 24)) (ht.to B2) true (some ⟨w1.heap.size,0,none⟩) 1 [xs] (FU (Blk.new w1 [.slice a xs.length c] 24) (h.to B1)) (by simp) (fun x hx=>by simp at hx;subst hx;exact hl)).mono ?_
 rintro e w2 ⟨hb2,rfl⟩;exact ⟨aa B2 hb2,rfl⟩
theorem N0 {w:World} (ht:Tab w) (xs ys:List Int) (hl:xs.length≤1048576) (hl2:ys.length≤1048576) (w1:World) (hb:Below w.heap.size w w1) (a:Option Addr) (c:Nat) (h:Rd w1 w1.heap.size a (ae xs)) (a2:Option Addr) (c2:Nat) (h2:Rd w1 w1.heap.size a2 (ae ys)) :
 Calls Tryz.prog 102 #[.bool true,.slice (some ⟨w1.heap.size,0,none⟩) 2 2] (w1.alloc (.cells #[.slice a xs.length c,.slice a2 ys.length c2] 24)) (kH (eE [xs,ys]) w):=by
 have B1:=ai w1 (.cells #[.slice a xs.length c,.slice a2 ys.length c2] 24);have B2:=aa hb B1;refine (gK (w1.alloc (.cells #[.slice a xs.length c,.slice a2 ys.length c2] 24)) (ht.to B2) true (some ⟨w1.heap.size,0,none⟩) 2 [xs,ys] (L7 (Blk.new w1 [.slice a xs.length c,.slice a2 ys.length c2] 24) (h.to B1) (h2.to B1)) (by simp) (fun x hx=>by simp at hx;rcases hx with rfl | rfl <;> assumption)).mono ?_
 rintro e w2 ⟨hb2,rfl⟩;exact ⟨aa B2 hb2,rfl⟩
theorem Hv (R C:Nat) (xA xB:List Int):(jT R C xA xB).1.length≤R∧(jT R C xA xB).2.length≤C:=by
 have key:∀ f r c,(jD C xA xB f r c).1.length≤r.length∧(jD C xA xB f r c).2.length≤c.length:=by
  intro f
  induction f with
  | zero=>intro r c;exact ⟨Nat.le_refl _,Nat.le_refl _⟩
  | succ f ih =>
    intro r c;have h1:=uG C xA r c;have h2:=uF C xA xB r c;rw [jD]
    split
    · exact ⟨h1,h2⟩
    · have:=ih (ja C xA r c) (mq C xA xB r c)
      exact ⟨by omega,by omega⟩
 have:=key 13 (eL R) (eL C);rwa [bG,bG] at this
noncomputable def uT (P T:Nat) (xV:List Int):List Int:=open Classical in if h:∃ r,EnvyR P T xV 0 (List.replicate T (-1)) r then Classical.choose h else []
theorem JS {P T:Nat} {xV res:List Int} (h:EnvyR P T xV 0 (List.replicate T (-1)) res):uT P T xV=res:=by
 have hx:∃ r,EnvyR P T xV 0 (List.replicate T (-1)) r:=⟨_,h⟩;unfold uT;rw [dif_pos hx];exact (Classical.choose_spec hx).same h
def zr (d:DD):DD:={ d with R:=d.C,C:=d.R,A:=aG d.R.toNat d.C.toNat d.B (d.C.toNat * d.R.toNat),B:=aG d.R.toNat d.C.toNat d.A (d.C.toNat * d.R.toNat) }
def jE (xs:List Int) (d:DD):il:=some ((eE [xs]).map fun t=>(d,t))
def ke:List UInt8:=[103,97,109,101]
theorem Ex:fz ke (fun d=>some ((gm d.R d.C d.A d.B).map fun t=>(d,t))):=by
 intro w b d x lo hlo hlx hE hok hca hB hR0;dsimp only;have hR:DRd w w.heap.size d x:=hR0.mono (Nat.le_of_lt hB.lt);obtain ⟨⟨a1,a2⟩,⟨b1,b2⟩,⟨v1,v2⟩,⟨l1,l2⟩,⟨k1,k2⟩,f1,f2⟩:=DD.ok_len hok;obtain ⟨hg,hv,hc,ht⟩:=DD.ok_parts hok;have LG:=Oi (As w hE.tab d.R d.C x.a x.ca d.A x.b x.cb d.B ⟨hR.r.A,hR.r.B⟩ (by omega) (by omega))
 obtain ⟨z0,z1,z2,z3,z4,z5,z6,z7,z8,z9,z10,z11⟩:=af hB
 try dsimp only at z0 z1 z2 z3 z4 z5 z6 z7 z8 z9 z10 z11
 have HB:=Oi hB;have HLX:=Oi hlx;have HLO:=Oi hlo;have HR:=Oi hR;have HR0:=Oi hR0;have HE:=Oi hE;clear hlx hlo hB hR hE hok hca a1 a2 b1 b2 v1 v2 l1 l2 k1 k2 f1 f2 hg hv hc ht hR0;obtain ⟨s,hs⟩:∃ s:ByteArray,s=bs ke:=⟨_,rfl⟩;have t_game:(s.toList == [103,97,109,101])=true:=by rw [hs,ab];rfl
 rw [← hs];clear hs
 go_enter Tryz.func98,Tryz.ntmps98;go_wp2_with fail;refine LG.out.mono ?_;rintro e w1 ⟨rfl,hb⟩;go_wp2_with fail;go_ret3;exact RetAl.text _ hb HB.out HR.out HLX.out
def gM:List UInt8:=[118,97,108,117,101,115]
theorem zA:fz gM (fun d=>some ((fd d.P d.T d.V).map fun t=>(d,t))):=by
 intro w b d x lo hlo hlx hE hok hca hB hR0;dsimp only;have hR:DRd w w.heap.size d x:=hR0.mono (Nat.le_of_lt hB.lt);obtain ⟨⟨a1,a2⟩,⟨b1,b2⟩,⟨v1,v2⟩,⟨l1,l2⟩,⟨k1,k2⟩,f1,f2⟩:=DD.ok_len hok;obtain ⟨hg,hv,hc,ht⟩:=DD.ok_parts hok;have LG:=Oi (xl w hE.tab d.P d.T x.v x.cv d.V hR.r.V (by omega))
 obtain ⟨z0,z1,z2,z3,z4,z5,z6,z7,z8,z9,z10,z11⟩:=af hB
 try dsimp only at z0 z1 z2 z3 z4 z5 z6 z7 z8 z9 z10 z11
 have HB:=Oi hB;have HLX:=Oi hlx;have HLO:=Oi hlo;have HR:=Oi hR;have HR0:=Oi hR0;have HE:=Oi hE;clear hlx hlo hB hR hE hok hca a1 a2 b1 b2 v1 v2 l1 l2 k1 k2 f1 f2 hg hv hc ht hR0;obtain ⟨s,hs⟩:∃ s:ByteArray,s=bs gM:=⟨_,rfl⟩;have t_game:(s.toList == [103,97,109,101])=false:=by rw [hs,ab];rfl
 have t_values:(s.toList == [118,97,108,117,101,115])=true:=by rw [hs,ab];rfl
 rw [← hs];clear hs
 go_enter Tryz.func98,Tryz.ntmps98;go_wp2_with fail;refine LG.out.mono ?_;rintro e w1 ⟨rfl,hb⟩;go_wp2_with fail;go_ret3;exact RetAl.text _ hb HB.out HR.out HLX.out
def iK:List UInt8:=[99,114,111,119,100]
theorem Cs:fz iK (fun d=>some ((fE d.U d.N d.W d.K).map fun t=>(d,t))):=by
 intro w b d x lo hlo hlx hE hok hca hB hR0;dsimp only;have hR:DRd w w.heap.size d x:=hR0.mono (Nat.le_of_lt hB.lt);obtain ⟨⟨a1,a2⟩,⟨b1,b2⟩,⟨v1,v2⟩,⟨l1,l2⟩,⟨k1,k2⟩,f1,f2⟩:=DD.ok_len hok;obtain ⟨hg,hv,hc,ht⟩:=DD.ok_parts hok;have LG:=Oi (yS w hE.tab d.U d.N x.w x.cw d.W x.k x.ck d.K ⟨hR.r.W,hR.r.C⟩ (by omega) (by omega))
 obtain ⟨z0,z1,z2,z3,z4,z5,z6,z7,z8,z9,z10,z11⟩:=af hB
 try dsimp only at z0 z1 z2 z3 z4 z5 z6 z7 z8 z9 z10 z11
 have HB:=Oi hB;have HLX:=Oi hlx;have HLO:=Oi hlo;have HR:=Oi hR;have HR0:=Oi hR0;have HE:=Oi hE;clear hlx hlo hB hR hE hok hca a1 a2 b1 b2 v1 v2 l1 l2 k1 k2 f1 f2 hg hv hc ht hR0;obtain ⟨s,hs⟩:∃ s:ByteArray,s=bs iK:=⟨_,rfl⟩;have t_game:(s.toList == [103,97,109,101])=false:=by rw [hs,ab];rfl
 have t_values:(s.toList == [118,97,108,117,101,115])=false:=by rw [hs,ab];rfl
 have t_crowd:(s.toList == [99,114,111,119,100])=true:=by rw [hs,ab];rfl
 rw [← hs];clear hs
 go_enter Tryz.func98,Tryz.ntmps98;go_wp2_with fail;refine LG.out.mono ?_;rintro e w1 ⟨rfl,hb⟩;go_wp2_with fail;go_ret3;exact RetAl.text _ hb HB.out HR.out HLX.out
def iL:List UInt8:=[116,117,114,110,115]
theorem Cv:fz iL (fun d=>some (some (d,bJ d.F))):=by
 intro w b d x lo hlo hlx hE hok hca hB hR0;dsimp only;have hR:DRd w w.heap.size d x:=hR0.mono (Nat.le_of_lt hB.lt);obtain ⟨⟨a1,a2⟩,⟨b1,b2⟩,⟨v1,v2⟩,⟨l1,l2⟩,⟨k1,k2⟩,f1,f2⟩:=DD.ok_len hok;obtain ⟨hg,hv,hc,ht⟩:=DD.ok_parts hok;have LG:=Oi (pn w hE.bit x.f x.cf d.F hR.r.T hR.f (by omega))
 rw [if_pos (by omega:d.F.length≤256)] at LG
 obtain ⟨z0,z1,z2,z3,z4,z5,z6,z7,z8,z9,z10,z11⟩:=af hB
 try dsimp only at z0 z1 z2 z3 z4 z5 z6 z7 z8 z9 z10 z11
 have HB:=Oi hB;have HLX:=Oi hlx;have HLO:=Oi hlo;have HR:=Oi hR;have HR0:=Oi hR0;have HE:=Oi hE;clear hlx hlo hB hR hE hok hca a1 a2 b1 b2 v1 v2 l1 l2 k1 k2 f1 f2 hg hv hc ht hR0;obtain ⟨s,hs⟩:∃ s:ByteArray,s=bs iL:=⟨_,rfl⟩;have t_game:(s.toList == [103,97,109,101])=false:=by rw [hs,ab];rfl
 have t_values:(s.toList == [118,97,108,117,101,115])=false:=by rw [hs,ab];rfl
 have t_crowd:(s.toList == [99,114,111,119,100])=false:=by rw [hs,ab];rfl
 have t_turns:(s.toList == [116,117,114,110,115])=true:=by rw [hs,ab];rfl
 rw [← hs];clear hs
 go_enter Tryz.func98,Tryz.ntmps98;go_wp2_with fail;refine LG.out.mono ?_;rintro e w1 ⟨hb,rfl⟩;go_wp2_with fail;go_ret3;exact RetAl.text (some _) hb HB.out HR.out HLX.out
def tr:List UInt8:=[116,117,114,110]
theorem EC:fz tr (fun d=>some (some (zr d,lr))):=by
 intro w b d x lo hlo hlx hE hok hca hB hR0;dsimp only;have hR:DRd w w.heap.size d x:=hR0.mono (Nat.le_of_lt hB.lt);obtain ⟨⟨a1,a2⟩,⟨b1,b2⟩,⟨v1,v2⟩,⟨l1,l2⟩,⟨k1,k2⟩,f1,f2⟩:=DD.ok_len hok;obtain ⟨hg,hv,hc,ht⟩:=DD.ok_parts hok;obtain ⟨dR,dC,A,B,P,T,V,U,N,W,K,F⟩:=d;obtain ⟨R,C,e1,e2,r1,r6,c1,c6,lA,lB,-,-⟩:=eH hg;dsimp only at e1 e2 r1 r6 c1 c6 lA lB;subst e1 e2;have hRC:R * C≤36:=Nat.le_trans (Nat.mul_le_mul r6 c6) (by decide)
 have hb1:=hB.lt;have LG:=Oi (Cf w R C x.a x.ca A x.b x.cb B hg hR.r.A hR.r.B);unfold Ls at LG;rw [show (zr { R:=R,C:=C,A:=A,B:=B,P:=P,T:=T,V:=V,U:=U,N:=N,W:=W,K:=K,F:=F }) = { R:=C,C:=R,A:=aG R C B (C * R),B:=aG R C A (C * R),P:=P,T:=T,V:=V,U:=U,N:=N,W:=W,K:=K,F:=F } from rfl]
 generalize aG R C B (C * R)=fA at LG ⊢;generalize aG R C A (C * R)=fB at LG ⊢;obtain ⟨z0,z1,z2,z3,z4,z5,z6,z7,z8,z9,z10,z11⟩:=af hB
 try dsimp only at z0 z1 z2 z3 z4 z5 z6 z7 z8 z9 z10 z11
 have HB:=Oi hB;have HLX:=Oi hlx;have HLO:=Oi hlo;have HR:=Oi hR;have HR0:=Oi hR0;have HE:=Oi hE;clear hlx hlo hB hR hE hok hca a1 a2 b1 b2 v1 v2 l1 l2 k1 k2 f1 f2 hg hv hc ht hR0 r1 r6 c1 c6 lA lB hRC;obtain ⟨s,hs⟩:∃ s:ByteArray,s=bs tr:=⟨_,rfl⟩;have t_game:(s.toList == [103,97,109,101])=false:=by rw [hs,ab];rfl
 have t_values:(s.toList == [118,97,108,117,101,115])=false:=by rw [hs,ab];rfl
 have t_crowd:(s.toList == [99,114,111,119,100])=false:=by rw [hs,ab];rfl
 have t_turns:(s.toList == [116,117,114,110,115])=false:=by rw [hs,ab];rfl
 have t_turn:(s.toList == [116,117,114,110])=true:=by rw [hs,ab];rfl
 rw [← hs];clear hs
 go_enter Tryz.func98,Tryz.ntmps98;go_wp2_with fail;refine LG.out.mono ?_;rintro e w1 ⟨a2,c2,a3,c3,rfl,q1,q2,hb,b1,b2⟩;have KB:=HB.out.same hb;have KT:=HR0.out.below hb (Nat.le_of_lt HB.out.lt);obtain ⟨y0,y1,y2,y3,y4,y5,y6,y7,y8,y9,y10,y11⟩:=af KB;dsimp only at y0 y1 y2 y3 y4 y5 y6 y7 y8 y9 y10 y11;have g0:=KB.free 0;have g1:=KB.free 1;have g2:=KB.free 2;have g3:=KB.free 3;have PT:=Oi (Ef KB KT C R fA a2 c2 fB a3 c3 (Eg q1 (fun y h=>by have:=b1 y h;omega)) (Eg q2 (fun y h=>by have:=b2 y h;omega)))
 have hbb:=Oi hb;clear q1 q2 KB KT b1 b2 hb1 hb;go_wp2_with fail;go_ret3;exact PT.out.yes hbb.out HLO.out HLX.out lr
def tk:List UInt8:=[112,117,114,101]
theorem Ez:fz tk (fun d=>jE (er d.R.toNat d.C.toNat d.A (aG d.R.toNat d.C.toNat d.B (d.C.toNat * d.R.toNat)) (d.R.toNat * d.C.toNat)) d):=by
 intro w b d x lo hlo hlx hE hok hca hB hR0;dsimp only;have hR:DRd w w.heap.size d x:=hR0.mono (Nat.le_of_lt hB.lt);obtain ⟨⟨a1,a2⟩,⟨b1,b2⟩,⟨v1,v2⟩,⟨l1,l2⟩,⟨k1,k2⟩,f1,f2⟩:=DD.ok_len hok;obtain ⟨hg,hv,hc,ht⟩:=DD.ok_parts hok;obtain ⟨dR,dC,A,B,P,T,V,U,N,W,K,F⟩:=d;obtain ⟨R,C,e1,e2,r1,r6,c1,c6,lA,lB,-,-⟩:=eH hg;dsimp only at e1 e2 r1 r6 c1 c6 lA lB;subst e1 e2;have hRC:R * C≤36:=Nat.le_trans (Nat.mul_le_mul r6 c6) (by decide)
 have LG:=Oi (FJ w R C x.a x.ca A x.b x.cb B hg hR.r.A hR.r.B);have hL:=yj R C A (aG R C B (C * R)) (R * C);unfold jE;dsimp only [Int.toNat_natCast];generalize er R C A (aG R C B (C * R)) (R * C)=xs at LG hL ⊢;have LT:=Oi (ti hE.tab xs (by omega))
 clear hL;obtain ⟨z0,z1,z2,z3,z4,z5,z6,z7,z8,z9,z10,z11⟩:=af hB
 try dsimp only at z0 z1 z2 z3 z4 z5 z6 z7 z8 z9 z10 z11
 have HB:=Oi hB;have HLX:=Oi hlx;have HLO:=Oi hlo;have HR:=Oi hR;have HR0:=Oi hR0;have HE:=Oi hE;clear hlx hlo hB hR hE hok hca a1 a2 b1 b2 v1 v2 l1 l2 k1 k2 f1 f2 hg hv hc ht hR0 r1 r6 c1 c6 lA lB hRC;obtain ⟨s,hs⟩:∃ s:ByteArray,s=bs tk:=⟨_,rfl⟩;have t_game:(s.toList == [103,97,109,101])=false:=by rw [hs,ab];rfl
 have t_values:(s.toList == [118,97,108,117,101,115])=false:=by rw [hs,ab];rfl
 have t_crowd:(s.toList == [99,114,111,119,100])=false:=by rw [hs,ab];rfl
 have t_turns:(s.toList == [116,117,114,110,115])=false:=by rw [hs,ab];rfl
 have t_turn:(s.toList == [116,117,114,110])=false:=by rw [hs,ab];rfl
 have t_pure:(s.toList == [112,117,114,101])=true:=by rw [hs,ab];rfl
 rw [← hs];clear hs
 go_enter Tryz.func98,Tryz.ntmps98;go_wp2_with fail;refine LG.out.mono ?_;rintro e w1 ⟨a,c,rfl,hr,hb⟩;have LT1:=Oi (LT.out _ hb a c hr);clear hr hb;go_wp2_with fail;refine LT1.out.mono ?_;rintro e w2 ⟨hb2,rfl⟩;go_wp2_with fail;go_ret3;exact RetAl.text _ hb2 HB.out HR.out HLX.out
def tj:List UInt8:=[108,101,102,116]
theorem Ey:fz tj (fun d=>some ((eE [(jT d.R.toNat d.C.toNat d.A d.B).1,(jT d.R.toNat d.C.toNat d.A d.B).2]).map fun t=>(d,t))):=by
 intro w b d x lo hlo hlx hE hok hca hB hR0;dsimp only;have hR:DRd w w.heap.size d x:=hR0.mono (Nat.le_of_lt hB.lt);obtain ⟨⟨a1,a2⟩,⟨b1,b2⟩,⟨v1,v2⟩,⟨l1,l2⟩,⟨k1,k2⟩,f1,f2⟩:=DD.ok_len hok;obtain ⟨hg,hv,hc,ht⟩:=DD.ok_parts hok;obtain ⟨dR,dC,A,B,P,T,V,U,N,W,K,F⟩:=d;obtain ⟨R,C,e1,e2,r1,r6,c1,c6,lA,lB,-,-⟩:=eH hg;dsimp only at e1 e2 r1 r6 c1 c6 lA lB;subst e1 e2;have hRC:R * C≤36:=Nat.le_trans (Nat.mul_le_mul r6 c6) (by decide)
 have LG:=Oi (zj w R C x.a x.ca A x.b x.cb B hg hR.r.A hR.r.B);unfold Lu at LG;obtain ⟨hL,hL2⟩:=Hv R C A B;dsimp only [Int.toNat_natCast];generalize (jT R C A B).1=xs at LG hL ⊢;generalize (jT R C A B).2=ys at LG hL2 ⊢;have LT:=Oi (N0 hE.tab xs ys (by omega) (by omega))
 clear hL hL2;obtain ⟨z0,z1,z2,z3,z4,z5,z6,z7,z8,z9,z10,z11⟩:=af hB
 try dsimp only at z0 z1 z2 z3 z4 z5 z6 z7 z8 z9 z10 z11
 have HB:=Oi hB;have HLX:=Oi hlx;have HLO:=Oi hlo;have HR:=Oi hR;have HR0:=Oi hR0;have HE:=Oi hE;clear hlx hlo hB hR hE hok hca a1 a2 b1 b2 v1 v2 l1 l2 k1 k2 f1 f2 hg hv hc ht hR0 r1 r6 c1 c6 lA lB hRC;obtain ⟨s,hs⟩:∃ s:ByteArray,s=bs tj:=⟨_,rfl⟩;have t_game:(s.toList == [103,97,109,101])=false:=by rw [hs,ab];rfl
 have t_values:(s.toList == [118,97,108,117,101,115])=false:=by rw [hs,ab];rfl
 have t_crowd:(s.toList == [99,114,111,119,100])=false:=by rw [hs,ab];rfl
 have t_turns:(s.toList == [116,117,114,110,115])=false:=by rw [hs,ab];rfl
 have t_turn:(s.toList == [116,117,114,110])=false:=by rw [hs,ab];rfl
 have t_pure:(s.toList == [112,117,114,101])=false:=by rw [hs,ab];rfl
 have t_pareto:(s.toList == [112,97,114,101,116,111])=false:=by rw [hs,ab];rfl
 have t_left:(s.toList == [108,101,102,116])=true:=by rw [hs,ab];rfl
 rw [← hs];clear hs
 go_enter Tryz.func98,Tryz.ntmps98;go_wp2_with fail;refine LG.out.mono ?_;rintro e w1 ⟨a,c,a2,c2,rfl,hr,hr2,hb⟩;have LT1:=Oi (LT.out _ hb a c hr a2 c2 hr2);clear hr hr2 hb;go_wp2_with fail;refine LT1.out.mono ?_;rintro e w2 ⟨hb2,rfl⟩;go_wp2_with fail;go_ret3;exact RetAl.text _ hb2 HB.out HR.out HLX.out
def tq:List UInt8:=[115,97,102,101]
theorem EB:fz tq (fun d=>jE [(eZ d.R.toNat d.C.toNat d.A d.R.toNat).1,(eZ d.R.toNat d.C.toNat d.A d.R.toNat).2] d):=by
 intro w b d x lo hlo hlx hE hok hca hB hR0;dsimp only;have hR:DRd w w.heap.size d x:=hR0.mono (Nat.le_of_lt hB.lt);obtain ⟨⟨a1,a2⟩,⟨b1,b2⟩,⟨v1,v2⟩,⟨l1,l2⟩,⟨k1,k2⟩,f1,f2⟩:=DD.ok_len hok;obtain ⟨hg,hv,hc,ht⟩:=DD.ok_parts hok;obtain ⟨dR,dC,A,B,P,T,V,U,N,W,K,F⟩:=d;obtain ⟨R,C,e1,e2,r1,r6,c1,c6,lA,lB,-,-⟩:=eH hg;dsimp only at e1 e2 r1 r6 c1 c6 lA lB;subst e1 e2;have hRC:R * C≤36:=Nat.le_trans (Nat.mul_le_mul r6 c6) (by decide)
 have LG:=Oi (Dl w R C x.a x.ca A x.b x.cb B hg hca hR.r.A hR.r.B);unfold jE;dsimp only [Int.toNat_natCast];generalize (eZ R C A R).1=m at LG ⊢;generalize (eZ R C A R).2=n at LG ⊢;have LT:=Oi (ti hE.tab [m,n] (by simp))
 obtain ⟨z0,z1,z2,z3,z4,z5,z6,z7,z8,z9,z10,z11⟩:=af hB
 try dsimp only at z0 z1 z2 z3 z4 z5 z6 z7 z8 z9 z10 z11
 have HB:=Oi hB;have HLX:=Oi hlx;have HLO:=Oi hlo;have HR:=Oi hR;have HR0:=Oi hR0;have HE:=Oi hE;clear hlx hlo hB hR hE hok hca a1 a2 b1 b2 v1 v2 l1 l2 k1 k2 f1 f2 hg hv hc ht hR0 r1 r6 c1 c6 lA lB hRC;obtain ⟨s,hs⟩:∃ s:ByteArray,s=bs tq:=⟨_,rfl⟩;have t_game:(s.toList == [103,97,109,101])=false:=by rw [hs,ab];rfl
 have t_values:(s.toList == [118,97,108,117,101,115])=false:=by rw [hs,ab];rfl
 have t_crowd:(s.toList == [99,114,111,119,100])=false:=by rw [hs,ab];rfl
 have t_turns:(s.toList == [116,117,114,110,115])=false:=by rw [hs,ab];rfl
 have t_turn:(s.toList == [116,117,114,110])=false:=by rw [hs,ab];rfl
 have t_pure:(s.toList == [112,117,114,101])=false:=by rw [hs,ab];rfl
 have t_pareto:(s.toList == [112,97,114,101,116,111])=false:=by rw [hs,ab];rfl
 have t_left:(s.toList == [108,101,102,116])=false:=by rw [hs,ab];rfl
 have t_safe:(s.toList == [115,97,102,101])=true:=by rw [hs,ab];rfl
 rw [← hs];clear hs
 go_enter Tryz.func98,Tryz.ntmps98;go_wp2_with fail;refine LG.out.mono ?_;rintro e w1 ⟨rfl,hb⟩;have LT1:=Oi (LT.out _ (aa hb (ai w1 (.cells #[.int .i64 m,.int .i64 n] 2))) (some ⟨w1.heap.size,0,none⟩) 2 (fD (Blk.new w1 [.int .i64 m,.int .i64 n] 2)));rw [World.size_alloc] at LT1;clear hb;go_wp2_with fail;refine LT1.out.mono ?_;rintro e w2 ⟨hb2,rfl⟩;go_wp2_with fail;go_ret3;exact RetAl.text _ hb2 HB.out HR.out HLX.out
def nY:List UInt8:=[114,111,117,110,100,115]
theorem zz:fz nY (fun d=>jE (uT d.P.toNat d.T.toNat d.V) d):=by
 intro w b d x lo hlo hlx hE hok hca hB hR0;dsimp only;have hR:DRd w w.heap.size d x:=hR0.mono (Nat.le_of_lt hB.lt);obtain ⟨⟨a1,a2⟩,⟨b1,b2⟩,⟨v1,v2⟩,⟨l1,l2⟩,⟨k1,k2⟩,f1,f2⟩:=DD.ok_len hok;obtain ⟨hg,hv,hc,ht⟩:=DD.ok_parts hok;obtain ⟨R,C,A,B,dP,dT,V,U,N,W,K,F⟩:=d;obtain ⟨P,T,e1,e2,p1,p6,t1,t8,lV,-⟩:=db hv;dsimp only at e1 e2 p1 p6 t1 t8 lV;subst e1 e2;have LG:=Oi (wJ w P T x.v x.cv V hv hR.r.V);unfold jE;dsimp only [Int.toNat_natCast];have ht8:T≤8:=t8;have HT:=Oi hE.tab;obtain ⟨ye,hye⟩:∃ y,y=uT P T V:=⟨_,rfl⟩;rw [← hye];have HY:=Oi hye;clear hye;obtain ⟨z0,z1,z2,z3,z4,z5,z6,z7,z8,z9,z10,z11⟩:=af hB
 try dsimp only at z0 z1 z2 z3 z4 z5 z6 z7 z8 z9 z10 z11
 have HB:=Oi hB;have HLX:=Oi hlx;have HLO:=Oi hlo;have HR:=Oi hR;have HR0:=Oi hR0;have HE:=Oi hE;clear hlx hlo hB hR hE hok hca a1 a2 b1 b2 v1 v2 l1 l2 k1 k2 f1 f2 hg hv hc ht hR0 p1 p6 t1 t8 lV;obtain ⟨s,hs⟩:∃ s:ByteArray,s=bs nY:=⟨_,rfl⟩;have t_game:(s.toList == [103,97,109,101])=false:=by rw [hs,ab];rfl
 have t_values:(s.toList == [118,97,108,117,101,115])=false:=by rw [hs,ab];rfl
 have t_crowd:(s.toList == [99,114,111,119,100])=false:=by rw [hs,ab];rfl
 have t_turns:(s.toList == [116,117,114,110,115])=false:=by rw [hs,ab];rfl
 have t_turn:(s.toList == [116,117,114,110])=false:=by rw [hs,ab];rfl
 have t_pure:(s.toList == [112,117,114,101])=false:=by rw [hs,ab];rfl
 have t_pareto:(s.toList == [112,97,114,101,116,111])=false:=by rw [hs,ab];rfl
 have t_left:(s.toList == [108,101,102,116])=false:=by rw [hs,ab];rfl
 have t_safe:(s.toList == [115,97,102,101])=false:=by rw [hs,ab];rfl
 have t_rounds:(s.toList == [114,111,117,110,100,115])=true:=by rw [hs,ab];rfl
 rw [← hs];clear hs
 go_enter Tryz.func98,Tryz.ntmps98;go_wp2_with fail;refine LG.out.mono ?_;rintro e w1 ⟨res,a,c,hE',hl,rfl,hr,hb⟩;obtain rfl:ye=res:=by rw [HY.out];exact JS hE'
 have LT1:=Oi (ti HT.out ye (by omega) _ hb a c hr)
 clear hr hb hE' hl ht8;go_wp2_with fail;refine LT1.out.mono ?_;rintro e w2 ⟨hb2,rfl⟩;go_wp2_with fail;go_ret3;exact RetAl.text _ hb2 HB.out HR.out HLX.out
theorem yO (l:List UInt8) (hl:l∉[[103,97,109,101],[118,97,108,117,101,115],[99,114,111,119,100],[116,117,114,110,115],[116,117,114,110],[112,117,114,101],[112,97,114,101,116,111],[108,101,102,116],[115,97,102,101],[114,111,117,110,100,115],[112,114,111,100,117,99,116],[112,114,105,99,101],[116,111,108,108,115],[97,103,114,101,101]]):fz l (fun _=>none):=by
 intro w b d x lo hlo hlx hE hok hca hB hR;clear hlx hlo hE hok hca hR hB;obtain ⟨s,hs⟩:∃ s:ByteArray,s=bs l:=⟨_,rfl⟩;have t_game:(s.toList == [103,97,109,101])=false:=by rw [hs,ab];exact beq_eq_false_iff_ne.2 (fun e=>hl (by rw [e];decide))
 have t_values:(s.toList == [118,97,108,117,101,115])=false:=by rw [hs,ab];exact beq_eq_false_iff_ne.2 (fun e=>hl (by rw [e];decide))
 have t_crowd:(s.toList == [99,114,111,119,100])=false:=by rw [hs,ab];exact beq_eq_false_iff_ne.2 (fun e=>hl (by rw [e];decide))
 have t_turns:(s.toList == [116,117,114,110,115])=false:=by rw [hs,ab];exact beq_eq_false_iff_ne.2 (fun e=>hl (by rw [e];decide))
 have t_turn:(s.toList == [116,117,114,110])=false:=by rw [hs,ab];exact beq_eq_false_iff_ne.2 (fun e=>hl (by rw [e];decide))
 have t_pure:(s.toList == [112,117,114,101])=false:=by rw [hs,ab];exact beq_eq_false_iff_ne.2 (fun e=>hl (by rw [e];decide))
 have t_pareto:(s.toList == [112,97,114,101,116,111])=false:=by rw [hs,ab];exact beq_eq_false_iff_ne.2 (fun e=>hl (by rw [e];decide))
 have t_left:(s.toList == [108,101,102,116])=false:=by rw [hs,ab];exact beq_eq_false_iff_ne.2 (fun e=>hl (by rw [e];decide))
 have t_safe:(s.toList == [115,97,102,101])=false:=by rw [hs,ab];exact beq_eq_false_iff_ne.2 (fun e=>hl (by rw [e];decide))
 have t_rounds:(s.toList == [114,111,117,110,100,115])=false:=by rw [hs,ab];exact beq_eq_false_iff_ne.2 (fun e=>hl (by rw [e];decide))
 have t_product:(s.toList == [112,114,111,100,117,99,116])=false:=by rw [hs,ab];exact beq_eq_false_iff_ne.2 (fun e=>hl (by rw [e];decide))
 have t_price:(s.toList == [112,114,105,99,101])=false:=by rw [hs,ab];exact beq_eq_false_iff_ne.2 (fun e=>hl (by rw [e];decide))
 have t_tolls:(s.toList == [116,111,108,108,115])=false:=by rw [hs,ab];exact beq_eq_false_iff_ne.2 (fun e=>hl (by rw [e];decide))
 have t_agree:(s.toList == [97,103,114,101,101])=false:=by rw [hs,ab];exact beq_eq_false_iff_ne.2 (fun e=>hl (by rw [e];decide))
 rw [← hs];clear hs hl
 go_enter Tryz.func98,Tryz.ntmps98;go_wp2_with fail;go_ret3;exact RetAl.what _ _ (Touch.refl _ _ _)
def dd (T:Nat) (xs out:List Int) (i:Nat):Nat→Int
 | 0=>-1
 | k+1=>if out.getD k 0<0∧(dd T xs out i k<0∨iy T xs i (dd T xs out i k).toNat<iy T xs i k) then (k:Int) else dd T xs out i k
theorem zQ (T:Nat) (xs out:List Int) (i:Nat):∀ k:Nat,-1≤dd T xs out i k∧dd T xs out i k<(k:Int)∨k=0∧dd T xs out i k = -1
 | 0=>.inr ⟨rfl,rfl⟩
 | k+1=>by
   have ih:=zQ T xs out i k;rw [dd]
   split <;> omega
theorem ug (T:Nat) (xs out:List Int) (i k:Nat):-1≤dd T xs out i k∧(0≤dd T xs out i k→dd T xs out i k<(k:Int)):=by
 have:=zQ T xs out i k;omega
theorem ql (T:Nat) (xs out:List Int) (i:Nat):∀ k:Nat,(∃ j,j<k∧out.getD j 0<0)→0≤dd T xs out i k
 | 0,⟨_,h,_⟩=>by omega
 | k+1,⟨j,hj,hf⟩=>by
   rw [dd]
   split
   · omega
   · rename_i hn
     by_cases hjk:j=k
     · subst hjk
       have:¬ (dd T xs out i j<0∨iy T xs i (dd T xs out i j).toNat<iy T xs i j):=fun h=>hn ⟨hf,h⟩
       omega
     · exact ql T xs out i k ⟨j,by omega,hf⟩
theorem zR (T:Nat) (xs out:List Int) (i:Nat):∀ k:Nat,0≤dd T xs out i k→out.getD (dd T xs out i k).toNat 0<0
 | 0,h=>by rw [dd] at h;omega
 | k+1,h=>by
   rw [dd] at h ⊢
   split
   · rename_i hy
     rw [Int.toNat_natCast];exact hy.1
   · rename_i hn
     rw [if_neg hn] at h;exact zR T xs out i k h
def cJ (T:Nat) (xs ord:List Int):Nat→List Int
 | 0=>List.replicate T (-1)
 | n+1=>(cJ T xs ord n).set (dd T xs (cJ T xs ord n) (ord.getD (n % ord.length) 0).toNat T).toNat (ord.getD (n % ord.length) 0)
theorem lk (T:Nat) (xs ord:List Int):∀ n,(cJ T xs ord n).length=T
 | 0=>by rw [cJ,List.length_replicate]
 | n+1=>by rw [cJ,List.length_set,lk T xs ord n]
def pd (out:List Int):Nat:=out.countP fun x=>decide (x<0)
theorem xE {out:List Int} (h:0<pd out):∃ j,j<out.length∧out.getD j 0<0:=by
 obtain ⟨x,hx,hp⟩:=List.countP_pos_iff.1 h;obtain ⟨j,hj,rfl⟩:=List.getElem_of_mem hx;refine ⟨j,hj,?_⟩
 rw [List.getD,List.getElem?_eq_getElem hj,Option.getD_some];exact of_decide_eq_true hp
theorem ud {T:Nat} {xs ord:List Int} (ho:0<ord.length) (h0:∀ x∈ord,0≤x):∀ n,n≤T→pd (cJ T xs ord n)+n=T
 | 0,_=>by rw [cJ];simp [pd,List.countP_replicate]
 | n+1,hn=>by
   have ih:=ud (T:=T) (xs:=xs) ho h0 n (by omega)
   have hl:=lk T xs ord n;have hfp:0<pd (cJ T xs ord n):=by
    generalize pd (cJ T xs ord n)=q at *
    omega
   obtain ⟨j,hj,hf⟩:=xE hfp;rw [hl] at hj;have hb:=ql T xs (cJ T xs ord n) (ord.getD (n % ord.length) 0).toNat T ⟨j,hj,hf⟩;have hb2:=zR T xs (cJ T xs ord n) (ord.getD (n % ord.length) 0).toNat T hb;have hb3:=(ug T xs (cJ T xs ord n) (ord.getD (n % ord.length) 0).toNat T).2 hb;have hnn:0≤ord.getD (n % ord.length) 0:=by
    have hlt:n % ord.length<ord.length:=Nat.mod_lt _ ho;rw [List.getD,List.getElem?_eq_getElem hlt,Option.getD_some];exact h0 _ (List.getElem_mem hlt)
   rw [cJ];generalize ord.getD (n % ord.length) 0=p at *
   generalize dd T xs (cJ T xs ord n) p.toNat T=q at *
   generalize cJ T xs ord n=out at *
   have hq:q.toNat<out.length:=by omega
   unfold pd at *
   rw [List.countP_set hq];rw [List.getD,List.getElem?_eq_getElem hq,Option.getD_some] at hb2;rw [if_pos (decide_eq_true hb2),if_neg (by rw [decide_eq_false (by omega)];decide)]
   have:0<out.countP fun x=>decide (x<0):=List.countP_pos_iff.2 ⟨out[q.toNat],List.getElem_mem hq,decide_eq_true hb2⟩
   omega
theorem Dr {T:Nat} {xs ord:List Int} (ho:0<ord.length) (h0:∀ x∈ord,0≤x) {n:Nat} (hn:n<T):∃ q:Nat,q<T∧dd T xs (cJ T xs ord n) (ord.getD (n % ord.length) 0).toNat T=(q:Int):=by
 have h:=ud (T:=T) (xs:=xs) ho h0 n (by omega)
 have hfp:0<pd (cJ T xs ord n):=by
  generalize pd (cJ T xs ord n)=q at *
  omega
 obtain ⟨j,hj,hf⟩:=xE hfp;rw [lk] at hj;have hb:=ql T xs (cJ T xs ord n) (ord.getD (n % ord.length) 0).toNat T ⟨j,hj,hf⟩;have hb3:=(ug T xs (cJ T xs ord n) (ord.getD (n % ord.length) 0).toNat T).2 hb;exact ⟨(dd T xs (cJ T xs ord n) (ord.getD (n % ord.length) 0).toNat T).toNat,by omega,by omega⟩
def qX (P T:Nat) (xs ord:List Int):Option (List Int):=if cU ord 1 8 0 ((P:Int) - 1)=true then some (cJ T xs ord T) else none
theorem Jb {ord:List Int} {P:Nat} (h:cU ord 1 8 0 ((P:Int) - 1)=true):1≤ord.length∧ord.length≤8∧∀ x∈ord,0≤x∧x<(P:Int):=by
 rw [mD] at h;obtain ⟨⟨h1,h2⟩,h3⟩:=h;exact ⟨by omega,by omega,fun x hx=>by have:=h3 x hx;omega⟩
theorem zk (w:World) (P T:Nat) (aV:Option Addr) (cV:Nat) (xV:List Int) (aO:Option Addr) (cO:Nat) (ord:List Int) (hG:bM P T xV=true) (hV:Rd w w.heap.size aV (ae xV)) (hO:Rd w w.heap.size aO (ae ord)) (lO:ord.length≤1048576) :
 Calls Tryz.prog 198 #[.agg #[.int .i64 P,.int .i64 T,.slice aV xV.length cV],.slice aO ord.length cO] w (sD (qX P T xV ord) w):=by
 have hG':=hG;obtain ⟨P',T',e1,e2,p1,p6,t1,t8,lV,hb⟩:=db hG';obtain rfl:P=P':=Int.ofNat.inj e1;obtain rfl:T=T':=Int.ofNat.inj e2;have hPT:P * T≤48:=Nat.le_trans (Nat.mul_le_mul p6 t8) (by decide)
 have KG:=Oi (Blk.new w [.int .i64 P,.int .i64 T,.slice aV xV.length cV] 28);have B1:=Oi (ai w (.cells #[.int .i64 P,.int .i64 T,.slice aV xV.length cV] 28));have LV:=Oi (fun v (hbl:Below w.heap.size w v)=>eu v P T aV cV xV (hV.to hbl) (by omega))
 have LM:=Oi (fun v (hbl:Below w.heap.size w v)=>ie v aO cO ord 1 8 0 ((P:Int) - 1) (hO.to hbl) (by omega))
 have LN:=Oi (fun v=>Be v T t1 (by omega))
 have LO:=Oi (fun v (hbl:Below w.heap.size w v) (i t:Nat) (hi:i<P) (ht:t<T)=>qe v P T i t aV cV xV (hV.to hbl) (by rw [lV];exact dH hi ht) (by omega))
 have HO:=Oi hO;rw [hG] at LV;have HE:Hid (qX P T xV ord=if cU ord 1 8 0 ((P:Int) - 1)=true then some (cJ T xV ord T) else none):=rfl;have HMy:=Oi (fun h=>Jb (ord:=ord) (P:=P) h)
 clear hV hO hG hG' lV hb e1 e2
 cases hm:cU ord 1 8 0 ((P:Int) - 1) with
 | false =>
   rw [hm] at LM HE;rw [if_neg (by decide)] at HE
   rw [HE.out];clear HE HMy hm
   go_enter Tryz.func198,Tryz.ntmps198;go_wp2_with fail;refine (LV.out _ B1.out).mono ?_;rintro e w2 ⟨rfl,hb2⟩;have BB:=Oi (aa B1.out hb2);have K2:=KG.out.same hb2;have q0:w2.cell? ⟨w.heap.size,0,none⟩=some (.int .i64 P):=K2.cell 0;have LM2:=Oi (LM.out _ BB.out);clear hb2 K2 LV LM;go_wp2_with fail;refine LM2.out.mono ?_;rintro e w3 ⟨rfl,rfl⟩;go_wp2_with fail
   go_ret2
   exact ⟨BB.out,rfl⟩
 | true =>
   obtain ⟨l1,l8,hord⟩:=HMy.out hm;rw [hm] at LM HE;rw [if_pos rfl] at HE;rw [HE.out];have HBst:=Oi (fun n (hn:n<T)=>Dr (T:=T) (xs:=xV) (ord:=ord) (by omega) (fun x hx=>(hord x hx).1) hn)
   have HLen:=Oi (lk T xV ord);have HSt:Hid (∀ n,cJ T xV ord (n+1)=(cJ T xV ord n).set (dd T xV (cJ T xV ord n) (ord.getD (n % ord.length) 0).toNat T).toNat (ord.getD (n % ord.length) 0)):=fun n=>rfl
   have H0:Hid (cJ T xV ord 0=List.replicate T (-1)):=rfl;have HBd:=Oi (fun out i k=>ug T xV out i k)
   have HBs:Hid (∀ out i k,dd T xV out i (k+1)=if out.getD k 0<0∧(dd T xV out i k<0∨iy T xV i (dd T xV out i k).toNat<iy T xV i k) then (k:Int) else dd T xV out i k):=fun out i k=>rfl
   have HB0:Hid (∀ out i,dd T xV out i 0 = -1):=fun out i=>rfl
   have HOrd:=Oi (fun k (hk:k<ord.length)=>hord _ (show ord.getD k 0∈ord by rw [List.getD,List.getElem?_eq_getElem hk];exact List.getElem_mem hk))
   clear HE HMy hm hord
   go_enter Tryz.func198,Tryz.ntmps198;go_wp2_with fail;refine (LV.out _ B1.out).mono ?_;rintro e w2 ⟨rfl,hb2⟩;have BB:=Oi (aa B1.out hb2);have K2:=KG.out.same hb2;have HK2:=Oi K2;have q0:w2.cell? ⟨w.heap.size,0,none⟩=some (.int .i64 P):=K2.cell 0;have q1:w2.cell? ⟨w.heap.size,1,none⟩=some (.int .i64 T):=K2.cell 1;have LM2:=Oi (LM.out _ BB.out);clear hb2 K2 LV LM KG;go_wp2_with fail;refine LM2.out.mono ?_;rintro e w3 ⟨rfl,rfl⟩;go_wp2_with fail;refine (LN.out _).mono ?_;rintro e w4 ⟨rfl,kO,hb4⟩;have hgl:=kO.lt;obtain ⟨g,hg⟩:∃ g,g=w2.heap.size+1:=⟨_,rfl⟩;have hK2lt:=HK2.out.lt;rw [← hg] at kO hgl ⊢;have hg0:w.heap.size<g:=by omega
   have HK4:=Oi (HK2.out.same hb4);have HB4:=Oi (aa BB.out hb4);have HKO:=Oi kO;clear q0 q1 LM2 LN kO hb4 HK2 BB hK2lt hg;go_wp2_with fail
   go_loopw [28] (fun nv wr=>∃ n:Nat,n≤T∧nv=.int .i64 n∧Hid (Blk wr g (ae (cJ T xV ord n)) 2)∧Hid (Touch w4 wr g (g+1))) (fun nv _=>T - (intOf nv).toNat)
   case atStart=>exact ⟨0,Nat.zero_le _,rfl,by rw [Hid,H0.out];exact HKO.out,Touch.refl _ _ _⟩
   case round =>
    clear HKO H0;obtain ⟨n,hn,rfl,hK,hT⟩:=hrel;have n0:(0:Int)≤(n:Int):=Int.natCast_nonneg _;have hts:=hT.out.size;have Bw:=Oi (aI HB4.out hT.out (by omega) (by have:=HK4.out.lt;omega))
    by_cases hlt:n<T
    · have hni:(n:Int)<(T:Int):=by omega
      obtain ⟨J,hJ⟩:∃ J,J=n % ord.length:=⟨_,rfl⟩;have hJl:J<ord.length:=by rw [hJ];exact Nat.mod_lt _ (by omega)
      have hJi:(n:Int) % (ord.length:Int)=(J:Int):=by rw [hJ];exact (Int.natCast_emod n ord.length).symm
      have j0:(0:Int)≤(J:Int):=Int.natCast_nonneg _;have hJil:(J:Int)<(ord.length:Int):=by omega
      have hol0:¬ (ord.length:Int)=0:=by omega
      have holp:(0:Int)<(ord.length:Int):=by omega
      obtain ⟨bO,oO,rfl,hbO,hcO⟩:=(HO.out.to Bw.out).at hJl;have c1:=hcO J hJl;obtain ⟨p,hp⟩:∃ p:Nat,ord.getD J 0=(p:Int):=⟨(ord.getD J 0).toNat,by have:=(HOrd.out J hJl).1;omega⟩;have hpP:p<P:=by have:=(HOrd.out J hJl).2;omega
      have HST:=HSt.out n;obtain ⟨q,hqT,hq⟩:=HBst.out n hlt;rw [← hJ,hp,Int.toNat_natCast] at HST hq;rw [hp] at c1;have p0:(0:Int)≤(p:Int):=Int.natCast_nonneg _;have HL:=HLen.out n;obtain ⟨out,hout⟩:∃ o,o=cJ T xV ord n:=⟨_,rfl⟩;rw [← hout] at HST hq HL hK;rw [hq,Int.toNat_natCast] at HST;have HSTh:=Oi HST;have HLh:=Oi HL;have HQ:=Oi hq;have Bs:=Oi (HBs.out out p);have Bd:=Oi (HBd.out out p);have B00:=Oi (HB0.out out p);obtain ⟨wo,hwo⟩:∃ W:World,W=wr:=⟨_,rfl⟩;subst hwo;have hwog:g<wo.heap.size:=hK.out.lt;clear hJ hp HST HL hq hout hcO HSt HBst HBs HBd HB0 HLen HOrd;go_wp2_with fail;rw [hJi];clear hJi c1 hol0 holp hJil j0
      go_loopw [40,9] (fun kv bv wr=>∃ k:Nat,k≤T∧kv=.int .i64 k∧bv=.int .i64 (dd T xV out p k)∧Hid (Below wo.heap.size wo wr)) (fun kv _ _=>T - (intOf kv).toNat)
      case atStart=>exact ⟨0,Nat.zero_le _,rfl,by rw [B00.out],Below.refl _ _⟩
      case round =>
       clear B00;obtain ⟨k,hk,rfl,rfl,hw⟩:=hrel;have k0:(0:Int)≤(k:Int):=Int.natCast_nonneg _
       by_cases hkl:k<T
       · have hki:(k:Int)<(T:Int):=by omega
         have Bk:=Oi (aa Bw.out hw.out);have Kr:=hK.out.same hw.out;have c2:wr.cell? ⟨g,k,none⟩=some (.int .i64 (out.getD k 0)):=by rw [Kr.cell];exact eJ _ _ (by rw [HLh.out];exact hkl)
         have hs:=Bs.out k;have hd:=Bd.out k;have KV:=(HK4.out.touch hT.out (.inl (by omega))).same hw.out
         have HKV:=Oi KV;have LO1:=Oi (fun v (hbl:Below w.heap.size w v) (t:Nat) ht=>LO.out v hbl p t hpP ht)
         obtain ⟨x,hx⟩:∃ x,x=out.getD k 0:=⟨_,rfl⟩;obtain ⟨y,hy⟩:∃ y,y=dd T xV out p k:=⟨_,rfl⟩;rw [← hx] at c2 hs;rw [← hy] at hs hd ⊢;clear KV hx hy Kr
         cases tx:decide (x<0) with
         | false =>
           have hx0:¬ x<0:=of_decide_eq_false tx;have hn:Hid (dd T xV out p (k+1)=y):=by rw [Hid,hs,if_neg (fun h=>hx0 h.1)]
           clear hs hd;go_wp2_with fail;refine bg (by kernel_rfl) (by kernel_rfl) ?_
           repeat (go_big_quiet_step (fail))
           refine wpQuiet_nil ?_
           rintro wq ⟨⟨_,hbq⟩,rfl⟩;have BQ:=Oi (aa hw.out hbq);clear hbq hw c2;go_wp2_with fail;go_roundw
           case rel=>exact ⟨k+1,by omega,by go_num,by rw [hn.out],BQ.out⟩
           case measure=>simp [intOf];omega
         | true =>
           have hx0:x<0:=of_decide_eq_true tx
           cases ty:decide (y<0) with
           | true =>
             have hy0:y<0:=of_decide_eq_true ty;have hn:Hid (dd T xV out p (k+1)=(k:Int)):=by rw [Hid,hs,if_pos ⟨hx0,.inl hy0⟩]
             clear hs hd;go_wp2_with fail;refine bg (by kernel_rfl) (by kernel_rfl) ?_
             repeat (go_big_quiet_step (fail))
             refine wpQuiet_nil ?_
             rintro wq ⟨⟨_,hbq⟩,rfl⟩;have BQ:=Oi (aa hw.out hbq);clear hbq hw c2;go_wp2_with fail;go_roundw
             case rel=>exact ⟨k+1,by omega,by go_num,by rw [hn.out],BQ.out⟩
             case measure=>simp [intOf];omega
           | false =>
             have hy0:¬ y<0:=of_decide_eq_false ty;obtain ⟨z,rfl⟩:∃ z:Nat,y=(z:Int):=⟨y.toNat,by omega⟩;have hzk:z<k:=by have:=hd.2 (by omega);omega
             have hzT:z<T:=by omega
             rw [Int.toNat_natCast] at hs;have HF:Hid (∀ z9:Later wr,(z9.w'.cell? ⟨w.heap.size,0,none⟩=some (.int .i64 P)∧z9.w'.cell? ⟨w.heap.size,1,none⟩=some (.int .i64 T)∧z9.w'.cell? ⟨w.heap.size,2,none⟩=some (.slice aV xV.length cV))∧Below w.heap.size w z9.w'):=fun z9=>⟨⟨(HKV.out.same z9.h).cell 0,(HKV.out.same z9.h).cell 1,(HKV.out.same z9.h).cell 2⟩,aa Bk.out z9.h⟩
             have D0:∀ z9:Later wr,z9.w'.cell? ⟨w.heap.size,0,none⟩=some (.int .i64 P):=fun z9=>(HF.out z9).1.1
             have D1:∀ z9:Later wr,z9.w'.cell? ⟨w.heap.size,1,none⟩=some (.int .i64 T):=fun z9=>(HF.out z9).1.2.1
             have D2:∀ z9:Later wr,z9.w'.cell? ⟨w.heap.size,2,none⟩=some (.slice aV xV.length cV):=fun z9=>(HF.out z9).1.2.2
             have LA:=Oi (fun v hbl=>LO1.out v hbl k hkl)
             have LB:=Oi (fun v hbl=>LO1.out v hbl z hzT)
             generalize iy T xV p k=vk at *
             generalize iy T xV p z=vz at *
             have z0:(0:Int)≤(z:Int):=Int.natCast_nonneg _
             cases tg:decide (vz<vk) with
             | true =>
               have hn:Hid (dd T xV out p (k+1)=(k:Int)):=by rw [Hid,hs,if_pos ⟨hx0,.inr (of_decide_eq_true tg)⟩]
               clear hs hd;go_wp2_with fail;refine bg (by kernel_rfl) (by kernel_rfl) ?_
               repeat (go_big_quiet_step (first | (go_at_call 196;with_reducible exact dz (LA.out _ (HF.out _).2)) | (go_at_call 196;with_reducible exact dz (LB.out _ (HF.out _).2))))
               refine wpQuiet_nil ?_
               rintro wq ⟨⟨_,hbq⟩,rfl⟩;have BQ:=Oi (aa hw.out hbq);clear hbq hw c2 D0 D1 D2;go_wp2_with fail;go_roundw
               case rel=>exact ⟨k+1,by omega,by go_num,by rw [hn.out],BQ.out⟩
               case measure=>simp [intOf];omega
             | false =>
               have hn:Hid (dd T xV out p (k+1)=(z:Int)):=by rw [Hid,hs,if_neg (fun h=>h.2.elim (fun h=>hy0 h) (fun h=>of_decide_eq_false tg h))]
               clear hs hd;go_wp2_with fail;refine bg (by kernel_rfl) (by kernel_rfl) ?_
               repeat (go_big_quiet_step (first | (go_at_call 196;with_reducible exact dz (LA.out _ (HF.out _).2)) | (go_at_call 196;with_reducible exact dz (LB.out _ (HF.out _).2))))
               refine wpQuiet_nil ?_
               rintro wq ⟨⟨_,hbq⟩,rfl⟩;have BQ:=Oi (aa hw.out hbq);clear hbq hw c2 D0 D1 D2;go_wp2_with fail;go_roundw
               case rel=>exact ⟨k+1,by omega,by go_num,by rw [hn.out],BQ.out⟩
               case measure=>simp [intOf];omega
       · obtain rfl:k=T:=by omega
         rw [HQ.out];have q0:(0:Int)≤(q:Int):=Int.natCast_nonneg _;have hqi:(q:Int)<(k:Int):=by omega
         have Kr:=hK.out.same hw.out;have c2:wr.cell? ⟨g,q,none⟩=some (.int .i64 (out.getD q 0)):=by rw [Kr.cell];exact eJ _ _ (by rw [HLh.out];exact hqT)
         have c3:=Kr.free q;have HN:Hid (Blk (wr.setCell ⟨g,q,none⟩ (.int .i64 p)) g (ae (cJ k xV ord (n+1))) 2):=by
          rw [HSTh.out];exact Kr.setI q (p:Int)
         have HT2:=Oi ((hT.out.trans (Below.touch hw.out g (g+1))).trans (au wr g q (.int .i64 p)));generalize out.getD q 0=z3 at *
         clear Kr hK hT hw;go_wp2_with fail;go_roundw
         case rel=>exact ⟨n+1,by omega,by go_num,HN,HT2⟩
         case measure=>simp [intOf];omega
    · obtain rfl:n=T:=by omega
      have HL:=Oi (HLen.out n);have HRd:=Oi (hK.out.rd hK.out.lt);clear hK hT;go_wp2_with fail
      go_ret2
      exact ⟨Bw.out,_,n,by rw [HL.out];rfl,HRd.out⟩
theorem qn (w:World) (U R:Int) (a2:Option Addr) (c2:Nat) (x2:List Int) (a3:Option Addr) (c3:Nat) (x3:List Int) (a:Option Addr) (c:Nat) (ch:List Int) (h:RdCrowd w w.heap.size a2 x2 a3 x3) (hl2:x2.length≤1048576) (hl3:x3.length≤1048576) (g:Rd w w.heap.size a (ae ch)) (hl:ch.length≤1048576) :
 Calls Tryz.prog 244 #[.agg #[.int .i64 U,.int .i64 R,.slice a2 x2.length c2,.slice a3 x3.length c3],.slice a ch.length c] w fun e w'=>e=.returned (.bool (jh ⟨U,R,x2,x3⟩ ch))∧Below w.heap.size w w':=by
 have LV:=Oi (fun w' hb=>dJ w' U R a2 c2 x2 a3 c3 x3 (h.to hb) hl2 hl3)
 have LM:=Oi (fun w' hb=>ie w' a c ch U U 0 ((x2.length:Int) - 1) (g.to hb) (by omega))
 cases t1:bu ⟨U,R,x2,x3⟩ with
 | false =>
   have HF:Hid (jh ⟨U,R,x2,x3⟩ ch=false):=by simp [Hid,jh,t1]
   rw [t1] at LV;clear h g
   go_enter Tryz.func244,Tryz.ntmps244;go_wp2_with fail;refine (LV.out _ (ai _ _)).mono ?_;rintro e w1 ⟨rfl,hb1⟩;have B1:=aa (ai w _) hb1;clear hb1;go_wp2_with fail;go_ret;exact ⟨ar HF.out.symm,B1⟩
 | true =>
   have HF:Hid (jh ⟨U,R,x2,x3⟩ ch=cU ch U U 0 ((x2.length:Int) - 1)):=by simp [Hid,jh,t1]
   rw [t1] at LV;clear h g
   go_enter Tryz.func244,Tryz.ntmps244;go_wp2_with fail;refine (LV.out _ (ai _ _)).mono ?_;rintro e w1 ⟨rfl,hb1⟩;have kA:=(Blk.new w [.int .i64 U,.int .i64 R,.slice a2 x2.length c2,.slice a3 x3.length c3] 30).same hb1;have B1:=aa (ai w (.cells #[.int .i64 U,.int .i64 R,.slice a2 x2.length c2,.slice a3 x3.length c3] 30)) hb1;have q0:=kA.cell 0;have q2:=kA.cell 2;simp only [List.getElem?_cons_zero,List.getElem?_cons_succ] at q0 q2;have L2:=Oi (LM.out _ B1);clear hb1 kA
   go_wp2_with (go_at_call 75;refine L2.out.mono ?_;rintro e w' ⟨rfl,rfl⟩)
   go_ret;exact ⟨ar HF.out.symm,B1⟩
end Go.Proofs.YtbknhgapjjaelaaGreatDoor
