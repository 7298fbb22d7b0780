/-
  Part 47 of what the proof stands on: lemmas and contracts, each with its conditions ahead of the colon.
-/
import Derived.Test.YtbknhgapjjaelaaGreatDoorPj01
import Derived.Deep.RegionHeld3
import Derived.Deep.DeepCutAuto
import Derived.Deep.CutBlock
import Derived.Deep.RegionLaw
import Derived.Test.YtbknhgapjjaelaaGreatDoorPj05
import Derived.Test.YtbknhgapjjaelaaGreatDoorPj07
import Derived.Test.YtbknhgapjjaelaaGreatDoorPj09
import Derived.Test.YtbknhgapjjaelaaGreatDoorPj20
import Derived.Test.YtbknhgapjjaelaaGreatDoorPj34
import Derived.Test.YtbknhgapjjaelaaGreatDoorPj40
import Derived.Test.YtbknhgapjjaelaaGreatDoorPj41
import Derived.Test.YtbknhgapjjaelaaGreatDoorPj42
import Derived.Test.YtbknhgapjjaelaaGreatDoorPj46
set_option maxRecDepth 100000
set_option maxHeartbeats 32000000
namespace Go.Proofs.YtbknhgapjjaelaaGreatDoor
set_option linter.unusedVariables false
set_option linter.unusedSimpArgs false
open Go.RowKit
def jC (xs ys:List Nat) (k:Nat):Bool:=(List.range k).all fun i=>gy (xs.getD i 0) (ys.getD i 0)
theorem F9 (xs ys:List Nat) (k:Nat):jC xs ys (k+1)=(jC xs ys k && gy (xs.getD k 0) (ys.getD k 0)):=by simp [jC,List.range_succ]
def re (xs ys:List Nat):Bool:=decide (xs.length=ys.length) && jC xs ys xs.length
theorem Ns {xs ys:List Nat} {k:Nat} (hk:k<xs.length) (h:gy (xs.getD k 0) (ys.getD k 0)=false):re xs ys=false:=by
 have:jC xs ys xs.length=false:=by
  unfold jC;rw [List.all_eq_false];exact ⟨k,List.mem_range.2 hk,by rw [h];simp⟩
 simp [re,this]
def kS (R C P T U N:Int) (xA xB xV xW xC:List Int) (xT:List Nat) (R' C' P' T' U' N':Int) (yA yB yV yW yC:List Int) (yT:List Nat):Bool :=
 fb R C xA xB R' C' yA yB && ml P T xV P' T' yV && fb U N xW xC U' N' yW yC && re xT yT
theorem Js {xs:List Nat} (h:∀ v∈xs,v<4294967296) {k:Nat} (hk:k<xs.length):xs.getD k 0<4294967296:=h _ (by simp only [List.getD,List.getElem?_eq_getElem hk];exact List.getElem_mem _)
theorem CJ (args:Array Value) (w:World):(callFunc 40 args).run Tryz.prog w=.ok (.enter 40 args) w:=by kernel_rfl
theorem yX (w:World) (a b:Option Addr) (c d:Nat) (xs ys:List Nat) (h:Rd w w.heap.size a (dx xs)) (g:Rd w w.heap.size b (dx ys)) (lx:xs.length≤1048576) (ly:ys.length≤1048576) (wx:∀ v∈xs,v<4294967296) (wy:∀ v∈ys,v<4294967296) :
 Calls Tryz.prog 39 #[.slice a xs.length c,.slice b ys.length d,.func (.func 40) #[] #[]] w fun e w'=>e=.returned (.bool (re xs ys))∧w=w':=by
 have hK:=CJ
 by_cases hlen:xs.length=ys.length
 · have hb1:((xs.length:Int) != (ys.length:Int))=false:=by simp [hlen]
   have HE:Hid (re xs ys=jC xs ys xs.length):=by simp [Hid,re,hlen]
   have HN:Hid (∀ k,k<xs.length→gy (xs.getD k 0) (ys.getD k 0)=false→re xs ys=false):=fun k hk=>Ns hk
   have HL:=Oi hlen;have HX:=Oi h;have HY:=Oi g;have WX:=Oi wx;have WY:=Oi wy;clear h g wx wy hlen
   go_enter Tryz.func39,Tryz.ntmps39;go_wp2_with fail
   go_loop [17] (fun i=>∃ k:Nat,k≤xs.length∧i=.int .i64 k∧Hid (jC xs ys k=true)) (fun i=>xs.length - (intOf i).toNat)
   case atStart=>exact ⟨0,Nat.zero_le _,rfl,rfl⟩
   case round =>
    obtain ⟨k,hk,rfl,hK2⟩:=hrel
    by_cases hlt:k<xs.length
    · have hlt2:k<ys.length:=by have:=HL.out;omega
      obtain ⟨b1,o1,rfl,_,hc1⟩:=HX.out.atF hlt;obtain ⟨b2,o2,rfl,_,hc2⟩:=HY.out.atF hlt2;have c1:=hc1 k hlt;have c2:=hc2 k hlt2;have L:=Oi (fun v=>xe (xs.getD k 0) (ys.getD k 0) (Js WX.out hlt) (Js WY.out hlt2) v)
      have HS:Hid (jC xs ys (k+1)=(jC xs ys k && gy (xs.getD k 0) (ys.getD k 0))):=F9 xs ys k;have HNk:=Oi (HN.out k hlt);clear hc1 hc2 HX HY;generalize xs.getD k 0=x at *
      generalize ys.getD k 0=y at *
      cases t:gy x y with
      | true =>
        rw [t] at L;have HS2:Hid (jC xs ys (k+1)=true):=by rw [Hid,HS.out,hK2.out,t];rfl
        clear t;go_wp2_with fail;refine (L.out _).mono ?_;rintro e w2 ⟨rfl,rfl⟩;go_wp2_with fail
        go_round
        case rel=>exact ⟨k+1,by omega,by go_num,HS2⟩
        case measure=>simp [intOf];omega
      | false =>
        rw [t] at L;have HF:=Oi (HNk.out t);clear t;go_wp2_with fail;refine (L.out _).mono ?_;rintro e w2 ⟨rfl,rfl⟩;go_wp2_with fail;go_ret;exact ⟨ar HF.out.symm,rfl⟩
    · have:k=xs.length:=by omega
      subst this;have HF:Hid (re xs ys=true):=by rw [Hid,HE.out,hK2.out]
      go_wp2_with fail;go_ret;exact ⟨ar HF.out.symm,rfl⟩
 · have hb1:((xs.length:Int) != (ys.length:Int))=true:=by simp;omega
   have HF:Hid (re xs ys=false):=by simp [Hid,re,hlen]
   clear h g
   go_enter Tryz.func39,Tryz.ntmps39;go_wp2_with fail;go_ret;exact ⟨ar HF.out.symm,rfl⟩
theorem BT (w:World) (R C P T U N:Int) (aA:Option Addr) (cA:Nat) (xA:List Int) (aB:Option Addr) (cB:Nat) (xB:List Int) (aV:Option Addr) (cV:Nat) (xV:List Int) (aW:Option Addr) (cW:Nat) (xW:List Int) (aC:Option Addr) (cC:Nat) (xC:List Int) (aT:Option Addr) (cT:Nat) (xT:List Nat) (R' C' P' T' U' N':Int) (bA:Option Addr) (dA:Nat) (yA:List Int) (bB:Option Addr) (dB:Nat) (yB:List Int) (bV:Option Addr) (dV:Nat) (yV:List Int) (bW:Option Addr) (dW:Nat) (yW:List Int) (bC:Option Addr) (dC:Nat) (yC:List Int) (bT:Option Addr) (dT:Nat) (yT:List Nat) (h:RdDesk w w.heap.size aA xA aB xB aV xV aW xW aC xC aT xT) (g:RdDesk w w.heap.size bA yA bB yB bV yV bW yW bC yC bT yT) (lA:xA.length≤1048576) (mA:yA.length≤1048576) (lB:xB.length≤1048576) (mB:yB.length≤1048576) (lV:xV.length≤1048576) (mV:yV.length≤1048576) (lW:xW.length≤1048576) (mW:yW.length≤1048576) (lC:xC.length≤1048576) (mC:yC.length≤1048576) (lT:xT.length≤1048576) (mT:yT.length≤1048576) (wfx:∀ v∈xT,v<4294967296) (wfy:∀ v∈yT,v<4294967296) :
 Calls Tryz.prog 10 #[.agg #[.int .i64 R,.int .i64 C,.slice aA xA.length cA,.slice aB xB.length cB,.int .i64 P,.int .i64 T,.slice aV xV.length cV,.int .i64 U,.int .i64 N,.slice aW xW.length cW,.slice aC xC.length cC,.slice aT xT.length cT],.agg #[.int .i64 R',.int .i64 C',.slice bA yA.length dA,.slice bB yB.length dB,.int .i64 P',.int .i64 T',.slice bV yV.length dV,.int .i64 U',.int .i64 N',.slice bW yW.length dW,.slice bC yC.length dC,.slice bT yT.length dT]] w fun e w'=>e=.returned (.bool (kS R C P T U N xA xB xV xW xC xT R' C' P' T' U' N' yA yB yV yW yC yT))∧Below w.heap.size w w':=by
 have B0:=Oi (cd w (.cells #[.int .i64 R,.int .i64 C,.slice aA xA.length cA,.slice aB xB.length cB,.int .i64 P,.int .i64 T,.slice aV xV.length cV,.int .i64 U,.int .i64 N,.slice aW xW.length cW,.slice aC xC.length cC,.slice aT xT.length cT] 33) (.cells #[.int .i64 R',.int .i64 C',.slice bA yA.length dA,.slice bB yB.length dB,.int .i64 P',.int .i64 T',.slice bV yV.length dV,.int .i64 U',.int .i64 N',.slice bW yW.length dW,.slice bC yC.length dC,.slice bT yT.length dT] 33));obtain ⟨K,J⟩:=NT w [.int .i64 R,.int .i64 C,.slice aA xA.length cA,.slice aB xB.length cB,.int .i64 P,.int .i64 T,.slice aV xV.length cV,.int .i64 U,.int .i64 N,.slice aW xW.length cW,.slice aC xC.length cC,.slice aT xT.length cT] [.int .i64 R',.int .i64 C',.slice bA yA.length dA,.slice bB yB.length dB,.int .i64 P',.int .i64 T',.slice bV yV.length dV,.int .i64 U',.int .i64 N',.slice bW yW.length dW,.slice bC yC.length dC,.slice bT yT.length dT] 33;have K0:=Oi K;have J0:=Oi J;clear K J;have H:=Oi (fun (v:World) (hb:Below w.heap.size w v)=>h.to hb)
 have G:=Oi (fun (v:World) (hb:Below w.heap.size w v)=>g.to hb)
 clear h g;have L1:=Oi (fun v hb=>BU v R C aA cA xA aB cB xB R' C' bA dA yA bB dB yB (H.out v hb).A (G.out v hb).A lA mA (H.out v hb).B (G.out v hb).B lB mB)
 have L2:=Oi (fun v hb=>xf v P T aV cV xV P' T' bV dV yV (H.out v hb).V (G.out v hb).V lV mV)
 have L3:=Oi (fun v hb=>zi v U N aW cW xW aC cC xC U' N' bW dW yW bC dC yC (H.out v hb).W (G.out v hb).W lW mW (H.out v hb).C (G.out v hb).C lC mC)
 have L4:=Oi (fun v hb=>yX v aT bT cT dT xT yT (H.out v hb).T (G.out v hb).T lT mT wfx wfy)
 obtain ⟨z0,z1,z2,z3,z4,z5,z6,z7,z8,z9,z10,z11⟩:=af K0.out;obtain ⟨y0,y1,y2,y3,y4,y5,y6,y7,y8,y9,y10,y11⟩:=af J0.out;clear H G
 cases t1:fb R C xA xB R' C' yA yB with
 | false =>
   have HF:Hid (kS R C P T U N xA xB xV xW xC xT R' C' P' T' U' N' yA yB yV yW yC yT=false):=by simp [Hid,kS,t1]
   rw [t1] at L1;clear t1
   go_enter Tryz.func10,Tryz.ntmps10;go_wp2_with fail;refine (L1.out _ B0.out).mono ?_;rintro e w1 ⟨rfl,hb⟩;have B1:=Oi (aa B0.out hb);have K1:=Oi (K0.out.same hb);have J1:=Oi (J0.out.same hb);clear hb;clear z0 z1 z2 z3 z4 z5 z6 z7 z8 z9 z10 z11 y0 y1 y2 y3 y4 y5 y6 y7 y8 y9 y10 y11;obtain ⟨z0,z1,z2,z3,z4,z5,z6,z7,z8,z9,z10,z11⟩:=af K1.out;obtain ⟨y0,y1,y2,y3,y4,y5,y6,y7,y8,y9,y10,y11⟩:=af J1.out;go_wp2_with fail;go_ret;exact ⟨ar HF.out.symm,B1.out⟩
 | true =>
 cases t2:ml P T xV P' T' yV with
 | false =>
   have HF:Hid (kS R C P T U N xA xB xV xW xC xT R' C' P' T' U' N' yA yB yV yW yC yT=false):=by simp [Hid,kS,t1,t2]
   rw [t1] at L1;rw [t2] at L2;clear t1 t2
   go_enter Tryz.func10,Tryz.ntmps10;go_wp2_with fail;refine (L1.out _ B0.out).mono ?_;rintro e w1 ⟨rfl,hb⟩;have B1:=Oi (aa B0.out hb);have K1:=Oi (K0.out.same hb);have J1:=Oi (J0.out.same hb);clear hb;clear z0 z1 z2 z3 z4 z5 z6 z7 z8 z9 z10 z11 y0 y1 y2 y3 y4 y5 y6 y7 y8 y9 y10 y11;obtain ⟨z0,z1,z2,z3,z4,z5,z6,z7,z8,z9,z10,z11⟩:=af K1.out;obtain ⟨y0,y1,y2,y3,y4,y5,y6,y7,y8,y9,y10,y11⟩:=af J1.out;go_wp2_with fail;refine (L2.out _ B1.out).mono ?_;rintro e w2 ⟨rfl,hb⟩;have B2:=Oi (aa B1.out hb);have K2:=Oi (K1.out.same hb);have J2:=Oi (J1.out.same hb);clear hb;clear z0 z1 z2 z3 z4 z5 z6 z7 z8 z9 z10 z11 y0 y1 y2 y3 y4 y5 y6 y7 y8 y9 y10 y11;obtain ⟨z0,z1,z2,z3,z4,z5,z6,z7,z8,z9,z10,z11⟩:=af K2.out;obtain ⟨y0,y1,y2,y3,y4,y5,y6,y7,y8,y9,y10,y11⟩:=af J2.out;go_wp2_with fail;go_ret;exact ⟨ar HF.out.symm,B2.out⟩
 | true =>
 cases t3:fb U N xW xC U' N' yW yC with
 | false =>
   have HF:Hid (kS R C P T U N xA xB xV xW xC xT R' C' P' T' U' N' yA yB yV yW yC yT=false):=by simp [Hid,kS,t1,t2,t3]
   rw [t1] at L1;rw [t2] at L2;rw [t3] at L3;clear t1 t2 t3
   go_enter Tryz.func10,Tryz.ntmps10;go_wp2_with fail;refine (L1.out _ B0.out).mono ?_;rintro e w1 ⟨rfl,hb⟩;have B1:=Oi (aa B0.out hb);have K1:=Oi (K0.out.same hb);have J1:=Oi (J0.out.same hb);clear hb;clear z0 z1 z2 z3 z4 z5 z6 z7 z8 z9 z10 z11 y0 y1 y2 y3 y4 y5 y6 y7 y8 y9 y10 y11;obtain ⟨z0,z1,z2,z3,z4,z5,z6,z7,z8,z9,z10,z11⟩:=af K1.out;obtain ⟨y0,y1,y2,y3,y4,y5,y6,y7,y8,y9,y10,y11⟩:=af J1.out;go_wp2_with fail;refine (L2.out _ B1.out).mono ?_;rintro e w2 ⟨rfl,hb⟩;have B2:=Oi (aa B1.out hb);have K2:=Oi (K1.out.same hb);have J2:=Oi (J1.out.same hb);clear hb;clear z0 z1 z2 z3 z4 z5 z6 z7 z8 z9 z10 z11 y0 y1 y2 y3 y4 y5 y6 y7 y8 y9 y10 y11;obtain ⟨z0,z1,z2,z3,z4,z5,z6,z7,z8,z9,z10,z11⟩:=af K2.out;obtain ⟨y0,y1,y2,y3,y4,y5,y6,y7,y8,y9,y10,y11⟩:=af J2.out;go_wp2_with fail;refine (L3.out _ B2.out).mono ?_;rintro e w3 ⟨rfl,hb⟩;have B3:=Oi (aa B2.out hb);have K3:=Oi (K2.out.same hb);have J3:=Oi (J2.out.same hb);clear hb;clear z0 z1 z2 z3 z4 z5 z6 z7 z8 z9 z10 z11 y0 y1 y2 y3 y4 y5 y6 y7 y8 y9 y10 y11;obtain ⟨z0,z1,z2,z3,z4,z5,z6,z7,z8,z9,z10,z11⟩:=af K3.out;obtain ⟨y0,y1,y2,y3,y4,y5,y6,y7,y8,y9,y10,y11⟩:=af J3.out;go_wp2_with fail;go_ret;exact ⟨ar HF.out.symm,B3.out⟩
 | true =>
 have HF:Hid (kS R C P T U N xA xB xV xW xC xT R' C' P' T' U' N' yA yB yV yW yC yT=re xT yT):=by simp [Hid,kS,t1,t2,t3]
 rw [t1] at L1;rw [t2] at L2;rw [t3] at L3;clear t1 t2 t3
 go_enter Tryz.func10,Tryz.ntmps10;go_wp2_with fail;refine (L1.out _ B0.out).mono ?_;rintro e w1 ⟨rfl,hb⟩;have B1:=Oi (aa B0.out hb);have K1:=Oi (K0.out.same hb);have J1:=Oi (J0.out.same hb);clear hb;clear z0 z1 z2 z3 z4 z5 z6 z7 z8 z9 z10 z11 y0 y1 y2 y3 y4 y5 y6 y7 y8 y9 y10 y11;obtain ⟨z0,z1,z2,z3,z4,z5,z6,z7,z8,z9,z10,z11⟩:=af K1.out;obtain ⟨y0,y1,y2,y3,y4,y5,y6,y7,y8,y9,y10,y11⟩:=af J1.out;go_wp2_with fail;refine (L2.out _ B1.out).mono ?_;rintro e w2 ⟨rfl,hb⟩;have B2:=Oi (aa B1.out hb);have K2:=Oi (K1.out.same hb);have J2:=Oi (J1.out.same hb);clear hb;clear z0 z1 z2 z3 z4 z5 z6 z7 z8 z9 z10 z11 y0 y1 y2 y3 y4 y5 y6 y7 y8 y9 y10 y11;obtain ⟨z0,z1,z2,z3,z4,z5,z6,z7,z8,z9,z10,z11⟩:=af K2.out;obtain ⟨y0,y1,y2,y3,y4,y5,y6,y7,y8,y9,y10,y11⟩:=af J2.out;go_wp2_with fail;refine (L3.out _ B2.out).mono ?_;rintro e w3 ⟨rfl,hb⟩;have B3:=Oi (aa B2.out hb);have K3:=Oi (K2.out.same hb);have J3:=Oi (J2.out.same hb);clear hb;clear z0 z1 z2 z3 z4 z5 z6 z7 z8 z9 z10 z11 y0 y1 y2 y3 y4 y5 y6 y7 y8 y9 y10 y11;obtain ⟨z0,z1,z2,z3,z4,z5,z6,z7,z8,z9,z10,z11⟩:=af K3.out;obtain ⟨y0,y1,y2,y3,y4,y5,y6,y7,y8,y9,y10,y11⟩:=af J3.out;go_wp2_with fail;refine (L4.out _ B3.out).mono ?_;rintro e w4 ⟨rfl,rfl⟩;have B4:=Oi B3.out;go_wp2_with fail;go_ret;exact ⟨ar HF.out.symm,B4.out⟩
def oJ:DD:=⟨2,2,gA,gB,2,2,vW,2,2,cW,cC,tT⟩
theorem wU:oJ.ok=true:=by decide +kernel
theorem pZ {w:World} {g T Z:Nat} {cs:List Value} (h:Blk w g cs T) (hg:g<Z):Rd w Z (some ⟨g,0,none⟩) cs :=
 .inr ⟨g,0,rfl,hg,fun j _=>by rw [Nat.zero_add,h.cell]⟩
theorem xR (w:World):Calls Tryz.prog 25 #[] w fun e w'=>∃ x:DA,e=.returned (oJ.val x)∧DRd w' w'.heap.size oJ x∧Below w.heap.size w w':=by
 refine (C6 w).mono ?_;rintro e w' ⟨g1,g2,g3,g4,g5,g6,rfl,h,hb⟩;have:=h.l1;have:=h.l2;have:=h.l3;have:=h.l4;have:=h.l5;have:=h.l6;have:=h.l7;exact ⟨⟨some ⟨g1,0,none⟩,4,some ⟨g2,0,none⟩,4,some ⟨g3,0,none⟩,4,some ⟨g4,0,none⟩,2,some ⟨g5,0,none⟩,4,some ⟨g6,0,none⟩,2⟩,rfl,
  ⟨⟨pZ h.b1 (by omega),pZ h.b2 (by omega),pZ h.b3 (by omega),pZ h.b4 (by omega),pZ h.b5 (by omega),pZ h.b6 (by omega)⟩,by show ∀ y∈tT,y<4294967296;decide⟩,hb⟩
def BS (d d':DD):Bool:=kS d.R d.C d.P d.T d.U d.N d.A d.B d.V d.W d.K d.F d'.R d'.C d'.P d'.T d'.U d'.N d'.A d'.B d'.V d'.W d'.K d'.F
theorem F8 (xs:List Nat):∀ n,jC xs xs n=true:=by
 intro n;unfold jC;rw [List.all_eq_true];intro k _;unfold gy;simp
theorem Dm (d:DD):BS d d=true:=by
 unfold BS kS fb ml re;rw [F8];simp
theorem F6 (w:World) (d d':DD) (x x':DA) (h:DRd w w.heap.size d x) (h':DRd w w.heap.size d' x') (hs:d.small) (hs':d'.small):Calls Tryz.prog 10 #[d.val x,d'.val x'] w fun e w'=>e=.returned (.bool (BS d d'))∧Below w.heap.size w w':=by
 obtain ⟨m1,m2,m3,m4,m5,m6⟩:=hs;obtain ⟨n1,n2,n3,n4,n5,n6⟩:=hs';exact BT w d.R d.C d.P d.T d.U d.N x.a x.ca d.A x.b x.cb d.B x.v x.cv d.V x.w x.cw d.W x.k x.ck d.K x.f x.cf d.F d'.R d'.C d'.P d'.T d'.U d'.N x'.a x'.ca d'.A x'.b x'.cb d'.B x'.v x'.cv d'.V x'.w x'.cw d'.W x'.k x'.ck d'.K x'.f x'.cf d'.F h.r h'.r m1 n1 m2 n2 m3 n3 m4 n4 m5 n5 m6 n6 h.f h'.f
section
variable (w:World) (o:DD) (x:DA) (h:DRd w w.heap.size o x) (hk:o.ok=true) (hE:Env w)
include h hk
end
theorem DQ {xs:List (List UInt8)} {t:List UInt8} (h:gw xs=some t):xs.length≤16000∧(∀ y∈xs,y.length≤16000)∧t.length≤16000:=by
 unfold gw at h
 split at h
 · rename_i hc
   injection h with h
   subst h;have h1:=DU xs;have h2:=AM xs;refine ⟨by omega,fun y hy=>?_,hc.2⟩
   obtain ⟨k,hk⟩:=List.getElem?_of_mem hy;have:=J4 hk;omega
 · cases h
theorem Rd.takeV {w:World} {B:Nat} {a:Option Addr} {xs:List (List UInt8)} (h:Rd w B a (bF xs)) (k:Nat):Rd w B a (bF (xs.take k)):=by
 rcases h with h | ⟨b,o,ha,hb,hc⟩
 · have:xs=[]:=by
     have e:=congrArg List.length h;simp [bF] at e
     exact e
   subst this;exact .inl (by simp [bF])
 · refine .inr ⟨b,o,ha,hb,fun j hj=>?_⟩
   have hj':j<(bF xs).length:=by simp [bF] at hj ⊢;omega
   rw [hc j hj'];simp only [bF,List.map_take,List.getElem?_take];rw [if_pos (by simp [bF] at hj;omega)]
theorem me (w:World) (hT:Tab w) (a:Option Addr) (c:Nat) (xs:List (List UInt8)) (t:List UInt8) (h:Rd w w.heap.size a (bF xs)) (hj:gw xs=some t) :
 Calls Tryz.prog 21 #[.slice a xs.length c] w fun e w'=>e=.returned (.tuple #[.string (bs t),.bool true])∧Below w.heap.size w w':=by
 obtain ⟨h1,h2,-⟩:=DQ hj;have L:=za w hT a c xs h (by omega) (fun y hy=>by have:=h2 y hy;omega)
 rw [hj] at L;exact L
structure JoS (w v:World) (aL aM:Option Addr) (ls:List (List UInt8)) (ms:List Int):Prop where
 W:Below w.heap.size w v
 L:Rd v v.heap.size aL (bF ls)
 M:Rd v v.heap.size aM (jg ms)
 E:Env w
 B:ms.length≤1048576∧∀ x∈ms,0≤x∧x≤255
section
variable {w v v1:World} {aL aM:Option Addr} {ls:List (List UInt8)} {ms:List Int}
theorem JoS.to (h:JoS w v aL aM ls ms) (hb:Below v.heap.size v v1):JoS w v1 aL aM ls ms:=⟨aa h.W hb,h.L.to hb,h.M.to hb,h.E,h.B⟩
theorem JoS.env (h:JoS w v aL aM ls ms):Env v:=h.E.to h.W
end
theorem N9 (w v0:World) (sB:ByteArray) (u:List UInt8) (hB:sB=bs u) (hu:u.length≤16000) (HW:Hid (Below w.heap.size w v0)) (HE:Hid (Env v0)) (K:Act→World→Prop) (hK:∀ (a:Act) (v:World),Code.wp Tryz.prog (((Tryz.f4).body.bind (mH 29)).getD .skip) (bodyPost Tryz.prog Tryz.f4 fun e w'=>e=.returned (.bool true)∧Below w.heap.size w w') a v→K a v)
 {z0 z1 z2 z3 z4 z5 z6 z7 z8 z9 z10 z11 z12 z13 z14 z15 z16 z17 z18 z19 z20 z21 z22 z23 z24 z26 z27 z28 z29 z30 z31 z32 z33 z34 z35 z36 z37 z38 z39 z40 z41 z42 z43 z44 z45 z46 z47 z48 z49 z50 z51 z52 z53 z54 z55 z56 z57 z58 z59 z60 z61 z62 z63 z64 z65 z66 z67 z68 z69 z70 z71 z72 z73 z74 z75 z76 z77 z78 z79 z80 z81 z82 z83 z84 z85 z86 z87 z88 z89 z90 z91 z92 z93 z94 z95 z96 z97 z98 z99 z100 z101 z102 z103 z104 z105 z106 z107 z108 z109 z110 z111 z112 z113 z114 z115 z116 z117 z118 z119 z120 z121 z122 z123 z124 z125 z126 z127 z128 z129 z130 z131 z132 z133 z134 z135 z136 z137 z138 z139 z140 z141 z142 z143 z144 z145 z146 z147 z148 z149 z150 z151 z152 z153 z154 z155 z156 z157 z158 z159 z160 z161 z162 z163 z164 z165 z166 z167 z168 z169 z170 z171 z172 z173 z174 z175 z176 z177 z178 z179 z180 z181 z182 z183 z184 z185 z186 z187 z188 z189 z190 z191 z192 z193 z194 z195 z196 z197 z198 z199 z200 z201 z202 z203 z204 z205 z206 z207 z208 z209 z210 z211 z212 z213 z214 z215 z216:Value} :
 Code.wp Tryz.prog (((Tryz.f4).body.bind (vG 29)).getD .skip) (Exit.then K (bodyPost Tryz.prog Tryz.f4 fun e w'=>e=.returned (.bool true)∧Below w.heap.size w w')) ⟨#[z0,z1,z2,z3,z4,z5,z6,z7,z8,z9,z10,z11,z12,z13,z14,z15,z16,z17,z18,z19,z20,z21,z22,z23,z24,.string sB,z26,z27,z28,z29,z30,z31,z32,z33,z34,z35,z36,z37,z38,z39,z40,z41,z42,z43,z44,z45,z46,z47,z48,z49,z50,z51,z52,z53,z54,z55,z56,z57,z58,z59,z60,z61,z62,z63,z64,z65,z66,z67,z68,z69,z70,z71,z72,z73,z74,z75,z76,z77,z78,z79,z80,z81,z82,z83,z84,z85,z86,z87,z88,z89,z90,z91,z92,z93,z94,z95,z96,z97,z98,z99,z100,z101,z102,z103,z104,z105,z106,z107,z108,z109,z110,z111,z112,z113,z114,z115,z116,z117,z118,z119,z120,z121,z122,z123,z124,z125,z126,z127,z128,z129,z130,z131,z132,z133,z134,z135,z136,z137,z138,z139,z140,z141,z142,z143,z144,z145,z146,z147,z148,z149,z150,z151,z152,z153,z154,z155,z156,z157,z158,z159,z160,z161,z162,z163,z164,z165,z166,z167,z168,z169,z170,z171,z172,z173,z174,z175,z176,z177,z178,z179,z180,z181,z182,z183,z184,z185,z186,z187,z188,z189,z190,z191,z192,z193,z194,z195,z196,z197,z198,z199,z200,z201,z202,z203,z204,z205,z206,z207,z208,z209,z210,z211,z212,z213,z214,z215,z216],[]⟩ v0:=by
 obtain ⟨cr,hcr⟩:∃ c,c=(((Tryz.f4).body.bind (mH 29)).getD .skip):=⟨_,rfl⟩;rw [← hcr] at hK
 conv at hcr=>rhs;whnf
 subst hcr
 conv=>arg 2;whnf
 obtain ⟨r1,r2,r3⟩:=Eh hu;have hl:sB.data.toList=u:=by rw [hB,cu]
 have LR:=Oi (sh v0 HE.out.tab HE.out.shp sB (by rw [hB,aE];omega))
 rw [hl,r1] at LR;unfold zw at LR;dsimp only at LR;have hx:sB.extract 0 (eD u).2=bs (u.take (eD u).2):=by rw [hB,jt,cu,List.drop_zero]
 have hz:((eD u).2:Int)≤(sB.size:Int):=by rw [hB,aE];omega
 have hzI:(sB.size:Int)≤16000:=by rw [hB,aE];omega
 obtain ⟨fw,hfw⟩:∃ q,q=(eD u).1:=⟨_,rfl⟩;obtain ⟨k,hk⟩:∃ q,q=(eD u).2:=⟨_,rfl⟩;rw [← hfw,← hk] at LR;rw [← hfw,← hk] at r3;rw [← hk] at hx hz;have k0:(0:Int)≤(k:Int):=Int.natCast_nonneg _;have HR:=Oi r3;have hO:(bs (u.take k)).toList=(sB.extract 0 k).toList:=by rw [hx]
 have fI:(fw.length:Int)≤16000:=by have:=(DQ r3).1;omega
 clear r1 r2 r3 hl hfw hk hB hu hx;obtain ⟨sO,hsO⟩:∃ q,q=bs (u.take k):=⟨_,rfl⟩;rw [← hsO] at hO;have hOe:(sO.toList == (sB.extract 0 k).toList)=true:=by rw [hO];simp
 have HSO:=Oi hsO;clear hsO hO;go_wp2_with fail;refine LR.out.mono ?_;rintro e w1 ⟨a,c,rfl,hrd,hb⟩;have LJ:=Oi (me w1 (HE.out.to hb).tab a c fw _ hrd HR.out);rw [← HSO.out] at LJ;have HB:=Oi (aa HW.out hb);clear hrd hb LR HR;go_wp2_with fail;refine LJ.out.mono ?_;rintro e w2 ⟨rfl,hb⟩;have HB2:=Oi (aa HB.out hb);clear hb LJ HB;go_wp2_with fail;go_ret;exact ⟨rfl,HB2.out⟩
def qm (z:Int):UInt8:=UInt8.ofNat z.toNat
theorem Mh (x y:Int):0≤bits .xor .u8 x y∧bits .xor .u8 x y≤255:=by
 unfold bits;dsimp only;rw [IntKind.wrap_u8];omega
theorem JM (w:World) (z:Int) (hz:0≤z∧z≤255):(convert 22 9 (.slice (some ⟨w.heap.size,0,none⟩) 1 1)).run Tryz.prog ((w.alloc (.cells #[.int .u8 z] 5)).drew)=.ok (.string (bs [qm z])) ((w.alloc (.cells #[.int .u8 z] 5)).drew):=by
 have hb:z=((qm z).toNat:Int):=by unfold qm;rw [UInt8.toNat_ofNat'];omega
 have K:=(Blk.new w [.int .u8 z] 5).drewN 1;exact run_convert_bytes_back (P:=Tryz.prog) ((w.alloc (.cells #[.int .u8 z] 5)).drew) 22 9 5 ⟨w.heap.size,0,none⟩ 1 [qm z] Tryz.underlying22 Tryz.underlying5 Tryz.underlying9 (fun j hj=>by
  have:j=0:=by simp at hj;exact hj
  subst this;have K0:(w.alloc (.cells #[.int .u8 z] 5)).drew.cell? ⟨w.heap.size,0,none⟩=some (.int .u8 z):=K.cell 0;rw [lu,Nat.add_zero,K0]
  show some (Value.int .u8 z)=some (Value.int .u8 ((qm z).toNat:Int))
  rw [← hb])
def rk (ms:List Int) (k n:Int):Int:=if n≤1 then 0 else if k<ms.length then ms.getD k.toNat 0 % n else 0
theorem Nj {ms:List Int} {k n:Int} (hn:1≤n) (h:∀ x∈ms,0≤x∧x≤255):0≤rk ms k n∧rk ms k n<n:=by
 unfold rk
 split
 · omega
 · split
   · exact ⟨Int.emod_nonneg _ (by omega),Int.emod_lt_of_pos _ (by omega)⟩
   · omega
theorem MU (w:World) (a:Option Addr) (c:Nat) (xs:List Int) (k n:Int) (h:Rd w w.heap.size a (jg xs)) (hl:xs.length≤1048576) (hx:∀ x∈xs,0≤x∧x≤255) (hk:0≤k) :
 Calls Tryz.prog 22 #[.slice a xs.length c,.int .i64 k,.int .i64 n] w fun e w'=>e=.returned (.int .i64 (rk xs k n))∧w=w':=by
 by_cases h1:n≤1
 · have HF:Hid (rk xs k n=0):=by simp [Hid,rk,h1]
   clear h hx
   go_enter Tryz.func22,Tryz.ntmps22;go_wp2_with fail;go_ret;exact ⟨bY HF.out.symm,rfl⟩
 · by_cases h2:k<xs.length
   · obtain ⟨j,rfl⟩:∃ j:Nat,k=j:=⟨k.toNat,by omega⟩
     have hj:j<xs.length:=by omega
     have HF:Hid (rk xs j n=xs.getD j 0 % n):=by simp [Hid,rk,h1,hj]
     obtain ⟨b,o,rfl,hbb,hc⟩:=h.atB hj;have hck:=hc j hj;have hxk:=hx (xs.getD j 0) (by simp only [List.getD,List.getElem?_eq_getElem hj];exact List.getElem_mem _)
     generalize xs.getD j 0=x at *
     obtain ⟨x0,x1⟩:=hxk;clear h hx hc
     go_enter Tryz.func22,Tryz.ntmps22;go_wp2_with fail;go_ret;exact ⟨bY HF.out.symm,rfl⟩
   · have HF:Hid (rk xs k n=0):=by simp [Hid,rk,h1,h2]
     clear h hx
     go_enter Tryz.func22,Tryz.ntmps22;go_wp2_with fail;go_ret;exact ⟨bY HF.out.symm,rfl⟩
theorem Og (w v0:World) (cL cM n:Nat) (aL aM:Option Addr) (ls:List (List UInt8)) (ms:List Int) (sT:ByteArray) (u:List UInt8) (S0:Hid (JoS w v0 aL aM ls ms)) (HT:Hid (sT=bs u)) (hn:n<u.length) (hu:u.length≤16000) (K:Act→World→Prop) (hK:∀ (a:Act) (v:World),Code.wp Tryz.prog (((Tryz.f4).body.bind (mH 28)).getD .skip) (bodyPost Tryz.prog Tryz.f4 fun e w'=>e=.returned (.bool true)∧Below w.heap.size w w') a v→K a v)
 {z0 z2 z3 z4 z5 z7 z8 z10 z11 z12 z13 z14 z15 z16 z17 z18 z19 z20 z21 z22 z23 z24 z25 z26 z27 z28 z29 z30 z31 z32 z33 z34 z35 z36 z37 z38 z39 z40 z41 z42 z43 z44 z45 z46 z47 z48 z49 z50 z51 z52 z53 z54 z55 z56 z57 z58 z59 z60 z61 z62 z63 z64 z65 z66 z67 z68 z69 z70 z71 z72 z73 z74 z75 z76 z77 z78 z79 z80 z81 z82 z83 z84 z85 z86 z87 z88 z89 z90 z91 z92 z93 z94 z95 z96 z97 z98 z99 z100 z101 z102 z103 z104 z105 z106 z107 z108 z109 z110 z111 z112 z113 z114 z115 z116 z117 z118 z119 z120 z121 z122 z123 z124 z125 z126 z127 z128 z129 z130 z131 z132 z133 z134 z135 z136 z137 z138 z139 z140 z141 z142 z143 z144 z145 z146 z147 z148 z149 z150 z151 z152 z153 z154 z155 z156 z157 z158 z159 z160 z161 z162 z163 z164 z165 z166 z167 z168 z169 z170 z171 z172 z173 z174 z175 z176 z177 z178 z179 z180 z181 z182 z183 z184 z185 z186 z187 z188 z189 z190 z191 z192 z193 z194 z195 z196 z197 z198 z199 z200 z201 z202 z203 z204 z205 z206 z207 z208 z209 z210 z211 z212 z213 z214 z215 z216:Value} :
 Code.wp Tryz.prog (((Tryz.f4).body.bind (vG 28)).getD .skip) (Exit.then K (bodyPost Tryz.prog Tryz.f4 fun e w'=>e=.returned (.bool true)∧Below w.heap.size w w')) ⟨#[z0,.slice aM ms.length cM,z2,z3,z4,z5,.string sT,z7,z8,.int .i64 n,z10,z11,z12,z13,z14,z15,z16,z17,z18,z19,z20,z21,z22,z23,z24,z25,z26,z27,z28,z29,z30,z31,z32,z33,z34,z35,z36,z37,z38,z39,z40,z41,z42,z43,z44,z45,z46,z47,z48,z49,z50,z51,z52,z53,z54,z55,z56,z57,z58,z59,z60,z61,z62,z63,z64,z65,z66,z67,z68,z69,z70,z71,z72,z73,z74,z75,z76,z77,z78,z79,z80,z81,z82,z83,z84,z85,z86,z87,z88,z89,z90,z91,z92,z93,z94,z95,z96,z97,z98,z99,z100,z101,z102,z103,z104,z105,z106,z107,z108,z109,z110,z111,z112,z113,z114,z115,z116,z117,z118,z119,z120,z121,z122,z123,z124,z125,z126,z127,z128,z129,z130,z131,z132,z133,z134,z135,z136,z137,z138,z139,z140,z141,z142,z143,z144,z145,z146,z147,z148,z149,z150,z151,z152,z153,z154,z155,z156,z157,z158,z159,z160,z161,z162,z163,z164,z165,z166,z167,z168,z169,z170,z171,z172,z173,z174,z175,z176,z177,z178,z179,z180,z181,z182,z183,z184,z185,z186,z187,z188,z189,z190,z191,z192,z193,z194,z195,z196,z197,z198,z199,z200,z201,z202,z203,z204,z205,z206,z207,z208,z209,z210,z211,z212,z213,z214,z215,z216],[]⟩ v0:=by
 obtain ⟨cr,hcr⟩:∃ c,c=(((Tryz.f4).body.bind (mH 28)).getD .skip):=⟨_,rfl⟩;rw [← hcr] at hK
 conv at hcr=>rhs;whnf
 subst hcr
 conv=>arg 2;whnf
 have hsz:sT.size=u.length:=by rw [HT.out,aE]
 have hul:(u.length:Int)≤16000:=by omega
 have n0:(0:Int)≤(n:Int):=Int.natCast_nonneg _;have hnI:(n:Int)<(sT.size:Int):=by omega
 have hszI:(sT.size:Int)≤16000:=by omega
 have x1:sT.extract 0 n=bs (u.take n):=by rw [HT.out,jt,cu,List.drop_zero]
 have x2:sT.extract (n+1) sT.size=bs (u.drop (n+1)):=by rw [hsz,HT.out,jt,cu,List.take_length]
 have LA:=Oi (fun (v:World) (hb:Below v0.heap.size v0 v)=>MU v aM cM ms 2 255 (S0.out.M.to hb) S0.out.B.1 S0.out.B.2 (by omega))
 obtain ⟨x0,x9⟩:=Nj (ms:=ms) (k:=2) (show (1:Int)≤255 by omega) S0.out.B.2
 generalize rk ms 2 255=x at *
 have xI:x≤254:=by omega
 have HX1:=Oi x1;have HX2:=Oi x2;have hnS:n<sT.size:=by omega
 have hnJ:(n:Int)≤(sT.size:Int):=by omega
 have hnK:(n:Int)+1≤(sT.size:Int):=by omega
 have n1:(0:Int)≤(n:Int)+1:=by omega
 have en:IntKind.i64.wrap ((n:Int)+1)=(n:Int)+1:=IntWalk.i64_in _ (by omega)
 have n2:((n:Int)+1).toNat=n+1:=by omega
 have hcv:=JM v0 (bits BinOp.xor IntKind.u8 (((sT[n]'hnS).toNat:Nat):Int) (IntKind.u8.wrap (IntKind.i64.wrap (1+x)))) (Mh _ _);have z1:∀ b:UInt8,¬ 9223372036854775807<min n sT.size+(bs [b]).size:=fun b=>by rw [aE,List.length_singleton];omega
 have z2:∀ b:UInt8,¬ 9223372036854775807<min n sT.size+(bs [b]).size+(sT.size - (n+1)):=fun b=>by rw [aE,List.length_singleton];omega
 have zz1:=z1 (qm (bits BinOp.xor IntKind.u8 (((sT[n]'hnS).toNat:Nat):Int) (IntKind.u8.wrap (IntKind.i64.wrap (1+x)))))
 have zz2:=z2 (qm (bits BinOp.xor IntKind.u8 (((sT[n]'hnS).toNat:Nat):Int) (IntKind.u8.wrap (IntKind.i64.wrap (1+x)))))
 have HN:=Oi hn;have HU:=Oi hu;have HD:=Oi (aq (Below.refl v0.heap.size v0));clear hsz hul hn hu x1 x2 z1 z2 x9;have hB:∀ b:UInt8,sT.extract 0 n ++ bs [b] ++ sT.extract (n+1) sT.size=bs (u.take n ++ [b] ++ u.drop (n+1)):=fun b=>by rw [HX1.out,HX2.out,cD,cD]
 have hBl:∀ b:UInt8,(u.take n ++ [b] ++ u.drop (n+1)).length≤16000:=fun b=>by have:=HN.out;have:=HU.out;simp only [List.length_append,List.length_take,List.length_drop,List.length_singleton];omega
 have HBB:=Oi hB;have HBL:=Oi hBl;clear hB hBl
 go_region_law
  ((first
    | (go_simp;with_reducible refine (LA.out _ HD.out).mono ?_;rintro e wA ⟨rfl,rfl⟩;dsimp only)))
 all_goals
  go_upto_region 29 with fail
  refine N9 w _ _ _ (HBB.out _) (HBL.out _) (Oi (aa S0.out.W (aq (ai v0 _)))) (Oi (S0.out.env.to (aq (ai v0 _)))) _ ?hk
  case hk=>assumption
theorem Of (w v0:World) (cL cM n:Nat) (aL aM:Option Addr) (ls:List (List UInt8)) (ms:List Int) (sT:ByteArray) (gD k:Nat) (dn:DD) (x:DA) (ts:List (List UInt8)) (sS:ByteArray) (S0:Hid (JoS w v0 aL aM ls ms)) (HL:Hid (∀ l∈ls,gN l)) (h5:1≤ls.length∧ls.length≤5) (HT:Hid (sT=bs (bI ls).2)) (HS:Hid (sS=bs (bj ls))) (HG:Hid (jK ls oJ=(dn,ts))) (KD:Hid (Blk v0 gD (dn.cells x) 33)) (HDD:Hid (DRd v0 v0.heap.size dn x)) (hn:n≤sT.size) (hk:k≤n∧(n=sT.size→k=n)) (K:Act→World→Prop) (hK:∀ (a:Act) (v:World),Code.wp Tryz.prog (((Tryz.f4).body.bind (mH 23)).getD .skip) (bodyPost Tryz.prog Tryz.f4 fun e w'=>e=.returned (.bool true)∧Below w.heap.size w w') a v→K a v)
 {z0 z2 z3 z4 z7 z10 z12 z13 z14 z15 z16 z21 z22 z23 z24 z25 z26 z27 z28 z29 z30 z31 z32 z33 z34 z35 z36 z37 z38 z39 z40 z41 z42 z43 z44 z45 z46 z47 z48 z49 z50 z51 z52 z53 z54 z55 z56 z57 z58 z59 z60 z61 z62 z63 z64 z65 z66 z67 z68 z69 z70 z71 z72 z73 z74 z75 z76 z77 z78 z79 z80 z81 z82 z83 z84 z85 z86 z87 z88 z89 z90 z91 z92 z93 z94 z95 z96 z97 z98 z99 z100 z101 z102 z103 z104 z105 z106 z107 z108 z109 z110 z111 z112 z113 z114 z115 z116 z117 z118 z119 z120 z121 z122 z123 z124 z125 z126 z127 z128 z129 z130 z131 z132 z133 z134 z135 z136 z137 z138 z139 z140 z141 z142 z143 z144 z145 z146 z147 z148 z149 z150 z151 z152 z153 z154 z155 z156 z157 z158 z159 z160 z161 z162 z163 z164 z165 z166 z167 z168 z169 z170 z171 z172 z173 z174 z175 z176 z177 z178 z179 z180 z181 z182 z183 z184 z185 z186 z187 z188 z189 z190 z191 z192 z193 z194 z195 z196 z197 z198 z199 z200 z201 z202 z203 z204 z205 z206 z207 z208 z209 z210 z211 z212 z213 z214 z215 z216:Value} :
 Code.wp Tryz.prog (((Tryz.f4).body.bind (vG 23)).getD .skip) (Exit.then K (bodyPost Tryz.prog Tryz.f4 fun e w'=>e=.returned (.bool true)∧Below w.heap.size w w')) ⟨#[z0,.slice aM ms.length cM,z2,z3,z4,.slice aL ls.length cL,.string sT,z7,.int .i64 sT.size,.int .i64 n,z10,.int .i64 k,z12,z13,z14,z15,z16,.pointer (some ⟨gD,0,none⟩),.int .i64 ls.length,.bool true,.string sS,z21,z22,z23,z24,z25,z26,z27,z28,z29,z30,z31,z32,z33,z34,z35,z36,z37,z38,z39,z40,z41,z42,z43,z44,z45,z46,z47,z48,z49,z50,z51,z52,z53,z54,z55,z56,z57,z58,z59,z60,z61,z62,z63,z64,z65,z66,z67,z68,z69,z70,z71,z72,z73,z74,z75,z76,z77,z78,z79,z80,z81,z82,z83,z84,z85,z86,z87,z88,z89,z90,z91,z92,z93,z94,z95,z96,z97,z98,z99,z100,z101,z102,z103,z104,z105,z106,z107,z108,z109,z110,z111,z112,z113,z114,z115,z116,z117,z118,z119,z120,z121,z122,z123,z124,z125,z126,z127,z128,z129,z130,z131,z132,z133,z134,z135,z136,z137,z138,z139,z140,z141,z142,z143,z144,z145,z146,z147,z148,z149,z150,z151,z152,z153,z154,z155,z156,z157,z158,z159,z160,z161,z162,z163,z164,z165,z166,z167,z168,z169,z170,z171,z172,z173,z174,z175,z176,z177,z178,z179,z180,z181,z182,z183,z184,z185,z186,z187,z188,z189,z190,z191,z192,z193,z194,z195,z196,z197,z198,z199,z200,z201,z202,z203,z204,z205,z206,z207,z208,z209,z210,z211,z212,z213,z214,z215,z216],[]⟩ v0:=by
 obtain ⟨cr,hcr⟩:∃ c,c=(((Tryz.f4).body.bind (mH 23)).getD .skip):=⟨_,rfl⟩;rw [← hcr] at hK
 conv at hcr=>rhs;whnf
 subst hcr
 conv=>arg 2;whnf
 have LN:=Oi (xR v0);obtain ⟨o1,o2,o3⟩:=Nv HL.out wU;obtain ⟨p1,p2,p3⟩:=rB HL.out h5.2;have hrun:=Av ls oJ;rw [HG.out] at o1 o2 o3 hrun;dsimp only at o1 o2 o3 hrun;have hzl:sS.data.toList=bj ls:=by rw [HS.out];exact cu _
 have LR:=Oi (fun (v:World) (xn:DA) (hE:Env v) (hd:DRd v v.heap.size oJ xn)=>Di v oJ xn sS (gp ls) hE wU hd (by rw [HS.out,aE];exact p3) (by rw [hzl];exact p2) (by rw [hzl,vf];exact p1) (fun p hp=>by unfold gp at hp;obtain ⟨l,hl,rfl⟩:=List.mem_map.1 hp;exact (qy (by have:=(HL.out l hl).1;omega)).1) (fun p hp=>by unfold gp at hp;obtain ⟨l,hl,rfl⟩:=List.mem_map.1 hp;exact (qy (by have:=(HL.out l hl).1;omega)).2))
 rw [hrun] at LR;dsimp only at LR;have HK:=Oi o1;have HF:=Oi HDD.out.f;have hjl:sT.size=(bI ls).2.length:=by rw [HT.out,aE]
 have HJL:=Oi hjl;have hJ:=rG HL.out h5.2;have HJ:=Oi hJ;have h5I:(ls.length:Int)≤5:=by omega
 have hzI:(sT.size:Int)≤16000:=by omega
 obtain ⟨tb,htb⟩:∃ q,q=bs (bj ts):=⟨_,rfl⟩;rw [← htb] at LR;clear o1 o2 o3 p1 p2 p3 hrun hzl htb hjl hJ;go_wp2_with fail;refine LN.out.mono ?_;rintro e v1 ⟨xn,rfl,hd,hb⟩;have LR1:=Oi (LR.out v1 xn (S0.out.env.to hb) hd);have S1:=Oi (S0.out.to hb);have K1:=Oi (KD.out.same hb);have D1:=Oi (HDD.out.to hb);unfold DD.val at LR1 ⊢;clear LN LR hd hb S0 KD HDD;go_wp2_with fail;refine LR1.out.mono ?_;rintro e v2 ⟨y,rfl,hO,hb⟩;have hrd:=hO.rd HF.out;obtain ⟨v3,hv3⟩:∃ X,X=v2.alloc (.cells #[.int .i64 dn.R,.int .i64 dn.C,.slice y.a dn.A.length y.ca,.slice y.b dn.B.length y.cb,.int .i64 dn.P,.int .i64 dn.T,.slice y.v dn.V.length y.cv,.int .i64 dn.U,.int .i64 dn.N,.slice y.w dn.W.length y.cw,.slice y.k dn.K.length y.ck,.slice y.f dn.F.length y.cf] 33):=⟨_,rfl⟩;have hb3:Below v2.heap.size v2 v3:=by rw [hv3];exact ai _ _
 have KE:Hid (Blk v3 v2.heap.size (dn.cells y) 33):=by rw [hv3];exact Blk.new v2 _ _
 have B3:=aa hb hb3;have S3:=Oi (S1.out.to B3);have K3:=Oi (K1.out.same B3);have D3:=Oi (D1.out.to B3);have DE3:=Oi (hrd.to hb3);clear hO hrd hb hb3 LR1 B3 S1 K1 D1
 go_upto_region 24 with fail
 rw [← hv3];clear hv3;obtain ⟨gE,hgE⟩:∃ k,k=v2.heap.size:=⟨_,rfl⟩;rw [← hgE] at KE ⊢;clear hgE;obtain ⟨d0,d1,d2,d3,d4,d5,d6,d7,d8,d9,d10,d11⟩:=af K3.out;obtain ⟨e0,e1,e2,e3,e4,e5,e6,e7,e8,e9,e10,e11⟩:=af KE.out;have hsm:=kt HK.out;have LS:=Oi (F6 v3 dn dn x y D3.out DE3.out hsm hsm);rw [Dm] at LS;unfold DD.val at LS;clear hsm D3 DE3;go_wp2_with fail;refine LS.out.mono ?_;rintro e v4 ⟨rfl,hb⟩;have S4:=Oi (S3.out.to hb);clear LS hb S3 K3 KE d0 d1 d2 d3 d4 d5 d6 d7 d8 d9 d10 d11 e0 e1 e2 e3 e4 e5 e6 e7 e8 e9 e10 e11;obtain ⟨hk1,hk2⟩:=hk
 by_cases hns:n=sT.size
 · have hkk:=hk2 hns
   have hqn:((k:Int) == (sT.size:Int))=true:=by rw [hkk,hns];simp
   have hqm:((n:Int) == (sT.size:Int))=true:=by rw [hns];simp
   have HB:=Oi S4.out.W;clear hkk hns hk2;go_wp2_with fail;go_ret;exact ⟨by first | rfl | (rw [hqn]) | (simp;omega),HB.out⟩
 · have hqm:¬ (n:Int)=(sT.size:Int):=by omega
   have hlt:n<(bI ls).2.length:=by have:=HJL.out;omega
   clear hk2
   go_upto_region 28 with fail
   refine Og w v4 cL cM n aL aM ls ms sT (bI ls).2 S4 HT hlt HJ.out _ ?hk
   case hk=>assumption
end Go.Proofs.YtbknhgapjjaelaaGreatDoor
