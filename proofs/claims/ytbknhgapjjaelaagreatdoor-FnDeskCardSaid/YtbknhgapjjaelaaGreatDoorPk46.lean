/-
  Part 46 of what the proof stands on: lemmas and contracts, each with its conditions ahead of the colon.
-/
import Derived.Test.YtbknhgapjjaelaaGreatDoorPk01
import Derived.Deep.RegionHeld3
import Derived.Deep.DeepCutAuto
import Derived.Deep.CutBlock
import Derived.Test.YtbknhgapjjaelaaGreatDoorPk03
import Derived.Test.YtbknhgapjjaelaaGreatDoorPk10
import Derived.Test.YtbknhgapjjaelaaGreatDoorPk14
import Derived.Test.YtbknhgapjjaelaaGreatDoorPk21
import Derived.Test.YtbknhgapjjaelaaGreatDoorPk23
import Derived.Test.YtbknhgapjjaelaaGreatDoorPk24
import Derived.Test.YtbknhgapjjaelaaGreatDoorPk25
import Derived.Test.YtbknhgapjjaelaaGreatDoorPk35
import Derived.Test.YtbknhgapjjaelaaGreatDoorPk36
import Derived.Test.YtbknhgapjjaelaaGreatDoorPk41
import Derived.Test.YtbknhgapjjaelaaGreatDoorPk45
set_option maxRecDepth 100000
set_option maxHeartbeats 32000000
namespace Go.Proofs.YtbknhgapjjaelaaGreatDoor
set_option linter.unusedVariables false
set_option linter.unusedSimpArgs false
open Go.RowKit
def jp (xs ys:List Nat) (k:Nat):Bool:=(List.range k).all fun i=>gn (xs.getD i 0) (ys.getD i 0)
theorem D8 (xs ys:List Nat) (k:Nat):jp xs ys (k+1)=(jp xs ys k && gn (xs.getD k 0) (ys.getD k 0)):=by simp [jp,List.range_succ]
def qS (xs ys:List Nat):Bool:=decide (xs.length=ys.length) && jp xs ys xs.length
theorem Mb {xs ys:List Nat} {k:Nat} (hk:k<xs.length) (h:gn (xs.getD k 0) (ys.getD k 0)=false):qS xs ys=false:=by
 have:jp xs ys xs.length=false:=by
  unfold jp;rw [List.all_eq_false];exact ⟨k,List.mem_range.2 hk,by rw [h];simp⟩
 simp [qS,this]
def kP (R C P T U N:Int) (xA xB xV xW xC:List Int) (xT:List Nat) (R' C' P' T' U' N':Int) (yA yB yV yW yC:List Int) (yT:List Nat):Bool :=
 eQ R C xA xB R' C' yA yB && lQ P T xV P' T' yV && eQ U N xW xC U' N' yW yC && qS xT yT
theorem Ij {xs:List Nat} (h:∀ v∈xs,v<4294967296) {k:Nat} (hk:k<xs.length):xs.getD k 0<4294967296:=h _ (by simp only [List.getD,List.getElem?_eq_getElem hk];exact List.getElem_mem _)
theorem BC (args:Array Value) (w:World):(callFunc 40 args).run Tryz.prog w=.ok (.enter 40 args) w:=by kernel_rfl
theorem yG (w:World) (a b:Option Addr) (c d:Nat) (xs ys:List Nat) (h:Rd w w.heap.size a (dt xs)) (g:Rd w w.heap.size b (dt ys)) (lx:xs.length≤1048576) (ly:ys.length≤1048576) (wx:∀ v∈xs,v<4294967296) (wy:∀ v∈ys,v<4294967296) :
 Calls Tryz.prog 39 #[.slice a xs.length c,.slice b ys.length d,.func (.func 40) #[] #[]] w fun e w'=>e=.returned (.bool (qS xs ys))∧w=w':=by
 have hK:=BC
 by_cases hlen:xs.length=ys.length
 · have hb1:((xs.length:Int) != (ys.length:Int))=false:=by simp [hlen]
   have HE:Hid (qS xs ys=jp xs ys xs.length):=by simp [Hid,qS,hlen]
   have HN:Hid (∀ k,k<xs.length→gn (xs.getD k 0) (ys.getD k 0)=false→qS xs ys=false):=fun k hk=>Mb hk
   have HL:=Na hlen;have HX:=Na h;have HY:=Na g;have WX:=Na wx;have WY:=Na wy;clear h g wx wy hlen
   go_enter Tryz.func39,Tryz.ntmps39;go_wp2_with fail
   go_loop [17] (fun i=>∃ k:Nat,k≤xs.length∧i=.int .i64 k∧Hid (jp xs ys k=true)) (fun i=>xs.length - (intOf i).toNat)
   case atStart=>exact ⟨0,Nat.zero_le _,rfl,rfl⟩
   case round =>
    obtain ⟨k,hk,rfl,hK2⟩:=hrel
    by_cases hlt:k<xs.length
    · have hlt2:k<ys.length:=by have:=HL.out;omega
      obtain ⟨b1,o1,rfl,_,hc1⟩:=HX.out.atF hlt;obtain ⟨b2,o2,rfl,_,hc2⟩:=HY.out.atF hlt2;have c1:=hc1 k hlt;have c2:=hc2 k hlt2;have L:=Na (fun v=>wk (xs.getD k 0) (ys.getD k 0) (Ij WX.out hlt) (Ij WY.out hlt2) v)
      have HS:Hid (jp xs ys (k+1)=(jp xs ys k && gn (xs.getD k 0) (ys.getD k 0))):=D8 xs ys k;have HNk:=Na (HN.out k hlt);clear hc1 hc2 HX HY;generalize xs.getD k 0=x at *
      generalize ys.getD k 0=y at *
      cases t:gn x y with
      | true =>
        rw [t] at L;have HS2:Hid (jp xs ys (k+1)=true):=by rw [Hid,HS.out,hK2.out,t];rfl
        clear t;go_wp2_with fail;refine (L.out _).mono ?_;rintro e w2 ⟨rfl,rfl⟩;go_wp2_with fail
        go_round
        case rel=>exact ⟨k+1,by omega,by go_num,HS2⟩
        case measure=>simp [intOf];omega
      | false =>
        rw [t] at L;have HF:=Na (HNk.out t);clear t;go_wp2_with fail;refine (L.out _).mono ?_;rintro e w2 ⟨rfl,rfl⟩;go_wp2_with fail;go_ret;exact ⟨av HF.out.symm,rfl⟩
    · have:k=xs.length:=by omega
      subst this;have HF:Hid (qS xs ys=true):=by rw [Hid,HE.out,hK2.out]
      go_wp2_with fail;go_ret;exact ⟨av HF.out.symm,rfl⟩
 · have hb1:((xs.length:Int) != (ys.length:Int))=true:=by simp;omega
   have HF:Hid (qS xs ys=false):=by simp [Hid,qS,hlen]
   clear h g
   go_enter Tryz.func39,Tryz.ntmps39;go_wp2_with fail;go_ret;exact ⟨av HF.out.symm,rfl⟩
theorem Am (w:World) (R C P T U N:Int) (aA:Option Addr) (cA:Nat) (xA:List Int) (aB:Option Addr) (cB:Nat) (xB:List Int) (aV:Option Addr) (cV:Nat) (xV:List Int) (aW:Option Addr) (cW:Nat) (xW:List Int) (aC:Option Addr) (cC:Nat) (xC:List Int) (aT:Option Addr) (cT:Nat) (xT:List Nat) (R' C' P' T' U' N':Int) (bA:Option Addr) (dA:Nat) (yA:List Int) (bB:Option Addr) (dB:Nat) (yB:List Int) (bV:Option Addr) (dV:Nat) (yV:List Int) (bW:Option Addr) (dW:Nat) (yW:List Int) (bC:Option Addr) (dC:Nat) (yC:List Int) (bT:Option Addr) (dT:Nat) (yT:List Nat) (h:RdDesk w w.heap.size aA xA aB xB aV xV aW xW aC xC aT xT) (g:RdDesk w w.heap.size bA yA bB yB bV yV bW yW bC yC bT yT) (lA:xA.length≤1048576) (mA:yA.length≤1048576) (lB:xB.length≤1048576) (mB:yB.length≤1048576) (lV:xV.length≤1048576) (mV:yV.length≤1048576) (lW:xW.length≤1048576) (mW:yW.length≤1048576) (lC:xC.length≤1048576) (mC:yC.length≤1048576) (lT:xT.length≤1048576) (mT:yT.length≤1048576) (wfx:∀ v∈xT,v<4294967296) (wfy:∀ v∈yT,v<4294967296) :
 Calls Tryz.prog 10 #[.agg #[.int .i64 R,.int .i64 C,.slice aA xA.length cA,.slice aB xB.length cB,.int .i64 P,.int .i64 T,.slice aV xV.length cV,.int .i64 U,.int .i64 N,.slice aW xW.length cW,.slice aC xC.length cC,.slice aT xT.length cT],.agg #[.int .i64 R',.int .i64 C',.slice bA yA.length dA,.slice bB yB.length dB,.int .i64 P',.int .i64 T',.slice bV yV.length dV,.int .i64 U',.int .i64 N',.slice bW yW.length dW,.slice bC yC.length dC,.slice bT yT.length dT]] w fun e w'=>e=.returned (.bool (kP R C P T U N xA xB xV xW xC xT R' C' P' T' U' N' yA yB yV yW yC yT))∧Below w.heap.size w w':=by
 have B0:=Na (bR w (.cells #[.int .i64 R,.int .i64 C,.slice aA xA.length cA,.slice aB xB.length cB,.int .i64 P,.int .i64 T,.slice aV xV.length cV,.int .i64 U,.int .i64 N,.slice aW xW.length cW,.slice aC xC.length cC,.slice aT xT.length cT] 33) (.cells #[.int .i64 R',.int .i64 C',.slice bA yA.length dA,.slice bB yB.length dB,.int .i64 P',.int .i64 T',.slice bV yV.length dV,.int .i64 U',.int .i64 N',.slice bW yW.length dW,.slice bC yC.length dC,.slice bT yT.length dT] 33));obtain ⟨K,J⟩:=MN w [.int .i64 R,.int .i64 C,.slice aA xA.length cA,.slice aB xB.length cB,.int .i64 P,.int .i64 T,.slice aV xV.length cV,.int .i64 U,.int .i64 N,.slice aW xW.length cW,.slice aC xC.length cC,.slice aT xT.length cT] [.int .i64 R',.int .i64 C',.slice bA yA.length dA,.slice bB yB.length dB,.int .i64 P',.int .i64 T',.slice bV yV.length dV,.int .i64 U',.int .i64 N',.slice bW yW.length dW,.slice bC yC.length dC,.slice bT yT.length dT] 33;have K0:=Na K;have J0:=Na J;clear K J;have H:=Na (fun (v:World) (hb:Below w.heap.size w v)=>h.to hb)
 have G:=Na (fun (v:World) (hb:Below w.heap.size w v)=>g.to hb)
 clear h g;have L1:=Na (fun v hb=>zv v R C aA cA xA aB cB xB R' C' bA dA yA bB dB yB (H.out v hb).A (G.out v hb).A lA mA (H.out v hb).B (G.out v hb).B lB mB)
 have L2:=Na (fun v hb=>wM v P T aV cV xV P' T' bV dV yV (H.out v hb).V (G.out v hb).V lV mV)
 have L3:=Na (fun v hb=>yI v U N aW cW xW aC cC xC U' N' bW dW yW bC dC yC (H.out v hb).W (G.out v hb).W lW mW (H.out v hb).C (G.out v hb).C lC mC)
 have L4:=Na (fun v hb=>yG v aT bT cT dT xT yT (H.out v hb).T (G.out v hb).T lT mT wfx wfy)
 obtain ⟨z0,z1,z2,z3,z4,z5,z6,z7,z8,z9,z10,z11⟩:=af K0.out;obtain ⟨y0,y1,y2,y3,y4,y5,y6,y7,y8,y9,y10,y11⟩:=af J0.out;clear H G
 cases t1:eQ R C xA xB R' C' yA yB with
 | false =>
   have HF:Hid (kP R C P T U N xA xB xV xW xC xT R' C' P' T' U' N' yA yB yV yW yC yT=false):=by simp [Hid,kP,t1]
   rw [t1] at L1;clear t1
   go_enter Tryz.func10,Tryz.ntmps10;go_wp2_with fail;refine (L1.out _ B0.out).mono ?_;rintro e w1 ⟨rfl,hb⟩;have B1:=Na (aa B0.out hb);have K1:=Na (K0.out.same hb);have J1:=Na (J0.out.same hb);clear hb;clear z0 z1 z2 z3 z4 z5 z6 z7 z8 z9 z10 z11 y0 y1 y2 y3 y4 y5 y6 y7 y8 y9 y10 y11;obtain ⟨z0,z1,z2,z3,z4,z5,z6,z7,z8,z9,z10,z11⟩:=af K1.out;obtain ⟨y0,y1,y2,y3,y4,y5,y6,y7,y8,y9,y10,y11⟩:=af J1.out;go_wp2_with fail;go_ret;exact ⟨av HF.out.symm,B1.out⟩
 | true =>
 cases t2:lQ P T xV P' T' yV with
 | false =>
   have HF:Hid (kP R C P T U N xA xB xV xW xC xT R' C' P' T' U' N' yA yB yV yW yC yT=false):=by simp [Hid,kP,t1,t2]
   rw [t1] at L1;rw [t2] at L2;clear t1 t2
   go_enter Tryz.func10,Tryz.ntmps10;go_wp2_with fail;refine (L1.out _ B0.out).mono ?_;rintro e w1 ⟨rfl,hb⟩;have B1:=Na (aa B0.out hb);have K1:=Na (K0.out.same hb);have J1:=Na (J0.out.same hb);clear hb;clear z0 z1 z2 z3 z4 z5 z6 z7 z8 z9 z10 z11 y0 y1 y2 y3 y4 y5 y6 y7 y8 y9 y10 y11;obtain ⟨z0,z1,z2,z3,z4,z5,z6,z7,z8,z9,z10,z11⟩:=af K1.out;obtain ⟨y0,y1,y2,y3,y4,y5,y6,y7,y8,y9,y10,y11⟩:=af J1.out;go_wp2_with fail;refine (L2.out _ B1.out).mono ?_;rintro e w2 ⟨rfl,hb⟩;have B2:=Na (aa B1.out hb);have K2:=Na (K1.out.same hb);have J2:=Na (J1.out.same hb);clear hb;clear z0 z1 z2 z3 z4 z5 z6 z7 z8 z9 z10 z11 y0 y1 y2 y3 y4 y5 y6 y7 y8 y9 y10 y11;obtain ⟨z0,z1,z2,z3,z4,z5,z6,z7,z8,z9,z10,z11⟩:=af K2.out;obtain ⟨y0,y1,y2,y3,y4,y5,y6,y7,y8,y9,y10,y11⟩:=af J2.out;go_wp2_with fail;go_ret;exact ⟨av HF.out.symm,B2.out⟩
 | true =>
 cases t3:eQ U N xW xC U' N' yW yC with
 | false =>
   have HF:Hid (kP R C P T U N xA xB xV xW xC xT R' C' P' T' U' N' yA yB yV yW yC yT=false):=by simp [Hid,kP,t1,t2,t3]
   rw [t1] at L1;rw [t2] at L2;rw [t3] at L3;clear t1 t2 t3
   go_enter Tryz.func10,Tryz.ntmps10;go_wp2_with fail;refine (L1.out _ B0.out).mono ?_;rintro e w1 ⟨rfl,hb⟩;have B1:=Na (aa B0.out hb);have K1:=Na (K0.out.same hb);have J1:=Na (J0.out.same hb);clear hb;clear z0 z1 z2 z3 z4 z5 z6 z7 z8 z9 z10 z11 y0 y1 y2 y3 y4 y5 y6 y7 y8 y9 y10 y11;obtain ⟨z0,z1,z2,z3,z4,z5,z6,z7,z8,z9,z10,z11⟩:=af K1.out;obtain ⟨y0,y1,y2,y3,y4,y5,y6,y7,y8,y9,y10,y11⟩:=af J1.out;go_wp2_with fail;refine (L2.out _ B1.out).mono ?_;rintro e w2 ⟨rfl,hb⟩;have B2:=Na (aa B1.out hb);have K2:=Na (K1.out.same hb);have J2:=Na (J1.out.same hb);clear hb;clear z0 z1 z2 z3 z4 z5 z6 z7 z8 z9 z10 z11 y0 y1 y2 y3 y4 y5 y6 y7 y8 y9 y10 y11;obtain ⟨z0,z1,z2,z3,z4,z5,z6,z7,z8,z9,z10,z11⟩:=af K2.out;obtain ⟨y0,y1,y2,y3,y4,y5,y6,y7,y8,y9,y10,y11⟩:=af J2.out;go_wp2_with fail;refine (L3.out _ B2.out).mono ?_;rintro e w3 ⟨rfl,hb⟩;have B3:=Na (aa B2.out hb);have K3:=Na (K2.out.same hb);have J3:=Na (J2.out.same hb);clear hb;clear z0 z1 z2 z3 z4 z5 z6 z7 z8 z9 z10 z11 y0 y1 y2 y3 y4 y5 y6 y7 y8 y9 y10 y11;obtain ⟨z0,z1,z2,z3,z4,z5,z6,z7,z8,z9,z10,z11⟩:=af K3.out;obtain ⟨y0,y1,y2,y3,y4,y5,y6,y7,y8,y9,y10,y11⟩:=af J3.out;go_wp2_with fail;go_ret;exact ⟨av HF.out.symm,B3.out⟩
 | true =>
 have HF:Hid (kP R C P T U N xA xB xV xW xC xT R' C' P' T' U' N' yA yB yV yW yC yT=qS xT yT):=by simp [Hid,kP,t1,t2,t3]
 rw [t1] at L1;rw [t2] at L2;rw [t3] at L3;clear t1 t2 t3
 go_enter Tryz.func10,Tryz.ntmps10;go_wp2_with fail;refine (L1.out _ B0.out).mono ?_;rintro e w1 ⟨rfl,hb⟩;have B1:=Na (aa B0.out hb);have K1:=Na (K0.out.same hb);have J1:=Na (J0.out.same hb);clear hb;clear z0 z1 z2 z3 z4 z5 z6 z7 z8 z9 z10 z11 y0 y1 y2 y3 y4 y5 y6 y7 y8 y9 y10 y11;obtain ⟨z0,z1,z2,z3,z4,z5,z6,z7,z8,z9,z10,z11⟩:=af K1.out;obtain ⟨y0,y1,y2,y3,y4,y5,y6,y7,y8,y9,y10,y11⟩:=af J1.out;go_wp2_with fail;refine (L2.out _ B1.out).mono ?_;rintro e w2 ⟨rfl,hb⟩;have B2:=Na (aa B1.out hb);have K2:=Na (K1.out.same hb);have J2:=Na (J1.out.same hb);clear hb;clear z0 z1 z2 z3 z4 z5 z6 z7 z8 z9 z10 z11 y0 y1 y2 y3 y4 y5 y6 y7 y8 y9 y10 y11;obtain ⟨z0,z1,z2,z3,z4,z5,z6,z7,z8,z9,z10,z11⟩:=af K2.out;obtain ⟨y0,y1,y2,y3,y4,y5,y6,y7,y8,y9,y10,y11⟩:=af J2.out;go_wp2_with fail;refine (L3.out _ B2.out).mono ?_;rintro e w3 ⟨rfl,hb⟩;have B3:=Na (aa B2.out hb);have K3:=Na (K2.out.same hb);have J3:=Na (J2.out.same hb);clear hb;clear z0 z1 z2 z3 z4 z5 z6 z7 z8 z9 z10 z11 y0 y1 y2 y3 y4 y5 y6 y7 y8 y9 y10 y11;obtain ⟨z0,z1,z2,z3,z4,z5,z6,z7,z8,z9,z10,z11⟩:=af K3.out;obtain ⟨y0,y1,y2,y3,y4,y5,y6,y7,y8,y9,y10,y11⟩:=af J3.out;go_wp2_with fail;refine (L4.out _ B3.out).mono ?_;rintro e w4 ⟨rfl,rfl⟩;have B4:=Na B3.out;go_wp2_with fail;go_ret;exact ⟨av HF.out.symm,B4.out⟩
theorem Cf (w:World) (d:DD) (x:DA) (h:DRd w w.heap.size d x) (hs:d.small):Calls Tryz.prog 9 #[d.val x] w fun e w'=>e=.returned (.bool d.ok)∧Below w.heap.size w w':=by
 obtain ⟨m1,m2,m3,m4,m5,m6⟩:=hs;exact jM w d.R d.C x.a x.ca d.A x.b x.cb d.B d.P d.T x.v x.cv d.V d.U d.N x.w x.cw d.W x.k x.ck d.K x.f x.cf d.F h.r m1 m2 m3 m4 m5 m6
def rt (d d':DD):Bool:=kP d.R d.C d.P d.T d.U d.N d.A d.B d.V d.W d.K d.F d'.R d'.C d'.P d'.T d'.U d'.N d'.A d'.B d'.V d'.W d'.K d'.F
theorem Eh (xs:List Nat):∀ n,jp xs xs n=true:=by
 intro n;unfold jp;rw [List.all_eq_true];intro k _;unfold gn;simp
theorem md (d:DD):rt d d=true:=by
 unfold rt kP eQ lQ qS;rw [Eh];simp
theorem mS (w:World) (d d':DD) (x x':DA) (h:DRd w w.heap.size d x) (h':DRd w w.heap.size d' x') (hs:d.small) (hs':d'.small):Calls Tryz.prog 10 #[d.val x,d'.val x'] w fun e w'=>e=.returned (.bool (rt d d'))∧Below w.heap.size w w':=by
 obtain ⟨m1,m2,m3,m4,m5,m6⟩:=hs;obtain ⟨n1,n2,n3,n4,n5,n6⟩:=hs';exact Am w d.R d.C d.P d.T d.U d.N x.a x.ca d.A x.b x.cb d.B x.v x.cv d.V x.w x.cw d.W x.k x.ck d.K x.f x.cf d.F d'.R d'.C d'.P d'.T d'.U d'.N x'.a x'.ca d'.A x'.b x'.cb d'.B x'.v x'.cv d'.V x'.w x'.cw d'.W x'.k x'.ck d'.K x'.f x'.cf d'.F h.r h'.r m1 n1 m2 n2 m3 n3 m4 n4 m5 n5 m6 n6 h.f h'.f
section
variable (w:World) (o:DD) (x:DA) (h:DRd w w.heap.size o x) (hk:o.ok=true) (hE:Env w)
include h hk
include hE in
theorem EZ:Calls Tryz.prog 13 #[.agg #[.int .i64 o.R,.int .i64 o.C,.slice x.a o.A.length x.ca,.slice x.b o.B.length x.cb]] w fun e w'=>e=.returned (.tuple #[.string (bs (gT o)),.bool true])∧Below w.heap.size w w':=by
 obtain ⟨m1,m2,m3,m4,m5,m6⟩:=dO hk;have e:fj o.R o.C o.A o.B=some (gT o):=by unfold fj;rw [if_pos (DD.ok_parts hk).1];rfl
 have:=rG w hE.tab o.R o.C x.a x.ca o.A x.b x.cb o.B ⟨h.r.A,h.r.B⟩ m1 m2;rw [e] at this;exact this
include hE in
theorem A4:Calls Tryz.prog 15 #[.agg #[.int .i64 o.P,.int .i64 o.T,.slice x.v o.V.length x.cv]] w fun e w'=>e=.returned (.tuple #[.string (bs (vT o)),.bool true])∧Below w.heap.size w w':=by
 obtain ⟨m1,m2,m3,m4,m5,m6⟩:=dO hk;have e:ec o.P o.T o.V=some (vT o):=by unfold ec;rw [if_pos (DD.ok_parts hk).2.1];rfl
 have:=pw w hE.tab o.P o.T x.v x.cv o.V h.r.V m3;rw [e] at this;exact this
include hE in
theorem Bh:Calls Tryz.prog 17 #[.agg #[.int .i64 o.U,.int .i64 o.N,.slice x.w o.W.length x.cw,.slice x.k o.K.length x.ck]] w fun e w'=>e=.returned (.tuple #[.string (bs (cT o)),.bool true])∧Below w.heap.size w w':=by
 obtain ⟨m1,m2,m3,m4,m5,m6⟩:=dO hk;have e:eE o.U o.N o.W o.K=some (cT o):=by unfold eE;rw [if_pos (DD.ok_parts hk).2.2.1];rfl
 have:=qP w hE.tab o.U o.N x.w x.cw o.W x.k x.ck o.K ⟨h.r.W,h.r.C⟩ m4 m5;rw [e] at this;exact this
include hE in
theorem CC:Calls Tryz.prog 19 #[.slice x.f o.F.length x.cf] w fun e w'=>e=.returned (.tuple #[.string (bs (ba o.F)),.bool true])∧Below w.heap.size w w':=by
 obtain ⟨m1,m2,m3,m4,m5,m6⟩:=dO hk;have hF:=(DD.ok_len hk).2.2.2.2.2.2;have:=kJ w hE.bit x.f x.cf o.F h.r.T h.f m6;rw [if_pos (by omega)] at this
 exact this.mono fun e w' h=>⟨h.2,h.1⟩
end
structure DeS (w v:World) (g gN:Nat) (o dn:DD) (x xn:DA) (aL:Option Addr) (ls:List (List UInt8)):Prop where
 W:Below w.heap.size w v
 K:Blk v g (o.cells x) 33
 D:DRd v gN o x
 N:Blk v gN (dn.cells xn) 33
 M:DRd v v.heap.size dn xn
 L:Rd v gN aL (cn ls)
 E:Env w
 gg:w.heap.size≤g∧g<gN
section
variable {w v v1:World} {g gN:Nat} {o dn:DD} {x xn:DA} {aL:Option Addr} {ls:List (List UInt8)}
theorem DeS.to (h:DeS w v g gN o dn x xn aL ls) (hb:Below v.heap.size v v1):DeS w v1 g gN o dn x xn aL ls :=
 ⟨aa h.W hb,h.K.same hb,h.D.below hb (Nat.le_of_lt h.N.lt),h.N.same hb,h.M.to hb,h.L.below hb (Nat.le_of_lt h.N.lt),h.E,h.gg⟩
theorem DeS.env (h:DeS w v g gN o dn x xn aL ls):Env v:=h.E.to h.W
theorem DeS.rd (h:DeS w v g gN o dn x xn aL ls):DRd v v.heap.size o x:=h.D.mono (Nat.le_of_lt h.N.lt)
theorem DeS.lines (h:DeS w v g gN o dn x xn aL ls):Rd v v.heap.size aL (cn ls):=h.L.mono (Nat.le_of_lt h.N.lt)
theorem DeS.step {v5 wz:World} {lo hi:Nat} {d':DD} {y:DA} (h:DeS w v g gN o dn x xn aL ls) (hb:Below v.heap.size v v5) (hO:OwnDd v5 lo hi d' y) (hlo:v.heap.size≤lo) (hhi:hi≤v5.heap.size) (hF:∀ y∈d'.F,y<4294967296)
 (hp:fg v5 gN (.int .i64 d'.R) (.int .i64 d'.C) (.slice y.a d'.A.length y.ca) (.slice y.b d'.B.length y.cb) (.int .i64 d'.P) (.int .i64 d'.T) (.slice y.v d'.V.length y.cv) (.int .i64 d'.U) (.int .i64 d'.N) (.slice y.w d'.W.length y.cw) (.slice y.k d'.K.length y.ck) (.slice y.f d'.F.length y.cf)=wz):DeS w wz g gN o d' x y aL ls:=by
 have T:Touch v5 wz gN (gN+1):=by rw [← hp];exact et _ _ _ _ _ _ _ _ _ _ _ _ _ _
 have s5:wz.heap.size=v5.heap.size:=by rw [← hp];exact nj _ _ _ _ _ _ _ _ _ _ _ _ _ _
 have hN:=h.N.lt;have h5:=hb.size;obtain ⟨g1,g2⟩:=h.gg;have B:=aE (Below.refl gN v5) T (Nat.le_refl _) (by omega)
 have K1:=h.K.same hb;have D1:=h.D.below hb (Nat.le_of_lt hN);have L1:=h.L.below hb (Nat.le_of_lt hN);refine ⟨aE (aa h.W hb) T (by omega) (by have:=h.W.size;omega),K1.touch T (.inl g2),D1.below B (Nat.le_refl _),by rw [← hp];exact fS (h.N.same hb) _ _ _ _ _ _ _ _ _ _ _ _,?_,L1.below B (Nat.le_refl _),h.E,⟨g1,g2⟩⟩
 exact ((hO.touch T (by omega)).mono (lo':=lo) (hi':=wz.heap.size) (Nat.le_refl _) (by omega)).rd hF
end
theorem M8 (w v0:World) (g gN gE n nb cL:Nat) (o dn:DD) (x xn xe:DA) (aL:Option Addr) (sW:ByteArray) (gG gV gC c1 c2 c3 c4 c5 cF:Nat) (a1 a2 a3 a4 a5 aF:Option Addr) (HW:Hid (Below w.heap.size w v0)) (HO:Hid (Drawn o)) (HN:Hid (dn.ok=true)) (hnb:nb≤n) (hn:n≤5) (K0:Hid (Blk v0 g (o.cells x) 33)) (D0:Hid (DRd v0 v0.heap.size o x)) (KN:Hid (Blk v0 gN (dn.cells xn) 33)) (DN:Hid (DRd v0 v0.heap.size dn xn)) (KE:Hid (Blk v0 gE (dn.cells xe) 33)) (DE:Hid (DRd v0 v0.heap.size dn xe)) (KG:Hid (Blk v0 gG [.int .i64 o.R,.int .i64 o.C,.slice a1 o.A.length c1,.slice a2 o.B.length c2] 26)) (KV:Hid (Blk v0 gV [.int .i64 o.P,.int .i64 o.T,.slice a3 o.V.length c3] 28)) (KC:Hid (Blk v0 gC [.int .i64 o.U,.int .i64 o.N,.slice a4 o.W.length c4,.slice a5 o.K.length c5] 30)) (R1:Hid (Rd v0 v0.heap.size a1 (ae o.A))) (R2:Hid (Rd v0 v0.heap.size a2 (ae o.B))) (R3:Hid (Rd v0 v0.heap.size a3 (ae o.V))) (R4:Hid (Rd v0 v0.heap.size a4 (ae o.W))) (R5:Hid (Rd v0 v0.heap.size a5 (ae o.K))) (R6:Hid (Rd v0 v0.heap.size aF (dt o.F))) (K:Act→World→Prop) (hK:∀ (a:Act) (v:World),Code.wp Tryz.prog (((Tryz.f3).body.bind (px 32)).getD .skip) (bodyPost Tryz.prog Tryz.f3 fun e w'=>e=.returned (.bool true)∧Below w.heap.size w w') a v→K a v)
 {z0 z1 z2 z3 z4 z8 z11 z12 z13 z14 z21 z25 z29 z33 z37 z38 z39 z40 z41 z42 z43 z44 z45 z46 z47 z48 z49 z50 z51 z52 z53 z54 z55 z56 z57 z58 z59 z60 z61 z62 z63 z64 z65 z66 z67 z68 z69 z70 z71 z72 z73 z74 z75 z76 z77 z78 z79 z80 z81 z82 z83 z84 z85 z86 z87 z88 z89 z90 z91 z92 z93 z94 z95 z96 z97 z98 z99 z100 z101 z102 z103 z104 z105 z106 z107 z108 z109 z110 z111 z112 z113 z114 z115 z116 z117 z118 z119 z120 z121 z122 z123 z124 z125 z126 z127 z128 z129 z130 z131 z132 z133 z134 z135 z136 z137 z138 z139 z140 z141 z142 z143 z144 z145 z146 z147 z148 z149 z150 z151 z152 z153 z154 z155 z156 z157 z158 z159 z160 z161 z162 z163 z164 z165 z166 z167 z168 z169 z170 z171 z172 z173 z174 z175 z176 z177 z178 z179 z180 z181 z182 z183 z184 z185 z186 z187 z188 z189 z190 z191 z192 z193 z194 z195 z196 z197 z198 z199 z200 z201 z202 z203 z204 z205 z206 z207 z208:Value} :
 Code.wp Tryz.prog (((Tryz.f3).body.bind (yM 32)).getD .skip) (Exit.then K (bodyPost Tryz.prog Tryz.f3 fun e w'=>e=.returned (.bool true)∧Below w.heap.size w w')) ⟨#[z0,z1,z2,z3,z4,.pointer (some ⟨g,0,none⟩),.slice aL n cL,.pointer (some ⟨gN,0,none⟩),z8,.string sW,.int .i64 nb,z11,z12,z13,z14,.pointer (some ⟨gE,0,none⟩),.string sW,.bool true,.int .i64 nb,.int .i64 ((n:Int) - (nb:Int)),.bool true,z21,.bool true,.pointer (some ⟨gG,0,none⟩),.bool true,z25,.bool true,.pointer (some ⟨gV,0,none⟩),.bool true,z29,.bool true,.pointer (some ⟨gC,0,none⟩),.bool true,z33,.bool true,.slice aF o.F.length cF,.bool true,z37,z38,z39,z40,z41,z42,z43,z44,z45,z46,z47,z48,z49,z50,z51,z52,z53,z54,z55,z56,z57,z58,z59,z60,z61,z62,z63,z64,z65,z66,z67,z68,z69,z70,z71,z72,z73,z74,z75,z76,z77,z78,z79,z80,z81,z82,z83,z84,z85,z86,z87,z88,z89,z90,z91,z92,z93,z94,z95,z96,z97,z98,z99,z100,z101,z102,z103,z104,z105,z106,z107,z108,z109,z110,z111,z112,z113,z114,z115,z116,z117,z118,z119,z120,z121,z122,z123,z124,z125,z126,z127,z128,z129,z130,z131,z132,z133,z134,z135,z136,z137,z138,z139,z140,z141,z142,z143,z144,z145,z146,z147,z148,z149,z150,z151,z152,z153,z154,z155,z156,z157,z158,z159,z160,z161,z162,z163,z164,z165,z166,z167,z168,z169,z170,z171,z172,z173,z174,z175,z176,z177,z178,z179,z180,z181,z182,z183,z184,z185,z186,z187,z188,z189,z190,z191,z192,z193,z194,z195,z196,z197,z198,z199,z200,z201,z202,z203,z204,z205,z206,z207,z208],[]⟩ v0:=by
 obtain ⟨cr,hcr⟩:∃ c,c=(((Tryz.f3).body.bind (px 32)).getD .skip):=⟨_,rfl⟩;rw [← hcr] at hK
 conv at hcr=>rhs;whnf
 subst hcr
 conv=>arg 2;whnf
 have hs:(sW.toList == sW.toList)=true:=by simp
 have en:IntKind.i64.wrap ((n:Int) - (nb:Int))=(n:Int) - (nb:Int):=IntWalk.i64_in _ (by omega)
 have n0:(0:Int)≤(n:Int):=Int.natCast_nonneg _;have b0:(0:Int)≤(nb:Int):=Int.natCast_nonneg _;have hnI:(n:Int)≤5:=by omega
 have hnbI:(nb:Int)≤(n:Int):=by omega
 obtain ⟨d0,d1,d2,d3,d4,d5,d6,d7,d8,d9,d10,d11⟩:=af KE.out;obtain ⟨e0,e1,e2,e3,e4,e5,e6,e7,e8,e9,e10,e11⟩:=af KN.out;have hsm:=dO HN.out;have LS:=Na (mS v0 dn dn xe xn DE.out DN.out hsm hsm);rw [md] at LS;unfold DD.val at LS
 try dsimp only at LS
 clear hsm;go_wp2_with fail;refine LS.out.mono ?_;rintro e v1 ⟨rfl,hb⟩;have HB:=Na (aa HW.out hb);have D1:=D0.out.to hb;have K1:=Na (K0.out.same hb);have KG1:=KG.out.same hb;have KV1:=KV.out.same hb;have KC1:=KC.out.same hb;have hsm:=dO HO.out.ok;have LS2:=Na (mS v1 o o ⟨a1,c1,a2,c2,a3,c3,a4,c4,a5,c5,aF,cF⟩ x ⟨⟨R1.out.to hb,R2.out.to hb,R3.out.to hb,R4.out.to hb,R5.out.to hb,R6.out.to hb⟩,D0.out.f⟩ D1 hsm hsm);rw [md] at LS2;unfold DD.val at LS2
 try dsimp only at LS2
 clear LS hb hsm D1 d0 d1 d2 d3 d4 d5 d6 d7 d8 d9 d10 d11 e0 e1 e2 e3 e4 e5 e6 e7 e8 e9 e10 e11;obtain ⟨e0,e1,e2,e3,e4,e5,e6,e7,e8,e9,e10,e11⟩:=af K1.out;have g0:v1.cell? ⟨gG,0,none⟩=some (.int .i64 o.R):=KG1.cell 0;have g1:v1.cell? ⟨gG,1,none⟩=some (.int .i64 o.C):=KG1.cell 1;have g2:v1.cell? ⟨gG,2,none⟩=some (.slice a1 o.A.length c1):=KG1.cell 2;have g3:v1.cell? ⟨gG,3,none⟩=some (.slice a2 o.B.length c2):=KG1.cell 3;have h0:v1.cell? ⟨gV,0,none⟩=some (.int .i64 o.P):=KV1.cell 0;have h1:v1.cell? ⟨gV,1,none⟩=some (.int .i64 o.T):=KV1.cell 1;have h2:v1.cell? ⟨gV,2,none⟩=some (.slice a3 o.V.length c3):=KV1.cell 2;have i0:v1.cell? ⟨gC,0,none⟩=some (.int .i64 o.U):=KC1.cell 0;have i1:v1.cell? ⟨gC,1,none⟩=some (.int .i64 o.N):=KC1.cell 1;have i2:v1.cell? ⟨gC,2,none⟩=some (.slice a4 o.W.length c4):=KC1.cell 2;have i3:v1.cell? ⟨gC,3,none⟩=some (.slice a5 o.K.length c5):=KC1.cell 3;clear KG1 KV1 KC1;go_wp2_with fail;refine LS2.out.mono ?_;rintro e v2 ⟨rfl,hb⟩;have HB2:=Na (aa HB.out hb);go_wp2_with fail;go_ret;exact ⟨rfl,HB2.out⟩
theorem M4 (w v0:World) (g gN gE n nb cL:Nat) (o dn:DD) (x xn xe:DA) (aL:Option Addr) (sW:ByteArray) (HW:Hid (Below w.heap.size w v0)) (HO:Hid (Drawn o)) (HN:Hid (dn.ok=true)) (hnb:nb≤n) (hn:n≤5) (K0:Hid (Blk v0 g (o.cells x) 33)) (D0:Hid (DRd v0 v0.heap.size o x)) (KN:Hid (Blk v0 gN (dn.cells xn) 33)) (DN:Hid (DRd v0 v0.heap.size dn xn)) (KE:Hid (Blk v0 gE (dn.cells xe) 33)) (DE:Hid (DRd v0 v0.heap.size dn xe)) (HE:Hid (Env v0)) (K:Act→World→Prop) (hK:∀ (a:Act) (v:World),Code.wp Tryz.prog (((Tryz.f3).body.bind (px 24)).getD .skip) (bodyPost Tryz.prog Tryz.f3 fun e w'=>e=.returned (.bool true)∧Below w.heap.size w w') a v→K a v)
 {z0 z1 z2 z3 z4 z8 z11 z12 z13 z14 z21 z22 z23 z24 z25 z26 z27 z28 z29 z30 z31 z32 z33 z34 z35 z36 z37 z38 z39 z40 z41 z42 z43 z44 z45 z46 z47 z48 z49 z50 z51 z52 z53 z54 z55 z56 z57 z58 z59 z60 z61 z62 z63 z64 z65 z66 z67 z68 z69 z70 z71 z72 z73 z74 z75 z76 z77 z78 z79 z80 z81 z82 z83 z84 z85 z86 z87 z88 z89 z90 z91 z92 z93 z94 z95 z96 z97 z98 z99 z100 z101 z102 z103 z104 z105 z106 z107 z108 z109 z110 z111 z112 z113 z114 z115 z116 z117 z118 z119 z120 z121 z122 z123 z124 z125 z126 z127 z128 z129 z130 z131 z132 z133 z134 z135 z136 z137 z138 z139 z140 z141 z142 z143 z144 z145 z146 z147 z148 z149 z150 z151 z152 z153 z154 z155 z156 z157 z158 z159 z160 z161 z162 z163 z164 z165 z166 z167 z168 z169 z170 z171 z172 z173 z174 z175 z176 z177 z178 z179 z180 z181 z182 z183 z184 z185 z186 z187 z188 z189 z190 z191 z192 z193 z194 z195 z196 z197 z198 z199 z200 z201 z202 z203 z204 z205 z206 z207 z208:Value} :
 Code.wp Tryz.prog (((Tryz.f3).body.bind (yM 24)).getD .skip) (Exit.then K (bodyPost Tryz.prog Tryz.f3 fun e w'=>e=.returned (.bool true)∧Below w.heap.size w w')) ⟨#[z0,z1,z2,z3,z4,.pointer (some ⟨g,0,none⟩),.slice aL n cL,.pointer (some ⟨gN,0,none⟩),z8,.string sW,.int .i64 nb,z11,z12,z13,z14,.pointer (some ⟨gE,0,none⟩),.string sW,.bool true,.int .i64 nb,.int .i64 ((n:Int) - (nb:Int)),.bool true,z21,z22,z23,z24,z25,z26,z27,z28,z29,z30,z31,z32,z33,z34,z35,z36,z37,z38,z39,z40,z41,z42,z43,z44,z45,z46,z47,z48,z49,z50,z51,z52,z53,z54,z55,z56,z57,z58,z59,z60,z61,z62,z63,z64,z65,z66,z67,z68,z69,z70,z71,z72,z73,z74,z75,z76,z77,z78,z79,z80,z81,z82,z83,z84,z85,z86,z87,z88,z89,z90,z91,z92,z93,z94,z95,z96,z97,z98,z99,z100,z101,z102,z103,z104,z105,z106,z107,z108,z109,z110,z111,z112,z113,z114,z115,z116,z117,z118,z119,z120,z121,z122,z123,z124,z125,z126,z127,z128,z129,z130,z131,z132,z133,z134,z135,z136,z137,z138,z139,z140,z141,z142,z143,z144,z145,z146,z147,z148,z149,z150,z151,z152,z153,z154,z155,z156,z157,z158,z159,z160,z161,z162,z163,z164,z165,z166,z167,z168,z169,z170,z171,z172,z173,z174,z175,z176,z177,z178,z179,z180,z181,z182,z183,z184,z185,z186,z187,z188,z189,z190,z191,z192,z193,z194,z195,z196,z197,z198,z199,z200,z201,z202,z203,z204,z205,z206,z207,z208],[]⟩ v0:=by
 obtain ⟨cr,hcr⟩:∃ c,c=(((Tryz.f3).body.bind (px 24)).getD .skip):=⟨_,rfl⟩;rw [← hcr] at hK
 conv at hcr=>rhs;whnf
 subst hcr
 conv=>arg 2;whnf
 have hk:=HO.out.ok;obtain ⟨hG,hV,hC,-⟩:=DD.ok_parts hk;obtain ⟨e0,e1,e2,e3,-,-,-,-,-,-,-,-⟩:=af K0.out;have L:=Na (EZ v0 o x D0.out hk HE.out);go_wp2_with fail;refine L.out.mono ?_;rintro e v1 ⟨rfl,hb⟩;replace HW:=Na (aa HW.out hb);replace K0:=Na (K0.out.same hb);replace D0:=Na (D0.out.to hb);replace KN:=Na (KN.out.same hb);replace DN:=Na (DN.out.to hb);replace KE:=Na (KE.out.same hb);replace DE:=Na (DE.out.to hb);replace HE:=Na (HE.out.to hb);clear L e0 e1 e2 e3;obtain ⟨sG,hG⟩:∃ s,s=bs (gT o):=⟨_,rfl⟩;rw [← hG];have HSG:=Na hG;clear hG hb;have L:=Na (rx v1 HE.out.tab HE.out.shp HE.out.err sG (by rw [HSG.out,aI];have:=Mw hk;omega))
 rw [show gv bY sG.data.toList=(o.R,o.C,o.A,o.B,true) from by rw [HSG.out,cP];exact yD hG] at L
 unfold RetGame at L
 try dsimp only at L
 go_wp2_with fail;refine L.out.mono ?_;rintro e v2 ⟨hb,a1,c1,a2,c2,rfl,OG⟩;replace HW:=Na (aa HW.out hb);replace K0:=Na (K0.out.same hb);replace D0:=Na (D0.out.to hb);replace KN:=Na (KN.out.same hb);replace DN:=Na (DN.out.to hb);replace KE:=Na (KE.out.same hb);replace DE:=Na (DE.out.to hb);replace HE:=Na (HE.out.to hb);clear L;have R1:=Na (OG.rd.1.mono (Nat.le_refl _));have R2:=Na (OG.rd.2.mono (Nat.le_refl _));clear hb OG HSG;obtain ⟨v3,hv⟩:∃ X,X=v2.alloc (.cells #[.int .i64 o.R,.int .i64 o.C,.slice a1 o.A.length c1,.slice a2 o.B.length c2] 26):=⟨_,rfl⟩;have hb:Below v2.heap.size v2 v3:=by rw [hv];exact ah _ _
 have KG:Hid (Blk v3 v2.heap.size [.int .i64 o.R,.int .i64 o.C,.slice a1 o.A.length c1,.slice a2 o.B.length c2] 26):=by rw [hv];exact Blk.new v2 _ _
 replace HW:=Na (aa HW.out hb);replace K0:=Na (K0.out.same hb);replace D0:=Na (D0.out.to hb);replace KN:=Na (KN.out.same hb);replace DN:=Na (DN.out.to hb);replace KE:=Na (KE.out.same hb);replace DE:=Na (DE.out.to hb);replace HE:=Na (HE.out.to hb);replace R1:=Na (R1.out.to hb);replace R2:=Na (R2.out.to hb);clear hb
 go_upto_region 26 with fail
 rw [← hv];clear hv;obtain ⟨-,-,-,-,e4,e5,e6,-,-,-,-,-⟩:=af K0.out;have L:=Na (A4 v3 o x D0.out hk HE.out);go_wp2_with fail;refine L.out.mono ?_;rintro e v4 ⟨rfl,hb⟩;replace HW:=Na (aa HW.out hb);replace K0:=Na (K0.out.same hb);replace D0:=Na (D0.out.to hb);replace KN:=Na (KN.out.same hb);replace DN:=Na (DN.out.to hb);replace KE:=Na (KE.out.same hb);replace DE:=Na (DE.out.to hb);replace HE:=Na (HE.out.to hb);replace R1:=Na (R1.out.to hb);replace R2:=Na (R2.out.to hb);replace KG:=Na (KG.out.same hb);clear L e4 e5 e6;obtain ⟨sV,hV⟩:∃ s,s=bs (vT o):=⟨_,rfl⟩;rw [← hV];have HSV:=Na hV;clear hV hb;have L:=Na (pD v4 HE.out.tab HE.out.shp HE.out.err sV (by rw [HSV.out,aI];have:=Me hk;omega))
 rw [show mz bu sV.data.toList=(o.P,o.T,o.V,true) from by rw [HSV.out,cP];exact uB hV] at L
 unfold RetValues at L
 try dsimp only at L
 go_wp2_with fail;refine L.out.mono ?_;rintro e v5 ⟨hb,a3,c3,rfl,OV⟩;replace HW:=Na (aa HW.out hb);replace K0:=Na (K0.out.same hb);replace D0:=Na (D0.out.to hb);replace KN:=Na (KN.out.same hb);replace DN:=Na (DN.out.to hb);replace KE:=Na (KE.out.same hb);replace DE:=Na (DE.out.to hb);replace HE:=Na (HE.out.to hb);replace R1:=Na (R1.out.to hb);replace R2:=Na (R2.out.to hb);replace KG:=Na (KG.out.same hb);clear L;have R3:=Na (OV.rd.mono (Nat.le_refl _));clear hb OV HSV;obtain ⟨v6,hv⟩:∃ X,X=v5.alloc (.cells #[.int .i64 o.P,.int .i64 o.T,.slice a3 o.V.length c3] 28):=⟨_,rfl⟩;have hb:Below v5.heap.size v5 v6:=by rw [hv];exact ah _ _
 have KV:Hid (Blk v6 v5.heap.size [.int .i64 o.P,.int .i64 o.T,.slice a3 o.V.length c3] 28):=by rw [hv];exact Blk.new v5 _ _
 replace HW:=Na (aa HW.out hb);replace K0:=Na (K0.out.same hb);replace D0:=Na (D0.out.to hb);replace KN:=Na (KN.out.same hb);replace DN:=Na (DN.out.to hb);replace KE:=Na (KE.out.same hb);replace DE:=Na (DE.out.to hb);replace HE:=Na (HE.out.to hb);replace R1:=Na (R1.out.to hb);replace R2:=Na (R2.out.to hb);replace KG:=Na (KG.out.same hb);replace R3:=Na (R3.out.to hb);clear hb
 go_upto_region 28 with fail
 rw [← hv];clear hv;obtain ⟨-,-,-,-,-,-,-,e7,e8,e9,e10,-⟩:=af K0.out;have L:=Na (Bh v6 o x D0.out hk HE.out);go_wp2_with fail;refine L.out.mono ?_;rintro e v7 ⟨rfl,hb⟩;replace HW:=Na (aa HW.out hb);replace K0:=Na (K0.out.same hb);replace D0:=Na (D0.out.to hb);replace KN:=Na (KN.out.same hb);replace DN:=Na (DN.out.to hb);replace KE:=Na (KE.out.same hb);replace DE:=Na (DE.out.to hb);replace HE:=Na (HE.out.to hb);replace R1:=Na (R1.out.to hb);replace R2:=Na (R2.out.to hb);replace KG:=Na (KG.out.same hb);replace R3:=Na (R3.out.to hb);replace KV:=Na (KV.out.same hb);clear L e7 e8 e9 e10;obtain ⟨sC,hC⟩:∃ s,s=bs (cT o):=⟨_,rfl⟩;rw [← hC];have HSC:=Na hC;clear hC hb;have L:=Na (qR v7 HE.out.tab HE.out.shp HE.out.err sC (by rw [HSC.out,aI];have:=Mj hk;omega))
 rw [show gv ie sC.data.toList=(o.U,o.N,o.W,o.K,true) from by rw [HSC.out,cP];exact IK (qD hC) hC] at L
 unfold RetCrowd at L
 try dsimp only at L
 go_wp2_with fail;refine L.out.mono ?_;rintro e v8 ⟨hb,a4,c4,a5,c5,rfl,OC⟩;replace HW:=Na (aa HW.out hb);replace K0:=Na (K0.out.same hb);replace D0:=Na (D0.out.to hb);replace KN:=Na (KN.out.same hb);replace DN:=Na (DN.out.to hb);replace KE:=Na (KE.out.same hb);replace DE:=Na (DE.out.to hb);replace HE:=Na (HE.out.to hb);replace R1:=Na (R1.out.to hb);replace R2:=Na (R2.out.to hb);replace KG:=Na (KG.out.same hb);replace R3:=Na (R3.out.to hb);replace KV:=Na (KV.out.same hb);clear L;have R4:=Na (OC.rd.1.mono (Nat.le_refl _));have R5:=Na (OC.rd.2.mono (Nat.le_refl _));clear hb OC HSC;obtain ⟨v9,hv⟩:∃ X,X=v8.alloc (.cells #[.int .i64 o.U,.int .i64 o.N,.slice a4 o.W.length c4,.slice a5 o.K.length c5] 30):=⟨_,rfl⟩;have hb:Below v8.heap.size v8 v9:=by rw [hv];exact ah _ _
 have KC:Hid (Blk v9 v8.heap.size [.int .i64 o.U,.int .i64 o.N,.slice a4 o.W.length c4,.slice a5 o.K.length c5] 30):=by rw [hv];exact Blk.new v8 _ _
 replace HW:=Na (aa HW.out hb);replace K0:=Na (K0.out.same hb);replace D0:=Na (D0.out.to hb);replace KN:=Na (KN.out.same hb);replace DN:=Na (DN.out.to hb);replace KE:=Na (KE.out.same hb);replace DE:=Na (DE.out.to hb);replace HE:=Na (HE.out.to hb);replace R1:=Na (R1.out.to hb);replace R2:=Na (R2.out.to hb);replace KG:=Na (KG.out.same hb);replace R3:=Na (R3.out.to hb);replace KV:=Na (KV.out.same hb);replace R4:=Na (R4.out.to hb);replace R5:=Na (R5.out.to hb);clear hb
 go_upto_region 30 with fail
 rw [← hv];clear hv;obtain ⟨-,-,-,-,-,-,-,-,-,-,-,e11⟩:=af K0.out;have L:=Na (CC v9 o x D0.out hk HE.out);go_wp2_with fail;refine L.out.mono ?_;rintro e v10 ⟨rfl,hb⟩;replace HW:=Na (aa HW.out hb);replace K0:=Na (K0.out.same hb);replace D0:=Na (D0.out.to hb);replace KN:=Na (KN.out.same hb);replace DN:=Na (DN.out.to hb);replace KE:=Na (KE.out.same hb);replace DE:=Na (DE.out.to hb);replace HE:=Na (HE.out.to hb);replace R1:=Na (R1.out.to hb);replace R2:=Na (R2.out.to hb);replace KG:=Na (KG.out.same hb);replace R3:=Na (R3.out.to hb);replace KV:=Na (KV.out.same hb);replace R4:=Na (R4.out.to hb);replace R5:=Na (R5.out.to hb);replace KC:=Na (KC.out.same hb);clear L e11;obtain ⟨sF,hF⟩:∃ s,s=bs (ba o.F):=⟨_,rfl⟩;rw [← hF];have HSF:=Na hF;clear hF hb;have L:=Na (ox v10 HE.out.bit HE.out.shp HE.out.err sF (by rw [HSF.out,aI];have:=qd o.F;have:=(DD.ok_len hk).2.2.2.2.2.2;omega))
 rw [show eM sF.data.toList=some o.F from by rw [HSF.out,cP,zU (by have:=(DD.ok_len hk).2.2.2.2.2.2;omega) HO.out.lt,HO.out.F]] at L
 unfold vb at L
 try dsimp only at L
 go_wp2_with fail;refine L.out.mono ?_;rintro e v11 ⟨hb,aF,cF,rfl,OF⟩;replace HW:=Na (aa HW.out hb);replace K0:=Na (K0.out.same hb);replace D0:=Na (D0.out.to hb);replace KN:=Na (KN.out.same hb);replace DN:=Na (DN.out.to hb);replace KE:=Na (KE.out.same hb);replace DE:=Na (DE.out.to hb);replace HE:=Na (HE.out.to hb);replace R1:=Na (R1.out.to hb);replace R2:=Na (R2.out.to hb);replace KG:=Na (KG.out.same hb);replace R3:=Na (R3.out.to hb);replace KV:=Na (KV.out.same hb);replace R4:=Na (R4.out.to hb);replace R5:=Na (R5.out.to hb);replace KC:=Na (KC.out.same hb);clear L;have R6:=Na (ay OF (Nat.le_refl _));clear hb OF HSF hG hV hC hk
 go_upto_region 32 with fail
 refine M8 w v11 g gN gE n nb cL o dn x xn xe aL sW _ _ _ c1 c2 c3 c4 c5 cF a1 a2 a3 a4 a5 aF HW HO HN hnb hn K0 D0 KN DN KE DE KG KV KC R1 R2 R3 R4 R5 R6 _ ?hk
 case hk=>assumption
end Go.Proofs.YtbknhgapjjaelaaGreatDoor
