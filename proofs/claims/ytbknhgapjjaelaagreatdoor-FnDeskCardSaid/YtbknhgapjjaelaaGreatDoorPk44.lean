/-
  Part 44 of what the proof stands on: lemmas and contracts, each with its conditions ahead of the colon.
-/
import Derived.Test.YtbknhgapjjaelaaGreatDoorPk01
import Derived.Lib.ConvBytes
import Derived.Test.YtbknhgapjjaelaaGreatDoorPk10
import Derived.Test.YtbknhgapjjaelaaGreatDoorPk11
import Derived.Test.YtbknhgapjjaelaaGreatDoorPk13
import Derived.Test.YtbknhgapjjaelaaGreatDoorPk42
import Derived.Test.YtbknhgapjjaelaaGreatDoorPk43
set_option maxRecDepth 200000
set_option maxHeartbeats 16000000
namespace Go.Proofs.YtbknhgapjjaelaaGreatDoor
set_option linter.unusedVariables false
set_option linter.unusedSimpArgs false
open Go.RowKit
def MY (w:World) (B0 b:Nat) (a:Option Addr) (xs:List Int) (c p P T:Nat) (e:Ending) (w':World):Prop :=
 ∃ (aV:Option Addr) (cV:Nat) (V:List Int) (p':Nat),e=.returned (.agg #[.int .i64 P,.int .i64 T,.slice aV V.length cV])∧V.length=P * T∧(∀ x∈V,0≤x∧x≤11)∧OwnI 2 w' w.heap.size w'.heap.size aV cV V∧p'≤p+P * T∧DS w' B0 b a xs c p'∧Touch w w' b (b+1)
theorem xR (w:World) (B0 b:Nat) (a:Option Addr) (xs:List Int) (c p P T:Nat) (h:DS w B0 b a xs c p) (hp:p≤700000) (hP:P≤6) (hT:T≤8) :
 Calls Tryz.prog 56 #[.pointer (some ⟨b,0,none⟩),.int .i64 P,.int .i64 T] w (MY w B0 b a xs c p P T):=by
 have hbw:=h.lt;have hPT:P * T≤6 * 8:=Nat.mul_le_mul hP hT;have hPi:(P:Int)≤6:=by omega
 have hTi:(T:Int)≤8:=by omega
 have B0':=ah w (.cells #[.int .i64 0,.int .i64 0,.slice none 0 0] 28);have KR0:=Na (Blk.new w [.int .i64 0,.int .i64 0,.slice none 0 0] 28);have T0:=Na (Below.touch B0' b (b+1));have L1:=Na (Dx _ B0 b a xs c p (P * T) (h.same B0') (by omega) (by omega))
 have hm:((P:Int) * (T:Int))=((P * T:Nat):Int):=(Int.natCast_mul P T).symm;obtain ⟨M,hM⟩:∃ M,M=P * T:=⟨_,rfl⟩;rw [← hM] at hm hPT L1;have HM:=Na hM;have hMi:(M:Int)≤48:=by omega
 clear h B0' hM
 go_enter Tryz.func56,Tryz.ntmps56;go_wp2_with fail;refine L1.out.mono ?_;rintro e w1 ⟨aV,cV,V,p1,rfl,hV1,hV2,OV,hp1,D1,T1⟩;have KR1:=Na (KR0.out.touch T1 (.inr (by omega)))
 have T1':=Na (T0.out.trans T1);have s1:=T1.size;rw [World.size_alloc] at s1 OV;have OV:=Na OV;have HV1:=Na hV1;have HV2:=Na hV2;have D1:=Na D1;have HP1:=Na hp1;clear L1 KR0 T0 T1 hV1 hV2 hp1;have y0':w1.cell? ⟨w.heap.size,0,none⟩=some (.int .i64 0):=KR1.out.cell 0;have y1':w1.cell? ⟨w.heap.size,1,none⟩=some (.int .i64 0):=KR1.out.cell 1;have y2':w1.cell? ⟨w.heap.size,2,none⟩=some (.slice none 0 0):=KR1.out.cell 2;have f0:=KR1.out.free 0;have f1:=KR1.out.free 1;have f2:=KR1.out.free 2;go_wp2_with fail;obtain ⟨wz,hwz⟩:∃ Y,Y=((w1.setCell ⟨w.heap.size,0,none⟩ (.int .i64 P)).setCell ⟨w.heap.size,1,none⟩ (.int .i64 T)).setCell ⟨w.heap.size,2,none⟩ (.slice aV M cV):=⟨_,rfl⟩;have KZ:Blk wz w.heap.size [.int .i64 P,.int .i64 T,.slice aV M cV] 28:=by rw [hwz];exact ((KR1.out.set 0 (.int .i64 P)).set 1 (.int .i64 T)).set 2 (.slice aV M cV)
 have TZ:Touch w1 wz w.heap.size (w.heap.size+1):=by rw [hwz];exact ((ar w1 w.heap.size 0 (.int .i64 P)).trans (ar _ w.heap.size 1 (.int .i64 T))).trans (ar _ w.heap.size 2 (.slice aV M cV))
 have OVZ:=OV.out.touch TZ (.inr (Nat.le_refl _));have DZ:=D1.out.touch TZ hbw;have TT:=xd T1'.out TZ (Nat.le_refl _);have sZ:=TZ.size;rw [← hwz];clear hwz y0' y1' y2';have y0':wz.cell? ⟨w.heap.size,0,none⟩=some (.int .i64 P):=KZ.cell 0;have y1':wz.cell? ⟨w.heap.size,1,none⟩=some (.int .i64 T):=KZ.cell 1;have y2':wz.cell? ⟨w.heap.size,2,none⟩=some (.slice aV M cV):=KZ.cell 2;refine bodyPost_ret (v:=.agg #[.int .i64 P,.int .i64 T,.slice aV M cV]) (by simp [results,Tryz.results56,go_sem,y0',y1',y2']) rfl ?_
 exact ⟨aV,cV,V,p1,by rw [HV1.out],by rw [HV1.out,HM.out],HV2.out,OVZ.mono (by omega) sZ,by rw [← HM.out];exact HP1.out,DZ,TT⟩
structure DKW (w wX:World) (B0 b:Nat) (a:Option Addr) (xs:List Int) (c p g:Nat) (cs:List Value):Prop where
 T:Touch w wX b (b+1)
 D:DS wX B0 b a xs c p
 R:Blk wX w.heap.size [.int .i64 0,.int .i64 0,.slice none 0 0,.slice none 0 0,.int .i64 0,.int .i64 0,.slice none 0 0,.int .i64 0,.int .i64 0,.slice none 0 0,.slice none 0 0,.slice none 0 0] 33
 V:Blk wX g cs 33
section
variable {w wX wY:World} {B0 b c p p' g:Nat} {a:Option Addr} {xs:List Int} {cs:List Value}
theorem DKW.draw (h:DKW w wX B0 b a xs c p g cs) (hb:b<w.heap.size) (hg:w.heap.size<g) (ht:Touch wX wY b (b+1)) (hd:DS wY B0 b a xs c p'):DKW w wY B0 b a xs c p' g cs :=
 ⟨h.T.trans ht,hd,h.R.touch ht (.inr (by omega)),h.V.touch ht (.inr (by omega))⟩
theorem DKW.set (h:DKW w wX B0 b a xs c p g cs) (hb:b<w.heap.size) (hg:w.heap.size<g) (j:Nat) (u:Value):DKW w (wX.setCell ⟨g,j,none⟩ u) B0 b a xs c p g (cs.set j u):=by
 have ht:=ar wX g j u;exact ⟨⟨ht.os.trans h.T.os,ht.tape.trans h.T.tape,ht.output.trans h.T.output,Nat.le_trans h.T.size ht.size,fun k hk hd=>(ht.block k (by have:=h.T.size;omega) (by omega)).trans (h.T.block k hk hd)⟩,h.D.touch ht (by omega),h.R.touch ht (.inl hg),h.V.set j u⟩
end
structure Drawn (o:DD):Prop where
 ok:o.ok=true
 F:o.F.map bz=o.F
 lt:∀ y∈o.F,y<4294967296
def MP (w:World) (B0 b:Nat) (a:Option Addr) (xs:List Int) (c q:Nat) (e:Ending) (w':World):Prop :=
 ∃ (o:DD) (x:DA) (p':Nat),e=.returned (o.val x)∧(Drawn o∧o.A.length≤x.ca)∧DRd w' w'.heap.size o x∧DLo (w.heap.size+1) x∧p'≤q∧DS w' B0 b a xs c p'∧Touch w w' b (b+1)
theorem IZ {R C P T U N:Nat} {A B V W K:List Int} {F:List Nat} (hR:1≤R∧R≤4) (hC:1≤C∧C≤4) (lA:A.length=R * C) (lB:B.length=R * C) (hA:∀ x∈A,-6≤x∧x≤6) (hB:∀ x∈B,-6≤x∧x≤200)
 (hP:1≤P∧P≤3) (hT:1≤T∧T≤4) (lV:V.length=P * T) (hV:∀ x∈V,0≤x∧x≤11) (hU:1≤U∧U≤4) (hN:1≤N∧N≤4) (lW:1≤W.length∧W.length≤4) (hW:∀ x∈W,1≤x∧x≤2 ^ N - 1) (lK:K.length=N * U) (hK:∀ x∈K,-20≤x∧x≤30)
 (lF:1≤F.length∧F.length≤5) (hF:∀ y∈F,iN y=true∧bz y=y∧y<4294967296):Drawn ⟨R,C,A,B,P,T,V,U,N,W,K,F⟩:=by
 refine ⟨DD.ok_of ?_ ?_ ?_ ?_,?_,fun y hy=>(hF y hy).2.2⟩
 · show bY R C A B=true
   unfold bY;rw [Bool.and_eq_true,Bool.and_eq_true,Bool.and_eq_true,bH,bH,fT,fT,lA,lB,Int.natCast_mul];exact ⟨⟨by omega,by omega⟩,⟨⟨Int.le_refl _,Int.le_refl _⟩,fun x hx=>by have:=hA x hx;omega⟩,⟨Int.le_refl _,Int.le_refl _⟩,fun x hx=>by have:=hB x hx;omega⟩
 · show bu P T V=true
   unfold bu;rw [Bool.and_eq_true,Bool.and_eq_true,bH,bH,fT,lV,Int.natCast_mul];exact ⟨⟨by omega,by omega⟩,⟨Int.le_refl _,Int.le_refl _⟩,fun x hx=>by have:=hV x hx;omega⟩
 · show bt ⟨U,N,W,K⟩=true
   unfold bt;rw [Bool.and_eq_true,Bool.and_eq_true,Bool.and_eq_true,bH,bH,fT,fT];have e:((N:Int)).toNat=N:=Int.toNat_natCast N;refine ⟨⟨⟨by dsimp only;omega,by dsimp only;omega⟩,⟨by dsimp only;omega,by dsimp only;omega⟩,fun x hx=>by dsimp only at hx ⊢;rw [e];exact hW x hx⟩,⟨?_,?_⟩,fun x hx=>by have:=hK x hx;omega⟩
   · dsimp only;rw [lK,Int.natCast_mul,Int.mul_comm];exact Int.le_refl _
   · dsimp only;rw [lK,Int.natCast_mul,Int.mul_comm];exact Int.le_refl _
 · show iE F=true
   unfold iE jd;rw [Bool.and_eq_true,Bool.and_eq_true,decide_eq_true_eq,decide_eq_true_eq,List.all_eq_true];exact ⟨⟨lF.1,by omega⟩,fun y hy=>(hF y hy).1⟩
 · show F.map bz=F
   have:∀ l:List Nat,(∀ y∈l,bz y=y)→l.map bz=l:=fun l hl=>by
    induction l with
    | nil=>rfl
    | cons y l ih=>rw [List.map_cons,hl y (by simp),ih (fun z hz=>hl z (List.mem_cons_of_mem _ hz))]
   exact this F (fun y hy=>(hF y hy).2.1)
theorem Km (w:World) (B0 b:Nat) (a:Option Addr) (xs:List Int) (c p:Nat) (h:DS w B0 b a xs c p) (hp:p≤500000) :
 Calls Tryz.prog 27 #[.pointer (some ⟨b,0,none⟩)] w (MP w B0 b a xs c (p+200)):=by
 have hbw:=h.lt;have B0':=ah w (.cells #[.int .i64 0,.int .i64 0,.slice none 0 0,.slice none 0 0,.int .i64 0,.int .i64 0,.slice none 0 0,.int .i64 0,.int .i64 0,.slice none 0 0,.slice none 0 0,.slice none 0 0] 33);have KR0:=Na (Blk.new w [.int .i64 0,.int .i64 0,.slice none 0 0,.slice none 0 0,.int .i64 0,.int .i64 0,.slice none 0 0,.int .i64 0,.int .i64 0,.slice none 0 0,.slice none 0 0,.slice none 0 0] 33);have T0:=Na (Below.touch B0' b (b+1));have L1:=Na (Ke _ B0 b a xs c p (h.same B0') (by omega))
 clear h B0'
 go_enter Tryz.func27,Tryz.ntmps27;go_wp2_with fail;refine L1.out.mono ?_;rintro e w1 ⟨R,C,aA,cA,A,aB,cB,B,p1,rfl,⟨hR,hC⟩,⟨lA,lB⟩,⟨hA,hB⟩,OG,hp1,D1,T1⟩;have s1:=T1.size;rw [World.size_alloc] at s1 OG;obtain ⟨w2,hw2⟩:∃ X,X=w1.alloc (.cells #[.int .i64 R,.int .i64 C,.slice aA A.length cA,.slice aB B.length cB,.int .i64 0,.int .i64 0,.slice none 0 0,.int .i64 0,.int .i64 0,.slice none 0 0,.slice none 0 0,.slice none 0 0] 33):=⟨_,rfl⟩;obtain ⟨g,hg⟩:∃ g,g=w1.heap.size:=⟨_,rfl⟩;have hgw:w.heap.size<g:=by omega
 have hb2:Below w1.heap.size w1 w2:=by rw [hw2];exact ah _ _
 have hg2:w2.heap.size=g+1:=by rw [hw2,hg];simp
 have W2:Hid (DKW w w2 B0 b a xs c p1 g [.int .i64 R,.int .i64 C,.slice aA A.length cA,.slice aB B.length cB,.int .i64 0,.int .i64 0,.slice none 0 0,.int .i64 0,.int .i64 0,.slice none 0 0,.slice none 0 0,.slice none 0 0]):=by
  refine ⟨(T0.out.trans T1).trans (Below.touch hb2 b (b+1)),D1.same hb2,(KR0.out.touch T1 (.inr (by omega))).same hb2,?_⟩
  rw [hw2,hg];exact Blk.new w1 _ _
 have OG2:Hid (OwnGame w2 (w.heap.size+1) g aA cA A aB cB B):=by rw [hg];exact OG.keep hb2
 have HRC:=Na (⟨hR,hC⟩:(1≤R∧R≤4)∧1≤C∧C≤4);have HL:=Na (⟨lA,lB⟩:A.length=R * C∧B.length=R * C);have HAB:=Na (⟨hA,hB⟩:(∀ x∈A,-6≤x∧x≤6)∧∀ x∈B,-6≤x∧x≤200);have HP1:=Na hp1;have L2:=Na (dp w2 B0 b a xs c p1 3 W2.out.D (by omega) (by omega))
 clear L1 OG D1 T1 KR0 T0 hR hC lA lB hA hB hp1 hb2
 go_upto_region 2 with fail
 rw [← hw2];rw [← hg] at s1 ⊢;clear hw2 hg;go_wp2_with fail;refine L2.out.mono ?_;rintro e w3 ⟨u,p2,rfl,⟨u0,u1⟩,hp2,D3,T3⟩;obtain ⟨P,hP⟩:∃ P:Nat,1+u=(P:Int):=⟨(1+u).toNat,by omega⟩;have W3:=Na (W2.out.draw hbw hgw T3 D3);have OG3:=Na (OG2.out.touch T3 (.inr (by omega)))
 have z3:=T3.size;have HP2:Hid (p2≤p+43):=by have:=HP1.out;rw [Hid];omega
 have L3:=Na (dp w3 B0 b a xs c p2 4 D3 (by have:=HP2.out;omega) (by omega))
 have hP3:1≤P∧P≤3:=by omega
 have HPP:=Na hP3;have u2:u≤2:=by omega
 clear L2 W2 OG2 D3 T3 HP1 hp2 u1 hP3;go_wp2_with fail;refine L3.out.mono ?_;rintro e w4 ⟨v,p3,rfl,⟨v0,v1⟩,hp3,D4,T4⟩;obtain ⟨T,hT⟩:∃ T:Nat,1+v=(T:Int):=⟨(1+v).toNat,by omega⟩;have W4:=Na (W3.out.draw hbw hgw T4 D4);have OG4:=Na (OG3.out.touch T4 (.inr (by omega)))
 have z4:=T4.size;have HP3:Hid (p3≤p+44):=by have:=HP2.out;rw [Hid];omega
 have hT4:1≤T∧T≤4:=by omega
 have HTT:=Na hT4;have L4:=Na (xR w4 B0 b a xs c p3 P T D4 (by have:=HP3.out;omega) (by have:=HPP.out;omega) (by omega))
 have v2:v≤3:=by omega
 clear L3 W3 OG3 D4 T4 HP2 hp3 v1 hT4;go_wp2_with fail;clear hP hT;refine L4.out.mono ?_;rintro e w5 ⟨aV,cV,V,p4,rfl,lV,hV,OV,hp4,D5,T5⟩;have hPT:P * T≤3 * 4:=Nat.mul_le_mul HPP.out.2 HTT.out.2;have W5:=Na (W4.out.draw hbw hgw T5 D5);have OG5:=Na (OG4.out.touch T5 (.inr (by omega)))
 have z5:=T5.size;have OV5:=Na OV;have HV:=Na (⟨lV,hV⟩:V.length=P * T∧∀ x∈V,0≤x∧x≤11);have HP4:Hid (p4≤p+56):=by have:=HP3.out;rw [Hid];omega
 clear L4 W4 OG4 D5 T5 HP3 hp4 lV hV OV;obtain ⟨w6,hw6⟩:∃ X,X=(((w5.setCell ⟨g,4,none⟩ (.int .i64 P)).setCell ⟨g,5,none⟩ (.int .i64 T)).setCell ⟨g,6,none⟩ (.slice aV V.length cV)):=⟨_,rfl⟩;have W6:Hid (DKW w w6 B0 b a xs c p4 g [.int .i64 R,.int .i64 C,.slice aA A.length cA,.slice aB B.length cB,.int .i64 P,.int .i64 T,.slice aV V.length cV,.int .i64 0,.int .i64 0,.slice none 0 0,.slice none 0 0,.slice none 0 0]):=by rw [hw6];exact (((W5.out.set hbw hgw 4 (.int .i64 P)).set hbw hgw 5 (.int .i64 T)).set hbw hgw 6 (.slice aV V.length cV))
 have TX6:Touch w5 w6 g (g+1):=by rw [hw6];exact (((ar w5 g 4 (.int .i64 P)).trans (ar _ g 5 (.int .i64 T))).trans (ar _ g 6 (.slice aV V.length cV)))
 have OG6:=Na (OG5.out.touch TX6 (.inl (Nat.le_refl _)));have OV6:=Na (OV5.out.touch TX6 (.inr (by omega)))
 have z6:=TX6.size;have z6':w6.heap.size=w5.heap.size:=by rw [hw6];simp
 have k4:w5.cell? ⟨g,4,none⟩=some (.int .i64 0):=W5.out.V.cell 4;have k5:w5.cell? ⟨g,5,none⟩=some (.int .i64 0):=W5.out.V.cell 5;have k6:w5.cell? ⟨g,6,none⟩=some (.slice none 0 0):=W5.out.V.cell 6;have q4:=W5.out.V.free 4;have q5:=W5.out.V.free 5;have q6:=W5.out.V.free 6;have L5:=Na (uG w6 B0 b a xs c p4 W6.out.D (by have:=HP4.out;omega))
 clear OG5 OV5 TX6 W5
 go_upto_region 5 with fail
 rw [← hw6];clear hw6 k4 k5 k6 q4 q5 q6;go_wp2_with fail;refine L5.out.mono ?_;rintro e w7 ⟨U,N,hU,hN,aW,cW,W,aC,cC,K,p5,rfl,lW,hW,lK,hK,⟨mm,hmm,OW,OC⟩,hp5,D7,T7⟩;have W7:=Na (W6.out.draw hbw hgw T7 D7);have OG7:=Na (OG6.out.touch T7 (.inr (by omega)))
 have OV7:=Na (OV6.out.touch T7 (.inr (by omega)))
 have z7:=T7.size;have OW7:=Na OW;have OC7:=Na OC;have HM:=Na hmm;have HUN:=Na (⟨hU,hN⟩:(1≤U∧U≤4)∧1≤N∧N≤4);have HWW:=Na (⟨lW,hW⟩:(1≤W.length∧W.length≤4)∧∀ x∈W,1≤x∧x≤2 ^ N - 1);have HKK:=Na (⟨lK,hK⟩:K.length=N * U∧∀ x∈K,-20≤x∧x≤30);have HP5:Hid (p5≤p+96):=by have:=HP4.out;rw [Hid];omega
 have hmg:g+1≤mm:=by omega
 clear L5 W6 OG6 OV6 D7 T7 HP4 hp5 lW hW lK hK OW OC hmm hU hN;obtain ⟨w8,hw8⟩:∃ X,X=((((w7.setCell ⟨g,7,none⟩ (.int .i64 U)).setCell ⟨g,8,none⟩ (.int .i64 N)).setCell ⟨g,9,none⟩ (.slice aW W.length cW)).setCell ⟨g,10,none⟩ (.slice aC K.length cC)):=⟨_,rfl⟩;have W8:Hid (DKW w w8 B0 b a xs c p5 g [.int .i64 R,.int .i64 C,.slice aA A.length cA,.slice aB B.length cB,.int .i64 P,.int .i64 T,.slice aV V.length cV,.int .i64 U,.int .i64 N,.slice aW W.length cW,.slice aC K.length cC,.slice none 0 0]):=by rw [hw8];exact ((((W7.out.set hbw hgw 7 (.int .i64 U)).set hbw hgw 8 (.int .i64 N)).set hbw hgw 9 (.slice aW W.length cW)).set hbw hgw 10 (.slice aC K.length cC))
 have TX8:Touch w7 w8 g (g+1):=by rw [hw8];exact ((((ar w7 g 7 (.int .i64 U)).trans (ar _ g 8 (.int .i64 N))).trans (ar _ g 9 (.slice aW W.length cW))).trans (ar _ g 10 (.slice aC K.length cC)))
 have OG8:=Na (OG7.out.touch TX8 (.inl (Nat.le_refl _)));have OV8:=Na (OV7.out.touch TX8 (.inr (by omega)))
 have OW8:=Na (OW7.out.touch TX8 (.inr (by omega)))
 have OC8:=Na (OC7.out.touch TX8 (.inr (by omega)))
 have z8':w8.heap.size=w7.heap.size:=by rw [hw8];simp
 have k7:w7.cell? ⟨g,7,none⟩=some (.int .i64 0):=W7.out.V.cell 7;have k8:w7.cell? ⟨g,8,none⟩=some (.int .i64 0):=W7.out.V.cell 8;have k9:w7.cell? ⟨g,9,none⟩=some (.slice none 0 0):=W7.out.V.cell 9;have k10:w7.cell? ⟨g,10,none⟩=some (.slice none 0 0):=W7.out.V.cell 10;have q7:=W7.out.V.free 7;have q8:=W7.out.V.free 8;have q9:=W7.out.V.free 9;have q10:=W7.out.V.free 10;have L6:=Na (Ai w8 B0 b a xs c p5 W8.out.D (by have:=HP5.out;omega))
 clear OG7 OV7 OW7 OC7 TX8 W7
 go_upto_region 6 with fail
 rw [← hw8];clear hw8 k7 k8 k9 k10 q7 q8 q9 q10;go_wp2_with fail;refine L6.out.mono ?_;rintro e w9 ⟨aF,cF,F,p6,rfl,lF,hF,OF,hp6,D9,T9⟩;have W9:=Na (W8.out.draw hbw hgw T9 D9);have OG9:=Na (OG8.out.touch T9 (.inr (by omega)))
 have OV9:=Na (OV8.out.touch T9 (.inr (by omega)))
 have OW9:=Na (OW8.out.touch T9 (.inr (by omega)))
 have OC9:=Na (OC8.out.touch T9 (.inr (by omega)))
 have z9:=T9.size;have OF9:=Na OF;have HFF:=Na (⟨lF,hF⟩:(1≤F.length∧F.length≤5)∧∀ y∈F,iN y=true∧bz y=y∧y<4294967296);have HP6:Hid (p6≤p+200):=by have:=HP5.out;rw [Hid];omega
 clear L6 W8 OG8 OV8 OW8 OC8 D9 T9 HP5 hp6 lF hF OF;obtain ⟨w10,hw10⟩:∃ X,X=(w9.setCell ⟨g,11,none⟩ (.slice aF F.length cF)):=⟨_,rfl⟩;have V10:Hid (DKW w w10 B0 b a xs c p6 g [.int .i64 R,.int .i64 C,.slice aA A.length cA,.slice aB B.length cB,.int .i64 P,.int .i64 T,.slice aV V.length cV,.int .i64 U,.int .i64 N,.slice aW W.length cW,.slice aC K.length cC,.slice aF F.length cF]):=by rw [hw10];exact (W9.out.set hbw hgw 11 (.slice aF F.length cF))
 have TX10:Touch w9 w10 g (g+1):=by rw [hw10];exact (ar w9 g 11 (.slice aF F.length cF))
 have OG10:=Na (OG9.out.touch TX10 (.inl (Nat.le_refl _)));have OV10:=Na (OV9.out.touch TX10 (.inr (by omega)))
 have OW10:=Na (OW9.out.touch TX10 (.inr (by omega)))
 have OC10:=Na (OC9.out.touch TX10 (.inr (by omega)))
 have OF10:=Na (OF9.out.touch TX10 (.inr (by omega)))
 have z10':w10.heap.size=w9.heap.size:=by rw [hw10];simp
 have k11:w9.cell? ⟨g,11,none⟩=some (.slice none 0 0):=W9.out.V.cell 11;have q11:=W9.out.V.free 11;clear OG9 OV9 OW9 OC9 OF9 TX10 W9
 go_upto_region 7 with fail
 rw [← hw10];clear hw10 k11 q11;obtain ⟨v0,v1,v2,v3,v4,v5,v6,v7,v8,v9,v10,v11⟩:=af V10.out.V;obtain ⟨j0,j1,j2,j3,j4,j5,j6,j7,j8,j9,j10,j11⟩:=af V10.out.R;have jf0:=V10.out.R.free 0;have jf1:=V10.out.R.free 1;have jf2:=V10.out.R.free 2;have jf3:=V10.out.R.free 3;have jf4:=V10.out.R.free 4;have jf5:=V10.out.R.free 5;have jf6:=V10.out.R.free 6;have jf7:=V10.out.R.free 7;have jf8:=V10.out.R.free 8;have jf9:=V10.out.R.free 9;have jf10:=V10.out.R.free 10;have jf11:=V10.out.R.free 11;go_wp2_with fail;obtain ⟨wz,hwz⟩:∃ X,X=((((((((((((w10.setCell ⟨w.heap.size,0,none⟩ (.int .i64 R)).setCell ⟨w.heap.size,1,none⟩ (.int .i64 C)).setCell ⟨w.heap.size,2,none⟩ (.slice aA A.length cA)).setCell ⟨w.heap.size,3,none⟩ (.slice aB B.length cB)).setCell ⟨w.heap.size,4,none⟩ (.int .i64 P)).setCell ⟨w.heap.size,5,none⟩ (.int .i64 T)).setCell ⟨w.heap.size,6,none⟩ (.slice aV V.length cV)).setCell ⟨w.heap.size,7,none⟩ (.int .i64 U)).setCell ⟨w.heap.size,8,none⟩ (.int .i64 N)).setCell ⟨w.heap.size,9,none⟩ (.slice aW W.length cW)).setCell ⟨w.heap.size,10,none⟩ (.slice aC K.length cC)).setCell ⟨w.heap.size,11,none⟩ (.slice aF F.length cF)):=⟨_,rfl⟩;have hp:fg w10 w.heap.size (.int .i64 R) (.int .i64 C) (.slice aA A.length cA) (.slice aB B.length cB) (.int .i64 P) (.int .i64 T) (.slice aV V.length cV) (.int .i64 U) (.int .i64 N) (.slice aW W.length cW) (.slice aC K.length cC) (.slice aF F.length cF)=wz:=by rw [hwz];rfl
 rw [← hwz];clear hwz v0 v1 v2 v3 v4 v5 v6 v7 v8 v9 v10 v11 j0 j1 j2 j3 j4 j5 j6 j7 j8 j9 j10 j11 jf0 jf1 jf2 jf3 jf4 jf5 jf6 jf7 jf8 jf9 jf10 jf11;have KZ:Blk wz w.heap.size [.int .i64 R,.int .i64 C,.slice aA A.length cA,.slice aB B.length cB,.int .i64 P,.int .i64 T,.slice aV V.length cV,.int .i64 U,.int .i64 N,.slice aW W.length cW,.slice aC K.length cC,.slice aF F.length cF] 33:=by rw [← hp];exact fS V10.out.R _ _ _ _ _ _ _ _ _ _ _ _
 have TZ:Touch w10 wz w.heap.size (w.heap.size+1):=by rw [← hp];exact et _ _ _ _ _ _ _ _ _ _ _ _ _ _
 have sz:wz.heap.size=w10.heap.size:=by rw [← hp];exact nj _ _ _ _ _ _ _ _ _ _ _ _ _ _
 clear hp;have TT:=xd V10.out.T TZ (Nat.le_refl _);have DZ:=V10.out.D.touch TZ hbw;have oG:=OG10.out.touch TZ (.inr (Nat.le_refl _));have oV:=OV10.out.touch TZ (.inr (by omega))
 have oW:=OW10.out.touch TZ (.inr (by omega))
 have oC:=OC10.out.touch TZ (.inr (by omega))
 have oF:=OF10.out.touch TZ (.inr (by omega))
 obtain ⟨hm1,hm2⟩:=HM.out;have hfl:∀ y∈F,y<4294967296:=fun y hy=>(HFF.out.2 y hy).2.2
 have HD:DRd wz wz.heap.size ⟨R,C,A,B,P,T,V,U,N,W,K,F⟩ ⟨aA,cA,aB,cB,aV,cV,aW,cW,aC,cC,aF,cF⟩ :=
  ⟨⟨oG.rd.1.mono (by omega),oG.rd.2.mono (by omega),oV.rd.mono (by omega),oW.rd.mono (by omega),oC.rd.mono (by omega),oF.rd.mono (by omega)⟩,hfl⟩
 have HLo:DLo (w.heap.size+1) ⟨aA,cA,aB,cB,aV,cV,aW,cW,aC,cC,aF,cF⟩:=by
  obtain ⟨m,hm,o1,o2⟩:=oG;exact ⟨fun y e=>jD o1 y e,fun y e=>by have:=jD o2 y e;omega,fun y e=>by have:=jD oV y e;omega,fun y e=>by have:=jD oW y e;omega,fun y e=>by have:=jD oC y e;omega,fun y e=>by have:=Di oF y e;omega⟩
 have hcap:A.length≤cA:=by obtain ⟨m,hm,o1,o2⟩:=oG;exact o1.cap
 have HO:Drawn ⟨R,C,A,B,P,T,V,U,N,W,K,F⟩:=IZ HRC.out.1 HRC.out.2 HL.out.1 HL.out.2 HAB.out.1 HAB.out.2 HPP.out HTT.out HV.out.1 HV.out.2 HUN.out.1 HUN.out.2 HWW.out.1 HWW.out.2 HKK.out.1 HKK.out.2 HFF.out.1 HFF.out.2;obtain ⟨t0,t1,t2,t3,t4,t5,t6,t7,t8,t9,t10,t11⟩:=af KZ;refine bodyPost_ret (v:=.agg #[.int .i64 R,.int .i64 C,.slice aA A.length cA,.slice aB B.length cB,.int .i64 P,.int .i64 T,.slice aV V.length cV,.int .i64 U,.int .i64 N,.slice aW W.length cW,.slice aC K.length cC,.slice aF F.length cF]) (by simp [results,Tryz.results27,go_sem,t0,t1,t2,t3,t4,t5,t6,t7,t8,t9,t10,t11];try rfl) rfl ?_
 exact ⟨_,_,p6,rfl,⟨HO,hcap⟩,HD,HLo,HP6.out,DZ,TT⟩
theorem Es (w:World) (a:Option Addr) (c:Nat) (xs:List Int) (h:Rd w w.heap.size a (ki xs)) (hx:∀ x∈xs,0≤x∧x≤255) (hl:xs.length≤1048576) :
 Calls Tryz.prog 6 #[.slice a xs.length c] w fun e w'=>∃ (o:DD) (x:DA),e=.returned (o.val x)∧(Drawn o∧o.A.length≤x.ca)∧DRd w' w'.heap.size o x∧Below w.heap.size w w':=by
 have B0':=ah w (.cells #[.int .i64 0,.int .i64 0,.slice none 0 0,.slice none 0 0,.int .i64 0,.int .i64 0,.slice none 0 0,.int .i64 0,.int .i64 0,.slice none 0 0,.slice none 0 0,.slice none 0 0] 33);have KR0:=Na (Blk.new w [.int .i64 0,.int .i64 0,.slice none 0 0,.slice none 0 0,.int .i64 0,.int .i64 0,.slice none 0 0,.int .i64 0,.int .i64 0,.slice none 0 0,.slice none 0 0,.slice none 0 0] 33);have L0:=Na (tB (w.alloc (.cells #[.int .i64 0,.int .i64 0,.slice none 0 0,.slice none 0 0,.int .i64 0,.int .i64 0,.slice none 0 0,.int .i64 0,.int .i64 0,.slice none 0 0,.slice none 0 0,.slice none 0 0] 33)) a xs.length c);have H0:=Na (h.to B0');have HX:=Na hx;have HB0:=Na B0';clear h hx B0'
 go_enter Tryz.func6,Tryz.ntmps6;go_wp2_with fail;refine L0.out.mono ?_;rintro e w1 ⟨rfl,S1,B1,s1⟩;have s0:(w.alloc (.cells #[.int .i64 0,.int .i64 0,.slice none 0 0,.slice none 0 0,.int .i64 0,.int .i64 0,.slice none 0 0,.int .i64 0,.int .i64 0,.slice none 0 0,.slice none 0 0,.slice none 0 0] 33)).heap.size=w.heap.size+1:=World.size_alloc _ _;have D1:Hid (DS w1 (w.heap.size+1) (w.heap.size+1) a xs c 0):=⟨by rw [← s0];exact S1,by rw [← s0];exact H0.out.below B1 (Nat.le_refl _),Nat.le_refl _,HX.out,hl⟩;have KR1:=Na (KR0.out.same B1);have HB1:=Na (aa HB0.out B1);have L1:=Na (Km w1 (w.heap.size+1) (w.heap.size+1) a xs c 0 D1.out (by omega))
 have hs1:w.heap.size+2≤w1.heap.size:=by omega
 clear L0 S1 B1 s1 D1 H0 HX KR0 HB0;clear s0;go_wp2_with fail;refine L1.out.mono ?_;rintro e w2 ⟨o,x,p4,rfl,hO,hD,hLo,hp4,D4,T4⟩;have KR2:=Na (KR1.out.touch T4 (.inl (by omega)))
 have B2:=Na (aE HB1.out T4 (by omega) HB1.out.size)
 have s4:=T4.size;have HO:=Na hO;have HD:=Na hD;have HLo:=Na hLo;clear L1 KR1 T4 hO hD hLo D4 hp4;obtain ⟨j0,j1,j2,j3,j4,j5,j6,j7,j8,j9,j10,j11⟩:=af KR2.out;have jf0:=KR2.out.free 0;have jf1:=KR2.out.free 1;have jf2:=KR2.out.free 2;have jf3:=KR2.out.free 3;have jf4:=KR2.out.free 4;have jf5:=KR2.out.free 5;have jf6:=KR2.out.free 6;have jf7:=KR2.out.free 7;have jf8:=KR2.out.free 8;have jf9:=KR2.out.free 9;have jf10:=KR2.out.free 10;have jf11:=KR2.out.free 11;unfold DD.val;go_wp2_with fail;obtain ⟨wz,hwz⟩:∃ X,X=((((((((((((w2.setCell ⟨w.heap.size,0,none⟩ (.int .i64 o.R)).setCell ⟨w.heap.size,1,none⟩ (.int .i64 o.C)).setCell ⟨w.heap.size,2,none⟩ (.slice x.a o.A.length x.ca)).setCell ⟨w.heap.size,3,none⟩ (.slice x.b o.B.length x.cb)).setCell ⟨w.heap.size,4,none⟩ (.int .i64 o.P)).setCell ⟨w.heap.size,5,none⟩ (.int .i64 o.T)).setCell ⟨w.heap.size,6,none⟩ (.slice x.v o.V.length x.cv)).setCell ⟨w.heap.size,7,none⟩ (.int .i64 o.U)).setCell ⟨w.heap.size,8,none⟩ (.int .i64 o.N)).setCell ⟨w.heap.size,9,none⟩ (.slice x.w o.W.length x.cw)).setCell ⟨w.heap.size,10,none⟩ (.slice x.k o.K.length x.ck)).setCell ⟨w.heap.size,11,none⟩ (.slice x.f o.F.length x.cf)):=⟨_,rfl⟩;have hp:fg w2 w.heap.size (.int .i64 o.R) (.int .i64 o.C) (.slice x.a o.A.length x.ca) (.slice x.b o.B.length x.cb) (.int .i64 o.P) (.int .i64 o.T) (.slice x.v o.V.length x.cv) (.int .i64 o.U) (.int .i64 o.N) (.slice x.w o.W.length x.cw) (.slice x.k o.K.length x.ck) (.slice x.f o.F.length x.cf)=wz:=by rw [hwz];rfl
 rw [← hwz];clear hwz j0 j1 j2 j3 j4 j5 j6 j7 j8 j9 j10 j11 jf0 jf1 jf2 jf3 jf4 jf5 jf6 jf7 jf8 jf9 jf10 jf11;have KZ:Blk wz w.heap.size (o.cells x) 33:=by rw [← hp];exact fS KR2.out _ _ _ _ _ _ _ _ _ _ _ _
 have TZ:Touch w2 wz w.heap.size (w.heap.size+1):=by rw [← hp];exact et _ _ _ _ _ _ _ _ _ _ _ _ _ _
 clear hp;have BZ:=aE B2.out TZ (Nat.le_refl _) (by omega)
 have DZ:=HD.out.low (HLo.out.mono (lo':=w.heap.size+1) (by omega)) TZ
 obtain ⟨t0,t1,t2,t3,t4,t5,t6,t7,t8,t9,t10,t11⟩:=af KZ;refine bodyPost_ret (v:=o.val x) (by simp [results,Tryz.results6,go_sem,DD.val,t0,t1,t2,t3,t4,t5,t6,t7,t8,t9,t10,t11];try rfl) rfl ?_
 exact ⟨o,x,rfl,HO.out,DZ,BZ⟩
theorem GV (a:Nat) (ha:a<9223372036854775808):bits .and .i64 (a:Int) 15=((a % 16:Nat):Int):=by
 show IntKind.i64.wrap ((BitVec.ofInt 64 (a:Int) &&& BitVec.ofInt 64 (15:Int)).toNat:Int)=_
 have h1:(BitVec.ofInt 64 (15:Int)).toNat=15:=by decide
 have h2:(BitVec.ofInt 64 (a:Int)).toNat=a:=by rw [BitVec.ofInt_natCast,BitVec.toNat_ofNat];exact Nat.mod_eq_of_lt (by omega)
 rw [BitVec.toNat_and,h1,h2,show a &&& 15=a % 16 from Nat.and_two_pow_sub_one_eq_mod a 4]
 have:=Nat.mod_lt a (show 0<16 by omega)
 exact IntWalk.i64_in _ (by omega)
def nz:ByteArray:=⟨#[48,49,50,51,52,53,54,55,56,57,97,98,99,100,101,102]⟩
theorem I2 (r:Nat) (h:r<16) (v:World):(Instr.index 9 (.string nz) (.int .i64 (r:Int))).run Tryz.prog v=.ok (.int .u8 ((da r).toNat:Int)) v:=by
 have key:∀ q:Fin 16,(nz[q.1]?).map (fun b=>(b.toNat:Int))=some ((da q.1).toNat:Int):=by decide
 have hs:nz.size=16:=by decide
 have hr:=run_index_string (P:=Tryz.prog) v 9 nz .i64 (r:Int) Tryz.underlying9;have hk:=key ⟨r,h⟩;generalize nz=T at *
 rw [dif_pos ⟨by omega,by omega⟩] at hr;rw [ByteArray.getElem?_lt' T r (by omega)] at hk
 rw [hr];injection hk with hk
 congr 1
 rw [← hk]
 rfl
theorem KM {x:Nat} (hx:x<4294967296):eL x=(bz x:Int)∧bz x<4294967296:=⟨F4 x,uq hx⟩
theorem kt (u p:Nat) (hu:u<4294967296):bits .and .i64 ((u:Int) / (p:Int)) 15=((u / p % 16:Nat):Int):=by
 have h:=Nat.div_le_self u p;rw [← Int.natCast_ediv];exact GV (u / p) (by omega)
theorem io {u i p q:Nat} (h:q=p * 16):dw (i+1) (u / p)=dw i (u / q) ++ [da (u / p % 16)]:=by
 rw [dw,Nat.div_div_eq_div_mul,h]
theorem Ej (w:World) (x:Nat) (hx:x<4294967296) :
 Calls Tryz.prog 97 #[.float .f32 x] w fun e w'=>e=.returned (.string (bs (db x)))∧Below w.heap.size w w':=by
 obtain ⟨hb,hu⟩:=KM hx;have LB:=Na (Bq x hx w);rw [hb] at LB;have HT:Hid (db x=dw 8 (bz x / 1)):=by rw [Hid,Nat.div_one];rfl
 generalize bz x=u at *
 have HS:Hid (∀ i v,dw (i+1) v=dw i (v / 16) ++ [da (v % 16)]):=fun i v=>rfl
 have AN:=Na (fun a ha=>GV a ha)
 have DR:=Na (fun r h v=>I2 r h v)
 unfold nz at DR;clear hb
 go_enter Tryz.func97,Tryz.ntmps97;go_wp2_with fail;refine LB.out.mono ?_;rintro e w1 ⟨rfl,rfl⟩;have HO0:=Na (bD w 5);have HB0:=Na (ah w (.cells #[] 5));go_wp2_with fail
 go_loopw [4,5] (fun v kv wr=>∃ (i:Nat) (g c:Nat),i≤8∧kv=.int .i64 (28 - 4 * (i:Int))∧v=.slice (some ⟨g,0,none⟩) i c∧Hid (wr.ownsRow w.heap.size 5 1 (.slice (some ⟨g,0,none⟩) i c) i (fe (dw i (u / 16 ^ (8 - i)))))∧Hid (Below w.heap.size w wr)) (fun _ kv _=>(intOf kv+4).toNat)
 case atStart=>exact ⟨0,_,0,Nat.zero_le _,rfl,rfl,HO0.out,HB0.out⟩
 case round =>
  clear HO0 HB0;obtain ⟨i,g,c,hi,rfl,rfl,hO,hW⟩:=hrel;have hO':=hO.out;have hs:=hW.out.size
  rcases (by omega:i=0∨i=1∨i=2∨i=3∨i=4∨i=5∨i=6∨i=7∨i=8) with rfl | rfl | rfl | rfl | rfl | rfl | rfl | rfl | rfl
  · have an:bits BinOp.and IntKind.i64 ((u:Int) / 268435456) 15=((u / 268435456 % 16:Nat):Int):=kt u 268435456 hu
    have dr:=DR.out (u / 268435456 % 16) (Nat.mod_lt _ (by omega))
    have hN:=Na (io (u:=u) (i:=0) (p:=268435456) (q:=4294967296) (by decide))
    have hO1:Hid (wr.ownsRow w.heap.size 5 1 (.slice (some ⟨g,0,none⟩) 0 c) 0 (fe (dw 0 (u / 4294967296)))):=hO'
    have r0:(0:Int)≤((u / 268435456 % 16:Nat):Int):=Int.natCast_nonneg _;generalize u / 268435456 % 16=r at *
    generalize da r=hd at *
    clear hO hO'
    go_wp2_with (at_builtin;refine aP _ rfl _ _ 22 rfl w.heap.size 5 (.int .u8 0) 1 Tryz.underlying22 ic rfl _ 0 _ rfl hO1.out (.int .u8 (hd.toNat:Int)) rfl rfl (by omega) (by omega) hs ?_)
    intro v' w' ho hgr hng;obtain ⟨g2,c3,rfl⟩:=fk ho (by omega)
    have HO2:Hid (w'.ownsRow w.heap.size 5 1 (.slice (some ⟨g2,0,none⟩) (0+1) c3) (0+1) (fe (dw (0+1) (u / 268435456)))):=by
     rw [Hid,hN.out,fP];exact ho
    have HW3:=Na (ai hW.out hO1.out hgr (Nat.le_refl _) hs);clear ho hgr hng hO1 hW an dr;go_wp2_with fail;go_roundw
    case rel=>exact ⟨0+1,g2,c3,by omega,by go_num,rfl,HO2,HW3.out⟩
    case measure=>simp [intOf]
  · have an:bits BinOp.and IntKind.i64 ((u:Int) / 16777216) 15=((u / 16777216 % 16:Nat):Int):=kt u 16777216 hu
    have dr:=DR.out (u / 16777216 % 16) (Nat.mod_lt _ (by omega))
    have hN:=Na (io (u:=u) (i:=1) (p:=16777216) (q:=268435456) (by decide))
    have hO1:Hid (wr.ownsRow w.heap.size 5 1 (.slice (some ⟨g,0,none⟩) 1 c) 1 (fe (dw 1 (u / 268435456)))):=hO'
    have r0:(0:Int)≤((u / 16777216 % 16:Nat):Int):=Int.natCast_nonneg _;generalize u / 16777216 % 16=r at *
    generalize da r=hd at *
    clear hO hO'
    go_wp2_with (at_builtin;refine aP _ rfl _ _ 22 rfl w.heap.size 5 (.int .u8 0) 1 Tryz.underlying22 ic rfl _ 1 _ rfl hO1.out (.int .u8 (hd.toNat:Int)) rfl rfl (by omega) (by omega) hs ?_)
    intro v' w' ho hgr hng;obtain ⟨g2,c3,rfl⟩:=fk ho (by omega)
    have HO2:Hid (w'.ownsRow w.heap.size 5 1 (.slice (some ⟨g2,0,none⟩) (1+1) c3) (1+1) (fe (dw (1+1) (u / 16777216)))):=by
     rw [Hid,hN.out,fP];exact ho
    have HW3:=Na (ai hW.out hO1.out hgr (Nat.le_refl _) hs);clear ho hgr hng hO1 hW an dr;go_wp2_with fail;go_roundw
    case rel=>exact ⟨1+1,g2,c3,by omega,by go_num,rfl,HO2,HW3.out⟩
    case measure=>simp [intOf]
  · have an:bits BinOp.and IntKind.i64 ((u:Int) / 1048576) 15=((u / 1048576 % 16:Nat):Int):=kt u 1048576 hu
    have dr:=DR.out (u / 1048576 % 16) (Nat.mod_lt _ (by omega))
    have hN:=Na (io (u:=u) (i:=2) (p:=1048576) (q:=16777216) (by decide))
    have hO1:Hid (wr.ownsRow w.heap.size 5 1 (.slice (some ⟨g,0,none⟩) 2 c) 2 (fe (dw 2 (u / 16777216)))):=hO'
    have r0:(0:Int)≤((u / 1048576 % 16:Nat):Int):=Int.natCast_nonneg _;generalize u / 1048576 % 16=r at *
    generalize da r=hd at *
    clear hO hO'
    go_wp2_with (at_builtin;refine aP _ rfl _ _ 22 rfl w.heap.size 5 (.int .u8 0) 1 Tryz.underlying22 ic rfl _ 2 _ rfl hO1.out (.int .u8 (hd.toNat:Int)) rfl rfl (by omega) (by omega) hs ?_)
    intro v' w' ho hgr hng;obtain ⟨g2,c3,rfl⟩:=fk ho (by omega)
    have HO2:Hid (w'.ownsRow w.heap.size 5 1 (.slice (some ⟨g2,0,none⟩) (2+1) c3) (2+1) (fe (dw (2+1) (u / 1048576)))):=by
     rw [Hid,hN.out,fP];exact ho
    have HW3:=Na (ai hW.out hO1.out hgr (Nat.le_refl _) hs);clear ho hgr hng hO1 hW an dr;go_wp2_with fail;go_roundw
    case rel=>exact ⟨2+1,g2,c3,by omega,by go_num,rfl,HO2,HW3.out⟩
    case measure=>simp [intOf]
  · have an:bits BinOp.and IntKind.i64 ((u:Int) / 65536) 15=((u / 65536 % 16:Nat):Int):=kt u 65536 hu
    have dr:=DR.out (u / 65536 % 16) (Nat.mod_lt _ (by omega))
    have hN:=Na (io (u:=u) (i:=3) (p:=65536) (q:=1048576) (by decide))
    have hO1:Hid (wr.ownsRow w.heap.size 5 1 (.slice (some ⟨g,0,none⟩) 3 c) 3 (fe (dw 3 (u / 1048576)))):=hO'
    have r0:(0:Int)≤((u / 65536 % 16:Nat):Int):=Int.natCast_nonneg _;generalize u / 65536 % 16=r at *
    generalize da r=hd at *
    clear hO hO'
    go_wp2_with (at_builtin;refine aP _ rfl _ _ 22 rfl w.heap.size 5 (.int .u8 0) 1 Tryz.underlying22 ic rfl _ 3 _ rfl hO1.out (.int .u8 (hd.toNat:Int)) rfl rfl (by omega) (by omega) hs ?_)
    intro v' w' ho hgr hng;obtain ⟨g2,c3,rfl⟩:=fk ho (by omega)
    have HO2:Hid (w'.ownsRow w.heap.size 5 1 (.slice (some ⟨g2,0,none⟩) (3+1) c3) (3+1) (fe (dw (3+1) (u / 65536)))):=by
     rw [Hid,hN.out,fP];exact ho
    have HW3:=Na (ai hW.out hO1.out hgr (Nat.le_refl _) hs);clear ho hgr hng hO1 hW an dr;go_wp2_with fail;go_roundw
    case rel=>exact ⟨3+1,g2,c3,by omega,by go_num,rfl,HO2,HW3.out⟩
    case measure=>simp [intOf]
  · have an:bits BinOp.and IntKind.i64 ((u:Int) / 4096) 15=((u / 4096 % 16:Nat):Int):=kt u 4096 hu
    have dr:=DR.out (u / 4096 % 16) (Nat.mod_lt _ (by omega))
    have hN:=Na (io (u:=u) (i:=4) (p:=4096) (q:=65536) (by decide))
    have hO1:Hid (wr.ownsRow w.heap.size 5 1 (.slice (some ⟨g,0,none⟩) 4 c) 4 (fe (dw 4 (u / 65536)))):=hO'
    have r0:(0:Int)≤((u / 4096 % 16:Nat):Int):=Int.natCast_nonneg _;generalize u / 4096 % 16=r at *
    generalize da r=hd at *
    clear hO hO'
    go_wp2_with (at_builtin;refine aP _ rfl _ _ 22 rfl w.heap.size 5 (.int .u8 0) 1 Tryz.underlying22 ic rfl _ 4 _ rfl hO1.out (.int .u8 (hd.toNat:Int)) rfl rfl (by omega) (by omega) hs ?_)
    intro v' w' ho hgr hng;obtain ⟨g2,c3,rfl⟩:=fk ho (by omega)
    have HO2:Hid (w'.ownsRow w.heap.size 5 1 (.slice (some ⟨g2,0,none⟩) (4+1) c3) (4+1) (fe (dw (4+1) (u / 4096)))):=by
     rw [Hid,hN.out,fP];exact ho
    have HW3:=Na (ai hW.out hO1.out hgr (Nat.le_refl _) hs);clear ho hgr hng hO1 hW an dr;go_wp2_with fail;go_roundw
    case rel=>exact ⟨4+1,g2,c3,by omega,by go_num,rfl,HO2,HW3.out⟩
    case measure=>simp [intOf]
  · have an:bits BinOp.and IntKind.i64 ((u:Int) / 256) 15=((u / 256 % 16:Nat):Int):=kt u 256 hu
    have dr:=DR.out (u / 256 % 16) (Nat.mod_lt _ (by omega))
    have hN:=Na (io (u:=u) (i:=5) (p:=256) (q:=4096) (by decide))
    have hO1:Hid (wr.ownsRow w.heap.size 5 1 (.slice (some ⟨g,0,none⟩) 5 c) 5 (fe (dw 5 (u / 4096)))):=hO'
    have r0:(0:Int)≤((u / 256 % 16:Nat):Int):=Int.natCast_nonneg _;generalize u / 256 % 16=r at *
    generalize da r=hd at *
    clear hO hO'
    go_wp2_with (at_builtin;refine aP _ rfl _ _ 22 rfl w.heap.size 5 (.int .u8 0) 1 Tryz.underlying22 ic rfl _ 5 _ rfl hO1.out (.int .u8 (hd.toNat:Int)) rfl rfl (by omega) (by omega) hs ?_)
    intro v' w' ho hgr hng;obtain ⟨g2,c3,rfl⟩:=fk ho (by omega)
    have HO2:Hid (w'.ownsRow w.heap.size 5 1 (.slice (some ⟨g2,0,none⟩) (5+1) c3) (5+1) (fe (dw (5+1) (u / 256)))):=by
     rw [Hid,hN.out,fP];exact ho
    have HW3:=Na (ai hW.out hO1.out hgr (Nat.le_refl _) hs);clear ho hgr hng hO1 hW an dr;go_wp2_with fail;go_roundw
    case rel=>exact ⟨5+1,g2,c3,by omega,by go_num,rfl,HO2,HW3.out⟩
    case measure=>simp [intOf]
  · have an:bits BinOp.and IntKind.i64 ((u:Int) / 16) 15=((u / 16 % 16:Nat):Int):=kt u 16 hu
    have dr:=DR.out (u / 16 % 16) (Nat.mod_lt _ (by omega))
    have hN:=Na (io (u:=u) (i:=6) (p:=16) (q:=256) (by decide))
    have hO1:Hid (wr.ownsRow w.heap.size 5 1 (.slice (some ⟨g,0,none⟩) 6 c) 6 (fe (dw 6 (u / 256)))):=hO'
    have r0:(0:Int)≤((u / 16 % 16:Nat):Int):=Int.natCast_nonneg _;generalize u / 16 % 16=r at *
    generalize da r=hd at *
    clear hO hO'
    go_wp2_with (at_builtin;refine aP _ rfl _ _ 22 rfl w.heap.size 5 (.int .u8 0) 1 Tryz.underlying22 ic rfl _ 6 _ rfl hO1.out (.int .u8 (hd.toNat:Int)) rfl rfl (by omega) (by omega) hs ?_)
    intro v' w' ho hgr hng;obtain ⟨g2,c3,rfl⟩:=fk ho (by omega)
    have HO2:Hid (w'.ownsRow w.heap.size 5 1 (.slice (some ⟨g2,0,none⟩) (6+1) c3) (6+1) (fe (dw (6+1) (u / 16)))):=by
     rw [Hid,hN.out,fP];exact ho
    have HW3:=Na (ai hW.out hO1.out hgr (Nat.le_refl _) hs);clear ho hgr hng hO1 hW an dr;go_wp2_with fail;go_roundw
    case rel=>exact ⟨6+1,g2,c3,by omega,by go_num,rfl,HO2,HW3.out⟩
    case measure=>simp [intOf]
  · have an:bits BinOp.and IntKind.i64 (u:Int) 15=((u / 1 % 16:Nat):Int):=(by have:=kt u 1 hu;rwa [show ((u:Int) / ((1:Nat):Int))=(u:Int) from by omega] at this)
    have dr:=DR.out (u / 1 % 16) (Nat.mod_lt _ (by omega))
    have hN:=Na (io (u:=u) (i:=7) (p:=1) (q:=16) (by decide))
    have hO1:Hid (wr.ownsRow w.heap.size 5 1 (.slice (some ⟨g,0,none⟩) 7 c) 7 (fe (dw 7 (u / 16)))):=hO'
    have r0:(0:Int)≤((u / 1 % 16:Nat):Int):=Int.natCast_nonneg _;generalize u / 1 % 16=r at *
    generalize da r=hd at *
    clear hO hO'
    go_wp2_with (at_builtin;refine aP _ rfl _ _ 22 rfl w.heap.size 5 (.int .u8 0) 1 Tryz.underlying22 ic rfl _ 7 _ rfl hO1.out (.int .u8 (hd.toNat:Int)) rfl rfl (by omega) (by omega) hs ?_)
    intro v' w' ho hgr hng;obtain ⟨g2,c3,rfl⟩:=fk ho (by omega)
    have HO2:Hid (w'.ownsRow w.heap.size 5 1 (.slice (some ⟨g2,0,none⟩) (7+1) c3) (7+1) (fe (dw (7+1) (u / 1)))):=by
     rw [Hid,hN.out,fP];exact ho
    have HW3:=Na (ai hW.out hO1.out hgr (Nat.le_refl _) hs);clear ho hgr hng hO1 hW an dr;go_wp2_with fail;go_roundw
    case rel=>exact ⟨7+1,g2,c3,by omega,by go_num,rfl,HO2,HW3.out⟩
    case measure=>simp [intOf]
  · have hO1:Hid (wr.ownsRow w.heap.size 5 1 (.slice (some ⟨g,0,none⟩) 8 c) 8 (fe (dw 8 (u / 1)))):=hO'
    rw [← HT.out] at hO1;have hR:=Na (ay hO1.out (Nat.le_refl _));have hl:Hid ((db x).length=8):=kj x;have hcv:=run_convert_bytes_back (P:=Tryz.prog) wr 22 9 5 ⟨g,0,none⟩ c (db x) Tryz.underlying22 Tryz.underlying5 Tryz.underlying9 (fun j hj=>by
     rcases hR.out with h | ⟨b,o,h1,_,h3⟩
     · have:=congrArg List.length h;rw [bys_length,hl.out] at this;cases this
     · injection h1 with h1;injection h1 with h1 h2;subst h1 h2
       have h5:=h3 j (by rw [bys_length];exact hj)
       rw [sj hj,Nat.zero_add] at h5;rw [og,Nat.zero_add];exact h5)
    rw [hl.out] at hcv;clear hO hO' hR;go_wp2_with fail;go_ret;exact ⟨rfl,hW.out⟩
theorem DI {xs:List Nat} {k:Nat} {x:Nat} (hk:1≤k) (h:xs[k]? = some x):ba (xs.take (k+1))=ba (xs.take k) ++ ([44] ++ db x):=by
 have hlt:k<xs.length:=(List.getElem?_eq_some_iff.1 h).1;have n1:xs.take k≠[]:=fun e=>by have:=congrArg List.length e;rw [List.length_take,List.length_nil] at this;omega
 have n2:xs.take (k+1)≠[]:=fun e=>by have:=congrArg List.length e;rw [List.length_take,List.length_nil] at this;omega
 unfold ba;rw [if_neg n2,if_neg n1,List.map_take,List.map_take];exact xx hk (by rw [List.getElem?_map,h];rfl)
theorem MW (a b c:List UInt8):bs a ++ ((⟨b.toArray⟩:ByteArray) ++ bs c)=bs (a ++ (b ++ c)):=by
 apply ByteArray.ext
 simp [bs]
theorem IF (x:Nat):ba [x]=db x:=by
 unfold ba;rw [if_neg (by simp),List.map_singleton,Lib.join_one]
theorem AJ (w:World) (a:Option Addr) (c:Nat) (xs:List Nat) (h:Rd w w.heap.size a (dt xs)) (hx:∀ y∈xs,y<4294967296) (h1:1≤xs.length) (hl:xs.length≤1024) :
 Calls Tryz.prog 65 #[.slice a xs.length c] w fun e w'=>e=.returned (.string (bs (ba xs)))∧Below w.heap.size w w':=by
 have HX:=Na h;have LH:=Na (fun v k (hk:k<xs.length)=>Ej v (xs.getD k 0) (hx _ (by rw [List.getD_eq_getElem?_getD,List.getElem?_eq_getElem hk];exact List.getElem_mem hk)))
 have G:=Na (fun k (hk:k<xs.length)=>(show xs[k]? = some (xs.getD k 0) by simp [List.getD,List.getElem?_eq_getElem hk]))
 have HN:=Na (fun k (hk:1≤k) (hlt:k<xs.length)=>DI (k:=k) hk (G.out k hlt))
 have H1:Hid (ba (xs.take 1)=db (xs.getD 0 0)):=by
  cases xs with
  | nil=>simp at h1
  | cons x r=>exact IF x
 have HE:Hid (ba (xs.take xs.length)=ba xs):=by rw [Hid,List.take_length]
 have HL:=Na (fun k=>qd (xs.take k))
 have h0:((xs.length:Int) == 0)=false:=by rw [beq_eq_false_iff_ne];omega
 have h8:=Na (fun x=>kj x)
 obtain ⟨b,o,rfl,hbb,hcj⟩:=h.atF (k:=0) (by omega)
 have c0:=hcj 0 (by omega)
 rw [Nat.add_zero] at c0;have L0:=Na (LH.out w 0 (by omega))
 clear h hcj hx
 go_enter Tryz.func65,Tryz.ntmps65;go_wp2_with fail;refine L0.out.mono ?_;rintro e w1 ⟨rfl,hb1⟩;have HB1:=Na hb1;rw [← H1.out];clear hb1 c0 L0;go_wp2_with fail
 go_loopw [3,4] (fun sv iv wr=>∃ k:Nat,1≤k∧k≤xs.length∧iv=.int .i64 k∧sv=.string (bs (ba (xs.take k)))∧Hid (Below w.heap.size w wr)) (fun _ iv _=>xs.length - (intOf iv).toNat)
 case atStart=>exact ⟨1,Nat.le_refl _,h1,rfl,rfl,HB1.out⟩
 case round =>
  clear HB1;obtain ⟨k,hk1,hk,rfl,rfl,hW⟩:=hrel;have k0:(0:Int)≤(k:Int):=Int.natCast_nonneg _
  by_cases hlt:k<xs.length
  · have k1:(k:Int)<(xs.length:Int):=by omega
    obtain ⟨b2,o2,hga,hbb2,hcj⟩:=(HX.out.to hW.out).atF hlt;injection hga with hga
    injection hga with hg1 hg2
    subst hg1 hg2;have hck:=hcj k hlt;have LH1:=Na (LH.out wr k hlt);have HN1:=Na (HN.out k hk1 hlt);have hz:=HL.out k;rw [List.length_take] at hz;have hs1:(bs (ba (xs.take k))).size≤20000:=by rw [aI];omega
    have hs2:(bs (db (xs.getD k 0))).size=8:=by rw [aI];exact h8.out _
    have hcat:Hid (bs (ba (xs.take k)) ++ (⟨#[44]⟩ ++ bs (db (xs.getD k 0)))=bs (ba (xs.take (k+1)))):=by
     rw [Hid,HN1.out];exact MW _ _ _
    clear hcj HN1 hz;generalize bs (db (xs.getD k 0))=H at *
    generalize xs.getD k 0=x at *
    generalize bs (ba (xs.take k))=S at *
    have hs3:((⟨#[44]⟩:ByteArray) ++ H).size=9:=by rw [ByteArray.size_append,hs2];rfl
    go_wp2_with fail;refine LH1.out.mono ?_;rintro e w2 ⟨rfl,hb2⟩;have HB2:=Na (aa hW.out hb2);clear hb2 hck LH1;go_wp2_with fail;go_roundw
    case rel=>exact ⟨k+1,by omega,by omega,by go_num,by rw [← hcat.out],HB2⟩
    case measure=>simp [intOf];omega
  · obtain rfl:k=xs.length:=by omega
    rw [HE.out];go_wp2_with fail;go_ret;exact ⟨rfl,hW.out⟩
end Go.Proofs.YtbknhgapjjaelaaGreatDoor
