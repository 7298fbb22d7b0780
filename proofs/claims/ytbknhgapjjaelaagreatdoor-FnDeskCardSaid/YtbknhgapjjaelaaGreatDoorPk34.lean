/-
  Part 34 of what the proof stands on: lemmas and contracts, each with its conditions ahead of the colon.
-/
import Derived.Test.YtbknhgapjjaelaaGreatDoorPk01
import Derived.Deep.RegionHeld3
import Derived.Test.YtbknhgapjjaelaaGreatDoorPk02
import Derived.Test.YtbknhgapjjaelaaGreatDoorPk03
import Derived.Test.YtbknhgapjjaelaaGreatDoorPk04
import Derived.Test.YtbknhgapjjaelaaGreatDoorPk06
import Derived.Test.YtbknhgapjjaelaaGreatDoorPk07
import Derived.Test.YtbknhgapjjaelaaGreatDoorPk11
import Derived.Test.YtbknhgapjjaelaaGreatDoorPk27
import Derived.Test.YtbknhgapjjaelaaGreatDoorPk33
set_option maxRecDepth 10000
set_option maxHeartbeats 16000000
namespace Go.Proofs.YtbknhgapjjaelaaGreatDoor
set_option linter.unusedVariables false
set_option linter.unusedSimpArgs false
open Go.RowKit
def yO (r:Option (List Int × List Int)) (w:World) (e:Ending) (w':World):Prop :=
 Below w.heap.size w w'∧match r with
 | none=>e=.returned (.tuple #[.slice none 0 0,.slice none 0 0,.bool false])
 | some (x,y)=>∃ a2 c2 a3 c3,e=.returned (.tuple #[.slice a2 x.length c2,.slice a3 y.length c3,.bool true])∧Rd w' w'.heap.size a2 (ae x)∧Rd w' w'.heap.size a3 (ae y)
def ig (R C:Nat) (xA xB:List Int) (n:Int):Option (List Int × List Int):=if eu n 1 1000=true then some (bQ R C xA (aD R C xB (C * R)) (n - 1).toNat) else none
structure LnS (w wr:World) (gR gC gO:Nat) (R C:Nat) (cells:List Value) (aT:Option Addr) (cT:Nat) (yB:List Int) (vS:Value) (rows cols:List Int):Prop where
 G:Blk wr w.heap.size cells 26
 O:Blk wr gO [.int .i64 C,.int .i64 R,.slice aT yB.length cT,vS] 26
 X:Blk wr gR (ae rows) 2
 Y:Blk wr gC (ae cols) 2
 T:Rd wr wr.heap.size aT (ae yB)
 nT:∀ b,aT=some b→gR<b.block∧gC<b.block
 B:Below w.heap.size w wr
section
variable {w wr wx:World} {gR gC gO R C cT:Nat} {cells:List Value} {aT:Option Addr} {yB rows cols:List Int} {vS:Value}
theorem LnS.same (h:LnS w wr gR gC gO R C cells aT cT yB vS rows cols) (hb:Below wr.heap.size wr wx):LnS w wx gR gC gO R C cells aT cT yB vS rows cols :=
 ⟨h.G.same hb,h.O.same hb,h.X.same hb,h.Y.same hb,h.T.to hb,h.nT,aa h.B hb⟩
theorem yP {a b:Nat} (h:a≠b):a<b∨b+1≤a:=by omega
theorem LnS.setR (h:LnS w wr gR gC gO R C cells aT cT yB vS rows cols) (h1:w.heap.size<gR) (h2:gC≠gR) (h3:gR<gO) (i:Nat) (x:Int):LnS w (wr.setCell ⟨gR,i,none⟩ (.int .i64 x)) gR gC gO R C cells aT cT yB vS (rows.set i x) cols:=by
 have ht:=ar wr gR i (.int .i64 x);exact ⟨h.G.touch ht (.inl h1),h.O.touch ht (.inr (by omega)),h.X.setI i x,h.Y.touch ht (yP h2),gF h.T ht (fun b e=>by have:=h.nT b e;omega),h.nT,aE h.B ht (by omega) h.B.size⟩
theorem LnS.setC (h:LnS w wr gR gC gO R C cells aT cT yB vS rows cols) (h1:w.heap.size<gC) (h2:gR≠gC) (h3:gC<gO) (i:Nat) (x:Int):LnS w (wr.setCell ⟨gC,i,none⟩ (.int .i64 x)) gR gC gO R C cells aT cT yB vS rows (cols.set i x):=by
 have ht:=ar wr gC i (.int .i64 x);exact ⟨h.G.touch ht (.inl h1),h.O.touch ht (.inr (by omega)),h.X.touch ht (yP h2),h.Y.setI i x,gF h.T ht (fun b e=>by have:=h.nT b e;omega),h.nT,aE h.B ht (by omega) h.B.size⟩
structure TwoM (w1 w3:World) (gR gC R C:Nat):Prop where
 X:Blk w3 gR (ae (List.replicate R 0)) 2
 Y:Blk w3 gC (ae (List.replicate C 0)) 2
 n:gC≠gR
 r:w1.heap.size≤gR
 c:w1.heap.size≤gC
 B:Below w1.heap.size w1 w3
theorem C7 (w1:World) (R C:Nat):TwoM w1 ((w1.alloc (.cells (ae (List.replicate R 0)).toArray 2)).alloc (.cells (ae (List.replicate C 0)).toArray 2)).drew w1.heap.size (w1.heap.size+1) R C:=by
 refine ⟨(Blk.new w1 _ _).alloc _,?_,by omega,Nat.le_refl _,by omega,au (bR w1 _ _)⟩
 have:=Blk.new (w1.alloc (.cells (ae (List.replicate R 0)).toArray 2)) (ae (List.replicate C 0)) 2;rw [World.size_alloc] at this;exact this
theorem Ki (w1:World) (R C:Nat):TwoM w1 ((w1.alloc (.cells (ae (List.replicate C 0)).toArray 2)).alloc (.cells (ae (List.replicate R 0)).toArray 2)).drew (w1.heap.size+1) w1.heap.size R C:=by
 obtain ⟨a,b,c,d,e,f⟩:=C7 w1 C R;exact ⟨b,a,fun h=>c h.symm,e,d,f⟩
end
theorem Lt {R C m:Nat} {xs:List Int} (h:∀ x∈xs,-1000≤x∧x≤1000):∀ x∈aD R C xs m,-1000≤x∧x≤1000:=fun x hx=>by
 unfold aD at hx;obtain ⟨j,_,rfl⟩:=List.mem_map.1 hx;exact iy h (by omega) (by omega) _
theorem Gn (w:World) (R C:Nat) (aA:Option Addr) (cA:Nat) (xA:List Int) (aB:Option Addr) (cB:Nat) (xB:List Int) (n:Int) (hG:bY R C xA xB=true) (hA:Rd w w.heap.size aA (ae xA)) (hB:Rd w w.heap.size aB (ae xB)) :
 Calls Tryz.prog 134 #[.agg #[.int .i64 R,.int .i64 C,.slice aA xA.length cA,.slice aB xB.length cB],.int .i64 n] w (yO (ig R C xA xB n) w):=by
 have hG':=hG;obtain ⟨R',C',e1,e2,r1,r6,c1,c6,lA,lB,bA,bB⟩:=ef hG';obtain rfl:R=R':=Int.ofNat.inj e1;obtain rfl:C=C':=Int.ofNat.inj e2;have hRC:R * C≤6 * 6:=Nat.mul_le_mul r6 c6;have HB1:=Na (ah w (.cells #[.int .i64 R,.int .i64 C,.slice aA xA.length cA,.slice aB xB.length cB] 26));have KG:=Na (Blk.new w [.int .i64 R,.int .i64 C,.slice aA xA.length cA,.slice aB xB.length cB] 26);have LV:=Na (fun v (hb:Below w.heap.size w v)=>dX v R C aA cA xA aB cB xB ⟨hA.to hb,hB.to hb⟩ (by omega) (by omega))
 rw [hG] at LV;have LW:=Na (fun v=>du n 1 1000 v)
 have LT:=Na (fun v (hb:Below w.heap.size w v)=>jG v R C aA cA xA aB cB xB (hA.to hb) (hB.to hb) lA lB r6 c6)
 unfold EQ at LT;have LA:=Na (fun (v:World) (hb:Below w.heap.size w v) (g cc:Nat) (cols:List Int) (hg:Blk v g (ae cols) 2) (hl:cols.length=C) (hx:∀ x∈cols,0≤x∧x≤1001)=>vP v R C aA cA xA (.slice aB xB.length cB) (some ⟨g,0,none⟩) cc cols (hA.to hb) (fw hg) lA hl r1 r6 c6 bA hx)
 have LO:=Na (fun (v:World) (aT:Option Addr) (cT:Nat) (vS:Value) (g cc:Nat) (rows:List Int) (hr:Rd v v.heap.size aT (ae (aD R C xB (C * R)))) (hg:Blk v g (ae rows) 2) (hl:rows.length=R) (hx:∀ x∈rows,0≤x∧x≤1001)=>vP v C R aT cT (aD R C xB (C * R)) vS (some ⟨g,0,none⟩) cc rows hr (fw hg) (by simp [aD]) hl c1 c6 r6 (Lt bB) hx)
 cases hw:eu n 1 1000 with
 | false =>
   have hF:Hid (ig R C xA xB n=none):=by unfold ig;rw [hw];rfl
   rw [hw] at LW;rw [hF.out];clear hA hB hG hG' lA lB bA bB e1 e2 hw LT LA LO
   go_enter Tryz.func134,Tryz.ntmps134;go_wp2_with fail;refine (LV.out _ HB1.out).mono ?_;rintro e w1 ⟨rfl,hb⟩;have B1:=Na (aa HB1.out hb);clear hb LV KG;go_wp2_with fail;refine (LW.out _).mono ?_;rintro e w2 ⟨rfl,rfl⟩;go_wp2_with fail;go_ret3;exact ⟨B1.out,rfl⟩
 | true =>
 rw [hw] at LW;have hn:=bH.1 hw;obtain ⟨m,rfl⟩:∃ m:Nat,n=(m:Int)+1:=⟨(n - 1).toNat,by omega⟩;have hm:(m:Int)≤999:=by omega
 have hF:Hid (ig R C xA xB ((m:Int)+1)=some (bQ R C xA (aD R C xB (C * R)) m)):=by
  have e:((m:Int)+1 - 1).toNat=m:=by omega
  rw [Hid];unfold ig;rw [if_pos hw,e]
 rw [hF.out];obtain ⟨yB,hyB⟩:∃ l,l=aD R C xB (C * R):=⟨_,rfl⟩;rw [← hyB] at LT LO ⊢;have HLK:=Na (fun k=>rN R C xA yB k)
 have HST:Hid (∀ k:Nat,bQ R C xA yB (k+1)=((bQ R C xA yB k).1.set (dF R C xA (bQ R C xA yB k).2) ((bQ R C xA yB k).1.getD (dF R C xA (bQ R C xA yB k).2) 0+1),(bQ R C xA yB k).2.set (dF C R yB (bQ R C xA yB k).1) ((bQ R C xA yB k).2.getD (dF C R yB (bQ R C xA yB k).1) 0+1))):=fun k=>rfl
 have HAI:Hid (∀ cnt:List Int,dF R C xA cnt<R):=fun cnt=>by obtain ⟨j,e,hj⟩:=nl C xA cnt R r1;unfold dF;rw [e,Int.toNat_natCast];exact hj
 have HOI:Hid (∀ cnt:List Int,dF C R yB cnt<C):=fun cnt=>by obtain ⟨j,e,hj⟩:=nl R yB cnt C c1;unfold dF;rw [e,Int.toNat_natCast];exact hj
 have hm1:=fun w=>tA w R (by omega)
 have hm2:=fun w=>tA w C (by omega)
 have r1i:(0:Int)<(R:Int):=by omega
 have c1i:(0:Int)<(C:Int):=by omega
 have r6i:(R:Int)≤6:=by omega
 have c6i:(C:Int)≤6:=by omega
 clear hA hB hG hG' lA lB bA bB e1 e2 hw hyB hF hn
 go_enter Tryz.func134,Tryz.ntmps134;go_wp2_with fail;refine (LV.out _ HB1.out).mono ?_;rintro e w1 ⟨rfl,hb⟩;have B1:=Na (aa HB1.out hb);have K1:=Na (KG.out.same hb);have s1:w.heap.size+1≤w1.heap.size:=by have:=hb.size;rw [World.size_alloc] at this;exact this
 clear hb LV KG HB1;go_wp2_with fail;refine (LW.out _).mono ?_;rintro e w2 ⟨rfl,rfl⟩;clear LW
 go_upto_region 3 with fail
 have E1:Hid (w1.cell? ⟨w.heap.size,0,none⟩=some (.int .i64 R)∧w1.cell? ⟨w.heap.size,1,none⟩=some (.int .i64 C)):=⟨K1.out.cell 0,K1.out.cell 1⟩;have hbl:w.heap.size<w1.heap.size:=K1.out.lt
 go_region_held3 (fun w'=>w'.cell? ⟨w.heap.size,0,none⟩=some (.int .i64 R)∧w'.cell? ⟨w.heap.size,1,none⟩=some (.int .i64 C)) (first | exact E1.out | exact ⟨((ah _ _).cell (p:=⟨w.heap.size,0,none⟩) hbl).trans E1.out.1,((ah _ _).cell (p:=⟨w.heap.size,1,none⟩) hbl).trans E1.out.2⟩ | exact ⟨((bR _ _ _).cell (p:=⟨w.heap.size,0,none⟩) hbl).trans E1.out.1,((bR _ _ _).cell (p:=⟨w.heap.size,1,none⟩) hbl).trans E1.out.2⟩) (fail)
 all_goals first
  | (obtain ⟨w3,hw3⟩:∃ X,X=((w1.alloc (.cells (ae (List.replicate R 0)).toArray 2)).alloc (.cells (ae (List.replicate C 0)).toArray 2)).drew:=⟨_,rfl⟩
     rw [← hw3];have F:Hid (TwoM w1 w3 w1.heap.size (w1.heap.size+1) R C):=by rw [hw3];exact C7 w1 R C
     have hF2:w1.heap.size<w3.heap.size∧w1.heap.size+1<w3.heap.size:=⟨F.out.X.lt,F.out.Y.lt⟩;clear hw3;obtain ⟨gC,hgC⟩:∃ g,g=w1.heap.size+1:=⟨_,rfl⟩;obtain ⟨gR,hgR⟩:∃ g,g=w1.heap.size:=⟨_,rfl⟩;have FF:Hid (TwoM w1 w3 gR gC R C):=by rw [hgC,hgR];exact F.out
     rw [← hgC,← hgR];have hl2:gR<w3.heap.size∧gC<w3.heap.size:=by omega
     have hl3:w.heap.size<gR∧w.heap.size<gC∧gC≠gR:=by omega
     clear F hgC hgR hF2)
  | (obtain ⟨w3,hw3⟩:∃ X,X=((w1.alloc (.cells (ae (List.replicate C 0)).toArray 2)).alloc (.cells (ae (List.replicate R 0)).toArray 2)).drew:=⟨_,rfl⟩
     rw [← hw3];have F:Hid (TwoM w1 w3 (w1.heap.size+1) w1.heap.size R C):=by rw [hw3];exact Ki w1 R C
     have hF2:w1.heap.size<w3.heap.size∧w1.heap.size+1<w3.heap.size:=⟨F.out.Y.lt,F.out.X.lt⟩;clear hw3;obtain ⟨gR,hgR⟩:∃ g,g=w1.heap.size+1:=⟨_,rfl⟩;obtain ⟨gC,hgC⟩:∃ g,g=w1.heap.size:=⟨_,rfl⟩;have FF:Hid (TwoM w1 w3 gR gC R C):=by rw [hgC,hgR];exact F.out
     rw [← hgR,← hgC];have hl2:gR<w3.heap.size∧gC<w3.heap.size:=by omega
     have hl3:w.heap.size<gR∧w.heap.size<gC∧gC≠gR:=by omega
     clear F hgC hgR hF2)
 all_goals
  obtain ⟨hlr,hlc⟩:=hl2;obtain ⟨hbR,hbC,hne⟩:=hl3;have KR:=FF.out.X;have KC:=FF.out.Y;have B3:=Na (aa B1.out FF.out.B);have K3:=Na (K1.out.same FF.out.B);have cR:w3.cell? ⟨gR,0,none⟩=some (.int .i64 0):=by rw [KR.at (k:=0) (by simp;omega)];cases R with | zero=>omega | succ R=>rfl
  have cC:w3.cell? ⟨gC,0,none⟩=some (.int .i64 0):=by rw [KC.at (k:=0) (by simp;omega)];cases C with | zero=>omega | succ C=>rfl
  have fR:=KR.free 0;have fC:=KC.free 0;obtain ⟨w4,hw4⟩:∃ X,X=(w3.setCell ⟨gR,0,none⟩ (.int .i64 1)).setCell ⟨gC,0,none⟩ (.int .i64 1):=⟨_,rfl⟩;have KR4:Blk w4 gR (ae ((List.replicate R 0).set 0 1)) 2:=by rw [hw4];exact (KR.setI 0 1).touch (ar _ gC 0 _) (yP hne.symm)
  have KC4:Blk w4 gC (ae ((List.replicate C 0).set 0 1)) 2:=by rw [hw4];exact (KC.touch (ar w3 gR 0 _) (yP hne)).setI 0 1
  have B4:Hid (Below w.heap.size w w4):=by
   rw [hw4];exact aE (aE B3.out (ar w3 gR 0 _) (by omega) B3.out.size) (ar _ gC 0 _) (by omega) (by simp;exact B3.out.size)
  have K4:Hid (Blk w4 w.heap.size [.int .i64 R,.int .i64 C,.slice aA xA.length cA,.slice aB xB.length cB] 26):=by
   rw [hw4];exact (K3.out.touch (ar w3 gR 0 _) (.inl hbR)).touch (ar _ gC 0 _) (.inl hbC)
  have s4:gR<w4.heap.size∧gC<w4.heap.size:=by rw [hw4];simp;exact ⟨hlr,hlc⟩
  go_upto_region 5 with fail
  rw [← hw4];clear hw4 cR cC fR fC KR KC B3 E1 K1 B1 K3 FF;have L5:=Na (LT.out w4 B4.out);obtain ⟨q0,q1,q2,q3⟩:w4.cell? ⟨w.heap.size,0,none⟩=some (.int .i64 R)∧w4.cell? ⟨w.heap.size,1,none⟩=some (.int .i64 C)∧w4.cell? ⟨w.heap.size,2,none⟩=some (.slice aA xA.length cA)∧w4.cell? ⟨w.heap.size,3,none⟩=some (.slice aB xB.length cB):=⟨K4.out.cell 0,K4.out.cell 1,K4.out.cell 2,K4.out.cell 3⟩;clear LT;go_wp2_with fail;refine L5.out.mono ?_;rintro e w5 ⟨aT,cT,aS,cS,rfl,rT,rS,hb,nT,nS⟩;obtain ⟨w6,hw6⟩:∃ X,X=w5.alloc (.cells #[.int .i64 C,.int .i64 R,.slice aT yB.length cT,.slice aS (aD R C xA (C * R)).length cS] 26):=⟨_,rfl⟩;have hb6:Below w5.heap.size w5 w6:=by rw [hw6];exact ah _ _
  have S6:Hid (LnS w w6 gR gC w5.heap.size R C [.int .i64 R,.int .i64 C,.slice aA xA.length cA,.slice aB xB.length cB] aT cT yB (.slice aS (aD R C xA (C * R)).length cS) (bQ R C xA yB 0).1 (bQ R C xA yB 0).2):=by
   refine ⟨(K4.out.same hb).same hb6,?_,(KR4.same hb).same hb6,(KC4.same hb).same hb6,rT.to hb6,fun b e=>by have:=nT b e;omega,aa (aa B4.out hb) hb6⟩
   rw [hw6];exact Blk.new w5 _ _
  have hgO:gR<w5.heap.size∧gC<w5.heap.size:=by have:=hb.size;omega
  clear L5 rT rS hb nT nS q0 q1 q2 q3 K4 KR4 KC4 B4 hb6;generalize aD R C xA (C * R)=xT at *
  go_upto_region 6 with fail
  rw [← hw6];clear hw6;obtain ⟨gO,hgO2⟩:∃ g,g=w5.heap.size:=⟨_,rfl⟩;rw [← hgO2] at S6 hgO ⊢;clear hgO2 s4;obtain ⟨hgO,hgP⟩:=hgO;go_wp2_with fail
  go_loopw [34] (fun iv wr=>∃ k:Nat,k≤m∧iv=.int .i64 k∧Hid (LnS w wr gR gC gO R C [.int .i64 R,.int .i64 C,.slice aA xA.length cA,.slice aB xB.length cB] aT cT yB (.slice aS xT.length cS) (bQ R C xA yB k).1 (bQ R C xA yB k).2)) (fun iv _=>m - (intOf iv).toNat)
  case atStart=>exact ⟨0,Nat.zero_le _,rfl,S6.out⟩
  case round =>
   clear S6;obtain ⟨k,hk,rfl,hS⟩:=hrel;have k0:(0:Int)≤(k:Int):=Int.natCast_nonneg _
   by_cases hlt:k<m
   · have hki:(k:Int)<(m:Int):=by omega
     obtain ⟨l1,l2,b1,b2⟩:=HLK.out k;have hst:=Na (HST.out k);generalize bQ R C xA yB k=st at *
     obtain ⟨rows,cols⟩:=st;dsimp only at *
     have L1:Hid (∀ z9:Later wr,Calls Tryz.prog 192 #[.agg #[.int .i64 R,.int .i64 C,.slice aA xA.length cA,.slice aB xB.length cB],.slice (some ⟨gC,0,none⟩) C C] z9.w' fun e w'=>e=.returned (.int .i64 (dF R C xA cols:Nat))∧Below z9.w'.heap.size z9.w' w'):=fun z9=>by
      have:=LA.out z9.w' (aa hS.out.B z9.h) gC C cols (hS.out.Y.same z9.h) l2 (fun x hx=>by have:=b2 x hx;omega)
      rw [l2] at this;exact this
     have L2:Hid (∀ z9:Later wr,Calls Tryz.prog 192 #[.agg #[.int .i64 C,.int .i64 R,.slice aT yB.length cT,.slice aS xT.length cS],.slice (some ⟨gR,0,none⟩) R R] z9.w' fun e w'=>e=.returned (.int .i64 (dF C R yB rows:Nat))∧Below z9.w'.heap.size z9.w' w'):=fun z9=>by
      have:=LO.out z9.w' aT cT (.slice aS xT.length cS) gR R rows (hS.out.T.to z9.h) (hS.out.X.same z9.h) l1 (fun x hx=>by have:=b1 x hx;omega)
      rw [l1] at this;exact this
     have hi:=HAI.out cols;have hj:=HOI.out rows;generalize dF R C xA cols=i at *
     generalize dF C R yB rows=j at *
     have D0:∀ z9:Later wr,z9.w'.cell? ⟨w.heap.size,0,none⟩=some (.int .i64 R):=fun z9=>(hS.out.G.same z9.h).cell 0
     have D1:∀ z9:Later wr,z9.w'.cell? ⟨w.heap.size,1,none⟩=some (.int .i64 C):=fun z9=>(hS.out.G.same z9.h).cell 1
     have D2:∀ z9:Later wr,z9.w'.cell? ⟨w.heap.size,2,none⟩=some (.slice aA xA.length cA):=fun z9=>(hS.out.G.same z9.h).cell 2
     have D3:∀ z9:Later wr,z9.w'.cell? ⟨w.heap.size,3,none⟩=some (.slice aB xB.length cB):=fun z9=>(hS.out.G.same z9.h).cell 3
     have D4:∀ z9:Later wr,z9.w'.cell? ⟨gO,0,none⟩=some (.int .i64 C):=fun z9=>(hS.out.O.same z9.h).cell 0
     have D5:∀ z9:Later wr,z9.w'.cell? ⟨gO,1,none⟩=some (.int .i64 R):=fun z9=>(hS.out.O.same z9.h).cell 1
     have D6:∀ z9:Later wr,z9.w'.cell? ⟨gO,2,none⟩=some (.slice aT yB.length cT):=fun z9=>(hS.out.O.same z9.h).cell 2
     have D7:∀ z9:Later wr,z9.w'.cell? ⟨gO,3,none⟩=some (.slice aS xT.length cS):=fun z9=>(hS.out.O.same z9.h).cell 3
     have i1:(i:Int)<(R:Int):=by omega
     have j1:(j:Int)<(C:Int):=by omega
     have i0:(0:Int)≤(i:Int):=Int.natCast_nonneg _;have j0:(0:Int)≤(j:Int):=Int.natCast_nonneg _;obtain ⟨u0,u1⟩:=iy b1 (by omega) (by omega) i
     obtain ⟨v0,v1⟩:=iy b2 (by omega) (by omega) j
     go_wp2_with fail;refine bf (by kernel_rfl) (by kernel_rfl) ?_
     repeat (go_big_quiet_step (first | (go_at_call_of 192 aA;exact dx (L1.out _)) | (go_at_call_of 192 aT;exact dx (L2.out _))))
     refine wpQuiet_nil ?_
     rintro wq ⟨⟨_,hbq⟩,rfl⟩
     rename_i wq
     have Sq:=Na (hS.out.same hbq);clear D0 D1 D2 D3 D4 D5 D6 D7 L1 L2 hS hbq b1 b2;have cR:=Sq.out.X.at (k:=i) (by omega)
     have fR:=Sq.out.X.free i;generalize rows.getD i 0=u at *
     have S8:=Na (Sq.out.setR hbR hne hgO i (u+1));have cC:=S8.out.Y.at (k:=j) (by omega)
     have fC:=S8.out.Y.free j;generalize cols.getD j 0=v at *
     have S9:=Na (S8.out.setC hbC hne.symm hgP j (v+1));have e1:rows.set i (u+1)=(bQ R C xA yB (k+1)).1:=by rw [hst.out]
     have e2:cols.set j (v+1)=(bQ R C xA yB (k+1)).2:=by rw [hst.out]
     have S10:=S9;rw [e1,e2] at S10;clear e1 e2;clear S9;clear Sq S8 l1 l2;go_wp2_with fail;go_roundw
     case rel=>exact ⟨k+1,by omega,by go_num,S10⟩
     case measure=>simp [intOf];omega
   · obtain rfl:k=m:=by omega
     obtain ⟨l1,l2,-,-⟩:=HLK.out k;have hx:=Na (fw hS.out.X);have hy:=Na (fw hS.out.Y);have hB:=Na hS.out.B;generalize hst:bQ R C xA yB k=st at *
     obtain ⟨rows,cols⟩:=st;dsimp only at *
     have HST2:=Na hst;clear hS hst;subst l1;subst l2;go_wp2_with fail;go_ret3;exact ⟨hB.out,_,_,_,_,rfl,hx.out,hy.out⟩
def dl (n:Nat):Nat→List Int→List (List Int)
 | 0,p=>[p]
 | f+1,p=>(List.range n).flatMap fun (i:Nat)=>if decide ((i:Int)∈p) then [] else dl n f (p ++ [(i:Int)])
def jQ (n:Nat) (xs os:List Int):Nat→Int
 | 0=>0
 | k+1=>jQ n xs os k+ir n xs k (os.getD k 0).toNat
def lZ (n:Nat) (xs os:List Int):Int:=jQ n xs os n
theorem Be {n:Nat} {xs os:List Int} (h:∀ x∈xs,0≤x∧x≤1000):∀ k:Nat,0≤jQ n xs os k∧jQ n xs os k≤1000 * (k:Int)
 | 0=>by simp [jQ]
 | k+1=>by
   have:=Be (n:=n) (os:=os) h k;have:=mh (T:=n) h k (os.getD k 0).toNat;rw [jQ];omega
def gh (n:Nat) (xs os:List Int):dQ→dQ
 | none=>some (os,lZ n xs os)
 | some (b,m)=>if m<lZ n xs os then some (os,lZ n xs os) else some (b,m)
def kN (n:Nat) (xs:List Int) (done:List (List Int)):dQ:=done.foldl (fun s o=>gh n xs o s) none
theorem uE (n:Nat) (xs:List Int) (done:List (List Int)) (os:List Int):kN n xs (done ++ [os])=gh n xs os (kN n xs done):=by
 unfold kN;rw [List.foldl_append];rfl
theorem yi (n:Nat) (xs os:List Int) (s:dQ):∃ b m,gh n xs os s=some (b,m):=by
 cases s with
 | none=>exact ⟨_,_,rfl⟩
 | some p =>
   obtain ⟨b,m⟩:=p;unfold gh
   split
   · exact ⟨_,_,rfl⟩
   · split <;> exact ⟨_,_,rfl⟩
theorem Ef (n:Nat) (xs:List Int) {done:List (List Int)} (h:done≠[]):∃ b m,kN n xs done=some (b,m):=by
 obtain ⟨d,o,rfl⟩:∃ d o,done=d ++ [o]:=⟨done.dropLast,done.getLast h,(List.dropLast_concat_getLast h).symm⟩;rw [uE];exact yi n xs o _
theorem Jg:(List.range 6).all (fun n=>!(dl (n+1) (n+1) []).isEmpty)=true:=by decide +kernel
theorem ER {n:Nat} (h1:1≤n) (h6:n≤6):dl n n []≠[]:=by
 have:=List.all_eq_true.1 Jg (n - 1) (List.mem_range.2 (by omega))
 rw [show n - 1+1=n from by omega] at this
 intro e;rw [e] at this;simp at this
theorem Gy {n:Nat} {xs:List Int} {done:List (List Int)}:∀ b m,kN n xs done=some (b,m)→b∈done:=by
 have key:∀ (done:List (List Int)) (s:dQ) (b:List Int) (m:Int),done.foldl (fun s o=>gh n xs o s) s=some (b,m)→b∈done∨∃ k,s=some (b,k):=by
  intro done
  induction done with
  | nil=>intro s b m h;exact .inr ⟨m,h⟩
  | cons o done ih =>
    intro s b m h
    rcases ih _ b m h with h1 | ⟨k,h1⟩
    · exact .inl (List.mem_cons_of_mem _ h1)
    · cases s with
      | none=>injection h1 with h1;injection h1 with h1 _;exact .inl (by rw [h1];exact List.mem_cons_self)
      | some p =>
        obtain ⟨b',m'⟩:=p;have h1':gh n xs o (some (b',m'))=some (b,k):=h1
        by_cases hm:m'<lZ n xs o
        · rw [show gh n xs o (some (b',m'))=some (o,lZ n xs o) from if_pos hm] at h1'
          injection h1' with h2;injection h2 with h2 _;exact .inl (by rw [h2];exact List.mem_cons_self)
        · rw [show gh n xs o (some (b',m'))=some (b',m') from if_neg hm] at h1'
          injection h1' with h2;injection h2 with h2 _;exact .inr ⟨m',by rw [h2]⟩
 intro b m h
 rcases key done none b m h with h1 | ⟨k,h1⟩
 · exact h1
 · cases h1
theorem Fb:(List.range 6).all (fun n=>(dl (n+1) (n+1) []).all fun q=>decide (q.length=n+1))=true:=by decide +kernel
theorem Hi {n:Nat} (h1:1≤n) (h6:n≤6) {xs b:List Int} {m:Int} (h:kN n xs (dl n n [])=some (b,m)):b.length=n:=by
 have:=List.all_eq_true.1 Fb (n - 1) (List.mem_range.2 (by omega))
 rw [show n - 1+1=n from by omega] at this
 exact of_decide_eq_true (List.all_eq_true.1 this b (Gy b m h))
def rI (n:Nat) (xs rooms r:List Int) (j:Nat):Nat→List Int
 | 0=>r
 | k+1=>(rI n xs rooms r j k).set j (max ((rI n xs rooms r j k).getD j 0) ((rI n xs rooms r j k).getD (rooms.getD k 0).toNat 0+ir n xs k j - ir n xs k (rooms.getD k 0).toNat))
def rJ (n:Nat) (xs rooms r:List Int):Nat→List Int
 | 0=>r
 | j+1=>rI n xs rooms (rJ n xs rooms r j) j n
def rO (n:Nat) (xs rooms:List Int):Nat→List Int
 | 0=>List.replicate n 0
 | t+1=>rJ n xs rooms (rO n xs rooms t) n
theorem zt (n:Nat) (xs rooms r:List Int) (j:Nat):∀ k,(rI n xs rooms r j k).length=r.length
 | 0=>rfl
 | k+1=>by rw [rI,List.length_set];exact zt n xs rooms r j k
theorem yR (n:Nat) (xs rooms r:List Int):∀ j,(rJ n xs rooms r j).length=r.length
 | 0=>rfl
 | j+1=>by rw [rJ,zt];exact yR n xs rooms r j
theorem zu (n:Nat) (xs rooms:List Int):∀ t,(rO n xs rooms t).length=n
 | 0=>by simp [rO]
 | t+1=>by rw [rO,yR];exact zu n xs rooms t
def InZ (b:Int) (r:List Int):Prop:=∀ x∈r,0≤x∧x≤b
theorem InZ.mono {b c:Int} {r:List Int} (h:InZ b r) (hc:b≤c):InZ c r:=fun x hx=>⟨(h x hx).1,by have:=(h x hx).2;omega⟩
theorem InZ.get {b:Int} {r:List Int} (h:InZ b r) (hb:0≤b) (k:Nat):0≤r.getD k 0∧r.getD k 0≤b:=by
 rw [List.getD_eq_getElem?_getD]
 by_cases hk:k<r.length
 · rw [List.getElem?_eq_getElem hk];exact h _ (List.getElem_mem hk)
 · rw [List.getElem?_eq_none (by omega)];exact ⟨Int.le_refl _,hb⟩
theorem InZ.set {b:Int} {r:List Int} (h:InZ b r) {v:Int} (h0:0≤v) (h1:v≤b) (j:Nat):InZ b (r.set j v):=fun x hx=>by
 rcases List.mem_or_eq_of_mem_set hx with hx | hx
 · exact h x hx
 · subst hx;exact ⟨h0,h1⟩
theorem Ff {n:Nat} {xs rooms r:List Int} {b:Int} (hx:∀ x∈xs,0≤x∧x≤1000) (hb:0≤b) (h:InZ b r) (j:Nat):∀ k:Nat,InZ (b+1000 * (k:Int)) (rI n xs rooms r j k)
 | 0=>h.mono (by omega)
 | k+1=>by
   have ih:=Ff (n:=n) (rooms:=rooms) hx hb h j k;have g1:=ih.get (by omega) j
   have g2:=ih.get (by omega) (rooms.getD k 0).toNat
   have o1:=mh (T:=n) hx k j;have o2:=mh (T:=n) hx k (rooms.getD k 0).toNat;rw [rI];exact (ih.mono (by omega)).set (by omega) (by omega) j
theorem Fk {n:Nat} {xs rooms r:List Int} {b:Int} (hx:∀ x∈xs,0≤x∧x≤1000) (hb:0≤b) (h:InZ b r) (hn:n≤6):∀ j:Nat,InZ (b+6000 * (j:Int)) (rJ n xs rooms r j)
 | 0=>h.mono (by omega)
 | j+1=>by
   have ih:=Fk (n:=n) (rooms:=rooms) hx hb h hn j;have:=Ff (n:=n) (rooms:=rooms) hx (by omega) ih j n
   rw [rJ];exact this.mono (by omega)
theorem Et {n:Nat} {xs rooms:List Int} (hx:∀ x∈xs,0≤x∧x≤1000) (hn:n≤6):∀ t:Nat,InZ (36000 * (t:Int)) (rO n xs rooms t)
 | 0=>fun x h=>by simp [rO] at h;omega
 | t+1=>by
   have ih:=Et (rooms:=rooms) hx hn t;have:=Fk (n:=n) (rooms:=rooms) hx (by omega) ih hn n
   rw [rO];exact this.mono (by omega)
def ik (n:Nat) (total:Int) (r:List Int) (k:Nat):List Int:=(r.take k).map fun x=>x * (n:Int)+total - lq r
def gI (P T:Nat) (xs:List Int) (total:Int):Option (List Int × List Int) :=
 if (decide (P=T) && eu total 0 100000)=true then match kN P xs (dl P P []) with
  | none=>none
  | some (rooms,_)=>some (rooms,ik P total (rO P xs rooms P) P)
 else none
theorem FU {P T:Nat} {xs x y:List Int} {n:Int} (h:gI P T xs n=some (x,y)) (p1:1≤P) (p6:P≤6):x.length=P:=by
 unfold gI at h
 split at h
 · cases hr:kN P xs (dl P P []) with
   | none=>rw [hr] at h;cases h
   | some p =>
     obtain ⟨b,m⟩:=p;rw [hr] at h;injection h with h
     injection h with h1 h2
     subst h1;exact Hi p1 p6 hr
 · cases h
end Go.Proofs.YtbknhgapjjaelaaGreatDoor
