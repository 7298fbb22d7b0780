/-
  Part 44 of what the proof stands on: lemmas and contracts, each with its conditions ahead of the colon.
-/
import Derived.Test.YtbknhgapjjaelaaGreatDoorPj01
import Derived.Deep.RegionHeldLaw
import Derived.RegionTactic
import Derived.Test.YtbknhgapjjaelaaGreatDoorPj05
import Derived.Test.YtbknhgapjjaelaaGreatDoorPj06
import Derived.Test.YtbknhgapjjaelaaGreatDoorPj08
import Derived.Test.YtbknhgapjjaelaaGreatDoorPj09
import Derived.Test.YtbknhgapjjaelaaGreatDoorPj42
set_option maxRecDepth 10000
set_option maxHeartbeats 8000000
namespace Go.Proofs.YtbknhgapjjaelaaGreatDoor
set_option linter.unusedVariables false
set_option linter.unusedSimpArgs false
open Go.RowKit
theorem Kn {w:World} {base e g n c j:Nat} {l:List Int} (h:w.ownsRow base e 1 (.slice (some ⟨g,0,none⟩) n c) n (ae l)) (hj:j<n) (x:Int) :
 (w.setCell ⟨g,j,none⟩ (.int .i64 x)).ownsRow base e 1 (.slice (some ⟨g,0,none⟩) n c) n (ae (l.set j x))∧w.grownBy (w.setCell ⟨g,j,none⟩ (.int .i64 x)) (some g):=by
 have hg:w.grownBy (w.setCell ⟨g,j,none⟩ (.int .i64 x)) (some g):=⟨rfl,rfl,rfl,by simp,fun i _ hi=>Below.heap_setCell _ _ _ _ (fun e=>hi (by simp [e]))⟩
 refine ⟨?_,hg⟩
 obtain ⟨hl,h | ⟨g',cap,cur,hv,hb,hh,hn,hm,hs,ht⟩⟩:=h
 · omega
 · injection hv with ha _ hc
   injection ha with ha
   injection ha with ha
   subst ha hc;have K:Blk w g cur.toList e:=by unfold Blk;simpa using hh
   have K2:=K.set j (.int .i64 x);refine ⟨by simpa using hl,.inr ⟨g,c,(cur.toList.set j (.int .i64 x)).toArray,rfl,hb,K2,hn,hm,by simpa using hs,?_⟩⟩
   rw [oE,← ht,List.take_set]
theorem rY {w:World} {base e n c:Nat} {l:List Int} {a:Option Addr} (h:w.ownsRow base e 1 (.slice a n c) n (ae l)) (hn:1≤n):∃ g,a=some ⟨g,0,none⟩∧base≤g∧g<w.heap.size:=by
 obtain ⟨g,ha,h1,h2,_⟩:=(show ∃ g,a=some ⟨g,0,none⟩∧base≤g∧g<w.heap.size∧True by
  obtain ⟨hl,h | ⟨g',cap,cur,hv,hb,hh,_⟩⟩:=h
  · omega
  · injection hv with ha _ _
    exact ⟨g',ha,hb,lt_of_block hh,trivial⟩)
 exact ⟨g,ha,h1,h2⟩
theorem ya {w:World} {base e g n c j:Nat} {l:List Int} (h:w.ownsRow base e 1 (.slice (some ⟨g,0,none⟩) n c) n (ae l)) (hj:j<n):w.cell? ⟨g,j,none⟩=some (.int .i64 (l.getD j 0))∧w.frozen? ⟨g,j,none⟩=false:=by
 obtain ⟨hl,h | ⟨g',cap,cur,hv,hb,hg,hn,hc,hs,ht⟩⟩:=h
 · omega
 · injection hv with ha _ _
   injection ha with ha
   injection ha with ha
   subst ha;rw [ints_length] at hl;refine ⟨?_,by simp [World.frozen?,hg]⟩
   have e1:cur.toList[j]? = (ae l)[j]?:=by rw [← ht,List.getElem?_take_of_lt (by omega)]
   rw [eJ l j (by omega)] at e1
   simp only [World.cell?,hg];simpa using e1
structure DW (w wX:World) (B0 b:Nat) (a:Option Addr) (xs:List Int) (c p g:Nat) (cs:List Value):Prop where
 T:Touch w wX b (b+1)
 D:DS wX B0 b a xs c p
 R:Blk wX w.heap.size [.int .i64 0,.int .i64 0,.slice none 0 0,.slice none 0 0] 26
 V:Blk wX g cs 26
section
variable {w wX wY:World} {B0 b c p p' g:Nat} {a:Option Addr} {xs:List Int} {cs:List Value}
theorem DW.below (h:DW w wX B0 b a xs c p g cs) (hb:Below wX.heap.size wX wY):DW w wY B0 b a xs c p g cs :=
 ⟨h.T.trans (Below.touch hb b (b+1)),h.D.same hb,h.R.same hb,h.V.same hb⟩
theorem DW.draw (h:DW w wX B0 b a xs c p g cs) (hb:b<w.heap.size) (hg:w.heap.size<g) (ht:Touch wX wY b (b+1)) (hd:DS wY B0 b a xs c p'):DW w wY B0 b a xs c p' g cs :=
 ⟨h.T.trans ht,hd,h.R.touch ht (.inr (by omega)),h.V.touch ht (.inr (by omega))⟩
theorem DW.fresh {lo hi:Nat} (h:DW w wX B0 b a xs c p g cs) (hb:b<w.heap.size) (ht:Touch wX wY lo hi) (hlo:w.heap.size<lo) (hd:g<lo∨hi≤g):DW w wY B0 b a xs c p g cs :=
 ⟨⟨ht.os.trans h.T.os,ht.tape.trans h.T.tape,ht.output.trans h.T.output,Nat.le_trans h.T.size ht.size,fun k hk hd=>(ht.block k (by have:=h.T.size;omega) (by omega)).trans (h.T.block k hk hd)⟩,h.D.touch ht (by omega),h.R.touch ht (.inl hlo),h.V.touch ht hd⟩
theorem cg (w:World) (g j:Nat) (u:Value):Touch w (w.setCell ⟨g,j,none⟩ u) g (g+1) :=
 Touch.of_grown (show w.grownBy (w.setCell ⟨g,j,none⟩ u) (some g) from ⟨rfl,rfl,rfl,by simp,fun i _ hi=>Below.heap_setCell _ _ _ _ (fun e=>hi (by simp [e]))⟩) (Nat.le_refl _) (Nat.lt_succ_self _)
theorem DW.set (h:DW w wX B0 b a xs c p g cs) (hb:b<w.heap.size) (hg:w.heap.size<g) (j:Nat) (u:Value):DW w (wX.setCell ⟨g,j,none⟩ u) B0 b a xs c p g (cs.set j u):=by
 have ht:=cg wX g j u;exact ⟨⟨ht.os.trans h.T.os,ht.tape.trans h.T.tape,ht.output.trans h.T.output,Nat.le_trans h.T.size ht.size,fun k hk hd=>(ht.block k (by have:=h.T.size;omega) (by omega)).trans (h.T.block k hk hd)⟩,h.D.touch ht (by omega),h.R.touch ht (.inl hg),h.V.set j u⟩
end
def Ng (w:World) (B0 b:Nat) (a:Option Addr) (xs:List Int) (c p R C:Nat) (e:Ending) (w':World):Prop :=
 ∃ aA cA A aB cB B p',e=.returned (.agg #[.int .i64 R,.int .i64 C,.slice aA (R * C) cA,.slice aB (R * C) cB])∧(A.length=R * C∧B.length=R * C)∧((∀ x∈A,-6≤x∧x≤6)∧∀ x∈B,-6≤x∧x≤200)∧OwnGame w' w.heap.size w'.heap.size aA cA A aB cB B∧p'≤p+40∧DS w' B0 b a xs c p'∧Touch w w' b (b+1)
theorem Lb (w:World) (B0 b:Nat) (a:Option Addr) (xs:List Int) (c p R C:Nat) (h:DS w B0 b a xs c p) (hp:p≤700000) (R0:1≤R) (R4:R≤4) (C0:1≤C) (C4:C≤4) :
 Calls Tryz.prog 93 #[.pointer (some ⟨b,0,none⟩),.int .i64 R,.int .i64 C] w (Ng w B0 b a xs c p R C):=by
 have hbw:=h.lt;have N16:R * C≤16:=Nat.mul_le_mul R4 C4;have N1:1≤R * C:=Nat.mul_le_mul R0 C0;obtain ⟨N,hN⟩:∃ N,N=R * C:=⟨_,rfl⟩;have hNi:(R:Int) * (C:Int)=(N:Int):=by rw [hN];exact (Int.natCast_mul R C).symm
 rw [← hN] at N16 N1;have HN:=Oi hN;have D0:=h.same (ai w (.cells #[.int .i64 0,.int .i64 0,.slice none 0 0,.slice none 0 0] 26));have KR0:=Oi (Blk.new w [.int .i64 0,.int .i64 0,.slice none 0 0,.slice none 0 0] 26);have L1:=Oi (Ar (w.alloc (.cells #[.int .i64 0,.int .i64 0,.slice none 0 0,.slice none 0 0] 26)) B0 b a xs c p N D0 (by omega) (by omega))
 have r0:(1:Int)≤(R:Int):=by omega
 have r4:(R:Int)≤4:=by omega
 have c0:(1:Int)≤(C:Int):=by omega
 have c4:(C:Int)≤4:=by omega
 have T0:=Oi (Below.touch (ai w (.cells #[.int .i64 0,.int .i64 0,.slice none 0 0,.slice none 0 0] 26)) b (b+1));clear h hN D0
 go_enter Tryz.func93,Tryz.ntmps93;go_wp2_with fail;refine L1.out.mono ?_;rintro e w1 ⟨aA,cA,A,p1,rfl,hA1,hA2,OA,hp1,D1,T1⟩;have s1:=T1.size;rw [World.size_alloc] at OA s1;have B2:=ai w1 (.cells #[.int .i64 R,.int .i64 C,.slice aA N cA,.slice none 0 0] 26);have W2:Hid (DW w (w1.alloc (.cells #[.int .i64 R,.int .i64 C,.slice aA N cA,.slice none 0 0] 26)) B0 b a xs c p1 w1.heap.size [.int .i64 R,.int .i64 C,.slice aA N cA,.slice none 0 0]) :=
  ⟨(T0.out.trans T1).trans (Below.touch B2 b (b+1)),D1.same B2,(KR0.out.touch T1 (.inr (by omega))).same B2,Blk.new w1 _ _⟩
 have OA2:=Oi (OA.keep B2);have HA:=Oi hA1;have HA2:=Oi hA2;have hp1':p1≤p+16:=by omega
 have L2:=Oi (dI _ B0 b a xs c p1 4 W2.out.D (by omega) (by omega))
 clear L1 OA D1 T1 B2 KR0 T0 hA1 hA2 hp1;go_wp2_with fail;have hgw:w.heap.size<w1.heap.size:=by omega
 refine L2.out.mono ?_;rintro e w3 ⟨x,p2,rfl,⟨x0,x1⟩,hp2,D3,T3⟩;have W3:=Oi (W2.out.draw hbw hgw T3 D3);have OA3:=Oi (OA2.out.touch T3 (.inr (by omega)))
 have s3:=T3.size;rw [World.size_alloc] at s3;have hp2':p2≤p+17:=by omega
 obtain ⟨g,hg⟩:∃ g,g=w1.heap.size:=⟨_,rfl⟩;rw [← hg] at W3 OA3 s3 hgw ⊢;clear hg L2 D3 T3 W2 OA2 hp1' hp2 s1;have HX1:=Oi x1;clear x1
 by_cases hx0:x=0
 · subst hx0
   have hAl:=HA.out;obtain ⟨bA,rfl,hbA,hbA2⟩:=rY (by have:=OA3.out.1;rw [hAl] at this;exact this) N1
   have hN16:(N:Int)≤16:=by omega
   go_wp2_with fail
   go_loopw [8] (fun iv wr=>∃ (i:Nat) (a2:Option Addr) (c2:Nat) (l:List Int),i≤N∧iv=.int .i64 i∧Hid (l.length=i∧∀ x∈l,-6≤x∧x≤200)∧Hid (DW w wr B0 b a xs c p2 g [.int .i64 R,.int .i64 C,.slice (some ⟨bA,0,none⟩) N cA,.slice a2 i c2])∧Hid (OwnI 2 wr (w.heap.size+1) g (some ⟨bA,0,none⟩) cA A)∧Hid (wr.ownsRow w3.heap.size 2 1 (.slice a2 i c2) i (ae l))∧w3.heap.size≤wr.heap.size) (fun iv _=>N - (intOf iv).toNat)
   case atStart=>exact ⟨0,none,0,[],Nat.zero_le _,rfl,⟨rfl,by simp⟩,W3.out,OA3.out,World.ownsRow_nil _ _ _ _,Nat.le_refl _⟩
   case round =>
    obtain ⟨i,a2,c2,l,hi,rfl,hL,hW,hOA,hO,hs3⟩:=hrel;have k2:wr.cell? ⟨g,2,none⟩=some (.slice (some ⟨bA,0,none⟩) N cA):=hW.out.V.cell 2
    by_cases hlt:i<N
    · have hlti:(i:Int)<(N:Int):=by omega
      have i0:(0:Int)≤(i:Int):=Int.natCast_nonneg _;obtain ⟨y,hy⟩:∃ y,y=A.getD i 0:=⟨_,rfl⟩;obtain ⟨hc1,_⟩:=ya (by have:=hOA.out.1;rw [hAl] at this;exact this) hlt
      rw [← hy] at hc1;have hyb:=HA2.out y (by rw [hy,List.getD_eq_getElem?_getD,List.getElem?_eq_getElem (by omega)];exact List.getElem_mem _)
      have y0:=hyb.1;have y1:=hyb.2;have eY:IntKind.i64.wrap (-y) = -y:=IntWalk.i64_in _ (by omega)
      have HCC:Hid (∀ w',Below w3.heap.size wr w'→w'.cell? ⟨g,2,none⟩=some (.slice (some ⟨bA,0,none⟩) N cA)∧w'.cell? ⟨g,3,none⟩=some (.slice a2 i c2)∧w'.cell? ⟨bA,i,none⟩=some (.int .i64 y)∧w'.frozen? ⟨g,3,none⟩=false):=fun w' hb=>⟨(hb.cell (p:=⟨g,2,none⟩) (by show g<_;omega)).trans k2,(hb.cell (p:=⟨g,3,none⟩) (by show g<_;omega)).trans (hW.out.V.cell 3),(hb.cell (p:=⟨bA,i,none⟩) hbA2).trans hc1,by have:=hb.block g (by omega);simp only [World.frozen?,this];exact hW.out.V.free 3⟩
      have hOd:Hid (wr.drew.ownsRow w3.heap.size 2 1 (.slice a2 i c2) i (ae l)):=hO.out;have hs3d:w3.heap.size≤wr.drew.heap.size:=hs3;obtain ⟨c2f,c3f,c4f,z3⟩:=HCC.out _ (Below.refl _ _);clear hyb hy hc1;go_wp2_with fail;have hb4:Below w3.heap.size wr (wr.alloc (.cells #[.int .i64 (-y)] 2)):=(Below.refl w3.heap.size wr).alloc hs3 _;obtain ⟨c2a,c3a,c4a,_⟩:=HCC.out (wr.alloc (.cells #[.int .i64 (-y)] 2)) hb4;have hOe:Hid ((wr.alloc (.cells #[.int .i64 (-y)] 2)).drew.ownsRow w3.heap.size 2 1 (.slice a2 i c2) i (ae l)):=hO.out.alloc _;have hKe:Hid (Blk (wr.alloc (.cells #[.int .i64 (-y)] 2)).drew wr.heap.size [.int .i64 (-y)] 2):=Blk.new wr _ _;have hse:w3.heap.size≤(wr.alloc (.cells #[.int .i64 (-y)] 2)).drew.heap.size:=by show w3.heap.size≤(wr.alloc (.cells #[.int .i64 (-y)] 2)).heap.size;simp;omega
      go_region_law
       ((refine Lc 46 (by rfl) (by rfl) _ _ 24 (by rfl) w3.heap.size 2 (.int .i64 0) 8 Tryz.underlying24 aZ (by rfl) _ i _ (by rfl) hOe.out _ _ (by rfl) (by rfl) hKe.out (by decide) (by omega) hse ?_;intro g5 c5 w5 ho5 hg5;have hb5:Below w3.heap.size wr w5:=(aq hb4).trans (ah (Below.refl w3.heap.size _) hOe.out hg5 (Nat.le_refl _) hse);obtain ⟨c25,c35,c45,z35⟩:=HCC.out w5 hb5))
      all_goals
       have WS:=Oi ((hW.out.below ((Below.refl w3.heap.size wr).mono (Nat.le_refl _) |> fun _=>Below.refl _ wr)))
       have WT:Touch wr w5 w3.heap.size wr.heap.size:=es hb5;have W5:=hW.out.fresh hbw WT (by omega) (.inl (by omega))
       have W6:=Oi (W5.set hbw hgw 3 (.slice (some ⟨g5,0,none⟩) (i+1) c5));have TX:=cg w5 g 3 (.slice (some ⟨g5,0,none⟩) (i+1) c5);have OA6:=Oi ((hOA.out.touch WT (.inl (by omega))).touch TX (.inl (Nat.le_refl _)))
       have O6:Hid ((w5.setCell ⟨g,3,none⟩ (.slice (some ⟨g5,0,none⟩) (i+1) c5)).ownsRow w3.heap.size 2 1 (.slice (some ⟨g5,0,none⟩) (i+1) c5) (i+1) (ae (l ++ [-y]))):=by rw [bk];exact aP ho5 (cI TX) (by omega)
       have HL6:Hid ((l ++ [-y]).length=i+1∧∀ x∈l ++ [-y],-6≤x∧x≤200):=by
        refine ⟨by simp [hL.out.1],fun x hx=>?_⟩
        rcases List.mem_append.1 hx with hx | hx
        · exact hL.out.2 x hx
        · simp at hx;omega
       have hs6:w3.heap.size≤(w5.setCell ⟨g,3,none⟩ (.slice (some ⟨g5,0,none⟩) (i+1) c5)).heap.size:=by simp;have:=hb5.size;omega
       clear WS WT W5 TX ho5 hg5 hb5 c25 c35 c45 z35;go_wp2_with fail;go_roundw
       case rel=>exact ⟨i+1,some ⟨g5,0,none⟩,c5,l ++ [-y],by omega,by go_num,HL6.out,W6.out,OA6.out,O6.out,hs6⟩
       case measure=>first | (simp [intOf];done) | (simp [intOf];omega)
    · have hiN:N=i:=by omega
      go_upto_region 19 with fail
      obtain ⟨w5,hw5⟩:∃ W:World,W=wr:=⟨_,rfl⟩;subst hw5;obtain ⟨B,hB⟩:∃ L,L=l:=⟨_,rfl⟩;subst hB;obtain ⟨p3,hp3⟩:∃ q,q=p2:=⟨_,rfl⟩;obtain ⟨aA,haA⟩:∃ x,x=some (⟨bA,0,none⟩:Addr):=⟨_,rfl⟩;obtain ⟨aB,haB⟩:∃ x:Option Addr,x=a2:=⟨_,rfl⟩;obtain ⟨cB,hcB⟩:∃ x:Nat,x=c2:=⟨_,rfl⟩;subst haB;subst hcB;have W5:=hW;have OA5:=hOA;have HB:Hid (B.length=N):=by rw [Hid,hL.out.1,hiN]
      have HB2:Hid (∀ x∈B,-6≤x∧x≤200):=hL.out.2;have OB5:Hid (OwnI 2 w5 w3.heap.size w5.heap.size aB cB B):=OwnI.of_own (by rw [hL.out.1];exact hO.out)
      rw [← haA,← hiN,← hp3] at W5;rw [← haA] at OA5;have lB:g≤w3.heap.size:=by omega
      have hp3':p3≤p+17:=by omega
      have s6:w3.heap.size≤w5.heap.size:=hs3;subst hiN;rw [← haA];clear hW hOA hO hL haA hp3 k2 W3 OA3;have k0:w5.cell? ⟨g,0,none⟩=some (.int .i64 R):=W5.out.V.cell 0;have k1:w5.cell? ⟨g,1,none⟩=some (.int .i64 C):=W5.out.V.cell 1;have k2:w5.cell? ⟨g,2,none⟩=some (.slice aA N cA):=W5.out.V.cell 2;have k3:w5.cell? ⟨g,3,none⟩=some (.slice aB N cB):=W5.out.V.cell 3;have y0:w5.cell? ⟨w.heap.size,0,none⟩=some (.int .i64 0):=W5.out.R.cell 0;have y1:w5.cell? ⟨w.heap.size,1,none⟩=some (.int .i64 0):=W5.out.R.cell 1;have y2:w5.cell? ⟨w.heap.size,2,none⟩=some (.slice none 0 0):=W5.out.R.cell 2;have y3:w5.cell? ⟨w.heap.size,3,none⟩=some (.slice none 0 0):=W5.out.R.cell 3;have f0:=W5.out.R.free 0;have f1:=W5.out.R.free 1;have f2:=W5.out.R.free 2;have f3:=W5.out.R.free 3;go_wp2_with fail;obtain ⟨wz,hwz⟩:∃ Y,Y=(((w5.setCell ⟨w.heap.size,0,none⟩ (.int .i64 R)).setCell ⟨w.heap.size,1,none⟩ (.int .i64 C)).setCell ⟨w.heap.size,2,none⟩ (.slice aA N cA)).setCell ⟨w.heap.size,3,none⟩ (.slice aB N cB):=⟨_,rfl⟩;have KZ:Blk wz w.heap.size [.int .i64 R,.int .i64 C,.slice aA N cA,.slice aB N cB] 26:=by rw [hwz];exact (((W5.out.R.set 0 (.int .i64 R)).set 1 (.int .i64 C)).set 2 (.slice aA N cA)).set 3 (.slice aB N cB)
      have TZ:Touch w5 wz w.heap.size (w.heap.size+1):=by rw [hwz];exact (((cg w5 w.heap.size 0 (.int .i64 R)).trans (cg _ w.heap.size 1 (.int .i64 C))).trans (cg _ w.heap.size 2 (.slice aA N cA))).trans (cg _ w.heap.size 3 (.slice aB N cB))
      have OAZ:=Oi (OA5.out.touch TZ (.inr (Nat.le_refl _)));have OBZ:=Oi (OB5.out.touch TZ (.inr (by omega)))
      have DZ:=Oi (W5.out.D.touch TZ hbw);have TT:Touch w wz b (b+1):=⟨TZ.os.trans W5.out.T.os,TZ.tape.trans W5.out.T.tape,TZ.output.trans W5.out.T.output,Nat.le_trans W5.out.T.size TZ.size,fun k hk hd=>(TZ.block k (by have:=W5.out.T.size;omega) (by omega)).trans (W5.out.T.block k hk hd)⟩
      have sZ:=TZ.size;rw [← hwz];clear hwz y0 y1 y2 y3;have y0:wz.cell? ⟨w.heap.size,0,none⟩=some (.int .i64 R):=KZ.cell 0;have y1:wz.cell? ⟨w.heap.size,1,none⟩=some (.int .i64 C):=KZ.cell 1;have y2:wz.cell? ⟨w.heap.size,2,none⟩=some (.slice aA N cA):=KZ.cell 2;have y3:wz.cell? ⟨w.heap.size,3,none⟩=some (.slice aB N cB):=KZ.cell 3;refine bodyPost_ret (v:=.agg #[.int .i64 R,.int .i64 C,.slice aA N cA,.slice aB N cB]) (by simp [results,Tryz.results93,go_sem,y0,y1,y2,y3]) rfl ?_
      refine ⟨aA,cA,A,aB,cB,B,p3,by rw [HN.out],⟨by rw [← HN.out];exact HA.out,by rw [← HN.out];exact HB.out⟩,⟨HA2.out,HB2.out⟩,⟨g,⟨by omega,by omega⟩,OAZ.out.mono (by omega) (Nat.le_refl _),OBZ.out.mono (by omega) (by omega)⟩,by omega,DZ.out,TT⟩
 · by_cases hx1:x=1
   · subst hx1
     clear hx0;have hAl:=HA.out;obtain ⟨bA,rfl,hbA,hbA2⟩:=rY (by have:=OA3.out.1;rw [hAl] at this;exact this) N1
     have hcA:∀ j,j<N→w3.cell? ⟨bA,0+j,none⟩=some (.int .i64 (A.getD j 0)):=fun j hj=>by
      rcases OA3.out.rd with h | ⟨b',o',h1,h2,h3⟩
      · exfalso;have:=congrArg List.length h;rw [ints_length,hAl] at this;simp at this;omega
      · obtain ⟨rfl,rfl⟩:bA=b'∧0=o':=by simpa using h1
        rw [h3 j (by rw [ints_length];omega),eJ _ _ (by omega)]
     have k2:(w3.alloc (.cells #[] 2)).cell? ⟨g,2,none⟩=some (.slice (some ⟨bA,0,none⟩) N cA):=(W3.out.V.alloc _).cell 2;have k3:(w3.alloc (.cells #[] 2)).cell? ⟨g,3,none⟩=some (.slice none 0 0):=(W3.out.V.alloc _).cell 3
     go_wp2_with (at_builtin;refine rj _ rfl _ _ 24 rfl w3.heap.size 2 (.int .i64 0) 8 Tryz.underlying24 aZ rfl _ 0 [] rfl (lf w3 2) bA 0 N cA A rfl hAl ?_ (by omega) (by omega) (by simp) ?_)
     · intro j hj
       rw [(ai w3 _).cell (p:=⟨bA,0+j,none⟩) hbA2,hcA j hj]
     intro v1 w4 o1 g1;have B4:=ah (ai w3 (.cells #[] 2)) (lf w3 2) g1 (Nat.le_refl _) (by simp)
     obtain ⟨aB,cB,rfl,_,_⟩:=ba o1;obtain ⟨gB,rfl,hgB,hgB2⟩:=rY o1 N1;have W4:=Oi (W3.out.below B4);have OA4:=Oi (OA3.out.keep B4);have O4:=Oi o1;have s4:=B4.size;clear o1 g1 B4 hcA k2 k3 W3 OA3;have k3:w4.cell? ⟨g,3,none⟩=some (.slice none 0 0):=W4.out.V.cell 3;have z3:=W4.out.V.free 3
     go_upto_region 11 with fail
     obtain ⟨wq,hwq⟩:∃ Y,Y=w4.setCell ⟨g,3,none⟩ (.slice (some ⟨gB,0,none⟩) N cB):=⟨_,rfl⟩;have WX:=W4.out.set hbw hgw 3 (.slice (some ⟨gB,0,none⟩) N cB);have TX:=cg w4 g 3 (.slice (some ⟨gB,0,none⟩) N cB);rw [← hwq] at WX TX ⊢;clear hwq k3 z3;have WQ:Hid (DW w wq B0 b a xs c p2 g [.int .i64 R,.int .i64 C,.slice (some ⟨bA,0,none⟩) N cA,.slice (some ⟨gB,0,none⟩) N cB]):=WX;have OAQ:=Oi (OA4.out.touch TX (.inl (Nat.le_refl _)));have OQ:=Oi (aP O4.out (cI TX) (by omega))
     have sQ:=TX.size;clear WX TX W4 OA4 O4;go_wp2_with fail
     go_loopw [9] (fun iv wr=>∃ (i p':Nat) (l:List Int),i≤R∧iv=.int .i64 i∧Hid (p'≤p+17+i)∧Hid (l.length=N∧∀ x∈l,-6≤x∧x≤6+40 * (i:Int))∧Hid (DW w wr B0 b a xs c p' g [.int .i64 R,.int .i64 C,.slice (some ⟨bA,0,none⟩) N cA,.slice (some ⟨gB,0,none⟩) N cB])∧Hid (OwnI 2 wr (w.heap.size+1) g (some ⟨bA,0,none⟩) cA A)∧Hid (wr.ownsRow w3.heap.size 2 1 (.slice (some ⟨gB,0,none⟩) N cB) N (ae l))∧gB<wr.heap.size) (fun iv _=>R - (intOf iv).toNat)
     case atStart=>exact ⟨0,p2,A,Nat.zero_le _,rfl,hp2',⟨hAl,fun x hx=>by have:=HA2.out x hx;omega⟩,WQ.out,OAQ.out,OQ.out,by omega⟩
     case round =>
      obtain ⟨i,p',l,hi,rfl,hp',hL,hW,hOA,hO,hgw2⟩:=hrel
      by_cases hlt:i<R
      · have hlti:(i:Int)<(R:Int):=by omega
        have i0:(0:Int)≤(i:Int):=Int.natCast_nonneg _;have i4:(i:Int)≤3:=by omega
        have hp9:p'≤800000:=by have:=hp'.out;omega
        have L6:=Oi (dI wr B0 b a xs c p' 9 hW.out.D (by omega) (by omega))
        go_wp2_with fail;refine L6.out.mono ?_;rintro e w6 ⟨y,p6,rfl,⟨y0,y1⟩,hp6,D6,T6⟩;have y8:y≤8:=by omega
        have W6:=Oi (hW.out.draw hbw hgw T6 D6);have OA6:=Oi (hOA.out.touch T6 (.inr (by omega)))
        have O6:=Oi (aP hO.out (cI T6) (by omega))
        have s6:=T6.size;have HP6:Hid (p6≤p+17+(i+1)):=by rw [Hid];have:=hp'.out;omega
        have HL6:Hid (l.length=N∧∀ x∈l,-6≤x∧x≤6+40 * (i:Int)+8 * ((0:Nat):Int)):=⟨hL.out.1,fun x hx=>by have:=hL.out.2 x hx;omega⟩
        have hgw6:gB<w6.heap.size:=by omega
        clear hW hOA hO D6 T6 L6 y1 hL hp' hp6 hp9 s6 hgw2;go_wp2_with fail
        go_loopw [11] (fun kv wr=>∃ (k:Nat) (l:List Int),k≤C∧kv=.int .i64 k∧Hid (l.length=N∧∀ x∈l,-6≤x∧x≤6+40 * (i:Int)+8 * (k:Int))∧Hid (DW w wr B0 b a xs c p6 g [.int .i64 R,.int .i64 C,.slice (some ⟨bA,0,none⟩) N cA,.slice (some ⟨gB,0,none⟩) N cB])∧Hid (OwnI 2 wr (w.heap.size+1) g (some ⟨bA,0,none⟩) cA A)∧Hid (wr.ownsRow w3.heap.size 2 1 (.slice (some ⟨gB,0,none⟩) N cB) N (ae l))∧gB<wr.heap.size) (fun kv _=>C - (intOf kv).toNat)
        case atStart=>exact ⟨0,l,Nat.zero_le _,rfl,HL6.out,W6.out,OA6.out,O6.out,hgw6⟩
        case round =>
         obtain ⟨k,l2,hk,rfl,hL2,hW,hOA,hO,hgw2⟩:=hrel
         by_cases hkC:k<C
         · have hkCi:(k:Int)<(C:Int):=by omega
           have k0:(0:Int)≤(k:Int):=Int.natCast_nonneg _;have hmul:(i+1) * C≤R * C:=Nat.mul_le_mul_right C hlt;obtain ⟨u,hu⟩:∃ u,u=i * C:=⟨_,rfl⟩;have huv:u+k<N:=by rw [HN.out];rw [Nat.add_mul,← hu] at hmul;omega
           have eI:(i:Int) * (C:Int)=(u:Int):=by rw [hu];exact (Int.natCast_mul i C).symm
           have u0:(0:Int)≤(u:Int):=Int.natCast_nonneg _;have u16:(u:Int)≤16:=by omega
           have huvi:(u:Int)+(k:Int)<(N:Int):=by omega
           have hN16:(N:Int)≤16:=by omega
           obtain ⟨z,hz⟩:∃ z,z=l2.getD (u+k) 0:=⟨_,rfl⟩;obtain ⟨hc1,hc2⟩:=ya hO.out huv;rw [← hz] at hc1;have hzb:=hL2.out.2 z (by rw [hz,List.getD_eq_getElem?_getD,List.getElem?_eq_getElem (by rw [hL2.out.1];exact huv)];exact List.getElem_mem _)
           have hz0:=hzb.1;have hz1:z≤1000:=by omega
           have k3:wr.cell? ⟨g,3,none⟩=some (.slice (some ⟨gB,0,none⟩) N cB):=hW.out.V.cell 3;obtain ⟨oS,gS⟩:=Kn hO.out huv (z+y);have tS:=pC gS;have WS:=Oi (hW.out.fresh hbw tS (by omega) (.inl (by omega)))
           have OAS:=Oi (hOA.out.touch tS (.inl (by omega)))
           have OS:=Oi oS;have HLS:Hid ((l2.set (u+k) (z+y)).length=N∧∀ x∈l2.set (u+k) (z+y),-6≤x∧x≤6+40 * (i:Int)+8 * ((k+1:Nat):Int)):=by
            refine ⟨by rw [List.length_set];exact hL2.out.1,fun x hx=>?_⟩
            rcases List.mem_or_eq_of_mem_set hx with h | h
            · have:=hL2.out.2 x h;omega
            · subst h;omega
           have hgS:gB<(wr.setCell ⟨gB,u+k,none⟩ (.int .i64 (z+y))).heap.size:=by simpa using hgw2
           clear hmul hu hzb hz oS gS tS hL2 hW hOA hO;go_wp2_with fail;go_roundw
           case rel=>exact ⟨k+1,l2.set (u+k) (z+y),by omega,by go_num,HLS.out,WS.out,OAS.out,OS.out,hgS⟩
           case measure=>first | (simp [intOf];done) | (simp [intOf];omega)
         · have hkk:k=C:=by omega
           subst hkk;have HL7:Hid (l2.length=N∧∀ x∈l2,-6≤x∧x≤6+40 * ((i+1:Nat):Int)):=⟨hL2.out.1,fun x hx=>by have:=hL2.out.2 x hx;omega⟩
           clear hL2;go_wp2_with fail;go_roundw
           case rel=>exact ⟨i+1,p6,l2,by omega,by go_num,HP6.out,HL7.out,hW.out,hOA.out,hO.out,hgw2⟩
           case measure=>first | (simp [intOf];done) | (simp [intOf];omega)
      · have hiR:R=i:=by omega
        subst hiR
        go_upto_region 19 with fail
        obtain ⟨w5,hw5⟩:∃ W:World,W=wr:=⟨_,rfl⟩;subst hw5;obtain ⟨B,hB⟩:∃ L,L=l:=⟨_,rfl⟩;subst hB;obtain ⟨p3,hp3⟩:∃ q,q=p':=⟨_,rfl⟩;subst hp3;obtain ⟨aB,haB⟩:∃ x,x=some (⟨gB,0,none⟩:Addr):=⟨_,rfl⟩;obtain ⟨aA,haA⟩:∃ x,x=some (⟨bA,0,none⟩:Addr):=⟨_,rfl⟩;have W5:=hW;have OA5:=hOA;have HB:Hid (B.length=N):=hL.out.1;have HB2:Hid (∀ x∈B,-6≤x∧x≤200):=fun x hx=>by have:=hL.out.2 x hx;omega
        have OB5:Hid (OwnI 2 w5 w3.heap.size w5.heap.size (some ⟨gB,0,none⟩) cB B):=OwnI.of_own (by rw [HB.out];exact hO.out)
        rw [← haA,← haB] at W5;rw [← haB] at OB5;rw [← haA] at OA5;rw [← haA,← haB];have lB:g≤w3.heap.size:=by omega
        have hp3:p3≤p+21:=by have:=hp'.out;omega
        have s6:w3.heap.size≤w5.heap.size:=by omega
        clear hW hOA hO WQ OAQ OQ hL haA haB;have k0:w5.cell? ⟨g,0,none⟩=some (.int .i64 R):=W5.out.V.cell 0;have k1:w5.cell? ⟨g,1,none⟩=some (.int .i64 C):=W5.out.V.cell 1;have k2:w5.cell? ⟨g,2,none⟩=some (.slice aA N cA):=W5.out.V.cell 2;have k3:w5.cell? ⟨g,3,none⟩=some (.slice aB N cB):=W5.out.V.cell 3;have y0:w5.cell? ⟨w.heap.size,0,none⟩=some (.int .i64 0):=W5.out.R.cell 0;have y1:w5.cell? ⟨w.heap.size,1,none⟩=some (.int .i64 0):=W5.out.R.cell 1;have y2:w5.cell? ⟨w.heap.size,2,none⟩=some (.slice none 0 0):=W5.out.R.cell 2;have y3:w5.cell? ⟨w.heap.size,3,none⟩=some (.slice none 0 0):=W5.out.R.cell 3;have f0:=W5.out.R.free 0;have f1:=W5.out.R.free 1;have f2:=W5.out.R.free 2;have f3:=W5.out.R.free 3;go_wp2_with fail;obtain ⟨wz,hwz⟩:∃ Y,Y=(((w5.setCell ⟨w.heap.size,0,none⟩ (.int .i64 R)).setCell ⟨w.heap.size,1,none⟩ (.int .i64 C)).setCell ⟨w.heap.size,2,none⟩ (.slice aA N cA)).setCell ⟨w.heap.size,3,none⟩ (.slice aB N cB):=⟨_,rfl⟩;have KZ:Blk wz w.heap.size [.int .i64 R,.int .i64 C,.slice aA N cA,.slice aB N cB] 26:=by rw [hwz];exact (((W5.out.R.set 0 (.int .i64 R)).set 1 (.int .i64 C)).set 2 (.slice aA N cA)).set 3 (.slice aB N cB)
        have TZ:Touch w5 wz w.heap.size (w.heap.size+1):=by rw [hwz];exact (((cg w5 w.heap.size 0 (.int .i64 R)).trans (cg _ w.heap.size 1 (.int .i64 C))).trans (cg _ w.heap.size 2 (.slice aA N cA))).trans (cg _ w.heap.size 3 (.slice aB N cB))
        have OAZ:=Oi (OA5.out.touch TZ (.inr (Nat.le_refl _)));have OBZ:=Oi (OB5.out.touch TZ (.inr (by omega)))
        have DZ:=Oi (W5.out.D.touch TZ hbw);have TT:Touch w wz b (b+1):=⟨TZ.os.trans W5.out.T.os,TZ.tape.trans W5.out.T.tape,TZ.output.trans W5.out.T.output,Nat.le_trans W5.out.T.size TZ.size,fun k hk hd=>(TZ.block k (by have:=W5.out.T.size;omega) (by omega)).trans (W5.out.T.block k hk hd)⟩
        have sZ:=TZ.size;rw [← hwz];clear hwz y0 y1 y2 y3;have y0:wz.cell? ⟨w.heap.size,0,none⟩=some (.int .i64 R):=KZ.cell 0;have y1:wz.cell? ⟨w.heap.size,1,none⟩=some (.int .i64 C):=KZ.cell 1;have y2:wz.cell? ⟨w.heap.size,2,none⟩=some (.slice aA N cA):=KZ.cell 2;have y3:wz.cell? ⟨w.heap.size,3,none⟩=some (.slice aB N cB):=KZ.cell 3;refine bodyPost_ret (v:=.agg #[.int .i64 R,.int .i64 C,.slice aA N cA,.slice aB N cB]) (by simp [results,Tryz.results93,go_sem,y0,y1,y2,y3]) rfl ?_
        refine ⟨aA,cA,A,aB,cB,B,p3,by rw [HN.out],⟨by rw [← HN.out];exact HA.out,by rw [← HN.out];exact HB.out⟩,⟨HA2.out,HB2.out⟩,⟨g,⟨by omega,by omega⟩,OAZ.out.mono (by omega) (Nat.le_refl _),OBZ.out.mono (by omega) (by omega)⟩,by omega,DZ.out,TT⟩
   · have e0:(x == 0)=false:=by rw [beq_eq_false_iff_ne];exact hx0
     have e1:(x == 1)=false:=by rw [beq_eq_false_iff_ne];exact hx1
     have L4:=Oi (Ar w3 B0 b a xs c p2 N W3.out.D (by omega) (by omega))
     go_wp2_with fail;refine L4.out.mono ?_;rintro e w4 ⟨aB,cB,B,p3,rfl,hB1,hB2,OB,hp3,D4,T4⟩;have W4:=Oi (W3.out.draw hbw hgw T4 D4);have OA4:=Oi (OA3.out.touch T4 (.inr (by omega)))
     have s4:=T4.size;have OB4:=Oi OB;have HB:=Oi hB1;have HB2:Hid (∀ x∈B,-6≤x∧x≤200):=fun x hx=>by have:=hB2 x hx;omega
     clear OB D4 T4 L4 W3 OA3 hB1 hB2;have k3:w4.cell? ⟨g,3,none⟩=some (.slice none 0 0):=W4.out.V.cell 3;have z3:=W4.out.V.free 3
     go_upto_region 19 with fail
     obtain ⟨w5,hw5⟩:∃ Y,Y=w4.setCell ⟨g,3,none⟩ (.slice aB N cB):=⟨_,rfl⟩;have WX:=W4.out.set hbw hgw 3 (.slice aB N cB);have TX:=cg w4 g 3 (.slice aB N cB);rw [← hw5] at WX TX ⊢;clear hw5 k3 z3;have W5:Hid (DW w w5 B0 b a xs c p3 g [.int .i64 R,.int .i64 C,.slice aA N cA,.slice aB N cB]):=WX;have OA5:=Oi (OA4.out.touch TX (.inl (Nat.le_refl _)));have OB5:=Oi (OB4.out.touch TX (.inr (by omega)))
     have lB:g≤w3.heap.size:=by omega
     have s6:=TX.size;clear WX TX W4 OA4 OB4;have k0:w5.cell? ⟨g,0,none⟩=some (.int .i64 R):=W5.out.V.cell 0;have k1:w5.cell? ⟨g,1,none⟩=some (.int .i64 C):=W5.out.V.cell 1;have k2:w5.cell? ⟨g,2,none⟩=some (.slice aA N cA):=W5.out.V.cell 2;have k3:w5.cell? ⟨g,3,none⟩=some (.slice aB N cB):=W5.out.V.cell 3;have y0:w5.cell? ⟨w.heap.size,0,none⟩=some (.int .i64 0):=W5.out.R.cell 0;have y1:w5.cell? ⟨w.heap.size,1,none⟩=some (.int .i64 0):=W5.out.R.cell 1;have y2:w5.cell? ⟨w.heap.size,2,none⟩=some (.slice none 0 0):=W5.out.R.cell 2;have y3:w5.cell? ⟨w.heap.size,3,none⟩=some (.slice none 0 0):=W5.out.R.cell 3;have f0:=W5.out.R.free 0;have f1:=W5.out.R.free 1;have f2:=W5.out.R.free 2;have f3:=W5.out.R.free 3;go_wp2_with fail;obtain ⟨wz,hwz⟩:∃ Y,Y=(((w5.setCell ⟨w.heap.size,0,none⟩ (.int .i64 R)).setCell ⟨w.heap.size,1,none⟩ (.int .i64 C)).setCell ⟨w.heap.size,2,none⟩ (.slice aA N cA)).setCell ⟨w.heap.size,3,none⟩ (.slice aB N cB):=⟨_,rfl⟩;have KZ:Blk wz w.heap.size [.int .i64 R,.int .i64 C,.slice aA N cA,.slice aB N cB] 26:=by rw [hwz];exact (((W5.out.R.set 0 (.int .i64 R)).set 1 (.int .i64 C)).set 2 (.slice aA N cA)).set 3 (.slice aB N cB)
     have TZ:Touch w5 wz w.heap.size (w.heap.size+1):=by rw [hwz];exact (((cg w5 w.heap.size 0 (.int .i64 R)).trans (cg _ w.heap.size 1 (.int .i64 C))).trans (cg _ w.heap.size 2 (.slice aA N cA))).trans (cg _ w.heap.size 3 (.slice aB N cB))
     have OAZ:=Oi (OA5.out.touch TZ (.inr (Nat.le_refl _)));have OBZ:=Oi (OB5.out.touch TZ (.inr (by omega)))
     have DZ:=Oi (W5.out.D.touch TZ hbw);have TT:Touch w wz b (b+1):=⟨TZ.os.trans W5.out.T.os,TZ.tape.trans W5.out.T.tape,TZ.output.trans W5.out.T.output,Nat.le_trans W5.out.T.size TZ.size,fun k hk hd=>(TZ.block k (by have:=W5.out.T.size;omega) (by omega)).trans (W5.out.T.block k hk hd)⟩
     have sZ:=TZ.size;rw [← hwz];clear hwz y0 y1 y2 y3;have y0:wz.cell? ⟨w.heap.size,0,none⟩=some (.int .i64 R):=KZ.cell 0;have y1:wz.cell? ⟨w.heap.size,1,none⟩=some (.int .i64 C):=KZ.cell 1;have y2:wz.cell? ⟨w.heap.size,2,none⟩=some (.slice aA N cA):=KZ.cell 2;have y3:wz.cell? ⟨w.heap.size,3,none⟩=some (.slice aB N cB):=KZ.cell 3;refine bodyPost_ret (v:=.agg #[.int .i64 R,.int .i64 C,.slice aA N cA,.slice aB N cB]) (by simp [results,Tryz.results93,go_sem,y0,y1,y2,y3]) rfl ?_
     refine ⟨aA,cA,A,aB,cB,B,p3,by rw [HN.out],⟨by rw [← HN.out];exact HA.out,by rw [← HN.out];exact HB.out⟩,⟨HA2.out,HB2.out⟩,⟨g,⟨by omega,by omega⟩,OAZ.out.mono (by omega) (Nat.le_refl _),OBZ.out.mono (by omega) (by omega)⟩,by omega,DZ.out,TT⟩
section
variable {w w':World} {B C lo hi:Nat} {a1:Option Addr} {x1:List Int} {c1:Nat}
end
def Oe (w:World) (B0 b:Nat) (a:Option Addr) (xs:List Int) (c p:Nat) (e:Ending) (w':World):Prop :=
 ∃ (R C:Nat) (aA:Option Addr) (cA:Nat) (A:List Int) (aB:Option Addr) (cB:Nat) (B:List Int) (p':Nat),e=.returned (.agg #[.int .i64 R,.int .i64 C,.slice aA A.length cA,.slice aB B.length cB])∧((1≤R∧R≤4)∧(1≤C∧C≤4))∧(A.length=R * C∧B.length=R * C)∧((∀ x∈A,-6≤x∧x≤6)∧∀ x∈B,-6≤x∧x≤200)∧OwnGame w' w.heap.size w'.heap.size aA cA A aB cB B∧p'≤p+42∧DS w' B0 b a xs c p'∧Touch w w' b (b+1)
theorem MP {w:World} {lo hi lo' hi':Nat} {a b:Option Addr} {c d:Nat} {x y:List Int} (h:OwnGame w lo hi a c x b d y) (h1:lo'≤lo) (h2:hi≤hi'):OwnGame w lo' hi' a c x b d y:=by
 obtain ⟨m,hm,o1,o2⟩:=h;exact ⟨m,by omega,o1.mono h1 (Nat.le_refl _),o2.mono (Nat.le_refl _) h2⟩
theorem NV (w:World) (B0 b:Nat) (a:Option Addr) (xs:List Int) (c p:Nat) (h:DS w B0 b a xs c p) (hp:p≤600000) :
 Calls Tryz.prog 55 #[.pointer (some ⟨b,0,none⟩)] w (Oe w B0 b a xs c p):=by
 have hbw:=h.lt;have D0:=h.same (ai w (.cells #[.int .i64 0,.int .i64 0,.slice none 0 0,.slice none 0 0] 26));have KR0:=Oi (Blk.new w [.int .i64 0,.int .i64 0,.slice none 0 0,.slice none 0 0] 26);have T0:=Oi (Below.touch (ai w (.cells #[.int .i64 0,.int .i64 0,.slice none 0 0,.slice none 0 0] 26)) b (b+1));have L1:=Oi (dI _ B0 b a xs c p 4 D0 (by omega) (by omega))
 clear h D0
 go_enter Tryz.func55,Tryz.ntmps55;go_wp2_with fail;refine L1.out.mono ?_;rintro e w1 ⟨x,p1,rfl,⟨x0,x1⟩,hp1,D1,T1⟩;obtain ⟨R,hR⟩:∃ R:Nat,1+x=(R:Int):=⟨(1+x).toNat,by omega⟩;have KR1:=Oi (KR0.out.touch T1 (.inr (by omega)))
 have s1:=T1.size;rw [World.size_alloc] at s1;have T1':=Oi (T0.out.trans T1);have L2:=Oi (dI w1 B0 b a xs c p1 4 D1 (by omega) (by omega))
 have x3:x≤3:=by omega
 clear L1 KR0 T0 D1 T1 x1;go_wp2_with fail;refine L2.out.mono ?_;rintro e w2 ⟨y,p2,rfl,⟨y0,y1⟩,hp2,D2,T2⟩;obtain ⟨C,hC⟩:∃ C:Nat,1+y=(C:Int):=⟨(1+y).toNat,by omega⟩;have KR2:=Oi (KR1.out.touch T2 (.inr (by omega)))
 have s2:=T2.size;have T2':=Oi (T1'.out.trans T2);have L3:=Oi (Lb w2 B0 b a xs c p2 R C D2 (by omega) (by omega) (by omega) (by omega) (by omega))
 have hR1:1≤R∧R≤4:=by omega
 have hC1:1≤C∧C≤4:=by omega
 have y3:y≤3:=by omega
 have hp2':p2≤p+2:=by omega
 clear L2 KR1 D2 T2 T1' y1 hp1 hp2;go_wp2_with fail;refine L3.out.mono ?_;rintro e w3 ⟨aA,cA,A,aB,cB,B,p3,rfl,hl,hb,hO,hp3,D3,T3⟩;have KR3:=Oi (KR2.out.touch T3 (.inr (by omega)))
 have s3:=T3.size;have T3':=Oi (T2'.out.trans T3);have HO:=Oi hO;have HL:=Oi hl;have HB:=Oi hb;have HD:=Oi D3;clear L3 KR2 D3 T3 T2' hO hl hb hR hC;have y0':w3.cell? ⟨w.heap.size,0,none⟩=some (.int .i64 0):=KR3.out.cell 0;have y1':w3.cell? ⟨w.heap.size,1,none⟩=some (.int .i64 0):=KR3.out.cell 1;have y2':w3.cell? ⟨w.heap.size,2,none⟩=some (.slice none 0 0):=KR3.out.cell 2;have y3':w3.cell? ⟨w.heap.size,3,none⟩=some (.slice none 0 0):=KR3.out.cell 3;have f0:=KR3.out.free 0;have f1:=KR3.out.free 1;have f2:=KR3.out.free 2;have f3:=KR3.out.free 3;go_wp2_with fail;obtain ⟨wz,hwz⟩:∃ Y,Y=(((w3.setCell ⟨w.heap.size,0,none⟩ (.int .i64 R)).setCell ⟨w.heap.size,1,none⟩ (.int .i64 C)).setCell ⟨w.heap.size,2,none⟩ (.slice aA (R * C) cA)).setCell ⟨w.heap.size,3,none⟩ (.slice aB (R * C) cB):=⟨_,rfl⟩;have KZ:Blk wz w.heap.size [.int .i64 R,.int .i64 C,.slice aA (R * C) cA,.slice aB (R * C) cB] 26:=by rw [hwz];exact (((KR3.out.set 0 (.int .i64 R)).set 1 (.int .i64 C)).set 2 (.slice aA (R * C) cA)).set 3 (.slice aB (R * C) cB)
 have TZ:Touch w3 wz w.heap.size (w.heap.size+1):=by rw [hwz];exact (((cg w3 w.heap.size 0 (.int .i64 R)).trans (cg _ w.heap.size 1 (.int .i64 C))).trans (cg _ w.heap.size 2 (.slice aA (R * C) cA))).trans (cg _ w.heap.size 3 (.slice aB (R * C) cB))
 have OZ:=Oi (HO.out.touch TZ (.inr (by omega)))
 have DZ:=Oi (HD.out.touch TZ hbw);have TT:Touch w wz b (b+1):=⟨TZ.os.trans T3'.out.os,TZ.tape.trans T3'.out.tape,TZ.output.trans T3'.out.output,Nat.le_trans T3'.out.size TZ.size,fun k hk hd=>(TZ.block k (by have:=T3'.out.size;omega) (by omega)).trans (T3'.out.block k hk hd)⟩
 have sZ:=TZ.size;rw [← hwz];clear hwz y0' y1' y2' y3';have y0':wz.cell? ⟨w.heap.size,0,none⟩=some (.int .i64 R):=KZ.cell 0;have y1':wz.cell? ⟨w.heap.size,1,none⟩=some (.int .i64 C):=KZ.cell 1;have y2':wz.cell? ⟨w.heap.size,2,none⟩=some (.slice aA (R * C) cA):=KZ.cell 2;have y3':wz.cell? ⟨w.heap.size,3,none⟩=some (.slice aB (R * C) cB):=KZ.cell 3;refine bodyPost_ret (v:=.agg #[.int .i64 R,.int .i64 C,.slice aA (R * C) cA,.slice aB (R * C) cB]) (by simp [results,Tryz.results55,go_sem,y0',y1',y2',y3']) rfl ?_
 exact ⟨R,C,aA,cA,A,aB,cB,B,p3,by rw [HL.out.1,HL.out.2],⟨hR1,hC1⟩,HL.out,HB.out,MP OZ.out (by omega) sZ,by omega,DZ.out,TT⟩
end Go.Proofs.YtbknhgapjjaelaaGreatDoor
