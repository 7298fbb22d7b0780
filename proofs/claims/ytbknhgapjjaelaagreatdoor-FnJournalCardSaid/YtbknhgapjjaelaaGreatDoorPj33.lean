/-
  Part 33 of what the proof stands on: lemmas and contracts, each with its conditions ahead of the colon.
-/
import Derived.Laws.EntriesVeiled
import Derived.Deep.RegionHeld3
import Derived.Test.YtbknhgapjjaelaaGreatDoorPj01
import Derived.Test.YtbknhgapjjaelaaGreatDoorPj02
import Derived.Test.YtbknhgapjjaelaaGreatDoorPj03
import Derived.Test.YtbknhgapjjaelaaGreatDoorPj05
import Derived.Test.YtbknhgapjjaelaaGreatDoorPj08
import Derived.Test.YtbknhgapjjaelaaGreatDoorPj09
import Derived.Test.YtbknhgapjjaelaaGreatDoorPj10
import Derived.Test.YtbknhgapjjaelaaGreatDoorPj12
import Derived.Test.YtbknhgapjjaelaaGreatDoorPj27
import Derived.Test.YtbknhgapjjaelaaGreatDoorPj32
set_option maxRecDepth 10000
set_option maxHeartbeats 16000000
namespace Go.Proofs.YtbknhgapjjaelaaGreatDoor
set_option linter.unusedVariables false
set_option linter.unusedSimpArgs false
open Go.RowKit
theorem uK (w:World) (R C:Nat) (aA:Option Addr) (cA:Nat) (xA:List Int) (vB:Value) (aN:Option Addr) (cN:Nat) (cnt:List Int) (hA:Rd w w.heap.size aA (ae xA)) (hN:Rd w w.heap.size aN (ae cnt)) (lA:xA.length=R * C) (lN:cnt.length=C) (r1:1≤R) (r6:R≤6) (c6:C≤6) (bA:∀ x∈xA,-1000≤x∧x≤1000) (bN:∀ x∈cnt,0≤x∧x≤1001) :
 Calls Tryz.prog 192 #[.agg #[.int .i64 R,.int .i64 C,.slice aA xA.length cA,vB],.slice aN cnt.length cN] w fun e w'=>e=.returned (.int .i64 (dG R C xA cnt:Nat))∧Below w.heap.size w w':=by
 have hRC:R * C≤6 * 6:=Nat.mul_le_mul r6 c6;have HB1:=Oi (ai w (.cells #[.int .i64 R,.int .i64 C,.slice aA xA.length cA,vB] 26));have KG:=Oi (Blk.new w [.int .i64 R,.int .i64 C,.slice aA xA.length cA,vB] 26);have LA:=Oi (fun v (hb:Below w.heap.size w v) (i k:Nat) (hi:i<R) (hk:k<C)=>ou v R C i k aA cA xA vB (hA.to hb) (by rw [lA];exact dH hi hk) (by omega))
 have HRB:=Oi (fun i k=>yr (C:=C) bA bN i k)
 have HCB:Hid (∀ i k:Nat,-1000≤aU C xA i k∧aU C xA i k≤1000):=fun i k=>iE bA (by omega) (by omega) (i * C+k)
 have HNB:=Oi (fun k=>iE bN (by omega) (by omega) k)
 have HNN:=Oi hN;have HLN:=Oi lN;have HS:Hid (∀ i:Nat,fe C xA cnt (i+1)=if i=0∨(fe C xA cnt i).2<gY C xA cnt i C then ((i:Int),gY C xA cnt i C) else fe C xA cnt i):=fun i=>rfl
 have HSS:Hid (∀ i k:Nat,gY C xA cnt i (k+1)=gY C xA cnt i k+cnt.getD k 0 * aU C xA i k):=fun i k=>rfl
 have HE:Hid ((dG R C xA cnt:Int)=(fe C xA cnt R).1):=by
  obtain ⟨j,e,_⟩:=na C xA cnt R r1;rw [Hid];unfold dG;rw [e,Int.toNat_natCast]
 obtain ⟨n,hnn⟩:∃ n,n=cnt.length:=⟨_,rfl⟩;have HNL:=Oi hnn;have hnC:n=C:=by omega
 have r6i:(R:Int)≤6:=by omega
 have c6i:(C:Int)≤6:=by omega
 have q0:(w.alloc (.cells #[.int .i64 R,.int .i64 C,.slice aA xA.length cA,vB] 26)).cell? ⟨w.heap.size,0,none⟩=some (.int .i64 R):=by rw [KG.out.cell];rfl
 have hll:cnt.length=C:=lN;rw [hll];clear hA hN lA lN bA bN hnn hnC hRC hll
 go_enter Tryz.func192,Tryz.ntmps192;go_wp2_with fail;clear q0
 go_loopw [13,5,6] (fun iv bv mv wr=>∃ (i:Nat),i≤R∧iv=.int .i64 i∧bv=.int .i64 (fe C xA cnt i).1∧mv=.int .i64 (fe C xA cnt i).2∧Hid (Below w.heap.size w wr)∧Hid (Blk wr w.heap.size [.int .i64 R,.int .i64 C,.slice aA xA.length cA,vB] 26)) (fun iv _ _ _=>R - (intOf iv).toNat)
 case atStart=>exact ⟨0,Nat.zero_le _,rfl,rfl,rfl,HB1.out,KG.out⟩
 case round =>
  clear HB1 KG;obtain ⟨i,hi,rfl,rfl,rfl,hw,hK⟩:=hrel;have i0:(0:Int)≤(i:Int):=Int.natCast_nonneg _;obtain ⟨wo,hwo⟩:∃ W:World,W=wr:=⟨_,rfl⟩;subst hwo
  by_cases hlt:i<R
  · have hii:(i:Int)<(R:Int):=by omega
    go_wp2_with fail
    go_loopw [18,8] (fun kv sv wr=>∃ (k:Nat),k≤C∧kv=.int .i64 k∧sv=.int .i64 (gY C xA cnt i k)∧Hid (Below w.heap.size w wr)∧Hid (Blk wr w.heap.size [.int .i64 R,.int .i64 C,.slice aA xA.length cA,vB] 26)) (fun kv _ _=>C - (intOf kv).toNat)
    case atStart=>exact ⟨0,Nat.zero_le _,rfl,rfl,hw.out,hK.out⟩
    case round =>
     clear hw hK;obtain ⟨k,hk,rfl,rfl,hw,hK⟩:=hrel;have k0:(0:Int)≤(k:Int):=Int.natCast_nonneg _
     by_cases hlk:k<C
     · have hkk:(k:Int)<(C:Int):=by omega
       have L:=Oi (LA.out wr hw.out i k hlt hlk);obtain ⟨b,o,ea,hb1,hc⟩:=(HNN.out.to hw.out).at (k:=k) (by have:=HLN.out;omega)
       have hck:=hc k (by have:=HLN.out;omega)
       have ha0:=(HRB.out i k).1;have ha1:=(HRB.out i k).2;obtain ⟨n0,n1⟩:=HNB.out k;obtain ⟨z0,z1⟩:=HCB.out i k;have hm:=xP n0 n1 z0 z1;have hsc:=Oi (HSS.out i k);obtain ⟨q0,q1,q2,q3⟩:wr.cell? ⟨w.heap.size,0,none⟩=some (.int .i64 R)∧wr.cell? ⟨w.heap.size,1,none⟩=some (.int .i64 C)∧wr.cell? ⟨w.heap.size,2,none⟩=some (.slice aA xA.length cA)∧wr.cell? ⟨w.heap.size,3,none⟩=some vB:=⟨hK.out.cell 0,hK.out.cell 1,hK.out.cell 2,hK.out.cell 3⟩;subst ea;generalize cnt.getD k 0=nk at *
       generalize aU C xA i k=ak at *
       obtain ⟨S,hS⟩:∃ S,S=gY C xA cnt i k:=⟨_,rfl⟩;rw [← hS] at ha0 ha1 hsc ⊢;have w1:IntKind.i64.wrap (nk * ak)=nk * ak:=IntWalk.i64_in _ (by omega)
       have w2:IntKind.i64.wrap (S+nk * ak)=S+nk * ak:=IntWalk.i64_in _ (by omega)
       clear hS hc hb1;go_wp2_with fail;refine L.out.mono ?_;rintro e w5 ⟨rfl,hb5⟩;have W5:=Oi (aa hw.out hb5);have K5:=Oi (hK.out.same hb5);clear hb5 L q0 q1 q2 q3 hck;go_wp2_with fail;go_roundw
       case rel=>exact ⟨k+1,by omega,by go_num,by rw [hsc.out],W5,K5⟩
       case measure=>simp [intOf];omega
     · obtain rfl:k=C:=by omega
       have hsi:=Oi (HS.out i);have hSb:=HRB.out i k;generalize gY k xA cnt i k=S at *
       by_cases hz:i=0
       · have hsi2:Hid (fe k xA cnt (i+1)=((i:Int),S)):=by rw [Hid,hsi.out,if_pos (.inl hz)]
         have hzi:((i:Int) == 0)=true:=by subst hz;rfl
         clear hsi;go_wp2_with fail;go_roundw
         case rel=>exact ⟨i+1,by omega,by go_num,by rw [hsi2.out],by rw [hsi2.out],hw,hK⟩
         case measure=>simp [intOf];omega
       · have hzi:((i:Int) == 0)=false:=by simp;omega
         by_cases hm:(fe k xA cnt i).2<S
         · have hsi2:Hid (fe k xA cnt (i+1)=((i:Int),S)):=by rw [Hid,hsi.out,if_pos (.inr hm)]
           clear hsi;go_wp2_with fail;go_roundw
           case rel=>exact ⟨i+1,by omega,by go_num,by rw [hsi2.out],by rw [hsi2.out],hw,hK⟩
           case measure=>simp [intOf];omega
         · have hsi2:Hid (fe k xA cnt (i+1)=fe k xA cnt i):=by rw [Hid,hsi.out,if_neg (by omega)]
           clear hsi;go_wp2_with fail;go_roundw
           case rel=>exact ⟨i+1,by omega,by go_num,by rw [hsi2.out],by rw [hsi2.out],hw,hK⟩
           case measure=>simp [intOf];omega
  · obtain rfl:i=R:=by omega
    go_wp2_with fail;go_ret;exact ⟨by rw [HE.out];rfl,hw.out⟩
theorem tZ (w:World) (N:Nat) (hN:N≤1048576):(Instr.makeSlice 24 (.int .i64 N) (.int .i64 N)).run Tryz.prog w=.ok (.slice (some ⟨w.heap.size,0,none⟩) N N) (w.alloc (.cells (ae (List.replicate N 0)).toArray 2)):=by
 obtain ⟨i,h2,h3,h4,h5⟩:=info_parts aZ;have hr:=run_make (P:=Tryz.prog) w 24 2 i (.int .i64 0) Tryz.underlying24 h2 h3 .i64 .i64 N N (by omega) (Int.le_refl _) (by rw [h5];omega) (by omega)
 simp only [Int.toNat_natCast,h4,Nat.mul_one] at hr;have e1:madeCells #[Value.int .i64 0] N=(ae (List.replicate N 0)).toArray:=by rw [← gd,← toList_madeCells_one (.int .i64 0) N]
 rw [hr]
 show Result.ok _ (w.alloc (.cells (madeCells #[Value.int .i64 0] N) 2))=_
 rw [e1]
def zl (r:Option (List Int × List Int)) (w:World) (e:Ending) (w':World):Prop :=
 Below w.heap.size w w'∧match r with
 | none=>e=.returned (.tuple #[.slice none 0 0,.slice none 0 0,.bool false])
 | some (x,y)=>∃ a2 c2 a3 c3,e=.returned (.tuple #[.slice a2 x.length c2,.slice a3 y.length c3,.bool true])∧Rd w' w'.heap.size a2 (ae x)∧Rd w' w'.heap.size a3 (ae y)
def ip (R C:Nat) (xA xB:List Int) (n:Int):Option (List Int × List Int):=if eG n 1 1000=true then some (bZ R C xA (aG R C xB (C * R)) (n - 1).toNat) else none
structure LnS (w wr:World) (gR gC gO:Nat) (R C:Nat) (cells:List Value) (aT:Option Addr) (cT:Nat) (yB:List Int) (vS:Value) (rows cols:List Int):Prop where
 G:Blk wr w.heap.size cells 26
 O:Blk wr gO [.int .i64 C,.int .i64 R,.slice aT yB.length cT,vS] 26
 X:Blk wr gR (ae rows) 2
 Y:Blk wr gC (ae cols) 2
 T:Rd wr wr.heap.size aT (ae yB)
 nT:∀ b,aT=some b→gR<b.block∧gC<b.block
 B:Below w.heap.size w wr
section
variable {w wr wx:World} {gR gC gO R C cT:Nat} {cells:List Value} {aT:Option Addr} {yB rows cols:List Int} {vS:Value}
theorem LnS.same (h:LnS w wr gR gC gO R C cells aT cT yB vS rows cols) (hb:Below wr.heap.size wr wx):LnS w wx gR gC gO R C cells aT cT yB vS rows cols :=
 ⟨h.G.same hb,h.O.same hb,h.X.same hb,h.Y.same hb,h.T.to hb,h.nT,aa h.B hb⟩
theorem zo {a b:Nat} (h:a≠b):a<b∨b+1≤a:=by omega
theorem LnS.setR (h:LnS w wr gR gC gO R C cells aT cT yB vS rows cols) (h1:w.heap.size<gR) (h2:gC≠gR) (h3:gR<gO) (i:Nat) (x:Int):LnS w (wr.setCell ⟨gR,i,none⟩ (.int .i64 x)) gR gC gO R C cells aT cT yB vS (rows.set i x) cols:=by
 have ht:=au wr gR i (.int .i64 x);exact ⟨h.G.touch ht (.inl h1),h.O.touch ht (.inr (by omega)),h.X.setI i x,h.Y.touch ht (zo h2),gL h.T ht (fun b e=>by have:=h.nT b e;omega),h.nT,aI h.B ht (by omega) h.B.size⟩
theorem LnS.setC (h:LnS w wr gR gC gO R C cells aT cT yB vS rows cols) (h1:w.heap.size<gC) (h2:gR≠gC) (h3:gC<gO) (i:Nat) (x:Int):LnS w (wr.setCell ⟨gC,i,none⟩ (.int .i64 x)) gR gC gO R C cells aT cT yB vS rows (cols.set i x):=by
 have ht:=au wr gC i (.int .i64 x);exact ⟨h.G.touch ht (.inl h1),h.O.touch ht (.inr (by omega)),h.X.touch ht (zo h2),h.Y.setI i x,gL h.T ht (fun b e=>by have:=h.nT b e;omega),h.nT,aI h.B ht (by omega) h.B.size⟩
structure TwoM (w1 w3:World) (gR gC R C:Nat):Prop where
 X:Blk w3 gR (ae (List.replicate R 0)) 2
 Y:Blk w3 gC (ae (List.replicate C 0)) 2
 n:gC≠gR
 r:w1.heap.size≤gR
 c:w1.heap.size≤gC
 B:Below w1.heap.size w1 w3
theorem En (w1:World) (R C:Nat):TwoM w1 ((w1.alloc (.cells (ae (List.replicate R 0)).toArray 2)).alloc (.cells (ae (List.replicate C 0)).toArray 2)).drew w1.heap.size (w1.heap.size+1) R C:=by
 refine ⟨(Blk.new w1 _ _).alloc _,?_,by omega,Nat.le_refl _,by omega,aq (cd w1 _ _)⟩
 have:=Blk.new (w1.alloc (.cells (ae (List.replicate R 0)).toArray 2)) (ae (List.replicate C 0)) 2;rw [World.size_alloc] at this;exact this
theorem Na (w1:World) (R C:Nat):TwoM w1 ((w1.alloc (.cells (ae (List.replicate C 0)).toArray 2)).alloc (.cells (ae (List.replicate R 0)).toArray 2)).drew (w1.heap.size+1) w1.heap.size R C:=by
 obtain ⟨a,b,c,d,e,f⟩:=En w1 C R;exact ⟨b,a,fun h=>c h.symm,e,d,f⟩
end
theorem Mq {R C m:Nat} {xs:List Int} (h:∀ x∈xs,-1000≤x∧x≤1000):∀ x∈aG R C xs m,-1000≤x∧x≤1000:=fun x hx=>by
 unfold aG at hx;obtain ⟨j,_,rfl⟩:=List.mem_map.1 hx;exact iE h (by omega) (by omega) _
theorem Hr (w:World) (R C:Nat) (aA:Option Addr) (cA:Nat) (xA:List Int) (aB:Option Addr) (cB:Nat) (xB:List Int) (n:Int) (hG:cZ R C xA xB=true) (hA:Rd w w.heap.size aA (ae xA)) (hB:Rd w w.heap.size aB (ae xB)) :
 Calls Tryz.prog 134 #[.agg #[.int .i64 R,.int .i64 C,.slice aA xA.length cA,.slice aB xB.length cB],.int .i64 n] w (zl (ip R C xA xB n) w):=by
 have hG':=hG;obtain ⟨R',C',e1,e2,r1,r6,c1,c6,lA,lB,bA,bB⟩:=eH hG';obtain rfl:R=R':=Int.ofNat.inj e1;obtain rfl:C=C':=Int.ofNat.inj e2;have hRC:R * C≤6 * 6:=Nat.mul_le_mul r6 c6;have HB1:=Oi (ai w (.cells #[.int .i64 R,.int .i64 C,.slice aA xA.length cA,.slice aB xB.length cB] 26));have KG:=Oi (Blk.new w [.int .i64 R,.int .i64 C,.slice aA xA.length cA,.slice aB xB.length cB] 26);have LV:=Oi (fun v (hb:Below w.heap.size w v)=>ef v R C aA cA xA aB cB xB ⟨hA.to hb,hB.to hb⟩ (by omega) (by omega))
 rw [hG] at LV;have LW:=Oi (fun v=>dm n 1 1000 v)
 have LT:=Oi (fun v (hb:Below w.heap.size w v)=>jM v R C aA cA xA aB cB xB (hA.to hb) (hB.to hb) lA lB r6 c6)
 unfold Ev at LT;have LA:=Oi (fun (v:World) (hb:Below w.heap.size w v) (g cc:Nat) (cols:List Int) (hg:Blk v g (ae cols) 2) (hl:cols.length=C) (hx:∀ x∈cols,0≤x∧x≤1001)=>uK v R C aA cA xA (.slice aB xB.length cB) (some ⟨g,0,none⟩) cc cols (hA.to hb) (fD hg) lA hl r1 r6 c6 bA hx)
 have LO:=Oi (fun (v:World) (aT:Option Addr) (cT:Nat) (vS:Value) (g cc:Nat) (rows:List Int) (hr:Rd v v.heap.size aT (ae (aG R C xB (C * R)))) (hg:Blk v g (ae rows) 2) (hl:rows.length=R) (hx:∀ x∈rows,0≤x∧x≤1001)=>uK v C R aT cT (aG R C xB (C * R)) vS (some ⟨g,0,none⟩) cc rows hr (fD hg) (by simp [aG]) hl c1 c6 r6 (Mq bB) hx)
 cases hw:eG n 1 1000 with
 | false =>
   have hF:Hid (ip R C xA xB n=none):=by unfold ip;rw [hw];rfl
   rw [hw] at LW;rw [hF.out];clear hA hB hG hG' lA lB bA bB e1 e2 hw LT LA LO
   go_enter Tryz.func134,Tryz.ntmps134;go_wp2_with fail;refine (LV.out _ HB1.out).mono ?_;rintro e w1 ⟨rfl,hb⟩;have B1:=Oi (aa HB1.out hb);clear hb LV KG;go_wp2_with fail;refine (LW.out _).mono ?_;rintro e w2 ⟨rfl,rfl⟩;go_wp2_with fail;go_ret3;exact ⟨B1.out,rfl⟩
 | true =>
 rw [hw] at LW;have hn:=cx.1 hw;obtain ⟨m,rfl⟩:∃ m:Nat,n=(m:Int)+1:=⟨(n - 1).toNat,by omega⟩;have hm:(m:Int)≤999:=by omega
 have hF:Hid (ip R C xA xB ((m:Int)+1)=some (bZ R C xA (aG R C xB (C * R)) m)):=by
  have e:((m:Int)+1 - 1).toNat=m:=by omega
  rw [Hid];unfold ip;rw [if_pos hw,e]
 rw [hF.out];obtain ⟨yB,hyB⟩:∃ l,l=aG R C xB (C * R):=⟨_,rfl⟩;rw [← hyB] at LT LO ⊢;have HLK:=Oi (fun k=>rK R C xA yB k)
 have HST:Hid (∀ k:Nat,bZ R C xA yB (k+1)=((bZ R C xA yB k).1.set (dG R C xA (bZ R C xA yB k).2) ((bZ R C xA yB k).1.getD (dG R C xA (bZ R C xA yB k).2) 0+1),(bZ R C xA yB k).2.set (dG C R yB (bZ R C xA yB k).1) ((bZ R C xA yB k).2.getD (dG C R yB (bZ R C xA yB k).1) 0+1))):=fun k=>rfl
 have HAI:Hid (∀ cnt:List Int,dG R C xA cnt<R):=fun cnt=>by obtain ⟨j,e,hj⟩:=na C xA cnt R r1;unfold dG;rw [e,Int.toNat_natCast];exact hj
 have HOI:Hid (∀ cnt:List Int,dG C R yB cnt<C):=fun cnt=>by obtain ⟨j,e,hj⟩:=na R yB cnt C c1;unfold dG;rw [e,Int.toNat_natCast];exact hj
 have hm1:=fun w=>tZ w R (by omega)
 have hm2:=fun w=>tZ w C (by omega)
 have r1i:(0:Int)<(R:Int):=by omega
 have c1i:(0:Int)<(C:Int):=by omega
 have r6i:(R:Int)≤6:=by omega
 have c6i:(C:Int)≤6:=by omega
 clear hA hB hG hG' lA lB bA bB e1 e2 hw hyB hF hn
 go_enter Tryz.func134,Tryz.ntmps134;go_wp2_with fail;refine (LV.out _ HB1.out).mono ?_;rintro e w1 ⟨rfl,hb⟩;have B1:=Oi (aa HB1.out hb);have K1:=Oi (KG.out.same hb);have s1:w.heap.size+1≤w1.heap.size:=by have:=hb.size;rw [World.size_alloc] at this;exact this
 clear hb LV KG HB1;go_wp2_with fail;refine (LW.out _).mono ?_;rintro e w2 ⟨rfl,rfl⟩;clear LW
 go_upto_region 3 with fail
 have E1:Hid (w1.cell? ⟨w.heap.size,0,none⟩=some (.int .i64 R)∧w1.cell? ⟨w.heap.size,1,none⟩=some (.int .i64 C)):=⟨K1.out.cell 0,K1.out.cell 1⟩;have hbl:w.heap.size<w1.heap.size:=K1.out.lt
 go_region_held3 (fun w'=>w'.cell? ⟨w.heap.size,0,none⟩=some (.int .i64 R)∧w'.cell? ⟨w.heap.size,1,none⟩=some (.int .i64 C)) (first | exact E1.out | exact ⟨((ai _ _).cell (p:=⟨w.heap.size,0,none⟩) hbl).trans E1.out.1,((ai _ _).cell (p:=⟨w.heap.size,1,none⟩) hbl).trans E1.out.2⟩ | exact ⟨((cd _ _ _).cell (p:=⟨w.heap.size,0,none⟩) hbl).trans E1.out.1,((cd _ _ _).cell (p:=⟨w.heap.size,1,none⟩) hbl).trans E1.out.2⟩) (fail)
 all_goals first
  | (obtain ⟨w3,hw3⟩:∃ X,X=((w1.alloc (.cells (ae (List.replicate R 0)).toArray 2)).alloc (.cells (ae (List.replicate C 0)).toArray 2)).drew:=⟨_,rfl⟩
     rw [← hw3];have F:Hid (TwoM w1 w3 w1.heap.size (w1.heap.size+1) R C):=by rw [hw3];exact En w1 R C
     have hF2:w1.heap.size<w3.heap.size∧w1.heap.size+1<w3.heap.size:=⟨F.out.X.lt,F.out.Y.lt⟩;clear hw3;obtain ⟨gC,hgC⟩:∃ g,g=w1.heap.size+1:=⟨_,rfl⟩;obtain ⟨gR,hgR⟩:∃ g,g=w1.heap.size:=⟨_,rfl⟩;have FF:Hid (TwoM w1 w3 gR gC R C):=by rw [hgC,hgR];exact F.out
     rw [← hgC,← hgR];have hl2:gR<w3.heap.size∧gC<w3.heap.size:=by omega
     have hl3:w.heap.size<gR∧w.heap.size<gC∧gC≠gR:=by omega
     clear F hgC hgR hF2)
  | (obtain ⟨w3,hw3⟩:∃ X,X=((w1.alloc (.cells (ae (List.replicate C 0)).toArray 2)).alloc (.cells (ae (List.replicate R 0)).toArray 2)).drew:=⟨_,rfl⟩
     rw [← hw3];have F:Hid (TwoM w1 w3 (w1.heap.size+1) w1.heap.size R C):=by rw [hw3];exact Na w1 R C
     have hF2:w1.heap.size<w3.heap.size∧w1.heap.size+1<w3.heap.size:=⟨F.out.Y.lt,F.out.X.lt⟩;clear hw3;obtain ⟨gR,hgR⟩:∃ g,g=w1.heap.size+1:=⟨_,rfl⟩;obtain ⟨gC,hgC⟩:∃ g,g=w1.heap.size:=⟨_,rfl⟩;have FF:Hid (TwoM w1 w3 gR gC R C):=by rw [hgC,hgR];exact F.out
     rw [← hgR,← hgC];have hl2:gR<w3.heap.size∧gC<w3.heap.size:=by omega
     have hl3:w.heap.size<gR∧w.heap.size<gC∧gC≠gR:=by omega
     clear F hgC hgR hF2)
 all_goals
  obtain ⟨hlr,hlc⟩:=hl2;obtain ⟨hbR,hbC,hne⟩:=hl3;have KR:=FF.out.X;have KC:=FF.out.Y;have B3:=Oi (aa B1.out FF.out.B);have K3:=Oi (K1.out.same FF.out.B);have cR:w3.cell? ⟨gR,0,none⟩=some (.int .i64 0):=by rw [KR.at (k:=0) (by simp;omega)];cases R with | zero=>omega | succ R=>rfl
  have cC:w3.cell? ⟨gC,0,none⟩=some (.int .i64 0):=by rw [KC.at (k:=0) (by simp;omega)];cases C with | zero=>omega | succ C=>rfl
  have fR:=KR.free 0;have fC:=KC.free 0;obtain ⟨w4,hw4⟩:∃ X,X=(w3.setCell ⟨gR,0,none⟩ (.int .i64 1)).setCell ⟨gC,0,none⟩ (.int .i64 1):=⟨_,rfl⟩;have KR4:Blk w4 gR (ae ((List.replicate R 0).set 0 1)) 2:=by rw [hw4];exact (KR.setI 0 1).touch (au _ gC 0 _) (zo hne.symm)
  have KC4:Blk w4 gC (ae ((List.replicate C 0).set 0 1)) 2:=by rw [hw4];exact (KC.touch (au w3 gR 0 _) (zo hne)).setI 0 1
  have B4:Hid (Below w.heap.size w w4):=by
   rw [hw4];exact aI (aI B3.out (au w3 gR 0 _) (by omega) B3.out.size) (au _ gC 0 _) (by omega) (by simp;exact B3.out.size)
  have K4:Hid (Blk w4 w.heap.size [.int .i64 R,.int .i64 C,.slice aA xA.length cA,.slice aB xB.length cB] 26):=by
   rw [hw4];exact (K3.out.touch (au w3 gR 0 _) (.inl hbR)).touch (au _ gC 0 _) (.inl hbC)
  have s4:gR<w4.heap.size∧gC<w4.heap.size:=by rw [hw4];simp;exact ⟨hlr,hlc⟩
  go_upto_region 5 with fail
  rw [← hw4];clear hw4 cR cC fR fC KR KC B3 E1 K1 B1 K3 FF;have L5:=Oi (LT.out w4 B4.out);obtain ⟨q0,q1,q2,q3⟩:w4.cell? ⟨w.heap.size,0,none⟩=some (.int .i64 R)∧w4.cell? ⟨w.heap.size,1,none⟩=some (.int .i64 C)∧w4.cell? ⟨w.heap.size,2,none⟩=some (.slice aA xA.length cA)∧w4.cell? ⟨w.heap.size,3,none⟩=some (.slice aB xB.length cB):=⟨K4.out.cell 0,K4.out.cell 1,K4.out.cell 2,K4.out.cell 3⟩;clear LT;go_wp2_with fail;refine L5.out.mono ?_;rintro e w5 ⟨aT,cT,aS,cS,rfl,rT,rS,hb,nT,nS⟩;obtain ⟨w6,hw6⟩:∃ X,X=w5.alloc (.cells #[.int .i64 C,.int .i64 R,.slice aT yB.length cT,.slice aS (aG R C xA (C * R)).length cS] 26):=⟨_,rfl⟩;have hb6:Below w5.heap.size w5 w6:=by rw [hw6];exact ai _ _
  have S6:Hid (LnS w w6 gR gC w5.heap.size R C [.int .i64 R,.int .i64 C,.slice aA xA.length cA,.slice aB xB.length cB] aT cT yB (.slice aS (aG R C xA (C * R)).length cS) (bZ R C xA yB 0).1 (bZ R C xA yB 0).2):=by
   refine ⟨(K4.out.same hb).same hb6,?_,(KR4.same hb).same hb6,(KC4.same hb).same hb6,rT.to hb6,fun b e=>by have:=nT b e;omega,aa (aa B4.out hb) hb6⟩
   rw [hw6];exact Blk.new w5 _ _
  have hgO:gR<w5.heap.size∧gC<w5.heap.size:=by have:=hb.size;omega
  clear L5 rT rS hb nT nS q0 q1 q2 q3 K4 KR4 KC4 B4 hb6;generalize aG R C xA (C * R)=xT at *
  go_upto_region 6 with fail
  rw [← hw6];clear hw6;obtain ⟨gO,hgO2⟩:∃ g,g=w5.heap.size:=⟨_,rfl⟩;rw [← hgO2] at S6 hgO ⊢;clear hgO2 s4;obtain ⟨hgO,hgP⟩:=hgO;go_wp2_with fail
  go_loopw [34] (fun iv wr=>∃ k:Nat,k≤m∧iv=.int .i64 k∧Hid (LnS w wr gR gC gO R C [.int .i64 R,.int .i64 C,.slice aA xA.length cA,.slice aB xB.length cB] aT cT yB (.slice aS xT.length cS) (bZ R C xA yB k).1 (bZ R C xA yB k).2)) (fun iv _=>m - (intOf iv).toNat)
  case atStart=>exact ⟨0,Nat.zero_le _,rfl,S6.out⟩
  case round =>
   clear S6;obtain ⟨k,hk,rfl,hS⟩:=hrel;have k0:(0:Int)≤(k:Int):=Int.natCast_nonneg _
   by_cases hlt:k<m
   · have hki:(k:Int)<(m:Int):=by omega
     obtain ⟨l1,l2,b1,b2⟩:=HLK.out k;have hst:=Oi (HST.out k);generalize bZ R C xA yB k=st at *
     obtain ⟨rows,cols⟩:=st;dsimp only at *
     have L1:Hid (∀ z9:Later wr,Calls Tryz.prog 192 #[.agg #[.int .i64 R,.int .i64 C,.slice aA xA.length cA,.slice aB xB.length cB],.slice (some ⟨gC,0,none⟩) C C] z9.w' fun e w'=>e=.returned (.int .i64 (dG R C xA cols:Nat))∧Below z9.w'.heap.size z9.w' w'):=fun z9=>by
      have:=LA.out z9.w' (aa hS.out.B z9.h) gC C cols (hS.out.Y.same z9.h) l2 (fun x hx=>by have:=b2 x hx;omega)
      rw [l2] at this;exact this
     have L2:Hid (∀ z9:Later wr,Calls Tryz.prog 192 #[.agg #[.int .i64 C,.int .i64 R,.slice aT yB.length cT,.slice aS xT.length cS],.slice (some ⟨gR,0,none⟩) R R] z9.w' fun e w'=>e=.returned (.int .i64 (dG C R yB rows:Nat))∧Below z9.w'.heap.size z9.w' w'):=fun z9=>by
      have:=LO.out z9.w' aT cT (.slice aS xT.length cS) gR R rows (hS.out.T.to z9.h) (hS.out.X.same z9.h) l1 (fun x hx=>by have:=b1 x hx;omega)
      rw [l1] at this;exact this
     have hi:=HAI.out cols;have hj:=HOI.out rows;generalize dG R C xA cols=i at *
     generalize dG C R yB rows=j at *
     have D0:∀ z9:Later wr,z9.w'.cell? ⟨w.heap.size,0,none⟩=some (.int .i64 R):=fun z9=>(hS.out.G.same z9.h).cell 0
     have D1:∀ z9:Later wr,z9.w'.cell? ⟨w.heap.size,1,none⟩=some (.int .i64 C):=fun z9=>(hS.out.G.same z9.h).cell 1
     have D2:∀ z9:Later wr,z9.w'.cell? ⟨w.heap.size,2,none⟩=some (.slice aA xA.length cA):=fun z9=>(hS.out.G.same z9.h).cell 2
     have D3:∀ z9:Later wr,z9.w'.cell? ⟨w.heap.size,3,none⟩=some (.slice aB xB.length cB):=fun z9=>(hS.out.G.same z9.h).cell 3
     have D4:∀ z9:Later wr,z9.w'.cell? ⟨gO,0,none⟩=some (.int .i64 C):=fun z9=>(hS.out.O.same z9.h).cell 0
     have D5:∀ z9:Later wr,z9.w'.cell? ⟨gO,1,none⟩=some (.int .i64 R):=fun z9=>(hS.out.O.same z9.h).cell 1
     have D6:∀ z9:Later wr,z9.w'.cell? ⟨gO,2,none⟩=some (.slice aT yB.length cT):=fun z9=>(hS.out.O.same z9.h).cell 2
     have D7:∀ z9:Later wr,z9.w'.cell? ⟨gO,3,none⟩=some (.slice aS xT.length cS):=fun z9=>(hS.out.O.same z9.h).cell 3
     have i1:(i:Int)<(R:Int):=by omega
     have j1:(j:Int)<(C:Int):=by omega
     have i0:(0:Int)≤(i:Int):=Int.natCast_nonneg _;have j0:(0:Int)≤(j:Int):=Int.natCast_nonneg _;obtain ⟨u0,u1⟩:=iE b1 (by omega) (by omega) i
     obtain ⟨v0,v1⟩:=iE b2 (by omega) (by omega) j
     go_wp2_with fail;refine bg (by kernel_rfl) (by kernel_rfl) ?_
     repeat (go_big_quiet_step (first | (go_at_call_of 192 aA;exact dz (L1.out _)) | (go_at_call_of 192 aT;exact dz (L2.out _))))
     refine wpQuiet_nil ?_
     rintro wq ⟨⟨_,hbq⟩,rfl⟩
     rename_i wq
     have Sq:=Oi (hS.out.same hbq);clear D0 D1 D2 D3 D4 D5 D6 D7 L1 L2 hS hbq b1 b2;have cR:=Sq.out.X.at (k:=i) (by omega)
     have fR:=Sq.out.X.free i;generalize rows.getD i 0=u at *
     have S8:=Oi (Sq.out.setR hbR hne hgO i (u+1));have cC:=S8.out.Y.at (k:=j) (by omega)
     have fC:=S8.out.Y.free j;generalize cols.getD j 0=v at *
     have S9:=Oi (S8.out.setC hbC hne.symm hgP j (v+1));have e1:rows.set i (u+1)=(bZ R C xA yB (k+1)).1:=by rw [hst.out]
     have e2:cols.set j (v+1)=(bZ R C xA yB (k+1)).2:=by rw [hst.out]
     have S10:=S9;rw [e1,e2] at S10;clear e1 e2;clear S9;clear Sq S8 l1 l2;go_wp2_with fail;go_roundw
     case rel=>exact ⟨k+1,by omega,by go_num,S10⟩
     case measure=>simp [intOf];omega
   · obtain rfl:k=m:=by omega
     obtain ⟨l1,l2,-,-⟩:=HLK.out k;have hx:=Oi (fD hS.out.X);have hy:=Oi (fD hS.out.Y);have hB:=Oi hS.out.B;generalize hst:bZ R C xA yB k=st at *
     obtain ⟨rows,cols⟩:=st;dsimp only at *
     have HST2:=Oi hst;clear hS hst;subst l1;subst l2;go_wp2_with fail;go_ret3;exact ⟨hB.out,_,_,_,_,rfl,hx.out,hy.out⟩
def dt (n:Nat):Nat→List Int→List (List Int)
 | 0,p=>[p]
 | f+1,p=>(List.range n).flatMap fun (i:Nat)=>if decide ((i:Int)∈p) then [] else dt n f (p ++ [(i:Int)])
def jY (n:Nat) (xs os:List Int):Nat→Int
 | 0=>0
 | k+1=>jY n xs os k+iy n xs k (os.getD k 0).toNat
def mh (n:Nat) (xs os:List Int):Int:=jY n xs os n
theorem BP {n:Nat} {xs os:List Int} (h:∀ x∈xs,0≤x∧x≤1000):∀ k:Nat,0≤jY n xs os k∧jY n xs os k≤1000 * (k:Int)
 | 0=>by simp [jY]
 | k+1=>by
   have:=BP (n:=n) (os:=os) h k;have:=mE (T:=n) h k (os.getD k 0).toNat;rw [jY];omega
def gu (n:Nat) (xs os:List Int):eb→eb
 | none=>some (os,mh n xs os)
 | some (b,m)=>if m<mh n xs os then some (os,mh n xs os) else some (b,m)
def li (n:Nat) (xs:List Int) (done:List (List Int)):eb:=done.foldl (fun s o=>gu n xs o s) none
theorem vH (n:Nat) (xs:List Int) (done:List (List Int)) (os:List Int):li n xs (done ++ [os])=gu n xs os (li n xs done):=by
 unfold li;rw [List.foldl_append];rfl
theorem zh (n:Nat) (xs os:List Int) (s:eb):∃ b m,gu n xs os s=some (b,m):=by
 cases s with
 | none=>exact ⟨_,_,rfl⟩
 | some p =>
   obtain ⟨b,m⟩:=p;unfold gu
   split
   · exact ⟨_,_,rfl⟩
   · split <;> exact ⟨_,_,rfl⟩
theorem FY (n:Nat) (xs:List Int) {done:List (List Int)} (h:done≠[]):∃ b m,li n xs done=some (b,m):=by
 obtain ⟨d,o,rfl⟩:∃ d o,done=d ++ [o]:=⟨done.dropLast,done.getLast h,(List.dropLast_concat_getLast h).symm⟩;rw [vH];exact zh n xs o _
theorem Ko:(List.range 6).all (fun n=>!(dt (n+1) (n+1) []).isEmpty)=true:=by decide +kernel
theorem FE {n:Nat} (h1:1≤n) (h6:n≤6):dt n n []≠[]:=by
 have:=List.all_eq_true.1 Ko (n - 1) (List.mem_range.2 (by omega))
 rw [show n - 1+1=n from by omega] at this
 intro e;rw [e] at this;simp at this
theorem IT {n:Nat} {xs:List Int} {done:List (List Int)}:∀ b m,li n xs done=some (b,m)→b∈done:=by
 have key:∀ (done:List (List Int)) (s:eb) (b:List Int) (m:Int),done.foldl (fun s o=>gu n xs o s) s=some (b,m)→b∈done∨∃ k,s=some (b,k):=by
  intro done
  induction done with
  | nil=>intro s b m h;exact .inr ⟨m,h⟩
  | cons o done ih =>
    intro s b m h
    rcases ih _ b m h with h1 | ⟨k,h1⟩
    · exact .inl (List.mem_cons_of_mem _ h1)
    · cases s with
      | none=>injection h1 with h1;injection h1 with h1 _;exact .inl (by rw [h1];exact List.mem_cons_self)
      | some p =>
        obtain ⟨b',m'⟩:=p;have h1':gu n xs o (some (b',m'))=some (b,k):=h1
        by_cases hm:m'<mh n xs o
        · rw [show gu n xs o (some (b',m'))=some (o,mh n xs o) from if_pos hm] at h1'
          injection h1' with h2;injection h2 with h2 _;exact .inl (by rw [h2];exact List.mem_cons_self)
        · rw [show gu n xs o (some (b',m'))=some (b',m') from if_neg hm] at h1'
          injection h1' with h2;injection h2 with h2 _;exact .inr ⟨m',by rw [h2]⟩
 intro b m h
 rcases key done none b m h with h1 | ⟨k,h1⟩
 · exact h1
 · cases h1
theorem FD:(List.range 6).all (fun n=>(dt (n+1) (n+1) []).all fun q=>decide (q.length=n+1))=true:=by decide +kernel
theorem IS {n:Nat} (h1:1≤n) (h6:n≤6) {xs b:List Int} {m:Int} (h:li n xs (dt n n [])=some (b,m)):b.length=n:=by
 have:=List.all_eq_true.1 FD (n - 1) (List.mem_range.2 (by omega))
 rw [show n - 1+1=n from by omega] at this
 exact of_decide_eq_true (List.all_eq_true.1 this b (IT b m h))
def rI (n:Nat) (xs rooms r:List Int) (j:Nat):Nat→List Int
 | 0=>r
 | k+1=>(rI n xs rooms r j k).set j (max ((rI n xs rooms r j k).getD j 0) ((rI n xs rooms r j k).getD (rooms.getD k 0).toNat 0+iy n xs k j - iy n xs k (rooms.getD k 0).toNat))
def rJ (n:Nat) (xs rooms r:List Int):Nat→List Int
 | 0=>r
 | j+1=>rI n xs rooms (rJ n xs rooms r j) j n
def rO (n:Nat) (xs rooms:List Int):Nat→List Int
 | 0=>List.replicate n 0
 | t+1=>rJ n xs rooms (rO n xs rooms t) n
theorem BA (n:Nat) (xs rooms r:List Int) (j:Nat):∀ k,(rI n xs rooms r j k).length=r.length
 | 0=>rfl
 | k+1=>by rw [rI,List.length_set];exact BA n xs rooms r j k
theorem BC (n:Nat) (xs rooms r:List Int):∀ j,(rJ n xs rooms r j).length=r.length
 | 0=>rfl
 | j+1=>by rw [rJ,BA];exact BC n xs rooms r j
theorem BD (n:Nat) (xs rooms:List Int):∀ t,(rO n xs rooms t).length=n
 | 0=>by simp [rO]
 | t+1=>by rw [rO,BC];exact BD n xs rooms t
def InZ (b:Int) (r:List Int):Prop:=∀ x∈r,0≤x∧x≤b
theorem InZ.mono {b c:Int} {r:List Int} (h:InZ b r) (hc:b≤c):InZ c r:=fun x hx=>⟨(h x hx).1,by have:=(h x hx).2;omega⟩
theorem InZ.get {b:Int} {r:List Int} (h:InZ b r) (hb:0≤b) (k:Nat):0≤r.getD k 0∧r.getD k 0≤b:=by
 rw [List.getD_eq_getElem?_getD]
 by_cases hk:k<r.length
 · rw [List.getElem?_eq_getElem hk];exact h _ (List.getElem_mem hk)
 · rw [List.getElem?_eq_none (by omega)];exact ⟨Int.le_refl _,hb⟩
theorem InZ.set {b:Int} {r:List Int} (h:InZ b r) {v:Int} (h0:0≤v) (h1:v≤b) (j:Nat):InZ b (r.set j v):=fun x hx=>by
 rcases List.mem_or_eq_of_mem_set hx with hx | hx
 · exact h x hx
 · subst hx;exact ⟨h0,h1⟩
theorem FP {n:Nat} {xs rooms r:List Int} {b:Int} (hx:∀ x∈xs,0≤x∧x≤1000) (hb:0≤b) (h:InZ b r) (j:Nat):∀ k:Nat,InZ (b+1000 * (k:Int)) (rI n xs rooms r j k)
 | 0=>h.mono (by omega)
 | k+1=>by
   have ih:=FP (n:=n) (rooms:=rooms) hx hb h j k;have g1:=ih.get (by omega) j
   have g2:=ih.get (by omega) (rooms.getD k 0).toNat
   have o1:=mE (T:=n) hx k j;have o2:=mE (T:=n) hx k (rooms.getD k 0).toNat;rw [rI];exact (ih.mono (by omega)).set (by omega) (by omega) j
theorem FQ {n:Nat} {xs rooms r:List Int} {b:Int} (hx:∀ x∈xs,0≤x∧x≤1000) (hb:0≤b) (h:InZ b r) (hn:n≤6):∀ j:Nat,InZ (b+6000 * (j:Int)) (rJ n xs rooms r j)
 | 0=>h.mono (by omega)
 | j+1=>by
   have ih:=FQ (n:=n) (rooms:=rooms) hx hb h hn j;have:=FP (n:=n) (rooms:=rooms) hx (by omega) ih j n
   rw [rJ];exact this.mono (by omega)
theorem FT {n:Nat} {xs rooms:List Int} (hx:∀ x∈xs,0≤x∧x≤1000) (hn:n≤6):∀ t:Nat,InZ (36000 * (t:Int)) (rO n xs rooms t)
 | 0=>fun x h=>by simp [rO] at h;omega
 | t+1=>by
   have ih:=FT (rooms:=rooms) hx hn t;have:=FQ (n:=n) (rooms:=rooms) hx (by omega) ih hn n
   rw [rO];exact this.mono (by omega)
def iq (n:Nat) (total:Int) (r:List Int) (k:Nat):List Int:=(r.take k).map fun x=>x * (n:Int)+total - lZ r
def gX (P T:Nat) (xs:List Int) (total:Int):Option (List Int × List Int) :=
 if (decide (P=T) && eG total 0 100000)=true then match li P xs (dt P P []) with
  | none=>none
  | some (rooms,_)=>some (rooms,iq P total (rO P xs rooms P) P)
 else none
theorem IU {P T:Nat} {xs x y:List Int} {n:Int} (h:gX P T xs n=some (x,y)) (p1:1≤P) (p6:P≤6):x.length=P:=by
 unfold gX at h
 split at h
 · cases hr:li P xs (dt P P []) with
   | none=>rw [hr] at h;cases h
   | some p =>
     obtain ⟨b,m⟩:=p;rw [hr] at h;injection h with h
     injection h with h1 h2
     subst h1;exact IS p1 p6 hr
 · cases h
end Go.Proofs.YtbknhgapjjaelaaGreatDoor
