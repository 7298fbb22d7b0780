/-
  Part 20 of what the proof stands on: lemmas and contracts, each with its conditions ahead of the colon.
-/
import Derived.Test.YtbknhgapjjaelaaGreatDoorPj01
import Derived.Deep.RegionHeld3
import Derived.Deep.RegionLaw
import Derived.RegionTactic
import Derived.Laws.EntriesVeiled
import Derived.Test.YtbknhgapjjaelaaGreatDoorPj07
import Derived.Test.YtbknhgapjjaelaaGreatDoorPj08
import Derived.Test.YtbknhgapjjaelaaGreatDoorPj09
import Derived.Test.YtbknhgapjjaelaaGreatDoorPj16
import Derived.Test.YtbknhgapjjaelaaGreatDoorPj17
import Derived.Test.YtbknhgapjjaelaaGreatDoorPj18
import Derived.Test.YtbknhgapjjaelaaGreatDoorPj19
set_option maxRecDepth 100000
set_option maxHeartbeats 16000000
namespace Go.Proofs.YtbknhgapjjaelaaGreatDoor
set_option linter.unusedVariables false
set_option linter.unusedSimpArgs false
open Go.RowKit
theorem sF {w v:World} {cs:List Value} {t:TypeId} {o:Obj} (h:Blk v (w.alloc o).heap.size cs t):Blk v (w.heap.size+1) cs t:=by
 rw [World.size_alloc] at h;exact h
theorem cy {T:Nat} {w:World} {lo hi g c:Nat} {a:Option Addr} {xs:List Int} (h:OwnI T w lo hi a c xs) (hg:g<lo) (j:Nat) (u:Value):OwnI T (w.setCell ⟨g,j,none⟩ u) lo hi a c xs :=
 h.touch (Touch.of_grown (show w.grownBy (w.setCell ⟨g,j,none⟩ u) (some g) from ⟨rfl,rfl,rfl,by simp,fun i _ hi=>Below.heap_setCell _ _ _ _ (fun e=>hi (by simp [e]))⟩) (Nat.le_refl _) (Nat.lt_succ_self _)) (.inr hg)
theorem wg {B:Nat} {w w':World} (h:Below B w w'):Touch w w' B w.heap.size:=⟨h.os,h.tape,h.output,h.size,fun k hk hd=>h.block k (by omega)⟩
def iY (f:Nat→Nat→Int) (u r k:Nat):List Int:=kd f u r ++ (List.range k).map fun j=>f r (j+1)
theorem vD (f:Nat→Nat→Int) (u r:Nat):iY f u r 0=kd f u r:=by simp [iY]
theorem vy (f:Nat→Nat→Int) (u r:Nat):iY f u r u=kd f u (r+1):=rfl
theorem vC (f:Nat→Nat→Int) (u r k:Nat):iY f u r (k+1)=iY f u r k ++ [f r (k+1)]:=by simp [iY,List.range_succ]
theorem yf (f:Nat→Nat→Int) (u r k:Nat):(iY f u r k).length=r * u+k:=by simp [iY,pD]
structure TW (w wr:World) (gO T0:Nat) (u n:Nat) (a2:Option Addr) (c2:Nat) (x2:List Int) (a3:Option Addr) (c3:Nat) (x3:List Int) (aW:Option Addr) (cW:Nat) (lW:Nat) (aC:Option Addr) (cC:Nat) (l:List Int):Prop where
 B:Below w.heap.size w wr
 KB:Blk wr w.heap.size [.int .i64 u,.int .i64 n,.slice a2 x2.length c2,.slice a3 x3.length c3] 30
 KR:Blk wr (w.heap.size+1) [.int .i64 0,.int .i64 0,.slice none 0 0,.slice none 0 0] 30
 KO:Blk wr gO [.int .i64 u,.int .i64 n,.slice aW x2.length cW,.slice aC l.length cC] 30
 W:OwnI 2 wr lW T0 aW cW x2
 C:wr.ownsRow T0 2 1 (.slice aC l.length cC) l.length (ae l)
section
variable {w wr wx w5:World} {gO T0 u n c2 c3 cW lW cC g5 c5:Nat} {a2 a3 aW aC:Option Addr} {x2 x3 l:List Int}
theorem TW.snoc {x:Int} (h:TW w wr gO T0 u n a2 c2 x2 a3 c3 x3 aW cW lW aC cC l) (h0:w.heap.size+1<gO) (hg:gO<T0) (hlW:w.heap.size+1<lW) (hgW:∀ b,aW=some b→b.block≠gO) (hT:T0≤wr.heap.size) (hb:Below T0 wr w5)
 (ho:w5.ownsRow T0 2 1 (.slice (some ⟨g5,0,none⟩) (l.length+1) c5) (l.length+1) (ae l ++ [.int .i64 x])) :
 TW w (w5.setCell ⟨gO,3,none⟩ (.slice (some ⟨g5,0,none⟩) (l.length+1) c5)) gO T0 u n a2 c2 x2 a3 c3 x3 aW cW lW (some ⟨g5,0,none⟩) c5 (l ++ [x]):=by
 have hts:w5.grownBy (w5.setCell ⟨gO,3,none⟩ (.slice (some ⟨g5,0,none⟩) (l.length+1) c5)) (some gO):=⟨rfl,rfl,rfl,by simp,fun i _ hi=>Below.heap_setCell _ _ _ _ (fun e=>hi (by simp [e]))⟩
 have ht:=wg hb;have K5:=h.KO.below hb (by omega)
 refine ⟨?_,(h.KB.below hb (by omega)).oth (by omega) _ _,(h.KR.below hb (by omega)).oth (by omega) _ _,?_,?_,?_⟩
 · exact (h.B.trans (hb.mono (by omega))).setCell (p:=⟨gO,3,none⟩) (by show w.heap.size≤gO;omega) _
 · have:=K5.set 3 (.slice (some ⟨g5,0,none⟩) (l.length+1) c5)
   rw [List.length_append];exact this
 · have W5:OwnI 2 w5 lW T0 aW cW x2:=h.W.touch ht (.inl (Nat.le_refl _))
   refine ⟨W5.1.kept hts (.inr fun e=>?_),W5.2⟩
   cases ha:aW with
   | none=>rw [ha] at e;simp [Value.ownBlock] at e
   | some b=>rw [ha] at e;simp [Value.ownBlock] at e;exact hgW b ha e
 · rw [List.length_append,bk]
   exact aP ho hts hg
end
theorem we (w:World) (gb:Nat) (U:Int) (n r k:Nat) (a2:Option Addr) (c2:Nat) (x2:List Int) (a3:Option Addr) (c3:Nat) (x3:List Int) (K:Blk w gb [.int .i64 U,.int .i64 n,.slice a2 x2.length c2,.slice a3 x3.length c3] 30) (h:RdCrowd w w.heap.size a2 x2 a3 x3) (hv:Valid ⟨U,n,x2,x3⟩) (hr:r<n) (k1:1≤k) (kU:(k:Int)≤U) :
 Calls Tryz.prog 185 #[.int .i64 r,.int .i64 k,.pointer (some ⟨gb,0,none⟩)] w fun e w'=>e=.returned (.int .i64 (fM ⟨U,n,x2,x3⟩ r k))∧Below w.heap.size w w':=by
 have hU:=hv.u8;simp only at hU;have LC:=Oi (fun (w':World) (m:Int) (hb:Below w.heap.size w w') (h1:1≤m) (h2:m≤U)=>Ab w' w'.heap.size U n r m a2 c2 x2 a3 c3 x3 (h.to hb) (Nat.le_refl _) hv (by omega) h1 h2)
 have b1:=nK hv r (k:Int);have b2:=nK hv r ((k:Int) - 1);have HT:Hid (fM ⟨U,n,x2,x3⟩ r k=(k:Int) * fG ⟨U,n,x2,x3⟩ r k - ((k:Int) - 1) * fG ⟨U,n,x2,x3⟩ r ((k:Int) - 1)):=rfl;have LC1:=Oi (LC.out w k (Below.refl _ _) (by omega) kU)
 obtain ⟨x,hx⟩:∃ x,x=fG ⟨U,n,x2,x3⟩ r k:=⟨_,rfl⟩;obtain ⟨y,hy⟩:∃ y,y=fG ⟨U,n,x2,x3⟩ r ((k:Int) - 1):=⟨_,rfl⟩;rw [← hx] at b1 HT LC1;rw [← hy] at b2 HT;have Hy:=Oi hy;obtain ⟨b10,b11⟩:=b1;obtain ⟨b20,b21⟩:=b2;have q0:w.cell? ⟨gb,0,none⟩=some (.int .i64 U):=K.cell 0;have q1:w.cell? ⟨gb,1,none⟩=some (.int .i64 n):=K.cell 1;have q2:w.cell? ⟨gb,2,none⟩=some (.slice a2 x2.length c2):=K.cell 2;have q3:w.cell? ⟨gb,3,none⟩=some (.slice a3 x3.length c3):=K.cell 3;have KH:=Oi K;have m1:-800000≤(k:Int) * x∧(k:Int) * x≤800000:=by
  have:k=1∨k=2∨k=3∨k=4∨k=5∨k=6∨k=7∨k=8:=by omega
  rcases this with rfl | rfl | rfl | rfl | rfl | rfl | rfl | rfl <;> omega
 have m2:-800000≤((k:Int) - 1) * y∧((k:Int) - 1) * y≤800000:=by
  have:k=1∨k=2∨k=3∨k=4∨k=5∨k=6∨k=7∨k=8:=by omega
  rcases this with rfl | rfl | rfl | rfl | rfl | rfl | rfl | rfl <;> omega
 obtain ⟨m10,m11⟩:=m1;obtain ⟨m20,m21⟩:=m2;have k0:(1:Int)≤(k:Int):=by omega
 have k8:(k:Int)≤8:=by omega
 clear hx hy h hv K
 by_cases hk:1<k
 · have hki:(1:Int)<(k:Int):=by omega
   go_enter Tryz.func185,Tryz.ntmps185;go_wp2_with fail;refine LC1.out.mono ?_;rintro e w1 ⟨rfl,hb1⟩;have K1:=KH.out.same hb1;have LC2:=Oi (LC.out w1 ((k:Int) - 1) hb1 (by omega) (by omega))
   rw [← Hy.out] at LC2;clear q0 q1 q2 q3 LC1;have q0:w1.cell? ⟨gb,0,none⟩=some (.int .i64 U):=K1.cell 0;have q1:w1.cell? ⟨gb,1,none⟩=some (.int .i64 n):=K1.cell 1;have q2:w1.cell? ⟨gb,2,none⟩=some (.slice a2 x2.length c2):=K1.cell 2;have q3:w1.cell? ⟨gb,3,none⟩=some (.slice a3 x3.length c3):=K1.cell 3;have B1:=Oi hb1;clear hb1 K1 LC;go_wp2_with fail;refine LC2.out.mono ?_;rintro e w2 ⟨rfl,hb2⟩;have B2:=Oi (aa B1.out hb2);clear hb2 q0 q1 q2 q3;go_wp2_with fail;go_ret;exact ⟨bY HT.out.symm,B2.out⟩
 · have:k=1:=by omega
   subst this;have HT1:Hid (fM ⟨U,n,x2,x3⟩ r 1=x):=by
    have:=HT.out;rw [Hid,this];simp
   clear LC HT
   go_enter Tryz.func185,Tryz.ntmps185;go_wp2_with fail;refine LC1.out.mono ?_;rintro e w1 ⟨rfl,hb1⟩;clear q0 q1 q2 q3;go_wp2_with fail;go_ret;exact ⟨by rw [HT1.out];first | rfl | simp,hb1⟩
def Ew (C:Cr) (w:World) (e:Ending) (w':World):Prop :=
 ∃ a2 c2 a3 c3,e=.returned (.tuple #[.agg #[.int .i64 C.U,.int .i64 C.R,.slice a2 C.ways.length c2,.slice a3 C.costs.length c3],.bool true])∧(OwnI 2 w' w.heap.size w'.heap.size a2 c2 C.ways∧OwnI 2 w' w.heap.size w'.heap.size a3 c3 C.costs)∧Below w.heap.size w w'
theorem Gm (w:World) (K0:Nat) (caps0:Array Value) (hK:∀ (args:Array Value) (w:World),(callFunc K0 args).run Tryz.prog w=.ok (.enter K0 args) w) (f:Nat→Nat→Int) (u n:Nat) (a2:Option Addr) (c2:Nat) (x2:List Int) (a3:Option Addr) (c3:Nat) (x3:List Int) (h:RdCrowd w w.heap.size a2 x2 a3 x3) (hvb:bu ⟨u,n,x2,x3⟩=true) (hvt:bu (fk f ⟨u,n,x2,x3⟩)=true) (hl2:x2.length≤1048576) (hl3:x3.length≤1048576)
 (hf:∀ (w':World) (r k:Nat),Below w.heap.size w w'→r<n→1≤k→k≤u→Calls Tryz.prog K0 (#[.int .i64 r,.int .i64 k] ++ caps0) w' fun e w''=>e=.returned (.int .i64 (f r k))∧Below w'.heap.size w' w'') :
 Calls Tryz.prog 184 #[.agg #[.int .i64 u,.int .i64 n,.slice a2 x2.length c2,.slice a3 x3.length c3],.func (.func K0) #[] caps0] w (Ew (fk f ⟨u,n,x2,x3⟩) w):=by
 have hv:=em hvb;have u1:=hv.u1;have u8:=hv.u8;have r1:=hv.r1;have r8:=hv.r8;have w1':=hv.w1;have w8:=hv.w8;simp only at u1 u8 r1 r8 w1' w8;have KB:=Oi (Blk.new w [.int .i64 u,.int .i64 n,.slice a2 x2.length c2,.slice a3 x3.length c3] 30);have HH:=Oi h;have LV:=Oi (fun (w':World) (hb:Below w.heap.size w w')=>dJ w' u n a2 c2 x2 a3 c3 x3 (h.to hb) hl2 hl3)
 rw [hvb] at LV;have LCl:=Oi (fun (w':World) (hb:Below w.heap.size w w')=>eo w' a2 c2 x2 (h.1.to hb) w1' hl2)
 have HVT:=Oi hvt;have LF:=Oi hf;have HK0:=Oi hK;clear h hvb hvt hf hK hv
 go_enter Tryz.func184,Tryz.ntmps184;go_wp2_with fail;have B0:=cd w (.cells #[.int .i64 u,.int .i64 n,.slice a2 x2.length c2,.slice a3 x3.length c3] 30) (.cells #[.int .i64 0,.int .i64 0,.slice none 0 0,.slice none 0 0] 30);have KR0:=sF (Blk.new (w.alloc (.cells #[.int .i64 u,.int .i64 n,.slice a2 x2.length c2,.slice a3 x3.length c3] 30)) [.int .i64 0,.int .i64 0,.slice none 0 0,.slice none 0 0] 30);have KB0:=KB.out.same (ai _ (.cells #[.int .i64 0,.int .i64 0,.slice none 0 0,.slice none 0 0] 30));refine (LV.out _ B0).mono ?_;rintro e w2 ⟨rfl,hb2⟩;have KR2:=Oi (KR0.same hb2);have KB2:=Oi (KB0.same hb2);have B2:=Oi (aa B0 hb2);have s2:=hb2.size;rw [World.size_alloc,World.size_alloc] at s2;have HS:Hid (∀ w',Below w2.heap.size w2 w'→(w'.cell? ⟨w.heap.size,0,none⟩=some (.int .i64 u)∧w'.cell? ⟨w.heap.size,1,none⟩=some (.int .i64 n)∧w'.cell? ⟨w.heap.size,2,none⟩=some (.slice a2 x2.length c2))):=fun w' hb=>⟨(KB2.out.same hb).cell 0,(KB2.out.same hb).cell 1,(KB2.out.same hb).cell 2⟩
 have HD:Hid (Below w2.heap.size w2 w2.drew):=aq (Below.refl _ _);have LC1:=Oi (LCl.out w2.drew (aa B2.out HD.out));have HE:Hid (Below w2.heap.size w2 (w2.alloc (.cells #[.int .i64 0,.int .i64 0,.slice none 0 0,.slice none 0 0] 30)).drew):=aq (ai _ _);have KZ:Hid (Blk (w2.alloc (.cells #[.int .i64 0,.int .i64 0,.slice none 0 0,.slice none 0 0] 30)).drew w2.heap.size [.int .i64 0,.int .i64 0,.slice none 0 0,.slice none 0 0] 30):=(Blk.new w2 [.int .i64 0,.int .i64 0,.slice none 0 0,.slice none 0 0] 30).drewN 1;have LC2:=Oi (LCl.out (w2.alloc (.cells #[.int .i64 0,.int .i64 0,.slice none 0 0,.slice none 0 0] 30)).drew (aa B2.out HE.out));obtain ⟨q0,q1,q2⟩:=HS.out _ (Below.refl _ _);clear B0 KR0 KB0 hb2 KB LCl;go_wp2_with fail
 go_region_held3 (fun w'=>w'.cell? ⟨w.heap.size,0,none⟩=some (.int .i64 u)∧w'.cell? ⟨w.heap.size,1,none⟩=some (.int .i64 n)∧w'.cell? ⟨w.heap.size,2,none⟩=some (.slice a2 x2.length c2))
  (first | with_reducible exact HS.out _ HD.out | with_reducible exact HS.out _ HE.out | with_reducible exact HS.out _ hB1 | with_reducible exact HS.out _ (aa hB1 (ai w5 (.cells #[.int .i64 0,.int .i64 0,.slice none 0 0,.slice none 0 0] 30))) | with_reducible exact HS.out _ (aa hB1 (ai w5 (.cells #[.int .i64 u,.int .i64 n,.slice aW x2.length cW,.slice none 0 0] 30))) | with_reducible exact HS.out _ (aw (aw (aw (aw hB1 (Nat.le_refl _) _ _) (Nat.le_refl _) _ _) (Nat.le_refl _) _ _) (Nat.le_refl _) _ _))
  (first | (go_at_call 69;with_reducible refine (LC1.out).mono ?_;rintro e w5 ⟨aW,cW,rfl,oW,hz1⟩;have hB1:=aa HD.out hz1) | (go_at_call 69;with_reducible refine (LC2.out).mono ?_;rintro e w5 ⟨aW,cW,rfl,oW,hz1⟩;have hB1:=aa HE.out hz1;have KO:=KZ.out.same hz1;have z0:=KO.cell 0;have z1:=KO.cell 1;have z2:=KO.cell 2;have z3:=KO.cell 3;have y0:=KO.free 0;have y1:=KO.free 1;have y2:=KO.free 2;have y3:=KO.free 3;simp only [List.getElem?_cons_zero,List.getElem?_cons_succ] at z0 z1 z2 z3))
 all_goals
  first
  | (obtain ⟨wO,hwO⟩:∃ W:World,W=w5.alloc (.cells #[.int .i64 u,.int .i64 n,.slice aW x2.length cW,.slice none 0 0] 30):=⟨_,rfl⟩
     obtain ⟨gO,hgO⟩:∃ g,g=w5.heap.size:=⟨_,rfl⟩;have KO:Hid (Blk wO gO [.int .i64 u,.int .i64 n,.slice aW x2.length cW,.slice none 0 0] 30):=by rw [hwO,hgO];exact Blk.new w5 _ _
     have BO:Hid (Below w2.heap.size w2 wO):=by rw [hwO];exact aa hB1 (ai _ _)
     have OW:Hid (OwnI 2 wO w2.heap.size wO.heap.size aW cW x2):=by rw [hwO];exact (oW.keep (ai _ _)).mono (Nat.le_refl _) (by simp)
     have HGW:Hid (∀ b,aW=some b→b.block≠gO):=fun b hb=>by have:=oW.2 b hb;rw [hgO];omega
     have hgO2:w2.heap.size≤gO:=by rw [hgO];exact hB1.size
     have hgO3:gO<wO.heap.size:=KO.out.lt;rw [← hwO,← hgO];clear hwO hgO oW hz1 hB1 LC1 LC2 HE HD q0 q1 q2 KZ)
  | (obtain ⟨wO,hwO⟩:∃ W:World,W=(((w5.setCell ⟨w2.heap.size,0,none⟩ (.int .i64 u)).setCell ⟨w2.heap.size,1,none⟩ (.int .i64 n)).setCell ⟨w2.heap.size,2,none⟩ (.slice aW x2.length cW)).setCell ⟨w2.heap.size,3,none⟩ (.slice none 0 0):=⟨_,rfl⟩
     obtain ⟨gO,hgO⟩:∃ g,g=w2.heap.size:=⟨_,rfl⟩;have KO:Hid (Blk wO gO [.int .i64 u,.int .i64 n,.slice aW x2.length cW,.slice none 0 0] 30):=by rw [hwO,hgO];exact (((KO.set 0 (.int .i64 u)).set 1 (.int .i64 n)).set 2 (.slice aW x2.length cW)).set 3 (.slice none 0 0)
     have BO:Hid (Below w2.heap.size w2 wO):=by rw [hwO];exact aw (aw (aw (aw hB1 (Nat.le_refl _) _ _) (Nat.le_refl _) _ _) (Nat.le_refl _) _ _) (Nat.le_refl _) _ _
     have OW:Hid (OwnI 2 wO w2.heap.size wO.heap.size aW cW x2):=by rw [hwO];exact ((cy (cy (cy (cy oW (by simp) 0 (.int .i64 u)) (by simp) 1 (.int .i64 n)) (by simp) 2 (.slice aW x2.length cW)) (by simp) 3 (.slice none 0 0)).mono (by simp) (by simp))
     have HGW:Hid (∀ b,aW=some b→b.block≠gO):=fun b hb=>by have:=(oW.1.lt b.block (by rw [hb];rfl)).1;rw [hgO];simp at this;omega
     have hgO2:w2.heap.size≤gO:=by rw [hgO];exact Nat.le_refl _
     have hgO3:gO<wO.heap.size:=KO.out.lt;rw [← hwO,← hgO];clear hwO hgO oW hz1 hB1 LC1 LC2 HE HD q0 q1 q2 KZ)
  have BW:Hid (Below w.heap.size w wO):=B2.out.trans (BO.out.mono (by omega))
  obtain ⟨T0,hT0⟩:∃ T,T=wO.heap.size:=⟨_,rfl⟩;have T0le:T0≤wO.heap.size:=by omega
  have HT:Hid (TW w wO gO T0 u n a2 c2 x2 a3 c3 x3 aW cW w2.heap.size none 0 []) :=
   ⟨BW.out,KB2.out.below BO.out (by omega),KR2.out.below BO.out (by omega),KO.out,by rw [hT0];exact OW.out,World.ownsRow_nil _ _ _ _⟩
  have hgT:gO<T0:=by omega
  clear BO OW KO hT0 hgO3 KB2 KR2 HS;obtain ⟨lW,hlW⟩:∃ l,l=w2.heap.size:=⟨_,rfl⟩;rw [← hlW] at HT hgO2 s2;clear hlW B2 BW;have q1:wO.cell? ⟨w.heap.size,1,none⟩=some (.int .i64 n):=HT.out.KB.cell 1;go_wp2_with fail;clear q1
  go_loopw [23] (fun rv wr=>∃ (r:Nat) (aC:Option Addr) (cC:Nat) (l:List Int),r≤n∧rv=.int .i64 r∧Hid (l=kd f u r)∧Hid (TW w wr gO T0 u n a2 c2 x2 a3 c3 x3 aW cW lW aC cC l)∧T0≤wr.heap.size) (fun rv _=>n - (intOf rv).toNat)
  case atStart=>exact ⟨0,none,0,[],Nat.zero_le _,rfl,rfl,HT.out,T0le⟩
  case round =>
   obtain ⟨r,aC,cC,l,hr,rfl,hL,hW,hTs⟩:=hrel;obtain ⟨wo,hwo⟩:∃ W:World,W=wr:=⟨_,rfl⟩;subst hwo
   by_cases hlt:r<n
   · have hri:(r:Int)<(n:Int):=by omega
     have r0:(0:Int)≤(r:Int):=Int.natCast_nonneg _;have q0:wo.cell? ⟨w.heap.size,0,none⟩=some (.int .i64 u):=hW.out.KB.cell 0;have HP:Hid (l=iY f u r 0):=by rw [Hid,vD];exact hL.out
     clear hL;go_wp2_with fail;clear q0
     go_loopw [28] (fun kv wr=>∃ (k:Nat) (aC:Option Addr) (cC:Nat) (l:List Int),k≤u∧kv=.int .i64 k∧Hid (l=iY f u r k)∧Hid (TW w wr gO T0 u n a2 c2 x2 a3 c3 x3 aW cW lW aC cC l)∧T0≤wr.heap.size) (fun kv _=>u - (intOf kv).toNat)
     case atStart=>exact ⟨0,aC,cC,l,Nat.zero_le _,rfl,HP.out,hW.out,hTs⟩
     case round =>
      clear HP hW hTs;obtain ⟨k,aC,cC,l,hk,rfl,hP,hW,hTs⟩:=hrel
      by_cases hku:k<u
      · have hki:(k:Int)<(u:Int):=by omega
        have k0:(0:Int)≤(k:Int):=Int.natCast_nonneg _;have LF1:Hid (Calls Tryz.prog K0 (#[.int .i64 r,.int .i64 ((k:Int)+1)] ++ caps0) wr.drew fun e w''=>e=.returned (.int .i64 (f r (k+1)))∧Below wr.drew.heap.size wr.drew w''):=LF.out wr.drew r (k+1) (aq hW.out.B) hlt (by omega) (by omega)
        have HCC:Hid (∀ w',Below T0 wr w'→w'.cell? ⟨gO,3,none⟩=some (.slice aC l.length cC)∧w'.frozen? ⟨gO,3,none⟩=false):=fun w' hb=>⟨(hW.out.KO.below hb (by omega)).cell 3,(hW.out.KO.below hb (by omega)).free 3⟩
        have hOC:=Oi hW.out.C;have hll:l.length≤64:=by
         rw [hP.out,yf];have:r * u≤7 * 8:=Nat.mul_le_mul (by omega) (by omega)
         omega
        have hKK:=HK0.out;have eK:IntKind.i64.wrap ((k:Int)+1)=(k:Int)+1:=IntWalk.i64_in _ (by omega)
        obtain ⟨d1,d2⟩:=HCC.out _ (Below.refl _ _);obtain ⟨x,hx⟩:∃ x,x=f r (k+1):=⟨_,rfl⟩;rw [← hx] at LF1;have HX:=Oi hx;clear hx;go_wp2_with fail
        go_region_law
         ((first
           | (go_simp;refine LF1.out.mono ?_;rintro e w6 ⟨rfl,hb6⟩;dsimp only;have hb7:Below wr.heap.size wr w6:=aa (aq (Below.refl wr.heap.size wr)) hb6;have hOC6:=aD hOC.out hb7;obtain ⟨f1,f2⟩:=HCC.out w6 (hb7.mono hTs);obtain ⟨f3,f4⟩:=HCC.out (w6.alloc (.cells #[.int .i64 x] 2)) ((hb7.mono hTs).alloc (Nat.le_trans hTs hb7.size) _))
           | (refine fc (wr:=w6) (by rfl) _ _ 24 (by rfl) T0 2 (.int .i64 0) 8 Tryz.underlying24 aZ (by rfl) _ l.length (ae l) (by rfl) hOC6 (.int .i64 x) rfl (by rfl) (by decide) (by omega) (Nat.le_trans hTs hb7.size) ?_;intro g8 c8 w8 ho8 hg8 hn8;have hb8:Below T0 wr w8:=(hb7.mono hTs).trans (ah (Below.refl T0 w6) hOC6 hg8 (Nat.le_refl _) (Nat.le_trans hTs hb7.size));obtain ⟨f5,f6⟩:=HCC.out w8 hb8)))
        all_goals
         have hW2:=Oi (hW.out.snoc (x:=x) (by omega) hgT (by omega) HGW.out hTs hb8 ho8)
         have hP2:Hid (l ++ [x]=iY f u r (k+1)):=by rw [Hid,vC,hP.out,HX.out]
         have hs8:T0≤(w8.setCell ⟨gO,3,none⟩ (.slice (some ⟨g8,0,none⟩) (l.length+1) c8)).heap.size:=by simp;exact Nat.le_trans hTs hb8.size
         clear hb6 hb7 hOC6 f1 f2 f3 f4 ho8 hg8 hn8 hb8 f5 f6;go_wp2_with fail;go_roundw
         case rel=>exact ⟨k+1,some ⟨g8,0,none⟩,c8,l ++ [x],by omega,by go_num,hP2.out,hW2,hs8⟩
         case measure=>first | (simp [intOf];done) | (simp [intOf];omega)
      · obtain rfl:k=u:=by omega
        have hP2:Hid (l=kd f k (r+1)):=by rw [Hid,← vy];exact hP.out
        clear hP;go_wp2_with fail;go_roundw
        case rel=>exact ⟨r+1,aC,cC,l,by omega,by go_num,hP2.out,hW.out,hTs⟩
        case measure=>first | (simp [intOf];done) | (simp [intOf];omega)
   · obtain rfl:r=n:=by omega
     have hrd:RdCrowd wo wo.heap.size aW x2 aC l:=⟨hW.out.W.rd.mono hTs,(ay hW.out.C (Nat.le_refl _)).mono (Nat.le_refl _)⟩;have hll:l.length≤64:=by
      rw [hL.out,pD];have:r * u≤8 * 8:=Nat.mul_le_mul (by omega) (by omega)
      omega
     have LV2:=Oi (dJ wo u r aW cW x2 aC cC l hrd (by omega) (by omega))
     have hCC:fk f ⟨(u:Int),(r:Int),x2,x3⟩=⟨(u:Int),(r:Int),x2,l⟩:=by unfold fk;rw [hL.out];simp
     have HCC2:=Oi hCC;rw [hCC] at HVT;rw [HVT.out] at LV2;have HRD:=Oi hrd;obtain ⟨k0',k1',k2',k3'⟩:wo.cell? ⟨gO,0,none⟩=some (.int .i64 u)∧wo.cell? ⟨gO,1,none⟩=some (.int .i64 r)∧wo.cell? ⟨gO,2,none⟩=some (.slice aW x2.length cW)∧wo.cell? ⟨gO,3,none⟩=some (.slice aC l.length cC):=⟨hW.out.KO.cell 0,hW.out.KO.cell 1,hW.out.KO.cell 2,hW.out.KO.cell 3⟩;clear hrd hCC hL HVT;rw [HCC2.out];go_wp2_with fail;refine LV2.out.mono ?_;rintro e w9 ⟨rfl,hb9⟩;have KO9:=hW.out.KO.same hb9;have KR9:=hW.out.KR.same hb9;have B9:=Oi (hW.out.B.trans (hb9.mono hW.out.B.size));have OW9:=Oi (hW.out.W.keep hb9);have OC9:Hid (OwnI 2 w9 T0 w9.heap.size aC cC l):=OwnI.of_own (aD hW.out.C hb9);have hT9:T0≤w9.heap.size:=Nat.le_trans hTs hb9.size;clear k0' k1' k2' k3' hb9;have k0':w9.cell? ⟨gO,0,none⟩=some (.int .i64 u):=KO9.cell 0;have k1':w9.cell? ⟨gO,1,none⟩=some (.int .i64 r):=KO9.cell 1;have k2':w9.cell? ⟨gO,2,none⟩=some (.slice aW x2.length cW):=KO9.cell 2;have k3':w9.cell? ⟨gO,3,none⟩=some (.slice aC l.length cC):=KO9.cell 3;have y0:w9.cell? ⟨w.heap.size+1,0,none⟩=some (.int .i64 0):=KR9.cell 0;have y1:w9.cell? ⟨w.heap.size+1,1,none⟩=some (.int .i64 0):=KR9.cell 1;have y2:w9.cell? ⟨w.heap.size+1,2,none⟩=some (.slice none 0 0):=KR9.cell 2;have y3:w9.cell? ⟨w.heap.size+1,3,none⟩=some (.slice none 0 0):=KR9.cell 3;have f0:=KR9.free 0;have f1:=KR9.free 1;have f2:=KR9.free 2;have f3:=KR9.free 3;have KRH:=Oi KR9;clear KO9 KR9 hW HRD;go_wp2_with fail;obtain ⟨wz,hwz⟩:∃ Y,Y=(((w9.setCell ⟨w.heap.size+1,0,none⟩ (.int .i64 u)).setCell ⟨w.heap.size+1,1,none⟩ (.int .i64 r)).setCell ⟨w.heap.size+1,2,none⟩ (.slice aW x2.length cW)).setCell ⟨w.heap.size+1,3,none⟩ (.slice aC l.length cC):=⟨_,rfl⟩;have KZ:Blk wz (w.heap.size+1) [.int .i64 u,.int .i64 r,.slice aW x2.length cW,.slice aC l.length cC] 30:=by rw [hwz];exact (((KRH.out.set 0 (.int .i64 u)).set 1 (.int .i64 r)).set 2 (.slice aW x2.length cW)).set 3 (.slice aC l.length cC)
     have OWZ:OwnI 2 wz lW T0 aW cW x2:=by rw [hwz];exact cy (cy (cy (cy OW9.out (by omega) _ _) (by omega) _ _) (by omega) _ _) (by omega) _ _
     have OCZ:OwnI 2 wz T0 w9.heap.size aC cC l:=by rw [hwz];exact cy (cy (cy (cy OC9.out (by omega) _ _) (by omega) _ _) (by omega) _ _) (by omega) _ _
     have sZ:wz.heap.size=w9.heap.size:=by rw [hwz];simp
     have BZ:Below w.heap.size w wz:=by rw [hwz];exact aw (aw (aw (aw B9.out (by omega) _ _) (by omega) _ _) (by omega) _ _) (by omega) _ _
     rw [← hwz];clear hwz k0' k1' k2' k3' y0 y1 y2 y3;have y0:wz.cell? ⟨w.heap.size+1,0,none⟩=some (.int .i64 u):=KZ.cell 0;have y1:wz.cell? ⟨w.heap.size+1,1,none⟩=some (.int .i64 r):=KZ.cell 1;have y2:wz.cell? ⟨w.heap.size+1,2,none⟩=some (.slice aW x2.length cW):=KZ.cell 2;have y3:wz.cell? ⟨w.heap.size+1,3,none⟩=some (.slice aC l.length cC):=KZ.cell 3;refine bodyPost_ret (v:=.tuple #[.agg #[.int .i64 u,.int .i64 r,.slice aW x2.length cW,.slice aC l.length cC],.bool true]) (by simp [results,Tryz.results184,go_sem,y0,y1,y2,y3]) rfl ?_
     rw [HCC2.out];exact ⟨aW,cW,aC,cC,rfl,⟨OWZ.mono (by omega) (by omega),OCZ.mono (by omega) (by omega)⟩,BZ⟩
theorem Dw (w:World) (U:Int) (n:Nat) (a2:Option Addr) (c2:Nat) (x2:List Int) (a3:Option Addr) (c3:Nat) (x3:List Int) (a:Option Addr) (c:Nat) (ch:List Int) (h:RdCrowd w w.heap.size a2 x2 a3 x3) (hl2:x2.length≤1048576) (hl3:x3.length≤1048576) (g:Rd w w.heap.size a (ae ch)) (hcb:jh ⟨U,n,x2,x3⟩ ch=true) :
 Calls Tryz.prog 201 #[.agg #[.int .i64 U,.int .i64 n,.slice a2 x2.length c2,.slice a3 x3.length c3],.slice a ch.length c] w fun e w'=>e=.returned (.tuple #[.int .i64 (cP ⟨U,n,x2,x3⟩ ch),.bool true])∧Below w.heap.size w w':=by
 have hc:=zV hcb;have hU8:=hc.v.u8;have hlen:=hc.len;simp only at hU8 hlen;have LC:=Oi (fun w' hb=>qn w' U n a2 c2 x2 a3 c3 x3 a c ch (h.to hb) hl2 hl3 (g.to hb) (by omega))
 rw [hcb] at LC;have LM:=Oi (fun (w':World) (hb:Below w.heap.size w w')=>su w' U n a2 c2 x2 a3 c3 x3 a c ch (h.to hb) (g.to hb) hc)
 have HC:=Oi hc;have HH:=Oi h;clear h g hc hcb hlen
 go_enter Tryz.func201,Tryz.ntmps201;go_wp2_with fail;refine (LC.out _ (ai _ _)).mono ?_;rintro e w1 ⟨rfl,hb1⟩;have KB:=(Blk.new w [.int .i64 U,.int .i64 n,.slice a2 x2.length c2,.slice a3 x3.length c3] 30).same hb1;have B1:=aa (ai w (.cells #[.int .i64 U,.int .i64 n,.slice a2 x2.length c2,.slice a3 x3.length c3] 30)) hb1;have q0:w1.cell? ⟨w.heap.size,0,none⟩=some (.int .i64 U):=KB.cell 0;have q1:w1.cell? ⟨w.heap.size,1,none⟩=some (.int .i64 n):=KB.cell 1;have q2:w1.cell? ⟨w.heap.size,2,none⟩=some (.slice a2 x2.length c2):=KB.cell 2;have q3:w1.cell? ⟨w.heap.size,3,none⟩=some (.slice a3 x3.length c3):=KB.cell 3;have KBH:=Oi KB;have HB1:=Oi B1;clear hb1 LC KB B1;obtain ⟨t,ht⟩:∃ t,t=cP ⟨U,n,x2,x3⟩ ch:=⟨_,rfl⟩;rw [← ht] at LM;have HT:=Oi ht;clear ht;go_wp2_with fail;refine (LM.out _ HB1.out).mono ?_;rintro e w2 ⟨rfl,hb2⟩;have B2:=Oi (aa HB1.out hb2);clear hb2 q0 q1 q2 q3;go_wp2_with fail
 go_ret2
 exact ⟨by rw [← HT.out];rfl,B2.out⟩
theorem tH (args:Array Value) (w:World):(callFunc 185 args).run Tryz.prog w=.ok (.enter 185 args) w:=by kernel_rfl
theorem Dv (w:World) (u n:Nat) (a2:Option Addr) (c2:Nat) (x2:List Int) (a3:Option Addr) (c3:Nat) (x3:List Int) (h:RdCrowd w w.heap.size a2 x2 a3 x3) (hvb:bu ⟨u,n,x2,x3⟩=true) (hvt:bu (fk (fM ⟨u,n,x2,x3⟩) ⟨u,n,x2,x3⟩)=true) (hl2:x2.length≤1048576) (hl3:x3.length≤1048576) :
 Calls Tryz.prog 132 #[.agg #[.int .i64 u,.int .i64 n,.slice a2 x2.length c2,.slice a3 x3.length c3]] w (Ew (fk (fM ⟨u,n,x2,x3⟩) ⟨u,n,x2,x3⟩) w):=by
 have B0:=cd w (.cells #[.int .i64 u,.int .i64 n,.slice a2 x2.length c2,.slice a3 x3.length c3] 30) (.cells #[.int .i64 0,.int .i64 0,.slice none 0 0,.slice none 0 0] 30);have KB0:=(Blk.new w [.int .i64 u,.int .i64 n,.slice a2 x2.length c2,.slice a3 x3.length c3] 30).same (ai _ (.cells #[.int .i64 0,.int .i64 0,.slice none 0 0,.slice none 0 0] 30));have LT:=Oi (Gm ((w.alloc (.cells #[.int .i64 u,.int .i64 n,.slice a2 x2.length c2,.slice a3 x3.length c3] 30)).alloc (.cells #[.int .i64 0,.int .i64 0,.slice none 0 0,.slice none 0 0] 30)) 185 #[.pointer (some ⟨w.heap.size,0,none⟩)] tH (fM ⟨u,n,x2,x3⟩) u n a2 c2 x2 a3 c3 x3 (h.to B0) hvb hvt hl2 hl3 (fun w' r k hb hr h1 h2=>we w' w.heap.size u n r k a2 c2 x2 a3 c3 x3 (KB0.same hb) (h.to (aa B0 hb)) (em hvb) hr h1 (by omega)))
 have KR0:=Oi (sF (Blk.new (w.alloc (.cells #[.int .i64 u,.int .i64 n,.slice a2 x2.length c2,.slice a3 x3.length c3] 30)) [.int .i64 0,.int .i64 0,.slice none 0 0,.slice none 0 0] 30));have HB0:=Oi B0;clear h hvb hvt KB0 B0;generalize hC:fk (fM ⟨u,n,x2,x3⟩) ⟨u,n,x2,x3⟩=C at *
 clear hC
 go_enter Tryz.func132,Tryz.ntmps132;go_wp2_with fail;refine LT.out.mono ?_;rintro e w2 ⟨a2',c2',a3',c3',rfl,⟨o2,o3⟩,hb2⟩;have KR2:=Oi (KR0.out.same hb2);have B2:=Oi (aa HB0.out hb2);have s2:=HB0.out.size;have s3:=hb2.size;simp at s3 o2 o3
 have O2:=Oi o2;have O3:=Oi o3;have y0:w2.cell? ⟨w.heap.size+1,0,none⟩=some (.int .i64 0):=KR2.out.cell 0;have y1:w2.cell? ⟨w.heap.size+1,1,none⟩=some (.int .i64 0):=KR2.out.cell 1;have y2:w2.cell? ⟨w.heap.size+1,2,none⟩=some (.slice none 0 0):=KR2.out.cell 2;have y3:w2.cell? ⟨w.heap.size+1,3,none⟩=some (.slice none 0 0):=KR2.out.cell 3;have f0:=KR2.out.free 0;have f1:=KR2.out.free 1;have f2:=KR2.out.free 2;have f3:=KR2.out.free 3;clear hb2 KR0 LT o2 o3;go_wp2_with fail;obtain ⟨wz,hwz⟩:∃ Y,Y=(((w2.setCell ⟨w.heap.size+1,0,none⟩ (.int .i64 C.U)).setCell ⟨w.heap.size+1,1,none⟩ (.int .i64 C.R)).setCell ⟨w.heap.size+1,2,none⟩ (.slice a2' C.ways.length c2')).setCell ⟨w.heap.size+1,3,none⟩ (.slice a3' C.costs.length c3'):=⟨_,rfl⟩;have KZ:Blk wz (w.heap.size+1) [.int .i64 C.U,.int .i64 C.R,.slice a2' C.ways.length c2',.slice a3' C.costs.length c3'] 30:=by rw [hwz];exact (((KR2.out.set 0 (.int .i64 C.U)).set 1 (.int .i64 C.R)).set 2 (.slice a2' C.ways.length c2')).set 3 (.slice a3' C.costs.length c3')
 have OWZ:OwnI 2 wz (w.heap.size+1+1) w2.heap.size a2' c2' C.ways:=by rw [hwz];exact cy (cy (cy (cy O2.out (by omega) _ _) (by omega) _ _) (by omega) _ _) (by omega) _ _
 have OCZ:OwnI 2 wz (w.heap.size+1+1) w2.heap.size a3' c3' C.costs:=by rw [hwz];exact cy (cy (cy (cy O3.out (by omega) _ _) (by omega) _ _) (by omega) _ _) (by omega) _ _
 have sZ:wz.heap.size=w2.heap.size:=by rw [hwz];simp
 have BZ:Below w.heap.size w wz:=by rw [hwz];exact aw (aw (aw (aw B2.out (by omega) _ _) (by omega) _ _) (by omega) _ _) (by omega) _ _
 rw [← hwz];clear hwz y0 y1 y2 y3;have y0:wz.cell? ⟨w.heap.size+1,0,none⟩=some (.int .i64 C.U):=KZ.cell 0;have y1:wz.cell? ⟨w.heap.size+1,1,none⟩=some (.int .i64 C.R):=KZ.cell 1;have y2:wz.cell? ⟨w.heap.size+1,2,none⟩=some (.slice a2' C.ways.length c2'):=KZ.cell 2;have y3:wz.cell? ⟨w.heap.size+1,3,none⟩=some (.slice a3' C.costs.length c3'):=KZ.cell 3;refine bodyPost_ret (v:=.tuple #[.agg #[.int .i64 C.U,.int .i64 C.R,.slice a2' C.ways.length c2',.slice a3' C.costs.length c3'],.bool true]) (by simp [results,Tryz.results132,go_sem,y0,y1,y2,y3]) rfl ?_
 exact ⟨a2',c2',a3',c3',rfl,⟨OWZ.mono (by omega) (by omega),OCZ.mono (by omega) (by omega)⟩,BZ⟩
def oR (s:List UInt8) (xs:List Int) (f:DD→Option (List UInt8)):Prop :=
 ∀ (w:World) (b:Nat) (d:DD) (x:DA) (a:Option Addr) (c:Nat),Env w→d.ok=true→Blk w b (d.cells x) 33→DRd w w.heap.size d x→Rd w w.heap.size a (ae xs)→Calls Tryz.prog 136 #[.pointer (some ⟨b,0,none⟩),.string (bs s),.slice a xs.length c] w (RetTn (f d) w)
theorem RetTn.of (r:Option (List UInt8)) {w w':World} (h:Below w.heap.size w w'):RetTn r w (.returned (.tuple #[.string (bs (r.getD [])),.bool r.isSome])) w':=⟨h,_,rfl,fun l hl=>by rw [hl];rfl⟩
theorem L9 {w:World} (ht:Tab w) (w1:World) (hb:Below w.heap.size w w1) :
 Calls Tryz.prog 102 #[.bool false,.slice (some ⟨w1.heap.size,0,none⟩) 1 1] (w1.alloc (.cells #[.slice none 0 0] 24)) (kH none w):=by
 have B1:=ai w1 (.cells #[.slice none 0 0] 24);have B2:=aa hb B1;refine (gK (w1.alloc (.cells #[.slice none 0 0] 24)) (ht.to B2) false (some ⟨w1.heap.size,0,none⟩) 1 [[]] (FU (Blk.new w1 [.slice none 0 0] 24) (.inl rfl)) (by simp) (fun x hx=>by simp at hx;subst hx;simp)).mono ?_
 rintro e w2 ⟨hb2,rfl⟩;exact ⟨aa B2 hb2,rfl⟩
theorem M4 {P T:Nat} {V ow l:List Int} (h:lH P T V ow=some l):l.length≤P * P:=by
 unfold lH at h
 split at h
 · injection h with h;subst h;exact Nat.le_of_eq (vT _ _ _ _ _)
 · cases h
theorem Lg {P T:Nat} {V ow l:List Int} (h:qX P T V ow=some l):l.length=T:=by
 unfold qX at h
 split at h
 · injection h with h;subst h;exact lk _ _ _ _
 · cases h
theorem BR {c:Cr} {ch l:List Int} {m:Int} (h:lj c ch=some (l,m)) (hl:ch.length≤64):l.length≤1048576∧-9223372036854775808≤m∧m≤9223372036854775807:=by
 cases hb:jh c ch with
 | false=>rw [yq hb] at h;cases h
 | true =>
   rw [vJ hb] at h;injection h with h
   injection h with h1 h2
   subst h1 h2;have hc:=zV hb;have e:=IV hc;have g:=(qV hc).2.2;have b1:=mG hc;unfold eV at g;refine ⟨by omega,by omega,by omega⟩
def jU (r:Option (List Int)):Option (List UInt8):=match r with
 | none=>none
 | some l=>eE [l]
def nc (r:Option (List Int × Int)):Option (List UInt8):=match r with
 | none=>none
 | some (l,n)=>qK true l n
theorem Gk (w:World) (U:Int) (n:Int) (a2:Option Addr) (c2:Nat) (x2:List Int) (a3:Option Addr) (c3:Nat) (x3:List Int) (a:Option Addr) (c:Nat) (ch:List Int) (h:RdCrowd w w.heap.size a2 x2 a3 x3) (hl2:x2.length≤1048576) (hl3:x3.length≤1048576) (g:Rd w w.heap.size a (ae ch)) (hl:ch.length≤1048576) (hcb:jh ⟨U,n,x2,x3⟩ ch=false) :
 Calls Tryz.prog 201 #[.agg #[.int .i64 U,.int .i64 n,.slice a2 x2.length c2,.slice a3 x3.length c3],.slice a ch.length c] w fun e w'=>e=.returned (.tuple #[.int .i64 0,.bool false])∧Below w.heap.size w w':=by
 have LC:=Oi (fun w' hb=>qn w' U n a2 c2 x2 a3 c3 x3 a c ch (h.to hb) hl2 hl3 (g.to hb) hl)
 rw [hcb] at LC;clear h g hcb hl hl2 hl3
 go_enter Tryz.func201,Tryz.ntmps201;go_wp2_with fail;refine (LC.out _ (ai _ _)).mono ?_;rintro e w1 ⟨rfl,hb1⟩;have B1:=Oi (aa (ai w (.cells #[.int .i64 U,.int .i64 n,.slice a2 x2.length c2,.slice a3 x3.length c3] 30)) hb1);clear hb1 LC;go_wp2_with fail
 go_ret2
 exact ⟨rfl,B1.out⟩
def nI:List UInt8:=[116,97,107,101]
theorem Ic (xs:List Int) (hxs:xs.length≤64):oR nI xs (fun d=>jU (qX d.P.toNat d.T.toNat d.V xs)):=by
 intro w b d x a c hE hok hB hR hX;dsimp only;obtain ⟨⟨a1,a2⟩,⟨b1,b2⟩,⟨v1,v2⟩,⟨l1,l2⟩,⟨k1,k2⟩,f1,f2⟩:=DD.ok_len hok;obtain ⟨hg,hv,hc,ht⟩:=DD.ok_parts hok;obtain ⟨R,C,A,B,dP,dT,V,U,N,W,K,F⟩:=d;obtain ⟨P,T,e1,e2,p1,p6,t1,t8,lV,-⟩:=db hv;dsimp only at e1 e2 p1 p6 t1 t8 lV;subst e1 e2;have LG:=Oi (zk w P T x.v x.cv V a c xs hv hR.r.V hX (by omega))
 dsimp only [Int.toNat_natCast];obtain ⟨r,hr⟩:∃ r,r=qX P T V xs:=⟨_,rfl⟩;rw [← hr] at LG ⊢;have HL:Hid (∀ l,r=some l→l.length≤1048576):=fun l hl=>by have h8:T≤8:=t8;rw [hr] at hl;have:=Lg hl;omega
 clear hr;have HT:=Oi hE.tab;unfold sD at LG;obtain ⟨z0,z1,z2,z3,z4,z5,z6,z7,z8,z9,z10,z11⟩:=af hB
 try dsimp only at z0 z1 z2 z3 z4 z5 z6 z7 z8 z9 z10 z11
 have HE:=Oi hE;clear hB hR hE hok a1 a2 b1 b2 v1 v2 l1 l2 k1 k2 f1 f2 hg hv hc ht hX hxs p1 p6 t1 t8 lV;obtain ⟨s,hs⟩:∃ s:ByteArray,s=bs nI:=⟨_,rfl⟩;have t_take:(s.toList == [116,97,107,101])=true:=by rw [hs,ab];rfl
 rw [← hs];clear hs
 go_enter Tryz.func136,Tryz.ntmps136;go_wp2_with fail;refine LG.out.mono ?_
 cases r with
 | none =>
   rintro e w1 ⟨hb,rfl⟩;have LT1:=Oi (L9 HT.out w1 hb);clear hb;go_wp2_with fail;refine LT1.out.mono ?_;rintro e w2 ⟨hb2,rfl⟩;go_wp2_with fail
   go_ret2
   exact RetTn.of none hb2
 | some l =>
   rintro e w1 ⟨hb,a',c',rfl,hr⟩;have LT1:=Oi (ti HT.out l (HL.out l rfl) w1 hb a' c' hr);clear hb hr;go_wp2_with fail;refine LT1.out.mono ?_;rintro e w2 ⟨hb2,rfl⟩;go_wp2_with fail
   go_ret2
   exact RetTn.of (eE [l]) hb2
def nG:List UInt8:=[101,110,118,121]
theorem Ia (xs:List Int) (hxs:xs.length≤64):oR nG xs (fun d=>jU (lH d.P.toNat d.T.toNat d.V xs)):=by
 intro w b d x a c hE hok hB hR hX;dsimp only;obtain ⟨⟨a1,a2⟩,⟨b1,b2⟩,⟨v1,v2⟩,⟨l1,l2⟩,⟨k1,k2⟩,f1,f2⟩:=DD.ok_len hok;obtain ⟨hg,hv,hc,ht⟩:=DD.ok_parts hok;obtain ⟨R,C,A,B,dP,dT,V,U,N,W,K,F⟩:=d;obtain ⟨P,T,e1,e2,p1,p6,t1,t8,lV,-⟩:=db hv;dsimp only at e1 e2 p1 p6 t1 t8 lV;subst e1 e2;have LG:=Oi (yU w P T x.v x.cv V a c xs hv hR.r.V hX (by omega))
 dsimp only [Int.toNat_natCast];obtain ⟨r,hr⟩:∃ r,r=lH P T V xs:=⟨_,rfl⟩;rw [← hr] at LG ⊢;have HL:Hid (∀ l,r=some l→l.length≤1048576):=fun l hl=>by have h8:P≤6:=p6;rw [hr] at hl;have:=M4 hl;have:=Nat.mul_le_mul h8 h8;omega
 clear hr;have HT:=Oi hE.tab;unfold sD at LG;obtain ⟨z0,z1,z2,z3,z4,z5,z6,z7,z8,z9,z10,z11⟩:=af hB
 try dsimp only at z0 z1 z2 z3 z4 z5 z6 z7 z8 z9 z10 z11
 have HE:=Oi hE;clear hB hR hE hok a1 a2 b1 b2 v1 v2 l1 l2 k1 k2 f1 f2 hg hv hc ht hX hxs p1 p6 t1 t8 lV;obtain ⟨s,hs⟩:∃ s:ByteArray,s=bs nG:=⟨_,rfl⟩;have t_take:(s.toList == [116,97,107,101])=false:=by rw [hs,ab];rfl
 have t_envy:(s.toList == [101,110,118,121])=true:=by rw [hs,ab];rfl
 rw [← hs];clear hs
 go_enter Tryz.func136,Tryz.ntmps136;go_wp2_with fail;refine LG.out.mono ?_
 cases r with
 | none =>
   rintro e w1 ⟨hb,rfl⟩;have LT1:=Oi (L9 HT.out w1 hb);clear hb;go_wp2_with fail;refine LT1.out.mono ?_;rintro e w2 ⟨hb2,rfl⟩;go_wp2_with fail
   go_ret2
   exact RetTn.of none hb2
 | some l =>
   rintro e w1 ⟨hb,a',c',rfl,hr⟩;have LT1:=Oi (ti HT.out l (HL.out l rfl) w1 hb a' c' hr);clear hb hr;go_wp2_with fail;refine LT1.out.mono ?_;rintro e w2 ⟨hb2,rfl⟩;go_wp2_with fail
   go_ret2
   exact RetTn.of (eE [l]) hb2
def nH:List UInt8:=[114,101,115,116]
theorem Ib (xs:List Int) (hxs:xs.length≤64):oR nH xs (fun d=>nc (lj ⟨d.U,d.N,d.W,d.K⟩ xs)):=by
 intro w b d x a c hE hok hB hR hX;dsimp only;obtain ⟨⟨a1,a2⟩,⟨b1,b2⟩,⟨v1,v2⟩,⟨l1,l2⟩,⟨k1,k2⟩,f1,f2⟩:=DD.ok_len hok;obtain ⟨hg,hv,hc,ht⟩:=DD.ok_parts hok;have LG:=Oi (F4 w d.U d.N x.w x.cw d.W x.k x.ck d.K a c xs ⟨hR.r.W,hR.r.C⟩ (by omega) (by omega) hX (by omega))
 obtain ⟨r,hr⟩:∃ r,r=lj ⟨d.U,d.N,d.W,d.K⟩ xs:=⟨_,rfl⟩;rw [← hr] at LG ⊢;have HL:Hid (∀ l m,r=some (l,m)→l.length≤1048576∧-9223372036854775808≤m∧m≤9223372036854775807):=fun l m hl=>by rw [hr] at hl;exact BR hl (by omega)
 clear hr;have HT:=Oi hE.tab;unfold RetT at LG;obtain ⟨z0,z1,z2,z3,z4,z5,z6,z7,z8,z9,z10,z11⟩:=af hB
 try dsimp only at z0 z1 z2 z3 z4 z5 z6 z7 z8 z9 z10 z11
 have HE:=Oi hE;clear hB hR hE hok a1 a2 b1 b2 v1 v2 l1 l2 k1 k2 f1 f2 hg hv hc ht hX hxs;obtain ⟨s,hs⟩:∃ s:ByteArray,s=bs nH:=⟨_,rfl⟩;have t_take:(s.toList == [116,97,107,101])=false:=by rw [hs,ab];rfl
 have t_envy:(s.toList == [101,110,118,121])=false:=by rw [hs,ab];rfl
 have t_rest:(s.toList == [114,101,115,116])=true:=by rw [hs,ab];rfl
 rw [← hs];clear hs
 go_enter Tryz.func136,Tryz.ntmps136;go_wp2_with fail;refine LG.out.mono ?_
 cases r with
 | none =>
   rintro e w1 ⟨hb,rfl⟩;have LT1:=Oi (jF w1 (HT.out.to hb) false none 0 [] 0 (.inl rfl) (by simp) (by omega) (by omega))
   rw [List.length_nil] at LT1;have HB:=Oi hb;clear hb;go_wp2_with fail;refine LT1.out.mono ?_;rintro e w2 ⟨hb2,t,rfl,ht⟩;go_wp2_with fail
   go_ret2
   exact ⟨aa HB.out hb2,t,rfl,fun l hl=>by cases hl⟩
 | some p =>
   obtain ⟨l,m⟩:=p;rintro e w1 ⟨hb,a',c',rfl,hr⟩;obtain ⟨h1,h2,h3⟩:=HL.out l m rfl;have LT1:=Oi (jF w1 (HT.out.to hb) true a' c' l m (ay hr (Nat.le_refl _)) h1 h2 h3);have HB:=Oi hb;clear hb hr h1 h2 h3;go_wp2_with fail;refine LT1.out.mono ?_;rintro e w2 ⟨hb2,t,rfl,ht⟩;go_wp2_with fail
   go_ret2
   exact ⟨aa HB.out hb2,t,rfl,ht⟩
def lq:List UInt8:=[116,111,116,97,108]
theorem Fg (xs:List Int) (hxs:xs.length≤64):oR lq xs (fun d=>if jh ⟨d.U,d.N,d.W,d.K⟩ xs then some (Lib.itoa (cP ⟨d.U,d.N,d.W,d.K⟩ xs)) else none):=by
 intro w b d x a c hE hok hB hR hX;dsimp only;obtain ⟨⟨a1,a2⟩,⟨b1,b2⟩,⟨v1,v2⟩,⟨l1,l2⟩,⟨k1,k2⟩,f1,f2⟩:=DD.ok_len hok;obtain ⟨hg,hv,hc,ht⟩:=DD.ok_parts hok;have LD:=Oi (fun v (hb:Below w.heap.size w v) (n:Int) h0 h1=>iO v (hE.tab.to hb) n h0 h1)
 obtain ⟨n,hn⟩:∃ n:Nat,d.N=(n:Int):=⟨d.N.toNat,by have:=(em hc).r1;simp only at this;omega⟩;have hX':=hX;rw [hn] at hc ⊢;have LN:=Oi (Gk w d.U n x.w x.cw d.W x.k x.ck d.K a c xs ⟨hR.r.W,hR.r.C⟩ (by omega) (by omega) hX (by omega))
 have LY:=Oi (Dw w d.U n x.w x.cw d.W x.k x.ck d.K a c xs ⟨hR.r.W,hR.r.C⟩ (by omega) (by omega) hX)
 have HT:=Oi (uH (em hc) xs);obtain ⟨z0,z1,z2,z3,z4,z5,z6,z7,z8,z9,z10,z11⟩:=af hB
 try dsimp only at z0 z1 z2 z3 z4 z5 z6 z7 z8 z9 z10 z11
 have HE:=Oi hE;rw [hn] at z8;clear hX' hn;generalize cP ⟨d.U,n,d.W,d.K⟩ xs=m at *
 clear hB hR hE hok a1 a2 b1 b2 v1 v2 l1 l2 k1 k2 f1 f2 hg hv hc ht hX hxs;obtain ⟨s,hs⟩:∃ s:ByteArray,s=bs lq:=⟨_,rfl⟩;have t_take:(s.toList == [116,97,107,101])=false:=by rw [hs,ab];rfl
 have t_envy:(s.toList == [101,110,118,121])=false:=by rw [hs,ab];rfl
 have t_rest:(s.toList == [114,101,115,116])=false:=by rw [hs,ab];rfl
 rw [← hs];clear hs
 cases hq:jh ⟨d.U,n,d.W,d.K⟩ xs with
 | false =>
   have L:=Oi (LN.out hq);rw [if_neg (by decide)]
   clear LN LY hq
   go_enter Tryz.func136,Tryz.ntmps136;go_wp2_with fail;refine L.out.mono ?_;rintro e w1 ⟨rfl,hb⟩;have LD1:=Oi (LD.out w1 hb 0 (by omega) (by omega))
   have HB:=Oi hb;clear hb LD;go_wp2_with fail;refine LD1.out.mono ?_;rintro e w2 ⟨rfl,hb2⟩;go_wp2_with fail
   go_ret2
   exact ⟨aa HB.out hb2,_,rfl,fun l hl=>by cases hl⟩
 | true =>
   have L:=Oi (LY.out hq);rw [if_pos rfl];clear LN LY hq
   go_enter Tryz.func136,Tryz.ntmps136;go_wp2_with fail;refine L.out.mono ?_;rintro e w1 ⟨rfl,hb⟩;have LD1:=Oi (LD.out w1 hb m (by have:=HT.out;omega) (by have:=HT.out;omega))
   have HB:=Oi hb;clear hb LD;go_wp2_with fail;refine LD1.out.mono ?_;rintro e w2 ⟨rfl,hb2⟩;go_wp2_with fail
   go_ret2
   exact ⟨aa HB.out hb2,_,rfl,fun l hl=>by injection hl with hl;subst hl;rfl⟩
end Go.Proofs.YtbknhgapjjaelaaGreatDoor
