/-
  Part 38 of what the proof stands on: lemmas and contracts, each with its conditions ahead of the colon.
-/
import Derived.Test.YtbknhgapjjaelaaGreatDoorPj01
import Derived.Deep.RegionHeld3
import Derived.Deep.DeepCutAuto
import Derived.Test.YtbknhgapjjaelaaGreatDoorPj02
import Derived.Test.YtbknhgapjjaelaaGreatDoorPj10
import Derived.Test.YtbknhgapjjaelaaGreatDoorPj11
import Derived.Test.YtbknhgapjjaelaaGreatDoorPj14
import Derived.Test.YtbknhgapjjaelaaGreatDoorPj26
set_option maxRecDepth 10000
set_option maxHeartbeats 32000000
namespace Go.Proofs.YtbknhgapjjaelaaGreatDoor
set_option linter.unusedVariables false
set_option linter.unusedSimpArgs false
open Go.RowKit
theorem Fa (w:World) (R C n:Int) (vA vB:Value) (h1:1≤R) (h6:R≤6):Calls Tryz.prog 139 #[.agg #[.int .i64 R,.int .i64 C,vA,vB],.int .i64 n] w fun e w'=>e=.returned (.bool (eG n 0 (R - 1)))∧Below w.heap.size w w':=by
 have K:=Blk.new w [.int .i64 R,.int .i64 C,vA,vB] 26;have c0:(w.alloc (.cells #[.int .i64 R,.int .i64 C,vA,vB] 26)).cell? ⟨w.heap.size,0,none⟩=some (.int .i64 R):=K.cell 0;have hb:=Oi (ai w (.cells #[.int .i64 R,.int .i64 C,vA,vB] 26));have LW:=Oi (fun v=>dm n 0 (R - 1) v)
 clear K
 go_enter Tryz.func139,Tryz.ntmps139;go_wp2_with fail;refine (LW.out _).mono ?_;rintro e w1 ⟨rfl,rfl⟩;go_wp2_with fail;go_ret;exact ⟨rfl,hb.out⟩
theorem yZ (w:World) (R C n:Int) (vA vB:Value) (h1:1≤C) (h6:C≤6):Calls Tryz.prog 140 #[.agg #[.int .i64 R,.int .i64 C,vA,vB],.int .i64 n] w fun e w'=>e=.returned (.bool (eG n 0 (C - 1)))∧Below w.heap.size w w':=by
 have K:=Blk.new w [.int .i64 R,.int .i64 C,vA,vB] 26;have c0:(w.alloc (.cells #[.int .i64 R,.int .i64 C,vA,vB] 26)).cell? ⟨w.heap.size,1,none⟩=some (.int .i64 C):=K.cell 1;have hb:=Oi (ai w (.cells #[.int .i64 R,.int .i64 C,vA,vB] 26));have LW:=Oi (fun v=>dm n 0 (C - 1) v)
 clear K
 go_enter Tryz.func140,Tryz.ntmps140;go_wp2_with fail;refine (LW.out _).mono ?_;rintro e w1 ⟨rfl,rfl⟩;go_wp2_with fail;go_ret;exact ⟨rfl,hb.out⟩
def gZ (R C:Nat) (xA xB:List Int) (n k:Int):Option (List Int):=if (eG n 0 ((R:Int) - 1) && eG k 0 ((C:Int) - 1))=true then some (mJ R C xA xB n.toNat k.toNat) else none
theorem DH {T lo hi:Nat} {w:World} {a:Option Addr} {c:Nat} {xs:List Int} {j:Nat} (h:OwnI T w lo hi a c xs) (hl:1≤xs.length) (hj:xs.getD 0 0=(j:Int)):∃ g,a=some ⟨g,0,none⟩∧w.cell? ⟨g,0,none⟩=some (.int .i64 j)∧g<w.heap.size:=by
 obtain ⟨h1,h2⟩:=h;obtain ⟨hn,h3 | ⟨g,cap,cur,hv,hb,hh,hcap,hm,hs,ht⟩⟩:=h1
 · omega
 · injection hv with ha _ _
   refine ⟨g,ha,?_,lt_of_block hh⟩
   have hR:=(show w.ownsRow lo T 1 (.slice (some ⟨g,0,none⟩) xs.length cap) xs.length (ae xs) from ⟨hn,.inr ⟨g,cap,cur,rfl,hb,hh,hcap,hm,hs,ht⟩⟩)
   have:=hR.cells (g:=g) rfl 0 (.int .i64 j) (by rw [eJ xs 0 (by omega),hj])
   simpa [Addr.add] using this
structure SpS (w wr:World) (g gO lo:Nat) (cG:List Value) (R C:Nat) (aT:Option Addr) (cT:Nat) (lT:List Int) (vS:Value) (v:Value) (out:List Int):Prop where
 G:Blk wr g cG 26
 O:Blk wr gO [.int .i64 C,.int .i64 R,.slice aT lT.length cT,vS] 26
 T:Rd wr lo aT (ae lT)
 B:Below w.heap.size w wr
 own:wr.ownsRow lo 2 1 v out.length (ae out)
 gl:g<lo
 ol:gO<lo
 wl:w.heap.size≤lo
 sz:lo≤wr.heap.size
theorem SpS.same {w wr wx:World} {g gO lo R C cT:Nat} {cG:List Value} {aT:Option Addr} {lT out:List Int} {vS v:Value} (h:SpS w wr g gO lo cG R C aT cT lT vS v out) (hb:Below wr.heap.size wr wx):SpS w wx g gO lo cG R C aT cT lT vS v out :=
 ⟨h.G.same hb,h.O.same hb,h.T.below hb h.sz,aa h.B hb,aD h.own hb,h.gl,h.ol,h.wl,Nat.le_trans h.sz hb.size⟩
theorem SpS.more {w wr wx:World} {g gO lo R C cT:Nat} {cG:List Value} {aT:Option Addr} {lT out:List Int} {vS v v':Value} {x:Int} (h:SpS w wr g gO lo cG R C aT cT lT vS v out) (ho:wx.ownsRow lo 2 1 v' (out.length+1) (ae out ++ [.int .i64 x])) (hg:wr.grownBy wx v.ownBlock):SpS w wx g gO lo cG R C aT cT lT vS v' (out ++ [x]):=by
 have hb:Below lo wr wx:=ah (Below.refl lo wr) h.own hg (Nat.le_refl _) h.sz;refine ⟨h.G.below hb h.gl,h.O.below hb h.ol,h.T.below hb (Nat.le_refl _),h.B.trans (hb.mono h.wl),?_,h.gl,h.ol,h.wl,Nat.le_trans h.sz hb.size⟩
 rw [bk,List.length_append];exact ho
theorem I6 (w:World) (R C:Nat) (aA:Option Addr) (cA:Nat) (xA:List Int) (aB:Option Addr) (cB:Nat) (xB:List Int) (n c:Int) (hG:cZ R C xA xB=true) (hA:Rd w w.heap.size aA (ae xA)) (hB:Rd w w.heap.size aB (ae xB)) :
 Calls Tryz.prog 101 #[.agg #[.int .i64 R,.int .i64 C,.slice aA xA.length cA,.slice aB xB.length cB],.int .i64 n,.int .i64 c] w (sD (gZ R C xA xB n c) w):=by
 have hG':=hG;obtain ⟨R',C',e1,e2,r1,r6,c1,c6,lA,lB,bA,bB⟩:=eH hG';obtain rfl:R=R':=Int.ofNat.inj e1;obtain rfl:C=C':=Int.ofNat.inj e2;have hRC:R * C≤6 * 6:=Nat.mul_le_mul r6 c6;have HB1:=Oi (ai w (.cells #[.int .i64 R,.int .i64 C,.slice aA xA.length cA,.slice aB xB.length cB] 26));have KG:=Oi (Blk.new w [.int .i64 R,.int .i64 C,.slice aA xA.length cA,.slice aB xB.length cB] 26);have LV:=Oi (fun v (hb:Below w.heap.size w v)=>ef v R C aA cA xA aB cB xB ⟨hA.to hb,hB.to hb⟩ (by omega) (by omega))
 rw [hG] at LV;have LW:=Oi (fun v=>Fa v R C n (.slice aA xA.length cA) (.slice aB xB.length cB) (by omega) (by omega))
 have LX:=Oi (fun v=>yZ v R C c (.slice aA xA.length cA) (.slice aB xB.length cB) (by omega) (by omega))
 have LT:=Oi (fun v (hb:Below w.heap.size w v)=>jM v R C aA cA xA aB cB xB (hA.to hb) (hB.to hb) lA lB r6 c6)
 unfold Ev at LT;have LB1:=Oi (fun v (hb:Below w.heap.size w v) (k:Nat) (hk:k<C)=>kL v R C k aA cA xA aB xB.length cB (hA.to hb) (by omega) lA r6 c6 hk)
 have LA:=Oi (fun v (hb:Below w.heap.size w v) (i k:Nat) (hi:i<R) (hk:k<C)=>ou v R C i k aA cA xA (.slice aB xB.length cB) (hA.to hb) (by rw [lA];exact dH hi hk) (by omega))
 have LBB:=Oi (fun v (hb:Below w.heap.size w v) (i k:Nat) (hi:i<R) (hk:k<C)=>At v R C i k (.slice aA xA.length cA) aB cB xB (hB.to hb) (by rw [lB];exact dH hi hk) (by omega))
 cases hr:eG n 0 ((R:Int) - 1) with
 | false =>
   have hF:Hid (gZ R C xA xB n c=none):=by rw [Hid];unfold gZ;rw [hr];rfl
   rw [hr] at LW;rw [hF.out];clear hA hB hG hG' lA lB bA bB e1 e2 hr LT LA LB1 LBB LX
   go_enter Tryz.func101,Tryz.ntmps101;go_wp2_with fail;refine (LV.out _ HB1.out).mono ?_;rintro e w1 ⟨rfl,hb⟩;have B1:=Oi (aa HB1.out hb);have K1:=KG.out.same hb;obtain ⟨q0,q1,q2,q3⟩:w1.cell? ⟨w.heap.size,0,none⟩=some (.int .i64 R)∧w1.cell? ⟨w.heap.size,1,none⟩=some (.int .i64 C)∧w1.cell? ⟨w.heap.size,2,none⟩=some (.slice aA xA.length cA)∧w1.cell? ⟨w.heap.size,3,none⟩=some (.slice aB xB.length cB):=⟨K1.cell 0,K1.cell 1,K1.cell 2,K1.cell 3⟩;clear hb LV KG K1;go_wp2_with fail;refine (LW.out _).mono ?_;rintro e w2 ⟨rfl,hb2⟩;have B2:=Oi (aa B1.out hb2);clear hb2 q0 q1 q2 q3;go_wp2_with fail
   go_ret2
   exact ⟨B2.out,rfl⟩
 | true =>
 rw [hr] at LW
 cases hq:eG c 0 ((C:Int) - 1) with
 | false =>
   have hF:Hid (gZ R C xA xB n c=none):=by rw [Hid];unfold gZ;rw [hr,hq];rfl
   rw [hq] at LX;rw [hF.out];clear hA hB hG hG' lA lB bA bB e1 e2 hr hq LT LA LB1 LBB
   go_enter Tryz.func101,Tryz.ntmps101;go_wp2_with fail;refine (LV.out _ HB1.out).mono ?_;rintro e w1 ⟨rfl,hb⟩;have B1:=Oi (aa HB1.out hb);have K1:=Oi (KG.out.same hb);obtain ⟨q0,q1,q2,q3⟩:w1.cell? ⟨w.heap.size,0,none⟩=some (.int .i64 R)∧w1.cell? ⟨w.heap.size,1,none⟩=some (.int .i64 C)∧w1.cell? ⟨w.heap.size,2,none⟩=some (.slice aA xA.length cA)∧w1.cell? ⟨w.heap.size,3,none⟩=some (.slice aB xB.length cB):=⟨K1.out.cell 0,K1.out.cell 1,K1.out.cell 2,K1.out.cell 3⟩;clear hb LV KG;go_wp2_with fail;refine (LW.out _).mono ?_;rintro e w2 ⟨rfl,hb2⟩;have B2:=Oi (aa B1.out hb2);have K2:=K1.out.same hb2;clear q0 q1 q2 q3;obtain ⟨q0,q1,q2,q3⟩:w2.cell? ⟨w.heap.size,0,none⟩=some (.int .i64 R)∧w2.cell? ⟨w.heap.size,1,none⟩=some (.int .i64 C)∧w2.cell? ⟨w.heap.size,2,none⟩=some (.slice aA xA.length cA)∧w2.cell? ⟨w.heap.size,3,none⟩=some (.slice aB xB.length cB):=⟨K2.cell 0,K2.cell 1,K2.cell 2,K2.cell 3⟩;clear hb2 LW K1 K2;go_wp2_with fail;refine (LX.out _).mono ?_;rintro e w3 ⟨rfl,hb3⟩;have B3:=Oi (aa B2.out hb3);clear hb3 q0 q1 q2 q3;go_wp2_with fail
   go_ret2
   exact ⟨B3.out,rfl⟩
 | true =>
 rw [hq] at LX;have hr':=cx.1 hr;have hq':=cx.1 hq;obtain ⟨r0,rfl⟩:∃ m:Nat,n=(m:Int):=⟨n.toNat,by omega⟩;obtain ⟨k0,rfl⟩:∃ m:Nat,c=(m:Int):=⟨c.toNat,by omega⟩;have hF:Hid (gZ R C xA xB r0 k0=some (mJ R C xA xB r0 k0)):=by
  rw [Hid];unfold gZ;rw [hr,hq,Int.toNat_natCast,Int.toNat_natCast];rfl
 rw [hF.out];have hr0:r0<R:=by omega
 have hk0:k0<C:=by omega
 have LB2:=Oi (fun v (aT aS:Option Addr) (cT cS nS:Nat) (k:Nat) (hk:k<R) (hT:Rd v v.heap.size aT (ae (aG R C xB (C * R))))=>kL v C R k aT cT (aG R C xB (C * R)) aS nS cS hT (by simp [aG];rw [Nat.mul_comm];omega) (by simp [aG]) c6 r6 hk)
 have HB1':Hid (∀ k:Nat,∃ j:Nat,j<R∧(dj R C xA k).getD 0 0=(j:Int)∧1≤(dj R C xA k).length):=fun k=>xt r1
 have HB2':Hid (∀ k:Nat,∃ j:Nat,j<C∧(dj C R (aG R C xB (C * R)) k).getD 0 0=(j:Int)∧1≤(dj C R (aG R C xB (C * R)) k).length):=fun k=>xt c1
 have HNX:Hid (∀ r k:Nat,qJ R C xA xB r k=if aU C xA r k<aU C xA ((dj R C xA k).getD 0 0).toNat k then some (((dj R C xA k).getD 0 0).toNat,k)
 else if aU C xB r k<aU C xB r ((dj C R (aG R C xB (C * R)) r).getD 0 0).toNat then some (r,((dj C R (aG R C xB (C * R)) r).getD 0 0).toNat) else none):=fun r k=>rfl
 have r6i:(R:Int)≤6:=by omega
 have c6i:(C:Int)≤6:=by omega
 have HRC:=Oi hRC;clear hA hB hG hG' lA lB bA bB e1 e2 hr hq hr' hq' hF
 go_enter Tryz.func101,Tryz.ntmps101;go_wp2_with fail;refine (LV.out _ HB1.out).mono ?_;rintro e w1 ⟨rfl,hb⟩;have B1:=Oi (aa HB1.out hb);have K1:=Oi (KG.out.same hb);obtain ⟨q0,q1,q2,q3⟩:w1.cell? ⟨w.heap.size,0,none⟩=some (.int .i64 R)∧w1.cell? ⟨w.heap.size,1,none⟩=some (.int .i64 C)∧w1.cell? ⟨w.heap.size,2,none⟩=some (.slice aA xA.length cA)∧w1.cell? ⟨w.heap.size,3,none⟩=some (.slice aB xB.length cB):=⟨K1.out.cell 0,K1.out.cell 1,K1.out.cell 2,K1.out.cell 3⟩;clear hb LV KG HB1;go_wp2_with fail;refine (LW.out _).mono ?_;rintro e w2 ⟨rfl,hb2⟩;have B2:=Oi (aa B1.out hb2);have K2:=Oi (K1.out.same hb2);clear q0 q1 q2 q3;obtain ⟨q0,q1,q2,q3⟩:w2.cell? ⟨w.heap.size,0,none⟩=some (.int .i64 R)∧w2.cell? ⟨w.heap.size,1,none⟩=some (.int .i64 C)∧w2.cell? ⟨w.heap.size,2,none⟩=some (.slice aA xA.length cA)∧w2.cell? ⟨w.heap.size,3,none⟩=some (.slice aB xB.length cB):=⟨K2.out.cell 0,K2.out.cell 1,K2.out.cell 2,K2.out.cell 3⟩;clear hb2 LW K1 B1;go_wp2_with fail;refine (LX.out _).mono ?_;rintro e w3 ⟨rfl,hb3⟩;have B3:=Oi (aa B2.out hb3);have K3:=Oi (K2.out.same hb3);clear q0 q1 q2 q3;obtain ⟨q0,q1,q2,q3⟩:w3.cell? ⟨w.heap.size,0,none⟩=some (.int .i64 R)∧w3.cell? ⟨w.heap.size,1,none⟩=some (.int .i64 C)∧w3.cell? ⟨w.heap.size,2,none⟩=some (.slice aA xA.length cA)∧w3.cell? ⟨w.heap.size,3,none⟩=some (.slice aB xB.length cB):=⟨K3.out.cell 0,K3.out.cell 1,K3.out.cell 2,K3.out.cell 3⟩;clear hb3 LX K2 B2;go_wp2_with fail;refine (LT.out _ B3.out).mono ?_;rintro e w4 ⟨aT,cT,aS,cS,rfl,rT,rS,hb,nT,nS⟩;obtain ⟨w5,hw5⟩:∃ X,X=w4.alloc (.cells #[.int .i64 C,.int .i64 R,.slice aT (aG R C xB (C * R)).length cT,.slice aS (aG R C xA (C * R)).length cS] 26):=⟨_,rfl⟩;have hb5:Below w4.heap.size w4 w5:=by rw [hw5];exact ai _ _
 have KO:Blk w5 w4.heap.size [.int .i64 C,.int .i64 R,.slice aT (aG R C xB (C * R)).length cT,.slice aS (aG R C xA (C * R)).length cS] 26:=by rw [hw5];exact Blk.new w4 _ _
 have K5:=(K3.out.same hb).same hb5;have B5:=Oi (aa (aa B3.out hb) hb5);have T5:=Oi (rT.to hb5);obtain ⟨J,hJ,hJl,hJe,m0,m1⟩:=kj (C:=C) (i:=r0) (k:=k0) (n:=R * C) (dH hr0 hk0) (by omega)
 have hSt0:Hid (mJ R C xA xB r0 k0=fS R C xA xB 40 r0 k0 [(J:Int)]):=by rw [Hid,hJe];rfl
 have hC0:=Oi (CellsOk.one hJl);have S6:Hid (SpS w (w5.alloc (.cells #[.int .i64 J] 2)) w.heap.size w4.heap.size w5.heap.size [.int .i64 R,.int .i64 C,.slice aA xA.length cA,.slice aB xB.length cB] R C aT cT (aG R C xB (C * R)) (.slice aS (aG R C xA (C * R)).length cS) (.slice (some ⟨w5.heap.size,0,none⟩) 1 1) [(J:Int)]):=by
  have hba:=ai w5 (.cells #[.int .i64 J] 2);refine ⟨K5.same hba,KO.same hba,T5.out.below hba (Nat.le_refl _),aa B5.out hba,?_,K5.lt,KO.lt,B5.out.size,by simp⟩
  exact (Blk.new w5 (ae [(J:Int)]) 2).owns (Nat.le_refl _) (by unfold maxLen;simp)
 have q1':w5.cell? ⟨w.heap.size,1,none⟩=some (.int .i64 C):=K5.cell 1;have kk0:(0:Int)≤(k0:Int):=Int.natCast_nonneg _;have kk1:(k0:Int)≤6:=by omega
 clear rT rS hb nT nS hb5 KO K5 T5 q0 q1 q2 q3 LT K3 B3 hJe hJl;generalize aG R C xB (C * R)=lT at *
 generalize (aG R C xA (C * R)).length=nS at *
 go_upto_region 4 with fail
 rw [← hw5];clear hw5;go_wp2_with fail;obtain ⟨gO,hgO⟩:∃ g,g=w4.heap.size:=⟨_,rfl⟩;obtain ⟨lo,hlo⟩:∃ g,g=w5.heap.size:=⟨_,rfl⟩;rw [← hgO,← hlo] at S6;rw [← hgO,← hlo];clear hgO hlo q1' hJ m0 m1 kk0 kk1 B5
 go_loopw [1,2,9] (fun rv kv ov wr=>∃ (r k:Nat) (a2:Option Addr) (c2:Nat) (out:List Int) (f:Nat),r<R∧k<C∧rv=.int .i64 r∧kv=.int .i64 k∧ov=.slice a2 out.length c2∧Hid (CellsOk (R * C) out)∧Hid (mJ R C xA xB r0 k0=fS R C xA xB f r k out)∧Hid (f+out.length=41)∧Hid (SpS w wr w.heap.size gO lo [.int .i64 R,.int .i64 C,.slice aA xA.length cA,.slice aB xB.length cB] R C aT cT lT (.slice aS nS cS) (.slice a2 out.length c2) out)) (fun _ _ ov _=>40 - qc ov)
 case atStart=>exact ⟨r0,k0,_,_,[(J:Int)],40,hr0,hk0,rfl,rfl,rfl,hC0.out,hSt0.out,by rw [Hid];rfl,S6.out⟩
 case round =>
  clear S6 hC0 hSt0;obtain ⟨r,k,a2,c2,out,f,hr,hk,rfl,rfl,rfl,hc,hst,hf,hS⟩:=hrel;have hlen:=hc.out.len;have hRC2:=HRC.out;obtain ⟨f,rfl⟩:∃ f',f=f'+1:=⟨f - 1,by have:=hf.out;omega⟩;obtain ⟨j1,hj1,eb1,n1⟩:=HB1'.out k;obtain ⟨j2,hj2,eb2,n2⟩:=HB2'.out r;have nx0:=HNX.out r k;rw [eb1,eb2,Int.toNat_natCast,Int.toNat_natCast] at nx0;have L1:=Oi (fun v (hb:Below wr.heap.size wr v)=>LB1.out v (aa hS.out.B hb) k hk)
  have L2:=Oi (fun v (hb:Below wr.heap.size wr v)=>LB2.out v aT aS cT cS nS r hr (((hS.out.T.mono hS.out.sz).to hb)))
  generalize dj R C xA k=l1 at *
  generalize dj C R lT r=l2 at *
  have HJ:Hid (∀ v,Below wr.heap.size wr v→(v.cell? ⟨w.heap.size,0,none⟩=some (.int .i64 R)∧v.cell? ⟨w.heap.size,1,none⟩=some (.int .i64 C)∧v.cell? ⟨w.heap.size,2,none⟩=some (.slice aA xA.length cA)∧v.cell? ⟨w.heap.size,3,none⟩=some (.slice aB xB.length cB))∧(v.cell? ⟨gO,0,none⟩=some (.int .i64 C)∧v.cell? ⟨gO,1,none⟩=some (.int .i64 R)∧v.cell? ⟨gO,2,none⟩=some (.slice aT lT.length cT)∧v.cell? ⟨gO,3,none⟩=some (.slice aS nS cS))):=fun v hb =>
   ⟨⟨(hS.out.G.same hb).cell 0,(hS.out.G.same hb).cell 1,(hS.out.G.same hb).cell 2,(hS.out.G.same hb).cell 3⟩,⟨(hS.out.O.same hb).cell 0,(hS.out.O.same hb).cell 1,(hS.out.O.same hb).cell 2,(hS.out.O.same hb).cell 3⟩⟩
  have HD:=Oi (aq (Below.refl wr.heap.size wr));obtain ⟨⟨q0,q1,q2,q3⟩,o0,o1,o2,o3⟩:=HJ.out _ (Below.refl _ _);have n1i:(0:Int)<(l1.length:Int):=by omega
  have n2i:(0:Int)<(l2.length:Int):=by omega
  have n1n:0<l1.length:=n1;have n2n:0<l2.length:=n2
  go_upto_region 5 with fail
  obtain ⟨⟨y0,y1,y2,y3⟩,x0,x1,x2,x3⟩:=HJ.out _ HD.out
  go_cut [10,11] (fun xv yv wx=>xv=.int .i64 j1∧yv=.int .i64 j2∧Hid (Below wr.heap.size wr wx))
  case first =>
   go_region_with (first
    | (go_at_call 142;(with_reducible refine (L1.out _ (by first | exact HD.out | exact hBD.out)).mono ?_);rintro e wA ⟨aX,cX,rfl,oX,hbA⟩;obtain ⟨g1,eX,kXA,lX⟩:=DH oX n1n eb1;subst eX;have hBA:=Oi (aa (by first | exact HD.out | exact hBD.out) hbA);(try have kYA:=(hbA.cell (p:=⟨g2,0,none⟩) lY).trans kYD);obtain ⟨⟨m0,m1,m2,m3⟩,k0',k1',k2',k3'⟩:=HJ.out _ hBA.out)
    | (go_at_call 142;(with_reducible refine (L2.out _ (by first | exact HD.out | exact hBA.out)).mono ?_);rintro e wD ⟨aY,cY,rfl,oY,hbD⟩;obtain ⟨g2,eY,kYD,lY⟩:=DH oY n2n eb2;subst eY;have hBD:=Oi (aa (by first | exact HD.out | exact hBA.out) hbD);(try have kXD:=(hbD.cell (p:=⟨g1,0,none⟩) lX).trans kXA);obtain ⟨⟨m4,m5,m6,m7⟩,k4',k5',k6',k7'⟩:=HJ.out _ hBD.out))
   all_goals
    go_wp2_with fail
    go_meet
    exact ⟨rfl,rfl,by first | exact hBD.out | exact hBA.out⟩
  case rest =>
   obtain ⟨rfl,rfl,BF⟩:=hcut;obtain ⟨wF,hwF⟩:∃ W:World,W=wc:=⟨_,rfl⟩;subst hwF;have SF:=Oi (hS.out.same BF.out);clear HJ HD q0 q1 q2 q3 o0 o1 o2 o3 y0 y1 y2 y3 x0 x1 x2 x3 L1 L2 hS BF n1i n2i n1n n2n n1 n2 eb1 eb2;have LP:Hid (∀ z9:Later wF,_):=fun z9=>LA.out z9.w' (aa SF.out.B z9.h) j1 k hj1 hk
   have LQ:Hid (∀ z9:Later wF,_):=fun z9=>LA.out z9.w' (aa SF.out.B z9.h) r k hr hk
   have D0:∀ z9:Later wF,z9.w'.cell? ⟨w.heap.size,0,none⟩=some (.int .i64 R):=fun z9=>(SF.out.G.same z9.h).cell 0
   have D1:∀ z9:Later wF,z9.w'.cell? ⟨w.heap.size,1,none⟩=some (.int .i64 C):=fun z9=>(SF.out.G.same z9.h).cell 1
   have D2:∀ z9:Later wF,z9.w'.cell? ⟨w.heap.size,2,none⟩=some (.slice aA xA.length cA):=fun z9=>(SF.out.G.same z9.h).cell 2
   have D3:∀ z9:Later wF,z9.w'.cell? ⟨w.heap.size,3,none⟩=some (.slice aB xB.length cB):=fun z9=>(SF.out.G.same z9.h).cell 3
   generalize aU C xA j1 k=p at *
   generalize aU C xA r k=q at *
   go_wp2_with fail;refine bg (by kernel_rfl) (by kernel_rfl) ?_
   repeat (go_big_quiet_step (first | (go_at_call_of 143 j1;exact dz (LP.out _)) | (go_at_call_of 143 r;exact dz (LQ.out _))))
   refine wpQuiet_nil ?_
   rintro wq ⟨⟨_,hbq⟩,rfl⟩
   rename_i wq
   have SG:=Oi (SF.out.same hbq);clear D0 D1 D2 D3 LP LQ hbq SF;have SF:=SG;clear SG
   cases tt:decide (q<p) with
   | true =>
     have hnx:qJ R C xA xB r k=some (j1,k):=by rw [nx0,if_pos (of_decide_eq_true tt)]
     obtain ⟨J,hJ,hJl,hJe,m0,m1⟩:=kj (C:=C) (i:=j1) (k:=k) (n:=R * C) (dH hj1 hk) (by omega)
     have cC:wq.cell? ⟨w.heap.size,1,none⟩=some (.int .i64 C):=SF.out.G.cell 1;have LC:=Oi (gg wq a2 c2 out (J:Int) (ay SF.out.own (Nat.le_refl _)) (by omega))
     have hCon:=Oi (fun h=>sn (out:=out) (f:=f) hnx h)
     have hMore:=Oi (fun h=>uc (out:=out) (f:=f) hnx h)
     rw [← hJe] at hCon hMore;have kk0:(0:Int)≤(k:Int):=Int.natCast_nonneg _;have kk1:(k:Int)≤6:=by omega
     have JR:J<R * C:=hJl;clear hnx nx0 hJe hJl
     go_upto_region 11 with fail
     go_wp2_with fail;refine LC.out.mono ?_;rintro e w9 ⟨rfl,rfl⟩;clear LC cC
     cases hcn:bH out (J:Int) with
     | true =>
       have hC2:=Oi (hCon.out hcn);have O9:=Oi SF.out.own;have hsz:=SF.out.sz
       go_wp2_with (at_builtin;refine aH _ rfl _ _ 24 rfl lo 2 (.int .i64 0) 8 Tryz.underlying24 aZ rfl _ _ _ rfl O9.out (.int .i64 J) rfl rfl (by omega) (by omega) hsz ?_)
       intro v8 w8 o8 g8;have S8:=Oi (SF.out.more o8 g8);obtain ⟨a3,c3,rfl,_⟩:=ba o8;clear o8 g8;go_wp2_with fail
       go_ret2
       rw [hst.out,hC2.out];exact ⟨S8.out.B,a3,c3,by rw [List.length_append];rfl,ay S8.out.own (Nat.le_refl _)⟩
     | false =>
       have hC2:=Oi (hMore.out hcn);have O9:=Oi SF.out.own;have hsz:=SF.out.sz;have hcm:=Oi (hc.out.more JR hcn)
       go_wp2_with (at_builtin;refine aH _ rfl _ _ 24 rfl lo 2 (.int .i64 0) 8 Tryz.underlying24 aZ rfl _ _ _ rfl O9.out (.int .i64 J) rfl rfl (by omega) (by omega) hsz ?_)
       intro v8 w8 o8 g8;have S8:=Oi (SF.out.more o8 g8);obtain ⟨a3,c3,rfl,_⟩:=ba o8;have hst2:Hid (mJ R C xA xB r0 k0=fS R C xA xB f j1 k (out ++ [(J:Int)])):=by rw [Hid,hst.out,hC2.out]
       clear o8 g8 hst hC2;go_wp2_with fail;go_roundw
       case rel=>exact ⟨j1,k,a3,c3,out ++ [(J:Int)],f,hj1,hk,rfl,rfl,by rw [List.length_append];rfl,hcm.out,hst2.out,by rw [Hid,List.length_append];have:=hf.out;simp;omega,by rw [List.length_append];exact S8.out⟩
       case measure=>simp [qc];have:=hcm.out.len;rw [List.length_append] at this;simp at this;omega
   | false =>
     rw [if_neg (of_decide_eq_false tt)] at nx0;have LP:Hid (∀ z9:Later wq,_):=fun z9=>LBB.out z9.w' (aa SF.out.B z9.h) r j2 hr hj2
     have LQ:Hid (∀ z9:Later wq,_):=fun z9=>LBB.out z9.w' (aa SF.out.B z9.h) r k hr hk
     have D0:∀ z9:Later wq,z9.w'.cell? ⟨w.heap.size,0,none⟩=some (.int .i64 R):=fun z9=>(SF.out.G.same z9.h).cell 0
     have D1:∀ z9:Later wq,z9.w'.cell? ⟨w.heap.size,1,none⟩=some (.int .i64 C):=fun z9=>(SF.out.G.same z9.h).cell 1
     have D2:∀ z9:Later wq,z9.w'.cell? ⟨w.heap.size,2,none⟩=some (.slice aA xA.length cA):=fun z9=>(SF.out.G.same z9.h).cell 2
     have D3:∀ z9:Later wq,z9.w'.cell? ⟨w.heap.size,3,none⟩=some (.slice aB xB.length cB):=fun z9=>(SF.out.G.same z9.h).cell 3
     generalize aU C xB r j2=u at *
     generalize aU C xB r k=s at *
     go_wp2_with fail;refine bg (by kernel_rfl) (by kernel_rfl) ?_
     repeat (go_big_quiet_step (first | (go_at_call_of 144 j2;exact dz (LP.out _)) | (go_at_call_of 144 k;exact dz (LQ.out _))))
     refine wpQuiet_nil ?_
     rintro wp ⟨⟨_,hbp⟩,rfl⟩
     rename_i wp
     have SG:=Oi (SF.out.same hbp);clear D0 D1 D2 D3 LP LQ hbp SF;have SF:=SG;clear SG
     cases tu:decide (s<u) with
     | true =>
       have hnx:qJ R C xA xB r k=some (r,j2):=by rw [nx0,if_pos (of_decide_eq_true tu)]
       obtain ⟨J,hJ,hJl,hJe,m0,m1⟩:=kj (C:=C) (i:=r) (k:=j2) (n:=R * C) (dH hr hj2) (by omega)
       have cC:wp.cell? ⟨w.heap.size,1,none⟩=some (.int .i64 C):=SF.out.G.cell 1;have LC:=Oi (gg wp a2 c2 out (J:Int) (ay SF.out.own (Nat.le_refl _)) (by omega))
       have hCon:=Oi (fun h=>sn (out:=out) (f:=f) hnx h)
       have hMore:=Oi (fun h=>uc (out:=out) (f:=f) hnx h)
       rw [← hJe] at hCon hMore;have kk0:(0:Int)≤(j2:Int):=Int.natCast_nonneg _;have kk1:(j2:Int)≤6:=by omega
       have JR:J<R * C:=hJl;clear hnx nx0 hJe hJl
       go_upto_region 11 with fail
       go_wp2_with fail;refine LC.out.mono ?_;rintro e w9 ⟨rfl,rfl⟩;clear LC cC
       cases hcn:bH out (J:Int) with
       | true =>
         have hC2:=Oi (hCon.out hcn);have O9:=Oi SF.out.own;have hsz:=SF.out.sz
         go_wp2_with (at_builtin;refine aH _ rfl _ _ 24 rfl lo 2 (.int .i64 0) 8 Tryz.underlying24 aZ rfl _ _ _ rfl O9.out (.int .i64 J) rfl rfl (by omega) (by omega) hsz ?_)
         intro v8 w8 o8 g8;have S8:=Oi (SF.out.more o8 g8);obtain ⟨a3,c3,rfl,_⟩:=ba o8;clear o8 g8;go_wp2_with fail
         go_ret2
         rw [hst.out,hC2.out];exact ⟨S8.out.B,a3,c3,by rw [List.length_append];rfl,ay S8.out.own (Nat.le_refl _)⟩
       | false =>
         have hC2:=Oi (hMore.out hcn);have O9:=Oi SF.out.own;have hsz:=SF.out.sz;have hcm:=Oi (hc.out.more JR hcn)
         go_wp2_with (at_builtin;refine aH _ rfl _ _ 24 rfl lo 2 (.int .i64 0) 8 Tryz.underlying24 aZ rfl _ _ _ rfl O9.out (.int .i64 J) rfl rfl (by omega) (by omega) hsz ?_)
         intro v8 w8 o8 g8;have S8:=Oi (SF.out.more o8 g8);obtain ⟨a3,c3,rfl,_⟩:=ba o8;have hst2:Hid (mJ R C xA xB r0 k0=fS R C xA xB f r j2 (out ++ [(J:Int)])):=by rw [Hid,hst.out,hC2.out]
         clear o8 g8 hst hC2;go_wp2_with fail;go_roundw
         case rel=>exact ⟨r,j2,a3,c3,out ++ [(J:Int)],f,hr,hj2,rfl,rfl,by rw [List.length_append];rfl,hcm.out,hst2.out,by rw [Hid,List.length_append];have:=hf.out;simp;omega,by rw [List.length_append];exact S8.out⟩
         case measure=>simp [qc];have:=hcm.out.len;rw [List.length_append] at this;simp at this;omega
     | false =>
       rw [if_neg (of_decide_eq_false tu)] at nx0;have hE:=Oi (Do (out:=out) (f:=f) nx0);have hr9:=Oi (ay SF.out.own (Nat.le_refl _));clear nx0;go_wp2_with fail
       go_ret2
       rw [hst.out,hE.out];exact ⟨SF.out.B,_,_,rfl,hr9.out⟩
end Go.Proofs.YtbknhgapjjaelaaGreatDoor
