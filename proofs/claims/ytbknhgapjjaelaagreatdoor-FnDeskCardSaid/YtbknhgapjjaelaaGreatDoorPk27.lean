/-
  Part 27 of what the proof stands on: lemmas and contracts, each with its conditions ahead of the colon.
-/
import Derived.Test.YtbknhgapjjaelaaGreatDoorPk01
import Derived.Outline
import Derived.Laws.EntriesVeiled
import Derived.Test.YtbknhgapjjaelaaGreatDoorPk03
import Derived.Test.YtbknhgapjjaelaaGreatDoorPk07
import Derived.Test.YtbknhgapjjaelaaGreatDoorPk17
import Derived.Test.YtbknhgapjjaelaaGreatDoorPk19
import Derived.Test.YtbknhgapjjaelaaGreatDoorPk21
import Derived.Test.YtbknhgapjjaelaaGreatDoorPk26
set_option maxRecDepth 100000
set_option maxHeartbeats 16000000
namespace Go.Proofs.YtbknhgapjjaelaaGreatDoor
set_option linter.unusedVariables false
set_option linter.unusedSimpArgs false
open Go.RowKit
theorem GC (w:World) (K0:Nat) (caps0:Array Value) (hK:∀ (args:Array Value) (w:World),(callFunc K0 args).run Tryz.prog w=.ok (.enter K0 args) w) (f:Nat→Nat→Int) (u n:Nat) (a2:Option Addr) (c2:Nat) (x2:List Int) (a3:Option Addr) (c3:Nat) (x3:List Int) (h:RdCrowd w w.heap.size a2 x2 a3 x3) (hvb:bt ⟨u,n,x2,x3⟩=true) (hvt:bt (fh f ⟨u,n,x2,x3⟩)=false) (hl2:x2.length≤1048576) (hl3:x3.length≤1048576)
 (hf:∀ (w':World) (r k:Nat),Below w.heap.size w w'→r<n→1≤k→k≤u→Calls Tryz.prog K0 (#[.int .i64 r,.int .i64 k] ++ caps0) w' fun e w''=>e=.returned (.int .i64 (f r k))∧Below w'.heap.size w' w'') :
 Calls Tryz.prog 184 #[.agg #[.int .i64 u,.int .i64 n,.slice a2 x2.length c2,.slice a3 x3.length c3],.func (.func K0) #[] caps0] w fun e w'=>e=.returned (.tuple #[.agg #[.int .i64 0,.int .i64 0,.slice none 0 0,.slice none 0 0],.bool false])∧Below w.heap.size w w':=by
 have hv:=ee hvb;have u1:=hv.u1;have u8:=hv.u8;have r1:=hv.r1;have r8:=hv.r8;have w1':=hv.w1;have w8:=hv.w8;simp only at u1 u8 r1 r8 w1' w8;have KB:=Na (Blk.new w [.int .i64 u,.int .i64 n,.slice a2 x2.length c2,.slice a3 x3.length c3] 30);have HH:=Na h;have LV:=Na (fun (w':World) (hb:Below w.heap.size w w')=>dD w' u n a2 c2 x2 a3 c3 x3 (h.to hb) hl2 hl3)
 rw [hvb] at LV;have LCl:=Na (fun (w':World) (hb:Below w.heap.size w w')=>ej w' a2 c2 x2 (h.1.to hb) w1' hl2)
 have HVT:=Na hvt;have LF:=Na hf;have HK0:=Na hK;clear h hvb hvt hf hK hv
 go_enter Tryz.func184,Tryz.ntmps184;go_wp2_with fail;have B0:=bR w (.cells #[.int .i64 u,.int .i64 n,.slice a2 x2.length c2,.slice a3 x3.length c3] 30) (.cells #[.int .i64 0,.int .i64 0,.slice none 0 0,.slice none 0 0] 30);have KR0:=sk (Blk.new (w.alloc (.cells #[.int .i64 u,.int .i64 n,.slice a2 x2.length c2,.slice a3 x3.length c3] 30)) [.int .i64 0,.int .i64 0,.slice none 0 0,.slice none 0 0] 30);have KB0:=KB.out.same (ah _ (.cells #[.int .i64 0,.int .i64 0,.slice none 0 0,.slice none 0 0] 30));refine (LV.out _ B0).mono ?_;rintro e w2 ⟨rfl,hb2⟩;have KR2:=Na (KR0.same hb2);have KB2:=Na (KB0.same hb2);have B2:=Na (aa B0 hb2);have s2:=hb2.size;rw [World.size_alloc,World.size_alloc] at s2;have HS:Hid (∀ w',Below w2.heap.size w2 w'→(w'.cell? ⟨w.heap.size,0,none⟩=some (.int .i64 u)∧w'.cell? ⟨w.heap.size,1,none⟩=some (.int .i64 n)∧w'.cell? ⟨w.heap.size,2,none⟩=some (.slice a2 x2.length c2))):=fun w' hb=>⟨(KB2.out.same hb).cell 0,(KB2.out.same hb).cell 1,(KB2.out.same hb).cell 2⟩
 have HD:Hid (Below w2.heap.size w2 w2.drew):=au (Below.refl _ _);have LC1:=Na (LCl.out w2.drew (aa B2.out HD.out));have HE:Hid (Below w2.heap.size w2 (w2.alloc (.cells #[.int .i64 0,.int .i64 0,.slice none 0 0,.slice none 0 0] 30)).drew):=au (ah _ _);have KZ:Hid (Blk (w2.alloc (.cells #[.int .i64 0,.int .i64 0,.slice none 0 0,.slice none 0 0] 30)).drew w2.heap.size [.int .i64 0,.int .i64 0,.slice none 0 0,.slice none 0 0] 30):=(Blk.new w2 [.int .i64 0,.int .i64 0,.slice none 0 0,.slice none 0 0] 30).drewN 1;have LC2:=Na (LCl.out (w2.alloc (.cells #[.int .i64 0,.int .i64 0,.slice none 0 0,.slice none 0 0] 30)).drew (aa B2.out HE.out));obtain ⟨q0,q1,q2⟩:=HS.out _ (Below.refl _ _);clear B0 KR0 KB0 hb2 KB LCl;go_wp2_with fail
 go_region_held3 (fun w'=>w'.cell? ⟨w.heap.size,0,none⟩=some (.int .i64 u)∧w'.cell? ⟨w.heap.size,1,none⟩=some (.int .i64 n)∧w'.cell? ⟨w.heap.size,2,none⟩=some (.slice a2 x2.length c2))
  (first | with_reducible exact HS.out _ HD.out | with_reducible exact HS.out _ HE.out | with_reducible exact HS.out _ hB1 | with_reducible exact HS.out _ (aa hB1 (ah w5 (.cells #[.int .i64 0,.int .i64 0,.slice none 0 0,.slice none 0 0] 30))) | with_reducible exact HS.out _ (aa hB1 (ah w5 (.cells #[.int .i64 u,.int .i64 n,.slice aW x2.length cW,.slice none 0 0] 30))) | with_reducible exact HS.out _ (aj (aj (aj (aj hB1 (Nat.le_refl _) _ _) (Nat.le_refl _) _ _) (Nat.le_refl _) _ _) (Nat.le_refl _) _ _))
  (first | (go_at_call 69;with_reducible refine (LC1.out).mono ?_;rintro e w5 ⟨aW,cW,rfl,oW,hz1⟩;have hB1:=aa HD.out hz1) | (go_at_call 69;with_reducible refine (LC2.out).mono ?_;rintro e w5 ⟨aW,cW,rfl,oW,hz1⟩;have hB1:=aa HE.out hz1;have KO:=KZ.out.same hz1;have z0:=KO.cell 0;have z1:=KO.cell 1;have z2:=KO.cell 2;have z3:=KO.cell 3;have y0:=KO.free 0;have y1:=KO.free 1;have y2:=KO.free 2;have y3:=KO.free 3;simp only [List.getElem?_cons_zero,List.getElem?_cons_succ] at z0 z1 z2 z3))
 all_goals
  first
  | (obtain ⟨wO,hwO⟩:∃ W:World,W=w5.alloc (.cells #[.int .i64 u,.int .i64 n,.slice aW x2.length cW,.slice none 0 0] 30):=⟨_,rfl⟩
     obtain ⟨gO,hgO⟩:∃ g,g=w5.heap.size:=⟨_,rfl⟩;have KO:Hid (Blk wO gO [.int .i64 u,.int .i64 n,.slice aW x2.length cW,.slice none 0 0] 30):=by rw [hwO,hgO];exact Blk.new w5 _ _
     have BO:Hid (Below w2.heap.size w2 wO):=by rw [hwO];exact aa hB1 (ah _ _)
     have OW:Hid (OwnI 2 wO w2.heap.size wO.heap.size aW cW x2):=by rw [hwO];exact (oW.keep (ah _ _)).mono (Nat.le_refl _) (by simp)
     have HGW:Hid (∀ b,aW=some b→b.block≠gO):=fun b hb=>by have:=oW.2 b hb;rw [hgO];omega
     have hgO2:w2.heap.size≤gO:=by rw [hgO];exact hB1.size
     have hgO3:gO<wO.heap.size:=KO.out.lt;rw [← hwO,← hgO];clear hwO hgO oW hz1 hB1 LC1 LC2 HE HD q0 q1 q2 KZ)
  | (obtain ⟨wO,hwO⟩:∃ W:World,W=(((w5.setCell ⟨w2.heap.size,0,none⟩ (.int .i64 u)).setCell ⟨w2.heap.size,1,none⟩ (.int .i64 n)).setCell ⟨w2.heap.size,2,none⟩ (.slice aW x2.length cW)).setCell ⟨w2.heap.size,3,none⟩ (.slice none 0 0):=⟨_,rfl⟩
     obtain ⟨gO,hgO⟩:∃ g,g=w2.heap.size:=⟨_,rfl⟩;have KO:Hid (Blk wO gO [.int .i64 u,.int .i64 n,.slice aW x2.length cW,.slice none 0 0] 30):=by rw [hwO,hgO];exact (((KO.set 0 (.int .i64 u)).set 1 (.int .i64 n)).set 2 (.slice aW x2.length cW)).set 3 (.slice none 0 0)
     have BO:Hid (Below w2.heap.size w2 wO):=by rw [hwO];exact aj (aj (aj (aj hB1 (Nat.le_refl _) _ _) (Nat.le_refl _) _ _) (Nat.le_refl _) _ _) (Nat.le_refl _) _ _
     have OW:Hid (OwnI 2 wO w2.heap.size wO.heap.size aW cW x2):=by rw [hwO];exact ((cg (cg (cg (cg oW (by simp) 0 (.int .i64 u)) (by simp) 1 (.int .i64 n)) (by simp) 2 (.slice aW x2.length cW)) (by simp) 3 (.slice none 0 0)).mono (by simp) (by simp))
     have HGW:Hid (∀ b,aW=some b→b.block≠gO):=fun b hb=>by have:=(oW.1.lt b.block (by rw [hb];rfl)).1;rw [hgO];simp at this;omega
     have hgO2:w2.heap.size≤gO:=by rw [hgO];exact Nat.le_refl _
     have hgO3:gO<wO.heap.size:=KO.out.lt;rw [← hwO,← hgO];clear hwO hgO oW hz1 hB1 LC1 LC2 HE HD q0 q1 q2 KZ)
  have BW:Hid (Below w.heap.size w wO):=B2.out.trans (BO.out.mono (by omega))
  obtain ⟨T0,hT0⟩:∃ T,T=wO.heap.size:=⟨_,rfl⟩;have T0le:T0≤wO.heap.size:=by omega
  have HT:Hid (TW w wO gO T0 u n a2 c2 x2 a3 c3 x3 aW cW w2.heap.size none 0 []) :=
   ⟨BW.out,KB2.out.below BO.out (by omega),KR2.out.below BO.out (by omega),KO.out,by rw [hT0];exact OW.out,World.ownsRow_nil _ _ _ _⟩
  have hgT:gO<T0:=by omega
  clear BO OW KO hT0 hgO3 KB2 KR2 HS;obtain ⟨lW,hlW⟩:∃ l,l=w2.heap.size:=⟨_,rfl⟩;rw [← hlW] at HT hgO2 s2;clear hlW B2 BW;have q1:wO.cell? ⟨w.heap.size,1,none⟩=some (.int .i64 n):=HT.out.KB.cell 1;go_wp2_with fail;clear q1
  go_loopw [23] (fun rv wr=>∃ (r:Nat) (aC:Option Addr) (cC:Nat) (l:List Int),r≤n∧rv=.int .i64 r∧Hid (l=jU f u r)∧Hid (TW w wr gO T0 u n a2 c2 x2 a3 c3 x3 aW cW lW aC cC l)∧T0≤wr.heap.size) (fun rv _=>n - (intOf rv).toNat)
  case atStart=>exact ⟨0,none,0,[],Nat.zero_le _,rfl,rfl,HT.out,T0le⟩
  case round =>
   obtain ⟨r,aC,cC,l,hr,rfl,hL,hW,hTs⟩:=hrel;obtain ⟨wo,hwo⟩:∃ W:World,W=wr:=⟨_,rfl⟩;subst hwo
   by_cases hlt:r<n
   · have hri:(r:Int)<(n:Int):=by omega
     have r0:(0:Int)≤(r:Int):=Int.natCast_nonneg _;have q0:wo.cell? ⟨w.heap.size,0,none⟩=some (.int .i64 u):=hW.out.KB.cell 0;have HP:Hid (l=iV f u r 0):=by rw [Hid,vy];exact hL.out
     clear hL;go_wp2_with fail;clear q0
     go_loopw [28] (fun kv wr=>∃ (k:Nat) (aC:Option Addr) (cC:Nat) (l:List Int),k≤u∧kv=.int .i64 k∧Hid (l=iV f u r k)∧Hid (TW w wr gO T0 u n a2 c2 x2 a3 c3 x3 aW cW lW aC cC l)∧T0≤wr.heap.size) (fun kv _=>u - (intOf kv).toNat)
     case atStart=>exact ⟨0,aC,cC,l,Nat.zero_le _,rfl,HP.out,hW.out,hTs⟩
     case round =>
      clear HP hW hTs;obtain ⟨k,aC,cC,l,hk,rfl,hP,hW,hTs⟩:=hrel
      by_cases hku:k<u
      · have hki:(k:Int)<(u:Int):=by omega
        have k0:(0:Int)≤(k:Int):=Int.natCast_nonneg _;have LF1:Hid (Calls Tryz.prog K0 (#[.int .i64 r,.int .i64 ((k:Int)+1)] ++ caps0) wr.drew fun e w''=>e=.returned (.int .i64 (f r (k+1)))∧Below wr.drew.heap.size wr.drew w''):=LF.out wr.drew r (k+1) (au hW.out.B) hlt (by omega) (by omega)
        have HCC:Hid (∀ w',Below T0 wr w'→w'.cell? ⟨gO,3,none⟩=some (.slice aC l.length cC)∧w'.frozen? ⟨gO,3,none⟩=false):=fun w' hb=>⟨(hW.out.KO.below hb (by omega)).cell 3,(hW.out.KO.below hb (by omega)).free 3⟩
        have hOC:=Na hW.out.C;have hll:l.length≤64:=by
         rw [hP.out,xQ];have:r * u≤7 * 8:=Nat.mul_le_mul (by omega) (by omega)
         omega
        have hKK:=HK0.out;have eK:IntKind.i64.wrap ((k:Int)+1)=(k:Int)+1:=IntWalk.i64_in _ (by omega)
        obtain ⟨d1,d2⟩:=HCC.out _ (Below.refl _ _);obtain ⟨x,hx⟩:∃ x,x=f r (k+1):=⟨_,rfl⟩;rw [← hx] at LF1;have HX:=Na hx;clear hx;go_wp2_with fail
        go_region_law
         ((first
           | (go_simp;refine LF1.out.mono ?_;rintro e w6 ⟨rfl,hb6⟩;dsimp only;have hb7:Below wr.heap.size wr w6:=aa (au (Below.refl wr.heap.size wr)) hb6;have hOC6:=aG hOC.out hb7;obtain ⟨f1,f2⟩:=HCC.out w6 (hb7.mono hTs);obtain ⟨f3,f4⟩:=HCC.out (w6.alloc (.cells #[.int .i64 x] 2)) ((hb7.mono hTs).alloc (Nat.le_trans hTs hb7.size) _))
           | (refine eO (wr:=w6) (by rfl) _ _ 24 (by rfl) T0 2 (.int .i64 0) 8 Tryz.underlying24 aU (by rfl) _ l.length (ae l) (by rfl) hOC6 (.int .i64 x) rfl (by rfl) (by decide) (by omega) (Nat.le_trans hTs hb7.size) ?_;intro g8 c8 w8 ho8 hg8 hn8;have hb8:Below T0 wr w8:=(hb7.mono hTs).trans (ai (Below.refl T0 w6) hOC6 hg8 (Nat.le_refl _) (Nat.le_trans hTs hb7.size));obtain ⟨f5,f6⟩:=HCC.out w8 hb8)))
        all_goals
         have hW2:=Na (hW.out.snoc (x:=x) (by omega) hgT (by omega) HGW.out hTs hb8 ho8)
         have hP2:Hid (l ++ [x]=iV f u r (k+1)):=by rw [Hid,vj,hP.out,HX.out]
         have hs8:T0≤(w8.setCell ⟨gO,3,none⟩ (.slice (some ⟨g8,0,none⟩) (l.length+1) c8)).heap.size:=by simp;exact Nat.le_trans hTs hb8.size
         clear hb6 hb7 hOC6 f1 f2 f3 f4 ho8 hg8 hn8 hb8 f5 f6;go_wp2_with fail;go_roundw
         case rel=>exact ⟨k+1,some ⟨g8,0,none⟩,c8,l ++ [x],by omega,by go_num,hP2.out,hW2,hs8⟩
         case measure=>first | (simp [intOf];done) | (simp [intOf];omega)
      · obtain rfl:k=u:=by omega
        have hP2:Hid (l=jU f k (r+1)):=by rw [Hid,← uO];exact hP.out
        clear hP;go_wp2_with fail;go_roundw
        case rel=>exact ⟨r+1,aC,cC,l,by omega,by go_num,hP2.out,hW.out,hTs⟩
        case measure=>first | (simp [intOf];done) | (simp [intOf];omega)
   · obtain rfl:r=n:=by omega
     have hrd:RdCrowd wo wo.heap.size aW x2 aC l:=⟨hW.out.W.rd.mono hTs,(ay hW.out.C (Nat.le_refl _)).mono (Nat.le_refl _)⟩;have hll:l.length≤64:=by
      rw [hL.out,oE];have:r * u≤8 * 8:=Nat.mul_le_mul (by omega) (by omega)
      omega
     have LV2:=Na (dD wo u r aW cW x2 aC cC l hrd (by omega) (by omega))
     have hCC:fh f ⟨(u:Int),(r:Int),x2,x3⟩=⟨(u:Int),(r:Int),x2,l⟩:=by unfold fh;rw [hL.out];simp
     have HCC2:=Na hCC;rw [hCC] at HVT;rw [HVT.out] at LV2;have HRD:=Na hrd;obtain ⟨k0',k1',k2',k3'⟩:wo.cell? ⟨gO,0,none⟩=some (.int .i64 u)∧wo.cell? ⟨gO,1,none⟩=some (.int .i64 r)∧wo.cell? ⟨gO,2,none⟩=some (.slice aW x2.length cW)∧wo.cell? ⟨gO,3,none⟩=some (.slice aC l.length cC):=⟨hW.out.KO.cell 0,hW.out.KO.cell 1,hW.out.KO.cell 2,hW.out.KO.cell 3⟩;clear hrd hCC hL HVT;go_wp2_with fail;refine LV2.out.mono ?_;rintro e w9 ⟨rfl,hb9⟩;have KO9:=hW.out.KO.same hb9;have KR9:=hW.out.KR.same hb9;have B9:=Na (hW.out.B.trans (hb9.mono hW.out.B.size));have OW9:=Na (hW.out.W.keep hb9);have OC9:Hid (OwnI 2 w9 T0 w9.heap.size aC cC l):=OwnI.of_own (aG hW.out.C hb9);have hT9:T0≤w9.heap.size:=Nat.le_trans hTs hb9.size;clear k0' k1' k2' k3' hb9;have k0':w9.cell? ⟨gO,0,none⟩=some (.int .i64 u):=KO9.cell 0;have k1':w9.cell? ⟨gO,1,none⟩=some (.int .i64 r):=KO9.cell 1;have k2':w9.cell? ⟨gO,2,none⟩=some (.slice aW x2.length cW):=KO9.cell 2;have k3':w9.cell? ⟨gO,3,none⟩=some (.slice aC l.length cC):=KO9.cell 3;have y0:w9.cell? ⟨w.heap.size+1,0,none⟩=some (.int .i64 0):=KR9.cell 0;have y1:w9.cell? ⟨w.heap.size+1,1,none⟩=some (.int .i64 0):=KR9.cell 1;have y2:w9.cell? ⟨w.heap.size+1,2,none⟩=some (.slice none 0 0):=KR9.cell 2;have y3:w9.cell? ⟨w.heap.size+1,3,none⟩=some (.slice none 0 0):=KR9.cell 3;have f0:=KR9.free 0;have f1:=KR9.free 1;have f2:=KR9.free 2;have f3:=KR9.free 3;have KRH:=Na KR9;clear KO9 KR9 hW HRD;go_wp2_with fail;obtain ⟨wz,hwz⟩:∃ Y,Y=(((w9.setCell ⟨w.heap.size+1,0,none⟩ (.int .i64 0)).setCell ⟨w.heap.size+1,1,none⟩ (.int .i64 0)).setCell ⟨w.heap.size+1,2,none⟩ (.slice none 0 0)).setCell ⟨w.heap.size+1,3,none⟩ (.slice none 0 0):=⟨_,rfl⟩;have KZ:Blk wz (w.heap.size+1) [.int .i64 0,.int .i64 0,.slice none 0 0,.slice none 0 0] 30:=by rw [hwz];exact (((KRH.out.set 0 (.int .i64 0)).set 1 (.int .i64 0)).set 2 (.slice none 0 0)).set 3 (.slice none 0 0)
     have BZ:Below w.heap.size w wz:=by rw [hwz];exact aj (aj (aj (aj B9.out (by omega) _ _) (by omega) _ _) (by omega) _ _) (by omega) _ _
     rw [← hwz];clear hwz k0' k1' k2' k3' y0 y1 y2 y3;have y0:wz.cell? ⟨w.heap.size+1,0,none⟩=some (.int .i64 0):=KZ.cell 0;have y1:wz.cell? ⟨w.heap.size+1,1,none⟩=some (.int .i64 0):=KZ.cell 1;have y2:wz.cell? ⟨w.heap.size+1,2,none⟩=some (.slice none 0 0):=KZ.cell 2;have y3:wz.cell? ⟨w.heap.size+1,3,none⟩=some (.slice none 0 0):=KZ.cell 3;refine bodyPost_ret (v:=.tuple #[.agg #[.int .i64 0,.int .i64 0,.slice none 0 0,.slice none 0 0],.bool false]) (by simp [results,Tryz.results184,go_sem,y0,y1,y2,y3]) rfl ?_
     exact ⟨rfl,BZ⟩
theorem DO (w:World) (u n:Nat) (a2:Option Addr) (c2:Nat) (x2:List Int) (a3:Option Addr) (c3:Nat) (x3:List Int) (h:RdCrowd w w.heap.size a2 x2 a3 x3) (hvb:bt ⟨u,n,x2,x3⟩=true) (hvt:bt (fh (fy ⟨u,n,x2,x3⟩) ⟨u,n,x2,x3⟩)=false) (hl2:x2.length≤1048576) (hl3:x3.length≤1048576) :
 Calls Tryz.prog 132 #[.agg #[.int .i64 u,.int .i64 n,.slice a2 x2.length c2,.slice a3 x3.length c3]] w fun e w'=>e=.returned (.tuple #[.agg #[.int .i64 0,.int .i64 0,.slice none 0 0,.slice none 0 0],.bool false])∧Below w.heap.size w w':=by
 have B0:=bR w (.cells #[.int .i64 u,.int .i64 n,.slice a2 x2.length c2,.slice a3 x3.length c3] 30) (.cells #[.int .i64 0,.int .i64 0,.slice none 0 0,.slice none 0 0] 30);have KB0:=(Blk.new w [.int .i64 u,.int .i64 n,.slice a2 x2.length c2,.slice a3 x3.length c3] 30).same (ah _ (.cells #[.int .i64 0,.int .i64 0,.slice none 0 0,.slice none 0 0] 30));have LT:=Na (GC ((w.alloc (.cells #[.int .i64 u,.int .i64 n,.slice a2 x2.length c2,.slice a3 x3.length c3] 30)).alloc (.cells #[.int .i64 0,.int .i64 0,.slice none 0 0,.slice none 0 0] 30)) 185 #[.pointer (some ⟨w.heap.size,0,none⟩)] tf (fy ⟨u,n,x2,x3⟩) u n a2 c2 x2 a3 c3 x3 (h.to B0) hvb hvt hl2 hl3 (fun w' r k hb hr h1 h2=>ux w' w.heap.size u n r k a2 c2 x2 a3 c3 x3 (KB0.same hb) (h.to (aa B0 hb)) (ee hvb) hr h1 (by omega)))
 have KR0:=Na (sk (Blk.new (w.alloc (.cells #[.int .i64 u,.int .i64 n,.slice a2 x2.length c2,.slice a3 x3.length c3] 30)) [.int .i64 0,.int .i64 0,.slice none 0 0,.slice none 0 0] 30));have HB0:=Na B0;clear h hvb hvt KB0 B0
 go_enter Tryz.func132,Tryz.ntmps132;go_wp2_with fail;refine LT.out.mono ?_;rintro e w2 ⟨rfl,hb2⟩;have KR2:=Na (KR0.out.same hb2);have B2:=Na (aa HB0.out hb2);have y0:w2.cell? ⟨w.heap.size+1,0,none⟩=some (.int .i64 0):=KR2.out.cell 0;have y1:w2.cell? ⟨w.heap.size+1,1,none⟩=some (.int .i64 0):=KR2.out.cell 1;have y2:w2.cell? ⟨w.heap.size+1,2,none⟩=some (.slice none 0 0):=KR2.out.cell 2;have y3:w2.cell? ⟨w.heap.size+1,3,none⟩=some (.slice none 0 0):=KR2.out.cell 3;have f0:=KR2.out.free 0;have f1:=KR2.out.free 1;have f2:=KR2.out.free 2;have f3:=KR2.out.free 3;clear LT KR0 HB0 hb2;go_wp2_with fail;obtain ⟨wz,hwz⟩:∃ Y,Y=(((w2.setCell ⟨w.heap.size+1,0,none⟩ (.int .i64 0)).setCell ⟨w.heap.size+1,1,none⟩ (.int .i64 0)).setCell ⟨w.heap.size+1,2,none⟩ (.slice none 0 0)).setCell ⟨w.heap.size+1,3,none⟩ (.slice none 0 0):=⟨_,rfl⟩;have KZ:Blk wz (w.heap.size+1) [.int .i64 0,.int .i64 0,.slice none 0 0,.slice none 0 0] 30:=by rw [hwz];exact (((KR2.out.set 0 (.int .i64 0)).set 1 (.int .i64 0)).set 2 (.slice none 0 0)).set 3 (.slice none 0 0)
 have BZ:Below w.heap.size w wz:=by rw [hwz];exact aj (aj (aj (aj B2.out (by omega) _ _) (by omega) _ _) (by omega) _ _) (by omega) _ _
 rw [← hwz];clear hwz y0 y1 y2 y3;have y0:wz.cell? ⟨w.heap.size+1,0,none⟩=some (.int .i64 0):=KZ.cell 0;have y1:wz.cell? ⟨w.heap.size+1,1,none⟩=some (.int .i64 0):=KZ.cell 1;have y2:wz.cell? ⟨w.heap.size+1,2,none⟩=some (.slice none 0 0):=KZ.cell 2;have y3:wz.cell? ⟨w.heap.size+1,3,none⟩=some (.slice none 0 0):=KZ.cell 3;refine bodyPost_ret (v:=.tuple #[.agg #[.int .i64 0,.int .i64 0,.slice none 0 0,.slice none 0 0],.bool false]) (by simp [results,Tryz.results132,go_sem,y0,y1,y2,y3]) rfl ?_
 exact ⟨rfl,BZ⟩
theorem zA {w:World} (ht:Tab w) (ok:Bool) (xs:List Int) (hl:xs.length≤1048576) (w1:World) (hb:Below w.heap.size w w1) (a:Option Addr) (c:Nat) (h:Rd w1 w1.heap.size a (ae xs)) :
 Calls Tryz.prog 102 #[.bool ok,.slice (some ⟨w1.heap.size,0,none⟩) 1 1] (w1.alloc (.cells #[.slice a xs.length c] 24)) (kS (if ok=true then er [xs] else none) w):=by
 have B1:=ah w1 (.cells #[.slice a xs.length c] 24);have B2:=aa hb B1;refine (gx (w1.alloc (.cells #[.slice a xs.length c] 24)) (ht.to B2) ok (some ⟨w1.heap.size,0,none⟩) 1 [xs] (EI (Blk.new w1 [.slice a xs.length c] 24) (h.to B1)) (by simp) (fun x hx=>by simp at hx;subst hx;exact hl)).mono ?_
 rintro e w2 ⟨hb2,rfl⟩;exact ⟨aa B2 hb2,rfl⟩
def nw:List UInt8:=[112,97,114,101,116,111]
theorem A0:fx nw (fun d=>ju (eV d.A d.B d.A.length d.A.length) d):=by
 intro w b d x lo hlo hlx hE hok hca hB hR0;dsimp only;have hR:DRd w w.heap.size d x:=hR0.mono (Nat.le_of_lt hB.lt);obtain ⟨⟨a1,a2⟩,⟨b1,b2⟩,⟨v1,v2⟩,⟨l1,l2⟩,⟨k1,k2⟩,f1,f2⟩:=DD.ok_len hok;obtain ⟨hg,hv,hc,ht⟩:=DD.ok_parts hok;have LG:=Na (EP w d.R d.C x.a x.ca d.A x.b x.cb d.B hg hR.r.A hR.r.B);unfold J8 at LG;have hL:=sY d.A d.B d.A.length d.A.length;unfold ju;generalize eV d.A d.B d.A.length d.A.length=xs at LG hL ⊢;have LT:=Na (sN hE.tab xs (by omega))
 clear hL;obtain ⟨z0,z1,z2,z3,z4,z5,z6,z7,z8,z9,z10,z11⟩:=af hB
 try dsimp only at z0 z1 z2 z3 z4 z5 z6 z7 z8 z9 z10 z11
 have HB:=Na hB;have HLX:=Na hlx;have HLO:=Na hlo;have HR:=Na hR;have HR0:=Na hR0;have HE:=Na hE;clear hlx hlo hB hR hE hok hca a1 a2 b1 b2 v1 v2 l1 l2 k1 k2 f1 f2 hg hv hc ht hR0;obtain ⟨s,hs⟩:∃ s:ByteArray,s=bs nw:=⟨_,rfl⟩;have t_game:(s.toList == [103,97,109,101])=false:=by rw [hs,ab];rfl
 have t_values:(s.toList == [118,97,108,117,101,115])=false:=by rw [hs,ab];rfl
 have t_crowd:(s.toList == [99,114,111,119,100])=false:=by rw [hs,ab];rfl
 have t_turns:(s.toList == [116,117,114,110,115])=false:=by rw [hs,ab];rfl
 have t_turn:(s.toList == [116,117,114,110])=false:=by rw [hs,ab];rfl
 have t_pure:(s.toList == [112,117,114,101])=false:=by rw [hs,ab];rfl
 have t_pareto:(s.toList == [112,97,114,101,116,111])=true:=by rw [hs,ab];rfl
 rw [← hs];clear hs
 go_enter Tryz.func98,Tryz.ntmps98;go_wp2_with fail;refine LG.out.mono ?_;rintro e w1 ⟨a,c,rfl,hr,hb⟩;have LT1:=Na (LT.out _ hb a c hr);clear hr hb;go_wp2_with fail;refine LT1.out.mono ?_;rintro e w2 ⟨hb2,rfl⟩;go_wp2_with fail;go_ret3;exact RetAl.text _ hb2 HB.out HR.out HLX.out
def rk (c:Cr):Option (List UInt8):=if (fJ c).2.2=true then er [[(fJ c).1,(fJ c).2.1]] else none
def pR:List UInt8:=[112,114,105,99,101]
theorem Ce:fx pR (fun d=>some ((rk ⟨d.U,d.N,d.W,d.K⟩).map fun t=>(d,t))):=by
 intro w b d x lo hlo hlx hE hok hca hB hR0;dsimp only;have hR:DRd w w.heap.size d x:=hR0.mono (Nat.le_of_lt hB.lt);obtain ⟨⟨a1,a2⟩,⟨b1,b2⟩,⟨v1,v2⟩,⟨l1,l2⟩,⟨k1,k2⟩,f1,f2⟩:=DD.ok_len hok;obtain ⟨hg,hv,hc,ht⟩:=DD.ok_parts hok;have LG:=Na (FY w d.U d.N x.w x.cw d.W x.k x.ck d.K ⟨hR.r.W,hR.r.C⟩ (by omega) (by omega))
 unfold rk;generalize (fJ ⟨d.U,d.N,d.W,d.K⟩).1=m at LG ⊢;generalize (fJ ⟨d.U,d.N,d.W,d.K⟩).2.1=n at LG ⊢;generalize (fJ ⟨d.U,d.N,d.W,d.K⟩).2.2=q at LG ⊢;have LT:=Na (zA hE.tab q [m,n] (by simp))
 generalize (if q=true then er [[m,n]] else none)=tt at LT ⊢;obtain ⟨z0,z1,z2,z3,z4,z5,z6,z7,z8,z9,z10,z11⟩:=af hB
 try dsimp only at z0 z1 z2 z3 z4 z5 z6 z7 z8 z9 z10 z11
 have HB:=Na hB;have HLX:=Na hlx;have HLO:=Na hlo;have HR:=Na hR;have HR0:=Na hR0;have HE:=Na hE;clear hlx hlo hB hR hE hok hca a1 a2 b1 b2 v1 v2 l1 l2 k1 k2 f1 f2 hg hv hc ht hR0;obtain ⟨s,hs⟩:∃ s:ByteArray,s=bs pR:=⟨_,rfl⟩;have t_game:(s.toList == [103,97,109,101])=false:=by rw [hs,ab];rfl
 have t_values:(s.toList == [118,97,108,117,101,115])=false:=by rw [hs,ab];rfl
 have t_crowd:(s.toList == [99,114,111,119,100])=false:=by rw [hs,ab];rfl
 have t_turns:(s.toList == [116,117,114,110,115])=false:=by rw [hs,ab];rfl
 have t_turn:(s.toList == [116,117,114,110])=false:=by rw [hs,ab];rfl
 have t_pure:(s.toList == [112,117,114,101])=false:=by rw [hs,ab];rfl
 have t_pareto:(s.toList == [112,97,114,101,116,111])=false:=by rw [hs,ab];rfl
 have t_left:(s.toList == [108,101,102,116])=false:=by rw [hs,ab];rfl
 have t_safe:(s.toList == [115,97,102,101])=false:=by rw [hs,ab];rfl
 have t_rounds:(s.toList == [114,111,117,110,100,115])=false:=by rw [hs,ab];rfl
 have t_product:(s.toList == [112,114,111,100,117,99,116])=false:=by rw [hs,ab];rfl
 have t_price:(s.toList == [112,114,105,99,101])=true:=by rw [hs,ab];rfl
 rw [← hs];clear hs
 go_enter Tryz.func98,Tryz.ntmps98;go_wp2_with fail;refine LG.out.mono ?_;rintro e w1 ⟨rfl,hb⟩;have LT1:=Na (LT.out _ (aa hb (ah w1 (.cells #[.int .i64 m,.int .i64 n] 2))) (some ⟨w1.heap.size,0,none⟩) 2 (fw (Blk.new w1 [.int .i64 m,.int .i64 n] 2)));rw [World.size_alloc] at LT1;clear hb;go_wp2_with fail;refine LT1.out.mono ?_;rintro e w2 ⟨hb2,rfl⟩;go_wp2_with fail;go_ret3;exact RetAl.text _ hb2 HB.out HR.out HLX.out
def oR (d:DD):Option (DD × List UInt8):=if bt (fh (fy ⟨d.U,d.N,d.W,d.K⟩) ⟨d.U,d.N,d.W,d.K⟩)=true then some ({ d with K:=(fh (fy ⟨d.U,d.N,d.W,d.K⟩) ⟨d.U,d.N,d.W,d.K⟩).costs },li) else none
def pQ:List UInt8:=[116,111,108,108,115]
theorem Cc:fx pQ (fun d=>some (oR d)):=by
 intro w b d x lo hlo hlx hE hok hca hB hR0;dsimp only;have hR:DRd w w.heap.size d x:=hR0.mono (Nat.le_of_lt hB.lt);obtain ⟨⟨a1,a2⟩,⟨b1,b2⟩,⟨v1,v2⟩,⟨l1,l2⟩,⟨k1,k2⟩,f1,f2⟩:=DD.ok_len hok;obtain ⟨hg,hv,hc,ht⟩:=DD.ok_parts hok;obtain ⟨R,C,A,B,P,T,V,dU,dN,W,K,F⟩:=d;dsimp only at hc;obtain ⟨u,n,e1,e2⟩:∃ u n:Nat,dU=(u:Int)∧dN=(n:Int):=⟨dU.toNat,dN.toNat,by have h:1≤dU:=(ee hc).u1;omega,by have h:1≤dN:=(ee hc).r1;omega⟩;subst e1 e2;have hb1:=hB.lt;have LY:=Na (fun h=>Ci w u n x.w x.cw W x.k x.ck K ⟨hR.r.W,hR.r.C⟩ hc h (by dsimp only at l2;omega) (by dsimp only at k2;omega))
 have LN:=Na (fun h=>DO w u n x.w x.cw W x.k x.ck K ⟨hR.r.W,hR.r.C⟩ hc h (by dsimp only at l2;omega) (by dsimp only at k2;omega))
 unfold Er at LY;have HTy:Hid (bt (fh (fy ⟨u,n,W,K⟩) ⟨u,n,W,K⟩)=true→oR ⟨R,C,A,B,P,T,V,u,n,W,K,F⟩=some (⟨R,C,A,B,P,T,V,u,n,W,(fh (fy ⟨u,n,W,K⟩) ⟨u,n,W,K⟩).costs,F⟩,li)):=fun h=>if_pos h
 have HTn:Hid (bt (fh (fy ⟨u,n,W,K⟩) ⟨u,n,W,K⟩)=false→oR ⟨R,C,A,B,P,T,V,u,n,W,K,F⟩=none):=fun h=>if_neg (by show ¬ bt (fh (fy ⟨u,n,W,K⟩) ⟨u,n,W,K⟩)=true;rw [h];decide)
 have eW:(fh (fy ⟨u,n,W,K⟩) ⟨u,n,W,K⟩).ways=W:=rfl;have eU:(fh (fy ⟨u,n,W,K⟩) ⟨u,n,W,K⟩).U=u:=rfl;have eN:(fh (fy ⟨u,n,W,K⟩) ⟨u,n,W,K⟩).R=n:=rfl;rw [eW,eU,eN] at LY;clear eW eU eN;generalize (fh (fy ⟨u,n,W,K⟩) ⟨u,n,W,K⟩)=tc at LY LN HTy HTn;generalize oR ⟨R,C,A,B,P,T,V,u,n,W,K,F⟩=tt at HTy HTn ⊢;obtain ⟨z0,z1,z2,z3,z4,z5,z6,z7,z8,z9,z10,z11⟩:=af hB
 try dsimp only at z0 z1 z2 z3 z4 z5 z6 z7 z8 z9 z10 z11
 have HB:=Na hB;have HLX:=Na hlx;have HLO:=Na hlo;have HR:=Na hR;have HR0:=Na hR0;have HE:=Na hE;clear hlx hlo hB hR hE hok hca a1 a2 b1 b2 v1 v2 l1 l2 k1 k2 f1 f2 hg hv hc ht hR0;obtain ⟨s,hs⟩:∃ s:ByteArray,s=bs pQ:=⟨_,rfl⟩;have t_game:(s.toList == [103,97,109,101])=false:=by rw [hs,ab];rfl
 have t_values:(s.toList == [118,97,108,117,101,115])=false:=by rw [hs,ab];rfl
 have t_crowd:(s.toList == [99,114,111,119,100])=false:=by rw [hs,ab];rfl
 have t_turns:(s.toList == [116,117,114,110,115])=false:=by rw [hs,ab];rfl
 have t_turn:(s.toList == [116,117,114,110])=false:=by rw [hs,ab];rfl
 have t_pure:(s.toList == [112,117,114,101])=false:=by rw [hs,ab];rfl
 have t_pareto:(s.toList == [112,97,114,101,116,111])=false:=by rw [hs,ab];rfl
 have t_left:(s.toList == [108,101,102,116])=false:=by rw [hs,ab];rfl
 have t_safe:(s.toList == [115,97,102,101])=false:=by rw [hs,ab];rfl
 have t_rounds:(s.toList == [114,111,117,110,100,115])=false:=by rw [hs,ab];rfl
 have t_product:(s.toList == [112,114,111,100,117,99,116])=false:=by rw [hs,ab];rfl
 have t_price:(s.toList == [112,114,105,99,101])=false:=by rw [hs,ab];rfl
 have t_tolls:(s.toList == [116,111,108,108,115])=true:=by rw [hs,ab];rfl
 rw [← hs];clear hs
 go_enter Tryz.func98,Tryz.ntmps98;go_wp2_with fail
 cases hvt:bt tc with
 | true =>
   refine (LY.out hvt).mono ?_;rintro e w1 ⟨a2,c2,a3,c3,rfl,⟨q1,q2⟩,hb⟩;have KB:=HB.out.same hb;have KT:=HR0.out.below hb (Nat.le_of_lt HB.out.lt);obtain ⟨y0,y1,y2,y3,y4,y5,y6,y7,y8,y9,y10,y11⟩:=af KB;dsimp only at y0 y1 y2 y3 y4 y5 y6 y7 y8 y9 y10 y11;have g7:=KB.free 7;have g8:=KB.free 8;have g9:=KB.free 9;have g10:=KB.free 10;have PT:=Na (uj KB KT u n W a2 c2 tc.costs a3 c3 (ka q1 hb1 (Nat.le_refl _)) (ka q2 hb1 (Nat.le_refl _)));have hbb:=Na hb;clear q1 q2 KB KT hb1 hb LY LN;go_wp2_with fail;go_ret3;rw [HTy.out hvt];exact PT.out.yes hbb.out HLO.out HLX.out li
 | false =>
   refine (LN.out hvt).mono ?_;rintro e w1 ⟨rfl,hb⟩;have KB:=HB.out.same hb;have KT:=HR0.out.below hb (Nat.le_of_lt HB.out.lt);obtain ⟨y0,y1,y2,y3,y4,y5,y6,y7,y8,y9,y10,y11⟩:=af KB;dsimp only at y0 y1 y2 y3 y4 y5 y6 y7 y8 y9 y10 y11;have g7:=KB.free 7;have g8:=KB.free 8;have g9:=KB.free 9;have g10:=KB.free 10;have PT:=Na (uj KB KT 0 0 [] none 0 [] none 0 (qM _ _) (qM _ _));have hbb:=Na hb;clear KB KT hb1 hb LY LN;go_wp2_with fail;go_ret3;rw [HTn.out hvt];exact PT.out.no hbb.out _
def gr (T:Nat) (xs ow:List Int) (n:Nat):List Int:=(List.range n).map fun i=>fD T xs ow i (i:Int)
theorem G5 (T:Nat) (xs ow:List Int) (n:Nat):gr T xs ow (n+1)=gr T xs ow n ++ [fD T xs ow n (n:Int)]:=by
 unfold gr;rw [List.range_succ,List.map_append];rfl
theorem ua (T:Nat) (xs ow:List Int) (n:Nat):(gr T xs ow n).length=n:=by simp [gr]
theorem CY {T:Nat} {xs ow:List Int} (h:∀ x∈xs,0≤x∧x≤1000) (hT:T≤8) (n:Nat):∀ x∈gr T xs ow n,0≤x∧x≤8000:=by
 intro x hx;obtain ⟨i,_,rfl⟩:=List.mem_map.1 hx;have:=lz h i (i:Int) T (T:=T) (ow:=ow);unfold fD;omega
def jc:Int:=1000000000000
def fE:List Int→Int→Int
 | [],p=>p
 | x :: r,p=>fE r (min (p * x) (jc+1))
def jN (l:List Int):Int:=if bF l 0 then 0 else fE l 1
theorem Ep {l:List Int} {k:Nat} {x:Int} (h:l[k]? = some x) (p:Int):fE (l.take (k+1)) p=min (fE (l.take k) p * x) (jc+1):=by
 have app:∀ (a b:List Int) (p:Int),fE (a ++ b) p=fE b (fE a p):=by
  intro a
  induction a with
  | nil=>intro b p;rfl
  | cons y a ih=>intro b p;rw [List.cons_append,fE,fE,ih]
 rw [List.take_add_one,h,app];rfl
theorem A3 {l:List Int} (h:∀ x∈l,0≤x):∀ p,0≤p→p≤jc+1→0≤fE l p∧fE l p≤jc+1:=by
 induction l with
 | nil=>intro p h0 h1;exact ⟨h0,h1⟩
 | cons x r ih =>
   intro p h0 h1;rw [fE];have hx:=h x (by simp)
   have:=Int.mul_nonneg h0 hx;exact ih (fun y hy=>h y (List.mem_cons_of_mem _ hy)) _ (by unfold jc;omega) (by omega)
theorem JC {l:List Int} (h:∀ x∈l,0≤x):0≤jN l∧jN l≤jc+1:=by
 unfold jN
 split
 · unfold jc;omega
 · exact A3 h 1 (by omega) (by unfold jc;omega)
def jZ (P T:Nat) (xs ch:List Int):dQ→dQ
 | none=>some (ch,jN (gr T xs ch P))
 | some (b,m)=>if m<jN (gr T xs ch P) then some (ch,jN (gr T xs ch P)) else some (b,m)
def kT (P T:Nat) (xs:List Int) (t:Nat):dQ:=dH P T (jZ P T xs) t
def nP (P T:Nat):Bool:=decide (P ^ T≤4096)
def qb (P T:Nat) (xs:List Int):Option (List Int × Int):=if nP P T then match kT P T xs (P ^ T) with
 | none=>none
 | some (b,m)=>if m≤jc then some (b,m) else none
 else none
theorem vv (P T:Nat) (xs:List Int) (t:Nat):kT P T xs (t+1)=jZ P T xs (cu P T t) (kT P T xs t):=rfl
theorem EH (P T:Nat) (xs:List Int):∀ t,0<t→∃ b m,kT P T xs t=some (b,m)
 | 0,h=>by omega
 | t+1,_=>by
   rw [vv]
   cases kT P T xs t with
   | none=>exact ⟨_,_,rfl⟩
   | some q =>
     obtain ⟨b,m⟩:=q;unfold jZ
     split
     · rename_i h;cases h
     · rename_i b' m' h
       injection h with h;injection h with h1 h2;subst h1 h2
       split
       · exact ⟨_,_,rfl⟩
       · exact ⟨_,_,rfl⟩
theorem AU {P T:Nat} {xs:List Int} (h:∀ x∈xs,0≤x∧x≤1000) (hT:T≤8):∀ t b m,kT P T xs t=some (b,m)→b.length=T∧0≤m∧m≤jc+1∧∃ k,k<t∧b=cu P T k
 | 0,b,m,hm=>by cases hm
 | t+1,b,m,hm=>by
   have hp:=JC (l:=gr T xs (cu P T t) P) (fun x hx=>(CY h hT P x hx).1)
   rw [vv] at hm
   cases hq:kT P T xs t with
   | none =>
     rw [hq] at hm;injection hm with hm;injection hm with h1 h2;subst h1 h2
     exact ⟨fH P T t,hp.1,hp.2,t,by omega,rfl⟩
   | some q =>
     obtain ⟨b',m'⟩:=q;rw [hq] at hm;have ih:=AU h hT t b' m' hq;unfold jZ at hm;simp only at hm
     split at hm
     · injection hm with hm;injection hm with h1 h2;subst h1 h2
       exact ⟨fH P T t,hp.1,hp.2,t,by omega,rfl⟩
     · injection hm with hm;injection hm with h1 h2;subst h1 h2
       obtain ⟨i1,i2,i3,k,hk,i4⟩:=ih;exact ⟨i1,i2,i3,k,by omega,i4⟩
theorem Fd (S:Nat→World→Prop) (K0:Nat) (caps0:Array Value) (hK:∀ (args:Array Value) (w:World),(callFunc K0 args).run Tryz.prog w=.ok (.enter K0 args) w)
 (w:World) (P T:Nat) (aV:Option Addr) (cV:Nat) (xV:List Int) (p1:1≤P) (p6:P≤6) (t1:1≤T) (t8:T≤8)
 (hS:∀ t w1 w2,S t w1→w1.grownBy w2 (some (w.heap.size+1))→S t w2)
 (hdo:∀ t w1 c,S t w1→t<P ^ T→w.heap.size+2≤w1.heap.size→Rd w1 w1.heap.size (some ⟨w.heap.size+1,0,none⟩) (ae (cu P T t))→Calls Tryz.prog K0 (#[.slice (some ⟨w.heap.size+1,0,none⟩) T c] ++ caps0) w1 fun e w'=>e=.returned (.tuple #[])∧S (t+1) w'∧Touch w1 w' 0 w.heap.size)
 (hs:S 0 w) :
 Calls Tryz.prog 222 #[.agg #[.int .i64 P,.int .i64 T,.slice aV xV.length cV],.func (.func K0) #[] caps0] w fun e w'=>e=.returned (.bool (nP P T))∧S (nU (nP P T) (P ^ T)) w':=by
 have hN8:T≤8:=t8;have hN1:1≤T:=t1;have hL8:P≤8:=by omega
 have hL1:1≤P:=p1;have HYes:Hid (P ^ T≤4096→nP P T=true):=fun h=>decide_eq_true h
 have HNo:Hid (4096<P ^ T→nP P T=false):=fun h=>decide_eq_false (by omega)
 have HS:=Na hS;have HD:=Na hdo;have HPw:=Na (fun k (hk:k≤T)=>C5 (L:=P) (k:=k) hL8 (by omega))
 have Hsp:=Na (fun t ht=>mx hL1 T t ht)
 have Hln:=Na (fun t=>fH P T t)
 have KA:=Na (Blk.new w [.int .i64 P,.int .i64 T,.slice aV xV.length cV] 28);have S1:Hid (S 0 (w.alloc (.cells #[.int .i64 P,.int .i64 T,.slice aV xV.length cV] 28))):=hS 0 w _ hs (dh (ah _ _) _);clear hS hdo hs;generalize nP P T=few at *
 go_enter Tryz.func222,Tryz.ntmps222;go_wp2_with fail
 go_loopw [10,5] (fun i m wr=>∃ (k M:Nat),k≤T∧i=.int .i64 k∧m=.int .i64 M∧Hid (M=P ^ k)∧wr=w.alloc (.cells #[.int .i64 P,.int .i64 T,.slice aV xV.length cV] 28)) (fun i _ _=>T - (intOf i).toNat)
 case atStart=>exact ⟨0,1,Nat.zero_le _,rfl,rfl,rfl,rfl⟩
 case round =>
  obtain ⟨k,M,hk,rfl,rfl,hP,rfl⟩:=hrel
  by_cases hlt:k<T
  · have hPb:M≤16777216:=by rw [hP.out];exact HPw.out k hk
    have hm0:(0:Int)≤(M:Int) * (P:Int):=Int.mul_nonneg (by omega) (by omega)
    have hmN:M * P≤16777216 * 8:=Nat.mul_le_mul hPb hL8;have hm1:(M:Int) * (P:Int)≤134217728:=by
     have:((M * P:Nat):Int)=(M:Int) * (P:Int):=by simp
     omega
    have hcast:Hid (((M * P:Nat):Int)=(M:Int) * (P:Int)):=by simp [Hid]
    have HP2:Hid (M * P=P ^ (k+1)):=by show _=_;rw [yU,hP.out]
    clear hmN hP;go_wp2_with fail;go_roundw
    case rel=>exact ⟨k+1,M * P,by omega,by go_num,by rw [hcast.out],HP2,by first | trivial | rfl⟩
    case measure=>simp [intOf];omega
  · have:k=T:=by omega
    subst this;have hPb:M≤16777216:=by rw [hP.out];exact HPw.out k hk
    by_cases hgt:(4096:Int)<(M:Int)
    · have HF:=Na (HNo.out (by rw [← hP.out];omega))
      have HS0:Hid (S (nU few (P ^ k)) (w.alloc (.cells #[.int .i64 P,.int .i64 k,.slice aV xV.length cV] 28))):=by rw [HF.out,Dk];exact S1.out
      clear hP HYes HNo;go_wp2_with fail;go_ret;exact ⟨av HF.out.symm,HS0.out⟩
    · have HF:=Na (HYes.out (by rw [← hP.out];omega))
      have HPN:=Na hP.out;clear hP HYes HNo HPw
      go_wp2_with (at_make;refine gU _ rfl _ _ 24 rfl 2 (.int .i64 0) 8 Tryz.underlying24 aU rfl _ _ k rfl rfl (by omega) (by unfold maxLen;omega) ?_)
      intro w2 hb2 hw2 hs2
      try simp at hs2
      try simp at hb2
      have KB:Hid (Blk w2 (w.heap.size+1) (ae (cu P k 0)) 2):=by rw [cu,← fV];exact hb2
      have KA2:=Na (KA.out.below hw2 (by omega))
      have S2:=Na (HS.out 0 _ _ S1.out (dh (hw2.mono (by simp)) _))
      have hsz:w.heap.size+2≤w2.heap.size:=by omega
      clear hb2 hw2 hs2 S1 KA;go_wp2_with fail
      go_loopw [23] (fun i wr=>∃ t:Nat,t≤M∧i=.int .i64 t∧Hid (S t wr)∧Hid (Blk wr (w.heap.size+1) (ae (cu P k t)) 2)∧Hid (Blk wr w.heap.size [.int .i64 P,.int .i64 k,.slice aV xV.length cV] 28)∧w.heap.size+2≤wr.heap.size) (fun i _=>M - (intOf i).toNat)
      case atStart=>exact ⟨0,Nat.zero_le _,rfl,S2.out,KB.out,KA2.out,hsz⟩
      case round =>
       clear S2 KB KA2 hsz;obtain ⟨t,ht,rfl,hSt,hG,hA,hsz⟩:=hrel
       by_cases htl:t<M
       · have htN:t<P ^ k:=by rw [← HPN.out];exact htl
         have HD1:=Na (HD.out t wr k hSt.out htN hsz (hG.out.rd (by omega)))
         have Hdg:=Na (Hsp.out t htN).1;have Hcl:=Na (Hln.out t);have Hnx:Hid (cu P k (t+1)=(cd P (cu P k t) k).1):=rfl;have hk8:k≤8:=hN8;clear hSt htN;have hKK:=Na hK;go_wp2_with fail;refine HD1.out.mono ?_;rintro e w3 ⟨rfl,hs3,ht3⟩;have hG3:=Na (hG.out.touch ht3 (by omega))
         have hA3:=Na (hA.out.touch ht3 (by omega))
         have hs3':=Na hs3;have hsz3:w.heap.size+2≤w3.heap.size:=Nat.le_trans hsz ht3.size;clear HD1 hs3 ht3 hG hA hsz;generalize cu P k t=ct at *
         go_wp2_with fail
         go_loopw [7] (fun i wi=>∃ (m:Nat) (j:Int) (cur:List Int),m≤k∧i=.int .i64 j∧Hid (j+1=(m:Int))∧Hid (cur.length=k)∧Hid (kK P cur)∧Hid (cd P ct k=cd P cur m)∧Hid (Blk wi (w.heap.size+1) (ae cur) 2)∧Hid (Blk wi w.heap.size [.int .i64 P,.int .i64 k,.slice aV xV.length cV] 28)∧Hid (S (t+1) wi)∧w.heap.size+2≤wi.heap.size) (fun i _=>(intOf i+1).toNat)
         case atStart=>exact ⟨k,_,ct,Nat.le_refl _,rfl,by show _=_;omega,Hcl.out,Hdg.out,rfl,hG3.out,hA3.out,hs3'.out,hsz3⟩
         case round =>
          clear hG3 hA3 hs3' hsz3 Hdg Hcl;obtain ⟨m,j,cur,hm,rfl,hj,hcl,hd,hnx,hG,hA,hSi,hsz⟩:=hrel
          cases m with
          | zero =>
            have:j = -1:=by have:=hj.out;omega
            subst this;have HG4:Hid (Blk wr (w.heap.size+1) (ae (cu P k (t+1))) 2):=by
             show Blk _ _ _ _
             rw [Hnx.out,hnx.out,cd];exact hG.out
            clear hnx hG hd;go_wp2_with fail;go_roundw
            case rel=>exact ⟨t+1,by omega,by go_num,hSi.out,HG4.out,hA.out,hsz⟩
            case measure=>simp [intOf];omega
          | succ m =>
            have:j=(m:Int):=by have:=hj.out;omega
            subst this;have hkc:m<cur.length:=by have:=hcl.out;omega
            have e1:=hG.out.at hkc;have f1:=hG.out.free m;obtain ⟨y0,y1⟩:=zR hd.out hkc;have Hdz:=Na (zL hd.out hL1 m);have hlt:m<k:=by omega
            have q2:=(hA.out.oth (g:=w.heap.size+1) (by omega) m (.int .i64 (cur.getD m 0+1))).cell 0
            simp only [List.getElem?_cons_zero,List.getElem?_cons_succ] at q2
            by_cases hy:cur.getD m 0+1<(P:Int)
            · have HF:Hid (cd P ct k=(cur.set m (cur.getD m 0+1),true)):=hnx.out.trans (vN hy)
              have HG2:Hid (Blk (wr.setCell ⟨w.heap.size+1,m,none⟩ (.int .i64 (cur.getD m 0+1))) (w.heap.size+1) (ae (cu P k (t+1))) 2):=by
               show Blk _ _ _ _
               rw [Hnx.out,HF.out];exact hG.out.setI m _
              have HA2:=Na (hA.out.oth (g:=w.heap.size+1) (by omega) m (.int .i64 (cur.getD m 0+1)))
              have HS2:=Na (HS.out _ _ _ hSi.out (cI wr (w.heap.size+1) m (.int .i64 (cur.getD m 0+1))));have e2:=(hG.out.setI m (cur.getD m 0+1)).at (k:=m) (by rw [List.length_set];exact hkc)
              have hge:(cur.set m (cur.getD m 0+1)).getD m 0=cur.getD m 0+1:=gy hkc _;rw [hge] at e2;have hsz2:w.heap.size+2≤(wr.setCell ⟨w.heap.size+1,m,none⟩ (.int .i64 (cur.getD m 0+1))).heap.size:=by simpa using hsz
              have Hsz2:=Na hsz2;generalize cur.getD m 0=y at *
              clear hnx hG hd hkc hge hsz2 hSi hA;go_wp2_with fail
              go_quiet (fail)
              go_wp2_with fail;go_roundw
              case rel=>exact ⟨t+1,by omega,by go_num,HS.out _ _ _ HS2.out (by first | exact World.grownBy.refl _ _ | exact dh (ag (Below.refl _ _) _) _),HG2.out,HA2.out,Hsz2.out⟩
              case measure=>simp [intOf];omega
            · have HF:Hid (cd P ct k=cd P (cur.set m 0) m):=hnx.out.trans (wS hy)
              have hS0:=hG.out.setI m (cur.getD m 0+1);have f2:=hS0.free m;have e2:=hS0.at (k:=m) (by rw [List.length_set];exact hkc)
              have hge:(cur.set m (cur.getD m 0+1)).getD m 0=cur.getD m 0+1:=gy hkc _;rw [hge] at e2;have HX:Hid (∀ d:Nat,Blk (((wr.setCell ⟨w.heap.size+1,m,none⟩ (.int .i64 (cur.getD m 0+1))).drewN d).setCell ⟨w.heap.size+1,m,none⟩ (.int .i64 0)) (w.heap.size+1) (ae (cur.set m 0)) 2):=fun d=>by
               have:=(hS0.drewN d).setI m 0;rwa [List.set_set] at this
              have HA2:Hid (∀ d:Nat,Blk (((wr.setCell ⟨w.heap.size+1,m,none⟩ (.int .i64 (cur.getD m 0+1))).drewN d).setCell ⟨w.heap.size+1,m,none⟩ (.int .i64 0)) w.heap.size [.int .i64 P,.int .i64 k,.slice aV xV.length cV] 28):=fun d=>((hA.out.oth (g:=w.heap.size+1) (by omega) m (.int .i64 (cur.getD m 0+1))).drewN d).oth (g:=w.heap.size+1) (by omega) m (.int .i64 0)
              have HS2:Hid (∀ d:Nat,S (t+1) (((wr.setCell ⟨w.heap.size+1,m,none⟩ (.int .i64 (cur.getD m 0+1))).drewN d).setCell ⟨w.heap.size+1,m,none⟩ (.int .i64 0))):=fun d =>
               HS.out _ _ _ (HS.out _ _ _ (HS.out _ _ _ hSi.out (cI wr (w.heap.size+1) m (.int .i64 (cur.getD m 0+1)))) (dh (ag (Below.refl _ _) d) _)) (cI _ (w.heap.size+1) m (.int .i64 0))
              have hcl2:Hid ((cur.set m 0).length=k):=by rw [Hid,List.length_set];exact hcl.out
              generalize cur.getD m 0=y at *
              clear hnx hG hd hkc hge hSi hA hS0;go_wp2_with fail
              go_quiet (fail)
              go_wp2_with fail;go_roundw
              case rel=>exact ⟨m,(m:Int) - 1,cur.set m 0,by omega,by go_num,by show _=_;omega,hcl2.out,Hdz.out,HF.out,HX.out _,HA2.out _,HS2.out _,by simpa using hsz⟩
              case measure=>simp [intOf]
       · have:t=M:=by omega
         subst this;have HST:Hid (S (nU few (P ^ k)) wr):=by rw [HF.out,nG,← HPN.out];exact hSt.out
         clear hSt hG hA;go_wp2_with fail;go_ret;exact ⟨av HF.out.symm,HST.out⟩
end Go.Proofs.YtbknhgapjjaelaaGreatDoor
