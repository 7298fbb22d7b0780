/-
  Part 33 of what the proof stands on: lemmas and contracts, each with its conditions ahead of the colon.
-/
import Derived.Deep.RegionHeld3
import Derived.Deep.DeepCutAuto
import Derived.Laws.EntriesVeiled
import Derived.Test.YtbknhgapjjaelaaGreatDoorPk01
import Derived.Test.YtbknhgapjjaelaaGreatDoorPk03
import Derived.Test.YtbknhgapjjaelaaGreatDoorPk17
import Derived.Test.YtbknhgapjjaelaaGreatDoorPk22
import Derived.Test.YtbknhgapjjaelaaGreatDoorPk24
import Derived.Test.YtbknhgapjjaelaaGreatDoorPk28
import Derived.Test.YtbknhgapjjaelaaGreatDoorPk32
set_option maxRecDepth 100000
set_option maxHeartbeats 16000000
namespace Go.Proofs.YtbknhgapjjaelaaGreatDoor
set_option linter.unusedVariables false
set_option linter.unusedSimpArgs false
open Go.RowKit Ieee
theorem xt (w:World) (x y:Nat) (hx:floatToFloatBits .f32 x .f64=some (aq x)) (hy:floatToFloatBits .f32 y .f64=some (aq y)) :
 Calls Tryz.prog 240 #[.complex .f32 x y] w fun e w'=>e=.returned (.tuple #[.float .f64 (aq x),.float .f64 (aq y)])∧w=w':=by
 have m1:=ia (ip Tryz.underlying79) Tryz.underlying134 hx;have m2:=ia (ip Tryz.underlying79) Tryz.underlying134 hy;generalize aq x=X at *
 generalize aq y=Y at *
 clear hx hy
 go_enter Tryz.func240,Tryz.ntmps240;go_wp2_with fail
 go_ret2
 exact ⟨rfl,rfl⟩
theorem Jq (w:World) (x y:Nat) :
 Calls Tryz.prog 191 #[.complex .f32 x y] w fun e w'=>e=.returned (.complex .f32 x (jV y))∧w=w':=by
 have rn:Op.unary UnOp.neg (.float .f32 y)=pure (.float .f32 (y ^^^ 2147483648)):=rfl
 go_enter Tryz.func191,Tryz.ntmps191;go_wp2_with fail;go_ret;exact ⟨rfl,rfl⟩
theorem Hr (w:World) (a b c d ac bd ad bc u v:Nat) (h1:floatBits .mul .f64 a c=some ac) (h2:floatBits .mul .f64 b d=some bd) (h3:floatBits .mul .f64 a d=some ad) (h4:floatBits .mul .f64 b c=some bc) (h5:floatBits .sub .f64 ac bd=some u) (h6:floatBits .add .f64 ad bc=some v) :
 Calls Tryz.prog 241 #[.float .f64 a,.float .f64 b,.float .f64 c,.float .f64 d] w fun e w'=>e=.returned (.tuple #[.float .f64 u,.float .f64 v])∧w=w':=by
 have f1:=bI .mul .f64 134 h1;have f2:=bI .mul .f64 134 h2;have f3:=bI .mul .f64 134 h3;have f4:=bI .mul .f64 134 h4;have f5:=bI .sub .f64 134 h5;have f6:=bI .add .f64 134 h6;clear h1 h2 h3 h4 h5 h6
 go_enter Tryz.func241,Tryz.ntmps241;go_wp2_with fail
 go_ret2
 exact ⟨rfl,rfl⟩
theorem wh (w:World) (a b c d:Nat) (h:MulOk a b c d) :
 Calls Tryz.prog 190 #[.complex .f32 a b,.complex .f32 c d] w fun e w'=>e=.returned (.complex .f32 (qf a b c d) (jt a b c d))∧w=w':=by
 have LP1:=Na (fun v=>xt v a b h.wa h.wb)
 have LP2:=Na (fun v=>xt v c d h.wc h.wd)
 have LT:=Na (fun w=>Hr w _ _ _ _ _ _ _ _ _ _ h.ac h.bd h.ad h.bc h.u h.v)
 have m1:=ia (ip Tryz.underlying134) Tryz.underlying79 h.nu;have m2:=ia (ip Tryz.underlying134) Tryz.underlying79 h.nv;clear h;generalize qf a b c d=RE at *
 generalize jt a b c d=IM at *
 generalize bg (bk (aq a) (aq c)) (bk (aq b) (aq d))=u at *
 generalize iw (bk (aq a) (aq d)) (bk (aq b) (aq c))=v at *
 generalize aq a=wa at *
 generalize aq b=wb at *
 generalize aq c=wc at *
 generalize aq d=wd at *
 go_enter Tryz.func190,Tryz.ntmps190;go_wp2_with fail;refine (LP1.out _).mono ?_;rintro e w1 ⟨rfl,rfl⟩;go_wp2_with fail;refine (LP2.out _).mono ?_;rintro e w1 ⟨rfl,rfl⟩;go_wp2_with fail;refine (LT.out _).mono ?_;rintro e w1 ⟨rfl,rfl⟩;go_wp2_with fail;go_ret;exact ⟨rfl,rfl⟩
def iU:Nat:=1040187392
theorem J4:Bd single iU 0:=by
 refine ⟨false,8388608,-26,by decide +kernel,?_⟩
 have h1:=cZ (m:=1) (k:=26) (p:=-26) (q:=((0:Nat):Int)) (by rw [iC];omega) (by omega)
 rw [h1];exact ku (by decide)
theorem Hl (d:Datum):single.write d<4294967296:=by
 have:=single.write_lt d;have hw:2 ^ single.width=4294967296:=by decide
 rwa [hw] at this
theorem qZ (d:Datum):double.write d<18446744073709551616:=by
 have:=double.write_lt d;have hw:2 ^ double.width=18446744073709551616:=by decide
 rwa [hw] at this
theorem po {x:Nat} (h:ja x):Bd single (bx (aq x)).1 18∧Bd single (bx (aq x)).2 18:=FT (Il (qZ _) (qh h).2)
theorem wZ {xs:List Nat} (h:∀ x∈xs,ja x):∀ y∈(dK xs).map (·.1),Bd single y 18:=fun y hy=>by
 obtain ⟨p,hp,rfl⟩:=List.mem_map.1 hy;obtain ⟨x,hx,rfl⟩:=List.mem_map.1 hp;exact (po (h x hx)).1
theorem yc {xs:List Nat} (h:∀ x∈xs,ja x):∀ y∈(dK xs).map (·.2),Bd single y 18:=fun y hy=>by
 obtain ⟨p,hp,rfl⟩:=List.mem_map.1 hy;obtain ⟨x,hx,rfl⟩:=List.mem_map.1 hp;exact (po (h x hx)).2
theorem kF (xs:List Nat):(dK xs).length=xs.length:=by simp [dK]
structure NearOk (xs:List Nat) (x:Nat):Prop where
 mul:MulOk (kY xs) (kX xs) (bx (aq x)).1 (jV (bx (aq x)).2)
 by_:floatBits .mul .f32 iU (jt (kY xs) (kX xs) (bx (aq x)).1 (jV (bx (aq x)).2))=some (tP iU (jt (kY xs) (kX xs) (bx (aq x)).1 (jV (bx (aq x)).2)))
 add:floatBits .add .f32 x (tP iU (jt (kY xs) (kX xs) (bx (aq x)).1 (jV (bx (aq x)).2)))=some (pc iU xs x)
theorem Da {xs:List Nat} (h:∀ x∈xs,ja x) (h1:1≤xs.length) (h16:xs.length≤16) {x:Nat} (hx:x∈xs):NearOk xs x:=by
 obtain ⟨p1,p2⟩:=po (h x hx);have m1:=(ql (n:=xs.length) (wZ h) h1 (by omega) (by omega)).2
 have m2:=(ql (n:=xs.length) (yc h) h1 (by omega) (by omega)).2
 obtain ⟨k1,k2,_⟩:=LZ (k:=35) (l:=18) (by omega) (m1.mono (by omega)) (m2.mono (by omega)) p1 (KF p2)
 obtain ⟨r,e,b⟩:=pt (zd (k:=0+54) (by omega)) J4 k2
 have hr:tP iU (jt (kY xs) (kX xs) (bx (aq x)).1 (jV (bx (aq x)).2))=r:=by unfold tP;exact (congrArg (Option.getD · 0) e).trans rfl
 refine ⟨k1,by rw [hr];exact e,?_⟩
 exact Ld (h x hx) (by rw [hr];exact b.num)
theorem Kh (xs:List Nat) (x:Nat) (h:∃ r,single.add x (tP iU (jt (kY xs) (kX xs) (bx (aq x)).1 (jV (bx (aq x)).2)))=some r):pc iU xs x<4294967296:=by
 obtain ⟨r,e⟩:=h;have hr:pc iU xs x=r:=by unfold pc rF;rw [e];rfl
 unfold Format.add at e;rw [Option.map_eq_some_iff] at e;obtain ⟨d,_,e2⟩:=e;rw [hr,← e2];exact Hl d
theorem Jn {xs:List Nat} (h:∀ x∈xs,ja x) (h1:1≤xs.length) (h16:xs.length≤16):∀ y∈iG iU xs,y<4294967296:=fun y hy=>by
 obtain ⟨x,hx,rfl⟩:=List.mem_map.1 hy;exact Kh xs x ⟨_,(Da h h1 h16 hx).add⟩
def jF (xs:List Nat) (k:Nat):List Nat:=(xs.take k).map (pc iU xs)
def jj (xs:List Nat):Option (List Nat):=if jd (iG iU xs) then some (iG iU xs) else none
theorem Jx:(Tryz.prog.info? 229).map (fun i=>(i.zero,i.size,i.bytes))=some (some (.complex .f32 0 0),1,8):=by kernel_rfl
theorem yr (w:World) (a:Option Addr) (c:Nat) (xs:List Nat) (hR:Rd w w.heap.size a (dt xs)) (h1:1≤xs.length) (h16:xs.length≤16) (hf:jd xs=true) :
 Calls Tryz.prog 133 #[.slice a xs.length c,.float .f32 1040187392] w (vb w (jj xs)):=by
 have hn:∀ x∈xs,ja x:=fun x hx=>CP (List.all_eq_true.1 hf x hx)
 have LL:=Na (fun v=>ti v xs.length h1 (by omega))
 have LF:=Na (fun v (hb:Below w.heap.size w v)=>mD v a c xs (hR.to hb) (by omega))
 rw [hf] at LF;have LB:=Na (fun v=>qJ v 1040187392 J4.num)
 have LP:=Na (fun v k (hk:k<xs.length)=>(have hm:xs.getD k 0∈xs:=by rw [List.getD_eq_getElem?_getD,List.getElem?_eq_getElem hk];exact List.getElem_mem hk
  Fz v (aq (xs.getD k 0)) (qZ _) (Ml (qh (hn _ hm)).2) (Il (qZ _) (qh (hn _ hm)).2)))
 have CW:=Na (fun k (hk:k<xs.length)=>(have hm:xs.getD k 0∈xs:=by rw [List.getD_eq_getElem?_getD,List.getElem?_eq_getElem hk];exact List.getElem_mem hk
  ia (ip Tryz.underlying79) Tryz.underlying134 (qh (hn _ hm)).1))
 have NK:=Na (fun k (hk:k<xs.length)=>(have hm:xs.getD k 0∈xs:=by rw [List.getD_eq_getElem?_getD,List.getElem?_eq_getElem hk];exact List.getElem_mem hk
  Da hn h1 h16 hm))
 have LM:=Na (fun v aR cR hRd=>ym v aR cR (dK xs) hRd (by rw [kF];exact h1) (by rw [kF];exact h16) (wZ hn) (yc hn))
 rw [kF] at LM;have eM1:iO ((dK xs).map (·.1)) xs.length=kY xs:=rfl;have eM2:iO ((dK xs).map (·.2)) xs.length=kX xs:=rfl;rw [eM1,eM2] at LM;have HX:=Na hR;have AT:Hid (∀ k,k<xs.length→dK (xs.take (k+1))=dK (xs.take k) ++ [bx (aq (xs.getD k 0))]):=fun k hk=>by
  unfold dK;rw [List.take_add_one,List.map_append,List.getElem?_eq_getElem hk,List.getD_eq_getElem?_getD,List.getElem?_eq_getElem hk];rfl
 have AF:Hid (∀ k,k<xs.length→jF xs (k+1)=jF xs k ++ [pc iU xs (xs.getD k 0)]):=fun k hk=>by
  unfold jF;rw [List.take_add_one,List.map_append,List.getElem?_eq_getElem hk,List.getD_eq_getElem?_getD,List.getElem?_eq_getElem hk];rfl
 have AG:Hid (∀ k,k<xs.length→(ot (dK xs))[k]? = some (.complex .f32 (bx (aq (xs.getD k 0))).1 (bx (aq (xs.getD k 0))).2)):=fun k hk=>by
  unfold ot dK;simp [List.getD,List.getElem?_eq_getElem hk]
 have AL:Hid (∀ k,k≤xs.length→(dK (xs.take k)).length=k):=fun k hk=>by rw [kF,List.length_take];omega
 have NL:Hid (∀ k,k≤xs.length→(jF xs k).length=k):=fun k hk=>by unfold jF;rw [List.length_map,List.length_take];omega
 have AZ:Hid (dK (xs.take 0)=[]):=rfl;have NZ:Hid (jF xs 0=[]):=rfl;have AE:Hid (dK (xs.take xs.length)=dK xs):=by rw [Hid,List.take_length]
 have NE:Hid (jF xs xs.length=iG iU xs):=by rw [Hid];unfold jF;rw [List.take_length];rfl
 have HO:Hid (jj xs=if jd (iG iU xs) then some (iG iU xs) else none):=rfl
 have GL:Hid ((iG iU xs).length=xs.length):=by simp [Hid,iG]
 have NK1:=Na (fun k hk v=>wh v _ _ _ _ (NK.out k hk).mul)
 have NK2:=Na (fun k hk=>bI .mul .f32 79 (NK.out k hk).by_)
 have NK3:=Na (fun k hk=>bI .add .f32 79 (NK.out k hk).add)
 generalize jj xs=RO at *
 generalize kY xs=MR at *
 generalize kX xs=MI at *
 clear hR hf hn eM1 eM2 NK
 go_enter Tryz.func133,Tryz.ntmps133;go_wp2_with fail;refine (LL.out _).mono ?_;rintro e w1 ⟨rfl,rfl⟩;go_wp2_with fail;refine (LF.out _ (Below.refl _ _)).mono ?_;rintro e w1 ⟨rfl,hb1⟩;have HB1:=Na hb1;clear hb1 LF LL;go_wp2_with fail;refine (LB.out _).mono ?_;rintro e w2 ⟨rfl,rfl⟩;have HO0:=Na (bJ (bD w1 229) HB1.out.size);have HB2:=Na (aa HB1.out (ah w1 (.cells #[] 229)));clear HB1 LB;go_wp2_with fail
 go_loopw [6,31] (fun v iv wr=>∃ (k:Nat) (g c:Nat),k≤xs.length∧iv=.int .i64 k∧v=.slice (some ⟨g,0,none⟩) k c∧Hid (wr.ownsRow w.heap.size 229 1 (.slice (some ⟨g,0,none⟩) k c) k (ot (dK (xs.take k))))∧Hid (Below w.heap.size w wr)) (fun _ iv _=>xs.length - (intOf iv).toNat)
 case atStart=>exact ⟨0,_,0,Nat.zero_le _,rfl,rfl,(by rw [Hid,AZ.out];exact HO0.out),HB2.out⟩
 case round =>
  clear HO0 HB2;obtain ⟨k,g,c2,hk,rfl,rfl,hO,hW⟩:=hrel
  by_cases hlt:k<xs.length
  · obtain ⟨b,o,rfl,hbb,hcj⟩:=(HX.out.to hW.out).atF hlt
    have hck:=hcj k hlt;have LP1:=Na (fun v=>LP.out v k hlt)
    have cw:=CW.out k hlt;have AT1:=Na (AT.out k hlt);have AL1:=Na (AL.out k hk);clear hcj;generalize xs.getD k 0=x at *
    generalize aq x=X at *
    generalize bx X=P at *
    have hO':=hO.out;have hw2:=hW.out.size;go_wp2_with fail;refine (LP1.out _).mono ?_;rintro e w2 ⟨rfl,rfl⟩;clear LP1 cw
    go_wp2_with (at_builtin;refine aP _ rfl _ _ 228 rfl w.heap.size 229 (.complex .f32 0 0) 8 Tryz.underlying228 Jx rfl _ k _ rfl hO' (.complex .f32 P.1 P.2) rfl rfl (by omega) (by omega) hw2 ?_)
    intro v' w' ho hgr hng;obtain ⟨g2,c3,rfl⟩:=fk ho (by omega)
    have HO2:Hid (w'.ownsRow w.heap.size 229 1 (.slice (some ⟨g2,0,none⟩) (k+1) c3) (k+1) (ot (dK (xs.take (k+1))))):=by
     rw [Hid,AT1.out,E8];exact ho
    have HW3:=Na (ai hW.out hO' hgr (Nat.le_refl _) hw2);clear ho hgr hng hO' hO hW;go_wp2_with fail;go_roundw
    case rel=>exact ⟨k+1,g2,c3,by omega,by go_num,rfl,HO2,HW3.out⟩
    case measure=>simp [intOf];omega
  · obtain rfl:k=xs.length:=by omega
    rw [AE.out] at hO;have HRa:=Na (ay hO.out (Nat.le_refl _));have LM1:=Na (LM.out wr _ c2 HRa.out);clear LM LP CW AT AL AZ AE hO;go_wp2_with fail;refine LM1.out.mono ?_;rintro e w2 ⟨rfl,hb2⟩;have HRb:=Na (HRa.out.to hb2);have HW2:=Na (aa hW.out hb2);have HS2:=hW.out.size;have HS3:=hb2.size;have HO3:=Na (bJ (bD w2 79) (Nat.le_refl _));clear HRa hb2 LM1 hW;go_wp2_with fail
    go_loopw [11,52] (fun v iv wx=>∃ (k:Nat) (g c:Nat),k≤xs.length∧iv=.int .i64 k∧v=.slice (some ⟨g,0,none⟩) k c∧Hid (wx.ownsRow w2.heap.size 79 1 (.slice (some ⟨g,0,none⟩) k c) k (dt (jF xs k)))∧Hid (Below w2.heap.size w2 wx)) (fun _ iv _=>xs.length - (intOf iv).toNat)
    case atStart=>exact ⟨0,_,0,Nat.zero_le _,rfl,rfl,(by rw [Hid,NZ.out];exact HO3.out),ah _ _⟩
    case round =>
     clear HO3;obtain ⟨k,g3,c4,hk3,rfl,rfl,hO,hW⟩:=hrel
     by_cases hlt:k<xs.length
     · obtain ⟨b,o,rfl,hbb,hcj⟩:=((HX.out.to HW2.out).to hW.out).atF hlt
       have hck:=hcj k hlt;obtain ⟨b2,o2,v2,hga,hbb2,hck2,hx2⟩:=(HRb.out.to hW.out).getV (k:=k) (by rw [ky,kF];exact hlt)
       injection hga with hga
       injection hga with hg1 hg2
       subst hg1 hg2;rw [Nat.zero_add] at hck2;have hv:=hx2.out;rw [AG.out k hlt] at hv;injection hv with hv
       subst hv;have M1:=Na (NK1.out k hlt);have r2:=NK2.out k hlt;have r3:=NK3.out k hlt;have AF1:=Na (AF.out k hlt);clear hcj hx2;generalize pc iU xs (xs.getD k 0)=Y at *
       generalize jt MR MI (bx (aq (xs.getD k 0))).1 (jV (bx (aq (xs.getD k 0))).2)=IM at *
       generalize qf MR MI (bx (aq (xs.getD k 0))).1 (jV (bx (aq (xs.getD k 0))).2)=RE at *
       have LC:=Na (fun v=>Jq v (bx (aq (xs.getD k 0))).1 (bx (aq (xs.getD k 0))).2)
       generalize jV (bx (aq (xs.getD k 0))).2=P3 at *
       generalize (bx (aq (xs.getD k 0))).1=P1 at *
       generalize (bx (aq (xs.getD k 0))).2=P2 at *
       generalize tP iU IM=V at *
       generalize xs.getD k 0=x at *
       unfold iU at r2
       have hO':=hO.out;have hs3:=hW.out.size;have Rq:Hid (Rd wr wr.heap.size (some ⟨b,o,none⟩) (dt xs)):=HX.out.to (aa HW2.out hW.out);go_wp2_with fail;refine (LC.out _).mono ?_;rintro e w4 ⟨rfl,rfl⟩;go_wp2_with fail;refine (M1.out _).mono ?_;rintro e w4 ⟨rfl,rfl⟩;clear LC M1
       go_wp2_with (at_builtin;refine aP _ rfl _ _ 31 rfl w2.heap.size 79 (.float .f32 0) 4 Tryz.underlying31 tY rfl _ k _ rfl hO' (.float .f32 Y) rfl rfl (by omega) (by omega) hs3 ?_)
       intro v' w' ho hgr hng;obtain ⟨g4,c5,rfl⟩:=fk ho (by omega)
       have HO2:Hid (w'.ownsRow w2.heap.size 79 1 (.slice (some ⟨g4,0,none⟩) (k+1) c5) (k+1) (dt (jF xs (k+1)))):=by
        rw [Hid,AF1.out,tp];exact ho
       have HW3:=Na (ai hW.out hO' hgr (Nat.le_refl _) hs3);clear ho hgr hng hO' hO hW;go_wp2_with fail;go_roundw
       case rel=>exact ⟨k+1,g4,c5,by omega,by go_num,rfl,HO2,HW3.out⟩
       case measure=>simp [intOf];omega
     · obtain rfl:k=xs.length:=by omega
       rw [NE.out] at hO;have HRo:=Na (ay hO.out (Nat.le_refl _));have HBF:=Na (aa HW2.out hW.out);have LA:=mD wr (some ⟨g3,0,none⟩) c4 (iG iU xs) HRo.out (by rw [GL.out];omega)
       rw [GL.out] at LA;have LA:=Na LA;have hlen:=GL.out
       cases hfin:jd (iG iU xs) with
       | true =>
         rw [hfin] at LA HO;rw [if_pos rfl] at HO;have HO':=Na (bJ hO.out (show w.heap.size≤w2.heap.size by have:=HW2.out.size;exact this))
         clear NK1 NK2 NK3 AF AG NL NZ NE;go_wp2_with fail;refine LA.out.mono ?_;rintro e w4 ⟨rfl,hb4⟩;have HO4:=Na (aG HO'.out (hb4));have HB4:=Na (aa HBF.out hb4);clear hb4;go_wp2_with fail
         go_ret2
         rw [HO.out];exact ⟨HB4.out,_,_,by rw [GL.out];rfl,by rw [GL.out];exact HO4.out⟩
       | false =>
         rw [hfin] at LA HO;rw [if_neg (by decide)] at HO
         clear NK1 NK2 NK3 AF AG NL NZ NE;go_wp2_with fail;refine LA.out.mono ?_;rintro e w4 ⟨rfl,hb4⟩;have HB4:=Na (aa HBF.out hb4);clear hb4;go_wp2_with fail
         go_ret2
         rw [HO.out];exact ⟨HB4.out,rfl⟩
open Go.RowKit
theorem zf {P T:Nat} {xs l:List Int} {m:Int} (h:∀ x∈xs,0≤x∧x≤1000) (hT:T≤8) (e:qb P T xs=some (l,m)):l.length≤1048576∧-9223372036854775808≤m∧m≤9223372036854775807:=by
 rw [tw] at e
 cases hg:kH P T xs with
 | none=>rw [hg] at e;cases e
 | some p =>
   obtain ⟨b,k⟩:=p;rw [hg] at e;obtain ⟨h1,h2,h3⟩:=Aj h hT hg;simp only at e
   split at e
   · injection e with e;injection e with e1 e2;subst e1 e2
     exact ⟨by omega,by omega,by omega⟩
   · cases e
def lH:List UInt8:=[112,114,111,100,117,99,116]
theorem yw:fx lH (fun d=>some ((nm (qb d.P.toNat d.T.toNat d.V)).map fun t=>(d,t))):=by
 intro w b d x lo hlo hlx hE hok hca hB hR0;dsimp only;have hR:DRd w w.heap.size d x:=hR0.mono (Nat.le_of_lt hB.lt);obtain ⟨⟨a1,a2⟩,⟨b1,b2⟩,⟨v1,v2⟩,⟨l1,l2⟩,⟨k1,k2⟩,f1,f2⟩:=DD.ok_len hok;obtain ⟨hg,hv,hc,ht⟩:=DD.ok_parts hok;obtain ⟨R,C,A,B,dP,dT,V,U,N,W,K,F⟩:=d;obtain ⟨P,T,e1,e2,p1,p6,t1,t8,lV,-⟩:=cq hv;dsimp only at e1 e2 p1 p6 t1 t8 lV;subst e1 e2;have hbV:=(cq (U:=(P:Int)) (V:=(T:Int)) hv).choose_spec;have LG:=Na (vg w P T x.v x.cv V hv hR.r.V);dsimp only [Int.toNat_natCast];obtain ⟨r,hr⟩:∃ r,r=qb P T V:=⟨_,rfl⟩;rw [← hr] at LG ⊢;have HL:Hid (∀ l m,r=some (l,m)→l.length≤1048576∧-9223372036854775808≤m∧m≤9223372036854775807):=fun l m hl=>by
  obtain ⟨P',T',e1,e2,p1,p6,t1,t8,lV,hbb⟩:=cq hv;exact zf hbb (show T≤8 by omega) (by rw [← hr];exact hl)
 clear hr hbV;unfold RetT at LG;unfold nm;obtain ⟨z0,z1,z2,z3,z4,z5,z6,z7,z8,z9,z10,z11⟩:=af hB
 try dsimp only at z0 z1 z2 z3 z4 z5 z6 z7 z8 z9 z10 z11
 have HB:=Na hB;have HLX:=Na hlx;have HLO:=Na hlo;have HR:=Na hR;have HR0:=Na hR0;have HE:=Na hE;clear hlx hlo hB hR hE hok hca a1 a2 b1 b2 v1 v2 l1 l2 k1 k2 f1 f2 hg hv hc ht hR0 p1 p6 t1 t8 lV;obtain ⟨s,hs⟩:∃ s:ByteArray,s=bs lH:=⟨_,rfl⟩;have t_game:(s.toList == [103,97,109,101])=false:=by rw [hs,ab];rfl
 have t_values:(s.toList == [118,97,108,117,101,115])=false:=by rw [hs,ab];rfl
 have t_crowd:(s.toList == [99,114,111,119,100])=false:=by rw [hs,ab];rfl
 have t_turns:(s.toList == [116,117,114,110,115])=false:=by rw [hs,ab];rfl
 have t_turn:(s.toList == [116,117,114,110])=false:=by rw [hs,ab];rfl
 have t_pure:(s.toList == [112,117,114,101])=false:=by rw [hs,ab];rfl
 have t_pareto:(s.toList == [112,97,114,101,116,111])=false:=by rw [hs,ab];rfl
 have t_left:(s.toList == [108,101,102,116])=false:=by rw [hs,ab];rfl
 have t_safe:(s.toList == [115,97,102,101])=false:=by rw [hs,ab];rfl
 have t_rounds:(s.toList == [114,111,117,110,100,115])=false:=by rw [hs,ab];rfl
 have t_product:(s.toList == [112,114,111,100,117,99,116])=true:=by rw [hs,ab];rfl
 rw [← hs];clear hs
 go_enter Tryz.func98,Tryz.ntmps98;go_wp2_with fail;refine LG.out.mono ?_
 cases r with
 | none =>
   rintro e w1 ⟨hb,rfl⟩;have LT1:=Na (jq w1 (HE.out.tab.to hb) false none 0 [] 0 (.inl rfl) (by simp) (by omega) (by omega))
   rw [List.length_nil] at LT1;have HBB:=Na hb;clear hb;go_wp2_with fail;refine LT1.out.mono ?_;rintro e w2 ⟨hb2,t,rfl,ht⟩;have HB2:=Na (aa HBB.out hb2);clear hb2 ht;go_wp2_with fail;go_ret3;exact RetAl.textN none HB2.out HB.out HR.out HLX.out (fun l hl=>by cases hl)
 | some p =>
   obtain ⟨l,m⟩:=p;rintro e w1 ⟨hb,a',c',rfl,hr⟩;obtain ⟨h1,h2,h3⟩:=HL.out l m rfl;have LT1:=Na (jq w1 (HE.out.tab.to hb) true a' c' l m (ay hr (Nat.le_refl _)) h1 h2 h3);have HBB:=Na hb;clear hb hr h1 h2 h3;go_wp2_with fail;refine LT1.out.mono ?_;rintro e w2 ⟨hb2,t,rfl,ht⟩;have HB2:=Na (aa HBB.out hb2);have HT2:=Na ht;clear hb2 ht;go_wp2_with fail;go_ret3;exact RetAl.textN (qn true l m) HB2.out HB.out HR.out HLX.out HT2.out
def nZ (d:DD):Option (DD × List UInt8):=match jj d.F with
 | none=>none
 | some fs=>some ({ d with F:=fs },li)
theorem CA {F:List Nat} (h:iE F=true):1≤F.length∧F.length≤16∧jd F=true:=by
 unfold iE at h;rw [Bool.and_eq_true,Bool.and_eq_true,decide_eq_true_eq,decide_eq_true_eq] at h;exact ⟨h.1.1,h.1.2,h.2⟩
def pu:List UInt8:=[97,103,114,101,101]
theorem Bn:fx pu (fun d=>some (nZ d)):=by
 intro w b d x lo hlo hlx hE hok hca hB hR0;dsimp only;have hR:DRd w w.heap.size d x:=hR0.mono (Nat.le_of_lt hB.lt);obtain ⟨⟨a1,a2⟩,⟨b1,b2⟩,⟨v1,v2⟩,⟨l1,l2⟩,⟨k1,k2⟩,f1,f2⟩:=DD.ok_len hok;obtain ⟨hg,hv,hc,ht⟩:=DD.ok_parts hok;have hb1:=hB.lt;obtain ⟨g1,g16,gf⟩:=CA ht;have LG:=Na (yr w x.f x.cf d.F hR.r.T g1 g16 gf);unfold vb at LG;have HLT:Hid (∀ fs,jj d.F=some fs→∀ y∈fs,y<4294967296):=fun fs hfs=>by
  unfold jj at hfs
  split at hfs
  · injection hfs with hfs;subst hfs;exact Jn (fun y hy=>CP (List.all_eq_true.1 gf y hy)) g1 g16
  · cases hfs
 have HD:Hid (nZ d=match jj d.F with
  | none=>none
  | some fs=>some ({ d with F:=fs },li)):=rfl
 generalize nZ d=AD at *
 generalize jj d.F=r at *
 clear g1 g16 gf;obtain ⟨z0,z1,z2,z3,z4,z5,z6,z7,z8,z9,z10,z11⟩:=af hB
 try dsimp only at z0 z1 z2 z3 z4 z5 z6 z7 z8 z9 z10 z11
 have HB:=Na hB;have HLX:=Na hlx;have HLO:=Na hlo;have HR:=Na hR;have HR0:=Na hR0;have HE:=Na hE;clear hlx hlo hB hR hE hok hca a1 a2 b1 b2 v1 v2 l1 l2 k1 k2 f1 f2 hg hv hc ht hR0;obtain ⟨s,hs⟩:∃ s:ByteArray,s=bs pu:=⟨_,rfl⟩;have t_game:(s.toList == [103,97,109,101])=false:=by rw [hs,ab];rfl
 have t_values:(s.toList == [118,97,108,117,101,115])=false:=by rw [hs,ab];rfl
 have t_crowd:(s.toList == [99,114,111,119,100])=false:=by rw [hs,ab];rfl
 have t_turns:(s.toList == [116,117,114,110,115])=false:=by rw [hs,ab];rfl
 have t_turn:(s.toList == [116,117,114,110])=false:=by rw [hs,ab];rfl
 have t_pure:(s.toList == [112,117,114,101])=false:=by rw [hs,ab];rfl
 have t_pareto:(s.toList == [112,97,114,101,116,111])=false:=by rw [hs,ab];rfl
 have t_left:(s.toList == [108,101,102,116])=false:=by rw [hs,ab];rfl
 have t_safe:(s.toList == [115,97,102,101])=false:=by rw [hs,ab];rfl
 have t_rounds:(s.toList == [114,111,117,110,100,115])=false:=by rw [hs,ab];rfl
 have t_product:(s.toList == [112,114,111,100,117,99,116])=false:=by rw [hs,ab];rfl
 have t_price:(s.toList == [112,114,105,99,101])=false:=by rw [hs,ab];rfl
 have t_tolls:(s.toList == [116,111,108,108,115])=false:=by rw [hs,ab];rfl
 have t_agree:(s.toList == [97,103,114,101,101])=true:=by rw [hs,ab];rfl
 rw [← hs];clear hs
 go_enter Tryz.func98,Tryz.ntmps98;go_wp2_with fail;refine LG.out.mono ?_
 cases r with
 | none =>
   rintro e w1 ⟨hb,rfl⟩;have KB:=HB.out.same hb;have KT:=HR0.out.below hb (Nat.le_of_lt HB.out.lt);obtain ⟨y0,y1,y2,y3,y4,y5,y6,y7,y8,y9,y10,y11⟩:=af KB;have g11:=KB.free 11;have PT:=Na (pZ KB KT [] none 0 (qM _ _) (fun y hy=>by cases hy))
   have hbb:=Na hb;rw [List.length_nil] at PT;clear KB KT hb hb1;go_wp2_with fail;go_ret3;rw [HD.out];exact PT.out.no hbb.out _
 | some fs =>
   rintro e w1 ⟨hb,a,c,rfl,ho⟩;have KB:=HB.out.same hb;have KT:=HR0.out.below hb (Nat.le_of_lt HB.out.lt);obtain ⟨y0,y1,y2,y3,y4,y5,y6,y7,y8,y9,y10,y11⟩:=af KB;have g11:=KB.free 11;have PT:=Na (pZ KB KT fs a c (xI (OwnF.of_own ho) hb1 (Nat.le_refl _)) (HLT.out fs rfl));have hbb:=Na hb;clear KB KT hb ho hb1;go_wp2_with fail;go_ret3;rw [HD.out];exact PT.out.yes hbb.out HLO.out HLX.out li
def gQ (C:Nat) (xs cnt:List Int) (i:Nat):Nat→Int
 | 0=>0
 | k+1=>gQ C xs cnt i k+cnt.getD k 0 * aQ C xs i k
def fc (C:Nat) (xs cnt:List Int):Nat→Int × Int
 | 0=>(0,0)
 | i+1=>if i=0∨(fc C xs cnt i).2<gQ C xs cnt i C then ((i:Int),gQ C xs cnt i C) else fc C xs cnt i
def dF (R C:Nat) (xs cnt:List Int):Nat:=(fc C xs cnt R).1.toNat
theorem nl (C:Nat) (xs cnt:List Int):∀ i,1≤i→∃ j:Nat,(fc C xs cnt i).1=(j:Int)∧j<i
 | 0,h=>by omega
 | i+1,_=>by
   rw [fc]
   split
   · exact ⟨i,rfl,by omega⟩
   · rename_i hn
     obtain ⟨j,e,hj⟩:=nl C xs cnt i (by omega)
     exact ⟨j,e,by omega⟩
def bQ (R C:Nat) (xA yB:List Int):Nat→List Int × List Int
 | 0=>((List.replicate R 0).set 0 1,(List.replicate C 0).set 0 1)
 | n+1=>((bQ R C xA yB n).1.set (dF R C xA (bQ R C xA yB n).2) ((bQ R C xA yB n).1.getD (dF R C xA (bQ R C xA yB n).2) 0+1),(bQ R C xA yB n).2.set (dF C R yB (bQ R C xA yB n).1) ((bQ R C xA yB n).2.getD (dF C R yB (bQ R C xA yB n).1) 0+1))
theorem iy {xs:List Int} {lo hi:Int} (h:∀ x∈xs,lo≤x∧x≤hi) (h0:lo≤0) (h1:0≤hi) (k:Nat):lo≤xs.getD k 0∧xs.getD k 0≤hi:=by
 rw [List.getD]
 cases hk:xs[k]? with
 | none=>exact ⟨h0,h1⟩
 | some x=>exact h x (List.mem_of_getElem? hk)
theorem rN (R C:Nat) (xA yB:List Int):∀ n:Nat,(bQ R C xA yB n).1.length=R∧(bQ R C xA yB n).2.length=C∧(∀ x∈(bQ R C xA yB n).1,0≤x∧x≤(n:Int)+1)∧∀ x∈(bQ R C xA yB n).2,0≤x∧x≤(n:Int)+1
 | 0=>by
   have key:∀ m:Nat,∀ x∈(List.replicate m (0:Int)).set 0 1,0≤x∧x≤((0:Nat):Int)+1:=fun m x hx=>by
    rcases List.mem_or_eq_of_mem_set hx with h | h
    · rw [List.eq_of_mem_replicate h];decide
    · rw [h];decide
   exact ⟨by simp [bQ],by simp [bQ],key R,key C⟩
 | n+1=>by
   obtain ⟨l1,l2,b1,b2⟩:=rN R C xA yB n;have g1:=iy b1 (by omega) (by omega) (dF R C xA (bQ R C xA yB n).2)
   have g2:=iy b2 (by omega) (by omega) (dF C R yB (bQ R C xA yB n).1)
   rw [bQ];refine ⟨by rw [List.length_set,l1],by rw [List.length_set,l2],fun x hx=>?_,fun x hx=>?_⟩
   · rcases List.mem_or_eq_of_mem_set hx with h | h
     · have:=b1 x h;omega
     · omega
   · rcases List.mem_or_eq_of_mem_set hx with h | h
     · have:=b2 x h;omega
     · omega
theorem xi {c a:Int} (h0:0≤c) (h1:c≤1001) (a0:-1000≤a) (a1:a≤1000):-1001000≤c * a∧c * a≤1001000:=by
 constructor
 · have h:=Int.mul_le_mul_of_nonneg_left a0 h0
   have:c * -1000 = -(c * 1000):=by rw [Int.mul_neg]
   omega
 · have h:=Int.mul_le_mul_of_nonneg_left a1 h0
   omega
theorem xL {C:Nat} {xs cnt:List Int} (hx:∀ x∈xs,-1000≤x∧x≤1000) (hc:∀ x∈cnt,0≤x∧x≤1001) (i:Nat):∀ k:Nat,-(1001000 * (k:Int))≤gQ C xs cnt i k∧gQ C xs cnt i k≤1001000 * (k:Int)
 | 0=>by simp [gQ]
 | k+1=>by
   have ih:=xL (C:=C) hx hc i k;have g1:=iy hc (by omega) (by omega) k
   have g2:-1000≤aQ C xs i k∧aQ C xs i k≤1000:=iy hx (by omega) (by omega) _
   have:=xi g1.1 g1.2 g2.1 g2.2;rw [gQ];omega
theorem vP (w:World) (R C:Nat) (aA:Option Addr) (cA:Nat) (xA:List Int) (vB:Value) (aN:Option Addr) (cN:Nat) (cnt:List Int) (hA:Rd w w.heap.size aA (ae xA)) (hN:Rd w w.heap.size aN (ae cnt)) (lA:xA.length=R * C) (lN:cnt.length=C) (r1:1≤R) (r6:R≤6) (c6:C≤6) (bA:∀ x∈xA,-1000≤x∧x≤1000) (bN:∀ x∈cnt,0≤x∧x≤1001) :
 Calls Tryz.prog 192 #[.agg #[.int .i64 R,.int .i64 C,.slice aA xA.length cA,vB],.slice aN cnt.length cN] w fun e w'=>e=.returned (.int .i64 (dF R C xA cnt:Nat))∧Below w.heap.size w w':=by
 have hRC:R * C≤6 * 6:=Nat.mul_le_mul r6 c6;have HB1:=Na (ah w (.cells #[.int .i64 R,.int .i64 C,.slice aA xA.length cA,vB] 26));have KG:=Na (Blk.new w [.int .i64 R,.int .i64 C,.slice aA xA.length cA,vB] 26);have LA:=Na (fun v (hb:Below w.heap.size w v) (i k:Nat) (hi:i<R) (hk:k<C)=>oe v R C i k aA cA xA vB (hA.to hb) (by rw [lA];exact dE hi hk) (by omega))
 have HRB:=Na (fun i k=>xL (C:=C) bA bN i k)
 have HCB:Hid (∀ i k:Nat,-1000≤aQ C xA i k∧aQ C xA i k≤1000):=fun i k=>iy bA (by omega) (by omega) (i * C+k)
 have HNB:=Na (fun k=>iy bN (by omega) (by omega) k)
 have HNN:=Na hN;have HLN:=Na lN;have HS:Hid (∀ i:Nat,fc C xA cnt (i+1)=if i=0∨(fc C xA cnt i).2<gQ C xA cnt i C then ((i:Int),gQ C xA cnt i C) else fc C xA cnt i):=fun i=>rfl
 have HSS:Hid (∀ i k:Nat,gQ C xA cnt i (k+1)=gQ C xA cnt i k+cnt.getD k 0 * aQ C xA i k):=fun i k=>rfl
 have HE:Hid ((dF R C xA cnt:Int)=(fc C xA cnt R).1):=by
  obtain ⟨j,e,_⟩:=nl C xA cnt R r1;rw [Hid];unfold dF;rw [e,Int.toNat_natCast]
 obtain ⟨n,hnn⟩:∃ n,n=cnt.length:=⟨_,rfl⟩;have HNL:=Na hnn;have hnC:n=C:=by omega
 have r6i:(R:Int)≤6:=by omega
 have c6i:(C:Int)≤6:=by omega
 have q0:(w.alloc (.cells #[.int .i64 R,.int .i64 C,.slice aA xA.length cA,vB] 26)).cell? ⟨w.heap.size,0,none⟩=some (.int .i64 R):=by rw [KG.out.cell];rfl
 have hll:cnt.length=C:=lN;rw [hll];clear hA hN lA lN bA bN hnn hnC hRC hll
 go_enter Tryz.func192,Tryz.ntmps192;go_wp2_with fail;clear q0
 go_loopw [13,5,6] (fun iv bv mv wr=>∃ (i:Nat),i≤R∧iv=.int .i64 i∧bv=.int .i64 (fc C xA cnt i).1∧mv=.int .i64 (fc C xA cnt i).2∧Hid (Below w.heap.size w wr)∧Hid (Blk wr w.heap.size [.int .i64 R,.int .i64 C,.slice aA xA.length cA,vB] 26)) (fun iv _ _ _=>R - (intOf iv).toNat)
 case atStart=>exact ⟨0,Nat.zero_le _,rfl,rfl,rfl,HB1.out,KG.out⟩
 case round =>
  clear HB1 KG;obtain ⟨i,hi,rfl,rfl,rfl,hw,hK⟩:=hrel;have i0:(0:Int)≤(i:Int):=Int.natCast_nonneg _;obtain ⟨wo,hwo⟩:∃ W:World,W=wr:=⟨_,rfl⟩;subst hwo
  by_cases hlt:i<R
  · have hii:(i:Int)<(R:Int):=by omega
    go_wp2_with fail
    go_loopw [18,8] (fun kv sv wr=>∃ (k:Nat),k≤C∧kv=.int .i64 k∧sv=.int .i64 (gQ C xA cnt i k)∧Hid (Below w.heap.size w wr)∧Hid (Blk wr w.heap.size [.int .i64 R,.int .i64 C,.slice aA xA.length cA,vB] 26)) (fun kv _ _=>C - (intOf kv).toNat)
    case atStart=>exact ⟨0,Nat.zero_le _,rfl,rfl,hw.out,hK.out⟩
    case round =>
     clear hw hK;obtain ⟨k,hk,rfl,rfl,hw,hK⟩:=hrel;have k0:(0:Int)≤(k:Int):=Int.natCast_nonneg _
     by_cases hlk:k<C
     · have hkk:(k:Int)<(C:Int):=by omega
       have L:=Na (LA.out wr hw.out i k hlt hlk);obtain ⟨b,o,ea,hb1,hc⟩:=(HNN.out.to hw.out).at (k:=k) (by have:=HLN.out;omega)
       have hck:=hc k (by have:=HLN.out;omega)
       have ha0:=(HRB.out i k).1;have ha1:=(HRB.out i k).2;obtain ⟨n0,n1⟩:=HNB.out k;obtain ⟨z0,z1⟩:=HCB.out i k;have hm:=xi n0 n1 z0 z1;have hsc:=Na (HSS.out i k);obtain ⟨q0,q1,q2,q3⟩:wr.cell? ⟨w.heap.size,0,none⟩=some (.int .i64 R)∧wr.cell? ⟨w.heap.size,1,none⟩=some (.int .i64 C)∧wr.cell? ⟨w.heap.size,2,none⟩=some (.slice aA xA.length cA)∧wr.cell? ⟨w.heap.size,3,none⟩=some vB:=⟨hK.out.cell 0,hK.out.cell 1,hK.out.cell 2,hK.out.cell 3⟩;subst ea;generalize cnt.getD k 0=nk at *
       generalize aQ C xA i k=ak at *
       obtain ⟨S,hS⟩:∃ S,S=gQ C xA cnt i k:=⟨_,rfl⟩;rw [← hS] at ha0 ha1 hsc ⊢;have w1:IntKind.i64.wrap (nk * ak)=nk * ak:=IntWalk.i64_in _ (by omega)
       have w2:IntKind.i64.wrap (S+nk * ak)=S+nk * ak:=IntWalk.i64_in _ (by omega)
       clear hS hc hb1;go_wp2_with fail;refine L.out.mono ?_;rintro e w5 ⟨rfl,hb5⟩;have W5:=Na (aa hw.out hb5);have K5:=Na (hK.out.same hb5);clear hb5 L q0 q1 q2 q3 hck;go_wp2_with fail;go_roundw
       case rel=>exact ⟨k+1,by omega,by go_num,by rw [hsc.out],W5,K5⟩
       case measure=>simp [intOf];omega
     · obtain rfl:k=C:=by omega
       have hsi:=Na (HS.out i);have hSb:=HRB.out i k;generalize gQ k xA cnt i k=S at *
       by_cases hz:i=0
       · have hsi2:Hid (fc k xA cnt (i+1)=((i:Int),S)):=by rw [Hid,hsi.out,if_pos (.inl hz)]
         have hzi:((i:Int) == 0)=true:=by subst hz;rfl
         clear hsi;go_wp2_with fail;go_roundw
         case rel=>exact ⟨i+1,by omega,by go_num,by rw [hsi2.out],by rw [hsi2.out],hw,hK⟩
         case measure=>simp [intOf];omega
       · have hzi:((i:Int) == 0)=false:=by simp;omega
         by_cases hm:(fc k xA cnt i).2<S
         · have hsi2:Hid (fc k xA cnt (i+1)=((i:Int),S)):=by rw [Hid,hsi.out,if_pos (.inr hm)]
           clear hsi;go_wp2_with fail;go_roundw
           case rel=>exact ⟨i+1,by omega,by go_num,by rw [hsi2.out],by rw [hsi2.out],hw,hK⟩
           case measure=>simp [intOf];omega
         · have hsi2:Hid (fc k xA cnt (i+1)=fc k xA cnt i):=by rw [Hid,hsi.out,if_neg (by omega)]
           clear hsi;go_wp2_with fail;go_roundw
           case rel=>exact ⟨i+1,by omega,by go_num,by rw [hsi2.out],by rw [hsi2.out],hw,hK⟩
           case measure=>simp [intOf];omega
  · obtain rfl:i=R:=by omega
    go_wp2_with fail;go_ret;exact ⟨by rw [HE.out];rfl,hw.out⟩
theorem tA (w:World) (N:Nat) (hN:N≤1048576):(Instr.makeSlice 24 (.int .i64 N) (.int .i64 N)).run Tryz.prog w=.ok (.slice (some ⟨w.heap.size,0,none⟩) N N) (w.alloc (.cells (ae (List.replicate N 0)).toArray 2)):=by
 obtain ⟨i,h2,h3,h4,h5⟩:=info_parts aU;have hr:=run_make (P:=Tryz.prog) w 24 2 i (.int .i64 0) Tryz.underlying24 h2 h3 .i64 .i64 N N (by omega) (Int.le_refl _) (by rw [h5];omega) (by omega)
 simp only [Int.toNat_natCast,h4,Nat.mul_one] at hr;have e1:madeCells #[Value.int .i64 0] N=(ae (List.replicate N 0)).toArray:=by rw [← fV,← toList_madeCells_one (.int .i64 0) N]
 rw [hr]
 show Result.ok _ (w.alloc (.cells (madeCells #[Value.int .i64 0] N) 2))=_
 rw [e1]
end Go.Proofs.YtbknhgapjjaelaaGreatDoor
