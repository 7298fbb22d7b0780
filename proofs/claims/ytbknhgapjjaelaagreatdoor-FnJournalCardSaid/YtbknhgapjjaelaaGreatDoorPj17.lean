/-
  Part 17 of what the proof stands on: lemmas and contracts, each with its conditions ahead of the colon.
-/
import Derived.Test.YtbknhgapjjaelaaGreatDoorPj01
import Derived.RegionTactic
import Derived.BigRegion
import Derived.Deep.RegionHeld3
import Derived.Test.YtbknhgapjjaelaaGreatDoorPj03
import Derived.Test.YtbknhgapjjaelaaGreatDoorPj05
import Derived.Test.YtbknhgapjjaelaaGreatDoorPj09
import Derived.Test.YtbknhgapjjaelaaGreatDoorPj16
set_option maxRecDepth 10000
set_option maxHeartbeats 8000000
namespace Go.Proofs.YtbknhgapjjaelaaGreatDoor
set_option linter.unusedVariables false
set_option linter.unusedSimpArgs false
open Go.RowKit
def fF (c:Cr) (n:Nat) (ch:List Int):List Int:=(List.range n).map fun r=>df c ch r
theorem fX (c:Cr) (n:Nat) (ch:List Int):(fF c n ch).length=n:=by simp [fF]
theorem qB {c:Cr} {n:Nat} {ch:List Int} {r:Nat} (h:r<n):(fF c n ch)[r]? = some (df c ch r):=by simp [fF,h]
theorem CX (c:Cr) (n:Nat):fF c n []=List.replicate n 0:=by
 apply List.ext_getElem <;> simp [fF,df]
theorem Ny {fo cs:List Int} {k:Nat} {v:Int} (hk:k<cs.length) (hl:fo.length=cs.length) (hv:fo[k]? = some v):(fo.take k ++ cs.drop k).set k v=fo.take (k+1) ++ cs.drop (k+1):=by
 have h1:(fo.take k).length=k:=by simp;omega
 rw [List.set_append_right _ _ (by omega),h1,Nat.sub_self,List.drop_eq_getElem_cons hk,List.set_cons_zero,List.take_add_one,hv]
 simp
theorem Md (a:Nat) (ha:a<9223372036854775808):bits .and .i64 (a:Int) 1=((a % 2:Nat):Int):=by
 show IntKind.i64.wrap ((BitVec.ofInt 64 (a:Int) &&& BitVec.ofInt 64 (1:Int)).toNat:Int)=_
 have h1:(BitVec.ofInt 64 (1:Int)).toNat=1:=by decide
 have h2:(BitVec.ofInt 64 (a:Int)).toNat=a:=by rw [BitVec.ofInt_natCast,BitVec.toNat_ofNat];exact Nat.mod_eq_of_lt (by omega)
 rw [BitVec.toNat_and,h1,h2,show a &&& 1=a % 2 from Nat.and_two_pow_sub_one_eq_mod a 1]
 exact IntWalk.i64_in _ (by omega)
theorem GG {y:Int} (h1:0≤y) (h8:y≤255) (r:Nat):bits .and .i64 (y / 2 ^ r) 1=gF y r:=by
 obtain ⟨m,rfl⟩:∃ m:Nat,y=m:=⟨y.toNat,by omega⟩;have e:(m:Int) / 2 ^ r=((m / 2 ^ r:Nat):Int):=by simp
 have hle:m / 2 ^ r≤m:=Nat.div_le_self _ _;unfold gF;rw [e,Md _ (by omega)]
 omega
theorem Ih (w:World) (U:Int) (n:Nat) (a2:Option Addr) (c2:Nat) (x2:List Int) (a3:Option Addr) (c3:Nat) (x3:List Int) (a:Option Addr) (c:Nat) (ch:List Int) (h:RdCrowd w w.heap.size a2 x2 a3 x3) (g:Rd w w.heap.size a (ae ch)) (hc:Can ⟨U,n,x2,x3⟩ ch) :
 Calls Tryz.prog 254 #[.agg #[.int .i64 U,.int .i64 n,.slice a2 x2.length c2,.slice a3 x3.length c3],.slice a ch.length c] w fun e w'=>∃ a' c',e=.returned (.slice a' n c')∧OwnI 2 w' w.heap.size w'.heap.size a' c' (fF ⟨U,n,x2,x3⟩ n ch)∧Below w.heap.size w w':=by
 have hn8:n≤8:=by have:=hc.v.r8;simp only at this;omega
 have hU8:ch.length≤8:=by have:=hc.v.u8;have:=hc.len;simp only at *;omega
 have hw8:x2.length≤8:=hc.v.w8;have HW:=Oi hc.v.way;have HM:=Oi hc.mem;have h2:=Oi h.1;have hg:=Oi g;clear h g hc;obtain ⟨C,hC⟩:∃ C:Cr,C=⟨U,n,x2,x3⟩:=⟨_,rfl⟩;have HC:=Oi hC;rw [← hC];clear hC;have Hz:Hid (fF C n []=List.replicate n 0):=CX C n
 go_enter Tryz.func254,Tryz.ntmps254
 go_wp2_with (at_make;refine ic _ rfl _ _ 24 rfl 2 (.int .i64 0) 8 Tryz.underlying24 aZ rfl _ _ n rfl rfl (by omega) (by unfold maxLen;omega) ?_)
 intro w1 hb1 hw1 hs1;rw [gd,← Hz.out] at hb1
 try simp at hb1
 have kA:=(Blk.new w [.int .i64 U,.int .i64 n,.slice a2 x2.length c2,.slice a3 x3.length c3] 30).below hw1 (by omega)
 have B1:=(ai w (.cells #[.int .i64 U,.int .i64 n,.slice a2 x2.length c2,.slice a3 x3.length c3] 30)).trans (hw1.mono (by omega))
 have KA:=Oi kA;clear hw1 kA;go_wp2_with fail
 go_loopw [14] (fun i wr=>∃ k:Nat,k≤ch.length∧i=.int .i64 k∧Hid (Blk wr (w.heap.size+1) (ae (fF C n (ch.take k))) 2)∧Hid (Blk wr w.heap.size [.int .i64 U,.int .i64 n,.slice a2 x2.length c2,.slice a3 x3.length c3] 30)∧Below w.heap.size w wr∧w.heap.size+2≤wr.heap.size) (fun i _=>ch.length - (intOf i).toNat)
 case atStart=>exact ⟨0,Nat.zero_le _,rfl,hb1,KA.out,B1,by omega⟩
 case round =>
  clear hb1 KA B1 hs1;obtain ⟨k,hk,rfl,hb,hA,hw,hsz⟩:=hrel;obtain ⟨wm,rfl⟩:∃ wm:World,wm=wr:=⟨_,rfl⟩;have q1:=hA.out.cell 1;simp only [List.getElem?_cons_zero,List.getElem?_cons_succ] at q1
  by_cases hlt:k<ch.length
  · obtain ⟨b1,o1,x,rfl,hbb1,hck,hx⟩:=(hg.out.below hw (Nat.le_refl _)).get hlt
    obtain ⟨x0,x8⟩:=HM.out x (List.mem_of_getElem? hx.out);obtain ⟨q,rfl⟩:∃ q:Nat,x=q:=⟨x.toNat,by omega⟩;have hq8:q<x2.length:=by (try simp only at x8);omega
    have Htk:Hid (ch.take (k+1)=ch.take k ++ [(q:Int)]):=by show _=_;rw [List.take_add_one,hx.out];rfl
    clear hx;go_wp2_with fail
    go_loopw [20] (fun i wr=>∃ r:Nat,r≤n∧i=.int .i64 r∧Hid (Blk wr (w.heap.size+1) (ae ((fF C n (ch.take (k+1))).take r ++ (fF C n (ch.take k)).drop r)) 2)∧Hid (Blk wr w.heap.size [.int .i64 U,.int .i64 n,.slice a2 x2.length c2,.slice a3 x3.length c3] 30)∧Below w.heap.size w wr∧w.heap.size+2≤wr.heap.size) (fun i _=>n - (intOf i).toNat)
    case atStart=>exact ⟨0,Nat.zero_le _,rfl,(by rw [List.take_zero,List.drop_zero,List.nil_append];exact hb.out),hA.out,hw,hsz⟩
    case round =>
     clear hb hA q1 hck;obtain ⟨r,hr,rfl,hb,hA,hw2,hsz2⟩:=hrel
     by_cases hlr:r<n
     · have q2:=hA.out.cell 2
       simp only [List.getElem?_cons_zero,List.getElem?_cons_succ] at q2;obtain ⟨b3,o3,y,hax,hbb3,hcq,hy⟩:=(h2.out.below hw2 (Nat.le_refl _)).get (k:=q) hq8;subst hax;obtain ⟨y1,y8⟩:=HW.out _ (List.mem_of_getElem? hy.out);have hbit:=GG (show 0≤y by omega) (show y≤255 by omega) r
       have hb01:0≤gF y r∧gF y r≤1:=by have:=nJ y r;omega
       obtain ⟨hb0,hb1⟩:=hb01;have hnv:Hid (df C (ch.take (k+1)) r=df C (ch.take k) r+gF y r):=by
        show _=_
        rw [Htk.out,If,Int.toNat_natCast];have:C.ways.getD q 0=y:=by rw [HC.out];exact co hy.out
        rw [this]
       have hoc:=hb.out.cell r;have hof:=hb.out.free r;have e1:(ae ((fF C n (ch.take (k+1))).take r ++ (fF C n (ch.take k)).drop r))[r]? = some (.int .i64 (df C (ch.take k) r)):=by
        have hl1:((fF C n (ch.take (k+1))).take r).length=r:=by rw [List.length_take,fX];omega
        have h2:((fF C n (ch.take (k+1))).take r ++ (fF C n (ch.take k)).drop r)[r]? = some (df C (ch.take k) r):=by
         rw [List.getElem?_append_right (by omega),hl1,Nat.sub_self,List.getElem?_drop,Nat.add_zero]
         exact qB hlr
        simp only [ae,List.getElem?_map,h2,Option.map_some]
       rw [e1] at hoc;have hld:=nN C r (ch.take k);have hlk:(ch.take k).length≤8:=by simp;omega
       have hset:=hb.out.setI r (df C (ch.take k) r+gF y r);rw [Ny (v:=df C (ch.take k) r+gF y r) (by rw [fX];exact hlr) (by rw [fX,fX]) (by rw [qB hlr,hnv.out])] at hset
       obtain ⟨ld0,ld1⟩:=hld;generalize df C (ch.take k) r=ld at *
       generalize gF y r=bi at *
       have HS:=Oi hset;have HA2:=Oi (hA.out.oth (g:=w.heap.size+1) (by omega) r (.int .i64 (ld+bi)))
       have hw3:=aw hw2 (g:=w.heap.size+1) (by omega) r (.int .i64 (ld+bi))
       clear e1 hset hb hy;go_wp2_with fail
       go_region
       all_goals
        go_wp2_with fail;go_roundw
        case rel=>exact ⟨r+1,by omega,by go_num,HS.out,HA2.out,aq hw3,by simpa using hsz2⟩
        case measure=>simp [intOf];omega
     · have:r=n:=by omega
       subst this;have hbo:=hb.out;rw [List.drop_of_length_le (by rw [fX];exact Nat.le_refl _),List.append_nil,List.take_of_length_le (by rw [fX];exact Nat.le_refl _)] at hbo
       have HB:=Oi hbo;clear hbo hb;go_wp2_with fail;go_roundw
       case rel=>exact ⟨k+1,by omega,by go_num,HB.out,hA.out,hw2,hsz2⟩
       case measure=>simp [intOf];omega
  · have:k=ch.length:=by omega
    subst this;have hbo:=hb.out;rw [List.take_length] at hbo;have HR:Hid (OwnI 2 wm w.heap.size wm.heap.size (some ⟨w.heap.size+1,0,none⟩) n (fF C n ch)):=by
     have:=(OwnI.of_blk hbo (by rw [fX];omega)).mono (lo':=w.heap.size) (by omega) (hi':=wm.heap.size) (by omega)
     rwa [fX] at this
    clear hb hbo hA;go_wp2_with fail;go_ret;exact ⟨_,_,rfl,HR.out,hw⟩
theorem Nw {C:Cr} (hv:Valid C) {r:Nat} {n:Int} (hr:(r:Int)<C.R) (n1:1≤n) (n8:n≤C.U) :
 ∃ J:Nat,(r:Int) * C.U+n - 1=J∧J<C.costs.length∧0≤(r:Int) * C.U∧(r:Int) * C.U≤64:=by
 have hu1:=hv.u1;have hu8:=hv.u8;have hr8:=hv.r8;have hcl:=hv.clen;have h1:((r:Int)+1) * C.U≤C.R * C.U:=Int.mul_le_mul_of_nonneg_right (by omega) (by omega)
 have h2:0≤(r:Int) * C.U:=Int.mul_nonneg (by omega) (by omega)
 have h3:(r:Int) * C.U≤8 * 8:=Int.mul_le_mul (by omega) hu8 (by omega) (by omega)
 rw [Int.add_mul,Int.one_mul,Int.mul_comm C.R] at h1;exact ⟨((r:Int) * C.U+n - 1).toNat,by omega,by omega,h2,by omega⟩
theorem Ab (w:World) (B:Nat) (U R:Int) (r:Nat) (n:Int) (a2:Option Addr) (c2:Nat) (x2:List Int) (a3:Option Addr) (c3:Nat) (x3:List Int) (h:RdCrowd w B a2 x2 a3 x3) (hB:B≤w.heap.size) (hv:Valid ⟨U,R,x2,x3⟩) (hr:(r:Int)<R) (n1:1≤n) (n8:n≤U) :
 Calls Tryz.prog 186 #[.agg #[.int .i64 U,.int .i64 R,.slice a2 x2.length c2,.slice a3 x3.length c3],.int .i64 r,.int .i64 n] w fun e w'=>e=.returned (.int .i64 (fG ⟨U,R,x2,x3⟩ r n))∧Below w.heap.size w w':=by
 obtain ⟨J,hJ,hJl,m0,m1⟩:=Nw hv (C:=⟨U,R,x2,x3⟩) hr n1 n8;simp only at hJ hJl m0 m1;have hu8:=hv.u8;simp only at hu8;obtain ⟨b3,o3,y,rfl,hbb,hck,hy⟩:=(h.2.mono hB).get (k:=J) hJl;have HF:Hid (fG ⟨U,R,x2,x3⟩ r n=y):=by
  show _=_
  unfold fG;rw [if_neg (by omega)]
  simp only;rw [hJ,Int.toNat_natCast];exact co hy.out
 have hbb':b3≠w.heap.size:=by omega
 clear h hv hy
 go_enter Tryz.func186,Tryz.ntmps186;go_wp2_with fail;go_ret;exact ⟨bY HF.out.symm,ai _ _⟩
def iJ (C:Cr) (ch:List Int) (wy:Int) (k:Nat):Int:=gI (pH C ch wy) k
theorem IF {C:Cr} (h:Valid C) (ch:List Int) (wy:Int) (k:Nat) (hk:k≤8):-800000≤iJ C ch wy k∧iJ C ch wy k≤800000:=by
 have:=nQ (f:=pH C ch wy) (m:=100000) (n:=k) (fun i _=>by
  unfold pH
  split
  · exact nK h i _
  · omega)
 unfold iJ;omega
theorem Ig {C:Cr} {ch:List Int} {u:Nat} (hu:u<ch.length) {r:Nat} (h:gF (C.ways.getD (ch.getD u 0).toNat 0) r=1):1≤df C ch r:=by
 have:=wR C r ch u hu;omega
theorem da (w:World) (g j:Nat) (u:Value):w.grownBy (w.setCell ⟨g,j,none⟩ u) (some g):=⟨rfl,rfl,rfl,by simp,fun i _ hi=>Below.heap_setCell _ _ _ _ (fun e=>hi (by simp [e]))⟩
theorem dp {w w':World} (hb:Below w.heap.size w w') (r:Option Nat):w.grownBy w' r:=⟨hb.os,hb.tape,hb.output,hb.size,fun k hk _=>hb.block k hk⟩
theorem yQ {w w4:World} {g:Nat} {cs:List Value} {T:TypeId} (h:Blk w g cs T) (h4:Blk w4 g cs T) (hg:w.grownBy w4 (some g)):Below w.heap.size w w4 :=
 ⟨hg.os,hg.tape,hg.output,hg.size,fun k hk=>by
   by_cases e:k=g
   · subst e;exact h4.trans h.symm
   · exact hg.block k hk (by intro e2;injection e2 with e2;exact e e2)⟩
theorem K7 {xs:List Int} {u:Nat} (h:u<xs.length) (v:Int):(xs.set u v).set u (xs.getD u 0)=xs:=by
 rw [List.set_set]
 apply List.ext_getElem
 · simp
 · intro i h1 h2
   rw [List.getElem_set]
   split
   · rename_i e;subst e;simp [List.getD,List.getElem?_eq_getElem h]
   · rfl
theorem Bn (w:World) (B g:Nat) (tl:List Value) (U:Int) (n:Nat) (a2:Option Addr) (c2:Nat) (x2:List Int) (a3:Option Addr) (c3:Nat) (x3:List Int) (c:Nat) (ch:List Int) (u wy:Nat)
 (hA:Blk w g (ae ch ++ tl) 2) (hBg:B≤g) (h:RdCrowd w B a2 x2 a3 x3) (hc:Can ⟨U,n,x2,x3⟩ ch) (hu:u<ch.length) (hwy:wy<x2.length) :
 Calls Tryz.prog 250 #[.agg #[.int .i64 U,.int .i64 n,.slice a2 x2.length c2,.slice a3 x3.length c3],.slice (some ⟨g,0,none⟩) ch.length c,.int .i64 u,.int .i64 wy] w fun e w'=>e=.returned (.int .i64 (dl ⟨U,n,x2,x3⟩ (ch.set u (wy:Int)) u))∧Below w.heap.size w w':=by
 have hn8:n≤8:=by have:=hc.v.r8;simp only at this;omega
 have hUl:(ch.length:Int)=U:=hc.len;have hU8:ch.length≤8:=by have:=hc.v.u8;simp only at this;omega
 have hgl:=hA.lt;have hgne:g≠w.heap.size:=by omega
 have hc':Can ⟨U,n,x2,x3⟩ (ch.set u (wy:Int)):=hc.set hwy;have lset:(ch.set u (wy:Int)).length=ch.length:=by simp
 -- the worlds
 have hcu:=ki hA (j:=u) hu;have hfu:=hA.free u;have w2A:=(sY hA (j:=u) hu (wy:Int)).alloc (.cells #[.int .i64 U,.int .i64 n,.slice a2 x2.length c2,.slice a3 x3.length c3] 30);have hB2:Below B w ((w.setCell ⟨g,u,none⟩ (.int .i64 wy)).alloc (.cells #[.int .i64 U,.int .i64 n,.slice a2 x2.length c2,.slice a3 x3.length c3] 30)):=(aw (Below.refl B w) hBg u (.int .i64 wy)).alloc (by simp;omega) _
 have h2:=(h.below hB2 (Nat.le_refl _)).mono (C:=((w.setCell ⟨g,u,none⟩ (.int .i64 wy)).alloc (.cells #[.int .i64 U,.int .i64 n,.slice a2 x2.length c2,.slice a3 x3.length c3] 30)).heap.size) (by simp;omega)
 have LL0:=Ih _ U n a2 c2 x2 a3 c3 x3 (some ⟨g,0,none⟩) c (ch.set u (wy:Int)) h2 (BJ w2A (by simp;omega)) hc'
 rw [lset] at LL0;have LL:=Oi LL0;have HW2A:=Oi w2A;have G2:Hid (w.grownBy ((w.setCell ⟨g,u,none⟩ (.int .i64 wy)).alloc (.cells #[.int .i64 U,.int .i64 n,.slice a2 x2.length c2,.slice a3 x3.length c3] 30)) (some g)):=gc (da _ g u _) (dp (ai _ _) _);have kA2:=Blk.new (w.setCell ⟨g,u,none⟩ (.int .i64 wy)) [.int .i64 U,.int .i64 n,.slice a2 x2.length c2,.slice a3 x3.length c3] 30;rw [show (w.setCell ⟨g,u,none⟩ (.int .i64 wy)).heap.size=w.heap.size by simp] at kA2
 have KA2:=Oi kA2;have HA:=Oi hA;have Hh:=Oi h;have HB2:=Oi hB2;have HV:=Oi hc.v;have HSB:=Oi (K7 hu (wy:Int));have HP:Hid (∀ k,k≤8→-800000≤iJ ⟨U,n,x2,x3⟩ (ch.set u (wy:Int)) wy k∧iJ ⟨U,n,x2,x3⟩ (ch.set u (wy:Int)) wy k≤800000):=fun k hk=>IF hc.v _ _ k hk
 have egs:(ch.set u (wy:Int)).getD u 0=wy:=gJ hu _;have HF:Hid (dl ⟨U,n,x2,x3⟩ (ch.set u (wy:Int)) u=iJ ⟨U,n,x2,x3⟩ (ch.set u (wy:Int)) wy n):=by show _=_;unfold dl iJ;rw [egs];simp
 have HLd:Hid (∀ r:Nat,gF (x2.getD wy 0) r=1→1≤df ⟨U,n,x2,x3⟩ (ch.set u (wy:Int)) r):=fun r hr=>Ig (C:=⟨U,n,x2,x3⟩) (u:=u) (by rw [lset];exact hu) (by rw [egs];exact hr)
 have HL:Hid (∀ r:Nat,0≤df ⟨U,n,x2,x3⟩ (ch.set u (wy:Int)) r∧df ⟨U,n,x2,x3⟩ (ch.set u (wy:Int)) r≤U):=fun r=>by have:=nN ⟨U,n,x2,x3⟩ r (ch.set u (wy:Int));rw [lset] at this;omega
 have Hcb:Hid (∀ r:Nat,∀ m:Int,-100000≤fG ⟨U,n,x2,x3⟩ r m∧fG ⟨U,n,x2,x3⟩ r m≤100000):=fun r m=>nK HV.out r m
 have HWay:=Oi hc.v.way;have LC:=Oi (fun (w':World) (hr:RdCrowd w' B a2 x2 a3 x3) (hB':B≤w'.heap.size) (r:Nat) (m:Int) (hrn:(r:Int)<n) (m0:1≤m) (m8:m≤U)=>Ab w' B U n r m a2 c2 x2 a3 c3 x3 hr hB' hc.v hrn m0 m8)
 obtain ⟨b2,o2,y,hax,hbb2,hcy0,hy⟩:=h.1.get (k:=wy) hwy;have Hcy:=Oi hcy0;have hyg:x2.getD wy 0=y:=co hy.out;have hyw:=HWay.out y (List.mem_of_getElem? hy.out);rw [hyg] at HLd;have Hpay:Hid (∀ r:Nat,pH ⟨U,n,x2,x3⟩ (ch.set u (wy:Int)) wy r=if gF y r=1 then fG ⟨U,n,x2,x3⟩ r (df ⟨U,n,x2,x3⟩ (ch.set u (wy:Int)) r) else 0):=fun r=>by
  have eqy:(⟨U,n,x2,x3⟩:Cr).ways.getD ((wy:Int)).toNat 0=y:=hyg;unfold pH;simp only [eqy]
 subst hax;obtain ⟨y1,y8⟩:=hyw;obtain ⟨old,hold⟩:∃ old,old=ch.getD u 0:=⟨_,rfl⟩;rw [← hold] at hcu HSB;generalize hC:(⟨U,(n:Int),x2,x3⟩:Cr)=C at *
 have Hul:=Oi hUl;clear hC hold hUl hc hc' lset w2A hB2 h2 LL0 kA2 hA h egs hcy0 hy hyg HWay
 go_enter Tryz.func250,Tryz.ntmps250;go_wp2_with fail;refine LL.out.mono ?_;rintro e w3 ⟨a',c',rfl,ol,hb3⟩;have k3A:=HW2A.out.same hb3;have kk3:=KA2.out.same hb3;have G3:=gc G2.out (dp hb3 _);have B3:=HB2.out.trans (hb3.mono (by simp;omega))
 have s3:=hb3.size;simp at s3
 have hcell3:=ki k3A (j:=u) (by simpa using hu)
 have hfree3:=k3A.free u;have k4A:=sY k3A (j:=u) (by simpa using hu) old
 rw [HSB.out] at k4A;have G4:=Oi (gc G3 (da w3 g u (.int .i64 old)));have kk4:=Oi (kk3.oth (g:=g) (by omega) u (.int .i64 old))
 have B4:=Oi (aw B3 hBg u (.int .i64 old));have ol4:=Oi (ol.touch (Touch.of_grown (da w3 g u (.int .i64 old)) (Nat.le_refl _) (Nat.lt_succ_self _)) (.inr (by simp;omega)))
 have K4A:=Oi k4A;have h34:w3.heap.size≤(w3.setCell ⟨g,u,none⟩ (.int .i64 old)).heap.size:=by simp
 have e4:=kk4.out.cell 1;simp only [List.getElem?_cons_zero,List.getElem?_cons_succ] at e4;have R4:=Oi (yQ HA.out K4A.out G4.out);have s4:w.heap.size+1≤(w3.setCell ⟨g,u,none⟩ (.int .i64 old)).heap.size:=by simp;omega
 clear LL ol hb3 k3A kk3 G3 B3 k4A G2 KA2;go_wp2_with fail;generalize hW4:w3.setCell ⟨g,u,none⟩ (.int .i64 old)=w4 at *
 clear hW4
 go_loopw [30,11] (fun rr ss wi=>∃ (r:Nat) (s:Int),r≤n∧rr=.int .i64 r∧ss=.int .i64 s∧Hid (s=iJ C (ch.set u (wy:Int)) wy r)∧Below w4.heap.size w4 wi) (fun rr _ _=>n - (intOf rr).toNat)
 case atStart=>exact ⟨0,0,Nat.zero_le _,rfl,rfl,rfl,Below.refl _ _⟩
 case round =>
  clear e4;obtain ⟨r,s,hr,rfl,rfl,hs,hwi⟩:=hrel
  by_cases hlt:r<n
  · have kk:=kk4.out.below hwi (by omega)
    have e0:=kk.cell 0;have e1:=kk.cell 1;have e2:=kk.cell 2;have e3:=kk.cell 3;simp only [List.getElem?_cons_zero,List.getElem?_cons_succ] at e0 e1 e2 e3;have bi4:=B4.out.trans (hwi.mono (Nat.le_trans (by omega) (Nat.le_refl _)))
    have ey:=(bi4.cell (p:=⟨b2,o2+wy,none⟩) hbb2).trans Hcy.out;have hbit:=GG (show 0≤y by omega) (show y≤255 by omega) r
    have hpr:=Hpay.out r;have hs2:iJ C (ch.set u (wy:Int)) wy (r+1)=iJ C (ch.set u (wy:Int)) wy r+pH C (ch.set u (wy:Int)) wy r:=rfl;obtain ⟨s0,s1⟩:=HP.out r (by omega)
    rw [← hs.out] at s0 s1;have hq0:(0:Int)≤(wy:Int):=by omega
    have hq1:(wy:Int)<(x2.length:Int):=by omega
    by_cases hbt:gF y r=1
    · rw [if_pos hbt] at hpr
      have hl1:=HLd.out r hbt;rw [hbt] at hbit;obtain ⟨l0,l1⟩:=HL.out r;obtain ⟨bl,ol,z,hal,hbbl,hcz,hz⟩:=((ol4.out.rd.mono (B':=w4.heap.size) h34).below hwi (Nat.le_refl _)).get (k:=r) (by rw [fX];exact hlt)
      subst hal;have ez:z=df C (ch.set u (wy:Int)) r:=by
       have:=hz.out;rw [qB hlt] at this;injection this with this
       exact this.symm
      rw [← ez] at hl1 l0 l1;have LC1:=Oi (LC.out wr.drew (Hh.out.below (aq bi4) (Nat.le_refl _)) (by have:=bi4.size;simpa using Nat.le_trans (by omega) this) r z (by omega) hl1 l1)
      have hcb:=Hcb.out r z;have HS:Hid (s+fG C r z=iJ C (ch.set u (wy:Int)) wy (r+1)):=by
       show _=_
       rw [hs2,hpr,hs.out,ez]
      obtain ⟨cb0,cb1⟩:=hcb;have Hwi:=Oi hwi;have hltA:w.heap.size<wr.heap.size:=by have:=hwi.size;omega
      have hltB:bl<wr.heap.size:=by have:=hwi.size;omega
      have EE:=Oi (And.intro e0 (And.intro e1 (And.intro e2 (And.intro e3 hcz))));have hrn0:(0:Int)≤(r:Int):=by omega
      have hrn1:(r:Int)<(n:Int):=by omega
      clear hpr hs2 hz ez hbt hs hwi;generalize fG C r z=cz at *
      have hwr:IntKind.i64.wrap (s+cz)=s+cz:=IntWalk.i64_in _ (by omega)
      have Hwr:=Oi hwr;clear hwr;go_wp2_with fail;clear ey hbit
      go_region_held3 (fun w'=>w'.cell? ⟨w.heap.size,0,none⟩=some (.int .i64 U)∧w'.cell? ⟨w.heap.size,1,none⟩=some (.int .i64 n)∧w'.cell? ⟨w.heap.size,2,none⟩=some (.slice (some ⟨b2,o2,none⟩) x2.length c2)∧w'.cell? ⟨w.heap.size,3,none⟩=some (.slice a3 x3.length c3)∧w'.cell? ⟨bl,ol+r,none⟩=some (.int .i64 z))
       (first | go_keep | exact ⟨(hbq.cell (p:=⟨w.heap.size,0,none⟩) hltA).trans EE.out.1,(hbq.cell (p:=⟨w.heap.size,1,none⟩) hltA).trans EE.out.2.1,(hbq.cell (p:=⟨w.heap.size,2,none⟩) hltA).trans EE.out.2.2.1,(hbq.cell (p:=⟨w.heap.size,3,none⟩) hltA).trans EE.out.2.2.2.1,(hbq.cell (p:=⟨bl,ol+r,none⟩) hltB).trans EE.out.2.2.2.2⟩)
       ((go_at_call 186;refine (LC1.out).mono ?_;rintro e w' ⟨rfl,hbq⟩))
      all_goals
       have hwi2:=Hwi.out.drew.trans (hbq.mono (by have:=Hwi.out.size;simpa using this))
       rw [Hwr.out];clear hbq EE;go_wp2_with fail;go_roundw
       case rel=>exact ⟨r+1,s+cz,by omega,by go_num,rfl,HS,hwi2⟩
       case measure=>simp [intOf];omega
    · rw [if_neg hbt] at hpr
      have hb0:gF y r=0:=by have:=nJ y r;omega
      rw [hb0] at hbit;have HS:Hid (s=iJ C (ch.set u (wy:Int)) wy (r+1)):=by
       show _=_
       rw [hs2,hpr,hs.out];omega
      clear hpr hs2 hbt hs;go_wp2_with fail;go_roundw
      case rel=>exact ⟨r+1,s,by omega,by go_num,rfl,HS,hwi⟩
      case measure=>simp [intOf];omega
  · have:r=n:=by omega
    subst this;have HSF:=Oi (hs.out.trans HF.out.symm);have BF:=R4.out.trans (hwi.mono (by have:=R4.out.size;omega))
    clear hs hwi;go_wp2_with fail;go_ret;exact ⟨bY HSF.out,BF⟩
def bU:Option (Nat × Nat)→Int
 | none=>-1
 | some p=>p.1
def bK:Option (Nat × Nat)→Int
 | none=>0
 | some p=>p.2
theorem uB (xs:List Int) (u:Nat):xs.set u (xs.getD u 0)=xs:=by
 apply List.ext_getElem
 · simp
 · intro i h1 h2
   rw [List.getElem_set]
   split
   · rename_i e;subst e;simp [List.getD,List.getElem?_eq_getElem h2]
   · rfl
theorem uN (C:Cr) (ch:List Int) (f u:Nat):fU C ch (f+1) u=match xm C ch u with | some k=>some (u,k) | none=>fU C ch f (u+1):=rfl
def nx (C:Cr) (ch:List Int) (u k:Nat):Option Nat × Int:=ka (fun k=>dl C (ch.set u (k:Int)) u) (dl C ch u) k
theorem Ga (C:Cr) (ch:List Int) (u k:Nat):nx C ch u (k+1)=if dl C (ch.set u (k:Int)) u<(nx C ch u k).2 then (some k,dl C (ch.set u (k:Int)) u) else nx C ch u k:=rfl
theorem KY {C:Cr} {ch:List Int} {u:Nat} {k n q:Nat} (h:(nx C ch u n).1=some k) (hq:ch.getD u 0=q):k≠q:=by
 have:=(sm (fun k=>dl C (ch.set u (k:Int)) u) (dl C ch u) n).1
 unfold nx at h;rw [h] at this;intro e;subst e;have h3:=this.2.2
 try simp only at h3
 rw [← hq,uB] at h3;omega
def EH (o:Option Nat) (q:Nat):Nat:=o.getD q
theorem uO (w:World) (U:Int) (n:Nat) (a2:Option Addr) (c2:Nat) (x2:List Int) (a3:Option Addr) (c3:Nat) (x3:List Int) (a:Option Addr) (c:Nat) (ch:List Int) (h:RdCrowd w w.heap.size a2 x2 a3 x3) (g:Rd w w.heap.size a (ae ch)) (hc:Can ⟨U,n,x2,x3⟩ ch) :
 Calls Tryz.prog 227 #[.agg #[.int .i64 U,.int .i64 n,.slice a2 x2.length c2,.slice a3 x3.length c3],.slice a ch.length c] w fun e w'=>e=.returned (.tuple #[.int .i64 (bU (de ⟨U,n,x2,x3⟩ ch)),.int .i64 (bK (de ⟨U,n,x2,x3⟩ ch))])∧Below w.heap.size w w':=by
 have hUl:(ch.length:Int)=U:=hc.len;have hU8:ch.length≤8:=by have:=hc.v.u8;simp only at this;omega
 have hU1:1≤ch.length:=by have:=hc.v.u1;simp only at this;omega
 have hw8:x2.length≤8:=hc.v.w8;have LCl:=Oi (fun w' hb=>eo w' a c ch (g.to hb) hU1 (by omega))
 have LP:=Oi (fun (w':World) (g':Nat) (tl:List Value) (cc u wy:Nat) (hA:Blk w' g' (ae ch ++ tl) 2) (hB:w.heap.size≤g') (hb:Below w.heap.size w w') (hu:u<ch.length) (hw:wy<x2.length)=>Bn w' w.heap.size g' tl U n a2 c2 x2 a3 c3 x3 cc ch u wy hA hB (h.below hb (Nat.le_refl _)) hc hu hw)
 have HM:Hid (∀ x∈ch,0≤x∧x<(x2.length:Int)):=hc.mem;have Hg:=Oi g;have Hpb:Hid (∀ ch' u,-800000≤dl ⟨U,n,x2,x3⟩ ch' u∧dl ⟨U,n,x2,x3⟩ ch' u≤800000):=fun ch' u=>wV hc.v ch' u
 have Hul:=Oi hUl;have Hway:Hid (∀ u,xm ⟨U,n,x2,x3⟩ ch u=(nx ⟨U,n,x2,x3⟩ ch u x2.length).1):=fun u=>rfl
 clear h g hc hUl;generalize hC:(⟨U,(n:Int),x2,x3⟩:Cr)=C at *
 clear hC;have Hstart:Hid (de C ch=fU C ch ch.length 0):=rfl
 go_enter Tryz.func227,Tryz.ntmps227;go_wp2_with fail;refine (LCl.out _ (ai _ _)).mono ?_;rintro e w1 ⟨a1,c1,rfl,o1,hb1⟩;obtain ⟨go,tl,rfl,hgo,hbg,hcc,hccm,hcl⟩:=lM o1.1 (by omega)
 have hgo':w.heap.size<go:=by simp at hgo;omega
 have kA:=(Blk.new w [.int .i64 U,.int .i64 n,.slice a2 x2.length c2,.slice a3 x3.length c3] 30).same hb1;have B1:=aa (ai w (.cells #[.int .i64 U,.int .i64 n,.slice a2 x2.length c2,.slice a3 x3.length c3] 30)) hb1;have KA:=Oi kA;have KG:=Oi hbg;clear o1 hb1 kA hbg LCl;go_wp2_with fail
 go_loopw [17] (fun i wr=>∃ k:Nat,k≤ch.length∧i=.int .i64 k∧Hid (de C ch=fU C ch (ch.length - k) k)∧Hid (Blk wr go (ae ch ++ tl) 2)∧Hid (Blk wr w.heap.size [.int .i64 U,.int .i64 n,.slice a2 x2.length c2,.slice a3 x3.length c3] 30)∧Below w.heap.size w wr) (fun i _=>ch.length - (intOf i).toNat)
 case atStart=>exact ⟨0,Nat.zero_le _,rfl,Hstart.out,KG.out,KA.out,B1⟩
 case round =>
  clear KA KG B1 Hstart;obtain ⟨k,hk,rfl,hbf,hG,hA,hw⟩:=hrel;have q0:=hA.out.cell 0;have q1:=hA.out.cell 1;have q2:=hA.out.cell 2;have q3:=hA.out.cell 3;simp only [List.getElem?_cons_zero,List.getElem?_cons_succ] at q0 q1 q2 q3
  by_cases hlt:k<ch.length
  · obtain ⟨b1,o1,x,rfl,hbb1,hck,hx⟩:=(Hg.out.below hw (Nat.le_refl _)).get hlt
    obtain ⟨x0,x8⟩:=HM.out x (List.mem_of_getElem? hx.out);obtain ⟨q,rfl⟩:∃ q:Nat,x=q:=⟨x.toNat,by omega⟩;have hq8:q<x2.length:=by (try simp only at x8);omega
    have Hxq:Hid (ch.getD k 0=q):=co hx.out;have LP1:=Oi (LP.out wr go tl c1 k q hG.out (by omega) hw hlt hq8)
    have Hset:Hid (ch.set k (q:Int)=ch):=by show _=_;rw [← Hxq.out];exact uB ch k
    rw [Hset.out] at LP1;have hp0:=Hpb.out ch k;have Hl0:Hid ((nx C ch k 0).2=dl C ch k∧(nx C ch k 0).1=none):=⟨rfl,rfl⟩;have Hfs:Hid (ch.length - k=(ch.length - (k+1))+1):=by show _=_;omega
    obtain ⟨p0,p1⟩:=hp0;clear hx;go_wp2_with fail;refine LP1.out.mono ?_;rintro e w2 ⟨rfl,hb2⟩;have hG2:=Oi (hG.out.same hb2);have hA2:=Oi (hA.out.same hb2);have hw2:=hw.trans (hb2.mono hw.size);have r2:=hA2.out.cell 2;simp only [List.getElem?_cons_zero,List.getElem?_cons_succ] at r2;clear hb2 hG hA LP1 q0 q1 q2 q3 hck hw;go_wp2_with fail
    go_loopw [31,9,10] (fun i bb ll wi=>∃ (j:Nat) (ob:Option Nat) (l:Int),j≤x2.length∧i=.int .i64 j∧bb=.int .i64 (EH ob q:Nat)∧ll=.int .i64 l∧Hid (nx C ch k j=(ob,l))∧Hid (Blk wi go (ae ch ++ tl) 2)∧Hid (Blk wi w.heap.size [.int .i64 U,.int .i64 n,.slice a2 x2.length c2,.slice a3 x3.length c3] 30)∧Below w.heap.size w wi) (fun i _ _ _=>x2.length - (intOf i).toNat)
    case atStart=>exact ⟨0,none,_,Nat.zero_le _,rfl,rfl,rfl,rfl,hG2.out,hA2.out,hw2⟩
    case round =>
     clear hG2 hA2 hw2 r2 p0 p1;obtain ⟨j,ob,l,hj,rfl,rfl,rfl,hsc,hG,hA,hw⟩:=hrel;have q0:=hA.out.cell 0;have q1:=hA.out.cell 1;have q2:=hA.out.cell 2;have q3:=hA.out.cell 3;simp only [List.getElem?_cons_zero,List.getElem?_cons_succ] at q0 q1 q2 q3
     by_cases hlj:j<x2.length
     · have LP1:=Oi (LP.out wr go tl c1 k j hG.out (by omega) hw hlt hlj)
       have hst:=Ga C ch k j;rw [hsc.out] at hst;simp only at hst;obtain ⟨p0,p1⟩:=Hpb.out (ch.set k (j:Int)) k
       by_cases hlt2:dl C (ch.set k (j:Int)) k<l
       · rw [if_pos hlt2] at hst
         have Hst:=Oi hst;clear hst hsc;generalize dl C (ch.set k (j:Int)) k=pj at *
         go_wp2_with fail;refine LP1.out.mono ?_;rintro e w3 ⟨rfl,hb3⟩;have hG3:=Oi (hG.out.same hb3);have hA3:=Oi (hA.out.same hb3);have hw3:=hw.trans (hb3.mono hw.size);clear hb3 hG hA LP1 q0 q1 q2 q3 hw;go_wp2_with fail;go_roundw
         case rel=>exact ⟨j+1,some j,pj,by omega,by go_num,rfl,rfl,Hst,hG3,hA3,hw3⟩
         case measure=>simp [intOf];omega
       · rw [if_neg hlt2] at hst
         have Hst:=Oi hst;clear hst hsc;generalize dl C (ch.set k (j:Int)) k=pj at *
         go_wp2_with fail;refine LP1.out.mono ?_;rintro e w3 ⟨rfl,hb3⟩;have hG3:=Oi (hG.out.same hb3);have hA3:=Oi (hA.out.same hb3);have hw3:=hw.trans (hb3.mono hw.size);clear hb3 hG hA LP1 q0 q1 q2 q3 hw;go_wp2_with fail;go_roundw
         case rel=>exact ⟨j+1,ob,l,by omega,by go_num,rfl,rfl,Hst,hG3,hA3,hw3⟩
         case measure=>simp [intOf];omega
     · have:j=x2.length:=by omega
       subst this;have hbs:=hbf.out;rw [Hfs.out,uN,Hway.out,hsc.out] at hbs;simp only at hbs
       cases ob with
       | none =>
         have HB2:=Oi hbs;rw [show EH none q=q from rfl]
         have hne:((q:Int) != (q:Int))=false:=by simp
         clear hbs hsc hbf q0 q1 q2 q3;go_wp2_with fail;go_roundw
         case rel=>exact ⟨k+1,by omega,by go_num,HB2,hG,hA,hw⟩
         case measure=>simp [intOf];omega
       | some kk =>
         rw [show EH (some kk) q=kk from rfl]
         have hkq:kk≠q:=KY (n:=x2.length) (by rw [hsc.out]) Hxq.out
         have hne:((kk:Int) != (q:Int))=true:=by simp;omega
         have HR:Hid (bU (de C ch)=k∧bK (de C ch)=kk):=by show _∧_;rw [hbs];exact ⟨rfl,rfl⟩
         clear hbs hsc hbf hkq q0 q1 q2 q3;go_wp2_with fail
         go_ret2
         exact ⟨by rw [HR.out.1,HR.out.2];rfl,hw⟩
  · have:k=ch.length:=by omega
    subst this;have hbs:=hbf.out;rw [Nat.sub_self] at hbs;have HR:Hid (bU (de C ch) = -1∧bK (de C ch)=0):=by show _∧_;rw [hbs];exact ⟨rfl,rfl⟩
    clear hbs hbf q0 q1 q2 q3;go_wp2_with fail
    go_ret2
    exact ⟨by rw [HR.out.1,HR.out.2];rfl,hw⟩
theorem IY {U R:Int} {x2 x3 ch:List Int} (hc:Can ⟨U,R,x2,x3⟩ ch):∃ n:Nat,R=n:=⟨R.toNat,by have:=hc.v.r1;simp only at this;omega⟩
def RetT (T:Nat) (w:World) (r:Option (List Int × Int)) (e:Ending) (w':World):Prop :=
 Below w.heap.size w w'∧match r with
  | none=>e=.returned (.tuple #[.slice none 0 0,.int .i64 0,.bool false])
  | some (ys,m)=>∃ a c,e=.returned (.tuple #[.slice a ys.length c,.int .i64 m,.bool true])∧w'.ownsRow w.heap.size T 1 (.slice a ys.length c) ys.length (ae ys)
theorem RetT.no {T:Nat} {w w':World} (h:Below w.heap.size w w'):RetT T w none (.returned (.tuple #[.slice none 0 0,.int .i64 0,.bool false])) w':=⟨h,rfl⟩
def lj (c:Cr) (ch:List Int):Option (List Int × Int):=if jh c ch then some ((eO c ch).1,((eO c ch).2:Int)) else none
theorem yq {c:Cr} {ch:List Int} (h:jh c ch=false):lj c ch=none:=by simp [lj,h]
theorem vJ {c:Cr} {ch:List Int} (h:jh c ch=true):lj c ch=some ((eO c ch).1,((eO c ch).2:Int)):=by simp [lj,h]
theorem IV {c:Cr} {ch:List Int} (h:Can c ch):(eO c ch).1.length=ch.length:=by
 have h1:=(qV h).1.len;have h2:=h.len;omega
theorem Kd {c:Cr} {ch:List Int} (h:Can c ch):eV c ch≤12800000:=by
 have:=mG h;unfold eV;omega
structure OnWay (c:Cr) (ch cur:List Int) (k:Nat):Prop where
 can:Can c cur
 meas:k+eV c cur≤12800000
 len:cur.length=ch.length
 goal:eO c ch=((eO c cur).1,(eO c cur).2+k)
theorem OnWay.start {c:Cr} {ch:List Int} (h:Can c ch):OnWay c ch ch 0:=⟨h,by have:=Kd h;omega,rfl,rfl⟩
theorem OnWay.step {c:Cr} {ch cur:List Int} {k u v:Nat} (h:OnWay c ch cur k) (hb:de c cur=some (u,v)):OnWay c ch (cur.set u (v:Int)) (k+1):=by
 have h1:=iM hb;have h2:=xO h.can hb;refine ⟨h.can.set h1.2.1,by have:=h.meas;omega,by rw [List.length_set,h.len],?_⟩
 rw [h.goal,F3 h.can hb];simp only [Prod.mk.injEq,true_and];omega
theorem OnWay.done {c:Cr} {ch cur:List Int} {k:Nat} (h:OnWay c ch cur k) (hb:de c cur=none):eO c ch=(cur,k):=by
 rw [h.goal,F2 hb];simp
theorem F4 (w:World) (U R:Int) (a2:Option Addr) (c2:Nat) (x2:List Int) (a3:Option Addr) (c3:Nat) (x3:List Int) (a:Option Addr) (c:Nat) (ch:List Int) (h:RdCrowd w w.heap.size a2 x2 a3 x3) (hl2:x2.length≤1048576) (hl3:x3.length≤1048576) (g:Rd w w.heap.size a (ae ch)) (hl:ch.length≤1048576) :
 Calls Tryz.prog 200 #[.agg #[.int .i64 U,.int .i64 R,.slice a2 x2.length c2,.slice a3 x3.length c3],.slice a ch.length c] w (RetT 2 w (lj ⟨U,R,x2,x3⟩ ch)):=by
 have LC:=Oi (fun w' hb=>qn w' U R a2 c2 x2 a3 c3 x3 a c ch (h.to hb) hl2 hl3 (g.to hb) hl)
 cases t1:jh ⟨U,R,x2,x3⟩ ch with
 | false =>
   rw [yq t1];rw [t1] at LC;clear h g t1
   go_enter Tryz.func200,Tryz.ntmps200;go_wp2_with fail;refine (LC.out _ (ai _ _)).mono ?_;rintro e w1 ⟨rfl,hb1⟩;have B1:=aa (ai w _) hb1;clear hb1;go_wp2_with fail;go_ret3;exact RetT.no B1
 | true =>
   rw [vJ t1];rw [t1] at LC;have hc:=zV t1;have hU1:1≤ch.length:=by have:=hc.v.u1;have:=hc.len;simp only at *;omega
   obtain ⟨n,rfl⟩:=IY hc;have LB:=Oi (fun w' a' c' cur hb hr hcan=>uO w' U n a2 c2 x2 a3 c3 x3 a' c' cur (h.to hb) hr hcan)
   have LCl:=Oi (fun w' hb=>eo w' a c ch (g.to hb) hU1 (by omega))
   have Hst:Hid (OnWay ⟨U,n,x2,x3⟩ ch ch 0):=OnWay.start hc;clear h g t1 hc;generalize hC:(⟨U,(n:Int),x2,x3⟩:Cr)=C at *
   clear hC
   go_enter Tryz.func200,Tryz.ntmps200;go_wp2_with fail;refine (LC.out _ (ai _ _)).mono ?_;rintro e w1 ⟨rfl,hb1⟩;have kA:=(Blk.new w [.int .i64 U,.int .i64 n,.slice a2 x2.length c2,.slice a3 x3.length c3] 30).same hb1;have B1:=aa (ai w (.cells #[.int .i64 U,.int .i64 n,.slice a2 x2.length c2,.slice a3 x3.length c3] 30)) hb1;have s1:w.heap.size<w1.heap.size:=by have:=hb1.size;simp at this;omega
   clear hb1 LC;go_wp2_with fail;refine (LCl.out _ B1).mono ?_;rintro e w2 ⟨a1,c1,rfl,o1,hb2⟩;obtain ⟨q,tl,rfl,hq,hbq,hcc,hccm,hcl⟩:=lM o1.1 (by omega)
   have KA:=Oi (kA.same hb2);have KQ:=Oi hbq;have B2:=aa B1 hb2;have hqw:w.heap.size<q:=by omega
   clear hb2 o1 hbq kA B1 LCl hq s1;go_wp2_with fail
   go_loopw [8] (fun i wr=>∃ (k:Nat) (cur:List Int),i=.int .i64 k∧Hid (OnWay C ch cur k)∧Hid (Blk wr q (ae cur ++ tl) 2)∧Hid (Blk wr w.heap.size [.int .i64 U,.int .i64 n,.slice a2 x2.length c2,.slice a3 x3.length c3] 30)∧Below w.heap.size w wr) (fun i _=>12800001 - (intOf i).toNat)
   case atStart=>exact ⟨0,ch,rfl,Hst.out,KQ.out,KA.out,B2⟩
   case round =>
    clear KA KQ B2 Hst;obtain ⟨k,cur,rfl,hway,hG,hA,hw⟩:=hrel;have hm:=hway.out.meas;have hcl2:=Oi hway.out.len;have q0:=hA.out.cell 0;have q1:=hA.out.cell 1;have q2:=hA.out.cell 2;have q3:=hA.out.cell 3;simp only [List.getElem?_cons_zero,List.getElem?_cons_succ] at q0 q1 q2 q3;have hqs:q<wr.heap.size:=hG.out.lt;have LB1:=Oi (LB.out wr (some ⟨q,0,none⟩) c1 cur hw (BJ hG.out hqs) hway.out.can);rw [hcl2.out] at LB1
    cases hbf:de C cur with
    | none =>
      have hdone:=Oi (hway.out.done hbf);simp only [hbf,bU,bK] at LB1;clear hway hbf;go_wp2_with fail;refine LB1.out.mono ?_;rintro e w3 ⟨rfl,hb3⟩;have B3:=hw.trans (hb3.mono hw.size);have HR:Hid (RetT 2 w (some ((eO C ch).1,((eO C ch).2:Int))) (.returned (.tuple #[.slice (some ⟨q,0,none⟩) ch.length c1,.int .i64 k,.bool true])) w3):=by
       rw [hdone.out];refine ⟨B3,_,_,by rw [hcl2.out],?_⟩
       rw [hcl2.out];refine yb (hG.out.same hb3) (by omega) (by simp [hcl2.out]) hcc hccm ?_
       simp [hcl2.out] at hcl ⊢
       omega
      clear hb3 LB1 B3 hG hA hw q0 q1 q2 q3;go_wp2_with fail;go_ret3;exact HR.out
    | some p =>
      obtain ⟨u,v⟩:=p;have hstep:=Oi (hway.out.step hbf);obtain ⟨hu,_,_⟩:=iM hbf;simp only [hbf,bU,bK] at LB1;have hu2:u<ch.length:=by have:=hcl2.out;omega
      clear hway hbf;go_wp2_with fail;refine LB1.out.mono ?_;rintro e w3 ⟨rfl,hb3⟩;have B3:=hw.trans (hb3.mono hw.size);have hneg:¬ ((u:Int)<0):=by omega
      have kQ:=hG.out.same hb3;have f1:=kQ.free u;have e1:=ki kQ (j:=u) hu;have KQ2:=Oi (sY kQ (j:=u) hu v);have KA2:=Oi ((hA.out.same hb3).oth (g:=q) (by omega) u (.int .i64 v))
      have B4:=aw B3 (g:=q) (by omega) u (.int .i64 v)
      clear hb3 LB1 B3 hG hA hw q0 q1 q2 q3 kQ;go_wp2_with fail;go_roundw
      case rel=>exact ⟨k+1,cur.set u (v:Int),by go_num,hstep.out,KQ2.out,KA2.out,B4⟩
      case measure=>simp [intOf];omega
end Go.Proofs.YtbknhgapjjaelaaGreatDoor
