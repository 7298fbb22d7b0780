/-
  Part 22 of what the proof stands on: lemmas and contracts, each with its conditions ahead of the colon.
-/
import Derived.Test.YtbknhgapjjaelaaGreatDoorPk01
import Derived.Test.YtbknhgapjjaelaaGreatDoorPk03
import Derived.Test.YtbknhgapjjaelaaGreatDoorPk04
import Derived.Test.YtbknhgapjjaelaaGreatDoorPk09
import Derived.Test.YtbknhgapjjaelaaGreatDoorPk10
import Derived.Test.YtbknhgapjjaelaaGreatDoorPk11
import Derived.Test.YtbknhgapjjaelaaGreatDoorPk14
import Derived.Test.YtbknhgapjjaelaaGreatDoorPk17
import Derived.Test.YtbknhgapjjaelaaGreatDoorPk18
import Derived.Test.YtbknhgapjjaelaaGreatDoorPk19
import Derived.Test.YtbknhgapjjaelaaGreatDoorPk21
set_option maxRecDepth 200000
set_option maxHeartbeats 16000000
namespace Go.Proofs.YtbknhgapjjaelaaGreatDoor
set_option linter.unusedVariables false
set_option linter.unusedSimpArgs false
open Go.RowKit
def oU (s:List UInt8) (xs:List Int) (f:DD→Option (List UInt8)):Prop :=
 ∀ (w:World) (b:Nat) (d:DD) (x:DA) (a:Option Addr) (c:Nat),Env w→d.ok=true→Blk w b (d.cells x) 33→DRd w w.heap.size d x→Rd w w.heap.size a (ae xs)→Calls Tryz.prog 136 #[.pointer (some ⟨b,0,none⟩),.string (bs s),.slice a xs.length c] w (RetTn (f d) w)
theorem RetTn.of (r:Option (List UInt8)) {w w':World} (h:Below w.heap.size w w'):RetTn r w (.returned (.tuple #[.string (bs (r.getD [])),.bool r.isSome])) w':=⟨h,_,rfl,fun l hl=>by rw [hl];rfl⟩
theorem Kc {w:World} (ht:Tab w) (w1:World) (hb:Below w.heap.size w w1) :
 Calls Tryz.prog 102 #[.bool false,.slice (some ⟨w1.heap.size,0,none⟩) 1 1] (w1.alloc (.cells #[.slice none 0 0] 24)) (kS none w):=by
 have B1:=ah w1 (.cells #[.slice none 0 0] 24);have B2:=aa hb B1;refine (gx (w1.alloc (.cells #[.slice none 0 0] 24)) (ht.to B2) false (some ⟨w1.heap.size,0,none⟩) 1 [[]] (EI (Blk.new w1 [.slice none 0 0] 24) (.inl rfl)) (by simp) (fun x hx=>by simp at hx;subst hx;simp)).mono ?_
 rintro e w2 ⟨hb2,rfl⟩;exact ⟨aa B2 hb2,rfl⟩
theorem Le {P T:Nat} {V ow l:List Int} (h:lD P T V ow=some l):l.length≤P * P:=by
 unfold lD at h
 split at h
 · injection h with h;subst h;exact Nat.le_of_eq (uC _ _ _ _ _)
 · cases h
theorem I7 {P T:Nat} {V ow l:List Int} (h:qI P T V ow=some l):l.length=T:=by
 unfold qI at h
 split at h
 · injection h with h;subst h;exact kx _ _ _ _
 · cases h
theorem zP {c:Cr} {ch l:List Int} {m:Int} (h:kz c ch=some (l,m)) (hl:ch.length≤64):l.length≤1048576∧-9223372036854775808≤m∧m≤9223372036854775807:=by
 cases hb:jb c ch with
 | false=>rw [xJ hb] at h;cases h
 | true =>
   rw [uU hb] at h;injection h with h
   injection h with h1 h2
   subst h1 h2;have hc:=zn hb;have e:=Gb hc;have g:=(qg hc).2.2;have b1:=mj hc;unfold eT at g;refine ⟨by omega,by omega,by omega⟩
def jS (r:Option (List Int)):Option (List UInt8):=match r with
 | none=>none
 | some l=>er [l]
def nm (r:Option (List Int × Int)):Option (List UInt8):=match r with
 | none=>none
 | some (l,n)=>qn true l n
theorem FB (w:World) (U:Int) (n:Int) (a2:Option Addr) (c2:Nat) (x2:List Int) (a3:Option Addr) (c3:Nat) (x3:List Int) (a:Option Addr) (c:Nat) (ch:List Int) (h:RdCrowd w w.heap.size a2 x2 a3 x3) (hl2:x2.length≤1048576) (hl3:x3.length≤1048576) (g:Rd w w.heap.size a (ae ch)) (hl:ch.length≤1048576) (hcb:jb ⟨U,n,x2,x3⟩ ch=false) :
 Calls Tryz.prog 201 #[.agg #[.int .i64 U,.int .i64 n,.slice a2 x2.length c2,.slice a3 x3.length c3],.slice a ch.length c] w fun e w'=>e=.returned (.tuple #[.int .i64 0,.bool false])∧Below w.heap.size w w':=by
 have LC:=Na (fun w' hb=>qx w' U n a2 c2 x2 a3 c3 x3 a c ch (h.to hb) hl2 hl3 (g.to hb) hl)
 rw [hcb] at LC;clear h g hcb hl hl2 hl3
 go_enter Tryz.func201,Tryz.ntmps201;go_wp2_with fail;refine (LC.out _ (ah _ _)).mono ?_;rintro e w1 ⟨rfl,hb1⟩;have B1:=Na (aa (ah w (.cells #[.int .i64 U,.int .i64 n,.slice a2 x2.length c2,.slice a3 x3.length c3] 30)) hb1);clear hb1 LC;go_wp2_with fail
 go_ret2
 exact ⟨rfl,B1.out⟩
def mK:List UInt8:=[116,97,107,101]
theorem Io (xs:List Int) (hxs:xs.length≤64):oU mK xs (fun d=>jS (qI d.P.toNat d.T.toNat d.V xs)):=by
 intro w b d x a c hE hok hB hR hX;dsimp only;obtain ⟨⟨a1,a2⟩,⟨b1,b2⟩,⟨v1,v2⟩,⟨l1,l2⟩,⟨k1,k2⟩,f1,f2⟩:=DD.ok_len hok;obtain ⟨hg,hv,hc,ht⟩:=DD.ok_parts hok;obtain ⟨R,C,A,B,dP,dT,V,U,N,W,K,F⟩:=d;obtain ⟨P,T,e1,e2,p1,p6,t1,t8,lV,-⟩:=cq hv;dsimp only at e1 e2 p1 p6 t1 t8 lV;subst e1 e2;have LG:=Na (yn w P T x.v x.cv V a c xs hv hR.r.V hX (by omega))
 dsimp only [Int.toNat_natCast];obtain ⟨r,hr⟩:∃ r,r=qI P T V xs:=⟨_,rfl⟩;rw [← hr] at LG ⊢;have HL:Hid (∀ l,r=some l→l.length≤1048576):=fun l hl=>by have h8:T≤8:=t8;rw [hr] at hl;have:=I7 hl;omega
 clear hr;have HT:=Na hE.tab;unfold so at LG;obtain ⟨z0,z1,z2,z3,z4,z5,z6,z7,z8,z9,z10,z11⟩:=af hB
 try dsimp only at z0 z1 z2 z3 z4 z5 z6 z7 z8 z9 z10 z11
 have HE:=Na hE;clear hB hR hE hok a1 a2 b1 b2 v1 v2 l1 l2 k1 k2 f1 f2 hg hv hc ht hX hxs p1 p6 t1 t8 lV;obtain ⟨s,hs⟩:∃ s:ByteArray,s=bs mK:=⟨_,rfl⟩;have t_take:(s.toList == [116,97,107,101])=true:=by rw [hs,ab];rfl
 rw [← hs];clear hs
 go_enter Tryz.func136,Tryz.ntmps136;go_wp2_with fail;refine LG.out.mono ?_
 cases r with
 | none =>
   rintro e w1 ⟨hb,rfl⟩;have LT1:=Na (Kc HT.out w1 hb);clear hb;go_wp2_with fail;refine LT1.out.mono ?_;rintro e w2 ⟨hb2,rfl⟩;go_wp2_with fail
   go_ret2
   exact RetTn.of none hb2
 | some l =>
   rintro e w1 ⟨hb,a',c',rfl,hr⟩;have LT1:=Na (sN HT.out l (HL.out l rfl) w1 hb a' c' hr);clear hb hr;go_wp2_with fail;refine LT1.out.mono ?_;rintro e w2 ⟨hb2,rfl⟩;go_wp2_with fail
   go_ret2
   exact RetTn.of (er [l]) hb2
def mR:List UInt8:=[101,110,118,121]
theorem G6 (xs:List Int) (hxs:xs.length≤64):oU mR xs (fun d=>jS (lD d.P.toNat d.T.toNat d.V xs)):=by
 intro w b d x a c hE hok hB hR hX;dsimp only;obtain ⟨⟨a1,a2⟩,⟨b1,b2⟩,⟨v1,v2⟩,⟨l1,l2⟩,⟨k1,k2⟩,f1,f2⟩:=DD.ok_len hok;obtain ⟨hg,hv,hc,ht⟩:=DD.ok_parts hok;obtain ⟨R,C,A,B,dP,dT,V,U,N,W,K,F⟩:=d;obtain ⟨P,T,e1,e2,p1,p6,t1,t8,lV,-⟩:=cq hv;dsimp only at e1 e2 p1 p6 t1 t8 lV;subst e1 e2;have LG:=Na (yk w P T x.v x.cv V a c xs hv hR.r.V hX (by omega))
 dsimp only [Int.toNat_natCast];obtain ⟨r,hr⟩:∃ r,r=lD P T V xs:=⟨_,rfl⟩;rw [← hr] at LG ⊢;have HL:Hid (∀ l,r=some l→l.length≤1048576):=fun l hl=>by have h8:P≤6:=p6;rw [hr] at hl;have:=Le hl;have:=Nat.mul_le_mul h8 h8;omega
 clear hr;have HT:=Na hE.tab;unfold so at LG;obtain ⟨z0,z1,z2,z3,z4,z5,z6,z7,z8,z9,z10,z11⟩:=af hB
 try dsimp only at z0 z1 z2 z3 z4 z5 z6 z7 z8 z9 z10 z11
 have HE:=Na hE;clear hB hR hE hok a1 a2 b1 b2 v1 v2 l1 l2 k1 k2 f1 f2 hg hv hc ht hX hxs p1 p6 t1 t8 lV;obtain ⟨s,hs⟩:∃ s:ByteArray,s=bs mR:=⟨_,rfl⟩;have t_take:(s.toList == [116,97,107,101])=false:=by rw [hs,ab];rfl
 have t_envy:(s.toList == [101,110,118,121])=true:=by rw [hs,ab];rfl
 rw [← hs];clear hs
 go_enter Tryz.func136,Tryz.ntmps136;go_wp2_with fail;refine LG.out.mono ?_
 cases r with
 | none =>
   rintro e w1 ⟨hb,rfl⟩;have LT1:=Na (Kc HT.out w1 hb);clear hb;go_wp2_with fail;refine LT1.out.mono ?_;rintro e w2 ⟨hb2,rfl⟩;go_wp2_with fail
   go_ret2
   exact RetTn.of none hb2
 | some l =>
   rintro e w1 ⟨hb,a',c',rfl,hr⟩;have LT1:=Na (sN HT.out l (HL.out l rfl) w1 hb a' c' hr);clear hb hr;go_wp2_with fail;refine LT1.out.mono ?_;rintro e w2 ⟨hb2,rfl⟩;go_wp2_with fail
   go_ret2
   exact RetTn.of (er [l]) hb2
def nf:List UInt8:=[114,101,115,116]
theorem IE (xs:List Int) (hxs:xs.length≤64):oU nf xs (fun d=>nm (kz ⟨d.U,d.N,d.W,d.K⟩ xs)):=by
 intro w b d x a c hE hok hB hR hX;dsimp only;obtain ⟨⟨a1,a2⟩,⟨b1,b2⟩,⟨v1,v2⟩,⟨l1,l2⟩,⟨k1,k2⟩,f1,f2⟩:=DD.ok_len hok;obtain ⟨hg,hv,hc,ht⟩:=DD.ok_parts hok;have LG:=Na (E7 w d.U d.N x.w x.cw d.W x.k x.ck d.K a c xs ⟨hR.r.W,hR.r.C⟩ (by omega) (by omega) hX (by omega))
 obtain ⟨r,hr⟩:∃ r,r=kz ⟨d.U,d.N,d.W,d.K⟩ xs:=⟨_,rfl⟩;rw [← hr] at LG ⊢;have HL:Hid (∀ l m,r=some (l,m)→l.length≤1048576∧-9223372036854775808≤m∧m≤9223372036854775807):=fun l m hl=>by rw [hr] at hl;exact zP hl (by omega)
 clear hr;have HT:=Na hE.tab;unfold RetT at LG;obtain ⟨z0,z1,z2,z3,z4,z5,z6,z7,z8,z9,z10,z11⟩:=af hB
 try dsimp only at z0 z1 z2 z3 z4 z5 z6 z7 z8 z9 z10 z11
 have HE:=Na hE;clear hB hR hE hok a1 a2 b1 b2 v1 v2 l1 l2 k1 k2 f1 f2 hg hv hc ht hX hxs;obtain ⟨s,hs⟩:∃ s:ByteArray,s=bs nf:=⟨_,rfl⟩;have t_take:(s.toList == [116,97,107,101])=false:=by rw [hs,ab];rfl
 have t_envy:(s.toList == [101,110,118,121])=false:=by rw [hs,ab];rfl
 have t_rest:(s.toList == [114,101,115,116])=true:=by rw [hs,ab];rfl
 rw [← hs];clear hs
 go_enter Tryz.func136,Tryz.ntmps136;go_wp2_with fail;refine LG.out.mono ?_
 cases r with
 | none =>
   rintro e w1 ⟨hb,rfl⟩;have LT1:=Na (jq w1 (HT.out.to hb) false none 0 [] 0 (.inl rfl) (by simp) (by omega) (by omega))
   rw [List.length_nil] at LT1;have HB:=Na hb;clear hb;go_wp2_with fail;refine LT1.out.mono ?_;rintro e w2 ⟨hb2,t,rfl,ht⟩;go_wp2_with fail
   go_ret2
   exact ⟨aa HB.out hb2,t,rfl,fun l hl=>by cases hl⟩
 | some p =>
   obtain ⟨l,m⟩:=p;rintro e w1 ⟨hb,a',c',rfl,hr⟩;obtain ⟨h1,h2,h3⟩:=HL.out l m rfl;have LT1:=Na (jq w1 (HT.out.to hb) true a' c' l m (ay hr (Nat.le_refl _)) h1 h2 h3);have HB:=Na hb;clear hb hr h1 h2 h3;go_wp2_with fail;refine LT1.out.mono ?_;rintro e w2 ⟨hb2,t,rfl,ht⟩;go_wp2_with fail
   go_ret2
   exact ⟨aa HB.out hb2,t,rfl,ht⟩
def le:List UInt8:=[116,111,116,97,108]
theorem DV (xs:List Int) (hxs:xs.length≤64):oU le xs (fun d=>if jb ⟨d.U,d.N,d.W,d.K⟩ xs then some (Lib.itoa (cD ⟨d.U,d.N,d.W,d.K⟩ xs)) else none):=by
 intro w b d x a c hE hok hB hR hX;dsimp only;obtain ⟨⟨a1,a2⟩,⟨b1,b2⟩,⟨v1,v2⟩,⟨l1,l2⟩,⟨k1,k2⟩,f1,f2⟩:=DD.ok_len hok;obtain ⟨hg,hv,hc,ht⟩:=DD.ok_parts hok;have LD:=Na (fun v (hb:Below w.heap.size w v) (n:Int) h0 h1=>lL v (hE.tab.to hb) n h0 h1)
 obtain ⟨n,hn⟩:∃ n:Nat,d.N=(n:Int):=⟨d.N.toNat,by have:=(ee hc).r1;simp only at this;omega⟩;have hX':=hX;rw [hn] at hc ⊢;have LN:=Na (FB w d.U n x.w x.cw d.W x.k x.ck d.K a c xs ⟨hR.r.W,hR.r.C⟩ (by omega) (by omega) hX (by omega))
 have LY:=Na (By w d.U n x.w x.cw d.W x.k x.ck d.K a c xs ⟨hR.r.W,hR.r.C⟩ (by omega) (by omega) hX)
 have HT:=Na (ug (ee hc) xs);obtain ⟨z0,z1,z2,z3,z4,z5,z6,z7,z8,z9,z10,z11⟩:=af hB
 try dsimp only at z0 z1 z2 z3 z4 z5 z6 z7 z8 z9 z10 z11
 have HE:=Na hE;rw [hn] at z8;clear hX' hn;generalize cD ⟨d.U,n,d.W,d.K⟩ xs=m at *
 clear hB hR hE hok a1 a2 b1 b2 v1 v2 l1 l2 k1 k2 f1 f2 hg hv hc ht hX hxs;obtain ⟨s,hs⟩:∃ s:ByteArray,s=bs le:=⟨_,rfl⟩;have t_take:(s.toList == [116,97,107,101])=false:=by rw [hs,ab];rfl
 have t_envy:(s.toList == [101,110,118,121])=false:=by rw [hs,ab];rfl
 have t_rest:(s.toList == [114,101,115,116])=false:=by rw [hs,ab];rfl
 rw [← hs];clear hs
 cases hq:jb ⟨d.U,n,d.W,d.K⟩ xs with
 | false =>
   have L:=Na (LN.out hq);rw [if_neg (by decide)]
   clear LN LY hq
   go_enter Tryz.func136,Tryz.ntmps136;go_wp2_with fail;refine L.out.mono ?_;rintro e w1 ⟨rfl,hb⟩;have LD1:=Na (LD.out w1 hb 0 (by omega) (by omega))
   have HB:=Na hb;clear hb LD;go_wp2_with fail;refine LD1.out.mono ?_;rintro e w2 ⟨rfl,hb2⟩;go_wp2_with fail
   go_ret2
   exact ⟨aa HB.out hb2,_,rfl,fun l hl=>by cases hl⟩
 | true =>
   have L:=Na (LY.out hq);rw [if_pos rfl];clear LN LY hq
   go_enter Tryz.func136,Tryz.ntmps136;go_wp2_with fail;refine L.out.mono ?_;rintro e w1 ⟨rfl,hb⟩;have LD1:=Na (LD.out w1 hb m (by have:=HT.out;omega) (by have:=HT.out;omega))
   have HB:=Na hb;clear hb LD;go_wp2_with fail;refine LD1.out.mono ?_;rintro e w2 ⟨rfl,hb2⟩;go_wp2_with fail
   go_ret2
   exact ⟨aa HB.out hb2,_,rfl,fun l hl=>by injection hl with hl;subst hl;rfl⟩
def Apt (a:Option Addr) (v:Value):Prop:=∀ b,a=some b→some b.block≠v.ownBlock
theorem Rd.apt {wr w':World} {B:Nat} {a:Option Addr} {vs:List Value} {v:Value} (h:Rd wr B a vs) (hB:B≤wr.heap.size) (hg:wr.grownBy w' v.ownBlock) (ha:Apt a v):Rd w' B a vs:=by
 rcases h with h | ⟨b,o,e,hb,hc⟩
 · exact .inl h
 · exact .inr ⟨b,o,e,hb,fun j hj=>by rw [World.cell?_of_block (w:=wr) (hg.block b (by omega) (ha _ e))];exact hc j hj⟩
theorem Apt.grow {wr:World} {a:Option Addr} {v v':Value} (ha:Apt a v) (hlt:∀ b,a=some b→b.block<wr.heap.size) (hn:∀ g,g<wr.heap.size→some g≠v.ownBlock→some g≠v'.ownBlock):Apt a v' :=
 fun b e=>hn _ (hlt b e) (ha b e)
def MB (w:World) (ps:List (List UInt8)) (e:Ending) (w':World):Prop:=∃ a c,e=.returned (.slice a ps.length c)∧Rd w' w'.heap.size a (cn ps)∧(∀ b,a=some b→w.heap.size≤b.block∧b.block<w'.heap.size)∧Below w.heap.size w w'
theorem uz (w:World) (h:Shp w) (s:ByteArray) (hs:s.size≤1048576) :
 Calls Tryz.prog 48 #[.string s] w (MB w (dJ s.data.toList)):=by
 have LS:=Na (oN w h s hs 44 ⟨#[44]⟩ rfl)
 by_cases hn:s.data.toList=lJ
 · have HP:Hid (dJ s.data.toList=[]):=by unfold dJ;rw [Hid,if_pos hn]
   have hS:s=⟨#[110,111,110,101]⟩:=by rw [← uN s,hn];rfl
   have hbl:(s.toList == [110,111,110,101])=true:=by rw [Lib.toList_data,hn];rfl
   rw [HP.out];clear hn LS hS
   go_enter Tryz.func48,Tryz.ntmps48;go_wp2_with fail;go_ret;exact ⟨none,0,rfl,.inl rfl,(fun b e=>by cases e),Below.refl _ _⟩
 · have HP:Hid (dJ s.data.toList=co 44 s.data.toList):=by unfold dJ;rw [Hid,if_neg hn]
   have hbl:(s.toList == [110,111,110,101])=false:=by rw [Lib.toList_data,Bool.eq_false_iff];intro e;exact hn (eq_of_beq e)
   rw [HP.out];generalize co 44 s.data.toList=ps at *
   clear hn
   go_enter Tryz.func48,Tryz.ntmps48;go_wp2_with fail;refine LS.out.mono ?_;rintro e w' ⟨rfl,hb,hw⟩;go_wp2_with fail;go_ret;exact ⟨_,_,rfl,hb.rd hb.lt,(fun b e=>by injection e with e;subst e;exact ⟨Nat.le_refl _,hb.lt⟩),hw⟩
theorem AS (w:World) (hT:Tab w) (hS:Shp w) (hE:Errs w) (s:ByteArray) (hs:s.size≤1048576) :
 Calls Tryz.prog 111 #[.string s] w (wn 2 w (di eg (dJ s.data.toList))):=by
 have hln:(dJ s.data.toList).length≤1048577:=by have:=AH s.data.toList;have:=Lib.size_eq s;omega
 have HM:Hid (∀ x∈dJ s.data.toList,x.length≤1048576):=fun x hx=>by have:=Aw hx;have:=Lib.size_eq s;omega
 have LP:=Na (fun v (hv:Below w.heap.size w v)=>uz v (hS.to hv) s hs)
 have HT:=Na hT;have HE:=Na hE;have LD:=Na jH;have HTl:=Na (Till.start eg (dJ s.data.toList));generalize dJ s.data.toList=ps at *
 clear hT hS hE hs;have hO0:=Na (bD w 2)
 go_enter Tryz.func111,Tryz.ntmps111;go_wp2_with fail;refine (LP.out _ (ah _ _)).mono ?_;rintro e w1 ⟨a,c,rfl,hrd,hbl,hb1⟩;have HX:=Na hrd;have HB1:=Na (aa (ah _ _) hb1);have HO1:=Na (aG hO0.out hb1);have HL:=Na (fun b (e:a=some b)=>(hbl b e).2)
 have HA0:Hid (Apt a (.slice (some ⟨w.heap.size,0,none⟩) 0 0)):=fun b e h=>by
  have h1:=(hbl b e).1;have h2:some b.block=some w.heap.size:=h;injection h2 with h2
  simp at h1
  omega
 clear hrd hb1 hO0 LP hbl;go_wp2_with fail
 go_loopw [4,13] (fun v iv wr=>∃ (k:Nat) (d:List Int),k≤ps.length∧d.length=k∧iv=.int .i64 k∧(∃ g c,v=.slice (some ⟨g,0,none⟩) d.length c)∧Hid (Till eg ps k d)∧Hid (wr.ownsRow w.heap.size 2 1 v d.length (ae d))∧Hid (Below w.heap.size w wr)∧Hid (Rd wr w1.heap.size a (cn ps))∧Hid (w1.heap.size≤wr.heap.size)∧Hid (Apt a v)) (fun _ iv _=>ps.length - (intOf iv).toNat)
 case atStart=>exact ⟨0,[],Nat.zero_le _,rfl,rfl,⟨_,_,rfl⟩,HTl.out,HO1.out,HB1.out,HX.out,Nat.le_refl _,HA0.out⟩
 case round =>
  obtain ⟨k,d,hk,hdk,rfl,⟨g,cp,rfl⟩,hTl,hO,hw,hR,hS1,hA⟩:=hrel;have HDK:=Na hdk;clear hdk;have k0:(0:Int)≤(k:Int):=Int.natCast_nonneg _
  by_cases hlt:k<ps.length
  · have k1:(k:Int)<(ps.length:Int):=by omega
    obtain ⟨b,o,l,ha,hb,hc,hl⟩:=iq hR.out hlt;have HAe:=Na ha;subst ha;have hlm:=HM.out l (List.mem_of_getElem? hl.out);have LD1:=Na (LD.out wr (HT.out.to hw.out) (HE.out.to hw.out) (bs l) (by rw [aI];exact hlm))
    rw [show (bs l).data.toList=l from rfl] at LD1
    cases hv:eg l with
    | none =>
      have HF:=Na (hTl.out.stop hl.out hv);rw [hv] at LD1;clear hTl hl hv;go_wp2_with fail;refine LD1.out.mono ?_;rintro e w2 ⟨rfl,hb2⟩;go_wp2_with fail
      go_ret2
      rw [HF.out];exact ⟨aa hw.out hb2,rfl⟩
    | some n =>
      have HT2:=Na (hTl.out.step hl.out hv);rw [hv] at LD1;clear hTl hl hv;go_wp2_with fail;refine LD1.out.mono ?_;rintro e w2 ⟨rfl,hb2⟩;have hO':=aG hO.out hb2;have hw2:=aa hw.out hb2;have hws2:=hw2.size;have hdl:d.length≤1099511627776:=by have:=HDK.out;omega
      have HR2:=Na (hR.out.below (hb2.mono hS1.out) (Nat.le_refl _));have HS2:=Na (Nat.le_trans hS1.out hb2.size);clear hb2 hO hw hR LD1
      go_wp2_with (at_builtin;go_loud (refine aP _ rfl _ _ 24 rfl w.heap.size 2 (.int .i64 0) 8 Tryz.underlying24 aU rfl _ d.length _ rfl hO' (.int .i64 n) rfl rfl (by omega) hdl hws2 ?_))
      intro v' w' ho hgr hng;obtain ⟨g2,c2,rfl⟩:=fk ho (by omega)
      have HO2:Hid (w'.ownsRow w.heap.size 2 1 (.slice (some ⟨g2,0,none⟩) (d.length+1) c2) (d ++ [n]).length (ae (d ++ [n]))):=by
       rw [Hid,List.length_append,List.length_singleton,bh];exact ho
      have HW3:=Na (ai hw2 hO' hgr (Nat.le_refl _) hws2);have HR3:=Na (HR2.out.apt HS2.out hgr hA.out);have HS3:=Na (Nat.le_trans HS2.out hgr.size);have HA3:=Na (hA.out.grow (fun b e=>Nat.lt_of_lt_of_le (HL.out b e) HS2.out) hng)
      clear ho hgr hng hO' hw2 HR2 hA;go_wp2_with fail;go_roundw
      case rel=>exact ⟨k+1,d ++ [n],by omega,by simp [HDK.out],by go_num,⟨g2,c2,by simp⟩,HT2.out,HO2.out,HW3.out,HR3.out,HS3.out,HA3.out⟩
      case measure=>simp [intOf];omega
  · obtain rfl:k=ps.length:=by omega
    have HF:=Na hTl.out.done;clear hTl;go_wp2_with fail
    go_ret2
    rw [HF.out];exact ⟨hw.out,_,_,rfl,hO.out⟩
theorem gK (w:World) (hT:Tab w) (hS:Shp w) (hE:Errs w) (s:ByteArray) (hs:s.size≤1048576) :
 Calls Tryz.prog 84 #[.string s] w (wn 2 w (de s.data.toList)):=by
 have LR:=Na (AS w hT hS hE s hs);clear hT hS hE
 cases ha:di eg (dJ s.data.toList) with
 | none =>
   have HF:=Na (Hv ha);rw [ha] at LR;rw [HF.out];clear ha
   go_enter Tryz.func84,Tryz.ntmps84;go_wp2_with fail;refine LR.out.mono ?_;rintro e w' ⟨hb,rfl⟩;go_wp2_with fail
   go_ret2
   exact ⟨hb,rfl⟩
 | some ns =>
   rw [ha] at LR
   by_cases hl:ns.length≤64
   · have HF:=Na (uZ ha hl)
     rw [HF.out];have hl2:¬ (64:Int)<(ns.length:Int):=by omega
     clear ha
     go_enter Tryz.func84,Tryz.ntmps84;go_wp2_with fail;refine LR.out.mono ?_;rintro e w' ⟨hb,g,c,rfl,ho⟩;go_wp2_with fail
     go_ret2
     exact ⟨hb,g,c,rfl,ho⟩
   · have HF:Hid (de s.data.toList=none):=DU (by rw [← qp ha];omega)
     rw [HF.out];have hl2:(64:Int)<(ns.length:Int):=by omega
     clear ha
     go_enter Tryz.func84,Tryz.ntmps84;go_wp2_with fail;refine LR.out.mono ?_;rintro e w' ⟨hb,g,c,rfl,ho⟩;go_wp2_with fail
     go_ret2
     exact ⟨hb,rfl⟩
def OrdV (vs:List Value):Prop:=∀ (i j:Nat) (v v':Value) (p q:Nat),i<j→vs[i]? = some v→vs[j]? = some v'→v.ownBlock=some p→v'.ownBlock=some q→p<q
theorem OrdV.nil:OrdV []:=fun i j v v' p q _ h=>by simp at h
theorem OrdV.snoc {vs:List Value} {B g n c:Nat} (h:OrdV vs) (hlt:∀ (i:Nat) (v:Value) (p:Nat),vs[i]? = some v→v.ownBlock=some p→p<B) (hg:B≤g):OrdV (vs ++ [.slice (some ⟨g,0,none⟩) n c]):=by
 intro i j v v' p q hij hi hj hp hq;have hjl:j<vs.length+1:=by have:=(List.getElem?_eq_some_iff.1 hj).1;simpa using this
 have hi2:vs[i]? = some v:=by rwa [List.getElem?_append_left (by omega)] at hi
 by_cases hl:j<vs.length
 · rw [List.getElem?_append_left hl] at hj
   exact h i j v v' p q hij hi2 hj hp hq
 · obtain rfl:j=vs.length:=by omega
   rw [List.getElem?_append_right (Nat.le_refl _),Nat.sub_self] at hj;simp at hj
   subst hj;have hq2:some g=some q:=hq;injection hq2 with hq2
   have:=hlt i v p hi2 hp;omega
theorem OwnRows.blk_lt {T T2:Nat} {w:World} {lo hi:Nat} {u:Value} {vs:List Value} {yss:List (List Int)} (h:OwnRows T T2 w lo hi u vs yss) (i:Nat) (v:Value) (p:Nat) (hi':vs[i]? = some v) (hp:v.ownBlock=some p):p<hi:=by
 have hlt:i<yss.length:=by have:=(List.getElem?_eq_some_iff.1 hi').1;rw [h.len] at this;exact this
 obtain ⟨g,c,h1,h2⟩:=h.row i yss[i] (List.getElem?_eq_getElem hlt);rw [hi'] at h1;injection h1 with h1
 subst h1;have hp2:some g=some p:=hp;injection hp2 with hp2
 subst hp2;exact h2.2 _ rfl
def nW (T T2:Nat) (w:World) (cnt:Nat) (l:List UInt8) (e:Ending) (w':World):Prop:=Below w.heap.size w w'∧∃ v,e=.returned (.tuple #[v,.bool (es cnt l).isSome])∧∀ yss,es cnt l=some yss→∃ g c vs,v=.slice (some ⟨g,0,none⟩) yss.length c∧OwnRows T T2 w' w.heap.size w'.heap.size (.slice (some ⟨g,0,none⟩) yss.length c) vs yss∧OrdV vs
theorem Dv:(Tryz.prog.info? 24).map (fun i=>(i.zero,i.size,i.bytes))=some (some (.slice none 0 0),1,24):=by kernel_rfl
theorem mF (w:World) (hT:Tab w) (hS:Shp w) (hE:Errs w) (s:ByteArray) (cnt:Nat) (hcn:cnt≤1048576) (hs:s.size≤1048576) :
 Calls Tryz.prog 45 #[.string s,.int .i64 cnt] w (nW 2 24 w cnt s.data.toList):=by
 have hln:(co 59 s.data.toList).length≤1048577:=by have:=tW 59 s.data.toList;have:=Lib.size_eq s;omega
 have hln1:=zy 59 s.data.toList;have HM:Hid (∀ x∈co 59 s.data.toList,x.length≤1048576):=fun x hx=>by have:=iY hx;have:=Lib.size_eq s;omega
 have LP:=Na (fun v (hv:Below w.heap.size w v)=>oN v (hS.to hv) s hs 59 ⟨#[59]⟩ rfl)
 have LR:=Na (fun v (hv:Below w.heap.size w v) (x:ByteArray) hx=>gK v (hT.to hv) (hS.to hv) (hE.to hv) x hx)
 have HTl:=Na (Till.start de (co 59 s.data.toList));have HNo:=Na (fun h=>tL (cnt:=cnt) (l:=s.data.toList) h)
 have HSo:=Na (fun yss h=>lP (cnt:=cnt) (l:=s.data.toList) (yss:=yss) h)
 unfold nW;generalize es cnt s.data.toList=LF at *
 generalize co 59 s.data.toList=ps at *
 clear hT hS hE hs;have hO0:=Na (bD w 24);have cn0:(0:Int)≤(cnt:Int):=Int.natCast_nonneg _
 go_enter Tryz.func45,Tryz.ntmps45;go_wp2_with fail;refine (LP.out _ (ah _ _)).mono ?_;rintro e w1 ⟨rfl,hblk,hb1⟩;have hlt0:(w.alloc (.cells #[] 24)).heap.size=w.heap.size+1:=by simp
 rw [hlt0] at hblk;have HX:=Na (hblk.rd hblk.lt);have hl1:=hblk.lt;have HB1:=Na (aa (ah _ _) hb1);have h00:Hid (OwnRows 2 24 w1 w.heap.size w1.heap.size (.slice (some ⟨w.heap.size,0,none⟩) 0 0) [] []):=OwnRows.start (aG hO0.out hb1);have HA0:Hid (Apt (some ⟨w.heap.size+1,0,none⟩) (.slice (some ⟨w.heap.size,0,none⟩) 0 0)):=fun b e h=>by
  injection e with e
  subst e;have h2:some (w.heap.size+1)=some w.heap.size:=h;injection h2 with h2
  omega
 rw [hlt0];clear hblk hb1 hO0 LP;generalize hgb:w.heap.size+1=gb at *
 clear hlt0;go_wp2_with fail
 go_loopw [6,15] (fun u iv wr=>∃ (k:Nat) (d:List (List Int)) (vs:List Value) (g c:Nat),k≤ps.length∧d.length=k∧iv=.int .i64 k∧u=.slice (some ⟨g,0,none⟩) k c∧Hid (Till de ps k d)∧Hid (OwnRows 2 24 wr w.heap.size wr.heap.size (.slice (some ⟨g,0,none⟩) k c) vs d)∧Hid (OrdV vs)∧Hid (Below w.heap.size w wr)∧Hid (Rd wr w1.heap.size (some ⟨gb,0,none⟩) (cn ps))∧Hid (w1.heap.size≤wr.heap.size)∧Hid (Apt (some ⟨gb,0,none⟩) (.slice (some ⟨g,0,none⟩) k c))) (fun _ iv _=>ps.length - (intOf iv).toNat)
 case atStart=>exact ⟨0,[],[],w.heap.size,0,Nat.zero_le _,rfl,rfl,rfl,HTl.out,h00.out,OrdV.nil,HB1.out,HX.out,Nat.le_refl _,HA0.out⟩
 case round =>
  obtain ⟨k,d,vs,g,cp,hk,hdk,rfl,rfl,hTl,hO,hOrd,hw,hR,hS1,hA⟩:=hrel;have HDK:=Na hdk;clear hdk;have k0:(0:Int)≤(k:Int):=Int.natCast_nonneg _
  by_cases hlt:k<ps.length
  · have k1:(k:Int)<(ps.length:Int):=by omega
    obtain ⟨b,o,l,ha,hb,hc,hl⟩:=iq hR.out hlt;injection ha with ha
    injection ha with ha1 ha2
    subst ha1 ha2;rw [Nat.zero_add] at hc;have hlm:=HM.out l (List.mem_of_getElem? hl.out);have LD1:=Na (LR.out wr hw.out (bs l) (by rw [aI];exact hlm))
    rw [show (bs l).data.toList=l from rfl] at LD1
    cases hv:de l with
    | none =>
      have HF:=Na (HNo.out (hTl.out.stop hl.out hv));rw [hv] at LD1;clear hTl hl hv;go_wp2_with fail;refine LD1.out.mono ?_;rintro e w2 ⟨hb2,rfl⟩;go_wp2_with fail
      go_ret2
      rw [HF.out];exact ⟨aa hw.out hb2,_,rfl,fun yss h=>by cases h⟩
    | some ns =>
      have HT2:=Na (hTl.out.step hl.out hv);rw [hv] at LD1;clear hTl hl hv;go_wp2_with fail;refine LD1.out.mono ?_;rintro e w2 ⟨hb2,q3,c3,rfl,o3⟩;have HRow:Hid (OwnI 2 w2 wr.heap.size w2.heap.size (some ⟨q3,0,none⟩) c3 ns):=OwnI.of_own o3;have HQ3:=Na ((o3.lt q3 rfl).1);have hOo:=hO.out.out;rw [HDK.out] at hOo;have HOo:=Na (aG hOo hb2);have hw2:=aa hw.out hb2;have hws2:=hw2.size;have HR2:=Na (hR.out.below (hb2.mono hS1.out) (Nat.le_refl _));have HS2:=Na (Nat.le_trans hS1.out hb2.size);have Hb2:=Na hb2;have HOrd2:=Na (hOrd.out.snoc (g:=q3) (n:=ns.length) (c:=c3) (fun i v p h1 h2=>hO.out.blk_lt i v p h1 h2) HQ3.out)
      clear hb2 hR LD1 hOo o3 hOrd
      go_wp2_with (at_builtin;refine aP _ rfl _ _ 92 rfl w.heap.size 24 (.slice none 0 0) 24 Tryz.underlying92 Dv rfl _ k vs rfl HOo.out (.slice (some ⟨q3,0,none⟩) ns.length c3) rfl rfl (by omega) (by omega) hws2 ?_)
      intro v' w' ho hgr hng;obtain ⟨g2,c2,rfl⟩:=fk ho (by omega)
      have HO2:Hid (OwnRows 2 24 w' w.heap.size w'.heap.size (.slice (some ⟨g2,0,none⟩) (k+1) c2) (vs ++ [.slice (some ⟨q3,0,none⟩) ns.length c3]) (d ++ [ns])) :=
       OwnRows.snoc (w:=w2) hO.out Hb2.out (r0:=wr.heap.size) hw.out.size (Nat.le_refl _) HRow.out (Nat.le_refl _) (by rw [HDK.out];exact ho) hgr hng
      have HW3:=Na (ai hw2 HOo.out hgr (Nat.le_refl _) hws2);have HR3:=Na (HR2.out.apt HS2.out hgr hA.out);have HS3:=Na (Nat.le_trans HS2.out hgr.size);have HA3:=Na (hA.out.grow (fun b e=>by injection e with e;subst e;exact Nat.lt_of_lt_of_le hl1 HS2.out) hng)
      clear ho hgr hng hw2 HR2 hA hO hw HRow HOo;go_wp2_with fail;go_roundw
      case rel=>exact ⟨k+1,d ++ [ns],_,g2,c2,by omega,by simp [HDK.out],by go_num,by first | rfl | simp,HT2.out,HO2.out,HOrd2.out,HW3.out,HR3.out,HS3.out,HA3.out⟩
      case measure=>simp [intOf];omega
  · obtain rfl:k=ps.length:=by omega
    have HAll:=Na (HSo.out d hTl.out.done);have hkp:(0:Int)<(ps.length:Int):=by omega
    obtain ⟨y0,hy0⟩:∃ y0,d[0]? = some y0:=⟨d[0]'(by have:=HDK.out;omega),List.getElem?_eq_getElem _⟩
    obtain ⟨g0,c0,hv0,ho0⟩:=hO.out.row 0 y0 hy0;have hc0:wr.cell? ⟨g,0,none⟩=some (.slice (some ⟨g0,0,none⟩) y0.length c0):=by
     rcases ay hO.out.out (Nat.le_refl _) with h' | ⟨b,o,ha,hb,hc⟩
     · rw [h'] at hv0;cases hv0
     · injection ha with ha
       injection ha with ha1 ha2
       have:=hc 0 (by have:=(List.getElem?_eq_some_iff.1 hv0).1;exact this)
       rw [← ha1,← ha2,hv0] at this;exact this
    have hgd:d.getD 0 []=y0:=by simp [List.getD,hy0]
    rw [hgd] at HAll;have HDL:=HDK.out;have y00:(0:Int)≤(y0.length:Int):=Int.natCast_nonneg _
    by_cases hcn1:ps.length=cnt
    · have t1:((ps.length:Int) == (cnt:Int))=true:=by simp;omega
      by_cases hy2:y0.length=2
      · have t2:((y0.length:Int) == 2)=true:=by simp;omega
        have HF:Hid (LF=some d):=by rw [Hid,HAll.out,if_pos ⟨by omega,hy2⟩]
        have HDL2:=Na HDL;clear hTl HAll hy0 hv0 ho0 hgd hcn1 hy2 HDL;go_wp2_with fail
        go_quiet (fail)
        go_wp2_with fail
        go_ret2
        rw [HF.out];refine ⟨ag hw.out _,_,rfl,fun yss h=>?_⟩
        injection h with h
        subst h;exact ⟨g,cp,vs,by rw [HDL2.out];rfl,by rw [HDL2.out];exact hO.out.keep (pp _ _),hOrd.out⟩
      · have t2:((y0.length:Int) == 2)=false:=by simp;omega
        have HF:Hid (LF=none):=by rw [Hid,HAll.out,if_neg (fun h=>hy2 h.2)]
        clear hTl HAll hy0 hv0 ho0 hgd hcn1 hy2 HDL;go_wp2_with fail
        go_quiet (fail)
        go_wp2_with fail
        go_ret2
        rw [HF.out];exact ⟨ag hw.out _,_,rfl,fun yss h=>by cases h⟩
    · have t1:((ps.length:Int) == (cnt:Int))=false:=by simp;omega
      have HF:Hid (LF=none):=by rw [Hid,HAll.out,if_neg (fun h=>hcn1 (by omega))]
      clear hTl HAll hy0 hv0 ho0 hgd hcn1 HDL;go_wp2_with fail
      go_quiet (fail)
      go_wp2_with fail
      go_ret2
      rw [HF.out];exact ⟨ag hw.out _,_,rfl,fun yss h=>by cases h⟩
def gv (V:Int→Int→List Int→List Int→Bool) (l:List UInt8):Int × Int × List Int × List Int × Bool:=match es 3 l with
 | none=>(0,0,[],[],false)
 | some yss=>if V ((yss.getD 0 []).getD 0 0) ((yss.getD 0 []).getD 1 0) (yss.getD 1 []) (yss.getD 2 []) then ((yss.getD 0 []).getD 0 0,(yss.getD 0 []).getD 1 0,yss.getD 1 [],yss.getD 2 [],true) else (0,0,[],[],false)
def mz (V:Int→Int→List Int→Bool) (l:List UInt8):Int × Int × List Int × Bool:=match es 2 l with
 | none=>(0,0,[],false)
 | some yss=>if V ((yss.getD 0 []).getD 0 0) ((yss.getD 0 []).getD 1 0) (yss.getD 1 []) then ((yss.getD 0 []).getD 0 0,(yss.getD 0 []).getD 1 0,yss.getD 1 [],true) else (0,0,[],false)
theorem rW {V:Int→Int→List Int→List Int→Bool} {l:List UInt8} (h:es 3 l=none):gv V l=(0,0,[],[],false):=by unfold gv;rw [h]
theorem xM {V:Int→Int→List Int→Bool} {l:List UInt8} (h:es 2 l=none):mz V l=(0,0,[],false):=by unfold mz;rw [h]
theorem ml {V:Int→Int→List Int→List Int→Bool} {l:List UInt8} {p q:Int} {x2 x3:List Int} (h:es 3 l=some [[p,q],x2,x3]):gv V l=if V p q x2 x3 then (p,q,x2,x3,true) else (0,0,[],[],false):=by unfold gv;rw [h];rfl
theorem rZ {V:Int→Int→List Int→Bool} {l:List UInt8} {p q:Int} {x2:List Int} (h:es 2 l=some [[p,q],x2]):mz V l=if V p q x2 then (p,q,x2,true) else (0,0,[],false):=by unfold mz;rw [h];rfl
theorem GM {y:List Int} (h:y.length=2):∃ p q,y=[p,q]:=by
 match y,h with
 | [p,q],_=>exact ⟨p,q,rfl⟩
theorem zp {yss:List (List Int)} (h:yss.length=3) (h2:(yss.getD 0 []).length=2) (h3:∀ y∈yss,y.length≤64):∃ p q x2 x3,yss=[[p,q],x2,x3]∧x2.length≤64∧x3.length≤64:=by
 match yss,h with
 | [y0,y1,y2],_ =>
   obtain ⟨p,q,e⟩:=GM (y:=y0) h2;exact ⟨p,q,y1,y2,by rw [e],h3 y1 (by simp),h3 y2 (by simp)⟩
theorem F5 {yss:List (List Int)} (h:yss.length=2) (h2:(yss.getD 0 []).length=2) (h3:∀ y∈yss,y.length≤64):∃ p q x2,yss=[[p,q],x2]∧x2.length≤64:=by
 match yss,h with
 | [y0,y1],_ =>
   obtain ⟨p,q,e⟩:=GM (y:=y0) h2;exact ⟨p,q,y1,by rw [e],h3 y1 (by simp)⟩
theorem yY {V:Int→Int→List Int→List Int→Bool} {l:List UInt8}:(gv V l).2.2.1.length≤64∧(gv V l).2.2.2.1.length≤64:=by
 cases h:es 3 l with
 | none=>rw [rW h];exact ⟨Nat.zero_le _,Nat.zero_le _⟩
 | some yss =>
   obtain ⟨h1,h2,h3⟩:=lh h;obtain ⟨p,q,x2,x3,rfl,l2,l3⟩:=zp h1 h2 h3;rw [ml h]
   split
   · exact ⟨l2,l3⟩
   · exact ⟨Nat.zero_le _,Nat.zero_le _⟩
theorem IJ {V:Int→Int→List Int→Bool} {l:List UInt8}:(mz V l).2.2.1.length≤64:=by
 cases h:es 2 l with
 | none=>rw [xM h];exact Nat.zero_le _
 | some yss =>
   obtain ⟨h1,h2,h3⟩:=lh h;obtain ⟨p,q,x2,rfl,l2⟩:=F5 h1 h2 h3;rw [rZ h]
   split
   · exact l2
   · exact Nat.zero_le _
section
variable {T T2 lo hi g c n:Nat} {w:World} {xs:List Int}
theorem OwnRows.cellAt {vs:List Value} {yss:List (List Int)} (h:OwnRows T T2 w lo hi (.slice (some ⟨g,0,none⟩) n c) vs yss) (hn:n=yss.length) {j:Nat} {v:Value} (hj:vs[j]? = some v):w.cell? ⟨g,j,none⟩=some v:=by
 subst hn
 rcases ay h.out (Nat.le_refl _) with h' | ⟨b,o,ha,hb,hc⟩
 · rw [h'] at hj;cases hj
 · injection ha with ha
   injection ha with ha1 ha2
   have:=hc j (List.getElem?_eq_some_iff.1 hj).1;rw [← ha1,← ha2,Nat.zero_add,hj] at this;exact this
theorem OwnI.cellAt (h:OwnI T w lo hi (some ⟨g,0,none⟩) c xs) {j:Nat} {x:Int} (hj:xs[j]? = some x):w.cell? ⟨g,j,none⟩=some (.int .i64 x):=by
 have hj2:(ae xs)[j]? = some (.int .i64 x):=by simp [ae,hj]
 rcases h.rd with h' | ⟨b,o,ha,hb,hc⟩
 · rw [h'] at hj2;cases hj2
 · injection ha with ha
   injection ha with ha1 ha2
   have:=hc j (List.getElem?_eq_some_iff.1 hj2).1;rw [← ha1,← ha2,Nat.zero_add,hj2] at this;exact this
theorem OwnI.narrow (h:OwnI T w lo hi (some ⟨g,0,none⟩) c xs):OwnI T w g (g+1) (some ⟨g,0,none⟩) c xs:=by
 refine ⟨⟨h.1.1,?_⟩,fun b hb=>by injection hb with hb;subst hb;exact Nat.lt_succ_self _⟩
 rcases h.1.2 with ⟨h2,_⟩ | ⟨g',cap,cur,hv,hg,r⟩
 · cases h2
 · have e:=hv
   injection e with e1 _ e3
   injection e1 with e1
   injection e1 with e1
   exact .inr ⟨g',cap,cur,hv,by omega,r⟩
theorem OwnI.place (h:OwnI T w lo hi (some ⟨g,0,none⟩) c xs):lo≤g∧g<hi:=⟨(h.1.lt g rfl).1,h.2 _ rfl⟩
end
end Go.Proofs.YtbknhgapjjaelaaGreatDoor
