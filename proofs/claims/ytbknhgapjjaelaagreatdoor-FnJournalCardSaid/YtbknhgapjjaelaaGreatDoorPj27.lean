/-
  Part 27 of what the proof stands on: lemmas and contracts, each with its conditions ahead of the colon.
-/
import Derived.Test.YtbknhgapjjaelaaGreatDoorPj01
import Derived.Outline
import Derived.Laws.EntriesVeiled
import Derived.Test.YtbknhgapjjaelaaGreatDoorPj07
import Derived.Test.YtbknhgapjjaelaaGreatDoorPj11
import Derived.Test.YtbknhgapjjaelaaGreatDoorPj16
import Derived.Test.YtbknhgapjjaelaaGreatDoorPj18
import Derived.Test.YtbknhgapjjaelaaGreatDoorPj26
set_option maxRecDepth 100000
set_option maxHeartbeats 16000000
namespace Go.Proofs.YtbknhgapjjaelaaGreatDoor
set_option linter.unusedVariables false
set_option linter.unusedSimpArgs false
open Go.RowKit
theorem Cc {w:World} (ht:Tab w) (ok:Bool) (xs:List Int) (hl:xs.length≤1048576) (w1:World) (hb:Below w.heap.size w w1) (a:Option Addr) (c:Nat) (h:Rd w1 w1.heap.size a (ae xs)) :
 Calls Tryz.prog 102 #[.bool ok,.slice (some ⟨w1.heap.size,0,none⟩) 1 1] (w1.alloc (.cells #[.slice a xs.length c] 24)) (kH (if ok=true then eE [xs] else none) w):=by
 have B1:=ai w1 (.cells #[.slice a xs.length c] 24);have B2:=aa hb B1;refine (gK (w1.alloc (.cells #[.slice a xs.length c] 24)) (ht.to B2) ok (some ⟨w1.heap.size,0,none⟩) 1 [xs] (FU (Blk.new w1 [.slice a xs.length c] 24) (h.to B1)) (by simp) (fun x hx=>by simp at hx;subst hx;exact hl)).mono ?_
 rintro e w2 ⟨hb2,rfl⟩;exact ⟨aa B2 hb2,rfl⟩
def nX:List UInt8:=[112,97,114,101,116,111]
theorem zy:fz nX (fun d=>jE (fh d.A d.B d.A.length d.A.length) d):=by
 intro w b d x lo hlo hlx hE hok hca hB hR0;dsimp only;have hR:DRd w w.heap.size d x:=hR0.mono (Nat.le_of_lt hB.lt);obtain ⟨⟨a1,a2⟩,⟨b1,b2⟩,⟨v1,v2⟩,⟨l1,l2⟩,⟨k1,k2⟩,f1,f2⟩:=DD.ok_len hok;obtain ⟨hg,hv,hc,ht⟩:=DD.ok_parts hok;have LG:=Oi (FA w d.R d.C x.a x.ca d.A x.b x.cb d.B hg hR.r.A hR.r.B);unfold Lt at LG;have hL:=tX d.A d.B d.A.length d.A.length;unfold jE;generalize fh d.A d.B d.A.length d.A.length=xs at LG hL ⊢;have LT:=Oi (ti hE.tab xs (by omega))
 clear hL;obtain ⟨z0,z1,z2,z3,z4,z5,z6,z7,z8,z9,z10,z11⟩:=af hB
 try dsimp only at z0 z1 z2 z3 z4 z5 z6 z7 z8 z9 z10 z11
 have HB:=Oi hB;have HLX:=Oi hlx;have HLO:=Oi hlo;have HR:=Oi hR;have HR0:=Oi hR0;have HE:=Oi hE;clear hlx hlo hB hR hE hok hca a1 a2 b1 b2 v1 v2 l1 l2 k1 k2 f1 f2 hg hv hc ht hR0;obtain ⟨s,hs⟩:∃ s:ByteArray,s=bs nX:=⟨_,rfl⟩;have t_game:(s.toList == [103,97,109,101])=false:=by rw [hs,ab];rfl
 have t_values:(s.toList == [118,97,108,117,101,115])=false:=by rw [hs,ab];rfl
 have t_crowd:(s.toList == [99,114,111,119,100])=false:=by rw [hs,ab];rfl
 have t_turns:(s.toList == [116,117,114,110,115])=false:=by rw [hs,ab];rfl
 have t_turn:(s.toList == [116,117,114,110])=false:=by rw [hs,ab];rfl
 have t_pure:(s.toList == [112,117,114,101])=false:=by rw [hs,ab];rfl
 have t_pareto:(s.toList == [112,97,114,101,116,111])=true:=by rw [hs,ab];rfl
 rw [← hs];clear hs
 go_enter Tryz.func98,Tryz.ntmps98;go_wp2_with fail;refine LG.out.mono ?_;rintro e w1 ⟨a,c,rfl,hr,hb⟩;have LT1:=Oi (LT.out _ hb a c hr);clear hr hb;go_wp2_with fail;refine LT1.out.mono ?_;rintro e w2 ⟨hb2,rfl⟩;go_wp2_with fail;go_ret3;exact RetAl.text _ hb2 HB.out HR.out HLX.out
def rZ (c:Cr):Option (List UInt8):=if (fQ c).2.2=true then eE [[(fQ c).1,(fQ c).2.1]] else none
def qh:List UInt8:=[112,114,105,99,101]
theorem Ct:fz qh (fun d=>some ((rZ ⟨d.U,d.N,d.W,d.K⟩).map fun t=>(d,t))):=by
 intro w b d x lo hlo hlx hE hok hca hB hR0;dsimp only;have hR:DRd w w.heap.size d x:=hR0.mono (Nat.le_of_lt hB.lt);obtain ⟨⟨a1,a2⟩,⟨b1,b2⟩,⟨v1,v2⟩,⟨l1,l2⟩,⟨k1,k2⟩,f1,f2⟩:=DD.ok_len hok;obtain ⟨hg,hv,hc,ht⟩:=DD.ok_parts hok;have LG:=Oi (IK w d.U d.N x.w x.cw d.W x.k x.ck d.K ⟨hR.r.W,hR.r.C⟩ (by omega) (by omega))
 unfold rZ;generalize (fQ ⟨d.U,d.N,d.W,d.K⟩).1=m at LG ⊢;generalize (fQ ⟨d.U,d.N,d.W,d.K⟩).2.1=n at LG ⊢;generalize (fQ ⟨d.U,d.N,d.W,d.K⟩).2.2=q at LG ⊢;have LT:=Oi (Cc hE.tab q [m,n] (by simp))
 generalize (if q=true then eE [[m,n]] else none)=tt at LT ⊢;obtain ⟨z0,z1,z2,z3,z4,z5,z6,z7,z8,z9,z10,z11⟩:=af hB
 try dsimp only at z0 z1 z2 z3 z4 z5 z6 z7 z8 z9 z10 z11
 have HB:=Oi hB;have HLX:=Oi hlx;have HLO:=Oi hlo;have HR:=Oi hR;have HR0:=Oi hR0;have HE:=Oi hE;clear hlx hlo hB hR hE hok hca a1 a2 b1 b2 v1 v2 l1 l2 k1 k2 f1 f2 hg hv hc ht hR0;obtain ⟨s,hs⟩:∃ s:ByteArray,s=bs qh:=⟨_,rfl⟩;have t_game:(s.toList == [103,97,109,101])=false:=by rw [hs,ab];rfl
 have t_values:(s.toList == [118,97,108,117,101,115])=false:=by rw [hs,ab];rfl
 have t_crowd:(s.toList == [99,114,111,119,100])=false:=by rw [hs,ab];rfl
 have t_turns:(s.toList == [116,117,114,110,115])=false:=by rw [hs,ab];rfl
 have t_turn:(s.toList == [116,117,114,110])=false:=by rw [hs,ab];rfl
 have t_pure:(s.toList == [112,117,114,101])=false:=by rw [hs,ab];rfl
 have t_pareto:(s.toList == [112,97,114,101,116,111])=false:=by rw [hs,ab];rfl
 have t_left:(s.toList == [108,101,102,116])=false:=by rw [hs,ab];rfl
 have t_safe:(s.toList == [115,97,102,101])=false:=by rw [hs,ab];rfl
 have t_rounds:(s.toList == [114,111,117,110,100,115])=false:=by rw [hs,ab];rfl
 have t_product:(s.toList == [112,114,111,100,117,99,116])=false:=by rw [hs,ab];rfl
 have t_price:(s.toList == [112,114,105,99,101])=true:=by rw [hs,ab];rfl
 rw [← hs];clear hs
 go_enter Tryz.func98,Tryz.ntmps98;go_wp2_with fail;refine LG.out.mono ?_;rintro e w1 ⟨rfl,hb⟩;have LT1:=Oi (LT.out _ (aa hb (ai w1 (.cells #[.int .i64 m,.int .i64 n] 2))) (some ⟨w1.heap.size,0,none⟩) 2 (fD (Blk.new w1 [.int .i64 m,.int .i64 n] 2)));rw [World.size_alloc] at LT1;clear hb;go_wp2_with fail;refine LT1.out.mono ?_;rintro e w2 ⟨hb2,rfl⟩;go_wp2_with fail;go_ret3;exact RetAl.text _ hb2 HB.out HR.out HLX.out
def py (d:DD):Option (DD × List UInt8):=if bu (fk (fM ⟨d.U,d.N,d.W,d.K⟩) ⟨d.U,d.N,d.W,d.K⟩)=true then some ({ d with K:=(fk (fM ⟨d.U,d.N,d.W,d.K⟩) ⟨d.U,d.N,d.W,d.K⟩).costs },lr) else none
def qi:List UInt8:=[116,111,108,108,115]
theorem Cu:fz qi (fun d=>some (py d)):=by
 intro w b d x lo hlo hlx hE hok hca hB hR0;dsimp only;have hR:DRd w w.heap.size d x:=hR0.mono (Nat.le_of_lt hB.lt);obtain ⟨⟨a1,a2⟩,⟨b1,b2⟩,⟨v1,v2⟩,⟨l1,l2⟩,⟨k1,k2⟩,f1,f2⟩:=DD.ok_len hok;obtain ⟨hg,hv,hc,ht⟩:=DD.ok_parts hok;obtain ⟨R,C,A,B,P,T,V,dU,dN,W,K,F⟩:=d;dsimp only at hc;obtain ⟨u,n,e1,e2⟩:∃ u n:Nat,dU=(u:Int)∧dN=(n:Int):=⟨dU.toNat,dN.toNat,by have h:1≤dU:=(em hc).u1;omega,by have h:1≤dN:=(em hc).r1;omega⟩;subst e1 e2;have hb1:=hB.lt;have LY:=Oi (fun h=>Dv w u n x.w x.cw W x.k x.ck K ⟨hR.r.W,hR.r.C⟩ hc h (by dsimp only at l2;omega) (by dsimp only at k2;omega))
 have LN:=Oi (fun h=>Gj w u n x.w x.cw W x.k x.ck K ⟨hR.r.W,hR.r.C⟩ hc h (by dsimp only at l2;omega) (by dsimp only at k2;omega))
 unfold Ew at LY;have HTy:Hid (bu (fk (fM ⟨u,n,W,K⟩) ⟨u,n,W,K⟩)=true→py ⟨R,C,A,B,P,T,V,u,n,W,K,F⟩=some (⟨R,C,A,B,P,T,V,u,n,W,(fk (fM ⟨u,n,W,K⟩) ⟨u,n,W,K⟩).costs,F⟩,lr)):=fun h=>if_pos h
 have HTn:Hid (bu (fk (fM ⟨u,n,W,K⟩) ⟨u,n,W,K⟩)=false→py ⟨R,C,A,B,P,T,V,u,n,W,K,F⟩=none):=fun h=>if_neg (by show ¬ bu (fk (fM ⟨u,n,W,K⟩) ⟨u,n,W,K⟩)=true;rw [h];decide)
 have eW:(fk (fM ⟨u,n,W,K⟩) ⟨u,n,W,K⟩).ways=W:=rfl;have eU:(fk (fM ⟨u,n,W,K⟩) ⟨u,n,W,K⟩).U=u:=rfl;have eN:(fk (fM ⟨u,n,W,K⟩) ⟨u,n,W,K⟩).R=n:=rfl;rw [eW,eU,eN] at LY;clear eW eU eN;generalize (fk (fM ⟨u,n,W,K⟩) ⟨u,n,W,K⟩)=tc at LY LN HTy HTn;generalize py ⟨R,C,A,B,P,T,V,u,n,W,K,F⟩=tt at HTy HTn ⊢;obtain ⟨z0,z1,z2,z3,z4,z5,z6,z7,z8,z9,z10,z11⟩:=af hB
 try dsimp only at z0 z1 z2 z3 z4 z5 z6 z7 z8 z9 z10 z11
 have HB:=Oi hB;have HLX:=Oi hlx;have HLO:=Oi hlo;have HR:=Oi hR;have HR0:=Oi hR0;have HE:=Oi hE;clear hlx hlo hB hR hE hok hca a1 a2 b1 b2 v1 v2 l1 l2 k1 k2 f1 f2 hg hv hc ht hR0;obtain ⟨s,hs⟩:∃ s:ByteArray,s=bs qi:=⟨_,rfl⟩;have t_game:(s.toList == [103,97,109,101])=false:=by rw [hs,ab];rfl
 have t_values:(s.toList == [118,97,108,117,101,115])=false:=by rw [hs,ab];rfl
 have t_crowd:(s.toList == [99,114,111,119,100])=false:=by rw [hs,ab];rfl
 have t_turns:(s.toList == [116,117,114,110,115])=false:=by rw [hs,ab];rfl
 have t_turn:(s.toList == [116,117,114,110])=false:=by rw [hs,ab];rfl
 have t_pure:(s.toList == [112,117,114,101])=false:=by rw [hs,ab];rfl
 have t_pareto:(s.toList == [112,97,114,101,116,111])=false:=by rw [hs,ab];rfl
 have t_left:(s.toList == [108,101,102,116])=false:=by rw [hs,ab];rfl
 have t_safe:(s.toList == [115,97,102,101])=false:=by rw [hs,ab];rfl
 have t_rounds:(s.toList == [114,111,117,110,100,115])=false:=by rw [hs,ab];rfl
 have t_product:(s.toList == [112,114,111,100,117,99,116])=false:=by rw [hs,ab];rfl
 have t_price:(s.toList == [112,114,105,99,101])=false:=by rw [hs,ab];rfl
 have t_tolls:(s.toList == [116,111,108,108,115])=true:=by rw [hs,ab];rfl
 rw [← hs];clear hs
 go_enter Tryz.func98,Tryz.ntmps98;go_wp2_with fail
 cases hvt:bu tc with
 | true =>
   refine (LY.out hvt).mono ?_;rintro e w1 ⟨a2,c2,a3,c3,rfl,⟨q1,q2⟩,hb⟩;have KB:=HB.out.same hb;have KT:=HR0.out.below hb (Nat.le_of_lt HB.out.lt);obtain ⟨y0,y1,y2,y3,y4,y5,y6,y7,y8,y9,y10,y11⟩:=af KB;dsimp only at y0 y1 y2 y3 y4 y5 y6 y7 y8 y9 y10 y11;have g7:=KB.free 7;have g8:=KB.free 8;have g9:=KB.free 9;have g10:=KB.free 10;have PT:=Oi (uz KB KT u n W a2 c2 tc.costs a3 c3 (kr q1 hb1 (Nat.le_refl _)) (kr q2 hb1 (Nat.le_refl _)));have hbb:=Oi hb;clear q1 q2 KB KT hb1 hb LY LN;go_wp2_with fail;go_ret3;rw [HTy.out hvt];exact PT.out.yes hbb.out HLO.out HLX.out lr
 | false =>
   refine (LN.out hvt).mono ?_;rintro e w1 ⟨rfl,hb⟩;have KB:=HB.out.same hb;have KT:=HR0.out.below hb (Nat.le_of_lt HB.out.lt);obtain ⟨y0,y1,y2,y3,y4,y5,y6,y7,y8,y9,y10,y11⟩:=af KB;dsimp only at y0 y1 y2 y3 y4 y5 y6 y7 y8 y9 y10 y11;have g7:=KB.free 7;have g8:=KB.free 8;have g9:=KB.free 9;have g10:=KB.free 10;have PT:=Oi (uz KB KT 0 0 [] none 0 [] none 0 (qT _ _) (qT _ _));have hbb:=Oi hb;clear KB KT hb1 hb LY LN;go_wp2_with fail;go_ret3;rw [HTn.out hvt];exact PT.out.no hbb.out _
def gH (T:Nat) (xs ow:List Int) (n:Nat):List Int:=(List.range n).map fun i=>fK T xs ow i (i:Int)
theorem Iw (T:Nat) (xs ow:List Int) (n:Nat):gH T xs ow (n+1)=gH T xs ow n ++ [fK T xs ow n (n:Int)]:=by
 unfold gH;rw [List.range_succ,List.map_append];rfl
theorem uw (T:Nat) (xs ow:List Int) (n:Nat):(gH T xs ow n).length=n:=by simp [gH]
theorem Eb {T:Nat} {xs ow:List Int} (h:∀ x∈xs,0≤x∧x≤1000) (hT:T≤8) (n:Nat):∀ x∈gH T xs ow n,0≤x∧x≤8000:=by
 intro x hx;obtain ⟨i,_,rfl⟩:=List.mem_map.1 hx;have:=lP h i (i:Int) T (T:=T) (ow:=ow);unfold fK;omega
def jf:Int:=1000000000000
def fL:List Int→Int→Int
 | [],p=>p
 | x :: r,p=>fL r (min (p * x) (jf+1))
def jX (l:List Int):Int:=if bH l 0 then 0 else fL l 1
theorem FI {l:List Int} {k:Nat} {x:Int} (h:l[k]? = some x) (p:Int):fL (l.take (k+1)) p=min (fL (l.take k) p * x) (jf+1):=by
 have app:∀ (a b:List Int) (p:Int),fL (a ++ b) p=fL b (fL a p):=by
  intro a
  induction a with
  | nil=>intro b p;rfl
  | cons y a ih=>intro b p;rw [List.cons_append,fL,fL,ih]
 rw [List.take_add_one,h,app];rfl
theorem Bt {l:List Int} (h:∀ x∈l,0≤x):∀ p,0≤p→p≤jf+1→0≤fL l p∧fL l p≤jf+1:=by
 induction l with
 | nil=>intro p h0 h1;exact ⟨h0,h1⟩
 | cons x r ih =>
   intro p h0 h1;rw [fL];have hx:=h x (by simp)
   have:=Int.mul_nonneg h0 hx;exact ih (fun y hy=>h y (List.mem_cons_of_mem _ hy)) _ (by unfold jf;omega) (by omega)
theorem Kv {l:List Int} (h:∀ x∈l,0≤x):0≤jX l∧jX l≤jf+1:=by
 unfold jX
 split
 · unfold jf;omega
 · exact Bt h 1 (by omega) (by unfold jf;omega)
def kq (P T:Nat) (xs ch:List Int):eb→eb
 | none=>some (ch,jX (gH T xs ch P))
 | some (b,m)=>if m<jX (gH T xs ch P) then some (ch,jX (gH T xs ch P)) else some (b,m)
def le (P T:Nat) (xs:List Int) (t:Nat):eb:=dM P T (kq P T xs) t
def ot (P T:Nat):Bool:=decide (P ^ T≤4096)
def qF (P T:Nat) (xs:List Int):Option (List Int × Int):=if ot P T then match le P T xs (P ^ T) with
 | none=>none
 | some (b,m)=>if m≤jf then some (b,m) else none
 else none
theorem vi (P T:Nat) (xs:List Int) (t:Nat):le P T xs (t+1)=kq P T xs (cE P T t) (le P T xs t):=rfl
theorem Fj (P T:Nat) (xs:List Int):∀ t,0<t→∃ b m,le P T xs t=some (b,m)
 | 0,h=>by omega
 | t+1,_=>by
   rw [vi]
   cases le P T xs t with
   | none=>exact ⟨_,_,rfl⟩
   | some q =>
     obtain ⟨b,m⟩:=q;unfold kq
     split
     · rename_i h;cases h
     · rename_i b' m' h
       injection h with h;injection h with h1 h2;subst h1 h2
       split
       · exact ⟨_,_,rfl⟩
       · exact ⟨_,_,rfl⟩
theorem A6 {P T:Nat} {xs:List Int} (h:∀ x∈xs,0≤x∧x≤1000) (hT:T≤8):∀ t b m,le P T xs t=some (b,m)→b.length=T∧0≤m∧m≤jf+1∧∃ k,k<t∧b=cE P T k
 | 0,b,m,hm=>by cases hm
 | t+1,b,m,hm=>by
   have hp:=Kv (l:=gH T xs (cE P T t) P) (fun x hx=>(Eb h hT P x hx).1)
   rw [vi] at hm
   cases hq:le P T xs t with
   | none =>
     rw [hq] at hm;injection hm with hm;injection hm with h1 h2;subst h1 h2
     exact ⟨fN P T t,hp.1,hp.2,t,by omega,rfl⟩
   | some q =>
     obtain ⟨b',m'⟩:=q;rw [hq] at hm;have ih:=A6 h hT t b' m' hq;unfold kq at hm;simp only at hm
     split at hm
     · injection hm with hm;injection hm with h1 h2;subst h1 h2
       exact ⟨fN P T t,hp.1,hp.2,t,by omega,rfl⟩
     · injection hm with hm;injection hm with h1 h2;subst h1 h2
       obtain ⟨i1,i2,i3,k,hk,i4⟩:=ih;exact ⟨i1,i2,i3,k,by omega,i4⟩
theorem Fy (S:Nat→World→Prop) (K0:Nat) (caps0:Array Value) (hK:∀ (args:Array Value) (w:World),(callFunc K0 args).run Tryz.prog w=.ok (.enter K0 args) w)
 (w:World) (P T:Nat) (aV:Option Addr) (cV:Nat) (xV:List Int) (p1:1≤P) (p6:P≤6) (t1:1≤T) (t8:T≤8)
 (hS:∀ t w1 w2,S t w1→w1.grownBy w2 (some (w.heap.size+1))→S t w2)
 (hdo:∀ t w1 c,S t w1→t<P ^ T→w.heap.size+2≤w1.heap.size→Rd w1 w1.heap.size (some ⟨w.heap.size+1,0,none⟩) (ae (cE P T t))→Calls Tryz.prog K0 (#[.slice (some ⟨w.heap.size+1,0,none⟩) T c] ++ caps0) w1 fun e w'=>e=.returned (.tuple #[])∧S (t+1) w'∧Touch w1 w' 0 w.heap.size)
 (hs:S 0 w) :
 Calls Tryz.prog 222 #[.agg #[.int .i64 P,.int .i64 T,.slice aV xV.length cV],.func (.func K0) #[] caps0] w fun e w'=>e=.returned (.bool (ot P T))∧S (oo (ot P T) (P ^ T)) w':=by
 have hN8:T≤8:=t8;have hN1:1≤T:=t1;have hL8:P≤8:=by omega
 have hL1:1≤P:=p1;have HYes:Hid (P ^ T≤4096→ot P T=true):=fun h=>decide_eq_true h
 have HNo:Hid (4096<P ^ T→ot P T=false):=fun h=>decide_eq_false (by omega)
 have HS:=Oi hS;have HD:=Oi hdo;have HPw:=Oi (fun k (hk:k≤T)=>Ed (L:=P) (k:=k) hL8 (by omega))
 have Hsp:=Oi (fun t ht=>mu hL1 T t ht)
 have Hln:=Oi (fun t=>fN P T t)
 have KA:=Oi (Blk.new w [.int .i64 P,.int .i64 T,.slice aV xV.length cV] 28);have S1:Hid (S 0 (w.alloc (.cells #[.int .i64 P,.int .i64 T,.slice aV xV.length cV] 28))):=hS 0 w _ hs (dp (ai _ _) _);clear hS hdo hs;generalize ot P T=few at *
 go_enter Tryz.func222,Tryz.ntmps222;go_wp2_with fail
 go_loopw [10,5] (fun i m wr=>∃ (k M:Nat),k≤T∧i=.int .i64 k∧m=.int .i64 M∧Hid (M=P ^ k)∧wr=w.alloc (.cells #[.int .i64 P,.int .i64 T,.slice aV xV.length cV] 28)) (fun i _ _=>T - (intOf i).toNat)
 case atStart=>exact ⟨0,1,Nat.zero_le _,rfl,rfl,rfl,rfl⟩
 case round =>
  obtain ⟨k,M,hk,rfl,rfl,hP,rfl⟩:=hrel
  by_cases hlt:k<T
  · have hPb:M≤16777216:=by rw [hP.out];exact HPw.out k hk
    have hm0:(0:Int)≤(M:Int) * (P:Int):=Int.mul_nonneg (by omega) (by omega)
    have hmN:M * P≤16777216 * 8:=Nat.mul_le_mul hPb hL8;have hm1:(M:Int) * (P:Int)≤134217728:=by
     have:((M * P:Nat):Int)=(M:Int) * (P:Int):=by simp
     omega
    have hcast:Hid (((M * P:Nat):Int)=(M:Int) * (P:Int)):=by simp [Hid]
    have HP2:Hid (M * P=P ^ (k+1)):=by show _=_;rw [Br,hP.out]
    clear hmN hP;go_wp2_with fail;go_roundw
    case rel=>exact ⟨k+1,M * P,by omega,by go_num,by rw [hcast.out],HP2,by first | trivial | rfl⟩
    case measure=>simp [intOf];omega
  · have:k=T:=by omega
    subst this;have hPb:M≤16777216:=by rw [hP.out];exact HPw.out k hk
    by_cases hgt:(4096:Int)<(M:Int)
    · have HF:=Oi (HNo.out (by rw [← hP.out];omega))
      have HS0:Hid (S (oo few (P ^ k)) (w.alloc (.cells #[.int .i64 P,.int .i64 k,.slice aV xV.length cV] 28))):=by rw [HF.out,DK];exact S1.out
      clear hP HYes HNo;go_wp2_with fail;go_ret;exact ⟨ar HF.out.symm,HS0.out⟩
    · have HF:=Oi (HYes.out (by rw [← hP.out];omega))
      have HPN:=Oi hP.out;clear hP HYes HNo HPw
      go_wp2_with (at_make;refine ic _ rfl _ _ 24 rfl 2 (.int .i64 0) 8 Tryz.underlying24 aZ rfl _ _ k rfl rfl (by omega) (by unfold maxLen;omega) ?_)
      intro w2 hb2 hw2 hs2
      try simp at hs2
      try simp at hb2
      have KB:Hid (Blk w2 (w.heap.size+1) (ae (cE P k 0)) 2):=by rw [cE,← gd];exact hb2
      have KA2:=Oi (KA.out.below hw2 (by omega))
      have S2:=Oi (HS.out 0 _ _ S1.out (dp (hw2.mono (by simp)) _))
      have hsz:w.heap.size+2≤w2.heap.size:=by omega
      clear hb2 hw2 hs2 S1 KA;go_wp2_with fail
      go_loopw [23] (fun i wr=>∃ t:Nat,t≤M∧i=.int .i64 t∧Hid (S t wr)∧Hid (Blk wr (w.heap.size+1) (ae (cE P k t)) 2)∧Hid (Blk wr w.heap.size [.int .i64 P,.int .i64 k,.slice aV xV.length cV] 28)∧w.heap.size+2≤wr.heap.size) (fun i _=>M - (intOf i).toNat)
      case atStart=>exact ⟨0,Nat.zero_le _,rfl,S2.out,KB.out,KA2.out,hsz⟩
      case round =>
       clear S2 KB KA2 hsz;obtain ⟨t,ht,rfl,hSt,hG,hA,hsz⟩:=hrel
       by_cases htl:t<M
       · have htN:t<P ^ k:=by rw [← HPN.out];exact htl
         have HD1:=Oi (HD.out t wr k hSt.out htN hsz (hG.out.rd (by omega)))
         have Hdg:=Oi (Hsp.out t htN).1;have Hcl:=Oi (Hln.out t);have Hnx:Hid (cE P k (t+1)=(cq P (cE P k t) k).1):=rfl;have hk8:k≤8:=hN8;clear hSt htN;have hKK:=Oi hK;go_wp2_with fail;refine HD1.out.mono ?_;rintro e w3 ⟨rfl,hs3,ht3⟩;have hG3:=Oi (hG.out.touch ht3 (by omega))
         have hA3:=Oi (hA.out.touch ht3 (by omega))
         have hs3':=Oi hs3;have hsz3:w.heap.size+2≤w3.heap.size:=Nat.le_trans hsz ht3.size;clear HD1 hs3 ht3 hG hA hsz;generalize cE P k t=ct at *
         go_wp2_with fail
         go_loopw [7] (fun i wi=>∃ (m:Nat) (j:Int) (cur:List Int),m≤k∧i=.int .i64 j∧Hid (j+1=(m:Int))∧Hid (cur.length=k)∧Hid (kT P cur)∧Hid (cq P ct k=cq P cur m)∧Hid (Blk wi (w.heap.size+1) (ae cur) 2)∧Hid (Blk wi w.heap.size [.int .i64 P,.int .i64 k,.slice aV xV.length cV] 28)∧Hid (S (t+1) wi)∧w.heap.size+2≤wi.heap.size) (fun i _=>(intOf i+1).toNat)
         case atStart=>exact ⟨k,_,ct,Nat.le_refl _,rfl,by show _=_;omega,Hcl.out,Hdg.out,rfl,hG3.out,hA3.out,hs3'.out,hsz3⟩
         case round =>
          clear hG3 hA3 hs3' hsz3 Hdg Hcl;obtain ⟨m,j,cur,hm,rfl,hj,hcl,hd,hnx,hG,hA,hSi,hsz⟩:=hrel
          cases m with
          | zero =>
            have:j = -1:=by have:=hj.out;omega
            subst this;have HG4:Hid (Blk wr (w.heap.size+1) (ae (cE P k (t+1))) 2):=by
             show Blk _ _ _ _
             rw [Hnx.out,hnx.out,cq];exact hG.out
            clear hnx hG hd;go_wp2_with fail;go_roundw
            case rel=>exact ⟨t+1,by omega,by go_num,hSi.out,HG4.out,hA.out,hsz⟩
            case measure=>simp [intOf];omega
          | succ m =>
            have:j=(m:Int):=by have:=hj.out;omega
            subst this;have hkc:m<cur.length:=by have:=hcl.out;omega
            have e1:=hG.out.at hkc;have f1:=hG.out.free m;obtain ⟨y0,y1⟩:=Aj hd.out hkc;have Hdz:=Oi (Ak hd.out hL1 m);have hlt:m<k:=by omega
            have q2:=(hA.out.oth (g:=w.heap.size+1) (by omega) m (.int .i64 (cur.getD m 0+1))).cell 0
            simp only [List.getElem?_cons_zero,List.getElem?_cons_succ] at q2
            by_cases hy:cur.getD m 0+1<(P:Int)
            · have HF:Hid (cq P ct k=(cur.set m (cur.getD m 0+1),true)):=hnx.out.trans (vp hy)
              have HG2:Hid (Blk (wr.setCell ⟨w.heap.size+1,m,none⟩ (.int .i64 (cur.getD m 0+1))) (w.heap.size+1) (ae (cE P k (t+1))) 2):=by
               show Blk _ _ _ _
               rw [Hnx.out,HF.out];exact hG.out.setI m _
              have HA2:=Oi (hA.out.oth (g:=w.heap.size+1) (by omega) m (.int .i64 (cur.getD m 0+1)))
              have HS2:=Oi (HS.out _ _ _ hSi.out (da wr (w.heap.size+1) m (.int .i64 (cur.getD m 0+1))));have e2:=(hG.out.setI m (cur.getD m 0+1)).at (k:=m) (by rw [List.length_set];exact hkc)
              have hge:(cur.set m (cur.getD m 0+1)).getD m 0=cur.getD m 0+1:=gJ hkc _;rw [hge] at e2;have hsz2:w.heap.size+2≤(wr.setCell ⟨w.heap.size+1,m,none⟩ (.int .i64 (cur.getD m 0+1))).heap.size:=by simpa using hsz
              have Hsz2:=Oi hsz2;generalize cur.getD m 0=y at *
              clear hnx hG hd hkc hge hsz2 hSi hA;go_wp2_with fail
              go_quiet (fail)
              go_wp2_with fail;go_roundw
              case rel=>exact ⟨t+1,by omega,by go_num,HS.out _ _ _ HS2.out (by first | exact World.grownBy.refl _ _ | exact dp (ag (Below.refl _ _) _) _),HG2.out,HA2.out,Hsz2.out⟩
              case measure=>simp [intOf];omega
            · have HF:Hid (cq P ct k=cq P (cur.set m 0) m):=hnx.out.trans (xS hy)
              have hS0:=hG.out.setI m (cur.getD m 0+1);have f2:=hS0.free m;have e2:=hS0.at (k:=m) (by rw [List.length_set];exact hkc)
              have hge:(cur.set m (cur.getD m 0+1)).getD m 0=cur.getD m 0+1:=gJ hkc _;rw [hge] at e2;have HX:Hid (∀ d:Nat,Blk (((wr.setCell ⟨w.heap.size+1,m,none⟩ (.int .i64 (cur.getD m 0+1))).drewN d).setCell ⟨w.heap.size+1,m,none⟩ (.int .i64 0)) (w.heap.size+1) (ae (cur.set m 0)) 2):=fun d=>by
               have:=(hS0.drewN d).setI m 0;rwa [List.set_set] at this
              have HA2:Hid (∀ d:Nat,Blk (((wr.setCell ⟨w.heap.size+1,m,none⟩ (.int .i64 (cur.getD m 0+1))).drewN d).setCell ⟨w.heap.size+1,m,none⟩ (.int .i64 0)) w.heap.size [.int .i64 P,.int .i64 k,.slice aV xV.length cV] 28):=fun d=>((hA.out.oth (g:=w.heap.size+1) (by omega) m (.int .i64 (cur.getD m 0+1))).drewN d).oth (g:=w.heap.size+1) (by omega) m (.int .i64 0)
              have HS2:Hid (∀ d:Nat,S (t+1) (((wr.setCell ⟨w.heap.size+1,m,none⟩ (.int .i64 (cur.getD m 0+1))).drewN d).setCell ⟨w.heap.size+1,m,none⟩ (.int .i64 0))):=fun d =>
               HS.out _ _ _ (HS.out _ _ _ (HS.out _ _ _ hSi.out (da wr (w.heap.size+1) m (.int .i64 (cur.getD m 0+1)))) (dp (ag (Below.refl _ _) d) _)) (da _ (w.heap.size+1) m (.int .i64 0))
              have hcl2:Hid ((cur.set m 0).length=k):=by rw [Hid,List.length_set];exact hcl.out
              generalize cur.getD m 0=y at *
              clear hnx hG hd hkc hge hSi hA hS0;go_wp2_with fail
              go_quiet (fail)
              go_wp2_with fail;go_roundw
              case rel=>exact ⟨m,(m:Int) - 1,cur.set m 0,by omega,by go_num,by show _=_;omega,hcl2.out,Hdz.out,HF.out,HX.out _,HA2.out _,HS2.out _,by simpa using hsz⟩
              case measure=>simp [intOf]
       · have:t=M:=by omega
         subst this;have HST:Hid (S (oo few (P ^ k)) wr):=by rw [HF.out,oq,← HPN.out];exact hSt.out
         clear hSt hG hA;go_wp2_with fail;go_ret;exact ⟨ar HF.out.symm,HST.out⟩
theorem MM (w:World) (P T:Nat) (aV:Option Addr) (cV:Nat) (xV:List Int) (aO:Option Addr) (cO:Nat) (ow:List Int) (hV:Rd w w.heap.size aV (ae xV)) (hO:Rd w w.heap.size aO (ae ow)) (lV:xV.length=P * T) (lO:ow.length=T) (hb:∀ x∈xV,0≤x∧x≤1000) (hP:P≤6) (hT:T≤8) :
 Calls Tryz.prog 224 #[.agg #[.int .i64 P,.int .i64 T,.slice aV xV.length cV],.slice aO ow.length cO] w fun e w'=>∃ a c,e=.returned (.slice a P c)∧Rd w' w'.heap.size a (ae (gH T xV ow P))∧Below w.heap.size w w':=by
 have KG:=Blk.new w [.int .i64 P,.int .i64 T,.slice aV xV.length cV] 28;have B1:=ai w (.cells #[.int .i64 P,.int .i64 T,.slice aV xV.length cV] 28);have LP:=Oi (fun v (hbl:Below w.heap.size w v) i (hi:i<P)=>uy v P T i (i:Int) aV cV xV aO cO ow (hV.to hbl) (hO.to hbl) lV lO hb hP hT hi)
 have FS:=Oi (fun n=>Iw T xV ow n)
 have FL:=Oi (fun n=>uw T xV ow n)
 have F0:Hid (gH T xV ow 0=[]):=rfl;obtain ⟨w3,hw3⟩:∃ X,X=(w.alloc (.cells #[.int .i64 P,.int .i64 T,.slice aV xV.length cV] 28)).alloc (.cells #[] 2):=⟨_,rfl⟩;have HO3:Hid (w3.ownsRow (w.heap.size+1) 2 1 (.slice (some ⟨w.heap.size+1,0,none⟩) 0 0) 0 []):=by
  rw [hw3];have:=bS (bz (w.alloc (.cells #[.int .i64 P,.int .i64 T,.slice aV xV.length cV] 28)) 2) (show w.heap.size+1≤_ by rw [World.size_alloc];exact Nat.le_refl _)
  simpa [Hid] using this
 have KG3:Hid (Blk w3 w.heap.size [.int .i64 P,.int .i64 T,.slice aV xV.length cV] 28):=by rw [hw3];exact KG.alloc _
 have B3:Hid (Below w.heap.size w w3):=by rw [hw3];exact aa B1 (ai _ _)
 have hs3:w.heap.size+1≤w3.heap.size:=by rw [hw3];simp
 have q0:w3.cell? ⟨w.heap.size,0,none⟩=some (.int .i64 P):=KG3.out.cell 0;rw [hw3] at q0;clear hV hO lV lO hb KG B1
 go_enter Tryz.func224,Tryz.ntmps224;go_wp2_with fail;rw [← hw3];clear q0 hw3
 go_loopw [10,5] (fun iv ov wr=>∃ (i:Nat) (v:Value),i≤P∧iv=.int .i64 i∧ov=v∧Hid (wr.ownsRow (w.heap.size+1) 2 1 v (gH T xV ow i).length (ae (gH T xV ow i)))∧Hid (Below (w.heap.size+1) w3 wr)) (fun iv _ _=>P - (intOf iv).toNat)
 case atStart=>exact ⟨0,_,Nat.zero_le _,rfl,rfl,(by rw [Hid,F0.out];exact HO3.out),Below.refl _ _⟩
 case round =>
  clear HO3;obtain ⟨i,v,hi,rfl,rfl,ho,hw⟩:=hrel;have i0:(0:Int)≤(i:Int):=Int.natCast_nonneg _
  by_cases hlt:i<P
  · have hii:(i:Int)<(P:Int):=by omega
    have HST:=Oi (FS.out i);have hln:=Nat.le_of_eq (FL.out i);have K:=KG3.out.below hw.out (by omega)
    have q0:wr.cell? ⟨w.heap.size,0,none⟩=some (.int .i64 P):=K.cell 0;have q1:wr.cell? ⟨w.heap.size,1,none⟩=some (.int .i64 T):=K.cell 1;have q2:wr.cell? ⟨w.heap.size,2,none⟩=some (.slice aV xV.length cV):=K.cell 2;have hsz:w.heap.size+1≤wr.heap.size:=by have:=hw.out.size;omega
    have LE1:=Oi (LP.out wr (B3.out.trans (hw.out.mono (by omega))) i hlt)
    obtain ⟨s,hs'⟩:∃ s,s=fK T xV ow i (i:Int):=⟨_,rfl⟩;rw [← hs'] at LE1 HST;clear hs' K;go_wp2_with fail;refine LE1.out.mono ?_;rintro e w4 ⟨rfl,hb4⟩;have hW4:=Oi (hw.out.trans (hb4.mono hsz));have hO4:=Oi (aD ho.out hb4);have hsz4:w.heap.size+1≤w4.heap.size:=by have:=hb4.size;omega
    clear hb4 q0 q1 q2 LE1 ho hw
    go_wp2_with (at_builtin;refine aQ _ rfl _ _ 24 rfl (w.heap.size+1) 2 (.int .i64 0) 8 Tryz.underlying24 aZ rfl _ _ _ rfl hO4.out (.int .i64 s) rfl rfl (by omega) (by omega) hsz4 ?_)
    intro v8 w8 o8 g8 n8;have H8:Hid (w8.ownsRow (w.heap.size+1) 2 1 v8 (gH T xV ow (i+1)).length (ae (gH T xV ow (i+1)))):=by
     rw [Hid,HST.out,bk,List.length_append];exact o8
    have B8:=Oi (ah hW4.out hO4.out g8 (Nat.le_refl _) hsz4);clear o8 g8 n8;go_wp2_with fail;go_roundw
    case rel=>exact ⟨i+1,v8,by omega,by go_num,rfl,H8,B8⟩
    case measure=>simp [intOf];omega
  · obtain rfl:i=P:=by omega
    obtain ⟨a',c',e',hcap,_⟩:=ba ho.out;subst e';have HRd:=Oi (ay ho.out (Nat.le_refl _));have BZ:=Oi (B3.out.trans (hw.out.mono (by omega)))
    have hl:=FL.out i;clear ho hcap;go_wp2_with fail;go_ret;exact ⟨a',c',by rw [hl];rfl,HRd.out,BZ.out⟩
theorem Mf:jf=1000000000000:=rfl
theorem zf (w:World) (a:Option Addr) (c:Nat) (l:List Int) (h:Rd w w.heap.size a (ae l)) (hl:l.length≤8) (hb:∀ x∈l,0≤x∧x≤8000) :
 Calls Tryz.prog 180 #[.slice a l.length c] w fun e w'=>e=.returned (.int .i64 (jX l))∧w'=w:=by
 have LC:=Oi (gg w a c l 0 h (by omega))
 have HP:Hid (jX l=if bH l 0 then 0 else fL l 1):=rfl
 cases hc:bH l 0 with
 | true =>
   rw [hc] at LC HP;rw [if_pos rfl] at HP;clear h hb hc
   go_enter Tryz.func180,Tryz.ntmps180;go_wp2_with fail;refine LC.out.mono ?_;rintro e w1 ⟨rfl,rfl⟩;go_wp2_with fail;go_ret;exact ⟨bY HP.out.symm,rfl⟩
 | false =>
   rw [hc] at LC HP;rw [if_neg (by decide)] at HP
   have HB:=Oi (fun k=>Bt (l:=l.take k) (fun x hx=>(hb x (List.mem_of_mem_take hx)).1) 1 (by omega) (by unfold jf;omega))
   have HS:=Oi (fun k x (hx:l[k]? = some x)=>FI hx 1)
   have HX:=Oi (fun k x (hx:l[k]? = some x)=>hb x (List.mem_of_getElem? hx))
   have H0:Hid (fL (l.take 0) 1=1):=rfl;have HE:Hid (fL (l.take l.length) 1=fL l 1):=by rw [Hid,List.take_length]
   have HR:=Oi h;clear h hb hc
   go_enter Tryz.func180,Tryz.ntmps180;go_wp2_with fail;refine LC.out.mono ?_;rintro e w1 ⟨rfl,rfl⟩;go_wp2_with fail
   go_loopw [3,10] (fun pv iv wr=>∃ k:Nat,k≤l.length∧iv=.int .i64 k∧pv=.int .i64 (fL (l.take k) 1)∧w=wr) (fun _ iv _=>l.length - (intOf iv).toNat)
   case atStart=>exact ⟨0,Nat.zero_le _,rfl,by rw [H0.out],by first | trivial | rfl⟩
   case round =>
    obtain ⟨k,hk,rfl,rfl,rfl⟩:=hrel;have k0:(0:Int)≤(k:Int):=Int.natCast_nonneg _
    by_cases hlt:k<l.length
    · have k1:(k:Int)<(l.length:Int):=by omega
      obtain ⟨b,o,x,rfl,hbb,hck,hx⟩:=HR.out.get hlt;obtain ⟨x0,x1⟩:=HX.out k x hx.out;obtain ⟨p0,p1⟩:=HB.out k;rw [Mf] at p1;have HN:Hid (fL (l.take (k+1)) 1=min (fL (l.take k) 1 * x) (1000000000000+1)):=HS.out k x hx.out;generalize fL (l.take k) 1=p at *
      have m0:0≤p * x:=Int.mul_nonneg p0 x0;have m1:p * x≤1000000000001 * 8000:=Int.mul_le_mul p1 x1 x0 (by omega)
      clear hx;go_wp2_with fail;go_roundw
      case rel=>exact ⟨k+1,by omega,by go_num,by rw [HN.out];congr 1 <;> split <;> omega,by first | trivial | rfl⟩
      case measure=>simp [intOf];omega
    · obtain rfl:k=l.length:=by omega
      rw [HE.out];go_wp2_with fail;go_ret;exact ⟨bY HP.out.symm,rfl⟩
end Go.Proofs.YtbknhgapjjaelaaGreatDoor
