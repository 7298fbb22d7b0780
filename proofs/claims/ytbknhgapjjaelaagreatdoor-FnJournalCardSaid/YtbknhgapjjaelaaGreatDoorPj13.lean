/-
  Part 13 of what the proof stands on: lemmas and contracts, each with its conditions ahead of the colon.
-/
import Derived.Test.YtbknhgapjjaelaaGreatDoorPj01
import Derived.Deep.RegionHeld3
import Derived.Test.YtbknhgapjjaelaaGreatDoorPj05
import Derived.Test.YtbknhgapjjaelaaGreatDoorPj06
import Derived.Test.YtbknhgapjjaelaaGreatDoorPj07
import Derived.Test.YtbknhgapjjaelaaGreatDoorPj09
import Derived.Test.YtbknhgapjjaelaaGreatDoorPj12
set_option maxRecDepth 10000
set_option maxHeartbeats 8000000
namespace Go.Proofs.YtbknhgapjjaelaaGreatDoor
set_option linter.unusedVariables false
set_option linter.unusedSimpArgs false
open Go.RowKit
def pE (w:World) (b:Nat) (a:Option Addr) (vs:List Value):Prop:=(∀ w',Touch w w' b (b+1)→Rd w' w'.heap.size a vs)∧∀ y,a=some y→b<y.block
theorem Eg {w:World} {b:Nat} {a:Option Addr} {vs:List Value} (h:Rd w w.heap.size a vs) (ha:∀ y,a=some y→b<y.block):pE w b a vs :=
 ⟨fun w' ht=>gL h ht (fun y e=>by have:=ha y e;omega),ha⟩
theorem kr {T lo hi c b:Nat} {w:World} {a:Option Addr} {xs:List Int} (h:OwnI T w lo hi a c xs) (hb:b<lo) (hh:hi≤w.heap.size):pE w b a (ae xs) :=
 ⟨fun w' ht=>(h.touch ht (.inr (by omega))).rd.mono (Nat.le_trans hh ht.size),fun y e=>by have:=(h.1.lt y.block (by simp [Value.ownBlock,e])).1;omega⟩
theorem yn {T lo hi c b:Nat} {w:World} {a:Option Addr} {xs:List Nat} (h:OwnF T w lo hi a c xs) (hb:b<lo) (hh:hi≤w.heap.size):pE w b a (dx xs) :=
 ⟨fun w' ht=>(h.touch ht (.inr (by omega))).rd.mono (Nat.le_trans hh ht.size),fun y e=>by have:=(h.1.lt y.block (by simp [Value.ownBlock,e])).1;omega⟩
theorem qT (w:World) (b:Nat):pE w b none []:=⟨fun _ _=>.inl rfl,fun y e=>by cases e⟩
def PutD (w wz:World) (b:Nat) (d:DD) (x x0:DA):Prop:=Touch w wz b (b+1)∧Blk wz b (d.cells x) 33∧DRd wz wz.heap.size d x∧∀ lo,lo≤b→DLo lo x0→DLo lo x
theorem PutD.yes {lo b:Nat} {w w1 wz:World} {d:DD} {x x0:DA} (h:PutD w1 wz b d x x0) (hb:Below w.heap.size w w1) (hlo:lo≤b) (hl:DLo lo x0) (t:List UInt8):RetAl lo b w (some (some (d,t))) (.returned (.tuple #[.string (bs t),.bool true,.bool true])) wz:=RetAl.yes ((Below.touch hb _ _).trans h.1) h.2.1 h.2.2.1 (h.2.2.2 lo hlo hl)
theorem PutD.no {lo b:Nat} {w w1 wz:World} {d:DD} {x x0:DA} (h:PutD w1 wz b d x x0) (hb:Below w.heap.size w w1) (t:ByteArray):RetAl lo b w (some none) (.returned (.tuple #[.string t,.bool false,.bool true])) wz:=RetAl.no _ ((Below.touch hb _ _).trans h.1)
theorem Ef {w:World} {b:Nat} {d:DD} {x:DA} (kB:Blk w b (d.cells x) 33) (kR:DRd w b d x) (R:Int) (C:Int) (A:List Int) (pA:Option Addr) (cA:Nat) (B:List Int) (pB:Option Addr) (cB:Nat) (hA:pE w b pA (ae A)) (hB:pE w b pB (ae B)) :
 PutD w ((((w.setCell ⟨b,0,none⟩ (.int .i64 R)).setCell ⟨b,1,none⟩ (.int .i64 C)).setCell ⟨b,2,none⟩ (.slice pA A.length cA)).setCell ⟨b,3,none⟩ (.slice pB B.length cB)) b { d with R:=R,C:=C,A:=A,B:=B } { x with a:=pA,ca:=cA,b:=pB,cb:=cB } x:=by
 have m:=((((kB.set 0 (.int .i64 R)).set 1 (.int .i64 C)).set 2 (.slice pA A.length cA)).set 3 (.slice pB B.length cB));have t:Touch w ((((w.setCell ⟨b,0,none⟩ (.int .i64 R)).setCell ⟨b,1,none⟩ (.int .i64 C)).setCell ⟨b,2,none⟩ (.slice pA A.length cA)).setCell ⟨b,3,none⟩ (.slice pB B.length cB)) b (b+1):=((((au _ b 0 (.int .i64 R)).trans (au _ b 1 (.int .i64 C))).trans (au _ b 2 (.slice pA A.length cA))).trans (au _ b 3 (.slice pB B.length cB)));have r:=kR.touch t (Nat.le_refl _) (Nat.le_of_lt kB.lt);have q:=r.mono (Z':=((((w.setCell ⟨b,0,none⟩ (.int .i64 R)).setCell ⟨b,1,none⟩ (.int .i64 C)).setCell ⟨b,2,none⟩ (.slice pA A.length cA)).setCell ⟨b,3,none⟩ (.slice pB B.length cB)).heap.size) (Nat.le_trans (Nat.le_of_lt kB.lt) t.size);exact ⟨t,m,⟨⟨(hA.1 _ t),(hB.1 _ t),q.r.V,q.r.W,q.r.C,q.r.T⟩,q.f⟩,fun lo hlo hl=>⟨fun y e=>by have:=hA.2 y e;omega,fun y e=>by have:=hB.2 y e;omega,hl.v,hl.w,hl.k,hl.f⟩⟩
theorem IL {w:World} {b:Nat} {d:DD} {x:DA} (kB:Blk w b (d.cells x) 33) (kR:DRd w b d x) (P:Int) (T:Int) (V:List Int) (pV:Option Addr) (cV:Nat) (hV:pE w b pV (ae V)) :
 PutD w (((w.setCell ⟨b,4,none⟩ (.int .i64 P)).setCell ⟨b,5,none⟩ (.int .i64 T)).setCell ⟨b,6,none⟩ (.slice pV V.length cV)) b { d with P:=P,T:=T,V:=V } { x with v:=pV,cv:=cV } x:=by
 have m:=(((kB.set 4 (.int .i64 P)).set 5 (.int .i64 T)).set 6 (.slice pV V.length cV));have t:Touch w (((w.setCell ⟨b,4,none⟩ (.int .i64 P)).setCell ⟨b,5,none⟩ (.int .i64 T)).setCell ⟨b,6,none⟩ (.slice pV V.length cV)) b (b+1):=(((au _ b 4 (.int .i64 P)).trans (au _ b 5 (.int .i64 T))).trans (au _ b 6 (.slice pV V.length cV)));have r:=kR.touch t (Nat.le_refl _) (Nat.le_of_lt kB.lt);have q:=r.mono (Z':=(((w.setCell ⟨b,4,none⟩ (.int .i64 P)).setCell ⟨b,5,none⟩ (.int .i64 T)).setCell ⟨b,6,none⟩ (.slice pV V.length cV)).heap.size) (Nat.le_trans (Nat.le_of_lt kB.lt) t.size);exact ⟨t,m,⟨⟨q.r.A,q.r.B,(hV.1 _ t),q.r.W,q.r.C,q.r.T⟩,q.f⟩,fun lo hlo hl=>⟨hl.a,hl.b,fun y e=>by have:=hV.2 y e;omega,hl.w,hl.k,hl.f⟩⟩
theorem uz {w:World} {b:Nat} {d:DD} {x:DA} (kB:Blk w b (d.cells x) 33) (kR:DRd w b d x) (U:Int) (N:Int) (W:List Int) (pW:Option Addr) (cW:Nat) (K:List Int) (pK:Option Addr) (cK:Nat) (hW:pE w b pW (ae W)) (hK:pE w b pK (ae K)) :
 PutD w ((((w.setCell ⟨b,7,none⟩ (.int .i64 U)).setCell ⟨b,8,none⟩ (.int .i64 N)).setCell ⟨b,9,none⟩ (.slice pW W.length cW)).setCell ⟨b,10,none⟩ (.slice pK K.length cK)) b { d with U:=U,N:=N,W:=W,K:=K } { x with w:=pW,cw:=cW,k:=pK,ck:=cK } x:=by
 have m:=((((kB.set 7 (.int .i64 U)).set 8 (.int .i64 N)).set 9 (.slice pW W.length cW)).set 10 (.slice pK K.length cK));have t:Touch w ((((w.setCell ⟨b,7,none⟩ (.int .i64 U)).setCell ⟨b,8,none⟩ (.int .i64 N)).setCell ⟨b,9,none⟩ (.slice pW W.length cW)).setCell ⟨b,10,none⟩ (.slice pK K.length cK)) b (b+1):=((((au _ b 7 (.int .i64 U)).trans (au _ b 8 (.int .i64 N))).trans (au _ b 9 (.slice pW W.length cW))).trans (au _ b 10 (.slice pK K.length cK)));have r:=kR.touch t (Nat.le_refl _) (Nat.le_of_lt kB.lt);have q:=r.mono (Z':=((((w.setCell ⟨b,7,none⟩ (.int .i64 U)).setCell ⟨b,8,none⟩ (.int .i64 N)).setCell ⟨b,9,none⟩ (.slice pW W.length cW)).setCell ⟨b,10,none⟩ (.slice pK K.length cK)).heap.size) (Nat.le_trans (Nat.le_of_lt kB.lt) t.size);exact ⟨t,m,⟨⟨q.r.A,q.r.B,q.r.V,(hW.1 _ t),(hK.1 _ t),q.r.T⟩,q.f⟩,fun lo hlo hl=>⟨hl.a,hl.b,hl.v,fun y e=>by have:=hW.2 y e;omega,fun y e=>by have:=hK.2 y e;omega,hl.f⟩⟩
theorem qS {w:World} {b:Nat} {d:DD} {x:DA} (kB:Blk w b (d.cells x) 33) (kR:DRd w b d x) (F:List Nat) (pF:Option Addr) (cF:Nat) (hF:pE w b pF (dx F)) (hF':∀ y∈F,y<4294967296) :
 PutD w (w.setCell ⟨b,11,none⟩ (.slice pF F.length cF)) b { d with F:=F } { x with f:=pF,cf:=cF } x:=by
 have m:=(kB.set 11 (.slice pF F.length cF));have t:Touch w (w.setCell ⟨b,11,none⟩ (.slice pF F.length cF)) b (b+1):=(au _ b 11 (.slice pF F.length cF));have r:=kR.touch t (Nat.le_refl _) (Nat.le_of_lt kB.lt);have q:=r.mono (Z':=(w.setCell ⟨b,11,none⟩ (.slice pF F.length cF)).heap.size) (Nat.le_trans (Nat.le_of_lt kB.lt) t.size);exact ⟨t,m,⟨⟨q.r.A,q.r.B,q.r.V,q.r.W,q.r.C,(hF.1 _ t)⟩,hF'⟩,fun lo hlo hl=>⟨hl.a,hl.b,hl.v,hl.w,hl.k,fun y e=>by have:=hF.2 y e;omega⟩⟩
def gm (U R:Int) (x2 x3:List Int):Option (List UInt8):=if cZ U R x2 x3 then some (bt [[U,R],x2,x3]) else none
theorem DM {U R:Int} {x2 x3:List Int} (h:cZ U R x2 x3=true):∀ x∈[[U,R],x2,x3],bD x=true:=by
 simp only [cZ,Bool.and_eq_true,cx,mD] at h;obtain ⟨⟨⟨v1,v2⟩,v3,v4⟩,⟨⟨v5,v6⟩,v7⟩,⟨v8,v9⟩,v10⟩:=h;have hp:=sU v1 v2 v3 v4;intro x hx;simp only [List.mem_cons,List.not_mem_nil,or_false] at hx
 rcases hx with rfl | rfl | rfl
 · refine jo (fun y hy=>?_) (by simp)
   simp only [List.mem_cons,List.not_mem_nil,or_false] at hy;omega
 · exact jo (fun y hy=>by have:=v7 y hy;omega) (by omega)
 · exact jo (fun y hy=>by have:=v10 y hy;omega) (by omega)
theorem As (w:World) (ht:Tab w) (U R:Int) (a2:Option Addr) (c2:Nat) (x2:List Int) (a3:Option Addr) (c3:Nat) (x3:List Int) (h:RdGame w w.heap.size a2 x2 a3 x3) (hl2:x2.length≤1048576) (hl3:x3.length≤1048576) :
 Calls Tryz.prog 13 #[.agg #[.int .i64 U,.int .i64 R,.slice a2 x2.length c2,.slice a3 x3.length c3]] w fun e w'=>e=.returned (.tuple #[.string (bs ((gm U R x2 x3).getD [])),.bool (gm U R x2 x3).isSome])∧Below w.heap.size w w':=by
 have LV:=Oi (fun v hb=>ef v U R a2 c2 x2 a3 c3 x3 (h.to hb) hl2 hl3)
 have B0:=ai w (.cells #[.int .i64 U,.int .i64 R,.slice a2 x2.length c2,.slice a3 x3.length c3] 26);have K0:=Blk.new w [.int .i64 U,.int .i64 R,.slice a2 x2.length c2,.slice a3 x3.length c3] 26
 cases t1:cZ U R x2 x3 with
 | false =>
   have HF:Hid (gm U R x2 x3=none):=by simp [Hid,gm,t1]
   rw [t1] at LV;clear h t1
   go_enter Tryz.func13,Tryz.ntmps13;go_wp2_with fail;refine (LV.out _ B0).mono ?_;rintro e w1 ⟨rfl,hb1⟩;go_wp2_with fail
   go_ret2
   rw [HF.out];exact ⟨rfl,aa B0 hb1⟩
 | true =>
   have HF:Hid (gm U R x2 x3=some (bt [[U,R],x2,x3])):=by simp [Hid,gm,t1]
   have HOK:=Oi (DM t1);rw [t1] at LV;have HT:=Oi ht;have HA:=Oi h;clear h t1 ht
   go_enter Tryz.func13,Tryz.ntmps13;go_wp2_with fail;refine (LV.out _ B0).mono ?_;rintro e w1 ⟨rfl,hb1⟩;have B1:=aa B0 hb1;have K1:=K0.same hb1;have k0:=K1.cell 0;have k1:=K1.cell 1;have k2:=K1.cell 2;have k3:=K1.cell 3;simp only [List.getElem?_cons_zero,List.getElem?_cons_succ] at k0 k1 k2 k3;have HA1:=HA.out.to B1;have HT1:=Oi (HT.out.to B1);have q2:=(ai w1 (.cells #[.int .i64 U,.int .i64 R] 2)).cell (p:=⟨w.heap.size,2,none⟩) K1.lt;have q3:=(ai w1 (.cells #[.int .i64 U,.int .i64 R] 2)).cell (p:=⟨w.heap.size,3,none⟩) K1.lt;rw [k2] at q2;rw [k3] at q3;have HB:=Oi B1;have hHA:=Oi HA1;clear B1 K1 B0 K0 hb1 HA1 HT HA;go_wp2_with fail;have b2:=cd w1 (.cells #[.int .i64 U,.int .i64 R] 2) (.cells #[.slice (some ⟨w1.heap.size,0,none⟩) 2 2,.slice a2 x2.length c2,.slice a3 x3.length c3] 24);obtain ⟨e1,e2⟩:=zx w1 [.int .i64 U,.int .i64 R] [.slice (some ⟨w1.heap.size,0,none⟩) 2 2,.slice a2 x2.length c2,.slice a3 x3.length c3] 2 24;have hA2:=hHA.out.to b2;refine (jW _ (HT1.out.to b2) _ _ [[U,R],x2,x3] (NG e2 e1 hA2.1 hA2.2) (by simp) HOK.out).mono ?_
   rintro e w2 ⟨rfl,hb2⟩;have hB:=aa HB.out (aa b2 hb2);clear b2 e1 e2 hA2 hb2;go_wp2_with fail
   go_ret2
   rw [HF.out];exact ⟨rfl,hB⟩
theorem CS (w:World) (b o:Nat) (U R:Int) (a2:Option Addr) (c2:Nat) (x2:List Int) (a3:Option Addr) (c3:Nat) (x3:List Int)
 (d0:w.cell? ⟨b,o,none⟩=some (.int .i64 U)) (d1:w.cell? ⟨b,o+1,none⟩=some (.int .i64 R)) (d2:w.cell? ⟨b,o+2,none⟩=some (.slice a2 x2.length c2)) (d3:w.cell? ⟨b,o+3,none⟩=some (.slice a3 x3.length c3))
 (h:RdGame w w.heap.size a2 x2 a3 x3) (ok:∀ x∈[[U,R],x2,x3],bD x=true) :
 Calls Tryz.prog 62 #[.pointer (some ⟨b,o,none⟩)] w fun e w'=>e=.returned (.string (bs (bt [[U,R],x2,x3])))∧Below w.heap.size w w':=by
 have hbk:=World.block_lt_of_cell? w _ d0;have HS:Hid (∀ w',Below w.heap.size w w'→(w'.cell? ⟨b,o,none⟩=some (.int .i64 U)∧w'.cell? ⟨b,o+1,none⟩=some (.int .i64 R)∧w'.cell? ⟨b,o+2,none⟩=some (.slice a2 x2.length c2)∧w'.cell? ⟨b,o+3,none⟩=some (.slice a3 x3.length c3))):=fun w' hb =>
  ⟨(hb.cell (p:=⟨b,o,none⟩) hbk).trans d0,(hb.cell (p:=⟨b,o+1,none⟩) hbk).trans d1,(hb.cell (p:=⟨b,o+2,none⟩) hbk).trans d2,(hb.cell (p:=⟨b,o+3,none⟩) hbk).trans d3⟩
 have o0:=ok [U,R] (by simp)
 have o1:=ok x2 (by simp)
 have o2:=ok x3 (by simp)
 have LU:Hid (Calls Tryz.prog 96 #[.slice (some ⟨w.heap.size,0,none⟩) 2 2] (w.alloc (.cells #[.int .i64 U,.int .i64 R] 2)).drew _):=fu (w.alloc (.cells #[.int .i64 U,.int .i64 R] 2)).drew (some ⟨w.heap.size,0,none⟩) 2 [U,R] (fD (show Blk (w.alloc (.cells #[.int .i64 U,.int .i64 R] 2)).drew _ _ _ from Blk.new w [.int .i64 U,.int .i64 R] 2)) (by simp) (et o0).1
 have HD:Hid (Below w.heap.size w w.drew):=aq (Below.refl _ _);have HE:Hid (Below w.heap.size w (w.alloc (.cells #[.int .i64 U,.int .i64 R] 2)).drew):=aq (ai _ _);have LW:=Oi (fun (w':World) (hb:Below w.heap.size w w')=>fu w' a2 c2 x2 (h.1.to hb) (by have:=(et o1).2;omega) (et o1).1)
 have LC:=Oi (fun (w':World) (hb:Below w.heap.size w w')=>fu w' a3 c3 x3 (h.2.to hb) (by have:=(et o2).2;omega) (et o2).1)
 have z0:=ia o0;have z1:=ia o1;have z2:=ia o2;have HP:=Oi (ID [U,R] x2 x3);have HQ:Hid (bs (aJ [U,R]) ++ ⟨#[59]⟩ ++ bs (aJ x2) ++ ⟨#[59]⟩ ++ bs (aJ x3)=bs (bt [[U,R],x2,x3])):=by
  show _=_
  rw [HP.out,← cD,← cD,← cD,← cD];rfl
 generalize bs (aJ [U,R])=T0 at *
 generalize bs (aJ x2)=T1 at *
 generalize bs (aJ x3)=T2 at *
 have n0:¬ 9223372036854775807<T0.size+1:=by omega
 have n1:¬ 9223372036854775807<T0.size+1+T1.size:=by omega
 have n2:¬ 9223372036854775807<T0.size+1+T1.size+1:=by omega
 have n3:¬ 9223372036854775807<T0.size+1+T1.size+1+T2.size:=by omega
 clear HP o0 o1 o2 h ok
 go_enter Tryz.func62,Tryz.ntmps62;obtain ⟨d0,d1,d2,d3⟩:=HS.out _ (Below.refl _ _);go_wp2_with fail
 go_region_held3 (fun w'=>w'.cell? ⟨b,o,none⟩=some (.int .i64 U)∧w'.cell? ⟨b,o+1,none⟩=some (.int .i64 R)∧w'.cell? ⟨b,o+2,none⟩=some (.slice a2 x2.length c2)∧w'.cell? ⟨b,o+3,none⟩=some (.slice a3 x3.length c3))
  (first | with_reducible exact HS.out _ hB3 | with_reducible exact HS.out _ hB2 | with_reducible exact HS.out _ hB1 | with_reducible exact HS.out _ HD.out | with_reducible exact HS.out _ HE.out)
  (first | (go_at_call 96;with_reducible refine (LU.out).mono ?_;rintro e w4 ⟨rfl,hz1⟩;have hB1:=aa HE.out hz1) | (go_at_call 96;with_reducible refine (LW.out _ hB1).mono ?_;rintro e w5 ⟨rfl,hz2⟩;have hB2:=aa hB1 hz2) | (go_at_call 96;with_reducible refine (LC.out _ hB2).mono ?_;rintro e w6 ⟨rfl,hz3⟩;have hB3:=aa hB2 hz3))
 all_goals
  clear hz1 hz2 hz3 hB1 hB2;go_wp2_with fail;go_ret;exact ⟨by rw [← HQ.out];rfl,hB3⟩
def fd (U R:Int) (x2:List Int):Option (List UInt8):=if bM U R x2 then some (bt [[U,R],x2]) else none
theorem yF {U R:Int} {x2:List Int} (h:bM U R x2=true):∀ x∈[[U,R],x2],bD x=true:=by
 simp only [bM,Bool.and_eq_true,cx,mD] at h;obtain ⟨⟨⟨v1,v2⟩,v3,v4⟩,⟨v5,v6⟩,v7⟩:=h;have hp:=sU v1 v2 v3 v4;intro x hx;simp only [List.mem_cons,List.not_mem_nil,or_false] at hx
 rcases hx with rfl | rfl
 · refine jo (fun y hy=>?_) (by simp)
   simp only [List.mem_cons,List.not_mem_nil,or_false] at hy;omega
 · exact jo (fun y hy=>by have:=v7 y hy;omega) (by omega)
theorem xl (w:World) (ht:Tab w) (U R:Int) (a2:Option Addr) (c2:Nat) (x2:List Int) (h:RdValues w w.heap.size a2 x2) (hl2:x2.length≤1048576) :
 Calls Tryz.prog 15 #[.agg #[.int .i64 U,.int .i64 R,.slice a2 x2.length c2]] w fun e w'=>e=.returned (.tuple #[.string (bs ((fd U R x2).getD [])),.bool (fd U R x2).isSome])∧Below w.heap.size w w':=by
 have LV:=Oi (fun v hb=>eu v U R a2 c2 x2 (h.to hb) hl2)
 have B0:=ai w (.cells #[.int .i64 U,.int .i64 R,.slice a2 x2.length c2] 28);have K0:=Blk.new w [.int .i64 U,.int .i64 R,.slice a2 x2.length c2] 28
 cases t1:bM U R x2 with
 | false =>
   have HF:Hid (fd U R x2=none):=by simp [Hid,fd,t1]
   rw [t1] at LV;clear h t1
   go_enter Tryz.func15,Tryz.ntmps15;go_wp2_with fail;refine (LV.out _ B0).mono ?_;rintro e w1 ⟨rfl,hb1⟩;go_wp2_with fail
   go_ret2
   rw [HF.out];exact ⟨rfl,aa B0 hb1⟩
 | true =>
   have HF:Hid (fd U R x2=some (bt [[U,R],x2])):=by simp [Hid,fd,t1]
   have HOK:=Oi (yF t1);rw [t1] at LV;have HT:=Oi ht;have HA:=Oi h;clear h t1 ht
   go_enter Tryz.func15,Tryz.ntmps15;go_wp2_with fail;refine (LV.out _ B0).mono ?_;rintro e w1 ⟨rfl,hb1⟩;have B1:=aa B0 hb1;have K1:=K0.same hb1;have k0:=K1.cell 0;have k1:=K1.cell 1;have k2:=K1.cell 2;simp only [List.getElem?_cons_zero,List.getElem?_cons_succ] at k0 k1 k2;have HA1:=HA.out.to B1;have HT1:=Oi (HT.out.to B1);have q2:=(ai w1 (.cells #[.int .i64 U,.int .i64 R] 2)).cell (p:=⟨w.heap.size,2,none⟩) K1.lt;rw [k2] at q2;have HB:=Oi B1;have hHA:=Oi HA1;clear B1 K1 B0 K0 hb1 HA1 HT HA;go_wp2_with fail;have b2:=cd w1 (.cells #[.int .i64 U,.int .i64 R] 2) (.cells #[.slice (some ⟨w1.heap.size,0,none⟩) 2 2,.slice a2 x2.length c2] 24);obtain ⟨e1,e2⟩:=zx w1 [.int .i64 U,.int .i64 R] [.slice (some ⟨w1.heap.size,0,none⟩) 2 2,.slice a2 x2.length c2] 2 24;have hA2:=hHA.out.to b2;refine (jW _ (HT1.out.to b2) _ _ [[U,R],x2] (Ob e2 e1 hA2) (by simp) HOK.out).mono ?_
   rintro e w2 ⟨rfl,hb2⟩;have hB:=aa HB.out (aa b2 hb2);clear b2 e1 e2 hA2 hb2;go_wp2_with fail
   go_ret2
   rw [HF.out];exact ⟨rfl,hB⟩
theorem zb (w:World) (b o:Nat) (U R:Int) (a2:Option Addr) (c2:Nat) (x2:List Int)
 (d0:w.cell? ⟨b,o,none⟩=some (.int .i64 U)) (d1:w.cell? ⟨b,o+1,none⟩=some (.int .i64 R)) (d2:w.cell? ⟨b,o+2,none⟩=some (.slice a2 x2.length c2))
 (h:RdValues w w.heap.size a2 x2) (ok:∀ x∈[[U,R],x2],bD x=true) :
 Calls Tryz.prog 63 #[.pointer (some ⟨b,o,none⟩)] w fun e w'=>e=.returned (.string (bs (bt [[U,R],x2])))∧Below w.heap.size w w':=by
 have hbk:=World.block_lt_of_cell? w _ d0;have HS:Hid (∀ w',Below w.heap.size w w'→(w'.cell? ⟨b,o,none⟩=some (.int .i64 U)∧w'.cell? ⟨b,o+1,none⟩=some (.int .i64 R)∧w'.cell? ⟨b,o+2,none⟩=some (.slice a2 x2.length c2))):=fun w' hb =>
  ⟨(hb.cell (p:=⟨b,o,none⟩) hbk).trans d0,(hb.cell (p:=⟨b,o+1,none⟩) hbk).trans d1,(hb.cell (p:=⟨b,o+2,none⟩) hbk).trans d2⟩
 have o0:=ok [U,R] (by simp)
 have o1:=ok x2 (by simp)
 have LU:Hid (Calls Tryz.prog 96 #[.slice (some ⟨w.heap.size,0,none⟩) 2 2] (w.alloc (.cells #[.int .i64 U,.int .i64 R] 2)).drew _):=fu (w.alloc (.cells #[.int .i64 U,.int .i64 R] 2)).drew (some ⟨w.heap.size,0,none⟩) 2 [U,R] (fD (show Blk (w.alloc (.cells #[.int .i64 U,.int .i64 R] 2)).drew _ _ _ from Blk.new w [.int .i64 U,.int .i64 R] 2)) (by simp) (et o0).1
 have HD:Hid (Below w.heap.size w w.drew):=aq (Below.refl _ _);have HE:Hid (Below w.heap.size w (w.alloc (.cells #[.int .i64 U,.int .i64 R] 2)).drew):=aq (ai _ _);have LW:=Oi (fun (w':World) (hb:Below w.heap.size w w')=>fu w' a2 c2 x2 (Rd.to h hb) (by have:=(et o1).2;omega) (et o1).1)
 have z0:=ia o0;have z1:=ia o1;have HP:=Oi (ND [U,R] x2);have HQ:Hid (bs (aJ [U,R]) ++ ⟨#[59]⟩ ++ bs (aJ x2)=bs (bt [[U,R],x2])):=by
  show _=_
  rw [HP.out,← cD,← cD];rfl
 generalize bs (aJ [U,R])=T0 at *
 generalize bs (aJ x2)=T1 at *
 have n0:¬ 9223372036854775807<T0.size+1:=by omega
 have n1:¬ 9223372036854775807<T0.size+1+T1.size:=by omega
 clear HP o0 o1 h ok
 go_enter Tryz.func63,Tryz.ntmps63;obtain ⟨d0,d1,d2⟩:=HS.out _ (Below.refl _ _);go_wp2_with fail
 go_region_held3 (fun w'=>w'.cell? ⟨b,o,none⟩=some (.int .i64 U)∧w'.cell? ⟨b,o+1,none⟩=some (.int .i64 R)∧w'.cell? ⟨b,o+2,none⟩=some (.slice a2 x2.length c2))
  (first | with_reducible exact HS.out _ hB2 | with_reducible exact HS.out _ hB1 | with_reducible exact HS.out _ HD.out | with_reducible exact HS.out _ HE.out)
  (first | (go_at_call 96;with_reducible refine (LU.out).mono ?_;rintro e w4 ⟨rfl,hz1⟩;have hB1:=aa HE.out hz1) | (go_at_call 96;with_reducible refine (LW.out _ hB1).mono ?_;rintro e w5 ⟨rfl,hz2⟩;have hB2:=aa hB1 hz2))
 all_goals
  clear hz1 hz2 hB1;go_wp2_with fail;go_ret;exact ⟨by rw [← HQ.out];rfl,hB2⟩
def fE (U R:Int) (x2 x3:List Int):Option (List UInt8):=if bu ⟨U,R,x2,x3⟩ then some (bt [[U,R],x2,x3]) else none
theorem Ac {U R:Int} {x2 x3:List Int} (h:bu ⟨U,R,x2,x3⟩=true):∀ x∈[[U,R],x2,x3],bD x=true:=by
 have v:=em h;have v1:=v.u1;have v2:=v.u8;have v3:=v.r1;have v4:=v.r8;have v5:=v.w8;have v6:=v.way;have v7:=v.clen;have v8:=v.cost;have hp:=Ee v1 v2 v3 v4;simp only at v1 v2 v3 v4 v5 v6 v7 v8 hp;intro x hx;simp only [List.mem_cons,List.not_mem_nil,or_false] at hx
 rcases hx with rfl | rfl | rfl
 · refine jo (fun y hy=>?_) (by simp)
   simp only [List.mem_cons,List.not_mem_nil,or_false] at hy;omega
 · exact jo (fun y hy=>by have:=v6 y hy;omega) (by omega)
 · exact jo (fun y hy=>by have:=v8 y hy;omega) (by omega)
theorem yS (w:World) (ht:Tab w) (U R:Int) (a2:Option Addr) (c2:Nat) (x2:List Int) (a3:Option Addr) (c3:Nat) (x3:List Int) (h:RdCrowd w w.heap.size a2 x2 a3 x3) (hl2:x2.length≤1048576) (hl3:x3.length≤1048576) :
 Calls Tryz.prog 17 #[.agg #[.int .i64 U,.int .i64 R,.slice a2 x2.length c2,.slice a3 x3.length c3]] w fun e w'=>e=.returned (.tuple #[.string (bs ((fE U R x2 x3).getD [])),.bool (fE U R x2 x3).isSome])∧Below w.heap.size w w':=by
 have LV:=Oi (fun v hb=>dJ v U R a2 c2 x2 a3 c3 x3 (h.to hb) hl2 hl3)
 have B0:=ai w (.cells #[.int .i64 U,.int .i64 R,.slice a2 x2.length c2,.slice a3 x3.length c3] 30);have K0:=Blk.new w [.int .i64 U,.int .i64 R,.slice a2 x2.length c2,.slice a3 x3.length c3] 30
 cases t1:bu ⟨U,R,x2,x3⟩ with
 | false =>
   have HF:Hid (fE U R x2 x3=none):=by simp [Hid,fE,t1]
   rw [t1] at LV;clear h t1
   go_enter Tryz.func17,Tryz.ntmps17;go_wp2_with fail;refine (LV.out _ B0).mono ?_;rintro e w1 ⟨rfl,hb1⟩;go_wp2_with fail
   go_ret2
   rw [HF.out];exact ⟨rfl,aa B0 hb1⟩
 | true =>
   have HF:Hid (fE U R x2 x3=some (bt [[U,R],x2,x3])):=by simp [Hid,fE,t1]
   have HOK:=Oi (Ac t1);rw [t1] at LV;have HT:=Oi ht;have HA:=Oi h;clear h t1 ht
   go_enter Tryz.func17,Tryz.ntmps17;go_wp2_with fail;refine (LV.out _ B0).mono ?_;rintro e w1 ⟨rfl,hb1⟩;have B1:=aa B0 hb1;have K1:=K0.same hb1;have k0:=K1.cell 0;have k1:=K1.cell 1;have k2:=K1.cell 2;have k3:=K1.cell 3;simp only [List.getElem?_cons_zero,List.getElem?_cons_succ] at k0 k1 k2 k3;have HA1:=HA.out.to B1;have HT1:=Oi (HT.out.to B1);have q2:=(ai w1 (.cells #[.int .i64 U,.int .i64 R] 2)).cell (p:=⟨w.heap.size,2,none⟩) K1.lt;have q3:=(ai w1 (.cells #[.int .i64 U,.int .i64 R] 2)).cell (p:=⟨w.heap.size,3,none⟩) K1.lt;rw [k2] at q2;rw [k3] at q3;have HB:=Oi B1;have hHA:=Oi HA1;clear B1 K1 B0 K0 hb1 HA1 HT HA;go_wp2_with fail;have b2:=cd w1 (.cells #[.int .i64 U,.int .i64 R] 2) (.cells #[.slice (some ⟨w1.heap.size,0,none⟩) 2 2,.slice a2 x2.length c2,.slice a3 x3.length c3] 24);obtain ⟨e1,e2⟩:=zx w1 [.int .i64 U,.int .i64 R] [.slice (some ⟨w1.heap.size,0,none⟩) 2 2,.slice a2 x2.length c2,.slice a3 x3.length c3] 2 24;have hA2:=hHA.out.to b2;refine (jW _ (HT1.out.to b2) _ _ [[U,R],x2,x3] (NG e2 e1 hA2.1 hA2.2) (by simp) HOK.out).mono ?_
   rintro e w2 ⟨rfl,hb2⟩;have hB:=aa HB.out (aa b2 hb2);clear b2 e1 e2 hA2 hb2;go_wp2_with fail
   go_ret2
   rw [HF.out];exact ⟨rfl,hB⟩
theorem AY (w:World) (b o:Nat) (U R:Int) (a2:Option Addr) (c2:Nat) (x2:List Int) (a3:Option Addr) (c3:Nat) (x3:List Int)
 (d0:w.cell? ⟨b,o,none⟩=some (.int .i64 U)) (d1:w.cell? ⟨b,o+1,none⟩=some (.int .i64 R)) (d2:w.cell? ⟨b,o+2,none⟩=some (.slice a2 x2.length c2)) (d3:w.cell? ⟨b,o+3,none⟩=some (.slice a3 x3.length c3))
 (h:RdCrowd w w.heap.size a2 x2 a3 x3) (ok:∀ x∈[[U,R],x2,x3],bD x=true) :
 Calls Tryz.prog 64 #[.pointer (some ⟨b,o,none⟩)] w fun e w'=>e=.returned (.string (bs (bt [[U,R],x2,x3])))∧Below w.heap.size w w':=by
 have hbk:=World.block_lt_of_cell? w _ d0;have HS:Hid (∀ w',Below w.heap.size w w'→(w'.cell? ⟨b,o,none⟩=some (.int .i64 U)∧w'.cell? ⟨b,o+1,none⟩=some (.int .i64 R)∧w'.cell? ⟨b,o+2,none⟩=some (.slice a2 x2.length c2)∧w'.cell? ⟨b,o+3,none⟩=some (.slice a3 x3.length c3))):=fun w' hb =>
  ⟨(hb.cell (p:=⟨b,o,none⟩) hbk).trans d0,(hb.cell (p:=⟨b,o+1,none⟩) hbk).trans d1,(hb.cell (p:=⟨b,o+2,none⟩) hbk).trans d2,(hb.cell (p:=⟨b,o+3,none⟩) hbk).trans d3⟩
 have o0:=ok [U,R] (by simp)
 have o1:=ok x2 (by simp)
 have o2:=ok x3 (by simp)
 have LU:Hid (Calls Tryz.prog 96 #[.slice (some ⟨w.heap.size,0,none⟩) 2 2] (w.alloc (.cells #[.int .i64 U,.int .i64 R] 2)).drew _):=fu (w.alloc (.cells #[.int .i64 U,.int .i64 R] 2)).drew (some ⟨w.heap.size,0,none⟩) 2 [U,R] (fD (show Blk (w.alloc (.cells #[.int .i64 U,.int .i64 R] 2)).drew _ _ _ from Blk.new w [.int .i64 U,.int .i64 R] 2)) (by simp) (et o0).1
 have HD:Hid (Below w.heap.size w w.drew):=aq (Below.refl _ _);have HE:Hid (Below w.heap.size w (w.alloc (.cells #[.int .i64 U,.int .i64 R] 2)).drew):=aq (ai _ _);have LW:=Oi (fun (w':World) (hb:Below w.heap.size w w')=>fu w' a2 c2 x2 (h.1.to hb) (by have:=(et o1).2;omega) (et o1).1)
 have LC:=Oi (fun (w':World) (hb:Below w.heap.size w w')=>fu w' a3 c3 x3 (h.2.to hb) (by have:=(et o2).2;omega) (et o2).1)
 have z0:=ia o0;have z1:=ia o1;have z2:=ia o2;have HP:=Oi (ID [U,R] x2 x3);have HQ:Hid (bs (aJ [U,R]) ++ ⟨#[59]⟩ ++ bs (aJ x2) ++ ⟨#[59]⟩ ++ bs (aJ x3)=bs (bt [[U,R],x2,x3])):=by
  show _=_
  rw [HP.out,← cD,← cD,← cD,← cD];rfl
 generalize bs (aJ [U,R])=T0 at *
 generalize bs (aJ x2)=T1 at *
 generalize bs (aJ x3)=T2 at *
 have n0:¬ 9223372036854775807<T0.size+1:=by omega
 have n1:¬ 9223372036854775807<T0.size+1+T1.size:=by omega
 have n2:¬ 9223372036854775807<T0.size+1+T1.size+1:=by omega
 have n3:¬ 9223372036854775807<T0.size+1+T1.size+1+T2.size:=by omega
 clear HP o0 o1 o2 h ok
 go_enter Tryz.func64,Tryz.ntmps64;obtain ⟨d0,d1,d2,d3⟩:=HS.out _ (Below.refl _ _);go_wp2_with fail
 go_region_held3 (fun w'=>w'.cell? ⟨b,o,none⟩=some (.int .i64 U)∧w'.cell? ⟨b,o+1,none⟩=some (.int .i64 R)∧w'.cell? ⟨b,o+2,none⟩=some (.slice a2 x2.length c2)∧w'.cell? ⟨b,o+3,none⟩=some (.slice a3 x3.length c3))
  (first | with_reducible exact HS.out _ hB3 | with_reducible exact HS.out _ hB2 | with_reducible exact HS.out _ hB1 | with_reducible exact HS.out _ HD.out | with_reducible exact HS.out _ HE.out)
  (first | (go_at_call 96;with_reducible refine (LU.out).mono ?_;rintro e w4 ⟨rfl,hz1⟩;have hB1:=aa HE.out hz1) | (go_at_call 96;with_reducible refine (LW.out _ hB1).mono ?_;rintro e w5 ⟨rfl,hz2⟩;have hB2:=aa hB1 hz2) | (go_at_call 96;with_reducible refine (LC.out _ hB2).mono ?_;rintro e w6 ⟨rfl,hz3⟩;have hB3:=aa hB2 hz3))
 all_goals
  clear hz1 hz2 hz3 hB1 hB2;go_wp2_with fail;go_ret;exact ⟨by rw [← HQ.out];rfl,hB3⟩
theorem G8 {xs:List Nat} {k:Nat} {x:Nat} (hx:xs[k]? = some x):(xs.take (k+1)).map eR=(xs.take k).map eR ++ [eR x]:=by
 rw [List.take_add_one,hx];simp
theorem Rd.getF {w:World} {B:Nat} {a:Option Addr} {xs:List Nat} (h:Rd w B a (dx xs)) {k:Nat} (hk:k<xs.length) :
 ∃ b o x,a=some ⟨b,o,none⟩∧b<B∧w.cell? ⟨b,o+k,none⟩=some (.float .f32 x)∧Hid (xs[k]? = some x):=by
 obtain ⟨b,o,ha,hb,hc⟩:=h.atF hk;exact ⟨b,o,xs.getD k 0,ha,hb,hc k hk,by simp [Hid,List.getD,List.getElem?_eq_getElem hk]⟩
theorem pn (w:World) (hT:TabB w) (a:Option Addr) (c:Nat) (xs:List Nat) (h:Rd w w.heap.size a (dx xs)) (hx:∀ x∈xs,x<4294967296) (hl:xs.length≤1048576) :
 Calls Tryz.prog 19 #[.slice a xs.length c] w (kH (if xs.length≤256 then some (bJ xs) else none) w):=by
 have HT:=Oi hT;have HX:=Oi hx;have HA:=Oi h;clear h hx hT
 by_cases h256:xs.length≤256
 · rw [if_pos h256]
   have h256i:¬ (256:Int)<(xs.length:Int):=by omega
   go_enter Tryz.func19,Tryz.ntmps19;go_wp2_with fail
   go_loopw [4,13] (fun v iv wr=>∃ k:Nat,k≤xs.length∧iv=.int .i64 k∧Hid (wr.ownsRow w.heap.size 9 1 v k (bF ((xs.take k).map eR)))∧Below w.heap.size w wr) (fun _ iv _=>xs.length - (intOf iv).toNat)
   case atStart=>exact ⟨0,Nat.zero_le _,rfl,bz w _,ai _ _⟩
   case round =>
    obtain ⟨k,hk,rfl,hO,hw⟩:=hrel;have hws:=hw.size
    by_cases hlt:k<xs.length
    · obtain ⟨b,o,x,rfl,hbb,hck,hxk⟩:=(HA.out.to hw).getF hlt
      have LD:=Oi (G6 wr (HT.out.to hw) x (HX.out x (List.mem_of_getElem? hxk.out)));have HN:=Oi (G8 hxk.out);go_wp2_with fail;refine LD.out.mono ?_;rintro e w1 ⟨rfl,hb1⟩;have hO1:=aD hO.out hb1;have hw1:=hw.trans (hb1.mono hws);have hs1:=hw1.size;have hk2:k≤1099511627776:=by omega
      clear hO hb1 hck hw
      go_wp2_with (at_builtin;refine aH _ rfl _ _ 35 rfl w.heap.size 9 (.string ByteArray.empty) 16 Tryz.underlying35 lL rfl _ k _ rfl hO1 (.string (bs (eR x))) rfl rfl (by omega) hk2 hs1 ?_)
      intro v' w' ho hgr;have hw2:=ah hw1 hO1 hgr (Nat.le_refl _) hs1;have HO2:Hid (w'.ownsRow w.heap.size 9 1 v' (k+1) (bF ((xs.take (k+1)).map eR))):=by
       rw [HN.out,fZ,List.map_take];exact ho
      clear ho hgr hO1 hw1;go_wp2_with fail;go_roundw
      case rel=>exact ⟨k+1,by omega,by go_num,HO2,hw2⟩
      case measure=>first | (simp [intOf];done) | (simp [intOf];omega)
    · have:k=xs.length:=by omega
      subst this;rw [List.take_length] at hO;obtain ⟨a',c',rfl,hc',_⟩:=ba hO.out;have hrd:=ay hO.out (Nat.le_refl _);have LJ:=uZ wr a' c' (xs.map eR) hrd (by rw [List.length_map];exact hc') (by rw [List.length_map];exact hl) (by
       have:=km (m:=8) (xs:=xs.map eR) (sep:=[44]) (fun x hx=>by
        obtain ⟨y,hy,rfl⟩:=List.mem_map.1 hx;rw [lJ];exact Nat.le_refl _)
       rw [List.length_map] at this;simp at this;omega)
      rw [List.length_map] at LJ;have HE:Hid ((if xs.map eR=[] then [110,111,110,101] else Lib.join (xs.map eR) [44])=bJ xs):=by
       show _=_
       unfold bJ sM
       cases xs <;> simp
      rw [HE.out] at LJ;have LJ:=Oi LJ;clear hO hrd;go_wp2_with fail;refine LJ.out.mono ?_;rintro e w1 ⟨rfl,hb1⟩;have hw2:=hw.trans (hb1.mono hws);clear hb1 hw;go_wp2_with fail
      go_ret2
      exact ⟨hw2,rfl⟩
 · rw [if_neg h256]
   have h256i:(256:Int)<(xs.length:Int):=by omega
   go_enter Tryz.func19,Tryz.ntmps19;go_wp2_with fail
   go_ret2
   exact ⟨Below.refl _ _,rfl⟩
end Go.Proofs.YtbknhgapjjaelaaGreatDoor
