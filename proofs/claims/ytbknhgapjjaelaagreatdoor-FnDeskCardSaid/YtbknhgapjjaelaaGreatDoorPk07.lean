/-
  Part 7 of what the proof stands on: lemmas and contracts, each with its conditions ahead of the colon.
-/
import Derived.Test.YtbknhgapjjaelaaGreatDoorPk01
import Derived.Test.YtbknhgapjjaelaaGreatDoorPk02
import Derived.Test.YtbknhgapjjaelaaGreatDoorPk06
set_option maxRecDepth 10000
set_option maxHeartbeats 4000000
namespace Go.Proofs.YtbknhgapjjaelaaGreatDoor
set_option linter.unusedVariables false
set_option linter.unusedSimpArgs false
open Go.RowKit
theorem ef {U V:Int} {x2 x3:List Int} (h:bY U V x2 x3=true):∃ R C:Nat,U=(R:Int)∧V=(C:Int)∧1≤R∧R≤6∧1≤C∧C≤6∧x2.length=R * C∧x3.length=R * C∧(∀ x∈x2,-1000≤x∧x≤1000)∧∀ x∈x3,-1000≤x∧x≤1000:=by
 unfold bY at h;rw [Bool.and_eq_true,Bool.and_eq_true,Bool.and_eq_true,bH,bH,sJ,sJ,Bool.and_eq_true,Bool.and_eq_true,decide_eq_true_eq,decide_eq_true_eq,eG,eG] at h;obtain ⟨⟨⟨u1,u2⟩,v1,v2⟩,⟨a1,l1⟩,a2,l2⟩:=h;obtain ⟨R,hR⟩:∃ n:Nat,U=(n:Int):=⟨U.toNat,by omega⟩;obtain ⟨C,hC⟩:∃ n:Nat,V=(n:Int):=⟨V.toNat,by omega⟩;subst hR hC;rw [← Int.natCast_mul] at l1 l2;exact ⟨R,C,rfl,rfl,by omega,by omega,by omega,by omega,by omega,by omega,a1,a2⟩
theorem EY (w:World) (R C:Nat) (aA:Option Addr) (cA:Nat) (xA:List Int) (aB:Option Addr) (cB:Nat) (xB:List Int) (hG:bY R C xA xB=true) (hA:Rd w w.heap.size aA (ae xA)) (hB:Rd w w.heap.size aB (ae xB)) :
 Calls Tryz.prog 124 #[.agg #[.int .i64 R,.int .i64 C,.slice aA xA.length cA,.slice aB xB.length cB]] w fun e w'=>∃ a' c',e=.returned (.tuple #[.slice a' (ek R C xA (aD R C xB (C * R)) (R * C)).length c',.bool true])∧Rd w' w'.heap.size a' (ae (ek R C xA (aD R C xB (C * R)) (R * C)))∧Below w.heap.size w w':=by
 have hG':=hG;obtain ⟨R',C',e1,e2,r1,r6,c1,c6,lA,lB,-,-⟩:=ef hG';obtain rfl:R=R':=Int.ofNat.inj e1;obtain rfl:C=C':=Int.ofNat.inj e2;have hRC:R * C≤36:=Nat.le_trans (Nat.mul_le_mul r6 c6) (by decide)
 have HB1:=Na (ah w (.cells #[.int .i64 R,.int .i64 C,.slice aA xA.length cA,.slice aB xB.length cB] 26));have KG:=Na (Blk.new w [.int .i64 R,.int .i64 C,.slice aA xA.length cA,.slice aB xB.length cB] 26);have LV:=Na (fun v (hb:Below w.heap.size w v)=>dX v R C aA cA xA aB cB xB ⟨hA.to hb,hB.to hb⟩ (by omega) (by omega))
 have LP:=Na (fun v (hb:Below w.heap.size w v)=>Jw v R C aA cA xA aB cB xB (hA.to hb) (hB.to hb) lA lB r6 c6)
 rw [hG] at LV;obtain ⟨pl,hpl⟩:∃ l,l=ek R C xA (aD R C xB (C * R)) (R * C):=⟨_,rfl⟩;rw [← hpl] at LP ⊢;clear hA hB hG hG' lA lB e1 e2 hpl
 go_enter Tryz.func124,Tryz.ntmps124;go_wp2_with fail;refine (LV.out _ HB1.out).mono ?_;rintro e w1 ⟨rfl,hb⟩;have B1:=Na (aa HB1.out hb);have K1:=KG.out.same hb;obtain ⟨q0,q1,q2,q3⟩:w1.cell? ⟨w.heap.size,0,none⟩=some (.int .i64 R)∧w1.cell? ⟨w.heap.size,1,none⟩=some (.int .i64 C)∧w1.cell? ⟨w.heap.size,2,none⟩=some (.slice aA xA.length cA)∧w1.cell? ⟨w.heap.size,3,none⟩=some (.slice aB xB.length cB):=⟨K1.cell 0,K1.cell 1,K1.cell 2,K1.cell 3⟩;clear K1 hb;go_wp2_with fail;refine (LP.out _ B1.out).mono ?_;rintro e w2 ⟨a',c',rfl,hr,hb⟩;have B2:=Na (aa B1.out hb);have HR:=Na hr;clear hb hr q0 q1 q2 q3;go_wp2_with fail
 go_ret2
 exact ⟨a',c',rfl,HR.out,B2.out⟩
def J6 (P Q:Int) (lA lB:List Int) (w:World) (e:Ending) (w':World):Prop :=
 ∃ a2 c2 a3 c3,e=.returned (.tuple #[.agg #[.int .i64 P,.int .i64 Q,.slice a2 lA.length c2,.slice a3 lB.length c3],.bool true])∧Rd w' w'.heap.size a2 (ae lA)∧Rd w' w'.heap.size a3 (ae lB)∧Below w.heap.size w w'∧(∀ y,a2=some y→w.heap.size≤y.block)∧∀ y,a3=some y→w.heap.size≤y.block
theorem A2 (w:World) (R C:Nat) (aA:Option Addr) (cA:Nat) (xA:List Int) (aB:Option Addr) (cB:Nat) (xB:List Int) (hG:bY R C xA xB=true) (hA:Rd w w.heap.size aA (ae xA)) (hB:Rd w w.heap.size aB (ae xB)) :
 Calls Tryz.prog 123 #[.agg #[.int .i64 R,.int .i64 C,.slice aA xA.length cA,.slice aB xB.length cB]] w (J6 C R (aD R C xB (C * R)) (aD R C xA (C * R)) w):=by
 have hG':=hG;obtain ⟨R',C',e1,e2,r1,r6,c1,c6,lA,lB,-,-⟩:=ef hG';obtain rfl:R=R':=Int.ofNat.inj e1;obtain rfl:C=C':=Int.ofNat.inj e2;have hRC:R * C≤36:=Nat.le_trans (Nat.mul_le_mul r6 c6) (by decide)
 have LV:=Na (fun v (hb:Below w.heap.size w v)=>dX v R C aA cA xA aB cB xB ⟨hA.to hb,hB.to hb⟩ (by omega) (by omega))
 have LP:=Na (fun v (hb:Below w.heap.size w v)=>jG v R C aA cA xA aB cB xB (hA.to hb) (hB.to hb) lA lB r6 c6)
 rw [hG] at LV;generalize aD R C xB (C * R)=l2 at *
 generalize aD R C xA (C * R)=l3 at *
 obtain ⟨w0,hw0⟩:∃ X,X=(w.alloc (.cells #[.int .i64 R,.int .i64 C,.slice aA xA.length cA,.slice aB xB.length cB] 26)).alloc (.cells #[.int .i64 0,.int .i64 0,.slice none 0 0,.slice none 0 0] 26):=⟨_,rfl⟩;have B0:Hid (Below w.heap.size w w0):=by
  have:=ah w (.cells #[.int .i64 R,.int .i64 C,.slice aA xA.length cA,.slice aB xB.length cB] 26);rw [hw0];exact aa this (ah _ _)
 have K0:Hid (Blk w0 w.heap.size [.int .i64 R,.int .i64 C,.slice aA xA.length cA,.slice aB xB.length cB] 26):=by
  rw [hw0];exact (Blk.new w _ _).alloc _
 have KR0:Hid (Blk w0 (w.heap.size+1) [.int .i64 0,.int .i64 0,.slice none 0 0,.slice none 0 0] 26):=by
  have:=Blk.new (w.alloc (.cells #[.int .i64 R,.int .i64 C,.slice aA xA.length cA,.slice aB xB.length cB] 26)) [.int .i64 0,.int .i64 0,.slice none 0 0,.slice none 0 0] 26;rw [World.size_alloc] at this;rw [hw0];exact this
 have hs0:w0.heap.size=w.heap.size+2:=by rw [hw0];simp
 clear hA hB hG hG' lA lB e1 e2
 go_enter Tryz.func123,Tryz.ntmps123;obtain ⟨p0,p1,p2,p3⟩:w0.cell? ⟨w.heap.size,0,none⟩=some (.int .i64 R)∧w0.cell? ⟨w.heap.size,1,none⟩=some (.int .i64 C)∧w0.cell? ⟨w.heap.size,2,none⟩=some (.slice aA xA.length cA)∧w0.cell? ⟨w.heap.size,3,none⟩=some (.slice aB xB.length cB):=⟨K0.out.cell 0,K0.out.cell 1,K0.out.cell 2,K0.out.cell 3⟩;rw [hw0] at p0 p1 p2 p3;go_wp2_with fail;rw [← hw0];clear p0 p1 p2 p3;refine (LV.out _ B0.out).mono ?_;rintro e w1 ⟨rfl,hb⟩;have B1:=Na (aa B0.out hb);have K1:=K0.out.same hb;have KR1:=Na (KR0.out.same hb);obtain ⟨q0,q1,q2,q3⟩:w1.cell? ⟨w.heap.size,0,none⟩=some (.int .i64 R)∧w1.cell? ⟨w.heap.size,1,none⟩=some (.int .i64 C)∧w1.cell? ⟨w.heap.size,2,none⟩=some (.slice aA xA.length cA)∧w1.cell? ⟨w.heap.size,3,none⟩=some (.slice aB xB.length cB):=⟨K1.cell 0,K1.cell 1,K1.cell 2,K1.cell 3⟩;have hs1:w.heap.size+2≤w1.heap.size:=by have:=hb.size;omega
 clear K1 hb LV K0 KR0 hs0 hw0 B0;go_wp2_with fail;refine (LP.out _ B1.out).mono ?_;rintro e w2 ⟨a2,c2,a3,c3,rfl,r2,r3,hb,b2,b3⟩;have B2:=Na (aa B1.out hb);have KR2:=Na (KR1.out.same hb);have RR2:=Na r2;have RR3:=Na r3;have HB2:=Na b2;have HB3:=Na b3;have hs2:w.heap.size+2≤w2.heap.size:=by have:=hb.size;omega
 clear q0 q1 q2 q3 r2 r3 b2 b3 hb LP KR1 B1;have f0:=KR2.out.free 0;have f1:=KR2.out.free 1;have f2:=KR2.out.free 2;have f3:=KR2.out.free 3;have r0:=KR2.out.cell 0;have r1:=KR2.out.cell 1;have r2:=KR2.out.cell 2;have r3:=KR2.out.cell 3;simp only [List.getElem?_cons_zero,List.getElem?_cons_succ] at r0 r1 r2 r3;go_wp2_with fail;obtain ⟨wz,hwz⟩:∃ X,X=(((w2.setCell ⟨w.heap.size+1,0,none⟩ (.int .i64 C)).setCell ⟨w.heap.size+1,1,none⟩ (.int .i64 R)).setCell ⟨w.heap.size+1,2,none⟩ (.slice a2 l2.length c2)).setCell ⟨w.heap.size+1,3,none⟩ (.slice a3 l3.length c3):=⟨_,rfl⟩;have KZ:Blk wz (w.heap.size+1) [.int .i64 C,.int .i64 R,.slice a2 l2.length c2,.slice a3 l3.length c3] 26:=by rw [hwz];exact (((KR2.out.set 0 (.int .i64 C)).set 1 (.int .i64 R)).set 2 (.slice a2 l2.length c2)).set 3 (.slice a3 l3.length c3)
 have TZ:Touch w2 wz (w.heap.size+1) (w.heap.size+1+1):=by rw [hwz];exact (((ar w2 (w.heap.size+1) 0 (.int .i64 C)).trans (ar _ (w.heap.size+1) 1 (.int .i64 R))).trans (ar _ (w.heap.size+1) 2 (.slice a2 l2.length c2))).trans (ar _ (w.heap.size+1) 3 (.slice a3 l3.length c3))
 have BZ:Below w.heap.size w wz:=aE B2.out TZ (by omega) (by omega)
 have R2:=gF RR2.out TZ (fun b h=>by have:=HB2.out b h;omega)
 have R3:=gF RR3.out TZ (fun b h=>by have:=HB3.out b h;omega)
 rw [← hwz];clear hwz r0 r1 r2 r3 f0 f1 f2 f3;have r0:=KZ.cell 0;have r1:=KZ.cell 1;have r2:=KZ.cell 2;have r3:=KZ.cell 3;simp only [List.getElem?_cons_zero,List.getElem?_cons_succ] at r0 r1 r2 r3;refine bodyPost_ret (v:=.tuple #[.agg #[.int .i64 C,.int .i64 R,.slice a2 l2.length c2,.slice a3 l3.length c3],.bool true]) (by simp [results,Tryz.results123,go_sem,r0,r1,r2,r3]) rfl ?_
 exact ⟨a2,c2,a3,c3,rfl,R2,R3,BZ,fun y h=>by have:=HB2.out y h;omega,fun y h=>by have:=HB3.out y h;omega⟩
def ir (T:Nat) (xs:List Int) (i t:Nat):Int:=xs.getD (i * T+t) 0
def fF (T:Nat) (xs ow:List Int) (i:Nat) (p:Int):Nat→Int
 | 0=>0
 | n+1=>if ow.getD n 0=p then fF T xs ow i p n+ir T xs i n else fF T xs ow i p n
def fD (T:Nat) (xs ow:List Int) (i:Nat) (p:Int):Int:=fF T xs ow i p T
theorem mh {T:Nat} {xs:List Int} (h:∀ x∈xs,0≤x∧x≤1000) (i t:Nat):0≤ir T xs i t∧ir T xs i t≤1000:=by
 unfold ir
 by_cases hj:i * T+t<xs.length
 · rw [List.getD,List.getElem?_eq_getElem hj];exact h _ (List.getElem_mem hj)
 · rw [List.getD,List.getElem?_eq_none (by omega)];exact ⟨by decide,by decide⟩
theorem lz {T:Nat} {xs ow:List Int} (h:∀ x∈xs,0≤x∧x≤1000) (i:Nat) (p:Int):∀ n:Nat,0≤fF T xs ow i p n∧fF T xs ow i p n≤1000 * (n:Int)
 | 0=>by simp [fF]
 | n+1=>by
   have ih:=lz (T:=T) (ow:=ow) h i p n;have hb:=mh h i n (T:=T);rw [fF]
   split <;> omega
def fO (T:Nat) (xs ow:List Int) (i j:Nat):Int:=fD T xs ow i (j:Int) - fD T xs ow i (i:Int)
def dL (P T:Nat) (xs ow:List Int) (j:Nat):Int:=fm (fun i=>decide (0<fO T xs ow i j)) P
theorem zh (P T:Nat) (xs ow:List Int) (j:Nat):(∃ k:Nat,k<P∧dL P T xs ow j=k∧0<fO T xs ow k j)∨((∀ i,i<P→¬ 0<fO T xs ow i j)∧dL P T xs ow j = -1):=by
 rcases mO (fun i=>decide (0<fO T xs ow i j)) P with ⟨k,hk,hp,_,e⟩ | ⟨h,e⟩
 · exact .inl ⟨k,hk,e,of_decide_eq_true hp⟩
 · exact .inr ⟨fun i hi=>of_decide_eq_false (h i hi),e⟩
def jy (T:Nat) (xs ow:List Int):Nat→Int
 | 0=>0
 | n+1=>jy T xs ow n+fD T xs ow n (n:Int)
theorem CZ {T:Nat} {xs ow:List Int} (h:∀ x∈xs,0≤x∧x≤1000):∀ n:Nat,0≤jy T xs ow n∧jy T xs ow n≤1000 * (T:Int) * (n:Int)
 | 0=>by simp [jy]
 | n+1=>by
   have ih:=CZ (T:=T) (ow:=ow) h n;have hb:=lz h n (n:Int) T (T:=T) (ow:=ow);have e:1000 * (T:Int) * ((n+1:Nat):Int)=1000 * (T:Int) * (n:Int)+1000 * (T:Int):=by rw [Int.natCast_add,Int.mul_add];simp
   rw [jy,e];unfold fD;omega
structure Ring (P T:Nat) (xs ow:List Int) (r:List Nat):Prop where
 ne:r≠[]
 lt:∀ i∈r,i<P
 nd:r.Nodup
 en:∀ k,k<r.length→0<fO T xs ow (r.getD k 0) (r.getD ((k+r.length - 1) % r.length) 0)
def fU (P:Nat) (r:List Nat):Nat→List Int
 | 0=>eD P
 | k+1=>(fU P r k).set (r.getD ((k+r.length - 1) % r.length) 0) ((r.getD k 0:Nat):Int)
theorem sR (P:Nat) (r:List Nat):∀ k,(fU P r k).length=P
 | 0=>by rw [fU,bE]
 | k+1=>by rw [fU,List.length_set,sR P r k]
def ed (ow tz:List Int):List Int:=ow.map fun p=>if 0≤p then tz.getD p.toNat 0 else p
theorem pS {j m:Nat} (h:j<m):(j+m - 1) % m=if j=0 then m - 1 else j - 1:=by
 by_cases h0:j=0
 · subst h0
   rw [if_pos rfl,Nat.zero_add,Nat.mod_eq_of_lt (by omega)]
 · rw [if_neg h0,show j+m - 1=(j - 1)+m from by omega,Nat.add_mod_right,Nat.mod_eq_of_lt (by omega)]
theorem nx {j m:Nat} (h:j<m):(j+m - 1) % m<m:=Nat.mod_lt _ (by omega)
theorem JY {i j m:Nat} (hi:i<m) (hj:j<m) (h:(i+m - 1) % m=(j+m - 1) % m):i=j:=by
 rw [pS hi,pS hj] at h
 split at h <;> split at h <;> omega
theorem FK {xs:List Int} {j:Nat} {x:Int} (h:j<xs.length):(xs.set j x).getD j 0=x:=by simp [List.getD,h]
theorem xo {xs:List Int} {i j:Nat} {x:Int} (h:i≠j):(xs.set i x).getD j 0=xs.getD j 0:=by
 rw [List.getD,List.getD,List.getElem?_set_ne h]
theorem FZ {r:List Nat} (h:r.Nodup) {i j:Nat} (hi:i<r.length) (hj:j<r.length) (he:r.getD i 0=r.getD j 0):i=j:=by
 rw [List.getD,List.getD,List.getElem?_eq_getElem hi,List.getElem?_eq_getElem hj] at he;simp only [Option.getD_some] at he;have hp:=List.pairwise_iff_getElem.1 h
 rcases Nat.lt_or_ge i j with h1 | h1
 · exact absurd he (hp i j hi hj h1)
 · rcases Nat.lt_or_ge j i with h2 | h2
   · exact absurd he.symm (hp j i hj hi h2)
   · omega
theorem kh {r:List Nat} {i:Nat} (h:i<r.length):r.getD i 0∈r:=by
 rw [List.getD,List.getElem?_eq_getElem h];exact List.getElem_mem _
theorem zX {P:Nat} {r:List Nat} (hlt:∀ i∈r,i<P) (hnd:r.Nodup):∀ k,k≤r.length →
 (∀ j,j<k→(fU P r k).getD (r.getD ((j+r.length - 1) % r.length) 0) 0=((r.getD j 0:Nat):Int))∧∀ p,p<P→(∀ j,j<k→r.getD ((j+r.length - 1) % r.length) 0≠p)→(fU P r k).getD p 0=(p:Int)
 | 0,_=>⟨fun j hj=>by omega,fun p hp _=>by rw [fU];exact bZ (nM hp)⟩
 | k+1,hk=>by
   obtain ⟨i1,i2⟩:=zX hlt hnd k (by omega)
   have hq:r.getD ((k+r.length - 1) % r.length) 0<(fU P r k).length:=by
    rw [sR];exact hlt _ (kh (nx (by omega)))
   rw [fU];refine ⟨fun j hj=>?_,fun p hp hne=>?_⟩
   · by_cases hjk:j=k
     · subst hjk
       exact FK hq
     · have hne:r.getD ((k+r.length - 1) % r.length) 0≠r.getD ((j+r.length - 1) % r.length) 0:=fun he=>by
         have:=JY (by omega) (by omega) (FZ hnd (nx (by omega)) (nx (by omega)) he)
         omega
       have:=i1 j (by omega)
       rw [← this];exact xo hne
   · have hne2:=hne k (by omega)
     have:=i2 p hp (fun j hj=>hne j (by omega))
     rw [← this];exact xo hne2
theorem Gf {P T:Nat} {xs ow:List Int} {r:List Nat} (h:Ring P T xs ow r) {i:Nat} (hi:i<P) :
 ∃ q,q<P∧(∀ p,p<P→((fU P r r.length).getD p 0=(i:Int) ↔ p=q))∧(i∈r→0<fO T xs ow i q)∧(i∉r→q=i):=by
 obtain ⟨t1,t2⟩:=zX h.lt h.nd r.length (Nat.le_refl _);have inr:∀ p∈r,∃ j,j<r.length∧r.getD ((j+r.length - 1) % r.length) 0=p:=fun p hp=>by
  obtain ⟨q,hq,he⟩:=List.getElem_of_mem hp
  by_cases hl:q+1=r.length
  · refine ⟨0,by omega,?_⟩
    rw [pS (by omega),if_pos rfl,show r.length - 1=q from by omega,List.getD,List.getElem?_eq_getElem hq,Option.getD_some,he]
  · refine ⟨q+1,by omega,?_⟩
    rw [pS (by omega),if_neg (by omega),Nat.add_sub_cancel,List.getD,List.getElem?_eq_getElem hq,Option.getD_some,he]
 have to_out:∀ p,p<P→p∉r→(fU P r r.length).getD p 0=(p:Int):=fun p hp hn=>t2 p hp fun j hj he=>hn (by rw [← he];exact kh (nx hj))
 by_cases hir:i∈r
 · obtain ⟨k,hk,he⟩:=List.getElem_of_mem hir
   have hgk:r.getD k 0=i:=by rw [List.getD,List.getElem?_eq_getElem hk,Option.getD_some,he]
   refine ⟨r.getD ((k+r.length - 1) % r.length) 0,h.lt _ (kh (nx hk)),fun p hp=>⟨fun hto=>?_,fun hp2=>?_⟩,fun _=>?_,fun hn=>absurd hir hn⟩
   · by_cases hpr:p∈r
     · obtain ⟨j,hj,hjp⟩:=inr p hpr
       have h1:=t1 j hj;rw [hjp,hto] at h1;have h2:r.getD j 0=r.getD k 0:=by rw [hgk];omega
       rw [← hjp,FZ h.nd hj hk h2]
     · rw [to_out p hp hpr] at hto
       have:p=i:=by omega
       exact absurd (this ▸ hir) hpr
   · rw [hp2,t1 k hk,hgk]
   · have:=h.en k hk
     rw [hgk] at this;exact this
 · refine ⟨i,hi,fun p hp=>⟨fun hto=>?_,fun hp2=>?_⟩,fun hr=>absurd hr hir,fun _=>rfl⟩
   · by_cases hpr:p∈r
     · obtain ⟨j,hj,hjp⟩:=inr p hpr
       have h1:=t1 j hj;rw [hjp,hto] at h1;have h2:r.getD j 0=i:=by omega
       exact absurd (by rw [← h2];exact kh hj) hir
     · rw [to_out p hp hpr] at hto
       omega
   · rw [hp2];exact to_out i hi hir
theorem uy {P T:Nat} {xs ow tz:List Int} {i q:Nat} (hi:i<P) (hq:∀ p,p<P→(tz.getD p 0=(i:Int) ↔ p=q)) (hqP:q<P) (how:∀ p∈ow,-1≤p∧p<(P:Int)) (hl:ow.length=T):∀ n,n≤T→fF T xs (ed ow tz) i (i:Int) n=fF T xs ow i (q:Int) n
 | 0,_=>rfl
 | n+1,hn=>by
   have ih:=uy (xs:=xs) hi hq hqP how hl n (by omega)
   have hg:ow[n]? = some (ow.getD n 0):=rh (by omega)
   have hb:=how _ (List.mem_of_getElem? hg);have hm:(ed ow tz).getD n 0=if 0≤ow.getD n 0 then tz.getD (ow.getD n 0).toNat 0 else ow.getD n 0:=by
    unfold ed;rw [List.getD,List.getElem?_map,hg];rfl
   have hiff:(ed ow tz).getD n 0=(i:Int) ↔ ow.getD n 0=(q:Int):=by
    rw [hm]
    by_cases h0:0≤ow.getD n 0
    · rw [if_pos h0,hq _ (by omega)]
      omega
    · rw [if_neg h0]
      omega
   rw [fF,fF,ih]
   by_cases hc:ow.getD n 0=(q:Int)
   · rw [if_pos (hiff.2 hc),if_pos hc]
   · rw [if_neg (fun h=>hc (hiff.1 h)),if_neg hc]
theorem uL {P T:Nat} {xs ow:List Int} {r:List Nat} (h:Ring P T xs ow r) (how:∀ p∈ow,-1≤p∧p<(P:Int)) (hl:ow.length=T):∀ n,n≤P→jy T xs ow n≤jy T xs (ed ow (fU P r r.length)) n∧((∃ i∈r,i<n)→jy T xs ow n<jy T xs (ed ow (fU P r r.length)) n)
 | 0,_=>⟨Int.le_refl _,fun ⟨i,_,hi⟩=>by omega⟩
 | n+1,hn=>by
   obtain ⟨i1,i2⟩:=uL h how hl n (by omega)
   obtain ⟨q,hq,q1,q2,q3⟩:=Gf h (show n<P by omega)
   have hp:=uy (xs:=xs) (show n<P by omega) q1 hq how hl T (Nat.le_refl _)
   have hp2:fD T xs (ed ow (fU P r r.length)) n (n:Int)=fD T xs ow n (q:Int):=hp;rw [jy,jy,hp2]
   by_cases hr:n∈r
   · have:=q2 hr
     unfold fO at this;exact ⟨by omega,fun _=>by omega⟩
   · rw [q3 hr]
     refine ⟨by omega,fun ⟨i,h1,h2⟩=>?_⟩
     have:=i2 ⟨i,h1,by
      rcases Nat.lt_or_ge i n with h3 | h3
      · exact h3
      · exact absurd (by rw [show n=i from by omega];exact h1) hr⟩
     omega
theorem DK {P T:Nat} {xs ow:List Int} {r:List Nat} (h:Ring P T xs ow r) (how:∀ p∈ow,-1≤p∧p<(P:Int)) (hl:ow.length=T):jy T xs ow P<jy T xs (ed ow (fU P r r.length)) P:=by
 refine (uL h how hl P (Nat.le_refl _)).2 ?_
 obtain ⟨i,hi⟩:=List.exists_mem_of_ne_nil _ h.ne;exact ⟨i,hi,h.lt i hi⟩
theorem GX {P:Nat} {r:List Nat} (hlt:∀ i∈r,i<P):∀ k,k≤r.length→∀ p∈fU P r k,0≤p∧p<(P:Int)
 | 0,_,p,hp=>by
   rw [fU] at hp;obtain ⟨j,hj,rfl⟩:=List.mem_map.1 hp;have:=List.mem_range.1 hj;omega
 | k+1,hk,p,hp=>by
   rw [fU] at hp
   rcases List.mem_or_eq_of_mem_set hp with h | rfl
   · exact GX hlt k (by omega) p h
   · have:=hlt _ (kh (show k<r.length by omega))
     omega
theorem Jf {P:Nat} {ow tz:List Int} (how:∀ p∈ow,-1≤p∧p<(P:Int)) (hto:∀ p∈tz,0≤p∧p<(P:Int)) (hl:tz.length=P):∀ p∈ed ow tz,-1≤p∧p<(P:Int):=by
 intro p hp;unfold ed at hp;obtain ⟨q,hq,rfl⟩:=List.mem_map.1 hp;have hb:=how q hq
 split
 · have:q.toNat<tz.length:=by omega
   rw [List.getD,List.getElem?_eq_getElem this,Option.getD_some];have:=hto _ (List.getElem_mem this);omega
 · exact hb
structure Chain (P T:Nat) (xs ow:List Int) (s:List Nat):Prop where
 ne:s≠[]
 lt:∀ i∈s,i<P
 nd:s.Nodup
 en:∀ k,k+1<s.length→0<fO T xs ow (s.getD (k+1) 0) (s.getD k 0)
theorem Iv {P:Nat} {s:List Nat} (hlt:∀ i∈s,i<P) (hnd:s.Nodup):s.length≤P:=by
 have h:=List.Nodup.length_le_of_subset (l₁:=s) (l₂:=List.range P) hnd (fun i hi=>List.mem_range.2 (hlt i hi))
 rwa [List.length_range] at h
theorem Chain.more {P T:Nat} {xs ow:List Int} {s:List Nat} (h:Chain P T xs ow s) {n:Nat} (hn:n<P) (hns:n∉s) (he:0<fO T xs ow n (s.getD (s.length - 1) 0)):Chain P T xs ow (s ++ [n]):=by
 have hl:0<s.length:=List.length_pos_iff.2 h.ne;refine ⟨by simp,fun i hi=>?_,List.nodup_append.2 ⟨h.nd,by simp,fun a ha b hb=>by
  rw [List.mem_singleton] at hb;subst hb;rintro rfl;exact hns ha⟩,fun k hk=>?_⟩
 · rcases List.mem_append.1 hi with h1 | h1
   · exact h.lt i h1
   · rw [List.mem_singleton] at h1;omega
 · rw [List.length_append,List.length_singleton] at hk
   by_cases hkl:k+1<s.length
   · have:=h.en k hkl
     rw [List.getD,List.getD,List.getElem?_append_left hkl,List.getElem?_append_left (by omega)]
     exact this
   · have e1:(s ++ [n]).getD (k+1) 0=n:=by
       rw [List.getD,List.getElem?_append_right (by omega),show k+1 - s.length=0 from by omega];rfl
     have e2:(s ++ [n]).getD k 0=s.getD (s.length - 1) 0:=by
      rw [List.getD,List.getD,List.getElem?_append_left (by omega),show k=s.length - 1 from by omega]
     rw [e1,e2];exact he
theorem Chain.ring {P T:Nat} {xs ow:List Int} {s:List Nat} (h:Chain P T xs ow s) {a:Nat} (ha:a<s.length) (he:0<fO T xs ow (s.getD a 0) (s.getD (s.length - 1) 0)):Ring P T xs ow (s.drop a):=by
 have hdl:(s.drop a).length=s.length - a:=List.length_drop;have hg:∀ k,(s.drop a).getD k 0=s.getD (a+k) 0:=fun k=>by rw [List.getD,List.getD,List.getElem?_drop]
 refine ⟨fun hn=>by rw [hn] at hdl;simp at hdl;omega,fun i hi=>h.lt i (List.mem_of_mem_drop hi),h.nd.sublist (List.drop_sublist a s),fun k hk=>?_⟩
 rw [hdl] at hk ⊢;rw [hg,hg,pS hk]
 by_cases h0:k=0
 · subst h0
   rw [if_pos rfl,Nat.add_zero,show a+(s.length - a - 1)=s.length - 1 from by omega]
   exact he
 · rw [if_neg h0]
   have:=h.en (a+(k - 1)) (by omega)
   rw [show a+(k - 1)+1=a+k from by omega] at this
   exact this
inductive RingR (P T:Nat) (xs ow:List Int):List Nat→List Nat→Prop
 | here (s:List Nat) (a:Nat):s[a]? = some (dL P T xs ow (s.getD (s.length - 1) 0)).toNat→(∀ b,b<a→s[b]?≠some (dL P T xs ow (s.getD (s.length - 1) 0)).toNat)→RingR P T xs ow s (s.drop a)
 | on (s r:List Nat):(dL P T xs ow (s.getD (s.length - 1) 0)).toNat∉s→RingR P T xs ow (s ++ [(dL P T xs ow (s.getD (s.length - 1) 0)).toNat]) r→RingR P T xs ow s r
theorem RingR.same {P T:Nat} {xs ow:List Int} {s r:List Nat} (h:RingR P T xs ow s r):∀ {r'},RingR P T xs ow s r'→r=r':=by
 induction h with
 | here s a h1 h2 =>
   intro r' h'
   cases h' with
   | here _ b g1 g2 =>
     rcases Nat.lt_or_ge a b with h3 | h3
     · exact absurd h1 (g2 a h3)
     · rcases Nat.lt_or_ge b a with h4 | h4
       · exact absurd g1 (h2 b h4)
       · rw [show a=b from by omega]
   | on _ _ g1 _=>exact absurd (List.mem_of_getElem? h1) g1
 | on s r h1 _ ih =>
   intro r' h'
   cases h' with
   | here _ b g1 _=>exact absurd (List.mem_of_getElem? g1) h1
   | on _ _ _ g2=>exact ih g2
inductive EnvyR (P T:Nat) (xs:List Int):Nat→List Int→List Int→Prop
 | done (ow):EnvyR P T xs T ow ow
 | give (t:Nat) (ow res:List Int) (j:Nat):t<T→fm (fun j=>decide (dL P T xs ow j<0)) P=(j:Int)→EnvyR P T xs (t+1) (ow.set t (j:Int)) res→EnvyR P T xs t ow res
 | move (t:Nat) (ow res:List Int) (r:List Nat):t<T→fm (fun j=>decide (dL P T xs ow j<0)) P = -1→RingR P T xs ow [0] r→EnvyR P T xs t (ed ow (fU P r r.length)) res→EnvyR P T xs t ow res
theorem EnvyR.same {P T:Nat} {xs:List Int} {t:Nat} {ow res:List Int} (h:EnvyR P T xs t ow res):∀ {res'},EnvyR P T xs t ow res'→res=res':=by
 induction h with
 | done ow =>
   intro res' h'
   cases h' with
   | done _=>rfl
   | give _ _ _ _ h1 _ _=>omega
   | move _ _ _ _ h1 _ _ _=>omega
 | give t ow res j h1 h2 _ ih =>
   intro res' h'
   cases h' with
   | done _=>omega
   | give _ _ _ j' g1 g2 g3 =>
     rw [h2] at g2;have:j=j':=by omega
     subst this;exact ih g3
   | move _ _ _ _ g1 g2 _ _ =>
     rw [h2] at g2;omega
 | move t ow res r h1 h2 h3 _ ih =>
   intro res' h'
   cases h' with
   | done _=>omega
   | give _ _ _ j' g1 g2 _ =>
     rw [h2] at g2;omega
   | move _ _ _ r' g1 g2 g3 g4 =>
     have:=h3.same g3;subst this;exact ih g4
theorem pG (w:World) (P:Int) (T i t:Nat) (aV:Option Addr) (cV:Nat) (xV:List Int) (h:Rd w w.heap.size aV (ae xV)) (hi:i * T+t<xV.length) (hl:xV.length≤1048576) :
 Calls Tryz.prog 196 #[.agg #[.int .i64 P,.int .i64 T,.slice aV xV.length cV],.int .i64 i,.int .i64 t] w fun e w'=>e=.returned (.int .i64 (ir T xV i t))∧Below w.heap.size w w':=by
 obtain ⟨J,hJ,hJl,hJe,m0,m1⟩:=jY hi hl;obtain ⟨b,o,y,rfl,hbb,hck,hy⟩:=h.get (k:=J) hJl;have HF:Hid (ir T xV i t=y):=by
  unfold ir;rw [Hid,← hJe];exact bZ hy.out
 have hbb':b≠w.heap.size:=by omega
 clear h hy hi hJe
 go_enter Tryz.func196,Tryz.ntmps196;go_wp2_with fail;go_ret;exact ⟨ce HF.out.symm,ah _ _⟩
theorem ut (w:World) (P T i:Nat) (p:Int) (aV:Option Addr) (cV:Nat) (xV:List Int) (aO:Option Addr) (cO:Nat) (ow:List Int) (hV:Rd w w.heap.size aV (ae xV)) (hO:Rd w w.heap.size aO (ae ow)) (lV:xV.length=P * T) (lO:ow.length=T) (hb:∀ x∈xV,0≤x∧x≤1000) (hP:P≤6) (hT:T≤8) (hi:i<P) :
 Calls Tryz.prog 249 #[.agg #[.int .i64 P,.int .i64 T,.slice aV xV.length cV],.int .i64 i,.int .i64 p,.slice aO ow.length cO] w fun e w'=>e=.returned (.int .i64 (fD T xV ow i p))∧Below w.heap.size w w':=by
 have hPT:P * T≤48:=Nat.le_trans (Nat.mul_le_mul hP hT) (by decide)
 have KG:=Na (Blk.new w [.int .i64 P,.int .i64 T,.slice aV xV.length cV] 28);have B1:=Na (ah w (.cells #[.int .i64 P,.int .i64 T,.slice aV xV.length cV] 28));have LO:=Na (fun v (hb:Below w.heap.size w v) (t:Nat) (ht:t<T)=>pG v P T i t aV cV xV (hV.to hb) (by rw [lV];exact dE hi ht) (by omega))
 have RO:=Na (fun v (hb:Below w.heap.size w v)=>hO.to hb)
 have HS:Hid (∀ n,fF T xV ow i p (n+1)=if ow.getD n 0=p then fF T xV ow i p n+ir T xV i n else fF T xV ow i p n):=fun n=>rfl
 have HB:=Na (fun n=>lz (T:=T) (ow:=ow) hb i p n)
 have HV:=Na (fun t=>mh (T:=T) hb i t)
 have HE:Hid (fD T xV ow i p=fF T xV ow i p ow.length):=by rw [lO];rfl
 have h0:Hid (fF T xV ow i p 0=0):=rfl;have HLO:=Na lO;have hn:ow.length≤8:=by omega
 clear hV hO lV hb lO hi
 go_enter Tryz.func249,Tryz.ntmps249;go_wp2_with fail
 go_loopw [14,9] (fun tv sv wr=>∃ t:Nat,t≤ow.length∧tv=.int .i64 t∧sv=.int .i64 (fF T xV ow i p t)∧Hid (Below (w.heap.size+1) (w.alloc (.cells #[.int .i64 P,.int .i64 T,.slice aV xV.length cV] 28)) wr)) (fun tv _ _=>ow.length - (intOf tv).toNat)
 case atStart=>exact ⟨0,Nat.zero_le _,rfl,by rw [h0.out],Below.refl _ _⟩
 case round =>
  clear h0;obtain ⟨t,ht,rfl,rfl,hw⟩:=hrel;have t0:(0:Int)≤(t:Int):=Int.natCast_nonneg _
  by_cases hlt:t<ow.length
  · have hti:(t:Int)<(ow.length:Int):=by omega
    have Bw:=Na (B1.out.trans (hw.out.mono (by omega)))
    obtain ⟨b,o,x,rfl,hbb,hck,hx⟩:=(RO.out wr Bw.out).get hlt;have K:=KG.out.below hw.out (by omega)
    have q0:wr.cell? ⟨w.heap.size,0,none⟩=some (.int .i64 P):=K.cell 0;have q1:wr.cell? ⟨w.heap.size,1,none⟩=some (.int .i64 T):=K.cell 1;have q2:wr.cell? ⟨w.heap.size,2,none⟩=some (.slice aV xV.length cV):=K.cell 2;have hs:=HS.out t;have hgx:ow.getD t 0=x:=bZ hx.out;rw [hgx] at hs;have HSS:=Na hs;obtain ⟨s0,s1⟩:=HB.out t;obtain ⟨v0,v1⟩:=HV.out t;have hsz:w.heap.size+1≤wr.heap.size:=by have:=hw.out.size;simp at this;omega
    have LO1:=Na (LO.out wr Bw.out t (by have:=HLO.out;omega))
    obtain ⟨s,hs'⟩:∃ s,s=fF T xV ow i p t:=⟨_,rfl⟩;obtain ⟨v,hv'⟩:∃ v,v=ir T xV i t:=⟨_,rfl⟩;rw [← hs'] at HSS s0 s1 ⊢;rw [← hv'] at HSS LO1 v0 v1;clear hs hgx hx hs' hv' K
    by_cases hxp:x=p
    · have hs2:Hid (fF T xV ow i p (t+1)=s+v):=by rw [Hid,HSS.out,if_pos hxp]
      clear HSS;have hxb:(x == p)=true:=by rw [beq_iff_eq];exact hxp
      clear hxp;go_wp2_with fail;refine LO1.out.mono ?_;rintro e w2 ⟨rfl,hb2⟩;have HB2:=Na (hw.out.trans (hb2.mono hsz));clear hb2 q0 q1 q2 LO1;go_wp2_with fail;go_roundw
      case rel=>exact ⟨t+1,by omega,by go_num,by rw [hs2.out],HB2⟩
      case measure=>simp [intOf];omega
    · have hs2:Hid (fF T xV ow i p (t+1)=s):=by rw [Hid,HSS.out,if_neg hxp]
      clear HSS q0 q1 q2 LO1;have hxb:(x == p)=false:=by rw [beq_eq_false_iff_ne];exact hxp
      clear hxp;go_wp2_with fail;go_roundw
      case rel=>exact ⟨t+1,by omega,by go_num,by rw [hs2.out],hw⟩
      case measure=>simp [intOf];omega
  · obtain rfl:t=ow.length:=by omega
    have BZ:=Na (B1.out.trans (hw.out.mono (by omega)))
    go_wp2_with fail;go_ret;exact ⟨ce HE.out.symm,BZ.out⟩
theorem zq (w:World) (P T i j:Nat) (aV:Option Addr) (cV:Nat) (xV:List Int) (aO:Option Addr) (cO:Nat) (ow:List Int) (hV:Rd w w.heap.size aV (ae xV)) (hO:Rd w w.heap.size aO (ae ow)) (lV:xV.length=P * T) (lO:ow.length=T) (hb:∀ x∈xV,0≤x∧x≤1000) (hP:P≤6) (hT:T≤8) (hi:i<P) :
 Calls Tryz.prog 221 #[.agg #[.int .i64 P,.int .i64 T,.slice aV xV.length cV],.int .i64 i,.int .i64 j,.slice aO ow.length cO] w fun e w'=>e=.returned (.int .i64 (fO T xV ow i j))∧Below w.heap.size w w':=by
 have KG:=Blk.new w [.int .i64 P,.int .i64 T,.slice aV xV.length cV] 28;have B1:=Na (ah w (.cells #[.int .i64 P,.int .i64 T,.slice aV xV.length cV] 28));have L1:=Na (fun v (hbl:Below w.heap.size w v)=>ut v P T i (j:Int) aV cV xV aO cO ow (hV.to hbl) (hO.to hbl) lV lO hb hP hT hi)
 have L2:=Na (fun v (hbl:Below w.heap.size w v)=>ut v P T i (i:Int) aV cV xV aO cO ow (hV.to hbl) (hO.to hbl) lV lO hb hP hT hi)
 have HE:Hid (fO T xV ow i j=fD T xV ow i (j:Int) - fD T xV ow i (i:Int)):=rfl;have b1:=lz (T:=T) (ow:=ow) hb i (j:Int) T;have b2:=lz (T:=T) (ow:=ow) hb i (i:Int) T;have b1':0≤fD T xV ow i (j:Int)∧fD T xV ow i (j:Int)≤1000 * (T:Int):=b1;have b2':0≤fD T xV ow i (i:Int)∧fD T xV ow i (i:Int)≤1000 * (T:Int):=b2;obtain ⟨x,hx⟩:∃ x,x=fD T xV ow i (j:Int):=⟨_,rfl⟩;obtain ⟨y,hy⟩:∃ x,x=fD T xV ow i (i:Int):=⟨_,rfl⟩;rw [← hx] at L1 HE b1';rw [← hy] at L2 HE b2';obtain ⟨w1,hw1⟩:∃ X,X=w.alloc (.cells #[.int .i64 P,.int .i64 T,.slice aV xV.length cV] 28):=⟨_,rfl⟩;rw [← hw1] at B1 KG;have HD:Hid (∀ z9:Later w1,(z9.w'.cell? ⟨w.heap.size,0,none⟩=some (.int .i64 P)∧z9.w'.cell? ⟨w.heap.size,1,none⟩=some (.int .i64 T)∧z9.w'.cell? ⟨w.heap.size,2,none⟩=some (.slice aV xV.length cV))∧Below w.heap.size w z9.w'):=fun z9=>⟨⟨(KG.same z9.h).cell 0,(KG.same z9.h).cell 1,(KG.same z9.h).cell 2⟩,aa B1.out z9.h⟩
 clear b1 b2 hV hO lV lO hb hi KG hx hy
 go_enter Tryz.func221,Tryz.ntmps221;go_wp2_with fail;rw [← hw1];clear hw1;have D0:∀ z9:Later w1,z9.w'.cell? ⟨w.heap.size,0,none⟩=some (.int .i64 P):=fun z9=>(HD.out z9).1.1
 have D1:∀ z9:Later w1,z9.w'.cell? ⟨w.heap.size,1,none⟩=some (.int .i64 T):=fun z9=>(HD.out z9).1.2.1
 have D2:∀ z9:Later w1,z9.w'.cell? ⟨w.heap.size,2,none⟩=some (.slice aV xV.length cV):=fun z9=>(HD.out z9).1.2.2
 refine bf (by kernel_rfl) (by kernel_rfl) ?_
 repeat (go_big_quiet_step (first | (go_at_call 249;with_reducible exact dx (L1.out _ (HD.out _).2)) | (go_at_call 249;with_reducible exact dx (L2.out _ (HD.out _).2))))
 refine wpQuiet_nil ?_
 rintro wq ⟨⟨_,hbq⟩,rfl⟩;have BQ:=Na (aa B1.out hbq);clear hbq D0 D1 D2 HD L1 L2;go_wp2_with fail;go_ret;exact ⟨ce HE.out.symm,BQ.out⟩
end Go.Proofs.YtbknhgapjjaelaaGreatDoor
