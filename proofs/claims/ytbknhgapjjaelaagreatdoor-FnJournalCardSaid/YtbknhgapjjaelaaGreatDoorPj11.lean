/-
  Part 11 of what the proof stands on: lemmas and contracts, each with its conditions ahead of the colon.
-/
import Derived.Test.YtbknhgapjjaelaaGreatDoorPj01
import Derived.Test.YtbknhgapjjaelaaGreatDoorPj06
import Derived.Test.YtbknhgapjjaelaaGreatDoorPj07
import Derived.Test.YtbknhgapjjaelaaGreatDoorPj10
set_option maxRecDepth 10000
set_option maxHeartbeats 8000000
namespace Go.Proofs.YtbknhgapjjaelaaGreatDoor
set_option linter.unusedVariables false
set_option linter.unusedSimpArgs false
open Go.RowKit
def iy (T:Nat) (xs:List Int) (i t:Nat):Int:=xs.getD (i * T+t) 0
def fH (T:Nat) (xs ow:List Int) (i:Nat) (p:Int):Nat→Int
 | 0=>0
 | n+1=>if ow.getD n 0=p then fH T xs ow i p n+iy T xs i n else fH T xs ow i p n
def fK (T:Nat) (xs ow:List Int) (i:Nat) (p:Int):Int:=fH T xs ow i p T
theorem mE {T:Nat} {xs:List Int} (h:∀ x∈xs,0≤x∧x≤1000) (i t:Nat):0≤iy T xs i t∧iy T xs i t≤1000:=by
 unfold iy
 by_cases hj:i * T+t<xs.length
 · rw [List.getD,List.getElem?_eq_getElem hj];exact h _ (List.getElem_mem hj)
 · rw [List.getD,List.getElem?_eq_none (by omega)];exact ⟨by decide,by decide⟩
theorem lP {T:Nat} {xs ow:List Int} (h:∀ x∈xs,0≤x∧x≤1000) (i:Nat) (p:Int):∀ n:Nat,0≤fH T xs ow i p n∧fH T xs ow i p n≤1000 * (n:Int)
 | 0=>by simp [fH]
 | n+1=>by
   have ih:=lP (T:=T) (ow:=ow) h i p n;have hb:=mE h i n (T:=T);rw [fH]
   split <;> omega
def fW (T:Nat) (xs ow:List Int) (i j:Nat):Int:=fK T xs ow i (j:Int) - fK T xs ow i (i:Int)
def dY (P T:Nat) (xs ow:List Int) (j:Nat):Int:=fq (fun i=>decide (0<fW T xs ow i j)) P
theorem Am (P T:Nat) (xs ow:List Int) (j:Nat):(∃ k:Nat,k<P∧dY P T xs ow j=k∧0<fW T xs ow k j)∨((∀ i,i<P→¬ 0<fW T xs ow i j)∧dY P T xs ow j = -1):=by
 rcases nf (fun i=>decide (0<fW T xs ow i j)) P with ⟨k,hk,hp,_,e⟩ | ⟨h,e⟩
 · exact .inl ⟨k,hk,e,of_decide_eq_true hp⟩
 · exact .inr ⟨fun i hi=>of_decide_eq_false (h i hi),e⟩
def jI (T:Nat) (xs ow:List Int):Nat→Int
 | 0=>0
 | n+1=>jI T xs ow n+fK T xs ow n (n:Int)
theorem Ec {T:Nat} {xs ow:List Int} (h:∀ x∈xs,0≤x∧x≤1000):∀ n:Nat,0≤jI T xs ow n∧jI T xs ow n≤1000 * (T:Int) * (n:Int)
 | 0=>by simp [jI]
 | n+1=>by
   have ih:=Ec (T:=T) (ow:=ow) h n;have hb:=lP h n (n:Int) T (T:=T) (ow:=ow);have e:1000 * (T:Int) * ((n+1:Nat):Int)=1000 * (T:Int) * (n:Int)+1000 * (T:Int):=by rw [Int.natCast_add,Int.mul_add];simp
   rw [jI,e];unfold fK;omega
structure Ring (P T:Nat) (xs ow:List Int) (r:List Nat):Prop where
 ne:r≠[]
 lt:∀ i∈r,i<P
 nd:r.Nodup
 en:∀ k,k<r.length→0<fW T xs ow (r.getD k 0) (r.getD ((k+r.length - 1) % r.length) 0)
def ga (P:Nat) (r:List Nat):Nat→List Int
 | 0=>eL P
 | k+1=>(ga P r k).set (r.getD ((k+r.length - 1) % r.length) 0) ((r.getD k 0:Nat):Int)
theorem th (P:Nat) (r:List Nat):∀ k,(ga P r k).length=P
 | 0=>by rw [ga,bG]
 | k+1=>by rw [ga,List.length_set,th P r k]
def ek (ow tz:List Int):List Int:=ow.map fun p=>if 0≤p then tz.getD p.toNat 0 else p
theorem pY {j m:Nat} (h:j<m):(j+m - 1) % m=if j=0 then m - 1 else j - 1:=by
 by_cases h0:j=0
 · subst h0
   rw [if_pos rfl,Nat.zero_add,Nat.mod_eq_of_lt (by omega)]
 · rw [if_neg h0,show j+m - 1=(j - 1)+m from by omega,Nat.add_mod_right,Nat.mod_eq_of_lt (by omega)]
theorem nO {j m:Nat} (h:j<m):(j+m - 1) % m<m:=Nat.mod_lt _ (by omega)
theorem Ku {i j m:Nat} (hi:i<m) (hj:j<m) (h:(i+m - 1) % m=(j+m - 1) % m):i=j:=by
 rw [pY hi,pY hj] at h
 split at h <;> split at h <;> omega
theorem GY {xs:List Int} {j:Nat} {x:Int} (h:j<xs.length):(xs.set j x).getD j 0=x:=by simp [List.getD,h]
theorem xF {xs:List Int} {i j:Nat} {x:Int} (h:i≠j):(xs.set i x).getD j 0=xs.getD j 0:=by
 rw [List.getD,List.getD,List.getElem?_set_ne h]
theorem Im {r:List Nat} (h:r.Nodup) {i j:Nat} (hi:i<r.length) (hj:j<r.length) (he:r.getD i 0=r.getD j 0):i=j:=by
 rw [List.getD,List.getD,List.getElem?_eq_getElem hi,List.getElem?_eq_getElem hj] at he;simp only [Option.getD_some] at he;have hp:=List.pairwise_iff_getElem.1 h
 rcases Nat.lt_or_ge i j with h1 | h1
 · exact absurd he (hp i j hi hj h1)
 · rcases Nat.lt_or_ge j i with h2 | h2
   · exact absurd he.symm (hp j i hj hi h2)
   · omega
theorem kp {r:List Nat} {i:Nat} (h:i<r.length):r.getD i 0∈r:=by
 rw [List.getD,List.getElem?_eq_getElem h];exact List.getElem_mem _
theorem Cb {P:Nat} {r:List Nat} (hlt:∀ i∈r,i<P) (hnd:r.Nodup):∀ k,k≤r.length →
 (∀ j,j<k→(ga P r k).getD (r.getD ((j+r.length - 1) % r.length) 0) 0=((r.getD j 0:Nat):Int))∧∀ p,p<P→(∀ j,j<k→r.getD ((j+r.length - 1) % r.length) 0≠p)→(ga P r k).getD p 0=(p:Int)
 | 0,_=>⟨fun j hj=>by omega,fun p hp _=>by rw [ga];exact co (oP hp)⟩
 | k+1,hk=>by
   obtain ⟨i1,i2⟩:=Cb hlt hnd k (by omega)
   have hq:r.getD ((k+r.length - 1) % r.length) 0<(ga P r k).length:=by
    rw [th];exact hlt _ (kp (nO (by omega)))
   rw [ga];refine ⟨fun j hj=>?_,fun p hp hne=>?_⟩
   · by_cases hjk:j=k
     · subst hjk
       exact GY hq
     · have hne:r.getD ((k+r.length - 1) % r.length) 0≠r.getD ((j+r.length - 1) % r.length) 0:=fun he=>by
         have:=Ku (by omega) (by omega) (Im hnd (nO (by omega)) (nO (by omega)) he)
         omega
       have:=i1 j (by omega)
       rw [← this];exact xF hne
   · have hne2:=hne k (by omega)
     have:=i2 p hp (fun j hj=>hne j (by omega))
     rw [← this];exact xF hne2
theorem IW {P T:Nat} {xs ow:List Int} {r:List Nat} (h:Ring P T xs ow r) {i:Nat} (hi:i<P) :
 ∃ q,q<P∧(∀ p,p<P→((ga P r r.length).getD p 0=(i:Int) ↔ p=q))∧(i∈r→0<fW T xs ow i q)∧(i∉r→q=i):=by
 obtain ⟨t1,t2⟩:=Cb h.lt h.nd r.length (Nat.le_refl _);have inr:∀ p∈r,∃ j,j<r.length∧r.getD ((j+r.length - 1) % r.length) 0=p:=fun p hp=>by
  obtain ⟨q,hq,he⟩:=List.getElem_of_mem hp
  by_cases hl:q+1=r.length
  · refine ⟨0,by omega,?_⟩
    rw [pY (by omega),if_pos rfl,show r.length - 1=q from by omega,List.getD,List.getElem?_eq_getElem hq,Option.getD_some,he]
  · refine ⟨q+1,by omega,?_⟩
    rw [pY (by omega),if_neg (by omega),Nat.add_sub_cancel,List.getD,List.getElem?_eq_getElem hq,Option.getD_some,he]
 have to_out:∀ p,p<P→p∉r→(ga P r r.length).getD p 0=(p:Int):=fun p hp hn=>t2 p hp fun j hj he=>hn (by rw [← he];exact kp (nO hj))
 by_cases hir:i∈r
 · obtain ⟨k,hk,he⟩:=List.getElem_of_mem hir
   have hgk:r.getD k 0=i:=by rw [List.getD,List.getElem?_eq_getElem hk,Option.getD_some,he]
   refine ⟨r.getD ((k+r.length - 1) % r.length) 0,h.lt _ (kp (nO hk)),fun p hp=>⟨fun hto=>?_,fun hp2=>?_⟩,fun _=>?_,fun hn=>absurd hir hn⟩
   · by_cases hpr:p∈r
     · obtain ⟨j,hj,hjp⟩:=inr p hpr
       have h1:=t1 j hj;rw [hjp,hto] at h1;have h2:r.getD j 0=r.getD k 0:=by rw [hgk];omega
       rw [← hjp,Im h.nd hj hk h2]
     · rw [to_out p hp hpr] at hto
       have:p=i:=by omega
       exact absurd (this ▸ hir) hpr
   · rw [hp2,t1 k hk,hgk]
   · have:=h.en k hk
     rw [hgk] at this;exact this
 · refine ⟨i,hi,fun p hp=>⟨fun hto=>?_,fun hp2=>?_⟩,fun hr=>absurd hr hir,fun _=>rfl⟩
   · by_cases hpr:p∈r
     · obtain ⟨j,hj,hjp⟩:=inr p hpr
       have h1:=t1 j hj;rw [hjp,hto] at h1;have h2:r.getD j 0=i:=by omega
       exact absurd (by rw [← h2];exact kp hj) hir
     · rw [to_out p hp hpr] at hto
       omega
   · rw [hp2];exact to_out i hi hir
theorem vn {P T:Nat} {xs ow tz:List Int} {i q:Nat} (hi:i<P) (hq:∀ p,p<P→(tz.getD p 0=(i:Int) ↔ p=q)) (hqP:q<P) (how:∀ p∈ow,-1≤p∧p<(P:Int)) (hl:ow.length=T):∀ n,n≤T→fH T xs (ek ow tz) i (i:Int) n=fH T xs ow i (q:Int) n
 | 0,_=>rfl
 | n+1,hn=>by
   have ih:=vn (xs:=xs) hi hq hqP how hl n (by omega)
   have hg:ow[n]? = some (ow.getD n 0):=rD (by omega)
   have hb:=how _ (List.mem_of_getElem? hg);have hm:(ek ow tz).getD n 0=if 0≤ow.getD n 0 then tz.getD (ow.getD n 0).toNat 0 else ow.getD n 0:=by
    unfold ek;rw [List.getD,List.getElem?_map,hg];rfl
   have hiff:(ek ow tz).getD n 0=(i:Int) ↔ ow.getD n 0=(q:Int):=by
    rw [hm]
    by_cases h0:0≤ow.getD n 0
    · rw [if_pos h0,hq _ (by omega)]
      omega
    · rw [if_neg h0]
      omega
   rw [fH,fH,ih]
   by_cases hc:ow.getD n 0=(q:Int)
   · rw [if_pos (hiff.2 hc),if_pos hc]
   · rw [if_neg (fun h=>hc (hiff.1 h)),if_neg hc]
theorem vm {P T:Nat} {xs ow:List Int} {r:List Nat} (h:Ring P T xs ow r) (how:∀ p∈ow,-1≤p∧p<(P:Int)) (hl:ow.length=T):∀ n,n≤P→jI T xs ow n≤jI T xs (ek ow (ga P r r.length)) n∧((∃ i∈r,i<n)→jI T xs ow n<jI T xs (ek ow (ga P r r.length)) n)
 | 0,_=>⟨Int.le_refl _,fun ⟨i,_,hi⟩=>by omega⟩
 | n+1,hn=>by
   obtain ⟨i1,i2⟩:=vm h how hl n (by omega)
   obtain ⟨q,hq,q1,q2,q3⟩:=IW h (show n<P by omega)
   have hp:=vn (xs:=xs) (show n<P by omega) q1 hq how hl T (Nat.le_refl _)
   have hp2:fK T xs (ek ow (ga P r r.length)) n (n:Int)=fK T xs ow n (q:Int):=hp;rw [jI,jI,hp2]
   by_cases hr:n∈r
   · have:=q2 hr
     unfold fW at this;exact ⟨by omega,fun _=>by omega⟩
   · rw [q3 hr]
     refine ⟨by omega,fun ⟨i,h1,h2⟩=>?_⟩
     have:=i2 ⟨i,h1,by
      rcases Nat.lt_or_ge i n with h3 | h3
      · exact h3
      · exact absurd (by rw [show n=i from by omega];exact h1) hr⟩
     omega
theorem Fo {P T:Nat} {xs ow:List Int} {r:List Nat} (h:Ring P T xs ow r) (how:∀ p∈ow,-1≤p∧p<(P:Int)) (hl:ow.length=T):jI T xs ow P<jI T xs (ek ow (ga P r r.length)) P:=by
 refine (vm h how hl P (Nat.le_refl _)).2 ?_
 obtain ⟨i,hi⟩:=List.exists_mem_of_ne_nil _ h.ne;exact ⟨i,hi,h.lt i hi⟩
theorem Jg {P:Nat} {r:List Nat} (hlt:∀ i∈r,i<P):∀ k,k≤r.length→∀ p∈ga P r k,0≤p∧p<(P:Int)
 | 0,_,p,hp=>by
   rw [ga] at hp;obtain ⟨j,hj,rfl⟩:=List.mem_map.1 hp;have:=List.mem_range.1 hj;omega
 | k+1,hk,p,hp=>by
   rw [ga] at hp
   rcases List.mem_or_eq_of_mem_set hp with h | rfl
   · exact Jg hlt k (by omega) p h
   · have:=hlt _ (kp (show k<r.length by omega))
     omega
theorem Kg {P:Nat} {ow tz:List Int} (how:∀ p∈ow,-1≤p∧p<(P:Int)) (hto:∀ p∈tz,0≤p∧p<(P:Int)) (hl:tz.length=P):∀ p∈ek ow tz,-1≤p∧p<(P:Int):=by
 intro p hp;unfold ek at hp;obtain ⟨q,hq,rfl⟩:=List.mem_map.1 hp;have hb:=how q hq
 split
 · have:q.toNat<tz.length:=by omega
   rw [List.getD,List.getElem?_eq_getElem this,Option.getD_some];have:=hto _ (List.getElem_mem this);omega
 · exact hb
structure Chain (P T:Nat) (xs ow:List Int) (s:List Nat):Prop where
 ne:s≠[]
 lt:∀ i∈s,i<P
 nd:s.Nodup
 en:∀ k,k+1<s.length→0<fW T xs ow (s.getD (k+1) 0) (s.getD k 0)
theorem In {P:Nat} {s:List Nat} (hlt:∀ i∈s,i<P) (hnd:s.Nodup):s.length≤P:=by
 have h:=List.Nodup.length_le_of_subset (l₁:=s) (l₂:=List.range P) hnd (fun i hi=>List.mem_range.2 (hlt i hi))
 rwa [List.length_range] at h
theorem Chain.more {P T:Nat} {xs ow:List Int} {s:List Nat} (h:Chain P T xs ow s) {n:Nat} (hn:n<P) (hns:n∉s) (he:0<fW T xs ow n (s.getD (s.length - 1) 0)):Chain P T xs ow (s ++ [n]):=by
 have hl:0<s.length:=List.length_pos_iff.2 h.ne;refine ⟨by simp,fun i hi=>?_,List.nodup_append.2 ⟨h.nd,by simp,fun a ha b hb=>by
  rw [List.mem_singleton] at hb;subst hb;rintro rfl;exact hns ha⟩,fun k hk=>?_⟩
 · rcases List.mem_append.1 hi with h1 | h1
   · exact h.lt i h1
   · rw [List.mem_singleton] at h1;omega
 · rw [List.length_append,List.length_singleton] at hk
   by_cases hkl:k+1<s.length
   · have:=h.en k hkl
     rw [List.getD,List.getD,List.getElem?_append_left hkl,List.getElem?_append_left (by omega)]
     exact this
   · have e1:(s ++ [n]).getD (k+1) 0=n:=by
       rw [List.getD,List.getElem?_append_right (by omega),show k+1 - s.length=0 from by omega];rfl
     have e2:(s ++ [n]).getD k 0=s.getD (s.length - 1) 0:=by
      rw [List.getD,List.getD,List.getElem?_append_left (by omega),show k=s.length - 1 from by omega]
     rw [e1,e2];exact he
theorem Chain.ring {P T:Nat} {xs ow:List Int} {s:List Nat} (h:Chain P T xs ow s) {a:Nat} (ha:a<s.length) (he:0<fW T xs ow (s.getD a 0) (s.getD (s.length - 1) 0)):Ring P T xs ow (s.drop a):=by
 have hdl:(s.drop a).length=s.length - a:=List.length_drop;have hg:∀ k,(s.drop a).getD k 0=s.getD (a+k) 0:=fun k=>by rw [List.getD,List.getD,List.getElem?_drop]
 refine ⟨fun hn=>by rw [hn] at hdl;simp at hdl;omega,fun i hi=>h.lt i (List.mem_of_mem_drop hi),h.nd.sublist (List.drop_sublist a s),fun k hk=>?_⟩
 rw [hdl] at hk ⊢;rw [hg,hg,pY hk]
 by_cases h0:k=0
 · subst h0
   rw [if_pos rfl,Nat.add_zero,show a+(s.length - a - 1)=s.length - 1 from by omega]
   exact he
 · rw [if_neg h0]
   have:=h.en (a+(k - 1)) (by omega)
   rw [show a+(k - 1)+1=a+k from by omega] at this
   exact this
inductive RingR (P T:Nat) (xs ow:List Int):List Nat→List Nat→Prop
 | here (s:List Nat) (a:Nat):s[a]? = some (dY P T xs ow (s.getD (s.length - 1) 0)).toNat→(∀ b,b<a→s[b]?≠some (dY P T xs ow (s.getD (s.length - 1) 0)).toNat)→RingR P T xs ow s (s.drop a)
 | on (s r:List Nat):(dY P T xs ow (s.getD (s.length - 1) 0)).toNat∉s→RingR P T xs ow (s ++ [(dY P T xs ow (s.getD (s.length - 1) 0)).toNat]) r→RingR P T xs ow s r
theorem RingR.same {P T:Nat} {xs ow:List Int} {s r:List Nat} (h:RingR P T xs ow s r):∀ {r'},RingR P T xs ow s r'→r=r':=by
 induction h with
 | here s a h1 h2 =>
   intro r' h'
   cases h' with
   | here _ b g1 g2 =>
     rcases Nat.lt_or_ge a b with h3 | h3
     · exact absurd h1 (g2 a h3)
     · rcases Nat.lt_or_ge b a with h4 | h4
       · exact absurd g1 (h2 b h4)
       · rw [show a=b from by omega]
   | on _ _ g1 _=>exact absurd (List.mem_of_getElem? h1) g1
 | on s r h1 _ ih =>
   intro r' h'
   cases h' with
   | here _ b g1 _=>exact absurd (List.mem_of_getElem? g1) h1
   | on _ _ _ g2=>exact ih g2
inductive EnvyR (P T:Nat) (xs:List Int):Nat→List Int→List Int→Prop
 | done (ow):EnvyR P T xs T ow ow
 | give (t:Nat) (ow res:List Int) (j:Nat):t<T→fq (fun j=>decide (dY P T xs ow j<0)) P=(j:Int)→EnvyR P T xs (t+1) (ow.set t (j:Int)) res→EnvyR P T xs t ow res
 | move (t:Nat) (ow res:List Int) (r:List Nat):t<T→fq (fun j=>decide (dY P T xs ow j<0)) P = -1→RingR P T xs ow [0] r→EnvyR P T xs t (ek ow (ga P r r.length)) res→EnvyR P T xs t ow res
theorem EnvyR.same {P T:Nat} {xs:List Int} {t:Nat} {ow res:List Int} (h:EnvyR P T xs t ow res):∀ {res'},EnvyR P T xs t ow res'→res=res':=by
 induction h with
 | done ow =>
   intro res' h'
   cases h' with
   | done _=>rfl
   | give _ _ _ _ h1 _ _=>omega
   | move _ _ _ _ h1 _ _ _=>omega
 | give t ow res j h1 h2 _ ih =>
   intro res' h'
   cases h' with
   | done _=>omega
   | give _ _ _ j' g1 g2 g3 =>
     rw [h2] at g2;have:j=j':=by omega
     subst this;exact ih g3
   | move _ _ _ _ g1 g2 _ _ =>
     rw [h2] at g2;omega
 | move t ow res r h1 h2 h3 _ ih =>
   intro res' h'
   cases h' with
   | done _=>omega
   | give _ _ _ j' g1 g2 _ =>
     rw [h2] at g2;omega
   | move _ _ _ r' g1 g2 g3 g4 =>
     have:=h3.same g3;subst this;exact ih g4
theorem qe (w:World) (P:Int) (T i t:Nat) (aV:Option Addr) (cV:Nat) (xV:List Int) (h:Rd w w.heap.size aV (ae xV)) (hi:i * T+t<xV.length) (hl:xV.length≤1048576) :
 Calls Tryz.prog 196 #[.agg #[.int .i64 P,.int .i64 T,.slice aV xV.length cV],.int .i64 i,.int .i64 t] w fun e w'=>e=.returned (.int .i64 (iy T xV i t))∧Below w.heap.size w w':=by
 obtain ⟨J,hJ,hJl,hJe,m0,m1⟩:=kj hi hl;obtain ⟨b,o,y,rfl,hbb,hck,hy⟩:=h.get (k:=J) hJl;have HF:Hid (iy T xV i t=y):=by
  unfold iy;rw [Hid,← hJe];exact co hy.out
 have hbb':b≠w.heap.size:=by omega
 clear h hy hi hJe
 go_enter Tryz.func196,Tryz.ntmps196;go_wp2_with fail;go_ret;exact ⟨bY HF.out.symm,ai _ _⟩
theorem uy (w:World) (P T i:Nat) (p:Int) (aV:Option Addr) (cV:Nat) (xV:List Int) (aO:Option Addr) (cO:Nat) (ow:List Int) (hV:Rd w w.heap.size aV (ae xV)) (hO:Rd w w.heap.size aO (ae ow)) (lV:xV.length=P * T) (lO:ow.length=T) (hb:∀ x∈xV,0≤x∧x≤1000) (hP:P≤6) (hT:T≤8) (hi:i<P) :
 Calls Tryz.prog 249 #[.agg #[.int .i64 P,.int .i64 T,.slice aV xV.length cV],.int .i64 i,.int .i64 p,.slice aO ow.length cO] w fun e w'=>e=.returned (.int .i64 (fK T xV ow i p))∧Below w.heap.size w w':=by
 have hPT:P * T≤48:=Nat.le_trans (Nat.mul_le_mul hP hT) (by decide)
 have KG:=Oi (Blk.new w [.int .i64 P,.int .i64 T,.slice aV xV.length cV] 28);have B1:=Oi (ai w (.cells #[.int .i64 P,.int .i64 T,.slice aV xV.length cV] 28));have LO:=Oi (fun v (hb:Below w.heap.size w v) (t:Nat) (ht:t<T)=>qe v P T i t aV cV xV (hV.to hb) (by rw [lV];exact dH hi ht) (by omega))
 have RO:=Oi (fun v (hb:Below w.heap.size w v)=>hO.to hb)
 have HS:Hid (∀ n,fH T xV ow i p (n+1)=if ow.getD n 0=p then fH T xV ow i p n+iy T xV i n else fH T xV ow i p n):=fun n=>rfl
 have HB:=Oi (fun n=>lP (T:=T) (ow:=ow) hb i p n)
 have HV:=Oi (fun t=>mE (T:=T) hb i t)
 have HE:Hid (fK T xV ow i p=fH T xV ow i p ow.length):=by rw [lO];rfl
 have h0:Hid (fH T xV ow i p 0=0):=rfl;have HLO:=Oi lO;have hn:ow.length≤8:=by omega
 clear hV hO lV hb lO hi
 go_enter Tryz.func249,Tryz.ntmps249;go_wp2_with fail
 go_loopw [14,9] (fun tv sv wr=>∃ t:Nat,t≤ow.length∧tv=.int .i64 t∧sv=.int .i64 (fH T xV ow i p t)∧Hid (Below (w.heap.size+1) (w.alloc (.cells #[.int .i64 P,.int .i64 T,.slice aV xV.length cV] 28)) wr)) (fun tv _ _=>ow.length - (intOf tv).toNat)
 case atStart=>exact ⟨0,Nat.zero_le _,rfl,by rw [h0.out],Below.refl _ _⟩
 case round =>
  clear h0;obtain ⟨t,ht,rfl,rfl,hw⟩:=hrel;have t0:(0:Int)≤(t:Int):=Int.natCast_nonneg _
  by_cases hlt:t<ow.length
  · have hti:(t:Int)<(ow.length:Int):=by omega
    have Bw:=Oi (B1.out.trans (hw.out.mono (by omega)))
    obtain ⟨b,o,x,rfl,hbb,hck,hx⟩:=(RO.out wr Bw.out).get hlt;have K:=KG.out.below hw.out (by omega)
    have q0:wr.cell? ⟨w.heap.size,0,none⟩=some (.int .i64 P):=K.cell 0;have q1:wr.cell? ⟨w.heap.size,1,none⟩=some (.int .i64 T):=K.cell 1;have q2:wr.cell? ⟨w.heap.size,2,none⟩=some (.slice aV xV.length cV):=K.cell 2;have hs:=HS.out t;have hgx:ow.getD t 0=x:=co hx.out;rw [hgx] at hs;have HSS:=Oi hs;obtain ⟨s0,s1⟩:=HB.out t;obtain ⟨v0,v1⟩:=HV.out t;have hsz:w.heap.size+1≤wr.heap.size:=by have:=hw.out.size;simp at this;omega
    have LO1:=Oi (LO.out wr Bw.out t (by have:=HLO.out;omega))
    obtain ⟨s,hs'⟩:∃ s,s=fH T xV ow i p t:=⟨_,rfl⟩;obtain ⟨v,hv'⟩:∃ v,v=iy T xV i t:=⟨_,rfl⟩;rw [← hs'] at HSS s0 s1 ⊢;rw [← hv'] at HSS LO1 v0 v1;clear hs hgx hx hs' hv' K
    by_cases hxp:x=p
    · have hs2:Hid (fH T xV ow i p (t+1)=s+v):=by rw [Hid,HSS.out,if_pos hxp]
      clear HSS;have hxb:(x == p)=true:=by rw [beq_iff_eq];exact hxp
      clear hxp;go_wp2_with fail;refine LO1.out.mono ?_;rintro e w2 ⟨rfl,hb2⟩;have HB2:=Oi (hw.out.trans (hb2.mono hsz));clear hb2 q0 q1 q2 LO1;go_wp2_with fail;go_roundw
      case rel=>exact ⟨t+1,by omega,by go_num,by rw [hs2.out],HB2⟩
      case measure=>simp [intOf];omega
    · have hs2:Hid (fH T xV ow i p (t+1)=s):=by rw [Hid,HSS.out,if_neg hxp]
      clear HSS q0 q1 q2 LO1;have hxb:(x == p)=false:=by rw [beq_eq_false_iff_ne];exact hxp
      clear hxp;go_wp2_with fail;go_roundw
      case rel=>exact ⟨t+1,by omega,by go_num,by rw [hs2.out],hw⟩
      case measure=>simp [intOf];omega
  · obtain rfl:t=ow.length:=by omega
    have BZ:=Oi (B1.out.trans (hw.out.mono (by omega)))
    go_wp2_with fail;go_ret;exact ⟨bY HE.out.symm,BZ.out⟩
theorem An (w:World) (P T i j:Nat) (aV:Option Addr) (cV:Nat) (xV:List Int) (aO:Option Addr) (cO:Nat) (ow:List Int) (hV:Rd w w.heap.size aV (ae xV)) (hO:Rd w w.heap.size aO (ae ow)) (lV:xV.length=P * T) (lO:ow.length=T) (hb:∀ x∈xV,0≤x∧x≤1000) (hP:P≤6) (hT:T≤8) (hi:i<P) :
 Calls Tryz.prog 221 #[.agg #[.int .i64 P,.int .i64 T,.slice aV xV.length cV],.int .i64 i,.int .i64 j,.slice aO ow.length cO] w fun e w'=>e=.returned (.int .i64 (fW T xV ow i j))∧Below w.heap.size w w':=by
 have KG:=Blk.new w [.int .i64 P,.int .i64 T,.slice aV xV.length cV] 28;have B1:=Oi (ai w (.cells #[.int .i64 P,.int .i64 T,.slice aV xV.length cV] 28));have L1:=Oi (fun v (hbl:Below w.heap.size w v)=>uy v P T i (j:Int) aV cV xV aO cO ow (hV.to hbl) (hO.to hbl) lV lO hb hP hT hi)
 have L2:=Oi (fun v (hbl:Below w.heap.size w v)=>uy v P T i (i:Int) aV cV xV aO cO ow (hV.to hbl) (hO.to hbl) lV lO hb hP hT hi)
 have HE:Hid (fW T xV ow i j=fK T xV ow i (j:Int) - fK T xV ow i (i:Int)):=rfl;have b1:=lP (T:=T) (ow:=ow) hb i (j:Int) T;have b2:=lP (T:=T) (ow:=ow) hb i (i:Int) T;have b1':0≤fK T xV ow i (j:Int)∧fK T xV ow i (j:Int)≤1000 * (T:Int):=b1;have b2':0≤fK T xV ow i (i:Int)∧fK T xV ow i (i:Int)≤1000 * (T:Int):=b2;obtain ⟨x,hx⟩:∃ x,x=fK T xV ow i (j:Int):=⟨_,rfl⟩;obtain ⟨y,hy⟩:∃ x,x=fK T xV ow i (i:Int):=⟨_,rfl⟩;rw [← hx] at L1 HE b1';rw [← hy] at L2 HE b2';obtain ⟨w1,hw1⟩:∃ X,X=w.alloc (.cells #[.int .i64 P,.int .i64 T,.slice aV xV.length cV] 28):=⟨_,rfl⟩;rw [← hw1] at B1 KG;have HD:Hid (∀ z9:Later w1,(z9.w'.cell? ⟨w.heap.size,0,none⟩=some (.int .i64 P)∧z9.w'.cell? ⟨w.heap.size,1,none⟩=some (.int .i64 T)∧z9.w'.cell? ⟨w.heap.size,2,none⟩=some (.slice aV xV.length cV))∧Below w.heap.size w z9.w'):=fun z9=>⟨⟨(KG.same z9.h).cell 0,(KG.same z9.h).cell 1,(KG.same z9.h).cell 2⟩,aa B1.out z9.h⟩
 clear b1 b2 hV hO lV lO hb hi KG hx hy
 go_enter Tryz.func221,Tryz.ntmps221;go_wp2_with fail;rw [← hw1];clear hw1;have D0:∀ z9:Later w1,z9.w'.cell? ⟨w.heap.size,0,none⟩=some (.int .i64 P):=fun z9=>(HD.out z9).1.1
 have D1:∀ z9:Later w1,z9.w'.cell? ⟨w.heap.size,1,none⟩=some (.int .i64 T):=fun z9=>(HD.out z9).1.2.1
 have D2:∀ z9:Later w1,z9.w'.cell? ⟨w.heap.size,2,none⟩=some (.slice aV xV.length cV):=fun z9=>(HD.out z9).1.2.2
 refine bg (by kernel_rfl) (by kernel_rfl) ?_
 repeat (go_big_quiet_step (first | (go_at_call 249;with_reducible exact dz (L1.out _ (HD.out _).2)) | (go_at_call 249;with_reducible exact dz (L2.out _ (HD.out _).2))))
 refine wpQuiet_nil ?_
 rintro wq ⟨⟨_,hbq⟩,rfl⟩;have BQ:=Oi (aa B1.out hbq);clear hbq D0 D1 D2 HD L1 L2;go_wp2_with fail;go_ret;exact ⟨bY HE.out.symm,BQ.out⟩
theorem db {U V:Int} {x2:List Int} (h:bM U V x2=true):∃ P T:Nat,U=(P:Int)∧V=(T:Int)∧1≤P∧P≤6∧1≤T∧T≤8∧x2.length=P * T∧∀ x∈x2,0≤x∧x≤1000:=by
 unfold bM at h;rw [Bool.and_eq_true,Bool.and_eq_true,cx,cx,sL,Bool.and_eq_true,decide_eq_true_eq,fi] at h;obtain ⟨⟨⟨u1,u2⟩,v1,v2⟩,a1,l1⟩:=h;obtain ⟨P,hR⟩:∃ n:Nat,U=(n:Int):=⟨U.toNat,by omega⟩;obtain ⟨T,hC⟩:∃ n:Nat,V=(n:Int):=⟨V.toNat,by omega⟩;subst hR hC;rw [← Int.natCast_mul] at l1;exact ⟨P,T,rfl,rfl,by omega,by omega,by omega,by omega,by omega,a1⟩
def hH (P T:Nat) (xs ow:List Int) (m:Nat):List Int:=(List.range m).map fun j=>fW T xs ow (j / P) (j % P)
theorem vT (P T:Nat) (xs ow:List Int) (m:Nat):(hH P T xs ow m).length=m:=by simp [hH]
theorem Dq {P T:Nat} (xs ow:List Int) {i j:Nat} (hj:j<P):hH P T xs ow (i * P+(j+1))=hH P T xs ow (i * P+j) ++ [fW T xs ow i j]:=by
 unfold hH;rw [← Nat.add_assoc,List.range_succ,List.map_append,List.map_singleton];have e1:(i * P+j) / P=i:=by
  rw [Nat.mul_comm,Nat.mul_add_div (by omega),Nat.div_eq_of_lt hj,Nat.add_zero]
 have e2:(i * P+j) % P=j:=by
  rw [Nat.mul_comm,Nat.mul_add_mod,Nat.mod_eq_of_lt hj]
 rw [e1,e2]
theorem uS (w:World) (P T j:Nat) (aV:Option Addr) (cV:Nat) (xV:List Int) (aO:Option Addr) (cO:Nat) (ow:List Int) (hV:Rd w w.heap.size aV (ae xV)) (hO:Rd w w.heap.size aO (ae ow)) (lV:xV.length=P * T) (lO:ow.length=T) (hb:∀ x∈xV,0≤x∧x≤1000) (hP:P≤6) (hT:T≤8) :
 Calls Tryz.prog 177 #[.agg #[.int .i64 P,.int .i64 T,.slice aV xV.length cV],.int .i64 j,.slice aO ow.length cO] w fun e w'=>e=.returned (.int .i64 (dY P T xV ow j))∧Below w.heap.size w w':=by
 have KG:=Oi (Blk.new w [.int .i64 P,.int .i64 T,.slice aV xV.length cV] 28);have B1:=Oi (ai w (.cells #[.int .i64 P,.int .i64 T,.slice aV xV.length cV] 28));have L1:=Oi (fun v (hbl:Below w.heap.size w v) i (hi:i<P)=>An v P T i j aV cV xV aO cO ow (hV.to hbl) (hO.to hbl) lV lO hb hP hT hi)
 have HE:Hid (dY P T xV ow j=fq (fun i=>decide (0<fW T xV ow i j)) P):=rfl
 have q0:(w.alloc (.cells #[.int .i64 P,.int .i64 T,.slice aV xV.length cV] 28)).cell? ⟨w.heap.size,0,none⟩=some (.int .i64 P):=KG.out.cell 0;clear hV hO lV lO hb
 go_enter Tryz.func177,Tryz.ntmps177;go_wp2_with fail;clear q0
 go_loopw [10] (fun iv wr=>∃ i:Nat,i≤P∧iv=.int .i64 i∧Hid (∀ k,k<i→decide (0<fW T xV ow k j)=false)∧Hid (Below (w.heap.size+1) (w.alloc (.cells #[.int .i64 P,.int .i64 T,.slice aV xV.length cV] 28)) wr)) (fun iv _=>P - (intOf iv).toNat)
 case atStart=>exact ⟨0,Nat.zero_le _,rfl,fun k hk=>by omega,Below.refl _ _⟩
 case round =>
  obtain ⟨i,hi,rfl,ha,hw⟩:=hrel;have i0:(0:Int)≤(i:Int):=Int.natCast_nonneg _;have Bw:=Oi (B1.out.trans (hw.out.mono (by omega)))
  by_cases hlt:i<P
  · have hii:(i:Int)<(P:Int):=by omega
    have K:=KG.out.below hw.out (by omega)
    have q0:wr.cell? ⟨w.heap.size,0,none⟩=some (.int .i64 P):=K.cell 0;have q1:wr.cell? ⟨w.heap.size,1,none⟩=some (.int .i64 T):=K.cell 1;have q2:wr.cell? ⟨w.heap.size,2,none⟩=some (.slice aV xV.length cV):=K.cell 2;have hsz:w.heap.size+1≤wr.heap.size:=by have:=hw.out.size;simp at this;omega
    have LO1:=Oi (L1.out wr Bw.out i hlt);obtain ⟨s,hs'⟩:∃ s,s=fW T xV ow i j:=⟨_,rfl⟩;rw [← hs'] at LO1;have HS:=Oi hs';clear hs' K;go_wp2_with fail;refine LO1.out.mono ?_;rintro e w2 ⟨rfl,hb2⟩;have HB2:=Oi (hw.out.trans (hb2.mono hsz));have HB3:=Oi (aa Bw.out hb2);clear hb2 q0 q1 q2 LO1
    by_cases hpos:0<s
    · have hF:Hid (dY P T xV ow j=(i:Int)):=by
        rw [Hid,HE.out];exact ju hlt (by rw [← HS.out];exact decide_eq_true hpos) ha.out
      go_wp2_with fail;go_ret;exact ⟨bY hF.out.symm,HB3.out⟩
    · have hF:Hid (∀ k,k<i+1→decide (0<fW T xV ow k j)=false):=fun k hk=>by
        by_cases e:k=i
        · rw [e,← HS.out];exact decide_eq_false hpos
        · exact ha.out k (by omega)
      go_wp2_with fail;go_roundw
      case rel=>exact ⟨i+1,by omega,by go_num,hF,HB2⟩
      case measure=>simp [intOf];omega
  · obtain rfl:i=P:=by omega
    have hF:Hid (dY i T xV ow j = -1):=by
     rw [Hid,HE.out];exact jw ha.out
    go_wp2_with fail;go_ret;exact ⟨bY hF.out.symm,Bw.out⟩
theorem Iy (w:World) (P T:Nat) (aV:Option Addr) (cV:Nat) (xV:List Int) (aO:Option Addr) (cO:Nat) (ow:List Int) (hG:bM P T xV=true) (hV:Rd w w.heap.size aV (ae xV)) (hO:Rd w w.heap.size aO (ae ow)) (lO:ow.length≤1048576) :
 Calls Tryz.prog 243 #[.agg #[.int .i64 P,.int .i64 T,.slice aV xV.length cV],.slice aO ow.length cO] w fun e w'=>e=.returned (.bool (cU ow T T 0 ((P:Int) - 1)))∧Below w.heap.size w w':=by
 have hG':=hG;obtain ⟨P',T',e1,e2,p1,p6,t1,t8,lV,hb⟩:=db hG';obtain rfl:P=P':=Int.ofNat.inj e1;obtain rfl:T=T':=Int.ofNat.inj e2;have hPT:P * T≤48:=Nat.le_trans (Nat.mul_le_mul p6 t8) (by decide)
 have KG:=Oi (Blk.new w [.int .i64 P,.int .i64 T,.slice aV xV.length cV] 28);have B1:=Oi (ai w (.cells #[.int .i64 P,.int .i64 T,.slice aV xV.length cV] 28));have LV:=Oi (fun v (hbl:Below w.heap.size w v)=>eu v P T aV cV xV (hV.to hbl) (by omega))
 have LM:=Oi (fun v (hbl:Below w.heap.size w v)=>ie v aO cO ow T T 0 ((P:Int) - 1) (hO.to hbl) (by omega))
 rw [hG] at LV;obtain ⟨bb,hbb⟩:∃ b,b=cU ow T T 0 ((P:Int) - 1):=⟨_,rfl⟩;rw [← hbb] at LM ⊢;clear hV hO hG hG' lV hb e1 e2 hbb lO
 go_enter Tryz.func243,Tryz.ntmps243;go_wp2_with fail;refine (LV.out _ B1.out).mono ?_;rintro e w2 ⟨rfl,hb2⟩;have BB:=Oi (aa B1.out hb2);have K:=KG.out.same hb2;have q0:w2.cell? ⟨w.heap.size,0,none⟩=some (.int .i64 P):=K.cell 0;have q1:w2.cell? ⟨w.heap.size,1,none⟩=some (.int .i64 T):=K.cell 1;have LM1:=Oi (LM.out _ BB.out);clear K LV LM hb2;go_wp2_with fail;refine LM1.out.mono ?_;rintro e w3 ⟨rfl,rfl⟩;go_wp2_with fail;go_ret;exact ⟨rfl,BB.out⟩
def sD (xs:Option (List Int)) (w:World) (e:Ending) (w':World):Prop :=
 Below w.heap.size w w'∧match xs with
 | some l=>∃ a c,e=.returned (.tuple #[.slice a l.length c,.bool true])∧Rd w' w'.heap.size a (ae l)
 | none=>e=.returned (.tuple #[.slice none 0 0,.bool false])
def lH (P T:Nat) (xs ow:List Int):Option (List Int):=if cU ow T T 0 ((P:Int) - 1)=true then some (hH P T xs ow (P * P)) else none
theorem Kc {ow:List Int} {T:Nat} {lo hi:Int} (h:cU ow T T lo hi=true):ow.length=T∧∀ x∈ow,lo≤x∧x≤hi:=by
 rw [sL,Bool.and_eq_true,decide_eq_true_eq,fi] at h;exact ⟨by omega,h.1⟩
theorem yU (w:World) (P T:Nat) (aV:Option Addr) (cV:Nat) (xV:List Int) (aO:Option Addr) (cO:Nat) (ow:List Int) (hG:bM P T xV=true) (hV:Rd w w.heap.size aV (ae xV)) (hO:Rd w w.heap.size aO (ae ow)) (lO:ow.length≤1048576) :
 Calls Tryz.prog 199 #[.agg #[.int .i64 P,.int .i64 T,.slice aV xV.length cV],.slice aO ow.length cO] w (sD (lH P T xV ow) w):=by
 have hG':=hG;obtain ⟨P',T',e1,e2,p1,p6,t1,t8,lV,hb⟩:=db hG';obtain rfl:P=P':=Int.ofNat.inj e1;obtain rfl:T=T':=Int.ofNat.inj e2;have hPP:P * P≤36:=Nat.le_trans (Nat.mul_le_mul p6 p6) (by decide)
 have KG:=Oi (Blk.new w [.int .i64 P,.int .i64 T,.slice aV xV.length cV] 28);have B1:=Oi (ai w (.cells #[.int .i64 P,.int .i64 T,.slice aV xV.length cV] 28));have LW:=Oi (fun v (hbl:Below w.heap.size w v)=>Iy v P T aV cV xV aO cO ow hG (hV.to hbl) (hO.to hbl) lO)
 have L1:=Oi (fun v (hbl:Below w.heap.size w v) (lo:ow.length=T) i j (hi:i<P)=>An v P T i j aV cV xV aO cO ow (hV.to hbl) (hO.to hbl) lV lo hb p6 t8 hi)
 have HM:=Oi (fun h=>(Kc (ow:=ow) (T:=T) (lo:=0) (hi:=(P:Int) - 1) h).1)
 have HE:Hid (lH P T xV ow=if cU ow T T 0 ((P:Int) - 1)=true then some (hH P T xV ow (P * P)) else none):=rfl;clear hV hO hG hG' lV hb e1 e2
 cases hm:cU ow T T 0 ((P:Int) - 1) with
 | false =>
   rw [hm] at LW HE;rw [if_neg (by decide)] at HE
   rw [HE.out];clear HE HM hm
   go_enter Tryz.func199,Tryz.ntmps199;go_wp2_with fail;refine (LW.out _ B1.out).mono ?_;rintro e w2 ⟨rfl,hb2⟩;have BB:=Oi (aa B1.out hb2);clear hb2;go_wp2_with fail
   go_ret2
   exact ⟨BB.out,rfl⟩
 | true =>
   have hlo:=HM.out hm;rw [hm] at LW HE;rw [if_pos rfl] at HE;rw [HE.out];have LE:=Oi (fun v (hbl:Below w.heap.size w v) i j (hi:i<P)=>L1.out v hbl hlo i j hi)
   have FS:=Oi (fun i j hj=>Dq (P:=P) (T:=T) xV ow (i:=i) (j:=j) hj)
   have FL:=Oi (fun m=>vT P T xV ow m)
   have F0:Hid (hH P T xV ow 0=[]):=rfl;clear HE HM hm hlo L1
   go_enter Tryz.func199,Tryz.ntmps199;go_wp2_with fail;refine (LW.out _ B1.out).mono ?_;rintro e w2 ⟨rfl,hb2⟩;have hs2:w.heap.size+1≤w2.heap.size:=by have:=hb2.size;simp at this;omega
   have HO2:=Oi (bS (bz w2 2) hs2);have K2:=KG.out.same hb2;obtain ⟨w3,hw3⟩:∃ X,X=w2.alloc (.cells #[] 2):=⟨_,rfl⟩;have HO3:Hid (w3.ownsRow (w.heap.size+1) 2 1 (.slice (some ⟨w2.heap.size,0,none⟩) 0 0) 0 []):=by rw [hw3];exact HO2.out
   have KG3:Hid (Blk w3 w.heap.size [.int .i64 P,.int .i64 T,.slice aV xV.length cV] 28):=by rw [hw3];exact K2.alloc _
   have B3:Hid (Below w.heap.size w w3):=by rw [hw3];exact aa (aa B1.out hb2) (ai _ _)
   have hs3:w.heap.size+1≤w3.heap.size:=by rw [hw3];simp;omega
   have q0:(w2.alloc (.cells #[] 2)).cell? ⟨w.heap.size,0,none⟩=some (.int .i64 P):=(K2.alloc _).cell 0;clear hb2 HO2 K2 LW;go_wp2_with fail;rw [← hw3];clear q0 hw3
   go_loopw [16,6] (fun iv ov wr=>∃ (i:Nat) (v:Value),i≤P∧iv=.int .i64 i∧ov=v∧Hid (wr.ownsRow (w.heap.size+1) 2 1 v (hH P T xV ow (i * P)).length (ae (hH P T xV ow (i * P))))∧Hid (Below (w.heap.size+1) w3 wr)) (fun iv _ _=>P - (intOf iv).toNat)
   case atStart=>exact ⟨0,_,Nat.zero_le _,rfl,rfl,(by rw [Hid,Nat.zero_mul,F0.out];exact HO3.out),Below.refl _ _⟩
   case round =>
    clear HO3;obtain ⟨i,v,hi,rfl,rfl,ho,hw⟩:=hrel;have i0:(0:Int)≤(i:Int):=Int.natCast_nonneg _
    by_cases hlt:i<P
    · have hii:(i:Int)<(P:Int):=by omega
      have q0:wr.cell? ⟨w.heap.size,0,none⟩=some (.int .i64 P):=(KG3.out.below hw.out (by omega)).cell 0
      go_wp2_with fail;clear q0
      go_loopw [21,6] (fun jv ov wr=>∃ (j:Nat) (v:Value),j≤P∧jv=.int .i64 j∧ov=v∧Hid (wr.ownsRow (w.heap.size+1) 2 1 v (hH P T xV ow (i * P+j)).length (ae (hH P T xV ow (i * P+j))))∧Hid (Below (w.heap.size+1) w3 wr)) (fun jv _ _=>P - (intOf jv).toNat)
      case atStart=>exact ⟨0,_,Nat.zero_le _,rfl,rfl,ho.out,hw.out⟩
      case round =>
       clear ho hw;obtain ⟨j,v,hj,rfl,rfl,ho,hw⟩:=hrel;have j0:(0:Int)≤(j:Int):=Int.natCast_nonneg _
       by_cases hjl:j<P
       · have hji:(j:Int)<(P:Int):=by omega
         have HST:=Oi (FS.out i j hjl);have hln:=Nat.le_of_eq (FL.out (i * P+j));have hcl:i * P+j<P * P:=dH hlt hjl;have K:=KG3.out.below hw.out (by omega)
         have q0:wr.cell? ⟨w.heap.size,0,none⟩=some (.int .i64 P):=K.cell 0;have q1:wr.cell? ⟨w.heap.size,1,none⟩=some (.int .i64 T):=K.cell 1;have q2:wr.cell? ⟨w.heap.size,2,none⟩=some (.slice aV xV.length cV):=K.cell 2;have hsz:w.heap.size+1≤wr.heap.size:=by have:=hw.out.size;omega
         have LE1:=Oi (LE.out wr (B3.out.trans (hw.out.mono (by omega))) i j hlt)
         obtain ⟨s,hs'⟩:∃ s,s=fW T xV ow i j:=⟨_,rfl⟩;rw [← hs'] at LE1 HST;clear hs' K;go_wp2_with fail;refine LE1.out.mono ?_;rintro e w4 ⟨rfl,hb4⟩;have hW4:=Oi (hw.out.trans (hb4.mono hsz));have hO4:=Oi (aD ho.out hb4);have hsz4:w.heap.size+1≤w4.heap.size:=by have:=hb4.size;omega
         clear hb4 q0 q1 q2 LE1 ho hw
         go_wp2_with (at_builtin;refine aQ _ rfl _ _ 24 rfl (w.heap.size+1) 2 (.int .i64 0) 8 Tryz.underlying24 aZ rfl _ _ _ rfl hO4.out (.int .i64 s) rfl rfl (by omega) (by omega) hsz4 ?_)
         intro v8 w8 o8 g8 n8;have H8:Hid (w8.ownsRow (w.heap.size+1) 2 1 v8 (hH P T xV ow (i * P+(j+1))).length (ae (hH P T xV ow (i * P+(j+1))))):=by
          rw [Hid,HST.out,bk,List.length_append];exact o8
         have B8:=Oi (ah hW4.out hO4.out g8 (Nat.le_refl _) hsz4);clear o8 g8 n8;go_wp2_with fail;go_roundw
         case rel=>exact ⟨j+1,v8,by omega,by go_num,rfl,H8,B8⟩
         case measure=>simp [intOf];omega
       · obtain rfl:j=P:=by omega
         have e2:i * j+j=(i+1) * j:=by rw [Nat.add_mul,Nat.one_mul]
         rw [e2] at ho;go_wp2_with fail;go_roundw
         case rel=>exact ⟨i+1,_,by omega,by go_num,rfl,ho,hw⟩
         case measure=>simp [intOf];omega
    · obtain rfl:i=P:=by omega
      obtain ⟨a',c',e',hcap,_⟩:=ba ho.out;subst e';have HRd:=Oi (ay ho.out (Nat.le_refl _));have BZ:=Oi (B3.out.trans (hw.out.mono (by omega)))
      clear ho hcap;go_wp2_with fail
      go_ret2
      exact ⟨BZ.out,a',c',rfl,HRd.out⟩
structure DD where
 R:Int
 C:Int
 A:List Int
 B:List Int
 P:Int
 T:Int
 V:List Int
 U:Int
 N:Int
 W:List Int
 K:List Int
 F:List Nat
structure DA where
 a:Option Addr
 ca:Nat
 b:Option Addr
 cb:Nat
 v:Option Addr
 cv:Nat
 w:Option Addr
 cw:Nat
 k:Option Addr
 ck:Nat
 f:Option Addr
 cf:Nat
def DD.cells (d:DD) (x:DA):List Value:=[.int .i64 d.R,.int .i64 d.C,.slice x.a d.A.length x.ca,.slice x.b d.B.length x.cb,.int .i64 d.P,.int .i64 d.T,.slice x.v d.V.length x.cv,.int .i64 d.U,.int .i64 d.N,.slice x.w d.W.length x.cw,.slice x.k d.K.length x.ck,.slice x.f d.F.length x.cf]
def DD.val (d:DD) (x:DA):Value:=.agg #[.int .i64 d.R,.int .i64 d.C,.slice x.a d.A.length x.ca,.slice x.b d.B.length x.cb,.int .i64 d.P,.int .i64 d.T,.slice x.v d.V.length x.cv,.int .i64 d.U,.int .i64 d.N,.slice x.w d.W.length x.cw,.slice x.k d.K.length x.ck,.slice x.f d.F.length x.cf]
def DD.ok (d:DD):Bool:=gQ d.R d.C d.A d.B d.P d.T d.V d.U d.N d.W d.K d.F
structure DRd (w:World) (Z:Nat) (d:DD) (x:DA):Prop where
 r:RdDesk w Z x.a d.A x.b d.B x.v d.V x.w d.W x.k d.K x.f d.F
 f:∀ y∈d.F,y<4294967296
theorem RdDesk.below {w w':World} {Z M:Nat} {aA aB aV aW aC aT:Option Addr} {xA xB xV xW xC:List Int} {xT:List Nat} (h:RdDesk w Z aA xA aB xB aV xV aW xW aC xC aT xT) (hb:Below M w w') (hZ:Z≤M):RdDesk w' Z aA xA aB xB aV xV aW xW aC xC aT xT :=
 ⟨h.A.below hb hZ,h.B.below hb hZ,h.V.below hb hZ,h.W.below hb hZ,h.C.below hb hZ,h.T.below hb hZ⟩
theorem DRd.to {w w':World} {d:DD} {x:DA} (h:DRd w w.heap.size d x) (hb:Below w.heap.size w w'):DRd w' w'.heap.size d x:=⟨h.r.to hb,h.f⟩
theorem DRd.below {w w':World} {Z M:Nat} {d:DD} {x:DA} (h:DRd w Z d x) (hb:Below M w w') (hZ:Z≤M):DRd w' Z d x:=⟨h.r.below hb hZ,h.f⟩
theorem DRd.touch {w w':World} {Z lo hi:Nat} {d:DD} {x:DA} (h:DRd w Z d x) (ht:Touch w w' lo hi) (hZ:Z≤lo) (hs:Z≤w.heap.size):DRd w' Z d x :=
 ⟨⟨h.r.A.touch ht hZ hs,h.r.B.touch ht hZ hs,h.r.V.touch ht hZ hs,h.r.W.touch ht hZ hs,h.r.C.touch ht hZ hs,h.r.T.touch ht hZ hs⟩,h.f⟩
theorem DRd.mono {w:World} {Z Z':Nat} {d:DD} {x:DA} (h:DRd w Z d x) (hZ:Z≤Z'):DRd w Z' d x :=
 ⟨⟨h.r.A.mono hZ,h.r.B.mono hZ,h.r.V.mono hZ,h.r.W.mono hZ,h.r.C.mono hZ,h.r.T.mono hZ⟩,h.f⟩
theorem DD.ok_parts {d:DD} (h:d.ok=true):cZ d.R d.C d.A d.B=true∧bM d.P d.T d.V=true∧bu ⟨d.U,d.N,d.W,d.K⟩=true∧lp d.F=true:=by
 unfold DD.ok gQ at h;rw [Bool.and_eq_true,Bool.and_eq_true,Bool.and_eq_true] at h;exact ⟨h.1.1.1,h.1.1.2,h.1.2,h.2⟩
theorem DD.ok_len {d:DD} (h:d.ok=true):(1≤d.A.length∧d.A.length≤36)∧(1≤d.B.length∧d.B.length≤36)∧(1≤d.V.length∧d.V.length≤48)∧(1≤d.W.length∧d.W.length≤8)∧(1≤d.K.length∧d.K.length≤64)∧1≤d.F.length∧d.F.length≤16:=by
 obtain ⟨g,v,c,t⟩:=DD.ok_parts h;obtain ⟨R,C,-,-,r1,r6,c1,c6,lA,lB,-,-⟩:=eH g;obtain ⟨P,T,-,-,p1,p6,t1,t8,lV,-⟩:=db v;have hc:=em c;have a1:1 * 1≤R * C:=Nat.mul_le_mul r1 c1;have a2:R * C≤6 * 6:=Nat.mul_le_mul r6 c6;have v1:1 * 1≤P * T:=Nat.mul_le_mul p1 t1;have v2:P * T≤6 * 8:=Nat.mul_le_mul p6 t8;have u1:1≤d.U:=hc.u1;have u8:d.U≤8:=hc.u8;have n1:1≤d.N:=hc.r1;have n8:d.N≤8:=hc.r8;have w1:1≤d.W.length:=hc.w1;have w8:d.W.length≤8:=hc.w8;have hl:(d.K.length:Int)=d.U * d.N:=hc.clen;obtain ⟨u,hu⟩:∃ u:Nat,d.U=(u:Int):=⟨d.U.toNat,by omega⟩;obtain ⟨n,hn⟩:∃ n:Nat,d.N=(n:Int):=⟨d.N.toNat,by omega⟩;rw [hu,hn,← Int.natCast_mul] at hl;have k1:1 * 1≤u * n:=Nat.mul_le_mul (by omega) (by omega)
 have k2:u * n≤8 * 8:=Nat.mul_le_mul (by omega) (by omega)
 unfold lp at t;rw [Bool.and_eq_true,Bool.and_eq_true,decide_eq_true_eq,decide_eq_true_eq] at t;refine ⟨by omega,by omega,by omega,by omega,by omega,by omega,by omega⟩
end Go.Proofs.YtbknhgapjjaelaaGreatDoor
