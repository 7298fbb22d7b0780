/-
  Part 7 of what the proof stands on: lemmas and contracts, each with its conditions ahead of the colon.
-/
import Derived.Test.YtbknhgapjjaelaaGreatDoorPj01
import Derived.Test.YtbknhgapjjaelaaGreatDoorPj05
import Derived.Test.YtbknhgapjjaelaaGreatDoorPj06
set_option maxRecDepth 10000
set_option maxHeartbeats 4000000
namespace Go.Proofs.YtbknhgapjjaelaaGreatDoor
set_option linter.unusedVariables false
set_option linter.unusedSimpArgs false
open Go.RowKit
structure Cr where
 U:Int
 R:Int
 ways:List Int
 costs:List Int
def gF (w:Int) (r:Nat):Int:=w / 2 ^ r % 2
theorem nJ (w:Int) (r:Nat):gF w r=0∨gF w r=1:=by unfold gF;omega
def gI (f:Nat→Int):Nat→Int
 | 0=>0
 | k+1=>gI f k+f k
theorem vQ {f g:Nat→Int}:∀ {n:Nat},(∀ i,i<n→f i=g i)→gI f n=gI g n
 | 0,_=>rfl
 | n+1,h=>by rw [gI,gI,vQ (n:=n) (fun i hi=>h i (by omega)),h n (by omega)]
theorem uE (f g:Nat→Int):∀ n,gI (fun i=>f i - g i) n=gI f n - gI g n
 | 0=>rfl
 | n+1=>by simp only [gI];rw [uE f g n];omega
theorem nQ {f:Nat→Int} {m:Int}:∀ {n:Nat},(∀ i,i<n→-m≤f i∧f i≤m)→-(m * n)≤gI f n∧gI f n≤m * n
 | 0,_=>by simp [gI]
 | n+1,h=>by
   have i1:=nQ (n:=n) (fun i hi=>h i (by omega))
   have h2:=h n (by omega)
   have e:m * ((n+1:Nat):Int)=m * n+m:=by rw [Int.natCast_add,Int.mul_add];simp
   simp only [gI];rw [e];omega
def df (c:Cr) (ch:List Int) (r:Nat):Int:=(ch.map fun k=>gF (c.ways.getD k.toNat 0) r).sum
theorem nN (c:Cr) (r:Nat):∀ ch:List Int,0≤df c ch r∧df c ch r≤ch.length
 | []=>by simp [df]
 | k :: ch=>by
   have:=nN c r ch;have h2:=nJ (c.ways.getD k.toNat 0) r;simp only [df,List.map_cons,List.sum_cons,List.length_cons] at this ⊢;omega
theorem If (c:Cr) (ch:List Int) (k:Int) (r:Nat):df c (ch ++ [k]) r=df c ch r+gF (c.ways.getD k.toNat 0) r:=by simp [df]
theorem A2 (c:Cr) (r:Nat) (k:Int):∀ (ch:List Int) (u:Nat),u<ch.length→df c (ch.set u k) r=df c ch r - gF (c.ways.getD (ch.getD u 0).toNat 0) r+gF (c.ways.getD k.toNat 0) r
 | [],u,h=>by simp at h
 | x :: ch,0,_=>by simp [df];omega
 | x :: ch,u+1,h=>by
   have:=A2 c r k ch u (by simpa using h)
   simp only [df,List.set_cons_succ,List.map_cons,List.sum_cons,List.getD_cons_succ] at this ⊢;omega
theorem wR (c:Cr) (r:Nat):∀ (ch:List Int) (u:Nat),u<ch.length→gF (c.ways.getD (ch.getD u 0).toNat 0) r≤df c ch r
 | [],u,h=>by simp at h
 | x :: ch,0,_=>by
   have:=nN c r ch;simp only [df,List.map_cons,List.sum_cons,List.getD_cons_zero] at this ⊢;omega
 | x :: ch,u+1,h=>by
   have:=wR c r ch u (by simpa using h)
   have h2:=nJ (c.ways.getD x.toNat 0) r;simp only [df,List.map_cons,List.sum_cons,List.getD_cons_succ] at this ⊢;omega
def fG (c:Cr) (r:Nat) (n:Int):Int:=if n=0 then 0 else c.costs.getD ((r:Int) * c.U+n - 1).toNat 0
def pH (c:Cr) (ch:List Int) (w:Int) (r:Nat):Int:=if gF (c.ways.getD w.toNat 0) r=1 then fG c r (df c ch r) else 0
def dl (c:Cr) (ch:List Int) (u:Nat):Int:=gI (pH c ch (ch.getD u 0)) c.R.toNat
def FH (c:Cr) (ch:List Int) (r:Nat):Int:=gI (fun k=>fG c r (k+1)) (df c ch r).toNat
def qQ (c:Cr) (ch:List Int):Int:=gI (FH c ch) c.R.toNat
theorem gJ {xs:List Int} {q:Nat} (h:q<xs.length) (v:Int):(xs.set q v).getD q 0=v:=by simp [List.getD,h]
theorem Kq (c:Cr) (ch:List Int) (u:Nat) (k:Int) (hu:u<ch.length):qQ c (ch.set u k) - qQ c ch=dl c (ch.set u k) u - dl c ch u:=by
 unfold qQ dl;rw [← uE,← uE,gJ hu];refine vQ fun r _=>?_
 have e1:=A2 c r k ch u hu;have e2:=wR c r ch u hu;have e3:=nN c r ch;unfold FH pH;rw [e1];generalize df c ch r=L at *
 rcases nJ (c.ways.getD (ch.getD u 0).toNat 0) r with hb | hb <;> rcases nJ (c.ways.getD k.toNat 0) r with hb' | hb' <;> rw [hb] at e1 e2 ⊢ <;> rw [hb']
 · simp
 · obtain ⟨m,hm⟩:∃ m:Nat,L=m:=⟨L.toNat,by omega⟩
   subst hm;have e4:((m:Int) - 0+1).toNat=m+1:=by omega
   rw [e4,Int.toNat_natCast,gI];simp
   omega
 · obtain ⟨m,hm⟩:∃ m:Nat,L=(m:Int)+1:=⟨(L - 1).toNat,by omega⟩
   subst hm;have e4:((m:Int)+1 - 1+0).toNat=m:=by omega
   have e5:((m:Int)+1).toNat=m+1:=by omega
   rw [e4,e5,gI];simp
   omega
 · have e4:L - 1+1=L:=by omega
   rw [e4];simp
def ka (f:Nat→Int) (l:Int):Nat→Option Nat × Int
 | 0=>(none,l)
 | k+1=>if f k<(ka f l k).2 then (some k,f k) else ka f l k
theorem sm (f:Nat→Int) (l:Int):∀ n,(match (ka f l n).1 with | none=>(ka f l n).2=l | some k=>k<n∧(ka f l n).2=f k∧f k<l)∧(ka f l n).2≤l∧∀ k,k<n→(ka f l n).2≤f k
 | 0=>⟨rfl,Int.le_refl _,fun k hk=>by omega⟩
 | n+1=>by
   obtain ⟨h1,h2,h3⟩:=sm f l n;rw [ka]
   by_cases h:f n<(ka f l n).2
   · rw [if_pos h]
     refine ⟨⟨by omega,rfl,by omega⟩,by show f n≤l;omega,fun k hk=>?_⟩
     by_cases e:k=n
     · subst e;exact Int.le_refl _
     · have:=h3 k (by omega);show f n≤f k;omega
   · rw [if_neg h]
     refine ⟨?_,h2,fun k hk=>?_⟩
     · cases hs:(ka f l n).1 with
       | none=>rw [hs] at h1;exact h1
       | some k=>rw [hs] at h1;exact ⟨by omega,h1.2⟩
     · by_cases e:k=n
       · subst e;omega
       · exact h3 k (by omega)
def xm (c:Cr) (ch:List Int) (u:Nat):Option Nat:=(ka (fun k=>dl c (ch.set u (k:Int)) u) (dl c ch u) c.ways.length).1
def fU (c:Cr) (ch:List Int):Nat→Nat→Option (Nat × Nat)
 | 0,_=>none
 | f+1,u=>match xm c ch u with
   | some k=>some (u,k)
   | none=>fU c ch f (u+1)
def de (c:Cr) (ch:List Int):Option (Nat × Nat):=fU c ch ch.length 0
theorem Jr {c:Cr} {ch:List Int} {u k:Nat} (h:xm c ch u=some k):k<c.ways.length∧dl c (ch.set u (k:Int)) u<dl c ch u:=by
 have:=(sm (fun k=>dl c (ch.set u (k:Int)) u) (dl c ch u) c.ways.length).1
 unfold xm at h;rw [h] at this;exact ⟨this.1,this.2.2⟩
theorem pb {c:Cr} {ch:List Int} {p:Nat × Nat}:∀ {f u:Nat},fU c ch f u=some p→p.1<u+f∧xm c ch p.1=some p.2
 | 0,_,h=>by simp [fU] at h
 | f+1,u,h=>by
   rw [fU] at h
   split at h
   case h_1 k hk=>injection h with h;subst h;exact ⟨by omega,hk⟩
   case h_2=>have:=pb h;exact ⟨by omega,this.2⟩
theorem iM {c:Cr} {ch:List Int} {u k:Nat} (h:de c ch=some (u,k)):u<ch.length∧k<c.ways.length∧qQ c (ch.set u (k:Int))<qQ c ch:=by
 obtain ⟨h1,h2⟩:=pb h;obtain ⟨h3,h4⟩:=Jr h2;have hu:u<ch.length:=by simpa using h1
 have:=Kq c ch u k hu;exact ⟨hu,h3,by simp only at h4;omega⟩
def bu (c:Cr):Bool:=eG c.U 1 8 && eG c.R 1 8 && cU c.ways 1 8 1 (2 ^ c.R.toNat - 1) && cU c.costs (c.U * c.R) (c.U * c.R) (-100000) 100000
structure Valid (c:Cr):Prop where
 u1:1≤c.U
 u8:c.U≤8
 r1:1≤c.R
 r8:c.R≤8
 w1:1≤c.ways.length
 w8:c.ways.length≤8
 way:∀ x∈c.ways,1≤x∧x≤255
 clen:(c.costs.length:Int)=c.U * c.R
 cost:∀ x∈c.costs,-100000≤x∧x≤100000
theorem em {c:Cr} (h:bu c=true):Valid c:=by
 simp only [bu,Bool.and_eq_true,cx,mD] at h;obtain ⟨⟨⟨⟨h1,h2⟩,h3,h4⟩,⟨h5,h6⟩,h7⟩,⟨h8,h9⟩,h10⟩:=h;refine ⟨h1,h2,h3,h4,by omega,by omega,fun x hx=>?_,by omega,h10⟩
 have h11:=h7 x hx;have:(2:Int) ^ c.R.toNat≤2 ^ 8:=by
  have:(2:Nat) ^ c.R.toNat≤2 ^ 8:=Nat.pow_le_pow_right (by omega) (by omega)
  exact_mod_cast this
 omega
def jh (c:Cr) (ch:List Int):Bool:=bu c && cU ch c.U c.U 0 ((c.ways.length:Int) - 1)
structure Can (c:Cr) (ch:List Int):Prop where
 v:Valid c
 len:(ch.length:Int)=c.U
 mem:∀ x∈ch,0≤x∧x<c.ways.length
theorem zV {c:Cr} {ch:List Int} (h:jh c ch=true):Can c ch:=by
 simp only [jh,Bool.and_eq_true,mD] at h;obtain ⟨h1,⟨h2,h3⟩,h4⟩:=h;exact ⟨em h1,by omega,fun x hx=>by have:=h4 x hx;omega⟩
theorem Can.set {c:Cr} {ch:List Int} (h:Can c ch) {u k:Nat} (hk:k<c.ways.length):Can c (ch.set u (k:Int)) :=
 ⟨h.v,by rw [List.length_set];exact h.len,fun x hx=>by
   rcases List.mem_or_eq_of_mem_set hx with hx | rfl
   · exact h.mem x hx
   · omega⟩
theorem nK {c:Cr} (h:Valid c) (r:Nat) (n:Int):-100000≤fG c r n∧fG c r n≤100000:=by
 unfold fG
 split
 · omega
 · by_cases hj:((r:Int) * c.U+n - 1).toNat<c.costs.length
   · exact h.cost _ (List.mem_of_getElem? (rD hj))
   · rw [List.getD_eq_getElem?_getD,List.getElem?_eq_none (by omega),Option.getD_none];omega
theorem wV {c:Cr} (h:Valid c) (ch:List Int) (u:Nat):-800000≤dl c ch u∧dl c ch u≤800000:=by
 have:=nQ (f:=pH c ch (ch.getD u 0)) (m:=100000) (n:=c.R.toNat) (fun i _=>by
  unfold pH
  split
  · exact nK h i _
  · omega)
 have h8:=h.r8;unfold dl;omega
theorem mG {c:Cr} {ch:List Int} (h:Can c ch):-6400000≤qQ c ch∧qQ c ch≤6400000:=by
 have h1:=h.len;have h2:=h.v.u8;have:=nQ (f:=FH c ch) (m:=800000) (n:=c.R.toNat) (fun r _=>by
  unfold FH;have hl:=nN c r ch;have:=nQ (f:=fun k=>fG c r (k+1)) (m:=100000) (n:=(df c ch r).toNat) (fun i _=>nK h.v r _)
  omega)
 have h8:=h.v.r8;unfold qQ;omega
def iZ (c:Cr):Nat→List Int→List Int × Nat
 | 0,ch=>(ch,0)
 | n+1,ch=>match de c ch with
   | none=>(ch,0)
   | some (u,k)=>((iZ c n (ch.set u (k:Int))).1,(iZ c n (ch.set u (k:Int))).2+1)
def eV (c:Cr) (ch:List Int):Nat:=(qQ c ch+6400000).toNat
def eO (c:Cr) (ch:List Int):List Int × Nat:=iZ c (eV c ch+1) ch
theorem sj {c:Cr}:∀ {n m:Nat} {ch:List Int},Can c ch→eV c ch<n→eV c ch<m→iZ c n ch=iZ c m ch
 | 0,_,_,_,h,_=>by omega
 | _+1,0,_,_,_,h=>by omega
 | n+1,m+1,ch,hc,h1,h2=>by
   rw [iZ,iZ]
   cases hb:de c ch with
   | none=>rfl
   | some p =>
     obtain ⟨u,k⟩:=p;obtain ⟨_,h4,h5⟩:=iM hb;have b1:=mG hc;have b2:=mG (hc.set (u:=u) h4);have:eV c (ch.set u (k:Int))<eV c ch:=by unfold eV;omega
     simp only;rw [sj (n:=n) (m:=m) (hc.set h4) (by omega) (by omega)]
theorem F2 {c:Cr} {ch:List Int} (h:de c ch=none):eO c ch=(ch,0):=by rw [eO,iZ,h]
theorem F3 {c:Cr} {ch:List Int} {u k:Nat} (hc:Can c ch) (h:de c ch=some (u,k)):eO c ch=((eO c (ch.set u (k:Int))).1,(eO c (ch.set u (k:Int))).2+1):=by
 obtain ⟨_,h4,h5⟩:=iM h;have b1:=mG hc;have b2:=mG (hc.set (u:=u) h4);have hm:eV c (ch.set u (k:Int))<eV c ch:=by unfold eV;omega
 rw [eO,iZ,h,eO];simp only;rw [sj (n:=eV c ch) (m:=eV c (ch.set u (k:Int))+1) (hc.set h4) (by omega) (by omega)]
theorem xO {c:Cr} {ch:List Int} {u k:Nat} (hc:Can c ch) (h:de c ch=some (u,k)):eV c (ch.set u (k:Int))<eV c ch:=by
 obtain ⟨_,h4,h5⟩:=iM h;have b1:=mG hc;have b2:=mG (hc.set (u:=u) h4);unfold eV;omega
theorem vI {c:Cr}:∀ {n:Nat} {ch:List Int},Can c ch→eV c ch<n→Can c (iZ c n ch).1∧de c (iZ c n ch).1=none∧(iZ c n ch).2+eV c (iZ c n ch).1≤eV c ch
 | 0,_,_,h=>by omega
 | n+1,ch,hc,h1=>by
   rw [iZ]
   cases hb:de c ch with
   | none=>exact ⟨hc,hb,by simp⟩
   | some p =>
     obtain ⟨u,k⟩:=p;have h4:=(iM hb).2.1;have:=xO hc hb;obtain ⟨i1,i2,i3⟩:=vI (n:=n) (hc.set (u:=u) h4) (by omega)
     exact ⟨i1,i2,by simp only;omega⟩
theorem qV {c:Cr} {ch:List Int} (hc:Can c ch):Can c (eO c ch).1∧de c (eO c ch).1=none∧(eO c ch).2+eV c (eO c ch).1≤eV c ch:=vI hc (by omega)
def cq (n:Int) (ch:List Int):Nat→List Int × Bool
 | 0=>(ch,false)
 | k+1=>if ch.getD k 0+1<n then (ch.set k (ch.getD k 0+1),true) else cq n (ch.set k 0) k
def dL (n:Nat) (ch:List Int):Nat:=ch.foldl (fun v x=>v * n+x.toNat) 0
theorem sw (n:Nat):∀ (ch:List Int) (v:Nat),ch.foldl (fun v x=>v * n+x.toNat) v=v * n ^ ch.length+dL n ch
 | [],v=>by simp [dL]
 | x :: ch,v=>by
   have e1:=sw n ch (v * n+x.toNat);have e2:=sw n ch (0 * n+x.toNat);simp only [dL,List.foldl_cons,List.length_cons] at e1 e2 ⊢;rw [e1,e2,Nat.pow_succ];simp only [Nat.zero_mul,Nat.zero_add,Nat.add_mul];rw [Nat.mul_assoc,Nat.mul_comm n,Nat.add_assoc]
theorem iQ (n:Nat) (p q:List Int):dL n (p ++ q)=dL n p * n ^ q.length+dL n q:=by
 unfold dL;rw [List.foldl_append];exact sw n q _
theorem nF (n m:Nat):dL n (List.replicate m 0)=0:=by
 induction m with
 | zero=>rfl
 | succ m ih=>rw [List.replicate_succ',iQ,ih];simp [dL]
theorem qY (n:Nat) (x:Int):dL n [x]=x.toNat:=by simp [dL]
def kT (n:Nat) (ch:List Int):Prop:=∀ x∈ch,0≤x∧x<n
theorem xi {n:Nat} (hn:1≤n) (ch:List Int) (h:kT n ch):dL n ch<n ^ ch.length:=by
 have:∀ m,m≤ch.length→dL n (ch.take m)<n ^ m:=by
  intro m
  induction m with
  | zero=>intro _;simp [dL]
  | succ m ih =>
    intro hm;have hx:=h _ (List.getElem_mem (show m<ch.length by omega))
    rw [List.take_succ_eq_append_getElem (by omega),iQ,qY]
    have h1:=ih (by omega)
    have h2:(dL n (ch.take m)+1) * n≤n ^ m * n:=Nat.mul_le_mul_right n h1;rw [Nat.pow_succ];rw [Nat.add_mul] at h2;simp only [List.length_singleton,Nat.pow_one];omega
 have:=this ch.length (Nat.le_refl _);rwa [List.take_length] at this
theorem Ck {n:Nat} (hn:1≤n):∀ (k:Nat) {p q:List Int},p.length=k→q.length=k→kT n p→kT n q→dL n p=dL n q→p=q
 | 0,p,q,h1,h2,_,_,_=>by rw [List.eq_nil_of_length_eq_zero h1,List.eq_nil_of_length_eq_zero h2]
 | k+1,p,q,h1,h2,hp,hq,h=>by
   obtain ⟨p',x,rfl⟩:∃ p' x,p=p' ++ [x]:=⟨p.dropLast,p.getLast (by intro e;subst e;simp at h1),(List.dropLast_concat_getLast _).symm⟩
   obtain ⟨q',y,rfl⟩:∃ q' y,q=q' ++ [y]:=⟨q.dropLast,q.getLast (by intro e;subst e;simp at h2),(List.dropLast_concat_getLast _).symm⟩
   rw [iQ,iQ,qY,qY] at h;simp only [List.length_singleton,Nat.pow_one] at h;have hx:=hp x (by simp)
   have hy:=hq y (by simp)
   have h3:dL n p'=dL n q':=by
    have e1:(dL n p' * n+x.toNat) / n=dL n p':=by rw [Nat.mul_comm,Nat.mul_add_div (by omega),Nat.div_eq_of_lt (by omega)];rfl
    have e2:(dL n q' * n+y.toNat) / n=dL n q':=by rw [Nat.mul_comm,Nat.mul_add_div (by omega),Nat.div_eq_of_lt (by omega)];rfl
    rw [← e1,← e2,h]
   have h4:x=y:=by rw [h3] at h;omega
   rw [Ck hn k (by simpa using h1) (by simpa using h2) (fun z hz=>hp z (by simp [hz])) (fun z hz=>hq z (by simp [hz])) h3,h4]
theorem pm {n:Nat} (hn:1≤n):∀ (k m:Nat) (p:List Int),p.length=k→kT n p →
 ((cq n (p ++ List.replicate m 0) k).2=true→(cq n (p ++ List.replicate m 0) k).1.length=k+m∧kT n (cq n (p ++ List.replicate m 0) k).1∧dL n (cq n (p ++ List.replicate m 0) k).1=dL n (p ++ List.replicate m 0)+n ^ m) ∧
 ((cq n (p ++ List.replicate m 0) k).2=false→dL n (p ++ List.replicate m 0)+n ^ m=n ^ (k+m))
 | 0,m,p,hp,_=>by
   have:p=[]:=List.eq_nil_of_length_eq_zero hp;subst this;refine ⟨fun h=>by simp [cq] at h,fun _=>?_⟩
   rw [List.nil_append,nF,Nat.zero_add,Nat.zero_add]
 | k+1,m,p,hp,hd=>by
   obtain ⟨p',x,rfl⟩:∃ p' x,p=p' ++ [x]:=⟨p.dropLast,p.getLast (by intro e;subst e;simp at hp),(List.dropLast_concat_getLast _).symm⟩
   have hk:p'.length=k:=by simpa using hp
   have hx:=hd x (by simp)
   have hd':kT n p':=fun z hz=>hd z (by simp [hz])
   have e1:(p' ++ [x] ++ List.replicate m 0).getD k 0=x:=by simp [List.getD,List.getElem?_append_right,hk]
   have e2:∀ v:Int,(p' ++ [x] ++ List.replicate m 0).set k v=p' ++ [v] ++ List.replicate m 0:=by
    intro v;rw [List.append_assoc,List.set_append_right _ _ (by omega),hk,Nat.sub_self]
    simp
   have e3:p' ++ [0] ++ List.replicate m 0=p' ++ List.replicate (m+1) (0:Int):=by rw [List.replicate_succ];simp
   rw [cq,e1,e2,e2];have v1:∀ v:Int,dL n (p' ++ [v] ++ List.replicate m 0)=(dL n p' * n+v.toNat) * n ^ m:=by
    intro v;rw [iQ,iQ,nF,qY];simp
   by_cases hlt:x+1<n
   · rw [if_pos hlt]
     refine ⟨fun _=>⟨by simp;omega,?_,?_⟩,fun h=>by cases h⟩
     · intro z hz
       simp only [List.mem_append,List.mem_singleton] at hz
       rcases hz with (hz | rfl) | hz
       · exact hd' z hz
       · omega
       · rw [List.eq_of_mem_replicate hz];omega
     · show dL n (p' ++ [x+1] ++ List.replicate m 0)=_
       rw [v1,v1,show (x+1).toNat=x.toNat+1 by omega,← Nat.add_assoc,Nat.add_mul _ 1,Nat.one_mul]
   · rw [if_neg hlt,e3]
     obtain ⟨i1,i2⟩:=pm hn k (m+1) p' hk hd';have v2:dL n (p' ++ List.replicate (m+1) 0)+(n - 1) * n ^ m=dL n (p' ++ [x] ++ List.replicate m 0):=by
      rw [← e3,v1,v1,show x.toNat=n - 1 by omega]
      simp [Nat.add_mul]
     have v3:n ^ (m+1)=(n - 1) * n ^ m+n ^ m:=by
      rw [Nat.pow_succ,Nat.mul_comm,Nat.sub_mul,Nat.one_mul];have:1 * n ^ m≤n * n ^ m:=Nat.mul_le_mul_right _ hn;omega
     refine ⟨fun h=>?_,fun h=>?_⟩
     · obtain ⟨j1,j2,j3⟩:=i1 h
       exact ⟨by omega,j2,by omega⟩
     · have:=i2 h
       rw [show k+1+m=k+(m+1) by omega]
       omega
def cE (n U:Nat):Nat→List Int
 | 0=>List.replicate U 0
 | t+1=>(cq n (cE n U t) U).1
theorem vo (n:Int):∀ (k:Nat) (ch:List Int),(cq n ch k).1.length=ch.length
 | 0,ch=>rfl
 | k+1,ch=>by
   rw [cq]
   split
   · simp
   · rw [vo n k];simp
theorem fN (n U:Nat):∀ t,(cE n U t).length=U
 | 0=>by simp [cE]
 | t+1=>by rw [cE,vo,fN n U t]
theorem mu {n:Nat} (hn:1≤n) (U:Nat):∀ t,t<n ^ U→kT n (cE n U t)∧dL n (cE n U t)=t∧((cq n (cE n U t) U).2=decide (t+1<n ^ U))
 | 0,h=>by
   have hd:kT n (List.replicate U 0):=fun x hx=>by rw [List.eq_of_mem_replicate hx];omega
   refine ⟨hd,nF n U,?_⟩
   obtain ⟨i1,i2⟩:=pm hn U 0 (List.replicate U 0) (by simp) hd
   simp only [List.replicate_zero,List.append_nil,nF,Nat.pow_zero,Nat.zero_add,Nat.add_zero] at i1 i2;rw [cE]
   cases hb:(cq n (List.replicate U 0) U).2 with
   | true =>
     obtain ⟨j1,j2,j3⟩:=i1 hb;have:=xi hn _ j2;rw [j1,j3] at this;simp [this]
   | false=>have:=i2 hb;simp;omega
 | t+1,h=>by
   obtain ⟨h1,h2,h3⟩:=mu hn U t (by omega)
   obtain ⟨i1,i2⟩:=pm hn U 0 (cE n U t) (fN n U t) h1;simp only [List.replicate_zero,List.append_nil,Nat.pow_zero,Nat.add_zero] at i1 i2;rw [h3,decide_eq_true h] at i1;obtain ⟨j1,j2,j3⟩:=i1 rfl;rw [h2] at j3;refine ⟨j2,j3,?_⟩
   obtain ⟨k1,k2⟩:=pm hn U 0 (cE n U (t+1)) (fN n U _) j2;simp only [List.replicate_zero,List.append_nil,Nat.pow_zero,Nat.add_zero] at k1 k2;rw [show dL n (cE n U (t+1))=t+1 from j3] at k1 k2
   cases hb:(cq n (cE n U (t+1)) U).2 with
   | true =>
     obtain ⟨l1,l2,l3⟩:=k1 hb;have:=xi hn _ l2;rw [l1,l3] at this;simp [this]
   | false=>have:=k2 hb;simp;omega
theorem Mi {n:Nat} (hn:1≤n) {U:Nat} {ch:List Int} (hl:ch.length=U) (hd:kT n ch):dL n ch<n ^ U∧ch=cE n U (dL n ch):=by
 have hv:=xi hn ch hd;rw [hl] at hv;obtain ⟨h1,h2,_⟩:=mu hn U _ hv;exact ⟨hv,Ck hn U hl (fN _ _ _) hd h1 h2.symm⟩
def cP (c:Cr) (ch:List Int):Int:=gI (dl c ch) c.U.toNat
abbrev eb:=Option (List Int × Int)
def di (c:Cr) (ch:List Int):eb→eb
 | none=>some (ch,cP c ch)
 | some (b,l)=>if cP c ch<l then some (ch,cP c ch) else some (b,l)
def dc (c:Cr) (ch:List Int) (s:eb):eb :=
 if (de c ch).isSome then s else match s with
  | none=>some (ch,cP c ch)
  | some (b,m)=>if m<cP c ch then some (ch,cP c ch) else some (b,m)
def dM (n U:Nat) (f:List Int→eb→eb):Nat→eb
 | 0=>none
 | t+1=>f (cE n U t) (dM n U f t)
def gj (c:Cr):Bool:=decide (c.ways.length ^ c.U.toNat≤4096)
def jl (c:Cr):eb:=if bu c && gj c then dM c.ways.length c.U.toNat (di c) (c.ways.length ^ c.U.toNat) else none
def jq (c:Cr):eb:=if bu c && gj c then dM c.ways.length c.U.toNat (dc c) (c.ways.length ^ c.U.toNat) else none
theorem uh {c:Cr} (h:Valid c) {t:Nat} (ht:t<c.ways.length ^ c.U.toNat):Can c (cE c.ways.length c.U.toNat t) :=
 ⟨h,by have:=fN c.ways.length c.U.toNat t;have:=h.u1;omega,fun x hx=>(mu h.w1 _ t ht).1 x hx⟩
theorem Es {c:Cr} (h:Valid c):0<c.ways.length ^ c.U.toNat:=Nat.pow_pos h.w1
theorem vd {c:Cr} {t:Nat}:(dM c.ways.length c.U.toNat (di c) (t+1)).isSome:=by
 rw [dM]
 cases dM c.ways.length c.U.toNat (di c) t with
 | none=>rfl
 | some p =>
   obtain ⟨b,l⟩:=p;simp only [di]
   split <;> rfl
theorem Gv {c:Cr} {ch:List Int} {s:eb} (h:s.isSome):(dc c ch s).isSome:=by
 unfold dc
 split
 · exact h
 · cases s with
   | none=>rfl
   | some p =>
     obtain ⟨b,m⟩:=p;simp only
     split <;> rfl
theorem JB {c:Cr} {ch:List Int} {s:eb} (h:de c ch=none):(dc c ch s).isSome:=by
 unfold dc;rw [h];simp only [Option.isSome_none,Bool.false_eq_true,if_false]
 cases s with
 | none=>rfl
 | some p =>
   obtain ⟨b,m⟩:=p;simp only
   split <;> rfl
theorem wn {c:Cr} (h:Valid c):(dM c.ways.length c.U.toNat (dc c) (c.ways.length ^ c.U.toNat)).isSome:=by
 have hc:=uh h (Es h);obtain ⟨h1,h2,_⟩:=qV hc;obtain ⟨h3,h4⟩:=Mi h.w1 (U:=c.U.toNat) (by have:=h1.len;omega) (fun x hx=>h1.mem x hx)
 have key:∀ t,dL c.ways.length (eO c (cE c.ways.length c.U.toNat 0)).1<t→(dM c.ways.length c.U.toNat (dc c) t).isSome:=by
  intro t
  induction t with
  | zero=>intro h;omega
  | succ t ih =>
    intro hlt;rw [dM]
    by_cases e:t=dL c.ways.length (eO c (cE c.ways.length c.U.toNat 0)).1
    · rw [e,← h4]
      exact JB h2
    · exact Gv (ih (by omega))
 exact key _ h3
theorem uH {c:Cr} (h:Valid c) (ch:List Int):-6400000≤cP c ch∧cP c ch≤6400000:=by
 have:=nQ (f:=dl c ch) (m:=800000) (n:=c.U.toNat) (fun i _=>wV h ch i)
 have:=h.u8;unfold cP;omega
def RdCrowd (w:World) (B:Nat) (a2:Option Addr) (x2:List Int) (a3:Option Addr) (x3:List Int):Prop:=Rd w B a2 (ae x2)∧Rd w B a3 (ae x3)
def JE (w:World) (lo hi:Nat) (a2:Option Addr) (c2:Nat) (x2:List Int) (a3:Option Addr) (c3:Nat) (x3:List Int):Prop :=
 ∃ m3:Nat,(lo≤m3∧m3≤hi)∧OwnI 2 w lo m3 a2 c2 x2∧OwnI 2 w m3 hi a3 c3 x3
section
variable {w w':World} {B C lo hi:Nat} {a2:Option Addr} {x2:List Int} {a3:Option Addr} {x3:List Int} {c2:Nat} {c3:Nat}
theorem RdCrowd.below (h:RdCrowd w B a2 x2 a3 x3) (hb:Below C w w') (hB:B≤C):RdCrowd w' B a2 x2 a3 x3:=⟨Rd.below (h.1) hb hB,Rd.below (h.2) hb hB⟩
theorem RdCrowd.mono (h:RdCrowd w B a2 x2 a3 x3) (hB:B≤C):RdCrowd w C a2 x2 a3 x3:=⟨Rd.mono (h.1) hB,Rd.mono (h.2) hB⟩
theorem RdCrowd.to (h:RdCrowd w w.heap.size a2 x2 a3 x3) (hb:Below w.heap.size w w'):RdCrowd w' w'.heap.size a2 x2 a3 x3:=(h.below hb (Nat.le_refl _)).mono hb.size
end
theorem Ee {U R:Int} (u1:1≤U) (u8:U≤8) (r1:1≤R) (r8:R≤8):1≤U * R∧U * R≤64:=by
 have h1:1 * 1≤U * R:=Int.mul_le_mul u1 r1 (by omega) (by omega)
 have h2:U * R≤8 * 8:=Int.mul_le_mul u8 r8 (by omega) (by omega)
 omega
theorem NF {R:Int} (r1:1≤R) (r8:R≤8):2≤(2:Int) ^ R.toNat∧(2:Int) ^ R.toNat≤256:=by
 have:R=1∨R=2∨R=3∨R=4∨R=5∨R=6∨R=7∨R=8:=by omega
 rcases this with rfl | rfl | rfl | rfl | rfl | rfl | rfl | rfl <;> decide
theorem Kt {R:Int} (r1:1≤R) (r8:R≤8):wrap64 (wrap64 (2 ^ R.toNat) - 1)=2 ^ R.toNat - 1:=by
 have:=NF r1 r8;rw [IntWalk.wrap64_in (2 ^ R.toNat) (by omega),IntWalk.wrap64_in _ (by omega)]
theorem dJ (w:World) (U R:Int) (a2:Option Addr) (c2:Nat) (x2:List Int) (a3:Option Addr) (c3:Nat) (x3:List Int) (h:RdCrowd w w.heap.size a2 x2 a3 x3) (hl2:x2.length≤1048576) (hl3:x3.length≤1048576) :
 Calls Tryz.prog 34 #[.agg #[.int .i64 U,.int .i64 R,.slice a2 x2.length c2,.slice a3 x3.length c3]] w fun e w'=>e=.returned (.bool (bu ⟨U,R,x2,x3⟩))∧Below w.heap.size w w':=by
 have LU:=Oi (fun v=>dm U 1 8 v)
 have LR:=Oi (fun v=>dm R 1 8 v)
 cases t1:eG U 1 8 with
 | false =>
   have HF:Hid (bu ⟨U,R,x2,x3⟩=false):=by simp [Hid,bu,t1]
   rw [t1] at LU;clear h
   go_enter Tryz.func34,Tryz.ntmps34;go_wp2_with fail
   go_quiet ((go_at_call 74;with_reducible exact tY (LU.out _)))
   go_wp2_with fail;go_ret;exact ⟨ar HF.out.symm,ag (ai _ _) _⟩
 | true =>
   rw [t1] at LU
   cases t2:eG R 1 8 with
   | false =>
     have HF:Hid (bu ⟨U,R,x2,x3⟩=false):=by simp [Hid,bu,t1,t2]
     rw [t2] at LR;clear h
     go_enter Tryz.func34,Tryz.ntmps34;go_wp2_with fail
     go_quiet (first | (go_at_call 74;with_reducible exact tY (LU.out _)) | (go_at_call 74;with_reducible exact tY (LR.out _)))
     go_wp2_with fail;go_ret;exact ⟨ar HF.out.symm,ag (ai _ _) _⟩
   | true =>
     rw [t2] at LR;obtain ⟨u1,u8⟩:=cx.1 t1;obtain ⟨r1,r8⟩:=cx.1 t2;obtain ⟨p1,p2⟩:=Ee u1 u8 r1 r8;have epw:=Kt r1 r8;have LW0:=Oi (fun v hb=>ie v a2 c2 x2 1 8 1 (wrap64 (wrap64 (2 ^ R.toNat) - 1)) (Rd.to h.1 hb) (by omega))
     have LC0:=Oi (fun v hb=>ie v a3 c3 x3 (U * R) (U * R) (-100000) 100000 (Rd.to h.2 hb) (by omega))
     have LW:=Oi (fun n=>LW0.out _ (ag (ai w (.cells #[.int .i64 U,.int .i64 R,.slice a2 x2.length c2,.slice a3 x3.length c3] 30)) n))
     have LC:=Oi (fun n=>LC0.out _ (ag (ai w (.cells #[.int .i64 U,.int .i64 R,.slice a2 x2.length c2,.slice a3 x3.length c3] 30)) n))
     clear LW0 LC0;have HF:Hid (bu ⟨U,R,x2,x3⟩=(cU x2 1 8 1 (wrap64 (wrap64 (2 ^ R.toNat) - 1)) && cU x3 (U * R) (U * R) (-100000) 100000)):=by
      show _=_
      rw [epw];simp only [bu,t1,t2,Bool.true_and]
     clear epw
     cases t3:cU x2 1 8 1 (wrap64 (wrap64 (2 ^ R.toNat) - 1)) with
     | false =>
       have HF2:Hid (bu ⟨U,R,x2,x3⟩=false):=by rw [Hid,HF.out,t3];rfl
       rw [t3] at LW;clear t3
       go_enter Tryz.func34,Tryz.ntmps34;go_wp2_with fail
       go_quiet (first | (go_at_call 74;with_reducible exact tY (LU.out _)) | (go_at_call 74;with_reducible exact tY (LR.out _)) | (go_at_call 75;exact tY (LW.out _)))
       go_wp2_with fail;go_ret;exact ⟨ar HF2.out.symm,ag (ai _ _) _⟩
     | true =>
       have HF2:Hid (bu ⟨U,R,x2,x3⟩=cU x3 (U * R) (U * R) (-100000) 100000):=by rw [Hid,HF.out,t3];rfl
       rw [t3] at LW;clear t3
       go_enter Tryz.func34,Tryz.ntmps34;go_wp2_with fail
       go_quiet (first | (go_at_call 74;with_reducible exact tY (LU.out _)) | (go_at_call 74;with_reducible exact tY (LR.out _)) | (go_at_call 75;with_reducible exact tY (LC.out _)) | (go_at_call 75;exact tY (LW.out _)))
       go_wp2_with fail;go_ret;exact ⟨ar HF2.out.symm,ag (ai _ _) _⟩
theorem lz (w:World) (cs:List Value) (t:TypeId) (g:Nat) (h:g=w.heap.size):Blk (w.alloc (.cells cs.toArray t)) g cs t:=by subst h;exact Blk.new w cs t
def gA:List Int:=[3,0,5,1]
def gB:List Int:=[3,5,0,1]
def vW:List Int:=[5,3,5,4]
def cW:List Int:=[1,2]
def cC:List Int:=[1,2,1,2]
def tT:List Nat:=[0,1048576000]
def zn (g1 g2 g3 g4 g5 g6:Nat):List Value:=[.int .i64 2,.int .i64 2,.slice (some ⟨g1,0,none⟩) 4 4,.slice (some ⟨g2,0,none⟩) 4 4,.int .i64 2,.int .i64 2,.slice (some ⟨g3,0,none⟩) 4 4,.int .i64 2,.int .i64 2,.slice (some ⟨g4,0,none⟩) 2 2,.slice (some ⟨g5,0,none⟩) 4 4,.slice (some ⟨g6,0,none⟩) 2 2]
structure Dsk (w:World) (lo g1 g2 g3 g4 g5 g6:Nat) (A B V W C:List Int) (T:List Nat):Prop where
 l1:lo≤g1
 l2:g1<g2
 l3:g2<g3
 l4:g3<g4
 l5:g4<g5
 l6:g5<g6
 l7:g6<w.heap.size
 b1:Blk w g1 (ae A) 2
 b2:Blk w g2 (ae B) 2
 b3:Blk w g3 (ae V) 2
 b4:Blk w g4 (ae W) 2
 b5:Blk w g5 (ae C) 2
 b6:Blk w g6 (dx T) 79
theorem af {w:World} {g:Nat} {t:TypeId} {v0 v1 v2 v3 v4 v5 v6 v7 v8 v9 v10 v11:Value} (h:Blk w g [v0,v1,v2,v3,v4,v5,v6,v7,v8,v9,v10,v11] t) :
 w.cell? ⟨g,0,none⟩=some v0∧w.cell? ⟨g,1,none⟩=some v1∧w.cell? ⟨g,2,none⟩=some v2∧w.cell? ⟨g,3,none⟩=some v3∧w.cell? ⟨g,4,none⟩=some v4∧w.cell? ⟨g,5,none⟩=some v5∧w.cell? ⟨g,6,none⟩=some v6∧w.cell? ⟨g,7,none⟩=some v7∧w.cell? ⟨g,8,none⟩=some v8∧w.cell? ⟨g,9,none⟩=some v9∧w.cell? ⟨g,10,none⟩=some v10∧w.cell? ⟨g,11,none⟩=some v11 :=
 ⟨h.cell 0,h.cell 1,h.cell 2,h.cell 3,h.cell 4,h.cell 5,h.cell 6,h.cell 7,h.cell 8,h.cell 9,h.cell 10,h.cell 11⟩
theorem KL {w:World} {tmps:Array Value} {g g1 g2 g3 g4 g5 g6:Nat} (h0:tmps[0]?.getD undef=.pointer (some ⟨g,0,none⟩)) (hb:Blk w g (zn g1 g2 g3 g4 g5 g6) 33):(results Tryz.f25 tmps).run Tryz.prog w=.ok (.agg (zn g1 g2 g3 g4 g5 g6).toArray) w:=by
 obtain ⟨z0,z1,z2,z3,z4,z5,z6,z7,z8,z9,z10,z11⟩:=af hb;simp [results,Tryz.results25,go_sem,h0,z0,z1,z2,z3,z4,z5,z6,z7,z8,z9,z10,z11,zn]
theorem C6 (w:World) :
 Calls Tryz.prog 25 #[] w fun e w'=>∃ g1 g2 g3 g4 g5 g6,e=.returned (.agg (zn g1 g2 g3 g4 g5 g6).toArray)∧Dsk w' w.heap.size g1 g2 g3 g4 g5 g6 gA gB vW cW cC tT∧Below w.heap.size w w':=by
 go_enter Tryz.func25,Tryz.ntmps25;go_wp2_with fail;refine bodyPost_ret (KL (g:=w.heap.size) (g1:=w.heap.size+1) (g2:=w.heap.size+1+1) (g3:=w.heap.size+1+1+1) (g4:=w.heap.size+1+1+1+1) (g5:=w.heap.size+1+1+1+1+1) (g6:=w.heap.size+1+1+1+1+1+1) (by simp) ?_) rfl ?_
 rotate_left
 refine ⟨w.heap.size+1,w.heap.size+1+1,w.heap.size+1+1+1,w.heap.size+1+1+1+1,w.heap.size+1+1+1+1+1,w.heap.size+1+1+1+1+1+1,rfl,⟨by omega,by omega,by omega,by omega,by omega,by omega,by simp,?_,?_,?_,?_,?_,?_⟩,?_⟩
 · exact (((((lz _ _ _ _ (by simp)).alloc _).alloc _).alloc _).alloc _).alloc _
 · exact ((((lz _ _ _ _ (by simp)).alloc _).alloc _).alloc _).alloc _
 · exact (((lz _ _ _ _ (by simp)).alloc _).alloc _).alloc _
 · exact ((lz _ _ _ _ (by simp)).alloc _).alloc _
 · exact (lz _ _ _ _ (by simp)).alloc _
 · exact lz _ _ _ _ (by simp)
 · exact ((((((ai w _).alloc (by simp) _).alloc (by simp;omega) _).alloc (by simp;omega) _).alloc (by simp;omega) _).alloc (by simp;omega) _).alloc (by simp;omega) _
 · exact ((((((lz _ _ _ _ rfl).alloc _).alloc _).alloc _).alloc _).alloc _).alloc _
def gQ (R C:Int) (xA xB:List Int) (P T:Int) (xV:List Int) (U N:Int) (xW xC:List Int) (xT:List Nat):Bool:=cZ R C xA xB && bM P T xV && bu ⟨U,N,xW,xC⟩ && lp xT
structure RdDesk (w:World) (Z:Nat) (aA:Option Addr) (xA:List Int) (aB:Option Addr) (xB:List Int) (aV:Option Addr) (xV:List Int) (aW:Option Addr) (xW:List Int) (aC:Option Addr) (xC:List Int) (aT:Option Addr) (xT:List Nat):Prop where
 A:Rd w Z aA (ae xA)
 B:Rd w Z aB (ae xB)
 V:Rd w Z aV (ae xV)
 W:Rd w Z aW (ae xW)
 C:Rd w Z aC (ae xC)
 T:Rd w Z aT (dx xT)
theorem RdDesk.to {w w':World} {aA aB aV aW aC aT:Option Addr} {xA xB xV xW xC:List Int} {xT:List Nat} (h:RdDesk w w.heap.size aA xA aB xB aV xV aW xW aC xC aT xT) (hb:Below w.heap.size w w'):RdDesk w' w'.heap.size aA xA aB xB aV xV aW xW aC xC aT xT :=
 ⟨h.A.to hb,h.B.to hb,h.V.to hb,h.W.to hb,h.C.to hb,h.T.to hb⟩
def aU (C:Nat) (xs:List Int) (i k:Nat):Int:=xs.getD (i * C+k) 0
theorem dH {R C i k:Nat} (hi:i<R) (hk:k<C):i * C+k<R * C:=by
 have h:i * C+C≤R * C:=by
  have:=Nat.mul_le_mul_right C (show i+1≤R from hi)
  rw [Nat.add_mul,Nat.one_mul] at this;exact this
 omega
def aG (R C:Nat) (xs:List Int) (m:Nat):List Int:=(List.range m).map fun j=>aU C xs (j % R) (j / R)
theorem my (R C:Nat) (xs:List Int) (m:Nat):(aG R C xs m).length=m:=by simp [aG]
theorem uU {R C:Nat} (xs:List Int) {k i:Nat} (hi:i<R):aG R C xs (k * R+i+1)=aG R C xs (k * R+i) ++ [aU C xs i k]:=by
 have e1:(k * R+i) % R=i:=by rw [Nat.add_comm,Nat.add_mul_mod_self_right,Nat.mod_eq_of_lt hi]
 have e2:(k * R+i) / R=k:=by rw [Nat.add_comm,Nat.add_mul_div_right _ _ (by omega),Nat.div_eq_of_lt hi];omega
 unfold aG;rw [List.range_succ,List.map_append,List.map_singleton,e1,e2]
def oQ (C:Nat) (xs:List Int) (i j:Nat):Bool:=!iA (fun k=>decide (aU C xs j k≤aU C xs i k)) C
def fl (R C:Nat) (xs:List Int) (n:Nat):List Int:=((List.range n).filter fun i=>iA (oQ C xs i) R).map fun (j:Nat)=>(j:Int)
theorem DC (R C:Nat) (xs:List Int) (n:Nat):fl R C xs (n+1)=if iA (oQ C xs n) R=true then fl R C xs n ++ [(n:Int)] else fl R C xs n:=by
 unfold fl;rw [List.range_succ,List.filter_append]
 by_cases h:iA (oQ C xs n) R=true
 · rw [if_pos h];simp [h]
 · rw [if_neg h];simp [h]
theorem ra (R C:Nat) (xs:List Int) (n:Nat):(fl R C xs n).length≤n:=by
 unfold fl;rw [List.length_map];exact Nat.le_trans (List.length_filter_le _ _) (by simp)
theorem wh {R C:Nat} {xs:List Int} {n:Nat} {z:Int} (h:z∈fl R C xs n):∃ j:Nat,z=(j:Int)∧j<n:=by
 unfold fl at h;obtain ⟨j,hj,rfl⟩:=List.mem_map.1 h;exact ⟨j,rfl,List.mem_range.1 (List.mem_filter.1 hj).1⟩
def ix (C:Nat) (xs rows cols:List Int):List Int:=rows.flatMap fun i=>cols.map fun k=>aU C xs i.toNat k.toNat
theorem sR (C:Nat) (xs rows cols:List Int):(ix C xs rows cols).length=rows.length * cols.length:=by
 unfold ix
 induction rows with
 | nil=>simp
 | cons i rows ih=>rw [List.flatMap_cons,List.length_append,ih,List.length_map,List.length_cons,Nat.add_mul,Nat.one_mul,Nat.add_comm]
theorem MJ (C:Nat) (xs cols:List Int) {rows:List Int} {k:Nat} {i:Int} (h:rows[k]? = some i):ix C xs (rows.take (k+1)) cols=ix C xs (rows.take k) cols ++ cols.map fun k=>aU C xs i.toNat k.toNat:=by
 unfold ix;rw [List.take_add_one,h,List.flatMap_append];simp
def eM (list places:List Int) (n:Nat):List Int:=((List.range n).filter fun (j:Nat)=>!bH places (j:Int)).map fun j=>list.getD j 0
theorem tQ (list places:List Int) (n:Nat):eM list places (n+1)=if bH places (n:Int)=true then eM list places n else eM list places n ++ [list.getD n 0]:=by
 unfold eM;rw [List.range_succ,List.filter_append]
 by_cases h:bH places (n:Int)=true
 · rw [if_pos h];simp [h]
 · rw [if_neg h];simp [h]
theorem nm (list places:List Int) (n:Nat):(eM list places n).length≤n:=by
 unfold eM;rw [List.length_map];exact Nat.le_trans (List.length_filter_le _ _) (by simp)
theorem ve {list places:List Int} {n:Nat} (hn:n≤list.length) {z:Int} (h:z∈eM list places n):z∈list:=by
 unfold eM at h;obtain ⟨j,hj,rfl⟩:=List.mem_map.1 h;have:=List.mem_range.1 (List.mem_filter.1 hj).1;rw [List.getD,List.getElem?_eq_getElem (show j<list.length by omega)]
 exact List.getElem_mem _
def fT (f:Nat→Int):Nat→List Int
 | 0=>[]
 | i+1=>match fT f i with
   | []=>[(i:Int)]
   | o :: t=>if f i<f o.toNat then o :: t else if f o.toNat<f i then [(i:Int)] else o :: t ++ [(i:Int)]
theorem pa (f:Nat→Int):∀ i,(fT f i).length≤i
 | 0=>by simp [fT]
 | i+1=>by
   have ih:=pa f i;rw [fT]
   split
   · simp
   · rename_i o t h
     rw [h] at ih
     split
     · omega
     · split
       · simp
       · simp only [List.length_append,List.length_cons,List.length_nil] at ih ⊢;omega
theorem rx (f:Nat→Int):∀ i,∀ z∈fT f i,∃ j:Nat,z=(j:Int)∧j<i
 | 0,z,h=>by simp [fT] at h
 | i+1,z,h=>by
   have ih:=rx f i;rw [fT] at h
   split at h
   · rw [List.mem_singleton] at h
     exact ⟨i,h,by omega⟩
   · rename_i o t hb
     have old:∀ z∈o :: t,∃ j:Nat,z=(j:Int)∧j<i+1:=fun z hz=>by
      obtain ⟨j,h1,h2⟩:=ih z (by rw [hb];exact hz)
      exact ⟨j,h1,by omega⟩
     split at h
     · exact old z h
     · split at h
       · rw [List.mem_singleton] at h
         exact ⟨i,h,by omega⟩
       · rcases List.mem_append.1 h with h | h
         · exact old z h
         · rw [List.mem_singleton] at h
           exact ⟨i,h,by omega⟩
theorem EF (f:Nat→Int) (i:Nat):fT f (i+1)≠[]:=by
 rw [fT]
 split
 · simp
 · split
   · simp
   · split
     · simp
     · simp
def dj (R C:Nat) (xs:List Int) (k:Nat):List Int:=fT (fun i=>aU C xs i k) R
def zp (R C:Nat) (xs ys:List Int) (m:Nat):Bool:=bH (dj R C xs (m % C)) ((m / C:Nat):Int) && bH (dj C R ys (m / C)) ((m % C:Nat):Int)
def er (R C:Nat) (xs ys:List Int) (m:Nat):List Int:=((List.range m).filter (zp R C xs ys)).map fun (j:Nat)=>(j:Int)
theorem FK {R C:Nat} (xs ys:List Int) {i k:Nat} (hk:k<C):er R C xs ys (i * C+k+1)=if (bH (dj R C xs k) (i:Int) && bH (dj C R ys i) (k:Int))=true then er R C xs ys (i * C+k) ++ [((i * C+k:Nat):Int)] else er R C xs ys (i * C+k):=by
 have e1:(i * C+k) % C=k:=by rw [Nat.add_comm,Nat.add_mul_mod_self_right,Nat.mod_eq_of_lt hk]
 have e2:(i * C+k) / C=i:=by rw [Nat.add_comm,Nat.add_mul_div_right _ _ (by omega),Nat.div_eq_of_lt hk];omega
 have hB:zp R C xs ys (i * C+k)=(bH (dj R C xs k) (i:Int) && bH (dj C R ys i) (k:Int)):=by
  unfold zp;rw [e1,e2]
 rw [← hB];unfold er;rw [List.range_succ,List.filter_append]
 by_cases h:zp R C xs ys (i * C+k)=true
 · rw [if_pos h];simp [h]
 · rw [if_neg h];simp [h]
theorem yj (R C:Nat) (xs ys:List Int) (m:Nat):(er R C xs ys m).length≤m:=by
 unfold er;rw [List.length_map];exact Nat.le_trans (List.length_filter_le _ _) (by simp)
def gn (f:Nat→Int):Nat→Int
 | 0=>f 0
 | n+1=>min (gn f n) (f (n+1))
def eZ (R C:Nat) (xs:List Int):Nat→Int × Int
 | 0=>(0,0)
 | i+1=>if i=0∨(eZ R C xs i).2<gn (aU C xs i) (C - 1) then ((i:Int),gn (aU C xs i) (C - 1)) else eZ R C xs i
end Go.Proofs.YtbknhgapjjaelaaGreatDoor
