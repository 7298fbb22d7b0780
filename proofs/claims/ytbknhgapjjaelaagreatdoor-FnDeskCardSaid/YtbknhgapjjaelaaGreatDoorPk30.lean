/-
  Part 30 of what the proof stands on: lemmas and contracts, each with its conditions ahead of the colon.
-/
import Derived.Test.YtbknhgapjjaelaaGreatDoorPk01
import Derived.Test.YtbknhgapjjaelaaGreatDoorPk28
import Derived.Test.YtbknhgapjjaelaaGreatDoorPk29
namespace Go.Proofs.YtbknhgapjjaelaaGreatDoor
set_option linter.unusedVariables false
set_option linter.unusedSimpArgs false
open Ieee
theorem Iw (s:Bool) (n d:Nat):Toward.zero.cut s n d=n / 2 ^ d:=by
 unfold Toward.cut;simp only [Bool.toNat_false,Nat.add_zero,Nat.one_shiftLeft]
 rcases Nat.le_total d (n.log2+2) with h | h
 · rw [Nat.min_eq_left h]
 · rw [Nat.min_eq_right h]
   have l2:n<2 ^ (n.log2+1):=Nat.lt_log2_self;have e1:2 ^ (n.log2+1)≤2 ^ (n.log2+2):=Nat.pow_le_pow_right (by omega) (by omega)
   have e2:2 ^ (n.log2+2)≤2 ^ d:=Nat.pow_le_pow_right (by omega) h
   rw [Nat.div_eq_of_lt (by omega),Nat.div_eq_of_lt (by omega)]
theorem IP (s:Bool) {m:Nat} {p:Int} (hp:-(eP:Int)≤p) :
 ∃ T:Nat,(Datum.number s m p).toInt .zero=some (if s then -(T:Int) else (T:Int))∧vl T 0≤vl m p∧vl m p≤vl T 0+vl 1 0:=by
 refine ⟨(m * 2 ^ p.toNat) / 2 ^ (-p).toNat,?_,?_,?_⟩
 · simp only [Datum.toInt,Datum.integral,Iw,signed,Nat.shiftLeft_eq,Nat.pow_zero,Nat.mul_one]
 · rcases Int.le_total 0 p with h | h
   · rw [show (-p).toNat=0 from by omega,Nat.pow_zero,Nat.div_one]
     rw [cZ (k:=p.toNat) (p:=0) (q:=p) (by omega) (by omega)]
     exact Nat.le_refl _
   · rw [show p.toNat=0 from by omega,Nat.pow_zero,Nat.mul_one]
     rw [cZ (k:=(-p).toNat) (p:=p) (q:=0) hp (by omega)]
     exact ku (Nat.div_mul_le_self _ _)
 · rcases Int.le_total 0 p with h | h
   · rw [show (-p).toNat=0 from by omega,Nat.pow_zero,Nat.div_one]
     rw [cZ (k:=p.toNat) (p:=0) (q:=p) (by omega) (by omega)]
     exact Nat.le_add_right _ _
   · rw [show p.toNat=0 from by omega,Nat.pow_zero,Nat.mul_one]
     rw [cZ (k:=(-p).toNat) (p:=p) (q:=0) hp (by omega),cZ (k:=(-p).toNat) (p:=p) (q:=0) hp (by omega)]
     have hd:=Nat.div_add_mod m (2 ^ (-p).toNat);have hm:=Nat.mod_lt m (Nat.two_pow_pos (-p).toNat);have:m≤m / 2 ^ (-p).toNat * 2 ^ (-p).toNat+1 * 2 ^ (-p).toNat:=by rw [Nat.mul_comm (m / _)];omega
     have:=ku (p:=p) this;unfold vl at this ⊢;rw [Nat.add_mul] at this;exact this
theorem EC (s:Bool) {T:Nat} (h:T≤2 ^ 52):∃ m p,double.read (double.nearest s T 0)=.number s m p∧vl m p=vl T 0:=by
 rcases Nat.eq_zero_or_pos T with h0 | h0
 · subst h0
   have e:double.nearest s 0 0=double.word s 0:=rfl;obtain ⟨m,p,e1,e2⟩:=mY aw (show 0<double.infRung by rw [pT];omega) s
   rw [mu] at e2;injection e2 with _ e3 e4
   subst e3 e4;exact ⟨0,-1074,by rw [e];exact e1,by rw [show vl 0 (-1074)=0 from Nat.zero_mul _];exact (Nat.zero_mul _).symm⟩
 · have l1:2 ^ T.log2≤T:=Nat.log2_self_le (by omega)
   have l2:T<2 ^ (T.log2+1):=Nat.lt_log2_self;have l3:T.log2≤52:=by
    have:2 ^ T.log2≤2 ^ 52:=Nat.le_trans l1 h;exact (Nat.pow_le_pow_iff_right (show 1<2 by omega)).1 this
   obtain ⟨L,hL⟩:∃ L,L=T.log2:=⟨_,rfl⟩;rw [← hL] at l1 l2 l3;have hB:double.binade=2 ^ 52:=by decide
   have k1:double.binade≤T * 2 ^ (52 - L):=by
    rw [hB];have:=Nat.mul_le_mul_right (2 ^ (52 - L)) l1;rwa [← Nat.pow_add,show L+(52 - L)=52 from by omega] at this
   have k2:T * 2 ^ (52 - L)<2 * double.binade:=by
    rw [hB,← Nat.pow_succ'];have:=Nat.mul_lt_mul_of_pos_right l2 (Nat.two_pow_pos (52 - L));rwa [← Nat.pow_add,show L+1+(52 - L)=52+1 from by omega] at this
   have hv:vl T 0=vl (T * 2 ^ (52 - L)) ((L:Int) - 52):=cZ (by rw [iC];omega) (by omega)
   have hq:double.leastPlace≤(L:Int) - 52:=by rw [vf];omega
   have hr:(((L:Int) - 52) - double.leastPlace).toNat * double.binade+T * 2 ^ (52 - L)<double.infRung:=by
    have e:=Nat.mul_le_mul_right double.binade (show (((L:Int) - 52) - double.leastPlace).toNat+2≤1076 by rw [vf];omega)
    have:1076 * double.binade<double.infRung:=by decide
    rw [Nat.add_mul] at e;omega
   have n1:=qO aw (place:=0) (by rw [iC];omega) hq k2 (.inl k1) rfl (Nat.le_of_eq hv)
   have n2:=Ds aw (place:=0) (by rw [iC];omega) hq k2 (.inl k1) rfl (Nat.le_of_lt hr) (Nat.le_of_eq hv.symm)
   have n3:=Nat.le_antisymm n1 n2;obtain ⟨m,p,e1,e2⟩:=mY aw (r:=double.nearest false T 0) (by rw [n3];exact hr) s
   refine ⟨m,p,by rw [nL];exact e1,?_⟩
   obtain ⟨r1,r2,r3,r4,r5,_⟩:=aZ aw e2;have hs:=double.infRung_lt;rw [n3,Nat.mod_eq_of_lt (by omega)] at r4
   rw [hv];exact Nat.le_antisymm (kq aw r1 hq r2 k2 r3 (.inl k1) (Nat.le_of_eq r4.symm)) (kq aw hq r1 k2 r2 (.inl k1) r3 (Nat.le_of_eq r4))
theorem AO {T k:Nat} (h:vl T 0≤vl 1 (k:Int)):T≤2 ^ k:=by
 rw [cZ (k:=k) (p:=0) (q:=(k:Int)) (by rw [iC];omega) (by omega),Nat.one_mul] at h
 exact mc h
theorem xD {s:Bool} {R:Nat} (h:R≤dM):∃ m p,double.read (double.word s R)=.number s m p∧double.read R=.number false m p∧vl m p≤vl 1 0∧(m=0→R=0):=by
 have hi:R<double.infRung:=by rw [pT];unfold dM at h;omega
 obtain ⟨m,p,e1,e2⟩:=mY aw hi s;refine ⟨m,p,e1,e2,?_,fun h0=>?_⟩
 · have:=sD e2 oJ hi (by rw [pT];decide) h
   rw [re] at this;rw [lr];exact this
 · obtain ⟨r1,r2,r3,r4,r5,_⟩:=aZ aw e2
   have hs:=double.infRung_lt;rw [Nat.mod_eq_of_lt (by omega)] at r4
   have hb:=kI double;have:p=double.leastPlace:=by rcases r3 with h | h;omega;exact h
   rw [this,Int.sub_self,Int.toNat_zero,Nat.zero_mul,h0] at r4;exact r4
theorem Jc {D:Nat} {b:Int} (hb:-(eP:Int)≤b) (h:vl D b≤vl 1 0):double.nearest false D b≤dM:=GJ (k:=4) (by omega) hb (by rw [← lr];exact h)
theorem vM (s:Bool) (m:Nat) (p:Int):double.write (.number s m p)=double.word s (double.nearest false m p):=nL _ _ _ _
theorem ww {x:Nat} (h:Bd double x 52) :
 floatToIntVal .f64 x .i64=some (iP x)∧gL (iP x)=floatOfInt .f64 (iP x)∧double.sub x (gL (iP x))=some (bg x (gL (iP x))) ∧
 (Ac (bg x (gL (iP x))) 0=true→double.add (bg x (gL (iP x))) dM=some (iw (bg x (gL (iP x))) dM))∧UW (cE x):=by
 obtain ⟨s,m,p,e1,h1⟩:=h;have hp:=(aZ aw e1).1;have hp':-(eP:Int)≤p:=by have:=aw.low;omega
 obtain ⟨T,t1,t2,t3⟩:=IP s (m:=m) hp';have hT:T≤2 ^ 52:=AO (Nat.le_trans t2 h1);have hti:iP x=if s then -(T:Int) else (T:Int):=by unfold iP;rw [e1,t1];rfl
 have hw:gL (iP x)=double.nearest (s && decide (T≠0)) T 0:=by
  unfold gL;rw [hti]
  cases s
  · simp only [Bool.false_eq_true,if_false,Bool.false_and]
    rw [decide_eq_false (by omega),Int.natAbs_natCast];rfl
  · simp only [if_true,Bool.true_and,Int.natAbs_neg,Int.natAbs_natCast]
    rcases Nat.eq_zero_or_pos T with h0 | h0
    · subst h0;rfl
    · rw [decide_eq_true (by omega),decide_eq_true (by omega)];rfl
 have hsub:∃ g R,double.sub x (gL (iP x))=some (double.word g R)∧R≤dM:=by
  obtain ⟨n,q,w1,w2⟩:=EC (s && decide (T≠0)) hT;have hq:=(aZ aw w1).1;have hq':-(eP:Int)≤q:=by have:=aw.low;omega
  have hmin:-(eP:Int)≤min p q:=by omega
  unfold Format.sub;rw [e1,hw,w1]
  rcases Nat.eq_zero_or_pos T with h0 | h0
  · subst h0
    have hn:n=0:=by
     have h3:vl n q=0:=by rw [w2];exact Nat.zero_mul _
     rcases Nat.eq_zero_or_pos n with h4 | h4
     · exact h4
     · have:=Nat.mul_pos h4 (Nat.two_pow_pos (q+eP).toNat)
       unfold vl at h3;omega
    subst hn;simp only [Datum.opposite];rw [Jr];refine ⟨_,_,congrArg some (vM _ _ _),Jc hmin ?_⟩
    rw [← cZ (k:=(p - min p q).toNat) (p:=min p q) (q:=p) hmin (by omega)]
    have:vl 0 0=0:=Nat.zero_mul _;omega
  · rw [decide_eq_true (by omega),Bool.and_true]
    simp only [Datum.opposite];obtain ⟨D,d1,d2⟩:=nO (s:=s) hp' hq' (by rw [w2];exact t2)
    rw [d1];exact ⟨_,_,congrArg some (vM _ _ _),Jc hmin (by rw [w2] at d2;omega)⟩
 refine ⟨?_,rfl,?_,?_,?_⟩
 · unfold floatToIntVal
   have hd:FloatKind.f64.decode x=.number s m p:=e1;rw [hd,t1,hti];have hT2:T≤4503599627370496:=hT;have hmn:IntKind.i64.min = -9223372036854775808:=by decide
   have hmx:IntKind.i64.max=9223372036854775807:=by decide
   simp only;rw [if_pos];rw [hmn,hmx]
   cases s
   · simp only [Bool.false_eq_true,if_false];omega
   · simp only [if_true];omega
 · obtain ⟨g,R,h2,_⟩:=hsub
   unfold bg;rw [h2];rfl
 all_goals
  obtain ⟨g,R,h2,hR⟩:=hsub;have hds:bg x (gL (iP x))=double.word g R:=by unfold bg;rw [h2];rfl
  obtain ⟨m',p',u1,u2,u3,u4⟩:=xD (s:=g) hR;have hp2:=(aZ aw u2).1;have hp2':-(eP:Int)≤p':=by have:=aw.low;omega
  have hsum:∃ D:Nat,double.add (double.word true R) dM=some (double.nearest false D (min (-52) p'))∧vl D (min (-52) p')≤vl 1 0:=by
   obtain ⟨m2,p2,v1,v2,v3,v4⟩:=xD (s:=true) hR;rw [u2] at v2;injection v2 with _ x1 x2
   subst x1 x2;unfold Format.add;rw [v1,oJ];have hc:(Datum.number true m' p').sum (.number false 4503599627370496 (-52))=(Datum.number false 4503599627370496 (-52)).sum (.number true m' p'):=by
    simp only [Datum.sum,Int.min_comm p' (-52),Int.add_comm (signed true m' _),Bool.and_comm true]
   rw [hc];obtain ⟨D,d1,d2⟩:=nO (s:=false) (m:=4503599627370496) (i:=-52) (n:=m') (j:=p') (by rw [iC];omega) hp2' (by rw [re,← lr];exact u3)
   rw [show (!false)=true from rfl] at d1
   rw [d1];refine ⟨D,?_,by rw [re,← lr] at d2;omega⟩
   simp only [Option.map_some,ite_self]
   rfl
 · intro _
   rw [hds];obtain ⟨D,d1,_⟩:=hsum
   cases g with
   | true=>unfold iw;rw [d1];rfl
   | false =>
     obtain ⟨r,hr,_⟩:=vJ (f:=double) (a:=double.word false R) (b:=dM) (k:=0) (.inr ⟨rfl,by omega⟩) ⟨false,m',p',u1,u3⟩ (UW.bd (.inl (Nat.le_refl _)));unfold iw;rw [hr];rfl
 · unfold cE
   rw [hds]
   cases g with
   | false =>
     have hlt:Ac (double.word false R) 0=false:=by
      unfold Ac;rw [qV u1 mu];have:vl 0 (-1074)=0:=Nat.zero_mul _;rw [this];have h3:compare (vl m' p') 0≠.lt:=by rw [Ne,Nat.compare_eq_lt];omega
      cases hcmp:compare (vl m' p') 0 with
      | lt=>exact absurd hcmp h3
      | eq=>rfl
      | gt=>rfl
     rw [hlt,if_neg (by decide)]
     exact .inl hR
   | true =>
     split
     · obtain ⟨D,d1,d2⟩:=hsum
       unfold iw;rw [d1];exact .inl (Jc (by have:=aw.low;rw [vf] at this;omega) d2)
     · rename_i hn
       by_cases h0:R=0
       · subst h0
         exact .inr (by unfold Format.word;rw [Li];rfl)
       · exfalso
         apply hn
         have hm:m'≠0:=fun h=>h0 (u4 h)
         unfold Ac Format.order;rw [u1,mu];simp only [Datum.order,signed,if_true,Bool.false_eq_true,if_false,Nat.zero_shiftLeft,Nat.shiftLeft_eq];have:0<m' * 2 ^ (p' - min p' (-1074)).toNat:=Nat.mul_pos (Nat.pos_of_ne_zero hm) (Nat.two_pow_pos _);rw [Int.compare_eq_lt.2 (by omega)]
         rfl
open Ieee
def iD (k:Nat):Nat:=gL (k:Int)
def lE (k:Nat):Nat:=bk (bk 4611686018427387904 (iD k)) (iw (bk 4611686018427387904 (iD k)) dM)
def sA (f:Nat):Nat:=if jx f dq then bg f dq else f
def sB (g:Nat):Nat:=if vp g bo then bg dq g else g
def pN (u:Nat):Nat→Nat
 | 0=>dM
 | j+1=>bg dM (qy (bk u (pN u j)) (lE (8 - j)))
def dI (x:Nat):Nat:=bk (sB (sA (cE x))) JG
def mL (x:Nat):Nat:=bk (dI x) (pN (bk (dI x) (dI x)) 8)
def mJ (x:Nat):Nat:=if jx (cE x) dq then mL x ^^^ lU else mL x
theorem ke {k:Nat} (h:k≤1021):kOk double k:=.inr ⟨rfl,h⟩
theorem zd {k:Nat} (h:k≤125):kOk single k:=.inl ⟨rfl,h⟩
def QW (k f:Nat):Prop:=f≤pr k∨f=lU
theorem QW.bd {k f:Nat} (hk:k≤4) (h:QW k f):∃ s m p,double.read f=.number s m p∧vl m p≤vq k∧(s=true→f=lU):=by
 rcases h with h | h
 · obtain ⟨c1,n,q,c2,c3⟩:=jX k hk
   have h1:f<double.infRung:=Nat.lt_of_le_of_lt h c1;obtain ⟨m,p,e⟩:=lR h1 aw;exact ⟨false,m,p,e,by rw [← c3];exact sD e c2 h1 c1 h,fun h=>by cases h⟩
 · subst h
   exact ⟨true,0,-1074,me,by rw [show vl 0 (-1074)=0 from Nat.zero_mul _];exact Nat.zero_le _,fun _=>rfl⟩
theorem uo {f c m p} {k:Nat} {s:Bool} (hf:double.read f=.number s m p) (hs:s=true→f=lU) (hc:∃ n q,double.read c=.number false n q∧vl n q=vq k) (hk:1≤k) :
 (jx f c=true ↔ s=false∧vq k≤vl m p)∧(vp f c=true ↔ s=false∧vq k<vl m p):=by
 obtain ⟨n,q,hc,hv⟩:=hc;have hpos:0<vq k:=by unfold vq vl;exact Nat.mul_pos (Nat.mul_pos (by omega) (by omega)) (Nat.two_pow_pos _)
 unfold jx vp
 cases s with
 | false =>
   rw [qV hf hc,hv]
   rcases Nat.lt_trichotomy (vl m p) (vq k) with h | h | h
   · rw [Nat.compare_eq_lt.2 h]
     exact ⟨⟨fun h=>by simp at h,fun ⟨_,h2⟩=>by omega⟩,⟨fun h=>by simp at h,fun ⟨_,h2⟩=>by omega⟩⟩
   · rw [Nat.compare_eq_eq.2 h]
     exact ⟨⟨fun _=>⟨rfl,by omega⟩,fun _=>by simp⟩,⟨fun h=>by simp at h,fun ⟨_,h2⟩=>by omega⟩⟩
   · rw [Nat.compare_eq_gt.2 h]
     exact ⟨⟨fun _=>⟨rfl,by omega⟩,fun _=>by simp⟩,⟨fun _=>⟨rfl,by omega⟩,fun _=>by simp⟩⟩
 | true =>
   rw [hs rfl,DM hc (by rw [hv];exact hpos)]
   exact ⟨⟨fun h=>by simp at h,fun ⟨h,_⟩=>by cases h⟩,⟨fun h=>by simp at h,fun ⟨h,_⟩=>by cases h⟩⟩
theorem ry {a b m n:Nat} {p q:Int} {k:Nat} (ha:double.read a=.number false m p) (hb:double.read b=.number false n q) (h:vl n q≤vl m p) (hk:k≤4) (hd:vl m p≤vq k+vl n q):double.sub a b=some (bg a b)∧bg a b≤pr k:=by
 have hp:=(aZ aw ha).1;have hq:=(aZ aw hb).1;have hl:=aw.low;obtain ⟨D,d1,d2⟩:=nO (s:=false) (m:=m) (i:=p) (n:=n) (j:=q) (by omega) (by omega) h
 have e:double.sub a b=some (double.nearest false D (min p q)):=by
  unfold Format.sub;rw [ha,hb]
  show ((Datum.number false m p).sum (.number (!false) n q)).map double.write=_
  rw [d1];simp only [ite_self]
  rfl
 have e2:bg a b=double.nearest false D (min p q):=by unfold bg;rw [e];rfl
 rw [e2];exact ⟨e,GJ hk (by omega) (by omega)⟩
theorem oa (k:Nat) (hk:k≤4):∃ n q,double.read (pr k)=.number false n q∧vl n q=vq k:=(jX k hk).2
theorem MH {f:Nat} (h:QW 4 f):(jx f dq=true→double.sub f dq=some (bg f dq))∧QW 2 (sA f):=by
 obtain ⟨s,m,p,e,h1,h2⟩:=h.bd (by omega)
 obtain ⟨g1,_⟩:=uo e h2 (oa 2 (by omega)) (by omega)
 obtain ⟨n,q,c1,c2⟩:=oa 2 (by omega)
 have hsub:jx f dq=true→double.sub f dq=some (bg f dq)∧bg f dq≤pr 2:=fun hg=>by
  obtain ⟨rfl,hv⟩:=g1.1 hg;exact ry e c1 (by rw [c2];exact hv) (by omega) (by rw [c2,Ag];exact h1)
 refine ⟨fun hg=>(hsub hg).1,?_⟩
 unfold sA
 split
 · rename_i hg;exact .inl (hsub hg).2
 · rename_i hg
   cases s with
   | true=>exact .inr (h2 rfl)
   | false =>
     left
     have hlt:¬ vq 2≤vl m p:=fun hv=>hg (g1.2 ⟨rfl,hv⟩)
     rcases Nat.lt_or_ge (pr 2) f with hc | hc
     · exfalso
       rcases h with h | h
       · have h3:f<double.infRung:=Nat.lt_of_le_of_lt h (jX 4 (by omega)).1
         have:=sD c1 e (jX 2 (by omega)).1 h3 (Nat.le_of_lt hc)
         omega
       · subst h;rw [me] at e;cases e
     · exact hc
theorem MK {f:Nat} (h:QW 2 f):(vp f bo=true→double.sub dq f=some (bg dq f))∧QW 1 (sB f):=by
 obtain ⟨s,m,p,e,h1,h2⟩:=h.bd (by omega)
 obtain ⟨_,g1⟩:=uo e h2 (oa 1 (by omega)) (by omega)
 obtain ⟨n,q,c1,c2⟩:=oa 1 (by omega)
 obtain ⟨n2,q2,d1,d2⟩:=oa 2 (by omega)
 have hsub:vp f bo=true→double.sub dq f=some (bg dq f)∧bg dq f≤pr 1:=fun hg=>by
  obtain ⟨rfl,hv⟩:=g1.1 hg;exact ry d1 e (by rw [d2];exact h1) (by omega) (by rw [d2,show vq 2=vq 1+vq 1 from (Ag 1 1).symm];omega)
 refine ⟨fun hg=>(hsub hg).1,?_⟩
 unfold sB
 split
 · rename_i hg;exact .inl (hsub hg).2
 · rename_i hg
   cases s with
   | true=>exact .inr (h2 rfl)
   | false =>
     left
     have hlt:¬ vq 1<vl m p:=fun hv=>hg (g1.2 ⟨rfl,hv⟩)
     rcases Nat.lt_or_ge (pr 1) f with hc | hc
     · exfalso
       rcases h with h | h
       · have h3:f<double.infRung:=Nat.lt_of_le_of_lt h (jX 2 (by omega)).1
         obtain ⟨r1,r2,r3,r4,r5,_⟩:=aZ aw c1;obtain ⟨s1,s2,s3,s4,s5,_⟩:=aZ aw e;have hs:=double.infRung_lt;have hc1:=(jX 1 (by omega)).1
         rw [Nat.mod_eq_of_lt (by omega)] at r4 s4
         have hle:=kq aw s1 r1 s2 r2 s3 r3;have hge:=kq aw r1 s1 r2 s2 r3 s3 (by omega)
         have heq:vl m p=vl n q:=by omega
         -- words of the same number are the same
         rcases Int.lt_trichotomy p q with hpq | hpq | hpq
         · have hn:double.binade≤n:=by rcases r3 with h | h;exact h;omega
           rw [cZ (k:=(q - p).toNat) (p:=p) (q:=q) (by have:=aw.low;omega) (by omega)] at heq
           have h5:=mc (Nat.le_of_eq heq.symm);have h6:2 ^ 1≤2 ^ (q - p).toNat:=Nat.pow_le_pow_right (by omega) (by omega)
           have h7:=Nat.mul_le_mul hn h6;omega
         · subst hpq
           have h5:=mc (Nat.le_of_eq heq);omega
         · have hn:double.binade≤m:=by rcases s3 with h | h;exact h;omega
           rw [cZ (k:=(p - q).toNat) (p:=q) (q:=p) (by have:=aw.low;omega) (by omega)] at heq
           have h5:=mc (Nat.le_of_eq heq);have h6:2 ^ 1≤2 ^ (p - q).toNat:=Nat.pow_le_pow_right (by omega) (by omega)
           have h7:=Nat.mul_le_mul hn h6;omega
       · subst h;rw [me] at e;cases e
     · exact hc
theorem UW.qw {f:Nat} (h:UW f):QW 4 f:=h
theorem BA {a b k:Nat} (hk:k+2≤1000) (ha:QW 1 a) (hb:Bd double b (k+2)):double.mul a b=some (bk a b)∧Bd double (bk a b) k:=by
 obtain ⟨s,m,i,e1,h1,_⟩:=ha.bd (by omega)
 obtain ⟨t,n,j,e2,h2⟩:=hb;have hl:=aw.low3;have p1:=(aZ aw e1).1;have p2:=(aZ aw e2).1;have e:double.mul a b=some (double.nearest (s ^^ t) (m * n) (i+j)):=by unfold Format.mul;rw [e1,e2];rfl
 have e3:bk a b=double.nearest (s ^^ t) (m * n) (i+j):=by unfold bk;rw [e];rfl
 rw [e3];refine ⟨e,oo (ke (by omega)) _ (by rw [vf] at *;omega) ?_⟩
 have hq:vq 1 * 4=2 ^ eP:=by
  have:vq 4=vq 1 * 4:=by unfold vq vl;rw [Nat.one_mul];ac_rfl
  rw [← this,← lr];have:=ij 0;simpa using this
 rw [ij] at h2 ⊢;unfold vl at h1 h2 ⊢;have e4:=Nat.mul_le_mul h1 h2;have hE:(i+j+(eP:Int)).toNat+eP=(i+(eP:Int)).toNat+(j+(eP:Int)).toNat:=by rw [vf] at *;omega
 have e5:m * n * 2 ^ (i+j+(eP:Int)).toNat * 2 ^ eP=m * 2 ^ (i+(eP:Int)).toNat * (n * 2 ^ (j+(eP:Int)).toNat):=by
  rw [Nat.mul_assoc (m * n),← Nat.pow_add,hE,Nat.pow_add];ac_rfl
 have e6:vq 1 * 2 ^ (k+2+eP)=2 ^ (k+eP) * 2 ^ eP:=by
  rw [show k+2+eP=2+(k+eP) from by omega,Nat.pow_add,← Nat.mul_assoc,show (2:Nat) ^ 2=4 from rfl,hq,Nat.mul_comm]
 rw [← e5,e6] at e4;exact Nat.le_of_mul_le_mul_right e4 (Nat.two_pow_pos _)
def Fu (b c l:Nat):Bool:=match double.read b with
 | .number _ m p=>decide (-(200:Int)≤p) && decide (2 ^ (200+c)≤m * 2 ^ (p+200).toNat) && decide (m * 2 ^ (p+200).toNat≤2 ^ (200+l))
 | _=>false
theorem Gs {b c l:Nat} (h:Fu b c l=true):Bd double b l∧∃ t n j,double.read b=.number t n j∧vl 1 (c:Int)≤vl n j:=by
 unfold Fu at h
 cases hr:double.read b with
 | number s m p =>
   rw [hr] at h;simp only [Bool.and_eq_true,decide_eq_true_eq] at h;obtain ⟨⟨h0,h1⟩,h2⟩:=h;obtain ⟨Y,hY⟩:∃ Y,Y=eP - 200:=⟨_,rfl⟩;have hYe:eP=200+Y:=by have:=iC;omega
   have he:∀ k:Nat,vl 1 (k:Int)=2 ^ (200+k) * 2 ^ Y:=fun k=>by
    rw [ij,← Nat.pow_add,show k+eP=200+k+Y from by omega]
   have hv:vl m p=m * 2 ^ (p+200).toNat * 2 ^ Y:=by
    unfold vl;rw [Nat.mul_assoc,← Nat.pow_add,show (p+(eP:Int)).toNat=(p+200).toNat+Y from by omega]
   refine ⟨⟨s,m,p,hr,?_⟩,s,m,p,rfl,?_⟩
   · rw [hv,he];exact Nat.mul_le_mul_right _ h2
   · rw [hv,he];exact Nat.mul_le_mul_right _ h1
 | infinity s=>rw [hr] at h;cases h
 | nan s t=>rw [hr] at h;cases h
open Ieee
def Mc (k:Nat):Bool:=Fu (lE k) 2 9 && (double.mul 4611686018427387904 (iD k) == some (bk 4611686018427387904 (iD k))) && (double.add (bk 4611686018427387904 (iD k)) dM == some (iw (bk 4611686018427387904 (iD k)) dM)) && (double.mul (bk 4611686018427387904 (iD k)) (iw (bk 4611686018427387904 (iD k)) dM) == some (lE k)) && jx (iD k) dM && (double.sub (iD k) dM == some (iD (k - 1)))
theorem Gw:(List.range 8).all (fun j=>Mc (j+1))=true:=by decide +kernel
theorem Lw:jx (iD 0) dM=false:=by decide +kernel
theorem He:iD 8=4620693217682128896:=by decide +kernel
structure DenOk (k:Nat):Prop where
 mid:Bd double (lE k) 9∧∃ t n j,double.read (lE k)=.number t n j∧vl 1 ((2:Nat):Int)≤vl n j
 two:double.mul 4611686018427387904 (iD k)=some (bk 4611686018427387904 (iD k))
 one:double.add (bk 4611686018427387904 (iD k)) dM=some (iw (bk 4611686018427387904 (iD k)) dM)
 den:double.mul (bk 4611686018427387904 (iD k)) (iw (bk 4611686018427387904 (iD k)) dM)=some (lE k)
 ge:jx (iD k) dM=true
 less:double.sub (iD k) dM=some (iD (k - 1))
theorem zH {k:Nat} (h1:1≤k) (h8:k≤8):DenOk k:=by
 have h:=List.all_eq_true.1 Gw (k - 1) (List.mem_range.2 (by omega))
 rw [show k - 1+1=k from by omega] at h
 unfold Mc at h;simp only [Bool.and_eq_true,beq_iff_eq] at h;obtain ⟨⟨⟨⟨⟨a,b⟩,c⟩,d⟩,e⟩,f⟩:=h;exact ⟨Gs a,b,c,d,e,f⟩
theorem zk:Bd double dM 0:=UW.bd (.inl (Nat.le_refl _))
theorem nN {o:Option Nat} {r:Nat} (h:o=some r):o=some (o.getD 0):=by rw [h];rfl
theorem Fm {u:Nat} (hu:Bd double u 2):∀ j,j≤8→Bd double (pN u j) (2 * j)
 | 0,_=>zk
 | j+1,hj=>by
   have ih:=Fm hu j (by omega)
   have hd:=zH (k:=8 - j) (by omega) (by omega)
   obtain ⟨r1,e1,b1⟩:=pt (ke (k:=2+2 * j) (by omega)) hu ih
   have b1':Bd double r1 (2 * j+2):=b1.mono (by omega)
   obtain ⟨r2,e2,b2⟩:=A7 (ke (k:=2 * j+1) (by omega)) (by omega) b1' hd.mid.1 hd.mid.2 (by decide)
   obtain ⟨r3,e3,b3⟩:=rV (ke (k:=2 * j+1+1) (by omega)) (zk.mono (Nat.zero_le _)) b2
   have:pN u (j+1)=r3:=by
    have f1:bk u (pN u j)=r1:=by unfold bk;rw [e1];rfl
    have f2:qy r1 (lE (8 - j))=r2:=by unfold qy;rw [e2];rfl
    show bg dM (qy (bk u (pN u j)) (lE (8 - j)))=r3
    rw [f1,f2];unfold bg;rw [e3];rfl
   rw [this];exact b3.mono (by omega)
theorem Kx {u:Nat} (hu:Bd double u 2) {j:Nat} (hj:j<8):double.mul u (pN u j)=some (bk u (pN u j))∧double.div (bk u (pN u j)) (lE (8 - j))=some (qy (bk u (pN u j)) (lE (8 - j)))∧double.sub dM (qy (bk u (pN u j)) (lE (8 - j)))=some (pN u (j+1)):=by
 have ih:=Fm hu j (by omega)
 have hd:=zH (k:=8 - j) (by omega) (by omega)
 obtain ⟨r1,e1,b1⟩:=pt (ke (k:=2+2 * j) (by omega)) hu ih
 have b1':Bd double r1 (2 * j+2):=b1.mono (by omega)
 obtain ⟨r2,e2,b2⟩:=A7 (ke (k:=2 * j+1) (by omega)) (by omega) b1' hd.mid.1 hd.mid.2 (by decide)
 obtain ⟨r3,e3,b3⟩:=rV (ke (k:=2 * j+1+1) (by omega)) (zk.mono (Nat.zero_le _)) b2
 have f1:bk u (pN u j)=r1:=by unfold bk;rw [e1];rfl
 have f2:qy r1 (lE (8 - j))=r2:=by unfold qy;rw [e2];rfl
 refine ⟨nN e1,?_,?_⟩
 · rw [f1];exact nN e2
 · show _=some (bg dM (qy (bk u (pN u j)) (lE (8 - j))))
   rw [f1,f2];exact nN e3
structure SineOk (x:Nat):Prop where
 fr:UW (cE x)
 half:jx (cE x) dq=true→double.sub (cE x) dq=some (bg (cE x) dq)
 quar:vp (sA (cE x)) bo=true→double.sub dq (sA (cE x))=some (bg dq (sA (cE x)))
 z:double.mul (sB (sA (cE x))) JG=some (dI x)
 u:double.mul (dI x) (dI x)=some (bk (dI x) (dI x))
 ub:Bd double (bk (dI x) (dI x)) 2
 p:double.mul (dI x) (pN (bk (dI x) (dI x)) 8)=some (mL x)
 bd:Bd double (mJ x) 17
theorem Kv:Fu JG 0 3=true:=by decide +kernel
theorem wK {x:Nat} (h:Bd double x 52):SineOk x:=by
 have hf:=(ww h).2.2.2.2;obtain ⟨a1,a2⟩:=MH hf.qw;obtain ⟨b1,b2⟩:=MK a2;obtain ⟨z1,z2⟩:=BA (k:=1) (by omega) b2 (Gs Kv).1
 have z2':Bd double (dI x) 1:=z2;obtain ⟨u,u1,u2⟩:=pt (ke (k:=1+1) (by omega)) z2' z2'
 have hu:bk (dI x) (dI x)=u:=by unfold bk;rw [u1];rfl
 have ub:Bd double (bk (dI x) (dI x)) 2:=by rw [hu];exact u2
 have p8:=Fm ub 8 (Nat.le_refl _);obtain ⟨p,p1,p2⟩:=pt (ke (k:=1+16) (by omega)) z2' p8
 have hp:mL x=p:=by unfold mL bk;unfold bk at p1;rw [p1];rfl
 refine ⟨hf,a1,b1,z1,nN u1,ub,nN p1,?_⟩
 unfold mJ
 split
 · refine CQ (Mp _) ?_
   rw [hp];exact p2
 · rw [hp];exact p2
def kE (f:Nat):Nat→Nat × Nat
 | 0=>(f,0)
 | n+1=>if jx f bo then ((kE (bg f bo) n).1,(kE (bg f bo) n).2+1) else (f,0)
theorem yZ {f n:Nat} (h:jx f bo=false):kE f n=(f,0):=by
 cases n with
 | zero=>rfl
 | succ n=>rw [kE,if_neg (by rw [h];decide)]
theorem Ar {f n:Nat} (hn:n≤4) (h:QW n f) (hg:jx f bo=true):∃ m,n=m+1∧double.sub f bo=some (bg f bo)∧QW m (bg f bo)∧(kE f n).1=(kE (bg f bo) m).1∧(kE f n).2=(kE (bg f bo) m).2+1:=by
 obtain ⟨s,mm,p,e,h1,h2⟩:=h.bd hn;obtain ⟨g1,_⟩:=uo e h2 (oa 1 (by omega)) (by omega)
 obtain ⟨rfl,hv⟩:=g1.1 hg;obtain ⟨k,q,c1,c2⟩:=oa 1 (by omega)
 have hpos:0<vq 1:=by unfold vq vl;exact Nat.mul_pos (Nat.mul_pos (by omega) (by omega)) (Nat.two_pow_pos _)
 cases n with
 | zero=>rw [CH] at h1;omega
 | succ m =>
   obtain ⟨s1,s2⟩:=ry (k:=m) e c1 (by rw [c2];exact hv) (by omega) (by rw [c2,Ag];exact h1)
   refine ⟨m,rfl,s1,.inl s2,?_,?_⟩
   · rw [kE,if_pos hg]
   · rw [kE,if_pos hg]
theorem QW.bd0 {n f:Nat} (hn:n≤4) (h:QW n f):Bd double f 0:=by
 obtain ⟨s,m,p,e,h1,_⟩:=h.bd hn;refine ⟨s,m,p,e,Nat.le_trans h1 ?_⟩
 show _≤vl 1 0
 rw [lr];exact Ln hn
theorem Ht:∀ (n f:Nat),n≤4→QW n f→Bd double (kE f n).1 0∧(kE f n).2≤n
 | 0,f,hn,h=>⟨h.bd0 hn,Nat.le_refl _⟩
 | n+1,f,hn,h=>by
   cases hg:jx f bo with
   | false=>rw [yZ hg];exact ⟨h.bd0 hn,Nat.zero_le _⟩
   | true =>
     obtain ⟨m,e,_,hq,e1,e2⟩:=Ar hn h hg;obtain rfl:n=m:=by omega
     obtain ⟨i1,i2⟩:=Ht n _ (by omega) hq
     rw [e1,e2];exact ⟨i1,by omega⟩
theorem La:Bd double 0 0:=⟨false,0,-1074,mu,by rw [show vl 0 (-1074)=0 from Nat.zero_mul _];exact Nat.zero_le _⟩
def eZ (x:Nat):Nat:=single.write (double.read x)
def aq (x:Nat):Nat:=double.write (single.read x)
theorem kn {x k:Nat} (h:Bd double x k) (hk:k≤125):floatToFloatBits .f64 x .f32=some (eZ x)∧Bd single (eZ x) k:=by
 have hb:=CS (zd hk) aw h;refine ⟨?_,hb⟩
 obtain ⟨s,m,p,e,_⟩:=h;obtain ⟨s',m',p',e',_⟩:=hb;unfold floatToFloatBits;rw [if_neg (by decide)]
 have e1:FloatKind.f64.decode x=.number s m p:=e;rw [e1];have e2:single.write (.number s m p)=eZ x:=by unfold eZ;rw [e]
 have e3:FloatKind.f32.encode (.number s m p)=eZ x:=e2;have e4:FloatKind.f32.decode (eZ x)=.number s' m' p':=e';simp only [e3,e4]
 rfl
theorem pz {x k:Nat} (h:Bd single x k) (hk:k≤1021):floatToFloatBits .f32 x .f64=some (aq x)∧Bd double (aq x) k:=by
 have hb:=CS (ke hk) jw h;refine ⟨?_,hb⟩
 obtain ⟨s,m,p,e,_⟩:=h;obtain ⟨s',m',p',e',_⟩:=hb;unfold floatToFloatBits;rw [if_neg (by decide)]
 have e1:FloatKind.f32.decode x=.number s m p:=e;rw [e1];have e2:double.write (.number s m p)=aq x:=by unfold aq;rw [e]
 have e3:FloatKind.f64.encode (.number s m p)=aq x:=e2;have e4:FloatKind.f64.decode (aq x)=.number s' m' p':=e';simp only [e3,e4]
 rfl
def it (q c s:Nat):Nat × Nat:=if q=1 then (bg 0 s,c) else if q=2 then (bg 0 c,bg 0 s) else if q=3 then (s,bg 0 c) else (c,s)
def rR (x:Nat):Bool:=jx (x &&& (18446744073709551615 ^^^ 9223372036854775808)) 4841369599423283200
def gH (x:Nat):Nat × Nat:=kE (cE x) 4
def lv (x:Nat):Nat:=mJ (bg bo (gH x).1)
def lu (x:Nat):Nat:=mJ (gH x).1
def bx (x:Nat):Nat × Nat:=if rR x then (1065353216,0) else (eZ (it (gH x).2 (lv x) (lu x)).1,eZ (it (gH x).2 (lv x) (lu x)).2)
theorem sL {a k:Nat} (hk:k≤100) (h:Bd double a k):double.sub 0 a=some (bg 0 a)∧Bd double (bg 0 a) (k+1):=by
 obtain ⟨r,e,b⟩:=rV (ke (k:=k+1) (by omega)) (La.mono (Nat.zero_le k)) h
 have:bg 0 a=r:=by unfold bg;rw [e];rfl
 rw [this];exact ⟨e,b⟩
theorem yS {q c s:Nat} (hc:Bd double c 17) (hs:Bd double s 17):Bd double (it q c s).1 18∧Bd double (it q c s).2 18:=by
 have c1:=(sL (by omega) hc).2
 have s1:=(sL (by omega) hs).2
 have c2:=hc.mono (show 17≤18 by omega)
 have s2:=hs.mono (show 17≤18 by omega)
 unfold it
 split
 · exact ⟨s1,c2⟩
 · split
   · exact ⟨c1,s1⟩
   · split
     · exact ⟨s2,c1⟩
     · exact ⟨c2,s2⟩
structure PhasorOk (x:Nat):Prop where
 qw:QW 4 (cE x)
 q4:(gH x).2≤4
 sub:double.sub bo (gH x).1=some (bg bo (gH x).1)
 bc:Bd double (bg bo (gH x).1) 52
 bs:Bd double (gH x).1 52
 c:Bd double (lv x) 17
 s:Bd double (lu x) 17
 c0:double.sub 0 (lv x)=some (bg 0 (lv x))
 s0:double.sub 0 (lu x)=some (bg 0 (lu x))
theorem xO {x:Nat} (h:Bd double x 52):PhasorOk x:=by
 have hf:=(ww h).2.2.2.2.qw;obtain ⟨b1,b2⟩:=Ht 4 _ (by omega) hf
 obtain ⟨r,e,b⟩:=rV (ke (k:=0+1) (by omega)) (UW.bd (.inl (show bo≤dM by decide))) b1
 have hr:bg bo (gH x).1=r:=by unfold bg gH;rw [e];rfl
 have bc:Bd double (bg bo (gH x).1) 52:=by rw [hr];exact b.mono (by omega)
 have bs:Bd double (gH x).1 52:=b1.mono (by omega)
 have c:=(wK bc).bd;have s:=(wK bs).bd;exact ⟨hf,b2,by rw [hr];exact e,bc,bs,c,s,(sL (by omega) c).1,(sL (by omega) s).1⟩
theorem FT {x:Nat} (h:rR x=false→Bd double x 52):Bd single (bx x).1 18∧Bd single (bx x).2 18:=by
 unfold bx
 cases hb:rR x with
 | true =>
   rw [if_pos rfl];refine ⟨⟨false,8388608,-23,by decide +kernel,?_⟩,⟨false,0,-149,by decide +kernel,by rw [show vl 0 (-149)=0 from Nat.zero_mul _];exact Nat.zero_le _⟩⟩
   have:=cZ (m:=1) (k:=23) (p:=-23) (q:=0) (by rw [iC];omega) (by omega)
   rw [Nat.one_mul] at this;have h2:vl 1 ((0:Nat):Int)≤vl 1 ((18:Nat):Int):=Kb (by omega)
   rw [show (8388608:Nat)=2 ^ 23 from rfl,← this];exact h2
 | false =>
   rw [if_neg (by decide)]
   have hp:=xO (h hb);obtain ⟨t1,t2⟩:=yS (q:=(gH x).2) hp.c hp.s;exact ⟨(kn t1 (by omega)).2,(kn t2 (by omega)).2⟩
open Ieee
end Go.Proofs.YtbknhgapjjaelaaGreatDoor
