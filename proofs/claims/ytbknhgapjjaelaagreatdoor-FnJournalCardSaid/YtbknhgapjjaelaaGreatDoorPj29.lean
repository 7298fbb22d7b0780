/-
  Part 29 of what the proof stands on: lemmas and contracts, each with its conditions ahead of the colon.
-/
import Derived.Test.YtbknhgapjjaelaaGreatDoorPj01
import Derived.Test.YtbknhgapjjaelaaGreatDoorPj28
namespace Go.Proofs.YtbknhgapjjaelaaGreatDoor
set_option linter.unusedVariables false
set_option linter.unusedSimpArgs false
open Ieee
theorem qW (s:Bool) (m u:Nat):(signed s m u).natAbs=m * 2 ^ u:=by
 unfold signed;rw [Nat.shiftLeft_eq]
 cases s
 · simp only [Bool.false_eq_true,if_false];exact Int.natAbs_natCast _
 · simp only [if_true,Int.natAbs_neg];exact Int.natAbs_natCast _
def kOk (f:Format) (k:Nat):Prop:=f=single∧k≤125∨f=double∧k≤1021
theorem kOk.fok {f:Format} {k:Nat} (h:kOk f k):FOk f:=by rcases h with ⟨rfl,_⟩ | ⟨rfl,_⟩;exact jx;exact az
theorem NM (k:Nat):vl 1 (k:Int)+vl 1 (k:Int)=vl 1 ((k+1:Nat):Int):=by
 rw [it,it,show k+1+eP=(k+eP)+1 from by omega,Nat.pow_succ,Nat.mul_two]
theorem Ja {f:Format} {k:Nat} (hk:kOk f (k+1)) {s t:Bool} {m n:Nat} {i j:Int} (hi:f.leastPlace≤i) (hj:f.leastPlace≤j) (hm:vl m i≤vl 1 (k:Int)) (hn:vl n j≤vl 1 (k:Int)) :
 ∃ r,((Datum.number s m i).sum (.number t n j)).map f.write=some r∧Bd f r (k+1):=by
 have hlow:=hk.fok.low;refine ⟨_,rfl,?_⟩
 refine oe hk _ (by omega) ?_
 have e1:vl (m * 2 ^ (i - min i j).toNat) (min i j)=vl m i:=(dg (by omega) (by omega)).symm
 have e2:vl (n * 2 ^ (j - min i j).toNat) (min i j)=vl n j:=(dg (by omega) (by omega)).symm
 have h1:(signed s m (i - min i j).toNat+signed t n (j - min i j).toNat).natAbs≤m * 2 ^ (i - min i j).toNat+n * 2 ^ (j - min i j).toNat:=by
  have:=Int.natAbs_add_le (signed s m (i - min i j).toNat) (signed t n (j - min i j).toNat);rwa [qW,qW] at this
 refine Nat.le_trans (kE h1) ?_
 rw [← NM];have e3:vl (m * 2 ^ (i - min i j).toNat+n * 2 ^ (j - min i j).toNat) (min i j)=vl m i+vl n j:=by
  rw [← e1,← e2];exact Nat.add_mul _ _ _
 rw [e3];omega
theorem uM {f:Format} {a b k:Nat} (hk:kOk f (k+1)) (ha:Bd f a k) (hb:Bd f b k):∃ r,f.add a b=some r∧Bd f r (k+1):=by
 obtain ⟨s,m,i,e1,h1⟩:=ha;obtain ⟨t,n,j,e2,h2⟩:=hb;unfold Format.add;rw [e1,e2];exact Ja hk (bf hk.fok e1).1 (bf hk.fok e2).1 h1 h2
theorem rt {f:Format} {a b k:Nat} (hk:kOk f (k+1)) (ha:Bd f a k) (hb:Bd f b k):∃ r,f.sub a b=some r∧Bd f r (k+1):=by
 obtain ⟨s,m,i,e1,h1⟩:=ha;obtain ⟨t,n,j,e2,h2⟩:=hb;unfold Format.sub;rw [e1,e2];exact Ja (t:=!t) hk (bf hk.fok e1).1 (bf hk.fok e2).1 h1 h2
theorem pO {f:Format} {a b k l:Nat} (hk:kOk f (k+l)) (ha:Bd f a k) (hb:Bd f b l):∃ r,f.mul a b=some r∧Bd f r (k+l):=by
 obtain ⟨s,m,i,e1,h1⟩:=ha;obtain ⟨t,n,j,e2,h2⟩:=hb;have hl:=hk.fok.low3;have hng:=hk.fok.neg;have p1:=(bf hk.fok e1).1;have p2:=(bf hk.fok e2).1;unfold Format.mul;rw [e1,e2];refine ⟨_,rfl,?_⟩
 refine oe hk _ (by omega) ?_
 rw [it] at h1 h2 ⊢;unfold vl at h1 h2 ⊢;have e:=Nat.mul_le_mul h1 h2;have hE:(i+j+(eP:Int)).toNat+eP=(i+(eP:Int)).toNat+(j+(eP:Int)).toNat:=by omega
 have e3:m * n * 2 ^ (i+j+(eP:Int)).toNat * 2 ^ eP=m * 2 ^ (i+(eP:Int)).toNat * (n * 2 ^ (j+(eP:Int)).toNat):=by
  rw [Nat.mul_assoc (m * n),← Nat.pow_add,hE,Nat.pow_add];ac_rfl
 have e4:2 ^ (k+eP) * 2 ^ (l+eP)=2 ^ (k+l+eP) * 2 ^ eP:=by rw [← Nat.pow_add,← Nat.pow_add];congr 1;omega
 rw [← e3,e4] at e;exact Nat.le_of_mul_le_mul_right e (Nat.two_pow_pos _)
theorem zN {f:Format} {a b k l c:Nat} (hk:kOk f (k+1)) (hl:l≤200) (ha:Bd f a (k+c)) (hb:Bd f b l) (h1:∃ t n j,f.read b=.number t n j∧vl 1 (c:Int)≤vl n j) (hfb:f.fractionBits≤52) :
 ∃ r,f.div a b=some r∧Bd f r (k+1):=by
 obtain ⟨s,m,i,e1,h1'⟩:=ha;obtain ⟨t,n,j,e2,h2⟩:=hb;obtain ⟨t',n',j',e3,h3⟩:=h1;rw [e2] at e3;injection e3 with x1 x2 x3
 subst x1 x2 x3;have hlow:=hk.fok.low3;have hng:=hk.fok.neg;have p1:=(bf hk.fok e1).1;obtain ⟨p2,n2,-,-,-,-⟩:=bf hk.fok e2;have hn:n≠0:=by
  intro h0;subst h0;have:0<vl 1 (c:Int):=by rw [it];exact Nat.two_pow_pos _
  have h4:vl 0 j=0:=Nat.zero_mul _;omega
 have hn1:0<n:=Nat.pos_of_ne_zero hn;unfold Format.div;rw [e1,e2];have hq:(Datum.number s m i).quotient (f.fractionBits+2) (.number t n j)=some (.number (s ^^ t) (2 * (m <<< (f.fractionBits+2+n.log2 - m.log2) / n)+(m <<< (f.fractionBits+2+n.log2 - m.log2) % n != 0).toNat) (i - j - (f.fractionBits+2+n.log2 - m.log2:Nat) - 1)):=by
  simp only [Datum.quotient,if_neg hn]
 rw [hq];refine ⟨_,rfl,?_⟩
 have hlog:n.log2≤52:=by
  have l1:2 ^ n.log2≤n:=Nat.log2_self_le hn;have l2:2 ^ n.log2<2 ^ 53:=by
   refine Nat.lt_of_le_of_lt l1 (Nat.lt_of_lt_of_le n2 ?_)
   rw [hk.fok.bits,← Nat.pow_succ'];exact Nat.pow_le_pow_right (by omega) (by omega)
  have:=(Nat.pow_lt_pow_iff_right (show 1<2 by omega)).1 l2
  omega
 have hj:j≤200:=by
  rw [it] at h2;unfold vl at h2;have h4:2 ^ (j+(eP:Int)).toNat≤2 ^ (l+eP):=Nat.le_trans (Nat.le_mul_of_pos_left _ hn1) h2;have:=(Nat.pow_le_pow_iff_right (show 1<2 by omega)).1 h4
  omega
 obtain ⟨M,hM⟩:∃ M,M=f.fractionBits+2+n.log2 - m.log2:=⟨_,rfl⟩;rw [← hM];have hMb:M≤106:=by omega
 refine oe hk _ (by omega) ?_
 rcases Nat.eq_zero_or_pos m with h0 | h0
 · subst h0
   rw [Nat.zero_shiftLeft,Nat.zero_div,Nat.zero_mod];have:vl (2 * 0+((0:Nat) != 0).toNat) (i - j - (M:Int) - 1)=0:=Nat.zero_mul _;rw [this];exact Nat.zero_le _
 · have hD:n≤m <<< M:=by
     rw [Nat.shiftLeft_eq];have l1:2 ^ m.log2≤m:=Nat.log2_self_le (by omega)
     have l2:n<2 ^ (n.log2+1):=Nat.lt_log2_self;have l3:=Nat.mul_le_mul_right (2 ^ M) l1;rw [← Nat.pow_add] at l3;have l4:2 ^ (n.log2+1)≤2 ^ (m.log2+M):=Nat.pow_le_pow_right (by omega) (by omega)
     omega
   have hdm:=Nat.div_add_mod (m <<< M) n;have hmod:=Nat.mod_lt (m <<< M) hn1;have hq3:(2 * (m <<< M / n)+(m <<< M % n != 0).toNat) * n≤3 * (m <<< M):=by
    have hbit:(m <<< M % n != 0).toNat≤1:=Bool.toNat_le _;have e5:(m <<< M / n) * n≤m <<< M:=Nat.div_mul_le_self _ _;have e6:=Nat.mul_le_mul_right n hbit;rw [Nat.add_mul,Nat.mul_assoc];omega
   generalize (2 * (m <<< M / n)+(m <<< M % n != 0).toNat)=Q at *
   rw [Nat.shiftLeft_eq] at hq3;rw [it] at h1' h3 ⊢;unfold vl at h1' h3 ⊢;have h3':=h3;have e7:=Nat.mul_le_mul_right (2 ^ (i - j - (M:Int) - 1+(eP:Int)).toNat * 2 ^ (j+(eP:Int)).toNat) hq3
   have hE:M+((i - j - (M:Int) - 1+(eP:Int)).toNat+(j+(eP:Int)).toNat)+1=(i+(eP:Int)).toNat+eP:=by omega
   have e8:3 * (m * 2 ^ M) * (2 ^ (i - j - (M:Int) - 1+(eP:Int)).toNat * 2 ^ (j+(eP:Int)).toNat) * 2=3 * (m * 2 ^ (i+(eP:Int)).toNat * 2 ^ eP):=by
    have:2 ^ M * (2 ^ (i - j - (M:Int) - 1+(eP:Int)).toNat * 2 ^ (j+(eP:Int)).toNat) * 2=2 ^ (i+(eP:Int)).toNat * 2 ^ eP:=by
     rw [← Nat.pow_add (m:=(i+(eP:Int)).toNat),← hE,Nat.pow_succ,Nat.pow_add,Nat.pow_add]
    calc 3 * (m * 2 ^ M) * (2 ^ (i - j - (M:Int) - 1+(eP:Int)).toNat * 2 ^ (j+(eP:Int)).toNat) * 2=3 * (m * (2 ^ M * (2 ^ (i - j - (M:Int) - 1+(eP:Int)).toNat * 2 ^ (j+(eP:Int)).toNat) * 2)):=by ac_rfl
      _=_:=by rw [this,Nat.mul_assoc m]
   have e9:Q * n * (2 ^ (i - j - (M:Int) - 1+(eP:Int)).toNat * 2 ^ (j+(eP:Int)).toNat)=Q * 2 ^ (i - j - (M:Int) - 1+(eP:Int)).toNat * (n * 2 ^ (j+(eP:Int)).toNat):=by ac_rfl
   rw [e9] at e7;generalize hX:Q * 2 ^ (i - j - (M:Int) - 1+(eP:Int)).toNat=X at *
   have e10:=Nat.mul_le_mul_left X h3';have e11:m * 2 ^ (i+(eP:Int)).toNat * 2 ^ eP≤2 ^ (k+c+eP) * 2 ^ eP:=Nat.mul_le_mul_right _ h1'
   have e12:X * 2 ^ (c+eP)≤2 ^ (k+1+eP) * 2 ^ (c+eP):=by
    have:2 ^ (k+1+eP) * 2 ^ (c+eP)=2 * (2 ^ (k+c+eP) * 2 ^ eP):=by
     rw [← Nat.pow_add,← Nat.pow_add,← Nat.pow_succ'];congr 1;omega
    omega
   exact Nat.le_of_mul_le_mul_right e12 (Nat.two_pow_pos _)
theorem DG {f:Format} {a b k:Nat} (h:f.read b=(f.read a).opposite) (ha:Bd f a k):Bd f b k:=by
 obtain ⟨s,m,i,e1,h1⟩:=ha;exact ⟨!s,m,i,by rw [h,e1];rfl,h1⟩
theorem Nt (b:Nat):double.read (b ^^^ 9223372036854775808)=(double.read b).opposite:=by
 have hs:double.signWeight=2 ^ 63:=by decide
 have e1:(b ^^^ 9223372036854775808) % 2 ^ 63=b % 2 ^ 63:=by
  rw [Nat.xor_mod_two_pow,show (9223372036854775808:Nat) % 2 ^ 63=0 from by decide,Nat.xor_zero]
 have e2:(b ^^^ 9223372036854775808) / 2 ^ 63=(b / 2 ^ 63) ^^^ 1:=by
  rw [← Nat.shiftRight_eq_div_pow,Nat.shiftRight_xor_distrib,← Nat.shiftRight_eq_div_pow]
  rfl
 have e3:((b / 2 ^ 63) ^^^ 1) % 2=1 - b / 2 ^ 63 % 2:=by
  rw [show (2:Nat)=2 ^ 1 from rfl,Nat.xor_mod_two_pow]
  rcases Nat.mod_two_eq_zero_or_one (b / (2 ^ 1) ^ 63) with h | h
  · rw [show (2:Nat) ^ 1=2 from rfl] at h ⊢;rw [h];rfl
  · rw [show (2:Nat) ^ 1=2 from rfl] at h ⊢;rw [h];rfl
 unfold Format.read;rw [hs,e1,e2,e3];have hb:(1 - b / 2 ^ 63 % 2 == 1) = !(b / 2 ^ 63 % 2 == 1):=by
  rcases Nat.mod_two_eq_zero_or_one (b / 2 ^ 63) with h | h
  · rw [h];rfl
  · rw [h];rfl
 rw [hb];simp only
 split
 · rfl
 · split
   · rfl
   · split
     · rfl
     · rfl
theorem DF {f g:Format} {b k:Nat} (hg:kOk g k) (hf:FOk f) (h:Bd f b k):Bd g (g.write (f.read b)) k:=by
 obtain ⟨s,m,i,e1,h1⟩:=h;rw [e1];exact oe hg s (by have:=(bf hf e1).1;have:=hf.low;omega) h1
open Ieee
def iC (a b:Nat):Nat:=(double.add a b).getD 0
def bh (a b:Nat):Nat:=(double.sub a b).getD 0
def bo (a b:Nat):Nat:=(double.mul a b).getD 0
def qp (a b:Nat):Nat:=(double.div a b).getD 0
def sk (a b:Nat):Nat:=(single.add a b).getD 0
def uC (a b:Nat):Nat:=(single.mul a b).getD 0
def NI (a b:Nat):Nat:=(single.div a b).getD 0
def ec:Nat:=4607182418800017408
def bq:Nat:=4598175219545276416
def dw:Nat:=4602678819172646912
def Jd:Nat:=4604930618986332160
def Lh:Nat:=4618760256179416344
def mp:Nat:=9223372036854775808
def A3 (a b:Nat):Bool:=double.order a b == some .lt
def uV (a b:Nat):Bool:=double.order a b == some .gt
def jG (a b:Nat):Bool:=double.order a b == some .gt || double.order a b == some .eq
def jb (x:Nat):Int:=((double.read x).toInt .zero).getD 0
def ib (n:Int):Nat:=double.write (.number (n<0) n.natAbs 0)
def cQ (x:Nat):Nat:=if A3 (bh x (ib (jb x))) 0 then iC (bh x (ib (jb x))) ec else bh x (ib (jb x))
theorem Ld {s t:Bool} {m:Nat} {i j:Int}:(Datum.number s m i).sum (.number t 0 j)=some (.number (if m * 2 ^ (i - min i j).toNat=0 then s && t else s) (m * 2 ^ (i - min i j).toNat) (min i j)):=by
 have e0:signed t 0 (j - min i j).toNat=0:=by unfold signed;rw [Nat.zero_shiftLeft];cases t <;> rfl
 have e1:(signed s m (i - min i j).toNat).natAbs=m * 2 ^ (i - min i j).toNat:=qW _ _ _;simp only [Datum.sum,e0,Int.add_zero,e1];have e2:signed s m (i - min i j).toNat=if s then -((m * 2 ^ (i - min i j).toNat:Nat):Int) else ((m * 2 ^ (i - min i j).toNat:Nat):Int):=by
  unfold signed;rw [Nat.shiftLeft_eq]
 rw [e2];generalize m * 2 ^ (i - min i j).toNat=M
 cases s
 · simp only [Bool.false_eq_true,if_false]
   by_cases h:M=0
   · subst h;simp
   · have h1:¬ ((M:Int)=0):=by omega
     have h2:¬ ((M:Int)<0):=by omega
     rw [if_neg h1,if_neg h,decide_eq_false h2]
 · simp only [if_true]
   by_cases h:M=0
   · subst h;simp
   · have h1:¬ (-(M:Int)=0):=by omega
     have h2:-(M:Int)<0:=by omega
     rw [if_neg h1,if_neg h,decide_eq_true h2]
theorem oN {s:Bool} {m n:Nat} {i j:Int} (hi:-(eP:Int)≤i) (hj:-(eP:Int)≤j) (h:vl n j≤vl m i) :
 ∃ D,(Datum.number s m i).sum (.number (!s) n j)=some (.number (if D=0 then false else s) D (min i j))∧vl D (min i j)+vl n j=vl m i:=by
 have e1:vl (m * 2 ^ (i - min i j).toNat) (min i j)=vl m i:=(dg (by omega) (by omega)).symm
 have e2:vl (n * 2 ^ (j - min i j).toNat) (min i j)=vl n j:=(dg (by omega) (by omega)).symm
 rw [← e1,← e2] at h ⊢;have hle:=mt h;refine ⟨m * 2 ^ (i - min i j).toNat - n * 2 ^ (j - min i j).toNat,?_,?_⟩
 · have e3:signed s m (i - min i j).toNat=if s then -((m * 2 ^ (i - min i j).toNat:Nat):Int) else ((m * 2 ^ (i - min i j).toNat:Nat):Int):=by
     unfold signed;rw [Nat.shiftLeft_eq]
   have e4:signed (!s) n (j - min i j).toNat=if s then ((n * 2 ^ (j - min i j).toNat:Nat):Int) else -((n * 2 ^ (j - min i j).toNat:Nat):Int):=by
    unfold signed;rw [Nat.shiftLeft_eq];cases s <;> rfl
   simp only [Datum.sum,e3,e4];generalize m * 2 ^ (i - min i j).toNat=A at *
   generalize n * 2 ^ (j - min i j).toNat=B at *
   cases s
   · simp only [Bool.false_eq_true,if_false,Bool.not_false,Bool.false_and]
     have e5:((A:Int) + -(B:Int)).natAbs=A - B:=by omega
     rw [e5]
     congr 2
     by_cases h0:A - B=0
     · have h1:(A:Int) + -(B:Int)=0:=by omega
       rw [if_pos h1,if_pos h0]
     · have h1:¬ (A:Int) + -(B:Int)=0:=by omega
       have h2:¬ (A:Int) + -(B:Int)<0:=by omega
       rw [if_neg h1,if_neg h0,decide_eq_false h2]
   · simp only [if_true,Bool.not_true,Bool.and_false]
     have e5:(-(A:Int)+(B:Int)).natAbs=A - B:=by omega
     rw [e5]
     congr 2
     by_cases h0:A - B=0
     · have h1:-(A:Int)+(B:Int)=0:=by omega
       rw [if_pos h1,if_pos h0]
     · have h1:¬ -(A:Int)+(B:Int)=0:=by omega
       have h2:-(A:Int)+(B:Int)<0:=by omega
       rw [if_neg h1,if_neg h0,decide_eq_true h2]
 · unfold vl
   rw [← Nat.add_mul,Nat.sub_add_cancel hle]
theorem MB {c m:Nat} {p:Int} (hr:double.read c=.number false m p) (hc:c<double.infRung) {D:Nat} {b:Int} (hb:-(eP:Int)≤b) (h:vl D b≤vl m p):double.nearest false D b≤c:=by
 obtain ⟨r1,r2,r3,r4,r5,_⟩:=bf az hr;have hs:=double.infRung_lt;rw [Nat.mod_eq_of_lt (by omega)] at r4
 exact qI az hb r1 r2 r3 r4 h
theorem tw {a c m n:Nat} {p q:Int} (ha:double.read a=.number false m p) (hc:double.read c=.number false n q) (hai:a<double.infRung) (hci:c<double.infRung) (h:a≤c):vl m p≤vl n q:=by
 obtain ⟨r1,r2,r3,r4,r5,_⟩:=bf az ha;obtain ⟨s1,s2,s3,s4,s5,_⟩:=bf az hc;have hs:=double.infRung_lt;rw [Nat.mod_eq_of_lt (by omega)] at r4 s4
 refine kF az r1 s1 r2 s2 r3 s3 ?_
 rw [← r4,← s4];exact h
theorem pU:double.infRung=9218868437227405312:=by decide
theorem MZ:double.signWeight=mp:=by decide
theorem po:double.read ec=.number false 4503599627370496 (-52):=by decide +kernel
theorem Bz:double.read bq=.number false 4503599627370496 (-54):=by decide +kernel
theorem G5:double.read dw=.number false 4503599627370496 (-53):=by decide +kernel
theorem Gg:double.read Jd=.number false 6755399441055744 (-53):=by decide +kernel
theorem mN:double.read 0=.number false 0 (-1074):=by decide +kernel
theorem zt (m a k:Nat) (h:a≤2000) (b:Nat) (hb:b≤a) (hk:k=m * 2 ^ (a - b)):vl m (-(b:Int))=vl k (-(a:Int)):=by
 subst hk;exact dg (by rw [iD];omega) (by omega)
noncomputable def vq (k:Nat):Nat:=vl (k * 4503599627370496) (-54)
theorem Cl (a b:Nat):vq a+vq b=vq (a+b):=by unfold vq vl;rw [← Nat.add_mul,← Nat.add_mul]
theorem lS:vl 1 0=vq 4:=by
 have:=zt 1 54 18014398509481984 (by omega) 0 (by omega) (by decide)
 unfold vq;rw [show (4 * 4503599627370496:Nat)=18014398509481984 from rfl]
 simpa using this
theorem rR:vl 4503599627370496 (-52)=vq 4:=by
 exact zt 4503599627370496 54 (4 * 4503599627370496) (by omega) 52 (by omega) (by decide)
theorem Mu:vl 4503599627370496 (-53)=vq 2:=by
 exact zt 4503599627370496 54 (2 * 4503599627370496) (by omega) 53 (by omega) (by decide)
theorem Lm:vl 6755399441055744 (-53)=vq 3:=zt 6755399441055744 54 (3 * 4503599627370496) (by omega) 53 (by omega) (by decide)
theorem FM:vl 4503599627370496 (-54)=vq 1:=by unfold vq;rw [Nat.one_mul]
theorem Ep:vq 0=0:=by unfold vq vl;simp only [Nat.zero_mul]
theorem Nc {a b:Nat} (h:a≤b):vq a≤vq b:=kE (Nat.mul_le_mul_right _ h)
def pG:Nat→Nat
 | 4=>ec
 | 3=>Jd
 | 2=>dw
 | 1=>bq
 | _=>0
theorem kh (k:Nat) (hk:k≤4):pG k<double.infRung∧∃ m p,double.read (pG k)=.number false m p∧vl m p=vq k:=by
 rw [pU]
 match k,hk with
 | 0,_=>exact ⟨by decide,_,_,mN,by rw [Ep];exact Nat.zero_mul _⟩
 | 1,_=>exact ⟨by decide,_,_,Bz,FM⟩
 | 2,_=>exact ⟨by decide,_,_,G5,Mu⟩
 | 3,_=>exact ⟨by decide,_,_,Gg,Lm⟩
 | 4,_=>exact ⟨by decide,_,_,po,rR⟩
theorem Hq {k:Nat} (hk:k≤4) {D:Nat} {b:Int} (hb:-(eP:Int)≤b) (h:vl D b≤vq k):double.nearest false D b≤pG k:=by
 obtain ⟨c1,m,p,c2,c3⟩:=kh k hk;exact MB c2 c1 hb (by rw [c3];exact h)
def UW (f:Nat):Prop:=f≤ec∨f=mp
theorem mI:double.read mp=.number true 0 (-1074):=by decide +kernel
theorem UW.bd {f:Nat} (h:UW f):Bd double f 0:=by
 rcases h with h | h
 · have h1:f<double.infRung:=by rw [pU];unfold ec at h;omega
   obtain ⟨m,p,e⟩:=mg h1 az;refine ⟨false,m,p,e,?_⟩
   have:=tw e po h1 (by rw [pU];decide) h
   rw [rR] at this
   show _≤vl 1 0
   rw [lS];exact this
 · subst h
   exact ⟨true,0,-1074,mI,by have:vl 0 (-1074)=0:=Nat.zero_mul _;rw [this];exact Nat.zero_le _⟩
theorem vh:double.leastPlace = -1074:=by decide
theorem rU {a b m n:Nat} {p q:Int} (ha:double.read a=.number false m p) (hb:double.read b=.number false n q):double.order a b=some (compare (vl m p) (vl n q)):=by
 have hp:=(bf az ha).1;have hq:=(bf az hb).1;have hl:=az.low;have e1:vl (m * 2 ^ (p - min p q).toNat) (min p q)=vl m p:=(dg (by omega) (by omega)).symm
 have e2:vl (n * 2 ^ (q - min p q).toNat) (min p q)=vl n q:=(dg (by omega) (by omega)).symm
 unfold Format.order;rw [ha,hb];simp only [Datum.order,signed,Bool.false_eq_true,if_false,Nat.shiftLeft_eq];rw [← e1,← e2];generalize m * 2 ^ (p - min p q).toNat=A;generalize n * 2 ^ (q - min p q).toNat=B
 congr 1
 have hpos:0<2 ^ (min p q+(eP:Int)).toNat:=Nat.two_pow_pos _;unfold vl;generalize 2 ^ (min p q+(eP:Int)).toNat=X at *
 rcases Nat.lt_trichotomy A B with h | h | h
 · rw [Nat.compare_eq_lt.2 (Nat.mul_lt_mul_of_pos_right h hpos),Int.compare_eq_lt.2 (by omega)]
 · subst h;rw [Nat.compare_eq_eq.2 rfl,Int.compare_eq_eq.2 rfl]
 · rw [Nat.compare_eq_gt.2 (Nat.mul_lt_mul_of_pos_right h hpos),Int.compare_eq_gt.2 (by omega)]
theorem Fw {b n:Nat} {q:Int} (hb:double.read b=.number false n q) (hn:0<vl n q):double.order mp b=some .lt:=by
 have hn0:0<n:=by
  rcases Nat.eq_zero_or_pos n with h | h
  · subst h;have:vl 0 q=0:=Nat.zero_mul _;omega
  · exact h
 unfold Format.order;rw [mI,hb];simp only [Datum.order,signed,Bool.false_eq_true,if_false,if_true,Nat.zero_shiftLeft,Nat.shiftLeft_eq]
 congr 1
 rw [Int.compare_eq_lt];have:0<n * 2 ^ (q - min (-1074) q).toNat:=Nat.mul_pos hn0 (Nat.two_pow_pos _);omega
open Ieee
theorem Jk (s:Bool) (n d:Nat):Toward.zero.cut s n d=n / 2 ^ d:=by
 unfold Toward.cut;simp only [Bool.toNat_false,Nat.add_zero,Nat.one_shiftLeft]
 rcases Nat.le_total d (n.log2+2) with h | h
 · rw [Nat.min_eq_left h]
 · rw [Nat.min_eq_right h]
   have l2:n<2 ^ (n.log2+1):=Nat.lt_log2_self;have e1:2 ^ (n.log2+1)≤2 ^ (n.log2+2):=Nat.pow_le_pow_right (by omega) (by omega)
   have e2:2 ^ (n.log2+2)≤2 ^ d:=Nat.pow_le_pow_right (by omega) h
   rw [Nat.div_eq_of_lt (by omega),Nat.div_eq_of_lt (by omega)]
theorem Ln (s:Bool) {m:Nat} {p:Int} (hp:-(eP:Int)≤p) :
 ∃ T:Nat,(Datum.number s m p).toInt .zero=some (if s then -(T:Int) else (T:Int))∧vl T 0≤vl m p∧vl m p≤vl T 0+vl 1 0:=by
 refine ⟨(m * 2 ^ p.toNat) / 2 ^ (-p).toNat,?_,?_,?_⟩
 · simp only [Datum.toInt,Datum.integral,Jk,signed,Nat.shiftLeft_eq,Nat.pow_zero,Nat.mul_one]
 · rcases Int.le_total 0 p with h | h
   · rw [show (-p).toNat=0 from by omega,Nat.pow_zero,Nat.div_one]
     rw [dg (k:=p.toNat) (p:=0) (q:=p) (by omega) (by omega)]
     exact Nat.le_refl _
   · rw [show p.toNat=0 from by omega,Nat.pow_zero,Nat.mul_one]
     rw [dg (k:=(-p).toNat) (p:=p) (q:=0) hp (by omega)]
     exact kE (Nat.div_mul_le_self _ _)
 · rcases Int.le_total 0 p with h | h
   · rw [show (-p).toNat=0 from by omega,Nat.pow_zero,Nat.div_one]
     rw [dg (k:=p.toNat) (p:=0) (q:=p) (by omega) (by omega)]
     exact Nat.le_add_right _ _
   · rw [show p.toNat=0 from by omega,Nat.pow_zero,Nat.mul_one]
     rw [dg (k:=(-p).toNat) (p:=p) (q:=0) hp (by omega),dg (k:=(-p).toNat) (p:=p) (q:=0) hp (by omega)]
     have hd:=Nat.div_add_mod m (2 ^ (-p).toNat);have hm:=Nat.mod_lt m (Nat.two_pow_pos (-p).toNat);have:m≤m / 2 ^ (-p).toNat * 2 ^ (-p).toNat+1 * 2 ^ (-p).toNat:=by rw [Nat.mul_comm (m / _)];omega
     have:=kE (p:=p) this;unfold vl at this ⊢;rw [Nat.add_mul] at this;exact this
theorem Gn (s:Bool) {T:Nat} (h:T≤2 ^ 52):∃ m p,double.read (double.nearest s T 0)=.number s m p∧vl m p=vl T 0:=by
 rcases Nat.eq_zero_or_pos T with h0 | h0
 · subst h0
   have e:double.nearest s 0 0=double.word s 0:=rfl;obtain ⟨m,p,e1,e2⟩:=nw az (show 0<double.infRung by rw [pU];omega) s
   rw [mN] at e2;injection e2 with _ e3 e4
   subst e3 e4;exact ⟨0,-1074,by rw [e];exact e1,by rw [show vl 0 (-1074)=0 from Nat.zero_mul _];exact (Nat.zero_mul _).symm⟩
 · have l1:2 ^ T.log2≤T:=Nat.log2_self_le (by omega)
   have l2:T<2 ^ (T.log2+1):=Nat.lt_log2_self;have l3:T.log2≤52:=by
    have:2 ^ T.log2≤2 ^ 52:=Nat.le_trans l1 h;exact (Nat.pow_le_pow_iff_right (show 1<2 by omega)).1 this
   obtain ⟨L,hL⟩:∃ L,L=T.log2:=⟨_,rfl⟩;rw [← hL] at l1 l2 l3;have hB:double.binade=2 ^ 52:=by decide
   have k1:double.binade≤T * 2 ^ (52 - L):=by
    rw [hB];have:=Nat.mul_le_mul_right (2 ^ (52 - L)) l1;rwa [← Nat.pow_add,show L+(52 - L)=52 from by omega] at this
   have k2:T * 2 ^ (52 - L)<2 * double.binade:=by
    rw [hB,← Nat.pow_succ'];have:=Nat.mul_lt_mul_of_pos_right l2 (Nat.two_pow_pos (52 - L));rwa [← Nat.pow_add,show L+1+(52 - L)=52+1 from by omega] at this
   have hv:vl T 0=vl (T * 2 ^ (52 - L)) ((L:Int) - 52):=dg (by rw [iD];omega) (by omega)
   have hq:double.leastPlace≤(L:Int) - 52:=by rw [vh];omega
   have hr:(((L:Int) - 52) - double.leastPlace).toNat * double.binade+T * 2 ^ (52 - L)<double.infRung:=by
    have e:=Nat.mul_le_mul_right double.binade (show (((L:Int) - 52) - double.leastPlace).toNat+2≤1076 by rw [vh];omega)
    have:1076 * double.binade<double.infRung:=by decide
    rw [Nat.add_mul] at e;omega
   have n1:=qI az (place:=0) (by rw [iD];omega) hq k2 (.inl k1) rfl (Nat.le_of_eq hv)
   have n2:=Fp az (place:=0) (by rw [iD];omega) hq k2 (.inl k1) rfl (Nat.le_of_lt hr) (Nat.le_of_eq hv.symm)
   have n3:=Nat.le_antisymm n1 n2;obtain ⟨m,p,e1,e2⟩:=nw az (r:=double.nearest false T 0) (by rw [n3];exact hr) s
   refine ⟨m,p,by rw [oI];exact e1,?_⟩
   obtain ⟨r1,r2,r3,r4,r5,_⟩:=bf az e2;have hs:=double.infRung_lt;rw [n3,Nat.mod_eq_of_lt (by omega)] at r4
   rw [hv];exact Nat.le_antisymm (kF az r1 hq r2 k2 r3 (.inl k1) (Nat.le_of_eq r4.symm)) (kF az hq r1 k2 r2 (.inl k1) r3 (Nat.le_of_eq r4))
theorem Bb {T k:Nat} (h:vl T 0≤vl 1 (k:Int)):T≤2 ^ k:=by
 rw [dg (k:=k) (p:=0) (q:=(k:Int)) (by rw [iD];omega) (by omega),Nat.one_mul] at h
 exact mt h
theorem yE {s:Bool} {R:Nat} (h:R≤ec):∃ m p,double.read (double.word s R)=.number s m p∧double.read R=.number false m p∧vl m p≤vl 1 0∧(m=0→R=0):=by
 have hi:R<double.infRung:=by rw [pU];unfold ec at h;omega
 obtain ⟨m,p,e1,e2⟩:=nw az hi s;refine ⟨m,p,e1,e2,?_,fun h0=>?_⟩
 · have:=tw e2 po hi (by rw [pU];decide) h
   rw [rR] at this;rw [lS];exact this
 · obtain ⟨r1,r2,r3,r4,r5,_⟩:=bf az e2
   have hs:=double.infRung_lt;rw [Nat.mod_eq_of_lt (by omega)] at r4
   have hb:=kN double;have:p=double.leastPlace:=by rcases r3 with h | h;omega;exact h
   rw [this,Int.sub_self,Int.toNat_zero,Nat.zero_mul,h0] at r4;exact r4
theorem JK {D:Nat} {b:Int} (hb:-(eP:Int)≤b) (h:vl D b≤vl 1 0):double.nearest false D b≤ec:=Hq (k:=4) (by omega) hb (by rw [← lS];exact h)
theorem wu (s:Bool) (m:Nat) (p:Int):double.write (.number s m p)=double.word s (double.nearest false m p):=oI _ _ _ _
theorem wM {x:Nat} (h:Bd double x 52) :
 floatToIntVal .f64 x .i64=some (jb x)∧ib (jb x)=floatOfInt .f64 (jb x)∧double.sub x (ib (jb x))=some (bh x (ib (jb x))) ∧
 (A3 (bh x (ib (jb x))) 0=true→double.add (bh x (ib (jb x))) ec=some (iC (bh x (ib (jb x))) ec))∧UW (cQ x):=by
 obtain ⟨s,m,p,e1,h1⟩:=h;have hp:=(bf az e1).1;have hp':-(eP:Int)≤p:=by have:=az.low;omega
 obtain ⟨T,t1,t2,t3⟩:=Ln s (m:=m) hp';have hT:T≤2 ^ 52:=Bb (Nat.le_trans t2 h1);have hti:jb x=if s then -(T:Int) else (T:Int):=by unfold jb;rw [e1,t1];rfl
 have hw:ib (jb x)=double.nearest (s && decide (T≠0)) T 0:=by
  unfold ib;rw [hti]
  cases s
  · simp only [Bool.false_eq_true,if_false,Bool.false_and]
    rw [decide_eq_false (by omega),Int.natAbs_natCast];rfl
  · simp only [if_true,Bool.true_and,Int.natAbs_neg,Int.natAbs_natCast]
    rcases Nat.eq_zero_or_pos T with h0 | h0
    · subst h0;rfl
    · rw [decide_eq_true (by omega),decide_eq_true (by omega)];rfl
 have hsub:∃ g R,double.sub x (ib (jb x))=some (double.word g R)∧R≤ec:=by
  obtain ⟨n,q,w1,w2⟩:=Gn (s && decide (T≠0)) hT;have hq:=(bf az w1).1;have hq':-(eP:Int)≤q:=by have:=az.low;omega
  have hmin:-(eP:Int)≤min p q:=by omega
  unfold Format.sub;rw [e1,hw,w1]
  rcases Nat.eq_zero_or_pos T with h0 | h0
  · subst h0
    have hn:n=0:=by
     have h3:vl n q=0:=by rw [w2];exact Nat.zero_mul _
     rcases Nat.eq_zero_or_pos n with h4 | h4
     · exact h4
     · have:=Nat.mul_pos h4 (Nat.two_pow_pos (q+eP).toNat)
       unfold vl at h3;omega
    subst hn;simp only [Datum.opposite];rw [Ld];refine ⟨_,_,congrArg some (wu _ _ _),JK hmin ?_⟩
    rw [← dg (k:=(p - min p q).toNat) (p:=min p q) (q:=p) hmin (by omega)]
    have:vl 0 0=0:=Nat.zero_mul _;omega
  · rw [decide_eq_true (by omega),Bool.and_true]
    simp only [Datum.opposite];obtain ⟨D,d1,d2⟩:=oN (s:=s) hp' hq' (by rw [w2];exact t2)
    rw [d1];exact ⟨_,_,congrArg some (wu _ _ _),JK hmin (by rw [w2] at d2;omega)⟩
 refine ⟨?_,rfl,?_,?_,?_⟩
 · unfold floatToIntVal
   have hd:FloatKind.f64.decode x=.number s m p:=e1;rw [hd,t1,hti];have hT2:T≤4503599627370496:=hT;have hmn:IntKind.i64.min = -9223372036854775808:=by decide
   have hmx:IntKind.i64.max=9223372036854775807:=by decide
   simp only;rw [if_pos];rw [hmn,hmx]
   cases s
   · simp only [Bool.false_eq_true,if_false];omega
   · simp only [if_true];omega
 · obtain ⟨g,R,h2,_⟩:=hsub
   unfold bh;rw [h2];rfl
 all_goals
  obtain ⟨g,R,h2,hR⟩:=hsub;have hds:bh x (ib (jb x))=double.word g R:=by unfold bh;rw [h2];rfl
  obtain ⟨m',p',u1,u2,u3,u4⟩:=yE (s:=g) hR;have hp2:=(bf az u2).1;have hp2':-(eP:Int)≤p':=by have:=az.low;omega
  have hsum:∃ D:Nat,double.add (double.word true R) ec=some (double.nearest false D (min (-52) p'))∧vl D (min (-52) p')≤vl 1 0:=by
   obtain ⟨m2,p2,v1,v2,v3,v4⟩:=yE (s:=true) hR;rw [u2] at v2;injection v2 with _ x1 x2
   subst x1 x2;unfold Format.add;rw [v1,po];have hc:(Datum.number true m' p').sum (.number false 4503599627370496 (-52))=(Datum.number false 4503599627370496 (-52)).sum (.number true m' p'):=by
    simp only [Datum.sum,Int.min_comm p' (-52),Int.add_comm (signed true m' _),Bool.and_comm true]
   rw [hc];obtain ⟨D,d1,d2⟩:=oN (s:=false) (m:=4503599627370496) (i:=-52) (n:=m') (j:=p') (by rw [iD];omega) hp2' (by rw [rR,← lS];exact u3)
   rw [show (!false)=true from rfl] at d1
   rw [d1];refine ⟨D,?_,by rw [rR,← lS] at d2;omega⟩
   simp only [Option.map_some,ite_self]
   rfl
 · intro _
   rw [hds];obtain ⟨D,d1,_⟩:=hsum
   cases g with
   | true=>unfold iC;rw [d1];rfl
   | false =>
     obtain ⟨r,hr,_⟩:=uM (f:=double) (a:=double.word false R) (b:=ec) (k:=0) (.inr ⟨rfl,by omega⟩) ⟨false,m',p',u1,u3⟩ (UW.bd (.inl (Nat.le_refl _)));unfold iC;rw [hr];rfl
 · unfold cQ
   rw [hds]
   cases g with
   | false =>
     have hlt:A3 (double.word false R) 0=false:=by
      unfold A3;rw [rU u1 mN];have:vl 0 (-1074)=0:=Nat.zero_mul _;rw [this];have h3:compare (vl m' p') 0≠.lt:=by rw [Ne,Nat.compare_eq_lt];omega
      cases hcmp:compare (vl m' p') 0 with
      | lt=>exact absurd hcmp h3
      | eq=>rfl
      | gt=>rfl
     rw [hlt,if_neg (by decide)]
     exact .inl hR
   | true =>
     split
     · obtain ⟨D,d1,d2⟩:=hsum
       unfold iC;rw [d1];exact .inl (JK (by have:=az.low;rw [vh] at this;omega) d2)
     · rename_i hn
       by_cases h0:R=0
       · subst h0
         exact .inr (by unfold Format.word;rw [MZ];rfl)
       · exfalso
         apply hn
         have hm:m'≠0:=fun h=>h0 (u4 h)
         unfold A3 Format.order;rw [u1,mN];simp only [Datum.order,signed,if_true,Bool.false_eq_true,if_false,Nat.zero_shiftLeft,Nat.shiftLeft_eq];have:0<m' * 2 ^ (p' - min p' (-1074)).toNat:=Nat.mul_pos (Nat.pos_of_ne_zero hm) (Nat.two_pow_pos _);rw [Int.compare_eq_lt.2 (by omega)]
         rfl
open Ieee
def iI (k:Nat):Nat:=ib (k:Int)
def lG (k:Nat):Nat:=bo (bo 4611686018427387904 (iI k)) (iC (bo 4611686018427387904 (iI k)) ec)
def sA (f:Nat):Nat:=if jG f dw then bh f dw else f
def sB (g:Nat):Nat:=if uV g bq then bh dw g else g
def pN (u:Nat):Nat→Nat
 | 0=>ec
 | j+1=>bh ec (qp (bo u (pN u j)) (lG (8 - j)))
def dQ (x:Nat):Nat:=bo (sB (sA (cQ x))) Lh
def nD (x:Nat):Nat:=bo (dQ x) (pN (bo (dQ x) (dQ x)) 8)
def nA (x:Nat):Nat:=if jG (cQ x) dw then nD x ^^^ mp else nD x
theorem kn {k:Nat} (h:k≤1021):kOk double k:=.inr ⟨rfl,h⟩
theorem AW {k:Nat} (h:k≤125):kOk single k:=.inl ⟨rfl,h⟩
def QW (k f:Nat):Prop:=f≤pG k∨f=mp
theorem QW.bd {k f:Nat} (hk:k≤4) (h:QW k f):∃ s m p,double.read f=.number s m p∧vl m p≤vq k∧(s=true→f=mp):=by
 rcases h with h | h
 · obtain ⟨c1,n,q,c2,c3⟩:=kh k hk
   have h1:f<double.infRung:=Nat.lt_of_le_of_lt h c1;obtain ⟨m,p,e⟩:=mg h1 az;exact ⟨false,m,p,e,by rw [← c3];exact tw e c2 h1 c1 h,fun h=>by cases h⟩
 · subst h
   exact ⟨true,0,-1074,mI,by rw [show vl 0 (-1074)=0 from Nat.zero_mul _];exact Nat.zero_le _,fun _=>rfl⟩
theorem un {f c m p} {k:Nat} {s:Bool} (hf:double.read f=.number s m p) (hs:s=true→f=mp) (hc:∃ n q,double.read c=.number false n q∧vl n q=vq k) (hk:1≤k) :
 (jG f c=true ↔ s=false∧vq k≤vl m p)∧(uV f c=true ↔ s=false∧vq k<vl m p):=by
 obtain ⟨n,q,hc,hv⟩:=hc;have hpos:0<vq k:=by unfold vq vl;exact Nat.mul_pos (Nat.mul_pos (by omega) (by omega)) (Nat.two_pow_pos _)
 unfold jG uV
 cases s with
 | false =>
   rw [rU hf hc,hv]
   rcases Nat.lt_trichotomy (vl m p) (vq k) with h | h | h
   · rw [Nat.compare_eq_lt.2 h]
     exact ⟨⟨fun h=>by simp at h,fun ⟨_,h2⟩=>by omega⟩,⟨fun h=>by simp at h,fun ⟨_,h2⟩=>by omega⟩⟩
   · rw [Nat.compare_eq_eq.2 h]
     exact ⟨⟨fun _=>⟨rfl,by omega⟩,fun _=>by simp⟩,⟨fun h=>by simp at h,fun ⟨_,h2⟩=>by omega⟩⟩
   · rw [Nat.compare_eq_gt.2 h]
     exact ⟨⟨fun _=>⟨rfl,by omega⟩,fun _=>by simp⟩,⟨fun _=>⟨rfl,by omega⟩,fun _=>by simp⟩⟩
 | true =>
   rw [hs rfl,Fw hc (by rw [hv];exact hpos)]
   exact ⟨⟨fun h=>by simp at h,fun ⟨h,_⟩=>by cases h⟩,⟨fun h=>by simp at h,fun ⟨h,_⟩=>by cases h⟩⟩
theorem so {a b m n:Nat} {p q:Int} {k:Nat} (ha:double.read a=.number false m p) (hb:double.read b=.number false n q) (h:vl n q≤vl m p) (hk:k≤4) (hd:vl m p≤vq k+vl n q):double.sub a b=some (bh a b)∧bh a b≤pG k:=by
 have hp:=(bf az ha).1;have hq:=(bf az hb).1;have hl:=az.low;obtain ⟨D,d1,d2⟩:=oN (s:=false) (m:=m) (i:=p) (n:=n) (j:=q) (by omega) (by omega) h
 have e:double.sub a b=some (double.nearest false D (min p q)):=by
  unfold Format.sub;rw [ha,hb]
  show ((Datum.number false m p).sum (.number (!false) n q)).map double.write=_
  rw [d1];simp only [ite_self]
  rfl
 have e2:bh a b=double.nearest false D (min p q):=by unfold bh;rw [e];rfl
 rw [e2];exact ⟨e,Hq hk (by omega) (by omega)⟩
theorem og (k:Nat) (hk:k≤4):∃ n q,double.read (pG k)=.number false n q∧vl n q=vq k:=(kh k hk).2
theorem NW {f:Nat} (h:QW 4 f):(jG f dw=true→double.sub f dw=some (bh f dw))∧QW 2 (sA f):=by
 obtain ⟨s,m,p,e,h1,h2⟩:=h.bd (by omega)
 obtain ⟨g1,_⟩:=un e h2 (og 2 (by omega)) (by omega)
 obtain ⟨n,q,c1,c2⟩:=og 2 (by omega)
 have hsub:jG f dw=true→double.sub f dw=some (bh f dw)∧bh f dw≤pG 2:=fun hg=>by
  obtain ⟨rfl,hv⟩:=g1.1 hg;exact so e c1 (by rw [c2];exact hv) (by omega) (by rw [c2,Cl];exact h1)
 refine ⟨fun hg=>(hsub hg).1,?_⟩
 unfold sA
 split
 · rename_i hg;exact .inl (hsub hg).2
 · rename_i hg
   cases s with
   | true=>exact .inr (h2 rfl)
   | false =>
     left
     have hlt:¬ vq 2≤vl m p:=fun hv=>hg (g1.2 ⟨rfl,hv⟩)
     rcases Nat.lt_or_ge (pG 2) f with hc | hc
     · exfalso
       rcases h with h | h
       · have h3:f<double.infRung:=Nat.lt_of_le_of_lt h (kh 4 (by omega)).1
         have:=tw c1 e (kh 2 (by omega)).1 h3 (Nat.le_of_lt hc)
         omega
       · subst h;rw [mI] at e;cases e
     · exact hc
theorem NX {f:Nat} (h:QW 2 f):(uV f bq=true→double.sub dw f=some (bh dw f))∧QW 1 (sB f):=by
 obtain ⟨s,m,p,e,h1,h2⟩:=h.bd (by omega)
 obtain ⟨_,g1⟩:=un e h2 (og 1 (by omega)) (by omega)
 obtain ⟨n,q,c1,c2⟩:=og 1 (by omega)
 obtain ⟨n2,q2,d1,d2⟩:=og 2 (by omega)
 have hsub:uV f bq=true→double.sub dw f=some (bh dw f)∧bh dw f≤pG 1:=fun hg=>by
  obtain ⟨rfl,hv⟩:=g1.1 hg;exact so d1 e (by rw [d2];exact h1) (by omega) (by rw [d2,show vq 2=vq 1+vq 1 from (Cl 1 1).symm];omega)
 refine ⟨fun hg=>(hsub hg).1,?_⟩
 unfold sB
 split
 · rename_i hg;exact .inl (hsub hg).2
 · rename_i hg
   cases s with
   | true=>exact .inr (h2 rfl)
   | false =>
     left
     have hlt:¬ vq 1<vl m p:=fun hv=>hg (g1.2 ⟨rfl,hv⟩)
     rcases Nat.lt_or_ge (pG 1) f with hc | hc
     · exfalso
       rcases h with h | h
       · have h3:f<double.infRung:=Nat.lt_of_le_of_lt h (kh 2 (by omega)).1
         obtain ⟨r1,r2,r3,r4,r5,_⟩:=bf az c1;obtain ⟨s1,s2,s3,s4,s5,_⟩:=bf az e;have hs:=double.infRung_lt;have hc1:=(kh 1 (by omega)).1
         rw [Nat.mod_eq_of_lt (by omega)] at r4 s4
         have hle:=kF az s1 r1 s2 r2 s3 r3;have hge:=kF az r1 s1 r2 s2 r3 s3 (by omega)
         have heq:vl m p=vl n q:=by omega
         -- words of the same number are the same
         rcases Int.lt_trichotomy p q with hpq | hpq | hpq
         · have hn:double.binade≤n:=by rcases r3 with h | h;exact h;omega
           rw [dg (k:=(q - p).toNat) (p:=p) (q:=q) (by have:=az.low;omega) (by omega)] at heq
           have h5:=mt (Nat.le_of_eq heq.symm);have h6:2 ^ 1≤2 ^ (q - p).toNat:=Nat.pow_le_pow_right (by omega) (by omega)
           have h7:=Nat.mul_le_mul hn h6;omega
         · subst hpq
           have h5:=mt (Nat.le_of_eq heq);omega
         · have hn:double.binade≤m:=by rcases s3 with h | h;exact h;omega
           rw [dg (k:=(p - q).toNat) (p:=q) (q:=p) (by have:=az.low;omega) (by omega)] at heq
           have h5:=mt (Nat.le_of_eq heq);have h6:2 ^ 1≤2 ^ (p - q).toNat:=Nat.pow_le_pow_right (by omega) (by omega)
           have h7:=Nat.mul_le_mul hn h6;omega
       · subst h;rw [mI] at e;cases e
     · exact hc
theorem UW.qw {f:Nat} (h:UW f):QW 4 f:=h
theorem C5 {a b k:Nat} (hk:k+2≤1000) (ha:QW 1 a) (hb:Bd double b (k+2)):double.mul a b=some (bo a b)∧Bd double (bo a b) k:=by
 obtain ⟨s,m,i,e1,h1,_⟩:=ha.bd (by omega)
 obtain ⟨t,n,j,e2,h2⟩:=hb;have hl:=az.low3;have p1:=(bf az e1).1;have p2:=(bf az e2).1;have e:double.mul a b=some (double.nearest (s ^^ t) (m * n) (i+j)):=by unfold Format.mul;rw [e1,e2];rfl
 have e3:bo a b=double.nearest (s ^^ t) (m * n) (i+j):=by unfold bo;rw [e];rfl
 rw [e3];refine ⟨e,oe (kn (by omega)) _ (by rw [vh] at *;omega) ?_⟩
 have hq:vq 1 * 4=2 ^ eP:=by
  have:vq 4=vq 1 * 4:=by unfold vq vl;rw [Nat.one_mul];ac_rfl
  rw [← this,← lS];have:=it 0;simpa using this
 rw [it] at h2 ⊢;unfold vl at h1 h2 ⊢;have e4:=Nat.mul_le_mul h1 h2;have hE:(i+j+(eP:Int)).toNat+eP=(i+(eP:Int)).toNat+(j+(eP:Int)).toNat:=by rw [vh] at *;omega
 have e5:m * n * 2 ^ (i+j+(eP:Int)).toNat * 2 ^ eP=m * 2 ^ (i+(eP:Int)).toNat * (n * 2 ^ (j+(eP:Int)).toNat):=by
  rw [Nat.mul_assoc (m * n),← Nat.pow_add,hE,Nat.pow_add];ac_rfl
 have e6:vq 1 * 2 ^ (k+2+eP)=2 ^ (k+eP) * 2 ^ eP:=by
  rw [show k+2+eP=2+(k+eP) from by omega,Nat.pow_add,← Nat.mul_assoc,show (2:Nat) ^ 2=4 from rfl,hq,Nat.mul_comm]
 rw [← e5,e6] at e4;exact Nat.le_of_mul_le_mul_right e4 (Nat.two_pow_pos _)
def Fi (b c l:Nat):Bool:=match double.read b with
 | .number _ m p=>decide (-(200:Int)≤p) && decide (2 ^ (200+c)≤m * 2 ^ (p+200).toNat) && decide (m * 2 ^ (p+200).toNat≤2 ^ (200+l))
 | _=>false
theorem Il {b c l:Nat} (h:Fi b c l=true):Bd double b l∧∃ t n j,double.read b=.number t n j∧vl 1 (c:Int)≤vl n j:=by
 unfold Fi at h
 cases hr:double.read b with
 | number s m p =>
   rw [hr] at h;simp only [Bool.and_eq_true,decide_eq_true_eq] at h;obtain ⟨⟨h0,h1⟩,h2⟩:=h;obtain ⟨Y,hY⟩:∃ Y,Y=eP - 200:=⟨_,rfl⟩;have hYe:eP=200+Y:=by have:=iD;omega
   have he:∀ k:Nat,vl 1 (k:Int)=2 ^ (200+k) * 2 ^ Y:=fun k=>by
    rw [it,← Nat.pow_add,show k+eP=200+k+Y from by omega]
   have hv:vl m p=m * 2 ^ (p+200).toNat * 2 ^ Y:=by
    unfold vl;rw [Nat.mul_assoc,← Nat.pow_add,show (p+(eP:Int)).toNat=(p+200).toNat+Y from by omega]
   refine ⟨⟨s,m,p,hr,?_⟩,s,m,p,rfl,?_⟩
   · rw [hv,he];exact Nat.mul_le_mul_right _ h2
   · rw [hv,he];exact Nat.mul_le_mul_right _ h1
 | infinity s=>rw [hr] at h;cases h
 | nan s t=>rw [hr] at h;cases h
end Go.Proofs.YtbknhgapjjaelaaGreatDoor
