/-
  Part 29 of what the proof stands on: lemmas and contracts, each with its conditions ahead of the colon.
-/
import Derived.Test.YtbknhgapjjaelaaGreatDoorPk01
import Derived.Test.YtbknhgapjjaelaaGreatDoorPk28
namespace Go.Proofs.YtbknhgapjjaelaaGreatDoor
set_option linter.unusedVariables false
set_option linter.unusedSimpArgs false
open Ieee
theorem Mt {n d M:Nat} (h:n≤M * 2 ^ d):Toward.even.cut false n d≤M:=by
 have hg:0<2 ^ d:=Nat.two_pow_pos d
 rcases Nat.lt_or_ge (n.log2+2) d with hd | hd
 · have l2:n<2 ^ (n.log2+1):=Nat.lt_log2_self
   have e:2 ^ (n.log2+2)=2 * 2 ^ (n.log2+1):=by rw [Nat.pow_succ 2 (n.log2+1),Nat.mul_comm]
   have:Toward.even.cut false n d=0:=by
    unfold Toward.cut;simp only [Nat.min_eq_right (Nat.le_of_lt hd),Nat.one_shiftLeft];rw [Nat.div_eq_of_lt (by omega),Nat.mod_eq_of_lt (by omega)]
    have h1:decide (2 ^ (n.log2+2)<2 * n)=false:=by rw [decide_eq_false_iff_not];omega
    rw [h1];simp
   omega
 · obtain ⟨_,c3,_,_⟩:=za n d hd
   generalize Toward.even.cut false n d=K at *
   have h2:2 ^ d * (2 * K)≤2 ^ d * (2 * M+1):=by
    have e1:2 ^ d * (2 * K)=2 * (2 ^ d * K):=Nat.mul_left_comm _ _ _;have e2:2 ^ d * (2 * M+1)=2 * (M * 2 ^ d)+2 ^ d:=by rw [Nat.mul_add,Nat.mul_one,Nat.mul_left_comm,Nat.mul_comm (2 ^ d) M]
    rw [e1,e2];omega
   have:=Nat.le_of_mul_le_mul_left h2 hg;omega
theorem L8 {n d M:Nat} (h:M * 2 ^ d≤n):M≤Toward.even.cut false n d:=by
 have hg:0<2 ^ d:=Nat.two_pow_pos d
 rcases Nat.lt_or_ge (n.log2+2) d with hd | hd
 · have l2:n<2 ^ (n.log2+1):=Nat.lt_log2_self
   have l3:2 ^ (n.log2+1)≤2 ^ d:=Nat.pow_le_pow_right (by omega) (by omega)
   rcases Nat.eq_zero_or_pos M with h0 | h0
   · subst h0;exact Nat.zero_le _
   · have:=Nat.mul_le_mul_right (2 ^ d) (show 1≤M from h0)
     omega
 · obtain ⟨_,_,c4,_⟩:=za n d hd
   generalize Toward.even.cut false n d=K at *
   have h2:2 ^ d * (2 * M)≤2 ^ d * (2 * K+1):=by
    have e1:2 ^ d * (2 * M)=2 * (M * 2 ^ d):=by rw [Nat.mul_left_comm,Nat.mul_comm (2 ^ d) M]
    have e2:2 ^ d * (2 * K+1)=2 * (2 ^ d * K)+2 ^ d:=by rw [Nat.mul_add,Nat.mul_one,Nat.mul_left_comm]
    rw [e1,e2];omega
   have:=Nat.le_of_mul_le_mul_left h2 hg;omega
noncomputable def eP:Nat:=Classical.choose (⟨4000,rfl⟩:∃ e:Nat,e=4000)
theorem iC:eP=4000:=Classical.choose_spec (⟨4000,rfl⟩:∃ e:Nat,e=4000)
noncomputable def vl (m:Nat) (p:Int):Nat:=m * 2 ^ (p+eP).toNat
theorem ku {m n:Nat} {p:Int} (h:m≤n):vl m p≤vl n p:=Nat.mul_le_mul_right _ h
theorem mc {m n:Nat} {p:Int} (h:vl m p≤vl n p):m≤n:=Nat.le_of_mul_le_mul_right h (Nat.two_pow_pos _)
theorem cZ {m:Nat} {p q:Int} {k:Nat} (hp:-(eP:Int)≤p) (h:q=p+k):vl m q=vl (m * 2 ^ k) p:=by
 unfold vl;rw [Nat.mul_assoc,← Nat.pow_add]
 congr 2
 omega
theorem kI (f:Format):0<f.binade:=Nat.two_pow_pos _
structure FOk (f:Format):Prop where
 inf:f.binade<f.infRung
 low:-(eP:Int)≤f.leastPlace
 low3:-(eP:Int)≤2 * f.leastPlace - 1500
 neg:f.leastPlace≤0
 bits:f.binade=2 ^ f.fractionBits
theorem jw:FOk single:=⟨by decide,by rw [iC];decide,by rw [iC];decide,by decide,rfl⟩
theorem aw:FOk double:=⟨by decide,by rw [iC];decide,by rw [iC];decide,by decide,rfl⟩
theorem aZ {f:Format} (hf:FOk f) {b m:Nat} {s:Bool} {p:Int} (h:f.read b=.number s m p) :
 f.leastPlace≤p∧m<2 * f.binade∧(f.binade≤m∨p=f.leastPlace)∧b % f.signWeight=(p - f.leastPlace).toNat * f.binade+m∧b % f.signWeight<f.infRung∧s=(b / f.signWeight % 2 == 1):=by
 have hb:=kI f;have hin:=hf.inf;unfold Format.read at h;simp only at h;generalize hR:b % f.signWeight=R at *
 split at h
 · rename_i hlt
   injection h with h1 h2 h3
   subst h1 h2 h3;exact ⟨Int.le_refl _,by omega,.inr rfl,by rw [Int.sub_self,Int.toNat_zero,Nat.zero_mul,Nat.zero_add],by omega,rfl⟩
 · split at h
   · rename_i hlt hlt2
     injection h with h1 h2 h3
     subst h1 h2 h3;have hm:=Nat.mod_lt R hb;have hd:=Nat.div_add_mod R f.binade;obtain ⟨q,hq⟩:∃ q,R / f.binade=q+1:=⟨R / f.binade - 1,by have:1≤R / f.binade:=(Nat.le_div_iff_mul_le hb).2 (by omega);omega⟩
     rw [hq] at hd ⊢;refine ⟨by omega,by omega,.inl (by omega),?_,hlt2,rfl⟩
     have e:(f.leastPlace+((q+1 - 1:Nat):Int) - f.leastPlace).toNat=q:=by omega
     rw [e];rw [Nat.mul_add,Nat.mul_one,Nat.mul_comm] at hd;omega
   · split at h <;> cases h
theorem lR {f:Format} {b:Nat} (h:b<f.infRung) (hf:FOk f):∃ m p,f.read b=.number false m p:=by
 have hs:=f.infRung_lt;have e1:b / f.signWeight=0:=Nat.div_eq_of_lt (by omega)
 have e2:b % f.signWeight=b:=Nat.mod_eq_of_lt (by omega)
 unfold Format.read;simp only [e1,e2]
 split
 · exact ⟨_,_,rfl⟩
 · first | exact ⟨_,_,rfl⟩ | exact ⟨_,_,by rw [if_pos h];rfl⟩
theorem Kk {B q1 q2 m1 m2:Nat} (h:q1 * B+m1≤q2 * B+m2) (h1:m1<2 * B) (h2:m2<2 * B) (k1:B≤m1∨q1=0) (hq:q2<q1):False:=by
 have:B≤m1:=by rcases k1 with h | h <;> omega
 have e:=Nat.mul_le_mul_right B (show q2+1≤q1 from hq)
 rw [Nat.add_mul,Nat.one_mul] at e;omega
theorem kq {f:Format} (hf:FOk f) {m1 m2:Nat} {p1 p2:Int} (l1:f.leastPlace≤p1) (l2:f.leastPlace≤p2) (h1:m1<2 * f.binade) (h2:m2<2 * f.binade) (k1:f.binade≤m1∨p1=f.leastPlace) (k2:f.binade≤m2∨p2=f.leastPlace)
 (h:(p1 - f.leastPlace).toNat * f.binade+m1≤(p2 - f.leastPlace).toNat * f.binade+m2):vl m1 p1≤vl m2 p2:=by
 have hlow:=hf.low
 rcases Int.lt_trichotomy p1 p2 with hp | hp | hp
 · have hm2:f.binade≤m2:=by rcases k2 with h | h;exact h;omega
   rw [cZ (k:=(p2 - p1).toNat) (p:=p1) (q:=p2) (by omega) (by omega)]
   refine ku ?_
   have e:2 ^ 1≤2 ^ (p2 - p1).toNat:=Nat.pow_le_pow_right (by omega) (by omega)
   have:=Nat.mul_le_mul hm2 e;omega
 · subst hp
   exact ku (by omega)
 · exfalso
   exact Kk h h1 h2 (by rcases k1 with h | h;exact .inl h;right;omega) (by omega)
theorem CX {mag M:Nat} {place last:Int} (h0:-(eP:Int)≤place) (h1:-(eP:Int)≤last) (h:vl mag place≤vl M last):Toward.even.cut false (mag <<< (place - last).toNat) (last - place).toNat≤M:=by
 refine Mt ?_
 rw [Nat.shiftLeft_eq]
 rcases Int.le_total place last with hp | hp
 · rw [show (place - last).toNat=0 from by omega,Nat.pow_zero,Nat.mul_one]
   rw [cZ (k:=(last - place).toNat) (p:=place) (q:=last) h0 (by omega)] at h
   exact mc h
 · rw [show (last - place).toNat=0 from by omega,Nat.pow_zero,Nat.mul_one]
   rw [cZ (k:=(place - last).toNat) (p:=last) (q:=place) h1 (by omega)] at h
   exact mc h
theorem CK {mag M:Nat} {place last:Int} (h0:-(eP:Int)≤place) (h1:-(eP:Int)≤last) (h:vl M last≤vl mag place):M≤Toward.even.cut false (mag <<< (place - last).toNat) (last - place).toNat:=by
 refine L8 ?_
 rw [Nat.shiftLeft_eq]
 rcases Int.le_total place last with hp | hp
 · rw [show (place - last).toNat=0 from by omega,Nat.pow_zero,Nat.mul_one]
   rw [cZ (k:=(last - place).toNat) (p:=place) (q:=last) h0 (by omega)] at h
   exact mc h
 · rw [show (last - place).toNat=0 from by omega,Nat.pow_zero,Nat.mul_one]
   rw [cZ (k:=(place - last).toNat) (p:=last) (q:=place) h1 (by omega)] at h
   exact mc h
theorem G8 {f:Format} (hf:FOk f) {mag:Nat} {place last:Int} (hm:mag≠0) (h0:-(eP:Int)≤place) (hlast:last=max (place+(mag.log2:Int) - f.fractionBits) f.leastPlace) :
 -(eP:Int)≤last∧f.leastPlace≤last∧vl mag place≤vl (2 * f.binade) last∧(mag≠0→vl mag place<vl (2 * f.binade) last)∧(f.leastPlace<last→vl f.binade last≤vl mag place):=by
 have l1:2 ^ mag.log2≤mag:=Nat.log2_self_le hm;have l2:mag<2 ^ (mag.log2+1):=Nat.lt_log2_self;have hlow:=hf.low;have hbits:=hf.bits;have hl:place+(mag.log2:Int) - f.fractionBits≤last:=by rw [hlast];exact Int.le_max_left _ _
 have hl2:f.leastPlace≤last:=by rw [hlast];exact Int.le_max_right _ _
 have e1:vl mag place<vl (2 * f.binade) last:=by
  have:vl mag place<vl (2 ^ (mag.log2+1)) place:=Nat.mul_lt_mul_of_pos_right l2 (Nat.two_pow_pos _);refine Nat.lt_of_lt_of_le this ?_
  unfold vl;rw [hbits,show 2 * 2 ^ f.fractionBits=2 ^ (f.fractionBits+1) from by rw [Nat.pow_succ,Nat.mul_comm],← Nat.pow_add,← Nat.pow_add]
  exact Nat.pow_le_pow_right (by omega) (by omega)
 refine ⟨by omega,hl2,Nat.le_of_lt e1,fun _=>e1,fun hlt=>?_⟩
 have hl3:last=place+(mag.log2:Int) - f.fractionBits:=by
  rcases Int.le_total (place+(mag.log2:Int) - f.fractionBits) f.leastPlace with h | h
  · have:last=f.leastPlace:=by rw [hlast];exact Int.max_eq_right h
    omega
  · rw [hlast];exact Int.max_eq_left h
 refine Nat.le_trans ?_ (ku (p:=place) l1)
 unfold vl;rw [hbits,← Nat.pow_add,← Nat.pow_add];exact Nat.pow_le_pow_right (by omega) (by omega)
theorem qO {f:Format} (hf:FOk f) {mag:Nat} {place:Int} (h0:-(eP:Int)≤place) {m q:Nat} {p:Int} (hl:f.leastPlace≤p) (hm2:m<2 * f.binade) (hk:f.binade≤m∨p=f.leastPlace) (hq:q=(p - f.leastPlace).toNat * f.binade+m) (h:vl mag place≤vl m p) :
 f.nearest false mag place≤q:=by
 unfold Format.nearest
 split
 · exact Nat.zero_le _
 · rename_i hm
   obtain ⟨i1,i2,i3,i4,i5⟩:=G8 hf hm h0 rfl;have hlow:=hf.low;simp only;generalize hL:max (place+(mag.log2:Int) - f.fractionBits) f.leastPlace=last at *
   show min _ _≤q
   refine Nat.le_trans (Nat.min_le_left _ _) ?_
   rcases Int.lt_trichotomy p last with hp | hp | hp
   · exfalso
     have j:=Nat.le_trans (i5 (by omega)) h
     rw [cZ (k:=(last - p).toNat) (p:=p) (q:=last) (by omega) (by omega)] at j
     have j2:=mc j;have e:2 ^ 1≤2 ^ (last - p).toNat:=Nat.pow_le_pow_right (by omega) (by omega)
     have:=Nat.mul_le_mul_left f.binade e;omega
   · subst hp
     have:=CX h0 i1 h;omega
   · have hm3:f.binade≤m:=by rcases hk with h | h;exact h;omega
     have:=CX h0 i1 i3;have e:=Nat.mul_le_mul_right f.binade (show (last - f.leastPlace).toNat+1≤(p - f.leastPlace).toNat by omega)
     rw [Nat.add_mul,Nat.one_mul] at e;omega
theorem Ds {f:Format} (hf:FOk f) {mag:Nat} {place:Int} (h0:-(eP:Int)≤place) {m q:Nat} {p:Int} (hl:f.leastPlace≤p) (hm2:m<2 * f.binade) (hk:f.binade≤m∨p=f.leastPlace) (hq:q=(p - f.leastPlace).toNat * f.binade+m) (hi:q≤f.infRung) (h:vl m p≤vl mag place) :
 q≤f.nearest false mag place:=by
 have hb:=kI f;unfold Format.nearest
 split
 · rename_i hm
   subst hm;have h1:vl m p≤0:=by unfold vl at h ⊢;rw [Nat.zero_mul] at h;exact h
   have h2:m=0:=by
    rcases Nat.eq_zero_or_pos m with h3 | h3
    · exact h3
    · have:=Nat.mul_pos h3 (Nat.two_pow_pos (p+eP).toNat)
      unfold vl at h1;omega
   have h3:p=f.leastPlace:=by rcases hk with h | h;omega;exact h
   rw [h2,h3,Int.sub_self,Int.toNat_zero,Nat.zero_mul] at hq;omega
 · rename_i hm
   obtain ⟨i1,i2,i3,i4,i5⟩:=G8 hf hm h0 rfl;have hlow:=hf.low;simp only;generalize hL:max (place+(mag.log2:Int) - f.fractionBits) f.leastPlace=last at *
   show q≤min _ _
   refine Nat.le_min.2 ⟨?_,hi⟩
   rcases Int.lt_trichotomy p last with hp | hp | hp
   · have:=CK h0 i1 (i5 (by omega))
     have e:=Nat.mul_le_mul_right f.binade (show (p - f.leastPlace).toNat+1≤(last - f.leastPlace).toNat by omega)
     rw [Nat.add_mul,Nat.one_mul] at e;omega
   · subst hp
     have:=CK h0 i1 h;omega
   · exfalso
     have hm3:f.binade≤m:=by rcases hk with h | h;exact h;omega
     have j:=Nat.lt_of_le_of_lt h (i4 hm);rw [cZ (k:=(p - last).toNat) (p:=last) (q:=p) (by omega) (by omega)] at j
     have j2:m * 2 ^ (p - last).toNat<2 * f.binade:=Nat.lt_of_mul_lt_mul_right j;have e:2 ^ 1≤2 ^ (p - last).toNat:=Nat.pow_le_pow_right (by omega) (by omega)
     have:=Nat.mul_le_mul hm3 e;omega
def Bd (f:Format) (b k:Nat):Prop:=∃ s m p,f.read b=.number s m p∧vl m p≤vl 1 (k:Int)
theorem ij (k:Nat):vl 1 (k:Int)=2 ^ (k+eP):=by
 unfold vl;rw [Nat.one_mul];congr 1
theorem Kb {i j:Nat} (h:i≤j):vl 1 (i:Int)≤vl 1 (j:Int):=by
 rw [ij,ij];exact Nat.pow_le_pow_right (by omega) (by omega)
theorem Bd.mono {f:Format} {b i j:Nat} (h:Bd f b i) (hij:i≤j):Bd f b j:=by
 obtain ⟨s,m,p,h1,h2⟩:=h;exact ⟨s,m,p,h1,Nat.le_trans h2 (Kb hij)⟩
theorem JA {f:Format} (hf:FOk f) (k:Nat) (h:((k:Int) - f.fractionBits - f.leastPlace).toNat+2<2 ^ f.exponentBits - 1) (h1:f.leastPlace≤(k:Int) - f.fractionBits) :
 vl 1 (k:Int)=vl f.binade ((k:Int) - f.fractionBits)∧(((k:Int) - f.fractionBits) - f.leastPlace).toNat * f.binade+f.binade<f.infRung:=by
 constructor
 · have hlow:=hf.low
   rw [hf.bits,cZ (k:=f.fractionBits) (p:=(k:Int) - f.fractionBits) (q:=(k:Int)) (by omega) (by omega),Nat.one_mul]
 · have hb:=kI f
   have e:=Nat.mul_le_mul_right f.binade (Nat.le_of_lt h)
   show _<(2 ^ f.exponentBits - 1) * f.binade
   rw [Nat.add_mul] at e;omega
theorem nL (f:Format) (s:Bool) (mag:Nat) (place:Int):f.nearest s mag place=f.word s (f.nearest false mag place):=by
 unfold Format.nearest
 split
 · rfl
 · rfl
theorem mY {f:Format} (hf:FOk f) {r:Nat} (h:r<f.infRung) (s:Bool):∃ m p,f.read (f.word s r)=.number s m p∧f.read r=.number false m p:=by
 have hs:=f.infRung_lt;obtain ⟨m,p,e⟩:=lR h hf;refine ⟨m,p,?_,e⟩
 cases s with
 | false=>exact e
 | true =>
   have e1:(f.signWeight+r) / f.signWeight=1:=by rw [Nat.add_div_left _ (by omega),Nat.div_eq_of_lt (by omega)]
   have e2:(f.signWeight+r) % f.signWeight=r:=by rw [Nat.add_mod_left,Nat.mod_eq_of_lt (by omega)]
   have e3:r / f.signWeight=0:=Nat.div_eq_of_lt (by omega)
   have e4:r % f.signWeight=r:=Nat.mod_eq_of_lt (by omega)
   unfold Format.read at e;simp only [e3,e4] at e
   show f.read (f.signWeight+r)=_
   unfold Format.read;simp only [e1,e2]
   split at e
   · rename_i h1
     rw [if_pos h1];injection e with _ h2 h3;subst h2 h3;rfl
   · rename_i h1
     try rw [if_pos h] at e
     rw [if_neg h1,if_pos h];injection e with _ h2 h3;subst h2 h3;rfl
theorem oo {f:Format} {k:Nat} (hf:f=single∧k≤125∨f=double∧k≤1021) (s:Bool) {mag:Nat} {place:Int} (h0:-(eP:Int)≤place) (h:vl mag place≤vl 1 (k:Int)):Bd f (f.nearest s mag place) k:=by
 have hok:FOk f:=by rcases hf with ⟨rfl,_⟩ | ⟨rfl,_⟩;exact jw;exact aw
 have hk:((k:Int) - f.fractionBits - f.leastPlace).toNat+2<2 ^ f.exponentBits - 1∧f.leastPlace≤(k:Int) - f.fractionBits:=by
  rcases hf with ⟨rfl,h⟩ | ⟨rfl,h⟩
  · have h1:single.leastPlace = -149:=by decide
    have h2:(single.fractionBits:Int)=23:=by decide
    have h3:2 ^ single.exponentBits - 1=255:=by decide
    rw [h1,h2,h3];omega
  · have h1:double.leastPlace = -1074:=by decide
    have h2:(double.fractionBits:Int)=52:=by decide
    have h3:2 ^ double.exponentBits - 1=2047:=by decide
    rw [h1,h2,h3];omega
 obtain ⟨w1,w2⟩:=JA hok k hk.1 hk.2;have hb:=kI f;rw [w1] at h;have hle:=qO hok h0 (q:=_) hk.2 (show f.binade<2 * f.binade by omega) (.inl (Nat.le_refl _)) rfl h
 obtain ⟨m,p,e1,e2⟩:=mY hok (Nat.lt_of_le_of_lt hle w2) s;refine ⟨s,m,p,by rw [nL];exact e1,?_⟩
 obtain ⟨r1,r2,r3,r4,r5,_⟩:=aZ hok e2;have hs:=f.infRung_lt;rw [Nat.mod_eq_of_lt (by omega)] at r4
 rw [w1];refine kq hok r1 hk.2 r2 (by omega) r3 (.inl (Nat.le_refl _)) ?_
 rw [← r4];exact hle
open Ieee
theorem qq (s:Bool) (m u:Nat):(signed s m u).natAbs=m * 2 ^ u:=by
 unfold signed;rw [Nat.shiftLeft_eq]
 cases s
 · simp only [Bool.false_eq_true,if_false];exact Int.natAbs_natCast _
 · simp only [if_true,Int.natAbs_neg];exact Int.natAbs_natCast _
def kOk (f:Format) (k:Nat):Prop:=f=single∧k≤125∨f=double∧k≤1021
theorem kOk.fok {f:Format} {k:Nat} (h:kOk f k):FOk f:=by rcases h with ⟨rfl,_⟩ | ⟨rfl,_⟩;exact jw;exact aw
theorem Mi (k:Nat):vl 1 (k:Int)+vl 1 (k:Int)=vl 1 ((k+1:Nat):Int):=by
 rw [ij,ij,show k+1+eP=(k+eP)+1 from by omega,Nat.pow_succ,Nat.mul_two]
theorem Gq {f:Format} {k:Nat} (hk:kOk f (k+1)) {s t:Bool} {m n:Nat} {i j:Int} (hi:f.leastPlace≤i) (hj:f.leastPlace≤j) (hm:vl m i≤vl 1 (k:Int)) (hn:vl n j≤vl 1 (k:Int)) :
 ∃ r,((Datum.number s m i).sum (.number t n j)).map f.write=some r∧Bd f r (k+1):=by
 have hlow:=hk.fok.low;refine ⟨_,rfl,?_⟩
 refine oo hk _ (by omega) ?_
 have e1:vl (m * 2 ^ (i - min i j).toNat) (min i j)=vl m i:=(cZ (by omega) (by omega)).symm
 have e2:vl (n * 2 ^ (j - min i j).toNat) (min i j)=vl n j:=(cZ (by omega) (by omega)).symm
 have h1:(signed s m (i - min i j).toNat+signed t n (j - min i j).toNat).natAbs≤m * 2 ^ (i - min i j).toNat+n * 2 ^ (j - min i j).toNat:=by
  have:=Int.natAbs_add_le (signed s m (i - min i j).toNat) (signed t n (j - min i j).toNat);rwa [qq,qq] at this
 refine Nat.le_trans (ku h1) ?_
 rw [← Mi];have e3:vl (m * 2 ^ (i - min i j).toNat+n * 2 ^ (j - min i j).toNat) (min i j)=vl m i+vl n j:=by
  rw [← e1,← e2];exact Nat.add_mul _ _ _
 rw [e3];omega
theorem vJ {f:Format} {a b k:Nat} (hk:kOk f (k+1)) (ha:Bd f a k) (hb:Bd f b k):∃ r,f.add a b=some r∧Bd f r (k+1):=by
 obtain ⟨s,m,i,e1,h1⟩:=ha;obtain ⟨t,n,j,e2,h2⟩:=hb;unfold Format.add;rw [e1,e2];exact Gq hk (aZ hk.fok e1).1 (aZ hk.fok e2).1 h1 h2
theorem rV {f:Format} {a b k:Nat} (hk:kOk f (k+1)) (ha:Bd f a k) (hb:Bd f b k):∃ r,f.sub a b=some r∧Bd f r (k+1):=by
 obtain ⟨s,m,i,e1,h1⟩:=ha;obtain ⟨t,n,j,e2,h2⟩:=hb;unfold Format.sub;rw [e1,e2];exact Gq (t:=!t) hk (aZ hk.fok e1).1 (aZ hk.fok e2).1 h1 h2
theorem pt {f:Format} {a b k l:Nat} (hk:kOk f (k+l)) (ha:Bd f a k) (hb:Bd f b l):∃ r,f.mul a b=some r∧Bd f r (k+l):=by
 obtain ⟨s,m,i,e1,h1⟩:=ha;obtain ⟨t,n,j,e2,h2⟩:=hb;have hl:=hk.fok.low3;have hng:=hk.fok.neg;have p1:=(aZ hk.fok e1).1;have p2:=(aZ hk.fok e2).1;unfold Format.mul;rw [e1,e2];refine ⟨_,rfl,?_⟩
 refine oo hk _ (by omega) ?_
 rw [ij] at h1 h2 ⊢;unfold vl at h1 h2 ⊢;have e:=Nat.mul_le_mul h1 h2;have hE:(i+j+(eP:Int)).toNat+eP=(i+(eP:Int)).toNat+(j+(eP:Int)).toNat:=by omega
 have e3:m * n * 2 ^ (i+j+(eP:Int)).toNat * 2 ^ eP=m * 2 ^ (i+(eP:Int)).toNat * (n * 2 ^ (j+(eP:Int)).toNat):=by
  rw [Nat.mul_assoc (m * n),← Nat.pow_add,hE,Nat.pow_add];ac_rfl
 have e4:2 ^ (k+eP) * 2 ^ (l+eP)=2 ^ (k+l+eP) * 2 ^ eP:=by rw [← Nat.pow_add,← Nat.pow_add];congr 1;omega
 rw [← e3,e4] at e;exact Nat.le_of_mul_le_mul_right e (Nat.two_pow_pos _)
theorem A7 {f:Format} {a b k l c:Nat} (hk:kOk f (k+1)) (hl:l≤200) (ha:Bd f a (k+c)) (hb:Bd f b l) (h1:∃ t n j,f.read b=.number t n j∧vl 1 (c:Int)≤vl n j) (hfb:f.fractionBits≤52) :
 ∃ r,f.div a b=some r∧Bd f r (k+1):=by
 obtain ⟨s,m,i,e1,h1'⟩:=ha;obtain ⟨t,n,j,e2,h2⟩:=hb;obtain ⟨t',n',j',e3,h3⟩:=h1;rw [e2] at e3;injection e3 with x1 x2 x3
 subst x1 x2 x3;have hlow:=hk.fok.low3;have hng:=hk.fok.neg;have p1:=(aZ hk.fok e1).1;obtain ⟨p2,n2,-,-,-,-⟩:=aZ hk.fok e2;have hn:n≠0:=by
  intro h0;subst h0;have:0<vl 1 (c:Int):=by rw [ij];exact Nat.two_pow_pos _
  have h4:vl 0 j=0:=Nat.zero_mul _;omega
 have hn1:0<n:=Nat.pos_of_ne_zero hn;unfold Format.div;rw [e1,e2];have hq:(Datum.number s m i).quotient (f.fractionBits+2) (.number t n j)=some (.number (s ^^ t) (2 * (m <<< (f.fractionBits+2+n.log2 - m.log2) / n)+(m <<< (f.fractionBits+2+n.log2 - m.log2) % n != 0).toNat) (i - j - (f.fractionBits+2+n.log2 - m.log2:Nat) - 1)):=by
  simp only [Datum.quotient,if_neg hn]
 rw [hq];refine ⟨_,rfl,?_⟩
 have hlog:n.log2≤52:=by
  have l1:2 ^ n.log2≤n:=Nat.log2_self_le hn;have l2:2 ^ n.log2<2 ^ 53:=by
   refine Nat.lt_of_le_of_lt l1 (Nat.lt_of_lt_of_le n2 ?_)
   rw [hk.fok.bits,← Nat.pow_succ'];exact Nat.pow_le_pow_right (by omega) (by omega)
  have:=(Nat.pow_lt_pow_iff_right (show 1<2 by omega)).1 l2
  omega
 have hj:j≤200:=by
  rw [ij] at h2;unfold vl at h2;have h4:2 ^ (j+(eP:Int)).toNat≤2 ^ (l+eP):=Nat.le_trans (Nat.le_mul_of_pos_left _ hn1) h2;have:=(Nat.pow_le_pow_iff_right (show 1<2 by omega)).1 h4
  omega
 obtain ⟨M,hM⟩:∃ M,M=f.fractionBits+2+n.log2 - m.log2:=⟨_,rfl⟩;rw [← hM];have hMb:M≤106:=by omega
 refine oo hk _ (by omega) ?_
 rcases Nat.eq_zero_or_pos m with h0 | h0
 · subst h0
   rw [Nat.zero_shiftLeft,Nat.zero_div,Nat.zero_mod];have:vl (2 * 0+((0:Nat) != 0).toNat) (i - j - (M:Int) - 1)=0:=Nat.zero_mul _;rw [this];exact Nat.zero_le _
 · have hD:n≤m <<< M:=by
     rw [Nat.shiftLeft_eq];have l1:2 ^ m.log2≤m:=Nat.log2_self_le (by omega)
     have l2:n<2 ^ (n.log2+1):=Nat.lt_log2_self;have l3:=Nat.mul_le_mul_right (2 ^ M) l1;rw [← Nat.pow_add] at l3;have l4:2 ^ (n.log2+1)≤2 ^ (m.log2+M):=Nat.pow_le_pow_right (by omega) (by omega)
     omega
   have hdm:=Nat.div_add_mod (m <<< M) n;have hmod:=Nat.mod_lt (m <<< M) hn1;have hq3:(2 * (m <<< M / n)+(m <<< M % n != 0).toNat) * n≤3 * (m <<< M):=by
    have hbit:(m <<< M % n != 0).toNat≤1:=Bool.toNat_le _;have e5:(m <<< M / n) * n≤m <<< M:=Nat.div_mul_le_self _ _;have e6:=Nat.mul_le_mul_right n hbit;rw [Nat.add_mul,Nat.mul_assoc];omega
   generalize (2 * (m <<< M / n)+(m <<< M % n != 0).toNat)=Q at *
   rw [Nat.shiftLeft_eq] at hq3;rw [ij] at h1' h3 ⊢;unfold vl at h1' h3 ⊢;have h3':=h3;have e7:=Nat.mul_le_mul_right (2 ^ (i - j - (M:Int) - 1+(eP:Int)).toNat * 2 ^ (j+(eP:Int)).toNat) hq3
   have hE:M+((i - j - (M:Int) - 1+(eP:Int)).toNat+(j+(eP:Int)).toNat)+1=(i+(eP:Int)).toNat+eP:=by omega
   have e8:3 * (m * 2 ^ M) * (2 ^ (i - j - (M:Int) - 1+(eP:Int)).toNat * 2 ^ (j+(eP:Int)).toNat) * 2=3 * (m * 2 ^ (i+(eP:Int)).toNat * 2 ^ eP):=by
    have:2 ^ M * (2 ^ (i - j - (M:Int) - 1+(eP:Int)).toNat * 2 ^ (j+(eP:Int)).toNat) * 2=2 ^ (i+(eP:Int)).toNat * 2 ^ eP:=by
     rw [← Nat.pow_add (m:=(i+(eP:Int)).toNat),← hE,Nat.pow_succ,Nat.pow_add,Nat.pow_add]
    calc 3 * (m * 2 ^ M) * (2 ^ (i - j - (M:Int) - 1+(eP:Int)).toNat * 2 ^ (j+(eP:Int)).toNat) * 2=3 * (m * (2 ^ M * (2 ^ (i - j - (M:Int) - 1+(eP:Int)).toNat * 2 ^ (j+(eP:Int)).toNat) * 2)):=by ac_rfl
      _=_:=by rw [this,Nat.mul_assoc m]
   have e9:Q * n * (2 ^ (i - j - (M:Int) - 1+(eP:Int)).toNat * 2 ^ (j+(eP:Int)).toNat)=Q * 2 ^ (i - j - (M:Int) - 1+(eP:Int)).toNat * (n * 2 ^ (j+(eP:Int)).toNat):=by ac_rfl
   rw [e9] at e7;generalize hX:Q * 2 ^ (i - j - (M:Int) - 1+(eP:Int)).toNat=X at *
   have e10:=Nat.mul_le_mul_left X h3';have e11:m * 2 ^ (i+(eP:Int)).toNat * 2 ^ eP≤2 ^ (k+c+eP) * 2 ^ eP:=Nat.mul_le_mul_right _ h1'
   have e12:X * 2 ^ (c+eP)≤2 ^ (k+1+eP) * 2 ^ (c+eP):=by
    have:2 ^ (k+1+eP) * 2 ^ (c+eP)=2 * (2 ^ (k+c+eP) * 2 ^ eP):=by
     rw [← Nat.pow_add,← Nat.pow_add,← Nat.pow_succ'];congr 1;omega
    omega
   exact Nat.le_of_mul_le_mul_right e12 (Nat.two_pow_pos _)
theorem CQ {f:Format} {a b k:Nat} (h:f.read b=(f.read a).opposite) (ha:Bd f a k):Bd f b k:=by
 obtain ⟨s,m,i,e1,h1⟩:=ha;exact ⟨!s,m,i,by rw [h,e1];rfl,h1⟩
theorem Mp (b:Nat):double.read (b ^^^ 9223372036854775808)=(double.read b).opposite:=by
 have hs:double.signWeight=2 ^ 63:=by decide
 have e1:(b ^^^ 9223372036854775808) % 2 ^ 63=b % 2 ^ 63:=by
  rw [Nat.xor_mod_two_pow,show (9223372036854775808:Nat) % 2 ^ 63=0 from by decide,Nat.xor_zero]
 have e2:(b ^^^ 9223372036854775808) / 2 ^ 63=(b / 2 ^ 63) ^^^ 1:=by
  rw [← Nat.shiftRight_eq_div_pow,Nat.shiftRight_xor_distrib,← Nat.shiftRight_eq_div_pow]
  rfl
 have e3:((b / 2 ^ 63) ^^^ 1) % 2=1 - b / 2 ^ 63 % 2:=by
  rw [show (2:Nat)=2 ^ 1 from rfl,Nat.xor_mod_two_pow]
  rcases Nat.mod_two_eq_zero_or_one (b / (2 ^ 1) ^ 63) with h | h
  · rw [show (2:Nat) ^ 1=2 from rfl] at h ⊢;rw [h];rfl
  · rw [show (2:Nat) ^ 1=2 from rfl] at h ⊢;rw [h];rfl
 unfold Format.read;rw [hs,e1,e2,e3];have hb:(1 - b / 2 ^ 63 % 2 == 1) = !(b / 2 ^ 63 % 2 == 1):=by
  rcases Nat.mod_two_eq_zero_or_one (b / 2 ^ 63) with h | h
  · rw [h];rfl
  · rw [h];rfl
 rw [hb];simp only
 split
 · rfl
 · split
   · rfl
   · split
     · rfl
     · rfl
theorem CS {f g:Format} {b k:Nat} (hg:kOk g k) (hf:FOk f) (h:Bd f b k):Bd g (g.write (f.read b)) k:=by
 obtain ⟨s,m,i,e1,h1⟩:=h;rw [e1];exact oo hg s (by have:=(aZ hf e1).1;have:=hf.low;omega) h1
open Ieee
def iw (a b:Nat):Nat:=(double.add a b).getD 0
def bg (a b:Nat):Nat:=(double.sub a b).getD 0
def bk (a b:Nat):Nat:=(double.mul a b).getD 0
def qy (a b:Nat):Nat:=(double.div a b).getD 0
def rF (a b:Nat):Nat:=(single.add a b).getD 0
def tP (a b:Nat):Nat:=(single.mul a b).getD 0
def Mk (a b:Nat):Nat:=(single.div a b).getD 0
def dM:Nat:=4607182418800017408
def bo:Nat:=4598175219545276416
def dq:Nat:=4602678819172646912
def IA:Nat:=4604930618986332160
def JG:Nat:=4618760256179416344
def lU:Nat:=9223372036854775808
def Ac (a b:Nat):Bool:=double.order a b == some .lt
def vp (a b:Nat):Bool:=double.order a b == some .gt
def jx (a b:Nat):Bool:=double.order a b == some .gt || double.order a b == some .eq
def iP (x:Nat):Int:=((double.read x).toInt .zero).getD 0
def gL (n:Int):Nat:=double.write (.number (n<0) n.natAbs 0)
def cE (x:Nat):Nat:=if Ac (bg x (gL (iP x))) 0 then iw (bg x (gL (iP x))) dM else bg x (gL (iP x))
theorem Jr {s t:Bool} {m:Nat} {i j:Int}:(Datum.number s m i).sum (.number t 0 j)=some (.number (if m * 2 ^ (i - min i j).toNat=0 then s && t else s) (m * 2 ^ (i - min i j).toNat) (min i j)):=by
 have e0:signed t 0 (j - min i j).toNat=0:=by unfold signed;rw [Nat.zero_shiftLeft];cases t <;> rfl
 have e1:(signed s m (i - min i j).toNat).natAbs=m * 2 ^ (i - min i j).toNat:=qq _ _ _;simp only [Datum.sum,e0,Int.add_zero,e1];have e2:signed s m (i - min i j).toNat=if s then -((m * 2 ^ (i - min i j).toNat:Nat):Int) else ((m * 2 ^ (i - min i j).toNat:Nat):Int):=by
  unfold signed;rw [Nat.shiftLeft_eq]
 rw [e2];generalize m * 2 ^ (i - min i j).toNat=M
 cases s
 · simp only [Bool.false_eq_true,if_false]
   by_cases h:M=0
   · subst h;simp
   · have h1:¬ ((M:Int)=0):=by omega
     have h2:¬ ((M:Int)<0):=by omega
     rw [if_neg h1,if_neg h,decide_eq_false h2]
 · simp only [if_true]
   by_cases h:M=0
   · subst h;simp
   · have h1:¬ (-(M:Int)=0):=by omega
     have h2:-(M:Int)<0:=by omega
     rw [if_neg h1,if_neg h,decide_eq_true h2]
theorem nO {s:Bool} {m n:Nat} {i j:Int} (hi:-(eP:Int)≤i) (hj:-(eP:Int)≤j) (h:vl n j≤vl m i) :
 ∃ D,(Datum.number s m i).sum (.number (!s) n j)=some (.number (if D=0 then false else s) D (min i j))∧vl D (min i j)+vl n j=vl m i:=by
 have e1:vl (m * 2 ^ (i - min i j).toNat) (min i j)=vl m i:=(cZ (by omega) (by omega)).symm
 have e2:vl (n * 2 ^ (j - min i j).toNat) (min i j)=vl n j:=(cZ (by omega) (by omega)).symm
 rw [← e1,← e2] at h ⊢;have hle:=mc h;refine ⟨m * 2 ^ (i - min i j).toNat - n * 2 ^ (j - min i j).toNat,?_,?_⟩
 · have e3:signed s m (i - min i j).toNat=if s then -((m * 2 ^ (i - min i j).toNat:Nat):Int) else ((m * 2 ^ (i - min i j).toNat:Nat):Int):=by
     unfold signed;rw [Nat.shiftLeft_eq]
   have e4:signed (!s) n (j - min i j).toNat=if s then ((n * 2 ^ (j - min i j).toNat:Nat):Int) else -((n * 2 ^ (j - min i j).toNat:Nat):Int):=by
    unfold signed;rw [Nat.shiftLeft_eq];cases s <;> rfl
   simp only [Datum.sum,e3,e4];generalize m * 2 ^ (i - min i j).toNat=A at *
   generalize n * 2 ^ (j - min i j).toNat=B at *
   cases s
   · simp only [Bool.false_eq_true,if_false,Bool.not_false,Bool.false_and]
     have e5:((A:Int) + -(B:Int)).natAbs=A - B:=by omega
     rw [e5]
     congr 2
     by_cases h0:A - B=0
     · have h1:(A:Int) + -(B:Int)=0:=by omega
       rw [if_pos h1,if_pos h0]
     · have h1:¬ (A:Int) + -(B:Int)=0:=by omega
       have h2:¬ (A:Int) + -(B:Int)<0:=by omega
       rw [if_neg h1,if_neg h0,decide_eq_false h2]
   · simp only [if_true,Bool.not_true,Bool.and_false]
     have e5:(-(A:Int)+(B:Int)).natAbs=A - B:=by omega
     rw [e5]
     congr 2
     by_cases h0:A - B=0
     · have h1:-(A:Int)+(B:Int)=0:=by omega
       rw [if_pos h1,if_pos h0]
     · have h1:¬ -(A:Int)+(B:Int)=0:=by omega
       have h2:-(A:Int)+(B:Int)<0:=by omega
       rw [if_neg h1,if_neg h0,decide_eq_true h2]
 · unfold vl
   rw [← Nat.add_mul,Nat.sub_add_cancel hle]
theorem Ly {c m:Nat} {p:Int} (hr:double.read c=.number false m p) (hc:c<double.infRung) {D:Nat} {b:Int} (hb:-(eP:Int)≤b) (h:vl D b≤vl m p):double.nearest false D b≤c:=by
 obtain ⟨r1,r2,r3,r4,r5,_⟩:=aZ aw hr;have hs:=double.infRung_lt;rw [Nat.mod_eq_of_lt (by omega)] at r4
 exact qO aw hb r1 r2 r3 r4 h
theorem sD {a c m n:Nat} {p q:Int} (ha:double.read a=.number false m p) (hc:double.read c=.number false n q) (hai:a<double.infRung) (hci:c<double.infRung) (h:a≤c):vl m p≤vl n q:=by
 obtain ⟨r1,r2,r3,r4,r5,_⟩:=aZ aw ha;obtain ⟨s1,s2,s3,s4,s5,_⟩:=aZ aw hc;have hs:=double.infRung_lt;rw [Nat.mod_eq_of_lt (by omega)] at r4 s4
 refine kq aw r1 s1 r2 s2 r3 s3 ?_
 rw [← r4,← s4];exact h
theorem pT:double.infRung=9218868437227405312:=by decide
theorem Li:double.signWeight=lU:=by decide
theorem oJ:double.read dM=.number false 4503599627370496 (-52):=by decide +kernel
theorem Ae:double.read bo=.number false 4503599627370496 (-54):=by decide +kernel
theorem Gd:double.read dq=.number false 4503599627370496 (-53):=by decide +kernel
theorem ET:double.read IA=.number false 6755399441055744 (-53):=by decide +kernel
theorem mu:double.read 0=.number false 0 (-1074):=by decide +kernel
theorem yN (m a k:Nat) (h:a≤2000) (b:Nat) (hb:b≤a) (hk:k=m * 2 ^ (a - b)):vl m (-(b:Int))=vl k (-(a:Int)):=by
 subst hk;exact cZ (by rw [iC];omega) (by omega)
noncomputable def vq (k:Nat):Nat:=vl (k * 4503599627370496) (-54)
theorem Ag (a b:Nat):vq a+vq b=vq (a+b):=by unfold vq vl;rw [← Nat.add_mul,← Nat.add_mul]
theorem lr:vl 1 0=vq 4:=by
 have:=yN 1 54 18014398509481984 (by omega) 0 (by omega) (by decide)
 unfold vq;rw [show (4 * 4503599627370496:Nat)=18014398509481984 from rfl]
 simpa using this
theorem re:vl 4503599627370496 (-52)=vq 4:=by
 exact yN 4503599627370496 54 (4 * 4503599627370496) (by omega) 52 (by omega) (by decide)
theorem KK:vl 4503599627370496 (-53)=vq 2:=by
 exact yN 4503599627370496 54 (2 * 4503599627370496) (by omega) 53 (by omega) (by decide)
theorem JO:vl 6755399441055744 (-53)=vq 3:=yN 6755399441055744 54 (3 * 4503599627370496) (by omega) 53 (by omega) (by decide)
theorem FE:vl 4503599627370496 (-54)=vq 1:=by unfold vq;rw [Nat.one_mul]
theorem CH:vq 0=0:=by unfold vq vl;simp only [Nat.zero_mul]
theorem Ln {a b:Nat} (h:a≤b):vq a≤vq b:=ku (Nat.mul_le_mul_right _ h)
def pr:Nat→Nat
 | 4=>dM
 | 3=>IA
 | 2=>dq
 | 1=>bo
 | _=>0
theorem jX (k:Nat) (hk:k≤4):pr k<double.infRung∧∃ m p,double.read (pr k)=.number false m p∧vl m p=vq k:=by
 rw [pT]
 match k,hk with
 | 0,_=>exact ⟨by decide,_,_,mu,by rw [CH];exact Nat.zero_mul _⟩
 | 1,_=>exact ⟨by decide,_,_,Ae,FE⟩
 | 2,_=>exact ⟨by decide,_,_,Gd,KK⟩
 | 3,_=>exact ⟨by decide,_,_,ET,JO⟩
 | 4,_=>exact ⟨by decide,_,_,oJ,re⟩
theorem GJ {k:Nat} (hk:k≤4) {D:Nat} {b:Int} (hb:-(eP:Int)≤b) (h:vl D b≤vq k):double.nearest false D b≤pr k:=by
 obtain ⟨c1,m,p,c2,c3⟩:=jX k hk;exact Ly c2 c1 hb (by rw [c3];exact h)
def UW (f:Nat):Prop:=f≤dM∨f=lU
theorem me:double.read lU=.number true 0 (-1074):=by decide +kernel
theorem UW.bd {f:Nat} (h:UW f):Bd double f 0:=by
 rcases h with h | h
 · have h1:f<double.infRung:=by rw [pT];unfold dM at h;omega
   obtain ⟨m,p,e⟩:=lR h1 aw;refine ⟨false,m,p,e,?_⟩
   have:=sD e oJ h1 (by rw [pT];decide) h
   rw [re] at this
   show _≤vl 1 0
   rw [lr];exact this
 · subst h
   exact ⟨true,0,-1074,me,by have:vl 0 (-1074)=0:=Nat.zero_mul _;rw [this];exact Nat.zero_le _⟩
theorem vf:double.leastPlace = -1074:=by decide
theorem qV {a b m n:Nat} {p q:Int} (ha:double.read a=.number false m p) (hb:double.read b=.number false n q):double.order a b=some (compare (vl m p) (vl n q)):=by
 have hp:=(aZ aw ha).1;have hq:=(aZ aw hb).1;have hl:=aw.low;have e1:vl (m * 2 ^ (p - min p q).toNat) (min p q)=vl m p:=(cZ (by omega) (by omega)).symm
 have e2:vl (n * 2 ^ (q - min p q).toNat) (min p q)=vl n q:=(cZ (by omega) (by omega)).symm
 unfold Format.order;rw [ha,hb];simp only [Datum.order,signed,Bool.false_eq_true,if_false,Nat.shiftLeft_eq];rw [← e1,← e2];generalize m * 2 ^ (p - min p q).toNat=A;generalize n * 2 ^ (q - min p q).toNat=B
 congr 1
 have hpos:0<2 ^ (min p q+(eP:Int)).toNat:=Nat.two_pow_pos _;unfold vl;generalize 2 ^ (min p q+(eP:Int)).toNat=X at *
 rcases Nat.lt_trichotomy A B with h | h | h
 · rw [Nat.compare_eq_lt.2 (Nat.mul_lt_mul_of_pos_right h hpos),Int.compare_eq_lt.2 (by omega)]
 · subst h;rw [Nat.compare_eq_eq.2 rfl,Int.compare_eq_eq.2 rfl]
 · rw [Nat.compare_eq_gt.2 (Nat.mul_lt_mul_of_pos_right h hpos),Int.compare_eq_gt.2 (by omega)]
theorem DM {b n:Nat} {q:Int} (hb:double.read b=.number false n q) (hn:0<vl n q):double.order lU b=some .lt:=by
 have hn0:0<n:=by
  rcases Nat.eq_zero_or_pos n with h | h
  · subst h;have:vl 0 q=0:=Nat.zero_mul _;omega
  · exact h
 unfold Format.order;rw [me,hb];simp only [Datum.order,signed,Bool.false_eq_true,if_false,if_true,Nat.zero_shiftLeft,Nat.shiftLeft_eq]
 congr 1
 rw [Int.compare_eq_lt];have:0<n * 2 ^ (q - min (-1074) q).toNat:=Nat.mul_pos hn0 (Nat.two_pow_pos _);omega
end Go.Proofs.YtbknhgapjjaelaaGreatDoor
