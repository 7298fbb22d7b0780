/-
  Part 31 of what the proof stands on: lemmas and contracts, each with its conditions ahead of the colon.
-/
import Derived.Test.YtbknhgapjjaelaaGreatDoorPk01
import Derived.Test.YtbknhgapjjaelaaGreatDoorPk30
namespace Go.Proofs.YtbknhgapjjaelaaGreatDoor
set_option linter.unusedVariables false
set_option linter.unusedSimpArgs false
open Ieee
open Ieee
theorem Ig (b:Nat):single.read (b ^^^ 2147483648)=(single.read b).opposite:=by
 have hs:single.signWeight=2 ^ 31:=by decide
 have e1:(b ^^^ 2147483648) % 2 ^ 31=b % 2 ^ 31:=by
  rw [Nat.xor_mod_two_pow,show (2147483648:Nat) % 2 ^ 31=0 from by decide,Nat.xor_zero]
 have e2:(b ^^^ 2147483648) / 2 ^ 31=(b / 2 ^ 31) ^^^ 1:=by
  rw [← Nat.shiftRight_eq_div_pow,Nat.shiftRight_xor_distrib,← Nat.shiftRight_eq_div_pow]
  rfl
 have e3:((b / 2 ^ 31) ^^^ 1) % 2=1 - b / 2 ^ 31 % 2:=by
  rw [show (2:Nat)=2 ^ 1 from rfl,Nat.xor_mod_two_pow]
  rcases Nat.mod_two_eq_zero_or_one (b / (2 ^ 1) ^ 31) with h | h
  · rw [show (2:Nat) ^ 1=2 from rfl] at h ⊢;rw [h];rfl
  · rw [show (2:Nat) ^ 1=2 from rfl] at h ⊢;rw [h];rfl
 unfold Format.read;rw [hs,e1,e2,e3];have hb:(1 - b / 2 ^ 31 % 2 == 1) = !(b / 2 ^ 31 % 2 == 1):=by
  rcases Nat.mod_two_eq_zero_or_one (b / 2 ^ 31) with h | h
  · rw [h];rfl
  · rw [h];rfl
 rw [hb];simp only
 split
 · rfl
 · split
   · rfl
   · split
     · rfl
     · rfl
open Ieee
def dZ (xs:List Nat):Nat→Nat
 | 0=>0
 | k+1=>rF (dZ xs k) (xs.getD k 0)
theorem A1:Bd single 0 0:=⟨false,0,-149,by decide +kernel,by rw [show vl 0 (-149)=0 from Nat.zero_mul _];exact Nat.zero_le _⟩
theorem zZ {xs:List Nat} {b:Nat} (h:∀ x∈xs,Bd single x b) (k:Nat):Bd single (xs.getD k 0) b:=by
 rw [List.getD_eq_getElem?_getD]
 by_cases hk:k<xs.length
 · rw [List.getElem?_eq_getElem hk];exact h _ (List.getElem_mem hk)
 · rw [List.getElem?_eq_none (by omega)];exact A1.mono (Nat.zero_le _)
theorem ue {xs:List Nat} {b:Nat} (h:∀ x∈xs,Bd single x b):∀ k,b+k+1≤125→Bd single (dZ xs k) (b+k)∧single.add (dZ xs k) (xs.getD k 0)=some (dZ xs (k+1)):=by
 intro k hk;have hb:∀ k,b+k+1≤125→Bd single (dZ xs k) (b+k):=by
  intro k
  induction k with
  | zero=>intro _;exact A1.mono (Nat.zero_le _)
  | succ k ih =>
    intro hk;obtain ⟨r,e,b1⟩:=vJ (zd (k:=b+k+1) (by omega)) (ih (by omega)) ((zZ h k).mono (Nat.le_add_right b k))
    have:dZ xs (k+1)=r:=by unfold dZ rF;rw [e];rfl
    rw [this];exact b1
 refine ⟨hb k hk,?_⟩
 obtain ⟨r,e,b1⟩:=vJ (zd (k:=b+k+1) (by omega)) (hb k hk) ((zZ h k).mono (Nat.le_add_right b k))
 have:dZ xs (k+1)=r:=by
  show rF (dZ xs k) (xs.getD k 0)=r
  unfold rF;rw [e];rfl
 rw [this];exact e
def mf (n:Int):Nat:=single.write (.number (n<0) n.natAbs 0)
def JS (b c l:Nat):Bool:=match single.read b with
 | .number _ m p=>decide (-(200:Int)≤p) && decide (2 ^ (200+c)≤m * 2 ^ (p+200).toNat) && decide (m * 2 ^ (p+200).toNat≤2 ^ (200+l))
 | _=>false
theorem KY {b c l:Nat} (h:JS b c l=true):Bd single b l∧∃ t n j,single.read b=.number t n j∧vl 1 (c:Int)≤vl n j:=by
 unfold JS at h
 cases hr:single.read b with
 | number s m p =>
   rw [hr] at h;simp only [Bool.and_eq_true,decide_eq_true_eq] at h;obtain ⟨⟨h0,h1⟩,h2⟩:=h;obtain ⟨Y,hY⟩:∃ Y,Y=eP - 200:=⟨_,rfl⟩;have hYe:eP=200+Y:=by have:=iC;omega
   have he:∀ k:Nat,vl 1 (k:Int)=2 ^ (200+k) * 2 ^ Y:=fun k=>by
    rw [ij,← Nat.pow_add,show k+eP=200+k+Y from by omega]
   have hv:vl m p=m * 2 ^ (p+200).toNat * 2 ^ Y:=by
    unfold vl;rw [Nat.mul_assoc,← Nat.pow_add,show (p+(eP:Int)).toNat=(p+200).toNat+Y from by omega]
   refine ⟨⟨s,m,p,hr,?_⟩,s,m,p,rfl,?_⟩
   · rw [hv,he];exact Nat.mul_le_mul_right _ h2
   · rw [hv,he];exact Nat.mul_le_mul_right _ h1
 | infinity s=>rw [hr] at h;cases h
 | nan s t=>rw [hr] at h;cases h
theorem Cg:(List.range 64).all (fun j=>JS (mf ((j+1:Nat):Int)) 0 7)=true:=by decide +kernel
theorem Jo {n:Nat} (h1:1≤n) (h:n≤64):Bd single (mf (n:Int)) 7∧∃ t m j,single.read (mf (n:Int))=.number t m j∧vl 1 ((0:Nat):Int)≤vl m j:=by
 have h:=List.all_eq_true.1 Cg (n - 1) (List.mem_range.2 (by omega))
 rw [show n - 1+1=n from by omega] at h
 exact KY h
def iO (xs:List Nat) (n:Nat):Nat:=Mk (dZ xs n) (mf (n:Int))
theorem ql {xs:List Nat} {b n:Nat} (h:∀ x∈xs,Bd single x b) (h1:1≤n) (hn:n≤64) (hb:b+n+1≤125):single.div (dZ xs n) (mf (n:Int))=some (iO xs n)∧Bd single (iO xs n) (b+n+1):=by
 obtain ⟨c1,c2⟩:=Jo h1 hn;obtain ⟨r,e,b1⟩:=A7 (zd (k:=b+n+1) (by omega)) (by omega) (c:=0) (ue h n hb).1 c1 c2 (by decide)
 have:iO xs n=r:=by unfold iO Mk;rw [e];rfl
 rw [this];exact ⟨e,b1⟩
def jV (b:Nat):Nat:=b ^^^ 2147483648
def qf (a b c d:Nat):Nat:=eZ (bg (bk (aq a) (aq c)) (bk (aq b) (aq d)))
def jt (a b c d:Nat):Nat:=eZ (iw (bk (aq a) (aq d)) (bk (aq b) (aq c)))
theorem KF {b k:Nat} (h:Bd single b k):Bd single (jV b) k:=CQ (Ig b) h
structure MulOk (a b c d:Nat):Prop where
 wa:floatToFloatBits .f32 a .f64=some (aq a)
 wb:floatToFloatBits .f32 b .f64=some (aq b)
 wc:floatToFloatBits .f32 c .f64=some (aq c)
 wd:floatToFloatBits .f32 d .f64=some (aq d)
 ac:double.mul (aq a) (aq c)=some (bk (aq a) (aq c))
 bd:double.mul (aq b) (aq d)=some (bk (aq b) (aq d))
 ad:double.mul (aq a) (aq d)=some (bk (aq a) (aq d))
 bc:double.mul (aq b) (aq c)=some (bk (aq b) (aq c))
 u:double.sub (bk (aq a) (aq c)) (bk (aq b) (aq d))=some (bg (bk (aq a) (aq c)) (bk (aq b) (aq d)))
 v:double.add (bk (aq a) (aq d)) (bk (aq b) (aq c))=some (iw (bk (aq a) (aq d)) (bk (aq b) (aq c)))
 nu:floatToFloatBits .f64 (bg (bk (aq a) (aq c)) (bk (aq b) (aq d))) .f32=some (qf a b c d)
 nv:floatToFloatBits .f64 (iw (bk (aq a) (aq d)) (bk (aq b) (aq c))) .f32=some (jt a b c d)
theorem sp {a b k l:Nat} (h:k+l≤1000) (ha:Bd double a k) (hb:Bd double b l):double.mul a b=some (bk a b)∧Bd double (bk a b) (k+l):=by
 obtain ⟨r,e,b1⟩:=pt (ke (k:=k+l) (by omega)) ha hb
 have:bk a b=r:=by unfold bk;rw [e];rfl
 rw [this];exact ⟨e,b1⟩
theorem LZ {a b c d k l:Nat} (h:k+l+1≤125) (ha:Bd single a k) (hb:Bd single b k) (hc:Bd single c l) (hd:Bd single d l):MulOk a b c d∧Bd single (jt a b c d) (k+l+1)∧Bd single (qf a b c d) (k+l+1):=by
 obtain ⟨wa,wa'⟩:=pz ha (by omega)
 obtain ⟨wb,wb'⟩:=pz hb (by omega)
 obtain ⟨wc,wc'⟩:=pz hc (by omega)
 obtain ⟨wd,wd'⟩:=pz hd (by omega)
 obtain ⟨ac,ac'⟩:=sp (by omega) wa' wc'
 obtain ⟨bd,bd'⟩:=sp (by omega) wb' wd'
 obtain ⟨ad,ad'⟩:=sp (by omega) wa' wd'
 obtain ⟨bc,bc'⟩:=sp (by omega) wb' wc'
 obtain ⟨u,u1,u2⟩:=rV (ke (k:=k+l+1) (by omega)) ac' bd'
 obtain ⟨v,v1,v2⟩:=vJ (ke (k:=k+l+1) (by omega)) ad' bc'
 have hu:bg (bk (aq a) (aq c)) (bk (aq b) (aq d))=u:=by unfold bg;rw [u1];rfl
 have hv:iw (bk (aq a) (aq d)) (bk (aq b) (aq c))=v:=by unfold iw;rw [v1];rfl
 obtain ⟨nu,nu'⟩:=kn u2 h;obtain ⟨nv,nv'⟩:=kn v2 h;refine ⟨⟨wa,wb,wc,wd,ac,bd,ad,bc,by rw [hu];exact u1,by rw [hv];exact v1,?_,?_⟩,?_,?_⟩
 · unfold qf;rw [hu];exact nu
 · unfold jt;rw [hv];exact nv
 · unfold jt;rw [hv];exact nv'
 · unfold qf;rw [hu];exact nu'
def dK (xs:List Nat):List (Nat × Nat):=xs.map fun x=>bx (aq x)
def kY (xs:List Nat):Nat:=iO ((dK xs).map (·.1)) xs.length
def kX (xs:List Nat):Nat:=iO ((dK xs).map (·.2)) xs.length
def pc (by_:Nat) (xs:List Nat) (x:Nat):Nat:=rF x (tP by_ (jt (kY xs) (kX xs) (bx (aq x)).1 (jV (bx (aq x)).2)))
def iG (by_:Nat) (xs:List Nat):List Nat:=xs.map (pc by_ xs)
def ja (x:Nat):Prop:=∃ s m p,single.read x=.number s m p
theorem Bd.num {x k:Nat} (h:Bd single x k):ja x:=by obtain ⟨s,m,p,e,_⟩:=h;exact ⟨s,m,p,e⟩
theorem qh {x:Nat} (h:ja x):floatToFloatBits .f32 x .f64=some (aq x)∧Bd double (aq x) 128:=by
 obtain ⟨s,m,p,e⟩:=h;obtain ⟨r1,r2,r3,r4,r5,_⟩:=aZ jw e;have hB:single.binade=8388608:=by decide
 have hl:single.leastPlace = -149:=by decide
 have hi:single.infRung=255 * 8388608:=by decide
 have hp:p≤104:=by
  rw [hB] at r3 r4;rw [hi] at r5;rw [hl] at r3 r4 r1;omega
 have hb:Bd single x 128:=by
  refine ⟨s,m,p,e,?_⟩
  rw [ij];unfold vl;have h1:m≤2 ^ 24:=by rw [hB] at r2;omega
  have h2:=Nat.mul_le_mul_right (2 ^ (p+(eP:Int)).toNat) h1;refine Nat.le_trans h2 ?_
  rw [← Nat.pow_add];exact Nat.pow_le_pow_right (by omega) (by omega)
 exact pz hb (by omega)
theorem Ld {a b:Nat} (ha:ja a) (hb:ja b):single.add a b=some (rF a b):=by
 obtain ⟨s,m,p,e1⟩:=ha;obtain ⟨t,n,q,e2⟩:=hb;unfold rF Format.add;rw [e1,e2];rfl
theorem Il {x k:Nat} (hx:x<18446744073709551616) (h:Bd double x k):rR x=false→Bd double x 52:=by
 intro hb;obtain ⟨s,m,p,e,_⟩:=h;refine ⟨s,m,p,e,?_⟩
 have hand:x &&& (18446744073709551615 ^^^ 9223372036854775808)=x % 2 ^ 63:=by
  rw [show (18446744073709551615 ^^^ 9223372036854775808:Nat)=2 ^ 63 - 1 from by decide]
  exact Nat.and_two_pow_sub_one_eq_mod _ _
 obtain ⟨r1,r2,r3,r4,r5,_⟩:=aZ aw e;have hs:double.signWeight=2 ^ 63:=by decide
 rw [hs] at r4 r5;obtain ⟨m',p',e'⟩:=lR r5 aw;obtain ⟨s1,s2,s3,s4,s5,_⟩:=aZ aw e';rw [hs,Nat.mod_mod] at s4;have hle:=kq aw r1 s1 r2 s2 r3 s3 (by omega)
 have hge:=kq aw s1 r1 s2 r2 s3 r3 (by omega)
 have hc:double.read 4841369599423283200=.number false 4503599627370496 0:=by decide +kernel
 unfold rR jx at hb;rw [hand,qV e' hc] at hb;have h52:vl 1 ((52:Nat):Int)=vl 4503599627370496 0:=by
  have:=cZ (m:=1) (k:=52) (p:=0) (q:=((52:Nat):Int)) (by rw [iC];omega) (by omega)
  rw [this]
 rw [h52]
 cases hcmp:compare (vl m' p') (vl 4503599627370496 0) with
 | lt=>rw [Nat.compare_eq_lt] at hcmp;omega
 | eq=>rw [hcmp] at hb;cases hb
 | gt=>rw [hcmp] at hb;cases hb
end Go.Proofs.YtbknhgapjjaelaaGreatDoor
