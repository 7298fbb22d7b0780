/-
  Part 30 of what the proof stands on: lemmas and contracts, each with its conditions ahead of the colon.
-/
import Derived.Test.YtbknhgapjjaelaaGreatDoorPj01
import Derived.Test.YtbknhgapjjaelaaGreatDoorPj28
import Derived.Test.YtbknhgapjjaelaaGreatDoorPj29
namespace Go.Proofs.YtbknhgapjjaelaaGreatDoor
set_option linter.unusedVariables false
set_option linter.unusedSimpArgs false
open Ieee
def Nr (k:Nat):Bool:=Fi (lG k) 2 9 && (double.mul 4611686018427387904 (iI k) == some (bo 4611686018427387904 (iI k))) && (double.add (bo 4611686018427387904 (iI k)) ec == some (iC (bo 4611686018427387904 (iI k)) ec)) && (double.mul (bo 4611686018427387904 (iI k)) (iC (bo 4611686018427387904 (iI k)) ec) == some (lG k)) && jG (iI k) ec && (double.sub (iI k) ec == some (iI (k - 1)))
theorem GU:(List.range 8).all (fun j=>Nr (j+1))=true:=by decide +kernel
theorem Mn:jG (iI 0) ec=false:=by decide +kernel
theorem GT:iI 8=4620693217682128896:=by decide +kernel
structure DenOk (k:Nat):Prop where
 mid:Bd double (lG k) 9∧∃ t n j,double.read (lG k)=.number t n j∧vl 1 ((2:Nat):Int)≤vl n j
 two:double.mul 4611686018427387904 (iI k)=some (bo 4611686018427387904 (iI k))
 one:double.add (bo 4611686018427387904 (iI k)) ec=some (iC (bo 4611686018427387904 (iI k)) ec)
 den:double.mul (bo 4611686018427387904 (iI k)) (iC (bo 4611686018427387904 (iI k)) ec)=some (lG k)
 ge:jG (iI k) ec=true
 less:double.sub (iI k) ec=some (iI (k - 1))
theorem Ai {k:Nat} (h1:1≤k) (h8:k≤8):DenOk k:=by
 have h:=List.all_eq_true.1 GU (k - 1) (List.mem_range.2 (by omega))
 rw [show k - 1+1=k from by omega] at h
 unfold Nr at h;simp only [Bool.and_eq_true,beq_iff_eq] at h;obtain ⟨⟨⟨⟨⟨a,b⟩,c⟩,d⟩,e⟩,f⟩:=h;exact ⟨Il a,b,c,d,e,f⟩
theorem zO:Bd double ec 0:=UW.bd (.inl (Nat.le_refl _))
theorem ox {o:Option Nat} {r:Nat} (h:o=some r):o=some (o.getD 0):=by rw [h];rfl
theorem Fz {u:Nat} (hu:Bd double u 2):∀ j,j≤8→Bd double (pN u j) (2 * j)
 | 0,_=>zO
 | j+1,hj=>by
   have ih:=Fz hu j (by omega)
   have hd:=Ai (k:=8 - j) (by omega) (by omega)
   obtain ⟨r1,e1,b1⟩:=pO (kn (k:=2+2 * j) (by omega)) hu ih
   have b1':Bd double r1 (2 * j+2):=b1.mono (by omega)
   obtain ⟨r2,e2,b2⟩:=zN (kn (k:=2 * j+1) (by omega)) (by omega) b1' hd.mid.1 hd.mid.2 (by decide)
   obtain ⟨r3,e3,b3⟩:=rt (kn (k:=2 * j+1+1) (by omega)) (zO.mono (Nat.zero_le _)) b2
   have:pN u (j+1)=r3:=by
    have f1:bo u (pN u j)=r1:=by unfold bo;rw [e1];rfl
    have f2:qp r1 (lG (8 - j))=r2:=by unfold qp;rw [e2];rfl
    show bh ec (qp (bo u (pN u j)) (lG (8 - j)))=r3
    rw [f1,f2];unfold bh;rw [e3];rfl
   rw [this];exact b3.mono (by omega)
theorem MQ {u:Nat} (hu:Bd double u 2) {j:Nat} (hj:j<8):double.mul u (pN u j)=some (bo u (pN u j))∧double.div (bo u (pN u j)) (lG (8 - j))=some (qp (bo u (pN u j)) (lG (8 - j)))∧double.sub ec (qp (bo u (pN u j)) (lG (8 - j)))=some (pN u (j+1)):=by
 have ih:=Fz hu j (by omega)
 have hd:=Ai (k:=8 - j) (by omega) (by omega)
 obtain ⟨r1,e1,b1⟩:=pO (kn (k:=2+2 * j) (by omega)) hu ih
 have b1':Bd double r1 (2 * j+2):=b1.mono (by omega)
 obtain ⟨r2,e2,b2⟩:=zN (kn (k:=2 * j+1) (by omega)) (by omega) b1' hd.mid.1 hd.mid.2 (by decide)
 obtain ⟨r3,e3,b3⟩:=rt (kn (k:=2 * j+1+1) (by omega)) (zO.mono (Nat.zero_le _)) b2
 have f1:bo u (pN u j)=r1:=by unfold bo;rw [e1];rfl
 have f2:qp r1 (lG (8 - j))=r2:=by unfold qp;rw [e2];rfl
 refine ⟨ox e1,?_,?_⟩
 · rw [f1];exact ox e2
 · show _=some (bh ec (qp (bo u (pN u j)) (lG (8 - j))))
   rw [f1,f2];exact ox e3
structure SineOk (x:Nat):Prop where
 fr:UW (cQ x)
 half:jG (cQ x) dw=true→double.sub (cQ x) dw=some (bh (cQ x) dw)
 quar:uV (sA (cQ x)) bq=true→double.sub dw (sA (cQ x))=some (bh dw (sA (cQ x)))
 z:double.mul (sB (sA (cQ x))) Lh=some (dQ x)
 u:double.mul (dQ x) (dQ x)=some (bo (dQ x) (dQ x))
 ub:Bd double (bo (dQ x) (dQ x)) 2
 p:double.mul (dQ x) (pN (bo (dQ x) (dQ x)) 8)=some (nD x)
 bd:Bd double (nA x) 17
theorem M5:Fi Lh 0 3=true:=by decide +kernel
theorem xg {x:Nat} (h:Bd double x 52):SineOk x:=by
 have hf:=(wM h).2.2.2.2;obtain ⟨a1,a2⟩:=NW hf.qw;obtain ⟨b1,b2⟩:=NX a2;obtain ⟨z1,z2⟩:=C5 (k:=1) (by omega) b2 (Il M5).1
 have z2':Bd double (dQ x) 1:=z2;obtain ⟨u,u1,u2⟩:=pO (kn (k:=1+1) (by omega)) z2' z2'
 have hu:bo (dQ x) (dQ x)=u:=by unfold bo;rw [u1];rfl
 have ub:Bd double (bo (dQ x) (dQ x)) 2:=by rw [hu];exact u2
 have p8:=Fz ub 8 (Nat.le_refl _);obtain ⟨p,p1,p2⟩:=pO (kn (k:=1+16) (by omega)) z2' p8
 have hp:nD x=p:=by unfold nD bo;unfold bo at p1;rw [p1];rfl
 refine ⟨hf,a1,b1,z1,ox u1,ub,ox p1,?_⟩
 unfold nA
 split
 · refine DG (Nt _) ?_
   rw [hp];exact p2
 · rw [hp];exact p2
def lg (f:Nat):Nat→Nat × Nat
 | 0=>(f,0)
 | n+1=>if jG f bq then ((lg (bh f bq) n).1,(lg (bh f bq) n).2+1) else (f,0)
theorem By {f n:Nat} (h:jG f bq=false):lg f n=(f,0):=by
 cases n with
 | zero=>rfl
 | succ n=>rw [lg,if_neg (by rw [h];decide)]
theorem Bx {f n:Nat} (hn:n≤4) (h:QW n f) (hg:jG f bq=true):∃ m,n=m+1∧double.sub f bq=some (bh f bq)∧QW m (bh f bq)∧(lg f n).1=(lg (bh f bq) m).1∧(lg f n).2=(lg (bh f bq) m).2+1:=by
 obtain ⟨s,mm,p,e,h1,h2⟩:=h.bd hn;obtain ⟨g1,_⟩:=un e h2 (og 1 (by omega)) (by omega)
 obtain ⟨rfl,hv⟩:=g1.1 hg;obtain ⟨k,q,c1,c2⟩:=og 1 (by omega)
 have hpos:0<vq 1:=by unfold vq vl;exact Nat.mul_pos (Nat.mul_pos (by omega) (by omega)) (Nat.two_pow_pos _)
 cases n with
 | zero=>rw [Ep] at h1;omega
 | succ m =>
   obtain ⟨s1,s2⟩:=so (k:=m) e c1 (by rw [c2];exact hv) (by omega) (by rw [c2,Cl];exact h1)
   refine ⟨m,rfl,s1,.inl s2,?_,?_⟩
   · rw [lg,if_pos hg]
   · rw [lg,if_pos hg]
theorem QW.bd0 {n f:Nat} (hn:n≤4) (h:QW n f):Bd double f 0:=by
 obtain ⟨s,m,p,e,h1,_⟩:=h.bd hn;refine ⟨s,m,p,e,Nat.le_trans h1 ?_⟩
 show _≤vl 1 0
 rw [lS];exact Nc hn
theorem IN:∀ (n f:Nat),n≤4→QW n f→Bd double (lg f n).1 0∧(lg f n).2≤n
 | 0,f,hn,h=>⟨h.bd0 hn,Nat.le_refl _⟩
 | n+1,f,hn,h=>by
   cases hg:jG f bq with
   | false=>rw [By hg];exact ⟨h.bd0 hn,Nat.zero_le _⟩
   | true =>
     obtain ⟨m,e,_,hq,e1,e2⟩:=Bx hn h hg;obtain rfl:n=m:=by omega
     obtain ⟨i1,i2⟩:=IN n _ (by omega) hq
     rw [e1,e2];exact ⟨i1,by omega⟩
theorem Me:Bd double 0 0:=⟨false,0,-1074,mN,by rw [show vl 0 (-1074)=0 from Nat.zero_mul _];exact Nat.zero_le _⟩
def fg (x:Nat):Nat:=single.write (double.read x)
def aj (x:Nat):Nat:=double.write (single.read x)
theorem kx {x k:Nat} (h:Bd double x k) (hk:k≤125):floatToFloatBits .f64 x .f32=some (fg x)∧Bd single (fg x) k:=by
 have hb:=DF (AW hk) az h;refine ⟨?_,hb⟩
 obtain ⟨s,m,p,e,_⟩:=h;obtain ⟨s',m',p',e',_⟩:=hb;unfold floatToFloatBits;rw [if_neg (by decide)]
 have e1:FloatKind.f64.decode x=.number s m p:=e;rw [e1];have e2:single.write (.number s m p)=fg x:=by unfold fg;rw [e]
 have e3:FloatKind.f32.encode (.number s m p)=fg x:=e2;have e4:FloatKind.f32.decode (fg x)=.number s' m' p':=e';simp only [e3,e4]
 rfl
theorem qj {x k:Nat} (h:Bd single x k) (hk:k≤1021):floatToFloatBits .f32 x .f64=some (aj x)∧Bd double (aj x) k:=by
 have hb:=DF (kn hk) jx h;refine ⟨?_,hb⟩
 obtain ⟨s,m,p,e,_⟩:=h;obtain ⟨s',m',p',e',_⟩:=hb;unfold floatToFloatBits;rw [if_neg (by decide)]
 have e1:FloatKind.f32.decode x=.number s m p:=e;rw [e1];have e2:double.write (.number s m p)=aj x:=by unfold aj;rw [e]
 have e3:FloatKind.f64.encode (.number s m p)=aj x:=e2;have e4:FloatKind.f64.decode (aj x)=.number s' m' p':=e';simp only [e3,e4]
 rfl
def iG (q c s:Nat):Nat × Nat:=if q=1 then (bh 0 s,c) else if q=2 then (bh 0 c,bh 0 s) else if q=3 then (s,bh 0 c) else (c,s)
def ry (x:Nat):Bool:=jG (x &&& (18446744073709551615 ^^^ 9223372036854775808)) 4841369599423283200
def gU (x:Nat):Nat × Nat:=lg (cQ x) 4
def lF (x:Nat):Nat:=nA (bh bq (gU x).1)
def lQ (x:Nat):Nat:=nA (gU x).1
def bx (x:Nat):Nat × Nat:=if ry x then (1065353216,0) else (fg (iG (gU x).2 (lF x) (lQ x)).1,fg (iG (gU x).2 (lF x) (lQ x)).2)
theorem sE {a k:Nat} (hk:k≤100) (h:Bd double a k):double.sub 0 a=some (bh 0 a)∧Bd double (bh 0 a) (k+1):=by
 obtain ⟨r,e,b⟩:=rt (kn (k:=k+1) (by omega)) (Me.mono (Nat.zero_le k)) h
 have:bh 0 a=r:=by unfold bh;rw [e];rfl
 rw [this];exact ⟨e,b⟩
theorem Cg {q c s:Nat} (hc:Bd double c 17) (hs:Bd double s 17):Bd double (iG q c s).1 18∧Bd double (iG q c s).2 18:=by
 have c1:=(sE (by omega) hc).2
 have s1:=(sE (by omega) hs).2
 have c2:=hc.mono (show 17≤18 by omega)
 have s2:=hs.mono (show 17≤18 by omega)
 unfold iG
 split
 · exact ⟨s1,c2⟩
 · split
   · exact ⟨c1,s1⟩
   · split
     · exact ⟨s2,c1⟩
     · exact ⟨c2,s2⟩
structure PhasorOk (x:Nat):Prop where
 qw:QW 4 (cQ x)
 q4:(gU x).2≤4
 sub:double.sub bq (gU x).1=some (bh bq (gU x).1)
 bc:Bd double (bh bq (gU x).1) 52
 bs:Bd double (gU x).1 52
 c:Bd double (lF x) 17
 s:Bd double (lQ x) 17
 c0:double.sub 0 (lF x)=some (bh 0 (lF x))
 s0:double.sub 0 (lQ x)=some (bh 0 (lQ x))
theorem yi {x:Nat} (h:Bd double x 52):PhasorOk x:=by
 have hf:=(wM h).2.2.2.2.qw;obtain ⟨b1,b2⟩:=IN 4 _ (by omega) hf
 obtain ⟨r,e,b⟩:=rt (kn (k:=0+1) (by omega)) (UW.bd (.inl (show bq≤ec by decide))) b1
 have hr:bh bq (gU x).1=r:=by unfold bh gU;rw [e];rfl
 have bc:Bd double (bh bq (gU x).1) 52:=by rw [hr];exact b.mono (by omega)
 have bs:Bd double (gU x).1 52:=b1.mono (by omega)
 have c:=(xg bc).bd;have s:=(xg bs).bd;exact ⟨hf,b2,by rw [hr];exact e,bc,bs,c,s,(sE (by omega) c).1,(sE (by omega) s).1⟩
theorem IG {x:Nat} (h:ry x=false→Bd double x 52):Bd single (bx x).1 18∧Bd single (bx x).2 18:=by
 unfold bx
 cases hb:ry x with
 | true =>
   rw [if_pos rfl];refine ⟨⟨false,8388608,-23,by decide +kernel,?_⟩,⟨false,0,-149,by decide +kernel,by rw [show vl 0 (-149)=0 from Nat.zero_mul _];exact Nat.zero_le _⟩⟩
   have:=dg (m:=1) (k:=23) (p:=-23) (q:=0) (by rw [iD];omega) (by omega)
   rw [Nat.one_mul] at this;have h2:vl 1 ((0:Nat):Int)≤vl 1 ((18:Nat):Int):=Ma (by omega)
   rw [show (8388608:Nat)=2 ^ 23 from rfl,← this];exact h2
 | false =>
   rw [if_neg (by decide)]
   have hp:=yi (h hb);obtain ⟨t1,t2⟩:=Cg (q:=(gU x).2) hp.c hp.s;exact ⟨(kx t1 (by omega)).2,(kx t2 (by omega)).2⟩
open Ieee
open Ieee
end Go.Proofs.YtbknhgapjjaelaaGreatDoor
