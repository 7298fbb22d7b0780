/-
  Part 31 of what the proof stands on: lemmas and contracts, each with its conditions ahead of the colon.
-/
import Derived.Test.YtbknhgapjjaelaaGreatDoorPj01
import Derived.WalkLawsBesides
import Derived.Deep.LoopGhost
import Derived.Test.YtbknhgapjjaelaaGreatDoorPj02
import Derived.Test.YtbknhgapjjaelaaGreatDoorPj05
import Derived.Test.YtbknhgapjjaelaaGreatDoorPj30
set_option maxRecDepth 10000
set_option maxHeartbeats 16000000
namespace Go.Proofs.YtbknhgapjjaelaaGreatDoor
set_option linter.unusedVariables false
set_option linter.unusedSimpArgs false
open Ieee
theorem IP (b:Nat):single.read (b ^^^ 2147483648)=(single.read b).opposite:=by
 have hs:single.signWeight=2 ^ 31:=by decide
 have e1:(b ^^^ 2147483648) % 2 ^ 31=b % 2 ^ 31:=by
  rw [Nat.xor_mod_two_pow,show (2147483648:Nat) % 2 ^ 31=0 from by decide,Nat.xor_zero]
 have e2:(b ^^^ 2147483648) / 2 ^ 31=(b / 2 ^ 31) ^^^ 1:=by
  rw [← Nat.shiftRight_eq_div_pow,Nat.shiftRight_xor_distrib,← Nat.shiftRight_eq_div_pow]
  rfl
 have e3:((b / 2 ^ 31) ^^^ 1) % 2=1 - b / 2 ^ 31 % 2:=by
  rw [show (2:Nat)=2 ^ 1 from rfl,Nat.xor_mod_two_pow]
  rcases Nat.mod_two_eq_zero_or_one (b / (2 ^ 1) ^ 31) with h | h
  · rw [show (2:Nat) ^ 1=2 from rfl] at h ⊢;rw [h];rfl
  · rw [show (2:Nat) ^ 1=2 from rfl] at h ⊢;rw [h];rfl
 unfold Format.read;rw [hs,e1,e2,e3];have hb:(1 - b / 2 ^ 31 % 2 == 1) = !(b / 2 ^ 31 % 2 == 1):=by
  rcases Nat.mod_two_eq_zero_or_one (b / 2 ^ 31) with h | h
  · rw [h];rfl
  · rw [h];rfl
 rw [hb];simp only
 split
 · rfl
 · split
   · rfl
   · split
     · rfl
     · rfl
open Ieee
def eh (xs:List Nat):Nat→Nat
 | 0=>0
 | k+1=>sk (eh xs k) (xs.getD k 0)
theorem zM:Bd single 0 0:=⟨false,0,-149,by decide +kernel,by rw [show vl 0 (-149)=0 from Nat.zero_mul _];exact Nat.zero_le _⟩
theorem Au {xs:List Nat} {b:Nat} (h:∀ x∈xs,Bd single x b) (k:Nat):Bd single (xs.getD k 0) b:=by
 rw [List.getD_eq_getElem?_getD]
 by_cases hk:k<xs.length
 · rw [List.getElem?_eq_getElem hk];exact h _ (List.getElem_mem hk)
 · rw [List.getElem?_eq_none (by omega)];exact zM.mono (Nat.zero_le _)
theorem uD {xs:List Nat} {b:Nat} (h:∀ x∈xs,Bd single x b):∀ k,b+k+1≤125→Bd single (eh xs k) (b+k)∧single.add (eh xs k) (xs.getD k 0)=some (eh xs (k+1)):=by
 intro k hk;have hb:∀ k,b+k+1≤125→Bd single (eh xs k) (b+k):=by
  intro k
  induction k with
  | zero=>intro _;exact zM.mono (Nat.zero_le _)
  | succ k ih =>
    intro hk;obtain ⟨r,e,b1⟩:=uM (AW (k:=b+k+1) (by omega)) (ih (by omega)) ((Au h k).mono (Nat.le_add_right b k))
    have:eh xs (k+1)=r:=by unfold eh sk;rw [e];rfl
    rw [this];exact b1
 refine ⟨hb k hk,?_⟩
 obtain ⟨r,e,b1⟩:=uM (AW (k:=b+k+1) (by omega)) (hb k hk) ((Au h k).mono (Nat.le_add_right b k))
 have:eh xs (k+1)=r:=by
  show sk (eh xs k) (xs.getD k 0)=r
  unfold sk;rw [e];rfl
 rw [this];exact e
def mM (n:Int):Nat:=single.write (.number (n<0) n.natAbs 0)
def Ke (b c l:Nat):Bool:=match single.read b with
 | .number _ m p=>decide (-(200:Int)≤p) && decide (2 ^ (200+c)≤m * 2 ^ (p+200).toNat) && decide (m * 2 ^ (p+200).toNat≤2 ^ (200+l))
 | _=>false
theorem MD {b c l:Nat} (h:Ke b c l=true):Bd single b l∧∃ t n j,single.read b=.number t n j∧vl 1 (c:Int)≤vl n j:=by
 unfold Ke at h
 cases hr:single.read b with
 | number s m p =>
   rw [hr] at h;simp only [Bool.and_eq_true,decide_eq_true_eq] at h;obtain ⟨⟨h0,h1⟩,h2⟩:=h;obtain ⟨Y,hY⟩:∃ Y,Y=eP - 200:=⟨_,rfl⟩;have hYe:eP=200+Y:=by have:=iD;omega
   have he:∀ k:Nat,vl 1 (k:Int)=2 ^ (200+k) * 2 ^ Y:=fun k=>by
    rw [it,← Nat.pow_add,show k+eP=200+k+Y from by omega]
   have hv:vl m p=m * 2 ^ (p+200).toNat * 2 ^ Y:=by
    unfold vl;rw [Nat.mul_assoc,← Nat.pow_add,show (p+(eP:Int)).toNat=(p+200).toNat+Y from by omega]
   refine ⟨⟨s,m,p,hr,?_⟩,s,m,p,rfl,?_⟩
   · rw [hv,he];exact Nat.mul_le_mul_right _ h2
   · rw [hv,he];exact Nat.mul_le_mul_right _ h1
 | infinity s=>rw [hr] at h;cases h
 | nan s t=>rw [hr] at h;cases h
theorem CC:(List.range 64).all (fun j=>Ke (mM ((j+1:Nat):Int)) 0 7)=true:=by decide +kernel
theorem JN {n:Nat} (h1:1≤n) (h:n≤64):Bd single (mM (n:Int)) 7∧∃ t m j,single.read (mM (n:Int))=.number t m j∧vl 1 ((0:Nat):Int)≤vl m j:=by
 have h:=List.all_eq_true.1 CC (n - 1) (List.mem_range.2 (by omega))
 rw [show n - 1+1=n from by omega] at h
 exact MD h
def iW (xs:List Nat) (n:Nat):Nat:=NI (eh xs n) (mM (n:Int))
theorem qD {xs:List Nat} {b n:Nat} (h:∀ x∈xs,Bd single x b) (h1:1≤n) (hn:n≤64) (hb:b+n+1≤125):single.div (eh xs n) (mM (n:Int))=some (iW xs n)∧Bd single (iW xs n) (b+n+1):=by
 obtain ⟨c1,c2⟩:=JN h1 hn;obtain ⟨r,e,b1⟩:=zN (AW (k:=b+n+1) (by omega)) (by omega) (c:=0) (uD h n hb).1 c1 c2 (by decide)
 have:iW xs n=r:=by unfold iW NI;rw [e];rfl
 rw [this];exact ⟨e,b1⟩
def jQ (b:Nat):Nat:=b ^^^ 2147483648
def qG (a b c d:Nat):Nat:=fg (bh (bo (aj a) (aj c)) (bo (aj b) (aj d)))
def jz (a b c d:Nat):Nat:=fg (iC (bo (aj a) (aj d)) (bo (aj b) (aj c)))
theorem Mk {b k:Nat} (h:Bd single b k):Bd single (jQ b) k:=DG (IP b) h
structure MulOk (a b c d:Nat):Prop where
 wa:floatToFloatBits .f32 a .f64=some (aj a)
 wb:floatToFloatBits .f32 b .f64=some (aj b)
 wc:floatToFloatBits .f32 c .f64=some (aj c)
 wd:floatToFloatBits .f32 d .f64=some (aj d)
 ac:double.mul (aj a) (aj c)=some (bo (aj a) (aj c))
 bd:double.mul (aj b) (aj d)=some (bo (aj b) (aj d))
 ad:double.mul (aj a) (aj d)=some (bo (aj a) (aj d))
 bc:double.mul (aj b) (aj c)=some (bo (aj b) (aj c))
 u:double.sub (bo (aj a) (aj c)) (bo (aj b) (aj d))=some (bh (bo (aj a) (aj c)) (bo (aj b) (aj d)))
 v:double.add (bo (aj a) (aj d)) (bo (aj b) (aj c))=some (iC (bo (aj a) (aj d)) (bo (aj b) (aj c)))
 nu:floatToFloatBits .f64 (bh (bo (aj a) (aj c)) (bo (aj b) (aj d))) .f32=some (qG a b c d)
 nv:floatToFloatBits .f64 (iC (bo (aj a) (aj d)) (bo (aj b) (aj c))) .f32=some (jz a b c d)
theorem sJ {a b k l:Nat} (h:k+l≤1000) (ha:Bd double a k) (hb:Bd double b l):double.mul a b=some (bo a b)∧Bd double (bo a b) (k+l):=by
 obtain ⟨r,e,b1⟩:=pO (kn (k:=k+l) (by omega)) ha hb
 have:bo a b=r:=by unfold bo;rw [e];rfl
 rw [this];exact ⟨e,b1⟩
theorem Nz {a b c d k l:Nat} (h:k+l+1≤125) (ha:Bd single a k) (hb:Bd single b k) (hc:Bd single c l) (hd:Bd single d l):MulOk a b c d∧Bd single (jz a b c d) (k+l+1)∧Bd single (qG a b c d) (k+l+1):=by
 obtain ⟨wa,wa'⟩:=qj ha (by omega)
 obtain ⟨wb,wb'⟩:=qj hb (by omega)
 obtain ⟨wc,wc'⟩:=qj hc (by omega)
 obtain ⟨wd,wd'⟩:=qj hd (by omega)
 obtain ⟨ac,ac'⟩:=sJ (by omega) wa' wc'
 obtain ⟨bd,bd'⟩:=sJ (by omega) wb' wd'
 obtain ⟨ad,ad'⟩:=sJ (by omega) wa' wd'
 obtain ⟨bc,bc'⟩:=sJ (by omega) wb' wc'
 obtain ⟨u,u1,u2⟩:=rt (kn (k:=k+l+1) (by omega)) ac' bd'
 obtain ⟨v,v1,v2⟩:=uM (kn (k:=k+l+1) (by omega)) ad' bc'
 have hu:bh (bo (aj a) (aj c)) (bo (aj b) (aj d))=u:=by unfold bh;rw [u1];rfl
 have hv:iC (bo (aj a) (aj d)) (bo (aj b) (aj c))=v:=by unfold iC;rw [v1];rfl
 obtain ⟨nu,nu'⟩:=kx u2 h;obtain ⟨nv,nv'⟩:=kx v2 h;refine ⟨⟨wa,wb,wc,wd,ac,bd,ad,bc,by rw [hu];exact u1,by rw [hv];exact v1,?_,?_⟩,?_,?_⟩
 · unfold qG;rw [hu];exact nu
 · unfold jz;rw [hv];exact nv
 · unfold jz;rw [hv];exact nv'
 · unfold qG;rw [hu];exact nu'
def dX (xs:List Nat):List (Nat × Nat):=xs.map fun x=>bx (aj x)
def kY (xs:List Nat):Nat:=iW ((dX xs).map (·.1)) xs.length
def kX (xs:List Nat):Nat:=iW ((dX xs).map (·.2)) xs.length
def ph (by_:Nat) (xs:List Nat) (x:Nat):Nat:=sk x (uC by_ (jz (kY xs) (kX xs) (bx (aj x)).1 (jQ (bx (aj x)).2)))
def iH (by_:Nat) (xs:List Nat):List Nat:=xs.map (ph by_ xs)
def jd (x:Nat):Prop:=∃ s m p,single.read x=.number s m p
theorem Bd.num {x k:Nat} (h:Bd single x k):jd x:=by obtain ⟨s,m,p,e,_⟩:=h;exact ⟨s,m,p,e⟩
theorem qL {x:Nat} (h:jd x):floatToFloatBits .f32 x .f64=some (aj x)∧Bd double (aj x) 128:=by
 obtain ⟨s,m,p,e⟩:=h;obtain ⟨r1,r2,r3,r4,r5,_⟩:=bf jx e;have hB:single.binade=8388608:=by decide
 have hl:single.leastPlace = -149:=by decide
 have hi:single.infRung=255 * 8388608:=by decide
 have hp:p≤104:=by
  rw [hB] at r3 r4;rw [hi] at r5;rw [hl] at r3 r4 r1;omega
 have hb:Bd single x 128:=by
  refine ⟨s,m,p,e,?_⟩
  rw [it];unfold vl;have h1:m≤2 ^ 24:=by rw [hB] at r2;omega
  have h2:=Nat.mul_le_mul_right (2 ^ (p+(eP:Int)).toNat) h1;refine Nat.le_trans h2 ?_
  rw [← Nat.pow_add];exact Nat.pow_le_pow_right (by omega) (by omega)
 exact qj hb (by omega)
theorem MH {a b:Nat} (ha:jd a) (hb:jd b):single.add a b=some (sk a b):=by
 obtain ⟨s,m,p,e1⟩:=ha;obtain ⟨t,n,q,e2⟩:=hb;unfold sk Format.add;rw [e1,e2];rfl
theorem GF {x k:Nat} (hx:x<18446744073709551616) (h:Bd double x k):ry x=false→Bd double x 52:=by
 intro hb;obtain ⟨s,m,p,e,_⟩:=h;refine ⟨s,m,p,e,?_⟩
 have hand:x &&& (18446744073709551615 ^^^ 9223372036854775808)=x % 2 ^ 63:=by
  rw [show (18446744073709551615 ^^^ 9223372036854775808:Nat)=2 ^ 63 - 1 from by decide]
  exact Nat.and_two_pow_sub_one_eq_mod _ _
 obtain ⟨r1,r2,r3,r4,r5,_⟩:=bf az e;have hs:double.signWeight=2 ^ 63:=by decide
 rw [hs] at r4 r5;obtain ⟨m',p',e'⟩:=mg r5 az;obtain ⟨s1,s2,s3,s4,s5,_⟩:=bf az e';rw [hs,Nat.mod_mod] at s4;have hle:=kF az r1 s1 r2 s2 r3 s3 (by omega)
 have hge:=kF az s1 r1 s2 r2 s3 r3 (by omega)
 have hc:double.read 4841369599423283200=.number false 4503599627370496 0:=by decide +kernel
 unfold ry jG at hb;rw [hand,rU e' hc] at hb;have h52:vl 1 ((52:Nat):Int)=vl 4503599627370496 0:=by
  have:=dg (m:=1) (k:=52) (p:=0) (q:=((52:Nat):Int)) (by rw [iD];omega) (by omega)
  rw [this]
 rw [h52]
 cases hcmp:compare (vl m' p') (vl 4503599627370496 0) with
 | lt=>rw [Nat.compare_eq_lt] at hcmp;omega
 | eq=>rw [hcmp] at hb;cases hb
 | gt=>rw [hcmp] at hb;cases hb
open Go.RowKit Ieee
theorem Dj (w:World) (b:Nat) (n:Int) (h:floatToIntVal .f64 b .i64=some n) (s d:TypeId) (hs:(Tryz.prog.underlying s).isSome=true) (hd:Tryz.prog.underlying d=some (.int .i64)):(convert s d (.float .f64 b)).run Tryz.prog w=.ok (.int .i64 n) w:=run_convert_float_int w s d FloatKind.f64 IntKind.i64 b n hs hd h
theorem iw {A:Type} {o:Option A} {x:A} (h:o=some x):o.isSome=true:=by rw [h];rfl
theorem B7 {x:Nat} (h:∃ s m p,double.read x=.number s m p):double.sub x x=some 0:=by
 obtain ⟨s,m,p,e⟩:=h;have hl:=(bf az e).1;have hl2:=az.low;obtain ⟨D,d1,d2⟩:=oN (s:=s) (m:=m) (i:=p) (n:=m) (j:=p) (by omega) (by omega) (Nat.le_refl _)
 have hD:D=0:=by
  rcases Nat.eq_zero_or_pos D with h | h
  · exact h
  · exfalso
    have:0<vl D (min p p):=Nat.mul_pos h (Nat.two_pow_pos _);omega
 subst hD;unfold Format.sub;rw [e]
 show ((Datum.number s m p).sum (.number (!s) m p)).map double.write=_
 rw [d1]
 rfl
theorem Nd:(double.order 0 0 == some .eq)=true:=by decide +kernel
theorem Nk {x k:Nat} (h:Bd double x k):∃ s m p,double.read x=.number s m p:=by obtain ⟨s,m,p,e,_⟩:=h;exact ⟨s,m,p,e⟩
theorem wN (w:World) (x:Nat) (h:∃ s m p,double.read x=.number s m p) :
 Calls Tryz.prog 232 #[.float .f64 x] w fun e w'=>e=.returned (.bool true)∧w=w':=by
 have hs:=B7 h;have r1:∀ z:World,(binOp BinOp.sub 134 (.float .f64 x) (.float .f64 x)).run Tryz.prog z=.ok (.float .f64 0) z:=fun z=>run_float_arith z _ _ _ _ _ _ hs
 have t1:(FloatKind.f64.format.order 0 0 == some .eq)=true:=Nd;clear h hs
 go_enter Tryz.func232,Tryz.ntmps232;go_wp2_with fail;go_ret;exact ⟨rfl,rfl⟩
theorem E7 (b:Nat) (w:World):(callFunc 252 #[.int .u64 b]).run Tryz.prog w=.ok (.value (.float .f64 b)) w:=by
 rw [run_callFunc_extern (P:=Tryz.prog) (e:=Extern.MathFloatBits.float64frombits) Tryz.func252 (by kernel_rfl) (by kernel_rfl) (by kernel_rfl) (by kernel_rfl)]
 rfl
theorem JH {x:Nat} (hx:x<18446744073709551616):bits BinOp.andNot IntKind.u64 (x:Int) 9223372036854775808=((x &&& (18446744073709551615 ^^^ 9223372036854775808):Nat):Int):=by
 have e1:(BitVec.ofInt 64 (x:Int))=BitVec.ofNat 64 x:=BitVec.ofInt_natCast _ _;have e2:(~~~ (BitVec.ofInt 64 (9223372036854775808:Int)))=BitVec.ofNat 64 (18446744073709551615 ^^^ 9223372036854775808):=by decide
 have e3:(BitVec.ofNat 64 x &&& BitVec.ofNat 64 (18446744073709551615 ^^^ 9223372036854775808)).toNat=x &&& (18446744073709551615 ^^^ 9223372036854775808):=by
  rw [BitVec.toNat_and,BitVec.toNat_ofNat,BitVec.toNat_ofNat,Nat.mod_eq_of_lt (by omega),Nat.mod_eq_of_lt (by decide)]
 show IntKind.u64.wrap ((BitVec.ofInt 64 (x:Int) &&& ~~~ (BitVec.ofInt 64 (9223372036854775808:Int))).toNat:Int)=_
 rw [e1,e2,e3];have hle:x &&& (18446744073709551615 ^^^ 9223372036854775808)≤x:=Nat.and_le_left;generalize x &&& (18446744073709551615 ^^^ 9223372036854775808)=y at *
 simp only [IntKind.wrap,IntKind.bits,IntKind.signed];have:(y:Int) % 2 ^ 64=y:=by omega
 simp only [Bool.false_and,Bool.false_eq_true,if_false];exact this
theorem Mc (w:World) (x:Nat) (hx:x<18446744073709551616) :
 Calls Tryz.prog 234 #[.float .f64 x] w fun e w'=>e=.returned (.float .f64 (x &&& (18446744073709551615 ^^^ 9223372036854775808)))∧w=w':=by
 have hd:=fun v=>GI x v
 have he:=fun v=>E7 (x &&& (18446744073709551615 ^^^ 9223372036854775808)) v
 rw [← JH hx] at he
 go_enter Tryz.func234,Tryz.ntmps234;go_wp2_with fail;go_ret;exact ⟨rfl,rfl⟩
theorem rC (w:World) (x:Nat) (h:Bd double x 52) :
 Calls Tryz.prog 235 #[.float .f64 x] w fun e w'=>e=.returned (.float .f64 (cQ x))∧w=w':=by
 obtain ⟨h1,h2,h3,h4,_⟩:=wM h;have r1:∀ z:World,(convert 134 2 (.float .f64 x)).run Tryz.prog z=.ok (.int .i64 (jb x)) z:=fun z=>Dj z x (jb x) h1 _ _ (iw Tryz.underlying134) Tryz.underlying2
 rw [h2] at h3 h4;have r2:∀ z:World,(binOp BinOp.sub 134 (.float .f64 x) (.float .f64 (floatOfInt .f64 (jb x)))).run Tryz.prog z=.ok (.float .f64 (bh x (floatOfInt .f64 (jb x)))) z:=fun z=>run_float_arith z _ _ _ _ _ _ h3
 have hF:Hid (cQ x=if A3 (bh x (floatOfInt .f64 (jb x))) 0 then iC (bh x (floatOfInt .f64 (jb x))) ec else bh x (floatOfInt .f64 (jb x))):=by rw [Hid,cQ,h2]
 generalize jb x=n at *
 generalize bh x (floatOfInt .f64 n)=y at *
 cases hl:A3 y 0 with
 | true =>
   have r3:∀ z:World,(binOp BinOp.add 134 (.float .f64 y) (.float .f64 4607182418800017408)).run Tryz.prog z=.ok (.float .f64 (iC y ec)) z:=fun z=>run_float_arith z _ _ _ _ _ _ (h4 hl)
   have t1:(FloatKind.f64.format.order y 0 == some .lt)=true:=hl;have hG:Hid (cQ x=iC y ec):=by rw [Hid,hF.out,if_pos hl]
   clear h h1 h2 h3 h4 hF hl
   go_enter Tryz.func235,Tryz.ntmps235;go_wp2_with fail;go_ret;exact ⟨by rw [hG.out];rfl,rfl⟩
 | false =>
   have t1:(FloatKind.f64.format.order y 0 == some .lt)=false:=hl;have hG:Hid (cQ x=y):=by rw [Hid,hF.out,if_neg (by rw [hl];decide)]
   clear h h1 h2 h3 h4 hF hl
   go_enter Tryz.func235,Tryz.ntmps235;go_wp2_with fail;go_ret;exact ⟨by rw [hG.out];rfl,rfl⟩
open Go.RowKit Ieee
theorem bR (op:BinOp) (k:FloatKind) (t:TypeId) {x y r:Nat} (h:floatBits op k x y=some r):∀ z:World,(binOp op t (.float k x) (.float k y)).run Tryz.prog z=.ok (.float k r) z:=fun z=>run_float_arith z _ _ _ _ _ _ h
structure StepW (u p kw:Nat) (up k2 k21 den q p' kw':Nat):Prop where
 a1:floatBits .mul .f64 u p=some up
 a2:floatBits .mul .f64 4611686018427387904 kw=some k2
 a3:floatBits .add .f64 k2 4607182418800017408=some k21
 a4:floatBits .mul .f64 k2 k21=some den
 a5:floatBits .quo .f64 up den=some q
 a6:floatBits .sub .f64 4607182418800017408 q=some p'
 a7:floatBits .sub .f64 kw 4607182418800017408=some kw'
 t:(FloatKind.f64.format.order kw 4607182418800017408 == some .gt || FloatKind.f64.format.order kw 4607182418800017408 == some .eq)=true
theorem NY {u:Nat} (hu:Bd double u 2) {j:Nat} (hj:j<8):∃ up k2 k21 den q,StepW u (pN u j) (iI (8 - j)) up k2 k21 den q (pN u (j+1)) (iI (8 - (j+1))):=by
 have hd:=Ai (k:=8 - j) (by omega) (by omega)
 obtain ⟨p1,p2,p3⟩:=MQ hu hj;exact ⟨_,_,_,_,_,p1,hd.two,hd.one,hd.den,p2,p3,by have:=hd.less;rw [show 8 - j - 1=8 - (j+1) from by omega] at this;exact this,hd.ge⟩
def va (j:Nat):Nat:=iI (8 - j)
theorem J9:va 0=4620693217682128896:=GT
theorem Mz:(FloatKind.f64.format.order (va 8) 4607182418800017408 == some .gt || FloatKind.f64.format.order (va 8) 4607182418800017408 == some .eq)=false:=Mn
theorem BX (w:World) (x:Nat) (h:Bd double x 52) :
 Calls Tryz.prog 236 #[.float .f64 x] w fun e w'=>e=.returned (.float .f64 (nA x))∧w=w':=by
 have hs:=xg h;have LF:=Oi (fun v=>rC v x h)
 have ST:=Oi (fun j (hj:j<8)=>NY hs.ub hj)
 have hA:Hid (sA (cQ x)=if jG (cQ x) dw then bh (cQ x) dw else cQ x):=rfl;have hB:Hid (sB (sA (cQ x))=if uV (sA (cQ x)) bq then bh dw (sA (cQ x)) else sA (cQ x)):=rfl;have hF:Hid (nA x=if jG (cQ x) dw then nD x ^^^ mp else nD x):=rfl;have hP0:Hid (pN (bo (dQ x) (dQ x)) 0=4607182418800017408):=rfl;have rz:=bR .mul .f64 134 (show floatBits .mul .f64 (sB (sA (cQ x))) 4618760256179416344=some (dQ x) from hs.z)
 have ru:=bR .mul .f64 134 (show floatBits .mul .f64 (dQ x) (dQ x)=some (bo (dQ x) (dQ x)) from hs.u)
 have rp:=bR .mul .f64 134 (show floatBits .mul .f64 (dQ x) (pN (bo (dQ x) (dQ x)) 8)=some (nD x) from hs.p)
 have h1:=hs.half;have h2:=hs.quar;clear h hs;generalize nA x=R at *
 generalize nD x=P at *
 generalize dQ x=Z at *
 generalize sB (sA (cQ x))=g2 at *
 generalize sA (cQ x)=g1 at *
 generalize cQ x=f at *
 generalize bo Z Z=U at *
 have fin:∀ b:Bool,(FloatKind.f64.format.order f 4602678819172646912 == some .gt || FloatKind.f64.format.order f 4602678819172646912 == some .eq)=b→R=(if b then P ^^^ 9223372036854775808 else P):=fun b hb=>by
  rw [hF.out];unfold jG dw mp;rw [show (double.order f 4602678819172646912 == some .gt || double.order f 4602678819172646912 == some .eq)=b from hb]
 have FIN:=Oi fin;have main:∀ (b c:Bool),(FloatKind.f64.format.order f 4602678819172646912 == some .gt || FloatKind.f64.format.order f 4602678819172646912 == some .eq)=b→(FloatKind.f64.format.order g1 4598175219545276416 == some .gt)=c→(b=true→floatBits .sub .f64 f 4602678819172646912=some g1)→(b=false→g1=f)→(c=true→floatBits .sub .f64 4602678819172646912 g1=some g2)→(c=false→g2=g1) →
  Calls Tryz.prog 236 #[.float .f64 x] w fun e w'=>e=.returned (.float .f64 R)∧w=w':=by
  intro b c tb tc b1 b0 c1 c0;have HR:=Oi (FIN.out b tb);have rn:Op.unary UnOp.neg (.float .f64 P)=pure (.float .f64 (P ^^^ 9223372036854775808)):=rfl;clear hA hB hF h1 h2 fin FIN
  cases b
  all_goals cases c
  case' false.false=>obtain rfl:=b0 rfl;obtain rfl:=c0 rfl;clear b1 c1 b0 c0
  case' false.true=>obtain rfl:=b0 rfl;have r2:=bR .sub .f64 134 (c1 rfl);clear b1 c1 b0 c0
  case' true.false=>obtain rfl:=c0 rfl;have r1:=bR .sub .f64 134 (b1 rfl);clear b1 c1 b0 c0
  case' true.true=>have r1:=bR .sub .f64 134 (b1 rfl);have r2:=bR .sub .f64 134 (c1 rfl);clear b1 c1 b0 c0
  all_goals
   (go_enter Tryz.func236,Tryz.ntmps236
    go_wp2_with fail;refine (LF.out _).mono ?_;rintro e w1 ⟨rfl,rfl⟩;go_wp2_with fail
    go_loopg [7,8] (8) (fun gk pv kv wr=>∃ j:Nat,gk=8 - j∧j≤8∧pv=.float .f64 (pN U j)∧kv=.float .f64 (va j)∧w=wr)
    case atStart=>exact ⟨0,rfl,Nat.zero_le _,by rw [hP0.out],by rw [J9],rfl⟩
    case round =>
     obtain ⟨j,rfl,hj,rfl,rfl,rfl⟩:=hrel
     by_cases hlt:j<8
     · obtain ⟨up,k2,k21,den,q,hS⟩:=ST.out j hlt
       have hS':StepW U (pN U j) (va j) up k2 k21 den q (pN U (j+1)) (va (j+1)):=hS;clear hS;obtain ⟨p',hp'⟩:∃ p',p'=pN U (j+1):=⟨_,rfl⟩;obtain ⟨kw',hkw'⟩:∃ k',k'=va (j+1):=⟨_,rfl⟩;rw [← hp',← hkw'] at hS';obtain ⟨a1,a2,a3,a4,a5,a6,a7,t⟩:=hS';have f1:=bR .mul .f64 134 a1;have f2:=bR .mul .f64 134 a2;have f3:=bR .add .f64 134 a3;have f4:=bR .mul .f64 134 a4;have f5:=bR .quo .f64 134 a5;have f6:=bR .sub .f64 134 a6;have f7:=bR .sub .f64 134 a7;have HP':=Oi hp';have HK':=Oi hkw';clear a1 a2 a3 a4 a5 a6 a7 hp' hkw';generalize pN U j=p at *
       generalize va j=kw at *
       go_wp2_with fail
       go_roundg (8 - (j+1))
       case measure=>omega
       case rel=>exact ⟨j+1,rfl,by omega,by rw [HP'.out],by rw [HK'.out],rfl⟩
     · obtain rfl:j=8:=by omega
       have t:=Mz;generalize va 8=kw at *
       generalize pN U 8=p at *
       go_wp2_with fail;go_ret;exact ⟨by rw [HR.out];rfl,rfl⟩)
 refine main _ _ rfl rfl (fun hb=>?_) (fun hb=>?_) (fun hc=>?_) (fun hc=>?_)
 · have:=h1 hb
   rw [hA.out];unfold jG;rw [show (double.order f dw == some .gt || double.order f dw == some .eq)=true from hb,if_pos rfl];exact this
 · rw [hA.out];unfold jG;rw [show (double.order f dw == some .gt || double.order f dw == some .eq)=false from hb,if_neg (by decide)]
 · have:=h2 hc
   rw [hB.out];unfold uV;rw [show (double.order g1 bq == some .gt)=true from hc,if_pos rfl];exact this
 · rw [hB.out];unfold uV;rw [show (double.order g1 bq == some .gt)=false from hc,if_neg (by decide)]
open Go.RowKit Ieee
theorem ij {s k:FloatKind} {b r:Nat} {src dst:TypeId} (hs:(Tryz.prog.underlying src).isSome=true) (hd:Tryz.prog.underlying dst=some (.float k)) (h:floatToFloatBits s b k=some r):∀ z:World,(convert src dst (.float s b)).run Tryz.prog z=.ok (.float k r) z:=fun z=>run_convert_float_float z src dst s k b r hs hd h
theorem Em {q c s:Nat} (h:q=0∨q=4):iG q c s=(c,s):=by
 unfold iG;rw [if_neg (by omega),if_neg (by omega),if_neg (by omega)]
theorem M7 (c s:Nat):iG 1 c s=(bh 0 s,c):=rfl
theorem M8 (c s:Nat):iG 2 c s=(bh 0 c,bh 0 s):=rfl
theorem M9 (c s:Nat):iG 3 c s=(s,bh 0 c):=rfl
theorem FG (w:World) (x:Nat) (hx:x<18446744073709551616) (h:∃ s m p,double.read x=.number s m p) (hb:ry x=false→Bd double x 52) :
 Calls Tryz.prog 188 #[.float .f64 x] w fun e w'=>e=.returned (.complex .f32 (bx x).1 (bx x).2)∧w=w':=by
 have LI:=Oi (fun v=>wN v x h)
 have LA:=Oi (fun v=>Mc v x hx)
 have hF:Hid (bx x=if ry x then (1065353216,0) else (fg (iG (gU x).2 (lF x) (lQ x)).1,fg (iG (gU x).2 (lF x) (lQ x)).2)):=rfl
 cases hbg:ry x with
 | true =>
   have t1:(FloatKind.f64.format.order (x &&& (18446744073709551615 ^^^ 9223372036854775808)) 4841369599423283200 == some .gt || FloatKind.f64.format.order (x &&& (18446744073709551615 ^^^ 9223372036854775808)) 4841369599423283200 == some .eq)=true:=hbg
   have hR:Hid (bx x=(1065353216,0)):=by rw [Hid,hF.out,if_pos hbg]
   rw [hR.out];generalize x &&& (18446744073709551615 ^^^ 9223372036854775808)=ax at *
   clear h hb hF hbg hx hR
   go_enter Tryz.func188,Tryz.ntmps188;go_wp2_with fail;refine (LI.out _).mono ?_;rintro e w1 ⟨rfl,rfl⟩;go_wp2_with fail;refine (LA.out _).mono ?_;rintro e w1 ⟨rfl,rfl⟩;go_wp2_with fail;go_ret;exact ⟨rfl,rfl⟩
 | false =>
   have hp:=yi (hb hbg);have LF:=Oi (fun v=>rC v x (hb hbg))
   have t1:(FloatKind.f64.format.order (x &&& (18446744073709551615 ^^^ 9223372036854775808)) 4841369599423283200 == some .gt || FloatKind.f64.format.order (x &&& (18446744073709551615 ^^^ 9223372036854775808)) 4841369599423283200 == some .eq)=false:=hbg
   have hR:Hid (bx x=(fg (iG (gU x).2 (lF x) (lQ x)).1,fg (iG (gU x).2 (lF x) (lQ x)).2)):=by rw [Hid,hF.out,if_neg (by rw [hbg];decide)]
   obtain ⟨tb1,tb2⟩:=Cg (q:=(gU x).2) hp.c hp.s;have n1:=(kx tb1 (by omega)).1
   have n2:=(kx tb2 (by omega)).1
   have LS1:=Oi (fun v=>BX v (bh bq (gU x).1) hp.bc)
   have LS2:=Oi (fun v=>BX v (gU x).1 hp.bs)
   have eC:nA (bh bq (gU x).1)=lF x:=rfl;have eS:nA (gU x).1=lQ x:=rfl;rw [eC] at LS1;rw [eS] at LS2;have rq:=bR .sub .f64 134 (show floatBits .sub .f64 4598175219545276416 (gU x).1=some (bh bq (gU x).1) from hp.sub)
   have rc:=bR .sub .f64 134 (show floatBits .sub .f64 0 (lF x)=some (bh 0 (lF x)) from hp.c0)
   have rs:=bR .sub .f64 134 (show floatBits .sub .f64 0 (lQ x)=some (bh 0 (lQ x)) from hp.s0)
   have HQ:Hid (QW 4 (cQ x)):=hp.qw;have H1:Hid ((lg (cQ x) 4).1=(gU x).1):=rfl;have H2:Hid ((lg (cQ x) 4).2+0=(gU x).2):=rfl;have H4:=hp.q4;rw [hR.out];clear h hb hF hbg hx hR hp tb1 tb2 eC eS;generalize x &&& (18446744073709551615 ^^^ 9223372036854775808)=ax at *
   generalize lF x=c at *
   generalize lQ x=s at *
   generalize (gU x).1=F at *
   generalize (gU x).2=K at *
   generalize cQ x=f0 at *
   generalize bh bq F=G at *
   obtain ⟨A,B,hAB⟩:∃ A B,iG K c s=(A,B):=⟨_,_,rfl⟩;rw [hAB] at n1 n2 ⊢;dsimp only at n1 n2 ⊢;have m1:=ij (iw Tryz.underlying134) Tryz.underlying79 n1;have m2:=ij (iw Tryz.underlying134) Tryz.underlying79 n2;generalize fg A=NA at *
   generalize fg B=NB at *
   clear n1 n2;have HAB:=Oi hAB;clear hAB
   go_enter Tryz.func188,Tryz.ntmps188;go_wp2_with fail;refine (LI.out _).mono ?_;rintro e w1 ⟨rfl,rfl⟩;go_wp2_with fail;refine (LA.out _).mono ?_;rintro e w1 ⟨rfl,rfl⟩;go_wp2_with fail;refine (LF.out _).mono ?_;rintro e w1 ⟨rfl,rfl⟩;clear t1 LI LA LF;go_wp2_with fail
   go_loopg [4,5] (4) (fun gk fv qv wr=>∃ (f n q:Nat),n=gk∧q+n=4∧fv=.float .f64 f∧qv=.int .i64 q∧Hid (QW n f)∧Hid ((lg f n).1=F)∧Hid ((lg f n).2+q=K)∧w=wr)
   case atStart=>exact ⟨f0,4,0,rfl,rfl,rfl,rfl,HQ.out,H1.out,H2.out,rfl⟩
   case round =>
    clear HQ H1 H2;obtain ⟨f,n,q,rfl,hqn,rfl,rfl,HQ,H1,H2,rfl⟩:=hrel
    cases hg:jG f bq with
    | true =>
      have t1:(FloatKind.f64.format.order f 4598175219545276416 == some .gt || FloatKind.f64.format.order f 4598175219545276416 == some .eq)=true:=hg
      obtain ⟨m,rfl,s1,hq2,e1,e2⟩:=Bx (by omega) HQ.out hg
      have rf:=bR .sub .f64 134 (show floatBits .sub .f64 f 4598175219545276416=some (bh f bq) from s1)
      have H1':Hid ((lg (bh f bq) m).1=F):=by rw [Hid,← e1];exact H1.out
      have H2':Hid ((lg (bh f bq) m).2+(q+1)=K):=by have:=H2.out;rw [e2] at this;rw [Hid];omega
      have HQ':=Oi hq2;clear hg s1 hq2 e1 e2 H1 H2 HQ LS1 LS2 rq rc rs m1 m2 HAB;generalize bh f bq=f' at *
      go_wp2_with fail
      go_roundg m
      case measure=>omega
      case rel=>exact ⟨f',m,q+1,rfl,by omega,rfl,by go_num,HQ'.out,H1'.out,H2'.out,rfl⟩
    | false =>
      have t1:(FloatKind.f64.format.order f 4598175219545276416 == some .gt || FloatKind.f64.format.order f 4598175219545276416 == some .eq)=false:=hg
      have e1:=By (n:=n) hg;have k1:=H1.out;have k2:=H2.out;rw [e1] at k1 k2;have k3:f=F:=k1;have k4:q=K:=by have:0+q=K:=k2;omega
      subst k3 k4;clear H1 H2 HQ hg e1 k1 k2;have hAB:=HAB.out;have hq:q=0∨q=1∨q=2∨q=3∨q=4:=by omega
      clear hqn H4;go_wp2_with fail;refine (LS1.out _).mono ?_;rintro e w1 ⟨rfl,rfl⟩;go_wp2_with fail;refine (LS2.out _).mono ?_;rintro e w1 ⟨rfl,rfl⟩;clear LS1 LS2 rq t1
      rcases hq with rfl | rfl | rfl | rfl | rfl
      · rw [Em (.inl rfl)] at hAB
        injection hAB with e1 e2
        subst e1 e2;go_wp2_with fail;go_ret;exact ⟨rfl,rfl⟩
      · rw [M7] at hAB
        injection hAB with e1 e2
        rw [e1] at rs;subst e2;clear rc e1;go_wp2_with fail;go_ret;exact ⟨rfl,rfl⟩
      · rw [M8] at hAB
        injection hAB with e1 e2
        rw [e1] at rc;rw [e2] at rs;clear e1 e2;go_wp2_with fail;go_ret;exact ⟨rfl,rfl⟩
      · rw [M9] at hAB
        injection hAB with e1 e2
        rw [e2] at rc;subst e1;clear rs e2;go_wp2_with fail;go_ret;exact ⟨rfl,rfl⟩
      · rw [Em (.inr rfl)] at hAB
        injection hAB with e1 e2
        subst e1 e2;go_wp2_with fail;go_ret;exact ⟨rfl,rfl⟩
end Go.Proofs.YtbknhgapjjaelaaGreatDoor
