/-
  Part 32 of what the proof stands on: lemmas and contracts, each with its conditions ahead of the colon.
-/
import Derived.Test.YtbknhgapjjaelaaGreatDoorPk01
import Derived.WalkLawsBesides
import Derived.Deep.LoopGhost
import Derived.Test.YtbknhgapjjaelaaGreatDoorPk02
import Derived.Test.YtbknhgapjjaelaaGreatDoorPk10
import Derived.Test.YtbknhgapjjaelaaGreatDoorPk31
set_option maxRecDepth 10000
set_option maxHeartbeats 16000000
namespace Go.Proofs.YtbknhgapjjaelaaGreatDoor
set_option linter.unusedVariables false
set_option linter.unusedSimpArgs false
open Go.RowKit Ieee
theorem CB (w:World) (b:Nat) (n:Int) (h:floatToIntVal .f64 b .i64=some n) (s d:TypeId) (hs:(Tryz.prog.underlying s).isSome=true) (hd:Tryz.prog.underlying d=some (.int .i64)):(convert s d (.float .f64 b)).run Tryz.prog w=.ok (.int .i64 n) w:=run_convert_float_int w s d FloatKind.f64 IntKind.i64 b n hs hd h
theorem ip {A:Type} {o:Option A} {x:A} (h:o=some x):o.isSome=true:=by rw [h];rfl
theorem AW {x:Nat} (h:∃ s m p,double.read x=.number s m p):double.sub x x=some 0:=by
 obtain ⟨s,m,p,e⟩:=h;have hl:=(aZ aw e).1;have hl2:=aw.low;obtain ⟨D,d1,d2⟩:=nO (s:=s) (m:=m) (i:=p) (n:=m) (j:=p) (by omega) (by omega) (Nat.le_refl _)
 have hD:D=0:=by
  rcases Nat.eq_zero_or_pos D with h | h
  · exact h
  · exfalso
    have:0<vl D (min p p):=Nat.mul_pos h (Nat.two_pow_pos _);omega
 subst hD;unfold Format.sub;rw [e]
 show ((Datum.number s m p).sum (.number (!s) m p)).map double.write=_
 rw [d1]
 rfl
theorem Ls:(double.order 0 0 == some .eq)=true:=by decide +kernel
theorem Ml {x k:Nat} (h:Bd double x k):∃ s m p,double.read x=.number s m p:=by obtain ⟨s,m,p,e,_⟩:=h;exact ⟨s,m,p,e⟩
theorem wC (w:World) (x:Nat) (h:∃ s m p,double.read x=.number s m p) :
 Calls Tryz.prog 232 #[.float .f64 x] w fun e w'=>e=.returned (.bool true)∧w=w':=by
 have hs:=AW h;have r1:∀ z:World,(binOp BinOp.sub 134 (.float .f64 x) (.float .f64 x)).run Tryz.prog z=.ok (.float .f64 0) z:=fun z=>run_float_arith z _ _ _ _ _ _ hs
 have t1:(FloatKind.f64.format.order 0 0 == some .eq)=true:=Ls;clear h hs
 go_enter Tryz.func232,Tryz.ntmps232;go_wp2_with fail;go_ret;exact ⟨rfl,rfl⟩
theorem E5 (b:Nat) (w:World):(callFunc 252 #[.int .u64 b]).run Tryz.prog w=.ok (.value (.float .f64 b)) w:=by
 rw [run_callFunc_extern (P:=Tryz.prog) (e:=Extern.MathFloatBits.float64frombits) Tryz.func252 (by kernel_rfl) (by kernel_rfl) (by kernel_rfl) (by kernel_rfl)]
 rfl
theorem IV {x:Nat} (hx:x<18446744073709551616):bits BinOp.andNot IntKind.u64 (x:Int) 9223372036854775808=((x &&& (18446744073709551615 ^^^ 9223372036854775808):Nat):Int):=by
 have e1:(BitVec.ofInt 64 (x:Int))=BitVec.ofNat 64 x:=BitVec.ofInt_natCast _ _;have e2:(~~~ (BitVec.ofInt 64 (9223372036854775808:Int)))=BitVec.ofNat 64 (18446744073709551615 ^^^ 9223372036854775808):=by decide
 have e3:(BitVec.ofNat 64 x &&& BitVec.ofNat 64 (18446744073709551615 ^^^ 9223372036854775808)).toNat=x &&& (18446744073709551615 ^^^ 9223372036854775808):=by
  rw [BitVec.toNat_and,BitVec.toNat_ofNat,BitVec.toNat_ofNat,Nat.mod_eq_of_lt (by omega),Nat.mod_eq_of_lt (by decide)]
 show IntKind.u64.wrap ((BitVec.ofInt 64 (x:Int) &&& ~~~ (BitVec.ofInt 64 (9223372036854775808:Int))).toNat:Int)=_
 rw [e1,e2,e3];have hle:x &&& (18446744073709551615 ^^^ 9223372036854775808)≤x:=Nat.and_le_left;generalize x &&& (18446744073709551615 ^^^ 9223372036854775808)=y at *
 simp only [IntKind.wrap,IntKind.bits,IntKind.signed];have:(y:Int) % 2 ^ 64=y:=by omega
 simp only [Bool.false_and,Bool.false_eq_true,if_false];exact this
theorem Lu (w:World) (x:Nat) (hx:x<18446744073709551616) :
 Calls Tryz.prog 234 #[.float .f64 x] w fun e w'=>e=.returned (.float .f64 (x &&& (18446744073709551615 ^^^ 9223372036854775808)))∧w=w':=by
 have hd:=fun v=>FP x v
 have he:=fun v=>E5 (x &&& (18446744073709551615 ^^^ 9223372036854775808)) v
 rw [← IV hx] at he
 go_enter Tryz.func234,Tryz.ntmps234;go_wp2_with fail;go_ret;exact ⟨rfl,rfl⟩
theorem ra (w:World) (x:Nat) (h:Bd double x 52) :
 Calls Tryz.prog 235 #[.float .f64 x] w fun e w'=>e=.returned (.float .f64 (cE x))∧w=w':=by
 obtain ⟨h1,h2,h3,h4,_⟩:=ww h;have r1:∀ z:World,(convert 134 2 (.float .f64 x)).run Tryz.prog z=.ok (.int .i64 (iP x)) z:=fun z=>CB z x (iP x) h1 _ _ (ip Tryz.underlying134) Tryz.underlying2
 rw [h2] at h3 h4;have r2:∀ z:World,(binOp BinOp.sub 134 (.float .f64 x) (.float .f64 (floatOfInt .f64 (iP x)))).run Tryz.prog z=.ok (.float .f64 (bg x (floatOfInt .f64 (iP x)))) z:=fun z=>run_float_arith z _ _ _ _ _ _ h3
 have hF:Hid (cE x=if Ac (bg x (floatOfInt .f64 (iP x))) 0 then iw (bg x (floatOfInt .f64 (iP x))) dM else bg x (floatOfInt .f64 (iP x))):=by rw [Hid,cE,h2]
 generalize iP x=n at *
 generalize bg x (floatOfInt .f64 n)=y at *
 cases hl:Ac y 0 with
 | true =>
   have r3:∀ z:World,(binOp BinOp.add 134 (.float .f64 y) (.float .f64 4607182418800017408)).run Tryz.prog z=.ok (.float .f64 (iw y dM)) z:=fun z=>run_float_arith z _ _ _ _ _ _ (h4 hl)
   have t1:(FloatKind.f64.format.order y 0 == some .lt)=true:=hl;have hG:Hid (cE x=iw y dM):=by rw [Hid,hF.out,if_pos hl]
   clear h h1 h2 h3 h4 hF hl
   go_enter Tryz.func235,Tryz.ntmps235;go_wp2_with fail;go_ret;exact ⟨by rw [hG.out];rfl,rfl⟩
 | false =>
   have t1:(FloatKind.f64.format.order y 0 == some .lt)=false:=hl;have hG:Hid (cE x=y):=by rw [Hid,hF.out,if_neg (by rw [hl];decide)]
   clear h h1 h2 h3 h4 hF hl
   go_enter Tryz.func235,Tryz.ntmps235;go_wp2_with fail;go_ret;exact ⟨by rw [hG.out];rfl,rfl⟩
open Go.RowKit Ieee
theorem bI (op:BinOp) (k:FloatKind) (t:TypeId) {x y r:Nat} (h:floatBits op k x y=some r):∀ z:World,(binOp op t (.float k x) (.float k y)).run Tryz.prog z=.ok (.float k r) z:=fun z=>run_float_arith z _ _ _ _ _ _ h
structure StepW (u p kw:Nat) (up k2 k21 den q p' kw':Nat):Prop where
 a1:floatBits .mul .f64 u p=some up
 a2:floatBits .mul .f64 4611686018427387904 kw=some k2
 a3:floatBits .add .f64 k2 4607182418800017408=some k21
 a4:floatBits .mul .f64 k2 k21=some den
 a5:floatBits .quo .f64 up den=some q
 a6:floatBits .sub .f64 4607182418800017408 q=some p'
 a7:floatBits .sub .f64 kw 4607182418800017408=some kw'
 t:(FloatKind.f64.format.order kw 4607182418800017408 == some .gt || FloatKind.f64.format.order kw 4607182418800017408 == some .eq)=true
theorem MC {u:Nat} (hu:Bd double u 2) {j:Nat} (hj:j<8):∃ up k2 k21 den q,StepW u (pN u j) (iD (8 - j)) up k2 k21 den q (pN u (j+1)) (iD (8 - (j+1))):=by
 have hd:=zH (k:=8 - j) (by omega) (by omega)
 obtain ⟨p1,p2,p3⟩:=Kx hu hj;exact ⟨_,_,_,_,_,p1,hd.two,hd.one,hd.den,p2,p3,by have:=hd.less;rw [show 8 - j - 1=8 - (j+1) from by omega] at this;exact this,hd.ge⟩
def uY (j:Nat):Nat:=iD (8 - j)
theorem JI:uY 0=4620693217682128896:=He
theorem Ko:(FloatKind.f64.format.order (uY 8) 4607182418800017408 == some .gt || FloatKind.f64.format.order (uY 8) 4607182418800017408 == some .eq)=false:=Lw
theorem zw (w:World) (x:Nat) (h:Bd double x 52) :
 Calls Tryz.prog 236 #[.float .f64 x] w fun e w'=>e=.returned (.float .f64 (mJ x))∧w=w':=by
 have hs:=wK h;have LF:=Na (fun v=>ra v x h)
 have ST:=Na (fun j (hj:j<8)=>MC hs.ub hj)
 have hA:Hid (sA (cE x)=if jx (cE x) dq then bg (cE x) dq else cE x):=rfl;have hB:Hid (sB (sA (cE x))=if vp (sA (cE x)) bo then bg dq (sA (cE x)) else sA (cE x)):=rfl;have hF:Hid (mJ x=if jx (cE x) dq then mL x ^^^ lU else mL x):=rfl;have hP0:Hid (pN (bk (dI x) (dI x)) 0=4607182418800017408):=rfl;have rz:=bI .mul .f64 134 (show floatBits .mul .f64 (sB (sA (cE x))) 4618760256179416344=some (dI x) from hs.z)
 have ru:=bI .mul .f64 134 (show floatBits .mul .f64 (dI x) (dI x)=some (bk (dI x) (dI x)) from hs.u)
 have rp:=bI .mul .f64 134 (show floatBits .mul .f64 (dI x) (pN (bk (dI x) (dI x)) 8)=some (mL x) from hs.p)
 have h1:=hs.half;have h2:=hs.quar;clear h hs;generalize mJ x=R at *
 generalize mL x=P at *
 generalize dI x=Z at *
 generalize sB (sA (cE x))=g2 at *
 generalize sA (cE x)=g1 at *
 generalize cE x=f at *
 generalize bk Z Z=U at *
 have fin:∀ b:Bool,(FloatKind.f64.format.order f 4602678819172646912 == some .gt || FloatKind.f64.format.order f 4602678819172646912 == some .eq)=b→R=(if b then P ^^^ 9223372036854775808 else P):=fun b hb=>by
  rw [hF.out];unfold jx dq lU;rw [show (double.order f 4602678819172646912 == some .gt || double.order f 4602678819172646912 == some .eq)=b from hb]
 have FIN:=Na fin;have main:∀ (b c:Bool),(FloatKind.f64.format.order f 4602678819172646912 == some .gt || FloatKind.f64.format.order f 4602678819172646912 == some .eq)=b→(FloatKind.f64.format.order g1 4598175219545276416 == some .gt)=c→(b=true→floatBits .sub .f64 f 4602678819172646912=some g1)→(b=false→g1=f)→(c=true→floatBits .sub .f64 4602678819172646912 g1=some g2)→(c=false→g2=g1) →
  Calls Tryz.prog 236 #[.float .f64 x] w fun e w'=>e=.returned (.float .f64 R)∧w=w':=by
  intro b c tb tc b1 b0 c1 c0;have HR:=Na (FIN.out b tb);have rn:Op.unary UnOp.neg (.float .f64 P)=pure (.float .f64 (P ^^^ 9223372036854775808)):=rfl;clear hA hB hF h1 h2 fin FIN
  cases b
  all_goals cases c
  case' false.false=>obtain rfl:=b0 rfl;obtain rfl:=c0 rfl;clear b1 c1 b0 c0
  case' false.true=>obtain rfl:=b0 rfl;have r2:=bI .sub .f64 134 (c1 rfl);clear b1 c1 b0 c0
  case' true.false=>obtain rfl:=c0 rfl;have r1:=bI .sub .f64 134 (b1 rfl);clear b1 c1 b0 c0
  case' true.true=>have r1:=bI .sub .f64 134 (b1 rfl);have r2:=bI .sub .f64 134 (c1 rfl);clear b1 c1 b0 c0
  all_goals
   (go_enter Tryz.func236,Tryz.ntmps236
    go_wp2_with fail;refine (LF.out _).mono ?_;rintro e w1 ⟨rfl,rfl⟩;go_wp2_with fail
    go_loopg [7,8] (8) (fun gk pv kv wr=>∃ j:Nat,gk=8 - j∧j≤8∧pv=.float .f64 (pN U j)∧kv=.float .f64 (uY j)∧w=wr)
    case atStart=>exact ⟨0,rfl,Nat.zero_le _,by rw [hP0.out],by rw [JI],rfl⟩
    case round =>
     obtain ⟨j,rfl,hj,rfl,rfl,rfl⟩:=hrel
     by_cases hlt:j<8
     · obtain ⟨up,k2,k21,den,q,hS⟩:=ST.out j hlt
       have hS':StepW U (pN U j) (uY j) up k2 k21 den q (pN U (j+1)) (uY (j+1)):=hS;clear hS;obtain ⟨p',hp'⟩:∃ p',p'=pN U (j+1):=⟨_,rfl⟩;obtain ⟨kw',hkw'⟩:∃ k',k'=uY (j+1):=⟨_,rfl⟩;rw [← hp',← hkw'] at hS';obtain ⟨a1,a2,a3,a4,a5,a6,a7,t⟩:=hS';have f1:=bI .mul .f64 134 a1;have f2:=bI .mul .f64 134 a2;have f3:=bI .add .f64 134 a3;have f4:=bI .mul .f64 134 a4;have f5:=bI .quo .f64 134 a5;have f6:=bI .sub .f64 134 a6;have f7:=bI .sub .f64 134 a7;have HP':=Na hp';have HK':=Na hkw';clear a1 a2 a3 a4 a5 a6 a7 hp' hkw';generalize pN U j=p at *
       generalize uY j=kw at *
       go_wp2_with fail
       go_roundg (8 - (j+1))
       case measure=>omega
       case rel=>exact ⟨j+1,rfl,by omega,by rw [HP'.out],by rw [HK'.out],rfl⟩
     · obtain rfl:j=8:=by omega
       have t:=Ko;generalize uY 8=kw at *
       generalize pN U 8=p at *
       go_wp2_with fail;go_ret;exact ⟨by rw [HR.out];rfl,rfl⟩)
 refine main _ _ rfl rfl (fun hb=>?_) (fun hb=>?_) (fun hc=>?_) (fun hc=>?_)
 · have:=h1 hb
   rw [hA.out];unfold jx;rw [show (double.order f dq == some .gt || double.order f dq == some .eq)=true from hb,if_pos rfl];exact this
 · rw [hA.out];unfold jx;rw [show (double.order f dq == some .gt || double.order f dq == some .eq)=false from hb,if_neg (by decide)]
 · have:=h2 hc
   rw [hB.out];unfold vp;rw [show (double.order g1 bo == some .gt)=true from hc,if_pos rfl];exact this
 · rw [hB.out];unfold vp;rw [show (double.order g1 bo == some .gt)=false from hc,if_neg (by decide)]
open Go.RowKit Ieee
theorem ia {s k:FloatKind} {b r:Nat} {src dst:TypeId} (hs:(Tryz.prog.underlying src).isSome=true) (hd:Tryz.prog.underlying dst=some (.float k)) (h:floatToFloatBits s b k=some r):∀ z:World,(convert src dst (.float s b)).run Tryz.prog z=.ok (.float k r) z:=fun z=>run_convert_float_float z src dst s k b r hs hd h
theorem Dl {q c s:Nat} (h:q=0∨q=4):it q c s=(c,s):=by
 unfold it;rw [if_neg (by omega),if_neg (by omega),if_neg (by omega)]
theorem KP (c s:Nat):it 1 c s=(bg 0 s,c):=rfl
theorem Lr (c s:Nat):it 2 c s=(bg 0 c,bg 0 s):=rfl
theorem Lf (c s:Nat):it 3 c s=(s,bg 0 c):=rfl
theorem Fz (w:World) (x:Nat) (hx:x<18446744073709551616) (h:∃ s m p,double.read x=.number s m p) (hb:rR x=false→Bd double x 52) :
 Calls Tryz.prog 188 #[.float .f64 x] w fun e w'=>e=.returned (.complex .f32 (bx x).1 (bx x).2)∧w=w':=by
 have LI:=Na (fun v=>wC v x h)
 have LA:=Na (fun v=>Lu v x hx)
 have hF:Hid (bx x=if rR x then (1065353216,0) else (eZ (it (gH x).2 (lv x) (lu x)).1,eZ (it (gH x).2 (lv x) (lu x)).2)):=rfl
 cases hbg:rR x with
 | true =>
   have t1:(FloatKind.f64.format.order (x &&& (18446744073709551615 ^^^ 9223372036854775808)) 4841369599423283200 == some .gt || FloatKind.f64.format.order (x &&& (18446744073709551615 ^^^ 9223372036854775808)) 4841369599423283200 == some .eq)=true:=hbg
   have hR:Hid (bx x=(1065353216,0)):=by rw [Hid,hF.out,if_pos hbg]
   rw [hR.out];generalize x &&& (18446744073709551615 ^^^ 9223372036854775808)=ax at *
   clear h hb hF hbg hx hR
   go_enter Tryz.func188,Tryz.ntmps188;go_wp2_with fail;refine (LI.out _).mono ?_;rintro e w1 ⟨rfl,rfl⟩;go_wp2_with fail;refine (LA.out _).mono ?_;rintro e w1 ⟨rfl,rfl⟩;go_wp2_with fail;go_ret;exact ⟨rfl,rfl⟩
 | false =>
   have hp:=xO (hb hbg);have LF:=Na (fun v=>ra v x (hb hbg))
   have t1:(FloatKind.f64.format.order (x &&& (18446744073709551615 ^^^ 9223372036854775808)) 4841369599423283200 == some .gt || FloatKind.f64.format.order (x &&& (18446744073709551615 ^^^ 9223372036854775808)) 4841369599423283200 == some .eq)=false:=hbg
   have hR:Hid (bx x=(eZ (it (gH x).2 (lv x) (lu x)).1,eZ (it (gH x).2 (lv x) (lu x)).2)):=by rw [Hid,hF.out,if_neg (by rw [hbg];decide)]
   obtain ⟨tb1,tb2⟩:=yS (q:=(gH x).2) hp.c hp.s;have n1:=(kn tb1 (by omega)).1
   have n2:=(kn tb2 (by omega)).1
   have LS1:=Na (fun v=>zw v (bg bo (gH x).1) hp.bc)
   have LS2:=Na (fun v=>zw v (gH x).1 hp.bs)
   have eC:mJ (bg bo (gH x).1)=lv x:=rfl;have eS:mJ (gH x).1=lu x:=rfl;rw [eC] at LS1;rw [eS] at LS2;have rq:=bI .sub .f64 134 (show floatBits .sub .f64 4598175219545276416 (gH x).1=some (bg bo (gH x).1) from hp.sub)
   have rc:=bI .sub .f64 134 (show floatBits .sub .f64 0 (lv x)=some (bg 0 (lv x)) from hp.c0)
   have rs:=bI .sub .f64 134 (show floatBits .sub .f64 0 (lu x)=some (bg 0 (lu x)) from hp.s0)
   have HQ:Hid (QW 4 (cE x)):=hp.qw;have H1:Hid ((kE (cE x) 4).1=(gH x).1):=rfl;have H2:Hid ((kE (cE x) 4).2+0=(gH x).2):=rfl;have H4:=hp.q4;rw [hR.out];clear h hb hF hbg hx hR hp tb1 tb2 eC eS;generalize x &&& (18446744073709551615 ^^^ 9223372036854775808)=ax at *
   generalize lv x=c at *
   generalize lu x=s at *
   generalize (gH x).1=F at *
   generalize (gH x).2=K at *
   generalize cE x=f0 at *
   generalize bg bo F=G at *
   obtain ⟨A,B,hAB⟩:∃ A B,it K c s=(A,B):=⟨_,_,rfl⟩;rw [hAB] at n1 n2 ⊢;dsimp only at n1 n2 ⊢;have m1:=ia (ip Tryz.underlying134) Tryz.underlying79 n1;have m2:=ia (ip Tryz.underlying134) Tryz.underlying79 n2;generalize eZ A=NA at *
   generalize eZ B=NB at *
   clear n1 n2;have HAB:=Na hAB;clear hAB
   go_enter Tryz.func188,Tryz.ntmps188;go_wp2_with fail;refine (LI.out _).mono ?_;rintro e w1 ⟨rfl,rfl⟩;go_wp2_with fail;refine (LA.out _).mono ?_;rintro e w1 ⟨rfl,rfl⟩;go_wp2_with fail;refine (LF.out _).mono ?_;rintro e w1 ⟨rfl,rfl⟩;clear t1 LI LA LF;go_wp2_with fail
   go_loopg [4,5] (4) (fun gk fv qv wr=>∃ (f n q:Nat),n=gk∧q+n=4∧fv=.float .f64 f∧qv=.int .i64 q∧Hid (QW n f)∧Hid ((kE f n).1=F)∧Hid ((kE f n).2+q=K)∧w=wr)
   case atStart=>exact ⟨f0,4,0,rfl,rfl,rfl,rfl,HQ.out,H1.out,H2.out,rfl⟩
   case round =>
    clear HQ H1 H2;obtain ⟨f,n,q,rfl,hqn,rfl,rfl,HQ,H1,H2,rfl⟩:=hrel
    cases hg:jx f bo with
    | true =>
      have t1:(FloatKind.f64.format.order f 4598175219545276416 == some .gt || FloatKind.f64.format.order f 4598175219545276416 == some .eq)=true:=hg
      obtain ⟨m,rfl,s1,hq2,e1,e2⟩:=Ar (by omega) HQ.out hg
      have rf:=bI .sub .f64 134 (show floatBits .sub .f64 f 4598175219545276416=some (bg f bo) from s1)
      have H1':Hid ((kE (bg f bo) m).1=F):=by rw [Hid,← e1];exact H1.out
      have H2':Hid ((kE (bg f bo) m).2+(q+1)=K):=by have:=H2.out;rw [e2] at this;rw [Hid];omega
      have HQ':=Na hq2;clear hg s1 hq2 e1 e2 H1 H2 HQ LS1 LS2 rq rc rs m1 m2 HAB;generalize bg f bo=f' at *
      go_wp2_with fail
      go_roundg m
      case measure=>omega
      case rel=>exact ⟨f',m,q+1,rfl,by omega,rfl,by go_num,HQ'.out,H1'.out,H2'.out,rfl⟩
    | false =>
      have t1:(FloatKind.f64.format.order f 4598175219545276416 == some .gt || FloatKind.f64.format.order f 4598175219545276416 == some .eq)=false:=hg
      have e1:=yZ (n:=n) hg;have k1:=H1.out;have k2:=H2.out;rw [e1] at k1 k2;have k3:f=F:=k1;have k4:q=K:=by have:0+q=K:=k2;omega
      subst k3 k4;clear H1 H2 HQ hg e1 k1 k2;have hAB:=HAB.out;have hq:q=0∨q=1∨q=2∨q=3∨q=4:=by omega
      clear hqn H4;go_wp2_with fail;refine (LS1.out _).mono ?_;rintro e w1 ⟨rfl,rfl⟩;go_wp2_with fail;refine (LS2.out _).mono ?_;rintro e w1 ⟨rfl,rfl⟩;clear LS1 LS2 rq t1
      rcases hq with rfl | rfl | rfl | rfl | rfl
      · rw [Dl (.inl rfl)] at hAB
        injection hAB with e1 e2
        subst e1 e2;go_wp2_with fail;go_ret;exact ⟨rfl,rfl⟩
      · rw [KP] at hAB
        injection hAB with e1 e2
        rw [e1] at rs;subst e2;clear rc e1;go_wp2_with fail;go_ret;exact ⟨rfl,rfl⟩
      · rw [Lr] at hAB
        injection hAB with e1 e2
        rw [e1] at rc;rw [e2] at rs;clear e1 e2;go_wp2_with fail;go_ret;exact ⟨rfl,rfl⟩
      · rw [Lf] at hAB
        injection hAB with e1 e2
        rw [e2] at rc;subst e1;clear rs e2;go_wp2_with fail;go_ret;exact ⟨rfl,rfl⟩
      · rw [Dl (.inr rfl)] at hAB
        injection hAB with e1 e2
        subst e1 e2;go_wp2_with fail;go_ret;exact ⟨rfl,rfl⟩
open Go.RowKit Ieee
def ot (xs:List (Nat × Nat)):List Value:=xs.map fun x=>Value.complex .f32 x.1 x.2
theorem ky (xs:List (Nat × Nat)):(ot xs).length=xs.length:=by simp [ot]
theorem Do {xs:List (Nat × Nat)} {j:Nat} (h:j<xs.length):(ot xs)[j]? = some (.complex .f32 (xs.getD j (0,0)).1 (xs.getD j (0,0)).2):=by simp [ot,List.getD,List.getElem?_eq_getElem h]
theorem E8 (xs ys:List (Nat × Nat)):ot (xs ++ ys)=ot xs ++ ot ys:=by simp [ot]
theorem IB {x:Nat} (h:ja x):single.sub x x=some 0:=by
 obtain ⟨s,m,p,e⟩:=h;have hl:=(aZ jw e).1;have hl2:=jw.low;obtain ⟨D,d1,d2⟩:=nO (s:=s) (m:=m) (i:=p) (n:=m) (j:=p) (by omega) (by omega) (Nat.le_refl _)
 have hD:D=0:=by
  rcases Nat.eq_zero_or_pos D with h | h
  · exact h
  · exfalso
    have:0<vl D (min p p):=Nat.mul_pos h (Nat.two_pow_pos _);omega
 subst hD;unfold Format.sub;rw [e]
 show ((Datum.number s m p).sum (.number (!s) m p)).map single.write=_
 rw [d1]
 rfl
theorem JT:(single.order 0 0 == some .eq)=true:=by decide +kernel
theorem CP {x:Nat} (h:iN x=true):ja x:=by
 have hs:floatBits .sub .f32 x x=single.sub x x:=rfl;unfold iN at h;rw [hs] at h;unfold Format.sub at h
 cases hr:single.read x with
 | number s m p=>exact ⟨s,m,p,hr⟩
 | infinity s=>rw [hr] at h;cases s <;> simp [Datum.opposite,Datum.sum] at h
 | nan s f=>rw [hr] at h;simp [Datum.sum] at h
theorem qJ (w:World) (x:Nat) (h:ja x) :
 Calls Tryz.prog 78 #[.float .f32 x] w fun e w'=>e=.returned (.bool true)∧w=w':=by
 have r1:=bI .sub .f32 79 (show floatBits .sub .f32 x x=some 0 from IB h)
 have t1:(FloatKind.f32.format.order 0 0 == some .eq)=true:=JT;clear h
 go_enter Tryz.func78,Tryz.ntmps78;go_wp2_with fail;go_ret;exact ⟨rfl,rfl⟩
theorem vn (w:World) (x y:Nat) (hx:ja x) (hy:ja y) :
 Calls Tryz.prog 239 #[.complex .f32 x y] w fun e w'=>e=.returned (.bool true)∧w=w':=by
 have L1:=Na (fun v=>qJ v x hx)
 have L2:=Na (fun v=>qJ v y hy)
 clear hx hy
 go_enter Tryz.func239,Tryz.ntmps239;go_wp2_with fail;refine (L1.out _).mono ?_;rintro e w1 ⟨rfl,rfl⟩;go_wp2_with fail;refine (L2.out _).mono ?_;rintro e w1 ⟨rfl,rfl⟩;go_wp2_with fail;go_ret;exact ⟨rfl,rfl⟩
theorem Cn (args:Array Value) (w:World):(callFunc 238 args).run Tryz.prog w=.ok (.enter 238 args) w:=by kernel_rfl
theorem Is (w:World) (x y:Nat) (hx:ja x) (hy:ja y) :
 Calls Tryz.prog 238 #[.complex .f32 x y] w fun e w'=>e=.returned (.bool false)∧w=w':=by
 have L1:=Na (fun v=>vn v x y hx hy)
 clear hx hy
 go_enter Tryz.func238,Tryz.ntmps238;go_wp2_with fail;refine (L1.out _).mono ?_;rintro e w1 ⟨rfl,rfl⟩;go_wp2_with fail;go_ret;exact ⟨rfl,rfl⟩
theorem Br (K:Nat) (caps:Array Value) (hK:∀ (args:Array Value) (w:World),(callFunc K args).run Tryz.prog w=.ok (.enter K args) w)
 (w:World) (a:Option Addr) (c:Nat) (vs:List Value) (p:Nat→Bool) (h:Rd w w.heap.size a vs) (hl:vs.length≤1152921504606846976)
 (hcall:∀ w' j v,Below w.heap.size w w'→vs[j]? = some v→Calls Tryz.prog K (#[v] ++ caps) w' fun e w''=>e=.returned (.bool (p j))∧Below w'.heap.size w' w'') :
 Calls Tryz.prog 253 #[.slice a vs.length c,.func (.func K) #[] caps] w fun e w'=>e=.returned (.int .i64 (fm p vs.length))∧Below w.heap.size w w':=by
 have Hc:=Na hcall;clear hcall
 go_enter Tryz.func253,Tryz.ntmps253
 go_wp2
 go_loopw [8] (fun i wr=>∃ k:Nat,k≤vs.length∧i=.int .i64 k∧Hid (∀ j,j<k→p j=false)∧Below w.heap.size w wr) (fun i _=>vs.length - (intOf i).toNat)
 case atStart=>exact ⟨0,Nat.zero_le _,rfl,fun j hj=>by omega,Below.refl _ _⟩
 case round =>
  obtain ⟨k,hk,rfl,ha,hw⟩:=hrel
  by_cases hlt:k<vs.length
  · obtain ⟨b,o,v,rfl,hbb,hck,hx⟩:=(h.below hw (Nat.le_refl _)).getV hlt
    clear h;have HC:=Na (Hc.out wr k v hw hx.out)
    cases hin:p k with
    | false =>
      have hF:Hid (∀ j,j<k+1→p j=false):=fun j hj=>by
       by_cases e:j=k
       · rw [e,hin]
       · exact ha.out j (by omega)
      rw [hin] at HC;go_wp2_with fail;refine HC.out.mono ?_;rintro e w2 ⟨rfl,hb2⟩;have hw2:=aa hw hb2;go_wp2_with fail;go_roundw
      case rel=>exact ⟨k+1,by omega,by go_num,hF,hw2⟩
      case measure=>simp [intOf];omega
    | true =>
      have hF:Hid (fm p vs.length=k):=jm hlt hin ha.out;rw [hin] at HC;go_wp2_with fail;refine HC.out.mono ?_;rintro e w2 ⟨rfl,hb2⟩;have hw2:=aa hw hb2;go_wp2_with fail;go_ret;exact ⟨ce hF.out.symm,hw2⟩
  · have:k=vs.length:=by omega
    subst this;have hF:Hid (fm p vs.length = -1):=jn ha.out
    go_wp2
    go_ret;exact ⟨ce hF.out.symm,hw⟩
theorem vU (K:Nat) (caps:Array Value) (hK:∀ (args:Array Value) (w:World),(callFunc K args).run Tryz.prog w=.ok (.enter K args) w)
 (w:World) (a:Option Addr) (c:Nat) (vs:List Value) (p:Nat→Bool) (h:Rd w w.heap.size a vs) (hl:vs.length≤1152921504606846976)
 (hcall:∀ w' j v,Below w.heap.size w w'→vs[j]? = some v→Calls Tryz.prog K (#[v] ++ caps) w' fun e w''=>e=.returned (.bool (p j))∧Below w'.heap.size w' w'') :
 Calls Tryz.prog 237 #[.slice a vs.length c,.func (.func K) #[] caps] w fun e w'=>e=.returned (.bool (iz p vs.length))∧Below w.heap.size w w':=by
 have HI:=Na (Br K caps hK w a c vs p h hl hcall);clear hcall h hK
 go_enter Tryz.func237,Tryz.ntmps237;go_wp2_with fail;refine HI.out.mono ?_;rintro e w1 ⟨rfl,hb⟩;go_wp2_with fail;go_ret;exact ⟨rfl,hb⟩
theorem ti (w:World) (n:Nat) (h1:1≤n) (h:n≤64) :
 Calls Tryz.prog 187 #[.int .i64 n] w fun e w'=>e=.returned (.bool true)∧w=w':=by
 have i1:(1:Int)≤(n:Int):=by omega
 have i2:(n:Int)≤64:=by omega
 have i1d:decide ((1:Int)≤(n:Int))=true:=decide_eq_true i1;have i2d:decide ((n:Int)≤64)=true:=decide_eq_true i2
 go_enter Tryz.func187,Tryz.ntmps187;go_wp2_with fail;go_ret;exact ⟨rfl,rfl⟩
theorem GP {p:Nat→Bool} {n:Nat} (h:∀ k,k<n→p k=false):iz p n=false:=by
 rw [← Bool.not_eq_true];intro e;have:=(CM (p:=p) (n:=n)).2 h;rw [this] at e;cases e
theorem ym (w:World) (a:Option Addr) (c:Nat) (xs:List (Nat × Nat)) (h:Rd w w.heap.size a (ot xs)) (h1:1≤xs.length) (h16:xs.length≤16) (hb1:∀ x∈xs.map (·.1),Bd single x 18) (hb2:∀ x∈xs.map (·.2),Bd single x 18) :
 Calls Tryz.prog 189 #[.slice a xs.length c] w fun e w'=>e=.returned (.tuple #[.complex .f32 (iO (xs.map (·.1)) xs.length) (iO (xs.map (·.2)) xs.length),.bool true])∧Below w.heap.size w w':=by
 have LL:=Na (fun v=>ti v xs.length h1 (by omega))
 have LC:=vU 238 #[] Cn w a c (ot xs) (fun _=>false) h (by rw [ky];omega) (fun w' j v _ hv=>by
  have hj:j<xs.length:=by have:=(List.getElem?_eq_some_iff.1 hv).1;rwa [ky] at this
  rw [Do hj] at hv;injection hv with hv
  subst hv;have hm:xs.getD j (0,0)∈xs:=by rw [List.getD_eq_getElem?_getD,List.getElem?_eq_getElem hj];exact List.getElem_mem hj
  exact (Is w' _ _ (hb1 _ (List.mem_map.2 ⟨_,hm,rfl⟩)).num (hb2 _ (List.mem_map.2 ⟨_,hm,rfl⟩)).num).mono fun e w'' ⟨h1,h2⟩=>⟨h1,by subst h2;exact Below.refl _ _⟩)
 rw [ky,GP (fun _ _=>rfl)] at LC
 have LC:=Na LC;have S1:=Na (fun k (hk:k<16)=>(ue hb1 k (by omega)).2)
 have S2:=Na (fun k (hk:k<16)=>(ue hb2 k (by omega)).2)
 obtain ⟨q1,d1⟩:=ql (n:=xs.length) hb1 h1 (by omega) (by omega)
 obtain ⟨q2,d2⟩:=ql (n:=xs.length) hb2 h1 (by omega) (by omega)
 have LF:=Na (fun v=>vn v _ _ d1.num d2.num)
 have G1:Hid (∀ k,k<xs.length→(xs.map (·.1)).getD k 0=(xs.getD k (0,0)).1):=fun k hk=>by simp [List.getD,List.getElem?_eq_getElem hk]
 have G2:Hid (∀ k,k<xs.length→(xs.map (·.2)).getD k 0=(xs.getD k (0,0)).2):=fun k hk=>by simp [List.getD,List.getElem?_eq_getElem hk]
 have Z1:Hid (dZ (xs.map (·.1)) 0=0):=rfl;have Z2:Hid (dZ (xs.map (·.2)) 0=0):=rfl;have rq1:=bI .quo .f32 79 (show floatBits .quo .f32 (dZ (xs.map (·.1)) xs.length) (mf (xs.length:Int))=some (iO (xs.map (·.1)) xs.length) from q1)
 have rq2:=bI .quo .f32 79 (show floatBits .quo .f32 (dZ (xs.map (·.2)) xs.length) (mf (xs.length:Int))=some (iO (xs.map (·.2)) xs.length) from q2)
 have eW:mf (xs.length:Int)=floatOfInt .f32 (xs.length:Int):=rfl;rw [eW] at rq1 rq2;have HR:=Na h;clear hb1 hb2 q1 q2 d1 d2 eW h;generalize iO (xs.map (·.1)) xs.length=M1 at *
 generalize iO (xs.map (·.2)) xs.length=M2 at *
 go_enter Tryz.func189,Tryz.ntmps189;go_wp2_with fail;refine (LL.out _).mono ?_;rintro e w1 ⟨rfl,rfl⟩;go_wp2_with fail;refine LC.out.mono ?_;rintro e w1 ⟨rfl,hbl⟩;have HB:=Na hbl;have HRR:=Na (HR.out.to hbl);clear HR hbl LL LC;go_wp2_with fail
 go_loopw [4,5,20] (fun rv mv iv wr=>∃ k:Nat,k≤xs.length∧iv=.int .i64 k∧rv=.float .f32 (dZ (xs.map (·.1)) k)∧mv=.float .f32 (dZ (xs.map (·.2)) k)∧wr=w1) (fun _ _ iv _=>xs.length - (intOf iv).toNat)
 case atStart=>exact ⟨0,Nat.zero_le _,rfl,by rw [Z1.out],by rw [Z2.out],by first | trivial | rfl⟩
 case round =>
  obtain ⟨k,hk,rfl,rfl,rfl,rfl⟩:=hrel
  by_cases hlt:k<xs.length
  · obtain ⟨b,o,v,rfl,hbb,hck,hx⟩:=HRR.out.getV (k:=k) (by rw [ky];exact hlt)
    have hv:=hx.out;rw [Do hlt] at hv;injection hv with hv
    subst hv;have a1:=S1.out k (by omega)
    have a2:=S2.out k (by omega)
    rw [G1.out k hlt] at a1;rw [G2.out k hlt] at a2;have r1:=bI .add .f32 79 (show floatBits .add .f32 (dZ (xs.map (·.1)) k) (xs.getD k (0,0)).1=some (dZ (xs.map (·.1)) (k+1)) from a1)
    have r2:=bI .add .f32 79 (show floatBits .add .f32 (dZ (xs.map (·.2)) k) (xs.getD k (0,0)).2=some (dZ (xs.map (·.2)) (k+1)) from a2)
    obtain ⟨n1,hn1⟩:∃ n,n=dZ (xs.map (·.1)) (k+1):=⟨_,rfl⟩;obtain ⟨n2,hn2⟩:∃ n,n=dZ (xs.map (·.2)) (k+1):=⟨_,rfl⟩;rw [← hn1] at r1;rw [← hn2] at r2;have N1:=Na hn1;have N2:=Na hn2;clear a1 a2 hx hn1 hn2;generalize (xs.getD k (0,0)).1=x1 at *
    generalize (xs.getD k (0,0)).2=x2 at *
    generalize dZ (xs.map (·.1)) k=s1 at *
    generalize dZ (xs.map (·.2)) k=s2 at *
    go_wp2_with fail;go_roundw
    case rel=>exact ⟨k+1,by omega,by go_num,by rw [N1.out],by rw [N2.out],by first | trivial | rfl⟩
    case measure=>simp [intOf];omega
  · obtain rfl:k=xs.length:=by omega
    generalize dZ (xs.map (·.1)) xs.length=s1 at *
    generalize dZ (xs.map (·.2)) xs.length=s2 at *
    go_wp2_with fail;refine (LF.out _).mono ?_;rintro e w2 ⟨rfl,rfl⟩;go_wp2_with fail
    go_ret2
    exact ⟨rfl,HB.out⟩
end Go.Proofs.YtbknhgapjjaelaaGreatDoor
