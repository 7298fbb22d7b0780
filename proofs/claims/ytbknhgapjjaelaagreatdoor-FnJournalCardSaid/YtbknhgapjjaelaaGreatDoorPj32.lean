/-
  Part 32 of what the proof stands on: lemmas and contracts, each with its conditions ahead of the colon.
-/
import Derived.Test.YtbknhgapjjaelaaGreatDoorPj01
import Derived.Deep.RegionHeld3
import Derived.Deep.DeepCutAuto
import Derived.Test.YtbknhgapjjaelaaGreatDoorPj05
import Derived.Test.YtbknhgapjjaelaaGreatDoorPj07
import Derived.Test.YtbknhgapjjaelaaGreatDoorPj16
import Derived.Test.YtbknhgapjjaelaaGreatDoorPj20
import Derived.Test.YtbknhgapjjaelaaGreatDoorPj22
import Derived.Test.YtbknhgapjjaelaaGreatDoorPj28
import Derived.Test.YtbknhgapjjaelaaGreatDoorPj31
set_option maxRecDepth 100000
set_option maxHeartbeats 16000000
namespace Go.Proofs.YtbknhgapjjaelaaGreatDoor
set_option linter.unusedVariables false
set_option linter.unusedSimpArgs false
open Go.RowKit Ieee
def pc (xs:List (Nat × Nat)):List Value:=xs.map fun x=>Value.complex .f32 x.1 x.2
theorem kP (xs:List (Nat × Nat)):(pc xs).length=xs.length:=by simp [pc]
theorem DI {xs:List (Nat × Nat)} {j:Nat} (h:j<xs.length):(pc xs)[j]? = some (.complex .f32 (xs.getD j (0,0)).1 (xs.getD j (0,0)).2):=by simp [pc,List.getD,List.getElem?_eq_getElem h]
theorem EP (xs ys:List (Nat × Nat)):pc (xs ++ ys)=pc xs ++ pc ys:=by simp [pc]
theorem I9 {x:Nat} (h:jd x):single.sub x x=some 0:=by
 obtain ⟨s,m,p,e⟩:=h;have hl:=(bf jx e).1;have hl2:=jx.low;obtain ⟨D,d1,d2⟩:=oN (s:=s) (m:=m) (i:=p) (n:=m) (j:=p) (by omega) (by omega) (Nat.le_refl _)
 have hD:D=0:=by
  rcases Nat.eq_zero_or_pos D with h | h
  · exact h
  · exfalso
    have:0<vl D (min p p):=Nat.mul_pos h (Nat.two_pow_pos _);omega
 subst hD;unfold Format.sub;rw [e]
 show ((Datum.number s m p).sum (.number (!s) m p)).map single.write=_
 rw [d1]
 rfl
theorem Lr:(single.order 0 0 == some .eq)=true:=by decide +kernel
theorem DL {x:Nat} (h:jH x=true):jd x:=by
 have hs:floatBits .sub .f32 x x=single.sub x x:=rfl;unfold jH at h;rw [hs] at h;unfold Format.sub at h
 cases hr:single.read x with
 | number s m p=>exact ⟨s,m,p,hr⟩
 | infinity s=>rw [hr] at h;cases s <;> simp [Datum.opposite,Datum.sum] at h
 | nan s f=>rw [hr] at h;simp [Datum.sum] at h
theorem qr (w:World) (x:Nat) (h:jd x) :
 Calls Tryz.prog 78 #[.float .f32 x] w fun e w'=>e=.returned (.bool true)∧w=w':=by
 have r1:=bR .sub .f32 79 (show floatBits .sub .f32 x x=some 0 from I9 h)
 have t1:(FloatKind.f32.format.order 0 0 == some .eq)=true:=Lr;clear h
 go_enter Tryz.func78,Tryz.ntmps78;go_wp2_with fail;go_ret;exact ⟨rfl,rfl⟩
theorem uX (w:World) (x y:Nat) (hx:jd x) (hy:jd y) :
 Calls Tryz.prog 239 #[.complex .f32 x y] w fun e w'=>e=.returned (.bool true)∧w=w':=by
 have L1:=Oi (fun v=>qr v x hx)
 have L2:=Oi (fun v=>qr v y hy)
 clear hx hy
 go_enter Tryz.func239,Tryz.ntmps239;go_wp2_with fail;refine (L1.out _).mono ?_;rintro e w1 ⟨rfl,rfl⟩;go_wp2_with fail;refine (L2.out _).mono ?_;rintro e w1 ⟨rfl,rfl⟩;go_wp2_with fail;go_ret;exact ⟨rfl,rfl⟩
theorem CI (args:Array Value) (w:World):(callFunc 238 args).run Tryz.prog w=.ok (.enter 238 args) w:=by kernel_rfl
theorem Ik (w:World) (x y:Nat) (hx:jd x) (hy:jd y) :
 Calls Tryz.prog 238 #[.complex .f32 x y] w fun e w'=>e=.returned (.bool false)∧w=w':=by
 have L1:=Oi (fun v=>uX v x y hx hy)
 clear hx hy
 go_enter Tryz.func238,Tryz.ntmps238;go_wp2_with fail;refine (L1.out _).mono ?_;rintro e w1 ⟨rfl,rfl⟩;go_wp2_with fail;go_ret;exact ⟨rfl,rfl⟩
theorem CM (K:Nat) (caps:Array Value) (hK:∀ (args:Array Value) (w:World),(callFunc K args).run Tryz.prog w=.ok (.enter K args) w)
 (w:World) (a:Option Addr) (c:Nat) (vs:List Value) (p:Nat→Bool) (h:Rd w w.heap.size a vs) (hl:vs.length≤1152921504606846976)
 (hcall:∀ w' j v,Below w.heap.size w w'→vs[j]? = some v→Calls Tryz.prog K (#[v] ++ caps) w' fun e w''=>e=.returned (.bool (p j))∧Below w'.heap.size w' w'') :
 Calls Tryz.prog 253 #[.slice a vs.length c,.func (.func K) #[] caps] w fun e w'=>e=.returned (.int .i64 (fq p vs.length))∧Below w.heap.size w w':=by
 have Hc:=Oi hcall;clear hcall
 go_enter Tryz.func253,Tryz.ntmps253
 go_wp2
 go_loopw [8] (fun i wr=>∃ k:Nat,k≤vs.length∧i=.int .i64 k∧Hid (∀ j,j<k→p j=false)∧Below w.heap.size w wr) (fun i _=>vs.length - (intOf i).toNat)
 case atStart=>exact ⟨0,Nat.zero_le _,rfl,fun j hj=>by omega,Below.refl _ _⟩
 case round =>
  obtain ⟨k,hk,rfl,ha,hw⟩:=hrel
  by_cases hlt:k<vs.length
  · obtain ⟨b,o,v,rfl,hbb,hck,hx⟩:=(h.below hw (Nat.le_refl _)).getV hlt
    clear h;have HC:=Oi (Hc.out wr k v hw hx.out)
    cases hin:p k with
    | false =>
      have hF:Hid (∀ j,j<k+1→p j=false):=fun j hj=>by
       by_cases e:j=k
       · rw [e,hin]
       · exact ha.out j (by omega)
      rw [hin] at HC;go_wp2_with fail;refine HC.out.mono ?_;rintro e w2 ⟨rfl,hb2⟩;have hw2:=aa hw hb2;go_wp2_with fail;go_roundw
      case rel=>exact ⟨k+1,by omega,by go_num,hF,hw2⟩
      case measure=>simp [intOf];omega
    | true =>
      have hF:Hid (fq p vs.length=k):=ju hlt hin ha.out;rw [hin] at HC;go_wp2_with fail;refine HC.out.mono ?_;rintro e w2 ⟨rfl,hb2⟩;have hw2:=aa hw hb2;go_wp2_with fail;go_ret;exact ⟨bY hF.out.symm,hw2⟩
  · have:k=vs.length:=by omega
    subst this;have hF:Hid (fq p vs.length = -1):=jw ha.out
    go_wp2
    go_ret;exact ⟨bY hF.out.symm,hw⟩
theorem wH (K:Nat) (caps:Array Value) (hK:∀ (args:Array Value) (w:World),(callFunc K args).run Tryz.prog w=.ok (.enter K args) w)
 (w:World) (a:Option Addr) (c:Nat) (vs:List Value) (p:Nat→Bool) (h:Rd w w.heap.size a vs) (hl:vs.length≤1152921504606846976)
 (hcall:∀ w' j v,Below w.heap.size w w'→vs[j]? = some v→Calls Tryz.prog K (#[v] ++ caps) w' fun e w''=>e=.returned (.bool (p j))∧Below w'.heap.size w' w'') :
 Calls Tryz.prog 237 #[.slice a vs.length c,.func (.func K) #[] caps] w fun e w'=>e=.returned (.bool (iA p vs.length))∧Below w.heap.size w w':=by
 have HI:=Oi (CM K caps hK w a c vs p h hl hcall);clear hcall h hK
 go_enter Tryz.func237,Tryz.ntmps237;go_wp2_with fail;refine HI.out.mono ?_;rintro e w1 ⟨rfl,hb⟩;go_wp2_with fail;go_ret;exact ⟨rfl,hb⟩
theorem tB (w:World) (n:Nat) (h1:1≤n) (h:n≤64) :
 Calls Tryz.prog 187 #[.int .i64 n] w fun e w'=>e=.returned (.bool true)∧w=w':=by
 have i1:(1:Int)≤(n:Int):=by omega
 have i2:(n:Int)≤64:=by omega
 have i1d:decide ((1:Int)≤(n:Int))=true:=decide_eq_true i1;have i2d:decide ((n:Int)≤64)=true:=decide_eq_true i2
 go_enter Tryz.func187,Tryz.ntmps187;go_wp2_with fail;go_ret;exact ⟨rfl,rfl⟩
theorem GD {p:Nat→Bool} {n:Nat} (h:∀ k,k<n→p k=false):iA p n=false:=by
 rw [← Bool.not_eq_true];intro e;have:=(DE (p:=p) (n:=n)).2 h;rw [this] at e;cases e
theorem zc (w:World) (a:Option Addr) (c:Nat) (xs:List (Nat × Nat)) (h:Rd w w.heap.size a (pc xs)) (h1:1≤xs.length) (h16:xs.length≤16) (hb1:∀ x∈xs.map (·.1),Bd single x 18) (hb2:∀ x∈xs.map (·.2),Bd single x 18) :
 Calls Tryz.prog 189 #[.slice a xs.length c] w fun e w'=>e=.returned (.tuple #[.complex .f32 (iW (xs.map (·.1)) xs.length) (iW (xs.map (·.2)) xs.length),.bool true])∧Below w.heap.size w w':=by
 have LL:=Oi (fun v=>tB v xs.length h1 (by omega))
 have LC:=wH 238 #[] CI w a c (pc xs) (fun _=>false) h (by rw [kP];omega) (fun w' j v _ hv=>by
  have hj:j<xs.length:=by have:=(List.getElem?_eq_some_iff.1 hv).1;rwa [kP] at this
  rw [DI hj] at hv;injection hv with hv
  subst hv;have hm:xs.getD j (0,0)∈xs:=by rw [List.getD_eq_getElem?_getD,List.getElem?_eq_getElem hj];exact List.getElem_mem hj
  exact (Ik w' _ _ (hb1 _ (List.mem_map.2 ⟨_,hm,rfl⟩)).num (hb2 _ (List.mem_map.2 ⟨_,hm,rfl⟩)).num).mono fun e w'' ⟨h1,h2⟩=>⟨h1,by subst h2;exact Below.refl _ _⟩)
 rw [kP,GD (fun _ _=>rfl)] at LC
 have LC:=Oi LC;have S1:=Oi (fun k (hk:k<16)=>(uD hb1 k (by omega)).2)
 have S2:=Oi (fun k (hk:k<16)=>(uD hb2 k (by omega)).2)
 obtain ⟨q1,d1⟩:=qD (n:=xs.length) hb1 h1 (by omega) (by omega)
 obtain ⟨q2,d2⟩:=qD (n:=xs.length) hb2 h1 (by omega) (by omega)
 have LF:=Oi (fun v=>uX v _ _ d1.num d2.num)
 have G1:Hid (∀ k,k<xs.length→(xs.map (·.1)).getD k 0=(xs.getD k (0,0)).1):=fun k hk=>by simp [List.getD,List.getElem?_eq_getElem hk]
 have G2:Hid (∀ k,k<xs.length→(xs.map (·.2)).getD k 0=(xs.getD k (0,0)).2):=fun k hk=>by simp [List.getD,List.getElem?_eq_getElem hk]
 have Z1:Hid (eh (xs.map (·.1)) 0=0):=rfl;have Z2:Hid (eh (xs.map (·.2)) 0=0):=rfl;have rq1:=bR .quo .f32 79 (show floatBits .quo .f32 (eh (xs.map (·.1)) xs.length) (mM (xs.length:Int))=some (iW (xs.map (·.1)) xs.length) from q1)
 have rq2:=bR .quo .f32 79 (show floatBits .quo .f32 (eh (xs.map (·.2)) xs.length) (mM (xs.length:Int))=some (iW (xs.map (·.2)) xs.length) from q2)
 have eW:mM (xs.length:Int)=floatOfInt .f32 (xs.length:Int):=rfl;rw [eW] at rq1 rq2;have HR:=Oi h;clear hb1 hb2 q1 q2 d1 d2 eW h;generalize iW (xs.map (·.1)) xs.length=M1 at *
 generalize iW (xs.map (·.2)) xs.length=M2 at *
 go_enter Tryz.func189,Tryz.ntmps189;go_wp2_with fail;refine (LL.out _).mono ?_;rintro e w1 ⟨rfl,rfl⟩;go_wp2_with fail;refine LC.out.mono ?_;rintro e w1 ⟨rfl,hbl⟩;have HB:=Oi hbl;have HRR:=Oi (HR.out.to hbl);clear HR hbl LL LC;go_wp2_with fail
 go_loopw [4,5,20] (fun rv mv iv wr=>∃ k:Nat,k≤xs.length∧iv=.int .i64 k∧rv=.float .f32 (eh (xs.map (·.1)) k)∧mv=.float .f32 (eh (xs.map (·.2)) k)∧wr=w1) (fun _ _ iv _=>xs.length - (intOf iv).toNat)
 case atStart=>exact ⟨0,Nat.zero_le _,rfl,by rw [Z1.out],by rw [Z2.out],by first | trivial | rfl⟩
 case round =>
  obtain ⟨k,hk,rfl,rfl,rfl,rfl⟩:=hrel
  by_cases hlt:k<xs.length
  · obtain ⟨b,o,v,rfl,hbb,hck,hx⟩:=HRR.out.getV (k:=k) (by rw [kP];exact hlt)
    have hv:=hx.out;rw [DI hlt] at hv;injection hv with hv
    subst hv;have a1:=S1.out k (by omega)
    have a2:=S2.out k (by omega)
    rw [G1.out k hlt] at a1;rw [G2.out k hlt] at a2;have r1:=bR .add .f32 79 (show floatBits .add .f32 (eh (xs.map (·.1)) k) (xs.getD k (0,0)).1=some (eh (xs.map (·.1)) (k+1)) from a1)
    have r2:=bR .add .f32 79 (show floatBits .add .f32 (eh (xs.map (·.2)) k) (xs.getD k (0,0)).2=some (eh (xs.map (·.2)) (k+1)) from a2)
    obtain ⟨n1,hn1⟩:∃ n,n=eh (xs.map (·.1)) (k+1):=⟨_,rfl⟩;obtain ⟨n2,hn2⟩:∃ n,n=eh (xs.map (·.2)) (k+1):=⟨_,rfl⟩;rw [← hn1] at r1;rw [← hn2] at r2;have N1:=Oi hn1;have N2:=Oi hn2;clear a1 a2 hx hn1 hn2;generalize (xs.getD k (0,0)).1=x1 at *
    generalize (xs.getD k (0,0)).2=x2 at *
    generalize eh (xs.map (·.1)) k=s1 at *
    generalize eh (xs.map (·.2)) k=s2 at *
    go_wp2_with fail;go_roundw
    case rel=>exact ⟨k+1,by omega,by go_num,by rw [N1.out],by rw [N2.out],by first | trivial | rfl⟩
    case measure=>simp [intOf];omega
  · obtain rfl:k=xs.length:=by omega
    generalize eh (xs.map (·.1)) xs.length=s1 at *
    generalize eh (xs.map (·.2)) xs.length=s2 at *
    go_wp2_with fail;refine (LF.out _).mono ?_;rintro e w2 ⟨rfl,rfl⟩;go_wp2_with fail
    go_ret2
    exact ⟨rfl,HB.out⟩
open Go.RowKit Ieee
theorem yg (w:World) (x y:Nat) (hx:floatToFloatBits .f32 x .f64=some (aj x)) (hy:floatToFloatBits .f32 y .f64=some (aj y)) :
 Calls Tryz.prog 240 #[.complex .f32 x y] w fun e w'=>e=.returned (.tuple #[.float .f64 (aj x),.float .f64 (aj y)])∧w=w':=by
 have m1:=ij (iw Tryz.underlying79) Tryz.underlying134 hx;have m2:=ij (iw Tryz.underlying79) Tryz.underlying134 hy;generalize aj x=X at *
 generalize aj y=Y at *
 clear hx hy
 go_enter Tryz.func240,Tryz.ntmps240;go_wp2_with fail
 go_ret2
 exact ⟨rfl,rfl⟩
theorem JL (w:World) (x y:Nat) :
 Calls Tryz.prog 191 #[.complex .f32 x y] w fun e w'=>e=.returned (.complex .f32 x (jQ y))∧w=w':=by
 have rn:Op.unary UnOp.neg (.float .f32 y)=pure (.float .f32 (y ^^^ 2147483648)):=rfl
 go_enter Tryz.func191,Tryz.ntmps191;go_wp2_with fail;go_ret;exact ⟨rfl,rfl⟩
theorem Je (w:World) (a b c d ac bd ad bc u v:Nat) (h1:floatBits .mul .f64 a c=some ac) (h2:floatBits .mul .f64 b d=some bd) (h3:floatBits .mul .f64 a d=some ad) (h4:floatBits .mul .f64 b c=some bc) (h5:floatBits .sub .f64 ac bd=some u) (h6:floatBits .add .f64 ad bc=some v) :
 Calls Tryz.prog 241 #[.float .f64 a,.float .f64 b,.float .f64 c,.float .f64 d] w fun e w'=>e=.returned (.tuple #[.float .f64 u,.float .f64 v])∧w=w':=by
 have f1:=bR .mul .f64 134 h1;have f2:=bR .mul .f64 134 h2;have f3:=bR .mul .f64 134 h3;have f4:=bR .mul .f64 134 h4;have f5:=bR .sub .f64 134 h5;have f6:=bR .add .f64 134 h6;clear h1 h2 h3 h4 h5 h6
 go_enter Tryz.func241,Tryz.ntmps241;go_wp2_with fail
 go_ret2
 exact ⟨rfl,rfl⟩
theorem wS (w:World) (a b c d:Nat) (h:MulOk a b c d) :
 Calls Tryz.prog 190 #[.complex .f32 a b,.complex .f32 c d] w fun e w'=>e=.returned (.complex .f32 (qG a b c d) (jz a b c d))∧w=w':=by
 have LP1:=Oi (fun v=>yg v a b h.wa h.wb)
 have LP2:=Oi (fun v=>yg v c d h.wc h.wd)
 have LT:=Oi (fun w=>Je w _ _ _ _ _ _ _ _ _ _ h.ac h.bd h.ad h.bc h.u h.v)
 have m1:=ij (iw Tryz.underlying134) Tryz.underlying79 h.nu;have m2:=ij (iw Tryz.underlying134) Tryz.underlying79 h.nv;clear h;generalize qG a b c d=RE at *
 generalize jz a b c d=IM at *
 generalize bh (bo (aj a) (aj c)) (bo (aj b) (aj d))=u at *
 generalize iC (bo (aj a) (aj d)) (bo (aj b) (aj c))=v at *
 generalize aj a=wa at *
 generalize aj b=wb at *
 generalize aj c=wc at *
 generalize aj d=wd at *
 go_enter Tryz.func190,Tryz.ntmps190;go_wp2_with fail;refine (LP1.out _).mono ?_;rintro e w1 ⟨rfl,rfl⟩;go_wp2_with fail;refine (LP2.out _).mono ?_;rintro e w1 ⟨rfl,rfl⟩;go_wp2_with fail;refine (LT.out _).mono ?_;rintro e w1 ⟨rfl,rfl⟩;go_wp2_with fail;go_ret;exact ⟨rfl,rfl⟩
def iU:Nat:=1040187392
theorem Lx:Bd single iU 0:=by
 refine ⟨false,8388608,-26,by decide +kernel,?_⟩
 have h1:=dg (m:=1) (k:=26) (p:=-26) (q:=((0:Nat):Int)) (by rw [iD];omega) (by omega)
 rw [h1];exact kE (by decide)
theorem I5 (d:Datum):single.write d<4294967296:=by
 have:=single.write_lt d;have hw:2 ^ single.width=4294967296:=by decide
 rwa [hw] at this
theorem rA (d:Datum):double.write d<18446744073709551616:=by
 have:=double.write_lt d;have hw:2 ^ double.width=18446744073709551616:=by decide
 rwa [hw] at this
theorem pI {x:Nat} (h:jd x):Bd single (bx (aj x)).1 18∧Bd single (bx (aj x)).2 18:=IG (GF (rA _) (qL h).2)
theorem xq {xs:List Nat} (h:∀ x∈xs,jd x):∀ y∈(dX xs).map (·.1),Bd single y 18:=fun y hy=>by
 obtain ⟨p,hp,rfl⟩:=List.mem_map.1 hy;obtain ⟨x,hx,rfl⟩:=List.mem_map.1 hp;exact (pI (h x hx)).1
theorem xp {xs:List Nat} (h:∀ x∈xs,jd x):∀ y∈(dX xs).map (·.2),Bd single y 18:=fun y hy=>by
 obtain ⟨p,hp,rfl⟩:=List.mem_map.1 hy;obtain ⟨x,hx,rfl⟩:=List.mem_map.1 hp;exact (pI (h x hx)).2
theorem kK (xs:List Nat):(dX xs).length=xs.length:=by simp [dX]
structure NearOk (xs:List Nat) (x:Nat):Prop where
 mul:MulOk (kY xs) (kX xs) (bx (aj x)).1 (jQ (bx (aj x)).2)
 by_:floatBits .mul .f32 iU (jz (kY xs) (kX xs) (bx (aj x)).1 (jQ (bx (aj x)).2))=some (uC iU (jz (kY xs) (kX xs) (bx (aj x)).1 (jQ (bx (aj x)).2)))
 add:floatBits .add .f32 x (uC iU (jz (kY xs) (kX xs) (bx (aj x)).1 (jQ (bx (aj x)).2)))=some (ph iU xs x)
theorem D8 {xs:List Nat} (h:∀ x∈xs,jd x) (h1:1≤xs.length) (h16:xs.length≤16) {x:Nat} (hx:x∈xs):NearOk xs x:=by
 obtain ⟨p1,p2⟩:=pI (h x hx);have m1:=(qD (n:=xs.length) (xq h) h1 (by omega) (by omega)).2
 have m2:=(qD (n:=xs.length) (xp h) h1 (by omega) (by omega)).2
 obtain ⟨k1,k2,_⟩:=Nz (k:=35) (l:=18) (by omega) (m1.mono (by omega)) (m2.mono (by omega)) p1 (Mk p2)
 obtain ⟨r,e,b⟩:=pO (AW (k:=0+54) (by omega)) Lx k2
 have hr:uC iU (jz (kY xs) (kX xs) (bx (aj x)).1 (jQ (bx (aj x)).2))=r:=by unfold uC;exact (congrArg (Option.getD · 0) e).trans rfl
 refine ⟨k1,by rw [hr];exact e,?_⟩
 exact MH (h x hx) (by rw [hr];exact b.num)
theorem MF (xs:List Nat) (x:Nat) (h:∃ r,single.add x (uC iU (jz (kY xs) (kX xs) (bx (aj x)).1 (jQ (bx (aj x)).2)))=some r):ph iU xs x<4294967296:=by
 obtain ⟨r,e⟩:=h;have hr:ph iU xs x=r:=by unfold ph sk;rw [e];rfl
 unfold Format.add at e;rw [Option.map_eq_some_iff] at e;obtain ⟨d,_,e2⟩:=e;rw [hr,← e2];exact I5 d
theorem JF {xs:List Nat} (h:∀ x∈xs,jd x) (h1:1≤xs.length) (h16:xs.length≤16):∀ y∈iH iU xs,y<4294967296:=fun y hy=>by
 obtain ⟨x,hx,rfl⟩:=List.mem_map.1 hy;exact MF xs x ⟨_,(D8 h h1 h16 hx).add⟩
def jN (xs:List Nat) (k:Nat):List Nat:=(xs.take k).map (ph iU xs)
def je (xs:List Nat):Option (List Nat):=if jJ (iH iU xs) then some (iH iU xs) else none
theorem JZ:(Tryz.prog.info? 229).map (fun i=>(i.zero,i.size,i.bytes))=some (some (.complex .f32 0 0),1,8):=by kernel_rfl
theorem yM (w:World) (a:Option Addr) (c:Nat) (xs:List Nat) (hR:Rd w w.heap.size a (dx xs)) (h1:1≤xs.length) (h16:xs.length≤16) (hf:jJ xs=true) :
 Calls Tryz.prog 133 #[.slice a xs.length c,.float .f32 1040187392] w (zm w (je xs)):=by
 have hn:∀ x∈xs,jd x:=fun x hx=>DL (List.all_eq_true.1 hf x hx)
 have LL:=Oi (fun v=>tB v xs.length h1 (by omega))
 have LF:=Oi (fun v (hb:Below w.heap.size w v)=>mO v a c xs (hR.to hb) (by omega))
 rw [hf] at LF;have LB:=Oi (fun v=>qr v 1040187392 Lx.num)
 have LP:=Oi (fun v k (hk:k<xs.length)=>(have hm:xs.getD k 0∈xs:=by rw [List.getD_eq_getElem?_getD,List.getElem?_eq_getElem hk];exact List.getElem_mem hk
  FG v (aj (xs.getD k 0)) (rA _) (Nk (qL (hn _ hm)).2) (GF (rA _) (qL (hn _ hm)).2)))
 have CW:=Oi (fun k (hk:k<xs.length)=>(have hm:xs.getD k 0∈xs:=by rw [List.getD_eq_getElem?_getD,List.getElem?_eq_getElem hk];exact List.getElem_mem hk
  ij (iw Tryz.underlying79) Tryz.underlying134 (qL (hn _ hm)).1))
 have NK:=Oi (fun k (hk:k<xs.length)=>(have hm:xs.getD k 0∈xs:=by rw [List.getD_eq_getElem?_getD,List.getElem?_eq_getElem hk];exact List.getElem_mem hk
  D8 hn h1 h16 hm))
 have LM:=Oi (fun v aR cR hRd=>zc v aR cR (dX xs) hRd (by rw [kK];exact h1) (by rw [kK];exact h16) (xq hn) (xp hn))
 rw [kK] at LM;have eM1:iW ((dX xs).map (·.1)) xs.length=kY xs:=rfl;have eM2:iW ((dX xs).map (·.2)) xs.length=kX xs:=rfl;rw [eM1,eM2] at LM;have HX:=Oi hR;have AT:Hid (∀ k,k<xs.length→dX (xs.take (k+1))=dX (xs.take k) ++ [bx (aj (xs.getD k 0))]):=fun k hk=>by
  unfold dX;rw [List.take_add_one,List.map_append,List.getElem?_eq_getElem hk,List.getD_eq_getElem?_getD,List.getElem?_eq_getElem hk];rfl
 have AF:Hid (∀ k,k<xs.length→jN xs (k+1)=jN xs k ++ [ph iU xs (xs.getD k 0)]):=fun k hk=>by
  unfold jN;rw [List.take_add_one,List.map_append,List.getElem?_eq_getElem hk,List.getD_eq_getElem?_getD,List.getElem?_eq_getElem hk];rfl
 have AG:Hid (∀ k,k<xs.length→(pc (dX xs))[k]? = some (.complex .f32 (bx (aj (xs.getD k 0))).1 (bx (aj (xs.getD k 0))).2)):=fun k hk=>by
  unfold pc dX;simp [List.getD,List.getElem?_eq_getElem hk]
 have AL:Hid (∀ k,k≤xs.length→(dX (xs.take k)).length=k):=fun k hk=>by rw [kK,List.length_take];omega
 have NL:Hid (∀ k,k≤xs.length→(jN xs k).length=k):=fun k hk=>by unfold jN;rw [List.length_map,List.length_take];omega
 have AZ:Hid (dX (xs.take 0)=[]):=rfl;have NZ:Hid (jN xs 0=[]):=rfl;have AE:Hid (dX (xs.take xs.length)=dX xs):=by rw [Hid,List.take_length]
 have NE:Hid (jN xs xs.length=iH iU xs):=by rw [Hid];unfold jN;rw [List.take_length];rfl
 have HO:Hid (je xs=if jJ (iH iU xs) then some (iH iU xs) else none):=rfl
 have GL:Hid ((iH iU xs).length=xs.length):=by simp [Hid,iH]
 have NK1:=Oi (fun k hk v=>wS v _ _ _ _ (NK.out k hk).mul)
 have NK2:=Oi (fun k hk=>bR .mul .f32 79 (NK.out k hk).by_)
 have NK3:=Oi (fun k hk=>bR .add .f32 79 (NK.out k hk).add)
 generalize je xs=RO at *
 generalize kY xs=MR at *
 generalize kX xs=MI at *
 clear hR hf hn eM1 eM2 NK
 go_enter Tryz.func133,Tryz.ntmps133;go_wp2_with fail;refine (LL.out _).mono ?_;rintro e w1 ⟨rfl,rfl⟩;go_wp2_with fail;refine (LF.out _ (Below.refl _ _)).mono ?_;rintro e w1 ⟨rfl,hb1⟩;have HB1:=Oi hb1;clear hb1 LF LL;go_wp2_with fail;refine (LB.out _).mono ?_;rintro e w2 ⟨rfl,rfl⟩;have HO0:=Oi (bS (bz w1 229) HB1.out.size);have HB2:=Oi (aa HB1.out (ai w1 (.cells #[] 229)));clear HB1 LB;go_wp2_with fail
 go_loopw [6,31] (fun v iv wr=>∃ (k:Nat) (g c:Nat),k≤xs.length∧iv=.int .i64 k∧v=.slice (some ⟨g,0,none⟩) k c∧Hid (wr.ownsRow w.heap.size 229 1 (.slice (some ⟨g,0,none⟩) k c) k (pc (dX (xs.take k))))∧Hid (Below w.heap.size w wr)) (fun _ iv _=>xs.length - (intOf iv).toNat)
 case atStart=>exact ⟨0,_,0,Nat.zero_le _,rfl,rfl,(by rw [Hid,AZ.out];exact HO0.out),HB2.out⟩
 case round =>
  clear HO0 HB2;obtain ⟨k,g,c2,hk,rfl,rfl,hO,hW⟩:=hrel
  by_cases hlt:k<xs.length
  · obtain ⟨b,o,rfl,hbb,hcj⟩:=(HX.out.to hW.out).atF hlt
    have hck:=hcj k hlt;have LP1:=Oi (fun v=>LP.out v k hlt)
    have cw:=CW.out k hlt;have AT1:=Oi (AT.out k hlt);have AL1:=Oi (AL.out k hk);clear hcj;generalize xs.getD k 0=x at *
    generalize aj x=X at *
    generalize bx X=P at *
    have hO':=hO.out;have hw2:=hW.out.size;go_wp2_with fail;refine (LP1.out _).mono ?_;rintro e w2 ⟨rfl,rfl⟩;clear LP1 cw
    go_wp2_with (at_builtin;refine aQ _ rfl _ _ 228 rfl w.heap.size 229 (.complex .f32 0 0) 8 Tryz.underlying228 JZ rfl _ k _ rfl hO' (.complex .f32 P.1 P.2) rfl rfl (by omega) (by omega) hw2 ?_)
    intro v' w' ho hgr hng;obtain ⟨g2,c3,rfl⟩:=fm ho (by omega)
    have HO2:Hid (w'.ownsRow w.heap.size 229 1 (.slice (some ⟨g2,0,none⟩) (k+1) c3) (k+1) (pc (dX (xs.take (k+1))))):=by
     rw [Hid,AT1.out,EP];exact ho
    have HW3:=Oi (ah hW.out hO' hgr (Nat.le_refl _) hw2);clear ho hgr hng hO' hO hW;go_wp2_with fail;go_roundw
    case rel=>exact ⟨k+1,g2,c3,by omega,by go_num,rfl,HO2,HW3.out⟩
    case measure=>simp [intOf];omega
  · obtain rfl:k=xs.length:=by omega
    rw [AE.out] at hO;have HRa:=Oi (ay hO.out (Nat.le_refl _));have LM1:=Oi (LM.out wr _ c2 HRa.out);clear LM LP CW AT AL AZ AE hO;go_wp2_with fail;refine LM1.out.mono ?_;rintro e w2 ⟨rfl,hb2⟩;have HRb:=Oi (HRa.out.to hb2);have HW2:=Oi (aa hW.out hb2);have HS2:=hW.out.size;have HS3:=hb2.size;have HO3:=Oi (bS (bz w2 79) (Nat.le_refl _));clear HRa hb2 LM1 hW;go_wp2_with fail
    go_loopw [11,52] (fun v iv wx=>∃ (k:Nat) (g c:Nat),k≤xs.length∧iv=.int .i64 k∧v=.slice (some ⟨g,0,none⟩) k c∧Hid (wx.ownsRow w2.heap.size 79 1 (.slice (some ⟨g,0,none⟩) k c) k (dx (jN xs k)))∧Hid (Below w2.heap.size w2 wx)) (fun _ iv _=>xs.length - (intOf iv).toNat)
    case atStart=>exact ⟨0,_,0,Nat.zero_le _,rfl,rfl,(by rw [Hid,NZ.out];exact HO3.out),ai _ _⟩
    case round =>
     clear HO3;obtain ⟨k,g3,c4,hk3,rfl,rfl,hO,hW⟩:=hrel
     by_cases hlt:k<xs.length
     · obtain ⟨b,o,rfl,hbb,hcj⟩:=((HX.out.to HW2.out).to hW.out).atF hlt
       have hck:=hcj k hlt;obtain ⟨b2,o2,v2,hga,hbb2,hck2,hx2⟩:=(HRb.out.to hW.out).getV (k:=k) (by rw [kP,kK];exact hlt)
       injection hga with hga
       injection hga with hg1 hg2
       subst hg1 hg2;rw [Nat.zero_add] at hck2;have hv:=hx2.out;rw [AG.out k hlt] at hv;injection hv with hv
       subst hv;have M1:=Oi (NK1.out k hlt);have r2:=NK2.out k hlt;have r3:=NK3.out k hlt;have AF1:=Oi (AF.out k hlt);clear hcj hx2;generalize ph iU xs (xs.getD k 0)=Y at *
       generalize jz MR MI (bx (aj (xs.getD k 0))).1 (jQ (bx (aj (xs.getD k 0))).2)=IM at *
       generalize qG MR MI (bx (aj (xs.getD k 0))).1 (jQ (bx (aj (xs.getD k 0))).2)=RE at *
       have LC:=Oi (fun v=>JL v (bx (aj (xs.getD k 0))).1 (bx (aj (xs.getD k 0))).2)
       generalize jQ (bx (aj (xs.getD k 0))).2=P3 at *
       generalize (bx (aj (xs.getD k 0))).1=P1 at *
       generalize (bx (aj (xs.getD k 0))).2=P2 at *
       generalize uC iU IM=V at *
       generalize xs.getD k 0=x at *
       unfold iU at r2
       have hO':=hO.out;have hs3:=hW.out.size;have Rq:Hid (Rd wr wr.heap.size (some ⟨b,o,none⟩) (dx xs)):=HX.out.to (aa HW2.out hW.out);go_wp2_with fail;refine (LC.out _).mono ?_;rintro e w4 ⟨rfl,rfl⟩;go_wp2_with fail;refine (M1.out _).mono ?_;rintro e w4 ⟨rfl,rfl⟩;clear LC M1
       go_wp2_with (at_builtin;refine aQ _ rfl _ _ 31 rfl w2.heap.size 79 (.float .f32 0) 4 Tryz.underlying31 ur rfl _ k _ rfl hO' (.float .f32 Y) rfl rfl (by omega) (by omega) hs3 ?_)
       intro v' w' ho hgr hng;obtain ⟨g4,c5,rfl⟩:=fm ho (by omega)
       have HO2:Hid (w'.ownsRow w2.heap.size 79 1 (.slice (some ⟨g4,0,none⟩) (k+1) c5) (k+1) (dx (jN xs (k+1)))):=by
        rw [Hid,AF1.out,tI];exact ho
       have HW3:=Oi (ah hW.out hO' hgr (Nat.le_refl _) hs3);clear ho hgr hng hO' hO hW;go_wp2_with fail;go_roundw
       case rel=>exact ⟨k+1,g4,c5,by omega,by go_num,rfl,HO2,HW3.out⟩
       case measure=>simp [intOf];omega
     · obtain rfl:k=xs.length:=by omega
       rw [NE.out] at hO;have HRo:=Oi (ay hO.out (Nat.le_refl _));have HBF:=Oi (aa HW2.out hW.out);have LA:=mO wr (some ⟨g3,0,none⟩) c4 (iH iU xs) HRo.out (by rw [GL.out];omega)
       rw [GL.out] at LA;have LA:=Oi LA;have hlen:=GL.out
       cases hfin:jJ (iH iU xs) with
       | true =>
         rw [hfin] at LA HO;rw [if_pos rfl] at HO;have HO':=Oi (bS hO.out (show w.heap.size≤w2.heap.size by have:=HW2.out.size;exact this))
         clear NK1 NK2 NK3 AF AG NL NZ NE;go_wp2_with fail;refine LA.out.mono ?_;rintro e w4 ⟨rfl,hb4⟩;have HO4:=Oi (aD HO'.out (hb4));have HB4:=Oi (aa HBF.out hb4);clear hb4;go_wp2_with fail
         go_ret2
         rw [HO.out];exact ⟨HB4.out,_,_,by rw [GL.out];rfl,by rw [GL.out];exact HO4.out⟩
       | false =>
         rw [hfin] at LA HO;rw [if_neg (by decide)] at HO
         clear NK1 NK2 NK3 AF AG NL NZ NE;go_wp2_with fail;refine LA.out.mono ?_;rintro e w4 ⟨rfl,hb4⟩;have HB4:=Oi (aa HBF.out hb4);clear hb4;go_wp2_with fail
         go_ret2
         rw [HO.out];exact ⟨HB4.out,rfl⟩
open Go.RowKit
theorem A7 {P T:Nat} {xs l:List Int} {m:Int} (h:∀ x∈xs,0≤x∧x≤1000) (hT:T≤8) (e:qF P T xs=some (l,m)):l.length≤1048576∧-9223372036854775808≤m∧m≤9223372036854775807:=by
 rw [tW] at e
 cases hg:kZ P T xs with
 | none=>rw [hg] at e;cases e
 | some p =>
   obtain ⟨b,k⟩:=p;rw [hg] at e;obtain ⟨h1,h2,h3⟩:=Ax h hT hg;simp only at e
   split at e
   · injection e with e;injection e with e1 e2;subst e1 e2
     exact ⟨by omega,by omega,by omega⟩
   · cases e
def lU:List UInt8:=[112,114,111,100,117,99,116]
theorem yN:fz lU (fun d=>some ((nc (qF d.P.toNat d.T.toNat d.V)).map fun t=>(d,t))):=by
 intro w b d x lo hlo hlx hE hok hca hB hR0;dsimp only;have hR:DRd w w.heap.size d x:=hR0.mono (Nat.le_of_lt hB.lt);obtain ⟨⟨a1,a2⟩,⟨b1,b2⟩,⟨v1,v2⟩,⟨l1,l2⟩,⟨k1,k2⟩,f1,f2⟩:=DD.ok_len hok;obtain ⟨hg,hv,hc,ht⟩:=DD.ok_parts hok;obtain ⟨R,C,A,B,dP,dT,V,U,N,W,K,F⟩:=d;obtain ⟨P,T,e1,e2,p1,p6,t1,t8,lV,-⟩:=db hv;dsimp only at e1 e2 p1 p6 t1 t8 lV;subst e1 e2;have hbV:=(db (U:=(P:Int)) (V:=(T:Int)) hv).choose_spec;have LG:=Oi (vj w P T x.v x.cv V hv hR.r.V);dsimp only [Int.toNat_natCast];obtain ⟨r,hr⟩:∃ r,r=qF P T V:=⟨_,rfl⟩;rw [← hr] at LG ⊢;have HL:Hid (∀ l m,r=some (l,m)→l.length≤1048576∧-9223372036854775808≤m∧m≤9223372036854775807):=fun l m hl=>by
  obtain ⟨P',T',e1,e2,p1,p6,t1,t8,lV,hbb⟩:=db hv;exact A7 hbb (show T≤8 by omega) (by rw [← hr];exact hl)
 clear hr hbV;unfold RetT at LG;unfold nc;obtain ⟨z0,z1,z2,z3,z4,z5,z6,z7,z8,z9,z10,z11⟩:=af hB
 try dsimp only at z0 z1 z2 z3 z4 z5 z6 z7 z8 z9 z10 z11
 have HB:=Oi hB;have HLX:=Oi hlx;have HLO:=Oi hlo;have HR:=Oi hR;have HR0:=Oi hR0;have HE:=Oi hE;clear hlx hlo hB hR hE hok hca a1 a2 b1 b2 v1 v2 l1 l2 k1 k2 f1 f2 hg hv hc ht hR0 p1 p6 t1 t8 lV;obtain ⟨s,hs⟩:∃ s:ByteArray,s=bs lU:=⟨_,rfl⟩;have t_game:(s.toList == [103,97,109,101])=false:=by rw [hs,ab];rfl
 have t_values:(s.toList == [118,97,108,117,101,115])=false:=by rw [hs,ab];rfl
 have t_crowd:(s.toList == [99,114,111,119,100])=false:=by rw [hs,ab];rfl
 have t_turns:(s.toList == [116,117,114,110,115])=false:=by rw [hs,ab];rfl
 have t_turn:(s.toList == [116,117,114,110])=false:=by rw [hs,ab];rfl
 have t_pure:(s.toList == [112,117,114,101])=false:=by rw [hs,ab];rfl
 have t_pareto:(s.toList == [112,97,114,101,116,111])=false:=by rw [hs,ab];rfl
 have t_left:(s.toList == [108,101,102,116])=false:=by rw [hs,ab];rfl
 have t_safe:(s.toList == [115,97,102,101])=false:=by rw [hs,ab];rfl
 have t_rounds:(s.toList == [114,111,117,110,100,115])=false:=by rw [hs,ab];rfl
 have t_product:(s.toList == [112,114,111,100,117,99,116])=true:=by rw [hs,ab];rfl
 rw [← hs];clear hs
 go_enter Tryz.func98,Tryz.ntmps98;go_wp2_with fail;refine LG.out.mono ?_
 cases r with
 | none =>
   rintro e w1 ⟨hb,rfl⟩;have LT1:=Oi (jF w1 (HE.out.tab.to hb) false none 0 [] 0 (.inl rfl) (by simp) (by omega) (by omega))
   rw [List.length_nil] at LT1;have HBB:=Oi hb;clear hb;go_wp2_with fail;refine LT1.out.mono ?_;rintro e w2 ⟨hb2,t,rfl,ht⟩;have HB2:=Oi (aa HBB.out hb2);clear hb2 ht;go_wp2_with fail;go_ret3;exact RetAl.textN none HB2.out HB.out HR.out HLX.out (fun l hl=>by cases hl)
 | some p =>
   obtain ⟨l,m⟩:=p;rintro e w1 ⟨hb,a',c',rfl,hr⟩;obtain ⟨h1,h2,h3⟩:=HL.out l m rfl;have LT1:=Oi (jF w1 (HE.out.tab.to hb) true a' c' l m (ay hr (Nat.le_refl _)) h1 h2 h3);have HBB:=Oi hb;clear hb hr h1 h2 h3;go_wp2_with fail;refine LT1.out.mono ?_;rintro e w2 ⟨hb2,t,rfl,ht⟩;have HB2:=Oi (aa HBB.out hb2);have HT2:=Oi ht;clear hb2 ht;go_wp2_with fail;go_ret3;exact RetAl.textN (qK true l m) HB2.out HB.out HR.out HLX.out HT2.out
def oa (d:DD):Option (DD × List UInt8):=match je d.F with
 | none=>none
 | some fs=>some ({ d with F:=fs },lr)
theorem Dy {F:List Nat} (h:lp F=true):1≤F.length∧F.length≤16∧jJ F=true:=by
 unfold lp at h;rw [Bool.and_eq_true,Bool.and_eq_true,decide_eq_true_eq,decide_eq_true_eq] at h;exact ⟨h.1.1,h.1.2,h.2⟩
def qf:List UInt8:=[97,103,114,101,101]
theorem Cq:fz qf (fun d=>some (oa d)):=by
 intro w b d x lo hlo hlx hE hok hca hB hR0;dsimp only;have hR:DRd w w.heap.size d x:=hR0.mono (Nat.le_of_lt hB.lt);obtain ⟨⟨a1,a2⟩,⟨b1,b2⟩,⟨v1,v2⟩,⟨l1,l2⟩,⟨k1,k2⟩,f1,f2⟩:=DD.ok_len hok;obtain ⟨hg,hv,hc,ht⟩:=DD.ok_parts hok;have hb1:=hB.lt;obtain ⟨g1,g16,gf⟩:=Dy ht;have LG:=Oi (yM w x.f x.cf d.F hR.r.T g1 g16 gf);unfold zm at LG;have HLT:Hid (∀ fs,je d.F=some fs→∀ y∈fs,y<4294967296):=fun fs hfs=>by
  unfold je at hfs
  split at hfs
  · injection hfs with hfs;subst hfs;exact JF (fun y hy=>DL (List.all_eq_true.1 gf y hy)) g1 g16
  · cases hfs
 have HD:Hid (oa d=match je d.F with
  | none=>none
  | some fs=>some ({ d with F:=fs },lr)):=rfl
 generalize oa d=AD at *
 generalize je d.F=r at *
 clear g1 g16 gf;obtain ⟨z0,z1,z2,z3,z4,z5,z6,z7,z8,z9,z10,z11⟩:=af hB
 try dsimp only at z0 z1 z2 z3 z4 z5 z6 z7 z8 z9 z10 z11
 have HB:=Oi hB;have HLX:=Oi hlx;have HLO:=Oi hlo;have HR:=Oi hR;have HR0:=Oi hR0;have HE:=Oi hE;clear hlx hlo hB hR hE hok hca a1 a2 b1 b2 v1 v2 l1 l2 k1 k2 f1 f2 hg hv hc ht hR0;obtain ⟨s,hs⟩:∃ s:ByteArray,s=bs qf:=⟨_,rfl⟩;have t_game:(s.toList == [103,97,109,101])=false:=by rw [hs,ab];rfl
 have t_values:(s.toList == [118,97,108,117,101,115])=false:=by rw [hs,ab];rfl
 have t_crowd:(s.toList == [99,114,111,119,100])=false:=by rw [hs,ab];rfl
 have t_turns:(s.toList == [116,117,114,110,115])=false:=by rw [hs,ab];rfl
 have t_turn:(s.toList == [116,117,114,110])=false:=by rw [hs,ab];rfl
 have t_pure:(s.toList == [112,117,114,101])=false:=by rw [hs,ab];rfl
 have t_pareto:(s.toList == [112,97,114,101,116,111])=false:=by rw [hs,ab];rfl
 have t_left:(s.toList == [108,101,102,116])=false:=by rw [hs,ab];rfl
 have t_safe:(s.toList == [115,97,102,101])=false:=by rw [hs,ab];rfl
 have t_rounds:(s.toList == [114,111,117,110,100,115])=false:=by rw [hs,ab];rfl
 have t_product:(s.toList == [112,114,111,100,117,99,116])=false:=by rw [hs,ab];rfl
 have t_price:(s.toList == [112,114,105,99,101])=false:=by rw [hs,ab];rfl
 have t_tolls:(s.toList == [116,111,108,108,115])=false:=by rw [hs,ab];rfl
 have t_agree:(s.toList == [97,103,114,101,101])=true:=by rw [hs,ab];rfl
 rw [← hs];clear hs
 go_enter Tryz.func98,Tryz.ntmps98;go_wp2_with fail;refine LG.out.mono ?_
 cases r with
 | none =>
   rintro e w1 ⟨hb,rfl⟩;have KB:=HB.out.same hb;have KT:=HR0.out.below hb (Nat.le_of_lt HB.out.lt);obtain ⟨y0,y1,y2,y3,y4,y5,y6,y7,y8,y9,y10,y11⟩:=af KB;have g11:=KB.free 11;have PT:=Oi (qS KB KT [] none 0 (qT _ _) (fun y hy=>by cases hy))
   have hbb:=Oi hb;rw [List.length_nil] at PT;clear KB KT hb hb1;go_wp2_with fail;go_ret3;rw [HD.out];exact PT.out.no hbb.out _
 | some fs =>
   rintro e w1 ⟨hb,a,c,rfl,ho⟩;have KB:=HB.out.same hb;have KT:=HR0.out.below hb (Nat.le_of_lt HB.out.lt);obtain ⟨y0,y1,y2,y3,y4,y5,y6,y7,y8,y9,y10,y11⟩:=af KB;have g11:=KB.free 11;have PT:=Oi (qS KB KT fs a c (yn (OwnF.of_own ho) hb1 (Nat.le_refl _)) (HLT.out fs rfl));have hbb:=Oi hb;clear KB KT hb ho hb1;go_wp2_with fail;go_ret3;rw [HD.out];exact PT.out.yes hbb.out HLO.out HLX.out lr
def gY (C:Nat) (xs cnt:List Int) (i:Nat):Nat→Int
 | 0=>0
 | k+1=>gY C xs cnt i k+cnt.getD k 0 * aU C xs i k
def fe (C:Nat) (xs cnt:List Int):Nat→Int × Int
 | 0=>(0,0)
 | i+1=>if i=0∨(fe C xs cnt i).2<gY C xs cnt i C then ((i:Int),gY C xs cnt i C) else fe C xs cnt i
def dG (R C:Nat) (xs cnt:List Int):Nat:=(fe C xs cnt R).1.toNat
theorem na (C:Nat) (xs cnt:List Int):∀ i,1≤i→∃ j:Nat,(fe C xs cnt i).1=(j:Int)∧j<i
 | 0,h=>by omega
 | i+1,_=>by
   rw [fe]
   split
   · exact ⟨i,rfl,by omega⟩
   · rename_i hn
     obtain ⟨j,e,hj⟩:=na C xs cnt i (by omega)
     exact ⟨j,e,by omega⟩
def bZ (R C:Nat) (xA yB:List Int):Nat→List Int × List Int
 | 0=>((List.replicate R 0).set 0 1,(List.replicate C 0).set 0 1)
 | n+1=>((bZ R C xA yB n).1.set (dG R C xA (bZ R C xA yB n).2) ((bZ R C xA yB n).1.getD (dG R C xA (bZ R C xA yB n).2) 0+1),(bZ R C xA yB n).2.set (dG C R yB (bZ R C xA yB n).1) ((bZ R C xA yB n).2.getD (dG C R yB (bZ R C xA yB n).1) 0+1))
theorem iE {xs:List Int} {lo hi:Int} (h:∀ x∈xs,lo≤x∧x≤hi) (h0:lo≤0) (h1:0≤hi) (k:Nat):lo≤xs.getD k 0∧xs.getD k 0≤hi:=by
 rw [List.getD]
 cases hk:xs[k]? with
 | none=>exact ⟨h0,h1⟩
 | some x=>exact h x (List.mem_of_getElem? hk)
theorem rK (R C:Nat) (xA yB:List Int):∀ n:Nat,(bZ R C xA yB n).1.length=R∧(bZ R C xA yB n).2.length=C∧(∀ x∈(bZ R C xA yB n).1,0≤x∧x≤(n:Int)+1)∧∀ x∈(bZ R C xA yB n).2,0≤x∧x≤(n:Int)+1
 | 0=>by
   have key:∀ m:Nat,∀ x∈(List.replicate m (0:Int)).set 0 1,0≤x∧x≤((0:Nat):Int)+1:=fun m x hx=>by
    rcases List.mem_or_eq_of_mem_set hx with h | h
    · rw [List.eq_of_mem_replicate h];decide
    · rw [h];decide
   exact ⟨by simp [bZ],by simp [bZ],key R,key C⟩
 | n+1=>by
   obtain ⟨l1,l2,b1,b2⟩:=rK R C xA yB n;have g1:=iE b1 (by omega) (by omega) (dG R C xA (bZ R C xA yB n).2)
   have g2:=iE b2 (by omega) (by omega) (dG C R yB (bZ R C xA yB n).1)
   rw [bZ];refine ⟨by rw [List.length_set,l1],by rw [List.length_set,l2],fun x hx=>?_,fun x hx=>?_⟩
   · rcases List.mem_or_eq_of_mem_set hx with h | h
     · have:=b1 x h;omega
     · omega
   · rcases List.mem_or_eq_of_mem_set hx with h | h
     · have:=b2 x h;omega
     · omega
theorem xP {c a:Int} (h0:0≤c) (h1:c≤1001) (a0:-1000≤a) (a1:a≤1000):-1001000≤c * a∧c * a≤1001000:=by
 constructor
 · have h:=Int.mul_le_mul_of_nonneg_left a0 h0
   have:c * -1000 = -(c * 1000):=by rw [Int.mul_neg]
   omega
 · have h:=Int.mul_le_mul_of_nonneg_left a1 h0
   omega
theorem yr {C:Nat} {xs cnt:List Int} (hx:∀ x∈xs,-1000≤x∧x≤1000) (hc:∀ x∈cnt,0≤x∧x≤1001) (i:Nat):∀ k:Nat,-(1001000 * (k:Int))≤gY C xs cnt i k∧gY C xs cnt i k≤1001000 * (k:Int)
 | 0=>by simp [gY]
 | k+1=>by
   have ih:=yr (C:=C) hx hc i k;have g1:=iE hc (by omega) (by omega) k
   have g2:-1000≤aU C xs i k∧aU C xs i k≤1000:=iE hx (by omega) (by omega) _
   have:=xP g1.1 g1.2 g2.1 g2.2;rw [gY];omega
end Go.Proofs.YtbknhgapjjaelaaGreatDoor
