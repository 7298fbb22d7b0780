/-
  Part 5 of what the proof stands on: lemmas and contracts, each with its conditions ahead of the colon.
-/
import Derived.Laws.FloatArith
import Derived.Test.YtbknhgapjjaelaaGreatDoorRows
import Derived.WalkLawsBesides
import Derived.Deep.RegionHeld
import Derived.Laws.Externs
import Derived.Test.YtbknhgapjjaelaaGreatDoorPj01
import Derived.Test.YtbknhgapjjaelaaGreatDoorPj02
import Derived.Test.YtbknhgapjjaelaaGreatDoorPj03
import Derived.Test.YtbknhgapjjaelaaGreatDoorPj04
set_option maxRecDepth 10000
set_option maxHeartbeats 4000000
namespace Go.Proofs.YtbknhgapjjaelaaGreatDoor
set_option linter.unusedVariables false
set_option linter.unusedSimpArgs false
open Ieee
theorem JP (neg:Bool) (n:Nat):Toward.even.cut neg n 0=n:=by
 simp [Toward.cut,Nat.mod_one]
theorem IQ (neg:Bool) (a r:Nat) (hr:r<4503599627370496) (ha:a<2046) :
 double.read (double.word neg (a * 4503599627370496+(4503599627370496+r)))=.number neg (4503599627370496+r) (-1074+(a:Int)):=by
 have hsw:double.signWeight=9223372036854775808:=by decide
 have hbi:double.binade=4503599627370496:=by decide
 have hin:double.infRung=9218868437227405312:=by decide
 have hlp:double.leastPlace = -1074:=by decide
 have h1:double.word neg (a * 4503599627370496+(4503599627370496+r)) % 9223372036854775808=a * 4503599627370496+(4503599627370496+r):=by
  unfold Format.word;rw [hsw]
  split <;> omega
 have h2:(double.word neg (a * 4503599627370496+(4503599627370496+r)) / 9223372036854775808 % 2 == 1)=neg:=by
  unfold Format.word;rw [hsw]
  cases neg
  · simp;omega
  · simp;omega
 unfold Format.read;simp only [hsw,hbi,hin,hlp,h1,h2];rw [if_neg (by omega),if_pos (by omega)]
 congr 1
 · omega
 · omega
theorem Jt (neg:Bool) (mag:Nat) (place:Int) (hm:0<mag) (h24:mag<16777216) (p0:-149≤place) (p1:place≤104) :
 ∃ m p,double.read (double.nearest neg mag place)=.number neg m p∧0<m:=by
 have hlp:double.leastPlace = -1074:=by decide
 have hbi:double.binade=4503599627370496:=by decide
 have hin:double.infRung=9218868437227405312:=by decide
 have hfb:(double.fractionBits:Int)=52:=by decide
 obtain ⟨L,hL⟩:∃ L,L=mag.log2:=⟨_,rfl⟩;have l1:2 ^ L≤mag:=by rw [hL];exact Nat.log2_self_le (by omega)
 have l2:mag<2 ^ (L+1):=by rw [hL];exact Nat.lt_log2_self
 have l3:L≤23:=by
  rcases Nat.lt_or_ge 23 L with h | h
  · have:2 ^ 24≤2 ^ L:=Nat.pow_le_pow_right (by omega) (by omega)
    omega
  · exact h
 have e1:max (place+(L:Int) - 52) (-1074)=place+(L:Int) - 52:=by omega
 have e2:(place - (place+(L:Int) - 52)).toNat=52 - L:=by omega
 have e3:(place+(L:Int) - 52 - place).toNat=0:=by omega
 have k1:4503599627370496≤mag * 2 ^ (52 - L):=by
  have:=Nat.mul_le_mul_right (2 ^ (52 - L)) l1;rw [← Nat.pow_add,show L+(52 - L)=52 from by omega] at this
  omega
 have k2:mag * 2 ^ (52 - L)<9007199254740992:=by
  have:=Nat.mul_lt_mul_of_pos_right l2 (Nat.two_pow_pos (52 - L));rw [← Nat.pow_add,show L+1+(52 - L)=53 from by omega] at this
  omega
 obtain ⟨r,hr⟩:∃ r,mag * 2 ^ (52 - L)=4503599627370496+r:=⟨mag * 2 ^ (52 - L) - 4503599627370496,by omega⟩;have hnear:double.nearest neg mag place=double.word neg (((place+(L:Int) - 52) - (-1074)).toNat * 4503599627370496+(4503599627370496+r)):=by
  unfold Format.nearest;rw [if_neg (by omega)]
  simp only [hlp,hbi,hin,hfb,← hL,e1,e2,e3,JP,Nat.shiftLeft_eq];rw [hr,Nat.min_eq_left (by omega)]
 rw [hnear,IQ neg _ r (by omega) (by omega)]
 exact ⟨_,_,rfl,by omega⟩
theorem qM (d:Datum):(∃ n f,d=.nan n f)∨d.order d=some .eq:=by
 cases d with
 | nan n f=>exact .inl ⟨_,_,rfl⟩
 | infinity n=>right;cases n <;> rfl
 | number n m p=>right;simp [Datum.order]
open Ieee
theorem Oc:single.signWeight=2147483648:=by decide
theorem N6:single.binade=8388608:=by decide
theorem N8:single.infRung=2139095040:=by decide
theorem Oa:single.leastPlace = -149:=by decide
theorem F5 (r:Nat) (h:r<2139095040):∃ e m:Nat,r=e * 8388608+m∧(m<16777216∧e≤253)∧(1≤e→8388608≤m) ∧
 (∀ neg:Bool,(if r<8388608 then Datum.number neg r (-149) else Datum.number neg (8388608+r % 8388608) (-149+(r / 8388608 - 1:Nat)))=Datum.number neg m (-149+(e:Int))):=by
 by_cases c:r<8388608
 · exact ⟨0,r,by omega,by omega,by omega,fun neg=>by rw [if_pos c];simp⟩
 · exact ⟨r / 8388608 - 1,8388608+r % 8388608,by omega,by omega,by omega,fun neg=>by rw [if_neg c]⟩
theorem oM (x:Nat):(∃ e m:Nat,x % 2147483648=e * 8388608+m∧(m<16777216∧e≤253)∧(1≤e→8388608≤m)∧single.read x=.number (x / 2147483648 % 2 == 1) m (-149+(e:Int))) ∨
 (x % 2147483648=2139095040∧single.read x=.infinity (x / 2147483648 % 2 == 1))∨∃ n f,single.read x=.nan n f:=by
 unfold Format.read;simp only [Oc,N6,N8,Oa]
 by_cases h1:x % 2147483648<2139095040
 · obtain ⟨e,m,k1,k2,k3,k4⟩:=F5 _ h1
   refine .inl ⟨e,m,k1,k2,k3,?_⟩
   by_cases h0:x % 2147483648<8388608
   · have:=k4 (x / 2147483648 % 2 == 1);rw [if_pos h0] at this ⊢;exact this
   · have:=k4 (x / 2147483648 % 2 == 1);rw [if_neg h0] at this ⊢;rw [if_pos h1];exact this
 · rw [if_neg (by omega),if_neg h1]
   by_cases h2:x % 2147483648=2139095040
   · rw [if_pos h2];exact .inr (.inl ⟨h2,rfl⟩)
   · rw [if_neg h2];exact .inr (.inr ⟨_,_,rfl⟩)
theorem EM {a b:Int} (h:compare a b=.eq):a=b:=by
 rw [show compare a b=compareOfLessAndEq a b from rfl] at h
 unfold compareOfLessAndEq at h
 split at h
 · cases h
 · split at h
   · assumption
   · cases h
theorem La {m n e f:Nat} (hm:m<16777216) (hn:n<16777216) (he:1≤e→8388608≤m) (hf:1≤f→8388608≤n) (h:m * 2 ^ (e - min e f)=n * 2 ^ (f - min e f)):e=f∧m=n:=by
 by_cases c:e=f
 · subst c
   simp at h
   exact ⟨rfl,h⟩
 · exfalso
   by_cases d:e<f
   · rw [Nat.min_eq_left (by omega),Nat.sub_self,Nat.pow_zero,Nat.mul_one] at h
     obtain ⟨k,hk⟩:∃ k,f - e=k+1:=⟨f - e - 1,by omega⟩;rw [hk,Nat.pow_succ] at h;have h8:=hf (by omega)
     have:n * 1≤n * 2 ^ k:=Nat.mul_le_mul_left _ (Nat.one_le_two_pow);have e2:n * (2 ^ k * 2)=2 * (n * 2 ^ k):=by rw [← Nat.mul_assoc,Nat.mul_comm]
     omega
   · rw [Nat.min_eq_right (by omega),Nat.sub_self,Nat.pow_zero,Nat.mul_one] at h
     obtain ⟨k,hk⟩:∃ k,e - f=k+1:=⟨e - f - 1,by omega⟩;rw [hk,Nat.pow_succ] at h;have h8:=he (by omega)
     have:m * 1≤m * 2 ^ k:=Nat.mul_le_mul_left _ (Nat.one_le_two_pow);have e2:m * (2 ^ k * 2)=2 * (m * 2 ^ k):=by rw [← Nat.mul_assoc,Nat.mul_comm]
     omega
theorem I3 {s:Bool} {m n k l:Nat} (h:signed s m k=signed s n l):m * 2 ^ k=n * 2 ^ l:=by
 unfold signed at h;simp only [Nat.shiftLeft_eq] at h
 cases s
 · simp at h;exact_mod_cast h
 · simp at h;exact_mod_cast h
theorem I4 {x y:Nat} (hx:x<4294967296) (hy:y<4294967296) (h:single.order x y=some .eq) (hs:x / 2147483648=y / 2147483648):x=y:=by
 unfold Format.order at h
 rcases oM x with ⟨e,m,k1,k2,k3,k4⟩ | ⟨k1,k4⟩ | ⟨n,f,k4⟩ <;> rcases oM y with ⟨e',m',l1,l2,l3,l4⟩ | ⟨l1,l4⟩ | ⟨n',f',l4⟩
 all_goals rw [k4,l4] at h
 · simp only [Datum.order,Option.some.injEq] at h
   rw [hs] at h;have h2:=I3 (EM h);have e1:((-149+(e:Int)) - min (-149+(e:Int)) (-149+(e':Int))).toNat=e - min e e':=by omega
   have e2:((-149+(e':Int)) - min (-149+(e:Int)) (-149+(e':Int))).toNat=e' - min e e':=by omega
   rw [e1,e2] at h2;obtain ⟨q1,q2⟩:=La k2.1 l2.1 k3 l3 h2;subst q1 q2;omega
 · simp [Datum.order] at h;split at h <;> cases h
 · simp [Datum.order] at h
 · simp [Datum.order] at h;split at h <;> cases h
 · omega
 · simp [Datum.order] at h
 · simp [Datum.order] at h
 · simp [Datum.order] at h
 · simp [Datum.order] at h
theorem Bc (neg:Bool) (mag:Nat) (place:Int):∃ g,g≤9218868437227405312∧double.nearest neg mag place=double.word neg g:=by
 have hin:double.infRung=9218868437227405312:=by decide
 unfold Format.nearest
 split
 · exact ⟨0,by omega,rfl⟩
 · rw [hin];exact ⟨_,Nat.min_le_right _ _,rfl⟩
theorem yI (neg:Bool) (g:Nat) (h:g≤9218868437227405312):double.word neg g<18446744073709551616∧(9223372036854775808≤double.word neg g ↔ neg=true):=by
 have hsw:double.signWeight=9223372036854775808:=by decide
 unfold Format.word;rw [hsw]
 cases neg
 · simp;omega
 · simp;omega
theorem yG {x:Nat} (hx:x<4294967296) (hn:¬ ∃ n f,single.read x=.nan n f):∃ r,floatToFloatBits .f32 x .f64=some r∧r<18446744073709551616∧(9223372036854775808≤r ↔ 2147483648≤x):=by
 have hneg:((x / 2147483648 % 2 == 1)=true) ↔ 2147483648≤x:=by rw [beq_iff_eq];omega
 rcases oM x with ⟨e,m,k1,k2,k3,k4⟩ | ⟨k1,k4⟩ | h
 · obtain ⟨g,g1,g2⟩:=Bc (x / 2147483648 % 2 == 1) m (-149+(e:Int))
   obtain ⟨w1,w2⟩:=yI (x / 2147483648 % 2 == 1) g g1;refine ⟨double.word (x / 2147483648 % 2 == 1) g,?_,w1,by rw [w2,hneg]⟩
   have hr:∃ n' m' p',double.read (double.word (x / 2147483648 % 2 == 1) g)=.number n' m' p':=by
    rw [← g2]
    rcases Nat.eq_zero_or_pos m with h0 | h0
    · subst h0
      have:double.nearest (x / 2147483648 % 2 == 1) 0 (-149+(e:Int))=double.word (x / 2147483648 % 2 == 1) 0:=by
       unfold Format.nearest;rw [if_pos rfl]
      rw [this]
      cases (x / 2147483648 % 2 == 1)
      · exact ⟨false,0,-1074,by decide +kernel⟩
      · exact ⟨true,0,-1074,by decide +kernel⟩
    · obtain ⟨m',p',e',_⟩:=Jt (x / 2147483648 % 2 == 1) m (-149+(e:Int)) h0 k2.1 (by omega) (by omega)
      exact ⟨_,m',p',e'⟩
   obtain ⟨n',m',p',e'⟩:=hr;have hw:double.write (.number (x / 2147483648 % 2 == 1) m (-149+(e:Int)))=double.word (x / 2147483648 % 2 == 1) g:=g2;simp [floatToFloatBits,FloatKind.decode,FloatKind.format,FloatKind.encode,k4,hw,e',Datum.isInfinity]
 · obtain ⟨w1,w2⟩:=yI (x / 2147483648 % 2 == 1) 9218868437227405312 (by omega)
   refine ⟨double.word (x / 2147483648 % 2 == 1) 9218868437227405312,?_,w1,by rw [w2,hneg]⟩
   simp [floatToFloatBits,FloatKind.decode,FloatKind.format,FloatKind.encode,k4]
   rfl
 · exact absurd h hn
theorem xQ {x:Nat}:(∃ n f,single.read x=.nan n f) ↔ single.order x x=none:=by
 constructor
 · rintro ⟨n,f,h⟩
   unfold Format.order;rw [h];rfl
 · intro h
   rcases qM (single.read x) with h' | h'
   · exact h'
   · unfold Format.order at h;rw [h] at h';cases h'
theorem Gb {x:Nat} (h:¬ ∃ n f,single.read x=.nan n f):single.order x x=some .eq:=by
 rcases qM (single.read x) with h' | h'
 · exact absurd h' h
 · exact h'
theorem Bg {x y:Nat} (h:¬ ∃ n f,single.read x=.nan n f) (ho:¬ single.order x y=some .eq):x≠y:=by
 rintro rfl;exact ho (Gb h)
open Go.RowKit
def Ly (n:Nat) (k:Int):List Int:=(List.range n).map fun (i:Nat)=>k+(i:Int)
@[simp] theorem marks_length (n:Nat) (k:Int):(Ly n k).length=n:=by simp [Ly]
def dx (xs:List Nat):List Value:=xs.map fun x=>Value.float .f32 x
theorem pq (P:Program) (w:World) (a:Addr) (m:Mode) (k:FloatKind) (b:Nat):(store a (.float k b) m).run P w=stored P w a (.float k b) m:=run_store P w a _ m rfl
attribute [local go_sem] pq
open Go.RowKit Ieee
theorem Iu {d e:Datum} (h:∃ n f,d=.nan n f):d.order e=none:=by obtain ⟨n,f,rfl⟩:=h;cases e <;> rfl
attribute [local go_sem] pq
@[simp] theorem flts_length (xs:List Nat):(dx xs).length=xs.length:=by simp [dx]
theorem um {xs:List Nat} {j:Nat} (h:j<xs.length):(dx xs)[j]? = some (.float .f32 (xs.getD j 0)):=by simp [dx,List.getD,List.getElem?_eq_getElem h]
theorem Rd.atF {w:World} {B:Nat} {a:Option Addr} {xs:List Nat} (h:Rd w B a (dx xs)) {k:Nat} (hk:k<xs.length) :
 ∃ b o,a=some ⟨b,o,none⟩∧b<B∧∀ j,j<xs.length→w.cell? ⟨b,o+j,none⟩=some (.float .f32 (xs.getD j 0)):=by
 rcases h with h | ⟨b,o,ha,hb,hc⟩
 · have:(dx xs).length=0:=by rw [h];rfl
   rw [flts_length] at this;omega
 · exact ⟨b,o,ha,hb,fun j hj=>by rw [hc j (by rw [flts_length];exact hj),um hj]⟩
theorem ur:(Tryz.prog.info? 79).map (fun i=>(i.zero,i.size,i.bytes))=some (some (.float .f32 0),1,4):=by kernel_rfl
open Go.RowKit Ieee
def jH (x:Nat):Bool:=match floatBits .sub .f32 x x with
 | some r=>FloatKind.f32.format.order r 0 == some .eq
 | none=>false
def oH (x:Nat) (w:World):Nat:=Question.cut (.nanBits .f32 x x) (w.tape w.drawn (.nanBits .f32 x x))
theorem Ba (x b:Nat) (w:World):FloatKind.f32.format.order (oH x w) b=none:=by
 refine Iu ?_
 have hsw:single.signWeight=2147483648:=by decide
 have hbi:single.binade=8388608:=by decide
 have hin:single.infRung=2139095040:=by decide
 have hlp:single.leastPlace = -149:=by decide
 obtain ⟨t,ht⟩:∃ t,t=w.tape w.drawn (.nanBits .f32 x x):=⟨_,rfl⟩;have e:oH x w=(t % 2) * 2147483648+2139095040+1+(t / 2) % 8388607:=by
  unfold oH;rw [← ht];rfl
 show ∃ n f,single.read (oH x w)=.nan n f
 obtain ⟨q,hq⟩:∃ q,q=(t / 2) % 8388607:=⟨_,rfl⟩;have hq2:q<8388607:=by rw [hq];exact Nat.mod_lt _ (by omega)
 rw [← hq] at e;have e2:oH x w % 2147483648=2139095040+1+q:=by
  rcases Nat.mod_two_eq_zero_or_one t with h | h
  · rw [e,h];omega
  · rw [e,h];omega
 unfold Format.read;simp only [hsw,hbi,hin,hlp,e2];rw [if_neg (by omega),if_neg (by omega),if_neg (by omega)]
 exact ⟨_,_,rfl⟩
theorem Dk {x:Nat} (h:floatBits .sub .f32 x x=none) (t:TypeId) (w:World):(binOp BinOp.sub t (.float .f32 x) (.float .f32 x)).run Tryz.prog w=.ok (.float .f32 (oH x w)) w.drew:=by
 have h':FloatKind.f32.format.sub x x=none:=h;simp [binOp,Op.floatArith,h',oH,Question.forced]
theorem AI (w:World) (x:Nat) :
 Calls Tryz.prog 78 #[.float .f32 x] w fun e w'=>e=.returned (.bool (jH x))∧∃ n,w'=w.drewN n:=by
 cases hs:floatBits .sub .f32 x x with
 | none =>
   have hc:=fun v:World=>Dk hs 79 v
   have ho:=fun v:World=>Ba x 0 v
   have HF:Hid (jH x=false):=by simp [Hid,jH,hs]
   clear hs
   go_enter Tryz.func78,Tryz.ntmps78;go_wp2_with fail;go_ret;exact ⟨ar HF.out.symm,1,rfl⟩
 | some r =>
   have hc:∀ v:World,(binOp BinOp.sub 79 (.float .f32 x) (.float .f32 x)).run Tryz.prog v=.ok (.float .f32 r) v:=fun v=>run_float_arith v _ _ _ _ _ _ hs
   have HF:Hid (jH x=(FloatKind.f32.format.order r 0 == some .eq)):=by simp [Hid,jH,hs]
   clear hs
   go_enter Tryz.func78,Tryz.ntmps78;go_wp2_with fail;go_ret;exact ⟨ar HF.out.symm,0,rfl⟩
def jJ (xs:List Nat):Bool:=xs.all jH
theorem E5 (xs:List Nat):jJ xs = !(iA (fun j=>!jH (xs.getD j 0)) xs.length):=by
 rw [Bool.eq_iff_iff,Bool.not_eq_true',DE,jJ,List.all_eq_true]
 constructor
 · intro h k hk
   have:=h (xs.getD k 0) (by rw [List.getD,List.getElem?_eq_getElem hk];exact List.getElem_mem hk)
   rw [this];rfl
 · intro h x hx
   obtain ⟨k,hk,e⟩:=List.getElem_of_mem hx;have:=h k hk;rw [List.getD,List.getElem?_eq_getElem hk] at this;simp only [Option.getD_some,e] at this;simpa using this
theorem CN (K:Nat) (caps:Array Value) (hK:∀ (args:Array Value) (w:World),(callFunc K args).run Tryz.prog w=.ok (.enter K args) w)
 (w:World) (a:Option Addr) (c:Nat) (vs:List Value) (p:Nat→Bool) (h:Rd w w.heap.size a vs) (hl:vs.length≤1152921504606846976)
 (hcall:∀ w' j v,Below w.heap.size w w'→vs[j]? = some v→Calls Tryz.prog K (#[v] ++ caps) w' fun e w''=>e=.returned (.bool (p j))∧Below w'.heap.size w' w'') :
 Calls Tryz.prog 105 #[.slice a vs.length c,.func (.func K) #[] caps] w fun e w'=>e=.returned (.int .i64 (fq p vs.length))∧Below w.heap.size w w':=by
 have Hc:=Oi hcall;clear hcall
 go_enter Tryz.func105,Tryz.ntmps105
 go_wp2
 go_loopw [8] (fun i wr=>∃ k:Nat,k≤vs.length∧i=.int .i64 k∧Hid (∀ j,j<k→p j=false)∧Below w.heap.size w wr) (fun i _=>vs.length - (intOf i).toNat)
 case atStart=>exact ⟨0,Nat.zero_le _,rfl,fun j hj=>by omega,Below.refl _ _⟩
 case round =>
  obtain ⟨k,hk,rfl,ha,hw⟩:=hrel
  by_cases hlt:k<vs.length
  · obtain ⟨b,o,v,rfl,hbb,hck,hx⟩:=(h.below hw (Nat.le_refl _)).getV hlt
    clear h;have HC:=Oi (Hc.out wr k v hw hx.out)
    cases hin:p k with
    | false =>
      have hF:Hid (∀ j,j<k+1→p j=false):=fun j hj=>by
       by_cases e:j=k
       · rw [e,hin]
       · exact ha.out j (by omega)
      rw [hin] at HC;go_wp2_with fail;refine HC.out.mono ?_;rintro e w2 ⟨rfl,hb2⟩;have hw2:=aa hw hb2;go_wp2_with fail;go_roundw
      case rel=>exact ⟨k+1,by omega,by go_num,hF,hw2⟩
      case measure=>simp [intOf];omega
    | true =>
      have hF:Hid (fq p vs.length=k):=ju hlt hin ha.out;rw [hin] at HC;go_wp2_with fail;refine HC.out.mono ?_;rintro e w2 ⟨rfl,hb2⟩;have hw2:=aa hw hb2;go_wp2_with fail;go_ret;exact ⟨bY hF.out.symm,hw2⟩
  · have:k=vs.length:=by omega
    subst this;have hF:Hid (fq p vs.length = -1):=jw ha.out
    go_wp2
    go_ret;exact ⟨bY hF.out.symm,hw⟩
theorem wI (K:Nat) (caps:Array Value) (hK:∀ (args:Array Value) (w:World),(callFunc K args).run Tryz.prog w=.ok (.enter K args) w)
 (w:World) (a:Option Addr) (c:Nat) (vs:List Value) (p:Nat→Bool) (h:Rd w w.heap.size a vs) (hl:vs.length≤1152921504606846976)
 (hcall:∀ w' j v,Below w.heap.size w w'→vs[j]? = some v→Calls Tryz.prog K (#[v] ++ caps) w' fun e w''=>e=.returned (.bool (p j))∧Below w'.heap.size w' w'') :
 Calls Tryz.prog 76 #[.slice a vs.length c,.func (.func K) #[] caps] w fun e w'=>e=.returned (.bool (iA p vs.length))∧Below w.heap.size w w':=by
 have HI:=Oi (CN K caps hK w a c vs p h hl hcall);clear hcall h hK
 go_enter Tryz.func76,Tryz.ntmps76;go_wp2_with fail;refine HI.out.mono ?_;rintro e w1 ⟨rfl,hb⟩;go_wp2_with fail;go_ret;exact ⟨rfl,hb⟩
theorem GV (args:Array Value) (w:World):(callFunc 77 args).run Tryz.prog w=.ok (.enter 77 args) w:=by kernel_rfl
theorem wC (w:World) (x:Nat) :
 Calls Tryz.prog 77 #[.float .f32 x] w fun e w'=>e=.returned (.bool (!jH x))∧Below w.heap.size w w':=by
 have L:=Oi (AI w x)
 go_enter Tryz.func77,Tryz.ntmps77;go_wp2_with fail;refine L.out.mono ?_;rintro e w1 ⟨rfl,n,rfl⟩;go_wp2_with fail;go_ret;exact ⟨rfl,mc w n⟩
theorem mO (w:World) (a:Option Addr) (c:Nat) (xs:List Nat) (h:Rd w w.heap.size a (dx xs)) (hl:xs.length≤1048576) :
 Calls Tryz.prog 35 #[.slice a xs.length c] w fun e w'=>e=.returned (.bool (jJ xs))∧Below w.heap.size w w':=by
 have L:=wI 77 #[] GV w a c (dx xs) (fun j=>!jH (xs.getD j 0)) h (by rw [flts_length];omega) (fun w' j v _ hv=>by
  have hj:j<xs.length:=by have:=(List.getElem?_eq_some_iff.1 hv).1;simpa using this
  rw [um hj] at hv;injection hv with hv
  subst hv;exact wC w' _)
 rw [flts_length] at L;have L:=Oi L;have HF:=Oi (E5 xs);clear h
 go_enter Tryz.func35,Tryz.ntmps35;go_wp2_with fail;refine L.out.mono ?_;rintro e w1 ⟨rfl,hb⟩;go_wp2_with fail;go_ret;exact ⟨ar HF.out.symm,hb⟩
open Go.RowKit Ieee
def oG (x:Nat):Bool:=FloatKind.f32.format.order x x != some .eq
def eQ (x:Nat):Int:=if oG x then 2143289344 else x
def gy (x y:Nat):Bool:=eQ x == eQ y
theorem Ki {x:Nat}:oG x=true ↔ ∃ n f,single.read x=.nan n f:=by
 have e:FloatKind.f32.format.order x x=single.order x x:=rfl;unfold oG;rw [e]
 rcases qM (single.read x) with h | h
 · exact ⟨fun _=>h,fun _=>by rw [xQ.1 h];rfl⟩
 · have h':single.order x x=some .eq:=h
   rw [h']
   constructor
   · intro h2;simp at h2
   · intro h2;rw [xQ.1 h2] at h';cases h'
theorem wT {x:Nat} (h:oG x=false):¬ ∃ n f,single.read x=.nan n f:=fun h2=>by rw [Ki.2 h2] at h;cases h
theorem xu:oG 2143289344=true:=by decide +kernel
theorem GH (b:Nat) (w:World):(callFunc 113 #[.float .f32 b]).run Tryz.prog w=.ok (.value (.int .u32 b)) w:=by
 rw [run_callFunc_extern (P:=Tryz.prog) (e:=Extern.MathFloatBits.float32bits) Tryz.func113 (by kernel_rfl) (by kernel_rfl) (by kernel_rfl) (by kernel_rfl)]
 rfl
theorem GI (b:Nat) (w:World):(callFunc 106 #[.float .f64 b]).run Tryz.prog w=.ok (.value (.int .u64 b)) w:=by
 rw [run_callFunc_extern (P:=Tryz.prog) (e:=Extern.MathFloatBits.float64bits) Tryz.func106 (by kernel_rfl) (by kernel_rfl) (by kernel_rfl) (by kernel_rfl)]
 rfl
theorem ua (r:Nat) (hr:r<18446744073709551616) (w:World):Calls Tryz.prog 80 #[.float .f64 r] w fun e w'=>e=.returned (.bool (decide (9223372036854775808≤r)))∧w=w':=by
 have hd:=fun v=>GI r v
 by_cases h:9223372036854775808≤r
 · have hw:IntKind.i64.wrap (r:Int)=(r:Int) - 18446744073709551616:=by
     have e:(r:Int) % 2 ^ 64=r:=by omega
     simp only [IntKind.wrap,IntKind.bits,IntKind.signed,e];rw [if_pos (by simp;omega)];omega
   have HF:Hid (decide ((r:Int) - 18446744073709551616<0)=decide (9223372036854775808≤r)):=by
    show _=_
    rw [decide_eq_true h,decide_eq_true (by omega)]
   clear h
   go_enter Tryz.func80,Tryz.ntmps80;go_wp2_with fail;go_ret;exact ⟨ar HF.out,rfl⟩
 · have hw:IntKind.i64.wrap (r:Int)=(r:Int):=by
     have e:(r:Int) % 2 ^ 64=r:=by omega
     simp only [IntKind.wrap,IntKind.bits,IntKind.signed,e];rw [if_neg (by simp;omega)]
   have HF:Hid (decide ((r:Int)<0)=decide (9223372036854775808≤r)):=by
    show _=_
    rw [decide_eq_false h,decide_eq_false (by omega)]
   have h':r<9223372036854775808:=by omega
   clear h
   go_enter Tryz.func80,Tryz.ntmps80;go_wp2_with fail;go_ret;exact ⟨ar HF.out,rfl⟩
theorem CR (x:Nat) (hx:x<4294967296) (w:World):Calls Tryz.prog 122 #[.float .f32 x] w fun e w'=>e=.returned (.int .i64 (eQ x))∧w=w':=by
 have hd:=fun v=>GH x v
 cases h:oG x with
 | true =>
   have ht:(FloatKind.f32.format.order x x != some .eq)=true:=h;have HF:Hid (eQ x=2143289344):=by simp [Hid,eQ,h]
   clear h
   go_enter Tryz.func122,Tryz.ntmps122;go_wp2_with fail;go_ret;exact ⟨bY HF.out.symm,rfl⟩
 | false =>
   have ht:(FloatKind.f32.format.order x x != some .eq)=false:=h;have HF:Hid (eQ x=x):=by simp [Hid,eQ,h]
   clear h
   go_enter Tryz.func122,Tryz.ntmps122;go_wp2_with fail;go_ret;exact ⟨bY HF.out.symm,rfl⟩
theorem xe (x y:Nat) (hx:x<4294967296) (hy:y<4294967296) (w:World):Calls Tryz.prog 40 #[.float .f32 x,.float .f32 y] w fun e w'=>e=.returned (.bool (gy x y))∧w=w':=by
 cases h:oG x with
 | true =>
   have ht:(FloatKind.f32.format.order x x != some .eq)=true:=h
   cases g:oG y with
   | true =>
     have gt:(FloatKind.f32.format.order y y != some .eq)=true:=g;have HF:Hid (gy x y=true):=by simp [Hid,gy,eQ,h,g]
     clear h g
     go_enter Tryz.func40,Tryz.ntmps40;go_wp2_with fail;go_ret;exact ⟨ar HF.out.symm,rfl⟩
   | false =>
     have gt:(FloatKind.f32.format.order y y != some .eq)=false:=g;have HF:Hid (gy x y=false):=by
      show _=_
      have:eQ x=2143289344:=by simp [eQ,h]
      have e2:eQ y=y:=by simp [eQ,g]
      unfold gy;rw [this,e2,beq_eq_false_iff_ne];intro e;have:y=2143289344:=by omega
      rw [this,xu] at g;cases g
     clear h g
     go_enter Tryz.func40,Tryz.ntmps40;go_wp2_with fail;go_ret;exact ⟨ar HF.out.symm,rfl⟩
 | false =>
   have ht:(FloatKind.f32.format.order x x != some .eq)=false:=h
   cases g:oG y with
   | true =>
     have gt:(FloatKind.f32.format.order y y != some .eq)=true:=g;have HF:Hid (gy x y=false):=by
      show _=_
      have:eQ y=2143289344:=by simp [eQ,g]
      have e2:eQ x=x:=by simp [eQ,h]
      unfold gy;rw [this,e2,beq_eq_false_iff_ne];intro e;have:x=2143289344:=by omega
      rw [this,xu] at h;cases h
     clear h g
     go_enter Tryz.func40,Tryz.ntmps40;go_wp2_with fail;go_ret;exact ⟨ar HF.out.symm,rfl⟩
   | false =>
     have gt:(FloatKind.f32.format.order y y != some .eq)=false:=g;have HS:Hid (gy x y=decide (x=y)):=by
      show _=_
      have e1:eQ x=x:=by simp [eQ,h]
      have e2:eQ y=y:=by simp [eQ,g]
      unfold gy;rw [e1,e2,Bool.eq_iff_iff,beq_iff_eq,decide_eq_true_iff];omega
     cases o:(FloatKind.f32.format.order x y == some .eq) with
     | false =>
       have HF:Hid (gy x y=false):=by
        show _=_
        rw [HS.out];refine decide_eq_false (Bg (wT h) ?_)
        intro e;have e':FloatKind.f32.format.order x y=some .eq:=e;rw [e'] at o;cases o
       clear h g
       go_enter Tryz.func40,Tryz.ntmps40;go_wp2_with fail;go_ret;exact ⟨ar HF.out.symm,rfl⟩
     | true =>
       have ho:single.order x y=some .eq:=by
        have o':FloatKind.f32.format.order x y=some .eq:=by simpa using o
        exact o'
       obtain ⟨r,r1,r2,r3⟩:=yG hx (wT h);obtain ⟨s,s1,s2,s3⟩:=yG hy (wT g);have c1:∀ v:World,(convert 79 134 (.float .f32 x)).run Tryz.prog v=.ok (.float .f64 r) v:=fun v=>run_convert_float_float _ _ _ _ _ _ _ (by kernel_rfl) Tryz.underlying134 r1
       have c2:∀ v:World,(convert 79 134 (.float .f32 y)).run Tryz.prog v=.ok (.float .f64 s) v:=fun v=>run_convert_float_float _ _ _ _ _ _ _ (by kernel_rfl) Tryz.underlying134 s1
       have L1:=Oi (ua r r2 w);have L2:=Oi (ua s s2 w);have HF:Hid (gy x y=(decide (9223372036854775808≤r) == decide (9223372036854775808≤s))):=by
        show _=_
        rw [HS.out,Bool.eq_iff_iff,decide_eq_true_iff,beq_iff_eq,decide_eq_decide,r3,s3]
        constructor
        · rintro rfl;exact Iff.rfl
        · intro e
          exact I4 hx hy ho (by omega)
       clear h g r1 s1 ho r3 s3;generalize decide (9223372036854775808≤r)=br at *
       generalize decide (9223372036854775808≤s)=bs' at *
       go_enter Tryz.func40,Tryz.ntmps40;go_wp2_with fail;refine L1.out.mono ?_;rintro e w1 ⟨rfl,rfl⟩;go_wp2_with fail;refine L2.out.mono ?_;rintro e w1 ⟨rfl,rfl⟩;go_wp2_with fail;go_ret;exact ⟨ar HF.out.symm,rfl⟩
def dy (d:Nat):UInt8:=if d<10 then UInt8.ofNat (48+d) else UInt8.ofNat (87+d)
def dK:Nat→Nat→List UInt8
 | 0,_=>[]
 | k+1,u=>dK k (u / 16) ++ [dy (u % 16)]
def dF (u:Nat):List UInt8:=if u<16 then [dy u] else dF (u / 16) ++ [dy (u % 16)]
termination_by u
decreasing_by omega
theorem jy {u:Nat} (h:u<16):dF u=[dy u]:=by rw [dF,if_pos h]
theorem pf {u:Nat} (h:¬ u<16):dF u=dF (u / 16) ++ [dy (u % 16)]:=by rw [dF,if_neg h]
theorem Az:∀ k u,(dK k u).length=k
 | 0,_=>rfl
 | k+1,u=>by rw [dK,List.length_append,Az k];rfl
theorem uq (u:Nat):1≤(dF u).length:=by
 by_cases h:u<16
 · rw [jy h];simp
 · rw [pf h];simp
theorem uo:∀ k u,u<16 ^ (k+1)→(dF u).length≤k+1
 | 0,u,h=>by rw [jy (by omega)];simp
 | k+1,u,h=>by
   by_cases h16:u<16
   · rw [jy h16];simp
   · rw [pf h16,List.length_append,List.length_singleton]
     have:=uo k (u / 16) (by rw [Nat.div_lt_iff_lt_mul (by omega)];rw [Nat.pow_succ] at h;exact h)
     omega
theorem xG:∀ k,dK k 0=List.replicate k 48
 | 0=>rfl
 | k+1=>by
   rw [dK,Nat.zero_div,xG k,Nat.zero_mod,List.replicate_succ'];rfl
theorem DN:∀ k u,u<16 ^ (k+1)→List.replicate (k+1 - (dF u).length) 48 ++ dF u=dK (k+1) u
 | 0,u,h=>by
   rw [jy (by omega),dK,dK,Nat.mod_eq_of_lt (by omega)];rfl
 | k+1,u,h=>by
   by_cases h16:u<16
   · rw [jy h16,dK,Nat.div_eq_of_lt h16,xG,Nat.mod_eq_of_lt h16];rfl
   · have hd:u / 16<16 ^ (k+1):=by rw [Nat.div_lt_iff_lt_mul (by omega)];rw [Nat.pow_succ] at h;exact h
     have ih:=DN k (u / 16) hd;have hp:=uq (u / 16);rw [pf h16,dK,← ih,List.length_append,List.length_singleton,← List.append_assoc]
     congr 3
     omega
def JW (u:Nat):List UInt8:=dK 8 u
theorem JX (u:Nat):(JW u).length=8:=Az 8 u
theorem JY {u:Nat} (h:u<4294967296):(dF u).length≤8∧List.replicate (8 - (dF u).length) 48 ++ dF u=JW u:=⟨uo 7 u (by omega),DN 7 u (by omega)⟩
theorem Fb (d:Nat) (h:d<16):(48≤(dy d).toNat∧(dy d).toNat≤57)∨(97≤(dy d).toNat∧(dy d).toNat≤102) :=
 (by decide:∀ q:Fin 16,(48≤(dy q).toNat∧(dy q).toNat≤57)∨(97≤(dy q).toNat∧(dy q).toNat≤102)) ⟨d,h⟩
theorem AA:∀ k u b,b∈dK k u→(48≤b.toNat∧b.toNat≤57)∨(97≤b.toNat∧b.toNat≤102)
 | 0,_,b,h=>by cases h
 | k+1,u,b,h=>by
   rw [dK] at h
   rcases List.mem_append.1 h with h | h
   · exact AA k _ b h
   · rw [List.mem_singleton] at h
     rw [h];exact Fb _ (Nat.mod_lt _ (by omega))
def ep (b:UInt8):Nat:=(b ||| 32).toNat
def gG (b:UInt8):Option Nat:=if 48≤b.toNat∧b.toNat≤57 then some (b.toNat - 48) else if 97≤ep b∧ep b≤102 then some (ep b - 87) else none
def dZ:Nat→List UInt8→Option Nat
 | n,[]=>some n
 | n,b :: l=>match gG b with
   | none=>none
   | some d=>dZ (16 * n+d) l
def jA (l:List UInt8):Nat:=(dZ 0 l).getD 0
theorem Mv {b:UInt8} {d:Nat} (h:gG b=some d):d<16:=by
 unfold gG at h
 split at h
 · injection h with h;omega
 · split at h
   · injection h with h;omega
   · cases h
theorem se:∀ (l m:List UInt8) (n:Nat),dZ n (l ++ m)=(dZ n l).bind fun k=>dZ k m
 | [],m,n=>rfl
 | b :: l,m,n=>by
   rw [List.cons_append,dZ,dZ]
   cases gG b with
   | none=>rfl
   | some d=>exact se l m _
theorem uA:∀ (l:List UInt8) (n m:Nat),dZ n l=some m→m<(n+1) * 16 ^ l.length
 | [],n,m,h=>by rw [dZ] at h;injection h with h;subst h;simp
 | b :: l,n,m,h=>by
   rw [dZ] at h
   cases hv:gG b with
   | none=>rw [hv] at h;cases h
   | some d =>
     rw [hv] at h;have h1:=uA l _ _ h;have h2:=Mv hv;have h3:(16 * n+d+1) * 16 ^ l.length≤((n+1) * 16) * 16 ^ l.length:=Nat.mul_le_mul_right _ (by omega)
     rw [List.length_cons,Nat.pow_succ,Nat.mul_comm (16 ^ l.length) 16,← Nat.mul_assoc];omega
theorem BH {l:List UInt8} (h:l.length=8):jA l<4294967296:=by
 unfold jA
 cases hr:dZ 0 l with
 | none=>simp
 | some m =>
   have:=uA l 0 m hr;rw [h] at this;simpa using this
def du (x:Nat):Nat:=if oG x then 2143289344 else x
theorem GJ (x:Nat):eQ x=(du x:Int):=by unfold eQ du;split <;> rfl
theorem zS {x:Nat} (h:x<4294967296):du x<4294967296:=by unfold du;split <;> omega
def eR (x:Nat):List UInt8:=JW (du x)
theorem lJ (x:Nat):(eR x).length=8:=JX _
def bJ (xs:List Nat):List UInt8:=if xs=[] then sM else Lib.join (xs.map eR) [44]
def mR (p:List UInt8):Option Nat:=if p.length=8 then some (jA p) else none
def fP (l:List UInt8):Option (List Nat):=match dE mR (ex l) with
 | none=>none
 | some xs=>if xs.length≤256∧bJ xs=l then some xs else none
theorem mP {l:List UInt8} (h:dE mR (ex l)=none):fP l=none:=by unfold fP;rw [h]
theorem mQ {l:List UInt8} {xs:List Nat} (h:dE mR (ex l)=some xs):fP l=if xs.length≤256∧bJ xs=l then some xs else none:=by unfold fP;rw [h]
theorem zd {l:List UInt8} (h:256<(ex l).length):fP l=none:=by
 cases ha:dE mR (ex l) with
 | none=>exact mP ha
 | some xs=>rw [mQ ha,if_neg];rintro ⟨h1,_⟩;have:=qk ha;omega
theorem It {p:List UInt8} (h:p.length=8):mR p=some (jA p):=if_pos h
theorem Is {p:List UInt8} (h:p.length≠8):mR p=none:=if_neg h
theorem uf {α β:Type} {f:α→Option β} {Q:β→Prop} (hq:∀ x y,f x=some y→Q y):∀ {xs:List α} {ys:List β},dE f xs=some ys→∀ y∈ys,Q y
 | [],ys,h,y,hy=>by rw [dE] at h;injection h with h;subst h;cases hy
 | x :: xs,ys,h,y,hy=>by
   cases hx:f x with
   | none=>rw [oU hx] at h;cases h
   | some z =>
     rw [oZ hx] at h
     cases hr:dE f xs with
     | none=>rw [hr] at h;cases h
     | some zs =>
       rw [hr] at h;injection h with h
       subst h
       rcases List.mem_cons.1 hy with rfl | hy
       · exact hq x _ hx
       · exact uf hq hr y hy
theorem D9 {p:List UInt8} {x:Nat} (h:mR p=some x):x<4294967296:=by
 unfold mR at h
 split at h
 · rename_i hl
   injection h with h
   rw [← h];exact BH hl
 · cases h
theorem rQ {l:List UInt8} {xs:List Nat} (h:fP l=some xs):xs.length≤256∧bJ xs=l∧∀ x∈xs,x<4294967296:=by
 cases ha:dE mR (ex l) with
 | none=>rw [mP ha] at h;cases h
 | some ys =>
   rw [mQ ha] at h
   split at h
   · rename_i hc
     injection h with h
     subst h;exact ⟨hc.1,hc.2,uf (fun p y hy=>D9 hy) ha⟩
   · cases h
theorem vr (xs:List Nat):(bJ xs).length≤9 * xs.length+4:=by
 unfold bJ
 split
 · simp [sM]
 · have:=km (m:=8) (xs:=xs.map eR) (sep:=[44]) (fun x hx=>by
     obtain ⟨y,_,rfl⟩:=List.mem_map.1 hx;rw [lJ];exact Nat.le_refl _)
   rw [List.length_map] at this;simp at this;omega
theorem AB {x:Nat} {b:UInt8} (h:b∈eR x):(48≤b.toNat∧b.toNat≤57)∨(97≤b.toNat∧b.toNat≤102):=AA 8 _ b h
end Go.Proofs.YtbknhgapjjaelaaGreatDoor
