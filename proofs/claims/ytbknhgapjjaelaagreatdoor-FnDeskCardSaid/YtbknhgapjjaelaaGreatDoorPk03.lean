/-
  Part 3 of what the proof stands on: lemmas and contracts, each with its conditions ahead of the colon.
-/
import Derived.BigQuiet
import Derived.Test.YtbknhgapjjaelaaGreatDoorPk01
import Derived.Test.YtbknhgapjjaelaaGreatDoorPk02
set_option maxRecDepth 10000
set_option maxHeartbeats 4000000
namespace Go.Proofs.YtbknhgapjjaelaaGreatDoor
set_option linter.unusedVariables false
set_option linter.unusedSimpArgs false
open Go.RowKit
def cd (n:Int) (ch:List Int):Nat→List Int × Bool
 | 0=>(ch,false)
 | k+1=>if ch.getD k 0+1<n then (ch.set k (ch.getD k 0+1),true) else cd n (ch.set k 0) k
def dG (n:Nat) (ch:List Int):Nat:=ch.foldl (fun v x=>v * n+x.toNat) 0
theorem sh (n:Nat):∀ (ch:List Int) (v:Nat),ch.foldl (fun v x=>v * n+x.toNat) v=v * n ^ ch.length+dG n ch
 | [],v=>by simp [dG]
 | x :: ch,v=>by
   have e1:=sh n ch (v * n+x.toNat);have e2:=sh n ch (0 * n+x.toNat);simp only [dG,List.foldl_cons,List.length_cons] at e1 e2 ⊢;rw [e1,e2,Nat.pow_succ];simp only [Nat.zero_mul,Nat.zero_add,Nat.add_mul];rw [Nat.mul_assoc,Nat.mul_comm n,Nat.add_assoc]
theorem iK (n:Nat) (p q:List Int):dG n (p ++ q)=dG n p * n ^ q.length+dG n q:=by
 unfold dG;rw [List.foldl_append];exact sh n q _
theorem mI (n m:Nat):dG n (List.replicate m 0)=0:=by
 induction m with
 | zero=>rfl
 | succ m ih=>rw [List.replicate_succ',iK,ih];simp [dG]
theorem qa (n:Nat) (x:Int):dG n [x]=x.toNat:=by simp [dG]
def kK (n:Nat) (ch:List Int):Prop:=∀ x∈ch,0≤x∧x<n
theorem vV {n:Nat} (hn:1≤n) (ch:List Int) (h:kK n ch):dG n ch<n ^ ch.length:=by
 have:∀ m,m≤ch.length→dG n (ch.take m)<n ^ m:=by
  intro m
  induction m with
  | zero=>intro _;simp [dG]
  | succ m ih =>
    intro hm;have hx:=h _ (List.getElem_mem (show m<ch.length by omega))
    rw [List.take_succ_eq_append_getElem (by omega),iK,qa]
    have h1:=ih (by omega)
    have h2:(dG n (ch.take m)+1) * n≤n ^ m * n:=Nat.mul_le_mul_right n h1;rw [Nat.pow_succ];rw [Nat.add_mul] at h2;simp only [List.length_singleton,Nat.pow_one];omega
 have:=this ch.length (Nat.le_refl _);rwa [List.take_length] at this
theorem AX {n:Nat} (hn:1≤n):∀ (k:Nat) {p q:List Int},p.length=k→q.length=k→kK n p→kK n q→dG n p=dG n q→p=q
 | 0,p,q,h1,h2,_,_,_=>by rw [List.eq_nil_of_length_eq_zero h1,List.eq_nil_of_length_eq_zero h2]
 | k+1,p,q,h1,h2,hp,hq,h=>by
   obtain ⟨p',x,rfl⟩:∃ p' x,p=p' ++ [x]:=⟨p.dropLast,p.getLast (by intro e;subst e;simp at h1),(List.dropLast_concat_getLast _).symm⟩
   obtain ⟨q',y,rfl⟩:∃ q' y,q=q' ++ [y]:=⟨q.dropLast,q.getLast (by intro e;subst e;simp at h2),(List.dropLast_concat_getLast _).symm⟩
   rw [iK,iK,qa,qa] at h;simp only [List.length_singleton,Nat.pow_one] at h;have hx:=hp x (by simp)
   have hy:=hq y (by simp)
   have h3:dG n p'=dG n q':=by
    have e1:(dG n p' * n+x.toNat) / n=dG n p':=by rw [Nat.mul_comm,Nat.mul_add_div (by omega),Nat.div_eq_of_lt (by omega)];rfl
    have e2:(dG n q' * n+y.toNat) / n=dG n q':=by rw [Nat.mul_comm,Nat.mul_add_div (by omega),Nat.div_eq_of_lt (by omega)];rfl
    rw [← e1,← e2,h]
   have h4:x=y:=by rw [h3] at h;omega
   rw [AX hn k (by simpa using h1) (by simpa using h2) (fun z hz=>hp z (by simp [hz])) (fun z hz=>hq z (by simp [hz])) h3,h4]
theorem oP {n:Nat} (hn:1≤n):∀ (k m:Nat) (p:List Int),p.length=k→kK n p →
 ((cd n (p ++ List.replicate m 0) k).2=true→(cd n (p ++ List.replicate m 0) k).1.length=k+m∧kK n (cd n (p ++ List.replicate m 0) k).1∧dG n (cd n (p ++ List.replicate m 0) k).1=dG n (p ++ List.replicate m 0)+n ^ m) ∧
 ((cd n (p ++ List.replicate m 0) k).2=false→dG n (p ++ List.replicate m 0)+n ^ m=n ^ (k+m))
 | 0,m,p,hp,_=>by
   have:p=[]:=List.eq_nil_of_length_eq_zero hp;subst this;refine ⟨fun h=>by simp [cd] at h,fun _=>?_⟩
   rw [List.nil_append,mI,Nat.zero_add,Nat.zero_add]
 | k+1,m,p,hp,hd=>by
   obtain ⟨p',x,rfl⟩:∃ p' x,p=p' ++ [x]:=⟨p.dropLast,p.getLast (by intro e;subst e;simp at hp),(List.dropLast_concat_getLast _).symm⟩
   have hk:p'.length=k:=by simpa using hp
   have hx:=hd x (by simp)
   have hd':kK n p':=fun z hz=>hd z (by simp [hz])
   have e1:(p' ++ [x] ++ List.replicate m 0).getD k 0=x:=by simp [List.getD,List.getElem?_append_right,hk]
   have e2:∀ v:Int,(p' ++ [x] ++ List.replicate m 0).set k v=p' ++ [v] ++ List.replicate m 0:=by
    intro v;rw [List.append_assoc,List.set_append_right _ _ (by omega),hk,Nat.sub_self]
    simp
   have e3:p' ++ [0] ++ List.replicate m 0=p' ++ List.replicate (m+1) (0:Int):=by rw [List.replicate_succ];simp
   rw [cd,e1,e2,e2];have v1:∀ v:Int,dG n (p' ++ [v] ++ List.replicate m 0)=(dG n p' * n+v.toNat) * n ^ m:=by
    intro v;rw [iK,iK,mI,qa];simp
   by_cases hlt:x+1<n
   · rw [if_pos hlt]
     refine ⟨fun _=>⟨by simp;omega,?_,?_⟩,fun h=>by cases h⟩
     · intro z hz
       simp only [List.mem_append,List.mem_singleton] at hz
       rcases hz with (hz | rfl) | hz
       · exact hd' z hz
       · omega
       · rw [List.eq_of_mem_replicate hz];omega
     · show dG n (p' ++ [x+1] ++ List.replicate m 0)=_
       rw [v1,v1,show (x+1).toNat=x.toNat+1 by omega,← Nat.add_assoc,Nat.add_mul _ 1,Nat.one_mul]
   · rw [if_neg hlt,e3]
     obtain ⟨i1,i2⟩:=oP hn k (m+1) p' hk hd';have v2:dG n (p' ++ List.replicate (m+1) 0)+(n - 1) * n ^ m=dG n (p' ++ [x] ++ List.replicate m 0):=by
      rw [← e3,v1,v1,show x.toNat=n - 1 by omega]
      simp [Nat.add_mul]
     have v3:n ^ (m+1)=(n - 1) * n ^ m+n ^ m:=by
      rw [Nat.pow_succ,Nat.mul_comm,Nat.sub_mul,Nat.one_mul];have:1 * n ^ m≤n * n ^ m:=Nat.mul_le_mul_right _ hn;omega
     refine ⟨fun h=>?_,fun h=>?_⟩
     · obtain ⟨j1,j2,j3⟩:=i1 h
       exact ⟨by omega,j2,by omega⟩
     · have:=i2 h
       rw [show k+1+m=k+(m+1) by omega]
       omega
def cu (n U:Nat):Nat→List Int
 | 0=>List.replicate U 0
 | t+1=>(cd n (cu n U t) U).1
theorem vO (n:Int):∀ (k:Nat) (ch:List Int),(cd n ch k).1.length=ch.length
 | 0,ch=>rfl
 | k+1,ch=>by
   rw [cd]
   split
   · simp
   · rw [vO n k];simp
theorem fH (n U:Nat):∀ t,(cu n U t).length=U
 | 0=>by simp [cu]
 | t+1=>by rw [cu,vO,fH n U t]
theorem mx {n:Nat} (hn:1≤n) (U:Nat):∀ t,t<n ^ U→kK n (cu n U t)∧dG n (cu n U t)=t∧((cd n (cu n U t) U).2=decide (t+1<n ^ U))
 | 0,h=>by
   have hd:kK n (List.replicate U 0):=fun x hx=>by rw [List.eq_of_mem_replicate hx];omega
   refine ⟨hd,mI n U,?_⟩
   obtain ⟨i1,i2⟩:=oP hn U 0 (List.replicate U 0) (by simp) hd
   simp only [List.replicate_zero,List.append_nil,mI,Nat.pow_zero,Nat.zero_add,Nat.add_zero] at i1 i2;rw [cu]
   cases hb:(cd n (List.replicate U 0) U).2 with
   | true =>
     obtain ⟨j1,j2,j3⟩:=i1 hb;have:=vV hn _ j2;rw [j1,j3] at this;simp [this]
   | false=>have:=i2 hb;simp;omega
 | t+1,h=>by
   obtain ⟨h1,h2,h3⟩:=mx hn U t (by omega)
   obtain ⟨i1,i2⟩:=oP hn U 0 (cu n U t) (fH n U t) h1;simp only [List.replicate_zero,List.append_nil,Nat.pow_zero,Nat.add_zero] at i1 i2;rw [h3,decide_eq_true h] at i1;obtain ⟨j1,j2,j3⟩:=i1 rfl;rw [h2] at j3;refine ⟨j2,j3,?_⟩
   obtain ⟨k1,k2⟩:=oP hn U 0 (cu n U (t+1)) (fH n U _) j2;simp only [List.replicate_zero,List.append_nil,Nat.pow_zero,Nat.add_zero] at k1 k2;rw [show dG n (cu n U (t+1))=t+1 from j3] at k1 k2
   cases hb:(cd n (cu n U (t+1)) U).2 with
   | true =>
     obtain ⟨l1,l2,l3⟩:=k1 hb;have:=vV hn _ l2;rw [l1,l3] at this;simp [this]
   | false=>have:=k2 hb;simp;omega
theorem Lc {n:Nat} (hn:1≤n) {U:Nat} {ch:List Int} (hl:ch.length=U) (hd:kK n ch):dG n ch<n ^ U∧ch=cu n U (dG n ch):=by
 have hv:=vV hn ch hd;rw [hl] at hv;obtain ⟨h1,h2,_⟩:=mx hn U _ hv;exact ⟨hv,AX hn U hl (fH _ _ _) hd h1 h2.symm⟩
def cD (c:Cr) (ch:List Int):Int:=gu (df c ch) c.U.toNat
abbrev dQ:=Option (List Int × Int)
def dd (c:Cr) (ch:List Int):dQ→dQ
 | none=>some (ch,cD c ch)
 | some (b,l)=>if cD c ch<l then some (ch,cD c ch) else some (b,l)
def cJ (c:Cr) (ch:List Int) (s:dQ):dQ :=
 if (cQ c ch).isSome then s else match s with
  | none=>some (ch,cD c ch)
  | some (b,m)=>if m<cD c ch then some (ch,cD c ch) else some (b,m)
def dH (n U:Nat) (f:List Int→dQ→dQ):Nat→dQ
 | 0=>none
 | t+1=>f (cu n U t) (dH n U f t)
def gi (c:Cr):Bool:=decide (c.ways.length ^ c.U.toNat≤4096)
def jh (c:Cr):dQ:=if bt c && gi c then dH c.ways.length c.U.toNat (dd c) (c.ways.length ^ c.U.toNat) else none
def jf (c:Cr):dQ:=if bt c && gi c then dH c.ways.length c.U.toNat (cJ c) (c.ways.length ^ c.U.toNat) else none
theorem um {c:Cr} (h:Valid c) {t:Nat} (ht:t<c.ways.length ^ c.U.toNat):Can c (cu c.ways.length c.U.toNat t) :=
 ⟨h,by have:=fH c.ways.length c.U.toNat t;have:=h.u1;omega,fun x hx=>(mx h.w1 _ t ht).1 x hx⟩
theorem CI {c:Cr} (h:Valid c):0<c.ways.length ^ c.U.toNat:=Nat.pow_pos h.w1
theorem uA {c:Cr} {t:Nat}:(dH c.ways.length c.U.toNat (dd c) (t+1)).isSome:=by
 rw [dH]
 cases dH c.ways.length c.U.toNat (dd c) t with
 | none=>rfl
 | some p =>
   obtain ⟨b,l⟩:=p;simp only [dd]
   split <;> rfl
theorem EK {c:Cr} {ch:List Int} {s:dQ} (h:s.isSome):(cJ c ch s).isSome:=by
 unfold cJ
 split
 · exact h
 · cases s with
   | none=>rfl
   | some p =>
     obtain ⟨b,m⟩:=p;simp only
     split <;> rfl
theorem F2 {c:Cr} {ch:List Int} {s:dQ} (h:cQ c ch=none):(cJ c ch s).isSome:=by
 unfold cJ;rw [h];simp only [Option.isSome_none,Bool.false_eq_true,if_false]
 cases s with
 | none=>rfl
 | some p =>
   obtain ⟨b,m⟩:=p;simp only
   split <;> rfl
theorem uw {c:Cr} (h:Valid c):(dH c.ways.length c.U.toNat (cJ c) (c.ways.length ^ c.U.toNat)).isSome:=by
 have hc:=um h (CI h);obtain ⟨h1,h2,_⟩:=qg hc;obtain ⟨h3,h4⟩:=Lc h.w1 (U:=c.U.toNat) (by have:=h1.len;omega) (fun x hx=>h1.mem x hx)
 have key:∀ t,dG c.ways.length (eH c (cu c.ways.length c.U.toNat 0)).1<t→(dH c.ways.length c.U.toNat (cJ c) t).isSome:=by
  intro t
  induction t with
  | zero=>intro h;omega
  | succ t ih =>
    intro hlt;rw [dH]
    by_cases e:t=dG c.ways.length (eH c (cu c.ways.length c.U.toNat 0)).1
    · rw [e,← h4]
      exact F2 h2
    · exact EK (ih (by omega))
 exact key _ h3
theorem ug {c:Cr} (h:Valid c) (ch:List Int):-6400000≤cD c ch∧cD c ch≤6400000:=by
 have:=nr (f:=df c ch) (m:=800000) (n:=c.U.toNat) (fun i _=>wH h ch i)
 have:=h.u8;unfold cD;omega
def RdCrowd (w:World) (B:Nat) (a2:Option Addr) (x2:List Int) (a3:Option Addr) (x3:List Int):Prop:=Rd w B a2 (ae x2)∧Rd w B a3 (ae x3)
def OwnCrowd (w:World) (lo hi:Nat) (a2:Option Addr) (c2:Nat) (x2:List Int) (a3:Option Addr) (c3:Nat) (x3:List Int):Prop :=
 ∃ m3:Nat,(lo≤m3∧m3≤hi)∧OwnI 2 w lo m3 a2 c2 x2∧OwnI 2 w m3 hi a3 c3 x3
section
variable {w w':World} {B C lo hi:Nat} {a2:Option Addr} {x2:List Int} {a3:Option Addr} {x3:List Int} {c2:Nat} {c3:Nat}
theorem RdCrowd.below (h:RdCrowd w B a2 x2 a3 x3) (hb:Below C w w') (hB:B≤C):RdCrowd w' B a2 x2 a3 x3:=⟨Rd.below (h.1) hb hB,Rd.below (h.2) hb hB⟩
theorem RdCrowd.mono (h:RdCrowd w B a2 x2 a3 x3) (hB:B≤C):RdCrowd w C a2 x2 a3 x3:=⟨Rd.mono (h.1) hB,Rd.mono (h.2) hB⟩
theorem RdCrowd.to (h:RdCrowd w w.heap.size a2 x2 a3 x3) (hb:Below w.heap.size w w'):RdCrowd w' w'.heap.size a2 x2 a3 x3:=(h.below hb (Nat.le_refl _)).mono hb.size
theorem OwnCrowd.rd (h:OwnCrowd w lo hi a2 c2 x2 a3 c3 x3):RdCrowd w hi a2 x2 a3 x3:=by
 obtain ⟨m3,hm,o2,o3⟩:=h;exact ⟨o2.rd.mono (by omega),o3.rd.mono (by omega)⟩
end
theorem Dj {U R:Int} (u1:1≤U) (u8:U≤8) (r1:1≤R) (r8:R≤8):1≤U * R∧U * R≤64:=by
 have h1:1 * 1≤U * R:=Int.mul_le_mul u1 r1 (by omega) (by omega)
 have h2:U * R≤8 * 8:=Int.mul_le_mul u8 r8 (by omega) (by omega)
 omega
theorem Ma {R:Int} (r1:1≤R) (r8:R≤8):2≤(2:Int) ^ R.toNat∧(2:Int) ^ R.toNat≤256:=by
 have:R=1∨R=2∨R=3∨R=4∨R=5∨R=6∨R=7∨R=8:=by omega
 rcases this with rfl | rfl | rfl | rfl | rfl | rfl | rfl | rfl <;> decide
theorem IX {R:Int} (r1:1≤R) (r8:R≤8):wrap64 (wrap64 (2 ^ R.toNat) - 1)=2 ^ R.toNat - 1:=by
 have:=Ma r1 r8;rw [IntWalk.wrap64_in (2 ^ R.toNat) (by omega),IntWalk.wrap64_in _ (by omega)]
theorem dD (w:World) (U R:Int) (a2:Option Addr) (c2:Nat) (x2:List Int) (a3:Option Addr) (c3:Nat) (x3:List Int) (h:RdCrowd w w.heap.size a2 x2 a3 x3) (hl2:x2.length≤1048576) (hl3:x3.length≤1048576) :
 Calls Tryz.prog 34 #[.agg #[.int .i64 U,.int .i64 R,.slice a2 x2.length c2,.slice a3 x3.length c3]] w fun e w'=>e=.returned (.bool (bt ⟨U,R,x2,x3⟩))∧Below w.heap.size w w':=by
 have LU:=Na (fun v=>du U 1 8 v)
 have LR:=Na (fun v=>du R 1 8 v)
 cases t1:eu U 1 8 with
 | false =>
   have HF:Hid (bt ⟨U,R,x2,x3⟩=false):=by simp [Hid,bt,t1]
   rw [t1] at LU;clear h
   go_enter Tryz.func34,Tryz.ntmps34;go_wp2_with fail
   go_quiet ((go_at_call 74;with_reducible exact tD (LU.out _)))
   go_wp2_with fail;go_ret;exact ⟨av HF.out.symm,ag (ah _ _) _⟩
 | true =>
   rw [t1] at LU
   cases t2:eu R 1 8 with
   | false =>
     have HF:Hid (bt ⟨U,R,x2,x3⟩=false):=by simp [Hid,bt,t1,t2]
     rw [t2] at LR;clear h
     go_enter Tryz.func34,Tryz.ntmps34;go_wp2_with fail
     go_quiet (first | (go_at_call 74;with_reducible exact tD (LU.out _)) | (go_at_call 74;with_reducible exact tD (LR.out _)))
     go_wp2_with fail;go_ret;exact ⟨av HF.out.symm,ag (ah _ _) _⟩
   | true =>
     rw [t2] at LR;obtain ⟨u1,u8⟩:=bH.1 t1;obtain ⟨r1,r8⟩:=bH.1 t2;obtain ⟨p1,p2⟩:=Dj u1 u8 r1 r8;have epw:=IX r1 r8;have LW0:=Na (fun v hb=>hH v a2 c2 x2 1 8 1 (wrap64 (wrap64 (2 ^ R.toNat) - 1)) (Rd.to h.1 hb) (by omega))
     have LC0:=Na (fun v hb=>hH v a3 c3 x3 (U * R) (U * R) (-100000) 100000 (Rd.to h.2 hb) (by omega))
     have LW:=Na (fun n=>LW0.out _ (ag (ah w (.cells #[.int .i64 U,.int .i64 R,.slice a2 x2.length c2,.slice a3 x3.length c3] 30)) n))
     have LC:=Na (fun n=>LC0.out _ (ag (ah w (.cells #[.int .i64 U,.int .i64 R,.slice a2 x2.length c2,.slice a3 x3.length c3] 30)) n))
     clear LW0 LC0;have HF:Hid (bt ⟨U,R,x2,x3⟩=(cH x2 1 8 1 (wrap64 (wrap64 (2 ^ R.toNat) - 1)) && cH x3 (U * R) (U * R) (-100000) 100000)):=by
      show _=_
      rw [epw];simp only [bt,t1,t2,Bool.true_and]
     clear epw
     cases t3:cH x2 1 8 1 (wrap64 (wrap64 (2 ^ R.toNat) - 1)) with
     | false =>
       have HF2:Hid (bt ⟨U,R,x2,x3⟩=false):=by rw [Hid,HF.out,t3];rfl
       rw [t3] at LW;clear t3
       go_enter Tryz.func34,Tryz.ntmps34;go_wp2_with fail
       go_quiet (first | (go_at_call 74;with_reducible exact tD (LU.out _)) | (go_at_call 74;with_reducible exact tD (LR.out _)) | (go_at_call 75;exact tD (LW.out _)))
       go_wp2_with fail;go_ret;exact ⟨av HF2.out.symm,ag (ah _ _) _⟩
     | true =>
       have HF2:Hid (bt ⟨U,R,x2,x3⟩=cH x3 (U * R) (U * R) (-100000) 100000):=by rw [Hid,HF.out,t3];rfl
       rw [t3] at LW;clear t3
       go_enter Tryz.func34,Tryz.ntmps34;go_wp2_with fail
       go_quiet (first | (go_at_call 74;with_reducible exact tD (LU.out _)) | (go_at_call 74;with_reducible exact tD (LR.out _)) | (go_at_call 75;with_reducible exact tD (LC.out _)) | (go_at_call 75;exact tD (LW.out _)))
       go_wp2_with fail;go_ret;exact ⟨av HF2.out.symm,ag (ah _ _) _⟩
theorem af {w:World} {g:Nat} {t:TypeId} {v0 v1 v2 v3 v4 v5 v6 v7 v8 v9 v10 v11:Value} (h:Blk w g [v0,v1,v2,v3,v4,v5,v6,v7,v8,v9,v10,v11] t) :
 w.cell? ⟨g,0,none⟩=some v0∧w.cell? ⟨g,1,none⟩=some v1∧w.cell? ⟨g,2,none⟩=some v2∧w.cell? ⟨g,3,none⟩=some v3∧w.cell? ⟨g,4,none⟩=some v4∧w.cell? ⟨g,5,none⟩=some v5∧w.cell? ⟨g,6,none⟩=some v6∧w.cell? ⟨g,7,none⟩=some v7∧w.cell? ⟨g,8,none⟩=some v8∧w.cell? ⟨g,9,none⟩=some v9∧w.cell? ⟨g,10,none⟩=some v10∧w.cell? ⟨g,11,none⟩=some v11 :=
 ⟨h.cell 0,h.cell 1,h.cell 2,h.cell 3,h.cell 4,h.cell 5,h.cell 6,h.cell 7,h.cell 8,h.cell 9,h.cell 10,h.cell 11⟩
def gj (R C:Int) (xA xB:List Int) (P T:Int) (xV:List Int) (U N:Int) (xW xC:List Int) (xT:List Nat):Bool:=bY R C xA xB && bu P T xV && bt ⟨U,N,xW,xC⟩ && iE xT
structure RdDesk (w:World) (Z:Nat) (aA:Option Addr) (xA:List Int) (aB:Option Addr) (xB:List Int) (aV:Option Addr) (xV:List Int) (aW:Option Addr) (xW:List Int) (aC:Option Addr) (xC:List Int) (aT:Option Addr) (xT:List Nat):Prop where
 A:Rd w Z aA (ae xA)
 B:Rd w Z aB (ae xB)
 V:Rd w Z aV (ae xV)
 W:Rd w Z aW (ae xW)
 C:Rd w Z aC (ae xC)
 T:Rd w Z aT (dt xT)
theorem RdDesk.to {w w':World} {aA aB aV aW aC aT:Option Addr} {xA xB xV xW xC:List Int} {xT:List Nat} (h:RdDesk w w.heap.size aA xA aB xB aV xV aW xW aC xC aT xT) (hb:Below w.heap.size w w'):RdDesk w' w'.heap.size aA xA aB xB aV xV aW xW aC xC aT xT :=
 ⟨h.A.to hb,h.B.to hb,h.V.to hb,h.W.to hb,h.C.to hb,h.T.to hb⟩
def aQ (C:Nat) (xs:List Int) (i k:Nat):Int:=xs.getD (i * C+k) 0
theorem dE {R C i k:Nat} (hi:i<R) (hk:k<C):i * C+k<R * C:=by
 have h:i * C+C≤R * C:=by
  have:=Nat.mul_le_mul_right C (show i+1≤R from hi)
  rw [Nat.add_mul,Nat.one_mul] at this;exact this
 omega
def aD (R C:Nat) (xs:List Int) (m:Nat):List Int:=(List.range m).map fun j=>aQ C xs (j % R) (j / R)
theorem mt (R C:Nat) (xs:List Int) (m:Nat):(aD R C xs m).length=m:=by simp [aD]
theorem vE {R C:Nat} (xs:List Int) {k i:Nat} (hi:i<R):aD R C xs (k * R+i+1)=aD R C xs (k * R+i) ++ [aQ C xs i k]:=by
 have e1:(k * R+i) % R=i:=by rw [Nat.add_comm,Nat.add_mul_mod_self_right,Nat.mod_eq_of_lt hi]
 have e2:(k * R+i) / R=k:=by rw [Nat.add_comm,Nat.add_mul_div_right _ _ (by omega),Nat.div_eq_of_lt hi];omega
 unfold aD;rw [List.range_succ,List.map_append,List.map_singleton,e1,e2]
def nJ (C:Nat) (xs:List Int) (i j:Nat):Bool:=!iz (fun k=>decide (aQ C xs j k≤aQ C xs i k)) C
def fi (R C:Nat) (xs:List Int) (n:Nat):List Int:=((List.range n).filter fun i=>iz (nJ C xs i) R).map fun (j:Nat)=>(j:Int)
theorem Cz (R C:Nat) (xs:List Int) (n:Nat):fi R C xs (n+1)=if iz (nJ C xs n) R=true then fi R C xs n ++ [(n:Int)] else fi R C xs n:=by
 unfold fi;rw [List.range_succ,List.filter_append]
 by_cases h:iz (nJ C xs n) R=true
 · rw [if_pos h];simp [h]
 · rw [if_neg h];simp [h]
theorem qH (R C:Nat) (xs:List Int) (n:Nat):(fi R C xs n).length≤n:=by
 unfold fi;rw [List.length_map];exact Nat.le_trans (List.length_filter_le _ _) (by simp)
theorem vw {R C:Nat} {xs:List Int} {n:Nat} {z:Int} (h:z∈fi R C xs n):∃ j:Nat,z=(j:Int)∧j<n:=by
 unfold fi at h;obtain ⟨j,hj,rfl⟩:=List.mem_map.1 h;exact ⟨j,rfl,List.mem_range.1 (List.mem_filter.1 hj).1⟩
def il (C:Nat) (xs rows cols:List Int):List Int:=rows.flatMap fun i=>cols.map fun k=>aQ C xs i.toNat k.toNat
theorem sK (C:Nat) (xs rows cols:List Int):(il C xs rows cols).length=rows.length * cols.length:=by
 unfold il
 induction rows with
 | nil=>simp
 | cons i rows ih=>rw [List.flatMap_cons,List.length_append,ih,List.length_map,List.length_cons,Nat.add_mul,Nat.one_mul,Nat.add_comm]
theorem Lv (C:Nat) (xs cols:List Int) {rows:List Int} {k:Nat} {i:Int} (h:rows[k]? = some i):il C xs (rows.take (k+1)) cols=il C xs (rows.take k) cols ++ cols.map fun k=>aQ C xs i.toNat k.toNat:=by
 unfold il;rw [List.take_add_one,h,List.flatMap_append];simp
def eF (list places:List Int) (n:Nat):List Int:=((List.range n).filter fun (j:Nat)=>!bF places (j:Int)).map fun j=>list.getD j 0
theorem tH (list places:List Int) (n:Nat):eF list places (n+1)=if bF places (n:Int)=true then eF list places n else eF list places n ++ [list.getD n 0]:=by
 unfold eF;rw [List.range_succ,List.filter_append]
 by_cases h:bF places (n:Int)=true
 · rw [if_pos h];simp [h]
 · rw [if_neg h];simp [h]
theorem nh (list places:List Int) (n:Nat):(eF list places n).length≤n:=by
 unfold eF;rw [List.length_map];exact Nat.le_trans (List.length_filter_le _ _) (by simp)
theorem uM {list places:List Int} {n:Nat} (hn:n≤list.length) {z:Int} (h:z∈eF list places n):z∈list:=by
 unfold eF at h;obtain ⟨j,hj,rfl⟩:=List.mem_map.1 h;have:=List.mem_range.1 (List.mem_filter.1 hj).1;rw [List.getD,List.getElem?_eq_getElem (show j<list.length by omega)]
 exact List.getElem_mem _
def fM (f:Nat→Int):Nat→List Int
 | 0=>[]
 | i+1=>match fM f i with
   | []=>[(i:Int)]
   | o :: t=>if f i<f o.toNat then o :: t else if f o.toNat<f i then [(i:Int)] else o :: t ++ [(i:Int)]
theorem pf (f:Nat→Int):∀ i,(fM f i).length≤i
 | 0=>by simp [fM]
 | i+1=>by
   have ih:=pf f i;rw [fM]
   split
   · simp
   · rename_i o t h
     rw [h] at ih
     split
     · omega
     · split
       · simp
       · simp only [List.length_append,List.length_cons,List.length_nil] at ih ⊢;omega
theorem rH (f:Nat→Int):∀ i,∀ z∈fM f i,∃ j:Nat,z=(j:Int)∧j<i
 | 0,z,h=>by simp [fM] at h
 | i+1,z,h=>by
   have ih:=rH f i;rw [fM] at h
   split at h
   · rw [List.mem_singleton] at h
     exact ⟨i,h,by omega⟩
   · rename_i o t hb
     have old:∀ z∈o :: t,∃ j:Nat,z=(j:Int)∧j<i+1:=fun z hz=>by
      obtain ⟨j,h1,h2⟩:=ih z (by rw [hb];exact hz)
      exact ⟨j,h1,by omega⟩
     split at h
     · exact old z h
     · split at h
       · rw [List.mem_singleton] at h
         exact ⟨i,h,by omega⟩
       · rcases List.mem_append.1 h with h | h
         · exact old z h
         · rw [List.mem_singleton] at h
           exact ⟨i,h,by omega⟩
theorem Ft (f:Nat→Int) (i:Nat):fM f (i+1)≠[]:=by
 rw [fM]
 split
 · simp
 · split
   · simp
   · split
     · simp
     · simp
def dg (R C:Nat) (xs:List Int) (k:Nat):List Int:=fM (fun i=>aQ C xs i k) R
def yJ (R C:Nat) (xs ys:List Int) (m:Nat):Bool:=bF (dg R C xs (m % C)) ((m / C:Nat):Int) && bF (dg C R ys (m / C)) ((m % C:Nat):Int)
def ek (R C:Nat) (xs ys:List Int) (m:Nat):List Int:=((List.range m).filter (yJ R C xs ys)).map fun (j:Nat)=>(j:Int)
theorem Fj {R C:Nat} (xs ys:List Int) {i k:Nat} (hk:k<C):ek R C xs ys (i * C+k+1)=if (bF (dg R C xs k) (i:Int) && bF (dg C R ys i) (k:Int))=true then ek R C xs ys (i * C+k) ++ [((i * C+k:Nat):Int)] else ek R C xs ys (i * C+k):=by
 have e1:(i * C+k) % C=k:=by rw [Nat.add_comm,Nat.add_mul_mod_self_right,Nat.mod_eq_of_lt hk]
 have e2:(i * C+k) / C=i:=by rw [Nat.add_comm,Nat.add_mul_div_right _ _ (by omega),Nat.div_eq_of_lt hk];omega
 have hB:yJ R C xs ys (i * C+k)=(bF (dg R C xs k) (i:Int) && bF (dg C R ys i) (k:Int)):=by
  unfold yJ;rw [e1,e2]
 rw [← hB];unfold ek;rw [List.range_succ,List.filter_append]
 by_cases h:yJ R C xs ys (i * C+k)=true
 · rw [if_pos h];simp [h]
 · rw [if_neg h];simp [h]
theorem xq (R C:Nat) (xs ys:List Int) (m:Nat):(ek R C xs ys m).length≤m:=by
 unfold ek;rw [List.length_map];exact Nat.le_trans (List.length_filter_le _ _) (by simp)
def gd (f:Nat→Int):Nat→Int
 | 0=>f 0
 | n+1=>min (gd f n) (f (n+1))
def eJ (R C:Nat) (xs:List Int):Nat→Int × Int
 | 0=>(0,0)
 | i+1=>if i=0∨(eJ R C xs i).2<gd (aQ C xs i) (C - 1) then ((i:Int),gd (aQ C xs i) (C - 1)) else eJ R C xs i
theorem jY {C i k n:Nat} (h:i * C+k<n) (hn:n≤1048576):∃ J:Nat,(i:Int) * (C:Int)+(k:Int)=(J:Int)∧J<n∧J=i * C+k∧0≤(i:Int) * (C:Int)∧(i:Int) * (C:Int)≤1048576:=by
 have e:(i:Int) * (C:Int)=((i * C:Nat):Int):=(Int.natCast_mul i C).symm;refine ⟨i * C+k,by rw [e,Int.natCast_add],h,rfl,by rw [e];omega,by rw [e];omega⟩
theorem oe (w:World) (R:Int) (C i k:Nat) (aA:Option Addr) (cA:Nat) (xA:List Int) (vB:Value) (h:Rd w w.heap.size aA (ae xA)) (hi:i * C+k<xA.length) (hl:xA.length≤1048576) :
 Calls Tryz.prog 143 #[.agg #[.int .i64 R,.int .i64 C,.slice aA xA.length cA,vB],.int .i64 i,.int .i64 k] w fun e w'=>e=.returned (.int .i64 (aQ C xA i k))∧Below w.heap.size w w':=by
 obtain ⟨J,hJ,hJl,hJe,m0,m1⟩:=jY hi hl;obtain ⟨b,o,y,rfl,hbb,hck,hy⟩:=h.get (k:=J) hJl;have HF:Hid (aQ C xA i k=y):=by
  unfold aQ;rw [Hid,← hJe];exact bZ hy.out
 have hbb':b≠w.heap.size:=by omega
 clear h hy hi hJe
 go_enter Tryz.func143,Tryz.ntmps143;go_wp2_with fail;go_ret;exact ⟨ce HF.out.symm,ah _ _⟩
theorem Ax (w:World) (R:Int) (C i k:Nat) (vA:Value) (aB:Option Addr) (cB:Nat) (xB:List Int) (h:Rd w w.heap.size aB (ae xB)) (hi:i * C+k<xB.length) (hl:xB.length≤1048576) :
 Calls Tryz.prog 144 #[.agg #[.int .i64 R,.int .i64 C,vA,.slice aB xB.length cB],.int .i64 i,.int .i64 k] w fun e w'=>e=.returned (.int .i64 (aQ C xB i k))∧Below w.heap.size w w':=by
 obtain ⟨J,hJ,hJl,hJe,m0,m1⟩:=jY hi hl;obtain ⟨b,o,y,rfl,hbb,hck,hy⟩:=h.get (k:=J) hJl;have HF:Hid (aQ C xB i k=y):=by
  unfold aQ;rw [Hid,← hJe];exact bZ hy.out
 have hbb':b≠w.heap.size:=by omega
 clear h hy hi hJe
 go_enter Tryz.func144,Tryz.ntmps144;go_wp2_with fail;go_ret;exact ⟨ce HF.out.symm,ah _ _⟩
theorem zQ {P:Program} (w:World) (base:Nat) (t ty e:TypeId) (i:TypeInfo) (z:Value) (ht:P.underlying t=some (.slice e)) (hi:P.info? e=some i) (hz:i.zero=some z) (hsize:i.size=1)
 (v:Value) (n:Nat) (xs:List Value) (hown:w.ownsRow base e 1 v n xs) (a:Addr) (m c:Nat) (news:List Value) (hl:news.length=m * 1) (hnews:∀ j u,news[j]? = some u→w.cell? (a.add j)=some u) (h1:∀ u∈news,u.oneCell'=true)
 (hm:0<m) (h63:n+m≤maxLen) (hbytes:(n+m) * i.bytes≤140737488355328) {v':Value} {w':World} (hr:(Builtin.append_ #[t,t] ty #[v,.slice (some a) m c]).run P w=.ok v' w') :
 v'.ownBlock=v.ownBlock∨v'.ownBlock=some w.heap.size:=by
 have hsmall:n+m≤9223372036854775807:=by simp only [maxLen] at h63;omega
 rw [← hsize] at hl
 rcases hown.2 with ⟨rfl,rfl⟩ | ⟨g,cap,cur,rfl,hbg,hg,hnc,hcm,hcs,htake⟩
 · have hr2:=run_append_nil (P:=P) w t ty e i z ht hi hz a m c news hl hnews (by omega) (by omega) (by have hb:=hbytes;simp only [Nat.zero_add] at hb;omega)
   rw [hr2] at hr;injection hr with hr _
   subst hr;exact .inr rfl
 · by_cases hroom:n+m≤cap
   · have hfit:n * i.size+news.length≤cur.size:=by rw [hl,hcs,hsize,← Nat.add_mul];exact Nat.mul_le_mul_right _ hroom
     have hr2:=run_append_room (P:=P) w t ty e i ht hi g n cap cur hg a m c news hl hnews h1 hroom hfit;rw [hr2] at hr;injection hr with hr _
     subst hr;exact .inl rfl
   · have holds:∀ j u,xs[j]? = some u→w.cell? ((⟨g,0,none⟩:Addr).add j)=some u:=hown.cells (g:=g) rfl
     have hr2:=run_append_grow (P:=P) w t ty e i z ht hi hz ⟨g,0,none⟩ n cap xs (by rw [hsize];exact hown.1) holds a m c news hl hnews (by omega) (by omega) (growslice_fits (by omega) hbytes)
     rw [hr2] at hr;injection hr with hr _
     subst hr;exact .inr rfl
theorem aP {P:Program} (wr:World) {ops:Array Oper} {rest:List Oper} {o:Oper} {a:Act} {Q:Exit→Act→World→Prop}
 (hg:o.guard=none) (s x:Operand) (t:TypeId) (hop:o.op=Op.call { callee:=Callee.builtin Builtin.append,args:=#[s,x],argTypes:=#[t,t] })
 (base:Nat) (e:TypeId) (z:Value) (bytes:Nat) (h1:P.underlying t=some (.slice e)) (hinfo:(P.info? e).map (fun i=>(i.zero,i.size,i.bytes))=some (some z,1,bytes)) (hz:z.cells.size=1)
 (v:Value) (n:Nat) (xs:List Value) (hs:a.eval s=v) (hown:wr.ownsRow base e 1 v n xs) (y:Value) (hy:y.oneCell'=true)
 (hx:a.eval x=.slice (some ⟨wr.heap.size,0,none⟩) 1 1) (hb:bytes≤64) (hn:n≤1099511627776) (hbase:base≤wr.heap.size)
 (hK:∀ v' w',w'.ownsRow base e 1 v' (n+1) (xs ++ [y])→wr.grownBy w' v.ownBlock→(∀ g,g<wr.heap.size→some g≠v.ownBlock→some g≠v'.ownBlock)→wpList P ops Q rest (a.put o.dst v') w') :
 wpList P ops Q (o :: rest) a (wr.alloc (.cells #[y] e)):=by
 obtain ⟨i,h2,h3,h4,h5⟩:=info_parts hinfo;have hbb:(n+1) * bytes≤140737488355328:=Nat.le_trans (Nat.mul_le_mul_left (n+1) hb) (by omega)
 have hnews:∀ j u,[y][j]? = some u→(wr.alloc (.cells #[y] e)).cell? ((⟨wr.heap.size,0,none⟩:Addr).add j)=some u:=by
  intro j u hj
  match j,hj with
  | 0,hj =>
    simp at hj
    subst hj;simp [Addr.add]
  | j+1,hj=>simp at hj
 have hone:∀ u∈[y],u.oneCell'=true:=by
  intro u hu;simp at hu
  subst hu;exact hy
 refine wpList_plain hg fun _ hK'=>?_
 obtain ⟨v',w',hr,ho,hgr,_⟩:=run_append_own (P:=P) (wr.alloc (.cells #[y] e)) base t o.type e i z 1 bytes h1 h2 h3 h4 h5 hz (by omega) v n xs (hown.alloc _) ⟨wr.heap.size,0,none⟩ 1 1 [y] rfl hnews hone (by unfold maxLen;omega) hbb (by simp;omega)
 have hblk:=zQ (wr.alloc (.cells #[y] e)) base t o.type e i z h1 h2 h3 h4 v n xs (hown.alloc _) ⟨wr.heap.size,0,none⟩ 1 1 [y] rfl hnews hone (by omega) (by unfold maxLen;omega) (by rw [h5];exact hbb) hr
 unfold Oper.wp execOp;simp only [hop,resolve,invoke,builtin,Sem.run_bind,Sem.run_pure,Result.andThen_ok,List.map_toArray,List.map_cons,List.map_nil,hs,hx,hr];refine hK' _ _ (hK v' w' ho ⟨hgr.os,hgr.tape,hgr.output,?_,fun k hk hne=>?_⟩ fun g hgl hgv hgv'=>?_)
 · have:=hgr.size;simp at this;omega
 · rw [hgr.block k (by simp;omega) hne]
   exact Below.heap_alloc _ _ _ hk
 · rcases hblk with h | h
   · exact hgv (hgv'.trans h)
   · rw [h] at hgv'
     injection hgv' with hgv'
     simp at hgv'
     omega
def Apart (u v:Value):Prop:=∀ g,u.ownBlock=some g→v.ownBlock≠some g
theorem Apart.symm {u v:Value} (h:Apart u v):Apart v u:=fun g h1 h2=>h g h2 h1
theorem qW {w w':World} {base e n:Nat} {u v:Value} {xs:List Value} (h:w.ownsRow base e 1 v n xs) (hg:w.grownBy w' u.ownBlock) (ha:Apart u v):w'.ownsRow base e 1 v n xs:=by
 refine h.kept hg ?_
 cases hv:v.ownBlock with
 | none=>exact .inl rfl
 | some g=>exact .inr (fun e=>ha g e.symm hv)
theorem vI {w:World} {base e n:Nat} {u u' v:Value} {xs:List Value} (h:w.ownsRow base e 1 v n xs) (ha:Apart u v) (hn:∀ g,g<w.heap.size→some g≠u.ownBlock→some g≠u'.ownBlock):Apart u' v :=
 fun g hu hv=>hn g (h.lt g hv).2 (fun e=>ha g e.symm hv) hu.symm
theorem lG {w:World} {base e n c:Nat} {a:Option Addr} {xs:List Value} (h:w.ownsRow base e 1 (.slice a n c) n xs) (hn:0<n) :
 ∃ g tl,a=some ⟨g,0,none⟩∧base≤g∧Blk w g (xs ++ tl) e∧n≤c∧c≤maxLen∧(xs ++ tl).length=c:=by
 rcases h.2 with ⟨h2,h3⟩ | ⟨g,cap,cur,hv,hg,hh,hn2,hm,hs,ht⟩
 · omega
 · injection hv with ha _ hc
   subst ha hc;rw [Nat.mul_one] at hs ht;refine ⟨g,cur.toList.drop n,rfl,hg,?_,hn2,hm,?_⟩
   · rw [← ht,List.take_append_drop];exact hh
   · rw [← ht,List.take_append_drop];simpa using hs
theorem xu {w:World} {base e n c g:Nat} {xs tl:List Value} (h:Blk w g (xs ++ tl) e) (hg:base≤g) (hn:xs.length=n) (hnc:n≤c) (hm:c≤maxLen) (hl:(xs ++ tl).length=c):w.ownsRow base e 1 (.slice (some ⟨g,0,none⟩) n c) n xs :=
 ⟨by omega,.inr ⟨g,c,_,rfl,hg,h,hnc,hm,by simpa using hl,by rw [Nat.mul_one,← hn];exact List.take_left⟩⟩
theorem kd {w:World} {g T:Nat} {xs:List Int} {tl:List Value} (h:Blk w g (ae xs ++ tl) T) {j:Nat} (hj:j<xs.length):w.cell? ⟨g,j,none⟩=some (.int .i64 (xs.getD j 0)):=by
 rw [h.cell,List.getElem?_append_left (by simpa using hj)]
 exact ex xs j hj
theorem sU {w:World} {g T:Nat} {xs:List Int} {tl:List Value} (h:Blk w g (ae xs ++ tl) T) {j:Nat} (hj:j<xs.length) (y:Int):Blk (w.setCell ⟨g,j,none⟩ (.int .i64 y)) g (ae (xs.set j y) ++ tl) T:=by
 have:=h.set j (.int .i64 y);rwa [List.set_append_left _ _ (by simpa using hj),← nQ] at this
theorem AM {w:World} {g T B:Nat} {xs tl:List Value} (h:Blk w g (xs ++ tl) T) (hB:g<B):Rd w B (some ⟨g,0,none⟩) xs :=
 .inr ⟨g,0,rfl,hB,fun j hj=>by rw [Nat.zero_add,h.cell,List.getElem?_append_left hj]⟩
end Go.Proofs.YtbknhgapjjaelaaGreatDoor
