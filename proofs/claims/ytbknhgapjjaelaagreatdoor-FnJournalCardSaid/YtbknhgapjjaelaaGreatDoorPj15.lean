/-
  Part 15 of what the proof stands on: lemmas and contracts, each with its conditions ahead of the colon.
-/
import Derived.Test.YtbknhgapjjaelaaGreatDoorShelf
import Derived.Laws.CopyOwn
import Derived.Deep.RegionLaw
import Derived.Deep.LoopGhost
import Derived.Test.YtbknhgapjjaelaaGreatDoorPj01
import Derived.Test.YtbknhgapjjaelaaGreatDoorPj02
import Derived.Test.YtbknhgapjjaelaaGreatDoorPj10
import Derived.Test.YtbknhgapjjaelaaGreatDoorPj11
set_option maxRecDepth 10000
set_option maxHeartbeats 8000000
namespace Go.Proofs.YtbknhgapjjaelaaGreatDoor
set_option linter.unusedVariables false
set_option linter.unusedSimpArgs false
open Go.RowKit
theorem ME (w:World) (b o c n:Nat) (f:Nat→Int) (h:∀ j,j<n+1→w.cell? ⟨b,o+j,none⟩=some (.int .i64 (f j))) (hn:n≤1048576) :
 Calls Tryz.prog 219 #[.slice (some ⟨b,o,none⟩) (n+1) c] w fun e w'=>e=.returned (.int .i64 (gn f n))∧w=w':=by
 have H:=Oi h;have HS:Hid (∀ k,gn f (k+1)=min (gn f k) (f (k+1))):=fun k=>rfl
 have c0:w.cell? ⟨b,o,none⟩=some (.int .i64 (f 0)):=h 0 (by omega)
 have H0:Hid (gn f 0=f 0):=rfl;clear h
 go_enter Tryz.func219,Tryz.ntmps219;go_wp2_with fail
 go_loop [4,3] (fun iv mv=>∃ k:Nat,k≤n∧iv=.int .i64 ((k+1:Nat):Int)∧mv=.int .i64 (gn f k)) (fun iv _=>n+1 - (intOf iv).toNat)
 case atStart=>exact ⟨0,Nat.zero_le _,rfl,by rw [H0.out]⟩
 case round =>
  clear c0 H0;obtain ⟨k,hk,rfl,rfl⟩:=hrel;have hS:=Oi (HS.out k);obtain ⟨m,hm⟩:∃ m,m=gn f k:=⟨_,rfl⟩;rw [← hm] at hS ⊢;have HM:=Oi hm;clear hm;have k0:(0:Int)≤((k+1:Nat):Int):=Int.natCast_nonneg _
  by_cases hlt:k<n
  · have hki:(((k+1:Nat):Int))<(((n+1:Nat):Int)):=by omega
    have ck:w.cell? ⟨b,o+(k+1),none⟩=some (.int .i64 (f (k+1))):=H.out (k+1) (by omega)
    generalize f (k+1)=y at *
    by_cases hmy:m≤y
    · have hS2:Hid (gn f (k+1)=m):=by rw [Hid,hS.out];omega
      go_wp2_with fail
      go_round
      case rel=>exact ⟨k+1,by omega,by go_num,by rw [hS2.out];try (congr 1;omega)⟩
      case measure=>simp [intOf];omega
    · have hS2:Hid (gn f (k+1)=y):=by rw [Hid,hS.out];omega
      go_wp2_with fail
      go_round
      case rel=>exact ⟨k+1,by omega,by go_num,by rw [hS2.out];first | (rw [if_pos (by omega)];done) | (congr 1;omega)⟩
      case measure=>simp [intOf];omega
  · obtain rfl:k=n:=by omega
    have hki:¬ (((k+1:Nat):Int))<(((k+1:Nat):Int)):=by omega
    go_wp2_with fail;go_ret;exact ⟨bY HM.out,rfl⟩
theorem KX (w:World) (R C:Nat) (aA:Option Addr) (cA:Nat) (xA:List Int) (vB:Value) (hA:Rd w w.heap.size aA (ae xA)) (lA:xA.length=R * C) (hcA:xA.length≤cA) (hR:R≤6) (hC:C≤6) (hR1:1≤R) (hC1:1≤C) :
 Calls Tryz.prog 173 #[.agg #[.int .i64 R,.int .i64 C,.slice aA xA.length cA,vB]] w fun e w'=>e=.returned (.tuple #[.int .i64 (eZ R C xA R).1,.int .i64 (eZ R C xA R).2])∧Below w.heap.size w w':=by
 have hRC:R * C≤36:=Nat.le_trans (Nat.mul_le_mul hR hC) (by decide)
 have h1:1≤R * C:=Nat.mul_le_mul hR1 hC1;obtain ⟨b,o,rfl,hbb,hcc⟩:=hA.at (k:=0) (by omega)
 have KG:=Blk.new w [.int .i64 R,.int .i64 C,.slice (some ⟨b,o,none⟩) xA.length cA,vB] 26;have HB1:=Oi (ai w (.cells #[.int .i64 R,.int .i64 C,.slice (some ⟨b,o,none⟩) xA.length cA,vB] 26));obtain ⟨w1,hw1⟩:∃ X,X=w.alloc (.cells #[.int .i64 R,.int .i64 C,.slice (some ⟨b,o,none⟩) xA.length cA,vB] 26):=⟨_,rfl⟩;have LM:Hid (∀ i,i<R→Calls Tryz.prog 219 #[.slice (some ⟨b,o+i * C,none⟩) C (cA - i * C)] w1 fun e w'=>e=.returned (.int .i64 (gn (aU C xA i) (C - 1)))∧w1=w'):=fun i hi=>by
  obtain ⟨n,rfl⟩:∃ n,C=n+1:=⟨C - 1,by omega⟩;refine ME w1 b (o+i * (n+1)) (cA - i * (n+1)) n (aU (n+1) xA i) (fun j hj=>?_) (by omega)
  have hin:=dH (R:=R) hi hj;have:=hcc (i * (n+1)+j) (by rw [lA];exact hin)
  rw [hw1,HB1.out.cell (p:=⟨b,o+i * (n+1)+j,none⟩) hbb,Nat.add_assoc,this];rfl
 have q0:w1.cell? ⟨w.heap.size,0,none⟩=some (.int .i64 R):=by rw [hw1];exact KG.cell 0
 have q1:w1.cell? ⟨w.heap.size,1,none⟩=some (.int .i64 C):=by rw [hw1];exact KG.cell 1
 have q2:w1.cell? ⟨w.heap.size,2,none⟩=some (.slice (some ⟨b,o,none⟩) xA.length cA):=by rw [hw1];exact KG.cell 2
 have HS:Hid (∀ i,eZ R C xA (i+1)=if i=0∨(eZ R C xA i).2<gn (aU C xA i) (C - 1) then ((i:Int),gn (aU C xA i) (C - 1)) else eZ R C xA i):=fun i=>rfl
 have HQ:=Oi (And.intro q0 (And.intro q1 q2));rw [← hw1] at HB1;have h0:Hid (eZ R C xA 0=(0,0)):=rfl;have hcR:R * C≤cA:=by rw [← lA];exact hcA
 clear hA hcc KG lA hcA;rw [hw1] at q0
 go_enter Tryz.func173,Tryz.ntmps173;go_wp2_with fail;rw [← hw1];clear q0 q1 q2 hw1
 go_loop [10,4,5] (fun iv rv mv=>∃ i:Nat,i≤R∧iv=.int .i64 i∧rv=.int .i64 (eZ R C xA i).1∧mv=.int .i64 (eZ R C xA i).2) (fun iv _ _=>R - (intOf iv).toNat)
 case atStart=>exact ⟨0,Nat.zero_le _,rfl,by rw [h0.out],by rw [h0.out]⟩
 case round =>
  clear h0;obtain ⟨i,hi,rfl,rfl,rfl⟩:=hrel;obtain ⟨q0,q1,q2⟩:=HQ.out;have i0:(0:Int)≤(i:Int):=Int.natCast_nonneg _;have hs:=Oi (HS.out i)
  by_cases hlt:i<R
  · have hii:(i:Int)<(R:Int):=by omega
    have LM1:=Oi (LM.out i hlt);have hm1:i * C+C≤R * C:=by rw [← Nat.succ_mul];exact Nat.mul_le_mul (by omega) (Nat.le_refl _)
    obtain ⟨K,hK⟩:∃ K:Nat,K=i * C:=⟨_,rfl⟩;have hKc:K+C≤cA:=by rw [hK];omega
    have e1:(i:Int) * (C:Int)=(K:Int):=by rw [hK,Int.natCast_mul]
    have e2:((i:Int)+1) * (C:Int)=(K:Int)+(C:Int):=by rw [Int.add_mul,Int.one_mul,e1]
    rw [← hK] at LM1 hm1;obtain ⟨lst,hlst⟩:∃ l,l=gn (aU C xA i) (C - 1):=⟨_,rfl⟩;rw [← hlst] at LM1 hs;obtain ⟨sr,hsr⟩:∃ l,l=eZ R C xA i:=⟨_,rfl⟩;rw [← hsr] at hs ⊢;clear hlst hsr;clear hK;go_wp2_with fail;refine LM1.out.mono ?_;rintro e w2 ⟨rfl,rfl⟩;clear LM1 q0 q1 q2 e1 e2
    by_cases hi0:i=0
    · have hz:((i:Int) == 0)=true:=by rw [beq_iff_eq];omega
      have hs2:Hid (eZ R C xA (i+1)=((i:Int),lst)):=by rw [Hid,hs.out,if_pos (.inl hi0)]
      clear hs;go_wp2_with fail
      go_round
      case rel=>exact ⟨i+1,by omega,by go_num,by rw [hs2.out,hi0];rfl,by rw [hs2.out]⟩
      case measure=>simp [intOf];omega
    · have hz:((i:Int) == 0)=false:=by rw [beq_eq_false_iff_ne];omega
      by_cases hl:sr.2<lst
      · have hs2:Hid (eZ R C xA (i+1)=((i:Int),lst)):=by rw [Hid,hs.out,if_pos (.inr hl)]
        clear hs;go_wp2_with fail
        go_round
        case rel=>exact ⟨i+1,by omega,by go_num,by rw [hs2.out],by rw [hs2.out]⟩
        case measure=>simp [intOf];omega
      · have hs2:Hid (eZ R C xA (i+1)=sr):=by rw [Hid,hs.out,if_neg (by omega)]
        clear hs;go_wp2_with fail
        go_round
        case rel=>exact ⟨i+1,by omega,by go_num,by rw [hs2.out],by rw [hs2.out]⟩
        case measure=>simp [intOf];omega
  · obtain rfl:i=R:=by omega
    go_wp2_with fail
    go_ret2
    exact ⟨rfl,HB1.out⟩
theorem Dl (w:World) (R C:Nat) (aA:Option Addr) (cA:Nat) (xA:List Int) (aB:Option Addr) (cB:Nat) (xB:List Int) (hG:cZ R C xA xB=true) (hcA:xA.length≤cA) (hA:Rd w w.heap.size aA (ae xA)) (hB:Rd w w.heap.size aB (ae xB)) :
 Calls Tryz.prog 127 #[.agg #[.int .i64 R,.int .i64 C,.slice aA xA.length cA,.slice aB xB.length cB]] w fun e w'=>e=.returned (.tuple #[.int .i64 (eZ R C xA R).1,.int .i64 (eZ R C xA R).2,.bool true])∧Below w.heap.size w w':=by
 have hG':=hG;obtain ⟨R',C',e1,e2,r1,r6,c1,c6,lA,lB,-,-⟩:=eH hG';obtain rfl:R=R':=Int.ofNat.inj e1;obtain rfl:C=C':=Int.ofNat.inj e2;have hRC:R * C≤36:=Nat.le_trans (Nat.mul_le_mul r6 c6) (by decide)
 have HB1:=Oi (ai w (.cells #[.int .i64 R,.int .i64 C,.slice aA xA.length cA,.slice aB xB.length cB] 26));have KG:=Oi (Blk.new w [.int .i64 R,.int .i64 C,.slice aA xA.length cA,.slice aB xB.length cB] 26);have LV:=Oi (fun v (hb:Below w.heap.size w v)=>ef v R C aA cA xA aB cB xB ⟨hA.to hb,hB.to hb⟩ (by omega) (by omega))
 have LP:=Oi (fun v (hb:Below w.heap.size w v)=>KX v R C aA cA xA (.slice aB xB.length cB) (hA.to hb) lA hcA r6 c6 r1 c1)
 rw [hG] at LV;obtain ⟨pl,hpl⟩:∃ l,l=eZ R C xA R:=⟨_,rfl⟩;rw [← hpl] at LP ⊢;clear hA hB hG hG' lA lB e1 e2 hpl hcA
 go_enter Tryz.func127,Tryz.ntmps127;go_wp2_with fail;refine (LV.out _ HB1.out).mono ?_;rintro e w1 ⟨rfl,hb⟩;have B1:=Oi (aa HB1.out hb);have K1:=KG.out.same hb;obtain ⟨q0,q1,q2,q3⟩:w1.cell? ⟨w.heap.size,0,none⟩=some (.int .i64 R)∧w1.cell? ⟨w.heap.size,1,none⟩=some (.int .i64 C)∧w1.cell? ⟨w.heap.size,2,none⟩=some (.slice aA xA.length cA)∧w1.cell? ⟨w.heap.size,3,none⟩=some (.slice aB xB.length cB):=⟨K1.cell 0,K1.cell 1,K1.cell 2,K1.cell 3⟩;clear K1 hb;go_wp2_with fail;refine (LP.out _ B1.out).mono ?_;rintro e w2 ⟨rfl,hb⟩;have B2:=Oi (aa B1.out hb);clear hb q0 q1 q2 q3;go_wp2_with fail;go_ret3;exact ⟨rfl,B2.out⟩
def sI (s:List Nat):List Int:=s.map fun (n:Nat)=>(n:Int)
theorem qb (s:List Nat):(sI s).length=s.length:=by simp [sI]
theorem NH (s:List Nat) (k:Nat):sI (s ++ [k])=sI s ++ [(k:Int)]:=by simp [sI]
theorem qa (s:List Nat) (j:Nat):(sI s).getD j 0=((s.getD j 0:Nat):Int):=by
 unfold sI;rw [List.getD,List.getD,List.getElem?_map]
 cases s[j]? <;> rfl
theorem IX {P T:Nat} {xs ow:List Int} {s:List Nat} (h:Chain P T xs ow s) (hall:∀ j,j<P→¬ dY P T xs ow j<0) :
 ∃ k:Nat,k<P∧dY P T xs ow (s.getD (s.length - 1) 0)=(k:Int)∧((pT (sI s) (k:Int) = -1∧Chain P T xs ow (s ++ [k])∧∀ r,RingR P T xs ow (s ++ [k]) r→RingR P T xs ow s r)∨(∃ a:Nat,pT (sI s) (k:Int)=(a:Int)∧a<s.length∧Ring P T xs ow (s.drop a)∧RingR P T xs ow s (s.drop a))):=by
 have hl:0<s.length:=List.length_pos_iff.2 h.ne;have hlast:s.getD (s.length - 1) 0<P:=h.lt _ (kp (by omega))
 rcases Am P T xs ow (s.getD (s.length - 1) 0) with ⟨k,hk,he,hpos⟩ | ⟨_,he⟩
 · refine ⟨k,hk,he,?_⟩
   have hkt:(dY P T xs ow (s.getD (s.length - 1) 0)).toNat=k:=by rw [he];exact Int.toNat_natCast k
   rcases nf (fun j=>((k:Int) == (sI s).getD j 0)) (sI s).length with ⟨a,ha,hp,hb,e⟩ | ⟨hn,e⟩
   · rw [qb] at ha
     rw [beq_iff_eq,qa] at hp;have hpa:s.getD a 0=k:=by omega
     have hga:s[a]? = some k:=by
      rw [List.getD,List.getElem?_eq_getElem ha,Option.getD_some] at hpa;rw [List.getElem?_eq_getElem ha,hpa]
     refine .inr ⟨a,e,ha,h.ring ha (by rw [hpa];exact hpos),.here s a (by rw [hkt];exact hga) (fun b hba hbs=>?_)⟩
     rw [hkt] at hbs;have:=hb b hba;rw [beq_eq_false_iff_ne,qa] at this;have hbl:b<s.length:=by omega
     rw [List.getElem?_eq_getElem hbl] at hbs;injection hbs with hbs
     rw [List.getD,List.getElem?_eq_getElem hbl,Option.getD_some,hbs] at this;exact this rfl
   · have hns:k∉s:=fun hm=>by
       obtain ⟨j,hj,hjk⟩:=List.getElem_of_mem hm;have:=hn j (by rw [qb];exact hj)
       rw [beq_eq_false_iff_ne,qa,List.getD,List.getElem?_eq_getElem hj,Option.getD_some,hjk] at this;exact this rfl
     exact .inl ⟨e,h.more hk hns hpos,fun r hr=>.on s r (by rw [hkt];exact hns) (by rw [hkt];exact hr)⟩
 · exact absurd (by rw [he];decide) (hall _ hlast)
theorem Cz {P T:Nat} {xs ow:List Int} (hP:0<P):Chain P T xs ow [0]:=⟨by simp,fun i hi=>by rw [List.mem_singleton] at hi;omega,by simp,fun k hk=>by simp at hk⟩
theorem K9 {xs:List Int} {t:Nat} {x:Int} (h:xs[t]? = some x):xs.set t x=xs:=by
 obtain ⟨hl,he⟩:=List.getElem?_eq_some_iff.1 h;rw [← he];exact List.set_getElem_self hl
def gr (ow tz:List Int) (t:Nat):List Int:=ek (ow.take t) tz ++ ow.drop t
theorem Fm (ow tz:List Int) (t:Nat):(gr ow tz t).length=ow.length:=by
 unfold gr ek;rw [List.length_append,List.length_map,List.length_take,List.length_drop];omega
theorem C3 (ow tz:List Int):gr ow tz 0=ow:=by simp [gr,ek]
theorem Fk (ow tz:List Int):gr ow tz ow.length=ek ow tz:=by simp [gr]
theorem Fl {ow tz:List Int} {t:Nat} {x:Int} (h:ow[t]? = some x):(gr ow tz t)[t]? = some x:=by
 have hl:t<ow.length:=(List.getElem?_eq_some_iff.1 h).1;unfold gr ek;rw [List.getElem?_append_right (by rw [List.length_map,List.length_take];omega),List.length_map,List.length_take,Nat.min_eq_left (by omega),Nat.sub_self,List.getElem?_drop,Nat.add_zero]
 exact h
theorem CZ {ow tz:List Int} {t:Nat} {x:Int} (h:ow[t]? = some x):gr ow tz (t+1)=(gr ow tz t).set t (if 0≤x then tz.getD x.toNat 0 else x):=by
 have hl:t<ow.length:=(List.getElem?_eq_some_iff.1 h).1;unfold gr ek;rw [List.take_add_one,h,Option.toList_some,List.map_append,List.map_singleton,List.set_append_right _ _ (by rw [List.length_map,List.length_take];omega),List.length_map,List.length_take,Nat.min_eq_left (by omega),Nat.sub_self,List.append_assoc]
 congr 1
 rw [List.drop_eq_getElem_cons hl]
 rfl
def Nx:Value→Nat
 | .slice _ n _=>n
 | _=>0
def NO (P T:Nat) (xV ow:List Int) (gO:Nat) (w w':World):Prop :=
 ∃ r:List Nat,RingR P T xV ow [0] r∧Ring P T xV ow r∧Blk w' gO (ae (ek ow (ga P r r.length))) 2∧Touch w w' gO (gO+1)
theorem Kf (w:World) (P T gO cO:Nat) (aV:Option Addr) (cV:Nat) (xV:List Int) (ow:List Int) (hV:Rd w w.heap.size aV (ae xV)) (hO:Blk w gO (ae ow) 2) (lV:xV.length=P * T) (lO:ow.length=T) (hb:∀ x∈xV,0≤x∧x≤1000) (how:∀ p∈ow,-1≤p∧p<(P:Int)) (hP1:1≤P) (hP:P≤6) (hT1:1≤T) (hT:T≤8) (hall:∀ j,j<P→¬ dY P T xV ow j<0) :
 Calls Tryz.prog 178 #[.agg #[.int .i64 P,.int .i64 T,.slice aV xV.length cV],.slice (some ⟨gO,0,none⟩) ow.length cO] w fun e w'=>e=.returned (.tuple #[])∧NO P T xV ow gO w w':=by
 have KG:=Oi (Blk.new w [.int .i64 P,.int .i64 T,.slice aV xV.length cV] 28);have B1:=Oi (ai w (.cells #[.int .i64 P,.int .i64 T,.slice aV xV.length cV] 28));have hgO:gO<w.heap.size:=hO.lt;have hRO:Rd w w.heap.size (some ⟨gO,0,none⟩) (ae ow):=hO.rd hgO;have LE:=Oi (fun v (hbl:Below w.heap.size w v) j=>uS v P T j aV cV xV (some ⟨gO,0,none⟩) cO ow (hV.to hbl) (hRO.to hbl) lV lO hb hP hT)
 have LC:=Oi (fun v=>gi v P (by omega))
 have HST:=Oi (fun s (h:Chain P T xV ow s)=>IX h hall)
 have HO:=Oi hO;have H0:Hid (Chain P T xV ow [0]):=Cz hP1;have HW:=Oi how;have HLO:=Oi lO;have n8:ow.length≤8:=by omega
 obtain ⟨w1,hw1⟩:∃ X,X=w.alloc (.cells #[.int .i64 P,.int .i64 T,.slice aV xV.length cV] 28):=⟨_,rfl⟩;have hs1:w1.heap.size=w.heap.size+1:=by rw [hw1];simp
 rw [← hw1] at KG B1;have RW0:Hid ((w1.alloc (.cells #[.int .i64 0] 2)).ownsRow (w.heap.size+1) 2 1 (.slice (some ⟨w.heap.size+1,0,none⟩) 1 1) 1 (ae (sI [0]))):=by
  rw [← hs1];exact yb (tl:=[]) (by rw [List.append_nil];exact Blk.new w1 _ _) (by omega) rfl (Nat.le_refl _) (by decide) rfl
 have B2:Hid (Below (w.heap.size+1) w1 (w1.alloc (.cells #[.int .i64 0] 2))):=(ai w1 _).mono (by omega)
 clear hV hO lV lO hb how hall hRO
 go_enter Tryz.func178,Tryz.ntmps178;go_wp2_with fail;rw [← hw1];clear hw1
 go_loopw [4] (fun sv wr=>∃ (s:List Nat) (a:Option Addr) (c:Nat),sv=.slice a s.length c∧Hid (wr.ownsRow (w.heap.size+1) 2 1 (.slice a s.length c) s.length (ae (sI s)))∧Hid (Chain P T xV ow s)∧Hid (∀ r,RingR P T xV ow s r→RingR P T xV ow [0] r)∧Hid (Below (w.heap.size+1) w1 wr)) (fun sv _=>P+1 - Nx sv)
 case atStart=>exact ⟨[0],_,_,rfl,RW0.out,H0.out,fun r h=>h,B2.out⟩
 case round =>
  clear RW0 H0 B2;obtain ⟨s,a,c,rfl,ho,hch,hrr,hw⟩:=hrel;have hsl:=In hch.out.lt hch.out.nd;have hs0:0<s.length:=List.length_pos_iff.2 hch.out.ne;obtain ⟨g,tl,rfl,hg,KS,hnc,hcm,hcl⟩:=lM ho.out hs0;obtain ⟨k,hkP,hek,hcase⟩:=HST.out s hch.out;obtain ⟨m,hm⟩:∃ m,s.length=m+1:=⟨s.length - 1,by omega⟩;have hlast:=ki KS (j:=m) (by rw [qb];omega)
  rw [qa] at hlast;rw [hm,Nat.add_sub_cancel] at hek;obtain ⟨lst,hlst⟩:∃ l:Nat,l=s.getD m 0:=⟨_,rfl⟩;rw [← hlst] at hlast hek;have Bw:=Oi (B1.out.trans (hw.out.mono (by omega)))
  have K:=KG.out.below hw.out (by omega)
  have hsz:w.heap.size+1≤wr.heap.size:=by have:=hw.out.size;omega
  have HD:Hid (∀ z9:Later wr,(z9.w'.cell? ⟨w.heap.size,0,none⟩=some (.int .i64 P)∧z9.w'.cell? ⟨w.heap.size,1,none⟩=some (.int .i64 T)∧z9.w'.cell? ⟨w.heap.size,2,none⟩=some (.slice aV xV.length cV))∧z9.w'.cell? ⟨g,m,none⟩=some (.int .i64 lst)∧Below w.heap.size w z9.w'):=fun z9=>⟨⟨(K.same z9.h).cell 0,(K.same z9.h).cell 1,(K.same z9.h).cell 2⟩,(z9.h.cell (p:=⟨g,m,none⟩) KS.lt).trans hlast,aa Bw.out z9.h⟩
  have LE1:=Oi (fun v (hbl:Below w.heap.size w v)=>LE.out v hbl lst)
  have hm1:((s.length:Nat):Int) - 1=(m:Int):=by omega
  have HM:=Oi hm;rw [hek] at LE1;have HCS:=Oi hcase;have HKS:=Oi KS;clear hm hcase hek hlst hlast K KS;have D0:∀ z9:Later wr,z9.w'.cell? ⟨w.heap.size,0,none⟩=some (.int .i64 P):=fun z9=>(HD.out z9).1.1
  have D1:∀ z9:Later wr,z9.w'.cell? ⟨w.heap.size,1,none⟩=some (.int .i64 T):=fun z9=>(HD.out z9).1.2.1
  have D2:∀ z9:Later wr,z9.w'.cell? ⟨w.heap.size,2,none⟩=some (.slice aV xV.length cV):=fun z9=>(HD.out z9).1.2.2
  have D3:∀ z9:Later wr,z9.w'.cell? ⟨g,m,none⟩=some (.int .i64 lst):=fun z9=>(HD.out z9).2.1
  have hml:(m:Int)<(s.length:Int):=by omega
  have hm0:(0:Int)≤(m:Int):=Int.natCast_nonneg _;go_wp2_with fail;refine bg (by kernel_rfl) (by kernel_rfl) ?_
  repeat (go_big_quiet_step (first | (go_at_call 177;with_reducible exact dz (LE1.out _ (HD.out _).2.2))))
  refine wpQuiet_nil ?_
  rintro wq ⟨⟨_,hbq⟩,rfl⟩;have BQ:=Oi (hw.out.trans (hbq.mono hsz));have HOq:=Oi (aD ho.out hbq);have KSq:=HKS.out.same hbq;have HKq:=Oi KSq;have hsq:w.heap.size+1≤wq.heap.size:=by have:=hbq.size;omega
  have LI:=xH wq (some ⟨g,0,none⟩) c (sI s) (k:Int) (BJ KSq KSq.lt) (by rw [qb];omega)
  rw [qb] at LI;clear KSq D0 D1 D2 D3 HD LE1 hbq HKS ho hw Bw hm1;have k0:(0:Int)≤(k:Int):=Int.natCast_nonneg _
  rcases HCS.out with ⟨e1,hch2,hr2⟩ | ⟨at0,e1,hal,hring,hr2⟩
  · rw [e1] at LI
    have HLI:=Oi LI;have C2:=Oi hch2;have R2:=Oi hr2;clear LI e1 HCS hch2 hr2;go_wp2_with fail;refine HLI.out.mono ?_;rintro e w3 ⟨rfl,rfl⟩
    go_wp2_with (at_builtin;refine aQ _ rfl _ _ 24 rfl (w.heap.size+1) 2 (.int .i64 0) 8 Tryz.underlying24 aZ rfl _ _ _ rfl HOq.out (.int .i64 k) rfl rfl (by omega) (by omega) hsq ?_)
    intro v8 w8 o8 g8 n8;have H8:Hid (w8.ownsRow (w.heap.size+1) 2 1 v8 (s ++ [k]).length (ae (sI (s ++ [k])))):=by
     rw [Hid,NH,bk,List.length_append];exact o8
    have B8:=Oi (ah BQ.out HOq.out g8 (Nat.le_refl _) hsq);obtain ⟨a8,c8,e8,_,_⟩:=ba H8.out;subst e8;have hsl2:=In C2.out.lt C2.out.nd;rw [List.length_append,List.length_singleton] at hsl2;clear o8 g8 n8;go_wp2_with fail;go_roundw
    case rel=>exact ⟨s ++ [k],a8,c8,rfl,H8,C2,fun r hr=>hrr.out r (R2.out r hr),B8⟩
    case measure=>simp only [Nx,List.length_append,List.length_singleton];omega
  · rw [e1] at LI
    have HLI:=Oi LI;have HRG:=Oi hring;have R2:=Oi (hrr.out _ hr2);have a0:(0:Int)≤(at0:Int):=Int.natCast_nonneg _;have al:(at0:Int)≤(s.length:Int):=by omega
    have K:=KG.out.below BQ.out (by omega)
    have q0:wq.cell? ⟨w.heap.size,0,none⟩=some (.int .i64 P):=K.cell 0;clear LI e1 HCS hring hr2 K hch hrr HOq;go_wp2_with fail;refine HLI.out.mono ?_;rintro e w3 ⟨rfl,rfl⟩;go_wp2_with fail;refine (LC.out _).mono ?_;rintro e w4 ⟨aT,cT,rfl,oT,hb4⟩;obtain ⟨gT,tlT,rfl,hgT,KT,hPc,hcTm,hcTl⟩:=lM oT hP1;have HKT:=Oi KT;have HB4:=Oi hb4;clear oT KT hb4 q0 HLI LC;go_wp2_with fail;clear HST LE KG;obtain ⟨rl,hrl⟩:∃ rl,rl=s.length - at0:=⟨_,rfl⟩;obtain ⟨rc,hrc⟩:∃ rc,rc=c - at0:=⟨_,rfl⟩;rw [← hrl,← hrc];have hrl1:1≤rl:=by omega
    have hrlP:rl≤P:=by omega
    obtain ⟨r,hr⟩:∃ r,r=s.drop at0:=⟨_,rfl⟩;rw [← hr] at HRG R2;have HRL:Hid (r.length=rl):=by rw [Hid,hr,List.length_drop,hrl]
    have hgd:∀ k:Nat,r.getD k 0=s.getD (at0+k) 0:=fun k=>by rw [hr,List.getD,List.getD,List.getElem?_drop]
    have HGC:Hid (∀ (j:Nat) (wr:World),j<rl→Touch w4 wr gT (gT+1)→wr.cell? ⟨g,at0+j,none⟩=some (.int .i64 ((r.getD j 0:Nat):Int))):=fun j wr hj ht=>by
     have hgq:=HKq.out.lt;have:=ki ((HKq.out.same HB4.out).touch ht (.inl (by omega))) (j:=at0+j) (by rw [qb];omega)
     rw [this,qa,hgd]
    have HRP:Hid (∀ j,j<rl→r.getD j 0<P):=fun j hj=>HRG.out.lt _ (kp (by rw [HRL.out];exact hj))
    have HTS:Hid (∀ k,ga P r (k+1)=(ga P r k).set (r.getD ((k+rl - 1) % rl) 0) ((r.getD k 0:Nat):Int)):=fun k=>by rw [ga,HRL.out]
    have HT0:Hid (ga P r 0=eL P):=rfl;have HTL:=Oi (fun k=>th P r k)
    clear hrl hrc hr hgd hal al hsl hs0 hnc hcm hcl hml HKq
    go_loopw [41] (fun kv wr=>∃ k:Nat,k≤rl∧kv=.int .i64 k∧Hid (Blk wr gT (ae (ga P r k) ++ tlT) 2)∧Hid (Touch w4 wr gT (gT+1))) (fun kv _=>rl - (intOf kv).toNat)
    case atStart=>exact ⟨0,Nat.zero_le _,rfl,by rw [Hid,HT0.out];exact HKT.out,Touch.refl _ _ _⟩
    case round =>
     clear HT0 HKT;obtain ⟨k,hk,rfl,hK,hT⟩:=hrel;have k0:(0:Int)≤(k:Int):=Int.natCast_nonneg _
     by_cases hlt:k<rl
     · have hki:(k:Int)<(rl:Int):=by omega
       obtain ⟨J,hJ⟩:∃ J,J=(k+rl - 1) % rl:=⟨_,rfl⟩;have hJl:J<rl:=by rw [hJ];exact nO hlt
       have hJi:((k:Int)+(rl:Int) - 1) % (rl:Int)=(J:Int):=by
        rw [hJ,Int.natCast_emod]
        congr 1
        omega
       have j0:(0:Int)≤(J:Int):=Int.natCast_nonneg _;have hJil:(J:Int)<(rl:Int):=by omega
       have hrl0:¬ (rl:Int)=0:=by omega
       have hrlp:(0:Int)<(rl:Int):=by omega
       have hpre:(0:Int)≤(k:Int)+(rl:Int) - 1:=by omega
       have c1:=HGC.out k wr hlt hT.out;have c2:=HGC.out J wr hJl hT.out;have hts:=HTS.out k;rw [← hJ] at hts;have p1:=HRP.out k hlt;have p2:=HRP.out J hJl;obtain ⟨pk,hpk⟩:∃ x,x=r.getD k 0:=⟨_,rfl⟩;obtain ⟨pJ,hpJ⟩:∃ x,x=r.getD J 0:=⟨_,rfl⟩;rw [← hpk] at c1 p1 hts;rw [← hpJ] at c2 p2 hts;have hpl:pJ<(ga P r k).length:=by rw [HTL.out];exact p2
       have c3:=ki hK.out hpl;have c4:=hK.out.free pJ;have hpi:(pJ:Int)<(P:Int):=by omega
       have p0:(0:Int)≤(pJ:Int):=Int.natCast_nonneg _;have HK2:Hid (Blk (wr.setCell ⟨gT,pJ,none⟩ (.int .i64 pk)) gT (ae (ga P r (k+1)) ++ tlT) 2):=by
        rw [hts];exact sY hK.out hpl _
       have HT2:=Oi (hT.out.trans (au wr gT pJ (.int .i64 pk)));generalize (ga P r k).getD pJ 0=z3 at *
       clear hJ hpk hpJ hts hpl hK hT;go_wp2_with fail;go_roundw
       case rel=>exact ⟨k+1,by omega,by go_num,HK2,HT2⟩
       case measure=>simp [intOf];omega
     · obtain rfl:k=rl:=by omega
       obtain ⟨wE,hwE⟩:∃ W:World,W=wr:=⟨_,rfl⟩;subst hwE;have h4:=HB4.out.size;have BE:=Oi (aI ((B1.out.trans (BQ.out.mono (by omega))).trans (HB4.out.mono (by omega))) hT.out (by omega) (by omega))
       have HOE:=Oi (HO.out.same BE.out);obtain ⟨tz,hto⟩:∃ l,l=ga P r k:=⟨_,rfl⟩;have HTO:Hid (ga P r r.length=tz):=by rw [Hid,HRL.out,hto]
       have hTL:Hid (tz.length=P):=by rw [hto];exact HTL.out k
       rw [← hto] at hK;have hgOT:gO<gT:=by omega
       have hEs:gT<wE.heap.size:=hK.out.lt;have M0:=Oi (C3 ow tz);have MA:=Oi (Fk ow tz);have MG:=Oi (fun t x h=>Fl (ow:=ow) (tz:=tz) (t:=t) (x:=x) h)
       have MS:=Oi (fun t x h=>CZ (ow:=ow) (tz:=tz) (t:=t) (x:=x) h)
       have ML:=Oi (fun t=>Fm ow tz t)
       clear hto HGC HRP HTS HTL hT HB4 BQ h4;go_wp2_with fail
       go_loopw [64] (fun tv wr=>∃ t:Nat,t≤ow.length∧tv=.int .i64 t∧Hid (Blk wr gO (ae (gr ow tz t)) 2)∧Hid (Touch wE wr gO (gO+1))) (fun tv _=>ow.length - (intOf tv).toNat)
       case atStart=>exact ⟨0,Nat.zero_le _,rfl,by rw [Hid,M0.out];exact HOE.out,Touch.refl _ _ _⟩
       case round =>
        clear M0 HOE;obtain ⟨t,ht,rfl,hB,hT⟩:=hrel;have t0:(0:Int)≤(t:Int):=Int.natCast_nonneg _
        by_cases hlt:t<ow.length
        · have hti:(t:Int)<(ow.length:Int):=by omega
          obtain ⟨x,hx⟩:∃ x,ow[t]? = some x:=⟨_,List.getElem?_eq_getElem hlt⟩;have hxm:=HW.out x (List.mem_of_getElem? hx);have hms:=MS.out t x hx;have hmg:=MG.out t x hx;have c1:wr.cell? ⟨gO,t,none⟩=some (.int .i64 x):=by
           rw [hB.out.cell];have hl':t<(gr ow tz t).length:=by rw [ML.out];exact hlt
           rw [eJ _ _ hl',co hmg]
          have HMG:=Oi hmg;have KW:=hK.out.touch hT.out (.inr (by omega))
          clear hx hmg;obtain ⟨x1,x2⟩:=hxm
          by_cases hx0:0≤x
          · obtain ⟨q,rfl⟩:∃ q:Nat,x=(q:Int):=⟨x.toNat,by omega⟩
            rw [if_pos hx0,Int.toNat_natCast] at hms;have hqP:q<tz.length:=by rw [hTL.out];omega
            have c2:=ki KW (j:=q) hqP;have c3:=hB.out.free t;obtain ⟨y,hy⟩:∃ y,y=tz.getD q 0:=⟨_,rfl⟩;rw [← hy] at c2 hms;have HB2:Hid (Blk (wr.setCell ⟨gO,t,none⟩ (.int .i64 y)) gO (ae (gr ow tz (t+1))) 2):=by
             rw [hms,oE];exact hB.out.set t _
            have HT2:=Oi (hT.out.trans (au wr gO t (.int .i64 y)));clear hy hms hqP KW hB hT;go_wp2_with fail;go_roundw
            case rel=>exact ⟨t+1,by omega,by go_num,HB2,HT2⟩
            case measure=>simp [intOf];omega
          · rw [if_neg hx0,K9 HMG.out] at hms
            have HB2:Hid (Blk wr gO (ae (gr ow tz (t+1))) 2):=by rw [Hid,hms];exact hB.out
            clear hms KW hB;have hx1:x<0:=by omega
            clear hx0;go_wp2_with fail;go_roundw
            case rel=>exact ⟨t+1,by omega,by go_num,HB2,hT⟩
            case measure=>simp [intOf];omega
        · obtain rfl:t=ow.length:=by omega
          rw [MA.out] at hB;go_wp2_with fail;refine bodyPost_ret (v:=.tuple #[]) (by simp [results,Tryz.results178,go_sem]) rfl ?_
          exact ⟨rfl,r,R2.out,HRG.out,by rw [HTO.out];exact hB.out,(Below.touch BE.out gO (gO+1)).trans hT.out⟩
theorem vN (x:Int) (n k m:Nat) (h:k+m≤n):splice (ae (List.replicate k x ++ List.replicate (n - k) 0)) k (ae (List.replicate m x))=ae (List.replicate (k+m) x ++ List.replicate (n - (k+m)) 0):=by
 unfold splice;simp only [ae,List.map_append,List.map_replicate,List.length_replicate];rw [List.take_append_of_le_length (by simp),List.take_of_length_le (by simp),List.drop_append,List.drop_of_length_le (by simp)]
 simp only [List.length_replicate,List.nil_append,List.drop_replicate,← List.append_assoc,List.replicate_append_replicate]
 congr 2
 omega
theorem MX (x:Int) (k m j:Nat) (hj:j<k):(ae (List.replicate k x ++ List.replicate m 0))[j]? = some (.int .i64 x):=by
 simp [ae,List.getElem?_append_left,hj]
theorem M3 {w:World} {b o m:Nat} {x:Int} (hc:∀ j,j<m→w.cell? ⟨b,o+j,none⟩=some (.int .i64 x)):∀ j v,(ae (List.replicate m x))[j]? = some v→w.cell? ((⟨b,o,none⟩:Addr).add j)=some v:=by
 intro j v hj;have hlt:j<m:=by have:=(List.getElem?_eq_some_iff.1 hj).1;simpa using this
 have ea:(⟨b,o,none⟩:Addr).add j=⟨b,o+j,none⟩:=by unfold Addr.add;split <;> simp_all
 rw [ea,hc j hlt,← hj];simp [ae,hlt]
theorem Ej {w:World} {b o m g k:Nat} {x:Int} (hc:∀ j,j<m→w.cell? ⟨b,o+j,none⟩=some (.int .i64 x)):0<(ae (List.replicate m x)).length→(some ⟨g,k,none⟩:Option Addr)=some ⟨g,k,none⟩∧∃ ad,(some ⟨b,o,none⟩:Option Addr)=some ad∧∀ j v,(ae (List.replicate m x))[j]? = some v→w.cell? (ad.add j)=some v :=
 fun _=>⟨rfl,_,rfl,M3 hc⟩
theorem Ea (m:Nat) (x:Int):∀ v∈ae (List.replicate m x),v.oneCell'=true:=by
 intro v hv;obtain ⟨y,_,rfl⟩:=List.mem_map.1 hv
 rfl
theorem dq (n:Nat) (hn:n≤1048576) (w:World):Calls Tryz.prog 114 #[.int .u64 1,.int .u64 n] w fun e w'=>e=.returned (.tuple #[.int .u64 0,.int .u64 n])∧w=w':=by
 refine (Tryz.bits_Mul 1 n (by omega) (by omega) w).mono ?_
 rintro e w' ⟨h1,h2⟩;rw [h1,h2];refine ⟨?_,rfl⟩
 have e1:1 * n / 18446744073709551616=0:=by omega
 have e2:1 * n % 18446744073709551616=n:=by omega
 rw [e1,e2]
 rfl
theorem F1 (w:World) (b:Nat) (x:Int) (n:Nat) (h:w.cell? ⟨b,0,none⟩=some (.int .i64 x)) (hb:b<w.heap.size) (h1:1≤n) (hn:n≤1048576) :
 Calls Tryz.prog 220 #[.slice (some ⟨b,0,none⟩) 1 1,.int .i64 n] w fun e w'=>e=.returned (.slice (some ⟨w.heap.size,0,none⟩) n n)∧Blk w' w.heap.size (ae (List.replicate n x)) 2∧Below w.heap.size w w':=by
 have LM:=Oi (dq n hn)
 go_enter Tryz.func220,Tryz.ntmps220;go_wp2_with fail;refine (LM.out _).mono ?_;rintro e w1 ⟨rfl,rfl⟩;clear LM
 go_wp2_with (at_make;refine ic _ rfl _ _ 24 rfl 2 (.int .i64 0) 8 Tryz.underlying24 aZ rfl _ _ n rfl rfl (by omega) (by unfold maxLen;omega) ?_)
 intro w1 hb1 hw1 hs1;have hc1:=(hw1.cell (p:=⟨b,0,none⟩) hb).trans h;have hb1':Blk w1 w.heap.size (ae (List.replicate 0 x ++ List.replicate (n - 0) 0)) 2:=by simpa [gd] using hb1
 clear h hb1;have HP:Hid (∀ j,j<1→w1.cell? ⟨b,0+j,none⟩=some (.int .i64 x)):=(fun j hj=>by
  have:j=0:=by omega
  subst this;exact hc1)
 have HM:Hid ((ae (List.replicate 1 x)).length=Nat.min 1 n):=by
  show _=_
  rw [ints_length,List.length_replicate];exact (Nat.min_eq_left h1).symm
 have HF:Hid (0+(ae (List.replicate 1 x)).length≤(ae (List.replicate 0 x ++ List.replicate (n - 0) 0)).length):=by
  show _≤_
  simp only [ints_length,List.length_append,List.length_replicate];omega
 have HO:=Oi (Ea 1 x)
 go_wp2_with (refine wpList_copy_splice (o:=⟨some 33,_,_,_,_,_⟩) rfl (.tmp 31) (.tmp 32) 24 24 rfl 2 Tryz.underlying24 (by kernel_rfl) (some ⟨w.heap.size,0,none⟩) (some ⟨b,0,none⟩) n n 1 1 rfl rfl w.heap.size 0 _ 2 hb1' (ae (List.replicate 1 x)) HM.out (Ej HP.out) HF.out HO.out w.heap.size w hw1 (Nat.le_refl _) ?_)
 intro w2 hg2 hb2;have hB2:Blk w2 w.heap.size (ae (List.replicate 1 x ++ List.replicate (n - 1) 0)) 2:=by
  have h2:=hg2.out;have e:=vN x n 0 1 (by omega)
  have e0:List.replicate 0 x ++ List.replicate (n - 0) (0:Int)=List.replicate n 0:=by simp
  have e1:List.replicate 1 x=[x]:=rfl;rw [e0,e1,Nat.zero_add] at e;rw [e] at h2;exact h2
 clear hg2 hb1' hc1 hw1;go_wp2_with fail
 go_loopw [8] (fun kv wr=>∃ k:Nat,1≤k∧k≤n∧kv=.int .i64 k∧Blk wr w.heap.size (ae (List.replicate k x ++ List.replicate (n - k) 0)) 2∧Below w.heap.size w wr) (fun kv _=>n - (intOf kv).toNat)
 case atStart=>exact ⟨1,Nat.le_refl _,h1,rfl,hB2,hb2⟩
 case round =>
  clear hB2 hb2;obtain ⟨k,hk1,hk,rfl,hB,hw⟩:=hrel
  by_cases hlt:k<n
  · obtain ⟨m,hm⟩:∃ m,m=Nat.min k (n - k):=⟨_,rfl⟩
    have hm1:1≤m:=by rw [hm];simp only [Nat.min_def];split <;> omega
    have hm2:k+m≤n:=by rw [hm];simp only [Nat.min_def];split <;> omega
    have hmk:m≤k:=by rw [hm];exact Nat.min_le_left _ _
    have Hm:Hid (m=Nat.min k (n - k)):=hm;have HS:=Oi (vN x n k m hm2);have hdrew:=aq hw;have hnk:¬ n=k:=by omega
    have k0:(0:Int)≤(k:Int):=Int.natCast_nonneg _;have k2:(k:Int)≤(n:Int):=by omega
    clear hm;have hwp:IntKind.i64.wrap ((k:Int)+(m:Int))=(k:Int)+(m:Int):=IntWalk.i64_in _ (by omega)
    have HP:Hid (∀ j,j<m→wr.drew.cell? ⟨w.heap.size,0+j,none⟩=some (.int .i64 x)):=(fun j hj=>by
     rw [Nat.zero_add,show wr.drew.cell? ⟨w.heap.size,j,none⟩=_ from Blk.cell (w:=wr.drew) hB j];exact MX x k _ j (by omega))
    have HM:Hid ((ae (List.replicate m x)).length=Nat.min k (n - k)):=by
     show _=_
     rw [ints_length,List.length_replicate];exact Hm.out
    have HF:Hid (k+(ae (List.replicate m x)).length≤(ae (List.replicate k x ++ List.replicate (n - k) 0)).length):=by
     show _≤_
     simp only [ints_length,List.length_append,List.length_replicate];omega
    have HO:=Oi (Ea m x);have hB1:Hid (Blk wr.drew w.heap.size (ae (List.replicate k x ++ List.replicate (n - k) 0)) 2):=hB;go_wp2_with fail
    go_region_law (refine step_copy_splice (by rfl) (.tmp 41) (.tmp 44) 24 24 (by rfl) 2 Tryz.underlying24 (by kernel_rfl) (some ⟨w.heap.size,k,none⟩) (some ⟨w.heap.size,0,none⟩) (n - k) (n - k) k n (by simp [Act.eval,Act.put]) (by simp [Act.eval,Act.put]) w.heap.size k _ 2 hB1.out (ae (List.replicate m x)) HM.out (Ej HP.out) HF.out HO.out w.heap.size w hdrew (Nat.le_refl _) ?_;intro w4 hg4 hb4)
    all_goals
     have hB4:Blk w4 w.heap.size (ae (List.replicate (k+m) x ++ List.replicate (n - (k+m)) 0)) 2:=by
      have h2:=hg4.out;rw [HS.out] at h2;exact h2
     have hl:Hid ((ae (List.replicate m x)).length=m):=by show _=_;simp
     clear hB hw hdrew hg4
     try simp only [hwp]
     go_simp
     go_wp2_with fail;go_roundw
     case rel=>exact ⟨k+m,by omega,hm2,by go_num,hB4,hb4⟩
     case measure=>simp [intOf];omega
  · have:k=n:=by omega
    subst this;have hB2:Blk wr w.heap.size (ae (List.replicate k x)) 2:=by simpa using hB
    clear hB;go_wp2_with fail;go_ret;exact ⟨rfl,hB2,hw⟩
theorem Be (w:World) (n:Nat) (h1:1≤n) (hn:n≤1048576) :
 Calls Tryz.prog 174 #[.int .i64 n] w fun e w'=>e=.returned (.slice (some ⟨w.heap.size+1,0,none⟩) n n)∧Blk w' (w.heap.size+1) (ae (List.replicate n (-1))) 2∧Below w.heap.size w w':=by
 have LR:=Oi (F1 (w.alloc (.cells #[.int .i64 (-1)] 2)) w.heap.size (-1) n ((Blk.new w [.int .i64 (-1)] 2).cell 0) (by simp) h1 hn)
 go_enter Tryz.func174,Tryz.ntmps174;go_wp2_with fail;refine LR.out.mono ?_;rintro e w1 ⟨rfl,hb,hw⟩;rw [World.size_alloc] at hb hw;have hB:=(ai w (.cells #[.int .i64 (-1)] 2)).trans (hw.mono (Nat.le_succ _));clear hw;go_wp2_with fail;go_ret;exact ⟨by simp,hb,hB⟩
theorem Fq (w:World) (vB oB P T j gO cO:Nat) (aV:Option Addr) (cV:Nat) (xV:List Int) (ow:List Int) (kV:Blk w vB [.int .i64 P,.int .i64 T,.slice aV xV.length cV] 28) (kO:Blk w oB [.slice (some ⟨gO,0,none⟩) ow.length cO] 24) (hV:Rd w w.heap.size aV (ae xV)) (hO:Rd w w.heap.size (some ⟨gO,0,none⟩) (ae ow)) (lV:xV.length=P * T) (lO:ow.length=T) (hb:∀ x∈xV,0≤x∧x≤1000) (hP:P≤6) (hT:T≤8) :
 Calls Tryz.prog 176 #[.int .i64 j,.pointer (some ⟨vB,0,none⟩),.pointer (some ⟨oB,0,none⟩)] w fun e w'=>e=.returned (.bool (decide (dY P T xV ow j<0)))∧Below w.heap.size w w':=by
 have LE:=Oi (uS w P T j aV cV xV (some ⟨gO,0,none⟩) cO ow hV hO lV lO hb hP hT);have q0:w.cell? ⟨vB,0,none⟩=some (.int .i64 P):=kV.cell 0;have q1:w.cell? ⟨vB,1,none⟩=some (.int .i64 T):=kV.cell 1;have q2:w.cell? ⟨vB,2,none⟩=some (.slice aV xV.length cV):=kV.cell 2;have q3:w.cell? ⟨oB,0,none⟩=some (.slice (some ⟨gO,0,none⟩) ow.length cO):=kO.cell 0;obtain ⟨n,hn⟩:∃ n,n=dY P T xV ow j:=⟨_,rfl⟩;rw [← hn] at LE ⊢;clear hV hO lV lO hb kV kO hn
 go_enter Tryz.func176,Tryz.ntmps176;go_wp2_with fail;refine LE.out.mono ?_;rintro e w2 ⟨rfl,hb⟩;go_wp2_with fail;go_ret;exact ⟨rfl,hb⟩
def wZ (P T:Nat) (xV ow:List Int):Nat:=(1000 * (T:Int) * (P:Int) - jI T xV ow P).toNat
theorem MT {P T:Nat} {xV ow ow':List Int} (hb:∀ x∈xV,0≤x∧x≤1000) (h:jI T xV ow P<jI T xV ow' P):wZ P T xV ow'<wZ P T xV ow:=by
 have h1:=Ec (T:=T) (ow:=ow') hb P;unfold wZ;generalize 1000 * (T:Int) * (P:Int)=B at *
 omega
theorem Fn (ow tt:List Int):(ek ow tt).length=ow.length:=by simp [ek]
def Nf (P T:Nat) (xV:List Int) (w:World) (e:Ending) (w':World):Prop :=
 ∃ res a c,EnvyR P T xV 0 (List.replicate T (-1)) res∧res.length=T∧e=.returned (.tuple #[.slice a res.length c,.bool true])∧Rd w' w'.heap.size a (ae res)∧Below w.heap.size w w'
structure EV (P T gO:Nat) (xV ow:List Int) (t:Nat) (w4 wr:World):Prop where
 K:Blk wr gO (ae ow) 2
 H:∀ res,EnvyR P T xV t ow res→EnvyR P T xV 0 (List.replicate T (-1)) res
 B:∀ p∈ow,-1≤p∧p<(P:Int)
 L:ow.length=T
 T':Touch w4 wr gO (gO+1)
theorem wJ (w:World) (P T:Nat) (aV:Option Addr) (cV:Nat) (xV:List Int) (hG:bM P T xV=true) (hV:Rd w w.heap.size aV (ae xV)) :
 Calls Tryz.prog 128 #[.agg #[.int .i64 P,.int .i64 T,.slice aV xV.length cV]] w (Nf P T xV w):=by
 have hG':=hG;obtain ⟨P',T',e1,e2,p1,p6,t1,t8,lV,hb⟩:=db hG';obtain rfl:P=P':=Int.ofNat.inj e1;obtain rfl:T=T':=Int.ofNat.inj e2;have hPT:P * T≤48:=Nat.le_trans (Nat.mul_le_mul p6 t8) (by decide)
 have KG:=Oi (Blk.new w [.int .i64 P,.int .i64 T,.slice aV xV.length cV] 28);have B1:=Oi (ai w (.cells #[.int .i64 P,.int .i64 T,.slice aV xV.length cV] 28));have LV:=Oi (fun v (hbl:Below w.heap.size w v)=>eu v P T aV cV xV (hV.to hbl) (by omega))
 have LN:=Oi (fun v=>Be v T t1 (by omega))
 have LC:=Oi (fun v=>gi v P (by omega))
 have HV:=Oi hV;have HLV:=Oi lV;have HB:=Oi hb;rw [hG] at LV;clear hV hG hG' lV hb e1 e2
 go_enter Tryz.func128,Tryz.ntmps128;go_wp2_with fail;refine (LV.out _ B1.out).mono ?_;rintro e w2 ⟨rfl,hb2⟩;have BB:=Oi (aa B1.out hb2);have K2:=KG.out.same hb2;have HK2:=Oi K2;have q1:w2.cell? ⟨w.heap.size,1,none⟩=some (.int .i64 T):=K2.cell 1;clear hb2 LV K2;go_wp2_with fail;refine (LN.out _).mono ?_;rintro e w3 ⟨rfl,kO,hb3⟩;have hk3:=kO.lt;obtain ⟨gO,hgO⟩:∃ g,g=w2.heap.size+1:=⟨_,rfl⟩;rw [← hgO] at kO hk3 ⊢;have hK2lt:=HK2.out.lt;have hg0:w.heap.size<gO:=by omega
 have HKV:Hid (Blk (w3.alloc (.cells #[.slice (some ⟨gO,0,none⟩) T T] 24)) w.heap.size [.int .i64 P,.int .i64 T,.slice aV xV.length cV] 28):=(HK2.out.same hb3).alloc _;have HKO:Hid (Blk (w3.alloc (.cells #[.slice (some ⟨gO,0,none⟩) T T] 24)) w3.heap.size [.slice (some ⟨gO,0,none⟩) T T] 24):=Blk.new w3 _ _;have HKG:Hid (Blk (w3.alloc (.cells #[.slice (some ⟨gO,0,none⟩) T T] 24)) gO (ae (List.replicate T (-1))) 2):=kO.alloc _;have HB4:Hid (Below w.heap.size w (w3.alloc (.cells #[.slice (some ⟨gO,0,none⟩) T T] 24))):=aa (aa BB.out hb3) (ai _ _);clear q1 hb3 kO hK2lt LN HK2 BB hgO;go_wp2_with fail;obtain ⟨w4,hw4⟩:∃ X,X=w3.alloc (.cells #[.slice (some ⟨gO,0,none⟩) T T] 24):=⟨_,rfl⟩;have hs4:w4.heap.size=w3.heap.size+1:=by rw [hw4];simp
 rw [← hw4] at HKV HKO HKG HB4 ⊢;obtain ⟨oB,hoB⟩:∃ b,b=w3.heap.size:=⟨_,rfl⟩;rw [← hoB] at HKO hs4 hk3 ⊢;clear hw4 hoB
 go_loopw [15] (fun tv wr=>∃ (t:Nat) (ow:List Int),t≤T∧tv=.int .i64 t∧Hid (EV P T gO xV ow t w4 wr)) (fun tv _=>T - (intOf tv).toNat)
 case atStart=>exact ⟨0,List.replicate T (-1),Nat.zero_le _,rfl,⟨HKG.out,fun res h=>h,fun p hp=>by rw [List.eq_of_mem_replicate hp];omega,by simp,Touch.refl _ _ _⟩⟩
 case round =>
  clear HKG;obtain ⟨t,ow,ht,rfl,hE⟩:=hrel;have t0:(0:Int)≤(t:Int):=Int.natCast_nonneg _;obtain ⟨wo,hwo⟩:∃ W:World,W=wr:=⟨_,rfl⟩;subst hwo
  by_cases hlt:t<T
  · have hti:(t:Int)<(T:Int):=by omega
    go_wp2_with fail
    go_loopg [6] (wZ P T xV ow) (fun gk _ wr=>∃ ow:List Int,gk=wZ P T xV ow∧Hid (EV P T gO xV ow t w4 wr))
    case atStart=>exact ⟨ow,rfl,hE⟩
    case round =>
     clear hE;obtain ⟨ow,rfl,hE⟩:=hrel;have hsg:=hE.out.T'.size;have Bw:=Oi (aI HB4.out hE.out.T' (by omega) (by have:=HKV.out.lt;omega))
     have KVr:=Oi (HKV.out.touch hE.out.T' (.inl (by omega)))
     have KOr:=Oi (HKO.out.touch hE.out.T' (.inr (by omega)))
     have q0:wr.cell? ⟨w.heap.size,0,none⟩=some (.int .i64 P):=KVr.out.cell 0;go_wp2_with fail;refine (LC.out _).mono ?_;rintro e w5 ⟨al,cl,rfl,oT,hb5⟩;have LI:=tL 176 #[.pointer (some ⟨w.heap.size,0,none⟩),.pointer (some ⟨oB,0,none⟩)] (fun _ _=>by kernel_rfl) w5 al cl (ae (eL P)) (fun j=>decide (dY P T xV ow j<0)) (ay oT (Nat.le_refl _)) (by rw [ints_length,bG];omega) (fun w' j u hb6 hj=>by
      have hj':j<P:=by have:=(List.getElem?_eq_some_iff.1 hj).1;simpa [bG] using this
      rw [eJ _ _ (by rw [bG];exact hj')] at hj
      injection hj with hj
      subst hj;rw [co (oP hj')];have hb7:=aa hb5 hb6;have kg:=hE.out.K.same hb7;have ko:=KOr.out.same hb7;rw [← hE.out.L] at ko;exact Fq w' w.heap.size oB P T j gO ow.length aV cV xV ow (KVr.out.same hb7) ko (HV.out.to (aa Bw.out hb7)) (kg.rd kg.lt) HLV.out hE.out.L HB.out p6 t8)
     rw [ints_length,bG] at LI;have HLI:=Oi LI;have HB5:=Oi hb5;clear LI oT hb5 q0;go_wp2_with fail;refine HLI.out.mono ?_;rintro e w6 ⟨rfl,hb6⟩;have HB6:=Oi (aa HB5.out hb6);clear hb6 HLI HB5;have E6:Hid (EV P T gO xV ow t w4 w6):=⟨hE.out.K.same HB6.out,hE.out.H,hE.out.B,hE.out.L,hE.out.T'.trans (Below.touch HB6.out gO (gO+1))⟩;have B6:=Oi (aa Bw.out HB6.out);have KV6:=Oi (KVr.out.same HB6.out);have KO6:=Oi (KOr.out.same HB6.out);have o0:w6.cell? ⟨oB,0,none⟩=some (.slice (some ⟨gO,0,none⟩) T T):=KO6.out.cell 0;clear hE Bw KVr KOr HB6 hsg
     rcases nf (fun j=>decide (dY P T xV ow j<0)) P with ⟨k,hkP,hkp,hkb,hke⟩ | ⟨hkn,hke⟩
     · rw [hke]
       have k0:(0:Int)≤(k:Int):=Int.natCast_nonneg _;have hol:=E6.out.L;have c1:w6.cell? ⟨gO,t,none⟩=some (.int .i64 (ow.getD t 0)):=by
        rw [E6.out.K.cell];exact eJ _ _ (by rw [hol];exact hlt)
       have c2:=E6.out.K.free t;generalize ow.getD t 0=z at *
       have HN:Hid (EV P T gO xV (ow.set t (k:Int)) (t+1) w4 (w6.setCell ⟨gO,t,none⟩ (.int .i64 k))):=by
        refine ⟨by rw [oE];exact E6.out.K.set t _,fun res h=>E6.out.H res (.give t ow res k hlt hke h),fun p hp=>?_,by rw [List.length_set];exact hol,E6.out.T'.trans (au w6 gO t (.int .i64 k))⟩
        rcases List.mem_or_eq_of_mem_set hp with h | h
        · exact E6.out.B p h
        · rw [h];omega
       clear hkp hkb hke hol;go_wp2_with fail;go_roundw
       case rel=>exact ⟨t+1,ow.set t (k:Int),by omega,by go_num,HN⟩
       case measure=>simp [intOf];omega
     · rw [hke]
       have LM:=Kf w6 P T gO T aV cV xV ow (HV.out.to B6.out) E6.out.K HLV.out E6.out.L HB.out E6.out.B p1 p6 t1 t8 (fun j hj=>of_decide_eq_false (hkn j hj))
       rw [E6.out.L] at LM;have HLM:=Oi LM;have HKE:=Oi hke;have v0:w6.cell? ⟨w.heap.size,0,none⟩=some (.int .i64 P):=KV6.out.cell 0;have v1:w6.cell? ⟨w.heap.size,1,none⟩=some (.int .i64 T):=KV6.out.cell 1;have v2:w6.cell? ⟨w.heap.size,2,none⟩=some (.slice aV xV.length cV):=KV6.out.cell 2;clear LM hke hkn;go_wp2_with fail;refine HLM.out.mono ?_;rintro e w7 ⟨rfl,r,hrr,hring,kM,tM⟩;have HN:Hid (EV P T gO xV (ek ow (ga P r r.length)) t w4 w7):=⟨kM,fun res h=>E6.out.H res (.move t ow res r hlt HKE.out hrr h),Kg E6.out.B (Jg hring.lt r.length (Nat.le_refl _)) (th P r _),by rw [Fn];exact E6.out.L,E6.out.T'.trans tM⟩
       have HP:=Oi (MT HB.out (Fo hring E6.out.B E6.out.L));clear hrr hring kM tM;go_wp2_with fail
       go_roundg (wZ P T xV (ek ow (ga P r r.length)))
       case measure=>exact HP.out
       case rel=>exact ⟨_,rfl,HN⟩
  · obtain rfl:t=T:=by omega
    have o0:wo.cell? ⟨oB,0,none⟩=some (.slice (some ⟨gO,0,none⟩) t t):=(HKO.out.touch hE.out.T' (.inr (by omega))).cell 0
    have BZ:=Oi (aI HB4.out hE.out.T' (by omega) (by have:=HKV.out.lt;omega))
    have HRd:=Oi (hE.out.K.rd hE.out.K.lt);have HR:=Oi (hE.out.H ow (.done ow));have HL:=Oi hE.out.L;clear hE;go_wp2_with fail
    go_ret2
    exact ⟨ow,_,t,HR.out,HL.out,by rw [HL.out];rfl,HRd.out,BZ.out⟩
end Go.Proofs.YtbknhgapjjaelaaGreatDoor
