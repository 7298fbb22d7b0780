/-
  Part 6 of what the proof stands on: lemmas and contracts, each with its conditions ahead of the colon.
-/
import Derived.Test.YtbknhgapjjaelaaGreatDoorShelf
import Derived.Deep.Fields
import Derived.Deep.Matrix
import Derived.BigQuiet
import Derived.Test.YtbknhgapjjaelaaGreatDoorPj01
import Derived.Test.YtbknhgapjjaelaaGreatDoorPj02
import Derived.Test.YtbknhgapjjaelaaGreatDoorPj03
import Derived.Test.YtbknhgapjjaelaaGreatDoorPj04
import Derived.Test.YtbknhgapjjaelaaGreatDoorPj05
set_option maxRecDepth 200000
set_option maxHeartbeats 8000000
namespace Go.Proofs.YtbknhgapjjaelaaGreatDoor
set_option linter.unusedVariables false
set_option linter.unusedSimpArgs false
open Go.RowKit
theorem Ml {c:UInt8} {w:List UInt8} (h:c∉w):cH c w=[w]:=by
 have:=uk (c:=c) w [] (fun y hy=>by rcases List.mem_cons.1 hy with rfl | hy;exact h;cases hy)
 rwa [Lib.join_one] at this
def bj (ls:List (List UInt8)):List UInt8:=(ls.map (· ++ [10])).flatten
theorem dS (l:List UInt8) (ls:List (List UInt8)):bj (l :: ls)=l ++ 10 :: bj ls:=by simp [bj]
theorem vU:∀ (l:List UInt8) (ls:List (List UInt8)),Lib.join (l :: (ls ++ [[]])) [10]=l ++ 10 :: bj ls
 | l,[]=>by rw [List.nil_append,Lib.join_cons];simp [Lib.joinTail,bj]
 | l,m :: ls=>by
   have ih:=vU m ls;rw [Lib.join_cons] at ih;rw [List.cons_append,Lib.join_cons,Lib.joinTail,List.map_cons,List.flatten_cons,dS,← ih];simp [Lib.joinTail]
theorem GR {ls:List (List UInt8)} (h:∀ l∈ls,(10:UInt8)∉l):cH 10 (bj ls)=ls ++ [[]]:=by
 cases ls with
 | nil=>exact Ml (by simp [bj])
 | cons l ls =>
   rw [dS,← vU,← List.cons_append];refine uk (c:=10) l (ls ++ [[]]) (fun y hy=>?_)
   rcases List.mem_cons.1 hy with rfl | hy
   · exact h _ (by simp)
   · rcases List.mem_append.1 hy with hy | hy
     · exact h y (by simp [hy])
     · simp at hy;subst hy;simp
theorem CV {ls:List (List UInt8)} (h:∀ l∈ls,(10:UInt8)∉l):ce (bj ls)=ls∧mj (bj ls)=[]:=by
 have e:=mx (bj ls);rw [GR h] at e;have e2:=List.append_inj' e.symm rfl;exact ⟨e2.1,by have:=e2.2;simpa using this⟩
theorem Jc (ls:List (List UInt8)):(bj ls).length=Lib.lens ls+ls.length:=by
 induction ls with
 | nil=>rfl
 | cons l ls ih=>rw [dS,List.length_append,List.length_cons,ih];simp [Lib.lens];omega
theorem Du (xs:List Int):aJ xs=[110,111,110,101]∨∃ b r,aJ xs=b :: r∧sP b:=by
 unfold aJ
 split
 · exact .inl rfl
 · right
   cases xs with
   | nil=>simp_all
   | cons x r =>
     rw [List.map_cons,Lib.join_cons];have hz:=DO x;have hb:=fun b=>nj (n:=x) (b:=b)
     generalize Lib.itoa x=l at hz hb
     cases l with
     | nil=>exact absurd rfl hz
     | cons b l=>exact ⟨b,_,rfl,hb b (by simp)⟩
theorem rP {b:UInt8} (h:sP b):b≠110∧b≠119∧b≠10:=⟨sN h (by decide) (by decide),sN h (by decide) (by decide),sN h (by decide) (by decide)⟩
theorem ro {b:UInt8} {r:List UInt8} (h:b≠110) (h2:b≠119):nh (b :: r)=false:=by
 unfold nh;rw [Bool.or_eq_false_iff,decide_eq_false_iff_not,decide_eq_false_iff_not];exact ⟨fun e=>h (by injection e),fun e=>h2 (by injection e)⟩
theorem zH (r:List UInt8):nh (110 :: 111 :: 110 :: 101 :: r)=false:=by
 unfold nh;rw [Bool.or_eq_false_iff,decide_eq_false_iff_not,decide_eq_false_iff_not];exact ⟨fun e=>by simp at e,fun e=>by simp at e⟩
theorem yz (xs:List Int) (r:List UInt8):nh (aJ xs ++ r)=false:=by
 rcases Du xs with h | ⟨b,l,h,hb⟩
 · rw [h];exact zH r
 · rw [h];exact ro (rP hb).1 (rP hb).2.1
theorem FC (x:List Int) (r:List (List Int)):nh (bt (x :: r))=false:=by
 unfold bt;rw [List.map_cons,Lib.join_cons];exact yz x _
theorem Hd (n:Int):nh (Lib.itoa n)=false:=by
 have hz:=DO n;have hb:=fun b=>nj (n:=n) (b:=b)
 generalize Lib.itoa n=l at hz hb
 cases l with
 | nil=>exact absurd rfl hz
 | cons b l=>exact ro (rP (hb b (by simp))).1 (rP (hb b (by simp))).2.1
theorem Fr (xs:List Nat):nh (bJ xs)=false:=by
 unfold bJ
 split
 · exact zH []
 · cases xs with
   | nil=>simp_all
   | cons x r =>
     rw [List.map_cons,Lib.join_cons];have hl:=lJ x;have hb:=fun b=>AB (x:=x) (b:=b)
     generalize eR x=l at hl hb
     cases l with
     | nil=>simp at hl
     | cons b l =>
       have:=hb b (by simp)
       refine ro (fun e=>?_) (fun e=>?_)
       · subst e;revert this;decide
       · subst e;revert this;decide
theorem ku (n:Int):(10:UInt8)∉Lib.itoa n:=fun h=>(rP (nj h)).2.2 rfl
theorem Hf (n:Int):(32:UInt8)∉Lib.itoa n:=fun h=>sN (nj h) (c:=32) (by decide) (by decide) rfl
theorem fp {xs:List Int} (h:bD xs=true):(aJ xs).length≤22 * xs.length+4:=by
 unfold bD at h;rw [Bool.and_eq_true,fi] at h;exact pu (fun x hx=>by have:=h.1 x hx;omega)
theorem sx {xs:List Int} (h:bD xs=true):xs.length≤64:=by
 unfold bD at h;rw [Bool.and_eq_true,decide_eq_true_eq] at h;exact h.2
theorem Bm {xss:List (List Int)} (h:∀ x∈xss,bD x=true):(bt xss).length≤1413 * xss.length:=by
 unfold bt;have:=km (m:=1412) (xs:=xss.map aJ) (sep:=[59]) (fun x hx=>by
  obtain ⟨y,hy,rfl⟩:=List.mem_map.1 hx;have h1:=fp (h y hy);have h2:=sx (h y hy)
  omega)
 simpa using this
theorem FB (x y:List Int):(bt [x,y]).length=(aJ x).length+1+(aJ y).length:=by
 simp [bt,Lib.join_cons,Lib.joinTail];omega
theorem qP (x y z:List Int):(bt [x,y,z]).length=(aJ x).length+1+(aJ y).length+1+(aJ z).length:=by
 simp [bt,Lib.join_cons,Lib.joinTail];omega
def md (c:Int) (l:List UInt8):List UInt8:=Lib.itoa (bP c l) ++ 32 :: l
def im:Int→List (List UInt8)→List (List UInt8)
 | _,[]=>[]
 | c,l :: r=>md c l :: im (bP c l) r
theorem AU:∀ (ls:List (List UInt8)) (c:Int) (t:List UInt8),(ls.foldl gx (c,t)).2=t ++ bj (im c ls)
 | [],c,t=>by simp [im,bj]
 | l :: r,c,t=>by
   rw [List.foldl_cons,im,dS]
   show (r.foldl gx (bP c l,t ++ (Lib.itoa (bP c l) ++ 32 :: (l ++ [10])))).2=_
   rw [AU r];simp [md,List.append_assoc]
theorem nM (ls:List (List UInt8)):(bI ls).2=bj (im 0 ls):=by
 show (ls.foldl gx (0,[])).2=_
 rw [AU];rfl
theorem ut:∀ (ls:List (List UInt8)) (c:Int) (m:Nat),(im c ls).take m=im c (ls.take m)
 | [],c,m=>by simp [im]
 | l :: r,c,0=>rfl
 | l :: r,c,m+1=>by
   rw [im,List.take_succ_cons,List.take_succ_cons,im,ut r]
theorem DV:∀ (ls:List (List UInt8)) (c:Int),(im c ls).length=ls.length
 | [],_=>rfl
 | l :: r,c=>by rw [im,List.length_cons,List.length_cons,DV r]
theorem AV:∀ (ls:List (List UInt8)) (c:Int),(∀ l∈ls,(10:UInt8)∉l)→∀ x∈im c ls,(10:UInt8)∉x
 | [],c,_,x,hx=>by cases hx
 | l :: r,c,h,x,hx=>by
   rw [im] at hx
   rcases List.mem_cons.1 hx with rfl | hx
   · unfold md
     simp only [List.mem_append,List.mem_cons,not_or];exact ⟨ku _,by decide,h l (by simp)⟩
   · exact AV r _ (fun y hy=>h y (by simp [hy])) x hx
theorem Gt {x:List UInt8} (h:qq x=true):x=bQ x ++ 32 :: bE x:=by
 have h:=of_decide_eq_true h;have e:x=x.take (bQ x).length ++ x.drop (bQ x).length:=(List.take_append_drop _ _).symm;rw [pM] at e;have hb:x[(bQ x).length]? = some x[(bQ x).length]:=List.getElem?_eq_getElem h;have h32:=yH hb;have hd:x.drop (bQ x).length=32 :: bE x:=by
  rw [List.drop_eq_getElem_cons h,h32];rfl
 rw [hd] at e;exact e
theorem Cn {p q:List UInt8} (h:(32:UInt8)∉p):bQ (p ++ 32 :: q)=p:=by
 unfold bQ;rw [List.takeWhile_append_of_pos (fun b hb=>by
  simp only [bne_iff_ne];intro e;exact h (e ▸ hb))]
 simp
theorem Ka {p q:List UInt8} (h:(32:UInt8)∉p):bE (p ++ 32 :: q)=q:=by
 unfold bE;rw [Cn h];simp [List.drop_append]
theorem De (c:Int) (l:List UInt8):lh c (md c l)=true∧bE (md c l)=l:=by
 have h:=Hf (bP c l);have e1:bQ (md c l)=Lib.itoa (bP c l):=Cn h;have e2:bE (md c l)=l:=Ka h;refine ⟨?_,e2⟩
 unfold lh qq;rw [e1,e2];simp [md]
theorem BM:∀ (ls:List (List UInt8)) (c:Int),eg c (im c ls)=(ls,(bj (im c ls)).length)
 | [],c=>by simp [im,eg,bj]
 | l :: r,c=>by
   obtain ⟨h1,h2⟩:=De c l;rw [im,qU h1,h2,BM r,dS];simp only [List.length_append,List.length_cons]
   congr 1
   omega
theorem yo:∀ (xs:List (List UInt8)) (c:Int),bj (im c (eg c xs).1)=(bj xs).take (eg c xs).2∧(eg c xs).2≤(bj xs).length
 | [],c=>by simp [eg,im,bj]
 | x :: xs,c=>by
   cases h:lh c x with
   | false=>rw [sX h];simp [im,bj]
   | true =>
     rw [qU h];obtain ⟨i1,i2⟩:=yo xs (bP c (bE x));unfold lh at h;rw [Bool.and_eq_true,decide_eq_true_eq] at h;have e:md c (bE x)=x:=by
      conv=>rhs;rw [Gt h.1,h.2]
      rfl
     dsimp only;rw [im,dS,dS,e,i1];refine ⟨?_,by simp only [List.length_append,List.length_cons];omega⟩
     rw [List.take_append,List.take_of_length_le (l:=x) (by omega),show x.length+1+(eg (bP c (bE x)) xs).2 - x.length=(eg (bP c (bE x)) xs).2+1 from by omega,List.take_succ_cons]
theorem yy:∀ (n:Nat) (u:List UInt8),u.length≤n→∃ r,u=bj (ce u) ++ r
 | 0,u,h=>⟨[],by
   have:u=[]:=List.length_eq_zero_iff.1 (by omega)
   subst this;rw [ii (by simp)];rfl⟩
 | n+1,u,h=>by
   by_cases hm:(10:UInt8)∈u
   · obtain ⟨p,q,e,hp⟩:=List.eq_append_cons_of_mem hm
     subst e;rw [np hp,dS];simp only [List.length_append,List.length_cons] at h;obtain ⟨r,hr⟩:=yy n q (by omega)
     exact ⟨r,by
      conv=>lhs;rw [hr]
      simp⟩
   · rw [ii hm];exact ⟨u,rfl⟩
theorem tR:∀ (n:Nat) (u:List UInt8),u.length≤n→∀ x∈ce u,(10:UInt8)∉x
 | 0,u,h,x,hx=>by
   have:u=[]:=List.length_eq_zero_iff.1 (by omega)
   subst this;rw [ii (by simp)] at hx;cases hx
 | n+1,u,h,x,hx=>by
   by_cases hm:(10:UInt8)∈u
   · obtain ⟨p,q,e,hp⟩:=List.eq_append_cons_of_mem hm
     subst e;rw [np hp] at hx;simp only [List.length_append,List.length_cons] at h
     rcases List.mem_cons.1 hx with rfl | hx
     · exact hp
     · exact tR n q (by omega) x hx
   · rw [ii hm] at hx;cases hx
theorem yp:∀ (xs:List (List UInt8)) (c:Int),(∀ x∈xs,(10:UInt8)∉x)→∀ l∈(eg c xs).1,(10:UInt8)∉l
 | [],c,_,l,hl=>by simp [eg] at hl
 | x :: xs,c,h,l,hl=>by
   cases hr:lh c x with
   | false=>rw [sX hr] at hl;simp at hl
   | true =>
     rw [qU hr] at hl
     rcases List.mem_cons.1 hl with rfl | hl
     · exact fun hm=>h x (by simp) (List.mem_of_mem_drop hm)
     · exact yp xs _ (fun y hy=>h y (by simp [hy])) l hl
theorem J6 (u:List UInt8):(eD u).2≤u.length∧(bI (eD u).1).2=u.take (eD u).2∧∀ l∈(eD u).1,(10:UInt8)∉l:=by
 obtain ⟨r,hr⟩:=yy u.length u (Nat.le_refl _);obtain ⟨h1,h2⟩:=yo (ce u) 0;have hl:u.length=(bj (ce u)).length+r.length:=by
  conv=>lhs;rw [hr]
  simp
 refine ⟨by show (eg 0 (ce u)).2≤_;omega,?_,yp _ 0 (tR u.length u (Nat.le_refl _))⟩
 rw [nM]
 show bj (im 0 (eg 0 (ce u)).1)=u.take (eg 0 (ce u)).2
 rw [h1];generalize (eg 0 (ce u)).2=n at *
 generalize bj (ce u)=y at *
 rw [hr,List.take_append_of_le_length h2]
theorem vg:∀ (xs:List (List UInt8)) (n:Nat),(∀ x∈xs,(10:UInt8)∉x)→∃ m,m≤xs.length∧ce ((bj xs).take n)=xs.take m∧(bj (xs.take m)).length≤n∧(m<xs.length→n<(bj (xs.take (m+1))).length)
 | [],n,_=>⟨0,Nat.le_refl _,by simp [bj];exact ii (by simp),by simp [bj],fun h=>by simp at h⟩
 | x :: xs,n,h=>by
   have hx:=h x (by simp)
   by_cases hn:x.length+1≤n
   · obtain ⟨m,m1,m2,m3,m4⟩:=vg xs (n - (x.length+1)) (fun y hy=>h y (by simp [hy]))
     refine ⟨m+1,by simp;omega,?_,?_,fun hlt=>?_⟩
     · rw [dS,List.take_append,List.take_of_length_le (l:=x) (by omega),show n - x.length=(n - (x.length+1))+1 from by omega,List.take_succ_cons,np hx,m2,List.take_succ_cons]
     · rw [List.take_succ_cons,dS];simp only [List.length_append,List.length_cons];omega
     · have:=m4 (by simp at hlt;omega)
       rw [List.take_succ_cons,dS];simp only [List.length_append,List.length_cons];omega
   · refine ⟨0,Nat.zero_le _,?_,by simp [bj],fun _=>?_⟩
     · rw [dS,List.take_append,show n - x.length=0 from by omega]
       simp only [List.take_zero,List.append_nil];exact ii fun hm=>hx (List.mem_of_mem_take hm)
     · rw [List.take_succ_cons,dS];simp only [List.length_append,List.length_cons];omega
theorem AQ {ls:List (List UInt8)} (h:∀ l∈ls,(10:UInt8)∉l) (n:Nat):∃ m,m≤ls.length∧eD ((bI ls).2.take n)=(ls.take m,(bI (ls.take m)).2.length)∧(bI (ls.take m)).2.length≤n∧(m<ls.length→n<(bI (ls.take (m+1))).2.length):=by
 obtain ⟨m,m1,m2,m3,m4⟩:=vg (im 0 ls) n (AV ls 0 h);rw [DV] at m1 m4;rw [ut] at m2 m3;refine ⟨m,m1,?_,by rw [nM];exact m3,fun hlt=>by have:=m4 hlt;rw [ut] at this;rw [nM];exact this⟩
 rw [nM]
 show eg 0 (ce ((bj (im 0 ls)).take n))=_
 rw [m2,BM,nM]
theorem AP {ls:List (List UInt8)} (h:∀ l∈ls,(10:UInt8)∉l):eD (bI ls).2=(ls,(bI ls).2.length):=by
 obtain ⟨m,m1,m2,m3,m4⟩:=AQ h (bI ls).2.length;rw [List.take_length] at m2;have hm:m=ls.length:=by
  by_cases hlt:m<ls.length
  · have:=m4 hlt
    have:=AS ls (m+1);omega
  · omega
 rw [hm,List.take_length] at m2;exact m2
theorem ER (w:World) (h:Shp w) (x:List UInt8) (hs:x.length≤1048576) :
 Calls Tryz.prog 92 #[.string (bs x),.string ⟨#[32]⟩] w fun e w'=>e=.returned (.tuple #[.string (bs (bQ x)),.string (bs (bE x)),.bool (qq x)])∧Below w.heap.size w w':=by
 obtain ⟨m,hm⟩:=h;refine (Tryz.strings_Cut (bs x) ⟨#[32]⟩ m w (by rw [aE];omega) hm).mono ?_
 rintro e w' ⟨rfl,n,rfl⟩;rw [show (bs x).data.toList=x from rfl,show (ByteArray.mk #[32]).data.toList=[32] from rfl,Nq]
 exact ⟨rfl,mc w n⟩
theorem CO (w:World) (x:List UInt8) :
 Calls Tryz.prog 91 #[.string (bs x),.int .u8 10] w fun e w'=>e=.returned (.int .i64 (Lib.indexByte x 10))∧w'=w:=Tryz.strings_IndexByte (bs x) 10 w
theorem rg (w:World) (hT:Tab w) (hS:Shp w) (s:ByteArray) (hs:s.size≤1048576) :
 Calls Tryz.prog 54 #[.string s] w fun e w'=>∃ v,e=.returned (.tuple #[v,.int .i64 (eD s.data.toList).2])∧w'.ownsRow w.heap.size 9 1 v (eD s.data.toList).1.length (bF (eD s.data.toList).1)∧Below w.heap.size w w':=by
 obtain ⟨l,hl⟩:∃ l,l=s.data.toList:=⟨_,rfl⟩;have hsz:s.size=l.length:=by rw [hl];exact Lib.size_eq s
 have HEX:Hid (∀ a b,s.extract a b=bs ((l.take b).drop a)):=fun a b=>by rw [hl];exact jt s a b
 have Hsz:=Oi hsz;have HT:=Oi hT;have HS:=Oi hS;rw [← hl];clear hl hsz hT hS
 go_enter Tryz.func54,Tryz.ntmps54;go_wp2_with fail
 go_loopw [4,5,6] (fun v cv av wr=>∃ (k:Nat) (c:Int) (d:List (List UInt8)),k≤s.size∧d.length≤k∧av=.int .i64 k∧cv=.int .i64 c∧0≤c∧c≤65002∧Hid (eD l=(d ++ (eg c (ce (l.drop k))).1,k+(eg c (ce (l.drop k))).2))∧Hid (wr.ownsRow w.heap.size 9 1 v d.length (bF d))∧Below w.heap.size w wr) (fun _ _ av _=>s.size - (intOf av).toNat)
 case atStart=>exact ⟨0,0,[],Nat.zero_le _,Nat.le_refl _,rfl,rfl,by omega,by omega,by show _=_;rw [List.drop_zero,Nat.zero_add,List.nil_append];rfl,bz w _,ai _ _⟩
 case round =>
  obtain ⟨k,c,d,hk,hd,rfl,rfl,c0,c1,hst,hO,hw⟩:=hrel;have hws:=hw.size;have k0:(0:Int)≤(k:Int):=Int.natCast_nonneg _;have hk2:(k:Int)≤(s.size:Int):=by omega
  have hE1:s.extract k s.size=bs (l.drop k):=by rw [HEX.out,Hsz.out,List.take_length]
  have LI:=Oi (CO wr (l.drop k));have HE1:=Oi hE1;rw [← hE1] at LI;clear hE1
  rcases Int.lt_or_le (Lib.indexByte (l.drop k) 10) 0 with hn | hn
  · have hn1:Lib.indexByte (l.drop k) 10 = -1:=by have:=Lib.indexByte_ge (l.drop k) 10;omega
    rw [hn1] at LI;have HF:Hid (eD l=(d,k)):=by rw [Hid,hst.out,H9 hn1];simp [eg]
    clear hst hn1 hn;go_wp2_with fail;refine LI.out.mono ?_;rintro e w' ⟨rfl,rfl⟩;go_wp2_with fail
    go_ret2
    rw [HF.out];exact ⟨_,rfl,hO.out,hw⟩
  · obtain ⟨n,hn1⟩:=Int.eq_ofNat_of_zero_le hn
    rw [hn1] at LI;obtain ⟨hnl,hli⟩:=H7 hn1;rw [List.drop_drop] at hli;have hkn:k+n+1≤s.size:=by rw [List.length_drop] at hnl;have:=Hsz.out;omega
    obtain ⟨x,hx⟩:∃ x,x=(l.drop k).take n:=⟨_,rfl⟩;rw [← hx] at hli;have hxl:x.length=n:=by rw [hx,List.length_take];omega
    have hE2:s.extract k (k+n)=bs x:=by rw [HEX.out,hx,List.take_drop]
    rw [hli] at hst;have hkn2:(k:Int)+(n:Int)≤(s.size:Int):=by omega
    have n0:(0:Int)≤(n:Int):=Int.natCast_nonneg _;have LCt:=Oi (ER wr (HS.out.to hw) x (by omega))
    have HLD:Hid ((bE x).length≤1048576):=by show _≤_;unfold bE;rw [List.length_drop];omega
    have hzl:(bs (bE x)).size≤1099511627776:=by rw [aE];have:=HLD.out;omega
    have LC:=Oi (fun v=>tF c c0 c1 (bs (bE x)) hzl v)
    rw [show (bs (bE x)).data.toList=bE x from rfl] at LC
    obtain ⟨c2,c3⟩:=lD (bE x) c c0 c1;have LD:=Oi (fun v (hv:Tab v)=>iO v hv (bP c (bE x)) (by omega) (by omega))
    rw [← hE2] at LCt
    cases hsp:qq x with
    | false =>
      have HF:Hid (eD l=(d,k)):=by
       rw [Hid,hst.out,sX (by unfold lh;rw [hsp];rfl)];simp
      rw [hsp] at LCt;clear hst hli hn1 hnl hn hsp LD hE2 hx hxl HLD hzl;generalize bP c (bE x)=cn at *
      generalize bs (bE x)=LN at *
      generalize bs (bQ x)=WD at *
      go_wp2_with fail;refine LI.out.mono ?_;rintro e w' ⟨rfl,rfl⟩;go_wp2_with fail;refine LCt.out.mono ?_;rintro e wc ⟨rfl,hbc⟩;go_wp2_with fail;refine (LC.out _).mono ?_;rintro e w' ⟨rfl,rfl⟩;go_wp2_with fail
      go_ret2
      rw [HF.out];exact ⟨_,rfl,aD hO.out hbc,aa hw hbc⟩
    | true =>
      by_cases hwd:bQ x=Lib.itoa (bP c (bE x))
      · have HF:Hid (eD l=((d ++ [bE x]) ++ (eg (bP c (bE x)) (ce (l.drop (k+n+1)))).1,(k+n+1)+(eg (bP c (bE x)) (ce (l.drop (k+n+1)))).2)):=by
          rw [Hid,hst.out,qU (by unfold lh;rw [hsp,hwd];simp),hxl]
          simp only [List.append_assoc,List.singleton_append,← Nat.add_assoc]
        rw [hsp] at LCt;rw [hwd] at LCt;have HLN:Hid (bF [bE x]=[.string (bs (bE x))]):=rfl;clear hst hli hn1 hnl hn hsp hE2 hx hxl HLD hzl hwd;generalize bP c (bE x)=cn at *
        generalize bs (Lib.itoa cn)=D at *
        generalize hln:bE x=ln at *
        generalize hLN:bs ln=LN at *
        have hdl:d.length≤1099511627776:=by omega
        clear hln;go_wp2_with fail;refine LI.out.mono ?_;rintro e w' ⟨rfl,rfl⟩;go_wp2_with fail;refine LCt.out.mono ?_;rintro e wc ⟨rfl,hbc⟩;have HTc:=HT.out.to (aa hw hbc);have Hbc:=Oi hbc;clear hbc;go_wp2_with fail;refine (LC.out _).mono ?_;rintro e w' ⟨rfl,rfl⟩;go_wp2_with fail;refine (LD.out _ HTc).mono ?_;rintro e wd ⟨rfl,hbd⟩;have hO':=aD (aD hO.out Hbc.out) hbd;have hwd:=aa (aa hw Hbc.out) hbd;have hwsd:=hwd.size;clear hbd Hbc hO hw hws
        go_wp2_with (at_builtin;refine aH _ rfl _ _ 35 rfl w.heap.size 9 (.string ByteArray.empty) 16 Tryz.underlying35 lL rfl _ d.length _ rfl hO' (.string LN) rfl rfl (by omega) hdl hwsd ?_)
        intro v' w' ho hgr;have HO2:Hid (w'.ownsRow w.heap.size 9 1 v' (d ++ [ln]).length (bF (d ++ [ln]))):=by
         rw [Hid,List.length_append,List.length_singleton,fZ,HLN.out];exact ho
        have hw2:=ah hwd hO' hgr (Nat.le_refl _) hwsd;clear ho hgr hO' hwd;go_wp2_with fail;go_roundw
        case rel=>exact ⟨k+n+1,cn,d ++ [ln],by omega,by simp;omega,by go_num,rfl,c2,c3,HF,HO2,hw2⟩
        case measure=>simp [intOf];omega
      · have HF:Hid (eD l=(d,k)):=by
          rw [Hid,hst.out,sX (by unfold lh;rw [hsp,decide_eq_false hwd];rfl)];simp
        have hbl:((bs (bQ x)).toList == (bs (Lib.itoa (bP c (bE x)))).toList)=false:=by rw [ab,ab,Bool.eq_false_iff];intro h;exact hwd (eq_of_beq h)
        rw [hsp] at LCt;clear hst hli hn1 hnl hn hsp hE2 hx hxl HLD hzl hwd;generalize bP c (bE x)=cn at *
        generalize bs (Lib.itoa cn)=D at *
        generalize bs (bE x)=LN at *
        generalize bs (bQ x)=WD at *
        go_wp2_with fail;refine LI.out.mono ?_;rintro e w' ⟨rfl,rfl⟩;go_wp2_with fail;refine LCt.out.mono ?_;rintro e wc ⟨rfl,hbc⟩;have HTc:=HT.out.to (aa hw hbc);have Hbc:=Oi hbc;clear hbc;go_wp2_with fail;refine (LC.out _).mono ?_;rintro e w' ⟨rfl,rfl⟩;go_wp2_with fail;refine (LD.out _ HTc).mono ?_;rintro e wd ⟨rfl,hbd⟩;go_wp2_with fail
        go_ret2
        rw [HF.out];exact ⟨_,rfl,aD (aD hO.out Hbc.out) hbd,aa (aa hw Hbc.out) hbd⟩
def sg (l:List UInt8):List (List UInt8) × Int × Bool:=if l.length≤16000 then ((eD l).1,((eD l).2:Int),true) else ([],0,false)
def zw (w:World) (r:List (List UInt8) × Int × Bool) (e:Ending) (w':World):Prop:=∃ a c,e=.returned (.tuple #[.slice a r.1.length c,.int .i64 r.2.1,.bool r.2.2])∧Rd w' w'.heap.size a (bF r.1)∧Below w.heap.size w w'
theorem sh (w:World) (hT:Tab w) (hS:Shp w) (s:ByteArray) (hs:s.size≤1048576) :
 Calls Tryz.prog 23 #[.string s] w (zw w (sg s.data.toList)):=by
 have LR:=Oi (rg w hT hS s hs);have hz:=Lib.size_eq s;unfold sg
 by_cases h:s.data.toList.length≤16000
 · have hi:¬ (16000:Int)<(s.size:Int):=by omega
   rw [if_pos h];generalize eD s.data.toList=RF at *
   clear h hz
   go_enter Tryz.func23,Tryz.ntmps23;go_wp2_with fail;refine LR.out.mono ?_;rintro e w' ⟨v,rfl,ho,hb⟩;obtain ⟨a,c,rfl,_,_⟩:=ba ho;go_wp2_with fail;go_ret3;exact ⟨a,c,rfl,ay ho (Nat.le_refl _),hb⟩
 · have hi:(16000:Int)<(s.size:Int):=by omega
   rw [if_neg h];clear h hz
   go_enter Tryz.func23,Tryz.ntmps23;go_wp2_with fail;go_ret3;exact ⟨none,0,rfl,ay (World.ownsRow_nil _ w.heap.size 9 _) (Nat.le_refl _),Below.refl _ _⟩
def lp (xs:List Nat):Bool:=decide (1≤xs.length) && decide (xs.length≤16) && jJ xs
open Go.RowKit Go.ChangeShapes Go.WideShapes
section
variable {H:Type} {enc:TypeId × Value→H} {P:Program} {w:World} {base:Nat} {spare:Nat→Bool} {held:Bool}
end
def RdGame (w:World) (B:Nat) (a2:Option Addr) (x2:List Int) (a3:Option Addr) (x3:List Int):Prop:=Rd w B a2 (ae x2)∧Rd w B a3 (ae x3)
def OwnGame (w:World) (lo hi:Nat) (a2:Option Addr) (c2:Nat) (x2:List Int) (a3:Option Addr) (c3:Nat) (x3:List Int):Prop :=
 ∃ m3:Nat,(lo≤m3∧m3≤hi)∧OwnI 2 w lo m3 a2 c2 x2∧OwnI 2 w m3 hi a3 c3 x3
section
variable {w w':World} {B C lo hi:Nat} {a2:Option Addr} {x2:List Int} {a3:Option Addr} {x3:List Int} {c2:Nat} {c3:Nat}
theorem RdGame.below (h:RdGame w B a2 x2 a3 x3) (hb:Below C w w') (hB:B≤C):RdGame w' B a2 x2 a3 x3:=⟨Rd.below (h.1) hb hB,Rd.below (h.2) hb hB⟩
theorem RdGame.mono (h:RdGame w B a2 x2 a3 x3) (hB:B≤C):RdGame w C a2 x2 a3 x3:=⟨Rd.mono (h.1) hB,Rd.mono (h.2) hB⟩
theorem RdGame.to (h:RdGame w w.heap.size a2 x2 a3 x3) (hb:Below w.heap.size w w'):RdGame w' w'.heap.size a2 x2 a3 x3:=(h.below hb (Nat.le_refl _)).mono hb.size
theorem OwnGame.rd (h:OwnGame w lo hi a2 c2 x2 a3 c3 x3):RdGame w hi a2 x2 a3 x3:=by
 obtain ⟨m3,hm,o2,o3⟩:=h;exact ⟨o2.rd.mono (by omega),o3.rd.mono (by omega)⟩
theorem OwnGame.keep (h:OwnGame w lo hi a2 c2 x2 a3 c3 x3) (hb:Below w.heap.size w w'):OwnGame w' lo hi a2 c2 x2 a3 c3 x3:=by
 obtain ⟨m3,hm,o2,o3⟩:=h;exact ⟨m3,hm,o2.keep hb,o3.keep hb⟩
theorem OwnGame.touch {lo' hi':Nat} (h:OwnGame w lo hi a2 c2 x2 a3 c3 x3) (ht:Touch w w' lo' hi') (hd:hi≤lo'∨hi'≤lo):OwnGame w' lo hi a2 c2 x2 a3 c3 x3:=by
 obtain ⟨m3,hm,o2,o3⟩:=h;exact ⟨m3,hm,o2.touch ht (by omega),o3.touch ht (by omega)⟩
end
def RdValues (w:World) (B:Nat) (a2:Option Addr) (x2:List Int):Prop:=Rd w B a2 (ae x2)
def GA (w:World) (lo hi:Nat) (a2:Option Addr) (c2:Nat) (x2:List Int):Prop :=
 lo≤hi∧OwnI 2 w lo hi a2 c2 x2
section
variable {w w':World} {B C lo hi:Nat} {a2:Option Addr} {x2:List Int} {c2:Nat}
theorem RdValues.below (h:RdValues w B a2 x2) (hb:Below C w w') (hB:B≤C):RdValues w' B a2 x2:=Rd.below (h) hb hB
theorem RdValues.mono (h:RdValues w B a2 x2) (hB:B≤C):RdValues w C a2 x2:=Rd.mono (h) hB
theorem RdValues.to (h:RdValues w w.heap.size a2 x2) (hb:Below w.heap.size w w'):RdValues w' w'.heap.size a2 x2:=(h.below hb (Nat.le_refl _)).mono hb.size
end
def cZ (R C:Int) (x2 x3:List Int):Bool:=eG R 1 6 && eG C 1 6 && (cU x2 (R * C) (R * C) (-1000) 1000 && cU x3 (R * C) (R * C) (-1000) 1000)
def bM (P T:Int) (x2:List Int):Bool:=eG P 1 6 && eG T 1 8 && cU x2 (P * T) (P * T) 0 1000
theorem sU {a b m n:Int} (a1:1≤a) (am:a≤m) (b1:1≤b) (bn:b≤n):1≤a * b∧a * b≤m * n:=by
 have h1:1 * 1≤a * b:=Int.mul_le_mul a1 b1 (by omega) (by omega)
 have h2:a * b≤m * n:=Int.mul_le_mul am bn (by omega) (by omega)
 omega
theorem sL {xs:List Int} {n lo hi:Int}:cU xs n n lo hi=(gv xs lo hi && decide ((xs.length:Int)=n)):=by
 unfold cU;rw [Bool.and_comm]
 congr 1
 rw [Bool.eq_iff_iff,cx,decide_eq_true_eq];omega
theorem uY (n:Int) (w:World) :
 Calls Tryz.prog 71 #[.int .i64 n] w fun e w'=>e=.returned (.bool (eG n 1 6))∧w=w':=by
 go_enter Tryz.func71,Tryz.ntmps71
 go_wp2_with (go_at_call 74;refine (dm _ _ _ _).mono ?_;rintro e w' ⟨rfl,rfl⟩)
 go_ret;exact ⟨rfl,rfl⟩
theorem tN (w:World) (a:Option Addr) (c:Nat) (xs:List Int) (R C:Int) (p1:1≤R * C) (p2:R * C≤1000) (h:Rd w w.heap.size a (ae xs)) (hl:xs.length≤1048576) :
 Calls Tryz.prog 72 #[.slice a xs.length c,.int .i64 R,.int .i64 C] w fun e w'=>e=.returned (.bool (cU xs (R * C) (R * C) (-1000) 1000))∧w=w':=by
 have e1:IntKind.i64.wrap (R * C)=R * C:=IntWalk.i64_in _ (by omega)
 have L:=Oi (ie w a c xs (R * C) (R * C) (-1000) 1000 h (by omega))
 clear h
 go_enter Tryz.func72,Tryz.ntmps72
 go_wp2_with (go_at_call 75;refine (L.out).mono ?_;rintro e w' ⟨rfl,rfl⟩)
 go_ret;exact ⟨rfl,rfl⟩
theorem ef (w:World) (U R:Int) (a2:Option Addr) (c2:Nat) (x2:List Int) (a3:Option Addr) (c3:Nat) (x3:List Int) (h:RdGame w w.heap.size a2 x2 a3 x3) (hl2:x2.length≤1048576) (hl3:x3.length≤1048576) :
 Calls Tryz.prog 32 #[.agg #[.int .i64 U,.int .i64 R,.slice a2 x2.length c2,.slice a3 x3.length c3]] w fun e w'=>e=.returned (.bool (cZ U R x2 x3))∧Below w.heap.size w w':=by
 have LU:=Oi (fun v=>uY U v)
 have LR:=Oi (fun v=>uY R v)
 cases t1:eG U 1 6 with
 | false =>
   have HF:Hid (cZ U R x2 x3=false):=by simp [Hid,cZ,t1]
   rw [t1] at LU;clear h
   go_enter Tryz.func32,Tryz.ntmps32
   go_wp2_with (go_at_call 71;with_reducible refine (LU.out _).mono ?_;rintro e w' ⟨rfl,rfl⟩)
   go_ret;exact ⟨ar HF.out.symm,ai _ _⟩
 | true =>
   rw [t1] at LU
   cases t2:eG R 1 6 with
   | false =>
     have HF:Hid (cZ U R x2 x3=false):=by simp [Hid,cZ,t1,t2]
     rw [t2] at LR;clear h
     go_enter Tryz.func32,Tryz.ntmps32
     go_wp2_with (first | (go_at_call 71;with_reducible refine (LU.out _).mono ?_;rintro e w' ⟨rfl,rfl⟩) | (go_at_call 71;with_reducible refine (LR.out _).mono ?_;rintro e w' ⟨rfl,rfl⟩))
     go_ret;exact ⟨ar HF.out.symm,ai _ _⟩
   | true =>
     rw [t2] at LR;obtain ⟨u1,u8⟩:=cx.1 t1;obtain ⟨r1,r8⟩:=cx.1 t2;obtain ⟨p1,p2⟩:=sU u1 u8 r1 r8;have hB:=ai w (.cells #[.int .i64 U,.int .i64 R,.slice a2 x2.length c2,.slice a3 x3.length c3] 26);have L2:=Oi (tN _ a2 c2 x2 U R p1 (by omega) (Rd.to h.1 hB) hl2)
     have L3:=Oi (tN _ a3 c3 x3 U R p1 (by omega) (Rd.to h.2 hB) hl3)
     have HF:Hid (cZ U R x2 x3=(cU x2 (U * R) (U * R) (-1000) 1000 && cU x3 (U * R) (U * R) (-1000) 1000)):=by
      show _=_
      simp only [cZ,t1,t2,Bool.true_and]
     clear h hB
     cases t3:cU x2 (U * R) (U * R) (-1000) 1000 with
     | false =>
       rw [t3] at L2;have HF2:Hid (cZ U R x2 x3=false):=by rw [Hid,HF.out,t3];rfl
       clear t3
       go_enter Tryz.func32,Tryz.ntmps32
       go_wp2_with (first | (go_at_call 71;with_reducible refine (LU.out _).mono ?_;rintro e w' ⟨rfl,rfl⟩) | (go_at_call 71;with_reducible refine (LR.out _).mono ?_;rintro e w' ⟨rfl,rfl⟩) | (go_at_call 72;with_reducible refine (L2.out).mono ?_;rintro e w' ⟨rfl,rfl⟩))
       go_ret;exact ⟨ar HF2.out.symm,ai _ _⟩
     | true =>
       rw [t3] at L2;have HF2:Hid (cZ U R x2 x3=cU x3 (U * R) (U * R) (-1000) 1000):=by rw [Hid,HF.out,t3];rfl
       clear t3
       go_enter Tryz.func32,Tryz.ntmps32
       go_wp2_with (first | (go_at_call 71;with_reducible refine (LU.out _).mono ?_;rintro e w' ⟨rfl,rfl⟩) | (go_at_call 71;with_reducible refine (LR.out _).mono ?_;rintro e w' ⟨rfl,rfl⟩) | (go_at_call 72;with_reducible refine (L2.out).mono ?_;rintro e w' ⟨rfl,rfl⟩) | (go_at_call 72;with_reducible refine (L3.out).mono ?_;rintro e w' ⟨rfl,rfl⟩))
       go_ret;exact ⟨ar HF2.out.symm,ai _ _⟩
theorem zF (n:Int) (w:World) :
 Calls Tryz.prog 73 #[.int .i64 n] w fun e w'=>e=.returned (.bool (eG n 1 6))∧w=w':=by
 go_enter Tryz.func73,Tryz.ntmps73
 go_wp2_with (go_at_call 74;refine (dm _ _ _ _).mono ?_;rintro e w' ⟨rfl,rfl⟩)
 go_ret;exact ⟨rfl,rfl⟩
theorem eu (w:World) (U R:Int) (a2:Option Addr) (c2:Nat) (x2:List Int) (h:RdValues w w.heap.size a2 x2) (hl2:x2.length≤1048576) :
 Calls Tryz.prog 33 #[.agg #[.int .i64 U,.int .i64 R,.slice a2 x2.length c2]] w fun e w'=>e=.returned (.bool (bM U R x2))∧Below w.heap.size w w':=by
 have LU:=Oi (fun v=>zF U v)
 have LR:=Oi (fun v=>dm R 1 8 v)
 have B0:=ai w (.cells #[.int .i64 U,.int .i64 R,.slice a2 x2.length c2] 28)
 cases t1:eG U 1 6 with
 | false =>
   have HF:Hid (bM U R x2=false):=by simp [Hid,bM,t1]
   rw [t1] at LU;clear h
   go_enter Tryz.func33,Tryz.ntmps33
   go_wp2_with (go_at_call 73;with_reducible refine (LU.out _).mono ?_;rintro e w' ⟨rfl,rfl⟩)
   go_ret;exact ⟨ar HF.out.symm,ai _ _⟩
 | true =>
   rw [t1] at LU
   cases t2:eG R 1 8 with
   | false =>
     have HF:Hid (bM U R x2=false):=by simp [Hid,bM,t1,t2]
     rw [t2] at LR;clear h
     go_enter Tryz.func33,Tryz.ntmps33
     go_wp2_with (first | (go_at_call 73;with_reducible refine (LU.out _).mono ?_;rintro e w' ⟨rfl,rfl⟩) | (go_at_call 74;with_reducible refine (LR.out _).mono ?_;rintro e w' ⟨rfl,rfl⟩))
     go_ret;exact ⟨ar HF.out.symm,ai _ _⟩
   | true =>
     rw [t2] at LR;obtain ⟨u1,u8⟩:=cx.1 t1;obtain ⟨r1,r8⟩:=cx.1 t2;obtain ⟨p1,p2⟩:=sU u1 u8 r1 r8;have HF:Hid (bM U R x2=cU x2 (U * R) (U * R) 0 1000):=by
      show _=_
      simp only [bM,t1,t2,Bool.true_and]
     have e1:IntKind.i64.wrap (U * R)=U * R:=IntWalk.i64_in _ (by omega)
     have L2:Hid (Calls Tryz.prog 75 #[.slice a2 x2.length c2,.int .i64 (U * R),.int .i64 (U * R),.int .i64 0,.int .i64 1000] (w.alloc (.cells #[.int .i64 U,.int .i64 R,.slice a2 x2.length c2] 28)) _):=ie _ a2 c2 x2 (U * R) (U * R) 0 1000 (Rd.to h B0) (by omega)
     clear h
     go_enter Tryz.func33,Tryz.ntmps33
     go_wp2_with (first | (go_at_call 73;with_reducible refine (LU.out _).mono ?_;rintro e w' ⟨rfl,rfl⟩) | (go_at_call 74;with_reducible refine (LR.out _).mono ?_;rintro e w' ⟨rfl,rfl⟩) | (go_at_call 75;refine (L2.out).mono ?_;rintro e w' ⟨rfl,rfl⟩))
     go_ret;exact ⟨ar HF.out.symm,ai _ _⟩
end Go.Proofs.YtbknhgapjjaelaaGreatDoor
