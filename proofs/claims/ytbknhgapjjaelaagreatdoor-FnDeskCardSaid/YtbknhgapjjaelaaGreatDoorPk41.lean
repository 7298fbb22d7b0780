/-
  Part 41 of what the proof stands on: lemmas and contracts, each with its conditions ahead of the colon.
-/
import Derived.Test.YtbknhgapjjaelaaGreatDoorShelf
import Derived.BigQuiet
import Derived.Deep.AppendLies
import Derived.Deep.RegionHeldLaw
import Derived.Test.YtbknhgapjjaelaaGreatDoorPk01
import Derived.Test.YtbknhgapjjaelaaGreatDoorPk05
import Derived.Test.YtbknhgapjjaelaaGreatDoorPk09
import Derived.Test.YtbknhgapjjaelaaGreatDoorPk13
import Derived.Test.YtbknhgapjjaelaaGreatDoorPk26
import Derived.Test.YtbknhgapjjaelaaGreatDoorPk40
set_option maxRecDepth 10000
set_option maxHeartbeats 4000000
namespace Go.Proofs.YtbknhgapjjaelaaGreatDoor
set_option linter.unusedVariables false
set_option linter.unusedSimpArgs false
open Go.RowKit
def gT (o:DD):List UInt8:=aJ [[o.R,o.C],o.A,o.B]
def vT (o:DD):List UInt8:=aJ [[o.P,o.T],o.V]
def cT (o:DD):List UInt8:=aJ [[o.U,o.N],o.W,o.K]
section
variable {o:DD} {ow ch:List Int}
theorem Mw (h:o.ok=true):(gT o).length≤1700:=by
 have g:=(DD.ok_parts h).1;obtain ⟨R,C,e1,e2,r1,r6,c1,c6,lA,lB,-⟩:=ef g;have hRC:R * C≤6 * 6:=Nat.mul_le_mul r6 c6;have ok:=sn g;have t1:=dj (ok [o.R,o.C] (by simp))
 have t2:=dj (ok o.A (by simp))
 have t3:=dj (ok o.B (by simp))
 have l1:[o.R,o.C].length=2:=rfl;unfold gT;rw [kW];omega
theorem Me (h:o.ok=true):(vT o).length≤1200:=by
 have g:=(DD.ok_parts h).2.1;obtain ⟨P,T,e1,e2,p1,p6,t1,t8,lV,hV⟩:=cq g;have hPT:P * T≤6 * 8:=Nat.mul_le_mul p6 t8;have ok:=oy g;have t1:=dj (ok [o.P,o.T] (by simp))
 have t2:=dj (ok o.V (by simp))
 have l1:[o.P,o.T].length=2:=rfl;unfold vT;rw [vh];omega
theorem Mj (h:o.ok=true):(cT o).length≤1700:=by
 have g:=(DD.ok_parts h).2.2.1;obtain ⟨-,-,-,⟨w1,w2⟩,⟨k1,k2⟩,-⟩:=DD.ok_len h;have ok:=qD g;have t1:=dj (ok [o.U,o.N] (by simp))
 have t2:=dj (ok o.W (by simp))
 have t3:=dj (ok o.K (by simp))
 have l1:[o.U,o.N].length=2:=rfl;unfold cT;rw [kW];omega
end
noncomputable def fd (ls:List (List UInt8)) (d:DD):DD × List (List UInt8):=ls.foldl (fun s l=>((fz l s.1).1,s.2 ++ [(fz l s.1).2])) (d,[])
theorem Jv (ls:List (List UInt8)) (l:List UInt8) (d:DD):fd (ls ++ [l]) d=((fz l (fd ls d).1).1,(fd ls d).2 ++ [(fz l (fd ls d).1).2]):=by
 unfold fd;rw [List.foldl_append];rfl
theorem uu {ls:List (List UInt8)} {k:Nat} {l:List UInt8} (h:ls[k]? = some l) (d:DD):fd (ls.take (k+1)) d=((fz l (fd (ls.take k) d).1).1,(fd (ls.take k) d).2 ++ [(fz l (fd (ls.take k) d).1).2]):=by
 rw [List.take_add_one,h];exact Jv _ _ _
noncomputable def jC (ls:List (List UInt8)):List mZ:=ls.map fun l=>(l,fz l)
theorem DB (ls:List (List UInt8)):(jC ls).map (·.1)=ls:=by
 unfold jC;rw [List.map_map];exact List.map_id' _
theorem kD (ls:List (List UInt8)) (l:List UInt8):bP (ls ++ [l])=bP ls ++ (l ++ [10]):=by simp [bP]
theorem I8 (ls:List (List UInt8)) (d:DD):ff (jC ls) (d,[])=((fd ls d).1,bP (fd ls d).2):=by
 have key:∀ (n:Nat),n≤ls.length→ff (jC (ls.take n)) (d,[])=((fd (ls.take n) d).1,bP (fd (ls.take n) d).2):=by
  intro n
  induction n with
  | zero=>intro _;rfl
  | succ n ih =>
    intro hn;have hl:ls[n]? = some ls[n]:=List.getElem?_eq_getElem (by omega)
    have e:jC (ls.take (n+1))=jC (ls.take n) ++ [(ls[n],fz ls[n])]:=by
     unfold jC;rw [List.take_add_one,hl,List.map_append];rfl
    rw [e,uu hl,kD];unfold ff at ih ⊢;rw [List.foldl_append,ih (by omega)]
    rfl
 have:=key ls.length (Nat.le_refl _);rwa [List.take_length] at this
theorem Au {ls:List (List UInt8)} (hl:∀ l∈ls,iu l) {d:DD} (h:d.ok=true):(fd ls d).1.ok=true∧(fd ls d).2.length=ls.length∧∀ t∈(fd ls d).2,t.length≤2900∧(10:UInt8)∉t:=by
 have key:∀ (n:Nat),n≤ls.length→(fd (ls.take n) d).1.ok=true∧(fd (ls.take n) d).2.length=n∧∀ t∈(fd (ls.take n) d).2,t.length≤2900∧(10:UInt8)∉t:=by
  intro n
  induction n with
  | zero=>intro _;exact ⟨h,rfl,fun t ht=>by cases ht⟩
  | succ n ih =>
    intro hn;have hg:ls[n]? = some ls[n]:=List.getElem?_eq_getElem (by omega)
    obtain ⟨i1,i2,i3⟩:=ih (by omega)
    have hm:=hl ls[n] (List.getElem_mem _);obtain ⟨o1,o2⟩:=Af (l:=ls[n]) (by have:=hm.1;omega) i1
    rw [uu hg];refine ⟨o1,by simp [i2],fun t ht=>?_⟩
    rcases List.mem_append.1 ht with ht | ht
    · exact i3 t ht
    · simp at ht;subst ht;exact ⟨o2,Ge _ _⟩
 have:=key ls.length (Nat.le_refl _);rwa [List.take_length] at this
theorem sc {ls:List (List UInt8)} (hl:∀ l∈ls,iu l) (h5:ls.length≤5):eR (bP ls)=ls∧lg (bP ls)=[]∧(bP ls).length≤16000:=by
 obtain ⟨h1,h2⟩:=tr (fun l hm=>(hl l hm).2)
 refine ⟨h1,h2,?_⟩
 have:=sy (m:=1800) (xs:=ls) (fun l hm=>(hl l hm).1)
 have:1800 * ls.length≤1800 * 5:=Nat.mul_le_mul_left _ h5;rw [xh];omega
theorem tF {ls:List (List UInt8)} (hl:∀ l∈ls,iu l) (h5:ls.length≤5) {d:DD} (h:d.ok=true) :
 jA (bP (fd ls d).2)=some ((fY (fd ls d).2 ls.length:Int),(ls.length:Int) - (fY (fd ls d).2 ls.length:Int))∧(bP (fd ls d).2).length≤16000:=by
 obtain ⟨o1,o2,o3⟩:=Au hl h;obtain ⟨h1,h2⟩:=tr (ls:=(fd ls d).2) (fun l hm=>(o3 l hm).2)
 have hlen:(bP (fd ls d).2).length≤16000:=by
  have:=sy (m:=2900) (xs:=(fd ls d).2) (fun l hm=>(o3 l hm).1)
  have:2900 * (fd ls d).2.length≤2900 * 5:=Nat.mul_le_mul_left _ (by omega)
  rw [xh];omega
 refine ⟨?_,hlen⟩
 rw [uI (by rw [h2];simp;exact hlen),h1,o2]
theorem GU (ts:List (List UInt8)) (t:List UInt8):fY (ts ++ [t]) (ts.length+1)=fY ts ts.length+if fQ t then 1 else 0:=by
 unfold fY;rw [List.take_of_length_le (by simp),List.take_length,List.filter_append,List.length_append]
 cases hb:fQ t <;> simp [List.filter,hb]
theorem Jz {P:Program} {ops:Array Oper} {o:Oper} {a:Act} {wr:World} {K:Act→World→Prop} {Q:Exit→Act→World→Prop} {E:Prop}
 (d:Nat) (hd:o.dst=some d) (hg:o.guard=none) (s x:Operand) (t:TypeId) (hop:o.op=Op.call { callee:=Callee.builtin Builtin.append,args:=#[s,x],argTypes:=#[t,t] })
 (base:Nat) (e:TypeId) (z:Value) (bytes:Nat) (h1:P.underlying t=some (.slice e)) (hinfo:(P.info? e).map (fun i=>(i.zero,i.size,i.bytes))=some (some z,1,bytes)) (hz:z.cells.size=1)
 (v:Value) (n:Nat) (xs:List Value) (hs:a.eval s=v) (hown:wr.ownsRow base e 1 v n xs) (b:Nat) (y:Value) (hy:y.oneCell'=true) (hx:a.eval x=.slice (some ⟨b,0,none⟩) 1 1)
 (hcell:Blk wr b [y] e) (hb:bytes≤64) (hn:n≤1099511627776) (hbase:base≤wr.heap.size)
 (hK:∀ g c w',w'.ownsRow base e 1 (.slice (some ⟨g,0,none⟩) (n+1) c) (n+1) (xs ++ [y])→wr.grownBy w' v.ownBlock→K (a.put (some d) (.slice (some ⟨g,0,none⟩) (n+1) c)) w') :
 if Region.wanted o (yielded ops a.tmps)=true then Oper.wp P o a wr K Q else E:=by
 obtain ⟨i,h2,h3,h4,h5⟩:=info_parts hinfo;have hbb:(n+1) * bytes≤140737488355328:=Nat.le_trans (Nat.mul_le_mul_left (n+1) hb) (by omega)
 refine step_append_lies _ hg s x t hop base e i z 1 bytes h1 h2 h3 h4 h5 hz (by omega) v n xs hs hown ⟨b,0,none⟩ 1 1 [y] hx rfl (World.news_of_block (cs:=#[y]) (t:=e) (fr:=(0,0)) hcell) (by intro u hu;simp at hu;subst hu;exact hy) (by omega) (by unfold maxLen;omega) hbb hbase wr.heap.size rfl (fun g c w' ho hgr _ _=>by rw [hd];exact hK g c w' ho hgr)
theorem GB:(Tryz.prog.info? 2).map (fun i=>(i.zero,i.size,i.bytes))=some (some (.int .i64 0),1,8):=by kernel_rfl
theorem zl (w:World) (B0 b:Nat) (a:Option Addr) (xs:List Int) (c p n:Nat) (h:DS w B0 b a xs c p) (hp:p≤800000) (hn:n≤100) :
 Calls Tryz.prog 121 #[.pointer (some ⟨b,0,none⟩),.int .i64 n] w fun e w'=>∃ (a':Option Addr) (c':Nat) (l:List Int) (p':Nat),e=.returned (.slice a' n c')∧l.length=n∧(∀ x∈l,-6≤x∧x≤6)∧OwnI 2 w' w.heap.size w'.heap.size a' c' l∧p'≤p+n∧DS w' B0 b a xs c p'∧Touch w w' b (b+1):=by
 have D0:=Na h;have hbw:=h.lt;clear h
 go_enter Tryz.func121,Tryz.ntmps121;go_wp2_with fail
 go_loopw [1,5] (fun iv v wr=>∃ (k m:Nat) (a':Option Addr) (c':Nat) (l:List Int) (p':Nat),iv=.int .i64 k∧v=.slice a' m c'∧Hid (m+k=n)∧(k:Int)≤100∧Hid (l.length=m∧∀ x∈l,-6≤x∧x≤6)∧Hid (wr.ownsRow w.heap.size 2 1 (.slice a' m c') m (ae l))∧Hid (p'≤p+m)∧Hid (DS wr B0 b a xs c p')∧Touch w wr b (b+1)) (fun iv _ _=>(intOf iv).toNat)
 case atStart=>exact ⟨n,0,_,_,[],p,rfl,rfl,Nat.zero_add n,by omega,⟨rfl,by simp⟩,bD w _,Nat.le_refl _,D0.out.same (ah w _),Below.touch (ah w _) b (b+1)⟩
 case round =>
  obtain ⟨k,m,a',c',l,p',rfl,rfl,hmk,hk,hL,hO,hpp,hD,hw⟩:=hrel;have k0:(0:Int)≤(k:Int):=Int.natCast_nonneg _;have hws:=hw.size
  by_cases hz:0<k
  · have hzi:(0:Int)<(k:Int):=by omega
    have L:=Na (dp wr B0 b a xs c p' 13 hD.out (by have:=hpp.out;have:=hmk.out;omega) (by omega))
    have HW:=Na hw;clear hD hw;go_wp2_with fail;refine L.out.mono ?_;rintro e w1 ⟨x,q,rfl,⟨x0,x1⟩,hq,D1,T1⟩;have D1:=Na D1;have W1:=Na (HW.out.trans T1);have O1:=Na (aM hO.out (cx T1) hbw);have s1:=T1.size;have hx13:x≤12:=by omega
    have hq2:Hid (q≤p+(m+1)):=by rw [Hid];have:=hpp.out;omega
    have hm2:m≤100:=by have:=hmk.out;omega
    clear T1 L hO HW hq x1
    go_wp2_with (at_builtin;refine aH _ rfl _ _ 24 rfl w.heap.size 2 (.int .i64 0) 8 Tryz.underlying24 GB rfl _ m _ rfl O1.out _ rfl rfl (by omega) (by omega) (by omega) ?_)
    intro v' w' ho hgr;obtain ⟨a2,c2,rfl,_⟩:=bj ho;have hb:=ai (Below.refl w.heap.size w1) O1.out hgr (Nat.le_refl _) (by omega)
    have D2:=Na (D1.out.touch (em hb) hbw);have W2:=Na (jE W1.out hb);have HO2:Hid (w'.ownsRow w.heap.size 2 1 (.slice a2 (m+1) c2) (m+1) (ae (l ++ [x - 6]))):=by rw [bh];exact ho
    have HL2:Hid ((l ++ [x - 6]).length=m+1∧∀ y∈l ++ [x - 6],-6≤y∧y≤6):=by
     refine ⟨by simp [hL.out.1],fun y hy=>?_⟩
     rcases List.mem_append.1 hy with hy | hy
     · exact hL.out.2 y hy
     · simp at hy;omega
    clear ho hgr hb D1 W1 O1 hL;go_wp2_with fail;go_roundw
    case rel=>exact ⟨k - 1,m+1,a2,c2,l ++ [x - 6],q,by go_num,rfl,by have:=hmk.out;rw [Hid];omega,by omega,HL2.out,HO2.out,hq2.out,D2.out,W2.out⟩
    case measure=>first | (simp [intOf];done) | (simp [intOf];omega)
  · have:k=0:=by omega
    subst this;have hmn:m=n:=hmk.out;subst hmn;have hOI:OwnI 2 wr w.heap.size wr.heap.size a' c' l:=by
     refine OwnI.of_own ?_
     rw [hL.out.1];exact hO.out
    have HOI:=Na hOI;clear hO hOI;go_wp2_with fail;go_ret;exact ⟨a',c',l,p',rfl,hL.out.1,hL.out.2,HOI.out,hpp.out,hD.out,hw⟩
end Go.Proofs.YtbknhgapjjaelaaGreatDoor
