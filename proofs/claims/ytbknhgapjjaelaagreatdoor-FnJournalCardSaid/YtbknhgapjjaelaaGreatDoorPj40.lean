/-
  Part 40 of what the proof stands on: lemmas and contracts, each with its conditions ahead of the colon.
-/
import Derived.Test.YtbknhgapjjaelaaGreatDoorShelf
import Derived.Lib.Builder
import Derived.Lib.AppendStr
import Derived.Lib.IndexAny
import Derived.Test.YtbknhgapjjaelaaGreatDoorPj01
import Derived.Test.YtbknhgapjjaelaaGreatDoorPj03
import Derived.Test.YtbknhgapjjaelaaGreatDoorPj06
import Derived.Test.YtbknhgapjjaelaaGreatDoorPj25
import Derived.Test.YtbknhgapjjaelaaGreatDoorPj39
set_option maxRecDepth 100000
set_option maxHeartbeats 8000000
namespace Go.Proofs.YtbknhgapjjaelaaGreatDoor
set_option linter.unusedVariables false
set_option linter.unusedSimpArgs false
open Go.RowKit
section
variable {o:DD} {ow ch:List Int}
end
noncomputable def jK (ls:List (List UInt8)) (d:DD):DD × List (List UInt8):=ls.foldl (fun s l=>((iV l s.1).1,s.2 ++ [(iV l s.1).2])) (d,[])
theorem JV (ls:List (List UInt8)) (l:List UInt8) (d:DD):jK (ls ++ [l]) d=((iV l (jK ls d).1).1,(jK ls d).2 ++ [(iV l (jK ls d).1).2]):=by
 unfold jK;rw [List.foldl_append];rfl
theorem Aw {ls:List (List UInt8)} {k:Nat} {l:List UInt8} (h:ls[k]? = some l) (d:DD):jK (ls.take (k+1)) d=((iV l (jK (ls.take k) d).1).1,(jK (ls.take k) d).2 ++ [(iV l (jK (ls.take k) d).1).2]):=by
 rw [List.take_add_one,h];exact JV _ _ _
noncomputable def gp (ls:List (List UInt8)):List ma:=ls.map fun l=>(l,iV l)
theorem vf (ls:List (List UInt8)):(gp ls).map (·.1)=ls:=by
 unfold gp;rw [List.map_map];exact List.map_id' _
theorem vV (ls:List (List UInt8)) (l:List UInt8):bj (ls ++ [l])=bj ls ++ (l ++ [10]):=by simp [bj]
theorem Av (ls:List (List UInt8)) (d:DD):dO (gp ls) (d,[])=((jK ls d).1,bj (jK ls d).2):=by
 have key:∀ (n:Nat),n≤ls.length→dO (gp (ls.take n)) (d,[])=((jK (ls.take n) d).1,bj (jK (ls.take n) d).2):=by
  intro n
  induction n with
  | zero=>intro _;rfl
  | succ n ih =>
    intro hn;have hl:ls[n]? = some ls[n]:=List.getElem?_eq_getElem (by omega)
    have e:gp (ls.take (n+1))=gp (ls.take n) ++ [(ls[n],iV ls[n])]:=by
     unfold gp;rw [List.take_add_one,hl,List.map_append];rfl
    rw [e,Aw hl,vV];unfold dO at ih ⊢;rw [List.foldl_append,ih (by omega)]
    rfl
 have:=key ls.length (Nat.le_refl _);rwa [List.take_length] at this
theorem Nv {ls:List (List UInt8)} (hl:∀ l∈ls,gN l) {d:DD} (h:d.ok=true):(jK ls d).1.ok=true∧(jK ls d).2.length=ls.length∧∀ t∈(jK ls d).2,t.length≤2900∧(10:UInt8)∉t:=by
 have key:∀ (n:Nat),n≤ls.length→(jK (ls.take n) d).1.ok=true∧(jK (ls.take n) d).2.length=n∧∀ t∈(jK (ls.take n) d).2,t.length≤2900∧(10:UInt8)∉t:=by
  intro n
  induction n with
  | zero=>intro _;exact ⟨h,rfl,fun t ht=>by cases ht⟩
  | succ n ih =>
    intro hn;have hg:ls[n]? = some ls[n]:=List.getElem?_eq_getElem (by omega)
    obtain ⟨i1,i2,i3⟩:=ih (by omega)
    have hm:=hl ls[n] (List.getElem_mem _);obtain ⟨o1,o2⟩:=Kb (l:=ls[n]) (by have:=hm.1;omega) i1
    rw [Aw hg];refine ⟨o1,by simp [i2],fun t ht=>?_⟩
    rcases List.mem_append.1 ht with ht | ht
    · exact i3 t ht
    · simp at ht;subst ht;exact ⟨o2,Hx _ _⟩
 have:=key ls.length (Nat.le_refl _);rwa [List.take_length] at this
theorem rB {ls:List (List UInt8)} (hl:∀ l∈ls,gN l) (h5:ls.length≤5):ce (bj ls)=ls∧mj (bj ls)=[]∧(bj ls).length≤16000:=by
 obtain ⟨h1,h2⟩:=CV (fun l hm=>(hl l hm).2)
 refine ⟨h1,h2,?_⟩
 have:=wQ (m:=1800) (xs:=ls) (fun l hm=>(hl l hm).1)
 have:1800 * ls.length≤1800 * 5:=Nat.mul_le_mul_left _ h5;rw [Jc];omega
theorem Ho:∀ (ls:List (List UInt8)) (c:Int),0≤c→c≤65002→(∀ l∈ls,l.length≤1800)→(bj (im c ls)).length≤ls.length * 1808
 | [],c,_,_,_=>by simp [im,bj]
 | l :: r,c,c0,c1,h=>by
   obtain ⟨d0,d1⟩:=lD l c c0 c1;have i:=Ho r (bP c l) d0 d1 (fun y hy=>h y (by simp [hy]))
   have h5:=us d0 d1;have hl:=h l (by simp)
   rw [im,dS];unfold md;simp only [List.length_append,List.length_cons];omega
theorem rG {ls:List (List UInt8)} (hl:∀ l∈ls,gN l) (h5:ls.length≤5):(bI ls).2.length≤16000:=by
 rw [nM];have:=Ho ls 0 (by omega) (by omega) (fun l h=>(hl l h).1)
 omega
theorem My {ls:List (List UInt8)} (h:1≤ls.length):0<(bI ls).2.length:=by
 have h1:=DU ls;have h2:=AM ls;omega
theorem AR {ls:List (List UInt8)} (hl:∀ l∈ls,gN l) (h5:ls.length≤5):gw ls=some (bI ls).2:=rF (fun l h=>(hl l h).2) (rG hl h5)
theorem Eh {u:List UInt8} (h:u.length≤16000):sg u=((eD u).1,((eD u).2:Int),true)∧(eD u).2≤u.length∧gw (eD u).1=some (u.take (eD u).2):=by
 obtain ⟨h1,h2,h3⟩:=J6 u;refine ⟨by unfold sg;rw [if_pos h],h1,?_⟩
 rw [← h2];refine rF h3 ?_
 rw [h2,List.length_take];omega
theorem MW {ls:List (List UInt8)} (hl:∀ l∈ls,gN l) (h5:ls.length≤5) {n:Nat} (hn:n≤(bI ls).2.length) :
 ∃ m k,m≤ls.length∧k≤n∧sg ((bI ls).2.take n)=(ls.take m,(k:Int),true)∧gw (ls.take m)=some (((bI ls).2.take n).take k)∧(n=(bI ls).2.length→k=n)∧(m<ls.length→∃ q,gw (ls.take (m+1))=some q∧n<q.length):=by
 have hs:=rG hl h5;obtain ⟨r1,r2,r3⟩:=Eh (u:=(bI ls).2.take n) (by rw [List.length_take];omega)
 obtain ⟨m,m1,m2,m3,m4⟩:=AQ (fun l h=>(hl l h).2) n
 rw [m2] at r1 r2 r3;dsimp only at r1 r2 r3;refine ⟨m,_,m1,m3,r1,r3,fun e=>?_,fun hm=>⟨_,AR (fun l h=>hl l (List.mem_of_mem_take h)) (by rw [List.length_take];omega),m4 hm⟩⟩
 have ha:=AP (fun l h=>(hl l h).2)
 rw [e,List.take_length,ha] at m2;have:=congrArg Prod.snd m2;dsimp only at this;omega
theorem MV {ls:List (List UInt8)} (hl:∀ l∈ls,gN l):(eD (bI ls).2).1=ls:=by rw [AP (fun l h=>(hl l h).2)]
theorem L8:(Tryz.prog.info? 85).map (·.size)=some 2:=by kernel_rfl
theorem NU:liesAt Tryz.prog Tryz.prog.depth 85 (2 / Tryz.prog.cellsOf 85) 0 85 1=true:=by kernel_rfl
theorem G9:(Tryz.prog.info? 5).map (fun i=>(i.zero,i.size,i.bytes))=some (some (.int .u8 0),1,1):=by kernel_rfl
theorem Aa (b:Nat) (w:World) (h0:w.cell? ⟨b,0,none⟩=some (.pointer (some ⟨b,0,none⟩))) :
 Calls Tryz.prog 81 #[.pointer (some ⟨b,0,none⟩)] w fun e w'=>e=.returned (.tuple #[])∧w'=w:=by
 obtain ⟨j,hj,_⟩:=Option.map_eq_some_iff.1 L8
 go_enter Tryz.func81,Tryz.ntmps81
 go_wp2
 rw [Lib.run_neq_ptr_same w _ Tryz.underlying83 hj]
 go_wp2
 go_end0
 exact ⟨rfl,rfl⟩
theorem xx (b:Nat) (w:World) (h0:w.cell? ⟨b,0,none⟩=some (.pointer none)) (hsh:w.shape? b=some (85,2)) (hfz:w.frozen? ⟨b,0,none⟩=false) :
 Calls Tryz.prog 81 #[.pointer (some ⟨b,0,none⟩)] w fun e w'=>e=.returned (.tuple #[])∧w'=w.setCell ⟨b,0,none⟩ (.pointer (some ⟨b,0,none⟩)):=by
 obtain ⟨j,hj,hjs⟩:=Option.map_eq_some_iff.1 L8
 go_enter Tryz.func81,Tryz.ntmps81
 go_wp2
 rw [Lib.run_to_unsafe w ⟨b,0,none⟩ Tryz.underlying83 Tryz.underlying165 hj (by rw [hjs];decide) hsh (Nat.zero_lt_succ 1)]
 simp only [Result.andThen];rw [Oper.upon_value]
 go_wp2
 rw [run_callFunc_extern Tryz.func107 (by kernel_rfl) (by kernel_rfl) (by kernel_rfl) (e:=Extern.AbiNoEscape.same) (by kernel_rfl)]
 rw [Lib.run_noEscape];simp only [Result.andThen];rw [Oper.upon_value]
 go_wp2
 rw [Lib.run_from_unsafe w ⟨b,0,none⟩ Tryz.underlying165 Tryz.underlying83 hj hsh NU];simp only [Result.andThen];rw [Oper.upon_value]
 go_wp2
 go_end0
 exact ⟨rfl,rfl⟩
theorem yR (B b:Nat) (bs:List Value) (w:World) (h:Lib.IsBuilder 85 5 B b bs w) :
 Calls Tryz.prog 81 #[.pointer (some ⟨b,0,none⟩)] w fun e w'=>e=.returned (.tuple #[])∧(Lib.BuilderAt 85 5 B b (.pointer (some ⟨b,0,none⟩)) bs w'∧Below B w w'):=by
 rcases h with h | h
 · refine (xx b w h.cell0 h.shape h.frozen0).mono ?_
   rintro e w' ⟨rfl,rfl⟩;exact ⟨rfl,h.used _,(Below.refl B w).setCell (p:=⟨b,0,none⟩) h.1 _⟩
 · refine (Aa b w h.cell0).mono ?_
   rintro e w' ⟨rfl,rfl⟩;exact ⟨rfl,h,Below.refl B _⟩
theorem wt (B b:Nat) (bs:List Value) (s:ByteArray) (w:World) (h:Lib.IsBuilder 85 5 B b bs w) (hlen:bs.length+s.size≤140737488355328) (hBw:B≤w.heap.size) :
 Calls Tryz.prog 42 #[.pointer (some ⟨b,0,none⟩),.string s] w fun e w'=>e=.returned (.tuple #[.int .i64 s.size,.nilIface])∧(Lib.BuilderAt 85 5 B b (.pointer (some ⟨b,0,none⟩)) (bs ++ Lib.strCells s) w'∧Below B w w'):=by
 obtain ⟨i0,hi,hz0,hz1,hz2⟩:=info_parts G9;have LC:=Oi (yR B b bs w h);clear h
 go_enter Tryz.func42,Tryz.ntmps42;go_wp2_with fail;refine LC.out.mono ?_;rintro e w1 ⟨rfl,h1,hb1⟩;obtain ⟨hB,v,hbk,hown,hne⟩:=h1;have c0:w1.cell? ⟨b,0,none⟩=some (.pointer (some ⟨b,0,none⟩)):=by rw [Lib.cell_of_heap hbk];rfl
 have c1:w1.cell? ⟨b,1,none⟩=some v:=by rw [Lib.cell_of_heap hbk];rfl
 go_wp2_with (at_builtin;refine Lib.wpList_append_own_string _ rfl _ _ 22 9 rfl B 5 i0 Tryz.underlying22 Tryz.underlying9 hi hz0 hz1 hz2 _ _ _ rfl hown s rfl ?c3 ?c4 ?c5 ?_)
 case c3=>unfold maxLen;omega
 case c4=>omega
 case c5=>have:=hb1.size;omega
 intro v' w2 hown' hgrow _;have hlt:b<w1.heap.size:=by
  rcases Nat.lt_or_ge b w1.heap.size with h' | h'
  · exact h'
  · simp [Array.getElem?_eq_none h'] at hbk
 have hb2:w2.heap[b]? = some (.cells #[.pointer (some ⟨b,0,none⟩),v] 85 (0,0)):=by
  rw [hgrow.block b hlt (fun e=>hne e.symm)]
  exact hbk
 have d0:w2.cell? ⟨b,0,none⟩=some (.pointer (some ⟨b,0,none⟩)):=by rw [Lib.cell_of_heap hb2];rfl
 have d1:w2.cell? ⟨b,1,none⟩=some v:=by rw [Lib.cell_of_heap hb2];rfl
 have f1:w2.frozen? ⟨b,1,none⟩=false:=Lib.frozen_of_heap hb2 1;obtain ⟨ao,n',cap,rfl⟩:∃ ao n' cap,v'=.slice ao n' cap:=by
  rcases hown'.2 with ⟨hv,_⟩ | ⟨g,cap,cur,hv,_⟩
  · exact ⟨_,_,_,hv⟩
  · exact ⟨_,_,_,hv⟩
 go_wp2
 go_ret2
 refine ⟨rfl,?_,?_⟩
 · exact Lib.BuilderAt.put (T:=85) (e:=5) hB hb2 (bs':=bs ++ Lib.strCells s) (by simpa [Lib.strCells_length] using hown') (by decide)
 · exact (hb1.grown hgrow (by have:=hb1.size;omega) (fun k hk=>(hown.lt k hk).1)).setCell (p:=⟨b,1,none⟩) hB _
theorem Nm {T e:TypeId} {B b:Nat} {bs:List Value} {w w':World} (h:Lib.IsBuilder T e B b bs w) (hb:Below w.heap.size w w'):Lib.IsBuilder T e B b bs w':=by
 have go:∀ p,Lib.BuilderAt T e B b p bs w→Lib.BuilderAt T e B b p bs w':=fun p h=>by
  have hl:=h.lt;obtain ⟨hB,v,hbk,hown,hne⟩:=h;exact ⟨hB,v,by rw [hb.block b hl];exact hbk,aD hown hb,hne⟩
 exact h.elim (fun x=>.inl (go _ x)) (fun x=>.inr (go _ x))
theorem za (w:World) (hT:Tab w) (a:Option Addr) (c:Nat) (xs:List (List UInt8)) (h:Rd w w.heap.size a (bF xs)) (hl:xs.length≤1048576) (hin:∀ y∈xs,y.length≤1048576) :
 Calls Tryz.prog 21 #[.slice a xs.length c] w fun e w'=>e=.returned (.tuple #[.string (bs ((gw xs).getD [])),.bool (gw xs).isSome])∧Below w.heap.size w w':=by
 have HX:=Oi h;have HT:=Oi hT;have HChk:Hid (∀ k,0≤(bI (xs.take k)).1∧(bI (xs.take k)).1≤65002):=fun k=>Mx (xs.take k)
 have HS:Hid (∀ k l,xs[k]? = some l→bI (xs.take (k+1))=gx (bI (xs.take k)) l∧l.length≤1048576∧l∈xs):=fun k l hk=>⟨J8 hk,hin l (List.mem_of_getElem? hk),List.mem_of_getElem? hk⟩
 have HNo:Hid (∀ l,l∈xs→(10:UInt8)∈l→gw xs=none):=fun l h1 h2=>Fd h1 h2
 have HLong:Hid (∀ k,16000<(bI (xs.take k)).2.length→gw xs=none):=fun k h=>CP h
 have HYes:Hid ((∀ l∈xs,(10:UInt8)∉l)→(bI xs).2.length≤16000→gw xs=some (bI xs).2):=fun h1 h2=>rF h1 h2
 have HB0:=Oi (Lib.fresh_isBuilder 85 5 w);have hb0:=ai w (.cells #[.pointer none,.slice none 0 0] 85);clear h hT hin
 go_enter Tryz.func21,Tryz.ntmps21;go_wp2_with fail
 go_loopw [11,5] (fun iv nv wr=>∃ k:Nat,k≤xs.length∧iv=.int .i64 k∧nv=.int .i64 (bI (xs.take k)).1∧(bI (xs.take k)).2.length≤16000∧Hid (∀ l∈xs.take k,(10:UInt8)∉l)∧Hid (Lib.IsBuilder 85 5 w.heap.size w.heap.size (Lib.byteCells (bI (xs.take k)).2) wr)∧Hid (Below w.heap.size w wr)) (fun iv _ _=>xs.length - (intOf iv).toNat)
 case atStart=>exact ⟨0,Nat.zero_le _,rfl,rfl,Nat.zero_le _,fun l h=>by simp at h,HB0.out,hb0⟩
 case round =>
  clear HB0 hb0;obtain ⟨k,hk,rfl,rfl,htl,hno,hbd,hw⟩:=hrel;have k0:(0:Int)≤(k:Int):=Int.natCast_nonneg _
  by_cases hlt:k<xs.length
  · have k1:(k:Int)<(xs.length:Int):=by omega
    obtain ⟨b,o,l,ha,hb,hc,hl2⟩:=jn (HX.out.to hw.out) hlt;subst ha;obtain ⟨n0,n1⟩:=HChk.out k;obtain ⟨hst,hll,hmem⟩:=HS.out k l hl2.out;have LCt:=Tryz.strings_Contains_one (bs l) 10 wr;rw [← Lib.contains_iff_indexByte,show (bs l).data.toList=l from rfl] at LCt
    by_cases h10:(10:UInt8)∈l
    · have HN:=Oi (HNo.out l hmem h10)
      rw [List.contains_iff_mem.2 h10] at LCt;have LCt:=Oi LCt;clear hst hl2 htl hno hbd;go_wp2_with fail;refine LCt.out.mono ?_;rintro e w' ⟨rfl,rfl⟩;go_wp2_with fail
      go_ret2
      rw [HN.out];exact ⟨rfl,hw.out⟩
    · have hcf:l.contains 10=false:=by
        rw [← Bool.not_eq_true,List.contains_iff_mem];exact h10
      rw [hcf] at LCt;have LCt:=Oi LCt;have LC:=Oi (tF (bI (xs.take k)).1 n0 n1 (bs l) (by rw [aE];omega) wr)
      obtain ⟨c0,c1⟩:=lD l _ n0 n1;have LD:=Oi (iO wr (HT.out.to hw.out) (bP (bI (xs.take k)).1 l) (by omega) (by omega))
      have hd5:=us c0 c1;have HC:Hid ((bI (xs.take (k+1))).1=bP (bI (xs.take k)).1 l):=by rw [Hid,hst];rfl
      have HQ:Hid ((bI (xs.take (k+1))).2=(bI (xs.take k)).2 ++ (Lib.itoa (bP (bI (xs.take k)).1 l) ++ 32 :: (l ++ [10]))):=by rw [Hid,hst];rfl
      have HQ2:Hid (bs (Lib.itoa (bP (bI (xs.take k)).1 l)) ++ ⟨#[32]⟩ ++ bs l ++ ⟨#[10]⟩=bs (Lib.itoa (bP (bI (xs.take k)).1 l) ++ 32 :: (l ++ [10]))):=by
       have e:Lib.itoa (bP (bI (xs.take k)).1 l) ++ 32 :: (l ++ [10])=Lib.itoa (bP (bI (xs.take k)).1 l) ++ [32] ++ l ++ [10]:=by simp
       rw [Hid,e,← Lw,← Lw,← Lw];rfl
      have HN2:Hid (∀ x∈xs.take (k+1),(10:UInt8)∉x):=fun x hx=>by
       rw [List.take_add_one,hl2.out] at hx
       rcases List.mem_append.1 hx with hx | hx
       · exact hno.out x hx
       · simp at hx;subst hx;exact h10
      have HLg:=Oi (HLong.out (k+1));rw [show (bs l).data.toList=l from rfl] at LC
      have zL:(bs l).size≤1048576:=by rw [aE];exact hll
      have zD:(bs (Lib.itoa (bP (bI (xs.take k)).1 l))).size≤5:=by rw [aE];omega
      have zW:(bs (Lib.itoa (bP (bI (xs.take k)).1 l) ++ 32 :: (l ++ [10]))).size≤1048600:=by rw [aE];simp;omega
      obtain ⟨W,hWd⟩:∃ W,W=Lib.itoa (bP (bI (xs.take k)).1 l) ++ 32 :: (l ++ [10]):=⟨_,rfl⟩;rw [← hWd] at HQ HQ2 zW;have hlen:(Lib.byteCells (bI (xs.take k)).2).length+(bs W).size≤140737488355328:=by rw [Lib.byteCells_length];omega
      have hws:=hw.out.size;have LW:=Oi (fun (v:World) (hb:Below wr.heap.size wr v)=>wt w.heap.size w.heap.size (Lib.byteCells (bI (xs.take k)).2) (bs W) v (Nm hbd.out hb) hlen (by have:=hb.size;omega))
      rw [Lib.strCells_eq,show (bs W).data.toList=W from rfl,← Lib.byteCells_append,← HQ.out] at LW
      generalize bs (Lib.itoa (bP (bI (xs.take k)).1 l))=D at *
      generalize bP (bI (xs.take k)).1 l=cn at *
      generalize (bI (xs.take k)).1=n at *
      generalize bs l=T at *
      have s0:¬ 9223372036854775807<D.size+1:=by omega
      have s1:¬ 9223372036854775807<D.size+1+T.size:=by omega
      have s2:¬ 9223372036854775807<D.size+1+T.size+1:=by omega
      clear hst hl2 hd5 htl hll hno hbd hWd HQ hlen hmem hcf;go_wp2_with fail;refine LCt.out.mono ?_;rintro e w' ⟨rfl,rfl⟩;go_wp2_with fail;refine LC.out.mono ?_;rintro e w' ⟨rfl,rfl⟩;go_wp2_with fail;refine LD.out.mono ?_;rintro e w5 ⟨rfl,hb5⟩;have LW5:=Oi (LW.out w5 hb5);have hw5:=Oi (aa hw.out hb5);clear LW hb5 LD LC LCt;go_wp2_with fail;rw [HQ2.out];refine LW5.out.mono ?_;rintro e w6 ⟨rfl,hbd6,hb6⟩;have hw6:Hid (Below w.heap.size w w6):=hw5.out.trans hb6;have HBd:=Oi (Or.inr hbd6:Lib.IsBuilder 85 5 w.heap.size w.heap.size (Lib.byteCells (bI (xs.take (k+1))).2) w6);have LL:=Oi (Tryz.Builder_Len w.heap.size w.heap.size _ w6 HBd.out);rw [Lib.byteCells_length] at LL;clear hbd6 hb6 LW5
      by_cases hlong:16000<(bI (xs.take (k+1))).2.length
      · have HN:=Oi (HLg.out hlong)
        have hli:(16000:Int)<((bI (xs.take (k+1))).2.length:Int):=by omega
        go_wp2_with fail;refine LL.out.mono ?_;rintro e w' ⟨rfl,rfl⟩;go_wp2_with fail
        go_ret2
        rw [HN.out];exact ⟨rfl,hw6.out⟩
      · have hli:¬ (16000:Int)<((bI (xs.take (k+1))).2.length:Int):=by omega
        go_wp2_with fail;refine LL.out.mono ?_;rintro e w' ⟨rfl,rfl⟩;go_wp2_with fail;go_roundw
        case rel=>exact ⟨k+1,by omega,by go_num,by rw [HC.out],by omega,HN2,HBd,hw6⟩
        case measure=>simp [intOf];omega
  · obtain rfl:k=xs.length:=by omega
    have HE:Hid (xs.take xs.length=xs):=List.take_length;rw [HE.out] at htl hno hbd;have HF:=Oi (HYes.out hno.out htl);have LS:=Oi (Tryz.Builder_String_any w.heap.size w.heap.size _ wr hbd.out hw.out.size);clear hno hbd htl;go_wp2_with fail;refine LS.out.mono ?_;rintro e w5 ⟨rfl,hb5⟩;go_wp2_with fail
    go_ret2
    rw [HF.out];exact ⟨rfl,hw.out.trans hb5⟩
end Go.Proofs.YtbknhgapjjaelaaGreatDoor
