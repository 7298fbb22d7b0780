/-
  Part 4 of what the proof stands on: lemmas and contracts, each with its conditions ahead of the colon.
-/
import Derived.Lib.Join
import Derived.Test.YtbknhgapjjaelaaGreatDoorPj01
import Derived.Test.YtbknhgapjjaelaaGreatDoorPj02
import Derived.Test.YtbknhgapjjaelaaGreatDoorPj03
set_option maxRecDepth 200000
set_option maxHeartbeats 8000000
namespace Go.Proofs.YtbknhgapjjaelaaGreatDoor
set_option linter.unusedVariables false
set_option linter.unusedSimpArgs false
open Go.RowKit
structure OwnRows (T T2:Nat) (w:World) (lo hi:Nat) (u:Value) (vs:List Value) (yss:List (List Int)):Prop where
 out:w.ownsRow lo T2 1 u yss.length vs
 lt:∀ g,u.ownBlock=some g→g<hi
 row:∀ (j:Nat) (ys:List Int),yss[j]? = some ys→∃ g c,vs[j]? = some (.slice (some ⟨g,0,none⟩) ys.length c)∧OwnI T w lo hi (some ⟨g,0,none⟩) c ys
 top:∀ (j:Nat) (v:Value),vs[j]? = some v→Apart u v
 dis:∀ (i j:Nat) (v v':Value),i≠j→vs[i]? = some v→vs[j]? = some v'→Apart v v'
section
variable {T T2 lo hi c:Nat} {w w':World} {a:Option Addr} {yss:List (List Int)}
theorem OwnRows.len {u:Value} {vs:List Value} (h:OwnRows T T2 w lo hi u vs yss):vs.length=yss.length:=by
 have:=h.out.1;omega
end
theorem OwnI.apart {T lo hi c:Nat} {w w':World} {a:Option Addr} {xs:List Int} {u:Value} (h:OwnI T w lo hi a c xs) (hg:w.grownBy w' u.ownBlock) (ha:Apart u (.slice a xs.length c)):OwnI T w' lo hi a c xs :=
 ⟨rV h.1 hg ha,h.2⟩
theorem OwnRows.start {T T2:Nat} {w:World} {lo:Nat} {u:Value} (h:w.ownsRow lo T2 1 u 0 []):OwnRows T T2 w lo w.heap.size u [] [] :=
 ⟨h,(fun g hg=>(h.lt g hg).2),(fun j ys hj=>by simp at hj),(fun j v hj=>by simp at hj),(fun i j v v' _ hi _=>by simp at hi)⟩
theorem OwnRows.keep {T T2:Nat} {w w':World} {lo hi:Nat} {u:Value} {vs:List Value} {yss:List (List Int)} (h:OwnRows T T2 w lo hi u vs yss) (hb:Below w.heap.size w w'):OwnRows T T2 w' lo hi u vs yss :=
 ⟨aD h.out hb,h.lt,fun j ys hj=>let ⟨a',c',h1,h2⟩:=h.row j ys hj;⟨a',c',h1,h2.keep hb⟩,h.top,h.dis⟩
theorem OwnRows.snoc {T T2:Nat} {w0 w w':World} {lo hi r0 g c:Nat} {u u':Value} {vs:List Value} {yss:List (List Int)} {ys:List Int}
 (h:OwnRows T T2 w0 lo hi u vs yss) (hb:Below w0.heap.size w0 w) (hlo:lo≤r0) (hhi:hi≤r0) (hr:OwnI T w r0 w.heap.size (some ⟨g,0,none⟩) c ys) (hy0:w0.heap.size≤r0)
 (ho:w'.ownsRow lo T2 1 u' (yss.length+1) (vs ++ [.slice (some ⟨g,0,none⟩) ys.length c])) (hg:w.grownBy w' u.ownBlock) (hn:∀ g,g<w.heap.size→some g≠u.ownBlock→some g≠u'.ownBlock) :
 OwnRows T T2 w' lo w'.heap.size u' (vs ++ [.slice (some ⟨g,0,none⟩) ys.length c]) (yss ++ [ys]):=by
 have hl:=h.len;have hk:=h.keep hb;have hrg:r0≤g:=(hr.1.lt g rfl).1;have hgw:g<w.heap.size:=(hr.1.lt g rfl).2;have hap:Apart u (.slice (some ⟨g,0,none⟩) ys.length c):=fun q hq e=>by
  have:=h.lt q hq;simp [Value.ownBlock] at e
  omega
 have at':∀ (j:Nat) (v:Value),(vs ++ [.slice (some ⟨g,0,none⟩) ys.length c])[j]? = some v→(j<yss.length∧vs[j]? = some v)∨(j=yss.length∧v=.slice (some ⟨g,0,none⟩) ys.length c):=by
  intro j v hj
  by_cases hlt:j<vs.length
  · rw [List.getElem?_append_left hlt] at hj
    exact .inl ⟨by omega,hj⟩
  · rw [List.getElem?_append_right (by omega)] at hj
    have:j - vs.length=0:=by
     have:=(List.getElem?_eq_some_iff.1 hj).1;simp at this
     omega
    rw [this] at hj;simp at hj
    exact .inr ⟨by omega,hj.symm⟩
 have hrow:∀ (j:Nat) (v:Value),vs[j]? = some v→∃ g' c' ys',v=.slice (some ⟨g',0,none⟩) ys'.length c'∧OwnI T w lo hi (some ⟨g',0,none⟩) c' ys':=by
  intro j v hj;have hlt:j<yss.length:=by have:=(List.getElem?_eq_some_iff.1 hj).1;omega
  obtain ⟨g',c',h1,h2⟩:=hk.row j yss[j] (List.getElem?_eq_getElem hlt);rw [hj] at h1;injection h1 with h1
  exact ⟨g',c',_,h1,h2⟩
 refine ⟨by rw [List.length_append,List.length_singleton];exact ho,fun q hq=>(ho.lt q hq).2,fun j zs hj=>?_,fun j v hj=>?_,fun i j v v' hij hi hj=>?_⟩
 · by_cases hlt:j<yss.length
   · rw [List.getElem?_append_left hlt] at hj
     obtain ⟨g',c',h1,h2⟩:=hk.row j zs hj;refine ⟨g',c',by rw [List.getElem?_append_left (by omega)];exact h1,?_⟩
     exact (h2.apart hg (h.top j _ h1)).mono (Nat.le_refl _) (by have:=hb.size;have:=hg.size;omega)
   · rw [List.getElem?_append_right (by omega)] at hj
     have:j - yss.length=0:=by
      have:=(List.getElem?_eq_some_iff.1 hj).1;simp at this
      omega
     rw [this] at hj;simp at hj
     subst hj;refine ⟨g,c,by rw [List.getElem?_append_right (by omega),show j - vs.length=0 by omega];rfl,?_⟩
     exact (hr.apart hg hap).mono hlo hg.size
 · rcases at' j v hj with ⟨_,h1⟩ | ⟨_,rfl⟩
   · obtain ⟨g',c',ys',e,h2⟩:=hrow j v h1
     have ha:=h.top j v h1;subst e;exact uL h2.1 ha hn
   · exact uL hr.1 hap hn
 · rcases at' i v hi with ⟨i1,h1⟩ | ⟨i1,rfl⟩ <;> rcases at' j v' hj with ⟨j1,h2⟩ | ⟨j1,rfl⟩
   · exact h.dis i j v v' hij h1 h2
   · obtain ⟨g',c',ys',e,h3⟩:=hrow i v h1
     subst e;intro q hq e;have:=h3.2 _ rfl;simp [Value.ownBlock] at hq e
     simp at this
     omega
   · obtain ⟨g',c',ys',e,h3⟩:=hrow j v' h2
     subst e;intro q hq e;have:=h3.2 _ rfl;simp [Value.ownBlock] at hq e
     simp at this
     omega
   · omega
def OrdV (vs:List Value):Prop:=∀ (i j:Nat) (v v':Value) (p q:Nat),i<j→vs[i]? = some v→vs[j]? = some v'→v.ownBlock=some p→v'.ownBlock=some q→p<q
theorem OrdV.nil:OrdV []:=fun i j v v' p q _ h=>by simp at h
theorem OrdV.snoc {vs:List Value} {B g n c:Nat} (h:OrdV vs) (hlt:∀ (i:Nat) (v:Value) (p:Nat),vs[i]? = some v→v.ownBlock=some p→p<B) (hg:B≤g):OrdV (vs ++ [.slice (some ⟨g,0,none⟩) n c]):=by
 intro i j v v' p q hij hi hj hp hq;have hjl:j<vs.length+1:=by have:=(List.getElem?_eq_some_iff.1 hj).1;simpa using this
 have hi2:vs[i]? = some v:=by rwa [List.getElem?_append_left (by omega)] at hi
 by_cases hl:j<vs.length
 · rw [List.getElem?_append_left hl] at hj
   exact h i j v v' p q hij hi2 hj hp hq
 · obtain rfl:j=vs.length:=by omega
   rw [List.getElem?_append_right (Nat.le_refl _),Nat.sub_self] at hj;simp at hj
   subst hj;have hq2:some g=some q:=hq;injection hq2 with hq2
   have:=hlt i v p hi2 hp;omega
theorem OwnRows.blk_lt {T T2:Nat} {w:World} {lo hi:Nat} {u:Value} {vs:List Value} {yss:List (List Int)} (h:OwnRows T T2 w lo hi u vs yss) (i:Nat) (v:Value) (p:Nat) (hi':vs[i]? = some v) (hp:v.ownBlock=some p):p<hi:=by
 have hlt:i<yss.length:=by have:=(List.getElem?_eq_some_iff.1 hi').1;rw [h.len] at this;exact this
 obtain ⟨g,c,h1,h2⟩:=h.row i yss[i] (List.getElem?_eq_getElem hlt);rw [hi'] at h1;injection h1 with h1
 subst h1;have hp2:some g=some p:=hp;injection hp2 with hp2
 subst hp2;exact h2.2 _ rfl
def nZ (T T2:Nat) (w:World) (cnt:Nat) (l:List UInt8) (e:Ending) (w':World):Prop:=Below w.heap.size w w'∧∃ v,e=.returned (.tuple #[v,.bool (eT cnt l).isSome])∧∀ yss,eT cnt l=some yss→∃ g c vs,v=.slice (some ⟨g,0,none⟩) yss.length c∧OwnRows T T2 w' w.heap.size w'.heap.size (.slice (some ⟨g,0,none⟩) yss.length c) vs yss∧OrdV vs
theorem Fc:(Tryz.prog.info? 24).map (fun i=>(i.zero,i.size,i.bytes))=some (some (.slice none 0 0),1,24):=by kernel_rfl
theorem mU (w:World) (hT:Tab w) (hS:Shp w) (hE:Errs w) (s:ByteArray) (cnt:Nat) (hcn:cnt≤1048576) (hs:s.size≤1048576) :
 Calls Tryz.prog 45 #[.string s,.int .i64 cnt] w (nZ 2 24 w cnt s.data.toList):=by
 have hln:(cH 59 s.data.toList).length≤1048577:=by have:=uj 59 s.data.toList;have:=Lib.size_eq s;omega
 have hln1:=Ad 59 s.data.toList;have HM:Hid (∀ x∈cH 59 s.data.toList,x.length≤1048576):=fun x hx=>by have:=ji hx;have:=Lib.size_eq s;omega
 have LP:=Oi (fun v (hv:Below w.heap.size w v)=>pr v (hS.to hv) s hs 59 ⟨#[59]⟩ rfl)
 have LR:=Oi (fun v (hv:Below w.heap.size w v) (x:ByteArray) hx=>gW v (hT.to hv) (hS.to hv) (hE.to hv) x hx)
 have HTl:=Oi (Till.start dD (cH 59 s.data.toList));have HNo:=Oi (fun h=>tU (cnt:=cnt) (l:=s.data.toList) h)
 have HSo:=Oi (fun yss h=>tV (cnt:=cnt) (l:=s.data.toList) (yss:=yss) h)
 unfold nZ;generalize eT cnt s.data.toList=LF at *
 generalize cH 59 s.data.toList=ps at *
 clear hT hS hE hs;have hO0:=Oi (bz w 24);have cn0:(0:Int)≤(cnt:Int):=Int.natCast_nonneg _
 go_enter Tryz.func45,Tryz.ntmps45;go_wp2_with fail;refine (LP.out _ (ai _ _)).mono ?_;rintro e w1 ⟨rfl,hblk,hb1⟩;have hlt0:(w.alloc (.cells #[] 24)).heap.size=w.heap.size+1:=by simp
 rw [hlt0] at hblk;have HX:=Oi (hblk.rd hblk.lt);have hl1:=hblk.lt;have HB1:=Oi (aa (ai _ _) hb1);have h00:Hid (OwnRows 2 24 w1 w.heap.size w1.heap.size (.slice (some ⟨w.heap.size,0,none⟩) 0 0) [] []):=OwnRows.start (aD hO0.out hb1);have HA0:Hid (Apt (some ⟨w.heap.size+1,0,none⟩) (.slice (some ⟨w.heap.size,0,none⟩) 0 0)):=fun b e h=>by
  injection e with e
  subst e;have h2:some (w.heap.size+1)=some w.heap.size:=h;injection h2 with h2
  omega
 rw [hlt0];clear hblk hb1 hO0 LP;generalize hgb:w.heap.size+1=gb at *
 clear hlt0;go_wp2_with fail
 go_loopw [6,15] (fun u iv wr=>∃ (k:Nat) (d:List (List Int)) (vs:List Value) (g c:Nat),k≤ps.length∧d.length=k∧iv=.int .i64 k∧u=.slice (some ⟨g,0,none⟩) k c∧Hid (Till dD ps k d)∧Hid (OwnRows 2 24 wr w.heap.size wr.heap.size (.slice (some ⟨g,0,none⟩) k c) vs d)∧Hid (OrdV vs)∧Hid (Below w.heap.size w wr)∧Hid (Rd wr w1.heap.size (some ⟨gb,0,none⟩) (bF ps))∧Hid (w1.heap.size≤wr.heap.size)∧Hid (Apt (some ⟨gb,0,none⟩) (.slice (some ⟨g,0,none⟩) k c))) (fun _ iv _=>ps.length - (intOf iv).toNat)
 case atStart=>exact ⟨0,[],[],w.heap.size,0,Nat.zero_le _,rfl,rfl,rfl,HTl.out,h00.out,OrdV.nil,HB1.out,HX.out,Nat.le_refl _,HA0.out⟩
 case round =>
  obtain ⟨k,d,vs,g,cp,hk,hdk,rfl,rfl,hTl,hO,hOrd,hw,hR,hS1,hA⟩:=hrel;have HDK:=Oi hdk;clear hdk;have k0:(0:Int)≤(k:Int):=Int.natCast_nonneg _
  by_cases hlt:k<ps.length
  · have k1:(k:Int)<(ps.length:Int):=by omega
    obtain ⟨b,o,l,ha,hb,hc,hl⟩:=jn hR.out hlt;injection ha with ha
    injection ha with ha1 ha2
    subst ha1 ha2;rw [Nat.zero_add] at hc;have hlm:=HM.out l (List.mem_of_getElem? hl.out);have LD1:=Oi (LR.out wr hw.out (bs l) (by rw [aE];exact hlm))
    rw [show (bs l).data.toList=l from rfl] at LD1
    cases hv:dD l with
    | none =>
      have HF:=Oi (HNo.out (hTl.out.stop hl.out hv));rw [hv] at LD1;clear hTl hl hv;go_wp2_with fail;refine LD1.out.mono ?_;rintro e w2 ⟨hb2,rfl⟩;go_wp2_with fail
      go_ret2
      rw [HF.out];exact ⟨aa hw.out hb2,_,rfl,fun yss h=>by cases h⟩
    | some ns =>
      have HT2:=Oi (hTl.out.step hl.out hv);rw [hv] at LD1;clear hTl hl hv;go_wp2_with fail;refine LD1.out.mono ?_;rintro e w2 ⟨hb2,q3,c3,rfl,o3⟩;have HRow:Hid (OwnI 2 w2 wr.heap.size w2.heap.size (some ⟨q3,0,none⟩) c3 ns):=OwnI.of_own o3;have HQ3:=Oi ((o3.lt q3 rfl).1);have hOo:=hO.out.out;rw [HDK.out] at hOo;have HOo:=Oi (aD hOo hb2);have hw2:=aa hw.out hb2;have hws2:=hw2.size;have HR2:=Oi (hR.out.below (hb2.mono hS1.out) (Nat.le_refl _));have HS2:=Oi (Nat.le_trans hS1.out hb2.size);have Hb2:=Oi hb2;have HOrd2:=Oi (hOrd.out.snoc (g:=q3) (n:=ns.length) (c:=c3) (fun i v p h1 h2=>hO.out.blk_lt i v p h1 h2) HQ3.out)
      clear hb2 hR LD1 hOo o3 hOrd
      go_wp2_with (at_builtin;refine aQ _ rfl _ _ 92 rfl w.heap.size 24 (.slice none 0 0) 24 Tryz.underlying92 Fc rfl _ k vs rfl HOo.out (.slice (some ⟨q3,0,none⟩) ns.length c3) rfl rfl (by omega) (by omega) hws2 ?_)
      intro v' w' ho hgr hng;obtain ⟨g2,c2,rfl⟩:=fm ho (by omega)
      have HO2:Hid (OwnRows 2 24 w' w.heap.size w'.heap.size (.slice (some ⟨g2,0,none⟩) (k+1) c2) (vs ++ [.slice (some ⟨q3,0,none⟩) ns.length c3]) (d ++ [ns])) :=
       OwnRows.snoc (w:=w2) hO.out Hb2.out (r0:=wr.heap.size) hw.out.size (Nat.le_refl _) HRow.out (Nat.le_refl _) (by rw [HDK.out];exact ho) hgr hng
      have HW3:=Oi (ah hw2 HOo.out hgr (Nat.le_refl _) hws2);have HR3:=Oi (HR2.out.apt HS2.out hgr hA.out);have HS3:=Oi (Nat.le_trans HS2.out hgr.size);have HA3:=Oi (hA.out.grow (fun b e=>by injection e with e;subst e;exact Nat.lt_of_lt_of_le hl1 HS2.out) hng)
      clear ho hgr hng hw2 HR2 hA hO hw HRow HOo;go_wp2_with fail;go_roundw
      case rel=>exact ⟨k+1,d ++ [ns],_,g2,c2,by omega,by simp [HDK.out],by go_num,by first | rfl | simp,HT2.out,HO2.out,HOrd2.out,HW3.out,HR3.out,HS3.out,HA3.out⟩
      case measure=>simp [intOf];omega
  · obtain rfl:k=ps.length:=by omega
    have HAll:=Oi (HSo.out d hTl.out.done);have hkp:(0:Int)<(ps.length:Int):=by omega
    obtain ⟨y0,hy0⟩:∃ y0,d[0]? = some y0:=⟨d[0]'(by have:=HDK.out;omega),List.getElem?_eq_getElem _⟩
    obtain ⟨g0,c0,hv0,ho0⟩:=hO.out.row 0 y0 hy0;have hc0:wr.cell? ⟨g,0,none⟩=some (.slice (some ⟨g0,0,none⟩) y0.length c0):=by
     rcases ay hO.out.out (Nat.le_refl _) with h' | ⟨b,o,ha,hb,hc⟩
     · rw [h'] at hv0;cases hv0
     · injection ha with ha
       injection ha with ha1 ha2
       have:=hc 0 (by have:=(List.getElem?_eq_some_iff.1 hv0).1;exact this)
       rw [← ha1,← ha2,hv0] at this;exact this
    have hgd:d.getD 0 []=y0:=by simp [List.getD,hy0]
    rw [hgd] at HAll;have HDL:=HDK.out;have y00:(0:Int)≤(y0.length:Int):=Int.natCast_nonneg _
    by_cases hcn1:ps.length=cnt
    · have t1:((ps.length:Int) == (cnt:Int))=true:=by simp;omega
      by_cases hy2:y0.length=2
      · have t2:((y0.length:Int) == 2)=true:=by simp;omega
        have HF:Hid (LF=some d):=by rw [Hid,HAll.out,if_pos ⟨by omega,hy2⟩]
        have HDL2:=Oi HDL;clear hTl HAll hy0 hv0 ho0 hgd hcn1 hy2 HDL;go_wp2_with fail
        go_quiet (fail)
        go_wp2_with fail
        go_ret2
        rw [HF.out];refine ⟨ag hw.out _,_,rfl,fun yss h=>?_⟩
        injection h with h
        subst h;exact ⟨g,cp,vs,by rw [HDL2.out];rfl,by rw [HDL2.out];exact hO.out.keep (mc _ _),hOrd.out⟩
      · have t2:((y0.length:Int) == 2)=false:=by simp;omega
        have HF:Hid (LF=none):=by rw [Hid,HAll.out,if_neg (fun h=>hy2 h.2)]
        clear hTl HAll hy0 hv0 ho0 hgd hcn1 hy2 HDL;go_wp2_with fail
        go_quiet (fail)
        go_wp2_with fail
        go_ret2
        rw [HF.out];exact ⟨ag hw.out _,_,rfl,fun yss h=>by cases h⟩
    · have t1:((ps.length:Int) == (cnt:Int))=false:=by simp;omega
      have HF:Hid (LF=none):=by rw [Hid,HAll.out,if_neg (fun h=>hcn1 (by omega))]
      clear hTl HAll hy0 hv0 ho0 hgd hcn1 HDL;go_wp2_with fail
      go_quiet (fail)
      go_wp2_with fail
      go_ret2
      rw [HF.out];exact ⟨ag hw.out _,_,rfl,fun yss h=>by cases h⟩
def iS (V:Int→Int→List Int→List Int→Bool) (l:List UInt8):Int × Int × List Int × List Int × Bool:=match eT 3 l with
 | none=>(0,0,[],[],false)
 | some yss=>if V ((yss.getD 0 []).getD 0 0) ((yss.getD 0 []).getD 1 0) (yss.getD 1 []) (yss.getD 2 []) then ((yss.getD 0 []).getD 0 0,(yss.getD 0 []).getD 1 0,yss.getD 1 [],yss.getD 2 [],true) else (0,0,[],[],false)
def pL (V:Int→Int→List Int→Bool) (l:List UInt8):Int × Int × List Int × Bool:=match eT 2 l with
 | none=>(0,0,[],false)
 | some yss=>if V ((yss.getD 0 []).getD 0 0) ((yss.getD 0 []).getD 1 0) (yss.getD 1 []) then ((yss.getD 0 []).getD 0 0,(yss.getD 0 []).getD 1 0,yss.getD 1 [],true) else (0,0,[],false)
theorem sa {V:Int→Int→List Int→List Int→Bool} {l:List UInt8} (h:eT 3 l=none):iS V l=(0,0,[],[],false):=by unfold iS;rw [h]
theorem yk {V:Int→Int→List Int→Bool} {l:List UInt8} (h:eT 2 l=none):pL V l=(0,0,[],false):=by unfold pL;rw [h]
theorem sc {V:Int→Int→List Int→List Int→Bool} {l:List UInt8} {p q:Int} {x2 x3:List Int} (h:eT 3 l=some [[p,q],x2,x3]):iS V l=if V p q x2 x3 then (p,q,x2,x3,true) else (0,0,[],[],false):=by unfold iS;rw [h];rfl
theorem ym {V:Int→Int→List Int→Bool} {l:List UInt8} {p q:Int} {x2:List Int} (h:eT 2 l=some [[p,q],x2]):pL V l=if V p q x2 then (p,q,x2,true) else (0,0,[],false):=by unfold pL;rw [h];rfl
theorem Jn {y:List Int} (h:y.length=2):∃ p q,y=[p,q]:=by
 match y,h with
 | [p,q],_=>exact ⟨p,q,rfl⟩
theorem A1 {yss:List (List Int)} (h:yss.length=3) (h2:(yss.getD 0 []).length=2) (h3:∀ y∈yss,y.length≤64):∃ p q x2 x3,yss=[[p,q],x2,x3]∧x2.length≤64∧x3.length≤64:=by
 match yss,h with
 | [y0,y1,y2],_ =>
   obtain ⟨p,q,e⟩:=Jn (y:=y0) h2;exact ⟨p,q,y1,y2,by rw [e],h3 y1 (by simp),h3 y2 (by simp)⟩
theorem Ie {yss:List (List Int)} (h:yss.length=2) (h2:(yss.getD 0 []).length=2) (h3:∀ y∈yss,y.length≤64):∃ p q x2,yss=[[p,q],x2]∧x2.length≤64:=by
 match yss,h with
 | [y0,y1],_ =>
   obtain ⟨p,q,e⟩:=Jn (y:=y0) h2;exact ⟨p,q,y1,by rw [e],h3 y1 (by simp)⟩
theorem BG {V:Int→Int→List Int→List Int→Bool} {l:List UInt8}:(iS V l).2.2.1.length≤64∧(iS V l).2.2.2.1.length≤64:=by
 cases h:eT 3 l with
 | none=>rw [sa h];exact ⟨Nat.zero_le _,Nat.zero_le _⟩
 | some yss =>
   obtain ⟨h1,h2,h3⟩:=kW h;obtain ⟨p,q,x2,x3,rfl,l2,l3⟩:=A1 h1 h2 h3;rw [sc h]
   split
   · exact ⟨l2,l3⟩
   · exact ⟨Nat.zero_le _,Nat.zero_le _⟩
theorem Ky {V:Int→Int→List Int→Bool} {l:List UInt8}:(pL V l).2.2.1.length≤64:=by
 cases h:eT 2 l with
 | none=>rw [yk h];exact Nat.zero_le _
 | some yss =>
   obtain ⟨h1,h2,h3⟩:=kW h;obtain ⟨p,q,x2,rfl,l2⟩:=Ie h1 h2 h3;rw [ym h]
   split
   · exact l2
   · exact Nat.zero_le _
section
variable {T T2 lo hi g c n:Nat} {w:World} {xs:List Int}
theorem OwnRows.cellAt {vs:List Value} {yss:List (List Int)} (h:OwnRows T T2 w lo hi (.slice (some ⟨g,0,none⟩) n c) vs yss) (hn:n=yss.length) {j:Nat} {v:Value} (hj:vs[j]? = some v):w.cell? ⟨g,j,none⟩=some v:=by
 subst hn
 rcases ay h.out (Nat.le_refl _) with h' | ⟨b,o,ha,hb,hc⟩
 · rw [h'] at hj;cases hj
 · injection ha with ha
   injection ha with ha1 ha2
   have:=hc j (List.getElem?_eq_some_iff.1 hj).1;rw [← ha1,← ha2,Nat.zero_add,hj] at this;exact this
theorem OwnI.cellAt (h:OwnI T w lo hi (some ⟨g,0,none⟩) c xs) {j:Nat} {x:Int} (hj:xs[j]? = some x):w.cell? ⟨g,j,none⟩=some (.int .i64 x):=by
 have hj2:(ae xs)[j]? = some (.int .i64 x):=by simp [ae,hj]
 rcases h.rd with h' | ⟨b,o,ha,hb,hc⟩
 · rw [h'] at hj2;cases hj2
 · injection ha with ha
   injection ha with ha1 ha2
   have:=hc j (List.getElem?_eq_some_iff.1 hj2).1;rw [← ha1,← ha2,Nat.zero_add,hj2] at this;exact this
theorem OwnI.narrow (h:OwnI T w lo hi (some ⟨g,0,none⟩) c xs):OwnI T w g (g+1) (some ⟨g,0,none⟩) c xs:=by
 refine ⟨⟨h.1.1,?_⟩,fun b hb=>by injection hb with hb;subst hb;exact Nat.lt_succ_self _⟩
 rcases h.1.2 with ⟨h2,_⟩ | ⟨g',cap,cur,hv,hg,r⟩
 · cases h2
 · have e:=hv
   injection e with e1 _ e3
   injection e1 with e1
   injection e1 with e1
   exact .inr ⟨g',cap,cur,hv,by omega,r⟩
theorem OwnI.place (h:OwnI T w lo hi (some ⟨g,0,none⟩) c xs):lo≤g∧g<hi:=⟨(h.1.lt g rfl).1,h.2 _ rfl⟩
end
def aJ (xs:List Int):List UInt8:=if xs=[] then [110,111,110,101] else Lib.join (xs.map Lib.itoa) [44]
def bD (xs:List Int):Bool:=gv xs (-1000000000000000) 1000000000000000 && decide (xs.length≤64)
theorem iF {n:Int} (h0:-9223372036854775808≤n) (h1:n≤9223372036854775807):(Lib.itoa n).length≤21:=by
 have h:=qH n.natAbs 20 (by omega) (by omega)
 rcases Int.lt_or_le n 0 with hn | hn
 · rw [AK hn];simp;omega
 · rw [qu hn];omega
theorem wQ {m:Nat}:∀ {xs:List (List UInt8)},(∀ x∈xs,x.length≤m)→Lib.lens xs≤m * xs.length
 | [],_=>by simp [Lib.lens]
 | x :: xs,h=>by
   have h1:=h x (by simp)
   have h2:=wQ (m:=m) (xs:=xs) (fun y hy=>h y (by simp [hy]))
   simp only [Lib.lens,List.map_cons,List.sum_cons,List.length_cons,Nat.mul_succ] at *
   omega
theorem km {m:Nat} {xs:List (List UInt8)} {sep:List UInt8} (h:∀ x∈xs,x.length≤m):(Lib.join xs sep).length≤(m+sep.length) * xs.length:=by
 cases xs with
 | nil=>simp [Lib.join_nil]
 | cons x r =>
   have h1:=h x (by simp)
   have h2:=wQ (m:=m) (xs:=r) (fun y hy=>h y (by simp [hy]))
   rw [Lib.join_cons,List.length_append,Lib.joinTail_length,List.length_cons,Nat.mul_succ,Nat.add_mul];omega
theorem pu {xs:List Int} (h:∀ x∈xs,-9223372036854775808≤x∧x≤9223372036854775807):(aJ xs).length≤22 * xs.length+4:=by
 unfold aJ
 split
 · simp
 · have:=km (m:=21) (xs:=xs.map Lib.itoa) (sep:=[44]) (fun x hx=>by
     obtain ⟨y,hy,rfl⟩:=List.mem_map.1 hx;have:=h y hy;exact iF this.1 this.2)
   rw [List.length_map] at this;simp at this;omega
theorem xK {xs:List (List UInt8)} {k:Nat} {y sep:List UInt8} (hk:1≤k) (hy:xs[k]? = some y):Lib.join (xs.take (k+1)) sep=Lib.join (xs.take k) sep ++ (sep ++ y):=by
 cases xs with
 | nil=>simp at hy
 | cons x r =>
   obtain ⟨k,rfl⟩:∃ j,k=j+1:=⟨k - 1,by omega⟩;rw [List.take_succ_cons,List.take_succ_cons,Lib.join_cons,Lib.join_cons,Lib.joinTail_take_succ sep r k y (by simpa using hy)]
   simp [List.append_assoc]
theorem A4 (xs:List (List UInt8)):(xs.map bs).map (·.data.toList)=xs:=by
 rw [List.map_map]
 conv=>rhs;rw [← List.map_id xs]
 exact List.map_congr_left fun x _=>cu x
theorem AO (w:World) (a:Option Addr) (c:Nat) (xs:List (List UInt8)) (sep:List UInt8) (h:Rd w w.heap.size a (bF xs)) (hc:xs.length≤c) (hl:xs.length≤1048576) (hj:(Lib.join xs sep).length≤140737488355328) :
 Calls Tryz.prog 83 #[.slice a xs.length c,.string (bs sep)] w fun e w'=>e=.returned (.string (bs (Lib.join xs sep)))∧Below w.heap.size w w':=by
 rcases h with h | ⟨b,o,ha,hb,hcell⟩
 · have e:xs=[]:=by
     have:=congrArg List.length h;rw [strs_length] at this;exact List.eq_nil_of_length_eq_zero this
   subst e;refine (Tryz.strings_Join_none a c (bs sep) w).mono ?_;rintro e w' ⟨rfl,rfl⟩;exact ⟨rfl,Below.refl _ _⟩
 · subst ha
   have:=Tryz.strings_Join b o c (xs.map bs) (bs sep) w (fun j x hx=>by
    rw [List.getElem?_map] at hx
    cases hy:xs[j]? with
    | none=>rw [hy] at hx;cases hx
    | some y =>
      rw [hy] at hx;injection hx with hx
      have hjl:j<xs.length:=(List.getElem?_eq_some_iff.1 hy).1;rw [hcell j (by rw [strs_length];exact hjl),BY hy,hx]) hb (by rw [List.length_map];omega) (by rw [List.length_map];exact hc) (by rw [A4,cu];exact hj)
   rw [List.length_map,A4,cu] at this;exact this
theorem uZ (w:World) (a:Option Addr) (c:Nat) (xs:List (List UInt8)) (h:Rd w w.heap.size a (bF xs)) (hc:xs.length≤c) (hl:xs.length≤1048576) (hj:(Lib.join xs [44]).length≤140737488355328) :
 Calls Tryz.prog 47 #[.slice a xs.length c] w fun e w'=>e=.returned (.string (bs (if xs=[] then [110,111,110,101] else Lib.join xs [44])))∧Below w.heap.size w w':=by
 have LJ:=Oi (AO w a c xs [44] h hc hl hj)
 by_cases he:xs=[]
 · subst he
   clear h
   go_enter Tryz.func47,Tryz.ntmps47;go_wp2_with fail;go_ret;exact ⟨rfl,Below.refl _ _⟩
 · rw [if_neg he]
   have hne:¬ xs.length=0:=fun e=>he (List.eq_nil_of_length_eq_zero e)
   clear h he
   go_enter Tryz.func47,Tryz.ntmps47;go_wp2_with fail;refine LJ.out.mono ?_;rintro e w1 ⟨rfl,hb⟩;go_wp2_with fail;go_ret;exact ⟨rfl,hb⟩
theorem tO (n:Int) (w:World) :
 Calls Tryz.prog 138 #[.int .i64 n] w fun e w'=>e=.returned (.bool (eG n (-1000000000000000) 1000000000000000))∧w=w':=by
 go_enter Tryz.func138,Tryz.ntmps138
 go_wp2_with (go_at_call 74;refine (dm _ _ _ _).mono ?_;rintro e w' ⟨rfl,rfl⟩)
 go_ret;exact ⟨rfl,rfl⟩
theorem rb (w:World) (a:Option Addr) (c:Nat) (xs:List Int) (h:Rd w w.heap.size a (ae xs)) (hl:xs.length≤1048576) :
 Calls Tryz.prog 108 #[.slice a xs.length c] w fun e w'=>e=.returned (.bool (bD xs))∧w=w':=by
 have HV:Hid (bD xs=(gv xs (-1000000000000000) 1000000000000000 && decide (xs.length≤64))):=rfl
 go_enter Tryz.func108,Tryz.ntmps108;go_wp2_with fail
 go_loop [7] (fun i=>∃ k:Nat,k≤xs.length∧i=.int .i64 k∧Hid (gv (xs.take k) (-1000000000000000) 1000000000000000=true)) (fun i=>xs.length - (intOf i).toNat)
 case atStart=>exact ⟨0,Nat.zero_le _,rfl,rfl⟩
 case round =>
  obtain ⟨k,hk,rfl,ha⟩:=hrel
  by_cases hlt:k<xs.length
  · obtain ⟨b,o,x,rfl,hbb,hck,hx⟩:=h.get hlt
    clear h
    cases hin:eG x (-1000000000000000) 1000000000000000 with
    | true =>
      have L:=Oi (tO x);rw [hin] at L
      go_wp2_with (go_at_call 138;refine (L.out _).mono ?_;rintro e w' ⟨rfl,rfl⟩)
      go_round
      case rel=>exact ⟨k+1,by omega,by go_num,by rw [Hid,uJ hx.out,ha.out,hin];rfl⟩
      case measure=>simp [intOf];omega
    | false =>
      have L:=Oi (tO x);rw [hin] at L;have HF:Hid (bD xs=false):=by rw [Hid,HV.out,tA hx.out hin];rfl
      go_wp2_with (go_at_call 138;refine (L.out _).mono ?_;rintro e w' ⟨rfl,rfl⟩)
      go_ret;exact ⟨ar HF.out.symm,rfl⟩
  · have:k=xs.length:=by omega
    subst this;rw [List.take_length] at ha;have HF:Hid (bD xs=decide (xs.length≤64)):=by rw [Hid,HV.out,ha.out];rfl
    go_wp2_with fail;go_ret;exact ⟨ar (by rw [HF.out];simp <;> omega),rfl⟩
theorem CD {xs:List Int} {k:Nat} {x:Int} (hx:xs[k]? = some x):(xs.take (k+1)).map Lib.itoa=(xs.take k).map Lib.itoa ++ [Lib.itoa x]:=by
 rw [List.take_add_one,hx];simp
theorem A0 (w:World) (ht:Tab w) (a:Option Addr) (c:Nat) (xs:List Int) (h:Rd w w.heap.size a (ae xs)) (hl:xs.length≤1048576) (hr:∀ x∈xs,-9223372036854775808≤x∧x≤9223372036854775807) :
 Calls Tryz.prog 109 #[.slice a xs.length c] w fun e w'=>e=.returned (.string (bs (aJ xs)))∧Below w.heap.size w w':=by
 have HT:=Oi ht;have HR:=Oi hr;have HA:=Oi h;clear h hr ht
 go_enter Tryz.func109,Tryz.ntmps109;go_wp2_with fail
 go_loopw [3,9] (fun v iv wr=>∃ k:Nat,k≤xs.length∧iv=.int .i64 k∧Hid (wr.ownsRow w.heap.size 9 1 v k (bF ((xs.take k).map Lib.itoa)))∧Below w.heap.size w wr) (fun _ iv _=>xs.length - (intOf iv).toNat)
 case atStart=>exact ⟨0,Nat.zero_le _,rfl,bz w _,ai _ _⟩
 case round =>
  obtain ⟨k,hk,rfl,hO,hw⟩:=hrel;have hws:=hw.size
  by_cases hlt:k<xs.length
  · obtain ⟨b,o,x,rfl,hbb,hck,hx⟩:=(HA.out.to hw).get hlt
    have LD:=Oi (iO wr (HT.out.to hw) x (HR.out x (List.mem_of_getElem? hx.out)).1 (HR.out x (List.mem_of_getElem? hx.out)).2);have HN:=Oi (CD hx.out);go_wp2_with fail;refine LD.out.mono ?_;rintro e w1 ⟨rfl,hb1⟩;have hO1:=aD hO.out hb1;have hw1:=hw.trans (hb1.mono hws);have hs1:=hw1.size;have hk2:k≤1099511627776:=by omega
    clear hO hb1 hck hw
    go_wp2_with (at_builtin;refine aH _ rfl _ _ 35 rfl w.heap.size 9 (.string ByteArray.empty) 16 Tryz.underlying35 lL rfl _ k _ rfl hO1 (.string (bs (Lib.itoa x))) rfl rfl (by omega) hk2 hs1 ?_)
    intro v' w' ho hgr;have hw2:=ah hw1 hO1 hgr (Nat.le_refl _) hs1;have HO2:Hid (w'.ownsRow w.heap.size 9 1 v' (k+1) (bF ((xs.take (k+1)).map Lib.itoa))):=by
     rw [HN.out,fZ,List.map_take];exact ho
    clear ho hgr hO1 hw1;go_wp2_with fail;go_roundw
    case rel=>exact ⟨k+1,by omega,by go_num,HO2,hw2⟩
    case measure=>first | (simp [intOf];done) | (simp [intOf];omega)
  · have:k=xs.length:=by omega
    subst this;rw [List.take_length] at hO;obtain ⟨a',c',rfl,hc',_⟩:=ba hO.out;have hrd:=ay hO.out (Nat.le_refl _);have LJ:=uZ wr a' c' (xs.map Lib.itoa) hrd (by rw [List.length_map];exact hc') (by rw [List.length_map];exact hl) (by
     have:=km (m:=21) (xs:=xs.map Lib.itoa) (sep:=[44]) (fun x hx=>by
      obtain ⟨y,hy,rfl⟩:=List.mem_map.1 hx;have:=HR.out y hy;exact iF this.1 this.2)
     rw [List.length_map] at this;simp at this;omega)
    rw [List.length_map] at LJ;have HE:Hid ((if xs.map Lib.itoa=[] then [110,111,110,101] else Lib.join (xs.map Lib.itoa) [44])=aJ xs):=by
     show _=_
     unfold aJ
     cases xs <;> simp
    rw [HE.out] at LJ;have LJ:=Oi LJ;clear hO hrd;go_wp2_with fail;refine LJ.out.mono ?_;rintro e w1 ⟨rfl,hb1⟩;have hw2:=hw.trans (hb1.mono hws);clear hb1 hw;go_wp2_with fail;go_ret;exact ⟨rfl,hw2⟩
theorem rh (w:World) (ht:Tab w) (a:Option Addr) (c:Nat) (xs:List Int) (h:Rd w w.heap.size a (ae xs)) (hv:bD xs=true) :
 Calls Tryz.prog 82 #[.slice a xs.length c] w fun e w'=>e=.returned (.tuple #[.string (bs (aJ xs)),.bool true])∧Below w.heap.size w w':=by
 have hv2:=hv;simp only [bD,Bool.and_eq_true,decide_eq_true_eq] at hv2;have LA:=Oi (rb w a c xs h (by omega))
 rw [hv] at LA;have LL:=Oi (A0 w ht a c xs h (by omega) (fun x hx=>by have:=fi.1 hv2.1 x hx;omega))
 have h64:=hv2.2;clear hv hv2 h ht
 go_enter Tryz.func82,Tryz.ntmps82;go_wp2_with fail;refine LA.out.mono ?_;rintro e w1 ⟨rfl,rfl⟩;go_wp2_with fail;refine LL.out.mono ?_;rintro e w1 ⟨rfl,hb1⟩;go_wp2_with fail
 go_ret2
 exact ⟨rfl,hb1⟩
def RdP (w:World) (B:Nat) (a:Option Addr) (yss:List (List Int)):Prop :=
 ∃ vs:List Value,vs.length=yss.length∧Rd w B a vs∧∀ (k:Nat) (ys:List Int),yss[k]? = some ys→∃ (a':Option Addr) (c':Nat),vs[k]? = some (Value.slice a' ys.length c')∧Rd w B a' (ae ys)
theorem RdP.to {w w':World} {a:Option Addr} {yss:List (List Int)} (h:RdP w w.heap.size a yss) (hb:Below w.heap.size w w'):RdP w' w'.heap.size a yss:=by
 obtain ⟨vs,h1,h2,h3⟩:=h;exact ⟨vs,h1,h2.to hb,fun k ys hk=>let ⟨a',c',e1,e3⟩:=h3 k ys hk;⟨a',c',e1,e3.to hb⟩⟩
theorem RdP.get {w:World} {B:Nat} {a:Option Addr} {yss:List (List Int)} (h:RdP w B a yss) {k:Nat} (hk:k<yss.length) :
 ∃ b o ys a' c',a=some ⟨b,o,none⟩∧b<B∧w.cell? ⟨b,o+k,none⟩=some (.slice a' ys.length c')∧Rd w B a' (ae ys)∧Hid (yss[k]? = some ys):=by
 obtain ⟨vs,h1,h2,h3⟩:=h;obtain ⟨b,o,v,ha,hb,hc,hv⟩:=h2.getV (k:=k) (by omega)
 obtain ⟨a',c',e1,e3⟩:=h3 k yss[k] (List.getElem?_eq_getElem hk);have hv':=hv.out;rw [e1] at hv';injection hv' with hv'
 exact ⟨b,o,yss[k],a',c',ha,hb,by rw [hc,hv'],e3,by simp [Hid,List.getElem?_eq_getElem hk]⟩
theorem vX {xss:List (List Int)} {k:Nat} {x:List Int} (hx:xss[k]? = some x):(xss.take (k+1)).map aJ=(xss.take k).map aJ ++ [aJ x]:=by
 rw [List.take_add_one,hx];simp
def bt (xss:List (List Int)):List UInt8:=Lib.join (xss.map aJ) [59]
theorem jW (w:World) (ht:Tab w) (a:Option Addr) (c:Nat) (xss:List (List Int)) (h:RdP w w.heap.size a xss) (hl:xss.length≤1024) (hr:∀ x∈xss,bD x=true) :
 Calls Tryz.prog 44 #[.slice a xss.length c] w fun e w'=>e=.returned (.tuple #[.string (bs (bt xss)),.bool true])∧Below w.heap.size w w':=by
 have HT:=Oi ht;have HR:=Oi hr;have HA:=Oi h;clear h hr ht
 go_enter Tryz.func44,Tryz.ntmps44;go_wp2_with fail
 go_loopw [4,12] (fun v iv wr=>∃ k:Nat,k≤xss.length∧iv=.int .i64 k∧Hid (wr.ownsRow w.heap.size 9 1 v k (bF ((xss.take k).map aJ)))∧Below w.heap.size w wr) (fun _ iv _=>xss.length - (intOf iv).toNat)
 case atStart=>exact ⟨0,Nat.zero_le _,rfl,bz w _,ai _ _⟩
 case round =>
  obtain ⟨k,hk,rfl,hO,hw⟩:=hrel;have hws:=hw.size
  by_cases hlt:k<xss.length
  · obtain ⟨b,o,x,a1,c1,rfl,hbb,hck,hrx,hx⟩:=(HA.out.to hw).get hlt
    have LD:=Oi (rh wr (HT.out.to hw) a1 c1 x hrx (HR.out x (List.mem_of_getElem? hx.out)));have HN:=Oi (vX hx.out);clear hrx;go_wp2_with fail;refine LD.out.mono ?_;rintro e w1 ⟨rfl,hb1⟩;have hO1:=aD hO.out hb1;have hw1:=hw.trans (hb1.mono hws);have hs1:=hw1.size;have hk2:k≤1099511627776:=by omega
    clear hO hb1 hck hw
    go_wp2_with (at_builtin;refine aH _ rfl _ _ 35 rfl w.heap.size 9 (.string ByteArray.empty) 16 Tryz.underlying35 lL rfl _ k _ rfl hO1 (.string (bs (aJ x))) rfl rfl (by omega) hk2 hs1 ?_)
    intro v' w' ho hgr;have hw2:=ah hw1 hO1 hgr (Nat.le_refl _) hs1;have HO2:Hid (w'.ownsRow w.heap.size 9 1 v' (k+1) (bF ((xss.take (k+1)).map aJ))):=by
     rw [HN.out,fZ,List.map_take];exact ho
    clear ho hgr hO1 hw1;go_wp2_with fail;go_roundw
    case rel=>exact ⟨k+1,by omega,by go_num,HO2,hw2⟩
    case measure=>first | (simp [intOf];done) | (simp [intOf];omega)
  · have:k=xss.length:=by omega
    subst this;rw [List.take_length] at hO;obtain ⟨a',c',rfl,hc',_⟩:=ba hO.out;have hrd:=ay hO.out (Nat.le_refl _);have LJ:=AO wr a' c' (xss.map aJ) [59] hrd (by rw [List.length_map];exact hc') (by rw [List.length_map];omega) (by
     have:=km (m:=2000) (xs:=xss.map aJ) (sep:=[59]) (fun x hx=>by
      obtain ⟨y,hy,rfl⟩:=List.mem_map.1 hx;have hv:=HR.out y hy;simp only [bD,Bool.and_eq_true,decide_eq_true_eq] at hv;have:=pu (xs:=y) (fun z hz=>by have:=fi.1 hv.1 z hz;omega)
      omega)
     rw [List.length_map] at this;simp at this;omega)
    rw [List.length_map] at LJ;have LJ:=Oi LJ;clear hO hrd;go_wp2_with fail;refine LJ.out.mono ?_;rintro e w1 ⟨rfl,hb1⟩;have hw2:=hw.trans (hb1.mono hws);clear hb1 hw;go_wp2_with fail
    go_ret2
    exact ⟨rfl,hw2⟩
def sP (b:UInt8):Prop:=b=45∨(48≤b.toNat∧b.toNat≤57)
theorem xz:∀ (u:Nat) (b:UInt8),b∈Lib.decDigits u→48≤b.toNat∧b.toNat≤57:=by
 intro u
 induction u using Nat.strongRecOn with
 | ind u ih =>
   intro b hb;rw [Lib.decDigits] at hb
   split at hb
   · rename_i h
     rw [List.mem_singleton] at hb;rw [hb,ig u h];omega
   · rcases List.mem_append.1 hb with h | h
     · exact ih (u / 10) (by omega) b h
     · rw [List.mem_singleton] at h
       rw [h,ig (u % 10) (by omega)];omega
theorem nj {n:Int} {b:UInt8} (h:b∈Lib.itoa n):sP b:=by
 rcases Int.lt_or_le n 0 with h0 | h0
 · rw [sK h0] at h
   rcases List.mem_cons.1 h with rfl | h
   · exact .inl rfl
   · exact .inr (xz _ _ h)
 · rw [qt h0] at h
   exact .inr (xz _ _ h)
theorem DO (n:Int):Lib.itoa n≠[]:=by
 intro h
 rcases Int.lt_or_le n 0 with h0 | h0
 · rw [sK h0] at h;cases h
 · rw [qt h0] at h
   have:=sH n.toNat;rw [h] at this;simp at this
theorem uk {c:UInt8}:∀ (x:List UInt8) (r:List (List UInt8)),(∀ y∈x :: r,c∉y)→cH c (Lib.join (x :: r) [c])=x :: r
 | x,[],h=>by rw [Lib.join_one];exact mw (h x (by simp))
 | x,y :: r,h=>by
   have e:Lib.join (x :: y :: r) [c]=x ++ c :: Lib.join (y :: r) [c]:=by
    rw [Lib.join_cons,Lib.join_cons];simp [Lib.joinTail]
   rw [e,oi (h x (by simp)),uk y r (fun z hz=>h z (List.mem_cons_of_mem _ hz))]
theorem J5 {b:UInt8} {c:UInt8}:∀ (xs:List (List UInt8)),b∈Lib.join xs [c]→b=c∨∃ x∈xs,b∈x
 | [],h=>by rw [Lib.join_nil] at h;cases h
 | x :: r,h=>by
   rw [Lib.join_cons] at h
   rcases List.mem_append.1 h with h | h
   · exact .inr ⟨x,by simp,h⟩
   · unfold Lib.joinTail at h
     obtain ⟨l,hl,hb⟩:=List.mem_flatten.1 h;obtain ⟨y,hy,rfl⟩:=List.mem_map.1 hl
     rcases List.mem_append.1 hb with hb | hb
     · rw [List.mem_singleton] at hb;exact .inl hb
     · exact .inr ⟨y,List.mem_cons_of_mem _ hy,hb⟩
theorem sN {b:UInt8} {c:UInt8} (h:sP b) (h1:c≠45) (h2:c.toNat<48∨57<c.toNat):b≠c:=by
 rintro rfl
 rcases h with h | h
 · exact h1 h
 · omega
end Go.Proofs.YtbknhgapjjaelaaGreatDoor
