/-
  Part 5 of what the proof stands on: lemmas and contracts, each with its conditions ahead of the colon.
-/
import Derived.Test.YtbknhgapjjaelaaGreatDoorRows
import Derived.OpenShut
import Derived.ChangeAt
import Derived.Lib.SliceRun
import Derived.Deep.Matrix
import Derived.Test.YtbknhgapjjaelaaGreatDoorPk01
import Derived.Test.YtbknhgapjjaelaaGreatDoorPk02
import Derived.Test.YtbknhgapjjaelaaGreatDoorPk03
import Derived.Test.YtbknhgapjjaelaaGreatDoorPk04
set_option maxRecDepth 10000
set_option maxHeartbeats 8000000
namespace Go.Proofs.YtbknhgapjjaelaaGreatDoor
set_option linter.unusedVariables false
set_option linter.unusedSimpArgs false
open Go.RowKit
def EL (w:World) (g:Nat) (R:Int) (C:Nat) (aA:Option Addr) (cA:Nat) (xA:List Int) (vB:Value):Prop:=Blk w g [.int .i64 R,.int .i64 C,.slice aA xA.length cA,vB] 26
theorem Kz (w:World) (gB iB jB:Nat) (R C i j k:Nat) (aA:Option Addr) (cA:Nat) (xA:List Int) (vB:Value) (hg:EL w gB R C aA cA xA vB) (hi:Blk w iB [.int .i64 i] 2) (hj:Blk w jB [.int .i64 j] 2) (hr:Rd w w.heap.size aA (ae xA)) (hl:xA.length≤1048576) (hx:xA.length=R * C) (iR:i<R) (jR:j<R) (kC:k<C) :
 Calls Tryz.prog 218 #[.int .i64 k,.pointer (some ⟨gB,0,none⟩),.pointer (some ⟨jB,0,none⟩),.pointer (some ⟨iB,0,none⟩)] w fun e w'=>e=.returned (.bool (decide (aQ C xA j k≤aQ C xA i k)))∧Below w.heap.size w w':=by
 have LJ:=Na (fun v (hb:Below w.heap.size w v)=>oe v R C j k aA cA xA vB (hr.to hb) (by rw [hx];exact dE jR kC) hl)
 have LI:=Na (fun v (hb:Below w.heap.size w v)=>oe v R C i k aA cA xA vB (hr.to hb) (by rw [hx];exact dE iR kC) hl)
 have D0:∀ z9:Later w,z9.w'.cell? ⟨gB,0,none⟩=some (.int .i64 R):=fun z9=>(z9.h.cell (p:=⟨gB,0,none⟩) (Blk.lt hg)).trans (Blk.cell hg 0)
 have D1:∀ z9:Later w,z9.w'.cell? ⟨gB,1,none⟩=some (.int .i64 C):=fun z9=>(z9.h.cell (p:=⟨gB,1,none⟩) (Blk.lt hg)).trans (Blk.cell hg 1)
 have D2:∀ z9:Later w,z9.w'.cell? ⟨gB,2,none⟩=some (.slice aA xA.length cA):=fun z9=>(z9.h.cell (p:=⟨gB,2,none⟩) (Blk.lt hg)).trans (Blk.cell hg 2)
 have D3:∀ z9:Later w,z9.w'.cell? ⟨gB,3,none⟩=some vB:=fun z9=>(z9.h.cell (p:=⟨gB,3,none⟩) (Blk.lt hg)).trans (Blk.cell hg 3)
 have D4:∀ z9:Later w,z9.w'.cell? ⟨iB,0,none⟩=some (.int .i64 i):=fun z9=>(z9.h.cell (p:=⟨iB,0,none⟩) hi.lt).trans (hi.cell 0)
 have D5:∀ z9:Later w,z9.w'.cell? ⟨jB,0,none⟩=some (.int .i64 j):=fun z9=>(z9.h.cell (p:=⟨jB,0,none⟩) hj.lt).trans (hj.cell 0)
 clear hg hi hj hr hx iR jR kC;generalize aQ C xA j k=p at *
 generalize aQ C xA i k=q at *
 go_enter Tryz.func218,Tryz.ntmps218;go_wp2_with fail;refine bf (by kernel_rfl) (by kernel_rfl) ?_
 repeat (go_big_quiet_step (first | (go_at_call_of 143 j;exact dx (LJ.out _ (Later.h _))) | (go_at_call_of 143 i;exact dx (LI.out _ (Later.h _)))))
 refine wpQuiet_nil ?_
 rintro wq ⟨⟨_,hbq⟩,rfl⟩;have HW:=Na hbq;clear D0 D1 D2 D3 D4 D5 hbq LI LJ;go_wp2_with fail;go_ret;exact ⟨rfl,HW.out⟩
theorem Gx (w:World) (gB iB:Nat) (R C i j:Nat) (aA:Option Addr) (cA:Nat) (xA:List Int) (vB:Value) (hg:EL w gB R C aA cA xA vB) (hi:Blk w iB [.int .i64 i] 2) (hr:Rd w w.heap.size aA (ae xA)) (hl:xA.length≤1048576) (hx:xA.length=R * C) (iR:i<R) (jR:j<R) (hC:C≤1048576) :
 Calls Tryz.prog 217 #[.int .i64 j,.pointer (some ⟨gB,0,none⟩),.pointer (some ⟨iB,0,none⟩)] w fun e w'=>e=.returned (.bool (nJ C xA i j))∧Below w.heap.size w w':=by
 have B1:=ah w (.cells #[.int .i64 j] 2);have KJ:=Blk.new w [.int .i64 j] 2;have LK:=Na (fun v=>gc v C hC)
 have c1:(w.alloc (.cells #[.int .i64 j] 2)).cell? ⟨gB,1,none⟩=some (.int .i64 C):=by rw [(Blk.same hg B1).cell];rfl
 have LC:=Na (fun (v:World) (al:Option Addr) (cl:Nat) (hb:Below (w.heap.size+1) (w.alloc (.cells #[.int .i64 j] 2)) v) (hal:Rd v v.heap.size al (ae (eD C)))=>lj 218 #[.pointer (some ⟨gB,0,none⟩),.pointer (some ⟨w.heap.size,0,none⟩),.pointer (some ⟨iB,0,none⟩)] (fun _ _=>by kernel_rfl) v al cl (ae (eD C)) (fun k=>decide (aQ C xA j k≤aQ C xA i k)) hal (by rw [ints_length,bE];omega) (fun w' k u hb2 hk=>by
  have hk':k<C:=by have:=(List.getElem?_eq_some_iff.1 hk).1;simpa [bE] using this
  rw [ex _ _ (by rw [bE];exact hk')] at hk
  injection hk with hk
  subst hk;rw [bZ (nM hk')];have hb3:Below (w.heap.size+1) (w.alloc (.cells #[.int .i64 j] 2)) w':=hb.trans (hb2.mono (by have:=hb.size;rw [World.size_alloc] at this;exact this))
  have hb4:Below w.heap.size w w':=B1.trans (hb3.mono (by omega))
  exact Kz w' gB iB w.heap.size R C i j k aA cA xA vB (Blk.same hg hb4) (hi.same hb4) (KJ.below hb3 (by omega)) (hr.to hb4) hl hx iR jR hk'))
 have HB:=Na B1;have hF:Hid (nJ C xA i j = !iz (fun k=>decide (aQ C xA j k≤aQ C xA i k)) C):=rfl
 clear hg hi hr hx iR jR B1 KJ
 go_enter Tryz.func217,Tryz.ntmps217;go_wp2_with fail;refine (LK.out _).mono ?_;rintro e w1 ⟨al,cl,rfl,ho,hb⟩;have LC1:=Na (LC.out w1 al cl (by rw [World.size_alloc] at hb;exact hb) (ay ho (Nat.le_refl _)))
 rw [ints_length,bE] at LC1;have HB1:=Na (aa HB.out hb);clear ho hb c1 LC LK;go_wp2_with fail;refine LC1.out.mono ?_;rintro e w2 ⟨rfl,hb2⟩;have HW:=Na (aa HB1.out hb2);clear hb2;go_wp2_with fail;go_ret;exact ⟨av hF.out.symm,HW.out⟩
theorem xP (w:World) (R C:Nat) (aA:Option Addr) (cA:Nat) (xA:List Int) (aB:Option Addr) (nB cB:Nat) (hr:Rd w w.heap.size aA (ae xA)) (hl:xA.length≤1048576) (hx:xA.length=R * C) (hR:R≤6) (hC:C≤6) :
 Calls Tryz.prog 171 #[.agg #[.int .i64 R,.int .i64 C,.slice aA xA.length cA,.slice aB nB cB]] w fun e w'=>∃ a' c',e=.returned (.slice a' (fi R C xA R).length c')∧Rd w' w'.heap.size a' (ae (fi R C xA R))∧Below w.heap.size w w':=by
 have KG:EL (w.alloc (.cells #[.int .i64 R,.int .i64 C,.slice aA xA.length cA,.slice aB nB cB] 26)) w.heap.size R C aA cA xA (.slice aB nB cB):=Blk.new w [.int .i64 R,.int .i64 C,.slice aA xA.length cA,.slice aB nB cB] 26;have B1:=ah w (.cells #[.int .i64 R,.int .i64 C,.slice aA xA.length cA,.slice aB nB cB] 26);have LK:=Na (fun v=>gc v R (by omega))
 have HG:=Na KG;have HO:=Na (bD (w.alloc (.cells #[.int .i64 R,.int .i64 C,.slice aA xA.length cA,.slice aB nB cB] 26)) 2);have HB0:Hid (Below (w.heap.size+1) (w.alloc (.cells #[.int .i64 R,.int .i64 C,.slice aA xA.length cA,.slice aB nB cB] 26)) ((w.alloc (.cells #[.int .i64 R,.int .i64 C,.slice aA xA.length cA,.slice aB nB cB] 26)).alloc (.cells #[] 2))):=by
  have:=ah (w.alloc (.cells #[.int .i64 R,.int .i64 C,.slice aA xA.length cA,.slice aB nB cB] 26)) (.cells #[] 2);rw [World.size_alloc] at this;exact this
 have HO2:Hid (World.ownsRow _ (w.heap.size+1) _ _ _ _ _):=bJ HO.out (by simp)
 have q0:((w.alloc (.cells #[.int .i64 R,.int .i64 C,.slice aA xA.length cA,.slice aB nB cB] 26)).alloc (.cells #[] 2)).cell? ⟨w.heap.size,0,none⟩=some (.int .i64 R):=by rw [(Blk.alloc KG _).cell];rfl
 have HR:=Na hr;have HX:=Na hx;have HB1:=Na B1;clear HO hr hx KG B1
 go_enter Tryz.func171,Tryz.ntmps171;go_wp2_with fail;clear q0
 go_loopw [8,3] (fun iv ov wr=>∃ (i:Nat) (v:Value),i≤R∧iv=.int .i64 i∧ov=v∧Hid (wr.ownsRow (w.heap.size+1) 2 1 v (fi R C xA i).length (ae (fi R C xA i)))∧Hid (Below (w.heap.size+1) (w.alloc (.cells #[.int .i64 R,.int .i64 C,.slice aA xA.length cA,.slice aB nB cB] 26)) wr)∧w.heap.size+1≤wr.heap.size) (fun iv _ _=>R - (intOf iv).toNat)
 case atStart=>exact ⟨0,_,Nat.zero_le _,rfl,rfl,(by have h:=HO2.out;simp at h;exact h),HB0.out,(by simp)⟩
 case round =>
  clear HO2 HB0;obtain ⟨i,v,hi,rfl,rfl,ho,hw,hsz⟩:=hrel;have i0:(0:Int)≤(i:Int):=Int.natCast_nonneg _;have KW:=(Blk.below HG.out hw.out (by omega))
  have q0:wr.cell? ⟨w.heap.size,0,none⟩=some (.int .i64 R):=KW.cell 0
  by_cases hlt:i<R
  · have hii:(i:Int)<(R:Int):=by omega
    have hs:=Na (Cz R C xA i);have hll:=qH R C xA i;have KI:=Na (Blk.new wr [.int .i64 i] 2);have BI:=Na (ah wr (.cells #[.int .i64 i] 2));have q1:(wr.alloc (.cells #[.int .i64 i] 2)).cell? ⟨w.heap.size,0,none⟩=some (.int .i64 R):=by rw [(KW.same BI.out).cell];rfl
    have HKW:=Na KW;have LC:=Na (fun (v:World) (al:Option Addr) (cl:Nat) (hb:Below (wr.heap.size+1) (wr.alloc (.cells #[.int .i64 i] 2)) v) (hal:Rd v v.heap.size al (ae (eD R)))=>lj 217 #[.pointer (some ⟨w.heap.size,0,none⟩),.pointer (some ⟨wr.heap.size,0,none⟩)] (fun _ _=>by kernel_rfl) v al cl (ae (eD R)) (nJ C xA i) hal (by rw [ints_length,bE];omega) (fun w' j u hb2 hj=>by
     have hj':j<R:=by have:=(List.getElem?_eq_some_iff.1 hj).1;simpa [bE] using this
     rw [ex _ _ (by rw [bE];exact hj')] at hj
     injection hj with hj
     subst hj;rw [bZ (nM hj')];have hb3:Below (wr.heap.size+1) (wr.alloc (.cells #[.int .i64 i] 2)) w':=hb.trans (hb2.mono (by have:=hb.size;rw [World.size_alloc] at this;exact this))
     have hb4:Below wr.heap.size wr w':=BI.out.trans (hb3.mono (by omega))
     exact Gx w' w.heap.size wr.heap.size R C i j aA cA xA (.slice aB nB cB) (HKW.out.same hb4) (KI.out.below hb3 (by omega)) ((HR.out.to (HB1.out.trans (hw.out.mono (by omega)))).to hb4) hl HX.out hlt hj' (by omega)))
    clear KW;go_wp2_with fail;refine (LK.out _).mono ?_;rintro e w1 ⟨al,cl,rfl,hoa,hb⟩;have LC1:=Na (LC.out w1 al cl (by rw [World.size_alloc] at hb;exact hb) (ay hoa (Nat.le_refl _)))
    rw [ints_length,bE] at LC1;have HBa:=Na (aa BI.out hb);have ci:Hid (Blk w1 wr.heap.size [.int .i64 i] 2):=KI.out.below hb (by simp)
    clear hoa hb q1 LC LK;go_wp2_with fail;refine LC1.out.mono ?_;rintro e w2 ⟨rfl,hb2⟩;have HBb:=Na (aa HBa.out hb2);have cj:w2.cell? ⟨wr.heap.size,0,none⟩=some (.int .i64 i):=by rw [(ci.out.same hb2).cell];rfl
    have hW2:=Na (hw.out.trans (HBb.out.mono hsz));have hO2:=Na (aG ho.out HBb.out);have hsz2:w.heap.size+1≤w2.heap.size:=by have:=HBb.out.size;omega
    clear hb2 ho hw ci HBa HBb KI BI LC1 HKW
    cases hwb:iz (nJ C xA i) R with
    | false =>
      rw [hwb,if_neg (by decide)] at hs
      clear cj;go_wp2_with fail;go_roundw
      case rel=>exact ⟨i+1,_,by omega,by go_num,rfl,by rw [hs.out];exact hO2.out,hW2,hsz2⟩
      case measure=>simp [intOf];omega
    | true =>
      rw [hwb,if_pos rfl] at hs
      go_wp2_with (at_builtin;refine aH _ rfl _ _ 24 rfl (w.heap.size+1) 2 (.int .i64 0) 8 Tryz.underlying24 aU rfl _ _ _ rfl hO2.out (.int .i64 i) rfl rfl (by omega) (by omega) hsz2 ?_)
      intro v8 w8 o8 g8;have B8:=Na (ai hW2.out hO2.out g8 (Nat.le_refl _) hsz2);have H8:Hid (w8.ownsRow (w.heap.size+1) 2 1 v8 (fi R C xA (i+1)).length (ae (fi R C xA (i+1)))):=by rw [hs.out,bh,List.length_append];exact o8
      have hs8:w.heap.size+1≤w8.heap.size:=by have:=g8.size;omega
      clear o8 g8 hO2 hW2 hs cj;go_wp2_with fail;go_roundw
      case rel=>exact ⟨i+1,v8,by omega,by go_num,rfl,H8,B8,hs8⟩
      case measure=>simp [intOf];omega
  · obtain rfl:i=R:=by omega
    obtain ⟨a',c',e',hcap,_⟩:=bj ho.out;subst e';have HRd:=Na (ay ho.out (Nat.le_refl _));have HW:=Na (HB1.out.trans (hw.out.mono (by omega)))
    clear ho hw hcap KW;go_wp2_with fail;go_ret;exact ⟨a',c',rfl,HRd.out,HW.out⟩
def ki (xs:List Int):List Value:=xs.map (Value.int .u8)
@[simp] theorem byts_length (xs:List Int):(ki xs).length=xs.length:=by simp [ki]
theorem AV (xs:List Int) (k:Nat) (hk:k<xs.length):(ki xs)[k]? = some (.int .u8 (xs.getD k 0)):=by
 simp [ki,List.getD,List.getElem?_eq_getElem hk]
theorem Rd.atB {w:World} {B:Nat} {a:Option Addr} {xs:List Int} (h:Rd w B a (ki xs)) {k:Nat} (hk:k<xs.length) :
 ∃ b o,a=some ⟨b,o,none⟩∧b<B∧∀ j,j<xs.length→w.cell? ⟨b,o+j,none⟩=some (.int .u8 (xs.getD j 0)):=by
 rcases h with h | ⟨b,o,ha,hb,hc⟩
 · have:(ki xs).length=0:=by rw [h];rfl
   simp at this;subst this;simp at hk
 · exact ⟨b,o,ha,hb,fun j hj=>by rw [hc j (by simpa using hj)];exact AV xs j hj⟩
section
open Go.ChangeShapes Go.WideShapes Go.ChangeAt
theorem Ee {w:World} {a:Option Addr} {len cap:Nat} {zs:List Int} (h:(a=none∧len=0∧cap=0∧zs=[]) ∨
 ∃ x,a=some x∧len≤cap∧cap≤maxLen∧zs.length=cap∧(∀ i,i<zs.length→w.cell? (x.add i)=some (.int .u8 (zs.getD i 0)))∧∀ n∈zs,(Lit.int .u8 n).wf=true) :
 Rd w w.heap.size a (ki (zs.take len))∧(zs.take len).length=len:=by
 rcases h with ⟨rfl,rfl,rfl,rfl⟩ | ⟨x,rfl,h1,h2,h3,h4,_⟩
 · exact ⟨.inl rfl,rfl⟩
 · have hl:(zs.take len).length=len:=by simp;omega
   refine ⟨?_,hl⟩
   by_cases h0:len=0
   · subst h0;exact .inl rfl
   · have hx:=h4 0 (by omega)
     have hx0:x.add 0=x:=rfl;rw [hx0] at hx;obtain ⟨b,o,s⟩:=x;have hs:s=none:=by
      cases s with
      | none=>rfl
      | some s =>
        unfold World.cell? at hx
        split at hx <;> simp at hx
     subst hs;refine .inr ⟨b,o,rfl,World.block_lt_of_cell? w _ hx,fun j hj=>?_⟩
     rw [byts_length,hl] at hj;have hj2:=h4 j (by omega)
     have ea:(⟨b,o,none⟩:Addr).add j=⟨b,o+j,none⟩:=by unfold Addr.add;split <;> simp_all
     rw [ea] at hj2;rw [hj2,AV _ _ (by omega)]
     simp [List.getD,List.getElem?_take,hj]
theorem xr {H:Type} {enc:TypeId × Value→H} {P:Program} {w:World} {t e:TypeId} {a:Option Addr} {len cap:Nat} {d:DataW H} {ps:List MemPlace} (ht:P.underlying t=some (.slice e)) (he:P.underlying e=some (.int .u8)) (hc:P.cellsOf e=1)
 (h:DataW.Trod enc P w 0 (fun _=>true) true t (.slice a len cap) d ps) :
 ∃ xs:List Int,xs.length=len∧Rd w w.heap.size a (ki xs)∧xs.length≤9223372036854775807∧∀ x∈xs,0≤x∧x≤255:=by
 obtain ⟨fuel,hf⟩:=h
 rcases open_ints ht he hc hf with ⟨hcs,_⟩ | ⟨x,l,c,zs,hcs,_,hl,hm,hz,_,hcell,hwz⟩
 · simp [Value.cells] at hcs
   obtain ⟨rfl,rfl,rfl⟩:=hcs;exact ⟨[],rfl,Rd.nil _ _ _,by simp,by simp⟩
 · simp [Value.cells] at hcs
   obtain ⟨rfl,rfl,rfl⟩:=hcs;have:=Ee (.inr ⟨_,rfl,hl,hm,by simpa using hz,hcell,hwz⟩);refine ⟨_,this.2,this.1,by rw [this.2];unfold maxLen at hm;omega,fun y hy=>?_⟩
   have hw:=hwz y (List.mem_of_mem_take hy);simp only [Lit.wf,Bool.and_eq_true,decide_eq_true_eq] at hw;exact ⟨hw.1,hw.2⟩
end
def Src (w:World) (b:Nat) (a:Option Addr) (n c:Nat) (p:Nat):Prop:=∃ seed:Int,(0≤seed∧seed<18446744073709551616)∧Blk w b [.slice a n c,.int .i64 p,.int .u64 seed] 108
theorem Src.same {w w':World} {b n c p:Nat} {a:Option Addr} (h:Src w b a n c p) (hb:Below w.heap.size w w'):Src w' b a n c p:=by
 obtain ⟨s,h1,h2⟩:=h;exact ⟨s,h1,h2.same hb⟩
theorem tB (w:World) (a:Option Addr) (n c:Nat) :
 Calls Tryz.prog 26 #[.slice a n c] w fun e w'=>e=.returned (.pointer (some ⟨w.heap.size,0,none⟩))∧Src w' w.heap.size a n c 0∧Below w.heap.size w w'∧w'.heap.size=w.heap.size+1:=by
 have K:=Blk.new w [.slice a n c,.int .i64 0,.int .u64 0] 108;have B:=ah w (.cells #[.slice a n c,.int .i64 0,.int .u64 0] 108)
 go_enter Tryz.func26,Tryz.ntmps26;go_wp2_with fail;go_ret;exact ⟨rfl,⟨0,by omega,K⟩,B,by simp⟩
theorem AQ (x:Int):IntKind.u64.wrap x=x % 18446744073709551616:=by
 show (if (false && decide (x % 2 ^ 64 ≥ 2 ^ (64 - 1)))=true then x % 2 ^ 64 - 2 ^ 64 else x % 2 ^ 64)=_
 simp
theorem Mm (a:Nat) (ha:a<18446744073709551616):bits .and .u64 (a:Int) 255=((a % 256:Nat):Int):=by
 show IntKind.u64.wrap ((BitVec.ofInt 64 (a:Int) &&& BitVec.ofInt 64 (255:Int)).toNat:Int)=_
 have h1:(BitVec.ofInt 64 (255:Int)).toNat=255:=by decide
 have h2:(BitVec.ofInt 64 (a:Int)).toNat=a:=by rw [BitVec.ofInt_natCast,BitVec.toNat_ofNat];exact Nat.mod_eq_of_lt (by omega)
 rw [BitVec.toNat_and,h1,h2,show a &&& 255=a % 256 from Nat.and_two_pow_sub_one_eq_mod a 8,AQ]
 have:=Nat.mod_lt a (show 0<256 by omega)
 omega
theorem nt (x:Int):0≤IntKind.u64.wrap x∧IntKind.u64.wrap x<18446744073709551616:=by
 rw [AQ];omega
theorem Ji (S:Int) (h0:0≤S) (h1:S<18446744073709551616):0≤wrap64 (bits .and .u64 (S / 1099511627776) 255)∧wrap64 (bits .and .u64 (S / 1099511627776) 255)≤255:=by
 obtain ⟨n,hn⟩:∃ n:Nat,S / 1099511627776=n:=⟨(S / 1099511627776).toNat,by omega⟩;rw [hn,Mm n (by omega)]
 have:=Nat.mod_lt n (show 0<256 by omega)
 unfold wrap64;omega
theorem CJ {w:World} {b n c p:Nat} {a:Option Addr} {sd:Int} (K:Blk w b [.slice a n c,.int .i64 p,.int .u64 sd] 108) (m k:Nat) (S:Int) (h0:0≤S) (h1:S<18446744073709551616) :
 Src ((((w.drewN m).setCell ⟨b,1,none⟩ (.int .i64 ((p:Int)+1))).setCell ⟨b,2,none⟩ (.int .u64 S)).drewN k) b a n c (p+1)∧w.grownBy ((((w.drewN m).setCell ⟨b,1,none⟩ (.int .i64 ((p:Int)+1))).setCell ⟨b,2,none⟩ (.int .u64 S)).drewN k) (some b):=by
 have K2:=(((K.drewN m).set 1 (.int .i64 ((p:Int)+1))).set 2 (.int .u64 S)).drewN k;simp only [List.set_cons_zero,List.set_cons_succ] at K2;refine ⟨⟨S,⟨h0,h1⟩,by simpa using K2⟩,?_⟩
 have g1:w.grownBy (w.drewN m) (some b):=⟨rfl,rfl,rfl,Nat.le_refl _,fun _ _ _=>rfl⟩
 have st:∀ (v:World) (j:Nat) (u:Value),v.grownBy (v.setCell ⟨b,j,none⟩ u) (some b):=fun v j u=>⟨rfl,rfl,rfl,by simp,fun i _ hi=>Below.heap_setCell _ _ _ _ (fun e=>hi (by simp [e]))⟩
 have g2:=fW (fW g1 (st _ 1 (.int .i64 ((p:Int)+1)))) (st _ 2 (.int .u64 S));exact fW g2 ⟨rfl,rfl,rfl,Nat.le_refl _,fun _ _ _=>rfl⟩
theorem JP (w:World) (b:Nat) (a:Option Addr) (xs:List Int) (c p:Nat) (h:Src w b a xs.length c p) (hr:Rd w w.heap.size a (ki xs)) (hx:∀ x∈xs,0≤x∧x≤255) (hl:xs.length≤1048576) (hp:p≤1000000) :
 Calls Tryz.prog 59 #[.pointer (some ⟨b,0,none⟩)] w fun e w'=>∃ x,e=.returned (.int .i64 x)∧(0≤x∧x≤255)∧Src w' b a xs.length c (p+1)∧w.grownBy w' (some b):=by
 obtain ⟨sd,⟨sd0,sd1⟩,K⟩:=h;have c0:=K.cell 0;have c1:=K.cell 1;have c2:=K.cell 2;have f0:=K.free 0;have f1:=K.free 1;have f2:=K.free 2;simp only [List.getElem?_cons_zero,List.getElem?_cons_succ] at c0 c1 c2
 by_cases hlt:p<xs.length
 · obtain ⟨g,o,rfl,hg,hc⟩:=hr.atB hlt
   have ck:=hc p hlt;have hxk:=hx (xs.getD p 0) (by simp only [List.getD,List.getElem?_eq_getElem hlt];exact List.getElem_mem _)
   generalize xs.getD p 0=y at *
   obtain ⟨y0,y1⟩:=hxk;clear hr hc hx
   go_enter Tryz.func59,Tryz.ntmps59;go_wp2_with fail
   go_quiet (fail)
   go_wp2_with fail
   go_quiet (fail)
   go_wp2_with fail
   go_quiet (fail)
   go_wp2_with fail;go_ret;exact ⟨_,rfl,⟨y0,y1⟩,CJ K _ _ _ (nt _).1 (nt _).2⟩
 · clear hr hx
   go_enter Tryz.func59,Tryz.ntmps59;go_wp2_with fail
   go_quiet (fail)
   go_wp2_with fail
   go_quiet (fail)
   go_wp2_with fail;go_ret;exact ⟨_,rfl,Ji _ (nt _).1 (nt _).2,CJ K _ _ _ (nt _).1 (nt _).2⟩
theorem IL (w:World) (b:Nat) (a:Option Addr) (xs:List Int) (c p:Nat) (n:Int) (h:Src w b a xs.length c p) (hr:Rd w w.heap.size a (ki xs)) (hx:∀ x∈xs,0≤x∧x≤255) (hl:xs.length≤1048576) (hp:p≤900000) (hn:n≤200) :
 Calls Tryz.prog 28 #[.pointer (some ⟨b,0,none⟩),.int .i64 n] w fun e w'=>∃ (x:Int) (p':Nat),e=.returned (.int .i64 x)∧(0≤x∧(x<n∨x=0))∧p'≤p+1∧Src w' b a xs.length c p'∧w.grownBy w' (some b):=by
 by_cases h1:n≤1
 · clear hr hx
   go_enter Tryz.func28,Tryz.ntmps28;go_wp2_with fail;go_ret;exact ⟨0,p,rfl,⟨by omega,.inr rfl⟩,by omega,h,World.grownBy.refl _ _⟩
 · have L:=Na (JP w b a xs c p h hr hx hl (by omega))
   clear h hr hx
   go_enter Tryz.func28,Tryz.ntmps28;go_wp2_with fail;refine L.out.mono ?_;rintro e w1 ⟨x,rfl,⟨x0,x1⟩,hs,hg⟩;have hm0:=Int.emod_nonneg x (show n≠0 by omega)
   have hm1:=Int.emod_lt_of_pos x (show 0<n by omega)
   go_wp2_with fail;go_ret;exact ⟨x % n,p+1,rfl,⟨hm0,.inl hm1⟩,by omega,hs,hg⟩
def qu (xs ys:List Int):Bool:=decide (48<xs.length) || decide (48<ys.length)
theorem Ek (w:World) (a b:Option Addr) (c d:Nat) (xs ys:List Int) (hl:xs.length≤9223372036854775807) (hm:ys.length≤9223372036854775807) :
 Calls Tryz.prog 5 #[.slice a xs.length c,.slice b ys.length d] w fun e w'=>e=.returned (.bool (qu xs ys))∧w=w':=by
 cases h1:decide ((48:Int)<(xs.length:Int)) with
 | true =>
   have HF:Hid (qu xs ys=true):=by
    have:=of_decide_eq_true h1;have h:48<xs.length:=by omega
    simp [Hid,qu,h]
   go_enter Tryz.func5,Tryz.ntmps5;go_wp2_with fail;go_ret;exact ⟨av HF.out.symm,rfl⟩
 | false =>
   have HF:Hid (qu xs ys=decide ((48:Int)<(ys.length:Int))):=by
    have:=of_decide_eq_false h1;have h:¬ 48<xs.length:=by omega
    show _=_
    unfold qu;rw [decide_eq_false h,Bool.false_or];exact decide_eq_decide.2 (by omega)
   go_enter Tryz.func5,Tryz.ntmps5;go_wp2_with fail;go_ret;exact ⟨av HF.out.symm,rfl⟩
theorem cx {w w':World} {g:Nat} (h:Touch w w' g (g+1)):w.grownBy w' (some g) :=
 ⟨h.os,h.tape,h.output,h.size,fun q hq hne=>h.block q hq (by have:q≠g:=fun e=>hne (by rw [e]);omega)⟩
theorem jE {w w1 w2:World} {lo hi:Nat} (h:Touch w w1 lo hi) (hb:Below w.heap.size w1 w2):Touch w w2 lo hi :=
 ⟨hb.os.trans h.os,hb.tape.trans h.tape,hb.output.trans h.output,Nat.le_trans h.size hb.size,fun k hk hd=>(hb.block k hk).trans (h.block k hk hd)⟩
structure DS (w:World) (B0 b:Nat) (a:Option Addr) (xs:List Int) (c p:Nat):Prop where
 S:Src w b a xs.length c p
 R:Rd w B0 a (ki xs)
 lb:B0≤b
 hx:∀ x∈xs,0≤x∧x≤255
 hl:xs.length≤1048576
section
variable {w w':World} {B0 b c p:Nat} {a:Option Addr} {xs:List Int}
theorem DS.lt (h:DS w B0 b a xs c p):b<w.heap.size:=by obtain ⟨s,_,k⟩:=h.S;exact k.lt
theorem DS.same (h:DS w B0 b a xs c p) (hb:Below w.heap.size w w'):DS w' B0 b a xs c p :=
 ⟨h.S.same hb,h.R.below hb (by have:=h.lt;have:=h.lb;omega),h.lb,h.hx,h.hl⟩
theorem DS.touch {lo hi:Nat} (h:DS w B0 b a xs c p) (ht:Touch w w' lo hi) (hlo:b<lo):DS w' B0 b a xs c p:=by
 have:=h.lt;have:=h.lb;obtain ⟨s,h1,h2⟩:=h.S;exact ⟨⟨s,h1,h2.touch ht (.inl hlo)⟩,h.R.touch ht (by omega) (by omega),h.lb,h.hx,h.hl⟩
theorem em {B:Nat} (h:Below B w w'):Touch w w' B w.heap.size:=⟨h.os,h.tape,h.output,h.size,fun k hk hd=>h.block k (by omega)⟩
theorem oD {g:Nat} (h:w.grownBy w' (some g)):Touch w w' g (g+1):=Touch.of_grown h (Nat.le_refl _) (Nat.lt_succ_self _)
end
theorem dp (w:World) (B0 b:Nat) (a:Option Addr) (xs:List Int) (c p:Nat) (n:Int) (h:DS w B0 b a xs c p) (hp:p≤900000) (hn:n≤200) :
 Calls Tryz.prog 28 #[.pointer (some ⟨b,0,none⟩),.int .i64 n] w fun e w'=>∃ (x:Int) (p':Nat),e=.returned (.int .i64 x)∧(0≤x∧(x<n∨x=0))∧p'≤p+1∧DS w' B0 b a xs c p'∧Touch w w' b (b+1):=by
 have hlt:=h.lt;refine (IL w b a xs c p n h.S (h.R.mono (by have:=h.lb;omega)) h.hx h.hl hp hn).mono ?_
 rintro e w' ⟨x,p',rfl,hx,hp',hs,hg⟩;exact ⟨x,p',rfl,hx,hp',⟨hs,h.R.grown hg h.lb (by have:=h.lb;omega),h.lb,h.hx,h.hl⟩,oD hg⟩
theorem rE {P:Program} (wr:World) {ops:Array Oper} {rest:List Oper} {o:Oper} {a:Act} {Q:Exit→Act→World→Prop}
 (hg:o.guard=none) (s x:Operand) (t:TypeId) (hop:o.op=Op.call { callee:=Callee.builtin Builtin.append,args:=#[s,x],argTypes:=#[t,t] })
 (base:Nat) (e:TypeId) (z:Value) (bytes:Nat) (h1:P.underlying t=some (.slice e)) (hinfo:(P.info? e).map (fun i=>(i.zero,i.size,i.bytes))=some (some z,1,bytes)) (hz:z.cells.size=1)
 (v:Value) (n:Nat) (xs:List Int) (hs:a.eval s=v) (hown:wr.ownsRow base e 1 v n (ae xs)) (b off m c:Nat) (ys:List Int) (hx:a.eval x=.slice (some ⟨b,off,none⟩) m c) (hm:ys.length=m)
 (hcell:∀ j,j<m→wr.cell? ⟨b,off+j,none⟩=some (.int .i64 (ys.getD j 0))) (hb:bytes≤64) (hn:n+m≤1099511627776) (hbase:base≤wr.heap.size)
 (hK:∀ v' w',w'.ownsRow base e 1 v' (n+m) (ae (xs ++ ys))→wr.grownBy w' v.ownBlock→wpList P ops Q rest (a.put o.dst v') w') :
 wpList P ops Q (o :: rest) a wr:=by
 obtain ⟨i,h2,h3,h4,h5⟩:=info_parts hinfo;have hbb:(n+m) * bytes≤140737488355328:=Nat.le_trans (Nat.mul_le_mul_left (n+m) hb) (by omega)
 refine wpList_append_own wr hg s x t hop base e i z 1 bytes h1 h2 h3 h4 h5 hz (by omega) v n (ae xs) hs hown ⟨b,off,none⟩ m c (ae ys) hx (by simp;omega) ?_ ?_ (by unfold maxLen;omega) hbb hbase (fun v' w' ho hgr _=>hK v' w' (by rw [bh];exact ho) hgr)
 · intro j u hj
   have hj':j<m:=by have:=(List.getElem?_eq_some_iff.1 hj).1;simp at this;omega
   have ea:(⟨b,off,none⟩:Addr).add j=⟨b,off+j,none⟩:=by unfold Addr.add;split <;> simp_all
   rw [ea,hcell j hj',← hj,ex _ _ (by omega)]
 · intro u hu
   obtain ⟨x,_,rfl⟩:=List.mem_map.1 hu
   rfl
theorem kZ (w:World) (e:Nat):(w.alloc (.cells #[] e)).ownsRow w.heap.size e 1 (.slice (some ⟨w.heap.size,0,none⟩) 0 0) 0 (ae []):=bD w e
theorem ej (w:World) (a:Option Addr) (c:Nat) (xs:List Int) (h:Rd w w.heap.size a (ae xs)) (hl1:1≤xs.length) (hl:xs.length≤1048576) :
 Calls Tryz.prog 69 #[.slice a xs.length c] w fun e w'=>∃ a' c',e=.returned (.slice a' xs.length c')∧OwnI 2 w' w.heap.size w'.heap.size a' c' xs∧Below w.heap.size w w':=by
 obtain ⟨b,o,rfl,hb,hcell⟩:=h.at (k:=0) (by omega)
 clear h;have hen:=fun (w:World) (a:Option Addr) (n c:Nat)=>Lib.run_eql_slice_nil (P:=Tryz.prog) w 24 2 a n c 0 0 Tryz.underlying24
 go_enter Tryz.func69,Tryz.ntmps69
 go_wp2_with (at_builtin;refine rE _ rfl _ _ 24 rfl w.heap.size 2 (.int .i64 0) 8 Tryz.underlying24 aU rfl _ 0 [] rfl (kZ w 2) b o xs.length c xs rfl rfl ?_ (by omega) (by omega) (by simp) ?_)
 · intro j hj
   rw [(ah w _).cell (p:=⟨b,o+j,none⟩) hb,hcell j hj]
 intro v1 w1 o1 g1;have B1:=ai (ah w (.cells #[] 2)) (kZ w 2) g1 (Nat.le_refl _) (by simp)
 obtain ⟨a1,c1,rfl,_,_⟩:=bj o1;have HR:Hid (OwnI 2 w1 w.heap.size w1.heap.size a1 c1 xs):=OwnI.of_own (by simpa using o1)
 clear o1 g1 hcell;go_wp2_with fail;go_ret;exact ⟨_,_,by simp,HR.out,B1⟩
section
variable {T T2 lo hi c:Nat} {w w':World} {a:Option Addr} {yss:List (List Int)}
end
section
open Go.ChangeShapes Go.WideShapes
end
section
variable {w w':World} {B C lo hi:Nat} {a0:Option Addr} {x0:List (List Int)} {a1:Option Addr} {x1:List (List Int)} {c0:Nat} {c1:Nat}
end
end Go.Proofs.YtbknhgapjjaelaaGreatDoor
