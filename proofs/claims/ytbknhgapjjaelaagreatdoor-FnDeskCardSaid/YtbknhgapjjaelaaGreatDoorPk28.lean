/-
  Part 28 of what the proof stands on: lemmas and contracts, each with its conditions ahead of the colon.
-/
import Derived.Test.YtbknhgapjjaelaaGreatDoorPk01
import Derived.Deep.RegionHeld3
import Derived.Laws.FloatArith
import Derived.Test.YtbknhgapjjaelaaGreatDoorPk07
import Derived.Test.YtbknhgapjjaelaaGreatDoorPk08
import Derived.Test.YtbknhgapjjaelaaGreatDoorPk20
import Derived.Test.YtbknhgapjjaelaaGreatDoorPk27
set_option maxRecDepth 10000
set_option maxHeartbeats 8000000
namespace Go.Proofs.YtbknhgapjjaelaaGreatDoor
set_option linter.unusedVariables false
set_option linter.unusedSimpArgs false
open Go.RowKit
theorem Lx (w:World) (P T:Nat) (aV:Option Addr) (cV:Nat) (xV:List Int) (aO:Option Addr) (cO:Nat) (ow:List Int) (hV:Rd w w.heap.size aV (ae xV)) (hO:Rd w w.heap.size aO (ae ow)) (lV:xV.length=P * T) (lO:ow.length=T) (hb:∀ x∈xV,0≤x∧x≤1000) (hP:P≤6) (hT:T≤8) :
 Calls Tryz.prog 224 #[.agg #[.int .i64 P,.int .i64 T,.slice aV xV.length cV],.slice aO ow.length cO] w fun e w'=>∃ a c,e=.returned (.slice a P c)∧Rd w' w'.heap.size a (ae (gr T xV ow P))∧Below w.heap.size w w':=by
 have KG:=Blk.new w [.int .i64 P,.int .i64 T,.slice aV xV.length cV] 28;have B1:=ah w (.cells #[.int .i64 P,.int .i64 T,.slice aV xV.length cV] 28);have LP:=Na (fun v (hbl:Below w.heap.size w v) i (hi:i<P)=>ut v P T i (i:Int) aV cV xV aO cO ow (hV.to hbl) (hO.to hbl) lV lO hb hP hT hi)
 have FS:=Na (fun n=>G5 T xV ow n)
 have FL:=Na (fun n=>ua T xV ow n)
 have F0:Hid (gr T xV ow 0=[]):=rfl;obtain ⟨w3,hw3⟩:∃ X,X=(w.alloc (.cells #[.int .i64 P,.int .i64 T,.slice aV xV.length cV] 28)).alloc (.cells #[] 2):=⟨_,rfl⟩;have HO3:Hid (w3.ownsRow (w.heap.size+1) 2 1 (.slice (some ⟨w.heap.size+1,0,none⟩) 0 0) 0 []):=by
  rw [hw3];have:=bJ (bD (w.alloc (.cells #[.int .i64 P,.int .i64 T,.slice aV xV.length cV] 28)) 2) (show w.heap.size+1≤_ by rw [World.size_alloc];exact Nat.le_refl _)
  simpa [Hid] using this
 have KG3:Hid (Blk w3 w.heap.size [.int .i64 P,.int .i64 T,.slice aV xV.length cV] 28):=by rw [hw3];exact KG.alloc _
 have B3:Hid (Below w.heap.size w w3):=by rw [hw3];exact aa B1 (ah _ _)
 have hs3:w.heap.size+1≤w3.heap.size:=by rw [hw3];simp
 have q0:w3.cell? ⟨w.heap.size,0,none⟩=some (.int .i64 P):=KG3.out.cell 0;rw [hw3] at q0;clear hV hO lV lO hb KG B1
 go_enter Tryz.func224,Tryz.ntmps224;go_wp2_with fail;rw [← hw3];clear q0 hw3
 go_loopw [10,5] (fun iv ov wr=>∃ (i:Nat) (v:Value),i≤P∧iv=.int .i64 i∧ov=v∧Hid (wr.ownsRow (w.heap.size+1) 2 1 v (gr T xV ow i).length (ae (gr T xV ow i)))∧Hid (Below (w.heap.size+1) w3 wr)) (fun iv _ _=>P - (intOf iv).toNat)
 case atStart=>exact ⟨0,_,Nat.zero_le _,rfl,rfl,(by rw [Hid,F0.out];exact HO3.out),Below.refl _ _⟩
 case round =>
  clear HO3;obtain ⟨i,v,hi,rfl,rfl,ho,hw⟩:=hrel;have i0:(0:Int)≤(i:Int):=Int.natCast_nonneg _
  by_cases hlt:i<P
  · have hii:(i:Int)<(P:Int):=by omega
    have HST:=Na (FS.out i);have hln:=Nat.le_of_eq (FL.out i);have K:=KG3.out.below hw.out (by omega)
    have q0:wr.cell? ⟨w.heap.size,0,none⟩=some (.int .i64 P):=K.cell 0;have q1:wr.cell? ⟨w.heap.size,1,none⟩=some (.int .i64 T):=K.cell 1;have q2:wr.cell? ⟨w.heap.size,2,none⟩=some (.slice aV xV.length cV):=K.cell 2;have hsz:w.heap.size+1≤wr.heap.size:=by have:=hw.out.size;omega
    have LE1:=Na (LP.out wr (B3.out.trans (hw.out.mono (by omega))) i hlt)
    obtain ⟨s,hs'⟩:∃ s,s=fD T xV ow i (i:Int):=⟨_,rfl⟩;rw [← hs'] at LE1 HST;clear hs' K;go_wp2_with fail;refine LE1.out.mono ?_;rintro e w4 ⟨rfl,hb4⟩;have hW4:=Na (hw.out.trans (hb4.mono hsz));have hO4:=Na (aG ho.out hb4);have hsz4:w.heap.size+1≤w4.heap.size:=by have:=hb4.size;omega
    clear hb4 q0 q1 q2 LE1 ho hw
    go_wp2_with (at_builtin;refine aP _ rfl _ _ 24 rfl (w.heap.size+1) 2 (.int .i64 0) 8 Tryz.underlying24 aU rfl _ _ _ rfl hO4.out (.int .i64 s) rfl rfl (by omega) (by omega) hsz4 ?_)
    intro v8 w8 o8 g8 n8;have H8:Hid (w8.ownsRow (w.heap.size+1) 2 1 v8 (gr T xV ow (i+1)).length (ae (gr T xV ow (i+1)))):=by
     rw [Hid,HST.out,bh,List.length_append];exact o8
    have B8:=Na (ai hW4.out hO4.out g8 (Nat.le_refl _) hsz4);clear o8 g8 n8;go_wp2_with fail;go_roundw
    case rel=>exact ⟨i+1,v8,by omega,by go_num,rfl,H8,B8⟩
    case measure=>simp [intOf];omega
  · obtain rfl:i=P:=by omega
    obtain ⟨a',c',e',hcap,_⟩:=bj ho.out;subst e';have HRd:=Na (ay ho.out (Nat.le_refl _));have BZ:=Na (B3.out.trans (hw.out.mono (by omega)))
    have hl:=FL.out i;clear ho hcap;go_wp2_with fail;go_ret;exact ⟨a',c',by rw [hl];rfl,HRd.out,BZ.out⟩
theorem Ks:jc=1000000000000:=rfl
theorem yj (w:World) (a:Option Addr) (c:Nat) (l:List Int) (h:Rd w w.heap.size a (ae l)) (hl:l.length≤8) (hb:∀ x∈l,0≤x∧x≤8000) :
 Calls Tryz.prog 180 #[.slice a l.length c] w fun e w'=>e=.returned (.int .i64 (jN l))∧w'=w:=by
 have LC:=Na (ga w a c l 0 h (by omega))
 have HP:Hid (jN l=if bF l 0 then 0 else fE l 1):=rfl
 cases hc:bF l 0 with
 | true =>
   rw [hc] at LC HP;rw [if_pos rfl] at HP;clear h hb hc
   go_enter Tryz.func180,Tryz.ntmps180;go_wp2_with fail;refine LC.out.mono ?_;rintro e w1 ⟨rfl,rfl⟩;go_wp2_with fail;go_ret;exact ⟨ce HP.out.symm,rfl⟩
 | false =>
   rw [hc] at LC HP;rw [if_neg (by decide)] at HP
   have HB:=Na (fun k=>A3 (l:=l.take k) (fun x hx=>(hb x (List.mem_of_mem_take hx)).1) 1 (by omega) (by unfold jc;omega))
   have HS:=Na (fun k x (hx:l[k]? = some x)=>Ep hx 1)
   have HX:=Na (fun k x (hx:l[k]? = some x)=>hb x (List.mem_of_getElem? hx))
   have H0:Hid (fE (l.take 0) 1=1):=rfl;have HE:Hid (fE (l.take l.length) 1=fE l 1):=by rw [Hid,List.take_length]
   have HR:=Na h;clear h hb hc
   go_enter Tryz.func180,Tryz.ntmps180;go_wp2_with fail;refine LC.out.mono ?_;rintro e w1 ⟨rfl,rfl⟩;go_wp2_with fail
   go_loopw [3,10] (fun pv iv wr=>∃ k:Nat,k≤l.length∧iv=.int .i64 k∧pv=.int .i64 (fE (l.take k) 1)∧w=wr) (fun _ iv _=>l.length - (intOf iv).toNat)
   case atStart=>exact ⟨0,Nat.zero_le _,rfl,by rw [H0.out],by first | trivial | rfl⟩
   case round =>
    obtain ⟨k,hk,rfl,rfl,rfl⟩:=hrel;have k0:(0:Int)≤(k:Int):=Int.natCast_nonneg _
    by_cases hlt:k<l.length
    · have k1:(k:Int)<(l.length:Int):=by omega
      obtain ⟨b,o,x,rfl,hbb,hck,hx⟩:=HR.out.get hlt;obtain ⟨x0,x1⟩:=HX.out k x hx.out;obtain ⟨p0,p1⟩:=HB.out k;rw [Ks] at p1;have HN:Hid (fE (l.take (k+1)) 1=min (fE (l.take k) 1 * x) (1000000000000+1)):=HS.out k x hx.out;generalize fE (l.take k) 1=p at *
      have m0:0≤p * x:=Int.mul_nonneg p0 x0;have m1:p * x≤1000000000001 * 8000:=Int.mul_le_mul p1 x1 x0 (by omega)
      clear hx;go_wp2_with fail;go_roundw
      case rel=>exact ⟨k+1,by omega,by go_num,by rw [HN.out];congr 1 <;> split <;> omega,by first | trivial | rfl⟩
      case measure=>simp [intOf];omega
    · obtain rfl:k=l.length:=by omega
      rw [HE.out];go_wp2_with fail;go_ret;exact ⟨ce HP.out.symm,rfl⟩
structure GS (W:World) (base:Nat) (cs:List Value) (s:dQ) (w:World):Prop where
 cr:Blk w W.heap.size cs 28
 fn:Blk w (W.heap.size+1) [.func (.func 180) #[] #[]] 223
 be:∃ v,Blk w (W.heap.size+2) [v] 24∧BestV w base s v
 mo:Blk w (W.heap.size+3) [.int .i64 (rK s)] 2
 bel:Below W.heap.size W w
section
variable {W:World} {base:Nat} {cs:List Value} {s:dQ} {w w':World}
theorem GS.keep (h:GS W base cs s w) (hb:Below w.heap.size w w'):GS W base cs s w':=by
 obtain ⟨v,hv,hbv⟩:=h.be;exact ⟨h.cr.same hb,h.fn.same hb,⟨v,hv.same hb,hbv.keep (dh hb none) (fun k hk=>by cases hk)⟩,h.mo.same hb,h.bel.trans (hb.mono h.bel.size)⟩
theorem GS.frame (h:GS W base cs s w) (hg:w.grownBy w' (some (base+1))) (hb:W.heap.size+4≤base):GS W base cs s w':=by
 obtain ⟨v,hv,hbv⟩:=h.be;exact ⟨h.cr.grown hg (by intro e;injection e;omega),h.fn.grown hg (by intro e;injection e;omega),⟨v,hv.grown hg (by intro e;injection e;omega),hbv.keep hg (fun k hk=>by injection hk;omega)⟩,h.mo.grown hg (by intro e;injection e;omega),h.bel.grown hg h.bel.size (fun q hq=>by injection hq with hq;omega)⟩
theorem GS.store (h:GS W base cs s w) (hb:W.heap.size+4≤base) {a:Option Addr} {c:Nat} {l:List Int} (h0:0<l.length) (ho:w.ownsRow (base+2) 2 1 (.slice a l.length c) l.length (ae l)) (t:Int) :
 GS W base cs (some (l,t)) ((w.setCell ⟨W.heap.size+2,0,none⟩ (.slice a l.length c)).setCell ⟨W.heap.size+3,0,none⟩ (.int .i64 t)):=by
 obtain ⟨v,hv,hbv⟩:=h.be;refine ⟨(h.cr.oth (by omega) _ _).oth (by omega) _ _,(h.fn.oth (by omega) _ _).oth (by omega) _ _,⟨.slice a l.length c,(hv.set 0 _).oth (by omega) _ _,h0,a,c,rfl,?_⟩,(h.mo.oth (g:=W.heap.size+2) (by omega) _ _).set 0 _,aj (aj h.bel (by omega) _ _) (by omega) _ _⟩
 have hne:∀ q,q<base+2→some q≠(Value.slice a l.length c).ownBlock:=fun q hq e=>by
  have:=(ho.lt q e.symm).1;omega
 have k1:=ho.kept (cI w (W.heap.size+2) 0 (.slice a l.length c)) (.inr (fun e=>hne _ (by omega) e.symm))
 exact k1.kept (cI _ (W.heap.size+3) 0 (.int .i64 t)) (.inr (fun e=>hne _ (by omega) e.symm))
end
theorem Bp (args:Array Value) (w:World):(callFunc 223 args).run Tryz.prog w=.ok (.enter 223 args) w:=by kernel_rfl
theorem Fh (args:Array Value) (w:World):(callFunc 180 args).run Tryz.prog w=.ok (.enter 180 args) w:=by kernel_rfl
theorem Fc (W:World) (base:Nat) (P T:Nat) (aV:Option Addr) (cV:Nat) (xV:List Int) (h0:Rd W W.heap.size aV (ae xV)) (hB:W.heap.size+4≤base) (lV:xV.length=P * T) (p6:P≤6) (t1:1≤T) (t8:T≤8) (hbV:∀ x∈xV,0≤x∧x≤1000)
 (s:dQ) (ch:List Int) (w:World) (c:Nat) (hs:GS W base [.int .i64 P,.int .i64 T,.slice aV xV.length cV] s w) (hw:base+2≤w.heap.size) (hch:ch.length=T) (g:Rd w w.heap.size (some ⟨base+1,0,none⟩) (ae ch)) :
 Calls Tryz.prog 223 #[.slice (some ⟨base+1,0,none⟩) ch.length c,.pointer (some ⟨W.heap.size+1,0,none⟩),.pointer (some ⟨W.heap.size,0,none⟩),.pointer (some ⟨W.heap.size+2,0,none⟩),.pointer (some ⟨W.heap.size+3,0,none⟩)] w
  fun e w'=>e=.returned (.tuple #[])∧GS W base [.int .i64 P,.int .i64 T,.slice aV xV.length cV] (jZ P T xV ch s) w'∧Touch w w' 0 base:=by
 have hU1:1≤ch.length:=by omega
 have hU8:ch.length≤8:=by omega
 have hR:Rd w w.heap.size aV (ae xV):=(h0.below hs.bel (Nat.le_refl _)).mono hs.bel.size;have LO:=Na (fun w' (hb:Below w.heap.size w w')=>Lx w' P T aV cV xV (some ⟨base+1,0,none⟩) c ch (hR.to hb) (g.to hb) lV hch hbV p6 t8)
 have LPr:=Na (fun w' a cc (hr:Rd w' w'.heap.size a (ae (gr T xV ch P)))=>yj w' a cc (gr T xV ch P) hr (by rw [ua];omega) (CY hbV t8 P))
 rw [ua] at LPr;have LCl:=Na (fun w' hb=>ej w' (some ⟨base+1,0,none⟩) c ch (g.to hb) hU1 (by omega))
 have hen:=fun (w:World) (a:Option Addr) (n c:Nat)=>Lib.run_eql_slice_nil (P:=Tryz.prog) w 24 2 a n c 0 0 Tryz.underlying24
 have HS:=Na hs;have HJ:Hid (∀ v,Below w.heap.size w v→v.cell? ⟨W.heap.size,0,none⟩=some (.int .i64 P)∧v.cell? ⟨W.heap.size,1,none⟩=some (.int .i64 T)∧v.cell? ⟨W.heap.size,2,none⟩=some (.slice aV xV.length cV)∧v.cell? ⟨W.heap.size+1,0,none⟩=some (.func (.func 180) #[] #[])):=fun v hb=>⟨(hs.cr.same hb).cell 0,(hs.cr.same hb).cell 1,(hs.cr.same hb).cell 2,(hs.fn.same hb).cell 0⟩
 obtain ⟨q0,q1,q2,q3⟩:=HJ.out w (Below.refl _ _);have HD:=Na (au (Below.refl w.heap.size w));have LO1:=Na (LO.out _ HD.out);have Hdf:Hid (∀ s',jZ P T xV ch s'=match s' with
  | none=>some (ch,jN (gr T xV ch P))
  | some (b,m)=>if m<jN (gr T xV ch P) then some (ch,jN (gr T xV ch P)) else some (b,m)):=fun s'=>by cases s' <;> rfl
 clear hs h0 hR g hch lV;generalize hst:jZ P T xV ch=ws at *
 clear hst;generalize gr T xV ch P=ol at *
 generalize jN ol=tt at *
 have hN:Hid (ws none=some (ch,tt)):=by show _=_;rw [Hdf.out]
 have hY:Hid (∀ b m,m<tt→ws (some (b,m))=some (ch,tt)):=fun b m hm=>by rw [Hdf.out];simp [hm]
 have hZ:Hid (∀ b m,¬ m<tt→ws (some (b,m))=some (b,m)):=fun b m hm=>by rw [Hdf.out];simp [hm]
 clear Hdf;have HC:Hid (∀ s' w1,GS W base [.int .i64 P,.int .i64 T,.slice aV xV.length cV] s' w1→ws s'=some (ch,tt)→Below w.heap.size w w1→∀ a1 c1,w1.ownsRow (base+2) 2 1 (.slice a1 ch.length c1) ch.length (ae ch) →
  GS W base [.int .i64 P,.int .i64 T,.slice aV xV.length cV] (ws s') ((w1.setCell ⟨W.heap.size+2,0,none⟩ (.slice a1 ch.length c1)).setCell ⟨W.heap.size+3,0,none⟩ (.int .i64 tt))∧Touch w ((w1.setCell ⟨W.heap.size+2,0,none⟩ (.slice a1 ch.length c1)).setCell ⟨W.heap.size+3,0,none⟩ (.int .i64 tt)) 0 base):=fun s' w1 hs' he hb a1 c1 ho=>by
  rw [he];exact ⟨hs'.store hB (by omega) ho tt,ma hb (by omega) (by omega) _ _⟩
 have hEP:=Fh
 go_enter Tryz.func223,Tryz.ntmps223;go_wp2_with fail
 go_region_held3 (fun w'=>w'.cell? ⟨W.heap.size,0,none⟩=some (.int .i64 P)∧w'.cell? ⟨W.heap.size,1,none⟩=some (.int .i64 T)∧w'.cell? ⟨W.heap.size,2,none⟩=some (.slice aV xV.length cV)∧w'.cell? ⟨W.heap.size+1,0,none⟩=some (.func (.func 180) #[] #[]))
  (first | with_reducible exact HJ.out _ HD.out | with_reducible exact HJ.out _ hBA.out)
  (first | (go_at_call 224;with_reducible refine (LO1.out).mono ?_;rintro e wA ⟨aX,cX,rfl,oX,hbA⟩;have hBA:=Na (aa HD.out hbA);have LP1:=Na (LPr.out wA aX cX oX)) | (go_at_call 180;with_reducible refine (LP1.out).mono ?_;rintro e wB ⟨rfl,rfl⟩))
 all_goals
  have B2:=Na hBA.out;clear hbA hBA HD HJ LO LO1 LPr oX LP1 q0 q1 q2 q3;have HS2:=Na (HS.out.keep B2.out);obtain ⟨v,hv,hbv⟩:=HS2.out.be;have e2:wB.cell? ⟨W.heap.size+3,0,none⟩=some (.int .i64 (rK s)):=HS2.out.mo.cell 0;have e1:wB.cell? ⟨W.heap.size+2,0,none⟩=some v:=hv.cell 0;clear hv HS
  cases s with
  | none =>
    have hv0:v=.slice none 0 0:=hbv;subst hv0;clear hbv;have e2':wB.cell? ⟨W.heap.size+3,0,none⟩=some (.int .i64 0):=e2;clear e2;go_wp2_with fail;refine (LCl.out _ B2.out).mono ?_;rintro e w3 ⟨a1,c1,rfl,o3,hb3⟩;have B3:=aa B2.out hb3;have HS3:=HS2.out.keep hb3;obtain ⟨v,hv,hbv⟩:=HS3.be;have f1:=hv.free 0;have f2:=HS3.mo.free 0;have g1:=hv.cell 0;have g2:=HS3.mo.cell 0;simp only [List.getElem?_cons_zero] at g1 g2;have HF:=Na (HC.out none w3 HS3 hN.out B3 a1 c1 (bJ o3.1 (by have:=B2.out.size;omega)))
    clear o3 hb3 B3 HS3 hv hbv HS2 LCl;go_wp2_with fail
    go_end0
    exact ⟨rfl,HF.out⟩
  | some p =>
    obtain ⟨bl,m⟩:=p;obtain ⟨hbl,a',c',rfl,hob⟩:=hbv;obtain ⟨g',rfl⟩:=im hob hbl;have e2':wB.cell? ⟨W.heap.size+3,0,none⟩=some (.int .i64 m):=e2;clear e2 hob
    by_cases hm:m<tt
    · go_wp2_with fail
      refine (LCl.out _ B2.out).mono ?_;rintro e w3 ⟨a1,c1,rfl,o3,hb3⟩;have B3:=aa B2.out hb3;have HS3:=HS2.out.keep hb3;obtain ⟨v,hv,hbv⟩:=HS3.be;have f1:=hv.free 0;have f2:=HS3.mo.free 0;have g1:=hv.cell 0;have g2:=HS3.mo.cell 0;simp only [List.getElem?_cons_zero] at g1 g2;have HF:=Na (HC.out (some (bl,m)) w3 HS3 (hY.out bl m hm) B3 a1 c1 (bJ o3.1 (by have:=B2.out.size;omega)))
      clear o3 hb3 B3 HS3 hv hbv HS2 LCl e1 e2';go_wp2_with fail
      go_end0
      exact ⟨rfl,HF.out⟩
    · have HF:Hid (GS W base [.int .i64 P,.int .i64 T,.slice aV xV.length cV] (ws (some (bl,m))) wB∧Touch w wB 0 base):=by
        rw [hZ.out bl m (by omega)];exact ⟨HS2.out,Below.touch B2.out 0 base⟩
      clear HS2;go_wp2_with fail
      first | go_end0 | (refine bodyPost_ret (results_none rfl _ _ _) rfl ?_)
      exact ⟨rfl,HF.out⟩
theorem Mx (w:World) (o1 o2 o3 o4:Obj):Below w.heap.size w ((((w.alloc o1).alloc o2).alloc o3).alloc o4):=aa (tJ w o1 o2 o3) (ah _ _)
theorem GS.ret {W:World} {base:Nat} {cs:List Value} {l:List Int} {m:Int} {w:World} (h:GS W base cs (some (l,m)) w) (hb:W.heap.size≤base) :
 ∃ g c,w.cell? ⟨W.heap.size+2,0,none⟩=some (.slice (some ⟨g,0,none⟩) l.length c)∧w.cell? ⟨W.heap.size+3,0,none⟩=some (.int .i64 m)∧RetT 2 W (some (l,m)) (.returned (.tuple #[.slice (some ⟨g,0,none⟩) l.length c,.int .i64 m,.bool true])) w:=by
 obtain ⟨v,hv,h0,a,c,rfl,ho⟩:=h.be;obtain ⟨g,rfl⟩:=im ho h0;exact ⟨g,c,hv.cell 0,h.mo.cell 0,h.bel,_,_,rfl,bJ ho (by omega)⟩
theorem GS.start {w w1:World} {cs:List Value} (hb:Below ((((w.alloc (.cells cs.toArray 28)).alloc (.cells #[.func (.func 180) #[] #[]] 223)).alloc (.cells #[.slice none 0 0] 24)).alloc (.cells #[.int .i64 0] 2)).heap.size ((((w.alloc (.cells cs.toArray 28)).alloc (.cells #[.func (.func 180) #[] #[]] 223)).alloc (.cells #[.slice none 0 0] 24)).alloc (.cells #[.int .i64 0] 2)) w1) :
 GS w w1.heap.size cs none w1∧w.heap.size+4≤w1.heap.size:=by
 have k0:=((((Blk.new w cs 28).alloc (.cells #[.func (.func 180) #[] #[]] 223)).alloc (.cells #[.slice none 0 0] 24)).alloc (.cells #[.int .i64 0] 2)).same hb;have kf:=(((Blk.new (w.alloc (.cells cs.toArray 28)) [.func (.func 180) #[] #[]] 223).alloc (.cells #[.slice none 0 0] 24)).alloc (.cells #[.int .i64 0] 2)).same hb;have k1:=((Blk.new ((w.alloc (.cells cs.toArray 28)).alloc (.cells #[.func (.func 180) #[] #[]] 223)) [.slice none 0 0] 24).alloc (.cells #[.int .i64 0] 2)).same hb;have k2:=(Blk.new (((w.alloc (.cells cs.toArray 28)).alloc (.cells #[.func (.func 180) #[] #[]] 223)).alloc (.cells #[.slice none 0 0] 24)) [.int .i64 0] 2).same hb;simp at kf k1 k2
 refine ⟨⟨k0,kf,⟨_,k1,rfl⟩,k2,aa (Mx _ _ _ _ _) hb⟩,?_⟩
 have:=hb.size;simp at this
 omega
def kH (P T:Nat) (xs:List Int):dQ:=if nP P T then kT P T xs (P ^ T) else none
theorem zm {P T t:Nat}:(cu P T t).length=T:=fH P T t
theorem zF (w:World) (P T:Nat) (aV:Option Addr) (cV:Nat) (xV:List Int) (hG:bu P T xV=true) (hV:Rd w w.heap.size aV (ae xV)) :
 Calls Tryz.prog 179 #[.agg #[.int .i64 P,.int .i64 T,.slice aV xV.length cV],.func (.func 180) #[] #[]] w (RetT 2 w (kH P T xV)):=by
 have hG':=hG;obtain ⟨P',T',e1,e2,p1,p6,t1,t8,lV,hb⟩:=cq hG';obtain rfl:P=P':=Int.ofNat.inj e1;obtain rfl:T=T':=Int.ofNat.inj e2;have hPT:P * T≤48:=Nat.le_trans (Nat.mul_le_mul p6 t8) (by decide)
 have LV:=Na (fun v (hbl:Below w.heap.size w v)=>eo v P T aV cV xV (hV.to hbl) (by omega))
 rw [hG] at LV;have LP:Hid (∀ w1:World,GS w w1.heap.size [.int .i64 P,.int .i64 T,.slice aV xV.length cV] none w1∧w.heap.size+4≤w1.heap.size →
  Calls Tryz.prog 222 #[.agg #[.int .i64 P,.int .i64 T,.slice aV xV.length cV],.func (.func 223) #[] #[.pointer (some ⟨w.heap.size+1,0,none⟩),.pointer (some ⟨w.heap.size,0,none⟩),.pointer (some ⟨w.heap.size+2,0,none⟩),.pointer (some ⟨w.heap.size+3,0,none⟩)]] w1
   fun e w'=>e=.returned (.bool (nP P T))∧GS w w1.heap.size [.int .i64 P,.int .i64 T,.slice aV xV.length cV] (kT P T xV (nU (nP P T) (P ^ T))) w'):=fun w1 hs=>by
  refine Fd (fun t w'=>GS w w1.heap.size [.int .i64 P,.int .i64 T,.slice aV xV.length cV] (kT P T xV t) w') _ _ Bp w1 P T aV cV xV p1 p6 t1 t8 ?_ ?_ hs.1
  · intro t v1 v2 k hg
    exact k.frame hg hs.2
  · intro t v1 c k ht hsz g
    have:=Fc w w1.heap.size P T aV cV xV hV hs.2 lV p6 t1 t8 hb (kT P T xV t) (cu P T t) v1 c k hsz zm g;rw [zm] at this;exact this
 have hpos:0<P ^ T:=Nat.pow_pos p1;obtain ⟨bl,bm,hbm⟩:=EH P T xV _ hpos;clear hV hG hG' e1 e2 lV hb
 cases hf:nP P T with
 | false =>
   have hF:Hid (kH P T xV=none):=by rw [Hid,kH,hf];rfl
   rw [hF.out];rw [hf] at LP;clear hf hbm
   go_enter Tryz.func179,Tryz.ntmps179;go_wp2_with fail;refine (LV.out _ (Mx _ _ _ _ _)).mono ?_;rintro e w1 ⟨rfl,hb1⟩;have HS:=Na (GS.start (cs:=[.int .i64 P,.int .i64 T,.slice aV xV.length cV]) hb1);have q0:=HS.out.1.cr.cell 0;have q1:=HS.out.1.cr.cell 1;have q2:=HS.out.1.cr.cell 2;simp only [List.getElem?_cons_zero,List.getElem?_cons_succ] at q0 q1 q2;clear hb1 LV;go_wp2_with fail
   first | go_outline | skip
   refine (LP.out _ HS.out).mono ?_;rintro e w2 ⟨rfl,hQ⟩;have B2:=hQ.bel;clear hQ q0 q1 q2;go_wp2_with fail;go_ret3;exact RetT.no B2
 | true =>
   have hF:Hid (kH P T xV=some (bl,bm)):=by rw [Hid,kH,hf,if_pos rfl,hbm]
   rw [hF.out];rw [hf,nG,hbm] at LP;clear hf hbm hF
   go_enter Tryz.func179,Tryz.ntmps179;go_wp2_with fail;refine (LV.out _ (Mx _ _ _ _ _)).mono ?_;rintro e w1 ⟨rfl,hb1⟩;have HS:=Na (GS.start (cs:=[.int .i64 P,.int .i64 T,.slice aV xV.length cV]) hb1);have q0:=HS.out.1.cr.cell 0;have q1:=HS.out.1.cr.cell 1;have q2:=HS.out.1.cr.cell 2;simp only [List.getElem?_cons_zero,List.getElem?_cons_succ] at q0 q1 q2;clear hb1 LV;go_wp2_with fail
   first | go_outline | skip
   refine (LP.out _ HS.out).mono ?_;rintro e w2 ⟨rfl,hQ⟩;obtain ⟨g,c,e1,e2,hR⟩:=hQ.ret (by have:=HS.out.2;omega)
   have HR:=Na hR;clear hQ q0 q1 q2 hR;go_wp2_with fail
   go_quiet (fail)
   go_wp2_with fail;go_ret3;exact ⟨ag HR.out.1 _,HR.out.2⟩
theorem tw (P T:Nat) (xs:List Int):qb P T xs=match kH P T xs with
 | none=>none
 | some (b,m)=>if m≤jc then some (b,m) else none:=by
 unfold qb kH
 cases nP P T <;> rfl
theorem Aj {P T:Nat} {xs:List Int} {b:List Int} {m:Int} (h:∀ x∈xs,0≤x∧x≤1000) (hT:T≤8) (e:kH P T xs=some (b,m)):b.length=T∧0≤m∧m≤1000000000001:=by
 unfold kH at e
 split at e
 · obtain ⟨h1,h2,h3,_⟩:=AU h hT _ b m e
   exact ⟨h1,h2,h3⟩
 · cases e
theorem vg (w:World) (P T:Nat) (aV:Option Addr) (cV:Nat) (xV:List Int) (hG:bu P T xV=true) (hV:Rd w w.heap.size aV (ae xV)) :
 Calls Tryz.prog 130 #[.agg #[.int .i64 P,.int .i64 T,.slice aV xV.length cV]] w (RetT 2 w (qb P T xV)):=by
 have B1:=Na (ah w (.cells #[.int .i64 P,.int .i64 T,.slice aV xV.length cV] 28));have LG:=Na (zF _ P T aV cV xV hG (hV.to B1.out));have hG':=hG;obtain ⟨P',T',e1,e2,p1,p6,t1,t8,lV,hb⟩:=cq hG';obtain rfl:P=P':=Int.ofNat.inj e1;obtain rfl:T=T':=Int.ofNat.inj e2;have hbd:=Na (fun b m=>Aj (P:=P) (b:=b) (m:=m) hb t8)
 rw [tw];clear hG hG' hV lV hb e1 e2;unfold RetT at LG;generalize kH P T xV=r at *
 cases r with
 | none =>
   clear hbd
   go_enter Tryz.func130,Tryz.ntmps130;go_wp2_with fail;refine LG.out.mono ?_;rintro e w1 ⟨hb1,rfl⟩;have B2:=aa B1.out hb1;clear hb1;go_wp2_with fail;go_ret3;exact RetT.no B2
 | some q =>
   obtain ⟨b,m⟩:=q;obtain ⟨-,n2,n3⟩:=hbd.out b m rfl
   by_cases hm:m≤1000000000000
   · have hif:Hid ((if m≤jc then some (b,m) else none:dQ)=some (b,m)):=if_pos hm
     show Calls _ _ _ _ (RetT _ _ (if m≤jc then some (b,m) else none))
     rw [hif.out];have hmi:¬ (1000000000000:Int)<m:=by omega
     have hmd:decide ((1000000000000:Int)<m)=false:=decide_eq_false hmi;clear hbd hif
     go_enter Tryz.func130,Tryz.ntmps130;go_wp2_with fail;refine LG.out.mono ?_;rintro e w1 ⟨hb1,a,c,rfl,ho⟩;have HR:Hid (RetT 2 w (some (b,m)) (.returned (.tuple #[.slice a b.length c,.int .i64 m,.bool true])) w1):=⟨aa B1.out hb1,_,_,rfl,bJ ho (by simp)⟩
     clear hb1 ho;go_wp2_with fail;go_ret3;obtain ⟨hq1,a',c',e',o'⟩:=HR.out;exact ⟨hq1,a',c',e',o'⟩
   · have hif:Hid ((if m≤jc then some (b,m) else none:dQ)=none):=if_neg hm
     show Calls _ _ _ _ (RetT _ _ (if m≤jc then some (b,m) else none))
     rw [hif.out];have hmi:(1000000000000:Int)<m:=by omega
     have hmd:decide ((1000000000000:Int)<m)=true:=decide_eq_true hmi;clear hbd hif
     go_enter Tryz.func130,Tryz.ntmps130;go_wp2_with fail;refine LG.out.mono ?_;rintro e w1 ⟨hb1,a,c,rfl,ho⟩;have B2:=aa B1.out hb1;clear hb1 ho;go_wp2_with fail;go_ret3;exact RetT.no B2
open Ieee
theorem za (n d:Nat) (hd:d≤n.log2+2):(n / 2 ^ d≤Toward.even.cut false n d∧Toward.even.cut false n d≤n / 2 ^ d+1)∧2 * (2 ^ d * Toward.even.cut false n d)≤2 * n+2 ^ d∧2 * n≤2 * (2 ^ d * Toward.even.cut false n d)+2 ^ d∧(n % 2 ^ d=0→2 ^ d * Toward.even.cut false n d=n):=by
 unfold Toward.cut;simp only [Nat.min_eq_left hd,Nat.one_shiftLeft];have hg:0<2 ^ d:=Nat.two_pow_pos d;have hn:=Nat.div_add_mod n (2 ^ d);have hr:=Nat.mod_lt n hg;generalize 2 ^ d=g at *
 generalize n / g=low at *
 generalize n % g=rest at *
 cases hm:(decide (g<2 * rest) || (g == 2 * rest && low % 2 == 1)) with
 | false =>
   simp only [Bool.or_eq_false_iff,decide_eq_false_iff_not] at hm;obtain ⟨h1,_⟩:=hm;simp only [Bool.toNat_false,Nat.add_zero];exact ⟨⟨Nat.le_refl _,by omega⟩,by omega,by omega,fun h=>by omega⟩
 | true =>
   simp only [Bool.or_eq_true,decide_eq_true_eq,Bool.and_eq_true,beq_iff_eq] at hm;have h1:g≤2 * rest:=by rcases hm with h | ⟨h,_⟩ <;> omega
   simp only [Bool.toNat_true];rw [Nat.mul_add,Nat.mul_one];exact ⟨⟨by omega,by omega⟩,by omega,by omega,fun h=>by omega⟩
end Go.Proofs.YtbknhgapjjaelaaGreatDoor
