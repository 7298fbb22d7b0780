/-
  Part 14 of what the proof stands on: lemmas and contracts, each with its conditions ahead of the colon.
-/
import Derived.Test.YtbknhgapjjaelaaGreatDoorPk01
import Derived.Deep.RegionHeld3
import Derived.Deep.RegionHeldLaw
import Derived.RegionTactic
import Derived.Test.YtbknhgapjjaelaaGreatDoorPk02
import Derived.Test.YtbknhgapjjaelaaGreatDoorPk09
import Derived.Test.YtbknhgapjjaelaaGreatDoorPk10
import Derived.Test.YtbknhgapjjaelaaGreatDoorPk11
import Derived.Test.YtbknhgapjjaelaaGreatDoorPk12
import Derived.Test.YtbknhgapjjaelaaGreatDoorPk13
set_option maxRecDepth 100000
set_option maxHeartbeats 64000000
namespace Go.Proofs.YtbknhgapjjaelaaGreatDoor
set_option linter.unusedVariables false
set_option linter.unusedSimpArgs false
open Go.RowKit
structure RnS (w w2:World) (d:DD) (x:DA) (v:Value) (out:List UInt8) (wx:World):Prop where
 K:Blk wx w.heap.size (d.cells x) 33
 R:Blk wx (w.heap.size+1) [.int .i64 0,.int .i64 0,.slice none 0 0,.slice none 0 0,.int .i64 0,.int .i64 0,.slice none 0 0,.int .i64 0,.int .i64 0,.slice none 0 0,.slice none 0 0,.slice none 0 0] 33
 B:Below w.heap.size w wx
 D:DRd wx wx.heap.size d x
 V:us w2.heap.size w2.heap.size v (Lib.byteCells out) wx
 N:DNo (fun k=>k=w.heap.size∨k=w.heap.size+1∨k=w2.heap.size∨v.ownBlock=some k) x
 S:w2.heap.size<wx.heap.size
 L:∀ k,k<w2.heap.size→k≠w.heap.size→k≠w.heap.size+1→wx.heap[k]? = w2.heap[k]?
theorem BN {w w':World} {g:Nat} (h:Touch w w' g (g+1)):w.grownBy w' (some g) :=
 ⟨h.os,h.tape,h.output,h.size,fun k hk hne=>h.block k hk (by rcases Nat.lt_trichotomy k g with h1 | h1 | h1;exact .inl h1;exact absurd (by rw [h1]) hne;exact .inr h1)⟩
theorem RnS.bld {w w2 wr w4 w5:World} {d:DD} {x:DA} {v:Value} {out:List UInt8} (h:RnS w w2 d x v out wr) (hs:w.heap.size+2≤w2.heap.size) (hb:Below wr.heap.size wr w4) (ht:Touch w4 w5 w.heap.size (w.heap.size+1)):us w2.heap.size w2.heap.size v (Lib.byteCells out) w5:=by
 obtain ⟨hB,⟨p,hp,hk⟩,ho,hne⟩:=h.V;have hlt:w2.heap.size<wr.heap.size:=h.S;refine ⟨hB,⟨p,hp,?_⟩,?_,hne⟩
 · rw [ht.block _ (by have:=hb.size;omega) (.inr (by omega)),hb.block _ hlt];exact hk
 · refine (aG ho hb).kept (BN ht) (.inr fun e=>?_)
   have:=ho.lt _ e;omega
theorem RnS.step {w w2 wr w3 w4 w5 w6:World} {d d':DD} {x x':DA} {v v':Value} {out out':List UInt8} (h:RnS w w2 d x v out wr) (hs:w.heap.size+2≤w2.heap.size) (hok:d'.ok=true) (hb:Below wr.heap.size wr w3) (hD:DRd w3 w3.heap.size d' x') (hx:x'=x∨DLo wr.heap.size x')
 (h4:w4=w3.alloc (.cells #[.int .i64 d'.R,.int .i64 d'.C,.slice x'.a d'.A.length x'.ca,.slice x'.b d'.B.length x'.cb,.int .i64 d'.P,.int .i64 d'.T,.slice x'.v d'.V.length x'.cv,.int .i64 d'.U,.int .i64 d'.N,.slice x'.w d'.W.length x'.cw,.slice x'.k d'.K.length x'.ck,.slice x'.f d'.F.length x'.cf] 33)) (h5:fg w4 w.heap.size (.int .i64 d'.R) (.int .i64 d'.C) (.slice x'.a d'.A.length x'.ca) (.slice x'.b d'.B.length x'.cb) (.int .i64 d'.P) (.int .i64 d'.T) (.slice x'.v d'.V.length x'.cv) (.int .i64 d'.U) (.int .i64 d'.N) (.slice x'.w d'.W.length x'.cw) (.slice x'.k d'.K.length x'.ck) (.slice x'.f d'.F.length x'.cf)=w5) (hV:us w2.heap.size w2.heap.size v' (Lib.byteCells out') w6) (hW:BldW w2.heap.size v w5 w6) (hn:∀ k,v'.ownBlock=some k→v.ownBlock=some k∨w5.heap.size≤k):RnS w w2 d' x' v' out' w6:=by
 have hba:Below w3.heap.size w3 w4:=by rw [h4];exact ah _ _
 have hb4:Below wr.heap.size wr w4:=aa hb hba;have T:Touch w4 w5 w.heap.size (w.heap.size+1):=by rw [← h5];exact et _ _ _ _ _ _ _ _ _ _ _ _ _ _
 have s5:w5.heap.size=w4.heap.size:=by rw [← h5];exact nj _ _ _ _ _ _ _ _ _ _ _ _ _ _
 have hS:=h.S;have z4:=hb4.size;have z6:=hW.size;have hown:∀ k,v.ownBlock=some k→w2.heap.size≤k∧k<wr.heap.size:=fun k e=>h.V.2.2.1.lt k e
 have hgo:∀ k,k<w2.heap.size→v.ownBlock≠some k:=fun k hk e=>by have:=(hown k e).1;omega
 have K5:Blk w5 w.heap.size (d'.cells x') 33:=by rw [← h5];exact fS (h.K.same hb4) _ _ _ _ _ _ _ _ _ _ _ _
 have R5:=(h.R.same hb4).touch T (.inr (Nat.le_refl _));have D4:=hD.to hba;have N':DNo (fun k=>k=w.heap.size∨k=w.heap.size+1∨k=w2.heap.size∨v.ownBlock=some k) x':=by
  rcases hx with rfl | hx
  · exact h.N
  · refine DNo.of_lo hx (fun k hk=>?_)
    rcases hk with rfl | rfl | rfl | hk
    · omega
    · omega
    · omega
    · exact (hown _ hk).2
 have D5:=D4.no N' (Nat.le_of_eq s5.symm) (fun k hk hn=>T.block k hk (by
  rcases Nat.lt_trichotomy k w.heap.size with h1 | h1 | h1
  · exact .inl h1
  · exact absurd (.inl h1) hn
  · exact .inr h1))
 have D6:=D5.no N' z6 (fun k hk hn=>hW.block k hk (fun e=>hn (.inr (.inr (.inl e)))) (fun e=>hn (.inr (.inr (.inr e)))))
 have NL:DNo (fun k=>w5.heap.size≤k) x':=D5.lt hok (fun k hk=>hk)
 refine ⟨?_,?_,?_,D6,hV,N'.or NL (fun k hk=>?_),by omega,fun k hk h1 h2=>?_⟩
 · exact (hW.block _ K5.lt (by omega) (hgo _ (by omega))).trans K5
 · exact (hW.block _ R5.lt (by omega) (hgo _ (by omega))).trans R5
 · have hB:=h.B
   exact ⟨hW.os.trans (T.os.trans (hb4.os.trans hB.os)),hW.tape.trans (T.tape.trans (hb4.tape.trans hB.tape)),hW.output.trans (T.output.trans (hb4.output.trans hB.output)),by have:=hB.size;omega,fun k hk=>(hW.block k (by omega) (by omega) (hgo _ (by omega))).trans ((T.block k (by omega) (.inl hk)).trans ((hb4.block k (by omega)).trans (hB.block k hk)))⟩
 · rcases hk with hk | hk | hk | hk
   · exact .inl (.inl hk)
   · exact .inl (.inr (.inl hk))
   · exact .inl (.inr (.inr (.inl hk)))
   · rcases hn k hk with hk | hk
     · exact .inl (.inr (.inr (.inr hk)))
     · exact .inr hk
 · exact (hW.block k (by omega) (by omega) (hgo _ hk)).trans ((T.block k (by omega) (by omega)).trans ((hb4.block k (by omega)).trans (h.L k hk h1 h2)))
theorem RnS.tail {w w2 wr w3 w6:World} {d:DD} {x y:DA} {v:Value} {out:List UInt8} (h:RnS w w2 d x v out wr) (hs:w.heap.size+2≤w2.heap.size) (hb:Below wr.heap.size wr w3) (hO:OwnDd w3 wr.heap.size w3.heap.size d y) (hW:BldW w2.heap.size v w3 w6):Blk w6 (w.heap.size+1) [.int .i64 0,.int .i64 0,.slice none 0 0,.slice none 0 0,.int .i64 0,.int .i64 0,.slice none 0 0,.int .i64 0,.int .i64 0,.slice none 0 0,.slice none 0 0,.slice none 0 0] 33∧Below w.heap.size w w6∧OwnDd w6 wr.heap.size w3.heap.size d y∧w3.heap.size≤w6.heap.size:=by
 have hS:=h.S;have z3:=hb.size;have hown:∀ k,v.ownBlock=some k→w2.heap.size≤k∧k<wr.heap.size:=fun k e=>h.V.2.2.1.lt k e
 have R3:=h.R.same hb;have hB:=h.B;refine ⟨(hW.block _ R3.lt (by omega) (fun e=>by have:=hown _ e;omega)).trans R3,?_,hO.touch (lo':=w2.heap.size) (hi':=wr.heap.size) ⟨hW.os,hW.tape,hW.output,hW.size,fun k hk hd=>hW.block k hk (by omega) (fun e=>by have:=hown _ e;omega)⟩ (Nat.le_refl _),hW.size⟩
 exact ⟨hW.os.trans (hb.os.trans hB.os),hW.tape.trans (hb.tape.trans hB.tape),hW.output.trans (hb.output.trans hB.output),by have:=hB.size;have:=hW.size;omega,fun k hk=>(hW.block k (by omega) (by omega) (fun e=>by have:=hown _ e;omega)).trans ((hb.block k (by omega)).trans (hB.block k hk))⟩
theorem M7 (a b:List UInt8):bs a ++ bs b=bs (a ++ b):=by
 apply Ik;rw [ByteArray.data_append,Array.toList_append];rfl
theorem iq {w:World} {B:Nat} {a:Option Addr} {xs:List (List UInt8)} (h:Rd w B a (cn xs)) {k:Nat} (hk:k<xs.length) :
 ∃ b o l,a=some ⟨b,o,none⟩∧b<B∧w.cell? ⟨b,o+k,none⟩=some (.string (bs l))∧Hid (xs[k]? = some l):=by
 obtain ⟨b,o,v,ha,hb,hc,hv⟩:=h.getV (k:=k) (by simpa using hk)
 have e:=Al (List.getElem?_eq_getElem hk);have e2:v=.string (bs xs[k]):=by
  have:=hv.out;rw [e] at this;injection this with this
  exact this.symm
 subst e2;exact ⟨b,o,xs[k],ha,hb,hc,List.getElem?_eq_getElem hk⟩
theorem BP (w:World) (d:DD) (x:DA) (s:ByteArray) (ps:List mZ) (hE:Env w) (hok:d.ok=true) (hR:DRd w w.heap.size d x) (hs:s.size≤16000) (hr:lg s.data.toList=[])
 (hls:eR s.data.toList=ps.map (·.1)) (HF:∀ p∈ps,Fv p.1 p.2) (HO:∀ p∈ps,∀ d:DD,d.ok=true→(p.2 d).1.ok=true∧(p.2 d).2.length≤1048576) :
 Calls Tryz.prog 11 #[d.val x,.string s] w fun e w'=>∃ y:DA,e=.returned (.tuple #[(ff ps (d,[])).1.val y,.string (bs (ff ps (d,[])).2),.bool true])∧OwnDd w' w.heap.size w'.heap.size (ff ps (d,[])).1 y∧Below w.heap.size w w':=by
 obtain ⟨w0,hw0⟩:∃ X,X=(w.alloc (.cells #[.int .i64 d.R,.int .i64 d.C,.slice x.a d.A.length x.ca,.slice x.b d.B.length x.cb,.int .i64 d.P,.int .i64 d.T,.slice x.v d.V.length x.cv,.int .i64 d.U,.int .i64 d.N,.slice x.w d.W.length x.cw,.slice x.k d.K.length x.ck,.slice x.f d.F.length x.cf] 33)).alloc (.cells #[.int .i64 0,.int .i64 0,.slice none 0 0,.slice none 0 0,.int .i64 0,.int .i64 0,.slice none 0 0,.int .i64 0,.int .i64 0,.slice none 0 0,.slice none 0 0,.slice none 0 0] 33):=⟨_,rfl⟩;have K0:Blk w0 w.heap.size (d.cells x) 33:=by rw [hw0];exact (Blk.new w _ _).alloc _
 have R0:Blk w0 (w.heap.size+1) [.int .i64 0,.int .i64 0,.slice none 0 0,.slice none 0 0,.int .i64 0,.int .i64 0,.slice none 0 0,.int .i64 0,.int .i64 0,.slice none 0 0,.slice none 0 0,.slice none 0 0] 33:=by
  rw [hw0];have:=Blk.new (w.alloc (.cells #[.int .i64 d.R,.int .i64 d.C,.slice x.a d.A.length x.ca,.slice x.b d.B.length x.cb,.int .i64 d.P,.int .i64 d.T,.slice x.v d.V.length x.cv,.int .i64 d.U,.int .i64 d.N,.slice x.w d.W.length x.cw,.slice x.k d.K.length x.ck,.slice x.f d.F.length x.cf] 33)) [.int .i64 0,.int .i64 0,.slice none 0 0,.slice none 0 0,.int .i64 0,.int .i64 0,.slice none 0 0,.int .i64 0,.int .i64 0,.slice none 0 0,.slice none 0 0,.slice none 0 0] 33;rwa [World.size_alloc] at this
 have B0:Below w.heap.size w w0:=by rw [hw0];exact bR _ _ _
 have s0:w0.heap.size=w.heap.size+2:=by rw [hw0];simp
 have LL:=Na (tj w0 (hE.shp.to B0) s (by omega))
 rw [show (decide (s.data.toList.length≤16000) && decide (lg s.data.toList=[]))=true from by rw [hr];have:=Lib.size_eq s;simp;omega] at LL
 unfold J5 at LL;obtain ⟨⟨a1,a2⟩,⟨b1,b2⟩,⟨v1,v2⟩,⟨l1,l2⟩,⟨k1,k2⟩,f1,f2⟩:=DD.ok_len hok;have LV:=Na (fun (v:World) (hb:Below w.heap.size w v)=>jM v d.R d.C x.a x.ca d.A x.b x.cb d.B d.P d.T x.v x.cv d.V d.U d.N x.w x.cw d.W x.k x.ck d.K x.f x.cf d.F (hR.to hb).r (by omega) (by omega) (by omega) (by omega) (by omega) (by omega))
 rw [show gj d.R d.C d.A d.B d.P d.T d.V d.U d.N d.W d.K d.F=true from hok] at LV
 have HK0:=Na K0;have HR0:=Na R0;have HB0:=Na B0;have HE:=Na hE;have HOK:=Na hok;have HR:=Na hR;have HFF:=Na HF;have HOO:=Na HO;clear hE hok hR HF HO K0 R0 B0 a1 a2 b1 b2 v1 v2 l1 l2 k1 k2 f1 f2 hr;rw [hls] at LL;have hpl:ps.length≤16000:=by
  have e:=qK s.data.toList;rw [hls,List.length_map] at e;have:=Lib.size_eq s;omega
 obtain ⟨ls,hlq⟩:∃ ls,ls=ps.map (·.1):=⟨_,rfl⟩;rw [← hlq] at LL;have hll:ls.length=ps.length:=by rw [hlq,List.length_map]
 have HLQ:=Na hlq;have HLL:=Na hll;clear hls hlq hll;unfold DD.val
 go_enter Tryz.func11,Tryz.ntmps11;go_wp2_with fail;rw [← hw0];clear hw0;refine LL.out.mono ?_;rintro e w1 ⟨a,c,rfl,hrd,hb⟩;have B1:=Na (aa HB0.out hb);have K1:=Na (HK0.out.same hb);have R1:=Na (HR0.out.same hb);have s1:w.heap.size+2≤w1.heap.size:=by have:=hb.size;omega
 have HRD:=Na hrd;obtain ⟨r0,r1,r2,r3,r4,r5,r6,r7,r8,r9,r10,r11⟩:=af K1.out;clear hrd hb LL HK0 HR0 HB0 s0;go_wp2_with fail;refine (LV.out _ B1.out).mono ?_;rintro e w2 ⟨rfl,hb⟩;have B2:=Na (aa B1.out hb);have K2:=Na (K1.out.same hb);have R2:=Na (R1.out.same hb);have s2:w.heap.size+2≤w2.heap.size:=by have:=hb.size;omega
 have HRD2:=Na (HRD.out.to hb);clear hb LV K1 R1 B1 HRD s1 r0 r1 r2 r3 r4 r5 r6 r7 r8 r9 r10 r11;go_wp2_with fail;have HN0:Hid (DNo (fun k=>k=w.heap.size∨k=w.heap.size+1∨k=w2.heap.size∨(Value.slice none 0 0).ownBlock=some k) x):=HR.out.lt HOK.out (fun k hk=>by
  rcases hk with rfl | rfl | rfl | hk
  · omega
  · omega
  · omega
  · cases hk)
 have BB:=Na (ah w2 (.cells #[.pointer none,.slice none 0 0] 85));have S0:Hid (RnS w w2 (ff (ps.take 0) (d,[])).1 x (.slice none 0 0) (ff (ps.take 0) (d,[])).2 (w2.alloc (.cells #[.pointer none,.slice none 0 0] 85))):=by
  refine ⟨K2.out.same BB.out,R2.out.same BB.out,aa B2.out BB.out,HR.out.to (aa B2.out BB.out),⟨Nat.le_refl _,⟨_,.inl rfl,heap_alloc_new w2 _⟩,World.ownsRow_nil _ _ _ _,fun e=>by cases e⟩,HN0.out,by simp,fun k hk _ _=>BB.out.block k hk⟩
 have K2':=Na K2.out;have R2':=Na R2.out;clear K2 R2 HN0
 go_loopw [30] (fun iv wr=>∃ (k:Nat) (xk:DA) (v:Value),k≤ls.length∧iv=.int .i64 k∧Hid (RnS w w2 (ff (ps.take k) (d,[])).1 xk v (ff (ps.take k) (d,[])).2 wr)∧Hid ((ff (ps.take k) (d,[])).2=[]→v=.slice none 0 0)) (fun iv _=>ls.length - (intOf iv).toNat)
 case atStart=>exact ⟨0,x,_,Nat.zero_le _,rfl,S0.out,fun _=>rfl⟩
 case round =>
  obtain ⟨k,xk,v,hk,rfl,hS,hVN⟩:=hrel;have k2:(k:Int)≤16000:=by have:=HLL.out;omega
  have k0:(0:Int)≤(k:Int):=Int.natCast_nonneg _
  by_cases hlt:k<ls.length
  · have k1:(k:Int)<(ls.length:Int):=by omega
    have hne:ls≠[]:=fun e=>by rw [e] at hlt;simp at hlt
    have HRW:Hid (Rd wr wr.heap.size a (cn ls)):=by
     have n1:=CV HRD2.out hne (Bi K2'.out);have n2:=CV HRD2.out hne (Fa R2'.out);refine qo (bad:=fun k=>k=w.heap.size∨k=w.heap.size+1) HRD2.out (fun y e hb=>?_) (Nat.le_of_lt hS.out.S) (fun k hk hb=>hS.out.L k hk (fun e=>hb (.inl e)) (fun e=>hb (.inr e)))
     rcases hb with hb | hb
     · exact n1 y e hb
     · exact n2 y e hb
    obtain ⟨b,o,l,ha,hb,hc,hl2⟩:=iq HRW.out hlt;subst ha;obtain ⟨pk,hpk,epk⟩:∃ pk,ps[k]? = some pk∧l=pk.1:=by
     have e:=hl2.out;rw [HLQ.out,List.getElem?_map] at e
     cases hq:ps[k]? with
     | none=>rw [hq] at e;cases e
     | some pk=>rw [hq] at e;injection e with e;exact ⟨pk,rfl,e.symm⟩
    have hpm:pk∈ps:=List.mem_of_getElem? hpk;obtain ⟨hok1,hlen1⟩:=qT (s:=(d,[])) HOO.out HOK.out k;have hst:=Na (EO (s:=(d,[])) hpk);obtain ⟨hok2,hlen2⟩:=HOO.out pk hpm _ hok1;have LC:=Na (HFF.out pk hpm wr _ xk (HE.out.to hS.out.B) hok1 hS.out.D);have HL1:Hid ((ff (ps.take k) (d,[])).2.length≤17000000000):=by
     have e1:=HLL.out;have e2:ps.length * (1048576+1)≤16000 * (1048576+1):=Nat.mul_le_mul_right _ hpl;rw [Hid];simp only [List.length_nil] at hlen1;omega
    clear hlen1;rw [epk] at hc hl2;clear epk hpm hpk;generalize ff (ps.take k) (d,[])=st at *
    obtain ⟨dk,out⟩:=st;dsimp only at *
    unfold pI at hst;dsimp only at hst;generalize pk.2 dk=r at *
    obtain ⟨d',t⟩:=r;dsimp only at *
    unfold Gz at LC;dsimp only at LC;have HOK2:=Na hok2;have HT:Hid ((bs t).size≤1048576):=by rw [Hid,aI];exact hlen2
    have HTC:Hid (Lib.byteCells out ++ Lib.strCells (bs t ++ ⟨#[10]⟩)=Lib.byteCells (out ++ (t ++ [10]))):=by
     have e:bs t ++ ⟨#[10]⟩=bs (t ++ [10]):=by rw [← M7];rfl
     rw [Hid,e,Lib.strCells_eq,show (bs (t ++ [10])).data.toList=t ++ [10] from rfl,← Lib.byteCells_append]
    generalize bs pk.1=lb at *
    generalize hTb:bs t=tb at *
    clear hTb;obtain ⟨r0,r1,r2,r3,r4,r5,r6,r7,r8,r9,r10,r11⟩:=af hS.out.K;have s0:¬ 9223372036854775807<tb.size+1:=by have:=HT.out;omega
    have hcl:=hc;unfold DD.val at LC;clear hok1 hok2 hlen2 HRW hVN;go_wp2_with fail;refine LC.out.mono ?_;rintro e w3 ⟨hb3,x',rfl,hD3,hx3⟩;have HB3:=Na hb3;have HD3:=Na hD3;have HX3:=Na hx3;obtain ⟨w4,hw4⟩:∃ X,X=w3.alloc (.cells #[.int .i64 d'.R,.int .i64 d'.C,.slice x'.a d'.A.length x'.ca,.slice x'.b d'.B.length x'.cb,.int .i64 d'.P,.int .i64 d'.T,.slice x'.v d'.V.length x'.cv,.int .i64 d'.U,.int .i64 d'.N,.slice x'.w d'.W.length x'.cw,.slice x'.k d'.K.length x'.ck,.slice x'.f d'.F.length x'.cf] 33):=⟨_,rfl⟩;have hb4:Hid (Below wr.heap.size wr w4):=by rw [hw4];exact aa hb3 (ah _ _)
    have KN:Blk w4 w3.heap.size [.int .i64 d'.R,.int .i64 d'.C,.slice x'.a d'.A.length x'.ca,.slice x'.b d'.B.length x'.cb,.int .i64 d'.P,.int .i64 d'.T,.slice x'.v d'.V.length x'.cv,.int .i64 d'.U,.int .i64 d'.N,.slice x'.w d'.W.length x'.cw,.slice x'.k d'.K.length x'.ck,.slice x'.f d'.F.length x'.cf] 33:=by rw [hw4];exact Blk.new w3 _ _
    have K4:=Na (hS.out.K.same hb4.out);have HW4:=Na hw4;clear hb3 hD3 hx3 LC r0 r1 r2 r3 r4 r5 r6 r7 r8 r9 r10 r11
    go_upto_region 9 with fail
    rw [← hw4];clear hw4;obtain ⟨b3,hb3⟩:∃ b,b=w3.heap.size:=⟨_,rfl⟩;rw [← hb3] at KN ⊢;clear hb3;obtain ⟨v0,v1,v2,v3,v4,v5,v6,v7,v8,v9,v10,v11⟩:=af KN;obtain ⟨j0,j1,j2,j3,j4,j5,j6,j7,j8,j9,j10,j11⟩:=af K4.out;have jf0:=K4.out.free 0;have jf1:=K4.out.free 1;have jf2:=K4.out.free 2;have jf3:=K4.out.free 3;have jf4:=K4.out.free 4;have jf5:=K4.out.free 5;have jf6:=K4.out.free 6;have jf7:=K4.out.free 7;have jf8:=K4.out.free 8;have jf9:=K4.out.free 9;have jf10:=K4.out.free 10;have jf11:=K4.out.free 11
    go_upto_region 10 with fail
    obtain ⟨w5,hw5⟩:∃ X,X=((((((((((((w4.setCell ⟨w.heap.size,0,none⟩ (.int .i64 d'.R)).setCell ⟨w.heap.size,1,none⟩ (.int .i64 d'.C)).setCell ⟨w.heap.size,2,none⟩ (.slice x'.a d'.A.length x'.ca)).setCell ⟨w.heap.size,3,none⟩ (.slice x'.b d'.B.length x'.cb)).setCell ⟨w.heap.size,4,none⟩ (.int .i64 d'.P)).setCell ⟨w.heap.size,5,none⟩ (.int .i64 d'.T)).setCell ⟨w.heap.size,6,none⟩ (.slice x'.v d'.V.length x'.cv)).setCell ⟨w.heap.size,7,none⟩ (.int .i64 d'.U)).setCell ⟨w.heap.size,8,none⟩ (.int .i64 d'.N)).setCell ⟨w.heap.size,9,none⟩ (.slice x'.w d'.W.length x'.cw)).setCell ⟨w.heap.size,10,none⟩ (.slice x'.k d'.K.length x'.ck)).setCell ⟨w.heap.size,11,none⟩ (.slice x'.f d'.F.length x'.cf)):=⟨_,rfl⟩;have hp5:fg w4 w.heap.size (.int .i64 d'.R) (.int .i64 d'.C) (.slice x'.a d'.A.length x'.ca) (.slice x'.b d'.B.length x'.cb) (.int .i64 d'.P) (.int .i64 d'.T) (.slice x'.v d'.V.length x'.cv) (.int .i64 d'.U) (.int .i64 d'.N) (.slice x'.w d'.W.length x'.cw) (.slice x'.k d'.K.length x'.ck) (.slice x'.f d'.F.length x'.cf)=w5:=by rw [hw5];rfl
    have HP5:=Na hp5;have T5:Hid (Touch w4 w5 w.heap.size (w.heap.size+1)):=by rw [← hp5];exact et _ _ _ _ _ _ _ _ _ _ _ _ _ _
    rw [← hw5];clear hw5 hp5 v0 v1 v2 v3 v4 v5 v6 v7 v8 v9 v10 v11 j0 j1 j2 j3 j4 j5 j6 j7 j8 j9 j10 j11 jf0 jf1 jf2 jf3 jf4 jf5 jf6 jf7 jf8 jf9 jf10 jf11 KN;have hsz:w2.heap.size≤w5.heap.size:=by have:=hS.out.S;have:=hb4.out.size;have:=T5.out.size;omega
    have LW:=Na (wj w2.heap.size w2.heap.size (Lib.byteCells out) (tb ++ ⟨#[10]⟩) w5 v (hS.out.bld s2 hb4.out T5.out) (by rw [Lib.byteCells_length,ByteArray.size_append];have:=HL1.out;have:=HT.out;show _+(tb.size+1)≤_;omega) hsz)
    rw [HTC.out] at LW;clear hsz T5 HT HTC HL1;go_wp2_with fail;refine LW.out.mono ?_;rintro e w6 ⟨rfl,v',hV6,hW6,hn6⟩;have HS6:=Na (hS.out.step s2 HOK2.out HB3.out HD3.out HX3.out HW4.out HP5.out hV6 hW6 hn6);clear hV6 hW6 hn6 hS LW HB3 HD3 HX3 HW4 HP5 hb4 K4;go_wp2_with fail;go_roundw
    case rel=>exact ⟨k+1,x',v',by omega,by go_num,by rw [hst.out];exact HS6.out,by rw [hst.out];exact fun e=>absurd e (by simp)⟩
    case measure=>first | (simp [intOf];done) | (simp [intOf];omega)
  · obtain rfl:k=ls.length:=by omega
    have e0:ps.take ls.length=ps:=by rw [show ls.length=ps.length from HLL.out,List.take_length]
    obtain ⟨hok1,-⟩:=qT (s:=(d,[])) HOO.out HOK.out ls.length;rw [e0] at hS hVN hok1;obtain ⟨st,hst⟩:∃ st,st=ff ps (d,[]):=⟨_,rfl⟩;rw [← hst] at hS hVN hok1;obtain ⟨dk,out⟩:=st;have HST:=Na hst.symm;clear hst;dsimp only at *
    have LC:=Na (nK wr dk xk hok1 hS.out.D);obtain ⟨r0,r1,r2,r3,r4,r5,r6,r7,r8,r9,r10,r11⟩:=af hS.out.K;unfold DD.val at LC;clear hok1 e0 HRD2 K2' R2';go_wp2_with fail;refine LC.out.mono ?_;rintro e w3 ⟨y,rfl,hO,hb3⟩;have BV:=hS.out.bld s2 hb3 (Touch.refl w3 _ _);have LS:Hid (Calls Tryz.prog 43 #[.pointer (some ⟨w2.heap.size,0,none⟩)] w3 fun e w'=>e=.returned (.string (bs out))∧BldW w2.heap.size v w3 w'):=by
     by_cases hn:out=[]
     · have hv:=hVN.out hn
       obtain ⟨_,⟨p,_,hk⟩,_⟩:=BV;rw [hv] at hk;subst hn;refine (Any.Builder_String_nil Tryz.lays169 Tryz.Builder_Extra_169 w3.heap.size w2.heap.size p w3 hk).mono ?_;rintro e w' ⟨rfl,hb⟩;exact ⟨rfl,hb.os,hb.tape,hb.output,hb.size,fun k hk _ _=>hb.block k hk⟩
     · exact Hf _ _ out w3 v BV hn
    have HTail:=Na (fun w6=>hS.out.tail (w6:=w6) s2 hb3 hO)
    obtain ⟨tb,htb⟩:∃ tb,tb=bs out:=⟨_,rfl⟩;rw [← htb] at LS;have hsz:w.heap.size+2≤wr.heap.size:=by have:=hS.out.S;omega
    have hsz3:=hb3.size;clear hO hb3 BV hVN hS LC r0 r1 r2 r3 r4 r5 r6 r7 r8 r9 r10 r11;go_wp2_with fail;refine LS.out.mono ?_;rintro e w6 ⟨rfl,hW6⟩;obtain ⟨R6,B6,O6,z6⟩:=HTail.out w6 hW6;have B6:=Na B6;have O6:=Na O6;have R6:=Na R6;obtain ⟨j0,j1,j2,j3,j4,j5,j6,j7,j8,j9,j10,j11⟩:=af R6.out;have jf0:=R6.out.free 0;have jf1:=R6.out.free 1;have jf2:=R6.out.free 2;have jf3:=R6.out.free 3;have jf4:=R6.out.free 4;have jf5:=R6.out.free 5;have jf6:=R6.out.free 6;have jf7:=R6.out.free 7;have jf8:=R6.out.free 8;have jf9:=R6.out.free 9;have jf10:=R6.out.free 10;have jf11:=R6.out.free 11;clear hW6 LS HTail;go_wp2_with fail;obtain ⟨wz,hwz⟩:∃ X,X=((((((((((((w6.setCell ⟨w.heap.size+1,0,none⟩ (.int .i64 dk.R)).setCell ⟨w.heap.size+1,1,none⟩ (.int .i64 dk.C)).setCell ⟨w.heap.size+1,2,none⟩ (.slice y.a dk.A.length y.ca)).setCell ⟨w.heap.size+1,3,none⟩ (.slice y.b dk.B.length y.cb)).setCell ⟨w.heap.size+1,4,none⟩ (.int .i64 dk.P)).setCell ⟨w.heap.size+1,5,none⟩ (.int .i64 dk.T)).setCell ⟨w.heap.size+1,6,none⟩ (.slice y.v dk.V.length y.cv)).setCell ⟨w.heap.size+1,7,none⟩ (.int .i64 dk.U)).setCell ⟨w.heap.size+1,8,none⟩ (.int .i64 dk.N)).setCell ⟨w.heap.size+1,9,none⟩ (.slice y.w dk.W.length y.cw)).setCell ⟨w.heap.size+1,10,none⟩ (.slice y.k dk.K.length y.ck)).setCell ⟨w.heap.size+1,11,none⟩ (.slice y.f dk.F.length y.cf)):=⟨_,rfl⟩;have hp:fg w6 (w.heap.size+1) (.int .i64 dk.R) (.int .i64 dk.C) (.slice y.a dk.A.length y.ca) (.slice y.b dk.B.length y.cb) (.int .i64 dk.P) (.int .i64 dk.T) (.slice y.v dk.V.length y.cv) (.int .i64 dk.U) (.int .i64 dk.N) (.slice y.w dk.W.length y.cw) (.slice y.k dk.K.length y.ck) (.slice y.f dk.F.length y.cf)=wz:=by rw [hwz];rfl
    rw [← hwz];clear hwz j0 j1 j2 j3 j4 j5 j6 j7 j8 j9 j10 j11 jf0 jf1 jf2 jf3 jf4 jf5 jf6 jf7 jf8 jf9 jf10 jf11;have KZ:Blk wz (w.heap.size+1) (dk.cells y) 33:=by rw [← hp];exact fS R6.out _ _ _ _ _ _ _ _ _ _ _ _
    have TZ:Touch w6 wz (w.heap.size+1) (w.heap.size+1+1):=by rw [← hp];exact et _ _ _ _ _ _ _ _ _ _ _ _ _ _
    clear hp;have BZ:=aE B6.out TZ (by omega) (by omega)
    have OZ:=(O6.out.touch TZ (by omega)).mono (lo':=w.heap.size) (hi':=wz.heap.size) (by omega) (by have:=TZ.size;omega)
    obtain ⟨t0,t1,t2,t3,t4,t5,t6,t7,t8,t9,t10,t11⟩:=af KZ;refine bodyPost_ret (v:=.tuple #[dk.val y,.string tb,.bool true]) (by simp [results,Tryz.results11,go_sem,DD.val,t0,t1,t2,t3,t4,t5,t6,t7,t8,t9,t10,t11];try exact htb.symm) rfl ?_
    rw [HST.out];exact ⟨y,by rw [htb];rfl,OZ,BZ⟩
theorem uX (w:World) (d:DD) (x:DA) (l:List UInt8) (f:DD→DD × List UInt8) (hE:Env w) (hok:d.ok=true) (hR:DRd w w.heap.size d x) (HC:Fv l f) (hf:(f d).1.ok=true) :
 Calls Tryz.prog 8 #[d.val x,.string (bs l)] w fun e w'=>∃ y:DA,e=.returned (.tuple #[(f d).1.val y,.string (bs (f d).2),.bool true])∧OwnDd w' w.heap.size w'.heap.size (f d).1 y∧DRd w' w'.heap.size (f d).1 y∧Below w.heap.size w w':=by
 obtain ⟨w0,hw0⟩:∃ X,X=(w.alloc (.cells #[.int .i64 d.R,.int .i64 d.C,.slice x.a d.A.length x.ca,.slice x.b d.B.length x.cb,.int .i64 d.P,.int .i64 d.T,.slice x.v d.V.length x.cv,.int .i64 d.U,.int .i64 d.N,.slice x.w d.W.length x.cw,.slice x.k d.K.length x.ck,.slice x.f d.F.length x.cf] 33)).alloc (.cells #[.int .i64 0,.int .i64 0,.slice none 0 0,.slice none 0 0,.int .i64 0,.int .i64 0,.slice none 0 0,.int .i64 0,.int .i64 0,.slice none 0 0,.slice none 0 0,.slice none 0 0] 33):=⟨_,rfl⟩;have K0:Blk w0 w.heap.size (d.cells x) 33:=by rw [hw0];exact (Blk.new w _ _).alloc _
 have R0:Blk w0 (w.heap.size+1) [.int .i64 0,.int .i64 0,.slice none 0 0,.slice none 0 0,.int .i64 0,.int .i64 0,.slice none 0 0,.int .i64 0,.int .i64 0,.slice none 0 0,.slice none 0 0,.slice none 0 0] 33:=by
  rw [hw0];have:=Blk.new (w.alloc (.cells #[.int .i64 d.R,.int .i64 d.C,.slice x.a d.A.length x.ca,.slice x.b d.B.length x.cb,.int .i64 d.P,.int .i64 d.T,.slice x.v d.V.length x.cv,.int .i64 d.U,.int .i64 d.N,.slice x.w d.W.length x.cw,.slice x.k d.K.length x.ck,.slice x.f d.F.length x.cf] 33)) [.int .i64 0,.int .i64 0,.slice none 0 0,.slice none 0 0,.int .i64 0,.int .i64 0,.slice none 0 0,.int .i64 0,.int .i64 0,.slice none 0 0,.slice none 0 0,.slice none 0 0] 33;rwa [World.size_alloc] at this
 have B0:Below w.heap.size w w0:=by rw [hw0];exact bR _ _ _
 have s0:w0.heap.size=w.heap.size+2:=by rw [hw0];simp
 obtain ⟨⟨a1,a2⟩,⟨b1,b2⟩,⟨v1,v2⟩,⟨l1,l2⟩,⟨k1,k2⟩,f1,f2⟩:=DD.ok_len hok;have LV:=Na (fun (v:World) (hb:Below w.heap.size w v)=>jM v d.R d.C x.a x.ca d.A x.b x.cb d.B d.P d.T x.v x.cv d.V d.U d.N x.w x.cw d.W x.k x.ck d.K x.f x.cf d.F (hR.to hb).r (by omega) (by omega) (by omega) (by omega) (by omega) (by omega))
 rw [show gj d.R d.C d.A d.B d.P d.T d.V d.U d.N d.W d.K d.F=true from hok] at LV
 have LM:=Na (fun (v:World) (hb:Below w.heap.size w v)=>HC v d x (hE.to hb) hok (hR.to hb))
 have HK0:=Na K0;have HR0:=Na R0;have HB0:=Na B0;have HF:=Na hf;have S0:Hid (w.heap.size+2≤w0.heap.size):=by rw [Hid];omega
 clear hE hok hR HC hf K0 R0 B0 a1 a2 b1 b2 v1 v2 l1 l2 k1 k2 f1 f2 s0;unfold DD.val at LM ⊢
 go_enter Tryz.func8,Tryz.ntmps8;obtain ⟨r0,r1,r2,r3,r4,r5,r6,r7,r8,r9,r10,r11⟩:=af HK0.out;go_wp2_with fail;rw [← hw0];clear hw0;go_wp2_with fail;refine (LV.out _ HB0.out).mono ?_;rintro e w1 ⟨rfl,hb⟩;have B1:=Na (aa HB0.out hb);have K1:=Na (HK0.out.same hb);have R1:=Na (HR0.out.same hb);have s1:w.heap.size+2≤w1.heap.size:=by have:=hb.size;have:=S0.out;omega
 clear hb LV HK0 HR0 HB0 S0 r0 r1 r2 r3 r4 r5 r6 r7 r8 r9 r10 r11;obtain ⟨r0,r1,r2,r3,r4,r5,r6,r7,r8,r9,r10,r11⟩:=af K1.out;go_wp2_with fail;refine (LM.out _ B1.out).mono ?_;rintro e w2 ⟨hb2,x',rfl,hD2,-⟩;have B2:=Na (aa B1.out hb2);have R2:=Na (R1.out.same hb2);have s2:w.heap.size+2≤w2.heap.size:=by have:=hb2.size;omega
 have D2:=Na hD2;clear hb2 hD2 LM K1 R1 B1 s1 r0 r1 r2 r3 r4 r5 r6 r7 r8 r9 r10 r11;obtain ⟨dk,hdk⟩:∃ q,q=(f d).1:=⟨_,rfl⟩;obtain ⟨tx,htx⟩:∃ q,q=(f d).2:=⟨_,rfl⟩;rw [← hdk] at HF D2 ⊢;rw [← htx];have HDK:=Na hdk;have HTX:=Na htx;clear hdk htx;unfold DD.val;obtain ⟨w3,hw3⟩:∃ X,X=w2.alloc (.cells #[.int .i64 dk.R,.int .i64 dk.C,.slice x'.a dk.A.length x'.ca,.slice x'.b dk.B.length x'.cb,.int .i64 dk.P,.int .i64 dk.T,.slice x'.v dk.V.length x'.cv,.int .i64 dk.U,.int .i64 dk.N,.slice x'.w dk.W.length x'.cw,.slice x'.k dk.K.length x'.ck,.slice x'.f dk.F.length x'.cf] 33):=⟨_,rfl⟩;have hb3:Below w2.heap.size w2 w3:=by rw [hw3];exact ah _ _
 have K3:Hid (Blk w3 w2.heap.size (dk.cells x') 33):=by rw [hw3];exact Blk.new w2 _ _
 have R3:=Na (R2.out.same hb3);have FF:=Na D2.out.f;have B3:=Na (aa B2.out hb3);have s3:w.heap.size+2≤w3.heap.size:=by have:=hb3.size;omega
 have LC:=Na (nK w3 dk x' HF.out (D2.out.to hb3));unfold DD.val at LC;obtain ⟨r0,r1,r2,r3,r4,r5,r6,r7,r8,r9,r10,r11⟩:=af K3.out;clear hb3 R2 B2 D2 s2
 go_upto_region 4 with fail
 rw [← hw3];clear hw3;go_wp2_with fail;refine LC.out.mono ?_;rintro e w6 ⟨y,rfl,hO,hb6⟩;have R6:=Na (R3.out.same hb6);have B6:=Na (aa B3.out hb6);have O6:=Na hO;have s6:w.heap.size+2≤w6.heap.size:=by have:=hb6.size;omega
 clear hO hb6 R3 B3 LC K3 r0 r1 r2 r3 r4 r5 r6 r7 r8 r9 r10 r11;obtain ⟨j0,j1,j2,j3,j4,j5,j6,j7,j8,j9,j10,j11⟩:=af R6.out;have jf0:=R6.out.free 0;have jf1:=R6.out.free 1;have jf2:=R6.out.free 2;have jf3:=R6.out.free 3;have jf4:=R6.out.free 4;have jf5:=R6.out.free 5;have jf6:=R6.out.free 6;have jf7:=R6.out.free 7;have jf8:=R6.out.free 8;have jf9:=R6.out.free 9;have jf10:=R6.out.free 10;have jf11:=R6.out.free 11;go_wp2_with fail;obtain ⟨wz,hwz⟩:∃ X,X=((((((((((((w6.setCell ⟨w.heap.size+1,0,none⟩ (.int .i64 dk.R)).setCell ⟨w.heap.size+1,1,none⟩ (.int .i64 dk.C)).setCell ⟨w.heap.size+1,2,none⟩ (.slice y.a dk.A.length y.ca)).setCell ⟨w.heap.size+1,3,none⟩ (.slice y.b dk.B.length y.cb)).setCell ⟨w.heap.size+1,4,none⟩ (.int .i64 dk.P)).setCell ⟨w.heap.size+1,5,none⟩ (.int .i64 dk.T)).setCell ⟨w.heap.size+1,6,none⟩ (.slice y.v dk.V.length y.cv)).setCell ⟨w.heap.size+1,7,none⟩ (.int .i64 dk.U)).setCell ⟨w.heap.size+1,8,none⟩ (.int .i64 dk.N)).setCell ⟨w.heap.size+1,9,none⟩ (.slice y.w dk.W.length y.cw)).setCell ⟨w.heap.size+1,10,none⟩ (.slice y.k dk.K.length y.ck)).setCell ⟨w.heap.size+1,11,none⟩ (.slice y.f dk.F.length y.cf)):=⟨_,rfl⟩;have hp:fg w6 (w.heap.size+1) (.int .i64 dk.R) (.int .i64 dk.C) (.slice y.a dk.A.length y.ca) (.slice y.b dk.B.length y.cb) (.int .i64 dk.P) (.int .i64 dk.T) (.slice y.v dk.V.length y.cv) (.int .i64 dk.U) (.int .i64 dk.N) (.slice y.w dk.W.length y.cw) (.slice y.k dk.K.length y.ck) (.slice y.f dk.F.length y.cf)=wz:=by rw [hwz];rfl
 rw [← hwz];clear hwz j0 j1 j2 j3 j4 j5 j6 j7 j8 j9 j10 j11 jf0 jf1 jf2 jf3 jf4 jf5 jf6 jf7 jf8 jf9 jf10 jf11;have KZ:Blk wz (w.heap.size+1) (dk.cells y) 33:=by rw [← hp];exact fS R6.out _ _ _ _ _ _ _ _ _ _ _ _
 have TZ:Touch w6 wz (w.heap.size+1) (w.heap.size+1+1):=by rw [← hp];exact et _ _ _ _ _ _ _ _ _ _ _ _ _ _
 clear hp;have BZ:=aE B6.out TZ (by omega) (by omega)
 have OZ:=(O6.out.touch TZ (by omega)).mono (lo':=w.heap.size) (hi':=wz.heap.size) (by omega) (by have:=TZ.size;omega)
 obtain ⟨t0,t1,t2,t3,t4,t5,t6,t7,t8,t9,t10,t11⟩:=af KZ;refine bodyPost_ret (v:=.tuple #[dk.val y,.string (bs tx),.bool true]) (by simp [results,Tryz.results8,go_sem,DD.val,t0,t1,t2,t3,t4,t5,t6,t7,t8,t9,t10,t11];try rfl) rfl ?_
 rw [← HDK.out,← HTX.out];exact ⟨y,rfl,OZ,OZ.rd FF.out,BZ⟩
def fj (U R:Int) (x2 x3:List Int):Option (List UInt8):=if bY U R x2 x3 then some (aJ [[U,R],x2,x3]) else none
theorem sn {U R:Int} {x2 x3:List Int} (h:bY U R x2 x3=true):∀ x∈[[U,R],x2,x3],bq x=true:=by
 simp only [bY,Bool.and_eq_true,bH,fT] at h;obtain ⟨⟨⟨v1,v2⟩,v3,v4⟩,⟨⟨v5,v6⟩,v7⟩,⟨v8,v9⟩,v10⟩:=h;have hp:=sx v1 v2 v3 v4;intro x hx;simp only [List.mem_cons,List.not_mem_nil,or_false] at hx
 rcases hx with rfl | rfl | rfl
 · refine iZ (fun y hy=>?_) (by simp)
   simp only [List.mem_cons,List.not_mem_nil,or_false] at hy;omega
 · exact iZ (fun y hy=>by have:=v7 y hy;omega) (by omega)
 · exact iZ (fun y hy=>by have:=v10 y hy;omega) (by omega)
theorem rG (w:World) (ht:Tab w) (U R:Int) (a2:Option Addr) (c2:Nat) (x2:List Int) (a3:Option Addr) (c3:Nat) (x3:List Int) (h:RdGame w w.heap.size a2 x2 a3 x3) (hl2:x2.length≤1048576) (hl3:x3.length≤1048576) :
 Calls Tryz.prog 13 #[.agg #[.int .i64 U,.int .i64 R,.slice a2 x2.length c2,.slice a3 x3.length c3]] w fun e w'=>e=.returned (.tuple #[.string (bs ((fj U R x2 x3).getD [])),.bool (fj U R x2 x3).isSome])∧Below w.heap.size w w':=by
 have LV:=Na (fun v hb=>dX v U R a2 c2 x2 a3 c3 x3 (h.to hb) hl2 hl3)
 have B0:=ah w (.cells #[.int .i64 U,.int .i64 R,.slice a2 x2.length c2,.slice a3 x3.length c3] 26);have K0:=Blk.new w [.int .i64 U,.int .i64 R,.slice a2 x2.length c2,.slice a3 x3.length c3] 26
 cases t1:bY U R x2 x3 with
 | false =>
   have HF:Hid (fj U R x2 x3=none):=by simp [Hid,fj,t1]
   rw [t1] at LV;clear h t1
   go_enter Tryz.func13,Tryz.ntmps13;go_wp2_with fail;refine (LV.out _ B0).mono ?_;rintro e w1 ⟨rfl,hb1⟩;go_wp2_with fail
   go_ret2
   rw [HF.out];exact ⟨rfl,aa B0 hb1⟩
 | true =>
   have HF:Hid (fj U R x2 x3=some (aJ [[U,R],x2,x3])):=by simp [Hid,fj,t1]
   have HOK:=Na (sn t1);rw [t1] at LV;have HT:=Na ht;have HA:=Na h;clear h t1 ht
   go_enter Tryz.func13,Tryz.ntmps13;go_wp2_with fail;refine (LV.out _ B0).mono ?_;rintro e w1 ⟨rfl,hb1⟩;have B1:=aa B0 hb1;have K1:=K0.same hb1;have k0:=K1.cell 0;have k1:=K1.cell 1;have k2:=K1.cell 2;have k3:=K1.cell 3;simp only [List.getElem?_cons_zero,List.getElem?_cons_succ] at k0 k1 k2 k3;have HA1:=HA.out.to B1;have HT1:=Na (HT.out.to B1);have q2:=(ah w1 (.cells #[.int .i64 U,.int .i64 R] 2)).cell (p:=⟨w.heap.size,2,none⟩) K1.lt;have q3:=(ah w1 (.cells #[.int .i64 U,.int .i64 R] 2)).cell (p:=⟨w.heap.size,3,none⟩) K1.lt;rw [k2] at q2;rw [k3] at q3;have HB:=Na B1;have hHA:=Na HA1;clear B1 K1 B0 K0 hb1 HA1 HT HA;go_wp2_with fail;have b2:=bR w1 (.cells #[.int .i64 U,.int .i64 R] 2) (.cells #[.slice (some ⟨w1.heap.size,0,none⟩) 2 2,.slice a2 x2.length c2,.slice a3 x3.length c3] 24);obtain ⟨e1,e2⟩:=zC w1 [.int .i64 U,.int .i64 R] [.slice (some ⟨w1.heap.size,0,none⟩) 2 2,.slice a2 x2.length c2,.slice a3 x3.length c3] 2 24;have hA2:=hHA.out.to b2;refine (jP _ (HT1.out.to b2) _ _ [[U,R],x2,x3] (Lz e2 e1 hA2.1 hA2.2) (by simp) HOK.out).mono ?_
   rintro e w2 ⟨rfl,hb2⟩;have hB:=aa HB.out (aa b2 hb2);clear b2 e1 e2 hA2 hb2;go_wp2_with fail
   go_ret2
   rw [HF.out];exact ⟨rfl,hB⟩
theorem Cj (w:World) (b o:Nat) (U R:Int) (a2:Option Addr) (c2:Nat) (x2:List Int) (a3:Option Addr) (c3:Nat) (x3:List Int)
 (d0:w.cell? ⟨b,o,none⟩=some (.int .i64 U)) (d1:w.cell? ⟨b,o+1,none⟩=some (.int .i64 R)) (d2:w.cell? ⟨b,o+2,none⟩=some (.slice a2 x2.length c2)) (d3:w.cell? ⟨b,o+3,none⟩=some (.slice a3 x3.length c3))
 (h:RdGame w w.heap.size a2 x2 a3 x3) (ok:∀ x∈[[U,R],x2,x3],bq x=true) :
 Calls Tryz.prog 62 #[.pointer (some ⟨b,o,none⟩)] w fun e w'=>e=.returned (.string (bs (aJ [[U,R],x2,x3])))∧Below w.heap.size w w':=by
 have hbk:=World.block_lt_of_cell? w _ d0;have HS:Hid (∀ w',Below w.heap.size w w'→(w'.cell? ⟨b,o,none⟩=some (.int .i64 U)∧w'.cell? ⟨b,o+1,none⟩=some (.int .i64 R)∧w'.cell? ⟨b,o+2,none⟩=some (.slice a2 x2.length c2)∧w'.cell? ⟨b,o+3,none⟩=some (.slice a3 x3.length c3))):=fun w' hb =>
  ⟨(hb.cell (p:=⟨b,o,none⟩) hbk).trans d0,(hb.cell (p:=⟨b,o+1,none⟩) hbk).trans d1,(hb.cell (p:=⟨b,o+2,none⟩) hbk).trans d2,(hb.cell (p:=⟨b,o+3,none⟩) hbk).trans d3⟩
 have o0:=ok [U,R] (by simp)
 have o1:=ok x2 (by simp)
 have o2:=ok x3 (by simp)
 have LU:Hid (Calls Tryz.prog 96 #[.slice (some ⟨w.heap.size,0,none⟩) 2 2] (w.alloc (.cells #[.int .i64 U,.int .i64 R] 2)).drew _):=fl (w.alloc (.cells #[.int .i64 U,.int .i64 R] 2)).drew (some ⟨w.heap.size,0,none⟩) 2 [U,R] (fw (show Blk (w.alloc (.cells #[.int .i64 U,.int .i64 R] 2)).drew _ _ _ from Blk.new w [.int .i64 U,.int .i64 R] 2)) (by simp) (eh o0).1
 have HD:Hid (Below w.heap.size w w.drew):=au (Below.refl _ _);have HE:Hid (Below w.heap.size w (w.alloc (.cells #[.int .i64 U,.int .i64 R] 2)).drew):=au (ah _ _);have LW:=Na (fun (w':World) (hb:Below w.heap.size w w')=>fl w' a2 c2 x2 (h.1.to hb) (by have:=(eh o1).2;omega) (eh o1).1)
 have LC:=Na (fun (w':World) (hb:Below w.heap.size w w')=>fl w' a3 c3 x3 (h.2.to hb) (by have:=(eh o2).2;omega) (eh o2).1)
 have z0:=gJ o0;have z1:=gJ o1;have z2:=gJ o2;have HP:=Na (Hx [U,R] x2 x3);have HQ:Hid (bs (az [U,R]) ++ ⟨#[59]⟩ ++ bs (az x2) ++ ⟨#[59]⟩ ++ bs (az x3)=bs (aJ [[U,R],x2,x3])):=by
  show _=_
  rw [HP.out,← bG,← bG,← bG,← bG];rfl
 generalize bs (az [U,R])=T0 at *
 generalize bs (az x2)=T1 at *
 generalize bs (az x3)=T2 at *
 have n0:¬ 9223372036854775807<T0.size+1:=by omega
 have n1:¬ 9223372036854775807<T0.size+1+T1.size:=by omega
 have n2:¬ 9223372036854775807<T0.size+1+T1.size+1:=by omega
 have n3:¬ 9223372036854775807<T0.size+1+T1.size+1+T2.size:=by omega
 clear HP o0 o1 o2 h ok
 go_enter Tryz.func62,Tryz.ntmps62;obtain ⟨d0,d1,d2,d3⟩:=HS.out _ (Below.refl _ _);go_wp2_with fail
 go_region_held3 (fun w'=>w'.cell? ⟨b,o,none⟩=some (.int .i64 U)∧w'.cell? ⟨b,o+1,none⟩=some (.int .i64 R)∧w'.cell? ⟨b,o+2,none⟩=some (.slice a2 x2.length c2)∧w'.cell? ⟨b,o+3,none⟩=some (.slice a3 x3.length c3))
  (first | with_reducible exact HS.out _ hB3 | with_reducible exact HS.out _ hB2 | with_reducible exact HS.out _ hB1 | with_reducible exact HS.out _ HD.out | with_reducible exact HS.out _ HE.out)
  (first | (go_at_call 96;with_reducible refine (LU.out).mono ?_;rintro e w4 ⟨rfl,hz1⟩;have hB1:=aa HE.out hz1) | (go_at_call 96;with_reducible refine (LW.out _ hB1).mono ?_;rintro e w5 ⟨rfl,hz2⟩;have hB2:=aa hB1 hz2) | (go_at_call 96;with_reducible refine (LC.out _ hB2).mono ?_;rintro e w6 ⟨rfl,hz3⟩;have hB3:=aa hB2 hz3))
 all_goals
  clear hz1 hz2 hz3 hB1 hB2;go_wp2_with fail;go_ret;exact ⟨by rw [← HQ.out];rfl,hB3⟩
end Go.Proofs.YtbknhgapjjaelaaGreatDoor
