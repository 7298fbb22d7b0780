/-
  Part 41 of what the proof stands on: lemmas and contracts, each with its conditions ahead of the colon.
-/
import Derived.Test.YtbknhgapjjaelaaGreatDoorPj01
import Derived.Lib.UnsafeStr
import Derived.Deep.RegionHeld3
import Derived.Test.YtbknhgapjjaelaaGreatDoorPj02
import Derived.Test.YtbknhgapjjaelaaGreatDoorPj03
import Derived.Test.YtbknhgapjjaelaaGreatDoorPj24
import Derived.Test.YtbknhgapjjaelaaGreatDoorPj25
import Derived.Test.YtbknhgapjjaelaaGreatDoorPj40
set_option maxRecDepth 100000
set_option maxHeartbeats 64000000
namespace Go.Proofs.YtbknhgapjjaelaaGreatDoor
set_option linter.unusedVariables false
set_option linter.unusedSimpArgs false
open Go.RowKit
theorem vK {P:Program} {w:World} (base:Nat) (t u ty e:TypeId) (i:TypeInfo) (ht:P.underlying t=some (.slice e)) (hu:P.underlying u=some .string) (hi:P.info? e=some i) (hz:i.zero=some (.int .u8 0))
 (hsize:i.size=1) (hby:i.bytes=1)
 (v:Value) (n:Nat) (xs:List Value) (hown:w.ownsRow base e 1 v n xs) (s:ByteArray)
 (h63:n+s.size≤maxLen) (hbytes:n+s.size≤140737488355328) (hbase:base≤w.heap.size) :
 ∃ v' w',(Builtin.append_ #[t,u] ty #[v,.string s]).run P w=.ok v' w'∧w'.ownsRow base e 1 v' (n+s.size) (xs ++ Lib.strCells s)∧w.grownBy w' v.ownBlock ∧
  ∀ k,v'.ownBlock=some k→v.ownBlock=some k∨w.heap.size≤k:=by
 obtain ⟨v',w',hr,h2,h3,h4⟩:=Lib.run_append_own_string (P:=P) w base t u ty e i ht hu hi hz hsize hby v n xs hown s h63 hbytes hbase;refine ⟨v',w',hr,h2,h3,?_⟩
 have hsmall:n+s.size≤9223372036854775807:=by simp only [maxLen] at h63;omega
 have hxl:xs.length=n:=by simpa using hown.1
 intro k hk
 rcases hown.2 with ⟨rfl,rfl⟩ | ⟨g,cap,cur,rfl,hbg,hg,hnc,hcm,hcs,htake⟩
 · by_cases hm:s.size=0
   · have:=h4.2 ⟨rfl,hm⟩;subst this;cases hk
   · have hr':=run_append_nil_string (P:=P) w t u ty e i (.int .u8 0) ht hu hi hz s (by omega) (by omega) (by rw [hby];omega)
     rw [hr] at hr';injection hr' with e1 e2
     subst e1;injection hk with hk
     exact .inr (Nat.le_of_eq hk)
 · by_cases hroom:n+s.size≤cap
   · have hcs':cur.size=cap:=by simpa using hcs
     have hr':=Lib.run_append_room_string (P:=P) w t u ty e i ht hu hi hsize g n cap cur hg s hroom (by omega)
     rw [hr] at hr';injection hr' with e1 e2
     subst e1;exact .inl hk
   · have holds:∀ j u,xs[j]? = some u→w.cell? ((⟨g,0,none⟩:Addr).add j)=some u:=hown.cells (g:=g) rfl
     have hr':=Lib.run_append_grow_string (P:=P) w t u ty e i (.int .u8 0) ht hu hi hz ⟨g,0,none⟩ n cap xs (by rw [hsize];simpa using hxl) holds s (by omega) (by omega) (by rw [hby];exact growslice_fits (by omega) (by omega))
     rw [hr] at hr';injection hr' with e1 e2
     subst e1;injection hk with hk
     exact .inr (Nat.le_of_eq hk)
theorem sC {P:Program} {w:World} {ops:Array Oper} {rest:List Oper} {o:Oper} {a:Act} {Q:Exit→Act→World→Prop} (hgd:o.guard=none) (sl x:Operand) (t u:TypeId)
 (ho:o.op=.call { callee:=.builtin .append,args:=#[sl,x],argTypes:=#[t,u] })
 (base:Nat) (e:TypeId) (i:TypeInfo) (ht:P.underlying t=some (.slice e)) (hu:P.underlying u=some .string) (hi:P.info? e=some i) (hz:i.zero=some (.int .u8 0))
 (hsize:i.size=1) (hby:i.bytes=1)
 (v:Value) (n:Nat) (xs:List Value) (hs:a.eval sl=v) (hown:w.ownsRow base e 1 v n xs) (s:ByteArray) (hx:a.eval x=.string s)
 (h63:n+s.size≤maxLen) (hbytes:n+s.size≤140737488355328) (hbase:base≤w.heap.size)
 (h:∀ v' w',w'.ownsRow base e 1 v' (n+s.size) (xs ++ Lib.strCells s)→w.grownBy w' v.ownBlock→(∀ k,v'.ownBlock=some k→v.ownBlock=some k∨w.heap.size≤k)→wpList P ops Q rest (a.put o.dst v') w'):wpList P ops Q (o :: rest) a w:=by
 refine wpList_plain hgd fun K hK=>?_
 obtain ⟨v',w',hr,h2,h3,h4⟩:=vK (P:=P) (w:=w) base t u o.type e i ht hu hi hz hsize hby v n xs hown s h63 hbytes hbase;unfold Oper.wp execOp;simp only [ho,resolve,invoke,builtin,Sem.run_bind,Sem.run_pure,Result.andThen_ok,List.map_toArray,List.map_cons,List.map_nil,hs,hx,hr];exact hK _ _ (h v' w' h2 h3 h4)
def ue (B b:Nat) (v:Value) (bs:List Value) (w:World):Prop :=
 B≤b∧(∃ p,(p=.pointer none∨p=.pointer (some ⟨b,0,none⟩))∧w.heap[b]? = some (.cells #[p,v] 85 (0,0)))∧w.ownsRow B 5 1 v bs.length bs∧v.ownBlock≠some b
structure BldW (b:Nat) (v:Value) (w w':World):Prop where
 os:w'.os=w.os
 tape:w'.tape=w.tape
 output:w'.output=w.output
 size:w.heap.size≤w'.heap.size
 block:∀ k,k<w.heap.size→k≠b→v.ownBlock≠some k→w'.heap[k]? = w.heap[k]?
theorem zZ (B b:Nat) (bs:List Value) (w:World) (v:Value) (h:ue B b v bs w) :
 Calls Tryz.prog 81 #[.pointer (some ⟨b,0,none⟩)] w fun e w'=>e=.returned (.tuple #[])∧(B≤b∧w'.heap[b]? = some (.cells #[.pointer (some ⟨b,0,none⟩),v] 85 (0,0))∧w'.ownsRow B 5 1 v bs.length bs∧v.ownBlock≠some b)∧w'.heap.size=w.heap.size∧BldW b v w w':=by
 obtain ⟨hB,⟨p,hp,hk⟩,ho,hne⟩:=h
 rcases hp with rfl | rfl
 · have h:Lib.BuilderAt 85 5 B b (.pointer none) bs w:=⟨hB,v,hk,ho,hne⟩
   refine (xx b w h.cell0 h.shape h.frozen0).mono ?_;rintro e w' ⟨rfl,rfl⟩;refine ⟨rfl,⟨hB,by simp [World.setCell,Array.getElem?_modify,hk],?_,hne⟩,by simp [World.setCell],?_⟩
   · exact ho.kept (row:=some b) ⟨rfl,rfl,rfl,by simp [World.setCell],fun k _ h'=>Below.heap_setCell _ _ _ _ (fun e=>h' (by simp [e]))⟩ (Or.inr hne)
   · exact ⟨rfl,rfl,rfl,by simp [World.setCell],fun k _ h' _=>Below.heap_setCell _ _ _ _ (fun e=>h' (by simp [e]))⟩
 · have h:Lib.BuilderAt 85 5 B b (.pointer (some ⟨b,0,none⟩)) bs w:=⟨hB,v,hk,ho,hne⟩
   refine (Aa b w h.cell0).mono ?_;rintro e w' ⟨rfl,rfl⟩;exact ⟨rfl,⟨hB,hk,ho,hne⟩,rfl,⟨rfl,rfl,rfl,Nat.le_refl _,fun _ _ _ _=>rfl⟩⟩
theorem xo (B b:Nat) (bs:List Value) (s:ByteArray) (w:World) (v:Value) (h:ue B b v bs w) (hlen:bs.length+s.size≤140737488355328) (hBw:B≤w.heap.size) :
 Calls Tryz.prog 42 #[.pointer (some ⟨b,0,none⟩),.string s] w fun e w'=>e=.returned (.tuple #[.int .i64 s.size,.nilIface])∧∃ v',ue B b v' (bs ++ Lib.strCells s) w'∧BldW b v w w'∧∀ k,v'.ownBlock=some k→v.ownBlock=some k∨w.heap.size≤k:=by
 obtain ⟨i0,hi,hz0,hz1,hz2⟩:=info_parts G9;have LC:=Oi (zZ B b bs w v h);clear h
 go_enter Tryz.func42,Tryz.ntmps42;go_wp2_with fail;refine LC.out.mono ?_;rintro e w1 ⟨rfl,⟨hB,hbk,hown,hne⟩,hs1,hW⟩;have HW:=Oi hW;clear hW;have c0:w1.cell? ⟨b,0,none⟩=some (.pointer (some ⟨b,0,none⟩)):=by rw [Lib.cell_of_heap hbk];rfl
 have c1:w1.cell? ⟨b,1,none⟩=some v:=by rw [Lib.cell_of_heap hbk];rfl
 go_wp2_with (at_builtin;refine sC rfl _ _ 22 9 rfl B 5 i0 Tryz.underlying22 Tryz.underlying9 hi hz0 hz1 hz2 _ _ _ rfl hown s rfl ?c3 ?c4 ?c5 ?_)
 case c3=>unfold maxLen;omega
 case c4=>omega
 case c5=>omega
 intro v' w2 hown' hgrow hnew;have hlt:b<w1.heap.size:=by
  rcases Nat.lt_or_ge b w1.heap.size with h' | h'
  · exact h'
  · simp [Array.getElem?_eq_none h'] at hbk
 have hb2:w2.heap[b]? = some (.cells #[.pointer (some ⟨b,0,none⟩),v] 85 (0,0)):=by
  rw [hgrow.block b hlt (fun e=>hne e.symm)]
  exact hbk
 have d0:w2.cell? ⟨b,0,none⟩=some (.pointer (some ⟨b,0,none⟩)):=by rw [Lib.cell_of_heap hb2];rfl
 have d1:w2.cell? ⟨b,1,none⟩=some v:=by rw [Lib.cell_of_heap hb2];rfl
 have f1:w2.frozen? ⟨b,1,none⟩=false:=Lib.frozen_of_heap hb2 1;have hne':v'.ownBlock≠some b:=fun e=>by
  rcases hnew b e with h | h
  · exact hne h
  · omega
 have HN:=Oi hnew;have HO:=Oi hown';have HG:=Oi hgrow;have HNE:=Oi hne';have HN0:=Oi hne;obtain ⟨ao,n',cap,rfl⟩:∃ ao n' cap,v'=.slice ao n' cap:=by
  rcases hown'.2 with ⟨hv,_⟩ | ⟨g,cap,cur,hv,_⟩
  · exact ⟨_,_,_,hv⟩
  · exact ⟨_,_,_,hv⟩
 clear hnew hown' hgrow hne' hne
 go_wp2
 go_ret2
 refine ⟨rfl,.slice ao n' cap,⟨hB,⟨_,.inr rfl,by simp [World.setCell,Array.getElem?_modify,hb2]⟩,?_,HNE.out⟩,?_,fun k hk=>HN.out k hk⟩
 · have ho:w2.ownsRow B 5 1 (.slice ao n' cap) (bs ++ Lib.strCells s).length (bs ++ Lib.strCells s):=by simpa [Lib.strCells_length] using HO.out
   exact ho.kept (row:=some b) ⟨rfl,rfl,rfl,by simp [World.setCell],fun k _ h'=>Below.heap_setCell _ _ _ _ (fun e=>h' (by simp [e]))⟩ (Or.inr HNE.out)
 · refine ⟨?_,?_,?_,?_,fun k hk h1 h2=>?_⟩
   · exact HG.out.os.trans HW.out.os
   · exact HG.out.tape.trans HW.out.tape
   · exact HG.out.output.trans HW.out.output
   · have h1:=HW.out.size
     have h2:=HG.out.size;simp [World.setCell];omega
   · rw [Below.heap_setCell _ _ _ _ (fun e=>h1 (by simp [e])),HG.out.block k (by have:=HW.out.size;omega) (fun e=>h2 e.symm),HW.out.block k hk h1 h2]
theorem Aq (w:World) (g n:Nat):(w.freeze ⟨g,0,none⟩ n).os=w.os∧(w.freeze ⟨g,0,none⟩ n).tape=w.tape∧(w.freeze ⟨g,0,none⟩ n).output=w.output∧(w.freeze ⟨g,0,none⟩ n).heap.size=w.heap.size∧∀ k,k≠g→(w.freeze ⟨g,0,none⟩ n).heap[k]? = w.heap[k]?:=by
 unfold World.freeze
 split
 · exact ⟨rfl,rfl,rfl,rfl,fun _ _=>rfl⟩
 · refine ⟨rfl,rfl,rfl,by simp,fun k hk=>?_⟩
   simp only [Array.getElem?_modify];rw [if_neg (by omega)]
theorem GO:Tryz.prog.cellsOf 5=1:=by kernel_rfl
theorem I8 (B b:Nat) (l:List UInt8) (w:World) (v:Value) (h:ue B b v (Lib.byteCells l) w) (h0:l≠[]) :
 Calls Tryz.prog 43 #[.pointer (some ⟨b,0,none⟩)] w fun e w'=>e=.returned (.string (bs l))∧BldW b v w w':=by
 obtain ⟨hB,⟨p,-,hbk⟩,hown,hne⟩:=h;have hl0:l.length≠0:=by simpa using h0
 rw [Lib.byteCells_length] at hown;obtain ⟨g,cap,cur,rfl,hbg,hg,hnc,hcm,hcs,htake⟩:∃ g cap cur,v=.slice (some ⟨g,0,none⟩) l.length cap∧B≤g∧w.heap[g]? = some (.cells cur 5 (0,0))∧l.length≤cap∧cap≤maxLen∧cur.size=cap * 1∧cur.toList.take (l.length * 1)=Lib.byteCells l:=by
  rcases hown.2 with ⟨_,hz⟩ | ⟨g,cap,cur,hv,r⟩
  · exact absurd hz hl0
  · exact ⟨g,cap,cur,hv,r⟩
 have c1:w.drew.cell? ⟨b,1,none⟩=some (.slice (some ⟨g,0,none⟩) l.length cap):=by
  have:w.drew.heap[b]? = some (.cells #[p,.slice (some ⟨g,0,none⟩) l.length cap] 85 (0,0)):=hbk;rw [Lib.cell_of_heap this];rfl
 have hSD:(Builtin.unsafeSliceData_ #[22] 135 #[.slice (some ⟨g,0,none⟩) l.length cap]).run Tryz.prog w.drew=.ok (.pointer (some ⟨g,0,none⟩)) w.drew :=
  Lib.run_unsafeSliceData_row _ _ _ _ _ _ (by omega)
 have hUS:(Builtin.unsafeString_ #[135,3] 9 #[.pointer (some ⟨g,0,none⟩),.int .i64 l.length]).run Tryz.prog w.drew=.ok (.string ⟨l.toArray⟩) (w.drew.freeze ⟨g,0,none⟩ l.length):=by
  refine Lib.run_unsafeString_row w.drew 135 3 9 5 Tryz.underlying135 GO g cur.size (by have hg':w.drew.heap[g]? = some (.cells cur 5 (0,0)):=hg;simp [World.shape?,hg']) l h0 (by omega) (by unfold maxLen at hcm;omega) ?_
  intro j x hx;exact hown.cells (g:=g) rfl j (.int .u8 x.toNat) (by simp [Lib.byteCells,hx])
 have HF:=Oi (Aq w.drew g l.length);have hbg':b≠g:=fun e=>hne (by rw [e];rfl)
 have c2:(w.drew.freeze ⟨g,0,none⟩ l.length).cell? ⟨b,1,none⟩=some (.slice (some ⟨g,0,none⟩) l.length cap):=by
  rw [World.cell?_of_block (w:=w.drew) (HF.out.2.2.2.2 b hbg')];exact c1
 clear hbg' htake hcs hcm hnc hg hbg hown hbk hne hl0 hB h0
 go_enter Tryz.func43,Tryz.ntmps43
 go_upto_region 1 with fail
 go_region_held3 (fun w'=>w'.cell? ⟨b,1,none⟩=some (.slice (some ⟨g,0,none⟩) l.length cap)) (first | assumption | exact c1 | exact c2) (first | exact hSD | exact hUS)
 all_goals
  go_wp2_with fail;go_ret;exact ⟨rfl,HF.out.1,HF.out.2.1,HF.out.2.2.1,Nat.le_of_eq HF.out.2.2.2.1.symm,fun k hk _ h2=>HF.out.2.2.2.2 k (fun e=>h2 (by rw [e];rfl))⟩
structure RnS (w w2:World) (d:DD) (x:DA) (v:Value) (out:List UInt8) (wx:World):Prop where
 K:Blk wx w.heap.size (d.cells x) 33
 R:Blk wx (w.heap.size+1) [.int .i64 0,.int .i64 0,.slice none 0 0,.slice none 0 0,.int .i64 0,.int .i64 0,.slice none 0 0,.int .i64 0,.int .i64 0,.slice none 0 0,.slice none 0 0,.slice none 0 0] 33
 B:Below w.heap.size w wx
 D:DRd wx wx.heap.size d x
 V:ue w2.heap.size w2.heap.size v (Lib.byteCells out) wx
 N:DNo (fun k=>k=w.heap.size∨k=w.heap.size+1∨k=w2.heap.size∨v.ownBlock=some k) x
 S:w2.heap.size<wx.heap.size
 L:∀ k,k<w2.heap.size→k≠w.heap.size→k≠w.heap.size+1→wx.heap[k]? = w2.heap[k]?
theorem CL {w w':World} {g:Nat} (h:Touch w w' g (g+1)):w.grownBy w' (some g) :=
 ⟨h.os,h.tape,h.output,h.size,fun k hk hne=>h.block k hk (by rcases Nat.lt_trichotomy k g with h1 | h1 | h1;exact .inl h1;exact absurd (by rw [h1]) hne;exact .inr h1)⟩
theorem RnS.bld {w w2 wr w4 w5:World} {d:DD} {x:DA} {v:Value} {out:List UInt8} (h:RnS w w2 d x v out wr) (hs:w.heap.size+2≤w2.heap.size) (hb:Below wr.heap.size wr w4) (ht:Touch w4 w5 w.heap.size (w.heap.size+1)):ue w2.heap.size w2.heap.size v (Lib.byteCells out) w5:=by
 obtain ⟨hB,⟨p,hp,hk⟩,ho,hne⟩:=h.V;have hlt:w2.heap.size<wr.heap.size:=h.S;refine ⟨hB,⟨p,hp,?_⟩,?_,hne⟩
 · rw [ht.block _ (by have:=hb.size;omega) (.inr (by omega)),hb.block _ hlt];exact hk
 · refine (aD ho hb).kept (CL ht) (.inr fun e=>?_)
   have:=ho.lt _ e;omega
theorem RnS.step {w w2 wr w3 w4 w5 w6:World} {d d':DD} {x x':DA} {v v':Value} {out out':List UInt8} (h:RnS w w2 d x v out wr) (hs:w.heap.size+2≤w2.heap.size) (hok:d'.ok=true) (hb:Below wr.heap.size wr w3) (hD:DRd w3 w3.heap.size d' x') (hx:x'=x∨DLo wr.heap.size x')
 (h4:w4=w3.alloc (.cells #[.int .i64 d'.R,.int .i64 d'.C,.slice x'.a d'.A.length x'.ca,.slice x'.b d'.B.length x'.cb,.int .i64 d'.P,.int .i64 d'.T,.slice x'.v d'.V.length x'.cv,.int .i64 d'.U,.int .i64 d'.N,.slice x'.w d'.W.length x'.cw,.slice x'.k d'.K.length x'.ck,.slice x'.f d'.F.length x'.cf] 33)) (h5:gV w4 w.heap.size (.int .i64 d'.R) (.int .i64 d'.C) (.slice x'.a d'.A.length x'.ca) (.slice x'.b d'.B.length x'.cb) (.int .i64 d'.P) (.int .i64 d'.T) (.slice x'.v d'.V.length x'.cv) (.int .i64 d'.U) (.int .i64 d'.N) (.slice x'.w d'.W.length x'.cw) (.slice x'.k d'.K.length x'.ck) (.slice x'.f d'.F.length x'.cf)=w5) (hV:ue w2.heap.size w2.heap.size v' (Lib.byteCells out') w6) (hW:BldW w2.heap.size v w5 w6) (hn:∀ k,v'.ownBlock=some k→v.ownBlock=some k∨w5.heap.size≤k):RnS w w2 d' x' v' out' w6:=by
 have hba:Below w3.heap.size w3 w4:=by rw [h4];exact ai _ _
 have hb4:Below wr.heap.size wr w4:=aa hb hba;have T:Touch w4 w5 w.heap.size (w.heap.size+1):=by rw [← h5];exact fY _ _ _ _ _ _ _ _ _ _ _ _ _ _
 have s5:w5.heap.size=w4.heap.size:=by rw [← h5];exact qR _ _ _ _ _ _ _ _ _ _ _ _ _ _
 have hS:=h.S;have z4:=hb4.size;have z6:=hW.size;have hown:∀ k,v.ownBlock=some k→w2.heap.size≤k∧k<wr.heap.size:=fun k e=>h.V.2.2.1.lt k e
 have hgo:∀ k,k<w2.heap.size→v.ownBlock≠some k:=fun k hk e=>by have:=(hown k e).1;omega
 have K5:Blk w5 w.heap.size (d'.cells x') 33:=by rw [← h5];exact jm (h.K.same hb4) _ _ _ _ _ _ _ _ _ _ _ _
 have R5:=(h.R.same hb4).touch T (.inr (Nat.le_refl _));have D4:=hD.to hba;have N':DNo (fun k=>k=w.heap.size∨k=w.heap.size+1∨k=w2.heap.size∨v.ownBlock=some k) x':=by
  rcases hx with rfl | hx
  · exact h.N
  · refine DNo.of_lo hx (fun k hk=>?_)
    rcases hk with rfl | rfl | rfl | hk
    · omega
    · omega
    · omega
    · exact (hown _ hk).2
 have D5:=D4.no N' (Nat.le_of_eq s5.symm) (fun k hk hn=>T.block k hk (by
  rcases Nat.lt_trichotomy k w.heap.size with h1 | h1 | h1
  · exact .inl h1
  · exact absurd (.inl h1) hn
  · exact .inr h1))
 have D6:=D5.no N' z6 (fun k hk hn=>hW.block k hk (fun e=>hn (.inr (.inr (.inl e)))) (fun e=>hn (.inr (.inr (.inr e)))))
 have NL:DNo (fun k=>w5.heap.size≤k) x':=D5.lt hok (fun k hk=>hk)
 refine ⟨?_,?_,?_,D6,hV,N'.or NL (fun k hk=>?_),by omega,fun k hk h1 h2=>?_⟩
 · exact (hW.block _ K5.lt (by omega) (hgo _ (by omega))).trans K5
 · exact (hW.block _ R5.lt (by omega) (hgo _ (by omega))).trans R5
 · have hB:=h.B
   exact ⟨hW.os.trans (T.os.trans (hb4.os.trans hB.os)),hW.tape.trans (T.tape.trans (hb4.tape.trans hB.tape)),hW.output.trans (T.output.trans (hb4.output.trans hB.output)),by have:=hB.size;omega,fun k hk=>(hW.block k (by omega) (by omega) (hgo _ (by omega))).trans ((T.block k (by omega) (.inl hk)).trans ((hb4.block k (by omega)).trans (hB.block k hk)))⟩
 · rcases hk with hk | hk | hk | hk
   · exact .inl (.inl hk)
   · exact .inl (.inr (.inl hk))
   · exact .inl (.inr (.inr (.inl hk)))
   · rcases hn k hk with hk | hk
     · exact .inl (.inr (.inr (.inr hk)))
     · exact .inr hk
 · exact (hW.block k (by omega) (by omega) (hgo _ hk)).trans ((T.block k (by omega) (by omega)).trans ((hb4.block k (by omega)).trans (h.L k hk h1 h2)))
theorem RnS.tail {w w2 wr w3 w6:World} {d:DD} {x y:DA} {v:Value} {out:List UInt8} (h:RnS w w2 d x v out wr) (hs:w.heap.size+2≤w2.heap.size) (hb:Below wr.heap.size wr w3) (hO:OwnDd w3 wr.heap.size w3.heap.size d y) (hW:BldW w2.heap.size v w3 w6):Blk w6 (w.heap.size+1) [.int .i64 0,.int .i64 0,.slice none 0 0,.slice none 0 0,.int .i64 0,.int .i64 0,.slice none 0 0,.int .i64 0,.int .i64 0,.slice none 0 0,.slice none 0 0,.slice none 0 0] 33∧Below w.heap.size w w6∧OwnDd w6 wr.heap.size w3.heap.size d y∧w3.heap.size≤w6.heap.size:=by
 have hS:=h.S;have z3:=hb.size;have hown:∀ k,v.ownBlock=some k→w2.heap.size≤k∧k<wr.heap.size:=fun k e=>h.V.2.2.1.lt k e
 have R3:=h.R.same hb;have hB:=h.B;refine ⟨(hW.block _ R3.lt (by omega) (fun e=>by have:=hown _ e;omega)).trans R3,?_,hO.touch (lo':=w2.heap.size) (hi':=wr.heap.size) ⟨hW.os,hW.tape,hW.output,hW.size,fun k hk hd=>hW.block k hk (by omega) (fun e=>by have:=hown _ e;omega)⟩ (Nat.le_refl _),hW.size⟩
 exact ⟨hW.os.trans (hb.os.trans hB.os),hW.tape.trans (hb.tape.trans hB.tape),hW.output.trans (hb.output.trans hB.output),by have:=hB.size;have:=hW.size;omega,fun k hk=>(hW.block k (by omega) (by omega) (fun e=>by have:=hown _ e;omega)).trans ((hb.block k (by omega)).trans (hB.block k hk))⟩
theorem Di (w:World) (d:DD) (x:DA) (s:ByteArray) (ps:List ma) (hE:Env w) (hok:d.ok=true) (hR:DRd w w.heap.size d x) (hs:s.size≤16000) (hr:mj s.data.toList=[])
 (hls:ce s.data.toList=ps.map (·.1)) (HF:∀ p∈ps,Et p.1 p.2) (HO:∀ p∈ps,∀ d:DD,d.ok=true→(p.2 d).1.ok=true∧(p.2 d).2.length≤1048576) :
 Calls Tryz.prog 11 #[d.val x,.string s] w fun e w'=>∃ y:DA,e=.returned (.tuple #[(dO ps (d,[])).1.val y,.string (bs (dO ps (d,[])).2),.bool true])∧OwnDd w' w.heap.size w'.heap.size (dO ps (d,[])).1 y∧Below w.heap.size w w':=by
 obtain ⟨w0,hw0⟩:∃ X,X=(w.alloc (.cells #[.int .i64 d.R,.int .i64 d.C,.slice x.a d.A.length x.ca,.slice x.b d.B.length x.cb,.int .i64 d.P,.int .i64 d.T,.slice x.v d.V.length x.cv,.int .i64 d.U,.int .i64 d.N,.slice x.w d.W.length x.cw,.slice x.k d.K.length x.ck,.slice x.f d.F.length x.cf] 33)).alloc (.cells #[.int .i64 0,.int .i64 0,.slice none 0 0,.slice none 0 0,.int .i64 0,.int .i64 0,.slice none 0 0,.int .i64 0,.int .i64 0,.slice none 0 0,.slice none 0 0,.slice none 0 0] 33):=⟨_,rfl⟩;have K0:Blk w0 w.heap.size (d.cells x) 33:=by rw [hw0];exact (Blk.new w _ _).alloc _
 have R0:Blk w0 (w.heap.size+1) [.int .i64 0,.int .i64 0,.slice none 0 0,.slice none 0 0,.int .i64 0,.int .i64 0,.slice none 0 0,.int .i64 0,.int .i64 0,.slice none 0 0,.slice none 0 0,.slice none 0 0] 33:=by
  rw [hw0];have:=Blk.new (w.alloc (.cells #[.int .i64 d.R,.int .i64 d.C,.slice x.a d.A.length x.ca,.slice x.b d.B.length x.cb,.int .i64 d.P,.int .i64 d.T,.slice x.v d.V.length x.cv,.int .i64 d.U,.int .i64 d.N,.slice x.w d.W.length x.cw,.slice x.k d.K.length x.ck,.slice x.f d.F.length x.cf] 33)) [.int .i64 0,.int .i64 0,.slice none 0 0,.slice none 0 0,.int .i64 0,.int .i64 0,.slice none 0 0,.int .i64 0,.int .i64 0,.slice none 0 0,.slice none 0 0,.slice none 0 0] 33;rwa [World.size_alloc] at this
 have B0:Below w.heap.size w w0:=by rw [hw0];exact cd _ _ _
 have s0:w0.heap.size=w.heap.size+2:=by rw [hw0];simp
 have LL:=Oi (CU w0 (hE.shp.to B0) s (by omega))
 rw [show (decide (s.data.toList.length≤16000) && decide (mj s.data.toList=[]))=true from by rw [hr];have:=Lib.size_eq s;simp;omega] at LL
 unfold Lv at LL;obtain ⟨⟨a1,a2⟩,⟨b1,b2⟩,⟨v1,v2⟩,⟨l1,l2⟩,⟨k1,k2⟩,f1,f2⟩:=DD.ok_len hok;have LV:=Oi (fun (v:World) (hb:Below w.heap.size w v)=>mX v d.R d.C x.a x.ca d.A x.b x.cb d.B d.P d.T x.v x.cv d.V d.U d.N x.w x.cw d.W x.k x.ck d.K x.f x.cf d.F (hR.to hb).r (by omega) (by omega) (by omega) (by omega) (by omega) (by omega))
 rw [show gQ d.R d.C d.A d.B d.P d.T d.V d.U d.N d.W d.K d.F=true from hok] at LV
 have HK0:=Oi K0;have HR0:=Oi R0;have HB0:=Oi B0;have HE:=Oi hE;have HOK:=Oi hok;have HR:=Oi hR;have HFF:=Oi HF;have HOO:=Oi HO;clear hE hok hR HF HO K0 R0 B0 a1 a2 b1 b2 v1 v2 l1 l2 k1 k2 f1 f2 hr;rw [hls] at LL;have hpl:ps.length≤16000:=by
  have e:=qz s.data.toList;rw [hls,List.length_map] at e;have:=Lib.size_eq s;omega
 obtain ⟨ls,hlq⟩:∃ ls,ls=ps.map (·.1):=⟨_,rfl⟩;rw [← hlq] at LL;have hll:ls.length=ps.length:=by rw [hlq,List.length_map]
 have HLQ:=Oi hlq;have HLL:=Oi hll;clear hls hlq hll;unfold DD.val
 go_enter Tryz.func11,Tryz.ntmps11;go_wp2_with fail;rw [← hw0];clear hw0;refine LL.out.mono ?_;rintro e w1 ⟨a,c,rfl,hrd,hb⟩;have B1:=Oi (aa HB0.out hb);have K1:=Oi (HK0.out.same hb);have R1:=Oi (HR0.out.same hb);have s1:w.heap.size+2≤w1.heap.size:=by have:=hb.size;omega
 have HRD:=Oi hrd;obtain ⟨r0,r1,r2,r3,r4,r5,r6,r7,r8,r9,r10,r11⟩:=af K1.out;clear hrd hb LL HK0 HR0 HB0 s0;go_wp2_with fail;refine (LV.out _ B1.out).mono ?_;rintro e w2 ⟨rfl,hb⟩;have B2:=Oi (aa B1.out hb);have K2:=Oi (K1.out.same hb);have R2:=Oi (R1.out.same hb);have s2:w.heap.size+2≤w2.heap.size:=by have:=hb.size;omega
 have HRD2:=Oi (HRD.out.to hb);clear hb LV K1 R1 B1 HRD s1 r0 r1 r2 r3 r4 r5 r6 r7 r8 r9 r10 r11;go_wp2_with fail;have HN0:Hid (DNo (fun k=>k=w.heap.size∨k=w.heap.size+1∨k=w2.heap.size∨(Value.slice none 0 0).ownBlock=some k) x):=HR.out.lt HOK.out (fun k hk=>by
  rcases hk with rfl | rfl | rfl | hk
  · omega
  · omega
  · omega
  · cases hk)
 have BB:=Oi (ai w2 (.cells #[.pointer none,.slice none 0 0] 85));have S0:Hid (RnS w w2 (dO (ps.take 0) (d,[])).1 x (.slice none 0 0) (dO (ps.take 0) (d,[])).2 (w2.alloc (.cells #[.pointer none,.slice none 0 0] 85))):=by
  refine ⟨K2.out.same BB.out,R2.out.same BB.out,aa B2.out BB.out,HR.out.to (aa B2.out BB.out),⟨Nat.le_refl _,⟨_,.inl rfl,heap_alloc_new w2 _⟩,World.ownsRow_nil _ _ _ _,fun e=>by cases e⟩,HN0.out,by simp,fun k hk _ _=>BB.out.block k hk⟩
 have K2':=Oi K2.out;have R2':=Oi R2.out;clear K2 R2 HN0
 go_loopw [30] (fun iv wr=>∃ (k:Nat) (xk:DA) (v:Value),k≤ls.length∧iv=.int .i64 k∧Hid (RnS w w2 (dO (ps.take k) (d,[])).1 xk v (dO (ps.take k) (d,[])).2 wr)∧Hid ((dO (ps.take k) (d,[])).2=[]→v=.slice none 0 0)) (fun iv _=>ls.length - (intOf iv).toNat)
 case atStart=>exact ⟨0,x,_,Nat.zero_le _,rfl,S0.out,fun _=>rfl⟩
 case round =>
  obtain ⟨k,xk,v,hk,rfl,hS,hVN⟩:=hrel;have k2:(k:Int)≤16000:=by have:=HLL.out;omega
  have k0:(0:Int)≤(k:Int):=Int.natCast_nonneg _
  by_cases hlt:k<ls.length
  · have k1:(k:Int)<(ls.length:Int):=by omega
    have hne:ls≠[]:=fun e=>by rw [e] at hlt;simp at hlt
    have HRW:Hid (Rd wr wr.heap.size a (bF ls)):=by
     have n1:=ta HRD2.out hne (tE K2'.out);have n2:=ta HRD2.out hne (wv R2'.out);refine pp (bad:=fun k=>k=w.heap.size∨k=w.heap.size+1) HRD2.out (fun y e hb=>?_) (Nat.le_of_lt hS.out.S) (fun k hk hb=>hS.out.L k hk (fun e=>hb (.inl e)) (fun e=>hb (.inr e)))
     rcases hb with hb | hb
     · exact n1 y e hb
     · exact n2 y e hb
    obtain ⟨b,o,l,ha,hb,hc,hl2⟩:=jn HRW.out hlt;subst ha;obtain ⟨pk,hpk,epk⟩:∃ pk,ps[k]? = some pk∧l=pk.1:=by
     have e:=hl2.out;rw [HLQ.out,List.getElem?_map] at e
     cases hq:ps[k]? with
     | none=>rw [hq] at e;cases e
     | some pk=>rw [hq] at e;injection e with e;exact ⟨pk,rfl,e.symm⟩
    have hpm:pk∈ps:=List.mem_of_getElem? hpk;obtain ⟨hok1,hlen1⟩:=jZ (s:=(d,[])) HOO.out HOK.out k;have hst:=Oi (vM (s:=(d,[])) hpk);obtain ⟨hok2,hlen2⟩:=HOO.out pk hpm _ hok1;have LC:=Oi (HFF.out pk hpm wr _ xk (HE.out.to hS.out.B) hok1 hS.out.D);have HL1:Hid ((dO (ps.take k) (d,[])).2.length≤17000000000):=by
     have e1:=HLL.out;have e2:ps.length * (1048576+1)≤16000 * (1048576+1):=Nat.mul_le_mul_right _ hpl;rw [Hid];simp only [List.length_nil] at hlen1;omega
    clear hlen1;rw [epk] at hc hl2;clear epk hpm hpk;generalize dO (ps.take k) (d,[])=st at *
    obtain ⟨dk,out⟩:=st;dsimp only at *
    unfold nP at hst;dsimp only at hst;generalize pk.2 dk=r at *
    obtain ⟨d',t⟩:=r;dsimp only at *
    unfold zv at LC;dsimp only at LC;have HOK2:=Oi hok2;have HT:Hid ((bs t).size≤1048576):=by rw [Hid,aE];exact hlen2
    have HTC:Hid (Lib.byteCells out ++ Lib.strCells (bs t ++ ⟨#[10]⟩)=Lib.byteCells (out ++ (t ++ [10]))):=by
     have e:bs t ++ ⟨#[10]⟩=bs (t ++ [10]):=by rw [← Lw];rfl
     rw [Hid,e,Lib.strCells_eq,show (bs (t ++ [10])).data.toList=t ++ [10] from rfl,← Lib.byteCells_append]
    generalize bs pk.1=lb at *
    generalize hTb:bs t=tb at *
    clear hTb;obtain ⟨r0,r1,r2,r3,r4,r5,r6,r7,r8,r9,r10,r11⟩:=af hS.out.K;have s0:¬ 9223372036854775807<tb.size+1:=by have:=HT.out;omega
    have hcl:=hc;unfold DD.val at LC;clear hok1 hok2 hlen2 HRW hVN;go_wp2_with fail;refine LC.out.mono ?_;rintro e w3 ⟨hb3,x',rfl,hD3,hx3⟩;have HB3:=Oi hb3;have HD3:=Oi hD3;have HX3:=Oi hx3;obtain ⟨w4,hw4⟩:∃ X,X=w3.alloc (.cells #[.int .i64 d'.R,.int .i64 d'.C,.slice x'.a d'.A.length x'.ca,.slice x'.b d'.B.length x'.cb,.int .i64 d'.P,.int .i64 d'.T,.slice x'.v d'.V.length x'.cv,.int .i64 d'.U,.int .i64 d'.N,.slice x'.w d'.W.length x'.cw,.slice x'.k d'.K.length x'.ck,.slice x'.f d'.F.length x'.cf] 33):=⟨_,rfl⟩;have hb4:Hid (Below wr.heap.size wr w4):=by rw [hw4];exact aa hb3 (ai _ _)
    have KN:Blk w4 w3.heap.size [.int .i64 d'.R,.int .i64 d'.C,.slice x'.a d'.A.length x'.ca,.slice x'.b d'.B.length x'.cb,.int .i64 d'.P,.int .i64 d'.T,.slice x'.v d'.V.length x'.cv,.int .i64 d'.U,.int .i64 d'.N,.slice x'.w d'.W.length x'.cw,.slice x'.k d'.K.length x'.ck,.slice x'.f d'.F.length x'.cf] 33:=by rw [hw4];exact Blk.new w3 _ _
    have K4:=Oi (hS.out.K.same hb4.out);have HW4:=Oi hw4;clear hb3 hD3 hx3 LC r0 r1 r2 r3 r4 r5 r6 r7 r8 r9 r10 r11
    go_upto_region 9 with fail
    rw [← hw4];clear hw4;obtain ⟨b3,hb3⟩:∃ b,b=w3.heap.size:=⟨_,rfl⟩;rw [← hb3] at KN ⊢;clear hb3;obtain ⟨v0,v1,v2,v3,v4,v5,v6,v7,v8,v9,v10,v11⟩:=af KN;obtain ⟨j0,j1,j2,j3,j4,j5,j6,j7,j8,j9,j10,j11⟩:=af K4.out;have jf0:=K4.out.free 0;have jf1:=K4.out.free 1;have jf2:=K4.out.free 2;have jf3:=K4.out.free 3;have jf4:=K4.out.free 4;have jf5:=K4.out.free 5;have jf6:=K4.out.free 6;have jf7:=K4.out.free 7;have jf8:=K4.out.free 8;have jf9:=K4.out.free 9;have jf10:=K4.out.free 10;have jf11:=K4.out.free 11
    go_upto_region 10 with fail
    obtain ⟨w5,hw5⟩:∃ X,X=((((((((((((w4.setCell ⟨w.heap.size,0,none⟩ (.int .i64 d'.R)).setCell ⟨w.heap.size,1,none⟩ (.int .i64 d'.C)).setCell ⟨w.heap.size,2,none⟩ (.slice x'.a d'.A.length x'.ca)).setCell ⟨w.heap.size,3,none⟩ (.slice x'.b d'.B.length x'.cb)).setCell ⟨w.heap.size,4,none⟩ (.int .i64 d'.P)).setCell ⟨w.heap.size,5,none⟩ (.int .i64 d'.T)).setCell ⟨w.heap.size,6,none⟩ (.slice x'.v d'.V.length x'.cv)).setCell ⟨w.heap.size,7,none⟩ (.int .i64 d'.U)).setCell ⟨w.heap.size,8,none⟩ (.int .i64 d'.N)).setCell ⟨w.heap.size,9,none⟩ (.slice x'.w d'.W.length x'.cw)).setCell ⟨w.heap.size,10,none⟩ (.slice x'.k d'.K.length x'.ck)).setCell ⟨w.heap.size,11,none⟩ (.slice x'.f d'.F.length x'.cf)):=⟨_,rfl⟩;have hp5:gV w4 w.heap.size (.int .i64 d'.R) (.int .i64 d'.C) (.slice x'.a d'.A.length x'.ca) (.slice x'.b d'.B.length x'.cb) (.int .i64 d'.P) (.int .i64 d'.T) (.slice x'.v d'.V.length x'.cv) (.int .i64 d'.U) (.int .i64 d'.N) (.slice x'.w d'.W.length x'.cw) (.slice x'.k d'.K.length x'.ck) (.slice x'.f d'.F.length x'.cf)=w5:=by rw [hw5];rfl
    have HP5:=Oi hp5;have T5:Hid (Touch w4 w5 w.heap.size (w.heap.size+1)):=by rw [← hp5];exact fY _ _ _ _ _ _ _ _ _ _ _ _ _ _
    rw [← hw5];clear hw5 hp5 v0 v1 v2 v3 v4 v5 v6 v7 v8 v9 v10 v11 j0 j1 j2 j3 j4 j5 j6 j7 j8 j9 j10 j11 jf0 jf1 jf2 jf3 jf4 jf5 jf6 jf7 jf8 jf9 jf10 jf11 KN;have hsz:w2.heap.size≤w5.heap.size:=by have:=hS.out.S;have:=hb4.out.size;have:=T5.out.size;omega
    have LW:=Oi (xo w2.heap.size w2.heap.size (Lib.byteCells out) (tb ++ ⟨#[10]⟩) w5 v (hS.out.bld s2 hb4.out T5.out) (by rw [Lib.byteCells_length,ByteArray.size_append];have:=HL1.out;have:=HT.out;show _+(tb.size+1)≤_;omega) hsz)
    rw [HTC.out] at LW;clear hsz T5 HT HTC HL1;go_wp2_with fail;refine LW.out.mono ?_;rintro e w6 ⟨rfl,v',hV6,hW6,hn6⟩;have HS6:=Oi (hS.out.step s2 HOK2.out HB3.out HD3.out HX3.out HW4.out HP5.out hV6 hW6 hn6);clear hV6 hW6 hn6 hS LW HB3 HD3 HX3 HW4 HP5 hb4 K4;go_wp2_with fail;go_roundw
    case rel=>exact ⟨k+1,x',v',by omega,by go_num,by rw [hst.out];exact HS6.out,by rw [hst.out];exact fun e=>absurd e (by simp)⟩
    case measure=>first | (simp [intOf];done) | (simp [intOf];omega)
  · obtain rfl:k=ls.length:=by omega
    have e0:ps.take ls.length=ps:=by rw [show ls.length=ps.length from HLL.out,List.take_length]
    obtain ⟨hok1,-⟩:=jZ (s:=(d,[])) HOO.out HOK.out ls.length;rw [e0] at hS hVN hok1;obtain ⟨st,hst⟩:∃ st,st=dO ps (d,[]):=⟨_,rfl⟩;rw [← hst] at hS hVN hok1;obtain ⟨dk,out⟩:=st;have HST:=Oi hst.symm;clear hst;dsimp only at *
    have LC:=Oi (oh wr dk xk hok1 hS.out.D);obtain ⟨r0,r1,r2,r3,r4,r5,r6,r7,r8,r9,r10,r11⟩:=af hS.out.K;unfold DD.val at LC;clear hok1 e0 HRD2 K2' R2';go_wp2_with fail;refine LC.out.mono ?_;rintro e w3 ⟨y,rfl,hO,hb3⟩;have BV:=hS.out.bld s2 hb3 (Touch.refl w3 _ _);have LS:Hid (Calls Tryz.prog 43 #[.pointer (some ⟨w2.heap.size,0,none⟩)] w3 fun e w'=>e=.returned (.string (bs out))∧BldW w2.heap.size v w3 w'):=by
     by_cases hn:out=[]
     · have hv:=hVN.out hn
       obtain ⟨_,⟨p,_,hk⟩,_⟩:=BV;rw [hv] at hk;subst hn;refine (Any.Builder_String_nil Tryz.lays169 Tryz.Builder_Extra_169 w3.heap.size w2.heap.size p w3 hk).mono ?_;rintro e w' ⟨rfl,hb⟩;exact ⟨rfl,hb.os,hb.tape,hb.output,hb.size,fun k hk _ _=>hb.block k hk⟩
     · exact I8 _ _ out w3 v BV hn
    have HTail:=Oi (fun w6=>hS.out.tail (w6:=w6) s2 hb3 hO)
    obtain ⟨tb,htb⟩:∃ tb,tb=bs out:=⟨_,rfl⟩;rw [← htb] at LS;have hsz:w.heap.size+2≤wr.heap.size:=by have:=hS.out.S;omega
    have hsz3:=hb3.size;clear hO hb3 BV hVN hS LC r0 r1 r2 r3 r4 r5 r6 r7 r8 r9 r10 r11;go_wp2_with fail;refine LS.out.mono ?_;rintro e w6 ⟨rfl,hW6⟩;obtain ⟨R6,B6,O6,z6⟩:=HTail.out w6 hW6;have B6:=Oi B6;have O6:=Oi O6;have R6:=Oi R6;obtain ⟨j0,j1,j2,j3,j4,j5,j6,j7,j8,j9,j10,j11⟩:=af R6.out;have jf0:=R6.out.free 0;have jf1:=R6.out.free 1;have jf2:=R6.out.free 2;have jf3:=R6.out.free 3;have jf4:=R6.out.free 4;have jf5:=R6.out.free 5;have jf6:=R6.out.free 6;have jf7:=R6.out.free 7;have jf8:=R6.out.free 8;have jf9:=R6.out.free 9;have jf10:=R6.out.free 10;have jf11:=R6.out.free 11;clear hW6 LS HTail;go_wp2_with fail;obtain ⟨wz,hwz⟩:∃ X,X=((((((((((((w6.setCell ⟨w.heap.size+1,0,none⟩ (.int .i64 dk.R)).setCell ⟨w.heap.size+1,1,none⟩ (.int .i64 dk.C)).setCell ⟨w.heap.size+1,2,none⟩ (.slice y.a dk.A.length y.ca)).setCell ⟨w.heap.size+1,3,none⟩ (.slice y.b dk.B.length y.cb)).setCell ⟨w.heap.size+1,4,none⟩ (.int .i64 dk.P)).setCell ⟨w.heap.size+1,5,none⟩ (.int .i64 dk.T)).setCell ⟨w.heap.size+1,6,none⟩ (.slice y.v dk.V.length y.cv)).setCell ⟨w.heap.size+1,7,none⟩ (.int .i64 dk.U)).setCell ⟨w.heap.size+1,8,none⟩ (.int .i64 dk.N)).setCell ⟨w.heap.size+1,9,none⟩ (.slice y.w dk.W.length y.cw)).setCell ⟨w.heap.size+1,10,none⟩ (.slice y.k dk.K.length y.ck)).setCell ⟨w.heap.size+1,11,none⟩ (.slice y.f dk.F.length y.cf)):=⟨_,rfl⟩;have hp:gV w6 (w.heap.size+1) (.int .i64 dk.R) (.int .i64 dk.C) (.slice y.a dk.A.length y.ca) (.slice y.b dk.B.length y.cb) (.int .i64 dk.P) (.int .i64 dk.T) (.slice y.v dk.V.length y.cv) (.int .i64 dk.U) (.int .i64 dk.N) (.slice y.w dk.W.length y.cw) (.slice y.k dk.K.length y.ck) (.slice y.f dk.F.length y.cf)=wz:=by rw [hwz];rfl
    rw [← hwz];clear hwz j0 j1 j2 j3 j4 j5 j6 j7 j8 j9 j10 j11 jf0 jf1 jf2 jf3 jf4 jf5 jf6 jf7 jf8 jf9 jf10 jf11;have KZ:Blk wz (w.heap.size+1) (dk.cells y) 33:=by rw [← hp];exact jm R6.out _ _ _ _ _ _ _ _ _ _ _ _
    have TZ:Touch w6 wz (w.heap.size+1) (w.heap.size+1+1):=by rw [← hp];exact fY _ _ _ _ _ _ _ _ _ _ _ _ _ _
    clear hp;have BZ:=aI B6.out TZ (by omega) (by omega)
    have OZ:=(O6.out.touch TZ (by omega)).mono (lo':=w.heap.size) (hi':=wz.heap.size) (by omega) (by have:=TZ.size;omega)
    obtain ⟨t0,t1,t2,t3,t4,t5,t6,t7,t8,t9,t10,t11⟩:=af KZ;refine bodyPost_ret (v:=.tuple #[dk.val y,.string tb,.bool true]) (by simp [results,Tryz.results11,go_sem,DD.val,t0,t1,t2,t3,t4,t5,t6,t7,t8,t9,t10,t11];try exact htb.symm) rfl ?_
    rw [HST.out];exact ⟨y,by rw [htb];rfl,OZ,BZ⟩
end Go.Proofs.YtbknhgapjjaelaaGreatDoor
