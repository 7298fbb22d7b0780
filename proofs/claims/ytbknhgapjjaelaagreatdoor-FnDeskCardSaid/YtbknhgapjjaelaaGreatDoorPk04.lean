/-
  Part 4 of what the proof stands on: lemmas and contracts, each with its conditions ahead of the colon.
-/
import Derived.Deep.AppendLies
import Derived.Deep.RegionLaw
import Derived.Laws.EntriesVeiled
import Derived.Deep.RegionHeld3
import Derived.Test.YtbknhgapjjaelaaGreatDoorPk01
import Derived.Test.YtbknhgapjjaelaaGreatDoorPk02
import Derived.Test.YtbknhgapjjaelaaGreatDoorPk03
set_option maxRecDepth 10000
set_option maxHeartbeats 8000000
namespace Go.Proofs.YtbknhgapjjaelaaGreatDoor
set_option linter.unusedVariables false
set_option linter.unusedSimpArgs false
open Go.RowKit
def Kf (xs:List Int) (n:Nat):Bool:=gm xs 0 (n - 1) && decide xs.Nodup
def mp (xs:List Int) (n:Nat):Bool:=Kf xs n && decide (xs.length=n)
theorem mQ {xs:List Int} {n:Nat}:mp xs n=true ↔ (∀ x∈xs,0≤x∧x<n)∧xs.Nodup∧xs.length=n:=by
 simp only [mp,Kf,Bool.and_eq_true,eG,decide_eq_true_iff,and_assoc]
 constructor
 · rintro ⟨h1,h2,h3⟩;exact ⟨fun x hx=>by have:=h1 x hx;omega,h2,h3⟩
 · rintro ⟨h1,h2,h3⟩;exact ⟨fun x hx=>by have:=h1 x hx;omega,h2,h3⟩
structure OwnRows (T T2:Nat) (w:World) (lo hi:Nat) (u:Value) (vs:List Value) (yss:List (List Int)):Prop where
 out:w.ownsRow lo T2 1 u yss.length vs
 lt:∀ g,u.ownBlock=some g→g<hi
 row:∀ (j:Nat) (ys:List Int),yss[j]? = some ys→∃ g c,vs[j]? = some (.slice (some ⟨g,0,none⟩) ys.length c)∧OwnI T w lo hi (some ⟨g,0,none⟩) c ys
 top:∀ (j:Nat) (v:Value),vs[j]? = some v→Apart u v
 dis:∀ (i j:Nat) (v v':Value),i≠j→vs[i]? = some v→vs[j]? = some v'→Apart v v'
section
variable {T T2 lo hi c:Nat} {w w':World} {a:Option Addr} {yss:List (List Int)}
theorem OwnRows.len {u:Value} {vs:List Value} (h:OwnRows T T2 w lo hi u vs yss):vs.length=yss.length:=by
 have:=h.out.1;omega
end
theorem OwnI.apart {T lo hi c:Nat} {w w':World} {a:Option Addr} {xs:List Int} {u:Value} (h:OwnI T w lo hi a c xs) (hg:w.grownBy w' u.ownBlock) (ha:Apart u (.slice a xs.length c)):OwnI T w' lo hi a c xs :=
 ⟨qW h.1 hg ha,h.2⟩
theorem OwnRows.start {T T2:Nat} {w:World} {lo:Nat} {u:Value} (h:w.ownsRow lo T2 1 u 0 []):OwnRows T T2 w lo w.heap.size u [] [] :=
 ⟨h,(fun g hg=>(h.lt g hg).2),(fun j ys hj=>by simp at hj),(fun j v hj=>by simp at hj),(fun i j v v' _ hi _=>by simp at hi)⟩
theorem OwnRows.keep {T T2:Nat} {w w':World} {lo hi:Nat} {u:Value} {vs:List Value} {yss:List (List Int)} (h:OwnRows T T2 w lo hi u vs yss) (hb:Below w.heap.size w w'):OwnRows T T2 w' lo hi u vs yss :=
 ⟨aG h.out hb,h.lt,fun j ys hj=>let ⟨a',c',h1,h2⟩:=h.row j ys hj;⟨a',c',h1,h2.keep hb⟩,h.top,h.dis⟩
theorem OwnRows.snoc {T T2:Nat} {w0 w w':World} {lo hi r0 g c:Nat} {u u':Value} {vs:List Value} {yss:List (List Int)} {ys:List Int}
 (h:OwnRows T T2 w0 lo hi u vs yss) (hb:Below w0.heap.size w0 w) (hlo:lo≤r0) (hhi:hi≤r0) (hr:OwnI T w r0 w.heap.size (some ⟨g,0,none⟩) c ys) (hy0:w0.heap.size≤r0)
 (ho:w'.ownsRow lo T2 1 u' (yss.length+1) (vs ++ [.slice (some ⟨g,0,none⟩) ys.length c])) (hg:w.grownBy w' u.ownBlock) (hn:∀ g,g<w.heap.size→some g≠u.ownBlock→some g≠u'.ownBlock) :
 OwnRows T T2 w' lo w'.heap.size u' (vs ++ [.slice (some ⟨g,0,none⟩) ys.length c]) (yss ++ [ys]):=by
 have hl:=h.len;have hk:=h.keep hb;have hrg:r0≤g:=(hr.1.lt g rfl).1;have hgw:g<w.heap.size:=(hr.1.lt g rfl).2;have hap:Apart u (.slice (some ⟨g,0,none⟩) ys.length c):=fun q hq e=>by
  have:=h.lt q hq;simp [Value.ownBlock] at e
  omega
 have at':∀ (j:Nat) (v:Value),(vs ++ [.slice (some ⟨g,0,none⟩) ys.length c])[j]? = some v→(j<yss.length∧vs[j]? = some v)∨(j=yss.length∧v=.slice (some ⟨g,0,none⟩) ys.length c):=by
  intro j v hj
  by_cases hlt:j<vs.length
  · rw [List.getElem?_append_left hlt] at hj
    exact .inl ⟨by omega,hj⟩
  · rw [List.getElem?_append_right (by omega)] at hj
    have:j - vs.length=0:=by
     have:=(List.getElem?_eq_some_iff.1 hj).1;simp at this
     omega
    rw [this] at hj;simp at hj
    exact .inr ⟨by omega,hj.symm⟩
 have hrow:∀ (j:Nat) (v:Value),vs[j]? = some v→∃ g' c' ys',v=.slice (some ⟨g',0,none⟩) ys'.length c'∧OwnI T w lo hi (some ⟨g',0,none⟩) c' ys':=by
  intro j v hj;have hlt:j<yss.length:=by have:=(List.getElem?_eq_some_iff.1 hj).1;omega
  obtain ⟨g',c',h1,h2⟩:=hk.row j yss[j] (List.getElem?_eq_getElem hlt);rw [hj] at h1;injection h1 with h1
  exact ⟨g',c',_,h1,h2⟩
 refine ⟨by rw [List.length_append,List.length_singleton];exact ho,fun q hq=>(ho.lt q hq).2,fun j zs hj=>?_,fun j v hj=>?_,fun i j v v' hij hi hj=>?_⟩
 · by_cases hlt:j<yss.length
   · rw [List.getElem?_append_left hlt] at hj
     obtain ⟨g',c',h1,h2⟩:=hk.row j zs hj;refine ⟨g',c',by rw [List.getElem?_append_left (by omega)];exact h1,?_⟩
     exact (h2.apart hg (h.top j _ h1)).mono (Nat.le_refl _) (by have:=hb.size;have:=hg.size;omega)
   · rw [List.getElem?_append_right (by omega)] at hj
     have:j - yss.length=0:=by
      have:=(List.getElem?_eq_some_iff.1 hj).1;simp at this
      omega
     rw [this] at hj;simp at hj
     subst hj;refine ⟨g,c,by rw [List.getElem?_append_right (by omega),show j - vs.length=0 by omega];rfl,?_⟩
     exact (hr.apart hg hap).mono hlo hg.size
 · rcases at' j v hj with ⟨_,h1⟩ | ⟨_,rfl⟩
   · obtain ⟨g',c',ys',e,h2⟩:=hrow j v h1
     have ha:=h.top j v h1;subst e;exact vI h2.1 ha hn
   · exact vI hr.1 hap hn
 · rcases at' i v hi with ⟨i1,h1⟩ | ⟨i1,rfl⟩ <;> rcases at' j v' hj with ⟨j1,h2⟩ | ⟨j1,rfl⟩
   · exact h.dis i j v v' hij h1 h2
   · obtain ⟨g',c',ys',e,h3⟩:=hrow i v h1
     subst e;intro q hq e;have:=h3.2 _ rfl;simp [Value.ownBlock] at hq e
     simp at this
     omega
   · obtain ⟨g',c',ys',e,h3⟩:=hrow j v' h2
     subst e;intro q hq e;have:=h3.2 _ rfl;simp [Value.ownBlock] at hq e
     simp at this
     omega
   · omega
section
variable {T T2 t0 lo hi:Nat} {w w':World} {u:Value} {vs:List Value} {yss:List (List Int)}
end
theorem eO {P:Program} {ops:Array Oper} {o:Oper} {a:Act} {wr:World} {K:Act→World→Prop} {Q:Exit→Act→World→Prop} {E:Prop}
 (hg:o.guard=none) (s x:Operand) (t:TypeId) (hop:o.op=Op.call { callee:=Callee.builtin Builtin.append,args:=#[s,x],argTypes:=#[t,t] })
 (base:Nat) (e:TypeId) (z:Value) (bytes:Nat) (h1:P.underlying t=some (.slice e)) (hinfo:(P.info? e).map (fun i=>(i.zero,i.size,i.bytes))=some (some z,1,bytes)) (hz:z.cells.size=1)
 (v:Value) (n:Nat) (xs:List Value) (hs:a.eval s=v) (hown:wr.ownsRow base e 1 v n xs) (y:Value) (hy:y.oneCell'=true)
 (hx:a.eval x=.slice (some ⟨wr.heap.size,0,none⟩) 1 1) (hb:bytes≤64) (hn:n≤1099511627776) (hbase:base≤wr.heap.size)
 (hK:∀ g c w',w'.ownsRow base e 1 (.slice (some ⟨g,0,none⟩) (n+1) c) (n+1) (xs ++ [y])→wr.grownBy w' v.ownBlock→(∀ q,q<wr.heap.size→some q≠v.ownBlock→some q≠(Value.slice (some ⟨g,0,none⟩) (n+1) c).ownBlock)→K (a.put o.dst (.slice (some ⟨g,0,none⟩) (n+1) c)) w') :
 if Region.wanted o (yielded ops a.tmps)=true then Oper.wp P o a (wr.alloc (.cells #[y] e)) K Q else E:=by
 obtain ⟨i,h2,h3,h4,h5⟩:=info_parts hinfo;have hbb:(n+1) * bytes≤140737488355328:=Nat.le_trans (Nat.mul_le_mul_left (n+1) hb) (by omega)
 have hone:∀ u∈[y],u.oneCell'=true:=by
  intro u hu;simp at hu
  subst hu;exact hy
 refine step_append_lies _ hg s x t hop base e i z 1 bytes h1 h2 h3 h4 h5 hz (by omega) v n xs hs (hown.alloc _) ⟨wr.heap.size,0,none⟩ 1 1 [y] hx rfl (World.news_of_block (cs:=#[y]) (t:=e) (fr:=(0,0)) (heap_alloc_new wr _)) hone (by omega) (by unfold maxLen;omega) hbb (by simp;omega) (wr.heap.size+1) (by simp) ?_
 intro g c w' ho hgr hat _;refine hK g c w' ho ⟨hgr.os,hgr.tape,hgr.output,?_,fun k hk hne=>?_⟩ fun q hq hqv hqv'=>?_
 · have:=hgr.size;simp at this;omega
 · rw [hgr.block k (by simp;omega) hne]
   exact Below.heap_alloc _ _ _ hk
 · simp [Value.ownBlock] at hqv'
   subst hqv'
   rcases hat with h | h
   · exact hqv h.symm
   · omega
structure TG (w wr:World) (row0:List Value) (gO T0:Nat) (P Q:Int) (aA:Option Addr) (cA:Nat) (lA:List Int) (aB:Option Addr) (cB:Nat) (lB:List Int):Prop where
 B:Below w.heap.size w wr
 KB:Blk wr w.heap.size row0 26
 KR:Blk wr (w.heap.size+1) [.int .i64 0,.int .i64 0,.slice none 0 0,.slice none 0 0] 26
 KO:Blk wr gO [.int .i64 P,.int .i64 Q,.slice aA lA.length cA,.slice aB lB.length cB] 26
 A:wr.ownsRow T0 2 1 (.slice aA lA.length cA) lA.length (ae lA)
 C:wr.ownsRow T0 2 1 (.slice aB lB.length cB) lB.length (ae lB)
 ap:Apart (.slice aA lA.length cA) (.slice aB lB.length cB)
 sz:T0≤wr.heap.size
section
variable {w wr w6 w8:World} {row0:List Value} {gO T0 cA cB g8 c8:Nat} {P Q:Int} {aA aB:Option Addr} {lA lB:List Int}
theorem TG.call (h:TG w wr row0 gO T0 P Q aA cA lA aB cB lB) (h1:w.heap.size+1<gO) (hg:gO<T0) (hb:Below wr.heap.size wr w6):TG w w6 row0 gO T0 P Q aA cA lA aB cB lB :=
 ⟨aa h.B hb,h.KB.same hb,h.KR.same hb,h.KO.same hb,aG h.A hb,aG h.C hb,h.ap,Nat.le_trans h.sz hb.size⟩
theorem xH {T:Nat} {wr w8:World} {v:Value} {n:Nat} {xs:List Value} (ho:wr.ownsRow T0 T 1 v n xs) (hg:wr.grownBy w8 v.ownBlock) (hs:T0≤wr.heap.size):Below T0 wr w8:=ai (Below.refl T0 wr) ho hg (Nat.le_refl _) hs
theorem dc (w:World) (g j:Nat) (u:Value):w.grownBy (w.setCell ⟨g,j,none⟩ u) (some g):=⟨rfl,rfl,rfl,by simp,fun i _ hi=>Below.heap_setCell _ _ _ _ (fun e=>hi (by simp [e]))⟩
theorem TG.snocA {x:Int} (h:TG w wr row0 gO T0 P Q aA cA lA aB cB lB) (h1:w.heap.size+1<gO) (hg:gO<T0)
 (ho:w8.ownsRow T0 2 1 (.slice (some ⟨g8,0,none⟩) (lA.length+1) c8) (lA.length+1) (ae lA ++ [.int .i64 x])) (hgr:wr.grownBy w8 (Value.slice aA lA.length cA).ownBlock) (hn:∀ q,q<wr.heap.size→some q≠(Value.slice aA lA.length cA).ownBlock→some q≠(Value.slice (some ⟨g8,0,none⟩) (lA.length+1) c8).ownBlock) :
 TG w (w8.setCell ⟨gO,2,none⟩ (.slice (some ⟨g8,0,none⟩) (lA.length+1) c8)) row0 gO T0 P Q (some ⟨g8,0,none⟩) c8 (lA ++ [x]) aB cB lB:=by
 have hb:=xH h.A hgr h.sz;have hts:=dc w8 gO 2 (.slice (some ⟨g8,0,none⟩) (lA.length+1) c8);have K8:=h.KO.below hb hg;have C8:=qW h.C hgr h.ap;have hl:(lA ++ [x]).length=lA.length+1:=by simp
 refine ⟨(h.B.trans (hb.mono (by omega))).setCell (p:=⟨gO,2,none⟩) (by show w.heap.size≤gO;omega) _,(h.KB.below hb (by omega)).oth (by omega) _ _,(h.KR.below hb (by omega)).oth (by omega) _ _,?_,?_,aM C8 hts hg,?_,?_⟩
 · rw [hl];exact K8.set 2 _
 · rw [hl,bh];exact aM ho hts hg
 · rw [hl]
   intro q hq hq2
   by_cases hqs:q<wr.heap.size
   · by_cases e:some q=(Value.slice aA lA.length cA).ownBlock
     · exact h.ap q e.symm hq2
     · exact hn q hqs e hq.symm
   · have:=(h.C.lt q hq2).2
     omega
 · have:=hb.size;simp;have:=h.sz;omega
theorem TG.snocB {x:Int} (h:TG w wr row0 gO T0 P Q aA cA lA aB cB lB) (h1:w.heap.size+1<gO) (hg:gO<T0)
 (ho:w8.ownsRow T0 2 1 (.slice (some ⟨g8,0,none⟩) (lB.length+1) c8) (lB.length+1) (ae lB ++ [.int .i64 x])) (hgr:wr.grownBy w8 (Value.slice aB lB.length cB).ownBlock) (hn:∀ q,q<wr.heap.size→some q≠(Value.slice aB lB.length cB).ownBlock→some q≠(Value.slice (some ⟨g8,0,none⟩) (lB.length+1) c8).ownBlock) :
 TG w (w8.setCell ⟨gO,3,none⟩ (.slice (some ⟨g8,0,none⟩) (lB.length+1) c8)) row0 gO T0 P Q aA cA lA (some ⟨g8,0,none⟩) c8 (lB ++ [x]):=by
 have hb:=xH h.C hgr h.sz;have hts:=dc w8 gO 3 (.slice (some ⟨g8,0,none⟩) (lB.length+1) c8);have K8:=h.KO.below hb hg;have A8:=qW h.A hgr h.ap.symm;have hl:(lB ++ [x]).length=lB.length+1:=by simp
 refine ⟨(h.B.trans (hb.mono (by omega))).setCell (p:=⟨gO,3,none⟩) (by show w.heap.size≤gO;omega) _,(h.KB.below hb (by omega)).oth (by omega) _ _,(h.KR.below hb (by omega)).oth (by omega) _ _,?_,aM A8 hts hg,?_,?_,?_⟩
 · rw [hl];exact K8.set 3 _
 · rw [hl,bh];exact aM ho hts hg
 · rw [hl]
   intro q hq2 hq
   by_cases hqs:q<wr.heap.size
   · by_cases e:some q=(Value.slice aB lB.length cB).ownBlock
     · exact h.ap q hq2 e.symm
     · exact hn q hqs e hq.symm
   · have:=(h.A.lt q hq2).2
     omega
 · have:=hb.size;simp;have:=h.sz;omega
end
def EQ (P Q:Int) (lA lB:List Int) (w:World) (e:Ending) (w':World):Prop :=
 ∃ a2 c2 a3 c3,e=.returned (.agg #[.int .i64 P,.int .i64 Q,.slice a2 lA.length c2,.slice a3 lB.length c3])∧Rd w' w'.heap.size a2 (ae lA)∧Rd w' w'.heap.size a3 (ae lB)∧Below w.heap.size w w'∧(∀ b,a2=some b→w.heap.size≤b.block)∧∀ b,a3=some b→w.heap.size≤b.block
theorem jG (w:World) (R C:Nat) (aA:Option Addr) (cA:Nat) (xA:List Int) (aB:Option Addr) (cB:Nat) (xB:List Int) (hA:Rd w w.heap.size aA (ae xA)) (hB:Rd w w.heap.size aB (ae xB)) (lA:xA.length=R * C) (lB:xB.length=R * C) (hR:R≤6) (hC:C≤6) :
 Calls Tryz.prog 141 #[.agg #[.int .i64 R,.int .i64 C,.slice aA xA.length cA,.slice aB xB.length cB]] w (EQ C R (aD R C xB (C * R)) (aD R C xA (C * R)) w):=by
 have hRC:R * C≤36:=Nat.le_trans (Nat.mul_le_mul hR hC) (by decide)
 have LA:=Na (fun v (hb:Below w.heap.size w v) (i k:Nat) (hi:i<R) (hk:k<C)=>oe v R C i k aA cA xA (.slice aB xB.length cB) (hA.to hb) (by rw [lA];exact dE hi hk) (by omega))
 have LB:=Na (fun v (hb:Below w.heap.size w v) (i k:Nat) (hi:i<R) (hk:k<C)=>Ax v R C i k (.slice aA xA.length cA) aB cB xB (hB.to hb) (by rw [lB];exact dE hi hk) (by omega))
 obtain ⟨row0,hrow⟩:∃ r,r=[Value.int .i64 R,.int .i64 C,.slice aA xA.length cA,.slice aB xB.length cB]:=⟨_,rfl⟩;have KB:=Blk.new w [.int .i64 R,.int .i64 C,.slice aA xA.length cA,.slice aB xB.length cB] 26;have HRow:=Na hrow;clear hA hB lA lB
 go_enter Tryz.func141,Tryz.ntmps141;have HT0:Hid (TG w (((w.alloc (.cells #[.int .i64 R,.int .i64 C,.slice aA xA.length cA,.slice aB xB.length cB] 26)).alloc (.cells #[.int .i64 0,.int .i64 0,.slice none 0 0,.slice none 0 0] 26)).alloc (.cells #[.int .i64 C,.int .i64 R,.slice none 0 0,.slice none 0 0] 26)) row0 (w.heap.size+2) (w.heap.size+3) C R none 0 [] none 0 []):=by
  have b1:=ah w (.cells #[.int .i64 R,.int .i64 C,.slice aA xA.length cA,.slice aB xB.length cB] 26);have e1:=Blk.new (w.alloc (.cells #[.int .i64 R,.int .i64 C,.slice aA xA.length cA,.slice aB xB.length cB] 26)) [.int .i64 0,.int .i64 0,.slice none 0 0,.slice none 0 0] 26;have e2:=Blk.new ((w.alloc (.cells #[.int .i64 R,.int .i64 C,.slice aA xA.length cA,.slice aB xB.length cB] 26)).alloc (.cells #[.int .i64 0,.int .i64 0,.slice none 0 0,.slice none 0 0] 26)) [.int .i64 C,.int .i64 R,.slice none 0 0,.slice none 0 0] 26;rw [World.size_alloc] at e1;rw [World.size_alloc,World.size_alloc] at e2;refine ⟨((b1.alloc (by simp) _).alloc (by simp;omega) _),?_,e1.alloc _,e2,World.ownsRow_nil _ _ _ _,World.ownsRow_nil _ _ _ _,fun g h=>by simp [Value.ownBlock] at h,by simp⟩
  rw [hrow];exact (KB.alloc _).alloc _
 have q1:(((w.alloc (.cells #[.int .i64 R,.int .i64 C,.slice aA xA.length cA,.slice aB xB.length cB] 26)).alloc (.cells #[.int .i64 0,.int .i64 0,.slice none 0 0,.slice none 0 0] 26)).alloc (.cells #[.int .i64 C,.int .i64 R,.slice none 0 0,.slice none 0 0] 26)).cell? ⟨w.heap.size,1,none⟩=some (.int .i64 C):=by rw [((KB.alloc _).alloc _).cell];rfl
 have f0:Hid (aD R C xB 0=[]∧aD R C xA 0=[]):=⟨rfl,rfl⟩;have FS:Hid (∀ k i,i<R→aD R C xB (k * R+i+1)=aD R C xB (k * R+i) ++ [aQ C xB i k]∧aD R C xA (k * R+i+1)=aD R C xA (k * R+i) ++ [aQ C xA i k]):=fun k i hi=>⟨vE xB hi,vE xA hi⟩
 have FL:Hid (∀ m,(aD R C xB m).length=m∧(aD R C xA m).length=m):=fun m=>⟨mt R C xB m,mt R C xA m⟩
 clear hrow KB;go_wp2_with fail;clear q1
 go_loopw [13] (fun kv wr=>∃ (k:Nat) (a2:Option Addr) (c2:Nat) (a3:Option Addr) (c3:Nat) (l2 l3:List Int),k≤C∧kv=.int .i64 k∧Hid (l2=aD R C xB (k * R))∧Hid (l3=aD R C xA (k * R))∧Hid (TG w wr row0 (w.heap.size+2) (w.heap.size+3) C R a2 c2 l2 a3 c3 l3)) (fun kv _=>C - (intOf kv).toNat)
 case atStart=>exact ⟨0,none,0,none,0,[],[],Nat.zero_le _,rfl,(by rw [Hid,Nat.zero_mul];exact f0.out.1.symm),(by rw [Hid,Nat.zero_mul];exact f0.out.2.symm),HT0.out⟩
 case round =>
  clear HT0 f0;obtain ⟨k,a2,c2,a3,c3,l2,l3,hk,rfl,h2,h3,hT⟩:=hrel;have k0:(0:Int)≤(k:Int):=Int.natCast_nonneg _;obtain ⟨wo,hwo⟩:∃ W:World,W=wr:=⟨_,rfl⟩;subst hwo
  by_cases hlt:k<C
  · have hki:(k:Int)<(C:Int):=by omega
    have q0:wo.cell? ⟨w.heap.size,0,none⟩=some (.int .i64 R):=by rw [hT.out.KB.cell 0,HRow.out];rfl
    go_wp2_with fail;clear q0
    go_loopw [18] (fun iv wr=>∃ (i:Nat) (a2:Option Addr) (c2:Nat) (a3:Option Addr) (c3:Nat) (l2 l3:List Int),i≤R∧iv=.int .i64 i∧Hid (l2=aD R C xB (k * R+i))∧Hid (l3=aD R C xA (k * R+i))∧Hid (TG w wr row0 (w.heap.size+2) (w.heap.size+3) C R a2 c2 l2 a3 c3 l3)) (fun iv _=>R - (intOf iv).toNat)
    case atStart=>exact ⟨0,a2,c2,a3,c3,l2,l3,Nat.zero_le _,rfl,h2.out,h3.out,hT.out⟩
    case round =>
     clear h2 h3 hT;obtain ⟨i,a2,c2,a3,c3,l2,l3,hi,rfl,h2,h3,hT⟩:=hrel
     by_cases hil:i<R
     · have hii:(i:Int)<(R:Int):=by omega
       have i0:(0:Int)≤(i:Int):=Int.natCast_nonneg _;obtain ⟨fs1,fs2⟩:=FS.out k i hil;rw [← h2.out] at fs1;rw [← h3.out] at fs2;have hn2:l2.length≤64:=by rw [h2.out,(FL.out _).1];have:k * R≤6 * 6:=Nat.mul_le_mul (by omega) hR;omega
       have hn3:l3.length≤64:=by rw [h3.out,(FL.out _).2];have:k * R≤6 * 6:=Nat.mul_le_mul (by omega) hR;omega
       have LB1:=Na (LB.out wr.drew (au hT.out.B) i k hil hlt);obtain ⟨x,hx⟩:∃ x,x=aQ C xB i k:=⟨_,rfl⟩;obtain ⟨y,hy⟩:∃ y,y=aQ C xA i k:=⟨_,rfl⟩;rw [← hx] at LB1 fs1;rw [← hy] at fs2;have H2n:Hid (l2 ++ [x]=aD R C xB (k * R+(i+1))):=fs1.symm;have H3n:Hid (l3 ++ [y]=aD R C xA (k * R+(i+1))):=fs2.symm;have HY:=Na hy;have hTs:=hT.out.sz;have HC:Hid (∀ w',Below (w.heap.size+3) wr w'→(w'.cell? ⟨w.heap.size,0,none⟩=some (.int .i64 R)∧w'.cell? ⟨w.heap.size,1,none⟩=some (.int .i64 C)∧w'.cell? ⟨w.heap.size,2,none⟩=some (.slice aA xA.length cA)∧w'.cell? ⟨w.heap.size,3,none⟩=some (.slice aB xB.length cB))∧w'.cell? ⟨w.heap.size+2,2,none⟩=some (.slice a2 l2.length c2)∧w'.frozen? ⟨w.heap.size+2,2,none⟩=false):=fun w' hb=>by
        have kb:=hT.out.KB.below hb (by omega)
        have ko:=hT.out.KO.below hb (by omega)
        rw [HRow.out] at kb;exact ⟨⟨kb.cell 0,kb.cell 1,kb.cell 2,kb.cell 3⟩,ko.cell 2,ko.free 2⟩
       have hOA:=Na hT.out.A;obtain ⟨⟨r0,r1,r2,r3⟩,d1,d2⟩:=HC.out wr (Below.refl _ _);obtain ⟨⟨r0',r1',r2',r3'⟩,d1',d2'⟩:=HC.out wr.drew (au (Below.refl _ _));clear fs1 fs2 hx hy h2 h3;go_wp2_with fail
       go_region_law
        ((first
          | (go_simp;refine LB1.out.mono ?_;rintro e w6 ⟨rfl,hb6⟩;dsimp only;have hb7:Below wr.heap.size wr w6:=aa (au (Below.refl wr.heap.size wr)) hb6;have hOA6:=aG hOA.out hb7;obtain ⟨_,f1,f2⟩:=HC.out w6 (hb7.mono hTs);obtain ⟨_,f3,f4⟩:=HC.out (w6.alloc (.cells #[.int .i64 x] 2)) ((hb7.mono hTs).alloc (Nat.le_trans hTs hb7.size) _))
          | (refine eO (wr:=w6) (by rfl) _ _ 24 (by rfl) (w.heap.size+3) 2 (.int .i64 0) 8 Tryz.underlying24 aU (by rfl) _ l2.length (ae l2) (by rfl) hOA6 (.int .i64 x) rfl (by rfl) (by decide) (by omega) (Nat.le_trans hTs hb7.size) ?_;intro g8 c8 w8 ho8 hg8 hn8;have hb8:Below (w.heap.size+3) wr w8:=(hb7.mono hTs).trans (ai (Below.refl (w.heap.size+3) w6) hOA6 hg8 (Nat.le_refl _) (Nat.le_trans hTs hb7.size));obtain ⟨_,f5,f6⟩:=HC.out w8 hb8)))
       all_goals
        have hT2:=Na ((hT.out.call (by omega) (by omega) hb7).snocA (x:=x) (by omega) (by omega) ho8 hg8 hn8)
        clear hb6 hb7 hOA6 f1 f2 f3 f4 ho8 hg8 hn8 hb8 f5 f6 d1 d2 r0 r1 r2 r3 r0' r1' r2' r3' d1' d2' HC hOA LB1 hT;obtain ⟨wz,hwz⟩:∃ W:World,W=w8.setCell ⟨w.heap.size+2,2,none⟩ (.slice (some ⟨g8,0,none⟩) (l2.length+1) c8):=⟨_,rfl⟩;rw [← hwz] at hT2;have LA1:=Na (LA.out wz.drew (au hT2.out.B) i k hil hlt);rw [← HY.out] at LA1;have hTs:=hT2.out.sz;have HC:Hid (∀ w',Below (w.heap.size+3) wz w'→(w'.cell? ⟨w.heap.size,0,none⟩=some (.int .i64 R)∧w'.cell? ⟨w.heap.size,1,none⟩=some (.int .i64 C)∧w'.cell? ⟨w.heap.size,2,none⟩=some (.slice aA xA.length cA)∧w'.cell? ⟨w.heap.size,3,none⟩=some (.slice aB xB.length cB))∧w'.cell? ⟨w.heap.size+2,3,none⟩=some (.slice a3 l3.length c3)∧w'.frozen? ⟨w.heap.size+2,3,none⟩=false):=fun w' hb=>by
         have kb:=hT2.out.KB.below hb (by omega)
         have ko:=hT2.out.KO.below hb (by omega)
         rw [HRow.out] at kb;exact ⟨⟨kb.cell 0,kb.cell 1,kb.cell 2,kb.cell 3⟩,ko.cell 3,ko.free 3⟩
        have hOA:=Na hT2.out.C;rw [← hwz];obtain ⟨⟨r0,r1,r2,r3⟩,d1,d2⟩:=HC.out wz (Below.refl _ _);obtain ⟨⟨r0',r1',r2',r3'⟩,d1',d2'⟩:=HC.out wz.drew (au (Below.refl _ _));clear hwz;go_wp2_with fail
        go_region_law
         ((first
           | (go_simp;refine LA1.out.mono ?_;rintro e w6 ⟨rfl,hb6⟩;dsimp only;have hb7:Below wz.heap.size wz w6:=aa (au (Below.refl wz.heap.size wz)) hb6;have hOA6:=aG hOA.out hb7;obtain ⟨_,f1,f2⟩:=HC.out w6 (hb7.mono hTs);obtain ⟨_,f3,f4⟩:=HC.out (w6.alloc (.cells #[.int .i64 y] 2)) ((hb7.mono hTs).alloc (Nat.le_trans hTs hb7.size) _))
           | (refine eO (wr:=w6) (by rfl) _ _ 24 (by rfl) (w.heap.size+3) 2 (.int .i64 0) 8 Tryz.underlying24 aU (by rfl) _ l3.length (ae l3) (by rfl) hOA6 (.int .i64 y) rfl (by rfl) (by decide) (by omega) (Nat.le_trans hTs hb7.size) ?_;intro g9 c9 w9 ho9 hg9 hn9;have hb8:Below (w.heap.size+3) wz w9:=(hb7.mono hTs).trans (ai (Below.refl (w.heap.size+3) w6) hOA6 hg9 (Nat.le_refl _) (Nat.le_trans hTs hb7.size));obtain ⟨_,f5,f6⟩:=HC.out w9 hb8)))
        all_goals
         have hT3:=Na ((hT2.out.call (by omega) (by omega) hb7).snocB (x:=y) (by omega) (by omega) ho9 hg9 hn9)
         clear hb6 hb7 hOA6 f1 f2 f3 f4 ho9 hg9 hn9 hb8 f5 f6 d1 d2 r0 r1 r2 r3 r0' r1' r2' r3' d1' d2' HC hOA LA1 hT2;go_wp2_with fail;go_roundw
         case rel=>exact ⟨i+1,_,_,_,_,l2 ++ [x],l3 ++ [y],by omega,by go_num,H2n.out,H3n.out,hT3⟩
         case measure=>first | (simp [intOf];done) | (simp [intOf];omega)
     · obtain rfl:i=R:=by omega
       have e2:k * i+i=(k+1) * i:=by rw [Nat.add_mul,Nat.one_mul]
       rw [e2] at h2 h3;go_wp2_with fail;go_roundw
       case rel=>exact ⟨k+1,_,_,_,_,l2,l3,by omega,by go_num,h2,h3,hT⟩
       case measure=>first | (simp [intOf];done) | (simp [intOf];omega)
  · obtain rfl:k=C:=by omega
    have R2:=Na (ay hT.out.A (Nat.le_refl _));have R3:=Na (ay hT.out.C (Nat.le_refl _));rw [h2.out] at R2;rw [h3.out] at R3;have e2:l2.length=(aD R k xB (k * R)).length:=by rw [h2.out]
    have e3:l3.length=(aD R k xA (k * R)).length:=by rw [h3.out]
    have H23:=Na (And.intro e2 e3);have HL2:=Na h2.out;have HL3:=Na h3.out;have KO:=hT.out.KO;have KR:=hT.out.KR;have k0':wo.cell? ⟨w.heap.size+2,0,none⟩=some (.int .i64 k):=KO.cell 0;have k1':wo.cell? ⟨w.heap.size+2,1,none⟩=some (.int .i64 R):=KO.cell 1;have k2':wo.cell? ⟨w.heap.size+2,2,none⟩=some (.slice a2 l2.length c2):=KO.cell 2;have k3':wo.cell? ⟨w.heap.size+2,3,none⟩=some (.slice a3 l3.length c3):=KO.cell 3;have y0:wo.cell? ⟨w.heap.size+1,0,none⟩=some (.int .i64 0):=KR.cell 0;have y1:wo.cell? ⟨w.heap.size+1,1,none⟩=some (.int .i64 0):=KR.cell 1;have y2:wo.cell? ⟨w.heap.size+1,2,none⟩=some (.slice none 0 0):=KR.cell 2;have y3:wo.cell? ⟨w.heap.size+1,3,none⟩=some (.slice none 0 0):=KR.cell 3;have f0:=KR.free 0;have f1:=KR.free 1;have f2:=KR.free 2;have f3:=KR.free 3;have HKR:=Na KR;have HT:=hT;clear KO KR h2 h3 e2 e3 hT;go_wp2_with fail;obtain ⟨wz,hwz⟩:∃ Y,Y=(((wo.setCell ⟨w.heap.size+1,0,none⟩ (.int .i64 k)).setCell ⟨w.heap.size+1,1,none⟩ (.int .i64 R)).setCell ⟨w.heap.size+1,2,none⟩ (.slice a2 l2.length c2)).setCell ⟨w.heap.size+1,3,none⟩ (.slice a3 l3.length c3):=⟨_,rfl⟩;have KZ:Blk wz (w.heap.size+1) [.int .i64 k,.int .i64 R,.slice a2 l2.length c2,.slice a3 l3.length c3] 26:=by rw [hwz];exact (((HKR.out.set 0 (.int .i64 k)).set 1 (.int .i64 R)).set 2 (.slice a2 l2.length c2)).set 3 (.slice a3 l3.length c3)
    have OA:wz.ownsRow (w.heap.size+3) 2 1 (.slice a2 l2.length c2) l2.length (ae l2):=by
     rw [hwz];exact aM (aM (aM (aM HT.out.A (dc _ _ _ _) (by omega)) (dc _ _ _ _) (by omega)) (dc _ _ _ _) (by omega)) (dc _ _ _ _) (by omega)
    have OB:wz.ownsRow (w.heap.size+3) 2 1 (.slice a3 l3.length c3) l3.length (ae l3):=by
     rw [hwz];exact aM (aM (aM (aM HT.out.C (dc _ _ _ _) (by omega)) (dc _ _ _ _) (by omega)) (dc _ _ _ _) (by omega)) (dc _ _ _ _) (by omega)
    have BZ:Below w.heap.size w wz:=by rw [hwz];exact aj (aj (aj (aj HT.out.B (by omega) _ _) (by omega) _ _) (by omega) _ _) (by omega) _ _
    have RA:=ay OA (Nat.le_refl _);have RB:=ay OB (Nat.le_refl _);obtain ⟨e2,e3⟩:=H23.out;rw [← hwz];clear hwz k0' k1' k2' k3' y0 y1 y2 y3 f0 f1 f2 f3 R2 R3;have y0:wz.cell? ⟨w.heap.size+1,0,none⟩=some (.int .i64 k):=KZ.cell 0;have y1:wz.cell? ⟨w.heap.size+1,1,none⟩=some (.int .i64 R):=KZ.cell 1;have y2:wz.cell? ⟨w.heap.size+1,2,none⟩=some (.slice a2 l2.length c2):=KZ.cell 2;have y3:wz.cell? ⟨w.heap.size+1,3,none⟩=some (.slice a3 l3.length c3):=KZ.cell 3;refine bodyPost_ret (v:=.agg #[.int .i64 k,.int .i64 R,.slice a2 l2.length c2,.slice a3 l3.length c3]) (by simp [results,Tryz.results141,go_sem,y0,y1,y2,y3]) rfl ?_
    have hl2:=HL2.out;have hl3:=HL3.out;subst hl2 hl3;exact ⟨a2,c2,a3,c3,rfl,RA,RB,BZ,fun b hb=>by have:=(OA.lt b.block (by simp [Value.ownBlock,hb])).1;omega,fun b hb=>by have:=(OB.lt b.block (by simp [Value.ownBlock,hb])).1;omega⟩
end Go.Proofs.YtbknhgapjjaelaaGreatDoor
