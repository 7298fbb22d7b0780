/-
  Part 8 of what the proof stands on: lemmas and contracts, each with its conditions ahead of the colon.
-/
import Derived.BigQuiet
import Derived.Deep.AppendLies
import Derived.Deep.RegionLaw
import Derived.Laws.EntriesVeiled
import Derived.Deep.RegionHeld3
import Derived.Test.YtbknhgapjjaelaaGreatDoorRows
import Derived.OpenShut
import Derived.ChangeAt
import Derived.Test.YtbknhgapjjaelaaGreatDoorPj01
import Derived.Test.YtbknhgapjjaelaaGreatDoorPj02
import Derived.Test.YtbknhgapjjaelaaGreatDoorPj03
import Derived.Test.YtbknhgapjjaelaaGreatDoorPj04
import Derived.Test.YtbknhgapjjaelaaGreatDoorPj06
import Derived.Test.YtbknhgapjjaelaaGreatDoorPj07
set_option maxRecDepth 10000
set_option maxHeartbeats 8000000
namespace Go.Proofs.YtbknhgapjjaelaaGreatDoor
set_option linter.unusedVariables false
set_option linter.unusedSimpArgs false
open Go.RowKit
theorem kj {C i k n:Nat} (h:i * C+k<n) (hn:n≤1048576):∃ J:Nat,(i:Int) * (C:Int)+(k:Int)=(J:Int)∧J<n∧J=i * C+k∧0≤(i:Int) * (C:Int)∧(i:Int) * (C:Int)≤1048576:=by
 have e:(i:Int) * (C:Int)=((i * C:Nat):Int):=(Int.natCast_mul i C).symm;refine ⟨i * C+k,by rw [e,Int.natCast_add],h,rfl,by rw [e];omega,by rw [e];omega⟩
theorem ou (w:World) (R:Int) (C i k:Nat) (aA:Option Addr) (cA:Nat) (xA:List Int) (vB:Value) (h:Rd w w.heap.size aA (ae xA)) (hi:i * C+k<xA.length) (hl:xA.length≤1048576) :
 Calls Tryz.prog 143 #[.agg #[.int .i64 R,.int .i64 C,.slice aA xA.length cA,vB],.int .i64 i,.int .i64 k] w fun e w'=>e=.returned (.int .i64 (aU C xA i k))∧Below w.heap.size w w':=by
 obtain ⟨J,hJ,hJl,hJe,m0,m1⟩:=kj hi hl;obtain ⟨b,o,y,rfl,hbb,hck,hy⟩:=h.get (k:=J) hJl;have HF:Hid (aU C xA i k=y):=by
  unfold aU;rw [Hid,← hJe];exact co hy.out
 have hbb':b≠w.heap.size:=by omega
 clear h hy hi hJe
 go_enter Tryz.func143,Tryz.ntmps143;go_wp2_with fail;go_ret;exact ⟨bY HF.out.symm,ai _ _⟩
theorem At (w:World) (R:Int) (C i k:Nat) (vA:Value) (aB:Option Addr) (cB:Nat) (xB:List Int) (h:Rd w w.heap.size aB (ae xB)) (hi:i * C+k<xB.length) (hl:xB.length≤1048576) :
 Calls Tryz.prog 144 #[.agg #[.int .i64 R,.int .i64 C,vA,.slice aB xB.length cB],.int .i64 i,.int .i64 k] w fun e w'=>e=.returned (.int .i64 (aU C xB i k))∧Below w.heap.size w w':=by
 obtain ⟨J,hJ,hJl,hJe,m0,m1⟩:=kj hi hl;obtain ⟨b,o,y,rfl,hbb,hck,hy⟩:=h.get (k:=J) hJl;have HF:Hid (aU C xB i k=y):=by
  unfold aU;rw [Hid,← hJe];exact co hy.out
 have hbb':b≠w.heap.size:=by omega
 clear h hy hi hJe
 go_enter Tryz.func144,Tryz.ntmps144;go_wp2_with fail;go_ret;exact ⟨bY HF.out.symm,ai _ _⟩
section
variable {T T2 t0 lo hi:Nat} {w w':World} {u:Value} {vs:List Value} {yss:List (List Int)}
end
theorem fc {P:Program} {ops:Array Oper} {o:Oper} {a:Act} {wr:World} {K:Act→World→Prop} {Q:Exit→Act→World→Prop} {E:Prop}
 (hg:o.guard=none) (s x:Operand) (t:TypeId) (hop:o.op=Op.call { callee:=Callee.builtin Builtin.append,args:=#[s,x],argTypes:=#[t,t] })
 (base:Nat) (e:TypeId) (z:Value) (bytes:Nat) (h1:P.underlying t=some (.slice e)) (hinfo:(P.info? e).map (fun i=>(i.zero,i.size,i.bytes))=some (some z,1,bytes)) (hz:z.cells.size=1)
 (v:Value) (n:Nat) (xs:List Value) (hs:a.eval s=v) (hown:wr.ownsRow base e 1 v n xs) (y:Value) (hy:y.oneCell'=true)
 (hx:a.eval x=.slice (some ⟨wr.heap.size,0,none⟩) 1 1) (hb:bytes≤64) (hn:n≤1099511627776) (hbase:base≤wr.heap.size)
 (hK:∀ g c w',w'.ownsRow base e 1 (.slice (some ⟨g,0,none⟩) (n+1) c) (n+1) (xs ++ [y])→wr.grownBy w' v.ownBlock→(∀ q,q<wr.heap.size→some q≠v.ownBlock→some q≠(Value.slice (some ⟨g,0,none⟩) (n+1) c).ownBlock)→K (a.put o.dst (.slice (some ⟨g,0,none⟩) (n+1) c)) w') :
 if Region.wanted o (yielded ops a.tmps)=true then Oper.wp P o a (wr.alloc (.cells #[y] e)) K Q else E:=by
 obtain ⟨i,h2,h3,h4,h5⟩:=info_parts hinfo;have hbb:(n+1) * bytes≤140737488355328:=Nat.le_trans (Nat.mul_le_mul_left (n+1) hb) (by omega)
 have hone:∀ u∈[y],u.oneCell'=true:=by
  intro u hu;simp at hu
  subst hu;exact hy
 refine step_append_lies _ hg s x t hop base e i z 1 bytes h1 h2 h3 h4 h5 hz (by omega) v n xs hs (hown.alloc _) ⟨wr.heap.size,0,none⟩ 1 1 [y] hx rfl (World.news_of_block (cs:=#[y]) (t:=e) (fr:=(0,0)) (heap_alloc_new wr _)) hone (by omega) (by unfold maxLen;omega) hbb (by simp;omega) (wr.heap.size+1) (by simp) ?_
 intro g c w' ho hgr hat _;refine hK g c w' ho ⟨hgr.os,hgr.tape,hgr.output,?_,fun k hk hne=>?_⟩ fun q hq hqv hqv'=>?_
 · have:=hgr.size;simp at this;omega
 · rw [hgr.block k (by simp;omega) hne]
   exact Below.heap_alloc _ _ _ hk
 · simp [Value.ownBlock] at hqv'
   subst hqv'
   rcases hat with h | h
   · exact hqv h.symm
   · omega
structure TG (w wr:World) (row0:List Value) (gO T0:Nat) (P Q:Int) (aA:Option Addr) (cA:Nat) (lA:List Int) (aB:Option Addr) (cB:Nat) (lB:List Int):Prop where
 B:Below w.heap.size w wr
 KB:Blk wr w.heap.size row0 26
 KR:Blk wr (w.heap.size+1) [.int .i64 0,.int .i64 0,.slice none 0 0,.slice none 0 0] 26
 KO:Blk wr gO [.int .i64 P,.int .i64 Q,.slice aA lA.length cA,.slice aB lB.length cB] 26
 A:wr.ownsRow T0 2 1 (.slice aA lA.length cA) lA.length (ae lA)
 C:wr.ownsRow T0 2 1 (.slice aB lB.length cB) lB.length (ae lB)
 ap:Apart (.slice aA lA.length cA) (.slice aB lB.length cB)
 sz:T0≤wr.heap.size
section
variable {w wr w6 w8:World} {row0:List Value} {gO T0 cA cB g8 c8:Nat} {P Q:Int} {aA aB:Option Addr} {lA lB:List Int}
theorem TG.call (h:TG w wr row0 gO T0 P Q aA cA lA aB cB lB) (h1:w.heap.size+1<gO) (hg:gO<T0) (hb:Below wr.heap.size wr w6):TG w w6 row0 gO T0 P Q aA cA lA aB cB lB :=
 ⟨aa h.B hb,h.KB.same hb,h.KR.same hb,h.KO.same hb,aD h.A hb,aD h.C hb,h.ap,Nat.le_trans h.sz hb.size⟩
theorem xr {T:Nat} {wr w8:World} {v:Value} {n:Nat} {xs:List Value} (ho:wr.ownsRow T0 T 1 v n xs) (hg:wr.grownBy w8 v.ownBlock) (hs:T0≤wr.heap.size):Below T0 wr w8:=ah (Below.refl T0 wr) ho hg (Nat.le_refl _) hs
theorem dh (w:World) (g j:Nat) (u:Value):w.grownBy (w.setCell ⟨g,j,none⟩ u) (some g):=⟨rfl,rfl,rfl,by simp,fun i _ hi=>Below.heap_setCell _ _ _ _ (fun e=>hi (by simp [e]))⟩
theorem TG.snocA {x:Int} (h:TG w wr row0 gO T0 P Q aA cA lA aB cB lB) (h1:w.heap.size+1<gO) (hg:gO<T0)
 (ho:w8.ownsRow T0 2 1 (.slice (some ⟨g8,0,none⟩) (lA.length+1) c8) (lA.length+1) (ae lA ++ [.int .i64 x])) (hgr:wr.grownBy w8 (Value.slice aA lA.length cA).ownBlock) (hn:∀ q,q<wr.heap.size→some q≠(Value.slice aA lA.length cA).ownBlock→some q≠(Value.slice (some ⟨g8,0,none⟩) (lA.length+1) c8).ownBlock) :
 TG w (w8.setCell ⟨gO,2,none⟩ (.slice (some ⟨g8,0,none⟩) (lA.length+1) c8)) row0 gO T0 P Q (some ⟨g8,0,none⟩) c8 (lA ++ [x]) aB cB lB:=by
 have hb:=xr h.A hgr h.sz;have hts:=dh w8 gO 2 (.slice (some ⟨g8,0,none⟩) (lA.length+1) c8);have K8:=h.KO.below hb hg;have C8:=rV h.C hgr h.ap;have hl:(lA ++ [x]).length=lA.length+1:=by simp
 refine ⟨(h.B.trans (hb.mono (by omega))).setCell (p:=⟨gO,2,none⟩) (by show w.heap.size≤gO;omega) _,(h.KB.below hb (by omega)).oth (by omega) _ _,(h.KR.below hb (by omega)).oth (by omega) _ _,?_,?_,aP C8 hts hg,?_,?_⟩
 · rw [hl];exact K8.set 2 _
 · rw [hl,bk];exact aP ho hts hg
 · rw [hl]
   intro q hq hq2
   by_cases hqs:q<wr.heap.size
   · by_cases e:some q=(Value.slice aA lA.length cA).ownBlock
     · exact h.ap q e.symm hq2
     · exact hn q hqs e hq.symm
   · have:=(h.C.lt q hq2).2
     omega
 · have:=hb.size;simp;have:=h.sz;omega
theorem TG.snocB {x:Int} (h:TG w wr row0 gO T0 P Q aA cA lA aB cB lB) (h1:w.heap.size+1<gO) (hg:gO<T0)
 (ho:w8.ownsRow T0 2 1 (.slice (some ⟨g8,0,none⟩) (lB.length+1) c8) (lB.length+1) (ae lB ++ [.int .i64 x])) (hgr:wr.grownBy w8 (Value.slice aB lB.length cB).ownBlock) (hn:∀ q,q<wr.heap.size→some q≠(Value.slice aB lB.length cB).ownBlock→some q≠(Value.slice (some ⟨g8,0,none⟩) (lB.length+1) c8).ownBlock) :
 TG w (w8.setCell ⟨gO,3,none⟩ (.slice (some ⟨g8,0,none⟩) (lB.length+1) c8)) row0 gO T0 P Q aA cA lA (some ⟨g8,0,none⟩) c8 (lB ++ [x]):=by
 have hb:=xr h.C hgr h.sz;have hts:=dh w8 gO 3 (.slice (some ⟨g8,0,none⟩) (lB.length+1) c8);have K8:=h.KO.below hb hg;have A8:=rV h.A hgr h.ap.symm;have hl:(lB ++ [x]).length=lB.length+1:=by simp
 refine ⟨(h.B.trans (hb.mono (by omega))).setCell (p:=⟨gO,3,none⟩) (by show w.heap.size≤gO;omega) _,(h.KB.below hb (by omega)).oth (by omega) _ _,(h.KR.below hb (by omega)).oth (by omega) _ _,?_,aP A8 hts hg,?_,?_,?_⟩
 · rw [hl];exact K8.set 3 _
 · rw [hl,bk];exact aP ho hts hg
 · rw [hl]
   intro q hq2 hq
   by_cases hqs:q<wr.heap.size
   · by_cases e:some q=(Value.slice aB lB.length cB).ownBlock
     · exact h.ap q hq2 e.symm
     · exact hn q hqs e hq.symm
   · have:=(h.A.lt q hq2).2
     omega
 · have:=hb.size;simp;have:=h.sz;omega
end
def Ev (P Q:Int) (lA lB:List Int) (w:World) (e:Ending) (w':World):Prop :=
 ∃ a2 c2 a3 c3,e=.returned (.agg #[.int .i64 P,.int .i64 Q,.slice a2 lA.length c2,.slice a3 lB.length c3])∧Rd w' w'.heap.size a2 (ae lA)∧Rd w' w'.heap.size a3 (ae lB)∧Below w.heap.size w w'∧(∀ b,a2=some b→w.heap.size≤b.block)∧∀ b,a3=some b→w.heap.size≤b.block
theorem jM (w:World) (R C:Nat) (aA:Option Addr) (cA:Nat) (xA:List Int) (aB:Option Addr) (cB:Nat) (xB:List Int) (hA:Rd w w.heap.size aA (ae xA)) (hB:Rd w w.heap.size aB (ae xB)) (lA:xA.length=R * C) (lB:xB.length=R * C) (hR:R≤6) (hC:C≤6) :
 Calls Tryz.prog 141 #[.agg #[.int .i64 R,.int .i64 C,.slice aA xA.length cA,.slice aB xB.length cB]] w (Ev C R (aG R C xB (C * R)) (aG R C xA (C * R)) w):=by
 have hRC:R * C≤36:=Nat.le_trans (Nat.mul_le_mul hR hC) (by decide)
 have LA:=Oi (fun v (hb:Below w.heap.size w v) (i k:Nat) (hi:i<R) (hk:k<C)=>ou v R C i k aA cA xA (.slice aB xB.length cB) (hA.to hb) (by rw [lA];exact dH hi hk) (by omega))
 have LB:=Oi (fun v (hb:Below w.heap.size w v) (i k:Nat) (hi:i<R) (hk:k<C)=>At v R C i k (.slice aA xA.length cA) aB cB xB (hB.to hb) (by rw [lB];exact dH hi hk) (by omega))
 obtain ⟨row0,hrow⟩:∃ r,r=[Value.int .i64 R,.int .i64 C,.slice aA xA.length cA,.slice aB xB.length cB]:=⟨_,rfl⟩;have KB:=Blk.new w [.int .i64 R,.int .i64 C,.slice aA xA.length cA,.slice aB xB.length cB] 26;have HRow:=Oi hrow;clear hA hB lA lB
 go_enter Tryz.func141,Tryz.ntmps141;have HT0:Hid (TG w (((w.alloc (.cells #[.int .i64 R,.int .i64 C,.slice aA xA.length cA,.slice aB xB.length cB] 26)).alloc (.cells #[.int .i64 0,.int .i64 0,.slice none 0 0,.slice none 0 0] 26)).alloc (.cells #[.int .i64 C,.int .i64 R,.slice none 0 0,.slice none 0 0] 26)) row0 (w.heap.size+2) (w.heap.size+3) C R none 0 [] none 0 []):=by
  have b1:=ai w (.cells #[.int .i64 R,.int .i64 C,.slice aA xA.length cA,.slice aB xB.length cB] 26);have e1:=Blk.new (w.alloc (.cells #[.int .i64 R,.int .i64 C,.slice aA xA.length cA,.slice aB xB.length cB] 26)) [.int .i64 0,.int .i64 0,.slice none 0 0,.slice none 0 0] 26;have e2:=Blk.new ((w.alloc (.cells #[.int .i64 R,.int .i64 C,.slice aA xA.length cA,.slice aB xB.length cB] 26)).alloc (.cells #[.int .i64 0,.int .i64 0,.slice none 0 0,.slice none 0 0] 26)) [.int .i64 C,.int .i64 R,.slice none 0 0,.slice none 0 0] 26;rw [World.size_alloc] at e1;rw [World.size_alloc,World.size_alloc] at e2;refine ⟨((b1.alloc (by simp) _).alloc (by simp;omega) _),?_,e1.alloc _,e2,World.ownsRow_nil _ _ _ _,World.ownsRow_nil _ _ _ _,fun g h=>by simp [Value.ownBlock] at h,by simp⟩
  rw [hrow];exact (KB.alloc _).alloc _
 have q1:(((w.alloc (.cells #[.int .i64 R,.int .i64 C,.slice aA xA.length cA,.slice aB xB.length cB] 26)).alloc (.cells #[.int .i64 0,.int .i64 0,.slice none 0 0,.slice none 0 0] 26)).alloc (.cells #[.int .i64 C,.int .i64 R,.slice none 0 0,.slice none 0 0] 26)).cell? ⟨w.heap.size,1,none⟩=some (.int .i64 C):=by rw [((KB.alloc _).alloc _).cell];rfl
 have f0:Hid (aG R C xB 0=[]∧aG R C xA 0=[]):=⟨rfl,rfl⟩;have FS:Hid (∀ k i,i<R→aG R C xB (k * R+i+1)=aG R C xB (k * R+i) ++ [aU C xB i k]∧aG R C xA (k * R+i+1)=aG R C xA (k * R+i) ++ [aU C xA i k]):=fun k i hi=>⟨uU xB hi,uU xA hi⟩
 have FL:Hid (∀ m,(aG R C xB m).length=m∧(aG R C xA m).length=m):=fun m=>⟨my R C xB m,my R C xA m⟩
 clear hrow KB;go_wp2_with fail;clear q1
 go_loopw [13] (fun kv wr=>∃ (k:Nat) (a2:Option Addr) (c2:Nat) (a3:Option Addr) (c3:Nat) (l2 l3:List Int),k≤C∧kv=.int .i64 k∧Hid (l2=aG R C xB (k * R))∧Hid (l3=aG R C xA (k * R))∧Hid (TG w wr row0 (w.heap.size+2) (w.heap.size+3) C R a2 c2 l2 a3 c3 l3)) (fun kv _=>C - (intOf kv).toNat)
 case atStart=>exact ⟨0,none,0,none,0,[],[],Nat.zero_le _,rfl,(by rw [Hid,Nat.zero_mul];exact f0.out.1.symm),(by rw [Hid,Nat.zero_mul];exact f0.out.2.symm),HT0.out⟩
 case round =>
  clear HT0 f0;obtain ⟨k,a2,c2,a3,c3,l2,l3,hk,rfl,h2,h3,hT⟩:=hrel;have k0:(0:Int)≤(k:Int):=Int.natCast_nonneg _;obtain ⟨wo,hwo⟩:∃ W:World,W=wr:=⟨_,rfl⟩;subst hwo
  by_cases hlt:k<C
  · have hki:(k:Int)<(C:Int):=by omega
    have q0:wo.cell? ⟨w.heap.size,0,none⟩=some (.int .i64 R):=by rw [hT.out.KB.cell 0,HRow.out];rfl
    go_wp2_with fail;clear q0
    go_loopw [18] (fun iv wr=>∃ (i:Nat) (a2:Option Addr) (c2:Nat) (a3:Option Addr) (c3:Nat) (l2 l3:List Int),i≤R∧iv=.int .i64 i∧Hid (l2=aG R C xB (k * R+i))∧Hid (l3=aG R C xA (k * R+i))∧Hid (TG w wr row0 (w.heap.size+2) (w.heap.size+3) C R a2 c2 l2 a3 c3 l3)) (fun iv _=>R - (intOf iv).toNat)
    case atStart=>exact ⟨0,a2,c2,a3,c3,l2,l3,Nat.zero_le _,rfl,h2.out,h3.out,hT.out⟩
    case round =>
     clear h2 h3 hT;obtain ⟨i,a2,c2,a3,c3,l2,l3,hi,rfl,h2,h3,hT⟩:=hrel
     by_cases hil:i<R
     · have hii:(i:Int)<(R:Int):=by omega
       have i0:(0:Int)≤(i:Int):=Int.natCast_nonneg _;obtain ⟨fs1,fs2⟩:=FS.out k i hil;rw [← h2.out] at fs1;rw [← h3.out] at fs2;have hn2:l2.length≤64:=by rw [h2.out,(FL.out _).1];have:k * R≤6 * 6:=Nat.mul_le_mul (by omega) hR;omega
       have hn3:l3.length≤64:=by rw [h3.out,(FL.out _).2];have:k * R≤6 * 6:=Nat.mul_le_mul (by omega) hR;omega
       have LB1:=Oi (LB.out wr.drew (aq hT.out.B) i k hil hlt);obtain ⟨x,hx⟩:∃ x,x=aU C xB i k:=⟨_,rfl⟩;obtain ⟨y,hy⟩:∃ y,y=aU C xA i k:=⟨_,rfl⟩;rw [← hx] at LB1 fs1;rw [← hy] at fs2;have H2n:Hid (l2 ++ [x]=aG R C xB (k * R+(i+1))):=fs1.symm;have H3n:Hid (l3 ++ [y]=aG R C xA (k * R+(i+1))):=fs2.symm;have HY:=Oi hy;have hTs:=hT.out.sz;have HC:Hid (∀ w',Below (w.heap.size+3) wr w'→(w'.cell? ⟨w.heap.size,0,none⟩=some (.int .i64 R)∧w'.cell? ⟨w.heap.size,1,none⟩=some (.int .i64 C)∧w'.cell? ⟨w.heap.size,2,none⟩=some (.slice aA xA.length cA)∧w'.cell? ⟨w.heap.size,3,none⟩=some (.slice aB xB.length cB))∧w'.cell? ⟨w.heap.size+2,2,none⟩=some (.slice a2 l2.length c2)∧w'.frozen? ⟨w.heap.size+2,2,none⟩=false):=fun w' hb=>by
        have kb:=hT.out.KB.below hb (by omega)
        have ko:=hT.out.KO.below hb (by omega)
        rw [HRow.out] at kb;exact ⟨⟨kb.cell 0,kb.cell 1,kb.cell 2,kb.cell 3⟩,ko.cell 2,ko.free 2⟩
       have hOA:=Oi hT.out.A;obtain ⟨⟨r0,r1,r2,r3⟩,d1,d2⟩:=HC.out wr (Below.refl _ _);obtain ⟨⟨r0',r1',r2',r3'⟩,d1',d2'⟩:=HC.out wr.drew (aq (Below.refl _ _));clear fs1 fs2 hx hy h2 h3;go_wp2_with fail
       go_region_law
        ((first
          | (go_simp;refine LB1.out.mono ?_;rintro e w6 ⟨rfl,hb6⟩;dsimp only;have hb7:Below wr.heap.size wr w6:=aa (aq (Below.refl wr.heap.size wr)) hb6;have hOA6:=aD hOA.out hb7;obtain ⟨_,f1,f2⟩:=HC.out w6 (hb7.mono hTs);obtain ⟨_,f3,f4⟩:=HC.out (w6.alloc (.cells #[.int .i64 x] 2)) ((hb7.mono hTs).alloc (Nat.le_trans hTs hb7.size) _))
          | (refine fc (wr:=w6) (by rfl) _ _ 24 (by rfl) (w.heap.size+3) 2 (.int .i64 0) 8 Tryz.underlying24 aZ (by rfl) _ l2.length (ae l2) (by rfl) hOA6 (.int .i64 x) rfl (by rfl) (by decide) (by omega) (Nat.le_trans hTs hb7.size) ?_;intro g8 c8 w8 ho8 hg8 hn8;have hb8:Below (w.heap.size+3) wr w8:=(hb7.mono hTs).trans (ah (Below.refl (w.heap.size+3) w6) hOA6 hg8 (Nat.le_refl _) (Nat.le_trans hTs hb7.size));obtain ⟨_,f5,f6⟩:=HC.out w8 hb8)))
       all_goals
        have hT2:=Oi ((hT.out.call (by omega) (by omega) hb7).snocA (x:=x) (by omega) (by omega) ho8 hg8 hn8)
        clear hb6 hb7 hOA6 f1 f2 f3 f4 ho8 hg8 hn8 hb8 f5 f6 d1 d2 r0 r1 r2 r3 r0' r1' r2' r3' d1' d2' HC hOA LB1 hT;obtain ⟨wz,hwz⟩:∃ W:World,W=w8.setCell ⟨w.heap.size+2,2,none⟩ (.slice (some ⟨g8,0,none⟩) (l2.length+1) c8):=⟨_,rfl⟩;rw [← hwz] at hT2;have LA1:=Oi (LA.out wz.drew (aq hT2.out.B) i k hil hlt);rw [← HY.out] at LA1;have hTs:=hT2.out.sz;have HC:Hid (∀ w',Below (w.heap.size+3) wz w'→(w'.cell? ⟨w.heap.size,0,none⟩=some (.int .i64 R)∧w'.cell? ⟨w.heap.size,1,none⟩=some (.int .i64 C)∧w'.cell? ⟨w.heap.size,2,none⟩=some (.slice aA xA.length cA)∧w'.cell? ⟨w.heap.size,3,none⟩=some (.slice aB xB.length cB))∧w'.cell? ⟨w.heap.size+2,3,none⟩=some (.slice a3 l3.length c3)∧w'.frozen? ⟨w.heap.size+2,3,none⟩=false):=fun w' hb=>by
         have kb:=hT2.out.KB.below hb (by omega)
         have ko:=hT2.out.KO.below hb (by omega)
         rw [HRow.out] at kb;exact ⟨⟨kb.cell 0,kb.cell 1,kb.cell 2,kb.cell 3⟩,ko.cell 3,ko.free 3⟩
        have hOA:=Oi hT2.out.C;rw [← hwz];obtain ⟨⟨r0,r1,r2,r3⟩,d1,d2⟩:=HC.out wz (Below.refl _ _);obtain ⟨⟨r0',r1',r2',r3'⟩,d1',d2'⟩:=HC.out wz.drew (aq (Below.refl _ _));clear hwz;go_wp2_with fail
        go_region_law
         ((first
           | (go_simp;refine LA1.out.mono ?_;rintro e w6 ⟨rfl,hb6⟩;dsimp only;have hb7:Below wz.heap.size wz w6:=aa (aq (Below.refl wz.heap.size wz)) hb6;have hOA6:=aD hOA.out hb7;obtain ⟨_,f1,f2⟩:=HC.out w6 (hb7.mono hTs);obtain ⟨_,f3,f4⟩:=HC.out (w6.alloc (.cells #[.int .i64 y] 2)) ((hb7.mono hTs).alloc (Nat.le_trans hTs hb7.size) _))
           | (refine fc (wr:=w6) (by rfl) _ _ 24 (by rfl) (w.heap.size+3) 2 (.int .i64 0) 8 Tryz.underlying24 aZ (by rfl) _ l3.length (ae l3) (by rfl) hOA6 (.int .i64 y) rfl (by rfl) (by decide) (by omega) (Nat.le_trans hTs hb7.size) ?_;intro g9 c9 w9 ho9 hg9 hn9;have hb8:Below (w.heap.size+3) wz w9:=(hb7.mono hTs).trans (ah (Below.refl (w.heap.size+3) w6) hOA6 hg9 (Nat.le_refl _) (Nat.le_trans hTs hb7.size));obtain ⟨_,f5,f6⟩:=HC.out w9 hb8)))
        all_goals
         have hT3:=Oi ((hT2.out.call (by omega) (by omega) hb7).snocB (x:=y) (by omega) (by omega) ho9 hg9 hn9)
         clear hb6 hb7 hOA6 f1 f2 f3 f4 ho9 hg9 hn9 hb8 f5 f6 d1 d2 r0 r1 r2 r3 r0' r1' r2' r3' d1' d2' HC hOA LA1 hT2;go_wp2_with fail;go_roundw
         case rel=>exact ⟨i+1,_,_,_,_,l2 ++ [x],l3 ++ [y],by omega,by go_num,H2n.out,H3n.out,hT3⟩
         case measure=>first | (simp [intOf];done) | (simp [intOf];omega)
     · obtain rfl:i=R:=by omega
       have e2:k * i+i=(k+1) * i:=by rw [Nat.add_mul,Nat.one_mul]
       rw [e2] at h2 h3;go_wp2_with fail;go_roundw
       case rel=>exact ⟨k+1,_,_,_,_,l2,l3,by omega,by go_num,h2,h3,hT⟩
       case measure=>first | (simp [intOf];done) | (simp [intOf];omega)
  · obtain rfl:k=C:=by omega
    have R2:=Oi (ay hT.out.A (Nat.le_refl _));have R3:=Oi (ay hT.out.C (Nat.le_refl _));rw [h2.out] at R2;rw [h3.out] at R3;have e2:l2.length=(aG R k xB (k * R)).length:=by rw [h2.out]
    have e3:l3.length=(aG R k xA (k * R)).length:=by rw [h3.out]
    have H23:=Oi (And.intro e2 e3);have HL2:=Oi h2.out;have HL3:=Oi h3.out;have KO:=hT.out.KO;have KR:=hT.out.KR;have k0':wo.cell? ⟨w.heap.size+2,0,none⟩=some (.int .i64 k):=KO.cell 0;have k1':wo.cell? ⟨w.heap.size+2,1,none⟩=some (.int .i64 R):=KO.cell 1;have k2':wo.cell? ⟨w.heap.size+2,2,none⟩=some (.slice a2 l2.length c2):=KO.cell 2;have k3':wo.cell? ⟨w.heap.size+2,3,none⟩=some (.slice a3 l3.length c3):=KO.cell 3;have y0:wo.cell? ⟨w.heap.size+1,0,none⟩=some (.int .i64 0):=KR.cell 0;have y1:wo.cell? ⟨w.heap.size+1,1,none⟩=some (.int .i64 0):=KR.cell 1;have y2:wo.cell? ⟨w.heap.size+1,2,none⟩=some (.slice none 0 0):=KR.cell 2;have y3:wo.cell? ⟨w.heap.size+1,3,none⟩=some (.slice none 0 0):=KR.cell 3;have f0:=KR.free 0;have f1:=KR.free 1;have f2:=KR.free 2;have f3:=KR.free 3;have HKR:=Oi KR;have HT:=hT;clear KO KR h2 h3 e2 e3 hT;go_wp2_with fail;obtain ⟨wz,hwz⟩:∃ Y,Y=(((wo.setCell ⟨w.heap.size+1,0,none⟩ (.int .i64 k)).setCell ⟨w.heap.size+1,1,none⟩ (.int .i64 R)).setCell ⟨w.heap.size+1,2,none⟩ (.slice a2 l2.length c2)).setCell ⟨w.heap.size+1,3,none⟩ (.slice a3 l3.length c3):=⟨_,rfl⟩;have KZ:Blk wz (w.heap.size+1) [.int .i64 k,.int .i64 R,.slice a2 l2.length c2,.slice a3 l3.length c3] 26:=by rw [hwz];exact (((HKR.out.set 0 (.int .i64 k)).set 1 (.int .i64 R)).set 2 (.slice a2 l2.length c2)).set 3 (.slice a3 l3.length c3)
    have OA:wz.ownsRow (w.heap.size+3) 2 1 (.slice a2 l2.length c2) l2.length (ae l2):=by
     rw [hwz];exact aP (aP (aP (aP HT.out.A (dh _ _ _ _) (by omega)) (dh _ _ _ _) (by omega)) (dh _ _ _ _) (by omega)) (dh _ _ _ _) (by omega)
    have OB:wz.ownsRow (w.heap.size+3) 2 1 (.slice a3 l3.length c3) l3.length (ae l3):=by
     rw [hwz];exact aP (aP (aP (aP HT.out.C (dh _ _ _ _) (by omega)) (dh _ _ _ _) (by omega)) (dh _ _ _ _) (by omega)) (dh _ _ _ _) (by omega)
    have BZ:Below w.heap.size w wz:=by rw [hwz];exact aw (aw (aw (aw HT.out.B (by omega) _ _) (by omega) _ _) (by omega) _ _) (by omega) _ _
    have RA:=ay OA (Nat.le_refl _);have RB:=ay OB (Nat.le_refl _);obtain ⟨e2,e3⟩:=H23.out;rw [← hwz];clear hwz k0' k1' k2' k3' y0 y1 y2 y3 f0 f1 f2 f3 R2 R3;have y0:wz.cell? ⟨w.heap.size+1,0,none⟩=some (.int .i64 k):=KZ.cell 0;have y1:wz.cell? ⟨w.heap.size+1,1,none⟩=some (.int .i64 R):=KZ.cell 1;have y2:wz.cell? ⟨w.heap.size+1,2,none⟩=some (.slice a2 l2.length c2):=KZ.cell 2;have y3:wz.cell? ⟨w.heap.size+1,3,none⟩=some (.slice a3 l3.length c3):=KZ.cell 3;refine bodyPost_ret (v:=.agg #[.int .i64 k,.int .i64 R,.slice a2 l2.length c2,.slice a3 l3.length c3]) (by simp [results,Tryz.results141,go_sem,y0,y1,y2,y3]) rfl ?_
    have hl2:=HL2.out;have hl3:=HL3.out;subst hl2 hl3;exact ⟨a2,c2,a3,c3,rfl,RA,RB,BZ,fun b hb=>by have:=(OA.lt b.block (by simp [Value.ownBlock,hb])).1;omega,fun b hb=>by have:=(OB.lt b.block (by simp [Value.ownBlock,hb])).1;omega⟩
def Eu (w:World) (g:Nat) (R:Int) (C:Nat) (aA:Option Addr) (cA:Nat) (xA:List Int) (vB:Value):Prop:=Blk w g [.int .i64 R,.int .i64 C,.slice aA xA.length cA,vB] 26
theorem MC (w:World) (gB iB jB:Nat) (R C i j k:Nat) (aA:Option Addr) (cA:Nat) (xA:List Int) (vB:Value) (hg:Eu w gB R C aA cA xA vB) (hi:Blk w iB [.int .i64 i] 2) (hj:Blk w jB [.int .i64 j] 2) (hr:Rd w w.heap.size aA (ae xA)) (hl:xA.length≤1048576) (hx:xA.length=R * C) (iR:i<R) (jR:j<R) (kC:k<C) :
 Calls Tryz.prog 218 #[.int .i64 k,.pointer (some ⟨gB,0,none⟩),.pointer (some ⟨jB,0,none⟩),.pointer (some ⟨iB,0,none⟩)] w fun e w'=>e=.returned (.bool (decide (aU C xA j k≤aU C xA i k)))∧Below w.heap.size w w':=by
 have LJ:=Oi (fun v (hb:Below w.heap.size w v)=>ou v R C j k aA cA xA vB (hr.to hb) (by rw [hx];exact dH jR kC) hl)
 have LI:=Oi (fun v (hb:Below w.heap.size w v)=>ou v R C i k aA cA xA vB (hr.to hb) (by rw [hx];exact dH iR kC) hl)
 have D0:∀ z9:Later w,z9.w'.cell? ⟨gB,0,none⟩=some (.int .i64 R):=fun z9=>(z9.h.cell (p:=⟨gB,0,none⟩) (Blk.lt hg)).trans (Blk.cell hg 0)
 have D1:∀ z9:Later w,z9.w'.cell? ⟨gB,1,none⟩=some (.int .i64 C):=fun z9=>(z9.h.cell (p:=⟨gB,1,none⟩) (Blk.lt hg)).trans (Blk.cell hg 1)
 have D2:∀ z9:Later w,z9.w'.cell? ⟨gB,2,none⟩=some (.slice aA xA.length cA):=fun z9=>(z9.h.cell (p:=⟨gB,2,none⟩) (Blk.lt hg)).trans (Blk.cell hg 2)
 have D3:∀ z9:Later w,z9.w'.cell? ⟨gB,3,none⟩=some vB:=fun z9=>(z9.h.cell (p:=⟨gB,3,none⟩) (Blk.lt hg)).trans (Blk.cell hg 3)
 have D4:∀ z9:Later w,z9.w'.cell? ⟨iB,0,none⟩=some (.int .i64 i):=fun z9=>(z9.h.cell (p:=⟨iB,0,none⟩) hi.lt).trans (hi.cell 0)
 have D5:∀ z9:Later w,z9.w'.cell? ⟨jB,0,none⟩=some (.int .i64 j):=fun z9=>(z9.h.cell (p:=⟨jB,0,none⟩) hj.lt).trans (hj.cell 0)
 clear hg hi hj hr hx iR jR kC;generalize aU C xA j k=p at *
 generalize aU C xA i k=q at *
 go_enter Tryz.func218,Tryz.ntmps218;go_wp2_with fail;refine bg (by kernel_rfl) (by kernel_rfl) ?_
 repeat (go_big_quiet_step (first | (go_at_call_of 143 j;exact dz (LJ.out _ (Later.h _))) | (go_at_call_of 143 i;exact dz (LI.out _ (Later.h _)))))
 refine wpQuiet_nil ?_
 rintro wq ⟨⟨_,hbq⟩,rfl⟩;have HW:=Oi hbq;clear D0 D1 D2 D3 D4 D5 hbq LI LJ;go_wp2_with fail;go_ret;exact ⟨rfl,HW.out⟩
theorem GE (w:World) (gB iB:Nat) (R C i j:Nat) (aA:Option Addr) (cA:Nat) (xA:List Int) (vB:Value) (hg:Eu w gB R C aA cA xA vB) (hi:Blk w iB [.int .i64 i] 2) (hr:Rd w w.heap.size aA (ae xA)) (hl:xA.length≤1048576) (hx:xA.length=R * C) (iR:i<R) (jR:j<R) (hC:C≤1048576) :
 Calls Tryz.prog 217 #[.int .i64 j,.pointer (some ⟨gB,0,none⟩),.pointer (some ⟨iB,0,none⟩)] w fun e w'=>e=.returned (.bool (oQ C xA i j))∧Below w.heap.size w w':=by
 have B1:=ai w (.cells #[.int .i64 j] 2);have KJ:=Blk.new w [.int .i64 j] 2;have LK:=Oi (fun v=>gi v C hC)
 have c1:(w.alloc (.cells #[.int .i64 j] 2)).cell? ⟨gB,1,none⟩=some (.int .i64 C):=by rw [(Blk.same hg B1).cell];rfl
 have LC:=Oi (fun (v:World) (al:Option Addr) (cl:Nat) (hb:Below (w.heap.size+1) (w.alloc (.cells #[.int .i64 j] 2)) v) (hal:Rd v v.heap.size al (ae (eL C)))=>lE 218 #[.pointer (some ⟨gB,0,none⟩),.pointer (some ⟨w.heap.size,0,none⟩),.pointer (some ⟨iB,0,none⟩)] (fun _ _=>by kernel_rfl) v al cl (ae (eL C)) (fun k=>decide (aU C xA j k≤aU C xA i k)) hal (by rw [ints_length,bG];omega) (fun w' k u hb2 hk=>by
  have hk':k<C:=by have:=(List.getElem?_eq_some_iff.1 hk).1;simpa [bG] using this
  rw [eJ _ _ (by rw [bG];exact hk')] at hk
  injection hk with hk
  subst hk;rw [co (oP hk')];have hb3:Below (w.heap.size+1) (w.alloc (.cells #[.int .i64 j] 2)) w':=hb.trans (hb2.mono (by have:=hb.size;rw [World.size_alloc] at this;exact this))
  have hb4:Below w.heap.size w w':=B1.trans (hb3.mono (by omega))
  exact MC w' gB iB w.heap.size R C i j k aA cA xA vB (Blk.same hg hb4) (hi.same hb4) (KJ.below hb3 (by omega)) (hr.to hb4) hl hx iR jR hk'))
 have HB:=Oi B1;have hF:Hid (oQ C xA i j = !iA (fun k=>decide (aU C xA j k≤aU C xA i k)) C):=rfl
 clear hg hi hr hx iR jR B1 KJ
 go_enter Tryz.func217,Tryz.ntmps217;go_wp2_with fail;refine (LK.out _).mono ?_;rintro e w1 ⟨al,cl,rfl,ho,hb⟩;have LC1:=Oi (LC.out w1 al cl (by rw [World.size_alloc] at hb;exact hb) (ay ho (Nat.le_refl _)))
 rw [ints_length,bG] at LC1;have HB1:=Oi (aa HB.out hb);clear ho hb c1 LC LK;go_wp2_with fail;refine LC1.out.mono ?_;rintro e w2 ⟨rfl,hb2⟩;have HW:=Oi (aa HB1.out hb2);clear hb2;go_wp2_with fail;go_ret;exact ⟨ar hF.out.symm,HW.out⟩
theorem yJ (w:World) (R C:Nat) (aA:Option Addr) (cA:Nat) (xA:List Int) (aB:Option Addr) (nB cB:Nat) (hr:Rd w w.heap.size aA (ae xA)) (hl:xA.length≤1048576) (hx:xA.length=R * C) (hR:R≤6) (hC:C≤6) :
 Calls Tryz.prog 171 #[.agg #[.int .i64 R,.int .i64 C,.slice aA xA.length cA,.slice aB nB cB]] w fun e w'=>∃ a' c',e=.returned (.slice a' (fl R C xA R).length c')∧Rd w' w'.heap.size a' (ae (fl R C xA R))∧Below w.heap.size w w':=by
 have KG:Eu (w.alloc (.cells #[.int .i64 R,.int .i64 C,.slice aA xA.length cA,.slice aB nB cB] 26)) w.heap.size R C aA cA xA (.slice aB nB cB):=Blk.new w [.int .i64 R,.int .i64 C,.slice aA xA.length cA,.slice aB nB cB] 26;have B1:=ai w (.cells #[.int .i64 R,.int .i64 C,.slice aA xA.length cA,.slice aB nB cB] 26);have LK:=Oi (fun v=>gi v R (by omega))
 have HG:=Oi KG;have HO:=Oi (bz (w.alloc (.cells #[.int .i64 R,.int .i64 C,.slice aA xA.length cA,.slice aB nB cB] 26)) 2);have HB0:Hid (Below (w.heap.size+1) (w.alloc (.cells #[.int .i64 R,.int .i64 C,.slice aA xA.length cA,.slice aB nB cB] 26)) ((w.alloc (.cells #[.int .i64 R,.int .i64 C,.slice aA xA.length cA,.slice aB nB cB] 26)).alloc (.cells #[] 2))):=by
  have:=ai (w.alloc (.cells #[.int .i64 R,.int .i64 C,.slice aA xA.length cA,.slice aB nB cB] 26)) (.cells #[] 2);rw [World.size_alloc] at this;exact this
 have HO2:Hid (World.ownsRow _ (w.heap.size+1) _ _ _ _ _):=bS HO.out (by simp)
 have q0:((w.alloc (.cells #[.int .i64 R,.int .i64 C,.slice aA xA.length cA,.slice aB nB cB] 26)).alloc (.cells #[] 2)).cell? ⟨w.heap.size,0,none⟩=some (.int .i64 R):=by rw [(Blk.alloc KG _).cell];rfl
 have HR:=Oi hr;have HX:=Oi hx;have HB1:=Oi B1;clear HO hr hx KG B1
 go_enter Tryz.func171,Tryz.ntmps171;go_wp2_with fail;clear q0
 go_loopw [8,3] (fun iv ov wr=>∃ (i:Nat) (v:Value),i≤R∧iv=.int .i64 i∧ov=v∧Hid (wr.ownsRow (w.heap.size+1) 2 1 v (fl R C xA i).length (ae (fl R C xA i)))∧Hid (Below (w.heap.size+1) (w.alloc (.cells #[.int .i64 R,.int .i64 C,.slice aA xA.length cA,.slice aB nB cB] 26)) wr)∧w.heap.size+1≤wr.heap.size) (fun iv _ _=>R - (intOf iv).toNat)
 case atStart=>exact ⟨0,_,Nat.zero_le _,rfl,rfl,(by have h:=HO2.out;simp at h;exact h),HB0.out,(by simp)⟩
 case round =>
  clear HO2 HB0;obtain ⟨i,v,hi,rfl,rfl,ho,hw,hsz⟩:=hrel;have i0:(0:Int)≤(i:Int):=Int.natCast_nonneg _;have KW:=(Blk.below HG.out hw.out (by omega))
  have q0:wr.cell? ⟨w.heap.size,0,none⟩=some (.int .i64 R):=KW.cell 0
  by_cases hlt:i<R
  · have hii:(i:Int)<(R:Int):=by omega
    have hs:=Oi (DC R C xA i);have hll:=ra R C xA i;have KI:=Oi (Blk.new wr [.int .i64 i] 2);have BI:=Oi (ai wr (.cells #[.int .i64 i] 2));have q1:(wr.alloc (.cells #[.int .i64 i] 2)).cell? ⟨w.heap.size,0,none⟩=some (.int .i64 R):=by rw [(KW.same BI.out).cell];rfl
    have HKW:=Oi KW;have LC:=Oi (fun (v:World) (al:Option Addr) (cl:Nat) (hb:Below (wr.heap.size+1) (wr.alloc (.cells #[.int .i64 i] 2)) v) (hal:Rd v v.heap.size al (ae (eL R)))=>lE 217 #[.pointer (some ⟨w.heap.size,0,none⟩),.pointer (some ⟨wr.heap.size,0,none⟩)] (fun _ _=>by kernel_rfl) v al cl (ae (eL R)) (oQ C xA i) hal (by rw [ints_length,bG];omega) (fun w' j u hb2 hj=>by
     have hj':j<R:=by have:=(List.getElem?_eq_some_iff.1 hj).1;simpa [bG] using this
     rw [eJ _ _ (by rw [bG];exact hj')] at hj
     injection hj with hj
     subst hj;rw [co (oP hj')];have hb3:Below (wr.heap.size+1) (wr.alloc (.cells #[.int .i64 i] 2)) w':=hb.trans (hb2.mono (by have:=hb.size;rw [World.size_alloc] at this;exact this))
     have hb4:Below wr.heap.size wr w':=BI.out.trans (hb3.mono (by omega))
     exact GE w' w.heap.size wr.heap.size R C i j aA cA xA (.slice aB nB cB) (HKW.out.same hb4) (KI.out.below hb3 (by omega)) ((HR.out.to (HB1.out.trans (hw.out.mono (by omega)))).to hb4) hl HX.out hlt hj' (by omega)))
    clear KW;go_wp2_with fail;refine (LK.out _).mono ?_;rintro e w1 ⟨al,cl,rfl,hoa,hb⟩;have LC1:=Oi (LC.out w1 al cl (by rw [World.size_alloc] at hb;exact hb) (ay hoa (Nat.le_refl _)))
    rw [ints_length,bG] at LC1;have HBa:=Oi (aa BI.out hb);have ci:Hid (Blk w1 wr.heap.size [.int .i64 i] 2):=KI.out.below hb (by simp)
    clear hoa hb q1 LC LK;go_wp2_with fail;refine LC1.out.mono ?_;rintro e w2 ⟨rfl,hb2⟩;have HBb:=Oi (aa HBa.out hb2);have cj:w2.cell? ⟨wr.heap.size,0,none⟩=some (.int .i64 i):=by rw [(ci.out.same hb2).cell];rfl
    have hW2:=Oi (hw.out.trans (HBb.out.mono hsz));have hO2:=Oi (aD ho.out HBb.out);have hsz2:w.heap.size+1≤w2.heap.size:=by have:=HBb.out.size;omega
    clear hb2 ho hw ci HBa HBb KI BI LC1 HKW
    cases hwb:iA (oQ C xA i) R with
    | false =>
      rw [hwb,if_neg (by decide)] at hs
      clear cj;go_wp2_with fail;go_roundw
      case rel=>exact ⟨i+1,_,by omega,by go_num,rfl,by rw [hs.out];exact hO2.out,hW2,hsz2⟩
      case measure=>simp [intOf];omega
    | true =>
      rw [hwb,if_pos rfl] at hs
      go_wp2_with (at_builtin;refine aH _ rfl _ _ 24 rfl (w.heap.size+1) 2 (.int .i64 0) 8 Tryz.underlying24 aZ rfl _ _ _ rfl hO2.out (.int .i64 i) rfl rfl (by omega) (by omega) hsz2 ?_)
      intro v8 w8 o8 g8;have B8:=Oi (ah hW2.out hO2.out g8 (Nat.le_refl _) hsz2);have H8:Hid (w8.ownsRow (w.heap.size+1) 2 1 v8 (fl R C xA (i+1)).length (ae (fl R C xA (i+1)))):=by rw [hs.out,bk,List.length_append];exact o8
      have hs8:w.heap.size+1≤w8.heap.size:=by have:=g8.size;omega
      clear o8 g8 hO2 hW2 hs cj;go_wp2_with fail;go_roundw
      case rel=>exact ⟨i+1,v8,by omega,by go_num,rfl,H8,B8,hs8⟩
      case measure=>simp [intOf];omega
  · obtain rfl:i=R:=by omega
    obtain ⟨a',c',e',hcap,_⟩:=ba ho.out;subst e';have HRd:=Oi (ay ho.out (Nat.le_refl _));have HW:=Oi (HB1.out.trans (hw.out.mono (by omega)))
    clear ho hw hcap KW;go_wp2_with fail;go_ret;exact ⟨a',c',rfl,HRd.out,HW.out⟩
def jg (xs:List Int):List Value:=xs.map (Value.int .u8)
@[simp] theorem byts_length (xs:List Int):(jg xs).length=xs.length:=by simp [jg]
theorem zU (xs:List Int) (k:Nat) (hk:k<xs.length):(jg xs)[k]? = some (.int .u8 (xs.getD k 0)):=by
 simp [jg,List.getD,List.getElem?_eq_getElem hk]
theorem Rd.atB {w:World} {B:Nat} {a:Option Addr} {xs:List Int} (h:Rd w B a (jg xs)) {k:Nat} (hk:k<xs.length) :
 ∃ b o,a=some ⟨b,o,none⟩∧b<B∧∀ j,j<xs.length→w.cell? ⟨b,o+j,none⟩=some (.int .u8 (xs.getD j 0)):=by
 rcases h with h | ⟨b,o,ha,hb,hc⟩
 · have:(jg xs).length=0:=by rw [h];rfl
   simp at this;subst this;simp at hk
 · exact ⟨b,o,ha,hb,fun j hj=>by rw [hc j (by simpa using hj)];exact zU xs j hj⟩
section
open Go.ChangeShapes Go.WideShapes Go.ChangeAt
theorem FV {w:World} {a:Option Addr} {len cap:Nat} {zs:List Int} (h:(a=none∧len=0∧cap=0∧zs=[]) ∨
 ∃ x,a=some x∧len≤cap∧cap≤maxLen∧zs.length=cap∧(∀ i,i<zs.length→w.cell? (x.add i)=some (.int .u8 (zs.getD i 0)))∧∀ n∈zs,(Lit.int .u8 n).wf=true) :
 Rd w w.heap.size a (jg (zs.take len))∧(zs.take len).length=len:=by
 rcases h with ⟨rfl,rfl,rfl,rfl⟩ | ⟨x,rfl,h1,h2,h3,h4,_⟩
 · exact ⟨.inl rfl,rfl⟩
 · have hl:(zs.take len).length=len:=by simp;omega
   refine ⟨?_,hl⟩
   by_cases h0:len=0
   · subst h0;exact .inl rfl
   · have hx:=h4 0 (by omega)
     have hx0:x.add 0=x:=rfl;rw [hx0] at hx;obtain ⟨b,o,s⟩:=x;have hs:s=none:=by
      cases s with
      | none=>rfl
      | some s =>
        unfold World.cell? at hx
        split at hx <;> simp at hx
     subst hs;refine .inr ⟨b,o,rfl,World.block_lt_of_cell? w _ hx,fun j hj=>?_⟩
     rw [byts_length,hl] at hj;have hj2:=h4 j (by omega)
     have ea:(⟨b,o,none⟩:Addr).add j=⟨b,o+j,none⟩:=by unfold Addr.add;split <;> simp_all
     rw [ea] at hj2;rw [hj2,zU _ _ (by omega)]
     simp [List.getD,List.getElem?_take,hj]
theorem xY {H:Type} {enc:TypeId × Value→H} {P:Program} {w:World} {t e:TypeId} {a:Option Addr} {len cap:Nat} {d:DataW H} {ps:List MemPlace} (ht:P.underlying t=some (.slice e)) (he:P.underlying e=some (.int .u8)) (hc:P.cellsOf e=1)
 (h:DataW.Trod enc P w 0 (fun _=>true) true t (.slice a len cap) d ps) :
 ∃ xs:List Int,xs.length=len∧Rd w w.heap.size a (jg xs)∧xs.length≤9223372036854775807∧∀ x∈xs,0≤x∧x≤255:=by
 obtain ⟨fuel,hf⟩:=h
 rcases open_ints ht he hc hf with ⟨hcs,_⟩ | ⟨x,l,c,zs,hcs,_,hl,hm,hz,_,hcell,hwz⟩
 · simp [Value.cells] at hcs
   obtain ⟨rfl,rfl,rfl⟩:=hcs;exact ⟨[],rfl,Rd.nil _ _ _,by simp,by simp⟩
 · simp [Value.cells] at hcs
   obtain ⟨rfl,rfl,rfl⟩:=hcs;have:=FV (.inr ⟨_,rfl,hl,hm,by simpa using hz,hcell,hwz⟩);refine ⟨_,this.2,this.1,by rw [this.2];unfold maxLen at hm;omega,fun y hy=>?_⟩
   have hw:=hwz y (List.mem_of_mem_take hy);simp only [Lit.wf,Bool.and_eq_true,decide_eq_true_eq] at hw;exact ⟨hw.1,hw.2⟩
end
end Go.Proofs.YtbknhgapjjaelaaGreatDoor
