/-
  Part 34 of what the proof stands on: lemmas and contracts, each with its conditions ahead of the colon.
-/
import Derived.Outline
import Derived.Laws.EntriesVeiled
import Derived.WalkKit
import Derived.Test.YtbknhgapjjaelaaGreatDoorPj01
import Derived.Test.YtbknhgapjjaelaaGreatDoorPj03
import Derived.Test.YtbknhgapjjaelaaGreatDoorPj11
import Derived.Test.YtbknhgapjjaelaaGreatDoorPj18
import Derived.Test.YtbknhgapjjaelaaGreatDoorPj33
set_option maxRecDepth 100000
set_option maxHeartbeats 8000000
namespace Go.Proofs.YtbknhgapjjaelaaGreatDoor
set_option linter.unusedVariables false
set_option linter.unusedSimpArgs false
open Go.RowKit
theorem MN {w:World} {base e n c g:Nat} {xs:List Value} {y:Value} (h:w.ownsRow base e 1 (.slice (some ⟨g,0,none⟩) (n+1) c) (n+1) (xs ++ [y])) (hn:xs.length=n):w.ownsRow base e 1 (.slice (some ⟨g,0,none⟩) n c) n xs:=by
 rcases h.2 with ⟨h2,_⟩ | ⟨g',cap,cur,hv,hg,hh,hnc,hm,hs,ht⟩
 · cases h2
 · injection hv with e1 _ e3
   injection e1 with e1
   injection e1 with e1 _
   subst e1 e3;refine ⟨by omega,.inr ⟨g,c,cur,rfl,hg,hh,by omega,hm,hs,?_⟩⟩
   have:=congrArg (List.take n) ht;rw [List.take_take,List.take_left' hn] at this;rw [← this]
   congr 1
   omega
theorem MO {T:Nat} {w w':World} {lo hi lo' hi' n:Nat} {v:Value} {xs:List Value} (h:w.ownsRow lo T 1 v n xs) (hv:∀ g,v.ownBlock=some g→g<hi) (ht:Touch w w' lo' hi') (hd:hi≤lo'∨hi'≤lo):w'.ownsRow lo T 1 v n xs:=by
 refine ⟨h.1,?_⟩
 rcases h.2 with h2 | ⟨g,cap,cur,hv2,hg,hh,r⟩
 · exact .inl h2
 · have h3:g<hi:=hv g (by rw [hv2];rfl)
   exact .inr ⟨g,cap,cur,hv2,hg,by rw [ht.block g (lt_of_block hh) (by omega)];exact hh,r⟩
theorem ny (w:World) (g j:Nat) (u:Value):w.grownBy (w.setCell ⟨g,j,none⟩ u) (some g):=⟨rfl,rfl,rfl,by simp,fun i _ hi=>Below.heap_setCell _ _ _ _ (fun e=>hi (by simp [e]))⟩
theorem Ix {w:World} {base e n c:Nat} {a:Option Addr} {xs:List Value} (h:w.ownsRow base e 1 (.slice a n c) n xs) (hn:0<n):∃ g,a=some ⟨g,0,none⟩:=by
 rcases h.2 with ⟨_,h3⟩ | ⟨g,cap,cur,hv,_⟩
 · omega
 · injection hv with ha _ _;exact ⟨g,ha⟩
theorem xD (args:Array Value) (w:World):(callFunc 242 args).run Tryz.prog w=.ok (.enter 242 args) w:=by kernel_rfl
def mS (base:Nat):Value:=.func (.func 242) #[] #[.pointer (some ⟨base+3,0,none⟩),.pointer (some ⟨base,0,none⟩),.pointer (some ⟨base+1,0,none⟩),.pointer (some ⟨base+4,0,none⟩)]
section
variable {S:List (List Int)→World→Prop} {base n K0:Nat} {caps0:Array Value}
end
theorem mf (n f:Nat) (p:List Int) (k:Nat):(List.range (k+1)).flatMap (fun (i:Nat)=>if decide ((i:Int)∈p) then [] else dt n f (p ++ [(i:Int)]))=(List.range k).flatMap (fun (i:Nat)=>if decide ((i:Int)∈p) then [] else dt n f (p ++ [(i:Int)])) ++ (if decide ((k:Int)∈p) then [] else dt n f (p ++ [(k:Int)])):=by
 rw [List.range_succ,List.flatMap_append];simp
theorem Da (n f:Nat) (p:List Int) {k m:Nat} (h:k≤m):((List.range k).flatMap (fun (i:Nat)=>if decide ((i:Int)∈p) then [] else dt n f (p ++ [(i:Int)]))).length≤((List.range m).flatMap (fun (i:Nat)=>if decide ((i:Int)∈p) then [] else dt n f (p ++ [(i:Int)]))).length:=by
 induction m with
 | zero =>
     have:k=0:=by omega
     subst this;exact Nat.le_refl _
 | succ m ih =>
   by_cases e:k=m+1
   · subst e;exact Nat.le_refl _
   · have:=ih (by omega)
     rw [mf,List.length_append];omega
theorem Gc {n:Nat} {p:List Int} (h0:∀ x∈p,0≤x∧x<n) (h1:p.Nodup) {k:Nat} (hk:k<n) (hp:(k:Int)∉p):(∀ x∈p ++ [(k:Int)],0≤x∧x<n)∧(p ++ [(k:Int)]).Nodup:=by
 refine ⟨fun x hx=>?_,?_⟩
 · rcases List.mem_append.1 hx with hx | hx
   · exact h0 x hx
   · simp at hx;omega
 · rw [List.nodup_append]
   refine ⟨h1,by simp,fun a ha b hb=>?_⟩
   simp at hb
   subst hb;intro e;subst e;exact hp ha
theorem pS {w w':World} (hb:Below w.heap.size w w') (r:Option Nat):w.grownBy w' r:=⟨hb.os,hb.tape,hb.output,hb.size,fun k hk _=>hb.block k hk⟩
structure PG (S:List (List Int)→Option Nat→World→Prop) (base n K0:Nat) (caps0:Array Value) (done:List (List Int)) (p:List Int) (w:World):Prop where
 sz:base+5≤w.heap.size
 bn:Blk w base [.int .i64 n] 2
 bd:Blk w (base+1) [.func (.func K0) #[] caps0] 221
 bp:Blk w (base+4) [mS base] 1
 ord:∃ gb g c,S done gb w∧(∀ x,gb=some x→base+5≤x∧x<w.heap.size)∧gb≠some g∧Blk w (base+3) [.slice (some ⟨g,0,none⟩) p.length c] 24∧w.ownsRow (base+2) 2 1 (.slice (some ⟨g,0,none⟩) p.length c) p.length (ae p)∧g≠base+3∧g≠base+4
section
variable {S:List (List Int)→Option Nat→World→Prop} {base n K0:Nat} {caps0:Array Value}
theorem PG.called {done done':List (List Int)} {p:List Int} {gb gb':Option Nat} {g c:Nat} {w w':World} (sz:base+5≤w.heap.size) (bn:Blk w base [.int .i64 n] 2) (bd:Blk w (base+1) [.func (.func K0) #[] caps0] 221) (bp:Blk w (base+4) [mS base] 1)
 (hgb:∀ x,gb=some x→base+5≤x∧x<w.heap.size) (hne:gb≠some g) (h1:Blk w (base+3) [.slice (some ⟨g,0,none⟩) p.length c] 24) (h2:w.ownsRow (base+2) 2 1 (.slice (some ⟨g,0,none⟩) p.length c) p.length (ae p)) (h3:g≠base+3) (h4:g≠base+4)
 (hs:S done' gb' w') (hb':gb'=gb∨∀ x,gb'=some x→w.heap.size≤x∧x<w'.heap.size) (ht:Touch w w' 0 base):PG S base n K0 caps0 done' p w':=by
 have hsz:=ht.size;refine ⟨Nat.le_trans sz ht.size,bn.touch ht (by omega),bd.touch ht (by omega),bp.touch ht (by omega),gb',g,c,hs,?_,?_,h1.touch ht (by omega),?_,h3,h4⟩
 · rcases hb' with rfl | hb'
   · exact fun x hx=>⟨(hgb x hx).1,by have:=(hgb x hx).2;omega⟩
   · exact fun x hx=>⟨by have:=(hb' x hx).1;omega,(hb' x hx).2⟩
 · rcases hb' with rfl | hb'
   · exact hne
   · intro e
     have:=(hb' g e).1;have:=(h2.lt g rfl).2;omega
 · exact MO h2 (hi:=g+1) (fun g' hg'=>by simp [Value.ownBlock] at hg';omega) ht (.inr (by have:=(h2.lt g rfl).1;omega))
end
theorem Bu (S:List (List Int)→Option Nat→World→Prop) (base n K0:Nat) (caps0:Array Value) (hn:n≤64) (hK:∀ (args:Array Value) (w:World),(callFunc K0 args).run Tryz.prog w=.ok (.enter K0 args) w)
 (hS:∀ done gb w1 w2 g,S done gb w1→w1.grownBy w2 (some g)→base≤g→gb≠some g→S done gb w2)
 (M:Nat) (hdo:∀ done gb os w a c,S done gb w→(∀ x,gb=some x→x<w.heap.size)→mF os n=true→done.length+1≤M→base≤w.heap.size→(∀ x,a=some x→base≤x.block)→Rd w w.heap.size a (ae os)→Calls Tryz.prog K0 (#[.slice a os.length c] ++ caps0) w fun e w'=>e=.returned (.tuple #[])∧∃ gb',S (done ++ [os]) gb' w'∧(gb'=gb∨∀ x,gb'=some x→w.heap.size≤x∧x<w'.heap.size)∧Touch w w' 0 base) :
 ∀ (f:Nat) (done:List (List Int)) (p:List Int) (w:World),PG S base n K0 caps0 done p w→p.length+f=n→done.length+(dt n f p).length≤M→(∀ x∈p,0≤x∧x<n)→p.Nodup →
  Calls Tryz.prog 242 #[.pointer (some ⟨base+3,0,none⟩),.pointer (some ⟨base,0,none⟩),.pointer (some ⟨base+1,0,none⟩),.pointer (some ⟨base+4,0,none⟩)] w fun e w'=>e=.returned (.tuple #[])∧PG S base n K0 caps0 (done ++ dt n f p) p w'
 | 0,done,p,w,h,hl,hM,hp,hnd=>by
   obtain ⟨gb,g,c,hs0,hgb,hne,h1,h2,h3,h4⟩:=h.ord;have hR:Rd w w.heap.size (some ⟨g,0,none⟩) (ae p):=ay h2 (Nat.le_refl _);have HPC:=Oi (fun gb' w' hs hb' ht=>PG.called (S:=S) (done:=done) (done':=done ++ [p]) (p:=p) (gb:=gb) (gb':=gb') (g:=g) (c:=c) (w:=w) (w':=w') h.sz h.bn h.bd h.bp hgb hne h1 h2 h3 h4 hs hb' ht)
   have HD:=Oi (hdo done gb p w (some ⟨g,0,none⟩) c hs0 (fun x hx=>(hgb x hx).2) (nr.2 ⟨hp,hnd,by omega⟩) (by simpa [dt] using hM) (by have:=h.sz;omega) (fun x hx=>by injection hx with hx;subst hx;have:=(h2.lt g rfl).1;show base≤g;omega) hR)
   have HP:=Oi h;have c1:=h1.cell 0;have c2:=h.bn.cell 0;have c3:=h.bd.cell 0;simp only [List.getElem?_cons_zero] at c1 c2 c3;have hpl:p.length=n:=by omega
   rw [hpl] at c1 HD;have hKK:=Oi hK;clear hS hdo hp hnd h1 h2 hR h hl hpl hK hM hs0 hgb hne;have hK:=hKK.out
   go_enter Tryz.func242,Tryz.ntmps242;go_wp2_with fail;refine HD.out.mono ?_;rintro e w' ⟨rfl,gb',hs,hb',ht⟩;have HR:=Oi (HPC.out gb' w' hs hb' ht);clear hs ht hb';go_wp2_with fail
   first | (refine bodyPost_ret (results_none rfl _ _ _) rfl ?_) | skip
   exact ⟨rfl,HR.out⟩
 | f+1,done,p,w,h,hl,hM,hp,hnd=>by
   have IH:=Oi (Bu S base n K0 caps0 hn hK hS M hdo f);have HSS:=Oi hS;have HP:=Oi h;have Hp:=Oi hp;have Hnd:=Oi hnd;obtain ⟨gb,g,c,hs0,hgb,hne0,h1,h2,h3,h4⟩:=h.ord;have c1:=h1.cell 0;have c2:=h.bn.cell 0;simp only [List.getElem?_cons_zero] at c1 c2;have hpl:p.length<n:=by omega
   have hl':=Oi hl;have HM:Hid (∀ k,k<n→(done ++ (List.range k).flatMap (fun (i:Nat)=>if decide ((i:Int)∈p) then [] else dt n f (p ++ [(i:Int)]))).length+(if decide ((k:Int)∈p) then [] else dt n f (p ++ [(k:Int)])).length≤M):=fun k hk=>by
    have e1:=Da n f p (show k+1≤n by omega)
    rw [mf,List.length_append] at e1;rw [List.length_append];simp only [dt] at hM;omega
   have htst:((p.length:Int) == (n:Int))=false:=by simp <;> omega
   clear hS hdo hp hnd h1 h2 h3 h4 h hK hl hM hs0 hgb hne0;have hEP:=xD
   go_enter Tryz.func242,Tryz.ntmps242;go_wp2_with fail
   go_loopw [13] (fun i wr=>∃ k:Nat,k≤n∧i=.int .i64 k∧Hid (PG S base n K0 caps0 (done ++ (List.range k).flatMap (fun (i:Nat)=>if decide ((i:Int)∈p) then [] else dt n f (p ++ [(i:Int)]))) p wr)) (fun i _=>n - (intOf i).toNat)
   case atStart=>exact ⟨0,Nat.zero_le _,rfl,(show PG S base n K0 caps0 _ p w from by simpa using HP.out)⟩
   case round =>
    clear c1 c2 HP;obtain ⟨k,hk,rfl,HP⟩:=hrel
    by_cases hlt:k<n
    · obtain ⟨gb,g,c,hs0,hgb,hne0,h1,h2,h3,h4⟩:=HP.out.ord
      have c1:=h1.cell 0;have c3:=HP.out.bp.cell 0;simp only [List.getElem?_cons_zero,mS] at c1 c3;have hR:Rd wr wr.heap.size (some ⟨g,0,none⟩) (ae p):=ay h2 (Nat.le_refl _);have LC:=Oi (gg wr (some ⟨g,0,none⟩) c p k hR (by omega))
      by_cases hin:(k:Int)∈p
      · rw [jS.2 hin] at LC
        have HN:Hid (PG S base n K0 caps0 (done ++ (List.range (k+1)).flatMap (fun (i:Nat)=>if decide ((i:Int)∈p) then [] else dt n f (p ++ [(i:Int)]))) p wr):=by
         rw [mf,decide_eq_true hin,if_pos rfl,List.append_nil];exact HP.out
        clear h1 h2 h3 h4 hR HP hin c3 hs0 hgb hne0;go_wp2_with fail;refine LC.out.mono ?_;rintro e w' ⟨rfl,rfl⟩;go_wp2_with fail;go_roundw
        case rel=>exact ⟨k+1,by omega,by go_num,HN⟩
        case measure=>simp [intOf];omega
      · have hcf:bH p k=false:=by rw [← Bool.not_eq_true,jS];exact hin
        rw [hcf] at LC;have Hin:=Oi hin;obtain ⟨so1,so2⟩:=Gc Hp.out Hnd.out hlt hin;have So1:=Oi so1;have So2:=Oi so2;have H1:=Oi h1;have H2:=Oi h2;have hsz:=HP.out.sz;clear h1 h2 hR hin hcf so1 so2;go_wp2_with fail;refine LC.out.mono ?_;rintro e w' ⟨rfl,rfl⟩;clear LC;have ho:=H2.out
        go_wp2_with (at_builtin;refine aQ _ rfl _ _ 24 rfl (base+2) 2 (.int .i64 0) 8 Tryz.underlying24 aZ rfl _ p.length _ rfl ho (.int .i64 k) rfl rfl (by omega) (by omega) (by omega) ?_)
        intro v' w1 ho1 hgr hnew;have hsz1:=hgr.size;have hne:∀ q,q<base+5→q≠g→some q≠(Value.slice (some ⟨g,0,none⟩) p.length c).ownBlock:=fun q _ hq e=>by simp [Value.ownBlock] at e;exact hq e
        have hg0:base+2≤g:=(ho.lt g rfl).1;have hb4:=H1.out.grown hgr (hne _ (by omega) (by omega))
        have hbn:=HP.out.bn.grown hgr (hne _ (by omega) (by omega))
        have hbd:=HP.out.bd.grown hgr (hne _ (by omega) (by omega))
        have hbp:=HP.out.bp.grown hgr (hne _ (by omega) (by omega))
        have hs1:=HSS.out _ gb _ _ g hs0 hgr (by omega) hne0
        obtain ⟨a1,c1',rfl,hnc,_⟩:=ba ho1;obtain ⟨g1,rfl⟩:=Ix ho1 (by omega)
        have hgb1:gb≠some g1:=fun e=>hnew g1 (hgb g1 e).2 (fun h=>hne0 (by rw [e];exact h)) rfl
        have hgb2:∀ x,gb=some x→base+5≤x∧x<w1.heap.size:=fun x hx=>⟨(hgb x hx).1,Nat.lt_of_lt_of_le (hgb x hx).2 hsz1⟩
        have hgb3:gb≠some (base+3):=fun e=>by have:=(hgb _ e).1;omega
        have hg3:g1≠base+3:=fun e=>hnew (base+3) (by omega) (hne _ (by omega) (by omega)) (by simp [Value.ownBlock,e])
        have hg4:g1≠base+4:=fun e=>hnew (base+4) (by omega) (hne _ (by omega) (by omega)) (by simp [Value.ownBlock,e])
        have hg2:base+2≤g1:=(ho1.lt g1 rfl).1;rw [show ae p ++ [Value.int .i64 k]=ae (p ++ [(k:Int)]) from by rw [bk];rfl] at ho1
        have epl:Hid (p.length+1=(p ++ [(k:Int)]).length):=by simp [Hid]
        have d1:=hb4.cell 0;have d2:=hb4.free 0;have d3:=hbp.cell 0;simp only [List.getElem?_cons_zero,mS] at d1 d3;have hput:∀ v,PG S base n K0 caps0 (done ++ (List.range k).flatMap (fun (i:Nat)=>if decide ((i:Int)∈p) then [] else dt n f (p ++ [(i:Int)]))) (p ++ [(k:Int)]) (w1.setCell ⟨base+3,0,none⟩ v)∨v≠.slice (some ⟨g1,0,none⟩) (p.length+1) c1':=by
         intro v
         by_cases hv:v=.slice (some ⟨g1,0,none⟩) (p.length+1) c1'
         · left
           subst hv;refine ⟨by simp <;> omega,hbn.oth (by omega) _ _,hbd.oth (by omega) _ _,hbp.oth (by omega) _ _,gb,g1,c1',HSS.out _ gb _ _ (base+3) hs1 (ny w1 (base+3) 0 _) (by omega) hgb3,by simpa using hgb2,hgb1,?_,?_,hg3,hg4⟩
           · rw [← epl.out];exact hb4.set 0 _
           · rw [← epl.out]
             exact ho1.kept (ny w1 (base+3) 0 _) (.inr (by simp [Value.ownBlock];exact hg3))
         · exact .inr hv
        have HPut:=Oi ((hput (.slice (some ⟨g1,0,none⟩) (p.length+1) c1')).resolve_right (fun h=>h rfl))
        have LI:=Oi (IH.out _ _ _ HPut.out (by rw [List.length_append,List.length_singleton];have:=hl'.out;omega) (by have:=HM.out k hlt;rw [decide_eq_false Hin.out,if_neg (by simp)] at this;exact this) So1.out So2.out)
        clear hput hs1 hbn hbd hbp hb4 ho1 hgr hnew ho hne HPut c1 c3 H1 H2 hs0 hgb hne0 hgb1 hgb2 hgb3;go_wp2_with fail;refine LI.out.mono ?_;rintro e w2 ⟨rfl,HQ⟩;obtain ⟨gq,g2,c2',sq,hgq,hnq,k1,k2,k3,k4⟩:=HQ.ord;rw [← epl.out] at k1 k2;have d1:=k1.cell 0;have d2:=k1.free 0;simp only [List.getElem?_cons_zero] at d1;have hnc2:p.length+1≤c2':=by
         obtain ⟨_,_,e,hh,_⟩:=ba k2;injection e with _ _ e3;omega
        have HN:Hid (PG S base n K0 caps0 (done ++ (List.range (k+1)).flatMap (fun (i:Nat)=>if decide ((i:Int)∈p) then [] else dt n f (p ++ [(i:Int)]))) p (w2.setCell ⟨base+3,0,none⟩ (.slice (some ⟨g2,0,none⟩) p.length c2'))):=by
         rw [mf,decide_eq_false Hin.out,if_neg (by simp),← List.append_assoc]
         refine ⟨by simp;exact HQ.sz,HQ.bn.oth (by omega) _ _,HQ.bd.oth (by omega) _ _,HQ.bp.oth (by omega) _ _,gq,g2,c2',HSS.out _ gq _ _ (base+3) sq (ny w2 (base+3) 0 _) (by omega) (fun e=>by have:=(hgq _ e).1;omega),by simpa using hgq,hnq,k1.set 0 _,?_,k3,k4⟩
         rw [bk] at k2;exact (MN k2 (by simp)).kept (ny w2 (base+3) 0 _) (.inr (by simp [Value.ownBlock];exact k3))
        clear k1 k2 HQ LI HP sq hgq hnq;go_wp2_with fail;go_roundw
        case rel=>exact ⟨k+1,by omega,by go_num,HN⟩
        case measure=>simp [intOf];omega
    · have:k=n:=by omega
      subst this;have HF:Hid (PG S base k K0 caps0 (done ++ dt k (f+1) p) p wr):=HP.out;clear HP;go_wp2_with fail
      go_end0
      exact ⟨rfl,HF.out⟩
theorem Bq (S:List (List Int)→Option Nat→World→Prop) (n K0:Nat) (caps0:Array Value) (hn:n≤64) (hK:∀ (args:Array Value) (w:World),(callFunc K0 args).run Tryz.prog w=.ok (.enter K0 args) w) (w:World)
 (hS:∀ done gb w1 w2 g,S done gb w1→w1.grownBy w2 (some g)→w.heap.size≤g→gb≠some g→S done gb w2) (hdo:∀ done gb os w' a c,S done gb w'→(∀ x,gb=some x→x<w'.heap.size)→mF os n=true→done.length+1≤(dt n n []).length→w.heap.size≤w'.heap.size→(∀ x,a=some x→w.heap.size≤x.block)→Rd w' w'.heap.size a (ae os)→Calls Tryz.prog K0 (#[.slice a os.length c] ++ caps0) w' fun e w''=>e=.returned (.tuple #[])∧∃ gb',S (done ++ [os]) gb' w''∧(gb'=gb∨∀ x,gb'=some x→w'.heap.size≤x∧x<w''.heap.size)∧Touch w' w'' 0 w.heap.size) (h0:S [] none w) :
 Calls Tryz.prog 194 #[.int .i64 n,.func (.func K0) #[] caps0] w fun e w'=>e=.returned (.tuple #[])∧∃ gb,S (dt n n []) gb w':=by
 have LP:=Oi (fun w' h=>Bu S w.heap.size n K0 caps0 hn hK hS _ hdo n [] [] w' h (by simp) (by simp) (by simp) (by simp))
 have HSS:=Oi hS;have H0:=Oi h0;clear hS hdo h0 hK;have hEP:=xD
 go_enter Tryz.func194,Tryz.ntmps194;go_wp2_with fail;refine (LP.out _ ?_).mono ?_
 · refine ⟨by simp <;> omega,?_,?_,?_,none,w.heap.size+2,0,HSS.out _ none _ _ w.heap.size H0.out (pS ((((ai w _).alloc (by simp) _).alloc (by simp <;> omega) _).alloc (by simp <;> omega) _ |>.alloc (by simp <;> omega) _) _) (Nat.le_refl _) (by simp),by simp,by simp,?_,?_,by omega,by omega⟩
   · exact ((((Blk.new w _ _).alloc _).alloc _).alloc _).alloc _
   · have:=(((Blk.new (w.alloc (.cells #[.int .i64 n] 2)) [.func (.func K0) #[] caps0] 221).alloc (.cells #[] 2)).alloc (.cells #[.slice (some ⟨w.heap.size+2,0,none⟩) 0 0] 24)).alloc (.cells #[mS w.heap.size] 1)
     simpa [mS] using this
   · have:=Blk.new ((((w.alloc (.cells #[.int .i64 n] 2)).alloc (.cells #[.func (.func K0) #[] caps0] 221)).alloc (.cells #[] 2)).alloc (.cells #[.slice (some ⟨w.heap.size+2,0,none⟩) 0 0] 24)) [mS w.heap.size] 1
     simpa [mS] using this
   · have:=(Blk.new (((w.alloc (.cells #[.int .i64 n] 2)).alloc (.cells #[.func (.func K0) #[] caps0] 221)).alloc (.cells #[] 2)) [.slice (some ⟨w.heap.size+2,0,none⟩) 0 0] 24).alloc (.cells #[mS w.heap.size] 1)
     simpa [mS] using this
   · have:=((bz ((w.alloc (.cells #[.int .i64 n] 2)).alloc (.cells #[.func (.func K0) #[] caps0] 221)) 2).alloc (.cells #[.slice (some ⟨w.heap.size+2,0,none⟩) 0 0] 24)).alloc (.cells #[mS w.heap.size] 1)
     simpa [mS] using this
 rintro e w' ⟨rfl,hp⟩;obtain ⟨gz,_,_,sz,_⟩:=hp.ord;have HR:Hid (∃ gb,S (dt n n []) gb w'):=⟨gz,by simpa using sz⟩;clear hp sz;go_wp2_with fail
 go_end0
 exact ⟨rfl,HR.out⟩
def RentV (w:World) (base:Nat):eb→Option Nat→Value→Prop
 | none,gb,v=>v=.slice none 0 0∧gb=none
 | some (l,_),gb,v=>0<l.length∧∃ g c,v=.slice (some ⟨g,0,none⟩) l.length c∧gb=some g∧w.ownsRow base 2 1 (.slice (some ⟨g,0,none⟩) l.length c) l.length (ae l)
structure QS (W:World) (gB base n:Nat) (cs:List Value) (s:eb) (gb:Option Nat) (w:World):Prop where
 cr:Blk w W.heap.size cs 28
 be:∃ v,Blk w gB [v] 24∧RentV w base s gb v
 mo:Blk w (gB+1) [.int .i64 (rM s)] 2
 bel:Below W.heap.size W w
 ord:∀ b m,s=some (b,m)→mF b n=true
section
variable {W:World} {gB base n:Nat} {cs:List Value} {s:eb} {gb:Option Nat} {w w':World}
theorem RentV.keep {v:Value} (h:RentV w base s gb v) {r:Option Nat} (hg:w.grownBy w' r) (hr:∀ k,r=some k→gb≠some k):RentV w' base s gb v:=by
 cases s with
 | none=>exact h
 | some p =>
   obtain ⟨l,m⟩:=p;obtain ⟨h0,g,c,rfl,hgb,ho⟩:=h;exact ⟨h0,g,c,rfl,hgb,ho.kept hg (.inr (fun e=>hr g e.symm hgb))⟩
theorem QS.keep (h:QS W gB base n cs s gb w) (hb:Below w.heap.size w w'):QS W gB base n cs s gb w':=by
 obtain ⟨v,hv,hbv⟩:=h.be;exact ⟨h.cr.same hb,⟨v,hv.same hb,hbv.keep (pS hb none) (fun k hk=>by cases hk)⟩,h.mo.same hb,h.bel.trans (hb.mono h.bel.size),h.ord⟩
theorem QS.frame {g:Nat} (h:QS W gB base n cs s gb w) (hg:w.grownBy w' (some g)) (hgB:W.heap.size<gB) (hb:gB+2≤base) (hbg:base≤g) (hne:gb≠some g):QS W gB base n cs s gb w':=by
 obtain ⟨v,hv,hbv⟩:=h.be;exact ⟨h.cr.grown hg (by intro e;injection e;omega),⟨v,hv.grown hg (by intro e;injection e;omega),hbv.keep hg (fun k hk=>by injection hk with hk;subst hk;exact hne)⟩,h.mo.grown hg (by intro e;injection e;omega),h.bel.grown hg h.bel.size (fun q hq=>by injection hq with hq;omega),h.ord⟩
theorem QS.store (h:QS W gB base n cs s gb w) (hgB:W.heap.size<gB) (hb:gB+2≤base) {g c:Nat} {l:List Int} (h0:0<l.length) (ho:w.ownsRow base 2 1 (.slice (some ⟨g,0,none⟩) l.length c) l.length (ae l)) (t:Int) (hord:mF l n=true) :
 QS W gB base n cs (some (l,t)) (some g) ((w.setCell ⟨gB,0,none⟩ (.slice (some ⟨g,0,none⟩) l.length c)).setCell ⟨gB+1,0,none⟩ (.int .i64 t)):=by
 obtain ⟨v,hv,hbv⟩:=h.be;have hgb:base≤g:=(ho.lt g rfl).1;refine ⟨(h.cr.oth (by omega) _ _).oth (by omega) _ _,⟨.slice (some ⟨g,0,none⟩) l.length c,(hv.set 0 _).oth (by omega) _ _,h0,g,c,rfl,rfl,?_⟩,(h.mo.oth (g:=gB) (by omega) _ _).set 0 _,aw (aw h.bel (by omega) _ _) (by omega) _ _,fun b m e=>by injection e with e;injection e with e1 e2;subst e1;exact hord⟩
 have k1:=ho.kept (da w gB 0 (.slice (some ⟨g,0,none⟩) l.length c)) (.inr (fun e=>by simp [Value.ownBlock] at e;omega))
 exact k1.kept (da _ (gB+1) 0 (.int .i64 t)) (.inr (fun e=>by simp [Value.ownBlock] at e;omega))
end
theorem EZ (args:Array Value) (w:World):(callFunc 195 args).run Tryz.prog w=.ok (.enter 195 args) w:=by kernel_rfl
theorem IR (W:World) (gB base:Nat) (n:Nat) (aV:Option Addr) (cV:Nat) (xV:List Int) (h0:Rd W W.heap.size aV (ae xV)) (hgB:W.heap.size<gB) (hB:gB+2≤base) (lV:xV.length=n * n) (n1:1≤n) (n6:n≤6) (hbV:∀ x∈xV,0≤x∧x≤1000)
 (s:eb) (gb:Option Nat) (os:List Int) (w:World) (a:Option Addr) (c:Nat) (hs:QS W gB base n [.int .i64 n,.int .i64 n,.slice aV xV.length cV] s gb w) (hw:base≤w.heap.size) (hor:mF os n=true) (g:Rd w w.heap.size a (ae os)) :
 Calls Tryz.prog 195 #[.slice a os.length c,.pointer (some ⟨W.heap.size,0,none⟩),.pointer (some ⟨gB,0,none⟩),.pointer (some ⟨gB+1,0,none⟩)] w
  fun e w'=>e=.returned (.tuple #[])∧∃ gb',QS W gB base n [.int .i64 n,.int .i64 n,.slice aV xV.length cV] (gu n xV os s) gb' w'∧(gb'=gb∨∀ x,gb'=some x→w.heap.size≤x∧x<w'.heap.size)∧Touch w w' 0 base:=by
 obtain ⟨o1,o2,o3⟩:=nr.1 hor;have hU1:1≤os.length:=by omega
 have hU8:os.length≤6:=by omega
 have hR:Rd w w.heap.size aV (ae xV):=(h0.below hs.bel (Nat.le_refl _)).mono hs.bel.size;have hnn:n * n≤36:=Nat.mul_le_mul n6 n6;have LO:=Oi (fun w' (hb:Below w.heap.size w w') (k:Nat) (hk:k<os.length)=>qe w' n n k (os.getD k 0).toNat aV cV xV (hR.to hb) (by
  have:=o1 (os.getD k 0) (by rw [List.getD_eq_getElem?_getD,List.getElem?_eq_getElem hk];exact List.getElem_mem hk)
  rw [lV];exact dH (by omega) (by omega)) (by omega))
 have ON:=Oi (fun (k:Nat) (hk:k<os.length)=>(have:=o1 (os.getD k 0) (by rw [List.getD_eq_getElem?_getD,List.getElem?_eq_getElem hk];exact List.getElem_mem hk)
  (show os.getD k 0=((os.getD k 0).toNat:Int) by omega)))
 have LCl:=Oi (fun w' hb=>eo w' a c os (g.to hb) hU1 (by omega))
 have hen:=fun (w:World) (a:Option Addr) (n c:Nat)=>Lib.run_eql_slice_nil (P:=Tryz.prog) w 24 2 a n c 0 0 Tryz.underlying24
 have HS:=Oi hs;have HG:=Oi g;have SB:=Oi (fun k=>BP (n:=n) (os:=os) hbV k)
 have SO:=Oi (fun k=>mE (T:=n) hbV k (os.getD k 0).toNat)
 have SS:Hid (∀ k,jY n xV os (k+1)=jY n xV os k+iy n xV k (os.getD k 0).toNat):=fun k=>rfl
 have S0:Hid (jY n xV os 0=0):=rfl;have SE:Hid (jY n xV os os.length=mh n xV os):=by rw [o3];rfl
 have HJ:Hid (∀ v,Below w.heap.size w v→v.cell? ⟨W.heap.size,0,none⟩=some (.int .i64 n)∧v.cell? ⟨W.heap.size,1,none⟩=some (.int .i64 n)∧v.cell? ⟨W.heap.size,2,none⟩=some (.slice aV xV.length cV)):=fun v hb=>⟨(hs.cr.same hb).cell 0,(hs.cr.same hb).cell 1,(hs.cr.same hb).cell 2⟩
 have Hdf:Hid (∀ s',gu n xV os s'=match s' with
  | none=>some (os,mh n xV os)
  | some (b,m)=>if m<mh n xV os then some (os,mh n xV os) else some (b,m)):=fun s'=>by cases s' <;> rfl
 have HOR:=Oi hor;clear hs h0 hR g lV hor o1 o2 o3 hbV;generalize hst:gu n xV os=ws at *
 clear hst;generalize mh n xV os=tt at *
 have hN:Hid (ws none=some (os,tt)):=by show _=_;rw [Hdf.out]
 have hY:Hid (∀ b m,m<tt→ws (some (b,m))=some (os,tt)):=fun b m hm=>by rw [Hdf.out];simp [hm]
 have hZ:Hid (∀ b m,tt≤m→ws (some (b,m))=some (b,m)):=fun b m hm=>by rw [Hdf.out];simp;omega
 clear Hdf;have HC:Hid (∀ s' w1,QS W gB base n [.int .i64 n,.int .i64 n,.slice aV xV.length cV] s' gb w1→ws s'=some (os,tt)→Below w.heap.size w w1→∀ a1 c1,w1.ownsRow w.heap.size 2 1 (.slice a1 os.length c1) os.length (ae os) →
  ∃ gb',QS W gB base n [.int .i64 n,.int .i64 n,.slice aV xV.length cV] (ws s') gb' ((w1.setCell ⟨gB,0,none⟩ (.slice a1 os.length c1)).setCell ⟨gB+1,0,none⟩ (.int .i64 tt))∧(gb'=gb∨∀ x,gb'=some x→w.heap.size≤x∧x<((w1.setCell ⟨gB,0,none⟩ (.slice a1 os.length c1)).setCell ⟨gB+1,0,none⟩ (.int .i64 tt)).heap.size)∧Touch w ((w1.setCell ⟨gB,0,none⟩ (.slice a1 os.length c1)).setCell ⟨gB+1,0,none⟩ (.int .i64 tt)) 0 base):=fun s' w1 hs' he hb a1 c1 ho=>by
  obtain ⟨g',rfl⟩:=iz ho hU1;rw [he];refine ⟨some g',hs'.store hgB hB hU1 (bS ho hw) tt HOR.out,.inr (fun x hx=>?_),mr hb (by omega) (by omega) _ _⟩
  injection hx with hx
  subst hx;have:=ho.lt g' rfl;exact ⟨this.1,by simpa using this.2⟩
 go_enter Tryz.func195,Tryz.ntmps195;go_wp2_with fail
 go_loopw [5,10] (fun sv iv wr=>∃ k:Nat,k≤os.length∧iv=.int .i64 k∧sv=.int .i64 (jY n xV os k)∧Hid (Below w.heap.size w wr)) (fun _ iv _=>os.length - (intOf iv).toNat)
 case atStart=>exact ⟨0,Nat.zero_le _,rfl,by rw [S0.out],Below.refl _ _⟩
 case round =>
  obtain ⟨k,hk,rfl,rfl,hW⟩:=hrel;have k0:(0:Int)≤(k:Int):=Int.natCast_nonneg _
  by_cases hlt:k<os.length
  · have hlti:(k:Int)<(os.length:Int):=by omega
    obtain ⟨b,o,rfl,hbb,hcj⟩:=(HG.out.to hW.out).at hlt;have hck:=hcj k hlt;have on:=ON.out k hlt;obtain ⟨t,ht⟩:∃ t:Nat,t=(os.getD k 0).toNat:=⟨_,rfl⟩;have LO1:=Oi (LO.out wr hW.out k hlt);have SS1:=SS.out k;obtain ⟨v0,v1⟩:=SO.out k;obtain ⟨s0,s1⟩:=SB.out k;rw [on] at hck;rw [← ht] at hck LO1 SS1 v0 v1;obtain ⟨q0,q1,q2⟩:=HJ.out wr hW.out;have SS2:=Oi SS1;clear hcj SS1 ht on;generalize iy n xV k t=v at *
    generalize jY n xV os k=s0' at *
    go_wp2_with fail;refine LO1.out.mono ?_;rintro e w2 ⟨rfl,hb2⟩;have HW2:=Oi (aa hW.out hb2);clear hb2 hW q0 q1 q2 LO1;go_wp2_with fail;go_roundw
    case rel=>exact ⟨k+1,by omega,by go_num,by rw [SS2.out],HW2⟩
    case measure=>simp [intOf];omega
  · obtain rfl:k=os.length:=by omega
    rw [SE.out];have HS2:=Oi (HS.out.keep hW.out);obtain ⟨v,hv,hbv⟩:=HS2.out.be;have e2:wr.cell? ⟨gB+1,0,none⟩=some (.int .i64 (rM s)):=HS2.out.mo.cell 0;have e1:wr.cell? ⟨gB,0,none⟩=some v:=hv.cell 0;clear hv HS SB SO SS S0 SE LO ON HJ HG
    cases s with
    | none =>
      have hv0:v=.slice none 0 0:=hbv.1;subst hv0;clear hbv;have e2':wr.cell? ⟨gB+1,0,none⟩=some (.int .i64 0):=e2;clear e2;go_wp2_with fail;refine (LCl.out _ hW.out).mono ?_;rintro e w3 ⟨a1,c1,rfl,o3,hb3⟩;have B3:=aa hW.out hb3;have HS3:=HS2.out.keep hb3;obtain ⟨v,hv,hbv⟩:=HS3.be;have f1:=hv.free 0;have f2:=HS3.mo.free 0;have g1:=hv.cell 0;have g2:=HS3.mo.cell 0;simp only [List.getElem?_cons_zero] at g1 g2;have HF:=Oi (HC.out none w3 HS3 hN.out B3 a1 c1 (bS o3.1 hW.out.size));clear o3 hb3 B3 HS3 hv hbv HS2 LCl hW;go_wp2_with fail
      go_end0
      exact ⟨rfl,HF.out⟩
    | some p =>
      obtain ⟨bl,m⟩:=p;obtain ⟨hbl,g',c',rfl,hgb',hob⟩:=hbv;have e2':wr.cell? ⟨gB+1,0,none⟩=some (.int .i64 m):=e2;clear e2 hob hgb'
      by_cases hm:m<tt
      · go_wp2_with fail
        refine (LCl.out _ hW.out).mono ?_;rintro e w3 ⟨a1,c1,rfl,o3,hb3⟩;have B3:=aa hW.out hb3;have HS3:=HS2.out.keep hb3;obtain ⟨v,hv,hbv⟩:=HS3.be;have f1:=hv.free 0;have f2:=HS3.mo.free 0;have g1:=hv.cell 0;have g2:=HS3.mo.cell 0;simp only [List.getElem?_cons_zero] at g1 g2;have HF:=Oi (HC.out (some (bl,m)) w3 HS3 (hY.out bl m hm) B3 a1 c1 (bS o3.1 hW.out.size));clear o3 hb3 B3 HS3 hv hbv HS2 LCl e1 e2' hW;go_wp2_with fail
        go_end0
        exact ⟨rfl,HF.out⟩
      · have HF:Hid (∃ gb',QS W gB base n [.int .i64 n,.int .i64 n,.slice aV xV.length cV] (ws (some (bl,m))) gb' wr∧(gb'=gb∨∀ x,gb'=some x→w.heap.size≤x∧x<wr.heap.size)∧Touch w wr 0 base):=by
          rw [hZ.out bl m (by omega)];exact ⟨gb,HS2.out,.inl rfl,Below.touch hW.out 0 base⟩
        clear HS2 hW;go_wp2_with fail
        first | go_end0 | (refine bodyPost_ret (results_none rfl _ _ _) rfl ?_)
        exact ⟨rfl,HF.out⟩
def iP (n:Nat):Code→Option Code
 | .seq (.region i o d) b=>if i == n then some (.seq (.region i o d) b) else iP n b
 | .seq a b=>match iP n a with
   | some c=>some c
   | none=>iP n b
 | .region i o d=>if i == n then some (.region i o d) else none
 | .scope c=>iP n c
 | .block _ c=>iP n c
 | .loop c=>iP n c
 | .cond _ a b=>match iP n a with
   | some c=>some c
   | none=>iP n b
 | _=>none
def vG (n:Nat) (c:Code):Option Code:=match iP n c with
 | some (.seq a _)=>some a
 | some c=>some c
 | none=>none
def mH (n:Nat) (c:Code):Option Code:=match iP n c with
 | some (.seq _ b)=>some b
 | _=>none
end Go.Proofs.YtbknhgapjjaelaaGreatDoor
