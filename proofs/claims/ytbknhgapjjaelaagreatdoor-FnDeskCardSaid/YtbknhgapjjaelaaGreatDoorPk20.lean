/-
  Part 20 of what the proof stands on: lemmas and contracts, each with its conditions ahead of the colon.
-/
import Derived.BigQuiet
import Derived.Test.YtbknhgapjjaelaaGreatDoorPk01
import Derived.Test.YtbknhgapjjaelaaGreatDoorPk19
set_option maxRecDepth 10000
set_option maxHeartbeats 8000000
namespace Go.Proofs.YtbknhgapjjaelaaGreatDoor
set_option linter.unusedVariables false
set_option linter.unusedSimpArgs false
open Go.RowKit
theorem im {w:World} {base e n c:Nat} {a:Option Addr} {xs:List Value} (h:w.ownsRow base e 1 (.slice a n c) n xs) (hn:0<n):∃ g,a=some ⟨g,0,none⟩:=by
 rcases h.2 with ⟨_,h3⟩ | ⟨g,cap,cur,hv,_⟩
 · omega
 · injection hv with ha _ _;exact ⟨g,ha⟩
def rK:dQ→Int
 | none=>0
 | some p=>p.2
def BestV (w:World) (base:Nat):dQ→Value→Prop
 | none,v=>v=.slice none 0 0
 | some (l,_),v=>0<l.length∧∃ a c,v=.slice a l.length c∧w.ownsRow (base+2) 2 1 (.slice a l.length c) l.length (ae l)
structure ES (W:World) (base:Nat) (cs:List Value) (s:dQ) (w:World):Prop where
 cr:Blk w W.heap.size cs 30
 be:∃ v,Blk w (W.heap.size+1) [v] 24∧BestV w base s v
 mo:Blk w (W.heap.size+2) [.int .i64 (rK s)] 2
 bel:Below W.heap.size W w
section
variable {W:World} {base:Nat} {cs:List Value} {s:dQ} {w w':World}
theorem BestV.keep {v:Value} (h:BestV w base s v) {r:Option Nat} (hg:w.grownBy w' r) (hr:∀ k,r=some k→k<base+2):BestV w' base s v:=by
 cases s with
 | none=>exact h
 | some p =>
   obtain ⟨l,m⟩:=p;obtain ⟨h0,a,c,rfl,ho⟩:=h;refine ⟨h0,a,c,rfl,ho.kept hg ?_⟩
   cases hb:(Value.slice a l.length c).ownBlock with
   | none=>exact .inl rfl
   | some g =>
     refine .inr fun e=>?_
     have h1:=(ho.lt g hb).1;have h2:=hr g e.symm;omega
theorem ES.keep (h:ES W base cs s w) (hb:Below w.heap.size w w'):ES W base cs s w':=by
 obtain ⟨v,hv,hbv⟩:=h.be;exact ⟨h.cr.same hb,⟨v,hv.same hb,hbv.keep (dh hb none) (fun k hk=>by cases hk)⟩,h.mo.same hb,h.bel.trans (hb.mono h.bel.size)⟩
theorem ES.frame (h:ES W base cs s w) (hg:w.grownBy w' (some (base+1))) (hb:W.heap.size+3≤base):ES W base cs s w':=by
 obtain ⟨v,hv,hbv⟩:=h.be;exact ⟨h.cr.grown hg (by intro e;injection e;omega),⟨v,hv.grown hg (by intro e;injection e;omega),hbv.keep hg (fun k hk=>by injection hk;omega)⟩,h.mo.grown hg (by intro e;injection e;omega),h.bel.grown hg h.bel.size (fun q hq=>by injection hq with hq;omega)⟩
theorem ES.store (h:ES W base cs s w) (hb:W.heap.size+3≤base) {a:Option Addr} {c:Nat} {l:List Int} (h0:0<l.length) (ho:w.ownsRow (base+2) 2 1 (.slice a l.length c) l.length (ae l)) (t:Int) :
 ES W base cs (some (l,t)) ((w.setCell ⟨W.heap.size+1,0,none⟩ (.slice a l.length c)).setCell ⟨W.heap.size+2,0,none⟩ (.int .i64 t)):=by
 obtain ⟨v,hv,hbv⟩:=h.be;refine ⟨(h.cr.oth (by omega) _ _).oth (by omega) _ _,⟨.slice a l.length c,(hv.set 0 _).oth (by omega) _ _,h0,a,c,rfl,?_⟩,(h.mo.oth (g:=W.heap.size+1) (by omega) _ _).set 0 _,aj (aj h.bel (by omega) _ _) (by omega) _ _⟩
 have hne:∀ q,q<base+2→some q≠(Value.slice a l.length c).ownBlock:=fun q hq e=>by
  have:=(ho.lt q e.symm).1;omega
 have k1:=ho.kept (cI w (W.heap.size+1) 0 (.slice a l.length c)) (.inr (fun e=>hne _ (by omega) e.symm))
 exact k1.kept (cI _ (W.heap.size+2) 0 (.int .i64 t)) (.inr (fun e=>hne _ (by omega) e.symm))
theorem ma {w w3:World} (hb:Below w.heap.size w w3) {p q base:Nat} (hp:p<base) (hq:q<base) (u v:Value):Touch w ((w3.setCell ⟨p,0,none⟩ u).setCell ⟨q,0,none⟩ v) 0 base :=
 ((Below.touch hb 0 base).trans (Touch.of_grown (cI w3 p 0 u) (Nat.zero_le _) hp)).trans (Touch.of_grown (cI _ q 0 v) (Nat.zero_le _) hq)
end
theorem BK (args:Array Value) (w:World):(callFunc 226 args).run Tryz.prog w=.ok (.enter 226 args) w:=by kernel_rfl
theorem Eu (W:World) (base:Nat) (N n:Nat) (a2:Option Addr) (c2:Nat) (x2:List Int) (a3:Option Addr) (c3:Nat) (x3:List Int) (h0:RdCrowd W W.heap.size a2 x2 a3 x3) (hB:W.heap.size+3≤base)
 (s:dQ) (ch:List Int) (w:World) (c:Nat) (hs:ES W base [.int .i64 N,.int .i64 n,.slice a2 x2.length c2,.slice a3 x3.length c3] s w) (hw:base+2≤w.heap.size) (hc:Can ⟨N,n,x2,x3⟩ ch) (g:Rd w w.heap.size (some ⟨base+1,0,none⟩) (ae ch)) :
 Calls Tryz.prog 226 #[.slice (some ⟨base+1,0,none⟩) ch.length c,.pointer (some ⟨W.heap.size,0,none⟩),.pointer (some ⟨W.heap.size+1,0,none⟩),.pointer (some ⟨W.heap.size+2,0,none⟩)] w
  fun e w'=>e=.returned (.tuple #[])∧ES W base [.int .i64 N,.int .i64 n,.slice a2 x2.length c2,.slice a3 x3.length c3] (cJ ⟨N,n,x2,x3⟩ ch s) w'∧Touch w w' 0 base:=by
 have hU1:1≤ch.length:=by have:=hc.v.u1;have:=hc.len;simp only at *;omega
 have hU8:ch.length≤8:=by have:=hc.v.u8;have:=hc.len;simp only at *;omega
 have hR:RdCrowd w w.heap.size a2 x2 a3 x3:=(h0.below hs.bel (Nat.le_refl _)).mono hs.bel.size;have LB:=Na (uP w N n a2 c2 x2 a3 c3 x3 (some ⟨base+1,0,none⟩) c ch hR g hc);have LT:=Na (fun w' hb=>ro w' N n a2 c2 x2 a3 c3 x3 (some ⟨base+1,0,none⟩) c ch (hR.to hb) (g.to hb) hc)
 have LCl:=Na (fun w' hb=>ej w' (some ⟨base+1,0,none⟩) c ch (g.to hb) hU1 (by omega))
 have hen:=fun (w:World) (a:Option Addr) (n c:Nat)=>Lib.run_eql_slice_nil (P:=Tryz.prog) w 24 2 a n c 0 0 Tryz.underlying24
 have HS:=Na hs;have q0:=hs.cr.cell 0;have q1:=hs.cr.cell 1;have q2:=hs.cr.cell 2;have q3:=hs.cr.cell 3;simp only [List.getElem?_cons_zero,List.getElem?_cons_succ] at q0 q1 q2 q3;have Hdf:Hid (∀ s',cJ ⟨N,n,x2,x3⟩ ch s'=if (cQ ⟨N,n,x2,x3⟩ ch).isSome then s' else match s' with
  | none=>some (ch,cD ⟨N,n,x2,x3⟩ ch)
  | some (b,m)=>if m<cD ⟨N,n,x2,x3⟩ ch then some (ch,cD ⟨N,n,x2,x3⟩ ch) else some (b,m)):=fun s'=>rfl
 clear hs h0 hR g hc;generalize hst:cJ ⟨(N:Int),(n:Int),x2,x3⟩ ch=ws at *
 clear hst;generalize hC:(⟨(N:Int),(n:Int),x2,x3⟩:Cr)=C at *
 clear hC;generalize cD C ch=tt at *
 cases hbf:cQ C ch with
 | some p =>
   have HE:Hid (ws s=s):=by show _=_;rw [Hdf.out,hbf];rfl
   simp only [hbf,bU,bK] at LB;clear hbf Hdf LT LCl;have hpos:(0:Int)≤(p.1:Int):=Int.natCast_nonneg _
   go_enter Tryz.func226,Tryz.ntmps226;go_wp2_with fail;refine LB.out.mono ?_;rintro e w1 ⟨rfl,hb1⟩;have HF:Hid (ES W base [.int .i64 N,.int .i64 n,.slice a2 x2.length c2,.slice a3 x3.length c3] (ws s) w1∧Touch w w1 0 base):=by
    rw [HE.out];exact ⟨HS.out.keep hb1,Below.touch hb1 0 base⟩
   clear hb1 LB;go_wp2_with fail
   first | go_end0 | (refine bodyPost_ret (results_none rfl _ _ _) rfl ?_)
   exact ⟨rfl,HF.out⟩
 | none =>
   simp only [hbf,bU,bK] at LB;have hN:Hid (ws none=some (ch,tt)):=by show _=_;rw [Hdf.out,hbf];rfl
   have hY:Hid (∀ b m,m<tt→ws (some (b,m))=some (ch,tt)):=fun b m hm=>by rw [Hdf.out,hbf];simp [hm]
   have hZ:Hid (∀ b m,¬ m<tt→ws (some (b,m))=some (b,m)):=fun b m hm=>by rw [Hdf.out,hbf];simp [hm]
   clear hbf Hdf;have HC:Hid (∀ s' w1,ES W base [.int .i64 N,.int .i64 n,.slice a2 x2.length c2,.slice a3 x3.length c3] s' w1→ws s'=some (ch,tt)→Below w.heap.size w w1→∀ a1 c1,w1.ownsRow (base+2) 2 1 (.slice a1 ch.length c1) ch.length (ae ch) →
    ES W base [.int .i64 N,.int .i64 n,.slice a2 x2.length c2,.slice a3 x3.length c3] (ws s') ((w1.setCell ⟨W.heap.size+1,0,none⟩ (.slice a1 ch.length c1)).setCell ⟨W.heap.size+2,0,none⟩ (.int .i64 tt))∧Touch w ((w1.setCell ⟨W.heap.size+1,0,none⟩ (.slice a1 ch.length c1)).setCell ⟨W.heap.size+2,0,none⟩ (.int .i64 tt)) 0 base):=fun s' w1 hs' he hb a1 c1 ho=>by
    rw [he];exact ⟨hs'.store hB (by omega) ho tt,ma hb (by omega) (by omega) _ _⟩
   cases s with
   | none =>
     go_enter Tryz.func226,Tryz.ntmps226;go_wp2_with fail;refine LB.out.mono ?_;rintro e w1 ⟨rfl,hb1⟩;have HS1:=Na (HS.out.keep hb1);have k0:=HS1.out.cr.cell 0;have k1:=HS1.out.cr.cell 1;have k2:=HS1.out.cr.cell 2;have k3:=HS1.out.cr.cell 3;simp only [List.getElem?_cons_zero,List.getElem?_cons_succ] at k0 k1 k2 k3;clear LB q0 q1 q2 q3;go_wp2_with fail;refine (LT.out _ hb1).mono ?_;rintro e w2 ⟨rfl,hb2⟩;have B2:=aa hb1 hb2;have HS2:=Na (HS1.out.keep hb2);obtain ⟨v,hv,hbv⟩:=HS2.out.be;have hv0:v=.slice none 0 0:=hbv;subst hv0;have e1:=hv.cell 0;have e2:=HS2.out.mo.cell 0;simp only [List.getElem?_cons_zero] at e1 e2;clear hv hbv hb2 hb1 HS1 k0 k1 k2 k3;go_wp2_with fail;refine (LCl.out _ B2).mono ?_;rintro e w3 ⟨a1,c1,rfl,o3,hb3⟩;have B3:=aa B2 hb3;have HS3:=HS2.out.keep hb3;obtain ⟨v,hv,hbv⟩:=HS3.be;have f1:=hv.free 0;have f2:=HS3.mo.free 0;have g1:=hv.cell 0;have g2:=HS3.mo.cell 0;simp only [List.getElem?_cons_zero] at g1 g2;have HF:=Na (HC.out none w3 HS3 hN.out B3 a1 c1 (bJ o3.1 (by have:=B2.size;omega)))
     clear o3 hb3 B3 HS3 hv hbv HS2 LCl;go_wp2_with fail
     go_end0
     exact ⟨rfl,HF.out⟩
   | some p =>
     obtain ⟨bl,m⟩:=p
     by_cases hm:m<tt
     · go_enter Tryz.func226,Tryz.ntmps226
       go_wp2_with fail;refine LB.out.mono ?_;rintro e w1 ⟨rfl,hb1⟩;have HS1:=Na (HS.out.keep hb1);have k0:=HS1.out.cr.cell 0;have k1:=HS1.out.cr.cell 1;have k2:=HS1.out.cr.cell 2;have k3:=HS1.out.cr.cell 3;simp only [List.getElem?_cons_zero,List.getElem?_cons_succ] at k0 k1 k2 k3;clear LB q0 q1 q2 q3;go_wp2_with fail;refine (LT.out _ hb1).mono ?_;rintro e w2 ⟨rfl,hb2⟩;have B2:=aa hb1 hb2;have HS2:=Na (HS1.out.keep hb2);obtain ⟨v,hv,hbv⟩:=HS2.out.be;obtain ⟨hbl,a',c',rfl,hob⟩:=hbv;obtain ⟨g',rfl⟩:=im hob hbl;have e1:=hv.cell 0;have e2:w2.cell? ⟨W.heap.size+2,0,none⟩=some (.int .i64 m):=HS2.out.mo.cell 0;simp only [List.getElem?_cons_zero] at e1;clear hv hob hb2 hb1 HS1 k0 k1 k2 k3;go_wp2_with fail;refine (LCl.out _ B2).mono ?_;rintro e w3 ⟨a1,c1,rfl,o3,hb3⟩;have B3:=aa B2 hb3;have HS3:=HS2.out.keep hb3;obtain ⟨v,hv,hbv⟩:=HS3.be;have f1:=hv.free 0;have f2:=HS3.mo.free 0;have g1:=hv.cell 0;have g2:=HS3.mo.cell 0;simp only [List.getElem?_cons_zero] at g1 g2;have HF:=Na (HC.out (some (bl,m)) w3 HS3 (hY.out bl m hm) B3 a1 c1 (bJ o3.1 (by have:=B2.size;omega)))
       clear o3 hb3 B3 HS3 hv hbv HS2 LCl e1 e2;go_wp2_with fail
       go_end0
       exact ⟨rfl,HF.out⟩
     · go_enter Tryz.func226,Tryz.ntmps226
       go_wp2_with fail;refine LB.out.mono ?_;rintro e w1 ⟨rfl,hb1⟩;have HS1:=Na (HS.out.keep hb1);have k0:=HS1.out.cr.cell 0;have k1:=HS1.out.cr.cell 1;have k2:=HS1.out.cr.cell 2;have k3:=HS1.out.cr.cell 3;simp only [List.getElem?_cons_zero,List.getElem?_cons_succ] at k0 k1 k2 k3;clear LB q0 q1 q2 q3;go_wp2_with fail;refine (LT.out _ hb1).mono ?_;rintro e w2 ⟨rfl,hb2⟩;have B2:=aa hb1 hb2;have HS2:=Na (HS1.out.keep hb2);obtain ⟨v,hv,hbv⟩:=HS2.out.be;obtain ⟨hbl,a',c',rfl,hob⟩:=hbv;obtain ⟨g',rfl⟩:=im hob hbl;have e1:=hv.cell 0;have e2:w2.cell? ⟨W.heap.size+2,0,none⟩=some (.int .i64 m):=HS2.out.mo.cell 0;simp only [List.getElem?_cons_zero] at e1;have HF:Hid (ES W base [.int .i64 N,.int .i64 n,.slice a2 x2.length c2,.slice a3 x3.length c3] (ws (some (bl,m))) w2∧Touch w w2 0 base):=by
        rw [hZ.out bl m hm];exact ⟨HS2.out,Below.touch B2 0 base⟩
       clear hv hob hb2 hb1 HS1 k0 k1 k2 k3 HS2;go_wp2_with fail
       first | go_end0 | (refine bodyPost_ret (results_none rfl _ _ _) rfl ?_)
       exact ⟨rfl,HF.out⟩
theorem Bm (args:Array Value) (w:World):(callFunc 229 args).run Tryz.prog w=.ok (.enter 229 args) w:=by kernel_rfl
theorem Ei (W:World) (base:Nat) (N n:Nat) (a2:Option Addr) (c2:Nat) (x2:List Int) (a3:Option Addr) (c3:Nat) (x3:List Int) (h0:RdCrowd W W.heap.size a2 x2 a3 x3) (hB:W.heap.size+3≤base)
 (s:dQ) (ch:List Int) (w:World) (c:Nat) (hs:ES W base [.int .i64 N,.int .i64 n,.slice a2 x2.length c2,.slice a3 x3.length c3] s w) (hw:base+2≤w.heap.size) (hc:Can ⟨N,n,x2,x3⟩ ch) (g:Rd w w.heap.size (some ⟨base+1,0,none⟩) (ae ch)) :
 Calls Tryz.prog 229 #[.slice (some ⟨base+1,0,none⟩) ch.length c,.pointer (some ⟨W.heap.size,0,none⟩),.pointer (some ⟨W.heap.size+1,0,none⟩),.pointer (some ⟨W.heap.size+2,0,none⟩)] w
  fun e w'=>e=.returned (.tuple #[])∧ES W base [.int .i64 N,.int .i64 n,.slice a2 x2.length c2,.slice a3 x3.length c3] (dd ⟨N,n,x2,x3⟩ ch s) w'∧Touch w w' 0 base:=by
 have hU1:1≤ch.length:=by have:=hc.v.u1;have:=hc.len;simp only at *;omega
 have hU8:ch.length≤8:=by have:=hc.v.u8;have:=hc.len;simp only at *;omega
 have hR:RdCrowd w w.heap.size a2 x2 a3 x3:=(h0.below hs.bel (Nat.le_refl _)).mono hs.bel.size;have LT:=Na (fun w' hb=>ro w' N n a2 c2 x2 a3 c3 x3 (some ⟨base+1,0,none⟩) c ch (hR.to hb) (g.to hb) hc)
 have LCl:=Na (fun w' hb=>ej w' (some ⟨base+1,0,none⟩) c ch (g.to hb) hU1 (by omega))
 have hen:=fun (w:World) (a:Option Addr) (n c:Nat)=>Lib.run_eql_slice_nil (P:=Tryz.prog) w 24 2 a n c 0 0 Tryz.underlying24
 have HS:=Na hs;have q0:=hs.cr.cell 0;have q1:=hs.cr.cell 1;have q2:=hs.cr.cell 2;have q3:=hs.cr.cell 3;simp only [List.getElem?_cons_zero,List.getElem?_cons_succ] at q0 q1 q2 q3;have Hdf:Hid (∀ s',dd ⟨N,n,x2,x3⟩ ch s'=match s' with
  | none=>some (ch,cD ⟨N,n,x2,x3⟩ ch)
  | some (b,m)=>if cD ⟨N,n,x2,x3⟩ ch<m then some (ch,cD ⟨N,n,x2,x3⟩ ch) else some (b,m)):=fun s'=>by cases s' <;> rfl
 clear hs h0 hR g hc;generalize hst:dd ⟨(N:Int),(n:Int),x2,x3⟩ ch=ws at *
 clear hst;generalize hC:(⟨(N:Int),(n:Int),x2,x3⟩:Cr)=C at *
 clear hC;generalize cD C ch=tt at *
 have hN:Hid (ws none=some (ch,tt)):=by show _=_;rw [Hdf.out]
 have hY:Hid (∀ b m,tt<m→ws (some (b,m))=some (ch,tt)):=fun b m hm=>by rw [Hdf.out];simp [hm]
 have hZ:Hid (∀ b m,¬ tt<m→ws (some (b,m))=some (b,m)):=fun b m hm=>by rw [Hdf.out];simp [hm]
 clear Hdf;have HC:Hid (∀ s' w1,ES W base [.int .i64 N,.int .i64 n,.slice a2 x2.length c2,.slice a3 x3.length c3] s' w1→ws s'=some (ch,tt)→Below w.heap.size w w1→∀ a1 c1,w1.ownsRow (base+2) 2 1 (.slice a1 ch.length c1) ch.length (ae ch) →
  ES W base [.int .i64 N,.int .i64 n,.slice a2 x2.length c2,.slice a3 x3.length c3] (ws s') ((w1.setCell ⟨W.heap.size+1,0,none⟩ (.slice a1 ch.length c1)).setCell ⟨W.heap.size+2,0,none⟩ (.int .i64 tt))∧Touch w ((w1.setCell ⟨W.heap.size+1,0,none⟩ (.slice a1 ch.length c1)).setCell ⟨W.heap.size+2,0,none⟩ (.int .i64 tt)) 0 base):=fun s' w1 hs' he hb a1 c1 ho=>by
  rw [he];exact ⟨hs'.store hB (by omega) ho tt,ma hb (by omega) (by omega) _ _⟩
 cases s with
 | none =>
   go_enter Tryz.func229,Tryz.ntmps229;go_wp2_with fail;refine (LT.out _ (Below.refl _ _)).mono ?_;rintro e w2 ⟨rfl,hb2⟩;have B2:=hb2;have HS2:=Na (HS.out.keep hb2);obtain ⟨v,hv,hbv⟩:=HS2.out.be;have hv0:v=.slice none 0 0:=hbv;subst hv0;have e1:=hv.cell 0;have e2:=HS2.out.mo.cell 0;simp only [List.getElem?_cons_zero] at e1 e2;clear hv hbv HS q0 q1 q2 q3;go_wp2_with fail;refine (LCl.out _ B2).mono ?_;rintro e w3 ⟨a1,c1,rfl,o3,hb3⟩;have B3:=aa B2 hb3;have HS3:=HS2.out.keep hb3;obtain ⟨v,hv,hbv⟩:=HS3.be;have f1:=hv.free 0;have f2:=HS3.mo.free 0;have g1:=hv.cell 0;have g2:=HS3.mo.cell 0;simp only [List.getElem?_cons_zero] at g1 g2;have HF:=Na (HC.out none w3 HS3 hN.out B3 a1 c1 (bJ o3.1 (by have:=B2.size;omega)))
   clear o3 hb3 B3 HS3 hv hbv HS2 LCl;go_wp2_with fail
   go_end0
   exact ⟨rfl,HF.out⟩
 | some p =>
   obtain ⟨bl,m⟩:=p
   by_cases hm:tt<m
   · go_enter Tryz.func229,Tryz.ntmps229
     go_wp2_with fail;refine (LT.out _ (Below.refl _ _)).mono ?_;rintro e w2 ⟨rfl,hb2⟩;have B2:=hb2;have HS2:=Na (HS.out.keep hb2);obtain ⟨v,hv,hbv⟩:=HS2.out.be;obtain ⟨hbl,a',c',rfl,hob⟩:=hbv;obtain ⟨g',rfl⟩:=im hob hbl;have e1:=hv.cell 0;have e2:w2.cell? ⟨W.heap.size+2,0,none⟩=some (.int .i64 m):=HS2.out.mo.cell 0;simp only [List.getElem?_cons_zero] at e1;clear hv hob HS q0 q1 q2 q3;go_wp2_with fail;refine (LCl.out _ B2).mono ?_;rintro e w3 ⟨a1,c1,rfl,o3,hb3⟩;have B3:=aa B2 hb3;have HS3:=HS2.out.keep hb3;obtain ⟨v,hv,hbv⟩:=HS3.be;have f1:=hv.free 0;have f2:=HS3.mo.free 0;have g1:=hv.cell 0;have g2:=HS3.mo.cell 0;simp only [List.getElem?_cons_zero] at g1 g2;have HF:=Na (HC.out (some (bl,m)) w3 HS3 (hY.out bl m hm) B3 a1 c1 (bJ o3.1 (by have:=B2.size;omega)))
     clear o3 hb3 B3 HS3 hv hbv HS2 LCl e1 e2;go_wp2_with fail
     go_end0
     exact ⟨rfl,HF.out⟩
   · go_enter Tryz.func229,Tryz.ntmps229
     go_wp2_with fail;refine (LT.out _ (Below.refl _ _)).mono ?_;rintro e w2 ⟨rfl,hb2⟩;have B2:=hb2;have HS2:=Na (HS.out.keep hb2);obtain ⟨v,hv,hbv⟩:=HS2.out.be;obtain ⟨hbl,a',c',rfl,hob⟩:=hbv;obtain ⟨g',rfl⟩:=im hob hbl;have e1:=hv.cell 0;have e2:w2.cell? ⟨W.heap.size+2,0,none⟩=some (.int .i64 m):=HS2.out.mo.cell 0;simp only [List.getElem?_cons_zero] at e1;have HF:Hid (ES W base [.int .i64 N,.int .i64 n,.slice a2 x2.length c2,.slice a3 x3.length c3] (ws (some (bl,m))) w2∧Touch w w2 0 base):=by
      rw [hZ.out bl m hm];exact ⟨HS2.out,Below.touch B2 0 base⟩
     clear hv hob HS q0 q1 q2 q3 HS2;go_wp2_with fail
     first | go_end0 | (refine bodyPost_ret (results_none rfl _ _ _) rfl ?_)
     exact ⟨rfl,HF.out⟩
theorem xp {c:Cr} (h:bt c=false):jh c=none:=by simp [jh,h]
theorem wU {c:Cr} (h:bt c=false):jf c=none:=by simp [jf,h]
theorem uV {c:Cr} (h:gi c=false):jh c=none:=by simp [jh,h]
theorem vG {c:Cr} (h:gi c=false):jf c=none:=by simp [jf,h]
theorem vL {c:Cr} (h:bt c=true) (h2:gi c=true):jh c=dH c.ways.length c.U.toNat (dd c) (c.ways.length ^ c.U.toNat):=by simp [jh,h,h2]
theorem uW {c:Cr} (h:bt c=true) (h2:gi c=true):jf c=dH c.ways.length c.U.toNat (cJ c) (c.ways.length ^ c.U.toNat):=by simp [jf,h,h2]
theorem tG {c:Cr} (h:Valid c):(dH c.ways.length c.U.toNat (dd c) (c.ways.length ^ c.U.toNat)).isSome:=by
 obtain ⟨t,ht⟩:∃ t,c.ways.length ^ c.U.toNat=t+1:=⟨c.ways.length ^ c.U.toNat - 1,by have:=CI h;omega⟩;rw [ht];exact uA
theorem ES.ret {W:World} {base:Nat} {cs:List Value} {l:List Int} {m:Int} {w:World} (h:ES W base cs (some (l,m)) w) (hb:W.heap.size≤base) :
 ∃ g c,w.cell? ⟨W.heap.size+1,0,none⟩=some (.slice (some ⟨g,0,none⟩) l.length c)∧w.cell? ⟨W.heap.size+2,0,none⟩=some (.int .i64 m)∧RetT 2 W (some (l,m)) (.returned (.tuple #[.slice (some ⟨g,0,none⟩) l.length c,.int .i64 m,.bool true])) w:=by
 obtain ⟨v,hv,h0,a,c,rfl,ho⟩:=h.be;obtain ⟨g,rfl⟩:=im ho h0;exact ⟨g,c,hv.cell 0,h.mo.cell 0,h.bel,_,_,rfl,bJ ho (by omega)⟩
theorem rQ {U R:Int} {x2 x3:List Int} (hv:Valid ⟨U,R,x2,x3⟩):∃ N n:Nat,U=N∧R=n:=⟨U.toNat,R.toNat,by have:=hv.u1;simp only at this;omega,by have:=hv.r1;simp only at this;omega⟩
theorem ES.start {w w1:World} {cs:List Value} (hb:Below (((w.alloc (.cells cs.toArray 30)).alloc (.cells #[.slice none 0 0] 24)).alloc (.cells #[.int .i64 0] 2)).heap.size (((w.alloc (.cells cs.toArray 30)).alloc (.cells #[.slice none 0 0] 24)).alloc (.cells #[.int .i64 0] 2)) w1) :
 ES w w1.heap.size cs none w1∧w.heap.size+3≤w1.heap.size:=by
 have k0:=(((Blk.new w cs 30).alloc (.cells #[.slice none 0 0] 24)).alloc (.cells #[.int .i64 0] 2)).same hb;have k1:=((Blk.new (w.alloc (.cells cs.toArray 30)) [.slice none 0 0] 24).alloc (.cells #[.int .i64 0] 2)).same hb;have k2:=(Blk.new ((w.alloc (.cells cs.toArray 30)).alloc (.cells #[.slice none 0 0] 24)) [.int .i64 0] 2).same hb;simp at k1 k2
 refine ⟨⟨k0,⟨_,k1,rfl⟩,k2,aa (tJ _ _ _ _) hb⟩,?_⟩
 have:=hb.size;simp at this
 omega
theorem FN (w:World) (U R:Int) (a2:Option Addr) (c2:Nat) (x2:List Int) (a3:Option Addr) (c3:Nat) (x3:List Int) (h:RdCrowd w w.heap.size a2 x2 a3 x3) (hl2:x2.length≤1048576) (hl3:x3.length≤1048576) :
 Calls Tryz.prog 182 #[.agg #[.int .i64 U,.int .i64 R,.slice a2 x2.length c2,.slice a3 x3.length c3]] w (RetT 2 w (jh ⟨U,R,x2,x3⟩)):=by
 have LV:=Na (fun w' hb=>dD w' U R a2 c2 x2 a3 c3 x3 (h.to hb) hl2 hl3)
 have hen:=fun (w:World) (a:Option Addr) (n c:Nat)=>Lib.run_eql_slice_nil (P:=Tryz.prog) w 24 2 a n c 0 0 Tryz.underlying24
 cases t1:bt ⟨U,R,x2,x3⟩ with
 | false =>
   rw [xp t1];rw [t1] at LV;clear h t1
   go_enter Tryz.func182,Tryz.ntmps182;go_wp2_with fail;refine (LV.out _ (tJ _ _ _ _)).mono ?_;rintro e w1 ⟨rfl,hb1⟩;have B1:=aa (tJ w _ _ _) hb1;clear hb1;go_wp2_with fail;go_ret3;exact RetT.no B1
 | true =>
   rw [t1] at LV;have hv:=ee t1;obtain ⟨N,n,rfl,rfl⟩:=rQ hv;have LP:Hid (∀ w1:World,ES w w1.heap.size [.int .i64 N,.int .i64 n,.slice a2 x2.length c2,.slice a3 x3.length c3] none w1∧w.heap.size+3≤w1.heap.size →
    Calls Tryz.prog 225 #[.agg #[.int .i64 N,.int .i64 n,.slice a2 x2.length c2,.slice a3 x3.length c3],.func (.func 229) #[] #[.pointer (some ⟨w.heap.size,0,none⟩),.pointer (some ⟨w.heap.size+1,0,none⟩),.pointer (some ⟨w.heap.size+2,0,none⟩)]] w1
     fun e w'=>e=.returned (.bool (gi ⟨N,n,x2,x3⟩))∧ES w w1.heap.size [.int .i64 N,.int .i64 n,.slice a2 x2.length c2,.slice a3 x3.length c3] (dH x2.length N (dd ⟨N,n,x2,x3⟩) (nU (gi ⟨N,n,x2,x3⟩) (x2.length ^ N))) w'):=fun w1 hs=>by
    refine tq (fun t w'=>ES w w1.heap.size [.int .i64 N,.int .i64 n,.slice a2 x2.length c2,.slice a3 x3.length c3] (dH x2.length N (dd ⟨N,n,x2,x3⟩) t) w') _ _ Bm w1 N n a2 c2 x2 a3 c3 x3 hv ?_ ?_ hs.1
    · intro t v1 v2 k hg
      exact k.frame hg hs.2
    · intro t v1 c k ht hsz g
      have hch:(cu x2.length N t).length=N:=fH _ _ _;have:=Ei w w1.heap.size N n a2 c2 x2 a3 c3 x3 h hs.2 (dH x2.length N (dd ⟨N,n,x2,x3⟩) t) (cu x2.length N t) v1 c k hsz (um hv ht) g;rw [hch] at this;exact this
   cases hf:gi ⟨N,n,x2,x3⟩ with
   | false =>
     rw [uV hf];rw [hf] at LP;clear h t1 hv hf
     go_enter Tryz.func182,Tryz.ntmps182;go_wp2_with fail;refine (LV.out _ (tJ _ _ _ _)).mono ?_;rintro e w1 ⟨rfl,hb1⟩;have HS:=Na (ES.start (cs:=[.int .i64 N,.int .i64 n,.slice a2 x2.length c2,.slice a3 x3.length c3]) hb1);have q0:=HS.out.1.cr.cell 0;have q1:=HS.out.1.cr.cell 1;have q2:=HS.out.1.cr.cell 2;have q3:=HS.out.1.cr.cell 3;simp only [List.getElem?_cons_zero,List.getElem?_cons_succ] at q0 q1 q2 q3;clear hb1 LV;go_wp2_with fail
     first | go_outline | skip
     refine (LP.out _ HS.out).mono ?_;rintro e w2 ⟨rfl,hQ⟩;have B2:=hQ.bel;clear hQ q0 q1 q2 q3;go_wp2_with fail;go_ret3;exact RetT.no B2
   | true =>
     rw [vL t1 hf];rw [hf] at LP;have hsome:=tG hv;simp only [Int.toNat_natCast] at hsome;rw [nG] at LP;simp only [Int.toNat_natCast];generalize dH x2.length N (dd ⟨(N:Int),(n:Int),x2,x3⟩) (x2.length ^ N)=r at *
     cases r with
     | none=>cases hsome
     | some p =>
     obtain ⟨l,m⟩:=p;clear h t1 hv hf hsome
     go_enter Tryz.func182,Tryz.ntmps182;go_wp2_with fail;refine (LV.out _ (tJ _ _ _ _)).mono ?_;rintro e w1 ⟨rfl,hb1⟩;have HS:=Na (ES.start (cs:=[.int .i64 N,.int .i64 n,.slice a2 x2.length c2,.slice a3 x3.length c3]) hb1);have q0:=HS.out.1.cr.cell 0;have q1:=HS.out.1.cr.cell 1;have q2:=HS.out.1.cr.cell 2;have q3:=HS.out.1.cr.cell 3;simp only [List.getElem?_cons_zero,List.getElem?_cons_succ] at q0 q1 q2 q3;clear hb1 LV;go_wp2_with fail
     first | go_outline | skip
     refine (LP.out _ HS.out).mono ?_;rintro e w2 ⟨rfl,hQ⟩;obtain ⟨g,c,e1,e2,hR⟩:=hQ.ret (by have:=HS.out.2;omega)
     have HR:=Na hR;clear hQ q0 q1 q2 q3 hR;go_wp2_with fail
     go_quiet (fail)
     go_wp2_with fail;go_ret3;exact ⟨ag HR.out.1 _,HR.out.2⟩
theorem Gm (w:World) (U R:Int) (a2:Option Addr) (c2:Nat) (x2:List Int) (a3:Option Addr) (c3:Nat) (x3:List Int) (h:RdCrowd w w.heap.size a2 x2 a3 x3) (hl2:x2.length≤1048576) (hl3:x3.length≤1048576) :
 Calls Tryz.prog 181 #[.agg #[.int .i64 U,.int .i64 R,.slice a2 x2.length c2,.slice a3 x3.length c3]] w (RetT 2 w (jf ⟨U,R,x2,x3⟩)):=by
 have LV:=Na (fun w' hb=>dD w' U R a2 c2 x2 a3 c3 x3 (h.to hb) hl2 hl3)
 have hen:=fun (w:World) (a:Option Addr) (n c:Nat)=>Lib.run_eql_slice_nil (P:=Tryz.prog) w 24 2 a n c 0 0 Tryz.underlying24
 cases t1:bt ⟨U,R,x2,x3⟩ with
 | false =>
   rw [wU t1];rw [t1] at LV;clear h t1
   go_enter Tryz.func181,Tryz.ntmps181;go_wp2_with fail;refine (LV.out _ (tJ _ _ _ _)).mono ?_;rintro e w1 ⟨rfl,hb1⟩;have B1:=aa (tJ w _ _ _) hb1;clear hb1;go_wp2_with fail;go_ret3;exact RetT.no B1
 | true =>
   rw [t1] at LV;have hv:=ee t1;obtain ⟨N,n,rfl,rfl⟩:=rQ hv;have LP:Hid (∀ w1:World,ES w w1.heap.size [.int .i64 N,.int .i64 n,.slice a2 x2.length c2,.slice a3 x3.length c3] none w1∧w.heap.size+3≤w1.heap.size →
    Calls Tryz.prog 225 #[.agg #[.int .i64 N,.int .i64 n,.slice a2 x2.length c2,.slice a3 x3.length c3],.func (.func 226) #[] #[.pointer (some ⟨w.heap.size,0,none⟩),.pointer (some ⟨w.heap.size+1,0,none⟩),.pointer (some ⟨w.heap.size+2,0,none⟩)]] w1
     fun e w'=>e=.returned (.bool (gi ⟨N,n,x2,x3⟩))∧ES w w1.heap.size [.int .i64 N,.int .i64 n,.slice a2 x2.length c2,.slice a3 x3.length c3] (dH x2.length N (cJ ⟨N,n,x2,x3⟩) (nU (gi ⟨N,n,x2,x3⟩) (x2.length ^ N))) w'):=fun w1 hs=>by
    refine tq (fun t w'=>ES w w1.heap.size [.int .i64 N,.int .i64 n,.slice a2 x2.length c2,.slice a3 x3.length c3] (dH x2.length N (cJ ⟨N,n,x2,x3⟩) t) w') _ _ BK w1 N n a2 c2 x2 a3 c3 x3 hv ?_ ?_ hs.1
    · intro t v1 v2 k hg
      exact k.frame hg hs.2
    · intro t v1 c k ht hsz g
      have hch:(cu x2.length N t).length=N:=fH _ _ _;have:=Eu w w1.heap.size N n a2 c2 x2 a3 c3 x3 h hs.2 (dH x2.length N (cJ ⟨N,n,x2,x3⟩) t) (cu x2.length N t) v1 c k hsz (um hv ht) g;rw [hch] at this;exact this
   cases hf:gi ⟨N,n,x2,x3⟩ with
   | false =>
     rw [vG hf];rw [hf] at LP;clear h t1 hv hf
     go_enter Tryz.func181,Tryz.ntmps181;go_wp2_with fail;refine (LV.out _ (tJ _ _ _ _)).mono ?_;rintro e w1 ⟨rfl,hb1⟩;have HS:=Na (ES.start (cs:=[.int .i64 N,.int .i64 n,.slice a2 x2.length c2,.slice a3 x3.length c3]) hb1);have q0:=HS.out.1.cr.cell 0;have q1:=HS.out.1.cr.cell 1;have q2:=HS.out.1.cr.cell 2;have q3:=HS.out.1.cr.cell 3;simp only [List.getElem?_cons_zero,List.getElem?_cons_succ] at q0 q1 q2 q3;clear hb1 LV;go_wp2_with fail
     first | go_outline | skip
     refine (LP.out _ HS.out).mono ?_;rintro e w2 ⟨rfl,hQ⟩;have B2:=hQ.bel;clear hQ q0 q1 q2 q3;go_wp2_with fail;go_ret3;exact RetT.no B2
   | true =>
     rw [uW t1 hf];rw [hf] at LP;have hsome:=uw hv;simp only [Int.toNat_natCast] at hsome;rw [nG] at LP;simp only [Int.toNat_natCast];generalize dH x2.length N (cJ ⟨(N:Int),(n:Int),x2,x3⟩) (x2.length ^ N)=r at *
     cases r with
     | none=>cases hsome
     | some p =>
     obtain ⟨l,m⟩:=p;clear h t1 hv hf hsome
     go_enter Tryz.func181,Tryz.ntmps181;go_wp2_with fail;refine (LV.out _ (tJ _ _ _ _)).mono ?_;rintro e w1 ⟨rfl,hb1⟩;have HS:=Na (ES.start (cs:=[.int .i64 N,.int .i64 n,.slice a2 x2.length c2,.slice a3 x3.length c3]) hb1);have q0:=HS.out.1.cr.cell 0;have q1:=HS.out.1.cr.cell 1;have q2:=HS.out.1.cr.cell 2;have q3:=HS.out.1.cr.cell 3;simp only [List.getElem?_cons_zero,List.getElem?_cons_succ] at q0 q1 q2 q3;clear hb1 LV;go_wp2_with fail
     first | go_outline | skip
     refine (LP.out _ HS.out).mono ?_;rintro e w2 ⟨rfl,hQ⟩;obtain ⟨g,c,e1,e2,hR⟩:=hQ.ret (by have:=HS.out.2;omega)
     have HR:=Na hR;clear hQ q0 q1 q2 q3 hR;go_wp2_with fail
     go_quiet (fail)
     go_wp2_with fail;go_ret3;exact ⟨ag HR.out.1 _,HR.out.2⟩
theorem IU (x y:Nat):Nat.gcd y (x % y)=Nat.gcd x y:=by
 rw [Nat.gcd_comm x y,Nat.gcd_rec y x,Nat.gcd_comm]
theorem Kq {x y:Nat} (h:0<x):0<Nat.gcd x y:=Nat.gcd_pos_of_pos_left y h
theorem En (w:World) (a b:Nat) (ha:a≤1099511627776) (hb:b≤1099511627776) :
 Calls Tryz.prog 230 #[.int .i64 a,.int .i64 b] w fun e w'=>e=.returned (.int .i64 (Nat.gcd a b:Nat))∧∃ n,w'=w.drewN n:=by
 go_enter Tryz.func230,Tryz.ntmps230;go_wp2_with fail
 go_loopw [0,1] (fun i j wr=>∃ x y n:Nat,i=.int .i64 x∧j=.int .i64 y∧x≤1099511627776∧y≤1099511627776∧Hid (Nat.gcd x y=Nat.gcd a b)∧wr=w.drewN n) (fun _ j _=>(intOf j).toNat)
 case atStart=>exact ⟨a,b,0,rfl,rfl,ha,hb,rfl,rfl⟩
 case round =>
  obtain ⟨x,y,n,rfl,rfl,hx,hy,hg,rfl⟩:=hrel
  by_cases h0:y=0
  · subst h0
    have HF:Hid ((x:Int)=(Nat.gcd a b:Nat)):=by show _=_;rw [← hg.out,Nat.gcd_zero_right]
    have hne:((((0:Nat):Int)) != 0)=false:=by simp
    clear hg;go_wp2_with fail;go_ret;exact ⟨ce HF.out,n,rfl⟩
  · have hy0:(0:Int)<(y:Int):=by omega
    have hne:((y:Int) != 0)=true:=by simp;omega
    have hnz:(y:Int)≠0:=by omega
    have hnb:((y:Int) == 0)=false:=by simp;omega
    have hx0:(0:Int)≤(x:Int):=Int.natCast_nonneg _;have HN:Hid (Nat.gcd y (x % y)=Nat.gcd a b):=by show _=_;rw [IU,hg.out]
    have hlt:x % y<y:=Nat.mod_lt _ (by omega)
    have Hlt:=Na hlt;have Hmod:Hid ((((x % y:Nat)):Int)=(x:Int) % (y:Int)):=by simp [Hid]
    clear hg hlt;go_wp2_with fail
    go_quiet (fail)
    go_wp2_with fail;go_roundw
    case rel=>exact ⟨y,x % y,n+nq,rfl,by rw [Hmod.out],hy,by have:=Hlt.out;omega,HN.out,by first | rfl | exact World.drewN_drewN _ _ _⟩
    case measure=>have:=Hlt.out;have:=Hmod.out;simp [intOf];omega
theorem xU {c:Cr}:∀ {t:Nat} {b:List Int} {m:Int},dH c.ways.length c.U.toNat (dd c) t=some (b,m)→m=cD c b∧∀ t',t'<t→m≤cD c (cu c.ways.length c.U.toNat t')
 | 0,b,m,h=>by cases h
 | t+1,b,m,h=>by
   rw [dH] at h
   cases hs:dH c.ways.length c.U.toNat (dd c) t with
   | none =>
     rw [hs] at h;simp only [dd] at h;injection h with h;injection h with h1 h2
     subst h1 h2;refine ⟨rfl,fun t' ht'=>?_⟩
     cases t with
     | zero=>
        have:t'=0:=by omega
        subst this;exact Int.le_refl _
     | succ t=>have:=uA (c:=c) (t:=t);rw [hs] at this;cases this
   | some q =>
     obtain ⟨b0,m0⟩:=q;obtain ⟨i1,i2⟩:=xU hs;rw [hs] at h;simp only [dd] at h
     split at h
     · rename_i hlt
       injection h with h;injection h with h1 h2
       subst h1 h2;refine ⟨rfl,fun t' ht'=>?_⟩
       by_cases e:t'=t
       · subst e;exact Int.le_refl _
       · have:=i2 t' (by omega);omega
     · rename_i hge
       injection h with h;injection h with h1 h2
       subst h1 h2;refine ⟨i1,fun t' ht'=>?_⟩
       by_cases e:t'=t
       · subst e;omega
       · exact i2 t' (by omega)
theorem rY {c:Cr}:∀ {t:Nat} {b:List Int} {m:Int},dH c.ways.length c.U.toNat (cJ c) t=some (b,m)→m=cD c b∧∃ t',t'<t∧b=cu c.ways.length c.U.toNat t'
 | 0,b,m,h=>by cases h
 | t+1,b,m,h=>by
   rw [dH] at h;generalize hs:dH c.ways.length c.U.toNat (cJ c) t=s at h;unfold cJ at h
   split at h
   · obtain ⟨i1,t',i2,i3⟩:=rY (hs.trans h)
     exact ⟨i1,t',by omega,i3⟩
   · cases s with
     | none =>
       simp only at h;injection h with h;injection h with h1 h2
       exact ⟨by rw [← h2,← h1],t,by omega,h1.symm⟩
     | some q =>
       obtain ⟨b0,m0⟩:=q;simp only at h
       split at h
       · injection h with h;injection h with h1 h2
         exact ⟨by rw [← h2,← h1],t,by omega,h1.symm⟩
       · obtain ⟨i1,t',i2,i3⟩:=rY (hs.trans h)
         exact ⟨i1,t',by omega,i3⟩
def fJ (c:Cr):Int × Int × Bool :=
 match jf c,jh c with
 | some (_,m),some (_,l)=>if l<1 then (0,0,false) else (((m.toNat / Nat.gcd m.toNat l.toNat:Nat):Int),((l.toNat / Nat.gcd m.toNat l.toNat:Nat):Int),true)
 | _,_=>(0,0,false)
inductive PriceCase (c:Cr):Prop
 | no (h1:jf c=none) (h2:jh c=none) (h3:fJ c=(0,0,false))
 | low (bw bl:List Int) (m l:Int) (h1:jf c=some (bw,m)) (h2:jh c=some (bl,l)) (h3:fJ c=(0,0,false)) (h4:l<1)
 | yes (bw bl:List Int) (m l:Nat) (h1:jf c=some (bw,(m:Int))) (h2:jh c=some (bl,(l:Int))) (h3:fJ c=(((m / Nat.gcd m l:Nat):Int),((l / Nat.gcd m l:Nat):Int),true)) (h4:1≤l) (h5:l≤m) (h6:m≤6400000)
theorem Hj (c:Cr):PriceCase c:=by
 by_cases hv:bt c=true
 case neg =>
  have hv':bt c=false:=by simpa using hv
  have h1:=wU hv';have h2:=xp hv';exact .no h1 h2 (by unfold fJ;rw [h1])
 by_cases hf:gi c=true
 case neg =>
  have hf':gi c=false:=by simpa using hf
  have h1:=vG hf';have h2:=uV hf';exact .no h1 h2 (by unfold fJ;rw [h1])
 have hV:=ee hv;have s1:=uw hV;have s2:=tG hV;have h1:=uW hv hf;have h2:=vL hv hf
 cases e1:dH c.ways.length c.U.toNat (cJ c) (c.ways.length ^ c.U.toNat) with
 | none=>rw [e1] at s1;cases s1
 | some p =>
 obtain ⟨bw,m⟩:=p
 cases e2:dH c.ways.length c.U.toNat (dd c) (c.ways.length ^ c.U.toNat) with
 | none=>rw [e2] at s2;cases s2
 | some q =>
 obtain ⟨bl,l⟩:=q;rw [e1] at h1;rw [e2] at h2;obtain ⟨i1,t',i2,i3⟩:=rY e1;obtain ⟨j1,j2⟩:=xU e2;have k1:=j2 t' i2;rw [← i3,← i1] at k1;have hb:=ug hV bw;rw [← i1] at hb
 by_cases hl:l<1
 · exact .low bw bl m l h1 h2 (by unfold fJ;rw [h1,h2];simp [hl]) hl
 · obtain ⟨mn,rfl⟩:∃ k:Nat,m=k:=⟨m.toNat,by omega⟩
   obtain ⟨ln,rfl⟩:∃ k:Nat,l=k:=⟨l.toNat,by omega⟩;exact .yes bw bl mn ln h1 h2 (by unfold fJ;rw [h1,h2];simp only [hl,if_false,Int.toNat_natCast]) (by omega) (by omega) (by omega)
theorem rP (w:World) (a:Nat) (ha:a≤1099511627776) :
 Calls Tryz.prog 231 #[.int .i64 a] w fun e w'=>e=.returned (.int .i64 a)∧w'=w:=by
 have hm:Hid (max (a:Int) (-(a:Int))=a):=by show _=_;omega
 have hm2:¬ ((a:Int) < -(a:Int)):=by omega
 go_enter Tryz.func231,Tryz.ntmps231;go_wp2_with fail;go_ret;exact ⟨ce (by first | exact hm.out | rfl | omega),rfl⟩
end Go.Proofs.YtbknhgapjjaelaaGreatDoor
