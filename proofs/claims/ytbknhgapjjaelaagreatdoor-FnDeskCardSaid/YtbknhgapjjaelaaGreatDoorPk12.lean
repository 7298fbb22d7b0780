/-
  Part 12 of what the proof stands on: lemmas and contracts, each with its conditions ahead of the colon.
-/
import Derived.Test.YtbknhgapjjaelaaGreatDoorPk01
import Derived.Deep.RegionHeld3
import Derived.Deep.DeepCutAuto
import Derived.Deep.RegionWith
import Derived.Test.YtbknhgapjjaelaaGreatDoorPk03
import Derived.Test.YtbknhgapjjaelaaGreatDoorPk05
import Derived.Test.YtbknhgapjjaelaaGreatDoorPk08
import Derived.Test.YtbknhgapjjaelaaGreatDoorPk11
set_option maxRecDepth 100000
set_option maxHeartbeats 16000000
namespace Go.Proofs.YtbknhgapjjaelaaGreatDoor
set_option linter.unusedVariables false
set_option linter.unusedSimpArgs false
open Go.RowKit
structure Env (w:World):Prop where
 tab:Tab w
 shp:Shp w
 err:Errs w
 bit:TabB w
theorem Env.to {w w':World} (h:Env w) (hb:Below w.heap.size w w'):Env w':=⟨h.tab.to hb,h.shp.to hb,h.err.to hb,h.bit.to hb⟩
abbrev ib:=Option (Option (DD × List UInt8))
structure DLo (lo:Nat) (x:DA):Prop where
 a:∀ y,x.a=some y→lo≤y.block
 b:∀ y,x.b=some y→lo≤y.block
 v:∀ y,x.v=some y→lo≤y.block
 w:∀ y,x.w=some y→lo≤y.block
 k:∀ y,x.k=some y→lo≤y.block
 f:∀ y,x.f=some y→lo≤y.block
theorem DLo.mono {lo lo':Nat} {x:DA} (h:DLo lo x) (hl:lo'≤lo):DLo lo' x:=⟨fun y e=>Nat.le_trans hl (h.a y e),fun y e=>Nat.le_trans hl (h.b y e),fun y e=>Nat.le_trans hl (h.v y e),fun y e=>Nat.le_trans hl (h.w y e),fun y e=>Nat.le_trans hl (h.k y e),fun y e=>Nat.le_trans hl (h.f y e)⟩
def RetAl (lo b:Nat) (w:World) (r:ib) (e:Ending) (w':World):Prop :=
 Touch w w' b (b+1)∧match r with
 | none=>∃ (t:ByteArray) (k:Bool),e=.returned (.tuple #[.string t,.bool k,.bool false])
 | some none=>∃ t:ByteArray,e=.returned (.tuple #[.string t,.bool false,.bool true])
 | some (some (d,t))=>e=.returned (.tuple #[.string (bs t),.bool true,.bool true])∧∃ x:DA,Blk w' b (d.cells x) 33∧DRd w' w'.heap.size d x∧DLo lo x
section
variable {lo b:Nat} {w w':World} {d:DD} {x:DA}
theorem RetAl.what (t:ByteArray) (k:Bool) (ht:Touch w w' b (b+1)):RetAl lo b w none (.returned (.tuple #[.string t,.bool k,.bool false])) w':=⟨ht,t,k,rfl⟩
theorem RetAl.no (t:ByteArray) (ht:Touch w w' b (b+1)):RetAl lo b w (some none) (.returned (.tuple #[.string t,.bool false,.bool true])) w':=⟨ht,t,rfl⟩
theorem RetAl.yes {t:List UInt8} (ht:Touch w w' b (b+1)) (hB:Blk w' b (d.cells x) 33) (hR:DRd w' w'.heap.size d x) (hl:DLo lo x):RetAl lo b w (some (some (d,t))) (.returned (.tuple #[.string (bs t),.bool true,.bool true])) w':=⟨ht,rfl,x,hB,hR,hl⟩
theorem RetAl.text (r:Option (List UInt8)) (hb:Below w.heap.size w w') (hB:Blk w b (d.cells x) 33) (hR:DRd w w.heap.size d x) (hl:DLo lo x):RetAl lo b w (some (r.map fun t=>(d,t))) (.returned (.tuple #[.string (bs (r.getD [])),.bool r.isSome,.bool true])) w':=by
 cases r with
 | none=>exact RetAl.no _ (Below.touch hb _ _)
 | some t=>exact RetAl.yes (Below.touch hb _ _) (hB.same hb) (hR.to hb) hl
theorem RetAl.textN (r:Option (List UInt8)) {t:ByteArray} (hb:Below w.heap.size w w') (hB:Blk w b (d.cells x) 33) (hR:DRd w w.heap.size d x) (hl:DLo lo x) (ht:∀ l,r=some l→t=bs l):RetAl lo b w (some (r.map fun t=>(d,t))) (.returned (.tuple #[.string t,.bool r.isSome,.bool true])) w':=by
 cases r with
 | none=>exact RetAl.no _ (Below.touch hb _ _)
 | some l=>rw [ht l rfl];exact RetAl.yes (Below.touch hb _ _) (hB.same hb) (hR.to hb) hl
end
def fx (s:List UInt8) (f:DD→ib):Prop :=
 ∀ (w:World) (b:Nat) (d:DD) (x:DA) (lo:Nat),lo≤b→DLo lo x→Env w→d.ok=true→d.A.length≤x.ca→Blk w b (d.cells x) 33→DRd w b d x→Calls Tryz.prog 98 #[.pointer (some ⟨b,0,none⟩),.string (bs s)] w (RetAl lo b w (f d))
def jr (s t:List UInt8) (f:DD→ib):Prop :=
 ∀ (w:World) (b:Nat) (d:DD) (x:DA) (lo:Nat),lo≤b→DLo lo x→Env w→d.ok=true→d.A.length≤x.ca→Blk w b (d.cells x) 33→DRd w b d x→Calls Tryz.prog 99 #[.pointer (some ⟨b,0,none⟩),.string (bs s),.string (bs t)] w (RetAl lo b w (f d))
def kL (ws:List (List UInt8)) (f:DD→ib):Prop :=
 ∀ (w:World) (b:Nat) (d:DD) (x:DA) (lo:Nat) (a:Option Addr) (c:Nat),lo≤b→DLo lo x→Env w→d.ok=true→d.A.length≤x.ca→Blk w b (d.cells x) 33→DRd w b d x→Rd w w.heap.size a (cn ws)→Calls Tryz.prog 67 #[.pointer (some ⟨b,0,none⟩),.slice a ws.length c] w (RetAl lo b w (f d))
def yL:List UInt8:=[119,104,97,116]
def ya:List UInt8:=[110,111]
def li:List UInt8:=[111,107]
def gp (f:DD→ib) (d:DD):DD × List UInt8:=match f d with
 | none=>(d,yL)
 | some none=>(d,ya)
 | some (some (d',t))=>if d'.ok then (d',t) else (d,ya)
def Gz (w:World) (x:DA) (r:DD × List UInt8) (e:Ending) (w':World):Prop :=
 Below w.heap.size w w'∧∃ x':DA,e=.returned (.tuple #[r.1.val x',.string (bs r.2)])∧DRd w' w'.heap.size r.1 x'∧(x'=x∨DLo w.heap.size x')
def Fv (l:List UInt8) (f:DD→DD × List UInt8):Prop :=
 ∀ (w:World) (d:DD) (x:DA),Env w→d.ok=true→DRd w w.heap.size d x→Calls Tryz.prog 30 #[d.val x,.string (bs l)] w (Gz w x (f d))
theorem AI {f:DD→ib} {d:DD} (h:d.ok=true):(gp f d).1.ok=true:=by
 unfold gp
 split
 · exact h
 · exact h
 · split
   · assumption
   · exact h
def pn (w:World) (b:Nat) (a:Option Addr) (vs:List Value):Prop:=(∀ w',Touch w w' b (b+1)→Rd w' w'.heap.size a vs)∧∀ y,a=some y→b<y.block
theorem C3 {w:World} {b:Nat} {a:Option Addr} {vs:List Value} (h:Rd w w.heap.size a vs) (ha:∀ y,a=some y→b<y.block):pn w b a vs :=
 ⟨fun w' ht=>gF h ht (fun y e=>by have:=ha y e;omega),ha⟩
theorem ka {T lo hi c b:Nat} {w:World} {a:Option Addr} {xs:List Int} (h:OwnI T w lo hi a c xs) (hb:b<lo) (hh:hi≤w.heap.size):pn w b a (ae xs) :=
 ⟨fun w' ht=>(h.touch ht (.inr (by omega))).rd.mono (Nat.le_trans hh ht.size),fun y e=>by have:=(h.1.lt y.block (by simp [Value.ownBlock,e])).1;omega⟩
theorem xI {T lo hi c b:Nat} {w:World} {a:Option Addr} {xs:List Nat} (h:OwnF T w lo hi a c xs) (hb:b<lo) (hh:hi≤w.heap.size):pn w b a (dt xs) :=
 ⟨fun w' ht=>(h.touch ht (.inr (by omega))).rd.mono (Nat.le_trans hh ht.size),fun y e=>by have:=(h.1.lt y.block (by simp [Value.ownBlock,e])).1;omega⟩
theorem qM (w:World) (b:Nat):pn w b none []:=⟨fun _ _=>.inl rfl,fun y e=>by cases e⟩
def PutD (w wz:World) (b:Nat) (d:DD) (x x0:DA):Prop:=Touch w wz b (b+1)∧Blk wz b (d.cells x) 33∧DRd wz wz.heap.size d x∧∀ lo,lo≤b→DLo lo x0→DLo lo x
theorem PutD.yes {lo b:Nat} {w w1 wz:World} {d:DD} {x x0:DA} (h:PutD w1 wz b d x x0) (hb:Below w.heap.size w w1) (hlo:lo≤b) (hl:DLo lo x0) (t:List UInt8):RetAl lo b w (some (some (d,t))) (.returned (.tuple #[.string (bs t),.bool true,.bool true])) wz:=RetAl.yes ((Below.touch hb _ _).trans h.1) h.2.1 h.2.2.1 (h.2.2.2 lo hlo hl)
theorem PutD.no {lo b:Nat} {w w1 wz:World} {d:DD} {x x0:DA} (h:PutD w1 wz b d x x0) (hb:Below w.heap.size w w1) (t:ByteArray):RetAl lo b w (some none) (.returned (.tuple #[.string t,.bool false,.bool true])) wz:=RetAl.no _ ((Below.touch hb _ _).trans h.1)
theorem C6 {w:World} {b:Nat} {d:DD} {x:DA} (kB:Blk w b (d.cells x) 33) (kR:DRd w b d x) (R:Int) (C:Int) (A:List Int) (pA:Option Addr) (cA:Nat) (B:List Int) (pB:Option Addr) (cB:Nat) (hA:pn w b pA (ae A)) (hB:pn w b pB (ae B)) :
 PutD w ((((w.setCell ⟨b,0,none⟩ (.int .i64 R)).setCell ⟨b,1,none⟩ (.int .i64 C)).setCell ⟨b,2,none⟩ (.slice pA A.length cA)).setCell ⟨b,3,none⟩ (.slice pB B.length cB)) b { d with R:=R,C:=C,A:=A,B:=B } { x with a:=pA,ca:=cA,b:=pB,cb:=cB } x:=by
 have m:=((((kB.set 0 (.int .i64 R)).set 1 (.int .i64 C)).set 2 (.slice pA A.length cA)).set 3 (.slice pB B.length cB));have t:Touch w ((((w.setCell ⟨b,0,none⟩ (.int .i64 R)).setCell ⟨b,1,none⟩ (.int .i64 C)).setCell ⟨b,2,none⟩ (.slice pA A.length cA)).setCell ⟨b,3,none⟩ (.slice pB B.length cB)) b (b+1):=((((ar _ b 0 (.int .i64 R)).trans (ar _ b 1 (.int .i64 C))).trans (ar _ b 2 (.slice pA A.length cA))).trans (ar _ b 3 (.slice pB B.length cB)));have r:=kR.touch t (Nat.le_refl _) (Nat.le_of_lt kB.lt);have q:=r.mono (Z':=((((w.setCell ⟨b,0,none⟩ (.int .i64 R)).setCell ⟨b,1,none⟩ (.int .i64 C)).setCell ⟨b,2,none⟩ (.slice pA A.length cA)).setCell ⟨b,3,none⟩ (.slice pB B.length cB)).heap.size) (Nat.le_trans (Nat.le_of_lt kB.lt) t.size);exact ⟨t,m,⟨⟨(hA.1 _ t),(hB.1 _ t),q.r.V,q.r.W,q.r.C,q.r.T⟩,q.f⟩,fun lo hlo hl=>⟨fun y e=>by have:=hA.2 y e;omega,fun y e=>by have:=hB.2 y e;omega,hl.v,hl.w,hl.k,hl.f⟩⟩
theorem GN {w:World} {b:Nat} {d:DD} {x:DA} (kB:Blk w b (d.cells x) 33) (kR:DRd w b d x) (P:Int) (T:Int) (V:List Int) (pV:Option Addr) (cV:Nat) (hV:pn w b pV (ae V)) :
 PutD w (((w.setCell ⟨b,4,none⟩ (.int .i64 P)).setCell ⟨b,5,none⟩ (.int .i64 T)).setCell ⟨b,6,none⟩ (.slice pV V.length cV)) b { d with P:=P,T:=T,V:=V } { x with v:=pV,cv:=cV } x:=by
 have m:=(((kB.set 4 (.int .i64 P)).set 5 (.int .i64 T)).set 6 (.slice pV V.length cV));have t:Touch w (((w.setCell ⟨b,4,none⟩ (.int .i64 P)).setCell ⟨b,5,none⟩ (.int .i64 T)).setCell ⟨b,6,none⟩ (.slice pV V.length cV)) b (b+1):=(((ar _ b 4 (.int .i64 P)).trans (ar _ b 5 (.int .i64 T))).trans (ar _ b 6 (.slice pV V.length cV)));have r:=kR.touch t (Nat.le_refl _) (Nat.le_of_lt kB.lt);have q:=r.mono (Z':=(((w.setCell ⟨b,4,none⟩ (.int .i64 P)).setCell ⟨b,5,none⟩ (.int .i64 T)).setCell ⟨b,6,none⟩ (.slice pV V.length cV)).heap.size) (Nat.le_trans (Nat.le_of_lt kB.lt) t.size);exact ⟨t,m,⟨⟨q.r.A,q.r.B,(hV.1 _ t),q.r.W,q.r.C,q.r.T⟩,q.f⟩,fun lo hlo hl=>⟨hl.a,hl.b,fun y e=>by have:=hV.2 y e;omega,hl.w,hl.k,hl.f⟩⟩
theorem uj {w:World} {b:Nat} {d:DD} {x:DA} (kB:Blk w b (d.cells x) 33) (kR:DRd w b d x) (U:Int) (N:Int) (W:List Int) (pW:Option Addr) (cW:Nat) (K:List Int) (pK:Option Addr) (cK:Nat) (hW:pn w b pW (ae W)) (hK:pn w b pK (ae K)) :
 PutD w ((((w.setCell ⟨b,7,none⟩ (.int .i64 U)).setCell ⟨b,8,none⟩ (.int .i64 N)).setCell ⟨b,9,none⟩ (.slice pW W.length cW)).setCell ⟨b,10,none⟩ (.slice pK K.length cK)) b { d with U:=U,N:=N,W:=W,K:=K } { x with w:=pW,cw:=cW,k:=pK,ck:=cK } x:=by
 have m:=((((kB.set 7 (.int .i64 U)).set 8 (.int .i64 N)).set 9 (.slice pW W.length cW)).set 10 (.slice pK K.length cK));have t:Touch w ((((w.setCell ⟨b,7,none⟩ (.int .i64 U)).setCell ⟨b,8,none⟩ (.int .i64 N)).setCell ⟨b,9,none⟩ (.slice pW W.length cW)).setCell ⟨b,10,none⟩ (.slice pK K.length cK)) b (b+1):=((((ar _ b 7 (.int .i64 U)).trans (ar _ b 8 (.int .i64 N))).trans (ar _ b 9 (.slice pW W.length cW))).trans (ar _ b 10 (.slice pK K.length cK)));have r:=kR.touch t (Nat.le_refl _) (Nat.le_of_lt kB.lt);have q:=r.mono (Z':=((((w.setCell ⟨b,7,none⟩ (.int .i64 U)).setCell ⟨b,8,none⟩ (.int .i64 N)).setCell ⟨b,9,none⟩ (.slice pW W.length cW)).setCell ⟨b,10,none⟩ (.slice pK K.length cK)).heap.size) (Nat.le_trans (Nat.le_of_lt kB.lt) t.size);exact ⟨t,m,⟨⟨q.r.A,q.r.B,q.r.V,(hW.1 _ t),(hK.1 _ t),q.r.T⟩,q.f⟩,fun lo hlo hl=>⟨hl.a,hl.b,hl.v,fun y e=>by have:=hW.2 y e;omega,fun y e=>by have:=hK.2 y e;omega,hl.f⟩⟩
theorem pZ {w:World} {b:Nat} {d:DD} {x:DA} (kB:Blk w b (d.cells x) 33) (kR:DRd w b d x) (F:List Nat) (pF:Option Addr) (cF:Nat) (hF:pn w b pF (dt F)) (hF':∀ y∈F,y<4294967296) :
 PutD w (w.setCell ⟨b,11,none⟩ (.slice pF F.length cF)) b { d with F:=F } { x with f:=pF,cf:=cF } x:=by
 have m:=(kB.set 11 (.slice pF F.length cF));have t:Touch w (w.setCell ⟨b,11,none⟩ (.slice pF F.length cF)) b (b+1):=(ar _ b 11 (.slice pF F.length cF));have r:=kR.touch t (Nat.le_refl _) (Nat.le_of_lt kB.lt);have q:=r.mono (Z':=(w.setCell ⟨b,11,none⟩ (.slice pF F.length cF)).heap.size) (Nat.le_trans (Nat.le_of_lt kB.lt) t.size);exact ⟨t,m,⟨⟨q.r.A,q.r.B,q.r.V,q.r.W,q.r.C,(hF.1 _ t)⟩,hF'⟩,fun lo hlo hl=>⟨hl.a,hl.b,hl.v,hl.w,hl.k,fun y e=>by have:=hF.2 y e;omega⟩⟩
theorem sO {w:World} {B:Nat} {a:Option Addr} {v:Value} {vs:List Value} (h:Rd w B a (v :: vs)):∃ g o,a=some ⟨g,o,none⟩∧g<B∧∀ j,j<(v :: vs).length→w.cell? ⟨g,o+j,none⟩=(v :: vs)[j]?:=by
 rcases h with h | ⟨g,o,h1,h2,h3⟩
 · cases h
 · exact ⟨g,o,h1,h2,h3⟩
theorem RetAl.drew {lo b:Nat} {w w':World} {r:ib} {e:Ending} (h:RetAl lo b w.drew r e w'):RetAl lo b w r e w':=⟨⟨h.1.os,h.1.tape,h.1.output,h.1.size,h.1.block⟩,h.2⟩
theorem RetAl.form {lo b:Nat} {w w':World} {r:ib} {e:Ending} (h:RetAl lo b w r e w'):∃ (t:ByteArray) (k1 k2:Bool),e=.returned (.tuple #[.string t,.bool k1,.bool k2])∧RetAl lo b w r (.returned (.tuple #[.string t,.bool k1,.bool k2])) w':=by
 obtain ⟨ht,h⟩:=h
 rcases r with _ | _ | ⟨d',t'⟩
 · obtain ⟨t,k,e⟩:=h;subst e;exact ⟨_,_,_,rfl,ht,_,_,rfl⟩
 · obtain ⟨t,e⟩:=h;subst e;exact ⟨_,_,_,rfl,ht,_,rfl⟩
 · obtain ⟨e,h⟩:=h;subst e;exact ⟨_,_,_,rfl,ht,rfl,h⟩
def MF (lo b:Nat) (w:World) (r:ib) (e:Ending) (w':World):Prop:=∃ (t:ByteArray) (k1 k2:Bool),e=.returned (.tuple #[.string t,.bool k1,.bool k2])∧Hid (RetAl lo b w r (.returned (.tuple #[.string t,.bool k1,.bool k2])) w')
theorem Hb {s:List UInt8} {f:DD→ib} (HA:fx s f):kL [s] f:=by
 intro w b d x lo a c hlo hlx hE hok hca hB hR ha;have L:Hid (Calls Tryz.prog 98 #[.pointer (some ⟨b,0,none⟩),.string (bs s)] w (MF lo b w (f d))):=(HA w b d x lo hlo hlx hE hok hca hB hR).mono fun e w' h=>h.form
 obtain ⟨g,o,rfl,hg,hc⟩:=sO (show Rd w w.heap.size a (.string (bs s) :: []) from ha)
 have z:w.cell? ⟨g,o,none⟩=some (.string (bs s)):=hc 0 (by simp)
 clear hlo hlx hc hE hok hca hB hR ha HA;generalize f d=r at L ⊢;generalize bs s=t at L z;simp only [List.length_cons,List.length_nil,Nat.zero_add]
 go_enter Tryz.func67,Tryz.ntmps67;go_wp2_with fail;refine L.out.mono ?_;rintro e w1 ⟨t,k1,k2,rfl,h⟩;go_wp2_with fail;go_ret3;exact h.out
theorem Gh {s t:List UInt8} {f:DD→ib} (HW:jr s t f):kL [s,t] f:=by
 intro w b d x lo a c hlo hlx hE hok hca hB hR ha;have L:Hid (Calls Tryz.prog 99 #[.pointer (some ⟨b,0,none⟩),.string (bs s),.string (bs t)] w.drew (fun e w'=>∃ (t:ByteArray) (k1 k2:Bool),e=.returned (.tuple #[.string t,.bool k1,.bool k2])∧Hid (RetAl lo b w.drew (f d) (.returned (.tuple #[.string t,.bool k1,.bool k2])) w'))):=(HW w.drew b d x lo hlo hlx (hE.to (au (Below.refl _ _))) hok hca (hB.same (au (Below.refl _ _))) (hR.below (au (Below.refl _ _)) (Nat.le_of_lt hB.lt))).mono fun e w' h=>h.form
 obtain ⟨g,o,rfl,hg,hc⟩:=sO (show Rd w w.heap.size a (.string (bs s) :: .string (bs t) :: []) from ha)
 have z:w.cell? ⟨g,o,none⟩=some (.string (bs s)):=hc 0 (by simp)
 have y:w.cell? ⟨g,o+1,none⟩=some (.string (bs t)):=hc 1 (by simp)
 clear hlo hlx hc hE hok hca hB hR ha HW;generalize f d=r at L ⊢;generalize bs s=sb at L z;generalize bs t=tb at L y;simp only [List.length_cons,List.length_nil,Nat.zero_add]
 go_enter Tryz.func67,Tryz.ntmps67
 go_upto_region 4 with fail
 go_region_law (go_simp;refine L.out.mono ?_;rintro e w1 ⟨t,k1,k2,rfl,h⟩;dsimp only)
 all_goals
  go_simp
  rename_i hK
  refine hK _ _ ?_
  clear L y z;go_wp2_with fail;go_ret3;exact RetAl.drew h.out
theorem jM (w:World) (R C:Int) (aA:Option Addr) (cA:Nat) (xA:List Int) (aB:Option Addr) (cB:Nat) (xB:List Int) (P T:Int) (aV:Option Addr) (cV:Nat) (xV:List Int) (U N:Int) (aW:Option Addr) (cW:Nat) (xW:List Int) (aC:Option Addr) (cC:Nat) (xC:List Int) (aT:Option Addr) (cT:Nat) (xT:List Nat)
 (h:RdDesk w w.heap.size aA xA aB xB aV xV aW xW aC xC aT xT) (lA:xA.length≤1048576) (lB:xB.length≤1048576) (lV:xV.length≤1048576) (lW:xW.length≤1048576) (lC:xC.length≤1048576) (lT:xT.length≤1048576) :
 Calls Tryz.prog 9 #[.agg #[.int .i64 R,.int .i64 C,.slice aA xA.length cA,.slice aB xB.length cB,.int .i64 P,.int .i64 T,.slice aV xV.length cV,.int .i64 U,.int .i64 N,.slice aW xW.length cW,.slice aC xC.length cC,.slice aT xT.length cT]] w fun e w'=>e=.returned (.bool (gj R C xA xB P T xV U N xW xC xT))∧Below w.heap.size w w':=by
 have B0:=Na (ah w (.cells #[.int .i64 R,.int .i64 C,.slice aA xA.length cA,.slice aB xB.length cB,.int .i64 P,.int .i64 T,.slice aV xV.length cV,.int .i64 U,.int .i64 N,.slice aW xW.length cW,.slice aC xC.length cC,.slice aT xT.length cT] 33));have K0:=Na (Blk.new w [.int .i64 R,.int .i64 C,.slice aA xA.length cA,.slice aB xB.length cB,.int .i64 P,.int .i64 T,.slice aV xV.length cV,.int .i64 U,.int .i64 N,.slice aW xW.length cW,.slice aC xC.length cC,.slice aT xT.length cT] 33);have L1:=Na (fun v hb=>dX v R C aA cA xA aB cB xB ⟨(h.to hb).A,(h.to hb).B⟩ lA lB)
 have L2:=Na (fun v hb=>eo v P T aV cV xV (h.to hb).V lV)
 have L3:=Na (fun v hb=>dD v U N aW cW xW aC cC xC ⟨(h.to hb).W,(h.to hb).C⟩ lW lC)
 have L4:=Na (fun v hb=>mD v aT cT xT (h.to hb).T lT)
 obtain ⟨z0,z1,z2,z3,z4,z5,z6,z7,z8,z9,z10,z11⟩:=af K0.out;clear h
 cases t1:bY R C xA xB with
 | false =>
   have HF:Hid (gj R C xA xB P T xV U N xW xC xT=false):=by simp [Hid,gj,t1]
   rw [t1] at L1;clear t1
   go_enter Tryz.func9,Tryz.ntmps9;go_wp2_with fail;refine (L1.out _ B0.out).mono ?_;rintro e w1 ⟨rfl,hb⟩;have K1:=Na (K0.out.same hb);have B1:=Na (aa B0.out hb);clear z0 z1 z2 z3 z4 z5 z6 z7 z8 z9 z10 z11 hb;obtain ⟨z0,z1,z2,z3,z4,z5,z6,z7,z8,z9,z10,z11⟩:=af K1.out;go_wp2_with fail;go_ret;exact ⟨av HF.out.symm,B1.out⟩
 | true =>
 cases t2:bu P T xV with
 | false =>
   have HF:Hid (gj R C xA xB P T xV U N xW xC xT=false):=by simp [Hid,gj,t2]
   rw [t1] at L1;rw [t2] at L2;clear t1 t2
   go_enter Tryz.func9,Tryz.ntmps9;go_wp2_with fail;refine (L1.out _ B0.out).mono ?_;rintro e w1 ⟨rfl,hb⟩;have K1:=Na (K0.out.same hb);have B1:=Na (aa B0.out hb);clear z0 z1 z2 z3 z4 z5 z6 z7 z8 z9 z10 z11 hb;obtain ⟨z0,z1,z2,z3,z4,z5,z6,z7,z8,z9,z10,z11⟩:=af K1.out;go_wp2_with fail;refine (L2.out _ B1.out).mono ?_;rintro e w2 ⟨rfl,hb⟩;have K2:=Na (K1.out.same hb);have B2:=Na (aa B1.out hb);clear z0 z1 z2 z3 z4 z5 z6 z7 z8 z9 z10 z11 hb;obtain ⟨z0,z1,z2,z3,z4,z5,z6,z7,z8,z9,z10,z11⟩:=af K2.out;go_wp2_with fail;go_ret;exact ⟨av HF.out.symm,B2.out⟩
 | true =>
 cases t3:bt ⟨U,N,xW,xC⟩ with
 | false =>
   have HF:Hid (gj R C xA xB P T xV U N xW xC xT=false):=by simp [Hid,gj,t3]
   rw [t1] at L1;rw [t2] at L2;rw [t3] at L3;clear t1 t2 t3
   go_enter Tryz.func9,Tryz.ntmps9;go_wp2_with fail;refine (L1.out _ B0.out).mono ?_;rintro e w1 ⟨rfl,hb⟩;have K1:=Na (K0.out.same hb);have B1:=Na (aa B0.out hb);clear z0 z1 z2 z3 z4 z5 z6 z7 z8 z9 z10 z11 hb;obtain ⟨z0,z1,z2,z3,z4,z5,z6,z7,z8,z9,z10,z11⟩:=af K1.out;go_wp2_with fail;refine (L2.out _ B1.out).mono ?_;rintro e w2 ⟨rfl,hb⟩;have K2:=Na (K1.out.same hb);have B2:=Na (aa B1.out hb);clear z0 z1 z2 z3 z4 z5 z6 z7 z8 z9 z10 z11 hb;obtain ⟨z0,z1,z2,z3,z4,z5,z6,z7,z8,z9,z10,z11⟩:=af K2.out;go_wp2_with fail;refine (L3.out _ B2.out).mono ?_;rintro e w3 ⟨rfl,hb⟩;have K3:=Na (K2.out.same hb);have B3:=Na (aa B2.out hb);clear z0 z1 z2 z3 z4 z5 z6 z7 z8 z9 z10 z11 hb;obtain ⟨z0,z1,z2,z3,z4,z5,z6,z7,z8,z9,z10,z11⟩:=af K3.out;go_wp2_with fail;go_ret;exact ⟨av HF.out.symm,B3.out⟩
 | true =>
 have HT:Hid (gj R C xA xB P T xV U N xW xC xT=iE xT):=by simp [Hid,gj,t1,t2,t3]
 rw [t1] at L1;rw [t2] at L2;rw [t3] at L3;clear t1 t2 t3
 by_cases h1:1≤xT.length
 · have h1':(1:Int)≤(xT.length:Int):=by omega
   by_cases h2:xT.length≤16
   · have h2':(xT.length:Int)≤16:=by omega
     have HF:Hid (gj R C xA xB P T xV U N xW xC xT=jd xT):=by rw [Hid,HT.out];simp [iE,h1,h2]
     clear h1 h2
     go_enter Tryz.func9,Tryz.ntmps9;go_wp2_with fail;refine (L1.out _ B0.out).mono ?_;rintro e w1 ⟨rfl,hb⟩;have K1:=Na (K0.out.same hb);have B1:=Na (aa B0.out hb);clear z0 z1 z2 z3 z4 z5 z6 z7 z8 z9 z10 z11 hb;obtain ⟨z0,z1,z2,z3,z4,z5,z6,z7,z8,z9,z10,z11⟩:=af K1.out;go_wp2_with fail;refine (L2.out _ B1.out).mono ?_;rintro e w2 ⟨rfl,hb⟩;have K2:=Na (K1.out.same hb);have B2:=Na (aa B1.out hb);clear z0 z1 z2 z3 z4 z5 z6 z7 z8 z9 z10 z11 hb;obtain ⟨z0,z1,z2,z3,z4,z5,z6,z7,z8,z9,z10,z11⟩:=af K2.out;go_wp2_with fail;refine (L3.out _ B2.out).mono ?_;rintro e w3 ⟨rfl,hb⟩;have K3:=Na (K2.out.same hb);have B3:=Na (aa B2.out hb);clear z0 z1 z2 z3 z4 z5 z6 z7 z8 z9 z10 z11 hb;obtain ⟨z0,z1,z2,z3,z4,z5,z6,z7,z8,z9,z10,z11⟩:=af K3.out;go_wp2_with fail;refine (L4.out _ B3.out).mono ?_;rintro e w4 ⟨rfl,hb⟩;have K4:=Na (K3.out.same hb);have B4:=Na (aa B3.out hb);clear z0 z1 z2 z3 z4 z5 z6 z7 z8 z9 z10 z11 hb;obtain ⟨z0,z1,z2,z3,z4,z5,z6,z7,z8,z9,z10,z11⟩:=af K4.out;go_wp2_with fail;go_ret;exact ⟨av HF.out.symm,B4.out⟩
   · have h2':¬ (xT.length:Int)≤16:=by omega
     have HF:Hid (gj R C xA xB P T xV U N xW xC xT=false):=by rw [Hid,HT.out];simp [iE,h1,h2]
     clear h1 h2
     go_enter Tryz.func9,Tryz.ntmps9;go_wp2_with fail;refine (L1.out _ B0.out).mono ?_;rintro e w1 ⟨rfl,hb⟩;have K1:=Na (K0.out.same hb);have B1:=Na (aa B0.out hb);clear z0 z1 z2 z3 z4 z5 z6 z7 z8 z9 z10 z11 hb;obtain ⟨z0,z1,z2,z3,z4,z5,z6,z7,z8,z9,z10,z11⟩:=af K1.out;go_wp2_with fail;refine (L2.out _ B1.out).mono ?_;rintro e w2 ⟨rfl,hb⟩;have K2:=Na (K1.out.same hb);have B2:=Na (aa B1.out hb);clear z0 z1 z2 z3 z4 z5 z6 z7 z8 z9 z10 z11 hb;obtain ⟨z0,z1,z2,z3,z4,z5,z6,z7,z8,z9,z10,z11⟩:=af K2.out;go_wp2_with fail;refine (L3.out _ B2.out).mono ?_;rintro e w3 ⟨rfl,hb⟩;have K3:=Na (K2.out.same hb);have B3:=Na (aa B2.out hb);clear z0 z1 z2 z3 z4 z5 z6 z7 z8 z9 z10 z11 hb;obtain ⟨z0,z1,z2,z3,z4,z5,z6,z7,z8,z9,z10,z11⟩:=af K3.out;go_wp2_with fail;go_ret;exact ⟨av HF.out.symm,B3.out⟩
 · have h1':¬ (1:Int)≤(xT.length:Int):=by omega
   have HF:Hid (gj R C xA xB P T xV U N xW xC xT=false):=by rw [Hid,HT.out];simp [iE,h1]
   clear h1
   go_enter Tryz.func9,Tryz.ntmps9;go_wp2_with fail;refine (L1.out _ B0.out).mono ?_;rintro e w1 ⟨rfl,hb⟩;have K1:=Na (K0.out.same hb);have B1:=Na (aa B0.out hb);clear z0 z1 z2 z3 z4 z5 z6 z7 z8 z9 z10 z11 hb;obtain ⟨z0,z1,z2,z3,z4,z5,z6,z7,z8,z9,z10,z11⟩:=af K1.out;go_wp2_with fail;refine (L2.out _ B1.out).mono ?_;rintro e w2 ⟨rfl,hb⟩;have K2:=Na (K1.out.same hb);have B2:=Na (aa B1.out hb);clear z0 z1 z2 z3 z4 z5 z6 z7 z8 z9 z10 z11 hb;obtain ⟨z0,z1,z2,z3,z4,z5,z6,z7,z8,z9,z10,z11⟩:=af K2.out;go_wp2_with fail;refine (L3.out _ B2.out).mono ?_;rintro e w3 ⟨rfl,hb⟩;have K3:=Na (K2.out.same hb);have B3:=Na (aa B2.out hb);clear z0 z1 z2 z3 z4 z5 z6 z7 z8 z9 z10 z11 hb;obtain ⟨z0,z1,z2,z3,z4,z5,z6,z7,z8,z9,z10,z11⟩:=af K3.out;go_wp2_with fail;go_ret;exact ⟨av HF.out.symm,B3.out⟩
end Go.Proofs.YtbknhgapjjaelaaGreatDoor
