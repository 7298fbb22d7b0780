/-
  Part 1 of what the proof stands on: lemmas and contracts, each with its conditions ahead of the colon.
-/
import Derived.WalkKit
import Derived.WalkSpells
import Derived.WalkLawsBesides
import Derived.Deep.QuietTactic
import Derived.BigQuiet
import Derived.Deep.RegionWith
import Derived.Lib.Hide
import Derived.Test.YtbknhgapjjaelaaGreatDoorRows
import Derived.Laws.FloatArith
import Derived.Deep.RegionHeld
set_option maxRecDepth 10000
set_option maxHeartbeats 4000000
namespace Go.Proofs.YtbknhgapjjaelaaGreatDoor
set_option linter.unusedVariables false
set_option linter.unusedSimpArgs false
open Go.RowKit
theorem Na {p:Prop} (h:p):Hid p:=Lib.hid h
def ae (xs:List Int):List Value:=xs.map (Value.int .i64)
@[simp] theorem ints_length (xs:List Int):(ae xs).length=xs.length:=by simp [ae]
@[simp] theorem ints_nil:ae []=[]:=rfl
theorem ex (xs:List Int) (k:Nat) (hk:k<xs.length):(ae xs)[k]? = some (.int .i64 (xs.getD k 0)):=by
 simp [ae,List.getD,List.getElem?_eq_getElem hk]
theorem bh (xs ys:List Int):ae (xs ++ ys)=ae xs ++ ae ys:=by simp [ae]
theorem nQ (xs:List Int) (k:Nat) (x:Int):ae (xs.set k x)=(ae xs).set k (.int .i64 x):=by simp [ae,List.map_set]
theorem bZ {xs:List Int} {k:Nat} {x:Int} (h:xs[k]? = some x):xs.getD k 0=x:=by simp [List.getD,h]
theorem rh {xs:List Int} {k:Nat} (h:k<xs.length):xs[k]? = some (xs.getD k 0):=by simp [List.getD,List.getElem?_eq_getElem h]
def Rd (w:World) (B:Nat) (a:Option Addr) (vs:List Value):Prop :=
 vs=[]∨∃ b o,a=some ⟨b,o,none⟩∧b<B∧∀ j,j<vs.length→w.cell? ⟨b,o+j,none⟩=vs[j]?
theorem Rd.mono {w:World} {B B':Nat} {a:Option Addr} {vs:List Value} (h:Rd w B a vs) (hB:B≤B'):Rd w B' a vs:=by
 rcases h with h | ⟨b,o,ha,hb,hc⟩
 · exact .inl h
 · exact .inr ⟨b,o,ha,by omega,hc⟩
theorem Rd.below {w w':World} {B C:Nat} {a:Option Addr} {vs:List Value} (h:Rd w B a vs) (hb:Below C w w') (hB:B≤C):Rd w' B a vs:=by
 rcases h with h | ⟨b,o,ha,hb',hc⟩
 · exact .inl h
 · exact .inr ⟨b,o,ha,hb',fun j hj=>by rw [hb.cell (p:=⟨b,o+j,none⟩) (by show b<C;omega)];exact hc j hj⟩
theorem Rd.at {w:World} {B:Nat} {a:Option Addr} {xs:List Int} (h:Rd w B a (ae xs)) {k:Nat} (hk:k<xs.length) :
 ∃ b o,a=some ⟨b,o,none⟩∧b<B∧∀ j,j<xs.length→w.cell? ⟨b,o+j,none⟩=some (.int .i64 (xs.getD j 0)):=by
 rcases h with h | ⟨b,o,ha,hb,hc⟩
 · have:(ae xs).length=0:=by rw [h];rfl
   simp at this;subst this;simp at hk
 · exact ⟨b,o,ha,hb,fun j hj=>by rw [hc j (by simpa using hj)];exact ex xs j hj⟩
theorem Rd.get {w:World} {B:Nat} {a:Option Addr} {xs:List Int} (h:Rd w B a (ae xs)) {k:Nat} (hk:k<xs.length) :
 ∃ b o x,a=some ⟨b,o,none⟩∧b<B∧w.cell? ⟨b,o+k,none⟩=some (.int .i64 x)∧Hid (xs[k]? = some x):=by
 obtain ⟨b,o,ha,hb,hc⟩:=h.at hk;exact ⟨b,o,xs.getD k 0,ha,hb,hc k hk,by simp [Hid,List.getD,List.getElem?_eq_getElem hk]⟩
theorem Rd.nil (w:World) (B:Nat) (a:Option Addr):Rd w B a []:=.inl rfl
def Blk (w:World) (b:Nat) (cs:List Value) (t:TypeId):Prop:=w.heap[b]? = some (.cells cs.toArray t (0,0))
section
variable {w:World} {b:Nat} {cs:List Value} {t:TypeId}
theorem Blk.cell (h:Blk w b cs t) (j:Nat):w.cell? ⟨b,j,none⟩=cs[j]?:=by simp [World.cell?,show w.heap[b]? = _ from h]
theorem Blk.free (h:Blk w b cs t) (j:Nat):w.frozen? ⟨b,j,none⟩=false:=by simp [World.frozen?,show w.heap[b]? = _ from h]
theorem Blk.lt (h:Blk w b cs t):b<w.heap.size:=lt_of_block h
theorem Blk.set (h:Blk w b cs t) (j:Nat) (u:Value):Blk (w.setCell ⟨b,j,none⟩ u) b (cs.set j u) t:=by
 have:=heap_setCell_same w b j cs.toArray t u h;rwa [List.setIfInBounds_toArray] at this
theorem Blk.other (h:Blk w b cs t) {p:Addr} (hp:b≠p.block) (u:Value):Blk (w.setCell p u) b cs t:=(Below.heap_setCell w p u b hp).trans h
theorem Blk.oth (h:Blk w b cs t) {g:Nat} (hne:b≠g) (j:Nat) (u:Value):Blk (w.setCell ⟨g,j,none⟩ u) b cs t:=h.other (p:=⟨g,j,none⟩) hne u
theorem Blk.alloc (h:Blk w b cs t) (o:Obj):Blk (w.alloc o) b cs t:=(Below.heap_alloc w o b h.lt).trans h
theorem Blk.below {w':World} {B:Nat} (h:Blk w b cs t) (hb:Below B w w') (hB:b<B):Blk w' b cs t:=(hb.block b hB).trans h
theorem Blk.same {w':World} (h:Blk w b cs t) (hb:Below w.heap.size w w'):Blk w' b cs t:=h.below hb h.lt
theorem Blk.grown {w':World} {row:Option Nat} (h:Blk w b cs t) (hg:w.grownBy w' row) (hr:some b≠row):Blk w' b cs t:=(hg.block b h.lt hr).trans h
theorem Blk.drewN (h:Blk w b cs t) (n:Nat):Blk (w.drewN n) b cs t:=h
theorem Blk.new (w:World) (cs:List Value) (t:TypeId):Blk (w.alloc (.cells cs.toArray t)) w.heap.size cs t:=heap_alloc_new w _
theorem Blk.rd (h:Blk w b cs t) {B:Nat} (hB:b<B):Rd w B (some ⟨b,0,none⟩) cs :=
 .inr ⟨b,0,rfl,hB,fun j _=>by rw [Nat.zero_add,h.cell]⟩
theorem Blk.at {xs:List Int} (h:Blk w b (ae xs) t) {k:Nat} (hk:k<xs.length):w.cell? ⟨b,k,none⟩=some (.int .i64 (xs.getD k 0)):=by
 rw [h.cell];exact ex xs k hk
theorem Blk.setI {xs:List Int} (h:Blk w b (ae xs) t) (j:Nat) (x:Int):Blk (w.setCell ⟨b,j,none⟩ (.int .i64 x)) b (ae (xs.set j x)) t:=by
 rw [nQ];exact h.set j _
theorem Blk.owns (h:Blk w b cs t) {base:Nat} (hb:base≤b) (hm:cs.length≤maxLen):w.ownsRow base t 1 (.slice (some ⟨b,0,none⟩) cs.length cs.length) cs.length cs :=
 ⟨by simp,.inr ⟨b,cs.length,cs.toArray,rfl,hb,h,Nat.le_refl _,hm,by simp,List.take_of_length_le (by simp)⟩⟩
end
theorem ay {w:World} {base e:Nat} {a:Option Addr} {n c m:Nat} {xs:List Value} (h:w.ownsRow base e 1 (.slice a n c) m xs) {B:Nat} (hB:w.heap.size≤B):Rd w B a xs:=by
 obtain ⟨h1,h2⟩:=h
 rcases h2 with ⟨h2,h3⟩ | ⟨g,cap,cur,hv,hg,hh,hn,hm,hs,ht⟩
 · exact .inl (List.eq_nil_of_length_eq_zero (by omega))
 · injection hv with ha _ _
   refine .inr ⟨g,0,ha,Nat.lt_of_lt_of_le (lt_of_block hh) hB,fun j hj=>?_⟩
   have hb:Blk w g cur.toList e:=hh;rw [Nat.zero_add,hb.cell,← ht,List.getElem?_take,if_pos (by rw [h1] at hj;exact hj)]
theorem bj {w:World} {base e:Nat} {v:Value} {n:Nat} {xs:List Value} (h:w.ownsRow base e 1 v n xs):∃ a c,v=.slice a n c∧n≤c∧(a=none→n=0):=by
 rcases h.2 with ⟨h2,h3⟩ | ⟨g,cap,cur,hv,hg,hh,hn,hm,hs,ht⟩
 · exact ⟨none,0,by rw [h2,h3],by omega,fun _=>h3⟩
 · exact ⟨_,cap,hv,hn,fun h=>by cases h⟩
theorem aM {w w':World} {base e g:Nat} {v:Value} {n:Nat} {xs:List Value} (h:w.ownsRow base e 1 v n xs) (hg:w.grownBy w' (some g)) (hne:g<base):w'.ownsRow base e 1 v n xs:=by
 refine h.kept hg (.inr fun e=>?_)
 have:=h.lt g e;omega
theorem Rd.grown {w w':World} {g B:Nat} {a:Option Addr} {vs:List Value} (h:Rd w B a vs) (hg:w.grownBy w' (some g)) (hB:B≤g) (hB2:B≤w.heap.size):Rd w' B a vs:=by
 rcases h with h | ⟨b,o,ha,hb,hc⟩
 · exact .inl h
 · exact .inr ⟨b,o,ha,hb,fun j hj=>by rw [World.cell?_of_block (w:=w) (hg.block b (by omega) (by intro e;injection e;omega))];exact hc j hj⟩
theorem aG {w w':World} {base e size:Nat} {v:Value} {n:Nat} {xs:List Value} (h:w.ownsRow base e size v n xs) (hb:Below w.heap.size w w'):w'.ownsRow base e size v n xs :=
 h.kept (row:=none) ⟨hb.os,hb.tape,hb.output,hb.size,fun k hk _=>hb.block k hk⟩ (by cases v.ownBlock <;> simp)
theorem bJ {w:World} {base base' e size:Nat} {v:Value} {n:Nat} {xs:List Value} (h:w.ownsRow base e size v n xs) (hb:base'≤base):w.ownsRow base' e size v n xs:=by
 refine ⟨h.1,?_⟩
 rcases h.2 with h | ⟨g,cap,cur,hv,hg,r⟩
 · exact .inl h
 · exact .inr ⟨g,cap,cur,hv,by omega,r⟩
theorem gU {P:Program} (w:World) {ops:Array Oper} {rest:List Oper} {o:Oper} {a:Act} {Q:Exit→Act→World→Prop}
 (hg:o.guard=none) (l c:Operand) (t:TypeId) (hop:o.op=Op.makeSlice t l c)
 (e:TypeId) (z:Value) (bytes:Nat) (h1:P.underlying t=some (.slice e)) (hinfo:(P.info? e).map (fun i=>(i.zero,i.size,i.bytes))=some (some z,1,bytes)) (hz:z.cells = #[z])
 (kl kc:IntKind) (n:Nat) (hl:a.eval l=.int kl (n:Int)) (hc:a.eval c=.int kc (n:Int)) (b2:bytes * n≤281474976710656) (b3:n≤maxLen)
 (hK:∀ w',Blk w' w.heap.size (List.replicate n z) e→Below w.heap.size w w'→w'.heap.size=w.heap.size+1→wpList P ops Q rest (a.put o.dst (.slice (some ⟨w.heap.size,0,none⟩) n n)) w') :
 wpList P ops Q (o :: rest) a w:=by
 obtain ⟨i,h2,h3,h4,h5⟩:=info_parts hinfo;refine wpList_plain hg fun K hK'=>?_
 have b2':(i.bytes:Int) * (n:Int)≤281474976710656:=by
  rw [h5];have:((bytes * n:Nat):Int)≤281474976710656:=by omega
  rwa [Int.natCast_mul] at this
 have hr:=run_make (P:=P) w t e i z h1 h2 h3 kl kc n n (by omega) (Int.le_refl _) b2' (by unfold maxLen at b3;omega)
 simp only [Int.toNat_natCast,hz,h4,Nat.mul_one] at hr;have e1:madeCells #[z] n=(List.replicate n z).toArray:=by rw [← toList_madeCells_one z n]
 rw [e1] at hr;unfold Oper.wp;simp [execOp,hop,hl,hc,hr,Result.andThen]
 exact hK' _ _ (by simpa using hK _ (Blk.new w _ e) ((Below.refl _ w).alloc (Nat.le_refl _) _) (by simp))
theorem aH {P:Program} (wr:World) {ops:Array Oper} {rest:List Oper} {o:Oper} {a:Act} {Q:Exit→Act→World→Prop}
 (hg:o.guard=none) (s x:Operand) (t:TypeId) (hop:o.op=Op.call { callee:=Callee.builtin Builtin.append,args:=#[s,x],argTypes:=#[t,t] })
 (base:Nat) (e:TypeId) (z:Value) (bytes:Nat) (h1:P.underlying t=some (.slice e)) (hinfo:(P.info? e).map (fun i=>(i.zero,i.size,i.bytes))=some (some z,1,bytes)) (hz:z.cells.size=1)
 (v:Value) (n:Nat) (xs:List Value) (hs:a.eval s=v) (hown:wr.ownsRow base e 1 v n xs) (y:Value) (hy:y.oneCell'=true)
 (hx:a.eval x=.slice (some ⟨wr.heap.size,0,none⟩) 1 1) (hb:bytes≤64) (hn:n≤1099511627776) (hbase:base≤wr.heap.size)
 (hK:∀ v' w',w'.ownsRow base e 1 v' (n+1) (xs ++ [y])→wr.grownBy w' v.ownBlock→wpList P ops Q rest (a.put o.dst v') w') :
 wpList P ops Q (o :: rest) a (wr.alloc (.cells #[y] e)):=by
 obtain ⟨i,h2,h3,h4,h5⟩:=info_parts hinfo;have hbb:(n+1) * bytes≤140737488355328:=Nat.le_trans (Nat.mul_le_mul_left (n+1) hb) (by omega)
 refine wpList_append_own (wr.alloc (.cells #[y] e)) hg s x t hop base e i z 1 bytes h1 h2 h3 h4 h5 hz (by omega) v n xs hs (hown.alloc _) ⟨wr.heap.size,0,none⟩ 1 1 [y] hx rfl ?_ ?_ (by unfold maxLen;omega) hbb (by simp;omega) ?_
 · intro j u hj
   match j,hj with
   | 0,hj =>
     simp at hj
     subst hj;simp [Addr.add]
   | j+1,hj=>simp at hj
 · intro u hu
   simp at hu
   subst hu;exact hy
 · intro v' w' ho hgr _
   refine hK v' w' ho ⟨hgr.os,hgr.tape,hgr.output,?_,fun k hk hne=>?_⟩
   · have:=hgr.size;simp at this;omega
   · rw [hgr.block k (by simp;omega) hne]
     exact Below.heap_alloc _ _ _ hk
theorem bD (w:World) (e:Nat):(w.alloc (.cells #[] e)).ownsRow w.heap.size e 1 (.slice (some ⟨w.heap.size,0,none⟩) 0 0) 0 [] :=
 World.ownsRow_made w #[] 0 (Nat.le_refl _) (Nat.zero_le _) rfl
theorem ai {w wr w':World} {B base e:Nat} {v:Value} {n:Nat} {xs:List Value} (h:Below B w wr) (ho:wr.ownsRow base e 1 v n xs) (hg:wr.grownBy w' v.ownBlock) (hB:B≤base) (hB2:B≤wr.heap.size):Below B w w' :=
 h.grown hg hB2 fun k hk=>Nat.le_trans hB (ho.lt k hk).1
theorem fV (n:Nat) (x:Int):List.replicate n (Value.int .i64 x)=ae (List.replicate n x):=by simp [ae]
theorem tD {P:Program} {f:FuncId} {args:Array Value} {w:World} {n:Nat} {v:Value} (h:Calls P f args (w.drewN n) fun e w'=>e=.returned v∧w.drewN n=w') :
 Calls P f args (w.drewN n) fun e w''=>e=.returned v∧∃ k,w''=w.drewN k:=h.mono fun _ _ h=>⟨h.1,n,h.2.symm⟩
theorem pp (w:World) (n:Nat):Below w.heap.size w (w.drewN n):=⟨rfl,rfl,rfl,Nat.le_refl _,fun _ _=>rfl⟩
theorem fW {w w1 w2:World} {r:Option Nat} (h:w.grownBy w1 r) (h2:w1.grownBy w2 r):w.grownBy w2 r :=
 ⟨h2.os.trans h.os,h2.tape.trans h.tape,h2.output.trans h.output,Nat.le_trans h.size h2.size,fun i hi hne=>(h2.block i (Nat.lt_of_lt_of_le hi h.size) hne).trans (h.block i hi hne)⟩
theorem ce {k:IntKind} {a b:Int} (h:a=b):Ending.returned (.int k a)=.returned (.int k b):=by rw [h]
theorem av {a b:Bool} (h:a=b):Ending.returned (.bool a)=.returned (.bool b):=by rw [h]
theorem zJ {α:Type} {xs ys:List α} {k:Nat} {x y:α} (hx:xs[k]? = some x) (hy:ys[k]? = some y) (h:xs.take k=ys.take k):xs.take (k+1)=ys.take (k+1) ↔ x=y:=by
 rw [List.take_add_one,List.take_add_one,hx,hy,h];simp
theorem F6 {α:Type} {xs ys:List α} {k:Nat} {x y:α} (hx:xs[k]? = some x) (hy:ys[k]? = some y) (h:x≠y):xs≠ys:=by
 intro e;subst e;rw [hx] at hy;exact h (by injection hy)
theorem Rd.to {w w':World} {a:Option Addr} {vs:List Value} (h:Rd w w.heap.size a vs) (hb:Below w.heap.size w w'):Rd w' w'.heap.size a vs :=
 (h.below hb (Nat.le_refl _)).mono hb.size
theorem aj {B:Nat} {a w:World} (h:Below B a w) {g:Nat} (hB:B≤g) (j:Nat) (u:Value):Below B a (w.setCell ⟨g,j,none⟩ u):=h.setCell (p:=⟨g,j,none⟩) hB u
theorem au {B:Nat} {w w':World} (h:Below B w w'):Below B w w'.drew:=h.drew
theorem ah (w:World) (o:Obj):Below w.heap.size w (w.alloc o):=(Below.refl _ w).alloc (Nat.le_refl _) o
theorem bR (w:World) (o p:Obj):Below w.heap.size w ((w.alloc o).alloc p):=(ah w o).alloc (by simp) p
theorem tJ (w:World) (o p q:Obj):Below w.heap.size w (((w.alloc o).alloc p).alloc q):=(bR w o p).alloc (by simp;omega) q
theorem aa {w w1 w2:World} (h:Below w.heap.size w w1) (h2:Below w1.heap.size w1 w2):Below w.heap.size w w2:=h.trans (h2.mono h.size)
theorem ag {B:Nat} {w w':World} (h:Below B w w') (n:Nat):Below B w (w'.drewN n):=⟨h.os,h.tape,h.output,h.size,h.block⟩
structure Touch (w w':World) (lo hi:Nat):Prop where
 os:w'.os=w.os
 tape:w'.tape=w.tape
 output:w'.output=w.output
 size:w.heap.size≤w'.heap.size
 block:∀ k,k<w.heap.size→(k<lo∨hi≤k)→w'.heap[k]? = w.heap[k]?
theorem Touch.refl (w:World) (lo hi:Nat):Touch w w lo hi:=⟨rfl,rfl,rfl,Nat.le_refl _,fun _ _ _=>rfl⟩
theorem Touch.of_grown {w w':World} {g lo hi:Nat} (h:w.grownBy w' (some g)) (h1:lo≤g) (h2:g<hi):Touch w w' lo hi :=
 ⟨h.os,h.tape,h.output,h.size,fun k hk hd=>h.block k hk (by intro e;injection e;omega)⟩
theorem Touch.trans {a b c:World} {lo hi:Nat} (h:Touch a b lo hi) (k:Touch b c lo hi):Touch a c lo hi :=
 ⟨k.os.trans h.os,k.tape.trans h.tape,k.output.trans h.output,Nat.le_trans h.size k.size,fun i hi hd=>(k.block i (Nat.lt_of_lt_of_le hi h.size) hd).trans (h.block i hi hd)⟩
theorem Below.touch {w w':World} (h:Below w.heap.size w w') (lo hi:Nat):Touch w w' lo hi:=⟨h.os,h.tape,h.output,h.size,fun k hk _=>h.block k hk⟩
theorem aE {B lo hi:Nat} {w w1 w2:World} (h:Below B w w1) (ht:Touch w1 w2 lo hi) (hB:B≤lo) (hB2:B≤w1.heap.size):Below B w w2 :=
 h.trans ⟨ht.os,ht.tape,ht.output,ht.size,fun k hk=>ht.block k (by omega) (.inl (by omega))⟩
theorem Rd.touch {w w':World} {lo hi B:Nat} {a:Option Addr} {vs:List Value} (h:Rd w B a vs) (ht:Touch w w' lo hi) (hB:B≤lo) (hs:B≤w.heap.size):Rd w' B a vs:=by
 rcases h with h | ⟨b,o,ha,hb,hc⟩
 · exact .inl h
 · exact .inr ⟨b,o,ha,hb,fun j hj=>by rw [World.cell?_of_block (w:=w) (ht.block b (by omega) (.inl (by omega)))];exact hc j hj⟩
theorem Blk.touch {w w':World} {lo hi b:Nat} {cs:List Value} {t:TypeId} (h:Blk w b cs t) (ht:Touch w w' lo hi) (hd:b<lo∨hi≤b):Blk w' b cs t:=(ht.block b h.lt hd).trans h
def OwnI (T:Nat) (w:World) (lo hi:Nat) (a:Option Addr) (c:Nat) (xs:List Int):Prop :=
 w.ownsRow lo T 1 (.slice a xs.length c) xs.length (ae xs)∧∀ b,a=some b→b.block<hi
section
variable {T lo hi c:Nat} {w w':World} {a:Option Addr} {xs:List Int}
theorem OwnI.of_own (h:w.ownsRow lo T 1 (.slice a xs.length c) xs.length (ae xs)):OwnI T w lo w.heap.size a c xs :=
 ⟨h,fun b hb=>(h.lt b.block (by simp [Value.ownBlock,hb])).2⟩
theorem OwnI.of_blk {b:Nat} (h:Blk w b (ae xs) T) (hl:xs.length≤1152921504606846976):OwnI T w b (b+1) (some ⟨b,0,none⟩) xs.length xs :=
 ⟨by have:=h.owns (Nat.le_refl b) (by rw [ints_length];unfold maxLen;omega);rwa [ints_length] at this,fun _ hb=>by injection hb with hb;subst hb;show b<b+1;omega⟩
theorem OwnI.rd (h:OwnI T w lo hi a c xs):Rd w hi a (ae xs):=by
 rcases ay h.1 (Nat.le_refl _) with h' | ⟨b,o,ha,hb,hc⟩
 · exact .inl h'
 · exact .inr ⟨b,o,ha,h.2 _ ha,hc⟩
theorem OwnI.cap (h:OwnI T w lo hi a c xs):xs.length≤c:=by
 obtain ⟨a',c',e,h2,_⟩:=bj h.1;injection e with _ _ e
 omega
theorem OwnI.keep (h:OwnI T w lo hi a c xs) (hb:Below w.heap.size w w'):OwnI T w' lo hi a c xs:=⟨aG h.1 hb,h.2⟩
theorem OwnI.touch {lo' hi':Nat} (h:OwnI T w lo hi a c xs) (ht:Touch w w' lo' hi') (hd:hi≤lo'∨hi'≤lo):OwnI T w' lo hi a c xs:=by
 refine ⟨⟨h.1.1,?_⟩,h.2⟩
 rcases h.1.2 with h2 | ⟨g,cap,cur,hv,hg,hh,r⟩
 · exact .inl h2
 · have h3:g<hi:=by
     injection hv with ha _ _
     exact h.2 _ ha
   refine .inr ⟨g,cap,cur,hv,hg,?_,r⟩
   rw [ht.block g (lt_of_block hh) (by omega)]
   exact hh
theorem OwnI.mono {lo' hi':Nat} (h:OwnI T w lo hi a c xs) (h1:lo'≤lo) (h2:hi≤hi'):OwnI T w lo' hi' a c xs :=
 ⟨bJ h.1 h1,fun b hb=>Nat.lt_of_lt_of_le (h.2 b hb) h2⟩
end
def J7 (n:Nat) (k:Int):List Int:=(List.range n).map fun (i:Nat)=>k+(i:Int)
@[simp] theorem marks_length (n:Nat) (k:Int):(J7 n k).length=n:=by simp [J7]
def dt (xs:List Nat):List Value:=xs.map fun x=>Value.float .f32 x
theorem oI (P:Program) (w:World) (a:Addr) (m:Mode) (k:FloatKind) (b:Nat):(store a (.float k b) m).run P w=stored P w a (.float k b) m:=run_store P w a _ m rfl
attribute [local go_sem] oI
open Ieee
theorem JF (neg:Bool) (n:Nat):Toward.even.cut neg n 0=n:=by
 simp [Toward.cut,Nat.mod_one]
theorem Hd (neg:Bool) (a r:Nat) (hr:r<4503599627370496) (ha:a<2046) :
 double.read (double.word neg (a * 4503599627370496+(4503599627370496+r)))=.number neg (4503599627370496+r) (-1074+(a:Int)):=by
 have hsw:double.signWeight=9223372036854775808:=by decide
 have hbi:double.binade=4503599627370496:=by decide
 have hin:double.infRung=9218868437227405312:=by decide
 have hlp:double.leastPlace = -1074:=by decide
 have h1:double.word neg (a * 4503599627370496+(4503599627370496+r)) % 9223372036854775808=a * 4503599627370496+(4503599627370496+r):=by
  unfold Format.word;rw [hsw]
  split <;> omega
 have h2:(double.word neg (a * 4503599627370496+(4503599627370496+r)) / 9223372036854775808 % 2 == 1)=neg:=by
  unfold Format.word;rw [hsw]
  cases neg
  · simp;omega
  · simp;omega
 unfold Format.read;simp only [hsw,hbi,hin,hlp,h1,h2];rw [if_neg (by omega),if_pos (by omega)]
 congr 1
 · omega
 · omega
theorem GY (neg:Bool) (mag:Nat) (place:Int) (hm:0<mag) (h24:mag<16777216) (p0:-149≤place) (p1:place≤104) :
 ∃ m p,double.read (double.nearest neg mag place)=.number neg m p∧0<m:=by
 have hlp:double.leastPlace = -1074:=by decide
 have hbi:double.binade=4503599627370496:=by decide
 have hin:double.infRung=9218868437227405312:=by decide
 have hfb:(double.fractionBits:Int)=52:=by decide
 obtain ⟨L,hL⟩:∃ L,L=mag.log2:=⟨_,rfl⟩;have l1:2 ^ L≤mag:=by rw [hL];exact Nat.log2_self_le (by omega)
 have l2:mag<2 ^ (L+1):=by rw [hL];exact Nat.lt_log2_self
 have l3:L≤23:=by
  rcases Nat.lt_or_ge 23 L with h | h
  · have:2 ^ 24≤2 ^ L:=Nat.pow_le_pow_right (by omega) (by omega)
    omega
  · exact h
 have e1:max (place+(L:Int) - 52) (-1074)=place+(L:Int) - 52:=by omega
 have e2:(place - (place+(L:Int) - 52)).toNat=52 - L:=by omega
 have e3:(place+(L:Int) - 52 - place).toNat=0:=by omega
 have k1:4503599627370496≤mag * 2 ^ (52 - L):=by
  have:=Nat.mul_le_mul_right (2 ^ (52 - L)) l1;rw [← Nat.pow_add,show L+(52 - L)=52 from by omega] at this
  omega
 have k2:mag * 2 ^ (52 - L)<9007199254740992:=by
  have:=Nat.mul_lt_mul_of_pos_right l2 (Nat.two_pow_pos (52 - L));rw [← Nat.pow_add,show L+1+(52 - L)=53 from by omega] at this
  omega
 obtain ⟨r,hr⟩:∃ r,mag * 2 ^ (52 - L)=4503599627370496+r:=⟨mag * 2 ^ (52 - L) - 4503599627370496,by omega⟩;have hnear:double.nearest neg mag place=double.word neg (((place+(L:Int) - 52) - (-1074)).toNat * 4503599627370496+(4503599627370496+r)):=by
  unfold Format.nearest;rw [if_neg (by omega)]
  simp only [hlp,hbi,hin,hfb,← hL,e1,e2,e3,JF,Nat.shiftLeft_eq];rw [hr,Nat.min_eq_left (by omega)]
 rw [hnear,Hd neg _ r (by omega) (by omega)]
 exact ⟨_,_,rfl,by omega⟩
theorem qA (d:Datum):(∃ n f,d=.nan n f)∨d.order d=some .eq:=by
 cases d with
 | nan n f=>exact .inl ⟨_,_,rfl⟩
 | infinity n=>right;cases n <;> rfl
 | number n m p=>right;simp [Datum.order]
open Go.RowKit Ieee
theorem Gv {d e:Datum} (h:∃ n f,d=.nan n f):d.order e=none:=by obtain ⟨n,f,rfl⟩:=h;cases e <;> rfl
attribute [local go_sem] oI
@[simp] theorem flts_length (xs:List Nat):(dt xs).length=xs.length:=by simp [dt]
theorem uc {xs:List Nat} {j:Nat} (h:j<xs.length):(dt xs)[j]? = some (.float .f32 (xs.getD j 0)):=by simp [dt,List.getD,List.getElem?_eq_getElem h]
theorem Rd.atF {w:World} {B:Nat} {a:Option Addr} {xs:List Nat} (h:Rd w B a (dt xs)) {k:Nat} (hk:k<xs.length) :
 ∃ b o,a=some ⟨b,o,none⟩∧b<B∧∀ j,j<xs.length→w.cell? ⟨b,o+j,none⟩=some (.float .f32 (xs.getD j 0)):=by
 rcases h with h | ⟨b,o,ha,hb,hc⟩
 · have:(dt xs).length=0:=by rw [h];rfl
   rw [flts_length] at this;omega
 · exact ⟨b,o,ha,hb,fun j hj=>by rw [hc j (by rw [flts_length];exact hj),uc hj]⟩
theorem tY:(Tryz.prog.info? 79).map (fun i=>(i.zero,i.size,i.bytes))=some (some (.float .f32 0),1,4):=by kernel_rfl
open Go.RowKit Ieee
def iN (x:Nat):Bool:=match floatBits .sub .f32 x x with
 | some r=>FloatKind.f32.format.order r 0 == some .eq
 | none=>false
def od (x:Nat) (w:World):Nat:=Question.cut (.nanBits .f32 x x) (w.tape w.drawn (.nanBits .f32 x x))
theorem zE (x b:Nat) (w:World):FloatKind.f32.format.order (od x w) b=none:=by
 refine Gv ?_
 have hsw:single.signWeight=2147483648:=by decide
 have hbi:single.binade=8388608:=by decide
 have hin:single.infRung=2139095040:=by decide
 have hlp:single.leastPlace = -149:=by decide
 obtain ⟨t,ht⟩:∃ t,t=w.tape w.drawn (.nanBits .f32 x x):=⟨_,rfl⟩;have e:od x w=(t % 2) * 2147483648+2139095040+1+(t / 2) % 8388607:=by
  unfold od;rw [← ht];rfl
 show ∃ n f,single.read (od x w)=.nan n f
 obtain ⟨q,hq⟩:∃ q,q=(t / 2) % 8388607:=⟨_,rfl⟩;have hq2:q<8388607:=by rw [hq];exact Nat.mod_lt _ (by omega)
 rw [← hq] at e;have e2:od x w % 2147483648=2139095040+1+q:=by
  rcases Nat.mod_two_eq_zero_or_one t with h | h
  · rw [e,h];omega
  · rw [e,h];omega
 unfold Format.read;simp only [hsw,hbi,hin,hlp,e2];rw [if_neg (by omega),if_neg (by omega),if_neg (by omega)]
 exact ⟨_,_,rfl⟩
theorem Ct {x:Nat} (h:floatBits .sub .f32 x x=none) (t:TypeId) (w:World):(binOp BinOp.sub t (.float .f32 x) (.float .f32 x)).run Tryz.prog w=.ok (.float .f32 (od x w)) w.drew:=by
 have h':FloatKind.f32.format.sub x x=none:=h;simp [binOp,Op.floatArith,h',od,Question.forced]
theorem zb (w:World) (x:Nat) :
 Calls Tryz.prog 78 #[.float .f32 x] w fun e w'=>e=.returned (.bool (iN x))∧∃ n,w'=w.drewN n:=by
 cases hs:floatBits .sub .f32 x x with
 | none =>
   have hc:=fun v:World=>Ct hs 79 v
   have ho:=fun v:World=>zE x 0 v
   have HF:Hid (iN x=false):=by simp [Hid,iN,hs]
   clear hs
   go_enter Tryz.func78,Tryz.ntmps78;go_wp2_with fail;go_ret;exact ⟨av HF.out.symm,1,rfl⟩
 | some r =>
   have hc:∀ v:World,(binOp BinOp.sub 79 (.float .f32 x) (.float .f32 x)).run Tryz.prog v=.ok (.float .f32 r) v:=fun v=>run_float_arith v _ _ _ _ _ _ hs
   have HF:Hid (iN x=(FloatKind.f32.format.order r 0 == some .eq)):=by simp [Hid,iN,hs]
   clear hs
   go_enter Tryz.func78,Tryz.ntmps78;go_wp2_with fail;go_ret;exact ⟨av HF.out.symm,0,rfl⟩
def eu (n lo hi:Int):Bool:=decide (lo≤n) && decide (n≤hi)
theorem bH {n lo hi:Int}:eu n lo hi=true ↔ lo≤n∧n≤hi:=by simp [eu]
def gm (xs:List Int) (lo hi:Int):Bool:=xs.all fun x=>eu x lo hi
theorem eG {xs:List Int} {lo hi:Int}:gm xs lo hi=true ↔ ∀ x∈xs,lo≤x∧x≤hi:=by simp [gm,bH]
def cH (xs:List Int) (few many lo hi:Int):Bool:=eu xs.length few many && gm xs lo hi
theorem fT {xs:List Int} {few many lo hi:Int}:cH xs few many lo hi=true ↔ (few≤xs.length∧(xs.length:Int)≤many)∧∀ x∈xs,lo≤x∧x≤hi:=by
 simp [cH,bH,eG]
def lq (xs:List Int):Int:=xs.foldl (fun s x=>wrap64 (s+x)) 0
theorem Hw (xs:List Int) (x:Int):lq (xs ++ [x])=wrap64 (lq xs+x):=by simp [lq]
theorem xz (m:Int) (hm:0≤m):∀ (xs:List Int) (s:Int),(∀ x∈xs,-m≤x∧x≤m)→-9223372036854775807≤s - m * xs.length→s+m * xs.length≤9223372036854775807 →
 xs.foldl (fun s x=>wrap64 (s+x)) s=s+xs.sum∧-(m * xs.length)≤xs.sum∧xs.sum≤m * xs.length
 | [],s,_,_,_=>by simp
 | x :: xs,s,h,h1,h2=>by
   have hx:=h x (by simp)
   have e:m * ((x :: xs).length:Int)=m * xs.length+m:=by simp [Int.mul_add]
   rw [e] at h1 h2 ⊢;have hp:0≤m * (xs.length:Int):=Int.mul_nonneg hm (by omega)
   obtain ⟨i1,i2,i3⟩:=xz m hm xs (s+x) (fun y hy=>h y (by simp [hy])) (by omega) (by omega)
   rw [List.foldl_cons,IntWalk.wrap64_in (s+x) (by omega),i1,List.sum_cons]
   exact ⟨by omega,by omega,by omega⟩
theorem CN (xs:List Int) (m:Int) (hm:0≤m) (h:∀ x∈xs,-m≤x∧x≤m) (hl:m * xs.length≤9223372036854775807):lq xs=xs.sum∧-(m * xs.length)≤xs.sum∧xs.sum≤m * xs.length:=by
 have:=xz m hm xs 0 h (by omega) (by omega)
 rw [Int.zero_add] at this;exact this
theorem vx {xs:List Int} {k:Nat} {x lo hi:Int} (hx:xs[k]? = some x):gm (xs.take (k+1)) lo hi=(gm (xs.take k) lo hi && eu x lo hi):=by
 rw [List.take_add_one,hx];simp [gm]
theorem tI {xs:List Int} {k:Nat} {x lo hi:Int} (hx:xs[k]? = some x) (h:eu x lo hi=false):gm xs lo hi=false:=by
 rw [← Bool.not_eq_true];intro ha;have:=List.all_eq_true.1 ha x (List.mem_of_getElem? hx);rw [h] at this;cases this
theorem HZ {xs:List Int} {k:Nat} {x:Int} (hx:xs[k]? = some x):lq (xs.take (k+1))=wrap64 (lq (xs.take k)+x):=by
 rw [List.take_add_one,hx];exact Hw _ _
theorem aU:(Tryz.prog.info? 2).map (fun i=>(i.zero,i.size,i.bytes))=some (some (.int .i64 0),1,8):=by kernel_rfl
theorem du (n lo hi:Int) (w:World) :
 Calls Tryz.prog 74 #[.int .i64 n,.int .i64 lo,.int .i64 hi] w fun e w'=>e=.returned (.bool (eu n lo hi))∧w=w':=by
 by_cases h:lo≤n
 · have H:Hid (eu n lo hi=decide (n≤hi)):=by simp [Hid,eu,h]
   go_enter Tryz.func74,Tryz.ntmps74
   go_wp2
   go_ret;exact ⟨av H.out.symm,rfl⟩
 · have H:Hid (eu n lo hi=false):=by simp [Hid,eu,h]
   go_enter Tryz.func74,Tryz.ntmps74
   go_wp2
   go_ret;exact ⟨av H.out.symm,rfl⟩
theorem yo (w:World) (a:Option Addr) (c:Nat) (xs:List Int) (lo hi:Int) (h:Rd w w.heap.size a (ae xs)) (hl:xs.length≤1152921504606846976) :
 Calls Tryz.prog 104 #[.slice a xs.length c,.int .i64 lo,.int .i64 hi] w fun e w'=>e=.returned (.bool (gm xs lo hi))∧w=w':=by
 go_enter Tryz.func104,Tryz.ntmps104
 go_wp2
 go_loop [11] (fun i=>∃ k:Nat,k≤xs.length∧i=.int .i64 k∧gm (xs.take k) lo hi=true) (fun i=>xs.length - (intOf i).toNat)
 case atStart=>exact ⟨0,Nat.zero_le _,rfl,rfl⟩
 case round =>
  obtain ⟨k,hk,rfl,ha'⟩:=hrel;have ha:=Na ha';clear ha'
  by_cases hlt:k<xs.length
  · obtain ⟨b,o,x,rfl,hbb,hck,hx⟩:=h.get hlt
    clear h
    cases hin:eu x lo hi with
    | true =>
      go_wp2_with (go_at_call 74;refine (du _ _ _ _).mono ?_;rintro e w' ⟨rfl,rfl⟩)
      go_round
      case rel=>exact ⟨k+1,by omega,by go_num,by rw [vx hx.out,ha.out,hin];rfl⟩
      case measure=>simp [intOf];omega
    | false =>
      go_wp2_with (go_at_call 74;refine (du _ _ _ _).mono ?_;rintro e w' ⟨rfl,rfl⟩)
      go_ret;exact ⟨av (tI hx.out hin).symm,rfl⟩
  · have:k=xs.length:=by omega
    subst this
    go_wp2
    go_ret;exact ⟨av (by rw [← ha.out,List.take_length]),rfl⟩
theorem hH (w:World) (a:Option Addr) (c:Nat) (xs:List Int) (few many lo hi:Int) (h:Rd w w.heap.size a (ae xs)) (hl:xs.length≤1152921504606846976) :
 Calls Tryz.prog 75 #[.slice a xs.length c,.int .i64 few,.int .i64 many,.int .i64 lo,.int .i64 hi] w fun e w'=>e=.returned (.bool (cH xs few many lo hi))∧w=w':=by
 cases hin:eu xs.length few many with
 | true =>
   have H:Hid (cH xs few many lo hi=gm xs lo hi):=by simp [Hid,cH,hin]
   go_enter Tryz.func75,Tryz.ntmps75
   go_wp2_with (first | (go_at_call 74;refine (du _ _ _ _).mono ?_;rintro e w' ⟨rfl,rfl⟩) | (go_at_call 104;refine (yo _ _ _ xs _ _ h hl).mono ?_;rintro e w' ⟨rfl,rfl⟩))
   go_ret;exact ⟨av H.out.symm,rfl⟩
 | false =>
   have H:Hid (cH xs few many lo hi=false):=by simp [Hid,cH,hin]
   go_enter Tryz.func75,Tryz.ntmps75
   go_wp2_with (go_at_call 74;refine (du _ _ _ _).mono ?_;rintro e w' ⟨rfl,rfl⟩)
   go_ret;exact ⟨av H.out.symm,rfl⟩
theorem xK (w:World) (a:Option Addr) (c:Nat) (xs:List Int) (h:Rd w w.heap.size a (ae xs)) (hl:xs.length≤1152921504606846976) :
 Calls Tryz.prog 197 #[.slice a xs.length c] w fun e w'=>e=.returned (.int .i64 (lq xs))∧w=w':=by
 go_enter Tryz.func197,Tryz.ntmps197
 go_wp2
 go_loop [3,8] (fun s i=>∃ k:Nat,k≤xs.length∧i=.int .i64 k∧s=.int .i64 (lq (xs.take k))) (fun _ i=>xs.length - (intOf i).toNat)
 case atStart=>exact ⟨0,Nat.zero_le _,rfl,rfl⟩
 case round =>
  obtain ⟨k,hk,rfl,rfl⟩:=hrel
  by_cases hlt:k<xs.length
  · obtain ⟨b,o,x,rfl,hbb,hck,hx⟩:=h.get hlt
    clear h
    go_wp2
    go_round
    case rel=>exact ⟨k+1,by omega,by go_num,by rw [HZ hx.out]⟩
    case measure=>simp [intOf];omega
  · have:k=xs.length:=by omega
    subst this
    go_wp2
    go_ret;exact ⟨ce (by first | rfl | rw [List.take_length]),rfl⟩
def eD (n:Nat):List Int:=(List.range n).map fun (j:Nat)=>(j:Int)
theorem bE (n:Nat):(eD n).length=n:=by simp [eD]
theorem GH (n:Nat):eD (n+1)=eD n ++ [(n:Int)]:=by simp [eD,List.range_succ]
theorem nM {n j:Nat} (h:j<n):(eD n)[j]? = some (j:Int):=by simp [eD,h]
theorem gc (w:World) (n:Nat) (hn:n≤1048576) :
 Calls Tryz.prog 168 #[.int .i64 n] w fun e w'=>∃ a c,e=.returned (.slice a n c)∧w'.ownsRow w.heap.size 2 1 (.slice a n c) n (ae (eD n))∧Below w.heap.size w w':=by
 go_enter Tryz.func168,Tryz.ntmps168
 go_wp2
 go_loopw [3,7] (fun v i wr=>∃ k:Nat,k≤n∧i=.int .i64 k∧wr.ownsRow w.heap.size 2 1 v k (ae (eD k))∧Below w.heap.size w wr) (fun _ i _=>n - (intOf i).toNat)
 case atStart=>exact ⟨0,Nat.zero_le _,rfl,bD w _,ah w _⟩
 case round =>
  obtain ⟨k,hk,rfl,hown,hw⟩:=hrel
  by_cases hlt:k<n
  · go_wp2_with (at_builtin;refine aH _ rfl _ _ 24 rfl w.heap.size 2 (.int .i64 0) 8 Tryz.underlying24 aU rfl _ k _ rfl hown (.int .i64 k) rfl rfl (by omega) (by omega) hw.size ?_)
    intro v' w1 ho hgr;have hb:=ai hw hown hgr (Nat.le_refl _) hw.size;rw [show ae (eD k) ++ [Value.int .i64 k]=ae (eD (k+1)) from by rw [GH,bh];rfl] at ho
    clear hown hw
    go_wp2
    go_roundw
    case rel=>exact ⟨k+1,by omega,by go_num,ho,hb⟩
    case measure=>simp [intOf];omega
  · have:k=n:=by omega
    subst this;obtain ⟨a,c,rfl,_,_⟩:=bj hown
    go_wp2
    go_ret;exact ⟨a,c,rfl,hown,hw⟩
end Go.Proofs.YtbknhgapjjaelaaGreatDoor
