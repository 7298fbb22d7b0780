/-
  Part 1 of what the proof stands on: lemmas and contracts, each with its conditions ahead of the colon.
-/
import Derived.WalkKit
import Derived.WalkSpells
import Derived.WalkLawsBesides
import Derived.Deep.QuietTactic
import Derived.BigQuiet
import Derived.Deep.RegionWith
import Derived.Lib.Hide
import Derived.Test.YtbknhgapjjaelaaGreatDoorRows
import Derived.Lib.Split
import Derived.Lib.CountLaws
import Derived.Lib.SplitLaws
import Derived.Outline
set_option maxHeartbeats 1000000
namespace Go.Proofs.YtbknhgapjjaelaaGreatDoor
set_option linter.unusedVariables false
set_option linter.unusedSimpArgs false
open Go.RowKit
theorem Oi {p:Prop} (h:p):Hid p:=Lib.hid h
def ae (xs:List Int):List Value:=xs.map (Value.int .i64)
@[simp] theorem ints_length (xs:List Int):(ae xs).length=xs.length:=by simp [ae]
@[simp] theorem ints_nil:ae []=[]:=rfl
theorem eJ (xs:List Int) (k:Nat) (hk:k<xs.length):(ae xs)[k]? = some (.int .i64 (xs.getD k 0)):=by
 simp [ae,List.getD,List.getElem?_eq_getElem hk]
theorem bk (xs ys:List Int):ae (xs ++ ys)=ae xs ++ ae ys:=by simp [ae]
theorem oE (xs:List Int) (k:Nat) (x:Int):ae (xs.set k x)=(ae xs).set k (.int .i64 x):=by simp [ae,List.map_set]
theorem co {xs:List Int} {k:Nat} {x:Int} (h:xs[k]? = some x):xs.getD k 0=x:=by simp [List.getD,h]
theorem rD {xs:List Int} {k:Nat} (h:k<xs.length):xs[k]? = some (xs.getD k 0):=by simp [List.getD,List.getElem?_eq_getElem h]
def Rd (w:World) (B:Nat) (a:Option Addr) (vs:List Value):Prop :=
 vs=[]∨∃ b o,a=some ⟨b,o,none⟩∧b<B∧∀ j,j<vs.length→w.cell? ⟨b,o+j,none⟩=vs[j]?
theorem Rd.mono {w:World} {B B':Nat} {a:Option Addr} {vs:List Value} (h:Rd w B a vs) (hB:B≤B'):Rd w B' a vs:=by
 rcases h with h | ⟨b,o,ha,hb,hc⟩
 · exact .inl h
 · exact .inr ⟨b,o,ha,by omega,hc⟩
theorem Rd.below {w w':World} {B C:Nat} {a:Option Addr} {vs:List Value} (h:Rd w B a vs) (hb:Below C w w') (hB:B≤C):Rd w' B a vs:=by
 rcases h with h | ⟨b,o,ha,hb',hc⟩
 · exact .inl h
 · exact .inr ⟨b,o,ha,hb',fun j hj=>by rw [hb.cell (p:=⟨b,o+j,none⟩) (by show b<C;omega)];exact hc j hj⟩
theorem Rd.at {w:World} {B:Nat} {a:Option Addr} {xs:List Int} (h:Rd w B a (ae xs)) {k:Nat} (hk:k<xs.length) :
 ∃ b o,a=some ⟨b,o,none⟩∧b<B∧∀ j,j<xs.length→w.cell? ⟨b,o+j,none⟩=some (.int .i64 (xs.getD j 0)):=by
 rcases h with h | ⟨b,o,ha,hb,hc⟩
 · have:(ae xs).length=0:=by rw [h];rfl
   simp at this;subst this;simp at hk
 · exact ⟨b,o,ha,hb,fun j hj=>by rw [hc j (by simpa using hj)];exact eJ xs j hj⟩
theorem Rd.get {w:World} {B:Nat} {a:Option Addr} {xs:List Int} (h:Rd w B a (ae xs)) {k:Nat} (hk:k<xs.length) :
 ∃ b o x,a=some ⟨b,o,none⟩∧b<B∧w.cell? ⟨b,o+k,none⟩=some (.int .i64 x)∧Hid (xs[k]? = some x):=by
 obtain ⟨b,o,ha,hb,hc⟩:=h.at hk;exact ⟨b,o,xs.getD k 0,ha,hb,hc k hk,by simp [Hid,List.getD,List.getElem?_eq_getElem hk]⟩
theorem Rd.nil (w:World) (B:Nat) (a:Option Addr):Rd w B a []:=.inl rfl
def Blk (w:World) (b:Nat) (cs:List Value) (t:TypeId):Prop:=w.heap[b]? = some (.cells cs.toArray t (0,0))
section
variable {w:World} {b:Nat} {cs:List Value} {t:TypeId}
theorem Blk.cell (h:Blk w b cs t) (j:Nat):w.cell? ⟨b,j,none⟩=cs[j]?:=by simp [World.cell?,show w.heap[b]? = _ from h]
theorem Blk.free (h:Blk w b cs t) (j:Nat):w.frozen? ⟨b,j,none⟩=false:=by simp [World.frozen?,show w.heap[b]? = _ from h]
theorem Blk.lt (h:Blk w b cs t):b<w.heap.size:=lt_of_block h
theorem Blk.set (h:Blk w b cs t) (j:Nat) (u:Value):Blk (w.setCell ⟨b,j,none⟩ u) b (cs.set j u) t:=by
 have:=heap_setCell_same w b j cs.toArray t u h;rwa [List.setIfInBounds_toArray] at this
theorem Blk.other (h:Blk w b cs t) {p:Addr} (hp:b≠p.block) (u:Value):Blk (w.setCell p u) b cs t:=(Below.heap_setCell w p u b hp).trans h
theorem Blk.oth (h:Blk w b cs t) {g:Nat} (hne:b≠g) (j:Nat) (u:Value):Blk (w.setCell ⟨g,j,none⟩ u) b cs t:=h.other (p:=⟨g,j,none⟩) hne u
theorem Blk.alloc (h:Blk w b cs t) (o:Obj):Blk (w.alloc o) b cs t:=(Below.heap_alloc w o b h.lt).trans h
theorem Blk.below {w':World} {B:Nat} (h:Blk w b cs t) (hb:Below B w w') (hB:b<B):Blk w' b cs t:=(hb.block b hB).trans h
theorem Blk.same {w':World} (h:Blk w b cs t) (hb:Below w.heap.size w w'):Blk w' b cs t:=h.below hb h.lt
theorem Blk.grown {w':World} {row:Option Nat} (h:Blk w b cs t) (hg:w.grownBy w' row) (hr:some b≠row):Blk w' b cs t:=(hg.block b h.lt hr).trans h
theorem Blk.drewN (h:Blk w b cs t) (n:Nat):Blk (w.drewN n) b cs t:=h
theorem Blk.new (w:World) (cs:List Value) (t:TypeId):Blk (w.alloc (.cells cs.toArray t)) w.heap.size cs t:=heap_alloc_new w _
theorem Blk.rd (h:Blk w b cs t) {B:Nat} (hB:b<B):Rd w B (some ⟨b,0,none⟩) cs :=
 .inr ⟨b,0,rfl,hB,fun j _=>by rw [Nat.zero_add,h.cell]⟩
theorem Blk.at {xs:List Int} (h:Blk w b (ae xs) t) {k:Nat} (hk:k<xs.length):w.cell? ⟨b,k,none⟩=some (.int .i64 (xs.getD k 0)):=by
 rw [h.cell];exact eJ xs k hk
theorem Blk.setI {xs:List Int} (h:Blk w b (ae xs) t) (j:Nat) (x:Int):Blk (w.setCell ⟨b,j,none⟩ (.int .i64 x)) b (ae (xs.set j x)) t:=by
 rw [oE];exact h.set j _
theorem Blk.owns (h:Blk w b cs t) {base:Nat} (hb:base≤b) (hm:cs.length≤maxLen):w.ownsRow base t 1 (.slice (some ⟨b,0,none⟩) cs.length cs.length) cs.length cs :=
 ⟨by simp,.inr ⟨b,cs.length,cs.toArray,rfl,hb,h,Nat.le_refl _,hm,by simp,List.take_of_length_le (by simp)⟩⟩
end
theorem ay {w:World} {base e:Nat} {a:Option Addr} {n c m:Nat} {xs:List Value} (h:w.ownsRow base e 1 (.slice a n c) m xs) {B:Nat} (hB:w.heap.size≤B):Rd w B a xs:=by
 obtain ⟨h1,h2⟩:=h
 rcases h2 with ⟨h2,h3⟩ | ⟨g,cap,cur,hv,hg,hh,hn,hm,hs,ht⟩
 · exact .inl (List.eq_nil_of_length_eq_zero (by omega))
 · injection hv with ha _ _
   refine .inr ⟨g,0,ha,Nat.lt_of_lt_of_le (lt_of_block hh) hB,fun j hj=>?_⟩
   have hb:Blk w g cur.toList e:=hh;rw [Nat.zero_add,hb.cell,← ht,List.getElem?_take,if_pos (by rw [h1] at hj;exact hj)]
theorem ba {w:World} {base e:Nat} {v:Value} {n:Nat} {xs:List Value} (h:w.ownsRow base e 1 v n xs):∃ a c,v=.slice a n c∧n≤c∧(a=none→n=0):=by
 rcases h.2 with ⟨h2,h3⟩ | ⟨g,cap,cur,hv,hg,hh,hn,hm,hs,ht⟩
 · exact ⟨none,0,by rw [h2,h3],by omega,fun _=>h3⟩
 · exact ⟨_,cap,hv,hn,fun h=>by cases h⟩
theorem aP {w w':World} {base e g:Nat} {v:Value} {n:Nat} {xs:List Value} (h:w.ownsRow base e 1 v n xs) (hg:w.grownBy w' (some g)) (hne:g<base):w'.ownsRow base e 1 v n xs:=by
 refine h.kept hg (.inr fun e=>?_)
 have:=h.lt g e;omega
theorem Rd.grown {w w':World} {g B:Nat} {a:Option Addr} {vs:List Value} (h:Rd w B a vs) (hg:w.grownBy w' (some g)) (hB:B≤g) (hB2:B≤w.heap.size):Rd w' B a vs:=by
 rcases h with h | ⟨b,o,ha,hb,hc⟩
 · exact .inl h
 · exact .inr ⟨b,o,ha,hb,fun j hj=>by rw [World.cell?_of_block (w:=w) (hg.block b (by omega) (by intro e;injection e;omega))];exact hc j hj⟩
theorem aD {w w':World} {base e size:Nat} {v:Value} {n:Nat} {xs:List Value} (h:w.ownsRow base e size v n xs) (hb:Below w.heap.size w w'):w'.ownsRow base e size v n xs :=
 h.kept (row:=none) ⟨hb.os,hb.tape,hb.output,hb.size,fun k hk _=>hb.block k hk⟩ (by cases v.ownBlock <;> simp)
theorem bS {w:World} {base base' e size:Nat} {v:Value} {n:Nat} {xs:List Value} (h:w.ownsRow base e size v n xs) (hb:base'≤base):w.ownsRow base' e size v n xs:=by
 refine ⟨h.1,?_⟩
 rcases h.2 with h | ⟨g,cap,cur,hv,hg,r⟩
 · exact .inl h
 · exact .inr ⟨g,cap,cur,hv,by omega,r⟩
theorem ic {P:Program} (w:World) {ops:Array Oper} {rest:List Oper} {o:Oper} {a:Act} {Q:Exit→Act→World→Prop}
 (hg:o.guard=none) (l c:Operand) (t:TypeId) (hop:o.op=Op.makeSlice t l c)
 (e:TypeId) (z:Value) (bytes:Nat) (h1:P.underlying t=some (.slice e)) (hinfo:(P.info? e).map (fun i=>(i.zero,i.size,i.bytes))=some (some z,1,bytes)) (hz:z.cells = #[z])
 (kl kc:IntKind) (n:Nat) (hl:a.eval l=.int kl (n:Int)) (hc:a.eval c=.int kc (n:Int)) (b2:bytes * n≤281474976710656) (b3:n≤maxLen)
 (hK:∀ w',Blk w' w.heap.size (List.replicate n z) e→Below w.heap.size w w'→w'.heap.size=w.heap.size+1→wpList P ops Q rest (a.put o.dst (.slice (some ⟨w.heap.size,0,none⟩) n n)) w') :
 wpList P ops Q (o :: rest) a w:=by
 obtain ⟨i,h2,h3,h4,h5⟩:=info_parts hinfo;refine wpList_plain hg fun K hK'=>?_
 have b2':(i.bytes:Int) * (n:Int)≤281474976710656:=by
  rw [h5];have:((bytes * n:Nat):Int)≤281474976710656:=by omega
  rwa [Int.natCast_mul] at this
 have hr:=run_make (P:=P) w t e i z h1 h2 h3 kl kc n n (by omega) (Int.le_refl _) b2' (by unfold maxLen at b3;omega)
 simp only [Int.toNat_natCast,hz,h4,Nat.mul_one] at hr;have e1:madeCells #[z] n=(List.replicate n z).toArray:=by rw [← toList_madeCells_one z n]
 rw [e1] at hr;unfold Oper.wp;simp [execOp,hop,hl,hc,hr,Result.andThen]
 exact hK' _ _ (by simpa using hK _ (Blk.new w _ e) ((Below.refl _ w).alloc (Nat.le_refl _) _) (by simp))
theorem aH {P:Program} (wr:World) {ops:Array Oper} {rest:List Oper} {o:Oper} {a:Act} {Q:Exit→Act→World→Prop}
 (hg:o.guard=none) (s x:Operand) (t:TypeId) (hop:o.op=Op.call { callee:=Callee.builtin Builtin.append,args:=#[s,x],argTypes:=#[t,t] })
 (base:Nat) (e:TypeId) (z:Value) (bytes:Nat) (h1:P.underlying t=some (.slice e)) (hinfo:(P.info? e).map (fun i=>(i.zero,i.size,i.bytes))=some (some z,1,bytes)) (hz:z.cells.size=1)
 (v:Value) (n:Nat) (xs:List Value) (hs:a.eval s=v) (hown:wr.ownsRow base e 1 v n xs) (y:Value) (hy:y.oneCell'=true)
 (hx:a.eval x=.slice (some ⟨wr.heap.size,0,none⟩) 1 1) (hb:bytes≤64) (hn:n≤1099511627776) (hbase:base≤wr.heap.size)
 (hK:∀ v' w',w'.ownsRow base e 1 v' (n+1) (xs ++ [y])→wr.grownBy w' v.ownBlock→wpList P ops Q rest (a.put o.dst v') w') :
 wpList P ops Q (o :: rest) a (wr.alloc (.cells #[y] e)):=by
 obtain ⟨i,h2,h3,h4,h5⟩:=info_parts hinfo;have hbb:(n+1) * bytes≤140737488355328:=Nat.le_trans (Nat.mul_le_mul_left (n+1) hb) (by omega)
 refine wpList_append_own (wr.alloc (.cells #[y] e)) hg s x t hop base e i z 1 bytes h1 h2 h3 h4 h5 hz (by omega) v n xs hs (hown.alloc _) ⟨wr.heap.size,0,none⟩ 1 1 [y] hx rfl ?_ ?_ (by unfold maxLen;omega) hbb (by simp;omega) ?_
 · intro j u hj
   match j,hj with
   | 0,hj =>
     simp at hj
     subst hj;simp [Addr.add]
   | j+1,hj=>simp at hj
 · intro u hu
   simp at hu
   subst hu;exact hy
 · intro v' w' ho hgr _
   refine hK v' w' ho ⟨hgr.os,hgr.tape,hgr.output,?_,fun k hk hne=>?_⟩
   · have:=hgr.size;simp at this;omega
   · rw [hgr.block k (by simp;omega) hne]
     exact Below.heap_alloc _ _ _ hk
theorem bz (w:World) (e:Nat):(w.alloc (.cells #[] e)).ownsRow w.heap.size e 1 (.slice (some ⟨w.heap.size,0,none⟩) 0 0) 0 [] :=
 World.ownsRow_made w #[] 0 (Nat.le_refl _) (Nat.zero_le _) rfl
theorem ah {w wr w':World} {B base e:Nat} {v:Value} {n:Nat} {xs:List Value} (h:Below B w wr) (ho:wr.ownsRow base e 1 v n xs) (hg:wr.grownBy w' v.ownBlock) (hB:B≤base) (hB2:B≤wr.heap.size):Below B w w' :=
 h.grown hg hB2 fun k hk=>Nat.le_trans hB (ho.lt k hk).1
theorem gd (n:Nat) (x:Int):List.replicate n (Value.int .i64 x)=ae (List.replicate n x):=by simp [ae]
theorem tY {P:Program} {f:FuncId} {args:Array Value} {w:World} {n:Nat} {v:Value} (h:Calls P f args (w.drewN n) fun e w'=>e=.returned v∧w.drewN n=w') :
 Calls P f args (w.drewN n) fun e w''=>e=.returned v∧∃ k,w''=w.drewN k:=h.mono fun _ _ h=>⟨h.1,n,h.2.symm⟩
theorem mc (w:World) (n:Nat):Below w.heap.size w (w.drewN n):=⟨rfl,rfl,rfl,Nat.le_refl _,fun _ _=>rfl⟩
theorem gc {w w1 w2:World} {r:Option Nat} (h:w.grownBy w1 r) (h2:w1.grownBy w2 r):w.grownBy w2 r :=
 ⟨h2.os.trans h.os,h2.tape.trans h.tape,h2.output.trans h.output,Nat.le_trans h.size h2.size,fun i hi hne=>(h2.block i (Nat.lt_of_lt_of_le hi h.size) hne).trans (h.block i hi hne)⟩
theorem bY {k:IntKind} {a b:Int} (h:a=b):Ending.returned (.int k a)=.returned (.int k b):=by rw [h]
theorem ar {a b:Bool} (h:a=b):Ending.returned (.bool a)=.returned (.bool b):=by rw [h]
theorem Ca {α:Type} {xs ys:List α} {k:Nat} {x y:α} (hx:xs[k]? = some x) (hy:ys[k]? = some y) (h:xs.take k=ys.take k):xs.take (k+1)=ys.take (k+1) ↔ x=y:=by
 rw [List.take_add_one,List.take_add_one,hx,hy,h];simp
theorem Io {α:Type} {xs ys:List α} {k:Nat} {x y:α} (hx:xs[k]? = some x) (hy:ys[k]? = some y) (h:x≠y):xs≠ys:=by
 intro e;subst e;rw [hx] at hy;exact h (by injection hy)
theorem Rd.to {w w':World} {a:Option Addr} {vs:List Value} (h:Rd w w.heap.size a vs) (hb:Below w.heap.size w w'):Rd w' w'.heap.size a vs :=
 (h.below hb (Nat.le_refl _)).mono hb.size
theorem aw {B:Nat} {a w:World} (h:Below B a w) {g:Nat} (hB:B≤g) (j:Nat) (u:Value):Below B a (w.setCell ⟨g,j,none⟩ u):=h.setCell (p:=⟨g,j,none⟩) hB u
theorem aq {B:Nat} {w w':World} (h:Below B w w'):Below B w w'.drew:=h.drew
theorem ai (w:World) (o:Obj):Below w.heap.size w (w.alloc o):=(Below.refl _ w).alloc (Nat.le_refl _) o
theorem cd (w:World) (o p:Obj):Below w.heap.size w ((w.alloc o).alloc p):=(ai w o).alloc (by simp) p
theorem tD (w:World) (o p q:Obj):Below w.heap.size w (((w.alloc o).alloc p).alloc q):=(cd w o p).alloc (by simp;omega) q
theorem aa {w w1 w2:World} (h:Below w.heap.size w w1) (h2:Below w1.heap.size w1 w2):Below w.heap.size w w2:=h.trans (h2.mono h.size)
theorem ag {B:Nat} {w w':World} (h:Below B w w') (n:Nat):Below B w (w'.drewN n):=⟨h.os,h.tape,h.output,h.size,h.block⟩
def eG (n lo hi:Int):Bool:=decide (lo≤n) && decide (n≤hi)
theorem cx {n lo hi:Int}:eG n lo hi=true ↔ lo≤n∧n≤hi:=by simp [eG]
def gv (xs:List Int) (lo hi:Int):Bool:=xs.all fun x=>eG x lo hi
theorem fi {xs:List Int} {lo hi:Int}:gv xs lo hi=true ↔ ∀ x∈xs,lo≤x∧x≤hi:=by simp [gv,cx]
def cU (xs:List Int) (few many lo hi:Int):Bool:=eG xs.length few many && gv xs lo hi
theorem mD {xs:List Int} {few many lo hi:Int}:cU xs few many lo hi=true ↔ (few≤xs.length∧(xs.length:Int)≤many)∧∀ x∈xs,lo≤x∧x≤hi:=by
 simp [cU,cx,fi]
def lZ (xs:List Int):Int:=xs.foldl (fun s x=>wrap64 (s+x)) 0
theorem JC (xs:List Int) (x:Int):lZ (xs ++ [x])=wrap64 (lZ xs+x):=by simp [lZ]
theorem yL (m:Int) (hm:0≤m):∀ (xs:List Int) (s:Int),(∀ x∈xs,-m≤x∧x≤m)→-9223372036854775807≤s - m * xs.length→s+m * xs.length≤9223372036854775807 →
 xs.foldl (fun s x=>wrap64 (s+x)) s=s+xs.sum∧-(m * xs.length)≤xs.sum∧xs.sum≤m * xs.length
 | [],s,_,_,_=>by simp
 | x :: xs,s,h,h1,h2=>by
   have hx:=h x (by simp)
   have e:m * ((x :: xs).length:Int)=m * xs.length+m:=by simp [Int.mul_add]
   rw [e] at h1 h2 ⊢;have hp:0≤m * (xs.length:Int):=Int.mul_nonneg hm (by omega)
   obtain ⟨i1,i2,i3⟩:=yL m hm xs (s+x) (fun y hy=>h y (by simp [hy])) (by omega) (by omega)
   rw [List.foldl_cons,IntWalk.wrap64_in (s+x) (by omega),i1,List.sum_cons]
   exact ⟨by omega,by omega,by omega⟩
theorem Er (xs:List Int) (m:Int) (hm:0≤m) (h:∀ x∈xs,-m≤x∧x≤m) (hl:m * xs.length≤9223372036854775807):lZ xs=xs.sum∧-(m * xs.length)≤xs.sum∧xs.sum≤m * xs.length:=by
 have:=yL m hm xs 0 h (by omega) (by omega)
 rw [Int.zero_add] at this;exact this
theorem uJ {xs:List Int} {k:Nat} {x lo hi:Int} (hx:xs[k]? = some x):gv (xs.take (k+1)) lo hi=(gv (xs.take k) lo hi && eG x lo hi):=by
 rw [List.take_add_one,hx];simp [gv]
theorem tA {xs:List Int} {k:Nat} {x lo hi:Int} (hx:xs[k]? = some x) (h:eG x lo hi=false):gv xs lo hi=false:=by
 rw [← Bool.not_eq_true];intro ha;have:=List.all_eq_true.1 ha x (List.mem_of_getElem? hx);rw [h] at this;cases this
theorem JD {xs:List Int} {k:Nat} {x:Int} (hx:xs[k]? = some x):lZ (xs.take (k+1))=wrap64 (lZ (xs.take k)+x):=by
 rw [List.take_add_one,hx];exact JC _ _
theorem aZ:(Tryz.prog.info? 2).map (fun i=>(i.zero,i.size,i.bytes))=some (some (.int .i64 0),1,8):=by kernel_rfl
theorem dm (n lo hi:Int) (w:World) :
 Calls Tryz.prog 74 #[.int .i64 n,.int .i64 lo,.int .i64 hi] w fun e w'=>e=.returned (.bool (eG n lo hi))∧w=w':=by
 by_cases h:lo≤n
 · have H:Hid (eG n lo hi=decide (n≤hi)):=by simp [Hid,eG,h]
   go_enter Tryz.func74,Tryz.ntmps74
   go_wp2
   go_ret;exact ⟨ar H.out.symm,rfl⟩
 · have H:Hid (eG n lo hi=false):=by simp [Hid,eG,h]
   go_enter Tryz.func74,Tryz.ntmps74
   go_wp2
   go_ret;exact ⟨ar H.out.symm,rfl⟩
theorem yP (w:World) (a:Option Addr) (c:Nat) (xs:List Int) (lo hi:Int) (h:Rd w w.heap.size a (ae xs)) (hl:xs.length≤1152921504606846976) :
 Calls Tryz.prog 104 #[.slice a xs.length c,.int .i64 lo,.int .i64 hi] w fun e w'=>e=.returned (.bool (gv xs lo hi))∧w=w':=by
 go_enter Tryz.func104,Tryz.ntmps104
 go_wp2
 go_loop [11] (fun i=>∃ k:Nat,k≤xs.length∧i=.int .i64 k∧gv (xs.take k) lo hi=true) (fun i=>xs.length - (intOf i).toNat)
 case atStart=>exact ⟨0,Nat.zero_le _,rfl,rfl⟩
 case round =>
  obtain ⟨k,hk,rfl,ha'⟩:=hrel;have ha:=Oi ha';clear ha'
  by_cases hlt:k<xs.length
  · obtain ⟨b,o,x,rfl,hbb,hck,hx⟩:=h.get hlt
    clear h
    cases hin:eG x lo hi with
    | true =>
      go_wp2_with (go_at_call 74;refine (dm _ _ _ _).mono ?_;rintro e w' ⟨rfl,rfl⟩)
      go_round
      case rel=>exact ⟨k+1,by omega,by go_num,by rw [uJ hx.out,ha.out,hin];rfl⟩
      case measure=>simp [intOf];omega
    | false =>
      go_wp2_with (go_at_call 74;refine (dm _ _ _ _).mono ?_;rintro e w' ⟨rfl,rfl⟩)
      go_ret;exact ⟨ar (tA hx.out hin).symm,rfl⟩
  · have:k=xs.length:=by omega
    subst this
    go_wp2
    go_ret;exact ⟨ar (by rw [← ha.out,List.take_length]),rfl⟩
theorem ie (w:World) (a:Option Addr) (c:Nat) (xs:List Int) (few many lo hi:Int) (h:Rd w w.heap.size a (ae xs)) (hl:xs.length≤1152921504606846976) :
 Calls Tryz.prog 75 #[.slice a xs.length c,.int .i64 few,.int .i64 many,.int .i64 lo,.int .i64 hi] w fun e w'=>e=.returned (.bool (cU xs few many lo hi))∧w=w':=by
 cases hin:eG xs.length few many with
 | true =>
   have H:Hid (cU xs few many lo hi=gv xs lo hi):=by simp [Hid,cU,hin]
   go_enter Tryz.func75,Tryz.ntmps75
   go_wp2_with (first | (go_at_call 74;refine (dm _ _ _ _).mono ?_;rintro e w' ⟨rfl,rfl⟩) | (go_at_call 104;refine (yP _ _ _ xs _ _ h hl).mono ?_;rintro e w' ⟨rfl,rfl⟩))
   go_ret;exact ⟨ar H.out.symm,rfl⟩
 | false =>
   have H:Hid (cU xs few many lo hi=false):=by simp [Hid,cU,hin]
   go_enter Tryz.func75,Tryz.ntmps75
   go_wp2_with (go_at_call 74;refine (dm _ _ _ _).mono ?_;rintro e w' ⟨rfl,rfl⟩)
   go_ret;exact ⟨ar H.out.symm,rfl⟩
theorem yw (w:World) (a:Option Addr) (c:Nat) (xs:List Int) (h:Rd w w.heap.size a (ae xs)) (hl:xs.length≤1152921504606846976) :
 Calls Tryz.prog 197 #[.slice a xs.length c] w fun e w'=>e=.returned (.int .i64 (lZ xs))∧w=w':=by
 go_enter Tryz.func197,Tryz.ntmps197
 go_wp2
 go_loop [3,8] (fun s i=>∃ k:Nat,k≤xs.length∧i=.int .i64 k∧s=.int .i64 (lZ (xs.take k))) (fun _ i=>xs.length - (intOf i).toNat)
 case atStart=>exact ⟨0,Nat.zero_le _,rfl,rfl⟩
 case round =>
  obtain ⟨k,hk,rfl,rfl⟩:=hrel
  by_cases hlt:k<xs.length
  · obtain ⟨b,o,x,rfl,hbb,hck,hx⟩:=h.get hlt
    clear h
    go_wp2
    go_round
    case rel=>exact ⟨k+1,by omega,by go_num,by rw [JD hx.out]⟩
    case measure=>simp [intOf];omega
  · have:k=xs.length:=by omega
    subst this
    go_wp2
    go_ret;exact ⟨bY (by first | rfl | rw [List.take_length]),rfl⟩
def eL (n:Nat):List Int:=(List.range n).map fun (j:Nat)=>(j:Int)
theorem bG (n:Nat):(eL n).length=n:=by simp [eL]
theorem Jo (n:Nat):eL (n+1)=eL n ++ [(n:Int)]:=by simp [eL,List.range_succ]
theorem oP {n j:Nat} (h:j<n):(eL n)[j]? = some (j:Int):=by simp [eL,h]
theorem gi (w:World) (n:Nat) (hn:n≤1048576) :
 Calls Tryz.prog 168 #[.int .i64 n] w fun e w'=>∃ a c,e=.returned (.slice a n c)∧w'.ownsRow w.heap.size 2 1 (.slice a n c) n (ae (eL n))∧Below w.heap.size w w':=by
 go_enter Tryz.func168,Tryz.ntmps168
 go_wp2
 go_loopw [3,7] (fun v i wr=>∃ k:Nat,k≤n∧i=.int .i64 k∧wr.ownsRow w.heap.size 2 1 v k (ae (eL k))∧Below w.heap.size w wr) (fun _ i _=>n - (intOf i).toNat)
 case atStart=>exact ⟨0,Nat.zero_le _,rfl,bz w _,ai w _⟩
 case round =>
  obtain ⟨k,hk,rfl,hown,hw⟩:=hrel
  by_cases hlt:k<n
  · go_wp2_with (at_builtin;refine aH _ rfl _ _ 24 rfl w.heap.size 2 (.int .i64 0) 8 Tryz.underlying24 aZ rfl _ k _ rfl hown (.int .i64 k) rfl rfl (by omega) (by omega) hw.size ?_)
    intro v' w1 ho hgr;have hb:=ah hw hown hgr (Nat.le_refl _) hw.size;rw [show ae (eL k) ++ [Value.int .i64 k]=ae (eL (k+1)) from by rw [Jo,bk];rfl] at ho
    clear hown hw
    go_wp2
    go_roundw
    case rel=>exact ⟨k+1,by omega,by go_num,ho,hb⟩
    case measure=>simp [intOf];omega
  · have:k=n:=by omega
    subst this;obtain ⟨a,c,rfl,_,_⟩:=ba hown
    go_wp2
    go_ret;exact ⟨a,c,rfl,hown,hw⟩
def fq (p:Nat→Bool) (n:Nat):Int:=match (List.range n).find? p with
 | some j=>j
 | none=>-1
theorem ju {p:Nat→Bool} {n k:Nat} (hk:k<n) (hp:p k=true) (hb:∀ j,j<k→p j=false):fq p n=k:=by
 have:(List.range n).find? p=some k:=by
  rw [List.find?_range_eq_some];exact ⟨hp,by simpa using hk,fun j hj=>by simp [hb j hj]⟩
 simp [fq,this]
theorem jw {p:Nat→Bool} {n:Nat} (hb:∀ j,j<n→p j=false):fq p n = -1:=by
 have:(List.range n).find? p=none:=by
  rw [List.find?_eq_none];intro j hj;simp [hb j (by simpa using hj)]
 simp [fq,this]
theorem nf (p:Nat→Bool) (n:Nat):(∃ k,k<n∧p k=true∧(∀ j,j<k→p j=false)∧fq p n=k)∨((∀ j,j<n→p j=false)∧fq p n = -1):=by
 by_cases h:∃ k,k<n∧p k=true
 · obtain ⟨k,hk,hm⟩:∃ k,(k<n∧p k=true)∧∀ j,j<k→¬ (j<n∧p j=true):=by
     obtain ⟨k,hk⟩:=h
     induction k using Nat.strongRecOn with
     | _ k ih =>
       by_cases hh:∃ j,j<k∧j<n∧p j=true
       · obtain ⟨j,h1,h2⟩:=hh;exact ih j h1 h2
       · exact ⟨k,hk,fun j hj hh2=>hh ⟨j,hj,hh2⟩⟩
   have hb:∀ j,j<k→p j=false:=fun j hj=>by
    have:=hm j hj
    cases hp:p j with
    | false=>rfl
    | true=>exact absurd ⟨by omega,hp⟩ this
   exact .inl ⟨k,hk.1,hk.2,hb,ju hk.1 hk.2 hb⟩
 · have hb:∀ j,j<n→p j=false:=fun j hj=>by
     cases hp:p j with
     | false=>rfl
     | true=>exact absurd ⟨j,hj,hp⟩ h
   exact .inr ⟨hb,jw hb⟩
def iA (p:Nat→Bool) (n:Nat):Bool:=decide (0≤fq p n)
theorem zB {p:Nat→Bool} {n:Nat}:iA p n=true ↔ ∃ k,k<n∧p k=true:=by
 unfold iA;rw [decide_eq_true_iff]
 rcases nf p n with ⟨k,hk,hp,_,e⟩ | ⟨hb,e⟩
 · rw [e];exact ⟨fun _=>⟨k,hk,hp⟩,fun _=>by omega⟩
 · rw [e]
   constructor
   · intro h;omega
   · rintro ⟨k,hk,hp⟩;rw [hb k hk] at hp;cases hp
theorem DE {p:Nat→Bool} {n:Nat}:iA p n=false ↔ ∀ k,k<n→p k=false:=by
 rw [← Bool.not_eq_true,zB]
 constructor
 · intro h k hk
   cases hp:p k with
   | false=>rfl
   | true=>exact absurd ⟨k,hk,hp⟩ h
 · rintro h ⟨k,hk,hp⟩;rw [h k hk] at hp;cases hp
theorem Rd.getV {w:World} {B:Nat} {a:Option Addr} {vs:List Value} (h:Rd w B a vs) {k:Nat} (hk:k<vs.length) :
 ∃ b o v,a=some ⟨b,o,none⟩∧b<B∧w.cell? ⟨b,o+k,none⟩=some v∧Hid (vs[k]? = some v):=by
 rcases h with h | ⟨b,o,ha,hb,hc⟩
 · subst h;simp at hk
 · exact ⟨b,o,vs[k],ha,hb,by rw [hc k hk,List.getElem?_eq_getElem hk],by simp [Hid,List.getElem?_eq_getElem hk]⟩
def pT (xs:List Int) (v:Int):Int:=fq (fun j=>v == xs.getD j 0) xs.length
def bH (xs:List Int) (v:Int):Bool:=decide (0≤pT xs v)
theorem jS {xs:List Int} {v:Int}:bH xs v=true ↔ v∈xs:=by
 show iA _ _=true ↔ _
 rw [zB]
 constructor
 · rintro ⟨k,hk,h⟩
   rw [beq_iff_eq] at h;rw [h];exact List.mem_of_getElem? (rD hk)
 · intro h
   obtain ⟨k,hk,e⟩:=List.getElem_of_mem h;exact ⟨k,hk,by rw [beq_iff_eq,← e];simp [List.getD,hk]⟩
theorem xH (w:World) (a:Option Addr) (c:Nat) (xs:List Int) (v:Int) (h:Rd w w.heap.size a (ae xs)) (hl:xs.length≤1152921504606846976) :
 Calls Tryz.prog 203 #[.slice a xs.length c,.int .i64 v] w fun e w'=>e=.returned (.int .i64 (pT xs v))∧w=w':=by
 go_enter Tryz.func203,Tryz.ntmps203
 go_wp2
 go_loop [8] (fun i=>∃ k:Nat,k≤xs.length∧i=.int .i64 k∧Hid (∀ j,j<k→(v == xs.getD j 0)=false)) (fun i=>xs.length - (intOf i).toNat)
 case atStart=>exact ⟨0,Nat.zero_le _,rfl,fun j hj=>by omega⟩
 case round =>
  obtain ⟨k,hk,rfl,ha⟩:=hrel
  by_cases hlt:k<xs.length
  · obtain ⟨b,o,x,rfl,hbb,hck,hx⟩:=h.get hlt
    clear h
    cases hin:(v == x) with
    | false =>
      have hF:Hid (∀ j,j<k+1→(v == xs.getD j 0)=false):=fun j hj=>by
       by_cases e:j=k
       · rw [e,co hx.out,hin]
       · exact ha.out j (by omega)
      go_wp2
      go_round
      case rel=>exact ⟨k+1,by omega,by go_num,hF⟩
      case measure=>simp [intOf];omega
    | true =>
      have hF:Hid (pT xs v=k):=ju hlt (by rw [co hx.out,hin]) ha.out
      go_wp2
      go_ret;exact ⟨bY hF.out.symm,rfl⟩
  · have:k=xs.length:=by omega
    subst this;have hF:Hid (pT xs v = -1):=jw ha.out
    go_wp2
    go_ret;exact ⟨bY hF.out.symm,rfl⟩
theorem gg (w:World) (a:Option Addr) (c:Nat) (xs:List Int) (v:Int) (h:Rd w w.heap.size a (ae xs)) (hl:xs.length≤1152921504606846976) :
 Calls Tryz.prog 145 #[.slice a xs.length c,.int .i64 v] w fun e w'=>e=.returned (.bool (bH xs v))∧w=w':=by
 go_enter Tryz.func145,Tryz.ntmps145
 go_wp2_with (go_at_call 203;refine (xH _ _ _ xs v h hl).mono ?_;rintro e w' ⟨rfl,rfl⟩)
 go_ret;exact ⟨rfl,rfl⟩
theorem tL (K:Nat) (caps:Array Value) (hK:∀ (args:Array Value) (w:World),(callFunc K args).run Tryz.prog w=.ok (.enter K args) w)
 (w:World) (a:Option Addr) (c:Nat) (vs:List Value) (p:Nat→Bool) (h:Rd w w.heap.size a vs) (hl:vs.length≤1152921504606846976)
 (hcall:∀ w' j v,Below w.heap.size w w'→vs[j]? = some v→Calls Tryz.prog K (#[v] ++ caps) w' fun e w''=>e=.returned (.bool (p j))∧Below w'.heap.size w' w'') :
 Calls Tryz.prog 175 #[.slice a vs.length c,.func (.func K) #[] caps] w fun e w'=>e=.returned (.int .i64 (fq p vs.length))∧Below w.heap.size w w':=by
 have Hc:=Oi hcall;clear hcall
 go_enter Tryz.func175,Tryz.ntmps175
 go_wp2
 go_loopw [8] (fun i wr=>∃ k:Nat,k≤vs.length∧i=.int .i64 k∧Hid (∀ j,j<k→p j=false)∧Below w.heap.size w wr) (fun i _=>vs.length - (intOf i).toNat)
 case atStart=>exact ⟨0,Nat.zero_le _,rfl,fun j hj=>by omega,Below.refl _ _⟩
 case round =>
  obtain ⟨k,hk,rfl,ha,hw⟩:=hrel
  by_cases hlt:k<vs.length
  · obtain ⟨b,o,v,rfl,hbb,hck,hx⟩:=(h.below hw (Nat.le_refl _)).getV hlt
    clear h;have HC:=Oi (Hc.out wr k v hw hx.out)
    cases hin:p k with
    | false =>
      have hF:Hid (∀ j,j<k+1→p j=false):=fun j hj=>by
       by_cases e:j=k
       · rw [e,hin]
       · exact ha.out j (by omega)
      rw [hin] at HC;go_wp2_with fail;refine HC.out.mono ?_;rintro e w2 ⟨rfl,hb2⟩;have hw2:=aa hw hb2;go_wp2_with fail;go_roundw
      case rel=>exact ⟨k+1,by omega,by go_num,hF,hw2⟩
      case measure=>simp [intOf];omega
    | true =>
      have hF:Hid (fq p vs.length=k):=ju hlt hin ha.out;rw [hin] at HC;go_wp2_with fail;refine HC.out.mono ?_;rintro e w2 ⟨rfl,hb2⟩;have hw2:=aa hw hb2;go_wp2_with fail;go_ret;exact ⟨bY hF.out.symm,hw2⟩
  · have:k=vs.length:=by omega
    subst this;have hF:Hid (fq p vs.length = -1):=jw ha.out
    go_wp2
    go_ret;exact ⟨bY hF.out.symm,hw⟩
theorem lE (K:Nat) (caps:Array Value) (hK:∀ (args:Array Value) (w:World),(callFunc K args).run Tryz.prog w=.ok (.enter K args) w)
 (w:World) (a:Option Addr) (c:Nat) (vs:List Value) (p:Nat→Bool) (h:Rd w w.heap.size a vs) (hl:vs.length≤1152921504606846976)
 (hcall:∀ w' j v,Below w.heap.size w w'→vs[j]? = some v→Calls Tryz.prog K (#[v] ++ caps) w' fun e w''=>e=.returned (.bool (p j))∧Below w'.heap.size w' w'') :
 Calls Tryz.prog 167 #[.slice a vs.length c,.func (.func K) #[] caps] w fun e w'=>e=.returned (.bool (iA p vs.length))∧Below w.heap.size w w':=by
 have HI:=Oi (tL K caps hK w a c vs p h hl hcall);clear hcall h hK
 go_enter Tryz.func167,Tryz.ntmps167;go_wp2_with fail;refine HI.out.mono ?_;rintro e w1 ⟨rfl,hb⟩;go_wp2_with fail;go_ret;exact ⟨rfl,hb⟩
def bs (l:List UInt8):ByteArray:=⟨l.toArray⟩
theorem cu (l:List UInt8):(bs l).data.toList=l:=rfl
theorem uP (s:ByteArray):bs s.data.toList=s:=by cases s;rfl
theorem aE (l:List UInt8):(bs l).size=l.length:=by rw [Lib.size_eq,cu]
theorem Ao {s t:ByteArray} (h:s.data.toList=t.data.toList):s=t:=by rw [← uP s,← uP t,h]
theorem jt (s:ByteArray) (a b:Nat):s.extract a b=bs ((s.data.toList.take b).drop a):=by
 apply Ao
 rw [Lib.extract_data,cu,List.drop_take]
theorem ab (l:List UInt8):(bs l).toList=l:=by rw [Lib.toList_data,cu]
theorem JI (l:List UInt8):(bs l).toList.isEmpty=decide (l=[]):=by rw [ab];cases l <;> simp
def bF (xs:List (List UInt8)):List Value:=xs.map fun l=>Value.string (bs l)
@[simp] theorem strs_length (xs:List (List UInt8)):(bF xs).length=xs.length:=by simp [bF]
theorem fZ (xs ys:List (List UInt8)):bF (xs ++ ys)=bF xs ++ bF ys:=by simp [bF]
theorem BY {xs:List (List UInt8)} {k:Nat} {l:List UInt8} (h:xs[k]? = some l):(bF xs)[k]? = some (.string (bs l)):=by simp [bF,h]
def cH (c:UInt8):List UInt8→List (List UInt8)
 | []=>[[]]
 | b :: l=>if b=c then [] :: cH c l else match cH c l with
   | []=>[[b]]
   | p :: ps=>(b :: p) :: ps
theorem mw {c:UInt8}:∀ {l:List UInt8},c∉l→cH c l=[l]
 | [],_=>rfl
 | b :: l,h=>by
   rw [cH,if_neg (fun e=>h (by simp [e])),mw (fun hm=>h (by simp [hm]))]
theorem oi {c:UInt8}:∀ {p q:List UInt8},c∉p→cH c (p ++ c :: q)=p :: cH c q
 | [],q,_=>by simp [cH]
 | b :: p,q,h=>by
   rw [List.cons_append,cH,if_neg (fun e=>h (by simp [e])),oi (p:=p) (fun hm=>h (by simp [hm]))]
theorem Ad (c:UInt8) (l:List UInt8):1≤(cH c l).length:=by
 cases l with
 | nil=>simp [cH]
 | cons b l =>
   rw [cH]
   split
   · simp
   · split <;> simp
theorem uj (c:UInt8):∀ l:List UInt8,(cH c l).length≤l.length+1
 | []=>by simp [cH]
 | b :: l=>by
   have:=uj c l;rw [cH]
   split
   · simp;omega
   · split
     · simp
     · rename_i h
       rw [h] at this;simp at this ⊢;omega
theorem ji {c:UInt8}:∀ {l p:List UInt8},p∈cH c l→p.length≤l.length
 | [],p,h=>by simp [cH] at h;simp [h]
 | b :: l,p,h=>by
   rw [cH] at h
   split at h
   · rcases List.mem_cons.1 h with h | h
     · simp [h]
     · have:=ji h;simp;omega
   · split at h
     · simp at h;simp [h]
     · rename_i q qs e
       rcases List.mem_cons.1 h with h | h
       · have:=ji (l:=l) (p:=q) (by rw [e];simp)
         simp [h];exact this
       · have:=ji (l:=l) (p:=p) (by rw [e];simp [h])
         simp;omega
theorem uW {c:UInt8} {l:List UInt8} {i:Nat} (h:Lib.index l [c]=i):l=l.take i ++ c :: l.drop (i+1)∧c∉l.take i:=by
 rw [Lib.index_one] at h;obtain ⟨h1,h2⟩:=Lib.indexByte_some h;have hi:i<l.length:=(List.getElem?_eq_some_iff.1 h1).1;have hg:l[i]=c:=by rw [List.getElem?_eq_getElem hi] at h1;injection h1
 refine ⟨?_,fun hm=>?_⟩
 · rw [← hg,← List.drop_eq_getElem_cons hi,List.take_append_drop]
 · obtain ⟨k,hk,e⟩:=List.getElem_of_mem hm
   rw [List.length_take] at hk;refine h2 k (by omega) ?_
   rw [List.getElem_take] at e;rw [← e,List.getElem?_eq_getElem (by omega)]
theorem AH {c:UInt8} {l:List UInt8} (h:Lib.index l [c] = -1):c∉l:=by
 rw [Lib.index_one] at h;intro hm;obtain ⟨k,hk,e⟩:=List.getElem_of_mem hm;exact Lib.indexByte_none h k (by rw [List.getElem?_eq_getElem hk,e])
theorem vO {c:UInt8} {sep:ByteArray} (hs:sep.data.toList=[c]):∀ (n:Nat) (s:ByteArray),s.size≤n→(Lib.splitB sep 0 (Lib.countB s sep) s).map (fun x=>x.data.toList)=cH c s.data.toList:=by
 have h1:sep.size=1:=by rw [Lib.size_eq,hs];rfl
 intro n
 induction n with
 | zero =>
   intro s hn;have e:s.data.toList=[]:=List.eq_nil_of_length_eq_zero (by rw [← Lib.size_eq];omega)
   have hm:Lib.indexB s sep = -1:=by unfold Lib.indexB;rw [e,hs];rfl
   rw [Lib.countB_miss _ _ hm,Lib.splitB_zero,e];simp [e,cH]
 | succ n ih =>
   intro s hn
   rcases Lib.indexB_cases s sep with hm | ⟨i,hi,hle⟩
   · rw [Lib.countB_miss _ _ hm,Lib.splitB_zero]
     unfold Lib.indexB at hm;rw [hs] at hm;rw [mw (AH hm)];rfl
   · rw [Lib.countB_hit s sep i (by omega) hi,Nat.add_comm 1,Lib.splitB_hit _ _ _ _ i hi,List.map_cons]
     have hsz:(s.extract (i+sep.size) s.size).size≤n:=by
      rw [Lib.size_eq,Lib.extract_to_end,List.length_drop,← Lib.size_eq];omega
     rw [ih _ hsz,Lib.extract_to_end,h1,Nat.add_zero,Lib.extract_from_zero];unfold Lib.indexB at hi;rw [hs] at hi;obtain ⟨e1,e2⟩:=uW hi;have:=oi (p:=s.data.toList.take i) (q:=s.data.toList.drop (i+1)) e2;rw [← e1] at this;exact this.symm
theorem Dn {c:UInt8} {sep:ByteArray} (hs:sep.data.toList=[c]) (s:ByteArray):(Lib.splitB sep 0 (Lib.countB s sep) s).map Value.string=bF (cH c s.data.toList):=by
 rw [← vO hs _ s (Nat.le_refl _)];unfold bF;rw [List.map_map];exact List.map_congr_left fun x _=>by show _=Value.string (bs x.data.toList);rw [uP]
theorem EO {c:UInt8} {sep:ByteArray} (hs:sep.data.toList=[c]) (s:ByteArray):Lib.countB s sep+1=(cH c s.data.toList).length:=by
 have h1:sep.size=1:=by rw [Lib.size_eq,hs];rfl
 rw [← vO hs _ s (Nat.le_refl _),List.length_map,Lib.splitB_all sep (by omega) 0 _ s rfl]
def jj (c:UInt8) (l:List UInt8):Nat→List (List UInt8) × Nat
 | 0=>([],0)
 | i+1=>if l[i]? = some c then ((jj c l i).1 ++ [(l.take i).drop (jj c l i).2],i+1) else jj c l i
theorem xy (c:UInt8) (l:List UInt8):∀ i,i≤l.length→(jj c l i).2≤i∧c∉(l.take i).drop (jj c l i).2∧cH c l=(jj c l i).1 ++ cH c (l.drop (jj c l i).2)
 | 0,_=>by simp [jj]
 | i+1,h=>by
   obtain ⟨h1,h2,h3⟩:=xy c l i (by omega)
   have hi:i<l.length:=by omega
   rw [jj]
   split
   · rename_i he
     rw [List.getElem?_eq_getElem hi] at he;injection he with he
     refine ⟨Nat.le_refl _,by simp,?_⟩
     rw [h3,List.append_assoc]
     congr 1
     generalize (jj c l i).2=q at *
     have e1:l.drop q=(l.take i).drop q ++ c :: l.drop (i+1):=by
      have hh:=List.take_append_drop i l;have e2:l.drop i=c :: l.drop (i+1):=by rw [List.drop_eq_getElem_cons hi,he]
      rw [e2] at hh;have:((l.take i) ++ c :: l.drop (i+1)).drop q=(l.take i).drop q ++ c :: l.drop (i+1):=List.drop_append_of_le_length (by rw [List.length_take];omega)
      rwa [hh] at this
     rw [e1,oi h2];rfl
   · rename_i he
     refine ⟨by omega,fun hm=>?_,h3⟩
     rw [List.take_succ_eq_append_getElem hi,List.drop_append_of_le_length (by rw [List.length_take];omega)] at hm
     rcases List.mem_append.1 hm with hm | hm
     · exact h2 hm
     · simp at hm;exact he (by rw [List.getElem?_eq_getElem hi,hm])
theorem JO (c:UInt8) (l:List UInt8):cH c l=(jj c l l.length).1 ++ [l.drop (jj c l l.length).2]:=by
 obtain ⟨_,h2,h3⟩:=xy c l l.length (Nat.le_refl _);rw [List.take_length] at h2
 conv=>lhs;rw [h3]
 rw [mw h2]
theorem Ae (c:UInt8) (l:List UInt8):∀ i,(jj c l i).1.length≤i
 | 0=>by simp [jj]
 | i+1=>by
   have:=Ae c l i;rw [jj]
   split
   · simp;omega
   · omega
theorem lL:(Tryz.prog.info? 9).map (fun i=>(i.zero,i.size,i.bytes))=some (some (.string ByteArray.empty),1,16):=by kernel_rfl
end Go.Proofs.YtbknhgapjjaelaaGreatDoor
