/-
  Part 9 of what the proof stands on: lemmas and contracts, each with its conditions ahead of the colon.
-/
import Derived.Lib.Split
import Derived.Lib.CountLaws
import Derived.Lib.SplitLaws
import Derived.Test.YtbknhgapjjaelaaGreatDoorShelf
import Derived.Lib.ItoaNum
import Derived.Lib.LaidTab
import Derived.Sort.Grow
import Derived.Laws.IdiomStrings
import Derived.Lib.ParseIntB
import Derived.Lib.ParseIntBCases
import Derived.Outline
import Derived.Test.YtbknhgapjjaelaaGreatDoorPk01
import Derived.Test.YtbknhgapjjaelaaGreatDoorPk02
set_option maxRecDepth 10000
set_option maxHeartbeats 4000000
namespace Go.Proofs.YtbknhgapjjaelaaGreatDoor
set_option linter.unusedVariables false
set_option linter.unusedSimpArgs false
open Go.RowKit
def bs (l:List UInt8):ByteArray:=⟨l.toArray⟩
theorem cP (l:List UInt8):(bs l).data.toList=l:=rfl
theorem uN (s:ByteArray):bs s.data.toList=s:=by cases s;rfl
theorem aI (l:List UInt8):(bs l).size=l.length:=by rw [Lib.size_eq,cP]
theorem Ik {s t:ByteArray} (h:s.data.toList=t.data.toList):s=t:=by rw [← uN s,← uN t,h]
theorem ab (l:List UInt8):(bs l).toList=l:=by rw [Lib.toList_data,cP]
theorem IR (l:List UInt8):(bs l).toList.isEmpty=decide (l=[]):=by rw [ab];cases l <;> simp
theorem uJ (x y:List UInt8):((bs x).toList == y)=decide (x=y):=by rw [ab,Bool.eq_iff_iff,beq_iff_eq,decide_eq_true_eq]
def cn (xs:List (List UInt8)):List Value:=xs.map fun l=>Value.string (bs l)
@[simp] theorem strs_length (xs:List (List UInt8)):(cn xs).length=xs.length:=by simp [cn]
theorem gZ (xs ys:List (List UInt8)):cn (xs ++ ys)=cn xs ++ cn ys:=by simp [cn]
theorem Al {xs:List (List UInt8)} {k:Nat} {l:List UInt8} (h:xs[k]? = some l):(cn xs)[k]? = some (.string (bs l)):=by simp [cn,h]
def co (c:UInt8):List UInt8→List (List UInt8)
 | []=>[[]]
 | b :: l=>if b=c then [] :: co c l else match co c l with
   | []=>[[b]]
   | p :: ps=>(b :: p) :: ps
theorem pd {c:UInt8}:∀ {l:List UInt8},c∉l→co c l=[l]
 | [],_=>rfl
 | b :: l,h=>by
   rw [co,if_neg (fun e=>h (by simp [e])),pd (fun hm=>h (by simp [hm]))]
theorem qk {c:UInt8}:∀ {p q:List UInt8},c∉p→co c (p ++ c :: q)=p :: co c q
 | [],q,_=>by simp [co]
 | b :: p,q,h=>by
   rw [List.cons_append,co,if_neg (fun e=>h (by simp [e])),qk (p:=p) (fun hm=>h (by simp [hm]))]
theorem zy (c:UInt8) (l:List UInt8):1≤(co c l).length:=by
 cases l with
 | nil=>simp [co]
 | cons b l =>
   rw [co]
   split
   · simp
   · split <;> simp
theorem tW (c:UInt8):∀ l:List UInt8,(co c l).length≤l.length+1
 | []=>by simp [co]
 | b :: l=>by
   have:=tW c l;rw [co]
   split
   · simp;omega
   · split
     · simp
     · rename_i h
       rw [h] at this;simp at this ⊢;omega
theorem iY {c:UInt8}:∀ {l p:List UInt8},p∈co c l→p.length≤l.length
 | [],p,h=>by simp [co] at h;simp [h]
 | b :: l,p,h=>by
   rw [co] at h
   split at h
   · rcases List.mem_cons.1 h with h | h
     · simp [h]
     · have:=iY h;simp;omega
   · split at h
     · simp at h;simp [h]
     · rename_i q qs e
       rcases List.mem_cons.1 h with h | h
       · have:=iY (l:=l) (p:=q) (by rw [e];simp)
         simp [h];exact this
       · have:=iY (l:=l) (p:=p) (by rw [e];simp [h])
         simp;omega
theorem ED {c:UInt8} {l:List UInt8} {i:Nat} (h:Lib.index l [c]=i):l=l.take i ++ c :: l.drop (i+1)∧c∉l.take i:=by
 rw [Lib.index_one] at h;obtain ⟨h1,h2⟩:=Lib.indexByte_some h;have hi:i<l.length:=(List.getElem?_eq_some_iff.1 h1).1;have hg:l[i]=c:=by rw [List.getElem?_eq_getElem hi] at h1;injection h1
 refine ⟨?_,fun hm=>?_⟩
 · rw [← hg,← List.drop_eq_getElem_cons hi,List.take_append_drop]
 · obtain ⟨k,hk,e⟩:=List.getElem_of_mem hm
   rw [List.length_take] at hk;refine h2 k (by omega) ?_
   rw [List.getElem_take] at e;rw [← e,List.getElem?_eq_getElem (by omega)]
theorem JD {c:UInt8} {l:List UInt8} (h:Lib.index l [c] = -1):c∉l:=by
 rw [Lib.index_one] at h;intro hm;obtain ⟨k,hk,e⟩:=List.getElem_of_mem hm;exact Lib.indexByte_none h k (by rw [List.getElem?_eq_getElem hk,e])
theorem uD {c:UInt8} {sep:ByteArray} (hs:sep.data.toList=[c]):∀ (n:Nat) (s:ByteArray),s.size≤n→(Lib.splitB sep 0 (Lib.countB s sep) s).map (fun x=>x.data.toList)=co c s.data.toList:=by
 have h1:sep.size=1:=by rw [Lib.size_eq,hs];rfl
 intro n
 induction n with
 | zero =>
   intro s hn;have e:s.data.toList=[]:=List.eq_nil_of_length_eq_zero (by rw [← Lib.size_eq];omega)
   have hm:Lib.indexB s sep = -1:=by unfold Lib.indexB;rw [e,hs];rfl
   rw [Lib.countB_miss _ _ hm,Lib.splitB_zero,e];simp [e,co]
 | succ n ih =>
   intro s hn
   rcases Lib.indexB_cases s sep with hm | ⟨i,hi,hle⟩
   · rw [Lib.countB_miss _ _ hm,Lib.splitB_zero]
     unfold Lib.indexB at hm;rw [hs] at hm;rw [pd (JD hm)];rfl
   · rw [Lib.countB_hit s sep i (by omega) hi,Nat.add_comm 1,Lib.splitB_hit _ _ _ _ i hi,List.map_cons]
     have hsz:(s.extract (i+sep.size) s.size).size≤n:=by
      rw [Lib.size_eq,Lib.extract_to_end,List.length_drop,← Lib.size_eq];omega
     rw [ih _ hsz,Lib.extract_to_end,h1,Nat.add_zero,Lib.extract_from_zero];unfold Lib.indexB at hi;rw [hs] at hi;obtain ⟨e1,e2⟩:=ED hi;have:=qk (p:=s.data.toList.take i) (q:=s.data.toList.drop (i+1)) e2;rw [← e1] at this;exact this.symm
theorem Cl {c:UInt8} {sep:ByteArray} (hs:sep.data.toList=[c]) (s:ByteArray):(Lib.splitB sep 0 (Lib.countB s sep) s).map Value.string=cn (co c s.data.toList):=by
 rw [← uD hs _ s (Nat.le_refl _)];unfold cn;rw [List.map_map];exact List.map_congr_left fun x _=>by show _=Value.string (bs x.data.toList);rw [uN]
theorem Fp {c:UInt8} {sep:ByteArray} (hs:sep.data.toList=[c]) (s:ByteArray):Lib.countB s sep+1=(co c s.data.toList).length:=by
 have h1:sep.size=1:=by rw [Lib.size_eq,hs];rfl
 rw [← uD hs _ s (Nat.le_refl _),List.length_map,Lib.splitB_all sep (by omega) 0 _ s rfl]
def jg (c:UInt8) (l:List UInt8):Nat→List (List UInt8) × Nat
 | 0=>([],0)
 | i+1=>if l[i]? = some c then ((jg c l i).1 ++ [(l.take i).drop (jg c l i).2],i+1) else jg c l i
theorem wT (c:UInt8) (l:List UInt8):∀ i,i≤l.length→(jg c l i).2≤i∧c∉(l.take i).drop (jg c l i).2∧co c l=(jg c l i).1 ++ co c (l.drop (jg c l i).2)
 | 0,_=>by simp [jg]
 | i+1,h=>by
   obtain ⟨h1,h2,h3⟩:=wT c l i (by omega)
   have hi:i<l.length:=by omega
   rw [jg]
   split
   · rename_i he
     rw [List.getElem?_eq_getElem hi] at he;injection he with he
     refine ⟨Nat.le_refl _,by simp,?_⟩
     rw [h3,List.append_assoc]
     congr 1
     generalize (jg c l i).2=q at *
     have e1:l.drop q=(l.take i).drop q ++ c :: l.drop (i+1):=by
      have hh:=List.take_append_drop i l;have e2:l.drop i=c :: l.drop (i+1):=by rw [List.drop_eq_getElem_cons hi,he]
      rw [e2] at hh;have:((l.take i) ++ c :: l.drop (i+1)).drop q=(l.take i).drop q ++ c :: l.drop (i+1):=List.drop_append_of_le_length (by rw [List.length_take];omega)
      rwa [hh] at this
     rw [e1,qk h2];rfl
   · rename_i he
     refine ⟨by omega,fun hm=>?_,h3⟩
     rw [List.take_succ_eq_append_getElem hi,List.drop_append_of_le_length (by rw [List.length_take];omega)] at hm
     rcases List.mem_append.1 hm with hm | hm
     · exact h2 hm
     · simp at hm;exact he (by rw [List.getElem?_eq_getElem hi,hm])
theorem I9 (c:UInt8) (l:List UInt8):co c l=(jg c l l.length).1 ++ [l.drop (jg c l l.length).2]:=by
 obtain ⟨_,h2,h3⟩:=wT c l l.length (Nat.le_refl _);rw [List.take_length] at h2
 conv=>lhs;rw [h3]
 rw [pd h2]
theorem A6 (c:UInt8) (l:List UInt8):∀ i,(jg c l i).1.length≤i
 | 0=>by simp [jg]
 | i+1=>by
   have:=A6 c l i;rw [jg]
   split
   · simp;omega
   · omega
def fe (l:List UInt8):List Value:=l.map fun b=>Value.int .u8 (b.toNat:Int)
@[simp] theorem bys_length (l:List UInt8):(fe l).length=l.length:=by simp [fe]
theorem sj {l:List UInt8} {j:Nat} (h:j<l.length):(fe l)[j]? = some (.int .u8 (l[j].toNat:Int)):=by simp [fe,List.getElem?_eq_getElem h]
theorem fP (a b:List UInt8):fe (a ++ b)=fe a ++ fe b:=by simp [fe]
theorem Fo (w:World) (os:Array Obj):Below w.heap.size w (Go.Sort.grow w os) :=
 ⟨rfl,rfl,rfl,by simp [Go.Sort.grow],fun k hk=>by simp only [Go.Sort.grow];rw [Array.getElem?_append_left hk]⟩
theorem nX {P:Program} (wr:World) {ops:Array Oper} {rest:List Oper} {o:Oper} {a:Act} {Q:Exit→Act→World→Prop}
 (hg:o.guard=none) (s x:Operand) (t:TypeId) (hop:o.op=Op.call { callee:=Callee.builtin Builtin.append,args:=#[s,x],argTypes:=#[t,t] })
 (base:Nat) (e:TypeId) (z:Value) (bytes:Nat) (h1:P.underlying t=some (.slice e)) (hinfo:(P.info? e).map (fun i=>(i.zero,i.size,i.bytes))=some (some z,1,bytes)) (hz:z.cells.size=1)
 (v:Value) (n:Nat) (xs:List UInt8) (hs:a.eval s=v) (hown:wr.ownsRow base e 1 v n (fe xs)) (b off m c:Nat) (ys:List UInt8) (hx:a.eval x=.slice (some ⟨b,off,none⟩) m c) (hm:ys.length=m)
 (hcell:∀ j (hj:j<ys.length),wr.cell? ⟨b,off+j,none⟩=some (.int .u8 (ys[j].toNat:Int))) (hb:bytes≤64) (hn:n+m≤1099511627776) (hbase:base≤wr.heap.size)
 (hK:∀ v' w',w'.ownsRow base e 1 v' (n+m) (fe (xs ++ ys))→wr.grownBy w' v.ownBlock→wpList P ops Q rest (a.put o.dst v') w') :
 wpList P ops Q (o :: rest) a wr:=by
 obtain ⟨i,h2,h3,h4,h5⟩:=info_parts hinfo;have hbb:(n+m) * bytes≤140737488355328:=Nat.le_trans (Nat.mul_le_mul_left (n+m) hb) (by omega)
 refine wpList_append_own wr hg s x t hop base e i z 1 bytes h1 h2 h3 h4 h5 hz (by omega) v n (fe xs) hs hown ⟨b,off,none⟩ m c (fe ys) hx (by simp;omega) ?_ ?_ (by unfold maxLen;omega) hbb hbase (fun v' w' ho hgr _=>hK v' w' (by rw [fP];exact ho) hgr)
 · intro j u hj
   have hj':j<ys.length:=by have:=(List.getElem?_eq_some_iff.1 hj).1;simpa using this
   have ea:(⟨b,off,none⟩:Addr).add j=⟨b,off+j,none⟩:=by unfold Addr.add;split <;> simp_all
   rw [ea,hcell j hj',← hj,sj hj']
 · intro u hu
   obtain ⟨x,_,rfl⟩:=List.mem_map.1 hu
   rfl
theorem uF (q:Nat) (h:q<10):(UInt8.ofNat (48+q)).toNat=48+q:=by
 rw [UInt8.toNat_ofNat'];omega
def DecI (n r:Int) (d:List UInt8):Prop:=(d=[]∨r≠0→Lib.decDigits n.natAbs=Lib.decDigits r.natAbs ++ d)∧(d≠[]→r=0→Lib.decDigits n.natAbs=d)
theorem DecI.start (n:Int):DecI n n []:=⟨fun _=>by simp,fun h=>absurd rfl h⟩
theorem Lh {u:Nat} (h:¬ u<10):Lib.decDigits u=Lib.decDigits (u / 10) ++ [UInt8.ofNat (48+u % 10)]:=by rw [Lib.decDigits,dif_neg h]
theorem DecI.step {n r r':Int} {d:List UInt8} (h:DecI n r d) (hc:d=[]∨r≠0) (hr:r'.natAbs=r.natAbs / 10):DecI n r' (UInt8.ofNat (48+r.natAbs % 10) :: d):=by
 have h1:=h.1 hc;refine ⟨fun hh=>?_,fun _ h0=>?_⟩
 · have h0:r'≠0:=by rcases hh with hh | hh;cases hh;exact hh
   rw [Lh (u:=r.natAbs) (by omega),← hr,List.append_assoc] at h1
   exact h1
 · have h9:r.natAbs<10:=by omega
   rw [Lib.decDigits_one h9] at h1;rw [h1,Nat.mod_eq_of_lt h9];rfl
theorem vo (u:Nat):∀ k,u<10 ^ k→1≤k→(Lib.decDigits u).length≤k:=by
 intro k
 induction k generalizing u with
 | zero=>intro _ h;omega
 | succ k ih =>
   intro h _;rw [Lib.decDigits]
   split
   · simp
   · rename_i h9
     have hk:1≤k:=by
      rcases Nat.eq_zero_or_pos k with e | e
      · subst e;simp at h;omega
      · exact e
     have:=ih (u / 10) (by rw [Nat.pow_succ] at h;omega) hk
     simp;omega
def Tab (w : World) : Prop := Lib.TabIs Tryz.prog w "internal/strconv.uint64pow10" .u64 Lib.pow10Tab
theorem Tab.to {w w':World} (h:Tab w) (hb:Below w.heap.size w w'):Tab w':=by
 unfold Tab Lib.TabIs World.var? at *
 cases hg : Tryz.prog.globalNamed "internal/strconv.uint64pow10" with
 | none=>simp [hg] at h
 | some g =>
   simp only [hg,Option.bind_some] at h ⊢;have hlt:g<w.heap.size:=by
    rcases Nat.lt_or_ge g w.heap.size with h' | h'
    · exact h'
    · rw [Array.getElem?_eq_none h'] at h;simp at h
   rw [hb.block g hlt];exact h
theorem lL (w:World) (h:Tab w) (n:Int) (h0:-9223372036854775808≤n) (h1:n≤9223372036854775807) :
 Calls Tryz.prog 52 #[.int .i64 n] w fun e w'=>e=.returned (.string (bs (Lib.itoa n)))∧Below w.heap.size w w':=by
 have LF:=Na (Tryz.strconv_FormatInt_10 n h0 h1 w h);clear h
 go_enter Tryz.func52,Tryz.ntmps52;go_wp2_with fail;refine LF.out.mono ?_;rintro e w1 ⟨rfl,k,os,rfl⟩;have B:Hid (Below w.heap.size w (Go.Sort.grow (w.drewN k) os)):=aa (pp w k) (Fo (w.drewN k) os);generalize Go.Sort.grow (w.drewN k) os=w2 at *
 go_wp2_with fail;go_ret;exact ⟨rfl,B.out⟩
theorem ic:(Tryz.prog.info? 5).map (fun i=>(i.zero,i.size,i.bytes))=some (some (.int .u8 0),1,1):=by kernel_rfl
theorem JN (r:Int):r.tmod 10=((r.natAbs % 10:Nat):Int)∨(r.tmod 10 = -((r.natAbs % 10:Nat):Int)∧0<r.natAbs % 10):=by
 rcases Int.natAbs_eq r with h | h
 · left;rw [h,Int.natAbs_natCast];rfl
 · have e:r.tmod 10 = -((r.natAbs % 10:Nat):Int):=by
     conv=>lhs;rw [h,Int.neg_tmod]
     rfl
   rcases Nat.eq_zero_or_pos (r.natAbs % 10) with h0 | h0
   · left;rw [e,h0];rfl
   · exact .inr ⟨e,h0⟩
theorem Ju (r:Int):(r.tdiv 10).natAbs=r.natAbs / 10∧(0≤r→0≤r.tdiv 10)∧(r≤0→r.tdiv 10≤0):=by
 rcases Int.natAbs_eq r with h | h
 · have e:r.tdiv 10=((r.natAbs / 10:Nat):Int):=by
     conv=>lhs;rw [h]
     rfl
   exact ⟨by rw [e];rfl,fun _=>by omega,fun _=>by omega⟩
 · have e:r.tdiv 10 = -((r.natAbs / 10:Nat):Int):=by
     conv=>lhs;rw [h,Int.neg_tdiv]
     rfl
   exact ⟨by rw [e,Int.natAbs_neg];rfl,fun _=>by omega,fun _=>by omega⟩
theorem og (b o j:Nat):(⟨b,o,none⟩:Addr).add j=⟨b,o+j,none⟩:=by unfold Addr.add;split <;> simp_all
def pX:Value→Nat
 | .slice _ n _=>if n=0 then 1 else 0
 | _=>0
theorem zj (w:World) (b:UInt8):(w.alloc (.cells #[Value.int .u8 (b.toNat:Int)] 5)).ownsRow w.heap.size 5 1 (.slice (some ⟨w.heap.size,0,none⟩) 1 1) 1 (fe [b]) :=
 (Blk.new w [Value.int .u8 (b.toNat:Int)] 5).owns (Nat.le_refl _) (by unfold maxLen;simp)
theorem rD {w:World} {base e g m c:Nat} {l:List UInt8} (h:w.ownsRow base e 1 (.slice (some ⟨g,0,none⟩) m c) m (fe l)):g<w.heap.size∧∀ j (hj:j<l.length),w.cell? ⟨g,0+j,none⟩=some (.int .u8 (l[j].toNat:Int)):=by
 obtain ⟨h1,h2⟩:=h
 rcases h2 with ⟨h2,h3⟩ | ⟨g',cap,cur,hv,hg,hh,hn,hm,hs,ht⟩
 · cases h2
 · injection hv with ha _ _
   injection ha with ha
   injection ha with ha _ _
   subst ha;have hb:Blk w g cur.toList e:=hh;refine ⟨lt_of_block hh,fun j hj=>?_⟩
   rw [Nat.zero_add,hb.cell,← sj hj,← ht,List.getElem?_take,if_pos (by rw [bys_length] at h1;omega)]
theorem tU {w:World} {base e n:Nat} {v:Value} {xs:List Value} (h:w.ownsRow base e 1 v n xs) (hn:1≤n):∃ g c,v=.slice (some ⟨g,0,none⟩) n c:=by
 rcases h.2 with ⟨_,h3⟩ | ⟨g',cap,cur,hv,_⟩
 · omega
 · exact ⟨g',cap,hv⟩
theorem zi {n:Int} (h:0≤n):Lib.itoa n=Lib.decDigits n.natAbs:=by
 unfold Lib.itoa;rw [if_neg (by omega),show n.toNat=n.natAbs from by omega]
theorem zr {n:Int} (h:n<0):Lib.itoa n=45 :: Lib.decDigits n.natAbs:=by
 unfold Lib.itoa;rw [if_pos h]
theorem mP (w:World) (n:Int) (h0:-9223372036854775808≤n) (h1:n≤9223372036854775807) :
 Calls Tryz.prog 60 #[.int .i64 n] w fun e w'=>e=.returned (.string (bs (Lib.itoa n)))∧Below w.heap.size w w':=by
 have HLEN:Hid ((Lib.decDigits n.natAbs).length≤20):=vo _ 20 (by omega) (by omega)
 go_enter Tryz.func60,Tryz.ntmps60;go_wp2_with fail
 go_loopw [3,4] (fun v rv wr=>∃ (d:List UInt8) (r:Int) (g c m:Nat),m=d.length∧v=.slice (some ⟨g,0,none⟩) m c∧rv=.int .i64 r∧-9223372036854775808≤r∧r≤9223372036854775807∧(0≤n→0≤r)∧(n<0→r≤0)∧Hid (DecI n r d)∧Hid (wr.ownsRow w.heap.size 5 1 (.slice (some ⟨g,0,none⟩) m c) m (fe d))∧Below w.heap.size w wr) (fun v rv _=>(intOf rv).natAbs+pX v)
 case atStart=>exact ⟨[],n,w.heap.size,0,0,rfl,rfl,rfl,h0,h1,fun h=>h,fun h=>by omega,DecI.start n,bD w _,ah _ _⟩
 case round =>
  obtain ⟨d,r,g,c,m,hm,rfl,rfl,r0,r1,rs0,rs1,hD,hO,hw⟩:=hrel;have hws:=hw.size
  by_cases hc:d=[]∨r≠0
  · obtain ⟨q,hq⟩:∃ q:Nat,q=r.natAbs % 10:=⟨_,rfl⟩
    have hq10:q<10:=by omega
    obtain ⟨t,ht⟩:∃ t:Int,t=r.tdiv 10:=⟨_,rfl⟩;obtain ⟨t1,t2,t3⟩:=Ju r;have hm20:m≤20:=by
     have h1:=hD.out.1 hc;have h2:=HLEN.out;rw [h1,List.length_append] at h2;omega
    have HS:Hid (DecI n (r.tdiv 10) (UInt8.ofNat (48+q) :: d)):=by
     rw [hq];exact hD.out.step hc t1
    have tm:=JN r;rw [← hq] at tm;have HB:=Na (uF q hq10);have HX:=Na (zj wr (UInt8.ofNat (48+q)));rw [HB.out] at HX;have HBY:Hid (fe [UInt8.ofNat (48+q)] ++ fe d=fe (UInt8.ofNat (48+q) :: d)):=rfl
    generalize UInt8.ofNat (48+q)=B at *
    rw [← ht] at t1 t2 t3 HS;have td:r.tdiv 10=t:=ht.symm;have k1:0≤n→0≤t:=fun h=>t2 (rs0 h)
    have k2:n<0→t≤0:=fun h=>t3 (rs1 h)
    have q0:(0:Int)≤(q:Int):=Int.natCast_nonneg _;have e1:IntKind.i64.wrap (48+(q:Int))=48+(q:Int):=IntWalk.i64_in _ (by omega)
    have e2:IntKind.u8.wrap (48+(q:Int))=48+(q:Int):=by show (48+(q:Int)) % 256=_;omega
    have e3:((48+q:Nat):Int)=48+(q:Int):=by omega
    rw [e3] at HX;have r2:-9223372036854775808≤t:=by omega
    have r3:t≤9223372036854775807:=by omega
    have hbe:=aa hw (ah wr (.cells #[Value.int .u8 (48+(q:Int))] 5));clear ht t2 t3 rs0 rs1 h0 h1
    by_cases hd:d=[]
    · subst hd
      have hm0:m=0:=hm;subst hm0;clear hc hm hO hD
      rcases tm with tm | ⟨tm,hq0⟩
      · clear hq
        go_wp2_with fail;go_roundw
        case rel=>exact ⟨[B],t,wr.heap.size,1,1,rfl,rfl,rfl,r2,r3,k1,k2,HS.out,bJ HX.out hws,hbe⟩
        case measure=>simp [intOf,pX];omega
      · have e4:IntKind.i64.wrap (q:Int)=(q:Int):=IntWalk.i64_in _ (by omega)
        have hq0':(0:Int)<(q:Int):=by omega
        clear hq;go_wp2_with fail;go_roundw
        case rel=>exact ⟨[B],t,wr.heap.size,1,1,rfl,rfl,rfl,r2,r3,k1,k2,HS.out,bJ HX.out hws,hbe⟩
        case measure=>simp [intOf,pX];omega
    · have hr0:(r != 0)=true:=by
        rcases hc with h | h
        · exact absurd h hd
        · simpa using h
      have HR0:Hid (r≠0):=by show _≠_;simpa using hr0
      have hm1:1≤m:=by
       rcases Nat.eq_zero_or_pos m with h | h
       · exact absurd (List.eq_nil_of_length_eq_zero (by omega)) hd
       · exact h
      have HL:=Na hm;have HCC:=Na (rD hO.out);have Hm2:Hid (1+m=(B :: d).length):=by show _=_;simp;omega
      clear hc hm hO hD hd
      rcases tm with tm | ⟨tm,hq0⟩
      · clear hq
        go_wp2_with (at_builtin;refine nX _ rfl _ _ 22 rfl wr.heap.size 5 (.int .u8 0) 1 Tryz.underlying22 ic rfl _ 1 [B] rfl HX.out g 0 m c d rfl HL.out.symm ?_ (by omega) (by omega) (by simp) ?_)
        · intro j hj
          rw [(ah wr _).cell (p:=⟨g,0+j,none⟩) HCC.out.1];exact HCC.out.2 j hj
        intro v' w' ho hgr;obtain ⟨g',c',rfl⟩:=tU ho (by omega)
        have hw2:=ai hbe HX.out hgr hws (by simp;omega)
        have HO:=Na (bJ ho hws);clear ho hgr hw hbe;go_wp2_with fail;go_roundw
        case rel=>exact ⟨B :: d,t,g',c',1+m,Hm2.out,rfl,rfl,r2,r3,k1,k2,HS.out,HO.out,hw2⟩
        case measure =>
         have:=HR0.out;have hz:¬ m=0:=by omega
         simp [intOf,pX,hz];omega
      · have e4:IntKind.i64.wrap (q:Int)=(q:Int):=IntWalk.i64_in _ (by omega)
        have hq0':(0:Int)<(q:Int):=by omega
        clear hq
        go_wp2_with (at_builtin;refine nX _ rfl _ _ 22 rfl wr.heap.size 5 (.int .u8 0) 1 Tryz.underlying22 ic rfl _ 1 [B] rfl HX.out g 0 m c d rfl HL.out.symm ?_ (by omega) (by omega) (by simp) ?_)
        · intro j hj
          rw [(ah wr _).cell (p:=⟨g,0+j,none⟩) HCC.out.1];exact HCC.out.2 j hj
        intro v' w' ho hgr;obtain ⟨g',c',rfl⟩:=tU ho (by omega)
        have hw2:=ai hbe HX.out hgr hws (by simp;omega)
        have HO:=Na (bJ ho hws);clear ho hgr hw hbe;go_wp2_with fail;go_roundw
        case rel=>exact ⟨B :: d,t,g',c',1+m,Hm2.out,rfl,rfl,r2,r3,k1,k2,HS.out,HO.out,hw2⟩
        case measure =>
         have:=HR0.out;have hz:¬ m=0:=by omega
         simp [intOf,pX,hz];omega
  · have hd:d≠[]:=fun h=>hc (.inl h)
    have hr0:r=0:=by
     rcases Int.decEq r 0 with h | h
     · exact absurd (.inr h) hc
     · exact h
    subst hr0;have hm1:1≤m:=by
     rcases Nat.eq_zero_or_pos m with h | h
     · exact absurd (List.eq_nil_of_length_eq_zero (by omega)) hd
     · exact h
    have HD:Hid (Lib.decDigits n.natAbs=d):=hD.out.2 hd rfl;have hm20:m≤20:=by
     have h2:=HLEN.out;rw [HD.out] at h2;omega
    have HCC:=Na (rD hO.out);have HL:=Na hm;clear hc hd hD
    by_cases hn:n<0
    · have HI:=Na (zr hn)
      rw [HD.out] at HI;have HX:=Na (zj wr 45);have HX2:Hid ((wr.alloc (.cells #[Value.int .u8 45] 5)).ownsRow wr.heap.size 5 1 (.slice (some ⟨wr.heap.size,0,none⟩) 1 1) 1 (fe [45])):=HX.out
      have hbe:=aa hw (ah wr (.cells #[Value.int .u8 45] 5));clear hm hO HX
      go_wp2_with (at_builtin;refine nX _ rfl _ _ 22 rfl wr.heap.size 5 (.int .u8 0) 1 Tryz.underlying22 ic rfl _ 1 [45] rfl HX2.out g 0 m c d rfl HL.out.symm ?_ (by omega) (by omega) (by simp) ?_)
      · intro j hj
        rw [(ah wr _).cell (p:=⟨g,0+j,none⟩) HCC.out.1];exact HCC.out.2 j hj
      intro v' w' ho hgr;obtain ⟨g',c',rfl⟩:=tU ho (by omega)
      have hw2:=ai hbe HX2.out hgr hws (by simp;omega)
      have hcl:=(rD ho).2;have hcv:=run_convert_bytes_back (P:=Tryz.prog) w' 22 9 5 ⟨g',0,none⟩ c' ([45] ++ d) Tryz.underlying22 Tryz.underlying5 Tryz.underlying9 (fun j hj=>by rw [og];exact hcl j hj)
      have el:(([45]:List UInt8) ++ d).length=1+m:=by rw [List.length_append,← HL.out];rfl
      have ei:([45]:List UInt8) ++ d=Lib.itoa n:=HI.out.symm;rw [el,ei] at hcv;clear ho hgr hcl hw hbe;go_wp2_with fail;go_ret;exact ⟨rfl,hw2⟩
    · have HI:=Na (zi (n:=n) (by omega))
      rw [HD.out] at HI;have hcv:=run_convert_bytes_back (P:=Tryz.prog) wr 22 9 5 ⟨g,0,none⟩ c d Tryz.underlying22 Tryz.underlying5 Tryz.underlying9 (fun j hj=>by rw [og];exact HCC.out.2 j hj)
      rw [← HL.out,← HI.out] at hcv;clear hm hO;go_wp2_with fail;go_ret;exact ⟨rfl,hw⟩
def Fg (n:Int) (b:UInt8):Int:=if 48≤b.toNat∧b.toNat≤57 then 10 * n+((b.toNat:Int) - 48) else n
def tV (l:List UInt8):Int:=l.foldl Fg 0
def Ad (l:List UInt8):Int:=if l[0]? = some 45 then - tV l else tV l
def jz:Int:=1000000000000000
def eg (l:List UInt8):Option Int:=if -jz≤Ad l∧Ad l≤jz∧Lib.itoa (Ad l)=l then some (Ad l) else none
theorem gY (q:Nat) (h:q<10):(UInt8.ofNat (48+q)).toNat=48+q:=uF q h
theorem zo (u:Nat):(Lib.decDigits u).foldl Fg 0=(u:Int):=by
 induction u using Nat.strongRecOn with
 | ind u ih =>
   rw [Lib.decDigits]
   split
   · rename_i h
     simp only [List.foldl_cons,List.foldl_nil,Fg];rw [gY u h,if_pos (by omega)]
     omega
   · rename_i h
     rw [List.foldl_append,ih (u / 10) (by omega)]
     simp only [List.foldl_cons,List.foldl_nil,Fg];rw [gY (u % 10) (by omega),if_pos (by omega)]
     omega
theorem si (u:Nat):1≤(Lib.decDigits u).length:=by
 rw [Lib.decDigits];split <;> simp
theorem Ba:∀ (u:Nat) (c:UInt8),(Lib.decDigits u)[0]? = some c→48≤c.toNat∧c.toNat≤57:=by
 intro u
 induction u using Nat.strongRecOn with
 | ind u ih =>
   intro c hc;rw [Lib.decDigits] at hc
   split at hc
   · rename_i h
     injection hc with hc
     rw [← hc,gY u h];omega
   · rename_i h
     rw [List.getElem?_append_left (by have:=si (u / 10);omega)] at hc
     exact ih (u / 10) (by omega) c hc
theorem qm {n:Int} (h:0≤n):Lib.itoa n=Lib.decDigits n.toNat:=by unfold Lib.itoa;rw [if_neg (by omega)]
theorem sE {n:Int} (h:n<0):Lib.itoa n=45 :: Lib.decDigits n.natAbs:=by unfold Lib.itoa;rw [if_pos h]
theorem I6 (n:Int):Ad (Lib.itoa n)=n:=by
 rcases Int.lt_or_le n 0 with h | h
 · rw [sE h]
   unfold Ad;rw [if_pos (by simp)]
   have:tV (45 :: Lib.decDigits n.natAbs)=tV (Lib.decDigits n.natAbs):=by
    unfold tV;rw [List.foldl_cons];rfl
   rw [this];unfold tV;rw [zo];omega
 · rw [qm h]
   unfold Ad;rw [if_neg (fun e=>by have:=Ba _ _ e;simp at this)]
   unfold tV;rw [zo];omega
theorem xF {n:Int} (h0:-jz≤n) (h1:n≤jz):eg (Lib.itoa n)=some n:=by
 unfold eg;rw [I6,if_pos ⟨h0,h1,rfl⟩]
theorem IG {l:List UInt8} {n:Int} (h:eg l=some n):Lib.itoa n=l∧-jz≤n∧n≤jz:=by
 unfold eg at h
 split at h
 · rename_i h2
   injection h with h
   subst h;exact ⟨h2.2.2,h2.1,h2.2.1⟩
 · cases h
theorem Jb {l:List UInt8} {n:Int} (h:Lib.itoa n=l) (h0:-jz≤n) (h1:n≤jz):eg l=some n:=h ▸ xF h0 h1
theorem wJ {l:List UInt8} (h:∀ n,-jz≤n→n≤jz→Lib.itoa n≠l):eg l=none:=by
 cases hv:eg l with
 | none=>rfl
 | some n =>
   obtain ⟨h1,h2,h3⟩:=IG hv;exact absurd h1 (h n h2 h3)
theorem Ii:∀ (u:Nat),u≤1000000000000000000→∀ r:List UInt8,Lib.parseUint10 0 (Lib.decDigits u ++ r)=Lib.parseUint10 u r:=by
 intro u
 induction u using Nat.strongRecOn with
 | ind u ih =>
   intro hu r;rw [Lib.decDigits]
   split
   · rename_i h
     show Lib.parseUint10 0 (UInt8.ofNat (48+u) :: r)=_
     rw [Lib.parseUint10,gY u h,if_pos (by omega),if_neg (by omega),if_neg (by omega)]
     congr 1;omega
   · rename_i h
     rw [List.append_assoc,ih (u / 10) (by omega) (by omega)]
     show Lib.parseUint10 (u / 10) (UInt8.ofNat (48+u % 10) :: r)=_
     rw [Lib.parseUint10,gY (u % 10) (by omega),if_pos (by omega),if_neg (by omega),if_neg (by omega)]
     congr 1;omega
theorem ve {u:Nat} (hu:u≤1000000000000000000):Lib.parseUintB 64 (Lib.decDigits u)=.ok u:=by
 rw [Lib.parseUintB_64];unfold Lib.parseMag;rw [if_neg (by intro e;have:=si u;rw [e] at this;simp at this)]
 have:=Ii u hu [];rw [List.append_nil] at this;rw [this];rfl
theorem qz {n:Int} (h0:-jz≤n) (h1:n≤jz):Lib.parseIntB 64 (Lib.itoa n)=.ok n:=by
 unfold jz at *
 rcases Int.lt_or_le n 0 with h | h
 · rw [sE h,Lib.parseIntB_minus,ve (by omega)]
   simp only [Lib.signedC];rw [if_neg (by omega)]
   congr 1;omega
 · rw [qm h]
   cases hd:Lib.decDigits n.toNat with
   | nil=>have:=si n.toNat;rw [hd] at this;simp at this
   | cons c r =>
     have hc:=Ba n.toNat c (by rw [hd];rfl)
     rw [Lib.parseIntB_plain 64 c r (by omega) (by omega),← hd,ve (by omega)]
     simp only [Lib.signlessC];rw [if_neg (by omega)]
     congr 1;omega
def di {α β:Type} (f:α→Option β):List α→Option (List β)
 | []=>some []
 | x :: xs=>match f x with
   | none=>none
   | some y=>(di f xs).map (y :: ·)
theorem pm {α β:Type} {f:α→Option β} {x:α} {xs:List α} (h:f x=none):di f (x :: xs)=none:=by rw [di,h]
theorem je {α β:Type} {f:α→Option β} {x:α} {xs:List α} {y:β} (h:f x=some y):di f (x :: xs)=(di f xs).map (y :: ·):=by rw [di,h]
theorem qp {α β:Type} {f:α→Option β}:∀ {xs:List α} {ys:List β},di f xs=some ys→ys.length=xs.length
 | [],ys,h=>by rw [di] at h;injection h with h;rw [← h];rfl
 | x :: xs,ys,h=>by
   cases hx:f x with
   | none=>rw [pm hx] at h;cases h
   | some y =>
     rw [je hx] at h
     cases hr:di f xs with
     | none=>rw [hr] at h;cases h
     | some zs =>
       rw [hr] at h;injection h with h
       rw [← h,List.length_cons,List.length_cons,qp hr]
def Till {α β:Type} (f:α→Option β) (xs:List α) (k:Nat) (d:List β):Prop:=di f xs=(di f (xs.drop k)).map (d ++ ·)
theorem Till.start {α β:Type} (f:α→Option β) (xs:List α):Till f xs 0 []:=by
 unfold Till;rw [List.drop_zero];cases di f xs <;> simp
theorem Till.step {α β:Type} {f:α→Option β} {xs:List α} {k:Nat} {d:List β} {x:α} {y:β} (h:Till f xs k d) (hx:xs[k]? = some x) (hy:f x=some y):Till f xs (k+1) (d ++ [y]):=by
 unfold Till at *
 have hk:=(List.getElem?_eq_some_iff.1 hx).1;have e:xs.drop k=x :: xs.drop (k+1):=by
  rw [List.drop_eq_getElem_cons hk];rw [List.getElem?_eq_getElem hk] at hx;injection hx with hx
  rw [hx]
 rw [h,e,je hy]
 cases di f (xs.drop (k+1)) <;> simp
theorem Till.stop {α β:Type} {f:α→Option β} {xs:List α} {k:Nat} {d:List β} {x:α} (h:Till f xs k d) (hx:xs[k]? = some x) (hy:f x=none):di f xs=none:=by
 unfold Till at h;have hk:=(List.getElem?_eq_some_iff.1 hx).1;have e:xs.drop k=x :: xs.drop (k+1):=by
  rw [List.drop_eq_getElem_cons hk];rw [List.getElem?_eq_getElem hk] at hx;injection hx with hx
  rw [hx]
 rw [h,e,pm hy];rfl
theorem Till.done {α β:Type} {f:α→Option β} {xs:List α} {d:List β} (h:Till f xs xs.length d):di f xs=some d:=by
 unfold Till at h;rw [h,List.drop_length];simp [di]
def lJ:List UInt8:=[110,111,110,101]
def dJ (l:List UInt8):List (List UInt8):=if l=lJ then [] else co 44 l
def de (l:List UInt8):Option (List Int):=match di eg (dJ l) with
 | none=>none
 | some ns=>if ns.length≤64 then some ns else none
theorem Hv {l:List UInt8} (h:di eg (dJ l)=none):de l=none:=by unfold de;rw [h]
theorem DU {l:List UInt8} (h:64<(dJ l).length):de l=none:=by
 unfold de
 cases ha:di eg (dJ l) with
 | none=>rfl
 | some ns=>have:=qp ha;simp only;rw [if_neg (by omega)]
theorem uZ {l:List UInt8} {ns:List Int} (h:di eg (dJ l)=some ns) (hl:ns.length≤64):de l=some ns:=by unfold de;rw [h];simp only;rw [if_pos hl]
theorem kp {l:List UInt8} {ns:List Int} (h:de l=some ns):ns.length≤64:=by
 unfold de at h
 cases ha:di eg (dJ l) with
 | none=>rw [ha] at h;cases h
 | some ms =>
   rw [ha] at h;simp only at h
   split at h
   · injection h with h;rw [← h];assumption
   · cases h
theorem AH (l:List UInt8):(dJ l).length≤l.length+1:=by
 unfold dJ;split
 · simp
 · exact tW 44 l
theorem Aw {l p:List UInt8} (h:p∈dJ l):p.length≤l.length:=by
 unfold dJ at h;split at h
 · cases h
 · exact iY h
def es (cnt:Nat) (l:List UInt8):Option (List (List Int)):=match di de (co 59 l) with
 | none=>none
 | some yss=>if yss.length=cnt∧(yss.getD 0 []).length=2 then some yss else none
theorem tL {cnt:Nat} {l:List UInt8} (h:di de (co 59 l)=none):es cnt l=none:=by unfold es;rw [h]
theorem lP {cnt:Nat} {l:List UInt8} {yss:List (List Int)} (h:di de (co 59 l)=some yss):es cnt l=if yss.length=cnt∧(yss.getD 0 []).length=2 then some yss else none:=by unfold es;rw [h]
theorem lh {cnt:Nat} {l:List UInt8} {yss:List (List Int)} (h:es cnt l=some yss):yss.length=cnt∧(yss.getD 0 []).length=2∧(∀ y∈yss,y.length≤64):=by
 cases ha:di de (co 59 l) with
 | none=>rw [tL ha] at h;cases h
 | some zs =>
   rw [lP ha] at h
   split at h
   · rename_i h2
     injection h with h
     subst h;refine ⟨h2.1,h2.2,?_⟩
     have key:∀ (xs:List (List UInt8)) (ys:List (List Int)),di de xs=some ys→∀ y∈ys,y.length≤64:=by
      intro xs
      induction xs with
      | nil=>intro ys hh y hy;rw [di] at hh;injection hh with hh;subst hh;cases hy
      | cons x xs ih =>
        intro ys hh y hy
        cases hx:de x with
        | none=>rw [pm hx] at hh;cases hh
        | some n =>
          rw [je hx] at hh
          cases hr:di de xs with
          | none=>rw [hr] at hh;cases hh
          | some ms =>
            rw [hr] at hh;injection hh with hh
            subst hh
            rcases List.mem_cons.1 hy with e | e
            · subst e;exact kp hx
            · exact ih ms hr y e
     exact key _ _ ha
   · cases h
def wn (T:Nat) (w:World) (r:Option (List Int)) (e:Ending) (w':World):Prop :=
 Below w.heap.size w w'∧match r with
  | none=>e=.returned (.tuple #[.slice none 0 0,.bool false])
  | some xs=>∃ g c,e=.returned (.tuple #[.slice (some ⟨g,0,none⟩) xs.length c,.bool true])∧w'.ownsRow w.heap.size T 1 (.slice (some ⟨g,0,none⟩) xs.length c) xs.length (ae xs)
theorem fk {w:World} {base e:Nat} {v:Value} {n:Nat} {xs:List Value} (h:w.ownsRow base e 1 v n xs) (hn:1≤n):∃ g c,v=.slice (some ⟨g,0,none⟩) n c:=by
 rcases h.2 with ⟨h2,h3⟩ | ⟨g,cap,cur,hv,_⟩
 · exact absurd h3 (by omega)
 · exact ⟨g,cap,hv⟩
theorem oh:(Tryz.prog.info? 9).map (fun i=>(i.zero,i.size,i.bytes))=some (some (.string ByteArray.empty),1,16):=by kernel_rfl
end Go.Proofs.YtbknhgapjjaelaaGreatDoor
