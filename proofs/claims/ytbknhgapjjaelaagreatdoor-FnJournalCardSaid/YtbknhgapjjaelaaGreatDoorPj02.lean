/-
  Part 2 of what the proof stands on: lemmas and contracts, each with its conditions ahead of the colon.
-/
import Derived.BigQuiet
import Derived.Test.YtbknhgapjjaelaaGreatDoorShelf
import Derived.Lib.ItoaNum
import Derived.Lib.LaidTab
import Derived.Sort.Grow
import Derived.Laws.IdiomStrings
import Derived.Test.YtbknhgapjjaelaaGreatDoorPj01
set_option maxRecDepth 10000
set_option maxHeartbeats 4000000
namespace Go.Proofs.YtbknhgapjjaelaaGreatDoor
set_option linter.unusedVariables false
set_option linter.unusedSimpArgs false
open Go.RowKit
structure Later (w:World) where
 w':World
 h:Below w.heap.size w w'
instance (w:World):Nonempty (Later w):=⟨⟨w,Below.refl _ w⟩⟩
section
variable {P:Program} {w:World}
theorem Later.cell (n:Later w) {p:Addr} {v:Value} (hp:p.block<w.heap.size) (hc:w.cell? p=some v):n.w'.cell? p=some v:=(n.h.cell (p:=p) hp).trans hc
theorem dz {f:FuncId} {args:Array Value} {n:Later w} {v:Value} (h:Calls P f args n.w' fun e w'=>e=.returned v∧Below n.w'.heap.size n.w' w') :
 Calls P f args n.w' fun e w''=>e=.returned v∧∃ m:Later w,w''=m.w':=h.mono fun _ w'' ⟨h1,h2⟩=>⟨h1,⟨w'',aa n.h h2⟩,rfl⟩
theorem bg {id:Nat} {Q:Exit→Act→World→Prop} {a:Act} {l:List Oper} (hm:P.follows .mixedOrders=true) (hB:Region.lexB .any l.toArray=true)
 (h:wpQuiet P l.toArray (fun w'=>∃ n:Later w,w'=n.w') (fun a'=>∀ w',(∃ n:Later w,w'=n.w')→Q .normal a' w') l a):(Code.region id l.toArray true).wp P Q a w :=
 wp_region_quiet (C:=fun w'=>∃ n:Later w,w'=n.w') hm hB ⟨⟨w.drew,aq (Below.refl _ w)⟩,rfl⟩ (by simpa using h)
end
def ce (l:List UInt8):List (List UInt8):=(jj 10 l l.length).1
def mj (l:List UInt8):List UInt8:=l.drop (jj 10 l l.length).2
theorem mx (l:List UInt8):cH 10 l=ce l ++ [mj l]:=JO 10 l
theorem qz (l:List UInt8):(ce l).length≤l.length:=Ae 10 l l.length
def nh (x:List UInt8):Bool:=decide (x=[110,111]) || decide (x=[119,104,97,116])
theorem CY (W:World) (h:W.ShapedOpen Tryz.prog):∃ m,W.cell? ⟨1,0,none⟩=some (.int .i64 m):=Tryz.laysM146.s1_3 W h
def Shp (w:World):Prop:=∃ m,w.cell? ⟨1,0,none⟩=some (.int .i64 m)
theorem Shp.lt {w:World} (h:Shp w):1<w.heap.size:=by obtain ⟨m,hm⟩:=h;exact World.block_lt_of_cell? w _ hm
theorem Shp.to {w w':World} (h:Shp w) (hb:Below w.heap.size w w'):Shp w':=by
 have hl:=h.lt;obtain ⟨m,hm⟩:=h;exact ⟨m,(hb.cell (p:=⟨1,0,none⟩) hl).trans hm⟩
theorem pr (w:World) (h:Shp w) (s:ByteArray) (hs:s.size≤1048576) (c:UInt8) (sep:ByteArray) (hc:sep.data.toList=[c]) :
 Calls Tryz.prog 68 #[.string s,.string sep] w fun e w'=>e=.returned (.slice (some ⟨w.heap.size,0,none⟩) (cH c s.data.toList).length (cH c s.data.toList).length)∧Blk w' w.heap.size (bF (cH c s.data.toList)) 9∧Below w.heap.size w w':=by
 obtain ⟨m,hm⟩:=h;refine (Tryz.strings_Split s sep m w (by omega) hm (by rw [Lib.size_eq,hc];exact Nat.le_refl _)).mono ?_
 rintro e w' ⟨rfl,rfl⟩;rw [EO hc,Dn hc];exact ⟨rfl,Blk.new w _ _,ai _ _⟩
def Lv (w:World) (ls:List (List UInt8)) (ok:Bool) (e:Ending) (w':World):Prop:=∃ a c,e=.returned (.tuple #[.slice a ls.length c,.bool ok])∧Rd w' w'.heap.size a (bF ls)∧Below w.heap.size w w'
theorem CU (w:World) (h:Shp w) (s:ByteArray) (hs:s.size≤1048576) :
 Calls Tryz.prog 41 #[.string s] w (Lv w (ce s.data.toList) (decide (s.data.toList.length≤16000) && decide (mj s.data.toList=[]))):=by
 have LS:=Oi (pr w h s hs 10 ⟨#[10]⟩ rfl);rw [mx] at LS;obtain ⟨l,hl⟩:∃ l,l=s.data.toList:=⟨_,rfl⟩;have hsz:s.size=l.length:=by rw [hl];exact Lib.size_eq s
 rw [← hl] at LS ⊢;have hlen:=qz l;generalize ce l=ls at *
 generalize mj l=rs at *
 rw [List.length_append,List.length_singleton] at LS;rw [hsz] at hs;have Hsz:=Oi hsz;clear hsz hl h
 go_enter Tryz.func41,Tryz.ntmps41;go_wp2_with fail;refine LS.out.mono ?_;rintro e w1 ⟨rfl,hb,hw⟩;have F:∀ z:Later w1,z.w'.cell? ⟨w.heap.size,ls.length,none⟩=some (.string (bs rs)):=fun z=>z.cell hb.lt (by rw [hb.cell,fZ];simp [bF])
 have n0:(0:Int)≤(ls.length:Int):=Int.natCast_nonneg _;have hE:=JI rs;have HRD:Hid (∀ z:Later w1,Rd z.w' z.w'.heap.size (some ⟨w.heap.size,0,none⟩) (bF ls)):=fun z=>by
  have hsz:=z.h.size;refine .inr ⟨w.heap.size,0,rfl,Nat.lt_of_lt_of_le hb.lt hsz,fun j hj=>?_⟩
  rw [Nat.zero_add,(z.h.cell (p:=⟨w.heap.size,j,none⟩) hb.lt),hb.cell,fZ,List.getElem?_append_left hj]
 have HW:=Oi hw
 by_cases hle:(s.size:Int)≤16000
 · have HB:Hid ((decide (l.length≤16000) && decide (rs=[]))=decide (rs=[])):=by
     rw [Hid,decide_eq_true (by have:=Hsz.out;omega),Bool.true_and]
   generalize decide (rs=[])=r at *
   clear hb;go_wp2_with fail;refine bg (by kernel_rfl) (by kernel_rfl) ?_
   repeat (go_big_quiet_step (fail))
   refine wpQuiet_nil ?_
   rintro wq ⟨⟨_,hbq⟩,rfl⟩;have HR:=Oi (HRD.out ⟨wq,hbq⟩);clear F hE HRD hw;go_wp2_with fail
   go_ret2
   rw [HB.out];exact ⟨_,_,rfl,HR.out,aa HW.out hbq⟩
 · have HB:Hid ((decide (l.length≤16000) && decide (rs=[]))=false):=by
     rw [Hid,decide_eq_false (by have:=Hsz.out;omega),Bool.false_and]
   have hd:decide ((s.size:Int)≤16000)=false:=decide_eq_false hle;clear hb;go_wp2_with fail;refine bg (by kernel_rfl) (by kernel_rfl) ?_
   repeat (go_big_quiet_step (fail))
   refine wpQuiet_nil ?_
   rintro wq ⟨⟨_,hbq⟩,rfl⟩;have HR:=Oi (HRD.out ⟨wq,hbq⟩);clear F hE HRD hw;go_wp2_with fail
   go_ret2
   rw [HB.out];exact ⟨_,_,rfl,HR.out,aa HW.out hbq⟩
theorem JU (s:ByteArray) (k:Nat) (hk:k<s.size):s.data.toList[k]? = some s[k]:=by
 have hk2:k<s.data.toList.length:=by rw [← Lib.size_eq];exact hk
 rw [List.getElem?_eq_getElem hk2];rfl
def bP (n:Int):List UInt8→Int
 | []=>n
 | b :: l=>bP ((937 * n+(b.toNat:Int)+197) % 65003) l
theorem xw (b:UInt8):∀ (l:List UInt8) (n:Int),bP n (l ++ [b])=(937 * bP n l+(b.toNat:Int)+197) % 65003
 | [],_=>rfl
 | c :: l,n=>by simp only [List.cons_append,bP];exact xw b l _
theorem lD:∀ (l:List UInt8) (n:Int),0≤n→n≤65002→0≤bP n l∧bP n l≤65002
 | [],_,h0,h1=>⟨h0,h1⟩
 | b :: l,n,h0,h1=>by
   have:=b.toNat_lt;exact lD l _ (Int.emod_nonneg _ (by omega)) (by have:=Int.emod_lt_of_pos (937 * n+(b.toNat:Int)+197) (show (0:Int)<65003 by omega);omega)
theorem GP {s:ByteArray} {k:Nat} (hk:k<s.size) (n:Int):bP n (s.data.toList.take (k+1))=(937 * bP n (s.data.toList.take k)+(s[k].toNat:Int)+197) % 65003:=by
 rw [List.take_add_one,JU s k hk];exact xw _ _ _
theorem tF (n:Int) (n0:0≤n) (n1:n≤65002) (s:ByteArray) (hs:s.size≤1099511627776) (w:World) :
 Calls Tryz.prog 51 #[.int .i64 n,.string s] w fun e w'=>e=.returned (.tuple #[.int .i64 (bP n s.data.toList),.bool true])∧w=w':=by
 have L:=Oi (dm n 0 65002 w);rw [cx.2 ⟨n0,n1⟩] at L;have HT:Hid (∀ k (hk:k<s.size),bP n (s.data.toList.take (k+1))=(937 * bP n (s.data.toList.take k)+(s[k].toNat:Int)+197) % 65003):=fun k hk=>GP hk n
 have HB:Hid (∀ k,0≤bP n (s.data.toList.take k)∧bP n (s.data.toList.take k)≤65002):=fun k=>lD _ _ n0 n1
 have HE:Hid (bP n s.data.toList=bP n (s.data.toList.take s.size)):=by rw [Hid,Lib.size_eq,List.take_length]
 have hz:bP n (s.data.toList.take 0)=n:=rfl
 go_enter Tryz.func51,Tryz.ntmps51;go_wp2_with fail;refine L.out.mono ?_;rintro e w' ⟨rfl,rfl⟩;go_wp2_with fail
 go_loop [0,12] (fun cv iv=>∃ k:Nat,k≤s.size∧iv=.int .i64 k∧cv=.int .i64 (bP n (s.data.toList.take k))) (fun _ iv=>s.size - (intOf iv).toNat)
 case atStart=>exact ⟨0,Nat.zero_le _,rfl,by rw [hz]⟩
 case round =>
  clear hz;obtain ⟨k,hk,rfl,rfl⟩:=hrel
  by_cases hlt:k<s.size
  · have hks:(k:Int)<(s.size:Int):=by omega
    have k0:(0:Int)≤(k:Int):=Int.natCast_nonneg _;have hb:=s[k].toNat_lt;obtain ⟨c0,c1⟩:=HB.out k;have HTk:=Oi (HT.out k hlt);generalize bP n (s.data.toList.take k)=x at *
    go_wp2_with fail
    go_round
    case rel=>exact ⟨k+1,by omega,by go_num,by rw [HTk.out]⟩
    case measure=>first | (simp [intOf];done) | (simp [intOf];omega)
  · have:k=s.size:=by omega
    subst this;go_wp2_with fail
    go_ret2
    exact ⟨by rw [HE.out];rfl,rfl⟩
structure Touch (w w':World) (lo hi:Nat):Prop where
 os:w'.os=w.os
 tape:w'.tape=w.tape
 output:w'.output=w.output
 size:w.heap.size≤w'.heap.size
 block:∀ k,k<w.heap.size→(k<lo∨hi≤k)→w'.heap[k]? = w.heap[k]?
theorem Touch.refl (w:World) (lo hi:Nat):Touch w w lo hi:=⟨rfl,rfl,rfl,Nat.le_refl _,fun _ _ _=>rfl⟩
theorem Touch.of_grown {w w':World} {g lo hi:Nat} (h:w.grownBy w' (some g)) (h1:lo≤g) (h2:g<hi):Touch w w' lo hi :=
 ⟨h.os,h.tape,h.output,h.size,fun k hk hd=>h.block k hk (by intro e;injection e;omega)⟩
theorem Touch.trans {a b c:World} {lo hi:Nat} (h:Touch a b lo hi) (k:Touch b c lo hi):Touch a c lo hi :=
 ⟨k.os.trans h.os,k.tape.trans h.tape,k.output.trans h.output,Nat.le_trans h.size k.size,fun i hi hd=>(k.block i (Nat.lt_of_lt_of_le hi h.size) hd).trans (h.block i hi hd)⟩
theorem Below.touch {w w':World} (h:Below w.heap.size w w') (lo hi:Nat):Touch w w' lo hi:=⟨h.os,h.tape,h.output,h.size,fun k hk _=>h.block k hk⟩
theorem aI {B lo hi:Nat} {w w1 w2:World} (h:Below B w w1) (ht:Touch w1 w2 lo hi) (hB:B≤lo) (hB2:B≤w1.heap.size):Below B w w2 :=
 h.trans ⟨ht.os,ht.tape,ht.output,ht.size,fun k hk=>ht.block k (by omega) (.inl (by omega))⟩
theorem Rd.touch {w w':World} {lo hi B:Nat} {a:Option Addr} {vs:List Value} (h:Rd w B a vs) (ht:Touch w w' lo hi) (hB:B≤lo) (hs:B≤w.heap.size):Rd w' B a vs:=by
 rcases h with h | ⟨b,o,ha,hb,hc⟩
 · exact .inl h
 · exact .inr ⟨b,o,ha,hb,fun j hj=>by rw [World.cell?_of_block (w:=w) (ht.block b (by omega) (.inl (by omega)))];exact hc j hj⟩
theorem Blk.touch {w w':World} {lo hi b:Nat} {cs:List Value} {t:TypeId} (h:Blk w b cs t) (ht:Touch w w' lo hi) (hd:b<lo∨hi≤b):Blk w' b cs t:=(ht.block b h.lt hd).trans h
def OwnI (T:Nat) (w:World) (lo hi:Nat) (a:Option Addr) (c:Nat) (xs:List Int):Prop :=
 w.ownsRow lo T 1 (.slice a xs.length c) xs.length (ae xs)∧∀ b,a=some b→b.block<hi
section
variable {T lo hi c:Nat} {w w':World} {a:Option Addr} {xs:List Int}
theorem OwnI.of_own (h:w.ownsRow lo T 1 (.slice a xs.length c) xs.length (ae xs)):OwnI T w lo w.heap.size a c xs :=
 ⟨h,fun b hb=>(h.lt b.block (by simp [Value.ownBlock,hb])).2⟩
theorem OwnI.of_blk {b:Nat} (h:Blk w b (ae xs) T) (hl:xs.length≤1152921504606846976):OwnI T w b (b+1) (some ⟨b,0,none⟩) xs.length xs :=
 ⟨by have:=h.owns (Nat.le_refl b) (by rw [ints_length];unfold maxLen;omega);rwa [ints_length] at this,fun _ hb=>by injection hb with hb;subst hb;show b<b+1;omega⟩
theorem OwnI.rd (h:OwnI T w lo hi a c xs):Rd w hi a (ae xs):=by
 rcases ay h.1 (Nat.le_refl _) with h' | ⟨b,o,ha,hb,hc⟩
 · exact .inl h'
 · exact .inr ⟨b,o,ha,h.2 _ ha,hc⟩
theorem OwnI.cap (h:OwnI T w lo hi a c xs):xs.length≤c:=by
 obtain ⟨a',c',e,h2,_⟩:=ba h.1;injection e with _ _ e
 omega
theorem OwnI.keep (h:OwnI T w lo hi a c xs) (hb:Below w.heap.size w w'):OwnI T w' lo hi a c xs:=⟨aD h.1 hb,h.2⟩
theorem OwnI.touch {lo' hi':Nat} (h:OwnI T w lo hi a c xs) (ht:Touch w w' lo' hi') (hd:hi≤lo'∨hi'≤lo):OwnI T w' lo hi a c xs:=by
 refine ⟨⟨h.1.1,?_⟩,h.2⟩
 rcases h.1.2 with h2 | ⟨g,cap,cur,hv,hg,hh,r⟩
 · exact .inl h2
 · have h3:g<hi:=by
     injection hv with ha _ _
     exact h.2 _ ha
   refine .inr ⟨g,cap,cur,hv,hg,?_,r⟩
   rw [ht.block g (lt_of_block hh) (by omega)]
   exact hh
theorem OwnI.mono {lo' hi':Nat} (h:OwnI T w lo hi a c xs) (h1:lo'≤lo) (h2:hi≤hi'):OwnI T w lo' hi' a c xs :=
 ⟨bS h.1 h1,fun b hb=>Nat.lt_of_lt_of_le (h.2 b hb) h2⟩
end
def fj (l:List UInt8):List Value:=l.map fun b=>Value.int .u8 (b.toNat:Int)
@[simp] theorem bys_length (l:List UInt8):(fj l).length=l.length:=by simp [fj]
theorem sG {l:List UInt8} {j:Nat} (h:j<l.length):(fj l)[j]? = some (.int .u8 (l[j].toNat:Int)):=by simp [fj,List.getElem?_eq_getElem h]
theorem fV (a b:List UInt8):fj (a ++ b)=fj a ++ fj b:=by simp [fj]
theorem ED (w:World) (os:Array Obj):Below w.heap.size w (Go.Sort.grow w os) :=
 ⟨rfl,rfl,rfl,by simp [Go.Sort.grow],fun k hk=>by simp only [Go.Sort.grow];rw [Array.getElem?_append_left hk]⟩
theorem od {P:Program} (wr:World) {ops:Array Oper} {rest:List Oper} {o:Oper} {a:Act} {Q:Exit→Act→World→Prop}
 (hg:o.guard=none) (s x:Operand) (t:TypeId) (hop:o.op=Op.call { callee:=Callee.builtin Builtin.append,args:=#[s,x],argTypes:=#[t,t] })
 (base:Nat) (e:TypeId) (z:Value) (bytes:Nat) (h1:P.underlying t=some (.slice e)) (hinfo:(P.info? e).map (fun i=>(i.zero,i.size,i.bytes))=some (some z,1,bytes)) (hz:z.cells.size=1)
 (v:Value) (n:Nat) (xs:List UInt8) (hs:a.eval s=v) (hown:wr.ownsRow base e 1 v n (fj xs)) (b off m c:Nat) (ys:List UInt8) (hx:a.eval x=.slice (some ⟨b,off,none⟩) m c) (hm:ys.length=m)
 (hcell:∀ j (hj:j<ys.length),wr.cell? ⟨b,off+j,none⟩=some (.int .u8 (ys[j].toNat:Int))) (hb:bytes≤64) (hn:n+m≤1099511627776) (hbase:base≤wr.heap.size)
 (hK:∀ v' w',w'.ownsRow base e 1 v' (n+m) (fj (xs ++ ys))→wr.grownBy w' v.ownBlock→wpList P ops Q rest (a.put o.dst v') w') :
 wpList P ops Q (o :: rest) a wr:=by
 obtain ⟨i,h2,h3,h4,h5⟩:=info_parts hinfo;have hbb:(n+m) * bytes≤140737488355328:=Nat.le_trans (Nat.mul_le_mul_left (n+m) hb) (by omega)
 refine wpList_append_own wr hg s x t hop base e i z 1 bytes h1 h2 h3 h4 h5 hz (by omega) v n (fj xs) hs hown ⟨b,off,none⟩ m c (fj ys) hx (by simp;omega) ?_ ?_ (by unfold maxLen;omega) hbb hbase (fun v' w' ho hgr _=>hK v' w' (by rw [fV];exact ho) hgr)
 · intro j u hj
   have hj':j<ys.length:=by have:=(List.getElem?_eq_some_iff.1 hj).1;simpa using this
   have ea:(⟨b,off,none⟩:Addr).add j=⟨b,off+j,none⟩:=by unfold Addr.add;split <;> simp_all
   rw [ea,hcell j hj',← hj,sG hj']
 · intro u hu
   obtain ⟨x,_,rfl⟩:=List.mem_map.1 hu
   rfl
theorem uR (q:Nat) (h:q<10):(UInt8.ofNat (48+q)).toNat=48+q:=by
 rw [UInt8.toNat_ofNat'];omega
def DecI (n r:Int) (d:List UInt8):Prop:=(d=[]∨r≠0→Lib.decDigits n.natAbs=Lib.decDigits r.natAbs ++ d)∧(d≠[]→r=0→Lib.decDigits n.natAbs=d)
theorem DecI.start (n:Int):DecI n n []:=⟨fun _=>by simp,fun h=>absurd rfl h⟩
theorem Mm {u:Nat} (h:¬ u<10):Lib.decDigits u=Lib.decDigits (u / 10) ++ [UInt8.ofNat (48+u % 10)]:=by rw [Lib.decDigits,dif_neg h]
theorem DecI.step {n r r':Int} {d:List UInt8} (h:DecI n r d) (hc:d=[]∨r≠0) (hr:r'.natAbs=r.natAbs / 10):DecI n r' (UInt8.ofNat (48+r.natAbs % 10) :: d):=by
 have h1:=h.1 hc;refine ⟨fun hh=>?_,fun _ h0=>?_⟩
 · have h0:r'≠0:=by rcases hh with hh | hh;cases hh;exact hh
   rw [Mm (u:=r.natAbs) (by omega),← hr,List.append_assoc] at h1
   exact h1
 · have h9:r.natAbs<10:=by omega
   rw [Lib.decDigits_one h9] at h1;rw [h1,Nat.mod_eq_of_lt h9];rfl
theorem qH (u:Nat):∀ k,u<10 ^ k→1≤k→(Lib.decDigits u).length≤k:=by
 intro k
 induction k generalizing u with
 | zero=>intro _ h;omega
 | succ k ih =>
   intro h _;rw [Lib.decDigits]
   split
   · simp
   · rename_i h9
     have hk:1≤k:=by
      rcases Nat.eq_zero_or_pos k with e | e
      · subst e;simp at h;omega
      · exact e
     have:=ih (u / 10) (by rw [Nat.pow_succ] at h;omega) hk
     simp;omega
def Tab (w : World) : Prop := Lib.TabIs Tryz.prog w "internal/strconv.uint64pow10" .u64 Lib.pow10Tab
theorem Tab.to {w w':World} (h:Tab w) (hb:Below w.heap.size w w'):Tab w':=by
 unfold Tab Lib.TabIs World.var? at *
 cases hg : Tryz.prog.globalNamed "internal/strconv.uint64pow10" with
 | none=>simp [hg] at h
 | some g =>
   simp only [hg,Option.bind_some] at h ⊢;have hlt:g<w.heap.size:=by
    rcases Nat.lt_or_ge g w.heap.size with h' | h'
    · exact h'
    · rw [Array.getElem?_eq_none h'] at h;simp at h
   rw [hb.block g hlt];exact h
theorem iO (w:World) (h:Tab w) (n:Int) (h0:-9223372036854775808≤n) (h1:n≤9223372036854775807) :
 Calls Tryz.prog 52 #[.int .i64 n] w fun e w'=>e=.returned (.string (bs (Lib.itoa n)))∧Below w.heap.size w w':=by
 have LF:=Oi (Tryz.strconv_FormatInt_10 n h0 h1 w h);clear h
 go_enter Tryz.func52,Tryz.ntmps52;go_wp2_with fail;refine LF.out.mono ?_;rintro e w1 ⟨rfl,k,os,rfl⟩;have B:Hid (Below w.heap.size w (Go.Sort.grow (w.drewN k) os)):=aa (mc w k) (ED (w.drewN k) os);generalize Go.Sort.grow (w.drewN k) os=w2 at *
 go_wp2_with fail;go_ret;exact ⟨rfl,B.out⟩
theorem io:(Tryz.prog.info? 5).map (fun i=>(i.zero,i.size,i.bytes))=some (some (.int .u8 0),1,1):=by kernel_rfl
theorem Lj (r:Int):r.tmod 10=((r.natAbs % 10:Nat):Int)∨(r.tmod 10 = -((r.natAbs % 10:Nat):Int)∧0<r.natAbs % 10):=by
 rcases Int.natAbs_eq r with h | h
 · left;rw [h,Int.natAbs_natCast];rfl
 · have e:r.tmod 10 = -((r.natAbs % 10:Nat):Int):=by
     conv=>lhs;rw [h,Int.neg_tmod]
     rfl
   rcases Nat.eq_zero_or_pos (r.natAbs % 10) with h0 | h0
   · left;rw [e,h0];rfl
   · exact .inr ⟨e,h0⟩
theorem Li (r:Int):(r.tdiv 10).natAbs=r.natAbs / 10∧(0≤r→0≤r.tdiv 10)∧(r≤0→r.tdiv 10≤0):=by
 rcases Int.natAbs_eq r with h | h
 · have e:r.tdiv 10=((r.natAbs / 10:Nat):Int):=by
     conv=>lhs;rw [h]
     rfl
   exact ⟨by rw [e];rfl,fun _=>by omega,fun _=>by omega⟩
 · have e:r.tdiv 10 = -((r.natAbs / 10:Nat):Int):=by
     conv=>lhs;rw [h,Int.neg_tdiv]
     rfl
   exact ⟨by rw [e,Int.natAbs_neg];rfl,fun _=>by omega,fun _=>by omega⟩
theorem lu (b o j:Nat):(⟨b,o,none⟩:Addr).add j=⟨b,o+j,none⟩:=by unfold Addr.add;split <;> simp_all
def pP:Value→Nat
 | .slice _ n _=>if n=0 then 1 else 0
 | _=>0
theorem Bi (w:World) (b:UInt8):(w.alloc (.cells #[Value.int .u8 (b.toNat:Int)] 5)).ownsRow w.heap.size 5 1 (.slice (some ⟨w.heap.size,0,none⟩) 1 1) 1 (fj [b]) :=
 (Blk.new w [Value.int .u8 (b.toNat:Int)] 5).owns (Nat.le_refl _) (by unfold maxLen;simp)
theorem rW {w:World} {base e g m c:Nat} {l:List UInt8} (h:w.ownsRow base e 1 (.slice (some ⟨g,0,none⟩) m c) m (fj l)):g<w.heap.size∧∀ j (hj:j<l.length),w.cell? ⟨g,0+j,none⟩=some (.int .u8 (l[j].toNat:Int)):=by
 obtain ⟨h1,h2⟩:=h
 rcases h2 with ⟨h2,h3⟩ | ⟨g',cap,cur,hv,hg,hh,hn,hm,hs,ht⟩
 · cases h2
 · injection hv with ha _ _
   injection ha with ha
   injection ha with ha _ _
   subst ha;have hb:Blk w g cur.toList e:=hh;refine ⟨lt_of_block hh,fun j hj=>?_⟩
   rw [Nat.zero_add,hb.cell,← sG hj,← ht,List.getElem?_take,if_pos (by rw [bys_length] at h1;omega)]
theorem ux {w:World} {base e n:Nat} {v:Value} {xs:List Value} (h:w.ownsRow base e 1 v n xs) (hn:1≤n):∃ g c,v=.slice (some ⟨g,0,none⟩) n c:=by
 rcases h.2 with ⟨_,h3⟩ | ⟨g',cap,cur,hv,_⟩
 · omega
 · exact ⟨g',cap,hv⟩
theorem qu {n:Int} (h:0≤n):Lib.itoa n=Lib.decDigits n.natAbs:=by
 unfold Lib.itoa;rw [if_neg (by omega),show n.toNat=n.natAbs from by omega]
theorem AK {n:Int} (h:n<0):Lib.itoa n=45 :: Lib.decDigits n.natAbs:=by
 unfold Lib.itoa;rw [if_pos h]
theorem nl (w:World) (n:Int) (h0:-9223372036854775808≤n) (h1:n≤9223372036854775807) :
 Calls Tryz.prog 60 #[.int .i64 n] w fun e w'=>e=.returned (.string (bs (Lib.itoa n)))∧Below w.heap.size w w':=by
 have HLEN:Hid ((Lib.decDigits n.natAbs).length≤20):=qH _ 20 (by omega) (by omega)
 go_enter Tryz.func60,Tryz.ntmps60;go_wp2_with fail
 go_loopw [3,4] (fun v rv wr=>∃ (d:List UInt8) (r:Int) (g c m:Nat),m=d.length∧v=.slice (some ⟨g,0,none⟩) m c∧rv=.int .i64 r∧-9223372036854775808≤r∧r≤9223372036854775807∧(0≤n→0≤r)∧(n<0→r≤0)∧Hid (DecI n r d)∧Hid (wr.ownsRow w.heap.size 5 1 (.slice (some ⟨g,0,none⟩) m c) m (fj d))∧Below w.heap.size w wr) (fun v rv _=>(intOf rv).natAbs+pP v)
 case atStart=>exact ⟨[],n,w.heap.size,0,0,rfl,rfl,rfl,h0,h1,fun h=>h,fun h=>by omega,DecI.start n,bz w _,ai _ _⟩
 case round =>
  obtain ⟨d,r,g,c,m,hm,rfl,rfl,r0,r1,rs0,rs1,hD,hO,hw⟩:=hrel;have hws:=hw.size
  by_cases hc:d=[]∨r≠0
  · obtain ⟨q,hq⟩:∃ q:Nat,q=r.natAbs % 10:=⟨_,rfl⟩
    have hq10:q<10:=by omega
    obtain ⟨t,ht⟩:∃ t:Int,t=r.tdiv 10:=⟨_,rfl⟩;obtain ⟨t1,t2,t3⟩:=Li r;have hm20:m≤20:=by
     have h1:=hD.out.1 hc;have h2:=HLEN.out;rw [h1,List.length_append] at h2;omega
    have HS:Hid (DecI n (r.tdiv 10) (UInt8.ofNat (48+q) :: d)):=by
     rw [hq];exact hD.out.step hc t1
    have tm:=Lj r;rw [← hq] at tm;have HB:=Oi (uR q hq10);have HX:=Oi (Bi wr (UInt8.ofNat (48+q)));rw [HB.out] at HX;have HBY:Hid (fj [UInt8.ofNat (48+q)] ++ fj d=fj (UInt8.ofNat (48+q) :: d)):=rfl
    generalize UInt8.ofNat (48+q)=B at *
    rw [← ht] at t1 t2 t3 HS;have td:r.tdiv 10=t:=ht.symm;have k1:0≤n→0≤t:=fun h=>t2 (rs0 h)
    have k2:n<0→t≤0:=fun h=>t3 (rs1 h)
    have q0:(0:Int)≤(q:Int):=Int.natCast_nonneg _;have e1:IntKind.i64.wrap (48+(q:Int))=48+(q:Int):=IntWalk.i64_in _ (by omega)
    have e2:IntKind.u8.wrap (48+(q:Int))=48+(q:Int):=by show (48+(q:Int)) % 256=_;omega
    have e3:((48+q:Nat):Int)=48+(q:Int):=by omega
    rw [e3] at HX;have r2:-9223372036854775808≤t:=by omega
    have r3:t≤9223372036854775807:=by omega
    have hbe:=aa hw (ai wr (.cells #[Value.int .u8 (48+(q:Int))] 5));clear ht t2 t3 rs0 rs1 h0 h1
    by_cases hd:d=[]
    · subst hd
      have hm0:m=0:=hm;subst hm0;clear hc hm hO hD
      rcases tm with tm | ⟨tm,hq0⟩
      · clear hq
        go_wp2_with fail;go_roundw
        case rel=>exact ⟨[B],t,wr.heap.size,1,1,rfl,rfl,rfl,r2,r3,k1,k2,HS.out,bS HX.out hws,hbe⟩
        case measure=>simp [intOf,pP];omega
      · have e4:IntKind.i64.wrap (q:Int)=(q:Int):=IntWalk.i64_in _ (by omega)
        have hq0':(0:Int)<(q:Int):=by omega
        clear hq;go_wp2_with fail;go_roundw
        case rel=>exact ⟨[B],t,wr.heap.size,1,1,rfl,rfl,rfl,r2,r3,k1,k2,HS.out,bS HX.out hws,hbe⟩
        case measure=>simp [intOf,pP];omega
    · have hr0:(r != 0)=true:=by
        rcases hc with h | h
        · exact absurd h hd
        · simpa using h
      have HR0:Hid (r≠0):=by show _≠_;simpa using hr0
      have hm1:1≤m:=by
       rcases Nat.eq_zero_or_pos m with h | h
       · exact absurd (List.eq_nil_of_length_eq_zero (by omega)) hd
       · exact h
      have HL:=Oi hm;have HCC:=Oi (rW hO.out);have Hm2:Hid (1+m=(B :: d).length):=by show _=_;simp;omega
      clear hc hm hO hD hd
      rcases tm with tm | ⟨tm,hq0⟩
      · clear hq
        go_wp2_with (at_builtin;refine od _ rfl _ _ 22 rfl wr.heap.size 5 (.int .u8 0) 1 Tryz.underlying22 io rfl _ 1 [B] rfl HX.out g 0 m c d rfl HL.out.symm ?_ (by omega) (by omega) (by simp) ?_)
        · intro j hj
          rw [(ai wr _).cell (p:=⟨g,0+j,none⟩) HCC.out.1];exact HCC.out.2 j hj
        intro v' w' ho hgr;obtain ⟨g',c',rfl⟩:=ux ho (by omega)
        have hw2:=ah hbe HX.out hgr hws (by simp;omega)
        have HO:=Oi (bS ho hws);clear ho hgr hw hbe;go_wp2_with fail;go_roundw
        case rel=>exact ⟨B :: d,t,g',c',1+m,Hm2.out,rfl,rfl,r2,r3,k1,k2,HS.out,HO.out,hw2⟩
        case measure =>
         have:=HR0.out;have hz:¬ m=0:=by omega
         simp [intOf,pP,hz];omega
      · have e4:IntKind.i64.wrap (q:Int)=(q:Int):=IntWalk.i64_in _ (by omega)
        have hq0':(0:Int)<(q:Int):=by omega
        clear hq
        go_wp2_with (at_builtin;refine od _ rfl _ _ 22 rfl wr.heap.size 5 (.int .u8 0) 1 Tryz.underlying22 io rfl _ 1 [B] rfl HX.out g 0 m c d rfl HL.out.symm ?_ (by omega) (by omega) (by simp) ?_)
        · intro j hj
          rw [(ai wr _).cell (p:=⟨g,0+j,none⟩) HCC.out.1];exact HCC.out.2 j hj
        intro v' w' ho hgr;obtain ⟨g',c',rfl⟩:=ux ho (by omega)
        have hw2:=ah hbe HX.out hgr hws (by simp;omega)
        have HO:=Oi (bS ho hws);clear ho hgr hw hbe;go_wp2_with fail;go_roundw
        case rel=>exact ⟨B :: d,t,g',c',1+m,Hm2.out,rfl,rfl,r2,r3,k1,k2,HS.out,HO.out,hw2⟩
        case measure =>
         have:=HR0.out;have hz:¬ m=0:=by omega
         simp [intOf,pP,hz];omega
  · have hd:d≠[]:=fun h=>hc (.inl h)
    have hr0:r=0:=by
     rcases Int.decEq r 0 with h | h
     · exact absurd (.inr h) hc
     · exact h
    subst hr0;have hm1:1≤m:=by
     rcases Nat.eq_zero_or_pos m with h | h
     · exact absurd (List.eq_nil_of_length_eq_zero (by omega)) hd
     · exact h
    have HD:Hid (Lib.decDigits n.natAbs=d):=hD.out.2 hd rfl;have hm20:m≤20:=by
     have h2:=HLEN.out;rw [HD.out] at h2;omega
    have HCC:=Oi (rW hO.out);have HL:=Oi hm;clear hc hd hD
    by_cases hn:n<0
    · have HI:=Oi (AK hn)
      rw [HD.out] at HI;have HX:=Oi (Bi wr 45);have HX2:Hid ((wr.alloc (.cells #[Value.int .u8 45] 5)).ownsRow wr.heap.size 5 1 (.slice (some ⟨wr.heap.size,0,none⟩) 1 1) 1 (fj [45])):=HX.out
      have hbe:=aa hw (ai wr (.cells #[Value.int .u8 45] 5));clear hm hO HX
      go_wp2_with (at_builtin;refine od _ rfl _ _ 22 rfl wr.heap.size 5 (.int .u8 0) 1 Tryz.underlying22 io rfl _ 1 [45] rfl HX2.out g 0 m c d rfl HL.out.symm ?_ (by omega) (by omega) (by simp) ?_)
      · intro j hj
        rw [(ai wr _).cell (p:=⟨g,0+j,none⟩) HCC.out.1];exact HCC.out.2 j hj
      intro v' w' ho hgr;obtain ⟨g',c',rfl⟩:=ux ho (by omega)
      have hw2:=ah hbe HX2.out hgr hws (by simp;omega)
      have hcl:=(rW ho).2;have hcv:=run_convert_bytes_back (P:=Tryz.prog) w' 22 9 5 ⟨g',0,none⟩ c' ([45] ++ d) Tryz.underlying22 Tryz.underlying5 Tryz.underlying9 (fun j hj=>by rw [lu];exact hcl j hj)
      have el:(([45]:List UInt8) ++ d).length=1+m:=by rw [List.length_append,← HL.out];rfl
      have ei:([45]:List UInt8) ++ d=Lib.itoa n:=HI.out.symm;rw [el,ei] at hcv;clear ho hgr hcl hw hbe;go_wp2_with fail;go_ret;exact ⟨rfl,hw2⟩
    · have HI:=Oi (qu (n:=n) (by omega))
      rw [HD.out] at HI;have hcv:=run_convert_bytes_back (P:=Tryz.prog) wr 22 9 5 ⟨g,0,none⟩ c d Tryz.underlying22 Tryz.underlying5 Tryz.underlying9 (fun j hj=>by rw [lu];exact HCC.out.2 j hj)
      rw [← HL.out,← HI.out] at hcv;clear hm hO;go_wp2_with fail;go_ret;exact ⟨rfl,hw⟩
def gx (s:Int × List UInt8) (l:List UInt8):Int × List UInt8:=(bP s.1 l,s.2 ++ (Lib.itoa (bP s.1 l) ++ 32 :: (l ++ [10])))
def bI (ls:List (List UInt8)):Int × List UInt8:=ls.foldl gx (0,[])
theorem J7 (ls:List (List UInt8)) (l:List UInt8):bI (ls ++ [l])=gx (bI ls) l:=by simp [bI,List.foldl_append]
theorem J8 {ls:List (List UInt8)} {k:Nat} {l:List UInt8} (h:ls[k]? = some l):bI (ls.take (k+1))=gx (bI (ls.take k)) l:=by
 rw [List.take_add_one,h];exact J7 _ _
def fO (ls:List (List UInt8)):Nat:=(ls.map fun l=>l.length+3).sum
theorem Hj (ls:List (List UInt8)) (l:List UInt8):fO (ls ++ [l])=fO ls+(l.length+3):=by simp [fO]
theorem Hk {ls:List (List UInt8)} {k:Nat} {l:List UInt8} (h:ls[k]? = some l):fO (ls.take (k+1))=fO (ls.take k)+(l.length+3):=by
 rw [List.take_add_one,h];exact Hj _ _
theorem tJ:∀ (ls:List (List UInt8)) (s:Int × List UInt8),s.2.length≤(ls.foldl gx s).2.length
 | [],_=>Nat.le_refl _
 | l :: ls,s=>Nat.le_trans (by simp [gx]) (tJ ls (gx s l))
theorem AS (ls:List (List UInt8)) (k:Nat):(bI (ls.take k)).2.length≤(bI ls).2.length:=by
 have e:bI ls=(ls.drop k).foldl gx (bI (ls.take k)):=by rw [bI,bI,← List.foldl_append,List.take_append_drop]
 rw [e];exact tJ _ _
theorem Mx (ls:List (List UInt8)):0≤(bI ls).1∧(bI ls).1≤65002:=by
 have:∀ (ls:List (List UInt8)) (s:Int × List UInt8),0≤s.1∧s.1≤65002→0≤(ls.foldl gx s).1∧(ls.foldl gx s).1≤65002:=fun ls=>by
  induction ls with
  | nil=>exact fun s h=>h
  | cons l ls ih=>exact fun s h=>ih _ (lD l s.1 h.1 h.2)
 exact this ls _ ⟨by decide,by decide⟩
theorem Mw {n:Int} (h:0≤n):1≤(Lib.itoa n).length:=by
 rw [qu h];rw [Lib.decDigits]
 split
 · simp
 · simp
theorem us {n:Int} (h:0≤n) (h2:n≤65002):(Lib.itoa n).length≤5:=by
 rw [qu h];exact qH _ 5 (by omega) (by omega)
theorem Hl (s:Int × List UInt8) (l:List UInt8):(gx s l).2.length=s.2.length+((Lib.itoa (bP s.1 l)).length+(l.length+2)):=by
 simp [gx]
theorem tK:∀ (ls:List (List UInt8)) (s:Int × List UInt8),0≤s.1→s.1≤65002→s.2.length+fO ls≤(ls.foldl gx s).2.length∧(ls.foldl gx s).2.length≤s.2.length+3 * fO ls
 | [],_,_,_=>by simp [fO]
 | l :: ls,s,h0,h1=>by
   obtain ⟨c0,c1⟩:=lD l s.1 h0 h1;obtain ⟨i1,i2⟩:=tK ls (gx s l) c0 c1;have e:=Hl s l;have:=Mw c0;have:=us c0 c1;have ej:fO (l :: ls)=l.length+3+fO ls:=by simp [fO]
   simp only [List.foldl_cons];omega
theorem DU (ls:List (List UInt8)):fO ls≤(bI ls).2.length∧(bI ls).2.length≤3 * fO ls:=by
 have:=tK ls (0,[]) (by decide) (by decide)
 simpa [bI] using this
theorem Hi (ls:List (List UInt8)) (k:Nat):fO (ls.take k)≤fO ls:=by
 have e:fO ls=fO (ls.take k)+fO (ls.drop k):=by
  unfold fO;rw [← List.sum_append,← List.map_append,List.take_append_drop]
 omega
def gw (ls:List (List UInt8)):Option (List UInt8):=if (∀ l∈ls,(10:UInt8)∉l)∧(bI ls).2.length≤16000 then some (bI ls).2 else none
theorem Fd {ls:List (List UInt8)} {l:List UInt8} (h:l∈ls) (h2:(10:UInt8)∈l):gw ls=none:=by
 unfold gw;rw [if_neg (fun h3=>h3.1 l h h2)]
theorem CP {ls:List (List UInt8)} {k:Nat} (h:16000<(bI (ls.take k)).2.length):gw ls=none:=by
 unfold gw;rw [if_neg (fun h3=>by have:=AS ls k;omega)]
theorem rF {ls:List (List UInt8)} (h:∀ l∈ls,(10:UInt8)∉l) (h2:(bI ls).2.length≤16000):gw ls=some (bI ls).2:=by
 unfold gw;rw [if_pos ⟨h,h2⟩]
def bQ (x:List UInt8):List UInt8:=x.takeWhile (fun b=>b != 32)
def bE (x:List UInt8):List UInt8:=x.drop ((bQ x).length+1)
def qq (x:List UInt8):Bool:=decide ((bQ x).length<x.length)
def lh (c:Int) (x:List UInt8):Bool:=qq x && decide (bQ x=Lib.itoa (bP c (bE x)))
def eg:Int→List (List UInt8)→List (List UInt8) × Nat
 | _,[]=>([],0)
 | c,x :: xs=>if lh c x then (bE x :: (eg (bP c (bE x)) xs).1,x.length+1+(eg (bP c (bE x)) xs).2) else ([],0)
def eD (l:List UInt8):List (List UInt8) × Nat:=eg 0 (ce l)
theorem qU {c:Int} {x:List UInt8} {xs:List (List UInt8)} (h:lh c x=true):eg c (x :: xs)=(bE x :: (eg (bP c (bE x)) xs).1,x.length+1+(eg (bP c (bE x)) xs).2):=by rw [eg,if_pos h]
theorem sX {c:Int} {x:List UInt8} {xs:List (List UInt8)} (h:lh c x=false):eg c (x :: xs)=([],0):=by rw [eg,if_neg (by simp [h])]
theorem Jz (x:List UInt8):(bQ x).length≤x.length:=by unfold bQ;exact (List.takeWhile_sublist _).length_le
theorem pM (x:List UInt8):x.take (bQ x).length=bQ x:=by
 have h:x=bQ x ++ x.dropWhile (fun b=>b != 32):=(List.takeWhile_append_dropWhile).symm
 conv=>lhs;rw [h]
 rw [List.take_left'];rw [← h]
theorem yH:∀ {x:List UInt8} {b:UInt8},x[(bQ x).length]? = some b→b=32
 | [],b,h=>by simp at h
 | c :: l,b,h=>by
   by_cases hc:c=32
   · subst hc
     simpa [bQ] using h.symm
   · have e:bQ (c :: l)=c :: bQ l:=by simp [bQ,List.takeWhile_cons,hc]
     rw [e,List.length_cons,List.getElem?_cons_succ] at h;exact yH h
theorem AC:∀ x:List UInt8,Lib.indexByte x 32=if (bQ x).length<x.length then ((bQ x).length:Int) else -1
 | []=>rfl
 | b :: l=>by
   by_cases hb:b=32
   · subst hb;simp [Lib.indexByte,bQ]
   · have e:bQ (b :: l)=b :: bQ l:=by simp [bQ,List.takeWhile_cons,hb]
     rw [Lib.indexByte,if_neg (by simpa using hb),AC l,e]
     simp only [List.length_cons]
     by_cases h:(bQ l).length<l.length
     · rw [if_pos h,if_neg (by first | (simp;done) | (simp;omega)),if_pos (by omega)];omega
     · rw [if_neg h,if_pos (show ((-1:Int) == -1)=true from rfl),if_neg (by omega)]
theorem Nq (x:List UInt8):Lib.cut x [32]=(bQ x,bE x,qq x):=by
 unfold Lib.cut qq;rw [Lib.index_one,AC]
 by_cases h:(bQ x).length<x.length
 · rw [if_pos h,if_pos (by omega)]
   simp only [Int.toNat_natCast,pM,bE,List.length_singleton,decide_eq_true h]
 · have hw:=Jz x
   have e:bQ x=x:=by rw [← pM x,List.take_of_length_le (by omega)]
   rw [if_neg h,if_neg (by omega),decide_eq_false h]
   simp only [bE,e];rw [List.drop_of_length_le (by omega)]
theorem np {p q:List UInt8} (h:(10:UInt8)∉p):ce (p ++ 10 :: q)=p :: ce q:=by
 have h1:=mx (p ++ 10 :: q);rw [oi h,mx q] at h1;have h2:(p :: ce q) ++ [mj q]=ce (p ++ 10 :: q) ++ [mj (p ++ 10 :: q)]:=h1;exact (List.append_inj' h2 rfl).1.symm
theorem ii {l:List UInt8} (h:(10:UInt8)∉l):ce l=[]:=by
 have h1:=mx l;rw [mw h] at h1;have h2:([]:List (List UInt8)) ++ [l]=ce l ++ [mj l]:=h1;exact (List.append_inj' h2 rfl).1.symm
theorem H7 {l:List UInt8} {n:Nat} (h:Lib.indexByte l 10=n):n<l.length∧ce l=l.take n :: ce (l.drop (n+1)):=by
 have h0:Lib.index l [10]=n:=by rw [Lib.index_one];exact h
 obtain ⟨h1,h2⟩:=uW h0;refine ⟨?_,?_⟩
 · have:=congrArg List.length h1
   simp at this
   omega
 · conv=>lhs;rw [h1]
   exact np h2
theorem H9 {l:List UInt8} (h:Lib.indexByte l 10 = -1):ce l=[]:=ii (AH (by rw [Lib.index_one];exact h))
theorem BN:∀ (xs:List (List UInt8)) (c:Int),(eg c xs).1.length≤xs.length∧(eg c xs).1.length≤(eg c xs).2
 | [],_=>⟨Nat.le_refl _,Nat.le_refl _⟩
 | x :: xs,c=>by
   rw [eg]
   split
   · obtain ⟨h1,h2⟩:=BN xs (bP c (bE x))
     simp only [List.length_cons];omega
   · simp
theorem Kz (l:List UInt8):(eD l).1.length≤l.length:=by
 have h1:=(BN (ce l) 0).1;have h2:=qz l
 show (eg 0 (ce l)).1.length≤l.length
 omega
end Go.Proofs.YtbknhgapjjaelaaGreatDoor
