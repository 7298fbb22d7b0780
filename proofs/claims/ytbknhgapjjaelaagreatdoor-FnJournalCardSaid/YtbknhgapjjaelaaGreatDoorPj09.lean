/-
  Part 9 of what the proof stands on: lemmas and contracts, each with its conditions ahead of the colon.
-/
import Derived.Lib.SliceRun
import Derived.Deep.Matrix
import Derived.Laws.EntriesVeiled
import Derived.Outline
import Derived.Test.YtbknhgapjjaelaaGreatDoorPj01
import Derived.Test.YtbknhgapjjaelaaGreatDoorPj02
import Derived.Test.YtbknhgapjjaelaaGreatDoorPj03
import Derived.Test.YtbknhgapjjaelaaGreatDoorPj04
import Derived.Test.YtbknhgapjjaelaaGreatDoorPj05
import Derived.Test.YtbknhgapjjaelaaGreatDoorPj06
import Derived.Test.YtbknhgapjjaelaaGreatDoorPj08
set_option maxRecDepth 10000
set_option maxHeartbeats 4000000
namespace Go.Proofs.YtbknhgapjjaelaaGreatDoor
set_option linter.unusedVariables false
set_option linter.unusedSimpArgs false
open Go.RowKit
def Src (w:World) (b:Nat) (a:Option Addr) (n c:Nat) (p:Nat):Prop:=∃ seed:Int,(0≤seed∧seed<18446744073709551616)∧Blk w b [.slice a n c,.int .i64 p,.int .u64 seed] 108
theorem Src.same {w w':World} {b n c p:Nat} {a:Option Addr} (h:Src w b a n c p) (hb:Below w.heap.size w w'):Src w' b a n c p:=by
 obtain ⟨s,h1,h2⟩:=h;exact ⟨s,h1,h2.same hb⟩
theorem CQ (w:World) (a:Option Addr) (n c:Nat) :
 Calls Tryz.prog 26 #[.slice a n c] w fun e w'=>e=.returned (.pointer (some ⟨w.heap.size,0,none⟩))∧Src w' w.heap.size a n c 0∧Below w.heap.size w w'∧w'.heap.size=w.heap.size+1:=by
 have K:=Blk.new w [.slice a n c,.int .i64 0,.int .u64 0] 108;have B:=ai w (.cells #[.slice a n c,.int .i64 0,.int .u64 0] 108)
 go_enter Tryz.func26,Tryz.ntmps26;go_wp2_with fail;go_ret;exact ⟨rfl,⟨0,by omega,K⟩,B,by simp⟩
theorem Cj (x:Int):IntKind.u64.wrap x=x % 18446744073709551616:=by
 show (if (false && decide (x % 2 ^ 64 ≥ 2 ^ (64 - 1)))=true then x % 2 ^ 64 - 2 ^ 64 else x % 2 ^ 64)=_
 simp
theorem Ni (a:Nat) (ha:a<18446744073709551616):bits .and .u64 (a:Int) 255=((a % 256:Nat):Int):=by
 show IntKind.u64.wrap ((BitVec.ofInt 64 (a:Int) &&& BitVec.ofInt 64 (255:Int)).toNat:Int)=_
 have h1:(BitVec.ofInt 64 (255:Int)).toNat=255:=by decide
 have h2:(BitVec.ofInt 64 (a:Int)).toNat=a:=by rw [BitVec.ofInt_natCast,BitVec.toNat_ofNat];exact Nat.mod_eq_of_lt (by omega)
 rw [BitVec.toNat_and,h1,h2,show a &&& 255=a % 256 from Nat.and_two_pow_sub_one_eq_mod a 8,Cj]
 have:=Nat.mod_lt a (show 0<256 by omega)
 omega
theorem nU (x:Int):0≤IntKind.u64.wrap x∧IntKind.u64.wrap x<18446744073709551616:=by
 rw [Cj];omega
theorem JJ (S:Int) (h0:0≤S) (h1:S<18446744073709551616):0≤wrap64 (bits .and .u64 (S / 1099511627776) 255)∧wrap64 (bits .and .u64 (S / 1099511627776) 255)≤255:=by
 obtain ⟨n,hn⟩:∃ n:Nat,S / 1099511627776=n:=⟨(S / 1099511627776).toNat,by omega⟩;rw [hn,Ni n (by omega)]
 have:=Nat.mod_lt n (show 0<256 by omega)
 unfold wrap64;omega
theorem Ei {w:World} {b n c p:Nat} {a:Option Addr} {sd:Int} (K:Blk w b [.slice a n c,.int .i64 p,.int .u64 sd] 108) (m k:Nat) (S:Int) (h0:0≤S) (h1:S<18446744073709551616) :
 Src ((((w.drewN m).setCell ⟨b,1,none⟩ (.int .i64 ((p:Int)+1))).setCell ⟨b,2,none⟩ (.int .u64 S)).drewN k) b a n c (p+1)∧w.grownBy ((((w.drewN m).setCell ⟨b,1,none⟩ (.int .i64 ((p:Int)+1))).setCell ⟨b,2,none⟩ (.int .u64 S)).drewN k) (some b):=by
 have K2:=(((K.drewN m).set 1 (.int .i64 ((p:Int)+1))).set 2 (.int .u64 S)).drewN k;simp only [List.set_cons_zero,List.set_cons_succ] at K2;refine ⟨⟨S,⟨h0,h1⟩,by simpa using K2⟩,?_⟩
 have g1:w.grownBy (w.drewN m) (some b):=⟨rfl,rfl,rfl,Nat.le_refl _,fun _ _ _=>rfl⟩
 have st:∀ (v:World) (j:Nat) (u:Value),v.grownBy (v.setCell ⟨b,j,none⟩ u) (some b):=fun v j u=>⟨rfl,rfl,rfl,by simp,fun i _ hi=>Below.heap_setCell _ _ _ _ (fun e=>hi (by simp [e]))⟩
 have g2:=gc (gc g1 (st _ 1 (.int .i64 ((p:Int)+1)))) (st _ 2 (.int .u64 S));exact gc g2 ⟨rfl,rfl,rfl,Nat.le_refl _,fun _ _ _=>rfl⟩
theorem Kj (w:World) (b:Nat) (a:Option Addr) (xs:List Int) (c p:Nat) (h:Src w b a xs.length c p) (hr:Rd w w.heap.size a (jg xs)) (hx:∀ x∈xs,0≤x∧x≤255) (hl:xs.length≤1048576) (hp:p≤1000000) :
 Calls Tryz.prog 59 #[.pointer (some ⟨b,0,none⟩)] w fun e w'=>∃ x,e=.returned (.int .i64 x)∧(0≤x∧x≤255)∧Src w' b a xs.length c (p+1)∧w.grownBy w' (some b):=by
 obtain ⟨sd,⟨sd0,sd1⟩,K⟩:=h;have c0:=K.cell 0;have c1:=K.cell 1;have c2:=K.cell 2;have f0:=K.free 0;have f1:=K.free 1;have f2:=K.free 2;simp only [List.getElem?_cons_zero,List.getElem?_cons_succ] at c0 c1 c2
 by_cases hlt:p<xs.length
 · obtain ⟨g,o,rfl,hg,hc⟩:=hr.atB hlt
   have ck:=hc p hlt;have hxk:=hx (xs.getD p 0) (by simp only [List.getD,List.getElem?_eq_getElem hlt];exact List.getElem_mem _)
   generalize xs.getD p 0=y at *
   obtain ⟨y0,y1⟩:=hxk;clear hr hc hx
   go_enter Tryz.func59,Tryz.ntmps59;go_wp2_with fail
   go_quiet (fail)
   go_wp2_with fail
   go_quiet (fail)
   go_wp2_with fail
   go_quiet (fail)
   go_wp2_with fail;go_ret;exact ⟨_,rfl,⟨y0,y1⟩,Ei K _ _ _ (nU _).1 (nU _).2⟩
 · clear hr hx
   go_enter Tryz.func59,Tryz.ntmps59;go_wp2_with fail
   go_quiet (fail)
   go_wp2_with fail
   go_quiet (fail)
   go_wp2_with fail;go_ret;exact ⟨_,rfl,JJ _ (nU _).1 (nU _).2,Ei K _ _ _ (nU _).1 (nU _).2⟩
theorem Kp (w:World) (b:Nat) (a:Option Addr) (xs:List Int) (c p:Nat) (n:Int) (h:Src w b a xs.length c p) (hr:Rd w w.heap.size a (jg xs)) (hx:∀ x∈xs,0≤x∧x≤255) (hl:xs.length≤1048576) (hp:p≤900000) (hn:n≤200) :
 Calls Tryz.prog 28 #[.pointer (some ⟨b,0,none⟩),.int .i64 n] w fun e w'=>∃ (x:Int) (p':Nat),e=.returned (.int .i64 x)∧(0≤x∧(x<n∨x=0))∧p'≤p+1∧Src w' b a xs.length c p'∧w.grownBy w' (some b):=by
 by_cases h1:n≤1
 · clear hr hx
   go_enter Tryz.func28,Tryz.ntmps28;go_wp2_with fail;go_ret;exact ⟨0,p,rfl,⟨by omega,.inr rfl⟩,by omega,h,World.grownBy.refl _ _⟩
 · have L:=Oi (Kj w b a xs c p h hr hx hl (by omega))
   clear h hr hx
   go_enter Tryz.func28,Tryz.ntmps28;go_wp2_with fail;refine L.out.mono ?_;rintro e w1 ⟨x,rfl,⟨x0,x1⟩,hs,hg⟩;have hm0:=Int.emod_nonneg x (show n≠0 by omega)
   have hm1:=Int.emod_lt_of_pos x (show 0<n by omega)
   go_wp2_with fail;go_ret;exact ⟨x % n,p+1,rfl,⟨hm0,.inl hm1⟩,by omega,hs,hg⟩
theorem Kx (w:World) (a:Option Addr) (c:Nat) (xs:List Int) (k n:Int) (h:Rd w w.heap.size a (jg xs)) (hl:xs.length≤1048576) (hx:∀ x∈xs,0≤x∧x≤255) (hk:0≤k) :
 Calls Tryz.prog 22 #[.slice a xs.length c,.int .i64 k,.int .i64 n] w fun e w'=>∃ x:Int,e=.returned (.int .i64 x)∧(0≤x∧(x<n∨x=0))∧w=w':=by
 by_cases h1:n≤1
 · clear h hx
   go_enter Tryz.func22,Tryz.ntmps22;go_wp2_with fail;go_ret;exact ⟨0,rfl,⟨by omega,.inr rfl⟩,rfl⟩
 · by_cases h2:k<xs.length
   · obtain ⟨j,rfl⟩:∃ j:Nat,k=j:=⟨k.toNat,by omega⟩
     have hj:j<xs.length:=by omega
     obtain ⟨b,o,rfl,hbb,hc⟩:=h.atB hj;have hck:=hc j hj;have hxk:=hx (xs.getD j 0) (by simp only [List.getD,List.getElem?_eq_getElem hj];exact List.getElem_mem _)
     generalize xs.getD j 0=x at *
     obtain ⟨x0,x1⟩:=hxk;clear h hx hc;have hm0:=Int.emod_nonneg x (show n≠0 by omega)
     have hm1:=Int.emod_lt_of_pos x (show 0<n by omega)
     go_enter Tryz.func22,Tryz.ntmps22;go_wp2_with fail;go_ret;exact ⟨x % n,rfl,⟨hm0,.inl hm1⟩,rfl⟩
   · clear h hx
     go_enter Tryz.func22,Tryz.ntmps22;go_wp2_with fail;go_ret;exact ⟨0,rfl,⟨by omega,.inr rfl⟩,rfl⟩
def qC (xs ys:List Int):Bool:=decide (48<xs.length) || decide (48<ys.length)
theorem FN (w:World) (a b:Option Addr) (c d:Nat) (xs ys:List Int) (hl:xs.length≤9223372036854775807) (hm:ys.length≤9223372036854775807) :
 Calls Tryz.prog 5 #[.slice a xs.length c,.slice b ys.length d] w fun e w'=>e=.returned (.bool (qC xs ys))∧w=w':=by
 cases h1:decide ((48:Int)<(xs.length:Int)) with
 | true =>
   have HF:Hid (qC xs ys=true):=by
    have:=of_decide_eq_true h1;have h:48<xs.length:=by omega
    simp [Hid,qC,h]
   go_enter Tryz.func5,Tryz.ntmps5;go_wp2_with fail;go_ret;exact ⟨ar HF.out.symm,rfl⟩
 | false =>
   have HF:Hid (qC xs ys=decide ((48:Int)<(ys.length:Int))):=by
    have:=of_decide_eq_false h1;have h:¬ 48<xs.length:=by omega
    show _=_
    unfold qC;rw [decide_eq_false h,Bool.false_or];exact decide_eq_decide.2 (by omega)
   go_enter Tryz.func5,Tryz.ntmps5;go_wp2_with fail;go_ret;exact ⟨ar HF.out.symm,rfl⟩
theorem cI {w w':World} {g:Nat} (h:Touch w w' g (g+1)):w.grownBy w' (some g) :=
 ⟨h.os,h.tape,h.output,h.size,fun q hq hne=>h.block q hq (by have:q≠g:=fun e=>hne (by rw [e]);omega)⟩
theorem jP {w w1 w2:World} {lo hi:Nat} (h:Touch w w1 lo hi) (hb:Below w.heap.size w1 w2):Touch w w2 lo hi :=
 ⟨hb.os.trans h.os,hb.tape.trans h.tape,hb.output.trans h.output,Nat.le_trans h.size hb.size,fun k hk hd=>(hb.block k hk).trans (h.block k hk hd)⟩
structure DS (w:World) (B0 b:Nat) (a:Option Addr) (xs:List Int) (c p:Nat):Prop where
 S:Src w b a xs.length c p
 R:Rd w B0 a (jg xs)
 lb:B0≤b
 hx:∀ x∈xs,0≤x∧x≤255
 hl:xs.length≤1048576
section
variable {w w':World} {B0 b c p:Nat} {a:Option Addr} {xs:List Int}
theorem DS.lt (h:DS w B0 b a xs c p):b<w.heap.size:=by obtain ⟨s,_,k⟩:=h.S;exact k.lt
theorem DS.same (h:DS w B0 b a xs c p) (hb:Below w.heap.size w w'):DS w' B0 b a xs c p :=
 ⟨h.S.same hb,h.R.below hb (by have:=h.lt;have:=h.lb;omega),h.lb,h.hx,h.hl⟩
theorem DS.touch {lo hi:Nat} (h:DS w B0 b a xs c p) (ht:Touch w w' lo hi) (hlo:b<lo):DS w' B0 b a xs c p:=by
 have:=h.lt;have:=h.lb;obtain ⟨s,h1,h2⟩:=h.S;exact ⟨⟨s,h1,h2.touch ht (.inl hlo)⟩,h.R.touch ht (by omega) (by omega),h.lb,h.hx,h.hl⟩
theorem es {B:Nat} (h:Below B w w'):Touch w w' B w.heap.size:=⟨h.os,h.tape,h.output,h.size,fun k hk hd=>h.block k (by omega)⟩
theorem pC {g:Nat} (h:w.grownBy w' (some g)):Touch w w' g (g+1):=Touch.of_grown h (Nat.le_refl _) (Nat.lt_succ_self _)
end
theorem dI (w:World) (B0 b:Nat) (a:Option Addr) (xs:List Int) (c p:Nat) (n:Int) (h:DS w B0 b a xs c p) (hp:p≤900000) (hn:n≤200) :
 Calls Tryz.prog 28 #[.pointer (some ⟨b,0,none⟩),.int .i64 n] w fun e w'=>∃ (x:Int) (p':Nat),e=.returned (.int .i64 x)∧(0≤x∧(x<n∨x=0))∧p'≤p+1∧DS w' B0 b a xs c p'∧Touch w w' b (b+1):=by
 have hlt:=h.lt;refine (Kp w b a xs c p n h.S (h.R.mono (by have:=h.lb;omega)) h.hx h.hl hp hn).mono ?_
 rintro e w' ⟨x,p',rfl,hx,hp',hs,hg⟩;exact ⟨x,p',rfl,hx,hp',⟨hs,h.R.grown hg h.lb (by have:=h.lb;omega),h.lb,h.hx,h.hl⟩,pC hg⟩
theorem rj {P:Program} (wr:World) {ops:Array Oper} {rest:List Oper} {o:Oper} {a:Act} {Q:Exit→Act→World→Prop}
 (hg:o.guard=none) (s x:Operand) (t:TypeId) (hop:o.op=Op.call { callee:=Callee.builtin Builtin.append,args:=#[s,x],argTypes:=#[t,t] })
 (base:Nat) (e:TypeId) (z:Value) (bytes:Nat) (h1:P.underlying t=some (.slice e)) (hinfo:(P.info? e).map (fun i=>(i.zero,i.size,i.bytes))=some (some z,1,bytes)) (hz:z.cells.size=1)
 (v:Value) (n:Nat) (xs:List Int) (hs:a.eval s=v) (hown:wr.ownsRow base e 1 v n (ae xs)) (b off m c:Nat) (ys:List Int) (hx:a.eval x=.slice (some ⟨b,off,none⟩) m c) (hm:ys.length=m)
 (hcell:∀ j,j<m→wr.cell? ⟨b,off+j,none⟩=some (.int .i64 (ys.getD j 0))) (hb:bytes≤64) (hn:n+m≤1099511627776) (hbase:base≤wr.heap.size)
 (hK:∀ v' w',w'.ownsRow base e 1 v' (n+m) (ae (xs ++ ys))→wr.grownBy w' v.ownBlock→wpList P ops Q rest (a.put o.dst v') w') :
 wpList P ops Q (o :: rest) a wr:=by
 obtain ⟨i,h2,h3,h4,h5⟩:=info_parts hinfo;have hbb:(n+m) * bytes≤140737488355328:=Nat.le_trans (Nat.mul_le_mul_left (n+m) hb) (by omega)
 refine wpList_append_own wr hg s x t hop base e i z 1 bytes h1 h2 h3 h4 h5 hz (by omega) v n (ae xs) hs hown ⟨b,off,none⟩ m c (ae ys) hx (by simp;omega) ?_ ?_ (by unfold maxLen;omega) hbb hbase (fun v' w' ho hgr _=>hK v' w' (by rw [bk];exact ho) hgr)
 · intro j u hj
   have hj':j<m:=by have:=(List.getElem?_eq_some_iff.1 hj).1;simp at this;omega
   have ea:(⟨b,off,none⟩:Addr).add j=⟨b,off+j,none⟩:=by unfold Addr.add;split <;> simp_all
   rw [ea,hcell j hj',← hj,eJ _ _ (by omega)]
 · intro u hu
   obtain ⟨x,_,rfl⟩:=List.mem_map.1 hu
   rfl
theorem lf (w:World) (e:Nat):(w.alloc (.cells #[] e)).ownsRow w.heap.size e 1 (.slice (some ⟨w.heap.size,0,none⟩) 0 0) 0 (ae []):=bz w e
theorem eo (w:World) (a:Option Addr) (c:Nat) (xs:List Int) (h:Rd w w.heap.size a (ae xs)) (hl1:1≤xs.length) (hl:xs.length≤1048576) :
 Calls Tryz.prog 69 #[.slice a xs.length c] w fun e w'=>∃ a' c',e=.returned (.slice a' xs.length c')∧OwnI 2 w' w.heap.size w'.heap.size a' c' xs∧Below w.heap.size w w':=by
 obtain ⟨b,o,rfl,hb,hcell⟩:=h.at (k:=0) (by omega)
 clear h;have hen:=fun (w:World) (a:Option Addr) (n c:Nat)=>Lib.run_eql_slice_nil (P:=Tryz.prog) w 24 2 a n c 0 0 Tryz.underlying24
 go_enter Tryz.func69,Tryz.ntmps69
 go_wp2_with (at_builtin;refine rj _ rfl _ _ 24 rfl w.heap.size 2 (.int .i64 0) 8 Tryz.underlying24 aZ rfl _ 0 [] rfl (lf w 2) b o xs.length c xs rfl rfl ?_ (by omega) (by omega) (by simp) ?_)
 · intro j hj
   rw [(ai w _).cell (p:=⟨b,o+j,none⟩) hb,hcell j hj]
 intro v1 w1 o1 g1;have B1:=ah (ai w (.cells #[] 2)) (lf w 2) g1 (Nat.le_refl _) (by simp)
 obtain ⟨a1,c1,rfl,_,_⟩:=ba o1;have HR:Hid (OwnI 2 w1 w.heap.size w1.heap.size a1 c1 xs):=OwnI.of_own (by simpa using o1)
 clear o1 g1 hcell;go_wp2_with fail;go_ret;exact ⟨_,_,by simp,HR.out,B1⟩
section
variable {T T2 lo hi c:Nat} {w w':World} {a:Option Addr} {yss:List (List Int)}
end
section
open Go.ChangeShapes Go.WideShapes
end
section
variable {w w':World} {B C lo hi:Nat} {a0:Option Addr} {x0:List (List Int)} {a1:Option Addr} {x1:List (List Int)} {c0:Nat} {c1:Nat}
end
theorem au (w:World) (g j:Nat) (u:Value):Touch w (w.setCell ⟨g,j,none⟩ u) g (g+1) :=
 Touch.of_grown (show w.grownBy (w.setCell ⟨g,j,none⟩ u) (some g) from ⟨rfl,rfl,rfl,by simp,fun i _ hi=>Below.heap_setCell _ _ _ _ (fun e=>hi (by simp [e]))⟩) (Nat.le_refl _) (Nat.lt_succ_self _)
theorem Ji {w w1 w2:World} {b lo hi:Nat} (h:Touch w w1 b (b+1)) (ht:Touch w1 w2 lo hi) (hlo:w.heap.size≤lo):Touch w w2 b (b+1) :=
 ⟨ht.os.trans h.os,ht.tape.trans h.tape,ht.output.trans h.output,Nat.le_trans h.size ht.size,fun k hk hd=>(ht.block k (by have:=h.size;omega) (by omega)).trans (h.block k hk hd)⟩
theorem OwnI.take {T lo hi c:Nat} {w:World} {a:Option Addr} {xs:List Int} (h:OwnI T w lo hi a c xs) (t:Nat):OwnI T w lo hi a c (xs.take t):=by
 refine ⟨⟨by simp,?_⟩,h.2⟩
 have hl:(xs.take t).length≤xs.length:=by simp;omega
 rcases h.1.2 with ⟨h1,h2⟩ | ⟨g,cap,cur,hv,hg,hh,hn,hm,hs,ht⟩
 · left
   injection h1 with e1 e2 e3
   have hx:xs=[]:=List.eq_nil_of_length_eq_zero h2;subst hx e1 e3;simp
 · right
   injection hv with e1 e2 e3
   refine ⟨g,cap,cur,by rw [e1,e3],hg,hh,by omega,hm,hs,?_⟩
   rw [Nat.mul_one] at ht ⊢;rw [show ae (xs.take t)=(ae xs).take t by simp [ae,List.map_take],← ht,List.take_take,List.length_take]
end Go.Proofs.YtbknhgapjjaelaaGreatDoor
