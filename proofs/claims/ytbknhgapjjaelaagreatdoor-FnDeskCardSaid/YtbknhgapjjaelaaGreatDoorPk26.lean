/-
  Part 26 of what the proof stands on: lemmas and contracts, each with its conditions ahead of the colon.
-/
import Derived.Test.YtbknhgapjjaelaaGreatDoorPk01
import Derived.Test.YtbknhgapjjaelaaGreatDoorPk02
import Derived.Test.YtbknhgapjjaelaaGreatDoorPk03
import Derived.Test.YtbknhgapjjaelaaGreatDoorPk07
import Derived.Test.YtbknhgapjjaelaaGreatDoorPk12
import Derived.Test.YtbknhgapjjaelaaGreatDoorPk13
import Derived.Test.YtbknhgapjjaelaaGreatDoorPk17
import Derived.Test.YtbknhgapjjaelaaGreatDoorPk20
import Derived.Test.YtbknhgapjjaelaaGreatDoorPk25
set_option maxRecDepth 10000
set_option maxHeartbeats 8000000
namespace Go.Proofs.YtbknhgapjjaelaaGreatDoor
set_option linter.unusedVariables false
set_option linter.unusedSimpArgs false
open Go.RowKit
theorem dO {d:DD} (h:d.ok=true):d.small:=by
 obtain ⟨⟨_,a⟩,⟨_,b⟩,⟨_,v⟩,⟨_,l⟩,⟨_,k⟩,_,f⟩:=DD.ok_len h;exact ⟨by omega,by omega,by omega,by omega,by omega,by omega⟩
def Ih (p:mZ):Prop:=Fv p.1 p.2∧∀ d:DD,d.ok=true→(p.2 d).1.ok=true∧(p.2 d).2.length≤1048576
theorem Lm {f:DD→ib} {d:DD} (h:∀ d' t,f d=some (some (d',t))→t.length≤1048576):(gp f d).2.length≤1048576:=by
 unfold gp
 split
 · show 4≤_;decide
 · show 2≤_;decide
 · rename_i d' t e
   split
   · exact h _ _ e
   · show 2≤_;decide
theorem Ie {l:List UInt8} {f:DD→ib} (hl:l.length≤1048576) (HC:kL (co 32 l) f) (HS:∀ d d' t,d.ok=true→f d=some (some (d',t))→d'.small∧t.length≤1048576):Ih (l,gp f) :=
 ⟨Bu hl HC (fun d d' t h e=>(HS d d' t h e).1),fun d h=>⟨AI h,Lm (fun d' t e=>(HS d d' t h e).2)⟩⟩
theorem zN {r:Option (List UInt8)} {d d':DD} {t:List UInt8} (h:(some (r.map fun t=>(d,t)):ib)=some (some (d',t))):d'=d∧r=some t:=by
 injection h with h
 cases r with
 | none=>cases h
 | some s=>injection h with h;injection h with h1 h2;exact ⟨h1.symm,by rw [h2]⟩
theorem Aq (R C:Nat) (xs:List Int) (m:Nat):(aD R C xs m).length=m:=by simp [aD]
def qj (R C:Nat) (xs ys:List Int) (r k:Nat):Option (Nat × Nat) :=
 if aQ C xs r k<aQ C xs ((dg R C xs k).getD 0 0).toNat k then some (((dg R C xs k).getD 0 0).toNat,k)
 else if aQ C ys r k<aQ C ys r ((dg C R (aD R C ys (C * R)) r).getD 0 0).toNat then some (r,((dg C R (aD R C ys (C * R)) r).getD 0 0).toNat)
 else none
def fI (R C:Nat) (xs ys:List Int):Nat→Nat→Nat→List Int→List Int
 | 0,_,_,out=>out
 | f+1,r,k,out=>match qj R C xs ys r k with
   | none=>out
   | some (r',k')=>if bF out ((r' * C+k':Nat):Int) then out ++ [((r' * C+k':Nat):Int)] else fI R C xs ys f r' k' (out ++ [((r' * C+k':Nat):Int)])
def mr (R C:Nat) (xs ys:List Int) (r k:Nat):List Int:=fI R C xs ys 40 r k [((r * C+k:Nat):Int)]
theorem Cm {R C:Nat} {xs ys:List Int} {f r k:Nat} {out:List Int} (h:qj R C xs ys r k=none):fI R C xs ys (f+1) r k out=out:=by rw [fI,h]
theorem qY {R C:Nat} {xs ys:List Int} {f r k r' k':Nat} {out:List Int} (h:qj R C xs ys r k=some (r',k')) (hc:bF out ((r' * C+k':Nat):Int)=true):fI R C xs ys (f+1) r k out=out ++ [((r' * C+k':Nat):Int)]:=by
 rw [fI,h];simp only;rw [if_pos hc]
theorem tk {R C:Nat} {xs ys:List Int} {f r k r' k':Nat} {out:List Int} (h:qj R C xs ys r k=some (r',k')) (hc:bF out ((r' * C+k':Nat):Int)=false):fI R C xs ys (f+1) r k out=fI R C xs ys f r' k' (out ++ [((r' * C+k':Nat):Int)]):=by
 rw [fI,h];simp only;rw [if_neg (by rw [hc];decide)]
theorem wR {R C:Nat} {xs:List Int} {k:Nat} (hR:1≤R):∃ j:Nat,j<R∧(dg R C xs k).getD 0 0=(j:Int)∧1≤(dg R C xs k).length:=by
 obtain ⟨n,rfl⟩:∃ n,R=n+1:=⟨R - 1,by omega⟩;have hne:dg (n+1) C xs k≠[]:=Ft _ n
 cases hb:dg (n+1) C xs k with
 | nil=>exact absurd hb hne
 | cons o t =>
   obtain ⟨j,e,hj⟩:=rH (fun i=>aQ C xs i k) (n+1) o (by show o∈dg (n+1) C xs k;rw [hb];simp)
   exact ⟨j,hj,e,by simp⟩
structure CellsOk (n:Nat) (out:List Int):Prop where
 nd:out.Nodup
 lt:∀ z∈out,∃ j:Nat,z=(j:Int)∧j<n
theorem CellsOk.len {n:Nat} {out:List Int} (h:CellsOk n out):out.length≤n:=by
 have h2:=List.Nodup.length_le_of_subset (l₁:=out) (l₂:=eD n) h.nd (fun z hz=>by
  obtain ⟨j,rfl,hj⟩:=h.lt z hz;exact List.mem_map.2 ⟨j,List.mem_range.2 hj,rfl⟩)
 rwa [bE] at h2
theorem CellsOk.one {n c:Nat} (h:c<n):CellsOk n [(c:Int)]:=⟨by simp,fun z hz=>⟨c,by simpa using hz,h⟩⟩
theorem CellsOk.more {n c:Nat} {out:List Int} (h:CellsOk n out) (hc:c<n) (hn:bF out (c:Int)=false):CellsOk n (out ++ [(c:Int)]):=by
 have hnm:(c:Int)∉out:=fun hm=>by rw [jJ.2 hm] at hn;cases hn
 refine ⟨List.nodup_append.2 ⟨h.nd,by simp,fun a ha b hb=>?_⟩,fun z hz=>?_⟩
 · rw [List.mem_singleton] at hb
   subst hb;rintro rfl;exact hnm ha
 · rcases List.mem_append.1 hz with hz | hz
   · exact h.lt z hz
   · exact ⟨c,by simpa using hz,hc⟩
theorem vc (R C:Nat) (xs ys:List Int):∀ f r k out,(fI R C xs ys f r k out).length≤out.length+f
 | 0,_,_,out=>by rw [fI];omega
 | f+1,r,k,out=>by
   rw [fI]
   split
   · omega
   · rename_i r' k' _
     split
     · simp
     · have:=vc R C xs ys f r' k' (out ++ [((r' * C+k':Nat):Int)])
       rw [List.length_append,List.length_singleton] at this;omega
theorem EB (R C:Nat) (xs ys:List Int) (r k:Nat):(mr R C xs ys r k).length≤41:=by
 have:=vc R C xs ys 40 r k [((r * C+k:Nat):Int)];simpa [mr] using this
def qL (xs ys:List Int) (x y:Nat):Bool:=decide (xs.getD x 0≤xs.getD y 0) && decide (ys.getD x 0≤ys.getD y 0) && (decide (xs.getD x 0<xs.getD y 0) || decide (ys.getD x 0<ys.getD y 0))
def eV (xs ys:List Int) (n m:Nat):List Int:=((List.range m).filter fun x=>!iz (qL xs ys x) n).map fun (j:Nat)=>(j:Int)
theorem zV (xs ys:List Int) (n m:Nat):eV xs ys n (m+1)=if iz (qL xs ys m) n=true then eV xs ys n m else eV xs ys n m ++ [(m:Int)]:=by
 unfold eV;rw [List.range_succ,List.filter_append]
 by_cases h:iz (qL xs ys m) n=true
 · rw [if_pos h];simp [h]
 · rw [if_neg h];simp [h]
theorem sY (xs ys:List Int) (n m:Nat):(eV xs ys n m).length≤m:=by
 unfold eV;rw [List.length_map];exact Nat.le_trans (List.length_filter_le _ _) (by simp)
theorem IN (w:World) (gB xB:Nat) (R C:Int) (x y:Nat) (aA aB:Option Addr) (cA cB:Nat) (xA yB:List Int) (hg:Blk w gB [.int .i64 R,.int .i64 C,.slice aA xA.length cA,.slice aB yB.length cB] 26) (hx:Blk w xB [.int .i64 x] 3) (hA:Rd w w.heap.size aA (ae xA)) (hB:Rd w w.heap.size aB (ae yB)) (h1:x<xA.length) (h2:y<xA.length) (hl:xA.length=yB.length) :
 Calls Tryz.prog 169 #[.int .i64 y,.pointer (some ⟨gB,0,none⟩),.pointer (some ⟨xB,0,none⟩)] w fun e w'=>e=.returned (.bool (qL xA yB x y))∧Below w.heap.size w w':=by
 obtain ⟨bA,oA,eA,bA1,hcA⟩:=hA.at h1;obtain ⟨bB,oB,eB,bB1,hcB⟩:=hB.at (k:=x) (by omega)
 subst eA;subst eB;have cAx:=hcA x h1;have cAy:=hcA y h2;have cBx:=hcB x (by omega)
 have cBy:=hcB y (by omega)
 have HF:Hid (qL xA yB x y=(decide (xA.getD x 0≤xA.getD y 0) && decide (yB.getD x 0≤yB.getD y 0) && (decide (xA.getD x 0<xA.getD y 0) || decide (yB.getD x 0<yB.getD y 0)))):=rfl
 have x0:(0:Int)≤(x:Int):=Int.natCast_nonneg _;have y0:(0:Int)≤(y:Int):=Int.natCast_nonneg _;have x1:(x:Int)<(xA.length:Int):=by omega
 have y1:(y:Int)<(xA.length:Int):=by omega
 have x2:(x:Int)<(yB.length:Int):=by omega
 have y2:(y:Int)<(yB.length:Int):=by omega
 clear hcA hcB hA hB h1 h2 hl;rw [HF.out];generalize xA.getD x 0=q at *
 generalize xA.getD y 0=p at *
 generalize yB.getD x 0=s at *
 generalize yB.getD y 0=r at *
 clear HF;have D0:∀ z9:Later w,z9.w'.cell? ⟨gB,2,none⟩=some (.slice (some ⟨bA,oA,none⟩) xA.length cA):=fun z9=>(z9.h.cell (p:=⟨gB,2,none⟩) hg.lt).trans (hg.cell 2)
 have D1:∀ z9:Later w,z9.w'.cell? ⟨gB,3,none⟩=some (.slice (some ⟨bB,oB,none⟩) yB.length cB):=fun z9=>(z9.h.cell (p:=⟨gB,3,none⟩) hg.lt).trans (hg.cell 3)
 have D2:∀ z9:Later w,z9.w'.cell? ⟨xB,0,none⟩=some (.int .i64 x):=fun z9=>(z9.h.cell (p:=⟨xB,0,none⟩) hx.lt).trans (hx.cell 0)
 have D3:∀ z9:Later w,z9.w'.cell? ⟨bA,oA+x,none⟩=some (.int .i64 q):=fun z9=>z9.cell (p:=⟨bA,oA+x,none⟩) bA1 cAx
 have D4:∀ z9:Later w,z9.w'.cell? ⟨bA,oA+y,none⟩=some (.int .i64 p):=fun z9=>z9.cell (p:=⟨bA,oA+y,none⟩) bA1 cAy
 have D5:∀ z9:Later w,z9.w'.cell? ⟨bB,oB+x,none⟩=some (.int .i64 s):=fun z9=>z9.cell (p:=⟨bB,oB+x,none⟩) bB1 cBx
 have D6:∀ z9:Later w,z9.w'.cell? ⟨bB,oB+y,none⟩=some (.int .i64 r):=fun z9=>z9.cell (p:=⟨bB,oB+y,none⟩) bB1 cBy
 clear hg hx cAx cAy cBx cBy bA1 bB1
 cases t1:decide (q≤p) with
 | false =>
   go_enter Tryz.func169,Tryz.ntmps169;go_wp2_with fail;refine bf (by kernel_rfl) (by kernel_rfl) ?_
   try simp only [List.append]
   repeat (go_big_quiet_step (fail))
   refine wpQuiet_nil ?_
   rintro wq ⟨⟨_,hbq⟩,rfl⟩;have HW:=Na hbq;clear D0 D1 D2 D3 D4 D5 D6 hbq;go_wp2_with fail;go_ret;exact ⟨rfl,HW.out⟩
 | true =>
 cases t2:decide (s≤r) with
 | false =>
   go_enter Tryz.func169,Tryz.ntmps169;go_wp2_with fail;refine bf (by kernel_rfl) (by kernel_rfl) ?_
   try simp only [List.append]
   repeat (go_big_quiet_step (fail))
   refine wpQuiet_nil ?_
   rintro wq ⟨⟨_,hbq⟩,rfl⟩;have HW:=Na hbq;clear D0 D1 D2 D3 D4 D5 D6 hbq;go_wp2_with fail;go_ret;exact ⟨rfl,HW.out⟩
 | true =>
 cases t3:decide (q<p) with
 | true =>
   go_enter Tryz.func169,Tryz.ntmps169;go_wp2_with fail;refine bf (by kernel_rfl) (by kernel_rfl) ?_
   try simp only [List.append]
   repeat (go_big_quiet_step (fail))
   refine wpQuiet_nil ?_
   rintro wq ⟨⟨_,hbq⟩,rfl⟩;have HW:=Na hbq;clear D0 D1 D2 D3 D4 D5 D6 hbq;go_wp2_with fail;go_ret;exact ⟨rfl,HW.out⟩
 | false =>
 go_enter Tryz.func169,Tryz.ntmps169;go_wp2_with fail;refine bf (by kernel_rfl) (by kernel_rfl) ?_
 try simp only [List.append]
 repeat (go_big_quiet_step (fail))
 refine wpQuiet_nil ?_
 rintro wq ⟨⟨_,hbq⟩,rfl⟩;have HW:=Na hbq;clear D0 D1 D2 D3 D4 D5 D6 hbq;go_wp2_with fail;go_ret;exact ⟨rfl,HW.out⟩
def J8 (l:List Int) (w:World) (e:Ending) (w':World):Prop:=∃ a c,e=.returned (.tuple #[.slice a l.length c,.bool true])∧Rd w' w'.heap.size a (ae l)∧Below w.heap.size w w'
theorem EP (w:World) (R C:Int) (aA:Option Addr) (cA:Nat) (xA:List Int) (aB:Option Addr) (cB:Nat) (xB:List Int) (hG:bY R C xA xB=true) (hA:Rd w w.heap.size aA (ae xA)) (hB:Rd w w.heap.size aB (ae xB)) :
 Calls Tryz.prog 125 #[.agg #[.int .i64 R,.int .i64 C,.slice aA xA.length cA,.slice aB xB.length cB]] w (J8 (eV xA xB xA.length xA.length) w):=by
 obtain ⟨R',C',e1,e2,r1,r6,c1,c6,lA,lB,-,-⟩:=ef hG;have hRC:R' * C'≤6 * 6:=Nat.mul_le_mul r6 c6;have hn:xA.length≤36:=by omega
 have hlen:xA.length=xB.length:=by omega
 have HB1:=Na (ah w (.cells #[.int .i64 R,.int .i64 C,.slice aA xA.length cA,.slice aB xB.length cB] 26));have KG:=Na (Blk.new w [.int .i64 R,.int .i64 C,.slice aA xA.length cA,.slice aB xB.length cB] 26);have LV:=Na (fun v (hb:Below w.heap.size w v)=>dX v R C aA cA xA aB cB xB ⟨hA.to hb,hB.to hb⟩ (by omega) (by omega))
 have LK:=Na (fun v=>gc v xA.length (by omega))
 rw [hG] at LV;have HA:=Na hA;have HBb:=Na hB;have HL:=Na hlen;obtain ⟨n,hnn⟩:∃ n,n=xA.length:=⟨_,rfl⟩;rw [← hnn] at hn HL LK;have HN:=Na hnn;clear hA hB hG lA lB e1 e2 r1 r6 c1 c6 hRC hlen
 go_enter Tryz.func125,Tryz.ntmps125;go_wp2_with fail;refine (LV.out _ HB1.out).mono ?_;rintro e w1 ⟨rfl,hb⟩;have B1:=Na (aa HB1.out hb);have K1:=Na (KG.out.same hb);have hs1:w.heap.size+1≤w1.heap.size:=by have:=hb.size;rw [World.size_alloc] at this;exact this
 have HO:=Na (bD w1 2);have K2:=Na (K1.out.same (ah w1 (.cells #[] 2)));have B2:=Na (aa B1.out (ah w1 (.cells #[] 2)));have q2:(w1.alloc (.cells #[] 2)).cell? ⟨w.heap.size,2,none⟩=some (.slice aA n cA):=by rw [K2.out.cell,hnn];rfl
 have hs2:w1.heap.size≤(w1.alloc (.cells #[] 2)).heap.size:=by simp
 clear LV hb K1 B1 HB1 KG hnn;go_wp2_with fail;clear q2
 go_loopw [13,4] (fun iv ov wr=>∃ (i:Nat) (v:Value),i≤n∧iv=.int .i64 i∧ov=v∧Hid (wr.ownsRow w1.heap.size 2 1 v (eV xA xB n i).length (ae (eV xA xB n i)))∧Hid (Below w.heap.size w wr)∧Hid (Blk wr w.heap.size [.int .i64 R,.int .i64 C,.slice aA xA.length cA,.slice aB xB.length cB] 26)∧w1.heap.size≤wr.heap.size) (fun iv _ _=>n - (intOf iv).toNat)
 case atStart=>exact ⟨0,_,Nat.zero_le _,rfl,rfl,HO.out,B2.out,K2.out,hs2⟩
 case round =>
  clear HO B2 K2 hs2;obtain ⟨i,v,hi,rfl,rfl,ho,hw,hK,hsz⟩:=hrel;have i0:(0:Int)≤(i:Int):=Int.natCast_nonneg _
  by_cases hlt:i<n
  · have hii:(i:Int)<(n:Int):=by omega
    have hs:=Na (zV xA xB n i);have hll:=sY xA xB n i;have KI:=Na (Blk.new wr [.int .i64 i] 3);have BI:=Na (ah wr (.cells #[.int .i64 i] 3));have q2:(wr.alloc (.cells #[.int .i64 i] 3)).cell? ⟨w.heap.size,2,none⟩=some (.slice aA n cA):=by rw [(hK.out.same BI.out).cell,HN.out];rfl
    have LC:=Na (fun (v:World) (al:Option Addr) (cl:Nat) (hb:Below (wr.heap.size+1) (wr.alloc (.cells #[.int .i64 i] 3)) v) (hal:Rd v v.heap.size al (ae (eD n)))=>lj 169 #[.pointer (some ⟨w.heap.size,0,none⟩),.pointer (some ⟨wr.heap.size,0,none⟩)] (fun _ _=>by kernel_rfl) v al cl (ae (eD n)) (qL xA xB i) hal (by rw [ints_length,bE];omega) (fun w' j u hb2 hj=>by
     have hj':j<n:=by have:=(List.getElem?_eq_some_iff.1 hj).1;simpa [bE] using this
     rw [ex _ _ (by rw [bE];exact hj')] at hj
     injection hj with hj
     subst hj;rw [bZ (nM hj')];have hb3:Below (wr.heap.size+1) (wr.alloc (.cells #[.int .i64 i] 3)) w':=hb.trans (hb2.mono (by have:=hb.size;rw [World.size_alloc] at this;exact this))
     have hb4:Below wr.heap.size wr w':=BI.out.trans (hb3.mono (by omega))
     have hb5:Below w.heap.size w w':=aa hw.out hb4;exact IN w' w.heap.size wr.heap.size R C i j aA aB cA cB xA xB (hK.out.same hb4) (KI.out.below hb3 (by omega)) (HA.out.to hb5) (HBb.out.to hb5) (by have:=HN.out;omega) (by have:=HN.out;omega) (by have:=HN.out;have:=HL.out;omega)))
    go_wp2_with fail;refine (LK.out _).mono ?_;rintro e w3 ⟨al,cl,rfl,hoa,hb⟩;have LC1:=Na (LC.out w3 al cl (by rw [World.size_alloc] at hb;exact hb) (ay hoa (Nat.le_refl _)))
    rw [ints_length,bE] at LC1;have HBa:=Na (aa BI.out hb);have ci:Hid (Blk w3 wr.heap.size [.int .i64 i] 3):=KI.out.below hb (by simp)
    clear hoa hb q2 LC LK;go_wp2_with fail;refine LC1.out.mono ?_;rintro e w4 ⟨rfl,hb2⟩;have HB4:=Na (aa HBa.out hb2);have cj:w4.cell? ⟨wr.heap.size,0,none⟩=some (.int .i64 i):=by rw [(ci.out.same hb2).cell];rfl
    have hW2:=Na (aa hw.out HB4.out);have hK2:=Na (hK.out.same HB4.out);have hO2:=Na (aG ho.out HB4.out);have hsz2:w1.heap.size≤w4.heap.size:=by have:=HB4.out.size;omega
    clear hb2 ho hw ci HBa HB4 KI BI LC1 hK
    cases hwb:iz (qL xA xB i) n with
    | true =>
      rw [hwb,if_pos rfl] at hs;clear cj;go_wp2_with fail;go_roundw
      case rel=>exact ⟨i+1,_,by omega,by go_num,rfl,by rw [hs.out];exact hO2.out,hW2,hK2,hsz2⟩
      case measure=>simp [intOf];omega
    | false =>
      rw [hwb,if_neg (by decide)] at hs
      go_wp2_with (at_builtin;refine aH _ rfl _ _ 24 rfl w1.heap.size 2 (.int .i64 0) 8 Tryz.underlying24 aU rfl _ _ _ rfl hO2.out (.int .i64 i) rfl rfl (by omega) (by omega) hsz2 ?_)
      intro v8 w8 o8 g8;have B8:=Na (ai hW2.out hO2.out g8 (by omega) (by have:=hW2.out.size;omega))
      have K8:Hid (Blk w8 w.heap.size [.int .i64 R,.int .i64 C,.slice aA xA.length cA,.slice aB xB.length cB] 26):=hK2.out.below (ai (Below.refl w1.heap.size w4) hO2.out g8 (Nat.le_refl _) hsz2) (by omega)
      have H8:Hid (w8.ownsRow w1.heap.size 2 1 v8 (eV xA xB n (i+1)).length (ae (eV xA xB n (i+1)))):=by rw [hs.out,bh,List.length_append];exact o8
      have hs8:w1.heap.size≤w8.heap.size:=by have:=g8.size;omega
      clear o8 g8 hO2 hW2 hs cj hK2;go_wp2_with fail;go_roundw
      case rel=>exact ⟨i+1,v8,by omega,by go_num,rfl,H8,B8,K8,hs8⟩
      case measure=>simp [intOf];omega
  · obtain rfl:i=n:=by omega
    obtain ⟨a',c',e',hcap,_⟩:=bj ho.out;subst e';have HRd:=Na (ay ho.out (Nat.le_refl _));have HPL:Hid (eV xA xB xA.length xA.length=eV xA xB i i):=by rw [Hid,← HN.out]
    clear ho hcap hK;go_wp2_with fail
    go_ret2
    rw [HPL.out];exact ⟨a',c',rfl,HRd.out,hw.out⟩
theorem J9 (x:Nat) (h:x≤1099511627776):wrap64 (x:Int)=x:=by
 unfold wrap64;omega
theorem Cb (w:World) (a b:Nat) (h1:1≤a) (ha:a≤1099511627776) (h2:1≤b) (hb:b≤1099511627776) :
 Calls Tryz.prog 183 #[.int .i64 a,.int .i64 b] w fun e w'=>e=.returned (.tuple #[.int .i64 (a / Nat.gcd a b:Nat),.int .i64 (b / Nat.gcd a b:Nat),.bool true])∧∃ n,w'=w.drewN n:=by
 have hnb:((b:Int) == 0)=false:=by simp;omega
 have hnn:¬ ((b:Int)<0):=by omega
 have LA:=Na (fun v=>rP v a ha)
 have LB:=Na (fun v=>rP v b hb)
 have LC:=Na (fun v=>En v a b ha hb)
 have hg0:0<Nat.gcd a b:=Kq (by omega)
 have hga:Nat.gcd a b≤a:=Nat.gcd_le_left b (by omega)
 have Hda:Hid (((a / Nat.gcd a b:Nat):Int)=(a:Int) / ((Nat.gcd a b:Nat):Int)):=by simp [Hid]
 have Hdb:Hid (((b / Nat.gcd a b:Nat):Int)=(b:Int) / ((Nat.gcd a b:Nat):Int)):=by simp [Hid]
 generalize Nat.gcd a b=g at *
 have hqa:a / g≤a:=Nat.div_le_self _ _;have hqb:b / g≤b:=Nat.div_le_self _ _;have Hwa:Hid (wrap64 ((a:Int) / (g:Int))=((a / g:Nat):Int)):=by show _=_;rw [← Hda.out];exact J9 _ (Nat.le_trans hqa ha)
 have Hwb:Hid (wrap64 ((b:Int) / (g:Int))=((b / g:Nat):Int)):=by show _=_;rw [← Hdb.out];exact J9 _ (Nat.le_trans hqb hb)
 clear hqa hqb;have hgz:((g:Int) == 0)=false:=by simp;omega
 have hgn:(g:Int)≠0:=by omega
 have hgp:(0:Int)<(g:Int):=by omega
 go_enter Tryz.func183,Tryz.ntmps183;go_wp2_with fail;refine (LA.out _).mono ?_;rintro e w1 ⟨rfl,rfl⟩;go_wp2_with fail;refine (LB.out _).mono ?_;rintro e w2 ⟨rfl,rfl⟩;go_wp2_with fail;refine (LC.out _).mono ?_;rintro e w3 ⟨rfl,m,rfl⟩;clear LA LB LC;go_wp2_with fail
 go_quiet (fail)
 go_wp2_with fail;go_ret3;exact ⟨by show Ending.returned (.tuple #[.int .i64 (wrap64 ((a:Int) / (g:Int))),.int .i64 (wrap64 ((b:Int) / (g:Int))),.bool true])=_;rw [Hwa.out,Hwb.out],_,by first | rfl | exact World.drewN_drewN _ _ _⟩
theorem FY (w:World) (U R:Int) (a2:Option Addr) (c2:Nat) (x2:List Int) (a3:Option Addr) (c3:Nat) (x3:List Int) (h:RdCrowd w w.heap.size a2 x2 a3 x3) (hl2:x2.length≤1048576) (hl3:x3.length≤1048576) :
 Calls Tryz.prog 131 #[.agg #[.int .i64 U,.int .i64 R,.slice a2 x2.length c2,.slice a3 x3.length c3]] w fun e w'=>e=.returned (.tuple #[.int .i64 (fJ ⟨U,R,x2,x3⟩).1,.int .i64 (fJ ⟨U,R,x2,x3⟩).2.1,.bool (fJ ⟨U,R,x2,x3⟩).2.2])∧Below w.heap.size w w':=by
 have LW:=Na (fun w' hb=>Gm w' U R a2 c2 x2 a3 c3 x3 (h.to hb) hl2 hl3)
 have LL:=Na (fun w' hb=>FN w' U R a2 c2 x2 a3 c3 x3 (h.to hb) hl2 hl3)
 rcases Hj ⟨U,R,x2,x3⟩ with ⟨p1,p2,p3⟩ | ⟨bw,bl,m,l,p1,p2,p3,p4⟩ | ⟨bw,bl,m,l,p1,p2,p3,p4,p5,p6⟩
 · rw [p3]
   rw [p1] at LW;rw [p2] at LL;clear h p1 p2 p3
   go_enter Tryz.func131,Tryz.ntmps131;go_wp2_with fail;refine (LW.out _ (ah _ _)).mono ?_;rintro e w0 ⟨hb0,rfl⟩;have B0:=aa (ah w (.cells #[.int .i64 U,.int .i64 R,.slice a2 x2.length c2,.slice a3 x3.length c3] 30)) hb0;have kA:=(Blk.new w [.int .i64 U,.int .i64 R,.slice a2 x2.length c2,.slice a3 x3.length c3] 30).same hb0;obtain ⟨q0,q1,q2,q3⟩:_∧_∧_∧_:=⟨kA.cell 0,kA.cell 1,kA.cell 2,kA.cell 3⟩;simp only [List.getElem?_cons_zero,List.getElem?_cons_succ] at q0 q1 q2 q3;clear kA hb0;go_wp2_with fail;refine (LL.out _ B0).mono ?_;rintro e w1 ⟨hb1,rfl⟩;have B1:=aa B0 hb1;clear hb1 q0 q1 q2 q3 LW LL;go_wp2_with fail;go_ret3;exact ⟨rfl,B1⟩
 · rw [p3]
   rw [p1] at LW;rw [p2] at LL;clear h p1 p2 p3
   go_enter Tryz.func131,Tryz.ntmps131;go_wp2_with fail;refine (LW.out _ (ah _ _)).mono ?_;rintro e w0 ⟨hb0,aW,cW,rfl,_⟩;have B0:=aa (ah w (.cells #[.int .i64 U,.int .i64 R,.slice a2 x2.length c2,.slice a3 x3.length c3] 30)) hb0;have kA:=(Blk.new w [.int .i64 U,.int .i64 R,.slice a2 x2.length c2,.slice a3 x3.length c3] 30).same hb0;obtain ⟨q0,q1,q2,q3⟩:_∧_∧_∧_:=⟨kA.cell 0,kA.cell 1,kA.cell 2,kA.cell 3⟩;simp only [List.getElem?_cons_zero,List.getElem?_cons_succ] at q0 q1 q2 q3;clear kA hb0;go_wp2_with fail;refine (LL.out _ B0).mono ?_;rintro e w1 ⟨hb1,aL,cL,rfl,_⟩;have B1:=aa B0 hb1;clear hb1 q0 q1 q2 q3 LW LL;go_wp2_with fail;go_ret3;exact ⟨rfl,B1⟩
 · rw [p3]
   rw [p1] at LW;rw [p2] at LL;have hnl:¬ ((l:Int)<1):=by omega
   have LR:=Na (fun v=>Cb v m l (by omega) (by omega) p4 (by omega))
   clear h p1 p2 p3;generalize m / Nat.gcd m l=u1 at *
   generalize l / Nat.gcd m l=u2 at *
   go_enter Tryz.func131,Tryz.ntmps131;go_wp2_with fail;refine (LW.out _ (ah _ _)).mono ?_;rintro e w0 ⟨hb0,aW,cW,rfl,_⟩;have B0:=aa (ah w (.cells #[.int .i64 U,.int .i64 R,.slice a2 x2.length c2,.slice a3 x3.length c3] 30)) hb0;have kA:=(Blk.new w [.int .i64 U,.int .i64 R,.slice a2 x2.length c2,.slice a3 x3.length c3] 30).same hb0;obtain ⟨q0,q1,q2,q3⟩:_∧_∧_∧_:=⟨kA.cell 0,kA.cell 1,kA.cell 2,kA.cell 3⟩;simp only [List.getElem?_cons_zero,List.getElem?_cons_succ] at q0 q1 q2 q3;clear kA hb0;go_wp2_with fail;refine (LL.out _ B0).mono ?_;rintro e w1 ⟨hb1,aL,cL,rfl,_⟩;have B1:=aa B0 hb1;clear hb1 q0 q1 q2 q3 LW LL;go_wp2_with fail;refine (LR.out _).mono ?_;rintro e w5 ⟨rfl,mm,rfl⟩;go_wp2_with fail;go_ret3;exact ⟨rfl,ag B1 mm⟩
end Go.Proofs.YtbknhgapjjaelaaGreatDoor
