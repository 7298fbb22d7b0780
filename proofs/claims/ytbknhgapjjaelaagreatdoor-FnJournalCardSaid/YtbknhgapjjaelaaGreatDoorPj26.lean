/-
  Part 26 of what the proof stands on: lemmas and contracts, each with its conditions ahead of the colon.
-/
import Derived.Test.YtbknhgapjjaelaaGreatDoorPj01
import Derived.Test.YtbknhgapjjaelaaGreatDoorPj03
import Derived.Test.YtbknhgapjjaelaaGreatDoorPj07
import Derived.Test.YtbknhgapjjaelaaGreatDoorPj08
import Derived.Test.YtbknhgapjjaelaaGreatDoorPj10
import Derived.Test.YtbknhgapjjaelaaGreatDoorPj19
import Derived.Test.YtbknhgapjjaelaaGreatDoorPj20
set_option maxRecDepth 10000
set_option maxHeartbeats 8000000
namespace Go.Proofs.YtbknhgapjjaelaaGreatDoor
set_option linter.unusedVariables false
set_option linter.unusedSimpArgs false
open Go.RowKit
def qJ (R C:Nat) (xs ys:List Int) (r k:Nat):Option (Nat × Nat) :=
 if aU C xs r k<aU C xs ((dj R C xs k).getD 0 0).toNat k then some (((dj R C xs k).getD 0 0).toNat,k)
 else if aU C ys r k<aU C ys r ((dj C R (aG R C ys (C * R)) r).getD 0 0).toNat then some (r,((dj C R (aG R C ys (C * R)) r).getD 0 0).toNat)
 else none
def fS (R C:Nat) (xs ys:List Int):Nat→Nat→Nat→List Int→List Int
 | 0,_,_,out=>out
 | f+1,r,k,out=>match qJ R C xs ys r k with
   | none=>out
   | some (r',k')=>if bH out ((r' * C+k':Nat):Int) then out ++ [((r' * C+k':Nat):Int)] else fS R C xs ys f r' k' (out ++ [((r' * C+k':Nat):Int)])
def mJ (R C:Nat) (xs ys:List Int) (r k:Nat):List Int:=fS R C xs ys 40 r k [((r * C+k:Nat):Int)]
theorem Do {R C:Nat} {xs ys:List Int} {f r k:Nat} {out:List Int} (h:qJ R C xs ys r k=none):fS R C xs ys (f+1) r k out=out:=by rw [fS,h]
theorem sn {R C:Nat} {xs ys:List Int} {f r k r' k':Nat} {out:List Int} (h:qJ R C xs ys r k=some (r',k')) (hc:bH out ((r' * C+k':Nat):Int)=true):fS R C xs ys (f+1) r k out=out ++ [((r' * C+k':Nat):Int)]:=by
 rw [fS,h];simp only;rw [if_pos hc]
theorem uc {R C:Nat} {xs ys:List Int} {f r k r' k':Nat} {out:List Int} (h:qJ R C xs ys r k=some (r',k')) (hc:bH out ((r' * C+k':Nat):Int)=false):fS R C xs ys (f+1) r k out=fS R C xs ys f r' k' (out ++ [((r' * C+k':Nat):Int)]):=by
 rw [fS,h];simp only;rw [if_neg (by rw [hc];decide)]
theorem xt {R C:Nat} {xs:List Int} {k:Nat} (hR:1≤R):∃ j:Nat,j<R∧(dj R C xs k).getD 0 0=(j:Int)∧1≤(dj R C xs k).length:=by
 obtain ⟨n,rfl⟩:∃ n,R=n+1:=⟨R - 1,by omega⟩;have hne:dj (n+1) C xs k≠[]:=EF _ n
 cases hb:dj (n+1) C xs k with
 | nil=>exact absurd hb hne
 | cons o t =>
   obtain ⟨j,e,hj⟩:=rx (fun i=>aU C xs i k) (n+1) o (by show o∈dj (n+1) C xs k;rw [hb];simp)
   exact ⟨j,hj,e,by simp⟩
structure CellsOk (n:Nat) (out:List Int):Prop where
 nd:out.Nodup
 lt:∀ z∈out,∃ j:Nat,z=(j:Int)∧j<n
theorem CellsOk.len {n:Nat} {out:List Int} (h:CellsOk n out):out.length≤n:=by
 have h2:=List.Nodup.length_le_of_subset (l₁:=out) (l₂:=eL n) h.nd (fun z hz=>by
  obtain ⟨j,rfl,hj⟩:=h.lt z hz;exact List.mem_map.2 ⟨j,List.mem_range.2 hj,rfl⟩)
 rwa [bG] at h2
theorem CellsOk.one {n c:Nat} (h:c<n):CellsOk n [(c:Int)]:=⟨by simp,fun z hz=>⟨c,by simpa using hz,h⟩⟩
theorem CellsOk.more {n c:Nat} {out:List Int} (h:CellsOk n out) (hc:c<n) (hn:bH out (c:Int)=false):CellsOk n (out ++ [(c:Int)]):=by
 have hnm:(c:Int)∉out:=fun hm=>by rw [jS.2 hm] at hn;cases hn
 refine ⟨List.nodup_append.2 ⟨h.nd,by simp,fun a ha b hb=>?_⟩,fun z hz=>?_⟩
 · rw [List.mem_singleton] at hb
   subst hb;rintro rfl;exact hnm ha
 · rcases List.mem_append.1 hz with hz | hz
   · exact h.lt z hz
   · exact ⟨c,by simpa using hz,hc⟩
theorem vP (R C:Nat) (xs ys:List Int):∀ f r k out,(fS R C xs ys f r k out).length≤out.length+f
 | 0,_,_,out=>by rw [fS];omega
 | f+1,r,k,out=>by
   rw [fS]
   split
   · omega
   · rename_i r' k' _
     split
     · simp
     · have:=vP R C xs ys f r' k' (out ++ [((r' * C+k':Nat):Int)])
       rw [List.length_append,List.length_singleton] at this;omega
theorem Gd (R C:Nat) (xs ys:List Int) (r k:Nat):(mJ R C xs ys r k).length≤41:=by
 have:=vP R C xs ys 40 r k [((r * C+k:Nat):Int)];simpa [mJ] using this
def qN (xs ys:List Int) (x y:Nat):Bool:=decide (xs.getD x 0≤xs.getD y 0) && decide (ys.getD x 0≤ys.getD y 0) && (decide (xs.getD x 0<xs.getD y 0) || decide (ys.getD x 0<ys.getD y 0))
def fh (xs ys:List Int) (n m:Nat):List Int:=((List.range m).filter fun x=>!iA (qN xs ys x) n).map fun (j:Nat)=>(j:Int)
theorem Bj (xs ys:List Int) (n m:Nat):fh xs ys n (m+1)=if iA (qN xs ys m) n=true then fh xs ys n m else fh xs ys n m ++ [(m:Int)]:=by
 unfold fh;rw [List.range_succ,List.filter_append]
 by_cases h:iA (qN xs ys m) n=true
 · rw [if_pos h];simp [h]
 · rw [if_neg h];simp [h]
theorem tX (xs ys:List Int) (n m:Nat):(fh xs ys n m).length≤m:=by
 unfold fh;rw [List.length_map];exact Nat.le_trans (List.length_filter_le _ _) (by simp)
theorem Kl (w:World) (gB xB:Nat) (R C:Int) (x y:Nat) (aA aB:Option Addr) (cA cB:Nat) (xA yB:List Int) (hg:Blk w gB [.int .i64 R,.int .i64 C,.slice aA xA.length cA,.slice aB yB.length cB] 26) (hx:Blk w xB [.int .i64 x] 3) (hA:Rd w w.heap.size aA (ae xA)) (hB:Rd w w.heap.size aB (ae yB)) (h1:x<xA.length) (h2:y<xA.length) (hl:xA.length=yB.length) :
 Calls Tryz.prog 169 #[.int .i64 y,.pointer (some ⟨gB,0,none⟩),.pointer (some ⟨xB,0,none⟩)] w fun e w'=>e=.returned (.bool (qN xA yB x y))∧Below w.heap.size w w':=by
 obtain ⟨bA,oA,eA,bA1,hcA⟩:=hA.at h1;obtain ⟨bB,oB,eB,bB1,hcB⟩:=hB.at (k:=x) (by omega)
 subst eA;subst eB;have cAx:=hcA x h1;have cAy:=hcA y h2;have cBx:=hcB x (by omega)
 have cBy:=hcB y (by omega)
 have HF:Hid (qN xA yB x y=(decide (xA.getD x 0≤xA.getD y 0) && decide (yB.getD x 0≤yB.getD y 0) && (decide (xA.getD x 0<xA.getD y 0) || decide (yB.getD x 0<yB.getD y 0)))):=rfl
 have x0:(0:Int)≤(x:Int):=Int.natCast_nonneg _;have y0:(0:Int)≤(y:Int):=Int.natCast_nonneg _;have x1:(x:Int)<(xA.length:Int):=by omega
 have y1:(y:Int)<(xA.length:Int):=by omega
 have x2:(x:Int)<(yB.length:Int):=by omega
 have y2:(y:Int)<(yB.length:Int):=by omega
 clear hcA hcB hA hB h1 h2 hl;rw [HF.out];generalize xA.getD x 0=q at *
 generalize xA.getD y 0=p at *
 generalize yB.getD x 0=s at *
 generalize yB.getD y 0=r at *
 clear HF;have D0:∀ z9:Later w,z9.w'.cell? ⟨gB,2,none⟩=some (.slice (some ⟨bA,oA,none⟩) xA.length cA):=fun z9=>(z9.h.cell (p:=⟨gB,2,none⟩) hg.lt).trans (hg.cell 2)
 have D1:∀ z9:Later w,z9.w'.cell? ⟨gB,3,none⟩=some (.slice (some ⟨bB,oB,none⟩) yB.length cB):=fun z9=>(z9.h.cell (p:=⟨gB,3,none⟩) hg.lt).trans (hg.cell 3)
 have D2:∀ z9:Later w,z9.w'.cell? ⟨xB,0,none⟩=some (.int .i64 x):=fun z9=>(z9.h.cell (p:=⟨xB,0,none⟩) hx.lt).trans (hx.cell 0)
 have D3:∀ z9:Later w,z9.w'.cell? ⟨bA,oA+x,none⟩=some (.int .i64 q):=fun z9=>z9.cell (p:=⟨bA,oA+x,none⟩) bA1 cAx
 have D4:∀ z9:Later w,z9.w'.cell? ⟨bA,oA+y,none⟩=some (.int .i64 p):=fun z9=>z9.cell (p:=⟨bA,oA+y,none⟩) bA1 cAy
 have D5:∀ z9:Later w,z9.w'.cell? ⟨bB,oB+x,none⟩=some (.int .i64 s):=fun z9=>z9.cell (p:=⟨bB,oB+x,none⟩) bB1 cBx
 have D6:∀ z9:Later w,z9.w'.cell? ⟨bB,oB+y,none⟩=some (.int .i64 r):=fun z9=>z9.cell (p:=⟨bB,oB+y,none⟩) bB1 cBy
 clear hg hx cAx cAy cBx cBy bA1 bB1
 cases t1:decide (q≤p) with
 | false =>
   go_enter Tryz.func169,Tryz.ntmps169;go_wp2_with fail;refine bg (by kernel_rfl) (by kernel_rfl) ?_
   try simp only [List.append]
   repeat (go_big_quiet_step (fail))
   refine wpQuiet_nil ?_
   rintro wq ⟨⟨_,hbq⟩,rfl⟩;have HW:=Oi hbq;clear D0 D1 D2 D3 D4 D5 D6 hbq;go_wp2_with fail;go_ret;exact ⟨rfl,HW.out⟩
 | true =>
 cases t2:decide (s≤r) with
 | false =>
   go_enter Tryz.func169,Tryz.ntmps169;go_wp2_with fail;refine bg (by kernel_rfl) (by kernel_rfl) ?_
   try simp only [List.append]
   repeat (go_big_quiet_step (fail))
   refine wpQuiet_nil ?_
   rintro wq ⟨⟨_,hbq⟩,rfl⟩;have HW:=Oi hbq;clear D0 D1 D2 D3 D4 D5 D6 hbq;go_wp2_with fail;go_ret;exact ⟨rfl,HW.out⟩
 | true =>
 cases t3:decide (q<p) with
 | true =>
   go_enter Tryz.func169,Tryz.ntmps169;go_wp2_with fail;refine bg (by kernel_rfl) (by kernel_rfl) ?_
   try simp only [List.append]
   repeat (go_big_quiet_step (fail))
   refine wpQuiet_nil ?_
   rintro wq ⟨⟨_,hbq⟩,rfl⟩;have HW:=Oi hbq;clear D0 D1 D2 D3 D4 D5 D6 hbq;go_wp2_with fail;go_ret;exact ⟨rfl,HW.out⟩
 | false =>
 go_enter Tryz.func169,Tryz.ntmps169;go_wp2_with fail;refine bg (by kernel_rfl) (by kernel_rfl) ?_
 try simp only [List.append]
 repeat (go_big_quiet_step (fail))
 refine wpQuiet_nil ?_
 rintro wq ⟨⟨_,hbq⟩,rfl⟩;have HW:=Oi hbq;clear D0 D1 D2 D3 D4 D5 D6 hbq;go_wp2_with fail;go_ret;exact ⟨rfl,HW.out⟩
def Lt (l:List Int) (w:World) (e:Ending) (w':World):Prop:=∃ a c,e=.returned (.tuple #[.slice a l.length c,.bool true])∧Rd w' w'.heap.size a (ae l)∧Below w.heap.size w w'
theorem FA (w:World) (R C:Int) (aA:Option Addr) (cA:Nat) (xA:List Int) (aB:Option Addr) (cB:Nat) (xB:List Int) (hG:cZ R C xA xB=true) (hA:Rd w w.heap.size aA (ae xA)) (hB:Rd w w.heap.size aB (ae xB)) :
 Calls Tryz.prog 125 #[.agg #[.int .i64 R,.int .i64 C,.slice aA xA.length cA,.slice aB xB.length cB]] w (Lt (fh xA xB xA.length xA.length) w):=by
 obtain ⟨R',C',e1,e2,r1,r6,c1,c6,lA,lB,-,-⟩:=eH hG;have hRC:R' * C'≤6 * 6:=Nat.mul_le_mul r6 c6;have hn:xA.length≤36:=by omega
 have hlen:xA.length=xB.length:=by omega
 have HB1:=Oi (ai w (.cells #[.int .i64 R,.int .i64 C,.slice aA xA.length cA,.slice aB xB.length cB] 26));have KG:=Oi (Blk.new w [.int .i64 R,.int .i64 C,.slice aA xA.length cA,.slice aB xB.length cB] 26);have LV:=Oi (fun v (hb:Below w.heap.size w v)=>ef v R C aA cA xA aB cB xB ⟨hA.to hb,hB.to hb⟩ (by omega) (by omega))
 have LK:=Oi (fun v=>gi v xA.length (by omega))
 rw [hG] at LV;have HA:=Oi hA;have HBb:=Oi hB;have HL:=Oi hlen;obtain ⟨n,hnn⟩:∃ n,n=xA.length:=⟨_,rfl⟩;rw [← hnn] at hn HL LK;have HN:=Oi hnn;clear hA hB hG lA lB e1 e2 r1 r6 c1 c6 hRC hlen
 go_enter Tryz.func125,Tryz.ntmps125;go_wp2_with fail;refine (LV.out _ HB1.out).mono ?_;rintro e w1 ⟨rfl,hb⟩;have B1:=Oi (aa HB1.out hb);have K1:=Oi (KG.out.same hb);have hs1:w.heap.size+1≤w1.heap.size:=by have:=hb.size;rw [World.size_alloc] at this;exact this
 have HO:=Oi (bz w1 2);have K2:=Oi (K1.out.same (ai w1 (.cells #[] 2)));have B2:=Oi (aa B1.out (ai w1 (.cells #[] 2)));have q2:(w1.alloc (.cells #[] 2)).cell? ⟨w.heap.size,2,none⟩=some (.slice aA n cA):=by rw [K2.out.cell,hnn];rfl
 have hs2:w1.heap.size≤(w1.alloc (.cells #[] 2)).heap.size:=by simp
 clear LV hb K1 B1 HB1 KG hnn;go_wp2_with fail;clear q2
 go_loopw [13,4] (fun iv ov wr=>∃ (i:Nat) (v:Value),i≤n∧iv=.int .i64 i∧ov=v∧Hid (wr.ownsRow w1.heap.size 2 1 v (fh xA xB n i).length (ae (fh xA xB n i)))∧Hid (Below w.heap.size w wr)∧Hid (Blk wr w.heap.size [.int .i64 R,.int .i64 C,.slice aA xA.length cA,.slice aB xB.length cB] 26)∧w1.heap.size≤wr.heap.size) (fun iv _ _=>n - (intOf iv).toNat)
 case atStart=>exact ⟨0,_,Nat.zero_le _,rfl,rfl,HO.out,B2.out,K2.out,hs2⟩
 case round =>
  clear HO B2 K2 hs2;obtain ⟨i,v,hi,rfl,rfl,ho,hw,hK,hsz⟩:=hrel;have i0:(0:Int)≤(i:Int):=Int.natCast_nonneg _
  by_cases hlt:i<n
  · have hii:(i:Int)<(n:Int):=by omega
    have hs:=Oi (Bj xA xB n i);have hll:=tX xA xB n i;have KI:=Oi (Blk.new wr [.int .i64 i] 3);have BI:=Oi (ai wr (.cells #[.int .i64 i] 3));have q2:(wr.alloc (.cells #[.int .i64 i] 3)).cell? ⟨w.heap.size,2,none⟩=some (.slice aA n cA):=by rw [(hK.out.same BI.out).cell,HN.out];rfl
    have LC:=Oi (fun (v:World) (al:Option Addr) (cl:Nat) (hb:Below (wr.heap.size+1) (wr.alloc (.cells #[.int .i64 i] 3)) v) (hal:Rd v v.heap.size al (ae (eL n)))=>lE 169 #[.pointer (some ⟨w.heap.size,0,none⟩),.pointer (some ⟨wr.heap.size,0,none⟩)] (fun _ _=>by kernel_rfl) v al cl (ae (eL n)) (qN xA xB i) hal (by rw [ints_length,bG];omega) (fun w' j u hb2 hj=>by
     have hj':j<n:=by have:=(List.getElem?_eq_some_iff.1 hj).1;simpa [bG] using this
     rw [eJ _ _ (by rw [bG];exact hj')] at hj
     injection hj with hj
     subst hj;rw [co (oP hj')];have hb3:Below (wr.heap.size+1) (wr.alloc (.cells #[.int .i64 i] 3)) w':=hb.trans (hb2.mono (by have:=hb.size;rw [World.size_alloc] at this;exact this))
     have hb4:Below wr.heap.size wr w':=BI.out.trans (hb3.mono (by omega))
     have hb5:Below w.heap.size w w':=aa hw.out hb4;exact Kl w' w.heap.size wr.heap.size R C i j aA aB cA cB xA xB (hK.out.same hb4) (KI.out.below hb3 (by omega)) (HA.out.to hb5) (HBb.out.to hb5) (by have:=HN.out;omega) (by have:=HN.out;omega) (by have:=HN.out;have:=HL.out;omega)))
    go_wp2_with fail;refine (LK.out _).mono ?_;rintro e w3 ⟨al,cl,rfl,hoa,hb⟩;have LC1:=Oi (LC.out w3 al cl (by rw [World.size_alloc] at hb;exact hb) (ay hoa (Nat.le_refl _)))
    rw [ints_length,bG] at LC1;have HBa:=Oi (aa BI.out hb);have ci:Hid (Blk w3 wr.heap.size [.int .i64 i] 3):=KI.out.below hb (by simp)
    clear hoa hb q2 LC LK;go_wp2_with fail;refine LC1.out.mono ?_;rintro e w4 ⟨rfl,hb2⟩;have HB4:=Oi (aa HBa.out hb2);have cj:w4.cell? ⟨wr.heap.size,0,none⟩=some (.int .i64 i):=by rw [(ci.out.same hb2).cell];rfl
    have hW2:=Oi (aa hw.out HB4.out);have hK2:=Oi (hK.out.same HB4.out);have hO2:=Oi (aD ho.out HB4.out);have hsz2:w1.heap.size≤w4.heap.size:=by have:=HB4.out.size;omega
    clear hb2 ho hw ci HBa HB4 KI BI LC1 hK
    cases hwb:iA (qN xA xB i) n with
    | true =>
      rw [hwb,if_pos rfl] at hs;clear cj;go_wp2_with fail;go_roundw
      case rel=>exact ⟨i+1,_,by omega,by go_num,rfl,by rw [hs.out];exact hO2.out,hW2,hK2,hsz2⟩
      case measure=>simp [intOf];omega
    | false =>
      rw [hwb,if_neg (by decide)] at hs
      go_wp2_with (at_builtin;refine aH _ rfl _ _ 24 rfl w1.heap.size 2 (.int .i64 0) 8 Tryz.underlying24 aZ rfl _ _ _ rfl hO2.out (.int .i64 i) rfl rfl (by omega) (by omega) hsz2 ?_)
      intro v8 w8 o8 g8;have B8:=Oi (ah hW2.out hO2.out g8 (by omega) (by have:=hW2.out.size;omega))
      have K8:Hid (Blk w8 w.heap.size [.int .i64 R,.int .i64 C,.slice aA xA.length cA,.slice aB xB.length cB] 26):=hK2.out.below (ah (Below.refl w1.heap.size w4) hO2.out g8 (Nat.le_refl _) hsz2) (by omega)
      have H8:Hid (w8.ownsRow w1.heap.size 2 1 v8 (fh xA xB n (i+1)).length (ae (fh xA xB n (i+1)))):=by rw [hs.out,bk,List.length_append];exact o8
      have hs8:w1.heap.size≤w8.heap.size:=by have:=g8.size;omega
      clear o8 g8 hO2 hW2 hs cj hK2;go_wp2_with fail;go_roundw
      case rel=>exact ⟨i+1,v8,by omega,by go_num,rfl,H8,B8,K8,hs8⟩
      case measure=>simp [intOf];omega
  · obtain rfl:i=n:=by omega
    obtain ⟨a',c',e',hcap,_⟩:=ba ho.out;subst e';have HRd:=Oi (ay ho.out (Nat.le_refl _));have HPL:Hid (fh xA xB xA.length xA.length=fh xA xB i i):=by rw [Hid,← HN.out]
    clear ho hcap hK;go_wp2_with fail
    go_ret2
    rw [HPL.out];exact ⟨a',c',rfl,HRd.out,hw.out⟩
theorem Mb (x:Nat) (h:x≤1099511627776):wrap64 (x:Int)=x:=by
 unfold wrap64;omega
theorem Dg (w:World) (a b:Nat) (h1:1≤a) (ha:a≤1099511627776) (h2:1≤b) (hb:b≤1099511627776) :
 Calls Tryz.prog 183 #[.int .i64 a,.int .i64 b] w fun e w'=>e=.returned (.tuple #[.int .i64 (a / Nat.gcd a b:Nat),.int .i64 (b / Nat.gcd a b:Nat),.bool true])∧∃ n,w'=w.drewN n:=by
 have hnb:((b:Int) == 0)=false:=by simp;omega
 have hnn:¬ ((b:Int)<0):=by omega
 have LA:=Oi (fun v=>ri v a ha)
 have LB:=Oi (fun v=>ri v b hb)
 have LC:=Oi (fun v=>EL v a b ha hb)
 have hg0:0<Nat.gcd a b:=Ms (by omega)
 have hga:Nat.gcd a b≤a:=Nat.gcd_le_left b (by omega)
 have Hda:Hid (((a / Nat.gcd a b:Nat):Int)=(a:Int) / ((Nat.gcd a b:Nat):Int)):=by simp [Hid]
 have Hdb:Hid (((b / Nat.gcd a b:Nat):Int)=(b:Int) / ((Nat.gcd a b:Nat):Int)):=by simp [Hid]
 generalize Nat.gcd a b=g at *
 have hqa:a / g≤a:=Nat.div_le_self _ _;have hqb:b / g≤b:=Nat.div_le_self _ _;have Hwa:Hid (wrap64 ((a:Int) / (g:Int))=((a / g:Nat):Int)):=by show _=_;rw [← Hda.out];exact Mb _ (Nat.le_trans hqa ha)
 have Hwb:Hid (wrap64 ((b:Int) / (g:Int))=((b / g:Nat):Int)):=by show _=_;rw [← Hdb.out];exact Mb _ (Nat.le_trans hqb hb)
 clear hqa hqb;have hgz:((g:Int) == 0)=false:=by simp;omega
 have hgn:(g:Int)≠0:=by omega
 have hgp:(0:Int)<(g:Int):=by omega
 go_enter Tryz.func183,Tryz.ntmps183;go_wp2_with fail;refine (LA.out _).mono ?_;rintro e w1 ⟨rfl,rfl⟩;go_wp2_with fail;refine (LB.out _).mono ?_;rintro e w2 ⟨rfl,rfl⟩;go_wp2_with fail;refine (LC.out _).mono ?_;rintro e w3 ⟨rfl,m,rfl⟩;clear LA LB LC;go_wp2_with fail
 go_quiet (fail)
 go_wp2_with fail;go_ret3;exact ⟨by show Ending.returned (.tuple #[.int .i64 (wrap64 ((a:Int) / (g:Int))),.int .i64 (wrap64 ((b:Int) / (g:Int))),.bool true])=_;rw [Hwa.out,Hwb.out],_,by first | rfl | exact World.drewN_drewN _ _ _⟩
theorem IK (w:World) (U R:Int) (a2:Option Addr) (c2:Nat) (x2:List Int) (a3:Option Addr) (c3:Nat) (x3:List Int) (h:RdCrowd w w.heap.size a2 x2 a3 x3) (hl2:x2.length≤1048576) (hl3:x3.length≤1048576) :
 Calls Tryz.prog 131 #[.agg #[.int .i64 U,.int .i64 R,.slice a2 x2.length c2,.slice a3 x3.length c3]] w fun e w'=>e=.returned (.tuple #[.int .i64 (fQ ⟨U,R,x2,x3⟩).1,.int .i64 (fQ ⟨U,R,x2,x3⟩).2.1,.bool (fQ ⟨U,R,x2,x3⟩).2.2])∧Below w.heap.size w w':=by
 have LW:=Oi (fun w' hb=>JA w' U R a2 c2 x2 a3 c3 x3 (h.to hb) hl2 hl3)
 have LL:=Oi (fun w' hb=>Hu w' U R a2 c2 x2 a3 c3 x3 (h.to hb) hl2 hl3)
 rcases IJ ⟨U,R,x2,x3⟩ with ⟨p1,p2,p3⟩ | ⟨bw,bl,m,l,p1,p2,p3,p4⟩ | ⟨bw,bl,m,l,p1,p2,p3,p4,p5,p6⟩
 · rw [p3]
   rw [p1] at LW;rw [p2] at LL;clear h p1 p2 p3
   go_enter Tryz.func131,Tryz.ntmps131;go_wp2_with fail;refine (LW.out _ (ai _ _)).mono ?_;rintro e w0 ⟨hb0,rfl⟩;have B0:=aa (ai w (.cells #[.int .i64 U,.int .i64 R,.slice a2 x2.length c2,.slice a3 x3.length c3] 30)) hb0;have kA:=(Blk.new w [.int .i64 U,.int .i64 R,.slice a2 x2.length c2,.slice a3 x3.length c3] 30).same hb0;obtain ⟨q0,q1,q2,q3⟩:_∧_∧_∧_:=⟨kA.cell 0,kA.cell 1,kA.cell 2,kA.cell 3⟩;simp only [List.getElem?_cons_zero,List.getElem?_cons_succ] at q0 q1 q2 q3;clear kA hb0;go_wp2_with fail;refine (LL.out _ B0).mono ?_;rintro e w1 ⟨hb1,rfl⟩;have B1:=aa B0 hb1;clear hb1 q0 q1 q2 q3 LW LL;go_wp2_with fail;go_ret3;exact ⟨rfl,B1⟩
 · rw [p3]
   rw [p1] at LW;rw [p2] at LL;clear h p1 p2 p3
   go_enter Tryz.func131,Tryz.ntmps131;go_wp2_with fail;refine (LW.out _ (ai _ _)).mono ?_;rintro e w0 ⟨hb0,aW,cW,rfl,_⟩;have B0:=aa (ai w (.cells #[.int .i64 U,.int .i64 R,.slice a2 x2.length c2,.slice a3 x3.length c3] 30)) hb0;have kA:=(Blk.new w [.int .i64 U,.int .i64 R,.slice a2 x2.length c2,.slice a3 x3.length c3] 30).same hb0;obtain ⟨q0,q1,q2,q3⟩:_∧_∧_∧_:=⟨kA.cell 0,kA.cell 1,kA.cell 2,kA.cell 3⟩;simp only [List.getElem?_cons_zero,List.getElem?_cons_succ] at q0 q1 q2 q3;clear kA hb0;go_wp2_with fail;refine (LL.out _ B0).mono ?_;rintro e w1 ⟨hb1,aL,cL,rfl,_⟩;have B1:=aa B0 hb1;clear hb1 q0 q1 q2 q3 LW LL;go_wp2_with fail;go_ret3;exact ⟨rfl,B1⟩
 · rw [p3]
   rw [p1] at LW;rw [p2] at LL;have hnl:¬ ((l:Int)<1):=by omega
   have LR:=Oi (fun v=>Dg v m l (by omega) (by omega) p4 (by omega))
   clear h p1 p2 p3;generalize m / Nat.gcd m l=u1 at *
   generalize l / Nat.gcd m l=u2 at *
   go_enter Tryz.func131,Tryz.ntmps131;go_wp2_with fail;refine (LW.out _ (ai _ _)).mono ?_;rintro e w0 ⟨hb0,aW,cW,rfl,_⟩;have B0:=aa (ai w (.cells #[.int .i64 U,.int .i64 R,.slice a2 x2.length c2,.slice a3 x3.length c3] 30)) hb0;have kA:=(Blk.new w [.int .i64 U,.int .i64 R,.slice a2 x2.length c2,.slice a3 x3.length c3] 30).same hb0;obtain ⟨q0,q1,q2,q3⟩:_∧_∧_∧_:=⟨kA.cell 0,kA.cell 1,kA.cell 2,kA.cell 3⟩;simp only [List.getElem?_cons_zero,List.getElem?_cons_succ] at q0 q1 q2 q3;clear kA hb0;go_wp2_with fail;refine (LL.out _ B0).mono ?_;rintro e w1 ⟨hb1,aL,cL,rfl,_⟩;have B1:=aa B0 hb1;clear hb1 q0 q1 q2 q3 LW LL;go_wp2_with fail;refine (LR.out _).mono ?_;rintro e w5 ⟨rfl,mm,rfl⟩;go_wp2_with fail;go_ret3;exact ⟨rfl,ag B1 mm⟩
theorem Jm (w:World) (K0:Nat) (caps0:Array Value) (hK:∀ (args:Array Value) (w:World),(callFunc K0 args).run Tryz.prog w=.ok (.enter K0 args) w) (f:Nat→Nat→Int) (u n:Nat) (a2:Option Addr) (c2:Nat) (x2:List Int) (a3:Option Addr) (c3:Nat) (x3:List Int) (h:RdCrowd w w.heap.size a2 x2 a3 x3) (hvb:bu ⟨u,n,x2,x3⟩=true) (hvt:bu (fk f ⟨u,n,x2,x3⟩)=false) (hl2:x2.length≤1048576) (hl3:x3.length≤1048576)
 (hf:∀ (w':World) (r k:Nat),Below w.heap.size w w'→r<n→1≤k→k≤u→Calls Tryz.prog K0 (#[.int .i64 r,.int .i64 k] ++ caps0) w' fun e w''=>e=.returned (.int .i64 (f r k))∧Below w'.heap.size w' w'') :
 Calls Tryz.prog 184 #[.agg #[.int .i64 u,.int .i64 n,.slice a2 x2.length c2,.slice a3 x3.length c3],.func (.func K0) #[] caps0] w fun e w'=>e=.returned (.tuple #[.agg #[.int .i64 0,.int .i64 0,.slice none 0 0,.slice none 0 0],.bool false])∧Below w.heap.size w w':=by
 have hv:=em hvb;have u1:=hv.u1;have u8:=hv.u8;have r1:=hv.r1;have r8:=hv.r8;have w1':=hv.w1;have w8:=hv.w8;simp only at u1 u8 r1 r8 w1' w8;have KB:=Oi (Blk.new w [.int .i64 u,.int .i64 n,.slice a2 x2.length c2,.slice a3 x3.length c3] 30);have HH:=Oi h;have LV:=Oi (fun (w':World) (hb:Below w.heap.size w w')=>dJ w' u n a2 c2 x2 a3 c3 x3 (h.to hb) hl2 hl3)
 rw [hvb] at LV;have LCl:=Oi (fun (w':World) (hb:Below w.heap.size w w')=>eo w' a2 c2 x2 (h.1.to hb) w1' hl2)
 have HVT:=Oi hvt;have LF:=Oi hf;have HK0:=Oi hK;clear h hvb hvt hf hK hv
 go_enter Tryz.func184,Tryz.ntmps184;go_wp2_with fail;have B0:=cd w (.cells #[.int .i64 u,.int .i64 n,.slice a2 x2.length c2,.slice a3 x3.length c3] 30) (.cells #[.int .i64 0,.int .i64 0,.slice none 0 0,.slice none 0 0] 30);have KR0:=sF (Blk.new (w.alloc (.cells #[.int .i64 u,.int .i64 n,.slice a2 x2.length c2,.slice a3 x3.length c3] 30)) [.int .i64 0,.int .i64 0,.slice none 0 0,.slice none 0 0] 30);have KB0:=KB.out.same (ai _ (.cells #[.int .i64 0,.int .i64 0,.slice none 0 0,.slice none 0 0] 30));refine (LV.out _ B0).mono ?_;rintro e w2 ⟨rfl,hb2⟩;have KR2:=Oi (KR0.same hb2);have KB2:=Oi (KB0.same hb2);have B2:=Oi (aa B0 hb2);have s2:=hb2.size;rw [World.size_alloc,World.size_alloc] at s2;have HS:Hid (∀ w',Below w2.heap.size w2 w'→(w'.cell? ⟨w.heap.size,0,none⟩=some (.int .i64 u)∧w'.cell? ⟨w.heap.size,1,none⟩=some (.int .i64 n)∧w'.cell? ⟨w.heap.size,2,none⟩=some (.slice a2 x2.length c2))):=fun w' hb=>⟨(KB2.out.same hb).cell 0,(KB2.out.same hb).cell 1,(KB2.out.same hb).cell 2⟩
 have HD:Hid (Below w2.heap.size w2 w2.drew):=aq (Below.refl _ _);have LC1:=Oi (LCl.out w2.drew (aa B2.out HD.out));have HE:Hid (Below w2.heap.size w2 (w2.alloc (.cells #[.int .i64 0,.int .i64 0,.slice none 0 0,.slice none 0 0] 30)).drew):=aq (ai _ _);have KZ:Hid (Blk (w2.alloc (.cells #[.int .i64 0,.int .i64 0,.slice none 0 0,.slice none 0 0] 30)).drew w2.heap.size [.int .i64 0,.int .i64 0,.slice none 0 0,.slice none 0 0] 30):=(Blk.new w2 [.int .i64 0,.int .i64 0,.slice none 0 0,.slice none 0 0] 30).drewN 1;have LC2:=Oi (LCl.out (w2.alloc (.cells #[.int .i64 0,.int .i64 0,.slice none 0 0,.slice none 0 0] 30)).drew (aa B2.out HE.out));obtain ⟨q0,q1,q2⟩:=HS.out _ (Below.refl _ _);clear B0 KR0 KB0 hb2 KB LCl;go_wp2_with fail
 go_region_held3 (fun w'=>w'.cell? ⟨w.heap.size,0,none⟩=some (.int .i64 u)∧w'.cell? ⟨w.heap.size,1,none⟩=some (.int .i64 n)∧w'.cell? ⟨w.heap.size,2,none⟩=some (.slice a2 x2.length c2))
  (first | with_reducible exact HS.out _ HD.out | with_reducible exact HS.out _ HE.out | with_reducible exact HS.out _ hB1 | with_reducible exact HS.out _ (aa hB1 (ai w5 (.cells #[.int .i64 0,.int .i64 0,.slice none 0 0,.slice none 0 0] 30))) | with_reducible exact HS.out _ (aa hB1 (ai w5 (.cells #[.int .i64 u,.int .i64 n,.slice aW x2.length cW,.slice none 0 0] 30))) | with_reducible exact HS.out _ (aw (aw (aw (aw hB1 (Nat.le_refl _) _ _) (Nat.le_refl _) _ _) (Nat.le_refl _) _ _) (Nat.le_refl _) _ _))
  (first | (go_at_call 69;with_reducible refine (LC1.out).mono ?_;rintro e w5 ⟨aW,cW,rfl,oW,hz1⟩;have hB1:=aa HD.out hz1) | (go_at_call 69;with_reducible refine (LC2.out).mono ?_;rintro e w5 ⟨aW,cW,rfl,oW,hz1⟩;have hB1:=aa HE.out hz1;have KO:=KZ.out.same hz1;have z0:=KO.cell 0;have z1:=KO.cell 1;have z2:=KO.cell 2;have z3:=KO.cell 3;have y0:=KO.free 0;have y1:=KO.free 1;have y2:=KO.free 2;have y3:=KO.free 3;simp only [List.getElem?_cons_zero,List.getElem?_cons_succ] at z0 z1 z2 z3))
 all_goals
  first
  | (obtain ⟨wO,hwO⟩:∃ W:World,W=w5.alloc (.cells #[.int .i64 u,.int .i64 n,.slice aW x2.length cW,.slice none 0 0] 30):=⟨_,rfl⟩
     obtain ⟨gO,hgO⟩:∃ g,g=w5.heap.size:=⟨_,rfl⟩;have KO:Hid (Blk wO gO [.int .i64 u,.int .i64 n,.slice aW x2.length cW,.slice none 0 0] 30):=by rw [hwO,hgO];exact Blk.new w5 _ _
     have BO:Hid (Below w2.heap.size w2 wO):=by rw [hwO];exact aa hB1 (ai _ _)
     have OW:Hid (OwnI 2 wO w2.heap.size wO.heap.size aW cW x2):=by rw [hwO];exact (oW.keep (ai _ _)).mono (Nat.le_refl _) (by simp)
     have HGW:Hid (∀ b,aW=some b→b.block≠gO):=fun b hb=>by have:=oW.2 b hb;rw [hgO];omega
     have hgO2:w2.heap.size≤gO:=by rw [hgO];exact hB1.size
     have hgO3:gO<wO.heap.size:=KO.out.lt;rw [← hwO,← hgO];clear hwO hgO oW hz1 hB1 LC1 LC2 HE HD q0 q1 q2 KZ)
  | (obtain ⟨wO,hwO⟩:∃ W:World,W=(((w5.setCell ⟨w2.heap.size,0,none⟩ (.int .i64 u)).setCell ⟨w2.heap.size,1,none⟩ (.int .i64 n)).setCell ⟨w2.heap.size,2,none⟩ (.slice aW x2.length cW)).setCell ⟨w2.heap.size,3,none⟩ (.slice none 0 0):=⟨_,rfl⟩
     obtain ⟨gO,hgO⟩:∃ g,g=w2.heap.size:=⟨_,rfl⟩;have KO:Hid (Blk wO gO [.int .i64 u,.int .i64 n,.slice aW x2.length cW,.slice none 0 0] 30):=by rw [hwO,hgO];exact (((KO.set 0 (.int .i64 u)).set 1 (.int .i64 n)).set 2 (.slice aW x2.length cW)).set 3 (.slice none 0 0)
     have BO:Hid (Below w2.heap.size w2 wO):=by rw [hwO];exact aw (aw (aw (aw hB1 (Nat.le_refl _) _ _) (Nat.le_refl _) _ _) (Nat.le_refl _) _ _) (Nat.le_refl _) _ _
     have OW:Hid (OwnI 2 wO w2.heap.size wO.heap.size aW cW x2):=by rw [hwO];exact ((cy (cy (cy (cy oW (by simp) 0 (.int .i64 u)) (by simp) 1 (.int .i64 n)) (by simp) 2 (.slice aW x2.length cW)) (by simp) 3 (.slice none 0 0)).mono (by simp) (by simp))
     have HGW:Hid (∀ b,aW=some b→b.block≠gO):=fun b hb=>by have:=(oW.1.lt b.block (by rw [hb];rfl)).1;rw [hgO];simp at this;omega
     have hgO2:w2.heap.size≤gO:=by rw [hgO];exact Nat.le_refl _
     have hgO3:gO<wO.heap.size:=KO.out.lt;rw [← hwO,← hgO];clear hwO hgO oW hz1 hB1 LC1 LC2 HE HD q0 q1 q2 KZ)
  have BW:Hid (Below w.heap.size w wO):=B2.out.trans (BO.out.mono (by omega))
  obtain ⟨T0,hT0⟩:∃ T,T=wO.heap.size:=⟨_,rfl⟩;have T0le:T0≤wO.heap.size:=by omega
  have HT:Hid (TW w wO gO T0 u n a2 c2 x2 a3 c3 x3 aW cW w2.heap.size none 0 []) :=
   ⟨BW.out,KB2.out.below BO.out (by omega),KR2.out.below BO.out (by omega),KO.out,by rw [hT0];exact OW.out,World.ownsRow_nil _ _ _ _⟩
  have hgT:gO<T0:=by omega
  clear BO OW KO hT0 hgO3 KB2 KR2 HS;obtain ⟨lW,hlW⟩:∃ l,l=w2.heap.size:=⟨_,rfl⟩;rw [← hlW] at HT hgO2 s2;clear hlW B2 BW;have q1:wO.cell? ⟨w.heap.size,1,none⟩=some (.int .i64 n):=HT.out.KB.cell 1;go_wp2_with fail;clear q1
  go_loopw [23] (fun rv wr=>∃ (r:Nat) (aC:Option Addr) (cC:Nat) (l:List Int),r≤n∧rv=.int .i64 r∧Hid (l=kd f u r)∧Hid (TW w wr gO T0 u n a2 c2 x2 a3 c3 x3 aW cW lW aC cC l)∧T0≤wr.heap.size) (fun rv _=>n - (intOf rv).toNat)
  case atStart=>exact ⟨0,none,0,[],Nat.zero_le _,rfl,rfl,HT.out,T0le⟩
  case round =>
   obtain ⟨r,aC,cC,l,hr,rfl,hL,hW,hTs⟩:=hrel;obtain ⟨wo,hwo⟩:∃ W:World,W=wr:=⟨_,rfl⟩;subst hwo
   by_cases hlt:r<n
   · have hri:(r:Int)<(n:Int):=by omega
     have r0:(0:Int)≤(r:Int):=Int.natCast_nonneg _;have q0:wo.cell? ⟨w.heap.size,0,none⟩=some (.int .i64 u):=hW.out.KB.cell 0;have HP:Hid (l=iY f u r 0):=by rw [Hid,vD];exact hL.out
     clear hL;go_wp2_with fail;clear q0
     go_loopw [28] (fun kv wr=>∃ (k:Nat) (aC:Option Addr) (cC:Nat) (l:List Int),k≤u∧kv=.int .i64 k∧Hid (l=iY f u r k)∧Hid (TW w wr gO T0 u n a2 c2 x2 a3 c3 x3 aW cW lW aC cC l)∧T0≤wr.heap.size) (fun kv _=>u - (intOf kv).toNat)
     case atStart=>exact ⟨0,aC,cC,l,Nat.zero_le _,rfl,HP.out,hW.out,hTs⟩
     case round =>
      clear HP hW hTs;obtain ⟨k,aC,cC,l,hk,rfl,hP,hW,hTs⟩:=hrel
      by_cases hku:k<u
      · have hki:(k:Int)<(u:Int):=by omega
        have k0:(0:Int)≤(k:Int):=Int.natCast_nonneg _;have LF1:Hid (Calls Tryz.prog K0 (#[.int .i64 r,.int .i64 ((k:Int)+1)] ++ caps0) wr.drew fun e w''=>e=.returned (.int .i64 (f r (k+1)))∧Below wr.drew.heap.size wr.drew w''):=LF.out wr.drew r (k+1) (aq hW.out.B) hlt (by omega) (by omega)
        have HCC:Hid (∀ w',Below T0 wr w'→w'.cell? ⟨gO,3,none⟩=some (.slice aC l.length cC)∧w'.frozen? ⟨gO,3,none⟩=false):=fun w' hb=>⟨(hW.out.KO.below hb (by omega)).cell 3,(hW.out.KO.below hb (by omega)).free 3⟩
        have hOC:=Oi hW.out.C;have hll:l.length≤64:=by
         rw [hP.out,yf];have:r * u≤7 * 8:=Nat.mul_le_mul (by omega) (by omega)
         omega
        have hKK:=HK0.out;have eK:IntKind.i64.wrap ((k:Int)+1)=(k:Int)+1:=IntWalk.i64_in _ (by omega)
        obtain ⟨d1,d2⟩:=HCC.out _ (Below.refl _ _);obtain ⟨x,hx⟩:∃ x,x=f r (k+1):=⟨_,rfl⟩;rw [← hx] at LF1;have HX:=Oi hx;clear hx;go_wp2_with fail
        go_region_law
         ((first
           | (go_simp;refine LF1.out.mono ?_;rintro e w6 ⟨rfl,hb6⟩;dsimp only;have hb7:Below wr.heap.size wr w6:=aa (aq (Below.refl wr.heap.size wr)) hb6;have hOC6:=aD hOC.out hb7;obtain ⟨f1,f2⟩:=HCC.out w6 (hb7.mono hTs);obtain ⟨f3,f4⟩:=HCC.out (w6.alloc (.cells #[.int .i64 x] 2)) ((hb7.mono hTs).alloc (Nat.le_trans hTs hb7.size) _))
           | (refine fc (wr:=w6) (by rfl) _ _ 24 (by rfl) T0 2 (.int .i64 0) 8 Tryz.underlying24 aZ (by rfl) _ l.length (ae l) (by rfl) hOC6 (.int .i64 x) rfl (by rfl) (by decide) (by omega) (Nat.le_trans hTs hb7.size) ?_;intro g8 c8 w8 ho8 hg8 hn8;have hb8:Below T0 wr w8:=(hb7.mono hTs).trans (ah (Below.refl T0 w6) hOC6 hg8 (Nat.le_refl _) (Nat.le_trans hTs hb7.size));obtain ⟨f5,f6⟩:=HCC.out w8 hb8)))
        all_goals
         have hW2:=Oi (hW.out.snoc (x:=x) (by omega) hgT (by omega) HGW.out hTs hb8 ho8)
         have hP2:Hid (l ++ [x]=iY f u r (k+1)):=by rw [Hid,vC,hP.out,HX.out]
         have hs8:T0≤(w8.setCell ⟨gO,3,none⟩ (.slice (some ⟨g8,0,none⟩) (l.length+1) c8)).heap.size:=by simp;exact Nat.le_trans hTs hb8.size
         clear hb6 hb7 hOC6 f1 f2 f3 f4 ho8 hg8 hn8 hb8 f5 f6;go_wp2_with fail;go_roundw
         case rel=>exact ⟨k+1,some ⟨g8,0,none⟩,c8,l ++ [x],by omega,by go_num,hP2.out,hW2,hs8⟩
         case measure=>first | (simp [intOf];done) | (simp [intOf];omega)
      · obtain rfl:k=u:=by omega
        have hP2:Hid (l=kd f k (r+1)):=by rw [Hid,← vy];exact hP.out
        clear hP;go_wp2_with fail;go_roundw
        case rel=>exact ⟨r+1,aC,cC,l,by omega,by go_num,hP2.out,hW.out,hTs⟩
        case measure=>first | (simp [intOf];done) | (simp [intOf];omega)
   · obtain rfl:r=n:=by omega
     have hrd:RdCrowd wo wo.heap.size aW x2 aC l:=⟨hW.out.W.rd.mono hTs,(ay hW.out.C (Nat.le_refl _)).mono (Nat.le_refl _)⟩;have hll:l.length≤64:=by
      rw [hL.out,pD];have:r * u≤8 * 8:=Nat.mul_le_mul (by omega) (by omega)
      omega
     have LV2:=Oi (dJ wo u r aW cW x2 aC cC l hrd (by omega) (by omega))
     have hCC:fk f ⟨(u:Int),(r:Int),x2,x3⟩=⟨(u:Int),(r:Int),x2,l⟩:=by unfold fk;rw [hL.out];simp
     have HCC2:=Oi hCC;rw [hCC] at HVT;rw [HVT.out] at LV2;have HRD:=Oi hrd;obtain ⟨k0',k1',k2',k3'⟩:wo.cell? ⟨gO,0,none⟩=some (.int .i64 u)∧wo.cell? ⟨gO,1,none⟩=some (.int .i64 r)∧wo.cell? ⟨gO,2,none⟩=some (.slice aW x2.length cW)∧wo.cell? ⟨gO,3,none⟩=some (.slice aC l.length cC):=⟨hW.out.KO.cell 0,hW.out.KO.cell 1,hW.out.KO.cell 2,hW.out.KO.cell 3⟩;clear hrd hCC hL HVT;go_wp2_with fail;refine LV2.out.mono ?_;rintro e w9 ⟨rfl,hb9⟩;have KO9:=hW.out.KO.same hb9;have KR9:=hW.out.KR.same hb9;have B9:=Oi (hW.out.B.trans (hb9.mono hW.out.B.size));have OW9:=Oi (hW.out.W.keep hb9);have OC9:Hid (OwnI 2 w9 T0 w9.heap.size aC cC l):=OwnI.of_own (aD hW.out.C hb9);have hT9:T0≤w9.heap.size:=Nat.le_trans hTs hb9.size;clear k0' k1' k2' k3' hb9;have k0':w9.cell? ⟨gO,0,none⟩=some (.int .i64 u):=KO9.cell 0;have k1':w9.cell? ⟨gO,1,none⟩=some (.int .i64 r):=KO9.cell 1;have k2':w9.cell? ⟨gO,2,none⟩=some (.slice aW x2.length cW):=KO9.cell 2;have k3':w9.cell? ⟨gO,3,none⟩=some (.slice aC l.length cC):=KO9.cell 3;have y0:w9.cell? ⟨w.heap.size+1,0,none⟩=some (.int .i64 0):=KR9.cell 0;have y1:w9.cell? ⟨w.heap.size+1,1,none⟩=some (.int .i64 0):=KR9.cell 1;have y2:w9.cell? ⟨w.heap.size+1,2,none⟩=some (.slice none 0 0):=KR9.cell 2;have y3:w9.cell? ⟨w.heap.size+1,3,none⟩=some (.slice none 0 0):=KR9.cell 3;have f0:=KR9.free 0;have f1:=KR9.free 1;have f2:=KR9.free 2;have f3:=KR9.free 3;have KRH:=Oi KR9;clear KO9 KR9 hW HRD;go_wp2_with fail;obtain ⟨wz,hwz⟩:∃ Y,Y=(((w9.setCell ⟨w.heap.size+1,0,none⟩ (.int .i64 0)).setCell ⟨w.heap.size+1,1,none⟩ (.int .i64 0)).setCell ⟨w.heap.size+1,2,none⟩ (.slice none 0 0)).setCell ⟨w.heap.size+1,3,none⟩ (.slice none 0 0):=⟨_,rfl⟩;have KZ:Blk wz (w.heap.size+1) [.int .i64 0,.int .i64 0,.slice none 0 0,.slice none 0 0] 30:=by rw [hwz];exact (((KRH.out.set 0 (.int .i64 0)).set 1 (.int .i64 0)).set 2 (.slice none 0 0)).set 3 (.slice none 0 0)
     have BZ:Below w.heap.size w wz:=by rw [hwz];exact aw (aw (aw (aw B9.out (by omega) _ _) (by omega) _ _) (by omega) _ _) (by omega) _ _
     rw [← hwz];clear hwz k0' k1' k2' k3' y0 y1 y2 y3;have y0:wz.cell? ⟨w.heap.size+1,0,none⟩=some (.int .i64 0):=KZ.cell 0;have y1:wz.cell? ⟨w.heap.size+1,1,none⟩=some (.int .i64 0):=KZ.cell 1;have y2:wz.cell? ⟨w.heap.size+1,2,none⟩=some (.slice none 0 0):=KZ.cell 2;have y3:wz.cell? ⟨w.heap.size+1,3,none⟩=some (.slice none 0 0):=KZ.cell 3;refine bodyPost_ret (v:=.tuple #[.agg #[.int .i64 0,.int .i64 0,.slice none 0 0,.slice none 0 0],.bool false]) (by simp [results,Tryz.results184,go_sem,y0,y1,y2,y3]) rfl ?_
     exact ⟨rfl,BZ⟩
theorem Gj (w:World) (u n:Nat) (a2:Option Addr) (c2:Nat) (x2:List Int) (a3:Option Addr) (c3:Nat) (x3:List Int) (h:RdCrowd w w.heap.size a2 x2 a3 x3) (hvb:bu ⟨u,n,x2,x3⟩=true) (hvt:bu (fk (fM ⟨u,n,x2,x3⟩) ⟨u,n,x2,x3⟩)=false) (hl2:x2.length≤1048576) (hl3:x3.length≤1048576) :
 Calls Tryz.prog 132 #[.agg #[.int .i64 u,.int .i64 n,.slice a2 x2.length c2,.slice a3 x3.length c3]] w fun e w'=>e=.returned (.tuple #[.agg #[.int .i64 0,.int .i64 0,.slice none 0 0,.slice none 0 0],.bool false])∧Below w.heap.size w w':=by
 have B0:=cd w (.cells #[.int .i64 u,.int .i64 n,.slice a2 x2.length c2,.slice a3 x3.length c3] 30) (.cells #[.int .i64 0,.int .i64 0,.slice none 0 0,.slice none 0 0] 30);have KB0:=(Blk.new w [.int .i64 u,.int .i64 n,.slice a2 x2.length c2,.slice a3 x3.length c3] 30).same (ai _ (.cells #[.int .i64 0,.int .i64 0,.slice none 0 0,.slice none 0 0] 30));have LT:=Oi (Jm ((w.alloc (.cells #[.int .i64 u,.int .i64 n,.slice a2 x2.length c2,.slice a3 x3.length c3] 30)).alloc (.cells #[.int .i64 0,.int .i64 0,.slice none 0 0,.slice none 0 0] 30)) 185 #[.pointer (some ⟨w.heap.size,0,none⟩)] tH (fM ⟨u,n,x2,x3⟩) u n a2 c2 x2 a3 c3 x3 (h.to B0) hvb hvt hl2 hl3 (fun w' r k hb hr h1 h2=>we w' w.heap.size u n r k a2 c2 x2 a3 c3 x3 (KB0.same hb) (h.to (aa B0 hb)) (em hvb) hr h1 (by omega)))
 have KR0:=Oi (sF (Blk.new (w.alloc (.cells #[.int .i64 u,.int .i64 n,.slice a2 x2.length c2,.slice a3 x3.length c3] 30)) [.int .i64 0,.int .i64 0,.slice none 0 0,.slice none 0 0] 30));have HB0:=Oi B0;clear h hvb hvt KB0 B0
 go_enter Tryz.func132,Tryz.ntmps132;go_wp2_with fail;refine LT.out.mono ?_;rintro e w2 ⟨rfl,hb2⟩;have KR2:=Oi (KR0.out.same hb2);have B2:=Oi (aa HB0.out hb2);have y0:w2.cell? ⟨w.heap.size+1,0,none⟩=some (.int .i64 0):=KR2.out.cell 0;have y1:w2.cell? ⟨w.heap.size+1,1,none⟩=some (.int .i64 0):=KR2.out.cell 1;have y2:w2.cell? ⟨w.heap.size+1,2,none⟩=some (.slice none 0 0):=KR2.out.cell 2;have y3:w2.cell? ⟨w.heap.size+1,3,none⟩=some (.slice none 0 0):=KR2.out.cell 3;have f0:=KR2.out.free 0;have f1:=KR2.out.free 1;have f2:=KR2.out.free 2;have f3:=KR2.out.free 3;clear LT KR0 HB0 hb2;go_wp2_with fail;obtain ⟨wz,hwz⟩:∃ Y,Y=(((w2.setCell ⟨w.heap.size+1,0,none⟩ (.int .i64 0)).setCell ⟨w.heap.size+1,1,none⟩ (.int .i64 0)).setCell ⟨w.heap.size+1,2,none⟩ (.slice none 0 0)).setCell ⟨w.heap.size+1,3,none⟩ (.slice none 0 0):=⟨_,rfl⟩;have KZ:Blk wz (w.heap.size+1) [.int .i64 0,.int .i64 0,.slice none 0 0,.slice none 0 0] 30:=by rw [hwz];exact (((KR2.out.set 0 (.int .i64 0)).set 1 (.int .i64 0)).set 2 (.slice none 0 0)).set 3 (.slice none 0 0)
 have BZ:Below w.heap.size w wz:=by rw [hwz];exact aw (aw (aw (aw B2.out (by omega) _ _) (by omega) _ _) (by omega) _ _) (by omega) _ _
 rw [← hwz];clear hwz y0 y1 y2 y3;have y0:wz.cell? ⟨w.heap.size+1,0,none⟩=some (.int .i64 0):=KZ.cell 0;have y1:wz.cell? ⟨w.heap.size+1,1,none⟩=some (.int .i64 0):=KZ.cell 1;have y2:wz.cell? ⟨w.heap.size+1,2,none⟩=some (.slice none 0 0):=KZ.cell 2;have y3:wz.cell? ⟨w.heap.size+1,3,none⟩=some (.slice none 0 0):=KZ.cell 3;refine bodyPost_ret (v:=.tuple #[.agg #[.int .i64 0,.int .i64 0,.slice none 0 0,.slice none 0 0],.bool false]) (by simp [results,Tryz.results132,go_sem,y0,y1,y2,y3]) rfl ?_
 exact ⟨rfl,BZ⟩
end Go.Proofs.YtbknhgapjjaelaaGreatDoor
