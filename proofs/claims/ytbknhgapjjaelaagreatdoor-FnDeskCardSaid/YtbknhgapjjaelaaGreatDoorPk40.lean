/-
  Part 40 of what the proof stands on: lemmas and contracts, each with its conditions ahead of the colon.
-/
import Derived.Test.YtbknhgapjjaelaaGreatDoorPk01
import Derived.Test.YtbknhgapjjaelaaGreatDoorPk12
import Derived.Test.YtbknhgapjjaelaaGreatDoorPk25
import Derived.Test.YtbknhgapjjaelaaGreatDoorPk26
import Derived.Test.YtbknhgapjjaelaaGreatDoorPk27
import Derived.Test.YtbknhgapjjaelaaGreatDoorPk33
import Derived.Test.YtbknhgapjjaelaaGreatDoorPk38
import Derived.Test.YtbknhgapjjaelaaGreatDoorPk39
set_option maxRecDepth 200000
set_option maxHeartbeats 16000000
namespace Go.Proofs.YtbknhgapjjaelaaGreatDoor
set_option linter.unusedVariables false
set_option linter.unusedSimpArgs false
open Go.RowKit
def ji:List UInt8:=[115,116,101,112,115]
theorem Fn {ws:List (List UInt8)} (h:4≤ws.length):kL ws (fun _=>none):=by
 intro w b d x lo a c hlo hlx hE hok hca hB hR ha;obtain ⟨n,hn⟩:∃ n,n=ws.length:=⟨_,rfl⟩;rw [← hn] at h ⊢;have t1:((n:Int) == 1)=false:=by rw [beq_eq_false_iff_ne];omega
 have t2:((n:Int) == 2)=false:=by rw [beq_eq_false_iff_ne];omega
 have t3:((n:Int) == 3)=false:=by rw [beq_eq_false_iff_ne];omega
 clear hlo hlx hE hok hca hB hR ha hn h
 go_enter Tryz.func67,Tryz.ntmps67;go_wp2_with fail;go_ret3;exact RetAl.what _ _ (Touch.refl _ _ _)
theorem BH {s t u:List UInt8} (h:s≠ji):kL [s,t,u] (fun _=>none):=by
 intro w b d x lo a c hlo hlx hE hok hca hB hR ha;obtain ⟨g,o,rfl,hg,hc⟩:=sO (show Rd w w.heap.size a (.string (bs s) :: .string (bs t) :: .string (bs u) :: []) from ha)
 have z:w.cell? ⟨g,o,none⟩=some (.string (bs s)):=hc 0 (by simp)
 have t1:((bs s).toList == [115,116,101,112,115])=false:=by rw [ab];exact beq_eq_false_iff_ne.2 h
 clear hlo hlx hE hok hca hB hR ha hc h;generalize bs s=y at *
 simp only [List.length_cons,List.length_nil,Nat.zero_add]
 go_enter Tryz.func67,Tryz.ntmps67;go_wp2_with fail;go_ret3;exact RetAl.what _ _ (Touch.refl _ _ _)
def iX (t u:List UInt8) (d:DD):ib:=some (match eg t with
 | none=>none
 | some n=>match eg u with
   | none=>none
   | some k=>(jS (gP d.R.toNat d.C.toNat d.A d.B n k)).map fun s=>(d,s))
theorem FM {R C:Nat} {xA xB l:List Int} {n k:Int} (h:gP R C xA xB n k=some l):l.length≤41:=by
 unfold gP at h
 split at h
 · injection h with h;subst h;exact EB _ _ _ _ _ _
 · cases h
theorem BG {t u:List UInt8} (ht:t.length≤1048576) (hu:u.length≤1048576):kL [ji,t,u] (iX t u):=by
 intro w b d x lo a c hlo hlx hE hok hca hB hR0 ha;have hR:DRd w w.heap.size d x:=hR0.mono (Nat.le_of_lt hB.lt);obtain ⟨g,o,rfl,hg,hc⟩:=sO (show Rd w w.heap.size a (.string (bs ji) :: .string (bs t) :: .string (bs u) :: []) from ha)
 have z0:w.cell? ⟨g,o,none⟩=some (.string (bs ji)):=hc 0 (by simp)
 have z1:w.cell? ⟨g,o+1,none⟩=some (.string (bs t)):=hc 1 (by simp)
 have z2:w.cell? ⟨g,o+2,none⟩=some (.string (bs u)):=hc 2 (by simp)
 have LT:=jH w hE.tab hE.err (bs t) (by rw [aI];exact ht)
 have LU:=fun v (hb:Below w.heap.size w v)=>jH v (hE.tab.to hb) (hE.err.to hb) (bs u) (by rw [aI];exact hu)
 rw [show (bs t).data.toList=t from cP t] at LT
 rw [show (bs u).data.toList=u from cP u] at LU
 have LT:=Na LT;have LU:=Na LU;have t_steps:((bs ji).toList == [115,116,101,112,115])=true:=by rw [ab];rfl
 obtain ⟨hg',hv,hc',htn⟩:=DD.ok_parts hok;obtain ⟨dR,dC,A,B,P,T,V,U,N,W,K,F⟩:=d;obtain ⟨R,C,e1,e2,r1,r6,c1,c6,lA,lB,-,-⟩:=ef hg';dsimp only at e1 e2 r1 r6 c1 c6 lA lB hg';subst e1 e2;have LS:=Na (fun n k v (hb:Below w.heap.size w v)=>G9 v R C x.a x.ca A x.b x.cb B n k hg' (hR.r.A.to hb) (hR.r.B.to hb))
 have HL:=Na (fun n k l (e:gP R C A B n k=some l)=>FM e)
 unfold iX;dsimp only [Int.toNat_natCast];have HB:=Na hB;have HLX:=Na hlx;have HR:=Na hR;have HT:=Na hE.tab;have HZ2:Hid (∀ v,Below w.heap.size w v→v.cell? ⟨g,o+2,none⟩=some (.string (bs u))):=fun v hb=>(hb.cell (p:=⟨g,o+2,none⟩) hg).trans z2
 clear hlo hlx hE hok hca hB hR hR0 ha hc hg' hv hc' htn r1 r6 c1 c6 lA lB ht hu z2;generalize eg t=vt at *
 generalize eg u=vu at *
 generalize bs ji=ys at *
 generalize bs t=yt at *
 generalize bs u=yu at *
 simp only [List.length_cons,List.length_nil,Nat.zero_add]
 go_enter Tryz.func67,Tryz.ntmps67;go_wp2_with fail
 cases vt with
 | none =>
   simp only [Option.getD_none,Option.isSome_none] at LT;refine LT.out.mono ?_;rintro e w1 ⟨rfl,hb⟩;have hbb:=Na hb;have LU1:=Na (LU.out w1 hb);have y2:=HZ2.out w1 hb;clear hb LS HL LU z0 z1;generalize vu.getD 0=n2 at *
   generalize vu.isSome=k2 at *
   go_wp2_with fail;refine LU1.out.mono ?_;rintro e w2 ⟨rfl,hb2⟩;have hb3:=Na (aa hbb.out hb2);clear hb2 y2;go_wp2_with fail;go_ret3;exact RetAl.no _ (Below.touch hb3.out _ _)
 | some n =>
   simp only [Option.getD_some,Option.isSome_some] at LT;refine LT.out.mono ?_;rintro e w1 ⟨rfl,hb⟩;have hbb:=Na hb;have LU1:=LU.out w1 hb;have y2:=HZ2.out w1 hb;clear hb LU z0 z1
   cases vu with
   | none =>
     simp only [Option.getD_none,Option.isSome_none] at LU1;have LU1:=Na LU1;clear LS HL;go_wp2_with fail;refine LU1.out.mono ?_;rintro e w2 ⟨rfl,hb2⟩;have hb3:=Na (aa hbb.out hb2);clear hb2 y2;go_wp2_with fail;go_ret3;exact RetAl.no _ (Below.touch hb3.out _ _)
   | some k =>
     simp only [Option.getD_some,Option.isSome_some] at LU1;have LU1:=Na LU1;go_wp2_with fail;refine LU1.out.mono ?_;rintro e w2 ⟨rfl,hb2⟩;have hb3:=Na (aa hbb.out hb2);have L:=LS.out n k w2 hb3.out;obtain ⟨y0,y1,y2',y3,y4,y5,y6,y7,y8,y9,y10,y11⟩:=af (HB.out.same hb3.out);dsimp only at y0 y1 y2' y3 y4 y5 y6 y7 y8 y9 y10 y11;unfold so at L;obtain ⟨q,hq⟩:∃ q,q=gP R C A B n k:=⟨_,rfl⟩;rw [← hq] at L;have L:=Na L;have HQ:=Na hq;clear hb2 hq LS y2 LU1 LT HZ2;go_wp2_with fail;refine L.out.mono ?_
     cases q with
     | none =>
       rintro e w3 ⟨hb4,rfl⟩;have LT1:=zA HT.out false [] (by simp) w3 (aa hb3.out hb4) none 0 (.inl rfl)
       rw [if_neg (by decide),List.length_nil] at LT1
       have LT1:=Na LT1;clear hb4 y0 y1 y2' y3 y4 y5 y6 y7 y8 y9 y10 y11 L HL;go_wp2_with fail;refine LT1.out.mono ?_;rintro e w4 ⟨hb5,rfl⟩;have HB5:=Na hb5;clear hb5;go_wp2_with fail;go_ret3;have e:=HQ.out
       show RetAl lo b w (some ((jS (gP R C A B n k)).map fun s=>_)) _ _
       rw [← e];exact RetAl.text (jS none) HB5.out HB.out HR.out HLX.out
     | some l =>
       rintro e w3 ⟨hb4,a',c',rfl,hr⟩;have hl:=HL.out n k l HQ.out.symm;have LT1:=zA HT.out true l (by omega) w3 (aa hb3.out hb4) a' c' hr
       rw [if_pos rfl] at LT1;have LT1:=Na LT1;clear hb4 y0 y1 y2' y3 y4 y5 y6 y7 y8 y9 y10 y11 L HL hr hl;generalize hT:er [l]=tx at *
       have HTX:=Na hT;clear hT;go_wp2_with fail;refine LT1.out.mono ?_;rintro e w4 ⟨hb5,rfl⟩;have HB5:=Na hb5;clear hb5;go_wp2_with fail;go_ret3;have e:=HQ.out
       show RetAl lo b w (some ((jS (gP R C A B n k)).map fun s=>_)) _ _
       rw [← e]
       show RetAl lo b w (some ((er [l]).map fun s=>_)) _ _
       rw [HTX.out];exact RetAl.text tx HB5.out HB.out HR.out HLX.out
noncomputable def nY (s:List UInt8):DD→ib :=
 if s=jT then (fun d=>some ((fj d.R d.C d.A d.B).map fun t=>(d,t))) else
 if s=gD then (fun d=>some ((ec d.P d.T d.V).map fun t=>(d,t))) else
 if s=iH then (fun d=>some ((eE d.U d.N d.W d.K).map fun t=>(d,t))) else
 if s=iF then (fun d=>some (some (d,ba d.F))) else
 if s=sm then (fun d=>some (some (yK d,li))) else
 if s=sT then (fun d=>ju (ek d.R.toNat d.C.toNat d.A (aD d.R.toNat d.C.toNat d.B (d.C.toNat * d.R.toNat)) (d.R.toNat * d.C.toNat)) d) else
 if s=nw then (fun d=>ju (eV d.A d.B d.A.length d.A.length) d) else
 if s=sH then (fun d=>some ((er [(jO d.R.toNat d.C.toNat d.A d.B).1,(jO d.R.toNat d.C.toNat d.A d.B).2]).map fun t=>(d,t))) else
 if s=sw then (fun d=>ju [(eJ d.R.toNat d.C.toNat d.A d.R.toNat).1,(eJ d.R.toNat d.C.toNat d.A d.R.toNat).2] d) else
 if s=np then (fun d=>ju (uR d.P.toNat d.T.toNat d.V) d) else
 if s=lH then (fun d=>some ((nm (qb d.P.toNat d.T.toNat d.V)).map fun t=>(d,t))) else
 if s=pR then (fun d=>some ((rk ⟨d.U,d.N,d.W,d.K⟩).map fun t=>(d,t))) else
 if s=pQ then (fun d=>some (oR d)) else
 if s=pu then (fun d=>some (nZ d)) else
 fun _=>none
noncomputable def qF (s t:List UInt8):DD→ib :=
 if s=jT then (py t) else
 if s=gD then (mq t) else
 if s=iH then (nH t) else
 if s=iF then (om t) else
 if s=pE then (jI t fun n d=>iS (ig d.R.toNat d.C.toNat d.A d.B n)) else
 if s=sP then (jI t fun n d=>iS (gI d.P.toNat d.T.toNat d.V n)) else
 if s=mK then (fb t fun xs d=>jS (qI d.P.toNat d.T.toNat d.V xs)) else
 if s=mR then (fb t fun xs d=>jS (lD d.P.toNat d.T.toNat d.V xs)) else
 if s=nf then (fb t fun xs d=>nm (kz ⟨d.U,d.N,d.W,d.K⟩ xs)) else
 if s=le then (fb t fun xs d=>if jb ⟨d.U,d.N,d.W,d.K⟩ xs then some (Lib.itoa (cD ⟨d.U,d.N,d.W,d.K⟩ xs)) else none) else
 fun _=>none
noncomputable def vR (ws:List (List UInt8)):DD→ib:=match ws with
 | [s]=>nY s
 | [s,t]=>qF s t
 | [s,t,u]=>if s=ji then iX t u else fun _=>none
 | _=>fun _=>none
noncomputable def fz (l:List UInt8):DD→DD × List UInt8:=gp (vR (co 32 l))
theorem F8 (s:List UInt8):fx s (nY s):=by
 unfold nY
 by_cases h0:s=jT
 · rw [if_pos h0,h0];exact DJ
 rw [if_neg h0]
 by_cases h1:s=gD
 · rw [if_pos h1,h1];exact Ah
 rw [if_neg h1]
 by_cases h2:s=iH
 · rw [if_pos h2,h2];exact Bo
 rw [if_neg h2]
 by_cases h3:s=iF
 · rw [if_pos h3,h3];exact Cd
 rw [if_neg h3]
 by_cases h4:s=sm
 · rw [if_pos h4,h4];exact EM
 rw [if_neg h4]
 by_cases h5:s=sT
 · rw [if_pos h5,h5];exact Ed
 rw [if_neg h5]
 by_cases h6:s=nw
 · rw [if_pos h6,h6];exact A0
 rw [if_neg h6]
 by_cases h7:s=sH
 · rw [if_pos h7,h7];exact Fy
 rw [if_neg h7]
 by_cases h8:s=sw
 · rw [if_pos h8,h8];exact Fi
 rw [if_neg h8]
 by_cases h9:s=np
 · rw [if_pos h9,h9];exact zT
 rw [if_neg h9]
 by_cases h10:s=lH
 · rw [if_pos h10,h10];exact yw
 rw [if_neg h10]
 by_cases h11:s=pR
 · rw [if_pos h11,h11];exact Ce
 rw [if_neg h11]
 by_cases h12:s=pQ
 · rw [if_pos h12,h12];exact Cc
 rw [if_neg h12]
 by_cases h13:s=pu
 · rw [if_pos h13,h13];exact Bn
 rw [if_neg h13];refine yF s (fun hm=>?_)
 simp only [List.mem_cons,List.not_mem_nil,or_false] at hm
 rcases hm with h | h | h | h | h | h | h | h | h | h | h | h | h | h
 · exact h0 h
 · exact h1 h
 · exact h2 h
 · exact h3 h
 · exact h4 h
 · exact h5 h
 · exact h6 h
 · exact h7 h
 · exact h8 h
 · exact h9 h
 · exact h10 h
 · exact h11 h
 · exact h12 h
 · exact h13 h
theorem JH (s:List UInt8) {t:List UInt8} (ht:t.length≤1048576):jr s t (qF s t):=by
 unfold qF
 by_cases h0:s=jT
 · rw [if_pos h0,h0];exact In t ht
 rw [if_neg h0]
 by_cases h1:s=gD
 · rw [if_pos h1,h1];exact Cq t ht
 rw [if_neg h1]
 by_cases h2:s=iH
 · rw [if_pos h2,h2];exact DG t ht
 rw [if_neg h2]
 by_cases h3:s=iF
 · rw [if_pos h3,h3];exact Dy t ht
 rw [if_neg h3]
 by_cases h4:s=pE
 · rw [if_pos h4,h4];exact Ec ht
 rw [if_neg h4]
 by_cases h5:s=sP
 · rw [if_pos h5,h5];exact GR ht
 rw [if_neg h5]
 by_cases h6:s=mK
 · rw [if_pos h6,h6];exact If ht Io
 rw [if_neg h6]
 by_cases h7:s=mR
 · rw [if_pos h7,h7];exact GF ht G6
 rw [if_neg h7]
 by_cases h8:s=nf
 · rw [if_pos h8,h8];exact GW ht IE
 rw [if_neg h8]
 by_cases h9:s=le
 · rw [if_pos h9,h9];exact EG ht DV
 rw [if_neg h9];exact Ao s t ⟨h0,h1,h2,h3,h4,h5,h6,h7,h8,h9⟩
theorem Ip {ws:List (List UInt8)} (h1:1≤ws.length) (hl:∀ t∈ws,t.length≤1048576):kL ws (vR ws):=by
 match ws,h1,hl with
 | [s],_,_=>exact Hb (F8 s)
 | [s,t],_,hl=>exact Gh (JH s (hl t (by simp)))
 | [s,t,u],_,hl =>
   show kL [s,t,u] (if s=ji then iX t u else fun _=>none)
   by_cases h:s=ji
   · rw [if_pos h,h];exact BG (hl t (by simp)) (hl u (by simp))
   · rw [if_neg h];exact BH h
 | _ :: _ :: _ :: _ :: r,_,_=>exact Fn (by simp)
def mN (d:DD) (a:ib):Prop:=∀ d' t,a=some (some (d',t))→d'.small∧t.length≤2900
theorem mw (d:DD):mN d none:=fun _ _ e=>by cases e
theorem gW {d:DD} {r:Option (List UInt8)} (h:d.ok=true) (hr:∀ t,r=some t→t.length≤2900):mN d (some (r.map fun t=>(d,t))):=fun d' t e=>by
 obtain ⟨e1,e2⟩:=zN e;subst e1;exact ⟨dO h,hr _ e2⟩
theorem ur {xs:List Int} {t:List UInt8} (h:er [xs]=some t):t.length≤1412:=by
 unfold er at h
 split at h
 · rename_i ha
   injection h with h
   subst h;have hv:bq xs=true:=by simpa using ha
   have h1:=dj hv;have h2:=se hv;have:(aJ [xs]).length=(az xs).length:=by simp [aJ,Lib.join_one]
   omega
 · cases h
theorem Bc {xs ys:List Int} {t:List UInt8} (h:er [xs,ys]=some t):t.length≤2826:=by
 unfold er at h
 split at h
 · rename_i ha
   injection h with h
   subst h;exact zG (List.all_eq_true.1 ha)
 · cases h
theorem qr {r:Option (List Int)} {t:List UInt8} (h:jS r=some t):t.length≤2900:=by
 unfold jS at h
 split at h
 · cases h
 · have:=ur h;omega
theorem vd {r:Option (List Int × List Int)} {t:List UInt8} (h:iS r=some t):t.length≤2900:=by
 unfold iS at h
 split at h
 · cases h
 · have:=Bc h;omega
theorem xl {l:List Int} {n:Int} {t:List UInt8} (n0:-9223372036854775808≤n) (n1:n≤9223372036854775807) (h:qn true l n=some t):t.length≤2900:=by
 unfold qn at h
 split at h
 · rename_i hv
   injection h with h
   subst h;have h1:=dj (xs:=l) (by simpa using hv)
   have h2:=se (xs:=l) (by simpa using hv)
   have h3:=iA n0 n1;simp only [List.length_append,List.length_cons,List.length_nil];omega
 · cases h
theorem H9 {d:DD} (hd:d.ok=true) {t:List UInt8} (h:fj d.R d.C d.A d.B=some t):t.length≤2900:=by
 unfold fj at h
 split at h
 · rename_i hg
   injection h with h
   subst h;have hv:=sn hg;have v1:=dj (hv [d.R,d.C] (by simp))
   have v2:=dj (hv d.A (by simp))
   have v3:=dj (hv d.B (by simp))
   obtain ⟨a,b,-⟩:=DD.ok_len hd;rw [kW];simp only [List.length_cons,List.length_nil] at v1;omega
 · cases h
theorem Ca {d:DD} {t:List UInt8} (h:ec d.P d.T d.V=some t):t.length≤2900:=by
 unfold ec at h
 split at h
 · rename_i hg
   injection h with h
   subst h;have:=zG (oy hg);simp only [List.length_cons,List.length_nil] at this;omega
 · cases h
theorem EU {d:DD} (hd:d.ok=true) {t:List UInt8} (h:eE d.U d.N d.W d.K=some t):t.length≤2900:=by
 unfold eE at h
 split at h
 · rename_i hg
   injection h with h
   subst h;have hv:=qD hg;have v1:=dj (hv [d.U,d.N] (by simp))
   have v2:=dj (hv d.W (by simp))
   have v3:=dj (hv d.K (by simp))
   obtain ⟨-,-,-,a,b,-⟩:=DD.ok_len hd;rw [kW];simp only [List.length_cons,List.length_nil] at v1;omega
 · cases h
theorem ph {d:DD} (h:d.ok=true) (xs:List Int):mN d (ju xs d):=gW h fun t e=>by have:=ur e;omega
theorem Ew {d:DD} (h:d.ok=true):(yK d).small:=by
 obtain ⟨a,b,v,l,k,f⟩:=dO h;obtain ⟨R,C,e1,e2,r1,r6,c1,c6,-⟩:=ef (DD.ok_parts h).1;have hRC:C * R≤6 * 6:=Nat.mul_le_mul c6 r6;refine ⟨?_,?_,v,l,k,f⟩
 · show (aD _ _ _ _).length≤_;rw [Aq,e1,e2,Int.toNat_natCast,Int.toNat_natCast];omega
 · show (aD _ _ _ _).length≤_;rw [Aq,e1,e2,Int.toNat_natCast,Int.toNat_natCast];omega
theorem FD {d d':DD} {t:List UInt8} (h:d.ok=true) (e:oR d=some (d',t)):d'.small∧t.length≤2900:=by
 obtain ⟨a,b,v,l,k,f⟩:=dO h;unfold oR at e
 split at e
 · rename_i hv
   injection e with e;injection e with e1 e2
   subst e1 e2;have hc:=(ee hv);have u8:=hc.u8;have r8:=hc.r8;have hl:=hc.clen;refine ⟨⟨a,b,v,l,?_,f⟩,by show 2≤_;decide⟩
   show (fh (fy ⟨d.U,d.N,d.W,d.K⟩) ⟨d.U,d.N,d.W,d.K⟩).costs.length≤_
   have u1:=hc.u1;have r1:=hc.r1;have hm:=Int.mul_le_mul u8 r8 (by omega) (by omega)
   omega
 · cases e
theorem Cp {d d':DD} {t:List UInt8} (h:d.ok=true) (e:nZ d=some (d',t)):d'.small∧t.length≤2900:=by
 obtain ⟨a,b,v,l,k,f⟩:=dO h;unfold nZ at e
 cases hr:jj d.F with
 | none=>rw [hr] at e;cases e
 | some fs =>
   rw [hr] at e;injection e with e;injection e with e1 e2
   subst e1 e2;refine ⟨⟨a,b,v,l,k,?_⟩,by show 2≤_;decide⟩
   unfold jj at hr
   split at hr
   · injection hr with hr
     subst hr
     show (iG iU d.F).length≤_
     simp only [iG,List.length_map];exact f
   · cases hr
theorem Fq {d:DD} (h:d.ok=true) (s:List UInt8):mN d (nY s d):=by
 unfold nY
 by_cases h0:s=jT
 · rw [if_pos h0]
   exact gW h fun t e=>H9 h e
 rw [if_neg h0]
 by_cases h1:s=gD
 · rw [if_pos h1]
   exact gW h fun t e=>Ca e
 rw [if_neg h1]
 by_cases h2:s=iH
 · rw [if_pos h2]
   exact gW h fun t e=>EU h e
 rw [if_neg h2]
 by_cases h3:s=iF
 · rw [if_pos h3]
   intro d' t e;injection e with e;injection e with e;injection e with e1 e2
   subst e1 e2;have:=qd d.F;have:=(DD.ok_len h).2.2.2.2.2.2;exact ⟨dO h,by omega⟩
 rw [if_neg h3]
 by_cases h4:s=sm
 · rw [if_pos h4]
   intro d' t e;injection e with e;injection e with e;injection e with e1 e2
   subst e1 e2;exact ⟨Ew h,by show 2≤_;decide⟩
 rw [if_neg h4]
 by_cases h5:s=sT
 · rw [if_pos h5]
   exact ph h _
 rw [if_neg h5]
 by_cases h6:s=nw
 · rw [if_pos h6]
   exact ph h _
 rw [if_neg h6]
 by_cases h7:s=sH
 · rw [if_pos h7]
   exact gW h fun t e=>by have:=Bc e;omega
 rw [if_neg h7]
 by_cases h8:s=sw
 · rw [if_pos h8]
   exact ph h _
 rw [if_neg h8]
 by_cases h9:s=np
 · rw [if_pos h9]
   exact ph h _
 rw [if_neg h9]
 by_cases h10:s=lH
 · rw [if_pos h10]
   refine gW h fun t e=>?_
   obtain ⟨P,T,e1,e2,p1,p6,t1,t8,lV,hb⟩:=cq (DD.ok_parts h).2.1;unfold nm at e
   split at e
   · cases e
   · rename_i l n hr
     have hT:d.T.toNat≤8:=by rw [e2,Int.toNat_natCast];exact t8
     obtain ⟨_,n0,n1⟩:=zf hb hT hr;exact xl n0 n1 e
 rw [if_neg h10]
 by_cases h11:s=pR
 · rw [if_pos h11]
   refine gW h fun t e=>?_
   unfold rk at e
   split at e
   · have:=ur e;omega
   · cases e
 rw [if_neg h11]
 by_cases h12:s=pQ
 · rw [if_pos h12]
   intro d' t e;injection e with e
   exact FD h e
 rw [if_neg h12]
 by_cases h13:s=pu
 · rw [if_pos h13]
   intro d' t e;injection e with e
   exact Cp h e
 rw [if_neg h13];exact mw d
theorem AA {d:DD} (h:d.ok=true) (t:List UInt8) {f:Int→DD→Option (List UInt8)} (hf:∀ n s,f n d=some s→s.length≤2900):mN d (jI t f d):=by
 unfold jI
 cases eg t with
 | none=>exact fun d' s e=>by injection e with e;cases e
 | some n=>exact gW h (hf n)
theorem oQ {d:DD} (h:d.ok=true) (t:List UInt8) {f:List Int→DD→Option (List UInt8)} (hf:∀ xs s,xs.length≤64→f xs d=some s→s.length≤2900):mN d (fb t f d):=by
 unfold fb
 cases hn:de t with
 | none=>exact fun d' s e=>by injection e with e;cases e
 | some xs=>exact gW h fun s e=>hf xs s (kp hn) e
theorem Iq {d:DD} (h:d.ok=true) (s t:List UInt8) (hl:t.length≤1048576):mN d (qF s t d):=by
 obtain ⟨a,b,v,l,k,f⟩:=dO h;unfold qF
 by_cases h0:s=jT
 · rw [if_pos h0]
   intro d' s e;have hlen:=yY (V:=bY) (l:=t);unfold py ud at e
   split at e
   · injection e with e;injection e with e;injection e with e1 e2
     subst e1 e2;exact ⟨⟨by show (gv bY t).2.2.1.length≤_;omega,by show (gv bY t).2.2.2.1.length≤_;omega,v,l,k,f⟩,by show 2≤_;decide⟩
   · injection e with e;cases e
 rw [if_neg h0]
 by_cases h1:s=gD
 · rw [if_pos h1]
   intro d' s e;have hlen:=IJ (V:=bu) (l:=t);unfold mq qB at e
   split at e
   · injection e with e;injection e with e;injection e with e1 e2
     subst e1 e2;exact ⟨⟨a,b,by show (mz bu t).2.2.1.length≤_;omega,l,k,f⟩,by show 2≤_;decide⟩
   · injection e with e;cases e
 rw [if_neg h1]
 by_cases h2:s=iH
 · rw [if_pos h2]
   intro d' s e;have hlen:=yY (V:=ie) (l:=t);unfold nH rj at e
   split at e
   · injection e with e;injection e with e;injection e with e1 e2
     subst e1 e2;exact ⟨⟨a,b,v,by show (gv ie t).2.2.1.length≤_;omega,by show (gv ie t).2.2.2.1.length≤_;omega,f⟩,by show 2≤_;decide⟩
   · injection e with e;cases e
 rw [if_neg h2]
 by_cases h3:s=iF
 · rw [if_pos h3]
   intro d' s e;unfold om at e
   split at e
   · injection e with e;cases e
   · rename_i ns hns
     injection e with e;injection e with e;injection e with e1 e2
     subst e1 e2;have:=(rA hns).1;exact ⟨⟨a,b,v,l,k,by show ns.length≤_;omega⟩,by show 2≤_;decide⟩
 rw [if_neg h3]
 by_cases h4:s=pE
 · rw [if_pos h4]
   exact AA h t fun n s e=>vd e
 rw [if_neg h4]
 by_cases h5:s=sP
 · rw [if_pos h5]
   exact AA h t fun n s e=>vd e
 rw [if_neg h5]
 by_cases h6:s=mK
 · rw [if_pos h6]
   exact oQ h t fun xs s _ e=>qr e
 rw [if_neg h6]
 by_cases h7:s=mR
 · rw [if_pos h7]
   exact oQ h t fun xs s _ e=>qr e
 rw [if_neg h7]
 by_cases h8:s=nf
 · rw [if_pos h8]
   refine oQ h t fun xs s hx e=>?_
   unfold nm at e
   split at e
   · cases e
   · rename_i l n hr
     obtain ⟨_,n0,n1⟩:=zP hr hx;exact xl n0 n1 e
 rw [if_neg h8]
 by_cases h9:s=le
 · rw [if_pos h9]
   refine oQ h t fun xs s hx e=>?_
   split at e
   · injection e with e
     subst e;have hb:=ug (ee (DD.ok_parts h).2.2.1) xs;have:=iA (n:=cD ⟨d.U,d.N,d.W,d.K⟩ xs) (by omega) (by omega)
     omega
   · cases e
 rw [if_neg h9];exact mw d
theorem vK {d:DD} (h:d.ok=true) {ws:List (List UInt8)} (hl:∀ t∈ws,t.length≤1048576):mN d (vR ws d):=by
 match ws,hl with
 | [],_=>exact mw d
 | [s],_=>exact Fq h s
 | [s,t],hl=>exact Iq h s t (hl t (by simp))
 | [s,t,u],_ =>
   show mN d ((if s=ji then iX t u else fun _=>none) d)
   split
   · unfold iX
     split
     · exact fun d' s e=>by injection e with e;cases e
     · split
       · exact fun d' s e=>by injection e with e;cases e
       · exact gW h fun s e=>qr e
   · exact mw d
 | _ :: _ :: _ :: _ :: r,_=>exact mw d
theorem ul {l:List UInt8} (hl:l.length≤1048576):Ih (l,fz l) :=
 Ie hl (Ip (zy 32 l) fun t ht=>Nat.le_trans (iY ht) hl) fun d d' t h e=>by
  obtain ⟨h1,h2⟩:=vK h (fun t ht=>Nat.le_trans (iY ht) hl) d' t e
  exact ⟨h1,by omega⟩
theorem Af {l:List UInt8} (hl:l.length≤1048576) {d:DD} (h:d.ok=true):(fz l d).1.ok=true∧(fz l d).2.length≤2900:=by
 refine ⟨AI h,?_⟩
 unfold fz gp
 split
 · show 4≤_;decide
 · show 2≤_;decide
 · rename_i d' t e
   split
   · exact (vK h (fun t ht=>Nat.le_trans (iY ht) hl) d' t e).2
   · show 2≤_;decide
theorem wL {b c:UInt8} {xs:List (List UInt8)} (hc:b≠c) (h:∀ x∈xs,b∉x):b∉Lib.join xs [c]:=fun hm=>by
 rcases qN _ hm with h1 | ⟨x,hx,hb⟩
 · exact hc h1
 · exact h x hx hb
theorem sg (xs:List Int):(10:UInt8)∉az xs:=by
 unfold az
 split
 · decide
 · exact wL (by decide) fun x hx=>by obtain ⟨n,_,rfl⟩:=List.mem_map.1 hx;exact mg n
theorem na (xss:List (List Int)):(10:UInt8)∉aJ xss :=
 wL (by decide) fun x hx=>by obtain ⟨l,_,rfl⟩:=List.mem_map.1 hx;exact sg l
theorem vQ (xs:List Nat):(10:UInt8)∉ba xs:=by
 unfold ba
 split
 · decide
 · refine wL (by decide) fun x hx=>?_
   obtain ⟨n,_,rfl⟩:=List.mem_map.1 hx;intro h;have:=tZ h
   revert this;decide
def iu (l:List UInt8):Prop:=l.length≤1800∧(10:UInt8)∉l
theorem pa {x y:List UInt8} (hx:x.length≤10) (hx2:(10:UInt8)∉x) (hy:y.length≤1790) (hy2:(10:UInt8)∉y):iu (x ++ y) :=
 ⟨by rw [List.length_append];omega,by simp only [List.mem_append,not_or];exact ⟨hx2,hy2⟩⟩
theorem Ho {p q:Int} {x:List Int} (hp:-1000000000000000≤p∧p≤1000000000000000) (hq:-1000000000000000≤q∧q≤1000000000000000) (hx:bq x=true) (hl:x.length≤16):(aJ [[p,q],x]).length≤800:=by
 have h1:bq [p,q]=true:=by simp only [bq,gm,List.all_cons,List.all_nil,Bool.and_true,Bool.and_eq_true];exact ⟨⟨bH.2 hp,bH.2 hq⟩,rfl⟩
 have:=dj h1;have:=dj hx;rw [vh];simp at *
 omega
theorem FW {p q:Int} {x y:List Int} (hp:-1000000000000000≤p∧p≤1000000000000000) (hq:-1000000000000000≤q∧q≤1000000000000000) (hx:bq x=true) (hl:x.length≤16) (hy:bq y=true) (hl2:y.length≤16):(aJ [[p,q],x,y]).length≤1200:=by
 have h1:bq [p,q]=true:=by simp only [bq,gm,List.all_cons,List.all_nil,Bool.and_true,Bool.and_eq_true];exact ⟨⟨bH.2 hp,bH.2 hq⟩,rfl⟩
 have:=dj h1;have:=dj hx;have:=dj hy;rw [kW];simp at *
 omega
theorem CT (k:Nat):∀ (xs:List (List UInt8)),(∀ x∈xs,x.length≤k)→(Lib.join xs [44]).length≤(k+1) * xs.length
 | [],_=>by simp [Lib.join_nil]
 | [x],h=>by have:=h x (by simp);rw [Lib.join_cons];simp [Lib.joinTail];omega
 | x :: y :: r,h=>by
   have h1:=h x (by simp)
   have h2:=CT k (y :: r) (fun z hz=>h z (by simp [hz]))
   have e:Lib.join (x :: y :: r) [44]=x ++ 44 :: Lib.join (y :: r) [44]:=by rw [Lib.join_cons,Lib.join_cons];simp [Lib.joinTail]
   rw [e];simp only [List.length_append,List.length_cons] at h2 ⊢;rw [Nat.mul_add (k+1) (r.length+1) 1];omega
theorem JM (xs:List Nat):(ba xs).length≤9 * xs.length+4:=by
 unfold ba
 split
 · simp [lJ]
 · have:=CT 8 (xs.map db) (fun x hx=>by obtain ⟨n,_,rfl⟩:=List.mem_map.1 hx;rw [kj];omega)
   rw [List.length_map] at this;omega
def jk (t:List UInt8):Prop:=(10:UInt8)∉t∧fQ t=false
theorem nc (x:List Int) (r:List (List Int)):jk (aJ (x :: r)):=⟨na _,Eb x r⟩
theorem E9 (xs:List Nat):jk (ba xs):=⟨vQ xs,FC xs⟩
theorem Im (n:Int):jk (Lib.itoa n):=⟨mg n,F1 n⟩
theorem lp:jk li:=⟨by decide,by decide⟩
def mU (a:ib):Prop:=∀ d' t,a=some (some (d',t))→jk t
theorem pO:mU none:=fun _ _ e=>by cases e
theorem yQ:mU (some none):=fun _ _ e=>by cases e
theorem ii {d:DD} {r:Option (List UInt8)} (hr:∀ t,r=some t→jk t):mU (some (r.map fun t=>(d,t))):=fun d' t e=>by
 obtain ⟨e1,e2⟩:=zN e;exact hr _ e2
theorem my {xs:List Int} {r:List (List Int)} {t:List UInt8} (h:er (xs :: r)=some t):jk t:=by
 unfold er at h
 split at h
 · injection h with h
   subst h;exact nc _ _
 · cases h
theorem vZ {r:Option (List Int)} {t:List UInt8} (h:jS r=some t):jk t:=by
 unfold jS at h
 split at h
 · cases h
 · exact my h
theorem C9 {r:Option (List Int × List Int)} {t:List UInt8} (h:iS r=some t):jk t:=by
 unfold iS at h
 split at h
 · cases h
 · exact my h
theorem Mh {b:Bool} {l:List Int} {n:Int} {t:List UInt8} (h:qn b l n=some t):jk t:=by
 unfold qn at h
 split at h
 · injection h with h
   subst h;refine ⟨?_,?_⟩
   · simp only [List.mem_append,not_or]
     exact ⟨⟨sg _,by decide⟩,mg _⟩
   · rw [List.append_assoc];exact yd _ _
 · cases h
theorem De {r:Option (List Int × Int)} {t:List UInt8} (h:nm r=some t):jk t:=by
 unfold nm at h
 split at h
 · cases h
 · exact Mh h
theorem IS (s:List UInt8) (d:DD):mU (nY s d):=by
 unfold nY
 by_cases h0:s=jT
 · rw [if_pos h0]
   refine ii fun t e=>?_
   unfold fj at e
   split at e
   · injection e with e;subst e;exact nc _ _
   · cases e
 rw [if_neg h0]
 by_cases h1:s=gD
 · rw [if_pos h1]
   refine ii fun t e=>?_
   unfold ec at e
   split at e
   · injection e with e;subst e;exact nc _ _
   · cases e
 rw [if_neg h1]
 by_cases h2:s=iH
 · rw [if_pos h2]
   refine ii fun t e=>?_
   unfold eE at e
   split at e
   · injection e with e;subst e;exact nc _ _
   · cases e
 rw [if_neg h2]
 by_cases h3:s=iF
 · rw [if_pos h3]
   intro d' t e;injection e with e;injection e with e;injection e with e1 e2
   subst e1 e2;exact E9 _
 rw [if_neg h3]
 by_cases h4:s=sm
 · rw [if_pos h4]
   intro d' t e;injection e with e;injection e with e;injection e with e1 e2
   subst e1 e2;exact lp
 rw [if_neg h4]
 by_cases h5:s=sT
 · rw [if_pos h5];exact ii fun t e=>my e
 rw [if_neg h5]
 by_cases h6:s=nw
 · rw [if_pos h6];exact ii fun t e=>my e
 rw [if_neg h6]
 by_cases h7:s=sH
 · rw [if_pos h7];exact ii fun t e=>my e
 rw [if_neg h7]
 by_cases h8:s=sw
 · rw [if_pos h8];exact ii fun t e=>my e
 rw [if_neg h8]
 by_cases h9:s=np
 · rw [if_pos h9];exact ii fun t e=>my e
 rw [if_neg h9]
 by_cases h10:s=lH
 · rw [if_pos h10];exact ii fun t e=>De e
 rw [if_neg h10]
 by_cases h11:s=pR
 · rw [if_pos h11]
   refine ii fun t e=>?_
   unfold rk at e
   split at e
   · exact my e
   · cases e
 rw [if_neg h11]
 by_cases h12:s=pQ
 · rw [if_pos h12]
   intro d' t e;injection e with e
   unfold oR at e
   split at e
   · injection e with e;injection e with e1 e2
     subst e1 e2;exact lp
   · cases e
 rw [if_neg h12]
 by_cases h13:s=pu
 · rw [if_pos h13]
   intro d' t e;injection e with e
   unfold nZ at e
   cases hr:jj d.F with
   | none=>rw [hr] at e;cases e
   | some fs =>
     rw [hr] at e;injection e with e;injection e with e1 e2
     subst e1 e2;exact lp
 rw [if_neg h13];exact pO
theorem xG {d:DD} (t:List UInt8) {f:Int→DD→Option (List UInt8)} (hf:∀ n s,f n d=some s→jk s):mU (jI t f d):=by
 unfold jI
 cases eg t with
 | none=>exact yQ
 | some n=>exact ii (hf n)
theorem mM {d:DD} (t:List UInt8) {f:List Int→DD→Option (List UInt8)} (hf:∀ xs s,f xs d=some s→jk s):mU (fb t f d):=by
 unfold fb
 cases hn:de t with
 | none=>exact yQ
 | some xs=>exact ii fun s e=>hf xs s e
theorem Ky (s t:List UInt8) (d:DD):mU (qF s t d):=by
 unfold qF
 by_cases h0:s=jT
 · rw [if_pos h0]
   intro d' s e;unfold py ud at e
   split at e
   · injection e with e;injection e with e;injection e with e1 e2
     subst e1 e2;exact lp
   · injection e with e;cases e
 rw [if_neg h0]
 by_cases h1:s=gD
 · rw [if_pos h1]
   intro d' s e;unfold mq qB at e
   split at e
   · injection e with e;injection e with e;injection e with e1 e2
     subst e1 e2;exact lp
   · injection e with e;cases e
 rw [if_neg h1]
 by_cases h2:s=iH
 · rw [if_pos h2]
   intro d' s e;unfold nH rj at e
   split at e
   · injection e with e;injection e with e;injection e with e1 e2
     subst e1 e2;exact lp
   · injection e with e;cases e
 rw [if_neg h2]
 by_cases h3:s=iF
 · rw [if_pos h3]
   intro d' s e;unfold om at e
   split at e
   · injection e with e;cases e
   · injection e with e;injection e with e;injection e with e1 e2
     subst e1 e2;exact lp
 rw [if_neg h3]
 by_cases h4:s=pE
 · rw [if_pos h4];exact xG t fun n s e=>C9 e
 rw [if_neg h4]
 by_cases h5:s=sP
 · rw [if_pos h5];exact xG t fun n s e=>C9 e
 rw [if_neg h5]
 by_cases h6:s=mK
 · rw [if_pos h6];exact mM t fun xs s e=>vZ e
 rw [if_neg h6]
 by_cases h7:s=mR
 · rw [if_pos h7];exact mM t fun xs s e=>vZ e
 rw [if_neg h7]
 by_cases h8:s=nf
 · rw [if_pos h8];exact mM t fun xs s e=>De e
 rw [if_neg h8]
 by_cases h9:s=le
 · rw [if_pos h9]
   refine mM t fun xs s e=>?_
   split at e
   · injection e with e
     subst e;exact Im _
   · cases e
 rw [if_neg h9];exact pO
theorem ze (ws:List (List UInt8)) (d:DD):mU (vR ws d):=by
 match ws with
 | []=>exact pO
 | [s]=>exact IS s d
 | [s,t]=>exact Ky s t d
 | [s,t,u] =>
   show mU ((if s=ji then iX t u else fun _=>none) d)
   split
   · unfold iX
     split
     · exact yQ
     · split
       · exact yQ
       · exact ii fun s e=>vZ e
   · exact pO
 | _ :: _ :: _ :: _ :: r=>exact pO
theorem Ge (l:List UInt8) (d:DD):(10:UInt8)∉(fz l d).2:=by
 unfold fz gp
 split
 · exact (by decide:(10:UInt8)∉yL)
 · exact (by decide:(10:UInt8)∉ya)
 · rename_i d' t e
   split
   · exact (ze _ d d' t e).1
   · exact (by decide:(10:UInt8)∉ya)
theorem Jj {l:List UInt8} {d:DD} (h:fQ (fz l d).2=true):(fz l d).1=d:=by
 unfold fz gp at h ⊢
 split at h
 · rfl
 · rfl
 · rename_i d' t e
   split at h
   · have:=(ze _ d d' t e).2
     rw [this] at h
     cases h
   · rename_i hk
     rw [if_neg hk]
end Go.Proofs.YtbknhgapjjaelaaGreatDoor
