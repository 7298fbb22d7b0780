/-
  Part 39 of what the proof stands on: lemmas and contracts, each with its conditions ahead of the colon.
-/
import Derived.Test.YtbknhgapjjaelaaGreatDoorPj01
import Derived.Test.YtbknhgapjjaelaaGreatDoorPj04
import Derived.Test.YtbknhgapjjaelaaGreatDoorPj06
import Derived.Test.YtbknhgapjjaelaaGreatDoorPj23
import Derived.Test.YtbknhgapjjaelaaGreatDoorPj25
import Derived.Test.YtbknhgapjjaelaaGreatDoorPj27
import Derived.Test.YtbknhgapjjaelaaGreatDoorPj32
import Derived.Test.YtbknhgapjjaelaaGreatDoorPj37
import Derived.Test.YtbknhgapjjaelaaGreatDoorPj38
set_option maxRecDepth 200000
set_option maxHeartbeats 16000000
namespace Go.Proofs.YtbknhgapjjaelaaGreatDoor
set_option linter.unusedVariables false
set_option linter.unusedSimpArgs false
open Go.RowKit
def jp:List UInt8:=[115,116,101,112,115]
theorem EJ {ws:List (List UInt8)} (h:4≤ws.length):kG ws (fun _=>none):=by
 intro w b d x lo a c hlo hlx hE hok hca hB hR ha;obtain ⟨n,hn⟩:∃ n,n=ws.length:=⟨_,rfl⟩;rw [← hn] at h ⊢;have t1:((n:Int) == 1)=false:=by rw [beq_eq_false_iff_ne];omega
 have t2:((n:Int) == 2)=false:=by rw [beq_eq_false_iff_ne];omega
 have t3:((n:Int) == 3)=false:=by rw [beq_eq_false_iff_ne];omega
 clear hlo hlx hE hok hca hB hR ha hn h
 go_enter Tryz.func67,Tryz.ntmps67;go_wp2_with fail;go_ret3;exact RetAl.what _ _ (Touch.refl _ _ _)
theorem Cy {s t u:List UInt8} (h:s≠jp):kG [s,t,u] (fun _=>none):=by
 intro w b d x lo a c hlo hlx hE hok hca hB hR ha;obtain ⟨g,o,rfl,hg,hc⟩:=sW (show Rd w w.heap.size a (.string (bs s) :: .string (bs t) :: .string (bs u) :: []) from ha)
 have z:w.cell? ⟨g,o,none⟩=some (.string (bs s)):=hc 0 (by simp)
 have t1:((bs s).toList == [115,116,101,112,115])=false:=by rw [ab];exact beq_eq_false_iff_ne.2 h
 clear hlo hlx hE hok hca hB hR ha hc h;generalize bs s=y at *
 simp only [List.length_cons,List.length_nil,Nat.zero_add]
 go_enter Tryz.func67,Tryz.ntmps67;go_wp2_with fail;go_ret3;exact RetAl.what _ _ (Touch.refl _ _ _)
def jk (t u:List UInt8) (d:DD):il:=some (match eF t with
 | none=>none
 | some n=>match eF u with
   | none=>none
   | some k=>(jU (gZ d.R.toNat d.C.toNat d.A d.B n k)).map fun s=>(d,s))
theorem I7 {R C:Nat} {xA xB l:List Int} {n k:Int} (h:gZ R C xA xB n k=some l):l.length≤41:=by
 unfold gZ at h
 split at h
 · injection h with h;subst h;exact Gd _ _ _ _ _ _
 · cases h
theorem Cx {t u:List UInt8} (ht:t.length≤1048576) (hu:u.length≤1048576):kG [jp,t,u] (jk t u):=by
 intro w b d x lo a c hlo hlx hE hok hca hB hR0 ha;have hR:DRd w w.heap.size d x:=hR0.mono (Nat.le_of_lt hB.lt);obtain ⟨g,o,rfl,hg,hc⟩:=sW (show Rd w w.heap.size a (.string (bs jp) :: .string (bs t) :: .string (bs u) :: []) from ha)
 have z0:w.cell? ⟨g,o,none⟩=some (.string (bs jp)):=hc 0 (by simp)
 have z1:w.cell? ⟨g,o+1,none⟩=some (.string (bs t)):=hc 1 (by simp)
 have z2:w.cell? ⟨g,o+2,none⟩=some (.string (bs u)):=hc 2 (by simp)
 have LT:=jO w hE.tab hE.err (bs t) (by rw [aE];exact ht)
 have LU:=fun v (hb:Below w.heap.size w v)=>jO v (hE.tab.to hb) (hE.err.to hb) (bs u) (by rw [aE];exact hu)
 rw [show (bs t).data.toList=t from cu t] at LT
 rw [show (bs u).data.toList=u from cu u] at LU
 have LT:=Oi LT;have LU:=Oi LU;have t_steps:((bs jp).toList == [115,116,101,112,115])=true:=by rw [ab];rfl
 obtain ⟨hg',hv,hc',htn⟩:=DD.ok_parts hok;obtain ⟨dR,dC,A,B,P,T,V,U,N,W,K,F⟩:=d;obtain ⟨R,C,e1,e2,r1,r6,c1,c6,lA,lB,-,-⟩:=eH hg';dsimp only at e1 e2 r1 r6 c1 c6 lA lB hg';subst e1 e2;have LS:=Oi (fun n k v (hb:Below w.heap.size w v)=>I6 v R C x.a x.ca A x.b x.cb B n k hg' (hR.r.A.to hb) (hR.r.B.to hb))
 have HL:=Oi (fun n k l (e:gZ R C A B n k=some l)=>I7 e)
 unfold jk;dsimp only [Int.toNat_natCast];have HB:=Oi hB;have HLX:=Oi hlx;have HR:=Oi hR;have HT:=Oi hE.tab;have HZ2:Hid (∀ v,Below w.heap.size w v→v.cell? ⟨g,o+2,none⟩=some (.string (bs u))):=fun v hb=>(hb.cell (p:=⟨g,o+2,none⟩) hg).trans z2
 clear hlo hlx hE hok hca hB hR hR0 ha hc hg' hv hc' htn r1 r6 c1 c6 lA lB ht hu z2;generalize eF t=vt at *
 generalize eF u=vu at *
 generalize bs jp=ys at *
 generalize bs t=yt at *
 generalize bs u=yu at *
 simp only [List.length_cons,List.length_nil,Nat.zero_add]
 go_enter Tryz.func67,Tryz.ntmps67;go_wp2_with fail
 cases vt with
 | none =>
   simp only [Option.getD_none,Option.isSome_none] at LT;refine LT.out.mono ?_;rintro e w1 ⟨rfl,hb⟩;have hbb:=Oi hb;have LU1:=Oi (LU.out w1 hb);have y2:=HZ2.out w1 hb;clear hb LS HL LU z0 z1;generalize vu.getD 0=n2 at *
   generalize vu.isSome=k2 at *
   go_wp2_with fail;refine LU1.out.mono ?_;rintro e w2 ⟨rfl,hb2⟩;have hb3:=Oi (aa hbb.out hb2);clear hb2 y2;go_wp2_with fail;go_ret3;exact RetAl.no _ (Below.touch hb3.out _ _)
 | some n =>
   simp only [Option.getD_some,Option.isSome_some] at LT;refine LT.out.mono ?_;rintro e w1 ⟨rfl,hb⟩;have hbb:=Oi hb;have LU1:=LU.out w1 hb;have y2:=HZ2.out w1 hb;clear hb LU z0 z1
   cases vu with
   | none =>
     simp only [Option.getD_none,Option.isSome_none] at LU1;have LU1:=Oi LU1;clear LS HL;go_wp2_with fail;refine LU1.out.mono ?_;rintro e w2 ⟨rfl,hb2⟩;have hb3:=Oi (aa hbb.out hb2);clear hb2 y2;go_wp2_with fail;go_ret3;exact RetAl.no _ (Below.touch hb3.out _ _)
   | some k =>
     simp only [Option.getD_some,Option.isSome_some] at LU1;have LU1:=Oi LU1;go_wp2_with fail;refine LU1.out.mono ?_;rintro e w2 ⟨rfl,hb2⟩;have hb3:=Oi (aa hbb.out hb2);have L:=LS.out n k w2 hb3.out;obtain ⟨y0,y1,y2',y3,y4,y5,y6,y7,y8,y9,y10,y11⟩:=af (HB.out.same hb3.out);dsimp only at y0 y1 y2' y3 y4 y5 y6 y7 y8 y9 y10 y11;unfold sD at L;obtain ⟨q,hq⟩:∃ q,q=gZ R C A B n k:=⟨_,rfl⟩;rw [← hq] at L;have L:=Oi L;have HQ:=Oi hq;clear hb2 hq LS y2 LU1 LT HZ2;go_wp2_with fail;refine L.out.mono ?_
     cases q with
     | none =>
       rintro e w3 ⟨hb4,rfl⟩;have LT1:=Cc HT.out false [] (by simp) w3 (aa hb3.out hb4) none 0 (.inl rfl)
       rw [if_neg (by decide),List.length_nil] at LT1
       have LT1:=Oi LT1;clear hb4 y0 y1 y2' y3 y4 y5 y6 y7 y8 y9 y10 y11 L HL;go_wp2_with fail;refine LT1.out.mono ?_;rintro e w4 ⟨hb5,rfl⟩;have HB5:=Oi hb5;clear hb5;go_wp2_with fail;go_ret3;have e:=HQ.out
       show RetAl lo b w (some ((jU (gZ R C A B n k)).map fun s=>_)) _ _
       rw [← e];exact RetAl.text (jU none) HB5.out HB.out HR.out HLX.out
     | some l =>
       rintro e w3 ⟨hb4,a',c',rfl,hr⟩;have hl:=HL.out n k l HQ.out.symm;have LT1:=Cc HT.out true l (by omega) w3 (aa hb3.out hb4) a' c' hr
       rw [if_pos rfl] at LT1;have LT1:=Oi LT1;clear hb4 y0 y1 y2' y3 y4 y5 y6 y7 y8 y9 y10 y11 L HL hr hl;generalize hT:eE [l]=tx at *
       have HTX:=Oi hT;clear hT;go_wp2_with fail;refine LT1.out.mono ?_;rintro e w4 ⟨hb5,rfl⟩;have HB5:=Oi hb5;clear hb5;go_wp2_with fail;go_ret3;have e:=HQ.out
       show RetAl lo b w (some ((jU (gZ R C A B n k)).map fun s=>_)) _ _
       rw [← e]
       show RetAl lo b w (some ((eE [l]).map fun s=>_)) _ _
       rw [HTX.out];exact RetAl.text tx HB5.out HB.out HR.out HLX.out
noncomputable def oc (s:List UInt8):DD→il :=
 if s=ke then (fun d=>some ((gm d.R d.C d.A d.B).map fun t=>(d,t))) else
 if s=gM then (fun d=>some ((fd d.P d.T d.V).map fun t=>(d,t))) else
 if s=iK then (fun d=>some ((fE d.U d.N d.W d.K).map fun t=>(d,t))) else
 if s=iL then (fun d=>some (some (d,bJ d.F))) else
 if s=tr then (fun d=>some (some (zr d,lr))) else
 if s=tk then (fun d=>jE (er d.R.toNat d.C.toNat d.A (aG d.R.toNat d.C.toNat d.B (d.C.toNat * d.R.toNat)) (d.R.toNat * d.C.toNat)) d) else
 if s=nX then (fun d=>jE (fh d.A d.B d.A.length d.A.length) d) else
 if s=tj then (fun d=>some ((eE [(jT d.R.toNat d.C.toNat d.A d.B).1,(jT d.R.toNat d.C.toNat d.A d.B).2]).map fun t=>(d,t))) else
 if s=tq then (fun d=>jE [(eZ d.R.toNat d.C.toNat d.A d.R.toNat).1,(eZ d.R.toNat d.C.toNat d.A d.R.toNat).2] d) else
 if s=nY then (fun d=>jE (uT d.P.toNat d.T.toNat d.V) d) else
 if s=lU then (fun d=>some ((nc (qF d.P.toNat d.T.toNat d.V)).map fun t=>(d,t))) else
 if s=qh then (fun d=>some ((rZ ⟨d.U,d.N,d.W,d.K⟩).map fun t=>(d,t))) else
 if s=qi then (fun d=>some (py d)) else
 if s=qf then (fun d=>some (oa d)) else
 fun _=>none
noncomputable def qZ (s t:List UInt8):DD→il :=
 if s=ke then (pR t) else
 if s=gM then (mz t) else
 if s=iK then (oy t) else
 if s=iL then (oz t) else
 if s=qg then (jL t fun n d=>iX (ip d.R.toNat d.C.toNat d.A d.B n)) else
 if s=tp then (jL t fun n d=>iX (gX d.P.toNat d.T.toNat d.V n)) else
 if s=nI then (ff t fun xs d=>jU (qX d.P.toNat d.T.toNat d.V xs)) else
 if s=nG then (ff t fun xs d=>jU (lH d.P.toNat d.T.toNat d.V xs)) else
 if s=nH then (ff t fun xs d=>nc (lj ⟨d.U,d.N,d.W,d.K⟩ xs)) else
 if s=lq then (ff t fun xs d=>if jh ⟨d.U,d.N,d.W,d.K⟩ xs then some (Lib.itoa (cP ⟨d.U,d.N,d.W,d.K⟩ xs)) else none) else
 fun _=>none
noncomputable def uQ (ws:List (List UInt8)):DD→il:=match ws with
 | [s]=>oc s
 | [s,t]=>qZ s t
 | [s,t,u]=>if s=jp then jk t u else fun _=>none
 | _=>fun _=>none
noncomputable def iV (l:List UInt8):DD→DD × List UInt8:=gP (uQ (cH 32 l))
theorem GB (s:List UInt8):fz s (oc s):=by
 unfold oc
 by_cases h0:s=ke
 · rw [if_pos h0,h0];exact Ex
 rw [if_neg h0]
 by_cases h1:s=gM
 · rw [if_pos h1,h1];exact zA
 rw [if_neg h1]
 by_cases h2:s=iK
 · rw [if_pos h2,h2];exact Cs
 rw [if_neg h2]
 by_cases h3:s=iL
 · rw [if_pos h3,h3];exact Cv
 rw [if_neg h3]
 by_cases h4:s=tr
 · rw [if_pos h4,h4];exact EC
 rw [if_neg h4]
 by_cases h5:s=tk
 · rw [if_pos h5,h5];exact Ez
 rw [if_neg h5]
 by_cases h6:s=nX
 · rw [if_pos h6,h6];exact zy
 rw [if_neg h6]
 by_cases h7:s=tj
 · rw [if_pos h7,h7];exact Ey
 rw [if_neg h7]
 by_cases h8:s=tq
 · rw [if_pos h8,h8];exact EB
 rw [if_neg h8]
 by_cases h9:s=nY
 · rw [if_pos h9,h9];exact zz
 rw [if_neg h9]
 by_cases h10:s=lU
 · rw [if_pos h10,h10];exact yN
 rw [if_neg h10]
 by_cases h11:s=qh
 · rw [if_pos h11,h11];exact Ct
 rw [if_neg h11]
 by_cases h12:s=qi
 · rw [if_pos h12,h12];exact Cu
 rw [if_neg h12]
 by_cases h13:s=qf
 · rw [if_pos h13,h13];exact Cq
 rw [if_neg h13];refine yO s (fun hm=>?_)
 simp only [List.mem_cons,List.not_mem_nil,or_false] at hm
 rcases hm with h | h | h | h | h | h | h | h | h | h | h | h | h | h
 · exact h0 h
 · exact h1 h
 · exact h2 h
 · exact h3 h
 · exact h4 h
 · exact h5 h
 · exact h6 h
 · exact h7 h
 · exact h8 h
 · exact h9 h
 · exact h10 h
 · exact h11 h
 · exact h12 h
 · exact h13 h
theorem Lq (s:List UInt8) {t:List UInt8} (ht:t.length≤1048576):js s t (qZ s t):=by
 unfold qZ
 by_cases h0:s=ke
 · rw [if_pos h0,h0];exact Jv t ht
 rw [if_neg h0]
 by_cases h1:s=gM
 · rw [if_pos h1,h1];exact DB t ht
 rw [if_neg h1]
 by_cases h2:s=iK
 · rw [if_pos h2,h2];exact Gp t ht
 rw [if_neg h2]
 by_cases h3:s=iL
 · rw [if_pos h3,h3];exact Gs t ht
 rw [if_neg h3]
 by_cases h4:s=qg
 · rw [if_pos h4,h4];exact Gq ht
 rw [if_neg h4]
 by_cases h5:s=tp
 · rw [if_pos h5,h5];exact Jw ht
 rw [if_neg h5]
 by_cases h6:s=nI
 · rw [if_pos h6,h6];exact Jy ht Ic
 rw [if_neg h6]
 by_cases h7:s=nG
 · rw [if_pos h7,h7];exact Ju ht Ia
 rw [if_neg h7]
 by_cases h8:s=nH
 · rw [if_pos h8,h8];exact Jx ht Ib
 rw [if_neg h8]
 by_cases h9:s=lq
 · rw [if_pos h9,h9];exact Gr ht Fg
 rw [if_neg h9];exact Cm s t ⟨h0,h1,h2,h3,h4,h5,h6,h7,h8,h9⟩
theorem GK {ws:List (List UInt8)} (h1:1≤ws.length) (hl:∀ t∈ws,t.length≤1048576):kG ws (uQ ws):=by
 match ws,h1,hl with
 | [s],_,_=>exact GM (GB s)
 | [s,t],_,hl=>exact GN (Lq s (hl t (by simp)))
 | [s,t,u],_,hl =>
   show kG [s,t,u] (if s=jp then jk t u else fun _=>none)
   by_cases h:s=jp
   · rw [if_pos h,h];exact Cx (hl t (by simp)) (hl u (by simp))
   · rw [if_neg h];exact Cy h
 | _ :: _ :: _ :: _ :: r,_,_=>exact EJ (by simp)
def mY (d:DD) (a:il):Prop:=∀ d' t,a=some (some (d',t))→d'.small∧t.length≤2900
theorem mL (d:DD):mY d none:=fun _ _ e=>by cases e
theorem ik {d:DD} {r:Option (List UInt8)} (h:d.ok=true) (hr:∀ t,r=some t→t.length≤2900):mY d (some (r.map fun t=>(d,t))):=fun d' t e=>by
 obtain ⟨e1,e2⟩:=A5 e;subst e1;exact ⟨kt h,hr _ e2⟩
theorem uI {xs:List Int} {t:List UInt8} (h:eE [xs]=some t):t.length≤1412:=by
 unfold eE at h
 split at h
 · rename_i ha
   injection h with h
   subst h;have hv:bD xs=true:=by simpa using ha
   have h1:=fp hv;have h2:=sx hv;have:(bt [xs]).length=(aJ xs).length:=by simp [bt,Lib.join_one]
   omega
 · cases h
theorem Ch {xs ys:List Int} {t:List UInt8} (h:eE [xs,ys]=some t):t.length≤2826:=by
 unfold eE at h
 split at h
 · rename_i ha
   injection h with h
   subst h;exact Bm (List.all_eq_true.1 ha)
 · cases h
theorem qA {r:Option (List Int)} {t:List UInt8} (h:jU r=some t):t.length≤2900:=by
 unfold jU at h
 split at h
 · cases h
 · have:=uI h;omega
theorem vw {r:Option (List Int × List Int)} {t:List UInt8} (h:iX r=some t):t.length≤2900:=by
 unfold iX at h
 split at h
 · cases h
 · have:=Ch h;omega
theorem xX {l:List Int} {n:Int} {t:List UInt8} (n0:-9223372036854775808≤n) (n1:n≤9223372036854775807) (h:qK true l n=some t):t.length≤2900:=by
 unfold qK at h
 split at h
 · rename_i hv
   injection h with h
   subst h;have h1:=fp (xs:=l) (by simpa using hv)
   have h2:=sx (xs:=l) (by simpa using hv)
   have h3:=iF n0 n1;simp only [List.length_append,List.length_cons,List.length_nil];omega
 · cases h
theorem GX {d:DD} (hd:d.ok=true) {t:List UInt8} (h:gm d.R d.C d.A d.B=some t):t.length≤2900:=by
 unfold gm at h
 split at h
 · rename_i hg
   injection h with h
   subst h;have hv:=DM hg;have v1:=fp (hv [d.R,d.C] (by simp))
   have v2:=fp (hv d.A (by simp))
   have v3:=fp (hv d.B (by simp))
   obtain ⟨a,b,-⟩:=DD.ok_len hd;rw [qP];simp only [List.length_cons,List.length_nil] at v1;omega
 · cases h
theorem Dz {d:DD} {t:List UInt8} (h:fd d.P d.T d.V=some t):t.length≤2900:=by
 unfold fd at h
 split at h
 · rename_i hg
   injection h with h
   subst h;have:=Bm (yF hg);simp only [List.length_cons,List.length_nil] at this;omega
 · cases h
theorem EQ {d:DD} (hd:d.ok=true) {t:List UInt8} (h:fE d.U d.N d.W d.K=some t):t.length≤2900:=by
 unfold fE at h
 split at h
 · rename_i hg
   injection h with h
   subst h;have hv:=Ac hg;have v1:=fp (hv [d.U,d.N] (by simp))
   have v2:=fp (hv d.W (by simp))
   have v3:=fp (hv d.K (by simp))
   obtain ⟨-,-,-,a,b,-⟩:=DD.ok_len hd;rw [qP];simp only [List.length_cons,List.length_nil] at v1;omega
 · cases h
theorem px {d:DD} (h:d.ok=true) (xs:List Int):mY d (jE xs d):=ik h fun t e=>by have:=uI e;omega
theorem Gl {d:DD} (h:d.ok=true):(zr d).small:=by
 obtain ⟨a,b,v,l,k,f⟩:=kt h;obtain ⟨R,C,e1,e2,r1,r6,c1,c6,-⟩:=eH (DD.ok_parts h).1;have hRC:C * R≤6 * 6:=Nat.mul_le_mul c6 r6;refine ⟨?_,?_,v,l,k,f⟩
 · show (aG _ _ _ _).length≤_;rw [Ap,e1,e2,Int.toNat_natCast,Int.toNat_natCast];omega
 · show (aG _ _ _ _).length≤_;rw [Ap,e1,e2,Int.toNat_natCast,Int.toNat_natCast];omega
theorem Gi {d d':DD} {t:List UInt8} (h:d.ok=true) (e:py d=some (d',t)):d'.small∧t.length≤2900:=by
 obtain ⟨a,b,v,l,k,f⟩:=kt h;unfold py at e
 split at e
 · rename_i hv
   injection e with e;injection e with e1 e2
   subst e1 e2;have hc:=(em hv);have u8:=hc.u8;have r8:=hc.r8;have hl:=hc.clen;refine ⟨⟨a,b,v,l,?_,f⟩,by show 2≤_;decide⟩
   show (fk (fM ⟨d.U,d.N,d.W,d.K⟩) ⟨d.U,d.N,d.W,d.K⟩).costs.length≤_
   have u1:=hc.u1;have r1:=hc.r1;have hm:=Int.mul_le_mul u8 r8 (by omega) (by omega)
   omega
 · cases e
theorem Cp {d d':DD} {t:List UInt8} (h:d.ok=true) (e:oa d=some (d',t)):d'.small∧t.length≤2900:=by
 obtain ⟨a,b,v,l,k,f⟩:=kt h;unfold oa at e
 cases hr:je d.F with
 | none=>rw [hr] at e;cases e
 | some fs =>
   rw [hr] at e;injection e with e;injection e with e1 e2
   subst e1 e2;refine ⟨⟨a,b,v,l,k,?_⟩,by show 2≤_;decide⟩
   unfold je at hr
   split at hr
   · injection hr with hr
     subst hr
     show (iH iU d.F).length≤_
     simp only [iH,List.length_map];exact f
   · cases hr
theorem Gh {d:DD} (h:d.ok=true) (s:List UInt8):mY d (oc s d):=by
 unfold oc
 by_cases h0:s=ke
 · rw [if_pos h0]
   exact ik h fun t e=>GX h e
 rw [if_neg h0]
 by_cases h1:s=gM
 · rw [if_pos h1]
   exact ik h fun t e=>Dz e
 rw [if_neg h1]
 by_cases h2:s=iK
 · rw [if_pos h2]
   exact ik h fun t e=>EQ h e
 rw [if_neg h2]
 by_cases h3:s=iL
 · rw [if_pos h3]
   intro d' t e;injection e with e;injection e with e;injection e with e1 e2
   subst e1 e2;have:=vr d.F;have:=(DD.ok_len h).2.2.2.2.2.2;exact ⟨kt h,by omega⟩
 rw [if_neg h3]
 by_cases h4:s=tr
 · rw [if_pos h4]
   intro d' t e;injection e with e;injection e with e;injection e with e1 e2
   subst e1 e2;exact ⟨Gl h,by show 2≤_;decide⟩
 rw [if_neg h4]
 by_cases h5:s=tk
 · rw [if_pos h5]
   exact px h _
 rw [if_neg h5]
 by_cases h6:s=nX
 · rw [if_pos h6]
   exact px h _
 rw [if_neg h6]
 by_cases h7:s=tj
 · rw [if_pos h7]
   exact ik h fun t e=>by have:=Ch e;omega
 rw [if_neg h7]
 by_cases h8:s=tq
 · rw [if_pos h8]
   exact px h _
 rw [if_neg h8]
 by_cases h9:s=nY
 · rw [if_pos h9]
   exact px h _
 rw [if_neg h9]
 by_cases h10:s=lU
 · rw [if_pos h10]
   refine ik h fun t e=>?_
   obtain ⟨P,T,e1,e2,p1,p6,t1,t8,lV,hb⟩:=db (DD.ok_parts h).2.1;unfold nc at e
   split at e
   · cases e
   · rename_i l n hr
     have hT:d.T.toNat≤8:=by rw [e2,Int.toNat_natCast];exact t8
     obtain ⟨_,n0,n1⟩:=A7 hb hT hr;exact xX n0 n1 e
 rw [if_neg h10]
 by_cases h11:s=qh
 · rw [if_pos h11]
   refine ik h fun t e=>?_
   unfold rZ at e
   split at e
   · have:=uI e;omega
   · cases e
 rw [if_neg h11]
 by_cases h12:s=qi
 · rw [if_pos h12]
   intro d' t e;injection e with e
   exact Gi h e
 rw [if_neg h12]
 by_cases h13:s=qf
 · rw [if_pos h13]
   intro d' t e;injection e with e
   exact Cp h e
 rw [if_neg h13];exact mL d
theorem Cd {d:DD} (h:d.ok=true) (t:List UInt8) {f:Int→DD→Option (List UInt8)} (hf:∀ n s,f n d=some s→s.length≤2900):mY d (jL t f d):=by
 unfold jL
 cases eF t with
 | none=>exact fun d' s e=>by injection e with e;cases e
 | some n=>exact ik h (hf n)
theorem pw {d:DD} (h:d.ok=true) (t:List UInt8) {f:List Int→DD→Option (List UInt8)} (hf:∀ xs s,xs.length≤64→f xs d=some s→s.length≤2900):mY d (ff t f d):=by
 unfold ff
 cases hn:dD t with
 | none=>exact fun d' s e=>by injection e with e;cases e
 | some xs=>exact ik h fun s e=>hf xs s (ky hn) e
theorem Jh {d:DD} (h:d.ok=true) (s t:List UInt8) (hl:t.length≤1048576):mY d (qZ s t d):=by
 obtain ⟨a,b,v,l,k,f⟩:=kt h;unfold qZ
 by_cases h0:s=ke
 · rw [if_pos h0]
   intro d' s e;have hlen:=BG (V:=cZ) (l:=t);unfold pR uu at e
   split at e
   · injection e with e;injection e with e;injection e with e1 e2
     subst e1 e2;exact ⟨⟨by show (iS cZ t).2.2.1.length≤_;omega,by show (iS cZ t).2.2.2.1.length≤_;omega,v,l,k,f⟩,by show 2≤_;decide⟩
   · injection e with e;cases e
 rw [if_neg h0]
 by_cases h1:s=gM
 · rw [if_pos h1]
   intro d' s e;have hlen:=Ky (V:=bM) (l:=t);unfold mz qx at e
   split at e
   · injection e with e;injection e with e;injection e with e1 e2
     subst e1 e2;exact ⟨⟨a,b,by show (pL bM t).2.2.1.length≤_;omega,l,k,f⟩,by show 2≤_;decide⟩
   · injection e with e;cases e
 rw [if_neg h1]
 by_cases h2:s=iK
 · rw [if_pos h2]
   intro d' s e;have hlen:=BG (V:=iN) (l:=t);unfold oy rH at e
   split at e
   · injection e with e;injection e with e;injection e with e1 e2
     subst e1 e2;exact ⟨⟨a,b,v,by show (iS iN t).2.2.1.length≤_;omega,by show (iS iN t).2.2.2.1.length≤_;omega,f⟩,by show 2≤_;decide⟩
   · injection e with e;cases e
 rw [if_neg h2]
 by_cases h3:s=iL
 · rw [if_pos h3]
   intro d' s e;unfold oz at e
   split at e
   · injection e with e;cases e
   · rename_i ns hns
     injection e with e;injection e with e;injection e with e1 e2
     subst e1 e2;have:=(rQ hns).1;exact ⟨⟨a,b,v,l,k,by show ns.length≤_;omega⟩,by show 2≤_;decide⟩
 rw [if_neg h3]
 by_cases h4:s=qg
 · rw [if_pos h4]
   exact Cd h t fun n s e=>vw e
 rw [if_neg h4]
 by_cases h5:s=tp
 · rw [if_pos h5]
   exact Cd h t fun n s e=>vw e
 rw [if_neg h5]
 by_cases h6:s=nI
 · rw [if_pos h6]
   exact pw h t fun xs s _ e=>qA e
 rw [if_neg h6]
 by_cases h7:s=nG
 · rw [if_pos h7]
   exact pw h t fun xs s _ e=>qA e
 rw [if_neg h7]
 by_cases h8:s=nH
 · rw [if_pos h8]
   refine pw h t fun xs s hx e=>?_
   unfold nc at e
   split at e
   · cases e
   · rename_i l n hr
     obtain ⟨_,n0,n1⟩:=BR hr hx;exact xX n0 n1 e
 rw [if_neg h8]
 by_cases h9:s=lq
 · rw [if_pos h9]
   refine pw h t fun xs s hx e=>?_
   split at e
   · injection e with e
     subst e;have hb:=uH (em (DD.ok_parts h).2.2.1) xs;have:=iF (n:=cP ⟨d.U,d.N,d.W,d.K⟩ xs) (by omega) (by omega)
     omega
   · cases e
 rw [if_neg h9];exact mL d
theorem vZ {d:DD} (h:d.ok=true) {ws:List (List UInt8)} (hl:∀ t∈ws,t.length≤1048576):mY d (uQ ws d):=by
 match ws,hl with
 | [],_=>exact mL d
 | [s],_=>exact Gh h s
 | [s,t],hl=>exact Jh h s t (hl t (by simp))
 | [s,t,u],_ =>
   show mY d ((if s=jp then jk t u else fun _=>none) d)
   split
   · unfold jk
     split
     · exact fun d' s e=>by injection e with e;cases e
     · split
       · exact fun d' s e=>by injection e with e;cases e
       · exact ik h fun s e=>qA e
   · exact mL d
 | _ :: _ :: _ :: _ :: r,_=>exact mL d
theorem qy {l:List UInt8} (hl:l.length≤1048576):Gz (l,iV l) :=
 Hw hl (GK (Ad 32 l) fun t ht=>Nat.le_trans (ji ht) hl) fun d d' t h e=>by
  obtain ⟨h1,h2⟩:=vZ h (fun t ht=>Nat.le_trans (ji ht) hl) d' t e
  exact ⟨h1,by omega⟩
theorem Kb {l:List UInt8} (hl:l.length≤1048576) {d:DD} (h:d.ok=true):(iV l d).1.ok=true∧(iV l d).2.length≤2900:=by
 refine ⟨zY h,?_⟩
 unfold iV gP
 split
 · show 4≤_;decide
 · show 2≤_;decide
 · rename_i d' t e
   split
   · exact (vZ h (fun t ht=>Nat.le_trans (ji ht) hl) d' t e).2
   · show 2≤_;decide
theorem wP {b c:UInt8} {xs:List (List UInt8)} (hc:b≠c) (h:∀ x∈xs,b∉x):b∉Lib.join xs [c]:=fun hm=>by
 rcases J5 _ hm with h1 | ⟨x,hx,hb⟩
 · exact hc h1
 · exact h x hx hb
theorem sp (xs:List Int):(10:UInt8)∉aJ xs:=by
 unfold aJ
 split
 · decide
 · exact wP (by decide) fun x hx=>by obtain ⟨n,_,rfl⟩:=List.mem_map.1 hx;exact ku n
theorem nt (xss:List (List Int)):(10:UInt8)∉bt xss :=
 wP (by decide) fun x hx=>by obtain ⟨l,_,rfl⟩:=List.mem_map.1 hx;exact sp l
theorem vv (xs:List Nat):(10:UInt8)∉bJ xs:=by
 unfold bJ
 split
 · decide
 · refine wP (by decide) fun x hx=>?_
   obtain ⟨n,_,rfl⟩:=List.mem_map.1 hx;intro h;have:=AB h
   revert this;decide
def gN (l:List UInt8):Prop:=l.length≤1800∧(10:UInt8)∉l
theorem pg {x y:List UInt8} (hx:x.length≤10) (hx2:(10:UInt8)∉x) (hy:y.length≤1790) (hy2:(10:UInt8)∉y):gN (x ++ y) :=
 ⟨by rw [List.length_append];omega,by simp only [List.mem_append,not_or];exact ⟨hx2,hy2⟩⟩
theorem IC {p q:Int} {x:List Int} (hp:-1000000000000000≤p∧p≤1000000000000000) (hq:-1000000000000000≤q∧q≤1000000000000000) (hx:bD x=true) (hl:x.length≤16):(bt [[p,q],x]).length≤800:=by
 have h1:bD [p,q]=true:=by simp only [bD,gv,List.all_cons,List.all_nil,Bool.and_true,Bool.and_eq_true];exact ⟨⟨cx.2 hp,cx.2 hq⟩,rfl⟩
 have:=fp h1;have:=fp hx;rw [FB];simp at *
 omega
theorem IE {p q:Int} {x y:List Int} (hp:-1000000000000000≤p∧p≤1000000000000000) (hq:-1000000000000000≤q∧q≤1000000000000000) (hx:bD x=true) (hl:x.length≤16) (hy:bD y=true) (hl2:y.length≤16):(bt [[p,q],x,y]).length≤1200:=by
 have h1:bD [p,q]=true:=by simp only [bD,gv,List.all_cons,List.all_nil,Bool.and_true,Bool.and_eq_true];exact ⟨⟨cx.2 hp,cx.2 hq⟩,rfl⟩
 have:=fp h1;have:=fp hx;have:=fp hy;rw [qP];simp at *
 omega
theorem DP (k:Nat):∀ (xs:List (List UInt8)),(∀ x∈xs,x.length≤k)→(Lib.join xs [44]).length≤(k+1) * xs.length
 | [],_=>by simp [Lib.join_nil]
 | [x],h=>by have:=h x (by simp);rw [Lib.join_cons];simp [Lib.joinTail];omega
 | x :: y :: r,h=>by
   have h1:=h x (by simp)
   have h2:=DP k (y :: r) (fun z hz=>h z (by simp [hz]))
   have e:Lib.join (x :: y :: r) [44]=x ++ 44 :: Lib.join (y :: r) [44]:=by rw [Lib.join_cons,Lib.join_cons];simp [Lib.joinTail]
   rw [e];simp only [List.length_append,List.length_cons] at h2 ⊢;rw [Nat.mul_add (k+1) (r.length+1) 1];omega
theorem Kk (xs:List Nat):(bJ xs).length≤9 * xs.length+4:=by
 unfold bJ
 split
 · simp [sM]
 · have:=DP 8 (xs.map eR) (fun x hx=>by obtain ⟨n,_,rfl⟩:=List.mem_map.1 hx;rw [lJ];omega)
   rw [List.length_map] at this;omega
def jr (t:List UInt8):Prop:=(10:UInt8)∉t∧nh t=false
theorem ng (x:List Int) (r:List (List Int)):jr (bt (x :: r)):=⟨nt _,FC x r⟩
theorem E8 (xs:List Nat):jr (bJ xs):=⟨vv xs,Fr xs⟩
theorem GZ (n:Int):jr (Lib.itoa n):=⟨ku n,Hd n⟩
theorem lI:jr lr:=⟨by decide,by decide⟩
def mZ (a:il):Prop:=∀ d' t,a=some (some (d',t))→jr t
theorem qd:mZ none:=fun _ _ e=>by cases e
theorem zq:mZ (some none):=fun _ _ e=>by cases e
theorem ir {d:DD} {r:Option (List UInt8)} (hr:∀ t,r=some t→jr t):mZ (some (r.map fun t=>(d,t))):=fun d' t e=>by
 obtain ⟨e1,e2⟩:=A5 e;exact hr _ e2
theorem mK {xs:List Int} {r:List (List Int)} {t:List UInt8} (h:eE (xs :: r)=some t):jr t:=by
 unfold eE at h
 split at h
 · injection h with h
   subst h;exact ng _ _
 · cases h
theorem xh {r:Option (List Int)} {t:List UInt8} (h:jU r=some t):jr t:=by
 unfold jU at h
 split at h
 · cases h
 · exact mK h
theorem El {r:Option (List Int × List Int)} {t:List UInt8} (h:iX r=some t):jr t:=by
 unfold iX at h
 split at h
 · cases h
 · exact mK h
theorem NJ {b:Bool} {l:List Int} {n:Int} {t:List UInt8} (h:qK b l n=some t):jr t:=by
 unfold qK at h
 split at h
 · injection h with h
   subst h;refine ⟨?_,?_⟩
   · simp only [List.mem_append,not_or]
     exact ⟨⟨sp _,by decide⟩,ku _⟩
   · rw [List.append_assoc];exact yz _ _
 · cases h
theorem Ek {r:Option (List Int × Int)} {t:List UInt8} (h:nc r=some t):jr t:=by
 unfold nc at h
 split at h
 · cases h
 · exact NJ h
theorem Lk (s:List UInt8) (d:DD):mZ (oc s d):=by
 unfold oc
 by_cases h0:s=ke
 · rw [if_pos h0]
   refine ir fun t e=>?_
   unfold gm at e
   split at e
   · injection e with e;subst e;exact ng _ _
   · cases e
 rw [if_neg h0]
 by_cases h1:s=gM
 · rw [if_pos h1]
   refine ir fun t e=>?_
   unfold fd at e
   split at e
   · injection e with e;subst e;exact ng _ _
   · cases e
 rw [if_neg h1]
 by_cases h2:s=iK
 · rw [if_pos h2]
   refine ir fun t e=>?_
   unfold fE at e
   split at e
   · injection e with e;subst e;exact ng _ _
   · cases e
 rw [if_neg h2]
 by_cases h3:s=iL
 · rw [if_pos h3]
   intro d' t e;injection e with e;injection e with e;injection e with e1 e2
   subst e1 e2;exact E8 _
 rw [if_neg h3]
 by_cases h4:s=tr
 · rw [if_pos h4]
   intro d' t e;injection e with e;injection e with e;injection e with e1 e2
   subst e1 e2;exact lI
 rw [if_neg h4]
 by_cases h5:s=tk
 · rw [if_pos h5];exact ir fun t e=>mK e
 rw [if_neg h5]
 by_cases h6:s=nX
 · rw [if_pos h6];exact ir fun t e=>mK e
 rw [if_neg h6]
 by_cases h7:s=tj
 · rw [if_pos h7];exact ir fun t e=>mK e
 rw [if_neg h7]
 by_cases h8:s=tq
 · rw [if_pos h8];exact ir fun t e=>mK e
 rw [if_neg h8]
 by_cases h9:s=nY
 · rw [if_pos h9];exact ir fun t e=>mK e
 rw [if_neg h9]
 by_cases h10:s=lU
 · rw [if_pos h10];exact ir fun t e=>Ek e
 rw [if_neg h10]
 by_cases h11:s=qh
 · rw [if_pos h11]
   refine ir fun t e=>?_
   unfold rZ at e
   split at e
   · exact mK e
   · cases e
 rw [if_neg h11]
 by_cases h12:s=qi
 · rw [if_pos h12]
   intro d' t e;injection e with e
   unfold py at e
   split at e
   · injection e with e;injection e with e1 e2
     subst e1 e2;exact lI
   · cases e
 rw [if_neg h12]
 by_cases h13:s=qf
 · rw [if_pos h13]
   intro d' t e;injection e with e
   unfold oa at e
   cases hr:je d.F with
   | none=>rw [hr] at e;cases e
   | some fs =>
     rw [hr] at e;injection e with e;injection e with e1 e2
     subst e1 e2;exact lI
 rw [if_neg h13];exact qd
theorem yD {d:DD} (t:List UInt8) {f:Int→DD→Option (List UInt8)} (hf:∀ n s,f n d=some s→jr s):mZ (jL t f d):=by
 unfold jL
 cases eF t with
 | none=>exact zq
 | some n=>exact ir (hf n)
theorem nE {d:DD} (t:List UInt8) {f:List Int→DD→Option (List UInt8)} (hf:∀ xs s,f xs d=some s→jr s):mZ (ff t f d):=by
 unfold ff
 cases hn:dD t with
 | none=>exact zq
 | some xs=>exact ir fun s e=>hf xs s e
theorem M6 (s t:List UInt8) (d:DD):mZ (qZ s t d):=by
 unfold qZ
 by_cases h0:s=ke
 · rw [if_pos h0]
   intro d' s e;unfold pR uu at e
   split at e
   · injection e with e;injection e with e;injection e with e1 e2
     subst e1 e2;exact lI
   · injection e with e;cases e
 rw [if_neg h0]
 by_cases h1:s=gM
 · rw [if_pos h1]
   intro d' s e;unfold mz qx at e
   split at e
   · injection e with e;injection e with e;injection e with e1 e2
     subst e1 e2;exact lI
   · injection e with e;cases e
 rw [if_neg h1]
 by_cases h2:s=iK
 · rw [if_pos h2]
   intro d' s e;unfold oy rH at e
   split at e
   · injection e with e;injection e with e;injection e with e1 e2
     subst e1 e2;exact lI
   · injection e with e;cases e
 rw [if_neg h2]
 by_cases h3:s=iL
 · rw [if_pos h3]
   intro d' s e;unfold oz at e
   split at e
   · injection e with e;cases e
   · injection e with e;injection e with e;injection e with e1 e2
     subst e1 e2;exact lI
 rw [if_neg h3]
 by_cases h4:s=qg
 · rw [if_pos h4];exact yD t fun n s e=>El e
 rw [if_neg h4]
 by_cases h5:s=tp
 · rw [if_pos h5];exact yD t fun n s e=>El e
 rw [if_neg h5]
 by_cases h6:s=nI
 · rw [if_pos h6];exact nE t fun xs s e=>xh e
 rw [if_neg h6]
 by_cases h7:s=nG
 · rw [if_pos h7];exact nE t fun xs s e=>xh e
 rw [if_neg h7]
 by_cases h8:s=nH
 · rw [if_pos h8];exact nE t fun xs s e=>Ek e
 rw [if_neg h8]
 by_cases h9:s=lq
 · rw [if_pos h9]
   refine nE t fun xs s e=>?_
   split at e
   · injection e with e
     subst e;exact GZ _
   · cases e
 rw [if_neg h9];exact qd
theorem Ll (ws:List (List UInt8)) (d:DD):mZ (uQ ws d):=by
 match ws with
 | []=>exact qd
 | [s]=>exact Lk s d
 | [s,t]=>exact M6 s t d
 | [s,t,u] =>
   show mZ ((if s=jp then jk t u else fun _=>none) d)
   split
   · unfold jk
     split
     · exact zq
     · split
       · exact zq
       · exact ir fun s e=>xh e
   · exact qd
 | _ :: _ :: _ :: _ :: r=>exact qd
theorem Hx (l:List UInt8) (d:DD):(10:UInt8)∉(iV l d).2:=by
 unfold iV gP
 split
 · exact (by decide:(10:UInt8)∉zu)
 · exact (by decide:(10:UInt8)∉xU)
 · rename_i d' t e
   split
   · exact (Ll _ d d' t e).1
   · exact (by decide:(10:UInt8)∉xU)
end Go.Proofs.YtbknhgapjjaelaaGreatDoor
