/-
  Part 17 of what the proof stands on: lemmas and contracts, each with its conditions ahead of the colon.
-/
import Derived.Test.YtbknhgapjjaelaaGreatDoorShelf
import Derived.Laws.CopyOwn
import Derived.Deep.RegionLaw
import Derived.Deep.LoopGhost
import Derived.Test.YtbknhgapjjaelaaGreatDoorPk01
import Derived.Test.YtbknhgapjjaelaaGreatDoorPk07
import Derived.Test.YtbknhgapjjaelaaGreatDoorPk12
import Derived.Test.YtbknhgapjjaelaaGreatDoorPk14
import Derived.Test.YtbknhgapjjaelaaGreatDoorPk15
import Derived.Test.YtbknhgapjjaelaaGreatDoorPk16
set_option maxRecDepth 100000
set_option maxHeartbeats 16000000
namespace Go.Proofs.YtbknhgapjjaelaaGreatDoor
set_option linter.unusedVariables false
set_option linter.unusedSimpArgs false
open Go.RowKit
theorem vD (x:Int) (n k m:Nat) (h:k+m≤n):splice (ae (List.replicate k x ++ List.replicate (n - k) 0)) k (ae (List.replicate m x))=ae (List.replicate (k+m) x ++ List.replicate (n - (k+m)) 0):=by
 unfold splice;simp only [ae,List.map_append,List.map_replicate,List.length_replicate];rw [List.take_append_of_le_length (by simp),List.take_of_length_le (by simp),List.drop_append,List.drop_of_length_le (by simp)]
 simp only [List.length_replicate,List.nil_append,List.drop_replicate,← List.append_assoc,List.replicate_append_replicate]
 congr 2
 omega
theorem Kn (x:Int) (k m j:Nat) (hj:j<k):(ae (List.replicate k x ++ List.replicate m 0))[j]? = some (.int .i64 x):=by
 simp [ae,List.getElem?_append_left,hj]
theorem Lo {w:World} {b o m:Nat} {x:Int} (hc:∀ j,j<m→w.cell? ⟨b,o+j,none⟩=some (.int .i64 x)):∀ j v,(ae (List.replicate m x))[j]? = some v→w.cell? ((⟨b,o,none⟩:Addr).add j)=some v:=by
 intro j v hj;have hlt:j<m:=by have:=(List.getElem?_eq_some_iff.1 hj).1;simpa using this
 have ea:(⟨b,o,none⟩:Addr).add j=⟨b,o+j,none⟩:=by unfold Addr.add;split <;> simp_all
 rw [ea,hc j hlt,← hj];simp [ae,hlt]
theorem CO {w:World} {b o m g k:Nat} {x:Int} (hc:∀ j,j<m→w.cell? ⟨b,o+j,none⟩=some (.int .i64 x)):0<(ae (List.replicate m x)).length→(some ⟨g,k,none⟩:Option Addr)=some ⟨g,k,none⟩∧∃ ad,(some ⟨b,o,none⟩:Option Addr)=some ad∧∀ j v,(ae (List.replicate m x))[j]? = some v→w.cell? (ad.add j)=some v :=
 fun _=>⟨rfl,_,rfl,Lo hc⟩
theorem Dh (m:Nat) (x:Int):∀ v∈ae (List.replicate m x),v.oneCell'=true:=by
 intro v hv;obtain ⟨y,_,rfl⟩:=List.mem_map.1 hv
 rfl
theorem dm (n:Nat) (hn:n≤1048576) (w:World):Calls Tryz.prog 114 #[.int .u64 1,.int .u64 n] w fun e w'=>e=.returned (.tuple #[.int .u64 0,.int .u64 n])∧w=w':=by
 refine (Tryz.bits_Mul 1 n (by omega) (by omega) w).mono ?_
 rintro e w' ⟨h1,h2⟩;rw [h1,h2];refine ⟨?_,rfl⟩
 have e1:1 * n / 18446744073709551616=0:=by omega
 have e2:1 * n % 18446744073709551616=n:=by omega
 rw [e1,e2]
 rfl
theorem DH (w:World) (b:Nat) (x:Int) (n:Nat) (h:w.cell? ⟨b,0,none⟩=some (.int .i64 x)) (hb:b<w.heap.size) (h1:1≤n) (hn:n≤1048576) :
 Calls Tryz.prog 220 #[.slice (some ⟨b,0,none⟩) 1 1,.int .i64 n] w fun e w'=>e=.returned (.slice (some ⟨w.heap.size,0,none⟩) n n)∧Blk w' w.heap.size (ae (List.replicate n x)) 2∧Below w.heap.size w w':=by
 have LM:=Na (dm n hn)
 go_enter Tryz.func220,Tryz.ntmps220;go_wp2_with fail;refine (LM.out _).mono ?_;rintro e w1 ⟨rfl,rfl⟩;clear LM
 go_wp2_with (at_make;refine gU _ rfl _ _ 24 rfl 2 (.int .i64 0) 8 Tryz.underlying24 aU rfl _ _ n rfl rfl (by omega) (by unfold maxLen;omega) ?_)
 intro w1 hb1 hw1 hs1;have hc1:=(hw1.cell (p:=⟨b,0,none⟩) hb).trans h;have hb1':Blk w1 w.heap.size (ae (List.replicate 0 x ++ List.replicate (n - 0) 0)) 2:=by simpa [fV] using hb1
 clear h hb1;have HP:Hid (∀ j,j<1→w1.cell? ⟨b,0+j,none⟩=some (.int .i64 x)):=(fun j hj=>by
  have:j=0:=by omega
  subst this;exact hc1)
 have HM:Hid ((ae (List.replicate 1 x)).length=Nat.min 1 n):=by
  show _=_
  rw [ints_length,List.length_replicate];exact (Nat.min_eq_left h1).symm
 have HF:Hid (0+(ae (List.replicate 1 x)).length≤(ae (List.replicate 0 x ++ List.replicate (n - 0) 0)).length):=by
  show _≤_
  simp only [ints_length,List.length_append,List.length_replicate];omega
 have HO:=Na (Dh 1 x)
 go_wp2_with (refine wpList_copy_splice (o:=⟨some 33,_,_,_,_,_⟩) rfl (.tmp 31) (.tmp 32) 24 24 rfl 2 Tryz.underlying24 (by kernel_rfl) (some ⟨w.heap.size,0,none⟩) (some ⟨b,0,none⟩) n n 1 1 rfl rfl w.heap.size 0 _ 2 hb1' (ae (List.replicate 1 x)) HM.out (CO HP.out) HF.out HO.out w.heap.size w hw1 (Nat.le_refl _) ?_)
 intro w2 hg2 hb2;have hB2:Blk w2 w.heap.size (ae (List.replicate 1 x ++ List.replicate (n - 1) 0)) 2:=by
  have h2:=hg2.out;have e:=vD x n 0 1 (by omega)
  have e0:List.replicate 0 x ++ List.replicate (n - 0) (0:Int)=List.replicate n 0:=by simp
  have e1:List.replicate 1 x=[x]:=rfl;rw [e0,e1,Nat.zero_add] at e;rw [e] at h2;exact h2
 clear hg2 hb1' hc1 hw1;go_wp2_with fail
 go_loopw [8] (fun kv wr=>∃ k:Nat,1≤k∧k≤n∧kv=.int .i64 k∧Blk wr w.heap.size (ae (List.replicate k x ++ List.replicate (n - k) 0)) 2∧Below w.heap.size w wr) (fun kv _=>n - (intOf kv).toNat)
 case atStart=>exact ⟨1,Nat.le_refl _,h1,rfl,hB2,hb2⟩
 case round =>
  clear hB2 hb2;obtain ⟨k,hk1,hk,rfl,hB,hw⟩:=hrel
  by_cases hlt:k<n
  · obtain ⟨m,hm⟩:∃ m,m=Nat.min k (n - k):=⟨_,rfl⟩
    have hm1:1≤m:=by rw [hm];simp only [Nat.min_def];split <;> omega
    have hm2:k+m≤n:=by rw [hm];simp only [Nat.min_def];split <;> omega
    have hmk:m≤k:=by rw [hm];exact Nat.min_le_left _ _
    have Hm:Hid (m=Nat.min k (n - k)):=hm;have HS:=Na (vD x n k m hm2);have hdrew:=au hw;have hnk:¬ n=k:=by omega
    have k0:(0:Int)≤(k:Int):=Int.natCast_nonneg _;have k2:(k:Int)≤(n:Int):=by omega
    clear hm;have hwp:IntKind.i64.wrap ((k:Int)+(m:Int))=(k:Int)+(m:Int):=IntWalk.i64_in _ (by omega)
    have HP:Hid (∀ j,j<m→wr.drew.cell? ⟨w.heap.size,0+j,none⟩=some (.int .i64 x)):=(fun j hj=>by
     rw [Nat.zero_add,show wr.drew.cell? ⟨w.heap.size,j,none⟩=_ from Blk.cell (w:=wr.drew) hB j];exact Kn x k _ j (by omega))
    have HM:Hid ((ae (List.replicate m x)).length=Nat.min k (n - k)):=by
     show _=_
     rw [ints_length,List.length_replicate];exact Hm.out
    have HF:Hid (k+(ae (List.replicate m x)).length≤(ae (List.replicate k x ++ List.replicate (n - k) 0)).length):=by
     show _≤_
     simp only [ints_length,List.length_append,List.length_replicate];omega
    have HO:=Na (Dh m x);have hB1:Hid (Blk wr.drew w.heap.size (ae (List.replicate k x ++ List.replicate (n - k) 0)) 2):=hB;go_wp2_with fail
    go_region_law (refine step_copy_splice (by rfl) (.tmp 41) (.tmp 44) 24 24 (by rfl) 2 Tryz.underlying24 (by kernel_rfl) (some ⟨w.heap.size,k,none⟩) (some ⟨w.heap.size,0,none⟩) (n - k) (n - k) k n (by simp [Act.eval,Act.put]) (by simp [Act.eval,Act.put]) w.heap.size k _ 2 hB1.out (ae (List.replicate m x)) HM.out (CO HP.out) HF.out HO.out w.heap.size w hdrew (Nat.le_refl _) ?_;intro w4 hg4 hb4)
    all_goals
     have hB4:Blk w4 w.heap.size (ae (List.replicate (k+m) x ++ List.replicate (n - (k+m)) 0)) 2:=by
      have h2:=hg4.out;rw [HS.out] at h2;exact h2
     have hl:Hid ((ae (List.replicate m x)).length=m):=by show _=_;simp
     clear hB hw hdrew hg4
     try simp only [hwp]
     go_simp
     go_wp2_with fail;go_roundw
     case rel=>exact ⟨k+m,by omega,hm2,by go_num,hB4,hb4⟩
     case measure=>simp [intOf];omega
  · have:k=n:=by omega
    subst this;have hB2:Blk wr w.heap.size (ae (List.replicate k x)) 2:=by simpa using hB
    clear hB;go_wp2_with fail;go_ret;exact ⟨rfl,hB2,hw⟩
theorem Ay (w:World) (n:Nat) (h1:1≤n) (hn:n≤1048576) :
 Calls Tryz.prog 174 #[.int .i64 n] w fun e w'=>e=.returned (.slice (some ⟨w.heap.size+1,0,none⟩) n n)∧Blk w' (w.heap.size+1) (ae (List.replicate n (-1))) 2∧Below w.heap.size w w':=by
 have LR:=Na (DH (w.alloc (.cells #[.int .i64 (-1)] 2)) w.heap.size (-1) n ((Blk.new w [.int .i64 (-1)] 2).cell 0) (by simp) h1 hn)
 go_enter Tryz.func174,Tryz.ntmps174;go_wp2_with fail;refine LR.out.mono ?_;rintro e w1 ⟨rfl,hb,hw⟩;rw [World.size_alloc] at hb hw;have hB:=(ah w (.cells #[.int .i64 (-1)] 2)).trans (hw.mono (Nat.le_succ _));clear hw;go_wp2_with fail;go_ret;exact ⟨by simp,hb,hB⟩
theorem Fl (w:World) (vB oB P T j gO cO:Nat) (aV:Option Addr) (cV:Nat) (xV:List Int) (ow:List Int) (kV:Blk w vB [.int .i64 P,.int .i64 T,.slice aV xV.length cV] 28) (kO:Blk w oB [.slice (some ⟨gO,0,none⟩) ow.length cO] 24) (hV:Rd w w.heap.size aV (ae xV)) (hO:Rd w w.heap.size (some ⟨gO,0,none⟩) (ae ow)) (lV:xV.length=P * T) (lO:ow.length=T) (hb:∀ x∈xV,0≤x∧x≤1000) (hP:P≤6) (hT:T≤8) :
 Calls Tryz.prog 176 #[.int .i64 j,.pointer (some ⟨vB,0,none⟩),.pointer (some ⟨oB,0,none⟩)] w fun e w'=>e=.returned (.bool (decide (dL P T xV ow j<0)))∧Below w.heap.size w w':=by
 have LE:=Na (vm w P T j aV cV xV (some ⟨gO,0,none⟩) cO ow hV hO lV lO hb hP hT);have q0:w.cell? ⟨vB,0,none⟩=some (.int .i64 P):=kV.cell 0;have q1:w.cell? ⟨vB,1,none⟩=some (.int .i64 T):=kV.cell 1;have q2:w.cell? ⟨vB,2,none⟩=some (.slice aV xV.length cV):=kV.cell 2;have q3:w.cell? ⟨oB,0,none⟩=some (.slice (some ⟨gO,0,none⟩) ow.length cO):=kO.cell 0;obtain ⟨n,hn⟩:∃ n,n=dL P T xV ow j:=⟨_,rfl⟩;rw [← hn] at LE ⊢;clear hV hO lV lO hb kV kO hn
 go_enter Tryz.func176,Tryz.ntmps176;go_wp2_with fail;refine LE.out.mono ?_;rintro e w2 ⟨rfl,hb⟩;go_wp2_with fail;go_ret;exact ⟨rfl,hb⟩
def we (P T:Nat) (xV ow:List Int):Nat:=(1000 * (T:Int) * (P:Int) - jy T xV ow P).toNat
theorem Kt {P T:Nat} {xV ow ow':List Int} (hb:∀ x∈xV,0≤x∧x≤1000) (h:jy T xV ow P<jy T xV ow' P):we P T xV ow'<we P T xV ow:=by
 have h1:=CZ (T:=T) (ow:=ow') hb P;unfold we;generalize 1000 * (T:Int) * (P:Int)=B at *
 omega
theorem Fw (ow tt:List Int):(ed ow tt).length=ow.length:=by simp [ed]
def L7 (P T:Nat) (xV:List Int) (w:World) (e:Ending) (w':World):Prop :=
 ∃ res a c,EnvyR P T xV 0 (List.replicate T (-1)) res∧res.length=T∧e=.returned (.tuple #[.slice a res.length c,.bool true])∧Rd w' w'.heap.size a (ae res)∧Below w.heap.size w w'
structure EV (P T gO:Nat) (xV ow:List Int) (t:Nat) (w4 wr:World):Prop where
 K:Blk wr gO (ae ow) 2
 H:∀ res,EnvyR P T xV t ow res→EnvyR P T xV 0 (List.replicate T (-1)) res
 B:∀ p∈ow,-1≤p∧p<(P:Int)
 L:ow.length=T
 T':Touch w4 wr gO (gO+1)
theorem vX (w:World) (P T:Nat) (aV:Option Addr) (cV:Nat) (xV:List Int) (hG:bu P T xV=true) (hV:Rd w w.heap.size aV (ae xV)) :
 Calls Tryz.prog 128 #[.agg #[.int .i64 P,.int .i64 T,.slice aV xV.length cV]] w (L7 P T xV w):=by
 have hG':=hG;obtain ⟨P',T',e1,e2,p1,p6,t1,t8,lV,hb⟩:=cq hG';obtain rfl:P=P':=Int.ofNat.inj e1;obtain rfl:T=T':=Int.ofNat.inj e2;have hPT:P * T≤48:=Nat.le_trans (Nat.mul_le_mul p6 t8) (by decide)
 have KG:=Na (Blk.new w [.int .i64 P,.int .i64 T,.slice aV xV.length cV] 28);have B1:=Na (ah w (.cells #[.int .i64 P,.int .i64 T,.slice aV xV.length cV] 28));have LV:=Na (fun v (hbl:Below w.heap.size w v)=>eo v P T aV cV xV (hV.to hbl) (by omega))
 have LN:=Na (fun v=>Ay v T t1 (by omega))
 have LC:=Na (fun v=>gc v P (by omega))
 have HV:=Na hV;have HLV:=Na lV;have HB:=Na hb;rw [hG] at LV;clear hV hG hG' lV hb e1 e2
 go_enter Tryz.func128,Tryz.ntmps128;go_wp2_with fail;refine (LV.out _ B1.out).mono ?_;rintro e w2 ⟨rfl,hb2⟩;have BB:=Na (aa B1.out hb2);have K2:=KG.out.same hb2;have HK2:=Na K2;have q1:w2.cell? ⟨w.heap.size,1,none⟩=some (.int .i64 T):=K2.cell 1;clear hb2 LV K2;go_wp2_with fail;refine (LN.out _).mono ?_;rintro e w3 ⟨rfl,kO,hb3⟩;have hk3:=kO.lt;obtain ⟨gO,hgO⟩:∃ g,g=w2.heap.size+1:=⟨_,rfl⟩;rw [← hgO] at kO hk3 ⊢;have hK2lt:=HK2.out.lt;have hg0:w.heap.size<gO:=by omega
 have HKV:Hid (Blk (w3.alloc (.cells #[.slice (some ⟨gO,0,none⟩) T T] 24)) w.heap.size [.int .i64 P,.int .i64 T,.slice aV xV.length cV] 28):=(HK2.out.same hb3).alloc _;have HKO:Hid (Blk (w3.alloc (.cells #[.slice (some ⟨gO,0,none⟩) T T] 24)) w3.heap.size [.slice (some ⟨gO,0,none⟩) T T] 24):=Blk.new w3 _ _;have HKG:Hid (Blk (w3.alloc (.cells #[.slice (some ⟨gO,0,none⟩) T T] 24)) gO (ae (List.replicate T (-1))) 2):=kO.alloc _;have HB4:Hid (Below w.heap.size w (w3.alloc (.cells #[.slice (some ⟨gO,0,none⟩) T T] 24))):=aa (aa BB.out hb3) (ah _ _);clear q1 hb3 kO hK2lt LN HK2 BB hgO;go_wp2_with fail;obtain ⟨w4,hw4⟩:∃ X,X=w3.alloc (.cells #[.slice (some ⟨gO,0,none⟩) T T] 24):=⟨_,rfl⟩;have hs4:w4.heap.size=w3.heap.size+1:=by rw [hw4];simp
 rw [← hw4] at HKV HKO HKG HB4 ⊢;obtain ⟨oB,hoB⟩:∃ b,b=w3.heap.size:=⟨_,rfl⟩;rw [← hoB] at HKO hs4 hk3 ⊢;clear hw4 hoB
 go_loopw [15] (fun tv wr=>∃ (t:Nat) (ow:List Int),t≤T∧tv=.int .i64 t∧Hid (EV P T gO xV ow t w4 wr)) (fun tv _=>T - (intOf tv).toNat)
 case atStart=>exact ⟨0,List.replicate T (-1),Nat.zero_le _,rfl,⟨HKG.out,fun res h=>h,fun p hp=>by rw [List.eq_of_mem_replicate hp];omega,by simp,Touch.refl _ _ _⟩⟩
 case round =>
  clear HKG;obtain ⟨t,ow,ht,rfl,hE⟩:=hrel;have t0:(0:Int)≤(t:Int):=Int.natCast_nonneg _;obtain ⟨wo,hwo⟩:∃ W:World,W=wr:=⟨_,rfl⟩;subst hwo
  by_cases hlt:t<T
  · have hti:(t:Int)<(T:Int):=by omega
    go_wp2_with fail
    go_loopg [6] (we P T xV ow) (fun gk _ wr=>∃ ow:List Int,gk=we P T xV ow∧Hid (EV P T gO xV ow t w4 wr))
    case atStart=>exact ⟨ow,rfl,hE⟩
    case round =>
     clear hE;obtain ⟨ow,rfl,hE⟩:=hrel;have hsg:=hE.out.T'.size;have Bw:=Na (aE HB4.out hE.out.T' (by omega) (by have:=HKV.out.lt;omega))
     have KVr:=Na (HKV.out.touch hE.out.T' (.inl (by omega)))
     have KOr:=Na (HKO.out.touch hE.out.T' (.inr (by omega)))
     have q0:wr.cell? ⟨w.heap.size,0,none⟩=some (.int .i64 P):=KVr.out.cell 0;go_wp2_with fail;refine (LC.out _).mono ?_;rintro e w5 ⟨al,cl,rfl,oT,hb5⟩;have LI:=th 176 #[.pointer (some ⟨w.heap.size,0,none⟩),.pointer (some ⟨oB,0,none⟩)] (fun _ _=>by kernel_rfl) w5 al cl (ae (eD P)) (fun j=>decide (dL P T xV ow j<0)) (ay oT (Nat.le_refl _)) (by rw [ints_length,bE];omega) (fun w' j u hb6 hj=>by
      have hj':j<P:=by have:=(List.getElem?_eq_some_iff.1 hj).1;simpa [bE] using this
      rw [ex _ _ (by rw [bE];exact hj')] at hj
      injection hj with hj
      subst hj;rw [bZ (nM hj')];have hb7:=aa hb5 hb6;have kg:=hE.out.K.same hb7;have ko:=KOr.out.same hb7;rw [← hE.out.L] at ko;exact Fl w' w.heap.size oB P T j gO ow.length aV cV xV ow (KVr.out.same hb7) ko (HV.out.to (aa Bw.out hb7)) (kg.rd kg.lt) HLV.out hE.out.L HB.out p6 t8)
     rw [ints_length,bE] at LI;have HLI:=Na LI;have HB5:=Na hb5;clear LI oT hb5 q0;go_wp2_with fail;refine HLI.out.mono ?_;rintro e w6 ⟨rfl,hb6⟩;have HB6:=Na (aa HB5.out hb6);clear hb6 HLI HB5;have E6:Hid (EV P T gO xV ow t w4 w6):=⟨hE.out.K.same HB6.out,hE.out.H,hE.out.B,hE.out.L,hE.out.T'.trans (Below.touch HB6.out gO (gO+1))⟩;have B6:=Na (aa Bw.out HB6.out);have KV6:=Na (KVr.out.same HB6.out);have KO6:=Na (KOr.out.same HB6.out);have o0:w6.cell? ⟨oB,0,none⟩=some (.slice (some ⟨gO,0,none⟩) T T):=KO6.out.cell 0;clear hE Bw KVr KOr HB6 hsg
     rcases mO (fun j=>decide (dL P T xV ow j<0)) P with ⟨k,hkP,hkp,hkb,hke⟩ | ⟨hkn,hke⟩
     · rw [hke]
       have k0:(0:Int)≤(k:Int):=Int.natCast_nonneg _;have hol:=E6.out.L;have c1:w6.cell? ⟨gO,t,none⟩=some (.int .i64 (ow.getD t 0)):=by
        rw [E6.out.K.cell];exact ex _ _ (by rw [hol];exact hlt)
       have c2:=E6.out.K.free t;generalize ow.getD t 0=z at *
       have HN:Hid (EV P T gO xV (ow.set t (k:Int)) (t+1) w4 (w6.setCell ⟨gO,t,none⟩ (.int .i64 k))):=by
        refine ⟨by rw [nQ];exact E6.out.K.set t _,fun res h=>E6.out.H res (.give t ow res k hlt hke h),fun p hp=>?_,by rw [List.length_set];exact hol,E6.out.T'.trans (ar w6 gO t (.int .i64 k))⟩
        rcases List.mem_or_eq_of_mem_set hp with h | h
        · exact E6.out.B p h
        · rw [h];omega
       clear hkp hkb hke hol;go_wp2_with fail;go_roundw
       case rel=>exact ⟨t+1,ow.set t (k:Int),by omega,by go_num,HN⟩
       case measure=>simp [intOf];omega
     · rw [hke]
       have LM:=JX w6 P T gO T aV cV xV ow (HV.out.to B6.out) E6.out.K HLV.out E6.out.L HB.out E6.out.B p1 p6 t1 t8 (fun j hj=>of_decide_eq_false (hkn j hj))
       rw [E6.out.L] at LM;have HLM:=Na LM;have HKE:=Na hke;have v0:w6.cell? ⟨w.heap.size,0,none⟩=some (.int .i64 P):=KV6.out.cell 0;have v1:w6.cell? ⟨w.heap.size,1,none⟩=some (.int .i64 T):=KV6.out.cell 1;have v2:w6.cell? ⟨w.heap.size,2,none⟩=some (.slice aV xV.length cV):=KV6.out.cell 2;clear LM hke hkn;go_wp2_with fail;refine HLM.out.mono ?_;rintro e w7 ⟨rfl,r,hrr,hring,kM,tM⟩;have HN:Hid (EV P T gO xV (ed ow (fU P r r.length)) t w4 w7):=⟨kM,fun res h=>E6.out.H res (.move t ow res r hlt HKE.out hrr h),Jf E6.out.B (GX hring.lt r.length (Nat.le_refl _)) (sR P r _),by rw [Fw];exact E6.out.L,E6.out.T'.trans tM⟩
       have HP:=Na (Kt HB.out (DK hring E6.out.B E6.out.L));clear hrr hring kM tM;go_wp2_with fail
       go_roundg (we P T xV (ed ow (fU P r r.length)))
       case measure=>exact HP.out
       case rel=>exact ⟨_,rfl,HN⟩
  · obtain rfl:t=T:=by omega
    have o0:wo.cell? ⟨oB,0,none⟩=some (.slice (some ⟨gO,0,none⟩) t t):=(HKO.out.touch hE.out.T' (.inr (by omega))).cell 0
    have BZ:=Na (aE HB4.out hE.out.T' (by omega) (by have:=HKV.out.lt;omega))
    have HRd:=Na (hE.out.K.rd hE.out.K.lt);have HR:=Na (hE.out.H ow (.done ow));have HL:=Na hE.out.L;clear hE;go_wp2_with fail
    go_ret2
    exact ⟨ow,_,t,HR.out,HL.out,by rw [HL.out];rfl,HRd.out,BZ.out⟩
theorem sN {w:World} (ht:Tab w) (xs:List Int) (hl:xs.length≤1048576) (w1:World) (hb:Below w.heap.size w w1) (a:Option Addr) (c:Nat) (h:Rd w1 w1.heap.size a (ae xs)) :
 Calls Tryz.prog 102 #[.bool true,.slice (some ⟨w1.heap.size,0,none⟩) 1 1] (w1.alloc (.cells #[.slice a xs.length c] 24)) (kS (er [xs]) w):=by
 have B1:=ah w1 (.cells #[.slice a xs.length c] 24);have B2:=aa hb B1;refine (gx (w1.alloc (.cells #[.slice a xs.length c] 24)) (ht.to B2) true (some ⟨w1.heap.size,0,none⟩) 1 [xs] (EI (Blk.new w1 [.slice a xs.length c] 24) (h.to B1)) (by simp) (fun x hx=>by simp at hx;subst hx;exact hl)).mono ?_
 rintro e w2 ⟨hb2,rfl⟩;exact ⟨aa B2 hb2,rfl⟩
theorem MJ {w:World} (ht:Tab w) (xs ys:List Int) (hl:xs.length≤1048576) (hl2:ys.length≤1048576) (w1:World) (hb:Below w.heap.size w w1) (a:Option Addr) (c:Nat) (h:Rd w1 w1.heap.size a (ae xs)) (a2:Option Addr) (c2:Nat) (h2:Rd w1 w1.heap.size a2 (ae ys)) :
 Calls Tryz.prog 102 #[.bool true,.slice (some ⟨w1.heap.size,0,none⟩) 2 2] (w1.alloc (.cells #[.slice a xs.length c,.slice a2 ys.length c2] 24)) (kS (er [xs,ys]) w):=by
 have B1:=ah w1 (.cells #[.slice a xs.length c,.slice a2 ys.length c2] 24);have B2:=aa hb B1;refine (gx (w1.alloc (.cells #[.slice a xs.length c,.slice a2 ys.length c2] 24)) (ht.to B2) true (some ⟨w1.heap.size,0,none⟩) 2 [xs,ys] (JZ (Blk.new w1 [.slice a xs.length c,.slice a2 ys.length c2] 24) (h.to B1) (h2.to B1)) (by simp) (fun x hx=>by simp at hx;rcases hx with rfl | rfl <;> assumption)).mono ?_
 rintro e w2 ⟨hb2,rfl⟩;exact ⟨aa B2 hb2,rfl⟩
theorem Hk (R C:Nat) (xA xB:List Int):(jO R C xA xB).1.length≤R∧(jO R C xA xB).2.length≤C:=by
 have key:∀ f r c,(jo C xA xB f r c).1.length≤r.length∧(jo C xA xB f r c).2.length≤c.length:=by
  intro f
  induction f with
  | zero=>intro r c;exact ⟨Nat.le_refl _,Nat.le_refl _⟩
  | succ f ih =>
    intro r c;have h1:=tR C xA r c;have h2:=tO C xA xB r c;rw [jo]
    split
    · exact ⟨h1,h2⟩
    · have:=ih (iW C xA r c) (lS C xA xB r c)
      exact ⟨by omega,by omega⟩
 have:=key 13 (eD R) (eD C);rwa [bE,bE] at this
noncomputable def uR (P T:Nat) (xV:List Int):List Int:=open Classical in if h:∃ r,EnvyR P T xV 0 (List.replicate T (-1)) r then Classical.choose h else []
theorem JW {P T:Nat} {xV res:List Int} (h:EnvyR P T xV 0 (List.replicate T (-1)) res):uR P T xV=res:=by
 have hx:∃ r,EnvyR P T xV 0 (List.replicate T (-1)) r:=⟨_,h⟩;unfold uR;rw [dif_pos hx];exact (Classical.choose_spec hx).same h
def yK (d:DD):DD:={ d with R:=d.C,C:=d.R,A:=aD d.R.toNat d.C.toNat d.B (d.C.toNat * d.R.toNat),B:=aD d.R.toNat d.C.toNat d.A (d.C.toNat * d.R.toNat) }
def ju (xs:List Int) (d:DD):ib:=some ((er [xs]).map fun t=>(d,t))
def jT:List UInt8:=[103,97,109,101]
theorem DJ:fx jT (fun d=>some ((fj d.R d.C d.A d.B).map fun t=>(d,t))):=by
 intro w b d x lo hlo hlx hE hok hca hB hR0;dsimp only;have hR:DRd w w.heap.size d x:=hR0.mono (Nat.le_of_lt hB.lt);obtain ⟨⟨a1,a2⟩,⟨b1,b2⟩,⟨v1,v2⟩,⟨l1,l2⟩,⟨k1,k2⟩,f1,f2⟩:=DD.ok_len hok;obtain ⟨hg,hv,hc,ht⟩:=DD.ok_parts hok;have LG:=Na (rG w hE.tab d.R d.C x.a x.ca d.A x.b x.cb d.B ⟨hR.r.A,hR.r.B⟩ (by omega) (by omega))
 obtain ⟨z0,z1,z2,z3,z4,z5,z6,z7,z8,z9,z10,z11⟩:=af hB
 try dsimp only at z0 z1 z2 z3 z4 z5 z6 z7 z8 z9 z10 z11
 have HB:=Na hB;have HLX:=Na hlx;have HLO:=Na hlo;have HR:=Na hR;have HR0:=Na hR0;have HE:=Na hE;clear hlx hlo hB hR hE hok hca a1 a2 b1 b2 v1 v2 l1 l2 k1 k2 f1 f2 hg hv hc ht hR0;obtain ⟨s,hs⟩:∃ s:ByteArray,s=bs jT:=⟨_,rfl⟩;have t_game:(s.toList == [103,97,109,101])=true:=by rw [hs,ab];rfl
 rw [← hs];clear hs
 go_enter Tryz.func98,Tryz.ntmps98;go_wp2_with fail;refine LG.out.mono ?_;rintro e w1 ⟨rfl,hb⟩;go_wp2_with fail;go_ret3;exact RetAl.text _ hb HB.out HR.out HLX.out
def gD:List UInt8:=[118,97,108,117,101,115]
theorem Ah:fx gD (fun d=>some ((ec d.P d.T d.V).map fun t=>(d,t))):=by
 intro w b d x lo hlo hlx hE hok hca hB hR0;dsimp only;have hR:DRd w w.heap.size d x:=hR0.mono (Nat.le_of_lt hB.lt);obtain ⟨⟨a1,a2⟩,⟨b1,b2⟩,⟨v1,v2⟩,⟨l1,l2⟩,⟨k1,k2⟩,f1,f2⟩:=DD.ok_len hok;obtain ⟨hg,hv,hc,ht⟩:=DD.ok_parts hok;have LG:=Na (pw w hE.tab d.P d.T x.v x.cv d.V hR.r.V (by omega))
 obtain ⟨z0,z1,z2,z3,z4,z5,z6,z7,z8,z9,z10,z11⟩:=af hB
 try dsimp only at z0 z1 z2 z3 z4 z5 z6 z7 z8 z9 z10 z11
 have HB:=Na hB;have HLX:=Na hlx;have HLO:=Na hlo;have HR:=Na hR;have HR0:=Na hR0;have HE:=Na hE;clear hlx hlo hB hR hE hok hca a1 a2 b1 b2 v1 v2 l1 l2 k1 k2 f1 f2 hg hv hc ht hR0;obtain ⟨s,hs⟩:∃ s:ByteArray,s=bs gD:=⟨_,rfl⟩;have t_game:(s.toList == [103,97,109,101])=false:=by rw [hs,ab];rfl
 have t_values:(s.toList == [118,97,108,117,101,115])=true:=by rw [hs,ab];rfl
 rw [← hs];clear hs
 go_enter Tryz.func98,Tryz.ntmps98;go_wp2_with fail;refine LG.out.mono ?_;rintro e w1 ⟨rfl,hb⟩;go_wp2_with fail;go_ret3;exact RetAl.text _ hb HB.out HR.out HLX.out
def iH:List UInt8:=[99,114,111,119,100]
theorem Bo:fx iH (fun d=>some ((eE d.U d.N d.W d.K).map fun t=>(d,t))):=by
 intro w b d x lo hlo hlx hE hok hca hB hR0;dsimp only;have hR:DRd w w.heap.size d x:=hR0.mono (Nat.le_of_lt hB.lt);obtain ⟨⟨a1,a2⟩,⟨b1,b2⟩,⟨v1,v2⟩,⟨l1,l2⟩,⟨k1,k2⟩,f1,f2⟩:=DD.ok_len hok;obtain ⟨hg,hv,hc,ht⟩:=DD.ok_parts hok;have LG:=Na (qP w hE.tab d.U d.N x.w x.cw d.W x.k x.ck d.K ⟨hR.r.W,hR.r.C⟩ (by omega) (by omega))
 obtain ⟨z0,z1,z2,z3,z4,z5,z6,z7,z8,z9,z10,z11⟩:=af hB
 try dsimp only at z0 z1 z2 z3 z4 z5 z6 z7 z8 z9 z10 z11
 have HB:=Na hB;have HLX:=Na hlx;have HLO:=Na hlo;have HR:=Na hR;have HR0:=Na hR0;have HE:=Na hE;clear hlx hlo hB hR hE hok hca a1 a2 b1 b2 v1 v2 l1 l2 k1 k2 f1 f2 hg hv hc ht hR0;obtain ⟨s,hs⟩:∃ s:ByteArray,s=bs iH:=⟨_,rfl⟩;have t_game:(s.toList == [103,97,109,101])=false:=by rw [hs,ab];rfl
 have t_values:(s.toList == [118,97,108,117,101,115])=false:=by rw [hs,ab];rfl
 have t_crowd:(s.toList == [99,114,111,119,100])=true:=by rw [hs,ab];rfl
 rw [← hs];clear hs
 go_enter Tryz.func98,Tryz.ntmps98;go_wp2_with fail;refine LG.out.mono ?_;rintro e w1 ⟨rfl,hb⟩;go_wp2_with fail;go_ret3;exact RetAl.text _ hb HB.out HR.out HLX.out
def iF:List UInt8:=[116,117,114,110,115]
theorem Cd:fx iF (fun d=>some (some (d,ba d.F))):=by
 intro w b d x lo hlo hlx hE hok hca hB hR0;dsimp only;have hR:DRd w w.heap.size d x:=hR0.mono (Nat.le_of_lt hB.lt);obtain ⟨⟨a1,a2⟩,⟨b1,b2⟩,⟨v1,v2⟩,⟨l1,l2⟩,⟨k1,k2⟩,f1,f2⟩:=DD.ok_len hok;obtain ⟨hg,hv,hc,ht⟩:=DD.ok_parts hok;have LG:=Na (kJ w hE.bit x.f x.cf d.F hR.r.T hR.f (by omega))
 rw [if_pos (by omega:d.F.length≤256)] at LG
 obtain ⟨z0,z1,z2,z3,z4,z5,z6,z7,z8,z9,z10,z11⟩:=af hB
 try dsimp only at z0 z1 z2 z3 z4 z5 z6 z7 z8 z9 z10 z11
 have HB:=Na hB;have HLX:=Na hlx;have HLO:=Na hlo;have HR:=Na hR;have HR0:=Na hR0;have HE:=Na hE;clear hlx hlo hB hR hE hok hca a1 a2 b1 b2 v1 v2 l1 l2 k1 k2 f1 f2 hg hv hc ht hR0;obtain ⟨s,hs⟩:∃ s:ByteArray,s=bs iF:=⟨_,rfl⟩;have t_game:(s.toList == [103,97,109,101])=false:=by rw [hs,ab];rfl
 have t_values:(s.toList == [118,97,108,117,101,115])=false:=by rw [hs,ab];rfl
 have t_crowd:(s.toList == [99,114,111,119,100])=false:=by rw [hs,ab];rfl
 have t_turns:(s.toList == [116,117,114,110,115])=true:=by rw [hs,ab];rfl
 rw [← hs];clear hs
 go_enter Tryz.func98,Tryz.ntmps98;go_wp2_with fail;refine LG.out.mono ?_;rintro e w1 ⟨hb,rfl⟩;go_wp2_with fail;go_ret3;exact RetAl.text (some _) hb HB.out HR.out HLX.out
def sm:List UInt8:=[116,117,114,110]
theorem EM:fx sm (fun d=>some (some (yK d,li))):=by
 intro w b d x lo hlo hlx hE hok hca hB hR0;dsimp only;have hR:DRd w w.heap.size d x:=hR0.mono (Nat.le_of_lt hB.lt);obtain ⟨⟨a1,a2⟩,⟨b1,b2⟩,⟨v1,v2⟩,⟨l1,l2⟩,⟨k1,k2⟩,f1,f2⟩:=DD.ok_len hok;obtain ⟨hg,hv,hc,ht⟩:=DD.ok_parts hok;obtain ⟨dR,dC,A,B,P,T,V,U,N,W,K,F⟩:=d;obtain ⟨R,C,e1,e2,r1,r6,c1,c6,lA,lB,-,-⟩:=ef hg;dsimp only at e1 e2 r1 r6 c1 c6 lA lB;subst e1 e2;have hRC:R * C≤36:=Nat.le_trans (Nat.mul_le_mul r6 c6) (by decide)
 have hb1:=hB.lt;have LG:=Na (A2 w R C x.a x.ca A x.b x.cb B hg hR.r.A hR.r.B);unfold J6 at LG;rw [show (yK { R:=R,C:=C,A:=A,B:=B,P:=P,T:=T,V:=V,U:=U,N:=N,W:=W,K:=K,F:=F }) = { R:=C,C:=R,A:=aD R C B (C * R),B:=aD R C A (C * R),P:=P,T:=T,V:=V,U:=U,N:=N,W:=W,K:=K,F:=F } from rfl]
 generalize aD R C B (C * R)=fA at LG ⊢;generalize aD R C A (C * R)=fB at LG ⊢;obtain ⟨z0,z1,z2,z3,z4,z5,z6,z7,z8,z9,z10,z11⟩:=af hB
 try dsimp only at z0 z1 z2 z3 z4 z5 z6 z7 z8 z9 z10 z11
 have HB:=Na hB;have HLX:=Na hlx;have HLO:=Na hlo;have HR:=Na hR;have HR0:=Na hR0;have HE:=Na hE;clear hlx hlo hB hR hE hok hca a1 a2 b1 b2 v1 v2 l1 l2 k1 k2 f1 f2 hg hv hc ht hR0 r1 r6 c1 c6 lA lB hRC;obtain ⟨s,hs⟩:∃ s:ByteArray,s=bs sm:=⟨_,rfl⟩;have t_game:(s.toList == [103,97,109,101])=false:=by rw [hs,ab];rfl
 have t_values:(s.toList == [118,97,108,117,101,115])=false:=by rw [hs,ab];rfl
 have t_crowd:(s.toList == [99,114,111,119,100])=false:=by rw [hs,ab];rfl
 have t_turns:(s.toList == [116,117,114,110,115])=false:=by rw [hs,ab];rfl
 have t_turn:(s.toList == [116,117,114,110])=true:=by rw [hs,ab];rfl
 rw [← hs];clear hs
 go_enter Tryz.func98,Tryz.ntmps98;go_wp2_with fail;refine LG.out.mono ?_;rintro e w1 ⟨a2,c2,a3,c3,rfl,q1,q2,hb,b1,b2⟩;have KB:=HB.out.same hb;have KT:=HR0.out.below hb (Nat.le_of_lt HB.out.lt);obtain ⟨y0,y1,y2,y3,y4,y5,y6,y7,y8,y9,y10,y11⟩:=af KB;dsimp only at y0 y1 y2 y3 y4 y5 y6 y7 y8 y9 y10 y11;have g0:=KB.free 0;have g1:=KB.free 1;have g2:=KB.free 2;have g3:=KB.free 3;have PT:=Na (C6 KB KT C R fA a2 c2 fB a3 c3 (C3 q1 (fun y h=>by have:=b1 y h;omega)) (C3 q2 (fun y h=>by have:=b2 y h;omega)))
 have hbb:=Na hb;clear q1 q2 KB KT b1 b2 hb1 hb;go_wp2_with fail;go_ret3;exact PT.out.yes hbb.out HLO.out HLX.out li
def sT:List UInt8:=[112,117,114,101]
theorem Ed:fx sT (fun d=>ju (ek d.R.toNat d.C.toNat d.A (aD d.R.toNat d.C.toNat d.B (d.C.toNat * d.R.toNat)) (d.R.toNat * d.C.toNat)) d):=by
 intro w b d x lo hlo hlx hE hok hca hB hR0;dsimp only;have hR:DRd w w.heap.size d x:=hR0.mono (Nat.le_of_lt hB.lt);obtain ⟨⟨a1,a2⟩,⟨b1,b2⟩,⟨v1,v2⟩,⟨l1,l2⟩,⟨k1,k2⟩,f1,f2⟩:=DD.ok_len hok;obtain ⟨hg,hv,hc,ht⟩:=DD.ok_parts hok;obtain ⟨dR,dC,A,B,P,T,V,U,N,W,K,F⟩:=d;obtain ⟨R,C,e1,e2,r1,r6,c1,c6,lA,lB,-,-⟩:=ef hg;dsimp only at e1 e2 r1 r6 c1 c6 lA lB;subst e1 e2;have hRC:R * C≤36:=Nat.le_trans (Nat.mul_le_mul r6 c6) (by decide)
 have LG:=Na (EY w R C x.a x.ca A x.b x.cb B hg hR.r.A hR.r.B);have hL:=xq R C A (aD R C B (C * R)) (R * C);unfold ju;dsimp only [Int.toNat_natCast];generalize ek R C A (aD R C B (C * R)) (R * C)=xs at LG hL ⊢;have LT:=Na (sN hE.tab xs (by omega))
 clear hL;obtain ⟨z0,z1,z2,z3,z4,z5,z6,z7,z8,z9,z10,z11⟩:=af hB
 try dsimp only at z0 z1 z2 z3 z4 z5 z6 z7 z8 z9 z10 z11
 have HB:=Na hB;have HLX:=Na hlx;have HLO:=Na hlo;have HR:=Na hR;have HR0:=Na hR0;have HE:=Na hE;clear hlx hlo hB hR hE hok hca a1 a2 b1 b2 v1 v2 l1 l2 k1 k2 f1 f2 hg hv hc ht hR0 r1 r6 c1 c6 lA lB hRC;obtain ⟨s,hs⟩:∃ s:ByteArray,s=bs sT:=⟨_,rfl⟩;have t_game:(s.toList == [103,97,109,101])=false:=by rw [hs,ab];rfl
 have t_values:(s.toList == [118,97,108,117,101,115])=false:=by rw [hs,ab];rfl
 have t_crowd:(s.toList == [99,114,111,119,100])=false:=by rw [hs,ab];rfl
 have t_turns:(s.toList == [116,117,114,110,115])=false:=by rw [hs,ab];rfl
 have t_turn:(s.toList == [116,117,114,110])=false:=by rw [hs,ab];rfl
 have t_pure:(s.toList == [112,117,114,101])=true:=by rw [hs,ab];rfl
 rw [← hs];clear hs
 go_enter Tryz.func98,Tryz.ntmps98;go_wp2_with fail;refine LG.out.mono ?_;rintro e w1 ⟨a,c,rfl,hr,hb⟩;have LT1:=Na (LT.out _ hb a c hr);clear hr hb;go_wp2_with fail;refine LT1.out.mono ?_;rintro e w2 ⟨hb2,rfl⟩;go_wp2_with fail;go_ret3;exact RetAl.text _ hb2 HB.out HR.out HLX.out
def sH:List UInt8:=[108,101,102,116]
theorem Fy:fx sH (fun d=>some ((er [(jO d.R.toNat d.C.toNat d.A d.B).1,(jO d.R.toNat d.C.toNat d.A d.B).2]).map fun t=>(d,t))):=by
 intro w b d x lo hlo hlx hE hok hca hB hR0;dsimp only;have hR:DRd w w.heap.size d x:=hR0.mono (Nat.le_of_lt hB.lt);obtain ⟨⟨a1,a2⟩,⟨b1,b2⟩,⟨v1,v2⟩,⟨l1,l2⟩,⟨k1,k2⟩,f1,f2⟩:=DD.ok_len hok;obtain ⟨hg,hv,hc,ht⟩:=DD.ok_parts hok;obtain ⟨dR,dC,A,B,P,T,V,U,N,W,K,F⟩:=d;obtain ⟨R,C,e1,e2,r1,r6,c1,c6,lA,lB,-,-⟩:=ef hg;dsimp only at e1 e2 r1 r6 c1 c6 lA lB;subst e1 e2;have hRC:R * C≤36:=Nat.le_trans (Nat.mul_le_mul r6 c6) (by decide)
 have LG:=Na (yE w R C x.a x.ca A x.b x.cb B hg hR.r.A hR.r.B);unfold Ka at LG;obtain ⟨hL,hL2⟩:=Hk R C A B;dsimp only [Int.toNat_natCast];generalize (jO R C A B).1=xs at LG hL ⊢;generalize (jO R C A B).2=ys at LG hL2 ⊢;have LT:=Na (MJ hE.tab xs ys (by omega) (by omega))
 clear hL hL2;obtain ⟨z0,z1,z2,z3,z4,z5,z6,z7,z8,z9,z10,z11⟩:=af hB
 try dsimp only at z0 z1 z2 z3 z4 z5 z6 z7 z8 z9 z10 z11
 have HB:=Na hB;have HLX:=Na hlx;have HLO:=Na hlo;have HR:=Na hR;have HR0:=Na hR0;have HE:=Na hE;clear hlx hlo hB hR hE hok hca a1 a2 b1 b2 v1 v2 l1 l2 k1 k2 f1 f2 hg hv hc ht hR0 r1 r6 c1 c6 lA lB hRC;obtain ⟨s,hs⟩:∃ s:ByteArray,s=bs sH:=⟨_,rfl⟩;have t_game:(s.toList == [103,97,109,101])=false:=by rw [hs,ab];rfl
 have t_values:(s.toList == [118,97,108,117,101,115])=false:=by rw [hs,ab];rfl
 have t_crowd:(s.toList == [99,114,111,119,100])=false:=by rw [hs,ab];rfl
 have t_turns:(s.toList == [116,117,114,110,115])=false:=by rw [hs,ab];rfl
 have t_turn:(s.toList == [116,117,114,110])=false:=by rw [hs,ab];rfl
 have t_pure:(s.toList == [112,117,114,101])=false:=by rw [hs,ab];rfl
 have t_pareto:(s.toList == [112,97,114,101,116,111])=false:=by rw [hs,ab];rfl
 have t_left:(s.toList == [108,101,102,116])=true:=by rw [hs,ab];rfl
 rw [← hs];clear hs
 go_enter Tryz.func98,Tryz.ntmps98;go_wp2_with fail;refine LG.out.mono ?_;rintro e w1 ⟨a,c,a2,c2,rfl,hr,hr2,hb⟩;have LT1:=Na (LT.out _ hb a c hr a2 c2 hr2);clear hr hr2 hb;go_wp2_with fail;refine LT1.out.mono ?_;rintro e w2 ⟨hb2,rfl⟩;go_wp2_with fail;go_ret3;exact RetAl.text _ hb2 HB.out HR.out HLX.out
def sw:List UInt8:=[115,97,102,101]
theorem Fi:fx sw (fun d=>ju [(eJ d.R.toNat d.C.toNat d.A d.R.toNat).1,(eJ d.R.toNat d.C.toNat d.A d.R.toNat).2] d):=by
 intro w b d x lo hlo hlx hE hok hca hB hR0;dsimp only;have hR:DRd w w.heap.size d x:=hR0.mono (Nat.le_of_lt hB.lt);obtain ⟨⟨a1,a2⟩,⟨b1,b2⟩,⟨v1,v2⟩,⟨l1,l2⟩,⟨k1,k2⟩,f1,f2⟩:=DD.ok_len hok;obtain ⟨hg,hv,hc,ht⟩:=DD.ok_parts hok;obtain ⟨dR,dC,A,B,P,T,V,U,N,W,K,F⟩:=d;obtain ⟨R,C,e1,e2,r1,r6,c1,c6,lA,lB,-,-⟩:=ef hg;dsimp only at e1 e2 r1 r6 c1 c6 lA lB;subst e1 e2;have hRC:R * C≤36:=Nat.le_trans (Nat.mul_le_mul r6 c6) (by decide)
 have LG:=Na (CG w R C x.a x.ca A x.b x.cb B hg hca hR.r.A hR.r.B);unfold ju;dsimp only [Int.toNat_natCast];generalize (eJ R C A R).1=m at LG ⊢;generalize (eJ R C A R).2=n at LG ⊢;have LT:=Na (sN hE.tab [m,n] (by simp))
 obtain ⟨z0,z1,z2,z3,z4,z5,z6,z7,z8,z9,z10,z11⟩:=af hB
 try dsimp only at z0 z1 z2 z3 z4 z5 z6 z7 z8 z9 z10 z11
 have HB:=Na hB;have HLX:=Na hlx;have HLO:=Na hlo;have HR:=Na hR;have HR0:=Na hR0;have HE:=Na hE;clear hlx hlo hB hR hE hok hca a1 a2 b1 b2 v1 v2 l1 l2 k1 k2 f1 f2 hg hv hc ht hR0 r1 r6 c1 c6 lA lB hRC;obtain ⟨s,hs⟩:∃ s:ByteArray,s=bs sw:=⟨_,rfl⟩;have t_game:(s.toList == [103,97,109,101])=false:=by rw [hs,ab];rfl
 have t_values:(s.toList == [118,97,108,117,101,115])=false:=by rw [hs,ab];rfl
 have t_crowd:(s.toList == [99,114,111,119,100])=false:=by rw [hs,ab];rfl
 have t_turns:(s.toList == [116,117,114,110,115])=false:=by rw [hs,ab];rfl
 have t_turn:(s.toList == [116,117,114,110])=false:=by rw [hs,ab];rfl
 have t_pure:(s.toList == [112,117,114,101])=false:=by rw [hs,ab];rfl
 have t_pareto:(s.toList == [112,97,114,101,116,111])=false:=by rw [hs,ab];rfl
 have t_left:(s.toList == [108,101,102,116])=false:=by rw [hs,ab];rfl
 have t_safe:(s.toList == [115,97,102,101])=true:=by rw [hs,ab];rfl
 rw [← hs];clear hs
 go_enter Tryz.func98,Tryz.ntmps98;go_wp2_with fail;refine LG.out.mono ?_;rintro e w1 ⟨rfl,hb⟩;have LT1:=Na (LT.out _ (aa hb (ah w1 (.cells #[.int .i64 m,.int .i64 n] 2))) (some ⟨w1.heap.size,0,none⟩) 2 (fw (Blk.new w1 [.int .i64 m,.int .i64 n] 2)));rw [World.size_alloc] at LT1;clear hb;go_wp2_with fail;refine LT1.out.mono ?_;rintro e w2 ⟨hb2,rfl⟩;go_wp2_with fail;go_ret3;exact RetAl.text _ hb2 HB.out HR.out HLX.out
def np:List UInt8:=[114,111,117,110,100,115]
theorem zT:fx np (fun d=>ju (uR d.P.toNat d.T.toNat d.V) d):=by
 intro w b d x lo hlo hlx hE hok hca hB hR0;dsimp only;have hR:DRd w w.heap.size d x:=hR0.mono (Nat.le_of_lt hB.lt);obtain ⟨⟨a1,a2⟩,⟨b1,b2⟩,⟨v1,v2⟩,⟨l1,l2⟩,⟨k1,k2⟩,f1,f2⟩:=DD.ok_len hok;obtain ⟨hg,hv,hc,ht⟩:=DD.ok_parts hok;obtain ⟨R,C,A,B,dP,dT,V,U,N,W,K,F⟩:=d;obtain ⟨P,T,e1,e2,p1,p6,t1,t8,lV,-⟩:=cq hv;dsimp only at e1 e2 p1 p6 t1 t8 lV;subst e1 e2;have LG:=Na (vX w P T x.v x.cv V hv hR.r.V);unfold ju;dsimp only [Int.toNat_natCast];have ht8:T≤8:=t8;have HT:=Na hE.tab;obtain ⟨ye,hye⟩:∃ y,y=uR P T V:=⟨_,rfl⟩;rw [← hye];have HY:=Na hye;clear hye;obtain ⟨z0,z1,z2,z3,z4,z5,z6,z7,z8,z9,z10,z11⟩:=af hB
 try dsimp only at z0 z1 z2 z3 z4 z5 z6 z7 z8 z9 z10 z11
 have HB:=Na hB;have HLX:=Na hlx;have HLO:=Na hlo;have HR:=Na hR;have HR0:=Na hR0;have HE:=Na hE;clear hlx hlo hB hR hE hok hca a1 a2 b1 b2 v1 v2 l1 l2 k1 k2 f1 f2 hg hv hc ht hR0 p1 p6 t1 t8 lV;obtain ⟨s,hs⟩:∃ s:ByteArray,s=bs np:=⟨_,rfl⟩;have t_game:(s.toList == [103,97,109,101])=false:=by rw [hs,ab];rfl
 have t_values:(s.toList == [118,97,108,117,101,115])=false:=by rw [hs,ab];rfl
 have t_crowd:(s.toList == [99,114,111,119,100])=false:=by rw [hs,ab];rfl
 have t_turns:(s.toList == [116,117,114,110,115])=false:=by rw [hs,ab];rfl
 have t_turn:(s.toList == [116,117,114,110])=false:=by rw [hs,ab];rfl
 have t_pure:(s.toList == [112,117,114,101])=false:=by rw [hs,ab];rfl
 have t_pareto:(s.toList == [112,97,114,101,116,111])=false:=by rw [hs,ab];rfl
 have t_left:(s.toList == [108,101,102,116])=false:=by rw [hs,ab];rfl
 have t_safe:(s.toList == [115,97,102,101])=false:=by rw [hs,ab];rfl
 have t_rounds:(s.toList == [114,111,117,110,100,115])=true:=by rw [hs,ab];rfl
 rw [← hs];clear hs
 go_enter Tryz.func98,Tryz.ntmps98;go_wp2_with fail;refine LG.out.mono ?_;rintro e w1 ⟨res,a,c,hE',hl,rfl,hr,hb⟩;obtain rfl:ye=res:=by rw [HY.out];exact JW hE'
 have LT1:=Na (sN HT.out ye (by omega) _ hb a c hr)
 clear hr hb hE' hl ht8;go_wp2_with fail;refine LT1.out.mono ?_;rintro e w2 ⟨hb2,rfl⟩;go_wp2_with fail;go_ret3;exact RetAl.text _ hb2 HB.out HR.out HLX.out
theorem yF (l:List UInt8) (hl:l∉[[103,97,109,101],[118,97,108,117,101,115],[99,114,111,119,100],[116,117,114,110,115],[116,117,114,110],[112,117,114,101],[112,97,114,101,116,111],[108,101,102,116],[115,97,102,101],[114,111,117,110,100,115],[112,114,111,100,117,99,116],[112,114,105,99,101],[116,111,108,108,115],[97,103,114,101,101]]):fx l (fun _=>none):=by
 intro w b d x lo hlo hlx hE hok hca hB hR;clear hlx hlo hE hok hca hR hB;obtain ⟨s,hs⟩:∃ s:ByteArray,s=bs l:=⟨_,rfl⟩;have t_game:(s.toList == [103,97,109,101])=false:=by rw [hs,ab];exact beq_eq_false_iff_ne.2 (fun e=>hl (by rw [e];decide))
 have t_values:(s.toList == [118,97,108,117,101,115])=false:=by rw [hs,ab];exact beq_eq_false_iff_ne.2 (fun e=>hl (by rw [e];decide))
 have t_crowd:(s.toList == [99,114,111,119,100])=false:=by rw [hs,ab];exact beq_eq_false_iff_ne.2 (fun e=>hl (by rw [e];decide))
 have t_turns:(s.toList == [116,117,114,110,115])=false:=by rw [hs,ab];exact beq_eq_false_iff_ne.2 (fun e=>hl (by rw [e];decide))
 have t_turn:(s.toList == [116,117,114,110])=false:=by rw [hs,ab];exact beq_eq_false_iff_ne.2 (fun e=>hl (by rw [e];decide))
 have t_pure:(s.toList == [112,117,114,101])=false:=by rw [hs,ab];exact beq_eq_false_iff_ne.2 (fun e=>hl (by rw [e];decide))
 have t_pareto:(s.toList == [112,97,114,101,116,111])=false:=by rw [hs,ab];exact beq_eq_false_iff_ne.2 (fun e=>hl (by rw [e];decide))
 have t_left:(s.toList == [108,101,102,116])=false:=by rw [hs,ab];exact beq_eq_false_iff_ne.2 (fun e=>hl (by rw [e];decide))
 have t_safe:(s.toList == [115,97,102,101])=false:=by rw [hs,ab];exact beq_eq_false_iff_ne.2 (fun e=>hl (by rw [e];decide))
 have t_rounds:(s.toList == [114,111,117,110,100,115])=false:=by rw [hs,ab];exact beq_eq_false_iff_ne.2 (fun e=>hl (by rw [e];decide))
 have t_product:(s.toList == [112,114,111,100,117,99,116])=false:=by rw [hs,ab];exact beq_eq_false_iff_ne.2 (fun e=>hl (by rw [e];decide))
 have t_price:(s.toList == [112,114,105,99,101])=false:=by rw [hs,ab];exact beq_eq_false_iff_ne.2 (fun e=>hl (by rw [e];decide))
 have t_tolls:(s.toList == [116,111,108,108,115])=false:=by rw [hs,ab];exact beq_eq_false_iff_ne.2 (fun e=>hl (by rw [e];decide))
 have t_agree:(s.toList == [97,103,114,101,101])=false:=by rw [hs,ab];exact beq_eq_false_iff_ne.2 (fun e=>hl (by rw [e];decide))
 rw [← hs];clear hs hl
 go_enter Tryz.func98,Tryz.ntmps98;go_wp2_with fail;go_ret3;exact RetAl.what _ _ (Touch.refl _ _ _)
end Go.Proofs.YtbknhgapjjaelaaGreatDoor
