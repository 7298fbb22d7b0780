/-
  Part 18 of what the proof stands on: lemmas and contracts, each with its conditions ahead of the colon.
-/
import Derived.Test.YtbknhgapjjaelaaGreatDoorPj01
import Derived.Outline
import Derived.Laws.EntriesVeiled
import Derived.Test.YtbknhgapjjaelaaGreatDoorPj07
import Derived.Test.YtbknhgapjjaelaaGreatDoorPj17
set_option maxRecDepth 10000
set_option maxHeartbeats 8000000
namespace Go.Proofs.YtbknhgapjjaelaaGreatDoor
set_option linter.unusedVariables false
set_option linter.unusedSimpArgs false
open Go.RowKit
def gh (c:Cr) (ch:List Int):List Int:=(List.range ch.length).map fun (u:Nat)=>dl c ch u
theorem qo (c:Cr) (ch:List Int):(gh c ch).length=ch.length:=by simp [gh]
theorem EN {c:Cr} {ch:List Int} {k:Nat} (h:k<ch.length):(gh c ch)[k]? = some (dl c ch k):=by simp [gh,h]
theorem CB {c:Cr} {ch:List Int} {k:Nat} (h:k<ch.length):(gh c ch).take (k+1)=(gh c ch).take k ++ [dl c ch k]:=by
 rw [List.take_add_one,EN h];rfl
theorem yx (f:Nat→Int):∀ n:Nat,((List.range n).map f).sum=gI f n
 | 0=>rfl
 | n+1=>by rw [List.range_succ,List.map_append,List.sum_append,yx f n,gI];simp
theorem Gx {c:Cr} {ch:List Int} (h:Can c ch):lZ (gh c ch)=cP c ch:=by
 have h8:=h.v.u8;have hl:=h.len;have:=Er (gh c ch) 800000 (by omega) (fun x hx=>by
  obtain ⟨u,_,rfl⟩:=List.mem_map.1 hx;exact wV h.v ch u) (by rw [qo];omega)
 rw [this.1,gh,yx,cP]
 congr 1
 omega
theorem GQ (w:World) (U:Int) (n:Nat) (a2:Option Addr) (c2:Nat) (x2:List Int) (a3:Option Addr) (c3:Nat) (x3:List Int) (a:Option Addr) (c:Nat) (ch:List Int) (h:RdCrowd w w.heap.size a2 x2 a3 x3) (g:Rd w w.heap.size a (ae ch)) (hc:Can ⟨U,n,x2,x3⟩ ch) :
 Calls Tryz.prog 251 #[.agg #[.int .i64 U,.int .i64 n,.slice a2 x2.length c2,.slice a3 x3.length c3],.slice a ch.length c] w fun e w'=>∃ a' c',e=.returned (.slice a' ch.length c')∧OwnI 2 w' w.heap.size w'.heap.size a' c' (gh ⟨U,n,x2,x3⟩ ch)∧Below w.heap.size w w':=by
 have hUl:(ch.length:Int)=U:=hc.len;have hU8:ch.length≤8:=by have:=hc.v.u8;simp only at this;omega
 have hU1:1≤ch.length:=by have:=hc.v.u1;simp only at this;omega
 have LCl:=Oi (fun w' hb=>eo w' a c ch (g.to hb) hU1 (by omega))
 have LP:=Oi (fun (w':World) (g':Nat) (tl:List Value) (cc u wy:Nat) (hA:Blk w' g' (ae ch ++ tl) 2) (hB:w.heap.size≤g') (hb:Below w.heap.size w w') (hu:u<ch.length) (hw:wy<x2.length)=>Bn w' w.heap.size g' tl U n a2 c2 x2 a3 c3 x3 cc ch u wy hA hB (h.below hb (Nat.le_refl _)) hc hu hw)
 have HM:Hid (∀ x∈ch,0≤x∧x<(x2.length:Int)):=hc.mem;have Hg:=Oi g;have Hlen:=Oi (qo ⟨U,n,x2,x3⟩ ch);clear h g hc hUl;generalize hC:(⟨U,(n:Int),x2,x3⟩:Cr)=C at *
 clear hC
 go_enter Tryz.func251,Tryz.ntmps251;go_wp2_with fail;refine (LCl.out _ (ai _ _)).mono ?_;rintro e w1 ⟨a1,c1,rfl,o1,hb1⟩;obtain ⟨go,tl,rfl,hgo,hbg,hcc,hccm,hcl⟩:=lM o1.1 (by omega)
 have KA:=Oi ((Blk.new w [.int .i64 U,.int .i64 n,.slice a2 x2.length c2,.slice a3 x3.length c3] 30).same hb1);have B1:=aa (ai w (.cells #[.int .i64 U,.int .i64 n,.slice a2 x2.length c2,.slice a3 x3.length c3] 30)) hb1;have KG:=Oi hbg;have hgo':w.heap.size≤go:=by simp at hgo;omega
 have O1:Hid ((w1.alloc (.cells #[] 2)).ownsRow w1.heap.size 2 1 (.slice (some ⟨w1.heap.size,0,none⟩) 0 0) 0 (ae ((gh C ch).take 0))):=lf w1 2;have B1e:=ai w1 (.cells #[] 2);have hs1:=B1.size;clear o1 hb1 hbg LCl;go_wp2_with fail
 go_loopw [14,6] (fun i v wr=>∃ k:Nat,k≤ch.length∧i=.int .i64 k∧Hid (wr.ownsRow w1.heap.size 2 1 v k (ae ((gh C ch).take k)))∧Below w1.heap.size w1 wr) (fun i _ _=>ch.length - (intOf i).toNat)
 case atStart=>exact ⟨0,Nat.zero_le _,rfl,O1.out,B1e⟩
 case round =>
  clear O1 B1e;obtain ⟨k,hk,rfl,ho,hw⟩:=hrel;have hww:=B1.trans (hw.mono hs1)
  by_cases hlt:k<ch.length
  · obtain ⟨b1,o1,x,rfl,hbb1,hck,hx⟩:=(Hg.out.below hww (Nat.le_refl _)).get hlt
    obtain ⟨x0,x8⟩:=HM.out x (List.mem_of_getElem? hx.out);obtain ⟨q,rfl⟩:∃ q:Nat,x=q:=⟨x.toNat,by omega⟩;have hq8:q<x2.length:=by (try simp only at x8);omega
    have Hxq:ch.getD k 0=q:=co hx.out;have LP1:=Oi (LP.out wr go tl c1 k q (KG.out.same hw) hgo' hww hlt hq8);have Hset:ch.set k (q:Int)=ch:=by rw [← Hxq];exact uB ch k
    rw [Hset] at LP1;have q0:=(KA.out.same hw).cell 0;have q1:=(KA.out.same hw).cell 1;have q2:=(KA.out.same hw).cell 2;have q3:=(KA.out.same hw).cell 3;simp only [List.getElem?_cons_zero,List.getElem?_cons_succ] at q0 q1 q2 q3;have Hn:=Oi (CB (c:=C) hlt);generalize dl C ch k=p at *
    clear hx Hxq Hset x8;go_wp2_with fail;refine LP1.out.mono ?_;rintro e w2 ⟨rfl,hb2⟩;have hw2:=hw.trans (hb2.mono hw.size);have ho2:=aD ho.out hb2;have hs2:=hw2.size;clear hb2 LP1 q0 q1 q2 q3 hck ho hww
    go_wp2_with (at_builtin;refine aH _ rfl _ _ 24 rfl w1.heap.size 2 (.int .i64 0) 8 Tryz.underlying24 aZ rfl _ k _ rfl ho2 (.int .i64 p) rfl rfl (by omega) (by omega) hs2 ?_)
    intro v' w3 ho3 hgr;have hw3:=ah hw2 ho2 hgr (Nat.le_refl _) hs2;have HO:Hid (w3.ownsRow w1.heap.size 2 1 v' (k+1) (ae ((gh C ch).take (k+1)))):=by
     rw [Hn.out,bk];exact ho3
    clear ho2 ho3 hgr hw2 hw;go_wp2_with fail;go_roundw
    case rel=>exact ⟨k+1,by omega,by go_num,HO,hw3⟩
    case measure=>simp [intOf];omega
  · have:k=ch.length:=by omega
    subst this;obtain ⟨a1,c1',rfl,_,_⟩:=ba ho.out;have HR:Hid (OwnI 2 wr w.heap.size wr.heap.size a1 c1' (gh C ch)):=by
     have:=bS ho.out hs1;rw [List.take_of_length_le (by rw [Hlen.out];exact Nat.le_refl _)] at this
     exact OwnI.of_own (by rw [Hlen.out];exact this)
    clear ho;go_wp2_with fail;go_ret;exact ⟨_,_,rfl,HR.out,hww⟩
theorem su (w:World) (U:Int) (n:Nat) (a2:Option Addr) (c2:Nat) (x2:List Int) (a3:Option Addr) (c3:Nat) (x3:List Int) (a:Option Addr) (c:Nat) (ch:List Int) (h:RdCrowd w w.heap.size a2 x2 a3 x3) (g:Rd w w.heap.size a (ae ch)) (hc:Can ⟨U,n,x2,x3⟩ ch) :
 Calls Tryz.prog 228 #[.agg #[.int .i64 U,.int .i64 n,.slice a2 x2.length c2,.slice a3 x3.length c3],.slice a ch.length c] w fun e w'=>e=.returned (.int .i64 (cP ⟨U,n,x2,x3⟩ ch))∧Below w.heap.size w w':=by
 have hU8:ch.length≤8:=by have:=hc.v.u8;have:=hc.len;simp only at *;omega
 have LC:=Oi (fun w' hb=>GQ w' U n a2 c2 x2 a3 c3 x3 a c ch (h.to hb) (g.to hb) hc)
 have Hs:=Oi (Gx hc);have Hlen:=Oi (qo ⟨U,n,x2,x3⟩ ch);clear h g hc;generalize hC:(⟨U,(n:Int),x2,x3⟩:Cr)=C at *
 clear hC;generalize gh C ch=cs at *
 generalize cP C ch=t at *
 go_enter Tryz.func228,Tryz.ntmps228;go_wp2_with fail;refine (LC.out _ (ai _ _)).mono ?_;rintro e w1 ⟨a1,c1,rfl,o1,hb1⟩;have B1:=aa (ai w _) hb1;have LS:=yw w1 a1 c1 cs (o1.rd.mono (Nat.le_refl _)) (by rw [Hlen.out];omega)
 rw [Hs.out,Hlen.out] at LS;have LS:=Oi LS;clear LC o1 hb1;go_wp2_with fail;refine LS.out.mono ?_;rintro e w2 ⟨rfl,rfl⟩;go_wp2_with fail;go_ret;exact ⟨rfl,B1⟩
theorem vp {n:Int} {ch:List Int} {k:Nat} (h:ch.getD k 0+1<n):cq n ch (k+1)=(ch.set k (ch.getD k 0+1),true):=by rw [cq,if_pos h]
theorem xS {n:Int} {ch:List Int} {k:Nat} (h:¬ ch.getD k 0+1<n):cq n ch (k+1)=cq n (ch.set k 0) k:=by rw [cq,if_neg h]
theorem Ak {n:Nat} {ch:List Int} (h:kT n ch) (hn:1≤n) (k:Nat):kT n (ch.set k 0):=fun x hx=>by
 rcases List.mem_or_eq_of_mem_set hx with hx | hx
 · exact h x hx
 · subst hx;omega
theorem Aj {n:Nat} {ch:List Int} (h:kT n ch) {k:Nat} (hk:k<ch.length):0≤ch.getD k 0∧ch.getD k 0<n:=h _ (by simp [List.getD,List.getElem?_eq_getElem hk])
theorem Br {L k:Nat}:L ^ (k+1)=L ^ k * L:=Nat.pow_succ L k
theorem Mp {c:Cr} {N:Nat} (hN:c.U=N) (hp:c.ways.length ^ N≤4096):gj c=true:=by
 have:c.U.toNat=N:=by omega
 simp only [gj,this,decide_eq_true_eq];exact hp
theorem Mo {c:Cr} {N:Nat} (hN:c.U=N) (hp:4096<c.ways.length ^ N):gj c=false:=by
 have:c.U.toNat=N:=by omega
 simp only [gj,this,decide_eq_false_iff_not];omega
def oo (few:Bool) (M:Nat):Nat:=if few then M else 0
theorem oq (M:Nat):oo true M=M:=rfl
theorem DK (M:Nat):oo false M=0:=rfl
theorem Ed {L k:Nat} (hL:L≤8) (hk:k≤8):L ^ k≤16777216:=by
 calc L ^ k≤8 ^ k:=Nat.pow_le_pow_left hL k
   _≤8 ^ 8:=Nat.pow_le_pow_right (by omega) hk
theorem tG (S:Nat→World→Prop) (K0:Nat) (caps0:Array Value) (hK:∀ (args:Array Value) (w:World),(callFunc K0 args).run Tryz.prog w=.ok (.enter K0 args) w)
 (w:World) (N n:Nat) (a2:Option Addr) (c2:Nat) (x2:List Int) (a3:Option Addr) (c3:Nat) (x3:List Int) (hv:Valid ⟨N,n,x2,x3⟩)
 (hS:∀ t w1 w2,S t w1→w1.grownBy w2 (some (w.heap.size+1))→S t w2)
 (hdo:∀ t w1 c,S t w1→t<x2.length ^ N→w.heap.size+2≤w1.heap.size→Rd w1 w1.heap.size (some ⟨w.heap.size+1,0,none⟩) (ae (cE x2.length N t))→Calls Tryz.prog K0 (#[.slice (some ⟨w.heap.size+1,0,none⟩) N c] ++ caps0) w1 fun e w'=>e=.returned (.tuple #[])∧S (t+1) w'∧Touch w1 w' 0 w.heap.size)
 (hs:S 0 w) :
 Calls Tryz.prog 225 #[.agg #[.int .i64 N,.int .i64 n,.slice a2 x2.length c2,.slice a3 x3.length c3],.func (.func K0) #[] caps0] w fun e w'=>e=.returned (.bool (gj ⟨N,n,x2,x3⟩))∧S (oo (gj ⟨N,n,x2,x3⟩) (x2.length ^ N)) w':=by
 have hN8:N≤8:=by have:=hv.u8;simp only at this;omega
 have hN1:1≤N:=by have:=hv.u1;simp only at this;omega
 have hL8:x2.length≤8:=hv.w8;have hL1:1≤x2.length:=hv.w1;have HYes:Hid (x2.length ^ N≤4096→gj ⟨N,n,x2,x3⟩=true):=fun h=>Mp rfl h
 have HNo:Hid (4096<x2.length ^ N→gj ⟨N,n,x2,x3⟩=false):=fun h=>Mo rfl h
 have HS:=Oi hS;have HD:=Oi hdo;have HPw:=Oi (fun k (hk:k≤N)=>Ed (L:=x2.length) (k:=k) hL8 (by omega))
 have Hsp:=Oi (fun t ht=>mu hL1 N t ht)
 have Hln:=Oi (fun t=>fN x2.length N t)
 have KA:=Oi (Blk.new w [.int .i64 N,.int .i64 n,.slice a2 x2.length c2,.slice a3 x3.length c3] 30);have S1:Hid (S 0 (w.alloc (.cells #[.int .i64 N,.int .i64 n,.slice a2 x2.length c2,.slice a3 x3.length c3] 30))):=hS 0 w _ hs (dp (ai _ _) _);clear hS hdo hv hs;generalize gj ⟨(N:Int),(n:Int),x2,x3⟩=few at *
 go_enter Tryz.func225,Tryz.ntmps225;go_wp2_with fail
 go_loopw [10,5] (fun i m wr=>∃ (k P:Nat),k≤N∧i=.int .i64 k∧m=.int .i64 P∧Hid (P=x2.length ^ k)∧wr=w.alloc (.cells #[.int .i64 N,.int .i64 n,.slice a2 x2.length c2,.slice a3 x3.length c3] 30)) (fun i _ _=>N - (intOf i).toNat)
 case atStart=>exact ⟨0,1,Nat.zero_le _,rfl,rfl,rfl,rfl⟩
 case round =>
  obtain ⟨k,P,hk,rfl,rfl,hP,rfl⟩:=hrel
  by_cases hlt:k<N
  · have hPb:P≤16777216:=by rw [hP.out];exact HPw.out k hk
    have hm0:(0:Int)≤(P:Int) * (x2.length:Int):=Int.mul_nonneg (by omega) (by omega)
    have hmN:P * x2.length≤16777216 * 8:=Nat.mul_le_mul hPb hL8;have hm1:(P:Int) * (x2.length:Int)≤134217728:=by
     have:((P * x2.length:Nat):Int)=(P:Int) * (x2.length:Int):=by simp
     omega
    have hcast:Hid (((P * x2.length:Nat):Int)=(P:Int) * (x2.length:Int)):=by simp [Hid]
    have HP2:Hid (P * x2.length=x2.length ^ (k+1)):=by show _=_;rw [Br,hP.out]
    clear hmN hP;go_wp2_with fail;go_roundw
    case rel=>exact ⟨k+1,P * x2.length,by omega,by go_num,by rw [hcast.out],HP2,by first | trivial | rfl⟩
    case measure=>simp [intOf];omega
  · have:k=N:=by omega
    subst this;have hPb:P≤16777216:=by rw [hP.out];exact HPw.out k hk
    by_cases hgt:(4096:Int)<(P:Int)
    · have HF:=Oi (HNo.out (by rw [← hP.out];omega))
      have HS0:Hid (S (oo few (x2.length ^ k)) (w.alloc (.cells #[.int .i64 k,.int .i64 n,.slice a2 x2.length c2,.slice a3 x3.length c3] 30))):=by rw [HF.out,DK];exact S1.out
      clear hP HYes HNo;go_wp2_with fail;go_ret;exact ⟨ar HF.out.symm,HS0.out⟩
    · have HF:=Oi (HYes.out (by rw [← hP.out];omega))
      have HPN:=Oi hP.out;clear hP HYes HNo HPw
      go_wp2_with (at_make;refine ic _ rfl _ _ 24 rfl 2 (.int .i64 0) 8 Tryz.underlying24 aZ rfl _ _ k rfl rfl (by omega) (by unfold maxLen;omega) ?_)
      intro w2 hb2 hw2 hs2
      try simp at hs2
      try simp at hb2
      have KB:Hid (Blk w2 (w.heap.size+1) (ae (cE x2.length k 0)) 2):=by rw [cE,← gd];exact hb2
      have KA2:=Oi (KA.out.below hw2 (by omega))
      have S2:=Oi (HS.out 0 _ _ S1.out (dp (hw2.mono (by simp)) _))
      have hsz:w.heap.size+2≤w2.heap.size:=by omega
      clear hb2 hw2 hs2 S1 KA;go_wp2_with fail
      go_loopw [24] (fun i wr=>∃ t:Nat,t≤P∧i=.int .i64 t∧Hid (S t wr)∧Hid (Blk wr (w.heap.size+1) (ae (cE x2.length k t)) 2)∧Hid (Blk wr w.heap.size [.int .i64 k,.int .i64 n,.slice a2 x2.length c2,.slice a3 x3.length c3] 30)∧w.heap.size+2≤wr.heap.size) (fun i _=>P - (intOf i).toNat)
      case atStart=>exact ⟨0,Nat.zero_le _,rfl,S2.out,KB.out,KA2.out,hsz⟩
      case round =>
       clear S2 KB KA2 hsz;obtain ⟨t,ht,rfl,hSt,hG,hA,hsz⟩:=hrel
       by_cases htl:t<P
       · have htN:t<x2.length ^ k:=by rw [← HPN.out];exact htl
         have HD1:=Oi (HD.out t wr k hSt.out htN hsz (hG.out.rd (by omega)))
         have Hdg:=Oi (Hsp.out t htN).1;have Hcl:=Oi (Hln.out t);have Hnx:Hid (cE x2.length k (t+1)=(cq x2.length (cE x2.length k t) k).1):=rfl;have hk8:k≤8:=hN8;clear hSt htN;have hKK:=Oi hK;go_wp2_with fail;refine HD1.out.mono ?_;rintro e w3 ⟨rfl,hs3,ht3⟩;have hG3:=Oi (hG.out.touch ht3 (by omega))
         have hA3:=Oi (hA.out.touch ht3 (by omega))
         have hs3':=Oi hs3;have hsz3:w.heap.size+2≤w3.heap.size:=Nat.le_trans hsz ht3.size;clear HD1 hs3 ht3 hG hA hsz;generalize cE x2.length k t=ct at *
         go_wp2_with fail
         go_loopw [7] (fun i wi=>∃ (m:Nat) (j:Int) (cur:List Int),m≤k∧i=.int .i64 j∧Hid (j+1=(m:Int))∧Hid (cur.length=k)∧Hid (kT x2.length cur)∧Hid (cq x2.length ct k=cq x2.length cur m)∧Hid (Blk wi (w.heap.size+1) (ae cur) 2)∧Hid (Blk wi w.heap.size [.int .i64 k,.int .i64 n,.slice a2 x2.length c2,.slice a3 x3.length c3] 30)∧Hid (S (t+1) wi)∧w.heap.size+2≤wi.heap.size) (fun i _=>(intOf i+1).toNat)
         case atStart=>exact ⟨k,_,ct,Nat.le_refl _,rfl,by show _=_;omega,Hcl.out,Hdg.out,rfl,hG3.out,hA3.out,hs3'.out,hsz3⟩
         case round =>
          clear hG3 hA3 hs3' hsz3 Hdg Hcl;obtain ⟨m,j,cur,hm,rfl,hj,hcl,hd,hnx,hG,hA,hSi,hsz⟩:=hrel
          cases m with
          | zero =>
            have:j = -1:=by have:=hj.out;omega
            subst this;have HG4:Hid (Blk wr (w.heap.size+1) (ae (cE x2.length k (t+1))) 2):=by
             show Blk _ _ _ _
             rw [Hnx.out,hnx.out,cq];exact hG.out
            clear hnx hG hd;go_wp2_with fail;go_roundw
            case rel=>exact ⟨t+1,by omega,by go_num,hSi.out,HG4.out,hA.out,hsz⟩
            case measure=>simp [intOf];omega
          | succ m =>
            have:j=(m:Int):=by have:=hj.out;omega
            subst this;have hkc:m<cur.length:=by have:=hcl.out;omega
            have e1:=hG.out.at hkc;have f1:=hG.out.free m;obtain ⟨y0,y1⟩:=Aj hd.out hkc;have Hdz:=Oi (Ak hd.out hL1 m);have hlt:m<k:=by omega
            have q2:=(hA.out.oth (g:=w.heap.size+1) (by omega) m (.int .i64 (cur.getD m 0+1))).cell 2
            simp only [List.getElem?_cons_zero,List.getElem?_cons_succ] at q2
            by_cases hy:cur.getD m 0+1<(x2.length:Int)
            · have HF:Hid (cq x2.length ct k=(cur.set m (cur.getD m 0+1),true)):=hnx.out.trans (vp hy)
              have HG2:Hid (Blk (wr.setCell ⟨w.heap.size+1,m,none⟩ (.int .i64 (cur.getD m 0+1))) (w.heap.size+1) (ae (cE x2.length k (t+1))) 2):=by
               show Blk _ _ _ _
               rw [Hnx.out,HF.out];exact hG.out.setI m _
              have HA2:=Oi (hA.out.oth (g:=w.heap.size+1) (by omega) m (.int .i64 (cur.getD m 0+1)))
              have HS2:=Oi (HS.out _ _ _ hSi.out (da wr (w.heap.size+1) m (.int .i64 (cur.getD m 0+1))));have e2:=(hG.out.setI m (cur.getD m 0+1)).at (k:=m) (by rw [List.length_set];exact hkc)
              have hge:(cur.set m (cur.getD m 0+1)).getD m 0=cur.getD m 0+1:=gJ hkc _;rw [hge] at e2;have hsz2:w.heap.size+2≤(wr.setCell ⟨w.heap.size+1,m,none⟩ (.int .i64 (cur.getD m 0+1))).heap.size:=by simpa using hsz
              have Hsz2:=Oi hsz2;generalize cur.getD m 0=y at *
              clear hnx hG hd hkc hge hsz2 hSi hA;go_wp2_with fail
              go_quiet (fail)
              go_wp2_with fail;go_roundw
              case rel=>exact ⟨t+1,by omega,by go_num,HS.out _ _ _ HS2.out (by first | exact World.grownBy.refl _ _ | exact dp (ag (Below.refl _ _) _) _),HG2.out,HA2.out,Hsz2.out⟩
              case measure=>simp [intOf];omega
            · have HF:Hid (cq x2.length ct k=cq x2.length (cur.set m 0) m):=hnx.out.trans (xS hy)
              have hS0:=hG.out.setI m (cur.getD m 0+1);have f2:=hS0.free m;have e2:=hS0.at (k:=m) (by rw [List.length_set];exact hkc)
              have hge:(cur.set m (cur.getD m 0+1)).getD m 0=cur.getD m 0+1:=gJ hkc _;rw [hge] at e2;have HX:Hid (∀ d:Nat,Blk (((wr.setCell ⟨w.heap.size+1,m,none⟩ (.int .i64 (cur.getD m 0+1))).drewN d).setCell ⟨w.heap.size+1,m,none⟩ (.int .i64 0)) (w.heap.size+1) (ae (cur.set m 0)) 2):=fun d=>by
               have:=(hS0.drewN d).setI m 0;rwa [List.set_set] at this
              have HA2:Hid (∀ d:Nat,Blk (((wr.setCell ⟨w.heap.size+1,m,none⟩ (.int .i64 (cur.getD m 0+1))).drewN d).setCell ⟨w.heap.size+1,m,none⟩ (.int .i64 0)) w.heap.size [.int .i64 k,.int .i64 n,.slice a2 x2.length c2,.slice a3 x3.length c3] 30):=fun d=>((hA.out.oth (g:=w.heap.size+1) (by omega) m (.int .i64 (cur.getD m 0+1))).drewN d).oth (g:=w.heap.size+1) (by omega) m (.int .i64 0)
              have HS2:Hid (∀ d:Nat,S (t+1) (((wr.setCell ⟨w.heap.size+1,m,none⟩ (.int .i64 (cur.getD m 0+1))).drewN d).setCell ⟨w.heap.size+1,m,none⟩ (.int .i64 0))):=fun d =>
               HS.out _ _ _ (HS.out _ _ _ (HS.out _ _ _ hSi.out (da wr (w.heap.size+1) m (.int .i64 (cur.getD m 0+1)))) (dp (ag (Below.refl _ _) d) _)) (da _ (w.heap.size+1) m (.int .i64 0))
              have hcl2:Hid ((cur.set m 0).length=k):=by rw [Hid,List.length_set];exact hcl.out
              generalize cur.getD m 0=y at *
              clear hnx hG hd hkc hge hSi hA hS0;go_wp2_with fail
              go_quiet (fail)
              go_wp2_with fail;go_roundw
              case rel=>exact ⟨m,(m:Int) - 1,cur.set m 0,by omega,by go_num,by show _=_;omega,hcl2.out,Hdz.out,HF.out,HX.out _,HA2.out _,HS2.out _,by simpa using hsz⟩
              case measure=>simp [intOf]
       · have:t=P:=by omega
         subst this;have HST:Hid (S (oo few (x2.length ^ k)) wr):=by rw [HF.out,oq,← HPN.out];exact hSt.out
         clear hSt hG hA;go_wp2_with fail;go_ret;exact ⟨ar HF.out.symm,HST.out⟩
theorem iz {w:World} {base e n c:Nat} {a:Option Addr} {xs:List Value} (h:w.ownsRow base e 1 (.slice a n c) n xs) (hn:0<n):∃ g,a=some ⟨g,0,none⟩:=by
 rcases h.2 with ⟨_,h3⟩ | ⟨g,cap,cur,hv,_⟩
 · omega
 · injection hv with ha _ _;exact ⟨g,ha⟩
def rM:eb→Int
 | none=>0
 | some p=>p.2
def BestV (w:World) (base:Nat):eb→Value→Prop
 | none,v=>v=.slice none 0 0
 | some (l,_),v=>0<l.length∧∃ a c,v=.slice a l.length c∧w.ownsRow (base+2) 2 1 (.slice a l.length c) l.length (ae l)
structure ES (W:World) (base:Nat) (cs:List Value) (s:eb) (w:World):Prop where
 cr:Blk w W.heap.size cs 30
 be:∃ v,Blk w (W.heap.size+1) [v] 24∧BestV w base s v
 mo:Blk w (W.heap.size+2) [.int .i64 (rM s)] 2
 bel:Below W.heap.size W w
section
variable {W:World} {base:Nat} {cs:List Value} {s:eb} {w w':World}
theorem BestV.keep {v:Value} (h:BestV w base s v) {r:Option Nat} (hg:w.grownBy w' r) (hr:∀ k,r=some k→k<base+2):BestV w' base s v:=by
 cases s with
 | none=>exact h
 | some p =>
   obtain ⟨l,m⟩:=p;obtain ⟨h0,a,c,rfl,ho⟩:=h;refine ⟨h0,a,c,rfl,ho.kept hg ?_⟩
   cases hb:(Value.slice a l.length c).ownBlock with
   | none=>exact .inl rfl
   | some g =>
     refine .inr fun e=>?_
     have h1:=(ho.lt g hb).1;have h2:=hr g e.symm;omega
theorem ES.keep (h:ES W base cs s w) (hb:Below w.heap.size w w'):ES W base cs s w':=by
 obtain ⟨v,hv,hbv⟩:=h.be;exact ⟨h.cr.same hb,⟨v,hv.same hb,hbv.keep (dp hb none) (fun k hk=>by cases hk)⟩,h.mo.same hb,h.bel.trans (hb.mono h.bel.size)⟩
theorem ES.frame (h:ES W base cs s w) (hg:w.grownBy w' (some (base+1))) (hb:W.heap.size+3≤base):ES W base cs s w':=by
 obtain ⟨v,hv,hbv⟩:=h.be;exact ⟨h.cr.grown hg (by intro e;injection e;omega),⟨v,hv.grown hg (by intro e;injection e;omega),hbv.keep hg (fun k hk=>by injection hk;omega)⟩,h.mo.grown hg (by intro e;injection e;omega),h.bel.grown hg h.bel.size (fun q hq=>by injection hq with hq;omega)⟩
theorem ES.store (h:ES W base cs s w) (hb:W.heap.size+3≤base) {a:Option Addr} {c:Nat} {l:List Int} (h0:0<l.length) (ho:w.ownsRow (base+2) 2 1 (.slice a l.length c) l.length (ae l)) (t:Int) :
 ES W base cs (some (l,t)) ((w.setCell ⟨W.heap.size+1,0,none⟩ (.slice a l.length c)).setCell ⟨W.heap.size+2,0,none⟩ (.int .i64 t)):=by
 obtain ⟨v,hv,hbv⟩:=h.be;refine ⟨(h.cr.oth (by omega) _ _).oth (by omega) _ _,⟨.slice a l.length c,(hv.set 0 _).oth (by omega) _ _,h0,a,c,rfl,?_⟩,(h.mo.oth (g:=W.heap.size+1) (by omega) _ _).set 0 _,aw (aw h.bel (by omega) _ _) (by omega) _ _⟩
 have hne:∀ q,q<base+2→some q≠(Value.slice a l.length c).ownBlock:=fun q hq e=>by
  have:=(ho.lt q e.symm).1;omega
 have k1:=ho.kept (da w (W.heap.size+1) 0 (.slice a l.length c)) (.inr (fun e=>hne _ (by omega) e.symm))
 exact k1.kept (da _ (W.heap.size+2) 0 (.int .i64 t)) (.inr (fun e=>hne _ (by omega) e.symm))
theorem mr {w w3:World} (hb:Below w.heap.size w w3) {p q base:Nat} (hp:p<base) (hq:q<base) (u v:Value):Touch w ((w3.setCell ⟨p,0,none⟩ u).setCell ⟨q,0,none⟩ v) 0 base :=
 ((Below.touch hb 0 base).trans (Touch.of_grown (da w3 p 0 u) (Nat.zero_le _) hp)).trans (Touch.of_grown (da _ q 0 v) (Nat.zero_le _) hq)
end
theorem CK (args:Array Value) (w:World):(callFunc 226 args).run Tryz.prog w=.ok (.enter 226 args) w:=by kernel_rfl
theorem Gu (W:World) (base:Nat) (N n:Nat) (a2:Option Addr) (c2:Nat) (x2:List Int) (a3:Option Addr) (c3:Nat) (x3:List Int) (h0:RdCrowd W W.heap.size a2 x2 a3 x3) (hB:W.heap.size+3≤base)
 (s:eb) (ch:List Int) (w:World) (c:Nat) (hs:ES W base [.int .i64 N,.int .i64 n,.slice a2 x2.length c2,.slice a3 x3.length c3] s w) (hw:base+2≤w.heap.size) (hc:Can ⟨N,n,x2,x3⟩ ch) (g:Rd w w.heap.size (some ⟨base+1,0,none⟩) (ae ch)) :
 Calls Tryz.prog 226 #[.slice (some ⟨base+1,0,none⟩) ch.length c,.pointer (some ⟨W.heap.size,0,none⟩),.pointer (some ⟨W.heap.size+1,0,none⟩),.pointer (some ⟨W.heap.size+2,0,none⟩)] w
  fun e w'=>e=.returned (.tuple #[])∧ES W base [.int .i64 N,.int .i64 n,.slice a2 x2.length c2,.slice a3 x3.length c3] (dc ⟨N,n,x2,x3⟩ ch s) w'∧Touch w w' 0 base:=by
 have hU1:1≤ch.length:=by have:=hc.v.u1;have:=hc.len;simp only at *;omega
 have hU8:ch.length≤8:=by have:=hc.v.u8;have:=hc.len;simp only at *;omega
 have hR:RdCrowd w w.heap.size a2 x2 a3 x3:=(h0.below hs.bel (Nat.le_refl _)).mono hs.bel.size;have LB:=Oi (uO w N n a2 c2 x2 a3 c3 x3 (some ⟨base+1,0,none⟩) c ch hR g hc);have LT:=Oi (fun w' hb=>su w' N n a2 c2 x2 a3 c3 x3 (some ⟨base+1,0,none⟩) c ch (hR.to hb) (g.to hb) hc)
 have LCl:=Oi (fun w' hb=>eo w' (some ⟨base+1,0,none⟩) c ch (g.to hb) hU1 (by omega))
 have hen:=fun (w:World) (a:Option Addr) (n c:Nat)=>Lib.run_eql_slice_nil (P:=Tryz.prog) w 24 2 a n c 0 0 Tryz.underlying24
 have HS:=Oi hs;have q0:=hs.cr.cell 0;have q1:=hs.cr.cell 1;have q2:=hs.cr.cell 2;have q3:=hs.cr.cell 3;simp only [List.getElem?_cons_zero,List.getElem?_cons_succ] at q0 q1 q2 q3;have Hdf:Hid (∀ s',dc ⟨N,n,x2,x3⟩ ch s'=if (de ⟨N,n,x2,x3⟩ ch).isSome then s' else match s' with
  | none=>some (ch,cP ⟨N,n,x2,x3⟩ ch)
  | some (b,m)=>if m<cP ⟨N,n,x2,x3⟩ ch then some (ch,cP ⟨N,n,x2,x3⟩ ch) else some (b,m)):=fun s'=>rfl
 clear hs h0 hR g hc;generalize hst:dc ⟨(N:Int),(n:Int),x2,x3⟩ ch=ws at *
 clear hst;generalize hC:(⟨(N:Int),(n:Int),x2,x3⟩:Cr)=C at *
 clear hC;generalize cP C ch=tt at *
 cases hbf:de C ch with
 | some p =>
   have HE:Hid (ws s=s):=by show _=_;rw [Hdf.out,hbf];rfl
   simp only [hbf,bU,bK] at LB;clear hbf Hdf LT LCl;have hpos:(0:Int)≤(p.1:Int):=Int.natCast_nonneg _
   go_enter Tryz.func226,Tryz.ntmps226;go_wp2_with fail;refine LB.out.mono ?_;rintro e w1 ⟨rfl,hb1⟩;have HF:Hid (ES W base [.int .i64 N,.int .i64 n,.slice a2 x2.length c2,.slice a3 x3.length c3] (ws s) w1∧Touch w w1 0 base):=by
    rw [HE.out];exact ⟨HS.out.keep hb1,Below.touch hb1 0 base⟩
   clear hb1 LB;go_wp2_with fail
   first | go_end0 | (refine bodyPost_ret (results_none rfl _ _ _) rfl ?_)
   exact ⟨rfl,HF.out⟩
 | none =>
   simp only [hbf,bU,bK] at LB;have hN:Hid (ws none=some (ch,tt)):=by show _=_;rw [Hdf.out,hbf];rfl
   have hY:Hid (∀ b m,m<tt→ws (some (b,m))=some (ch,tt)):=fun b m hm=>by rw [Hdf.out,hbf];simp [hm]
   have hZ:Hid (∀ b m,¬ m<tt→ws (some (b,m))=some (b,m)):=fun b m hm=>by rw [Hdf.out,hbf];simp [hm]
   clear hbf Hdf;have HC:Hid (∀ s' w1,ES W base [.int .i64 N,.int .i64 n,.slice a2 x2.length c2,.slice a3 x3.length c3] s' w1→ws s'=some (ch,tt)→Below w.heap.size w w1→∀ a1 c1,w1.ownsRow (base+2) 2 1 (.slice a1 ch.length c1) ch.length (ae ch) →
    ES W base [.int .i64 N,.int .i64 n,.slice a2 x2.length c2,.slice a3 x3.length c3] (ws s') ((w1.setCell ⟨W.heap.size+1,0,none⟩ (.slice a1 ch.length c1)).setCell ⟨W.heap.size+2,0,none⟩ (.int .i64 tt))∧Touch w ((w1.setCell ⟨W.heap.size+1,0,none⟩ (.slice a1 ch.length c1)).setCell ⟨W.heap.size+2,0,none⟩ (.int .i64 tt)) 0 base):=fun s' w1 hs' he hb a1 c1 ho=>by
    rw [he];exact ⟨hs'.store hB (by omega) ho tt,mr hb (by omega) (by omega) _ _⟩
   cases s with
   | none =>
     go_enter Tryz.func226,Tryz.ntmps226;go_wp2_with fail;refine LB.out.mono ?_;rintro e w1 ⟨rfl,hb1⟩;have HS1:=Oi (HS.out.keep hb1);have k0:=HS1.out.cr.cell 0;have k1:=HS1.out.cr.cell 1;have k2:=HS1.out.cr.cell 2;have k3:=HS1.out.cr.cell 3;simp only [List.getElem?_cons_zero,List.getElem?_cons_succ] at k0 k1 k2 k3;clear LB q0 q1 q2 q3;go_wp2_with fail;refine (LT.out _ hb1).mono ?_;rintro e w2 ⟨rfl,hb2⟩;have B2:=aa hb1 hb2;have HS2:=Oi (HS1.out.keep hb2);obtain ⟨v,hv,hbv⟩:=HS2.out.be;have hv0:v=.slice none 0 0:=hbv;subst hv0;have e1:=hv.cell 0;have e2:=HS2.out.mo.cell 0;simp only [List.getElem?_cons_zero] at e1 e2;clear hv hbv hb2 hb1 HS1 k0 k1 k2 k3;go_wp2_with fail;refine (LCl.out _ B2).mono ?_;rintro e w3 ⟨a1,c1,rfl,o3,hb3⟩;have B3:=aa B2 hb3;have HS3:=HS2.out.keep hb3;obtain ⟨v,hv,hbv⟩:=HS3.be;have f1:=hv.free 0;have f2:=HS3.mo.free 0;have g1:=hv.cell 0;have g2:=HS3.mo.cell 0;simp only [List.getElem?_cons_zero] at g1 g2;have HF:=Oi (HC.out none w3 HS3 hN.out B3 a1 c1 (bS o3.1 (by have:=B2.size;omega)))
     clear o3 hb3 B3 HS3 hv hbv HS2 LCl;go_wp2_with fail
     go_end0
     exact ⟨rfl,HF.out⟩
   | some p =>
     obtain ⟨bl,m⟩:=p
     by_cases hm:m<tt
     · go_enter Tryz.func226,Tryz.ntmps226
       go_wp2_with fail;refine LB.out.mono ?_;rintro e w1 ⟨rfl,hb1⟩;have HS1:=Oi (HS.out.keep hb1);have k0:=HS1.out.cr.cell 0;have k1:=HS1.out.cr.cell 1;have k2:=HS1.out.cr.cell 2;have k3:=HS1.out.cr.cell 3;simp only [List.getElem?_cons_zero,List.getElem?_cons_succ] at k0 k1 k2 k3;clear LB q0 q1 q2 q3;go_wp2_with fail;refine (LT.out _ hb1).mono ?_;rintro e w2 ⟨rfl,hb2⟩;have B2:=aa hb1 hb2;have HS2:=Oi (HS1.out.keep hb2);obtain ⟨v,hv,hbv⟩:=HS2.out.be;obtain ⟨hbl,a',c',rfl,hob⟩:=hbv;obtain ⟨g',rfl⟩:=iz hob hbl;have e1:=hv.cell 0;have e2:w2.cell? ⟨W.heap.size+2,0,none⟩=some (.int .i64 m):=HS2.out.mo.cell 0;simp only [List.getElem?_cons_zero] at e1;clear hv hob hb2 hb1 HS1 k0 k1 k2 k3;go_wp2_with fail;refine (LCl.out _ B2).mono ?_;rintro e w3 ⟨a1,c1,rfl,o3,hb3⟩;have B3:=aa B2 hb3;have HS3:=HS2.out.keep hb3;obtain ⟨v,hv,hbv⟩:=HS3.be;have f1:=hv.free 0;have f2:=HS3.mo.free 0;have g1:=hv.cell 0;have g2:=HS3.mo.cell 0;simp only [List.getElem?_cons_zero] at g1 g2;have HF:=Oi (HC.out (some (bl,m)) w3 HS3 (hY.out bl m hm) B3 a1 c1 (bS o3.1 (by have:=B2.size;omega)))
       clear o3 hb3 B3 HS3 hv hbv HS2 LCl e1 e2;go_wp2_with fail
       go_end0
       exact ⟨rfl,HF.out⟩
     · go_enter Tryz.func226,Tryz.ntmps226
       go_wp2_with fail;refine LB.out.mono ?_;rintro e w1 ⟨rfl,hb1⟩;have HS1:=Oi (HS.out.keep hb1);have k0:=HS1.out.cr.cell 0;have k1:=HS1.out.cr.cell 1;have k2:=HS1.out.cr.cell 2;have k3:=HS1.out.cr.cell 3;simp only [List.getElem?_cons_zero,List.getElem?_cons_succ] at k0 k1 k2 k3;clear LB q0 q1 q2 q3;go_wp2_with fail;refine (LT.out _ hb1).mono ?_;rintro e w2 ⟨rfl,hb2⟩;have B2:=aa hb1 hb2;have HS2:=Oi (HS1.out.keep hb2);obtain ⟨v,hv,hbv⟩:=HS2.out.be;obtain ⟨hbl,a',c',rfl,hob⟩:=hbv;obtain ⟨g',rfl⟩:=iz hob hbl;have e1:=hv.cell 0;have e2:w2.cell? ⟨W.heap.size+2,0,none⟩=some (.int .i64 m):=HS2.out.mo.cell 0;simp only [List.getElem?_cons_zero] at e1;have HF:Hid (ES W base [.int .i64 N,.int .i64 n,.slice a2 x2.length c2,.slice a3 x3.length c3] (ws (some (bl,m))) w2∧Touch w w2 0 base):=by
        rw [hZ.out bl m hm];exact ⟨HS2.out,Below.touch B2 0 base⟩
       clear hv hob hb2 hb1 HS1 k0 k1 k2 k3 HS2;go_wp2_with fail
       first | go_end0 | (refine bodyPost_ret (results_none rfl _ _ _) rfl ?_)
       exact ⟨rfl,HF.out⟩
theorem CH (args:Array Value) (w:World):(callFunc 229 args).run Tryz.prog w=.ok (.enter 229 args) w:=by kernel_rfl
theorem Ff (W:World) (base:Nat) (N n:Nat) (a2:Option Addr) (c2:Nat) (x2:List Int) (a3:Option Addr) (c3:Nat) (x3:List Int) (h0:RdCrowd W W.heap.size a2 x2 a3 x3) (hB:W.heap.size+3≤base)
 (s:eb) (ch:List Int) (w:World) (c:Nat) (hs:ES W base [.int .i64 N,.int .i64 n,.slice a2 x2.length c2,.slice a3 x3.length c3] s w) (hw:base+2≤w.heap.size) (hc:Can ⟨N,n,x2,x3⟩ ch) (g:Rd w w.heap.size (some ⟨base+1,0,none⟩) (ae ch)) :
 Calls Tryz.prog 229 #[.slice (some ⟨base+1,0,none⟩) ch.length c,.pointer (some ⟨W.heap.size,0,none⟩),.pointer (some ⟨W.heap.size+1,0,none⟩),.pointer (some ⟨W.heap.size+2,0,none⟩)] w
  fun e w'=>e=.returned (.tuple #[])∧ES W base [.int .i64 N,.int .i64 n,.slice a2 x2.length c2,.slice a3 x3.length c3] (di ⟨N,n,x2,x3⟩ ch s) w'∧Touch w w' 0 base:=by
 have hU1:1≤ch.length:=by have:=hc.v.u1;have:=hc.len;simp only at *;omega
 have hU8:ch.length≤8:=by have:=hc.v.u8;have:=hc.len;simp only at *;omega
 have hR:RdCrowd w w.heap.size a2 x2 a3 x3:=(h0.below hs.bel (Nat.le_refl _)).mono hs.bel.size;have LT:=Oi (fun w' hb=>su w' N n a2 c2 x2 a3 c3 x3 (some ⟨base+1,0,none⟩) c ch (hR.to hb) (g.to hb) hc)
 have LCl:=Oi (fun w' hb=>eo w' (some ⟨base+1,0,none⟩) c ch (g.to hb) hU1 (by omega))
 have hen:=fun (w:World) (a:Option Addr) (n c:Nat)=>Lib.run_eql_slice_nil (P:=Tryz.prog) w 24 2 a n c 0 0 Tryz.underlying24
 have HS:=Oi hs;have q0:=hs.cr.cell 0;have q1:=hs.cr.cell 1;have q2:=hs.cr.cell 2;have q3:=hs.cr.cell 3;simp only [List.getElem?_cons_zero,List.getElem?_cons_succ] at q0 q1 q2 q3;have Hdf:Hid (∀ s',di ⟨N,n,x2,x3⟩ ch s'=match s' with
  | none=>some (ch,cP ⟨N,n,x2,x3⟩ ch)
  | some (b,m)=>if cP ⟨N,n,x2,x3⟩ ch<m then some (ch,cP ⟨N,n,x2,x3⟩ ch) else some (b,m)):=fun s'=>by cases s' <;> rfl
 clear hs h0 hR g hc;generalize hst:di ⟨(N:Int),(n:Int),x2,x3⟩ ch=ws at *
 clear hst;generalize hC:(⟨(N:Int),(n:Int),x2,x3⟩:Cr)=C at *
 clear hC;generalize cP C ch=tt at *
 have hN:Hid (ws none=some (ch,tt)):=by show _=_;rw [Hdf.out]
 have hY:Hid (∀ b m,tt<m→ws (some (b,m))=some (ch,tt)):=fun b m hm=>by rw [Hdf.out];simp [hm]
 have hZ:Hid (∀ b m,¬ tt<m→ws (some (b,m))=some (b,m)):=fun b m hm=>by rw [Hdf.out];simp [hm]
 clear Hdf;have HC:Hid (∀ s' w1,ES W base [.int .i64 N,.int .i64 n,.slice a2 x2.length c2,.slice a3 x3.length c3] s' w1→ws s'=some (ch,tt)→Below w.heap.size w w1→∀ a1 c1,w1.ownsRow (base+2) 2 1 (.slice a1 ch.length c1) ch.length (ae ch) →
  ES W base [.int .i64 N,.int .i64 n,.slice a2 x2.length c2,.slice a3 x3.length c3] (ws s') ((w1.setCell ⟨W.heap.size+1,0,none⟩ (.slice a1 ch.length c1)).setCell ⟨W.heap.size+2,0,none⟩ (.int .i64 tt))∧Touch w ((w1.setCell ⟨W.heap.size+1,0,none⟩ (.slice a1 ch.length c1)).setCell ⟨W.heap.size+2,0,none⟩ (.int .i64 tt)) 0 base):=fun s' w1 hs' he hb a1 c1 ho=>by
  rw [he];exact ⟨hs'.store hB (by omega) ho tt,mr hb (by omega) (by omega) _ _⟩
 cases s with
 | none =>
   go_enter Tryz.func229,Tryz.ntmps229;go_wp2_with fail;refine (LT.out _ (Below.refl _ _)).mono ?_;rintro e w2 ⟨rfl,hb2⟩;have B2:=hb2;have HS2:=Oi (HS.out.keep hb2);obtain ⟨v,hv,hbv⟩:=HS2.out.be;have hv0:v=.slice none 0 0:=hbv;subst hv0;have e1:=hv.cell 0;have e2:=HS2.out.mo.cell 0;simp only [List.getElem?_cons_zero] at e1 e2;clear hv hbv HS q0 q1 q2 q3;go_wp2_with fail;refine (LCl.out _ B2).mono ?_;rintro e w3 ⟨a1,c1,rfl,o3,hb3⟩;have B3:=aa B2 hb3;have HS3:=HS2.out.keep hb3;obtain ⟨v,hv,hbv⟩:=HS3.be;have f1:=hv.free 0;have f2:=HS3.mo.free 0;have g1:=hv.cell 0;have g2:=HS3.mo.cell 0;simp only [List.getElem?_cons_zero] at g1 g2;have HF:=Oi (HC.out none w3 HS3 hN.out B3 a1 c1 (bS o3.1 (by have:=B2.size;omega)))
   clear o3 hb3 B3 HS3 hv hbv HS2 LCl;go_wp2_with fail
   go_end0
   exact ⟨rfl,HF.out⟩
 | some p =>
   obtain ⟨bl,m⟩:=p
   by_cases hm:tt<m
   · go_enter Tryz.func229,Tryz.ntmps229
     go_wp2_with fail;refine (LT.out _ (Below.refl _ _)).mono ?_;rintro e w2 ⟨rfl,hb2⟩;have B2:=hb2;have HS2:=Oi (HS.out.keep hb2);obtain ⟨v,hv,hbv⟩:=HS2.out.be;obtain ⟨hbl,a',c',rfl,hob⟩:=hbv;obtain ⟨g',rfl⟩:=iz hob hbl;have e1:=hv.cell 0;have e2:w2.cell? ⟨W.heap.size+2,0,none⟩=some (.int .i64 m):=HS2.out.mo.cell 0;simp only [List.getElem?_cons_zero] at e1;clear hv hob HS q0 q1 q2 q3;go_wp2_with fail;refine (LCl.out _ B2).mono ?_;rintro e w3 ⟨a1,c1,rfl,o3,hb3⟩;have B3:=aa B2 hb3;have HS3:=HS2.out.keep hb3;obtain ⟨v,hv,hbv⟩:=HS3.be;have f1:=hv.free 0;have f2:=HS3.mo.free 0;have g1:=hv.cell 0;have g2:=HS3.mo.cell 0;simp only [List.getElem?_cons_zero] at g1 g2;have HF:=Oi (HC.out (some (bl,m)) w3 HS3 (hY.out bl m hm) B3 a1 c1 (bS o3.1 (by have:=B2.size;omega)))
     clear o3 hb3 B3 HS3 hv hbv HS2 LCl e1 e2;go_wp2_with fail
     go_end0
     exact ⟨rfl,HF.out⟩
   · go_enter Tryz.func229,Tryz.ntmps229
     go_wp2_with fail;refine (LT.out _ (Below.refl _ _)).mono ?_;rintro e w2 ⟨rfl,hb2⟩;have B2:=hb2;have HS2:=Oi (HS.out.keep hb2);obtain ⟨v,hv,hbv⟩:=HS2.out.be;obtain ⟨hbl,a',c',rfl,hob⟩:=hbv;obtain ⟨g',rfl⟩:=iz hob hbl;have e1:=hv.cell 0;have e2:w2.cell? ⟨W.heap.size+2,0,none⟩=some (.int .i64 m):=HS2.out.mo.cell 0;simp only [List.getElem?_cons_zero] at e1;have HF:Hid (ES W base [.int .i64 N,.int .i64 n,.slice a2 x2.length c2,.slice a3 x3.length c3] (ws (some (bl,m))) w2∧Touch w w2 0 base):=by
      rw [hZ.out bl m hm];exact ⟨HS2.out,Below.touch B2 0 base⟩
     clear hv hob HS q0 q1 q2 q3 HS2;go_wp2_with fail
     first | go_end0 | (refine bodyPost_ret (results_none rfl _ _ _) rfl ?_)
     exact ⟨rfl,HF.out⟩
end Go.Proofs.YtbknhgapjjaelaaGreatDoor
