/-
  Part 43 of what the proof stands on: lemmas and contracts, each with its conditions ahead of the colon.
-/
import Derived.Test.YtbknhgapjjaelaaGreatDoorPj01
import Derived.Test.YtbknhgapjjaelaaGreatDoorPj02
import Derived.Test.YtbknhgapjjaelaaGreatDoorPj07
import Derived.Test.YtbknhgapjjaelaaGreatDoorPj09
import Derived.Test.YtbknhgapjjaelaaGreatDoorPj12
import Derived.Test.YtbknhgapjjaelaaGreatDoorPj39
import Derived.Test.YtbknhgapjjaelaaGreatDoorPj42
set_option maxRecDepth 10000
set_option maxHeartbeats 8000000
namespace Go.Proofs.YtbknhgapjjaelaaGreatDoor
set_option linter.unusedVariables false
set_option linter.unusedSimpArgs false
open Go.RowKit
def NN (w:World) (B0 b:Nat) (a:Option Addr) (xs:List Int) (c q:Nat) (e:Ending) (w':World):Prop :=
 ∃ (l:List UInt8) (p':Nat),e=.returned (.string (bs l))∧gN l∧p'≤q∧DS w' B0 b a xs c p'∧Touch w w' b (b+1)
theorem lR (w:World) (B0 b:Nat) (a:Option Addr) (xs:List Int) (c p:Nat) (h:DS w B0 b a xs c p) (hp:p≤600000) (g n:Nat) (t:TypeId) (ss:List (List UInt8)) (hl:ss.length=n) (h1:1≤n) (h2:n≤100) (hg:b<g) (K:Blk w g (bF ss) t) :
 Calls Tryz.prog 61 #[.pointer (some ⟨b,0,none⟩),.slice (some ⟨g,0,none⟩) n n] w fun e w'=>∃ s p',e=.returned (.string (bs s))∧s∈ss∧p'≤p+1∧DS w' B0 b a xs c p'∧Touch w w' b (b+1):=by
 have L1:=Oi (dI w B0 b a xs c p n h (by omega) (by omega))
 have K0:=Oi K;clear h K
 go_enter Tryz.func61,Tryz.ntmps61;go_wp2_with fail;refine L1.out.mono ?_;rintro e w1 ⟨x,p1,rfl,⟨x0,x1⟩,hp1,D1,T1⟩;have K1:=K0.out.touch T1 (.inr (by omega))
 obtain ⟨m,rfl⟩:∃ m:Nat,x=(m:Int):=⟨x.toNat,by omega⟩;have hm:m<n:=by omega
 have hmi:(m:Int)<(n:Int):=by omega
 have hms:m<ss.length:=by omega
 have c0:w1.cell? ⟨g,m,none⟩=some (.string (bs ss[m])):=by
  rw [K1.cell m];unfold bF;rw [List.getElem?_map,List.getElem?_eq_getElem hms]
  rfl
 have HI:=Oi (List.getElem_mem hms);have HD:=Oi D1;have HT:=Oi T1;generalize ss[m]=s at *
 clear L1 K0 D1 T1 K1;go_wp2_with fail;go_ret;exact ⟨s,p1,rfl,HI.out,hp1,HD.out,HT.out⟩
theorem CF (w:World) (B0 b:Nat) (a:Option Addr) (xs:List Int) (c p:Nat) (h:DS w B0 b a xs c p) (hp:p≤800000) :
 Calls Tryz.prog 66 #[.pointer (some ⟨b,0,none⟩)] w fun e w'=>∃ (l:List Int) (p':Nat),e=.returned (.string (bs (aJ l)))∧(l.length≤4∧∀ y∈l,0≤y∧y≤2)∧p'≤p+6∧DS w' B0 b a xs c p'∧Touch w w' b (b+1):=by
 have hbw:=h.lt;have B0':=ai w (.cells #[] 2);have L0:=Oi (dI _ B0 b a xs c p 4 (h.same B0') (by omega) (by omega))
 have O0:=Oi (bz w 2);have T0:=Oi (Below.touch B0' b (b+1));clear h B0'
 go_enter Tryz.func66,Tryz.ntmps66;go_wp2_with fail;refine L0.out.mono ?_;rintro e w0 ⟨n0,p0,rfl,⟨z0,z1⟩,hp0,D0,U0⟩;obtain ⟨n,hn⟩:∃ n:Nat,1+n0=(n:Int):=⟨(1+n0).toNat,by omega⟩;have hn5:1≤n∧n≤4:=by omega
 have HN5:=Oi hn5;have z4:n0≤3:=by omega
 have D0:=Oi D0;have s0:=U0.size;have O0':=Oi (aP O0.out (cI U0) hbw);have T0':=Oi (T0.out.trans U0);have hws0:w.heap.size≤w0.heap.size:=T0'.out.size;have HN:=Oi hn;have nn:(n:Int)≤4:=by omega
 clear L0 O0 T0 U0 z1 hn5 s0 hn
 go_upto_region 3 with fail
 go_loopw [4,3] (fun iv v wr=>∃ (k m:Nat) (a':Option Addr) (c':Nat) (l:List Int) (p':Nat),iv=.int .i64 k∧v=.slice a' m c'∧Hid (m+k=n)∧(k:Int)≤4∧Hid (l.length=m∧∀ y∈l,0≤y∧y≤2)∧Hid (wr.ownsRow w.heap.size 2 1 (.slice a' m c') m (ae l))∧Hid (p'≤p+1+m)∧Hid (DS wr B0 b a xs c p')∧Touch w wr b (b+1)) (fun iv _ _=>(intOf iv).toNat)
 case atStart=>exact ⟨n,0,_,_,[],p0,by rw [HN.out],rfl,by rw [Hid];omega,nn,⟨rfl,by simp⟩,O0'.out,hp0,D0.out,T0'.out⟩
 case round =>
  clear D0 O0' T0';obtain ⟨k,m,a',c',l,p',rfl,rfl,hmk,hk,hL,hO,hpp,hD,hw⟩:=hrel;have k0:(0:Int)≤(k:Int):=Int.natCast_nonneg _;have hws:=hw.size
  by_cases hz:0<k
  · have hzi:(0:Int)<(k:Int):=by omega
    have L:=Oi (dI wr B0 b a xs c p' 3 hD.out (by have:=hpp.out;have:=hmk.out;have:=HN5.out;omega) (by omega))
    have HW:=Oi hw;clear hD hw;go_wp2_with fail;refine L.out.mono ?_;rintro e w1 ⟨x,q,rfl,⟨x0,x1⟩,hq,D1,T1⟩;have D1:=Oi D1;have W1:=Oi (HW.out.trans T1);have O1:=Oi (aP hO.out (cI T1) hbw);have s1:=T1.size;have hx3:x≤2:=by omega
    have hq2:Hid (q≤p+1+(m+1)):=by rw [Hid];have:=hpp.out;omega
    have hm2:m≤100:=by have:=hmk.out;have:=HN5.out;omega
    clear T1 L hO HW hq x1
    go_wp2_with (at_builtin;refine aH _ rfl _ _ 24 rfl w.heap.size 2 (.int .i64 0) 8 Tryz.underlying24 xJ rfl _ m _ rfl O1.out _ rfl rfl (by omega) (by omega) (by omega) ?_)
    intro v' w' ho hgr;obtain ⟨a2,c2,rfl,_⟩:=ba ho;have hb:=ah (Below.refl w.heap.size w1) O1.out hgr (Nat.le_refl _) (by omega)
    have D2:=Oi (D1.out.touch (es hb) hbw);have W2:=Oi (jP W1.out hb);have HO2:Hid (w'.ownsRow w.heap.size 2 1 (.slice a2 (m+1) c2) (m+1) (ae (l ++ [x]))):=by rw [bk];exact ho
    have HL2:Hid ((l ++ [x]).length=m+1∧∀ y∈l ++ [x],0≤y∧y≤2):=by
     refine ⟨by simp [hL.out.1],fun y hy=>?_⟩
     rcases List.mem_append.1 hy with hy | hy
     · exact hL.out.2 y hy
     · simp at hy;omega
    clear ho hgr hb D1 W1 O1 hL;go_wp2_with fail;go_roundw
    case rel=>exact ⟨k - 1,m+1,a2,c2,l ++ [x],q,by go_num,rfl,by have:=hmk.out;rw [Hid];omega,by omega,HL2.out,HO2.out,hq2.out,D2.out,W2.out⟩
    case measure=>first | (simp [intOf];done) | (simp [intOf];omega)
  · have:k=0:=by omega
    subst this;have hmn:m=n:=hmk.out;have hlm:=hL.out.1;subst hlm;have HOI:Hid (OwnI 2 wr w.heap.size wr.heap.size a' c' l):=OwnI.of_own hO.out;have HL5:Hid (l.length≤4):=by rw [hmn];exact HN5.out.2
    have HLB:=Oi hL.out.2;have HPP:Hid (p'≤p+6):=by have:=hpp.out;have:=HL5.out;rw [Hid];omega
    have LT:=Oi (fu wr a' c' l (HOI.out.rd.mono (Nat.le_refl _)) (by have:=HL5.out;omega) (fun x hx=>by have:=HLB.out x hx;omega))
    have HW:=Oi hw;clear hO hL hmk hw hpp hmn hz;go_wp2_with fail;refine LT.out.mono ?_;rintro e w2 ⟨rfl,hb2⟩;have D2:=Oi (hD.out.same hb2);have W2:=Oi (HW.out.trans (Below.touch hb2 b (b+1)));clear hb2 hD HW LT;go_wp2_with fail;go_ret;exact ⟨l,p',rfl,⟨HL5.out,HLB.out⟩,HPP.out,D2.out,W2.out⟩
theorem fx (w:World) (g j:Nat) (u:Value):Touch w (w.setCell ⟨g,j,none⟩ u) g (g+1) :=
 Touch.of_grown (show w.grownBy (w.setCell ⟨g,j,none⟩ u) (some g) from ⟨rfl,rfl,rfl,by simp,fun i _ hi=>Below.heap_setCell _ _ _ _ (fun e=>hi (by simp [e]))⟩) (Nat.le_refl _) (Nat.lt_succ_self _)
theorem kD {w w1 w2:World} {b lo hi:Nat} (h:Touch w w1 b (b+1)) (ht:Touch w1 w2 lo hi) (hlo:w.heap.size≤lo):Touch w w2 b (b+1) :=
 ⟨ht.os.trans h.os,ht.tape.trans h.tape,ht.output.trans h.output,Nat.le_trans h.size ht.size,fun k hk hd=>(ht.block k (by have:=h.size;omega) (by omega)).trans (h.block k hk hd)⟩
theorem yc {w:World} {base e n c:Nat} {l:List Value} {a:Option Addr} (h:w.ownsRow base e 1 (.slice a n c) n l) (hn:1≤n):∃ g,a=some ⟨g,0,none⟩∧base≤g∧g<w.heap.size:=by
 obtain ⟨hl,h | ⟨g',cap,cur,hv,hb,hh,_⟩⟩:=h
 · omega
 · injection hv with ha _ _
   exact ⟨g',ha,hb,lt_of_block hh⟩
structure DC1 (w wX:World) (B0 b:Nat) (a:Option Addr) (xs:List Int) (c p g u n:Nat) (aW:Option Addr) (cW:Nat) (lW:List Int):Prop where
 T:Touch w wX b (b+1)
 D:DS wX B0 b a xs c p
 R:Blk wX w.heap.size [.int .i64 0,.int .i64 0,.slice none 0 0,.slice none 0 0] 30
 V:Blk wX g [.int .i64 u,.int .i64 n,.slice aW lW.length cW,.slice none 0 0] 30
 W:wX.ownsRow (g+1) 2 1 (.slice aW lW.length cW) lW.length (ae lW)
structure DC2 (w wX:World) (B0 b:Nat) (a:Option Addr) (xs:List Int) (c p g tC u n:Nat) (aW:Option Addr) (cW:Nat) (lW:List Int) (aC:Option Addr) (cC:Nat) (lC:List Int):Prop where
 T:Touch w wX b (b+1)
 D:DS wX B0 b a xs c p
 R:Blk wX w.heap.size [.int .i64 0,.int .i64 0,.slice none 0 0,.slice none 0 0] 30
 V:Blk wX g [.int .i64 u,.int .i64 n,.slice aW lW.length cW,.slice aC lC.length cC] 30
 W:OwnI 2 wX (g+1) tC aW cW lW
 C:wX.ownsRow tC 2 1 (.slice aC lC.length cC) lC.length (ae lC)
section
variable {w wX wY w5:World} {B0 b c p p' g tC u n cW cC g5 c5:Nat} {a aW aC:Option Addr} {xs lW lC:List Int}
theorem DC1.draw (h:DC1 w wX B0 b a xs c p g u n aW cW lW) (hb:b<w.heap.size) (hg:w.heap.size<g) (ht:Touch wX wY b (b+1)) (hd:DS wY B0 b a xs c p'):DC1 w wY B0 b a xs c p' g u n aW cW lW :=
 ⟨h.T.trans ht,hd,h.R.touch ht (.inr (by omega)),h.V.touch ht (.inr (by omega)),aP h.W (cI ht) (by omega)⟩
theorem DC2.draw (h:DC2 w wX B0 b a xs c p g tC u n aW cW lW aC cC lC) (hb:b<w.heap.size) (hg:w.heap.size<g) (hC:g<tC) (ht:Touch wX wY b (b+1)) (hd:DS wY B0 b a xs c p'):DC2 w wY B0 b a xs c p' g tC u n aW cW lW aC cC lC :=
 ⟨h.T.trans ht,hd,h.R.touch ht (.inr (by omega)),h.V.touch ht (.inr (by omega)),h.W.touch ht (.inr (by omega)),aP h.C (cI ht) (by omega)⟩
theorem DC1.snoc {x:Int} (h:DC1 w wX B0 b a xs c p g u n aW cW lW) (hb:b<w.heap.size) (hg:w.heap.size<g) (hgX:g<wX.heap.size) (hB:Below (g+1) wX w5)
 (ho:w5.ownsRow (g+1) 2 1 (.slice (some ⟨g5,0,none⟩) (lW.length+1) c5) (lW.length+1) (ae lW ++ [.int .i64 x])) :
 DC1 w (w5.setCell ⟨g,2,none⟩ (.slice (some ⟨g5,0,none⟩) (lW.length+1) c5)) B0 b a xs c p g u n (some ⟨g5,0,none⟩) c5 (lW ++ [x]):=by
 have t5:=es hB;have ts:=fx w5 g 2 (.slice (some ⟨g5,0,none⟩) (lW.length+1) c5);have V5:=h.V.touch t5 (.inl (by omega))
 refine ⟨kD (kD h.T t5 (by omega)) ts (by omega),(h.D.touch t5 (by omega)).touch ts (by omega),(h.R.touch t5 (.inl (by omega))).touch ts (.inl hg),?_,?_⟩
 · have:=V5.set 2 (.slice (some ⟨g5,0,none⟩) (lW.length+1) c5)
   rw [List.length_append];exact this
 · rw [List.length_append,bk];exact aP ho (cI ts) (by omega)
theorem DC2.snoc {x:Int} (h:DC2 w wX B0 b a xs c p g tC u n aW cW lW aC cC lC) (hb:b<w.heap.size) (hg:w.heap.size<g) (hC:g<tC) (hgX:tC≤wX.heap.size) (hB:Below tC wX w5)
 (ho:w5.ownsRow tC 2 1 (.slice (some ⟨g5,0,none⟩) (lC.length+1) c5) (lC.length+1) (ae lC ++ [.int .i64 x])) :
 DC2 w (w5.setCell ⟨g,3,none⟩ (.slice (some ⟨g5,0,none⟩) (lC.length+1) c5)) B0 b a xs c p g tC u n aW cW lW (some ⟨g5,0,none⟩) c5 (lC ++ [x]):=by
 have t5:=es hB;have ts:=fx w5 g 3 (.slice (some ⟨g5,0,none⟩) (lC.length+1) c5);have V5:=h.V.touch t5 (.inl (by omega))
 refine ⟨kD (kD h.T t5 (by omega)) ts (by omega),(h.D.touch t5 (by omega)).touch ts (by omega),(h.R.touch t5 (.inl (by omega))).touch ts (.inl hg),?_,(h.W.touch t5 (.inl (Nat.le_refl _))).touch ts (.inr (by omega)),?_⟩
 · have:=V5.set 3 (.slice (some ⟨g5,0,none⟩) (lC.length+1) c5)
   rw [List.length_append];exact this
 · rw [List.length_append,bk];exact aP ho (cI ts) (by omega)
end
def Gy (w:World) (B0 b:Nat) (a:Option Addr) (xs:List Int) (c q:Nat) (u n:Nat) (e:Ending) (w':World):Prop :=
 ∃ (aW:Option Addr) (cW:Nat) (lW:List Int) (aC:Option Addr) (cC:Nat) (lC:List Int) (p':Nat),e=.returned (.agg #[.int .i64 u,.int .i64 n,.slice aW lW.length cW,.slice aC lC.length cC])∧(1≤lW.length∧lW.length≤4)∧(∀ x∈lW,1≤x∧x≤2 ^ n - 1)∧lC.length=n * u∧(∀ x∈lC,-20≤x∧x≤30) ∧
  (∃ m,(w.heap.size≤m∧m≤w'.heap.size)∧OwnI 2 w' w.heap.size m aW cW lW∧OwnI 2 w' m w'.heap.size aC cC lC)∧p'≤q∧DS w' B0 b a xs c p'∧Touch w w' b (b+1)
theorem Al (w:World) (B0 b:Nat) (a:Option Addr) (xs:List Int) (c p u n m:Nat) (h:DS w B0 b a xs c p) (hp:p≤700000) (u0:1≤u) (u4:u≤4) (n0:1≤n) (n4:n≤4) (m0:1≤m) (m4:m≤4) :
 Calls Tryz.prog 95 #[.pointer (some ⟨b,0,none⟩),.int .i64 u,.int .i64 n,.int .i64 m] w (Gy w B0 b a xs c (p+30) u n):=by
 have hbw:=h.lt;obtain ⟨N,hN⟩:∃ N,N=2 ^ n:=⟨_,rfl⟩;have N2:2≤N∧N≤16:=by
  have:n=1∨n=2∨n=3∨n=4:=by omega
  rcases this with rfl | rfl | rfl | rfl <;> subst hN <;> decide
 obtain ⟨N2,N16⟩:=N2;have eW:wrap64 (2 ^ n)=(N:Int):=by
  have:(2:Int) ^ n=(N:Int):=by rw [hN];exact (Int.natCast_pow 2 n).symm
  rw [this];unfold wrap64;omega
 have HN:Hid ((2:Int) ^ n=(N:Int)):=by rw [hN];exact (Int.natCast_pow 2 n).symm
 clear hN;have B0':=cd w (.cells #[.int .i64 0,.int .i64 0,.slice none 0 0,.slice none 0 0] 30) (.cells #[.int .i64 u,.int .i64 n,.slice none 0 0,.slice none 0 0] 30);have V0:Hid (DC1 w ((w.alloc (.cells #[.int .i64 0,.int .i64 0,.slice none 0 0,.slice none 0 0] 30)).alloc (.cells #[.int .i64 u,.int .i64 n,.slice none 0 0,.slice none 0 0] 30)) B0 b a xs c p (w.heap.size+1) u n none 0 []):=by
  refine ⟨Below.touch B0' b (b+1),h.same B0',(Blk.new w [.int .i64 0,.int .i64 0,.slice none 0 0,.slice none 0 0] 30).same (ai _ _),?_,World.ownsRow_nil _ _ _ _⟩
  have:=Blk.new (w.alloc (.cells #[.int .i64 0,.int .i64 0,.slice none 0 0,.slice none 0 0] 30)) [.int .i64 u,.int .i64 n,.slice none 0 0,.slice none 0 0] 30;rw [World.size_alloc] at this;exact this
 have ui:(u:Int)≤4:=by omega
 have ni:(n:Int)≤4:=by omega
 have mi:(m:Int)≤4:=by omega
 clear h B0'
 go_enter Tryz.func95,Tryz.ntmps95;go_wp2_with fail;obtain ⟨g,hg⟩:∃ g,g=w.heap.size+1:=⟨_,rfl⟩;rw [← hg] at V0 ⊢;have hgw:w.heap.size<g:=by omega
 have hg1:g<((w.alloc (.cells #[.int .i64 0,.int .i64 0,.slice none 0 0,.slice none 0 0] 30)).alloc (.cells #[.int .i64 u,.int .i64 n,.slice none 0 0,.slice none 0 0] 30)).heap.size:=by simp;omega
 clear hg
 go_loopw [3] (fun kv wr=>∃ (k p':Nat) (aW:Option Addr) (cW:Nat) (l:List Int),kv=.int .i64 k∧Hid (l.length+k=m)∧(k:Int)≤4∧Hid (p'≤p+l.length)∧Hid (∀ x∈l,1≤x∧x≤(N:Int) - 1)∧Hid (DC1 w wr B0 b a xs c p' g u n aW cW l)∧g<wr.heap.size) (fun kv _=>(intOf kv).toNat)
 case atStart=>exact ⟨m,p,none,0,[],rfl,by rw [Hid];simp,mi,by rw [Hid];simp,fun x hx=>by simp at hx,V0.out,hg1⟩
 case round =>
  clear V0 hg1;obtain ⟨k,p',aW,cW,l,rfl,hl,hk4,hpp,hx,hD,hgr⟩:=hrel;have k0:(0:Int)≤(k:Int):=Int.natCast_nonneg _;have hl4:l.length≤4:=by have:=hl.out;omega
  by_cases hz:0<k
  · have hzi:(0:Int)<(k:Int):=by omega
    have L1:=Oi (dI wr B0 b a xs c p' ((N:Int) - 1) hD.out.D (by have:=hpp.out;omega) (by omega))
    go_wp2_with fail;refine L1.out.mono ?_;rintro e w2 ⟨y,p2,rfl,⟨y0,y1⟩,hp2,D2,T2⟩;have D2:=Oi (hD.out.draw hbw hgw T2 D2);have s2:=T2.size;have y14:y≤16:=by omega
    have HY:Hid (1≤1+y∧1+y≤(N:Int) - 1):=by rw [Hid];omega
    have k1:w2.cell? ⟨g,2,none⟩=some (.slice aW l.length cW):=D2.out.V.cell 2;have z1:=D2.out.V.free 2;have O9:=Oi D2.out.W;clear L1 T2 y1 hD
    go_wp2_with (at_builtin;refine aH _ rfl _ _ 24 rfl (g+1) 2 (.int .i64 0) 8 Tryz.underlying24 aZ rfl _ l.length _ rfl O9.out _ rfl rfl (by omega) (by omega) (by omega) ?_)
    intro v' w5 ho hgr5;obtain ⟨a5,c5,rfl,_⟩:=ba ho;obtain ⟨g5,rfl,_,_⟩:=yc ho (by omega)
    have hb5:=ah (Below.refl (g+1) w2) O9.out hgr5 (Nat.le_refl _) (by omega)
    have D5:=Oi (D2.out.snoc (x:=1+y) hbw hgw (by omega) hb5 ho)
    have k5:=(D2.out.V.below hb5 (by omega)).cell 2
    have z5:=(D2.out.V.below hb5 (by omega)).free 2
    have s5:=hb5.size;have HP5:Hid (p2≤p+(l ++ [1+y]).length):=by have:=hpp.out;rw [Hid];simp;omega
    have HL5:Hid ((l ++ [1+y]).length+(k - 1)=m):=by have:=hl.out;rw [Hid];simp;omega
    have HX5:Hid (∀ x∈l ++ [1+y],1≤x∧x≤(N:Int) - 1):=fun x hx'=>by
     rcases List.mem_append.1 hx' with h | h
     · exact hx.out x h
     · simp at h;subst h;exact HY.out
    have hg5:g<(w5.setCell ⟨g,2,none⟩ (.slice (some ⟨g5,0,none⟩) (l.length+1) c5)).heap.size:=by simp;omega
    simp only [List.getElem?_cons_succ,List.getElem?_cons_zero] at k5;clear ho hgr5 k1 z1 O9 D2 hb5;go_wp2_with fail;go_roundw
    case rel=>exact ⟨k - 1,p2,some ⟨g5,0,none⟩,c5,l ++ [1+y],by go_num,HL5.out,by omega,HP5.out,HX5.out,D5.out,hg5⟩
    case measure=>first | (simp [intOf];done) | (simp [intOf];omega)
  · have:k=0:=by omega
    subst this;have HLm:Hid (l.length=m):=by have:=hl.out;rw [Hid];omega
    obtain ⟨wW,hwW⟩:∃ W:World,W=wr:=⟨_,rfl⟩;rw [← hwW] at hD hgr ⊢;clear hwW hl;obtain ⟨tC,htC⟩:∃ t,t=wW.heap.size:=⟨_,rfl⟩;have tCle:tC≤wW.heap.size:=by omega
    have hgC:g<tC:=by omega
    have HD2:Hid (DC2 w wW B0 b a xs c p' g tC u n aW cW l none 0 []):=by
     refine ⟨hD.out.T,hD.out.D,hD.out.R,hD.out.V,?_,World.ownsRow_nil _ _ _ _⟩
     rw [htC];exact OwnI.of_own hD.out.W
    clear htC hD;obtain ⟨lW,hlW⟩:∃ x,x=l:=⟨_,rfl⟩;rw [← hlW] at HD2 hx HLm hpp;subst hlW;have hpq:p'≤p+4:=by have:=hpp.out;omega
    go_wp2_with fail;rw [show ((0:Nat):Int)=0 from rfl]
    go_loopw [11] (fun rv wr=>∃ (r q:Nat) (aC:Option Addr) (cC:Nat) (lC:List Int),r≤n∧rv=.int .i64 r∧Hid (lC.length=r * u)∧Hid (q≤p+4+6 * r)∧Hid (∀ x∈lC,-20≤x∧x≤30)∧Hid (DC2 w wr B0 b a xs c q g tC u n aW cW lW aC cC lC)∧tC≤wr.heap.size) (fun rv _=>n - (intOf rv).toNat)
    case atStart=>exact ⟨0,p',none,0,[],Nat.zero_le _,rfl,by rw [Hid];simp,by rw [Hid];omega,fun x hx=>by simp at hx,HD2.out,tCle⟩
    case round =>
     clear HD2 tCle;obtain ⟨r,q,aC,cC,lC,hr,rfl,hlC,hq,hxC,hD,hgr⟩:=hrel;obtain ⟨wo,hwo⟩:∃ W:World,W=wr:=⟨_,rfl⟩;subst hwo
     by_cases hrn:r<n
     · have hri:(r:Int)<(n:Int):=by omega
       have r0:(0:Int)≤(r:Int):=Int.natCast_nonneg _;have L1:=Oi (dI wo B0 b a xs c q 6 hD.out.D (by have:=hq.out;omega) (by omega))
       have hru:r * u≤3 * 4:=Nat.mul_le_mul (by omega) u4
       have hl16:lC.length≤12:=by have:=hlC.out;omega
       go_wp2_with fail;refine L1.out.mono ?_;rintro e w2 ⟨y,q2,rfl,⟨y0,y1⟩,hq2,D2,T2⟩;have D2:=Oi (hD.out.draw hbw hgw hgC T2 D2);have s2:=T2.size;have y5:y≤5:=by omega
       have HQ2:Hid (q2≤p+4+6 * r+1):=by have:=hq.out;rw [Hid];omega
       have hg2:tC≤w2.heap.size:=by omega
       have HL2:Hid (lC.length=r * u+0):=by have:=hlC.out;rw [Hid];omega
       clear L1 T2 y1 hD hq hq2 hlC;go_wp2_with fail
       go_loopw [12,13] (fun cv kv wr=>∃ (k q':Nat) (y:Int) (aC:Option Addr) (cC:Nat) (lC:List Int),k≤u∧kv=.int .i64 k∧cv=.int .i64 y∧-(k:Int)≤y∧y≤5+3 * (k:Int)∧Hid (lC.length=r * u+k)∧Hid (q'≤p+4+6 * r+1+k)∧Hid (∀ x∈lC,-20≤x∧x≤30)∧Hid (DC2 w wr B0 b a xs c q' g tC u n aW cW lW aC cC lC)∧tC≤wr.heap.size) (fun _ kv _=>u - (intOf kv).toNat)
       case atStart=>exact ⟨0,q2,y,aC,cC,lC,Nat.zero_le _,rfl,rfl,by omega,by omega,HL2.out,HQ2.out,hxC.out,D2.out,hg2⟩
       case round =>
        clear D2 HL2 HQ2 hxC hg2 hl16;obtain ⟨k,q',y',aC,cC,lC,hk,rfl,rfl,yl,yh,hlC,hq,hxC,hD,hgr⟩:=hrel;have k0:(0:Int)≤(k:Int):=Int.natCast_nonneg _
        by_cases hku:k<u
        · have hki:(k:Int)<(u:Int):=by omega
          have hl16:lC.length≤16:=by have:=hlC.out;omega
          have k1:wr.cell? ⟨g,3,none⟩=some (.slice aC lC.length cC):=hD.out.V.cell 3;have z1:=hD.out.V.free 3;have O9:=Oi hD.out.C
          go_wp2_with (at_builtin;refine aH _ rfl _ _ 24 rfl tC 2 (.int .i64 0) 8 Tryz.underlying24 aZ rfl _ lC.length _ rfl O9.out _ rfl rfl (by omega) (by omega) hgr ?_)
          intro v' w5 ho hgr5;obtain ⟨a5,c5,rfl,_⟩:=ba ho;obtain ⟨g5,rfl,_,_⟩:=yc ho (by omega)
          have hb5:=ah (Below.refl tC wr) O9.out hgr5 (Nat.le_refl _) hgr;have D5:=Oi (hD.out.snoc (x:=y') hbw hgw hgC hgr hb5 ho);have k5:=(hD.out.V.below hb5 hgC).cell 3;have z5:=(hD.out.V.below hb5 hgC).free 3;have s5:=hb5.size;have L2:=Oi (dI _ B0 b a xs c q' 5 D5.out.D (by have:=hq.out;omega) (by omega))
          have HX5:Hid (∀ x∈lC ++ [y'],-20≤x∧x≤30):=fun x hx'=>by
           rcases List.mem_append.1 hx' with h | h
           · exact hxC.out x h
           · simp at h;subst h;omega
          have hg5:tC≤(w5.setCell ⟨g,3,none⟩ (.slice (some ⟨g5,0,none⟩) (lC.length+1) c5)).heap.size:=by simp;omega
          have HL5:Hid ((lC ++ [y']).length=r * u+(k+1)):=by have:=hlC.out;rw [Hid];simp;omega
          simp only [List.getElem?_cons_succ,List.getElem?_cons_zero] at k5;clear ho hgr5 k1 z1 O9 hD hb5;go_wp2_with fail;refine L2.out.mono ?_;rintro e w6 ⟨z,q6,rfl,⟨z0,z1⟩,hq6,D6,T6⟩;have D6:=Oi (D5.out.draw hbw hgw hgC T6 D6);have s6:=T6.size;have z4:z≤4:=by omega
          have HQ6:Hid (q6≤p+4+6 * r+1+(k+1)):=by have:=hq.out;rw [Hid];omega
          have hg6:tC≤w6.heap.size:=by omega
          clear L2 D5 T6 z1 k5 z5;go_wp2_with fail;go_roundw
          case rel=>exact ⟨k+1,q6,y'+(z - 1),some ⟨g5,0,none⟩,c5,lC ++ [y'],by omega,by go_num,by go_num,by omega,by omega,HL5.out,HQ6.out,HX5.out,D6.out,hg6⟩
          case measure=>first | (simp [intOf];done) | (simp [intOf];omega)
        · obtain rfl:k=u:=by omega
          have HL5:Hid (lC.length=(r+1) * k):=by have:=hlC.out;rw [Hid,Nat.add_mul];omega
          have HQ5:Hid (q'≤p+4+6 * (r+1)):=by have:=hq.out;rw [Hid];omega
          clear hlC hq;go_wp2_with fail;go_roundw
          case rel=>exact ⟨r+1,q',aC,cC,lC,by omega,by go_num,HL5.out,HQ5.out,hxC.out,hD.out,hgr⟩
          case measure=>first | (simp [intOf];done) | (simp [intOf];omega)
     · obtain rfl:r=n:=by omega
       have k0:wo.cell? ⟨g,0,none⟩=some (.int .i64 u):=hD.out.V.cell 0;have k1:wo.cell? ⟨g,1,none⟩=some (.int .i64 r):=hD.out.V.cell 1;have k2:wo.cell? ⟨g,2,none⟩=some (.slice aW lW.length cW):=hD.out.V.cell 2;have k3:wo.cell? ⟨g,3,none⟩=some (.slice aC lC.length cC):=hD.out.V.cell 3;have y0:wo.cell? ⟨w.heap.size,0,none⟩=some (.int .i64 0):=hD.out.R.cell 0;have y1:wo.cell? ⟨w.heap.size,1,none⟩=some (.int .i64 0):=hD.out.R.cell 1;have y2:wo.cell? ⟨w.heap.size,2,none⟩=some (.slice none 0 0):=hD.out.R.cell 2;have y3:wo.cell? ⟨w.heap.size,3,none⟩=some (.slice none 0 0):=hD.out.R.cell 3;have f0:=hD.out.R.free 0;have f1:=hD.out.R.free 1;have f2:=hD.out.R.free 2;have f3:=hD.out.R.free 3;go_wp2_with fail;obtain ⟨wz,hwz⟩:∃ Y,Y=(((wo.setCell ⟨w.heap.size,0,none⟩ (.int .i64 u)).setCell ⟨w.heap.size,1,none⟩ (.int .i64 r)).setCell ⟨w.heap.size,2,none⟩ (.slice aW lW.length cW)).setCell ⟨w.heap.size,3,none⟩ (.slice aC lC.length cC):=⟨_,rfl⟩;have KZ:Blk wz w.heap.size [.int .i64 u,.int .i64 r,.slice aW lW.length cW,.slice aC lC.length cC] 30:=by rw [hwz];exact (((hD.out.R.set 0 (.int .i64 u)).set 1 (.int .i64 r)).set 2 (.slice aW lW.length cW)).set 3 (.slice aC lC.length cC)
       have TZ:Touch wo wz w.heap.size (w.heap.size+1):=by rw [hwz];exact (((fx wo w.heap.size 0 (.int .i64 u)).trans (fx _ w.heap.size 1 (.int .i64 r))).trans (fx _ w.heap.size 2 (.slice aW lW.length cW))).trans (fx _ w.heap.size 3 (.slice aC lC.length cC))
       have OWZ:=hD.out.W.touch TZ (.inr (by omega))
       have OCZ:OwnI 2 wz tC wz.heap.size aC cC lC:=OwnI.of_own (aP hD.out.C (cI TZ) (by omega))
       have DZ:=hD.out.D.touch TZ hbw;have TT:=kD hD.out.T TZ (Nat.le_refl _);have sZ:=TZ.size;rw [← hwz];clear hwz y0 y1 y2 y3;have y0:wz.cell? ⟨w.heap.size,0,none⟩=some (.int .i64 u):=KZ.cell 0;have y1:wz.cell? ⟨w.heap.size,1,none⟩=some (.int .i64 r):=KZ.cell 1;have y2:wz.cell? ⟨w.heap.size,2,none⟩=some (.slice aW lW.length cW):=KZ.cell 2;have y3:wz.cell? ⟨w.heap.size,3,none⟩=some (.slice aC lC.length cC):=KZ.cell 3;refine bodyPost_ret (v:=.agg #[.int .i64 u,.int .i64 r,.slice aW lW.length cW,.slice aC lC.length cC]) (by simp [results,Tryz.results95,go_sem,y0,y1,y2,y3]) rfl ?_
       exact ⟨aW,cW,lW,aC,cC,lC,q,rfl,by rw [HLm.out];omega,fun x hx'=>by rw [HN.out];exact hx.out x hx',hlC.out,hxC.out,⟨tC,⟨by omega,by omega⟩,OWZ.mono (by omega) (Nat.le_refl _),OCZ⟩,by have:=hq.out;omega,DZ,TT⟩
def Od (w:World) (B0 b:Nat) (a:Option Addr) (xs:List Int) (c q:Nat) (e:Ending) (w':World):Prop :=
 ∃ u n:Nat,(1≤u∧u≤4)∧(1≤n∧n≤4)∧Gy w B0 b a xs c q u n e w'
theorem EU (w:World) (B0 b:Nat) (a:Option Addr) (xs:List Int) (c p:Nat) (h:DS w B0 b a xs c p) (hp:p≤600000) :
 Calls Tryz.prog 57 #[.pointer (some ⟨b,0,none⟩)] w (Od w B0 b a xs c (p+40)):=by
 have hbw:=h.lt;have B0':=ai w (.cells #[.int .i64 0,.int .i64 0,.slice none 0 0,.slice none 0 0] 30);have KR0:=Oi (Blk.new w [.int .i64 0,.int .i64 0,.slice none 0 0,.slice none 0 0] 30);have T0:=Oi (Below.touch B0' b (b+1));have L1:=Oi (dI _ B0 b a xs c p 4 (h.same B0') (by omega) (by omega))
 clear h B0'
 go_enter Tryz.func57,Tryz.ntmps57;go_wp2_with fail;refine L1.out.mono ?_;rintro e w1 ⟨x,p1,rfl,⟨x0,x1⟩,hp1,D1,T1⟩;obtain ⟨u,hu⟩:∃ u:Nat,1+x=(u:Int):=⟨(1+x).toNat,by omega⟩;have KR1:=Oi (KR0.out.touch T1 (.inr (by omega)))
 have s1:=T1.size;rw [World.size_alloc] at s1;have T1':=Oi (T0.out.trans T1);have L2:=Oi (dI w1 B0 b a xs c p1 4 D1 (by omega) (by omega))
 have hu4:1≤u∧u≤4:=by omega
 have x3:x≤3:=by omega
 clear L1 KR0 T0 D1 T1 x1;go_wp2_with fail;refine L2.out.mono ?_;rintro e w2 ⟨y,p2,rfl,⟨y0,y1⟩,hp2,D2,T2⟩;obtain ⟨n,hn⟩:∃ n:Nat,1+y=(n:Int):=⟨(1+y).toNat,by omega⟩;have KR2:=Oi (KR1.out.touch T2 (.inr (by omega)))
 have s2:=T2.size;have T2':=Oi (T1'.out.trans T2);have L3:=Oi (dI w2 B0 b a xs c p2 4 D2 (by omega) (by omega))
 have hn4:1≤n∧n≤4:=by omega
 have y3:y≤3:=by omega
 clear L2 KR1 D2 T2 T1' y1;go_wp2_with fail;refine L3.out.mono ?_;rintro e w3 ⟨z,p3,rfl,⟨z0,z1⟩,hp3,D3,T3⟩;obtain ⟨m,hm⟩:∃ m:Nat,1+z=(m:Int):=⟨(1+z).toNat,by omega⟩;have KR3:=Oi (KR2.out.touch T3 (.inr (by omega)))
 have s3:=T3.size;have T3':=Oi (T2'.out.trans T3);have L4:=Oi (Al w3 B0 b a xs c p3 u n m D3 (by omega) hu4.1 hu4.2 hn4.1 hn4.2 (by omega) (by omega))
 have z3:z≤3:=by omega
 have HU:=Oi hu4;have HN:=Oi hn4;clear L3 KR2 D3 T3 T2' z1 hu4 hn4;go_wp2_with fail;refine L4.out.mono ?_;rintro e w4 ⟨aW,cW,lW,aC,cC,lC,p4,rfl,hl1,hl2,hl3,hl4,⟨mm,hmm,oW,oC⟩,hp4,D4,T4⟩;have KR4:=Oi (KR3.out.touch T4 (.inr (by omega)))
 have s4:=T4.size;have T4':=Oi (T3'.out.trans T4);have OW:=Oi oW;have OC:=Oi oC;have H1:=Oi hl1;have H2:=Oi hl2;have H3:=Oi hl3;have H4:=Oi hl4;have HM:=Oi hmm;have D4:=Oi D4;clear L4 KR3 T4 T3' oW oC hl1 hl2 hl3 hl4 hmm hu hn hm;have y0':w4.cell? ⟨w.heap.size,0,none⟩=some (.int .i64 0):=KR4.out.cell 0;have y1':w4.cell? ⟨w.heap.size,1,none⟩=some (.int .i64 0):=KR4.out.cell 1;have y2':w4.cell? ⟨w.heap.size,2,none⟩=some (.slice none 0 0):=KR4.out.cell 2;have y3':w4.cell? ⟨w.heap.size,3,none⟩=some (.slice none 0 0):=KR4.out.cell 3;have f0:=KR4.out.free 0;have f1:=KR4.out.free 1;have f2:=KR4.out.free 2;have f3:=KR4.out.free 3;go_wp2_with fail;obtain ⟨wz,hwz⟩:∃ Y,Y=(((w4.setCell ⟨w.heap.size,0,none⟩ (.int .i64 u)).setCell ⟨w.heap.size,1,none⟩ (.int .i64 n)).setCell ⟨w.heap.size,2,none⟩ (.slice aW lW.length cW)).setCell ⟨w.heap.size,3,none⟩ (.slice aC lC.length cC):=⟨_,rfl⟩;have KZ:Blk wz w.heap.size [.int .i64 u,.int .i64 n,.slice aW lW.length cW,.slice aC lC.length cC] 30:=by rw [hwz];exact (((KR4.out.set 0 (.int .i64 u)).set 1 (.int .i64 n)).set 2 (.slice aW lW.length cW)).set 3 (.slice aC lC.length cC)
 have TZ:Touch w4 wz w.heap.size (w.heap.size+1):=by rw [hwz];exact (((fx w4 w.heap.size 0 (.int .i64 u)).trans (fx _ w.heap.size 1 (.int .i64 n))).trans (fx _ w.heap.size 2 (.slice aW lW.length cW))).trans (fx _ w.heap.size 3 (.slice aC lC.length cC))
 obtain ⟨hm1,hm2⟩:=HM.out;have OWZ:=OW.out.touch TZ (.inr (by omega))
 have OCZ:=OC.out.touch TZ (.inr (by omega))
 have DZ:=D4.out.touch TZ hbw;have TT:=kD T4'.out TZ (Nat.le_refl _);have sZ:=TZ.size;rw [← hwz];clear hwz y0' y1' y2' y3';have y0':wz.cell? ⟨w.heap.size,0,none⟩=some (.int .i64 u):=KZ.cell 0;have y1':wz.cell? ⟨w.heap.size,1,none⟩=some (.int .i64 n):=KZ.cell 1;have y2':wz.cell? ⟨w.heap.size,2,none⟩=some (.slice aW lW.length cW):=KZ.cell 2;have y3':wz.cell? ⟨w.heap.size,3,none⟩=some (.slice aC lC.length cC):=KZ.cell 3;refine bodyPost_ret (v:=.agg #[.int .i64 u,.int .i64 n,.slice aW lW.length cW,.slice aC lC.length cC]) (by simp [results,Tryz.results57,go_sem,y0',y1',y2',y3']) rfl ?_
 exact ⟨u,n,HU.out,HN.out,aW,cW,lW,aC,cC,lC,p4,rfl,H1.out,H2.out,H3.out,H4.out,⟨mm,⟨by omega,by omega⟩,OWZ.mono (by omega) (Nat.le_refl _),OCZ.mono (Nat.le_refl _) sZ⟩,by omega,DZ,TT⟩
end Go.Proofs.YtbknhgapjjaelaaGreatDoor
