/-
  Part 19 of what the proof stands on: lemmas and contracts, each with its conditions ahead of the colon.
-/
import Derived.BigQuiet
import Derived.Test.YtbknhgapjjaelaaGreatDoorPj01
import Derived.Test.YtbknhgapjjaelaaGreatDoorPj18
set_option maxRecDepth 10000
set_option maxHeartbeats 8000000
namespace Go.Proofs.YtbknhgapjjaelaaGreatDoor
set_option linter.unusedVariables false
set_option linter.unusedSimpArgs false
open Go.RowKit
theorem xL {c:Cr} (h:bu c=false):jl c=none:=by simp [jl,h]
theorem yK {c:Cr} (h:bu c=false):jq c=none:=by simp [jq,h]
theorem vb {c:Cr} (h:gj c=false):jl c=none:=by simp [jl,h]
theorem wj {c:Cr} (h:gj c=false):jq c=none:=by simp [jq,h]
theorem vc {c:Cr} (h:bu c=true) (h2:gj c=true):jl c=dM c.ways.length c.U.toNat (di c) (c.ways.length ^ c.U.toNat):=by simp [jl,h,h2]
theorem wk {c:Cr} (h:bu c=true) (h2:gj c=true):jq c=dM c.ways.length c.U.toNat (dc c) (c.ways.length ^ c.U.toNat):=by simp [jq,h,h2]
theorem tP {c:Cr} (h:Valid c):(dM c.ways.length c.U.toNat (di c) (c.ways.length ^ c.U.toNat)).isSome:=by
 obtain ⟨t,ht⟩:∃ t,c.ways.length ^ c.U.toNat=t+1:=⟨c.ways.length ^ c.U.toNat - 1,by have:=Es h;omega⟩;rw [ht];exact vd
theorem ES.ret {W:World} {base:Nat} {cs:List Value} {l:List Int} {m:Int} {w:World} (h:ES W base cs (some (l,m)) w) (hb:W.heap.size≤base) :
 ∃ g c,w.cell? ⟨W.heap.size+1,0,none⟩=some (.slice (some ⟨g,0,none⟩) l.length c)∧w.cell? ⟨W.heap.size+2,0,none⟩=some (.int .i64 m)∧RetT 2 W (some (l,m)) (.returned (.tuple #[.slice (some ⟨g,0,none⟩) l.length c,.int .i64 m,.bool true])) w:=by
 obtain ⟨v,hv,h0,a,c,rfl,ho⟩:=h.be;obtain ⟨g,rfl⟩:=iz ho h0;exact ⟨g,c,hv.cell 0,h.mo.cell 0,h.bel,_,_,rfl,bS ho (by omega)⟩
theorem rN {U R:Int} {x2 x3:List Int} (hv:Valid ⟨U,R,x2,x3⟩):∃ N n:Nat,U=N∧R=n:=⟨U.toNat,R.toNat,by have:=hv.u1;simp only at this;omega,by have:=hv.r1;simp only at this;omega⟩
theorem ES.start {w w1:World} {cs:List Value} (hb:Below (((w.alloc (.cells cs.toArray 30)).alloc (.cells #[.slice none 0 0] 24)).alloc (.cells #[.int .i64 0] 2)).heap.size (((w.alloc (.cells cs.toArray 30)).alloc (.cells #[.slice none 0 0] 24)).alloc (.cells #[.int .i64 0] 2)) w1) :
 ES w w1.heap.size cs none w1∧w.heap.size+3≤w1.heap.size:=by
 have k0:=(((Blk.new w cs 30).alloc (.cells #[.slice none 0 0] 24)).alloc (.cells #[.int .i64 0] 2)).same hb;have k1:=((Blk.new (w.alloc (.cells cs.toArray 30)) [.slice none 0 0] 24).alloc (.cells #[.int .i64 0] 2)).same hb;have k2:=(Blk.new ((w.alloc (.cells cs.toArray 30)).alloc (.cells #[.slice none 0 0] 24)) [.int .i64 0] 2).same hb;simp at k1 k2
 refine ⟨⟨k0,⟨_,k1,rfl⟩,k2,aa (tD _ _ _ _) hb⟩,?_⟩
 have:=hb.size;simp at this
 omega
theorem Hu (w:World) (U R:Int) (a2:Option Addr) (c2:Nat) (x2:List Int) (a3:Option Addr) (c3:Nat) (x3:List Int) (h:RdCrowd w w.heap.size a2 x2 a3 x3) (hl2:x2.length≤1048576) (hl3:x3.length≤1048576) :
 Calls Tryz.prog 182 #[.agg #[.int .i64 U,.int .i64 R,.slice a2 x2.length c2,.slice a3 x3.length c3]] w (RetT 2 w (jl ⟨U,R,x2,x3⟩)):=by
 have LV:=Oi (fun w' hb=>dJ w' U R a2 c2 x2 a3 c3 x3 (h.to hb) hl2 hl3)
 have hen:=fun (w:World) (a:Option Addr) (n c:Nat)=>Lib.run_eql_slice_nil (P:=Tryz.prog) w 24 2 a n c 0 0 Tryz.underlying24
 cases t1:bu ⟨U,R,x2,x3⟩ with
 | false =>
   rw [xL t1];rw [t1] at LV;clear h t1
   go_enter Tryz.func182,Tryz.ntmps182;go_wp2_with fail;refine (LV.out _ (tD _ _ _ _)).mono ?_;rintro e w1 ⟨rfl,hb1⟩;have B1:=aa (tD w _ _ _) hb1;clear hb1;go_wp2_with fail;go_ret3;exact RetT.no B1
 | true =>
   rw [t1] at LV;have hv:=em t1;obtain ⟨N,n,rfl,rfl⟩:=rN hv;have LP:Hid (∀ w1:World,ES w w1.heap.size [.int .i64 N,.int .i64 n,.slice a2 x2.length c2,.slice a3 x3.length c3] none w1∧w.heap.size+3≤w1.heap.size →
    Calls Tryz.prog 225 #[.agg #[.int .i64 N,.int .i64 n,.slice a2 x2.length c2,.slice a3 x3.length c3],.func (.func 229) #[] #[.pointer (some ⟨w.heap.size,0,none⟩),.pointer (some ⟨w.heap.size+1,0,none⟩),.pointer (some ⟨w.heap.size+2,0,none⟩)]] w1
     fun e w'=>e=.returned (.bool (gj ⟨N,n,x2,x3⟩))∧ES w w1.heap.size [.int .i64 N,.int .i64 n,.slice a2 x2.length c2,.slice a3 x3.length c3] (dM x2.length N (di ⟨N,n,x2,x3⟩) (oo (gj ⟨N,n,x2,x3⟩) (x2.length ^ N))) w'):=fun w1 hs=>by
    refine tG (fun t w'=>ES w w1.heap.size [.int .i64 N,.int .i64 n,.slice a2 x2.length c2,.slice a3 x3.length c3] (dM x2.length N (di ⟨N,n,x2,x3⟩) t) w') _ _ CH w1 N n a2 c2 x2 a3 c3 x3 hv ?_ ?_ hs.1
    · intro t v1 v2 k hg
      exact k.frame hg hs.2
    · intro t v1 c k ht hsz g
      have hch:(cE x2.length N t).length=N:=fN _ _ _;have:=Ff w w1.heap.size N n a2 c2 x2 a3 c3 x3 h hs.2 (dM x2.length N (di ⟨N,n,x2,x3⟩) t) (cE x2.length N t) v1 c k hsz (uh hv ht) g;rw [hch] at this;exact this
   cases hf:gj ⟨N,n,x2,x3⟩ with
   | false =>
     rw [vb hf];rw [hf] at LP;clear h t1 hv hf
     go_enter Tryz.func182,Tryz.ntmps182;go_wp2_with fail;refine (LV.out _ (tD _ _ _ _)).mono ?_;rintro e w1 ⟨rfl,hb1⟩;have HS:=Oi (ES.start (cs:=[.int .i64 N,.int .i64 n,.slice a2 x2.length c2,.slice a3 x3.length c3]) hb1);have q0:=HS.out.1.cr.cell 0;have q1:=HS.out.1.cr.cell 1;have q2:=HS.out.1.cr.cell 2;have q3:=HS.out.1.cr.cell 3;simp only [List.getElem?_cons_zero,List.getElem?_cons_succ] at q0 q1 q2 q3;clear hb1 LV;go_wp2_with fail
     first | go_outline | skip
     refine (LP.out _ HS.out).mono ?_;rintro e w2 ⟨rfl,hQ⟩;have B2:=hQ.bel;clear hQ q0 q1 q2 q3;go_wp2_with fail;go_ret3;exact RetT.no B2
   | true =>
     rw [vc t1 hf];rw [hf] at LP;have hsome:=tP hv;simp only [Int.toNat_natCast] at hsome;rw [oq] at LP;simp only [Int.toNat_natCast];generalize dM x2.length N (di ⟨(N:Int),(n:Int),x2,x3⟩) (x2.length ^ N)=r at *
     cases r with
     | none=>cases hsome
     | some p =>
     obtain ⟨l,m⟩:=p;clear h t1 hv hf hsome
     go_enter Tryz.func182,Tryz.ntmps182;go_wp2_with fail;refine (LV.out _ (tD _ _ _ _)).mono ?_;rintro e w1 ⟨rfl,hb1⟩;have HS:=Oi (ES.start (cs:=[.int .i64 N,.int .i64 n,.slice a2 x2.length c2,.slice a3 x3.length c3]) hb1);have q0:=HS.out.1.cr.cell 0;have q1:=HS.out.1.cr.cell 1;have q2:=HS.out.1.cr.cell 2;have q3:=HS.out.1.cr.cell 3;simp only [List.getElem?_cons_zero,List.getElem?_cons_succ] at q0 q1 q2 q3;clear hb1 LV;go_wp2_with fail
     first | go_outline | skip
     refine (LP.out _ HS.out).mono ?_;rintro e w2 ⟨rfl,hQ⟩;obtain ⟨g,c,e1,e2,hR⟩:=hQ.ret (by have:=HS.out.2;omega)
     have HR:=Oi hR;clear hQ q0 q1 q2 q3 hR;go_wp2_with fail
     go_quiet (fail)
     go_wp2_with fail;go_ret3;exact ⟨ag HR.out.1 _,HR.out.2⟩
theorem JA (w:World) (U R:Int) (a2:Option Addr) (c2:Nat) (x2:List Int) (a3:Option Addr) (c3:Nat) (x3:List Int) (h:RdCrowd w w.heap.size a2 x2 a3 x3) (hl2:x2.length≤1048576) (hl3:x3.length≤1048576) :
 Calls Tryz.prog 181 #[.agg #[.int .i64 U,.int .i64 R,.slice a2 x2.length c2,.slice a3 x3.length c3]] w (RetT 2 w (jq ⟨U,R,x2,x3⟩)):=by
 have LV:=Oi (fun w' hb=>dJ w' U R a2 c2 x2 a3 c3 x3 (h.to hb) hl2 hl3)
 have hen:=fun (w:World) (a:Option Addr) (n c:Nat)=>Lib.run_eql_slice_nil (P:=Tryz.prog) w 24 2 a n c 0 0 Tryz.underlying24
 cases t1:bu ⟨U,R,x2,x3⟩ with
 | false =>
   rw [yK t1];rw [t1] at LV;clear h t1
   go_enter Tryz.func181,Tryz.ntmps181;go_wp2_with fail;refine (LV.out _ (tD _ _ _ _)).mono ?_;rintro e w1 ⟨rfl,hb1⟩;have B1:=aa (tD w _ _ _) hb1;clear hb1;go_wp2_with fail;go_ret3;exact RetT.no B1
 | true =>
   rw [t1] at LV;have hv:=em t1;obtain ⟨N,n,rfl,rfl⟩:=rN hv;have LP:Hid (∀ w1:World,ES w w1.heap.size [.int .i64 N,.int .i64 n,.slice a2 x2.length c2,.slice a3 x3.length c3] none w1∧w.heap.size+3≤w1.heap.size →
    Calls Tryz.prog 225 #[.agg #[.int .i64 N,.int .i64 n,.slice a2 x2.length c2,.slice a3 x3.length c3],.func (.func 226) #[] #[.pointer (some ⟨w.heap.size,0,none⟩),.pointer (some ⟨w.heap.size+1,0,none⟩),.pointer (some ⟨w.heap.size+2,0,none⟩)]] w1
     fun e w'=>e=.returned (.bool (gj ⟨N,n,x2,x3⟩))∧ES w w1.heap.size [.int .i64 N,.int .i64 n,.slice a2 x2.length c2,.slice a3 x3.length c3] (dM x2.length N (dc ⟨N,n,x2,x3⟩) (oo (gj ⟨N,n,x2,x3⟩) (x2.length ^ N))) w'):=fun w1 hs=>by
    refine tG (fun t w'=>ES w w1.heap.size [.int .i64 N,.int .i64 n,.slice a2 x2.length c2,.slice a3 x3.length c3] (dM x2.length N (dc ⟨N,n,x2,x3⟩) t) w') _ _ CK w1 N n a2 c2 x2 a3 c3 x3 hv ?_ ?_ hs.1
    · intro t v1 v2 k hg
      exact k.frame hg hs.2
    · intro t v1 c k ht hsz g
      have hch:(cE x2.length N t).length=N:=fN _ _ _;have:=Gu w w1.heap.size N n a2 c2 x2 a3 c3 x3 h hs.2 (dM x2.length N (dc ⟨N,n,x2,x3⟩) t) (cE x2.length N t) v1 c k hsz (uh hv ht) g;rw [hch] at this;exact this
   cases hf:gj ⟨N,n,x2,x3⟩ with
   | false =>
     rw [wj hf];rw [hf] at LP;clear h t1 hv hf
     go_enter Tryz.func181,Tryz.ntmps181;go_wp2_with fail;refine (LV.out _ (tD _ _ _ _)).mono ?_;rintro e w1 ⟨rfl,hb1⟩;have HS:=Oi (ES.start (cs:=[.int .i64 N,.int .i64 n,.slice a2 x2.length c2,.slice a3 x3.length c3]) hb1);have q0:=HS.out.1.cr.cell 0;have q1:=HS.out.1.cr.cell 1;have q2:=HS.out.1.cr.cell 2;have q3:=HS.out.1.cr.cell 3;simp only [List.getElem?_cons_zero,List.getElem?_cons_succ] at q0 q1 q2 q3;clear hb1 LV;go_wp2_with fail
     first | go_outline | skip
     refine (LP.out _ HS.out).mono ?_;rintro e w2 ⟨rfl,hQ⟩;have B2:=hQ.bel;clear hQ q0 q1 q2 q3;go_wp2_with fail;go_ret3;exact RetT.no B2
   | true =>
     rw [wk t1 hf];rw [hf] at LP;have hsome:=wn hv;simp only [Int.toNat_natCast] at hsome;rw [oq] at LP;simp only [Int.toNat_natCast];generalize dM x2.length N (dc ⟨(N:Int),(n:Int),x2,x3⟩) (x2.length ^ N)=r at *
     cases r with
     | none=>cases hsome
     | some p =>
     obtain ⟨l,m⟩:=p;clear h t1 hv hf hsome
     go_enter Tryz.func181,Tryz.ntmps181;go_wp2_with fail;refine (LV.out _ (tD _ _ _ _)).mono ?_;rintro e w1 ⟨rfl,hb1⟩;have HS:=Oi (ES.start (cs:=[.int .i64 N,.int .i64 n,.slice a2 x2.length c2,.slice a3 x3.length c3]) hb1);have q0:=HS.out.1.cr.cell 0;have q1:=HS.out.1.cr.cell 1;have q2:=HS.out.1.cr.cell 2;have q3:=HS.out.1.cr.cell 3;simp only [List.getElem?_cons_zero,List.getElem?_cons_succ] at q0 q1 q2 q3;clear hb1 LV;go_wp2_with fail
     first | go_outline | skip
     refine (LP.out _ HS.out).mono ?_;rintro e w2 ⟨rfl,hQ⟩;obtain ⟨g,c,e1,e2,hR⟩:=hQ.ret (by have:=HS.out.2;omega)
     have HR:=Oi hR;clear hQ q0 q1 q2 q3 hR;go_wp2_with fail
     go_quiet (fail)
     go_wp2_with fail;go_ret3;exact ⟨ag HR.out.1 _,HR.out.2⟩
theorem JT (x y:Nat):Nat.gcd y (x % y)=Nat.gcd x y:=by
 rw [Nat.gcd_comm x y,Nat.gcd_rec y x,Nat.gcd_comm]
theorem Ms {x y:Nat} (h:0<x):0<Nat.gcd x y:=Nat.gcd_pos_of_pos_left y h
theorem EL (w:World) (a b:Nat) (ha:a≤1099511627776) (hb:b≤1099511627776) :
 Calls Tryz.prog 230 #[.int .i64 a,.int .i64 b] w fun e w'=>e=.returned (.int .i64 (Nat.gcd a b:Nat))∧∃ n,w'=w.drewN n:=by
 go_enter Tryz.func230,Tryz.ntmps230;go_wp2_with fail
 go_loopw [0,1] (fun i j wr=>∃ x y n:Nat,i=.int .i64 x∧j=.int .i64 y∧x≤1099511627776∧y≤1099511627776∧Hid (Nat.gcd x y=Nat.gcd a b)∧wr=w.drewN n) (fun _ j _=>(intOf j).toNat)
 case atStart=>exact ⟨a,b,0,rfl,rfl,ha,hb,rfl,rfl⟩
 case round =>
  obtain ⟨x,y,n,rfl,rfl,hx,hy,hg,rfl⟩:=hrel
  by_cases h0:y=0
  · subst h0
    have HF:Hid ((x:Int)=(Nat.gcd a b:Nat)):=by show _=_;rw [← hg.out,Nat.gcd_zero_right]
    have hne:((((0:Nat):Int)) != 0)=false:=by simp
    clear hg;go_wp2_with fail;go_ret;exact ⟨bY HF.out,n,rfl⟩
  · have hy0:(0:Int)<(y:Int):=by omega
    have hne:((y:Int) != 0)=true:=by simp;omega
    have hnz:(y:Int)≠0:=by omega
    have hnb:((y:Int) == 0)=false:=by simp;omega
    have hx0:(0:Int)≤(x:Int):=Int.natCast_nonneg _;have HN:Hid (Nat.gcd y (x % y)=Nat.gcd a b):=by show _=_;rw [JT,hg.out]
    have hlt:x % y<y:=Nat.mod_lt _ (by omega)
    have Hlt:=Oi hlt;have Hmod:Hid ((((x % y:Nat)):Int)=(x:Int) % (y:Int)):=by simp [Hid]
    clear hg hlt;go_wp2_with fail
    go_quiet (fail)
    go_wp2_with fail;go_roundw
    case rel=>exact ⟨y,x % y,n+nq,rfl,by rw [Hmod.out],hy,by have:=Hlt.out;omega,HN.out,by first | rfl | exact World.drewN_drewN _ _ _⟩
    case measure=>have:=Hlt.out;have:=Hmod.out;simp [intOf];omega
theorem xM {c:Cr}:∀ {t:Nat} {b:List Int} {m:Int},dM c.ways.length c.U.toNat (di c) t=some (b,m)→m=cP c b∧∀ t',t'<t→m≤cP c (cE c.ways.length c.U.toNat t')
 | 0,b,m,h=>by cases h
 | t+1,b,m,h=>by
   rw [dM] at h
   cases hs:dM c.ways.length c.U.toNat (di c) t with
   | none =>
     rw [hs] at h;simp only [di] at h;injection h with h;injection h with h1 h2
     subst h1 h2;refine ⟨rfl,fun t' ht'=>?_⟩
     cases t with
     | zero =>
         have:t'=0:=by omega
         subst this;exact Int.le_refl _
     | succ t=>have:=vd (c:=c) (t:=t);rw [hs] at this;cases this
   | some q =>
     obtain ⟨b0,m0⟩:=q;obtain ⟨i1,i2⟩:=xM hs;rw [hs] at h;simp only [di] at h
     split at h
     · rename_i hlt
       injection h with h;injection h with h1 h2
       subst h1 h2;refine ⟨rfl,fun t' ht'=>?_⟩
       by_cases e:t'=t
       · subst e;exact Int.le_refl _
       · have:=i2 t' (by omega);omega
     · rename_i hge
       injection h with h;injection h with h1 h2
       subst h1 h2;refine ⟨i1,fun t' ht'=>?_⟩
       by_cases e:t'=t
       · subst e;omega
       · exact i2 t' (by omega)
theorem sy {c:Cr}:∀ {t:Nat} {b:List Int} {m:Int},dM c.ways.length c.U.toNat (dc c) t=some (b,m)→m=cP c b∧∃ t',t'<t∧b=cE c.ways.length c.U.toNat t'
 | 0,b,m,h=>by cases h
 | t+1,b,m,h=>by
   rw [dM] at h;generalize hs:dM c.ways.length c.U.toNat (dc c) t=s at h;unfold dc at h
   split at h
   · obtain ⟨i1,t',i2,i3⟩:=sy (hs.trans h)
     exact ⟨i1,t',by omega,i3⟩
   · cases s with
     | none =>
       simp only at h;injection h with h;injection h with h1 h2
       exact ⟨by rw [← h2,← h1],t,by omega,h1.symm⟩
     | some q =>
       obtain ⟨b0,m0⟩:=q;simp only at h
       split at h
       · injection h with h;injection h with h1 h2
         exact ⟨by rw [← h2,← h1],t,by omega,h1.symm⟩
       · obtain ⟨i1,t',i2,i3⟩:=sy (hs.trans h)
         exact ⟨i1,t',by omega,i3⟩
def fQ (c:Cr):Int × Int × Bool :=
 match jq c,jl c with
 | some (_,m),some (_,l)=>if l<1 then (0,0,false) else (((m.toNat / Nat.gcd m.toNat l.toNat:Nat):Int),((l.toNat / Nat.gcd m.toNat l.toNat:Nat):Int),true)
 | _,_=>(0,0,false)
inductive PriceCase (c:Cr):Prop
 | no (h1:jq c=none) (h2:jl c=none) (h3:fQ c=(0,0,false))
 | low (bw bl:List Int) (m l:Int) (h1:jq c=some (bw,m)) (h2:jl c=some (bl,l)) (h3:fQ c=(0,0,false)) (h4:l<1)
 | yes (bw bl:List Int) (m l:Nat) (h1:jq c=some (bw,(m:Int))) (h2:jl c=some (bl,(l:Int))) (h3:fQ c=(((m / Nat.gcd m l:Nat):Int),((l / Nat.gcd m l:Nat):Int),true)) (h4:1≤l) (h5:l≤m) (h6:m≤6400000)
theorem IJ (c:Cr):PriceCase c:=by
 by_cases hv:bu c=true
 case neg =>
  have hv':bu c=false:=by simpa using hv
  have h1:=yK hv';have h2:=xL hv';exact .no h1 h2 (by unfold fQ;rw [h1])
 by_cases hf:gj c=true
 case neg =>
  have hf':gj c=false:=by simpa using hf
  have h1:=wj hf';have h2:=vb hf';exact .no h1 h2 (by unfold fQ;rw [h1])
 have hV:=em hv;have s1:=wn hV;have s2:=tP hV;have h1:=wk hv hf;have h2:=vc hv hf
 cases e1:dM c.ways.length c.U.toNat (dc c) (c.ways.length ^ c.U.toNat) with
 | none=>rw [e1] at s1;cases s1
 | some p =>
 obtain ⟨bw,m⟩:=p
 cases e2:dM c.ways.length c.U.toNat (di c) (c.ways.length ^ c.U.toNat) with
 | none=>rw [e2] at s2;cases s2
 | some q =>
 obtain ⟨bl,l⟩:=q;rw [e1] at h1;rw [e2] at h2;obtain ⟨i1,t',i2,i3⟩:=sy e1;obtain ⟨j1,j2⟩:=xM e2;have k1:=j2 t' i2;rw [← i3,← i1] at k1;have hb:=uH hV bw;rw [← i1] at hb
 by_cases hl:l<1
 · exact .low bw bl m l h1 h2 (by unfold fQ;rw [h1,h2];simp [hl]) hl
 · obtain ⟨mn,rfl⟩:∃ k:Nat,m=k:=⟨m.toNat,by omega⟩
   obtain ⟨ln,rfl⟩:∃ k:Nat,l=k:=⟨l.toNat,by omega⟩;exact .yes bw bl mn ln h1 h2 (by unfold fQ;rw [h1,h2];simp only [hl,if_false,Int.toNat_natCast]) (by omega) (by omega) (by omega)
theorem ri (w:World) (a:Nat) (ha:a≤1099511627776) :
 Calls Tryz.prog 231 #[.int .i64 a] w fun e w'=>e=.returned (.int .i64 a)∧w'=w:=by
 have hm:Hid (max (a:Int) (-(a:Int))=a):=by show _=_;omega
 have hm2:¬ ((a:Int) < -(a:Int)):=by omega
 go_enter Tryz.func231,Tryz.ntmps231;go_wp2_with fail;go_ret;exact ⟨bY (by first | exact hm.out | rfl | omega),rfl⟩
def kd (f:Nat→Nat→Int) (U:Nat):Nat→List Int
 | 0=>[]
 | R+1=>kd f U R ++ (List.range U).map fun k=>f R (k+1)
theorem pD (f:Nat→Nat→Int) (U:Nat):∀ R,(kd f U R).length=R * U
 | 0=>by simp [kd]
 | R+1=>by rw [kd,List.length_append,pD f U R];simp [Nat.add_mul]
def fk (f:Nat→Nat→Int) (c:Cr):Cr:=⟨c.U,c.R,c.ways,kd f c.U.toNat c.R.toNat⟩
def fM (c:Cr) (r n:Nat):Int:=(n:Int) * fG c r n - ((n:Int) - 1) * fG c r ((n:Int) - 1)
end Go.Proofs.YtbknhgapjjaelaaGreatDoor
