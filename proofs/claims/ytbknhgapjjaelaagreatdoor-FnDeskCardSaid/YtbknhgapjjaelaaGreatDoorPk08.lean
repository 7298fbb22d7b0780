/-
  Part 8 of what the proof stands on: lemmas and contracts, each with its conditions ahead of the colon.
-/
import Derived.Deep.RegionHeld3
import Derived.Deep.DeepCutAuto
import Derived.Outline
import Derived.Test.YtbknhgapjjaelaaGreatDoorPk01
import Derived.Test.YtbknhgapjjaelaaGreatDoorPk03
import Derived.Test.YtbknhgapjjaelaaGreatDoorPk04
import Derived.Test.YtbknhgapjjaelaaGreatDoorPk05
import Derived.Test.YtbknhgapjjaelaaGreatDoorPk07
set_option maxRecDepth 10000
set_option maxHeartbeats 16000000
namespace Go.Proofs.YtbknhgapjjaelaaGreatDoor
set_option linter.unusedVariables false
set_option linter.unusedSimpArgs false
open Go.RowKit
theorem cq {U V:Int} {x2:List Int} (h:bu U V x2=true):∃ P T:Nat,U=(P:Int)∧V=(T:Int)∧1≤P∧P≤6∧1≤T∧T≤8∧x2.length=P * T∧∀ x∈x2,0≤x∧x≤1000:=by
 unfold bu at h;rw [Bool.and_eq_true,Bool.and_eq_true,bH,bH,sJ,Bool.and_eq_true,decide_eq_true_eq,eG] at h;obtain ⟨⟨⟨u1,u2⟩,v1,v2⟩,a1,l1⟩:=h;obtain ⟨P,hR⟩:∃ n:Nat,U=(n:Int):=⟨U.toNat,by omega⟩;obtain ⟨T,hC⟩:∃ n:Nat,V=(n:Int):=⟨V.toNat,by omega⟩;subst hR hC;rw [← Int.natCast_mul] at l1;exact ⟨P,T,rfl,rfl,by omega,by omega,by omega,by omega,by omega,a1⟩
def gM (P T:Nat) (xs ow:List Int) (m:Nat):List Int:=(List.range m).map fun j=>fO T xs ow (j / P) (j % P)
theorem uC (P T:Nat) (xs ow:List Int) (m:Nat):(gM P T xs ow m).length=m:=by simp [gM]
theorem Bj {P T:Nat} (xs ow:List Int) {i j:Nat} (hj:j<P):gM P T xs ow (i * P+(j+1))=gM P T xs ow (i * P+j) ++ [fO T xs ow i j]:=by
 unfold gM;rw [← Nat.add_assoc,List.range_succ,List.map_append,List.map_singleton];have e1:(i * P+j) / P=i:=by
  rw [Nat.mul_comm,Nat.mul_add_div (by omega),Nat.div_eq_of_lt hj,Nat.add_zero]
 have e2:(i * P+j) % P=j:=by
  rw [Nat.mul_comm,Nat.mul_add_mod,Nat.mod_eq_of_lt hj]
 rw [e1,e2]
theorem vm (w:World) (P T j:Nat) (aV:Option Addr) (cV:Nat) (xV:List Int) (aO:Option Addr) (cO:Nat) (ow:List Int) (hV:Rd w w.heap.size aV (ae xV)) (hO:Rd w w.heap.size aO (ae ow)) (lV:xV.length=P * T) (lO:ow.length=T) (hb:∀ x∈xV,0≤x∧x≤1000) (hP:P≤6) (hT:T≤8) :
 Calls Tryz.prog 177 #[.agg #[.int .i64 P,.int .i64 T,.slice aV xV.length cV],.int .i64 j,.slice aO ow.length cO] w fun e w'=>e=.returned (.int .i64 (dL P T xV ow j))∧Below w.heap.size w w':=by
 have KG:=Na (Blk.new w [.int .i64 P,.int .i64 T,.slice aV xV.length cV] 28);have B1:=Na (ah w (.cells #[.int .i64 P,.int .i64 T,.slice aV xV.length cV] 28));have L1:=Na (fun v (hbl:Below w.heap.size w v) i (hi:i<P)=>zq v P T i j aV cV xV aO cO ow (hV.to hbl) (hO.to hbl) lV lO hb hP hT hi)
 have HE:Hid (dL P T xV ow j=fm (fun i=>decide (0<fO T xV ow i j)) P):=rfl
 have q0:(w.alloc (.cells #[.int .i64 P,.int .i64 T,.slice aV xV.length cV] 28)).cell? ⟨w.heap.size,0,none⟩=some (.int .i64 P):=KG.out.cell 0;clear hV hO lV lO hb
 go_enter Tryz.func177,Tryz.ntmps177;go_wp2_with fail;clear q0
 go_loopw [10] (fun iv wr=>∃ i:Nat,i≤P∧iv=.int .i64 i∧Hid (∀ k,k<i→decide (0<fO T xV ow k j)=false)∧Hid (Below (w.heap.size+1) (w.alloc (.cells #[.int .i64 P,.int .i64 T,.slice aV xV.length cV] 28)) wr)) (fun iv _=>P - (intOf iv).toNat)
 case atStart=>exact ⟨0,Nat.zero_le _,rfl,fun k hk=>by omega,Below.refl _ _⟩
 case round =>
  obtain ⟨i,hi,rfl,ha,hw⟩:=hrel;have i0:(0:Int)≤(i:Int):=Int.natCast_nonneg _;have Bw:=Na (B1.out.trans (hw.out.mono (by omega)))
  by_cases hlt:i<P
  · have hii:(i:Int)<(P:Int):=by omega
    have K:=KG.out.below hw.out (by omega)
    have q0:wr.cell? ⟨w.heap.size,0,none⟩=some (.int .i64 P):=K.cell 0;have q1:wr.cell? ⟨w.heap.size,1,none⟩=some (.int .i64 T):=K.cell 1;have q2:wr.cell? ⟨w.heap.size,2,none⟩=some (.slice aV xV.length cV):=K.cell 2;have hsz:w.heap.size+1≤wr.heap.size:=by have:=hw.out.size;simp at this;omega
    have LO1:=Na (L1.out wr Bw.out i hlt);obtain ⟨s,hs'⟩:∃ s,s=fO T xV ow i j:=⟨_,rfl⟩;rw [← hs'] at LO1;have HS:=Na hs';clear hs' K;go_wp2_with fail;refine LO1.out.mono ?_;rintro e w2 ⟨rfl,hb2⟩;have HB2:=Na (hw.out.trans (hb2.mono hsz));have HB3:=Na (aa Bw.out hb2);clear hb2 q0 q1 q2 LO1
    by_cases hpos:0<s
    · have hF:Hid (dL P T xV ow j=(i:Int)):=by
        rw [Hid,HE.out];exact jm hlt (by rw [← HS.out];exact decide_eq_true hpos) ha.out
      go_wp2_with fail;go_ret;exact ⟨ce hF.out.symm,HB3.out⟩
    · have hF:Hid (∀ k,k<i+1→decide (0<fO T xV ow k j)=false):=fun k hk=>by
        by_cases e:k=i
        · rw [e,← HS.out];exact decide_eq_false hpos
        · exact ha.out k (by omega)
      go_wp2_with fail;go_roundw
      case rel=>exact ⟨i+1,by omega,by go_num,hF,HB2⟩
      case measure=>simp [intOf];omega
  · obtain rfl:i=P:=by omega
    have hF:Hid (dL i T xV ow j = -1):=by
     rw [Hid,HE.out];exact jn ha.out
    go_wp2_with fail;go_ret;exact ⟨ce hF.out.symm,Bw.out⟩
theorem Ic (w:World) (P T:Nat) (aV:Option Addr) (cV:Nat) (xV:List Int) (aO:Option Addr) (cO:Nat) (ow:List Int) (hG:bu P T xV=true) (hV:Rd w w.heap.size aV (ae xV)) (hO:Rd w w.heap.size aO (ae ow)) (lO:ow.length≤1048576) :
 Calls Tryz.prog 243 #[.agg #[.int .i64 P,.int .i64 T,.slice aV xV.length cV],.slice aO ow.length cO] w fun e w'=>e=.returned (.bool (cH ow T T 0 ((P:Int) - 1)))∧Below w.heap.size w w':=by
 have hG':=hG;obtain ⟨P',T',e1,e2,p1,p6,t1,t8,lV,hb⟩:=cq hG';obtain rfl:P=P':=Int.ofNat.inj e1;obtain rfl:T=T':=Int.ofNat.inj e2;have hPT:P * T≤48:=Nat.le_trans (Nat.mul_le_mul p6 t8) (by decide)
 have KG:=Na (Blk.new w [.int .i64 P,.int .i64 T,.slice aV xV.length cV] 28);have B1:=Na (ah w (.cells #[.int .i64 P,.int .i64 T,.slice aV xV.length cV] 28));have LV:=Na (fun v (hbl:Below w.heap.size w v)=>eo v P T aV cV xV (hV.to hbl) (by omega))
 have LM:=Na (fun v (hbl:Below w.heap.size w v)=>hH v aO cO ow T T 0 ((P:Int) - 1) (hO.to hbl) (by omega))
 rw [hG] at LV;obtain ⟨bb,hbb⟩:∃ b,b=cH ow T T 0 ((P:Int) - 1):=⟨_,rfl⟩;rw [← hbb] at LM ⊢;clear hV hO hG hG' lV hb e1 e2 hbb lO
 go_enter Tryz.func243,Tryz.ntmps243;go_wp2_with fail;refine (LV.out _ B1.out).mono ?_;rintro e w2 ⟨rfl,hb2⟩;have BB:=Na (aa B1.out hb2);have K:=KG.out.same hb2;have q0:w2.cell? ⟨w.heap.size,0,none⟩=some (.int .i64 P):=K.cell 0;have q1:w2.cell? ⟨w.heap.size,1,none⟩=some (.int .i64 T):=K.cell 1;have LM1:=Na (LM.out _ BB.out);clear K LV LM hb2;go_wp2_with fail;refine LM1.out.mono ?_;rintro e w3 ⟨rfl,rfl⟩;go_wp2_with fail;go_ret;exact ⟨rfl,BB.out⟩
def so (xs:Option (List Int)) (w:World) (e:Ending) (w':World):Prop :=
 Below w.heap.size w w'∧match xs with
 | some l=>∃ a c,e=.returned (.tuple #[.slice a l.length c,.bool true])∧Rd w' w'.heap.size a (ae l)
 | none=>e=.returned (.tuple #[.slice none 0 0,.bool false])
def lD (P T:Nat) (xs ow:List Int):Option (List Int):=if cH ow T T 0 ((P:Int) - 1)=true then some (gM P T xs ow (P * P)) else none
theorem Jd {ow:List Int} {T:Nat} {lo hi:Int} (h:cH ow T T lo hi=true):ow.length=T∧∀ x∈ow,lo≤x∧x≤hi:=by
 rw [sJ,Bool.and_eq_true,decide_eq_true_eq,eG] at h;exact ⟨by omega,h.1⟩
theorem yk (w:World) (P T:Nat) (aV:Option Addr) (cV:Nat) (xV:List Int) (aO:Option Addr) (cO:Nat) (ow:List Int) (hG:bu P T xV=true) (hV:Rd w w.heap.size aV (ae xV)) (hO:Rd w w.heap.size aO (ae ow)) (lO:ow.length≤1048576) :
 Calls Tryz.prog 199 #[.agg #[.int .i64 P,.int .i64 T,.slice aV xV.length cV],.slice aO ow.length cO] w (so (lD P T xV ow) w):=by
 have hG':=hG;obtain ⟨P',T',e1,e2,p1,p6,t1,t8,lV,hb⟩:=cq hG';obtain rfl:P=P':=Int.ofNat.inj e1;obtain rfl:T=T':=Int.ofNat.inj e2;have hPP:P * P≤36:=Nat.le_trans (Nat.mul_le_mul p6 p6) (by decide)
 have KG:=Na (Blk.new w [.int .i64 P,.int .i64 T,.slice aV xV.length cV] 28);have B1:=Na (ah w (.cells #[.int .i64 P,.int .i64 T,.slice aV xV.length cV] 28));have LW:=Na (fun v (hbl:Below w.heap.size w v)=>Ic v P T aV cV xV aO cO ow hG (hV.to hbl) (hO.to hbl) lO)
 have L1:=Na (fun v (hbl:Below w.heap.size w v) (lo:ow.length=T) i j (hi:i<P)=>zq v P T i j aV cV xV aO cO ow (hV.to hbl) (hO.to hbl) lV lo hb p6 t8 hi)
 have HM:=Na (fun h=>(Jd (ow:=ow) (T:=T) (lo:=0) (hi:=(P:Int) - 1) h).1)
 have HE:Hid (lD P T xV ow=if cH ow T T 0 ((P:Int) - 1)=true then some (gM P T xV ow (P * P)) else none):=rfl;clear hV hO hG hG' lV hb e1 e2
 cases hm:cH ow T T 0 ((P:Int) - 1) with
 | false =>
   rw [hm] at LW HE;rw [if_neg (by decide)] at HE
   rw [HE.out];clear HE HM hm
   go_enter Tryz.func199,Tryz.ntmps199;go_wp2_with fail;refine (LW.out _ B1.out).mono ?_;rintro e w2 ⟨rfl,hb2⟩;have BB:=Na (aa B1.out hb2);clear hb2;go_wp2_with fail
   go_ret2
   exact ⟨BB.out,rfl⟩
 | true =>
   have hlo:=HM.out hm;rw [hm] at LW HE;rw [if_pos rfl] at HE;rw [HE.out];have LE:=Na (fun v (hbl:Below w.heap.size w v) i j (hi:i<P)=>L1.out v hbl hlo i j hi)
   have FS:=Na (fun i j hj=>Bj (P:=P) (T:=T) xV ow (i:=i) (j:=j) hj)
   have FL:=Na (fun m=>uC P T xV ow m)
   have F0:Hid (gM P T xV ow 0=[]):=rfl;clear HE HM hm hlo L1
   go_enter Tryz.func199,Tryz.ntmps199;go_wp2_with fail;refine (LW.out _ B1.out).mono ?_;rintro e w2 ⟨rfl,hb2⟩;have hs2:w.heap.size+1≤w2.heap.size:=by have:=hb2.size;simp at this;omega
   have HO2:=Na (bJ (bD w2 2) hs2);have K2:=KG.out.same hb2;obtain ⟨w3,hw3⟩:∃ X,X=w2.alloc (.cells #[] 2):=⟨_,rfl⟩;have HO3:Hid (w3.ownsRow (w.heap.size+1) 2 1 (.slice (some ⟨w2.heap.size,0,none⟩) 0 0) 0 []):=by rw [hw3];exact HO2.out
   have KG3:Hid (Blk w3 w.heap.size [.int .i64 P,.int .i64 T,.slice aV xV.length cV] 28):=by rw [hw3];exact K2.alloc _
   have B3:Hid (Below w.heap.size w w3):=by rw [hw3];exact aa (aa B1.out hb2) (ah _ _)
   have hs3:w.heap.size+1≤w3.heap.size:=by rw [hw3];simp;omega
   have q0:(w2.alloc (.cells #[] 2)).cell? ⟨w.heap.size,0,none⟩=some (.int .i64 P):=(K2.alloc _).cell 0;clear hb2 HO2 K2 LW;go_wp2_with fail;rw [← hw3];clear q0 hw3
   go_loopw [16,6] (fun iv ov wr=>∃ (i:Nat) (v:Value),i≤P∧iv=.int .i64 i∧ov=v∧Hid (wr.ownsRow (w.heap.size+1) 2 1 v (gM P T xV ow (i * P)).length (ae (gM P T xV ow (i * P))))∧Hid (Below (w.heap.size+1) w3 wr)) (fun iv _ _=>P - (intOf iv).toNat)
   case atStart=>exact ⟨0,_,Nat.zero_le _,rfl,rfl,(by rw [Hid,Nat.zero_mul,F0.out];exact HO3.out),Below.refl _ _⟩
   case round =>
    clear HO3;obtain ⟨i,v,hi,rfl,rfl,ho,hw⟩:=hrel;have i0:(0:Int)≤(i:Int):=Int.natCast_nonneg _
    by_cases hlt:i<P
    · have hii:(i:Int)<(P:Int):=by omega
      have q0:wr.cell? ⟨w.heap.size,0,none⟩=some (.int .i64 P):=(KG3.out.below hw.out (by omega)).cell 0
      go_wp2_with fail;clear q0
      go_loopw [21,6] (fun jv ov wr=>∃ (j:Nat) (v:Value),j≤P∧jv=.int .i64 j∧ov=v∧Hid (wr.ownsRow (w.heap.size+1) 2 1 v (gM P T xV ow (i * P+j)).length (ae (gM P T xV ow (i * P+j))))∧Hid (Below (w.heap.size+1) w3 wr)) (fun jv _ _=>P - (intOf jv).toNat)
      case atStart=>exact ⟨0,_,Nat.zero_le _,rfl,rfl,ho.out,hw.out⟩
      case round =>
       clear ho hw;obtain ⟨j,v,hj,rfl,rfl,ho,hw⟩:=hrel;have j0:(0:Int)≤(j:Int):=Int.natCast_nonneg _
       by_cases hjl:j<P
       · have hji:(j:Int)<(P:Int):=by omega
         have HST:=Na (FS.out i j hjl);have hln:=Nat.le_of_eq (FL.out (i * P+j));have hcl:i * P+j<P * P:=dE hlt hjl;have K:=KG3.out.below hw.out (by omega)
         have q0:wr.cell? ⟨w.heap.size,0,none⟩=some (.int .i64 P):=K.cell 0;have q1:wr.cell? ⟨w.heap.size,1,none⟩=some (.int .i64 T):=K.cell 1;have q2:wr.cell? ⟨w.heap.size,2,none⟩=some (.slice aV xV.length cV):=K.cell 2;have hsz:w.heap.size+1≤wr.heap.size:=by have:=hw.out.size;omega
         have LE1:=Na (LE.out wr (B3.out.trans (hw.out.mono (by omega))) i j hlt)
         obtain ⟨s,hs'⟩:∃ s,s=fO T xV ow i j:=⟨_,rfl⟩;rw [← hs'] at LE1 HST;clear hs' K;go_wp2_with fail;refine LE1.out.mono ?_;rintro e w4 ⟨rfl,hb4⟩;have hW4:=Na (hw.out.trans (hb4.mono hsz));have hO4:=Na (aG ho.out hb4);have hsz4:w.heap.size+1≤w4.heap.size:=by have:=hb4.size;omega
         clear hb4 q0 q1 q2 LE1 ho hw
         go_wp2_with (at_builtin;refine aP _ rfl _ _ 24 rfl (w.heap.size+1) 2 (.int .i64 0) 8 Tryz.underlying24 aU rfl _ _ _ rfl hO4.out (.int .i64 s) rfl rfl (by omega) (by omega) hsz4 ?_)
         intro v8 w8 o8 g8 n8;have H8:Hid (w8.ownsRow (w.heap.size+1) 2 1 v8 (gM P T xV ow (i * P+(j+1))).length (ae (gM P T xV ow (i * P+(j+1))))):=by
          rw [Hid,HST.out,bh,List.length_append];exact o8
         have B8:=Na (ai hW4.out hO4.out g8 (Nat.le_refl _) hsz4);clear o8 g8 n8;go_wp2_with fail;go_roundw
         case rel=>exact ⟨j+1,v8,by omega,by go_num,rfl,H8,B8⟩
         case measure=>simp [intOf];omega
       · obtain rfl:j=P:=by omega
         have e2:i * j+j=(i+1) * j:=by rw [Nat.add_mul,Nat.one_mul]
         rw [e2] at ho;go_wp2_with fail;go_roundw
         case rel=>exact ⟨i+1,_,by omega,by go_num,rfl,ho,hw⟩
         case measure=>simp [intOf];omega
    · obtain rfl:i=P:=by omega
      obtain ⟨a',c',e',hcap,_⟩:=bj ho.out;subst e';have HRd:=Na (ay ho.out (Nat.le_refl _));have BZ:=Na (B3.out.trans (hw.out.mono (by omega)))
      clear ho hcap;go_wp2_with fail
      go_ret2
      exact ⟨BZ.out,a',c',rfl,HRd.out⟩
structure DD where
 R:Int
 C:Int
 A:List Int
 B:List Int
 P:Int
 T:Int
 V:List Int
 U:Int
 N:Int
 W:List Int
 K:List Int
 F:List Nat
structure DA where
 a:Option Addr
 ca:Nat
 b:Option Addr
 cb:Nat
 v:Option Addr
 cv:Nat
 w:Option Addr
 cw:Nat
 k:Option Addr
 ck:Nat
 f:Option Addr
 cf:Nat
def DD.cells (d:DD) (x:DA):List Value:=[.int .i64 d.R,.int .i64 d.C,.slice x.a d.A.length x.ca,.slice x.b d.B.length x.cb,.int .i64 d.P,.int .i64 d.T,.slice x.v d.V.length x.cv,.int .i64 d.U,.int .i64 d.N,.slice x.w d.W.length x.cw,.slice x.k d.K.length x.ck,.slice x.f d.F.length x.cf]
def DD.val (d:DD) (x:DA):Value:=.agg #[.int .i64 d.R,.int .i64 d.C,.slice x.a d.A.length x.ca,.slice x.b d.B.length x.cb,.int .i64 d.P,.int .i64 d.T,.slice x.v d.V.length x.cv,.int .i64 d.U,.int .i64 d.N,.slice x.w d.W.length x.cw,.slice x.k d.K.length x.ck,.slice x.f d.F.length x.cf]
def DD.ok (d:DD):Bool:=gj d.R d.C d.A d.B d.P d.T d.V d.U d.N d.W d.K d.F
structure DRd (w:World) (Z:Nat) (d:DD) (x:DA):Prop where
 r:RdDesk w Z x.a d.A x.b d.B x.v d.V x.w d.W x.k d.K x.f d.F
 f:∀ y∈d.F,y<4294967296
theorem RdDesk.below {w w':World} {Z M:Nat} {aA aB aV aW aC aT:Option Addr} {xA xB xV xW xC:List Int} {xT:List Nat} (h:RdDesk w Z aA xA aB xB aV xV aW xW aC xC aT xT) (hb:Below M w w') (hZ:Z≤M):RdDesk w' Z aA xA aB xB aV xV aW xW aC xC aT xT :=
 ⟨h.A.below hb hZ,h.B.below hb hZ,h.V.below hb hZ,h.W.below hb hZ,h.C.below hb hZ,h.T.below hb hZ⟩
theorem DRd.to {w w':World} {d:DD} {x:DA} (h:DRd w w.heap.size d x) (hb:Below w.heap.size w w'):DRd w' w'.heap.size d x:=⟨h.r.to hb,h.f⟩
theorem DRd.below {w w':World} {Z M:Nat} {d:DD} {x:DA} (h:DRd w Z d x) (hb:Below M w w') (hZ:Z≤M):DRd w' Z d x:=⟨h.r.below hb hZ,h.f⟩
theorem DRd.touch {w w':World} {Z lo hi:Nat} {d:DD} {x:DA} (h:DRd w Z d x) (ht:Touch w w' lo hi) (hZ:Z≤lo) (hs:Z≤w.heap.size):DRd w' Z d x :=
 ⟨⟨h.r.A.touch ht hZ hs,h.r.B.touch ht hZ hs,h.r.V.touch ht hZ hs,h.r.W.touch ht hZ hs,h.r.C.touch ht hZ hs,h.r.T.touch ht hZ hs⟩,h.f⟩
theorem DRd.mono {w:World} {Z Z':Nat} {d:DD} {x:DA} (h:DRd w Z d x) (hZ:Z≤Z'):DRd w Z' d x :=
 ⟨⟨h.r.A.mono hZ,h.r.B.mono hZ,h.r.V.mono hZ,h.r.W.mono hZ,h.r.C.mono hZ,h.r.T.mono hZ⟩,h.f⟩
theorem DD.ok_parts {d:DD} (h:d.ok=true):bY d.R d.C d.A d.B=true∧bu d.P d.T d.V=true∧bt ⟨d.U,d.N,d.W,d.K⟩=true∧iE d.F=true:=by
 unfold DD.ok gj at h;rw [Bool.and_eq_true,Bool.and_eq_true,Bool.and_eq_true] at h;exact ⟨h.1.1.1,h.1.1.2,h.1.2,h.2⟩
theorem DD.ok_of {d:DD} (h1:bY d.R d.C d.A d.B=true) (h2:bu d.P d.T d.V=true) (h3:bt ⟨d.U,d.N,d.W,d.K⟩=true) (h4:iE d.F=true):d.ok=true:=by
 unfold DD.ok gj;rw [h1,h2,h3,h4];rfl
theorem DD.ok_len {d:DD} (h:d.ok=true):(1≤d.A.length∧d.A.length≤36)∧(1≤d.B.length∧d.B.length≤36)∧(1≤d.V.length∧d.V.length≤48)∧(1≤d.W.length∧d.W.length≤8)∧(1≤d.K.length∧d.K.length≤64)∧1≤d.F.length∧d.F.length≤16:=by
 obtain ⟨g,v,c,t⟩:=DD.ok_parts h;obtain ⟨R,C,-,-,r1,r6,c1,c6,lA,lB,-,-⟩:=ef g;obtain ⟨P,T,-,-,p1,p6,t1,t8,lV,-⟩:=cq v;have hc:=ee c;have a1:1 * 1≤R * C:=Nat.mul_le_mul r1 c1;have a2:R * C≤6 * 6:=Nat.mul_le_mul r6 c6;have v1:1 * 1≤P * T:=Nat.mul_le_mul p1 t1;have v2:P * T≤6 * 8:=Nat.mul_le_mul p6 t8;have u1:1≤d.U:=hc.u1;have u8:d.U≤8:=hc.u8;have n1:1≤d.N:=hc.r1;have n8:d.N≤8:=hc.r8;have w1:1≤d.W.length:=hc.w1;have w8:d.W.length≤8:=hc.w8;have hl:(d.K.length:Int)=d.U * d.N:=hc.clen;obtain ⟨u,hu⟩:∃ u:Nat,d.U=(u:Int):=⟨d.U.toNat,by omega⟩;obtain ⟨n,hn⟩:∃ n:Nat,d.N=(n:Int):=⟨d.N.toNat,by omega⟩;rw [hu,hn,← Int.natCast_mul] at hl;have k1:1 * 1≤u * n:=Nat.mul_le_mul (by omega) (by omega)
 have k2:u * n≤8 * 8:=Nat.mul_le_mul (by omega) (by omega)
 unfold iE at t;rw [Bool.and_eq_true,Bool.and_eq_true,decide_eq_true_eq,decide_eq_true_eq] at t;refine ⟨by omega,by omega,by omega,by omega,by omega,by omega,by omega⟩
theorem Bb {P:Program} (wr:World) {ops:Array Oper} {rest:List Oper} {o:Oper} {a:Act} {Q:Exit→Act→World→Prop}
 (hg:o.guard=none) (s x:Operand) (t:TypeId) (hop:o.op=Op.call { callee:=Callee.builtin Builtin.append,args:=#[s,x],argTypes:=#[t,t] })
 (base:Nat) (e:TypeId) (z:Value) (bytes:Nat) (h1:P.underlying t=some (.slice e)) (hinfo:(P.info? e).map (fun i=>(i.zero,i.size,i.bytes))=some (some z,1,bytes)) (hz:z.cells.size=1)
 (v:Value) (n:Nat) (xs:List Value) (hs:a.eval s=v) (hown:wr.ownsRow base e 1 v n xs) (b off m c:Nat) (ys:List Value) (hx:a.eval x=.slice (some ⟨b,off,none⟩) m c) (hm:ys.length=m) (hone:∀ y∈ys,y.oneCell'=true)
 (hcell:∀ j,j<m→wr.cell? ⟨b,off+j,none⟩=ys[j]?) (hb:bytes≤64) (hn:n+m≤1099511627776) (hbase:base≤wr.heap.size)
 (hK:∀ v' w',w'.ownsRow base e 1 v' (n+m) (xs ++ ys)→wr.grownBy w' v.ownBlock→wpList P ops Q rest (a.put o.dst v') w') :
 wpList P ops Q (o :: rest) a wr:=by
 obtain ⟨i,h2,h3,h4,h5⟩:=info_parts hinfo;have hbb:(n+m) * bytes≤140737488355328:=Nat.le_trans (Nat.mul_le_mul_left (n+m) hb) (by omega)
 refine wpList_append_own wr hg s x t hop base e i z 1 bytes h1 h2 h3 h4 h5 hz (by omega) v n xs hs hown ⟨b,off,none⟩ m c ys hx (by omega) ?_ hone (by unfold maxLen;omega) hbb hbase (fun v' w' ho hgr _=>hK v' w' ho hgr)
 · intro j u hj
   have hj':j<m:=by have:=(List.getElem?_eq_some_iff.1 hj).1;omega
   have ea:(⟨b,off,none⟩:Addr).add j=⟨b,off+j,none⟩:=by unfold Addr.add;split <;> simp_all
   rw [ea,hcell j hj',← hj]
def OwnF (T:Nat) (w:World) (lo hi:Nat) (a:Option Addr) (c:Nat) (xs:List Nat):Prop :=
 w.ownsRow lo T 1 (.slice a xs.length c) xs.length (dt xs)∧∀ b,a=some b→b.block<hi
section
variable {T lo hi c:Nat} {w w':World} {a:Option Addr} {xs:List Nat}
theorem OwnF.of_own (h:w.ownsRow lo T 1 (.slice a xs.length c) xs.length (dt xs)):OwnF T w lo w.heap.size a c xs :=
 ⟨h,fun b hb=>(h.lt b.block (by simp [Value.ownBlock,hb])).2⟩
theorem OwnF.rd (h:OwnF T w lo hi a c xs):Rd w hi a (dt xs):=by
 rcases ay h.1 (Nat.le_refl _) with h' | ⟨b,o,ha,hb,hc⟩
 · exact .inl h'
 · exact .inr ⟨b,o,ha,h.2 _ ha,hc⟩
theorem OwnF.keep (h:OwnF T w lo hi a c xs) (hb:Below w.heap.size w w'):OwnF T w' lo hi a c xs:=⟨aG h.1 hb,h.2⟩
theorem OwnF.touch {lo' hi':Nat} (h:OwnF T w lo hi a c xs) (ht:Touch w w' lo' hi') (hd:hi≤lo'∨hi'≤lo):OwnF T w' lo hi a c xs:=by
 refine ⟨⟨h.1.1,?_⟩,h.2⟩
 rcases h.1.2 with h2 | ⟨g,cap,cur,hv,hg,hh,r⟩
 · exact .inl h2
 · have h3:g<hi:=by
     injection hv with ha _ _
     exact h.2 _ ha
   refine .inr ⟨g,cap,cur,hv,hg,?_,r⟩
   rw [ht.block g (lt_of_block hh) (by omega)]
   exact hh
theorem OwnF.mono {lo' hi':Nat} (h:OwnF T w lo hi a c xs) (h1:lo'≤lo) (h2:hi≤hi'):OwnF T w lo' hi' a c xs :=
 ⟨bJ h.1 h1,fun b hb=>Nat.lt_of_lt_of_le (h.2 b hb) h2⟩
end
theorem Dw (w:World) (a:Option Addr) (c:Nat) (xs:List Nat) (h:Rd w w.heap.size a (dt xs)) (hl1:1≤xs.length) (hl:xs.length≤1048576) :
 Calls Tryz.prog 70 #[.slice a xs.length c] w fun e w'=>∃ a' c',e=.returned (.slice a' xs.length c')∧OwnF 79 w' w.heap.size w'.heap.size a' c' xs∧Below w.heap.size w w':=by
 obtain ⟨b,o,rfl,hb,hcell⟩:=h.atF (k:=0) (by omega)
 clear h;have hen:=fun (w:World) (a:Option Addr) (n c:Nat)=>Lib.run_eql_slice_nil (P:=Tryz.prog) w 31 79 a n c 0 0 Tryz.underlying31
 go_enter Tryz.func70,Tryz.ntmps70
 go_wp2_with (at_builtin;refine Bb _ rfl _ _ 31 rfl w.heap.size 79 (.float .f32 0) 4 Tryz.underlying31 tY rfl _ 0 [] rfl (bD w 79) b o xs.length c (dt xs) rfl (flts_length xs) ?_ ?_ (by omega) (by omega) (by simp) ?_)
 · intro y hy
   obtain ⟨x,_,rfl⟩:=List.mem_map.1 hy
   rfl
 · intro j hj
   rw [(ah w _).cell (p:=⟨b,o+j,none⟩) hb,hcell j hj,uc hj]
 intro v1 w1 o1 g1;have B1:=ai (ah w (.cells #[] 79)) (bD w 79) g1 (Nat.le_refl _) (by simp)
 obtain ⟨a1,c1,rfl,_,_⟩:=bj o1;have HR:Hid (OwnF 79 w1 w.heap.size w1.heap.size a1 c1 xs):=OwnF.of_own (by simpa using o1)
 clear o1 g1 hcell;go_wp2_with fail;go_ret;exact ⟨_,_,by simp,HR.out,B1⟩
def fg (w:World) (g:Nat) (v0 v1 v2 v3 v4 v5 v6 v7 v8 v9 v10 v11:Value):World:=((((((((((((w.setCell ⟨g,0,none⟩ v0).setCell ⟨g,1,none⟩ v1).setCell ⟨g,2,none⟩ v2).setCell ⟨g,3,none⟩ v3).setCell ⟨g,4,none⟩ v4).setCell ⟨g,5,none⟩ v5).setCell ⟨g,6,none⟩ v6).setCell ⟨g,7,none⟩ v7).setCell ⟨g,8,none⟩ v8).setCell ⟨g,9,none⟩ v9).setCell ⟨g,10,none⟩ v10).setCell ⟨g,11,none⟩ v11)
theorem et (w:World) (g:Nat) (v0 v1 v2 v3 v4 v5 v6 v7 v8 v9 v10 v11:Value):Touch w (fg w g v0 v1 v2 v3 v4 v5 v6 v7 v8 v9 v10 v11) g (g+1):=(((((((((((ar w g 0 v0).trans (ar _ g 1 v1)).trans (ar _ g 2 v2)).trans (ar _ g 3 v3)).trans (ar _ g 4 v4)).trans (ar _ g 5 v5)).trans (ar _ g 6 v6)).trans (ar _ g 7 v7)).trans (ar _ g 8 v8)).trans (ar _ g 9 v9)).trans (ar _ g 10 v10)).trans (ar _ g 11 v11)
theorem nj (w:World) (g:Nat) (v0 v1 v2 v3 v4 v5 v6 v7 v8 v9 v10 v11:Value):(fg w g v0 v1 v2 v3 v4 v5 v6 v7 v8 v9 v10 v11).heap.size=w.heap.size:=by simp [fg]
theorem fS {w:World} {g:Nat} {t:TypeId} {u0 u1 u2 u3 u4 u5 u6 u7 u8 u9 u10 u11:Value} (k:Blk w g [u0,u1,u2,u3,u4,u5,u6,u7,u8,u9,u10,u11] t) (v0 v1 v2 v3 v4 v5 v6 v7 v8 v9 v10 v11:Value):Blk (fg w g v0 v1 v2 v3 v4 v5 v6 v7 v8 v9 v10 v11) g [v0,v1,v2,v3,v4,v5,v6,v7,v8,v9,v10,v11] t:=by
 have m:=((((((((((((k.set 0 v0).set 1 v1).set 2 v2).set 3 v3).set 4 v4).set 5 v5).set 6 v6).set 7 v7).set 8 v8).set 9 v9).set 10 v10).set 11 v11);simp only [List.set_cons_zero,List.set_cons_succ] at m;exact m
def OwnTwo (T:Nat) (w:World) (lo hi:Nat) (a:Option Addr) (ca:Nat) (xa:List Int) (b:Option Addr) (cb:Nat) (xb:List Int):Prop :=
 ∃ m,(lo≤m∧m≤hi)∧((OwnI T w lo m a ca xa∧OwnI T w m hi b cb xb)∨(OwnI T w lo m b cb xb∧OwnI T w m hi a ca xa))
section
variable {T lo hi:Nat} {w w':World} {a b:Option Addr} {ca cb:Nat} {xa xb:List Int}
theorem OwnTwo.keep (h:OwnTwo T w lo hi a ca xa b cb xb) (hb:Below w.heap.size w w'):OwnTwo T w' lo hi a ca xa b cb xb:=by
 obtain ⟨m,hm,h | h⟩:=h
 · exact ⟨m,hm,.inl ⟨h.1.keep hb,h.2.keep hb⟩⟩
 · exact ⟨m,hm,.inr ⟨h.1.keep hb,h.2.keep hb⟩⟩
theorem OwnTwo.touch {lo' hi':Nat} (h:OwnTwo T w lo hi a ca xa b cb xb) (ht:Touch w w' lo' hi') (hd:hi'≤lo):OwnTwo T w' lo hi a ca xa b cb xb:=by
 obtain ⟨m,hm,h | h⟩:=h
 · exact ⟨m,hm,.inl ⟨h.1.touch ht (.inr (by omega)),h.2.touch ht (.inr (by omega))⟩⟩
 · exact ⟨m,hm,.inr ⟨h.1.touch ht (.inr (by omega)),h.2.touch ht (.inr (by omega))⟩⟩
theorem OwnTwo.mono {lo' hi':Nat} (h:OwnTwo T w lo hi a ca xa b cb xb) (h1:lo'≤lo) (h2:hi≤hi'):OwnTwo T w lo' hi' a ca xa b cb xb:=by
 obtain ⟨m,hm,h | h⟩:=h
 · exact ⟨m,⟨by omega,by omega⟩,.inl ⟨h.1.mono h1 (Nat.le_refl _),h.2.mono (Nat.le_refl _) h2⟩⟩
 · exact ⟨m,⟨by omega,by omega⟩,.inr ⟨h.1.mono h1 (Nat.le_refl _),h.2.mono (Nat.le_refl _) h2⟩⟩
theorem OwnTwo.rd (h:OwnTwo T w lo hi a ca xa b cb xb):Rd w hi a (ae xa)∧Rd w hi b (ae xb):=by
 obtain ⟨m,hm,h | h⟩:=h
 · exact ⟨h.1.rd.mono hm.2,h.2.rd⟩
 · exact ⟨h.2.rd,h.1.rd.mono hm.2⟩
end
def OwnDd (w:World) (lo hi:Nat) (d:DD) (x:DA):Prop :=
 ∃ m1 m2 m3:Nat,(lo≤m1∧m1≤m2∧m2≤m3∧m3≤hi)∧OwnTwo 2 w lo m1 x.a x.ca d.A x.b x.cb d.B∧OwnI 2 w m1 m2 x.v x.cv d.V∧OwnTwo 2 w m2 m3 x.w x.cw d.W x.k x.ck d.K∧OwnF 79 w m3 hi x.f x.cf d.F
theorem OwnDd.keep {w w':World} {lo hi:Nat} {d:DD} {x:DA} (h:OwnDd w lo hi d x) (hb:Below w.heap.size w w'):OwnDd w' lo hi d x:=by
 obtain ⟨m1,m2,m3,hm,h1,h2,h3,h4⟩:=h;exact ⟨m1,m2,m3,hm,h1.keep hb,h2.keep hb,h3.keep hb,h4.keep hb⟩
theorem OwnDd.touch {w w':World} {lo hi lo' hi':Nat} {d:DD} {x:DA} (h:OwnDd w lo hi d x) (ht:Touch w w' lo' hi') (hd:hi'≤lo):OwnDd w' lo hi d x:=by
 obtain ⟨m1,m2,m3,hm,h1,h2,h3,h4⟩:=h;exact ⟨m1,m2,m3,hm,h1.touch ht (by omega),h2.touch ht (.inr (by omega)),h3.touch ht (by omega),h4.touch ht (.inr (by omega))⟩
theorem OwnDd.rd {w:World} {lo hi:Nat} {d:DD} {x:DA} (h:OwnDd w lo hi d x) (hf:∀ y∈d.F,y<4294967296):DRd w hi d x:=by
 obtain ⟨m1,m2,m3,hm,h1,h2,h3,h4⟩:=h;exact ⟨⟨h1.rd.1.mono (by omega),h1.rd.2.mono (by omega),h2.rd.mono (by omega),h3.rd.1.mono (by omega),h3.rd.2.mono (by omega),h4.rd⟩,hf⟩
theorem OwnDd.mono {w:World} {lo hi lo' hi':Nat} {d:DD} {x:DA} (h:OwnDd w lo hi d x) (h1:lo'≤lo) (h2:hi≤hi'):OwnDd w lo' hi' d x:=by
 obtain ⟨m1,m2,m3,hm,o1,o2,o3,o4⟩:=h;exact ⟨m1,m2,m3,by omega,o1.mono h1 (Nat.le_refl _),o2,o3,o4.mono (Nat.le_refl _) h2⟩
structure CpS (w wx:World) (d:DD) (y:DA):Prop where
 K:Blk wx w.heap.size (d.cells y) 33
 R:Blk wx (w.heap.size+1) [.int .i64 0,.int .i64 0,.slice none 0 0,.slice none 0 0,.int .i64 0,.int .i64 0,.slice none 0 0,.int .i64 0,.int .i64 0,.slice none 0 0,.slice none 0 0,.slice none 0 0] 33
 B:Below w.heap.size w wx
 s:w.heap.size+2≤wx.heap.size
theorem CpS.same {w wx wy:World} {d:DD} {y:DA} (h:CpS w wx d y) (hb:Below wx.heap.size wx wy):CpS w wy d y:=⟨h.K.same hb,h.R.same hb,aa h.B hb,Nat.le_trans h.s hb.size⟩
theorem ou (w:World) (g i j:Nat) (u v:Value):Touch w ((w.setCell ⟨g,i,none⟩ u).setCell ⟨g,j,none⟩ v) g (g+1):=(ar w g i u).trans (ar _ g j v)
theorem CpS.setAB {w wx:World} {d:DD} {y:DA} (h:CpS w wx d y) (a:Option Addr) (ca:Nat) (b:Option Addr) (cb:Nat):CpS w ((wx.setCell ⟨w.heap.size,2,none⟩ (.slice a d.A.length ca)).setCell ⟨w.heap.size,3,none⟩ (.slice b d.B.length cb)) d { y with a:=a,ca:=ca,b:=b,cb:=cb }:=by
 have m:=(h.K.set 2 (.slice a d.A.length ca)).set 3 (.slice b d.B.length cb);have t:=ou wx w.heap.size 2 3 (.slice a d.A.length ca) (.slice b d.B.length cb);exact ⟨m,h.R.touch t (.inr (by omega)),aE h.B t (Nat.le_refl _) (by have:=h.s;omega),Nat.le_trans h.s t.size⟩
theorem CpS.setWK {w wx:World} {d:DD} {y:DA} (h:CpS w wx d y) (a:Option Addr) (ca:Nat) (b:Option Addr) (cb:Nat):CpS w ((wx.setCell ⟨w.heap.size,9,none⟩ (.slice a d.W.length ca)).setCell ⟨w.heap.size,10,none⟩ (.slice b d.K.length cb)) d { y with w:=a,cw:=ca,k:=b,ck:=cb }:=by
 have m:=(h.K.set 9 (.slice a d.W.length ca)).set 10 (.slice b d.K.length cb);have t:=ou wx w.heap.size 9 10 (.slice a d.W.length ca) (.slice b d.K.length cb);exact ⟨m,h.R.touch t (.inr (by omega)),aE h.B t (Nat.le_refl _) (by have:=h.s;omega),Nat.le_trans h.s t.size⟩
theorem CpS.setV {w wx:World} {d:DD} {y:DA} (h:CpS w wx d y) (a:Option Addr) (ca:Nat):CpS w (wx.setCell ⟨w.heap.size,6,none⟩ (.slice a d.V.length ca)) d { y with v:=a,cv:=ca }:=by
 have m:=h.K.set 6 (.slice a d.V.length ca);have t:=ar wx w.heap.size 6 (.slice a d.V.length ca);exact ⟨m,h.R.touch t (.inr (by omega)),aE h.B t (Nat.le_refl _) (by have:=h.s;omega),Nat.le_trans h.s t.size⟩
theorem CpS.setF {w wx:World} {d:DD} {y:DA} (h:CpS w wx d y) (a:Option Addr) (ca:Nat):CpS w (wx.setCell ⟨w.heap.size,11,none⟩ (.slice a d.F.length ca)) d { y with f:=a,cf:=ca }:=by
 have m:=h.K.set 11 (.slice a d.F.length ca);have t:=ar wx w.heap.size 11 (.slice a d.F.length ca);exact ⟨m,h.R.touch t (.inr (by omega)),aE h.B t (Nat.le_refl _) (by have:=h.s;omega),Nat.le_trans h.s t.size⟩
theorem nK (w:World) (d:DD) (x:DA) (hk:d.ok=true) (h:DRd w w.heap.size d x) :
 Calls Tryz.prog 31 #[d.val x] w fun e w'=>∃ y:DA,e=.returned (d.val y)∧OwnDd w' w.heap.size w'.heap.size d y∧Below w.heap.size w w':=by
 obtain ⟨⟨a1,a2⟩,⟨b1,b2⟩,⟨v1,v2⟩,⟨l1,l2⟩,⟨k1,k2⟩,f1,f2⟩:=DD.ok_len hk;have LA:=Na (fun v (hb:Below w.heap.size w v)=>ej v x.a x.ca d.A (h.to hb).r.A a1 (by omega))
 have LB:=Na (fun v (hb:Below w.heap.size w v)=>ej v x.b x.cb d.B (h.to hb).r.B b1 (by omega))
 have LV:=Na (fun v (hb:Below w.heap.size w v)=>ej v x.v x.cv d.V (h.to hb).r.V v1 (by omega))
 have LW:=Na (fun v (hb:Below w.heap.size w v)=>ej v x.w x.cw d.W (h.to hb).r.W l1 (by omega))
 have LK:=Na (fun v (hb:Below w.heap.size w v)=>ej v x.k x.ck d.K (h.to hb).r.C k1 (by omega))
 have LF:=Na (fun v (hb:Below w.heap.size w v)=>Dw v x.f x.cf d.F (h.to hb).r.T f1 (by omega))
 unfold DD.val;obtain ⟨w1,hw1⟩:∃ X,X=(w.alloc (.cells #[.int .i64 d.R,.int .i64 d.C,.slice x.a d.A.length x.ca,.slice x.b d.B.length x.cb,.int .i64 d.P,.int .i64 d.T,.slice x.v d.V.length x.cv,.int .i64 d.U,.int .i64 d.N,.slice x.w d.W.length x.cw,.slice x.k d.K.length x.ck,.slice x.f d.F.length x.cf] 33)).alloc (.cells #[.int .i64 0,.int .i64 0,.slice none 0 0,.slice none 0 0,.int .i64 0,.int .i64 0,.slice none 0 0,.int .i64 0,.int .i64 0,.slice none 0 0,.slice none 0 0,.slice none 0 0] 33):=⟨_,rfl⟩;have S1:Hid (CpS w w1 d x):=by
  refine ⟨?_,?_,?_,by rw [hw1];simp⟩
  · rw [hw1];exact (Blk.new w _ _).alloc _
  · rw [hw1]
    have:=Blk.new (w.alloc (.cells #[.int .i64 d.R,.int .i64 d.C,.slice x.a d.A.length x.ca,.slice x.b d.B.length x.cb,.int .i64 d.P,.int .i64 d.T,.slice x.v d.V.length x.cv,.int .i64 d.U,.int .i64 d.N,.slice x.w d.W.length x.cw,.slice x.k d.K.length x.ck,.slice x.f d.F.length x.cf] 33)) [.int .i64 0,.int .i64 0,.slice none 0 0,.slice none 0 0,.int .i64 0,.int .i64 0,.slice none 0 0,.int .i64 0,.int .i64 0,.slice none 0 0,.slice none 0 0,.slice none 0 0] 33;rwa [World.size_alloc] at this
  · rw [hw1];exact bR _ _ _
 clear h hk a1 a2 b1 b2 v1 v2 l1 l2 k1 k2 f1 f2
 go_enter Tryz.func31,Tryz.ntmps31;go_wp2_with fail;rw [← hw1];clear hw1;obtain ⟨z0,z1,z2,z3,z4,z5,z6,z7,z8,z9,z10,z11⟩:=af S1.out.K;have g2:w1.frozen? ⟨w.heap.size,2,none⟩=false:=S1.out.K.free 2;have g3:w1.frozen? ⟨w.heap.size,3,none⟩=false:=S1.out.K.free 3;have D1:Hid (Below w.heap.size w w1.drew):=au S1.out.B;have Sd:Hid (CpS w w1.drew d x):=⟨S1.out.K,S1.out.R,D1.out,S1.out.s⟩;have DT:Hid (Touch w1 w1.drew w.heap.size (w.heap.size+1)):=⟨rfl,rfl,rfl,Nat.le_refl _,fun _ _ _=>rfl⟩
 clear z0 z1 z4 z5 z6 z7 z8 z9 z10 z11
 go_upto_region 2 with fail
 go_cut [6] (fun _ wx=>∃ (aA:Option Addr) (cA:Nat) (aB:Option Addr) (cB:Nat),Hid (CpS w wx d { x with a:=aA,ca:=cA,b:=aB,cb:=cB })∧Hid (OwnTwo 2 wx w1.heap.size wx.heap.size aA cA d.A aB cB d.B)∧Hid (Touch w1 wx w.heap.size (w.heap.size+1)))
 case first =>
  go_region_with (first
   | (go_at_call 69;(with_reducible refine (LA.out _ D1.out).mono ?_);rintro e wA ⟨aA,cA,rfl,oA,hA⟩;have SA:=Sd.out.same hA;have DA':=aa D1.out hA;have oA1:=oA.mono (lo':=w1.heap.size) (hi':=wA.heap.size) (Nat.le_refl _) (Nat.le_refl _);obtain ⟨y0,y1,y2,y3,y4,y5,y6,y7,y8,y9,y10,y11⟩:=af SA.K;have gA2:=SA.K.free 2;have gA3:=SA.K.free 3)
   | (go_at_call 69;(with_reducible refine (LB.out _ DA').mono ?_);rintro e wB ⟨aB,cB,rfl,oB,hB⟩;have SB:=SA.same hB;have HT:Hid (OwnTwo 2 wB w1.heap.size wB.heap.size aA cA d.A aB cB d.B):=⟨wA.heap.size,⟨hA.size,hB.size⟩,.inl ⟨oA1.keep hB,oB⟩⟩;have TT:Hid (Touch w1 wB w.heap.size (w.heap.size+1)):=(DT.out.trans (Below.touch hA w.heap.size (w.heap.size+1))).trans (Below.touch hB w.heap.size (w.heap.size+1));obtain ⟨u0,u1,u2,u3,u4,u5,u6,u7,u8,u9,u10,u11⟩:=af SB.K;have gB2:=SB.K.free 2;have gB3:=SB.K.free 3))
  all_goals
   go_wp2_with fail
   go_meet
   obtain ⟨wz,hwz⟩:∃ X,X=(wB.setCell ⟨w.heap.size,2,none⟩ (.slice aA d.A.length cA)).setCell ⟨w.heap.size,3,none⟩ (.slice aB d.B.length cB):=⟨_,rfl⟩;have hs:wz.heap.size=wB.heap.size:=by rw [hwz];simp
   have SZ:Hid (CpS w wz d { x with a:=aA,ca:=cA,b:=aB,cb:=cB }):=by rw [hwz];exact SB.setAB aA cA aB cB
   have TZ:Touch wB wz w.heap.size (w.heap.size+1):=by rw [hwz];exact ou _ _ _ _ _ _
   have OZ:Hid (OwnTwo 2 wz w1.heap.size wz.heap.size aA cA d.A aB cB d.B):=by
    rw [hs];exact HT.out.touch TZ (by have:=S1.out.s;omega)
   have TT2:Hid (Touch w1 wz w.heap.size (w.heap.size+1)):=TT.out.trans TZ;rw [← hwz];exact ⟨aA,cA,aB,cB,SZ,OZ,TT2⟩
 case rest =>
  obtain ⟨a1,c1,b1,d1,S2,O2,T2⟩:=hcut;have hs1:=S1.out.s;have s12:=T2.out.size;clear LA LB S1 T2;obtain ⟨w2,hw2⟩:∃ X:World,X=wc:=⟨_,rfl⟩;subst hw2;obtain ⟨-,-,-,-,-,-,q6,-,-,-,-,-⟩:=af S2.out.K;dsimp only at q6;go_wp2_with fail;refine (LV.out _ S2.out.B).mono ?_;rintro e w3 ⟨aV,cV,rfl,oV,hb3⟩;have S3:=Na (S2.out.same hb3);have OV:=Na oV;have O3:=Na (O2.out.keep hb3);have s23:=hb3.size;obtain ⟨-,-,-,-,-,-,p6,-,-,-,-,-⟩:=af S3.out.K;have g6:=S3.out.K.free 6;clear q6 S2 O2 oV hb3 LV;go_wp2_with fail;obtain ⟨w4,hw4⟩:∃ X,X=w3.setCell ⟨w.heap.size,6,none⟩ (.slice aV d.V.length cV):=⟨_,rfl⟩;have hs4:w4.heap.size=w3.heap.size:=by rw [hw4];simp
  have S4:Hid (CpS w w4 d { x with a:=a1,ca:=c1,b:=b1,cb:=d1,v:=aV,cv:=cV }):=by rw [hw4];exact S3.out.setV aV cV
  have T4:Touch w3 w4 w.heap.size (w.heap.size+1):=by rw [hw4];exact ar _ _ _ _
  have O4:=Na (O3.out.touch T4 (by omega))
  have V4:=Na (OV.out.touch T4 (.inr (by have:=S3.out.s;omega)))
  rw [← hw4];clear hw4 T4 S3 O3 OV p6 g6;obtain ⟨z0,z1,z2,z3,z4,z5,z6,z7,z8,z9,z10,z11⟩:=af S4.out.K;dsimp only at z9 z10;have g9:w4.frozen? ⟨w.heap.size,9,none⟩=false:=S4.out.K.free 9;have g10:w4.frozen? ⟨w.heap.size,10,none⟩=false:=S4.out.K.free 10;have D1:Hid (Below w.heap.size w w4.drew):=au S4.out.B;have Sd:Hid (CpS w w4.drew d { x with a:=a1,ca:=c1,b:=b1,cb:=d1,v:=aV,cv:=cV }):=⟨S4.out.K,S4.out.R,D1.out,S4.out.s⟩
  have DT:Hid (Touch w4 w4.drew w.heap.size (w.heap.size+1)):=⟨rfl,rfl,rfl,Nat.le_refl _,fun _ _ _=>rfl⟩
  clear z0 z1 z2 z3 z4 z5 z6 z7 z8 z11
  go_upto_region 4 with fail
  go_cut [6] (fun _ wx=>∃ (aA:Option Addr) (cA:Nat) (aB:Option Addr) (cB:Nat),Hid (CpS w wx d { x with a:=a1,ca:=c1,b:=b1,cb:=d1,v:=aV,cv:=cV,w:=aA,cw:=cA,k:=aB,ck:=cB })∧Hid (OwnTwo 2 wx w4.heap.size wx.heap.size aA cA d.W aB cB d.K)∧Hid (Touch w4 wx w.heap.size (w.heap.size+1)))
  case first =>
   go_region_with (first
    | (go_at_call 69;(with_reducible refine (LW.out _ D1.out).mono ?_);rintro e wA ⟨aA,cA,rfl,oA,hA⟩;have SA:=Sd.out.same hA;have DA':=aa D1.out hA;have oA1:=oA.mono (lo':=w4.heap.size) (hi':=wA.heap.size) (Nat.le_refl _) (Nat.le_refl _);obtain ⟨y0,y1,y2,y3,y4,y5,y6,y7,y8,y9,y10,y11⟩:=af SA.K;have gA2:=SA.K.free 9;have gA3:=SA.K.free 10)
    | (go_at_call 69;(with_reducible refine (LK.out _ DA').mono ?_);rintro e wB ⟨aB,cB,rfl,oB,hB⟩;have SB:=SA.same hB;have HT:Hid (OwnTwo 2 wB w4.heap.size wB.heap.size aA cA d.W aB cB d.K):=⟨wA.heap.size,⟨hA.size,hB.size⟩,.inl ⟨oA1.keep hB,oB⟩⟩;have TT:Hid (Touch w4 wB w.heap.size (w.heap.size+1)):=(DT.out.trans (Below.touch hA w.heap.size (w.heap.size+1))).trans (Below.touch hB w.heap.size (w.heap.size+1));obtain ⟨u0,u1,u2,u3,u4,u5,u6,u7,u8,u9,u10,u11⟩:=af SB.K;have gB2:=SB.K.free 9;have gB3:=SB.K.free 10))
   all_goals
    go_wp2_with fail
    go_meet
    obtain ⟨wz,hwz⟩:∃ X,X=(wB.setCell ⟨w.heap.size,9,none⟩ (.slice aA d.W.length cA)).setCell ⟨w.heap.size,10,none⟩ (.slice aB d.K.length cB):=⟨_,rfl⟩;have hs:wz.heap.size=wB.heap.size:=by rw [hwz];simp
    have SZ:Hid (CpS w wz d { x with a:=a1,ca:=c1,b:=b1,cb:=d1,v:=aV,cv:=cV,w:=aA,cw:=cA,k:=aB,ck:=cB }):=by rw [hwz];exact SB.setWK aA cA aB cB
    have TZ:Touch wB wz w.heap.size (w.heap.size+1):=by rw [hwz];exact ou _ _ _ _ _ _
    have OZ:Hid (OwnTwo 2 wz w4.heap.size wz.heap.size aA cA d.W aB cB d.K):=by
     rw [hs];exact HT.out.touch TZ (by have:=S4.out.s;omega)
    have TT2:Hid (Touch w4 wz w.heap.size (w.heap.size+1)):=TT.out.trans TZ;rw [← hwz];exact ⟨aA,cA,aB,cB,SZ,OZ,TT2⟩
  case rest =>
   obtain ⟨a2,c2,b2,d2,S5,W5,T5⟩:=hcut;obtain ⟨w5a,hw5⟩:∃ X:World,X=wc:=⟨_,rfl⟩;subst hw5;have O5:=Na (O4.out.touch T5.out (by omega))
   have V5:=Na (V4.out.touch T5.out (.inr (by have:=S4.out.s;omega)))
   have s45:=T5.out.size;clear LW LK S4 O4 V4 T5;obtain ⟨-,-,-,-,-,-,-,-,-,-,-,q11⟩:=af S5.out.K;dsimp only at q11;go_wp2_with fail;refine (LF.out _ S5.out.B).mono ?_;rintro e w6 ⟨aF,cF,rfl,oF,hb6⟩;have S6:=Na (S5.out.same hb6);have OF:=Na oF;have O6:=Na (O5.out.keep hb6);have V6:=Na (V5.out.keep hb6);have W6:=Na (W5.out.keep hb6);have s56:=hb6.size;obtain ⟨-,-,-,-,-,-,-,-,-,-,-,p11⟩:=af S6.out.K;have g11:=S6.out.K.free 11;obtain ⟨w7,hw7⟩:∃ X,X=w6.setCell ⟨w.heap.size,11,none⟩ (.slice aF d.F.length cF):=⟨_,rfl⟩;have hs7:w7.heap.size=w6.heap.size:=by rw [hw7];simp
   have S7:Hid (CpS w w7 d { x with a:=a1,ca:=c1,b:=b1,cb:=d1,v:=aV,cv:=cV,w:=a2,cw:=c2,k:=b2,ck:=d2,f:=aF,cf:=cF }):=by rw [hw7];exact S6.out.setF aF cF
   have T7:Hid (Touch w6 w7 w.heap.size (w.heap.size+1)):=by rw [hw7];exact ar _ _ _ _
   obtain ⟨r0,r1,r2,r3,r4,r5,r6,r7,r8,r9,r10,r11⟩:=af S7.out.K;dsimp only at r0 r1 r2 r3 r4 r5 r6 r7 r8 r9 r10 r11;obtain ⟨j0,j1,j2,j3,j4,j5,j6,j7,j8,j9,j10,j11⟩:=af S7.out.R;have jf0:=S7.out.R.free 0;have jf1:=S7.out.R.free 1;have jf2:=S7.out.R.free 2;have jf3:=S7.out.R.free 3;have jf4:=S7.out.R.free 4;have jf5:=S7.out.R.free 5;have jf6:=S7.out.R.free 6;have jf7:=S7.out.R.free 7;have jf8:=S7.out.R.free 8;have jf9:=S7.out.R.free 9;have jf10:=S7.out.R.free 10;have jf11:=S7.out.R.free 11;rw [hw7] at r0 r1 r2 r3 r4 r5 r6 r7 r8 r9 r10 r11 j0 j1 j2 j3 j4 j5 j6 j7 j8 j9 j10 j11 jf0 jf1 jf2 jf3 jf4 jf5 jf6 jf7 jf8 jf9 jf10 jf11;clear q11 S5 O5 V5 W5 oF hb6 LF S6
   go_upto_region 5 with fail
   rw [← hw7];have O7:=Na (O6.out.touch T7.out (by omega))
   have V7:=Na (V6.out.touch T7.out (.inr (by omega)))
   have W7:=Na (W6.out.touch T7.out (by omega))
   have F7:=Na (OF.out.touch T7.out (.inr (by omega)))
   clear hw7 O6 V6 W6 OF T7 p11 g11 r0 r1 r2 r3 r4 r5 r6 r7 r8 r9 r10 r11 j0 j1 j2 j3 j4 j5 j6 j7 j8 j9 j10 j11 jf0 jf1 jf2 jf3 jf4 jf5 jf6 jf7 jf8 jf9 jf10 jf11;obtain ⟨r0,r1,r2,r3,r4,r5,r6,r7,r8,r9,r10,r11⟩:=af S7.out.K;dsimp only at r0 r1 r2 r3 r4 r5 r6 r7 r8 r9 r10 r11;obtain ⟨j0,j1,j2,j3,j4,j5,j6,j7,j8,j9,j10,j11⟩:=af S7.out.R;have jf0:=S7.out.R.free 0;have jf1:=S7.out.R.free 1;have jf2:=S7.out.R.free 2;have jf3:=S7.out.R.free 3;have jf4:=S7.out.R.free 4;have jf5:=S7.out.R.free 5;have jf6:=S7.out.R.free 6;have jf7:=S7.out.R.free 7;have jf8:=S7.out.R.free 8;have jf9:=S7.out.R.free 9;have jf10:=S7.out.R.free 10;have jf11:=S7.out.R.free 11;go_wp2_with fail;obtain ⟨w8,hw8⟩:∃ X,X=((((((((((((w7.setCell ⟨w.heap.size+1,0,none⟩ (.int .i64 d.R)).setCell ⟨w.heap.size+1,1,none⟩ (.int .i64 d.C)).setCell ⟨w.heap.size+1,2,none⟩ (.slice a1 d.A.length c1)).setCell ⟨w.heap.size+1,3,none⟩ (.slice b1 d.B.length d1)).setCell ⟨w.heap.size+1,4,none⟩ (.int .i64 d.P)).setCell ⟨w.heap.size+1,5,none⟩ (.int .i64 d.T)).setCell ⟨w.heap.size+1,6,none⟩ (.slice aV d.V.length cV)).setCell ⟨w.heap.size+1,7,none⟩ (.int .i64 d.U)).setCell ⟨w.heap.size+1,8,none⟩ (.int .i64 d.N)).setCell ⟨w.heap.size+1,9,none⟩ (.slice a2 d.W.length c2)).setCell ⟨w.heap.size+1,10,none⟩ (.slice b2 d.K.length d2)).setCell ⟨w.heap.size+1,11,none⟩ (.slice aF d.F.length cF)):=⟨_,rfl⟩;have hp:fg w7 (w.heap.size+1) (.int .i64 d.R) (.int .i64 d.C) (.slice a1 d.A.length c1) (.slice b1 d.B.length d1) (.int .i64 d.P) (.int .i64 d.T) (.slice aV d.V.length cV) (.int .i64 d.U) (.int .i64 d.N) (.slice a2 d.W.length c2) (.slice b2 d.K.length d2) (.slice aF d.F.length cF)=w8:=by rw [hw8];rfl
   have T8:Touch w7 w8 (w.heap.size+1) (w.heap.size+1+1):=by rw [← hp];exact et _ _ _ _ _ _ _ _ _ _ _ _ _ _
   have K8:Blk w8 (w.heap.size+1) (d.cells { x with a:=a1,ca:=c1,b:=b1,cb:=d1,v:=aV,cv:=cV,w:=a2,cw:=c2,k:=b2,ck:=d2,f:=aF,cf:=cF }) 33:=by rw [← hp];exact fS S7.out.R _ _ _ _ _ _ _ _ _ _ _ _
   have hs8:w8.heap.size=w7.heap.size:=by rw [← hp];exact nj _ _ _ _ _ _ _ _ _ _ _ _ _ _
   rw [← hw8];clear hw8 hp r0 r1 r2 r3 r4 r5 r6 r7 r8 r9 r10 r11 j0 j1 j2 j3 j4 j5 j6 j7 j8 j9 j10 j11;have HO:Hid (OwnDd w8 w.heap.size w8.heap.size d { x with a:=a1,ca:=c1,b:=b1,cb:=d1,v:=aV,cv:=cV,w:=a2,cw:=c2,k:=b2,ck:=d2,f:=aF,cf:=cF }) :=
    ⟨w2.heap.size,w4.heap.size,w5a.heap.size,⟨by omega,by omega,by omega,by omega⟩,(O7.out.touch T8 (by omega)).mono (by omega) (Nat.le_refl _),(V7.out.touch T8 (.inr (by omega))).mono (Nat.le_refl _) (by omega),(W7.out.touch T8 (by omega)),(F7.out.touch T8 (.inr (by omega))).mono (Nat.le_refl _) (by omega)⟩
   have HB:Hid (Below w.heap.size w w8):=aE S7.out.B T8 (by omega) (by omega)
   obtain ⟨t0,t1,t2,t3,t4,t5,t6,t7,t8,t9,t10,t11⟩:=af K8;dsimp only at t0 t1 t2 t3 t4 t5 t6 t7 t8 t9 t10 t11;refine bodyPost_ret (v:=.agg #[.int .i64 d.R,.int .i64 d.C,.slice a1 d.A.length c1,.slice b1 d.B.length d1,.int .i64 d.P,.int .i64 d.T,.slice aV d.V.length cV,.int .i64 d.U,.int .i64 d.N,.slice a2 d.W.length c2,.slice b2 d.K.length d2,.slice aF d.F.length cF]) (by simp [results,Tryz.results31,go_sem,t0,t1,t2,t3,t4,t5,t6,t7,t8,t9,t10,t11]) rfl ?_
   exact ⟨{ x with a:=a1,ca:=c1,b:=b1,cb:=d1,v:=aV,cv:=cV,w:=a2,cw:=c2,k:=b2,ck:=d2,f:=aF,cf:=cF },rfl,HO.out,HB.out⟩
end Go.Proofs.YtbknhgapjjaelaaGreatDoor
