/-
  Part 15 of what the proof stands on: lemmas and contracts, each with its conditions ahead of the colon.
-/
import Derived.Deep.RegionHeld3
import Derived.Test.YtbknhgapjjaelaaGreatDoorPk01
import Derived.Test.YtbknhgapjjaelaaGreatDoorPk02
import Derived.Test.YtbknhgapjjaelaaGreatDoorPk03
import Derived.Test.YtbknhgapjjaelaaGreatDoorPk04
import Derived.Test.YtbknhgapjjaelaaGreatDoorPk11
set_option maxRecDepth 10000
set_option maxHeartbeats 8000000
namespace Go.Proofs.YtbknhgapjjaelaaGreatDoor
set_option linter.unusedVariables false
set_option linter.unusedSimpArgs false
open Go.RowKit
def ec (U R:Int) (x2:List Int):Option (List UInt8):=if bu U R x2 then some (aJ [[U,R],x2]) else none
theorem oy {U R:Int} {x2:List Int} (h:bu U R x2=true):∀ x∈[[U,R],x2],bq x=true:=by
 simp only [bu,Bool.and_eq_true,bH,fT] at h;obtain ⟨⟨⟨v1,v2⟩,v3,v4⟩,⟨v5,v6⟩,v7⟩:=h;have hp:=sx v1 v2 v3 v4;intro x hx;simp only [List.mem_cons,List.not_mem_nil,or_false] at hx
 rcases hx with rfl | rfl
 · refine iZ (fun y hy=>?_) (by simp)
   simp only [List.mem_cons,List.not_mem_nil,or_false] at hy;omega
 · exact iZ (fun y hy=>by have:=v7 y hy;omega) (by omega)
theorem pw (w:World) (ht:Tab w) (U R:Int) (a2:Option Addr) (c2:Nat) (x2:List Int) (h:RdValues w w.heap.size a2 x2) (hl2:x2.length≤1048576) :
 Calls Tryz.prog 15 #[.agg #[.int .i64 U,.int .i64 R,.slice a2 x2.length c2]] w fun e w'=>e=.returned (.tuple #[.string (bs ((ec U R x2).getD [])),.bool (ec U R x2).isSome])∧Below w.heap.size w w':=by
 have LV:=Na (fun v hb=>eo v U R a2 c2 x2 (h.to hb) hl2)
 have B0:=ah w (.cells #[.int .i64 U,.int .i64 R,.slice a2 x2.length c2] 28);have K0:=Blk.new w [.int .i64 U,.int .i64 R,.slice a2 x2.length c2] 28
 cases t1:bu U R x2 with
 | false =>
   have HF:Hid (ec U R x2=none):=by simp [Hid,ec,t1]
   rw [t1] at LV;clear h t1
   go_enter Tryz.func15,Tryz.ntmps15;go_wp2_with fail;refine (LV.out _ B0).mono ?_;rintro e w1 ⟨rfl,hb1⟩;go_wp2_with fail
   go_ret2
   rw [HF.out];exact ⟨rfl,aa B0 hb1⟩
 | true =>
   have HF:Hid (ec U R x2=some (aJ [[U,R],x2])):=by simp [Hid,ec,t1]
   have HOK:=Na (oy t1);rw [t1] at LV;have HT:=Na ht;have HA:=Na h;clear h t1 ht
   go_enter Tryz.func15,Tryz.ntmps15;go_wp2_with fail;refine (LV.out _ B0).mono ?_;rintro e w1 ⟨rfl,hb1⟩;have B1:=aa B0 hb1;have K1:=K0.same hb1;have k0:=K1.cell 0;have k1:=K1.cell 1;have k2:=K1.cell 2;simp only [List.getElem?_cons_zero,List.getElem?_cons_succ] at k0 k1 k2;have HA1:=HA.out.to B1;have HT1:=Na (HT.out.to B1);have q2:=(ah w1 (.cells #[.int .i64 U,.int .i64 R] 2)).cell (p:=⟨w.heap.size,2,none⟩) K1.lt;rw [k2] at q2;have HB:=Na B1;have hHA:=Na HA1;clear B1 K1 B0 K0 hb1 HA1 HT HA;go_wp2_with fail;have b2:=bR w1 (.cells #[.int .i64 U,.int .i64 R] 2) (.cells #[.slice (some ⟨w1.heap.size,0,none⟩) 2 2,.slice a2 x2.length c2] 24);obtain ⟨e1,e2⟩:=zC w1 [.int .i64 U,.int .i64 R] [.slice (some ⟨w1.heap.size,0,none⟩) 2 2,.slice a2 x2.length c2] 2 24;have hA2:=hHA.out.to b2;refine (jP _ (HT1.out.to b2) _ _ [[U,R],x2] (MX e2 e1 hA2) (by simp) HOK.out).mono ?_
   rintro e w2 ⟨rfl,hb2⟩;have hB:=aa HB.out (aa b2 hb2);clear b2 e1 e2 hA2 hb2;go_wp2_with fail
   go_ret2
   rw [HF.out];exact ⟨rfl,hB⟩
theorem yx (w:World) (b o:Nat) (U R:Int) (a2:Option Addr) (c2:Nat) (x2:List Int)
 (d0:w.cell? ⟨b,o,none⟩=some (.int .i64 U)) (d1:w.cell? ⟨b,o+1,none⟩=some (.int .i64 R)) (d2:w.cell? ⟨b,o+2,none⟩=some (.slice a2 x2.length c2))
 (h:RdValues w w.heap.size a2 x2) (ok:∀ x∈[[U,R],x2],bq x=true) :
 Calls Tryz.prog 63 #[.pointer (some ⟨b,o,none⟩)] w fun e w'=>e=.returned (.string (bs (aJ [[U,R],x2])))∧Below w.heap.size w w':=by
 have hbk:=World.block_lt_of_cell? w _ d0;have HS:Hid (∀ w',Below w.heap.size w w'→(w'.cell? ⟨b,o,none⟩=some (.int .i64 U)∧w'.cell? ⟨b,o+1,none⟩=some (.int .i64 R)∧w'.cell? ⟨b,o+2,none⟩=some (.slice a2 x2.length c2))):=fun w' hb =>
  ⟨(hb.cell (p:=⟨b,o,none⟩) hbk).trans d0,(hb.cell (p:=⟨b,o+1,none⟩) hbk).trans d1,(hb.cell (p:=⟨b,o+2,none⟩) hbk).trans d2⟩
 have o0:=ok [U,R] (by simp)
 have o1:=ok x2 (by simp)
 have LU:Hid (Calls Tryz.prog 96 #[.slice (some ⟨w.heap.size,0,none⟩) 2 2] (w.alloc (.cells #[.int .i64 U,.int .i64 R] 2)).drew _):=fl (w.alloc (.cells #[.int .i64 U,.int .i64 R] 2)).drew (some ⟨w.heap.size,0,none⟩) 2 [U,R] (fw (show Blk (w.alloc (.cells #[.int .i64 U,.int .i64 R] 2)).drew _ _ _ from Blk.new w [.int .i64 U,.int .i64 R] 2)) (by simp) (eh o0).1
 have HD:Hid (Below w.heap.size w w.drew):=au (Below.refl _ _);have HE:Hid (Below w.heap.size w (w.alloc (.cells #[.int .i64 U,.int .i64 R] 2)).drew):=au (ah _ _);have LW:=Na (fun (w':World) (hb:Below w.heap.size w w')=>fl w' a2 c2 x2 (Rd.to h hb) (by have:=(eh o1).2;omega) (eh o1).1)
 have z0:=gJ o0;have z1:=gJ o1;have HP:=Na (Md [U,R] x2);have HQ:Hid (bs (az [U,R]) ++ ⟨#[59]⟩ ++ bs (az x2)=bs (aJ [[U,R],x2])):=by
  show _=_
  rw [HP.out,← bG,← bG];rfl
 generalize bs (az [U,R])=T0 at *
 generalize bs (az x2)=T1 at *
 have n0:¬ 9223372036854775807<T0.size+1:=by omega
 have n1:¬ 9223372036854775807<T0.size+1+T1.size:=by omega
 clear HP o0 o1 h ok
 go_enter Tryz.func63,Tryz.ntmps63;obtain ⟨d0,d1,d2⟩:=HS.out _ (Below.refl _ _);go_wp2_with fail
 go_region_held3 (fun w'=>w'.cell? ⟨b,o,none⟩=some (.int .i64 U)∧w'.cell? ⟨b,o+1,none⟩=some (.int .i64 R)∧w'.cell? ⟨b,o+2,none⟩=some (.slice a2 x2.length c2))
  (first | with_reducible exact HS.out _ hB2 | with_reducible exact HS.out _ hB1 | with_reducible exact HS.out _ HD.out | with_reducible exact HS.out _ HE.out)
  (first | (go_at_call 96;with_reducible refine (LU.out).mono ?_;rintro e w4 ⟨rfl,hz1⟩;have hB1:=aa HE.out hz1) | (go_at_call 96;with_reducible refine (LW.out _ hB1).mono ?_;rintro e w5 ⟨rfl,hz2⟩;have hB2:=aa hB1 hz2))
 all_goals
  clear hz1 hz2 hB1;go_wp2_with fail;go_ret;exact ⟨by rw [← HQ.out];rfl,hB2⟩
def eE (U R:Int) (x2 x3:List Int):Option (List UInt8):=if bt ⟨U,R,x2,x3⟩ then some (aJ [[U,R],x2,x3]) else none
theorem qD {U R:Int} {x2 x3:List Int} (h:bt ⟨U,R,x2,x3⟩=true):∀ x∈[[U,R],x2,x3],bq x=true:=by
 have v:=ee h;have v1:=v.u1;have v2:=v.u8;have v3:=v.r1;have v4:=v.r8;have v5:=v.w8;have v6:=v.way;have v7:=v.clen;have v8:=v.cost;have hp:=Dj v1 v2 v3 v4;simp only at v1 v2 v3 v4 v5 v6 v7 v8 hp;intro x hx;simp only [List.mem_cons,List.not_mem_nil,or_false] at hx
 rcases hx with rfl | rfl | rfl
 · refine iZ (fun y hy=>?_) (by simp)
   simp only [List.mem_cons,List.not_mem_nil,or_false] at hy;omega
 · exact iZ (fun y hy=>by have:=v6 y hy;omega) (by omega)
 · exact iZ (fun y hy=>by have:=v8 y hy;omega) (by omega)
theorem qP (w:World) (ht:Tab w) (U R:Int) (a2:Option Addr) (c2:Nat) (x2:List Int) (a3:Option Addr) (c3:Nat) (x3:List Int) (h:RdCrowd w w.heap.size a2 x2 a3 x3) (hl2:x2.length≤1048576) (hl3:x3.length≤1048576) :
 Calls Tryz.prog 17 #[.agg #[.int .i64 U,.int .i64 R,.slice a2 x2.length c2,.slice a3 x3.length c3]] w fun e w'=>e=.returned (.tuple #[.string (bs ((eE U R x2 x3).getD [])),.bool (eE U R x2 x3).isSome])∧Below w.heap.size w w':=by
 have LV:=Na (fun v hb=>dD v U R a2 c2 x2 a3 c3 x3 (h.to hb) hl2 hl3)
 have B0:=ah w (.cells #[.int .i64 U,.int .i64 R,.slice a2 x2.length c2,.slice a3 x3.length c3] 30);have K0:=Blk.new w [.int .i64 U,.int .i64 R,.slice a2 x2.length c2,.slice a3 x3.length c3] 30
 cases t1:bt ⟨U,R,x2,x3⟩ with
 | false =>
   have HF:Hid (eE U R x2 x3=none):=by simp [Hid,eE,t1]
   rw [t1] at LV;clear h t1
   go_enter Tryz.func17,Tryz.ntmps17;go_wp2_with fail;refine (LV.out _ B0).mono ?_;rintro e w1 ⟨rfl,hb1⟩;go_wp2_with fail
   go_ret2
   rw [HF.out];exact ⟨rfl,aa B0 hb1⟩
 | true =>
   have HF:Hid (eE U R x2 x3=some (aJ [[U,R],x2,x3])):=by simp [Hid,eE,t1]
   have HOK:=Na (qD t1);rw [t1] at LV;have HT:=Na ht;have HA:=Na h;clear h t1 ht
   go_enter Tryz.func17,Tryz.ntmps17;go_wp2_with fail;refine (LV.out _ B0).mono ?_;rintro e w1 ⟨rfl,hb1⟩;have B1:=aa B0 hb1;have K1:=K0.same hb1;have k0:=K1.cell 0;have k1:=K1.cell 1;have k2:=K1.cell 2;have k3:=K1.cell 3;simp only [List.getElem?_cons_zero,List.getElem?_cons_succ] at k0 k1 k2 k3;have HA1:=HA.out.to B1;have HT1:=Na (HT.out.to B1);have q2:=(ah w1 (.cells #[.int .i64 U,.int .i64 R] 2)).cell (p:=⟨w.heap.size,2,none⟩) K1.lt;have q3:=(ah w1 (.cells #[.int .i64 U,.int .i64 R] 2)).cell (p:=⟨w.heap.size,3,none⟩) K1.lt;rw [k2] at q2;rw [k3] at q3;have HB:=Na B1;have hHA:=Na HA1;clear B1 K1 B0 K0 hb1 HA1 HT HA;go_wp2_with fail;have b2:=bR w1 (.cells #[.int .i64 U,.int .i64 R] 2) (.cells #[.slice (some ⟨w1.heap.size,0,none⟩) 2 2,.slice a2 x2.length c2,.slice a3 x3.length c3] 24);obtain ⟨e1,e2⟩:=zC w1 [.int .i64 U,.int .i64 R] [.slice (some ⟨w1.heap.size,0,none⟩) 2 2,.slice a2 x2.length c2,.slice a3 x3.length c3] 2 24;have hA2:=hHA.out.to b2;refine (jP _ (HT1.out.to b2) _ _ [[U,R],x2,x3] (Lz e2 e1 hA2.1 hA2.2) (by simp) HOK.out).mono ?_
   rintro e w2 ⟨rfl,hb2⟩;have hB:=aa HB.out (aa b2 hb2);clear b2 e1 e2 hA2 hb2;go_wp2_with fail
   go_ret2
   rw [HF.out];exact ⟨rfl,hB⟩
theorem At (w:World) (b o:Nat) (U R:Int) (a2:Option Addr) (c2:Nat) (x2:List Int) (a3:Option Addr) (c3:Nat) (x3:List Int)
 (d0:w.cell? ⟨b,o,none⟩=some (.int .i64 U)) (d1:w.cell? ⟨b,o+1,none⟩=some (.int .i64 R)) (d2:w.cell? ⟨b,o+2,none⟩=some (.slice a2 x2.length c2)) (d3:w.cell? ⟨b,o+3,none⟩=some (.slice a3 x3.length c3))
 (h:RdCrowd w w.heap.size a2 x2 a3 x3) (ok:∀ x∈[[U,R],x2,x3],bq x=true) :
 Calls Tryz.prog 64 #[.pointer (some ⟨b,o,none⟩)] w fun e w'=>e=.returned (.string (bs (aJ [[U,R],x2,x3])))∧Below w.heap.size w w':=by
 have hbk:=World.block_lt_of_cell? w _ d0;have HS:Hid (∀ w',Below w.heap.size w w'→(w'.cell? ⟨b,o,none⟩=some (.int .i64 U)∧w'.cell? ⟨b,o+1,none⟩=some (.int .i64 R)∧w'.cell? ⟨b,o+2,none⟩=some (.slice a2 x2.length c2)∧w'.cell? ⟨b,o+3,none⟩=some (.slice a3 x3.length c3))):=fun w' hb =>
  ⟨(hb.cell (p:=⟨b,o,none⟩) hbk).trans d0,(hb.cell (p:=⟨b,o+1,none⟩) hbk).trans d1,(hb.cell (p:=⟨b,o+2,none⟩) hbk).trans d2,(hb.cell (p:=⟨b,o+3,none⟩) hbk).trans d3⟩
 have o0:=ok [U,R] (by simp)
 have o1:=ok x2 (by simp)
 have o2:=ok x3 (by simp)
 have LU:Hid (Calls Tryz.prog 96 #[.slice (some ⟨w.heap.size,0,none⟩) 2 2] (w.alloc (.cells #[.int .i64 U,.int .i64 R] 2)).drew _):=fl (w.alloc (.cells #[.int .i64 U,.int .i64 R] 2)).drew (some ⟨w.heap.size,0,none⟩) 2 [U,R] (fw (show Blk (w.alloc (.cells #[.int .i64 U,.int .i64 R] 2)).drew _ _ _ from Blk.new w [.int .i64 U,.int .i64 R] 2)) (by simp) (eh o0).1
 have HD:Hid (Below w.heap.size w w.drew):=au (Below.refl _ _);have HE:Hid (Below w.heap.size w (w.alloc (.cells #[.int .i64 U,.int .i64 R] 2)).drew):=au (ah _ _);have LW:=Na (fun (w':World) (hb:Below w.heap.size w w')=>fl w' a2 c2 x2 (h.1.to hb) (by have:=(eh o1).2;omega) (eh o1).1)
 have LC:=Na (fun (w':World) (hb:Below w.heap.size w w')=>fl w' a3 c3 x3 (h.2.to hb) (by have:=(eh o2).2;omega) (eh o2).1)
 have z0:=gJ o0;have z1:=gJ o1;have z2:=gJ o2;have HP:=Na (Hx [U,R] x2 x3);have HQ:Hid (bs (az [U,R]) ++ ⟨#[59]⟩ ++ bs (az x2) ++ ⟨#[59]⟩ ++ bs (az x3)=bs (aJ [[U,R],x2,x3])):=by
  show _=_
  rw [HP.out,← bG,← bG,← bG,← bG];rfl
 generalize bs (az [U,R])=T0 at *
 generalize bs (az x2)=T1 at *
 generalize bs (az x3)=T2 at *
 have n0:¬ 9223372036854775807<T0.size+1:=by omega
 have n1:¬ 9223372036854775807<T0.size+1+T1.size:=by omega
 have n2:¬ 9223372036854775807<T0.size+1+T1.size+1:=by omega
 have n3:¬ 9223372036854775807<T0.size+1+T1.size+1+T2.size:=by omega
 clear HP o0 o1 o2 h ok
 go_enter Tryz.func64,Tryz.ntmps64;obtain ⟨d0,d1,d2,d3⟩:=HS.out _ (Below.refl _ _);go_wp2_with fail
 go_region_held3 (fun w'=>w'.cell? ⟨b,o,none⟩=some (.int .i64 U)∧w'.cell? ⟨b,o+1,none⟩=some (.int .i64 R)∧w'.cell? ⟨b,o+2,none⟩=some (.slice a2 x2.length c2)∧w'.cell? ⟨b,o+3,none⟩=some (.slice a3 x3.length c3))
  (first | with_reducible exact HS.out _ hB3 | with_reducible exact HS.out _ hB2 | with_reducible exact HS.out _ hB1 | with_reducible exact HS.out _ HD.out | with_reducible exact HS.out _ HE.out)
  (first | (go_at_call 96;with_reducible refine (LU.out).mono ?_;rintro e w4 ⟨rfl,hz1⟩;have hB1:=aa HE.out hz1) | (go_at_call 96;with_reducible refine (LW.out _ hB1).mono ?_;rintro e w5 ⟨rfl,hz2⟩;have hB2:=aa hB1 hz2) | (go_at_call 96;with_reducible refine (LC.out _ hB2).mono ?_;rintro e w6 ⟨rfl,hz3⟩;have hB3:=aa hB2 hz3))
 all_goals
  clear hz1 hz2 hz3 hB1 hB2;go_wp2_with fail;go_ret;exact ⟨by rw [← HQ.out];rfl,hB3⟩
theorem FX {xs:List Nat} {k:Nat} {x:Nat} (hx:xs[k]? = some x):(xs.take (k+1)).map db=(xs.take k).map db ++ [db x]:=by
 rw [List.take_add_one,hx];simp
theorem Rd.getF {w:World} {B:Nat} {a:Option Addr} {xs:List Nat} (h:Rd w B a (dt xs)) {k:Nat} (hk:k<xs.length) :
 ∃ b o x,a=some ⟨b,o,none⟩∧b<B∧w.cell? ⟨b,o+k,none⟩=some (.float .f32 x)∧Hid (xs[k]? = some x):=by
 obtain ⟨b,o,ha,hb,hc⟩:=h.atF hk;exact ⟨b,o,xs.getD k 0,ha,hb,hc k hk,by simp [Hid,List.getD,List.getElem?_eq_getElem hk]⟩
theorem kJ (w:World) (hT:TabB w) (a:Option Addr) (c:Nat) (xs:List Nat) (h:Rd w w.heap.size a (dt xs)) (hx:∀ x∈xs,x<4294967296) (hl:xs.length≤1048576) :
 Calls Tryz.prog 19 #[.slice a xs.length c] w (kS (if xs.length≤256 then some (ba xs) else none) w):=by
 have HT:=Na hT;have HX:=Na hx;have HA:=Na h;clear h hx hT
 by_cases h256:xs.length≤256
 · rw [if_pos h256]
   have h256i:¬ (256:Int)<(xs.length:Int):=by omega
   go_enter Tryz.func19,Tryz.ntmps19;go_wp2_with fail
   go_loopw [4,13] (fun v iv wr=>∃ k:Nat,k≤xs.length∧iv=.int .i64 k∧Hid (wr.ownsRow w.heap.size 9 1 v k (cn ((xs.take k).map db)))∧Below w.heap.size w wr) (fun _ iv _=>xs.length - (intOf iv).toNat)
   case atStart=>exact ⟨0,Nat.zero_le _,rfl,bD w _,ah _ _⟩
   case round =>
    obtain ⟨k,hk,rfl,hO,hw⟩:=hrel;have hws:=hw.size
    by_cases hlt:k<xs.length
    · obtain ⟨b,o,x,rfl,hbb,hck,hxk⟩:=(HA.out.to hw).getF hlt
      have LD:=Na (Hq wr (HT.out.to hw) x (HX.out x (List.mem_of_getElem? hxk.out)));have HN:=Na (FX hxk.out);go_wp2_with fail;refine LD.out.mono ?_;rintro e w1 ⟨rfl,hb1⟩;have hO1:=aG hO.out hb1;have hw1:=hw.trans (hb1.mono hws);have hs1:=hw1.size;have hk2:k≤1099511627776:=by omega
      clear hO hb1 hck hw
      go_wp2_with (at_builtin;refine aH _ rfl _ _ 35 rfl w.heap.size 9 (.string ByteArray.empty) 16 Tryz.underlying35 oh rfl _ k _ rfl hO1 (.string (bs (db x))) rfl rfl (by omega) hk2 hs1 ?_)
      intro v' w' ho hgr;have hw2:=ai hw1 hO1 hgr (Nat.le_refl _) hs1;have HO2:Hid (w'.ownsRow w.heap.size 9 1 v' (k+1) (cn ((xs.take (k+1)).map db))):=by
       rw [HN.out,gZ,List.map_take];exact ho
      clear ho hgr hO1 hw1;go_wp2_with fail;go_roundw
      case rel=>exact ⟨k+1,by omega,by go_num,HO2,hw2⟩
      case measure=>first | (simp [intOf];done) | (simp [intOf];omega)
    · have:k=xs.length:=by omega
      subst this;rw [List.take_length] at hO;obtain ⟨a',c',rfl,hc',_⟩:=bj hO.out;have hrd:=ay hO.out (Nat.le_refl _);have LJ:=vF wr a' c' (xs.map db) hrd (by rw [List.length_map];exact hc') (by rw [List.length_map];exact hl) (by
       have:=km (m:=8) (xs:=xs.map db) (sep:=[44]) (fun x hx=>by
        obtain ⟨y,hy,rfl⟩:=List.mem_map.1 hx;rw [kj];exact Nat.le_refl _)
       rw [List.length_map] at this;simp at this;omega)
      rw [List.length_map] at LJ;have HE:Hid ((if xs.map db=[] then [110,111,110,101] else Lib.join (xs.map db) [44])=ba xs):=by
       show _=_
       unfold ba lJ
       cases xs <;> simp
      rw [HE.out] at LJ;have LJ:=Na LJ;clear hO hrd;go_wp2_with fail;refine LJ.out.mono ?_;rintro e w1 ⟨rfl,hb1⟩;have hw2:=hw.trans (hb1.mono hws);clear hb1 hw;go_wp2_with fail
      go_ret2
      exact ⟨hw2,rfl⟩
 · rw [if_neg h256]
   have h256i:(256:Int)<(xs.length:Int):=by omega
   go_enter Tryz.func19,Tryz.ntmps19;go_wp2_with fail
   go_ret2
   exact ⟨Below.refl _ _,rfl⟩
def iM (C:Nat) (xs:List Int) (r:Nat) (cols:List Int) (j:Nat):List Int:=(cols.take j).map fun k=>aQ C xs r k.toNat
theorem Gk (C:Nat) (xs:List Int) (r:Nat) {cols:List Int} {j k:Nat} (h:cols[j]? = some (k:Int)):iM C xs r cols (j+1)=iM C xs r cols j ++ [aQ C xs r k]:=by
 unfold iM;rw [List.take_add_one,h,Option.toList_some,List.map_append,List.map_singleton,Int.toNat_natCast]
theorem JK (C:Nat) (xs:List Int) (r:Nat) (cols:List Int) (j:Nat):(iM C xs r cols j).length≤j:=by
 unfold iM;rw [List.length_map,List.length_take];omega
theorem Aa (C:Nat) (xs rows cols:List Int) (i:Nat):(il C xs (rows.take i) cols).length≤i * cols.length:=by
 rw [sK,List.length_take];exact Nat.mul_le_mul (by omega) (Nat.le_refl _)
theorem Lj (w:World) (R C:Nat) (aA:Option Addr) (cA:Nat) (xA:List Int) (aB:Option Addr) (cB:Nat) (xB:List Int) (aR:Option Addr) (cR:Nat) (rows:List Int) (aK:Option Addr) (cK:Nat) (cols:List Int) (hRw:Rd w w.heap.size aR (ae rows)) (hCl:Rd w w.heap.size aK (ae cols)) (hrw:∀ z∈rows,∃ j:Nat,z=(j:Int)∧j<R) (hcl:∀ z∈cols,∃ j:Nat,z=(j:Int)∧j<C) (nR:rows.length≤6) (nC:cols.length≤6) (hA:Rd w w.heap.size aA (ae xA)) (hB:Rd w w.heap.size aB (ae xB)) (lA:xA.length=R * C) (lB:xB.length=R * C) (hR:R≤6) (hC:C≤6) :
 Calls Tryz.prog 170 #[.agg #[.int .i64 R,.int .i64 C,.slice aA xA.length cA,.slice aB xB.length cB],.slice aR rows.length cR,.slice aK cols.length cK] w (EQ rows.length cols.length (il C xA rows cols) (il C xB rows cols) w):=by
 have LA:=Na (fun v (hb:Below w.heap.size w v) (i k:Nat) (hi:i<R) (hk:k<C)=>oe v R C i k aA cA xA (.slice aB xB.length cB) (hA.to hb) (by rw [lA];exact dE hi hk) (by rw [lA];exact Nat.le_trans (Nat.mul_le_mul hR hC) (by decide)))
 have LB:=Na (fun v (hb:Below w.heap.size w v) (i k:Nat) (hi:i<R) (hk:k<C)=>Ax v R C i k (.slice aA xA.length cA) aB cB xB (hB.to hb) (by rw [lB];exact dE hi hk) (by rw [lB];exact Nat.le_trans (Nat.mul_le_mul hR hC) (by decide)))
 obtain ⟨row0,hrow⟩:∃ r,r=[Value.int .i64 R,.int .i64 C,.slice aA xA.length cA,.slice aB xB.length cB]:=⟨_,rfl⟩;have KB:=Blk.new w [.int .i64 R,.int .i64 C,.slice aA xA.length cA,.slice aB xB.length cB] 26;have HRow:=Na hrow;have HRR:=Na (fun v (hb:Below w.heap.size w v)=>hRw.to hb)
 have HCC:=Na (fun v (hb:Below w.heap.size w v)=>hCl.to hb)
 have HRJ:Hid (∀ (i:Nat),i<rows.length→∃ r:Nat,r<R∧rows[i]? = some (r:Int)):=fun i hi=>by
  obtain ⟨j,e,hj⟩:=hrw _ (List.getElem_mem hi);exact ⟨j,hj,by rw [List.getElem?_eq_getElem hi,e]⟩
 have HCJ:Hid (∀ (i:Nat),i<cols.length→∃ r:Nat,r<C∧cols[i]? = some (r:Int)):=fun i hi=>by
  obtain ⟨j,e,hj⟩:=hcl _ (List.getElem_mem hi);exact ⟨j,hj,by rw [List.getElem?_eq_getElem hi,e]⟩
 have FL:Hid (∀ xs i,(il C xs (rows.take i) cols).length≤i * cols.length):=fun xs i=>Aa C xs rows cols i
 have FR:Hid (∀ xs r j,(iM C xs r cols j).length≤j):=fun xs r j=>JK C xs r cols j
 have FS:Hid (∀ xs r j (k:Nat),cols[j]? = some (k:Int)→iM C xs r cols (j+1)=iM C xs r cols j ++ [aQ C xs r k]):=fun xs r j k h=>Gk C xs r h
 have FO:Hid (∀ xs i (r:Nat),rows[i]? = some (r:Int)→il C xs (rows.take (i+1)) cols=il C xs (rows.take i) cols ++ iM C xs r cols cols.length):=fun xs i r h=>by
  rw [Lv C xs cols h];unfold iM;rw [List.take_length,Int.toNat_natCast]
 have F0:Hid (∀ xs,il C xs (rows.take 0) cols=[]):=fun xs=>rfl
 have G0:Hid (∀ xs r,iM C xs r cols 0=[]):=fun xs r=>rfl
 clear hA hB lA lB hRw hCl hrw hcl
 go_enter Tryz.func170,Tryz.ntmps170;have HT0:Hid (TG w (((w.alloc (.cells #[.int .i64 R,.int .i64 C,.slice aA xA.length cA,.slice aB xB.length cB] 26)).alloc (.cells #[.int .i64 0,.int .i64 0,.slice none 0 0,.slice none 0 0] 26)).alloc (.cells #[.int .i64 rows.length,.int .i64 cols.length,.slice none 0 0,.slice none 0 0] 26)) row0 (w.heap.size+2) (w.heap.size+3) rows.length cols.length none 0 [] none 0 []):=by
  have b1:=ah w (.cells #[.int .i64 R,.int .i64 C,.slice aA xA.length cA,.slice aB xB.length cB] 26);have e1:=Blk.new (w.alloc (.cells #[.int .i64 R,.int .i64 C,.slice aA xA.length cA,.slice aB xB.length cB] 26)) [.int .i64 0,.int .i64 0,.slice none 0 0,.slice none 0 0] 26;have e2:=Blk.new ((w.alloc (.cells #[.int .i64 R,.int .i64 C,.slice aA xA.length cA,.slice aB xB.length cB] 26)).alloc (.cells #[.int .i64 0,.int .i64 0,.slice none 0 0,.slice none 0 0] 26)) [.int .i64 rows.length,.int .i64 cols.length,.slice none 0 0,.slice none 0 0] 26;rw [World.size_alloc] at e1;rw [World.size_alloc,World.size_alloc] at e2;refine ⟨((b1.alloc (by simp) _).alloc (by simp;omega) _),?_,e1.alloc _,e2,World.ownsRow_nil _ _ _ _,World.ownsRow_nil _ _ _ _,fun g h=>by simp [Value.ownBlock] at h,by simp⟩
  rw [hrow];exact (KB.alloc _).alloc _
 clear hrow KB;go_wp2_with fail
 go_loopw [19] (fun kv wr=>∃ (k:Nat) (a2:Option Addr) (c2:Nat) (a3:Option Addr) (c3:Nat) (l2 l3:List Int),k≤rows.length∧kv=.int .i64 k∧Hid (l2=il C xA (rows.take k) cols)∧Hid (l3=il C xB (rows.take k) cols)∧Hid (TG w wr row0 (w.heap.size+2) (w.heap.size+3) rows.length cols.length a2 c2 l2 a3 c3 l3)) (fun kv _=>rows.length - (intOf kv).toNat)
 case atStart=>exact ⟨0,none,0,none,0,[],[],Nat.zero_le _,rfl,(F0.out _).symm,(F0.out _).symm,HT0.out⟩
 case round =>
  clear HT0 F0;obtain ⟨k,a2,c2,a3,c3,l2,l3,hk,rfl,h2,h3,hT⟩:=hrel;have k0:(0:Int)≤(k:Int):=Int.natCast_nonneg _;obtain ⟨wo,hwo⟩:∃ W:World,W=wr:=⟨_,rfl⟩;subst hwo
  by_cases hlt:k<rows.length
  · have hki:(k:Int)<(rows.length:Int):=by omega
    obtain ⟨r,hrR,hrk⟩:=HRJ.out k hlt;obtain ⟨b,o,x,rfl,hbb,hck,hx⟩:=(HRR.out wo hT.out.B).get hlt;have hxr:x=(r:Int):=by
     have:=hx.out;rw [hrk] at this;injection this with this
     exact this.symm
    rw [hxr] at hck;have HO1:Hid (∀ xs,il C xs (rows.take (k+1)) cols=il C xs (rows.take k) cols ++ iM C xs r cols cols.length):=fun xs=>FO.out xs k r hrk
    have hz2:l2=l2 ++ iM C xA r cols 0:=by rw [G0.out,List.append_nil]
    have hz3:l3=l3 ++ iM C xB r cols 0:=by rw [G0.out,List.append_nil]
    have HZ2:=Na hz2;have HZ3:=Na hz3;have hn2:l2.length≤36:=by rw [h2.out];have:=FL.out xA k;have:k * cols.length≤6 * 6:=Nat.mul_le_mul (by omega) nC;omega
    have hn3:l3.length≤36:=by rw [h3.out];have:=FL.out xB k;have:k * cols.length≤6 * 6:=Nat.mul_le_mul (by omega) nC;omega
    clear hx hxr hrk hz2 hz3;go_wp2_with fail;clear hck
    go_loopw [25] (fun iv wr=>∃ (i:Nat) (a2:Option Addr) (c2:Nat) (a3:Option Addr) (c3:Nat) (m2 m3:List Int),i≤cols.length∧iv=.int .i64 i∧Hid (m2=l2 ++ iM C xA r cols i)∧Hid (m3=l3 ++ iM C xB r cols i)∧Hid (TG w wr row0 (w.heap.size+2) (w.heap.size+3) rows.length cols.length a2 c2 m2 a3 c3 m3)) (fun iv _=>cols.length - (intOf iv).toNat)
    case atStart=>exact ⟨0,a2,c2,a3,c3,l2,l3,Nat.zero_le _,rfl,HZ2.out,HZ3.out,hT.out⟩
    case round =>
     clear HZ2 HZ3 hT;obtain ⟨i,a2,c2,a3,c3,m2,m3,hi,rfl,g2,g3,hT⟩:=hrel
     by_cases hil:i<cols.length
     · have hii:(i:Int)<(cols.length:Int):=by omega
       have i0:(0:Int)≤(i:Int):=Int.natCast_nonneg _;obtain ⟨q,hqC,hqk⟩:=HCJ.out i hil;obtain ⟨b,o,x,rfl,hbb,hck,hx⟩:=(HCC.out wr hT.out.B).get hil;have hxq:x=(q:Int):=by
        have:=hx.out;rw [hqk] at this;injection this with this
        exact this.symm
       rw [hxq] at hck;have fs1:=FS.out xA r i q hqk;have fs2:=FS.out xB r i q hqk;have hn2:m2.length≤64:=by rw [g2.out,List.length_append];have:=FR.out xA r i;omega
       have hn3:m3.length≤64:=by rw [g3.out,List.length_append];have:=FR.out xB r i;omega
       clear hx hxq hqk;obtain ⟨x,hx⟩:∃ x,x=aQ C xA r q:=⟨_,rfl⟩;obtain ⟨y,hy⟩:∃ y,y=aQ C xB r q:=⟨_,rfl⟩;have LA0:=LA.out wr.drew (au hT.out.B) r q hrR hqC;rw [← hx] at LA0 fs1;rw [← hy] at fs2;have LA1:=Na LA0;have H2n:Hid (m2 ++ [x]=l2 ++ iM C xA r cols (i+1)):=by rw [Hid,fs1,g2.out,List.append_assoc]
       have H3n:Hid (m3 ++ [y]=l3 ++ iM C xB r cols (i+1)):=by rw [Hid,fs2,g3.out,List.append_assoc]
       have HY:=Na hy;have hTs:=hT.out.sz;have HC:Hid (∀ w',Below (w.heap.size+3) wr w'→(w'.cell? ⟨w.heap.size,0,none⟩=some (.int .i64 R)∧w'.cell? ⟨w.heap.size,1,none⟩=some (.int .i64 C)∧w'.cell? ⟨w.heap.size,2,none⟩=some (.slice aA xA.length cA)∧w'.cell? ⟨w.heap.size,3,none⟩=some (.slice aB xB.length cB))∧w'.cell? ⟨w.heap.size+2,2,none⟩=some (.slice a2 m2.length c2)∧w'.frozen? ⟨w.heap.size+2,2,none⟩=false):=fun w' hb=>by
        have kb:=hT.out.KB.below hb (by omega)
        have ko:=hT.out.KO.below hb (by omega)
        rw [HRow.out] at kb;exact ⟨⟨kb.cell 0,kb.cell 1,kb.cell 2,kb.cell 3⟩,ko.cell 2,ko.free 2⟩
       have hOA:=Na hT.out.A;obtain ⟨⟨r0,r1,r2,r3⟩,d1,d2⟩:=HC.out wr (Below.refl _ _);obtain ⟨⟨r0',r1',r2',r3'⟩,d1',d2'⟩:=HC.out wr.drew (au (Below.refl _ _));clear fs1 fs2 hx hy g2 g3 LA0;go_wp2_with fail
       go_region_law
        ((first
          | (go_simp;refine LA1.out.mono ?_;rintro e w6 ⟨rfl,hb6⟩;dsimp only;have hb7:Below wr.heap.size wr w6:=aa (au (Below.refl wr.heap.size wr)) hb6;have hOA6:=aG hOA.out hb7;obtain ⟨_,f1,f2⟩:=HC.out w6 (hb7.mono hTs);obtain ⟨_,f3,f4⟩:=HC.out (w6.alloc (.cells #[.int .i64 x] 2)) ((hb7.mono hTs).alloc (Nat.le_trans hTs hb7.size) _))
          | (refine eO (wr:=w6) (by rfl) _ _ 24 (by rfl) (w.heap.size+3) 2 (.int .i64 0) 8 Tryz.underlying24 aU (by rfl) _ m2.length (ae m2) (by rfl) hOA6 (.int .i64 x) rfl (by rfl) (by decide) (by omega) (Nat.le_trans hTs hb7.size) ?_;intro g8 c8 w8 ho8 hg8 hn8;have hb8:Below (w.heap.size+3) wr w8:=(hb7.mono hTs).trans (ai (Below.refl (w.heap.size+3) w6) hOA6 hg8 (Nat.le_refl _) (Nat.le_trans hTs hb7.size));obtain ⟨_,f5,f6⟩:=HC.out w8 hb8)))
       all_goals
        have hT2:=Na ((hT.out.call (by omega) (by omega) hb7).snocA (x:=x) (by omega) (by omega) ho8 hg8 hn8)
        clear hb6 hb7 hOA6 f1 f2 f3 f4 ho8 hg8 hn8 hb8 f5 f6 d1 d2 r0 r1 r2 r3 r0' r1' r2' r3' d1' d2' HC hOA LA1 hT;obtain ⟨wz,hwz⟩:∃ W:World,W=w8.setCell ⟨w.heap.size+2,2,none⟩ (.slice (some ⟨g8,0,none⟩) (m2.length+1) c8):=⟨_,rfl⟩;rw [← hwz] at hT2;have LB0:=LB.out wz.drew (au hT2.out.B) r q hrR hqC;rw [← HY.out] at LB0;have LB1:=Na LB0;have hTs:=hT2.out.sz;have HC:Hid (∀ w',Below (w.heap.size+3) wz w'→(w'.cell? ⟨w.heap.size,0,none⟩=some (.int .i64 R)∧w'.cell? ⟨w.heap.size,1,none⟩=some (.int .i64 C)∧w'.cell? ⟨w.heap.size,2,none⟩=some (.slice aA xA.length cA)∧w'.cell? ⟨w.heap.size,3,none⟩=some (.slice aB xB.length cB))∧w'.cell? ⟨w.heap.size+2,3,none⟩=some (.slice a3 m3.length c3)∧w'.frozen? ⟨w.heap.size+2,3,none⟩=false):=fun w' hb=>by
         have kb:=hT2.out.KB.below hb (by omega)
         have ko:=hT2.out.KO.below hb (by omega)
         rw [HRow.out] at kb;exact ⟨⟨kb.cell 0,kb.cell 1,kb.cell 2,kb.cell 3⟩,ko.cell 3,ko.free 3⟩
        have hOA:=Na hT2.out.C;rw [← hwz];obtain ⟨⟨r0,r1,r2,r3⟩,d1,d2⟩:=HC.out wz (Below.refl _ _);obtain ⟨⟨r0',r1',r2',r3'⟩,d1',d2'⟩:=HC.out wz.drew (au (Below.refl _ _));clear hwz hck LB0;go_wp2_with fail
        go_region_law
         ((first
           | (go_simp;refine LB1.out.mono ?_;rintro e w6 ⟨rfl,hb6⟩;dsimp only;have hb7:Below wz.heap.size wz w6:=aa (au (Below.refl wz.heap.size wz)) hb6;have hOA6:=aG hOA.out hb7;obtain ⟨_,f1,f2⟩:=HC.out w6 (hb7.mono hTs);obtain ⟨_,f3,f4⟩:=HC.out (w6.alloc (.cells #[.int .i64 y] 2)) ((hb7.mono hTs).alloc (Nat.le_trans hTs hb7.size) _))
           | (refine eO (wr:=w6) (by rfl) _ _ 24 (by rfl) (w.heap.size+3) 2 (.int .i64 0) 8 Tryz.underlying24 aU (by rfl) _ m3.length (ae m3) (by rfl) hOA6 (.int .i64 y) rfl (by rfl) (by decide) (by omega) (Nat.le_trans hTs hb7.size) ?_;intro g9 c9 w9 ho9 hg9 hn9;have hb8:Below (w.heap.size+3) wz w9:=(hb7.mono hTs).trans (ai (Below.refl (w.heap.size+3) w6) hOA6 hg9 (Nat.le_refl _) (Nat.le_trans hTs hb7.size));obtain ⟨_,f5,f6⟩:=HC.out w9 hb8)))
        all_goals
         have hT3:=Na ((hT2.out.call (by omega) (by omega) hb7).snocB (x:=y) (by omega) (by omega) ho9 hg9 hn9)
         clear hb6 hb7 hOA6 f1 f2 f3 f4 ho9 hg9 hn9 hb8 f5 f6 d1 d2 r0 r1 r2 r3 r0' r1' r2' r3' d1' d2' HC hOA LB1 hT2;go_wp2_with fail;go_roundw
         case rel=>exact ⟨i+1,_,_,_,_,m2 ++ [x],m3 ++ [y],by omega,by go_num,H2n.out,H3n.out,hT3⟩
         case measure=>first | (simp [intOf];done) | (simp [intOf];omega)
     · obtain rfl:i=cols.length:=by omega
       have E2:Hid (m2=il C xA (rows.take (k+1)) cols):=by rw [Hid,HO1.out,← h2.out];exact g2.out
       have E3:Hid (m3=il C xB (rows.take (k+1)) cols):=by rw [Hid,HO1.out,← h3.out];exact g3.out
       clear g2 g3 h2 h3;go_wp2_with fail;go_roundw
       case rel=>exact ⟨k+1,_,_,_,_,m2,m3,by omega,by go_num,E2,E3,hT⟩
       case measure=>first | (simp [intOf];done) | (simp [intOf];omega)
  · obtain rfl:k=rows.length:=by omega
    have R2:=Na (ay hT.out.A (Nat.le_refl _));have R3:=Na (ay hT.out.C (Nat.le_refl _));rw [List.take_length] at h2 h3;rw [h2.out] at R2;rw [h3.out] at R3;have e2:l2.length=(il C xA rows cols).length:=by rw [h2.out]
    have e3:l3.length=(il C xB rows cols).length:=by rw [h3.out]
    have H23:=Na (And.intro e2 e3);have HL2:=Na h2.out;have HL3:=Na h3.out;have KO:=hT.out.KO;have KR:=hT.out.KR;have k0':wo.cell? ⟨w.heap.size+2,0,none⟩=some (.int .i64 rows.length):=KO.cell 0;have k1':wo.cell? ⟨w.heap.size+2,1,none⟩=some (.int .i64 cols.length):=KO.cell 1;have k2':wo.cell? ⟨w.heap.size+2,2,none⟩=some (.slice a2 l2.length c2):=KO.cell 2;have k3':wo.cell? ⟨w.heap.size+2,3,none⟩=some (.slice a3 l3.length c3):=KO.cell 3;have y0:wo.cell? ⟨w.heap.size+1,0,none⟩=some (.int .i64 0):=KR.cell 0;have y1:wo.cell? ⟨w.heap.size+1,1,none⟩=some (.int .i64 0):=KR.cell 1;have y2:wo.cell? ⟨w.heap.size+1,2,none⟩=some (.slice none 0 0):=KR.cell 2;have y3:wo.cell? ⟨w.heap.size+1,3,none⟩=some (.slice none 0 0):=KR.cell 3;have f0:=KR.free 0;have f1:=KR.free 1;have f2:=KR.free 2;have f3:=KR.free 3;have HKR:=Na KR;have HT:=hT;clear KO KR h2 h3 e2 e3 hT;go_wp2_with fail;obtain ⟨wz,hwz⟩:∃ Y,Y=(((wo.setCell ⟨w.heap.size+1,0,none⟩ (.int .i64 rows.length)).setCell ⟨w.heap.size+1,1,none⟩ (.int .i64 cols.length)).setCell ⟨w.heap.size+1,2,none⟩ (.slice a2 l2.length c2)).setCell ⟨w.heap.size+1,3,none⟩ (.slice a3 l3.length c3):=⟨_,rfl⟩;have KZ:Blk wz (w.heap.size+1) [.int .i64 rows.length,.int .i64 cols.length,.slice a2 l2.length c2,.slice a3 l3.length c3] 26:=by rw [hwz];exact (((HKR.out.set 0 (.int .i64 rows.length)).set 1 (.int .i64 cols.length)).set 2 (.slice a2 l2.length c2)).set 3 (.slice a3 l3.length c3)
    have OA:wz.ownsRow (w.heap.size+3) 2 1 (.slice a2 l2.length c2) l2.length (ae l2):=by
     rw [hwz];exact aM (aM (aM (aM HT.out.A (dc _ _ _ _) (by omega)) (dc _ _ _ _) (by omega)) (dc _ _ _ _) (by omega)) (dc _ _ _ _) (by omega)
    have OB:wz.ownsRow (w.heap.size+3) 2 1 (.slice a3 l3.length c3) l3.length (ae l3):=by
     rw [hwz];exact aM (aM (aM (aM HT.out.C (dc _ _ _ _) (by omega)) (dc _ _ _ _) (by omega)) (dc _ _ _ _) (by omega)) (dc _ _ _ _) (by omega)
    have BZ:Below w.heap.size w wz:=by rw [hwz];exact aj (aj (aj (aj HT.out.B (by omega) _ _) (by omega) _ _) (by omega) _ _) (by omega) _ _
    have RA:=ay OA (Nat.le_refl _);have RB:=ay OB (Nat.le_refl _);obtain ⟨e2,e3⟩:=H23.out;rw [← hwz];clear hwz k0' k1' k2' k3' y0 y1 y2 y3 f0 f1 f2 f3 R2 R3;have y0:wz.cell? ⟨w.heap.size+1,0,none⟩=some (.int .i64 rows.length):=KZ.cell 0;have y1:wz.cell? ⟨w.heap.size+1,1,none⟩=some (.int .i64 cols.length):=KZ.cell 1;have y2:wz.cell? ⟨w.heap.size+1,2,none⟩=some (.slice a2 l2.length c2):=KZ.cell 2;have y3:wz.cell? ⟨w.heap.size+1,3,none⟩=some (.slice a3 l3.length c3):=KZ.cell 3;refine bodyPost_ret (v:=.agg #[.int .i64 rows.length,.int .i64 cols.length,.slice a2 l2.length c2,.slice a3 l3.length c3]) (by simp [results,Tryz.results170,go_sem,y0,y1,y2,y3]) rfl ?_
    have hl2:=HL2.out;have hl3:=HL3.out;subst hl2 hl3;exact ⟨a2,c2,a3,c3,rfl,RA,RB,BZ,fun b hb=>by have:=(OA.lt b.block (by simp [Value.ownBlock,hb])).1;omega,fun b hb=>by have:=(OB.lt b.block (by simp [Value.ownBlock,hb])).1;omega⟩
def rX (l:List Int) (n:Nat):Prop:=∀ z∈l,∃ j:Nat,z=(j:Int)∧j<n
theorem qU {list places:List Int}:∀ {n:Nat},(∃ j:Nat,(j:Int)∈places∧j<n)→(eF list places n).length<n
 | 0,⟨_,_,h⟩=>by omega
 | n+1,⟨j,hm,hj⟩=>by
   rw [tH]
   by_cases e:bF places (n:Int)=true
   · rw [if_pos e]
     have:=nh list places n;omega
   · rw [if_neg e]
     have hne:j≠n:=by
      rintro rfl;exact e (jJ.2 hm)
     have:=qU (list:=list) (places:=places) (n:=n) ⟨j,hm,by omega⟩;rw [List.length_append];simp;omega
def su (C:Nat) (xA rows cols:List Int):List Int:=fi rows.length cols.length (il C xA rows cols) rows.length
def uQ (C:Nat) (xB rows cols:List Int):List Int:=fi cols.length rows.length (aD rows.length cols.length (il C xB rows cols) (cols.length * rows.length)) cols.length
def iW (C:Nat) (xA rows cols:List Int):List Int:=eF rows (su C xA rows cols) rows.length
def lS (C:Nat) (xA xB rows cols:List Int):List Int:=eF cols (uQ C xB (iW C xA rows cols) cols) cols.length
def oZ (C:Nat) (xA xB rows cols:List Int):Bool:=decide ((su C xA rows cols).length+(uQ C xB (iW C xA rows cols) cols).length=0)
def jo (C:Nat) (xA xB:List Int):Nat→List Int→List Int→List Int × List Int
 | 0,r,c=>(r,c)
 | f+1,r,c=>if oZ C xA xB r c=true then (iW C xA r c,lS C xA xB r c) else jo C xA xB f (iW C xA r c) (lS C xA xB r c)
theorem IQ {C n:Nat} {xA rows cols:List Int} (h:rX rows n):rX (iW C xA rows cols) n:=fun z hz=>h z (uM (Nat.le_refl _) hz)
theorem Jm {C n:Nat} {xA xB rows cols:List Int} (h:rX cols n):rX (lS C xA xB rows cols) n:=fun z hz=>h z (uM (Nat.le_refl _) hz)
theorem tR (C:Nat) (xA rows cols:List Int):(iW C xA rows cols).length≤rows.length:=nh _ _ _
theorem tO (C:Nat) (xA xB rows cols:List Int):(lS C xA xB rows cols).length≤cols.length:=nh _ _ _
theorem Cx {C:Nat} {xA xB rows cols:List Int} (h:oZ C xA xB rows cols=false):(iW C xA rows cols).length+(lS C xA xB rows cols).length<rows.length+cols.length:=by
 unfold oZ at h;rw [decide_eq_false_iff_not] at h;have hR:=tR C xA rows cols;have hC:=tO C xA xB rows cols
 by_cases h1:(su C xA rows cols).length=0
 · have h2:(uQ C xB (iW C xA rows cols) cols)≠[]:=by
     intro e;rw [e,h1] at h;exact h rfl
   obtain ⟨z,hz⟩:=List.exists_mem_of_ne_nil _ h2;obtain ⟨j,rfl,hj⟩:=vw hz;have:=qU (list:=cols) (places:=uQ C xB (iW C xA rows cols) cols) (n:=cols.length) ⟨j,hz,hj⟩;have e:(lS C xA xB rows cols).length<cols.length:=this;omega
 · have h2:su C xA rows cols≠[]:=by intro e;rw [e] at h1;simp at h1
   obtain ⟨z,hz⟩:=List.exists_mem_of_ne_nil _ h2;obtain ⟨j,rfl,hj⟩:=vw hz;have:=qU (list:=rows) (places:=su C xA rows cols) (n:=rows.length) ⟨j,hz,hj⟩;have e:(iW C xA rows cols).length<rows.length:=this;omega
theorem Ez {C:Nat} {xA xB rows cols:List Int} {f:Nat} (h:oZ C xA xB rows cols=true):jo C xA xB (f+1) rows cols=(iW C xA rows cols,lS C xA xB rows cols):=by
 rw [jo,if_pos h]
theorem Dz {C:Nat} {xA xB rows cols:List Int} {f:Nat} (h:oZ C xA xB rows cols=false):jo C xA xB (f+1) rows cols=jo C xA xB f (iW C xA rows cols) (lS C xA xB rows cols):=by
 rw [jo,if_neg (by rw [h];decide)]
def jO (R C:Nat) (xA xB:List Int):List Int × List Int:=jo C xA xB 13 (eD R) (eD C)
end Go.Proofs.YtbknhgapjjaelaaGreatDoor
