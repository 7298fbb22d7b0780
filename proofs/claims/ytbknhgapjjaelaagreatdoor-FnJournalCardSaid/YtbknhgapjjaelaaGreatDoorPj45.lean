/-
  Part 45 of what the proof stands on: lemmas and contracts, each with its conditions ahead of the colon.
-/
import Derived.Test.YtbknhgapjjaelaaGreatDoorPj01
import Derived.Lib.ConvBytes
import Derived.Test.YtbknhgapjjaelaaGreatDoorPj05
import Derived.Test.YtbknhgapjjaelaaGreatDoorPj12
import Derived.Test.YtbknhgapjjaelaaGreatDoorPj25
import Derived.Test.YtbknhgapjjaelaaGreatDoorPj42
import Derived.Test.YtbknhgapjjaelaaGreatDoorPj43
import Derived.Test.YtbknhgapjjaelaaGreatDoorPj44
set_option maxRecDepth 200000
set_option maxHeartbeats 8000000
namespace Go.Proofs.YtbknhgapjjaelaaGreatDoor
set_option linter.unusedVariables false
set_option linter.unusedSimpArgs false
open Go.RowKit
def N5 (w:World) (B0 b:Nat) (a:Option Addr) (xs:List Int) (c p P T:Nat) (e:Ending) (w':World):Prop :=
 ∃ (aV:Option Addr) (cV:Nat) (V:List Int) (p':Nat),e=.returned (.agg #[.int .i64 P,.int .i64 T,.slice aV V.length cV])∧V.length=P * T∧(∀ x∈V,0≤x∧x≤11)∧OwnI 2 w' w.heap.size w'.heap.size aV cV V∧p'≤p+P * T∧DS w' B0 b a xs c p'∧Touch w w' b (b+1)
theorem I2 (w:World) (B0 b:Nat) (a:Option Addr) (xs:List Int) (c p P T:Nat) (h:DS w B0 b a xs c p) (hp:p≤700000) (hP:P≤6) (hT:T≤8) :
 Calls Tryz.prog 56 #[.pointer (some ⟨b,0,none⟩),.int .i64 P,.int .i64 T] w (N5 w B0 b a xs c p P T):=by
 have hbw:=h.lt;have hPT:P * T≤6 * 8:=Nat.mul_le_mul hP hT;have hPi:(P:Int)≤6:=by omega
 have hTi:(T:Int)≤8:=by omega
 have B0':=ai w (.cells #[.int .i64 0,.int .i64 0,.slice none 0 0] 28);have KR0:=Oi (Blk.new w [.int .i64 0,.int .i64 0,.slice none 0 0] 28);have T0:=Oi (Below.touch B0' b (b+1));have L1:=Oi (Gw _ B0 b a xs c p (P * T) (h.same B0') (by omega) (by omega))
 have hm:((P:Int) * (T:Int))=((P * T:Nat):Int):=(Int.natCast_mul P T).symm;obtain ⟨M,hM⟩:∃ M,M=P * T:=⟨_,rfl⟩;rw [← hM] at hm hPT L1;have HM:=Oi hM;have hMi:(M:Int)≤48:=by omega
 clear h B0' hM
 go_enter Tryz.func56,Tryz.ntmps56;go_wp2_with fail;refine L1.out.mono ?_;rintro e w1 ⟨aV,cV,V,p1,rfl,hV1,hV2,OV,hp1,D1,T1⟩;have KR1:=Oi (KR0.out.touch T1 (.inr (by omega)))
 have T1':=Oi (T0.out.trans T1);have s1:=T1.size;rw [World.size_alloc] at s1 OV;have OV:=Oi OV;have HV1:=Oi hV1;have HV2:=Oi hV2;have D1:=Oi D1;have HP1:=Oi hp1;clear L1 KR0 T0 T1 hV1 hV2 hp1;have y0':w1.cell? ⟨w.heap.size,0,none⟩=some (.int .i64 0):=KR1.out.cell 0;have y1':w1.cell? ⟨w.heap.size,1,none⟩=some (.int .i64 0):=KR1.out.cell 1;have y2':w1.cell? ⟨w.heap.size,2,none⟩=some (.slice none 0 0):=KR1.out.cell 2;have f0:=KR1.out.free 0;have f1:=KR1.out.free 1;have f2:=KR1.out.free 2;go_wp2_with fail;obtain ⟨wz,hwz⟩:∃ Y,Y=((w1.setCell ⟨w.heap.size,0,none⟩ (.int .i64 P)).setCell ⟨w.heap.size,1,none⟩ (.int .i64 T)).setCell ⟨w.heap.size,2,none⟩ (.slice aV M cV):=⟨_,rfl⟩;have KZ:Blk wz w.heap.size [.int .i64 P,.int .i64 T,.slice aV M cV] 28:=by rw [hwz];exact ((KR1.out.set 0 (.int .i64 P)).set 1 (.int .i64 T)).set 2 (.slice aV M cV)
 have TZ:Touch w1 wz w.heap.size (w.heap.size+1):=by rw [hwz];exact ((au w1 w.heap.size 0 (.int .i64 P)).trans (au _ w.heap.size 1 (.int .i64 T))).trans (au _ w.heap.size 2 (.slice aV M cV))
 have OVZ:=OV.out.touch TZ (.inr (Nat.le_refl _));have DZ:=D1.out.touch TZ hbw;have TT:=Ji T1'.out TZ (Nat.le_refl _);have sZ:=TZ.size;rw [← hwz];clear hwz y0' y1' y2';have y0':wz.cell? ⟨w.heap.size,0,none⟩=some (.int .i64 P):=KZ.cell 0;have y1':wz.cell? ⟨w.heap.size,1,none⟩=some (.int .i64 T):=KZ.cell 1;have y2':wz.cell? ⟨w.heap.size,2,none⟩=some (.slice aV M cV):=KZ.cell 2;refine bodyPost_ret (v:=.agg #[.int .i64 P,.int .i64 T,.slice aV M cV]) (by simp [results,Tryz.results56,go_sem,y0',y1',y2']) rfl ?_
 exact ⟨aV,cV,V,p1,by rw [HV1.out],by rw [HV1.out,HM.out],HV2.out,OVZ.mono (by omega) sZ,by rw [← HM.out];exact HP1.out,DZ,TT⟩
section
variable {w wX wY:World} {B0 b c p p' g:Nat} {a:Option Addr} {xs:List Int} {cs:List Value}
end
theorem GC (a:Nat) (ha:a<9223372036854775808):bits .and .i64 (a:Int) 15=((a % 16:Nat):Int):=by
 show IntKind.i64.wrap ((BitVec.ofInt 64 (a:Int) &&& BitVec.ofInt 64 (15:Int)).toNat:Int)=_
 have h1:(BitVec.ofInt 64 (15:Int)).toNat=15:=by decide
 have h2:(BitVec.ofInt 64 (a:Int)).toNat=a:=by rw [BitVec.ofInt_natCast,BitVec.toNat_ofNat];exact Nat.mod_eq_of_lt (by omega)
 rw [BitVec.toNat_and,h1,h2,show a &&& 15=a % 16 from Nat.and_two_pow_sub_one_eq_mod a 4]
 have:=Nat.mod_lt a (show 0<16 by omega)
 exact IntWalk.i64_in _ (by omega)
def nL:ByteArray:=⟨#[48,49,50,51,52,53,54,55,56,57,97,98,99,100,101,102]⟩
theorem JQ (r:Nat) (h:r<16) (v:World):(Instr.index 9 (.string nL) (.int .i64 (r:Int))).run Tryz.prog v=.ok (.int .u8 ((dy r).toNat:Int)) v:=by
 have key:∀ q:Fin 16,(nL[q.1]?).map (fun b=>(b.toNat:Int))=some ((dy q.1).toNat:Int):=by decide
 have hs:nL.size=16:=by decide
 have hr:=run_index_string (P:=Tryz.prog) v 9 nL .i64 (r:Int) Tryz.underlying9;have hk:=key ⟨r,h⟩;generalize nL=T at *
 rw [dif_pos ⟨by omega,by omega⟩] at hr;rw [ByteArray.getElem?_lt' T r (by omega)] at hk
 rw [hr];injection hk with hk
 congr 1
 rw [← hk]
 rfl
theorem Mg {x:Nat} (hx:x<4294967296):eQ x=(du x:Int)∧du x<4294967296:=⟨GJ x,zS hx⟩
theorem kz (u p:Nat) (hu:u<4294967296):bits .and .i64 ((u:Int) / (p:Int)) 15=((u / p % 16:Nat):Int):=by
 have h:=Nat.div_le_self u p;rw [← Int.natCast_ediv];exact GC (u / p) (by omega)
theorem iu {u i p q:Nat} (h:q=p * 16):dK (i+1) (u / p)=dK i (u / q) ++ [dy (u / p % 16)]:=by
 rw [dK,Nat.div_div_eq_div_mul,h]
theorem Fe (w:World) (x:Nat) (hx:x<4294967296) :
 Calls Tryz.prog 97 #[.float .f32 x] w fun e w'=>e=.returned (.string (bs (eR x)))∧Below w.heap.size w w':=by
 obtain ⟨hb,hu⟩:=Mg hx;have LB:=Oi (CR x hx w);rw [hb] at LB;have HT:Hid (eR x=dK 8 (du x / 1)):=by rw [Hid,Nat.div_one];rfl
 generalize du x=u at *
 have HS:Hid (∀ i v,dK (i+1) v=dK i (v / 16) ++ [dy (v % 16)]):=fun i v=>rfl
 have AN:=Oi (fun a ha=>GC a ha)
 have DR:=Oi (fun r h v=>JQ r h v)
 unfold nL at DR;clear hb
 go_enter Tryz.func97,Tryz.ntmps97;go_wp2_with fail;refine LB.out.mono ?_;rintro e w1 ⟨rfl,rfl⟩;have HO0:=Oi (bz w 5);have HB0:=Oi (ai w (.cells #[] 5));go_wp2_with fail
 go_loopw [4,5] (fun v kv wr=>∃ (i:Nat) (g c:Nat),i≤8∧kv=.int .i64 (28 - 4 * (i:Int))∧v=.slice (some ⟨g,0,none⟩) i c∧Hid (wr.ownsRow w.heap.size 5 1 (.slice (some ⟨g,0,none⟩) i c) i (fj (dK i (u / 16 ^ (8 - i)))))∧Hid (Below w.heap.size w wr)) (fun _ kv _=>(intOf kv+4).toNat)
 case atStart=>exact ⟨0,_,0,Nat.zero_le _,rfl,rfl,HO0.out,HB0.out⟩
 case round =>
  clear HO0 HB0;obtain ⟨i,g,c,hi,rfl,rfl,hO,hW⟩:=hrel;have hO':=hO.out;have hs:=hW.out.size
  rcases (by omega:i=0∨i=1∨i=2∨i=3∨i=4∨i=5∨i=6∨i=7∨i=8) with rfl | rfl | rfl | rfl | rfl | rfl | rfl | rfl | rfl
  · have an:bits BinOp.and IntKind.i64 ((u:Int) / 268435456) 15=((u / 268435456 % 16:Nat):Int):=kz u 268435456 hu
    have dr:=DR.out (u / 268435456 % 16) (Nat.mod_lt _ (by omega))
    have hN:=Oi (iu (u:=u) (i:=0) (p:=268435456) (q:=4294967296) (by decide))
    have hO1:Hid (wr.ownsRow w.heap.size 5 1 (.slice (some ⟨g,0,none⟩) 0 c) 0 (fj (dK 0 (u / 4294967296)))):=hO'
    have r0:(0:Int)≤((u / 268435456 % 16:Nat):Int):=Int.natCast_nonneg _;generalize u / 268435456 % 16=r at *
    generalize dy r=hd at *
    clear hO hO'
    go_wp2_with (at_builtin;refine aQ _ rfl _ _ 22 rfl w.heap.size 5 (.int .u8 0) 1 Tryz.underlying22 io rfl _ 0 _ rfl hO1.out (.int .u8 (hd.toNat:Int)) rfl rfl (by omega) (by omega) hs ?_)
    intro v' w' ho hgr hng;obtain ⟨g2,c3,rfl⟩:=fm ho (by omega)
    have HO2:Hid (w'.ownsRow w.heap.size 5 1 (.slice (some ⟨g2,0,none⟩) (0+1) c3) (0+1) (fj (dK (0+1) (u / 268435456)))):=by
     rw [Hid,hN.out,fV];exact ho
    have HW3:=Oi (ah hW.out hO1.out hgr (Nat.le_refl _) hs);clear ho hgr hng hO1 hW an dr;go_wp2_with fail;go_roundw
    case rel=>exact ⟨0+1,g2,c3,by omega,by go_num,rfl,HO2,HW3.out⟩
    case measure=>simp [intOf]
  · have an:bits BinOp.and IntKind.i64 ((u:Int) / 16777216) 15=((u / 16777216 % 16:Nat):Int):=kz u 16777216 hu
    have dr:=DR.out (u / 16777216 % 16) (Nat.mod_lt _ (by omega))
    have hN:=Oi (iu (u:=u) (i:=1) (p:=16777216) (q:=268435456) (by decide))
    have hO1:Hid (wr.ownsRow w.heap.size 5 1 (.slice (some ⟨g,0,none⟩) 1 c) 1 (fj (dK 1 (u / 268435456)))):=hO'
    have r0:(0:Int)≤((u / 16777216 % 16:Nat):Int):=Int.natCast_nonneg _;generalize u / 16777216 % 16=r at *
    generalize dy r=hd at *
    clear hO hO'
    go_wp2_with (at_builtin;refine aQ _ rfl _ _ 22 rfl w.heap.size 5 (.int .u8 0) 1 Tryz.underlying22 io rfl _ 1 _ rfl hO1.out (.int .u8 (hd.toNat:Int)) rfl rfl (by omega) (by omega) hs ?_)
    intro v' w' ho hgr hng;obtain ⟨g2,c3,rfl⟩:=fm ho (by omega)
    have HO2:Hid (w'.ownsRow w.heap.size 5 1 (.slice (some ⟨g2,0,none⟩) (1+1) c3) (1+1) (fj (dK (1+1) (u / 16777216)))):=by
     rw [Hid,hN.out,fV];exact ho
    have HW3:=Oi (ah hW.out hO1.out hgr (Nat.le_refl _) hs);clear ho hgr hng hO1 hW an dr;go_wp2_with fail;go_roundw
    case rel=>exact ⟨1+1,g2,c3,by omega,by go_num,rfl,HO2,HW3.out⟩
    case measure=>simp [intOf]
  · have an:bits BinOp.and IntKind.i64 ((u:Int) / 1048576) 15=((u / 1048576 % 16:Nat):Int):=kz u 1048576 hu
    have dr:=DR.out (u / 1048576 % 16) (Nat.mod_lt _ (by omega))
    have hN:=Oi (iu (u:=u) (i:=2) (p:=1048576) (q:=16777216) (by decide))
    have hO1:Hid (wr.ownsRow w.heap.size 5 1 (.slice (some ⟨g,0,none⟩) 2 c) 2 (fj (dK 2 (u / 16777216)))):=hO'
    have r0:(0:Int)≤((u / 1048576 % 16:Nat):Int):=Int.natCast_nonneg _;generalize u / 1048576 % 16=r at *
    generalize dy r=hd at *
    clear hO hO'
    go_wp2_with (at_builtin;refine aQ _ rfl _ _ 22 rfl w.heap.size 5 (.int .u8 0) 1 Tryz.underlying22 io rfl _ 2 _ rfl hO1.out (.int .u8 (hd.toNat:Int)) rfl rfl (by omega) (by omega) hs ?_)
    intro v' w' ho hgr hng;obtain ⟨g2,c3,rfl⟩:=fm ho (by omega)
    have HO2:Hid (w'.ownsRow w.heap.size 5 1 (.slice (some ⟨g2,0,none⟩) (2+1) c3) (2+1) (fj (dK (2+1) (u / 1048576)))):=by
     rw [Hid,hN.out,fV];exact ho
    have HW3:=Oi (ah hW.out hO1.out hgr (Nat.le_refl _) hs);clear ho hgr hng hO1 hW an dr;go_wp2_with fail;go_roundw
    case rel=>exact ⟨2+1,g2,c3,by omega,by go_num,rfl,HO2,HW3.out⟩
    case measure=>simp [intOf]
  · have an:bits BinOp.and IntKind.i64 ((u:Int) / 65536) 15=((u / 65536 % 16:Nat):Int):=kz u 65536 hu
    have dr:=DR.out (u / 65536 % 16) (Nat.mod_lt _ (by omega))
    have hN:=Oi (iu (u:=u) (i:=3) (p:=65536) (q:=1048576) (by decide))
    have hO1:Hid (wr.ownsRow w.heap.size 5 1 (.slice (some ⟨g,0,none⟩) 3 c) 3 (fj (dK 3 (u / 1048576)))):=hO'
    have r0:(0:Int)≤((u / 65536 % 16:Nat):Int):=Int.natCast_nonneg _;generalize u / 65536 % 16=r at *
    generalize dy r=hd at *
    clear hO hO'
    go_wp2_with (at_builtin;refine aQ _ rfl _ _ 22 rfl w.heap.size 5 (.int .u8 0) 1 Tryz.underlying22 io rfl _ 3 _ rfl hO1.out (.int .u8 (hd.toNat:Int)) rfl rfl (by omega) (by omega) hs ?_)
    intro v' w' ho hgr hng;obtain ⟨g2,c3,rfl⟩:=fm ho (by omega)
    have HO2:Hid (w'.ownsRow w.heap.size 5 1 (.slice (some ⟨g2,0,none⟩) (3+1) c3) (3+1) (fj (dK (3+1) (u / 65536)))):=by
     rw [Hid,hN.out,fV];exact ho
    have HW3:=Oi (ah hW.out hO1.out hgr (Nat.le_refl _) hs);clear ho hgr hng hO1 hW an dr;go_wp2_with fail;go_roundw
    case rel=>exact ⟨3+1,g2,c3,by omega,by go_num,rfl,HO2,HW3.out⟩
    case measure=>simp [intOf]
  · have an:bits BinOp.and IntKind.i64 ((u:Int) / 4096) 15=((u / 4096 % 16:Nat):Int):=kz u 4096 hu
    have dr:=DR.out (u / 4096 % 16) (Nat.mod_lt _ (by omega))
    have hN:=Oi (iu (u:=u) (i:=4) (p:=4096) (q:=65536) (by decide))
    have hO1:Hid (wr.ownsRow w.heap.size 5 1 (.slice (some ⟨g,0,none⟩) 4 c) 4 (fj (dK 4 (u / 65536)))):=hO'
    have r0:(0:Int)≤((u / 4096 % 16:Nat):Int):=Int.natCast_nonneg _;generalize u / 4096 % 16=r at *
    generalize dy r=hd at *
    clear hO hO'
    go_wp2_with (at_builtin;refine aQ _ rfl _ _ 22 rfl w.heap.size 5 (.int .u8 0) 1 Tryz.underlying22 io rfl _ 4 _ rfl hO1.out (.int .u8 (hd.toNat:Int)) rfl rfl (by omega) (by omega) hs ?_)
    intro v' w' ho hgr hng;obtain ⟨g2,c3,rfl⟩:=fm ho (by omega)
    have HO2:Hid (w'.ownsRow w.heap.size 5 1 (.slice (some ⟨g2,0,none⟩) (4+1) c3) (4+1) (fj (dK (4+1) (u / 4096)))):=by
     rw [Hid,hN.out,fV];exact ho
    have HW3:=Oi (ah hW.out hO1.out hgr (Nat.le_refl _) hs);clear ho hgr hng hO1 hW an dr;go_wp2_with fail;go_roundw
    case rel=>exact ⟨4+1,g2,c3,by omega,by go_num,rfl,HO2,HW3.out⟩
    case measure=>simp [intOf]
  · have an:bits BinOp.and IntKind.i64 ((u:Int) / 256) 15=((u / 256 % 16:Nat):Int):=kz u 256 hu
    have dr:=DR.out (u / 256 % 16) (Nat.mod_lt _ (by omega))
    have hN:=Oi (iu (u:=u) (i:=5) (p:=256) (q:=4096) (by decide))
    have hO1:Hid (wr.ownsRow w.heap.size 5 1 (.slice (some ⟨g,0,none⟩) 5 c) 5 (fj (dK 5 (u / 4096)))):=hO'
    have r0:(0:Int)≤((u / 256 % 16:Nat):Int):=Int.natCast_nonneg _;generalize u / 256 % 16=r at *
    generalize dy r=hd at *
    clear hO hO'
    go_wp2_with (at_builtin;refine aQ _ rfl _ _ 22 rfl w.heap.size 5 (.int .u8 0) 1 Tryz.underlying22 io rfl _ 5 _ rfl hO1.out (.int .u8 (hd.toNat:Int)) rfl rfl (by omega) (by omega) hs ?_)
    intro v' w' ho hgr hng;obtain ⟨g2,c3,rfl⟩:=fm ho (by omega)
    have HO2:Hid (w'.ownsRow w.heap.size 5 1 (.slice (some ⟨g2,0,none⟩) (5+1) c3) (5+1) (fj (dK (5+1) (u / 256)))):=by
     rw [Hid,hN.out,fV];exact ho
    have HW3:=Oi (ah hW.out hO1.out hgr (Nat.le_refl _) hs);clear ho hgr hng hO1 hW an dr;go_wp2_with fail;go_roundw
    case rel=>exact ⟨5+1,g2,c3,by omega,by go_num,rfl,HO2,HW3.out⟩
    case measure=>simp [intOf]
  · have an:bits BinOp.and IntKind.i64 ((u:Int) / 16) 15=((u / 16 % 16:Nat):Int):=kz u 16 hu
    have dr:=DR.out (u / 16 % 16) (Nat.mod_lt _ (by omega))
    have hN:=Oi (iu (u:=u) (i:=6) (p:=16) (q:=256) (by decide))
    have hO1:Hid (wr.ownsRow w.heap.size 5 1 (.slice (some ⟨g,0,none⟩) 6 c) 6 (fj (dK 6 (u / 256)))):=hO'
    have r0:(0:Int)≤((u / 16 % 16:Nat):Int):=Int.natCast_nonneg _;generalize u / 16 % 16=r at *
    generalize dy r=hd at *
    clear hO hO'
    go_wp2_with (at_builtin;refine aQ _ rfl _ _ 22 rfl w.heap.size 5 (.int .u8 0) 1 Tryz.underlying22 io rfl _ 6 _ rfl hO1.out (.int .u8 (hd.toNat:Int)) rfl rfl (by omega) (by omega) hs ?_)
    intro v' w' ho hgr hng;obtain ⟨g2,c3,rfl⟩:=fm ho (by omega)
    have HO2:Hid (w'.ownsRow w.heap.size 5 1 (.slice (some ⟨g2,0,none⟩) (6+1) c3) (6+1) (fj (dK (6+1) (u / 16)))):=by
     rw [Hid,hN.out,fV];exact ho
    have HW3:=Oi (ah hW.out hO1.out hgr (Nat.le_refl _) hs);clear ho hgr hng hO1 hW an dr;go_wp2_with fail;go_roundw
    case rel=>exact ⟨6+1,g2,c3,by omega,by go_num,rfl,HO2,HW3.out⟩
    case measure=>simp [intOf]
  · have an:bits BinOp.and IntKind.i64 (u:Int) 15=((u / 1 % 16:Nat):Int):=(by have:=kz u 1 hu;rwa [show ((u:Int) / ((1:Nat):Int))=(u:Int) from by omega] at this)
    have dr:=DR.out (u / 1 % 16) (Nat.mod_lt _ (by omega))
    have hN:=Oi (iu (u:=u) (i:=7) (p:=1) (q:=16) (by decide))
    have hO1:Hid (wr.ownsRow w.heap.size 5 1 (.slice (some ⟨g,0,none⟩) 7 c) 7 (fj (dK 7 (u / 16)))):=hO'
    have r0:(0:Int)≤((u / 1 % 16:Nat):Int):=Int.natCast_nonneg _;generalize u / 1 % 16=r at *
    generalize dy r=hd at *
    clear hO hO'
    go_wp2_with (at_builtin;refine aQ _ rfl _ _ 22 rfl w.heap.size 5 (.int .u8 0) 1 Tryz.underlying22 io rfl _ 7 _ rfl hO1.out (.int .u8 (hd.toNat:Int)) rfl rfl (by omega) (by omega) hs ?_)
    intro v' w' ho hgr hng;obtain ⟨g2,c3,rfl⟩:=fm ho (by omega)
    have HO2:Hid (w'.ownsRow w.heap.size 5 1 (.slice (some ⟨g2,0,none⟩) (7+1) c3) (7+1) (fj (dK (7+1) (u / 1)))):=by
     rw [Hid,hN.out,fV];exact ho
    have HW3:=Oi (ah hW.out hO1.out hgr (Nat.le_refl _) hs);clear ho hgr hng hO1 hW an dr;go_wp2_with fail;go_roundw
    case rel=>exact ⟨7+1,g2,c3,by omega,by go_num,rfl,HO2,HW3.out⟩
    case measure=>simp [intOf]
  · have hO1:Hid (wr.ownsRow w.heap.size 5 1 (.slice (some ⟨g,0,none⟩) 8 c) 8 (fj (dK 8 (u / 1)))):=hO'
    rw [← HT.out] at hO1;have hR:=Oi (ay hO1.out (Nat.le_refl _));have hl:Hid ((eR x).length=8):=lJ x;have hcv:=run_convert_bytes_back (P:=Tryz.prog) wr 22 9 5 ⟨g,0,none⟩ c (eR x) Tryz.underlying22 Tryz.underlying5 Tryz.underlying9 (fun j hj=>by
     rcases hR.out with h | ⟨b,o,h1,_,h3⟩
     · have:=congrArg List.length h;rw [bys_length,hl.out] at this;cases this
     · injection h1 with h1;injection h1 with h1 h2;subst h1 h2
       have h5:=h3 j (by rw [bys_length];exact hj)
       rw [sG hj,Nat.zero_add] at h5;rw [lu,Nat.zero_add];exact h5)
    rw [hl.out] at hcv;clear hO hO' hR;go_wp2_with fail;go_ret;exact ⟨rfl,hW.out⟩
theorem Fs {xs:List Nat} {k:Nat} {x:Nat} (hk:1≤k) (h:xs[k]? = some x):bJ (xs.take (k+1))=bJ (xs.take k) ++ ([44] ++ eR x):=by
 have hlt:k<xs.length:=(List.getElem?_eq_some_iff.1 h).1;have n1:xs.take k≠[]:=fun e=>by have:=congrArg List.length e;rw [List.length_take,List.length_nil] at this;omega
 have n2:xs.take (k+1)≠[]:=fun e=>by have:=congrArg List.length e;rw [List.length_take,List.length_nil] at this;omega
 unfold bJ;rw [if_neg n2,if_neg n1,List.map_take,List.map_take];exact xK hk (by rw [List.getElem?_map,h];rfl)
theorem N7 (a b c:List UInt8):bs a ++ ((⟨b.toArray⟩:ByteArray) ++ bs c)=bs (a ++ (b ++ c)):=by
 apply ByteArray.ext
 simp [bs]
theorem Iq (x:Nat):bJ [x]=eR x:=by
 unfold bJ;rw [if_neg (by simp),List.map_singleton,Lib.join_one]
theorem AX (w:World) (a:Option Addr) (c:Nat) (xs:List Nat) (h:Rd w w.heap.size a (dx xs)) (hx:∀ y∈xs,y<4294967296) (h1:1≤xs.length) (hl:xs.length≤1024) :
 Calls Tryz.prog 65 #[.slice a xs.length c] w fun e w'=>e=.returned (.string (bs (bJ xs)))∧Below w.heap.size w w':=by
 have HX:=Oi h;have LH:=Oi (fun v k (hk:k<xs.length)=>Fe v (xs.getD k 0) (hx _ (by rw [List.getD_eq_getElem?_getD,List.getElem?_eq_getElem hk];exact List.getElem_mem hk)))
 have G:=Oi (fun k (hk:k<xs.length)=>(show xs[k]? = some (xs.getD k 0) by simp [List.getD,List.getElem?_eq_getElem hk]))
 have HN:=Oi (fun k (hk:1≤k) (hlt:k<xs.length)=>Fs (k:=k) hk (G.out k hlt))
 have H1:Hid (bJ (xs.take 1)=eR (xs.getD 0 0)):=by
  cases xs with
  | nil=>simp at h1
  | cons x r=>exact Iq x
 have HE:Hid (bJ (xs.take xs.length)=bJ xs):=by rw [Hid,List.take_length]
 have HL:=Oi (fun k=>vr (xs.take k))
 have h0:((xs.length:Int) == 0)=false:=by rw [beq_eq_false_iff_ne];omega
 have h8:=Oi (fun x=>lJ x)
 obtain ⟨b,o,rfl,hbb,hcj⟩:=h.atF (k:=0) (by omega)
 have c0:=hcj 0 (by omega)
 rw [Nat.add_zero] at c0;have L0:=Oi (LH.out w 0 (by omega))
 clear h hcj hx
 go_enter Tryz.func65,Tryz.ntmps65;go_wp2_with fail;refine L0.out.mono ?_;rintro e w1 ⟨rfl,hb1⟩;have HB1:=Oi hb1;rw [← H1.out];clear hb1 c0 L0;go_wp2_with fail
 go_loopw [3,4] (fun sv iv wr=>∃ k:Nat,1≤k∧k≤xs.length∧iv=.int .i64 k∧sv=.string (bs (bJ (xs.take k)))∧Hid (Below w.heap.size w wr)) (fun _ iv _=>xs.length - (intOf iv).toNat)
 case atStart=>exact ⟨1,Nat.le_refl _,h1,rfl,rfl,HB1.out⟩
 case round =>
  clear HB1;obtain ⟨k,hk1,hk,rfl,rfl,hW⟩:=hrel;have k0:(0:Int)≤(k:Int):=Int.natCast_nonneg _
  by_cases hlt:k<xs.length
  · have k1:(k:Int)<(xs.length:Int):=by omega
    obtain ⟨b2,o2,hga,hbb2,hcj⟩:=(HX.out.to hW.out).atF hlt;injection hga with hga
    injection hga with hg1 hg2
    subst hg1 hg2;have hck:=hcj k hlt;have LH1:=Oi (LH.out wr k hlt);have HN1:=Oi (HN.out k hk1 hlt);have hz:=HL.out k;rw [List.length_take] at hz;have hs1:(bs (bJ (xs.take k))).size≤20000:=by rw [aE];omega
    have hs2:(bs (eR (xs.getD k 0))).size=8:=by rw [aE];exact h8.out _
    have hcat:Hid (bs (bJ (xs.take k)) ++ (⟨#[44]⟩ ++ bs (eR (xs.getD k 0)))=bs (bJ (xs.take (k+1)))):=by
     rw [Hid,HN1.out];exact N7 _ _ _
    clear hcj HN1 hz;generalize bs (eR (xs.getD k 0))=H at *
    generalize xs.getD k 0=x at *
    generalize bs (bJ (xs.take k))=S at *
    have hs3:((⟨#[44]⟩:ByteArray) ++ H).size=9:=by rw [ByteArray.size_append,hs2];rfl
    go_wp2_with fail;refine LH1.out.mono ?_;rintro e w2 ⟨rfl,hb2⟩;have HB2:=Oi (aa hW.out hb2);clear hb2 hck LH1;go_wp2_with fail;go_roundw
    case rel=>exact ⟨k+1,by omega,by omega,by go_num,by rw [← hcat.out],HB2⟩
    case measure=>simp [intOf];omega
  · obtain rfl:k=xs.length:=by omega
    rw [HE.out];go_wp2_with fail;go_ret;exact ⟨rfl,hW.out⟩
end Go.Proofs.YtbknhgapjjaelaaGreatDoor
