/-
  Part 11 of what the proof stands on: lemmas and contracts, each with its conditions ahead of the colon.
-/
import Derived.Test.YtbknhgapjjaelaaGreatDoorShelf
import Derived.Outline
import Derived.Shelf.Strconv.ParseIntPublic10
import Derived.Test.YtbknhgapjjaelaaGreatDoorPk01
import Derived.Test.YtbknhgapjjaelaaGreatDoorPk04
import Derived.Test.YtbknhgapjjaelaaGreatDoorPk05
import Derived.Test.YtbknhgapjjaelaaGreatDoorPk09
import Derived.Test.YtbknhgapjjaelaaGreatDoorPk10
set_option maxRecDepth 200000
set_option maxHeartbeats 8000000
namespace Go.Proofs.YtbknhgapjjaelaaGreatDoor
set_option linter.unusedVariables false
set_option linter.unusedSimpArgs false
open Go.RowKit
def TabB (w:World):Prop:=w.cell? ⟨8,15,none⟩=some (.int .u8 4)
theorem TabB.to {w w':World} (h:TabB w) (hb:Below w.heap.size w w'):TabB w':=(hb.cell (p:=⟨8,15,none⟩) (World.block_lt_of_cell? w _ h)).trans h
theorem Bx (w:World) (h:TabB w):Calls Tryz.prog 247 #[.int .u64 16] w fun e w'=>e=.returned (.int .i64 4)∧w=w':=by
 have h':w.cell? ⟨8,15,none⟩=some (.int .u8 4):=h;have hx:IntKind.u64.wrap (bits BinOp.and IntKind.u64 16 (IntKind.u64.wrap (-16)) * 285870213051353865) / 288230376151711744=15:=by decide +kernel
 go_enter Tryz.func247,Tryz.ntmps247;go_wp2_with fail;go_ret;exact ⟨rfl,rfl⟩
theorem GE (w:World) (h:TabB w):Calls Tryz.prog 212 #[.int .u64 16] w fun e w'=>e=.returned (.int .i64 4)∧w=w':=by
 have L:=Na (Bx w h);clear h
 go_enter Tryz.func212,Tryz.ntmps212;go_wp2_with fail;refine L.out.mono ?_;rintro e w1 ⟨rfl,rfl⟩;go_wp2_with fail;go_ret;exact ⟨rfl,rfl⟩
theorem FV (w:World):Calls Tryz.prog 211 #[.int .i64 16] w fun e w'=>e=.returned (.bool true)∧w=w':=by
 have hx:(bits BinOp.and IntKind.i64 16 15 == 0)=true:=by decide +kernel
 go_enter Tryz.func211,Tryz.ntmps211;go_wp2_with fail;go_ret;exact ⟨rfl,rfl⟩
theorem Mz (a:Nat) (ha:a<18446744073709551616):bits .and .u64 (a:Int) 15=((a % 16:Nat):Int):=by
 show IntKind.u64.wrap ((BitVec.ofInt 64 (a:Int) &&& BitVec.ofInt 64 (15:Int)).toNat:Int)=_
 have h1:(BitVec.ofInt 64 (15:Int)).toNat=15:=by decide
 have h2:(BitVec.ofInt 64 (a:Int)).toNat=a:=by rw [BitVec.ofInt_natCast,BitVec.toNat_ofNat];exact Nat.mod_eq_of_lt (by omega)
 rw [BitVec.toNat_and,h1,h2,show a &&& 15=a % 16 from Nat.and_two_pow_sub_one_eq_mod a 4,AQ]
 have:=Nat.mod_lt a (show 0<16 by omega)
 omega
def oi:ByteArray:=⟨#[48,49,50,51,52,53,54,55,56,57,97,98,99,100,101,102,103,104,105,106,107,108,109,110,111,112,113,114,115,116,117,118,119,120,121,122]⟩
theorem Dc (r:Nat) (h:r<16) (v:World):(Instr.index 9 (.string oi) (.int .u64 (r:Int))).run Tryz.prog v=.ok (.int .u8 ((da r).toNat:Int)) v:=by
 have key:∀ q:Fin 16,(oi[q.1]?).map (fun b=>(b.toNat:Int))=some ((da q.1).toNat:Int):=by decide
 have hs:oi.size=36:=by decide
 have hr:=run_index_string (P:=Tryz.prog) v 9 oi .u64 (r:Int) Tryz.underlying9;have hk:=key ⟨r,h⟩;generalize oi=T at *
 rw [dif_pos ⟨by omega,by omega⟩] at hr;rw [ByteArray.getElem?_lt' T r (by omega)] at hk
 rw [hr];injection hk with hk
 congr 1
 rw [← hk]
 rfl
def HexI (u m:Nat) (d:List UInt8):Prop:=dz u=dz m ++ d
theorem HexI.more {u m:Nat} {d:List UInt8} (h:HexI u m d) (hm:¬ m<16):HexI u (m / 16) (da (m % 16) :: d):=by
 unfold HexI at *
 rw [pg hm,List.append_assoc] at h;exact h
theorem HexI.last {u m:Nat} {d:List UInt8} (h:HexI u m d) (hm:m<16):dz u=da m :: d:=by
 unfold HexI at *
 rw [js hm] at h;exact h
theorem HexI.len {u m:Nat} {d:List UInt8} (h:HexI u m d) (hu:u<4294967296):d.length≤7:=by
 have h1:=uf 7 u (by omega)
 unfold HexI at h;rw [h,List.length_append] at h1;have:=tQ m;omega
def jK (d:List UInt8):List Value:=List.replicate (65 - d.length) (Value.int .u8 0) ++ fe d
theorem Ga {d:List UInt8} (h:d.length≤65):(jK d).length=65:=by
 unfold jK;rw [List.length_append,List.length_replicate,bys_length];omega
theorem xj {d:List UInt8} (h:d.length<65) (b:UInt8):(jK d).set (64 - d.length) (.int .u8 (b.toNat:Int))=jK (b :: d):=by
 unfold jK;have e:65 - d.length=(64 - d.length)+1:=by omega
 rw [e,List.replicate_succ',List.append_assoc,List.set_append_right _ _ (by rw [List.length_replicate];exact Nat.le_refl _),List.length_replicate,Nat.sub_self,List.length_cons,show 65 - (d.length+1)=64 - d.length from by omega]
 rfl
theorem GK {d:List UInt8} {j:Nat} (h:d.length≤65) (hj:j<d.length):(jK d)[65 - d.length+j]? = some (.int .u8 (d[j].toNat:Int)):=by
 unfold jK;rw [List.getElem?_append_right (by rw [List.length_replicate];omega),List.length_replicate,show 65 - d.length+j - (65 - d.length)=j from by omega,sj hj]
theorem wt (w:World) (hT:TabB w) (u:Nat) (hu:u<4294967296) :
 Calls Tryz.prog 152 #[.slice none 0 0,.int .u64 u,.int .i64 16,.bool false,.bool false] w fun e w'=>e=.returned (.tuple #[.slice none 0 0,.string (bs (dz u))])∧Below w.heap.size w w':=by
 have LP:=Na FV;have B1:=Na (ah w (.cells (List.replicate 65 (Value.int .u8 0)).toArray 246));have K1:=Na (Blk.new w (List.replicate 65 (Value.int .u8 0)) 246);have LT:=Na (fun v (hb:Below w.heap.size w v)=>GE v (hT.to hb))
 clear hT
 go_enter Tryz.func152,Tryz.ntmps152;go_wp2_with fail;refine (LP.out _).mono ?_;rintro e w1 ⟨rfl,rfl⟩;go_wp2_with fail;refine (LT.out _ B1.out).mono ?_;rintro e w1 ⟨rfl,rfl⟩;go_wp2_with fail
 go_loopw [1,13] (fun uv iv wr=>∃ (m q:Nat) (d:List UInt8),uv=.int .u64 m∧iv=.int .i64 q∧q+d.length=65∧m<4294967296∧d.length≤7∧Hid (HexI u m d)∧Hid (Blk wr w.heap.size (jK d) 246)∧Hid (Below w.heap.size w wr)) (fun uv _ _=>(intOf uv).toNat)
 case atStart=>exact ⟨u,65,[],rfl,rfl,rfl,hu,Nat.zero_le _,(List.append_nil _).symm,K1.out,B1.out⟩
 case round =>
  clear K1 B1 LT LP;obtain ⟨m,q,d,rfl,rfl,hq,hm,hd,hI,hK,hB⟩:=hrel;have HQ:=Na hq;have m0:(0:Int)≤(m:Int):=Int.natCast_nonneg _;have mb:(m:Int)<4294967296:=by omega
  obtain ⟨p,rfl⟩:∃ p,q=p+1:=⟨q - 1,by omega⟩;have hp:p=64 - d.length:=by omega
  have hpl:p<65:=by omega
  have HP:=Na hp;have c1:wr.cell? ⟨w.heap.size,p,none⟩=some ((jK d).getD p (.int .u8 0)):=by
   rw [hK.out.cell,List.getD,List.getElem?_eq_getElem (by rw [Ga (by omega)];exact hpl)];rfl
  have c2:=hK.out.free p;generalize (jK d).getD p (.int .u8 0)=old at *
  clear hq hp
  by_cases h16:m<16
  · have h16i:¬ (16:Int)≤(m:Int):=by omega
    have hix:=Dc m h16;unfold oi at hix;have hN:=hI.out.last h16;have HB2:=Na (aj hB.out (g:=w.heap.size) (Nat.le_refl _) p (.int .u8 ((da m).toNat:Int)));have HK2:Hid (Blk (wr.setCell ⟨w.heap.size,p,none⟩ (.int .u8 ((da m).toNat:Int))) w.heap.size (jK (da m :: d)) 246):=by
     have:=hK.out.set p (.int .u8 ((da m).toNat:Int));rw [HP.out,xj (by omega)] at this
     rw [HP.out];exact this
    rw [← hN] at HK2;have hpe:p=65 - (dz u).length:=by rw [hN];simp;have:=HP.out;omega
    have hul:(dz u).length≤65:=by rw [hN];simp;omega
    have hpu:p+(dz u).length=65:=by omega
    have hcv:=run_convert_bytes_back (P:=Tryz.prog) (wr.setCell ⟨w.heap.size,p,none⟩ (.int .u8 ((da m).toNat:Int))) 22 9 5 ⟨w.heap.size,p,none⟩ (dz u).length (dz u) Tryz.underlying22 Tryz.underlying5 Tryz.underlying9 (fun j hj=>by
     rw [og,HK2.out.cell,hpe];exact GK hul hj)
    have p0:(0:Int)≤(p:Int):=Int.natCast_nonneg _;have p65:(p:Int)≤(Tryz.prog.arrayLen 246:Int):=by
     have:Tryz.prog.arrayLen 246=65:=by kernel_rfl
     rw [this];omega
    have p65b:(p:Int)≤65:=by omega
    have hal:Tryz.prog.arrayLen 246=65:=by kernel_rfl
    have hsl:∀ v:World,(Instr.sliceAt 246 (.pointer (some ⟨w.heap.size,0,none⟩)) (some (.int .i64 p)) none none).run Tryz.prog v=.ok (.slice (some ⟨w.heap.size,p,none⟩) (dz u).length (dz u).length) v:=fun v=>by
     rw [run_sliceAt_array_l v 246 ⟨w.heap.size,0,none⟩ Tryz.underlying246 .i64 p p0 p65];have hsz:(sizeOf (Tryz.prog.elem 246)).run Tryz.prog v=.ok 1 v:=by kernel_rfl
     rw [hsz,hal];simp only [Result.andThen,slicedAt,Int.toNat_natCast,Nat.mul_one];rw [if_neg (by omega),og,Nat.zero_add,show 65 - p=(dz u).length from by omega]
    clear hK hB hI hN hpe hul p65 hal;go_wp2_with fail
    go_ret2
    exact ⟨rfl,HB2.out⟩
  · have h16i:(16:Int)≤(m:Int):=by omega
    have ha:bits .and .u64 (m:Int) 15=((m % 16:Nat):Int):=Mz m (by omega)
    have hr:=Nat.mod_lt m (show 0<16 by omega)
    have HR:=Na (show m / 16<m by omega)
    have hN:=Na (hI.out.more h16);obtain ⟨r,hrr⟩:∃ r,r=m % 16:=⟨_,rfl⟩;rw [← hrr] at ha hr hN;have r0:(0:Int)≤(r:Int):=Int.natCast_nonneg _;have r16:(r:Int)<16:=by omega
    obtain ⟨k,hk⟩:∃ k,k=m / 16:=⟨_,rfl⟩;have hq16:(m:Int) / 16=(k:Int):=by omega
    rw [← hk] at HR hN;have hix:=Dc r hr;unfold oi at hix;clear hrr hk;have HB2:=Na (aj hB.out (g:=w.heap.size) (Nat.le_refl _) p (.int .u8 ((da r).toNat:Int)));have HK2:Hid (Blk (wr.setCell ⟨w.heap.size,p,none⟩ (.int .u8 ((da r).toNat:Int))) w.heap.size (jK (da r :: d)) 246):=by
     have:=hK.out.set p (.int .u8 ((da r).toNat:Int));rw [HP.out,xj (by omega)] at this
     rw [HP.out];exact this
    have HL:=Na (hN.out.len hu);clear hK hB hI;go_wp2_with fail;go_roundw
    case rel=>exact ⟨k,p,da r :: d,rfl,rfl,by have:=HQ.out;simp;omega,by have:=HR.out;omega,HL.out,hN.out,HK2.out,HB2.out⟩
    case measure=>have:=HR.out;simp [intOf];omega
theorem vY (w:World) (hT:TabB w) (u:Nat) (hu:u<4294967296) :
 Calls Tryz.prog 112 #[.int .i64 u,.int .i64 16] w fun e w'=>e=.returned (.string (bs (dz u)))∧Below w.heap.size w w':=by
 have L:=Na (wt w hT u hu);have u0:(0:Int)≤(u:Int):=Int.natCast_nonneg _;have u1:(u:Int)<4294967296:=by omega
 clear hT
 go_enter Tryz.func112,Tryz.ntmps112;go_wp2_with fail;refine L.out.mono ?_;rintro e w1 ⟨rfl,hb⟩;go_wp2_with fail;go_ret;exact ⟨rfl,hb⟩
theorem yy (w:World) (hT:TabB w) (u:Nat) (hu:u<4294967296) :
 Calls Tryz.prog 85 #[.int .i64 u,.int .i64 16] w fun e w'=>e=.returned (.string (bs (dz u)))∧Below w.heap.size w w':=by
 have L:=Na (vY w hT u hu);clear hT
 go_enter Tryz.func85,Tryz.ntmps85;go_wp2_with fail;refine L.out.mono ?_;rintro e w1 ⟨rfl,hb⟩;go_wp2_with fail;go_ret;exact ⟨rfl,hb⟩
theorem rb:∀ n,Lib.repeatL [48] n=List.replicate n 48
 | 0=>rfl
 | n+1=>by rw [Lib.repeatL,rb n];rfl
theorem Co (w:World) (n:Nat) (hn:n≤7) :
 Calls Tryz.prog 87 #[.string ⟨#[48]⟩,.int .i64 n] w fun e w'=>e=.returned (.string (bs (List.replicate n 48)))∧Below w.heap.size w w' :=
 (Tryz.strings_Repeat ⟨#[48]⟩ n w (by omega) (by show 1 * n≤_;omega)).mono fun e w' ⟨h1,h2⟩=>⟨by rw [h1,← rb n];rfl,h2⟩
theorem DX (x:Nat) (hx:x<4294967296) (w:World):Calls Tryz.prog 86 #[.float .f32 x] w fun e w'=>e=.returned (.int .i64 (bz x))∧w=w':=by
 have hd:=fun v=>Gi x v
 cases h:mG x with
 | true =>
   have ht:(FloatKind.f32.format.order x x != some .eq)=true:=h;have HF:Hid (bz x=2143289344):=by simp [Hid,bz,h]
   clear h
   go_enter Tryz.func86,Tryz.ntmps86;go_wp2_with fail;go_ret;exact ⟨ce (by rw [HF.out];rfl),rfl⟩
 | false =>
   have ht:(FloatKind.f32.format.order x x != some .eq)=false:=h;have HF:Hid (bz x=x):=by simp [Hid,bz,h]
   clear h
   go_enter Tryz.func86,Tryz.ntmps86;go_wp2_with fail;go_ret;exact ⟨ce (by rw [HF.out]),rfl⟩
theorem Hq (w:World) (hT:TabB w) (x:Nat) (hx:x<4294967296) :
 Calls Tryz.prog 46 #[.float .f32 x] w fun e w'=>e=.returned (.string (bs (db x)))∧Below w.heap.size w w':=by
 have L1:=Na (DX x hx w);have hb:=uq hx;have L2:=Na (yy w hT (bz x) hb);have hl:=tQ (bz x);obtain ⟨hl8,hp⟩:=Je hb;have HP:Hid (List.replicate (8 - (dz (bz x)).length) 48 ++ dz (bz x)=db x):=hp;have hsz:(bs (dz (bz x))).size=(dz (bz x)).length:=aI _;have HB:Hid (bs (List.replicate (8 - (dz (bz x)).length) 48) ++ bs (dz (bz x))=bs (db x)):=by
  rw [Hid,bG,HP.out]
 have hz1:(bs (List.replicate (8 - (dz (bz x)).length) 48)).size≤8:=by rw [aI,List.length_replicate];omega
 obtain ⟨n,hn⟩:∃ n,n=8 - (dz (bz x)).length:=⟨_,rfl⟩;have hnl:(8:Int) - ((bs (dz (bz x))).size:Int)=(n:Int):=by rw [hsz];omega
 have L3:=Na (fun v=>Co v n (by omega))
 rw [← hn] at HB hz1;have hz2:(bs (dz (bz x))).size≤8:=by rw [hsz];exact hl8
 generalize bs (dz (bz x))=U at *
 generalize bs (List.replicate n 48)=Z at *
 have s0:¬ 9223372036854775807<Z.size+U.size:=by omega
 clear hT hl hl8 hp HP hsz hn hx hb
 go_enter Tryz.func46,Tryz.ntmps46;go_wp2_with fail;refine L1.out.mono ?_;rintro e w1 ⟨rfl,rfl⟩;go_wp2_with fail;refine L2.out.mono ?_;rintro e w1 ⟨rfl,hb1⟩;have B1:=Na hb1;clear L2 hb1;go_wp2_with fail;refine (L3.out _).mono ?_;rintro e w2 ⟨rfl,hb2⟩;go_wp2_with fail;go_ret;refine ⟨?_,aa B1.out hb2⟩
 rw [← HB.out];rfl
def Errs (w:World):Prop:=(∃ ev:Value,w.cell? ⟨3,0,none⟩=some ev∧(ev=.nilIface∨∃ te pe,ev=.iface te pe))∧(∃ ev:Value,w.cell? ⟨4,0,none⟩=some ev∧(ev=.nilIface∨∃ te pe,ev=.iface te pe))
theorem Errs.to {w w':World} (h:Errs w) (hb:Below w.heap.size w w'):Errs w':=by
 obtain ⟨⟨a,ha,ha2⟩,⟨b,hb1,hb2⟩⟩:=h;exact ⟨⟨a,(hb.cell (p:=⟨3,0,none⟩) (World.block_lt_of_cell? w _ ha)).trans ha,ha2⟩,⟨b,(hb.cell (p:=⟨4,0,none⟩) (World.block_lt_of_cell? w _ hb1)).trans hb1,hb2⟩⟩
theorem Cy (w:World) (h:Errs w) (s:ByteArray) (hs:s.size≤1048576) :
 Calls Tryz.prog 137 #[.string s,.int .i64 10,.int .i64 64] w fun e w' =>
  (∃ v,Lib.parseIntB 64 s.data.toList=.ok v∧e=.returned (.tuple #[.int .i64 v,.nilIface])∧Below w.heap.size w w') ∨
  ((∀ v,Lib.parseIntB 64 s.data.toList≠.ok v)∧∃ n t p,e=.returned (.tuple #[.int .i64 n,.iface t p])∧Below w.heap.size w w'):=by
 obtain ⟨⟨a,ha,ha2⟩,⟨b,hb1,hb2⟩⟩:=h
 cases hp:Lib.parseIntB 64 s.data.toList with
 | ok v =>
   refine (Any.strconv_ParseInt_10_at64_ok Tryz.laysC174 s (by omega) v hp w).mono ?_
   rintro e w' ⟨rfl,rfl | ⟨t,rfl⟩⟩
   · exact .inl ⟨v,rfl,rfl,Below.refl _ _⟩
   · exact .inl ⟨v,rfl,rfl,Lib.bytesWorld_below _ _ _⟩
 | range =>
   refine (Any.strconv_ParseInt_10_at64_range Tryz.laysC174 s (by omega) hp b w hb1 hb2).mono ?_
   rintro e w' ⟨N,rfl,_,_,hb⟩;exact .inr ⟨(fun v hv=>by cases hv),_,_,_,rfl,hb⟩
 | _ =>
   refine (Any.strconv_ParseInt_10_at64_syntax Tryz.laysC174 s (by omega) hp a w ha ha2).mono ?_
   rintro e w' ⟨N,rfl,_,_,hb⟩;exact .inr ⟨(fun v hv=>by cases hv),_,_,_,rfl,hb⟩
theorem zD (n:Int) (w:World) :
 Calls Tryz.prog 138 #[.int .i64 n] w fun e w'=>e=.returned (.bool (eu n (-1000000000000000) 1000000000000000))∧w=w':=by
 have L:=Na (du n (-1000000000000000) 1000000000000000 w);generalize eu n (-1000000000000000) 1000000000000000=b at *
 go_enter Tryz.func138,Tryz.ntmps138;go_wp2_with fail;refine L.out.mono ?_;rintro e w' ⟨rfl,rfl⟩;go_wp2_with fail;go_ret;exact ⟨rfl,rfl⟩
theorem jH (w:World) (hT:Tab w) (hE:Errs w) (s:ByteArray) (hs:s.size≤1048576) :
 Calls Tryz.prog 100 #[.string s] w fun e w'=>e=.returned (.tuple #[.int .i64 ((eg s.data.toList).getD 0),.bool (eg s.data.toList).isSome])∧Below w.heap.size w w':=by
 have LP:=Na (Cy w hE s hs);have LD:=Na (fun v (hv:Tab v) n h0 h1=>lL v hv n h0 h1)
 have LV:=Na zD;have HT:=Na hT;clear hT hE
 go_enter Tryz.func100,Tryz.ntmps100;go_wp2_with fail;refine LP.out.mono ?_;clear LP;rintro e w1 (⟨v,hp,rfl,hb⟩ | ⟨hp,n,t,p,rfl,hb⟩)
 · have HB:=Na hb
   have hbd:=Lib.parseIntB_bounds hp;have b0:-9223372036854775808≤v:=by have:=hbd.1;simpa using this
   have b1:v≤9223372036854775807:=by have:=hbd.2;simp at this;omega
   cases hin:eu v (-1000000000000000) 1000000000000000 with
   | false =>
     have HV:Hid (eg s.data.toList=none):=wJ fun m h0 h1 he=>by
      rw [← he,qz h0 h1] at hp;injection hp with hp
      subst hp;have h9:=(bH (n:=m) (lo:=-1000000000000000) (hi:=1000000000000000)).2 ⟨h0,h1⟩;rw [h9] at hin
      cases hin
     have LV1:=Na (LV.out v w1);rw [hin] at LV1;clear hp hbd hin hb;go_wp2_with fail;refine LV1.out.mono ?_;rintro e w' ⟨rfl,rfl⟩;go_wp2_with fail
     go_ret2
     rw [HV.out];exact ⟨rfl,HB.out⟩
   | true =>
     obtain ⟨i0,i1⟩:=bH.1 hin;have LV1:=Na (LV.out v w1);rw [hin] at LV1;have LD1:=Na (LD.out w1 (HT.out.to hb) v b0 b1)
     by_cases he:Lib.itoa v=s.data.toList
     · have HV:Hid (eg s.data.toList=some v):=Jb he i0 i1
       have hS:bs (Lib.itoa v)=s:=by rw [he,uN]
       rw [hS] at LD1;clear hp hbd hin hb hS he;go_wp2_with fail;refine LV1.out.mono ?_;rintro e w' ⟨rfl,rfl⟩;go_wp2_with fail;refine LD1.out.mono ?_;rintro e w2 ⟨rfl,hb2⟩;go_wp2_with fail
       go_ret2
       rw [HV.out];exact ⟨rfl,aa HB.out hb2⟩
     · have HV:Hid (eg s.data.toList=none):=wJ fun m h0 h1 hm=>by
         rw [← hm,qz h0 h1] at hp;injection hp with hp
         subst hp;exact he hm
       have hbl:((bs (Lib.itoa v)).toList == s.toList)=false:=by rw [ab,Lib.toList_data,Bool.eq_false_iff];intro h;exact he (eq_of_beq h)
       generalize bs (Lib.itoa v)=D at *
       clear hp hbd hin hb he;go_wp2_with fail;refine LV1.out.mono ?_;rintro e w' ⟨rfl,rfl⟩;go_wp2_with fail;refine LD1.out.mono ?_;rintro e w2 ⟨rfl,hb2⟩;go_wp2_with fail
       go_ret2
       rw [HV.out];exact ⟨rfl,aa HB.out hb2⟩
 · have HV:Hid (eg s.data.toList=none):=wJ fun m h0 h1 he=>hp m (by rw [← he];exact qz h0 h1)
   have HB:=Na hb;clear hp hb;go_wp2_with fail
   go_ret2
   rw [HV.out];exact ⟨rfl,HB.out⟩
theorem BJ {xs:List Int} {k:Nat} {x:Int} (hx:xs[k]? = some x):(xs.take (k+1)).map Lib.itoa=(xs.take k).map Lib.itoa ++ [Lib.itoa x]:=by
 rw [List.take_add_one,hx];simp
theorem A5 (w:World) (ht:Tab w) (a:Option Addr) (c:Nat) (xs:List Int) (h:Rd w w.heap.size a (ae xs)) (hl:xs.length≤1048576) (hr:∀ x∈xs,-9223372036854775808≤x∧x≤9223372036854775807) :
 Calls Tryz.prog 109 #[.slice a xs.length c] w fun e w'=>e=.returned (.string (bs (az xs)))∧Below w.heap.size w w':=by
 have HT:=Na ht;have HR:=Na hr;have HA:=Na h;clear h hr ht
 go_enter Tryz.func109,Tryz.ntmps109;go_wp2_with fail
 go_loopw [3,9] (fun v iv wr=>∃ k:Nat,k≤xs.length∧iv=.int .i64 k∧Hid (wr.ownsRow w.heap.size 9 1 v k (cn ((xs.take k).map Lib.itoa)))∧Below w.heap.size w wr) (fun _ iv _=>xs.length - (intOf iv).toNat)
 case atStart=>exact ⟨0,Nat.zero_le _,rfl,bD w _,ah _ _⟩
 case round =>
  obtain ⟨k,hk,rfl,hO,hw⟩:=hrel;have hws:=hw.size
  by_cases hlt:k<xs.length
  · obtain ⟨b,o,x,rfl,hbb,hck,hx⟩:=(HA.out.to hw).get hlt
    have LD:=Na (lL wr (HT.out.to hw) x (HR.out x (List.mem_of_getElem? hx.out)).1 (HR.out x (List.mem_of_getElem? hx.out)).2);have HN:=Na (BJ hx.out);go_wp2_with fail;refine LD.out.mono ?_;rintro e w1 ⟨rfl,hb1⟩;have hO1:=aG hO.out hb1;have hw1:=hw.trans (hb1.mono hws);have hs1:=hw1.size;have hk2:k≤1099511627776:=by omega
    clear hO hb1 hck hw
    go_wp2_with (at_builtin;refine aH _ rfl _ _ 35 rfl w.heap.size 9 (.string ByteArray.empty) 16 Tryz.underlying35 oh rfl _ k _ rfl hO1 (.string (bs (Lib.itoa x))) rfl rfl (by omega) hk2 hs1 ?_)
    intro v' w' ho hgr;have hw2:=ai hw1 hO1 hgr (Nat.le_refl _) hs1;have HO2:Hid (w'.ownsRow w.heap.size 9 1 v' (k+1) (cn ((xs.take (k+1)).map Lib.itoa))):=by
     rw [HN.out,gZ,List.map_take];exact ho
    clear ho hgr hO1 hw1;go_wp2_with fail;go_roundw
    case rel=>exact ⟨k+1,by omega,by go_num,HO2,hw2⟩
    case measure=>first | (simp [intOf];done) | (simp [intOf];omega)
  · have:k=xs.length:=by omega
    subst this;rw [List.take_length] at hO;obtain ⟨a',c',rfl,hc',_⟩:=bj hO.out;have hrd:=ay hO.out (Nat.le_refl _);have LJ:=vF wr a' c' (xs.map Lib.itoa) hrd (by rw [List.length_map];exact hc') (by rw [List.length_map];exact hl) (by
     have:=km (m:=21) (xs:=xs.map Lib.itoa) (sep:=[44]) (fun x hx=>by
      obtain ⟨y,hy,rfl⟩:=List.mem_map.1 hx;have:=HR.out y hy;exact iA this.1 this.2)
     rw [List.length_map] at this;simp at this;omega)
    rw [List.length_map] at LJ;have HE:Hid ((if xs.map Lib.itoa=[] then [110,111,110,101] else Lib.join (xs.map Lib.itoa) [44])=az xs):=by
     show _=_
     unfold az
     cases xs <;> simp
    rw [HE.out] at LJ;have LJ:=Na LJ;clear hO hrd;go_wp2_with fail;refine LJ.out.mono ?_;rintro e w1 ⟨rfl,hb1⟩;have hw2:=hw.trans (hb1.mono hws);clear hb1 hw;go_wp2_with fail;go_ret;exact ⟨rfl,hw2⟩
theorem sa (w:World) (ht:Tab w) (a:Option Addr) (c:Nat) (xs:List Int) (h:Rd w w.heap.size a (ae xs)) (hv:bq xs=true) :
 Calls Tryz.prog 82 #[.slice a xs.length c] w fun e w'=>e=.returned (.tuple #[.string (bs (az xs)),.bool true])∧Below w.heap.size w w':=by
 have hv2:=hv;simp only [bq,Bool.and_eq_true,decide_eq_true_eq] at hv2;have LA:=Na (qQ w a c xs h (by omega))
 rw [hv] at LA;have LL:=Na (A5 w ht a c xs h (by omega) (fun x hx=>by have:=eG.1 hv2.1 x hx;omega))
 have h64:=hv2.2;clear hv hv2 h ht
 go_enter Tryz.func82,Tryz.ntmps82;go_wp2_with fail;refine LA.out.mono ?_;rintro e w1 ⟨rfl,rfl⟩;go_wp2_with fail;refine LL.out.mono ?_;rintro e w1 ⟨rfl,hb1⟩;go_wp2_with fail
 go_ret2
 exact ⟨rfl,hb1⟩
def RdP (w:World) (B:Nat) (a:Option Addr) (yss:List (List Int)):Prop :=
 ∃ vs:List Value,vs.length=yss.length∧Rd w B a vs∧∀ (k:Nat) (ys:List Int),yss[k]? = some ys→∃ (a':Option Addr) (c':Nat),vs[k]? = some (Value.slice a' ys.length c')∧Rd w B a' (ae ys)
theorem RdP.to {w w':World} {a:Option Addr} {yss:List (List Int)} (h:RdP w w.heap.size a yss) (hb:Below w.heap.size w w'):RdP w' w'.heap.size a yss:=by
 obtain ⟨vs,h1,h2,h3⟩:=h;exact ⟨vs,h1,h2.to hb,fun k ys hk=>let ⟨a',c',e1,e3⟩:=h3 k ys hk;⟨a',c',e1,e3.to hb⟩⟩
theorem RdP.get {w:World} {B:Nat} {a:Option Addr} {yss:List (List Int)} (h:RdP w B a yss) {k:Nat} (hk:k<yss.length) :
 ∃ b o ys a' c',a=some ⟨b,o,none⟩∧b<B∧w.cell? ⟨b,o+k,none⟩=some (.slice a' ys.length c')∧Rd w B a' (ae ys)∧Hid (yss[k]? = some ys):=by
 obtain ⟨vs,h1,h2,h3⟩:=h;obtain ⟨b,o,v,ha,hb,hc,hv⟩:=h2.getV (k:=k) (by omega)
 obtain ⟨a',c',e1,e3⟩:=h3 k yss[k] (List.getElem?_eq_getElem hk);have hv':=hv.out;rw [e1] at hv';injection hv' with hv'
 exact ⟨b,o,yss[k],a',c',ha,hb,by rw [hc,hv'],e3,by simp [Hid,List.getElem?_eq_getElem hk]⟩
theorem uH {xss:List (List Int)} {k:Nat} {x:List Int} (hx:xss[k]? = some x):(xss.take (k+1)).map az=(xss.take k).map az ++ [az x]:=by
 rw [List.take_add_one,hx];simp
def aJ (xss:List (List Int)):List UInt8:=Lib.join (xss.map az) [59]
theorem jP (w:World) (ht:Tab w) (a:Option Addr) (c:Nat) (xss:List (List Int)) (h:RdP w w.heap.size a xss) (hl:xss.length≤1024) (hr:∀ x∈xss,bq x=true) :
 Calls Tryz.prog 44 #[.slice a xss.length c] w fun e w'=>e=.returned (.tuple #[.string (bs (aJ xss)),.bool true])∧Below w.heap.size w w':=by
 have HT:=Na ht;have HR:=Na hr;have HA:=Na h;clear h hr ht
 go_enter Tryz.func44,Tryz.ntmps44;go_wp2_with fail
 go_loopw [4,12] (fun v iv wr=>∃ k:Nat,k≤xss.length∧iv=.int .i64 k∧Hid (wr.ownsRow w.heap.size 9 1 v k (cn ((xss.take k).map az)))∧Below w.heap.size w wr) (fun _ iv _=>xss.length - (intOf iv).toNat)
 case atStart=>exact ⟨0,Nat.zero_le _,rfl,bD w _,ah _ _⟩
 case round =>
  obtain ⟨k,hk,rfl,hO,hw⟩:=hrel;have hws:=hw.size
  by_cases hlt:k<xss.length
  · obtain ⟨b,o,x,a1,c1,rfl,hbb,hck,hrx,hx⟩:=(HA.out.to hw).get hlt
    have LD:=Na (sa wr (HT.out.to hw) a1 c1 x hrx (HR.out x (List.mem_of_getElem? hx.out)));have HN:=Na (uH hx.out);clear hrx;go_wp2_with fail;refine LD.out.mono ?_;rintro e w1 ⟨rfl,hb1⟩;have hO1:=aG hO.out hb1;have hw1:=hw.trans (hb1.mono hws);have hs1:=hw1.size;have hk2:k≤1099511627776:=by omega
    clear hO hb1 hck hw
    go_wp2_with (at_builtin;refine aH _ rfl _ _ 35 rfl w.heap.size 9 (.string ByteArray.empty) 16 Tryz.underlying35 oh rfl _ k _ rfl hO1 (.string (bs (az x))) rfl rfl (by omega) hk2 hs1 ?_)
    intro v' w' ho hgr;have hw2:=ai hw1 hO1 hgr (Nat.le_refl _) hs1;have HO2:Hid (w'.ownsRow w.heap.size 9 1 v' (k+1) (cn ((xss.take (k+1)).map az))):=by
     rw [HN.out,gZ,List.map_take];exact ho
    clear ho hgr hO1 hw1;go_wp2_with fail;go_roundw
    case rel=>exact ⟨k+1,by omega,by go_num,HO2,hw2⟩
    case measure=>first | (simp [intOf];done) | (simp [intOf];omega)
  · have:k=xss.length:=by omega
    subst this;rw [List.take_length] at hO;obtain ⟨a',c',rfl,hc',_⟩:=bj hO.out;have hrd:=ay hO.out (Nat.le_refl _);have LJ:=AR wr a' c' (xss.map az) [59] hrd (by rw [List.length_map];exact hc') (by rw [List.length_map];omega) (by
     have:=km (m:=2000) (xs:=xss.map az) (sep:=[59]) (fun x hx=>by
      obtain ⟨y,hy,rfl⟩:=List.mem_map.1 hx;have hv:=HR.out y hy;simp only [bq,Bool.and_eq_true,decide_eq_true_eq] at hv;have:=oz (xs:=y) (fun z hz=>by have:=eG.1 hv.1 z hz;omega)
      omega)
     rw [List.length_map] at this;simp at this;omega)
    rw [List.length_map] at LJ;have LJ:=Na LJ;clear hO hrd;go_wp2_with fail;refine LJ.out.mono ?_;rintro e w1 ⟨rfl,hb1⟩;have hw2:=hw.trans (hb1.mono hws);clear hb1 hw;go_wp2_with fail
    go_ret2
    exact ⟨rfl,hw2⟩
theorem fw {w:World} {g:Nat} {vs:List Value} {t:TypeId} (h:Blk w g vs t):Rd w w.heap.size (some ⟨g,0,none⟩) vs:=.inr ⟨g,0,rfl,h.lt,fun j _=>by rw [Nat.zero_add];exact h.cell j⟩
theorem Lz {w:World} {g g1 c2 c3:Nat} {p q:Int} {a2 a3:Option Addr} {x2 x3:List Int} {t t1:TypeId} (hB:Blk w g [.slice (some ⟨g1,0,none⟩) 2 2,.slice a2 x2.length c2,.slice a3 x3.length c3] t) (h1:Blk w g1 [.int .i64 p,.int .i64 q] t1) (h2:Rd w w.heap.size a2 (ae x2)) (h3:Rd w w.heap.size a3 (ae x3)):RdP w w.heap.size (some ⟨g,0,none⟩) [[p,q],x2,x3]:=by
 refine ⟨_,rfl,fw hB,fun k ys hk=>?_⟩
 match k,hk with
 | 0,hk=>injection hk with hk;subst hk;exact ⟨_,_,rfl,fw h1⟩
 | 1,hk=>injection hk with hk;subst hk;exact ⟨_,_,rfl,h2⟩
 | 2,hk=>injection hk with hk;subst hk;exact ⟨_,_,rfl,h3⟩
theorem MX {w:World} {g g1 c2:Nat} {p q:Int} {a2:Option Addr} {x2:List Int} {t t1:TypeId} (hB:Blk w g [.slice (some ⟨g1,0,none⟩) 2 2,.slice a2 x2.length c2] t) (h1:Blk w g1 [.int .i64 p,.int .i64 q] t1) (h2:Rd w w.heap.size a2 (ae x2)):RdP w w.heap.size (some ⟨g,0,none⟩) [[p,q],x2]:=by
 refine ⟨_,rfl,fw hB,fun k ys hk=>?_⟩
 match k,hk with
 | 0,hk=>injection hk with hk;subst hk;exact ⟨_,_,rfl,fw h1⟩
 | 1,hk=>injection hk with hk;subst hk;exact ⟨_,_,rfl,h2⟩
theorem zC (w:World) (u v:List Value) (t s:TypeId):Blk ((w.alloc (.cells u.toArray t)).alloc (.cells v.toArray s)) w.heap.size u t∧Blk ((w.alloc (.cells u.toArray t)).alloc (.cells v.toArray s)) (w.heap.size+1) v s:=by
 refine ⟨(Blk.new w u t).alloc _,?_⟩
 have:=Blk.new (w.alloc (.cells u.toArray t)) v s;simpa using this
theorem iZ {xs:List Int} (h:∀ x∈xs,-1000000000000000≤x∧x≤1000000000000000) (hl:xs.length≤64):bq xs=true:=by
 simp only [bq,Bool.and_eq_true,decide_eq_true_eq];exact ⟨eG.2 h,hl⟩
theorem Hx (a b c:List Int):aJ [a,b,c]=az a ++ [59] ++ az b ++ [59] ++ az c:=by
 unfold aJ;simp only [List.map_cons,List.map_nil,Lib.join_cons,Lib.joinTail,List.flatten_cons,List.flatten_nil,List.append_nil,List.append_assoc]
theorem Md (a b:List Int):aJ [a,b]=az a ++ [59] ++ az b:=by
 unfold aJ;simp only [List.map_cons,List.map_nil,Lib.join_cons,Lib.joinTail,List.flatten_cons,List.flatten_nil,List.append_nil,List.append_assoc]
theorem eh {xs:List Int} (h:bq xs=true):(∀ x∈xs,-9223372036854775808≤x∧x≤9223372036854775807)∧xs.length≤64:=by
 simp only [bq,Bool.and_eq_true,decide_eq_true_eq] at h;exact ⟨fun x hx=>by have:=eG.1 h.1 x hx;omega,h.2⟩
theorem gJ {xs:List Int} (h:bq xs=true):(bs (az xs)).size≤2000:=by
 obtain ⟨h1,h2⟩:=eh h;have:=oz h1;rw [aI];omega
def er (xss:List (List Int)):Option (List UInt8):=if xss.all bq then some (aJ xss) else none
theorem AY {xss:List (List Int)} (h:∀ x∈xss,bq x=true):er xss=some (aJ xss):=if_pos (List.all_eq_true.2 h)
theorem Lq {xss:List (List Int)} {x:List Int} (hx:x∈xss) (h:bq x=false):er xss=none:=if_neg (fun e=>by rw [List.all_eq_true.1 e x hx] at h;cases h)
def kS (r:Option (List UInt8)) (w:World) (e:Ending) (w':World):Prop:=Below w.heap.size w w'∧e=.returned (.tuple #[.string (bs (r.getD [])),.bool r.isSome])
theorem JL {xss:List (List Int)} {k:Nat} {x:List Int} (h:∀ y∈xss.take k,bq y=true) (hx:xss[k]? = some x) (hv:bq x=true):∀ y∈xss.take (k+1),bq y=true:=by
 intro y hy;rw [List.take_add_one,hx] at hy
 rcases List.mem_append.1 hy with hy | hy
 · exact h y hy
 · simp at hy;subst hy;exact hv
theorem BY (w:World) (a:Option Addr) (c:Nat) (xs:List Int) (h:Rd w w.heap.size a (ae xs)) (hl:xs.length≤1048576) (hv:bq xs=false) :
 Calls Tryz.prog 82 #[.slice a xs.length c] w fun e w'=>e=.returned (.tuple #[.string (bs []),.bool false])∧w=w':=by
 have LA:=Na (qQ w a c xs h hl);rw [hv] at LA;clear hv h
 go_enter Tryz.func82,Tryz.ntmps82;go_wp2_with fail;refine LA.out.mono ?_;rintro e w1 ⟨rfl,rfl⟩;go_wp2_with fail
 go_ret2
 exact ⟨rfl,rfl⟩
theorem BT (w:World) (ht:Tab w) (a:Option Addr) (c:Nat) (xss:List (List Int)) (h:RdP w w.heap.size a xss) (hl:xss.length≤1024) (hls:∀ x∈xss,x.length≤1048576) :
 Calls Tryz.prog 44 #[.slice a xss.length c] w (kS (er xss) w):=by
 cases hall:xss.all bq with
 | true =>
   have hr:=List.all_eq_true.1 hall;rw [AY hr];exact (jP w ht a c xss h hl hr).mono fun e w' ⟨h1,h2⟩=>⟨h2,h1⟩
 | false =>
   have HF:Hid (er xss=none):=if_neg (by rw [hall];decide)
   have HFin:Hid (¬ ∀ y∈xss.take xss.length,bq y=true):=fun hh=>by
    rw [List.take_length] at hh;rw [List.all_eq_true.2 hh] at hall;cases hall
   rw [HF.out];have HT:=Na ht;have HA:=Na h;have HLS:=Na hls;clear h ht hall hls
   go_enter Tryz.func44,Tryz.ntmps44;go_wp2_with fail
   go_loopw [4,12] (fun v iv wr=>∃ k:Nat,k≤xss.length∧iv=.int .i64 k∧Hid (wr.ownsRow w.heap.size 9 1 v k (cn ((xss.take k).map az)))∧Hid (∀ y∈xss.take k,bq y=true)∧Below w.heap.size w wr) (fun _ iv _=>xss.length - (intOf iv).toNat)
   case atStart=>exact ⟨0,Nat.zero_le _,rfl,bD w _,fun y hy=>by simp at hy,ah _ _⟩
   case round =>
    obtain ⟨k,hk,rfl,hO,hV,hw⟩:=hrel;have hws:=hw.size
    by_cases hlt:k<xss.length
    · obtain ⟨b,o,x,a1,c1,rfl,hbb,hck,hrx,hx⟩:=(HA.out.to hw).get hlt
      have hxl:=HLS.out x (List.mem_of_getElem? hx.out)
      cases hv:bq x with
      | false =>
        have LD:=Na (BY wr a1 c1 x hrx hxl hv);clear hrx hv;go_wp2_with fail;refine LD.out.mono ?_;rintro e w1 ⟨rfl,rfl⟩;go_wp2_with fail
        go_ret2
        exact ⟨hw,rfl⟩
      | true =>
        have LD:=Na (sa wr (HT.out.to hw) a1 c1 x hrx hv);have HN:=Na (uH hx.out);have HV2:=Na (JL hV.out hx.out hv);clear hrx hv hV;go_wp2_with fail;refine LD.out.mono ?_;rintro e w1 ⟨rfl,hb1⟩;have hO1:=aG hO.out hb1;have hw1:=hw.trans (hb1.mono hws);have hs1:=hw1.size;have hk2:k≤1099511627776:=by omega
        clear hO hb1 hck hw
        go_wp2_with (at_builtin;refine aH _ rfl _ _ 35 rfl w.heap.size 9 (.string ByteArray.empty) 16 Tryz.underlying35 oh rfl _ k _ rfl hO1 (.string (bs (az x))) rfl rfl (by omega) hk2 hs1 ?_)
        intro v' w' ho hgr;have hw2:=ai hw1 hO1 hgr (Nat.le_refl _) hs1;have HO2:Hid (w'.ownsRow w.heap.size 9 1 v' (k+1) (cn ((xss.take (k+1)).map az))):=by
         rw [HN.out,gZ,List.map_take];exact ho
        clear ho hgr hO1 hw1;go_wp2_with fail;go_roundw
        case rel=>exact ⟨k+1,by omega,by go_num,HO2,HV2,hw2⟩
        case measure=>first | (simp [intOf];done) | (simp [intOf];omega)
    · have:k=xss.length:=by omega
      subst this;exact absurd hV.out HFin.out
theorem gx (w:World) (ht:Tab w) (ok:Bool) (a:Option Addr) (c:Nat) (xss:List (List Int)) (h:RdP w w.heap.size a xss) (hl:xss.length≤1024) (hls:∀ x∈xss,x.length≤1048576) :
 Calls Tryz.prog 102 #[.bool ok,.slice a xss.length c] w (kS (if ok then er xss else none) w):=by
 have LP:=Na (BT w ht a c xss h hl hls);clear h ht hls
 cases ok with
 | false =>
   rw [if_neg (by decide)]
   go_enter Tryz.func102,Tryz.ntmps102;go_wp2_with fail
   go_ret2
   exact ⟨Below.refl _ _,rfl⟩
 | true =>
   rw [if_pos rfl];generalize er xss=r at *
   go_enter Tryz.func102,Tryz.ntmps102;go_wp2_with fail;refine LP.out.mono ?_;rintro e w1 ⟨hb,rfl⟩;go_wp2_with fail
   go_ret2
   exact ⟨hb,rfl⟩
def qn (ok:Bool) (xs:List Int) (n:Int):Option (List UInt8):=if ok && bq xs then some (az xs ++ [59] ++ Lib.itoa n) else none
theorem EI {w:World} {g c:Nat} {a:Option Addr} {xs:List Int} {t:TypeId} (hB:Blk w g [.slice a xs.length c] t) (h:Rd w w.heap.size a (ae xs)):RdP w w.heap.size (some ⟨g,0,none⟩) [xs]:=by
 refine ⟨_,rfl,fw hB,fun k ys hk=>?_⟩
 match k,hk with
 | 0,hk=>injection hk with hk;subst hk;exact ⟨_,_,rfl,h⟩
theorem JZ {w:World} {g c d:Nat} {a b:Option Addr} {xs ys:List Int} {t:TypeId} (hB:Blk w g [.slice a xs.length c,.slice b ys.length d] t) (h1:Rd w w.heap.size a (ae xs)) (h2:Rd w w.heap.size b (ae ys)):RdP w w.heap.size (some ⟨g,0,none⟩) [xs,ys]:=by
 refine ⟨_,rfl,fw hB,fun k zs hk=>?_⟩
 match k,hk with
 | 0,hk=>injection hk with hk;subst hk;exact ⟨_,_,rfl,h1⟩
 | 1,hk=>injection hk with hk;subst hk;exact ⟨_,_,rfl,h2⟩
theorem My (a:List Int):aJ [a]=az a:=by unfold aJ;rw [List.map_cons,List.map_nil,Lib.join_one]
def RetTn (r:Option (List UInt8)) (w:World) (e:Ending) (w':World):Prop:=Below w.heap.size w w'∧∃ t,e=.returned (.tuple #[.string t,.bool r.isSome])∧∀ l,r=some l→t=bs l
theorem jq (w:World) (ht:Tab w) (ok:Bool) (a:Option Addr) (c:Nat) (xs:List Int) (n:Int) (h:Rd w w.heap.size a (ae xs)) (hl:xs.length≤1048576) (n0:-9223372036854775808≤n) (n1:n≤9223372036854775807) :
 Calls Tryz.prog 129 #[.slice a xs.length c,.int .i64 n,.bool ok] w (RetTn (qn ok xs n) w):=by
 have B1:=Na (ah w (.cells #[.slice a xs.length c] 24));have LP:=Na (gx (w.alloc (.cells #[.slice a xs.length c] 24)) (ht.to B1.out) ok (some ⟨w.heap.size,0,none⟩) 1 [xs] (EI (Blk.new w [.slice a xs.length c] 24) (h.to B1.out)) (by simp) (fun x hx=>by simp at hx;subst hx;exact hl))
 have LD:=Na (fun v (hb:Below w.heap.size w v)=>lL v (ht.to hb) n n0 n1)
 have hd:(bs (Lib.itoa n)).size≤21:=by rw [aI];exact iA n0 n1
 cases hv:(ok && bq xs) with
 | true =>
   have HN:Hid (qn ok xs n=some (az xs ++ [59] ++ Lib.itoa n)):=if_pos hv;rw [Bool.and_eq_true] at hv;obtain ⟨h1,h2⟩:=hv;subst h1;rw [if_pos rfl,AY (by intro x hx;simp at hx;subst hx;exact h2),My] at LP
   have hz:(bs (az xs)).size≤2000:=by
    rw [aI];simp only [bq,Bool.and_eq_true,decide_eq_true_eq] at h2;have:=oz (xs:=xs) (fun z hz=>by have:=eG.1 h2.1 z hz;omega)
    omega
   have HE:Hid (bs (az xs) ++ ⟨#[59]⟩ ++ bs (Lib.itoa n)=bs (az xs ++ [59] ++ Lib.itoa n)):=by
    show _=_
    rw [← bG,← bG];rfl
   rw [HN.out];unfold kS at LP;simp only [Option.getD_some,Option.isSome_some] at LP;generalize bs (az xs)=T at *
   generalize bs (Lib.itoa n)=D at *
   have s0:¬ 9223372036854775807<T.size+1:=by omega
   have s1:¬ 9223372036854775807<T.size+1+D.size:=by omega
   clear ht h h2 HN
   go_enter Tryz.func129,Tryz.ntmps129;go_wp2_with fail;refine LP.out.mono ?_;rintro e w1 ⟨hb,rfl⟩;have hb1:=Na (aa B1.out hb);have LD1:=Na (LD.out _ hb1.out);clear hb LP LD;go_wp2_with fail;refine LD1.out.mono ?_;rintro e w2 ⟨rfl,hb2⟩;go_wp2_with fail
   go_ret2
   refine ⟨aa hb1.out hb2,_,rfl,fun l hl=>?_⟩
   injection hl with hl
   rw [← hl,← HE.out]
 | false =>
   have HN:Hid (qn ok xs n=none):=if_neg (by rw [hv];decide)
   have HL:Hid ((if ok then er [xs] else none)=none):=by
    show _=_
    cases ok with
    | false=>rfl
    | true =>
      rw [Bool.true_and] at hv;rw [if_pos rfl];exact Lq (x:=xs) (by simp) hv
   rw [HN.out];rw [HL.out] at LP;unfold kS at LP;simp only [Option.getD_none,Option.isSome_none] at LP;generalize bs (Lib.itoa n)=D at *
   have s0:¬ 9223372036854775807<(bs []).size+1:=by rw [aI];decide
   have s1:¬ 9223372036854775807<(bs []).size+1+D.size:=by rw [aI,List.length_nil];omega
   clear ht h hv HN HL
   go_enter Tryz.func129,Tryz.ntmps129;go_wp2_with fail;refine LP.out.mono ?_;rintro e w1 ⟨hb,rfl⟩;have hb1:=Na (aa B1.out hb);have LD1:=Na (LD.out _ hb1.out);clear hb LP LD;go_wp2_with fail;refine LD1.out.mono ?_;rintro e w2 ⟨rfl,hb2⟩;go_wp2_with fail
   go_ret2
   exact ⟨aa hb1.out hb2,_,rfl,fun l hl=>by cases hl⟩
end Go.Proofs.YtbknhgapjjaelaaGreatDoor
