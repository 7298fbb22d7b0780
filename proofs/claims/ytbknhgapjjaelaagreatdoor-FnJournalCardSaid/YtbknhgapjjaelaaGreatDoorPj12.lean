/-
  Part 12 of what the proof stands on: lemmas and contracts, each with its conditions ahead of the colon.
-/
import Derived.Test.YtbknhgapjjaelaaGreatDoorPj01
import Derived.Test.YtbknhgapjjaelaaGreatDoorShelf
import Derived.Outline
import Derived.Test.YtbknhgapjjaelaaGreatDoorPj02
import Derived.Test.YtbknhgapjjaelaaGreatDoorPj03
import Derived.Test.YtbknhgapjjaelaaGreatDoorPj04
import Derived.Test.YtbknhgapjjaelaaGreatDoorPj05
import Derived.Test.YtbknhgapjjaelaaGreatDoorPj08
import Derived.Test.YtbknhgapjjaelaaGreatDoorPj09
import Derived.Test.YtbknhgapjjaelaaGreatDoorPj11
set_option maxRecDepth 200000
set_option maxHeartbeats 8000000
namespace Go.Proofs.YtbknhgapjjaelaaGreatDoor
set_option linter.unusedVariables false
set_option linter.unusedSimpArgs false
open Go.RowKit
theorem cD (a b:List UInt8):bs a ++ bs b=bs (a ++ b):=by
 apply Ao
 rw [ByteArray.data_append];simp [bs]
theorem He {xs:List Int} {x:Int} (h:xs[0]? = some x):Lib.join ((xs.take 1).map Lib.itoa) [44]=Lib.itoa x:=by
 cases xs with
 | nil=>simp at h
 | cons y r=>simp at h;subst h;simp [Lib.join_one]
theorem fu (w:World) (a:Option Addr) (c:Nat) (xs:List Int) (h:Rd w w.heap.size a (ae xs)) (hl:xs.length≤1048576) (hr:∀ x∈xs,-9223372036854775808≤x∧x≤9223372036854775807) :
 Calls Tryz.prog 96 #[.slice a xs.length c] w fun e w'=>e=.returned (.string (bs (aJ xs)))∧Below w.heap.size w w':=by
 by_cases he:xs=[]
 · subst he
   go_enter Tryz.func96,Tryz.ntmps96;go_wp2_with fail;go_ret;exact ⟨rfl,Below.refl _ _⟩
 · have h1:1≤xs.length:=by
     rcases Nat.eq_zero_or_pos xs.length with e | e
     · exact absurd (List.eq_nil_of_length_eq_zero e) he
     · exact e
   have HE:Hid (aJ xs=Lib.join (xs.map Lib.itoa) [44]):=by
    show _=_
    unfold aJ;rw [if_neg he]
   have HR:=Oi hr;have HA:=Oi h;obtain ⟨b,o,x,rfl,hbb,hck,hx⟩:=h.get (k:=0) (by omega)
   have LD:=Oi (nl w x (hr x (List.mem_of_getElem? hx.out)).1 (hr x (List.mem_of_getElem? hx.out)).2);have HH:=Oi (He hx.out);rw [Nat.add_zero] at hck;clear he hr h
   go_enter Tryz.func96,Tryz.ntmps96;go_wp2_with fail;refine LD.out.mono ?_;rintro e w1 ⟨rfl,hb1⟩;clear hck;go_wp2_with fail
   go_loopw [3,4] (fun v iv wr=>∃ k:Nat,1≤k∧k≤xs.length∧iv=.int .i64 k∧v=.string (bs (Lib.join ((xs.take k).map Lib.itoa) [44]))∧Below w.heap.size w wr) (fun _ iv _=>xs.length - (intOf iv).toNat)
   case atStart=>exact ⟨1,Nat.le_refl _,h1,rfl,by rw [HH.out],hb1⟩
   case round =>
    clear hb1;obtain ⟨k,hk1,hk,rfl,rfl,hw⟩:=hrel;have hws:=hw.size
    by_cases hlt:k<xs.length
    · obtain ⟨b',o',x',ea,hbb',hck,hx'⟩:=(HA.out.to hw).get hlt
      injection ea with ea
      injection ea with ea1 ea2 _
      subst ea1 ea2;have LD':=Oi (nl wr x' (HR.out x' (List.mem_of_getElem? hx'.out)).1 (HR.out x' (List.mem_of_getElem? hx'.out)).2);have HN:=Oi (xK (xs:=xs.map Lib.itoa) (sep:=[44]) hk1 (y:=Lib.itoa x') (by rw [List.getElem?_map,hx'.out];rfl))
      rw [← List.map_take,← List.map_take] at HN;have hp1:=cD [44] (Lib.itoa x');have hp2:=cD (Lib.join ((xs.take k).map Lib.itoa) [44]) ([44] ++ Lib.itoa x');rw [← HN.out] at hp2;have z1:(bs (Lib.itoa x')).size≤21:=by
       rw [aE];exact iF (HR.out x' (List.mem_of_getElem? hx'.out)).1 (HR.out x' (List.mem_of_getElem? hx'.out)).2
      have z2:(bs (Lib.join ((xs.take k).map Lib.itoa) [44])).size≤100000000:=by
       have:=km (m:=21) (xs:=(xs.take k).map Lib.itoa) (sep:=[44]) (fun x hx=>by
        obtain ⟨y,hy,rfl⟩:=List.mem_map.1 hx;have:=HR.out y (List.mem_of_mem_take hy);exact iF this.1 this.2)
       rw [List.length_map,List.length_take] at this;rw [aE];refine Nat.le_trans this (Nat.le_trans (Nat.mul_le_mul_left _ (Nat.min_le_left _ _)) ?_)
       show (21+1) * k≤100000000
       have hk3:k≤1048576:=Nat.le_trans hk hl;omega
      generalize Lib.join ((xs.take k).map Lib.itoa) [44]=J at *
      go_wp2_with fail;refine LD'.out.mono ?_;rintro e w2 ⟨rfl,hb2⟩;have hw2:=hw.trans (hb2.mono hws);clear hb2 hw hck;go_wp2_with fail;go_roundw
      case rel=>exact ⟨k+1,by omega,by omega,by go_num,by rw [← hp2,← hp1];rfl,hw2⟩
      case measure=>first | (simp [intOf];done) | (simp [intOf];omega)
    · have:k=xs.length:=by omega
      subst this;have HE2:Hid (Lib.join ((xs.take xs.length).map Lib.itoa) [44]=aJ xs):=by rw [Hid,List.take_length];exact HE.out.symm
      rw [HE2.out];go_wp2_with fail;go_ret;exact ⟨rfl,hw⟩
def TabB (w:World):Prop:=w.cell? ⟨8,15,none⟩=some (.int .u8 4)
theorem TabB.to {w w':World} (h:TabB w) (hb:Below w.heap.size w w'):TabB w':=(hb.cell (p:=⟨8,15,none⟩) (World.block_lt_of_cell? w _ h)).trans h
theorem Dx (w:World) (h:TabB w):Calls Tryz.prog 247 #[.int .u64 16] w fun e w'=>e=.returned (.int .i64 4)∧w=w':=by
 have h':w.cell? ⟨8,15,none⟩=some (.int .u8 4):=h;have hx:IntKind.u64.wrap (bits BinOp.and IntKind.u64 16 (IntKind.u64.wrap (-16)) * 285870213051353865) / 288230376151711744=15:=by decide +kernel
 go_enter Tryz.func247,Tryz.ntmps247;go_wp2_with fail;go_ret;exact ⟨rfl,rfl⟩
theorem Jj (w:World) (h:TabB w):Calls Tryz.prog 212 #[.int .u64 16] w fun e w'=>e=.returned (.int .i64 4)∧w=w':=by
 have L:=Oi (Dx w h);clear h
 go_enter Tryz.func212,Tryz.ntmps212;go_wp2_with fail;refine L.out.mono ?_;rintro e w1 ⟨rfl,rfl⟩;go_wp2_with fail;go_ret;exact ⟨rfl,rfl⟩
theorem II (w:World):Calls Tryz.prog 211 #[.int .i64 16] w fun e w'=>e=.returned (.bool true)∧w=w':=by
 have hx:(bits BinOp.and IntKind.i64 16 15 == 0)=true:=by decide +kernel
 go_enter Tryz.func211,Tryz.ntmps211;go_wp2_with fail;go_ret;exact ⟨rfl,rfl⟩
theorem NS (a:Nat) (ha:a<18446744073709551616):bits .and .u64 (a:Int) 15=((a % 16:Nat):Int):=by
 show IntKind.u64.wrap ((BitVec.ofInt 64 (a:Int) &&& BitVec.ofInt 64 (15:Int)).toNat:Int)=_
 have h1:(BitVec.ofInt 64 (15:Int)).toNat=15:=by decide
 have h2:(BitVec.ofInt 64 (a:Int)).toNat=a:=by rw [BitVec.ofInt_natCast,BitVec.toNat_ofNat];exact Nat.mod_eq_of_lt (by omega)
 rw [BitVec.toNat_and,h1,h2,show a &&& 15=a % 16 from Nat.and_two_pow_sub_one_eq_mod a 4,Cj]
 have:=Nat.mod_lt a (show 0<16 by omega)
 omega
def oD:ByteArray:=⟨#[48,49,50,51,52,53,54,55,56,57,97,98,99,100,101,102,103,104,105,106,107,108,109,110,111,112,113,114,115,116,117,118,119,120,121,122]⟩
theorem DJ (r:Nat) (h:r<16) (v:World):(Instr.index 9 (.string oD) (.int .u64 (r:Int))).run Tryz.prog v=.ok (.int .u8 ((dy r).toNat:Int)) v:=by
 have key:∀ q:Fin 16,(oD[q.1]?).map (fun b=>(b.toNat:Int))=some ((dy q.1).toNat:Int):=by decide
 have hs:oD.size=36:=by decide
 have hr:=run_index_string (P:=Tryz.prog) v 9 oD .u64 (r:Int) Tryz.underlying9;have hk:=key ⟨r,h⟩;generalize oD=T at *
 rw [dif_pos ⟨by omega,by omega⟩] at hr;rw [ByteArray.getElem?_lt' T r (by omega)] at hk
 rw [hr];injection hk with hk
 congr 1
 rw [← hk]
 rfl
def HexI (u m:Nat) (d:List UInt8):Prop:=dF u=dF m ++ d
theorem HexI.more {u m:Nat} {d:List UInt8} (h:HexI u m d) (hm:¬ m<16):HexI u (m / 16) (dy (m % 16) :: d):=by
 unfold HexI at *
 rw [pf hm,List.append_assoc] at h;exact h
theorem HexI.last {u m:Nat} {d:List UInt8} (h:HexI u m d) (hm:m<16):dF u=dy m :: d:=by
 unfold HexI at *
 rw [jy hm] at h;exact h
theorem HexI.len {u m:Nat} {d:List UInt8} (h:HexI u m d) (hu:u<4294967296):d.length≤7:=by
 have h1:=uo 7 u (by omega)
 unfold HexI at h;rw [h,List.length_append] at h1;have:=uq m;omega
def jV (d:List UInt8):List Value:=List.replicate (65 - d.length) (Value.int .u8 0) ++ fj d
theorem IA {d:List UInt8} (h:d.length≤65):(jV d).length=65:=by
 unfold jV;rw [List.length_append,List.length_replicate,bys_length];omega
theorem yd {d:List UInt8} (h:d.length<65) (b:UInt8):(jV d).set (64 - d.length) (.int .u8 (b.toNat:Int))=jV (b :: d):=by
 unfold jV;have e:65 - d.length=(64 - d.length)+1:=by omega
 rw [e,List.replicate_succ',List.append_assoc,List.set_append_right _ _ (by rw [List.length_replicate];exact Nat.le_refl _),List.length_replicate,Nat.sub_self,List.length_cons,show 65 - (d.length+1)=64 - d.length from by omega]
 rfl
theorem Iz {d:List UInt8} {j:Nat} (h:d.length≤65) (hj:j<d.length):(jV d)[65 - d.length+j]? = some (.int .u8 (d[j].toNat:Int)):=by
 unfold jV;rw [List.getElem?_append_right (by rw [List.length_replicate];omega),List.length_replicate,show 65 - d.length+j - (65 - d.length)=j from by omega,sG hj]
theorem wK (w:World) (hT:TabB w) (u:Nat) (hu:u<4294967296) :
 Calls Tryz.prog 152 #[.slice none 0 0,.int .u64 u,.int .i64 16,.bool false,.bool false] w fun e w'=>e=.returned (.tuple #[.slice none 0 0,.string (bs (dF u))])∧Below w.heap.size w w':=by
 have LP:=Oi II;have B1:=Oi (ai w (.cells (List.replicate 65 (Value.int .u8 0)).toArray 246));have K1:=Oi (Blk.new w (List.replicate 65 (Value.int .u8 0)) 246);have LT:=Oi (fun v (hb:Below w.heap.size w v)=>Jj v (hT.to hb))
 clear hT
 go_enter Tryz.func152,Tryz.ntmps152;go_wp2_with fail;refine (LP.out _).mono ?_;rintro e w1 ⟨rfl,rfl⟩;go_wp2_with fail;refine (LT.out _ B1.out).mono ?_;rintro e w1 ⟨rfl,rfl⟩;go_wp2_with fail
 go_loopw [1,13] (fun uv iv wr=>∃ (m q:Nat) (d:List UInt8),uv=.int .u64 m∧iv=.int .i64 q∧q+d.length=65∧m<4294967296∧d.length≤7∧Hid (HexI u m d)∧Hid (Blk wr w.heap.size (jV d) 246)∧Hid (Below w.heap.size w wr)) (fun uv _ _=>(intOf uv).toNat)
 case atStart=>exact ⟨u,65,[],rfl,rfl,rfl,hu,Nat.zero_le _,(List.append_nil _).symm,K1.out,B1.out⟩
 case round =>
  clear K1 B1 LT LP;obtain ⟨m,q,d,rfl,rfl,hq,hm,hd,hI,hK,hB⟩:=hrel;have HQ:=Oi hq;have m0:(0:Int)≤(m:Int):=Int.natCast_nonneg _;have mb:(m:Int)<4294967296:=by omega
  obtain ⟨p,rfl⟩:∃ p,q=p+1:=⟨q - 1,by omega⟩;have hp:p=64 - d.length:=by omega
  have hpl:p<65:=by omega
  have HP:=Oi hp;have c1:wr.cell? ⟨w.heap.size,p,none⟩=some ((jV d).getD p (.int .u8 0)):=by
   rw [hK.out.cell,List.getD,List.getElem?_eq_getElem (by rw [IA (by omega)];exact hpl)];rfl
  have c2:=hK.out.free p;generalize (jV d).getD p (.int .u8 0)=old at *
  clear hq hp
  by_cases h16:m<16
  · have h16i:¬ (16:Int)≤(m:Int):=by omega
    have hix:=DJ m h16;unfold oD at hix;have hN:=hI.out.last h16;have HB2:=Oi (aw hB.out (g:=w.heap.size) (Nat.le_refl _) p (.int .u8 ((dy m).toNat:Int)));have HK2:Hid (Blk (wr.setCell ⟨w.heap.size,p,none⟩ (.int .u8 ((dy m).toNat:Int))) w.heap.size (jV (dy m :: d)) 246):=by
     have:=hK.out.set p (.int .u8 ((dy m).toNat:Int));rw [HP.out,yd (by omega)] at this
     rw [HP.out];exact this
    rw [← hN] at HK2;have hpe:p=65 - (dF u).length:=by rw [hN];simp;have:=HP.out;omega
    have hul:(dF u).length≤65:=by rw [hN];simp;omega
    have hpu:p+(dF u).length=65:=by omega
    have hcv:=run_convert_bytes_back (P:=Tryz.prog) (wr.setCell ⟨w.heap.size,p,none⟩ (.int .u8 ((dy m).toNat:Int))) 22 9 5 ⟨w.heap.size,p,none⟩ (dF u).length (dF u) Tryz.underlying22 Tryz.underlying5 Tryz.underlying9 (fun j hj=>by
     rw [lu,HK2.out.cell,hpe];exact Iz hul hj)
    have p0:(0:Int)≤(p:Int):=Int.natCast_nonneg _;have p65:(p:Int)≤(Tryz.prog.arrayLen 246:Int):=by
     have:Tryz.prog.arrayLen 246=65:=by kernel_rfl
     rw [this];omega
    have p65b:(p:Int)≤65:=by omega
    have hal:Tryz.prog.arrayLen 246=65:=by kernel_rfl
    have hsl:∀ v:World,(Instr.sliceAt 246 (.pointer (some ⟨w.heap.size,0,none⟩)) (some (.int .i64 p)) none none).run Tryz.prog v=.ok (.slice (some ⟨w.heap.size,p,none⟩) (dF u).length (dF u).length) v:=fun v=>by
     rw [run_sliceAt_array_l v 246 ⟨w.heap.size,0,none⟩ Tryz.underlying246 .i64 p p0 p65];have hsz:(sizeOf (Tryz.prog.elem 246)).run Tryz.prog v=.ok 1 v:=by kernel_rfl
     rw [hsz,hal];simp only [Result.andThen,slicedAt,Int.toNat_natCast,Nat.mul_one];rw [if_neg (by omega),lu,Nat.zero_add,show 65 - p=(dF u).length from by omega]
    clear hK hB hI hN hpe hul p65 hal;go_wp2_with fail
    go_ret2
    exact ⟨rfl,HB2.out⟩
  · have h16i:(16:Int)≤(m:Int):=by omega
    have ha:bits .and .u64 (m:Int) 15=((m % 16:Nat):Int):=NS m (by omega)
    have hr:=Nat.mod_lt m (show 0<16 by omega)
    have HR:=Oi (show m / 16<m by omega)
    have hN:=Oi (hI.out.more h16);obtain ⟨r,hrr⟩:∃ r,r=m % 16:=⟨_,rfl⟩;rw [← hrr] at ha hr hN;have r0:(0:Int)≤(r:Int):=Int.natCast_nonneg _;have r16:(r:Int)<16:=by omega
    obtain ⟨k,hk⟩:∃ k,k=m / 16:=⟨_,rfl⟩;have hq16:(m:Int) / 16=(k:Int):=by omega
    rw [← hk] at HR hN;have hix:=DJ r hr;unfold oD at hix;clear hrr hk;have HB2:=Oi (aw hB.out (g:=w.heap.size) (Nat.le_refl _) p (.int .u8 ((dy r).toNat:Int)));have HK2:Hid (Blk (wr.setCell ⟨w.heap.size,p,none⟩ (.int .u8 ((dy r).toNat:Int))) w.heap.size (jV (dy r :: d)) 246):=by
     have:=hK.out.set p (.int .u8 ((dy r).toNat:Int));rw [HP.out,yd (by omega)] at this
     rw [HP.out];exact this
    have HL:=Oi (hN.out.len hu);clear hK hB hI;go_wp2_with fail;go_roundw
    case rel=>exact ⟨k,p,dy r :: d,rfl,rfl,by have:=HQ.out;simp;omega,by have:=HR.out;omega,HL.out,hN.out,HK2.out,HB2.out⟩
    case measure=>have:=HR.out;simp [intOf];omega
theorem wL (w:World) (hT:TabB w) (u:Nat) (hu:u<4294967296) :
 Calls Tryz.prog 112 #[.int .i64 u,.int .i64 16] w fun e w'=>e=.returned (.string (bs (dF u)))∧Below w.heap.size w w':=by
 have L:=Oi (wK w hT u hu);have u0:(0:Int)≤(u:Int):=Int.natCast_nonneg _;have u1:(u:Int)<4294967296:=by omega
 clear hT
 go_enter Tryz.func112,Tryz.ntmps112;go_wp2_with fail;refine L.out.mono ?_;rintro e w1 ⟨rfl,hb⟩;go_wp2_with fail;go_ret;exact ⟨rfl,hb⟩
theorem yY (w:World) (hT:TabB w) (u:Nat) (hu:u<4294967296) :
 Calls Tryz.prog 85 #[.int .i64 u,.int .i64 16] w fun e w'=>e=.returned (.string (bs (dF u)))∧Below w.heap.size w w':=by
 have L:=Oi (wL w hT u hu);clear hT
 go_enter Tryz.func85,Tryz.ntmps85;go_wp2_with fail;refine L.out.mono ?_;rintro e w1 ⟨rfl,hb⟩;go_wp2_with fail;go_ret;exact ⟨rfl,hb⟩
theorem si:∀ n,Lib.repeatL [48] n=List.replicate n 48
 | 0=>rfl
 | n+1=>by rw [Lib.repeatL,si n];rfl
theorem Dh (w:World) (n:Nat) (hn:n≤7) :
 Calls Tryz.prog 87 #[.string ⟨#[48]⟩,.int .i64 n] w fun e w'=>e=.returned (.string (bs (List.replicate n 48)))∧Below w.heap.size w w' :=
 (Tryz.strings_Repeat ⟨#[48]⟩ n w (by omega) (by show 1 * n≤_;omega)).mono fun e w' ⟨h1,h2⟩=>⟨by rw [h1,← si n];rfl,h2⟩
theorem EI (x:Nat) (hx:x<4294967296) (w:World):Calls Tryz.prog 86 #[.float .f32 x] w fun e w'=>e=.returned (.int .i64 (du x))∧w=w':=by
 have hd:=fun v=>GH x v
 cases h:oG x with
 | true =>
   have ht:(FloatKind.f32.format.order x x != some .eq)=true:=h;have HF:Hid (du x=2143289344):=by simp [Hid,du,h]
   clear h
   go_enter Tryz.func86,Tryz.ntmps86;go_wp2_with fail;go_ret;exact ⟨bY (by rw [HF.out];rfl),rfl⟩
 | false =>
   have ht:(FloatKind.f32.format.order x x != some .eq)=false:=h;have HF:Hid (du x=x):=by simp [Hid,du,h]
   clear h
   go_enter Tryz.func86,Tryz.ntmps86;go_wp2_with fail;go_ret;exact ⟨bY (by rw [HF.out]),rfl⟩
theorem G6 (w:World) (hT:TabB w) (x:Nat) (hx:x<4294967296) :
 Calls Tryz.prog 46 #[.float .f32 x] w fun e w'=>e=.returned (.string (bs (eR x)))∧Below w.heap.size w w':=by
 have L1:=Oi (EI x hx w);have hb:=zS hx;have L2:=Oi (yY w hT (du x) hb);have hl:=uq (du x);obtain ⟨hl8,hp⟩:=JY hb;have HP:Hid (List.replicate (8 - (dF (du x)).length) 48 ++ dF (du x)=eR x):=hp;have hsz:(bs (dF (du x))).size=(dF (du x)).length:=aE _;have HB:Hid (bs (List.replicate (8 - (dF (du x)).length) 48) ++ bs (dF (du x))=bs (eR x)):=by
  rw [Hid,cD,HP.out]
 have hz1:(bs (List.replicate (8 - (dF (du x)).length) 48)).size≤8:=by rw [aE,List.length_replicate];omega
 obtain ⟨n,hn⟩:∃ n,n=8 - (dF (du x)).length:=⟨_,rfl⟩;have hnl:(8:Int) - ((bs (dF (du x))).size:Int)=(n:Int):=by rw [hsz];omega
 have L3:=Oi (fun v=>Dh v n (by omega))
 rw [← hn] at HB hz1;have hz2:(bs (dF (du x))).size≤8:=by rw [hsz];exact hl8
 generalize bs (dF (du x))=U at *
 generalize bs (List.replicate n 48)=Z at *
 have s0:¬ 9223372036854775807<Z.size+U.size:=by omega
 clear hT hl hl8 hp HP hsz hn hx hb
 go_enter Tryz.func46,Tryz.ntmps46;go_wp2_with fail;refine L1.out.mono ?_;rintro e w1 ⟨rfl,rfl⟩;go_wp2_with fail;refine L2.out.mono ?_;rintro e w1 ⟨rfl,hb1⟩;have B1:=Oi hb1;clear L2 hb1;go_wp2_with fail;refine (L3.out _).mono ?_;rintro e w2 ⟨rfl,hb2⟩;go_wp2_with fail;go_ret;refine ⟨?_,aa B1.out hb2⟩
 rw [← HB.out];rfl
theorem fD {w:World} {g:Nat} {vs:List Value} {t:TypeId} (h:Blk w g vs t):Rd w w.heap.size (some ⟨g,0,none⟩) vs:=.inr ⟨g,0,rfl,h.lt,fun j _=>by rw [Nat.zero_add];exact h.cell j⟩
theorem NG {w:World} {g g1 c2 c3:Nat} {p q:Int} {a2 a3:Option Addr} {x2 x3:List Int} {t t1:TypeId} (hB:Blk w g [.slice (some ⟨g1,0,none⟩) 2 2,.slice a2 x2.length c2,.slice a3 x3.length c3] t) (h1:Blk w g1 [.int .i64 p,.int .i64 q] t1) (h2:Rd w w.heap.size a2 (ae x2)) (h3:Rd w w.heap.size a3 (ae x3)):RdP w w.heap.size (some ⟨g,0,none⟩) [[p,q],x2,x3]:=by
 refine ⟨_,rfl,fD hB,fun k ys hk=>?_⟩
 match k,hk with
 | 0,hk=>injection hk with hk;subst hk;exact ⟨_,_,rfl,fD h1⟩
 | 1,hk=>injection hk with hk;subst hk;exact ⟨_,_,rfl,h2⟩
 | 2,hk=>injection hk with hk;subst hk;exact ⟨_,_,rfl,h3⟩
theorem Ob {w:World} {g g1 c2:Nat} {p q:Int} {a2:Option Addr} {x2:List Int} {t t1:TypeId} (hB:Blk w g [.slice (some ⟨g1,0,none⟩) 2 2,.slice a2 x2.length c2] t) (h1:Blk w g1 [.int .i64 p,.int .i64 q] t1) (h2:Rd w w.heap.size a2 (ae x2)):RdP w w.heap.size (some ⟨g,0,none⟩) [[p,q],x2]:=by
 refine ⟨_,rfl,fD hB,fun k ys hk=>?_⟩
 match k,hk with
 | 0,hk=>injection hk with hk;subst hk;exact ⟨_,_,rfl,fD h1⟩
 | 1,hk=>injection hk with hk;subst hk;exact ⟨_,_,rfl,h2⟩
theorem zx (w:World) (u v:List Value) (t s:TypeId):Blk ((w.alloc (.cells u.toArray t)).alloc (.cells v.toArray s)) w.heap.size u t∧Blk ((w.alloc (.cells u.toArray t)).alloc (.cells v.toArray s)) (w.heap.size+1) v s:=by
 refine ⟨(Blk.new w u t).alloc _,?_⟩
 have:=Blk.new (w.alloc (.cells u.toArray t)) v s;simpa using this
theorem jo {xs:List Int} (h:∀ x∈xs,-1000000000000000≤x∧x≤1000000000000000) (hl:xs.length≤64):bD xs=true:=by
 simp only [bD,Bool.and_eq_true,decide_eq_true_eq];exact ⟨fi.2 h,hl⟩
theorem ID (a b c:List Int):bt [a,b,c]=aJ a ++ [59] ++ aJ b ++ [59] ++ aJ c:=by
 unfold bt;simp only [List.map_cons,List.map_nil,Lib.join_cons,Lib.joinTail,List.flatten_cons,List.flatten_nil,List.append_nil,List.append_assoc]
theorem ND (a b:List Int):bt [a,b]=aJ a ++ [59] ++ aJ b:=by
 unfold bt;simp only [List.map_cons,List.map_nil,Lib.join_cons,Lib.joinTail,List.flatten_cons,List.flatten_nil,List.append_nil,List.append_assoc]
theorem et {xs:List Int} (h:bD xs=true):(∀ x∈xs,-9223372036854775808≤x∧x≤9223372036854775807)∧xs.length≤64:=by
 simp only [bD,Bool.and_eq_true,decide_eq_true_eq] at h;exact ⟨fun x hx=>by have:=fi.1 h.1 x hx;omega,h.2⟩
theorem ia {xs:List Int} (h:bD xs=true):(bs (aJ xs)).size≤2000:=by
 obtain ⟨h1,h2⟩:=et h;have:=pu h1;rw [aE];omega
def eE (xss:List (List Int)):Option (List UInt8):=if xss.all bD then some (bt xss) else none
theorem Ci {xss:List (List Int)} (h:∀ x∈xss,bD x=true):eE xss=some (bt xss):=if_pos (List.all_eq_true.2 h)
theorem Nb {xss:List (List Int)} {x:List Int} (hx:x∈xss) (h:bD x=false):eE xss=none:=if_neg (fun e=>by rw [List.all_eq_true.1 e x hx] at h;cases h)
def kH (r:Option (List UInt8)) (w:World) (e:Ending) (w':World):Prop:=Below w.heap.size w w'∧e=.returned (.tuple #[.string (bs (r.getD [])),.bool r.isSome])
theorem JG {xss:List (List Int)} {k:Nat} {x:List Int} (h:∀ y∈xss.take k,bD y=true) (hx:xss[k]? = some x) (hv:bD x=true):∀ y∈xss.take (k+1),bD y=true:=by
 intro y hy;rw [List.take_add_one,hx] at hy
 rcases List.mem_append.1 hy with hy | hy
 · exact h y hy
 · simp at hy;subst hy;exact hv
theorem Co (w:World) (a:Option Addr) (c:Nat) (xs:List Int) (h:Rd w w.heap.size a (ae xs)) (hl:xs.length≤1048576) (hv:bD xs=false) :
 Calls Tryz.prog 82 #[.slice a xs.length c] w fun e w'=>e=.returned (.tuple #[.string (bs []),.bool false])∧w=w':=by
 have LA:=Oi (rb w a c xs h hl);rw [hv] at LA;clear hv h
 go_enter Tryz.func82,Tryz.ntmps82;go_wp2_with fail;refine LA.out.mono ?_;rintro e w1 ⟨rfl,rfl⟩;go_wp2_with fail
 go_ret2
 exact ⟨rfl,rfl⟩
theorem C9 (w:World) (ht:Tab w) (a:Option Addr) (c:Nat) (xss:List (List Int)) (h:RdP w w.heap.size a xss) (hl:xss.length≤1024) (hls:∀ x∈xss,x.length≤1048576) :
 Calls Tryz.prog 44 #[.slice a xss.length c] w (kH (eE xss) w):=by
 cases hall:xss.all bD with
 | true =>
   have hr:=List.all_eq_true.1 hall;rw [Ci hr];exact (jW w ht a c xss h hl hr).mono fun e w' ⟨h1,h2⟩=>⟨h2,h1⟩
 | false =>
   have HF:Hid (eE xss=none):=if_neg (by rw [hall];decide)
   have HFin:Hid (¬ ∀ y∈xss.take xss.length,bD y=true):=fun hh=>by
    rw [List.take_length] at hh;rw [List.all_eq_true.2 hh] at hall;cases hall
   rw [HF.out];have HT:=Oi ht;have HA:=Oi h;have HLS:=Oi hls;clear h ht hall hls
   go_enter Tryz.func44,Tryz.ntmps44;go_wp2_with fail
   go_loopw [4,12] (fun v iv wr=>∃ k:Nat,k≤xss.length∧iv=.int .i64 k∧Hid (wr.ownsRow w.heap.size 9 1 v k (bF ((xss.take k).map aJ)))∧Hid (∀ y∈xss.take k,bD y=true)∧Below w.heap.size w wr) (fun _ iv _=>xss.length - (intOf iv).toNat)
   case atStart=>exact ⟨0,Nat.zero_le _,rfl,bz w _,fun y hy=>by simp at hy,ai _ _⟩
   case round =>
    obtain ⟨k,hk,rfl,hO,hV,hw⟩:=hrel;have hws:=hw.size
    by_cases hlt:k<xss.length
    · obtain ⟨b,o,x,a1,c1,rfl,hbb,hck,hrx,hx⟩:=(HA.out.to hw).get hlt
      have hxl:=HLS.out x (List.mem_of_getElem? hx.out)
      cases hv:bD x with
      | false =>
        have LD:=Oi (Co wr a1 c1 x hrx hxl hv);clear hrx hv;go_wp2_with fail;refine LD.out.mono ?_;rintro e w1 ⟨rfl,rfl⟩;go_wp2_with fail
        go_ret2
        exact ⟨hw,rfl⟩
      | true =>
        have LD:=Oi (rh wr (HT.out.to hw) a1 c1 x hrx hv);have HN:=Oi (vX hx.out);have HV2:=Oi (JG hV.out hx.out hv);clear hrx hv hV;go_wp2_with fail;refine LD.out.mono ?_;rintro e w1 ⟨rfl,hb1⟩;have hO1:=aD hO.out hb1;have hw1:=hw.trans (hb1.mono hws);have hs1:=hw1.size;have hk2:k≤1099511627776:=by omega
        clear hO hb1 hck hw
        go_wp2_with (at_builtin;refine aH _ rfl _ _ 35 rfl w.heap.size 9 (.string ByteArray.empty) 16 Tryz.underlying35 lL rfl _ k _ rfl hO1 (.string (bs (aJ x))) rfl rfl (by omega) hk2 hs1 ?_)
        intro v' w' ho hgr;have hw2:=ah hw1 hO1 hgr (Nat.le_refl _) hs1;have HO2:Hid (w'.ownsRow w.heap.size 9 1 v' (k+1) (bF ((xss.take (k+1)).map aJ))):=by
         rw [HN.out,fZ,List.map_take];exact ho
        clear ho hgr hO1 hw1;go_wp2_with fail;go_roundw
        case rel=>exact ⟨k+1,by omega,by go_num,HO2,HV2,hw2⟩
        case measure=>first | (simp [intOf];done) | (simp [intOf];omega)
    · have:k=xss.length:=by omega
      subst this;exact absurd hV.out HFin.out
theorem gK (w:World) (ht:Tab w) (ok:Bool) (a:Option Addr) (c:Nat) (xss:List (List Int)) (h:RdP w w.heap.size a xss) (hl:xss.length≤1024) (hls:∀ x∈xss,x.length≤1048576) :
 Calls Tryz.prog 102 #[.bool ok,.slice a xss.length c] w (kH (if ok then eE xss else none) w):=by
 have LP:=Oi (C9 w ht a c xss h hl hls);clear h ht hls
 cases ok with
 | false =>
   rw [if_neg (by decide)]
   go_enter Tryz.func102,Tryz.ntmps102;go_wp2_with fail
   go_ret2
   exact ⟨Below.refl _ _,rfl⟩
 | true =>
   rw [if_pos rfl];generalize eE xss=r at *
   go_enter Tryz.func102,Tryz.ntmps102;go_wp2_with fail;refine LP.out.mono ?_;rintro e w1 ⟨hb,rfl⟩;go_wp2_with fail
   go_ret2
   exact ⟨hb,rfl⟩
def qK (ok:Bool) (xs:List Int) (n:Int):Option (List UInt8):=if ok && bD xs then some (aJ xs ++ [59] ++ Lib.itoa n) else none
theorem FU {w:World} {g c:Nat} {a:Option Addr} {xs:List Int} {t:TypeId} (hB:Blk w g [.slice a xs.length c] t) (h:Rd w w.heap.size a (ae xs)):RdP w w.heap.size (some ⟨g,0,none⟩) [xs]:=by
 refine ⟨_,rfl,fD hB,fun k ys hk=>?_⟩
 match k,hk with
 | 0,hk=>injection hk with hk;subst hk;exact ⟨_,_,rfl,h⟩
theorem L7 {w:World} {g c d:Nat} {a b:Option Addr} {xs ys:List Int} {t:TypeId} (hB:Blk w g [.slice a xs.length c,.slice b ys.length d] t) (h1:Rd w w.heap.size a (ae xs)) (h2:Rd w w.heap.size b (ae ys)):RdP w w.heap.size (some ⟨g,0,none⟩) [xs,ys]:=by
 refine ⟨_,rfl,fD hB,fun k zs hk=>?_⟩
 match k,hk with
 | 0,hk=>injection hk with hk;subst hk;exact ⟨_,_,rfl,h1⟩
 | 1,hk=>injection hk with hk;subst hk;exact ⟨_,_,rfl,h2⟩
theorem NC (a:List Int):bt [a]=aJ a:=by unfold bt;rw [List.map_cons,List.map_nil,Lib.join_one]
def RetTn (r:Option (List UInt8)) (w:World) (e:Ending) (w':World):Prop:=Below w.heap.size w w'∧∃ t,e=.returned (.tuple #[.string t,.bool r.isSome])∧∀ l,r=some l→t=bs l
theorem jF (w:World) (ht:Tab w) (ok:Bool) (a:Option Addr) (c:Nat) (xs:List Int) (n:Int) (h:Rd w w.heap.size a (ae xs)) (hl:xs.length≤1048576) (n0:-9223372036854775808≤n) (n1:n≤9223372036854775807) :
 Calls Tryz.prog 129 #[.slice a xs.length c,.int .i64 n,.bool ok] w (RetTn (qK ok xs n) w):=by
 have B1:=Oi (ai w (.cells #[.slice a xs.length c] 24));have LP:=Oi (gK (w.alloc (.cells #[.slice a xs.length c] 24)) (ht.to B1.out) ok (some ⟨w.heap.size,0,none⟩) 1 [xs] (FU (Blk.new w [.slice a xs.length c] 24) (h.to B1.out)) (by simp) (fun x hx=>by simp at hx;subst hx;exact hl))
 have LD:=Oi (fun v (hb:Below w.heap.size w v)=>iO v (ht.to hb) n n0 n1)
 have hd:(bs (Lib.itoa n)).size≤21:=by rw [aE];exact iF n0 n1
 cases hv:(ok && bD xs) with
 | true =>
   have HN:Hid (qK ok xs n=some (aJ xs ++ [59] ++ Lib.itoa n)):=if_pos hv;rw [Bool.and_eq_true] at hv;obtain ⟨h1,h2⟩:=hv;subst h1;rw [if_pos rfl,Ci (by intro x hx;simp at hx;subst hx;exact h2),NC] at LP
   have hz:(bs (aJ xs)).size≤2000:=by
    rw [aE];simp only [bD,Bool.and_eq_true,decide_eq_true_eq] at h2;have:=pu (xs:=xs) (fun z hz=>by have:=fi.1 h2.1 z hz;omega)
    omega
   have HE:Hid (bs (aJ xs) ++ ⟨#[59]⟩ ++ bs (Lib.itoa n)=bs (aJ xs ++ [59] ++ Lib.itoa n)):=by
    show _=_
    rw [← cD,← cD];rfl
   rw [HN.out];unfold kH at LP;simp only [Option.getD_some,Option.isSome_some] at LP;generalize bs (aJ xs)=T at *
   generalize bs (Lib.itoa n)=D at *
   have s0:¬ 9223372036854775807<T.size+1:=by omega
   have s1:¬ 9223372036854775807<T.size+1+D.size:=by omega
   clear ht h h2 HN
   go_enter Tryz.func129,Tryz.ntmps129;go_wp2_with fail;refine LP.out.mono ?_;rintro e w1 ⟨hb,rfl⟩;have hb1:=Oi (aa B1.out hb);have LD1:=Oi (LD.out _ hb1.out);clear hb LP LD;go_wp2_with fail;refine LD1.out.mono ?_;rintro e w2 ⟨rfl,hb2⟩;go_wp2_with fail
   go_ret2
   refine ⟨aa hb1.out hb2,_,rfl,fun l hl=>?_⟩
   injection hl with hl
   rw [← hl,← HE.out]
 | false =>
   have HN:Hid (qK ok xs n=none):=if_neg (by rw [hv];decide)
   have HL:Hid ((if ok then eE [xs] else none)=none):=by
    show _=_
    cases ok with
    | false=>rfl
    | true =>
      rw [Bool.true_and] at hv;rw [if_pos rfl];exact Nb (x:=xs) (by simp) hv
   rw [HN.out];rw [HL.out] at LP;unfold kH at LP;simp only [Option.getD_none,Option.isSome_none] at LP;generalize bs (Lib.itoa n)=D at *
   have s0:¬ 9223372036854775807<(bs []).size+1:=by rw [aE];decide
   have s1:¬ 9223372036854775807<(bs []).size+1+D.size:=by rw [aE,List.length_nil];omega
   clear ht h hv HN HL
   go_enter Tryz.func129,Tryz.ntmps129;go_wp2_with fail;refine LP.out.mono ?_;rintro e w1 ⟨hb,rfl⟩;have hb1:=Oi (aa B1.out hb);have LD1:=Oi (LD.out _ hb1.out);clear hb LP LD;go_wp2_with fail;refine LD1.out.mono ?_;rintro e w2 ⟨rfl,hb2⟩;go_wp2_with fail
   go_ret2
   exact ⟨aa hb1.out hb2,_,rfl,fun l hl=>by cases hl⟩
theorem zE {P:Program} (wr:World) {ops:Array Oper} {rest:List Oper} {o:Oper} {a:Act} {Q:Exit→Act→World→Prop}
 (hg:o.guard=none) (s x:Operand) (t:TypeId) (hop:o.op=Op.call { callee:=Callee.builtin Builtin.append,args:=#[s,x],argTypes:=#[t,t] })
 (base:Nat) (e:TypeId) (z:Value) (bytes:Nat) (h1:P.underlying t=some (.slice e)) (hinfo:(P.info? e).map (fun i=>(i.zero,i.size,i.bytes))=some (some z,1,bytes)) (hz:z.cells.size=1)
 (v:Value) (n:Nat) (xs:List Value) (hs:a.eval s=v) (hown:wr.ownsRow base e 1 v n xs) (b off m c:Nat) (ys:List Value) (hx:a.eval x=.slice (some ⟨b,off,none⟩) m c) (hm:ys.length=m) (hone:∀ y∈ys,y.oneCell'=true)
 (hcell:∀ j,j<m→wr.cell? ⟨b,off+j,none⟩=ys[j]?) (hb:bytes≤64) (hn:n+m≤1099511627776) (hbase:base≤wr.heap.size)
 (hK:∀ v' w',w'.ownsRow base e 1 v' (n+m) (xs ++ ys)→wr.grownBy w' v.ownBlock→wpList P ops Q rest (a.put o.dst v') w') :
 wpList P ops Q (o :: rest) a wr:=by
 obtain ⟨i,h2,h3,h4,h5⟩:=info_parts hinfo;have hbb:(n+m) * bytes≤140737488355328:=Nat.le_trans (Nat.mul_le_mul_left (n+m) hb) (by omega)
 refine wpList_append_own wr hg s x t hop base e i z 1 bytes h1 h2 h3 h4 h5 hz (by omega) v n xs hs hown ⟨b,off,none⟩ m c ys hx (by omega) ?_ hone (by unfold maxLen;omega) hbb hbase (fun v' w' ho hgr _=>hK v' w' ho hgr)
 · intro j u hj
   have hj':j<m:=by have:=(List.getElem?_eq_some_iff.1 hj).1;omega
   have ea:(⟨b,off,none⟩:Addr).add j=⟨b,off+j,none⟩:=by unfold Addr.add;split <;> simp_all
   rw [ea,hcell j hj',← hj]
def OwnF (T:Nat) (w:World) (lo hi:Nat) (a:Option Addr) (c:Nat) (xs:List Nat):Prop :=
 w.ownsRow lo T 1 (.slice a xs.length c) xs.length (dx xs)∧∀ b,a=some b→b.block<hi
section
variable {T lo hi c:Nat} {w w':World} {a:Option Addr} {xs:List Nat}
theorem OwnF.of_own (h:w.ownsRow lo T 1 (.slice a xs.length c) xs.length (dx xs)):OwnF T w lo w.heap.size a c xs :=
 ⟨h,fun b hb=>(h.lt b.block (by simp [Value.ownBlock,hb])).2⟩
theorem OwnF.rd (h:OwnF T w lo hi a c xs):Rd w hi a (dx xs):=by
 rcases ay h.1 (Nat.le_refl _) with h' | ⟨b,o,ha,hb,hc⟩
 · exact .inl h'
 · exact .inr ⟨b,o,ha,h.2 _ ha,hc⟩
theorem OwnF.touch {lo' hi':Nat} (h:OwnF T w lo hi a c xs) (ht:Touch w w' lo' hi') (hd:hi≤lo'∨hi'≤lo):OwnF T w' lo hi a c xs:=by
 refine ⟨⟨h.1.1,?_⟩,h.2⟩
 rcases h.1.2 with h2 | ⟨g,cap,cur,hv,hg,hh,r⟩
 · exact .inl h2
 · have h3:g<hi:=by
     injection hv with ha _ _
     exact h.2 _ ha
   refine .inr ⟨g,cap,cur,hv,hg,?_,r⟩
   rw [ht.block g (lt_of_block hh) (by omega)]
   exact hh
theorem OwnF.mono {lo' hi':Nat} (h:OwnF T w lo hi a c xs) (h1:lo'≤lo) (h2:hi≤hi'):OwnF T w lo' hi' a c xs :=
 ⟨bS h.1 h1,fun b hb=>Nat.lt_of_lt_of_le (h.2 b hb) h2⟩
end
theorem EK (w:World) (a:Option Addr) (c:Nat) (xs:List Nat) (h:Rd w w.heap.size a (dx xs)) (hl1:1≤xs.length) (hl:xs.length≤1048576) :
 Calls Tryz.prog 70 #[.slice a xs.length c] w fun e w'=>∃ a' c',e=.returned (.slice a' xs.length c')∧OwnF 79 w' w.heap.size w'.heap.size a' c' xs∧Below w.heap.size w w':=by
 obtain ⟨b,o,rfl,hb,hcell⟩:=h.atF (k:=0) (by omega)
 clear h;have hen:=fun (w:World) (a:Option Addr) (n c:Nat)=>Lib.run_eql_slice_nil (P:=Tryz.prog) w 31 79 a n c 0 0 Tryz.underlying31
 go_enter Tryz.func70,Tryz.ntmps70
 go_wp2_with (at_builtin;refine zE _ rfl _ _ 31 rfl w.heap.size 79 (.float .f32 0) 4 Tryz.underlying31 ur rfl _ 0 [] rfl (bz w 79) b o xs.length c (dx xs) rfl (flts_length xs) ?_ ?_ (by omega) (by omega) (by simp) ?_)
 · intro y hy
   obtain ⟨x,_,rfl⟩:=List.mem_map.1 hy
   rfl
 · intro j hj
   rw [(ai w _).cell (p:=⟨b,o+j,none⟩) hb,hcell j hj,um hj]
 intro v1 w1 o1 g1;have B1:=ah (ai w (.cells #[] 79)) (bz w 79) g1 (Nat.le_refl _) (by simp)
 obtain ⟨a1,c1,rfl,_,_⟩:=ba o1;have HR:Hid (OwnF 79 w1 w.heap.size w1.heap.size a1 c1 xs):=OwnF.of_own (by simpa using o1)
 clear o1 g1 hcell;go_wp2_with fail;go_ret;exact ⟨_,_,by simp,HR.out,B1⟩
structure Env (w:World):Prop where
 tab:Tab w
 shp:Shp w
 err:Errs w
 bit:TabB w
theorem Env.to {w w':World} (h:Env w) (hb:Below w.heap.size w w'):Env w':=⟨h.tab.to hb,h.shp.to hb,h.err.to hb,h.bit.to hb⟩
abbrev il:=Option (Option (DD × List UInt8))
structure DLo (lo:Nat) (x:DA):Prop where
 a:∀ y,x.a=some y→lo≤y.block
 b:∀ y,x.b=some y→lo≤y.block
 v:∀ y,x.v=some y→lo≤y.block
 w:∀ y,x.w=some y→lo≤y.block
 k:∀ y,x.k=some y→lo≤y.block
 f:∀ y,x.f=some y→lo≤y.block
theorem DLo.mono {lo lo':Nat} {x:DA} (h:DLo lo x) (hl:lo'≤lo):DLo lo' x:=⟨fun y e=>Nat.le_trans hl (h.a y e),fun y e=>Nat.le_trans hl (h.b y e),fun y e=>Nat.le_trans hl (h.v y e),fun y e=>Nat.le_trans hl (h.w y e),fun y e=>Nat.le_trans hl (h.k y e),fun y e=>Nat.le_trans hl (h.f y e)⟩
def RetAl (lo b:Nat) (w:World) (r:il) (e:Ending) (w':World):Prop :=
 Touch w w' b (b+1)∧match r with
 | none=>∃ (t:ByteArray) (k:Bool),e=.returned (.tuple #[.string t,.bool k,.bool false])
 | some none=>∃ t:ByteArray,e=.returned (.tuple #[.string t,.bool false,.bool true])
 | some (some (d,t))=>e=.returned (.tuple #[.string (bs t),.bool true,.bool true])∧∃ x:DA,Blk w' b (d.cells x) 33∧DRd w' w'.heap.size d x∧DLo lo x
section
variable {lo b:Nat} {w w':World} {d:DD} {x:DA}
theorem RetAl.what (t:ByteArray) (k:Bool) (ht:Touch w w' b (b+1)):RetAl lo b w none (.returned (.tuple #[.string t,.bool k,.bool false])) w':=⟨ht,t,k,rfl⟩
theorem RetAl.no (t:ByteArray) (ht:Touch w w' b (b+1)):RetAl lo b w (some none) (.returned (.tuple #[.string t,.bool false,.bool true])) w':=⟨ht,t,rfl⟩
theorem RetAl.yes {t:List UInt8} (ht:Touch w w' b (b+1)) (hB:Blk w' b (d.cells x) 33) (hR:DRd w' w'.heap.size d x) (hl:DLo lo x):RetAl lo b w (some (some (d,t))) (.returned (.tuple #[.string (bs t),.bool true,.bool true])) w':=⟨ht,rfl,x,hB,hR,hl⟩
theorem RetAl.text (r:Option (List UInt8)) (hb:Below w.heap.size w w') (hB:Blk w b (d.cells x) 33) (hR:DRd w w.heap.size d x) (hl:DLo lo x):RetAl lo b w (some (r.map fun t=>(d,t))) (.returned (.tuple #[.string (bs (r.getD [])),.bool r.isSome,.bool true])) w':=by
 cases r with
 | none=>exact RetAl.no _ (Below.touch hb _ _)
 | some t=>exact RetAl.yes (Below.touch hb _ _) (hB.same hb) (hR.to hb) hl
theorem RetAl.textN (r:Option (List UInt8)) {t:ByteArray} (hb:Below w.heap.size w w') (hB:Blk w b (d.cells x) 33) (hR:DRd w w.heap.size d x) (hl:DLo lo x) (ht:∀ l,r=some l→t=bs l):RetAl lo b w (some (r.map fun t=>(d,t))) (.returned (.tuple #[.string t,.bool r.isSome,.bool true])) w':=by
 cases r with
 | none=>exact RetAl.no _ (Below.touch hb _ _)
 | some l=>rw [ht l rfl];exact RetAl.yes (Below.touch hb _ _) (hB.same hb) (hR.to hb) hl
end
def fz (s:List UInt8) (f:DD→il):Prop :=
 ∀ (w:World) (b:Nat) (d:DD) (x:DA) (lo:Nat),lo≤b→DLo lo x→Env w→d.ok=true→d.A.length≤x.ca→Blk w b (d.cells x) 33→DRd w b d x→Calls Tryz.prog 98 #[.pointer (some ⟨b,0,none⟩),.string (bs s)] w (RetAl lo b w (f d))
def js (s t:List UInt8) (f:DD→il):Prop :=
 ∀ (w:World) (b:Nat) (d:DD) (x:DA) (lo:Nat),lo≤b→DLo lo x→Env w→d.ok=true→d.A.length≤x.ca→Blk w b (d.cells x) 33→DRd w b d x→Calls Tryz.prog 99 #[.pointer (some ⟨b,0,none⟩),.string (bs s),.string (bs t)] w (RetAl lo b w (f d))
def kG (ws:List (List UInt8)) (f:DD→il):Prop :=
 ∀ (w:World) (b:Nat) (d:DD) (x:DA) (lo:Nat) (a:Option Addr) (c:Nat),lo≤b→DLo lo x→Env w→d.ok=true→d.A.length≤x.ca→Blk w b (d.cells x) 33→DRd w b d x→Rd w w.heap.size a (bF ws)→Calls Tryz.prog 67 #[.pointer (some ⟨b,0,none⟩),.slice a ws.length c] w (RetAl lo b w (f d))
def zu:List UInt8:=[119,104,97,116]
def xU:List UInt8:=[110,111]
def lr:List UInt8:=[111,107]
def gP (f:DD→il) (d:DD):DD × List UInt8:=match f d with
 | none=>(d,zu)
 | some none=>(d,xU)
 | some (some (d',t))=>if d'.ok then (d',t) else (d,xU)
def zv (w:World) (x:DA) (r:DD × List UInt8) (e:Ending) (w':World):Prop :=
 Below w.heap.size w w'∧∃ x':DA,e=.returned (.tuple #[r.1.val x',.string (bs r.2)])∧DRd w' w'.heap.size r.1 x'∧(x'=x∨DLo w.heap.size x')
def Et (l:List UInt8) (f:DD→DD × List UInt8):Prop :=
 ∀ (w:World) (d:DD) (x:DA),Env w→d.ok=true→DRd w w.heap.size d x→Calls Tryz.prog 30 #[d.val x,.string (bs l)] w (zv w x (f d))
theorem zY {f:DD→il} {d:DD} (h:d.ok=true):(gP f d).1.ok=true:=by
 unfold gP
 split
 · exact h
 · exact h
 · split
   · assumption
   · exact h
end Go.Proofs.YtbknhgapjjaelaaGreatDoor
