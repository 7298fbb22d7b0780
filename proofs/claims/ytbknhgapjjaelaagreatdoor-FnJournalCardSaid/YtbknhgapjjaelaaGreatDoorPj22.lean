/-
  Part 22 of what the proof stands on: lemmas and contracts, each with its conditions ahead of the colon.
-/
import Derived.Test.YtbknhgapjjaelaaGreatDoorPj01
import Derived.Lib.ConvBytes
import Derived.Outline
import Derived.Deep.DeepCutAuto
import Derived.Deep.LoopGhost
import Derived.LaidLaws
import Derived.LaidMore
import Derived.Shelf.Strconv.ToError
import Derived.Test.YtbknhgapjjaelaaGreatDoorPj03
import Derived.Test.YtbknhgapjjaelaaGreatDoorPj12
import Derived.Test.YtbknhgapjjaelaaGreatDoorPj13
set_option maxRecDepth 200000
set_option maxHeartbeats 16000000
namespace Go.Proofs.YtbknhgapjjaelaaGreatDoor
set_option linter.unusedVariables false
set_option linter.unusedSimpArgs false
open Go.RowKit
theorem FX {l:List UInt8} {k n d:Nat} {b:UInt8} (h:dZ 0 (l.take k)=some n) (hb:l[k]? = some b) (hd:gG b=some d):dZ 0 (l.take (k+1))=some (16 * n+d):=by
 rw [List.take_add_one,hb,se,h]
 show dZ n [b]=_
 rw [dZ,hd];rfl
theorem FW {l:List UInt8} {k n:Nat} {b:UInt8} (h:dZ 0 (l.take k)=some n) (hb:l[k]? = some b) (hd:gG b=none):dZ 0 l=none:=by
 have hl:=(List.getElem?_eq_some_iff.1 hb).1;have e:l=l.take k ++ b :: l.drop (k+1):=by
  have:=List.take_append_drop k l;rw [List.drop_eq_getElem_cons hl] at this;rw [List.getElem?_eq_getElem hl] at hb;injection hb with hb
  rw [hb] at this;exact this.symm
 rw [e,se,h]
 show dZ n (b :: l.drop (k+1))=none
 rw [dZ,hd]
theorem Dd {l:List UInt8} {k n:Nat} (h:dZ 0 (l.take k)=some n) (hk:k<8):n<268435456:=by
 have h1:=uA _ _ _ h;have h2:(l.take k).length≤7:=by rw [List.length_take];omega
 have h3:(16:Nat) ^ (l.take k).length≤16 ^ 7:=Nat.pow_le_pow_right (by omega) h2
 have h4:(16:Nat) ^ 7=268435456:=by decide
 omega
theorem Fh (b:UInt8):bits .or .u8 (b.toNat:Int) 32=((ep b:Nat):Int):=by
 have key:∀ q:Fin 256,bits .or .u8 (q.1:Int) 32=((ep (UInt8.ofNat q.1):Nat):Int):=by decide +kernel
 have hb:=b.toNat_lt;have:=key ⟨b.toNat,by omega⟩;simpa using this
theorem G7 (b:UInt8):(48≤b.toNat∧b.toNat≤57∧b.toNat≠95∧gG b=some (b.toNat - 48))∨(b.toNat<48∧b.toNat≠95∧ep b<97∧gG b=none)∨(57<b.toNat∧b.toNat≠95∧ep b<97∧gG b=none)∨(57<b.toNat∧b.toNat≠95∧122<ep b∧gG b=none)∨(57<b.toNat∧b.toNat=95∧122<ep b∧gG b=none)∨(57<b.toNat∧b.toNat≠95∧103≤ep b∧ep b≤122∧gG b=none)∨(57<b.toNat∧b.toNat≠95∧97≤ep b∧ep b≤102∧gG b=some (ep b - 87)):=by
 have key:∀ q:Fin 256,(48≤(UInt8.ofNat q.1).toNat∧(UInt8.ofNat q.1).toNat≤57∧(UInt8.ofNat q.1).toNat≠95∧gG (UInt8.ofNat q.1)=some ((UInt8.ofNat q.1).toNat - 48))∨((UInt8.ofNat q.1).toNat<48∧(UInt8.ofNat q.1).toNat≠95∧ep (UInt8.ofNat q.1)<97∧gG (UInt8.ofNat q.1)=none)∨(57<(UInt8.ofNat q.1).toNat∧(UInt8.ofNat q.1).toNat≠95∧ep (UInt8.ofNat q.1)<97∧gG (UInt8.ofNat q.1)=none)∨(57<(UInt8.ofNat q.1).toNat∧(UInt8.ofNat q.1).toNat≠95∧122<ep (UInt8.ofNat q.1)∧gG (UInt8.ofNat q.1)=none)∨(57<(UInt8.ofNat q.1).toNat∧(UInt8.ofNat q.1).toNat=95∧122<ep (UInt8.ofNat q.1)∧gG (UInt8.ofNat q.1)=none)∨(57<(UInt8.ofNat q.1).toNat∧(UInt8.ofNat q.1).toNat≠95∧103≤ep (UInt8.ofNat q.1)∧ep (UInt8.ofNat q.1)≤122∧gG (UInt8.ofNat q.1)=none)∨(57<(UInt8.ofNat q.1).toNat∧(UInt8.ofNat q.1).toNat≠95∧97≤ep (UInt8.ofNat q.1)∧ep (UInt8.ofNat q.1)≤102∧gG (UInt8.ofNat q.1)=some (ep (UInt8.ofNat q.1) - 87)):=by decide +kernel
 have hb:=b.toNat_lt;have:=key ⟨b.toNat,by omega⟩;simpa only [UInt8.ofNat_toNat] using this
theorem Ij (b:UInt8) (w:World):Calls Tryz.prog 156 #[.int .u8 (b.toNat:Int)] w fun e w'=>e=.returned (.int .u8 (ep b:Nat))∧w=w':=by
 have h:=Fh b;generalize ep b=q at *
 generalize b.toNat=c at *
 go_enter Tryz.func156,Tryz.ntmps156;go_wp2_with fail;go_ret;exact ⟨rfl,rfl⟩
def RetU (w:World) (l:List UInt8) (e:Ending) (w':World):Prop:=Below w.heap.size w w'∧match dZ 0 l with
 | some m=>e=.returned (.tuple #[.int .u64 m,.nilIface])
 | none=>e=.returned (.tuple #[.int .u64 0,.iface 205 (.int .i64 2)])
theorem RetU.yes {w w':World} {l:List UInt8} {m:Nat} (h:dZ 0 l=some m) (hb:Below w.heap.size w w'):RetU w l (.returned (.tuple #[.int .u64 m,.nilIface])) w':=by unfold RetU;rw [h];exact ⟨hb,rfl⟩
theorem RetU.no {w w':World} {l:List UInt8} (h:dZ 0 l=none) (hb:Below w.heap.size w w'):RetU w l (.returned (.tuple #[.int .u64 0,.iface 205 (.int .i64 2)])) w':=by unfold RetU;rw [h];exact ⟨hb,rfl⟩
theorem zT (w:World) (e:TypeId) (s:ByteArray):Below w.heap.size w (Lib.bytesWorld w e s):=Lib.bytesWorld_below w e s
theorem ze (w:World) (s:ByteArray) (hs:s.size=8) :
 Calls Tryz.prog 116 #[.string s,.int .i64 16,.int .i64 32] w (RetU w s.data.toList):=by
 have hcv:=Lib.run_convert_string_bytes (P:=Tryz.prog) w 9 22 5 s Tryz.underlying9 Tryz.underlying22 Tryz.underlying5;obtain ⟨cG,hcG⟩:∃ c,c=grownCap w s.size 0 5:=⟨_,rfl⟩;rw [← hcG] at hcv;have hcGe:s.size≤cG:=by rw [hcG];exact grownCap_ge _ _ _ _
 obtain ⟨wB,hwB⟩:∃ W,W=Lib.bytesWorld w 5 s:=⟨_,rfl⟩;rw [← hwB] at hcv;have BB:Hid (Below w.heap.size w wB):=by rw [hwB];exact zT w _ s
 have HC:Hid (∀ j,j<s.size→wB.cell? ⟨w.heap.size,j,none⟩=some (.int .u8 ((s.data.toList.getD j 0).toNat:Int))):=fun j hj=>by rw [hwB];exact Lib.bytesWorld_cell w _ s j hj
 have hsl:s.data.toList.length=8:=by rw [← Lib.size_eq];exact hs
 have hne:(s.toList == [])=false:=by
  rw [Lib.toList_data,Bool.eq_false_iff];intro e;rw [eq_of_beq e] at hsl;cases hsl
 have hne2:s.toList.isEmpty=false:=by
  rw [Lib.toList_data];cases h:s.data.toList with
  | nil=>rw [h] at hsl;cases hsl
  | cons a r=>rfl
 rw [hs] at hcv hcGe HC;have HS:=Oi hs;have HSL:=Oi hsl;have LL:=Oi Ij;obtain ⟨l,hl⟩:∃ l,l=s.data.toList:=⟨_,rfl⟩;rw [← hl] at HC HSL ⊢;have hT:Hid (∀ k b,l[k]? = some b→k<8→wB.cell? ⟨w.heap.size,k,none⟩=some (.int .u8 (b.toNat:Int))):=fun k b hb hk=>by
  have:=HC.out k hk;rw [List.getD,hb] at this;exact this
 have RT:=Oi (fun k n d b h1 h2 h3=>FX (l:=l) (k:=k) (n:=n) (d:=d) (b:=b) h1 h2 h3)
 have RS:=Oi (fun k n b h1 h2 h3=>FW (l:=l) (k:=k) (n:=n) (b:=b) h1 h2 h3)
 have RB:=Oi (fun k n h1 h2=>Dd (l:=l) (k:=k) (n:=n) h1 h2)
 have R0:Hid (dZ 0 (l.take 0)=some 0):=rfl;have RE:Hid (∀ m,dZ 0 (l.take 8)=some m→dZ 0 l=some m):=fun m h=>by rwa [List.take_of_length_le (by have:=HSL.out;omega)] at h
 clear hcG hwB hsl hs hl HC
 go_enter Tryz.func116,Tryz.ntmps116;go_wp2_with fail
 go_loopg [101,13,12] (8) (fun gk kv nv uv wr=>∃ k n:Nat,gk=8 - k∧k≤8∧kv=.int .i64 k∧nv=.int .u64 n∧uv=.bool false∧Hid (dZ 0 (l.take k)=some n)∧wr=wB)
 case atStart=>exact ⟨0,0,rfl,Nat.zero_le _,rfl,rfl,rfl,R0.out,rfl⟩
 case round =>
  clear R0;obtain ⟨k,n,rfl,hk,rfl,rfl,rfl,hR,rfl⟩:=hrel;have k0:(0:Int)≤(k:Int):=Int.natCast_nonneg _
  by_cases hlt:k<8
  · have hki:(k:Int)<8:=by omega
    have hnb:=RB.out k n hR.out hlt;obtain ⟨b,hb⟩:∃ b,l[k]? = some b:=⟨l[k]'(by have:=HSL.out;omega),List.getElem?_eq_getElem _⟩
    have c1:=hT.out k b hb hlt;have RT1:=Oi (fun d h=>RT.out k n d b hR.out hb h)
    have RS1:=Oi (fun h=>RS.out k n b hR.out hb h)
    have LL1:=Oi (fun v=>LL.out b v)
    have hcs:=G7 b;have hb8:b.toNat<256:=b.toNat_lt;clear hb hR;generalize ep b=lw at *
    generalize gG b=hv at *
    generalize b.toNat=c at *
    rcases hcs with ⟨h1,h2,h3,hh⟩ | ⟨h1,h3,h4,hh⟩ | ⟨h1,h3,h4,hh⟩ | ⟨h1,h3,h4,hh⟩ | ⟨h1,h3,h4,hh⟩ | ⟨h1,h3,h4,h5,hh⟩ | ⟨h1,h3,h4,h5,hh⟩
    · have u1:((c:Int) == 95)=false:=by simp;omega
      have i1:(48:Int)≤(c:Int):=by omega
      have i2:(c:Int)≤57:=by omega
      have i1d:decide ((48:Int)≤(c:Int))=true:=decide_eq_true i1;obtain ⟨d,hd⟩:∃ d,d=c - 48:=⟨_,rfl⟩;rw [← hd] at hh;have hN:=Oi (RT1.out d hh);have hdd:(c:Int) - 48=(d:Int):=by omega
      have hd16:¬ (16:Int)≤(d:Int):=by omega
      have hnn:¬ (n:Int) * 16+(d:Int)<(n:Int) * 16:=by omega
      have hcut:¬ (1152921504606846976:Int)≤(n:Int):=by omega
      have hmx:¬ (4294967295:Int)<(n:Int) * 16+(d:Int):=by omega
      have d0:(0:Int)≤(d:Int):=Int.natCast_nonneg _;have n0:(0:Int)≤(n:Int):=Int.natCast_nonneg _;have nb:(n:Int)<268435456:=by omega
      have hcl:((16 * n+d:Nat):Int)=(n:Int) * 16+(d:Int):=by omega
      clear hh RT1 RS1 h3 hd;have HCL:=Oi hcl;clear hcl;go_wp2_with fail
      go_roundg (8 - (k+1))
      case measure=>omega
      case rel=>exact ⟨k+1,16 * n+d,rfl,by omega,by go_num,by rw [HCL.out],rfl,hN.out,rfl⟩
    · have u1:((c:Int) == 95)=false:=by simp;omega
      have i1:¬ (48:Int)≤(c:Int):=by omega
      have i1d:decide ((48:Int)≤(c:Int))=false:=decide_eq_false i1;have i3:¬ (97:Int)≤(lw:Int):=by omega
      have i3d:decide ((97:Int)≤(lw:Int))=false:=decide_eq_false i3;have hN:=Oi (RS1.out hh);clear hh RT1 RS1 h3;go_wp2_with fail;refine (LL1.out _).mono ?_;rintro e w1 ⟨rfl,rfl⟩;go_wp2_with fail
      go_ret2
      exact RetU.no hN.out BB.out
    · have u1:((c:Int) == 95)=false:=by simp;omega
      have i1:(48:Int)≤(c:Int):=by omega
      have i2:¬ (c:Int)≤57:=by omega
      have i1d:decide ((48:Int)≤(c:Int))=true:=decide_eq_true i1;have i3:¬ (97:Int)≤(lw:Int):=by omega
      have i3d:decide ((97:Int)≤(lw:Int))=false:=decide_eq_false i3;have hN:=Oi (RS1.out hh);clear hh RT1 RS1 h3;go_wp2_with fail;refine (LL1.out _).mono ?_;rintro e w1 ⟨rfl,rfl⟩;go_wp2_with fail
      go_ret2
      exact RetU.no hN.out BB.out
    · have u1:((c:Int) == 95)=false:=by simp;omega
      have i1:(48:Int)≤(c:Int):=by omega
      have i2:¬ (c:Int)≤57:=by omega
      have i1d:decide ((48:Int)≤(c:Int))=true:=decide_eq_true i1;have i3:(97:Int)≤(lw:Int):=by omega
      have i3d:decide ((97:Int)≤(lw:Int))=true:=decide_eq_true i3;have i4:¬ (lw:Int)≤122:=by omega
      have hN:=Oi (RS1.out hh);clear hh RT1 RS1 h3;go_wp2_with fail;refine (LL1.out _).mono ?_;rintro e w1 ⟨rfl,rfl⟩;go_wp2_with fail;refine (LL1.out _).mono ?_;rintro e w1 ⟨rfl,rfl⟩;go_wp2_with fail
      go_ret2
      exact RetU.no hN.out BB.out
    · have u1:((c:Int) == 95)=true:=by simp;omega
      have i1:(48:Int)≤(c:Int):=by omega
      have i2:¬ (c:Int)≤57:=by omega
      have i1d:decide ((48:Int)≤(c:Int))=true:=decide_eq_true i1;have i3:(97:Int)≤(lw:Int):=by omega
      have i3d:decide ((97:Int)≤(lw:Int))=true:=decide_eq_true i3;have i4:¬ (lw:Int)≤122:=by omega
      have hN:=Oi (RS1.out hh);clear hh RT1 RS1 h3;go_wp2_with fail;refine (LL1.out _).mono ?_;rintro e w1 ⟨rfl,rfl⟩;go_wp2_with fail;refine (LL1.out _).mono ?_;rintro e w1 ⟨rfl,rfl⟩;go_wp2_with fail
      go_ret2
      exact RetU.no hN.out BB.out
    · have u1:((c:Int) == 95)=false:=by simp;omega
      have i1:(48:Int)≤(c:Int):=by omega
      have i2:¬ (c:Int)≤57:=by omega
      have i1d:decide ((48:Int)≤(c:Int))=true:=decide_eq_true i1;have i3:(97:Int)≤(lw:Int):=by omega
      have i3d:decide ((97:Int)≤(lw:Int))=true:=decide_eq_true i3;have i4:(lw:Int)≤122:=by omega
      have hN:=Oi (RS1.out hh);clear hh RT1 RS1 h3;go_wp2_with fail;refine (LL1.out _).mono ?_;rintro e w1 ⟨rfl,rfl⟩;go_wp2_with fail;refine (LL1.out _).mono ?_;rintro e w1 ⟨rfl,rfl⟩;go_wp2_with fail;refine (LL1.out _).mono ?_;rintro e w1 ⟨rfl,rfl⟩;go_wp2_with fail
      go_ret2
      exact RetU.no hN.out BB.out
    · have u1:((c:Int) == 95)=false:=by simp;omega
      have i1:(48:Int)≤(c:Int):=by omega
      have i2:¬ (c:Int)≤57:=by omega
      have i1d:decide ((48:Int)≤(c:Int))=true:=decide_eq_true i1;have i3:(97:Int)≤(lw:Int):=by omega
      have i3d:decide ((97:Int)≤(lw:Int))=true:=decide_eq_true i3;have i4:(lw:Int)≤122:=by omega
      obtain ⟨d,hd⟩:∃ d,d=lw - 87:=⟨_,rfl⟩;rw [← hd] at hh;have hN:=Oi (RT1.out d hh);obtain ⟨g,hg⟩:∃ g,g=lw - 97:=⟨_,rfl⟩;have hgg:(lw:Int) - 97=(g:Int):=by omega
      have hdd:(g:Int)+10=(d:Int):=by omega
      have d0:(0:Int)≤(d:Int):=Int.natCast_nonneg _;have n0:(0:Int)≤(n:Int):=Int.natCast_nonneg _;have nb:(n:Int)<268435456:=by omega
      have hcl:((16 * n+d:Nat):Int)=(n:Int) * 16+(d:Int):=by omega
      clear hh RT1 RS1 h3 hd hg;have HCL:=Oi hcl;clear hcl;go_wp2_with fail;have HD:=Oi (show d<16 by omega)
      refine (LL1.out _).mono ?_;rintro e w1 ⟨rfl,rfl⟩;go_wp2_with fail;refine (LL1.out _).mono ?_;rintro e w1 ⟨rfl,rfl⟩;go_wp2_with fail;refine (LL1.out _).mono ?_;rintro e w1 ⟨rfl,rfl⟩
      go_upto_region 46 with fail
      go_cut [16,137] (fun dv tv wx=>dv=.int .u8 d∧tv=.bool (decide ((16:Int)≤(d:Int)))∧wx=wr)
      case first =>
       go_wp2_with fail
       go_meet
       exact ⟨rfl,rfl,rfl⟩
      case rest =>
       obtain ⟨rfl,htv,rfl⟩:=hcut;rw [decide_eq_false (by have:=HD.out;omega)] at htv
       subst htv;clear hgg hdd h4 h5 i3 i3d i4;have hdn:=HD.out;have hd16:¬ (16:Int)≤(d:Int):=by omega
       have hnn:¬ (n:Int) * 16+(d:Int)<(n:Int) * 16:=by omega
       have hcut:¬ (1152921504606846976:Int)≤(n:Int):=by omega
       have hmx:¬ (4294967295:Int)<(n:Int) * 16+(d:Int):=by omega
       clear hdn;go_wp2_with fail
       go_roundg (8 - (k+1))
       case measure=>omega
       case rel=>exact ⟨k+1,16 * n+d,rfl,by omega,by go_num,by rw [HCL.out],rfl,hN.out,rfl⟩
  · obtain rfl:k=8:=by omega
    have hN:=Oi (RE.out n hR.out);clear hR;go_wp2_with fail
    go_ret2
    exact RetU.yes hN.out BB.out
theorem pQ {P:Program} {W:World} {name tn:String} {d:DataW Unit} {rest:List (String × DataW Unit)} {g:Nat} {t:TypeId} {ms:Array (String × TypeId)}
 (hg:P.globalNamed name=some g) (hty:(P.globals[g]?).map (·.type)=some t) (ht:P.underlying t=some (.interface ms))
 (h:laidMet P ((name,.iface tn d) :: rest) W):∃ ev:Value,W.cell? ⟨g,0,none⟩=some ev∧(ev=.nilIface∨∃ te pe,ev=.iface te pe):=by
 obtain ⟨ps,⟨g',t',cs,fuel,p,q,hg',ht',hvar,hd,_,_⟩,_⟩:=h;obtain rfl:=Option.some.inj (hg.symm.trans hg');obtain rfl:=Option.some.inj (hty.symm.trans ht');obtain ⟨_,u,v,hcs,_,_⟩:=iface_of_trod ht hd;have hc:=World.var?_cell hg hvar 0;have he:cs = #[.iface u v]:=by
  cases cs
  simpa using hcs
 subst he;exact ⟨.iface u v,by simpa using hc,.inr ⟨u,v,rfl⟩⟩
theorem Jf (w:World) (hE:Errs w) (s:ByteArray) (hs:s.size≤1048576) :
 Calls Tryz.prog 117 #[.string ⟨#[80,97,114,115,101,85,105,110,116]⟩,.string s,.int .i64 16,.int .i64 32,.iface 205 (.int .i64 2)] w fun e w'=>∃ t p,e=.returned (.iface t p)∧Below w.heap.size w w':=by
 obtain ⟨⟨a,ha,ha2⟩,-⟩:=hE;have L:=Any.strconv_toError_syntax (P:=Tryz.prog) (ρ:=Tryz.laysC174_ren) { Tryz.laysC174 with } ⟨#[80,97,114,115,101,85,105,110,116]⟩ s 16 32 a w (by omega) ha ha2
 exact L.mono fun e w' ⟨N,h1,_,_,h2⟩=>⟨_,_,h1,h2⟩
theorem Bl (w:World) (hE:Errs w) (s:ByteArray) (hs:s.size=8) :
 Calls Tryz.prog 88 #[.string s,.int .i64 16,.int .i64 32] w fun e w'=>∃ v,e=.returned (.tuple #[.int .u64 (jA s.data.toList:Nat),v])∧Below w.heap.size w w':=by
 have L:=Oi (ze w s hs);have LT:=Oi (fun v (hb:Below w.heap.size w v)=>Jf v (hE.to hb) s (by omega))
 unfold RetU at L
 cases hr:dZ 0 s.data.toList with
 | some m =>
   have HF:Hid (jA s.data.toList=m):=by unfold jA;rw [Hid,hr];rfl
   rw [hr] at L;rw [HF.out];clear hE hr hs
   go_enter Tryz.func88,Tryz.ntmps88;go_wp2_with fail;refine L.out.mono ?_;rintro e w1 ⟨hb,rfl⟩;go_wp2_with fail
   go_ret2
   exact ⟨_,rfl,hb⟩
 | none =>
   have HF:Hid (jA s.data.toList=0):=by unfold jA;rw [Hid,hr];rfl
   rw [hr] at L;rw [HF.out];clear hE hr hs
   go_enter Tryz.func88,Tryz.ntmps88;go_wp2_with fail;refine L.out.mono ?_;rintro e w1 ⟨hb,rfl⟩;have B1:=Oi hb;have LT1:=Oi (LT.out _ hb);clear hb LT;go_wp2_with fail;refine LT1.out.mono ?_;rintro e w2 ⟨t,p,rfl,hb2⟩;go_wp2_with fail
   go_ret2
   exact ⟨_,rfl,aa B1.out hb2⟩
theorem Nu (b:Nat) (w:World):(callFunc 89 #[.int .u32 b]).run Tryz.prog w=.ok (.value (.float .f32 b)) w:=by
 rw [run_callFunc_extern (P:=Tryz.prog) (e:=Extern.MathFloatBits.float32frombits) Tryz.func89 (by kernel_rfl) (by kernel_rfl) (by kernel_rfl) (by kernel_rfl)]
 rfl
theorem Dc (w:World) (hE:Errs w) (s:ByteArray) (hs:s.size=8) :
 Calls Tryz.prog 49 #[.string s] w fun e w'=>e=.returned (.float .f32 (jA s.data.toList))∧Below w.heap.size w w':=by
 have L:=Oi (Bl w hE s hs);have hlt:jA s.data.toList<4294967296:=BH (by rw [← Lib.size_eq];exact hs)
 generalize jA s.data.toList=m at *
 have hw:IntKind.u32.wrap (m:Int)=(m:Int):=IntWalk.u32_in _ (by omega)
 have hd:=fun v=>Nu m v
 clear hE hs hlt
 go_enter Tryz.func49,Tryz.ntmps49;go_wp2_with fail;refine L.out.mono ?_;rintro e w1 ⟨v,rfl,hb⟩;go_wp2_with fail;go_ret;exact ⟨rfl,hb⟩
def zm (w:World) (r:Option (List Nat)) (e:Ending) (w':World):Prop :=
 Below w.heap.size w w'∧match r with
  | none=>e=.returned (.tuple #[.slice none 0 0,.bool false])
  | some xs=>∃ a c,e=.returned (.tuple #[.slice a xs.length c,.bool true])∧w'.ownsRow w.heap.size 79 1 (.slice a xs.length c) xs.length (dx xs)
theorem tI (xs ys:List Nat):dx (xs ++ ys)=dx xs ++ dx ys:=by simp [dx]
theorem vF (w:World) (hB:TabB w) (hS:Shp w) (hE:Errs w) (s:ByteArray) (hs:s.size≤1048576) :
 Calls Tryz.prog 20 #[.string s] w (zm w (fP s.data.toList)):=by
 have hln:(ex s.data.toList).length≤1048577:=by have:=Bo s.data.toList;have:=Lib.size_eq s;omega
 have HM:Hid (∀ x∈ex s.data.toList,x.length≤1048576):=fun x hx=>by have:=Bp hx;have:=Lib.size_eq s;omega
 have LP:=Oi (fun v (hv:Below w.heap.size w v)=>vE v (hS.to hv) s hs)
 have LD:=Oi (fun v (hv:Below w.heap.size w v)=>Dc v (hE.to hv))
 have LN:=Oi (fun v (hv:Below w.heap.size w v)=>pn v (hB.to hv))
 have HTl:=Oi (Till.start mR (ex s.data.toList));have HNo:=Oi (fun h=>mP (l:=s.data.toList) h)
 have HLg:=Oi (fun h=>zd (l:=s.data.toList) h)
 have HSo:=Oi (fun xs h=>mQ (l:=s.data.toList) (xs:=xs) h)
 have HLt:=Oi (fun xs h=>uf (f:=mR) (Q:=fun x=>x<4294967296) (fun p y hy=>D9 hy) (xs:=ex s.data.toList) (ys:=xs) h)
 have HSl:Hid (s.toList=s.data.toList):=Lib.toList_data s;generalize fP s.data.toList=RF at *
 generalize ex s.data.toList=ps at *
 generalize s.data.toList=sl at *
 clear hB hS hE hs;have hO0:=Oi (bz w 79)
 go_enter Tryz.func20,Tryz.ntmps20;go_wp2_with fail;refine (LP.out _ (ai _ _)).mono ?_;rintro e w1 ⟨a,c,rfl,hrd,hbl,hb1⟩;have HX:=Oi hrd;have HB1:=Oi (aa (ai _ _) hb1);have HO1:=Oi (aD hO0.out hb1);have HL:=Oi (fun b (e:a=some b)=>(hbl b e).2)
 have HA0:Hid (Apt a (.slice (some ⟨w.heap.size,0,none⟩) 0 0)):=fun b e h=>by
  have h1:=(hbl b e).1;have h2:some b.block=some w.heap.size:=h;injection h2 with h2
  simp at h1
  omega
 clear hrd hb1 hO0 LP hbl;go_wp2_with fail
 go_loopw [4,13] (fun v iv wr=>∃ (k:Nat) (d:List Nat),k≤ps.length∧k≤256∧d.length=k∧iv=.int .i64 k∧(∃ g c,v=.slice (some ⟨g,0,none⟩) d.length c)∧Hid (Till mR ps k d)∧Hid (wr.ownsRow w.heap.size 79 1 v d.length (dx d))∧Hid (Below w.heap.size w wr)∧Hid (Rd wr w1.heap.size a (bF ps))∧Hid (w1.heap.size≤wr.heap.size)∧Hid (Apt a v)) (fun _ iv _=>ps.length - (intOf iv).toNat)
 case atStart=>exact ⟨0,[],Nat.zero_le _,Nat.zero_le _,rfl,rfl,⟨_,_,rfl⟩,HTl.out,HO1.out,HB1.out,HX.out,Nat.le_refl _,HA0.out⟩
 case round =>
  obtain ⟨k,d,hk,hk256,hdk,rfl,⟨g,cp,rfl⟩,hTl,hO,hw,hR,hS1,hA⟩:=hrel;have HDK:=Oi hdk;clear hdk;have k0:(0:Int)≤(k:Int):=Int.natCast_nonneg _
  by_cases hlt:k<ps.length
  · have k1:(k:Int)<(ps.length:Int):=by omega
    obtain ⟨b,o,l,ha,hb,hc,hl⟩:=jn hR.out hlt;have HAe:=Oi ha;subst ha;have hlm:=HM.out l (List.mem_of_getElem? hl.out)
    by_cases h8:l.length=8
    · have hz:(bs l).size=8:=by rw [aE];exact h8
      have t8:(((bs l).size:Int) != 8)=false:=by rw [hz];rfl
      by_cases h256:d.length=256
      · have HF:Hid (RF=none):=HLg.out (by have:=HDK.out;omega)
        have t9:((d.length:Int) == 256)=true:=by rw [h256];rfl
        clear hTl hl h8 hz;generalize bs l=B at *
        go_wp2_with fail
        go_ret2
        rw [HF.out];exact ⟨hw.out,rfl⟩
      · have t9:((d.length:Int) == 256)=false:=by rw [beq_eq_false_iff_ne];omega
        have HT2:=Oi (hTl.out.step hl.out (It h8));have LD1:=Oi (LD.out wr hw.out (bs l) hz);rw [show (bs l).data.toList=l from rfl] at LD1
        generalize jA l=n at *
        clear hTl hl h8 hz;generalize bs l=B at *
        go_wp2_with fail;refine LD1.out.mono ?_;rintro e w2 ⟨rfl,hb2⟩;have hO':=aD hO.out hb2;have hw2:=aa hw.out hb2;have hws2:=hw2.size;have hdl:d.length≤1099511627776:=by have:=HDK.out;omega
        have HR2:=Oi (hR.out.below (hb2.mono hS1.out) (Nat.le_refl _));have HS2:=Oi (Nat.le_trans hS1.out hb2.size);clear hb2 hO hw hR LD1
        go_wp2_with (at_builtin;refine aQ _ rfl _ _ 31 rfl w.heap.size 79 (.float .f32 0) 4 Tryz.underlying31 ur rfl _ d.length _ rfl hO' (.float .f32 n) rfl rfl (by omega) hdl hws2 ?_)
        intro v' w' ho hgr hng;obtain ⟨g2,c2,rfl⟩:=fm ho (by omega)
        have HO2:Hid (w'.ownsRow w.heap.size 79 1 (.slice (some ⟨g2,0,none⟩) (d.length+1) c2) (d ++ [n]).length (dx (d ++ [n]))):=by
         rw [Hid,List.length_append,List.length_singleton,tI];exact ho
        have HW3:=Oi (ah hw2 hO' hgr (Nat.le_refl _) hws2);have HR3:=Oi (HR2.out.apt HS2.out hgr hA.out);have HS3:=Oi (Nat.le_trans HS2.out hgr.size);have HA3:=Oi (hA.out.grow (fun b e=>Nat.lt_of_lt_of_le (HL.out b e) HS2.out) hng)
        clear ho hgr hng hO' hw2 HR2 hA;go_wp2_with fail;go_roundw
        case rel=>exact ⟨k+1,d ++ [n],by omega,by have:=HDK.out;omega,by simp [HDK.out],by go_num,⟨g2,c2,by simp⟩,HT2.out,HO2.out,HW3.out,HR3.out,HS3.out,HA3.out⟩
        case measure=>simp [intOf];omega
    · have HF:Hid (RF=none):=HNo.out (hTl.out.stop hl.out (Is h8))
      have t8:(((bs l).size:Int) != 8)=true:=by rw [aE,bne_iff_ne];omega
      clear hTl hl h8;generalize bs l=B at *
      go_wp2_with fail
      go_ret2
      rw [HF.out];exact ⟨hw.out,rfl⟩
  · obtain rfl:k=ps.length:=by omega
    have hall:=hTl.out.done;have hd256:d.length≤256:=by have:=HDK.out;omega
    have HSd:=Oi (HSo.out d hall);have LN1:=Oi (LN.out wr hw.out (some ⟨g,0,none⟩) cp d (ay hO.out (Nat.le_refl _)) (HLt.out d hall) (by omega))
    rw [if_pos hd256] at LN1;unfold kH at LN1;simp only [Option.getD_some,Option.isSome_some] at LN1;clear hTl hall
    by_cases he:bJ d=sl
    · have HF:Hid (RF=some d):=by rw [Hid,HSd.out,if_pos ⟨hd256,he⟩]
      have t1:((bs (bJ d)).toList == s.toList)=true:=by rw [ab,HSl.out,he];simp
      have t2:((bs (bJ d)).toList != s.toList)=false:=by rw [bne,t1];rfl
      generalize bs (bJ d)=TX at *
      clear he;go_wp2_with fail;refine LN1.out.mono ?_;rintro e w2 ⟨hb2,rfl⟩;have hO2:=Oi (aD hO.out hb2);have hw2:=Oi (aa hw.out hb2);clear hb2;go_wp2_with fail
      go_ret2
      rw [HF.out];exact ⟨hw2.out,_,_,rfl,hO2.out⟩
    · have HF:Hid (RF=none):=by rw [Hid,HSd.out,if_neg (fun h=>he h.2)]
      have t1:((bs (bJ d)).toList == s.toList)=false:=by rw [ab,HSl.out,Bool.eq_false_iff];intro e;exact he (eq_of_beq e)
      have t2:((bs (bJ d)).toList != s.toList)=true:=by rw [bne,t1];rfl
      generalize bs (bJ d)=TX at *
      clear he;go_wp2_with fail;refine LN1.out.mono ?_;rintro e w2 ⟨hb2,rfl⟩;have hw2:=Oi (aa hw.out hb2);clear hb2;go_wp2_with fail
      go_ret2
      rw [HF.out];exact ⟨hw2.out,rfl⟩
end Go.Proofs.YtbknhgapjjaelaaGreatDoor
