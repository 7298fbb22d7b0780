/-
  Part 48 of what the proof stands on: lemmas and contracts, each with its conditions ahead of the colon.
-/
import Derived.Test.YtbknhgapjjaelaaGreatDoorPj01
import Derived.Deep.RegionHeld3
import Derived.Deep.DeepCutAuto
import Derived.Deep.CutBlock
import Derived.Test.YtbknhgapjjaelaaGreatDoorPj08
import Derived.Test.YtbknhgapjjaelaaGreatDoorPj47
set_option maxRecDepth 100000
set_option maxHeartbeats 32000000
namespace Go.Proofs.YtbknhgapjjaelaaGreatDoor
set_option linter.unusedVariables false
set_option linter.unusedSimpArgs false
open Go.RowKit
theorem Dt {ls:List (List UInt8)} (hl:∀ l∈ls,gN l) (h5:ls.length≤5) (k:Nat):(bj (ls.take k)).length≤16000 :=
 (rB (ls:=ls.take k) (fun l h=>hl l (List.mem_of_mem_take h)) (by rw [List.length_take];omega)).2.2
theorem Ds {ls:List (List UInt8)} {k:Nat} {l:List UInt8} (h:ls[k]? = some l):bj (ls.take (k+1))=bj (ls.take k) ++ (l ++ [10]):=by
 rw [List.take_add_one,h];exact vV _ _
theorem N3 (w v0:World) (cL cM n:Nat) (aL aM:Option Addr) (ls:List (List UInt8)) (ms:List Int) (sT:ByteArray) (k:Nat) (S0:Hid (JoS w v0 aL aM ls ms)) (HL:Hid (∀ l∈ls,gN l)) (h5:1≤ls.length∧ls.length≤5) (HT:Hid (sT=bs (bI ls).2)) (hn:n≤sT.size) (hk:k≤n∧(n=sT.size→k=n)) (K:Act→World→Prop) (hK:∀ (a:Act) (v:World),Code.wp Tryz.prog (((Tryz.f4).body.bind (mH 17)).getD .skip) (bodyPost Tryz.prog Tryz.f4 fun e w'=>e=.returned (.bool true)∧Below w.heap.size w w') a v→K a v)
 {z0 z2 z3 z4 z7 z10 z12 z13 z14 z15 z16 z17 z18 z19 z20 z21 z22 z23 z24 z25 z26 z27 z28 z29 z30 z31 z32 z33 z34 z35 z36 z37 z38 z39 z40 z41 z42 z43 z44 z45 z46 z47 z48 z49 z50 z51 z52 z53 z54 z55 z56 z57 z58 z59 z60 z61 z62 z63 z64 z65 z66 z67 z68 z69 z70 z71 z72 z73 z74 z75 z76 z77 z78 z79 z80 z81 z82 z83 z84 z85 z86 z87 z88 z89 z90 z91 z92 z93 z94 z95 z96 z97 z98 z99 z100 z101 z102 z103 z104 z105 z106 z107 z108 z109 z110 z111 z112 z113 z114 z115 z116 z117 z118 z119 z120 z121 z122 z123 z124 z125 z126 z127 z128 z129 z130 z131 z132 z133 z134 z135 z136 z137 z138 z139 z140 z141 z142 z143 z144 z145 z146 z147 z148 z149 z150 z151 z152 z153 z154 z155 z156 z157 z158 z159 z160 z161 z162 z163 z164 z165 z166 z167 z168 z169 z170 z171 z172 z173 z174 z175 z176 z177 z178 z179 z180 z181 z182 z183 z184 z185 z186 z187 z188 z189 z190 z191 z192 z193 z194 z195 z196 z197 z198 z199 z200 z201 z202 z203 z204 z205 z206 z207 z208 z209 z210 z211 z212 z213 z214 z215 z216:Value} :
 Code.wp Tryz.prog (((Tryz.f4).body.bind (vG 17)).getD .skip) (Exit.then K (bodyPost Tryz.prog Tryz.f4 fun e w'=>e=.returned (.bool true)∧Below w.heap.size w w')) ⟨#[z0,.slice aM ms.length cM,z2,z3,z4,.slice aL ls.length cL,.string sT,z7,.int .i64 sT.size,.int .i64 n,z10,.int .i64 k,z12,z13,z14,z15,z16,z17,z18,z19,z20,z21,z22,z23,z24,z25,z26,z27,z28,z29,z30,z31,z32,z33,z34,z35,z36,z37,z38,z39,z40,z41,z42,z43,z44,z45,z46,z47,z48,z49,z50,z51,z52,z53,z54,z55,z56,z57,z58,z59,z60,z61,z62,z63,z64,z65,z66,z67,z68,z69,z70,z71,z72,z73,z74,z75,z76,z77,z78,z79,z80,z81,z82,z83,z84,z85,z86,z87,z88,z89,z90,z91,z92,z93,z94,z95,z96,z97,z98,z99,z100,z101,z102,z103,z104,z105,z106,z107,z108,z109,z110,z111,z112,z113,z114,z115,z116,z117,z118,z119,z120,z121,z122,z123,z124,z125,z126,z127,z128,z129,z130,z131,z132,z133,z134,z135,z136,z137,z138,z139,z140,z141,z142,z143,z144,z145,z146,z147,z148,z149,z150,z151,z152,z153,z154,z155,z156,z157,z158,z159,z160,z161,z162,z163,z164,z165,z166,z167,z168,z169,z170,z171,z172,z173,z174,z175,z176,z177,z178,z179,z180,z181,z182,z183,z184,z185,z186,z187,z188,z189,z190,z191,z192,z193,z194,z195,z196,z197,z198,z199,z200,z201,z202,z203,z204,z205,z206,z207,z208,z209,z210,z211,z212,z213,z214,z215,z216],[]⟩ v0:=by
 obtain ⟨cr,hcr⟩:∃ c,c=(((Tryz.f4).body.bind (mH 17)).getD .skip):=⟨_,rfl⟩;rw [← hcr] at hK
 conv at hcr=>rhs;whnf
 subst hcr
 conv=>arg 2;whnf
 have LN:=Oi (xR v0);have hrun:=Av ls oJ;have htl:sT.data.toList=(bI ls).2:=by rw [HT.out];exact cu _
 have LR:=Oi (fun (v:World) (xn:DA) (hE:Env v) (hd:DRd v v.heap.size oJ xn)=>xd v oJ xn sT (gp ls) hE wU hd (by rw [HT.out,aE];exact rG HL.out h5.2) (by rw [htl,vf];exact MV HL.out) (fun p hp=>by unfold gp at hp;obtain ⟨l,hl,rfl⟩:=List.mem_map.1 hp;exact (qy (by have:=(HL.out l hl).1;omega)).1) (fun p hp=>by unfold gp at hp;obtain ⟨l,hl,rfl⟩:=List.mem_map.1 hp;exact (qy (by have:=(HL.out l hl).1;omega)).2))
 rw [hrun,show (gp ls).length=ls.length from by unfold gp;simp] at LR
 dsimp only at LR;obtain ⟨st,hst⟩:∃ st,st=jK ls oJ:=⟨_,rfl⟩;rw [← hst] at LR;have HG:=Oi hst.symm;obtain ⟨dn,ts⟩:=st;dsimp only at LR;have h5I:(ls.length:Int)≤5:=by omega
 clear hrun htl hst;go_wp2_with fail;refine LN.out.mono ?_;rintro e v1 ⟨xn,rfl,hd,hb⟩;have LR1:=Oi (LR.out v1 xn (S0.out.env.to hb) hd);have S1:=Oi (S0.out.to hb);unfold DD.val at LR1 ⊢;clear LN LR hd hb S0;go_wp2_with fail;refine LR1.out.mono ?_;rintro e v2 ⟨y,rfl,-,hrd,hb⟩;obtain ⟨v3,hv3⟩:∃ X,X=v2.alloc (.cells #[.int .i64 dn.R,.int .i64 dn.C,.slice y.a dn.A.length y.ca,.slice y.b dn.B.length y.cb,.int .i64 dn.P,.int .i64 dn.T,.slice y.v dn.V.length y.cv,.int .i64 dn.U,.int .i64 dn.N,.slice y.w dn.W.length y.cw,.slice y.k dn.K.length y.ck,.slice y.f dn.F.length y.cf] 33):=⟨_,rfl⟩;have hb3:Below v2.heap.size v2 v3:=by rw [hv3];exact ai _ _
 have KE:Hid (Blk v3 v2.heap.size (dn.cells y) 33):=by rw [hv3];exact Blk.new v2 _ _
 have S3:=Oi (S1.out.to (aa hb hb3));have D3:=Oi (hrd.to hb3);clear hrd hb hb3 LR1 S1
 go_upto_region 18 with fail
 rw [← hv3];clear hv3;obtain ⟨gD,hgD⟩:∃ k,k=v2.heap.size:=⟨_,rfl⟩;rw [← hgD] at KE ⊢;clear hgD
 go_upto_region 20 with fail
 go_loopw [20,21] (fun sv iv wr=>∃ (i:Nat),i≤ls.length∧sv=.string (bs (bj (ls.take i)))∧iv=.int .i64 i∧wr=v3) (fun _ iv _=>ls.length - (intOf iv).toNat)
 case atStart=>exact ⟨0,Nat.zero_le _,rfl,rfl,rfl⟩
 case round =>
  obtain ⟨i,hi,rfl,rfl,rfl⟩:=hrel;have i0:(0:Int)≤(i:Int):=Int.natCast_nonneg _;have i5:(i:Int)≤5:=by omega
  by_cases hlt:i<ls.length
  · have hki:(i:Int)<(ls.length:Int):=by omega
    obtain ⟨bL,oL,l,ha,hb,hcl,hlq⟩:=jn S3.out.L hlt;subst ha;have HS:=Oi (Ds hlq.out);have z1:(bs (bj (ls.take i))).size≤16000:=by rw [aE];exact Dt HL.out h5.2 i
    have z3:(bs l).size≤1800:=by rw [aE];exact (HL.out l (List.mem_of_getElem? hlq.out)).1
    have y1:¬ 9223372036854775807<(bs l).size+1:=by omega
    have y2:¬ 9223372036854775807<(bs (bj (ls.take i))).size+((bs l).size+1):=by omega
    clear hlq;go_wp2_with fail;go_roundw
    case rel=>exact ⟨i+1,by omega,by rw [HS.out,← cD,← cD];rfl,by go_num,by first | rfl | trivial⟩
    case measure=>first | (simp [intOf];done) | (simp [intOf];omega)
  · obtain rfl:i=ls.length:=by omega
    rw [List.take_length]
    go_upto_region 23 with fail
    refine Of w _ cL cM n aL aM ls ms sT gD k dn y ts _ S3 HL h5 HT rfl HG KE D3 hn hk _ ?hk
    case hk=>assumption
theorem CT (w:World) (hE:Env w) (ac am:Option Addr) (cc cm:Nat) (cs ms:List Int) (hc:Rd w w.heap.size ac (jg cs)) (hm:Rd w w.heap.size am (jg ms)) (lc:cs.length≤9223372036854775807) (lm:ms.length≤9223372036854775807) (bc:∀ x∈cs,0≤x∧x≤255) (bm:∀ x∈ms,0≤x∧x≤255) :
 Calls Tryz.prog 4 #[.slice ac cs.length cc,.slice am ms.length cm] w fun e w'=>e=.returned (.bool true)∧Below w.heap.size w w':=by
 have LL:=Oi (FN w ac am cc cm cs ms lc lm)
 cases hlong:qC cs ms with
 | true =>
   rw [hlong] at LL;clear hlong hc hm bc bm hE
   go_enter Tryz.func4,Tryz.ntmps4;go_wp2_with fail;refine LL.out.mono ?_;rintro e w' ⟨rfl,rfl⟩;go_wp2_with fail;go_ret;exact ⟨rfl,Below.refl _ _⟩
 | false =>
 rw [hlong] at LL;have hlc:cs.length≤1048576∧ms.length≤1048576:=by
  simp only [qC,Bool.or_eq_false_iff,decide_eq_false_iff_not] at hlong;omega
 obtain ⟨hlc,hlm⟩:=hlc;have L1:=Oi (Db w ac cc cs hc bc hlc);have HM:=Oi hm;have HB:=Oi bm;have HE:=Oi hE;clear hlong hc hm bc bm lc lm hE
 go_enter Tryz.func4,Tryz.ntmps4;go_wp2_with fail;refine LL.out.mono ?_;rintro e w' ⟨rfl,rfl⟩;go_wp2_with fail;refine L1.out.mono ?_;rintro e w1 ⟨aL,cL,ls,rfl,hl5,hL,hR,hb⟩;have S1:Hid (JoS w w1 aL am ls ms):=⟨hb,hR,HM.out.to hb,HE.out,hlm,HB.out⟩;have HL:=Oi hL;obtain ⟨h1,h5,hcap⟩:=hl5;have LJ:=Oi (me w1 S1.out.env.tab aL cL ls _ S1.out.L (AR hL h5));have hle:=rG hL h5;have hpo:=My h1;obtain ⟨sT,hT⟩:∃ s,s=bs (bI ls).2:=⟨_,rfl⟩;rw [← hT] at LJ;have hsz:sT.size=(bI ls).2.length:=by rw [hT,aE]
 have HT:=Oi hT;have HZ:=Oi hsz;have z1:sT.size≤16000:=by omega
 have z0:0<sT.size:=by omega
 have zI:(sT.size:Int)≤16000:=by omega
 have zJ:¬ (sT.size:Int)=0:=by omega
 have h5I:(ls.length:Int)≤5:=by omega
 clear LL L1 hL hR hb HM HB HE hT hsz hle hpo;go_wp2_with fail;refine LJ.out.mono ?_;rintro e w2 ⟨rfl,hb⟩;have S2:=Oi (S1.out.to hb);have LA:=Oi (fun (k:Int) (hk:0≤k)=>Kx w2 am cm ms k 256 S2.out.M S2.out.B.1 S2.out.B.2 hk)
 clear LJ hb S1
 go_upto_region 8 with fail
 go_wp2_with fail;refine (LA.out 0 (by omega)).mono ?_
 rintro e w' ⟨x,rfl,hx,rfl⟩;have x0:0≤x:=hx.1;have x1:x≤255:=by omega
 clear hx;go_wp2_with fail;refine (LA.out 1 (by omega)).mono ?_
 rintro e w' ⟨y,rfl,hy,rfl⟩;have y0:0≤y:=hy.1;have y1:y≤255:=by omega
 have zK:¬ (sT.size:Int)+1=0:=by omega
 have zP:(0:Int)≤(sT.size:Int):=Int.natCast_nonneg _;clear hy LA
 go_upto_region 9 with fail
 obtain ⟨n,hn⟩:∃ n:Nat,(n:Int)=(256 * x+y) % ((sT.size:Int)+1):=⟨((256 * x+y) % ((sT.size:Int)+1)).toNat,by rw [Int.toNat_of_nonneg (Int.emod_nonneg _ zK)]⟩;have hn1:n≤sT.size:=by have:=Int.emod_lt_of_pos (256 * x+y) (show (0:Int)<(sT.size:Int)+1 by omega);omega
 rw [← hn];clear hn x0 x1 y0 y1 zK;obtain ⟨m,k,m1,k1,hrc,hjc,hke,hmo⟩:=MW HL.out h5 (n:=n) (by have:=HZ.out;omega)
 have n0:(0:Int)≤(n:Int):=Int.natCast_nonneg _;have nz:(n:Int)≤(sT.size:Int):=by omega
 have hex:sT.extract 0 n=bs ((bI ls).2.take n):=by rw [HT.out,jt,cu,List.drop_zero]
 have hex2:(sT.extract 0 n).data.toList=(bI ls).2.take n:=by rw [hex,cu]
 have LR:=Oi (sh w2 S2.out.env.tab S2.out.env.shp (sT.extract 0 n) (by rw [hex,aE,List.length_take];omega))
 rw [hex2,hrc] at LR;unfold zw at LR;dsimp only at LR;obtain ⟨fw,hfw⟩:∃ q,q=ls.take m:=⟨_,rfl⟩;have hfl:fw.length=m:=by rw [hfw,List.length_take];omega
 rw [← hfw] at LR hjc;have HFW:=Oi hfw;have HFL:=Oi hfl;have HJC:=Oi hjc;have HKE:=Oi hke;have HMO:=Oi hmo;have HEX:=Oi hex;clear hex hex2 hrc hfw hjc hke hmo;go_wp2_with fail;refine LR.out.mono ?_;rintro e w3 ⟨aF,cF,rfl,hrd,hb⟩;have S3:=Oi (S2.out.to hb);have LJ:=Oi (me w3 S3.out.env.tab aF cF fw _ hrd HJC.out);obtain ⟨sO,hO⟩:∃ s,s=bs (((bI ls).2.take n).take k):=⟨_,rfl⟩;rw [← hO] at LJ;have hOe:(sO.toList == (sT.extract 0 k).toList)=true:=by
  have:sO=sT.extract 0 k:=by rw [hO,HT.out,jt,cu,List.drop_zero,List.take_take,Nat.min_eq_left k1]
  rw [this];simp
 have fI:(fw.length:Int)≤(ls.length:Int):=by have:=HFL.out;omega
 have fJ:¬ (ls.length:Int)<(fw.length:Int):=by omega
 have f0:(0:Int)≤(fw.length:Int):=Int.natCast_nonneg _;have kI:(k:Int)≤(n:Int):=by omega
 have kJ:¬ (n:Int)<(k:Int):=by omega
 have k0:(0:Int)≤(k:Int):=Int.natCast_nonneg _;have ks:(k:Int)≤(sT.size:Int):=by omega
 clear LR hrd hb S2 hO hfl;go_wp2_with fail;refine LJ.out.mono ?_;rintro e w4 ⟨rfl,hb⟩;have S4:=Oi (S3.out.to hb);clear LJ hb S3
 go_upto_region 13 with fail
 by_cases hlt:fw.length<ls.length
 · have hltI:(fw.length:Int)<(ls.length:Int):=by omega
   obtain ⟨q,hq,hnq⟩:=HMO.out (by have:=HFL.out;omega)
   rw [← HFL.out] at hq;have hlen:(ls.take (fw.length+1)).length=fw.length+1:=by rw [List.length_take];omega
   have LJ:=me w4 S4.out.env.tab aL cL (ls.take (fw.length+1)) _ (S4.out.L.takeV _) hq;rw [hlen] at LJ;have LJ:=Oi LJ;obtain ⟨sQ,hQ⟩:∃ s,s=bs q:=⟨_,rfl⟩;rw [← hQ] at LJ;have hQs:¬ (sQ.size:Int)≤(n:Int):=by rw [hQ,aE];omega
   have hca:fw.length+1≤cL:=by omega
   have hcaI:(fw.length:Int)+1≤(cL:Int):=by omega
   clear hq hnq hlen hQ;go_wp2_with fail;refine LJ.out.mono ?_;rintro e w5 ⟨rfl,hb⟩;have S5:=Oi (S4.out.to hb);clear LJ hb S4
   go_upto_region 17 with fail
   refine N3 w w5 cL cm n aL am ls ms sT k S5 HL ⟨h1,h5⟩ HT hn1 ⟨k1,fun e=>HKE.out (by have:=HZ.out;omega)⟩ _ ?hk
   case hk=>assumption
 · have hltI:¬ (fw.length:Int)<(ls.length:Int):=by omega
   go_upto_region 17 with fail
   refine N3 w w4 cL cm n aL am ls ms sT k S4 HL ⟨h1,h5⟩ HT hn1 ⟨k1,fun e=>HKE.out (by have:=HZ.out;omega)⟩ _ ?hk
   case hk=>assumption
end Go.Proofs.YtbknhgapjjaelaaGreatDoor
