/-
  Part 47 of what the proof stands on: lemmas and contracts, each with its conditions ahead of the colon.
-/
import Derived.Test.YtbknhgapjjaelaaGreatDoorPk01
import Derived.Deep.RegionHeld3
import Derived.Deep.DeepCutAuto
import Derived.Deep.CutBlock
import Derived.Test.YtbknhgapjjaelaaGreatDoorPk05
import Derived.Test.YtbknhgapjjaelaaGreatDoorPk46
set_option maxRecDepth 100000
set_option maxHeartbeats 32000000
namespace Go.Proofs.YtbknhgapjjaelaaGreatDoor
set_option linter.unusedVariables false
set_option linter.unusedSimpArgs false
open Go.RowKit
theorem M3 (w v0:World) (g gN cL:Nat) (o dn:DD) (x xn:DA) (aL:Option Addr) (ls ts:List (List UInt8)) (sS sW:ByteArray) (S0:Hid (DeS w v0 g gN o dn x xn aL ls)) (HO:Hid (Drawn o)) (HL:Hid (∀ l∈ls,iu l)) (h5:ls.length≤5) (HG:Hid (fd ls o=(dn,ts))) (HS:Hid (sS=bs (bP ls))) (HT:Hid (sW=bs (bP ts))) (K:Act→World→Prop) (hK:∀ (a:Act) (v:World),Code.wp Tryz.prog (((Tryz.f3).body.bind (px 22)).getD .skip) (bodyPost Tryz.prog Tryz.f3 fun e w'=>e=.returned (.bool true)∧Below w.heap.size w w') a v→K a v)
 {z0 z1 z2 z3 z4 z11 z12 z13 z14 z15 z16 z17 z18 z19 z20 z21 z22 z23 z24 z25 z26 z27 z28 z29 z30 z31 z32 z33 z34 z35 z36 z37 z38 z39 z40 z41 z42 z43 z44 z45 z46 z47 z48 z49 z50 z51 z52 z53 z54 z55 z56 z57 z58 z59 z60 z61 z62 z63 z64 z65 z66 z67 z68 z69 z70 z71 z72 z73 z74 z75 z76 z77 z78 z79 z80 z81 z82 z83 z84 z85 z86 z87 z88 z89 z90 z91 z92 z93 z94 z95 z96 z97 z98 z99 z100 z101 z102 z103 z104 z105 z106 z107 z108 z109 z110 z111 z112 z113 z114 z115 z116 z117 z118 z119 z120 z121 z122 z123 z124 z125 z126 z127 z128 z129 z130 z131 z132 z133 z134 z135 z136 z137 z138 z139 z140 z141 z142 z143 z144 z145 z146 z147 z148 z149 z150 z151 z152 z153 z154 z155 z156 z157 z158 z159 z160 z161 z162 z163 z164 z165 z166 z167 z168 z169 z170 z171 z172 z173 z174 z175 z176 z177 z178 z179 z180 z181 z182 z183 z184 z185 z186 z187 z188 z189 z190 z191 z192 z193 z194 z195 z196 z197 z198 z199 z200 z201 z202 z203 z204 z205 z206 z207 z208:Value} :
 Code.wp Tryz.prog (((Tryz.f3).body.bind (yM 22)).getD .skip) (Exit.then K (bodyPost Tryz.prog Tryz.f3 fun e w'=>e=.returned (.bool true)∧Below w.heap.size w w')) ⟨#[z0,z1,z2,z3,z4,.pointer (some ⟨g,0,none⟩),.slice aL ls.length cL,.pointer (some ⟨gN,0,none⟩),.string sS,.string sW,.int .i64 (fY ts ls.length:Nat),z11,z12,z13,z14,z15,z16,z17,z18,z19,z20,z21,z22,z23,z24,z25,z26,z27,z28,z29,z30,z31,z32,z33,z34,z35,z36,z37,z38,z39,z40,z41,z42,z43,z44,z45,z46,z47,z48,z49,z50,z51,z52,z53,z54,z55,z56,z57,z58,z59,z60,z61,z62,z63,z64,z65,z66,z67,z68,z69,z70,z71,z72,z73,z74,z75,z76,z77,z78,z79,z80,z81,z82,z83,z84,z85,z86,z87,z88,z89,z90,z91,z92,z93,z94,z95,z96,z97,z98,z99,z100,z101,z102,z103,z104,z105,z106,z107,z108,z109,z110,z111,z112,z113,z114,z115,z116,z117,z118,z119,z120,z121,z122,z123,z124,z125,z126,z127,z128,z129,z130,z131,z132,z133,z134,z135,z136,z137,z138,z139,z140,z141,z142,z143,z144,z145,z146,z147,z148,z149,z150,z151,z152,z153,z154,z155,z156,z157,z158,z159,z160,z161,z162,z163,z164,z165,z166,z167,z168,z169,z170,z171,z172,z173,z174,z175,z176,z177,z178,z179,z180,z181,z182,z183,z184,z185,z186,z187,z188,z189,z190,z191,z192,z193,z194,z195,z196,z197,z198,z199,z200,z201,z202,z203,z204,z205,z206,z207,z208],[]⟩ v0:=by
 obtain ⟨cr,hcr⟩:∃ c,c=(((Tryz.f3).body.bind (px 22)).getD .skip):=⟨_,rfl⟩;rw [← hcr] at hK
 conv at hcr=>rhs;whnf
 subst hcr
 conv=>arg 2;whnf
 have hk:=HO.out.ok;obtain ⟨o1,o2,o3⟩:=Au HL.out hk;obtain ⟨c1,c2⟩:=tF HL.out h5 hk;obtain ⟨p1,p2,p3⟩:=sc HL.out h5;have hrun:=I8 ls o;rw [HG.out] at o1 o2 o3 c1 c2 hrun;dsimp only at o1 o2 o3 c1 c2 hrun;have hzl:sS.data.toList=bP ls:=by rw [HS.out];exact cP _
 have hwl:sW.data.toList=bP ts:=by rw [HT.out];exact cP _
 have LR:=Na (BP v0 o x sS (jC ls) S0.out.env hk S0.out.rd (by rw [HS.out,aI];exact p3) (by rw [hzl];exact p2) (by rw [hzl,DB];exact p1) (fun p hp=>by unfold jC at hp;obtain ⟨l,hl,rfl⟩:=List.mem_map.1 hp;exact (ul (by have:=(HL.out l hl).1;omega)).1) (fun p hp=>by unfold jC at hp;obtain ⟨l,hl,rfl⟩:=List.mem_map.1 hp;exact (ul (by have:=(HL.out l hl).1;omega)).2))
 rw [hrun] at LR;dsimp only at LR;rw [← HT.out] at LR;have LC:=Na (fun v hb=>zS v (S0.out.env.shp.to hb) sW (by rw [HT.out,aI];omega))
 rw [hwl,c1] at LC;dsimp only [Option.map_some,Option.getD_some,Option.isSome_some] at LC;have hbn:fY ts ls.length≤ls.length:=by
  unfold fY;have h1:=List.length_filter_le fQ (ts.take ls.length);rw [List.length_take] at h1;omega
 have HOK:=Na o1;generalize fY ts ls.length=nb at *
 obtain ⟨n,hn⟩:∃ n,n=ls.length:=⟨_,rfl⟩;rw [← hn] at LC hbn h5 ⊢;unfold DD.val at LR;obtain ⟨e0,e1,e2,e3,e4,e5,e6,e7,e8,e9,e10,e11⟩:=af S0.out.K;clear o1 o2 o3 c1 c2 p1 p2 p3 hrun hzl hwl hk HL HG HS HT hn;go_wp2_with fail;refine LR.out.mono ?_;rintro e v2 ⟨y,rfl,hO,hb⟩;have hrd:=hO.rd S0.out.M.f;have S2:=S0.out.to hb;obtain ⟨v3,hv3⟩:∃ X,X=v2.alloc (.cells #[.int .i64 dn.R,.int .i64 dn.C,.slice y.a dn.A.length y.ca,.slice y.b dn.B.length y.cb,.int .i64 dn.P,.int .i64 dn.T,.slice y.v dn.V.length y.cv,.int .i64 dn.U,.int .i64 dn.N,.slice y.w dn.W.length y.cw,.slice y.k dn.K.length y.ck,.slice y.f dn.F.length y.cf] 33):=⟨_,rfl⟩;have hb3:Below v2.heap.size v2 v3:=by rw [hv3];exact ah _ _
 have KE:Hid (Blk v3 v2.heap.size (dn.cells y) 33):=by rw [hv3];exact Blk.new v2 _ _
 have B3:=Na (aa hb hb3);have S3:=Na (S2.to hb3);have D3:=Na (hrd.to hb3);clear LR hO hb hrd S2 hb3 e0 e1 e2 e3 e4 e5 e6 e7 e8 e9 e10 e11
 go_upto_region 23 with fail
 rw [← hv3];clear hv3;go_wp2_with fail;refine (LC.out v3 B3.out).mono ?_;rintro e v4 ⟨rfl,hb⟩;have S4:=Na (S3.out.to hb);have K4:=Na (KE.out.same hb);have D4:=Na (D3.out.to hb);clear LC hb S3 KE D3 B3
 go_upto_region 24 with fail
 refine M4 w v4 g gN _ n nb cL o dn x xn y aL sW S4.out.W HO HOK hbn h5 S4.out.K S4.out.rd S4.out.N S4.out.M K4 D4 S4.out.env _ ?hk
 case hk=>assumption
theorem EJ {ls:List (List UInt8)} (hl:∀ l∈ls,iu l) (h5:ls.length≤5) (k:Nat):(bP (ls.take k)).length≤16000 :=
 (sc (ls:=ls.take k) (fun l h=>hl l (List.mem_of_mem_take h)) (by rw [List.length_take];omega)).2.2
theorem GA {ls:List (List UInt8)} (hl:∀ l∈ls,iu l) (h5:ls.length≤5) {d:DD} (h:d.ok=true) (k:Nat):(bP (fd (ls.take k) d).2).length≤16000 :=
 (tF (ls:=ls.take k) (fun l h=>hl l (List.mem_of_mem_take h)) (by rw [List.length_take];omega) h).2
theorem EN {ls:List (List UInt8)} {k:Nat} {l:List UInt8} (h:ls[k]? = some l):bP (ls.take (k+1))=bP (ls.take k) ++ (l ++ [10]):=by
 rw [List.take_add_one,h];exact kD _ _
theorem I3 (w:World) (hE:Env w) (ac am:Option Addr) (cc cm:Nat) (cs ms:List Int) (hc:Rd w w.heap.size ac (ki cs)) (hm:Rd w w.heap.size am (ki ms)) (lc:cs.length≤9223372036854775807) (lm:ms.length≤9223372036854775807) (bc:∀ x∈cs,0≤x∧x≤255) (bm:∀ x∈ms,0≤x∧x≤255) :
 Calls Tryz.prog 3 #[.slice ac cs.length cc,.slice am ms.length cm] w fun e w'=>e=.returned (.bool true)∧Below w.heap.size w w':=by
 have LL:=Na (Ek w ac am cc cm cs ms lc lm)
 cases hlong:qu cs ms with
 | true =>
   rw [hlong] at LL;clear hlong hc hm bc bm hE
   go_enter Tryz.func3,Tryz.ntmps3;go_wp2_with fail;refine LL.out.mono ?_;rintro e w' ⟨rfl,rfl⟩;go_wp2_with fail;go_ret;exact ⟨rfl,Below.refl _ _⟩
 | false =>
 rw [hlong] at LL;have hlc:cs.length≤1048576∧ms.length≤1048576:=by
  simp only [qu,Bool.or_eq_false_iff,decide_eq_false_iff_not] at hlong;omega
 obtain ⟨hlc,hlm⟩:=hlc;have LD:=Na (Es w ac cc cs hc bc hlc);have HM:=Na hm;have HB:=Na bm;have HE:=Na hE;clear hlong hc hm bc bm lc lm hE
 go_enter Tryz.func3,Tryz.ntmps3;go_wp2_with fail;refine LL.out.mono ?_;rintro e w' ⟨rfl,rfl⟩;go_wp2_with fail;refine LD.out.mono ?_;rintro e w1 ⟨o,x,rfl,⟨hO,hca⟩,hD,hb⟩;obtain ⟨w2,hw2⟩:∃ X,X=w1.alloc (.cells #[.int .i64 o.R,.int .i64 o.C,.slice x.a o.A.length x.ca,.slice x.b o.B.length x.cb,.int .i64 o.P,.int .i64 o.T,.slice x.v o.V.length x.cv,.int .i64 o.U,.int .i64 o.N,.slice x.w o.W.length x.cw,.slice x.k o.K.length x.ck,.slice x.f o.F.length x.cf] 33):=⟨_,rfl⟩;have hb2:Below w1.heap.size w1 w2:=by rw [hw2];exact ah _ _
 have KD:Hid (Blk w2 w1.heap.size (o.cells x) 33):=by rw [hw2];exact Blk.new w1 _ _
 have B2:=Na (aa hb hb2);have D2:=Na (hD.to hb2);have M2:=Na (HM.out.to B2.out);have HO:=Na hO;have hg1:w.heap.size≤w1.heap.size:=hb.size;unfold DD.val;clear LL LD hD hb hb2 HM hO hca
 go_upto_region 4 with fail
 rw [← hw2];clear hw2;obtain ⟨g,hg⟩:∃ k,k=w1.heap.size:=⟨_,rfl⟩;rw [← hg] at KD hg1 ⊢;clear hg;have L1:=Na (BU w2 am cm ms M2.out HB.out hlm);go_wp2_with fail;refine L1.out.mono ?_;rintro e w3 ⟨aL,cL,ls,rfl,hl5,hL,hR,hb⟩;have B3:=Na (aa B2.out hb);have K3:=Na (KD.out.same hb);have D3:=Na (D2.out.to hb);have R3:=Na hR;have HL:=Na hL;have h5:ls.length≤5:=hl5.2.1;clear L1 hL hR hb KD D2 M2 B2 HB hl5;obtain ⟨w4,hw4⟩:∃ X,X=w3.alloc (.cells #[.int .i64 o.R,.int .i64 o.C,.slice x.a o.A.length x.ca,.slice x.b o.B.length x.cb,.int .i64 o.P,.int .i64 o.T,.slice x.v o.V.length x.cv,.int .i64 o.U,.int .i64 o.N,.slice x.w o.W.length x.cw,.slice x.k o.K.length x.ck,.slice x.f o.F.length x.cf] 33):=⟨_,rfl⟩;have hb4:Below w3.heap.size w3 w4:=by rw [hw4];exact ah _ _
 have S4:Hid (DeS w w4 g w3.heap.size o o x x aL ls):=by
  refine ⟨aa B3.out hb4,K3.out.same hb4,D3.out.below hb4 (Nat.le_refl _),by rw [hw4];exact Blk.new w3 _ _,D3.out.to hb4,R3.out.below hb4 (Nat.le_refl _),HE.out,⟨hg1,K3.out.lt⟩⟩
 obtain ⟨e0,e1,e2,e3,e4,e5,e6,e7,e8,e9,e10,e11⟩:=af K3.out;clear hb4 B3 D3 R3 HE
 go_upto_region 6 with fail
 rw [← hw4];clear hw4 e0 e1 e2 e3 e4 e5 e6 e7 e8 e9 e10 e11;obtain ⟨gN,hgN⟩:∃ k,k=w3.heap.size:=⟨_,rfl⟩;rw [← hgN] at S4 ⊢;clear hgN K3
 go_upto_region 10 with fail
 go_loopw [8,9,10,11] (fun sv wv bv iv wr=>∃ (k:Nat) (xk:DA),k≤ls.length∧sv=.string (bs (bP (ls.take k)))∧wv=.string (bs (bP (fd (ls.take k) o).2))∧bv=.int .i64 (fY (fd (ls.take k) o).2 k:Nat)∧iv=.int .i64 k∧Hid (DeS w wr g gN o (fd (ls.take k) o).1 x xk aL ls)) (fun _ _ _ iv _=>ls.length - (intOf iv).toNat)
 case atStart=>exact ⟨0,x,Nat.zero_le _,rfl,rfl,rfl,rfl,S4.out⟩
 case round =>
  clear S4;obtain ⟨k,xk,hk,rfl,rfl,rfl,rfl,S⟩:=hrel;have k0:(0:Int)≤(k:Int):=Int.natCast_nonneg _;have k5:(k:Int)≤5:=by omega
  by_cases hlt:k<ls.length
  · have hki:(k:Int)<(ls.length:Int):=by omega
    obtain ⟨bL,oL,l,ha,hb,hcl,hlq⟩:=iq S.out.lines hlt;subst ha;have hlm:iu l:=HL.out l (List.mem_of_getElem? hlq.out);have HG:=Na (uu hlq.out o);have HS:=Na (EN hlq.out);obtain ⟨ok1,ol1,-⟩:=Au (ls:=ls.take k) (fun y h=>HL.out y (List.mem_of_mem_take h)) HO.out.ok
    have ol1:(fd (ls.take k) o).2.length=k:=by rw [ol1,List.length_take];omega
    have z1:(bs (bP (ls.take k))).size≤16000:=by rw [aI];exact EJ HL.out h5 k
    have z2:(bs (bP (fd (ls.take k) o).2)).size≤16000:=by rw [aI];exact GA HL.out h5 HO.out.ok k
    have z3:(bs l).size≤1800:=by rw [aI];exact hlm.1
    obtain ⟨f1,f2⟩:=Af (l:=l) (by have:=hlm.1;omega) ok1
    have HBd:=Na (fun h=>Jj (l:=l) (d:=(fd (ls.take k) o).1) h)
    have LC:=Na (fun (v:World) (hb:Below wr.heap.size wr v)=>uX v (fd (ls.take k) o).1 xk l (fz l) (S.out.env.to hb) ok1 (S.out.M.to hb) (ul (by have:=hlm.1;omega)).1 f1)
    obtain ⟨st,hst⟩:∃ st,st=fd (ls.take k) o:=⟨_,rfl⟩;rw [← hst] at S HG ol1 z2 f1 f2 ok1 HBd LC ⊢;obtain ⟨dk,ts⟩:=st;dsimp only at S HG ol1 z2 f1 f2 ok1 HBd LC ⊢;have HBn:=Na (GU ts (fz l dk).2);rw [ol1] at HBn;have hbk:fY ts k≤k:=by
     unfold fY;have h1:=List.length_filter_le fQ (ts.take k);rw [List.length_take] at h1;omega
    obtain ⟨rs,hrs⟩:∃ rs,rs=fz l dk:=⟨_,rfl⟩;rw [← hrs] at HG f1 f2 HBd LC HBn;obtain ⟨dn,t⟩:=rs;dsimp only at HG f1 f2 HBd LC HBn;have z4:(bs t).size≤2900:=by rw [aI];exact f2
    generalize hnb:fY ts k=nb at *
    have n1:¬ 9223372036854775807<(bs l).size+1:=by omega
    have n2:¬ 9223372036854775807<(bs (bP (ls.take k))).size+((bs l).size+1):=by omega
    have n3:¬ 9223372036854775807<(bs t).size+1:=by omega
    have n4:¬ 9223372036854775807<(bs (bP ts)).size+((bs t).size+1):=by omega
    have nb0:(0:Int)≤(nb:Int):=Int.natCast_nonneg _;have nb5:(nb:Int)≤5:=by omega
    have eb:IntKind.i64.wrap ((nb:Int)+1)=(nb:Int)+1:=IntWalk.i64_in _ (by omega)
    have HOK:=Na f1;have HOk:=Na ok1;have OL:=Na ol1;have HN:=Na hnb;have HLQ:=Na hlq;clear hst hrs hlm hb f1 f2 ok1 ol1 hnb hlq;have HD:=Na (au (Below.refl wr.heap.size wr));have HE2:Hid (Below wr.heap.size wr (wr.alloc (.cells #[.int .i64 0,.int .i64 0,.slice none 0 0,.slice none 0 0,.int .i64 0,.int .i64 0,.slice none 0 0,.int .i64 0,.int .i64 0,.slice none 0 0,.slice none 0 0,.slice none 0 0] 33)).drew):=au (ah _ _);have KZ:Hid (Blk (wr.alloc (.cells #[.int .i64 0,.int .i64 0,.slice none 0 0,.slice none 0 0,.int .i64 0,.int .i64 0,.slice none 0 0,.int .i64 0,.int .i64 0,.slice none 0 0,.slice none 0 0,.slice none 0 0] 33)).drew wr.heap.size [.int .i64 0,.int .i64 0,.slice none 0 0,.slice none 0 0,.int .i64 0,.int .i64 0,.slice none 0 0,.int .i64 0,.int .i64 0,.slice none 0 0,.slice none 0 0,.slice none 0 0] 33):=(Blk.new wr [.int .i64 0,.int .i64 0,.slice none 0 0,.slice none 0 0,.int .i64 0,.int .i64 0,.slice none 0 0,.int .i64 0,.int .i64 0,.slice none 0 0,.slice none 0 0,.slice none 0 0] 33).drewN 1;have LC1:=Na (LC.out wr.drew HD.out);have LC2:=Na (LC.out (wr.alloc (.cells #[.int .i64 0,.int .i64 0,.slice none 0 0,.slice none 0 0,.int .i64 0,.int .i64 0,.slice none 0 0,.int .i64 0,.int .i64 0,.slice none 0 0,.slice none 0 0,.slice none 0 0] 33)).drew HE2.out);unfold DD.val at LC1 LC2;have HH:Hid (∀ v,Below wr.heap.size wr v→(v.cell? ⟨gN,0,none⟩=some (.int .i64 dk.R)∧v.cell? ⟨gN,1,none⟩=some (.int .i64 dk.C)∧v.cell? ⟨gN,2,none⟩=some (.slice xk.a dk.A.length xk.ca)∧v.cell? ⟨gN,3,none⟩=some (.slice xk.b dk.B.length xk.cb)∧v.cell? ⟨gN,4,none⟩=some (.int .i64 dk.P)∧v.cell? ⟨gN,5,none⟩=some (.int .i64 dk.T)∧v.cell? ⟨gN,6,none⟩=some (.slice xk.v dk.V.length xk.cv)∧v.cell? ⟨gN,7,none⟩=some (.int .i64 dk.U)∧v.cell? ⟨gN,8,none⟩=some (.int .i64 dk.N)∧v.cell? ⟨gN,9,none⟩=some (.slice xk.w dk.W.length xk.cw)∧v.cell? ⟨gN,10,none⟩=some (.slice xk.k dk.K.length xk.ck)∧v.cell? ⟨gN,11,none⟩=some (.slice xk.f dk.F.length xk.cf)∧v.cell? ⟨bL,oL+k,none⟩=some (.string (bs l)))):=fun v hv=>by
     obtain ⟨e0,e1,e2,e3,e4,e5,e6,e7,e8,e9,e10,e11⟩:=af (S.out.N.same hv);exact ⟨e0,e1,e2,e3,e4,e5,e6,e7,e8,e9,e10,e11,(hv.cell (World.block_lt_of_cell? _ _ hcl)).trans hcl⟩
    obtain ⟨e0,e1,e2,e3,e4,e5,e6,e7,e8,e9,e10,e11,qc⟩:=HH.out wr (Below.refl _ _);clear LC;go_wp2_with fail
    go_region_held3 (fun w'=>w'.cell? ⟨gN,0,none⟩=some (.int .i64 dk.R)∧w'.cell? ⟨gN,1,none⟩=some (.int .i64 dk.C)∧w'.cell? ⟨gN,2,none⟩=some (.slice xk.a dk.A.length xk.ca)∧w'.cell? ⟨gN,3,none⟩=some (.slice xk.b dk.B.length xk.cb)∧w'.cell? ⟨gN,4,none⟩=some (.int .i64 dk.P)∧w'.cell? ⟨gN,5,none⟩=some (.int .i64 dk.T)∧w'.cell? ⟨gN,6,none⟩=some (.slice xk.v dk.V.length xk.cv)∧w'.cell? ⟨gN,7,none⟩=some (.int .i64 dk.U)∧w'.cell? ⟨gN,8,none⟩=some (.int .i64 dk.N)∧w'.cell? ⟨gN,9,none⟩=some (.slice xk.w dk.W.length xk.cw)∧w'.cell? ⟨gN,10,none⟩=some (.slice xk.k dk.K.length xk.ck)∧w'.cell? ⟨gN,11,none⟩=some (.slice xk.f dk.F.length xk.cf)∧w'.cell? ⟨bL,oL+k,none⟩=some (.string (bs l)))
     (first | with_reducible exact HH.out _ HD.out | with_reducible exact HH.out _ HE2.out | with_reducible exact HH.out _ hB1 | with_reducible exact HH.out _ (aa hB1 (ah w6 (.cells #[.int .i64 0,.int .i64 0,.slice none 0 0,.slice none 0 0,.int .i64 0,.int .i64 0,.slice none 0 0,.int .i64 0,.int .i64 0,.slice none 0 0,.slice none 0 0,.slice none 0 0] 33))) | with_reducible exact HH.out _ (aa hB1 (ah w6 (.cells #[.int .i64 dn.R,.int .i64 dn.C,.slice y.a dn.A.length y.ca,.slice y.b dn.B.length y.cb,.int .i64 dn.P,.int .i64 dn.T,.slice y.v dn.V.length y.cv,.int .i64 dn.U,.int .i64 dn.N,.slice y.w dn.W.length y.cw,.slice y.k dn.K.length y.ck,.slice y.f dn.F.length y.cf] 33))) | with_reducible exact HH.out _ (aj (aj (aj (aj (aj (aj (aj (aj (aj (aj (aj (aj hB1 (Nat.le_refl _) _ _) (Nat.le_refl _) _ _) (Nat.le_refl _) _ _) (Nat.le_refl _) _ _) (Nat.le_refl _) _ _) (Nat.le_refl _) _ _) (Nat.le_refl _) _ _) (Nat.le_refl _) _ _) (Nat.le_refl _) _ _) (Nat.le_refl _) _ _) (Nat.le_refl _) _ _) (Nat.le_refl _) _ _))
     (first
       | (go_at_call 8;with_reducible refine LC1.out.mono ?_;rintro e w6 ⟨y,rfl,hO,hM,hb6⟩;have hB1:=aa HD.out hb6)
       | (go_at_call 8;with_reducible refine LC2.out.mono ?_;rintro e w6 ⟨y,rfl,hO,hM,hb6⟩;have hB1:=aa HE2.out hb6;have KO:=KZ.out.same hb6;obtain ⟨z0,z1,z2,z3,z4,z5,z6,z7,z8,z9,z10,z11⟩:=af KO;have y0:=KO.free 0;have y1:=KO.free 1;have y2:=KO.free 2;have y3:=KO.free 3;have y4:=KO.free 4;have y5:=KO.free 5;have y6:=KO.free 6;have y7:=KO.free 7;have y8:=KO.free 8;have y9:=KO.free 9;have y10:=KO.free 10;have y11:=KO.free 11))
    all_goals
     have FF:=Na hM.f
     first
     | (obtain ⟨w7,hw7⟩:∃ X:World,X=w6.alloc (.cells #[.int .i64 dn.R,.int .i64 dn.C,.slice y.a dn.A.length y.ca,.slice y.b dn.B.length y.cb,.int .i64 dn.P,.int .i64 dn.T,.slice y.v dn.V.length y.cv,.int .i64 dn.U,.int .i64 dn.N,.slice y.w dn.W.length y.cw,.slice y.k dn.K.length y.ck,.slice y.f dn.F.length y.cf] 33):=⟨_,rfl⟩
        obtain ⟨gX,hgX⟩:∃ g,g=w6.heap.size:=⟨_,rfl⟩;have KX:Hid (Blk w7 gX (dn.cells y) 33):=by rw [hw7,hgX];exact Blk.new w6 _ _
        have BX:Hid (Below wr.heap.size wr w7):=by rw [hw7];exact aa (aa HD.out hb6) (ah _ _)
        have OX:Hid (∃ lo hi,wr.heap.size≤lo∧hi≤w7.heap.size∧OwnDd w7 lo hi dn y):=by rw [hw7];exact ⟨_,_,HD.out.size,by simp,hO.keep (ah _ _)⟩
        rw [← hw7,← hgX];clear hw7 hgX)
     | (obtain ⟨w7,hw7⟩:∃ X:World,X=((((((((((((w6.setCell ⟨wr.heap.size,0,none⟩ (.int .i64 dn.R)).setCell ⟨wr.heap.size,1,none⟩ (.int .i64 dn.C)).setCell ⟨wr.heap.size,2,none⟩ (.slice y.a dn.A.length y.ca)).setCell ⟨wr.heap.size,3,none⟩ (.slice y.b dn.B.length y.cb)).setCell ⟨wr.heap.size,4,none⟩ (.int .i64 dn.P)).setCell ⟨wr.heap.size,5,none⟩ (.int .i64 dn.T)).setCell ⟨wr.heap.size,6,none⟩ (.slice y.v dn.V.length y.cv)).setCell ⟨wr.heap.size,7,none⟩ (.int .i64 dn.U)).setCell ⟨wr.heap.size,8,none⟩ (.int .i64 dn.N)).setCell ⟨wr.heap.size,9,none⟩ (.slice y.w dn.W.length y.cw)).setCell ⟨wr.heap.size,10,none⟩ (.slice y.k dn.K.length y.ck)).setCell ⟨wr.heap.size,11,none⟩ (.slice y.f dn.F.length y.cf)):=⟨_,rfl⟩
        have hp:fg w6 wr.heap.size (.int .i64 dn.R) (.int .i64 dn.C) (.slice y.a dn.A.length y.ca) (.slice y.b dn.B.length y.cb) (.int .i64 dn.P) (.int .i64 dn.T) (.slice y.v dn.V.length y.cv) (.int .i64 dn.U) (.int .i64 dn.N) (.slice y.w dn.W.length y.cw) (.slice y.k dn.K.length y.ck) (.slice y.f dn.F.length y.cf)=w7:=by rw [hw7];rfl
        have T7:Touch w6 w7 wr.heap.size (wr.heap.size+1):=by rw [← hp];exact et _ _ _ _ _ _ _ _ _ _ _ _ _ _
        obtain ⟨gX,hgX⟩:∃ g,g=wr.heap.size:=⟨_,rfl⟩;have KX:Hid (Blk w7 gX (dn.cells y) 33):=by rw [← hp,hgX];exact fS KO _ _ _ _ _ _ _ _ _ _ _ _
        have BX:Hid (Below wr.heap.size wr w7):=aE (aa HE2.out hb6) T7 (Nat.le_refl _) (by have:=HE2.out.size;have:=hb6.size;omega)
        have OX:Hid (∃ lo hi,wr.heap.size≤lo∧hi≤w7.heap.size∧OwnDd w7 lo hi dn y):=by
         have s7:=T7.size;refine ⟨_,_,HE2.out.size,s7,hO.touch T7 ?_⟩
         simp
        rw [← hw7,← hgX];clear hw7 hgX hp T7 KO z0 z1 z2 z3 z4 z5 z6 z7 z8 z9 z10 z11 y0 y1 y2 y3 y4 y5 y6 y7 y8 y9 y10 y11)
     clear hO hM hb6 hB1 LC1 LC2 HD HE2 KZ HH e0 e1 e2 e3 e4 e5 e6 e7 e8 e9 e10 e11 qc hcl;obtain ⟨lo,hi,hlo,hhi,hOX⟩:=OX.out;have S7:=Na (S.out.to BX.out);have OX:=Na hOX;have LV:=Na (Cf w7 dn y ((OX.out.rd FF.out).mono hhi) (dO HOK.out));rw [HOK.out] at LV;unfold DD.val at LV;obtain ⟨x0,x1,x2,x3,x4,x5,x6,x7,x8,x9,x10,x11⟩:=af KX.out;clear hOX;go_wp2_with fail;refine LV.out.mono ?_;rintro e w8 ⟨rfl,hb8⟩;have S8:=Na (S7.out.to hb8);have K8:=Na (KX.out.same hb8);have O8:=Na (OX.out.keep hb8);have B8:=Na (aa BX.out hb8);have hi8:hi≤w8.heap.size:=Nat.le_trans hhi hb8.size;clear LV hb8 S7 KX OX BX hhi x0 x1 x2 x3 x4 x5 x6 x7 x8 x9 x10 x11;have b1:=uJ t [110,111];have b2:=uJ t [119,104,97,116];have HB:Hid (fQ t=(decide (t=[110,111]) || decide (t=[119,104,97,116]))):=rfl
     obtain ⟨x0,x1,x2,x3,x4,x5,x6,x7,x8,x9,x10,x11⟩:=af K8.out;obtain ⟨e0,e1,e2,e3,e4,e5,e6,e7,e8,e9,e10,e11⟩:=af S8.out.N
     cases t1:decide (t=[110,111]) with
     | true =>
       rw [t1] at b1 HB;rw [Bool.true_or] at HB;have hbad:dn=dk:=HBd.out HB.out;rw [HB.out] at HBn;have LS:=Na (mS w8 dn dk y xk ((O8.out.rd FF.out).mono hi8) S8.out.M (dO HOK.out) (dO HOk.out));rw [show rt dn dk=true from by rw [hbad];exact md dk] at LS
       unfold DD.val at LS;clear hbad;go_wp2_with fail;refine LS.out.mono ?_;rintro e w9 ⟨rfl,hb9⟩;have S9:=Na (S8.out.to hb9);have K9:=Na (K8.out.same hb9);have O9:=Na (O8.out.keep hb9);have B9:=Na (aa B8.out hb9);have hi9:hi≤w9.heap.size:=Nat.le_trans hi8 hb9.size;clear LS hb9 S8 K8 O8 B8 x0 x1 x2 x3 x4 x5 x6 x7 x8 x9 x10 x11 e0 e1 e2 e3 e4 e5 e6 e7 e8 e9 e10 e11;obtain ⟨x0,x1,x2,x3,x4,x5,x6,x7,x8,x9,x10,x11⟩:=af K9.out;obtain ⟨e0,e1,e2,e3,e4,e5,e6,e7,e8,e9,e10,e11⟩:=af S9.out.N;have f0:=S9.out.N.free 0;have f1:=S9.out.N.free 1;have f2:=S9.out.N.free 2;have f3:=S9.out.N.free 3;have f4:=S9.out.N.free 4;have f5:=S9.out.N.free 5;have f6:=S9.out.N.free 6;have f7:=S9.out.N.free 7;have f8:=S9.out.N.free 8;have f9:=S9.out.N.free 9;have f10:=S9.out.N.free 10;have f11:=S9.out.N.free 11
       go_upto_region 20 with fail
       obtain ⟨wz,hwz⟩:∃ X:World,X=((((((((((((w9.setCell ⟨gN,0,none⟩ (.int .i64 dn.R)).setCell ⟨gN,1,none⟩ (.int .i64 dn.C)).setCell ⟨gN,2,none⟩ (.slice y.a dn.A.length y.ca)).setCell ⟨gN,3,none⟩ (.slice y.b dn.B.length y.cb)).setCell ⟨gN,4,none⟩ (.int .i64 dn.P)).setCell ⟨gN,5,none⟩ (.int .i64 dn.T)).setCell ⟨gN,6,none⟩ (.slice y.v dn.V.length y.cv)).setCell ⟨gN,7,none⟩ (.int .i64 dn.U)).setCell ⟨gN,8,none⟩ (.int .i64 dn.N)).setCell ⟨gN,9,none⟩ (.slice y.w dn.W.length y.cw)).setCell ⟨gN,10,none⟩ (.slice y.k dn.K.length y.ck)).setCell ⟨gN,11,none⟩ (.slice y.f dn.F.length y.cf)):=⟨_,rfl⟩;have hp:fg w9 gN (.int .i64 dn.R) (.int .i64 dn.C) (.slice y.a dn.A.length y.ca) (.slice y.b dn.B.length y.cb) (.int .i64 dn.P) (.int .i64 dn.T) (.slice y.v dn.V.length y.cv) (.int .i64 dn.U) (.int .i64 dn.N) (.slice y.w dn.W.length y.cw) (.slice y.k dn.K.length y.ck) (.slice y.f dn.F.length y.cf)=wz:=by rw [hwz];rfl
       have SZ:=Na (S.out.step B9.out O9.out hlo hi9 FF.out hp);rw [← hwz];obtain ⟨bM,oM,l',ha,hbM,hcM,hlM⟩:=iq SZ.out.lines hlt;injection ha with ha
       injection ha with ha1 ha2
       subst ha1 ha2;obtain rfl:l=l':=by have e1:=HLQ.out;have e2:=hlM.out;rw [e1] at e2;injection e2
       clear hwz hp x0 x1 x2 x3 x4 x5 x6 x7 x8 x9 x10 x11 e0 e1 e2 e3 e4 e5 e6 e7 e8 e9 e10 e11 f0 f1 f2 f3 f4 f5 f6 f7 f8 f9 f10 f11 hbM hlM S9 K9 O9 B9;go_wp2_with fail;go_roundw
       case rel=>exact ⟨k+1,y,by omega,by rw [HS.out,← bG,← bG];rfl,by rw [HG.out];dsimp only;rw [kD,← bG,← bG];rfl,by rw [HG.out];dsimp only;rw [HBn.out];go_num,by go_num,by rw [HG.out];exact SZ.out⟩
       case measure=>first | (simp [intOf];done) | (simp [intOf];omega)
     | false =>
       rw [t1] at b1 HB
       cases t2:decide (t=[119,104,97,116]) with
       | true =>
         rw [t2] at b2 HB;rw [Bool.or_true] at HB;have hbad:dn=dk:=HBd.out HB.out;rw [HB.out] at HBn;have LS:=Na (mS w8 dn dk y xk ((O8.out.rd FF.out).mono hi8) S8.out.M (dO HOK.out) (dO HOk.out));rw [show rt dn dk=true from by rw [hbad];exact md dk] at LS
         unfold DD.val at LS;clear hbad;go_wp2_with fail;refine LS.out.mono ?_;rintro e w9 ⟨rfl,hb9⟩;have S9:=Na (S8.out.to hb9);have K9:=Na (K8.out.same hb9);have O9:=Na (O8.out.keep hb9);have B9:=Na (aa B8.out hb9);have hi9:hi≤w9.heap.size:=Nat.le_trans hi8 hb9.size;clear LS hb9 S8 K8 O8 B8 x0 x1 x2 x3 x4 x5 x6 x7 x8 x9 x10 x11 e0 e1 e2 e3 e4 e5 e6 e7 e8 e9 e10 e11;obtain ⟨x0,x1,x2,x3,x4,x5,x6,x7,x8,x9,x10,x11⟩:=af K9.out;obtain ⟨e0,e1,e2,e3,e4,e5,e6,e7,e8,e9,e10,e11⟩:=af S9.out.N;have f0:=S9.out.N.free 0;have f1:=S9.out.N.free 1;have f2:=S9.out.N.free 2;have f3:=S9.out.N.free 3;have f4:=S9.out.N.free 4;have f5:=S9.out.N.free 5;have f6:=S9.out.N.free 6;have f7:=S9.out.N.free 7;have f8:=S9.out.N.free 8;have f9:=S9.out.N.free 9;have f10:=S9.out.N.free 10;have f11:=S9.out.N.free 11
         go_upto_region 20 with fail
         obtain ⟨wz,hwz⟩:∃ X:World,X=((((((((((((w9.setCell ⟨gN,0,none⟩ (.int .i64 dn.R)).setCell ⟨gN,1,none⟩ (.int .i64 dn.C)).setCell ⟨gN,2,none⟩ (.slice y.a dn.A.length y.ca)).setCell ⟨gN,3,none⟩ (.slice y.b dn.B.length y.cb)).setCell ⟨gN,4,none⟩ (.int .i64 dn.P)).setCell ⟨gN,5,none⟩ (.int .i64 dn.T)).setCell ⟨gN,6,none⟩ (.slice y.v dn.V.length y.cv)).setCell ⟨gN,7,none⟩ (.int .i64 dn.U)).setCell ⟨gN,8,none⟩ (.int .i64 dn.N)).setCell ⟨gN,9,none⟩ (.slice y.w dn.W.length y.cw)).setCell ⟨gN,10,none⟩ (.slice y.k dn.K.length y.ck)).setCell ⟨gN,11,none⟩ (.slice y.f dn.F.length y.cf)):=⟨_,rfl⟩;have hp:fg w9 gN (.int .i64 dn.R) (.int .i64 dn.C) (.slice y.a dn.A.length y.ca) (.slice y.b dn.B.length y.cb) (.int .i64 dn.P) (.int .i64 dn.T) (.slice y.v dn.V.length y.cv) (.int .i64 dn.U) (.int .i64 dn.N) (.slice y.w dn.W.length y.cw) (.slice y.k dn.K.length y.ck) (.slice y.f dn.F.length y.cf)=wz:=by rw [hwz];rfl
         have SZ:=Na (S.out.step B9.out O9.out hlo hi9 FF.out hp);rw [← hwz];obtain ⟨bM,oM,l',ha,hbM,hcM,hlM⟩:=iq SZ.out.lines hlt;injection ha with ha
         injection ha with ha1 ha2
         subst ha1 ha2;obtain rfl:l=l':=by have e1:=HLQ.out;have e2:=hlM.out;rw [e1] at e2;injection e2
         clear hwz hp x0 x1 x2 x3 x4 x5 x6 x7 x8 x9 x10 x11 e0 e1 e2 e3 e4 e5 e6 e7 e8 e9 e10 e11 f0 f1 f2 f3 f4 f5 f6 f7 f8 f9 f10 f11 hbM hlM S9 K9 O9 B9;go_wp2_with fail;go_roundw
         case rel=>exact ⟨k+1,y,by omega,by rw [HS.out,← bG,← bG];rfl,by rw [HG.out];dsimp only;rw [kD,← bG,← bG];rfl,by rw [HG.out];dsimp only;rw [HBn.out];go_num,by go_num,by rw [HG.out];exact SZ.out⟩
         case measure=>first | (simp [intOf];done) | (simp [intOf];omega)
       | false =>
         rw [t2] at b2 HB;rw [Bool.or_false] at HB;rw [HB.out] at HBn;have S9:=S8;have K9:=K8;have O9:=O8;have B9:=B8;have hi9:=hi8;clear S8 K8 O8 B8;have f0:=S9.out.N.free 0;have f1:=S9.out.N.free 1;have f2:=S9.out.N.free 2;have f3:=S9.out.N.free 3;have f4:=S9.out.N.free 4;have f5:=S9.out.N.free 5;have f6:=S9.out.N.free 6;have f7:=S9.out.N.free 7;have f8:=S9.out.N.free 8;have f9:=S9.out.N.free 9;have f10:=S9.out.N.free 10;have f11:=S9.out.N.free 11
         go_upto_region 20 with fail
         obtain ⟨wz,hwz⟩:∃ X:World,X=((((((((((((w8.setCell ⟨gN,0,none⟩ (.int .i64 dn.R)).setCell ⟨gN,1,none⟩ (.int .i64 dn.C)).setCell ⟨gN,2,none⟩ (.slice y.a dn.A.length y.ca)).setCell ⟨gN,3,none⟩ (.slice y.b dn.B.length y.cb)).setCell ⟨gN,4,none⟩ (.int .i64 dn.P)).setCell ⟨gN,5,none⟩ (.int .i64 dn.T)).setCell ⟨gN,6,none⟩ (.slice y.v dn.V.length y.cv)).setCell ⟨gN,7,none⟩ (.int .i64 dn.U)).setCell ⟨gN,8,none⟩ (.int .i64 dn.N)).setCell ⟨gN,9,none⟩ (.slice y.w dn.W.length y.cw)).setCell ⟨gN,10,none⟩ (.slice y.k dn.K.length y.ck)).setCell ⟨gN,11,none⟩ (.slice y.f dn.F.length y.cf)):=⟨_,rfl⟩;have hp:fg w8 gN (.int .i64 dn.R) (.int .i64 dn.C) (.slice y.a dn.A.length y.ca) (.slice y.b dn.B.length y.cb) (.int .i64 dn.P) (.int .i64 dn.T) (.slice y.v dn.V.length y.cv) (.int .i64 dn.U) (.int .i64 dn.N) (.slice y.w dn.W.length y.cw) (.slice y.k dn.K.length y.ck) (.slice y.f dn.F.length y.cf)=wz:=by rw [hwz];rfl
         have SZ:=Na (S.out.step B9.out O9.out hlo hi9 FF.out hp);rw [← hwz];obtain ⟨bM,oM,l',ha,hbM,hcM,hlM⟩:=iq SZ.out.lines hlt;injection ha with ha
         injection ha with ha1 ha2
         subst ha1 ha2;obtain rfl:l=l':=by have e1:=HLQ.out;have e2:=hlM.out;rw [e1] at e2;injection e2
         clear hwz hp x0 x1 x2 x3 x4 x5 x6 x7 x8 x9 x10 x11 e0 e1 e2 e3 e4 e5 e6 e7 e8 e9 e10 e11 f0 f1 f2 f3 f4 f5 f6 f7 f8 f9 f10 f11 hbM hlM S9 K9 O9 B9;go_wp2_with fail;go_roundw
         case rel=>exact ⟨k+1,y,by omega,by rw [HS.out,← bG,← bG];rfl,by rw [HG.out];dsimp only;rw [kD,← bG,← bG];rfl,by rw [HG.out];dsimp only;rw [HBn.out];go_num,by go_num,by rw [HG.out];exact SZ.out⟩
         case measure=>first | (simp [intOf];done) | (simp [intOf];omega)
  · obtain rfl:k=ls.length:=by omega
    rw [List.take_length] at S ⊢;obtain ⟨st,hst⟩:∃ st,st=fd ls o:=⟨_,rfl⟩;rw [← hst] at S ⊢;have HG:=Na hst.symm;obtain ⟨dn,ts⟩:=st;dsimp only at S ⊢;clear hst
    go_upto_region 22 with fail
    refine M3 w wr g gN cL o dn x xk aL ls ts _ _ S HO HL h5 HG rfl rfl _ ?hk
    case hk=>assumption
end Go.Proofs.YtbknhgapjjaelaaGreatDoor
