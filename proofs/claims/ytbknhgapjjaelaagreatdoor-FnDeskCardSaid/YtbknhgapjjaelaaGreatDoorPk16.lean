/-
  Part 16 of what the proof stands on: lemmas and contracts, each with its conditions ahead of the colon.
-/
import Derived.Test.YtbknhgapjjaelaaGreatDoorPk01
import Derived.Deep.LoopGhost
import Derived.Test.YtbknhgapjjaelaaGreatDoorPk07
import Derived.Test.YtbknhgapjjaelaaGreatDoorPk08
import Derived.Test.YtbknhgapjjaelaaGreatDoorPk15
set_option maxRecDepth 10000
set_option maxHeartbeats 8000000
namespace Go.Proofs.YtbknhgapjjaelaaGreatDoor
set_option linter.unusedVariables false
set_option linter.unusedSimpArgs false
open Go.RowKit
theorem xw (w:World) (a1:Option Addr) (c1:Nat) (xs:List Int) (a2:Option Addr) (c2:Nat) (ps:List Int) (h1:Rd w w.heap.size a1 (ae xs)) (h2:Rd w w.heap.size a2 (ae ps)) (hn:xs.length≤64) (hp:ps.length≤64) :
 Calls Tryz.prog 172 #[.slice a1 xs.length c1,.slice a2 ps.length c2] w fun e w'=>∃ a' c',e=.returned (.slice a' (eF xs ps xs.length).length c')∧Rd w' w'.heap.size a' (ae (eF xs ps xs.length))∧Below w.heap.size w w':=by
 have HO:=Na (bD w 2);have HB0:=Na (ah w (.cells #[] 2));have R1:=Na h1;have LC:=Na (fun (v:World) (hb:Below w.heap.size w v) (x:Int)=>ga v a2 c2 ps x (h2.to hb) (by omega))
 have HS:=Na (fun n=>tH xs ps n)
 have HL:=Na (fun n=>nh xs ps n)
 have h0:Hid (eF xs ps 0=[]):=rfl;clear h1 h2
 go_enter Tryz.func172,Tryz.ntmps172;go_wp2_with fail
 go_loopw [11,5] (fun iv ov wr=>∃ (i:Nat) (v:Value),i≤xs.length∧iv=.int .i64 i∧ov=v∧Hid (wr.ownsRow w.heap.size 2 1 v (eF xs ps i).length (ae (eF xs ps i)))∧Hid (Below w.heap.size w wr)) (fun iv _ _=>xs.length - (intOf iv).toNat)
 case atStart=>exact ⟨0,_,Nat.zero_le _,rfl,rfl,(by rw [h0.out];exact HO.out),HB0.out⟩
 case round =>
  clear HO HB0;obtain ⟨i,v,hi,rfl,rfl,ho,hw⟩:=hrel;have i0:(0:Int)≤(i:Int):=Int.natCast_nonneg _
  by_cases hlt:i<xs.length
  · have hii:(i:Int)<(xs.length:Int):=by omega
    obtain ⟨b,o,x,rfl,hbb,hck,hx⟩:=(R1.out.to hw.out).get hlt;have hs:=HS.out i;have hln:=HL.out i;have hgx:xs.getD i 0=x:=bZ hx.out;rw [hgx] at hs;have HSS:=Na hs;have LC1:=Na (LC.out wr hw.out (i:Int));have hsz:=hw.out.size;clear hs hgx hx R1 LC
    cases tc:bF ps (i:Int) with
    | true =>
      rw [tc] at LC1 HSS;rw [if_pos rfl] at HSS;go_wp2_with fail;refine LC1.out.mono ?_;rintro e w2 ⟨rfl,rfl⟩;go_wp2_with fail;go_roundw
      case rel=>exact ⟨i+1,_,by omega,by go_num,rfl,(by rw [Hid,HSS.out];exact ho.out),hw⟩
      case measure=>simp [intOf];omega
    | false =>
      rw [tc] at LC1 HSS;rw [if_neg (by decide)] at HSS
      go_wp2_with fail;refine LC1.out.mono ?_;rintro e w2 ⟨rfl,rfl⟩
      go_wp2_with (at_builtin;refine aP _ rfl _ _ 24 rfl w.heap.size 2 (.int .i64 0) 8 Tryz.underlying24 aU rfl _ _ _ rfl ho.out (.int .i64 x) rfl rfl (by omega) (by omega) hsz ?_)
      intro v8 w8 o8 g8 n8;have H8:Hid (w8.ownsRow w.heap.size 2 1 v8 (eF xs ps (i+1)).length (ae (eF xs ps (i+1)))):=by
       rw [Hid,HSS.out,bh,List.length_append];exact o8
      have B8:=Na (ai hw.out ho.out g8 (Nat.le_refl _) hsz);clear o8 g8 n8;go_wp2_with fail;go_roundw
      case rel=>exact ⟨i+1,v8,by omega,by go_num,rfl,H8,B8⟩
      case measure=>simp [intOf];omega
  · obtain rfl:i=xs.length:=by omega
    obtain ⟨a',c',e',hcap,_⟩:=bj ho.out;subst e';have HRd:=Na (ay ho.out (Nat.le_refl _));clear ho hcap;go_wp2_with fail;go_ret;exact ⟨a',c',rfl,HRd.out,hw.out⟩
theorem Db (n:Nat):rX (eD n) n:=fun z hz=>by
 unfold eD at hz;obtain ⟨j,hj,rfl⟩:=List.mem_map.1 hz;exact ⟨j,rfl,List.mem_range.1 hj⟩
def pY:Value→Nat
 | .slice _ n _=>n
 | _=>0
def Ka (xs ys:List Int) (w:World) (e:Ending) (w':World):Prop :=
 ∃ a2 c2 a3 c3,e=.returned (.tuple #[.slice a2 xs.length c2,.slice a3 ys.length c3,.bool true])∧Rd w' w'.heap.size a2 (ae xs)∧Rd w' w'.heap.size a3 (ae ys)∧Below w.heap.size w w'
theorem yE (w:World) (R C:Nat) (aA:Option Addr) (cA:Nat) (xA:List Int) (aB:Option Addr) (cB:Nat) (xB:List Int) (hG:bY R C xA xB=true) (hA:Rd w w.heap.size aA (ae xA)) (hB:Rd w w.heap.size aB (ae xB)) :
 Calls Tryz.prog 126 #[.agg #[.int .i64 R,.int .i64 C,.slice aA xA.length cA,.slice aB xB.length cB]] w (Ka (jO R C xA xB).1 (jO R C xA xB).2 w):=by
 have hG':=hG;obtain ⟨R',C',e1,e2,r1,r6,c1,c6,lA,lB,-,-⟩:=ef hG';obtain rfl:R=R':=Int.ofNat.inj e1;obtain rfl:C=C':=Int.ofNat.inj e2;have hRC:R * C≤36:=Nat.le_trans (Nat.mul_le_mul r6 c6) (by decide)
 have B1:=Na (ah w (.cells #[.int .i64 R,.int .i64 C,.slice aA xA.length cA,.slice aB xB.length cB] 26));have KG:=Na (Blk.new w [.int .i64 R,.int .i64 C,.slice aA xA.length cA,.slice aB xB.length cB] 26);have LV:=Na (fun v (hb:Below w.heap.size w v)=>dX v R C aA cA xA aB cB xB ⟨hA.to hb,hB.to hb⟩ (by omega) (by omega))
 have LO:=Na (fun v (hb:Below w.heap.size w v) a2 c2 (rows:List Int) a3 c3 (cols:List Int) (h2:Rd v v.heap.size a2 (ae rows)) (h3:Rd v v.heap.size a3 (ae cols)) (i2:rX rows R) (i3:rX cols C) (n2:rows.length≤6) (n3:cols.length≤6)=>Lj v R C aA cA xA aB cB xB a2 c2 rows a3 c3 cols h2 h3 i2 i3 n2 n3 (hA.to hb) (hB.to hb) lA lB r6 c6)
 have LR:=Na (fun v=>gc v R (by omega))
 have LC:=Na (fun v=>gc v C (by omega))
 rw [hG] at LV;have HC:Hid (∀ w',Below (w.heap.size+1) (w.alloc (.cells #[.int .i64 R,.int .i64 C,.slice aA xA.length cA,.slice aB xB.length cB] 26)) w'→w'.cell? ⟨w.heap.size,0,none⟩=some (.int .i64 R)∧w'.cell? ⟨w.heap.size,1,none⟩=some (.int .i64 C)∧w'.cell? ⟨w.heap.size,2,none⟩=some (.slice aA xA.length cA)∧w'.cell? ⟨w.heap.size,3,none⟩=some (.slice aB xB.length cB)):=fun w' hb=>by
  have k:=KG.out.below hb (by omega)
  exact ⟨k.cell 0,k.cell 1,k.cell 2,k.cell 3⟩
 have HE:Hid (jO R C xA xB=jo C xA xB 13 (eD R) (eD C)):=rfl;obtain ⟨LL,hLL⟩:∃ l,l=jO R C xA xB:=⟨_,rfl⟩;rw [← hLL] at HE ⊢;clear hA hB hG hG' lA lB e1 e2 hLL KG;have hs0:(w.alloc (.cells #[.int .i64 R,.int .i64 C,.slice aA xA.length cA,.slice aB xB.length cB] 26)).heap.size=w.heap.size+1:=by simp
 have B1':Hid (Below (w.heap.size+1) (w.alloc (.cells #[.int .i64 R,.int .i64 C,.slice aA xA.length cA,.slice aB xB.length cB] 26)) (w.alloc (.cells #[.int .i64 R,.int .i64 C,.slice aA xA.length cA,.slice aB xB.length cB] 26))):=Below.refl _ _;obtain ⟨w0,hw0⟩:∃ X,X=w.alloc (.cells #[.int .i64 R,.int .i64 C,.slice aA xA.length cA,.slice aB xB.length cB] 26):=⟨_,rfl⟩
 go_enter Tryz.func126,Tryz.ntmps126;rw [← hw0] at HC B1 B1' hs0;obtain ⟨q0,q1,q2,q3⟩:=HC.out w0 B1'.out;rw [hw0] at q0 q1 q2 q3;go_wp2_with fail;rw [← hw0];clear hw0;refine (LV.out _ B1.out).mono ?_;rintro e w1 ⟨rfl,hb⟩;have BB1:=Na (aa B1.out hb);have D1:Hid (Below (w.heap.size+1) w0 w1):=by rw [hs0] at hb;exact hb
 clear hb q0 q1 q2 q3 LV;obtain ⟨q0,q1,q2,q3⟩:=HC.out w1 D1.out;have hs1:w.heap.size+1≤w1.heap.size:=by have:=D1.out.size;omega
 have HD:=Na (au (Below.refl w1.heap.size w1));have HJ:Hid (∀ v,Below w1.heap.size w1 v→v.cell? ⟨w.heap.size,0,none⟩=some (.int .i64 R)∧v.cell? ⟨w.heap.size,1,none⟩=some (.int .i64 C)):=fun v hb=>by
  have:=HC.out v (D1.out.trans (hb.mono hs1));exact ⟨this.1,this.2.1⟩
 go_wp2_with fail
 go_region_held3 (fun w'=>w'.cell? ⟨w.heap.size,0,none⟩=some (.int .i64 R)∧w'.cell? ⟨w.heap.size,1,none⟩=some (.int .i64 C))
  (first | with_reducible exact HJ.out _ HD.out | with_reducible exact HJ.out _ hBA.out | with_reducible exact HJ.out _ hBD.out)
  (first | (go_at_call 168;with_reducible refine (LR.out _).mono ?_;rintro e wA ⟨aX,cX,rfl,oX,hbA⟩;have hBA:=Na (aa (by first | exact HD.out | exact hBD.out) hbA)) | (go_at_call 168;with_reducible refine (LC.out _).mono ?_;rintro e wD ⟨aY,cY,rfl,oY,hbD⟩;have hBD:=Na (aa (by first | exact HD.out | exact hBA.out) hbD)))
 all_goals first
  | (have hX:=Na (ay (aG oX hbD) (Nat.le_refl _));have hY:=Na (ay oY (Nat.le_refl _));have hBF:=Na hBD.out;clear hbA hbD hBA hBD oX oY;generalize wD=wF at *)
  | (have hY:=Na (ay (aG oY hbA) (Nat.le_refl _));have hX:=Na (ay oX (Nat.le_refl _));have hBF:=Na hBA.out;clear hbA hbD hBA hBD oX oY;generalize wA=wF at *)
 all_goals
  have hBG:=Na (D1.out.trans (hBF.out.mono hs1));clear hBF HJ HD D1 hs1 q0 q1 q2 q3 LR LC BB1 B1';have U1:=Na (bE R);have U2:=Na (bE C);go_wp2_with fail
  go_loopw [5,6] (fun rv cv wr=>∃ (a2:Option Addr) (c2:Nat) (rows:List Int) (a3:Option Addr) (c3:Nat) (cols:List Int) (f:Nat),rv=.slice a2 rows.length c2∧cv=.slice a3 cols.length c3∧Hid (Rd wr wr.heap.size a2 (ae rows))∧Hid (Rd wr wr.heap.size a3 (ae cols))∧Hid (rX rows R)∧Hid (rX cols C)∧rows.length≤R∧cols.length≤C∧Hid (rows.length+cols.length<f)∧Hid (LL=jo C xA xB f rows cols)∧Hid (Below (w.heap.size+1) w0 wr)) (fun rv cv _=>pY rv+pY cv)
  case atStart=>exact ⟨aX,cX,eD R,aY,cY,eD C,13,by rw [U1.out],by rw [U2.out],hX,hY,Db R,Db C,by rw [U1.out];exact Nat.le_refl _,by rw [U2.out];exact Nat.le_refl _,by rw [Hid,U1.out,U2.out];omega,HE,hBG⟩
  case round =>
   clear hX hY hBG HE U1 U2;obtain ⟨a2,c2,rows,a3,c3,cols,f,rfl,rfl,h2,h3,i2,i3,n2,n3,hf,hL,hB⟩:=hrel;obtain ⟨q0,q1,q2,q3⟩:=HC.out wr hB.out;have hsz:w.heap.size+1≤wr.heap.size:=by have:=hB.out.size;omega
   have Bw:=B1.out.trans (hB.out.mono (by omega))
   have LO1:=Na (LO.out wr Bw a2 c2 rows a3 c3 cols h2.out h3.out i2.out i3.out (by omega) (by omega))
   obtain ⟨p1,hp1⟩:∃ l,l=il C xA rows cols:=⟨_,rfl⟩;obtain ⟨p2,hp2⟩:∃ l,l=il C xB rows cols:=⟨_,rfl⟩;have hl1:=Na (sK C xA rows cols);obtain ⟨fst,hfst⟩:∃ l,l=su C xA rows cols:=⟨_,rfl⟩;have hfw:fi rows.length cols.length p1 rows.length=fst:=by rw [hfst,hp1];rfl
   have hfn:fst.length≤6:=by rw [hfst];exact Nat.le_trans (qH _ _ _ _) (by omega)
   have HFW:=Na hfw;have HFS:=Na hfst;rw [← hp1] at LO1 hl1;rw [← hp2] at LO1;clear hp1 hp2 hfw hfst Bw;go_wp2_with fail;refine LO1.out.mono ?_;rintro e w2 ⟨b1,d1,b2,d2,rfl,y1,y2,hb2,-,-⟩;have LW:=xP w2 rows.length cols.length b1 d1 p1 b2 p2.length d2 y1 (by rw [hl1.out];exact Nat.le_trans (Nat.mul_le_mul n2 n3) (by omega)) hl1.out (by omega) (by omega)
   rw [HFW.out] at LW;have HLW:=Na LW;have HB2:=Na (hB.out.trans (hb2.mono hsz));have X2:=Na (h2.out.to hb2);have X3:=Na (h3.out.to hb2);clear LW y1 y2 hb2 LO1 h2 h3 hB q0 q1 q2 q3 HFW;go_wp2_with fail;refine HLW.out.mono ?_;rintro e w3 ⟨a4,c4,rfl,x4,hb3⟩;have hs3:w.heap.size+1≤w2.heap.size:=by have:=HB2.out.size;omega
   have HB3:=Na (HB2.out.trans (hb3.mono hs3));have Y2:=Na (X2.out.to hb3);have Y3:=Na (X3.out.to hb3);have LV1:=xw w3 a2 c2 rows a4 c4 fst Y2.out x4 (by omega) (by omega)
   obtain ⟨rw',hrw⟩:∃ l,l=iW C xA rows cols:=⟨_,rfl⟩;have hrl:eF rows fst rows.length=rw':=by rw [hrw,HFS.out];rfl
   rw [hrl] at LV1;have HLV:=Na LV1;have HRW:=Na hrw;have hrn:rw'.length≤rows.length:=by rw [hrw];exact tR _ _ _ _
   have hri:Hid (rX rw' R):=by rw [hrw];exact IQ i2.out
   have X4:=Na x4;clear LV1 hrl hrw x4 hb3 HLW HB2 X2 X3;go_wp2_with fail;refine HLV.out.mono ?_;rintro e w4 ⟨a5,c5,rfl,x5,hb4⟩;have hs4:w.heap.size+1≤w3.heap.size:=by have:=HB3.out.size;omega
   have HB4:=Na (HB3.out.trans (hb4.mono hs4));have Z3:=Na (Y3.out.to hb4);have X5:=Na x5;clear x5 hb4 HLV HB3 Y2 Y3 X4;obtain ⟨q0,q1,q2,q3⟩:=HC.out w4 HB4.out;have LO2:=Na (LO.out w4 (B1.out.trans (HB4.out.mono (by omega))) a5 c5 rw' a3 c3 cols X5.out Z3.out hri.out i3.out (by omega) (by omega))
   obtain ⟨p3,hp3⟩:∃ l,l=il C xA rw' cols:=⟨_,rfl⟩;obtain ⟨p4,hp4⟩:∃ l,l=il C xB rw' cols:=⟨_,rfl⟩;have hl3:=Na (sK C xA rw' cols);have hl4:=Na (sK C xB rw' cols);obtain ⟨snd,hsnd⟩:∃ l,l=uQ C xB rw' cols:=⟨_,rfl⟩;obtain ⟨p5,hp5⟩:∃ l,l=aD rw'.length cols.length p4 (cols.length * rw'.length):=⟨_,rfl⟩;obtain ⟨p6,hp6⟩:∃ l,l=aD rw'.length cols.length p3 (cols.length * rw'.length):=⟨_,rfl⟩;have hl5:Hid (p5.length=cols.length * rw'.length):=by rw [hp5];exact mt _ _ _ _
   have hsw:fi cols.length rw'.length p5 cols.length=snd:=by rw [hsnd,hp5,hp4];rfl
   have hsn:snd.length≤6:=by rw [hsnd];exact Nat.le_trans (qH _ _ _ _) (by omega)
   have HSW:=Na hsw;have HSS:=Na hsnd;have H5:=Na hp5;have H6:=Na hp6;rw [← hp3] at LO2 hl3;rw [← hp4] at LO2 hl4;clear hp3 hp4 hp5 hp6 hsw hsnd;go_wp2_with fail;refine LO2.out.mono ?_;rintro e w5 ⟨b3,d3,b4,d4,rfl,y3,y4,hb5,-,-⟩;have LT:=jG w5 rw'.length cols.length b3 d3 p3 b4 d4 p4 y3 y4 hl3.out hl4.out (by omega) (by omega)
   rw [← H5.out,← H6.out] at LT;have HLT:=Na LT;have hs5:w.heap.size+1≤w4.heap.size:=by have:=HB4.out.size;omega
   have HB5:=Na (HB4.out.trans (hb5.mono hs5));have V3:=Na (Z3.out.to hb5);have V5:=Na (X5.out.to hb5);clear LT y3 y4 hb5 LO2 Z3 X5 HB4 q0 q1 q2 q3 H5 H6;go_wp2_with fail;refine HLT.out.mono ?_;rintro e w6 ⟨b5,d5,b6,d6,rfl,y5,y6,hb6,-,-⟩;have LW:=xP w6 cols.length rw'.length b5 d5 p5 b6 p6.length d6 y5 (by rw [hl5.out];exact Nat.le_trans (Nat.mul_le_mul n3 hrn) (Nat.le_trans (Nat.mul_le_mul c6 (Nat.le_trans n2 r6)) (by omega))) hl5.out (by omega) (by omega)
   rw [HSW.out] at LW;have HLW:=Na LW;have hs6:w.heap.size+1≤w5.heap.size:=by have:=HB5.out.size;omega
   have HB6:=Na (HB5.out.trans (hb6.mono hs6));have T3:=Na (V3.out.to hb6);have T5:=Na (V5.out.to hb6);clear LW y5 y6 hb6 HLT V3 V5 HB5 HSW;go_wp2_with fail;refine HLW.out.mono ?_;rintro e w7 ⟨a7,c7,rfl,x7,hb7⟩;have hs7:w.heap.size+1≤w6.heap.size:=by have:=HB6.out.size;omega
   have HB7:=Na (HB6.out.trans (hb7.mono hs7));have S3:=Na (T3.out.to hb7);have S5:=Na (T5.out.to hb7);have LV2:=xw w7 a3 c3 cols a7 c7 snd S3.out x7 (by omega) (by omega)
   obtain ⟨cw,hcw⟩:∃ l,l=lS C xA xB rows cols:=⟨_,rfl⟩;have hcl:eF cols snd cols.length=cw:=by rw [hcw,HSS.out,HRW.out];rfl
   rw [hcl] at LV2;have HLV:=Na LV2;have hcn:cw.length≤cols.length:=by rw [hcw];exact tO _ _ _ _ _
   have hci:Hid (rX cw C):=by rw [hcw];exact Jm i3.out
   have hq:oZ C xA xB rows cols=decide (fst.length+snd.length=0):=by rw [HFS.out,HSS.out,HRW.out];rfl
   have HQS:Hid (fst.length+snd.length=0→LL=(rw',cw)):=fun h=>by
    have e:oZ C xA xB rows cols=true:=by rw [hq];exact decide_eq_true h
    have hf':=hf.out;obtain ⟨f',rfl⟩:∃ f',f=f'+1:=⟨f - 1,by omega⟩;rw [hL.out,Ez e,HRW.out,hcw]
   have HQM:Hid (fst.length+snd.length≠0→rw'.length+cw.length<rows.length+cols.length∧LL=jo C xA xB (f - 1) rw' cw):=fun h=>by
    have e:oZ C xA xB rows cols=false:=by rw [hq];exact decide_eq_false h
    have hf':=hf.out;obtain ⟨f',rfl⟩:∃ f',f=f'+1:=⟨f - 1,by omega⟩;have hsk:=Cx e;rw [hL.out,Dz e,HRW.out,hcw];exact ⟨hsk,rfl⟩
   clear LV2 hcl hcw x7 hb7 HLW HB6 T3 T5 hq hL HFS HSS;go_wp2_with fail;refine HLV.out.mono ?_;rintro e w8 ⟨a8,c8,rfl,x8,hb8⟩;have hs8:w.heap.size+1≤w7.heap.size:=by have:=HB7.out.size;omega
   have HB8:=Na (HB7.out.trans (hb8.mono hs8));have Q5:=Na (S5.out.to hb8);have X8:=Na x8;clear x8 hb8 HLV HB7 S3 S5;have m1:(0:Int)≤(fst.length:Int):=Int.natCast_nonneg _;have m2:(0:Int)≤(snd.length:Int):=Int.natCast_nonneg _
   by_cases h0:fst.length+snd.length=0
   · have hz:((fst.length:Int)+(snd.length:Int))=0:=by omega
     have HL2:=Na (HQS.out h0);clear HQS HQM;go_wp2_with fail;go_ret3;exact ⟨a5,c5,a8,c8,by rw [HL2.out];rfl,by rw [HL2.out];exact Q5.out,by rw [HL2.out];exact X8.out,B1.out.trans (HB8.out.mono (by omega))⟩
   · have hz:¬ ((fst.length:Int)+(snd.length:Int))=0:=by omega
     obtain ⟨hsk,hL2⟩:=HQM.out h0;have HL2:=Na hL2;clear HQS HQM hL2;go_wp2_with fail;go_roundw
     case rel=>exact ⟨a5,c5,rw',a8,c8,cw,f - 1,rfl,rfl,Q5,X8,hri,hci,by omega,by omega,by have:=hf.out;show _<_;omega,HL2,HB8⟩
     case measure=>simp only [pY];omega
theorem Kj (w:World) (b o c n:Nat) (f:Nat→Int) (h:∀ j,j<n+1→w.cell? ⟨b,o+j,none⟩=some (.int .i64 (f j))) (hn:n≤1048576) :
 Calls Tryz.prog 219 #[.slice (some ⟨b,o,none⟩) (n+1) c] w fun e w'=>e=.returned (.int .i64 (gd f n))∧w=w':=by
 have H:=Na h;have HS:Hid (∀ k,gd f (k+1)=min (gd f k) (f (k+1))):=fun k=>rfl
 have c0:w.cell? ⟨b,o,none⟩=some (.int .i64 (f 0)):=h 0 (by omega)
 have H0:Hid (gd f 0=f 0):=rfl;clear h
 go_enter Tryz.func219,Tryz.ntmps219;go_wp2_with fail
 go_loop [4,3] (fun iv mv=>∃ k:Nat,k≤n∧iv=.int .i64 ((k+1:Nat):Int)∧mv=.int .i64 (gd f k)) (fun iv _=>n+1 - (intOf iv).toNat)
 case atStart=>exact ⟨0,Nat.zero_le _,rfl,by rw [H0.out]⟩
 case round =>
  clear c0 H0;obtain ⟨k,hk,rfl,rfl⟩:=hrel;have hS:=Na (HS.out k);obtain ⟨m,hm⟩:∃ m,m=gd f k:=⟨_,rfl⟩;rw [← hm] at hS ⊢;have HM:=Na hm;clear hm;have k0:(0:Int)≤((k+1:Nat):Int):=Int.natCast_nonneg _
  by_cases hlt:k<n
  · have hki:(((k+1:Nat):Int))<(((n+1:Nat):Int)):=by omega
    have ck:w.cell? ⟨b,o+(k+1),none⟩=some (.int .i64 (f (k+1))):=H.out (k+1) (by omega)
    generalize f (k+1)=y at *
    by_cases hmy:m≤y
    · have hS2:Hid (gd f (k+1)=m):=by rw [Hid,hS.out];omega
      go_wp2_with fail
      go_round
      case rel=>exact ⟨k+1,by omega,by go_num,by rw [hS2.out];try (congr 1;omega)⟩
      case measure=>simp [intOf];omega
    · have hS2:Hid (gd f (k+1)=y):=by rw [Hid,hS.out];omega
      go_wp2_with fail
      go_round
      case rel=>exact ⟨k+1,by omega,by go_num,by rw [hS2.out];first | (rw [if_pos (by omega)];done) | (congr 1;omega)⟩
      case measure=>simp [intOf];omega
  · obtain rfl:k=n:=by omega
    have hki:¬ (((k+1:Nat):Int))<(((k+1:Nat):Int)):=by omega
    go_wp2_with fail;go_ret;exact ⟨ce HM.out,rfl⟩
theorem Jk (w:World) (R C:Nat) (aA:Option Addr) (cA:Nat) (xA:List Int) (vB:Value) (hA:Rd w w.heap.size aA (ae xA)) (lA:xA.length=R * C) (hcA:xA.length≤cA) (hR:R≤6) (hC:C≤6) (hR1:1≤R) (hC1:1≤C) :
 Calls Tryz.prog 173 #[.agg #[.int .i64 R,.int .i64 C,.slice aA xA.length cA,vB]] w fun e w'=>e=.returned (.tuple #[.int .i64 (eJ R C xA R).1,.int .i64 (eJ R C xA R).2])∧Below w.heap.size w w':=by
 have hRC:R * C≤36:=Nat.le_trans (Nat.mul_le_mul hR hC) (by decide)
 have h1:1≤R * C:=Nat.mul_le_mul hR1 hC1;obtain ⟨b,o,rfl,hbb,hcc⟩:=hA.at (k:=0) (by omega)
 have KG:=Blk.new w [.int .i64 R,.int .i64 C,.slice (some ⟨b,o,none⟩) xA.length cA,vB] 26;have HB1:=Na (ah w (.cells #[.int .i64 R,.int .i64 C,.slice (some ⟨b,o,none⟩) xA.length cA,vB] 26));obtain ⟨w1,hw1⟩:∃ X,X=w.alloc (.cells #[.int .i64 R,.int .i64 C,.slice (some ⟨b,o,none⟩) xA.length cA,vB] 26):=⟨_,rfl⟩;have LM:Hid (∀ i,i<R→Calls Tryz.prog 219 #[.slice (some ⟨b,o+i * C,none⟩) C (cA - i * C)] w1 fun e w'=>e=.returned (.int .i64 (gd (aQ C xA i) (C - 1)))∧w1=w'):=fun i hi=>by
  obtain ⟨n,rfl⟩:∃ n,C=n+1:=⟨C - 1,by omega⟩;refine Kj w1 b (o+i * (n+1)) (cA - i * (n+1)) n (aQ (n+1) xA i) (fun j hj=>?_) (by omega)
  have hin:=dE (R:=R) hi hj;have:=hcc (i * (n+1)+j) (by rw [lA];exact hin)
  rw [hw1,HB1.out.cell (p:=⟨b,o+i * (n+1)+j,none⟩) hbb,Nat.add_assoc,this];rfl
 have q0:w1.cell? ⟨w.heap.size,0,none⟩=some (.int .i64 R):=by rw [hw1];exact KG.cell 0
 have q1:w1.cell? ⟨w.heap.size,1,none⟩=some (.int .i64 C):=by rw [hw1];exact KG.cell 1
 have q2:w1.cell? ⟨w.heap.size,2,none⟩=some (.slice (some ⟨b,o,none⟩) xA.length cA):=by rw [hw1];exact KG.cell 2
 have HS:Hid (∀ i,eJ R C xA (i+1)=if i=0∨(eJ R C xA i).2<gd (aQ C xA i) (C - 1) then ((i:Int),gd (aQ C xA i) (C - 1)) else eJ R C xA i):=fun i=>rfl
 have HQ:=Na (And.intro q0 (And.intro q1 q2));rw [← hw1] at HB1;have h0:Hid (eJ R C xA 0=(0,0)):=rfl;have hcR:R * C≤cA:=by rw [← lA];exact hcA
 clear hA hcc KG lA hcA;rw [hw1] at q0
 go_enter Tryz.func173,Tryz.ntmps173;go_wp2_with fail;rw [← hw1];clear q0 q1 q2 hw1
 go_loop [10,4,5] (fun iv rv mv=>∃ i:Nat,i≤R∧iv=.int .i64 i∧rv=.int .i64 (eJ R C xA i).1∧mv=.int .i64 (eJ R C xA i).2) (fun iv _ _=>R - (intOf iv).toNat)
 case atStart=>exact ⟨0,Nat.zero_le _,rfl,by rw [h0.out],by rw [h0.out]⟩
 case round =>
  clear h0;obtain ⟨i,hi,rfl,rfl,rfl⟩:=hrel;obtain ⟨q0,q1,q2⟩:=HQ.out;have i0:(0:Int)≤(i:Int):=Int.natCast_nonneg _;have hs:=Na (HS.out i)
  by_cases hlt:i<R
  · have hii:(i:Int)<(R:Int):=by omega
    have LM1:=Na (LM.out i hlt);have hm1:i * C+C≤R * C:=by rw [← Nat.succ_mul];exact Nat.mul_le_mul (by omega) (Nat.le_refl _)
    obtain ⟨K,hK⟩:∃ K:Nat,K=i * C:=⟨_,rfl⟩;have hKc:K+C≤cA:=by rw [hK];omega
    have e1:(i:Int) * (C:Int)=(K:Int):=by rw [hK,Int.natCast_mul]
    have e2:((i:Int)+1) * (C:Int)=(K:Int)+(C:Int):=by rw [Int.add_mul,Int.one_mul,e1]
    rw [← hK] at LM1 hm1;obtain ⟨lst,hlst⟩:∃ l,l=gd (aQ C xA i) (C - 1):=⟨_,rfl⟩;rw [← hlst] at LM1 hs;obtain ⟨sr,hsr⟩:∃ l,l=eJ R C xA i:=⟨_,rfl⟩;rw [← hsr] at hs ⊢;clear hlst hsr;clear hK;go_wp2_with fail;refine LM1.out.mono ?_;rintro e w2 ⟨rfl,rfl⟩;clear LM1 q0 q1 q2 e1 e2
    by_cases hi0:i=0
    · have hz:((i:Int) == 0)=true:=by rw [beq_iff_eq];omega
      have hs2:Hid (eJ R C xA (i+1)=((i:Int),lst)):=by rw [Hid,hs.out,if_pos (.inl hi0)]
      clear hs;go_wp2_with fail
      go_round
      case rel=>exact ⟨i+1,by omega,by go_num,by rw [hs2.out,hi0];rfl,by rw [hs2.out]⟩
      case measure=>simp [intOf];omega
    · have hz:((i:Int) == 0)=false:=by rw [beq_eq_false_iff_ne];omega
      by_cases hl:sr.2<lst
      · have hs2:Hid (eJ R C xA (i+1)=((i:Int),lst)):=by rw [Hid,hs.out,if_pos (.inr hl)]
        clear hs;go_wp2_with fail
        go_round
        case rel=>exact ⟨i+1,by omega,by go_num,by rw [hs2.out],by rw [hs2.out]⟩
        case measure=>simp [intOf];omega
      · have hs2:Hid (eJ R C xA (i+1)=sr):=by rw [Hid,hs.out,if_neg (by omega)]
        clear hs;go_wp2_with fail
        go_round
        case rel=>exact ⟨i+1,by omega,by go_num,by rw [hs2.out],by rw [hs2.out]⟩
        case measure=>simp [intOf];omega
  · obtain rfl:i=R:=by omega
    go_wp2_with fail
    go_ret2
    exact ⟨rfl,HB1.out⟩
theorem CG (w:World) (R C:Nat) (aA:Option Addr) (cA:Nat) (xA:List Int) (aB:Option Addr) (cB:Nat) (xB:List Int) (hG:bY R C xA xB=true) (hcA:xA.length≤cA) (hA:Rd w w.heap.size aA (ae xA)) (hB:Rd w w.heap.size aB (ae xB)) :
 Calls Tryz.prog 127 #[.agg #[.int .i64 R,.int .i64 C,.slice aA xA.length cA,.slice aB xB.length cB]] w fun e w'=>e=.returned (.tuple #[.int .i64 (eJ R C xA R).1,.int .i64 (eJ R C xA R).2,.bool true])∧Below w.heap.size w w':=by
 have hG':=hG;obtain ⟨R',C',e1,e2,r1,r6,c1,c6,lA,lB,-,-⟩:=ef hG';obtain rfl:R=R':=Int.ofNat.inj e1;obtain rfl:C=C':=Int.ofNat.inj e2;have hRC:R * C≤36:=Nat.le_trans (Nat.mul_le_mul r6 c6) (by decide)
 have HB1:=Na (ah w (.cells #[.int .i64 R,.int .i64 C,.slice aA xA.length cA,.slice aB xB.length cB] 26));have KG:=Na (Blk.new w [.int .i64 R,.int .i64 C,.slice aA xA.length cA,.slice aB xB.length cB] 26);have LV:=Na (fun v (hb:Below w.heap.size w v)=>dX v R C aA cA xA aB cB xB ⟨hA.to hb,hB.to hb⟩ (by omega) (by omega))
 have LP:=Na (fun v (hb:Below w.heap.size w v)=>Jk v R C aA cA xA (.slice aB xB.length cB) (hA.to hb) lA hcA r6 c6 r1 c1)
 rw [hG] at LV;obtain ⟨pl,hpl⟩:∃ l,l=eJ R C xA R:=⟨_,rfl⟩;rw [← hpl] at LP ⊢;clear hA hB hG hG' lA lB e1 e2 hpl hcA
 go_enter Tryz.func127,Tryz.ntmps127;go_wp2_with fail;refine (LV.out _ HB1.out).mono ?_;rintro e w1 ⟨rfl,hb⟩;have B1:=Na (aa HB1.out hb);have K1:=KG.out.same hb;obtain ⟨q0,q1,q2,q3⟩:w1.cell? ⟨w.heap.size,0,none⟩=some (.int .i64 R)∧w1.cell? ⟨w.heap.size,1,none⟩=some (.int .i64 C)∧w1.cell? ⟨w.heap.size,2,none⟩=some (.slice aA xA.length cA)∧w1.cell? ⟨w.heap.size,3,none⟩=some (.slice aB xB.length cB):=⟨K1.cell 0,K1.cell 1,K1.cell 2,K1.cell 3⟩;clear K1 hb;go_wp2_with fail;refine (LP.out _ B1.out).mono ?_;rintro e w2 ⟨rfl,hb⟩;have B2:=Na (aa B1.out hb);clear hb q0 q1 q2 q3;go_wp2_with fail;go_ret3;exact ⟨rfl,B2.out⟩
def sI (s:List Nat):List Int:=s.map fun (n:Nat)=>(n:Int)
theorem pL (s:List Nat):(sI s).length=s.length:=by simp [sI]
theorem Mu (s:List Nat) (k:Nat):sI (s ++ [k])=sI s ++ [(k:Int)]:=by simp [sI]
theorem pP (s:List Nat) (j:Nat):(sI s).getD j 0=((s.getD j 0:Nat):Int):=by
 unfold sI;rw [List.getD,List.getD,List.getElem?_map]
 cases s[j]? <;> rfl
theorem Gt {P T:Nat} {xs ow:List Int} {s:List Nat} (h:Chain P T xs ow s) (hall:∀ j,j<P→¬ dL P T xs ow j<0) :
 ∃ k:Nat,k<P∧dL P T xs ow (s.getD (s.length - 1) 0)=(k:Int)∧((pM (sI s) (k:Int) = -1∧Chain P T xs ow (s ++ [k])∧∀ r,RingR P T xs ow (s ++ [k]) r→RingR P T xs ow s r)∨(∃ a:Nat,pM (sI s) (k:Int)=(a:Int)∧a<s.length∧Ring P T xs ow (s.drop a)∧RingR P T xs ow s (s.drop a))):=by
 have hl:0<s.length:=List.length_pos_iff.2 h.ne;have hlast:s.getD (s.length - 1) 0<P:=h.lt _ (kh (by omega))
 rcases zh P T xs ow (s.getD (s.length - 1) 0) with ⟨k,hk,he,hpos⟩ | ⟨_,he⟩
 · refine ⟨k,hk,he,?_⟩
   have hkt:(dL P T xs ow (s.getD (s.length - 1) 0)).toNat=k:=by rw [he];exact Int.toNat_natCast k
   rcases mO (fun j=>((k:Int) == (sI s).getD j 0)) (sI s).length with ⟨a,ha,hp,hb,e⟩ | ⟨hn,e⟩
   · rw [pL] at ha
     rw [beq_iff_eq,pP] at hp;have hpa:s.getD a 0=k:=by omega
     have hga:s[a]? = some k:=by
      rw [List.getD,List.getElem?_eq_getElem ha,Option.getD_some] at hpa;rw [List.getElem?_eq_getElem ha,hpa]
     refine .inr ⟨a,e,ha,h.ring ha (by rw [hpa];exact hpos),.here s a (by rw [hkt];exact hga) (fun b hba hbs=>?_)⟩
     rw [hkt] at hbs;have:=hb b hba;rw [beq_eq_false_iff_ne,pP] at this;have hbl:b<s.length:=by omega
     rw [List.getElem?_eq_getElem hbl] at hbs;injection hbs with hbs
     rw [List.getD,List.getElem?_eq_getElem hbl,Option.getD_some,hbs] at this;exact this rfl
   · have hns:k∉s:=fun hm=>by
       obtain ⟨j,hj,hjk⟩:=List.getElem_of_mem hm;have:=hn j (by rw [pL];exact hj)
       rw [beq_eq_false_iff_ne,pP,List.getD,List.getElem?_eq_getElem hj,Option.getD_some,hjk] at this;exact this rfl
     exact .inl ⟨e,h.more hk hns hpos,fun r hr=>.on s r (by rw [hkt];exact hns) (by rw [hkt];exact hr)⟩
 · exact absurd (by rw [he];decide) (hall _ hlast)
theorem CF {P T:Nat} {xs ow:List Int} (hP:0<P):Chain P T xs ow [0]:=⟨by simp,fun i hi=>by rw [List.mem_singleton] at hi;omega,by simp,fun k hk=>by simp at hk⟩
theorem Jp {xs:List Int} {t:Nat} {x:Int} (h:xs[t]? = some x):xs.set t x=xs:=by
 obtain ⟨hl,he⟩:=List.getElem?_eq_some_iff.1 h;rw [← he];exact List.set_getElem_self hl
def fZ (ow tz:List Int) (t:Nat):List Int:=ed (ow.take t) tz ++ ow.drop t
theorem Ey (ow tz:List Int) (t:Nat):(fZ ow tz t).length=ow.length:=by
 unfold fZ ed;rw [List.length_append,List.length_map,List.length_take,List.length_drop];omega
theorem BR (ow tz:List Int):fZ ow tz 0=ow:=by simp [fZ,ed]
theorem Fs (ow tz:List Int):fZ ow tz ow.length=ed ow tz:=by simp [fZ]
theorem DP {ow tz:List Int} {t:Nat} {x:Int} (h:ow[t]? = some x):(fZ ow tz t)[t]? = some x:=by
 have hl:t<ow.length:=(List.getElem?_eq_some_iff.1 h).1;unfold fZ ed;rw [List.getElem?_append_right (by rw [List.length_map,List.length_take];omega),List.length_map,List.length_take,Nat.min_eq_left (by omega),Nat.sub_self,List.getElem?_drop,Nat.add_zero]
 exact h
theorem BD {ow tz:List Int} {t:Nat} {x:Int} (h:ow[t]? = some x):fZ ow tz (t+1)=(fZ ow tz t).set t (if 0≤x then tz.getD x.toNat 0 else x):=by
 have hl:t<ow.length:=(List.getElem?_eq_some_iff.1 h).1;unfold fZ ed;rw [List.take_add_one,h,Option.toList_some,List.map_append,List.map_singleton,List.set_append_right _ _ (by rw [List.length_map,List.length_take];omega),List.length_map,List.length_take,Nat.min_eq_left (by omega),Nat.sub_self,List.append_assoc]
 congr 1
 rw [List.drop_eq_getElem_cons hl]
 rfl
def Mq:Value→Nat
 | .slice _ n _=>n
 | _=>0
def ME (P T:Nat) (xV ow:List Int) (gO:Nat) (w w':World):Prop :=
 ∃ r:List Nat,RingR P T xV ow [0] r∧Ring P T xV ow r∧Blk w' gO (ae (ed ow (fU P r r.length))) 2∧Touch w w' gO (gO+1)
theorem JX (w:World) (P T gO cO:Nat) (aV:Option Addr) (cV:Nat) (xV:List Int) (ow:List Int) (hV:Rd w w.heap.size aV (ae xV)) (hO:Blk w gO (ae ow) 2) (lV:xV.length=P * T) (lO:ow.length=T) (hb:∀ x∈xV,0≤x∧x≤1000) (how:∀ p∈ow,-1≤p∧p<(P:Int)) (hP1:1≤P) (hP:P≤6) (hT1:1≤T) (hT:T≤8) (hall:∀ j,j<P→¬ dL P T xV ow j<0) :
 Calls Tryz.prog 178 #[.agg #[.int .i64 P,.int .i64 T,.slice aV xV.length cV],.slice (some ⟨gO,0,none⟩) ow.length cO] w fun e w'=>e=.returned (.tuple #[])∧ME P T xV ow gO w w':=by
 have KG:=Na (Blk.new w [.int .i64 P,.int .i64 T,.slice aV xV.length cV] 28);have B1:=Na (ah w (.cells #[.int .i64 P,.int .i64 T,.slice aV xV.length cV] 28));have hgO:gO<w.heap.size:=hO.lt;have hRO:Rd w w.heap.size (some ⟨gO,0,none⟩) (ae ow):=hO.rd hgO;have LE:=Na (fun v (hbl:Below w.heap.size w v) j=>vm v P T j aV cV xV (some ⟨gO,0,none⟩) cO ow (hV.to hbl) (hRO.to hbl) lV lO hb hP hT)
 have LC:=Na (fun v=>gc v P (by omega))
 have HST:=Na (fun s (h:Chain P T xV ow s)=>Gt h hall)
 have HO:=Na hO;have H0:Hid (Chain P T xV ow [0]):=CF hP1;have HW:=Na how;have HLO:=Na lO;have n8:ow.length≤8:=by omega
 obtain ⟨w1,hw1⟩:∃ X,X=w.alloc (.cells #[.int .i64 P,.int .i64 T,.slice aV xV.length cV] 28):=⟨_,rfl⟩;have hs1:w1.heap.size=w.heap.size+1:=by rw [hw1];simp
 rw [← hw1] at KG B1;have RW0:Hid ((w1.alloc (.cells #[.int .i64 0] 2)).ownsRow (w.heap.size+1) 2 1 (.slice (some ⟨w.heap.size+1,0,none⟩) 1 1) 1 (ae (sI [0]))):=by
  rw [← hs1];exact xu (tl:=[]) (by rw [List.append_nil];exact Blk.new w1 _ _) (by omega) rfl (Nat.le_refl _) (by decide) rfl
 have B2:Hid (Below (w.heap.size+1) w1 (w1.alloc (.cells #[.int .i64 0] 2))):=(ah w1 _).mono (by omega)
 clear hV hO lV lO hb how hall hRO
 go_enter Tryz.func178,Tryz.ntmps178;go_wp2_with fail;rw [← hw1];clear hw1
 go_loopw [4] (fun sv wr=>∃ (s:List Nat) (a:Option Addr) (c:Nat),sv=.slice a s.length c∧Hid (wr.ownsRow (w.heap.size+1) 2 1 (.slice a s.length c) s.length (ae (sI s)))∧Hid (Chain P T xV ow s)∧Hid (∀ r,RingR P T xV ow s r→RingR P T xV ow [0] r)∧Hid (Below (w.heap.size+1) w1 wr)) (fun sv _=>P+1 - Mq sv)
 case atStart=>exact ⟨[0],_,_,rfl,RW0.out,H0.out,fun r h=>h,B2.out⟩
 case round =>
  clear RW0 H0 B2;obtain ⟨s,a,c,rfl,ho,hch,hrr,hw⟩:=hrel;have hsl:=Iv hch.out.lt hch.out.nd;have hs0:0<s.length:=List.length_pos_iff.2 hch.out.ne;obtain ⟨g,tl,rfl,hg,KS,hnc,hcm,hcl⟩:=lG ho.out hs0;obtain ⟨k,hkP,hek,hcase⟩:=HST.out s hch.out;obtain ⟨m,hm⟩:∃ m,s.length=m+1:=⟨s.length - 1,by omega⟩;have hlast:=kd KS (j:=m) (by rw [pL];omega)
  rw [pP] at hlast;rw [hm,Nat.add_sub_cancel] at hek;obtain ⟨lst,hlst⟩:∃ l:Nat,l=s.getD m 0:=⟨_,rfl⟩;rw [← hlst] at hlast hek;have Bw:=Na (B1.out.trans (hw.out.mono (by omega)))
  have K:=KG.out.below hw.out (by omega)
  have hsz:w.heap.size+1≤wr.heap.size:=by have:=hw.out.size;omega
  have HD:Hid (∀ z9:Later wr,(z9.w'.cell? ⟨w.heap.size,0,none⟩=some (.int .i64 P)∧z9.w'.cell? ⟨w.heap.size,1,none⟩=some (.int .i64 T)∧z9.w'.cell? ⟨w.heap.size,2,none⟩=some (.slice aV xV.length cV))∧z9.w'.cell? ⟨g,m,none⟩=some (.int .i64 lst)∧Below w.heap.size w z9.w'):=fun z9=>⟨⟨(K.same z9.h).cell 0,(K.same z9.h).cell 1,(K.same z9.h).cell 2⟩,(z9.h.cell (p:=⟨g,m,none⟩) KS.lt).trans hlast,aa Bw.out z9.h⟩
  have LE1:=Na (fun v (hbl:Below w.heap.size w v)=>LE.out v hbl lst)
  have hm1:((s.length:Nat):Int) - 1=(m:Int):=by omega
  have HM:=Na hm;rw [hek] at LE1;have HCS:=Na hcase;have HKS:=Na KS;clear hm hcase hek hlst hlast K KS;have D0:∀ z9:Later wr,z9.w'.cell? ⟨w.heap.size,0,none⟩=some (.int .i64 P):=fun z9=>(HD.out z9).1.1
  have D1:∀ z9:Later wr,z9.w'.cell? ⟨w.heap.size,1,none⟩=some (.int .i64 T):=fun z9=>(HD.out z9).1.2.1
  have D2:∀ z9:Later wr,z9.w'.cell? ⟨w.heap.size,2,none⟩=some (.slice aV xV.length cV):=fun z9=>(HD.out z9).1.2.2
  have D3:∀ z9:Later wr,z9.w'.cell? ⟨g,m,none⟩=some (.int .i64 lst):=fun z9=>(HD.out z9).2.1
  have hml:(m:Int)<(s.length:Int):=by omega
  have hm0:(0:Int)≤(m:Int):=Int.natCast_nonneg _;go_wp2_with fail;refine bf (by kernel_rfl) (by kernel_rfl) ?_
  repeat (go_big_quiet_step (first | (go_at_call 177;with_reducible exact dx (LE1.out _ (HD.out _).2.2))))
  refine wpQuiet_nil ?_
  rintro wq ⟨⟨_,hbq⟩,rfl⟩;have BQ:=Na (hw.out.trans (hbq.mono hsz));have HOq:=Na (aG ho.out hbq);have KSq:=HKS.out.same hbq;have HKq:=Na KSq;have hsq:w.heap.size+1≤wq.heap.size:=by have:=hbq.size;omega
  have LI:=wV wq (some ⟨g,0,none⟩) c (sI s) (k:Int) (AM KSq KSq.lt) (by rw [pL];omega)
  rw [pL] at LI;clear KSq D0 D1 D2 D3 HD LE1 hbq HKS ho hw Bw hm1;have k0:(0:Int)≤(k:Int):=Int.natCast_nonneg _
  rcases HCS.out with ⟨e1,hch2,hr2⟩ | ⟨at0,e1,hal,hring,hr2⟩
  · rw [e1] at LI
    have HLI:=Na LI;have C2:=Na hch2;have R2:=Na hr2;clear LI e1 HCS hch2 hr2;go_wp2_with fail;refine HLI.out.mono ?_;rintro e w3 ⟨rfl,rfl⟩
    go_wp2_with (at_builtin;refine aP _ rfl _ _ 24 rfl (w.heap.size+1) 2 (.int .i64 0) 8 Tryz.underlying24 aU rfl _ _ _ rfl HOq.out (.int .i64 k) rfl rfl (by omega) (by omega) hsq ?_)
    intro v8 w8 o8 g8 n8;have H8:Hid (w8.ownsRow (w.heap.size+1) 2 1 v8 (s ++ [k]).length (ae (sI (s ++ [k])))):=by
     rw [Hid,Mu,bh,List.length_append];exact o8
    have B8:=Na (ai BQ.out HOq.out g8 (Nat.le_refl _) hsq);obtain ⟨a8,c8,e8,_,_⟩:=bj H8.out;subst e8;have hsl2:=Iv C2.out.lt C2.out.nd;rw [List.length_append,List.length_singleton] at hsl2;clear o8 g8 n8;go_wp2_with fail;go_roundw
    case rel=>exact ⟨s ++ [k],a8,c8,rfl,H8,C2,fun r hr=>hrr.out r (R2.out r hr),B8⟩
    case measure=>simp only [Mq,List.length_append,List.length_singleton];omega
  · rw [e1] at LI
    have HLI:=Na LI;have HRG:=Na hring;have R2:=Na (hrr.out _ hr2);have a0:(0:Int)≤(at0:Int):=Int.natCast_nonneg _;have al:(at0:Int)≤(s.length:Int):=by omega
    have K:=KG.out.below BQ.out (by omega)
    have q0:wq.cell? ⟨w.heap.size,0,none⟩=some (.int .i64 P):=K.cell 0;clear LI e1 HCS hring hr2 K hch hrr HOq;go_wp2_with fail;refine HLI.out.mono ?_;rintro e w3 ⟨rfl,rfl⟩;go_wp2_with fail;refine (LC.out _).mono ?_;rintro e w4 ⟨aT,cT,rfl,oT,hb4⟩;obtain ⟨gT,tlT,rfl,hgT,KT,hPc,hcTm,hcTl⟩:=lG oT hP1;have HKT:=Na KT;have HB4:=Na hb4;clear oT KT hb4 q0 HLI LC;go_wp2_with fail;clear HST LE KG;obtain ⟨rl,hrl⟩:∃ rl,rl=s.length - at0:=⟨_,rfl⟩;obtain ⟨rc,hrc⟩:∃ rc,rc=c - at0:=⟨_,rfl⟩;rw [← hrl,← hrc];have hrl1:1≤rl:=by omega
    have hrlP:rl≤P:=by omega
    obtain ⟨r,hr⟩:∃ r,r=s.drop at0:=⟨_,rfl⟩;rw [← hr] at HRG R2;have HRL:Hid (r.length=rl):=by rw [Hid,hr,List.length_drop,hrl]
    have hgd:∀ k:Nat,r.getD k 0=s.getD (at0+k) 0:=fun k=>by rw [hr,List.getD,List.getD,List.getElem?_drop]
    have HGC:Hid (∀ (j:Nat) (wr:World),j<rl→Touch w4 wr gT (gT+1)→wr.cell? ⟨g,at0+j,none⟩=some (.int .i64 ((r.getD j 0:Nat):Int))):=fun j wr hj ht=>by
     have hgq:=HKq.out.lt;have:=kd ((HKq.out.same HB4.out).touch ht (.inl (by omega))) (j:=at0+j) (by rw [pL];omega)
     rw [this,pP,hgd]
    have HRP:Hid (∀ j,j<rl→r.getD j 0<P):=fun j hj=>HRG.out.lt _ (kh (by rw [HRL.out];exact hj))
    have HTS:Hid (∀ k,fU P r (k+1)=(fU P r k).set (r.getD ((k+rl - 1) % rl) 0) ((r.getD k 0:Nat):Int)):=fun k=>by rw [fU,HRL.out]
    have HT0:Hid (fU P r 0=eD P):=rfl;have HTL:=Na (fun k=>sR P r k)
    clear hrl hrc hr hgd hal al hsl hs0 hnc hcm hcl hml HKq
    go_loopw [41] (fun kv wr=>∃ k:Nat,k≤rl∧kv=.int .i64 k∧Hid (Blk wr gT (ae (fU P r k) ++ tlT) 2)∧Hid (Touch w4 wr gT (gT+1))) (fun kv _=>rl - (intOf kv).toNat)
    case atStart=>exact ⟨0,Nat.zero_le _,rfl,by rw [Hid,HT0.out];exact HKT.out,Touch.refl _ _ _⟩
    case round =>
     clear HT0 HKT;obtain ⟨k,hk,rfl,hK,hT⟩:=hrel;have k0:(0:Int)≤(k:Int):=Int.natCast_nonneg _
     by_cases hlt:k<rl
     · have hki:(k:Int)<(rl:Int):=by omega
       obtain ⟨J,hJ⟩:∃ J,J=(k+rl - 1) % rl:=⟨_,rfl⟩;have hJl:J<rl:=by rw [hJ];exact nx hlt
       have hJi:((k:Int)+(rl:Int) - 1) % (rl:Int)=(J:Int):=by
        rw [hJ,Int.natCast_emod]
        congr 1
        omega
       have j0:(0:Int)≤(J:Int):=Int.natCast_nonneg _;have hJil:(J:Int)<(rl:Int):=by omega
       have hrl0:¬ (rl:Int)=0:=by omega
       have hrlp:(0:Int)<(rl:Int):=by omega
       have hpre:(0:Int)≤(k:Int)+(rl:Int) - 1:=by omega
       have c1:=HGC.out k wr hlt hT.out;have c2:=HGC.out J wr hJl hT.out;have hts:=HTS.out k;rw [← hJ] at hts;have p1:=HRP.out k hlt;have p2:=HRP.out J hJl;obtain ⟨pk,hpk⟩:∃ x,x=r.getD k 0:=⟨_,rfl⟩;obtain ⟨pJ,hpJ⟩:∃ x,x=r.getD J 0:=⟨_,rfl⟩;rw [← hpk] at c1 p1 hts;rw [← hpJ] at c2 p2 hts;have hpl:pJ<(fU P r k).length:=by rw [HTL.out];exact p2
       have c3:=kd hK.out hpl;have c4:=hK.out.free pJ;have hpi:(pJ:Int)<(P:Int):=by omega
       have p0:(0:Int)≤(pJ:Int):=Int.natCast_nonneg _;have HK2:Hid (Blk (wr.setCell ⟨gT,pJ,none⟩ (.int .i64 pk)) gT (ae (fU P r (k+1)) ++ tlT) 2):=by
        rw [hts];exact sU hK.out hpl _
       have HT2:=Na (hT.out.trans (ar wr gT pJ (.int .i64 pk)));generalize (fU P r k).getD pJ 0=z3 at *
       clear hJ hpk hpJ hts hpl hK hT;go_wp2_with fail;go_roundw
       case rel=>exact ⟨k+1,by omega,by go_num,HK2,HT2⟩
       case measure=>simp [intOf];omega
     · obtain rfl:k=rl:=by omega
       obtain ⟨wE,hwE⟩:∃ W:World,W=wr:=⟨_,rfl⟩;subst hwE;have h4:=HB4.out.size;have BE:=Na (aE ((B1.out.trans (BQ.out.mono (by omega))).trans (HB4.out.mono (by omega))) hT.out (by omega) (by omega))
       have HOE:=Na (HO.out.same BE.out);obtain ⟨tz,hto⟩:∃ l,l=fU P r k:=⟨_,rfl⟩;have HTO:Hid (fU P r r.length=tz):=by rw [Hid,HRL.out,hto]
       have hTL:Hid (tz.length=P):=by rw [hto];exact HTL.out k
       rw [← hto] at hK;have hgOT:gO<gT:=by omega
       have hEs:gT<wE.heap.size:=hK.out.lt;have M0:=Na (BR ow tz);have MA:=Na (Fs ow tz);have MG:=Na (fun t x h=>DP (ow:=ow) (tz:=tz) (t:=t) (x:=x) h)
       have MS:=Na (fun t x h=>BD (ow:=ow) (tz:=tz) (t:=t) (x:=x) h)
       have ML:=Na (fun t=>Ey ow tz t)
       clear hto HGC HRP HTS HTL hT HB4 BQ h4;go_wp2_with fail
       go_loopw [64] (fun tv wr=>∃ t:Nat,t≤ow.length∧tv=.int .i64 t∧Hid (Blk wr gO (ae (fZ ow tz t)) 2)∧Hid (Touch wE wr gO (gO+1))) (fun tv _=>ow.length - (intOf tv).toNat)
       case atStart=>exact ⟨0,Nat.zero_le _,rfl,by rw [Hid,M0.out];exact HOE.out,Touch.refl _ _ _⟩
       case round =>
        clear M0 HOE;obtain ⟨t,ht,rfl,hB,hT⟩:=hrel;have t0:(0:Int)≤(t:Int):=Int.natCast_nonneg _
        by_cases hlt:t<ow.length
        · have hti:(t:Int)<(ow.length:Int):=by omega
          obtain ⟨x,hx⟩:∃ x,ow[t]? = some x:=⟨_,List.getElem?_eq_getElem hlt⟩;have hxm:=HW.out x (List.mem_of_getElem? hx);have hms:=MS.out t x hx;have hmg:=MG.out t x hx;have c1:wr.cell? ⟨gO,t,none⟩=some (.int .i64 x):=by
           rw [hB.out.cell];have hl':t<(fZ ow tz t).length:=by rw [ML.out];exact hlt
           rw [ex _ _ hl',bZ hmg]
          have HMG:=Na hmg;have KW:=hK.out.touch hT.out (.inr (by omega))
          clear hx hmg;obtain ⟨x1,x2⟩:=hxm
          by_cases hx0:0≤x
          · obtain ⟨q,rfl⟩:∃ q:Nat,x=(q:Int):=⟨x.toNat,by omega⟩
            rw [if_pos hx0,Int.toNat_natCast] at hms;have hqP:q<tz.length:=by rw [hTL.out];omega
            have c2:=kd KW (j:=q) hqP;have c3:=hB.out.free t;obtain ⟨y,hy⟩:∃ y,y=tz.getD q 0:=⟨_,rfl⟩;rw [← hy] at c2 hms;have HB2:Hid (Blk (wr.setCell ⟨gO,t,none⟩ (.int .i64 y)) gO (ae (fZ ow tz (t+1))) 2):=by
             rw [hms,nQ];exact hB.out.set t _
            have HT2:=Na (hT.out.trans (ar wr gO t (.int .i64 y)));clear hy hms hqP KW hB hT;go_wp2_with fail;go_roundw
            case rel=>exact ⟨t+1,by omega,by go_num,HB2,HT2⟩
            case measure=>simp [intOf];omega
          · rw [if_neg hx0,Jp HMG.out] at hms
            have HB2:Hid (Blk wr gO (ae (fZ ow tz (t+1))) 2):=by rw [Hid,hms];exact hB.out
            clear hms KW hB;have hx1:x<0:=by omega
            clear hx0;go_wp2_with fail;go_roundw
            case rel=>exact ⟨t+1,by omega,by go_num,HB2,hT⟩
            case measure=>simp [intOf];omega
        · obtain rfl:t=ow.length:=by omega
          rw [MA.out] at hB;go_wp2_with fail;refine bodyPost_ret (v:=.tuple #[]) (by simp [results,Tryz.results178,go_sem]) rfl ?_
          exact ⟨rfl,r,R2.out,HRG.out,by rw [HTO.out];exact hB.out,(Below.touch BE.out gO (gO+1)).trans hT.out⟩
end Go.Proofs.YtbknhgapjjaelaaGreatDoor
