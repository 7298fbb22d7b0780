/-
  Part 14 of what the proof stands on: lemmas and contracts, each with its conditions ahead of the colon.
-/
import Derived.Test.YtbknhgapjjaelaaGreatDoorPj01
import Derived.Deep.LoopGhost
import Derived.Test.YtbknhgapjjaelaaGreatDoorPj07
import Derived.Test.YtbknhgapjjaelaaGreatDoorPj08
import Derived.Test.YtbknhgapjjaelaaGreatDoorPj10
set_option maxRecDepth 10000
set_option maxHeartbeats 8000000
namespace Go.Proofs.YtbknhgapjjaelaaGreatDoor
set_option linter.unusedVariables false
set_option linter.unusedSimpArgs false
open Go.RowKit
def iT (C:Nat) (xs:List Int) (r:Nat) (cols:List Int) (j:Nat):List Int:=(cols.take j).map fun k=>aU C xs r k.toNat
theorem IZ (C:Nat) (xs:List Int) (r:Nat) {cols:List Int} {j k:Nat} (h:cols[j]? = some (k:Int)):iT C xs r cols (j+1)=iT C xs r cols j ++ [aU C xs r k]:=by
 unfold iT;rw [List.take_add_one,h,Option.toList_some,List.map_append,List.map_singleton,Int.toNat_natCast]
theorem KP (C:Nat) (xs:List Int) (r:Nat) (cols:List Int) (j:Nat):(iT C xs r cols j).length≤j:=by
 unfold iT;rw [List.length_map,List.length_take];omega
theorem Bh (C:Nat) (xs rows cols:List Int) (i:Nat):(ix C xs (rows.take i) cols).length≤i * cols.length:=by
 rw [sR,List.length_take];exact Nat.mul_le_mul (by omega) (Nat.le_refl _)
theorem Mt (w:World) (R C:Nat) (aA:Option Addr) (cA:Nat) (xA:List Int) (aB:Option Addr) (cB:Nat) (xB:List Int) (aR:Option Addr) (cR:Nat) (rows:List Int) (aK:Option Addr) (cK:Nat) (cols:List Int) (hRw:Rd w w.heap.size aR (ae rows)) (hCl:Rd w w.heap.size aK (ae cols)) (hrw:∀ z∈rows,∃ j:Nat,z=(j:Int)∧j<R) (hcl:∀ z∈cols,∃ j:Nat,z=(j:Int)∧j<C) (nR:rows.length≤6) (nC:cols.length≤6) (hA:Rd w w.heap.size aA (ae xA)) (hB:Rd w w.heap.size aB (ae xB)) (lA:xA.length=R * C) (lB:xB.length=R * C) (hR:R≤6) (hC:C≤6) :
 Calls Tryz.prog 170 #[.agg #[.int .i64 R,.int .i64 C,.slice aA xA.length cA,.slice aB xB.length cB],.slice aR rows.length cR,.slice aK cols.length cK] w (Ev rows.length cols.length (ix C xA rows cols) (ix C xB rows cols) w):=by
 have LA:=Oi (fun v (hb:Below w.heap.size w v) (i k:Nat) (hi:i<R) (hk:k<C)=>ou v R C i k aA cA xA (.slice aB xB.length cB) (hA.to hb) (by rw [lA];exact dH hi hk) (by rw [lA];exact Nat.le_trans (Nat.mul_le_mul hR hC) (by decide)))
 have LB:=Oi (fun v (hb:Below w.heap.size w v) (i k:Nat) (hi:i<R) (hk:k<C)=>At v R C i k (.slice aA xA.length cA) aB cB xB (hB.to hb) (by rw [lB];exact dH hi hk) (by rw [lB];exact Nat.le_trans (Nat.mul_le_mul hR hC) (by decide)))
 obtain ⟨row0,hrow⟩:∃ r,r=[Value.int .i64 R,.int .i64 C,.slice aA xA.length cA,.slice aB xB.length cB]:=⟨_,rfl⟩;have KB:=Blk.new w [.int .i64 R,.int .i64 C,.slice aA xA.length cA,.slice aB xB.length cB] 26;have HRow:=Oi hrow;have HRR:=Oi (fun v (hb:Below w.heap.size w v)=>hRw.to hb)
 have HCC:=Oi (fun v (hb:Below w.heap.size w v)=>hCl.to hb)
 have HRJ:Hid (∀ (i:Nat),i<rows.length→∃ r:Nat,r<R∧rows[i]? = some (r:Int)):=fun i hi=>by
  obtain ⟨j,e,hj⟩:=hrw _ (List.getElem_mem hi);exact ⟨j,hj,by rw [List.getElem?_eq_getElem hi,e]⟩
 have HCJ:Hid (∀ (i:Nat),i<cols.length→∃ r:Nat,r<C∧cols[i]? = some (r:Int)):=fun i hi=>by
  obtain ⟨j,e,hj⟩:=hcl _ (List.getElem_mem hi);exact ⟨j,hj,by rw [List.getElem?_eq_getElem hi,e]⟩
 have FL:Hid (∀ xs i,(ix C xs (rows.take i) cols).length≤i * cols.length):=fun xs i=>Bh C xs rows cols i
 have FR:Hid (∀ xs r j,(iT C xs r cols j).length≤j):=fun xs r j=>KP C xs r cols j
 have FS:Hid (∀ xs r j (k:Nat),cols[j]? = some (k:Int)→iT C xs r cols (j+1)=iT C xs r cols j ++ [aU C xs r k]):=fun xs r j k h=>IZ C xs r h
 have FO:Hid (∀ xs i (r:Nat),rows[i]? = some (r:Int)→ix C xs (rows.take (i+1)) cols=ix C xs (rows.take i) cols ++ iT C xs r cols cols.length):=fun xs i r h=>by
  rw [MJ C xs cols h];unfold iT;rw [List.take_length,Int.toNat_natCast]
 have F0:Hid (∀ xs,ix C xs (rows.take 0) cols=[]):=fun xs=>rfl
 have G0:Hid (∀ xs r,iT C xs r cols 0=[]):=fun xs r=>rfl
 clear hA hB lA lB hRw hCl hrw hcl
 go_enter Tryz.func170,Tryz.ntmps170;have HT0:Hid (TG w (((w.alloc (.cells #[.int .i64 R,.int .i64 C,.slice aA xA.length cA,.slice aB xB.length cB] 26)).alloc (.cells #[.int .i64 0,.int .i64 0,.slice none 0 0,.slice none 0 0] 26)).alloc (.cells #[.int .i64 rows.length,.int .i64 cols.length,.slice none 0 0,.slice none 0 0] 26)) row0 (w.heap.size+2) (w.heap.size+3) rows.length cols.length none 0 [] none 0 []):=by
  have b1:=ai w (.cells #[.int .i64 R,.int .i64 C,.slice aA xA.length cA,.slice aB xB.length cB] 26);have e1:=Blk.new (w.alloc (.cells #[.int .i64 R,.int .i64 C,.slice aA xA.length cA,.slice aB xB.length cB] 26)) [.int .i64 0,.int .i64 0,.slice none 0 0,.slice none 0 0] 26;have e2:=Blk.new ((w.alloc (.cells #[.int .i64 R,.int .i64 C,.slice aA xA.length cA,.slice aB xB.length cB] 26)).alloc (.cells #[.int .i64 0,.int .i64 0,.slice none 0 0,.slice none 0 0] 26)) [.int .i64 rows.length,.int .i64 cols.length,.slice none 0 0,.slice none 0 0] 26;rw [World.size_alloc] at e1;rw [World.size_alloc,World.size_alloc] at e2;refine ⟨((b1.alloc (by simp) _).alloc (by simp;omega) _),?_,e1.alloc _,e2,World.ownsRow_nil _ _ _ _,World.ownsRow_nil _ _ _ _,fun g h=>by simp [Value.ownBlock] at h,by simp⟩
  rw [hrow];exact (KB.alloc _).alloc _
 clear hrow KB;go_wp2_with fail
 go_loopw [19] (fun kv wr=>∃ (k:Nat) (a2:Option Addr) (c2:Nat) (a3:Option Addr) (c3:Nat) (l2 l3:List Int),k≤rows.length∧kv=.int .i64 k∧Hid (l2=ix C xA (rows.take k) cols)∧Hid (l3=ix C xB (rows.take k) cols)∧Hid (TG w wr row0 (w.heap.size+2) (w.heap.size+3) rows.length cols.length a2 c2 l2 a3 c3 l3)) (fun kv _=>rows.length - (intOf kv).toNat)
 case atStart=>exact ⟨0,none,0,none,0,[],[],Nat.zero_le _,rfl,(F0.out _).symm,(F0.out _).symm,HT0.out⟩
 case round =>
  clear HT0 F0;obtain ⟨k,a2,c2,a3,c3,l2,l3,hk,rfl,h2,h3,hT⟩:=hrel;have k0:(0:Int)≤(k:Int):=Int.natCast_nonneg _;obtain ⟨wo,hwo⟩:∃ W:World,W=wr:=⟨_,rfl⟩;subst hwo
  by_cases hlt:k<rows.length
  · have hki:(k:Int)<(rows.length:Int):=by omega
    obtain ⟨r,hrR,hrk⟩:=HRJ.out k hlt;obtain ⟨b,o,x,rfl,hbb,hck,hx⟩:=(HRR.out wo hT.out.B).get hlt;have hxr:x=(r:Int):=by
     have:=hx.out;rw [hrk] at this;injection this with this
     exact this.symm
    rw [hxr] at hck;have HO1:Hid (∀ xs,ix C xs (rows.take (k+1)) cols=ix C xs (rows.take k) cols ++ iT C xs r cols cols.length):=fun xs=>FO.out xs k r hrk
    have hz2:l2=l2 ++ iT C xA r cols 0:=by rw [G0.out,List.append_nil]
    have hz3:l3=l3 ++ iT C xB r cols 0:=by rw [G0.out,List.append_nil]
    have HZ2:=Oi hz2;have HZ3:=Oi hz3;have hn2:l2.length≤36:=by rw [h2.out];have:=FL.out xA k;have:k * cols.length≤6 * 6:=Nat.mul_le_mul (by omega) nC;omega
    have hn3:l3.length≤36:=by rw [h3.out];have:=FL.out xB k;have:k * cols.length≤6 * 6:=Nat.mul_le_mul (by omega) nC;omega
    clear hx hxr hrk hz2 hz3;go_wp2_with fail;clear hck
    go_loopw [25] (fun iv wr=>∃ (i:Nat) (a2:Option Addr) (c2:Nat) (a3:Option Addr) (c3:Nat) (m2 m3:List Int),i≤cols.length∧iv=.int .i64 i∧Hid (m2=l2 ++ iT C xA r cols i)∧Hid (m3=l3 ++ iT C xB r cols i)∧Hid (TG w wr row0 (w.heap.size+2) (w.heap.size+3) rows.length cols.length a2 c2 m2 a3 c3 m3)) (fun iv _=>cols.length - (intOf iv).toNat)
    case atStart=>exact ⟨0,a2,c2,a3,c3,l2,l3,Nat.zero_le _,rfl,HZ2.out,HZ3.out,hT.out⟩
    case round =>
     clear HZ2 HZ3 hT;obtain ⟨i,a2,c2,a3,c3,m2,m3,hi,rfl,g2,g3,hT⟩:=hrel
     by_cases hil:i<cols.length
     · have hii:(i:Int)<(cols.length:Int):=by omega
       have i0:(0:Int)≤(i:Int):=Int.natCast_nonneg _;obtain ⟨q,hqC,hqk⟩:=HCJ.out i hil;obtain ⟨b,o,x,rfl,hbb,hck,hx⟩:=(HCC.out wr hT.out.B).get hil;have hxq:x=(q:Int):=by
        have:=hx.out;rw [hqk] at this;injection this with this
        exact this.symm
       rw [hxq] at hck;have fs1:=FS.out xA r i q hqk;have fs2:=FS.out xB r i q hqk;have hn2:m2.length≤64:=by rw [g2.out,List.length_append];have:=FR.out xA r i;omega
       have hn3:m3.length≤64:=by rw [g3.out,List.length_append];have:=FR.out xB r i;omega
       clear hx hxq hqk;obtain ⟨x,hx⟩:∃ x,x=aU C xA r q:=⟨_,rfl⟩;obtain ⟨y,hy⟩:∃ y,y=aU C xB r q:=⟨_,rfl⟩;have LA0:=LA.out wr.drew (aq hT.out.B) r q hrR hqC;rw [← hx] at LA0 fs1;rw [← hy] at fs2;have LA1:=Oi LA0;have H2n:Hid (m2 ++ [x]=l2 ++ iT C xA r cols (i+1)):=by rw [Hid,fs1,g2.out,List.append_assoc]
       have H3n:Hid (m3 ++ [y]=l3 ++ iT C xB r cols (i+1)):=by rw [Hid,fs2,g3.out,List.append_assoc]
       have HY:=Oi hy;have hTs:=hT.out.sz;have HC:Hid (∀ w',Below (w.heap.size+3) wr w'→(w'.cell? ⟨w.heap.size,0,none⟩=some (.int .i64 R)∧w'.cell? ⟨w.heap.size,1,none⟩=some (.int .i64 C)∧w'.cell? ⟨w.heap.size,2,none⟩=some (.slice aA xA.length cA)∧w'.cell? ⟨w.heap.size,3,none⟩=some (.slice aB xB.length cB))∧w'.cell? ⟨w.heap.size+2,2,none⟩=some (.slice a2 m2.length c2)∧w'.frozen? ⟨w.heap.size+2,2,none⟩=false):=fun w' hb=>by
        have kb:=hT.out.KB.below hb (by omega)
        have ko:=hT.out.KO.below hb (by omega)
        rw [HRow.out] at kb;exact ⟨⟨kb.cell 0,kb.cell 1,kb.cell 2,kb.cell 3⟩,ko.cell 2,ko.free 2⟩
       have hOA:=Oi hT.out.A;obtain ⟨⟨r0,r1,r2,r3⟩,d1,d2⟩:=HC.out wr (Below.refl _ _);obtain ⟨⟨r0',r1',r2',r3'⟩,d1',d2'⟩:=HC.out wr.drew (aq (Below.refl _ _));clear fs1 fs2 hx hy g2 g3 LA0;go_wp2_with fail
       go_region_law
        ((first
          | (go_simp;refine LA1.out.mono ?_;rintro e w6 ⟨rfl,hb6⟩;dsimp only;have hb7:Below wr.heap.size wr w6:=aa (aq (Below.refl wr.heap.size wr)) hb6;have hOA6:=aD hOA.out hb7;obtain ⟨_,f1,f2⟩:=HC.out w6 (hb7.mono hTs);obtain ⟨_,f3,f4⟩:=HC.out (w6.alloc (.cells #[.int .i64 x] 2)) ((hb7.mono hTs).alloc (Nat.le_trans hTs hb7.size) _))
          | (refine fc (wr:=w6) (by rfl) _ _ 24 (by rfl) (w.heap.size+3) 2 (.int .i64 0) 8 Tryz.underlying24 aZ (by rfl) _ m2.length (ae m2) (by rfl) hOA6 (.int .i64 x) rfl (by rfl) (by decide) (by omega) (Nat.le_trans hTs hb7.size) ?_;intro g8 c8 w8 ho8 hg8 hn8;have hb8:Below (w.heap.size+3) wr w8:=(hb7.mono hTs).trans (ah (Below.refl (w.heap.size+3) w6) hOA6 hg8 (Nat.le_refl _) (Nat.le_trans hTs hb7.size));obtain ⟨_,f5,f6⟩:=HC.out w8 hb8)))
       all_goals
        have hT2:=Oi ((hT.out.call (by omega) (by omega) hb7).snocA (x:=x) (by omega) (by omega) ho8 hg8 hn8)
        clear hb6 hb7 hOA6 f1 f2 f3 f4 ho8 hg8 hn8 hb8 f5 f6 d1 d2 r0 r1 r2 r3 r0' r1' r2' r3' d1' d2' HC hOA LA1 hT;obtain ⟨wz,hwz⟩:∃ W:World,W=w8.setCell ⟨w.heap.size+2,2,none⟩ (.slice (some ⟨g8,0,none⟩) (m2.length+1) c8):=⟨_,rfl⟩;rw [← hwz] at hT2;have LB0:=LB.out wz.drew (aq hT2.out.B) r q hrR hqC;rw [← HY.out] at LB0;have LB1:=Oi LB0;have hTs:=hT2.out.sz;have HC:Hid (∀ w',Below (w.heap.size+3) wz w'→(w'.cell? ⟨w.heap.size,0,none⟩=some (.int .i64 R)∧w'.cell? ⟨w.heap.size,1,none⟩=some (.int .i64 C)∧w'.cell? ⟨w.heap.size,2,none⟩=some (.slice aA xA.length cA)∧w'.cell? ⟨w.heap.size,3,none⟩=some (.slice aB xB.length cB))∧w'.cell? ⟨w.heap.size+2,3,none⟩=some (.slice a3 m3.length c3)∧w'.frozen? ⟨w.heap.size+2,3,none⟩=false):=fun w' hb=>by
         have kb:=hT2.out.KB.below hb (by omega)
         have ko:=hT2.out.KO.below hb (by omega)
         rw [HRow.out] at kb;exact ⟨⟨kb.cell 0,kb.cell 1,kb.cell 2,kb.cell 3⟩,ko.cell 3,ko.free 3⟩
        have hOA:=Oi hT2.out.C;rw [← hwz];obtain ⟨⟨r0,r1,r2,r3⟩,d1,d2⟩:=HC.out wz (Below.refl _ _);obtain ⟨⟨r0',r1',r2',r3'⟩,d1',d2'⟩:=HC.out wz.drew (aq (Below.refl _ _));clear hwz hck LB0;go_wp2_with fail
        go_region_law
         ((first
           | (go_simp;refine LB1.out.mono ?_;rintro e w6 ⟨rfl,hb6⟩;dsimp only;have hb7:Below wz.heap.size wz w6:=aa (aq (Below.refl wz.heap.size wz)) hb6;have hOA6:=aD hOA.out hb7;obtain ⟨_,f1,f2⟩:=HC.out w6 (hb7.mono hTs);obtain ⟨_,f3,f4⟩:=HC.out (w6.alloc (.cells #[.int .i64 y] 2)) ((hb7.mono hTs).alloc (Nat.le_trans hTs hb7.size) _))
           | (refine fc (wr:=w6) (by rfl) _ _ 24 (by rfl) (w.heap.size+3) 2 (.int .i64 0) 8 Tryz.underlying24 aZ (by rfl) _ m3.length (ae m3) (by rfl) hOA6 (.int .i64 y) rfl (by rfl) (by decide) (by omega) (Nat.le_trans hTs hb7.size) ?_;intro g9 c9 w9 ho9 hg9 hn9;have hb8:Below (w.heap.size+3) wz w9:=(hb7.mono hTs).trans (ah (Below.refl (w.heap.size+3) w6) hOA6 hg9 (Nat.le_refl _) (Nat.le_trans hTs hb7.size));obtain ⟨_,f5,f6⟩:=HC.out w9 hb8)))
        all_goals
         have hT3:=Oi ((hT2.out.call (by omega) (by omega) hb7).snocB (x:=y) (by omega) (by omega) ho9 hg9 hn9)
         clear hb6 hb7 hOA6 f1 f2 f3 f4 ho9 hg9 hn9 hb8 f5 f6 d1 d2 r0 r1 r2 r3 r0' r1' r2' r3' d1' d2' HC hOA LB1 hT2;go_wp2_with fail;go_roundw
         case rel=>exact ⟨i+1,_,_,_,_,m2 ++ [x],m3 ++ [y],by omega,by go_num,H2n.out,H3n.out,hT3⟩
         case measure=>first | (simp [intOf];done) | (simp [intOf];omega)
     · obtain rfl:i=cols.length:=by omega
       have E2:Hid (m2=ix C xA (rows.take (k+1)) cols):=by rw [Hid,HO1.out,← h2.out];exact g2.out
       have E3:Hid (m3=ix C xB (rows.take (k+1)) cols):=by rw [Hid,HO1.out,← h3.out];exact g3.out
       clear g2 g3 h2 h3;go_wp2_with fail;go_roundw
       case rel=>exact ⟨k+1,_,_,_,_,m2,m3,by omega,by go_num,E2,E3,hT⟩
       case measure=>first | (simp [intOf];done) | (simp [intOf];omega)
  · obtain rfl:k=rows.length:=by omega
    have R2:=Oi (ay hT.out.A (Nat.le_refl _));have R3:=Oi (ay hT.out.C (Nat.le_refl _));rw [List.take_length] at h2 h3;rw [h2.out] at R2;rw [h3.out] at R3;have e2:l2.length=(ix C xA rows cols).length:=by rw [h2.out]
    have e3:l3.length=(ix C xB rows cols).length:=by rw [h3.out]
    have H23:=Oi (And.intro e2 e3);have HL2:=Oi h2.out;have HL3:=Oi h3.out;have KO:=hT.out.KO;have KR:=hT.out.KR;have k0':wo.cell? ⟨w.heap.size+2,0,none⟩=some (.int .i64 rows.length):=KO.cell 0;have k1':wo.cell? ⟨w.heap.size+2,1,none⟩=some (.int .i64 cols.length):=KO.cell 1;have k2':wo.cell? ⟨w.heap.size+2,2,none⟩=some (.slice a2 l2.length c2):=KO.cell 2;have k3':wo.cell? ⟨w.heap.size+2,3,none⟩=some (.slice a3 l3.length c3):=KO.cell 3;have y0:wo.cell? ⟨w.heap.size+1,0,none⟩=some (.int .i64 0):=KR.cell 0;have y1:wo.cell? ⟨w.heap.size+1,1,none⟩=some (.int .i64 0):=KR.cell 1;have y2:wo.cell? ⟨w.heap.size+1,2,none⟩=some (.slice none 0 0):=KR.cell 2;have y3:wo.cell? ⟨w.heap.size+1,3,none⟩=some (.slice none 0 0):=KR.cell 3;have f0:=KR.free 0;have f1:=KR.free 1;have f2:=KR.free 2;have f3:=KR.free 3;have HKR:=Oi KR;have HT:=hT;clear KO KR h2 h3 e2 e3 hT;go_wp2_with fail;obtain ⟨wz,hwz⟩:∃ Y,Y=(((wo.setCell ⟨w.heap.size+1,0,none⟩ (.int .i64 rows.length)).setCell ⟨w.heap.size+1,1,none⟩ (.int .i64 cols.length)).setCell ⟨w.heap.size+1,2,none⟩ (.slice a2 l2.length c2)).setCell ⟨w.heap.size+1,3,none⟩ (.slice a3 l3.length c3):=⟨_,rfl⟩;have KZ:Blk wz (w.heap.size+1) [.int .i64 rows.length,.int .i64 cols.length,.slice a2 l2.length c2,.slice a3 l3.length c3] 26:=by rw [hwz];exact (((HKR.out.set 0 (.int .i64 rows.length)).set 1 (.int .i64 cols.length)).set 2 (.slice a2 l2.length c2)).set 3 (.slice a3 l3.length c3)
    have OA:wz.ownsRow (w.heap.size+3) 2 1 (.slice a2 l2.length c2) l2.length (ae l2):=by
     rw [hwz];exact aP (aP (aP (aP HT.out.A (dh _ _ _ _) (by omega)) (dh _ _ _ _) (by omega)) (dh _ _ _ _) (by omega)) (dh _ _ _ _) (by omega)
    have OB:wz.ownsRow (w.heap.size+3) 2 1 (.slice a3 l3.length c3) l3.length (ae l3):=by
     rw [hwz];exact aP (aP (aP (aP HT.out.C (dh _ _ _ _) (by omega)) (dh _ _ _ _) (by omega)) (dh _ _ _ _) (by omega)) (dh _ _ _ _) (by omega)
    have BZ:Below w.heap.size w wz:=by rw [hwz];exact aw (aw (aw (aw HT.out.B (by omega) _ _) (by omega) _ _) (by omega) _ _) (by omega) _ _
    have RA:=ay OA (Nat.le_refl _);have RB:=ay OB (Nat.le_refl _);obtain ⟨e2,e3⟩:=H23.out;rw [← hwz];clear hwz k0' k1' k2' k3' y0 y1 y2 y3 f0 f1 f2 f3 R2 R3;have y0:wz.cell? ⟨w.heap.size+1,0,none⟩=some (.int .i64 rows.length):=KZ.cell 0;have y1:wz.cell? ⟨w.heap.size+1,1,none⟩=some (.int .i64 cols.length):=KZ.cell 1;have y2:wz.cell? ⟨w.heap.size+1,2,none⟩=some (.slice a2 l2.length c2):=KZ.cell 2;have y3:wz.cell? ⟨w.heap.size+1,3,none⟩=some (.slice a3 l3.length c3):=KZ.cell 3;refine bodyPost_ret (v:=.agg #[.int .i64 rows.length,.int .i64 cols.length,.slice a2 l2.length c2,.slice a3 l3.length c3]) (by simp [results,Tryz.results170,go_sem,y0,y1,y2,y3]) rfl ?_
    have hl2:=HL2.out;have hl3:=HL3.out;subst hl2 hl3;exact ⟨a2,c2,a3,c3,rfl,RA,RB,BZ,fun b hb=>by have:=(OA.lt b.block (by simp [Value.ownBlock,hb])).1;omega,fun b hb=>by have:=(OB.lt b.block (by simp [Value.ownBlock,hb])).1;omega⟩
def rE (l:List Int) (n:Nat):Prop:=∀ z∈l,∃ j:Nat,z=(j:Int)∧j<n
theorem rL {list places:List Int}:∀ {n:Nat},(∃ j:Nat,(j:Int)∈places∧j<n)→(eM list places n).length<n
 | 0,⟨_,_,h⟩=>by omega
 | n+1,⟨j,hm,hj⟩=>by
   rw [tQ]
   by_cases e:bH places (n:Int)=true
   · rw [if_pos e]
     have:=nm list places n;omega
   · rw [if_neg e]
     have hne:j≠n:=by
      rintro rfl;exact e (jS.2 hm)
     have:=rL (list:=list) (places:=places) (n:=n) ⟨j,hm,by omega⟩;rw [List.length_append];simp;omega
def tf (C:Nat) (xA rows cols:List Int):List Int:=fl rows.length cols.length (ix C xA rows cols) rows.length
def vR (C:Nat) (xB rows cols:List Int):List Int:=fl cols.length rows.length (aG rows.length cols.length (ix C xB rows cols) (cols.length * rows.length)) cols.length
def ja (C:Nat) (xA rows cols:List Int):List Int:=eM rows (tf C xA rows cols) rows.length
def mq (C:Nat) (xA xB rows cols:List Int):List Int:=eM cols (vR C xB (ja C xA rows cols) cols) cols.length
def pt (C:Nat) (xA xB rows cols:List Int):Bool:=decide ((tf C xA rows cols).length+(vR C xB (ja C xA rows cols) cols).length=0)
def jD (C:Nat) (xA xB:List Int):Nat→List Int→List Int→List Int × List Int
 | 0,r,c=>(r,c)
 | f+1,r,c=>if pt C xA xB r c=true then (ja C xA r c,mq C xA xB r c) else jD C xA xB f (ja C xA r c) (mq C xA xB r c)
theorem Lf {C n:Nat} {xA rows cols:List Int} (h:rE rows n):rE (ja C xA rows cols) n:=fun z hz=>h z (ve (Nat.le_refl _) hz)
theorem Le {C n:Nat} {xA xB rows cols:List Int} (h:rE cols n):rE (mq C xA xB rows cols) n:=fun z hz=>h z (ve (Nat.le_refl _) hz)
theorem uG (C:Nat) (xA rows cols:List Int):(ja C xA rows cols).length≤rows.length:=nm _ _ _
theorem uF (C:Nat) (xA xB rows cols:List Int):(mq C xA xB rows cols).length≤cols.length:=nm _ _ _
theorem Dp {C:Nat} {xA xB rows cols:List Int} (h:pt C xA xB rows cols=false):(ja C xA rows cols).length+(mq C xA xB rows cols).length<rows.length+cols.length:=by
 unfold pt at h;rw [decide_eq_false_iff_not] at h;have hR:=uG C xA rows cols;have hC:=uF C xA xB rows cols
 by_cases h1:(tf C xA rows cols).length=0
 · have h2:(vR C xB (ja C xA rows cols) cols)≠[]:=by
     intro e;rw [e,h1] at h;exact h rfl
   obtain ⟨z,hz⟩:=List.exists_mem_of_ne_nil _ h2;obtain ⟨j,rfl,hj⟩:=wh hz;have:=rL (list:=cols) (places:=vR C xB (ja C xA rows cols) cols) (n:=cols.length) ⟨j,hz,hj⟩;have e:(mq C xA xB rows cols).length<cols.length:=this;omega
 · have h2:tf C xA rows cols≠[]:=by intro e;rw [e] at h1;simp at h1
   obtain ⟨z,hz⟩:=List.exists_mem_of_ne_nil _ h2;obtain ⟨j,rfl,hj⟩:=wh hz;have:=rL (list:=rows) (places:=tf C xA rows cols) (n:=rows.length) ⟨j,hz,hj⟩;have e:(ja C xA rows cols).length<rows.length:=this;omega
theorem Gf {C:Nat} {xA xB rows cols:List Int} {f:Nat} (h:pt C xA xB rows cols=true):jD C xA xB (f+1) rows cols=(ja C xA rows cols,mq C xA xB rows cols):=by
 rw [jD,if_pos h]
theorem Ge {C:Nat} {xA xB rows cols:List Int} {f:Nat} (h:pt C xA xB rows cols=false):jD C xA xB (f+1) rows cols=jD C xA xB f (ja C xA rows cols) (mq C xA xB rows cols):=by
 rw [jD,if_neg (by rw [h];decide)]
def jT (R C:Nat) (xA xB:List Int):List Int × List Int:=jD C xA xB 13 (eL R) (eL C)
theorem xN (w:World) (a1:Option Addr) (c1:Nat) (xs:List Int) (a2:Option Addr) (c2:Nat) (ps:List Int) (h1:Rd w w.heap.size a1 (ae xs)) (h2:Rd w w.heap.size a2 (ae ps)) (hn:xs.length≤64) (hp:ps.length≤64) :
 Calls Tryz.prog 172 #[.slice a1 xs.length c1,.slice a2 ps.length c2] w fun e w'=>∃ a' c',e=.returned (.slice a' (eM xs ps xs.length).length c')∧Rd w' w'.heap.size a' (ae (eM xs ps xs.length))∧Below w.heap.size w w':=by
 have HO:=Oi (bz w 2);have HB0:=Oi (ai w (.cells #[] 2));have R1:=Oi h1;have LC:=Oi (fun (v:World) (hb:Below w.heap.size w v) (x:Int)=>gg v a2 c2 ps x (h2.to hb) (by omega))
 have HS:=Oi (fun n=>tQ xs ps n)
 have HL:=Oi (fun n=>nm xs ps n)
 have h0:Hid (eM xs ps 0=[]):=rfl;clear h1 h2
 go_enter Tryz.func172,Tryz.ntmps172;go_wp2_with fail
 go_loopw [11,5] (fun iv ov wr=>∃ (i:Nat) (v:Value),i≤xs.length∧iv=.int .i64 i∧ov=v∧Hid (wr.ownsRow w.heap.size 2 1 v (eM xs ps i).length (ae (eM xs ps i)))∧Hid (Below w.heap.size w wr)) (fun iv _ _=>xs.length - (intOf iv).toNat)
 case atStart=>exact ⟨0,_,Nat.zero_le _,rfl,rfl,(by rw [h0.out];exact HO.out),HB0.out⟩
 case round =>
  clear HO HB0;obtain ⟨i,v,hi,rfl,rfl,ho,hw⟩:=hrel;have i0:(0:Int)≤(i:Int):=Int.natCast_nonneg _
  by_cases hlt:i<xs.length
  · have hii:(i:Int)<(xs.length:Int):=by omega
    obtain ⟨b,o,x,rfl,hbb,hck,hx⟩:=(R1.out.to hw.out).get hlt;have hs:=HS.out i;have hln:=HL.out i;have hgx:xs.getD i 0=x:=co hx.out;rw [hgx] at hs;have HSS:=Oi hs;have LC1:=Oi (LC.out wr hw.out (i:Int));have hsz:=hw.out.size;clear hs hgx hx R1 LC
    cases tc:bH ps (i:Int) with
    | true =>
      rw [tc] at LC1 HSS;rw [if_pos rfl] at HSS;go_wp2_with fail;refine LC1.out.mono ?_;rintro e w2 ⟨rfl,rfl⟩;go_wp2_with fail;go_roundw
      case rel=>exact ⟨i+1,_,by omega,by go_num,rfl,(by rw [Hid,HSS.out];exact ho.out),hw⟩
      case measure=>simp [intOf];omega
    | false =>
      rw [tc] at LC1 HSS;rw [if_neg (by decide)] at HSS
      go_wp2_with fail;refine LC1.out.mono ?_;rintro e w2 ⟨rfl,rfl⟩
      go_wp2_with (at_builtin;refine aQ _ rfl _ _ 24 rfl w.heap.size 2 (.int .i64 0) 8 Tryz.underlying24 aZ rfl _ _ _ rfl ho.out (.int .i64 x) rfl rfl (by omega) (by omega) hsz ?_)
      intro v8 w8 o8 g8 n8;have H8:Hid (w8.ownsRow w.heap.size 2 1 v8 (eM xs ps (i+1)).length (ae (eM xs ps (i+1)))):=by
       rw [Hid,HSS.out,bk,List.length_append];exact o8
      have B8:=Oi (ah hw.out ho.out g8 (Nat.le_refl _) hsz);clear o8 g8 n8;go_wp2_with fail;go_roundw
      case rel=>exact ⟨i+1,v8,by omega,by go_num,rfl,H8,B8⟩
      case measure=>simp [intOf];omega
  · obtain rfl:i=xs.length:=by omega
    obtain ⟨a',c',e',hcap,_⟩:=ba ho.out;subst e';have HRd:=Oi (ay ho.out (Nat.le_refl _));clear ho hcap;go_wp2_with fail;go_ret;exact ⟨a',c',rfl,HRd.out,hw.out⟩
theorem Eo (n:Nat):rE (eL n) n:=fun z hz=>by
 unfold eL at hz;obtain ⟨j,hj,rfl⟩:=List.mem_map.1 hz;exact ⟨j,rfl,List.mem_range.1 hj⟩
def qc:Value→Nat
 | .slice _ n _=>n
 | _=>0
def Lu (xs ys:List Int) (w:World) (e:Ending) (w':World):Prop :=
 ∃ a2 c2 a3 c3,e=.returned (.tuple #[.slice a2 xs.length c2,.slice a3 ys.length c3,.bool true])∧Rd w' w'.heap.size a2 (ae xs)∧Rd w' w'.heap.size a3 (ae ys)∧Below w.heap.size w w'
theorem zj (w:World) (R C:Nat) (aA:Option Addr) (cA:Nat) (xA:List Int) (aB:Option Addr) (cB:Nat) (xB:List Int) (hG:cZ R C xA xB=true) (hA:Rd w w.heap.size aA (ae xA)) (hB:Rd w w.heap.size aB (ae xB)) :
 Calls Tryz.prog 126 #[.agg #[.int .i64 R,.int .i64 C,.slice aA xA.length cA,.slice aB xB.length cB]] w (Lu (jT R C xA xB).1 (jT R C xA xB).2 w):=by
 have hG':=hG;obtain ⟨R',C',e1,e2,r1,r6,c1,c6,lA,lB,-,-⟩:=eH hG';obtain rfl:R=R':=Int.ofNat.inj e1;obtain rfl:C=C':=Int.ofNat.inj e2;have hRC:R * C≤36:=Nat.le_trans (Nat.mul_le_mul r6 c6) (by decide)
 have B1:=Oi (ai w (.cells #[.int .i64 R,.int .i64 C,.slice aA xA.length cA,.slice aB xB.length cB] 26));have KG:=Oi (Blk.new w [.int .i64 R,.int .i64 C,.slice aA xA.length cA,.slice aB xB.length cB] 26);have LV:=Oi (fun v (hb:Below w.heap.size w v)=>ef v R C aA cA xA aB cB xB ⟨hA.to hb,hB.to hb⟩ (by omega) (by omega))
 have LO:=Oi (fun v (hb:Below w.heap.size w v) a2 c2 (rows:List Int) a3 c3 (cols:List Int) (h2:Rd v v.heap.size a2 (ae rows)) (h3:Rd v v.heap.size a3 (ae cols)) (i2:rE rows R) (i3:rE cols C) (n2:rows.length≤6) (n3:cols.length≤6)=>Mt v R C aA cA xA aB cB xB a2 c2 rows a3 c3 cols h2 h3 i2 i3 n2 n3 (hA.to hb) (hB.to hb) lA lB r6 c6)
 have LR:=Oi (fun v=>gi v R (by omega))
 have LC:=Oi (fun v=>gi v C (by omega))
 rw [hG] at LV;have HC:Hid (∀ w',Below (w.heap.size+1) (w.alloc (.cells #[.int .i64 R,.int .i64 C,.slice aA xA.length cA,.slice aB xB.length cB] 26)) w'→w'.cell? ⟨w.heap.size,0,none⟩=some (.int .i64 R)∧w'.cell? ⟨w.heap.size,1,none⟩=some (.int .i64 C)∧w'.cell? ⟨w.heap.size,2,none⟩=some (.slice aA xA.length cA)∧w'.cell? ⟨w.heap.size,3,none⟩=some (.slice aB xB.length cB)):=fun w' hb=>by
  have k:=KG.out.below hb (by omega)
  exact ⟨k.cell 0,k.cell 1,k.cell 2,k.cell 3⟩
 have HE:Hid (jT R C xA xB=jD C xA xB 13 (eL R) (eL C)):=rfl;obtain ⟨LL,hLL⟩:∃ l,l=jT R C xA xB:=⟨_,rfl⟩;rw [← hLL] at HE ⊢;clear hA hB hG hG' lA lB e1 e2 hLL KG;have hs0:(w.alloc (.cells #[.int .i64 R,.int .i64 C,.slice aA xA.length cA,.slice aB xB.length cB] 26)).heap.size=w.heap.size+1:=by simp
 have B1':Hid (Below (w.heap.size+1) (w.alloc (.cells #[.int .i64 R,.int .i64 C,.slice aA xA.length cA,.slice aB xB.length cB] 26)) (w.alloc (.cells #[.int .i64 R,.int .i64 C,.slice aA xA.length cA,.slice aB xB.length cB] 26))):=Below.refl _ _;obtain ⟨w0,hw0⟩:∃ X,X=w.alloc (.cells #[.int .i64 R,.int .i64 C,.slice aA xA.length cA,.slice aB xB.length cB] 26):=⟨_,rfl⟩
 go_enter Tryz.func126,Tryz.ntmps126;rw [← hw0] at HC B1 B1' hs0;obtain ⟨q0,q1,q2,q3⟩:=HC.out w0 B1'.out;rw [hw0] at q0 q1 q2 q3;go_wp2_with fail;rw [← hw0];clear hw0;refine (LV.out _ B1.out).mono ?_;rintro e w1 ⟨rfl,hb⟩;have BB1:=Oi (aa B1.out hb);have D1:Hid (Below (w.heap.size+1) w0 w1):=by rw [hs0] at hb;exact hb
 clear hb q0 q1 q2 q3 LV;obtain ⟨q0,q1,q2,q3⟩:=HC.out w1 D1.out;have hs1:w.heap.size+1≤w1.heap.size:=by have:=D1.out.size;omega
 have HD:=Oi (aq (Below.refl w1.heap.size w1));have HJ:Hid (∀ v,Below w1.heap.size w1 v→v.cell? ⟨w.heap.size,0,none⟩=some (.int .i64 R)∧v.cell? ⟨w.heap.size,1,none⟩=some (.int .i64 C)):=fun v hb=>by
  have:=HC.out v (D1.out.trans (hb.mono hs1));exact ⟨this.1,this.2.1⟩
 go_wp2_with fail
 go_region_held3 (fun w'=>w'.cell? ⟨w.heap.size,0,none⟩=some (.int .i64 R)∧w'.cell? ⟨w.heap.size,1,none⟩=some (.int .i64 C))
  (first | with_reducible exact HJ.out _ HD.out | with_reducible exact HJ.out _ hBA.out | with_reducible exact HJ.out _ hBD.out)
  (first | (go_at_call 168;with_reducible refine (LR.out _).mono ?_;rintro e wA ⟨aX,cX,rfl,oX,hbA⟩;have hBA:=Oi (aa (by first | exact HD.out | exact hBD.out) hbA)) | (go_at_call 168;with_reducible refine (LC.out _).mono ?_;rintro e wD ⟨aY,cY,rfl,oY,hbD⟩;have hBD:=Oi (aa (by first | exact HD.out | exact hBA.out) hbD)))
 all_goals first
  | (have hX:=Oi (ay (aD oX hbD) (Nat.le_refl _));have hY:=Oi (ay oY (Nat.le_refl _));have hBF:=Oi hBD.out;clear hbA hbD hBA hBD oX oY;generalize wD=wF at *)
  | (have hY:=Oi (ay (aD oY hbA) (Nat.le_refl _));have hX:=Oi (ay oX (Nat.le_refl _));have hBF:=Oi hBA.out;clear hbA hbD hBA hBD oX oY;generalize wA=wF at *)
 all_goals
  have hBG:=Oi (D1.out.trans (hBF.out.mono hs1));clear hBF HJ HD D1 hs1 q0 q1 q2 q3 LR LC BB1 B1';have U1:=Oi (bG R);have U2:=Oi (bG C);go_wp2_with fail
  go_loopw [5,6] (fun rv cv wr=>∃ (a2:Option Addr) (c2:Nat) (rows:List Int) (a3:Option Addr) (c3:Nat) (cols:List Int) (f:Nat),rv=.slice a2 rows.length c2∧cv=.slice a3 cols.length c3∧Hid (Rd wr wr.heap.size a2 (ae rows))∧Hid (Rd wr wr.heap.size a3 (ae cols))∧Hid (rE rows R)∧Hid (rE cols C)∧rows.length≤R∧cols.length≤C∧Hid (rows.length+cols.length<f)∧Hid (LL=jD C xA xB f rows cols)∧Hid (Below (w.heap.size+1) w0 wr)) (fun rv cv _=>qc rv+qc cv)
  case atStart=>exact ⟨aX,cX,eL R,aY,cY,eL C,13,by rw [U1.out],by rw [U2.out],hX,hY,Eo R,Eo C,by rw [U1.out];exact Nat.le_refl _,by rw [U2.out];exact Nat.le_refl _,by rw [Hid,U1.out,U2.out];omega,HE,hBG⟩
  case round =>
   clear hX hY hBG HE U1 U2;obtain ⟨a2,c2,rows,a3,c3,cols,f,rfl,rfl,h2,h3,i2,i3,n2,n3,hf,hL,hB⟩:=hrel;obtain ⟨q0,q1,q2,q3⟩:=HC.out wr hB.out;have hsz:w.heap.size+1≤wr.heap.size:=by have:=hB.out.size;omega
   have Bw:=B1.out.trans (hB.out.mono (by omega))
   have LO1:=Oi (LO.out wr Bw a2 c2 rows a3 c3 cols h2.out h3.out i2.out i3.out (by omega) (by omega))
   obtain ⟨p1,hp1⟩:∃ l,l=ix C xA rows cols:=⟨_,rfl⟩;obtain ⟨p2,hp2⟩:∃ l,l=ix C xB rows cols:=⟨_,rfl⟩;have hl1:=Oi (sR C xA rows cols);obtain ⟨fst,hfst⟩:∃ l,l=tf C xA rows cols:=⟨_,rfl⟩;have hfw:fl rows.length cols.length p1 rows.length=fst:=by rw [hfst,hp1];rfl
   have hfn:fst.length≤6:=by rw [hfst];exact Nat.le_trans (ra _ _ _ _) (by omega)
   have HFW:=Oi hfw;have HFS:=Oi hfst;rw [← hp1] at LO1 hl1;rw [← hp2] at LO1;clear hp1 hp2 hfw hfst Bw;go_wp2_with fail;refine LO1.out.mono ?_;rintro e w2 ⟨b1,d1,b2,d2,rfl,y1,y2,hb2,-,-⟩;have LW:=yJ w2 rows.length cols.length b1 d1 p1 b2 p2.length d2 y1 (by rw [hl1.out];exact Nat.le_trans (Nat.mul_le_mul n2 n3) (by omega)) hl1.out (by omega) (by omega)
   rw [HFW.out] at LW;have HLW:=Oi LW;have HB2:=Oi (hB.out.trans (hb2.mono hsz));have X2:=Oi (h2.out.to hb2);have X3:=Oi (h3.out.to hb2);clear LW y1 y2 hb2 LO1 h2 h3 hB q0 q1 q2 q3 HFW;go_wp2_with fail;refine HLW.out.mono ?_;rintro e w3 ⟨a4,c4,rfl,x4,hb3⟩;have hs3:w.heap.size+1≤w2.heap.size:=by have:=HB2.out.size;omega
   have HB3:=Oi (HB2.out.trans (hb3.mono hs3));have Y2:=Oi (X2.out.to hb3);have Y3:=Oi (X3.out.to hb3);have LV1:=xN w3 a2 c2 rows a4 c4 fst Y2.out x4 (by omega) (by omega)
   obtain ⟨rw',hrw⟩:∃ l,l=ja C xA rows cols:=⟨_,rfl⟩;have hrl:eM rows fst rows.length=rw':=by rw [hrw,HFS.out];rfl
   rw [hrl] at LV1;have HLV:=Oi LV1;have HRW:=Oi hrw;have hrn:rw'.length≤rows.length:=by rw [hrw];exact uG _ _ _ _
   have hri:Hid (rE rw' R):=by rw [hrw];exact Lf i2.out
   have X4:=Oi x4;clear LV1 hrl hrw x4 hb3 HLW HB2 X2 X3;go_wp2_with fail;refine HLV.out.mono ?_;rintro e w4 ⟨a5,c5,rfl,x5,hb4⟩;have hs4:w.heap.size+1≤w3.heap.size:=by have:=HB3.out.size;omega
   have HB4:=Oi (HB3.out.trans (hb4.mono hs4));have Z3:=Oi (Y3.out.to hb4);have X5:=Oi x5;clear x5 hb4 HLV HB3 Y2 Y3 X4;obtain ⟨q0,q1,q2,q3⟩:=HC.out w4 HB4.out;have LO2:=Oi (LO.out w4 (B1.out.trans (HB4.out.mono (by omega))) a5 c5 rw' a3 c3 cols X5.out Z3.out hri.out i3.out (by omega) (by omega))
   obtain ⟨p3,hp3⟩:∃ l,l=ix C xA rw' cols:=⟨_,rfl⟩;obtain ⟨p4,hp4⟩:∃ l,l=ix C xB rw' cols:=⟨_,rfl⟩;have hl3:=Oi (sR C xA rw' cols);have hl4:=Oi (sR C xB rw' cols);obtain ⟨snd,hsnd⟩:∃ l,l=vR C xB rw' cols:=⟨_,rfl⟩;obtain ⟨p5,hp5⟩:∃ l,l=aG rw'.length cols.length p4 (cols.length * rw'.length):=⟨_,rfl⟩;obtain ⟨p6,hp6⟩:∃ l,l=aG rw'.length cols.length p3 (cols.length * rw'.length):=⟨_,rfl⟩;have hl5:Hid (p5.length=cols.length * rw'.length):=by rw [hp5];exact my _ _ _ _
   have hsw:fl cols.length rw'.length p5 cols.length=snd:=by rw [hsnd,hp5,hp4];rfl
   have hsn:snd.length≤6:=by rw [hsnd];exact Nat.le_trans (ra _ _ _ _) (by omega)
   have HSW:=Oi hsw;have HSS:=Oi hsnd;have H5:=Oi hp5;have H6:=Oi hp6;rw [← hp3] at LO2 hl3;rw [← hp4] at LO2 hl4;clear hp3 hp4 hp5 hp6 hsw hsnd;go_wp2_with fail;refine LO2.out.mono ?_;rintro e w5 ⟨b3,d3,b4,d4,rfl,y3,y4,hb5,-,-⟩;have LT:=jM w5 rw'.length cols.length b3 d3 p3 b4 d4 p4 y3 y4 hl3.out hl4.out (by omega) (by omega)
   rw [← H5.out,← H6.out] at LT;have HLT:=Oi LT;have hs5:w.heap.size+1≤w4.heap.size:=by have:=HB4.out.size;omega
   have HB5:=Oi (HB4.out.trans (hb5.mono hs5));have V3:=Oi (Z3.out.to hb5);have V5:=Oi (X5.out.to hb5);clear LT y3 y4 hb5 LO2 Z3 X5 HB4 q0 q1 q2 q3 H5 H6;go_wp2_with fail;refine HLT.out.mono ?_;rintro e w6 ⟨b5,d5,b6,d6,rfl,y5,y6,hb6,-,-⟩;have LW:=yJ w6 cols.length rw'.length b5 d5 p5 b6 p6.length d6 y5 (by rw [hl5.out];exact Nat.le_trans (Nat.mul_le_mul n3 hrn) (Nat.le_trans (Nat.mul_le_mul c6 (Nat.le_trans n2 r6)) (by omega))) hl5.out (by omega) (by omega)
   rw [HSW.out] at LW;have HLW:=Oi LW;have hs6:w.heap.size+1≤w5.heap.size:=by have:=HB5.out.size;omega
   have HB6:=Oi (HB5.out.trans (hb6.mono hs6));have T3:=Oi (V3.out.to hb6);have T5:=Oi (V5.out.to hb6);clear LW y5 y6 hb6 HLT V3 V5 HB5 HSW;go_wp2_with fail;refine HLW.out.mono ?_;rintro e w7 ⟨a7,c7,rfl,x7,hb7⟩;have hs7:w.heap.size+1≤w6.heap.size:=by have:=HB6.out.size;omega
   have HB7:=Oi (HB6.out.trans (hb7.mono hs7));have S3:=Oi (T3.out.to hb7);have S5:=Oi (T5.out.to hb7);have LV2:=xN w7 a3 c3 cols a7 c7 snd S3.out x7 (by omega) (by omega)
   obtain ⟨cw,hcw⟩:∃ l,l=mq C xA xB rows cols:=⟨_,rfl⟩;have hcl:eM cols snd cols.length=cw:=by rw [hcw,HSS.out,HRW.out];rfl
   rw [hcl] at LV2;have HLV:=Oi LV2;have hcn:cw.length≤cols.length:=by rw [hcw];exact uF _ _ _ _ _
   have hci:Hid (rE cw C):=by rw [hcw];exact Le i3.out
   have hq:pt C xA xB rows cols=decide (fst.length+snd.length=0):=by rw [HFS.out,HSS.out,HRW.out];rfl
   have HQS:Hid (fst.length+snd.length=0→LL=(rw',cw)):=fun h=>by
    have e:pt C xA xB rows cols=true:=by rw [hq];exact decide_eq_true h
    have hf':=hf.out;obtain ⟨f',rfl⟩:∃ f',f=f'+1:=⟨f - 1,by omega⟩;rw [hL.out,Gf e,HRW.out,hcw]
   have HQM:Hid (fst.length+snd.length≠0→rw'.length+cw.length<rows.length+cols.length∧LL=jD C xA xB (f - 1) rw' cw):=fun h=>by
    have e:pt C xA xB rows cols=false:=by rw [hq];exact decide_eq_false h
    have hf':=hf.out;obtain ⟨f',rfl⟩:∃ f',f=f'+1:=⟨f - 1,by omega⟩;have hsk:=Dp e;rw [hL.out,Ge e,HRW.out,hcw];exact ⟨hsk,rfl⟩
   clear LV2 hcl hcw x7 hb7 HLW HB6 T3 T5 hq hL HFS HSS;go_wp2_with fail;refine HLV.out.mono ?_;rintro e w8 ⟨a8,c8,rfl,x8,hb8⟩;have hs8:w.heap.size+1≤w7.heap.size:=by have:=HB7.out.size;omega
   have HB8:=Oi (HB7.out.trans (hb8.mono hs8));have Q5:=Oi (S5.out.to hb8);have X8:=Oi x8;clear x8 hb8 HLV HB7 S3 S5;have m1:(0:Int)≤(fst.length:Int):=Int.natCast_nonneg _;have m2:(0:Int)≤(snd.length:Int):=Int.natCast_nonneg _
   by_cases h0:fst.length+snd.length=0
   · have hz:((fst.length:Int)+(snd.length:Int))=0:=by omega
     have HL2:=Oi (HQS.out h0);clear HQS HQM;go_wp2_with fail;go_ret3;exact ⟨a5,c5,a8,c8,by rw [HL2.out];rfl,by rw [HL2.out];exact Q5.out,by rw [HL2.out];exact X8.out,B1.out.trans (HB8.out.mono (by omega))⟩
   · have hz:¬ ((fst.length:Int)+(snd.length:Int))=0:=by omega
     obtain ⟨hsk,hL2⟩:=HQM.out h0;have HL2:=Oi hL2;clear HQS HQM hL2;go_wp2_with fail;go_roundw
     case rel=>exact ⟨a5,c5,rw',a8,c8,cw,f - 1,rfl,rfl,Q5,X8,hri,hci,by omega,by omega,by have:=hf.out;show _<_;omega,HL2,HB8⟩
     case measure=>simp only [qc];omega
end Go.Proofs.YtbknhgapjjaelaaGreatDoor
